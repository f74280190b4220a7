/- The walk of NeedNone: it returns true, whatever it is asked. -/
import Derived.Test.YtbccpcpocbefgaaDoorNeedPl2
import Derived.Test.YtbccpcpocbefgaaDoorSame
namespace Go.Proofs.YtbccpcpocbefgaaDoor
open Go.ChangeShapes Go.WideShapes Go.ChangeAt Go.RowKit

theorem rdyE_nil {k : Int} : rdyE k [] = if k < 1 ∨ 16 < k then 1 else 0 := by
  unfold rdyE
  rw [if_neg (by simp)]
  by_cases h : k < 1 ∨ 16 < k
  · rw [if_pos h, if_pos h]
  · rw [if_neg h, if_neg h, if_neg (by simp)]
theorem seeds_len (l : List Nat) : (seedsOf l).length = l.length := List.length_map _

set_option maxHeartbeats 4000000 in
set_option maxRecDepth 100000 in
theorem walk_needNone (k : Int) (w : World) (hgn : Hnd w) (_ : (Lit.int .i64 k).wf = true) :
    Calls Tryd.prog 3 #[.int .i64 k] w fun x w' => x = .returned (.bool true) ∧ Lat w w' := by
  have HG := Lib.hid hgn
  have k0 := lacks_any k none 0 0 [] w (IntsAt.nil w)
  rw [rdyE_nil] at k0
  by_cases hk : k < 1 ∨ 16 < k
  · rw [if_pos hk, errv_pos (by omega)] at k0
    have HK0 := Lib.hid k0
    clear k0 hgn
    rcases hk with hk | hk
    · have d1 : decide (k < 1) = true := decide_eq_true hk
      clear hk
      go_enter Tryd.func3, Tryd.ntmps3
      go_wp2_with fail
      refine HK0.out.mono ?_
      rintro x w1 ⟨⟨la, lk, lc, rfl, -⟩, hb1⟩
      go_wp2_with fail
      go_ret
      exact ⟨rfl, hb1⟩
    · have d1 : decide (k < 1) = false := decide_eq_false (by omega)
      have d2 : decide (16 < k) = true := decide_eq_true hk
      clear hk
      go_enter Tryd.func3, Tryd.ntmps3
      go_wp2_with fail
      refine HK0.out.mono ?_
      rintro x w1 ⟨⟨la, lk, lc, rfl, -⟩, hb1⟩
      go_wp2_with fail
      go_ret
      exact ⟨rfl, hb1⟩
  rw [if_neg hk, errv_zero rfl] at k0
  obtain ⟨f, rfl⟩ : ∃ f : Nat, k = f := ⟨k.toNat, by omega⟩
  have hf1 : 1 ≤ f := by omega
  have hf16 : f ≤ 16 := by omega
  have hr0 : rdyE f [] = 0 := by rw [rdyE_nil, if_neg hk]
  have hl0 : (lackR f []).length = f := by
    have h1 := lack_len (k := f) (L := []) (by omega) (Bare.nil f)
    rw [rk_nil] at h1
    unfold lackR
    rw [if_pos hr0, Int.toNat_natCast, ofNats_len]
    exact h1
  -- all of them
  have hlt : ∀ i ∈ List.range f, i < f := fun i hi => List.mem_range.1 hi
  have hsl : (seedsOf (List.range f)).length = f := by rw [seeds_len, List.length_range]
  have hok := seeds_ok hlt hf16
  have hra := rdyE_of (f := f) (zs := seedsOf (List.range f)) (by omega) hf1 hf16 hok
  have hrow : rowsOf f (seedsOf (List.range f)) = (List.range f).map unit := rows_seedsOf f _ hlt
  have hrk : rk f (rowsOf f (seedsOf (List.range f))) = f := by
    rw [hrow]
    have := rk_range (k := f) (L := []) (by omega) (Bare.nil f)
    rwa [List.nil_append] at this
  have hla : (lackR f (seedsOf (List.range f))).length = 0 := by
    have h1 := lack_len (k := f) (by omega) (rowsOf_bare (k := f) hf1 hok)
    rw [hrk] at h1
    unfold lackR
    rw [if_pos hra, Int.toNat_natCast, ofNats_len]; omega
  have hfa : firstR f (seedsOf (List.range f)) = f ∧ firstE f (seedsOf (List.range f)) = 0 := by
    obtain ⟨F, e1, e2, e3, e4, _⟩ := first_full (f := f) (by omega) hf1 hf16 hok hrk
    rw [hsl] at e4
    exact ⟨by rw [e1]; omega, e2⟩
  -- all but the first
  have hokd : ∀ z ∈ (seedsOf (List.range f)).drop 1, 1 ≤ z ∧ z ≤ 10000 := fun z hz => hok z (List.mem_of_mem_drop hz)
  have hdl : ((seedsOf (List.range f)).drop 1).length = f - 1 := by rw [List.length_drop, hsl]
  have hfd : firstR f ((seedsOf (List.range f)).drop 1) = 0 ∧ firstE f ((seedsOf (List.range f)).drop 1) = 8 :=
    first_none (f := f) (by omega) hf1 hf16 hokd (fun h => by
      have := rk_len (k := f) (by omega) (rowsOf_bare (k := f) hf1 hokd)
      rw [h, rowsOf_len, hdl] at this
      omega)
  have HK0 := Lib.hid k0; have HL0 := Lib.hid hl0; have HSL := Lib.hid hsl; have HOK := Lib.hid hok; have HRA := Lib.hid hra; have HLA := Lib.hid hla; have HFA := Lib.hid hfa; have HFD := Lib.hid hfd; have HDL := Lib.hid hdl; have HOKD := Lib.hid hokd
  clear k0 hl0 hsl hok hra hla hfa hfd hdl hokd hrow hrk hr0 hlt hk hgn
  go_enter Tryd.func3, Tryd.ntmps3
  go_wp2_with fail
  refine HK0.out.mono ?_
  rintro x w1 ⟨⟨la, lk, lc, rfl, hl⟩, hb1⟩
  obtain rfl : f = lk := by rw [← hl.len]; exact HL0.out.symm
  have HB1 := Lib.hid hb1
  clear hl hb1 HK0 HL0
  go_wp2
  go_loopw [5, 6] (fun v i wr => ∃ j : Nat, j ≤ f ∧ i = .int .i64 ((j : Int) + 1) ∧ Hid (OwnInts wr w1.heap.size v (seedsOf (List.range j)) ∧ Lat w1 wr)) (fun _ i _ => 40 - (intOf i).toNat)
  case atStart => exact ⟨0, Nat.zero_le _, rfl, Own.nil _ _ _, Lat.refl _⟩
  case round =>
    obtain ⟨j, hj, rfl, hrel⟩ := hrel
    obtain ⟨hown, hlat⟩ := hrel.out
    by_cases hjf : j < f
    · have hn1 : (seedsOf (List.range j)).length < 1000000000000 := by rw [seeds_len, List.length_range]; omega
      have HO := Lib.hid hown; have HLT := Lib.hid hlat; have HN1 := Lib.hid hn1
      have dle : (j : Int) + 1 ≤ (f : Int) := by omega
      clear hrel hown hlat hn1
      go_wp2_with (at_builtin; refine app_int wr w1 w1.heap.size rfl (.tmp 31) (.tmp 33) rfl u5 _ ((j : Int) + 1) rfl HO.out rfl HN1.out rfl HLT.out ?_; intro v' w2 hown' hb' _)
      have ho2 : OwnInts w2 w1.heap.size v' (seedsOf (List.range (j + 1))) := by rw [List.range_succ, seedsOf_snoc]; exact hown'
      have HO2 := Lib.hid ho2; have HL2 := Lib.hid hb'
      clear hown' hb' ho2
      go_wp2
      go_roundw
      case rel => exact ⟨j + 1, by omega, by go_num, HO2.out, HL2.out⟩
      case measure => simp [intOf]; omega
    · obtain rfl : j = f := by omega
      obtain ⟨aa, ac, hv, hat⟩ := OwnInts.sliceN hown (fun z hz => by have := HOK.out z hz; omega) HSL.out
      subst hv
      obtain ⟨ab, ao, rfl, hcell⟩ := hat.row.at_ (by omega)
      have hcapm := hat.row.cap
      have hcaple := hat.row.le
      by_cases hac : ac = 1
      · subst hac
        have hj1 : j - 1 = 0 := by omega
        have hdr : IntsAt wr (some ⟨ab, ao, none⟩) 0 0 ((seedsOf (List.range j)).drop 1) :=
          ⟨HDL.out.trans hj1, ⟨Nat.le_refl _, Nat.zero_le _, fun hne => absurd rfl hne⟩, fun z hz => by have := HOKD.out z hz; omega⟩
        clear hj1
        have k7 := fun W (hW : Lat wr W) => lacks_any j _ j 1 (seedsOf (List.range j)) W (hat.keep hW)
        have k9 := fun W (hW : Lat wr W) => first_any j _ j 1 (seedsOf (List.range j)) W (hat.keep hW)
        have k11 := fun W (hW : Lat wr W) => first_any j _ 0 0 ((seedsOf (List.range j)).drop 1) W (hdr.keep hW)
        rw [HRA.out, errv_zero rfl] at k7
        rw [HFA.out.1, HFA.out.2, errv_zero rfl] at k9
        rw [HFD.out.1, HFD.out.2] at k11
        unfold maxLen at hcapm
        have K7 := Lib.hid k7; have K9 := Lib.hid k9; have K11 := Lib.hid k11; have HLT := Lib.hid (Lat.trans HB1.out hlat)
        have dff : ((j : Int) == (j : Int)) = true := beq_self_eq_true _
        have hac1 : (1 : Int) ≤ (j : Int) := by omega
        clear hrel hown hlat hat hdr k7 k9 k11 hcell
        go_wp2_with fail
        refine (K7.out _ (Lat.refl _)).mono ?_
        rintro x w7 ⟨⟨ma, mk, mc, rfl, hm⟩, hb7⟩
        obtain rfl : mk = 0 := by rw [← hm.len]; exact HLA.out
        have HB7 := Lib.hid hb7
        clear hm hb7
        go_wp2_with fail
        refine (K9.out _ HB7.out).mono ?_
        rintro x w8 ⟨rfl, hb8⟩
        have HB8 := Lib.hid (Lat.trans HB7.out hb8)
        clear hb8
        go_wp2_with fail
        refine (K11.out _ HB8.out).mono ?_
        rintro x w9 ⟨rfl, hb9⟩
        have HB9 := Lib.hid (Lat.trans HLT.out (Lat.trans HB8.out hb9))
        clear hb9
        go_wp2_with fail
        refine (sameErr_any 8 _ (HG.out.keep HB9.out)).mono ?_
        rintro x w10 ⟨rfl, hb10⟩
        have HB10 := Lib.hid (Lat.trans HB9.out hb10)
        clear hb10
        go_wp2_with fail
        go_ret
        exact ⟨rfl, HB10.out⟩
      · have hdr : IntsAt wr (some ⟨ab, ao + 1, none⟩) (j - 1) (ac - 1) ((seedsOf (List.range j)).drop 1) := by
          refine ⟨HDL.out, ⟨by omega, by omega, fun hne => ?_⟩, fun z hz => by have := HOKD.out z hz; omega⟩
          refine ⟨ab, ao + 1, rfl, fun i hi => ?_⟩
          have h1 := hcell (i + 1) (by omega)
          rw [List.getD_eq_getElem?_getD, List.getElem?_drop, show 1 + i = i + 1 by omega, ← List.getD_eq_getElem?_getD, Nat.add_assoc, Nat.add_comm 1 i]
          exact h1
        have k7 := fun W (hW : Lat wr W) => lacks_any j _ j ac (seedsOf (List.range j)) W (hat.keep hW)
        have k9 := fun W (hW : Lat wr W) => first_any j _ j ac (seedsOf (List.range j)) W (hat.keep hW)
        have k11 := fun W (hW : Lat wr W) => first_any j _ (j - 1) (ac - 1) ((seedsOf (List.range j)).drop 1) W (hdr.keep hW)
        rw [HRA.out, errv_zero rfl] at k7
        rw [HFA.out.1, HFA.out.2, errv_zero rfl] at k9
        rw [HFD.out.1, HFD.out.2] at k11
        unfold maxLen at hcapm
        have K7 := Lib.hid k7; have K9 := Lib.hid k9; have K11 := Lib.hid k11; have HLT := Lib.hid (Lat.trans HB1.out hlat)
        have dff : ((j : Int) == (j : Int)) = true := beq_self_eq_true _
        have hac1 : (1 : Int) ≤ (j : Int) := by omega
        clear hrel hown hlat hat hdr k7 k9 k11 hcell
        go_wp2_with fail
        refine (K7.out _ (Lat.refl _)).mono ?_
        rintro x w7 ⟨⟨ma, mk, mc, rfl, hm⟩, hb7⟩
        obtain rfl : mk = 0 := by rw [← hm.len]; exact HLA.out
        have HB7 := Lib.hid hb7
        clear hm hb7
        go_wp2_with fail
        refine (K9.out _ HB7.out).mono ?_
        rintro x w8 ⟨rfl, hb8⟩
        have HB8 := Lib.hid (Lat.trans HB7.out hb8)
        clear hb8
        go_wp2_with fail
        refine (K11.out _ HB8.out).mono ?_
        rintro x w9 ⟨rfl, hb9⟩
        have HB9 := Lib.hid (Lat.trans HLT.out (Lat.trans HB8.out hb9))
        clear hb9
        go_wp2_with fail
        refine (sameErr_any 8 _ (HG.out.keep HB9.out)).mono ?_
        rintro x w10 ⟨rfl, hb10⟩
        have HB10 := Lib.hid (Lat.trans HB9.out hb10)
        clear hb10
        go_wp2_with fail
        go_ret
        exact ⟨rfl, HB10.out⟩
end Go.Proofs.YtbccpcpocbefgaaDoor
