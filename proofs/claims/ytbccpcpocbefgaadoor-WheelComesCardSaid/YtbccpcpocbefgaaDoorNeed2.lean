/- The contracts of need.First, New, Lacks. -/
import Derived.Test.YtbccpcpocbefgaaDoorNeed
namespace Go.Proofs.YtbccpcpocbefgaaDoor
open Go.ChangeShapes Go.WideShapes Go.ChangeAt Go.RowKit

def ofNats (l : List Nat) : List Int := l.map Int.ofNat
theorem ofNats_snoc (l : List Nat) (i : Nat) : ofNats (l ++ [i]) = ofNats l ++ [(i : Int)] := by unfold ofNats; rw [List.map_append]; rfl
def firstR (k : Int) (zs : List Int) : Nat := if rdyE k zs = 0 then fstN k.toNat (rowsOf k.toNat zs) else 0
def firstE (k : Int) (zs : List Int) : Nat := if rdyE k zs ≠ 0 then rdyE k zs else if fstN k.toNat (rowsOf k.toNat zs) = 0 then 8 else 0

set_option maxHeartbeats 2000000 in
set_option maxRecDepth 100000 in
theorem first_any (k : Int) (a : Option Addr) (n cap : Nat) (zs : List Int) (w : World) (h : IntsAt w a n cap zs) :
    Calls Tryd.prog 9 #[.int .i64 k, .slice a n cap] w fun e w' => e = .returned (.tuple #[.int .i64 (firstR k zs), errv (firstE k zs)]) ∧ Lat w w' := by
  have hr := ready_any k a n cap zs w h
  by_cases h0 : rdyE k zs = 0
  · obtain ⟨h1, h2, h3, h4⟩ := rdyE_zero h0
    obtain ⟨f, rfl⟩ : ∃ f : Nat, k = f := ⟨k.toNat, by omega⟩
    obtain ⟨F, hF⟩ : ∃ F, F = fstN f (rowsOf f zs) := ⟨_, rfl⟩
    have hR : firstR f zs = F := by unfold firstR; rw [if_pos h0, Int.toNat_natCast, hF]
    have hE : firstE f zs = if F = 0 then 8 else 0 := by unfold firstE; rw [if_neg (by omega), Int.toNat_natCast, hF]
    rw [h0, errv_zero rfl] at hr
    rw [hR, hE]
    obtain ⟨EV, hEV⟩ : ∃ x, x = errv (if F = 0 then 8 else 0) := ⟨_, rfl⟩
    rw [← hEV]
    have HEV := Lib.hid hEV
    clear hEV
    have hl := h.len
    have hn60 : n ≤ 60 := by omega
    have hba := rowsOf_bare (k := f) (zs := zs) (by omega) h4
    have hti := fun j => (tab_st (k := f) (by omega) (hba.take j)).ti
    have hF0 : fstA f (rowsOf f zs) n 0 = F := by rw [hF]; unfold fstN; rw [rowsOf_len, hl]
    have H := Lib.hid h; have HR := Lib.hid hr; have HZ := Lib.hid h4; have HTI := Lib.hid hti; have HL := Lib.hid hl; have HF0 := Lib.hid hF0
    have hf1 : 1 ≤ f := by omega
    have hf16 : f ≤ 16 := by omega
    clear h hr h0 h1 h2 h3 h4 hR hE hl hti hba hF hF0
    go_enter Tryd.func9, Tryd.ntmps9
    go_wp2_with (first
      | (go_at_call 25; refine HR.out.mono ?_; rintro e w' ⟨rfl, rfl⟩)
      | (go_at_call 26; refine (newTable_any f _).mono ?_; rintro e w1 ⟨⟨p, b, rfl, hp, hb, ht⟩, hb1⟩))
    have HB := Lib.hid hb
    have hTab0 : TabAt w1 p b f (tabT f ((rowsOf f zs).take 0)) := ht
    have HT0 := Lib.hid hTab0; have HB1 := Lib.hid hb1
    clear hp hb ht hTab0 hb1
    go_loopw [8, 9, 19] (fun _ _ i wr => ∃ j : Nat, j ≤ n ∧ i = .int .i64 j ∧ Hid (fstA f (rowsOf f zs) (n - j) j = F ∧ TabAt wr p b f (tabT f ((rowsOf f zs).take j)) ∧ Lat w wr)) (fun _ _ i _ => n - (intOf i).toNat)
    case atStart => exact ⟨0, Nat.zero_le _, rfl, HF0.out, HT0.out, HB1.out⟩
    case round =>
      obtain ⟨j, hj, rfl, hrel⟩ := hrel
      by_cases hlt : j < n
      · obtain ⟨hfa, htab, hlat⟩ := hrel.out
        have hst : F = if rk f ((rowsOf f zs).take (j + 1)) = f then j + 1 else fstA f (rowsOf f zs) (n - (j + 1)) (j + 1) := by
          rw [← hfa, show n - j = (n - (j + 1)) + 1 by omega]; rfl
        obtain ⟨ab, ao, rfl, hc⟩ := (H.out.keep hlat).row.at_ (by omega)
        have c1 := hc j hlt
        have hm := HZ.out _ (getD_mem zs j (by rw [HL.out]; exact hlt))
        have hnx := tab_next (k := f) (zs := zs) j (by rw [HL.out]; exact hlt)
        obtain ⟨s, hs⟩ : ∃ s : Nat, zs.getD j 0 = (s : Int) := ⟨(zs.getD j 0).toNat, by omega⟩
        rw [hs] at c1 hm hnx
        have hrow : rowOf f (s : Int) = (bitsN (setZ f s), []) := by unfold rowOf; rw [Int.toNat_natCast]
        rw [hrow] at hnx
        have hs1 : 1 ≤ s := by omega
        have hs2 : s ≤ 10000 := by omega
        have hbl : bitsN (setZ f s) < 2 ^ f := by have := rowOf_lt f (s : Int) hf1 (by omega); rw [hrow] at this; exact this
        have hsz : ∀ z ∈ setZ f s, 0 ≤ z ∧ z < 16 := fun z hz => by have := setZ_lt f s hf1 hs1 z hz; omega
        obtain ⟨rkn, hrkn⟩ : ∃ r, r = rk f ((rowsOf f zs).take (j + 1)) := ⟨_, rfl⟩
        rw [← hrkn] at hst
        have HTB := Lib.hid htab; have HLT := Lib.hid hlat; have HNX := Lib.hid hnx; have HBL := Lib.hid hbl; have HSZ := Lib.hid hsz
        have HRK : Hid (rnkT (tabT f ((rowsOf f zs).take (j + 1))) f = rkn) := hrkn.symm
        have HST := Lib.hid hst
        clear hrel hfa htab hlat hc hm hs hrow hnx hbl hsz hst hrkn
        by_cases hfull : rkn = f
        · have d1 : ((rkn : Int) == (f : Int)) = true := by rw [hfull]; exact beq_self_eq_true _
          go_wp2_with (first
            | (go_at_call 28; refine (dropOf_any f s _ hf1 hf16 hs1 hs2).mono ?_; rintro e w2 ⟨oa, oc, rfl, hoi, hb2⟩)
            | (go_at_call 27; refine (nadd_any p b f _ _ _ _ _ _ (HTB.out.keep hb2) hoi hf16 (HTI.out j) HBL.out HSZ.out).mono ?_; rintro e w3 ⟨rfl, ht3, hf3⟩; rw [HNX.out] at ht3)
            | (go_at_call 29; refine (rank_tab p b f _ _ ht3).mono ?_; rw [HRK.out]; rintro e w' ⟨rfl, rfl⟩))
          have hl3 : Lat w w3 := hf3.lat_of (Lat.trans HLT.out hb2) (fun i e => by rw [e]; exact HB.out)
          have hFj : F = j + 1 := by rw [HST.out, if_pos hfull]
          have HL3 := Lib.hid hl3; have HFJ := Lib.hid hFj
          clear ht3 hf3 hl3 hoi hb2 hFj
          go_wp2
          go_ret2
          exact ⟨by rw [HEV.out, HFJ.out, if_neg (by omega), errv_zero rfl]; rfl, HL3.out⟩
        · have d1 : ((rkn : Int) == (f : Int)) = false := beq_eq_false_iff_ne.2 (by omega)
          go_wp2_with (first
            | (go_at_call 28; refine (dropOf_any f s _ hf1 hf16 hs1 hs2).mono ?_; rintro e w2 ⟨oa, oc, rfl, hoi, hb2⟩)
            | (go_at_call 27; refine (nadd_any p b f _ _ _ _ _ _ (HTB.out.keep hb2) hoi hf16 (HTI.out j) HBL.out HSZ.out).mono ?_; rintro e w3 ⟨rfl, ht3, hf3⟩; rw [HNX.out] at ht3)
            | (go_at_call 29; refine (rank_tab p b f _ _ ht3).mono ?_; rw [HRK.out]; rintro e w' ⟨rfl, rfl⟩))
          have hl3 : Lat w w3 := hf3.lat_of (Lat.trans HLT.out hb2) (fun i e => by rw [e]; exact HB.out)
          have hFj : fstA f (rowsOf f zs) (n - (j + 1)) (j + 1) = F := by rw [HST.out, if_neg hfull]
          have HL3 := Lib.hid hl3; have HFJ := Lib.hid hFj; have HT3 := Lib.hid ht3
          clear ht3 hf3 hl3 hoi hb2 hFj hfull
          go_roundw
          case rel => exact ⟨j + 1, by omega, by go_num, HFJ.out, HT3.out, HL3.out⟩
          case measure => simp [intOf]; omega
      · obtain rfl : j = n := by omega
        obtain ⟨hfa, htab, hlat⟩ := hrel.out
        have hF0 : F = 0 := by rw [← hfa, Nat.sub_self]; rfl
        have HLT := Lib.hid hlat; have HF1 := Lib.hid hF0
        clear hrel htab hlat hfa hF0
        go_wp2
        go_ret2
        exact ⟨by rw [HEV.out, HF1.out, if_pos rfl, errv_pos (by omega)]; rfl, HLT.out⟩
  · have hR : firstR k zs = 0 := by unfold firstR; rw [if_neg h0]
    have hE : firstE k zs = rdyE k zs := by unfold firstE; rw [if_pos h0]
    rw [hR, hE]
    rw [errv_pos h0] at hr ⊢
    have HR := Lib.hid hr
    clear h hr h0 hR hE
    go_enter Tryd.func9, Tryd.ntmps9
    go_wp2_with (go_at_call 25; refine HR.out.mono ?_; rintro e w' ⟨rfl, rfl⟩)
    go_ret2
    exact ⟨rfl, Lat.refl _⟩

def newR (k : Int) (zs : List Int) : List Int := if rdyE k zs = 0 then ofNats (newL k.toNat (rowsOf k.toNat zs) zs.length) else []
theorem newL_lt (k : Nat) (L : List Vec) : ∀ i, ∀ j ∈ newL k L i, j < i
  | 0, j, h => by cases h
  | i + 1, j, h => by
    unfold newL at h
    split at h
    · rcases List.mem_append.1 h with h | h
      · have := newL_lt k L i j h; omega
      · have := List.mem_singleton.1 h; omega
    · have := newL_lt k L i j h; omega
theorem newL_le (k : Nat) (L : List Vec) : ∀ i, (newL k L i).length ≤ i
  | 0 => Nat.le_refl _
  | i + 1 => by
    have ih := newL_le k L i
    unfold newL
    split
    · rw [List.length_append, List.length_singleton]; omega
    · omega
theorem lackL_le (k : Nat) (L : List Vec) : ∀ i, (lackL k L i).length ≤ i
  | 0 => Nat.le_refl _
  | i + 1 => by
    have ih := lackL_le k L i
    unfold lackL
    split
    · rw [List.length_append, List.length_singleton]; omega
    · omega
/-- a slice of numbers -/
theorem own_ints_at {w : World} {B : Nat} {v : Value} {l : List Nat} (h : OwnInts w B v (ofNats l)) (hl : ∀ i ∈ l, i < 1000) : ∃ a c, v = .slice a l.length c ∧ IntsAt w a l.length c (ofNats l) :=
  OwnInts.sliceN h (fun z hz => by
    obtain ⟨i, hi, rfl⟩ := List.mem_map.1 hz
    have := hl i hi
    show -9223372036854775808 ≤ (i : Int) ∧ (i : Int) ≤ 9223372036854775807
    omega) (by unfold ofNats; rw [List.length_map])

set_option maxHeartbeats 2000000 in
set_option maxRecDepth 100000 in
theorem new_any (k : Int) (a : Option Addr) (n cap : Nat) (zs : List Int) (w : World) (h : IntsAt w a n cap zs) :
    Calls Tryd.prog 13 #[.int .i64 k, .slice a n cap] w fun e w' => (∃ b m c, e = .returned (.tuple #[.slice b m c, errv (rdyE k zs)]) ∧ IntsAt w' b m c (newR k zs)) ∧ Lat w w' := by
  have hr := ready_any k a n cap zs w h
  by_cases h0 : rdyE k zs = 0
  · obtain ⟨h1, h2, h3, h4⟩ := rdyE_zero h0
    obtain ⟨f, rfl⟩ : ∃ f : Nat, k = f := ⟨k.toNat, by omega⟩
    have hR : newR f zs = ofNats (newL f (rowsOf f zs) zs.length) := by unfold newR; rw [if_pos h0, Int.toNat_natCast]
    rw [h0, errv_zero rfl] at hr ⊢
    have hl := h.len
    rw [hR, hl]
    have hn60 : n ≤ 60 := by omega
    have hba := rowsOf_bare (k := f) (zs := zs) (by omega) h4
    have hti := fun j => (tab_st (k := f) (by omega) (hba.take j)).ti
    have H := Lib.hid h; have HR := Lib.hid hr; have HZ := Lib.hid h4; have HTI := Lib.hid hti; have HL := Lib.hid hl
    have hf1 : 1 ≤ f := by omega
    have hf16 : f ≤ 16 := by omega
    clear h hr h0 h1 h2 h3 h4 hR hl hti hba
    go_enter Tryd.func13, Tryd.ntmps13
    go_wp2_with (first
      | (go_at_call 25; refine HR.out.mono ?_; rintro e w' ⟨rfl, rfl⟩)
      | (go_at_call 26; refine (newTable_any f _).mono ?_; rintro e w1 ⟨⟨p, b, rfl, hp, hb, ht⟩, hb1⟩))
    have HB := Lib.hid hb
    have hTab0 : TabAt w1 p b f (tabT f ((rowsOf f zs).take 0)) := ht
    have HT0 := Lib.hid hTab0; have HB1 := Lib.hid hb1; have HLTB := Lib.hid ht.lt
    clear hp hb ht hTab0 hb1
    go_loopw [8, 9, 10, 20] (fun out _ _ i wr => ∃ j : Nat, j ≤ n ∧ i = .int .i64 j ∧ Hid (OwnInts wr w1.heap.size out (ofNats (newL f (rowsOf f zs) j)) ∧ w1.heap.size ≤ wr.heap.size ∧ TabAt wr p b f (tabT f ((rowsOf f zs).take j)) ∧ Lat w wr)) (fun _ _ _ i _ => n - (intOf i).toNat)
    case atStart => exact ⟨0, Nat.zero_le _, rfl, Own.nil _ _ _, Nat.le_refl _, HT0.out, HB1.out⟩
    case round =>
      obtain ⟨j, hj, rfl, hrel⟩ := hrel
      by_cases hlt : j < n
      · obtain ⟨hout, hsz1, htab, hlat⟩ := hrel.out
        obtain ⟨ab, ao, rfl, hc⟩ := (H.out.keep hlat).row.at_ (by omega)
        have c1 := hc j hlt
        have hm := HZ.out _ (getD_mem zs j (by rw [HL.out]; exact hlt))
        have hnx := tab_next (k := f) (zs := zs) j (by rw [HL.out]; exact hlt)
        have hgd := rowsOf_getD f zs j (by rw [HL.out]; exact hlt)
        obtain ⟨s, hs⟩ : ∃ s : Nat, zs.getD j 0 = (s : Int) := ⟨(zs.getD j 0).toNat, by omega⟩
        rw [hs] at c1 hm hnx hgd
        have hrow : rowOf f (s : Int) = (bitsN (setZ f s), []) := by unfold rowOf; rw [Int.toNat_natCast]
        rw [hrow] at hnx hgd
        have hst : newL f (rowsOf f zs) (j + 1) = if rsT f (tabT f ((rowsOf f zs).take j)) (bitsN (setZ f s), []) = true then newL f (rowsOf f zs) j ++ [j] else newL f (rowsOf f zs) j := by rw [← hgd]; rfl
        have hs1 : 1 ≤ s := by omega
        have hs2 : s ≤ 10000 := by omega
        have hbl : bitsN (setZ f s) < 2 ^ f := by have := rowOf_lt f (s : Int) hf1 (by omega); rw [hrow] at this; exact this
        have hsz : ∀ z ∈ setZ f s, 0 ≤ z ∧ z < 16 := fun z hz => by have := setZ_lt f s hf1 hs1 z hz; omega
        have hcall := fun (W : World) (oa : Option Addr) (oc : Nat) (hW : TabAt W p b f (tabT f ((rowsOf f zs).take j))) (hoi : IntsAt W oa (setZ f s).length oc (setZ f s)) => nadd_any p b f _ oa _ oc _ W hW hoi hf16 (HTI.out j) hbl hsz
        obtain ⟨rs, hrs⟩ : ∃ r, r = rsT f (tabT f ((rowsOf f zs).take j)) (bitsN (setZ f s), []) := ⟨_, rfl⟩
        simp only [← hrs, hnx] at hcall
        rw [← hrs] at hst
        have hnl : (ofNats (newL f (rowsOf f zs) j)).length < 1000000 := by unfold ofNats; rw [List.length_map]; have := newL_le f (rowsOf f zs) j; omega
        have HOUT := Lib.hid hout; have HS1 := Lib.hid hsz1; have HTB := Lib.hid htab; have HLT := Lib.hid hlat; have HST := Lib.hid hst; have HCALL := Lib.hid hcall; have HNL := Lib.hid hnl
        clear hrel hout hsz1 htab hlat hc hm hs hrow hnx hgd hbl hsz hst hcall hrs hnl
        cases rs with
        | true =>
          go_wp2_with (first
            | (go_at_call 28; refine (dropOf_any f s _ hf1 hf16 hs1 hs2).mono ?_; rintro e w2 ⟨oa, oc, rfl, hoi, hb2⟩)
            | (go_at_call 27; refine (HCALL.out _ _ _ (HTB.out.keep hb2) hoi).mono ?_; rintro e w3 ⟨rfl, ht3, hf3⟩)
            | (at_builtin; refine app_intF w3 w1.heap.size rfl (.tmp 30) (.tmp 32) rfl u8 _ (j : Int) rfl ((HOUT.out.keep hb2).frB hf3 HLTB.out.2) rfl HNL.out (Nat.le_trans HS1.out (Nat.le_trans hb2.size hf3.size)) ?_; intro v' w4 hown' hf4))
          have hl3 : Lat w w3 := hf3.lat_of (Lat.trans HLT.out hb2) (fun i e => by rw [e]; exact HB.out)
          have hob : ∀ i, u8.ownBlock = some i → w1.heap.size ≤ i := fun i e => (Own.lt HOUT.out i e).1
          have hl4 : Lat w w4 := hf4.lat_of hl3 (fun i e => Nat.le_trans HB1.out.size (hob i e))
          have ht4 := ht3.fr hf4 (fun e => by have := hob p e; have := HLTB.out.1; omega) (fun e => by have := hob b e; have := HLTB.out.2; omega)
          have ho4 : OwnInts w4 w1.heap.size v' (ofNats (newL f (rowsOf f zs) (j + 1))) := by rw [HST.out, if_pos (by simp), ofNats_snoc]; exact hown'
          have hs4 : w1.heap.size ≤ w4.heap.size := Nat.le_trans HS1.out (Nat.le_trans hb2.size (Nat.le_trans hf3.size hf4.size))
          have HO4 := Lib.hid ho4; have HT4 := Lib.hid ht4; have HL4 := Lib.hid hl4; have HS4 := Lib.hid hs4
          clear ht3 hf3 hl3 hoi hb2 hob hl4 ht4 ho4 hs4 hown' hf4
          go_wp2
          go_roundw
          case rel => exact ⟨j + 1, by omega, by go_num, HO4.out, HS4.out, HT4.out, HL4.out⟩
          case measure => simp [intOf]; omega
        | false =>
          go_wp2_with (first
            | (go_at_call 28; refine (dropOf_any f s _ hf1 hf16 hs1 hs2).mono ?_; rintro e w2 ⟨oa, oc, rfl, hoi, hb2⟩)
            | (go_at_call 27; refine (HCALL.out _ _ _ (HTB.out.keep hb2) hoi).mono ?_; rintro e w3 ⟨rfl, ht3, hf3⟩))
          have hl3 : Lat w w3 := hf3.lat_of (Lat.trans HLT.out hb2) (fun i e => by rw [e]; exact HB.out)
          have ho4 : OwnInts w3 w1.heap.size u8 (ofNats (newL f (rowsOf f zs) (j + 1))) := by rw [HST.out, if_neg (by simp)]; exact (HOUT.out.keep hb2).frB hf3 HLTB.out.2
          have hs4 : w1.heap.size ≤ w3.heap.size := Nat.le_trans HS1.out (Nat.le_trans hb2.size hf3.size)
          have HO4 := Lib.hid ho4; have HT4 := Lib.hid ht3; have HL4 := Lib.hid hl3; have HS4 := Lib.hid hs4
          clear ht3 hf3 hl3 hoi hb2 ho4 hs4
          go_wp2
          go_roundw
          case rel => exact ⟨j + 1, by omega, by go_num, HO4.out, HS4.out, HT4.out, HL4.out⟩
          case measure => simp [intOf]; omega
      · obtain rfl : j = n := by omega
        obtain ⟨hout, hsz1, htab, hlat⟩ := hrel.out
        obtain ⟨oa, oc, hv, hat⟩ := own_ints_at hout (fun i hi => by have := newL_lt _ _ _ i hi; omega)
        subst hv
        have HAT := Lib.hid hat; have HLT := Lib.hid hlat
        clear hrel hout hsz1 htab hlat hat
        go_wp2
        go_ret2
        exact ⟨⟨_, _, _, rfl, HAT.out⟩, HLT.out⟩
  · have hR : newR k zs = [] := by unfold newR; rw [if_neg h0]
    rw [hR]
    rw [errv_pos h0] at hr ⊢
    have HR := Lib.hid hr
    clear h hr h0 hR
    go_enter Tryd.func13, Tryd.ntmps13
    go_wp2_with (go_at_call 25; refine HR.out.mono ?_; rintro e w' ⟨rfl, rfl⟩)
    go_ret2
    exact ⟨⟨_, _, _, rfl, IntsAt.nil _⟩, Lat.refl _⟩
end Go.Proofs.YtbccpcpocbefgaaDoor
