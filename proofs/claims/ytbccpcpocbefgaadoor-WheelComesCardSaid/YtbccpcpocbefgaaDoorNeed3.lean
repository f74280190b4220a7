/- The contract of need.Lacks. -/
import Derived.Test.YtbccpcpocbefgaaDoorNeed2
namespace Go.Proofs.YtbccpcpocbefgaaDoor
open Go.ChangeShapes Go.WideShapes Go.ChangeAt Go.RowKit

def lackR (k : Int) (zs : List Int) : List Int := if rdyE k zs = 0 then ofNats (lackL k.toNat (rowsOf k.toNat zs) k.toNat) else []
theorem bits_one (i : Nat) : (bitsN [(i : Int)], ([] : List UInt8)) = unit i := by
  unfold unit bitsN
  show (0 ||| bitP i, []) = _
  rw [Nat.zero_or]; rfl

set_option maxHeartbeats 2000000 in
set_option maxRecDepth 100000 in
theorem lacks_any (k : Int) (a : Option Addr) (n cap : Nat) (zs : List Int) (w : World) (h : IntsAt w a n cap zs) :
    Calls Tryd.prog 8 #[.int .i64 k, .slice a n cap] w fun e w' => (∃ b m c, e = .returned (.tuple #[.slice b m c, errv (rdyE k zs)]) ∧ IntsAt w' b m c (lackR k zs)) ∧ Lat w w' := by
  have hr := ready_any k a n cap zs w h
  by_cases h0 : rdyE k zs = 0
  · obtain ⟨h1, h2, h3, h4⟩ := rdyE_zero h0
    obtain ⟨f, rfl⟩ : ∃ f : Nat, k = f := ⟨k.toNat, by omega⟩
    have hR : lackR f zs = ofNats (lackL f (rowsOf f zs) f) := by unfold lackR; rw [if_pos h0, Int.toNat_natCast]
    rw [h0, errv_zero rfl] at hr ⊢
    rw [hR]
    have hl := h.len
    have hn60 : n ≤ 60 := by omega
    have hba := rowsOf_bare (k := f) (zs := zs) (by omega) h4
    have hti := fun j => (tab_st (k := f) (by omega) (hba.take j)).ti
    have hti2 := fun i (hi : i ≤ f) => (tab_st (k := f) (by omega) (hba.append (bare_range hi))).ti
    have H := Lib.hid h; have HR := Lib.hid hr; have HZ := Lib.hid h4; have HTI := Lib.hid hti; have HL := Lib.hid hl; have HTI2 := Lib.hid hti2
    have hf1 : 1 ≤ f := by omega
    have hf16 : f ≤ 16 := by omega
    clear h hr h0 h1 h2 h3 h4 hR hl hti hti2 hba
    go_enter Tryd.func8, Tryd.ntmps8
    go_wp2_with (first
      | (go_at_call 25; refine HR.out.mono ?_; rintro e w' ⟨rfl, rfl⟩)
      | (go_at_call 26; refine (newTable_any f _).mono ?_; rintro e w1 ⟨⟨p, b, rfl, hp, hb, ht⟩, hb1⟩))
    have HB := Lib.hid hb
    have hTab0 : TabAt w1 p b f (tabT f ((rowsOf f zs).take 0)) := ht
    have HT0 := Lib.hid hTab0; have HB1 := Lib.hid hb1; have HLTB := Lib.hid ht.lt
    clear hp hb ht hTab0 hb1
    go_loopw [9, 21] (fun _ i wr => ∃ j : Nat, j ≤ n ∧ i = .int .i64 j ∧ Hid (w1.heap.size ≤ wr.heap.size ∧ TabAt wr p b f (tabT f ((rowsOf f zs).take j)) ∧ Lat w wr)) (fun _ i _ => n - (intOf i).toNat)
    case atStart => exact ⟨0, Nat.zero_le _, rfl, Nat.le_refl _, HT0.out, HB1.out⟩
    case round =>
      obtain ⟨j, hj, rfl, hrel⟩ := hrel
      by_cases hlt : j < n
      · obtain ⟨hsz1, htab, hlat⟩ := hrel.out
        obtain ⟨ab, ao, rfl, hc⟩ := (H.out.keep hlat).row.at_ (by omega)
        have c1 := hc j hlt
        have hm := HZ.out _ (getD_mem zs j (by rw [HL.out]; exact hlt))
        have hnx := tab_next (k := f) (zs := zs) j (by rw [HL.out]; exact hlt)
        obtain ⟨s, hs⟩ : ∃ s : Nat, zs.getD j 0 = (s : Int) := ⟨(zs.getD j 0).toNat, by omega⟩
        rw [hs] at c1 hm hnx
        have hrow : rowOf f (s : Int) = (bitsN (setZ f s), []) := by unfold rowOf; rw [Int.toNat_natCast]
        rw [hrow] at hnx
        have hs1 : 1 ≤ s := by omega
        have hs2 : s ≤ 10000 := by omega
        have hbl : bitsN (setZ f s) < 2 ^ f := by have := rowOf_lt f (s : Int) hf1 (by omega); rw [hrow] at this; exact this
        have hsz : ∀ z ∈ setZ f s, 0 ≤ z ∧ z < 16 := fun z hz => by have := setZ_lt f s hf1 hs1 z hz; omega
        have HTB := Lib.hid htab; have HLT := Lib.hid hlat; have HNX := Lib.hid hnx; have HBL := Lib.hid hbl; have HSZ := Lib.hid hsz; have HS1 := Lib.hid hsz1
        clear hrel hsz1 htab hlat hc hm hs hrow hnx hbl hsz
        go_wp2_with (first
          | (go_at_call 28; refine (dropOf_any f s _ hf1 hf16 hs1 hs2).mono ?_; rintro e w2 ⟨oa, oc, rfl, hoi, hb2⟩)
          | (go_at_call 27; refine (nadd_any p b f _ _ _ _ _ _ (HTB.out.keep hb2) hoi hf16 (HTI.out j) HBL.out HSZ.out).mono ?_; rintro e w3 ⟨rfl, ht3, hf3⟩; rw [HNX.out] at ht3))
        have hl3 : Lat w w3 := hf3.lat_of (Lat.trans HLT.out hb2) (fun i e => by rw [e]; exact HB.out)
        have HT3 := Lib.hid ht3; have HL3 := Lib.hid hl3; have HS3 := Lib.hid (Nat.le_trans HS1.out (Nat.le_trans hb2.size hf3.size))
        clear ht3 hf3 hl3 hoi hb2
        go_roundw
        case rel => exact ⟨j + 1, by omega, by go_num, HS3.out, HT3.out, HL3.out⟩
        case measure => simp [intOf]; omega
      · obtain rfl : j = n := by omega
        obtain ⟨hsz1, htab, hlat⟩ := hrel.out
        have hall : (rowsOf f zs).take j = rowsOf f zs := List.take_of_length_le (by rw [rowsOf_len, HL.out]; exact Nat.le_refl _)
        rw [hall] at htab
        have htab2 : TabAt wr p b f (tabT f (rowsOf f zs ++ (List.range 0).map unit)) := by simpa using htab
        have HTB := Lib.hid htab2; have HLT := Lib.hid hlat; have HS1 := Lib.hid hsz1
        clear hrel hsz1 htab hlat hall htab2
        obtain ⟨wo, hwo⟩ : ∃ wo : World, wo = wr := ⟨_, rfl⟩
        subst hwo
        go_wp2
        go_loopw [10, 11, 32] (fun out _ i wr => ∃ j : Nat, j ≤ f ∧ i = .int .i64 j ∧ Hid (OwnInts wr w1.heap.size out (ofNats (lackL f (rowsOf f zs) j)) ∧ w1.heap.size ≤ wr.heap.size ∧ TabAt wr p b f (tabT f (rowsOf f zs ++ (List.range j).map unit)) ∧ Lat w wr)) (fun _ _ i _ => f - (intOf i).toNat)
        case atStart => exact ⟨0, Nat.zero_le _, rfl, Own.nil _ _ _, HS1.out, HTB.out, HLT.out⟩
        case round =>
          obtain ⟨q, hq, rfl, hrel⟩ := hrel
          by_cases hqf : q < f
          · obtain ⟨hout, hsz1, htab, hlat⟩ := hrel.out
            have hone : IntsAt (wr.alloc (.cells #[.int .i64 q] 3)) (some ⟨wr.heap.size, 0, none⟩) 1 1 [(q : Int)] := by
              have := ints_new wr [(q : Int)] 3 (by simp) (by intro z hz; rw [List.mem_singleton] at hz; subst hz; omega)
              simpa using this
            have hbl : bitsN [(q : Int)] < 2 ^ f := by
              have h2 := unit_lt (k := f) hqf
              rw [← bits_one] at h2; exact h2
            have hcall := nadd_any p b f _ _ 1 1 [(q : Int)] _ (htab.keep (Lat.alloc wr (.cells #[.int .i64 q] 3))) hone hf16 (HTI2.out q hq) hbl (fun z hz => by rw [List.mem_singleton.1 hz]; omega)
            rw [bits_one] at hcall
            have hnx : addT f (tabT f (rowsOf f zs ++ (List.range q).map unit)) (unit q) = tabT f (rowsOf f zs ++ (List.range (q + 1)).map unit) := by rw [← tabT_snoc, units_snoc, List.append_assoc]
            have hst : lackL f (rowsOf f zs) (q + 1) = if rsT f (tabT f (rowsOf f zs ++ (List.range q).map unit)) (unit q) = true then lackL f (rowsOf f zs) q ++ [q] else lackL f (rowsOf f zs) q := rfl
            obtain ⟨rs, hrs⟩ : ∃ r, r = rsT f (tabT f (rowsOf f zs ++ (List.range q).map unit)) (unit q) := ⟨_, rfl⟩
            rw [hnx, ← hrs] at hcall
            rw [← hrs] at hst
            have hnl : (ofNats (lackL f (rowsOf f zs) q)).length < 1000000 := by unfold ofNats; rw [List.length_map]; have := lackL_le f (rowsOf f zs) q; omega
            have HOUT := Lib.hid hout; have HS1 := Lib.hid hsz1; have HLT := Lib.hid hlat; have HST := Lib.hid hst; have HCALL := Lib.hid hcall; have HNL := Lib.hid hnl
            clear hrel hout hsz1 htab hlat hone hbl hcall hnx hst hrs hnl
            cases rs with
            | true =>
              go_wp2_with (first
                | (go_at_call 27; refine HCALL.out.mono ?_; rintro e w3 ⟨rfl, ht3, hf3⟩)
                | (at_builtin; refine app_intF w3 w1.heap.size rfl (.tmp 39) (.tmp 41) rfl u10 _ (q : Int) rfl ((HOUT.out.keep (Lat.alloc _ _)).frB hf3 HLTB.out.2) rfl HNL.out (Nat.le_trans HS1.out (Nat.le_trans (Lat.alloc _ _).size hf3.size)) ?_; intro v' w4 hown' hf4))
              have hl3 : Lat w w3 := hf3.lat_of (Lat.trans HLT.out (Lat.alloc _ _)) (fun i e => by rw [e]; exact HB.out)
              have hob : ∀ i, u10.ownBlock = some i → w1.heap.size ≤ i := fun i e => (Own.lt HOUT.out i e).1
              have hl4 : Lat w w4 := hf4.lat_of hl3 (fun i e => Nat.le_trans HB1.out.size (hob i e))
              have ht4 := ht3.fr hf4 (fun e => by have := hob p e; have := HLTB.out.1; omega) (fun e => by have := hob b e; have := HLTB.out.2; omega)
              have ho4 : OwnInts w4 w1.heap.size v' (ofNats (lackL f (rowsOf f zs) (q + 1))) := by rw [HST.out, if_pos (by simp), ofNats_snoc]; exact hown'
              have hs4 : w1.heap.size ≤ w4.heap.size := Nat.le_trans HS1.out (Nat.le_trans (Lat.alloc wr (.cells #[.int .i64 q] 3)).size (Nat.le_trans hf3.size hf4.size))
              have HO4 := Lib.hid ho4; have HT4 := Lib.hid ht4; have HL4 := Lib.hid hl4; have HS4 := Lib.hid hs4
              clear ht3 hf3 hl3 hob hl4 ht4 ho4 hs4 hown' hf4
              go_wp2
              go_roundw
              case rel => exact ⟨q + 1, by omega, by go_num, HO4.out, HS4.out, HT4.out, HL4.out⟩
              case measure => simp [intOf]; omega
            | false =>
              go_wp2_with (go_at_call 27; refine HCALL.out.mono ?_; rintro e w3 ⟨rfl, ht3, hf3⟩)
              have hl3 : Lat w w3 := hf3.lat_of (Lat.trans HLT.out (Lat.alloc _ _)) (fun i e => by rw [e]; exact HB.out)
              have ho4 : OwnInts w3 w1.heap.size u10 (ofNats (lackL f (rowsOf f zs) (q + 1))) := by rw [HST.out, if_neg (by simp)]; exact (HOUT.out.keep (Lat.alloc _ _)).frB hf3 HLTB.out.2
              have hs4 : w1.heap.size ≤ w3.heap.size := Nat.le_trans HS1.out (Nat.le_trans (Lat.alloc wr (.cells #[.int .i64 q] 3)).size hf3.size)
              have HO4 := Lib.hid ho4; have HT4 := Lib.hid ht3; have HL4 := Lib.hid hl3; have HS4 := Lib.hid hs4
              clear ht3 hf3 hl3 ho4 hs4
              go_wp2
              go_roundw
              case rel => exact ⟨q + 1, by omega, by go_num, HO4.out, HS4.out, HT4.out, HL4.out⟩
              case measure => simp [intOf]; omega
          · obtain rfl : q = f := by omega
            obtain ⟨hout, hsz1, htab, hlat⟩ := hrel.out
            obtain ⟨oa, oc, hv, hat⟩ := own_ints_at hout (fun i hi => by have := lackL_lt _ _ _ i hi; omega)
            subst hv
            have HAT := Lib.hid hat; have HLT := Lib.hid hlat
            clear hrel hout hsz1 htab hlat hat
            go_wp2
            go_ret2
            exact ⟨⟨_, _, _, rfl, HAT.out⟩, HLT.out⟩
  · have hR : lackR k zs = [] := by unfold lackR; rw [if_neg h0]
    rw [hR]
    rw [errv_pos h0] at hr ⊢
    have HR := Lib.hid hr
    clear h hr h0 hR
    go_enter Tryd.func8, Tryd.ntmps8
    go_wp2_with (go_at_call 25; refine HR.out.mono ?_; rintro e w' ⟨rfl, rfl⟩)
    go_ret2
    exact ⟨⟨_, _, _, rfl, IntsAt.nil _⟩, Lat.refl _⟩
end Go.Proofs.YtbccpcpocbefgaaDoor
