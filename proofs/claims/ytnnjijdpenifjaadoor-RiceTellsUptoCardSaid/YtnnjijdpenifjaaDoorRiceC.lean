/- The contracts of rice.Put and rice.Best, one answer for every slice of up to a hundred million numbers. -/
import Derived.Test.YtnnjijdpenifjaaDoorRice
namespace Go.Proofs.YtnnjijdpenifjaaDoor
open Go.ChangeShapes Go.WideShapes Go.ChangeAt Go.RowKit

def putE (low : Int) (zs : List Int) : Nat := if lowB low = false ∨ rgtB zs = false then 1 else if 2000 < (ricL low.toNat zs).length then 4 else 0
def putR (low : Int) (zs : List Int) : List Int := if putE low zs = 0 then ricL low.toNat zs else []
theorem putE_zero {low : Int} {zs : List Int} (h : putE low zs = 0) : 0 ≤ low ∧ low ≤ 7 ∧ (∀ z ∈ zs, -255 ≤ z ∧ z ≤ 255) ∧ (ricL low.toNat zs).length ≤ 2000 := by
  unfold putE at h
  split at h
  · omega
  · rename_i h1
    split at h
    · omega
    · rename_i h2
      have a1 : lowB low = true := by cases hq : lowB low <;> simp_all
      have a2 : rgtB zs = true := by cases hq : rgtB zs <;> simp_all
      simp only [lowB, decide_eq_true_eq] at a1
      exact ⟨a1.1, a1.2, rgtB_yes a2, by omega⟩
theorem wf_bits (low : Nat) (zs : List Int) : ∀ z ∈ ricL low zs, -9223372036854775808 ≤ z ∧ z ≤ 9223372036854775807 := fun z hz => by
  have := ricL_bit low zs z hz; omega

set_option maxHeartbeats 1000000 in
theorem put_tot (a : Option Addr) (n cap : Nat) (zs : List Int) (low : Int) (w : World) (h : IntsAt w a n cap zs) (hn : n ≤ 100000000) :
    Calls Tryd.prog 39 #[.slice a n cap, .int .i64 low] w fun e w' => ∃ b m c, e = .returned (.tuple #[.slice b m c, errv (putE low zs)]) ∧ m = (putR low zs).length ∧ IntsAt w' b m c (putR low zs) ∧ Lat w w' := by
  have hr := right_any a n cap zs w h
  have hlen := h.len
  cases hl : lowB low with
  | false =>
    have e1 : putE low zs = 1 := by unfold putE; rw [if_pos (.inl hl)]
    have e2 : putR low zs = [] := by unfold putR; rw [if_neg (by omega)]
    rw [e1, e2]
    clear e1 e2 h hr hlen
    go_enter Tryd.func39, Tryd.ntmps39
    go_wp2_with fail
    refine (rlow_any low w).mono ?_
    rw [hl]
    rintro e w' ⟨rfl, rfl⟩
    go_wp2
    go_ret2
    exact ⟨none, 0, 0, rfl, rfl, IntsAt.nil _, Lat.refl _⟩
  | true =>
  cases hq : rgtB zs with
  | false =>
    have e1 : putE low zs = 1 := by unfold putE; rw [if_pos (.inr hq)]
    have e2 : putR low zs = [] := by unfold putR; rw [if_neg (by omega)]
    rw [e1, e2]
    rw [hq] at hr
    have HR := Lib.hid hr
    clear e1 e2 h hr hlen
    go_enter Tryd.func39, Tryd.ntmps39
    go_wp2_with fail
    refine (rlow_any low w).mono ?_
    rw [hl]
    rintro e w' ⟨rfl, rfl⟩
    clear hl hq
    go_wp2_with fail
    refine HR.out.mono ?_
    rintro e w' ⟨rfl, rfl⟩
    go_wp2
    go_ret2
    exact ⟨none, 0, 0, rfl, rfl, IntsAt.nil _, Lat.refl _⟩
  | true =>
  have hl2 := hl
  simp only [lowB, decide_eq_true_eq] at hl2
  obtain ⟨l, rfl⟩ := Int.eq_ofNat_of_zero_le hl2.1
  have hz := rgtB_yes hq
  have hb := bits_any a n cap zs l w h hz (by omega) hn
  have hre : ric zs l n = ricL l zs := by rw [← hlen]; exact ric_all zs l
  rw [hre] at hb
  rw [hq] at hr
  have HR := Lib.hid hr
  have HB := Lib.hid hb
  obtain ⟨L, hL⟩ : ∃ L, L = ricL l zs := ⟨_, rfl⟩
  have hwf := wf_bits l zs
  have hc : (2000 < L.length ∧ putE l zs = 4 ∧ putR l zs = []) ∨ (L.length ≤ 2000 ∧ putE l zs = 0 ∧ putR l zs = L) := by
    by_cases hq3 : 2000 < L.length
    · have e1 : putE l zs = 4 := by unfold putE; rw [if_neg (by simp [hl, hq]), Int.toNat_natCast, ← hL, if_pos hq3]
      exact .inl ⟨hq3, e1, by unfold putR; rw [if_neg (by omega)]⟩
    · have e1 : putE l zs = 0 := by unfold putE; rw [if_neg (by simp [hl, hq]), Int.toNat_natCast, ← hL, if_neg hq3]
      exact .inr ⟨by omega, e1, by unfold putR; rw [if_pos e1, Int.toNat_natCast, ← hL]⟩
  rw [← hL] at hb hwf
  have HB := Lib.hid hb
  have HWF := Lib.hid hwf
  obtain ⟨PE, hPE⟩ : ∃ x, x = putE l zs := ⟨_, rfl⟩
  obtain ⟨PR, hPR⟩ : ∃ x, x = putR l zs := ⟨_, rfl⟩
  rw [← hPE, ← hPR] at hc ⊢
  obtain ⟨M, hM⟩ : ∃ M, M = L.length := ⟨_, rfl⟩
  rw [← hM] at hc
  have HM := Lib.hid hM
  clear hb hr hre hz h hlen hL hwf hPE hPR hq hM
  go_enter Tryd.func39, Tryd.ntmps39
  go_wp2_with fail
  refine (rlow_any l w).mono ?_
  rw [hl]
  clear hl
  rintro e w' ⟨rfl, rfl⟩
  go_wp2_with fail
  refine HR.out.mono ?_
  rintro e w' ⟨rfl, rfl⟩
  go_wp2_with fail
  refine HB.out.mono ?_
  rintro e w1 ⟨v, rfl, hown, hb1⟩
  obtain ⟨va, vc, rfl, hat⟩ := OwnInts.sliceN hown HWF.out HM.out.symm
  have HAT := Lib.hid hat
  have HB1 := Lib.hid hb1
  clear hown hat hb1
  rcases hc with ⟨h1, rfl, rfl⟩ | ⟨h1, rfl, h2⟩
  · have d1 : decide (2000 < (M : Int)) = true := decide_eq_true (by omega)
    clear h1
    go_wp2
    go_ret2
    exact ⟨none, 0, 0, rfl, rfl, IntsAt.nil _, HB1.out⟩
  · have d1 : decide (2000 < (M : Int)) = false := decide_eq_false (by omega)
    have H2 := Lib.hid h2
    clear h1 h2
    go_wp2
    go_ret2
    exact ⟨va, M, vc, rfl, by rw [H2.out]; exact HM.out, by rw [H2.out]; exact HAT.out, HB1.out⟩

def bslF (zs : List Int) (j : Nat) : Nat := (ricL j zs).length
def bslE (zs : List Int) : Nat := if rgtB zs = false then 1 else if (bstL (bslF zs) 8).1 < 0 then 4 else 0
def bslV (zs : List Int) : Int := if bslE zs = 0 then (bstL (bslF zs) 8).1 else 0
theorem bstL_bd (f : Nat → Nat) (j : Nat) : -1 ≤ (bstL f j).1 ∧ (bstL f j).1 < max j 1 ∧ 0 ≤ (bstL f j).2 ∧ (bstL f j).2 ≤ 2000 := by
  rcases bst_LR f j with ⟨h1, _, _⟩ | ⟨h1, h2, h3, h4, h5, h6⟩
  · rw [h1]; simp; omega
  · omega
set_option maxHeartbeats 2000000 in
theorem rbest_tot (a : Option Addr) (n cap : Nat) (zs : List Int) (w : World) (h : IntsAt w a n cap zs) (hn : n ≤ 100000000) :
    Calls Tryd.prog 42 #[.slice a n cap] w fun e w' => e = .returned (.tuple #[.int .i64 (bslV zs), errv (bslE zs)]) ∧ Lat w w' := by
  have hr := right_any a n cap zs w h
  have hlen := h.len
  cases hq : rgtB zs with
  | false =>
    have e1 : bslE zs = 1 := by unfold bslE; rw [if_pos hq]
    have e2 : bslV zs = 0 := by unfold bslV; rw [if_neg (by omega)]
    rw [e1, e2]
    rw [hq] at hr
    have HR := Lib.hid hr
    clear e1 e2 h hr hlen hq
    go_enter Tryd.func42, Tryd.ntmps42
    go_wp2_with fail
    refine HR.out.mono ?_
    rintro e w' ⟨rfl, rfl⟩
    go_wp2
    go_ret2
    exact ⟨rfl, Lat.refl _⟩
  | true =>
  have hz := rgtB_yes hq
  have hb : ∀ (l : Nat) (W : World), l ≤ 7 → Lat w W → Calls Tryd.prog 76 #[.slice a n cap, .int .i64 l] W fun e w' => ∃ va vc, e = .returned (.slice va (bslF zs l) vc) ∧ Lat W w' := fun l W hl hW => by
    refine (bits_any a n cap zs l W (h.keep hW) hz hl hn).mono ?_
    rintro e w1 ⟨v, rfl, hown, hb1⟩
    have hre : ric zs l n = ricL l zs := by rw [← hlen]; exact ric_all zs l
    rw [hre] at hown
    obtain ⟨va, vc, rfl, _⟩ := OwnInts.sliceN hown (wf_bits l zs) (rfl : _ = bslF zs l)
    exact ⟨va, vc, rfl, hb1⟩
  rw [hq] at hr
  obtain ⟨F, hF⟩ : ∃ F, F = bslF zs := ⟨_, rfl⟩
  obtain ⟨E, hE⟩ : ∃ E, E = bslE zs := ⟨_, rfl⟩
  obtain ⟨V, hV⟩ : ∃ V, V = bslV zs := ⟨_, rfl⟩
  have hc : ((bstL F 8).1 < 0 ∧ E = 4 ∧ V = 0) ∨ (¬ (bstL F 8).1 < 0 ∧ E = 0 ∧ V = (bstL F 8).1) := by
    rw [hE, hV, hF]
    by_cases h : (bstL (bslF zs) 8).1 < 0
    · have e1 : bslE zs = 4 := by unfold bslE; rw [if_neg (by simp [hq]), if_pos h]
      exact .inl ⟨h, e1, by unfold bslV; rw [if_neg (by omega)]⟩
    · have e1 : bslE zs = 0 := by unfold bslE; rw [if_neg (by simp [hq]), if_neg h]
      exact .inr ⟨h, e1, by unfold bslV; rw [if_pos e1]⟩
  rw [← hF] at hb
  rw [← hE, ← hV]
  have HB := Lib.hid hb
  have HR := Lib.hid hr
  have HC := Lib.hid hc
  clear hb hr hz h hlen hF hE hV hc hq
  go_enter Tryd.func42, Tryd.ntmps42
  go_wp2_with fail
  refine HR.out.mono ?_
  rintro e w' ⟨rfl, rfl⟩
  go_wp2_with fail
  go_loopw [4, 5, 12] (fun b l i wr => ∃ k : Nat, k ≤ 8 ∧ i = .int .i64 k ∧ b = .int .i64 (bstL F k).1 ∧ l = .int .i64 (bstL F k).2 ∧ Hid (Lat w wr)) (fun _ _ i _ => 8 - (intOf i).toNat)
  case atStart => exact ⟨0, Nat.zero_le _, rfl, rfl, rfl, Lat.refl _⟩
  case round =>
    obtain ⟨k, hk, rfl, rfl, rfl, hrel⟩ := hrel
    have hbd := bstL_bd F k
    obtain ⟨P1, hP1⟩ : ∃ x, x = (bstL F k).1 := ⟨_, rfl⟩
    obtain ⟨P2, hP2⟩ : ∃ x, x = (bstL F k).2 := ⟨_, rfl⟩
    rw [← hP1, ← hP2] at hbd
    rw [← hP1, ← hP2]
    by_cases hlt : k < 8
    · have hk8 : (k : Int) < 8 := by omega
      have hst : bstL F (k + 1) = if (F k : Int) < P2 ∨ ((F k : Int) = P2 ∧ P1 < 0) then ((k : Int), (F k : Int)) else (P1, P2) := by rw [bstL, ← hP1, ← hP2, hP1, hP2]
      have hcall := HB.out k wr (by omega) hrel.out
      obtain ⟨q, hFk⟩ : ∃ q, q = F k := ⟨_, rfl⟩
      rw [← hFk] at hst hcall
      have HST := Lib.hid hst
      have HCALL := Lib.hid hcall
      have hd : (decide ((q : Int) < P2) = true ∧ bstL F (k + 1) = ((k : Int), (q : Int))) ∨
          (decide ((q : Int) < P2) = false ∧ ((q : Int) == P2) = true ∧ decide (P1 < 0) = true ∧ bstL F (k + 1) = ((k : Int), (q : Int))) ∨
          (decide ((q : Int) < P2) = false ∧ ((q : Int) == P2) = true ∧ decide (P1 < 0) = false ∧ bstL F (k + 1) = (P1, P2)) ∨
          (decide ((q : Int) < P2) = false ∧ ((q : Int) == P2) = false ∧ bstL F (k + 1) = (P1, P2)) := by
        by_cases a1 : (q : Int) < P2
        · exact .inl ⟨decide_eq_true a1, by rw [hst, if_pos (.inl a1)]⟩
        · by_cases a2 : (q : Int) = P2
          · by_cases a3 : P1 < 0
            · exact .inr (.inl ⟨decide_eq_false a1, beq_iff_eq.2 a2, decide_eq_true a3, by rw [hst, if_pos (.inr ⟨a2, a3⟩)]⟩)
            · exact .inr (.inr (.inl ⟨decide_eq_false a1, beq_iff_eq.2 a2, decide_eq_false a3, by rw [hst, if_neg (by omega)]⟩))
          · exact .inr (.inr (.inr ⟨decide_eq_false a1, beq_eq_false_iff_ne.2 a2, by rw [hst, if_neg (by omega)]⟩))
      clear hst hcall hFk hP1 hP2
      rcases hd with ⟨d1, hst⟩ | ⟨d1, d2, d3, hst⟩ | ⟨d1, d2, d3, hst⟩ | ⟨d1, d2, hst⟩
      all_goals
        have HS := Lib.hid hst
        clear hst
        go_wp2_with fail
        refine HCALL.out.mono ?_
        rintro e w1 ⟨va, vc, rfl, hb1⟩
        have HB1 := Lib.hid (Lat.trans hrel.out hb1)
        clear hb1
        go_wp2
        go_roundw
        case rel => exact ⟨k + 1, by omega, by go_num, by rw [HS.out], by rw [HS.out], HB1.out⟩
        case measure => simp [intOf]; omega
    · obtain rfl : k = 8 := by omega
      rcases HC.out with ⟨h1, rfl, rfl⟩ | ⟨h1, rfl, h2⟩
      · have d1 : decide (P1 < 0) = true := decide_eq_true (by rw [hP1]; exact h1)
        clear h1 HC hP1 hP2
        go_wp2
        go_ret2
        exact ⟨rfl, hrel.out⟩
      · have d1 : decide (P1 < 0) = false := decide_eq_false (by rw [hP1]; omega)
        have h3 : V = P1 := by rw [hP1]; exact h2
        have H3 := Lib.hid h3
        clear h1 h2 HC hP1 hP2 h3
        go_wp2
        go_ret2
        exact ⟨by rw [H3.out]; rfl, hrel.out⟩
end Go.Proofs.YtnnjijdpenifjaaDoor
