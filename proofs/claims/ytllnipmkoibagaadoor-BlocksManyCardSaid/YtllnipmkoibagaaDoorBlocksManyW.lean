/- The walk of BlocksMany: it returns true, whatever the two numbers. -/
import Derived.Test.YtllnipmkoibagaaDoorSplit
import Derived.Test.YtllnipmkoibagaaDoorZero
import Derived.Test.YtllnipmkoibagaaDoorSame
namespace Go.Proofs.YtllnipmkoibagaaDoor
open Go.ChangeShapes Go.WideShapes Go.ChangeAt Go.RowKit

theorem nought_len (n : Nat) : (S (noughts n)).size = n := by rw [S_size]; simp [noughts]
set_option maxHeartbeats 1000000 in
set_option maxRecDepth 100000 in
theorem walk_blocksMany (n s : Int) (w : World) (hg : Hnd w) (_ : (Lit.int .i64 n).wf = true) (_ : (Lit.int .i64 s).wf = true) :
    Calls Tryd.prog 7 #[.int .i64 n, .int .i64 s] w fun e w' => e = .returned (.bool true) ∧ Lat w w' := by
  have HG := Lib.hid hg
  clear hg
  by_cases hn : n < 0 ∨ 120 < n
  · have hc := fun W => split_any (S (noughts 121)) s W (by rw [nought_len]; decide)
    have e1 : spE (S (noughts 121)).size s = 4 := by rw [nought_len]; unfold spE; rw [if_pos (by omega)]
    have e2 : spl (S (noughts 121)) s = [] := by unfold spl; rw [if_neg (by omega)]
    rw [e1, e2] at hc
    have HC := Lib.hid hc
    have hd : decide (n < 0) = true ∨ (decide (n < 0) = false ∧ decide (120 < n) = true) := by
      by_cases h : n < 0
      · exact .inl (decide_eq_true h)
      · exact .inr ⟨decide_eq_false h, decide_eq_true (by omega)⟩
    clear hc e1 e2 hn
    rcases hd with d1 | ⟨d1, d2⟩
    all_goals
      go_enter Tryd.func7, Tryd.ntmps7
      go_wp2_with fail
      refine (zero_any 121 _ (by omega)).mono ?_
      rintro e w1 ⟨rfl, hb1⟩
      go_wp2_with fail
      refine (HC.out _).mono ?_
      rintro e w2 ⟨a, c, rfl, _, hb2⟩
      have HB2 := Lib.hid (Lat.trans hb1 hb2)
      clear hb1 hb2
      go_wp2_with fail
      refine (sameErr_any 4 _ (HG.out.keep HB2.out)).mono ?_
      rintro e w3 ⟨rfl, hb3⟩
      go_wp2_with fail
      go_ret
      exact ⟨rfl, Lat.trans HB2.out hb3⟩
  obtain ⟨m, rfl⟩ := Int.eq_ofNat_of_zero_le (show 0 ≤ n by omega)
  have hm : m ≤ 120 := by omega
  have d1 : decide ((m : Int) < 0) = false := decide_eq_false (by omega)
  have d2 : decide (120 < (m : Int)) = false := decide_eq_false (by omega)
  have hc := fun W => split_any (S (noughts m)) s W (by rw [nought_len]; unfold maxLen; omega)
  obtain ⟨L, hL⟩ : ∃ L, L = spl (S (noughts m)) s := ⟨_, rfl⟩
  obtain ⟨E, hE⟩ : ∃ L, L = spE (S (noughts m)).size s := ⟨_, rfl⟩
  rw [← hL, ← hE] at hc
  have HC := Lib.hid hc
  have he : E = spE m s := by rw [hE, nought_len]
  have hm2 : ¬ 120 < m := by omega
  have hl : E = 0 → L.length = many m s.toNat := fun h0 => by
    have h := spE_ok (D := S (noughts m)) (s := s) (by omega)
    rw [hL, spl_len h (by omega), nought_len]
  have HE := Lib.hid he
  have HLN := Lib.hid hl
  clear hc hL hE hl he hn
  by_cases hs : s < 1 ∨ 8 < s
  · have e1 : E = 1 := by rw [HE.out]; unfold spE; rw [if_neg hm2, if_pos hs]
    subst e1
    have hd : decide (s < 1) = true ∨ (decide (s < 1) = false ∧ decide (8 < s) = true) := by
      by_cases h : s < 1
      · exact .inl (decide_eq_true h)
      · exact .inr ⟨decide_eq_false h, decide_eq_true (by omega)⟩
    clear hs
    rcases hd with q1 | ⟨q1, q2⟩
    all_goals
      go_enter Tryd.func7, Tryd.ntmps7
      go_wp2_with fail
      refine (zero_any m _ (by omega)).mono ?_
      rintro e w1 ⟨rfl, hb1⟩
      go_wp2_with fail
      refine (HC.out _).mono ?_
      rintro e w2 ⟨a, c, rfl, _, hb2⟩
      have HB2 := Lib.hid (Lat.trans hb1 hb2)
      clear hb1 hb2
      go_wp2_with fail
      refine (sameErr_any 1 _ (HG.out.keep HB2.out)).mono ?_
      rintro e w3 ⟨rfl, hb3⟩
      go_wp2_with fail
      go_ret
      exact ⟨rfl, Lat.trans HB2.out hb3⟩
  obtain ⟨z, rfl⟩ := Int.eq_ofNat_of_zero_le (show 0 ≤ s by omega)
  rw [Int.toNat_natCast] at HLN
  have q1 : decide ((z : Int) < 1) = false := decide_eq_false (by omega)
  have q2 : decide (8 < (z : Int)) = false := decide_eq_false (by omega)
  have z1 : 1 ≤ z := by omega
  have z8 : z ≤ 8 := by omega
  have hE2 : E = if 16 < many m z then 4 else 0 := by rw [HE.out]; unfold spE; rw [if_neg hm2, if_neg hs, Int.toNat_natCast]
  obtain ⟨Q, hQ⟩ : ∃ Q, Q = (m + z - 1) / z := ⟨_, rfl⟩
  have hq : (((m : Int) + z - 1) / (z : Int)) = (Q : Nat) := by
    rw [hQ, show (m : Int) + z - 1 = ((m + z - 1 : Nat) : Int) by omega, ← Int.natCast_ediv]
  have hQ2 : many m z = max 1 Q := by rw [hQ]; rfl
  have hQ3 : Q ≤ 200 := by have : Q ≤ m + z - 1 := by rw [hQ]; exact Nat.div_le_self _ _
                           omega
  have HE2 := Lib.hid hE2
  have HQ2 := Lib.hid hQ2
  clear HE hs hE2 hQ hQ2
  go_enter Tryd.func7, Tryd.ntmps7
  go_wp2_with fail
  refine (zero_any m _ (by omega)).mono ?_
  rintro e w1 ⟨rfl, hb1⟩
  go_wp2_with fail
  refine (HC.out _).mono ?_
  rintro e w2 ⟨a, c, rfl, _, hb2⟩
  have HB2 := Lib.hid (Lat.trans hb1 hb2)
  clear hb1 hb2
  have zn : (z : Int) ≠ 0 := by omega
  by_cases hQ0 : Q = 0
  · subst hQ0
    have e1 : E = 0 := by rw [HE2.out, HQ2.out]; rfl
    have e2 : L.length = 1 := by rw [HLN.out e1, HQ2.out]; rfl
    rw [e1, errv_zero rfl, e2]
    clear e1 e2
    go_wp2_with fail
    rw [hq]
    go_wp2_with fail
    go_ret
    exact ⟨rfl, HB2.out⟩
  · have t0 : ((Q : Int) == 0) = false := beq_eq_false_iff_ne.2 (by omega)
    by_cases hQ16 : 16 < Q
    · have t1 : decide (16 < (Q : Int)) = true := decide_eq_true (by omega)
      have e1 : E = 4 := by rw [HE2.out, HQ2.out, if_pos (by omega)]
      subst e1
      go_wp2_with fail
      rw [hq]
      go_wp2_with fail
      refine (sameErr_any 4 _ (HG.out.keep HB2.out)).mono ?_
      rintro e w3 ⟨rfl, hb3⟩
      go_wp2_with fail
      go_ret
      exact ⟨rfl, Lat.trans HB2.out hb3⟩
    · have t1 : decide (16 < (Q : Int)) = false := decide_eq_false (by omega)
      have e1 : E = 0 := by rw [HE2.out, HQ2.out, if_neg (by omega)]
      have e2 : L.length = Q := by rw [HLN.out e1, HQ2.out]; omega
      rw [e1, errv_zero rfl, e2]
      have t2 : ((Q : Int) == (Q : Int)) = true := beq_iff_eq.2 rfl
      clear e1 e2
      go_wp2_with fail
      rw [hq]
      go_wp2_with fail
      go_ret
      exact ⟨rfl, HB2.out⟩
end Go.Proofs.YtllnipmkoibagaaDoor
