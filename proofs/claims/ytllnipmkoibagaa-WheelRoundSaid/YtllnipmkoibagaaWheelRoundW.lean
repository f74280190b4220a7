/- The walk of WheelRound: it returns true, whatever the numbers. -/
import Derived.Test.YtllnipmkoibagaaWheel
namespace Go.Proofs.Ytllnipmkoibagaa
open Go.ChangeShapes Go.WideShapes Go.ChangeAt Go.RowKit

theorem whl_round (k x t : Nat) (h : 1 ≤ k) : (whl k x t ≤ k ∧ whl k x (t + k + x) = whl k x t) ∨ (k < whl k x t ∧ whl k x (t + k + x) = whl k x t + x) := by
  have e1 : (t + k + x) % (k + x) = t % (k + x) := by rw [Nat.add_assoc, Nat.add_mod_right]
  have e2 : (t + k + x) / (k + x) = t / (k + x) + 1 := by rw [Nat.add_assoc, Nat.add_div_right _ (by omega)]
  unfold whl
  rw [e1, e2, Nat.succ_mul]
  split <;> omega

set_option maxHeartbeats 1000000 in
set_option maxRecDepth 100000 in
theorem walk_wheelRound (k x t : Int) (w : World) (_ : (Lit.int .i64 k).wf = true) (_ : (Lit.int .i64 x).wf = true) (_ : (Lit.int .i64 t).wf = true) :
    Calls Try.prog 5 #[.int .i64 k, .int .i64 x, .int .i64 t] w fun e w' => e = .returned (.bool true) ∧ Lat w w' := by
  go_enter Try.func5, Try.ntmps5
  go_wp2_with fail
  refine (wAt_bad 0 1 0 _ (by omega)).mono ?_
  rintro e w1 ⟨rfl, rfl⟩
  go_wp2_with fail
  by_cases hn : k < 1 ∨ 16 < k ∨ x < 0 ∨ 16 < x ∨ t < 0 ∨ 1000 < t
  · refine (wAt_bad k x t _ hn).mono ?_
    rintro e w1 ⟨rfl, rfl⟩
    clear hn
    go_wp2
    go_ret
    exact ⟨rfl, Lat.refl _⟩
  obtain ⟨k, rfl⟩ := Int.eq_ofNat_of_zero_le (show 0 ≤ k by omega)
  obtain ⟨x, rfl⟩ := Int.eq_ofNat_of_zero_le (show 0 ≤ x by omega)
  obtain ⟨t, rfl⟩ := Int.eq_ofNat_of_zero_le (show 0 ≤ t by omega)
  have hk1 : 1 ≤ k := by omega
  have hk2 : k ≤ 16 := by omega
  have hx2 : x ≤ 16 := by omega
  have ht2 : t ≤ 1000 := by omega
  clear hn
  refine (wAt_ok k x t _ hk1 hk2 hx2 ht2).mono ?_
  rintro e w1 ⟨rfl, hb1⟩
  go_wp2_with fail
  by_cases h2 : 1000 < t + k + x
  · refine (wAt_bad k x ((t : Int) + k + x) _ (by omega)).mono ?_
    rintro e w1 ⟨rfl, rfl⟩
    have d1 : decide ((0 : Int) < (t : Int)) = true := decide_eq_true (by omega)
    have d2 : 0 < t := by omega
    clear h2
    go_wp2
    go_ret
    exact ⟨rfl, hb1⟩
  · have hr := whl_round k x t hk1
    have hc : ((t : Int) + k + x) = ((t + k + x : Nat) : Int) := by simp
    rw [hc]
    refine (wAt_ok k x (t + k + x) _ hk1 hk2 hx2 (by omega)).mono ?_
    obtain ⟨A, hA⟩ : ∃ A, whl k x t = A := ⟨_, rfl⟩
    obtain ⟨B, hB⟩ : ∃ B, whl k x (t + k + x) = B := ⟨_, rfl⟩
    rw [hA, hB] at hr
    rw [hB]
    have hAb : A ≤ 2000 := by
      rw [← hA]; unfold whl
      have h1 := whl_rx k x t
      have h2 : t % (k + x) < k + x := Nat.mod_lt _ (by omega)
      split <;> omega
    have HA := Lib.hid hA; clear hA hB hc
    rintro e w2 ⟨rfl, hb2⟩
    rw [HA.out]
    rcases hr with ⟨r1, r2⟩ | ⟨r1, r2⟩
    · subst r2
      have d1 : decide (B ≤ k) = true := decide_eq_true r1
      go_wp2
      go_ret
      exact ⟨rfl, Lat.trans hb1 hb2⟩
    · have d1 : decide (A ≤ k) = false := decide_eq_false (by omega)
      have d2 : decide (k < A) = true := decide_eq_true r1
      subst r2
      go_wp2
      go_ret
      exact ⟨rfl, Lat.trans hb1 hb2⟩
end Go.Proofs.Ytllnipmkoibagaa
