/- The contracts of wheel.When. -/
import Derived.Test.YtbccpcpocbefgaaDoorWheelRow
namespace Go.Proofs.YtbccpcpocbefgaaDoor
open Go.ChangeShapes Go.WideShapes Go.ChangeAt Go.RowKit

theorem when_bad (k x s : Int) (w : World) (h : k < 1 ∨ 16 < k ∨ x < 0 ∨ 16 < x ∨ s < 1 ∨ 10000 < s) :
    Calls Tryd.prog 23 #[.int .i64 k, .int .i64 x, .int .i64 s] w fun e w' => e = .returned (.tuple #[.int .i64 0, eno 1]) ∧ Lat w w' := by
  by_cases h1 : k < 1 ∨ 16 < k ∨ x < 0 ∨ 16 < x
  · have H1 := Lib.hid h1
    clear h h1
    go_enter Tryd.func23, Tryd.ntmps23
    go_wp2_with (go_at_call 43; refine (wcheck_no _ _ _ H1.out).mono ?_; rintro e w' ⟨rfl, rfl⟩)
    go_ret2
    exact ⟨rfl, Lat.refl _⟩
  have k1 : 1 ≤ k := by omega
  have k2 : k ≤ 16 := by omega
  have x1 : 0 ≤ x := by omega
  have x2 : x ≤ 16 := by omega
  have h2 : s < 1 ∨ 10000 < s := by omega
  have H2 := Lib.hid h2
  clear h h1 h2
  go_enter Tryd.func23, Tryd.ntmps23
  go_wp2_with (first | (go_at_call 43; refine (wcheck_yes _ _ _ k1 k2 x1 x2).mono ?_; rintro e w' ⟨rfl, rfl⟩) | (go_at_call 46; refine (seed_no _ _ H2.out).mono ?_; rintro e w' ⟨rfl, rfl⟩))
  go_ret2
  exact ⟨rfl, Lat.refl _⟩
theorem when_first (k x s : Nat) (w : World) (h0 : 1 ≤ k) (h1 : k ≤ 16) (h3 : x ≤ 16) (h4 : 1 ≤ s) (h5 : s ≤ k) :
    Calls Tryd.prog 23 #[.int .i64 k, .int .i64 x, .int .i64 s] w fun e w' => e = .returned (.tuple #[.int .i64 ((s : Int) - 1), .nilIface]) ∧ Lat w w' := by
  have d1 : decide (s ≤ k) = true := decide_eq_true h5
  go_enter Tryd.func23, Tryd.ntmps23
  go_wp2_with (first | (go_at_call 43; refine (wcheck_yes _ _ _ (by omega) (by omega) (by omega) (by omega)).mono ?_; rintro e w' ⟨rfl, rfl⟩) | (go_at_call 46; refine (seed_yes _ _ (by omega) (by omega)).mono ?_; rintro e w' ⟨rfl, rfl⟩))
  go_ret2
  exact ⟨rfl, Lat.refl _⟩
theorem when_none (k s : Nat) (w : World) (h0 : 1 ≤ k) (h1 : k ≤ 16) (h4 : k < s) (h5 : s ≤ 10000) :
    Calls Tryd.prog 23 #[.int .i64 k, .int .i64 0, .int .i64 s] w fun e w' => e = .returned (.tuple #[.int .i64 0, eno 5]) ∧ Lat w w' := by
  have d1 : decide (s ≤ k) = false := decide_eq_false (by omega)
  go_enter Tryd.func23, Tryd.ntmps23
  go_wp2_with (first | (go_at_call 43; refine (wcheck_yes _ _ _ (by omega) (by omega) (by omega) (by omega)).mono ?_; rintro e w' ⟨rfl, rfl⟩) | (go_at_call 46; refine (seed_yes _ _ (by omega) (by omega)).mono ?_; rintro e w' ⟨rfl, rfl⟩))
  go_ret2
  exact ⟨rfl, Lat.refl _⟩
/-- the time that a seed behind the first comes at, N = seed - k - 1 -/
def whenT (k x N : Nat) : Nat := N / x * (k + x) + k + N % x
set_option maxHeartbeats 1000000 in
theorem when_go (k x N : Nat) (w : World) (h0 : 1 ≤ k) (h1 : k ≤ 16) (h2 : 1 ≤ x) (h3 : x ≤ 16) (h5 : N + k + 1 ≤ 10000) :
    Calls Tryd.prog 23 #[.int .i64 k, .int .i64 x, .int .i64 ((N + k + 1 : Nat) : Int)] w fun e w' => e = .returned (if whenT k x N ≤ 1000 then .tuple #[.int .i64 (whenT k x N), .nilIface] else .tuple #[.int .i64 0, eno 5]) ∧ Lat w w' := by
  obtain ⟨q, hq⟩ : ∃ q, q = N / x := ⟨_, rfl⟩
  obtain ⟨r, hr⟩ : ∃ r, r = N % x := ⟨_, rfl⟩
  have hT : whenT k x N = q * (k + x) + k + r := by rw [hq, hr]; rfl
  have r1 : r < x := by rw [hr]; exact Nat.mod_lt _ (by omega)
  have q1 : q ≤ 10000 := by rw [hq]; exact Nat.le_trans (Nat.div_le_self _ _) (by omega)
  obtain ⟨Y, hY⟩ : ∃ y, y = k + x := ⟨_, rfl⟩
  have m1 : q * Y ≤ 10000 * 32 := Nat.mul_le_mul q1 (by omega)
  obtain ⟨M, hM⟩ : ∃ m, m = q * Y := ⟨_, rfl⟩
  rw [← hM] at m1
  rw [← hY, ← hM] at hT
  have ep : (N : Int) % (x : Int) = (r : Int) := by rw [hr]; simp
  have er : (N : Int) / (x : Int) = (q : Int) := by rw [hq]; simp
  have ey : (q : Int) * ((k : Int) + (x : Int)) = (M : Int) := by rw [hM, hY]; simp
  have hz : ((x : Int) == 0) = false := by rw [beq_eq_false_iff_ne]; omega
  have e0 : (N : Int) + (k : Int) + 1 - (k : Int) - 1 = (N : Int) := by omega
  have d1 : decide ((N : Int) + (k : Int) + 1 ≤ (k : Int)) = false := decide_eq_false (by omega)
  have d2 : decide (N + k + 1 ≤ k) = false := decide_eq_false (by omega)
  rw [hT]
  have HT := Lib.hid hT
  clear hT hq hr hY hM
  by_cases ht : M + k + r ≤ 1000
  · rw [if_pos ht]
    go_enter Tryd.func23, Tryd.ntmps23
    go_wp2_with (first | (go_at_call 43; refine (wcheck_yes _ _ _ (by omega) (by omega) (by omega) (by omega)).mono ?_; rintro e w' ⟨rfl, rfl⟩) | (go_at_call 46; refine (seed_yes _ _ (by omega) (by omega)).mono ?_; rintro e w' ⟨rfl, rfl⟩))
    go_quiet (fail)
    go_wp2_with (go_at_call 44; refine (wtime_yes _ _ (by omega) (by omega)).mono ?_; rintro e w' ⟨rfl, rfl⟩)
    go_ret2
    exact ⟨rfl, Lat.drewN _ _⟩
  · rw [if_neg ht]
    go_enter Tryd.func23, Tryd.ntmps23
    go_wp2_with (first | (go_at_call 43; refine (wcheck_yes _ _ _ (by omega) (by omega) (by omega) (by omega)).mono ?_; rintro e w' ⟨rfl, rfl⟩) | (go_at_call 46; refine (seed_yes _ _ (by omega) (by omega)).mono ?_; rintro e w' ⟨rfl, rfl⟩))
    go_quiet (fail)
    go_wp2_with (go_at_call 44; refine (wtime_no _ _ (by omega)).mono ?_; rintro e w' ⟨rfl, rfl⟩)
    go_ret2
    exact ⟨rfl, Lat.drewN _ _⟩
end Go.Proofs.YtbccpcpocbefgaaDoor
