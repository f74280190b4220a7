/- The contracts of package wheel. -/
import Derived.Test.YtmkmkaiapgedjaaDegree
namespace Go.Proofs.Ytmkmkaiapgedjaa
open Go.ChangeShapes Go.WideShapes Go.ChangeAt Go.RowKit

/-- the seed at a time -/
def whl (k x t : Nat) : Nat := if t % (k + x) < k then t % (k + x) + 1 else t % (k + x) + 1 + t / (k + x) * x
theorem whl_rx (k x t : Nat) : t / (k + x) * x ≤ t := by
  have h1 : t / (k + x) * x ≤ t / (k + x) * (k + x) := Nat.mul_le_mul_left _ (by omega)
  have h2 := Nat.div_mul_le_self t (k + x)
  omega

theorem seed_yes (n : Int) (w : World) (h0 : 1 ≤ n) (h1 : n ≤ 10000) :
    Calls Try.prog 25 #[.int .i64 n] w fun e w' => e = .returned (.bool true) ∧ w = w' := by
  have hd : decide (n ≤ 10000) = true := decide_eq_true (by omega)
  go_enter Try.func25, Try.ntmps25
  go_wp2
  go_ret
  exact ⟨rfl, rfl⟩
theorem seed_no (n : Int) (w : World) (h : n < 1 ∨ 10000 < n) :
    Calls Try.prog 25 #[.int .i64 n] w fun e w' => e = .returned (.bool false) ∧ w = w' := by
  by_cases h0 : 1 ≤ n
  · have hd : decide (n ≤ 10000) = false := decide_eq_false (by omega)
    clear h
    go_enter Try.func25, Try.ntmps25
    go_wp2
    go_ret
    exact ⟨rfl, rfl⟩
  · clear h
    go_enter Try.func25, Try.ntmps25
    go_wp2
    go_ret
    exact ⟨rfl, rfl⟩

theorem wcheck_yes (k x : Int) (w : World) (h0 : 1 ≤ k) (h1 : k ≤ 16) (h2 : 0 ≤ x) (h3 : x ≤ 16) :
    Calls Try.prog 41 #[.int .i64 k, .int .i64 x] w fun e w' => e = .returned (.bool true) ∧ w = w' := by
  have hd : decide (0 ≤ x) = true := decide_eq_true (by omega)
  have hd2 : decide (x ≤ 16) = true := decide_eq_true (by omega)
  go_enter Try.func41, Try.ntmps41
  go_wp2_with (go_at_call 60; refine (dblocks_yes k _ h0 h1).mono ?_; rintro e w' ⟨rfl, rfl⟩)
  go_ret
  exact ⟨rfl, rfl⟩
theorem wcheck_no (k x : Int) (w : World) (h : k < 1 ∨ 16 < k ∨ x < 0 ∨ 16 < x) :
    Calls Try.prog 41 #[.int .i64 k, .int .i64 x] w fun e w' => e = .returned (.bool false) ∧ w = w' := by
  by_cases h1 : k < 1 ∨ 16 < k
  · clear h
    go_enter Try.func41, Try.ntmps41
    go_wp2_with (go_at_call 60; refine (dblocks_no k _ h1).mono ?_; rintro e w' ⟨rfl, rfl⟩)
    go_ret
    exact ⟨rfl, rfl⟩
  · have h2 : 1 ≤ k := by omega
    have h3 : k ≤ 16 := by omega
    have hc : decide (0 ≤ x) = false ∨ (decide (0 ≤ x) = true ∧ decide (x ≤ 16) = false) := by
      by_cases h : 0 ≤ x
      · exact .inr ⟨decide_eq_true h, decide_eq_false (by omega)⟩
      · exact .inl (decide_eq_false h)
    clear h h1
    rcases hc with h4 | ⟨h4, h5⟩
    all_goals
      go_enter Try.func41, Try.ntmps41
      go_wp2_with (go_at_call 60; refine (dblocks_yes k _ h2 h3).mono ?_; rintro e w' ⟨rfl, rfl⟩)
      go_ret
      exact ⟨rfl, rfl⟩
theorem wtime_yes (t : Int) (w : World) (h0 : 0 ≤ t) (h1 : t ≤ 1000) :
    Calls Try.prog 42 #[.int .i64 t] w fun e w' => e = .returned (.bool true) ∧ w = w' := by
  have hd2 : decide (t ≤ 1000) = true := decide_eq_true (by omega)
  go_enter Try.func42, Try.ntmps42
  go_wp2
  go_ret
  exact ⟨rfl, rfl⟩
theorem wtime_no (t : Int) (w : World) (h : t < 0 ∨ 1000 < t) :
    Calls Try.prog 42 #[.int .i64 t] w fun e w' => e = .returned (.bool false) ∧ w = w' := by
  have hc : decide (0 ≤ t) = false ∨ (decide (0 ≤ t) = true ∧ decide (t ≤ 1000) = false) := by
    by_cases h : 0 ≤ t
    · exact .inr ⟨decide_eq_true h, decide_eq_false (by omega)⟩
    · exact .inl (decide_eq_false h)
  clear h
  rcases hc with h4 | ⟨h4, h5⟩
  all_goals
    go_enter Try.func42, Try.ntmps42
    go_wp2
    go_ret
    exact ⟨rfl, rfl⟩

theorem wat_ok (k x t : Nat) (w : World) (h0 : 1 ≤ k) (h1 : k ≤ 16) (h3 : x ≤ 16) (ht : t ≤ 1000) :
    Calls Try.prog 43 #[.int .i64 k, .int .i64 x, .int .i64 t] w fun e w' => e = .returned (.tuple #[.int .i64 (whl k x t), .nilIface]) ∧ Lat w w' := by
  obtain ⟨p, hp⟩ : ∃ p, p = t % (k + x) := ⟨_, rfl⟩
  obtain ⟨r, hr⟩ : ∃ r, r = t / (k + x) := ⟨_, rfl⟩
  have p1 : p < k + x := by rw [hp]; exact Nat.mod_lt _ (by omega)
  have rx : r * x ≤ 1000 := by have := whl_rx k x t; rw [← hr] at this; omega
  have r1 : r ≤ 1000 := by rw [hr]; exact Nat.le_trans (Nat.div_le_self _ _) ht
  have ep : (t : Int) % ((k : Int) + (x : Int)) = (p : Int) := by rw [hp]; simp
  have er : (t : Int) / ((k : Int) + (x : Int)) = (r : Int) := by rw [hr]; simp
  have erx : 0 ≤ (r : Int) * (x : Int) ∧ (r : Int) * (x : Int) ≤ 1000 := by rw [← Int.natCast_mul]; omega
  have hz : ((k : Int) + (x : Int) == 0) = false := by simp; omega
  have hw : whl k x t = if p < k then p + 1 else p + 1 + r * x := by rw [hp, hr]; rfl
  have HW := Lib.hid hw
  clear hw hp hr
  by_cases hpk : p < k
  · have d1 : decide (p < k) = true := decide_eq_true hpk
    have hres := HW.out
    rw [if_pos hpk] at hres
    rw [hres]
    clear hres
    go_enter Try.func43, Try.ntmps43
    go_wp2
    go_quiet (fail)
    go_wp2
    go_ret2
    exact ⟨rfl, Lat.drewN _ _⟩
  · have d1 : decide (p < k) = false := decide_eq_false hpk
    have hres := HW.out
    rw [if_neg hpk] at hres
    have hc : ((p : Int) + 1 + (r : Int) * (x : Int)) = ((p + 1 + r * x : Nat) : Int) := by simp
    rw [hres, ← hc]
    clear hres hc
    go_enter Try.func43, Try.ntmps43
    go_wp2
    go_quiet (fail)
    go_wp2_with (go_at_call 25; refine (seed_yes _ _ (by omega) (by omega)).mono ?_; rintro e w' ⟨rfl, rfl⟩)
    go_ret2
    exact ⟨rfl, Lat.drewN _ _⟩

end Go.Proofs.Ytmkmkaiapgedjaa
