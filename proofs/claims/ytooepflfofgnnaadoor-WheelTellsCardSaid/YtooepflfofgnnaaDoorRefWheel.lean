/- The contract of dropref1.Wheel. -/
import Derived.Test.YtooepflfofgnnaaDoorWheelWhen
namespace Go.Proofs.YtooepflfofgnnaaDoor
open Go.ChangeShapes Go.WideShapes Go.ChangeAt Go.RowKit

theorem refWheel_bad (k x t : Int) (w : World) (h : k < 1 ∨ 16 < k ∨ x < 0 ∨ 16 < x ∨ t < 0 ∨ 1000 < t) :
    Calls Tryd.prog 33 #[.int .i64 k, .int .i64 x, .int .i64 t] w fun e w' => e = .returned (.tuple #[.int .i64 0, .int .i64 1]) ∧ w = w' := by
  have hd : decide (k < 1) = true ∨ (decide (k < 1) = false ∧ decide (16 < k) = true) ∨ (decide (k < 1) = false ∧ decide (16 < k) = false ∧ decide (x < 0) = true) ∨ (decide (k < 1) = false ∧ decide (16 < k) = false ∧ decide (x < 0) = false ∧ decide (16 < x) = true) ∨
      (decide (k < 1) = false ∧ decide (16 < k) = false ∧ decide (x < 0) = false ∧ decide (16 < x) = false ∧ decide (t < 0) = true) ∨ (decide (k < 1) = false ∧ decide (16 < k) = false ∧ decide (x < 0) = false ∧ decide (16 < x) = false ∧ decide (t < 0) = false ∧ decide (1000 < t) = true) := by
    simp only [decide_eq_true_eq, decide_eq_false_iff_not]; omega
  clear h
  rcases hd with q1 | ⟨q1, q2⟩ | ⟨q1, q2, q3⟩ | ⟨q1, q2, q3, q4⟩ | ⟨q1, q2, q3, q4, q5⟩ | ⟨q1, q2, q3, q4, q5, q6⟩
  all_goals
    go_enter Tryd.func33, Tryd.ntmps33
    go_wp2
    go_ret2
    exact ⟨rfl, rfl⟩

theorem whl_low (k x m i : Nat) (hi : i < k) : whl k x (m * (k + x) + i) = i + 1 := by
  have e1 : (m * (k + x) + i) % (k + x) = i := by rw [Nat.mul_comm, Nat.mul_add_mod]; exact Nat.mod_eq_of_lt (by omega)
  unfold whl; rw [e1, if_pos hi]
theorem whl_high (k x m i : Nat) (hi : i < x) : whl k x (m * (k + x) + k + i) = k + 1 + m * x + i := by
  have e1 : (m * (k + x) + k + i) % (k + x) = k + i := by rw [Nat.add_assoc, Nat.mul_comm, Nat.mul_add_mod]; exact Nat.mod_eq_of_lt (by omega)
  have e2 : (m * (k + x) + k + i) / (k + x) = m := by rw [Nat.add_assoc, Nat.mul_comm, Nat.mul_add_div (by omega), Nat.div_eq_of_lt (by omega)]; omega
  unfold whl; rw [e1, e2, if_neg (by omega)]; omega

set_option maxHeartbeats 1000000 in
set_option maxRecDepth 100000 in
theorem refWheel_ok (k x t : Nat) (w : World) (h0 : 1 ≤ k) (h1 : k ≤ 16) (h3 : x ≤ 16) (ht : t ≤ 1000) :
    Calls Tryd.prog 33 #[.int .i64 k, .int .i64 x, .int .i64 t] w fun e w' => e = .returned (.tuple #[.int .i64 (whl k x t), .int .i64 0]) ∧ w = w' := by
  have d1 : decide ((k : Int) < 1) = false := decide_eq_false (by omega)
  have d2 : decide (16 < (k : Int)) = false := decide_eq_false (by omega)
  have d3 : decide ((x : Int) < 0) = false := decide_eq_false (by omega)
  have d4 : decide (16 < (x : Int)) = false := decide_eq_false (by omega)
  have d5 : decide ((t : Int) < 0) = false := decide_eq_false (by omega)
  have d6 : decide (1000 < (t : Int)) = false := decide_eq_false (by omega)
  obtain ⟨R, hR⟩ : ∃ r, r = whl k x t := ⟨_, rfl⟩
  rw [← hR]
  have HR := Lib.hid hR
  clear hR
  go_enter Tryd.func33, Tryd.ntmps33
  go_wp2
  go_loop [8, 9] (fun nx at' => ∃ P Q : Nat, P ≤ t ∧ Q ≤ P ∧ nx = .int .i64 ((k : Int) + 1 + (Q : Int)) ∧ at' = .int .i64 P ∧ Hid (∃ m, P = m * (k + x) ∧ Q = m * x)) (fun _ at' => t + 1 - (intOf at').toNat)
  case atStart => exact ⟨0, 0, by omega, by omega, by go_num, rfl, 0, by simp, by simp⟩
  case round =>
    obtain ⟨P, Q, hP, hQ, rfl, rfl, hrel0⟩ := hrel
    go_wp2
    go_loop [9, 10] (fun at' s => ∃ i : Nat, i ≤ k ∧ P + i ≤ t ∧ at' = .int .i64 ((P : Int) + (i : Int)) ∧ s = .int .i64 ((i : Int) + 1)) (fun _ s => k + 1 - (intOf s).toNat)
    case atStart => exact ⟨0, by omega, by omega, by go_num, by go_num⟩
    case round =>
      obtain ⟨i, hi, hPi, rfl, rfl⟩ := hrel
      by_cases hlt : i < k
      · have dl : decide ((i : Int) + 1 ≤ (k : Int)) = true := decide_eq_true (by omega)
        by_cases he : P + i = t
        · have dt : ((P : Int) + (i : Int) == (t : Int)) = true := by rw [beq_iff_eq]; omega
          have hres : R = i + 1 := by
            obtain ⟨m, e1, _⟩ := hrel0.out
            rw [HR.out, ← he, e1]; exact whl_low k x m i hlt
          have HRES := Lib.hid hres
          clear hres he
          go_wp2
          go_ret2
          exact ⟨by rw [HRES.out]; rfl, rfl⟩
        · have dt : ((P : Int) + (i : Int) == (t : Int)) = false := by rw [beq_eq_false_iff_ne]; omega
          go_wp2
          go_round
          case rel => exact ⟨i + 1, by omega, by omega, by go_num, by go_num⟩
          case measure => simp [intOf]; omega
      · obtain rfl : i = k := by omega
        have dl : decide ((i : Int) + 1 ≤ (i : Int)) = false := decide_eq_false (by omega)
        go_wp2
        go_loop [8, 9, 11] (fun nx at' j' => ∃ j : Nat, j ≤ x ∧ P + i + j ≤ t ∧ at' = .int .i64 ((P : Int) + (i : Int) + (j : Int)) ∧ nx = .int .i64 ((i : Int) + 1 + (Q : Int) + (j : Int)) ∧ j' = .int .i64 j) (fun _ _ j' => x - (intOf j').toNat)
        case atStart => exact ⟨0, by omega, by omega, by go_num, by go_num, rfl⟩
        case round =>
          obtain ⟨j, hj, hPj, rfl, rfl, rfl⟩ := hrel
          by_cases hlt : j < x
          · have dl : decide (j < x) = true := decide_eq_true hlt
            by_cases he : P + i + j = t
            · have dt : ((P : Int) + (i : Int) + (j : Int) == (t : Int)) = true := by rw [beq_iff_eq]; omega
              have d7 : decide (10000 < (i : Int) + 1 + (Q : Int) + (j : Int)) = false := decide_eq_false (by omega)
              have hres : R = i + 1 + Q + j := by
                obtain ⟨m, e1, e2⟩ := hrel0.out
                rw [HR.out, ← he, e1, e2]; exact whl_high i x m j hlt
              have HRES := Lib.hid hres
              clear hres he
              go_wp2
              go_ret2
              exact ⟨by rw [HRES.out]; rfl, rfl⟩
            · have dt : ((P : Int) + (i : Int) + (j : Int) == (t : Int)) = false := by rw [beq_eq_false_iff_ne]; omega
              go_wp2
              go_round
              case rel => exact ⟨j + 1, by omega, by omega, by go_num, by go_num, by go_num⟩
              case measure => simp [intOf]; omega
          · obtain rfl : j = x := by omega
            have dl : decide (j < j) = false := decide_eq_false (by omega)
            go_wp2
            go_round
            case rel => exact ⟨P + i + j, Q + j, by omega, by omega, by go_num, by go_num, by
              obtain ⟨m, e1, e2⟩ := hrel0.out
              exact ⟨m + 1, by rw [e1, Nat.add_mul]; omega, by rw [e2, Nat.add_mul]; omega⟩⟩
            case measure => simp [intOf]; omega
end Go.Proofs.YtooepflfofgnnaaDoor
