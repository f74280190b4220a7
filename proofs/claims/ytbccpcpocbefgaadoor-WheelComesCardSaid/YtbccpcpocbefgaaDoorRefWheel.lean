/- The contract of dropref1.Wheel. -/
import Derived.Test.YtbccpcpocbefgaaDoorWheelWhen
namespace Go.Proofs.YtbccpcpocbefgaaDoor
open Go.ChangeShapes Go.WideShapes Go.ChangeAt Go.RowKit

theorem whl_low (k x m i : Nat) (hi : i < k) : whl k x (m * (k + x) + i) = i + 1 := by
  have e1 : (m * (k + x) + i) % (k + x) = i := by rw [Nat.mul_comm, Nat.mul_add_mod]; exact Nat.mod_eq_of_lt (by omega)
  unfold whl; rw [e1, if_pos hi]
theorem whl_high (k x m i : Nat) (hi : i < x) : whl k x (m * (k + x) + k + i) = k + 1 + m * x + i := by
  have e1 : (m * (k + x) + k + i) % (k + x) = k + i := by rw [Nat.add_assoc, Nat.mul_comm, Nat.mul_add_mod]; exact Nat.mod_eq_of_lt (by omega)
  have e2 : (m * (k + x) + k + i) / (k + x) = m := by rw [Nat.add_assoc, Nat.mul_comm, Nat.mul_add_div (by omega), Nat.div_eq_of_lt (by omega)]; omega
  unfold whl; rw [e1, e2, if_neg (by omega)]; omega

end Go.Proofs.YtbccpcpocbefgaaDoor
