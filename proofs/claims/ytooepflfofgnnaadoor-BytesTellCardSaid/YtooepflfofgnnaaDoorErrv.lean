/- An error by its number, asked whether it is nil. -/
import Derived.Test.YtooepflfofgnnaaDoorBase
namespace Go.Proofs.YtooepflfofgnnaaDoor
open Go.ChangeShapes Go.WideShapes Go.ChangeAt Go.RowKit

theorem errv_eql (n : Nat) (w : World) : (binOp .eql 28 (errv n) .nilIface).run Tryd.prog w = .ok (.bool (decide (n = 0))) w := by
  by_cases h : n = 0
  · rw [errv_zero h, h]; kernel_rfl
  · rw [errv_pos h, decide_eq_false h]; kernel_rfl
theorem errv_neq (n : Nat) (w : World) : (binOp .neq 28 (errv n) .nilIface).run Tryd.prog w = .ok (.bool (decide (n ≠ 0))) w := by
  by_cases h : n = 0
  · rw [errv_zero h, h]; kernel_rfl
  · rw [errv_pos h, decide_eq_true h]; kernel_rfl
theorem errv_guard (op : BinOp) (a : Operand) (n : Nat) (w : World) : (eqGuard op 28 a (.const .nilIface) (errv n) .nilIface).run Tryd.prog w = .ok () w := by
  by_cases h : n = 0
  · rw [errv_zero h]; cases op <;> cases a <;> kernel_rfl
  · rw [errv_pos h]; cases op <;> kernel_rfl
end Go.Proofs.YtooepflfofgnnaaDoor
