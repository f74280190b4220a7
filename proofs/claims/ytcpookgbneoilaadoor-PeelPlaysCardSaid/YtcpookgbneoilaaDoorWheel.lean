/- The contracts of package wheel. -/
import Derived.Test.YtcpookgbneoilaaDoorDegree
namespace Go.Proofs.YtcpookgbneoilaaDoor
open Go.ChangeShapes Go.WideShapes Go.ChangeAt Go.RowKit

/-- the seed at a time -/
def whl (k x t : Nat) : Nat := if t % (k + x) < k then t % (k + x) + 1 else t % (k + x) + 1 + t / (k + x) * x
theorem whl_rx (k x t : Nat) : t / (k + x) * x ≤ t := by
  have h1 : t / (k + x) * x ≤ t / (k + x) * (k + x) := Nat.mul_le_mul_left _ (by omega)
  have h2 := Nat.div_mul_le_self t (k + x)
  omega

theorem seed_yes (n : Int) (w : World) (h0 : 1 ≤ n) (h1 : n ≤ 10000) :
    Calls Tryd.prog 51 #[.int .i64 n] w fun e w' => e = .returned (.bool true) ∧ w = w' := by
  have hd : decide (n ≤ 10000) = true := decide_eq_true (by omega)
  go_enter Tryd.func51, Tryd.ntmps51
  go_wp2
  go_ret
  exact ⟨rfl, rfl⟩
theorem seed_no (n : Int) (w : World) (h : n < 1 ∨ 10000 < n) :
    Calls Tryd.prog 51 #[.int .i64 n] w fun e w' => e = .returned (.bool false) ∧ w = w' := by
  by_cases h0 : 1 ≤ n
  · have hd : decide (n ≤ 10000) = false := decide_eq_false (by omega)
    clear h
    go_enter Tryd.func51, Tryd.ntmps51
    go_wp2
    go_ret
    exact ⟨rfl, rfl⟩
  · clear h
    go_enter Tryd.func51, Tryd.ntmps51
    go_wp2
    go_ret
    exact ⟨rfl, rfl⟩

end Go.Proofs.YtcpookgbneoilaaDoor
