/- The walk of Names: it returns true. -/
import Derived.Test.YtllnipmkoibagaaBase
namespace Go.Proofs.Ytllnipmkoibagaa
open Go.ChangeShapes Go.WideShapes Go.ChangeAt Go.RowKit

set_option maxHeartbeats 4000000 in
set_option maxRecDepth 100000 in
theorem walk_names (w : World) :
    Calls Try.prog 6 #[] w fun e w' => e = .returned (.bool true) ∧ Lat w w' := by
  go_enter Try.func6, Try.ntmps6
  go_wp2
  go_rounds 10
  all_goals go_ret
  all_goals exact ⟨rfl, (Below.refl _ _).alloc (Nat.le_refl _) _⟩
end Go.Proofs.Ytllnipmkoibagaa
