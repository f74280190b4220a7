/- The contracts of dropref1.Groups and Add. -/
import Derived.Test.YtpaoiebngbfbpaaRefMix
import Derived.Test.YtpaoiebngbfbpaaGuardPl2
import Derived.Deep.LoopGhost
import Derived.Deep.Light
namespace Go.Proofs.Ytpaoiebngbfbpaa
open Go.ChangeShapes Go.WideShapes Go.ChangeAt Go.RowKit

theorem grps_eq (n e k : Nat) (he : 1 ≤ e) (h1 : n ≤ k * e) (h2 : ∀ j, j < k → j * e < n) : k = grps n e := by
  have h3 : ¬ k < grps n e := fun h => by have := (grps_lt n e k he).1 h; omega
  have h4 : ¬ grps n e < k := fun h => by
    have := (grps_lt n e (grps n e) he).2 (h2 _ h)
    omega
  omega

end Go.Proofs.Ytpaoiebngbfbpaa
