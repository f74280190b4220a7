/- The contract of dropref1.Heal: every answer. -/
import Derived.Test.YtpaoiebngbfbpaaRefHeal
namespace Go.Proofs.Ytpaoiebngbfbpaa
open Go.ChangeShapes Go.WideShapes Go.ChangeAt Go.RowKit

end Go.Proofs.Ytpaoiebngbfbpaa
