/- Strings of noughts (dropref1.Zero). -/
import Derived.Test.YtpaoiebngbfbpaaXor
namespace Go.Proofs.Ytpaoiebngbfbpaa
open Go.ChangeShapes Go.WideShapes Go.ChangeAt Go.RowKit

end Go.Proofs.Ytpaoiebngbfbpaa
