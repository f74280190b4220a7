/- The contracts of mix.Xor. -/
import Derived.Test.YtpaoiebngbfbpaaBytes
namespace Go.Proofs.Ytpaoiebngbfbpaa
open Go.ChangeShapes Go.WideShapes Go.ChangeAt Go.RowKit

end Go.Proofs.Ytpaoiebngbfbpaa
