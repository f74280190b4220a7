/- The contracts of mix.Xor. -/
import Derived.Test.YtpaoiebngbfbpaaDoorBytes
namespace Go.Proofs.YtpaoiebngbfbpaaDoor
open Go.ChangeShapes Go.WideShapes Go.ChangeAt Go.RowKit

end Go.Proofs.YtpaoiebngbfbpaaDoor
