/- The contracts of mix.Xor. -/
import Derived.Test.YtcpookgbneoilaaDoorBytes
namespace Go.Proofs.YtcpookgbneoilaaDoor
open Go.ChangeShapes Go.WideShapes Go.ChangeAt Go.RowKit

end Go.Proofs.YtcpookgbneoilaaDoor
