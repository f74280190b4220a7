/- The contracts of mix.Xor. -/
import Derived.Test.YtbccpcpocbefgaaDoorBytes
namespace Go.Proofs.YtbccpcpocbefgaaDoor
open Go.ChangeShapes Go.WideShapes Go.ChangeAt Go.RowKit

end Go.Proofs.YtbccpcpocbefgaaDoor
