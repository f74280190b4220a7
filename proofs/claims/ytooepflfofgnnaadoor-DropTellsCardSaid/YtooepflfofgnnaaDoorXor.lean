/- The contracts of mix.Xor. -/
import Derived.Test.YtooepflfofgnnaaDoorBytes
namespace Go.Proofs.YtooepflfofgnnaaDoor
open Go.ChangeShapes Go.WideShapes Go.ChangeAt Go.RowKit

end Go.Proofs.YtooepflfofgnnaaDoor
