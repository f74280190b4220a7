/- The contracts of alone.Code, Encode, Decode. -/
import Derived.Test.YtooepflfofgnnaaDoorAlone
import Derived.Test.YtooepflfofgnnaaDoorAppG
import Derived.Deep.DeepCutAuto
import Derived.Deep.CutBlock
namespace Go.Proofs.YtooepflfofgnnaaDoor
open Go.ChangeShapes Go.WideShapes Go.ChangeAt Go.RowKit

theorem wf_small {zs : List Int} (h : ∀ z ∈ zs, -255 ≤ z ∧ z ≤ 255) : ∀ z ∈ zs, -9223372036854775808 ≤ z ∧ z ≤ 9223372036854775807 := fun z hz => by have := h z hz; omega
theorem wf_pix {zs : List Int} (h : ∀ z ∈ zs, 0 ≤ z ∧ z ≤ 255) : ∀ z ∈ zs, -9223372036854775808 ≤ z ∧ z ≤ 9223372036854775807 := fun z hz => by have := h z hz; omega

end Go.Proofs.YtooepflfofgnnaaDoor
