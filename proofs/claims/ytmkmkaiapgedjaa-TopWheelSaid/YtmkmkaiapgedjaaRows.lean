/-
  No cell of these rows narrows 'for every input' (looked for: loops, veiled, ifaces, maps, wideKeys, modest, calm, conditions, laid).
  DERIVED. THE GIVEN ROWS OF THIS SEAT. 3 by the template 'for every input the law returns true; each argument reads behind the call as it read before'; 0 by the template 'total and deterministic' (their statements: YtmkmkaiapgedjaaTotals.lean).
  GIVEN WITH THE SEED: the statements are not yours to turn. If you find one false, say at which input.
  Laid BY PROGRAM, IN A SANDBOX (cutbox-rows.mjs): the forced cells as the released guide's own fill.sh prints them over the translation 3225dc5f280a44b9… (all of the seat's roots in one cut). By AI agents, Wed Nov 11 2026. No macro, syntax, notation, axiom, sorry.
-/
import Derived.Test.YtmkmkaiapgedjaaChecked
import GoSem.Claim
import GoSem.ClaimJoined
import GoSem.ClaimMapViews
import Derived.JoinedTies
import Derived.KernelRfl
namespace Go.Proofs.Ytmkmkaiapgedjaa
/- THE CELL 'sum', in the pinned program and in every row, IS THE sha256 OF THE DUMP (.gsa) THAT YtmkmkaiapgedjaaProg.lean LOADS. Nothing in Lean hashes anything: it is a label: what it is worth is what the hold of that sum in a sandbox is worth. -/
noncomputable def Try.pinned : Pinned := { name := "ytmkmkaiapgedjaa", sum := "3225dc5f280a44b926f643e79da4dde045ca8642b48f35f2e0a55993e020ecea", checked := Try.checked }
namespace Rows
def none {H : Type} : Left H := { results := [], args := [] }

/-- 'droplaw4.EarOnce': WHATEVER THE INPUT: true; the input reads as it did. -/
def earOnceSpec : ChangeSpec := { name := "earOnce", fn := fun _ => fun
  | [d1, d2, d3, d4] => { results := [.lit (.bool true)], args := [d1, d2, d3, d4] }
  | _ => none }
def earOnceRow : OpenClaim := { program := "ytmkmkaiapgedjaa", sum := "3225dc5f280a44b926f643e79da4dde045ca8642b48f35f2e0a55993e020ecea", func := "dropletmill/droplaw4.EarOnce", spec := "earOnce", inPlace := ["internal/abi.NoEscape", "internal/bytealg.MakeNoZero"], unfollowed := true, recurses := true, apart := false }
def EarOnceSaid : Prop := earOnceRow.holds Try.pinned (OpenSpec.ofChange earOnceSpec)

/-- ITS FALSE NEIGHBOUR: 'it returns false'. Refute it at one input. -/
def earOnceWrong : ChangeSpec := { name := "earOnce", fn := fun _ => fun
  | [d1, d2, d3, d4] => { results := [.lit (.bool false)], args := [d1, d2, d3, d4] }
  | _ => none }
def EarOnceWrongFalsely : Prop := earOnceRow.holds Try.pinned (OpenSpec.ofChange earOnceWrong)

/-- 'droptop.TopEnough': WHATEVER THE INPUT: true; the input reads as it did. -/
def topEnoughSpec : ChangeSpec := { name := "topEnough", fn := fun _ => fun
  | [d1, d2, d3, d4] => { results := [.lit (.bool true)], args := [d1, d2, d3, d4] }
  | _ => none }
def topEnoughRow : OpenClaim := { program := "ytmkmkaiapgedjaa", sum := "3225dc5f280a44b926f643e79da4dde045ca8642b48f35f2e0a55993e020ecea", func := "dropletmill/droptop.TopEnough", spec := "topEnough", inPlace := ["internal/abi.NoEscape", "internal/bytealg.MakeNoZero"], unfollowed := true, recurses := true, apart := false }
def TopEnoughSaid : Prop := topEnoughRow.holds Try.pinned (OpenSpec.ofChange topEnoughSpec)

/-- ITS FALSE NEIGHBOUR: 'it returns false'. Refute it at one input. -/
def topEnoughWrong : ChangeSpec := { name := "topEnough", fn := fun _ => fun
  | [d1, d2, d3, d4] => { results := [.lit (.bool false)], args := [d1, d2, d3, d4] }
  | _ => none }
def TopEnoughWrongFalsely : Prop := topEnoughRow.holds Try.pinned (OpenSpec.ofChange topEnoughWrong)

/-- 'droptop.TopWheel': WHATEVER THE INPUT: true; the input reads as it did. -/
def topWheelSpec : ChangeSpec := { name := "topWheel", fn := fun _ => fun
  | [d1, d2, d3, d4, d5] => { results := [.lit (.bool true)], args := [d1, d2, d3, d4, d5] }
  | _ => none }
def topWheelRow : OpenClaim := { program := "ytmkmkaiapgedjaa", sum := "3225dc5f280a44b926f643e79da4dde045ca8642b48f35f2e0a55993e020ecea", func := "dropletmill/droptop.TopWheel", spec := "topWheel", inPlace := ["internal/abi.NoEscape", "internal/bytealg.MakeNoZero"], unfollowed := true, recurses := true, apart := false }
def TopWheelSaid : Prop := topWheelRow.holds Try.pinned (OpenSpec.ofChange topWheelSpec)

/-- ITS FALSE NEIGHBOUR: 'it returns false'. Refute it at one input. -/
def topWheelWrong : ChangeSpec := { name := "topWheel", fn := fun _ => fun
  | [d1, d2, d3, d4, d5] => { results := [.lit (.bool false)], args := [d1, d2, d3, d4, d5] }
  | _ => none }
def TopWheelWrongFalsely : Prop := topWheelRow.holds Try.pinned (OpenSpec.ofChange topWheelWrong)

/- THE SECOND FORM. 'bulk': how many values and letters a reading holds, each counted each time it is reached (what is shared counts as often as it is met; a slice's spare places count too). A statement '..UptoSaid' is the law's where the arguments, and the package variables that the reading takes, are together of bulk at most 1048576: NARROWER than '..Said'. Prove '..Said' where nothing that the law and all that it calls make is longer than what came in: it says more and counts as full. Else prove '..UptoSaid'. A law counts once. -/
mutual
def uptoBulk {H : Type} : DataW H → Nat
  | .lit (.string bytes) => bytes.length + 1
  | .lit _ => 1
  | .nil => 1
  | .ptr d => uptoBulk d + 1
  | .slice elems spare => uptoBulkAll elems + uptoBulkAll spare + 1
  | .agg parts => uptoBulkAll parts + 1
  | .iface _ d => uptoBulk d + 1
  | .map entries => uptoBulkEntries entries + 1
  | .held _ => 1
def uptoBulkAll {H : Type} : List (DataW H) → Nat
  | [] => 0
  | d :: r => uptoBulk d + uptoBulkAll r
def uptoBulkEntries {H : Type} : List (Lit × DataW H) → Nat
  | [] => 0
  | x :: r => uptoBulkEntry x + uptoBulkEntries r
def uptoBulkEntry {H : Type} : Lit × DataW H → Nat
  | (.string bytes, d) => bytes.length + uptoBulk d + 1
  | (_, d) => uptoBulk d + 1
 end
def uptoSmall : (H : Type) → List (DataW H) → Bool := fun _ ds => decide (uptoBulkAll ds ≤ 1048576)
def OpenSpec.upto (s : _root_.Go.ChangeSpec) : _root_.Go.OpenSpec := { _root_.Go.OpenSpec.ofChange s with cond := some uptoSmall }

/-- 'droplaw4.EarOnce', WHERE WHAT IT READS IS OF BULK AT MOST 1048576: true; the input reads as it did. -/
def earOnceUptoRow : OpenClaim := { program := "ytmkmkaiapgedjaa", sum := "3225dc5f280a44b926f643e79da4dde045ca8642b48f35f2e0a55993e020ecea", func := "dropletmill/droplaw4.EarOnce", spec := "earOnce", inPlace := ["internal/abi.NoEscape", "internal/bytealg.MakeNoZero"], unfollowed := true, recurses := true, apart := false, narrowed := true }
def EarOnceUptoSaid : Prop := earOnceUptoRow.holds Try.pinned (OpenSpec.upto earOnceSpec)

/-- 'droptop.TopEnough', WHERE WHAT IT READS IS OF BULK AT MOST 1048576: true; the input reads as it did. -/
def topEnoughUptoRow : OpenClaim := { program := "ytmkmkaiapgedjaa", sum := "3225dc5f280a44b926f643e79da4dde045ca8642b48f35f2e0a55993e020ecea", func := "dropletmill/droptop.TopEnough", spec := "topEnough", inPlace := ["internal/abi.NoEscape", "internal/bytealg.MakeNoZero"], unfollowed := true, recurses := true, apart := false, narrowed := true }
def TopEnoughUptoSaid : Prop := topEnoughUptoRow.holds Try.pinned (OpenSpec.upto topEnoughSpec)

/-- 'droptop.TopWheel', WHERE WHAT IT READS IS OF BULK AT MOST 1048576: true; the input reads as it did. -/
def topWheelUptoRow : OpenClaim := { program := "ytmkmkaiapgedjaa", sum := "3225dc5f280a44b926f643e79da4dde045ca8642b48f35f2e0a55993e020ecea", func := "dropletmill/droptop.TopWheel", spec := "topWheel", inPlace := ["internal/abi.NoEscape", "internal/bytealg.MakeNoZero"], unfollowed := true, recurses := true, apart := false, narrowed := true }
def TopWheelUptoSaid : Prop := topWheelUptoRow.holds Try.pinned (OpenSpec.upto topWheelSpec)

end Rows
end Go.Proofs.Ytmkmkaiapgedjaa
