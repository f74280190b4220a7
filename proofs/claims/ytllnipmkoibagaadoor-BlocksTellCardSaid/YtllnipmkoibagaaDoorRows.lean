/-
  NARROWER THAN 'FOR EVERY INPUT', by the rows' own cells (each row's printed sentence says how): ChanceTells: laid · DegreeTells: laid · WheelTells: laid · MixTells: laid · BlocksMany: laid · BlocksTell: laid · GuardTells: laid · GuardTwo: laid · DropTells: laid.
  DERIVED. THE GIVEN ROWS OF THIS SEAT. 9 by the template 'for every input the law returns true; each argument reads behind the call as it read before'; 0 by the template 'total and deterministic' (their statements: YtllnipmkoibagaaDoorTotals.lean).
  GIVEN WITH THE SEED: the statements are not yours to turn. If you find one false, say at which input.
  Laid BY PROGRAM, IN A SANDBOX (cutbox-rows.mjs): the forced cells as the released guide's own fill.sh prints them over the translation c83c21c4e37ade72… (all of the seat's roots in one cut). By AI agents, Wed Nov 11 2026. No macro, syntax, notation, axiom, sorry.
-/
import Derived.Test.YtllnipmkoibagaaDoorChecked
import GoSem.Claim
import GoSem.ClaimJoined
import GoSem.ClaimMapViews
import Derived.JoinedTies
import Derived.KernelRfl
namespace Go.Proofs.YtllnipmkoibagaaDoor
/- THE CELL 'sum', in the pinned program and in every row, IS THE sha256 OF THE DUMP (.gsa) THAT YtllnipmkoibagaaDoorProg.lean LOADS. Nothing in Lean hashes anything: it is a label: what it is worth is what the hold of that sum in a sandbox is worth. -/
noncomputable def Tryd.pinned : Pinned := { name := "ytllnipmkoibagaadoor", sum := "c83c21c4e37ade72c549054ef3462aca8529600e1d067bfeffe354f82e88546d", checked := Tryd.checked }
namespace Rows
def none {H : Type} : Left H := { results := [], args := [] }

/- WHAT THE LISTED PACKAGE-LEVEL VARIABLES READ AS WHEN THE CALL BEGINS. Each datum BY PROGRAM (the guide's laid-datum.mjs) off the statement by which the dump's own 'gosem.cut.vars' lays the variable. In a bare row this is a premise. The card (YtllnipmkoibagaaDoorCards.lean) ties it to the program's text. -/
def laid_errors_errorType {H : Type} : DataW H := .iface "internal/reflectlite.rtype" (.agg [.ptr (.lit (.string [101, 114, 114, 111, 114]))])

/-- 'droplaw1.ChanceTells': WHATEVER THE INPUT: true; the input reads as it did. -/
def chanceTellsSpec : ChangeSpec := { name := "chanceTells", fn := fun _ => fun
  | [d1, d2, d3] => { results := [.lit (.bool true)], args := [d1, d2, d3] }
  | _ => none }
def chanceTellsRow : OpenClaim := { program := "ytllnipmkoibagaadoor", sum := "c83c21c4e37ade72c549054ef3462aca8529600e1d067bfeffe354f82e88546d", func := "dropletmill/droplaw1.ChanceTells", spec := "chanceTells", inPlace := ["internal/reflectlite.ValueOf", "(internal/reflectlite.Value).Type", "(internal/reflectlite.Value).IsNil", "internal/reflectlite.TypeOf", "(internal/reflectlite.Value).Elem", "(internal/reflectlite.Value).Set"], unfollowed := true, recurses := true, named := ["errors.errorType"], apart := false, laid := [("errors.errorType", laid_errors_errorType)] }
def ChanceTellsSaid : Prop := chanceTellsRow.holds Tryd.pinned (OpenSpec.ofChange chanceTellsSpec)

/-- ITS FALSE NEIGHBOUR: 'it returns false'. Refute it at one input. -/
def chanceTellsWrong : ChangeSpec := { name := "chanceTells", fn := fun _ => fun
  | [d1, d2, d3] => { results := [.lit (.bool false)], args := [d1, d2, d3] }
  | _ => none }
def ChanceTellsWrongFalsely : Prop := chanceTellsRow.holds Tryd.pinned (OpenSpec.ofChange chanceTellsWrong)

/-- 'droplaw1.DegreeTells': WHATEVER THE INPUT: true; the input reads as it did. -/
def degreeTellsSpec : ChangeSpec := { name := "degreeTells", fn := fun _ => fun
  | [d1, d2] => { results := [.lit (.bool true)], args := [d1, d2] }
  | _ => none }
def degreeTellsRow : OpenClaim := { program := "ytllnipmkoibagaadoor", sum := "c83c21c4e37ade72c549054ef3462aca8529600e1d067bfeffe354f82e88546d", func := "dropletmill/droplaw1.DegreeTells", spec := "degreeTells", inPlace := ["internal/reflectlite.ValueOf", "(internal/reflectlite.Value).Type", "(internal/reflectlite.Value).IsNil", "internal/reflectlite.TypeOf", "(internal/reflectlite.Value).Elem", "(internal/reflectlite.Value).Set"], unfollowed := true, recurses := true, named := ["errors.errorType"], apart := false, laid := [("errors.errorType", laid_errors_errorType)] }
def DegreeTellsSaid : Prop := degreeTellsRow.holds Tryd.pinned (OpenSpec.ofChange degreeTellsSpec)

/-- ITS FALSE NEIGHBOUR: 'it returns false'. Refute it at one input. -/
def degreeTellsWrong : ChangeSpec := { name := "degreeTells", fn := fun _ => fun
  | [d1, d2] => { results := [.lit (.bool false)], args := [d1, d2] }
  | _ => none }
def DegreeTellsWrongFalsely : Prop := degreeTellsRow.holds Tryd.pinned (OpenSpec.ofChange degreeTellsWrong)

/-- 'droplaw1.WheelTells': WHATEVER THE INPUT: true; the input reads as it did. -/
def wheelTellsSpec : ChangeSpec := { name := "wheelTells", fn := fun _ => fun
  | [d1, d2, d3, d4, d5] => { results := [.lit (.bool true)], args := [d1, d2, d3, d4, d5] }
  | _ => none }
def wheelTellsRow : OpenClaim := { program := "ytllnipmkoibagaadoor", sum := "c83c21c4e37ade72c549054ef3462aca8529600e1d067bfeffe354f82e88546d", func := "dropletmill/droplaw1.WheelTells", spec := "wheelTells", inPlace := ["internal/reflectlite.ValueOf", "(internal/reflectlite.Value).Type", "(internal/reflectlite.Value).IsNil", "internal/reflectlite.TypeOf", "(internal/reflectlite.Value).Elem", "(internal/reflectlite.Value).Set"], unfollowed := true, recurses := true, named := ["errors.errorType"], apart := false, laid := [("errors.errorType", laid_errors_errorType)] }
def WheelTellsSaid : Prop := wheelTellsRow.holds Tryd.pinned (OpenSpec.ofChange wheelTellsSpec)

/-- ITS FALSE NEIGHBOUR: 'it returns false'. Refute it at one input. -/
def wheelTellsWrong : ChangeSpec := { name := "wheelTells", fn := fun _ => fun
  | [d1, d2, d3, d4, d5] => { results := [.lit (.bool false)], args := [d1, d2, d3, d4, d5] }
  | _ => none }
def WheelTellsWrongFalsely : Prop := wheelTellsRow.holds Tryd.pinned (OpenSpec.ofChange wheelTellsWrong)

/-- 'droplaw1.MixTells': WHATEVER THE INPUT: true; the input reads as it did. -/
def mixTellsSpec : ChangeSpec := { name := "mixTells", fn := fun _ => fun
  | [d1, d2, d3, d4, d5] => { results := [.lit (.bool true)], args := [d1, d2, d3, d4, d5] }
  | _ => none }
def mixTellsRow : OpenClaim := { program := "ytllnipmkoibagaadoor", sum := "c83c21c4e37ade72c549054ef3462aca8529600e1d067bfeffe354f82e88546d", func := "dropletmill/droplaw1.MixTells", spec := "mixTells", inPlace := ["internal/reflectlite.ValueOf", "(internal/reflectlite.Value).Type", "(internal/reflectlite.Value).IsNil", "internal/reflectlite.TypeOf", "(internal/reflectlite.Value).Elem", "(internal/reflectlite.Value).Set"], unfollowed := true, recurses := true, named := ["errors.errorType"], apart := false, laid := [("errors.errorType", laid_errors_errorType)] }
def MixTellsSaid : Prop := mixTellsRow.holds Tryd.pinned (OpenSpec.ofChange mixTellsSpec)

/-- ITS FALSE NEIGHBOUR: 'it returns false'. Refute it at one input. -/
def mixTellsWrong : ChangeSpec := { name := "mixTells", fn := fun _ => fun
  | [d1, d2, d3, d4, d5] => { results := [.lit (.bool false)], args := [d1, d2, d3, d4, d5] }
  | _ => none }
def MixTellsWrongFalsely : Prop := mixTellsRow.holds Tryd.pinned (OpenSpec.ofChange mixTellsWrong)

/-- 'droplaw4.BlocksMany': WHATEVER THE INPUT: true; the input reads as it did. -/
def blocksManySpec : ChangeSpec := { name := "blocksMany", fn := fun _ => fun
  | [d1, d2] => { results := [.lit (.bool true)], args := [d1, d2] }
  | _ => none }
def blocksManyRow : OpenClaim := { program := "ytllnipmkoibagaadoor", sum := "c83c21c4e37ade72c549054ef3462aca8529600e1d067bfeffe354f82e88546d", func := "dropletmill/droplaw4.BlocksMany", spec := "blocksMany", inPlace := ["internal/abi.NoEscape", "internal/bytealg.MakeNoZero", "internal/reflectlite.ValueOf", "(internal/reflectlite.Value).Type", "(internal/reflectlite.Value).IsNil", "internal/reflectlite.TypeOf", "(internal/reflectlite.Value).Elem", "(internal/reflectlite.Value).Set"], unfollowed := true, recurses := true, named := ["errors.errorType"], apart := false, laid := [("errors.errorType", laid_errors_errorType)] }
def BlocksManySaid : Prop := blocksManyRow.holds Tryd.pinned (OpenSpec.ofChange blocksManySpec)

/-- ITS FALSE NEIGHBOUR: 'it returns false'. Refute it at one input. -/
def blocksManyWrong : ChangeSpec := { name := "blocksMany", fn := fun _ => fun
  | [d1, d2] => { results := [.lit (.bool false)], args := [d1, d2] }
  | _ => none }
def BlocksManyWrongFalsely : Prop := blocksManyRow.holds Tryd.pinned (OpenSpec.ofChange blocksManyWrong)

/-- 'droplaw1.BlocksTell': WHATEVER THE INPUT: true; the input reads as it did. -/
def blocksTellSpec : ChangeSpec := { name := "blocksTell", fn := fun _ => fun
  | [d1, d2, d3, d4] => { results := [.lit (.bool true)], args := [d1, d2, d3, d4] }
  | _ => none }
def blocksTellRow : OpenClaim := { program := "ytllnipmkoibagaadoor", sum := "c83c21c4e37ade72c549054ef3462aca8529600e1d067bfeffe354f82e88546d", func := "dropletmill/droplaw1.BlocksTell", spec := "blocksTell", inPlace := ["internal/abi.NoEscape", "internal/bytealg.MakeNoZero", "internal/reflectlite.ValueOf", "(internal/reflectlite.Value).Type", "(internal/reflectlite.Value).IsNil", "internal/reflectlite.TypeOf", "(internal/reflectlite.Value).Elem", "(internal/reflectlite.Value).Set"], unfollowed := true, recurses := true, named := ["errors.errorType"], apart := false, laid := [("errors.errorType", laid_errors_errorType)] }
def BlocksTellSaid : Prop := blocksTellRow.holds Tryd.pinned (OpenSpec.ofChange blocksTellSpec)

/-- ITS FALSE NEIGHBOUR: 'it returns false'. Refute it at one input. -/
def blocksTellWrong : ChangeSpec := { name := "blocksTell", fn := fun _ => fun
  | [d1, d2, d3, d4] => { results := [.lit (.bool false)], args := [d1, d2, d3, d4] }
  | _ => none }
def BlocksTellWrongFalsely : Prop := blocksTellRow.holds Tryd.pinned (OpenSpec.ofChange blocksTellWrong)

/-- 'droplaw1.GuardTells': WHATEVER THE INPUT: true; the input reads as it did. -/
def guardTellsSpec : ChangeSpec := { name := "guardTells", fn := fun _ => fun
  | [d1, d2, d3, d4] => { results := [.lit (.bool true)], args := [d1, d2, d3, d4] }
  | _ => none }
def guardTellsRow : OpenClaim := { program := "ytllnipmkoibagaadoor", sum := "c83c21c4e37ade72c549054ef3462aca8529600e1d067bfeffe354f82e88546d", func := "dropletmill/droplaw1.GuardTells", spec := "guardTells", inPlace := ["internal/reflectlite.ValueOf", "(internal/reflectlite.Value).Type", "(internal/reflectlite.Value).IsNil", "internal/reflectlite.TypeOf", "(internal/reflectlite.Value).Elem", "(internal/reflectlite.Value).Set"], unfollowed := true, recurses := true, named := ["errors.errorType"], apart := false, laid := [("errors.errorType", laid_errors_errorType)] }
def GuardTellsSaid : Prop := guardTellsRow.holds Tryd.pinned (OpenSpec.ofChange guardTellsSpec)

/-- ITS FALSE NEIGHBOUR: 'it returns false'. Refute it at one input. -/
def guardTellsWrong : ChangeSpec := { name := "guardTells", fn := fun _ => fun
  | [d1, d2, d3, d4] => { results := [.lit (.bool false)], args := [d1, d2, d3, d4] }
  | _ => none }
def GuardTellsWrongFalsely : Prop := guardTellsRow.holds Tryd.pinned (OpenSpec.ofChange guardTellsWrong)

/-- 'droplaw4.GuardTwo': WHATEVER THE INPUT: true; the input reads as it did. -/
def guardTwoSpec : ChangeSpec := { name := "guardTwo", fn := fun _ => fun
  | [d1, d2] => { results := [.lit (.bool true)], args := [d1, d2] }
  | _ => none }
def guardTwoRow : OpenClaim := { program := "ytllnipmkoibagaadoor", sum := "c83c21c4e37ade72c549054ef3462aca8529600e1d067bfeffe354f82e88546d", func := "dropletmill/droplaw4.GuardTwo", spec := "guardTwo", inPlace := ["internal/reflectlite.ValueOf", "(internal/reflectlite.Value).Type", "(internal/reflectlite.Value).IsNil", "internal/reflectlite.TypeOf", "(internal/reflectlite.Value).Elem", "(internal/reflectlite.Value).Set"], unfollowed := true, recurses := true, named := ["errors.errorType"], apart := false, laid := [("errors.errorType", laid_errors_errorType)] }
def GuardTwoSaid : Prop := guardTwoRow.holds Tryd.pinned (OpenSpec.ofChange guardTwoSpec)

/-- ITS FALSE NEIGHBOUR: 'it returns false'. Refute it at one input. -/
def guardTwoWrong : ChangeSpec := { name := "guardTwo", fn := fun _ => fun
  | [d1, d2] => { results := [.lit (.bool false)], args := [d1, d2] }
  | _ => none }
def GuardTwoWrongFalsely : Prop := guardTwoRow.holds Tryd.pinned (OpenSpec.ofChange guardTwoWrong)

/-- 'droplaw1.DropTells': WHATEVER THE INPUT: true; the input reads as it did. -/
def dropTellsSpec : ChangeSpec := { name := "dropTells", fn := fun _ => fun
  | [d1, d2, d3, d4, d5] => { results := [.lit (.bool true)], args := [d1, d2, d3, d4, d5] }
  | _ => none }
def dropTellsRow : OpenClaim := { program := "ytllnipmkoibagaadoor", sum := "c83c21c4e37ade72c549054ef3462aca8529600e1d067bfeffe354f82e88546d", func := "dropletmill/droplaw1.DropTells", spec := "dropTells", inPlace := ["internal/reflectlite.ValueOf", "(internal/reflectlite.Value).Type", "(internal/reflectlite.Value).IsNil", "internal/reflectlite.TypeOf", "(internal/reflectlite.Value).Elem", "(internal/reflectlite.Value).Set"], unfollowed := true, recurses := true, named := ["errors.errorType"], apart := false, laid := [("errors.errorType", laid_errors_errorType)] }
def DropTellsSaid : Prop := dropTellsRow.holds Tryd.pinned (OpenSpec.ofChange dropTellsSpec)

/-- ITS FALSE NEIGHBOUR: 'it returns false'. Refute it at one input. -/
def dropTellsWrong : ChangeSpec := { name := "dropTells", fn := fun _ => fun
  | [d1, d2, d3, d4, d5] => { results := [.lit (.bool false)], args := [d1, d2, d3, d4, d5] }
  | _ => none }
def DropTellsWrongFalsely : Prop := dropTellsRow.holds Tryd.pinned (OpenSpec.ofChange dropTellsWrong)

/- THE SECOND FORM. 'bulk': how many values and letters a reading holds, each counted each time it is reached (what is shared counts as often as it is met; a slice's spare places count too). A statement '..UptoSaid' is the law's where the arguments, and the package variables that the reading takes, are together of bulk at most 1048576: NARROWER than '..Said'. Prove '..Said' where nothing that the law and all that it calls make is longer than what came in: it says more and counts as full. Else prove '..UptoSaid'. A law counts once. -/
mutual
def uptoBulk {H : Type} : DataW H → Nat
  | .lit (.string bytes) => bytes.length + 1
  | .lit _ => 1
  | .nil => 1
  | .ptr d => uptoBulk d + 1
  | .slice elems spare => uptoBulkAll elems + uptoBulkAll spare + 1
  | .agg parts => uptoBulkAll parts + 1
  | .iface _ d => uptoBulk d + 1
  | .map entries => uptoBulkEntries entries + 1
  | .held _ => 1
def uptoBulkAll {H : Type} : List (DataW H) → Nat
  | [] => 0
  | d :: r => uptoBulk d + uptoBulkAll r
def uptoBulkEntries {H : Type} : List (Lit × DataW H) → Nat
  | [] => 0
  | x :: r => uptoBulkEntry x + uptoBulkEntries r
def uptoBulkEntry {H : Type} : Lit × DataW H → Nat
  | (.string bytes, d) => bytes.length + uptoBulk d + 1
  | (_, d) => uptoBulk d + 1
 end
def uptoSmall : (H : Type) → List (DataW H) → Bool := fun _ ds => decide (uptoBulkAll ds ≤ 1048576)
def OpenSpec.upto (s : _root_.Go.ChangeSpec) : _root_.Go.OpenSpec := { _root_.Go.OpenSpec.ofChange s with cond := some uptoSmall }

/-- 'droplaw1.ChanceTells', WHERE WHAT IT READS IS OF BULK AT MOST 1048576: true; the input reads as it did. -/
def chanceTellsUptoRow : OpenClaim := { program := "ytllnipmkoibagaadoor", sum := "c83c21c4e37ade72c549054ef3462aca8529600e1d067bfeffe354f82e88546d", func := "dropletmill/droplaw1.ChanceTells", spec := "chanceTells", inPlace := ["internal/reflectlite.ValueOf", "(internal/reflectlite.Value).Type", "(internal/reflectlite.Value).IsNil", "internal/reflectlite.TypeOf", "(internal/reflectlite.Value).Elem", "(internal/reflectlite.Value).Set"], unfollowed := true, recurses := true, named := ["errors.errorType"], apart := false, laid := [("errors.errorType", laid_errors_errorType)], narrowed := true }
def ChanceTellsUptoSaid : Prop := chanceTellsUptoRow.holds Tryd.pinned (OpenSpec.upto chanceTellsSpec)

/-- 'droplaw1.DegreeTells', WHERE WHAT IT READS IS OF BULK AT MOST 1048576: true; the input reads as it did. -/
def degreeTellsUptoRow : OpenClaim := { program := "ytllnipmkoibagaadoor", sum := "c83c21c4e37ade72c549054ef3462aca8529600e1d067bfeffe354f82e88546d", func := "dropletmill/droplaw1.DegreeTells", spec := "degreeTells", inPlace := ["internal/reflectlite.ValueOf", "(internal/reflectlite.Value).Type", "(internal/reflectlite.Value).IsNil", "internal/reflectlite.TypeOf", "(internal/reflectlite.Value).Elem", "(internal/reflectlite.Value).Set"], unfollowed := true, recurses := true, named := ["errors.errorType"], apart := false, laid := [("errors.errorType", laid_errors_errorType)], narrowed := true }
def DegreeTellsUptoSaid : Prop := degreeTellsUptoRow.holds Tryd.pinned (OpenSpec.upto degreeTellsSpec)

/-- 'droplaw1.WheelTells', WHERE WHAT IT READS IS OF BULK AT MOST 1048576: true; the input reads as it did. -/
def wheelTellsUptoRow : OpenClaim := { program := "ytllnipmkoibagaadoor", sum := "c83c21c4e37ade72c549054ef3462aca8529600e1d067bfeffe354f82e88546d", func := "dropletmill/droplaw1.WheelTells", spec := "wheelTells", inPlace := ["internal/reflectlite.ValueOf", "(internal/reflectlite.Value).Type", "(internal/reflectlite.Value).IsNil", "internal/reflectlite.TypeOf", "(internal/reflectlite.Value).Elem", "(internal/reflectlite.Value).Set"], unfollowed := true, recurses := true, named := ["errors.errorType"], apart := false, laid := [("errors.errorType", laid_errors_errorType)], narrowed := true }
def WheelTellsUptoSaid : Prop := wheelTellsUptoRow.holds Tryd.pinned (OpenSpec.upto wheelTellsSpec)

/-- 'droplaw1.MixTells', WHERE WHAT IT READS IS OF BULK AT MOST 1048576: true; the input reads as it did. -/
def mixTellsUptoRow : OpenClaim := { program := "ytllnipmkoibagaadoor", sum := "c83c21c4e37ade72c549054ef3462aca8529600e1d067bfeffe354f82e88546d", func := "dropletmill/droplaw1.MixTells", spec := "mixTells", inPlace := ["internal/reflectlite.ValueOf", "(internal/reflectlite.Value).Type", "(internal/reflectlite.Value).IsNil", "internal/reflectlite.TypeOf", "(internal/reflectlite.Value).Elem", "(internal/reflectlite.Value).Set"], unfollowed := true, recurses := true, named := ["errors.errorType"], apart := false, laid := [("errors.errorType", laid_errors_errorType)], narrowed := true }
def MixTellsUptoSaid : Prop := mixTellsUptoRow.holds Tryd.pinned (OpenSpec.upto mixTellsSpec)

/-- 'droplaw4.BlocksMany', WHERE WHAT IT READS IS OF BULK AT MOST 1048576: true; the input reads as it did. -/
def blocksManyUptoRow : OpenClaim := { program := "ytllnipmkoibagaadoor", sum := "c83c21c4e37ade72c549054ef3462aca8529600e1d067bfeffe354f82e88546d", func := "dropletmill/droplaw4.BlocksMany", spec := "blocksMany", inPlace := ["internal/abi.NoEscape", "internal/bytealg.MakeNoZero", "internal/reflectlite.ValueOf", "(internal/reflectlite.Value).Type", "(internal/reflectlite.Value).IsNil", "internal/reflectlite.TypeOf", "(internal/reflectlite.Value).Elem", "(internal/reflectlite.Value).Set"], unfollowed := true, recurses := true, named := ["errors.errorType"], apart := false, laid := [("errors.errorType", laid_errors_errorType)], narrowed := true }
def BlocksManyUptoSaid : Prop := blocksManyUptoRow.holds Tryd.pinned (OpenSpec.upto blocksManySpec)

/-- 'droplaw1.BlocksTell', WHERE WHAT IT READS IS OF BULK AT MOST 1048576: true; the input reads as it did. -/
def blocksTellUptoRow : OpenClaim := { program := "ytllnipmkoibagaadoor", sum := "c83c21c4e37ade72c549054ef3462aca8529600e1d067bfeffe354f82e88546d", func := "dropletmill/droplaw1.BlocksTell", spec := "blocksTell", inPlace := ["internal/abi.NoEscape", "internal/bytealg.MakeNoZero", "internal/reflectlite.ValueOf", "(internal/reflectlite.Value).Type", "(internal/reflectlite.Value).IsNil", "internal/reflectlite.TypeOf", "(internal/reflectlite.Value).Elem", "(internal/reflectlite.Value).Set"], unfollowed := true, recurses := true, named := ["errors.errorType"], apart := false, laid := [("errors.errorType", laid_errors_errorType)], narrowed := true }
def BlocksTellUptoSaid : Prop := blocksTellUptoRow.holds Tryd.pinned (OpenSpec.upto blocksTellSpec)

/-- 'droplaw1.GuardTells', WHERE WHAT IT READS IS OF BULK AT MOST 1048576: true; the input reads as it did. -/
def guardTellsUptoRow : OpenClaim := { program := "ytllnipmkoibagaadoor", sum := "c83c21c4e37ade72c549054ef3462aca8529600e1d067bfeffe354f82e88546d", func := "dropletmill/droplaw1.GuardTells", spec := "guardTells", inPlace := ["internal/reflectlite.ValueOf", "(internal/reflectlite.Value).Type", "(internal/reflectlite.Value).IsNil", "internal/reflectlite.TypeOf", "(internal/reflectlite.Value).Elem", "(internal/reflectlite.Value).Set"], unfollowed := true, recurses := true, named := ["errors.errorType"], apart := false, laid := [("errors.errorType", laid_errors_errorType)], narrowed := true }
def GuardTellsUptoSaid : Prop := guardTellsUptoRow.holds Tryd.pinned (OpenSpec.upto guardTellsSpec)

/-- 'droplaw4.GuardTwo', WHERE WHAT IT READS IS OF BULK AT MOST 1048576: true; the input reads as it did. -/
def guardTwoUptoRow : OpenClaim := { program := "ytllnipmkoibagaadoor", sum := "c83c21c4e37ade72c549054ef3462aca8529600e1d067bfeffe354f82e88546d", func := "dropletmill/droplaw4.GuardTwo", spec := "guardTwo", inPlace := ["internal/reflectlite.ValueOf", "(internal/reflectlite.Value).Type", "(internal/reflectlite.Value).IsNil", "internal/reflectlite.TypeOf", "(internal/reflectlite.Value).Elem", "(internal/reflectlite.Value).Set"], unfollowed := true, recurses := true, named := ["errors.errorType"], apart := false, laid := [("errors.errorType", laid_errors_errorType)], narrowed := true }
def GuardTwoUptoSaid : Prop := guardTwoUptoRow.holds Tryd.pinned (OpenSpec.upto guardTwoSpec)

/-- 'droplaw1.DropTells', WHERE WHAT IT READS IS OF BULK AT MOST 1048576: true; the input reads as it did. -/
def dropTellsUptoRow : OpenClaim := { program := "ytllnipmkoibagaadoor", sum := "c83c21c4e37ade72c549054ef3462aca8529600e1d067bfeffe354f82e88546d", func := "dropletmill/droplaw1.DropTells", spec := "dropTells", inPlace := ["internal/reflectlite.ValueOf", "(internal/reflectlite.Value).Type", "(internal/reflectlite.Value).IsNil", "internal/reflectlite.TypeOf", "(internal/reflectlite.Value).Elem", "(internal/reflectlite.Value).Set"], unfollowed := true, recurses := true, named := ["errors.errorType"], apart := false, laid := [("errors.errorType", laid_errors_errorType)], narrowed := true }
def DropTellsUptoSaid : Prop := dropTellsUptoRow.holds Tryd.pinned (OpenSpec.upto dropTellsSpec)

end Rows
end Go.Proofs.YtllnipmkoibagaaDoor
