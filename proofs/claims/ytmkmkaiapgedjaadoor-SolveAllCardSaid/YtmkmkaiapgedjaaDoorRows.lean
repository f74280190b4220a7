/-
  NARROWER THAN 'FOR EVERY INPUT', by the rows' own cells (each row's printed sentence says how): NeedTells: laid · SolveTells: laid · PeelPlays: laid · PeelRight: laid · SolveAll: laid · PeelAll: laid.
  DERIVED. THE GIVEN ROWS OF THIS SEAT. 6 by the template 'for every input the law returns true; each argument reads behind the call as it read before'; 0 by the template 'total and deterministic' (their statements: YtmkmkaiapgedjaaDoorTotals.lean).
  GIVEN WITH THE SEED: the statements are not yours to turn. If you find one false, say at which input.
  Laid BY PROGRAM, IN A SANDBOX (cutbox-rows.mjs): the forced cells as the released guide's own fill.sh prints them over the translation 7498465575f64a67… (all of the seat's roots in one cut). By AI agents, Wed Nov 11 2026. No macro, syntax, notation, axiom, sorry.
-/
import Derived.Test.YtmkmkaiapgedjaaDoorChecked
import GoSem.Claim
import GoSem.ClaimJoined
import GoSem.ClaimMapViews
import Derived.JoinedTies
import Derived.KernelRfl
namespace Go.Proofs.YtmkmkaiapgedjaaDoor
/- THE CELL 'sum', in the pinned program and in every row, IS THE sha256 OF THE DUMP (.gsa) THAT YtmkmkaiapgedjaaDoorProg.lean LOADS. Nothing in Lean hashes anything: it is a label: what it is worth is what the hold of that sum in a sandbox is worth. -/
noncomputable def Tryd.pinned : Pinned := { name := "ytmkmkaiapgedjaadoor", sum := "7498465575f64a67c39322358f0aa0dc377c1be4908f097c8de67e310ee14b60", checked := Tryd.checked }
namespace Rows
def none {H : Type} : Left H := { results := [], args := [] }

/- WHAT THE LISTED PACKAGE-LEVEL VARIABLES READ AS WHEN THE CALL BEGINS. Each datum BY PROGRAM (the guide's laid-datum.mjs) off the statement by which the dump's own 'gosem.cut.vars' lays the variable. In a bare row this is a premise. The card (YtmkmkaiapgedjaaDoorCards.lean) ties it to the program's text. -/
def laid_errors_errorType {H : Type} : DataW H := .iface "internal/reflectlite.rtype" (.agg [.ptr (.lit (.string [101, 114, 114, 111, 114]))])

/-- 'droplaw1.NeedTells': WHATEVER THE INPUT: true; the input reads as it did. -/
def needTellsSpec : ChangeSpec := { name := "needTells", fn := fun _ => fun
  | [d1, d2] => { results := [.lit (.bool true)], args := [d1, d2] }
  | _ => none }
def needTellsRow : OpenClaim := { program := "ytmkmkaiapgedjaadoor", sum := "7498465575f64a67c39322358f0aa0dc377c1be4908f097c8de67e310ee14b60", func := "dropletmill/droplaw1.NeedTells", spec := "needTells", inPlace := ["internal/reflectlite.ValueOf", "(internal/reflectlite.Value).Type", "(internal/reflectlite.Value).IsNil", "internal/reflectlite.TypeOf", "(internal/reflectlite.Value).Elem", "(internal/reflectlite.Value).Set"], unfollowed := true, recurses := true, named := ["errors.errorType"], apart := false, laid := [("errors.errorType", laid_errors_errorType)] }
def NeedTellsSaid : Prop := needTellsRow.holds Tryd.pinned (OpenSpec.ofChange needTellsSpec)

/-- ITS FALSE NEIGHBOUR: 'it returns false'. Refute it at one input. -/
def needTellsWrong : ChangeSpec := { name := "needTells", fn := fun _ => fun
  | [d1, d2] => { results := [.lit (.bool false)], args := [d1, d2] }
  | _ => none }
def NeedTellsWrongFalsely : Prop := needTellsRow.holds Tryd.pinned (OpenSpec.ofChange needTellsWrong)

/-- 'droplaw1.SolveTells': WHATEVER THE INPUT: true; the input reads as it did. -/
def solveTellsSpec : ChangeSpec := { name := "solveTells", fn := fun _ => fun
  | [d1, d2, d3, d4] => { results := [.lit (.bool true)], args := [d1, d2, d3, d4] }
  | _ => none }
def solveTellsRow : OpenClaim := { program := "ytmkmkaiapgedjaadoor", sum := "7498465575f64a67c39322358f0aa0dc377c1be4908f097c8de67e310ee14b60", func := "dropletmill/droplaw1.SolveTells", spec := "solveTells", inPlace := ["internal/reflectlite.ValueOf", "(internal/reflectlite.Value).Type", "(internal/reflectlite.Value).IsNil", "internal/reflectlite.TypeOf", "(internal/reflectlite.Value).Elem", "(internal/reflectlite.Value).Set"], unfollowed := true, recurses := true, named := ["errors.errorType"], apart := false, laid := [("errors.errorType", laid_errors_errorType)] }
def SolveTellsSaid : Prop := solveTellsRow.holds Tryd.pinned (OpenSpec.ofChange solveTellsSpec)

/-- ITS FALSE NEIGHBOUR: 'it returns false'. Refute it at one input. -/
def solveTellsWrong : ChangeSpec := { name := "solveTells", fn := fun _ => fun
  | [d1, d2, d3, d4] => { results := [.lit (.bool false)], args := [d1, d2, d3, d4] }
  | _ => none }
def SolveTellsWrongFalsely : Prop := solveTellsRow.holds Tryd.pinned (OpenSpec.ofChange solveTellsWrong)

/-- 'droplaw1.PeelPlays': WHATEVER THE INPUT: true; the input reads as it did. -/
def peelPlaysSpec : ChangeSpec := { name := "peelPlays", fn := fun _ => fun
  | [d1, d2, d3, d4] => { results := [.lit (.bool true)], args := [d1, d2, d3, d4] }
  | _ => none }
def peelPlaysRow : OpenClaim := { program := "ytmkmkaiapgedjaadoor", sum := "7498465575f64a67c39322358f0aa0dc377c1be4908f097c8de67e310ee14b60", func := "dropletmill/droplaw1.PeelPlays", spec := "peelPlays", inPlace := ["internal/reflectlite.ValueOf", "(internal/reflectlite.Value).Type", "(internal/reflectlite.Value).IsNil", "internal/reflectlite.TypeOf", "(internal/reflectlite.Value).Elem", "(internal/reflectlite.Value).Set"], unfollowed := true, recurses := true, named := ["errors.errorType"], apart := false, laid := [("errors.errorType", laid_errors_errorType)] }
def PeelPlaysSaid : Prop := peelPlaysRow.holds Tryd.pinned (OpenSpec.ofChange peelPlaysSpec)

/-- ITS FALSE NEIGHBOUR: 'it returns false'. Refute it at one input. -/
def peelPlaysWrong : ChangeSpec := { name := "peelPlays", fn := fun _ => fun
  | [d1, d2, d3, d4] => { results := [.lit (.bool false)], args := [d1, d2, d3, d4] }
  | _ => none }
def PeelPlaysWrongFalsely : Prop := peelPlaysRow.holds Tryd.pinned (OpenSpec.ofChange peelPlaysWrong)

/-- 'droplaw1.PeelRight': WHATEVER THE INPUT: true; the input reads as it did. -/
def peelRightSpec : ChangeSpec := { name := "peelRight", fn := fun _ => fun
  | [d1, d2] => { results := [.lit (.bool true)], args := [d1, d2] }
  | _ => none }
def peelRightRow : OpenClaim := { program := "ytmkmkaiapgedjaadoor", sum := "7498465575f64a67c39322358f0aa0dc377c1be4908f097c8de67e310ee14b60", func := "dropletmill/droplaw1.PeelRight", spec := "peelRight", inPlace := ["internal/reflectlite.ValueOf", "(internal/reflectlite.Value).Type", "(internal/reflectlite.Value).IsNil", "internal/reflectlite.TypeOf", "(internal/reflectlite.Value).Elem", "(internal/reflectlite.Value).Set"], unfollowed := true, recurses := true, named := ["errors.errorType"], apart := false, laid := [("errors.errorType", laid_errors_errorType)] }
def PeelRightSaid : Prop := peelRightRow.holds Tryd.pinned (OpenSpec.ofChange peelRightSpec)

/-- ITS FALSE NEIGHBOUR: 'it returns false'. Refute it at one input. -/
def peelRightWrong : ChangeSpec := { name := "peelRight", fn := fun _ => fun
  | [d1, d2] => { results := [.lit (.bool false)], args := [d1, d2] }
  | _ => none }
def PeelRightWrongFalsely : Prop := peelRightRow.holds Tryd.pinned (OpenSpec.ofChange peelRightWrong)

/-- 'droplaw1.SolveAll': WHATEVER THE INPUT: true; the input reads as it did. -/
def solveAllSpec : ChangeSpec := { name := "solveAll", fn := fun _ => fun
  | [d1, d2, d3] => { results := [.lit (.bool true)], args := [d1, d2, d3] }
  | _ => none }
def solveAllRow : OpenClaim := { program := "ytmkmkaiapgedjaadoor", sum := "7498465575f64a67c39322358f0aa0dc377c1be4908f097c8de67e310ee14b60", func := "dropletmill/droplaw1.SolveAll", spec := "solveAll", inPlace := ["internal/reflectlite.ValueOf", "(internal/reflectlite.Value).Type", "(internal/reflectlite.Value).IsNil", "internal/reflectlite.TypeOf", "(internal/reflectlite.Value).Elem", "(internal/reflectlite.Value).Set"], unfollowed := true, recurses := true, named := ["errors.errorType"], apart := false, laid := [("errors.errorType", laid_errors_errorType)] }
def SolveAllSaid : Prop := solveAllRow.holds Tryd.pinned (OpenSpec.ofChange solveAllSpec)

/-- ITS FALSE NEIGHBOUR: 'it returns false'. Refute it at one input. -/
def solveAllWrong : ChangeSpec := { name := "solveAll", fn := fun _ => fun
  | [d1, d2, d3] => { results := [.lit (.bool false)], args := [d1, d2, d3] }
  | _ => none }
def SolveAllWrongFalsely : Prop := solveAllRow.holds Tryd.pinned (OpenSpec.ofChange solveAllWrong)

/-- 'droplaw4.PeelAll': WHATEVER THE INPUT: true; the input reads as it did. -/
def peelAllSpec : ChangeSpec := { name := "peelAll", fn := fun _ => fun
  | [d1, d2] => { results := [.lit (.bool true)], args := [d1, d2] }
  | _ => none }
def peelAllRow : OpenClaim := { program := "ytmkmkaiapgedjaadoor", sum := "7498465575f64a67c39322358f0aa0dc377c1be4908f097c8de67e310ee14b60", func := "dropletmill/droplaw4.PeelAll", spec := "peelAll", inPlace := ["internal/reflectlite.ValueOf", "(internal/reflectlite.Value).Type", "(internal/reflectlite.Value).IsNil", "internal/reflectlite.TypeOf", "(internal/reflectlite.Value).Elem", "(internal/reflectlite.Value).Set"], unfollowed := true, recurses := true, named := ["errors.errorType"], apart := false, laid := [("errors.errorType", laid_errors_errorType)] }
def PeelAllSaid : Prop := peelAllRow.holds Tryd.pinned (OpenSpec.ofChange peelAllSpec)

/-- ITS FALSE NEIGHBOUR: 'it returns false'. Refute it at one input. -/
def peelAllWrong : ChangeSpec := { name := "peelAll", fn := fun _ => fun
  | [d1, d2] => { results := [.lit (.bool false)], args := [d1, d2] }
  | _ => none }
def PeelAllWrongFalsely : Prop := peelAllRow.holds Tryd.pinned (OpenSpec.ofChange peelAllWrong)

/- THE SECOND FORM. 'bulk': how many values and letters a reading holds, each counted each time it is reached (what is shared counts as often as it is met; a slice's spare places count too). A statement '..UptoSaid' is the law's where the arguments, and the package variables that the reading takes, are together of bulk at most 1048576: NARROWER than '..Said'. Prove '..Said' where nothing that the law and all that it calls make is longer than what came in: it says more and counts as full. Else prove '..UptoSaid'. A law counts once. -/
mutual
def uptoBulk {H : Type} : DataW H → Nat
  | .lit (.string bytes) => bytes.length + 1
  | .lit _ => 1
  | .nil => 1
  | .ptr d => uptoBulk d + 1
  | .slice elems spare => uptoBulkAll elems + uptoBulkAll spare + 1
  | .agg parts => uptoBulkAll parts + 1
  | .iface _ d => uptoBulk d + 1
  | .map entries => uptoBulkEntries entries + 1
  | .held _ => 1
def uptoBulkAll {H : Type} : List (DataW H) → Nat
  | [] => 0
  | d :: r => uptoBulk d + uptoBulkAll r
def uptoBulkEntries {H : Type} : List (Lit × DataW H) → Nat
  | [] => 0
  | x :: r => uptoBulkEntry x + uptoBulkEntries r
def uptoBulkEntry {H : Type} : Lit × DataW H → Nat
  | (.string bytes, d) => bytes.length + uptoBulk d + 1
  | (_, d) => uptoBulk d + 1
 end
def uptoSmall : (H : Type) → List (DataW H) → Bool := fun _ ds => decide (uptoBulkAll ds ≤ 1048576)
def OpenSpec.upto (s : _root_.Go.ChangeSpec) : _root_.Go.OpenSpec := { _root_.Go.OpenSpec.ofChange s with cond := some uptoSmall }

/-- 'droplaw1.NeedTells', WHERE WHAT IT READS IS OF BULK AT MOST 1048576: true; the input reads as it did. -/
def needTellsUptoRow : OpenClaim := { program := "ytmkmkaiapgedjaadoor", sum := "7498465575f64a67c39322358f0aa0dc377c1be4908f097c8de67e310ee14b60", func := "dropletmill/droplaw1.NeedTells", spec := "needTells", inPlace := ["internal/reflectlite.ValueOf", "(internal/reflectlite.Value).Type", "(internal/reflectlite.Value).IsNil", "internal/reflectlite.TypeOf", "(internal/reflectlite.Value).Elem", "(internal/reflectlite.Value).Set"], unfollowed := true, recurses := true, named := ["errors.errorType"], apart := false, laid := [("errors.errorType", laid_errors_errorType)], narrowed := true }
def NeedTellsUptoSaid : Prop := needTellsUptoRow.holds Tryd.pinned (OpenSpec.upto needTellsSpec)

/-- 'droplaw1.SolveTells', WHERE WHAT IT READS IS OF BULK AT MOST 1048576: true; the input reads as it did. -/
def solveTellsUptoRow : OpenClaim := { program := "ytmkmkaiapgedjaadoor", sum := "7498465575f64a67c39322358f0aa0dc377c1be4908f097c8de67e310ee14b60", func := "dropletmill/droplaw1.SolveTells", spec := "solveTells", inPlace := ["internal/reflectlite.ValueOf", "(internal/reflectlite.Value).Type", "(internal/reflectlite.Value).IsNil", "internal/reflectlite.TypeOf", "(internal/reflectlite.Value).Elem", "(internal/reflectlite.Value).Set"], unfollowed := true, recurses := true, named := ["errors.errorType"], apart := false, laid := [("errors.errorType", laid_errors_errorType)], narrowed := true }
def SolveTellsUptoSaid : Prop := solveTellsUptoRow.holds Tryd.pinned (OpenSpec.upto solveTellsSpec)

/-- 'droplaw1.PeelPlays', WHERE WHAT IT READS IS OF BULK AT MOST 1048576: true; the input reads as it did. -/
def peelPlaysUptoRow : OpenClaim := { program := "ytmkmkaiapgedjaadoor", sum := "7498465575f64a67c39322358f0aa0dc377c1be4908f097c8de67e310ee14b60", func := "dropletmill/droplaw1.PeelPlays", spec := "peelPlays", inPlace := ["internal/reflectlite.ValueOf", "(internal/reflectlite.Value).Type", "(internal/reflectlite.Value).IsNil", "internal/reflectlite.TypeOf", "(internal/reflectlite.Value).Elem", "(internal/reflectlite.Value).Set"], unfollowed := true, recurses := true, named := ["errors.errorType"], apart := false, laid := [("errors.errorType", laid_errors_errorType)], narrowed := true }
def PeelPlaysUptoSaid : Prop := peelPlaysUptoRow.holds Tryd.pinned (OpenSpec.upto peelPlaysSpec)

/-- 'droplaw1.PeelRight', WHERE WHAT IT READS IS OF BULK AT MOST 1048576: true; the input reads as it did. -/
def peelRightUptoRow : OpenClaim := { program := "ytmkmkaiapgedjaadoor", sum := "7498465575f64a67c39322358f0aa0dc377c1be4908f097c8de67e310ee14b60", func := "dropletmill/droplaw1.PeelRight", spec := "peelRight", inPlace := ["internal/reflectlite.ValueOf", "(internal/reflectlite.Value).Type", "(internal/reflectlite.Value).IsNil", "internal/reflectlite.TypeOf", "(internal/reflectlite.Value).Elem", "(internal/reflectlite.Value).Set"], unfollowed := true, recurses := true, named := ["errors.errorType"], apart := false, laid := [("errors.errorType", laid_errors_errorType)], narrowed := true }
def PeelRightUptoSaid : Prop := peelRightUptoRow.holds Tryd.pinned (OpenSpec.upto peelRightSpec)

/-- 'droplaw1.SolveAll', WHERE WHAT IT READS IS OF BULK AT MOST 1048576: true; the input reads as it did. -/
def solveAllUptoRow : OpenClaim := { program := "ytmkmkaiapgedjaadoor", sum := "7498465575f64a67c39322358f0aa0dc377c1be4908f097c8de67e310ee14b60", func := "dropletmill/droplaw1.SolveAll", spec := "solveAll", inPlace := ["internal/reflectlite.ValueOf", "(internal/reflectlite.Value).Type", "(internal/reflectlite.Value).IsNil", "internal/reflectlite.TypeOf", "(internal/reflectlite.Value).Elem", "(internal/reflectlite.Value).Set"], unfollowed := true, recurses := true, named := ["errors.errorType"], apart := false, laid := [("errors.errorType", laid_errors_errorType)], narrowed := true }
def SolveAllUptoSaid : Prop := solveAllUptoRow.holds Tryd.pinned (OpenSpec.upto solveAllSpec)

/-- 'droplaw4.PeelAll', WHERE WHAT IT READS IS OF BULK AT MOST 1048576: true; the input reads as it did. -/
def peelAllUptoRow : OpenClaim := { program := "ytmkmkaiapgedjaadoor", sum := "7498465575f64a67c39322358f0aa0dc377c1be4908f097c8de67e310ee14b60", func := "dropletmill/droplaw4.PeelAll", spec := "peelAll", inPlace := ["internal/reflectlite.ValueOf", "(internal/reflectlite.Value).Type", "(internal/reflectlite.Value).IsNil", "internal/reflectlite.TypeOf", "(internal/reflectlite.Value).Elem", "(internal/reflectlite.Value).Set"], unfollowed := true, recurses := true, named := ["errors.errorType"], apart := false, laid := [("errors.errorType", laid_errors_errorType)], narrowed := true }
def PeelAllUptoSaid : Prop := peelAllUptoRow.holds Tryd.pinned (OpenSpec.upto peelAllSpec)

end Rows
end Go.Proofs.YtmkmkaiapgedjaaDoor
