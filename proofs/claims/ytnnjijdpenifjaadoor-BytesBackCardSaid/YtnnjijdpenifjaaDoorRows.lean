/-
  NARROWER THAN 'FOR EVERY INPUT', by the rows' own cells (each row's printed sentence says how): AloneTells: laid · PictureTells: laid · MovedStill: laid · MovedTells: laid · RiceTells: laid · RiceBack: laid · FilmStill: laid · FilmTells: laid · BytesTell: laid · BytesBack: laid · BytesHead: laid.
  DERIVED. THE GIVEN ROWS OF THIS SEAT. 11 by the template 'for every input the law returns true; each argument reads behind the call as it read before'; 0 by the template 'total and deterministic' (their statements: YtnnjijdpenifjaaDoorTotals.lean).
  GIVEN WITH THE SEED: the statements are not yours to turn. If you find one false, say at which input.
  Laid BY PROGRAM, IN A SANDBOX (cutbox-rows.mjs): the forced cells as the released guide's own fill.sh prints them over the translation 6ca3c9657d3da7f7… (all of the seat's roots in one cut). By AI agents, Wed Nov 11 2026. No macro, syntax, notation, axiom, sorry.
-/
import Derived.Test.YtnnjijdpenifjaaDoorChecked
import GoSem.Claim
import GoSem.ClaimJoined
import GoSem.ClaimMapViews
import Derived.JoinedTies
import Derived.KernelRfl
namespace Go.Proofs.YtnnjijdpenifjaaDoor
/- THE CELL 'sum', in the pinned program and in every row, IS THE sha256 OF THE DUMP (.gsa) THAT YtnnjijdpenifjaaDoorProg.lean LOADS. Nothing in Lean hashes anything: it is a label: what it is worth is what the hold of that sum in a sandbox is worth. -/
noncomputable def Tryd.pinned : Pinned := { name := "ytnnjijdpenifjaadoor", sum := "6ca3c9657d3da7f71f84012e6294a524e723b6aa5ae7e2536e21b9955d6a7ecb", checked := Tryd.checked }
namespace Rows
def none {H : Type} : Left H := { results := [], args := [] }

/- WHAT THE LISTED PACKAGE-LEVEL VARIABLES READ AS WHEN THE CALL BEGINS. Each datum BY PROGRAM (the guide's laid-datum.mjs) off the statement by which the dump's own 'gosem.cut.vars' lays the variable. In a bare row this is a premise. The card (YtnnjijdpenifjaaDoorCards.lean) ties it to the program's text. -/
def laid_errors_errorType {H : Type} : DataW H := .iface "internal/reflectlite.rtype" (.agg [.ptr (.lit (.string [101, 114, 114, 111, 114]))])

/-- 'droplaw2.AloneTells': WHATEVER THE INPUT: true; the input reads as it did. -/
def aloneTellsSpec : ChangeSpec := { name := "aloneTells", fn := fun _ => fun
  | [d1, d2, d3, d4, d5, d6] => { results := [.lit (.bool true)], args := [d1, d2, d3, d4, d5, d6] }
  | _ => none }
def aloneTellsRow : OpenClaim := { program := "ytnnjijdpenifjaadoor", sum := "6ca3c9657d3da7f71f84012e6294a524e723b6aa5ae7e2536e21b9955d6a7ecb", func := "dropletmill/droplaw2.AloneTells", spec := "aloneTells", inPlace := ["internal/reflectlite.ValueOf", "(internal/reflectlite.Value).Type", "(internal/reflectlite.Value).IsNil", "internal/reflectlite.TypeOf", "(internal/reflectlite.Value).Elem", "(internal/reflectlite.Value).Set"], unfollowed := true, recurses := true, named := ["errors.errorType"], apart := false, laid := [("errors.errorType", laid_errors_errorType)] }
def AloneTellsSaid : Prop := aloneTellsRow.holds Tryd.pinned (OpenSpec.ofChange aloneTellsSpec)

/-- ITS FALSE NEIGHBOUR: 'it returns false'. Refute it at one input. -/
def aloneTellsWrong : ChangeSpec := { name := "aloneTells", fn := fun _ => fun
  | [d1, d2, d3, d4, d5, d6] => { results := [.lit (.bool false)], args := [d1, d2, d3, d4, d5, d6] }
  | _ => none }
def AloneTellsWrongFalsely : Prop := aloneTellsRow.holds Tryd.pinned (OpenSpec.ofChange aloneTellsWrong)

/-- 'droplaw2.PictureTells': WHATEVER THE INPUT: true; the input reads as it did. -/
def pictureTellsSpec : ChangeSpec := { name := "pictureTells", fn := fun _ => fun
  | [d1, d2, d3, d4, d5, d6] => { results := [.lit (.bool true)], args := [d1, d2, d3, d4, d5, d6] }
  | _ => none }
def pictureTellsRow : OpenClaim := { program := "ytnnjijdpenifjaadoor", sum := "6ca3c9657d3da7f71f84012e6294a524e723b6aa5ae7e2536e21b9955d6a7ecb", func := "dropletmill/droplaw2.PictureTells", spec := "pictureTells", inPlace := ["internal/reflectlite.ValueOf", "(internal/reflectlite.Value).Type", "(internal/reflectlite.Value).IsNil", "internal/reflectlite.TypeOf", "(internal/reflectlite.Value).Elem", "(internal/reflectlite.Value).Set"], unfollowed := true, recurses := true, named := ["errors.errorType"], apart := false, laid := [("errors.errorType", laid_errors_errorType)] }
def PictureTellsSaid : Prop := pictureTellsRow.holds Tryd.pinned (OpenSpec.ofChange pictureTellsSpec)

/-- ITS FALSE NEIGHBOUR: 'it returns false'. Refute it at one input. -/
def pictureTellsWrong : ChangeSpec := { name := "pictureTells", fn := fun _ => fun
  | [d1, d2, d3, d4, d5, d6] => { results := [.lit (.bool false)], args := [d1, d2, d3, d4, d5, d6] }
  | _ => none }
def PictureTellsWrongFalsely : Prop := pictureTellsRow.holds Tryd.pinned (OpenSpec.ofChange pictureTellsWrong)

/-- 'droplaw4.MovedStill': WHATEVER THE INPUT: true; the input reads as it did. -/
def movedStillSpec : ChangeSpec := { name := "movedStill", fn := fun _ => fun
  | [d1, d2] => { results := [.lit (.bool true)], args := [d1, d2] }
  | _ => none }
def movedStillRow : OpenClaim := { program := "ytnnjijdpenifjaadoor", sum := "6ca3c9657d3da7f71f84012e6294a524e723b6aa5ae7e2536e21b9955d6a7ecb", func := "dropletmill/droplaw4.MovedStill", spec := "movedStill", inPlace := ["internal/reflectlite.ValueOf", "(internal/reflectlite.Value).Type", "(internal/reflectlite.Value).IsNil", "internal/reflectlite.TypeOf", "(internal/reflectlite.Value).Elem", "(internal/reflectlite.Value).Set"], unfollowed := true, recurses := true, named := ["errors.errorType"], apart := false, laid := [("errors.errorType", laid_errors_errorType)] }
def MovedStillSaid : Prop := movedStillRow.holds Tryd.pinned (OpenSpec.ofChange movedStillSpec)

/-- ITS FALSE NEIGHBOUR: 'it returns false'. Refute it at one input. -/
def movedStillWrong : ChangeSpec := { name := "movedStill", fn := fun _ => fun
  | [d1, d2] => { results := [.lit (.bool false)], args := [d1, d2] }
  | _ => none }
def MovedStillWrongFalsely : Prop := movedStillRow.holds Tryd.pinned (OpenSpec.ofChange movedStillWrong)

/-- 'droplaw2.MovedTells': WHATEVER THE INPUT: true; the input reads as it did. -/
def movedTellsSpec : ChangeSpec := { name := "movedTells", fn := fun _ => fun
  | [d1, d2, d3, d4] => { results := [.lit (.bool true)], args := [d1, d2, d3, d4] }
  | _ => none }
def movedTellsRow : OpenClaim := { program := "ytnnjijdpenifjaadoor", sum := "6ca3c9657d3da7f71f84012e6294a524e723b6aa5ae7e2536e21b9955d6a7ecb", func := "dropletmill/droplaw2.MovedTells", spec := "movedTells", inPlace := ["internal/reflectlite.ValueOf", "(internal/reflectlite.Value).Type", "(internal/reflectlite.Value).IsNil", "internal/reflectlite.TypeOf", "(internal/reflectlite.Value).Elem", "(internal/reflectlite.Value).Set"], unfollowed := true, recurses := true, named := ["errors.errorType"], apart := false, laid := [("errors.errorType", laid_errors_errorType)] }
def MovedTellsSaid : Prop := movedTellsRow.holds Tryd.pinned (OpenSpec.ofChange movedTellsSpec)

/-- ITS FALSE NEIGHBOUR: 'it returns false'. Refute it at one input. -/
def movedTellsWrong : ChangeSpec := { name := "movedTells", fn := fun _ => fun
  | [d1, d2, d3, d4] => { results := [.lit (.bool false)], args := [d1, d2, d3, d4] }
  | _ => none }
def MovedTellsWrongFalsely : Prop := movedTellsRow.holds Tryd.pinned (OpenSpec.ofChange movedTellsWrong)

/-- 'droplaw2.RiceTells': WHATEVER THE INPUT: true; the input reads as it did. -/
def riceTellsSpec : ChangeSpec := { name := "riceTells", fn := fun _ => fun
  | [d1, d2, d3, d4] => { results := [.lit (.bool true)], args := [d1, d2, d3, d4] }
  | _ => none }
def riceTellsRow : OpenClaim := { program := "ytnnjijdpenifjaadoor", sum := "6ca3c9657d3da7f71f84012e6294a524e723b6aa5ae7e2536e21b9955d6a7ecb", func := "dropletmill/droplaw2.RiceTells", spec := "riceTells", inPlace := ["internal/reflectlite.ValueOf", "(internal/reflectlite.Value).Type", "(internal/reflectlite.Value).IsNil", "internal/reflectlite.TypeOf", "(internal/reflectlite.Value).Elem", "(internal/reflectlite.Value).Set"], unfollowed := true, recurses := true, named := ["errors.errorType"], apart := false, laid := [("errors.errorType", laid_errors_errorType)] }
def RiceTellsSaid : Prop := riceTellsRow.holds Tryd.pinned (OpenSpec.ofChange riceTellsSpec)

/-- ITS FALSE NEIGHBOUR: 'it returns false'. Refute it at one input. -/
def riceTellsWrong : ChangeSpec := { name := "riceTells", fn := fun _ => fun
  | [d1, d2, d3, d4] => { results := [.lit (.bool false)], args := [d1, d2, d3, d4] }
  | _ => none }
def RiceTellsWrongFalsely : Prop := riceTellsRow.holds Tryd.pinned (OpenSpec.ofChange riceTellsWrong)

/-- 'droplaw2.RiceBack': WHATEVER THE INPUT: true; the input reads as it did. -/
def riceBackSpec : ChangeSpec := { name := "riceBack", fn := fun _ => fun
  | [d1, d2, d3, d4] => { results := [.lit (.bool true)], args := [d1, d2, d3, d4] }
  | _ => none }
def riceBackRow : OpenClaim := { program := "ytnnjijdpenifjaadoor", sum := "6ca3c9657d3da7f71f84012e6294a524e723b6aa5ae7e2536e21b9955d6a7ecb", func := "dropletmill/droplaw2.RiceBack", spec := "riceBack", inPlace := ["internal/reflectlite.ValueOf", "(internal/reflectlite.Value).Type", "(internal/reflectlite.Value).IsNil", "internal/reflectlite.TypeOf", "(internal/reflectlite.Value).Elem", "(internal/reflectlite.Value).Set"], unfollowed := true, recurses := true, named := ["errors.errorType"], apart := false, laid := [("errors.errorType", laid_errors_errorType)] }
def RiceBackSaid : Prop := riceBackRow.holds Tryd.pinned (OpenSpec.ofChange riceBackSpec)

/-- ITS FALSE NEIGHBOUR: 'it returns false'. Refute it at one input. -/
def riceBackWrong : ChangeSpec := { name := "riceBack", fn := fun _ => fun
  | [d1, d2, d3, d4] => { results := [.lit (.bool false)], args := [d1, d2, d3, d4] }
  | _ => none }
def RiceBackWrongFalsely : Prop := riceBackRow.holds Tryd.pinned (OpenSpec.ofChange riceBackWrong)

/-- 'droplaw4.FilmStill': WHATEVER THE INPUT: true; the input reads as it did. -/
def filmStillSpec : ChangeSpec := { name := "filmStill", fn := fun _ => fun
  | [d1, d2, d3] => { results := [.lit (.bool true)], args := [d1, d2, d3] }
  | _ => none }
def filmStillRow : OpenClaim := { program := "ytnnjijdpenifjaadoor", sum := "6ca3c9657d3da7f71f84012e6294a524e723b6aa5ae7e2536e21b9955d6a7ecb", func := "dropletmill/droplaw4.FilmStill", spec := "filmStill", inPlace := ["internal/reflectlite.ValueOf", "(internal/reflectlite.Value).Type", "(internal/reflectlite.Value).IsNil", "internal/reflectlite.TypeOf", "(internal/reflectlite.Value).Elem", "(internal/reflectlite.Value).Set"], unfollowed := true, recurses := true, named := ["errors.errorType"], apart := false, laid := [("errors.errorType", laid_errors_errorType)] }
def FilmStillSaid : Prop := filmStillRow.holds Tryd.pinned (OpenSpec.ofChange filmStillSpec)

/-- ITS FALSE NEIGHBOUR: 'it returns false'. Refute it at one input. -/
def filmStillWrong : ChangeSpec := { name := "filmStill", fn := fun _ => fun
  | [d1, d2, d3] => { results := [.lit (.bool false)], args := [d1, d2, d3] }
  | _ => none }
def FilmStillWrongFalsely : Prop := filmStillRow.holds Tryd.pinned (OpenSpec.ofChange filmStillWrong)

/-- 'droplaw2.FilmTells': WHATEVER THE INPUT: true; the input reads as it did. -/
def filmTellsSpec : ChangeSpec := { name := "filmTells", fn := fun _ => fun
  | [d1, d2, d3, d4, d5, d6] => { results := [.lit (.bool true)], args := [d1, d2, d3, d4, d5, d6] }
  | _ => none }
def filmTellsRow : OpenClaim := { program := "ytnnjijdpenifjaadoor", sum := "6ca3c9657d3da7f71f84012e6294a524e723b6aa5ae7e2536e21b9955d6a7ecb", func := "dropletmill/droplaw2.FilmTells", spec := "filmTells", inPlace := ["internal/reflectlite.ValueOf", "(internal/reflectlite.Value).Type", "(internal/reflectlite.Value).IsNil", "internal/reflectlite.TypeOf", "(internal/reflectlite.Value).Elem", "(internal/reflectlite.Value).Set"], unfollowed := true, recurses := true, named := ["errors.errorType"], apart := false, laid := [("errors.errorType", laid_errors_errorType)] }
def FilmTellsSaid : Prop := filmTellsRow.holds Tryd.pinned (OpenSpec.ofChange filmTellsSpec)

/-- ITS FALSE NEIGHBOUR: 'it returns false'. Refute it at one input. -/
def filmTellsWrong : ChangeSpec := { name := "filmTells", fn := fun _ => fun
  | [d1, d2, d3, d4, d5, d6] => { results := [.lit (.bool false)], args := [d1, d2, d3, d4, d5, d6] }
  | _ => none }
def FilmTellsWrongFalsely : Prop := filmTellsRow.holds Tryd.pinned (OpenSpec.ofChange filmTellsWrong)

/-- 'droplaw3.BytesTell': WHATEVER THE INPUT: true; the input reads as it did. -/
def bytesTellSpec : ChangeSpec := { name := "bytesTell", fn := fun _ => fun
  | [d1, d2, d3, d4, d5] => { results := [.lit (.bool true)], args := [d1, d2, d3, d4, d5] }
  | _ => none }
def bytesTellRow : OpenClaim := { program := "ytnnjijdpenifjaadoor", sum := "6ca3c9657d3da7f71f84012e6294a524e723b6aa5ae7e2536e21b9955d6a7ecb", func := "dropletmill/droplaw3.BytesTell", spec := "bytesTell", inPlace := ["internal/reflectlite.ValueOf", "(internal/reflectlite.Value).Type", "(internal/reflectlite.Value).IsNil", "internal/reflectlite.TypeOf", "(internal/reflectlite.Value).Elem", "(internal/reflectlite.Value).Set"], unfollowed := true, recurses := true, named := ["errors.errorType"], apart := false, laid := [("errors.errorType", laid_errors_errorType)] }
def BytesTellSaid : Prop := bytesTellRow.holds Tryd.pinned (OpenSpec.ofChange bytesTellSpec)

/-- ITS FALSE NEIGHBOUR: 'it returns false'. Refute it at one input. -/
def bytesTellWrong : ChangeSpec := { name := "bytesTell", fn := fun _ => fun
  | [d1, d2, d3, d4, d5] => { results := [.lit (.bool false)], args := [d1, d2, d3, d4, d5] }
  | _ => none }
def BytesTellWrongFalsely : Prop := bytesTellRow.holds Tryd.pinned (OpenSpec.ofChange bytesTellWrong)

/-- 'droplaw3.BytesBack': WHATEVER THE INPUT: true; the input reads as it did. -/
def bytesBackSpec : ChangeSpec := { name := "bytesBack", fn := fun _ => fun
  | [d1, d2, d3, d4, d5, d6] => { results := [.lit (.bool true)], args := [d1, d2, d3, d4, d5, d6] }
  | _ => none }
def bytesBackRow : OpenClaim := { program := "ytnnjijdpenifjaadoor", sum := "6ca3c9657d3da7f71f84012e6294a524e723b6aa5ae7e2536e21b9955d6a7ecb", func := "dropletmill/droplaw3.BytesBack", spec := "bytesBack", inPlace := ["internal/reflectlite.ValueOf", "(internal/reflectlite.Value).Type", "(internal/reflectlite.Value).IsNil", "internal/reflectlite.TypeOf", "(internal/reflectlite.Value).Elem", "(internal/reflectlite.Value).Set"], unfollowed := true, recurses := true, named := ["errors.errorType"], apart := false, laid := [("errors.errorType", laid_errors_errorType)] }
def BytesBackSaid : Prop := bytesBackRow.holds Tryd.pinned (OpenSpec.ofChange bytesBackSpec)

/-- ITS FALSE NEIGHBOUR: 'it returns false'. Refute it at one input. -/
def bytesBackWrong : ChangeSpec := { name := "bytesBack", fn := fun _ => fun
  | [d1, d2, d3, d4, d5, d6] => { results := [.lit (.bool false)], args := [d1, d2, d3, d4, d5, d6] }
  | _ => none }
def BytesBackWrongFalsely : Prop := bytesBackRow.holds Tryd.pinned (OpenSpec.ofChange bytesBackWrong)

/-- 'droplaw4.BytesHead': WHATEVER THE INPUT: true; the input reads as it did. -/
def bytesHeadSpec : ChangeSpec := { name := "bytesHead", fn := fun _ => fun
  | [d1, d2, d3] => { results := [.lit (.bool true)], args := [d1, d2, d3] }
  | _ => none }
def bytesHeadRow : OpenClaim := { program := "ytnnjijdpenifjaadoor", sum := "6ca3c9657d3da7f71f84012e6294a524e723b6aa5ae7e2536e21b9955d6a7ecb", func := "dropletmill/droplaw4.BytesHead", spec := "bytesHead", inPlace := ["internal/reflectlite.ValueOf", "(internal/reflectlite.Value).Type", "(internal/reflectlite.Value).IsNil", "internal/reflectlite.TypeOf", "(internal/reflectlite.Value).Elem", "(internal/reflectlite.Value).Set"], unfollowed := true, recurses := true, named := ["errors.errorType"], apart := false, laid := [("errors.errorType", laid_errors_errorType)] }
def BytesHeadSaid : Prop := bytesHeadRow.holds Tryd.pinned (OpenSpec.ofChange bytesHeadSpec)

/-- ITS FALSE NEIGHBOUR: 'it returns false'. Refute it at one input. -/
def bytesHeadWrong : ChangeSpec := { name := "bytesHead", fn := fun _ => fun
  | [d1, d2, d3] => { results := [.lit (.bool false)], args := [d1, d2, d3] }
  | _ => none }
def BytesHeadWrongFalsely : Prop := bytesHeadRow.holds Tryd.pinned (OpenSpec.ofChange bytesHeadWrong)

/- THE SECOND FORM. 'bulk': how many values and letters a reading holds, each counted each time it is reached (what is shared counts as often as it is met; a slice's spare places count too). A statement '..UptoSaid' is the law's where the arguments, and the package variables that the reading takes, are together of bulk at most 1048576: NARROWER than '..Said'. Prove '..Said' where nothing that the law and all that it calls make is longer than what came in: it says more and counts as full. Else prove '..UptoSaid'. A law counts once. -/
mutual
def uptoBulk {H : Type} : DataW H → Nat
  | .lit (.string bytes) => bytes.length + 1
  | .lit _ => 1
  | .nil => 1
  | .ptr d => uptoBulk d + 1
  | .slice elems spare => uptoBulkAll elems + uptoBulkAll spare + 1
  | .agg parts => uptoBulkAll parts + 1
  | .iface _ d => uptoBulk d + 1
  | .map entries => uptoBulkEntries entries + 1
  | .held _ => 1
def uptoBulkAll {H : Type} : List (DataW H) → Nat
  | [] => 0
  | d :: r => uptoBulk d + uptoBulkAll r
def uptoBulkEntries {H : Type} : List (Lit × DataW H) → Nat
  | [] => 0
  | x :: r => uptoBulkEntry x + uptoBulkEntries r
def uptoBulkEntry {H : Type} : Lit × DataW H → Nat
  | (.string bytes, d) => bytes.length + uptoBulk d + 1
  | (_, d) => uptoBulk d + 1
 end
def uptoSmall : (H : Type) → List (DataW H) → Bool := fun _ ds => decide (uptoBulkAll ds ≤ 1048576)
def OpenSpec.upto (s : _root_.Go.ChangeSpec) : _root_.Go.OpenSpec := { _root_.Go.OpenSpec.ofChange s with cond := some uptoSmall }

/-- 'droplaw2.AloneTells', WHERE WHAT IT READS IS OF BULK AT MOST 1048576: true; the input reads as it did. -/
def aloneTellsUptoRow : OpenClaim := { program := "ytnnjijdpenifjaadoor", sum := "6ca3c9657d3da7f71f84012e6294a524e723b6aa5ae7e2536e21b9955d6a7ecb", func := "dropletmill/droplaw2.AloneTells", spec := "aloneTells", inPlace := ["internal/reflectlite.ValueOf", "(internal/reflectlite.Value).Type", "(internal/reflectlite.Value).IsNil", "internal/reflectlite.TypeOf", "(internal/reflectlite.Value).Elem", "(internal/reflectlite.Value).Set"], unfollowed := true, recurses := true, named := ["errors.errorType"], apart := false, laid := [("errors.errorType", laid_errors_errorType)], narrowed := true }
def AloneTellsUptoSaid : Prop := aloneTellsUptoRow.holds Tryd.pinned (OpenSpec.upto aloneTellsSpec)

/-- 'droplaw2.PictureTells', WHERE WHAT IT READS IS OF BULK AT MOST 1048576: true; the input reads as it did. -/
def pictureTellsUptoRow : OpenClaim := { program := "ytnnjijdpenifjaadoor", sum := "6ca3c9657d3da7f71f84012e6294a524e723b6aa5ae7e2536e21b9955d6a7ecb", func := "dropletmill/droplaw2.PictureTells", spec := "pictureTells", inPlace := ["internal/reflectlite.ValueOf", "(internal/reflectlite.Value).Type", "(internal/reflectlite.Value).IsNil", "internal/reflectlite.TypeOf", "(internal/reflectlite.Value).Elem", "(internal/reflectlite.Value).Set"], unfollowed := true, recurses := true, named := ["errors.errorType"], apart := false, laid := [("errors.errorType", laid_errors_errorType)], narrowed := true }
def PictureTellsUptoSaid : Prop := pictureTellsUptoRow.holds Tryd.pinned (OpenSpec.upto pictureTellsSpec)

/-- 'droplaw4.MovedStill', WHERE WHAT IT READS IS OF BULK AT MOST 1048576: true; the input reads as it did. -/
def movedStillUptoRow : OpenClaim := { program := "ytnnjijdpenifjaadoor", sum := "6ca3c9657d3da7f71f84012e6294a524e723b6aa5ae7e2536e21b9955d6a7ecb", func := "dropletmill/droplaw4.MovedStill", spec := "movedStill", inPlace := ["internal/reflectlite.ValueOf", "(internal/reflectlite.Value).Type", "(internal/reflectlite.Value).IsNil", "internal/reflectlite.TypeOf", "(internal/reflectlite.Value).Elem", "(internal/reflectlite.Value).Set"], unfollowed := true, recurses := true, named := ["errors.errorType"], apart := false, laid := [("errors.errorType", laid_errors_errorType)], narrowed := true }
def MovedStillUptoSaid : Prop := movedStillUptoRow.holds Tryd.pinned (OpenSpec.upto movedStillSpec)

/-- 'droplaw2.MovedTells', WHERE WHAT IT READS IS OF BULK AT MOST 1048576: true; the input reads as it did. -/
def movedTellsUptoRow : OpenClaim := { program := "ytnnjijdpenifjaadoor", sum := "6ca3c9657d3da7f71f84012e6294a524e723b6aa5ae7e2536e21b9955d6a7ecb", func := "dropletmill/droplaw2.MovedTells", spec := "movedTells", inPlace := ["internal/reflectlite.ValueOf", "(internal/reflectlite.Value).Type", "(internal/reflectlite.Value).IsNil", "internal/reflectlite.TypeOf", "(internal/reflectlite.Value).Elem", "(internal/reflectlite.Value).Set"], unfollowed := true, recurses := true, named := ["errors.errorType"], apart := false, laid := [("errors.errorType", laid_errors_errorType)], narrowed := true }
def MovedTellsUptoSaid : Prop := movedTellsUptoRow.holds Tryd.pinned (OpenSpec.upto movedTellsSpec)

/-- 'droplaw2.RiceTells', WHERE WHAT IT READS IS OF BULK AT MOST 1048576: true; the input reads as it did. -/
def riceTellsUptoRow : OpenClaim := { program := "ytnnjijdpenifjaadoor", sum := "6ca3c9657d3da7f71f84012e6294a524e723b6aa5ae7e2536e21b9955d6a7ecb", func := "dropletmill/droplaw2.RiceTells", spec := "riceTells", inPlace := ["internal/reflectlite.ValueOf", "(internal/reflectlite.Value).Type", "(internal/reflectlite.Value).IsNil", "internal/reflectlite.TypeOf", "(internal/reflectlite.Value).Elem", "(internal/reflectlite.Value).Set"], unfollowed := true, recurses := true, named := ["errors.errorType"], apart := false, laid := [("errors.errorType", laid_errors_errorType)], narrowed := true }
def RiceTellsUptoSaid : Prop := riceTellsUptoRow.holds Tryd.pinned (OpenSpec.upto riceTellsSpec)

/-- 'droplaw2.RiceBack', WHERE WHAT IT READS IS OF BULK AT MOST 1048576: true; the input reads as it did. -/
def riceBackUptoRow : OpenClaim := { program := "ytnnjijdpenifjaadoor", sum := "6ca3c9657d3da7f71f84012e6294a524e723b6aa5ae7e2536e21b9955d6a7ecb", func := "dropletmill/droplaw2.RiceBack", spec := "riceBack", inPlace := ["internal/reflectlite.ValueOf", "(internal/reflectlite.Value).Type", "(internal/reflectlite.Value).IsNil", "internal/reflectlite.TypeOf", "(internal/reflectlite.Value).Elem", "(internal/reflectlite.Value).Set"], unfollowed := true, recurses := true, named := ["errors.errorType"], apart := false, laid := [("errors.errorType", laid_errors_errorType)], narrowed := true }
def RiceBackUptoSaid : Prop := riceBackUptoRow.holds Tryd.pinned (OpenSpec.upto riceBackSpec)

/-- 'droplaw4.FilmStill', WHERE WHAT IT READS IS OF BULK AT MOST 1048576: true; the input reads as it did. -/
def filmStillUptoRow : OpenClaim := { program := "ytnnjijdpenifjaadoor", sum := "6ca3c9657d3da7f71f84012e6294a524e723b6aa5ae7e2536e21b9955d6a7ecb", func := "dropletmill/droplaw4.FilmStill", spec := "filmStill", inPlace := ["internal/reflectlite.ValueOf", "(internal/reflectlite.Value).Type", "(internal/reflectlite.Value).IsNil", "internal/reflectlite.TypeOf", "(internal/reflectlite.Value).Elem", "(internal/reflectlite.Value).Set"], unfollowed := true, recurses := true, named := ["errors.errorType"], apart := false, laid := [("errors.errorType", laid_errors_errorType)], narrowed := true }
def FilmStillUptoSaid : Prop := filmStillUptoRow.holds Tryd.pinned (OpenSpec.upto filmStillSpec)

/-- 'droplaw2.FilmTells', WHERE WHAT IT READS IS OF BULK AT MOST 1048576: true; the input reads as it did. -/
def filmTellsUptoRow : OpenClaim := { program := "ytnnjijdpenifjaadoor", sum := "6ca3c9657d3da7f71f84012e6294a524e723b6aa5ae7e2536e21b9955d6a7ecb", func := "dropletmill/droplaw2.FilmTells", spec := "filmTells", inPlace := ["internal/reflectlite.ValueOf", "(internal/reflectlite.Value).Type", "(internal/reflectlite.Value).IsNil", "internal/reflectlite.TypeOf", "(internal/reflectlite.Value).Elem", "(internal/reflectlite.Value).Set"], unfollowed := true, recurses := true, named := ["errors.errorType"], apart := false, laid := [("errors.errorType", laid_errors_errorType)], narrowed := true }
def FilmTellsUptoSaid : Prop := filmTellsUptoRow.holds Tryd.pinned (OpenSpec.upto filmTellsSpec)

/-- 'droplaw3.BytesTell', WHERE WHAT IT READS IS OF BULK AT MOST 1048576: true; the input reads as it did. -/
def bytesTellUptoRow : OpenClaim := { program := "ytnnjijdpenifjaadoor", sum := "6ca3c9657d3da7f71f84012e6294a524e723b6aa5ae7e2536e21b9955d6a7ecb", func := "dropletmill/droplaw3.BytesTell", spec := "bytesTell", inPlace := ["internal/reflectlite.ValueOf", "(internal/reflectlite.Value).Type", "(internal/reflectlite.Value).IsNil", "internal/reflectlite.TypeOf", "(internal/reflectlite.Value).Elem", "(internal/reflectlite.Value).Set"], unfollowed := true, recurses := true, named := ["errors.errorType"], apart := false, laid := [("errors.errorType", laid_errors_errorType)], narrowed := true }
def BytesTellUptoSaid : Prop := bytesTellUptoRow.holds Tryd.pinned (OpenSpec.upto bytesTellSpec)

/-- 'droplaw3.BytesBack', WHERE WHAT IT READS IS OF BULK AT MOST 1048576: true; the input reads as it did. -/
def bytesBackUptoRow : OpenClaim := { program := "ytnnjijdpenifjaadoor", sum := "6ca3c9657d3da7f71f84012e6294a524e723b6aa5ae7e2536e21b9955d6a7ecb", func := "dropletmill/droplaw3.BytesBack", spec := "bytesBack", inPlace := ["internal/reflectlite.ValueOf", "(internal/reflectlite.Value).Type", "(internal/reflectlite.Value).IsNil", "internal/reflectlite.TypeOf", "(internal/reflectlite.Value).Elem", "(internal/reflectlite.Value).Set"], unfollowed := true, recurses := true, named := ["errors.errorType"], apart := false, laid := [("errors.errorType", laid_errors_errorType)], narrowed := true }
def BytesBackUptoSaid : Prop := bytesBackUptoRow.holds Tryd.pinned (OpenSpec.upto bytesBackSpec)

/-- 'droplaw4.BytesHead', WHERE WHAT IT READS IS OF BULK AT MOST 1048576: true; the input reads as it did. -/
def bytesHeadUptoRow : OpenClaim := { program := "ytnnjijdpenifjaadoor", sum := "6ca3c9657d3da7f71f84012e6294a524e723b6aa5ae7e2536e21b9955d6a7ecb", func := "dropletmill/droplaw4.BytesHead", spec := "bytesHead", inPlace := ["internal/reflectlite.ValueOf", "(internal/reflectlite.Value).Type", "(internal/reflectlite.Value).IsNil", "internal/reflectlite.TypeOf", "(internal/reflectlite.Value).Elem", "(internal/reflectlite.Value).Set"], unfollowed := true, recurses := true, named := ["errors.errorType"], apart := false, laid := [("errors.errorType", laid_errors_errorType)], narrowed := true }
def BytesHeadUptoSaid : Prop := bytesHeadUptoRow.holds Tryd.pinned (OpenSpec.upto bytesHeadSpec)

end Rows
end Go.Proofs.YtnnjijdpenifjaaDoor
