/-
  NARROWER THAN 'FOR EVERY INPUT', by the rows' own cells (each row's printed sentence says how): DropTells: laid · AirFull: laid · AirPlays: laid · GuardTells: laid · GuardTwo: laid · WheelTells: laid · BytesTell: laid.
  DERIVED. THE GIVEN ROWS OF THIS SEAT. 7 by the template 'for every input the law returns true; each argument reads behind the call as it read before'; 0 by the template 'total and deterministic' (their statements: YtooepflfofgnnaaDoorTotals.lean).
  GIVEN WITH THE SEED: the statements are not yours to turn. If you find one false, say at which input.
  Laid BY PROGRAM, IN A SANDBOX (cutbox-rows.mjs): the forced cells as the released guide's own fill.sh prints them over the translation b80b5f98a72042b1… (all of the seat's roots in one cut). By AI agents, Wed Nov 11 2026. No macro, syntax, notation, axiom, sorry.
-/
import Derived.Test.YtooepflfofgnnaaDoorChecked
import GoSem.Claim
import GoSem.ClaimJoined
import GoSem.ClaimMapViews
import Derived.JoinedTies
import Derived.KernelRfl
namespace Go.Proofs.YtooepflfofgnnaaDoor
/- THE CELL 'sum', in the pinned program and in every row, IS THE sha256 OF THE DUMP (.gsa) THAT YtooepflfofgnnaaDoorProg.lean LOADS. Nothing in Lean hashes anything: it is a label: what it is worth is what the hold of that sum in a sandbox is worth. -/
noncomputable def Tryd.pinned : Pinned := { name := "ytooepflfofgnnaadoor", sum := "b80b5f98a72042b151175cf21bcf8ea446bdcf9df3a0a5566975a73d7696712f", checked := Tryd.checked }
namespace Rows
def none {H : Type} : Left H := { results := [], args := [] }

/- WHAT THE LISTED PACKAGE-LEVEL VARIABLES READ AS WHEN THE CALL BEGINS. Each datum BY PROGRAM (the guide's laid-datum.mjs) off the statement by which the dump's own 'gosem.cut.vars' lays the variable. In a bare row this is a premise. The card (YtooepflfofgnnaaDoorCards.lean) ties it to the program's text. -/
def laid_errors_errorType {H : Type} : DataW H := .iface "internal/reflectlite.rtype" (.agg [.ptr (.lit (.string [101, 114, 114, 111, 114]))])

/-- 'droplaw1.DropTells': WHATEVER THE INPUT: true; the input reads as it did. -/
def dropTellsSpec : ChangeSpec := { name := "dropTells", fn := fun _ => fun
  | [d1, d2, d3, d4, d5] => { results := [.lit (.bool true)], args := [d1, d2, d3, d4, d5] }
  | _ => none }
def dropTellsRow : OpenClaim := { program := "ytooepflfofgnnaadoor", sum := "b80b5f98a72042b151175cf21bcf8ea446bdcf9df3a0a5566975a73d7696712f", func := "dropletmill/droplaw1.DropTells", spec := "dropTells", inPlace := ["internal/reflectlite.ValueOf", "(internal/reflectlite.Value).Type", "(internal/reflectlite.Value).IsNil", "internal/reflectlite.TypeOf", "(internal/reflectlite.Value).Elem", "(internal/reflectlite.Value).Set"], unfollowed := true, recurses := true, named := ["errors.errorType"], apart := false, laid := [("errors.errorType", laid_errors_errorType)] }
def DropTellsSaid : Prop := dropTellsRow.holds Tryd.pinned (OpenSpec.ofChange dropTellsSpec)

/-- ITS FALSE NEIGHBOUR: 'it returns false'. Refute it at one input. -/
def dropTellsWrong : ChangeSpec := { name := "dropTells", fn := fun _ => fun
  | [d1, d2, d3, d4, d5] => { results := [.lit (.bool false)], args := [d1, d2, d3, d4, d5] }
  | _ => none }
def DropTellsWrongFalsely : Prop := dropTellsRow.holds Tryd.pinned (OpenSpec.ofChange dropTellsWrong)

/-- 'droplaw4.AirFull': WHATEVER THE INPUT: true; the input reads as it did. -/
def airFullSpec : ChangeSpec := { name := "airFull", fn := fun _ => fun
  | [d1, d2] => { results := [.lit (.bool true)], args := [d1, d2] }
  | _ => none }
def airFullRow : OpenClaim := { program := "ytooepflfofgnnaadoor", sum := "b80b5f98a72042b151175cf21bcf8ea446bdcf9df3a0a5566975a73d7696712f", func := "dropletmill/droplaw4.AirFull", spec := "airFull", inPlace := ["internal/reflectlite.ValueOf", "(internal/reflectlite.Value).Type", "(internal/reflectlite.Value).IsNil", "internal/reflectlite.TypeOf", "(internal/reflectlite.Value).Elem", "(internal/reflectlite.Value).Set"], unfollowed := true, recurses := true, named := ["errors.errorType"], apart := false, laid := [("errors.errorType", laid_errors_errorType)] }
def AirFullSaid : Prop := airFullRow.holds Tryd.pinned (OpenSpec.ofChange airFullSpec)

/-- ITS FALSE NEIGHBOUR: 'it returns false'. Refute it at one input. -/
def airFullWrong : ChangeSpec := { name := "airFull", fn := fun _ => fun
  | [d1, d2] => { results := [.lit (.bool false)], args := [d1, d2] }
  | _ => none }
def AirFullWrongFalsely : Prop := airFullRow.holds Tryd.pinned (OpenSpec.ofChange airFullWrong)

/-- 'droplaw2.AirPlays': WHATEVER THE INPUT: true; the input reads as it did. -/
def airPlaysSpec : ChangeSpec := { name := "airPlays", fn := fun _ => fun
  | [d1, d2] => { results := [.lit (.bool true)], args := [d1, d2] }
  | _ => none }
def airPlaysRow : OpenClaim := { program := "ytooepflfofgnnaadoor", sum := "b80b5f98a72042b151175cf21bcf8ea446bdcf9df3a0a5566975a73d7696712f", func := "dropletmill/droplaw2.AirPlays", spec := "airPlays", inPlace := ["internal/reflectlite.ValueOf", "(internal/reflectlite.Value).Type", "(internal/reflectlite.Value).IsNil", "internal/reflectlite.TypeOf", "(internal/reflectlite.Value).Elem", "(internal/reflectlite.Value).Set"], unfollowed := true, recurses := true, named := ["errors.errorType"], apart := false, laid := [("errors.errorType", laid_errors_errorType)] }
def AirPlaysSaid : Prop := airPlaysRow.holds Tryd.pinned (OpenSpec.ofChange airPlaysSpec)

/-- ITS FALSE NEIGHBOUR: 'it returns false'. Refute it at one input. -/
def airPlaysWrong : ChangeSpec := { name := "airPlays", fn := fun _ => fun
  | [d1, d2] => { results := [.lit (.bool false)], args := [d1, d2] }
  | _ => none }
def AirPlaysWrongFalsely : Prop := airPlaysRow.holds Tryd.pinned (OpenSpec.ofChange airPlaysWrong)

/-- 'droplaw1.GuardTells': WHATEVER THE INPUT: true; the input reads as it did. -/
def guardTellsSpec : ChangeSpec := { name := "guardTells", fn := fun _ => fun
  | [d1, d2, d3, d4] => { results := [.lit (.bool true)], args := [d1, d2, d3, d4] }
  | _ => none }
def guardTellsRow : OpenClaim := { program := "ytooepflfofgnnaadoor", sum := "b80b5f98a72042b151175cf21bcf8ea446bdcf9df3a0a5566975a73d7696712f", func := "dropletmill/droplaw1.GuardTells", spec := "guardTells", inPlace := ["internal/reflectlite.ValueOf", "(internal/reflectlite.Value).Type", "(internal/reflectlite.Value).IsNil", "internal/reflectlite.TypeOf", "(internal/reflectlite.Value).Elem", "(internal/reflectlite.Value).Set"], unfollowed := true, recurses := true, named := ["errors.errorType"], apart := false, laid := [("errors.errorType", laid_errors_errorType)] }
def GuardTellsSaid : Prop := guardTellsRow.holds Tryd.pinned (OpenSpec.ofChange guardTellsSpec)

/-- ITS FALSE NEIGHBOUR: 'it returns false'. Refute it at one input. -/
def guardTellsWrong : ChangeSpec := { name := "guardTells", fn := fun _ => fun
  | [d1, d2, d3, d4] => { results := [.lit (.bool false)], args := [d1, d2, d3, d4] }
  | _ => none }
def GuardTellsWrongFalsely : Prop := guardTellsRow.holds Tryd.pinned (OpenSpec.ofChange guardTellsWrong)

/-- 'droplaw4.GuardTwo': WHATEVER THE INPUT: true; the input reads as it did. -/
def guardTwoSpec : ChangeSpec := { name := "guardTwo", fn := fun _ => fun
  | [d1, d2] => { results := [.lit (.bool true)], args := [d1, d2] }
  | _ => none }
def guardTwoRow : OpenClaim := { program := "ytooepflfofgnnaadoor", sum := "b80b5f98a72042b151175cf21bcf8ea446bdcf9df3a0a5566975a73d7696712f", func := "dropletmill/droplaw4.GuardTwo", spec := "guardTwo", inPlace := ["internal/reflectlite.ValueOf", "(internal/reflectlite.Value).Type", "(internal/reflectlite.Value).IsNil", "internal/reflectlite.TypeOf", "(internal/reflectlite.Value).Elem", "(internal/reflectlite.Value).Set"], unfollowed := true, recurses := true, named := ["errors.errorType"], apart := false, laid := [("errors.errorType", laid_errors_errorType)] }
def GuardTwoSaid : Prop := guardTwoRow.holds Tryd.pinned (OpenSpec.ofChange guardTwoSpec)

/-- ITS FALSE NEIGHBOUR: 'it returns false'. Refute it at one input. -/
def guardTwoWrong : ChangeSpec := { name := "guardTwo", fn := fun _ => fun
  | [d1, d2] => { results := [.lit (.bool false)], args := [d1, d2] }
  | _ => none }
def GuardTwoWrongFalsely : Prop := guardTwoRow.holds Tryd.pinned (OpenSpec.ofChange guardTwoWrong)

/-- 'droplaw1.WheelTells': WHATEVER THE INPUT: true; the input reads as it did. -/
def wheelTellsSpec : ChangeSpec := { name := "wheelTells", fn := fun _ => fun
  | [d1, d2, d3, d4, d5] => { results := [.lit (.bool true)], args := [d1, d2, d3, d4, d5] }
  | _ => none }
def wheelTellsRow : OpenClaim := { program := "ytooepflfofgnnaadoor", sum := "b80b5f98a72042b151175cf21bcf8ea446bdcf9df3a0a5566975a73d7696712f", func := "dropletmill/droplaw1.WheelTells", spec := "wheelTells", inPlace := ["internal/reflectlite.ValueOf", "(internal/reflectlite.Value).Type", "(internal/reflectlite.Value).IsNil", "internal/reflectlite.TypeOf", "(internal/reflectlite.Value).Elem", "(internal/reflectlite.Value).Set"], unfollowed := true, recurses := true, named := ["errors.errorType"], apart := false, laid := [("errors.errorType", laid_errors_errorType)] }
def WheelTellsSaid : Prop := wheelTellsRow.holds Tryd.pinned (OpenSpec.ofChange wheelTellsSpec)

/-- ITS FALSE NEIGHBOUR: 'it returns false'. Refute it at one input. -/
def wheelTellsWrong : ChangeSpec := { name := "wheelTells", fn := fun _ => fun
  | [d1, d2, d3, d4, d5] => { results := [.lit (.bool false)], args := [d1, d2, d3, d4, d5] }
  | _ => none }
def WheelTellsWrongFalsely : Prop := wheelTellsRow.holds Tryd.pinned (OpenSpec.ofChange wheelTellsWrong)

/-- 'droplaw3.BytesTell': WHATEVER THE INPUT: true; the input reads as it did. -/
def bytesTellSpec : ChangeSpec := { name := "bytesTell", fn := fun _ => fun
  | [d1, d2, d3, d4, d5] => { results := [.lit (.bool true)], args := [d1, d2, d3, d4, d5] }
  | _ => none }
def bytesTellRow : OpenClaim := { program := "ytooepflfofgnnaadoor", sum := "b80b5f98a72042b151175cf21bcf8ea446bdcf9df3a0a5566975a73d7696712f", func := "dropletmill/droplaw3.BytesTell", spec := "bytesTell", inPlace := ["internal/reflectlite.ValueOf", "(internal/reflectlite.Value).Type", "(internal/reflectlite.Value).IsNil", "internal/reflectlite.TypeOf", "(internal/reflectlite.Value).Elem", "(internal/reflectlite.Value).Set"], unfollowed := true, recurses := true, named := ["errors.errorType"], apart := false, laid := [("errors.errorType", laid_errors_errorType)] }
def BytesTellSaid : Prop := bytesTellRow.holds Tryd.pinned (OpenSpec.ofChange bytesTellSpec)

/-- ITS FALSE NEIGHBOUR: 'it returns false'. Refute it at one input. -/
def bytesTellWrong : ChangeSpec := { name := "bytesTell", fn := fun _ => fun
  | [d1, d2, d3, d4, d5] => { results := [.lit (.bool false)], args := [d1, d2, d3, d4, d5] }
  | _ => none }
def BytesTellWrongFalsely : Prop := bytesTellRow.holds Tryd.pinned (OpenSpec.ofChange bytesTellWrong)

/- THE SECOND FORM. 'bulk': how many values and letters a reading holds, each counted each time it is reached (what is shared counts as often as it is met; a slice's spare places count too). A statement '..UptoSaid' is the law's where the arguments, and the package variables that the reading takes, are together of bulk at most 1048576: NARROWER than '..Said'. Prove '..Said' where nothing that the law and all that it calls make is longer than what came in: it says more and counts as full. Else prove '..UptoSaid'. A law counts once. -/
mutual
def uptoBulk {H : Type} : DataW H → Nat
  | .lit (.string bytes) => bytes.length + 1
  | .lit _ => 1
  | .nil => 1
  | .ptr d => uptoBulk d + 1
  | .slice elems spare => uptoBulkAll elems + uptoBulkAll spare + 1
  | .agg parts => uptoBulkAll parts + 1
  | .iface _ d => uptoBulk d + 1
  | .map entries => uptoBulkEntries entries + 1
  | .held _ => 1
def uptoBulkAll {H : Type} : List (DataW H) → Nat
  | [] => 0
  | d :: r => uptoBulk d + uptoBulkAll r
def uptoBulkEntries {H : Type} : List (Lit × DataW H) → Nat
  | [] => 0
  | x :: r => uptoBulkEntry x + uptoBulkEntries r
def uptoBulkEntry {H : Type} : Lit × DataW H → Nat
  | (.string bytes, d) => bytes.length + uptoBulk d + 1
  | (_, d) => uptoBulk d + 1
 end
def uptoSmall : (H : Type) → List (DataW H) → Bool := fun _ ds => decide (uptoBulkAll ds ≤ 1048576)
def OpenSpec.upto (s : _root_.Go.ChangeSpec) : _root_.Go.OpenSpec := { _root_.Go.OpenSpec.ofChange s with cond := some uptoSmall }

/-- 'droplaw1.DropTells', WHERE WHAT IT READS IS OF BULK AT MOST 1048576: true; the input reads as it did. -/
def dropTellsUptoRow : OpenClaim := { program := "ytooepflfofgnnaadoor", sum := "b80b5f98a72042b151175cf21bcf8ea446bdcf9df3a0a5566975a73d7696712f", func := "dropletmill/droplaw1.DropTells", spec := "dropTells", inPlace := ["internal/reflectlite.ValueOf", "(internal/reflectlite.Value).Type", "(internal/reflectlite.Value).IsNil", "internal/reflectlite.TypeOf", "(internal/reflectlite.Value).Elem", "(internal/reflectlite.Value).Set"], unfollowed := true, recurses := true, named := ["errors.errorType"], apart := false, laid := [("errors.errorType", laid_errors_errorType)], narrowed := true }
def DropTellsUptoSaid : Prop := dropTellsUptoRow.holds Tryd.pinned (OpenSpec.upto dropTellsSpec)

/-- 'droplaw4.AirFull', WHERE WHAT IT READS IS OF BULK AT MOST 1048576: true; the input reads as it did. -/
def airFullUptoRow : OpenClaim := { program := "ytooepflfofgnnaadoor", sum := "b80b5f98a72042b151175cf21bcf8ea446bdcf9df3a0a5566975a73d7696712f", func := "dropletmill/droplaw4.AirFull", spec := "airFull", inPlace := ["internal/reflectlite.ValueOf", "(internal/reflectlite.Value).Type", "(internal/reflectlite.Value).IsNil", "internal/reflectlite.TypeOf", "(internal/reflectlite.Value).Elem", "(internal/reflectlite.Value).Set"], unfollowed := true, recurses := true, named := ["errors.errorType"], apart := false, laid := [("errors.errorType", laid_errors_errorType)], narrowed := true }
def AirFullUptoSaid : Prop := airFullUptoRow.holds Tryd.pinned (OpenSpec.upto airFullSpec)

/-- 'droplaw2.AirPlays', WHERE WHAT IT READS IS OF BULK AT MOST 1048576: true; the input reads as it did. -/
def airPlaysUptoRow : OpenClaim := { program := "ytooepflfofgnnaadoor", sum := "b80b5f98a72042b151175cf21bcf8ea446bdcf9df3a0a5566975a73d7696712f", func := "dropletmill/droplaw2.AirPlays", spec := "airPlays", inPlace := ["internal/reflectlite.ValueOf", "(internal/reflectlite.Value).Type", "(internal/reflectlite.Value).IsNil", "internal/reflectlite.TypeOf", "(internal/reflectlite.Value).Elem", "(internal/reflectlite.Value).Set"], unfollowed := true, recurses := true, named := ["errors.errorType"], apart := false, laid := [("errors.errorType", laid_errors_errorType)], narrowed := true }
def AirPlaysUptoSaid : Prop := airPlaysUptoRow.holds Tryd.pinned (OpenSpec.upto airPlaysSpec)

/-- 'droplaw1.GuardTells', WHERE WHAT IT READS IS OF BULK AT MOST 1048576: true; the input reads as it did. -/
def guardTellsUptoRow : OpenClaim := { program := "ytooepflfofgnnaadoor", sum := "b80b5f98a72042b151175cf21bcf8ea446bdcf9df3a0a5566975a73d7696712f", func := "dropletmill/droplaw1.GuardTells", spec := "guardTells", inPlace := ["internal/reflectlite.ValueOf", "(internal/reflectlite.Value).Type", "(internal/reflectlite.Value).IsNil", "internal/reflectlite.TypeOf", "(internal/reflectlite.Value).Elem", "(internal/reflectlite.Value).Set"], unfollowed := true, recurses := true, named := ["errors.errorType"], apart := false, laid := [("errors.errorType", laid_errors_errorType)], narrowed := true }
def GuardTellsUptoSaid : Prop := guardTellsUptoRow.holds Tryd.pinned (OpenSpec.upto guardTellsSpec)

/-- 'droplaw4.GuardTwo', WHERE WHAT IT READS IS OF BULK AT MOST 1048576: true; the input reads as it did. -/
def guardTwoUptoRow : OpenClaim := { program := "ytooepflfofgnnaadoor", sum := "b80b5f98a72042b151175cf21bcf8ea446bdcf9df3a0a5566975a73d7696712f", func := "dropletmill/droplaw4.GuardTwo", spec := "guardTwo", inPlace := ["internal/reflectlite.ValueOf", "(internal/reflectlite.Value).Type", "(internal/reflectlite.Value).IsNil", "internal/reflectlite.TypeOf", "(internal/reflectlite.Value).Elem", "(internal/reflectlite.Value).Set"], unfollowed := true, recurses := true, named := ["errors.errorType"], apart := false, laid := [("errors.errorType", laid_errors_errorType)], narrowed := true }
def GuardTwoUptoSaid : Prop := guardTwoUptoRow.holds Tryd.pinned (OpenSpec.upto guardTwoSpec)

/-- 'droplaw1.WheelTells', WHERE WHAT IT READS IS OF BULK AT MOST 1048576: true; the input reads as it did. -/
def wheelTellsUptoRow : OpenClaim := { program := "ytooepflfofgnnaadoor", sum := "b80b5f98a72042b151175cf21bcf8ea446bdcf9df3a0a5566975a73d7696712f", func := "dropletmill/droplaw1.WheelTells", spec := "wheelTells", inPlace := ["internal/reflectlite.ValueOf", "(internal/reflectlite.Value).Type", "(internal/reflectlite.Value).IsNil", "internal/reflectlite.TypeOf", "(internal/reflectlite.Value).Elem", "(internal/reflectlite.Value).Set"], unfollowed := true, recurses := true, named := ["errors.errorType"], apart := false, laid := [("errors.errorType", laid_errors_errorType)], narrowed := true }
def WheelTellsUptoSaid : Prop := wheelTellsUptoRow.holds Tryd.pinned (OpenSpec.upto wheelTellsSpec)

/-- 'droplaw3.BytesTell', WHERE WHAT IT READS IS OF BULK AT MOST 1048576: true; the input reads as it did. -/
def bytesTellUptoRow : OpenClaim := { program := "ytooepflfofgnnaadoor", sum := "b80b5f98a72042b151175cf21bcf8ea446bdcf9df3a0a5566975a73d7696712f", func := "dropletmill/droplaw3.BytesTell", spec := "bytesTell", inPlace := ["internal/reflectlite.ValueOf", "(internal/reflectlite.Value).Type", "(internal/reflectlite.Value).IsNil", "internal/reflectlite.TypeOf", "(internal/reflectlite.Value).Elem", "(internal/reflectlite.Value).Set"], unfollowed := true, recurses := true, named := ["errors.errorType"], apart := false, laid := [("errors.errorType", laid_errors_errorType)], narrowed := true }
def BytesTellUptoSaid : Prop := bytesTellUptoRow.holds Tryd.pinned (OpenSpec.upto bytesTellSpec)

end Rows
end Go.Proofs.YtooepflfofgnnaaDoor
