/-
  No cell of these rows narrows 'for every input' (looked for: loops, veiled, ifaces, maps, wideKeys, modest, calm, conditions, laid).
  DERIVED. THE GIVEN ROWS OF THIS SEAT. 7 by the template 'for every input the law returns true; each argument reads behind the call as it read before'; 0 by the template 'total and deterministic' (their statements: YtnnjijdpenifjaaTotals.lean).
  GIVEN WITH THE SEED: the statements are not yours to turn. If you find one false, say at which input.
  Laid BY PROGRAM, IN A SANDBOX (cutbox-rows.mjs): the forced cells as the released guide's own fill.sh prints them over the translation 2cb4537f4e614716… (all of the seat's roots in one cut). By AI agents, Wed Nov 11 2026. No macro, syntax, notation, axiom, sorry.
-/
import Derived.Test.YtnnjijdpenifjaaChecked
import GoSem.Claim
import GoSem.ClaimJoined
import GoSem.ClaimMapViews
import Derived.JoinedTies
import Derived.KernelRfl
namespace Go.Proofs.Ytnnjijdpenifjaa
/- THE CELL 'sum', in the pinned program and in every row, IS THE sha256 OF THE DUMP (.gsa) THAT YtnnjijdpenifjaaProg.lean LOADS. Nothing in Lean hashes anything: it is a label: what it is worth is what the hold of that sum in a sandbox is worth. -/
noncomputable def Try.pinned : Pinned := { name := "ytnnjijdpenifjaa", sum := "2cb4537f4e614716e7e769df8efaed360ee2829bda374b2db5cd4bbc4f5e9fb0", checked := Try.checked }
namespace Rows
def none {H : Type} : Left H := { results := [], args := [] }

/-- 'droplaw2.PictureApart': WHATEVER THE INPUT: true; the input reads as it did. -/
def pictureApartSpec : ChangeSpec := { name := "pictureApart", fn := fun _ => fun
  | [d1, d2, d3, d4] => { results := [.lit (.bool true)], args := [d1, d2, d3, d4] }
  | _ => none }
def pictureApartRow : OpenClaim := { program := "ytnnjijdpenifjaa", sum := "2cb4537f4e614716e7e769df8efaed360ee2829bda374b2db5cd4bbc4f5e9fb0", func := "dropletmill/droplaw2.PictureApart", spec := "pictureApart", unfollowed := true, recurses := true, apart := false }
def PictureApartSaid : Prop := pictureApartRow.holds Try.pinned (OpenSpec.ofChange pictureApartSpec)

/-- ITS FALSE NEIGHBOUR: 'it returns false'. Refute it at one input. -/
def pictureApartWrong : ChangeSpec := { name := "pictureApart", fn := fun _ => fun
  | [d1, d2, d3, d4] => { results := [.lit (.bool false)], args := [d1, d2, d3, d4] }
  | _ => none }
def PictureApartWrongFalsely : Prop := pictureApartRow.holds Try.pinned (OpenSpec.ofChange pictureApartWrong)

/-- 'droplaw4.PictureStill': WHATEVER THE INPUT: true; the input reads as it did. -/
def pictureStillSpec : ChangeSpec := { name := "pictureStill", fn := fun _ => fun
  | [d1, d2, d3, d4, d5] => { results := [.lit (.bool true)], args := [d1, d2, d3, d4, d5] }
  | _ => none }
def pictureStillRow : OpenClaim := { program := "ytnnjijdpenifjaa", sum := "2cb4537f4e614716e7e769df8efaed360ee2829bda374b2db5cd4bbc4f5e9fb0", func := "dropletmill/droplaw4.PictureStill", spec := "pictureStill", unfollowed := true, recurses := true, apart := false }
def PictureStillSaid : Prop := pictureStillRow.holds Try.pinned (OpenSpec.ofChange pictureStillSpec)

/-- ITS FALSE NEIGHBOUR: 'it returns false'. Refute it at one input. -/
def pictureStillWrong : ChangeSpec := { name := "pictureStill", fn := fun _ => fun
  | [d1, d2, d3, d4, d5] => { results := [.lit (.bool false)], args := [d1, d2, d3, d4, d5] }
  | _ => none }
def PictureStillWrongFalsely : Prop := pictureStillRow.holds Try.pinned (OpenSpec.ofChange pictureStillWrong)

/-- 'droplaw4.RiceNone': WHATEVER THE INPUT: true; the input reads as it did. -/
def riceNoneSpec : ChangeSpec := { name := "riceNone", fn := fun _ => fun
  | [d1, d2] => { results := [.lit (.bool true)], args := [d1, d2] }
  | _ => none }
def riceNoneRow : OpenClaim := { program := "ytnnjijdpenifjaa", sum := "2cb4537f4e614716e7e769df8efaed360ee2829bda374b2db5cd4bbc4f5e9fb0", func := "dropletmill/droplaw4.RiceNone", spec := "riceNone", unfollowed := true, recurses := true, apart := false }
def RiceNoneSaid : Prop := riceNoneRow.holds Try.pinned (OpenSpec.ofChange riceNoneSpec)

/-- ITS FALSE NEIGHBOUR: 'it returns false'. Refute it at one input. -/
def riceNoneWrong : ChangeSpec := { name := "riceNone", fn := fun _ => fun
  | [d1, d2] => { results := [.lit (.bool false)], args := [d1, d2] }
  | _ => none }
def RiceNoneWrongFalsely : Prop := riceNoneRow.holds Try.pinned (OpenSpec.ofChange riceNoneWrong)

/-- 'droplaw2.AloneNear': WHATEVER THE INPUT: true; the input reads as it did. -/
def aloneNearSpec : ChangeSpec := { name := "aloneNear", fn := fun _ => fun
  | [d1, d2, d3] => { results := [.lit (.bool true)], args := [d1, d2, d3] }
  | _ => none }
def aloneNearRow : OpenClaim := { program := "ytnnjijdpenifjaa", sum := "2cb4537f4e614716e7e769df8efaed360ee2829bda374b2db5cd4bbc4f5e9fb0", func := "dropletmill/droplaw2.AloneNear", spec := "aloneNear", unfollowed := true, recurses := true, apart := false }
def AloneNearSaid : Prop := aloneNearRow.holds Try.pinned (OpenSpec.ofChange aloneNearSpec)

/-- ITS FALSE NEIGHBOUR: 'it returns false'. Refute it at one input. -/
def aloneNearWrong : ChangeSpec := { name := "aloneNear", fn := fun _ => fun
  | [d1, d2, d3] => { results := [.lit (.bool false)], args := [d1, d2, d3] }
  | _ => none }
def AloneNearWrongFalsely : Prop := aloneNearRow.holds Try.pinned (OpenSpec.ofChange aloneNearWrong)

/-- 'droplaw4.AloneFlat': WHATEVER THE INPUT: true; the input reads as it did. -/
def aloneFlatSpec : ChangeSpec := { name := "aloneFlat", fn := fun _ => fun
  | [d1, d2, d3] => { results := [.lit (.bool true)], args := [d1, d2, d3] }
  | _ => none }
def aloneFlatRow : OpenClaim := { program := "ytnnjijdpenifjaa", sum := "2cb4537f4e614716e7e769df8efaed360ee2829bda374b2db5cd4bbc4f5e9fb0", func := "dropletmill/droplaw4.AloneFlat", spec := "aloneFlat", unfollowed := true, recurses := true, apart := false }
def AloneFlatSaid : Prop := aloneFlatRow.holds Try.pinned (OpenSpec.ofChange aloneFlatSpec)

/-- ITS FALSE NEIGHBOUR: 'it returns false'. Refute it at one input. -/
def aloneFlatWrong : ChangeSpec := { name := "aloneFlat", fn := fun _ => fun
  | [d1, d2, d3] => { results := [.lit (.bool false)], args := [d1, d2, d3] }
  | _ => none }
def AloneFlatWrongFalsely : Prop := aloneFlatRow.holds Try.pinned (OpenSpec.ofChange aloneFlatWrong)

/-- 'droplaw2.MovedNear': WHATEVER THE INPUT: true; the input reads as it did. -/
def movedNearSpec : ChangeSpec := { name := "movedNear", fn := fun _ => fun
  | [d1, d2, d3, d4] => { results := [.lit (.bool true)], args := [d1, d2, d3, d4] }
  | _ => none }
def movedNearRow : OpenClaim := { program := "ytnnjijdpenifjaa", sum := "2cb4537f4e614716e7e769df8efaed360ee2829bda374b2db5cd4bbc4f5e9fb0", func := "dropletmill/droplaw2.MovedNear", spec := "movedNear", unfollowed := true, recurses := true, apart := false }
def MovedNearSaid : Prop := movedNearRow.holds Try.pinned (OpenSpec.ofChange movedNearSpec)

/-- ITS FALSE NEIGHBOUR: 'it returns false'. Refute it at one input. -/
def movedNearWrong : ChangeSpec := { name := "movedNear", fn := fun _ => fun
  | [d1, d2, d3, d4] => { results := [.lit (.bool false)], args := [d1, d2, d3, d4] }
  | _ => none }
def MovedNearWrongFalsely : Prop := movedNearRow.holds Try.pinned (OpenSpec.ofChange movedNearWrong)

/-- 'droplaw2.FilmNear': WHATEVER THE INPUT: true; the input reads as it did. -/
def filmNearSpec : ChangeSpec := { name := "filmNear", fn := fun _ => fun
  | [d1, d2, d3, d4] => { results := [.lit (.bool true)], args := [d1, d2, d3, d4] }
  | _ => none }
def filmNearRow : OpenClaim := { program := "ytnnjijdpenifjaa", sum := "2cb4537f4e614716e7e769df8efaed360ee2829bda374b2db5cd4bbc4f5e9fb0", func := "dropletmill/droplaw2.FilmNear", spec := "filmNear", unfollowed := true, recurses := true, apart := false }
def FilmNearSaid : Prop := filmNearRow.holds Try.pinned (OpenSpec.ofChange filmNearSpec)

/-- ITS FALSE NEIGHBOUR: 'it returns false'. Refute it at one input. -/
def filmNearWrong : ChangeSpec := { name := "filmNear", fn := fun _ => fun
  | [d1, d2, d3, d4] => { results := [.lit (.bool false)], args := [d1, d2, d3, d4] }
  | _ => none }
def FilmNearWrongFalsely : Prop := filmNearRow.holds Try.pinned (OpenSpec.ofChange filmNearWrong)

/- THE SECOND FORM. 'bulk': how many values and letters a reading holds, each counted each time it is reached (what is shared counts as often as it is met; a slice's spare places count too). A statement '..UptoSaid' is the law's where the arguments, and the package variables that the reading takes, are together of bulk at most 1048576: NARROWER than '..Said'. Prove '..Said' where nothing that the law and all that it calls make is longer than what came in: it says more and counts as full. Else prove '..UptoSaid'. A law counts once. -/
mutual
def uptoBulk {H : Type} : DataW H → Nat
  | .lit (.string bytes) => bytes.length + 1
  | .lit _ => 1
  | .nil => 1
  | .ptr d => uptoBulk d + 1
  | .slice elems spare => uptoBulkAll elems + uptoBulkAll spare + 1
  | .agg parts => uptoBulkAll parts + 1
  | .iface _ d => uptoBulk d + 1
  | .map entries => uptoBulkEntries entries + 1
  | .held _ => 1
def uptoBulkAll {H : Type} : List (DataW H) → Nat
  | [] => 0
  | d :: r => uptoBulk d + uptoBulkAll r
def uptoBulkEntries {H : Type} : List (Lit × DataW H) → Nat
  | [] => 0
  | x :: r => uptoBulkEntry x + uptoBulkEntries r
def uptoBulkEntry {H : Type} : Lit × DataW H → Nat
  | (.string bytes, d) => bytes.length + uptoBulk d + 1
  | (_, d) => uptoBulk d + 1
 end
def uptoSmall : (H : Type) → List (DataW H) → Bool := fun _ ds => decide (uptoBulkAll ds ≤ 1048576)
def OpenSpec.upto (s : _root_.Go.ChangeSpec) : _root_.Go.OpenSpec := { _root_.Go.OpenSpec.ofChange s with cond := some uptoSmall }

/-- 'droplaw2.PictureApart', WHERE WHAT IT READS IS OF BULK AT MOST 1048576: true; the input reads as it did. -/
def pictureApartUptoRow : OpenClaim := { program := "ytnnjijdpenifjaa", sum := "2cb4537f4e614716e7e769df8efaed360ee2829bda374b2db5cd4bbc4f5e9fb0", func := "dropletmill/droplaw2.PictureApart", spec := "pictureApart", unfollowed := true, recurses := true, apart := false, narrowed := true }
def PictureApartUptoSaid : Prop := pictureApartUptoRow.holds Try.pinned (OpenSpec.upto pictureApartSpec)

/-- 'droplaw4.PictureStill', WHERE WHAT IT READS IS OF BULK AT MOST 1048576: true; the input reads as it did. -/
def pictureStillUptoRow : OpenClaim := { program := "ytnnjijdpenifjaa", sum := "2cb4537f4e614716e7e769df8efaed360ee2829bda374b2db5cd4bbc4f5e9fb0", func := "dropletmill/droplaw4.PictureStill", spec := "pictureStill", unfollowed := true, recurses := true, apart := false, narrowed := true }
def PictureStillUptoSaid : Prop := pictureStillUptoRow.holds Try.pinned (OpenSpec.upto pictureStillSpec)

/-- 'droplaw4.RiceNone', WHERE WHAT IT READS IS OF BULK AT MOST 1048576: true; the input reads as it did. -/
def riceNoneUptoRow : OpenClaim := { program := "ytnnjijdpenifjaa", sum := "2cb4537f4e614716e7e769df8efaed360ee2829bda374b2db5cd4bbc4f5e9fb0", func := "dropletmill/droplaw4.RiceNone", spec := "riceNone", unfollowed := true, recurses := true, apart := false, narrowed := true }
def RiceNoneUptoSaid : Prop := riceNoneUptoRow.holds Try.pinned (OpenSpec.upto riceNoneSpec)

/-- 'droplaw2.AloneNear', WHERE WHAT IT READS IS OF BULK AT MOST 1048576: true; the input reads as it did. -/
def aloneNearUptoRow : OpenClaim := { program := "ytnnjijdpenifjaa", sum := "2cb4537f4e614716e7e769df8efaed360ee2829bda374b2db5cd4bbc4f5e9fb0", func := "dropletmill/droplaw2.AloneNear", spec := "aloneNear", unfollowed := true, recurses := true, apart := false, narrowed := true }
def AloneNearUptoSaid : Prop := aloneNearUptoRow.holds Try.pinned (OpenSpec.upto aloneNearSpec)

/-- 'droplaw4.AloneFlat', WHERE WHAT IT READS IS OF BULK AT MOST 1048576: true; the input reads as it did. -/
def aloneFlatUptoRow : OpenClaim := { program := "ytnnjijdpenifjaa", sum := "2cb4537f4e614716e7e769df8efaed360ee2829bda374b2db5cd4bbc4f5e9fb0", func := "dropletmill/droplaw4.AloneFlat", spec := "aloneFlat", unfollowed := true, recurses := true, apart := false, narrowed := true }
def AloneFlatUptoSaid : Prop := aloneFlatUptoRow.holds Try.pinned (OpenSpec.upto aloneFlatSpec)

/-- 'droplaw2.MovedNear', WHERE WHAT IT READS IS OF BULK AT MOST 1048576: true; the input reads as it did. -/
def movedNearUptoRow : OpenClaim := { program := "ytnnjijdpenifjaa", sum := "2cb4537f4e614716e7e769df8efaed360ee2829bda374b2db5cd4bbc4f5e9fb0", func := "dropletmill/droplaw2.MovedNear", spec := "movedNear", unfollowed := true, recurses := true, apart := false, narrowed := true }
def MovedNearUptoSaid : Prop := movedNearUptoRow.holds Try.pinned (OpenSpec.upto movedNearSpec)

/-- 'droplaw2.FilmNear', WHERE WHAT IT READS IS OF BULK AT MOST 1048576: true; the input reads as it did. -/
def filmNearUptoRow : OpenClaim := { program := "ytnnjijdpenifjaa", sum := "2cb4537f4e614716e7e769df8efaed360ee2829bda374b2db5cd4bbc4f5e9fb0", func := "dropletmill/droplaw2.FilmNear", spec := "filmNear", unfollowed := true, recurses := true, apart := false, narrowed := true }
def FilmNearUptoSaid : Prop := filmNearUptoRow.holds Try.pinned (OpenSpec.upto filmNearSpec)

end Rows
end Go.Proofs.Ytnnjijdpenifjaa
