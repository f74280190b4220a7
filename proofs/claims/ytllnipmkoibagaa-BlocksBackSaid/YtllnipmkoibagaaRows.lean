/-
  No cell of these rows narrows 'for every input' (looked for: loops, veiled, ifaces, maps, wideKeys, modest, calm, conditions, laid).
  DERIVED. THE GIVEN ROWS OF THIS SEAT. 12 by the template 'for every input the law returns true; each argument reads behind the call as it read before'; 0 by the template 'total and deterministic' (their statements: YtllnipmkoibagaaTotals.lean).
  GIVEN WITH THE SEED: the statements are not yours to turn. If you find one false, say at which input.
  Laid BY PROGRAM, IN A SANDBOX (cutbox-rows.mjs): the forced cells as the released guide's own fill.sh prints them over the translation dcd8f44279fecc1c… (all of the seat's roots in one cut). By AI agents, Wed Nov 11 2026. No macro, syntax, notation, axiom, sorry.
-/
import Derived.Test.YtllnipmkoibagaaChecked
import GoSem.Claim
import GoSem.ClaimJoined
import GoSem.ClaimMapViews
import Derived.JoinedTies
import Derived.KernelRfl
namespace Go.Proofs.Ytllnipmkoibagaa
/- THE CELL 'sum', in the pinned program and in every row, IS THE sha256 OF THE DUMP (.gsa) THAT YtllnipmkoibagaaProg.lean LOADS. Nothing in Lean hashes anything: it is a label: what it is worth is what the hold of that sum in a sandbox is worth. -/
noncomputable def Try.pinned : Pinned := { name := "ytllnipmkoibagaa", sum := "dcd8f44279fecc1cdae8eb978ba917a3f0bfc2c18e41987101de1a67b62437fa", checked := Try.checked }
namespace Rows
def none {H : Type} : Left H := { results := [], args := [] }

/-- 'droplaw1.MixTwice': WHATEVER THE INPUT: true; the input reads as it did. -/
def mixTwiceSpec : ChangeSpec := { name := "mixTwice", fn := fun _ => fun
  | [d1, d2, d3] => { results := [.lit (.bool true)], args := [d1, d2, d3] }
  | _ => none }
def mixTwiceRow : OpenClaim := { program := "ytllnipmkoibagaa", sum := "dcd8f44279fecc1cdae8eb978ba917a3f0bfc2c18e41987101de1a67b62437fa", func := "dropletmill/droplaw1.MixTwice", spec := "mixTwice", apart := false }
def MixTwiceSaid : Prop := mixTwiceRow.holds Try.pinned (OpenSpec.ofChange mixTwiceSpec)

/-- ITS FALSE NEIGHBOUR: 'it returns false'. Refute it at one input. -/
def mixTwiceWrong : ChangeSpec := { name := "mixTwice", fn := fun _ => fun
  | [d1, d2, d3] => { results := [.lit (.bool false)], args := [d1, d2, d3] }
  | _ => none }
def MixTwiceWrongFalsely : Prop := mixTwiceRow.holds Try.pinned (OpenSpec.ofChange mixTwiceWrong)

/-- 'droplaw1.ChanceBack': WHATEVER THE INPUT: true; the input reads as it did. -/
def chanceBackSpec : ChangeSpec := { name := "chanceBack", fn := fun _ => fun
  | [d1, d2, d3] => { results := [.lit (.bool true)], args := [d1, d2, d3] }
  | _ => none }
def chanceBackRow : OpenClaim := { program := "ytllnipmkoibagaa", sum := "dcd8f44279fecc1cdae8eb978ba917a3f0bfc2c18e41987101de1a67b62437fa", func := "dropletmill/droplaw1.ChanceBack", spec := "chanceBack", apart := false }
def ChanceBackSaid : Prop := chanceBackRow.holds Try.pinned (OpenSpec.ofChange chanceBackSpec)

/-- ITS FALSE NEIGHBOUR: 'it returns false'. Refute it at one input. -/
def chanceBackWrong : ChangeSpec := { name := "chanceBack", fn := fun _ => fun
  | [d1, d2, d3] => { results := [.lit (.bool false)], args := [d1, d2, d3] }
  | _ => none }
def ChanceBackWrongFalsely : Prop := chanceBackRow.holds Try.pinned (OpenSpec.ofChange chanceBackWrong)

/-- 'droplaw4.WheelRound': WHATEVER THE INPUT: true; the input reads as it did. -/
def wheelRoundSpec : ChangeSpec := { name := "wheelRound", fn := fun _ => fun
  | [d1, d2, d3] => { results := [.lit (.bool true)], args := [d1, d2, d3] }
  | _ => none }
def wheelRoundRow : OpenClaim := { program := "ytllnipmkoibagaa", sum := "dcd8f44279fecc1cdae8eb978ba917a3f0bfc2c18e41987101de1a67b62437fa", func := "dropletmill/droplaw4.WheelRound", spec := "wheelRound", apart := false }
def WheelRoundSaid : Prop := wheelRoundRow.holds Try.pinned (OpenSpec.ofChange wheelRoundSpec)

/-- ITS FALSE NEIGHBOUR: 'it returns false'. Refute it at one input. -/
def wheelRoundWrong : ChangeSpec := { name := "wheelRound", fn := fun _ => fun
  | [d1, d2, d3] => { results := [.lit (.bool false)], args := [d1, d2, d3] }
  | _ => none }
def WheelRoundWrongFalsely : Prop := wheelRoundRow.holds Try.pinned (OpenSpec.ofChange wheelRoundWrong)

/-- 'droplaw1.Names': WHATEVER THE INPUT: true; the input reads as it did. -/
def namesSpec : ChangeSpec := { name := "names", fn := fun _ => fun
  | [] => { results := [.lit (.bool true)], args := [] }
  | _ => none }
def namesRow : OpenClaim := { program := "ytllnipmkoibagaa", sum := "dcd8f44279fecc1cdae8eb978ba917a3f0bfc2c18e41987101de1a67b62437fa", func := "dropletmill/droplaw1.Names", spec := "names", apart := false }
def NamesSaid : Prop := namesRow.holds Try.pinned (OpenSpec.ofChange namesSpec)

/-- ITS FALSE NEIGHBOUR: 'it returns false'. Refute it at one input. -/
def namesWrong : ChangeSpec := { name := "names", fn := fun _ => fun
  | [] => { results := [.lit (.bool false)], args := [] }
  | _ => none }
def NamesWrongFalsely : Prop := namesRow.holds Try.pinned (OpenSpec.ofChange namesWrong)

/-- 'droplaw4.ChanceMany': WHATEVER THE INPUT: true; the input reads as it did. -/
def chanceManySpec : ChangeSpec := { name := "chanceMany", fn := fun _ => fun
  | [d1, d2] => { results := [.lit (.bool true)], args := [d1, d2] }
  | _ => none }
def chanceManyRow : OpenClaim := { program := "ytllnipmkoibagaa", sum := "dcd8f44279fecc1cdae8eb978ba917a3f0bfc2c18e41987101de1a67b62437fa", func := "dropletmill/droplaw4.ChanceMany", spec := "chanceMany", apart := false }
def ChanceManySaid : Prop := chanceManyRow.holds Try.pinned (OpenSpec.ofChange chanceManySpec)

/-- ITS FALSE NEIGHBOUR: 'it returns false'. Refute it at one input. -/
def chanceManyWrong : ChangeSpec := { name := "chanceMany", fn := fun _ => fun
  | [d1, d2] => { results := [.lit (.bool false)], args := [d1, d2] }
  | _ => none }
def ChanceManyWrongFalsely : Prop := chanceManyRow.holds Try.pinned (OpenSpec.ofChange chanceManyWrong)

/-- 'droplaw1.DegreeRises': WHATEVER THE INPUT: true; the input reads as it did. -/
def degreeRisesSpec : ChangeSpec := { name := "degreeRises", fn := fun _ => fun
  | [d1, d2, d3] => { results := [.lit (.bool true)], args := [d1, d2, d3] }
  | _ => none }
def degreeRisesRow : OpenClaim := { program := "ytllnipmkoibagaa", sum := "dcd8f44279fecc1cdae8eb978ba917a3f0bfc2c18e41987101de1a67b62437fa", func := "dropletmill/droplaw1.DegreeRises", spec := "degreeRises", apart := false }
def DegreeRisesSaid : Prop := degreeRisesRow.holds Try.pinned (OpenSpec.ofChange degreeRisesSpec)

/-- ITS FALSE NEIGHBOUR: 'it returns false'. Refute it at one input. -/
def degreeRisesWrong : ChangeSpec := { name := "degreeRises", fn := fun _ => fun
  | [d1, d2, d3] => { results := [.lit (.bool false)], args := [d1, d2, d3] }
  | _ => none }
def DegreeRisesWrongFalsely : Prop := degreeRisesRow.holds Try.pinned (OpenSpec.ofChange degreeRisesWrong)

/-- 'droplaw4.DegreeOne': WHATEVER THE INPUT: true; the input reads as it did. -/
def degreeOneSpec : ChangeSpec := { name := "degreeOne", fn := fun _ => fun
  | [d] => { results := [.lit (.bool true)], args := [d] }
  | _ => none }
def degreeOneRow : OpenClaim := { program := "ytllnipmkoibagaa", sum := "dcd8f44279fecc1cdae8eb978ba917a3f0bfc2c18e41987101de1a67b62437fa", func := "dropletmill/droplaw4.DegreeOne", spec := "degreeOne", apart := false }
def DegreeOneSaid : Prop := degreeOneRow.holds Try.pinned (OpenSpec.ofChange degreeOneSpec)

/-- ITS FALSE NEIGHBOUR: 'it returns false'. Refute it at one input. -/
def degreeOneWrong : ChangeSpec := { name := "degreeOne", fn := fun _ => fun
  | [d] => { results := [.lit (.bool false)], args := [d] }
  | _ => none }
def DegreeOneWrongFalsely : Prop := degreeOneRow.holds Try.pinned (OpenSpec.ofChange degreeOneWrong)

/-- 'droplaw4.MixOne': WHATEVER THE INPUT: true; the input reads as it did. -/
def mixOneSpec : ChangeSpec := { name := "mixOne", fn := fun _ => fun
  | [d1, d2] => { results := [.lit (.bool true)], args := [d1, d2] }
  | _ => none }
def mixOneRow : OpenClaim := { program := "ytllnipmkoibagaa", sum := "dcd8f44279fecc1cdae8eb978ba917a3f0bfc2c18e41987101de1a67b62437fa", func := "dropletmill/droplaw4.MixOne", spec := "mixOne", unfollowed := true, recurses := true, apart := false }
def MixOneSaid : Prop := mixOneRow.holds Try.pinned (OpenSpec.ofChange mixOneSpec)

/-- ITS FALSE NEIGHBOUR: 'it returns false'. Refute it at one input. -/
def mixOneWrong : ChangeSpec := { name := "mixOne", fn := fun _ => fun
  | [d1, d2] => { results := [.lit (.bool false)], args := [d1, d2] }
  | _ => none }
def MixOneWrongFalsely : Prop := mixOneRow.holds Try.pinned (OpenSpec.ofChange mixOneWrong)

/-- 'droplaw1.GuardHeals': WHATEVER THE INPUT: true; the input reads as it did. -/
def guardHealsSpec : ChangeSpec := { name := "guardHeals", fn := fun _ => fun
  | [d1, d2, d3, d4] => { results := [.lit (.bool true)], args := [d1, d2, d3, d4] }
  | _ => none }
def guardHealsRow : OpenClaim := { program := "ytllnipmkoibagaa", sum := "dcd8f44279fecc1cdae8eb978ba917a3f0bfc2c18e41987101de1a67b62437fa", func := "dropletmill/droplaw1.GuardHeals", spec := "guardHeals", unfollowed := true, recurses := true, apart := false }
def GuardHealsSaid : Prop := guardHealsRow.holds Try.pinned (OpenSpec.ofChange guardHealsSpec)

/-- ITS FALSE NEIGHBOUR: 'it returns false'. Refute it at one input. -/
def guardHealsWrong : ChangeSpec := { name := "guardHeals", fn := fun _ => fun
  | [d1, d2, d3, d4] => { results := [.lit (.bool false)], args := [d1, d2, d3, d4] }
  | _ => none }
def GuardHealsWrongFalsely : Prop := guardHealsRow.holds Try.pinned (OpenSpec.ofChange guardHealsWrong)

/-- 'droplaw1.BlocksBack': WHATEVER THE INPUT: true; the input reads as it did. -/
def blocksBackSpec : ChangeSpec := { name := "blocksBack", fn := fun _ => fun
  | [d1, d2] => { results := [.lit (.bool true)], args := [d1, d2] }
  | _ => none }
def blocksBackRow : OpenClaim := { program := "ytllnipmkoibagaa", sum := "dcd8f44279fecc1cdae8eb978ba917a3f0bfc2c18e41987101de1a67b62437fa", func := "dropletmill/droplaw1.BlocksBack", spec := "blocksBack", inPlace := ["internal/abi.NoEscape", "internal/bytealg.MakeNoZero"], unfollowed := true, recurses := true, apart := false }
def BlocksBackSaid : Prop := blocksBackRow.holds Try.pinned (OpenSpec.ofChange blocksBackSpec)

/-- ITS FALSE NEIGHBOUR: 'it returns false'. Refute it at one input. -/
def blocksBackWrong : ChangeSpec := { name := "blocksBack", fn := fun _ => fun
  | [d1, d2] => { results := [.lit (.bool false)], args := [d1, d2] }
  | _ => none }
def BlocksBackWrongFalsely : Prop := blocksBackRow.holds Try.pinned (OpenSpec.ofChange blocksBackWrong)

/-- 'droplaw4.DropAlone': WHATEVER THE INPUT: true; the input reads as it did. -/
def dropAloneSpec : ChangeSpec := { name := "dropAlone", fn := fun _ => fun
  | [d1, d2] => { results := [.lit (.bool true)], args := [d1, d2] }
  | _ => none }
def dropAloneRow : OpenClaim := { program := "ytllnipmkoibagaa", sum := "dcd8f44279fecc1cdae8eb978ba917a3f0bfc2c18e41987101de1a67b62437fa", func := "dropletmill/droplaw4.DropAlone", spec := "dropAlone", unfollowed := true, recurses := true, apart := false }
def DropAloneSaid : Prop := dropAloneRow.holds Try.pinned (OpenSpec.ofChange dropAloneSpec)

/-- ITS FALSE NEIGHBOUR: 'it returns false'. Refute it at one input. -/
def dropAloneWrong : ChangeSpec := { name := "dropAlone", fn := fun _ => fun
  | [d1, d2] => { results := [.lit (.bool false)], args := [d1, d2] }
  | _ => none }
def DropAloneWrongFalsely : Prop := dropAloneRow.holds Try.pinned (OpenSpec.ofChange dropAloneWrong)

/-- 'droplaw1.DropAdds': WHATEVER THE INPUT: true; the input reads as it did. -/
def dropAddsSpec : ChangeSpec := { name := "dropAdds", fn := fun _ => fun
  | [d1, d2, d3] => { results := [.lit (.bool true)], args := [d1, d2, d3] }
  | _ => none }
def dropAddsRow : OpenClaim := { program := "ytllnipmkoibagaa", sum := "dcd8f44279fecc1cdae8eb978ba917a3f0bfc2c18e41987101de1a67b62437fa", func := "dropletmill/droplaw1.DropAdds", spec := "dropAdds", unfollowed := true, recurses := true, apart := false }
def DropAddsSaid : Prop := dropAddsRow.holds Try.pinned (OpenSpec.ofChange dropAddsSpec)

/-- ITS FALSE NEIGHBOUR: 'it returns false'. Refute it at one input. -/
def dropAddsWrong : ChangeSpec := { name := "dropAdds", fn := fun _ => fun
  | [d1, d2, d3] => { results := [.lit (.bool false)], args := [d1, d2, d3] }
  | _ => none }
def DropAddsWrongFalsely : Prop := dropAddsRow.holds Try.pinned (OpenSpec.ofChange dropAddsWrong)

/- THE SECOND FORM. 'bulk': how many values and letters a reading holds, each counted each time it is reached (what is shared counts as often as it is met; a slice's spare places count too). A statement '..UptoSaid' is the law's where the arguments, and the package variables that the reading takes, are together of bulk at most 1048576: NARROWER than '..Said'. Prove '..Said' where nothing that the law and all that it calls make is longer than what came in: it says more and counts as full. Else prove '..UptoSaid'. A law counts once. -/
mutual
def uptoBulk {H : Type} : DataW H → Nat
  | .lit (.string bytes) => bytes.length + 1
  | .lit _ => 1
  | .nil => 1
  | .ptr d => uptoBulk d + 1
  | .slice elems spare => uptoBulkAll elems + uptoBulkAll spare + 1
  | .agg parts => uptoBulkAll parts + 1
  | .iface _ d => uptoBulk d + 1
  | .map entries => uptoBulkEntries entries + 1
  | .held _ => 1
def uptoBulkAll {H : Type} : List (DataW H) → Nat
  | [] => 0
  | d :: r => uptoBulk d + uptoBulkAll r
def uptoBulkEntries {H : Type} : List (Lit × DataW H) → Nat
  | [] => 0
  | x :: r => uptoBulkEntry x + uptoBulkEntries r
def uptoBulkEntry {H : Type} : Lit × DataW H → Nat
  | (.string bytes, d) => bytes.length + uptoBulk d + 1
  | (_, d) => uptoBulk d + 1
 end
def uptoSmall : (H : Type) → List (DataW H) → Bool := fun _ ds => decide (uptoBulkAll ds ≤ 1048576)
def OpenSpec.upto (s : _root_.Go.ChangeSpec) : _root_.Go.OpenSpec := { _root_.Go.OpenSpec.ofChange s with cond := some uptoSmall }

/-- 'droplaw1.MixTwice', WHERE WHAT IT READS IS OF BULK AT MOST 1048576: true; the input reads as it did. -/
def mixTwiceUptoRow : OpenClaim := { program := "ytllnipmkoibagaa", sum := "dcd8f44279fecc1cdae8eb978ba917a3f0bfc2c18e41987101de1a67b62437fa", func := "dropletmill/droplaw1.MixTwice", spec := "mixTwice", apart := false, narrowed := true }
def MixTwiceUptoSaid : Prop := mixTwiceUptoRow.holds Try.pinned (OpenSpec.upto mixTwiceSpec)

/-- 'droplaw1.ChanceBack', WHERE WHAT IT READS IS OF BULK AT MOST 1048576: true; the input reads as it did. -/
def chanceBackUptoRow : OpenClaim := { program := "ytllnipmkoibagaa", sum := "dcd8f44279fecc1cdae8eb978ba917a3f0bfc2c18e41987101de1a67b62437fa", func := "dropletmill/droplaw1.ChanceBack", spec := "chanceBack", apart := false, narrowed := true }
def ChanceBackUptoSaid : Prop := chanceBackUptoRow.holds Try.pinned (OpenSpec.upto chanceBackSpec)

/-- 'droplaw4.WheelRound', WHERE WHAT IT READS IS OF BULK AT MOST 1048576: true; the input reads as it did. -/
def wheelRoundUptoRow : OpenClaim := { program := "ytllnipmkoibagaa", sum := "dcd8f44279fecc1cdae8eb978ba917a3f0bfc2c18e41987101de1a67b62437fa", func := "dropletmill/droplaw4.WheelRound", spec := "wheelRound", apart := false, narrowed := true }
def WheelRoundUptoSaid : Prop := wheelRoundUptoRow.holds Try.pinned (OpenSpec.upto wheelRoundSpec)

/-- 'droplaw1.Names', WHERE WHAT IT READS IS OF BULK AT MOST 1048576: true; the input reads as it did. -/
def namesUptoRow : OpenClaim := { program := "ytllnipmkoibagaa", sum := "dcd8f44279fecc1cdae8eb978ba917a3f0bfc2c18e41987101de1a67b62437fa", func := "dropletmill/droplaw1.Names", spec := "names", apart := false, narrowed := true }
def NamesUptoSaid : Prop := namesUptoRow.holds Try.pinned (OpenSpec.upto namesSpec)

/-- 'droplaw4.ChanceMany', WHERE WHAT IT READS IS OF BULK AT MOST 1048576: true; the input reads as it did. -/
def chanceManyUptoRow : OpenClaim := { program := "ytllnipmkoibagaa", sum := "dcd8f44279fecc1cdae8eb978ba917a3f0bfc2c18e41987101de1a67b62437fa", func := "dropletmill/droplaw4.ChanceMany", spec := "chanceMany", apart := false, narrowed := true }
def ChanceManyUptoSaid : Prop := chanceManyUptoRow.holds Try.pinned (OpenSpec.upto chanceManySpec)

/-- 'droplaw1.DegreeRises', WHERE WHAT IT READS IS OF BULK AT MOST 1048576: true; the input reads as it did. -/
def degreeRisesUptoRow : OpenClaim := { program := "ytllnipmkoibagaa", sum := "dcd8f44279fecc1cdae8eb978ba917a3f0bfc2c18e41987101de1a67b62437fa", func := "dropletmill/droplaw1.DegreeRises", spec := "degreeRises", apart := false, narrowed := true }
def DegreeRisesUptoSaid : Prop := degreeRisesUptoRow.holds Try.pinned (OpenSpec.upto degreeRisesSpec)

/-- 'droplaw4.DegreeOne', WHERE WHAT IT READS IS OF BULK AT MOST 1048576: true; the input reads as it did. -/
def degreeOneUptoRow : OpenClaim := { program := "ytllnipmkoibagaa", sum := "dcd8f44279fecc1cdae8eb978ba917a3f0bfc2c18e41987101de1a67b62437fa", func := "dropletmill/droplaw4.DegreeOne", spec := "degreeOne", apart := false, narrowed := true }
def DegreeOneUptoSaid : Prop := degreeOneUptoRow.holds Try.pinned (OpenSpec.upto degreeOneSpec)

/-- 'droplaw4.MixOne', WHERE WHAT IT READS IS OF BULK AT MOST 1048576: true; the input reads as it did. -/
def mixOneUptoRow : OpenClaim := { program := "ytllnipmkoibagaa", sum := "dcd8f44279fecc1cdae8eb978ba917a3f0bfc2c18e41987101de1a67b62437fa", func := "dropletmill/droplaw4.MixOne", spec := "mixOne", unfollowed := true, recurses := true, apart := false, narrowed := true }
def MixOneUptoSaid : Prop := mixOneUptoRow.holds Try.pinned (OpenSpec.upto mixOneSpec)

/-- 'droplaw1.GuardHeals', WHERE WHAT IT READS IS OF BULK AT MOST 1048576: true; the input reads as it did. -/
def guardHealsUptoRow : OpenClaim := { program := "ytllnipmkoibagaa", sum := "dcd8f44279fecc1cdae8eb978ba917a3f0bfc2c18e41987101de1a67b62437fa", func := "dropletmill/droplaw1.GuardHeals", spec := "guardHeals", unfollowed := true, recurses := true, apart := false, narrowed := true }
def GuardHealsUptoSaid : Prop := guardHealsUptoRow.holds Try.pinned (OpenSpec.upto guardHealsSpec)

/-- 'droplaw1.BlocksBack', WHERE WHAT IT READS IS OF BULK AT MOST 1048576: true; the input reads as it did. -/
def blocksBackUptoRow : OpenClaim := { program := "ytllnipmkoibagaa", sum := "dcd8f44279fecc1cdae8eb978ba917a3f0bfc2c18e41987101de1a67b62437fa", func := "dropletmill/droplaw1.BlocksBack", spec := "blocksBack", inPlace := ["internal/abi.NoEscape", "internal/bytealg.MakeNoZero"], unfollowed := true, recurses := true, apart := false, narrowed := true }
def BlocksBackUptoSaid : Prop := blocksBackUptoRow.holds Try.pinned (OpenSpec.upto blocksBackSpec)

/-- 'droplaw4.DropAlone', WHERE WHAT IT READS IS OF BULK AT MOST 1048576: true; the input reads as it did. -/
def dropAloneUptoRow : OpenClaim := { program := "ytllnipmkoibagaa", sum := "dcd8f44279fecc1cdae8eb978ba917a3f0bfc2c18e41987101de1a67b62437fa", func := "dropletmill/droplaw4.DropAlone", spec := "dropAlone", unfollowed := true, recurses := true, apart := false, narrowed := true }
def DropAloneUptoSaid : Prop := dropAloneUptoRow.holds Try.pinned (OpenSpec.upto dropAloneSpec)

/-- 'droplaw1.DropAdds', WHERE WHAT IT READS IS OF BULK AT MOST 1048576: true; the input reads as it did. -/
def dropAddsUptoRow : OpenClaim := { program := "ytllnipmkoibagaa", sum := "dcd8f44279fecc1cdae8eb978ba917a3f0bfc2c18e41987101de1a67b62437fa", func := "dropletmill/droplaw1.DropAdds", spec := "dropAdds", unfollowed := true, recurses := true, apart := false, narrowed := true }
def DropAddsUptoSaid : Prop := dropAddsUptoRow.holds Try.pinned (OpenSpec.upto dropAddsSpec)

end Rows
end Go.Proofs.Ytllnipmkoibagaa
