/-
  DERIVED. GIVEN WITH THE SEED: THE CARDS: each row of YtllnipmkoibagaaDoorRows.lean that lists a variable, with what it lists TIED to the program's text (the seventh form; the later family's looks); each row that meets fmt, with fmt's text TOLD by the authors' own Lean function (tested against real Go, not proved from fmt's source: count such statements apart). THE CARD IS WHAT COUNTS. Prove the row's statement (the work); the ties are given (YtllnipmkoibagaaDoorTie.lean); close each card by the builder's one call (the guide's Derived/Test/ToyasCard.lean, 'card_holds'). Laid BY PROGRAM, IN A SANDBOX (cutbox-door.mjs). By AI agents, Wed Nov 11 2026. No macro, syntax, notation, axiom, sorry.
-/
import Derived.Test.YtllnipmkoibagaaDoorRows
import GoSem.ClaimSeven
namespace Go.Proofs.YtllnipmkoibagaaDoor
namespace Rows

/-- THE TIED CARD OF 'droplaw1.ChanceTells'. -/
def chanceTellsCard : Claim7 := { stood := { row := chanceTellsRow, standIns := [], harness := (true, "ff7d0a4d87859b844d0d285dd59f760494421f568151ee61399a427faa05a9b7"), looks := true }, kinds := [], alts := [], laidByText := true, laidKinds := [.handle], laidTests := true, laidLooks := .later }
def ChanceTellsCardSaid : Prop := Claim7.holds Tryd.pinned (.plain (OpenSpec.ofChange chanceTellsSpec)) chanceTellsCard

/-- THE TIED CARD OF 'droplaw1.DegreeTells'. -/
def degreeTellsCard : Claim7 := { stood := { row := degreeTellsRow, standIns := [], harness := (true, "ff7d0a4d87859b844d0d285dd59f760494421f568151ee61399a427faa05a9b7"), looks := true }, kinds := [], alts := [], laidByText := true, laidKinds := [.handle], laidTests := true, laidLooks := .later }
def DegreeTellsCardSaid : Prop := Claim7.holds Tryd.pinned (.plain (OpenSpec.ofChange degreeTellsSpec)) degreeTellsCard

/-- THE TIED CARD OF 'droplaw1.WheelTells'. -/
def wheelTellsCard : Claim7 := { stood := { row := wheelTellsRow, standIns := [], harness := (true, "ff7d0a4d87859b844d0d285dd59f760494421f568151ee61399a427faa05a9b7"), looks := true }, kinds := [], alts := [], laidByText := true, laidKinds := [.handle], laidTests := true, laidLooks := .later }
def WheelTellsCardSaid : Prop := Claim7.holds Tryd.pinned (.plain (OpenSpec.ofChange wheelTellsSpec)) wheelTellsCard

/-- THE TIED CARD OF 'droplaw1.MixTells'. -/
def mixTellsCard : Claim7 := { stood := { row := mixTellsRow, standIns := [], harness := (true, "ff7d0a4d87859b844d0d285dd59f760494421f568151ee61399a427faa05a9b7"), looks := true }, kinds := [], alts := [], laidByText := true, laidKinds := [.handle], laidTests := true, laidLooks := .later }
def MixTellsCardSaid : Prop := Claim7.holds Tryd.pinned (.plain (OpenSpec.ofChange mixTellsSpec)) mixTellsCard

/-- THE TIED CARD OF 'droplaw4.BlocksMany'. -/
def blocksManyCard : Claim7 := { stood := { row := blocksManyRow, standIns := [], harness := (true, "ff7d0a4d87859b844d0d285dd59f760494421f568151ee61399a427faa05a9b7"), looks := true }, kinds := [], alts := [], laidByText := true, laidKinds := [.handle], laidTests := true, laidLooks := .later }
def BlocksManyCardSaid : Prop := Claim7.holds Tryd.pinned (.plain (OpenSpec.ofChange blocksManySpec)) blocksManyCard

/-- THE TIED CARD OF 'droplaw1.BlocksTell'. -/
def blocksTellCard : Claim7 := { stood := { row := blocksTellRow, standIns := [], harness := (true, "ff7d0a4d87859b844d0d285dd59f760494421f568151ee61399a427faa05a9b7"), looks := true }, kinds := [], alts := [], laidByText := true, laidKinds := [.handle], laidTests := true, laidLooks := .later }
def BlocksTellCardSaid : Prop := Claim7.holds Tryd.pinned (.plain (OpenSpec.ofChange blocksTellSpec)) blocksTellCard

/-- THE TIED CARD OF 'droplaw1.GuardTells'. -/
def guardTellsCard : Claim7 := { stood := { row := guardTellsRow, standIns := [], harness := (true, "ff7d0a4d87859b844d0d285dd59f760494421f568151ee61399a427faa05a9b7"), looks := true }, kinds := [], alts := [], laidByText := true, laidKinds := [.handle], laidTests := true, laidLooks := .later }
def GuardTellsCardSaid : Prop := Claim7.holds Tryd.pinned (.plain (OpenSpec.ofChange guardTellsSpec)) guardTellsCard

/-- THE TIED CARD OF 'droplaw4.GuardTwo'. -/
def guardTwoCard : Claim7 := { stood := { row := guardTwoRow, standIns := [], harness := (true, "ff7d0a4d87859b844d0d285dd59f760494421f568151ee61399a427faa05a9b7"), looks := true }, kinds := [], alts := [], laidByText := true, laidKinds := [.handle], laidTests := true, laidLooks := .later }
def GuardTwoCardSaid : Prop := Claim7.holds Tryd.pinned (.plain (OpenSpec.ofChange guardTwoSpec)) guardTwoCard

/-- THE TIED CARD OF 'droplaw1.DropTells'. -/
def dropTellsCard : Claim7 := { stood := { row := dropTellsRow, standIns := [], harness := (true, "ff7d0a4d87859b844d0d285dd59f760494421f568151ee61399a427faa05a9b7"), looks := true }, kinds := [], alts := [], laidByText := true, laidKinds := [.handle], laidTests := true, laidLooks := .later }
def DropTellsCardSaid : Prop := Claim7.holds Tryd.pinned (.plain (OpenSpec.ofChange dropTellsSpec)) dropTellsCard

/-- THE SECOND FORM's CARD OF 'droplaw1.ChanceTells'. -/
def chanceTellsUptoCard : Claim7 := { stood := { row := chanceTellsUptoRow, standIns := [], harness := (true, "ff7d0a4d87859b844d0d285dd59f760494421f568151ee61399a427faa05a9b7"), looks := true }, kinds := [], alts := [], laidByText := true, laidKinds := [.handle], laidTests := true, laidLooks := .later }
def ChanceTellsUptoCardSaid : Prop := Claim7.holds Tryd.pinned (.plain (OpenSpec.upto chanceTellsSpec)) chanceTellsUptoCard

/-- THE SECOND FORM's CARD OF 'droplaw1.DegreeTells'. -/
def degreeTellsUptoCard : Claim7 := { stood := { row := degreeTellsUptoRow, standIns := [], harness := (true, "ff7d0a4d87859b844d0d285dd59f760494421f568151ee61399a427faa05a9b7"), looks := true }, kinds := [], alts := [], laidByText := true, laidKinds := [.handle], laidTests := true, laidLooks := .later }
def DegreeTellsUptoCardSaid : Prop := Claim7.holds Tryd.pinned (.plain (OpenSpec.upto degreeTellsSpec)) degreeTellsUptoCard

/-- THE SECOND FORM's CARD OF 'droplaw1.WheelTells'. -/
def wheelTellsUptoCard : Claim7 := { stood := { row := wheelTellsUptoRow, standIns := [], harness := (true, "ff7d0a4d87859b844d0d285dd59f760494421f568151ee61399a427faa05a9b7"), looks := true }, kinds := [], alts := [], laidByText := true, laidKinds := [.handle], laidTests := true, laidLooks := .later }
def WheelTellsUptoCardSaid : Prop := Claim7.holds Tryd.pinned (.plain (OpenSpec.upto wheelTellsSpec)) wheelTellsUptoCard

/-- THE SECOND FORM's CARD OF 'droplaw1.MixTells'. -/
def mixTellsUptoCard : Claim7 := { stood := { row := mixTellsUptoRow, standIns := [], harness := (true, "ff7d0a4d87859b844d0d285dd59f760494421f568151ee61399a427faa05a9b7"), looks := true }, kinds := [], alts := [], laidByText := true, laidKinds := [.handle], laidTests := true, laidLooks := .later }
def MixTellsUptoCardSaid : Prop := Claim7.holds Tryd.pinned (.plain (OpenSpec.upto mixTellsSpec)) mixTellsUptoCard

/-- THE SECOND FORM's CARD OF 'droplaw4.BlocksMany'. -/
def blocksManyUptoCard : Claim7 := { stood := { row := blocksManyUptoRow, standIns := [], harness := (true, "ff7d0a4d87859b844d0d285dd59f760494421f568151ee61399a427faa05a9b7"), looks := true }, kinds := [], alts := [], laidByText := true, laidKinds := [.handle], laidTests := true, laidLooks := .later }
def BlocksManyUptoCardSaid : Prop := Claim7.holds Tryd.pinned (.plain (OpenSpec.upto blocksManySpec)) blocksManyUptoCard

/-- THE SECOND FORM's CARD OF 'droplaw1.BlocksTell'. -/
def blocksTellUptoCard : Claim7 := { stood := { row := blocksTellUptoRow, standIns := [], harness := (true, "ff7d0a4d87859b844d0d285dd59f760494421f568151ee61399a427faa05a9b7"), looks := true }, kinds := [], alts := [], laidByText := true, laidKinds := [.handle], laidTests := true, laidLooks := .later }
def BlocksTellUptoCardSaid : Prop := Claim7.holds Tryd.pinned (.plain (OpenSpec.upto blocksTellSpec)) blocksTellUptoCard

/-- THE SECOND FORM's CARD OF 'droplaw1.GuardTells'. -/
def guardTellsUptoCard : Claim7 := { stood := { row := guardTellsUptoRow, standIns := [], harness := (true, "ff7d0a4d87859b844d0d285dd59f760494421f568151ee61399a427faa05a9b7"), looks := true }, kinds := [], alts := [], laidByText := true, laidKinds := [.handle], laidTests := true, laidLooks := .later }
def GuardTellsUptoCardSaid : Prop := Claim7.holds Tryd.pinned (.plain (OpenSpec.upto guardTellsSpec)) guardTellsUptoCard

/-- THE SECOND FORM's CARD OF 'droplaw4.GuardTwo'. -/
def guardTwoUptoCard : Claim7 := { stood := { row := guardTwoUptoRow, standIns := [], harness := (true, "ff7d0a4d87859b844d0d285dd59f760494421f568151ee61399a427faa05a9b7"), looks := true }, kinds := [], alts := [], laidByText := true, laidKinds := [.handle], laidTests := true, laidLooks := .later }
def GuardTwoUptoCardSaid : Prop := Claim7.holds Tryd.pinned (.plain (OpenSpec.upto guardTwoSpec)) guardTwoUptoCard

/-- THE SECOND FORM's CARD OF 'droplaw1.DropTells'. -/
def dropTellsUptoCard : Claim7 := { stood := { row := dropTellsUptoRow, standIns := [], harness := (true, "ff7d0a4d87859b844d0d285dd59f760494421f568151ee61399a427faa05a9b7"), looks := true }, kinds := [], alts := [], laidByText := true, laidKinds := [.handle], laidTests := true, laidLooks := .later }
def DropTellsUptoCardSaid : Prop := Claim7.holds Tryd.pinned (.plain (OpenSpec.upto dropTellsSpec)) dropTellsUptoCard
end Rows
end Go.Proofs.YtllnipmkoibagaaDoor
