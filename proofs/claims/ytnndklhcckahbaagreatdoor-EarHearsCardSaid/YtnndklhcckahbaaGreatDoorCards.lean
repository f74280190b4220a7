/-
  DERIVED. GIVEN WITH THE SEED: THE CARDS: each row of YtnndklhcckahbaaGreatDoorRows.lean that lists a variable, with what it lists TIED to the program's text (the seventh form; the later family's looks); each row that meets fmt, with fmt's text TOLD by the authors' own Lean function (tested against real Go, not proved from fmt's source: count such statements apart). THE CARD IS WHAT COUNTS. Prove the row's statement (the work); the ties are given (YtnndklhcckahbaaGreatDoorTie.lean); close each card by the builder's one call (the guide's Derived/Test/ToyasCard.lean, 'card_holds'). Laid BY PROGRAM, IN A SANDBOX (cutbox-door.mjs). By AI agents, Wed Nov 11 2026. No macro, syntax, notation, axiom, sorry.
-/
import Derived.Test.YtnndklhcckahbaaGreatDoorRows
import GoSem.ClaimSeven
namespace Go.Proofs.YtnndklhcckahbaaGreatDoor
namespace Rows

/-- THE TIED CARD OF 'droplaw2.EarHears'. -/
def earHearsCard : Claim7 := { stood := { row := earHearsRow, standIns := [], harness := (true, "44054657726adca1c6bc6922904caab78beb7faa62857c87f30001c555e66dd1"), looks := true }, kinds := [], alts := [], laidByText := true, laidKinds := [.handle], laidTests := true, laidLooks := .later }
def EarHearsCardSaid : Prop := Claim7.holds Tryz.pinned (.plain (OpenSpec.ofChange earHearsSpec)) earHearsCard

/-- THE SECOND FORM's CARD OF 'droplaw2.EarHears'. -/
def earHearsUptoCard : Claim7 := { stood := { row := earHearsUptoRow, standIns := [], harness := (true, "44054657726adca1c6bc6922904caab78beb7faa62857c87f30001c555e66dd1"), looks := true }, kinds := [], alts := [], laidByText := true, laidKinds := [.handle], laidTests := true, laidLooks := .later }
def EarHearsUptoCardSaid : Prop := Claim7.holds Tryz.pinned (.plain (OpenSpec.upto earHearsSpec)) earHearsUptoCard
end Rows
end Go.Proofs.YtnndklhcckahbaaGreatDoor
