/-
  DERIVED. GIVEN WITH THE SEED: THE CARDS: each row of YtcpookgbneoilaaGreatDoorRows.lean that lists a variable, with what it lists TIED to the program's text (the seventh form; the later family's looks); each row that meets fmt, with fmt's text TOLD by the authors' own Lean function (tested against real Go, not proved from fmt's source: count such statements apart). THE CARD IS WHAT COUNTS. Prove the row's statement (the work); the ties are given (YtcpookgbneoilaaGreatDoorTie.lean); close each card by the builder's one call (the guide's Derived/Test/ToyasCard.lean, 'card_holds'). Laid BY PROGRAM, IN A SANDBOX (cutbox-door.mjs). By AI agents, Wed Nov 11 2026. No macro, syntax, notation, axiom, sorry.
-/
import Derived.Test.YtcpookgbneoilaaGreatDoorRows
import GoSem.ClaimSeven
namespace Go.Proofs.YtcpookgbneoilaaGreatDoor
namespace Rows

/-- THE TIED CARD OF 'droplaw2.EarPlays'. -/
def earPlaysCard : Claim7 := { stood := { row := earPlaysRow, standIns := [], harness := (true, "4c5d021938a6c0320b348fc23bc67c8f5bba491d536f8bb7659c4cde28bd9370"), looks := true }, kinds := [], alts := [], laidByText := true, laidKinds := [.handle], laidTests := true, laidLooks := .later }
def EarPlaysCardSaid : Prop := Claim7.holds Tryz.pinned (.plain (OpenSpec.ofChange earPlaysSpec)) earPlaysCard

/-- THE SECOND FORM's CARD OF 'droplaw2.EarPlays'. -/
def earPlaysUptoCard : Claim7 := { stood := { row := earPlaysUptoRow, standIns := [], harness := (true, "4c5d021938a6c0320b348fc23bc67c8f5bba491d536f8bb7659c4cde28bd9370"), looks := true }, kinds := [], alts := [], laidByText := true, laidKinds := [.handle], laidTests := true, laidLooks := .later }
def EarPlaysUptoCardSaid : Prop := Claim7.holds Tryz.pinned (.plain (OpenSpec.upto earPlaysSpec)) earPlaysUptoCard
end Rows
end Go.Proofs.YtcpookgbneoilaaGreatDoor
