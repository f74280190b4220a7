/-
  DERIVED. GIVEN WITH THE SEED: THE CARDS: each row of YtheimfdbadjpoaaGreatDoorRows.lean that lists a variable, with what it lists TIED to the program's text (the seventh form; the later family's looks); each row that meets fmt, with fmt's text TOLD by the authors' own Lean function (tested against real Go, not proved from fmt's source: count such statements apart). THE CARD IS WHAT COUNTS. Prove the row's statement (the work); the ties are given (YtheimfdbadjpoaaGreatDoorTie.lean); close each card by the builder's one call (the guide's Derived/Test/ToyasCard.lean, 'card_holds'). Laid BY PROGRAM, IN A SANDBOX (cutbox-door.mjs). By AI agents, Wed Nov 11 2026. No macro, syntax, notation, axiom, sorry.
-/
import Derived.Test.YtheimfdbadjpoaaGreatDoorRows
import GoSem.ClaimSeven
namespace Go.Proofs.YtheimfdbadjpoaaGreatDoor
namespace Rows

/-- THE TIED CARD OF 'droptop.TopFilm'. -/
def topFilmCard : Claim7 := { stood := { row := topFilmRow, standIns := [], harness := (true, "8f57318055210a399001c85adc589b3ef50cfd1f75eeb30046aeeae2d7a4292a"), looks := true }, kinds := [], alts := [], laidByText := true, laidKinds := [.handle], laidTests := true, laidLooks := .later }
def TopFilmCardSaid : Prop := Claim7.holds Tryz.pinned (.plain (OpenSpec.ofChange topFilmSpec)) topFilmCard

/-- THE TIED CARD OF 'droptop.TopGuard'. -/
def topGuardCard : Claim7 := { stood := { row := topGuardRow, standIns := [], harness := (true, "8f57318055210a399001c85adc589b3ef50cfd1f75eeb30046aeeae2d7a4292a"), looks := true }, kinds := [], alts := [], laidByText := true, laidKinds := [.data, .data, .data, .handle, .sentinel, .sentinel, .listed, .data], laidTests := true, laidLooks := .later }
def TopGuardCardSaid : Prop := Claim7.holds Tryz.pinned (.plain (OpenSpec.ofChange topGuardSpec)) topGuardCard

/-- THE TIED CARD OF 'droplaw4.LogOnce'. -/
def logOnceCard : Claim7 := { stood := { row := logOnceRow, standIns := [], harness := (true, "8f57318055210a399001c85adc589b3ef50cfd1f75eeb30046aeeae2d7a4292a"), looks := true }, kinds := [], alts := [], laidByText := true, laidKinds := [.data, .data, .data, .handle], laidTests := true, laidLooks := .later }
def LogOnceCardSaid : Prop := Claim7.holds Tryz.pinned (.plain (OpenSpec.ofChange logOnceSpec)) logOnceCard

/-- THE TIED CARD OF 'droplaw3.LogStops'. -/
def logStopsCard : Claim7 := { stood := { row := logStopsRow, standIns := [], harness := (true, "8f57318055210a399001c85adc589b3ef50cfd1f75eeb30046aeeae2d7a4292a"), looks := true }, kinds := [], alts := [], laidByText := true, laidKinds := [.data, .data, .data, .handle, .sentinel, .sentinel, .listed, .data], laidTests := true, laidLooks := .later }
def LogStopsCardSaid : Prop := Claim7.holds Tryz.pinned (.plain (OpenSpec.ofChange logStopsSpec)) logStopsCard

/-- THE SECOND FORM's CARD OF 'droptop.TopFilm'. -/
def topFilmUptoCard : Claim7 := { stood := { row := topFilmUptoRow, standIns := [], harness := (true, "8f57318055210a399001c85adc589b3ef50cfd1f75eeb30046aeeae2d7a4292a"), looks := true }, kinds := [], alts := [], laidByText := true, laidKinds := [.handle], laidTests := true, laidLooks := .later }
def TopFilmUptoCardSaid : Prop := Claim7.holds Tryz.pinned (.plain (OpenSpec.upto topFilmSpec)) topFilmUptoCard

/-- THE SECOND FORM's CARD OF 'droptop.TopGuard'. -/
def topGuardUptoCard : Claim7 := { stood := { row := topGuardUptoRow, standIns := [], harness := (true, "8f57318055210a399001c85adc589b3ef50cfd1f75eeb30046aeeae2d7a4292a"), looks := true }, kinds := [], alts := [], laidByText := true, laidKinds := [.data, .data, .data, .handle, .sentinel, .sentinel, .listed, .data], laidTests := true, laidLooks := .later }
def TopGuardUptoCardSaid : Prop := Claim7.holds Tryz.pinned (.plain (OpenSpec.upto topGuardSpec)) topGuardUptoCard

/-- THE SECOND FORM's CARD OF 'droplaw4.LogOnce'. -/
def logOnceUptoCard : Claim7 := { stood := { row := logOnceUptoRow, standIns := [], harness := (true, "8f57318055210a399001c85adc589b3ef50cfd1f75eeb30046aeeae2d7a4292a"), looks := true }, kinds := [], alts := [], laidByText := true, laidKinds := [.data, .data, .data, .handle], laidTests := true, laidLooks := .later }
def LogOnceUptoCardSaid : Prop := Claim7.holds Tryz.pinned (.plain (OpenSpec.upto logOnceSpec)) logOnceUptoCard

/-- THE SECOND FORM's CARD OF 'droplaw3.LogStops'. -/
def logStopsUptoCard : Claim7 := { stood := { row := logStopsUptoRow, standIns := [], harness := (true, "8f57318055210a399001c85adc589b3ef50cfd1f75eeb30046aeeae2d7a4292a"), looks := true }, kinds := [], alts := [], laidByText := true, laidKinds := [.data, .data, .data, .handle, .sentinel, .sentinel, .listed, .data], laidTests := true, laidLooks := .later }
def LogStopsUptoCardSaid : Prop := Claim7.holds Tryz.pinned (.plain (OpenSpec.upto logStopsSpec)) logStopsUptoCard
end Rows
end Go.Proofs.YtheimfdbadjpoaaGreatDoor
