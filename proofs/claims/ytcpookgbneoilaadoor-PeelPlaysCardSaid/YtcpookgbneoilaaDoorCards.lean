/-
  DERIVED. GIVEN WITH THE SEED: THE CARDS: each row of YtcpookgbneoilaaDoorRows.lean that lists a variable, with what it lists TIED to the program's text (the seventh form; the later family's looks); each row that meets fmt, with fmt's text TOLD by the authors' own Lean function (tested against real Go, not proved from fmt's source: count such statements apart). THE CARD IS WHAT COUNTS. Prove the row's statement (the work); the ties are given (YtcpookgbneoilaaDoorTie.lean); close each card by the builder's one call (the guide's Derived/Test/ToyasCard.lean, 'card_holds'). Laid BY PROGRAM, IN A SANDBOX (cutbox-door.mjs). By AI agents, Wed Nov 11 2026. No macro, syntax, notation, axiom, sorry.
-/
import Derived.Test.YtcpookgbneoilaaDoorRows
import GoSem.ClaimSeven
namespace Go.Proofs.YtcpookgbneoilaaDoor
namespace Rows

/-- THE TIED CARD OF 'droplaw1.PeelPlays'. -/
def peelPlaysCard : Claim7 := { stood := { row := peelPlaysRow, standIns := [], harness := (true, "18ef364fc95df757785f7d0ba99660e40216ddbef893ebd8a5589f0684c24193"), looks := true }, kinds := [], alts := [], laidByText := true, laidKinds := [.handle], laidTests := true, laidLooks := .later }
def PeelPlaysCardSaid : Prop := Claim7.holds Tryd.pinned (.plain (OpenSpec.ofChange peelPlaysSpec)) peelPlaysCard

/-- THE TIED CARD OF 'droplaw1.NeedTells'. -/
def needTellsCard : Claim7 := { stood := { row := needTellsRow, standIns := [], harness := (true, "18ef364fc95df757785f7d0ba99660e40216ddbef893ebd8a5589f0684c24193"), looks := true }, kinds := [], alts := [], laidByText := true, laidKinds := [.handle], laidTests := true, laidLooks := .later }
def NeedTellsCardSaid : Prop := Claim7.holds Tryd.pinned (.plain (OpenSpec.ofChange needTellsSpec)) needTellsCard

/-- THE TIED CARD OF 'droplaw1.SolveTells'. -/
def solveTellsCard : Claim7 := { stood := { row := solveTellsRow, standIns := [], harness := (true, "18ef364fc95df757785f7d0ba99660e40216ddbef893ebd8a5589f0684c24193"), looks := true }, kinds := [], alts := [], laidByText := true, laidKinds := [.handle], laidTests := true, laidLooks := .later }
def SolveTellsCardSaid : Prop := Claim7.holds Tryd.pinned (.plain (OpenSpec.ofChange solveTellsSpec)) solveTellsCard

/-- THE SECOND FORM's CARD OF 'droplaw1.PeelPlays'. -/
def peelPlaysUptoCard : Claim7 := { stood := { row := peelPlaysUptoRow, standIns := [], harness := (true, "18ef364fc95df757785f7d0ba99660e40216ddbef893ebd8a5589f0684c24193"), looks := true }, kinds := [], alts := [], laidByText := true, laidKinds := [.handle], laidTests := true, laidLooks := .later }
def PeelPlaysUptoCardSaid : Prop := Claim7.holds Tryd.pinned (.plain (OpenSpec.upto peelPlaysSpec)) peelPlaysUptoCard

/-- THE SECOND FORM's CARD OF 'droplaw1.NeedTells'. -/
def needTellsUptoCard : Claim7 := { stood := { row := needTellsUptoRow, standIns := [], harness := (true, "18ef364fc95df757785f7d0ba99660e40216ddbef893ebd8a5589f0684c24193"), looks := true }, kinds := [], alts := [], laidByText := true, laidKinds := [.handle], laidTests := true, laidLooks := .later }
def NeedTellsUptoCardSaid : Prop := Claim7.holds Tryd.pinned (.plain (OpenSpec.upto needTellsSpec)) needTellsUptoCard

/-- THE SECOND FORM's CARD OF 'droplaw1.SolveTells'. -/
def solveTellsUptoCard : Claim7 := { stood := { row := solveTellsUptoRow, standIns := [], harness := (true, "18ef364fc95df757785f7d0ba99660e40216ddbef893ebd8a5589f0684c24193"), looks := true }, kinds := [], alts := [], laidByText := true, laidKinds := [.handle], laidTests := true, laidLooks := .later }
def SolveTellsUptoCardSaid : Prop := Claim7.holds Tryd.pinned (.plain (OpenSpec.upto solveTellsSpec)) solveTellsUptoCard
end Rows
end Go.Proofs.YtcpookgbneoilaaDoor
