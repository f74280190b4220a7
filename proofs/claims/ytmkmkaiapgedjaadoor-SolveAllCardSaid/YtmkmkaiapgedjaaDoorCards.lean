/-
  DERIVED. GIVEN WITH THE SEED: THE CARDS: each row of YtmkmkaiapgedjaaDoorRows.lean that lists a variable, with what it lists TIED to the program's text (the seventh form; the later family's looks); each row that meets fmt, with fmt's text TOLD by the authors' own Lean function (tested against real Go, not proved from fmt's source: count such statements apart). THE CARD IS WHAT COUNTS. Prove the row's statement (the work); the ties are given (YtmkmkaiapgedjaaDoorTie.lean); close each card by the builder's one call (the guide's Derived/Test/ToyasCard.lean, 'card_holds'). Laid BY PROGRAM, IN A SANDBOX (cutbox-door.mjs). By AI agents, Wed Nov 11 2026. No macro, syntax, notation, axiom, sorry.
-/
import Derived.Test.YtmkmkaiapgedjaaDoorRows
import GoSem.ClaimSeven
namespace Go.Proofs.YtmkmkaiapgedjaaDoor
namespace Rows

/-- THE TIED CARD OF 'droplaw1.NeedTells'. -/
def needTellsCard : Claim7 := { stood := { row := needTellsRow, standIns := [], harness := (true, "475b68eaec68d6b56722c889e8e3e1761e3bdfb6295211292a067c802df0db83"), looks := true }, kinds := [], alts := [], laidByText := true, laidKinds := [.handle], laidTests := true, laidLooks := .later }
def NeedTellsCardSaid : Prop := Claim7.holds Tryd.pinned (.plain (OpenSpec.ofChange needTellsSpec)) needTellsCard

/-- THE TIED CARD OF 'droplaw1.SolveTells'. -/
def solveTellsCard : Claim7 := { stood := { row := solveTellsRow, standIns := [], harness := (true, "475b68eaec68d6b56722c889e8e3e1761e3bdfb6295211292a067c802df0db83"), looks := true }, kinds := [], alts := [], laidByText := true, laidKinds := [.handle], laidTests := true, laidLooks := .later }
def SolveTellsCardSaid : Prop := Claim7.holds Tryd.pinned (.plain (OpenSpec.ofChange solveTellsSpec)) solveTellsCard

/-- THE TIED CARD OF 'droplaw1.PeelPlays'. -/
def peelPlaysCard : Claim7 := { stood := { row := peelPlaysRow, standIns := [], harness := (true, "475b68eaec68d6b56722c889e8e3e1761e3bdfb6295211292a067c802df0db83"), looks := true }, kinds := [], alts := [], laidByText := true, laidKinds := [.handle], laidTests := true, laidLooks := .later }
def PeelPlaysCardSaid : Prop := Claim7.holds Tryd.pinned (.plain (OpenSpec.ofChange peelPlaysSpec)) peelPlaysCard

/-- THE TIED CARD OF 'droplaw1.PeelRight'. -/
def peelRightCard : Claim7 := { stood := { row := peelRightRow, standIns := [], harness := (true, "475b68eaec68d6b56722c889e8e3e1761e3bdfb6295211292a067c802df0db83"), looks := true }, kinds := [], alts := [], laidByText := true, laidKinds := [.handle], laidTests := true, laidLooks := .later }
def PeelRightCardSaid : Prop := Claim7.holds Tryd.pinned (.plain (OpenSpec.ofChange peelRightSpec)) peelRightCard

/-- THE TIED CARD OF 'droplaw1.SolveAll'. -/
def solveAllCard : Claim7 := { stood := { row := solveAllRow, standIns := [], harness := (true, "475b68eaec68d6b56722c889e8e3e1761e3bdfb6295211292a067c802df0db83"), looks := true }, kinds := [], alts := [], laidByText := true, laidKinds := [.handle], laidTests := true, laidLooks := .later }
def SolveAllCardSaid : Prop := Claim7.holds Tryd.pinned (.plain (OpenSpec.ofChange solveAllSpec)) solveAllCard

/-- THE TIED CARD OF 'droplaw4.PeelAll'. -/
def peelAllCard : Claim7 := { stood := { row := peelAllRow, standIns := [], harness := (true, "475b68eaec68d6b56722c889e8e3e1761e3bdfb6295211292a067c802df0db83"), looks := true }, kinds := [], alts := [], laidByText := true, laidKinds := [.handle], laidTests := true, laidLooks := .later }
def PeelAllCardSaid : Prop := Claim7.holds Tryd.pinned (.plain (OpenSpec.ofChange peelAllSpec)) peelAllCard

/-- THE SECOND FORM's CARD OF 'droplaw1.NeedTells'. -/
def needTellsUptoCard : Claim7 := { stood := { row := needTellsUptoRow, standIns := [], harness := (true, "475b68eaec68d6b56722c889e8e3e1761e3bdfb6295211292a067c802df0db83"), looks := true }, kinds := [], alts := [], laidByText := true, laidKinds := [.handle], laidTests := true, laidLooks := .later }
def NeedTellsUptoCardSaid : Prop := Claim7.holds Tryd.pinned (.plain (OpenSpec.upto needTellsSpec)) needTellsUptoCard

/-- THE SECOND FORM's CARD OF 'droplaw1.SolveTells'. -/
def solveTellsUptoCard : Claim7 := { stood := { row := solveTellsUptoRow, standIns := [], harness := (true, "475b68eaec68d6b56722c889e8e3e1761e3bdfb6295211292a067c802df0db83"), looks := true }, kinds := [], alts := [], laidByText := true, laidKinds := [.handle], laidTests := true, laidLooks := .later }
def SolveTellsUptoCardSaid : Prop := Claim7.holds Tryd.pinned (.plain (OpenSpec.upto solveTellsSpec)) solveTellsUptoCard

/-- THE SECOND FORM's CARD OF 'droplaw1.PeelPlays'. -/
def peelPlaysUptoCard : Claim7 := { stood := { row := peelPlaysUptoRow, standIns := [], harness := (true, "475b68eaec68d6b56722c889e8e3e1761e3bdfb6295211292a067c802df0db83"), looks := true }, kinds := [], alts := [], laidByText := true, laidKinds := [.handle], laidTests := true, laidLooks := .later }
def PeelPlaysUptoCardSaid : Prop := Claim7.holds Tryd.pinned (.plain (OpenSpec.upto peelPlaysSpec)) peelPlaysUptoCard

/-- THE SECOND FORM's CARD OF 'droplaw1.PeelRight'. -/
def peelRightUptoCard : Claim7 := { stood := { row := peelRightUptoRow, standIns := [], harness := (true, "475b68eaec68d6b56722c889e8e3e1761e3bdfb6295211292a067c802df0db83"), looks := true }, kinds := [], alts := [], laidByText := true, laidKinds := [.handle], laidTests := true, laidLooks := .later }
def PeelRightUptoCardSaid : Prop := Claim7.holds Tryd.pinned (.plain (OpenSpec.upto peelRightSpec)) peelRightUptoCard

/-- THE SECOND FORM's CARD OF 'droplaw1.SolveAll'. -/
def solveAllUptoCard : Claim7 := { stood := { row := solveAllUptoRow, standIns := [], harness := (true, "475b68eaec68d6b56722c889e8e3e1761e3bdfb6295211292a067c802df0db83"), looks := true }, kinds := [], alts := [], laidByText := true, laidKinds := [.handle], laidTests := true, laidLooks := .later }
def SolveAllUptoCardSaid : Prop := Claim7.holds Tryd.pinned (.plain (OpenSpec.upto solveAllSpec)) solveAllUptoCard

/-- THE SECOND FORM's CARD OF 'droplaw4.PeelAll'. -/
def peelAllUptoCard : Claim7 := { stood := { row := peelAllUptoRow, standIns := [], harness := (true, "475b68eaec68d6b56722c889e8e3e1761e3bdfb6295211292a067c802df0db83"), looks := true }, kinds := [], alts := [], laidByText := true, laidKinds := [.handle], laidTests := true, laidLooks := .later }
def PeelAllUptoCardSaid : Prop := Claim7.holds Tryd.pinned (.plain (OpenSpec.upto peelAllSpec)) peelAllUptoCard
end Rows
end Go.Proofs.YtmkmkaiapgedjaaDoor
