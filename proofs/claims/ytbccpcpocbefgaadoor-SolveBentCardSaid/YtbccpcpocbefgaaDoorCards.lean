/-
  DERIVED. GIVEN WITH THE SEED: THE CARDS: each row of YtbccpcpocbefgaaDoorRows.lean that lists a variable, with what it lists TIED to the program's text (the seventh form; the later family's looks); each row that meets fmt, with fmt's text TOLD by the authors' own Lean function (tested against real Go, not proved from fmt's source: count such statements apart). THE CARD IS WHAT COUNTS. Prove the row's statement (the work); the ties are given (YtbccpcpocbefgaaDoorTie.lean); close each card by the builder's one call (the guide's Derived/Test/ToyasCard.lean, 'card_holds'). Laid BY PROGRAM, IN A SANDBOX (cutbox-door.mjs). By AI agents, Wed Nov 11 2026. No macro, syntax, notation, axiom, sorry.
-/
import Derived.Test.YtbccpcpocbefgaaDoorRows
import GoSem.ClaimSeven
namespace Go.Proofs.YtbccpcpocbefgaaDoor
namespace Rows

/-- THE TIED CARD OF 'droplaw4.NeedNone'. -/
def needNoneCard : Claim7 := { stood := { row := needNoneRow, standIns := [], harness := (true, "ce9b86bc690ce5f3aef595b0f3a426d83e61276b9a7dd8dd393389fdd5cf2581"), looks := true }, kinds := [], alts := [], laidByText := true, laidKinds := [.handle], laidTests := true, laidLooks := .later }
def NeedNoneCardSaid : Prop := Claim7.holds Tryd.pinned (.plain (OpenSpec.ofChange needNoneSpec)) needNoneCard

/-- THE TIED CARD OF 'droplaw1.NeedTells'. -/
def needTellsCard : Claim7 := { stood := { row := needTellsRow, standIns := [], harness := (true, "ce9b86bc690ce5f3aef595b0f3a426d83e61276b9a7dd8dd393389fdd5cf2581"), looks := true }, kinds := [], alts := [], laidByText := true, laidKinds := [.handle], laidTests := true, laidLooks := .later }
def NeedTellsCardSaid : Prop := Claim7.holds Tryd.pinned (.plain (OpenSpec.ofChange needTellsSpec)) needTellsCard

/-- THE TIED CARD OF 'droplaw1.SolveTells'. -/
def solveTellsCard : Claim7 := { stood := { row := solveTellsRow, standIns := [], harness := (true, "ce9b86bc690ce5f3aef595b0f3a426d83e61276b9a7dd8dd393389fdd5cf2581"), looks := true }, kinds := [], alts := [], laidByText := true, laidKinds := [.handle], laidTests := true, laidLooks := .later }
def SolveTellsCardSaid : Prop := Claim7.holds Tryd.pinned (.plain (OpenSpec.ofChange solveTellsSpec)) solveTellsCard

/-- THE TIED CARD OF 'droplaw1.WheelComes'. -/
def wheelComesCard : Claim7 := { stood := { row := wheelComesRow, standIns := [], harness := (true, "ce9b86bc690ce5f3aef595b0f3a426d83e61276b9a7dd8dd393389fdd5cf2581"), looks := true }, kinds := [], alts := [], laidByText := true, laidKinds := [.handle], laidTests := true, laidLooks := .later }
def WheelComesCardSaid : Prop := Claim7.holds Tryd.pinned (.plain (OpenSpec.ofChange wheelComesSpec)) wheelComesCard

/-- THE TIED CARD OF 'droplaw4.SolveBent'. -/
def solveBentCard : Claim7 := { stood := { row := solveBentRow, standIns := [], harness := (true, "ce9b86bc690ce5f3aef595b0f3a426d83e61276b9a7dd8dd393389fdd5cf2581"), looks := true }, kinds := [], alts := [], laidByText := true, laidKinds := [.handle], laidTests := true, laidLooks := .later }
def SolveBentCardSaid : Prop := Claim7.holds Tryd.pinned (.plain (OpenSpec.ofChange solveBentSpec)) solveBentCard

/-- THE SECOND FORM's CARD OF 'droplaw4.NeedNone'. -/
def needNoneUptoCard : Claim7 := { stood := { row := needNoneUptoRow, standIns := [], harness := (true, "ce9b86bc690ce5f3aef595b0f3a426d83e61276b9a7dd8dd393389fdd5cf2581"), looks := true }, kinds := [], alts := [], laidByText := true, laidKinds := [.handle], laidTests := true, laidLooks := .later }
def NeedNoneUptoCardSaid : Prop := Claim7.holds Tryd.pinned (.plain (OpenSpec.upto needNoneSpec)) needNoneUptoCard

/-- THE SECOND FORM's CARD OF 'droplaw1.NeedTells'. -/
def needTellsUptoCard : Claim7 := { stood := { row := needTellsUptoRow, standIns := [], harness := (true, "ce9b86bc690ce5f3aef595b0f3a426d83e61276b9a7dd8dd393389fdd5cf2581"), looks := true }, kinds := [], alts := [], laidByText := true, laidKinds := [.handle], laidTests := true, laidLooks := .later }
def NeedTellsUptoCardSaid : Prop := Claim7.holds Tryd.pinned (.plain (OpenSpec.upto needTellsSpec)) needTellsUptoCard

/-- THE SECOND FORM's CARD OF 'droplaw1.SolveTells'. -/
def solveTellsUptoCard : Claim7 := { stood := { row := solveTellsUptoRow, standIns := [], harness := (true, "ce9b86bc690ce5f3aef595b0f3a426d83e61276b9a7dd8dd393389fdd5cf2581"), looks := true }, kinds := [], alts := [], laidByText := true, laidKinds := [.handle], laidTests := true, laidLooks := .later }
def SolveTellsUptoCardSaid : Prop := Claim7.holds Tryd.pinned (.plain (OpenSpec.upto solveTellsSpec)) solveTellsUptoCard

/-- THE SECOND FORM's CARD OF 'droplaw1.WheelComes'. -/
def wheelComesUptoCard : Claim7 := { stood := { row := wheelComesUptoRow, standIns := [], harness := (true, "ce9b86bc690ce5f3aef595b0f3a426d83e61276b9a7dd8dd393389fdd5cf2581"), looks := true }, kinds := [], alts := [], laidByText := true, laidKinds := [.handle], laidTests := true, laidLooks := .later }
def WheelComesUptoCardSaid : Prop := Claim7.holds Tryd.pinned (.plain (OpenSpec.upto wheelComesSpec)) wheelComesUptoCard

/-- THE SECOND FORM's CARD OF 'droplaw4.SolveBent'. -/
def solveBentUptoCard : Claim7 := { stood := { row := solveBentUptoRow, standIns := [], harness := (true, "ce9b86bc690ce5f3aef595b0f3a426d83e61276b9a7dd8dd393389fdd5cf2581"), looks := true }, kinds := [], alts := [], laidByText := true, laidKinds := [.handle], laidTests := true, laidLooks := .later }
def SolveBentUptoCardSaid : Prop := Claim7.holds Tryd.pinned (.plain (OpenSpec.upto solveBentSpec)) solveBentUptoCard
end Rows
end Go.Proofs.YtbccpcpocbefgaaDoor
