/-
  DERIVED. GIVEN WITH THE SEED: THE CARDS: each row of YtpaoiebngbfbpaaDoorRows.lean that lists a variable, with what it lists TIED to the program's text (the seventh form; the later family's looks); each row that meets fmt, with fmt's text TOLD by the authors' own Lean function (tested against real Go, not proved from fmt's source: count such statements apart). THE CARD IS WHAT COUNTS. Prove the row's statement (the work); the ties are given (YtpaoiebngbfbpaaDoorTie.lean); close each card by the builder's one call (the guide's Derived/Test/ToyasCard.lean, 'card_holds'). Laid BY PROGRAM, IN A SANDBOX (cutbox-door.mjs). By AI agents, Wed Nov 11 2026. No macro, syntax, notation, axiom, sorry.
-/
import Derived.Test.YtpaoiebngbfbpaaDoorRows
import GoSem.ClaimSeven
namespace Go.Proofs.YtpaoiebngbfbpaaDoor
namespace Rows

/-- THE TIED CARD OF 'droplaw1.GuardTells'. -/
def guardTellsCard : Claim7 := { stood := { row := guardTellsRow, standIns := [], harness := (true, "0ff74816a01a5f765cfd6a650a7bd5ccce5915541af9d9138913e2e009586490"), looks := true }, kinds := [], alts := [], laidByText := true, laidKinds := [.handle], laidTests := true, laidLooks := .later }
def GuardTellsCardSaid : Prop := Claim7.holds Tryd.pinned (.plain (OpenSpec.ofChange guardTellsSpec)) guardTellsCard

/-- THE TIED CARD OF 'droplaw4.GuardTwo'. -/
def guardTwoCard : Claim7 := { stood := { row := guardTwoRow, standIns := [], harness := (true, "0ff74816a01a5f765cfd6a650a7bd5ccce5915541af9d9138913e2e009586490"), looks := true }, kinds := [], alts := [], laidByText := true, laidKinds := [.handle], laidTests := true, laidLooks := .later }
def GuardTwoCardSaid : Prop := Claim7.holds Tryd.pinned (.plain (OpenSpec.ofChange guardTwoSpec)) guardTwoCard

/-- THE SECOND FORM's CARD OF 'droplaw1.GuardTells'. -/
def guardTellsUptoCard : Claim7 := { stood := { row := guardTellsUptoRow, standIns := [], harness := (true, "0ff74816a01a5f765cfd6a650a7bd5ccce5915541af9d9138913e2e009586490"), looks := true }, kinds := [], alts := [], laidByText := true, laidKinds := [.handle], laidTests := true, laidLooks := .later }
def GuardTellsUptoCardSaid : Prop := Claim7.holds Tryd.pinned (.plain (OpenSpec.upto guardTellsSpec)) guardTellsUptoCard

/-- THE SECOND FORM's CARD OF 'droplaw4.GuardTwo'. -/
def guardTwoUptoCard : Claim7 := { stood := { row := guardTwoUptoRow, standIns := [], harness := (true, "0ff74816a01a5f765cfd6a650a7bd5ccce5915541af9d9138913e2e009586490"), looks := true }, kinds := [], alts := [], laidByText := true, laidKinds := [.handle], laidTests := true, laidLooks := .later }
def GuardTwoUptoCardSaid : Prop := Claim7.holds Tryd.pinned (.plain (OpenSpec.upto guardTwoSpec)) guardTwoUptoCard
end Rows
end Go.Proofs.YtpaoiebngbfbpaaDoor
