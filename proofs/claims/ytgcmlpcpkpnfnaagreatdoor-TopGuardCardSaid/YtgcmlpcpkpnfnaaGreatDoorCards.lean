/-
  DERIVED. GIVEN WITH THE SEED: THE CARDS: each row of YtgcmlpcpkpnfnaaGreatDoorRows.lean that lists a variable, with what it lists TIED to the program's text (the seventh form; the later family's looks); each row that meets fmt, with fmt's text TOLD by the authors' own Lean function (tested against real Go, not proved from fmt's source: count such statements apart). THE CARD IS WHAT COUNTS. Prove the row's statement (the work); the ties are given (YtgcmlpcpkpnfnaaGreatDoorTie.lean); close each card by the builder's one call (the guide's Derived/Test/ToyasCard.lean, 'card_holds'). Laid BY PROGRAM, IN A SANDBOX (cutbox-door.mjs). By AI agents, Wed Nov 11 2026. No macro, syntax, notation, axiom, sorry.
-/
import Derived.Test.YtgcmlpcpkpnfnaaGreatDoorRows
import GoSem.ClaimSeven
namespace Go.Proofs.YtgcmlpcpkpnfnaaGreatDoor
namespace Rows

/-- THE TIED CARD OF 'droptop.TopGuard'. -/
def topGuardCard : Claim7 := { stood := { row := topGuardRow, standIns := [], harness := (true, "3e8a3ef70c273830e075272c299d5999c5ea4defd6e05cbe0500b76af5b0bcbe"), looks := true }, kinds := [], alts := [], laidByText := true, laidKinds := [.data, .data, .data, .handle, .sentinel, .sentinel, .listed, .data], laidTests := true, laidLooks := .later }
def TopGuardCardSaid : Prop := Claim7.holds Tryz.pinned (.plain (OpenSpec.ofChange topGuardSpec)) topGuardCard

/-- THE SECOND FORM's CARD OF 'droptop.TopGuard'. -/
def topGuardUptoCard : Claim7 := { stood := { row := topGuardUptoRow, standIns := [], harness := (true, "3e8a3ef70c273830e075272c299d5999c5ea4defd6e05cbe0500b76af5b0bcbe"), looks := true }, kinds := [], alts := [], laidByText := true, laidKinds := [.data, .data, .data, .handle, .sentinel, .sentinel, .listed, .data], laidTests := true, laidLooks := .later }
def TopGuardUptoCardSaid : Prop := Claim7.holds Tryz.pinned (.plain (OpenSpec.upto topGuardSpec)) topGuardUptoCard
end Rows
end Go.Proofs.YtgcmlpcpkpnfnaaGreatDoor
