/-
  DERIVED. GIVEN WITH THE SEED: THE CARDS: each row of YtooepflfofgnnaaDoorRows.lean that lists a variable, with what it lists TIED to the program's text (the seventh form; the later family's looks); each row that meets fmt, with fmt's text TOLD by the authors' own Lean function (tested against real Go, not proved from fmt's source: count such statements apart). THE CARD IS WHAT COUNTS. Prove the row's statement (the work); the ties are given (YtooepflfofgnnaaDoorTie.lean); close each card by the builder's one call (the guide's Derived/Test/ToyasCard.lean, 'card_holds'). Laid BY PROGRAM, IN A SANDBOX (cutbox-door.mjs). By AI agents, Wed Nov 11 2026. No macro, syntax, notation, axiom, sorry.
-/
import Derived.Test.YtooepflfofgnnaaDoorRows
import GoSem.ClaimSeven
namespace Go.Proofs.YtooepflfofgnnaaDoor
namespace Rows

/-- THE TIED CARD OF 'droplaw1.DropTells'. -/
def dropTellsCard : Claim7 := { stood := { row := dropTellsRow, standIns := [], harness := (true, "3b90dc286f13e78d92287e8dd9a9774f015f1283d8b3ed949422ae45ed3fbac9"), looks := true }, kinds := [], alts := [], laidByText := true, laidKinds := [.handle], laidTests := true, laidLooks := .later }
def DropTellsCardSaid : Prop := Claim7.holds Tryd.pinned (.plain (OpenSpec.ofChange dropTellsSpec)) dropTellsCard

/-- THE TIED CARD OF 'droplaw4.AirFull'. -/
def airFullCard : Claim7 := { stood := { row := airFullRow, standIns := [], harness := (true, "3b90dc286f13e78d92287e8dd9a9774f015f1283d8b3ed949422ae45ed3fbac9"), looks := true }, kinds := [], alts := [], laidByText := true, laidKinds := [.handle], laidTests := true, laidLooks := .later }
def AirFullCardSaid : Prop := Claim7.holds Tryd.pinned (.plain (OpenSpec.ofChange airFullSpec)) airFullCard

/-- THE TIED CARD OF 'droplaw2.AirPlays'. -/
def airPlaysCard : Claim7 := { stood := { row := airPlaysRow, standIns := [], harness := (true, "3b90dc286f13e78d92287e8dd9a9774f015f1283d8b3ed949422ae45ed3fbac9"), looks := true }, kinds := [], alts := [], laidByText := true, laidKinds := [.handle], laidTests := true, laidLooks := .later }
def AirPlaysCardSaid : Prop := Claim7.holds Tryd.pinned (.plain (OpenSpec.ofChange airPlaysSpec)) airPlaysCard

/-- THE TIED CARD OF 'droplaw1.GuardTells'. -/
def guardTellsCard : Claim7 := { stood := { row := guardTellsRow, standIns := [], harness := (true, "3b90dc286f13e78d92287e8dd9a9774f015f1283d8b3ed949422ae45ed3fbac9"), looks := true }, kinds := [], alts := [], laidByText := true, laidKinds := [.handle], laidTests := true, laidLooks := .later }
def GuardTellsCardSaid : Prop := Claim7.holds Tryd.pinned (.plain (OpenSpec.ofChange guardTellsSpec)) guardTellsCard

/-- THE TIED CARD OF 'droplaw4.GuardTwo'. -/
def guardTwoCard : Claim7 := { stood := { row := guardTwoRow, standIns := [], harness := (true, "3b90dc286f13e78d92287e8dd9a9774f015f1283d8b3ed949422ae45ed3fbac9"), looks := true }, kinds := [], alts := [], laidByText := true, laidKinds := [.handle], laidTests := true, laidLooks := .later }
def GuardTwoCardSaid : Prop := Claim7.holds Tryd.pinned (.plain (OpenSpec.ofChange guardTwoSpec)) guardTwoCard

/-- THE TIED CARD OF 'droplaw1.WheelTells'. -/
def wheelTellsCard : Claim7 := { stood := { row := wheelTellsRow, standIns := [], harness := (true, "3b90dc286f13e78d92287e8dd9a9774f015f1283d8b3ed949422ae45ed3fbac9"), looks := true }, kinds := [], alts := [], laidByText := true, laidKinds := [.handle], laidTests := true, laidLooks := .later }
def WheelTellsCardSaid : Prop := Claim7.holds Tryd.pinned (.plain (OpenSpec.ofChange wheelTellsSpec)) wheelTellsCard

/-- THE TIED CARD OF 'droplaw3.BytesTell'. -/
def bytesTellCard : Claim7 := { stood := { row := bytesTellRow, standIns := [], harness := (true, "3b90dc286f13e78d92287e8dd9a9774f015f1283d8b3ed949422ae45ed3fbac9"), looks := true }, kinds := [], alts := [], laidByText := true, laidKinds := [.handle], laidTests := true, laidLooks := .later }
def BytesTellCardSaid : Prop := Claim7.holds Tryd.pinned (.plain (OpenSpec.ofChange bytesTellSpec)) bytesTellCard

/-- THE SECOND FORM's CARD OF 'droplaw1.DropTells'. -/
def dropTellsUptoCard : Claim7 := { stood := { row := dropTellsUptoRow, standIns := [], harness := (true, "3b90dc286f13e78d92287e8dd9a9774f015f1283d8b3ed949422ae45ed3fbac9"), looks := true }, kinds := [], alts := [], laidByText := true, laidKinds := [.handle], laidTests := true, laidLooks := .later }
def DropTellsUptoCardSaid : Prop := Claim7.holds Tryd.pinned (.plain (OpenSpec.upto dropTellsSpec)) dropTellsUptoCard

/-- THE SECOND FORM's CARD OF 'droplaw4.AirFull'. -/
def airFullUptoCard : Claim7 := { stood := { row := airFullUptoRow, standIns := [], harness := (true, "3b90dc286f13e78d92287e8dd9a9774f015f1283d8b3ed949422ae45ed3fbac9"), looks := true }, kinds := [], alts := [], laidByText := true, laidKinds := [.handle], laidTests := true, laidLooks := .later }
def AirFullUptoCardSaid : Prop := Claim7.holds Tryd.pinned (.plain (OpenSpec.upto airFullSpec)) airFullUptoCard

/-- THE SECOND FORM's CARD OF 'droplaw2.AirPlays'. -/
def airPlaysUptoCard : Claim7 := { stood := { row := airPlaysUptoRow, standIns := [], harness := (true, "3b90dc286f13e78d92287e8dd9a9774f015f1283d8b3ed949422ae45ed3fbac9"), looks := true }, kinds := [], alts := [], laidByText := true, laidKinds := [.handle], laidTests := true, laidLooks := .later }
def AirPlaysUptoCardSaid : Prop := Claim7.holds Tryd.pinned (.plain (OpenSpec.upto airPlaysSpec)) airPlaysUptoCard

/-- THE SECOND FORM's CARD OF 'droplaw1.GuardTells'. -/
def guardTellsUptoCard : Claim7 := { stood := { row := guardTellsUptoRow, standIns := [], harness := (true, "3b90dc286f13e78d92287e8dd9a9774f015f1283d8b3ed949422ae45ed3fbac9"), looks := true }, kinds := [], alts := [], laidByText := true, laidKinds := [.handle], laidTests := true, laidLooks := .later }
def GuardTellsUptoCardSaid : Prop := Claim7.holds Tryd.pinned (.plain (OpenSpec.upto guardTellsSpec)) guardTellsUptoCard

/-- THE SECOND FORM's CARD OF 'droplaw4.GuardTwo'. -/
def guardTwoUptoCard : Claim7 := { stood := { row := guardTwoUptoRow, standIns := [], harness := (true, "3b90dc286f13e78d92287e8dd9a9774f015f1283d8b3ed949422ae45ed3fbac9"), looks := true }, kinds := [], alts := [], laidByText := true, laidKinds := [.handle], laidTests := true, laidLooks := .later }
def GuardTwoUptoCardSaid : Prop := Claim7.holds Tryd.pinned (.plain (OpenSpec.upto guardTwoSpec)) guardTwoUptoCard

/-- THE SECOND FORM's CARD OF 'droplaw1.WheelTells'. -/
def wheelTellsUptoCard : Claim7 := { stood := { row := wheelTellsUptoRow, standIns := [], harness := (true, "3b90dc286f13e78d92287e8dd9a9774f015f1283d8b3ed949422ae45ed3fbac9"), looks := true }, kinds := [], alts := [], laidByText := true, laidKinds := [.handle], laidTests := true, laidLooks := .later }
def WheelTellsUptoCardSaid : Prop := Claim7.holds Tryd.pinned (.plain (OpenSpec.upto wheelTellsSpec)) wheelTellsUptoCard

/-- THE SECOND FORM's CARD OF 'droplaw3.BytesTell'. -/
def bytesTellUptoCard : Claim7 := { stood := { row := bytesTellUptoRow, standIns := [], harness := (true, "3b90dc286f13e78d92287e8dd9a9774f015f1283d8b3ed949422ae45ed3fbac9"), looks := true }, kinds := [], alts := [], laidByText := true, laidKinds := [.handle], laidTests := true, laidLooks := .later }
def BytesTellUptoCardSaid : Prop := Claim7.holds Tryd.pinned (.plain (OpenSpec.upto bytesTellSpec)) bytesTellUptoCard
end Rows
end Go.Proofs.YtooepflfofgnnaaDoor
