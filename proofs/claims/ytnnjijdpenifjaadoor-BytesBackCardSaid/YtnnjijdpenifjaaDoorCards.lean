/-
  DERIVED. GIVEN WITH THE SEED: THE CARDS: each row of YtnnjijdpenifjaaDoorRows.lean that lists a variable, with what it lists TIED to the program's text (the seventh form; the later family's looks); each row that meets fmt, with fmt's text TOLD by the authors' own Lean function (tested against real Go, not proved from fmt's source: count such statements apart). THE CARD IS WHAT COUNTS. Prove the row's statement (the work); the ties are given (YtnnjijdpenifjaaDoorTie.lean); close each card by the builder's one call (the guide's Derived/Test/ToyasCard.lean, 'card_holds'). Laid BY PROGRAM, IN A SANDBOX (cutbox-door.mjs). By AI agents, Wed Nov 11 2026. No macro, syntax, notation, axiom, sorry.
-/
import Derived.Test.YtnnjijdpenifjaaDoorRows
import GoSem.ClaimSeven
namespace Go.Proofs.YtnnjijdpenifjaaDoor
namespace Rows

/-- THE TIED CARD OF 'droplaw2.AloneTells'. -/
def aloneTellsCard : Claim7 := { stood := { row := aloneTellsRow, standIns := [], harness := (true, "585320107b355db55fdee5300e84e8988b74ba76bb93092aa46b1779ae410c86"), looks := true }, kinds := [], alts := [], laidByText := true, laidKinds := [.handle], laidTests := true, laidLooks := .later }
def AloneTellsCardSaid : Prop := Claim7.holds Tryd.pinned (.plain (OpenSpec.ofChange aloneTellsSpec)) aloneTellsCard

/-- THE TIED CARD OF 'droplaw2.PictureTells'. -/
def pictureTellsCard : Claim7 := { stood := { row := pictureTellsRow, standIns := [], harness := (true, "585320107b355db55fdee5300e84e8988b74ba76bb93092aa46b1779ae410c86"), looks := true }, kinds := [], alts := [], laidByText := true, laidKinds := [.handle], laidTests := true, laidLooks := .later }
def PictureTellsCardSaid : Prop := Claim7.holds Tryd.pinned (.plain (OpenSpec.ofChange pictureTellsSpec)) pictureTellsCard

/-- THE TIED CARD OF 'droplaw4.MovedStill'. -/
def movedStillCard : Claim7 := { stood := { row := movedStillRow, standIns := [], harness := (true, "585320107b355db55fdee5300e84e8988b74ba76bb93092aa46b1779ae410c86"), looks := true }, kinds := [], alts := [], laidByText := true, laidKinds := [.handle], laidTests := true, laidLooks := .later }
def MovedStillCardSaid : Prop := Claim7.holds Tryd.pinned (.plain (OpenSpec.ofChange movedStillSpec)) movedStillCard

/-- THE TIED CARD OF 'droplaw2.MovedTells'. -/
def movedTellsCard : Claim7 := { stood := { row := movedTellsRow, standIns := [], harness := (true, "585320107b355db55fdee5300e84e8988b74ba76bb93092aa46b1779ae410c86"), looks := true }, kinds := [], alts := [], laidByText := true, laidKinds := [.handle], laidTests := true, laidLooks := .later }
def MovedTellsCardSaid : Prop := Claim7.holds Tryd.pinned (.plain (OpenSpec.ofChange movedTellsSpec)) movedTellsCard

/-- THE TIED CARD OF 'droplaw2.RiceTells'. -/
def riceTellsCard : Claim7 := { stood := { row := riceTellsRow, standIns := [], harness := (true, "585320107b355db55fdee5300e84e8988b74ba76bb93092aa46b1779ae410c86"), looks := true }, kinds := [], alts := [], laidByText := true, laidKinds := [.handle], laidTests := true, laidLooks := .later }
def RiceTellsCardSaid : Prop := Claim7.holds Tryd.pinned (.plain (OpenSpec.ofChange riceTellsSpec)) riceTellsCard

/-- THE TIED CARD OF 'droplaw2.RiceBack'. -/
def riceBackCard : Claim7 := { stood := { row := riceBackRow, standIns := [], harness := (true, "585320107b355db55fdee5300e84e8988b74ba76bb93092aa46b1779ae410c86"), looks := true }, kinds := [], alts := [], laidByText := true, laidKinds := [.handle], laidTests := true, laidLooks := .later }
def RiceBackCardSaid : Prop := Claim7.holds Tryd.pinned (.plain (OpenSpec.ofChange riceBackSpec)) riceBackCard

/-- THE TIED CARD OF 'droplaw4.FilmStill'. -/
def filmStillCard : Claim7 := { stood := { row := filmStillRow, standIns := [], harness := (true, "585320107b355db55fdee5300e84e8988b74ba76bb93092aa46b1779ae410c86"), looks := true }, kinds := [], alts := [], laidByText := true, laidKinds := [.handle], laidTests := true, laidLooks := .later }
def FilmStillCardSaid : Prop := Claim7.holds Tryd.pinned (.plain (OpenSpec.ofChange filmStillSpec)) filmStillCard

/-- THE TIED CARD OF 'droplaw2.FilmTells'. -/
def filmTellsCard : Claim7 := { stood := { row := filmTellsRow, standIns := [], harness := (true, "585320107b355db55fdee5300e84e8988b74ba76bb93092aa46b1779ae410c86"), looks := true }, kinds := [], alts := [], laidByText := true, laidKinds := [.handle], laidTests := true, laidLooks := .later }
def FilmTellsCardSaid : Prop := Claim7.holds Tryd.pinned (.plain (OpenSpec.ofChange filmTellsSpec)) filmTellsCard

/-- THE TIED CARD OF 'droplaw3.BytesTell'. -/
def bytesTellCard : Claim7 := { stood := { row := bytesTellRow, standIns := [], harness := (true, "585320107b355db55fdee5300e84e8988b74ba76bb93092aa46b1779ae410c86"), looks := true }, kinds := [], alts := [], laidByText := true, laidKinds := [.handle], laidTests := true, laidLooks := .later }
def BytesTellCardSaid : Prop := Claim7.holds Tryd.pinned (.plain (OpenSpec.ofChange bytesTellSpec)) bytesTellCard

/-- THE TIED CARD OF 'droplaw3.BytesBack'. -/
def bytesBackCard : Claim7 := { stood := { row := bytesBackRow, standIns := [], harness := (true, "585320107b355db55fdee5300e84e8988b74ba76bb93092aa46b1779ae410c86"), looks := true }, kinds := [], alts := [], laidByText := true, laidKinds := [.handle], laidTests := true, laidLooks := .later }
def BytesBackCardSaid : Prop := Claim7.holds Tryd.pinned (.plain (OpenSpec.ofChange bytesBackSpec)) bytesBackCard

/-- THE TIED CARD OF 'droplaw4.BytesHead'. -/
def bytesHeadCard : Claim7 := { stood := { row := bytesHeadRow, standIns := [], harness := (true, "585320107b355db55fdee5300e84e8988b74ba76bb93092aa46b1779ae410c86"), looks := true }, kinds := [], alts := [], laidByText := true, laidKinds := [.handle], laidTests := true, laidLooks := .later }
def BytesHeadCardSaid : Prop := Claim7.holds Tryd.pinned (.plain (OpenSpec.ofChange bytesHeadSpec)) bytesHeadCard

/-- THE SECOND FORM's CARD OF 'droplaw2.AloneTells'. -/
def aloneTellsUptoCard : Claim7 := { stood := { row := aloneTellsUptoRow, standIns := [], harness := (true, "585320107b355db55fdee5300e84e8988b74ba76bb93092aa46b1779ae410c86"), looks := true }, kinds := [], alts := [], laidByText := true, laidKinds := [.handle], laidTests := true, laidLooks := .later }
def AloneTellsUptoCardSaid : Prop := Claim7.holds Tryd.pinned (.plain (OpenSpec.upto aloneTellsSpec)) aloneTellsUptoCard

/-- THE SECOND FORM's CARD OF 'droplaw2.PictureTells'. -/
def pictureTellsUptoCard : Claim7 := { stood := { row := pictureTellsUptoRow, standIns := [], harness := (true, "585320107b355db55fdee5300e84e8988b74ba76bb93092aa46b1779ae410c86"), looks := true }, kinds := [], alts := [], laidByText := true, laidKinds := [.handle], laidTests := true, laidLooks := .later }
def PictureTellsUptoCardSaid : Prop := Claim7.holds Tryd.pinned (.plain (OpenSpec.upto pictureTellsSpec)) pictureTellsUptoCard

/-- THE SECOND FORM's CARD OF 'droplaw4.MovedStill'. -/
def movedStillUptoCard : Claim7 := { stood := { row := movedStillUptoRow, standIns := [], harness := (true, "585320107b355db55fdee5300e84e8988b74ba76bb93092aa46b1779ae410c86"), looks := true }, kinds := [], alts := [], laidByText := true, laidKinds := [.handle], laidTests := true, laidLooks := .later }
def MovedStillUptoCardSaid : Prop := Claim7.holds Tryd.pinned (.plain (OpenSpec.upto movedStillSpec)) movedStillUptoCard

/-- THE SECOND FORM's CARD OF 'droplaw2.MovedTells'. -/
def movedTellsUptoCard : Claim7 := { stood := { row := movedTellsUptoRow, standIns := [], harness := (true, "585320107b355db55fdee5300e84e8988b74ba76bb93092aa46b1779ae410c86"), looks := true }, kinds := [], alts := [], laidByText := true, laidKinds := [.handle], laidTests := true, laidLooks := .later }
def MovedTellsUptoCardSaid : Prop := Claim7.holds Tryd.pinned (.plain (OpenSpec.upto movedTellsSpec)) movedTellsUptoCard

/-- THE SECOND FORM's CARD OF 'droplaw2.RiceTells'. -/
def riceTellsUptoCard : Claim7 := { stood := { row := riceTellsUptoRow, standIns := [], harness := (true, "585320107b355db55fdee5300e84e8988b74ba76bb93092aa46b1779ae410c86"), looks := true }, kinds := [], alts := [], laidByText := true, laidKinds := [.handle], laidTests := true, laidLooks := .later }
def RiceTellsUptoCardSaid : Prop := Claim7.holds Tryd.pinned (.plain (OpenSpec.upto riceTellsSpec)) riceTellsUptoCard

/-- THE SECOND FORM's CARD OF 'droplaw2.RiceBack'. -/
def riceBackUptoCard : Claim7 := { stood := { row := riceBackUptoRow, standIns := [], harness := (true, "585320107b355db55fdee5300e84e8988b74ba76bb93092aa46b1779ae410c86"), looks := true }, kinds := [], alts := [], laidByText := true, laidKinds := [.handle], laidTests := true, laidLooks := .later }
def RiceBackUptoCardSaid : Prop := Claim7.holds Tryd.pinned (.plain (OpenSpec.upto riceBackSpec)) riceBackUptoCard

/-- THE SECOND FORM's CARD OF 'droplaw4.FilmStill'. -/
def filmStillUptoCard : Claim7 := { stood := { row := filmStillUptoRow, standIns := [], harness := (true, "585320107b355db55fdee5300e84e8988b74ba76bb93092aa46b1779ae410c86"), looks := true }, kinds := [], alts := [], laidByText := true, laidKinds := [.handle], laidTests := true, laidLooks := .later }
def FilmStillUptoCardSaid : Prop := Claim7.holds Tryd.pinned (.plain (OpenSpec.upto filmStillSpec)) filmStillUptoCard

/-- THE SECOND FORM's CARD OF 'droplaw2.FilmTells'. -/
def filmTellsUptoCard : Claim7 := { stood := { row := filmTellsUptoRow, standIns := [], harness := (true, "585320107b355db55fdee5300e84e8988b74ba76bb93092aa46b1779ae410c86"), looks := true }, kinds := [], alts := [], laidByText := true, laidKinds := [.handle], laidTests := true, laidLooks := .later }
def FilmTellsUptoCardSaid : Prop := Claim7.holds Tryd.pinned (.plain (OpenSpec.upto filmTellsSpec)) filmTellsUptoCard

/-- THE SECOND FORM's CARD OF 'droplaw3.BytesTell'. -/
def bytesTellUptoCard : Claim7 := { stood := { row := bytesTellUptoRow, standIns := [], harness := (true, "585320107b355db55fdee5300e84e8988b74ba76bb93092aa46b1779ae410c86"), looks := true }, kinds := [], alts := [], laidByText := true, laidKinds := [.handle], laidTests := true, laidLooks := .later }
def BytesTellUptoCardSaid : Prop := Claim7.holds Tryd.pinned (.plain (OpenSpec.upto bytesTellSpec)) bytesTellUptoCard

/-- THE SECOND FORM's CARD OF 'droplaw3.BytesBack'. -/
def bytesBackUptoCard : Claim7 := { stood := { row := bytesBackUptoRow, standIns := [], harness := (true, "585320107b355db55fdee5300e84e8988b74ba76bb93092aa46b1779ae410c86"), looks := true }, kinds := [], alts := [], laidByText := true, laidKinds := [.handle], laidTests := true, laidLooks := .later }
def BytesBackUptoCardSaid : Prop := Claim7.holds Tryd.pinned (.plain (OpenSpec.upto bytesBackSpec)) bytesBackUptoCard

/-- THE SECOND FORM's CARD OF 'droplaw4.BytesHead'. -/
def bytesHeadUptoCard : Claim7 := { stood := { row := bytesHeadUptoRow, standIns := [], harness := (true, "585320107b355db55fdee5300e84e8988b74ba76bb93092aa46b1779ae410c86"), looks := true }, kinds := [], alts := [], laidByText := true, laidKinds := [.handle], laidTests := true, laidLooks := .later }
def BytesHeadUptoCardSaid : Prop := Claim7.holds Tryd.pinned (.plain (OpenSpec.upto bytesHeadSpec)) bytesHeadUptoCard
end Rows
end Go.Proofs.YtnnjijdpenifjaaDoor
