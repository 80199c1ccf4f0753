/-
  DERIVED. GIVEN WITH THE SEED: THE CARDS: each row of YteadgfclfopccaaGreatDoorRows.lean that lists a variable, with what it lists TIED to the program's text (the seventh form; the later family's looks); each row that meets fmt, with fmt's text TOLD by the authors' own Lean function (tested against real Go, not proved from fmt's source: count such statements apart). THE CARD IS WHAT COUNTS. Prove the row's statement (the work); the ties are given (YteadgfclfopccaaGreatDoorTie.lean); close each card by the builder's one call (the guide's Derived/Test/ToyasCard.lean, 'card_holds'). Laid BY PROGRAM, IN A SANDBOX (cutbox-door.mjs). By AI agents, Wed Nov 11 2026. No macro, syntax, notation, axiom, sorry.
-/
import Derived.Test.YteadgfclfopccaaGreatDoorRows
import GoSem.ClaimSeven
namespace Go.Proofs.YteadgfclfopccaaGreatDoor
namespace Rows

/-- THE TIED CARD OF 'midrangelaw41.DisplaySubfiles'. -/
def displaySubfilesCard : Claim7 := { stood := { row := displaySubfilesRow, standIns := [], harness := (true, "2d24fe860973e3c65cf0a2ba6ac41224d114b8b0e420106ca6db047653133d3f"), looks := false }, kinds := [], alts := [], laidByText := true, laidKinds := [.data, .data, .data, .data, .pinned], laidTests := true, laidLooks := .later }
def DisplaySubfilesCardSaid : Prop := Claim7.holds Tryz.pinned (.plain (OpenSpec.ofChange displaySubfilesSpec)) displaySubfilesCard

/-- THE TIED CARD OF 'midrangelaw41.DisplayPages'. -/
def displayPagesCard : Claim7 := { stood := { row := displayPagesRow, standIns := [], harness := (true, "2d24fe860973e3c65cf0a2ba6ac41224d114b8b0e420106ca6db047653133d3f"), looks := false }, kinds := [], alts := [], laidByText := true, laidKinds := [.data, .data, .data, .data, .pinned], laidTests := true, laidLooks := .later }
def DisplayPagesCardSaid : Prop := Claim7.holds Tryz.pinned (.plain (OpenSpec.ofChange displayPagesSpec)) displayPagesCard

/-- THE TIED CARD OF 'midrangelaw41.DisplayChecks'. -/
def displayChecksCard : Claim7 := { stood := { row := displayChecksRow, standIns := [], harness := (true, "2d24fe860973e3c65cf0a2ba6ac41224d114b8b0e420106ca6db047653133d3f"), looks := false }, kinds := [], alts := [], laidByText := true, laidKinds := [.data, .data, .data, .data, .pinned], laidTests := true, laidLooks := .later }
def DisplayChecksCardSaid : Prop := Claim7.holds Tryz.pinned (.plain (OpenSpec.ofChange displayChecksSpec)) displayChecksCard

/-- THE TIED CARD OF 'midrangelaw41.DisplayStreams'. -/
def displayStreamsCard : Claim7 := { stood := { row := displayStreamsRow, standIns := [], harness := (true, "2d24fe860973e3c65cf0a2ba6ac41224d114b8b0e420106ca6db047653133d3f"), looks := false }, kinds := [], alts := [], laidByText := true, laidKinds := [.data, .data, .data, .data, .pinned], laidTests := true, laidLooks := .later }
def DisplayStreamsCardSaid : Prop := Claim7.holds Tryz.pinned (.plain (OpenSpec.ofChange displayStreamsSpec)) displayStreamsCard

/-- THE TIED CARD OF 'midrangelaw41.DisplayShows'. -/
def displayShowsCard : Claim7 := { stood := { row := displayShowsRow, standIns := [], harness := (true, "2d24fe860973e3c65cf0a2ba6ac41224d114b8b0e420106ca6db047653133d3f"), looks := false }, kinds := [], alts := [], laidByText := true, laidKinds := [.data, .data, .data, .data, .pinned], laidTests := true, laidLooks := .later }
def DisplayShowsCardSaid : Prop := Claim7.holds Tryz.pinned (.plain (OpenSpec.ofChange displayShowsSpec)) displayShowsCard

/-- THE TIED CARD OF 'midrangelaw41.DisplayTypes'. -/
def displayTypesCard : Claim7 := { stood := { row := displayTypesRow, standIns := [], harness := (true, "2d24fe860973e3c65cf0a2ba6ac41224d114b8b0e420106ca6db047653133d3f"), looks := false }, kinds := [], alts := [], laidByText := true, laidKinds := [.data, .data, .data, .data, .pinned], laidTests := true, laidLooks := .later }
def DisplayTypesCardSaid : Prop := Claim7.holds Tryz.pinned (.plain (OpenSpec.ofChange displayTypesSpec)) displayTypesCard

/-- THE TIED CARD OF 'midrangelaw41.DisplayAnswers'. -/
def displayAnswersCard : Claim7 := { stood := { row := displayAnswersRow, standIns := [], harness := (true, "2d24fe860973e3c65cf0a2ba6ac41224d114b8b0e420106ca6db047653133d3f"), looks := false }, kinds := [], alts := [], laidByText := true, laidKinds := [.data, .data, .data, .data, .pinned], laidTests := true, laidLooks := .later }
def DisplayAnswersCardSaid : Prop := Claim7.holds Tryz.pinned (.plain (OpenSpec.ofChange displayAnswersSpec)) displayAnswersCard

/-- THE TIED CARD OF 'midrangelaw41.DisplayReceives'. -/
def displayReceivesCard : Claim7 := { stood := { row := displayReceivesRow, standIns := [], harness := (true, "2d24fe860973e3c65cf0a2ba6ac41224d114b8b0e420106ca6db047653133d3f"), looks := false }, kinds := [], alts := [], laidByText := true, laidKinds := [.data, .data, .data, .data, .pinned], laidTests := true, laidLooks := .later }
def DisplayReceivesCardSaid : Prop := Claim7.holds Tryz.pinned (.plain (OpenSpec.ofChange displayReceivesSpec)) displayReceivesCard

/-- THE TIED CARD OF 'midrangelaw41.DisplayBack'. -/
def displayBackCard : Claim7 := { stood := { row := displayBackRow, standIns := [], harness := (true, "2d24fe860973e3c65cf0a2ba6ac41224d114b8b0e420106ca6db047653133d3f"), looks := false }, kinds := [], alts := [], laidByText := true, laidKinds := [.data, .data, .data, .data, .pinned], laidTests := true, laidLooks := .later }
def DisplayBackCardSaid : Prop := Claim7.holds Tryz.pinned (.plain (OpenSpec.ofChange displayBackSpec)) displayBackCard

/-- THE TIED CARD OF 'midrangelaw41.DisplayCells'. -/
def displayCellsCard : Claim7 := { stood := { row := displayCellsRow, standIns := [], harness := (true, "2d24fe860973e3c65cf0a2ba6ac41224d114b8b0e420106ca6db047653133d3f"), looks := false }, kinds := [], alts := [], laidByText := true, laidKinds := [.data, .data, .data, .data, .pinned], laidTests := true, laidLooks := .later }
def DisplayCellsCardSaid : Prop := Claim7.holds Tryz.pinned (.plain (OpenSpec.ofChange displayCellsSpec)) displayCellsCard

/-- THE TIED CARD OF 'midrangelaw41.DisplayScreens'. -/
def displayScreensCard : Claim7 := { stood := { row := displayScreensRow, standIns := [], harness := (true, "2d24fe860973e3c65cf0a2ba6ac41224d114b8b0e420106ca6db047653133d3f"), looks := false }, kinds := [], alts := [], laidByText := true, laidKinds := [.data, .data, .data, .data, .pinned], laidTests := true, laidLooks := .later }
def DisplayScreensCardSaid : Prop := Claim7.holds Tryz.pinned (.plain (OpenSpec.ofChange displayScreensSpec)) displayScreensCard

/-- THE TIED CARD OF 'midrangelaw41.DisplayRolls'. -/
def displayRollsCard : Claim7 := { stood := { row := displayRollsRow, standIns := [], harness := (true, "2d24fe860973e3c65cf0a2ba6ac41224d114b8b0e420106ca6db047653133d3f"), looks := false }, kinds := [], alts := [], laidByText := true, laidKinds := [.data, .data, .data, .data, .pinned], laidTests := true, laidLooks := .later }
def DisplayRollsCardSaid : Prop := Claim7.holds Tryz.pinned (.plain (OpenSpec.ofChange displayRollsSpec)) displayRollsCard

/-- THE SECOND FORM's CARD OF 'midrangelaw41.DisplaySubfiles'. -/
def displaySubfilesUptoCard : Claim7 := { stood := { row := displaySubfilesUptoRow, standIns := [], harness := (true, "2d24fe860973e3c65cf0a2ba6ac41224d114b8b0e420106ca6db047653133d3f"), looks := false }, kinds := [], alts := [], laidByText := true, laidKinds := [.data, .data, .data, .data, .pinned], laidTests := true, laidLooks := .later }
def DisplaySubfilesUptoCardSaid : Prop := Claim7.holds Tryz.pinned (.plain (OpenSpec.upto displaySubfilesSpec)) displaySubfilesUptoCard

/-- THE SECOND FORM's CARD OF 'midrangelaw41.DisplayPages'. -/
def displayPagesUptoCard : Claim7 := { stood := { row := displayPagesUptoRow, standIns := [], harness := (true, "2d24fe860973e3c65cf0a2ba6ac41224d114b8b0e420106ca6db047653133d3f"), looks := false }, kinds := [], alts := [], laidByText := true, laidKinds := [.data, .data, .data, .data, .pinned], laidTests := true, laidLooks := .later }
def DisplayPagesUptoCardSaid : Prop := Claim7.holds Tryz.pinned (.plain (OpenSpec.upto displayPagesSpec)) displayPagesUptoCard

/-- THE SECOND FORM's CARD OF 'midrangelaw41.DisplayChecks'. -/
def displayChecksUptoCard : Claim7 := { stood := { row := displayChecksUptoRow, standIns := [], harness := (true, "2d24fe860973e3c65cf0a2ba6ac41224d114b8b0e420106ca6db047653133d3f"), looks := false }, kinds := [], alts := [], laidByText := true, laidKinds := [.data, .data, .data, .data, .pinned], laidTests := true, laidLooks := .later }
def DisplayChecksUptoCardSaid : Prop := Claim7.holds Tryz.pinned (.plain (OpenSpec.upto displayChecksSpec)) displayChecksUptoCard

/-- THE SECOND FORM's CARD OF 'midrangelaw41.DisplayStreams'. -/
def displayStreamsUptoCard : Claim7 := { stood := { row := displayStreamsUptoRow, standIns := [], harness := (true, "2d24fe860973e3c65cf0a2ba6ac41224d114b8b0e420106ca6db047653133d3f"), looks := false }, kinds := [], alts := [], laidByText := true, laidKinds := [.data, .data, .data, .data, .pinned], laidTests := true, laidLooks := .later }
def DisplayStreamsUptoCardSaid : Prop := Claim7.holds Tryz.pinned (.plain (OpenSpec.upto displayStreamsSpec)) displayStreamsUptoCard

/-- THE SECOND FORM's CARD OF 'midrangelaw41.DisplayShows'. -/
def displayShowsUptoCard : Claim7 := { stood := { row := displayShowsUptoRow, standIns := [], harness := (true, "2d24fe860973e3c65cf0a2ba6ac41224d114b8b0e420106ca6db047653133d3f"), looks := false }, kinds := [], alts := [], laidByText := true, laidKinds := [.data, .data, .data, .data, .pinned], laidTests := true, laidLooks := .later }
def DisplayShowsUptoCardSaid : Prop := Claim7.holds Tryz.pinned (.plain (OpenSpec.upto displayShowsSpec)) displayShowsUptoCard

/-- THE SECOND FORM's CARD OF 'midrangelaw41.DisplayTypes'. -/
def displayTypesUptoCard : Claim7 := { stood := { row := displayTypesUptoRow, standIns := [], harness := (true, "2d24fe860973e3c65cf0a2ba6ac41224d114b8b0e420106ca6db047653133d3f"), looks := false }, kinds := [], alts := [], laidByText := true, laidKinds := [.data, .data, .data, .data, .pinned], laidTests := true, laidLooks := .later }
def DisplayTypesUptoCardSaid : Prop := Claim7.holds Tryz.pinned (.plain (OpenSpec.upto displayTypesSpec)) displayTypesUptoCard

/-- THE SECOND FORM's CARD OF 'midrangelaw41.DisplayAnswers'. -/
def displayAnswersUptoCard : Claim7 := { stood := { row := displayAnswersUptoRow, standIns := [], harness := (true, "2d24fe860973e3c65cf0a2ba6ac41224d114b8b0e420106ca6db047653133d3f"), looks := false }, kinds := [], alts := [], laidByText := true, laidKinds := [.data, .data, .data, .data, .pinned], laidTests := true, laidLooks := .later }
def DisplayAnswersUptoCardSaid : Prop := Claim7.holds Tryz.pinned (.plain (OpenSpec.upto displayAnswersSpec)) displayAnswersUptoCard

/-- THE SECOND FORM's CARD OF 'midrangelaw41.DisplayReceives'. -/
def displayReceivesUptoCard : Claim7 := { stood := { row := displayReceivesUptoRow, standIns := [], harness := (true, "2d24fe860973e3c65cf0a2ba6ac41224d114b8b0e420106ca6db047653133d3f"), looks := false }, kinds := [], alts := [], laidByText := true, laidKinds := [.data, .data, .data, .data, .pinned], laidTests := true, laidLooks := .later }
def DisplayReceivesUptoCardSaid : Prop := Claim7.holds Tryz.pinned (.plain (OpenSpec.upto displayReceivesSpec)) displayReceivesUptoCard

/-- THE SECOND FORM's CARD OF 'midrangelaw41.DisplayBack'. -/
def displayBackUptoCard : Claim7 := { stood := { row := displayBackUptoRow, standIns := [], harness := (true, "2d24fe860973e3c65cf0a2ba6ac41224d114b8b0e420106ca6db047653133d3f"), looks := false }, kinds := [], alts := [], laidByText := true, laidKinds := [.data, .data, .data, .data, .pinned], laidTests := true, laidLooks := .later }
def DisplayBackUptoCardSaid : Prop := Claim7.holds Tryz.pinned (.plain (OpenSpec.upto displayBackSpec)) displayBackUptoCard

/-- THE SECOND FORM's CARD OF 'midrangelaw41.DisplayCells'. -/
def displayCellsUptoCard : Claim7 := { stood := { row := displayCellsUptoRow, standIns := [], harness := (true, "2d24fe860973e3c65cf0a2ba6ac41224d114b8b0e420106ca6db047653133d3f"), looks := false }, kinds := [], alts := [], laidByText := true, laidKinds := [.data, .data, .data, .data, .pinned], laidTests := true, laidLooks := .later }
def DisplayCellsUptoCardSaid : Prop := Claim7.holds Tryz.pinned (.plain (OpenSpec.upto displayCellsSpec)) displayCellsUptoCard

/-- THE SECOND FORM's CARD OF 'midrangelaw41.DisplayScreens'. -/
def displayScreensUptoCard : Claim7 := { stood := { row := displayScreensUptoRow, standIns := [], harness := (true, "2d24fe860973e3c65cf0a2ba6ac41224d114b8b0e420106ca6db047653133d3f"), looks := false }, kinds := [], alts := [], laidByText := true, laidKinds := [.data, .data, .data, .data, .pinned], laidTests := true, laidLooks := .later }
def DisplayScreensUptoCardSaid : Prop := Claim7.holds Tryz.pinned (.plain (OpenSpec.upto displayScreensSpec)) displayScreensUptoCard

/-- THE SECOND FORM's CARD OF 'midrangelaw41.DisplayRolls'. -/
def displayRollsUptoCard : Claim7 := { stood := { row := displayRollsUptoRow, standIns := [], harness := (true, "2d24fe860973e3c65cf0a2ba6ac41224d114b8b0e420106ca6db047653133d3f"), looks := false }, kinds := [], alts := [], laidByText := true, laidKinds := [.data, .data, .data, .data, .pinned], laidTests := true, laidLooks := .later }
def DisplayRollsUptoCardSaid : Prop := Claim7.holds Tryz.pinned (.plain (OpenSpec.upto displayRollsSpec)) displayRollsUptoCard
end Rows
end Go.Proofs.YteadgfclfopccaaGreatDoor
