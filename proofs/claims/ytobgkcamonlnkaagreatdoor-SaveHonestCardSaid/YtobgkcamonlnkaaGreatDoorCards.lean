/-
  DERIVED. GIVEN WITH THE SEED: THE CARDS: each row of YtobgkcamonlnkaaGreatDoorRows.lean that lists a variable, with what it lists TIED to the program's text (the seventh form; the later family's looks); each row that meets fmt, with fmt's text TOLD by the authors' own Lean function (tested against real Go, not proved from fmt's source: count such statements apart). THE CARD IS WHAT COUNTS. Prove the row's statement (the work); the ties are given (YtobgkcamonlnkaaGreatDoorTie.lean); close each card by the builder's one call (the guide's Derived/Test/ToyasCard.lean, 'card_holds'). Laid BY PROGRAM, IN A SANDBOX (cutbox-door.mjs). By AI agents, Wed Nov 11 2026. No macro, syntax, notation, axiom, sorry.
-/
import Derived.Test.YtobgkcamonlnkaaGreatDoorRows
import GoSem.ClaimSeven
namespace Go.Proofs.YtobgkcamonlnkaaGreatDoor
namespace Rows

/-- THE TIED CARD OF 'midrangelaw34.SaveStreams'. -/
def saveStreamsCard : Claim7 := { stood := { row := saveStreamsRow, standIns := [], harness := (true, "2643b601b4bad94b9ab4943852b745dab85c6c0168f67f7deddc84ae96f04dcf"), looks := false }, kinds := [], alts := [], laidByText := true, laidKinds := [.data, .pinned], laidTests := true, laidLooks := .later }
def SaveStreamsCardSaid : Prop := Claim7.holds Tryz.pinned (.plain (OpenSpec.ofChange saveStreamsSpec)) saveStreamsCard

/-- THE TIED CARD OF 'midrangelaw34.SaveVolumes'. -/
def saveVolumesCard : Claim7 := { stood := { row := saveVolumesRow, standIns := [], harness := (true, "2643b601b4bad94b9ab4943852b745dab85c6c0168f67f7deddc84ae96f04dcf"), looks := false }, kinds := [], alts := [], laidByText := true, laidKinds := [.data, .pinned], laidTests := true, laidLooks := .later }
def SaveVolumesCardSaid : Prop := Claim7.holds Tryz.pinned (.plain (OpenSpec.ofChange saveVolumesSpec)) saveVolumesCard

/-- THE TIED CARD OF 'midrangelaw34.SaveLevels'. -/
def saveLevelsCard : Claim7 := { stood := { row := saveLevelsRow, standIns := [], harness := (true, "2643b601b4bad94b9ab4943852b745dab85c6c0168f67f7deddc84ae96f04dcf"), looks := false }, kinds := [], alts := [], laidByText := true, laidKinds := [.data, .pinned], laidTests := true, laidLooks := .later }
def SaveLevelsCardSaid : Prop := Claim7.holds Tryz.pinned (.plain (OpenSpec.ofChange saveLevelsSpec)) saveLevelsCard

/-- THE TIED CARD OF 'midrangelaw34.SaveDiffers'. -/
def saveDiffersCard : Claim7 := { stood := { row := saveDiffersRow, standIns := [], harness := (true, "2643b601b4bad94b9ab4943852b745dab85c6c0168f67f7deddc84ae96f04dcf"), looks := false }, kinds := [], alts := [], laidByText := true, laidKinds := [.data, .pinned], laidTests := true, laidLooks := .later }
def SaveDiffersCardSaid : Prop := Claim7.holds Tryz.pinned (.plain (OpenSpec.ofChange saveDiffersSpec)) saveDiffersCard

/-- THE TIED CARD OF 'midrangelaw34.SaveReads'. -/
def saveReadsCard : Claim7 := { stood := { row := saveReadsRow, standIns := [], harness := (true, "2643b601b4bad94b9ab4943852b745dab85c6c0168f67f7deddc84ae96f04dcf"), looks := false }, kinds := [], alts := [], laidByText := true, laidKinds := [.data, .pinned], laidTests := true, laidLooks := .later }
def SaveReadsCardSaid : Prop := Claim7.holds Tryz.pinned (.plain (OpenSpec.ofChange saveReadsSpec)) saveReadsCard

/-- THE TIED CARD OF 'midrangelaw34.SaveChecks'. -/
def saveChecksCard : Claim7 := { stood := { row := saveChecksRow, standIns := [], harness := (true, "2643b601b4bad94b9ab4943852b745dab85c6c0168f67f7deddc84ae96f04dcf"), looks := false }, kinds := [], alts := [], laidByText := true, laidKinds := [.data, .pinned], laidTests := true, laidLooks := .later }
def SaveChecksCardSaid : Prop := Claim7.holds Tryz.pinned (.plain (OpenSpec.ofChange saveChecksSpec)) saveChecksCard

/-- THE TIED CARD OF 'midrangelaw34.SaveBack'. -/
def saveBackCard : Claim7 := { stood := { row := saveBackRow, standIns := [], harness := (true, "2643b601b4bad94b9ab4943852b745dab85c6c0168f67f7deddc84ae96f04dcf"), looks := false }, kinds := [], alts := [], laidByText := true, laidKinds := [.data, .pinned], laidTests := true, laidLooks := .later }
def SaveBackCardSaid : Prop := Claim7.holds Tryz.pinned (.plain (OpenSpec.ofChange saveBackSpec)) saveBackCard

/-- THE TIED CARD OF 'midrangelaw34.SaveHonest'. -/
def saveHonestCard : Claim7 := { stood := { row := saveHonestRow, standIns := [], harness := (true, "2643b601b4bad94b9ab4943852b745dab85c6c0168f67f7deddc84ae96f04dcf"), looks := false }, kinds := [], alts := [], laidByText := true, laidKinds := [.data, .pinned], laidTests := true, laidLooks := .later }
def SaveHonestCardSaid : Prop := Claim7.holds Tryz.pinned (.plain (OpenSpec.ofChange saveHonestSpec)) saveHonestCard

/-- THE TIED CARD OF 'midrangelaw34.SaveOver'. -/
def saveOverCard : Claim7 := { stood := { row := saveOverRow, standIns := [], harness := (true, "2643b601b4bad94b9ab4943852b745dab85c6c0168f67f7deddc84ae96f04dcf"), looks := false }, kinds := [], alts := [], laidByText := true, laidKinds := [.data, .pinned], laidTests := true, laidLooks := .later }
def SaveOverCardSaid : Prop := Claim7.holds Tryz.pinned (.plain (OpenSpec.ofChange saveOverSpec)) saveOverCard

/-- THE TIED CARD OF 'midrangelaw34.SaveRestores'. -/
def saveRestoresCard : Claim7 := { stood := { row := saveRestoresRow, standIns := [], harness := (true, "2643b601b4bad94b9ab4943852b745dab85c6c0168f67f7deddc84ae96f04dcf"), looks := false }, kinds := [], alts := [], laidByText := true, laidKinds := [.data, .pinned], laidTests := true, laidLooks := .later }
def SaveRestoresCardSaid : Prop := Claim7.holds Tryz.pinned (.plain (OpenSpec.ofChange saveRestoresSpec)) saveRestoresCard

/-- THE SECOND FORM's CARD OF 'midrangelaw34.SaveStreams'. -/
def saveStreamsUptoCard : Claim7 := { stood := { row := saveStreamsUptoRow, standIns := [], harness := (true, "2643b601b4bad94b9ab4943852b745dab85c6c0168f67f7deddc84ae96f04dcf"), looks := false }, kinds := [], alts := [], laidByText := true, laidKinds := [.data, .pinned], laidTests := true, laidLooks := .later }
def SaveStreamsUptoCardSaid : Prop := Claim7.holds Tryz.pinned (.plain (OpenSpec.upto saveStreamsSpec)) saveStreamsUptoCard

/-- THE SECOND FORM's CARD OF 'midrangelaw34.SaveVolumes'. -/
def saveVolumesUptoCard : Claim7 := { stood := { row := saveVolumesUptoRow, standIns := [], harness := (true, "2643b601b4bad94b9ab4943852b745dab85c6c0168f67f7deddc84ae96f04dcf"), looks := false }, kinds := [], alts := [], laidByText := true, laidKinds := [.data, .pinned], laidTests := true, laidLooks := .later }
def SaveVolumesUptoCardSaid : Prop := Claim7.holds Tryz.pinned (.plain (OpenSpec.upto saveVolumesSpec)) saveVolumesUptoCard

/-- THE SECOND FORM's CARD OF 'midrangelaw34.SaveLevels'. -/
def saveLevelsUptoCard : Claim7 := { stood := { row := saveLevelsUptoRow, standIns := [], harness := (true, "2643b601b4bad94b9ab4943852b745dab85c6c0168f67f7deddc84ae96f04dcf"), looks := false }, kinds := [], alts := [], laidByText := true, laidKinds := [.data, .pinned], laidTests := true, laidLooks := .later }
def SaveLevelsUptoCardSaid : Prop := Claim7.holds Tryz.pinned (.plain (OpenSpec.upto saveLevelsSpec)) saveLevelsUptoCard

/-- THE SECOND FORM's CARD OF 'midrangelaw34.SaveDiffers'. -/
def saveDiffersUptoCard : Claim7 := { stood := { row := saveDiffersUptoRow, standIns := [], harness := (true, "2643b601b4bad94b9ab4943852b745dab85c6c0168f67f7deddc84ae96f04dcf"), looks := false }, kinds := [], alts := [], laidByText := true, laidKinds := [.data, .pinned], laidTests := true, laidLooks := .later }
def SaveDiffersUptoCardSaid : Prop := Claim7.holds Tryz.pinned (.plain (OpenSpec.upto saveDiffersSpec)) saveDiffersUptoCard

/-- THE SECOND FORM's CARD OF 'midrangelaw34.SaveReads'. -/
def saveReadsUptoCard : Claim7 := { stood := { row := saveReadsUptoRow, standIns := [], harness := (true, "2643b601b4bad94b9ab4943852b745dab85c6c0168f67f7deddc84ae96f04dcf"), looks := false }, kinds := [], alts := [], laidByText := true, laidKinds := [.data, .pinned], laidTests := true, laidLooks := .later }
def SaveReadsUptoCardSaid : Prop := Claim7.holds Tryz.pinned (.plain (OpenSpec.upto saveReadsSpec)) saveReadsUptoCard

/-- THE SECOND FORM's CARD OF 'midrangelaw34.SaveChecks'. -/
def saveChecksUptoCard : Claim7 := { stood := { row := saveChecksUptoRow, standIns := [], harness := (true, "2643b601b4bad94b9ab4943852b745dab85c6c0168f67f7deddc84ae96f04dcf"), looks := false }, kinds := [], alts := [], laidByText := true, laidKinds := [.data, .pinned], laidTests := true, laidLooks := .later }
def SaveChecksUptoCardSaid : Prop := Claim7.holds Tryz.pinned (.plain (OpenSpec.upto saveChecksSpec)) saveChecksUptoCard

/-- THE SECOND FORM's CARD OF 'midrangelaw34.SaveBack'. -/
def saveBackUptoCard : Claim7 := { stood := { row := saveBackUptoRow, standIns := [], harness := (true, "2643b601b4bad94b9ab4943852b745dab85c6c0168f67f7deddc84ae96f04dcf"), looks := false }, kinds := [], alts := [], laidByText := true, laidKinds := [.data, .pinned], laidTests := true, laidLooks := .later }
def SaveBackUptoCardSaid : Prop := Claim7.holds Tryz.pinned (.plain (OpenSpec.upto saveBackSpec)) saveBackUptoCard

/-- THE SECOND FORM's CARD OF 'midrangelaw34.SaveHonest'. -/
def saveHonestUptoCard : Claim7 := { stood := { row := saveHonestUptoRow, standIns := [], harness := (true, "2643b601b4bad94b9ab4943852b745dab85c6c0168f67f7deddc84ae96f04dcf"), looks := false }, kinds := [], alts := [], laidByText := true, laidKinds := [.data, .pinned], laidTests := true, laidLooks := .later }
def SaveHonestUptoCardSaid : Prop := Claim7.holds Tryz.pinned (.plain (OpenSpec.upto saveHonestSpec)) saveHonestUptoCard

/-- THE SECOND FORM's CARD OF 'midrangelaw34.SaveOver'. -/
def saveOverUptoCard : Claim7 := { stood := { row := saveOverUptoRow, standIns := [], harness := (true, "2643b601b4bad94b9ab4943852b745dab85c6c0168f67f7deddc84ae96f04dcf"), looks := false }, kinds := [], alts := [], laidByText := true, laidKinds := [.data, .pinned], laidTests := true, laidLooks := .later }
def SaveOverUptoCardSaid : Prop := Claim7.holds Tryz.pinned (.plain (OpenSpec.upto saveOverSpec)) saveOverUptoCard

/-- THE SECOND FORM's CARD OF 'midrangelaw34.SaveRestores'. -/
def saveRestoresUptoCard : Claim7 := { stood := { row := saveRestoresUptoRow, standIns := [], harness := (true, "2643b601b4bad94b9ab4943852b745dab85c6c0168f67f7deddc84ae96f04dcf"), looks := false }, kinds := [], alts := [], laidByText := true, laidKinds := [.data, .pinned], laidTests := true, laidLooks := .later }
def SaveRestoresUptoCardSaid : Prop := Claim7.holds Tryz.pinned (.plain (OpenSpec.upto saveRestoresSpec)) saveRestoresUptoCard
end Rows
end Go.Proofs.YtobgkcamonlnkaaGreatDoor
