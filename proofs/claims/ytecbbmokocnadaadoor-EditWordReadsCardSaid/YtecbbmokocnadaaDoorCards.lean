/-
  DERIVED. GIVEN WITH THE SEED: THE CARDS: each row of YtecbbmokocnadaaDoorRows.lean that lists a variable, with what it lists TIED to the program's text (the seventh form; the later family's looks); each row that meets fmt, with fmt's text TOLD by the authors' own Lean function (tested against real Go, not proved from fmt's source: count such statements apart). THE CARD IS WHAT COUNTS. Prove the row's statement (the work); the ties are given (YtecbbmokocnadaaDoorTie.lean); close each card by the builder's one call (the guide's Derived/Test/ToyasCard.lean, 'card_holds'). Laid BY PROGRAM, IN A SANDBOX (cutbox-door.mjs). By AI agents, Wed Nov 11 2026. No macro, syntax, notation, axiom, sorry.
-/
import Derived.Test.YtecbbmokocnadaaDoorRows
import GoSem.ClaimSeven
namespace Go.Proofs.YtecbbmokocnadaaDoor
namespace Rows

/-- THE TIED CARD OF 'midrangelaw02.EditTexts'. -/
def editTextsCard : Claim7 := { stood := { row := editTextsRow, standIns := [], harness := (true, "321298fbc42cbb31f3684063cf80a2792fffb18dbe35319fbdc6ed68d30e1a99"), looks := false }, kinds := [], alts := [], laidByText := true, laidKinds := [.data, .pinned], laidTests := true, laidLooks := .later }
def EditTextsCardSaid : Prop := Claim7.holds Tryd.pinned (.plain (OpenSpec.ofChange editTextsSpec)) editTextsCard

/-- THE TIED CARD OF 'midrangelaw02.EditParts'. -/
def editPartsCard : Claim7 := { stood := { row := editPartsRow, standIns := [], harness := (true, "321298fbc42cbb31f3684063cf80a2792fffb18dbe35319fbdc6ed68d30e1a99"), looks := false }, kinds := [], alts := [], laidByText := true, laidKinds := [.data, .pinned], laidTests := true, laidLooks := .later }
def EditPartsCardSaid : Prop := Claim7.holds Tryd.pinned (.plain (OpenSpec.ofChange editPartsSpec)) editPartsCard

/-- THE TIED CARD OF 'midrangelaw02.EditWords'. -/
def editWordsCard : Claim7 := { stood := { row := editWordsRow, standIns := [], harness := (true, "321298fbc42cbb31f3684063cf80a2792fffb18dbe35319fbdc6ed68d30e1a99"), looks := false }, kinds := [], alts := [], laidByText := true, laidKinds := [.data, .pinned], laidTests := true, laidLooks := .later }
def EditWordsCardSaid : Prop := Claim7.holds Tryd.pinned (.plain (OpenSpec.ofChange editWordsSpec)) editWordsCard

/-- THE TIED CARD OF 'midrangelaw02.EditWidths'. -/
def editWidthsCard : Claim7 := { stood := { row := editWidthsRow, standIns := [], harness := (true, "321298fbc42cbb31f3684063cf80a2792fffb18dbe35319fbdc6ed68d30e1a99"), looks := false }, kinds := [], alts := [], laidByText := true, laidKinds := [.data, .pinned], laidTests := true, laidLooks := .later }
def EditWidthsCardSaid : Prop := Claim7.holds Tryd.pinned (.plain (OpenSpec.ofChange editWidthsSpec)) editWidthsCard

/-- THE TIED CARD OF 'midrangelaw02.EditAlike'. -/
def editAlikeCard : Claim7 := { stood := { row := editAlikeRow, standIns := [], harness := (true, "321298fbc42cbb31f3684063cf80a2792fffb18dbe35319fbdc6ed68d30e1a99"), looks := false }, kinds := [], alts := [], laidByText := true, laidKinds := [.data, .pinned], laidTests := true, laidLooks := .later }
def EditAlikeCardSaid : Prop := Claim7.holds Tryd.pinned (.plain (OpenSpec.ofChange editAlikeSpec)) editAlikeCard

/-- THE TIED CARD OF 'midrangelaw02.EditWordsOf'. -/
def editWordsOfCard : Claim7 := { stood := { row := editWordsOfRow, standIns := [], harness := (true, "321298fbc42cbb31f3684063cf80a2792fffb18dbe35319fbdc6ed68d30e1a99"), looks := false }, kinds := [], alts := [], laidByText := true, laidKinds := [.data, .pinned], laidTests := true, laidLooks := .later }
def EditWordsOfCardSaid : Prop := Claim7.holds Tryd.pinned (.plain (OpenSpec.ofChange editWordsOfSpec)) editWordsOfCard

/-- THE TIED CARD OF 'midrangelaw02.EditSame'. -/
def editSameCard : Claim7 := { stood := { row := editSameRow, standIns := [], harness := (true, "321298fbc42cbb31f3684063cf80a2792fffb18dbe35319fbdc6ed68d30e1a99"), looks := false }, kinds := [], alts := [], laidByText := true, laidKinds := [.data, .pinned], laidTests := true, laidLooks := .later }
def EditSameCardSaid : Prop := Claim7.holds Tryd.pinned (.plain (OpenSpec.ofChange editSameSpec)) editSameCard

/-- THE TIED CARD OF 'midrangelaw02.EditWordReads'. -/
def editWordReadsCard : Claim7 := { stood := { row := editWordReadsRow, standIns := [], harness := (true, "321298fbc42cbb31f3684063cf80a2792fffb18dbe35319fbdc6ed68d30e1a99"), looks := false }, kinds := [], alts := [], laidByText := true, laidKinds := [.data, .pinned], laidTests := true, laidLooks := .later }
def EditWordReadsCardSaid : Prop := Claim7.holds Tryd.pinned (.plain (OpenSpec.ofChange editWordReadsSpec)) editWordReadsCard

/-- THE TIED CARD OF 'midrangelaw02.EditReads'. -/
def editReadsCard : Claim7 := { stood := { row := editReadsRow, standIns := [], harness := (true, "321298fbc42cbb31f3684063cf80a2792fffb18dbe35319fbdc6ed68d30e1a99"), looks := false }, kinds := [], alts := [], laidByText := true, laidKinds := [.data, .pinned], laidTests := true, laidLooks := .later }
def EditReadsCardSaid : Prop := Claim7.holds Tryd.pinned (.plain (OpenSpec.ofChange editReadsSpec)) editReadsCard

/-- THE TIED CARD OF 'midrangelaw02.EditBack'. -/
def editBackCard : Claim7 := { stood := { row := editBackRow, standIns := [], harness := (true, "321298fbc42cbb31f3684063cf80a2792fffb18dbe35319fbdc6ed68d30e1a99"), looks := false }, kinds := [], alts := [], laidByText := true, laidKinds := [.data, .pinned], laidTests := true, laidLooks := .later }
def EditBackCardSaid : Prop := Claim7.holds Tryd.pinned (.plain (OpenSpec.ofChange editBackSpec)) editBackCard

/-- THE SECOND FORM's CARD OF 'midrangelaw02.EditTexts'. -/
def editTextsUptoCard : Claim7 := { stood := { row := editTextsUptoRow, standIns := [], harness := (true, "321298fbc42cbb31f3684063cf80a2792fffb18dbe35319fbdc6ed68d30e1a99"), looks := false }, kinds := [], alts := [], laidByText := true, laidKinds := [.data, .pinned], laidTests := true, laidLooks := .later }
def EditTextsUptoCardSaid : Prop := Claim7.holds Tryd.pinned (.plain (OpenSpec.upto editTextsSpec)) editTextsUptoCard

/-- THE SECOND FORM's CARD OF 'midrangelaw02.EditParts'. -/
def editPartsUptoCard : Claim7 := { stood := { row := editPartsUptoRow, standIns := [], harness := (true, "321298fbc42cbb31f3684063cf80a2792fffb18dbe35319fbdc6ed68d30e1a99"), looks := false }, kinds := [], alts := [], laidByText := true, laidKinds := [.data, .pinned], laidTests := true, laidLooks := .later }
def EditPartsUptoCardSaid : Prop := Claim7.holds Tryd.pinned (.plain (OpenSpec.upto editPartsSpec)) editPartsUptoCard

/-- THE SECOND FORM's CARD OF 'midrangelaw02.EditWords'. -/
def editWordsUptoCard : Claim7 := { stood := { row := editWordsUptoRow, standIns := [], harness := (true, "321298fbc42cbb31f3684063cf80a2792fffb18dbe35319fbdc6ed68d30e1a99"), looks := false }, kinds := [], alts := [], laidByText := true, laidKinds := [.data, .pinned], laidTests := true, laidLooks := .later }
def EditWordsUptoCardSaid : Prop := Claim7.holds Tryd.pinned (.plain (OpenSpec.upto editWordsSpec)) editWordsUptoCard

/-- THE SECOND FORM's CARD OF 'midrangelaw02.EditWidths'. -/
def editWidthsUptoCard : Claim7 := { stood := { row := editWidthsUptoRow, standIns := [], harness := (true, "321298fbc42cbb31f3684063cf80a2792fffb18dbe35319fbdc6ed68d30e1a99"), looks := false }, kinds := [], alts := [], laidByText := true, laidKinds := [.data, .pinned], laidTests := true, laidLooks := .later }
def EditWidthsUptoCardSaid : Prop := Claim7.holds Tryd.pinned (.plain (OpenSpec.upto editWidthsSpec)) editWidthsUptoCard

/-- THE SECOND FORM's CARD OF 'midrangelaw02.EditAlike'. -/
def editAlikeUptoCard : Claim7 := { stood := { row := editAlikeUptoRow, standIns := [], harness := (true, "321298fbc42cbb31f3684063cf80a2792fffb18dbe35319fbdc6ed68d30e1a99"), looks := false }, kinds := [], alts := [], laidByText := true, laidKinds := [.data, .pinned], laidTests := true, laidLooks := .later }
def EditAlikeUptoCardSaid : Prop := Claim7.holds Tryd.pinned (.plain (OpenSpec.upto editAlikeSpec)) editAlikeUptoCard

/-- THE SECOND FORM's CARD OF 'midrangelaw02.EditWordsOf'. -/
def editWordsOfUptoCard : Claim7 := { stood := { row := editWordsOfUptoRow, standIns := [], harness := (true, "321298fbc42cbb31f3684063cf80a2792fffb18dbe35319fbdc6ed68d30e1a99"), looks := false }, kinds := [], alts := [], laidByText := true, laidKinds := [.data, .pinned], laidTests := true, laidLooks := .later }
def EditWordsOfUptoCardSaid : Prop := Claim7.holds Tryd.pinned (.plain (OpenSpec.upto editWordsOfSpec)) editWordsOfUptoCard

/-- THE SECOND FORM's CARD OF 'midrangelaw02.EditSame'. -/
def editSameUptoCard : Claim7 := { stood := { row := editSameUptoRow, standIns := [], harness := (true, "321298fbc42cbb31f3684063cf80a2792fffb18dbe35319fbdc6ed68d30e1a99"), looks := false }, kinds := [], alts := [], laidByText := true, laidKinds := [.data, .pinned], laidTests := true, laidLooks := .later }
def EditSameUptoCardSaid : Prop := Claim7.holds Tryd.pinned (.plain (OpenSpec.upto editSameSpec)) editSameUptoCard

/-- THE SECOND FORM's CARD OF 'midrangelaw02.EditWordReads'. -/
def editWordReadsUptoCard : Claim7 := { stood := { row := editWordReadsUptoRow, standIns := [], harness := (true, "321298fbc42cbb31f3684063cf80a2792fffb18dbe35319fbdc6ed68d30e1a99"), looks := false }, kinds := [], alts := [], laidByText := true, laidKinds := [.data, .pinned], laidTests := true, laidLooks := .later }
def EditWordReadsUptoCardSaid : Prop := Claim7.holds Tryd.pinned (.plain (OpenSpec.upto editWordReadsSpec)) editWordReadsUptoCard

/-- THE SECOND FORM's CARD OF 'midrangelaw02.EditReads'. -/
def editReadsUptoCard : Claim7 := { stood := { row := editReadsUptoRow, standIns := [], harness := (true, "321298fbc42cbb31f3684063cf80a2792fffb18dbe35319fbdc6ed68d30e1a99"), looks := false }, kinds := [], alts := [], laidByText := true, laidKinds := [.data, .pinned], laidTests := true, laidLooks := .later }
def EditReadsUptoCardSaid : Prop := Claim7.holds Tryd.pinned (.plain (OpenSpec.upto editReadsSpec)) editReadsUptoCard

/-- THE SECOND FORM's CARD OF 'midrangelaw02.EditBack'. -/
def editBackUptoCard : Claim7 := { stood := { row := editBackUptoRow, standIns := [], harness := (true, "321298fbc42cbb31f3684063cf80a2792fffb18dbe35319fbdc6ed68d30e1a99"), looks := false }, kinds := [], alts := [], laidByText := true, laidKinds := [.data, .pinned], laidTests := true, laidLooks := .later }
def EditBackUptoCardSaid : Prop := Claim7.holds Tryd.pinned (.plain (OpenSpec.upto editBackSpec)) editBackUptoCard
end Rows
end Go.Proofs.YtecbbmokocnadaaDoor
