/-
  DERIVED. GIVEN WITH THE SEED: THE CARDS: each row of YtioagofpofamiaaDoorRows.lean that lists a variable, with what it lists TIED to the program's text (the seventh form; the later family's looks); each row that meets fmt, with fmt's text TOLD by the authors' own Lean function (tested against real Go, not proved from fmt's source: count such statements apart). THE CARD IS WHAT COUNTS. Prove the row's statement (the work); the ties are given (YtioagofpofamiaaDoorTie.lean); close each card by the builder's one call (the guide's Derived/Test/ToyasCard.lean, 'card_holds'). Laid BY PROGRAM, IN A SANDBOX (cutbox-door.mjs). By AI agents, Wed Nov 11 2026. No macro, syntax, notation, axiom, sorry.
-/
import Derived.Test.YtioagofpofamiaaDoorRows
import GoSem.ClaimSeven
namespace Go.Proofs.YtioagofpofamiaaDoor
namespace Rows

/-- THE TIED CARD OF 'midrangelaw01.NumericTexts'. -/
def numericTextsCard : Claim7 := { stood := { row := numericTextsRow, standIns := [], harness := (true, "02c9a6b6cdc8368cd58c23008d7736bd95ae864cdea2c10c687c30ec26b0c6f5"), looks := false }, kinds := [], alts := [], laidByText := true, laidKinds := [.data, .pinned], laidTests := true, laidLooks := .later }
def NumericTextsCardSaid : Prop := Claim7.holds Tryd.pinned (.plain (OpenSpec.ofChange numericTextsSpec)) numericTextsCard

/-- THE TIED CARD OF 'midrangelaw01.NumericNumbers'. -/
def numericNumbersCard : Claim7 := { stood := { row := numericNumbersRow, standIns := [], harness := (true, "02c9a6b6cdc8368cd58c23008d7736bd95ae864cdea2c10c687c30ec26b0c6f5"), looks := false }, kinds := [], alts := [], laidByText := true, laidKinds := [.data, .data, .data], laidTests := true, laidLooks := .later }
def NumericNumbersCardSaid : Prop := Claim7.holds Tryd.pinned (.plain (OpenSpec.ofChange numericNumbersSpec)) numericNumbersCard

/-- THE TIED CARD OF 'midrangelaw01.NumericBack'. -/
def numericBackCard : Claim7 := { stood := { row := numericBackRow, standIns := [], harness := (true, "02c9a6b6cdc8368cd58c23008d7736bd95ae864cdea2c10c687c30ec26b0c6f5"), looks := false }, kinds := [], alts := [], laidByText := true, laidKinds := [.data, .data, .data, .data, .pinned], laidTests := true, laidLooks := .later }
def NumericBackCardSaid : Prop := Claim7.holds Tryd.pinned (.plain (OpenSpec.ofChange numericBackSpec)) numericBackCard

/-- THE SECOND FORM's CARD OF 'midrangelaw01.NumericTexts'. -/
def numericTextsUptoCard : Claim7 := { stood := { row := numericTextsUptoRow, standIns := [], harness := (true, "02c9a6b6cdc8368cd58c23008d7736bd95ae864cdea2c10c687c30ec26b0c6f5"), looks := false }, kinds := [], alts := [], laidByText := true, laidKinds := [.data, .pinned], laidTests := true, laidLooks := .later }
def NumericTextsUptoCardSaid : Prop := Claim7.holds Tryd.pinned (.plain (OpenSpec.upto numericTextsSpec)) numericTextsUptoCard

/-- THE SECOND FORM's CARD OF 'midrangelaw01.NumericNumbers'. -/
def numericNumbersUptoCard : Claim7 := { stood := { row := numericNumbersUptoRow, standIns := [], harness := (true, "02c9a6b6cdc8368cd58c23008d7736bd95ae864cdea2c10c687c30ec26b0c6f5"), looks := false }, kinds := [], alts := [], laidByText := true, laidKinds := [.data, .data, .data], laidTests := true, laidLooks := .later }
def NumericNumbersUptoCardSaid : Prop := Claim7.holds Tryd.pinned (.plain (OpenSpec.upto numericNumbersSpec)) numericNumbersUptoCard

/-- THE SECOND FORM's CARD OF 'midrangelaw01.NumericBack'. -/
def numericBackUptoCard : Claim7 := { stood := { row := numericBackUptoRow, standIns := [], harness := (true, "02c9a6b6cdc8368cd58c23008d7736bd95ae864cdea2c10c687c30ec26b0c6f5"), looks := false }, kinds := [], alts := [], laidByText := true, laidKinds := [.data, .data, .data, .data, .pinned], laidTests := true, laidLooks := .later }
def NumericBackUptoCardSaid : Prop := Claim7.holds Tryd.pinned (.plain (OpenSpec.upto numericBackSpec)) numericBackUptoCard
end Rows
end Go.Proofs.YtioagofpofamiaaDoor
