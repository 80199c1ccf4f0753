/-
  DERIVED. GIVEN WITH THE SEED: THE CARDS: each row of YthcmomgkfjjajaaGreatDoorRows.lean that lists a variable, with what it lists TIED to the program's text (the seventh form; the later family's looks); each row that meets fmt, with fmt's text TOLD by the authors' own Lean function (tested against real Go, not proved from fmt's source: count such statements apart). THE CARD IS WHAT COUNTS. Prove the row's statement (the work); the ties are given (YthcmomgkfjjajaaGreatDoorTie.lean); close each card by the builder's one call (the guide's Derived/Test/ToyasCard.lean, 'card_holds'). Laid BY PROGRAM, IN A SANDBOX (cutbox-door.mjs). By AI agents, Wed Nov 11 2026. No macro, syntax, notation, axiom, sorry.
-/
import Derived.Test.YthcmomgkfjjajaaGreatDoorRows
import GoSem.ClaimSeven
namespace Go.Proofs.YthcmomgkfjjajaaGreatDoor
namespace Rows

/-- THE TIED CARD OF 'midrangelaw18.MessagesSends'. -/
def messagesSendsCard : Claim7 := { stood := { row := messagesSendsRow, standIns := [], harness := (true, "35cc97eec3e4a3238952f3db429326b68b1b2d565b1922fb8202bd83d675d9c8"), looks := false }, kinds := [], alts := [], laidByText := true, laidKinds := [.data, .data, .data, .data, .pinned], laidTests := true, laidLooks := .later }
def MessagesSendsCardSaid : Prop := Claim7.holds Tryz.pinned (.plain (OpenSpec.ofChange messagesSendsSpec)) messagesSendsCard

/-- THE TIED CARD OF 'midrangelaw18.MessagesReceives'. -/
def messagesReceivesCard : Claim7 := { stood := { row := messagesReceivesRow, standIns := [], harness := (true, "35cc97eec3e4a3238952f3db429326b68b1b2d565b1922fb8202bd83d675d9c8"), looks := false }, kinds := [], alts := [], laidByText := true, laidKinds := [.data, .data, .data, .data, .pinned], laidTests := true, laidLooks := .later }
def MessagesReceivesCardSaid : Prop := Claim7.holds Tryz.pinned (.plain (OpenSpec.ofChange messagesReceivesSpec)) messagesReceivesCard

/-- THE TIED CARD OF 'midrangelaw18.MessagesReplies'. -/
def messagesRepliesCard : Claim7 := { stood := { row := messagesRepliesRow, standIns := [], harness := (true, "35cc97eec3e4a3238952f3db429326b68b1b2d565b1922fb8202bd83d675d9c8"), looks := false }, kinds := [], alts := [], laidByText := true, laidKinds := [.data, .data, .data, .data, .pinned], laidTests := true, laidLooks := .later }
def MessagesRepliesCardSaid : Prop := Claim7.holds Tryz.pinned (.plain (OpenSpec.ofChange messagesRepliesSpec)) messagesRepliesCard

/-- THE TIED CARD OF 'midrangelaw18.MessagesRuns'. -/
def messagesRunsCard : Claim7 := { stood := { row := messagesRunsRow, standIns := [], harness := (true, "35cc97eec3e4a3238952f3db429326b68b1b2d565b1922fb8202bd83d675d9c8"), looks := false }, kinds := [], alts := [], laidByText := true, laidKinds := [.data, .data, .data, .data, .pinned], laidTests := true, laidLooks := .later }
def MessagesRunsCardSaid : Prop := Claim7.holds Tryz.pinned (.plain (OpenSpec.ofChange messagesRunsSpec)) messagesRunsCard

/-- THE TIED CARD OF 'midrangelaw18.MessagesAnswers'. -/
def messagesAnswersCard : Claim7 := { stood := { row := messagesAnswersRow, standIns := [], harness := (true, "35cc97eec3e4a3238952f3db429326b68b1b2d565b1922fb8202bd83d675d9c8"), looks := false }, kinds := [], alts := [], laidByText := true, laidKinds := [.data, .data, .data, .data, .pinned], laidTests := true, laidLooks := .later }
def MessagesAnswersCardSaid : Prop := Claim7.holds Tryz.pinned (.plain (OpenSpec.ofChange messagesAnswersSpec)) messagesAnswersCard

/-- THE TIED CARD OF 'midrangelaw18.MessagesKeys'. -/
def messagesKeysCard : Claim7 := { stood := { row := messagesKeysRow, standIns := [], harness := (true, "35cc97eec3e4a3238952f3db429326b68b1b2d565b1922fb8202bd83d675d9c8"), looks := false }, kinds := [], alts := [], laidByText := true, laidKinds := [.data, .data, .data, .data, .pinned], laidTests := true, laidLooks := .later }
def MessagesKeysCardSaid : Prop := Claim7.holds Tryz.pinned (.plain (OpenSpec.ofChange messagesKeysSpec)) messagesKeysCard

/-- THE TIED CARD OF 'midrangelaw18.MessagesTexts'. -/
def messagesTextsCard : Claim7 := { stood := { row := messagesTextsRow, standIns := [], harness := (true, "35cc97eec3e4a3238952f3db429326b68b1b2d565b1922fb8202bd83d675d9c8"), looks := false }, kinds := [], alts := [], laidByText := true, laidKinds := [.data, .data, .data, .data, .pinned], laidTests := true, laidLooks := .later }
def MessagesTextsCardSaid : Prop := Claim7.holds Tryz.pinned (.plain (OpenSpec.ofChange messagesTextsSpec)) messagesTextsCard

/-- THE TIED CARD OF 'midrangelaw18.MessagesSystems'. -/
def messagesSystemsCard : Claim7 := { stood := { row := messagesSystemsRow, standIns := [], harness := (true, "35cc97eec3e4a3238952f3db429326b68b1b2d565b1922fb8202bd83d675d9c8"), looks := false }, kinds := [], alts := [], laidByText := true, laidKinds := [.data, .data, .data, .data, .pinned], laidTests := true, laidLooks := .later }
def MessagesSystemsCardSaid : Prop := Claim7.holds Tryz.pinned (.plain (OpenSpec.ofChange messagesSystemsSpec)) messagesSystemsCard

/-- THE TIED CARD OF 'midrangelaw18.MessagesFiles'. -/
def messagesFilesCard : Claim7 := { stood := { row := messagesFilesRow, standIns := [], harness := (true, "35cc97eec3e4a3238952f3db429326b68b1b2d565b1922fb8202bd83d675d9c8"), looks := false }, kinds := [], alts := [], laidByText := true, laidKinds := [.data, .data, .data, .data, .pinned], laidTests := true, laidLooks := .later }
def MessagesFilesCardSaid : Prop := Claim7.holds Tryz.pinned (.plain (OpenSpec.ofChange messagesFilesSpec)) messagesFilesCard

/-- THE SECOND FORM's CARD OF 'midrangelaw18.MessagesSends'. -/
def messagesSendsUptoCard : Claim7 := { stood := { row := messagesSendsUptoRow, standIns := [], harness := (true, "35cc97eec3e4a3238952f3db429326b68b1b2d565b1922fb8202bd83d675d9c8"), looks := false }, kinds := [], alts := [], laidByText := true, laidKinds := [.data, .data, .data, .data, .pinned], laidTests := true, laidLooks := .later }
def MessagesSendsUptoCardSaid : Prop := Claim7.holds Tryz.pinned (.plain (OpenSpec.upto messagesSendsSpec)) messagesSendsUptoCard

/-- THE SECOND FORM's CARD OF 'midrangelaw18.MessagesReceives'. -/
def messagesReceivesUptoCard : Claim7 := { stood := { row := messagesReceivesUptoRow, standIns := [], harness := (true, "35cc97eec3e4a3238952f3db429326b68b1b2d565b1922fb8202bd83d675d9c8"), looks := false }, kinds := [], alts := [], laidByText := true, laidKinds := [.data, .data, .data, .data, .pinned], laidTests := true, laidLooks := .later }
def MessagesReceivesUptoCardSaid : Prop := Claim7.holds Tryz.pinned (.plain (OpenSpec.upto messagesReceivesSpec)) messagesReceivesUptoCard

/-- THE SECOND FORM's CARD OF 'midrangelaw18.MessagesReplies'. -/
def messagesRepliesUptoCard : Claim7 := { stood := { row := messagesRepliesUptoRow, standIns := [], harness := (true, "35cc97eec3e4a3238952f3db429326b68b1b2d565b1922fb8202bd83d675d9c8"), looks := false }, kinds := [], alts := [], laidByText := true, laidKinds := [.data, .data, .data, .data, .pinned], laidTests := true, laidLooks := .later }
def MessagesRepliesUptoCardSaid : Prop := Claim7.holds Tryz.pinned (.plain (OpenSpec.upto messagesRepliesSpec)) messagesRepliesUptoCard

/-- THE SECOND FORM's CARD OF 'midrangelaw18.MessagesRuns'. -/
def messagesRunsUptoCard : Claim7 := { stood := { row := messagesRunsUptoRow, standIns := [], harness := (true, "35cc97eec3e4a3238952f3db429326b68b1b2d565b1922fb8202bd83d675d9c8"), looks := false }, kinds := [], alts := [], laidByText := true, laidKinds := [.data, .data, .data, .data, .pinned], laidTests := true, laidLooks := .later }
def MessagesRunsUptoCardSaid : Prop := Claim7.holds Tryz.pinned (.plain (OpenSpec.upto messagesRunsSpec)) messagesRunsUptoCard

/-- THE SECOND FORM's CARD OF 'midrangelaw18.MessagesAnswers'. -/
def messagesAnswersUptoCard : Claim7 := { stood := { row := messagesAnswersUptoRow, standIns := [], harness := (true, "35cc97eec3e4a3238952f3db429326b68b1b2d565b1922fb8202bd83d675d9c8"), looks := false }, kinds := [], alts := [], laidByText := true, laidKinds := [.data, .data, .data, .data, .pinned], laidTests := true, laidLooks := .later }
def MessagesAnswersUptoCardSaid : Prop := Claim7.holds Tryz.pinned (.plain (OpenSpec.upto messagesAnswersSpec)) messagesAnswersUptoCard

/-- THE SECOND FORM's CARD OF 'midrangelaw18.MessagesKeys'. -/
def messagesKeysUptoCard : Claim7 := { stood := { row := messagesKeysUptoRow, standIns := [], harness := (true, "35cc97eec3e4a3238952f3db429326b68b1b2d565b1922fb8202bd83d675d9c8"), looks := false }, kinds := [], alts := [], laidByText := true, laidKinds := [.data, .data, .data, .data, .pinned], laidTests := true, laidLooks := .later }
def MessagesKeysUptoCardSaid : Prop := Claim7.holds Tryz.pinned (.plain (OpenSpec.upto messagesKeysSpec)) messagesKeysUptoCard

/-- THE SECOND FORM's CARD OF 'midrangelaw18.MessagesTexts'. -/
def messagesTextsUptoCard : Claim7 := { stood := { row := messagesTextsUptoRow, standIns := [], harness := (true, "35cc97eec3e4a3238952f3db429326b68b1b2d565b1922fb8202bd83d675d9c8"), looks := false }, kinds := [], alts := [], laidByText := true, laidKinds := [.data, .data, .data, .data, .pinned], laidTests := true, laidLooks := .later }
def MessagesTextsUptoCardSaid : Prop := Claim7.holds Tryz.pinned (.plain (OpenSpec.upto messagesTextsSpec)) messagesTextsUptoCard

/-- THE SECOND FORM's CARD OF 'midrangelaw18.MessagesSystems'. -/
def messagesSystemsUptoCard : Claim7 := { stood := { row := messagesSystemsUptoRow, standIns := [], harness := (true, "35cc97eec3e4a3238952f3db429326b68b1b2d565b1922fb8202bd83d675d9c8"), looks := false }, kinds := [], alts := [], laidByText := true, laidKinds := [.data, .data, .data, .data, .pinned], laidTests := true, laidLooks := .later }
def MessagesSystemsUptoCardSaid : Prop := Claim7.holds Tryz.pinned (.plain (OpenSpec.upto messagesSystemsSpec)) messagesSystemsUptoCard

/-- THE SECOND FORM's CARD OF 'midrangelaw18.MessagesFiles'. -/
def messagesFilesUptoCard : Claim7 := { stood := { row := messagesFilesUptoRow, standIns := [], harness := (true, "35cc97eec3e4a3238952f3db429326b68b1b2d565b1922fb8202bd83d675d9c8"), looks := false }, kinds := [], alts := [], laidByText := true, laidKinds := [.data, .data, .data, .data, .pinned], laidTests := true, laidLooks := .later }
def MessagesFilesUptoCardSaid : Prop := Claim7.holds Tryz.pinned (.plain (OpenSpec.upto messagesFilesSpec)) messagesFilesUptoCard
end Rows
end Go.Proofs.YthcmomgkfjjajaaGreatDoor
