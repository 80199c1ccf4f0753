/-
  NARROWER THAN 'FOR EVERY INPUT', by the rows' own cells (each row's printed sentence says how): EditTexts: laid · EditParts: laid · EditWords: laid · EditWidths: laid · EditAlike: laid · EditWordsOf: laid · EditSame: laid · EditWordReads: laid · EditReads: laid · EditBack: laid.
  DERIVED. THE GIVEN ROWS OF THIS SEAT. 10 by the template 'for every input the law returns true; each argument reads behind the call as it read before'; 0 by the template 'total and deterministic' (their statements: YtecbbmokocnadaaDoorTotals.lean).
  GIVEN WITH THE SEED: the statements are not yours to turn. If you find one false, say at which input.
  Laid BY PROGRAM, IN A SANDBOX (cutbox-rows.mjs): the forced cells as the released guide's own fill.sh prints them over the translation 049eb188b85a2f94… (all of the seat's roots in one cut). By AI agents, Wed Nov 11 2026. No macro, syntax, notation, axiom, sorry.
-/
import Derived.Test.YtecbbmokocnadaaDoorChecked
import GoSem.PinnedTables
import GoSem.Claim
import GoSem.ClaimJoined
import GoSem.ClaimMapViews
import Derived.JoinedTies
import Derived.KernelRfl
namespace Go.Proofs.YtecbbmokocnadaaDoor
/- THE CELL 'sum', in the pinned program and in every row, IS THE sha256 OF THE DUMP (.gsa) THAT YtecbbmokocnadaaDoorProg.lean LOADS. Nothing in Lean hashes anything: it is a label: what it is worth is what the hold of that sum in a sandbox is worth. -/
noncomputable def Tryd.pinned : Pinned := { name := "ytecbbmokocnadaadoor", sum := "049eb188b85a2f94b10994ef451d32f249638457c6fcd52c77cef995cf17e2f5", checked := Tryd.checked }
namespace Rows
def none {H : Type} : Left H := { results := [], args := [] }

/- WHAT THE LISTED PACKAGE-LEVEL VARIABLES READ AS WHEN THE CALL BEGINS. Each datum BY PROGRAM (the guide's laid-datum.mjs) off the statement by which the dump's own 'gosem.cut.vars' lays the variable. In a bare row this is a premise. The card (YtecbbmokocnadaaDoorCards.lean) ties it to the program's text. -/
def laid_unicode_utf8_acceptRanges {H : Type} : DataW H := .agg [.agg [.lit (.int .u8 128), .lit (.int .u8 191)], .agg [.lit (.int .u8 160), .lit (.int .u8 191)], .agg [.lit (.int .u8 128), .lit (.int .u8 159)], .agg [.lit (.int .u8 144), .lit (.int .u8 191)], .agg [.lit (.int .u8 128), .lit (.int .u8 143)], .agg [.lit (.int .u8 0), .lit (.int .u8 0)], .agg [.lit (.int .u8 0), .lit (.int .u8 0)], .agg [.lit (.int .u8 0), .lit (.int .u8 0)], .agg [.lit (.int .u8 0), .lit (.int .u8 0)], .agg [.lit (.int .u8 0), .lit (.int .u8 0)], .agg [.lit (.int .u8 0), .lit (.int .u8 0)], .agg [.lit (.int .u8 0), .lit (.int .u8 0)], .agg [.lit (.int .u8 0), .lit (.int .u8 0)], .agg [.lit (.int .u8 0), .lit (.int .u8 0)], .agg [.lit (.int .u8 0), .lit (.int .u8 0)], .agg [.lit (.int .u8 0), .lit (.int .u8 0)]]
/-- One of Go's own tables, pinned by name: the form's constant. -/
def laid_unicode_utf8_first : DataW Unit := Go.Pinned.utf8First

/-- 'midrangelaw02.EditTexts': WHATEVER THE INPUT: true; the input reads as it did. -/
def editTextsSpec : ChangeSpec := { name := "editTexts", fn := fun _ => fun
  | [d1, d2, d3] => { results := [.lit (.bool true)], args := [d1, d2, d3] }
  | _ => none }
def editTextsRow : OpenClaim := { program := "ytecbbmokocnadaadoor", sum := "049eb188b85a2f94b10994ef451d32f249638457c6fcd52c77cef995cf17e2f5", func := "midrange/midrangelaw02.EditTexts", spec := "editTexts", inPlace := ["internal/bytealg.IndexByteString", "internal/bytealg.IndexString", "internal/abi.NoEscape", "internal/bytealg.MakeNoZero", "internal/bytealg.CountString"], recurses := true, named := ["unicode/utf8.first", "unicode/utf8.acceptRanges", "internal/bytealg.MaxLen"], apart := false, laid := [("unicode/utf8.acceptRanges", laid_unicode_utf8_acceptRanges), ("unicode/utf8.first", laid_unicode_utf8_first)] }
def EditTextsSaid : Prop := editTextsRow.holds Tryd.pinned (OpenSpec.ofChange editTextsSpec)

/-- ITS FALSE NEIGHBOUR: 'it returns false'. Refute it at one input. -/
def editTextsWrong : ChangeSpec := { name := "editTexts", fn := fun _ => fun
  | [d1, d2, d3] => { results := [.lit (.bool false)], args := [d1, d2, d3] }
  | _ => none }
def EditTextsWrongFalsely : Prop := editTextsRow.holds Tryd.pinned (OpenSpec.ofChange editTextsWrong)

/-- 'midrangelaw02.EditParts': WHATEVER THE INPUT: true; the input reads as it did. -/
def editPartsSpec : ChangeSpec := { name := "editParts", fn := fun _ => fun
  | [d] => { results := [.lit (.bool true)], args := [d] }
  | _ => none }
def editPartsRow : OpenClaim := { program := "ytecbbmokocnadaadoor", sum := "049eb188b85a2f94b10994ef451d32f249638457c6fcd52c77cef995cf17e2f5", func := "midrange/midrangelaw02.EditParts", spec := "editParts", inPlace := ["internal/bytealg.IndexByteString", "internal/bytealg.IndexString", "internal/abi.NoEscape", "internal/bytealg.MakeNoZero", "internal/bytealg.CountString"], named := ["unicode/utf8.first", "unicode/utf8.acceptRanges", "internal/bytealg.MaxLen"], apart := false, laid := [("unicode/utf8.acceptRanges", laid_unicode_utf8_acceptRanges), ("unicode/utf8.first", laid_unicode_utf8_first)] }
def EditPartsSaid : Prop := editPartsRow.holds Tryd.pinned (OpenSpec.ofChange editPartsSpec)

/-- ITS FALSE NEIGHBOUR: 'it returns false'. Refute it at one input. -/
def editPartsWrong : ChangeSpec := { name := "editParts", fn := fun _ => fun
  | [d] => { results := [.lit (.bool false)], args := [d] }
  | _ => none }
def EditPartsWrongFalsely : Prop := editPartsRow.holds Tryd.pinned (OpenSpec.ofChange editPartsWrong)

/-- 'midrangelaw02.EditWords': WHATEVER THE INPUT: true; the input reads as it did. -/
def editWordsSpec : ChangeSpec := { name := "editWords", fn := fun _ => fun
  | [d1, d2, d3] => { results := [.lit (.bool true)], args := [d1, d2, d3] }
  | _ => none }
def editWordsRow : OpenClaim := { program := "ytecbbmokocnadaadoor", sum := "049eb188b85a2f94b10994ef451d32f249638457c6fcd52c77cef995cf17e2f5", func := "midrange/midrangelaw02.EditWords", spec := "editWords", inPlace := ["internal/bytealg.IndexByteString", "internal/bytealg.IndexString", "internal/abi.NoEscape", "internal/bytealg.MakeNoZero", "internal/bytealg.CountString"], recurses := true, named := ["unicode/utf8.first", "unicode/utf8.acceptRanges", "internal/bytealg.MaxLen"], apart := false, laid := [("unicode/utf8.acceptRanges", laid_unicode_utf8_acceptRanges), ("unicode/utf8.first", laid_unicode_utf8_first)] }
def EditWordsSaid : Prop := editWordsRow.holds Tryd.pinned (OpenSpec.ofChange editWordsSpec)

/-- ITS FALSE NEIGHBOUR: 'it returns false'. Refute it at one input. -/
def editWordsWrong : ChangeSpec := { name := "editWords", fn := fun _ => fun
  | [d1, d2, d3] => { results := [.lit (.bool false)], args := [d1, d2, d3] }
  | _ => none }
def EditWordsWrongFalsely : Prop := editWordsRow.holds Tryd.pinned (OpenSpec.ofChange editWordsWrong)

/-- 'midrangelaw02.EditWidths': WHATEVER THE INPUT: true; the input reads as it did. -/
def editWidthsSpec : ChangeSpec := { name := "editWidths", fn := fun _ => fun
  | [d1, d2] => { results := [.lit (.bool true)], args := [d1, d2] }
  | _ => none }
def editWidthsRow : OpenClaim := { program := "ytecbbmokocnadaadoor", sum := "049eb188b85a2f94b10994ef451d32f249638457c6fcd52c77cef995cf17e2f5", func := "midrange/midrangelaw02.EditWidths", spec := "editWidths", inPlace := ["internal/bytealg.IndexByteString", "internal/bytealg.IndexString", "internal/abi.NoEscape", "internal/bytealg.MakeNoZero", "internal/bytealg.CountString"], recurses := true, named := ["unicode/utf8.first", "unicode/utf8.acceptRanges", "internal/bytealg.MaxLen"], apart := false, laid := [("unicode/utf8.acceptRanges", laid_unicode_utf8_acceptRanges), ("unicode/utf8.first", laid_unicode_utf8_first)] }
def EditWidthsSaid : Prop := editWidthsRow.holds Tryd.pinned (OpenSpec.ofChange editWidthsSpec)

/-- ITS FALSE NEIGHBOUR: 'it returns false'. Refute it at one input. -/
def editWidthsWrong : ChangeSpec := { name := "editWidths", fn := fun _ => fun
  | [d1, d2] => { results := [.lit (.bool false)], args := [d1, d2] }
  | _ => none }
def EditWidthsWrongFalsely : Prop := editWidthsRow.holds Tryd.pinned (OpenSpec.ofChange editWidthsWrong)

/-- 'midrangelaw02.EditAlike': WHATEVER THE INPUT: true; the input reads as it did. -/
def editAlikeSpec : ChangeSpec := { name := "editAlike", fn := fun _ => fun
  | [d1, d2, d3] => { results := [.lit (.bool true)], args := [d1, d2, d3] }
  | _ => none }
def editAlikeRow : OpenClaim := { program := "ytecbbmokocnadaadoor", sum := "049eb188b85a2f94b10994ef451d32f249638457c6fcd52c77cef995cf17e2f5", func := "midrange/midrangelaw02.EditAlike", spec := "editAlike", inPlace := ["internal/bytealg.IndexByteString", "internal/bytealg.IndexString", "internal/abi.NoEscape", "internal/bytealg.MakeNoZero", "internal/bytealg.CountString"], named := ["unicode/utf8.first", "unicode/utf8.acceptRanges", "internal/bytealg.MaxLen"], apart := false, laid := [("unicode/utf8.acceptRanges", laid_unicode_utf8_acceptRanges), ("unicode/utf8.first", laid_unicode_utf8_first)] }
def EditAlikeSaid : Prop := editAlikeRow.holds Tryd.pinned (OpenSpec.ofChange editAlikeSpec)

/-- ITS FALSE NEIGHBOUR: 'it returns false'. Refute it at one input. -/
def editAlikeWrong : ChangeSpec := { name := "editAlike", fn := fun _ => fun
  | [d1, d2, d3] => { results := [.lit (.bool false)], args := [d1, d2, d3] }
  | _ => none }
def EditAlikeWrongFalsely : Prop := editAlikeRow.holds Tryd.pinned (OpenSpec.ofChange editAlikeWrong)

/-- 'midrangelaw02.EditWordsOf': WHATEVER THE INPUT: true; the input reads as it did. -/
def editWordsOfSpec : ChangeSpec := { name := "editWordsOf", fn := fun _ => fun
  | [d1, d2] => { results := [.lit (.bool true)], args := [d1, d2] }
  | _ => none }
def editWordsOfRow : OpenClaim := { program := "ytecbbmokocnadaadoor", sum := "049eb188b85a2f94b10994ef451d32f249638457c6fcd52c77cef995cf17e2f5", func := "midrange/midrangelaw02.EditWordsOf", spec := "editWordsOf", inPlace := ["internal/bytealg.IndexByteString", "internal/bytealg.IndexString", "internal/abi.NoEscape", "internal/bytealg.MakeNoZero", "internal/bytealg.CountString"], named := ["unicode/utf8.first", "unicode/utf8.acceptRanges", "internal/bytealg.MaxLen"], apart := false, laid := [("unicode/utf8.acceptRanges", laid_unicode_utf8_acceptRanges), ("unicode/utf8.first", laid_unicode_utf8_first)] }
def EditWordsOfSaid : Prop := editWordsOfRow.holds Tryd.pinned (OpenSpec.ofChange editWordsOfSpec)

/-- ITS FALSE NEIGHBOUR: 'it returns false'. Refute it at one input. -/
def editWordsOfWrong : ChangeSpec := { name := "editWordsOf", fn := fun _ => fun
  | [d1, d2] => { results := [.lit (.bool false)], args := [d1, d2] }
  | _ => none }
def EditWordsOfWrongFalsely : Prop := editWordsOfRow.holds Tryd.pinned (OpenSpec.ofChange editWordsOfWrong)

/-- 'midrangelaw02.EditSame': WHATEVER THE INPUT: true; the input reads as it did. -/
def editSameSpec : ChangeSpec := { name := "editSame", fn := fun _ => fun
  | [d1, d2, d3] => { results := [.lit (.bool true)], args := [d1, d2, d3] }
  | _ => none }
def editSameRow : OpenClaim := { program := "ytecbbmokocnadaadoor", sum := "049eb188b85a2f94b10994ef451d32f249638457c6fcd52c77cef995cf17e2f5", func := "midrange/midrangelaw02.EditSame", spec := "editSame", inPlace := ["internal/bytealg.IndexByteString", "internal/bytealg.IndexString", "internal/abi.NoEscape", "internal/bytealg.MakeNoZero", "internal/bytealg.CountString"], named := ["unicode/utf8.first", "unicode/utf8.acceptRanges", "internal/bytealg.MaxLen"], apart := false, laid := [("unicode/utf8.acceptRanges", laid_unicode_utf8_acceptRanges), ("unicode/utf8.first", laid_unicode_utf8_first)] }
def EditSameSaid : Prop := editSameRow.holds Tryd.pinned (OpenSpec.ofChange editSameSpec)

/-- ITS FALSE NEIGHBOUR: 'it returns false'. Refute it at one input. -/
def editSameWrong : ChangeSpec := { name := "editSame", fn := fun _ => fun
  | [d1, d2, d3] => { results := [.lit (.bool false)], args := [d1, d2, d3] }
  | _ => none }
def EditSameWrongFalsely : Prop := editSameRow.holds Tryd.pinned (OpenSpec.ofChange editSameWrong)

/-- 'midrangelaw02.EditWordReads': WHATEVER THE INPUT: true; the input reads as it did. -/
def editWordReadsSpec : ChangeSpec := { name := "editWordReads", fn := fun _ => fun
  | [d1, d2, d3] => { results := [.lit (.bool true)], args := [d1, d2, d3] }
  | _ => none }
def editWordReadsRow : OpenClaim := { program := "ytecbbmokocnadaadoor", sum := "049eb188b85a2f94b10994ef451d32f249638457c6fcd52c77cef995cf17e2f5", func := "midrange/midrangelaw02.EditWordReads", spec := "editWordReads", inPlace := ["internal/bytealg.IndexByteString", "internal/bytealg.IndexString", "internal/abi.NoEscape", "internal/bytealg.MakeNoZero", "internal/bytealg.CountString"], unfollowed := true, recurses := true, named := ["unicode/utf8.first", "unicode/utf8.acceptRanges", "internal/bytealg.MaxLen"], apart := false, laid := [("unicode/utf8.acceptRanges", laid_unicode_utf8_acceptRanges), ("unicode/utf8.first", laid_unicode_utf8_first)] }
def EditWordReadsSaid : Prop := editWordReadsRow.holds Tryd.pinned (OpenSpec.ofChange editWordReadsSpec)

/-- ITS FALSE NEIGHBOUR: 'it returns false'. Refute it at one input. -/
def editWordReadsWrong : ChangeSpec := { name := "editWordReads", fn := fun _ => fun
  | [d1, d2, d3] => { results := [.lit (.bool false)], args := [d1, d2, d3] }
  | _ => none }
def EditWordReadsWrongFalsely : Prop := editWordReadsRow.holds Tryd.pinned (OpenSpec.ofChange editWordReadsWrong)

/-- 'midrangelaw02.EditReads': WHATEVER THE INPUT: true; the input reads as it did. -/
def editReadsSpec : ChangeSpec := { name := "editReads", fn := fun _ => fun
  | [d1, d2, d3] => { results := [.lit (.bool true)], args := [d1, d2, d3] }
  | _ => none }
def editReadsRow : OpenClaim := { program := "ytecbbmokocnadaadoor", sum := "049eb188b85a2f94b10994ef451d32f249638457c6fcd52c77cef995cf17e2f5", func := "midrange/midrangelaw02.EditReads", spec := "editReads", inPlace := ["internal/bytealg.IndexByteString", "internal/bytealg.IndexString", "internal/abi.NoEscape", "internal/bytealg.MakeNoZero", "internal/bytealg.CountString"], unfollowed := true, recurses := true, named := ["unicode/utf8.first", "unicode/utf8.acceptRanges", "internal/bytealg.MaxLen"], apart := false, laid := [("unicode/utf8.acceptRanges", laid_unicode_utf8_acceptRanges), ("unicode/utf8.first", laid_unicode_utf8_first)] }
def EditReadsSaid : Prop := editReadsRow.holds Tryd.pinned (OpenSpec.ofChange editReadsSpec)

/-- ITS FALSE NEIGHBOUR: 'it returns false'. Refute it at one input. -/
def editReadsWrong : ChangeSpec := { name := "editReads", fn := fun _ => fun
  | [d1, d2, d3] => { results := [.lit (.bool false)], args := [d1, d2, d3] }
  | _ => none }
def EditReadsWrongFalsely : Prop := editReadsRow.holds Tryd.pinned (OpenSpec.ofChange editReadsWrong)

/-- 'midrangelaw02.EditBack': WHATEVER THE INPUT: true; the input reads as it did. -/
def editBackSpec : ChangeSpec := { name := "editBack", fn := fun _ => fun
  | [d1, d2, d3] => { results := [.lit (.bool true)], args := [d1, d2, d3] }
  | _ => none }
def editBackRow : OpenClaim := { program := "ytecbbmokocnadaadoor", sum := "049eb188b85a2f94b10994ef451d32f249638457c6fcd52c77cef995cf17e2f5", func := "midrange/midrangelaw02.EditBack", spec := "editBack", inPlace := ["internal/bytealg.IndexByteString", "internal/bytealg.IndexString", "internal/abi.NoEscape", "internal/bytealg.MakeNoZero", "internal/bytealg.CountString"], unfollowed := true, recurses := true, named := ["unicode/utf8.first", "unicode/utf8.acceptRanges", "internal/bytealg.MaxLen"], apart := false, laid := [("unicode/utf8.acceptRanges", laid_unicode_utf8_acceptRanges), ("unicode/utf8.first", laid_unicode_utf8_first)] }
def EditBackSaid : Prop := editBackRow.holds Tryd.pinned (OpenSpec.ofChange editBackSpec)

/-- ITS FALSE NEIGHBOUR: 'it returns false'. Refute it at one input. -/
def editBackWrong : ChangeSpec := { name := "editBack", fn := fun _ => fun
  | [d1, d2, d3] => { results := [.lit (.bool false)], args := [d1, d2, d3] }
  | _ => none }
def EditBackWrongFalsely : Prop := editBackRow.holds Tryd.pinned (OpenSpec.ofChange editBackWrong)

/- THE SECOND FORM. 'bulk': how many values and letters a reading holds, each counted each time it is reached (what is shared counts as often as it is met; a slice's spare places count too). A statement '..UptoSaid' is the law's where the arguments, and the package variables that the reading takes, are together of bulk at most 1048576: NARROWER than '..Said'. Prove '..Said' where nothing that the law and all that it calls make is longer than what came in: it says more and counts as full. Else prove '..UptoSaid'. A law counts once. -/
mutual
def uptoBulk {H : Type} : DataW H → Nat
  | .lit (.string bytes) => bytes.length + 1
  | .lit _ => 1
  | .nil => 1
  | .ptr d => uptoBulk d + 1
  | .slice elems spare => uptoBulkAll elems + uptoBulkAll spare + 1
  | .agg parts => uptoBulkAll parts + 1
  | .iface _ d => uptoBulk d + 1
  | .map entries => uptoBulkEntries entries + 1
  | .held _ => 1
def uptoBulkAll {H : Type} : List (DataW H) → Nat
  | [] => 0
  | d :: r => uptoBulk d + uptoBulkAll r
def uptoBulkEntries {H : Type} : List (Lit × DataW H) → Nat
  | [] => 0
  | x :: r => uptoBulkEntry x + uptoBulkEntries r
def uptoBulkEntry {H : Type} : Lit × DataW H → Nat
  | (.string bytes, d) => bytes.length + uptoBulk d + 1
  | (_, d) => uptoBulk d + 1
 end
def uptoSmall : (H : Type) → List (DataW H) → Bool := fun _ ds => decide (uptoBulkAll ds ≤ 1048576)
def OpenSpec.upto (s : _root_.Go.ChangeSpec) : _root_.Go.OpenSpec := { _root_.Go.OpenSpec.ofChange s with cond := some uptoSmall }

/-- 'midrangelaw02.EditTexts', WHERE WHAT IT READS IS OF BULK AT MOST 1048576: true; the input reads as it did. -/
def editTextsUptoRow : OpenClaim := { program := "ytecbbmokocnadaadoor", sum := "049eb188b85a2f94b10994ef451d32f249638457c6fcd52c77cef995cf17e2f5", func := "midrange/midrangelaw02.EditTexts", spec := "editTexts", inPlace := ["internal/bytealg.IndexByteString", "internal/bytealg.IndexString", "internal/abi.NoEscape", "internal/bytealg.MakeNoZero", "internal/bytealg.CountString"], recurses := true, named := ["unicode/utf8.first", "unicode/utf8.acceptRanges", "internal/bytealg.MaxLen"], apart := false, laid := [("unicode/utf8.acceptRanges", laid_unicode_utf8_acceptRanges), ("unicode/utf8.first", laid_unicode_utf8_first)], narrowed := true }
def EditTextsUptoSaid : Prop := editTextsUptoRow.holds Tryd.pinned (OpenSpec.upto editTextsSpec)

/-- 'midrangelaw02.EditParts', WHERE WHAT IT READS IS OF BULK AT MOST 1048576: true; the input reads as it did. -/
def editPartsUptoRow : OpenClaim := { program := "ytecbbmokocnadaadoor", sum := "049eb188b85a2f94b10994ef451d32f249638457c6fcd52c77cef995cf17e2f5", func := "midrange/midrangelaw02.EditParts", spec := "editParts", inPlace := ["internal/bytealg.IndexByteString", "internal/bytealg.IndexString", "internal/abi.NoEscape", "internal/bytealg.MakeNoZero", "internal/bytealg.CountString"], named := ["unicode/utf8.first", "unicode/utf8.acceptRanges", "internal/bytealg.MaxLen"], apart := false, laid := [("unicode/utf8.acceptRanges", laid_unicode_utf8_acceptRanges), ("unicode/utf8.first", laid_unicode_utf8_first)], narrowed := true }
def EditPartsUptoSaid : Prop := editPartsUptoRow.holds Tryd.pinned (OpenSpec.upto editPartsSpec)

/-- 'midrangelaw02.EditWords', WHERE WHAT IT READS IS OF BULK AT MOST 1048576: true; the input reads as it did. -/
def editWordsUptoRow : OpenClaim := { program := "ytecbbmokocnadaadoor", sum := "049eb188b85a2f94b10994ef451d32f249638457c6fcd52c77cef995cf17e2f5", func := "midrange/midrangelaw02.EditWords", spec := "editWords", inPlace := ["internal/bytealg.IndexByteString", "internal/bytealg.IndexString", "internal/abi.NoEscape", "internal/bytealg.MakeNoZero", "internal/bytealg.CountString"], recurses := true, named := ["unicode/utf8.first", "unicode/utf8.acceptRanges", "internal/bytealg.MaxLen"], apart := false, laid := [("unicode/utf8.acceptRanges", laid_unicode_utf8_acceptRanges), ("unicode/utf8.first", laid_unicode_utf8_first)], narrowed := true }
def EditWordsUptoSaid : Prop := editWordsUptoRow.holds Tryd.pinned (OpenSpec.upto editWordsSpec)

/-- 'midrangelaw02.EditWidths', WHERE WHAT IT READS IS OF BULK AT MOST 1048576: true; the input reads as it did. -/
def editWidthsUptoRow : OpenClaim := { program := "ytecbbmokocnadaadoor", sum := "049eb188b85a2f94b10994ef451d32f249638457c6fcd52c77cef995cf17e2f5", func := "midrange/midrangelaw02.EditWidths", spec := "editWidths", inPlace := ["internal/bytealg.IndexByteString", "internal/bytealg.IndexString", "internal/abi.NoEscape", "internal/bytealg.MakeNoZero", "internal/bytealg.CountString"], recurses := true, named := ["unicode/utf8.first", "unicode/utf8.acceptRanges", "internal/bytealg.MaxLen"], apart := false, laid := [("unicode/utf8.acceptRanges", laid_unicode_utf8_acceptRanges), ("unicode/utf8.first", laid_unicode_utf8_first)], narrowed := true }
def EditWidthsUptoSaid : Prop := editWidthsUptoRow.holds Tryd.pinned (OpenSpec.upto editWidthsSpec)

/-- 'midrangelaw02.EditAlike', WHERE WHAT IT READS IS OF BULK AT MOST 1048576: true; the input reads as it did. -/
def editAlikeUptoRow : OpenClaim := { program := "ytecbbmokocnadaadoor", sum := "049eb188b85a2f94b10994ef451d32f249638457c6fcd52c77cef995cf17e2f5", func := "midrange/midrangelaw02.EditAlike", spec := "editAlike", inPlace := ["internal/bytealg.IndexByteString", "internal/bytealg.IndexString", "internal/abi.NoEscape", "internal/bytealg.MakeNoZero", "internal/bytealg.CountString"], named := ["unicode/utf8.first", "unicode/utf8.acceptRanges", "internal/bytealg.MaxLen"], apart := false, laid := [("unicode/utf8.acceptRanges", laid_unicode_utf8_acceptRanges), ("unicode/utf8.first", laid_unicode_utf8_first)], narrowed := true }
def EditAlikeUptoSaid : Prop := editAlikeUptoRow.holds Tryd.pinned (OpenSpec.upto editAlikeSpec)

/-- 'midrangelaw02.EditWordsOf', WHERE WHAT IT READS IS OF BULK AT MOST 1048576: true; the input reads as it did. -/
def editWordsOfUptoRow : OpenClaim := { program := "ytecbbmokocnadaadoor", sum := "049eb188b85a2f94b10994ef451d32f249638457c6fcd52c77cef995cf17e2f5", func := "midrange/midrangelaw02.EditWordsOf", spec := "editWordsOf", inPlace := ["internal/bytealg.IndexByteString", "internal/bytealg.IndexString", "internal/abi.NoEscape", "internal/bytealg.MakeNoZero", "internal/bytealg.CountString"], named := ["unicode/utf8.first", "unicode/utf8.acceptRanges", "internal/bytealg.MaxLen"], apart := false, laid := [("unicode/utf8.acceptRanges", laid_unicode_utf8_acceptRanges), ("unicode/utf8.first", laid_unicode_utf8_first)], narrowed := true }
def EditWordsOfUptoSaid : Prop := editWordsOfUptoRow.holds Tryd.pinned (OpenSpec.upto editWordsOfSpec)

/-- 'midrangelaw02.EditSame', WHERE WHAT IT READS IS OF BULK AT MOST 1048576: true; the input reads as it did. -/
def editSameUptoRow : OpenClaim := { program := "ytecbbmokocnadaadoor", sum := "049eb188b85a2f94b10994ef451d32f249638457c6fcd52c77cef995cf17e2f5", func := "midrange/midrangelaw02.EditSame", spec := "editSame", inPlace := ["internal/bytealg.IndexByteString", "internal/bytealg.IndexString", "internal/abi.NoEscape", "internal/bytealg.MakeNoZero", "internal/bytealg.CountString"], named := ["unicode/utf8.first", "unicode/utf8.acceptRanges", "internal/bytealg.MaxLen"], apart := false, laid := [("unicode/utf8.acceptRanges", laid_unicode_utf8_acceptRanges), ("unicode/utf8.first", laid_unicode_utf8_first)], narrowed := true }
def EditSameUptoSaid : Prop := editSameUptoRow.holds Tryd.pinned (OpenSpec.upto editSameSpec)

/-- 'midrangelaw02.EditWordReads', WHERE WHAT IT READS IS OF BULK AT MOST 1048576: true; the input reads as it did. -/
def editWordReadsUptoRow : OpenClaim := { program := "ytecbbmokocnadaadoor", sum := "049eb188b85a2f94b10994ef451d32f249638457c6fcd52c77cef995cf17e2f5", func := "midrange/midrangelaw02.EditWordReads", spec := "editWordReads", inPlace := ["internal/bytealg.IndexByteString", "internal/bytealg.IndexString", "internal/abi.NoEscape", "internal/bytealg.MakeNoZero", "internal/bytealg.CountString"], unfollowed := true, recurses := true, named := ["unicode/utf8.first", "unicode/utf8.acceptRanges", "internal/bytealg.MaxLen"], apart := false, laid := [("unicode/utf8.acceptRanges", laid_unicode_utf8_acceptRanges), ("unicode/utf8.first", laid_unicode_utf8_first)], narrowed := true }
def EditWordReadsUptoSaid : Prop := editWordReadsUptoRow.holds Tryd.pinned (OpenSpec.upto editWordReadsSpec)

/-- 'midrangelaw02.EditReads', WHERE WHAT IT READS IS OF BULK AT MOST 1048576: true; the input reads as it did. -/
def editReadsUptoRow : OpenClaim := { program := "ytecbbmokocnadaadoor", sum := "049eb188b85a2f94b10994ef451d32f249638457c6fcd52c77cef995cf17e2f5", func := "midrange/midrangelaw02.EditReads", spec := "editReads", inPlace := ["internal/bytealg.IndexByteString", "internal/bytealg.IndexString", "internal/abi.NoEscape", "internal/bytealg.MakeNoZero", "internal/bytealg.CountString"], unfollowed := true, recurses := true, named := ["unicode/utf8.first", "unicode/utf8.acceptRanges", "internal/bytealg.MaxLen"], apart := false, laid := [("unicode/utf8.acceptRanges", laid_unicode_utf8_acceptRanges), ("unicode/utf8.first", laid_unicode_utf8_first)], narrowed := true }
def EditReadsUptoSaid : Prop := editReadsUptoRow.holds Tryd.pinned (OpenSpec.upto editReadsSpec)

/-- 'midrangelaw02.EditBack', WHERE WHAT IT READS IS OF BULK AT MOST 1048576: true; the input reads as it did. -/
def editBackUptoRow : OpenClaim := { program := "ytecbbmokocnadaadoor", sum := "049eb188b85a2f94b10994ef451d32f249638457c6fcd52c77cef995cf17e2f5", func := "midrange/midrangelaw02.EditBack", spec := "editBack", inPlace := ["internal/bytealg.IndexByteString", "internal/bytealg.IndexString", "internal/abi.NoEscape", "internal/bytealg.MakeNoZero", "internal/bytealg.CountString"], unfollowed := true, recurses := true, named := ["unicode/utf8.first", "unicode/utf8.acceptRanges", "internal/bytealg.MaxLen"], apart := false, laid := [("unicode/utf8.acceptRanges", laid_unicode_utf8_acceptRanges), ("unicode/utf8.first", laid_unicode_utf8_first)], narrowed := true }
def EditBackUptoSaid : Prop := editBackUptoRow.holds Tryd.pinned (OpenSpec.upto editBackSpec)

end Rows
end Go.Proofs.YtecbbmokocnadaaDoor
