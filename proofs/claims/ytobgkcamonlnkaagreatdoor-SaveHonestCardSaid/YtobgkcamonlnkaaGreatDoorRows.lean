/-
  NARROWER THAN 'FOR EVERY INPUT', by the rows' own cells (each row's printed sentence says how): SaveStreams: laid · SaveVolumes: laid · SaveLevels: laid · SaveDiffers: laid · SaveReads: laid · SaveChecks: laid · SaveBack: laid · SaveHonest: laid · SaveOver: laid · SaveRestores: laid.
  DERIVED. THE GIVEN ROWS OF THIS SEAT. 10 by the template 'for every input the law returns true; each argument reads behind the call as it read before'; 0 by the template 'total and deterministic' (their statements: YtobgkcamonlnkaaGreatDoorTotals.lean).
  GIVEN WITH THE SEED: the statements are not yours to turn. If you find one false, say at which input.
  Laid BY PROGRAM, IN A SANDBOX (cutbox-rows.mjs): the forced cells as the released guide's own fill.sh prints them over the translation f9781ce895c922bd… (all of the seat's roots in one cut). By AI agents, Wed Nov 11 2026. No macro, syntax, notation, axiom, sorry.
-/
import Derived.Test.YtobgkcamonlnkaaGreatDoorChecked
import GoSem.PinnedTables
import GoSem.Claim
import GoSem.ClaimJoined
import GoSem.ClaimMapViews
import Derived.JoinedTies
import Derived.KernelRfl
namespace Go.Proofs.YtobgkcamonlnkaaGreatDoor
/- THE CELL 'sum', in the pinned program and in every row, IS THE sha256 OF THE DUMP (.gsa) THAT YtobgkcamonlnkaaGreatDoorProg.lean LOADS. Nothing in Lean hashes anything: it is a label: what it is worth is what the hold of that sum in a sandbox is worth. -/
noncomputable def Tryz.pinned : Pinned := { name := "ytobgkcamonlnkaagreatdoor", sum := "f9781ce895c922bde413745b95d1d6267eabdd5a6fd810ba8e407c5ae128dc0b", checked := Tryz.checked }
namespace Rows
def none {H : Type} : Left H := { results := [], args := [] }

/- WHAT THE LISTED PACKAGE-LEVEL VARIABLES READ AS WHEN THE CALL BEGINS. Each datum BY PROGRAM (the guide's laid-datum.mjs) off the statement by which the dump's own 'gosem.cut.vars' lays the variable. In a bare row this is a premise. The card (YtobgkcamonlnkaaGreatDoorCards.lean) ties it to the program's text. -/
def laid_unicode_utf8_acceptRanges {H : Type} : DataW H := .agg [.agg [.lit (.int .u8 128), .lit (.int .u8 191)], .agg [.lit (.int .u8 160), .lit (.int .u8 191)], .agg [.lit (.int .u8 128), .lit (.int .u8 159)], .agg [.lit (.int .u8 144), .lit (.int .u8 191)], .agg [.lit (.int .u8 128), .lit (.int .u8 143)], .agg [.lit (.int .u8 0), .lit (.int .u8 0)], .agg [.lit (.int .u8 0), .lit (.int .u8 0)], .agg [.lit (.int .u8 0), .lit (.int .u8 0)], .agg [.lit (.int .u8 0), .lit (.int .u8 0)], .agg [.lit (.int .u8 0), .lit (.int .u8 0)], .agg [.lit (.int .u8 0), .lit (.int .u8 0)], .agg [.lit (.int .u8 0), .lit (.int .u8 0)], .agg [.lit (.int .u8 0), .lit (.int .u8 0)], .agg [.lit (.int .u8 0), .lit (.int .u8 0)], .agg [.lit (.int .u8 0), .lit (.int .u8 0)], .agg [.lit (.int .u8 0), .lit (.int .u8 0)]]
/-- One of Go's own tables, pinned by name: the form's constant. -/
def laid_unicode_utf8_first : DataW Unit := Go.Pinned.utf8First

/-- 'midrangelaw34.SaveStreams': WHATEVER THE INPUT: true; the input reads as it did. -/
def saveStreamsSpec : ChangeSpec := { name := "saveStreams", fn := fun _ => fun
  | [d] => { results := [.lit (.bool true)], args := [d] }
  | _ => none }
def saveStreamsRow : OpenClaim := { program := "ytobgkcamonlnkaagreatdoor", sum := "f9781ce895c922bde413745b95d1d6267eabdd5a6fd810ba8e407c5ae128dc0b", func := "midrange/midrangelaw34.SaveStreams", spec := "saveStreams", inPlace := ["internal/abi.NoEscape", "internal/bytealg.MakeNoZero", "internal/bytealg.IndexByteString", "internal/bytealg.IndexString"], unfollowed := true, recurses := true, named := ["unicode/utf8.first", "unicode/utf8.acceptRanges", "internal/bytealg.MaxLen"], apart := false, laid := [("unicode/utf8.acceptRanges", laid_unicode_utf8_acceptRanges), ("unicode/utf8.first", laid_unicode_utf8_first)] }
def SaveStreamsSaid : Prop := saveStreamsRow.holds Tryz.pinned (OpenSpec.ofChange saveStreamsSpec)

/-- ITS FALSE NEIGHBOUR: 'it returns false'. Refute it at one input. -/
def saveStreamsWrong : ChangeSpec := { name := "saveStreams", fn := fun _ => fun
  | [d] => { results := [.lit (.bool false)], args := [d] }
  | _ => none }
def SaveStreamsWrongFalsely : Prop := saveStreamsRow.holds Tryz.pinned (OpenSpec.ofChange saveStreamsWrong)

/-- 'midrangelaw34.SaveVolumes': WHATEVER THE INPUT: true; the input reads as it did. -/
def saveVolumesSpec : ChangeSpec := { name := "saveVolumes", fn := fun _ => fun
  | [d1, d2, d3] => { results := [.lit (.bool true)], args := [d1, d2, d3] }
  | _ => none }
def saveVolumesRow : OpenClaim := { program := "ytobgkcamonlnkaagreatdoor", sum := "f9781ce895c922bde413745b95d1d6267eabdd5a6fd810ba8e407c5ae128dc0b", func := "midrange/midrangelaw34.SaveVolumes", spec := "saveVolumes", inPlace := ["internal/abi.NoEscape", "internal/bytealg.MakeNoZero", "internal/bytealg.IndexByteString", "internal/bytealg.IndexString"], unfollowed := true, recurses := true, named := ["unicode/utf8.first", "unicode/utf8.acceptRanges", "internal/bytealg.MaxLen"], apart := false, laid := [("unicode/utf8.acceptRanges", laid_unicode_utf8_acceptRanges), ("unicode/utf8.first", laid_unicode_utf8_first)] }
def SaveVolumesSaid : Prop := saveVolumesRow.holds Tryz.pinned (OpenSpec.ofChange saveVolumesSpec)

/-- ITS FALSE NEIGHBOUR: 'it returns false'. Refute it at one input. -/
def saveVolumesWrong : ChangeSpec := { name := "saveVolumes", fn := fun _ => fun
  | [d1, d2, d3] => { results := [.lit (.bool false)], args := [d1, d2, d3] }
  | _ => none }
def SaveVolumesWrongFalsely : Prop := saveVolumesRow.holds Tryz.pinned (OpenSpec.ofChange saveVolumesWrong)

/-- 'midrangelaw34.SaveLevels': WHATEVER THE INPUT: true; the input reads as it did. -/
def saveLevelsSpec : ChangeSpec := { name := "saveLevels", fn := fun _ => fun
  | [d] => { results := [.lit (.bool true)], args := [d] }
  | _ => none }
def saveLevelsRow : OpenClaim := { program := "ytobgkcamonlnkaagreatdoor", sum := "f9781ce895c922bde413745b95d1d6267eabdd5a6fd810ba8e407c5ae128dc0b", func := "midrange/midrangelaw34.SaveLevels", spec := "saveLevels", inPlace := ["internal/abi.NoEscape", "internal/bytealg.MakeNoZero", "internal/bytealg.IndexByteString", "internal/bytealg.IndexString"], unfollowed := true, recurses := true, named := ["unicode/utf8.first", "unicode/utf8.acceptRanges", "internal/bytealg.MaxLen"], apart := false, laid := [("unicode/utf8.acceptRanges", laid_unicode_utf8_acceptRanges), ("unicode/utf8.first", laid_unicode_utf8_first)] }
def SaveLevelsSaid : Prop := saveLevelsRow.holds Tryz.pinned (OpenSpec.ofChange saveLevelsSpec)

/-- ITS FALSE NEIGHBOUR: 'it returns false'. Refute it at one input. -/
def saveLevelsWrong : ChangeSpec := { name := "saveLevels", fn := fun _ => fun
  | [d] => { results := [.lit (.bool false)], args := [d] }
  | _ => none }
def SaveLevelsWrongFalsely : Prop := saveLevelsRow.holds Tryz.pinned (OpenSpec.ofChange saveLevelsWrong)

/-- 'midrangelaw34.SaveDiffers': WHATEVER THE INPUT: true; the input reads as it did. -/
def saveDiffersSpec : ChangeSpec := { name := "saveDiffers", fn := fun _ => fun
  | [d1, d2] => { results := [.lit (.bool true)], args := [d1, d2] }
  | _ => none }
def saveDiffersRow : OpenClaim := { program := "ytobgkcamonlnkaagreatdoor", sum := "f9781ce895c922bde413745b95d1d6267eabdd5a6fd810ba8e407c5ae128dc0b", func := "midrange/midrangelaw34.SaveDiffers", spec := "saveDiffers", inPlace := ["internal/abi.NoEscape", "internal/bytealg.MakeNoZero", "internal/bytealg.IndexByteString", "internal/bytealg.IndexString"], unfollowed := true, recurses := true, named := ["unicode/utf8.first", "unicode/utf8.acceptRanges", "internal/bytealg.MaxLen"], apart := false, laid := [("unicode/utf8.acceptRanges", laid_unicode_utf8_acceptRanges), ("unicode/utf8.first", laid_unicode_utf8_first)] }
def SaveDiffersSaid : Prop := saveDiffersRow.holds Tryz.pinned (OpenSpec.ofChange saveDiffersSpec)

/-- ITS FALSE NEIGHBOUR: 'it returns false'. Refute it at one input. -/
def saveDiffersWrong : ChangeSpec := { name := "saveDiffers", fn := fun _ => fun
  | [d1, d2] => { results := [.lit (.bool false)], args := [d1, d2] }
  | _ => none }
def SaveDiffersWrongFalsely : Prop := saveDiffersRow.holds Tryz.pinned (OpenSpec.ofChange saveDiffersWrong)

/-- 'midrangelaw34.SaveReads': WHATEVER THE INPUT: true; the input reads as it did. -/
def saveReadsSpec : ChangeSpec := { name := "saveReads", fn := fun _ => fun
  | [d] => { results := [.lit (.bool true)], args := [d] }
  | _ => none }
def saveReadsRow : OpenClaim := { program := "ytobgkcamonlnkaagreatdoor", sum := "f9781ce895c922bde413745b95d1d6267eabdd5a6fd810ba8e407c5ae128dc0b", func := "midrange/midrangelaw34.SaveReads", spec := "saveReads", inPlace := ["internal/abi.NoEscape", "internal/bytealg.MakeNoZero", "internal/bytealg.IndexByteString", "internal/bytealg.IndexString"], unfollowed := true, recurses := true, named := ["unicode/utf8.first", "unicode/utf8.acceptRanges", "internal/bytealg.MaxLen"], apart := false, laid := [("unicode/utf8.acceptRanges", laid_unicode_utf8_acceptRanges), ("unicode/utf8.first", laid_unicode_utf8_first)] }
def SaveReadsSaid : Prop := saveReadsRow.holds Tryz.pinned (OpenSpec.ofChange saveReadsSpec)

/-- ITS FALSE NEIGHBOUR: 'it returns false'. Refute it at one input. -/
def saveReadsWrong : ChangeSpec := { name := "saveReads", fn := fun _ => fun
  | [d] => { results := [.lit (.bool false)], args := [d] }
  | _ => none }
def SaveReadsWrongFalsely : Prop := saveReadsRow.holds Tryz.pinned (OpenSpec.ofChange saveReadsWrong)

/-- 'midrangelaw34.SaveChecks': WHATEVER THE INPUT: true; the input reads as it did. -/
def saveChecksSpec : ChangeSpec := { name := "saveChecks", fn := fun _ => fun
  | [d] => { results := [.lit (.bool true)], args := [d] }
  | _ => none }
def saveChecksRow : OpenClaim := { program := "ytobgkcamonlnkaagreatdoor", sum := "f9781ce895c922bde413745b95d1d6267eabdd5a6fd810ba8e407c5ae128dc0b", func := "midrange/midrangelaw34.SaveChecks", spec := "saveChecks", inPlace := ["internal/abi.NoEscape", "internal/bytealg.MakeNoZero", "internal/bytealg.IndexByteString", "internal/bytealg.IndexString"], unfollowed := true, recurses := true, named := ["unicode/utf8.first", "unicode/utf8.acceptRanges", "internal/bytealg.MaxLen"], apart := false, laid := [("unicode/utf8.acceptRanges", laid_unicode_utf8_acceptRanges), ("unicode/utf8.first", laid_unicode_utf8_first)] }
def SaveChecksSaid : Prop := saveChecksRow.holds Tryz.pinned (OpenSpec.ofChange saveChecksSpec)

/-- ITS FALSE NEIGHBOUR: 'it returns false'. Refute it at one input. -/
def saveChecksWrong : ChangeSpec := { name := "saveChecks", fn := fun _ => fun
  | [d] => { results := [.lit (.bool false)], args := [d] }
  | _ => none }
def SaveChecksWrongFalsely : Prop := saveChecksRow.holds Tryz.pinned (OpenSpec.ofChange saveChecksWrong)

/-- 'midrangelaw34.SaveBack': WHATEVER THE INPUT: true; the input reads as it did. -/
def saveBackSpec : ChangeSpec := { name := "saveBack", fn := fun _ => fun
  | [d1, d2, d3] => { results := [.lit (.bool true)], args := [d1, d2, d3] }
  | _ => none }
def saveBackRow : OpenClaim := { program := "ytobgkcamonlnkaagreatdoor", sum := "f9781ce895c922bde413745b95d1d6267eabdd5a6fd810ba8e407c5ae128dc0b", func := "midrange/midrangelaw34.SaveBack", spec := "saveBack", inPlace := ["internal/abi.NoEscape", "internal/bytealg.MakeNoZero", "internal/bytealg.IndexByteString", "internal/bytealg.IndexString"], unfollowed := true, recurses := true, named := ["unicode/utf8.first", "unicode/utf8.acceptRanges", "internal/bytealg.MaxLen"], apart := false, laid := [("unicode/utf8.acceptRanges", laid_unicode_utf8_acceptRanges), ("unicode/utf8.first", laid_unicode_utf8_first)] }
def SaveBackSaid : Prop := saveBackRow.holds Tryz.pinned (OpenSpec.ofChange saveBackSpec)

/-- ITS FALSE NEIGHBOUR: 'it returns false'. Refute it at one input. -/
def saveBackWrong : ChangeSpec := { name := "saveBack", fn := fun _ => fun
  | [d1, d2, d3] => { results := [.lit (.bool false)], args := [d1, d2, d3] }
  | _ => none }
def SaveBackWrongFalsely : Prop := saveBackRow.holds Tryz.pinned (OpenSpec.ofChange saveBackWrong)

/-- 'midrangelaw34.SaveHonest': WHATEVER THE INPUT: true; the input reads as it did. -/
def saveHonestSpec : ChangeSpec := { name := "saveHonest", fn := fun _ => fun
  | [d1, d2, d3] => { results := [.lit (.bool true)], args := [d1, d2, d3] }
  | _ => none }
def saveHonestRow : OpenClaim := { program := "ytobgkcamonlnkaagreatdoor", sum := "f9781ce895c922bde413745b95d1d6267eabdd5a6fd810ba8e407c5ae128dc0b", func := "midrange/midrangelaw34.SaveHonest", spec := "saveHonest", inPlace := ["internal/abi.NoEscape", "internal/bytealg.MakeNoZero", "internal/bytealg.IndexByteString", "internal/bytealg.IndexString"], unfollowed := true, recurses := true, named := ["unicode/utf8.first", "unicode/utf8.acceptRanges", "internal/bytealg.MaxLen"], apart := false, laid := [("unicode/utf8.acceptRanges", laid_unicode_utf8_acceptRanges), ("unicode/utf8.first", laid_unicode_utf8_first)] }
def SaveHonestSaid : Prop := saveHonestRow.holds Tryz.pinned (OpenSpec.ofChange saveHonestSpec)

/-- ITS FALSE NEIGHBOUR: 'it returns false'. Refute it at one input. -/
def saveHonestWrong : ChangeSpec := { name := "saveHonest", fn := fun _ => fun
  | [d1, d2, d3] => { results := [.lit (.bool false)], args := [d1, d2, d3] }
  | _ => none }
def SaveHonestWrongFalsely : Prop := saveHonestRow.holds Tryz.pinned (OpenSpec.ofChange saveHonestWrong)

/-- 'midrangelaw34.SaveOver': WHATEVER THE INPUT: true; the input reads as it did. -/
def saveOverSpec : ChangeSpec := { name := "saveOver", fn := fun _ => fun
  | [d1, d2, d3] => { results := [.lit (.bool true)], args := [d1, d2, d3] }
  | _ => none }
def saveOverRow : OpenClaim := { program := "ytobgkcamonlnkaagreatdoor", sum := "f9781ce895c922bde413745b95d1d6267eabdd5a6fd810ba8e407c5ae128dc0b", func := "midrange/midrangelaw34.SaveOver", spec := "saveOver", inPlace := ["internal/abi.NoEscape", "internal/bytealg.MakeNoZero", "internal/bytealg.IndexByteString", "internal/bytealg.IndexString"], unfollowed := true, recurses := true, named := ["unicode/utf8.first", "unicode/utf8.acceptRanges", "internal/bytealg.MaxLen"], apart := false, laid := [("unicode/utf8.acceptRanges", laid_unicode_utf8_acceptRanges), ("unicode/utf8.first", laid_unicode_utf8_first)] }
def SaveOverSaid : Prop := saveOverRow.holds Tryz.pinned (OpenSpec.ofChange saveOverSpec)

/-- ITS FALSE NEIGHBOUR: 'it returns false'. Refute it at one input. -/
def saveOverWrong : ChangeSpec := { name := "saveOver", fn := fun _ => fun
  | [d1, d2, d3] => { results := [.lit (.bool false)], args := [d1, d2, d3] }
  | _ => none }
def SaveOverWrongFalsely : Prop := saveOverRow.holds Tryz.pinned (OpenSpec.ofChange saveOverWrong)

/-- 'midrangelaw34.SaveRestores': WHATEVER THE INPUT: true; the input reads as it did. -/
def saveRestoresSpec : ChangeSpec := { name := "saveRestores", fn := fun _ => fun
  | [d1, d2] => { results := [.lit (.bool true)], args := [d1, d2] }
  | _ => none }
def saveRestoresRow : OpenClaim := { program := "ytobgkcamonlnkaagreatdoor", sum := "f9781ce895c922bde413745b95d1d6267eabdd5a6fd810ba8e407c5ae128dc0b", func := "midrange/midrangelaw34.SaveRestores", spec := "saveRestores", inPlace := ["internal/abi.NoEscape", "internal/bytealg.MakeNoZero", "internal/bytealg.IndexByteString", "internal/bytealg.IndexString"], unfollowed := true, recurses := true, named := ["unicode/utf8.first", "unicode/utf8.acceptRanges", "internal/bytealg.MaxLen"], apart := false, laid := [("unicode/utf8.acceptRanges", laid_unicode_utf8_acceptRanges), ("unicode/utf8.first", laid_unicode_utf8_first)] }
def SaveRestoresSaid : Prop := saveRestoresRow.holds Tryz.pinned (OpenSpec.ofChange saveRestoresSpec)

/-- ITS FALSE NEIGHBOUR: 'it returns false'. Refute it at one input. -/
def saveRestoresWrong : ChangeSpec := { name := "saveRestores", fn := fun _ => fun
  | [d1, d2] => { results := [.lit (.bool false)], args := [d1, d2] }
  | _ => none }
def SaveRestoresWrongFalsely : Prop := saveRestoresRow.holds Tryz.pinned (OpenSpec.ofChange saveRestoresWrong)

/- THE SECOND FORM. 'bulk': how many values and letters a reading holds, each counted each time it is reached (what is shared counts as often as it is met; a slice's spare places count too). A statement '..UptoSaid' is the law's where the arguments, and the package variables that the reading takes, are together of bulk at most 1048576: NARROWER than '..Said'. Prove '..Said' where nothing that the law and all that it calls make is longer than what came in: it says more and counts as full. Else prove '..UptoSaid'. A law counts once. -/
mutual
def uptoBulk {H : Type} : DataW H → Nat
  | .lit (.string bytes) => bytes.length + 1
  | .lit _ => 1
  | .nil => 1
  | .ptr d => uptoBulk d + 1
  | .slice elems spare => uptoBulkAll elems + uptoBulkAll spare + 1
  | .agg parts => uptoBulkAll parts + 1
  | .iface _ d => uptoBulk d + 1
  | .map entries => uptoBulkEntries entries + 1
  | .held _ => 1
def uptoBulkAll {H : Type} : List (DataW H) → Nat
  | [] => 0
  | d :: r => uptoBulk d + uptoBulkAll r
def uptoBulkEntries {H : Type} : List (Lit × DataW H) → Nat
  | [] => 0
  | x :: r => uptoBulkEntry x + uptoBulkEntries r
def uptoBulkEntry {H : Type} : Lit × DataW H → Nat
  | (.string bytes, d) => bytes.length + uptoBulk d + 1
  | (_, d) => uptoBulk d + 1
 end
def uptoSmall : (H : Type) → List (DataW H) → Bool := fun _ ds => decide (uptoBulkAll ds ≤ 1048576)
def OpenSpec.upto (s : _root_.Go.ChangeSpec) : _root_.Go.OpenSpec := { _root_.Go.OpenSpec.ofChange s with cond := some uptoSmall }

/-- 'midrangelaw34.SaveStreams', WHERE WHAT IT READS IS OF BULK AT MOST 1048576: true; the input reads as it did. -/
def saveStreamsUptoRow : OpenClaim := { program := "ytobgkcamonlnkaagreatdoor", sum := "f9781ce895c922bde413745b95d1d6267eabdd5a6fd810ba8e407c5ae128dc0b", func := "midrange/midrangelaw34.SaveStreams", spec := "saveStreams", inPlace := ["internal/abi.NoEscape", "internal/bytealg.MakeNoZero", "internal/bytealg.IndexByteString", "internal/bytealg.IndexString"], unfollowed := true, recurses := true, named := ["unicode/utf8.first", "unicode/utf8.acceptRanges", "internal/bytealg.MaxLen"], apart := false, laid := [("unicode/utf8.acceptRanges", laid_unicode_utf8_acceptRanges), ("unicode/utf8.first", laid_unicode_utf8_first)], narrowed := true }
def SaveStreamsUptoSaid : Prop := saveStreamsUptoRow.holds Tryz.pinned (OpenSpec.upto saveStreamsSpec)

/-- 'midrangelaw34.SaveVolumes', WHERE WHAT IT READS IS OF BULK AT MOST 1048576: true; the input reads as it did. -/
def saveVolumesUptoRow : OpenClaim := { program := "ytobgkcamonlnkaagreatdoor", sum := "f9781ce895c922bde413745b95d1d6267eabdd5a6fd810ba8e407c5ae128dc0b", func := "midrange/midrangelaw34.SaveVolumes", spec := "saveVolumes", inPlace := ["internal/abi.NoEscape", "internal/bytealg.MakeNoZero", "internal/bytealg.IndexByteString", "internal/bytealg.IndexString"], unfollowed := true, recurses := true, named := ["unicode/utf8.first", "unicode/utf8.acceptRanges", "internal/bytealg.MaxLen"], apart := false, laid := [("unicode/utf8.acceptRanges", laid_unicode_utf8_acceptRanges), ("unicode/utf8.first", laid_unicode_utf8_first)], narrowed := true }
def SaveVolumesUptoSaid : Prop := saveVolumesUptoRow.holds Tryz.pinned (OpenSpec.upto saveVolumesSpec)

/-- 'midrangelaw34.SaveLevels', WHERE WHAT IT READS IS OF BULK AT MOST 1048576: true; the input reads as it did. -/
def saveLevelsUptoRow : OpenClaim := { program := "ytobgkcamonlnkaagreatdoor", sum := "f9781ce895c922bde413745b95d1d6267eabdd5a6fd810ba8e407c5ae128dc0b", func := "midrange/midrangelaw34.SaveLevels", spec := "saveLevels", inPlace := ["internal/abi.NoEscape", "internal/bytealg.MakeNoZero", "internal/bytealg.IndexByteString", "internal/bytealg.IndexString"], unfollowed := true, recurses := true, named := ["unicode/utf8.first", "unicode/utf8.acceptRanges", "internal/bytealg.MaxLen"], apart := false, laid := [("unicode/utf8.acceptRanges", laid_unicode_utf8_acceptRanges), ("unicode/utf8.first", laid_unicode_utf8_first)], narrowed := true }
def SaveLevelsUptoSaid : Prop := saveLevelsUptoRow.holds Tryz.pinned (OpenSpec.upto saveLevelsSpec)

/-- 'midrangelaw34.SaveDiffers', WHERE WHAT IT READS IS OF BULK AT MOST 1048576: true; the input reads as it did. -/
def saveDiffersUptoRow : OpenClaim := { program := "ytobgkcamonlnkaagreatdoor", sum := "f9781ce895c922bde413745b95d1d6267eabdd5a6fd810ba8e407c5ae128dc0b", func := "midrange/midrangelaw34.SaveDiffers", spec := "saveDiffers", inPlace := ["internal/abi.NoEscape", "internal/bytealg.MakeNoZero", "internal/bytealg.IndexByteString", "internal/bytealg.IndexString"], unfollowed := true, recurses := true, named := ["unicode/utf8.first", "unicode/utf8.acceptRanges", "internal/bytealg.MaxLen"], apart := false, laid := [("unicode/utf8.acceptRanges", laid_unicode_utf8_acceptRanges), ("unicode/utf8.first", laid_unicode_utf8_first)], narrowed := true }
def SaveDiffersUptoSaid : Prop := saveDiffersUptoRow.holds Tryz.pinned (OpenSpec.upto saveDiffersSpec)

/-- 'midrangelaw34.SaveReads', WHERE WHAT IT READS IS OF BULK AT MOST 1048576: true; the input reads as it did. -/
def saveReadsUptoRow : OpenClaim := { program := "ytobgkcamonlnkaagreatdoor", sum := "f9781ce895c922bde413745b95d1d6267eabdd5a6fd810ba8e407c5ae128dc0b", func := "midrange/midrangelaw34.SaveReads", spec := "saveReads", inPlace := ["internal/abi.NoEscape", "internal/bytealg.MakeNoZero", "internal/bytealg.IndexByteString", "internal/bytealg.IndexString"], unfollowed := true, recurses := true, named := ["unicode/utf8.first", "unicode/utf8.acceptRanges", "internal/bytealg.MaxLen"], apart := false, laid := [("unicode/utf8.acceptRanges", laid_unicode_utf8_acceptRanges), ("unicode/utf8.first", laid_unicode_utf8_first)], narrowed := true }
def SaveReadsUptoSaid : Prop := saveReadsUptoRow.holds Tryz.pinned (OpenSpec.upto saveReadsSpec)

/-- 'midrangelaw34.SaveChecks', WHERE WHAT IT READS IS OF BULK AT MOST 1048576: true; the input reads as it did. -/
def saveChecksUptoRow : OpenClaim := { program := "ytobgkcamonlnkaagreatdoor", sum := "f9781ce895c922bde413745b95d1d6267eabdd5a6fd810ba8e407c5ae128dc0b", func := "midrange/midrangelaw34.SaveChecks", spec := "saveChecks", inPlace := ["internal/abi.NoEscape", "internal/bytealg.MakeNoZero", "internal/bytealg.IndexByteString", "internal/bytealg.IndexString"], unfollowed := true, recurses := true, named := ["unicode/utf8.first", "unicode/utf8.acceptRanges", "internal/bytealg.MaxLen"], apart := false, laid := [("unicode/utf8.acceptRanges", laid_unicode_utf8_acceptRanges), ("unicode/utf8.first", laid_unicode_utf8_first)], narrowed := true }
def SaveChecksUptoSaid : Prop := saveChecksUptoRow.holds Tryz.pinned (OpenSpec.upto saveChecksSpec)

/-- 'midrangelaw34.SaveBack', WHERE WHAT IT READS IS OF BULK AT MOST 1048576: true; the input reads as it did. -/
def saveBackUptoRow : OpenClaim := { program := "ytobgkcamonlnkaagreatdoor", sum := "f9781ce895c922bde413745b95d1d6267eabdd5a6fd810ba8e407c5ae128dc0b", func := "midrange/midrangelaw34.SaveBack", spec := "saveBack", inPlace := ["internal/abi.NoEscape", "internal/bytealg.MakeNoZero", "internal/bytealg.IndexByteString", "internal/bytealg.IndexString"], unfollowed := true, recurses := true, named := ["unicode/utf8.first", "unicode/utf8.acceptRanges", "internal/bytealg.MaxLen"], apart := false, laid := [("unicode/utf8.acceptRanges", laid_unicode_utf8_acceptRanges), ("unicode/utf8.first", laid_unicode_utf8_first)], narrowed := true }
def SaveBackUptoSaid : Prop := saveBackUptoRow.holds Tryz.pinned (OpenSpec.upto saveBackSpec)

/-- 'midrangelaw34.SaveHonest', WHERE WHAT IT READS IS OF BULK AT MOST 1048576: true; the input reads as it did. -/
def saveHonestUptoRow : OpenClaim := { program := "ytobgkcamonlnkaagreatdoor", sum := "f9781ce895c922bde413745b95d1d6267eabdd5a6fd810ba8e407c5ae128dc0b", func := "midrange/midrangelaw34.SaveHonest", spec := "saveHonest", inPlace := ["internal/abi.NoEscape", "internal/bytealg.MakeNoZero", "internal/bytealg.IndexByteString", "internal/bytealg.IndexString"], unfollowed := true, recurses := true, named := ["unicode/utf8.first", "unicode/utf8.acceptRanges", "internal/bytealg.MaxLen"], apart := false, laid := [("unicode/utf8.acceptRanges", laid_unicode_utf8_acceptRanges), ("unicode/utf8.first", laid_unicode_utf8_first)], narrowed := true }
def SaveHonestUptoSaid : Prop := saveHonestUptoRow.holds Tryz.pinned (OpenSpec.upto saveHonestSpec)

/-- 'midrangelaw34.SaveOver', WHERE WHAT IT READS IS OF BULK AT MOST 1048576: true; the input reads as it did. -/
def saveOverUptoRow : OpenClaim := { program := "ytobgkcamonlnkaagreatdoor", sum := "f9781ce895c922bde413745b95d1d6267eabdd5a6fd810ba8e407c5ae128dc0b", func := "midrange/midrangelaw34.SaveOver", spec := "saveOver", inPlace := ["internal/abi.NoEscape", "internal/bytealg.MakeNoZero", "internal/bytealg.IndexByteString", "internal/bytealg.IndexString"], unfollowed := true, recurses := true, named := ["unicode/utf8.first", "unicode/utf8.acceptRanges", "internal/bytealg.MaxLen"], apart := false, laid := [("unicode/utf8.acceptRanges", laid_unicode_utf8_acceptRanges), ("unicode/utf8.first", laid_unicode_utf8_first)], narrowed := true }
def SaveOverUptoSaid : Prop := saveOverUptoRow.holds Tryz.pinned (OpenSpec.upto saveOverSpec)

/-- 'midrangelaw34.SaveRestores', WHERE WHAT IT READS IS OF BULK AT MOST 1048576: true; the input reads as it did. -/
def saveRestoresUptoRow : OpenClaim := { program := "ytobgkcamonlnkaagreatdoor", sum := "f9781ce895c922bde413745b95d1d6267eabdd5a6fd810ba8e407c5ae128dc0b", func := "midrange/midrangelaw34.SaveRestores", spec := "saveRestores", inPlace := ["internal/abi.NoEscape", "internal/bytealg.MakeNoZero", "internal/bytealg.IndexByteString", "internal/bytealg.IndexString"], unfollowed := true, recurses := true, named := ["unicode/utf8.first", "unicode/utf8.acceptRanges", "internal/bytealg.MaxLen"], apart := false, laid := [("unicode/utf8.acceptRanges", laid_unicode_utf8_acceptRanges), ("unicode/utf8.first", laid_unicode_utf8_first)], narrowed := true }
def SaveRestoresUptoSaid : Prop := saveRestoresUptoRow.holds Tryz.pinned (OpenSpec.upto saveRestoresSpec)

end Rows
end Go.Proofs.YtobgkcamonlnkaaGreatDoor
