/-
  No cell of these rows narrows 'for every input' (looked for: loops, veiled, ifaces, maps, wideKeys, modest, calm, conditions, laid).
  DERIVED. THE GIVEN ROWS OF THIS SEAT. 10 by the template 'for every input the law returns true; each argument reads behind the call as it read before'; 0 by the template 'total and deterministic' (their statements: YtioagofpofamiaaTotals.lean).
  GIVEN WITH THE SEED: the statements are not yours to turn. If you find one false, say at which input.
  Laid BY PROGRAM, IN A SANDBOX (cutbox-rows.mjs): the forced cells as the released guide's own fill.sh prints them over the translation e17b3c518234831a… (all of the seat's roots in one cut). By AI agents, Wed Nov 11 2026. No macro, syntax, notation, axiom, sorry.
-/
import Derived.Test.YtioagofpofamiaaChecked
import GoSem.Claim
import GoSem.ClaimJoined
import GoSem.ClaimMapViews
import Derived.JoinedTies
import Derived.KernelRfl
namespace Go.Proofs.Ytioagofpofamiaa
/- THE CELL 'sum', in the pinned program and in every row, IS THE sha256 OF THE DUMP (.gsa) THAT YtioagofpofamiaaProg.lean LOADS. Nothing in Lean hashes anything: it is a label: what it is worth is what the hold of that sum in a sandbox is worth. -/
noncomputable def Try.pinned : Pinned := { name := "ytioagofpofamiaa", sum := "e17b3c518234831a9a521731b91ac7132f1539c00c55c8d954d3c03288030c85", checked := Try.checked }
namespace Rows
def none {H : Type} : Left H := { results := [], args := [] }

/-- 'midrangelaw01.NumericEncodes': WHATEVER THE INPUT: true; the input reads as it did. -/
def numericEncodesSpec : ChangeSpec := { name := "numericEncodes", fn := fun _ => fun
  | [d1, d2] => { results := [.lit (.bool true)], args := [d1, d2] }
  | _ => none }
def numericEncodesRow : OpenClaim := { program := "ytioagofpofamiaa", sum := "e17b3c518234831a9a521731b91ac7132f1539c00c55c8d954d3c03288030c85", func := "midrange/midrangelaw01.NumericEncodes", spec := "numericEncodes", apart := false }
def NumericEncodesSaid : Prop := numericEncodesRow.holds Try.pinned (OpenSpec.ofChange numericEncodesSpec)

/-- ITS FALSE NEIGHBOUR: 'it returns false'. Refute it at one input. -/
def numericEncodesWrong : ChangeSpec := { name := "numericEncodes", fn := fun _ => fun
  | [d1, d2] => { results := [.lit (.bool false)], args := [d1, d2] }
  | _ => none }
def NumericEncodesWrongFalsely : Prop := numericEncodesRow.holds Try.pinned (OpenSpec.ofChange numericEncodesWrong)

/-- 'midrangelaw01.NumericDecodes': WHATEVER THE INPUT: true; the input reads as it did. -/
def numericDecodesSpec : ChangeSpec := { name := "numericDecodes", fn := fun _ => fun
  | [d1, d2] => { results := [.lit (.bool true)], args := [d1, d2] }
  | _ => none }
def numericDecodesRow : OpenClaim := { program := "ytioagofpofamiaa", sum := "e17b3c518234831a9a521731b91ac7132f1539c00c55c8d954d3c03288030c85", func := "midrange/midrangelaw01.NumericDecodes", spec := "numericDecodes", apart := false }
def NumericDecodesSaid : Prop := numericDecodesRow.holds Try.pinned (OpenSpec.ofChange numericDecodesSpec)

/-- ITS FALSE NEIGHBOUR: 'it returns false'. Refute it at one input. -/
def numericDecodesWrong : ChangeSpec := { name := "numericDecodes", fn := fun _ => fun
  | [d1, d2] => { results := [.lit (.bool false)], args := [d1, d2] }
  | _ => none }
def NumericDecodesWrongFalsely : Prop := numericDecodesRow.holds Try.pinned (OpenSpec.ofChange numericDecodesWrong)

/-- 'midrangelaw01.NumericConverts': WHATEVER THE INPUT: true; the input reads as it did. -/
def numericConvertsSpec : ChangeSpec := { name := "numericConverts", fn := fun _ => fun
  | [d1, d2, d3] => { results := [.lit (.bool true)], args := [d1, d2, d3] }
  | _ => none }
def numericConvertsRow : OpenClaim := { program := "ytioagofpofamiaa", sum := "e17b3c518234831a9a521731b91ac7132f1539c00c55c8d954d3c03288030c85", func := "midrange/midrangelaw01.NumericConverts", spec := "numericConverts", inPlace := ["math/bits.Add64", "math/bits.Sub64"], apart := false }
def NumericConvertsSaid : Prop := numericConvertsRow.holds Try.pinned (OpenSpec.ofChange numericConvertsSpec)

/-- ITS FALSE NEIGHBOUR: 'it returns false'. Refute it at one input. -/
def numericConvertsWrong : ChangeSpec := { name := "numericConverts", fn := fun _ => fun
  | [d1, d2, d3] => { results := [.lit (.bool false)], args := [d1, d2, d3] }
  | _ => none }
def NumericConvertsWrongFalsely : Prop := numericConvertsRow.holds Try.pinned (OpenSpec.ofChange numericConvertsWrong)

/-- 'midrangelaw01.NumericNear': WHATEVER THE INPUT: true; the input reads as it did. -/
def numericNearSpec : ChangeSpec := { name := "numericNear", fn := fun _ => fun
  | [d1, d2] => { results := [.lit (.bool true)], args := [d1, d2] }
  | _ => none }
def numericNearRow : OpenClaim := { program := "ytioagofpofamiaa", sum := "e17b3c518234831a9a521731b91ac7132f1539c00c55c8d954d3c03288030c85", func := "midrange/midrangelaw01.NumericNear", spec := "numericNear", inPlace := ["math/bits.Add64", "math/bits.Sub64"], apart := false }
def NumericNearSaid : Prop := numericNearRow.holds Try.pinned (OpenSpec.ofChange numericNearSpec)

/-- ITS FALSE NEIGHBOUR: 'it returns false'. Refute it at one input. -/
def numericNearWrong : ChangeSpec := { name := "numericNear", fn := fun _ => fun
  | [d1, d2] => { results := [.lit (.bool false)], args := [d1, d2] }
  | _ => none }
def NumericNearWrongFalsely : Prop := numericNearRow.holds Try.pinned (OpenSpec.ofChange numericNearWrong)

/-- 'midrangelaw01.NumericOrders': WHATEVER THE INPUT: true; the input reads as it did. -/
def numericOrdersSpec : ChangeSpec := { name := "numericOrders", fn := fun _ => fun
  | [d1, d2, d3] => { results := [.lit (.bool true)], args := [d1, d2, d3] }
  | _ => none }
def numericOrdersRow : OpenClaim := { program := "ytioagofpofamiaa", sum := "e17b3c518234831a9a521731b91ac7132f1539c00c55c8d954d3c03288030c85", func := "midrange/midrangelaw01.NumericOrders", spec := "numericOrders", inPlace := ["math/bits.Add64", "math/bits.Sub64"], apart := false }
def NumericOrdersSaid : Prop := numericOrdersRow.holds Try.pinned (OpenSpec.ofChange numericOrdersSpec)

/-- ITS FALSE NEIGHBOUR: 'it returns false'. Refute it at one input. -/
def numericOrdersWrong : ChangeSpec := { name := "numericOrders", fn := fun _ => fun
  | [d1, d2, d3] => { results := [.lit (.bool false)], args := [d1, d2, d3] }
  | _ => none }
def NumericOrdersWrongFalsely : Prop := numericOrdersRow.holds Try.pinned (OpenSpec.ofChange numericOrdersWrong)

/-- 'midrangelaw01.NumericCalculates': WHATEVER THE INPUT: true; the input reads as it did. -/
def numericCalculatesSpec : ChangeSpec := { name := "numericCalculates", fn := fun _ => fun
  | [d1, d2] => { results := [.lit (.bool true)], args := [d1, d2] }
  | _ => none }
def numericCalculatesRow : OpenClaim := { program := "ytioagofpofamiaa", sum := "e17b3c518234831a9a521731b91ac7132f1539c00c55c8d954d3c03288030c85", func := "midrange/midrangelaw01.NumericCalculates", spec := "numericCalculates", inPlace := ["math/bits.Add64", "math/bits.Sub64"], apart := false }
def NumericCalculatesSaid : Prop := numericCalculatesRow.holds Try.pinned (OpenSpec.ofChange numericCalculatesSpec)

/-- ITS FALSE NEIGHBOUR: 'it returns false'. Refute it at one input. -/
def numericCalculatesWrong : ChangeSpec := { name := "numericCalculates", fn := fun _ => fun
  | [d1, d2] => { results := [.lit (.bool false)], args := [d1, d2] }
  | _ => none }
def NumericCalculatesWrongFalsely : Prop := numericCalculatesRow.holds Try.pinned (OpenSpec.ofChange numericCalculatesWrong)

/-- 'midrangelaw01.NumericTypes': WHATEVER THE INPUT: true; the input reads as it did. -/
def numericTypesSpec : ChangeSpec := { name := "numericTypes", fn := fun _ => fun
  | [d1, d2] => { results := [.lit (.bool true)], args := [d1, d2] }
  | _ => none }
def numericTypesRow : OpenClaim := { program := "ytioagofpofamiaa", sum := "e17b3c518234831a9a521731b91ac7132f1539c00c55c8d954d3c03288030c85", func := "midrange/midrangelaw01.NumericTypes", spec := "numericTypes", inPlace := ["internal/abi.NoEscape", "internal/bytealg.MakeNoZero"], apart := false }
def NumericTypesSaid : Prop := numericTypesRow.holds Try.pinned (OpenSpec.ofChange numericTypesSpec)

/-- ITS FALSE NEIGHBOUR: 'it returns false'. Refute it at one input. -/
def numericTypesWrong : ChangeSpec := { name := "numericTypes", fn := fun _ => fun
  | [d1, d2] => { results := [.lit (.bool false)], args := [d1, d2] }
  | _ => none }
def NumericTypesWrongFalsely : Prop := numericTypesRow.holds Try.pinned (OpenSpec.ofChange numericTypesWrong)

/-- 'midrangelaw01.NumericLaws': WHATEVER THE INPUT: true; the input reads as it did. -/
def numericLawsSpec : ChangeSpec := { name := "numericLaws", fn := fun _ => fun
  | [d] => { results := [.lit (.bool true)], args := [d] }
  | _ => none }
def numericLawsRow : OpenClaim := { program := "ytioagofpofamiaa", sum := "e17b3c518234831a9a521731b91ac7132f1539c00c55c8d954d3c03288030c85", func := "midrange/midrangelaw01.NumericLaws", spec := "numericLaws", inPlace := ["math/bits.Add64", "math/bits.Sub64"], apart := false }
def NumericLawsSaid : Prop := numericLawsRow.holds Try.pinned (OpenSpec.ofChange numericLawsSpec)

/-- ITS FALSE NEIGHBOUR: 'it returns false'. Refute it at one input. -/
def numericLawsWrong : ChangeSpec := { name := "numericLaws", fn := fun _ => fun
  | [d] => { results := [.lit (.bool false)], args := [d] }
  | _ => none }
def NumericLawsWrongFalsely : Prop := numericLawsRow.holds Try.pinned (OpenSpec.ofChange numericLawsWrong)

/-- 'midrangelaw01.NumericBytes': WHATEVER THE INPUT: true; the input reads as it did. -/
def numericBytesSpec : ChangeSpec := { name := "numericBytes", fn := fun _ => fun
  | [d1, d2, d3] => { results := [.lit (.bool true)], args := [d1, d2, d3] }
  | _ => none }
def numericBytesRow : OpenClaim := { program := "ytioagofpofamiaa", sum := "e17b3c518234831a9a521731b91ac7132f1539c00c55c8d954d3c03288030c85", func := "midrange/midrangelaw01.NumericBytes", spec := "numericBytes", inPlace := ["math/bits.Add64", "math/bits.Sub64"], apart := false }
def NumericBytesSaid : Prop := numericBytesRow.holds Try.pinned (OpenSpec.ofChange numericBytesSpec)

/-- ITS FALSE NEIGHBOUR: 'it returns false'. Refute it at one input. -/
def numericBytesWrong : ChangeSpec := { name := "numericBytes", fn := fun _ => fun
  | [d1, d2, d3] => { results := [.lit (.bool false)], args := [d1, d2, d3] }
  | _ => none }
def NumericBytesWrongFalsely : Prop := numericBytesRow.holds Try.pinned (OpenSpec.ofChange numericBytesWrong)

/-- 'midrangelaw01.NumericCopies': WHATEVER THE INPUT: true; the input reads as it did. -/
def numericCopiesSpec : ChangeSpec := { name := "numericCopies", fn := fun _ => fun
  | [d1, d2, d3] => { results := [.lit (.bool true)], args := [d1, d2, d3] }
  | _ => none }
def numericCopiesRow : OpenClaim := { program := "ytioagofpofamiaa", sum := "e17b3c518234831a9a521731b91ac7132f1539c00c55c8d954d3c03288030c85", func := "midrange/midrangelaw01.NumericCopies", spec := "numericCopies", inPlace := ["internal/abi.NoEscape", "internal/bytealg.MakeNoZero", "math/bits.Add64", "math/bits.Sub64"], apart := false }
def NumericCopiesSaid : Prop := numericCopiesRow.holds Try.pinned (OpenSpec.ofChange numericCopiesSpec)

/-- ITS FALSE NEIGHBOUR: 'it returns false'. Refute it at one input. -/
def numericCopiesWrong : ChangeSpec := { name := "numericCopies", fn := fun _ => fun
  | [d1, d2, d3] => { results := [.lit (.bool false)], args := [d1, d2, d3] }
  | _ => none }
def NumericCopiesWrongFalsely : Prop := numericCopiesRow.holds Try.pinned (OpenSpec.ofChange numericCopiesWrong)

/- THE SECOND FORM. 'bulk': how many values and letters a reading holds, each counted each time it is reached (what is shared counts as often as it is met; a slice's spare places count too). A statement '..UptoSaid' is the law's where the arguments, and the package variables that the reading takes, are together of bulk at most 1048576: NARROWER than '..Said'. Prove '..Said' where nothing that the law and all that it calls make is longer than what came in: it says more and counts as full. Else prove '..UptoSaid'. A law counts once. -/
mutual
def uptoBulk {H : Type} : DataW H → Nat
  | .lit (.string bytes) => bytes.length + 1
  | .lit _ => 1
  | .nil => 1
  | .ptr d => uptoBulk d + 1
  | .slice elems spare => uptoBulkAll elems + uptoBulkAll spare + 1
  | .agg parts => uptoBulkAll parts + 1
  | .iface _ d => uptoBulk d + 1
  | .map entries => uptoBulkEntries entries + 1
  | .held _ => 1
def uptoBulkAll {H : Type} : List (DataW H) → Nat
  | [] => 0
  | d :: r => uptoBulk d + uptoBulkAll r
def uptoBulkEntries {H : Type} : List (Lit × DataW H) → Nat
  | [] => 0
  | x :: r => uptoBulkEntry x + uptoBulkEntries r
def uptoBulkEntry {H : Type} : Lit × DataW H → Nat
  | (.string bytes, d) => bytes.length + uptoBulk d + 1
  | (_, d) => uptoBulk d + 1
 end
def uptoSmall : (H : Type) → List (DataW H) → Bool := fun _ ds => decide (uptoBulkAll ds ≤ 1048576)
def OpenSpec.upto (s : _root_.Go.ChangeSpec) : _root_.Go.OpenSpec := { _root_.Go.OpenSpec.ofChange s with cond := some uptoSmall }

/-- 'midrangelaw01.NumericEncodes', WHERE WHAT IT READS IS OF BULK AT MOST 1048576: true; the input reads as it did. -/
def numericEncodesUptoRow : OpenClaim := { program := "ytioagofpofamiaa", sum := "e17b3c518234831a9a521731b91ac7132f1539c00c55c8d954d3c03288030c85", func := "midrange/midrangelaw01.NumericEncodes", spec := "numericEncodes", apart := false, narrowed := true }
def NumericEncodesUptoSaid : Prop := numericEncodesUptoRow.holds Try.pinned (OpenSpec.upto numericEncodesSpec)

/-- 'midrangelaw01.NumericDecodes', WHERE WHAT IT READS IS OF BULK AT MOST 1048576: true; the input reads as it did. -/
def numericDecodesUptoRow : OpenClaim := { program := "ytioagofpofamiaa", sum := "e17b3c518234831a9a521731b91ac7132f1539c00c55c8d954d3c03288030c85", func := "midrange/midrangelaw01.NumericDecodes", spec := "numericDecodes", apart := false, narrowed := true }
def NumericDecodesUptoSaid : Prop := numericDecodesUptoRow.holds Try.pinned (OpenSpec.upto numericDecodesSpec)

/-- 'midrangelaw01.NumericConverts', WHERE WHAT IT READS IS OF BULK AT MOST 1048576: true; the input reads as it did. -/
def numericConvertsUptoRow : OpenClaim := { program := "ytioagofpofamiaa", sum := "e17b3c518234831a9a521731b91ac7132f1539c00c55c8d954d3c03288030c85", func := "midrange/midrangelaw01.NumericConverts", spec := "numericConverts", inPlace := ["math/bits.Add64", "math/bits.Sub64"], apart := false, narrowed := true }
def NumericConvertsUptoSaid : Prop := numericConvertsUptoRow.holds Try.pinned (OpenSpec.upto numericConvertsSpec)

/-- 'midrangelaw01.NumericNear', WHERE WHAT IT READS IS OF BULK AT MOST 1048576: true; the input reads as it did. -/
def numericNearUptoRow : OpenClaim := { program := "ytioagofpofamiaa", sum := "e17b3c518234831a9a521731b91ac7132f1539c00c55c8d954d3c03288030c85", func := "midrange/midrangelaw01.NumericNear", spec := "numericNear", inPlace := ["math/bits.Add64", "math/bits.Sub64"], apart := false, narrowed := true }
def NumericNearUptoSaid : Prop := numericNearUptoRow.holds Try.pinned (OpenSpec.upto numericNearSpec)

/-- 'midrangelaw01.NumericOrders', WHERE WHAT IT READS IS OF BULK AT MOST 1048576: true; the input reads as it did. -/
def numericOrdersUptoRow : OpenClaim := { program := "ytioagofpofamiaa", sum := "e17b3c518234831a9a521731b91ac7132f1539c00c55c8d954d3c03288030c85", func := "midrange/midrangelaw01.NumericOrders", spec := "numericOrders", inPlace := ["math/bits.Add64", "math/bits.Sub64"], apart := false, narrowed := true }
def NumericOrdersUptoSaid : Prop := numericOrdersUptoRow.holds Try.pinned (OpenSpec.upto numericOrdersSpec)

/-- 'midrangelaw01.NumericCalculates', WHERE WHAT IT READS IS OF BULK AT MOST 1048576: true; the input reads as it did. -/
def numericCalculatesUptoRow : OpenClaim := { program := "ytioagofpofamiaa", sum := "e17b3c518234831a9a521731b91ac7132f1539c00c55c8d954d3c03288030c85", func := "midrange/midrangelaw01.NumericCalculates", spec := "numericCalculates", inPlace := ["math/bits.Add64", "math/bits.Sub64"], apart := false, narrowed := true }
def NumericCalculatesUptoSaid : Prop := numericCalculatesUptoRow.holds Try.pinned (OpenSpec.upto numericCalculatesSpec)

/-- 'midrangelaw01.NumericTypes', WHERE WHAT IT READS IS OF BULK AT MOST 1048576: true; the input reads as it did. -/
def numericTypesUptoRow : OpenClaim := { program := "ytioagofpofamiaa", sum := "e17b3c518234831a9a521731b91ac7132f1539c00c55c8d954d3c03288030c85", func := "midrange/midrangelaw01.NumericTypes", spec := "numericTypes", inPlace := ["internal/abi.NoEscape", "internal/bytealg.MakeNoZero"], apart := false, narrowed := true }
def NumericTypesUptoSaid : Prop := numericTypesUptoRow.holds Try.pinned (OpenSpec.upto numericTypesSpec)

/-- 'midrangelaw01.NumericLaws', WHERE WHAT IT READS IS OF BULK AT MOST 1048576: true; the input reads as it did. -/
def numericLawsUptoRow : OpenClaim := { program := "ytioagofpofamiaa", sum := "e17b3c518234831a9a521731b91ac7132f1539c00c55c8d954d3c03288030c85", func := "midrange/midrangelaw01.NumericLaws", spec := "numericLaws", inPlace := ["math/bits.Add64", "math/bits.Sub64"], apart := false, narrowed := true }
def NumericLawsUptoSaid : Prop := numericLawsUptoRow.holds Try.pinned (OpenSpec.upto numericLawsSpec)

/-- 'midrangelaw01.NumericBytes', WHERE WHAT IT READS IS OF BULK AT MOST 1048576: true; the input reads as it did. -/
def numericBytesUptoRow : OpenClaim := { program := "ytioagofpofamiaa", sum := "e17b3c518234831a9a521731b91ac7132f1539c00c55c8d954d3c03288030c85", func := "midrange/midrangelaw01.NumericBytes", spec := "numericBytes", inPlace := ["math/bits.Add64", "math/bits.Sub64"], apart := false, narrowed := true }
def NumericBytesUptoSaid : Prop := numericBytesUptoRow.holds Try.pinned (OpenSpec.upto numericBytesSpec)

/-- 'midrangelaw01.NumericCopies', WHERE WHAT IT READS IS OF BULK AT MOST 1048576: true; the input reads as it did. -/
def numericCopiesUptoRow : OpenClaim := { program := "ytioagofpofamiaa", sum := "e17b3c518234831a9a521731b91ac7132f1539c00c55c8d954d3c03288030c85", func := "midrange/midrangelaw01.NumericCopies", spec := "numericCopies", inPlace := ["internal/abi.NoEscape", "internal/bytealg.MakeNoZero", "math/bits.Add64", "math/bits.Sub64"], apart := false, narrowed := true }
def NumericCopiesUptoSaid : Prop := numericCopiesUptoRow.holds Try.pinned (OpenSpec.upto numericCopiesSpec)

end Rows
end Go.Proofs.Ytioagofpofamiaa
