/- 'midrangelaw01.NumericCopies' is true whatever it is handed: the row, from the plain law. No conditions. -/
import Derived.Test.YtioagofpofamiaaAB
import Derived.Test.YtioagofpofamiaaPD
import Derived.Test.YtioagofpofamiaaRows
import Derived.Test.YtioagofpofamiaaChecked
set_option linter.unusedVariables false
namespace Go.Proofs.Ytioagofpofamiaa.numericCopies
open Go.Ab
theorem own : ownKnob Try.prog.godebug = none := by kernel_rfl
theorem law (x : argDen [.agg (.pair (.pair (.int .i64) (.pair (.int .i64) (.int .i64))) .str), .agg (.pair (.int .i64) (.pair (.int .i64) (.int .i64))), .dat .bool]) (h : ArgOk [.agg (.pair (.pair (.int .i64) (.pair (.int .i64) (.int .i64))) .str), .agg (.pair (.int .i64) (.pair (.int .i64) (.int .i64))), .dat .bool] x) : FnOk Try.prog 12 [.agg (.pair (.pair (.int .i64) (.pair (.int .i64) (.int .i64))) .str), .agg (.pair (.int .i64) (.pair (.int .i64) (.int .i64))), .dat .bool] [.dat .bool] x true := f12Ok 1000 x true (copiesLaw x)
set_option maxRecDepth 100000 in
theorem lifted (os : Os) (started : os.Started) (H : Type) (enc : TypeId × Value → H) :
    ReturnsInHanded {} Try.checked os 12 .any (Rows.numericCopiesSpec.pre6 enc Try.prog Try.f12 Rows.numericCopiesRow.domain false) (Rows.numericCopiesSpec.post enc Try.prog Try.f12 false true false false) := by
  refine returnsInHanded_of_change_sized (C := Try.checked) own started (by kernel_rfl) Try.func12
    (ChangeSpec.witness6 (enc := enc) (C := Try.checked) false ⟨#[], #[.agg #[.int .i64 0, .int .i64 0, .int .i64 0, .string ByteArray.empty], .agg #[.int .i64 0, .int .i64 0, .int .i64 0], .bool false], []⟩ 8 (by kernel_rfl) (by kernel_rfl) (by kernel_rfl) (by kernel_rfl)) ?_
  intro W base args ds gs before hval hW _ _ _
  refine law_contract (rt := 4) (by kernel_rfl) Try.underlying4 (by kernel_rfl) (by kernel_rfl) (by kernel_rfl) rfl ?_ law W base args ds gs before hval hW
  intro H ds hl
  match ds, hl with
  | [_, _, _], _ => rfl
theorem over : Rows.numericCopiesRow.holds Try.pinned (OpenSpec.ofChange Rows.numericCopiesSpec) :=
  OpenClaim.holds_of_wide 12 Try.f12 rfl rfl rfl rfl rfl rfl rfl ⟨rfl, rfl, rfl, rfl, rfl⟩ rfl rfl rfl rfl rfl (by kernel_rfl) Try.func12 (by kernel_rfl)
    (of_decide_eq_true (by kernel_rfl)) (by unfold Func.isWrapper; first | (rw [if_pos (by decide +kernel)]; kernel_rfl) | (rw [if_neg (by decide +kernel)]; exact ⟨rfl, rfl⟩))
    (fun os started H enc _ => lifted os started H enc)
end Go.Proofs.Ytioagofpofamiaa.numericCopies
namespace Go.Proofs.Ytioagofpofamiaa
/-- The row. -/
theorem numericCopies_holds : Rows.NumericCopiesSaid := numericCopies.over
end Go.Proofs.Ytioagofpofamiaa
