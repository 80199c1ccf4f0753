/- 'midrangelaw01.NumericLaws' is true whatever it is handed: the row, from the plain law. No conditions. -/
import Derived.Test.YtioagofpofamiaaAB
import Derived.Test.YtioagofpofamiaaPC
import Derived.Test.YtioagofpofamiaaRows
import Derived.Test.YtioagofpofamiaaChecked
set_option linter.unusedVariables false
namespace Go.Proofs.Ytioagofpofamiaa.numericLaws
open Go.Ab
theorem own : ownKnob Try.prog.godebug = none := by kernel_rfl
theorem law (x : argDen [.agg (.pair (.pair (.int .i64) (.int .i64)) (.pair (.int .i64) (.int .i64)))]) (h : ArgOk [.agg (.pair (.pair (.int .i64) (.int .i64)) (.pair (.int .i64) (.int .i64)))] x) : FnOk Try.prog 10 [.agg (.pair (.pair (.int .i64) (.int .i64)) (.pair (.int .i64) (.int .i64)))] [.dat .bool] x true := f10Ok 1000 x true (laws x)
set_option maxRecDepth 100000 in
theorem lifted (os : Os) (started : os.Started) (H : Type) (enc : TypeId × Value → H) :
    ReturnsInHanded {} Try.checked os 10 .any (Rows.numericLawsSpec.pre6 enc Try.prog Try.f10 Rows.numericLawsRow.domain false) (Rows.numericLawsSpec.post enc Try.prog Try.f10 false true false false) := by
  refine returnsInHanded_of_change_sized (C := Try.checked) own started (by kernel_rfl) Try.func10
    (ChangeSpec.witness6 (enc := enc) (C := Try.checked) false ⟨#[], #[.agg #[.int .i64 0, .int .i64 0, .int .i64 0, .int .i64 0]], []⟩ 8 (by kernel_rfl) (by kernel_rfl) (by kernel_rfl) (by kernel_rfl)) ?_
  intro W base args ds gs before hval hW _ _ _
  refine law_contract (rt := 4) (by kernel_rfl) Try.underlying4 (by kernel_rfl) (by kernel_rfl) (by kernel_rfl) rfl ?_ law W base args ds gs before hval hW
  intro H ds hl
  match ds, hl with
  | [_], _ => rfl
theorem over : Rows.numericLawsRow.holds Try.pinned (OpenSpec.ofChange Rows.numericLawsSpec) :=
  OpenClaim.holds_of_wide 10 Try.f10 rfl rfl rfl rfl rfl rfl rfl ⟨rfl, rfl, rfl, rfl, rfl⟩ rfl rfl rfl rfl rfl (by kernel_rfl) Try.func10 (by kernel_rfl)
    (of_decide_eq_true (by kernel_rfl)) (by unfold Func.isWrapper; first | (rw [if_pos (by decide +kernel)]; kernel_rfl) | (rw [if_neg (by decide +kernel)]; exact ⟨rfl, rfl⟩))
    (fun os started H enc _ => lifted os started H enc)
end Go.Proofs.Ytioagofpofamiaa.numericLaws
namespace Go.Proofs.Ytioagofpofamiaa
/-- The row. -/
theorem numericLaws_holds : Rows.NumericLawsSaid := numericLaws.over
end Go.Proofs.Ytioagofpofamiaa
