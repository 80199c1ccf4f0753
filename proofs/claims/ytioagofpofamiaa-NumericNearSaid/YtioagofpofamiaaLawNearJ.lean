/- 'midrangelaw01.NumericNear' is true whatever it is handed: the row, from the plain law. No conditions. -/
import Derived.Test.YtioagofpofamiaaAB
import Derived.Test.YtioagofpofamiaaPB
import Derived.Test.YtioagofpofamiaaRows
import Derived.Test.YtioagofpofamiaaChecked
set_option linter.unusedVariables false
namespace Go.Proofs.Ytioagofpofamiaa.numericNear
open Go.Ab
theorem own : ownKnob Try.prog.godebug = none := by kernel_rfl
theorem law (x : argDen [.agg (.pair (.int .i64) (.int .i64)), .agg (.pair (.int .i64) (.pair (.int .i64) (.int .i64)))]) (h : ArgOk [.agg (.pair (.int .i64) (.int .i64)), .agg (.pair (.int .i64) (.pair (.int .i64) (.int .i64)))] x) : FnOk Try.prog 6 [.agg (.pair (.int .i64) (.int .i64)), .agg (.pair (.int .i64) (.pair (.int .i64) (.int .i64)))] [.dat .bool] x true := f6Ok 1000 x true (nears x)
set_option maxRecDepth 100000 in
theorem lifted (os : Os) (started : os.Started) (H : Type) (enc : TypeId × Value → H) :
    ReturnsInHanded {} Try.checked os 6 .any (Rows.numericNearSpec.pre6 enc Try.prog Try.f6 Rows.numericNearRow.domain false) (Rows.numericNearSpec.post enc Try.prog Try.f6 false true false false) := by
  refine returnsInHanded_of_change_sized (C := Try.checked) own started (by kernel_rfl) Try.func6
    (ChangeSpec.witness6 (enc := enc) (C := Try.checked) false ⟨#[], #[.agg #[.int .i64 0, .int .i64 0], .agg #[.int .i64 0, .int .i64 0, .int .i64 0]], []⟩ 8 (by kernel_rfl) (by kernel_rfl) (by kernel_rfl) (by kernel_rfl)) ?_
  intro W base args ds gs before hval hW _ _ _
  refine law_contract (rt := 4) (by kernel_rfl) Try.underlying4 (by kernel_rfl) (by kernel_rfl) (by kernel_rfl) rfl ?_ law W base args ds gs before hval hW
  intro H ds hl
  match ds, hl with
  | [_, _], _ => rfl
theorem over : Rows.numericNearRow.holds Try.pinned (OpenSpec.ofChange Rows.numericNearSpec) :=
  OpenClaim.holds_of_wide 6 Try.f6 rfl rfl rfl rfl rfl rfl rfl ⟨rfl, rfl, rfl, rfl, rfl⟩ rfl rfl rfl rfl rfl (by kernel_rfl) Try.func6 (by kernel_rfl)
    (of_decide_eq_true (by kernel_rfl)) (by unfold Func.isWrapper; first | (rw [if_pos (by decide +kernel)]; kernel_rfl) | (rw [if_neg (by decide +kernel)]; exact ⟨rfl, rfl⟩))
    (fun os started H enc _ => lifted os started H enc)
end Go.Proofs.Ytioagofpofamiaa.numericNear
namespace Go.Proofs.Ytioagofpofamiaa
/-- The row. -/
theorem numericNear_holds : Rows.NumericNearSaid := numericNear.over
end Go.Proofs.Ytioagofpofamiaa
