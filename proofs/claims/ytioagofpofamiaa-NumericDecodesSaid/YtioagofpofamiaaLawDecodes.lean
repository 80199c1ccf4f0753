/- 'midrangelaw01.NumericDecodes' is true whatever it is handed: the row, from the plain law. No conditions. -/
import Derived.Test.YtioagofpofamiaaAb28
import Derived.Test.YtioagofpofamiaaPl11
import Derived.Test.YtioagofpofamiaaRows
import Derived.Test.YtioagofpofamiaaChecked
set_option linter.unusedVariables false
namespace Go.Proofs.Ytioagofpofamiaa.numericDecodes
open Go.Ab
theorem own : ownKnob Try.prog.godebug = none := by kernel_rfl
theorem law (x : argDen [.agg (.pair (.int .i64) (.pair (.int .i64) (.int .i64))), .dat .str]) (h : ArgOk [.agg (.pair (.int .i64) (.pair (.int .i64) (.int .i64))), .dat .str] x) : FnOk Try.prog 4 [.agg (.pair (.int .i64) (.pair (.int .i64) (.int .i64))), .dat .str] [.dat .bool] x true := f4Ok 1000 x true (decodes x)
set_option maxRecDepth 100000 in
theorem lifted (os : Os) (started : os.Started) (H : Type) (enc : TypeId × Value → H) :
    ReturnsInHanded {} Try.checked os 4 .any (Rows.numericDecodesSpec.pre6 enc Try.prog Try.f4 Rows.numericDecodesRow.domain false) (Rows.numericDecodesSpec.post enc Try.prog Try.f4 false true false false) := by
  refine returnsInHanded_of_change_sized (C := Try.checked) own started (by kernel_rfl) Try.func4
    (ChangeSpec.witness6 (enc := enc) (C := Try.checked) false ⟨#[], #[.agg #[.int .i64 0, .int .i64 0, .int .i64 0], .string ByteArray.empty], []⟩ 8 (by kernel_rfl) (by kernel_rfl) (by kernel_rfl) (by kernel_rfl)) ?_
  intro W base args ds gs before hval hW _ _ _
  refine law_contract (rt := 4) (by kernel_rfl) Try.underlying4 (by kernel_rfl) (by kernel_rfl) (by kernel_rfl) rfl ?_ law W base args ds gs before hval hW
  intro H ds hl
  match ds, hl with
  | [_, _], _ => rfl
theorem over : Rows.numericDecodesRow.holds Try.pinned (OpenSpec.ofChange Rows.numericDecodesSpec) :=
  OpenClaim.holds_of_wide 4 Try.f4 rfl rfl rfl rfl rfl rfl rfl ⟨rfl, rfl, rfl, rfl, rfl⟩ rfl rfl rfl rfl rfl (by kernel_rfl) Try.func4 (by kernel_rfl)
    (of_decide_eq_true (by kernel_rfl)) (by unfold Func.isWrapper; first | (rw [if_pos (by decide +kernel)]; kernel_rfl) | (rw [if_neg (by decide +kernel)]; exact ⟨rfl, rfl⟩))
    (fun os started H enc _ => lifted os started H enc)
end Go.Proofs.Ytioagofpofamiaa.numericDecodes
namespace Go.Proofs.Ytioagofpofamiaa
/-- The row. -/
theorem numericDecodes_holds : Rows.NumericDecodesSaid := numericDecodes.over
end Go.Proofs.Ytioagofpofamiaa
