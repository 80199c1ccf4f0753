/- 'midrangelaw01.NumericBytes' is true whatever it is handed: the row, from the plain law. No conditions. -/
import Derived.Test.YtioagofpofamiaaAB
import Derived.Test.YtioagofpofamiaaPC
import Derived.Test.YtioagofpofamiaaRows
import Derived.Test.YtioagofpofamiaaChecked
set_option linter.unusedVariables false
namespace Go.Proofs.Ytioagofpofamiaa.numericBytes
open Go.Ab
theorem own : ownKnob Try.prog.godebug = none := by kernel_rfl
theorem law (x : argDen [.agg (.pair (.int .i64) (.pair (.pair (.int .i64) (.pair (.int .i64) (.int .i64))) .bool)), .agg (.pair (.pair (.int .i64) (.pair (.int .i64) (.int .i64))) .str), .agg (.pair (.pair (.int .i64) (.pair (.int .i64) (.int .i64))) .str)]) (h : ArgOk [.agg (.pair (.int .i64) (.pair (.pair (.int .i64) (.pair (.int .i64) (.int .i64))) .bool)), .agg (.pair (.pair (.int .i64) (.pair (.int .i64) (.int .i64))) .str), .agg (.pair (.pair (.int .i64) (.pair (.int .i64) (.int .i64))) .str)] x) : FnOk Try.prog 11 [.agg (.pair (.int .i64) (.pair (.pair (.int .i64) (.pair (.int .i64) (.int .i64))) .bool)), .agg (.pair (.pair (.int .i64) (.pair (.int .i64) (.int .i64))) .str), .agg (.pair (.pair (.int .i64) (.pair (.int .i64) (.int .i64))) .str)] [.dat .bool] x true := f11Ok 1000 x true (bytesLaw x)
set_option maxRecDepth 100000 in
theorem lifted (os : Os) (started : os.Started) (H : Type) (enc : TypeId × Value → H) :
    ReturnsInHanded {} Try.checked os 11 .any (Rows.numericBytesSpec.pre6 enc Try.prog Try.f11 Rows.numericBytesRow.domain false) (Rows.numericBytesSpec.post enc Try.prog Try.f11 false true false false) := by
  refine returnsInHanded_of_change_sized (C := Try.checked) own started (by kernel_rfl) Try.func11
    (ChangeSpec.witness6 (enc := enc) (C := Try.checked) false ⟨#[], #[.agg #[.int .i64 0, .int .i64 0, .int .i64 0, .int .i64 0, .bool false], .agg #[.int .i64 0, .int .i64 0, .int .i64 0, .string ByteArray.empty], .agg #[.int .i64 0, .int .i64 0, .int .i64 0, .string ByteArray.empty]], []⟩ 8 (by kernel_rfl) (by kernel_rfl) (by kernel_rfl) (by kernel_rfl)) ?_
  intro W base args ds gs before hval hW _ _ _
  refine law_contract (rt := 4) (by kernel_rfl) Try.underlying4 (by kernel_rfl) (by kernel_rfl) (by kernel_rfl) rfl ?_ law W base args ds gs before hval hW
  intro H ds hl
  match ds, hl with
  | [_, _, _], _ => rfl
theorem over : Rows.numericBytesRow.holds Try.pinned (OpenSpec.ofChange Rows.numericBytesSpec) :=
  OpenClaim.holds_of_wide 11 Try.f11 rfl rfl rfl rfl rfl rfl rfl ⟨rfl, rfl, rfl, rfl, rfl⟩ rfl rfl rfl rfl rfl (by kernel_rfl) Try.func11 (by kernel_rfl)
    (of_decide_eq_true (by kernel_rfl)) (by unfold Func.isWrapper; first | (rw [if_pos (by decide +kernel)]; kernel_rfl) | (rw [if_neg (by decide +kernel)]; exact ⟨rfl, rfl⟩))
    (fun os started H enc _ => lifted os started H enc)
end Go.Proofs.Ytioagofpofamiaa.numericBytes
namespace Go.Proofs.Ytioagofpofamiaa
/-- The row. -/
theorem numericBytes_holds : Rows.NumericBytesSaid := numericBytes.over
end Go.Proofs.Ytioagofpofamiaa
