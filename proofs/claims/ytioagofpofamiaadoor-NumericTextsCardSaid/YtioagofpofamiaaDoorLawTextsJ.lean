/- 'midrangelaw01.NumericTexts' is true whatever it is handed: the row, from the plain law, and its tied card. No conditions. -/
import Derived.Test.YtioagofpofamiaaDoorAB
import Derived.Test.YtioagofpofamiaaDoorPA
import Derived.Test.YtioagofpofamiaaDoorRows
import Derived.Test.YtioagofpofamiaaDoorCards
import Derived.Test.YtioagofpofamiaaDoorTie
import Derived.Test.YtioagofpofamiaaDoorChecked
import Derived.LaidMore
import Derived.Lay
import Derived.SevenTiedAt
import Derived.Stop.Joined
set_option linter.unusedVariables false
namespace Go.Proofs.YtioagofpofamiaaDoor.numericTexts
open Go.Ab
theorem own : ownKnob Tryd.prog.godebug = none := by kernel_rfl
theorem law (x : argDen [.dat .str]) (h : ArgOk [.dat .str] x) : FnOk Tryd.prog 3 [.dat .str] [.dat .bool] x true := f203Ok 1000 x true (texts x)
set_option maxRecDepth 100000 in
theorem lifted (os : Os) (started : os.Started) (H : Type) (enc : TypeId × Value → H) :
    ReturnsInHanded {} Tryd.checked os 3 .any (fun w args => (Rows.numericTextsSpec.pre enc Tryd.prog Tryd.f3 Rows.numericTextsRow.domain false w args ∧ laidMetH Tryd.prog Rows.numericTextsRow.laid w) ∧ sizedMet enc Tryd.prog Tryd.f3 (OpenSpec.ofChange Rows.numericTextsSpec) false w args)
      (Rows.numericTextsSpec.post enc Tryd.prog Tryd.f3 false true false false) := by
  refine returnsInHanded_of_change_and (C := Tryd.checked) (X := fun w _ => laidMetH Tryd.prog Rows.numericTextsRow.laid w) (fun _ _ _ hh h => h.of_heap hh) own started (by kernel_rfl) Tryd.func3
    (ChangeSpec.witness_shaped (enc := enc) (C := Tryd.checked) (os := os) (X := fun w _ => laidMetH Tryd.prog Rows.numericTextsRow.laid w) false (World.laidAll Tryd.prog os Rows.numericTextsRow.laid) #[.string ByteArray.empty] 8 (World.laidAll_os _ _ _)
      (World.shaped_of_ZipB (by kernel_rfl) (by kernel_rfl)) (by kernel_rfl) (by kernel_rfl) (by kernel_rfl)
      (by rw [MakeChecks.laidMetH_plain _ _ _ (by kernel_rfl)]; exact laidMet_laidAll _ (by kernel_rfl) (by kernel_rfl))) ?_
  intro W base args ds gs before hval hW _ _ hL _
  refine law_contract (rt := 4) (by kernel_rfl) Tryd.underlying4 (by kernel_rfl) (by kernel_rfl) (by kernel_rfl) rfl ?_ law W base args ds gs before hval hW
  intro H ds hl
  match ds, hl with
  | [_], _ => rfl
theorem over : Rows.numericTextsRow.holds Tryd.pinned (OpenSpec.ofChange Rows.numericTextsSpec) :=
  OpenClaim.holds_of_wide 3 Tryd.f3 rfl rfl rfl rfl rfl rfl rfl ⟨rfl, rfl, rfl, rfl, rfl⟩ rfl rfl rfl rfl rfl (by kernel_rfl) Tryd.func3 (by kernel_rfl)
    (of_decide_eq_true (by kernel_rfl)) (by unfold Func.isWrapper; first | (rw [if_pos (by decide +kernel)]; kernel_rfl) | (rw [if_neg (by decide +kernel)]; exact ⟨rfl, rfl⟩))
    (fun os started H enc _ => lifted os started H enc)
theorem carded : Rows.NumericTextsCardSaid :=
  Claim7.holds_tied_plain_at .later [] [.data, .pinned] true (true, Rows.numericTextsCard.stood.harness.2) false over (fun _ h => by cases h) (by kernel_rfl) (fun _ h => by cases h) numericTexts_row_tie rfl ⟨rfl, rfl⟩ (by kernel_rfl) rfl
    (fun f fn hf hfn => by
      obtain rfl : f = 3 := Option.some.inj ((show Tryd.prog.funcNamed "midrange/midrangelaw01.NumericTexts" = some 3 by kernel_rfl).symm.trans hf) |>.symm
      obtain rfl : fn = Tryd.f3 := (Option.some.inj (Tryd.func3.symm.trans hfn)).symm
      exact ⟨by kernel_rfl, fun j t ht => by
        rw [Tryd.params3] at ht
        have hm : t ∈ [9] := by simpa using Array.mem_of_getElem? ht
        have hall : ([9].all fun u => !Tryd.prog.wantsStandIn u) = true := by kernel_rfl
        exact (show Tryd.prog.wantsStandIn t = false by simpa using List.all_eq_true.1 hall t hm)⟩)
    (by kernel_rfl)
end Go.Proofs.YtioagofpofamiaaDoor.numericTexts
namespace Go.Proofs.YtioagofpofamiaaDoor
/-- The card. -/
theorem numericTexts_holds : Rows.NumericTextsCardSaid := numericTexts.carded
end Go.Proofs.YtioagofpofamiaaDoor
