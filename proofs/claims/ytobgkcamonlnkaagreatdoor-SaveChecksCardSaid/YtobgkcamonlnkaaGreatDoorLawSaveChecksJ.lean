/- 'midrangelaw34.SaveChecks' is true whatever it is handed: the row, from the plain law, and its tied card. No conditions. -/
import Derived.Test.YtobgkcamonlnkaaGreatDoorAC
import Derived.Test.YtobgkcamonlnkaaGreatDoorPB
import Derived.Test.YtobgkcamonlnkaaGreatDoorRows
import Derived.Test.YtobgkcamonlnkaaGreatDoorCards
import Derived.Test.YtobgkcamonlnkaaGreatDoorTie
import Derived.Test.YtobgkcamonlnkaaGreatDoorChecked
import Derived.LaidMore
import Derived.Lay
import Derived.SevenTiedAt
import Derived.Stop.Joined
import Derived.Stop.LaidErr
set_option linter.unusedVariables false
namespace Go.Proofs.YtobgkcamonlnkaaGreatDoor.saveChecks
open Go.Ab
theorem own : ownKnob Tryz.prog.godebug = none := by kernel_rfl
theorem law (x : argDen [.dat (.slice (.pair .str (.slice .str)))]) (h : ArgOk [.dat (.slice (.pair .str (.slice .str)))] x) : FnOk Tryz.prog 8 [.dat (.slice (.pair .str (.slice .str)))] [.dat .bool] x true := (f508Ok 1000).2 x true (checks x)
/-- There is no ground. -/
theorem ground {W : World} : Gnd (FK.below W.heap.size) W := ⟨fun p hp => (by cases hp), fun b hb => (by cases hb)⟩
set_option maxRecDepth 100000 in
theorem lifted (os : Os) (started : os.Started) (H : Type) (enc : TypeId × Value → H) :
    ReturnsInHanded {} Tryz.checked os 8 .any (fun w args => (Rows.saveChecksSpec.pre enc Tryz.prog Tryz.f8 Rows.saveChecksRow.domain false w args ∧ laidMetH Tryz.prog Rows.saveChecksRow.laid w) ∧ sizedMet enc Tryz.prog Tryz.f8 (OpenSpec.ofChange Rows.saveChecksSpec) false w args)
      (Rows.saveChecksSpec.post enc Tryz.prog Tryz.f8 false true false false) := by
  refine returnsInHanded_of_change_and (C := Tryz.checked) (X := fun w _ => laidMetH Tryz.prog Rows.saveChecksRow.laid w) (fun _ _ _ hh h => h.of_heap hh) own started (by kernel_rfl) Tryz.func8
    (ChangeSpec.witness_shaped (enc := enc) (C := Tryz.checked) (os := os) (X := fun w _ => laidMetH Tryz.prog Rows.saveChecksRow.laid w) false (World.laidAll Tryz.prog os Rows.saveChecksRow.laid) #[.slice none 0 0] 8 (World.laidAll_os _ _ _)
      (World.shaped_of_ZipB (by kernel_rfl) (by kernel_rfl)) (by kernel_rfl) (by kernel_rfl) (by kernel_rfl)
      (by rw [MakeChecks.laidMetH_plain _ _ _ (by kernel_rfl)]; exact laidMet_laidAll _ (by kernel_rfl) (by kernel_rfl))) ?_
  intro W base args ds gs before hval hW _ _ hL _
  refine law_contract (rt := 4) (by kernel_rfl) Tryz.underlying4 (by kernel_rfl) (by kernel_rfl) (by kernel_rfl) rfl ?_ law W ground base args ds gs before hval hW
  intro H ds hl
  match ds, hl with
  | [_], _ => rfl
theorem over : Rows.saveChecksRow.holds Tryz.pinned (OpenSpec.ofChange Rows.saveChecksSpec) :=
  OpenClaim.holds_of_wide 8 Tryz.f8 rfl rfl rfl rfl rfl rfl rfl ⟨rfl, rfl, rfl, rfl, rfl⟩ rfl rfl rfl rfl rfl (by kernel_rfl) Tryz.func8 (by kernel_rfl)
    (of_decide_eq_true (by kernel_rfl)) (by unfold Func.isWrapper; first | (rw [if_pos (by decide +kernel)]; kernel_rfl) | (rw [if_neg (by decide +kernel)]; exact ⟨rfl, rfl⟩))
    (fun os started H enc _ => lifted os started H enc)
theorem carded : Rows.SaveChecksCardSaid :=
  Claim7.holds_tied_plain_at .later [] [.data, .pinned] true (true, Rows.saveChecksCard.stood.harness.2) false over (fun _ h => by cases h) (by kernel_rfl) (fun _ h => by cases h) saveChecks_row_tie rfl ⟨rfl, rfl⟩ (by kernel_rfl) rfl
    (fun f fn hf hfn => by
      obtain rfl : f = 8 := Option.some.inj ((show Tryz.prog.funcNamed "midrange/midrangelaw34.SaveChecks" = some 8 by kernel_rfl).symm.trans hf) |>.symm
      obtain rfl : fn = Tryz.f8 := (Option.some.inj (Tryz.func8.symm.trans hfn)).symm
      exact ⟨by kernel_rfl, fun j t ht => by
        rw [Tryz.params8] at ht
        have hm : t ∈ [36] := by simpa using Array.mem_of_getElem? ht
        have hall : ([36].all fun u => !Tryz.prog.wantsStandIn u) = true := by kernel_rfl
        exact (show Tryz.prog.wantsStandIn t = false by simpa using List.all_eq_true.1 hall t hm)⟩)
    (by kernel_rfl)
end Go.Proofs.YtobgkcamonlnkaaGreatDoor.saveChecks
namespace Go.Proofs.YtobgkcamonlnkaaGreatDoor
/-- The card. -/
theorem saveChecks_holds : Rows.SaveChecksCardSaid := saveChecks.carded
end Go.Proofs.YtobgkcamonlnkaaGreatDoor
