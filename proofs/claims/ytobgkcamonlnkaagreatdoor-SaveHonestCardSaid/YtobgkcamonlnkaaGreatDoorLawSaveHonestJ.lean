/- 'midrangelaw34.SaveHonest' is true whatever it is handed: the row, from the plain law, and its tied card. No conditions. -/
import Derived.Test.YtobgkcamonlnkaaGreatDoorAC
import Derived.Test.YtobgkcamonlnkaaGreatDoorPB
import Derived.Test.YtobgkcamonlnkaaGreatDoorRows
import Derived.Test.YtobgkcamonlnkaaGreatDoorCards
import Derived.Test.YtobgkcamonlnkaaGreatDoorTie
import Derived.Test.YtobgkcamonlnkaaGreatDoorChecked
import Derived.LaidMore
import Derived.Lay
import Derived.SevenTiedAt
import Derived.Stop.Joined
import Derived.Stop.LaidErr
set_option linter.unusedVariables false
namespace Go.Proofs.YtobgkcamonlnkaaGreatDoor.saveHonest
open Go.Ab
theorem own : ownKnob Tryz.prog.godebug = none := by kernel_rfl
theorem law (x : argDen [.dat (.slice (.pair (.pair .str (.pair (.pair .str (.slice (.pair .str (.pair (.int .i64) (.pair (.int .i64) (.int .i64)))))) (.pair (.slice (.pair .str .bool)) .bool))) (.slice (.pair .bool .str)))), .dat (.int .i64), .agg (.pair (.int .i64) (.pair (.int .i64) (.pair (.int .i64) (.pair (.int .i64) (.int .u8)))))]) (h : ArgOk [.dat (.slice (.pair (.pair .str (.pair (.pair .str (.slice (.pair .str (.pair (.int .i64) (.pair (.int .i64) (.int .i64)))))) (.pair (.slice (.pair .str .bool)) .bool))) (.slice (.pair .bool .str)))), .dat (.int .i64), .agg (.pair (.int .i64) (.pair (.int .i64) (.pair (.int .i64) (.pair (.int .i64) (.int .u8)))))] x) : FnOk Tryz.prog 10 [.dat (.slice (.pair (.pair .str (.pair (.pair .str (.slice (.pair .str (.pair (.int .i64) (.pair (.int .i64) (.int .i64)))))) (.pair (.slice (.pair .str .bool)) .bool))) (.slice (.pair .bool .str)))), .dat (.int .i64), .agg (.pair (.int .i64) (.pair (.int .i64) (.pair (.int .i64) (.pair (.int .i64) (.int .u8)))))] [.dat .bool] x true := (f510Ok 1000).2 x true (honest x)
/-- There is no ground. -/
theorem ground {W : World} : Gnd (FK.below W.heap.size) W := ⟨fun p hp => (by cases hp), fun b hb => (by cases hb)⟩
set_option maxRecDepth 100000 in
theorem lifted (os : Os) (started : os.Started) (H : Type) (enc : TypeId × Value → H) :
    ReturnsInHanded {} Tryz.checked os 10 .any (fun w args => (Rows.saveHonestSpec.pre enc Tryz.prog Tryz.f10 Rows.saveHonestRow.domain false w args ∧ laidMetH Tryz.prog Rows.saveHonestRow.laid w) ∧ sizedMet enc Tryz.prog Tryz.f10 (OpenSpec.ofChange Rows.saveHonestSpec) false w args)
      (Rows.saveHonestSpec.post enc Tryz.prog Tryz.f10 false true false false) := by
  refine returnsInHanded_of_change_and (C := Tryz.checked) (X := fun w _ => laidMetH Tryz.prog Rows.saveHonestRow.laid w) (fun _ _ _ hh h => h.of_heap hh) own started (by kernel_rfl) Tryz.func10
    (ChangeSpec.witness_shaped (enc := enc) (C := Tryz.checked) (os := os) (X := fun w _ => laidMetH Tryz.prog Rows.saveHonestRow.laid w) false (World.laidAll Tryz.prog os Rows.saveHonestRow.laid) #[.slice none 0 0, .int .i64 0, .agg #[.int .i64 0, .int .i64 0, .int .i64 0, .int .i64 0, .int .u8 0]] 8 (World.laidAll_os _ _ _)
      (World.shaped_of_ZipB (by kernel_rfl) (by kernel_rfl)) (by kernel_rfl) (by kernel_rfl) (by kernel_rfl)
      (by rw [MakeChecks.laidMetH_plain _ _ _ (by kernel_rfl)]; exact laidMet_laidAll _ (by kernel_rfl) (by kernel_rfl))) ?_
  intro W base args ds gs before hval hW _ _ hL _
  refine law_contract (rt := 4) (by kernel_rfl) Tryz.underlying4 (by kernel_rfl) (by kernel_rfl) (by kernel_rfl) rfl ?_ law W ground base args ds gs before hval hW
  intro H ds hl
  match ds, hl with
  | [_, _, _], _ => rfl
theorem over : Rows.saveHonestRow.holds Tryz.pinned (OpenSpec.ofChange Rows.saveHonestSpec) :=
  OpenClaim.holds_of_wide 10 Tryz.f10 rfl rfl rfl rfl rfl rfl rfl ⟨rfl, rfl, rfl, rfl, rfl⟩ rfl rfl rfl rfl rfl (by kernel_rfl) Tryz.func10 (by kernel_rfl)
    (of_decide_eq_true (by kernel_rfl)) (by unfold Func.isWrapper; first | (rw [if_pos (by decide +kernel)]; kernel_rfl) | (rw [if_neg (by decide +kernel)]; exact ⟨rfl, rfl⟩))
    (fun os started H enc _ => lifted os started H enc)
theorem carded : Rows.SaveHonestCardSaid :=
  Claim7.holds_tied_plain_at .later [] [.data, .pinned] true (true, Rows.saveHonestCard.stood.harness.2) false over (fun _ h => by cases h) (by kernel_rfl) (fun _ h => by cases h) saveHonest_row_tie rfl ⟨rfl, rfl⟩ (by kernel_rfl) rfl
    (fun f fn hf hfn => by
      obtain rfl : f = 10 := Option.some.inj ((show Tryz.prog.funcNamed "midrange/midrangelaw34.SaveHonest" = some 10 by kernel_rfl).symm.trans hf) |>.symm
      obtain rfl : fn = Tryz.f10 := (Option.some.inj (Tryz.func10.symm.trans hfn)).symm
      exact ⟨by kernel_rfl, fun j t ht => by
        rw [Tryz.params10] at ht
        have hm : t ∈ [22, 3, 79] := by simpa using Array.mem_of_getElem? ht
        have hall : ([22, 3, 79].all fun u => !Tryz.prog.wantsStandIn u) = true := by kernel_rfl
        exact (show Tryz.prog.wantsStandIn t = false by simpa using List.all_eq_true.1 hall t hm)⟩)
    (by kernel_rfl)
end Go.Proofs.YtobgkcamonlnkaaGreatDoor.saveHonest
namespace Go.Proofs.YtobgkcamonlnkaaGreatDoor
/-- The card. -/
theorem saveHonest_holds : Rows.SaveHonestCardSaid := saveHonest.carded
end Go.Proofs.YtobgkcamonlnkaaGreatDoor
