/- 'midrangelaw41.DisplayTypes' is true whatever it is handed: the row, from the plain law, and its tied card. No conditions. -/
import Derived.Test.YteadgfclfopccaaGreatDoorAC
import Derived.Test.YteadgfclfopccaaGreatDoorPB
import Derived.Test.YteadgfclfopccaaGreatDoorRows
import Derived.Test.YteadgfclfopccaaGreatDoorCards
import Derived.Test.YteadgfclfopccaaGreatDoorTie
import Derived.Test.YteadgfclfopccaaGreatDoorChecked
import Derived.LaidMore
import Derived.Lib.LaidTab
import Derived.Lay
import Derived.SevenTiedAt
import Derived.Stop.Joined
import Derived.Stop.LaidErr
set_option linter.unusedVariables false
namespace Go.Proofs.YteadgfclfopccaaGreatDoor.displayTypes
open Go.Ab
theorem own : ownKnob Tryz.prog.godebug = none := by kernel_rfl
theorem law (x : argDen [.agg (.pair .str (.pair (.slice (.pair (.int .i64) (.pair (.int .i64) (.pair (.int .i64) (.pair .bool (.pair .bool .bool)))))) (.int .i64))), .dat .str]) (h : ArgOk [.agg (.pair .str (.pair (.slice (.pair (.int .i64) (.pair (.int .i64) (.pair (.int .i64) (.pair .bool (.pair .bool .bool)))))) (.int .i64))), .dat .str] x) : FnOk Tryz.prog 8 [.agg (.pair .str (.pair (.slice (.pair (.int .i64) (.pair (.int .i64) (.pair (.int .i64) (.pair .bool (.pair .bool .bool)))))) (.int .i64))), .dat .str] [.dat .bool] x true := (f908Ok 5000).2 x true (types x)
/-- The row's condition gives the ground. -/
theorem ground {W : World} (h : laidMetH Tryz.prog Rows.displayTypesRow.laid W) : Gnd (FK.below W.heap.size) W := by
  rw [MakeChecks.laidMetH_plain _ _ _ (by kernel_rfl)] at h
  have e : Rows.laid_internal_strconv_uint64pow10 = (Lib.tabData .u64 Lib.pow10Tab : DataW Unit) := by kernel_rfl
  have ht : Lib.TabIs Tryz.prog W "internal/strconv.uint64pow10" .u64 Lib.pow10Tab := by
    have h2 := laidMet.tail (laidMet.tail h)
    rw [e] at h2
    exact Lib.tabIs_of_head (g := 3) (by kernel_rfl) (t := 364) (by kernel_rfl) Tryz.underlying364 Tryz.underlying295 (by kernel_rfl) (by kernel_rfl) h2
  have hg : Tryz.prog.globalNamed "internal/strconv.uint64pow10" = some 3 := by kernel_rfl
  unfold Lib.TabIs World.var? at ht
  rw [hg] at ht
  refine ⟨fun p hp => ?_, fun b hb => (by cases hb)⟩
  obtain rfl := List.mem_singleton.1 hp
  have ht : (match W.heap[3]? with | some (Obj.cells cs _ _) => some cs | _ => none) = some (Lib.pow10Tab.map fun z => Value.int .u64 z).toArray := ht
  cases hh : W.heap[3]? with
  | none => rw [hh] at ht; cases ht
  | some o =>
    rw [hh] at ht
    cases o with
    | cells cs t fz =>
      injection ht with ht
      exact ⟨(Array.getElem?_eq_some_iff.1 hh).1, t, fz, by rw [← ht]⟩
    | _ => cases ht
set_option maxRecDepth 100000 in
theorem lifted (os : Os) (started : os.Started) (H : Type) (enc : TypeId × Value → H) :
    ReturnsInHanded {} Tryz.checked os 8 .any (fun w args => (Rows.displayTypesSpec.pre enc Tryz.prog Tryz.f8 Rows.displayTypesRow.domain false w args ∧ laidMetH Tryz.prog Rows.displayTypesRow.laid w) ∧ sizedMet enc Tryz.prog Tryz.f8 (OpenSpec.ofChange Rows.displayTypesSpec) false w args)
      (Rows.displayTypesSpec.post enc Tryz.prog Tryz.f8 false true false false) := by
  refine returnsInHanded_of_change_and (C := Tryz.checked) (X := fun w _ => laidMetH Tryz.prog Rows.displayTypesRow.laid w) (fun _ _ _ hh h => h.of_heap hh) own started (by kernel_rfl) Tryz.func8
    (ChangeSpec.witness_shaped (enc := enc) (C := Tryz.checked) (os := os) (X := fun w _ => laidMetH Tryz.prog Rows.displayTypesRow.laid w) false (World.laidAll Tryz.prog os Rows.displayTypesRow.laid) #[.agg #[.string ByteArray.empty, .slice none 0 0, .int .i64 0], .string ByteArray.empty] 8 (World.laidAll_os _ _ _)
      (World.shaped_of_ZipB (by kernel_rfl) (by kernel_rfl)) (by kernel_rfl) (by kernel_rfl) (by kernel_rfl)
      (by rw [MakeChecks.laidMetH_plain _ _ _ (by kernel_rfl)]; exact laidMet_laidAll _ (by kernel_rfl) (by kernel_rfl))) ?_
  intro W base args ds gs before hval hW _ _ hL _
  refine law_contract (rt := 4) (by kernel_rfl) Tryz.underlying4 (by kernel_rfl) (by kernel_rfl) (by kernel_rfl) rfl ?_ law W (ground hL) base args ds gs before hval hW
  intro H ds hl
  match ds, hl with
  | [_, _], _ => rfl
theorem kA : (Rows.displayTypesRow.inPlace == Tryz.prog.inPlace 8) = true := by kernel_rfl
theorem kB : (Rows.displayTypesRow.unfollowed == Tryz.prog.unfollowed 8) = true := by kernel_rfl
theorem kC : (Rows.displayTypesRow.recurses == Tryz.prog.recurses 8) = true := by kernel_rfl
theorem kD : (Rows.displayTypesRow.named == Tryz.prog.varsNamed 8) = true := by kernel_rfl
theorem kE : Tryz.prog.stopsHeard = true := by kernel_rfl
theorem kF : Tryz.prog.mayEnter = true := by kernel_rfl
theorem kG : (Rows.displayTypesRow.lifted == Tryz.prog.liftsFinal) = true := by kernel_rfl
theorem kH : (Tryz.prog.make == some Rows.displayTypesRow.make) = true := by kernel_rfl
theorem kI : (Rows.displayTypesRow.plainKeys == Tryz.prog.plainKeys) = true := by kernel_rfl
theorem closed : joinedFacts Tryz.prog 8 Tryz.f8 Rows.displayTypesSpec Rows.displayTypesRow = true := by
  unfold joinedFacts
  rw [kA, kB, kC, kD, kE, kF, kG, kH, kI]
  kernel_rfl
theorem kL : false = Tryz.prog.looks [] := by kernel_rfl
theorem kM : false = Rows.displayTypesRow.goesBy Tryz.prog := by kernel_rfl
theorem over : Rows.displayTypesRow.holds Tryz.pinned (OpenSpec.ofChange Rows.displayTypesSpec) :=
  OpenClaim.holds_of_wide 8 Tryz.f8 rfl rfl rfl rfl rfl rfl rfl ⟨rfl, rfl, rfl, rfl, rfl⟩ rfl rfl rfl rfl rfl (by kernel_rfl) Tryz.func8 closed
    (of_decide_eq_true (by kernel_rfl)) (by unfold Func.isWrapper; first | (rw [if_pos (by decide +kernel)]; kernel_rfl) | (rw [if_neg (by decide +kernel)]; exact ⟨rfl, rfl⟩))
    (fun os started H enc _ => lifted os started H enc)
theorem carded : Rows.DisplayTypesCardSaid :=
  Claim7.holds_tied_plain_at .later [] [.data, .data, .data, .data, .pinned] true (true, Rows.displayTypesCard.stood.harness.2) false over (fun _ h => by cases h) (by kernel_rfl) (fun _ h => by cases h) displayTypes_row_tie rfl ⟨rfl, rfl⟩ (by kernel_rfl) rfl
    (fun f fn hf hfn => by
      obtain rfl : f = 8 := Option.some.inj ((show Tryz.prog.funcNamed "midrange/midrangelaw41.DisplayTypes" = some 8 by kernel_rfl).symm.trans hf) |>.symm
      obtain rfl : fn = Tryz.f8 := (Option.some.inj (Tryz.func8.symm.trans hfn)).symm
      exact ⟨kL, fun j t ht => by
        rw [Tryz.params8] at ht
        have hm : t ∈ [77, 9] := by simpa using Array.mem_of_getElem? ht
        have hall : ([77, 9].all fun u => !Tryz.prog.wantsStandIn u) = true := by kernel_rfl
        exact (show Tryz.prog.wantsStandIn t = false by simpa using List.all_eq_true.1 hall t hm)⟩)
    kM
end Go.Proofs.YteadgfclfopccaaGreatDoor.displayTypes
namespace Go.Proofs.YteadgfclfopccaaGreatDoor
/-- The card. -/
theorem displayTypes_holds : Rows.DisplayTypesCardSaid := displayTypes.carded
end Go.Proofs.YteadgfclfopccaaGreatDoor
