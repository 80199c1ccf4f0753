/- 'midrangelaw41.DisplayAnswers' is true whatever it is handed: the row, from the plain law, and its tied card. No conditions. -/
import Derived.Test.YteadgfclfopccaaGreatDoorAC
import Derived.Test.YteadgfclfopccaaGreatDoorPB
import Derived.Test.YteadgfclfopccaaGreatDoorRows
import Derived.Test.YteadgfclfopccaaGreatDoorCards
import Derived.Test.YteadgfclfopccaaGreatDoorTie
import Derived.Test.YteadgfclfopccaaGreatDoorChecked
import Derived.LaidMore
import Derived.Lib.LaidTab
import Derived.Lay
import Derived.SevenTiedAt
import Derived.Stop.Joined
import Derived.Stop.LaidErr
set_option linter.unusedVariables false
namespace Go.Proofs.YteadgfclfopccaaGreatDoor.displayAnswers
open Go.Ab
theorem own : ownKnob Tryz.prog.godebug = none := by kernel_rfl
theorem law (x : argDen [.agg (.pair .str (.pair (.slice (.pair (.int .i64) (.pair (.int .i64) (.pair (.int .i64) (.pair .bool (.pair .bool .bool)))))) (.int .i64))), .dat (.int .i64), .dat .bool]) (h : ArgOk [.agg (.pair .str (.pair (.slice (.pair (.int .i64) (.pair (.int .i64) (.pair (.int .i64) (.pair .bool (.pair .bool .bool)))))) (.int .i64))), .dat (.int .i64), .dat .bool] x) : FnOk Tryz.prog 9 [.agg (.pair .str (.pair (.slice (.pair (.int .i64) (.pair (.int .i64) (.pair (.int .i64) (.pair .bool (.pair .bool .bool)))))) (.int .i64))), .dat (.int .i64), .dat .bool] [.dat .bool] x true := (f909Ok 5000).2 x true (answers x)
/-- The row's condition gives the ground. -/
theorem ground {W : World} (h : laidMetH Tryz.prog Rows.displayAnswersRow.laid W) : Gnd (FK.below W.heap.size) W := by
  rw [MakeChecks.laidMetH_plain _ _ _ (by kernel_rfl)] at h
  have e : Rows.laid_internal_strconv_uint64pow10 = (Lib.tabData .u64 Lib.pow10Tab : DataW Unit) := by kernel_rfl
  have ht : Lib.TabIs Tryz.prog W "internal/strconv.uint64pow10" .u64 Lib.pow10Tab := by
    have h2 := laidMet.tail (laidMet.tail h)
    rw [e] at h2
    exact Lib.tabIs_of_head (g := 3) (by kernel_rfl) (t := 364) (by kernel_rfl) Tryz.underlying364 Tryz.underlying295 (by kernel_rfl) (by kernel_rfl) h2
  have hg : Tryz.prog.globalNamed "internal/strconv.uint64pow10" = some 3 := by kernel_rfl
  unfold Lib.TabIs World.var? at ht
  rw [hg] at ht
  refine ⟨fun p hp => ?_, fun b hb => (by cases hb)⟩
  obtain rfl := List.mem_singleton.1 hp
  have ht : (match W.heap[3]? with | some (Obj.cells cs _ _) => some cs | _ => none) = some (Lib.pow10Tab.map fun z => Value.int .u64 z).toArray := ht
  cases hh : W.heap[3]? with
  | none => rw [hh] at ht; cases ht
  | some o =>
    rw [hh] at ht
    cases o with
    | cells cs t fz =>
      injection ht with ht
      exact ⟨(Array.getElem?_eq_some_iff.1 hh).1, t, fz, by rw [← ht]⟩
    | _ => cases ht
set_option maxRecDepth 100000 in
theorem lifted (os : Os) (started : os.Started) (H : Type) (enc : TypeId × Value → H) :
    ReturnsInHanded {} Tryz.checked os 9 .any (fun w args => (Rows.displayAnswersSpec.pre enc Tryz.prog Tryz.f9 Rows.displayAnswersRow.domain false w args ∧ laidMetH Tryz.prog Rows.displayAnswersRow.laid w) ∧ sizedMet enc Tryz.prog Tryz.f9 (OpenSpec.ofChange Rows.displayAnswersSpec) false w args)
      (Rows.displayAnswersSpec.post enc Tryz.prog Tryz.f9 false true false false) := by
  refine returnsInHanded_of_change_and (C := Tryz.checked) (X := fun w _ => laidMetH Tryz.prog Rows.displayAnswersRow.laid w) (fun _ _ _ hh h => h.of_heap hh) own started (by kernel_rfl) Tryz.func9
    (ChangeSpec.witness_shaped (enc := enc) (C := Tryz.checked) (os := os) (X := fun w _ => laidMetH Tryz.prog Rows.displayAnswersRow.laid w) false (World.laidAll Tryz.prog os Rows.displayAnswersRow.laid) #[.agg #[.string ByteArray.empty, .slice none 0 0, .int .i64 0], .int .i64 0, .bool false] 8 (World.laidAll_os _ _ _)
      (World.shaped_of_ZipB (by kernel_rfl) (by kernel_rfl)) (by kernel_rfl) (by kernel_rfl) (by kernel_rfl)
      (by rw [MakeChecks.laidMetH_plain _ _ _ (by kernel_rfl)]; exact laidMet_laidAll _ (by kernel_rfl) (by kernel_rfl))) ?_
  intro W base args ds gs before hval hW _ _ hL _
  refine law_contract (rt := 4) (by kernel_rfl) Tryz.underlying4 (by kernel_rfl) (by kernel_rfl) (by kernel_rfl) rfl ?_ law W (ground hL) base args ds gs before hval hW
  intro H ds hl
  match ds, hl with
  | [_, _, _], _ => rfl
theorem kA : (Rows.displayAnswersRow.inPlace == Tryz.prog.inPlace 9) = true := by kernel_rfl
theorem kB : (Rows.displayAnswersRow.unfollowed == Tryz.prog.unfollowed 9) = true := by kernel_rfl
theorem kC : (Rows.displayAnswersRow.recurses == Tryz.prog.recurses 9) = true := by kernel_rfl
theorem kD : (Rows.displayAnswersRow.named == Tryz.prog.varsNamed 9) = true := by kernel_rfl
theorem kE : Tryz.prog.stopsHeard = true := by kernel_rfl
theorem kF : Tryz.prog.mayEnter = true := by kernel_rfl
theorem kG : (Rows.displayAnswersRow.lifted == Tryz.prog.liftsFinal) = true := by kernel_rfl
theorem kH : (Tryz.prog.make == some Rows.displayAnswersRow.make) = true := by kernel_rfl
theorem kI : (Rows.displayAnswersRow.plainKeys == Tryz.prog.plainKeys) = true := by kernel_rfl
theorem closed : joinedFacts Tryz.prog 9 Tryz.f9 Rows.displayAnswersSpec Rows.displayAnswersRow = true := by
  unfold joinedFacts
  rw [kA, kB, kC, kD, kE, kF, kG, kH, kI]
  kernel_rfl
theorem kL : false = Tryz.prog.looks [] := by kernel_rfl
theorem kM : false = Rows.displayAnswersRow.goesBy Tryz.prog := by kernel_rfl
theorem over : Rows.displayAnswersRow.holds Tryz.pinned (OpenSpec.ofChange Rows.displayAnswersSpec) :=
  OpenClaim.holds_of_wide 9 Tryz.f9 rfl rfl rfl rfl rfl rfl rfl ⟨rfl, rfl, rfl, rfl, rfl⟩ rfl rfl rfl rfl rfl (by kernel_rfl) Tryz.func9 closed
    (of_decide_eq_true (by kernel_rfl)) (by unfold Func.isWrapper; first | (rw [if_pos (by decide +kernel)]; kernel_rfl) | (rw [if_neg (by decide +kernel)]; exact ⟨rfl, rfl⟩))
    (fun os started H enc _ => lifted os started H enc)
theorem carded : Rows.DisplayAnswersCardSaid :=
  Claim7.holds_tied_plain_at .later [] [.data, .data, .data, .data, .pinned] true (true, Rows.displayAnswersCard.stood.harness.2) false over (fun _ h => by cases h) (by kernel_rfl) (fun _ h => by cases h) displayAnswers_row_tie rfl ⟨rfl, rfl⟩ (by kernel_rfl) rfl
    (fun f fn hf hfn => by
      obtain rfl : f = 9 := Option.some.inj ((show Tryz.prog.funcNamed "midrange/midrangelaw41.DisplayAnswers" = some 9 by kernel_rfl).symm.trans hf) |>.symm
      obtain rfl : fn = Tryz.f9 := (Option.some.inj (Tryz.func9.symm.trans hfn)).symm
      exact ⟨kL, fun j t ht => by
        rw [Tryz.params9] at ht
        have hm : t ∈ [77, 3, 4] := by simpa using Array.mem_of_getElem? ht
        have hall : ([77, 3, 4].all fun u => !Tryz.prog.wantsStandIn u) = true := by kernel_rfl
        exact (show Tryz.prog.wantsStandIn t = false by simpa using List.all_eq_true.1 hall t hm)⟩)
    kM
end Go.Proofs.YteadgfclfopccaaGreatDoor.displayAnswers
namespace Go.Proofs.YteadgfclfopccaaGreatDoor
/-- The card. -/
theorem displayAnswers_holds : Rows.DisplayAnswersCardSaid := displayAnswers.carded
end Go.Proofs.YteadgfclfopccaaGreatDoor
