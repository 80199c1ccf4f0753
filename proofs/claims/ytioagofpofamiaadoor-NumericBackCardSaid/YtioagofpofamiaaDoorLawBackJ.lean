/- 'midrangelaw01.NumericBack' is true whatever it is handed: the row, from the plain law, and its tied card. No conditions. -/
import Derived.Test.YtioagofpofamiaaDoorAB
import Derived.Test.YtioagofpofamiaaDoorPB
import Derived.Test.YtioagofpofamiaaDoorRows
import Derived.Test.YtioagofpofamiaaDoorCards
import Derived.Test.YtioagofpofamiaaDoorTie
import Derived.Test.YtioagofpofamiaaDoorChecked
import Derived.LaidMore
import Derived.Lay
import Derived.SevenTiedAt
import Derived.Stop.Joined
import Derived.Stop.LaidErr
import Derived.Lib.LaidTab
set_option linter.unusedVariables false
namespace Go.Proofs.YtioagofpofamiaaDoor.numericBack
open Go.Ab
theorem own : ownKnob Tryd.prog.godebug = none := by kernel_rfl
theorem law (x : argDen [.agg (.pair (.int .i64) (.pair (.int .i64) (.int .i64))), .dat .str, .agg (.pair (.int .i64) (.int .i64))]) (h : ArgOk [.agg (.pair (.int .i64) (.pair (.int .i64) (.int .i64))), .dat .str, .agg (.pair (.int .i64) (.int .i64))] x) : FnOk Tryd.prog 5 [.agg (.pair (.int .i64) (.pair (.int .i64) (.int .i64))), .dat .str, .agg (.pair (.int .i64) (.int .i64))] [.dat .bool] x true := f205Ok 1000 x true (backs x)
/-- The row's condition gives the ground. -/
theorem ground {W : World} (h : laidMetH Tryd.prog Rows.numericBackRow.laid W) : Gnd (fun b => b < W.heap.size) W := by
  rw [MakeChecks.laidMetH_plain _ _ _ (by kernel_rfl)] at h
  have e : Rows.laid_internal_strconv_uint64pow10 = (Lib.tabData .u64 Lib.pow10Tab : DataW Unit) := by kernel_rfl
  have ht : Lib.TabIs Tryd.prog W "internal/strconv.uint64pow10" .u64 Lib.pow10Tab := by
    have h2 := laidMet.tail (laidMet.tail h)
    rw [e] at h2
    exact Lib.tabIs_of_head (g := 3) (by kernel_rfl) (t := 148) (by kernel_rfl) Tryd.underlying148 Tryd.underlying62 (by kernel_rfl) (by kernel_rfl) h2
  have hg : Tryd.prog.globalNamed "internal/strconv.uint64pow10" = some 3 := by kernel_rfl
  unfold Lib.TabIs World.var? at ht
  rw [hg] at ht
  intro p hp
  obtain rfl := List.mem_singleton.1 hp
  have ht : (match W.heap[3]? with | some (Obj.cells cs _ _) => some cs | _ => none) = some (Lib.pow10Tab.map fun z => Value.int .u64 z).toArray := ht
  cases hh : W.heap[3]? with
  | none => rw [hh] at ht; cases ht
  | some o =>
    rw [hh] at ht
    cases o with
    | cells cs t fz =>
      injection ht with ht
      exact ⟨(Array.getElem?_eq_some_iff.1 hh).1, t, fz, by rw [← ht]⟩
    | _ => cases ht
set_option maxRecDepth 100000 in
theorem lifted (os : Os) (started : os.Started) (H : Type) (enc : TypeId × Value → H) :
    ReturnsInHanded {} Tryd.checked os 5 .any (fun w args => (Rows.numericBackSpec.pre enc Tryd.prog Tryd.f5 Rows.numericBackRow.domain false w args ∧ laidMetH Tryd.prog Rows.numericBackRow.laid w) ∧ sizedMet enc Tryd.prog Tryd.f5 (OpenSpec.ofChange Rows.numericBackSpec) false w args)
      (Rows.numericBackSpec.post enc Tryd.prog Tryd.f5 false true false false) := by
  refine returnsInHanded_of_change_and (C := Tryd.checked) (X := fun w _ => laidMetH Tryd.prog Rows.numericBackRow.laid w) (fun _ _ _ hh h => h.of_heap hh) own started (by kernel_rfl) Tryd.func5
    (ChangeSpec.witness_shaped (enc := enc) (C := Tryd.checked) (os := os) (X := fun w _ => laidMetH Tryd.prog Rows.numericBackRow.laid w) false (World.laidAll Tryd.prog os Rows.numericBackRow.laid) #[.agg #[.int .i64 0, .int .i64 0, .int .i64 0], .string ByteArray.empty, .agg #[.int .i64 0, .int .i64 0]] 8 (World.laidAll_os _ _ _)
      (World.shaped_of_ZipB (by kernel_rfl) (by kernel_rfl)) (by kernel_rfl) (by kernel_rfl) (by kernel_rfl)
      (by rw [MakeChecks.laidMetH_plain _ _ _ (by kernel_rfl)]; exact laidMet_laidAll _ (by kernel_rfl) (by kernel_rfl))) ?_
  intro W base args ds gs before hval hW _ _ hL _
  refine law_contract (rt := 4) (by kernel_rfl) Tryd.underlying4 (by kernel_rfl) (by kernel_rfl) (by kernel_rfl) rfl ?_ law W (ground hL) base args ds gs before hval hW
  intro H ds hl
  match ds, hl with
  | [_, _, _], _ => rfl
theorem over : Rows.numericBackRow.holds Tryd.pinned (OpenSpec.ofChange Rows.numericBackSpec) :=
  OpenClaim.holds_of_wide 5 Tryd.f5 rfl rfl rfl rfl rfl rfl rfl ⟨rfl, rfl, rfl, rfl, rfl⟩ rfl rfl rfl rfl rfl (by kernel_rfl) Tryd.func5 (by kernel_rfl)
    (of_decide_eq_true (by kernel_rfl)) (by unfold Func.isWrapper; first | (rw [if_pos (by decide +kernel)]; kernel_rfl) | (rw [if_neg (by decide +kernel)]; exact ⟨rfl, rfl⟩))
    (fun os started H enc _ => lifted os started H enc)
theorem carded : Rows.NumericBackCardSaid :=
  Claim7.holds_tied_plain_at .later [] [.data, .data, .data, .data, .pinned] true (true, Rows.numericBackCard.stood.harness.2) false over (fun _ h => by cases h) (by kernel_rfl) (fun _ h => by cases h) numericBack_row_tie rfl ⟨rfl, rfl⟩ (by kernel_rfl) rfl
    (fun f fn hf hfn => by
      obtain rfl : f = 5 := Option.some.inj ((show Tryd.prog.funcNamed "midrange/midrangelaw01.NumericBack" = some 5 by kernel_rfl).symm.trans hf) |>.symm
      obtain rfl : fn = Tryd.f5 := (Option.some.inj (Tryd.func5.symm.trans hfn)).symm
      exact ⟨by kernel_rfl, fun j t ht => by
        rw [Tryd.params5] at ht
        have hm : t ∈ [43, 9, 24] := by simpa using Array.mem_of_getElem? ht
        have hall : ([43, 9, 24].all fun u => !Tryd.prog.wantsStandIn u) = true := by kernel_rfl
        exact (show Tryd.prog.wantsStandIn t = false by simpa using List.all_eq_true.1 hall t hm)⟩)
    (by kernel_rfl)
end Go.Proofs.YtioagofpofamiaaDoor.numericBack
namespace Go.Proofs.YtioagofpofamiaaDoor
/-- The card. -/
theorem numericBack_holds : Rows.NumericBackCardSaid := numericBack.carded
end Go.Proofs.YtioagofpofamiaaDoor
