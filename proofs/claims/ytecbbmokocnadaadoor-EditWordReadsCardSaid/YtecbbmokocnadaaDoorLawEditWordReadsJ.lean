/- 'midrangelaw02.EditWordReads' is true whatever it is handed: the row, from the plain law, and its tied card. No conditions. -/
import Derived.Test.YtecbbmokocnadaaDoorAB
import Derived.Test.YtecbbmokocnadaaDoorPD
import Derived.Test.YtecbbmokocnadaaDoorRows
import Derived.Test.YtecbbmokocnadaaDoorCards
import Derived.Test.YtecbbmokocnadaaDoorTie
import Derived.Test.YtecbbmokocnadaaDoorChecked
import Derived.LaidMore
import Derived.Lay
import Derived.SevenTiedAt
import Derived.Stop.Joined
import Derived.Stop.LaidErr
import Derived.Lib.LaidTab
set_option linter.unusedVariables false
namespace Go.Proofs.YtecbbmokocnadaaDoor.editWordReads
open Go.Ab
theorem own : ownKnob Tryd.prog.godebug = none := by kernel_rfl
theorem law (x : argDen [.agg (.pair (.int .i64) (.pair (.int .i64) (.int .i64))), .dat .str, .dat .str]) (h : ArgOk [.agg (.pair (.int .i64) (.pair (.int .i64) (.int .i64))), .dat .str, .dat .str] x) : FnOk Tryd.prog 10 [.agg (.pair (.int .i64) (.pair (.int .i64) (.int .i64))), .dat .str, .dat .str] [.dat .bool] x true := f310Ok 1000 x true (editWordReads x)
theorem row_int {P : Program} {w : World} {r : Reach} {t : TypeId} {k : IntKind} {cs : Array Value} {v : Value} (e : P.cellTypes P.depth t = some [t]) (ht : P.underlying t = some (.int k)) (h : Row.ok P w r 0 t cs) (hv : cs[0]? = some v) : ∃ n, v = .int k n := by
  obtain ⟨ts, h1, _, h2⟩ := h
  rw [e] at h1
  injection h1 with h1
  subst h1
  obtain ⟨u, hu, ho⟩ := h2 0 v hv
  have hu : some t = some u := hu
  injection hu with hu
  subst hu
  simp only [Cell.ok, ht] at ho
  cases v <;> simp_all
/-- A call's world is shaped: the library's number is one. -/
theorem ground {W : World} (h : W.ShapedOpen Tryd.prog) : Gnd (fun b => b < W.heap.size) W := by
  refine ⟨fun p hp => (by cases hp), fun b hb => ?_⟩
  obtain rfl := List.mem_singleton.1 hb
  have hsz : 0 < Tryd.prog.globals.size := of_decide_eq_true (by kernel_rfl)
  obtain ⟨cs, hc, hz, hr⟩ := h.1 0 #[.int .i64 0] 3 hsz (by kernel_rfl)
  have hz : cs.size = 1 := hz
  obtain ⟨v, hv⟩ : ∃ v, cs[0]? = some v := ⟨_, Array.getElem?_eq_getElem (by omega)⟩
  obtain ⟨n, rfl⟩ := row_int (by kernel_rfl) Tryd.underlying3 (hr (by kernel_rfl)) hv
  refine ⟨(Array.getElem?_eq_some_iff.1 hc).1, n, ?_⟩
  unfold World.cell?
  rw [hc]
  exact hv
theorem change_and_shaped {H : Type} {enc : TypeId × Value → H} {a : Assume} {C : Checked} {os : Os} {f : FuncId} {fn : Func} {s : ChangeSpec} {conds : List PathCond} {apart fresh handsOn again : Bool} {X : World → Array Value → Prop}
    (own : ownKnob C.prog.godebug = none) (started : os.Started) (noInit : C.prog.inits.idxOf? f = none) (hfn : C.prog.funcs[f]? = some fn)
    (witness : ∃ (w : World) (tape : Tape) (i : Input), w.os = os ∧ (w.forCall tape i).Shaped C.prog ∧ i.vars = [] ∧ Input.okWide C.prog (w.forCall tape i) .any w.heap.size f i ∧
      ((s.pre enc C.prog fn conds apart (w.forCall tape i).memory i.args ∧ X (w.forCall tape i).memory i.args) ∧ sizedMet enc C.prog fn (OpenSpec.ofChange s) apart (w.forCall tape i).memory i.args) ∧ a.holds C.prog (lone (Frame.enter C.prog f i.args .normal) [] (w.forCall tape i)))
    (contract : ∀ (W : World) (base : Nat) (args : Array Value) (ds gs : List (DataW H)) (before : List MemPlace),
      (∀ (j : Nat) t v, fn.params[j]? = some t → args[j]? = some v → Value.okWide C.prog W .any base t v) → DataW.Whole enc C.prog fn.params.toList s.vars apart W args.toList ds gs before → W.ShapedOpen C.prog →
      Calls C.prog f args W fun e W' => ∃ v, e = .returned v ∧ s.post enc C.prog fn apart fresh handsOn again W args v W') :
    ReturnsInHanded a C os f .any (fun w args => (s.pre enc C.prog fn conds apart w args ∧ X w args) ∧ sizedMet enc C.prog fn (OpenSpec.ofChange s) apart w args) (s.post enc C.prog fn apart fresh handsOn again) := by
  refine returnsInHanded_of_calls own started noInit witness ?_
  intro w tape i _ hsh _ hok hpre hholds
  obtain ⟨_, _, _, fn', hfn', _, _, _, _, hval⟩ := hok
  have e : fn' = fn := Option.some.inj (hfn'.symm.trans hfn)
  subst e
  obtain ⟨⟨⟨ds, gs, before, hw, hc⟩, hx⟩, hz⟩ := hpre
  have hw' := DataW.Whole.of_heap (w' := w.forCall tape i) (by rfl) hw
  refine (contract (w.forCall tape i) w.heap.size i.args ds gs before hval hw' hsh).mono fun e W' ⟨v, he, hp⟩ => ?_
  subst he
  exact ChangeSpec.post_blind hp
set_option maxRecDepth 100000 in
theorem lifted (os : Os) (started : os.Started) (H : Type) (enc : TypeId × Value → H) :
    ReturnsInHanded {} Tryd.checked os 10 .any (fun w args => (Rows.editWordReadsSpec.pre enc Tryd.prog Tryd.f10 Rows.editWordReadsRow.domain false w args ∧ laidMetH Tryd.prog Rows.editWordReadsRow.laid w) ∧ sizedMet enc Tryd.prog Tryd.f10 (OpenSpec.ofChange Rows.editWordReadsSpec) false w args)
      (Rows.editWordReadsSpec.post enc Tryd.prog Tryd.f10 false true false false) := by
  refine change_and_shaped (C := Tryd.checked) (X := fun w _ => laidMetH Tryd.prog Rows.editWordReadsRow.laid w) own started (by kernel_rfl) Tryd.func10
    (ChangeSpec.witness_shaped (enc := enc) (C := Tryd.checked) (os := os) (X := fun w _ => laidMetH Tryd.prog Rows.editWordReadsRow.laid w) false (World.laidAll Tryd.prog os Rows.editWordReadsRow.laid) #[.agg #[.int .i64 0, .int .i64 0, .int .i64 0], .string ByteArray.empty, .string ByteArray.empty] 8 (World.laidAll_os _ _ _)
      (World.shaped_of_ZipB (by kernel_rfl) (by kernel_rfl)) (by kernel_rfl) (by kernel_rfl) (by kernel_rfl)
      (by rw [MakeChecks.laidMetH_plain _ _ _ (by kernel_rfl)]; exact laidMet_laidAll _ (by kernel_rfl) (by kernel_rfl))) ?_
  intro W base args ds gs before hval hW hS
  refine law_contract (rt := 4) (by kernel_rfl) Tryd.underlying4 (by kernel_rfl) (by kernel_rfl) (by kernel_rfl) rfl ?_ law W (ground hS) base args ds gs before hval hW
  intro H ds hl
  match ds, hl with
  | [_, _, _], _ => rfl
theorem over : Rows.editWordReadsRow.holds Tryd.pinned (OpenSpec.ofChange Rows.editWordReadsSpec) :=
  OpenClaim.holds_of_wide 10 Tryd.f10 rfl rfl rfl rfl rfl rfl rfl ⟨rfl, rfl, rfl, rfl, rfl⟩ rfl rfl rfl rfl rfl (by kernel_rfl) Tryd.func10 (by kernel_rfl)
    (of_decide_eq_true (by kernel_rfl)) (by unfold Func.isWrapper; first | (rw [if_pos (by decide +kernel)]; kernel_rfl) | (rw [if_neg (by decide +kernel)]; exact ⟨rfl, rfl⟩))
    (fun os started H enc _ => lifted os started H enc)
theorem carded : Rows.EditWordReadsCardSaid :=
  Claim7.holds_tied_plain_at .later [] [.data, .pinned] true (true, Rows.editWordReadsCard.stood.harness.2) false over (fun _ h => by cases h) (by kernel_rfl) (fun _ h => by cases h) editWordReads_row_tie rfl ⟨rfl, rfl⟩ (by kernel_rfl) rfl
    (fun f fn hf hfn => by
      obtain rfl : f = 10 := Option.some.inj ((show Tryd.prog.funcNamed "midrange/midrangelaw02.EditWordReads" = some 10 by kernel_rfl).symm.trans hf) |>.symm
      obtain rfl : fn = Tryd.f10 := (Option.some.inj (Tryd.func10.symm.trans hfn)).symm
      exact ⟨by kernel_rfl, fun j t ht => by
        rw [Tryd.params10] at ht
        have hm : t ∈ [23, 9, 9] := by simpa using Array.mem_of_getElem? ht
        have hall : ([23, 9, 9].all fun u => !Tryd.prog.wantsStandIn u) = true := by kernel_rfl
        exact (show Tryd.prog.wantsStandIn t = false by simpa using List.all_eq_true.1 hall t hm)⟩)
    (by kernel_rfl)
end Go.Proofs.YtecbbmokocnadaaDoor.editWordReads
namespace Go.Proofs.YtecbbmokocnadaaDoor
/-- The card. -/
theorem editWordReads_holds : Rows.EditWordReadsCardSaid := editWordReads.carded
end Go.Proofs.YtecbbmokocnadaaDoor
