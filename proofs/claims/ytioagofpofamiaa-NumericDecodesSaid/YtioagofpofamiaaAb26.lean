/- Functions, by code with summaries. -/
import Derived.Test.YtioagofpofamiaaAb25
/-! Functions, by code with summaries. -/
set_option linter.unusedVariables false
set_option linter.unusedSimpArgs false
namespace Go.Ab

def codeOf (fn : Func) : Code := match fn.body with
  | some c => c
  | none => .skip
def firstC : List Code → Code
  | c :: _ => c
  | [] => .skip
def bodyOf : Code → Code
  | .loop c => c
  | _ => .skip

/-- A function's code over what it is handed. -/
def evFS (Γ : Tab) (T : Table) (LT : Sums) (n : Nat) (rv : List ResultVar) (c : Code) (args : List AV) (res : List RSh) : Option (resDen res) :=
  bif Nat.ble args.length n then evS Γ T n LT c 1 (finFn Γ rv res) { env := argEnv 0 args, sto := [], nxt := 0, args := [] } else none

section
variable {P : Program} {b : Start} {N : Nat} {Γ : Tab} {T : Table}

theorem evFS_sound (hΓ : tabIs P Γ = true) (hT : Sound P T) (hm : P.follows .mixedOrders = true) {LT : Sums} {f : Nat} {fn : Func} {c : Code} (hf : P.funcs[f]? = some fn) (hb : fn.body = some c) (hs : SumsOk P fn.ntmps LT c 1)
    {sig : List ASh} {res : List RSh} {x : argDen sig} {y : resDen res} (h : evFS Γ T LT fn.ntmps fn.results.toList c (argsV sig x) res = some y) : FnOk P f sig res x y := by
  intro γ F w vals hF hvals
  unfold evFS at h
  cases hn : Nat.ble (argsV sig x).length fn.ntmps with
  | false => rw [hn] at h; cases h
  | true =>
    rw [hn] at h
    simp only [cond_true] at h
    have hlen := hvals.length
    have hnl : (argsV sig x).length ≤ fn.ntmps := by simpa using hn
    let b : Start := ⟨γ, F, w, []⟩
    refine calls_of_wp hf hb ?_
    have hgood : Good b fn.ntmps { env := argEnv 0 (argsV sig x), sto := [], nxt := 0, args := [] } { tmps := vals.toArray ++ Array.replicate (fn.ntmps - vals.toArray.size) undef, defers := [] } w := by
      refine ⟨γ, F, ⟨fun i v hv => ?_, fun i v hv t ht => ?_, ?_, rfl, ⟨fun t x hx => (by cases hx), fun t t' c ht => (by obtain ⟨x, hx⟩ := ht; cases hx), hF⟩, fun t x hx => (by cases hx), fun j t hj => (by simp at hj), rfl, rfl, rfl, Nat.le_refl _, fun _ _ _ => rfl, fun _ h => h, fun _ h => .inl h, fun c hc => absurd hc no_mine, fun _ _ => rfl⟩⟩
      · obtain ⟨_, h2⟩ := look_argEnv hv
        rw [Nat.sub_zero] at h2
        obtain ⟨u, hu, hr⟩ := hvals.get i v h2
        have hil : i < vals.length := (List.getElem?_eq_some_iff.1 hu).1
        have : (vals.toArray ++ Array.replicate (fn.ntmps - vals.toArray.size) undef).getD i undef = u := by
          rw [Array.getD_eq_getD_getElem?, Array.getElem?_append_left (by simpa using hil)]
          simp [hu]
        rw [this]
        exact hr
      · obtain ⟨_, h2⟩ := look_argEnv hv
        rw [argsV_toks sig x v (List.mem_of_getElem? h2)] at ht
        simp at ht
      · simp
        omega
    refine wp_mono (evS_sound hΓ hT hm c 1 _ _ _ w hs h hgood) ?_
    intro e a' w' hq
    have fin : ∀ (st : St) (ex : X), finFn Γ fn.results.toList res ex st = some y → (match ex with | .exit _ => False | _ => True) → Good b fn.ntmps st a' w' → a'.defers = [] ∧ ∃ v, (results fn a'.tmps).run P w' = .ok v w' ∧
        (∃ u γ' F', Ending.returned v = .returned u ∧ Post 0 γ F w [] γ' F' w' (resSto 0 res y) ∧ RepA γ' F' w' (packV (resVals 0 res y)) u) := by
      intro st ex hfin hex ⟨γ1, F1, h1⟩
      refine ⟨h1.defers, ?_⟩
      unfold finFn at hfin
      cases ex with
      | exit i => exact hex.elim
      | normal | ret =>
        simp only at hfin
        cases hra : resultA Γ fn.results.toList st with
        | none => rw [hra] at hfin; cases hfin
        | some vs =>
          rw [hra] at hfin
          simp only at hfin
          obtain ⟨⟨us, hrun, hrep⟩, hlt⟩ := resultA_run hΓ h1 hra
          cases hfx : fixR res vs st with
          | none => rw [hfx] at hfin; cases hfin
          | some q =>
            obtain ⟨l, st'⟩ := q
            rw [hfx] at hfin
            simp only at hfin
            obtain ⟨γ2, F2, h2, hr2, hl2, hg2⟩ := fixR_sound res vs hfx h1 hlt
            cases hnd : nodupB (l.flatMap V1.toks) with
            | false => rw [hnd] at hfin; cases hfin
            | true =>
              rw [hnd] at hfin
              simp only [cond_true] at hfin
              obtain ⟨i1, i2, i3, i4⟩ := call_in h2.inv (nodupB_ok hnd) (fun t => idxOf (l.flatMap V1.toks) t 0) rfl
              have hrl := (hr2 us hrep).map_left (R' := RepV (fun j => match (l.flatMap V1.toks)[j]? with | some t => γ2 t | none => ⟨none, 0, 0, 0⟩) F2 w') (f := V1.ren fun t => idxOf (l.flatMap V1.toks) t 0) fun x _ v hv => RepV.ren i3 hv
              obtain ⟨r1, r2⟩ := unRs_sound hfin hrl
              refine ⟨if h : us.toArray.size = 1 then us.toArray[0] else .tuple us.toArray, ?_, _, _, F2, rfl, ?_, resVals_pack r1⟩
              · unfold results
                rw [Array.mapM_eq_mapM_toList, Sem.run_bind, Sem.run_map]
                refine Eq.trans (congrArg (fun r : Result (List Value) => (r.andThen fun a w' => Result.ok a.toArray w').andThen fun a w' => (pure (if h : a.size = 1 then a[0] else Value.tuple a) : Sem Value).run P w') hrun) ?_
                rfl
              · refine ⟨h2.os, h2.tape, h2.output, h2.size, fun c hc hm => h2.heap c hc hm, fun t ht => absurd ht (by omega), h2.sub, fun c hc => h2.fnew c hc, fun c hc => ?_, h2.frz, i1.sub r2⟩
                obtain ⟨t, ⟨z, hz⟩, hbk⟩ := hc
                obtain ⟨_, t', z', g1, g2, _⟩ := look_renSto (r2 t z hz)
                rw [Nat.sub_zero] at g1
                simp only [g1] at hbk
                exact h2.mine c ⟨t', ⟨z', g2⟩, hbk⟩
    cases e with
    | normal =>
      obtain ⟨st, h1, h2⟩ := hq
      exact fin st .normal h1 trivial h2
    | ret =>
      obtain ⟨st, h1, h2⟩ := hq
      exact fin st .ret h1 trivial h2
    | exit i =>
      obtain ⟨st, h1, h2⟩ := hq
      simp [finFn] at h1
    | goto l => exact hq.elim
    | panic ch => exact hq.elim
    | outgrown => exact hq.elim
end
end Go.Ab
