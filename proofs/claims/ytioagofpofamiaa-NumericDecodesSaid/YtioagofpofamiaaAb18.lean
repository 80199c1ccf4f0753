/- Functions. -/
import Derived.Test.YtioagofpofamiaaAb17
/-! Functions. -/
set_option linter.unusedVariables false
set_option linter.unusedSimpArgs false
namespace Go.Ab

def resultA (Γ : Tab) : List ResultVar → St → Option (List V1)
  | [], _ => some []
  | .tmp t :: l, st => match evalA st.env (.tmp t), resultA Γ l st with
    | .v x, some xs => some (x :: xs)
    | _, _ => none
  | .cell a t :: l, st => match loadA Γ t (evalA st.env (.tmp a)) st.sto, resultA Γ l st with
    | .ok (.v x) _, some xs => some (x :: xs)
    | _, _ => none

def nodupB : List Nat → Bool
  | [] => true
  | t :: l => !memb l t && nodupB l
theorem nodupB_ok : ∀ {l : List Nat}, nodupB l = true → l.Nodup
  | [], _ => by simp
  | t :: l, h => by
    simp only [nodupB, Bool.and_eq_true, Bool.not_eq_true'] at h
    rw [List.nodup_cons]
    refine ⟨fun hm => ?_, nodupB_ok h.2⟩
    rw [(memb_iff l t).2 hm] at h
    cases h.1

/-- What is handed back at the end. -/
def finFn (Γ : Tab) (rv : List ResultVar) (res : List RSh) (e : X) (st : St) : Option (resDen res) :=
  match e with
  | .exit _ => none
  | _ => match resultA Γ rv st with
    | none => none
    | some vs => match fixR res vs st with
      | none => none
      | some (l, st') =>
        let ts := l.flatMap V1.toks
        bif nodupB ts then unRs (renSto ts (fun t => idxOf ts t 0) st'.sto ts 0) 0 res (l.map (V1.ren fun t => idxOf ts t 0)) else none

def argEnv : Nat → List AV → Env
  | _, [] => []
  | n, v :: l => (n, v) :: argEnv (n + 1) l

/-- A function's code over what it is handed. -/
def evFn (Γ : Tab) (T : Table) (D : (R : Type) → Nat → Array Oper → St → (St → Option R) → Option R) (ns : Notes) (k : Nat) (n : Nat) (rv : List ResultVar) (c : Code) (args : List AV) (res : List RSh) : Option (resDen res) :=
  bif Nat.ble args.length n then ev Γ T n (D (resDen res) n) ns k c 1 (finFn Γ rv res) { env := argEnv 0 args, sto := [], nxt := 0, args := [] } else none

section
variable {P : Program} {b : Start} {N : Nat} {Γ : Tab} {T : Table}

/-- A load, by itself. -/
theorem loadA_run (hΓ : tabIs P Γ = true) {t : TypeId} {x : AV} {S S' : Store} {v : AV} (hl : loadA Γ t x S = .ok v S') {γ : Nat → G} {F : Nat → Prop} {w : World} (hI : Inv F γ S w) {u : Value} (hx : RepA γ F w x u) :
    ∃ ad y, u = .pointer (some ad) ∧ (loadVar t ad).run P w = .ok y w ∧ RepA γ F w v y := by
  let o : Oper := ⟨none, .load t (.const u), 0, "", #[], none⟩
  -- an operation that loads through a constant
  have hs := sem_load (P := P) (dst := none) (ty := 0) (pos := "") (aft := #[]) (gd := none) (fr := 0) (S := S) hΓ t (.const u) x
  unfold loadA at hl
  split at hl
  · cases hl
  · rename_i r hr
    obtain ⟨d, i, ok⟩ := trOf_ok hΓ hr
    split at hl
    · rename_i tok off
      split at hl
      · rename_i cs hS
        split at hl
        · rename_i v' hv
          injection hl with h1 h2
          subst h1
          obtain ⟨b, hb, hp⟩ := hx
          obtain ⟨b', cur, E, h1, h2, h3, h4⟩ := hI.blk tok _ hS
          rw [h1] at hb
          injection hb with hb
          subst hb
          obtain ⟨u, hu, hrep⟩ := run_loadVar_cells ok (b := b') (o := 0) (off := off) (w := w) (fun j u hj => by rw [Nat.zero_add, cell_of_heap h2]; simpa using hj) hv h4
          rw [Nat.zero_add] at hu
          exact ⟨_, u, hp, hu, hrep⟩
        · cases hl
      · cases hl
    · rename_i tok j fo
      split at hl
      · rename_i E e m xs hS
        split at hl
        · rename_i v' hv
          injection hl with h1 h2
          subst h1
          obtain ⟨b, hb, h0, hlt, hp⟩ := hx
          have hrow : RowOk F (γ tok) w E e m xs := hI.blk tok _ hS
          have hlen : j.toNat < xs.length := by rw [← hrow.1]; exact hlt
          have hget : xs[j.toNat]? = some (xs.getD j.toNat e.dflt) := by simp [List.getD, List.getElem?_eq_getElem hlen]
          obtain ⟨l, hl, hc⟩ := row_elem hrow hb hget
          obtain ⟨u, hu, hrep⟩ := run_loadVar_cells ok (b := b) (o := j.toNat * e.size) (off := fo) (w := w) hc hv (explode_rep (γ := γ) hl)
          refine ⟨_, u, hp, ?_, hrep⟩
          rw [hrow.2.1]
          exact hu
        · cases hl
      · cases hl
    · rename_i e y fo
      split at hl
      · rename_i v' hv
        injection hl with h1 h2
        subst h1
        obtain ⟨ad, l, h1, h2, h3, h4⟩ := hx
        obtain ⟨u, hu, hrep⟩ := run_loadVar_cells ok (b := ad.block) (o := ad.off) (off := fo) (w := w) h3 hv (explode_rep (γ := γ) h2)
        exact ⟨_, u, h4, hu, hrep⟩
      · cases hl
    · rename_i tok off n j
      split at hl
      · rename_i cs hS
        cases hb : Nat.ble (off + n) cs.length with
        | false => rw [hb] at hl; cases hl
        | true =>
          rw [hb] at hl
          simp only [cond_true] at hl
          split at hl
          · rename_i k ns hns hag
            injection hl with h1 h2
            subst h1
            obtain ⟨b, hbk, h0, hlt, hp⟩ := hx
            obtain ⟨b', cur, E, h1, h2, h3, h4⟩ := hI.blk tok _ hS
            rw [h1] at hbk
            injection hbk with hbk
            subst hbk
            obtain ⟨hl, hcs⟩ := intCells_rep hns ((h4.drop off).take n)
            have hbl : off + n ≤ cs.length := by simpa using hb
            have hlen4 := h4.length
            have hnl : ns.length = n := by
              have := congrArg List.length hcs
              simp at this
              omega
            have hju : cur.toList[off + j.toNat]? = some (.int k (ns.getD j.toNat 0)) := by
              have h5 := congrArg (·[j.toNat]?) hl
              simp only [List.getElem?_take, List.getElem?_drop, if_pos hlt, List.getElem?_map] at h5
              rw [h5, List.getElem?_eq_getElem (by omega)]
              simp [List.getD, List.getElem?_eq_getElem (show j.toNat < ns.length by omega)]
            refine ⟨_, .int k (ns.getD j.toNat 0), hp, ?_, rfl⟩
            unfold loadVar
            simp only [Sem.run_bind, ok.isAgg, Result.andThen_ok, Sem.run_ite, hag, Bool.false_eq_true, if_false, run_load, cell_of_heap h2]
            have : cur[off + j.toNat]? = some (.int k (ns.getD j.toNat 0)) := by simpa using hju
            simp [this]
          · cases hl
      · cases hl
    · cases hl

theorem resultA_run (hΓ : tabIs P Γ = true) {st : St} {a : Act} {w : World} {γ : Nat → G} {F : Nat → Prop} (h : Ok b N st a w γ F) : ∀ {l : List ResultVar} {vs : List V1}, resultA Γ l st = some vs →
    (∃ us, (l.mapM (fun r : ResultVar => match r with | .tmp t => (pure (a.tmps.getD t Go.undef) : Sem Value) | .cell p t => do loadVar t (← asAddr (a.tmps.getD p Go.undef)))).run P w = .ok us w ∧ All2 (RepV γ F w) vs us) ∧ ∀ x ∈ vs, ∀ t ∈ x.toks, t < st.nxt
  | [], vs, hr => by
    simp only [resultA, Option.some.injEq] at hr
    subst hr
    exact ⟨⟨[], by simp, trivial⟩, fun x hx => by simp at hx⟩
  | .tmp t :: l, vs, hr => by
    simp only [resultA] at hr
    split at hr
    · rename_i x xs h1 h2
      injection hr with hr
      subst hr
      obtain ⟨⟨us, h3, h4⟩, h5⟩ := resultA_run hΓ h h2
      have he := h.eval (.tmp t)
      rw [h1] at he
      refine ⟨⟨a.tmps.getD t Go.undef :: us, ?_, he.1, h4⟩, fun y hy => ?_⟩
      · simp only [List.mapM_cons, Sem.run_bind, Sem.run_pure, Result.andThen_ok]
        rw [h3]
        rfl
      · rcases List.mem_cons.1 hy with rfl | hy
        · exact he.2
        · exact h5 y hy
    · cases hr
  | .cell p t :: l, vs, hr => by
    simp only [resultA] at hr
    split at hr
    · rename_i x S' xs h1 h2
      injection hr with hr
      subst hr
      obtain ⟨⟨us, h3, h4⟩, h5⟩ := resultA_run hΓ h h2
      have he := h.eval (.tmp p)
      obtain ⟨ad, y, g1, g2, g3⟩ := loadA_run hΓ h1 h.inv he.1
      have g1' : a.tmps.getD p Go.undef = .pointer (some ad) := g1
      refine ⟨⟨y :: us, ?_, g3, h4⟩, fun z hz => ?_⟩
      · have hz : (asAddr (a.tmps.getD p Go.undef)).run P w = .ok ad w := by rw [g1']; rfl
        simp only [List.mapM_cons, Sem.run_bind, hz, Result.andThen_ok, g2, Sem.run_pure]
        rw [h3]
        rfl
      · rcases List.mem_cons.1 hz with rfl | hz
        · intro u hu
          -- what is loaded leads to what the store leads to
          have : ∀ (cs : List C) (v : AV) (r : TR) (off : Nat), partA r.agg r.size off cs = some v → (∀ u ∈ cs.flatMap C.toks, u < st.nxt) → ∀ u ∈ v.toks, u < st.nxt := by
            intro cs v r off hv hcs u hu
            unfold partA at hv
            cases ha : r.agg with
            | true =>
              rw [ha] at hv
              simp only [cond_true] at hv
              cases hb : Nat.ble (off + r.size) cs.length with
              | false => rw [hb] at hv; cases hv
              | true =>
                rw [hb] at hv
                simp only [cond_true, Option.some.injEq] at hv
                subst hv
                simp only [AV.toks, V1.toks, V1.cells, List.mem_flatMap] at hu
                obtain ⟨c, hc, hu⟩ := hu
                exact hcs u (List.mem_flatMap.2 ⟨c, List.mem_of_mem_drop (List.mem_of_mem_take hc), hu⟩)
            | false =>
              rw [ha] at hv
              simp only [cond_false] at hv
              split at hv
              · rename_i c hc
                injection hv with hv
                subst hv
                exact hcs u (List.mem_flatMap.2 ⟨c, List.mem_of_getElem? hc, by simpa [AV.toks, V1.toks, V1.cells] using hu⟩)
              · cases hv
          have noToks : ∀ (e : Ty) (y : e.den), (e.explode y).flatMap C.toks = [] := by
            intro e
            induction e with
            | int k => intro y; rfl
            | bool => intro y; rfl
            | str => intro y; rfl
            | slice e _ => intro y; rfl
            | pair p q ih1 ih2 => intro y; simp [Ty.explode, ih1, ih2]
          unfold loadA at h1
          split at h1
          · cases h1
          · rename_i r hr
            split at h1
            · split at h1
              · rename_i cs hS
                split at h1
                · rename_i v' hv
                  injection h1 with h1 _
                  subst h1
                  exact this _ _ _ _ hv (h.lt _ _ hS).2 u hu
                · cases h1
              · cases h1
            · split at h1
              · split at h1
                · rename_i v' hv
                  injection h1 with h1 _
                  subst h1
                  exact this _ _ _ _ hv (by rw [noToks]; simp) u hu
                · cases h1
              · cases h1
            · split at h1
              · rename_i v' hv
                injection h1 with h1 _
                subst h1
                exact this _ _ _ _ hv (by rw [noToks]; simp) u hu
              · cases h1
            · split at h1
              · rename_i cs hS
                cases hb : Nat.ble _ cs.length with
                | false => rw [hb] at h1; cases h1
                | true =>
                  rw [hb] at h1
                  simp only [cond_true] at h1
                  split at h1
                  · injection h1 with h1 _
                    injection h1 with h1
                    subst h1
                    simp [V1.toks, V1.cells, C.toks] at hu
                  · cases h1
              · cases h1
            · cases h1
        · exact h5 z hz
    · cases hr

theorem explode_toks : ∀ (e : Ty) (y : e.den), (e.explode y).flatMap C.toks = []
  | .int _, _ => rfl
  | .bool, _ => rfl
  | .str, _ => rfl
  | .slice _, _ => rfl
  | .pair p q, y => by simp [Ty.explode, explode_toks p, explode_toks q]

theorem ASh.toks (s : ASh) (x : s.den) : (s.val x).toks = [] := by
  cases s with
  | dat t =>
    simp only [ASh.val]
    split
    · rename_i c cs hc
      have := explode_toks t x
      rw [hc] at this
      simp only [List.flatMap_cons, List.append_eq_nil_iff] at this
      simp [AV.toks, V1.toks, V1.cells, this.1]
    · rfl
  | agg t => simp [ASh.val, AV.toks, V1.toks, V1.cells, explode_toks]

theorem argsV_toks : ∀ (l : List ASh) (x : argDen l), ∀ v ∈ argsV l x, v.toks = []
  | [], _, v, h => by simp [argsV] at h
  | [s], x, v, h => by
    simp [argsV] at h
    subst h
    exact s.toks x
  | s :: s' :: l, x, v, h => by
    simp only [argsV, List.mem_cons] at h
    rcases h with rfl | h
    · exact s.toks x.1
    · exact argsV_toks (s' :: l) x.2 v h

theorem look_argEnv : ∀ {l : List AV} {n i : Nat} {v : AV}, look (argEnv n l) i = some v → n ≤ i ∧ l[i - n]? = some v
  | [], n, i, v, h => by cases h
  | x :: l, n, i, v, h => by
    simp only [argEnv, look] at h
    by_cases e : n = i
    · subst e
      rw [beq_yes] at h
      injection h with h
      exact ⟨Nat.le_refl _, by simp [h]⟩
    · rw [beq_no e] at h
      obtain ⟨h1, h2⟩ := look_argEnv h
      refine ⟨by omega, ?_⟩
      obtain ⟨d, rfl⟩ : ∃ d, i = n + 1 + d := ⟨i - (n + 1), by omega⟩
      have e1 : n + 1 + d - n = d + 1 := by omega
      have e2 : n + 1 + d - (n + 1) = d := by omega
      rw [e2] at h2
      rw [e1]
      simpa using h2

/-- What a function over data comes to. -/
def FnOk (P : Program) (f : Nat) (sig : List ASh) (res : List RSh) (x : argDen sig) (y : resDen res) : Prop :=
  ∀ (γ : Nat → G) (F : Nat → Prop) (w : World) (vals : List Value), (∀ c, F c → c < w.heap.size) → All2 (RepA γ F w) (argsV sig x) vals →
    Calls P f vals.toArray w fun e w' => ∃ u γ' F', e = .returned u ∧ Post 0 γ F w [] γ' F' w' (resSto 0 res y) ∧ RepA γ' F' w' (packV (resVals 0 res y)) u

theorem no_mine {γ : Nat → G} {c : Nat} : ¬ Mine γ [] c := by
  rintro ⟨t, ⟨x, hx⟩, _⟩
  cases hx

theorem Inv.sub {F : Nat → Prop} {γ : Nat → G} {S S' : Store} {w : World} (h : Inv F γ S w) (hs : ∀ t z, look S' t = some z → look S t = some z) : Inv F γ S' w :=
  ⟨fun t x hx => h.blk t x (hs t x hx), fun t t' c ⟨x, hx⟩ ⟨x', hx'⟩ => h.inj t t' c ⟨x, hs t x hx⟩ ⟨x', hs t' x' hx'⟩, h.fz⟩

theorem resVals_pack {γ : Nat → G} {F : Nat → Prop} {w : World} {l : List V1} {us : List Value} (h : All2 (RepV γ F w) l us) : RepA γ F w (packV l) (if h : us.toArray.size = 1 then us.toArray[0] else .tuple us.toArray) := by
  match l, us, h with
  | [x], [u], h =>
    simp only [packV]
    rw [dif_pos (by simp)]
    exact h.1
  | [], [], h => exact ⟨[], by simp, trivial⟩
  | x :: x' :: l, u :: u' :: us, h =>
    simp only [packV]
    rw [dif_neg (by simp)]
    exact ⟨_, rfl, h⟩

theorem fn_sound (hΓ : tabIs P Γ = true) (hT : Sound P T) {D : (R : Type) → Nat → Array Oper → St → (St → Option R) → Option R} (hD : ∀ R b N, DrawOk P b N (D R N)) {ns : Notes} {k : Nat} {f : Nat} {fn : Func} {c : Code} (hf : P.funcs[f]? = some fn) (hb : fn.body = some c)
    {sig : List ASh} {res : List RSh} {x : argDen sig} {y : resDen res} (h : evFn Γ T D ns k fn.ntmps fn.results.toList c (argsV sig x) res = some y) : FnOk P f sig res x y := by
  intro γ F w vals hF hvals
  unfold evFn at h
  cases hn : Nat.ble (argsV sig x).length fn.ntmps with
  | false => rw [hn] at h; cases h
  | true =>
    rw [hn] at h
    simp only [cond_true] at h
    have hlen := hvals.length
    have hnl : (argsV sig x).length ≤ fn.ntmps := by simpa using hn
    let b : Start := ⟨γ, F, w, []⟩
    refine calls_of_wp hf hb ?_
    have hgood : Good b fn.ntmps { env := argEnv 0 (argsV sig x), sto := [], nxt := 0, args := [] } { tmps := vals.toArray ++ Array.replicate (fn.ntmps - vals.toArray.size) undef, defers := [] } w := by
      refine ⟨γ, F, ⟨fun i v hv => ?_, fun i v hv t ht => ?_, ?_, rfl, ⟨fun t x hx => (by cases hx), fun t t' c ht => (by obtain ⟨x, hx⟩ := ht; cases hx), hF⟩, fun t x hx => (by cases hx), fun j t hj => (by simp at hj), rfl, rfl, rfl, Nat.le_refl _, fun _ _ _ => rfl, fun _ h => h, fun _ h => .inl h, fun c hc => absurd hc no_mine, fun _ _ => rfl⟩⟩
      · obtain ⟨_, h2⟩ := look_argEnv hv
        rw [Nat.sub_zero] at h2
        obtain ⟨u, hu, hr⟩ := hvals.get i v h2
        have hil : i < vals.length := (List.getElem?_eq_some_iff.1 hu).1
        have : (vals.toArray ++ Array.replicate (fn.ntmps - vals.toArray.size) undef).getD i undef = u := by
          rw [Array.getD_eq_getD_getElem?, Array.getElem?_append_left (by simpa using hil)]
          simp [hu]
        rw [this]
        exact hr
      · obtain ⟨_, h2⟩ := look_argEnv hv
        rw [argsV_toks sig x v (List.mem_of_getElem? h2)] at ht
        simp at ht
      · simp
        omega
    refine wp_mono (ev_sound hΓ hT (hD _ b _) c 1 _ _ _ w h hgood) ?_
    intro e a' w' hq
    have fin : ∀ (st : St) (ex : X), finFn Γ fn.results.toList res ex st = some y → (match ex with | .exit _ => False | _ => True) → Good b fn.ntmps st a' w' → a'.defers = [] ∧ ∃ v, (results fn a'.tmps).run P w' = .ok v w' ∧
        (∃ u γ' F', Ending.returned v = .returned u ∧ Post 0 γ F w [] γ' F' w' (resSto 0 res y) ∧ RepA γ' F' w' (packV (resVals 0 res y)) u) := by
      intro st ex hfin hex ⟨γ1, F1, h1⟩
      refine ⟨h1.defers, ?_⟩
      unfold finFn at hfin
      cases ex with
      | exit i => exact hex.elim
      | normal | ret =>
        simp only at hfin
        cases hra : resultA Γ fn.results.toList st with
        | none => rw [hra] at hfin; cases hfin
        | some vs =>
          rw [hra] at hfin
          simp only at hfin
          obtain ⟨⟨us, hrun, hrep⟩, hlt⟩ := resultA_run hΓ h1 hra
          cases hfx : fixR res vs st with
          | none => rw [hfx] at hfin; cases hfin
          | some q =>
            obtain ⟨l, st'⟩ := q
            rw [hfx] at hfin
            simp only at hfin
            obtain ⟨γ2, F2, h2, hr2, hl2, hg2⟩ := fixR_sound res vs hfx h1 hlt
            cases hnd : nodupB (l.flatMap V1.toks) with
            | false => rw [hnd] at hfin; cases hfin
            | true =>
              rw [hnd] at hfin
              simp only [cond_true] at hfin
              obtain ⟨i1, i2, i3, i4⟩ := call_in h2.inv (nodupB_ok hnd) (fun t => idxOf (l.flatMap V1.toks) t 0) rfl
              have hrl := (hr2 us hrep).map_left (R' := RepV (fun j => match (l.flatMap V1.toks)[j]? with | some t => γ2 t | none => ⟨none, 0, 0, 0⟩) F2 w') (f := V1.ren fun t => idxOf (l.flatMap V1.toks) t 0) fun x _ v hv => RepV.ren i3 hv
              obtain ⟨r1, r2⟩ := unRs_sound hfin hrl
              refine ⟨if h : us.toArray.size = 1 then us.toArray[0] else .tuple us.toArray, ?_, _, _, F2, rfl, ?_, resVals_pack r1⟩
              · unfold results
                rw [Array.mapM_eq_mapM_toList, Sem.run_bind, Sem.run_map]
                refine Eq.trans (congrArg (fun r : Result (List Value) => (r.andThen fun a w' => Result.ok a.toArray w').andThen fun a w' => (pure (if h : a.size = 1 then a[0] else Value.tuple a) : Sem Value).run P w') hrun) ?_
                rfl
              · refine ⟨h2.os, h2.tape, h2.output, h2.size, fun c hc hm => h2.heap c hc hm, fun t ht => absurd ht (by omega), h2.sub, fun c hc => h2.fnew c hc, fun c hc => ?_, h2.frz, i1.sub r2⟩
                obtain ⟨t, ⟨z, hz⟩, hbk⟩ := hc
                obtain ⟨_, t', z', g1, g2, _⟩ := look_renSto (r2 t z hz)
                rw [Nat.sub_zero] at g1
                simp only [g1] at hbk
                exact h2.mine c ⟨t', ⟨z', g2⟩, hbk⟩
    cases e with
    | normal =>
      obtain ⟨st, h1, h2⟩ := hq
      exact fin st .normal h1 trivial h2
    | ret =>
      obtain ⟨st, h1, h2⟩ := hq
      exact fin st .ret h1 trivial h2
    | exit i =>
      obtain ⟨st, h1, h2⟩ := hq
      simp [finFn] at h1
    | goto l => exact hq.elim
    | panic ch => exact hq.elim
    | outgrown => exact hq.elim
end
end Go.Ab
