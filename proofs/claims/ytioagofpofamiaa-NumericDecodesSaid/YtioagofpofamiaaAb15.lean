/- Calls; all operations. -/
import Derived.Test.YtioagofpofamiaaAb14
/-! Calls; all operations. -/
set_option linter.unusedVariables false
set_option linter.unusedSimpArgs false
namespace Go.Ab

/-! ### Names turned -/
theorem mapM_rep {γ γ' : Nat → G} {f : Nat → Option Nat} (hf : ∀ t u, f t = some u → γ' u = γ t) : ∀ {l l' : List Nat} {bs : List Nat}, l.mapM f = some l' → All2 (fun t b => (γ t).blk = some b) l bs → All2 (fun t b => (γ' t).blk = some b) l' bs
  | [], l', bs, h, hr => by
    simp at h
    subst h
    match bs, hr with
    | [], _ => trivial
  | t :: l, l', bs, h, hr => by
    rw [List.mapM_cons] at h
    simp only [bind, Option.bind_eq_some_iff, pure, Option.some.injEq] at h
    obtain ⟨u, hu, l2, hl2, rfl⟩ := h
    match bs, hr with
    | b :: bs, hr => exact ⟨by show (γ' u).blk = some b; rw [hf t u hu]; exact hr.1, mapM_rep hf hl2 hr.2⟩

theorem RepC.ren {γ γ' : Nat → G} {F : Nat → Prop} {w : World} {f : Nat → Option Nat} (hf : ∀ t u, f t = some u → γ' u = γ t) {c : C} {v : Value} (h : RepC γ F w c v) : RepC γ' F w (c.ren f) v := by
  cases c with
  | own t =>
    simp only [C.ren]
    split
    · rename_i u hu
      simp only [RepC] at h ⊢
      rw [hf t u hu]
      exact h
    · trivial
  | ptr t o =>
    simp only [C.ren]
    split
    · rename_i u hu
      simp only [RepC] at h ⊢
      rw [hf t u hu]
      exact h
    · trivial
  | eptr t i o =>
    simp only [C.ren]
    split
    · rename_i u hu
      simp only [RepC] at h ⊢
      rw [hf t u hu]
      exact h
    · trivial
  | aptr t o n i =>
    simp only [C.ren]
    split
    · rename_i u hu
      simp only [RepC] at h ⊢
      rw [hf t u hu]
      exact h
    · trivial
  | fn g caps =>
    simp only [C.ren]
    split
    · rename_i l hl
      obtain ⟨bs, h1, h2⟩ := h
      exact ⟨bs, h1, mapM_rep hf hl h2⟩
    · trivial
  | int k n => exact h
  | bool b => exact h
  | str s => exact h
  | ro e xs => exact h
  | emp => exact h
  | rptr e x fo => exact h
  | nil k => exact h
  | dead => exact h

theorem RepV.ren {γ γ' : Nat → G} {F : Nat → Prop} {w : World} {f : Nat → Option Nat} (hf : ∀ t u, f t = some u → γ' u = γ t) {x : V1} {v : Value} (h : RepV γ F w x v) : RepV γ' F w (x.ren f) v := by
  cases x with
  | one c => exact RepC.ren hf h
  | agg cs =>
    obtain ⟨l, h1, h2⟩ := h
    exact ⟨l, h1, h2.map_left fun c _ v hv => RepC.ren hf hv⟩

theorem RepA.ren {γ γ' : Nat → G} {F : Nat → Prop} {w : World} {f : Nat → Option Nat} (hf : ∀ t u, f t = some u → γ' u = γ t) {x : AV} {v : Value} (h : RepA γ F w x v) : RepA γ' F w (x.ren f) v := by
  cases x with
  | v x => exact RepV.ren hf h
  | tup l =>
    obtain ⟨vs, h1, h2⟩ := h
    exact ⟨vs, h1, h2.map_left fun y _ u hu => RepV.ren hf hu⟩
  | undef => trivial

theorem BlkOk.ren {γ γ' : Nat → G} {F : Nat → Prop} {w : World} {f : Nat → Option Nat} (hf : ∀ t u, f t = some u → γ' u = γ t) {t u : Nat} (hu : γ' u = γ t) {b : Blk} (h : BlkOk F γ w t b) : BlkOk F γ' w u (b.ren f) := by
  cases b with
  | var cs =>
    obtain ⟨b, cur, E, h1, h2, h3, h4⟩ := h
    exact ⟨b, cur, E, by rw [hu]; exact h1, h2, h3, h4.map_left fun c _ v hv => RepC.ren hf hv⟩
  | row E e m xs =>
    show RowOk F (γ' u) w E e m xs
    rw [hu]
    exact h

theorem look_backSto {g : Nat → Option Nat} (hg : ∀ i j u, g i = some u → g j = some u → i = j) : ∀ {S : Store} {u : Nat} {b' : Blk}, look (backSto g S) u = some b' → ∃ j b, look S j = some b ∧ g j = some u ∧ b' = b.ren g
  | [], u, b', h => by cases h
  | (t, b) :: S, u, b', h => by
    simp only [backSto] at h
    cases hgt : g t with
    | none =>
      rw [hgt] at h
      obtain ⟨j, b2, h1, h2, h3⟩ := look_backSto hg h
      have hne : t ≠ j := fun e => by subst e; rw [hgt] at h2; cases h2
      exact ⟨j, b2, by simp only [look, beq_no hne, cond_false]; exact h1, h2, h3⟩
    | some v =>
      rw [hgt] at h
      simp only [look] at h
      by_cases e : v = u
      · subst e
        rw [beq_yes] at h
        injection h with h
        exact ⟨t, b, by simp only [look, beq_yes, cond_true], hgt, h.symm⟩
      · rw [beq_no e] at h
        obtain ⟨j, b2, h1, h2, h3⟩ := look_backSto hg h
        have hne : t ≠ j := fun e' => by subst e'; rw [hgt] at h2; injection h2 with h2; exact e h2
        exact ⟨j, b2, by simp only [look, beq_no hne, cond_false]; exact h1, h2, h3⟩

theorem look_renSto {ts : List Nat} {f : Nat → Option Nat} {S : Store} : ∀ {l : List Nat} {n j : Nat} {b' : Blk}, look (renSto ts f S l n) j = some b' → n ≤ j ∧ ∃ t b, l[j - n]? = some t ∧ look S t = some b ∧ b' = b.ren f
  | [], n, j, b', h => by cases h
  | t :: l, n, j, b', h => by
    simp only [renSto] at h
    cases hS : look S t with
    | none =>
      rw [hS] at h
      obtain ⟨h1, t', b, h2, h3, h4⟩ := look_renSto h
      refine ⟨by omega, t', b, ?_, h3, h4⟩
      obtain ⟨d, rfl⟩ : ∃ d, j = n + 1 + d := ⟨j - (n + 1), by omega⟩
      have e1 : n + 1 + d - n = d + 1 := by omega
      have e2 : n + 1 + d - (n + 1) = d := by omega
      rw [e2] at h2
      rw [e1]
      simpa using h2
    | some b =>
      rw [hS] at h
      simp only [look] at h
      by_cases e : n = j
      · subst e
        rw [beq_yes] at h
        injection h with h
        exact ⟨Nat.le_refl _, t, b, by simp, hS, h.symm⟩
      · rw [beq_no e] at h
        obtain ⟨h1, t', b, h2, h3, h4⟩ := look_renSto h
        refine ⟨by omega, t', b, ?_, h3, h4⟩
        obtain ⟨d, rfl⟩ : ∃ d, j = n + 1 + d := ⟨j - (n + 1), by omega⟩
        have e1 : n + 1 + d - n = d + 1 := by omega
        have e2 : n + 1 + d - (n + 1) = d := by omega
        rw [e2] at h2
        rw [e1]
        simpa using h2

theorem renSto_length {ts : List Nat} {f : Nat → Option Nat} {S : Store} : ∀ {l : List Nat} {n : Nat}, (∀ t ∈ l, Has S t) → (renSto ts f S l n).length = l.length
  | [], n, _ => rfl
  | t :: l, n, h => by
    obtain ⟨b, hb⟩ := h t (by simp)
    simp only [renSto, hb, List.length_cons]
    rw [renSto_length fun u hu => h u (by simp [hu])]

theorem idxOf_get : ∀ {l : List Nat} {t n j : Nat}, idxOf l t n = some j → n ≤ j ∧ l[j - n]? = some t
  | [], t, n, j, h => by cases h
  | i :: l, t, n, j, h => by
    simp only [idxOf] at h
    by_cases e : i = t
    · subst e
      rw [beq_yes] at h
      simp only [cond_true, Option.some.injEq] at h
      subst h
      exact ⟨Nat.le_refl _, by simp⟩
    · rw [beq_no e] at h
      obtain ⟨h1, h2⟩ := idxOf_get h
      refine ⟨by omega, ?_⟩
      obtain ⟨d, rfl⟩ : ∃ d, j = n + 1 + d := ⟨j - (n + 1), by omega⟩
      have e1 : n + 1 + d - n = d + 1 := by omega
      have e2 : n + 1 + d - (n + 1) = d := by omega
      rw [e2] at h2
      rw [e1]
      simpa using h2
theorem idxOf_lt {l : List Nat} {t j : Nat} (h : idxOf l t 0 = some j) : j < l.length ∧ l[j]? = some t := by
  obtain ⟨_, h⟩ := idxOf_get h
  rw [Nat.sub_zero] at h
  exact ⟨(List.getElem?_eq_some_iff.1 h).1, h⟩

theorem reachGo_ok {S : Store} : ∀ {n : Nat} {todo acc : List Nat}, acc.Nodup → (∀ t ∈ acc, Has S t) → (reachGo S n todo acc).Nodup ∧ ∀ t ∈ reachGo S n todo acc, Has S t
  | 0, _, _, h1, h2 => ⟨h1, h2⟩
  | _ + 1, [], _, h1, h2 => ⟨h1, h2⟩
  | n + 1, t :: todo, acc, h1, h2 => by
    simp only [reachGo]
    cases hm : memb acc t with
    | true => exact reachGo_ok h1 h2
    | false =>
      simp only [cond_false]
      cases hS : look S t with
      | none => exact reachGo_ok h1 h2
      | some b =>
        have hn : t ∉ acc := fun h => by rw [(memb_iff acc t).2 h] at hm; cases hm
        refine reachGo_ok ?_ ?_
        · rw [List.nodup_append]
          refine ⟨h1, by simp, fun a ha b' hb' => ?_⟩
          simp at hb'
          subst hb'
          exact fun e => hn (e ▸ ha)
        · intro u hu
          rcases List.mem_append.1 hu with hu | hu
          · exact h2 u hu
          · simp at hu
            subst hu
            exact ⟨b, hS⟩
theorem reach_ok {S : Store} {l : List AV} : (reach S l).Nodup ∧ ∀ t ∈ reach S l, Has S t := reachGo_ok (by simp) (by simp)

/-! ### Calls -/
/-- What a call comes to. -/
def FnSem (P : Program) (f : Nat) (args : List AV) (S : Store) (m : Nat) (v : AV) (S' : Store) : Prop :=
  ∀ (γ : Nat → G) (F : Nat → Prop) (w : World) (vals : List Value), Inv F γ S w → StoLt m S → ArgLt m args → All2 (RepA γ F w) args vals →
    Calls P f vals.toArray w fun e w' => ∃ u γ' F', e = .returned u ∧ Post m γ F w S γ' F' w' S' ∧ RepA γ' F' w' v u

/-- The functions told in a table are so, and have bodies. -/
def Sound (P : Program) (T : Table) : Prop :=
  ∀ (f : Nat) (args : List AV) (S : Store), ResSem (fun v S' => (∃ fn, P.funcs[f]? = some fn ∧ (fn.name == "runtime.NumGoroutine") = false ∧ fn.body.isNone = false) ∧ FnSem P f args S S.length v S') (lookT T f args S)

theorem run_callFunc {P : Program} {f : Nat} {fn : Func} (h : P.funcs[f]? = some fn) (h1 : (fn.name == "runtime.NumGoroutine") = false) (h2 : fn.body.isNone = false) (args : Array Value) (w : World) : (callFunc f args).run P w = .ok (.enter f args) w := by
  unfold callFunc
  simp only [Sem.run_bind, run_program, Result.andThen_ok]
  rw [h]
  simp only [h1, Bool.false_eq_true, if_false, h2]
  rfl

section
variable {P : Program} {dst : Option Tmp} {ty : TypeId} {pos : String} {aft : Array Edge} {gd : Option (Nat × Bool)} {fr : Nat} {S : Store} {Γ : Tab}

/-- What the caller knows behind a call. -/
theorem call_back {γ : Nat → G} {F : Nat → Prop} {w : World} {args : List AV} (hI : Inv F γ S w) (hlt : StoLt fr S) {ts : List Nat} (hnd : ts.Nodup) (hts : ∀ t ∈ ts, Has S t) {γ1 : Nat → G} {F' : Nat → Prop} {w' : World} {S' : Store} {v : AV} {u : Value}
    (hp : Post ts.length (fun j => match ts[j]? with | some t => γ t | none => ⟨none, 0, 0, 0⟩) F w (renSto ts (fun t => idxOf ts t 0) S ts 0) γ1 F' w' S') (hr : RepA γ1 F' w' v u) :
    ∃ γ', Post fr γ F w S γ' F' w' (backSto (backTok ts fr) S') ∧ RepA γ' F' w' (v.ren (backTok ts fr)) u := by
  have htl : ∀ t ∈ ts, t < fr := fun t ht => by obtain ⟨b, hb⟩ := hts t ht; exact (hlt t b hb).1
  let γ' : Nat → G := fun t => if t < fr then γ t else γ1 (ts.length + (t - fr))
  have hback : ∀ j x, backTok ts fr j = some x → γ' x = γ1 j := by
    intro j x hx
    unfold backTok at hx
    cases hj : ts[j]? with
    | some t =>
      rw [hj] at hx
      simp only [Option.some.injEq] at hx
      subst hx
      have hjl : j < ts.length := (List.getElem?_eq_some_iff.1 hj).1
      have hx := htl t (List.mem_of_getElem? hj)
      show (if t < fr then γ t else _) = _
      rw [if_pos hx]
      have := hp.gam j hjl
      rw [this, hj]
    | none =>
      rw [hj] at hx
      simp only [Option.some.injEq] at hx
      subst hx
      have hjl : ts.length ≤ j := by simpa using hj
      show (if _ then _ else _) = _
      rw [if_neg (by omega)]
      congr 1
      omega
  have hinj : ∀ i j x, backTok ts fr i = some x → backTok ts fr j = some x → i = j := by
    intro i j x hi hj
    unfold backTok at hi hj
    cases h1 : ts[i]? with
    | some t =>
      rw [h1] at hi
      simp only [Option.some.injEq] at hi
      subst hi
      have hx := htl t (List.mem_of_getElem? h1)
      cases h2 : ts[j]? with
      | some t' =>
        rw [h2] at hj
        simp only [Option.some.injEq] at hj
        subst hj
        obtain ⟨hi1, hi2⟩ := List.getElem?_eq_some_iff.1 h1
        obtain ⟨hj1, hj2⟩ := List.getElem?_eq_some_iff.1 h2
        exact (List.getElem_inj hnd).1 (hi2.trans hj2.symm)
      | none =>
        rw [h2] at hj
        simp only [Option.some.injEq] at hj
        omega
    | none =>
      rw [h1] at hi
      simp only [Option.some.injEq] at hi
      have hil : ts.length ≤ i := by simpa using h1
      cases h2 : ts[j]? with
      | some t' =>
        rw [h2] at hj
        simp only [Option.some.injEq] at hj
        have hx := htl t' (List.mem_of_getElem? h2)
        omega
      | none =>
        rw [h2] at hj
        simp only [Option.some.injEq] at hj
        have hjl : ts.length ≤ j := by simpa using h2
        omega
  have hmine : ∀ b, Mine (fun j => match ts[j]? with | some t => γ t | none => ⟨none, 0, 0, 0⟩) (renSto ts (fun t => idxOf ts t 0) S ts 0) b → Mine γ S b := by
    rintro b ⟨j, ⟨x, hx⟩, hb⟩
    obtain ⟨_, t, b', h1, h2, _⟩ := look_renSto hx
    rw [Nat.sub_zero] at h1
    simp only [h1] at hb
    exact ⟨t, ⟨b', h2⟩, hb⟩
  have hmine' : ∀ b, Mine γ' (backSto (backTok ts fr) S') b → Mine γ1 S' b := by
    rintro b ⟨t, ⟨x, hx⟩, hb⟩
    obtain ⟨j, y, h1, h2, _⟩ := look_backSto hinj hx
    rw [hback j t h2] at hb
    exact ⟨j, ⟨y, h1⟩, hb⟩
  refine ⟨γ', ⟨hp.os, hp.tape, hp.output, hp.size, fun b hb hm => hp.heap b hb fun h => hm (hmine b h), fun t ht => if_pos ht, hp.sub, fun b hb => ?_, fun b hb => ?_, hp.frz, ?_⟩, hr.ren hback⟩
  · rcases hp.fnew b hb with h | h | h
    · exact .inl h
    · exact .inr (.inl (hmine b h))
    · exact .inr (.inr h)
  · rcases hp.mine b (hmine' b hb) with h | h
    · exact .inl (hmine b h)
    · exact .inr h
  · refine ⟨fun t b hb => ?_, fun t t' b ht ht' hb hb' => ?_, hp.inv.fz⟩
    · obtain ⟨j, y, h1, h2, rfl⟩ := look_backSto hinj hb
      exact (hp.inv.blk j y h1).ren hback (hback j t h2)
    · obtain ⟨x, hx⟩ := ht
      obtain ⟨x', hx'⟩ := ht'
      obtain ⟨j, y, h1, h2, _⟩ := look_backSto hinj hx
      obtain ⟨j', y', h1', h2', _⟩ := look_backSto hinj hx'
      rw [hback j t h2] at hb
      rw [hback j' t' h2'] at hb'
      have := hp.inv.inj j j' b ⟨y, h1⟩ ⟨y', h1'⟩ hb hb'
      subst this
      rw [h2] at h2'
      injection h2'

theorem ren_toks {f : Nat → Option Nat} {n : Nat} (hl : ∀ t u, f t = some u → u < n) (c : C) (u : Nat) (hu : u ∈ (c.ren f).toks) : u < n := by
  cases c <;> simp only [C.ren] at hu <;> try (simp [C.toks] at hu; done)
  case own t => split at hu <;> simp [C.toks] at hu; subst hu; exact hl _ _ (by assumption)
  case ptr t o => split at hu <;> simp [C.toks] at hu; subst hu; exact hl _ _ (by assumption)
  case eptr t i o => split at hu <;> simp [C.toks] at hu; subst hu; exact hl _ _ (by assumption)
  case aptr t o m i => split at hu <;> simp [C.toks] at hu; subst hu; exact hl _ _ (by assumption)
  case fn g caps =>
    split at hu
    · rename_i l hm
      simp only [C.toks] at hu
      induction caps generalizing l with
      | nil => simp at hm; subst hm; simp at hu
      | cons t caps ih =>
        rw [List.mapM_cons] at hm
        simp only [bind, Option.bind_eq_some_iff, pure, Option.some.injEq] at hm
        obtain ⟨x, hx, l2, hl2, rfl⟩ := hm
        rcases List.mem_cons.1 hu with rfl | hu
        · exact hl _ _ hx
        · exact ih l2 hl2 hu
    · simp [C.toks] at hu

/-- What the callee is handed. -/
theorem call_in {γ : Nat → G} {F : Nat → Prop} {w : World} (hI : Inv F γ S w) {ts : List Nat} (hnd : ts.Nodup) (σ : Nat → Option Nat) (hσ : σ = fun t => idxOf ts t 0) :
    Inv F (fun j => match ts[j]? with | some t => γ t | none => ⟨none, 0, 0, 0⟩) (renSto ts σ S ts 0) w ∧ StoLt ts.length (renSto ts σ S ts 0) ∧ (∀ t u, σ t = some u → (fun j => match ts[j]? with | some t => γ t | none => (⟨none, 0, 0, 0⟩ : G)) u = γ t) ∧ ∀ t u, σ t = some u → u < ts.length := by
  subst hσ
  have hγ : ∀ t u, idxOf ts t 0 = some u → (fun j => match ts[j]? with | some t => γ t | none => (⟨none, 0, 0, 0⟩ : G)) u = γ t := by
    intro t u h
    obtain ⟨_, h⟩ := idxOf_lt h
    simp only [h]
  have hl : ∀ t u, idxOf ts t 0 = some u → u < ts.length := fun t u h => (idxOf_lt h).1
  refine ⟨⟨fun j b hb => ?_, fun i j b hi hj hb hb' => ?_, hI.fz⟩, fun j b hb => ?_, hγ, hl⟩
  · obtain ⟨_, t, x, h1, h2, rfl⟩ := look_renSto hb
    rw [Nat.sub_zero] at h1
    exact (hI.blk t x h2).ren hγ (by simp only [h1])
  · obtain ⟨x, hx⟩ := hi
    obtain ⟨x', hx'⟩ := hj
    obtain ⟨_, t, y, h1, h2, _⟩ := look_renSto hx
    obtain ⟨_, t', y', h1', h2', _⟩ := look_renSto hx'
    rw [Nat.sub_zero] at h1 h1'
    simp only [h1] at hb
    simp only [h1'] at hb'
    have := hI.inj t t' b ⟨y, h2⟩ ⟨y', h2'⟩ hb hb'
    subst this
    obtain ⟨hi1, hi2⟩ := List.getElem?_eq_some_iff.1 h1
    obtain ⟨hj1, hj2⟩ := List.getElem?_eq_some_iff.1 h1'
    exact (List.getElem_inj hnd).1 (hi2.trans hj2.symm)
  · obtain ⟨_, t, x, h1, h2, rfl⟩ := look_renSto hb
    rw [Nat.sub_zero] at h1
    refine ⟨(List.getElem?_eq_some_iff.1 h1).1, fun u hu => ?_⟩
    cases x with
    | row E e m xs => simp [Blk.ren, Blk.toks] at hu
    | var cs =>
      simp only [Blk.ren, Blk.toks, List.mem_flatMap, List.mem_map] at hu
      obtain ⟨c, ⟨c', hc', rfl⟩, hu⟩ := hu
      exact ren_toks hl c' u hu

theorem all2_append_args {γ : Nat → G} {F : Nat → Prop} {w : World} : ∀ {l l' : List AV} {m m' : List Value}, All2 (RepA γ F w) l m → All2 (RepA γ F w) l' m' → All2 (RepA γ F w) (l ++ l') (m ++ m') := All2.append

theorem sem_call {T : Table} (hT : Sound P T) (x : Operand) (xs : Array Operand) (ts : Array TypeId) (f : Nat) (caps : List Nat) (vs : List AV) :
    ResSem (OpSem P ⟨dst, .call { callee := .value x, args := xs, argTypes := ts }, ty, pos, aft, gd⟩ (one (.fn f caps) :: vs) fr S) (callA T f (vs ++ caps.map fun t => one (.ptr t 0)) fr S) := by
  have hops : ((Op.call { callee := .value x, args := xs, argTypes := ts }).operands).toList = x :: xs.toList := by simp [Op.operands, Call.operands]
  let args := vs ++ caps.map fun t => one (.ptr t 0)
  let tk := reach S args
  obtain ⟨hnd, hts⟩ := reach_ok (S := S) (l := args)
  have key : ∀ (v : AV) (S' : Store), ((∃ fn, P.funcs[f]? = some fn ∧ (fn.name == "runtime.NumGoroutine") = false ∧ fn.body.isNone = false) ∧ FnSem P f (args.map (AV.ren fun t => idxOf tk t 0)) (renSto tk (fun t => idxOf tk t 0) S tk 0) tk.length v S') →
      OpSem P ⟨dst, .call { callee := .value x, args := xs, argTypes := ts }, ty, pos, aft, gd⟩ (one (.fn f caps) :: vs) fr S (v.ren (backTok tk fr)) (backSto (backTok tk fr) S') := by
    rintro v S' ⟨⟨fn, hfn, hn1, hn2⟩, hsem⟩ γ F w a hI hlt hal hA next Q hn
    rw [hops] at hA
    obtain ⟨⟨bs, hfv, hcaps⟩, hA2⟩ := hA
    have hvals := all2_args hA2
    have hcv : All2 (RepA γ F w) (caps.map fun t => one (.ptr t 0)) (bs.map fun b => Value.pointer (some ⟨b, 0, none⟩)) := by
      clear hfv
      induction caps generalizing bs with
      | nil => match bs, hcaps with | [], _ => trivial
      | cons t caps ih =>
        match bs, hcaps with
        | b :: bs, hc =>
          refine ⟨⟨b, hc.1, rfl⟩, ?_⟩
          have : ∀ (caps : List Nat) (bs : List Nat), All2 (fun t b => (γ t).blk = some b) caps bs → All2 (RepA γ F w) (caps.map fun t => one (.ptr t 0)) (bs.map fun b => Value.pointer (some ⟨b, 0, none⟩)) := by
            intro caps
            induction caps with
            | nil => intro bs h; match bs, h with | [], _ => trivial
            | cons t caps ih =>
              intro bs h
              match bs, h with
              | b :: bs, h => exact ⟨⟨b, h.1, rfl⟩, ih bs h.2⟩
          exact this caps bs hc.2
    have hargs : All2 (RepA γ F w) args (xs.toList.map a.eval ++ bs.map fun b => Value.pointer (some ⟨b, 0, none⟩)) := hvals.append hcv
    obtain ⟨h1, h2, h3, h4⟩ := call_in hI hnd (fun t => idxOf tk t 0) rfl
    have hargs' := hargs.map_left (R' := RepA (fun j => match tk[j]? with | some t => γ t | none => ⟨none, 0, 0, 0⟩) F w) (f := AV.ren fun t => idxOf tk t 0) fun av _ v hv => RepA.ren h3 hv
    have hal' : ArgLt tk.length (args.map (AV.ren fun t => idxOf tk t 0)) := by
      intro y hy t ht
      obtain ⟨z, _, rfl⟩ := List.mem_map.1 hy
      have cell : ∀ (c : C), t ∈ (c.ren fun t => idxOf tk t 0).toks → t < tk.length := fun c hc => ren_toks h4 c t hc
      cases z with
      | v q =>
        cases q with
        | one c => exact cell c (by simpa [AV.ren, V1.ren, AV.toks, V1.toks, V1.cells] using ht)
        | agg cs =>
          simp only [AV.ren, V1.ren, AV.toks, V1.toks, V1.cells, List.mem_flatMap, List.mem_map] at ht
          obtain ⟨_, ⟨c, _, rfl⟩, hc⟩ := ht
          exact cell c hc
      | tup l =>
        simp only [AV.ren, AV.toks, List.mem_flatMap, List.mem_map] at ht
        obtain ⟨_, ⟨q, _, rfl⟩, hq⟩ := ht
        cases q with
        | one c => exact cell c (by simpa [V1.ren, V1.toks, V1.cells] using hq)
        | agg cs =>
          simp only [V1.ren, V1.toks, V1.cells, List.mem_flatMap, List.mem_map] at hq
          obtain ⟨_, ⟨c, _, rfl⟩, hc⟩ := hq
          exact cell c hc
      | undef => simp [AV.ren, AV.toks] at ht
    have hcall := hsem _ F w _ h1 h2 hal' hargs'
    have hfx : a.eval x = .func (.func f) #[] (bs.map fun b => Value.pointer (some ⟨b, 0, none⟩)).toArray := hfv
    unfold Oper.wp
    have hrun : (execOp a.eval ⟨dst, .call { callee := .value x, args := xs, argTypes := ts }, ty, pos, aft, gd⟩).run P w = .ok (.enter f (xs.toList.map a.eval ++ bs.map fun b => Value.pointer (some ⟨b, 0, none⟩)).toArray) w := by
      simp only [execOp, resolve, hfx, Deferred.ofValue, Sem.run_bind, Sem.run_pure, Result.andThen_ok, invoke]
      rw [run_callFunc hfn hn1 hn2]
      congr 2
      apply Array.ext'
      simp
    rw [hrun]
    show Calls P f _ w _
    refine hcall.mono ?_
    rintro e w' ⟨u, γ1, F', rfl, hp, hr⟩
    obtain ⟨γ', hp', hr'⟩ := call_back (args := args) hI hlt hnd hts hp hr
    exact hn u γ' F' w' hp' hr'
  have h := hT f (args.map (AV.ren fun t => idxOf tk t 0)) (renSto tk (fun t => idxOf tk t 0) S tk 0)
  rw [renSto_length hts] at h
  show ResSem _ (match lookT T f (args.map (AV.ren fun t => idxOf tk t 0)) (renSto tk (fun t => idxOf tk t 0) S tk 0) with
    | .ok v S' => .ok (v.ren (backTok tk fr)) (backSto (backTok tk fr) S')
    | .chk c v S' => .chk c (v.ren (backTok tk fr)) (backSto (backTok tk fr) S')
    | .call R m h => .call R m fun x => ((h x).1.ren (backTok tk fr), backSto (backTok tk fr) (h x).2)
    | .fail => .fail)
  cases hl : lookT T f (args.map (AV.ren fun t => idxOf tk t 0)) (renSto tk (fun t => idxOf tk t 0) S tk 0) with
  | ok v S' => rw [hl] at h; exact key v S' h
  | chk c v S' => rw [hl] at h; exact fun hc => key v S' (h hc)
  | call R m g => rw [hl] at h; exact fun z hz => key _ _ (h z hz)
  | fail => trivial

theorem capsOf_rep {γ : Nat → G} {F : Nat → Prop} {w : World} : ∀ {vs : List AV} {l : List Nat} {us : List Value}, capsOf vs = some l → All2 (RepA γ F w) vs us → ∃ bs : List Nat, us = bs.map (fun b => Value.pointer (some ⟨b, 0, none⟩)) ∧ All2 (fun t b => (γ t).blk = some b) l bs
  | [], l, [], h, _ => by simp only [capsOf, Option.some.injEq] at h; subst h; exact ⟨[], rfl, trivial⟩
  | v :: vs, l, u :: us, h, hr => by
    unfold capsOf at h
    split at h
    · rename_i e; cases e
    · rename_i t vs' e
      injection e with e1 e2
      subst e1 e2
      split at h
      · rename_i l2 h2
        injection h with h
        subst h
        obtain ⟨bs, h3, h4⟩ := capsOf_rep h2 hr.2
        obtain ⟨b, hb, hu⟩ := hr.1
        exact ⟨b :: bs, by rw [h3, hu]; rfl, hb, h4⟩
      · cases h
    · cases h
  | [], _, _ :: _, _, h => h.elim
  | _ :: _, _, [], _, h => h.elim

theorem sem_makeFunc (f : FuncId) (first cap : Array Operand) (hf : first.size = 0) (vs : List AV) (l : List Nat) (hl : capsOf vs = some l) : OpSem P ⟨dst, .makeFunc (.func f) first cap, ty, pos, aft, gd⟩ vs fr S (one (.fn f l)) S := by
  have h0 : first = #[] := Array.size_eq_zero_iff.1 hf
  subst h0
  refine OpSem.pure fun γ F w a hI hA => ?_
  have hA' : All2 (RepA γ F w) vs (cap.toList.map a.eval) := by
    have := all2_args hA
    simpa [Op.operands] using this
  obtain ⟨bs, h1, h2⟩ := capsOf_rep hl hA'
  refine ⟨.func (.func f) #[] (bs.map fun b => Value.pointer (some ⟨b, 0, none⟩)).toArray, ?_, bs, rfl, h2⟩
  have : cap.map a.eval = (bs.map fun b => Value.pointer (some ⟨b, 0, none⟩)).toArray := by apply Array.ext'; simpa using h1
  simp [execOp, Instr.makeFunc, this]

/-- ANY operation comes to what the abstract one tells. -/
theorem stepOp_sound (hΓ : tabIs P Γ = true) {T : Table} (hT : Sound P T) (op : Op) (args : List AV) : ResSem (OpSem P ⟨dst, op, ty, pos, aft, gd⟩ args fr S) (stepOp Γ T op args fr S) := by
  unfold stepOp
  split
  · exact sem_move _ _
  · exact sem_assign _ _
  · exact sem_pick _ _ _ _ _ _
  · split
    · rename_i hr
      exact sem_alloc hΓ _ _ _ hr rfl
    · trivial
  · rename_i t x av
    cases hl : av.cells.all C.live with
    | true => exact sem_box _ _ _ hl
    | false => trivial
  · cases hl : args.all liveA with
    | true => exact sem_build hΓ _ _ _ hl
    | false => trivial
  · exact sem_buildSlice hΓ _ _ _ _
  · exact sem_load hΓ _ _ _
  · exact sem_store hΓ _ _ _ _ _
  · rename_i x ax
    split
    · exact sem_nilCheck _ _ trivial
    · exact sem_nilCheck _ _ trivial
    · exact sem_nilCheck _ _ trivial
    · exact sem_nilCheck _ _ trivial
    · exact sem_nilCheck _ _ trivial
    · trivial
  · exact sem_bin hΓ _ _ _ _ _ _ _
  · exact sem_un _ _ _ _
  · exact sem_convert hΓ _ _ _ _
  · exact sem_make hΓ _ _ _ _ _
  · rename_i t x l h ax al ah
    exact sem_slice hΓ _ _ _ _ _ _ _ _ fun γ F w a hA => ⟨hA.1, hA.2.1, hA.2.2.1⟩
  · rename_i t x l ax al
    exact sem_slice hΓ _ _ _ _ _ _ _ _ fun γ F w a hA => ⟨hA.1, hA.2.1, trivial⟩
  · rename_i t x h ax ah
    exact sem_slice hΓ _ _ _ _ _ _ _ _ fun γ F w a hA => ⟨hA.1, trivial, hA.2.1⟩
  · rename_i t x ax
    exact sem_slice hΓ _ _ _ _ _ _ _ _ fun γ F w a hA => ⟨hA.1, trivial, trivial⟩
  · exact sem_fieldAddr hΓ _ _ _ _
  · exact sem_field hΓ _ _ _ _
  · exact sem_indexAddr hΓ _ _ _ _ _
  · exact sem_index hΓ _ _ _ _ _
  · split
    · rename_i hy
      exact sem_extract _ _ _ _ hy
    · trivial
  · rename_i b xs ts vs
    unfold builtinA
    split
    · exact sem_len hΓ _ _ _
    · exact sem_append hΓ _ _ _ _
    · split
      · rename_i hz
        exact sem_maxmin _ _ _ _ _ _ mxI (.inl ⟨rfl, rfl⟩) _ hz
      · trivial
    · split
      · rename_i hz
        exact sem_maxmin _ _ _ _ _ _ mnI (.inr ⟨rfl, rfl⟩) _ hz
      · trivial
    · trivial
  · exact sem_call hT _ _ _ _ _ _
  · rename_i _ f first cap
    cases hf : Nat.beq first.size 0 with
    | false => trivial
    | true =>
      simp only [cond_true]
      split
      · rename_i l hl
        exact sem_makeFunc _ _ _ (by simpa using hf) _ _ hl
      · trivial
  · trivial
end
end Go.Ab
