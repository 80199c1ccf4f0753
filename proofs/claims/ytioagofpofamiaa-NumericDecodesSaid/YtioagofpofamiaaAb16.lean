/- The code: a state goes on. -/
import Derived.Test.YtioagofpofamiaaAb15
/-! The code: a state goes on. -/
set_option linter.unusedVariables false
set_option linter.unusedSimpArgs false
namespace Go.Ab

/-- Where the call began. -/
structure Start where
  γ : Nat → G
  F : Nat → Prop
  w : World
  S : Store

/-- A state fits a frame and a world; and what has become of the world since the call began. -/
structure Ok (b : Start) (N : Nat) (st : St) (a : Act) (w : World) (γ : Nat → G) (F : Nat → Prop) : Prop where
  env : ∀ i v, look st.env i = some v → RepA γ F w v (a.tmps.getD i Go.undef)
  envLt : ∀ i v, look st.env i = some v → ∀ t ∈ v.toks, t < st.nxt
  num : a.tmps.size = N
  defers : a.defers = []
  inv : Inv F γ st.sto w
  lt : StoLt st.nxt st.sto
  args : ∀ j t, st.args[j]? = some (some t) → γ t = b.γ j ∧ t < st.nxt
  os : w.os = b.w.os
  tape : w.tape = b.w.tape
  output : w.output = b.w.output
  size : b.w.heap.size ≤ w.heap.size
  heap : ∀ c, c < b.w.heap.size → ¬ Mine b.γ b.S c → w.heap[c]? = b.w.heap[c]?
  sub : ∀ c, b.F c → F c
  fnew : ∀ c, F c → b.F c ∨ Mine b.γ b.S c ∨ b.w.heap.size ≤ c
  mine : ∀ c, Mine γ st.sto c → Mine b.γ b.S c ∨ b.w.heap.size ≤ c
  frz : ∀ c, b.F c → w.heap[c]? = b.w.heap[c]?

def Good (b : Start) (N : Nat) (st : St) (a : Act) (w : World) : Prop := ∃ γ F, Ok b N st a w γ F

theorem topKey_le : ∀ (S : Store) (n : Nat), n ≤ topKey S n
  | [], n => Nat.le_refl _
  | (t, _) :: l, n => by
    simp only [topKey]
    cases h : Nat.ble n t with
    | true => exact Nat.le_trans (by have := Nat.le_of_ble_eq_true h; simp only [cond_true]; omega) (topKey_le l _)
    | false => exact topKey_le l _

theorem look_putE (env : Env) (d : Option Nat) (v : AV) (i : Nat) : look (putE env d v) i = if d = some i then some v else look env i := by
  cases d with
  | none => simp [putE]
  | some d =>
    simp only [putE, look_upd]
    by_cases h : d = i <;> simp [h]

theorem put_getD (a : Act) (d : Option Nat) (u : Value) (i : Nat) : (a.put d u).tmps.getD i Go.undef = if d = some i ∧ i < a.tmps.size then u else a.tmps.getD i Go.undef := by
  cases d with
  | none => simp [Act.put]
  | some d =>
    simp only [Act.put]
    by_cases h : d = i
    · subst h
      by_cases h2 : d < a.tmps.size
      · simp [h2]
      · simp [h2]
    · have h' : ¬ (some d = some i) := by simpa using h
      simp only [h', false_and, if_false]
      simp only [Array.getD_eq_getD_getElem?]
      rw [Array.getElem?_setIfInBounds_ne h]

section
variable {P : Program} {b : Start} {N : Nat} {Γ : Tab} {T : Table}

/-- The state behind an operation fits. -/
theorem Ok.after {st st' : St} {a : Act} {w w' : World} {γ γ' : Nat → G} {F F' : Nat → Prop} (h : Ok b N st a w γ F) {ts : List Nat} {dst : Option Nat} {v : AV} {S' : Store} {u : Value} (ha : Ab.after N st ts dst v S' = some st')
    (hp : Post st.nxt γ F w (keep (memb ts) st.sto) γ' F' w' S') (hr : RepA γ' F' w' v u) : Ok b N st' (a.put dst u) w' γ' F' := by
  unfold Ab.after at ha
  simp only at ha
  cases hc : keysOk ts st.nxt S' && (stoLt (topKey S' st.nxt) S' && (allLt (topKey S' st.nxt) v.toks && dstOk N dst)) with
  | false => rw [hc] at ha; cases ha
  | true =>
    rw [hc] at ha
    simp only [cond_true, Option.some.injEq] at ha
    subst ha
    simp only [Bool.and_eq_true] at hc
    obtain ⟨hk, hl, hv, hd⟩ := hc
    have hnx := topKey_le S' st.nxt
    have hml : ∀ c, Mine γ (keep (memb ts) st.sto) c → Mine γ st.sto c := fun c ⟨t, ht, hb⟩ => ⟨t, (Has.keep.1 ht).2, hb⟩
    refine ⟨fun i x hx => ?_, fun i x hx t ht => ?_, ?_, ?_, h.inv.split h.lt hp fun t ht => keysOk_has hk ht, fun t x hx => ?_, fun j t hj => ?_, hp.os.trans h.os, hp.tape.trans h.tape, hp.output.trans h.output, Nat.le_trans h.size hp.size, fun c hc hm => ?_, fun c hc => hp.sub c (h.sub c hc), fun c hc => ?_, fun c hc => ?_, fun c hc => ?_⟩
    · simp only [look_putE] at hx
      rw [put_getD, h.num]
      by_cases hi : dst = some i
      · rw [if_pos hi] at hx
        injection hx with hx
        subst hx
        have : i < N := by rw [hi] at hd; simpa [dstOk, Nat.blt_eq] using hd
        rw [if_pos ⟨hi, this⟩]
        exact hr
      · rw [if_neg hi] at hx
        rw [if_neg (fun hh => hi hh.1)]
        exact (h.env i x hx).lasts hp.lasts fun t ht => hp.gam t (h.envLt i x hx t ht)
    · simp only [look_putE] at hx
      by_cases hi : dst = some i
      · rw [if_pos hi] at hx
        injection hx with hx
        subst hx
        exact allLt_mem hv t ht
      · rw [if_neg hi] at hx
        exact Nat.lt_of_lt_of_le (h.envLt i x hx t ht) hnx
    · cases dst <;> simp [Act.put, h.num]
    · cases dst <;> exact h.defers
    · rw [look_append] at hx
      cases hS : look (keep (fun t => !memb ts t) st.sto) t with
      | some y =>
        rw [hS] at hx
        injection hx with hx
        subst hx
        rw [look_keep] at hS
        split at hS
        · obtain ⟨h1, h2⟩ := h.lt t y hS
          exact ⟨Nat.lt_of_lt_of_le h1 hnx, fun u hu => Nat.lt_of_lt_of_le (h2 u hu) hnx⟩
        · cases hS
      | none =>
        rw [hS] at hx
        exact stoLt_look hl hx
    · obtain ⟨h1, h2⟩ := h.args j t hj
      exact ⟨(hp.gam t h2).trans h1, Nat.lt_of_lt_of_le h2 hnx⟩
    · by_cases hm2 : Mine γ (keep (memb ts) st.sto) c
      · rcases h.mine c (hml c hm2) with h1 | h1
        · exact absurd h1 hm
        · omega
      · rw [hp.heap c (Nat.lt_of_lt_of_le hc h.size) hm2]
        exact h.heap c hc hm
    · rcases hp.fnew c hc with h1 | h1 | h1
      · exact h.fnew c h1
      · exact .inr (h.mine c (hml c h1))
      · exact .inr (.inr (Nat.le_trans h.size h1))
    · obtain ⟨t, ht, hb⟩ := hc
      rcases Has.append.1 ht with ht | ht
      · obtain ⟨y, hy⟩ := (Has.keep.1 ht).2
        rw [hp.gam t (h.lt t y hy).1] at hb
        exact h.mine c ⟨t, ⟨y, hy⟩, hb⟩
      · rcases hp.mine c ⟨t, ht, hb⟩ with h1 | h1
        · exact h.mine c (hml c h1)
        · exact .inr (Nat.le_trans h.size h1)
    · rw [hp.frz c (h.sub c hc)]
      exact h.frz c hc

theorem constV_rep {γ : Nat → G} {F : Nat → Prop} {w : World} (v : Value) : RepA γ F w (constV v) v := by
  have cell : ∀ v : Value, RepC γ F w (cellConst v) v := by
    intro v
    unfold cellConst
    split <;> first | rfl | trivial
  unfold constV
  split
  · rename_i cs
    refine ⟨cs.toList, by simp, ?_⟩
    have : ∀ l : List Value, All2 (RepC γ F w) (l.map cellConst) l := by
      intro l
      induction l with
      | nil => trivial
      | cons x l ih => exact ⟨cell x, ih⟩
    exact this _
  · trivial
  · exact cell v
theorem constV_toks (v : Value) : (constV v).toks = [] := by
  have cell : ∀ v : Value, (cellConst v).toks = [] := by
    intro v
    unfold cellConst
    split <;> rfl
  unfold constV
  split
  · rename_i cs
    simp only [AV.toks, V1.toks, V1.cells]
    have : ∀ l : List Value, (l.map cellConst).flatMap C.toks = [] := by
      intro l
      induction l with
      | nil => rfl
      | cons x l ih => simp [cell x, ih]
    exact this _
  · rfl
  · simp [AV.toks, V1.toks, V1.cells, cell]

theorem Ok.eval {st : St} {a : Act} {w : World} {γ : Nat → G} {F : Nat → Prop} (h : Ok b N st a w γ F) (x : Operand) : RepA γ F w (evalA st.env x) (a.eval x) ∧ ∀ t ∈ (evalA st.env x).toks, t < st.nxt := by
  cases x with
  | tmp t =>
    simp only [evalA, Act.eval]
    cases hl : look st.env t with
    | some v => exact ⟨h.env t v hl, h.envLt t v hl⟩
    | none => exact ⟨trivial, fun t ht => by simp [AV.toks] at ht⟩
  | const v => exact ⟨constV_rep v, fun t ht => by simp only [evalA, constV_toks] at ht; simp at ht⟩
  | global g => exact ⟨trivial, fun t ht => by simp [evalA, AV.toks] at ht⟩
  | func f => exact ⟨⟨[], rfl, trivial⟩, fun t ht => by simp [evalA, AV.toks, V1.toks, V1.cells, C.toks] at ht⟩

theorem Ok.evals {st : St} {a : Act} {w : World} {γ : Nat → G} {F : Nat → Prop} (h : Ok b N st a w γ F) : ∀ (l : List Operand), All2 (fun x av => RepA γ F w av (a.eval x)) l (l.map (evalA st.env)) ∧ ArgLt st.nxt (l.map (evalA st.env))
  | [] => ⟨trivial, fun x hx => by simp at hx⟩
  | x :: l => ⟨⟨(h.eval x).1, (h.evals l).1⟩, fun y hy => by
      rcases List.mem_cons.1 hy with rfl | hy
      · exact (h.eval x).2
      · exact (h.evals l).2 y hy⟩

theorem stoLt_part {n : Nat} {S : Store} (h : StoLt n S) (f : Nat → Bool) : StoLt n (keep f S) := by
  intro t x hx
  rw [look_keep] at hx
  split at hx
  · exact h t x hx
  · cases hx

/-- An operation that is wanted. -/
theorem evRun_sound (hΓ : tabIs P Γ = true) (hT : Sound P T) {R : Type} {o : Oper} {st : St} {K : St → Option R} {r : R} {a : Act} {w : World} {g : Bool} (he : evRun Γ T N g o st K = some r) (hg : Good b N st a w)
    {next : Act → World → Prop} {Q : Exit → Act → World → Prop} (hn : ∀ st' a' w', K st' = some r → Good b N st' a' w' → next a' w') : o.wp P a w next Q := by
  obtain ⟨γ, F, h⟩ := hg
  obtain ⟨dst, op, ty, pos, aft, gd⟩ := o
  unfold evRun at he
  simp only at he
  obtain ⟨hA, hAl⟩ := h.evals op.operands.toList
  have hs := stepOp_sound (P := P) (dst := dst) (ty := ty) (pos := pos) (aft := aft) (gd := gd) (fr := st.nxt) (S := keep (memb (reach st.sto (argsOf st.env ⟨dst, op, ty, pos, aft, gd⟩))) st.sto) hΓ hT op (argsOf st.env ⟨dst, op, ty, pos, aft, gd⟩)
  have key : ∀ (v : AV) (S' : Store), OpSem P ⟨dst, op, ty, pos, aft, gd⟩ (argsOf st.env ⟨dst, op, ty, pos, aft, gd⟩) st.nxt (keep (memb (reach st.sto (argsOf st.env ⟨dst, op, ty, pos, aft, gd⟩))) st.sto) v S' →
      (splitB g v fun v => onAfter (after N st (reach st.sto (argsOf st.env ⟨dst, op, ty, pos, aft, gd⟩)) dst v S') K) = some r → Oper.wp P ⟨dst, op, ty, pos, aft, gd⟩ a w next Q := by
    intro v S' hsem hon
    replace hon := splitB_eq hon
    refine hsem γ F w a (h.inv.part _) (stoLt_part h.lt _) hAl hA next Q fun u γ' F' w' hp hr => ?_
    unfold onAfter at hon
    split at hon
    · rename_i st' hst'
      exact hn st' _ _ hon ⟨γ', F', h.after hst' hp hr⟩
    · cases hon
  unfold runRes at he
  split at he
  · rename_i v S' hres
    rw [hres] at hs
    exact key v S' hs he
  · rename_i c v S' hres
    rw [hres] at hs
    cases c with
    | true => exact key v S' (hs rfl) he
    | false => cases he
  · rename_i R' m g hres
    rw [hres] at hs
    obtain ⟨x, hx, he⟩ := Option.bind_eq_some_iff.1 he
    exact key _ _ (hs x hx) he
  · cases he

theorem keep_all {α : Type} (l : List (Nat × α)) : keep (memb []) l = [] := by
  induction l with
  | nil => rfl
  | cons p l ih => exact ih

theorem yielded_rep {ops : Array Oper} {st : St} {a : Act} {w : World} {γ : Nat → G} {F : Nat → Prop} (h : Ok b N st a w γ F) {o : Oper} {g : Option Bool} (hg : guardA ops st.env o = some g) :
    Region.wanted o (yielded ops a.tmps) = (match g with | none => true | some x => x) := by
  unfold guardA at hg
  unfold Region.wanted
  split at hg
  · rename_i ho
    injection hg with hg
    subst hg
    rw [ho]
  · rename_i j want ho
    rw [ho]
    simp only
    split at hg
    · rename_i d hd
      split at hg
      · rename_i x hx
        injection hg with hg
        subst hg
        have := h.env d _ hx
        have hv : a.tmps.getD d Go.undef = .bool x := this
        unfold yielded
        rw [hd]
        simp only [Option.bind_some]
        have h2 : a.tmps[d]? = some (.bool x) := by
          rw [Array.getD_eq_getD_getElem?] at hv
          cases hq : a.tmps[d]? with
          | some q => rw [hq] at hv; simp at hv; rw [hv]
          | none => rw [hq] at hv; simp [Go.undef] at hv
        rw [h2]
        cases x <;> cases want <;> rfl
      · rename_i hx
        injection hg with hg
        subst hg
        have := h.env d _ hx
        obtain ⟨vs, hv, hvs⟩ := this
        have hvs0 : vs = [] := by match vs, hvs with | [], _ => rfl
        subst hvs0
        unfold yielded
        rw [hd]
        simp only [Option.bind_some]
        cases hq : a.tmps[d]? with
        | none => rfl
        | some q =>
          rw [Array.getD_eq_getD_getElem?, hq] at hv
          simp at hv
          subst hv
          rfl
      · cases hg
    · cases hg

theorem evOper_sound (hΓ : tabIs P Γ = true) (hT : Sound P T) {R : Type} {ops : Array Oper} {i : Nat} {o : Oper} (hi : ops[i]? = some o) {st : St} {K : St → Option R} {r : R} {a : Act} {w : World} (he : evOper Γ T N ops o st K = some r) (hg : Good b N st a w)
    {next : Act → World → Prop} {Q : Exit → Act → World → Prop} (hn : ∀ st' a' w', K st' = some r → Good b N st' a' w' → next a' w') : wpOp P ops Q i next a w := by
  unfold wpOp
  rw [hi]
  simp only
  have hg' := hg
  obtain ⟨γ, F, h⟩ := hg
  unfold evOper at he
  split at he
  · cases he
  · rename_i hgd
    have := yielded_rep h hgd
    simp only at this
    rw [this]
    simp only [if_true]
    exact .inl (evRun_sound hΓ hT he hg' hn)
  · rename_i x hgd
    have := yielded_rep h hgd
    simp only at this
    rw [this]
    cases x with
    | true =>
      simp only [if_true]
      exact .inl (evRun_sound hΓ hT he hg' hn)
    | false =>
      simp only [Bool.false_eq_true, if_false]
      simp only [cond_false] at he
      unfold onAfter at he
      split at he
      · rename_i st' hst'
        refine hn st' _ _ he ⟨γ, F, h.after hst' ?_ ⟨[], rfl, trivial⟩⟩
        rw [keep_all]
        exact Post.same ⟨fun t x hx => (by cases hx), fun t t' c ht => (by obtain ⟨x, hx⟩ := ht; cases hx), h.inv.fz⟩
      · cases he

theorem evOps_sound (hΓ : tabIs P Γ = true) (hT : Sound P T) {R : Type} {ops : Array Oper} {K : St → Option R} {r : R} {Q : Exit → Act → World → Prop} (hn : ∀ st' a' w', K st' = some r → Good b N st' a' w' → Q .normal a' w') :
    ∀ (l : List Oper) (k : Nat) (st : St) (a : Act) (w : World), ops.toList.drop k = l → evOps Γ T N ops l st K = some r → Good b N st a w → wpOps P ops Q (List.range' k l.length) a w
  | [], k, st, a, w, _, he, hg => hn st a w he hg
  | o :: l, k, st, a, w, hl, he, hg => by
    have ho : ops[k]? = some o := by
      have := congrArg (·[0]?) hl
      simpa using this
    have hd : ops.toList.drop (k + 1) = l := by
      have := congrArg (List.drop 1) hl
      simpa [List.drop_drop, Nat.add_comm] using this
    simp only [List.length_cons, List.range'_succ]
    rw [wpOps_cons]
    exact evOper_sound hΓ hT ho he hg fun st' a' w' hk hg' => evOps_sound hΓ hT hn l (k + 1) st' a' w' hd hk hg'

/-! ### What is kept where code is come to again -/
theorem look_slotsOf {env : Env} : ∀ {l : List Nat} {i : Nat} {v : AV}, look (slotsOf env l) i = some v → look env i = some v
  | [], i, v, h => by cases h
  | j :: l, i, v, h => by
    simp only [slotsOf] at h
    cases hj : look env j with
    | none => rw [hj] at h; exact look_slotsOf h
    | some x =>
      rw [hj] at h
      simp only [look] at h
      by_cases e : j = i
      · subst e
        rw [beq_yes] at h
        injection h with h
        subst h
        exact hj
      · rw [beq_no e] at h
        exact look_slotsOf h
theorem look_renEnv {f : Nat → Option Nat} : ∀ {env : Env} {i : Nat} {v : AV}, look (renEnv f env) i = some v → ∃ x, look env i = some x ∧ v = x.ren f
  | [], i, v, h => by cases h
  | (j, y) :: l, i, v, h => by
    simp only [renEnv, look] at h
    by_cases e : j = i
    · subst e
      rw [beq_yes] at h
      injection h with h
      exact ⟨y, by simp only [look, beq_yes, cond_true], h.symm⟩
    · rw [beq_no e] at h
      obtain ⟨x, h1, h2⟩ := look_renEnv h
      exact ⟨x, by simp only [look, beq_no e, cond_false]; exact h1, h2⟩
theorem get_renArgs {f : Nat → Option Nat} : ∀ {l : List (Option Nat)} {j t : Nat}, (renArgs f l)[j]? = some (some t) → ∃ u, l[j]? = some (some u) ∧ f u = some t
  | [], j, t, h => by simp [renArgs] at h
  | some u :: l, 0, t, h => by
    simp only [renArgs, List.getElem?_cons_zero, Option.some.injEq] at h
    exact ⟨u, rfl, h⟩
  | none :: l, 0, t, h => by simp [renArgs] at h
  | some u :: l, j + 1, t, h => by simpa using get_renArgs (by simpa [renArgs] using h)
  | none :: l, j + 1, t, h => by simpa using get_renArgs (by simpa [renArgs] using h)

theorem AV.ren_lt {f : Nat → Option Nat} {n : Nat} (hl : ∀ t u, f t = some u → u < n) (z : AV) (t : Nat) (ht : t ∈ (z.ren f).toks) : t < n := by
  have cell : ∀ (c : C), t ∈ (c.ren f).toks → t < n := fun c hc => ren_toks hl c t hc
  cases z with
  | v q =>
    cases q with
    | one c => exact cell c (by simpa [AV.ren, V1.ren, AV.toks, V1.toks, V1.cells] using ht)
    | agg cs =>
      simp only [AV.ren, V1.ren, AV.toks, V1.toks, V1.cells, List.mem_flatMap, List.mem_map] at ht
      obtain ⟨_, ⟨c, _, rfl⟩, hc⟩ := ht
      exact cell c hc
  | tup l =>
    simp only [AV.ren, AV.toks, List.mem_flatMap, List.mem_map] at ht
    obtain ⟨_, ⟨q, _, rfl⟩, hq⟩ := ht
    cases q with
    | one c => exact cell c (by simpa [V1.ren, V1.toks, V1.cells] using hq)
    | agg cs =>
      simp only [V1.ren, V1.toks, V1.cells, List.mem_flatMap, List.mem_map] at hq
      obtain ⟨_, ⟨c, _, rfl⟩, hc⟩ := hq
      exact cell c hc
  | undef => simp [AV.ren, AV.toks] at ht

theorem Good.normSlots {st : St} {a : Act} {w : World} (hg : Good b N st a w) (slots : List Nat) : Good b N (Ab.normSlots slots st) a w := by
  obtain ⟨γ, F, h⟩ := hg
  let ts := reach st.sto (argVals st.args ++ valsOf (slotsOf st.env slots))
  obtain ⟨hnd, hts⟩ := reach_ok (S := st.sto) (l := argVals st.args ++ valsOf (slotsOf st.env slots))
  obtain ⟨h1, h2, h3, h4⟩ := call_in h.inv (ts := ts) hnd (fun t => idxOf ts t 0) rfl
  have hm : ∀ c, Mine (fun j => match ts[j]? with | some t => γ t | none => ⟨none, 0, 0, 0⟩) (renSto ts (fun t => idxOf ts t 0) st.sto ts 0) c → Mine γ st.sto c := by
    rintro c ⟨j, ⟨x, hx⟩, hb⟩
    obtain ⟨_, t, b', h1, h2, _⟩ := look_renSto hx
    rw [Nat.sub_zero] at h1
    simp only [h1] at hb
    exact ⟨t, ⟨b', h2⟩, hb⟩
  refine ⟨fun j => match ts[j]? with | some t => γ t | none => ⟨none, 0, 0, 0⟩, F, ⟨fun i v hv => ?_, fun i v hv t ht => ?_, h.num, h.defers, h1, h2, fun j t hj => ?_, h.os, h.tape, h.output, h.size, h.heap, h.sub, h.fnew, fun c hc => h.mine c (hm c hc), h.frz⟩⟩
  · obtain ⟨x, hx, rfl⟩ := look_renEnv hv
    exact (h.env i x (look_slotsOf hx)).ren h3
  · obtain ⟨x, hx, rfl⟩ := look_renEnv hv
    exact AV.ren_lt h4 x t ht
  · obtain ⟨u, hu, hf⟩ := get_renArgs hj
    refine ⟨?_, h4 u t hf⟩
    have := h3 u t hf
    exact Eq.trans this (h.args j u hu).1

theorem Good.promote {a : Act} {w : World} : ∀ (l : List (Nat × Nat × Ty)) {st : St}, Good b N st a w → Good b N (Ab.promote l st) a w
  | [], st, h => h
  | (i, E, e) :: l, st, hg => by
    simp only [Ab.promote]
    split
    · rename_i hi
      obtain ⟨γ, F, h⟩ := hg
      refine Good.promote l ⟨setG γ st.nxt ⟨none, 0, 0, e.size⟩, F, ?_⟩
      have hp := Post.nilRow (E := E) (e := e) h.inv h.lt
      have hne : ∀ t, t < st.nxt → setG γ st.nxt ⟨none, 0, 0, e.size⟩ t = γ t := fun t ht => setG_ne γ _ (by omega)
      refine ⟨fun j v hv => ?_, fun j v hv t ht => ?_, h.num, h.defers, hp.inv, fun t x hx => ?_, fun j t hj => ?_, h.os, h.tape, h.output, h.size, h.heap, h.sub, h.fnew, fun c hc => ?_, h.frz⟩
      · rw [look_upd] at hv
        by_cases e1 : i = j
        · subst e1
          rw [if_pos rfl] at hv
          injection hv with hv
          subst hv
          have : a.tmps.getD i Go.undef = .slice none 0 0 := h.env i _ hi
          rw [this]
          show _ = (setG γ st.nxt _ st.nxt).val
          rw [setG_self]
          rfl
        · rw [if_neg e1] at hv
          exact (h.env j v hv).lasts (Lasts.refl F w) fun t ht => hne t (h.envLt j v hv t ht)
      · rw [look_upd] at hv
        by_cases e1 : i = j
        · rw [if_pos e1] at hv
          injection hv with hv
          subst hv
          simp [AV.toks, V1.toks, V1.cells, C.toks] at ht
          show t < st.nxt + 1
          omega
        · rw [if_neg e1] at hv
          exact Nat.lt_succ_of_lt (h.envLt j v hv t ht)
      · rw [look_append] at hx
        cases hS : look st.sto t with
        | some y =>
          rw [hS] at hx
          injection hx with hx
          subst hx
          obtain ⟨h1, h2⟩ := h.lt t y hS
          exact ⟨Nat.lt_succ_of_lt h1, fun u hu => Nat.lt_succ_of_lt (h2 u hu)⟩
        | none =>
          rw [hS] at hx
          simp only [look] at hx
          by_cases e1 : st.nxt = t
          · subst e1
            rw [beq_yes] at hx
            injection hx with hx
            subst hx
            exact ⟨Nat.lt_succ_self _, fun u hu => by simp [Blk.toks] at hu⟩
          · rw [beq_no e1] at hx; cases hx
      · obtain ⟨h1, h2⟩ := h.args j t hj
        exact ⟨(hne t h2).trans h1, Nat.lt_succ_of_lt h2⟩
      · rcases hp.mine c hc with h1 | h1
        · exact h.mine c h1
        · exact .inr (Nat.le_trans h.size h1)
    · exact Good.promote l hg

theorem Good.noted {st : St} {a : Act} {w : World} (hg : Good b N st a w) (ns : Notes) (p : Nat) : Good b N (Ab.noted ns p st) a w := by
  unfold Ab.noted
  split
  · exact (hg.promote _).normSlots _
  · exact hg

/-! ### The code -/
def Qof (b : Start) (N : Nat) {R : Type} (K : X → St → Option R) (r : R) : Exit → Act → World → Prop
  | .normal, a, w => ∃ st, K .normal st = some r ∧ Good b N st a w
  | .exit i, a, w => ∃ st, K (.exit i) st = some r ∧ Good b N st a w
  | .ret, a, w => ∃ st, K .ret st = some r ∧ Good b N st a w
  | _, _, _ => False

/-- A way to walk regions whose order is drawn. -/
def DrawOk (P : Program) (b : Start) (N : Nat) {R : Type} (D : Array Oper → St → (St → Option R) → Option R) : Prop :=
  ∀ (id : Nat) (ops : Array Oper) (st : St) (K : X → St → Option R) (r : R) (a : Act) (w : World), D ops st (K .normal) = some r → Good b N st a w → (Code.region id ops true).wp P (Qof b N K r) a w

theorem loop_sound {R : Type} {c : Code} {body : (X → St → Option R) → St → Option R} {K : X → St → Option R} {r : R} (hb : ∀ K' st a w, body K' st = some r → Good b N st a w → c.wp P (Qof b N K' r) a w) {k : Nat} {st : St} {a : Act} {w : World}
    (he : loopN body K k st = some r) (hg : Good b N st a w) : (Code.loop c).wp P (Qof b N K r) a w := by
  refine wp_loop_ghost (fun n a w => ∃ st, loopN body K n st = some r ∧ Good b N st a w) k ⟨st, he, hg⟩ ?_
  rintro n a w ⟨st, he, hg⟩
  cases n with
  | zero => simp [loopN] at he
  | succ n =>
    refine wp_mono (hb _ st a w he hg) ?_
    intro e a' w' hq
    cases e with
    | normal =>
      obtain ⟨st', h1, h2⟩ := hq
      exact ⟨n, Nat.lt_succ_self n, st', h1, h2⟩
    | exit i => exact hq
    | ret => exact hq
    | goto l => exact hq
    | panic ch => exact hq
    | outgrown => exact hq

theorem ev_sound (hΓ : tabIs P Γ = true) (hT : Sound P T) {R : Type} {D : Array Oper → St → (St → Option R) → Option R} (hD : DrawOk P b N D) {ns : Notes} {k : Nat} {r : R} : ∀ (c : Code) (p : Nat) (K : X → St → Option R) (st : St) (a : Act) (w : World),
    ev Γ T N D ns k c p K st = some r → Good b N st a w → c.wp P (Qof b N K r) a w
  | .skip, p, K, st, a, w, he, hg => wp_skip ⟨_, he, hg.noted ns p⟩
  | .label l, p, K, st, a, w, he, hg => wp_label ⟨_, he, hg.noted ns p⟩
  | .exit id, p, K, st, a, w, he, hg => wp_exit ⟨_, he, hg⟩
  | .ret, p, K, st, a, w, he, hg => wp_ret ⟨_, he, hg⟩
  | .region id ops draw, p, K, st, a, w, he, hg => by
    simp only [ev] at he
    cases draw with
    | true => exact hD id ops _ K r a w he (hg.noted ns p)
    | false =>
      simp only [cond_false] at he
      refine wp_region ?_
      have := evOps_sound (P := P) (N := N) (b := b) hΓ hT (ops := ops) (K := K .normal) (r := r) (Q := Qof b N K r) (fun st' a' w' h1 h2 => ⟨st', h1, h2⟩) ops.toList 0 _ a w (by simp) he (hg.noted ns p)
      rwa [show List.range' 0 ops.toList.length = List.range ops.size from by rw [List.range_eq_range']; simp] at this
  | .seq x y, p, K, st, a, w, he, hg => by
    simp only [ev] at he
    refine wp_seq (wp_mono (ev_sound hΓ hT hD x (2 * p) _ _ a w he (hg.noted ns p)) ?_)
    intro e a' w' hq
    cases e with
    | normal =>
      obtain ⟨st', h1, h2⟩ := hq
      exact ev_sound hΓ hT hD y (2 * p + 1) K st' a' w' h1 h2
    | exit i => exact hq
    | ret => exact hq
    | goto l => exact hq
    | panic ch => exact hq
    | outgrown => exact hq
  | .cond c x y, p, K, st, a, w, he, hg => by
    simp only [ev] at he
    split at he
    · rename_i bb hb
      have hg' := hg
      obtain ⟨γ, F, h⟩ := hg'
      have hv : a.eval c = .bool bb := by
        have := (h.eval c).1
        rw [hb] at this
        exact this
      refine wp_cond hv ?_
      cases bb with
      | true => exact ev_sound hΓ hT hD x (2 * p) K st a w he hg
      | false => exact ev_sound hΓ hT hD y (2 * p + 1) K st a w he hg
    · cases he
  | .block id c, p, K, st, a, w, he, hg => by
    simp only [ev] at he
    refine wp_block (wp_mono (ev_sound hΓ hT hD c (2 * p) _ _ a w he (hg.noted ns p)) ?_)
    intro e a' w' hq
    cases e with
    | normal => exact hq
    | exit i =>
      obtain ⟨st', h1, h2⟩ := hq
      simp only [Exit.inBlock]
      simp only at h1
      by_cases hi : i = id
      · subst hi
        rw [if_pos rfl]
        rw [beq_yes] at h1
        exact ⟨st', h1, h2⟩
      · rw [if_neg hi]
        rw [beq_no hi] at h1
        exact ⟨st', h1, h2⟩
    | ret => exact hq
    | goto l => exact hq
    | panic ch => exact hq
    | outgrown => exact hq
  | .loop c, p, K, st, a, w, he, hg => by
    simp only [ev] at he
    exact loop_sound (fun K' st a w h1 h2 => ev_sound hΓ hT hD c (2 * p) K' _ a w h1 (h2.noted ns (2 * p + 1))) he hg
  | .rangeFunc .., p, K, st, a, w, he, hg => by simp [ev] at he
  | .scope .., p, K, st, a, w, he, hg => by simp [ev] at he
  | .goto .., p, K, st, a, w, he, hg => by simp [ev] at he
  | .refuse .., p, K, st, a, w, he, hg => by simp [ev] at he
end
end Go.Ab
