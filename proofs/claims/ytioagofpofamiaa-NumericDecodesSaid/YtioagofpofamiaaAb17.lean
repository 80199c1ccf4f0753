/- Functions: what they are handed, and what they hand back. -/
import Derived.Test.YtioagofpofamiaaAb16
/-! Functions: what they are handed, and what they hand back. -/
set_option linter.unusedVariables false
set_option linter.unusedSimpArgs false
namespace Go.Ab

/-! ### Shapes -/
/-- What a function hands back: a datum of one cell, a struct, a row of its own. -/
inductive RSh where
  | dat (t : Ty)
  | agg (t : Ty)
  | own (E : Nat) (e : Ty)
@[reducible] def RSh.den : RSh → Type
  | .dat t => t.den
  | .agg t => t.den
  | .own _ e => List e.den
@[reducible] def resDen : List RSh → Type
  | [] => Unit
  | [r] => r.den
  | r :: r' :: rs => r.den × resDen (r' :: rs)

def RSh.val (n : Nat) : (r : RSh) → r.den → V1
  | .dat t, x => match t.explode x with | c :: _ => .one c | [] => .one .dead
  | .agg t, x => .agg (t.explode x)
  | .own _ _, _ => .one (.own n)
def RSh.sto (n : Nat) : (r : RSh) → r.den → Store
  | .own E e, x => [(n, .row E e .plain x)]
  | _, _ => []
def RSh.step : RSh → Nat
  | .own _ _ => 1
  | _ => 0
def resVals : (n : Nat) → (l : List RSh) → resDen l → List V1
  | _, [], _ => []
  | n, [r], x => [r.val n x]
  | n, r :: r' :: rs, x => r.val n x.1 :: resVals (n + r.step) (r' :: rs) x.2
def resSto : (n : Nat) → (l : List RSh) → resDen l → Store
  | _, [], _ => []
  | n, [r], x => r.sto n x
  | n, r :: r' :: rs, x => r.sto n x.1 ++ resSto (n + r.step) (r' :: rs) x.2
def packV : List V1 → AV
  | [x] => .v x
  | l => .tup l

/-- What a function is handed: data alone. -/
inductive ASh where
  | dat (t : Ty)
  | agg (t : Ty)
@[reducible] def ASh.den : ASh → Type
  | .dat t => t.den
  | .agg t => t.den
@[reducible] def argDen : List ASh → Type
  | [] => Unit
  | [r] => r.den
  | r :: r' :: rs => r.den × argDen (r' :: rs)
def ASh.val : (r : ASh) → r.den → AV
  | .dat t, x => match t.explode x with | c :: _ => one c | [] => .undef
  | .agg t, x => aggr (t.explode x)
def argsV : (l : List ASh) → argDen l → List AV
  | [], _ => []
  | [r], x => [r.val x]
  | r :: r' :: rs, x => r.val x.1 :: argsV (r' :: rs) x.2

/-! ### Rows that are no longer written -/
def freezeC (S : Store) : C → C × Store
  | .own t => match look S t with
    | some (.row E e _ xs) => (.ro e xs, upd S t (.row E e .frz xs))
    | _ => (.dead, S)
  | c => (c, S)
def freezeCs (S : Store) : List C → List C × Store
  | [] => ([], S)
  | c :: cs => ((freezeC S c).1 :: (freezeCs (freezeC S c).2 cs).1, (freezeCs (freezeC S c).2 cs).2)

section
variable {P : Program} {b : Start} {N : Nat} {Γ : Tab} {T : Table}

theorem upd_frz_has {S : Store} {t E : Nat} {e : Ty} {m : RowK} {xs : List e.den} (hS : look S t = some (.row E e m xs)) {u : Nat} : Has (upd S t (.row E e .frz xs)) u ↔ Has S u := by
  simp only [Has, look_upd]
  by_cases h : t = u
  · subst h; simp [hS]
  · simp [h]

/-- A row frozen: the state still fits, whatever is known lasts. -/
theorem Ok.freeze {st : St} {a : Act} {w : World} {γ : Nat → G} {F : Nat → Prop} (h : Ok b N st a w γ F) {t E : Nat} {e : Ty} {m : RowK} {xs : List e.den} (hS : look st.sto t = some (.row E e m xs)) :
    ∃ F', Ok b N { st with sto := upd st.sto t (.row E e .frz xs) } a w γ F' ∧ Lasts F F' w w ∧ ∀ c, (γ t).blk = some c → F' c := by
  obtain ⟨F', hp, hsub, hF'⟩ := Post.freeze (fr := st.nxt) h.inv hS
  have hl : Lasts F F' w w := ⟨hsub, fun _ _ => rfl⟩
  refine ⟨F', ⟨fun i v hv => (h.env i v hv).lasts hl fun _ _ => rfl, h.envLt, h.num, h.defers, hp.inv, fun u x hx => ?_, h.args, h.os, h.tape, h.output, h.size, h.heap, fun c hc => hsub c (h.sub c hc), fun c hc => ?_, fun c hc => ?_, h.frz⟩, hl, hF'⟩
  · rw [look_upd] at hx
    split at hx
    · rename_i e1
      subst e1
      injection hx with hx
      subst hx
      exact ⟨(h.lt t _ hS).1, fun u hu => by simp [Blk.toks] at hu⟩
    · exact h.lt u x hx
  · rcases hp.fnew c hc with h1 | h1 | h1
    · exact h.fnew c h1
    · exact .inr (h.mine c h1)
    · exact .inr (.inr (Nat.le_trans h.size h1))
  · rcases hp.mine c hc with h1 | h1
    · exact h.mine c h1
    · exact .inr (Nat.le_trans h.size h1)

/-- What a frozen row's slice reads as. -/
theorem frz_ro {F : Nat → Prop} {g : G} {w : World} {E : Nat} {e : Ty} {m : RowK} {xs : List e.den} (h : RowOk F g w E e m xs) (hF : ∀ c, g.blk = some c → F c) : RoSl F w (RepD F w e) e.size xs g.val := by
  have h' := h
  obtain ⟨h1, h2, ⟨h3, h4⟩ | ⟨c, cur, fz, flat, h3, h4, h5, _⟩⟩ := h'
  · subst h4
    exact ⟨none, 0, 0, by simp [G.val, h3], rfl, Nat.le_refl _, fun h => by omega⟩
  · refine ⟨some ⟨c, 0, none⟩, g.len, g.cap, by simp [G.val, h3], h1.symm, by omega, fun _ => ⟨⟨c, 0, none⟩, rfl, rfl, hF c h3, fun i x hx => ?_⟩⟩
    obtain ⟨l, hl, hc⟩ := row_elem h h3 hx
    exact ⟨l, hl, hl.length, fun j u hu => by simpa using hc j u hu⟩

theorem Ok.freezeC {st : St} {a : Act} {w : World} {γ : Nat → G} {F : Nat → Prop} (h : Ok b N st a w γ F) (c : C) :
    ∃ F', Ok b N { st with sto := (Ab.freezeC st.sto c).2 } a w γ F' ∧ Lasts F F' w w ∧ ∀ v, RepC γ F w c v → RepC γ F' w (Ab.freezeC st.sto c).1 v := by
  cases c with
  | own t =>
    simp only [Ab.freezeC]
    split
    · rename_i E e m xs hS
      obtain ⟨F', h1, h2, h3⟩ := h.freeze hS
      refine ⟨F', h1, h2, fun v hv => ?_⟩
      have hrow : RowOk F' (γ t) w E e .frz xs := h1.inv.blk t (.row E e .frz xs) (by show look (upd st.sto t _) t = _; rw [look_upd, if_pos rfl])
      have hv' : v = (γ t).val := hv
      rw [hv']
      exact frz_ro hrow h3
    · exact ⟨F, h, Lasts.refl F w, fun _ _ => trivial⟩
  | _ => exact ⟨F, h, Lasts.refl F w, fun _ hv => hv⟩

theorem Ok.freezeCs {a : Act} {w : World} {γ : Nat → G} : ∀ (cs : List C) {st : St} {F : Nat → Prop}, Ok b N st a w γ F →
    ∃ F', Ok b N { st with sto := (Ab.freezeCs st.sto cs).2 } a w γ F' ∧ Lasts F F' w w ∧ ∀ vs, All2 (RepC γ F w) cs vs → All2 (RepC γ F' w) (Ab.freezeCs st.sto cs).1 vs
  | [], st, F, h => ⟨F, h, Lasts.refl F w, fun _ hv => hv⟩
  | c :: cs, st, F, h => by
    obtain ⟨F1, h1, l1, r1⟩ := h.freezeC c
    obtain ⟨F2, h2, l2, r2⟩ := Ok.freezeCs cs h1
    refine ⟨F2, h2, ⟨fun c hc => l2.sub c (l1.sub c hc), fun _ _ => rfl⟩, fun vs hv => ?_⟩
    match vs, hv with
    | v :: vs, hv => exact ⟨(r1 v hv.1).lasts l2 fun _ _ => rfl, r2 vs (RepCs.lasts l1 (fun _ _ => rfl) hv.2)⟩

/-! ### Results -/
/-- The values that are handed back, laid as their shapes want them. -/
def fixR : List RSh → List V1 → St → Option (List V1 × St)
  | [], [], st => some ([], st)
  | .dat _ :: rs, .one c :: vs, st =>
    match fixR rs vs { st with sto := (freezeC st.sto c).2 } with
    | some (l, st') => some (.one (freezeC st.sto c).1 :: l, st')
    | none => none
  | .agg _ :: rs, .agg cs :: vs, st =>
    match fixR rs vs { st with sto := (freezeCs st.sto cs).2 } with
    | some (l, st') => some (.agg (freezeCs st.sto cs).1 :: l, st')
    | none => none
  | .own E e :: rs, .one .emp :: vs, st =>
    match fixR rs vs { st with sto := st.sto ++ [(st.nxt, .row E e .plain [])], nxt := st.nxt + 1 } with
    | some (l, st') => some (.one (.own st.nxt) :: l, st')
    | none => none
  | .own _ _ :: rs, .one (.own t) :: vs, st =>
    match fixR rs vs st with
    | some (l, st') => some (.one (.own t) :: l, st')
    | none => none
  | _, _, _ => none

theorem Ok.nilRow {st : St} {a : Act} {w : World} {γ : Nat → G} {F : Nat → Prop} (h : Ok b N st a w γ F) (E : Nat) (e : Ty) :
    Ok b N { st with sto := st.sto ++ [(st.nxt, .row E e .plain [])], nxt := st.nxt + 1 } a w (setG γ st.nxt ⟨none, 0, 0, e.size⟩) F := by
  have hp := Post.nilRow (E := E) (e := e) h.inv h.lt
  have hne : ∀ t, t < st.nxt → setG γ st.nxt ⟨none, 0, 0, e.size⟩ t = γ t := fun t ht => setG_ne γ _ (by omega)
  refine ⟨fun j v hv => (h.env j v hv).lasts (Lasts.refl F w) fun t ht => hne t (h.envLt j v hv t ht), fun j v hv t ht => Nat.lt_succ_of_lt (h.envLt j v hv t ht), h.num, h.defers, hp.inv, fun t x hx => ?_, fun j t hj => ?_, h.os, h.tape, h.output, h.size, h.heap, h.sub, h.fnew, fun c hc => ?_, h.frz⟩
  · rw [look_append] at hx
    cases hS : look st.sto t with
    | some y =>
      rw [hS] at hx
      injection hx with hx
      subst hx
      obtain ⟨h1, h2⟩ := h.lt t y hS
      exact ⟨Nat.lt_succ_of_lt h1, fun u hu => Nat.lt_succ_of_lt (h2 u hu)⟩
    | none =>
      rw [hS] at hx
      simp only [look] at hx
      by_cases e1 : st.nxt = t
      · subst e1
        rw [beq_yes] at hx
        injection hx with hx
        subst hx
        exact ⟨Nat.lt_succ_self _, fun u hu => by simp [Blk.toks] at hu⟩
      · rw [beq_no e1] at hx; cases hx
  · obtain ⟨h1, h2⟩ := h.args j t hj
    exact ⟨(hne t h2).trans h1, Nat.lt_succ_of_lt h2⟩
  · rcases hp.mine c hc with h1 | h1
    · exact h.mine c h1
    · exact .inr (Nat.le_trans h.size h1)

theorem fixR_sound {a : Act} {w : World} : ∀ (rs : List RSh) (vs : List V1) {st st' : St} {γ : Nat → G} {F : Nat → Prop} {l : List V1}, fixR rs vs st = some (l, st') → Ok b N st a w γ F → (∀ x ∈ vs, ∀ t ∈ x.toks, t < st.nxt) →
    ∃ γ' F', Ok b N st' a w γ' F' ∧ (∀ us, All2 (RepV γ F w) vs us → All2 (RepV γ' F' w) l us) ∧ (Lasts F F' w w ∧ ∀ t, t < st.nxt → γ' t = γ t)
  | [], [], st, st', γ, F, l, h, ho, _ => by
    simp only [fixR, Option.some.injEq, Prod.mk.injEq] at h
    obtain ⟨rfl, rfl⟩ := h
    exact ⟨γ, F, ho, fun us hu => hu, Lasts.refl F w, fun _ _ => rfl⟩
  | .dat t :: rs, .one c :: vs, st, st', γ, F, l, h, ho, hlt => by
    simp only [fixR] at h
    split at h
    · rename_i l1 st1 h1
      simp only [Option.some.injEq, Prod.mk.injEq] at h
      obtain ⟨rfl, rfl⟩ := h
      obtain ⟨F1, o1, l1', r1⟩ := ho.freezeC c
      obtain ⟨γ2, F2, o2, r2, l2, g2⟩ := fixR_sound rs vs h1 o1 fun x hx t ht => hlt x (by simp [hx]) t ht
      refine ⟨γ2, F2, o2, fun us hu => ?_, ⟨fun c hc => l2.sub c (l1'.sub c hc), fun _ _ => rfl⟩, g2⟩
      match us, hu with
      | u :: us, hu =>
        refine ⟨?_, r2 us (hu.2.imp fun y hy v hv => RepV.lasts l1' (fun _ _ => rfl) hv)⟩
        have := r1 u hu.1
        refine RepC.lasts l2 (fun t ht => g2 t ?_) this
        refine hlt (.one c) (by simp) t ?_
        cases c <;> simp only [Ab.freezeC] at ht <;> first
          | (simpa [V1.toks, V1.cells] using ht)
          | (split at ht <;> simp [C.toks] at ht)
    · cases h
  | .agg t :: rs, .agg cs :: vs, st, st', γ, F, l, h, ho, hlt => by
    simp only [fixR] at h
    split at h
    · rename_i l1 st1 h1
      simp only [Option.some.injEq, Prod.mk.injEq] at h
      obtain ⟨rfl, rfl⟩ := h
      obtain ⟨F1, o1, l1', r1⟩ := ho.freezeCs cs
      obtain ⟨γ2, F2, o2, r2, l2, g2⟩ := fixR_sound rs vs h1 o1 fun x hx t ht => hlt x (by simp [hx]) t ht
      refine ⟨γ2, F2, o2, fun us hu => ?_, ⟨fun c hc => l2.sub c (l1'.sub c hc), fun _ _ => rfl⟩, g2⟩
      match us, hu with
      | u :: us, hu =>
        refine ⟨?_, r2 us (hu.2.imp fun y hy v hv => RepV.lasts l1' (fun _ _ => rfl) hv)⟩
        obtain ⟨ul, hul, hr⟩ := hu.1
        refine ⟨ul, hul, RepCs.lasts l2 (fun t ht => g2 t ?_) (r1 ul hr)⟩
        have : ∀ (cs : List C) (S : Store), ∀ t ∈ (Ab.freezeCs S cs).1.flatMap C.toks, t ∈ cs.flatMap C.toks := by
          intro cs
          induction cs with
          | nil => intro S t ht; simp [Ab.freezeCs] at ht
          | cons c cs ih =>
            intro S t ht
            simp only [Ab.freezeCs, List.flatMap_cons, List.mem_append] at ht ⊢
            rcases ht with ht | ht
            · left
              cases c <;> simp only [Ab.freezeC] at ht <;> first
                | exact ht
                | (split at ht <;> simp [C.toks] at ht)
            · exact .inr (ih _ t ht)
        exact hlt (.agg cs) (by simp) t (this cs _ t ht)
    · cases h
  | .own E e :: rs, .one .emp :: vs, st, st', γ, F, l, h, ho, hlt => by
    simp only [fixR] at h
    split at h
    · rename_i l1 st1 h1
      simp only [Option.some.injEq, Prod.mk.injEq] at h
      obtain ⟨rfl, rfl⟩ := h
      have o1 := ho.nilRow E e
      have hne : ∀ t, t < st.nxt → setG γ st.nxt ⟨none, 0, 0, e.size⟩ t = γ t := fun t ht => setG_ne γ _ (by omega)
      obtain ⟨γ2, F2, o2, r2, l2, g2⟩ := fixR_sound rs vs h1 o1 fun x hx t ht => Nat.lt_succ_of_lt (hlt x (by simp [hx]) t ht)
      refine ⟨γ2, F2, o2, fun us hu => ?_, l2, fun t ht => (g2 t (Nat.lt_succ_of_lt ht)).trans (hne t ht)⟩
      match us, hu with
      | u :: us, hu =>
        refine ⟨?_, r2 us (hu.2.imp fun y hy v hv => RepV.lasts (Lasts.refl F w) (fun t ht => hne t (hlt y (by simp [hy]) t ht)) hv)⟩
        have hu1 : u = .slice none 0 0 := hu.1
        show u = (γ2 st.nxt).val
        rw [g2 st.nxt (Nat.lt_succ_self _), setG_self, hu1]
        rfl
    · cases h
  | .own E e :: rs, .one (.own t) :: vs, st, st', γ, F, l, h, ho, hlt => by
    simp only [fixR] at h
    split at h
    · rename_i l1 st1 h1
      simp only [Option.some.injEq, Prod.mk.injEq] at h
      obtain ⟨rfl, rfl⟩ := h
      obtain ⟨γ2, F2, o2, r2, l2, g2⟩ := fixR_sound rs vs h1 ho fun x hx t ht => hlt x (by simp [hx]) t ht
      refine ⟨γ2, F2, o2, fun us hu => ?_, l2, g2⟩
      match us, hu with
      | u :: us, hu =>
        refine ⟨?_, r2 us hu.2⟩
        have hu1 : u = (γ t).val := hu.1
        show u = (γ2 t).val
        rw [g2 t (hlt (.one (.own t)) (by simp) t (by simp [V1.toks, V1.cells, C.toks]))]
        exact hu1
    · cases h
  | [], _ :: _, _, _, _, _, _, h, _, _ => by simp [fixR] at h
  | .dat _ :: _, [], _, _, _, _, _, h, _, _ => by simp [fixR] at h
  | .agg _ :: _, [], _, _, _, _, _, h, _, _ => by simp [fixR] at h
  | .own _ _ :: _, [], _, _, _, _, _, h, _, _ => by simp [fixR] at h
  | .dat _ :: _, .agg _ :: _, _, _, _, _, _, h, _, _ => by simp [fixR] at h
  | .agg _ :: _, .one _ :: _, _, _, _, _, _, h, _, _ => by simp [fixR] at h
  | .own _ _ :: _, .agg _ :: _, _, _, _, _, _, h, _, _ => by simp [fixR] at h
  | .own _ _ :: _, .one (.int ..) :: _, _, _, _, _, _, h, _, _ => by simp [fixR] at h
  | .own _ _ :: _, .one (.bool ..) :: _, _, _, _, _, _, h, _, _ => by simp [fixR] at h
  | .own _ _ :: _, .one (.str ..) :: _, _, _, _, _, _, h, _, _ => by simp [fixR] at h
  | .own _ _ :: _, .one (.ro ..) :: _, _, _, _, _, _, h, _, _ => by simp [fixR] at h
  | .own _ _ :: _, .one (.ptr ..) :: _, _, _, _, _, _, h, _, _ => by simp [fixR] at h
  | .own _ _ :: _, .one (.eptr ..) :: _, _, _, _, _, _, h, _, _ => by simp [fixR] at h
  | .own _ _ :: _, .one (.aptr ..) :: _, _, _, _, _, _, h, _, _ => by simp [fixR] at h
  | .own _ _ :: _, .one (.rptr ..) :: _, _, _, _, _, _, h, _, _ => by simp [fixR] at h
  | .own _ _ :: _, .one (.fn ..) :: _, _, _, _, _, _, h, _, _ => by simp [fixR] at h
  | .own _ _ :: _, .one (.nil ..) :: _, _, _, _, _, _, h, _, _ => by simp [fixR] at h
  | .own _ _ :: _, .one .dead :: _, _, _, _, _, _, h, _, _ => by simp [fixR] at h

def castRow (E : Nat) (e : Ty) : Option Blk → Option (List e.den)
  | some (.row E' e' .plain xs) => if E' = E then castSeq e ⟨e', xs⟩ else none
  | _ => none
theorem castRow_eq {E : Nat} {e : Ty} {x : Option Blk} {xs : List e.den} (h : castRow E e x = some xs) : x = some (.row E e .plain xs) := by
  unfold castRow at h
  split at h
  · split at h
    · rename_i hE
      subst hE
      have := castSeq_eq h
      injection this with h1 h2
      subst h1
      have h2' := eq_of_heq h2
      subst h2'
      rfl
    · cases h
  · cases h

/-- One value read as its shape says. -/
def unR (S : Store) (n : Nat) : (r : RSh) → V1 → Option r.den
  | .dat t, .one c => t.whole [c]
  | .agg t, .agg cs => t.whole cs
  | .own E e, .one (.own t) => bif Nat.beq t n then castRow E e (look S n) else none
  | _, _ => none
def unRs (S : Store) : (n : Nat) → (l : List RSh) → List V1 → Option (resDen l)
  | _, [], [] => some ()
  | n, [r], [x] => unR S n r x
  | n, r :: r' :: rs, x :: xs => match unR S n r x, unRs S (n + r.step) (r' :: rs) xs with
    | some y, some ys => some (y, ys)
    | _, _ => none
  | _, _, _ => none

theorem explode_one {n : Nat} {t : Ty} {F : Nat → Prop} {w : World} {x : t.den} {v : Value} {γ : Nat → G} (h : RepD F w t x [v]) : RepV γ F w (RSh.val n (.dat t) x) v := by
  have := explode_rep (γ := γ) h
  simp only [RSh.val]
  split
  · rename_i c cs hc
    rw [hc] at this
    match cs, this with
    | [], h => exact h.1
  · rename_i hc
    rw [hc] at this
    exact this.elim

theorem unR_sound {S : Store} {n : Nat} {r : RSh} {x : V1} {y : r.den} {γ : Nat → G} {F : Nat → Prop} {w : World} {v : Value} (h : unR S n r x = some y) (hr : RepV γ F w x v) :
    RepV γ F w (r.val n y) v ∧ ∀ t z, look (r.sto n y) t = some z → look S t = some z := by
  cases r with
  | dat t =>
    cases x with
    | one c =>
      simp only [unR] at h
      refine ⟨explode_one (whole_rep h (γ := γ) ⟨hr, trivial⟩), fun t z hz => by cases hz⟩
    | agg cs => simp [unR] at h
  | agg t =>
    cases x with
    | one c => simp [unR] at h
    | agg cs =>
      simp only [unR] at h
      obtain ⟨l, hl, hcs⟩ := hr
      exact ⟨⟨l, hl, explode_rep (whole_rep h hcs)⟩, fun t z hz => by cases hz⟩
  | own E e =>
    cases x with
    | agg cs => simp [unR] at h
    | one c =>
      cases c <;> simp only [unR] at h <;> try (cases h; done)
      rename_i t
      by_cases ht : t = n
      · subst ht
        rw [beq_yes] at h
        simp only [cond_true] at h
        have hS := castRow_eq h
        refine ⟨hr, fun u z hz => ?_⟩
        simp only [RSh.sto, look] at hz
        by_cases e1 : t = u
        · subst e1
          rw [beq_yes] at hz
          simp only [cond_true, Option.some.injEq] at hz
          subst hz
          exact hS
        · rw [beq_no e1] at hz
          cases hz
      · rw [beq_no ht] at h
        cases h

theorem unRs_sound {S : Store} {γ : Nat → G} {F : Nat → Prop} {w : World} : ∀ {l : List RSh} {n : Nat} {xs : List V1} {y : resDen l} {vs : List Value}, unRs S n l xs = some y → All2 (RepV γ F w) xs vs →
    All2 (RepV γ F w) (resVals n l y) vs ∧ ∀ t z, look (resSto n l y) t = some z → look S t = some z
  | [], n, xs, y, vs, h, hr => by
    match xs, vs, hr with
    | [], [], _ => exact ⟨trivial, fun t z hz => by cases hz⟩
    | _ :: _, _ :: _, _ => simp [unRs] at h
  | [r], n, xs, y, vs, h, hr => by
    match xs, vs, hr with
    | [], [], _ => simp [unRs] at h
    | [x], [v], hr =>
      simp only [unRs] at h
      obtain ⟨h1, h2⟩ := unR_sound h hr.1
      exact ⟨⟨h1, trivial⟩, h2⟩
    | _ :: _ :: _, _ :: _, _ => simp [unRs] at h
  | r :: r' :: rs, n, xs, y, vs, h, hr => by
    match xs, vs, hr with
    | [], [], _ => simp [unRs] at h
    | x :: xs, v :: vs, hr =>
      simp only [unRs] at h
      split at h
      · rename_i y1 ys h1 h2
        injection h with h
        subst h
        obtain ⟨a1, a2⟩ := unR_sound h1 hr.1
        obtain ⟨b1, b2⟩ := unRs_sound h2 hr.2
        refine ⟨⟨a1, b1⟩, fun t z hz => ?_⟩
        simp only [resSto, look_append] at hz
        split at hz
        · rename_i z' hz'
          injection hz with hz
          subst hz
          exact a2 t _ hz'
        · exact b2 t z hz
      · cases h
end
end Go.Ab
