/- Functions over data, in tables. -/
import Derived.Test.YtioagofpofamiaaAb18
/-! Functions over data, in tables. -/
set_option linter.unusedVariables false
set_option linter.unusedSimpArgs false
namespace Go.Ab

/-- One that is handed in, read as its shape says. -/
def takeOne (S : Store) : (a : ASh) → AV → Option (a.den × Store)
  | .dat t, .v (.one c) => match t.whole [(freezeC S c).1] with
    | some x => some (x, (freezeC S c).2)
    | none => none
  | .agg t, .v (.agg cs) => match t.whole (freezeCs S cs).1 with
    | some x => some (x, (freezeCs S cs).2)
    | none => none
  | _, _ => none
def takeArgs : (l : List ASh) → List AV → Store → Option (argDen l × Store)
  | [], [], S => some ((), S)
  | [a], [v], S => takeOne S a v
  | a :: a' :: l, v :: vs, S => match takeOne S a v with
    | some (x, S1) => match takeArgs (a' :: l) vs S1 with
      | some (xs, S2) => some ((x, xs), S2)
      | none => none
    | none => none
  | _, _, _ => none

/-- A function over data, as tables have it. -/
def entFn (sig : List ASh) (res : List RSh) (F : argDen sig → Option (resDen res)) (args : List AV) (S : Store) : Res :=
  match takeArgs sig args S with
  | none => .fail
  | some (x, S1) => .call (resDen res) (F x) fun y => ((packV (resVals 0 res y)).ren (backTok [] S.length), S1 ++ backSto (backTok [] S.length) (resSto 0 res y))

section
variable {P : Program}

theorem Post.trans {fr : Nat} {γ γ1 γ2 : Nat → G} {F F1 F2 : Nat → Prop} {w w1 w2 : World} {S S1 S2 : Store} (hI : Inv F γ S w) (p : Post fr γ F w S γ1 F1 w1 S1) (q : Post fr γ1 F1 w1 S1 γ2 F2 w2 S2) : Post fr γ F w S γ2 F2 w2 S2 where
  os := q.os.trans p.os
  tape := q.tape.trans p.tape
  output := q.output.trans p.output
  size := Nat.le_trans p.size q.size
  heap b hb hm := (q.heap b (Nat.lt_of_lt_of_le hb p.size) fun h => (p.mine b h).elim hm (fun h => by omega)).trans (p.heap b hb hm)
  gam t ht := (q.gam t ht).trans (p.gam t ht)
  sub b hb := q.sub b (p.sub b hb)
  fnew b hb := by
    rcases q.fnew b hb with h | h | h
    · exact p.fnew b h
    · exact .inr (p.mine b h)
    · exact .inr (.inr (Nat.le_trans p.size h))
  mine b hb := by
    rcases q.mine b hb with h | h
    · exact p.mine b h
    · exact .inr (Nat.le_trans p.size h)
  frz b hb := (q.frz b (p.sub b hb)).trans (p.frz b hb)
  inv := q.inv

/-- What freezing leaves of a store: its tokens are the same. -/
def SameToks (S S' : Store) : Prop := ∀ m, StoLt m S → StoLt m S'
theorem sameToks_freezeC (S : Store) (c : C) : SameToks S (freezeC S c).2 := by
  intro m h
  cases c <;> simp only [freezeC] <;> try exact h
  split
  · rename_i E e k xs hS
    intro u x hx
    rw [look_upd] at hx
    split at hx
    · rename_i e1
      subst e1
      injection hx with hx
      subst hx
      exact ⟨(h _ _ hS).1, fun u hu => by simp [Blk.toks] at hu⟩
    · exact h u x hx
  · exact h
theorem sameToks_freezeCs : ∀ (cs : List C) (S : Store), SameToks S (freezeCs S cs).2
  | [], S => fun m h => h
  | c :: cs, S => fun m h => sameToks_freezeCs cs _ m (sameToks_freezeC S c m h)

theorem freezeC_post {γ : Nat → G} {F : Nat → Prop} {w : World} {S : Store} {fr : Nat} (hI : Inv F γ S w) (c : C) :
    ∃ F', Post fr γ F w S γ F' w (freezeC S c).2 ∧ ∀ v, RepC γ F w c v → RepC γ F' w (freezeC S c).1 v := by
  cases c with
  | own t =>
    simp only [freezeC]
    split
    · rename_i E e m xs hS
      obtain ⟨F', h1, h2, h3⟩ := Post.freeze (fr := fr) hI hS
      refine ⟨F', h1, fun v hv => ?_⟩
      have hrow : RowOk F' (γ t) w E e .frz xs := h1.inv.blk t (.row E e .frz xs) (by rw [look_upd, if_pos rfl])
      have hv' : v = (γ t).val := hv
      rw [hv']
      exact frz_ro hrow h3
    · exact ⟨F, Post.same hI, fun _ _ => trivial⟩
  | _ => exact ⟨F, Post.same hI, fun _ hv => hv⟩

theorem freezeCs_post {γ : Nat → G} {w : World} {fr : Nat} : ∀ (cs : List C) {S : Store} {F : Nat → Prop}, Inv F γ S w →
    ∃ F', Post fr γ F w S γ F' w (freezeCs S cs).2 ∧ ∀ vs, All2 (RepC γ F w) cs vs → All2 (RepC γ F' w) (freezeCs S cs).1 vs
  | [], S, F, hI => ⟨F, Post.same hI, fun _ hv => hv⟩
  | c :: cs, S, F, hI => by
    obtain ⟨F1, p1, r1⟩ := freezeC_post (fr := fr) hI c
    obtain ⟨F2, p2, r2⟩ := freezeCs_post (fr := fr) cs p1.inv
    refine ⟨F2, p1.trans hI p2, fun vs hv => ?_⟩
    match vs, hv with
    | v :: vs, hv => exact ⟨(r1 v hv.1).lasts p2.lasts fun _ _ => rfl, r2 vs (RepCs.lasts p1.lasts (fun _ _ => rfl) hv.2)⟩

theorem takeOne_sound {γ : Nat → G} {F : Nat → Prop} {w : World} {S S1 : Store} {fr : Nat} {a : ASh} {v : AV} {x : a.den} (hI : Inv F γ S w) (h : takeOne S a v = some (x, S1)) {u : Value} (hr : RepA γ F w v u) :
    SameToks S S1 ∧ ∃ F', Post fr γ F w S γ F' w S1 ∧ RepA γ F' w (a.val x) u := by
  cases a with
  | dat t =>
    match v with
    | .v (.one c) =>
      simp only [takeOne] at h
      split at h
      · rename_i y hy
        simp only [Option.some.injEq, Prod.mk.injEq] at h
        obtain ⟨rfl, rfl⟩ := h
        obtain ⟨F', p, r⟩ := freezeC_post (fr := fr) hI c
        refine ⟨sameToks_freezeC S c, F', p, ?_⟩
        have h1 := whole_rep hy (γ := γ) (F := F') (w := w) (l := [u]) ⟨r u hr, trivial⟩
        have := explode_rep (γ := γ) h1
        simp only [ASh.val]
        split
        · rename_i c' cs hc
          rw [hc] at this
          match cs, this with
          | [], h => exact h.1
        · rename_i hc
          rw [hc] at this
          exact this.elim
      · cases h
    | .v (.agg cs) => simp [takeOne] at h
    | .tup l => simp [takeOne] at h
    | .undef => simp [takeOne] at h
  | agg t =>
    match v with
    | .v (.agg cs) =>
      simp only [takeOne] at h
      split at h
      · rename_i y hy
        simp only [Option.some.injEq, Prod.mk.injEq] at h
        obtain ⟨rfl, rfl⟩ := h
        obtain ⟨F', p, r⟩ := freezeCs_post (fr := fr) cs hI
        obtain ⟨l, hl, hcs⟩ := hr
        exact ⟨sameToks_freezeCs cs S, F', p, l, hl, explode_rep (whole_rep hy (r l hcs))⟩
      · cases h
    | .v (.one c) => simp [takeOne] at h
    | .tup l => simp [takeOne] at h
    | .undef => simp [takeOne] at h

theorem takeArgs_sound {γ : Nat → G} {w : World} {fr : Nat} : ∀ (l : List ASh) {vs : List AV} {S S1 : Store} {F : Nat → Prop} {x : argDen l}, Inv F γ S w → takeArgs l vs S = some (x, S1) → ∀ {us : List Value}, All2 (RepA γ F w) vs us →
    SameToks S S1 ∧ ∃ F', Post fr γ F w S γ F' w S1 ∧ All2 (RepA γ F' w) (argsV l x) us
  | [], [], S, S1, F, x, hI, h, us, hr => by
    simp only [takeArgs, Option.some.injEq, Prod.mk.injEq] at h
    obtain ⟨_, rfl⟩ := h
    exact ⟨fun m h => h, F, Post.same hI, hr⟩
  | [a], [v], S, S1, F, x, hI, h, us, hr => by
    match us, hr with
    | [u], hr =>
      obtain ⟨h1, F', p, r⟩ := takeOne_sound (fr := fr) hI h hr.1
      exact ⟨h1, F', p, r, trivial⟩
  | a :: a' :: l, v :: vs, S, S1, F, x, hI, h, us, hr => by
    match us, hr with
    | u :: us, hr =>
      simp only [takeArgs] at h
      split at h
      · rename_i y S2 hy
        split at h
        · rename_i ys S3 hys
          simp only [Option.some.injEq, Prod.mk.injEq] at h
          obtain ⟨rfl, rfl⟩ := h
          obtain ⟨s1, F1, p1, r1⟩ := takeOne_sound (fr := fr) hI hy hr.1
          obtain ⟨s2, F2, p2, r2⟩ := takeArgs_sound (fr := fr) (a' :: l) p1.inv hys (hr.2.imp fun y _ b hb => RepA.lasts p1.lasts (fun _ _ => rfl) hb)
          exact ⟨fun m h => s2 m (s1 m h), F2, p1.trans hI p2, RepA.lasts p2.lasts (fun _ _ => rfl) r1, r2⟩
        · cases h
      · cases h
  | [], _ :: _, _, _, _, _, _, h, _, _ => by simp [takeArgs] at h
  | [_], [], _, _, _, _, _, h, _, _ => by simp [takeArgs] at h
  | [_], _ :: _ :: _, _, _, _, _, _, h, _, _ => by simp [takeArgs] at h
  | _ :: _ :: _, [], _, _, _, _, _, h, _, _ => by simp [takeArgs] at h

theorem keep_none : ∀ (S : Store), keep (memb []) S = []
  | [] => rfl
  | (t, b) :: l => keep_none l
theorem keep_whole : ∀ (S : Store), keep (fun t => !memb [] t) S = S
  | [] => rfl
  | (t, b) :: l => congrArg ((t, b) :: ·) (keep_whole l)
theorem backSto_le {m : Nat} : ∀ {S : Store} {t : Nat}, Has (backSto (backTok [] m) S) t → m ≤ t
  | [], t, ⟨x, hx⟩ => by cases hx
  | (i, b) :: l, t, ⟨x, hx⟩ => by
    simp only [backSto, backTok, List.getElem?_nil, look] at hx
    by_cases e : m + (i - ([] : List Nat).length) = t
    · omega
    · rw [beq_no e] at hx
      exact backSto_le (S := l) ⟨x, hx⟩

/-- What a function over data comes to, in the words of calls. -/
theorem entFn_sem {f : Nat} {sig : List ASh} {res : List RSh} {x : argDen sig} {y : resDen res} (h : FnOk P f sig res x y) {args : List AV} {S S1 : Store} (hx : takeArgs sig args S = some (x, S1)) :
    FnSem P f args S S.length ((packV (resVals 0 res y)).ren (backTok [] S.length)) (S1 ++ backSto (backTok [] S.length) (resSto 0 res y)) := by
  intro γ F w vals hI hlt hal hA
  obtain ⟨s1, F1, p1, r1⟩ := takeArgs_sound (fr := S.length) sig hI hx hA
  let γ0 : Nat → G := fun j => match ([] : List Nat)[j]? with | some t => γ t | none => ⟨none, 0, 0, 0⟩
  have r1' : All2 (RepA γ0 F1 w) (argsV sig x) vals := r1.imp fun y hy b hb => RepA.lasts (Lasts.refl F1 w) (fun t ht => by rw [argsV_toks sig x y hy] at ht; simp at ht) hb
  refine (h γ0 F1 w vals p1.inv.fz r1').mono ?_
  rintro e w' ⟨u, γ1, F2, rfl, hp, hr⟩
  have hI0 : Inv F1 γ [] w := ⟨fun t x hx => (by cases hx), fun t t' c ht => (by obtain ⟨x, hx⟩ := ht; cases hx), p1.inv.fz⟩
  obtain ⟨γ', hq, hr'⟩ := call_back (args := []) hI0 (fun t b hb => by cases hb) (fr := S.length) (ts := []) (by simp) (fun t ht => by simp at ht) (S' := resSto 0 res y) hp hr
  refine ⟨u, γ', F2, rfl, ?_, hr'⟩
  have hq' : Post S.length γ F1 w (keep (memb []) S1) γ' F2 w' (backSto (backTok [] S.length) (resSto 0 res y)) := by rw [keep_none]; exact hq
  have hinv := Inv.split p1.inv (s1 _ hlt) hq' fun t ht => .inr (backSto_le ht)
  rw [keep_whole] at hinv
  have hlt1 := s1 _ hlt
  have q : Post S.length γ F1 w S1 γ' F2 w' (S1 ++ backSto (backTok [] S.length) (resSto 0 res y)) := by
    refine ⟨hq.os, hq.tape, hq.output, hq.size, fun b hb _ => hq.heap b hb no_mine, hq.gam, hq.sub, fun b hb => ?_, fun b hb => ?_, hq.frz, hinv⟩
    · rcases hq.fnew b hb with h | h | h
      · exact .inl h
      · exact absurd h no_mine
      · exact .inr (.inr h)
    · obtain ⟨t, ht, hb⟩ := hb
      rcases Has.append.1 ht with h1 | h1
      · obtain ⟨z, hz⟩ := h1
        rw [hq.gam t (hlt1 t z hz).1] at hb
        exact .inl ⟨t, ⟨z, hz⟩, hb⟩
      · rcases hq.mine b ⟨t, h1, hb⟩ with h | h
        · exact absurd h no_mine
        · exact .inr h
  exact p1.trans hI q

/-- A function that has a body. -/
def HasBody (P : Program) (f : Nat) : Prop := ∃ fn, P.funcs[f]? = some fn ∧ (fn.name == "runtime.NumGoroutine") = false ∧ fn.body.isNone = false

theorem Sound.nil : Sound P [] := fun _ _ _ => trivial
theorem Sound.cons {T : Table} (hT : Sound P T) {f : Nat} {sig : List ASh} {res : List RSh} {F : argDen sig → Option (resDen res)} (hb : HasBody P f) (hF : ∀ x y, F x = some y → FnOk P f sig res x y) : Sound P ((f, entFn sig res F) :: T) := by
  intro g args S
  unfold lookT
  by_cases e : f = g
  · subst e
    rw [beq_yes]
    simp only [cond_true]
    unfold entFn
    cases hx : takeArgs sig args S with
    | none => trivial
    | some q =>
      obtain ⟨x, S1⟩ := q
      exact fun y hy => ⟨hb, entFn_sem (hF x y hy) hx⟩
  · rw [beq_no e]
    exact hT g args S
end
end Go.Ab
