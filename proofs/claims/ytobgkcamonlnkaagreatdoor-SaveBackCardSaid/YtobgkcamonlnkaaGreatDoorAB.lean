/- Append. -/
import Derived.Test.YtobgkcamonlnkaaGreatDoorAA
import Derived.MapKept
import Derived.Orders
/-! Append. -/
set_option linter.unusedVariables false
set_option linter.unusedSimpArgs false
namespace Go.Ab
section
variable {P : Program} {dst : Option Tmp} {ty : TypeId} {pos : String} {aft : Array Edge} {gd : Option (Nat × Bool)} {fr : Nat} {S : Store} {Γ : Tab}

/-- What an append needs to know of what is appended. -/
structure App (P : Program) (t tx tr E : Nat) (i : TypeInfo) (z : Value) (x : Value) (n : Nat) (news : List Value) (w : World) : Prop where
  grow : ∀ (base : Option Addr) (sLen sCap : Nat) (olds : List Value), (Builtin.firstCells i.size sLen (.slice base sLen sCap)).run P w.drew = .ok olds.toArray w.drew → sCap < sLen + n → ((sLen + n : Nat) : Int) ≤ 9223372036854775807 → Builtin.nextslicecap (sLen + n) sCap * i.bytes ≤ 281474976710656 →
    (Builtin.append_ #[t, tx] tr #[.slice base sLen sCap, x]).run P w =
      .ok (.slice (some ⟨w.heap.size, 0, none⟩) (sLen + n) (grownCap w (sLen + n) sCap E)) (w.drew.alloc (.cells ((olds ++ news).toArray ++ Builtin.zeroCells z.cells (grownCap w (sLen + n) sCap E - (sLen + n))) E))
  inpl : ∀ (a : Addr) (sLen sCap : Nat) (w' : World), sLen + n ≤ sCap → (storeCells (a.add (sLen * i.size)) news).run P w = .ok () w' → (Builtin.append_ #[t, tx] tr #[.slice (some a) sLen sCap, x]).run P w = .ok (.slice (some a) (sLen + n) sCap) w'
  nil : n = 0 → news = [] → ∀ A : Option Addr, (Builtin.append_ #[t, tx] tr #[.slice A 0 0, x]).run P w = .ok (.slice A 0 0) w
  one : ∀ v ∈ news, v.oneCell' = true
/-! ### Maps of strings to truth values -/
/-! ### Rows that are no longer written -/
theorem upd_noHeap {S : Store} {t : Nat} {x y : Blk} (hS : look S t = some x) (hx : x.isHeap = false) (hn : noHeap (upd S t y) = true) : noHeap S = true := noHeap_of fun u z hz => by
  by_cases e : t = u
  · subst e
    rw [hS] at hz
    injection hz with hz
    subst hz
    exact hx
  · exact noHeap_look hn (t := u) (by rw [look_upd, if_neg e]; exact hz)

/-- What a frozen row's slice reads as. -/
theorem frz_ro {F : FK} {g : G} {w : World} {E : Nat} {e : Ty} {m : RowK} {xs : List e.den} (h : RowOk F g w E e m xs) (hF : ∀ c, g.blk = some c → F c) : RoSl F w (RepD F w e) e.size xs g.val := by
  have h' := h
  obtain ⟨h1, h2, ⟨h3, h4⟩ | ⟨c, cur, fz, flat, h3, h4, h5, _⟩⟩ := h'
  · subst h4
    exact ⟨g.nl, 0, 0, by simp [G.val, h3], rfl, Nat.le_refl _, fun h => by omega⟩
  · refine ⟨some ⟨c, 0, none⟩, g.len, g.cap, by simp [G.val, h3], h1.symm, by omega, fun _ => ⟨⟨c, 0, none⟩, rfl, rfl, hF c h3, fun i x hx => ?_⟩⟩
    obtain ⟨l, hl, hc⟩ := row_elem h h3 hx
    exact ⟨l, hl, hl.length, fun j u hu => by simpa using hc j u hu⟩

theorem Post.trans {fr : Nat} {γ γ1 γ2 : Nat → G} {F F1 F2 : FK} {w w1 w2 : World} {S S1 S2 : Store} (hI : Inv F γ S w) (p : Post fr γ F w S γ1 F1 w1 S1) (q : Post fr γ1 F1 w1 S1 γ2 F2 w2 S2) (hh : noHeap S2 = true → noHeap S1 = true) : Post fr γ F w S γ2 F2 w2 S2 where
  os := q.os.trans p.os
  tape := q.tape.trans p.tape
  output := q.output.trans p.output
  size := Nat.le_trans p.size q.size
  heap b hb hm := (q.heap b (Nat.lt_of_lt_of_le hb p.size) fun h => (p.mine b h).elim hm (fun h => by omega)).trans (p.heap b hb hm)
  gam t ht := (q.gam t ht).trans (p.gam t ht)
  sub := p.sub.trans q.sub
  fnew b hb := by
    rcases q.fnew b hb with h | h | h
    · exact p.fnew b h
    · exact .inr (p.mine b h)
    · exact .inr (.inr (Nat.le_trans p.size h))
  mine b hb := by
    rcases q.mine b hb with h | h
    · exact p.mine b h
    · exact .inr (Nat.le_trans p.size h)
  frz b hb := (q.frz b (p.sub b hb)).trans (p.frz b hb)
  inv := q.inv
  kid0 hn := (q.kid0 hn).trans (p.kid0 (hh hn))

/-- What freezing leaves of a store: its tokens are the same. -/
structure SameToks (S S' : Store) : Prop where
  lt : ∀ m, StoLt m S → StoLt m S'
  hp : noHeap S' = true → noHeap S = true
instance {S S' : Store} : CoeFun (SameToks S S') (fun _ => ∀ m, StoLt m S → StoLt m S') := ⟨SameToks.lt⟩
theorem sameToks_freezeC (S : Store) (c : C) : SameToks S (freezeC S c).2 := by
  refine ⟨fun m h => ?_, fun hn => ?_⟩
  rotate_left
  · cases c <;> simp only [freezeC] at hn <;> try exact hn
    split at hn
    · rename_i E e k xs hS
      exact upd_noHeap hS rfl hn
    · exact hn
  cases c <;> simp only [freezeC] <;> try exact h
  split
  · rename_i E e k xs hS
    intro u x hx
    rw [look_upd] at hx
    split at hx
    · rename_i e1
      subst e1
      injection hx with hx
      subst hx
      exact ⟨(h _ _ hS).1, fun u hu => by simp [Blk.toks] at hu⟩
    · exact h u x hx
  · exact h
theorem sameToks_freezeCs : ∀ (cs : List C) (S : Store), SameToks S (freezeCs S cs).2
  | [], S => ⟨fun m h => h, fun h => h⟩
  | c :: cs, S => ⟨fun m h => sameToks_freezeCs cs _ m (sameToks_freezeC S c m h), fun h => (sameToks_freezeC S c).hp ((sameToks_freezeCs cs _).hp h)⟩

theorem freezeC_post {γ : Nat → G} {F : FK} {w : World} {S : Store} {fr : Nat} (hI : Inv F γ S w) (c : C) :
    ∃ F', Post fr γ F w S γ F' w (freezeC S c).2 ∧ ∀ v, RepC γ F w c v → RepC γ F' w (freezeC S c).1 v := by
  cases c with
  | own t =>
    simp only [freezeC]
    split
    · rename_i E e m xs hS
      obtain ⟨F', h1, h2, h3, _⟩ := Post.freeze (fr := fr) hI hS
      refine ⟨F', h1, fun v hv => ?_⟩
      have hrow : RowOk F' (γ t) w E e .frz xs := h1.inv.blk t (.row E e .frz xs) (by rw [look_upd, if_pos rfl])
      have hv' : v = (γ t).val := hv
      rw [hv']
      exact frz_ro hrow h3
    · exact ⟨F, Post.same hI, fun _ _ => trivial⟩
  | _ => exact ⟨F, Post.same hI, fun _ hv => hv⟩

theorem freezeCs_post {γ : Nat → G} {w : World} {fr : Nat} : ∀ (cs : List C) {S : Store} {F : FK}, Inv F γ S w →
    ∃ F', Post fr γ F w S γ F' w (freezeCs S cs).2 ∧ ∀ vs, All2 (RepC γ F w) cs vs → All2 (RepC γ F' w) (freezeCs S cs).1 vs
  | [], S, F, hI => ⟨F, Post.same hI, fun _ hv => hv⟩
  | c :: cs, S, F, hI => by
    obtain ⟨F1, p1, r1⟩ := freezeC_post (fr := fr) hI c
    obtain ⟨F2, p2, r2⟩ := freezeCs_post (fr := fr) cs p1.inv
    refine ⟨F2, p1.trans hI p2 (sameToks_freezeCs cs _).hp, fun vs hv => ?_⟩
    match vs, hv with
    | v :: vs, hv => exact ⟨(r1 v hv.1).lasts p2.lasts fun _ _ => rfl, r2 vs (RepCs.lasts p1.lasts (fun _ _ => rfl) hv.2)⟩


theorem frzA_post {γ : Nat → G} {F : FK} {w : World} {S : Store} {fr : Nat} (hI : Inv F γ S w) (v : AV) :
    SameToks S (frzA S v).2 ∧ ∃ F', Post fr γ F w S γ F' w (frzA S v).2 ∧ ∀ u, RepA γ F w v u → RepA γ F' w (frzA S v).1 u := by
  cases v with
  | v x =>
    cases x with
    | one c =>
      obtain ⟨F', p, r⟩ := freezeC_post (fr := fr) hI c
      exact ⟨sameToks_freezeC S c, F', p, r⟩
    | agg cs =>
      obtain ⟨F', p, r⟩ := freezeCs_post (fr := fr) cs hI
      exact ⟨sameToks_freezeCs cs S, F', p, fun u ⟨l, h1, h2⟩ => ⟨l, h1, r l h2⟩⟩
  | tup l => exact ⟨⟨fun m h => h, fun h => h⟩, F, Post.same hI, fun _ h => h⟩
  | undef => exact ⟨⟨fun m h => h, fun h => h⟩, F, Post.same hI, fun _ h => h⟩
theorem freezeC_toks (S : Store) (c : C) : ∀ t ∈ (freezeC S c).1.toks, t ∈ c.toks := by
  intro t ht
  cases c <;> simp only [freezeC] at ht <;> first
    | exact ht
    | (split at ht <;> simp [C.toks] at ht)
theorem freezeCs_toks : ∀ (cs : List C) (S : Store), ∀ t ∈ (freezeCs S cs).1.flatMap C.toks, t ∈ cs.flatMap C.toks
  | [], S, t, ht => by simp [freezeCs] at ht
  | c :: cs, S, t, ht => by
    simp only [freezeCs, List.flatMap_cons, List.mem_append] at ht ⊢
    exact ht.imp (freezeC_toks S c t) (freezeCs_toks cs _ t)
theorem frzA_toks (S : Store) (v : AV) : ∀ t ∈ (frzA S v).1.toks, t ∈ v.toks := by
  intro t ht
  cases v with
  | v x =>
    cases x with
    | one c => simpa [frzA, AV.toks, V1.toks, V1.cells] using freezeC_toks S c t (by simpa [frzA, AV.toks, V1.toks, V1.cells] using ht)
    | agg cs => exact freezeCs_toks cs S t ht
  | tup l => exact ht
  | undef => exact ht
theorem frzAs_post {γ : Nat → G} {w : World} {fr : Nat} : ∀ (vs : List AV) {S : Store} {F : FK}, Inv F γ S w →
    SameToks S (frzAs S vs).2 ∧ (∃ F', Post fr γ F w S γ F' w (frzAs S vs).2 ∧ ∀ us, All2 (RepA γ F w) vs us → All2 (RepA γ F' w) (frzAs S vs).1 us) ∧ ∀ m, ArgLt m vs → ArgLt m (frzAs S vs).1
  | [], S, F, hI => ⟨⟨fun m h => h, fun h => h⟩, ⟨F, Post.same hI, fun _ h => h⟩, fun _ h => h⟩
  | v :: vs, S, F, hI => by
    obtain ⟨s1, F1, p1, r1⟩ := frzA_post (fr := fr) hI v
    obtain ⟨s2, ⟨F2, p2, r2⟩, l2⟩ := frzAs_post (fr := fr) vs p1.inv
    refine ⟨⟨fun m h => s2 m (s1 m h), fun h => s1.hp (s2.hp h)⟩, ⟨F2, p1.trans hI p2 s2.hp, fun us hu => ?_⟩, fun m h x hx => ?_⟩
    · match us, hu with
      | u :: us, hu => exact ⟨RepA.lasts p2.lasts (fun _ _ => rfl) (r1 u hu.1), r2 us (hu.2.imp fun y _ b hb => RepA.lasts p1.lasts (fun _ _ => rfl) hb)⟩
    · simp only [frzAs] at hx
      rcases List.mem_cons.1 hx with rfl | hx
      · exact fun t ht => h v (by simp) t (frzA_toks S v t ht)
      · exact l2 m (fun y hy => h y (by simp [hy])) x hx

theorem all2_of_args {γ : Nat → G} {F : FK} {w : World} {a : Act} : ∀ {xs : List Operand} {args : List AV}, All2 (RepA γ F w) args (xs.map a.eval) → All2 (fun x av => RepA γ F w av (a.eval x)) xs args
  | [], [], _ => trivial
  | _ :: _, _ :: _, h => ⟨h.1, all2_of_args h.2⟩
  | [], _ :: _, h => h.elim
  | _ :: _, [], h => h.elim

/-- An operation whose operands are frozen first. -/
theorem OpSem.frz {o : Oper} {args : List AV} {v : AV} {S' : Store} (h : OpSem P o (frzAs S args).1 fr (frzAs S args).2 v S') (hh : noHeap S' = true → noHeap (frzAs S args).2 = true) : OpSem P o args fr S v S' := by
  intro γ F w a hI hlt hal hA next Q hn
  obtain ⟨s1, ⟨F1, p1, r1⟩, l1⟩ := frzAs_post (fr := fr) args hI
  refine h γ F1 w a p1.inv (s1 _ hlt) (l1 _ hal) (all2_of_args (r1 _ (all2_args hA))) next Q fun u γ' F' w' hp hr => hn u γ' F' w' (p1.trans hI hp hh) hr

theorem ResSem.and {Φ Ψ : AV → Store → Prop} {r : Res} (h : ResSem Φ r) (h' : ResSem Ψ r) : ResSem (fun v S => Φ v S ∧ Ψ v S) r := by
  cases r with
  | ok v S => exact ⟨h, h'⟩
  | chk c v S => exact fun hc => ⟨h hc, h' hc⟩
  | call R m g => exact fun x hx => ⟨h x hx, h' x hx⟩
  | fail => trivial
/-! ### New variables -/
end
end Go.Ab
/-! Calls; all operations. -/
set_option linter.unusedVariables false
set_option linter.unusedSimpArgs false
namespace Go.Ab

/-! ### Names turned -/
theorem mapM_rep {γ γ' : Nat → G} {f : Nat → Option Nat} (hf : ∀ t u, f t = some u → γ' u = γ t) : ∀ {l l' : List Nat} {bs : List Nat}, l.mapM f = some l' → All2 (fun t b => (γ t).blk = some b) l bs → All2 (fun t b => (γ' t).blk = some b) l' bs
  | [], l', bs, h, hr => by
    simp at h
    subst h
    match bs, hr with
    | [], _ => trivial
  | t :: l, l', bs, h, hr => by
    rw [List.mapM_cons] at h
    simp only [bind, Option.bind_eq_some_iff, pure, Option.some.injEq] at h
    obtain ⟨u, hu, l2, hl2, rfl⟩ := h
    match bs, hr with
    | b :: bs, hr => exact ⟨by show (γ' u).blk = some b; rw [hf t u hu]; exact hr.1, mapM_rep hf hl2 hr.2⟩

theorem RepC.ren {γ γ' : Nat → G} {F : FK} {w : World} {f : Nat → Option Nat} (hf : ∀ t u, f t = some u → γ' u = γ t) {c : C} {v : Value} (h : RepC γ F w c v) : RepC γ' F w (c.ren f) v := by
  cases c with
  | own t =>
    simp only [C.ren]
    split
    · rename_i u hu
      simp only [RepC] at h ⊢
      rw [hf t u hu]
      exact h
    · trivial
  | ptr t o =>
    simp only [C.ren]
    split
    · rename_i u hu
      simp only [RepC] at h ⊢
      rw [hf t u hu]
      exact h
    · trivial
  | eptr t i o =>
    simp only [C.ren]
    split
    · rename_i u hu
      simp only [RepC] at h ⊢
      rw [hf t u hu]
      exact h
    · trivial
  | aptr t o n i =>
    simp only [C.ren]
    split
    · rename_i u hu
      simp only [RepC] at h ⊢
      rw [hf t u hu]
      exact h
    · trivial
  | fn g caps =>
    simp only [C.ren]
    split
    · rename_i l hl
      obtain ⟨bs, h1, h2⟩ := h
      exact ⟨bs, h1, mapM_rep hf hl h2⟩
    · trivial
  | mref t =>
    simp only [C.ren]
    split
    · rename_i u hu
      simp only [RepC] at h ⊢
      rw [hf t u hu]
      exact h
    · trivial
  | int k n => exact h
  | bool b => exact h
  | str s => exact h
  | ro e xs => exact h
  | emp => exact h
  | rptr e x fo => exact h
  | nil k => exact h
  | ref e id => exact h
  | hptr e id i fo => exact h
  | hview e id lo hi => exact h
  | kids e H => exact h
  | emp0 => exact h
  | dead => exact h

theorem RepV.ren {γ γ' : Nat → G} {F : FK} {w : World} {f : Nat → Option Nat} (hf : ∀ t u, f t = some u → γ' u = γ t) {x : V1} {v : Value} (h : RepV γ F w x v) : RepV γ' F w (x.ren f) v := by
  cases x with
  | one c => exact RepC.ren hf h
  | agg cs =>
    obtain ⟨l, h1, h2⟩ := h
    exact ⟨l, h1, h2.map_left fun c _ v hv => RepC.ren hf hv⟩

theorem RepA.ren {γ γ' : Nat → G} {F : FK} {w : World} {f : Nat → Option Nat} (hf : ∀ t u, f t = some u → γ' u = γ t) {x : AV} {v : Value} (h : RepA γ F w x v) : RepA γ' F w (x.ren f) v := by
  cases x with
  | v x => exact RepV.ren hf h
  | tup l =>
    obtain ⟨vs, h1, h2⟩ := h
    exact ⟨vs, h1, h2.map_left fun y _ u hu => RepV.ren hf hu⟩
  | undef => trivial

theorem BlkOk.ren {γ γ' : Nat → G} {F : FK} {w : World} {f : Nat → Option Nat} (hf : ∀ t u, f t = some u → γ' u = γ t) {t u : Nat} (hu : γ' u = γ t) {b : Blk} (h : BlkOk F γ w t b) : BlkOk F γ' w u (b.ren f) := by
  cases b with
  | var E cs =>
    obtain ⟨b, cur, h1, h2, h3, h4⟩ := h
    exact ⟨b, cur, by rw [hu]; exact h1, h2, h3, h4.map_left fun c _ v hv => RepC.ren hf hv⟩
  | row E e m xs =>
    show RowOk F (γ' u) w E e m xs
    rw [hu]
    exact h
  | heap E e H => exact ⟨by rw [hu]; exact h.1, h.2⟩
  | smap l =>
    obtain ⟨b, es, clk, h1, h2⟩ := h
    exact ⟨b, es, clk, by rw [hu]; exact h1, h2⟩
theorem ren_isHeap {f : Nat → Option Nat} (b : Blk) : (b.ren f).isHeap = b.isHeap := by cases b <;> rfl
theorem ren_kids {f : Nat → Option Nat} {F : FK} (x : Blk) (j b : Nat) : (x.ren f).kids F j b ↔ x.kids F j b := by cases x <;> exact Iff.rfl

theorem look_backSto_fwd {g : Nat → Option Nat} (hg : ∀ i j u, g i = some u → g j = some u → i = j) : ∀ {S : Store} {j u : Nat} {b : Blk}, look S j = some b → g j = some u → look (backSto g S) u = some (b.ren g)
  | [], j, u, b, h, _ => by cases h
  | (t, x) :: S, j, u, b, h, hj => by
    simp only [look] at h
    by_cases e : t = j
    · subst e
      rw [beq_yes] at h
      simp only [cond_true, Option.some.injEq] at h
      subst h
      simp only [backSto, hj, look, beq_yes, cond_true]
    · rw [beq_no e] at h
      have ih := look_backSto_fwd hg (S := S) h hj
      simp only [backSto]
      cases ht : g t with
      | none => exact ih
      | some v =>
        have : v ≠ u := fun e' => e (hg t j u (by rw [ht, e']) hj)
        simp only [look, beq_no this, cond_false]
        exact ih

theorem look_backSto {g : Nat → Option Nat} (hg : ∀ i j u, g i = some u → g j = some u → i = j) : ∀ {S : Store} {u : Nat} {b' : Blk}, look (backSto g S) u = some b' → ∃ j b, look S j = some b ∧ g j = some u ∧ b' = b.ren g
  | [], u, b', h => by cases h
  | (t, b) :: S, u, b', h => by
    simp only [backSto] at h
    cases hgt : g t with
    | none =>
      rw [hgt] at h
      obtain ⟨j, b2, h1, h2, h3⟩ := look_backSto hg h
      have hne : t ≠ j := fun e => by subst e; rw [hgt] at h2; cases h2
      exact ⟨j, b2, by simp only [look, beq_no hne, cond_false]; exact h1, h2, h3⟩
    | some v =>
      rw [hgt] at h
      simp only [look] at h
      by_cases e : v = u
      · subst e
        rw [beq_yes] at h
        injection h with h
        exact ⟨t, b, by simp only [look, beq_yes, cond_true], hgt, h.symm⟩
      · rw [beq_no e] at h
        obtain ⟨j, b2, h1, h2, h3⟩ := look_backSto hg h
        have hne : t ≠ j := fun e' => by subst e'; rw [hgt] at h2; injection h2 with h2; exact e h2
        exact ⟨j, b2, by simp only [look, beq_no hne, cond_false]; exact h1, h2, h3⟩

theorem look_renSto {ts : List Nat} {f : Nat → Option Nat} {S : Store} : ∀ {l : List Nat} {n j : Nat} {b' : Blk}, look (renSto ts f S l n) j = some b' → n ≤ j ∧ ∃ t b, l[j - n]? = some t ∧ look S t = some b ∧ b' = b.ren f
  | [], n, j, b', h => by cases h
  | t :: l, n, j, b', h => by
    simp only [renSto] at h
    cases hS : look S t with
    | none =>
      rw [hS] at h
      obtain ⟨h1, t', b, h2, h3, h4⟩ := look_renSto h
      refine ⟨by omega, t', b, ?_, h3, h4⟩
      obtain ⟨d, rfl⟩ : ∃ d, j = n + 1 + d := ⟨j - (n + 1), by omega⟩
      have e1 : n + 1 + d - n = d + 1 := by omega
      have e2 : n + 1 + d - (n + 1) = d := by omega
      rw [e2] at h2
      rw [e1]
      simpa using h2
    | some b =>
      rw [hS] at h
      simp only [look] at h
      by_cases e : n = j
      · subst e
        rw [beq_yes] at h
        injection h with h
        exact ⟨Nat.le_refl _, t, b, by simp, hS, h.symm⟩
      · rw [beq_no e] at h
        obtain ⟨h1, t', b, h2, h3, h4⟩ := look_renSto h
        refine ⟨by omega, t', b, ?_, h3, h4⟩
        obtain ⟨d, rfl⟩ : ∃ d, j = n + 1 + d := ⟨j - (n + 1), by omega⟩
        have e1 : n + 1 + d - n = d + 1 := by omega
        have e2 : n + 1 + d - (n + 1) = d := by omega
        rw [e2] at h2
        rw [e1]
        simpa using h2

theorem idxOf_get : ∀ {l : List Nat} {t n j : Nat}, idxOf l t n = some j → n ≤ j ∧ l[j - n]? = some t
  | [], t, n, j, h => by cases h
  | i :: l, t, n, j, h => by
    simp only [idxOf] at h
    by_cases e : i = t
    · subst e
      rw [beq_yes] at h
      simp only [cond_true, Option.some.injEq] at h
      subst h
      exact ⟨Nat.le_refl _, by simp⟩
    · rw [beq_no e] at h
      obtain ⟨h1, h2⟩ := idxOf_get h
      refine ⟨by omega, ?_⟩
      obtain ⟨d, rfl⟩ : ∃ d, j = n + 1 + d := ⟨j - (n + 1), by omega⟩
      have e1 : n + 1 + d - n = d + 1 := by omega
      have e2 : n + 1 + d - (n + 1) = d := by omega
      rw [e2] at h2
      rw [e1]
      simpa using h2
theorem idxOf_lt {l : List Nat} {t j : Nat} (h : idxOf l t 0 = some j) : j < l.length ∧ l[j]? = some t := by
  obtain ⟨_, h⟩ := idxOf_get h
  rw [Nat.sub_zero] at h
  exact ⟨(List.getElem?_eq_some_iff.1 h).1, h⟩

theorem reachGo_ok {S : Store} : ∀ {n : Nat} {todo acc : List Nat}, acc.Nodup → (∀ t ∈ acc, Has S t) → (reachGo S n todo acc).Nodup ∧ ∀ t ∈ reachGo S n todo acc, Has S t
  | 0, _, _, h1, h2 => ⟨h1, h2⟩
  | _ + 1, [], _, h1, h2 => ⟨h1, h2⟩
  | n + 1, t :: todo, acc, h1, h2 => by
    simp only [reachGo]
    cases hm : memb acc t with
    | true => exact reachGo_ok h1 h2
    | false =>
      simp only [cond_false]
      cases hS : look S t with
      | none => exact reachGo_ok h1 h2
      | some b =>
        have hn : t ∉ acc := fun h => by rw [(memb_iff acc t).2 h] at hm; cases hm
        refine reachGo_ok ?_ ?_
        · rw [List.nodup_append]
          refine ⟨h1, by simp, fun a ha b' hb' => ?_⟩
          simp at hb'
          subst hb'
          exact fun e => hn (e ▸ ha)
        · intro u hu
          rcases List.mem_append.1 hu with hu | hu
          · exact h2 u hu
          · simp at hu
            subst hu
            exact ⟨b, hS⟩
theorem addHeap_ok {S : Store} {ts : List Nat} (h0 : ts.Nodup ∧ ∀ t ∈ ts, Has S t) : (addHeap S ts).Nodup ∧ ∀ t ∈ addHeap S ts, Has S t := by
  unfold addHeap
  cases hh : heapTok S with
  | none => exact h0
  | some h =>
    simp only
    cases hm : memb ts h with
    | true => exact h0
    | false =>
      simp only [cond_false]
      have hn : h ∉ ts := fun c => by rw [(memb_iff _ h).2 c] at hm; cases hm
      refine ⟨?_, fun t ht => ?_⟩
      · rw [List.nodup_append]
        refine ⟨h0.1, by simp, fun a ha b hb => ?_⟩
        simp at hb
        subst hb
        exact fun e => hn (e ▸ ha)
      · rcases List.mem_append.1 ht with ht | ht
        · exact h0.2 t ht
        · simp at ht
          subst ht
          obtain ⟨x, hx, _⟩ := heapTok_some hh
          exact ⟨x, hx⟩
theorem addHeap_mem {S : Store} {ts : List Nat} {h : Nat} (hh : heapTok S = some h) : h ∈ addHeap S ts := by
  unfold addHeap
  rw [hh]
  simp only
  cases hm : memb ts h with
  | true => exact (memb_iff _ _).1 hm
  | false => simp
theorem look_renSto_fwd {ts : List Nat} {f : Nat → Option Nat} {S : Store} : ∀ {l : List Nat} {n i t : Nat} {b : Blk}, l[i]? = some t → look S t = some b → look (renSto ts f S l n) (n + i) = some (b.ren f)
  | [], n, i, t, b, h, _ => by simp at h
  | u :: l, n, 0, t, b, h, hb => by
    simp at h
    subst h
    simp only [renSto, hb, Nat.add_zero, look, beq_yes, cond_true]
  | u :: l, n, i + 1, t, b, h, hb => by
    have ih := look_renSto_fwd (ts := ts) (f := f) (l := l) (n := n + 1) (i := i) (by simpa using h) hb
    rw [show n + 1 + i = n + (i + 1) by omega] at ih
    simp only [renSto]
    cases look S u with
    | none => exact ih
    | some x =>
      simp only [look, beq_no (show n ≠ n + (i + 1) by omega), cond_false]
      exact ih
/-- What is told of all that is met tells of the heap. -/
theorem renSto_noHeap {ts : List Nat} {f : Nat → Option Nat} {S : Store} (hm : ∀ h, heapTok S = some h → h ∈ ts) (hn : noHeap (renSto ts f S ts 0) = true) : noHeap S = true := by
  unfold noHeap
  cases hh : heapTok S with
  | none => rfl
  | some h =>
    exfalso
    obtain ⟨x, hx, hxh⟩ := heapTok_some hh
    obtain ⟨i, hi⟩ := List.getElem?_of_mem (hm h hh)
    have := noHeap_look hn (look_renSto_fwd (ts := ts) (f := f) (n := 0) hi hx)
    rw [ren_isHeap, hxh] at this
    cases this
theorem reach_ok {S : Store} {l : List AV} : (reach S l).Nodup ∧ ∀ t ∈ reach S l, Has S t := by
  have h0 : (reachGo S 200 (l.flatMap AV.toks) []).Nodup ∧ ∀ t ∈ reachGo S 200 (l.flatMap AV.toks) [], Has S t := reachGo_ok (by simp) (by simp)
  unfold reach
  simp only
  cases noHeap S with
  | true => exact h0
  | false =>
    simp only [cond_false]
    cases anyRefA l || refdToks S (reachGo S 200 (l.flatMap AV.toks) []) with
    | false => exact h0
    | true => exact addHeap_ok h0

/-! ### Calls -/
/-- What a call comes to. -/
def FnSem (P : Program) (f : Nat) (args : List AV) (S : Store) (m : Nat) (v : AV) (S' : Store) : Prop :=
  ∀ (γ : Nat → G) (F : FK) (w : World) (vals : List Value), Inv F γ S w → StoLt m S → ArgLt m args → All2 (RepA γ F w) args vals → (noHeap S = true → noHeap S' = false → F.kid = fun _ => none) →
    Calls P f vals.toArray w fun e w' => ∃ u γ' F', e = .returned u ∧ Post m γ F w S γ' F' w' S' ∧ RepA γ' F' w' v u

/-- What a call of a function without a body comes to: a value, here and now. -/
def ExtSem (P : Program) (f : Nat) (args : List AV) (S : Store) (v : AV) (S' : Store) : Prop :=
  S' = S ∧ ∀ (γ : Nat → G) (F : FK) (w : World) (vals : List Value), All2 (RepA γ F w) args vals → ∃ u, (callFunc f vals.toArray).run P w = .ok (.value u) w ∧ RepA γ F w v u

/-- The functions told in a table are so: they have bodies, or the model stands in for them. -/
def Sound (P : Program) (T : Table) : Prop :=
  ∀ (f : Nat) (args : List AV) (S : Store), ResSem (fun v S' => ((∃ fn, P.funcs[f]? = some fn ∧ (fn.name == "runtime.NumGoroutine") = false ∧ fn.body.isNone = false) ∧ FnSem P f args S S.length v S') ∨ ExtSem P f args S v S') (lookT T f args S)

section
variable {P : Program} {dst : Option Tmp} {ty : TypeId} {pos : String} {aft : Array Edge} {gd : Option (Nat × Bool)} {fr : Nat} {S : Store} {Γ : Tab}

/-- An operation that may bring a heap into being: there was none before. -/
def OpSemH (P : Program) (o : Oper) (args : List AV) (fr : Nat) (S : Store) (v : AV) (S' : Store) : Prop :=
  ∀ (γ : Nat → G) (F : FK) (w : World) (a : Act), (noHeap S = true → noHeap S' = false → F.kid = fun _ => none) → Inv F γ S w → StoLt fr S → ArgLt fr args → All2 (fun x av => RepA γ F w av (a.eval x)) o.op.operands.toList args →
  ∀ (next : Act → World → Prop) (Q : Exit → Act → World → Prop), (∀ u γ' F' w', Post fr γ F w S γ' F' w' S' → RepA γ' F' w' v u → next (a.put o.dst u) w') → o.wp P a w next Q
theorem OpSem.H {P : Program} {o : Oper} {args : List AV} {fr : Nat} {S : Store} {v : AV} {S' : Store} (h : OpSem P o args fr S v S') : OpSemH P o args fr S v S' := fun γ F w a _ => h γ F w a

theorem backTok_inj {ts : List Nat} {fr : Nat} (hnd : ts.Nodup) (htl : ∀ t ∈ ts, t < fr) : ∀ i j x, backTok ts fr i = some x → backTok ts fr j = some x → i = j := by
  intro i j x hi hj
  unfold backTok at hi hj
  cases h1 : ts[i]? with
  | some t =>
    rw [h1] at hi
    simp only [Option.some.injEq] at hi
    subst hi
    have hx := htl t (List.mem_of_getElem? h1)
    cases h2 : ts[j]? with
    | some t' =>
      rw [h2] at hj
      simp only [Option.some.injEq] at hj
      subst hj
      obtain ⟨hi1, hi2⟩ := List.getElem?_eq_some_iff.1 h1
      obtain ⟨hj1, hj2⟩ := List.getElem?_eq_some_iff.1 h2
      exact (List.getElem_inj hnd).1 (hi2.trans hj2.symm)
    | none =>
      rw [h2] at hj
      simp only [Option.some.injEq] at hj
      omega
  | none =>
    rw [h1] at hi
    simp only [Option.some.injEq] at hi
    have hil : ts.length ≤ i := by simpa using h1
    cases h2 : ts[j]? with
    | some t' =>
      rw [h2] at hj
      simp only [Option.some.injEq] at hj
      have hx := htl t' (List.mem_of_getElem? h2)
      omega
    | none =>
      rw [h2] at hj
      simp only [Option.some.injEq] at hj
      have hjl : ts.length ≤ j := by simpa using h2
      omega

/-- What the caller knows behind a call. -/
theorem call_back {γ : Nat → G} {F : FK} {w : World} {args : List AV} (hI : Inv F γ S w) (hlt : StoLt fr S) {ts : List Nat} (hnd : ts.Nodup) (hts : ∀ t ∈ ts, Has S t) {γ1 : Nat → G} {F' : FK} {w' : World} {S' : Store} {v : AV} {u : Value}
    (hp : Post ts.length (fun j => match ts[j]? with | some t => γ t | none => ⟨none, 0, 0, 0, none⟩) F w (renSto ts (fun t => idxOf ts t 0) S ts 0) γ1 F' w' S') (hr : RepA γ1 F' w' v u) :
    ∃ γ', Post fr γ F w S γ' F' w' (backSto (backTok ts fr) S') ∧ RepA γ' F' w' (v.ren (backTok ts fr)) u := by
  have htl : ∀ t ∈ ts, t < fr := fun t ht => by obtain ⟨b, hb⟩ := hts t ht; exact (hlt t b hb).1
  let γ' : Nat → G := fun t => if t < fr then γ t else γ1 (ts.length + (t - fr))
  have hback : ∀ j x, backTok ts fr j = some x → γ' x = γ1 j := by
    intro j x hx
    unfold backTok at hx
    cases hj : ts[j]? with
    | some t =>
      rw [hj] at hx
      simp only [Option.some.injEq] at hx
      subst hx
      have hjl : j < ts.length := (List.getElem?_eq_some_iff.1 hj).1
      have hx := htl t (List.mem_of_getElem? hj)
      show (if t < fr then γ t else _) = _
      rw [if_pos hx]
      have := hp.gam j hjl
      rw [this, hj]
    | none =>
      rw [hj] at hx
      simp only [Option.some.injEq] at hx
      subst hx
      have hjl : ts.length ≤ j := by simpa using hj
      show (if _ then _ else _) = _
      rw [if_neg (by omega)]
      congr 1
      omega
  have hinj := backTok_inj hnd htl
  have hkin : ∀ j b, KidO F (renSto ts (fun t => idxOf ts t 0) S ts 0) j b → KidO F S j b := by
    rintro j b ⟨i, x, hx, hj⟩
    obtain ⟨_, t, b', h1, h2, rfl⟩ := look_renSto hx
    exact ⟨t, b', h2, (ren_kids _ _ _).1 hj⟩
  have hkout : ∀ j b, KidO F' (backSto (backTok ts fr) S') j b → KidO F' S' j b := by
    rintro j b ⟨t, x, hx, hj⟩
    obtain ⟨i, y, h1, h2, rfl⟩ := look_backSto hinj hx
    exact ⟨i, y, h1, (ren_kids _ _ _).1 hj⟩
  have hmine : ∀ b, Mine F (fun j => match ts[j]? with | some t => γ t | none => ⟨none, 0, 0, 0, none⟩) (renSto ts (fun t => idxOf ts t 0) S ts 0) b → Mine F γ S b := by
    rintro b (⟨j, ⟨x, hx⟩, hb⟩ | ⟨j, hj⟩)
    case inr => exact .inr ⟨j, hkin j b hj⟩
    obtain ⟨_, t, b', h1, h2, _⟩ := look_renSto hx
    rw [Nat.sub_zero] at h1
    simp only [h1] at hb
    exact .tok ⟨b', h2⟩ hb
  have hmine' : ∀ b, Mine F' γ' (backSto (backTok ts fr) S') b → Mine F' γ1 S' b := by
    rintro b (⟨t, ⟨x, hx⟩, hb⟩ | ⟨j, hj⟩)
    case inr => exact .inr ⟨j, hkout j b hj⟩
    obtain ⟨j, y, h1, h2, _⟩ := look_backSto hinj hx
    rw [hback j t h2] at hb
    exact .tok ⟨y, h1⟩ hb
  have htot : ∀ j, ∃ u, backTok ts fr j = some u := by
    intro j
    unfold backTok
    cases ts[j]? <;> exact ⟨_, rfl⟩
  refine ⟨γ', ⟨hp.os, hp.tape, hp.output, hp.size, fun b hb hm => hp.heap b hb fun h => hm (hmine b h), fun t ht => if_pos ht, hp.sub, fun b hb => ?_, fun b hb => ?_, hp.frz, ?_, fun hn => hp.kid0 (noHeap_of fun t x hx => ?_)⟩, hr.ren hback⟩
  · rcases hp.fnew b hb with h | h | h
    · exact .inl h
    · exact .inr (.inl (hmine b h))
    · exact .inr (.inr h)
  · rcases hp.mine b (hmine' b hb) with h | h
    · exact .inl (hmine b h)
    · exact .inr h
  · refine ⟨fun t b hb => ?_, fun t t' b ht ht' hb hb' => ?_, hp.inv.fz, ⟨fun t t' x x' h1 h2 h3 h4 => ?_, fun j j' b h1 h2 => hp.inv.hp.kid j j' b (hkout j b h1) (hkout j' b h2), fun j b t h1 ⟨x, hx⟩ hb => ?_⟩⟩
    rotate_left 2
    · obtain ⟨j, y, a1, a2, rfl⟩ := look_backSto hinj h1
      obtain ⟨j', y', b1, b2, rfl⟩ := look_backSto hinj h2
      rw [ren_isHeap] at h3 h4
      have := hp.inv.hp.uniq j j' y y' a1 b1 h3 h4
      subst this
      rw [a2] at b2
      injection b2
    · obtain ⟨i, y, a1, a2, _⟩ := look_backSto hinj hx
      rw [hback i t a2] at hb
      exact hp.inv.hp.sep j b i (hkout j b h1) ⟨y, a1⟩ hb
    · obtain ⟨j, y, h1, h2, rfl⟩ := look_backSto hinj hb
      exact (hp.inv.blk j y h1).ren hback (hback j t h2)
    · obtain ⟨x, hx⟩ := ht
      obtain ⟨x', hx'⟩ := ht'
      obtain ⟨j, y, h1, h2, _⟩ := look_backSto hinj hx
      obtain ⟨j', y', h1', h2', _⟩ := look_backSto hinj hx'
      rw [hback j t h2] at hb
      rw [hback j' t' h2'] at hb'
      have := hp.inv.inj j j' b ⟨y, h1⟩ ⟨y', h1'⟩ hb hb'
      subst this
      rw [h2] at h2'
      injection h2'
  · obtain ⟨u, hu⟩ := htot t
    have := noHeap_look hn (look_backSto_fwd hinj hx hu)
    rwa [ren_isHeap] at this

theorem ren_toks {f : Nat → Option Nat} {n : Nat} (hl : ∀ t u, f t = some u → u < n) (c : C) (u : Nat) (hu : u ∈ (c.ren f).toks) : u < n := by
  cases c <;> simp only [C.ren] at hu <;> try (simp [C.toks] at hu; done)
  case own t => split at hu <;> simp [C.toks] at hu; subst hu; exact hl _ _ (by assumption)
  case ptr t o => split at hu <;> simp [C.toks] at hu; subst hu; exact hl _ _ (by assumption)
  case eptr t i o => split at hu <;> simp [C.toks] at hu; subst hu; exact hl _ _ (by assumption)
  case aptr t o m i => split at hu <;> simp [C.toks] at hu; subst hu; exact hl _ _ (by assumption)
  case mref t => split at hu <;> simp [C.toks] at hu; subst hu; exact hl _ _ (by assumption)
  case fn g caps =>
    split at hu
    · rename_i l hm
      simp only [C.toks] at hu
      induction caps generalizing l with
      | nil => simp at hm; subst hm; simp at hu
      | cons t caps ih =>
        rw [List.mapM_cons] at hm
        simp only [bind, Option.bind_eq_some_iff, pure, Option.some.injEq] at hm
        obtain ⟨x, hx, l2, hl2, rfl⟩ := hm
        rcases List.mem_cons.1 hu with rfl | hu
        · exact hl _ _ hx
        · exact ih l2 hl2 hu
    · simp [C.toks] at hu

/-- What the callee is handed. -/
theorem call_in {γ : Nat → G} {F : FK} {w : World} (hI : Inv F γ S w) {ts : List Nat} (hnd : ts.Nodup) (σ : Nat → Option Nat) (hσ : σ = fun t => idxOf ts t 0) :
    Inv F (fun j => match ts[j]? with | some t => γ t | none => ⟨none, 0, 0, 0, none⟩) (renSto ts σ S ts 0) w ∧ StoLt ts.length (renSto ts σ S ts 0) ∧ (∀ t u, σ t = some u → (fun j => match ts[j]? with | some t => γ t | none => (⟨none, 0, 0, 0, none⟩ : G)) u = γ t) ∧ ∀ t u, σ t = some u → u < ts.length := by
  subst hσ
  have hγ : ∀ t u, idxOf ts t 0 = some u → (fun j => match ts[j]? with | some t => γ t | none => (⟨none, 0, 0, 0, none⟩ : G)) u = γ t := by
    intro t u h
    obtain ⟨_, h⟩ := idxOf_lt h
    simp only [h]
  have hl : ∀ t u, idxOf ts t 0 = some u → u < ts.length := fun t u h => (idxOf_lt h).1
  have hkin : ∀ j b, KidO F (renSto ts (fun t => idxOf ts t 0) S ts 0) j b → KidO F S j b := by
    rintro j b ⟨i, x, hx, hj⟩
    obtain ⟨_, t, b', h1, h2, rfl⟩ := look_renSto hx
    exact ⟨t, b', h2, (ren_kids _ _ _).1 hj⟩
  refine ⟨⟨fun j b hb => ?_, fun i j b hi hj hb hb' => ?_, hI.fz, ⟨fun i j x x' h1 h2 h3 h4 => ?_, fun j j' b h1 h2 => hI.hp.kid j j' b (hkin j b h1) (hkin j' b h2), fun j b i h1 ⟨x, hx⟩ hb => ?_⟩⟩, fun j b hb => ?_, hγ, hl⟩
  rotate_left 2
  · obtain ⟨_, t, y, a1, a2, rfl⟩ := look_renSto h1
    obtain ⟨_, t', y', b1, b2, rfl⟩ := look_renSto h2
    rw [Nat.sub_zero] at a1 b1
    rw [ren_isHeap] at h3 h4
    have := hI.hp.uniq t t' y y' a2 b2 h3 h4
    subst this
    obtain ⟨hi1, hi2⟩ := List.getElem?_eq_some_iff.1 a1
    obtain ⟨hj1, hj2⟩ := List.getElem?_eq_some_iff.1 b1
    exact (List.getElem_inj hnd).1 (hi2.trans hj2.symm)
  · obtain ⟨_, t, y, a1, a2, _⟩ := look_renSto hx
    rw [Nat.sub_zero] at a1
    simp only [a1] at hb
    exact hI.hp.sep j b t (hkin j b h1) ⟨y, a2⟩ hb
  rotate_left 1
  · obtain ⟨_, t, x, h1, h2, rfl⟩ := look_renSto hb
    rw [Nat.sub_zero] at h1
    exact (hI.blk t x h2).ren hγ (by simp only [h1])
  · obtain ⟨x, hx⟩ := hi
    obtain ⟨x', hx'⟩ := hj
    obtain ⟨_, t, y, h1, h2, _⟩ := look_renSto hx
    obtain ⟨_, t', y', h1', h2', _⟩ := look_renSto hx'
    rw [Nat.sub_zero] at h1 h1'
    simp only [h1] at hb
    simp only [h1'] at hb'
    have := hI.inj t t' b ⟨y, h2⟩ ⟨y', h2'⟩ hb hb'
    subst this
    obtain ⟨hi1, hi2⟩ := List.getElem?_eq_some_iff.1 h1
    obtain ⟨hj1, hj2⟩ := List.getElem?_eq_some_iff.1 h1'
    exact (List.getElem_inj hnd).1 (hi2.trans hj2.symm)
  · obtain ⟨_, t, x, h1, h2, rfl⟩ := look_renSto hb
    rw [Nat.sub_zero] at h1
    refine ⟨(List.getElem?_eq_some_iff.1 h1).1, fun u hu => ?_⟩
    cases x with
    | row E e m xs => simp [Blk.ren, Blk.toks] at hu
    | heap E e H => simp [Blk.ren, Blk.toks] at hu
    | smap l => simp [Blk.ren, Blk.toks] at hu
    | var E cs =>
      simp only [Blk.ren, Blk.toks, List.mem_flatMap, List.mem_map] at hu
      obtain ⟨c, ⟨c', hc', rfl⟩, hu⟩ := hu
      exact ren_toks hl c' u hu

end
end Go.Ab
/-! The code: a state goes on. -/
set_option linter.unusedVariables false
set_option linter.unusedSimpArgs false
namespace Go.Ab

/-- Where the call began. -/
structure Start where
  γ : Nat → G
  F : FK
  w : World
  S : Store

/-- A state fits a frame and a world; and what has become of the world since the call began. -/
structure Ok (b : Start) (N : Nat) (st : St) (a : Act) (w : World) (γ : Nat → G) (F : FK) : Prop where
  env : ∀ i v, look st.env i = some v → RepA γ F w v (a.tmps.getD i Go.undef)
  envLt : ∀ i v, look st.env i = some v → ∀ t ∈ v.toks, t < st.nxt
  num : a.tmps.size = N
  defers : a.defers = []
  inv : Inv F γ st.sto w
  lt : StoLt st.nxt st.sto
  args : ∀ j t, st.args[j]? = some (some t) → γ t = b.γ j ∧ t < st.nxt
  os : w.os = b.w.os
  tape : w.tape = b.w.tape
  output : w.output = b.w.output
  size : b.w.heap.size ≤ w.heap.size
  heap : ∀ c, c < b.w.heap.size → ¬ Mine b.F b.γ b.S c → w.heap[c]? = b.w.heap[c]?
  sub : FK.Le b.F F
  fnew : ∀ c, F c → b.F c ∨ Mine b.F b.γ b.S c ∨ b.w.heap.size ≤ c
  mine : ∀ c, Mine F γ st.sto c → Mine b.F b.γ b.S c ∨ b.w.heap.size ≤ c
  frz : ∀ c, b.F c → w.heap[c]? = b.w.heap[c]?
  hk : noHeap st.sto = true → F.kid = fun _ => none

def Good (b : Start) (N : Nat) (st : St) (a : Act) (w : World) : Prop := ∃ γ F, Ok b N st a w γ F

section
variable {P : Program} {b : Start} {N : Nat} {Γ : Tab} {T : Table}

theorem constV_rep {γ : Nat → G} {F : FK} {w : World} (v : Value) : RepA γ F w (constV v) v := by
  have cell : ∀ v : Value, RepC γ F w (cellConst v) v := by
    intro v
    unfold cellConst
    split <;> first | rfl | trivial
  unfold constV
  split
  · rename_i cs
    refine ⟨cs.toList, by simp, ?_⟩
    have : ∀ l : List Value, All2 (RepC γ F w) (l.map cellConst) l := by
      intro l
      induction l with
      | nil => trivial
      | cons x l ih => exact ⟨cell x, ih⟩
    exact this _
  · trivial
  · exact cell v
theorem constV_toks (v : Value) : (constV v).toks = [] := by
  have cell : ∀ v : Value, (cellConst v).toks = [] := by
    intro v
    unfold cellConst
    split <;> rfl
  unfold constV
  split
  · rename_i cs
    simp only [AV.toks, V1.toks, V1.cells]
    have : ∀ l : List Value, (l.map cellConst).flatMap C.toks = [] := by
      intro l
      induction l with
      | nil => rfl
      | cons x l ih => simp [cell x, ih]
    exact this _
  · rfl
  · simp [AV.toks, V1.toks, V1.cells, cell]

theorem Ok.eval {st : St} {a : Act} {w : World} {γ : Nat → G} {F : FK} (h : Ok b N st a w γ F) (x : Operand) : RepA γ F w (evalA st.env x) (a.eval x) ∧ ∀ t ∈ (evalA st.env x).toks, t < st.nxt := by
  cases x with
  | tmp t =>
    simp only [evalA, Act.eval]
    cases hl : look st.env t with
    | some v => exact ⟨h.env t v hl, h.envLt t v hl⟩
    | none => exact ⟨trivial, fun t ht => by simp [AV.toks] at ht⟩
  | const v => exact ⟨constV_rep v, fun t ht => by simp only [evalA, constV_toks] at ht; simp at ht⟩
  | global g => exact ⟨trivial, fun t ht => by simp [evalA, AV.toks] at ht⟩
  | func f => exact ⟨⟨[], rfl, trivial⟩, fun t ht => by simp [evalA, AV.toks, V1.toks, V1.cells, C.toks] at ht⟩

theorem HpInv.nil {F : FK} {γ : Nat → G} : HpInv F γ [] := ⟨fun t t' x x' h => (by cases h), fun j j' b h => (by obtain ⟨t, x, hx, _⟩ := h; cases hx), fun j b t h => (by obtain ⟨t, x, hx, _⟩ := h; cases hx)⟩
theorem Inv.nil {F : FK} {γ : Nat → G} {w : World} (h : Frz F w) : Inv F γ [] w := ⟨fun t x hx => (by cases hx), fun t t' c ht => (by obtain ⟨x, hx⟩ := ht; cases hx), h, HpInv.nil⟩

/-! ### What is kept where code is come to again -/
theorem look_slotsOf {env : Env} : ∀ {l : List Nat} {i : Nat} {v : AV}, look (slotsOf env l) i = some v → look env i = some v
  | [], i, v, h => by cases h
  | j :: l, i, v, h => by
    simp only [slotsOf] at h
    cases hj : look env j with
    | none => rw [hj] at h; exact look_slotsOf h
    | some x =>
      rw [hj] at h
      simp only [look] at h
      by_cases e : j = i
      · subst e
        rw [beq_yes] at h
        injection h with h
        subst h
        exact hj
      · rw [beq_no e] at h
        exact look_slotsOf h
theorem look_renEnv {f : Nat → Option Nat} : ∀ {env : Env} {i : Nat} {v : AV}, look (renEnv f env) i = some v → ∃ x, look env i = some x ∧ v = x.ren f
  | [], i, v, h => by cases h
  | (j, y) :: l, i, v, h => by
    simp only [renEnv, look] at h
    by_cases e : j = i
    · subst e
      rw [beq_yes] at h
      injection h with h
      exact ⟨y, by simp only [look, beq_yes, cond_true], h.symm⟩
    · rw [beq_no e] at h
      obtain ⟨x, h1, h2⟩ := look_renEnv h
      exact ⟨x, by simp only [look, beq_no e, cond_false]; exact h1, h2⟩
theorem get_renArgs {f : Nat → Option Nat} : ∀ {l : List (Option Nat)} {j t : Nat}, (renArgs f l)[j]? = some (some t) → ∃ u, l[j]? = some (some u) ∧ f u = some t
  | [], j, t, h => by simp [renArgs] at h
  | some u :: l, 0, t, h => by
    simp only [renArgs, List.getElem?_cons_zero, Option.some.injEq] at h
    exact ⟨u, rfl, h⟩
  | none :: l, 0, t, h => by simp [renArgs] at h
  | some u :: l, j + 1, t, h => by simpa using get_renArgs (by simpa [renArgs] using h)
  | none :: l, j + 1, t, h => by simpa using get_renArgs (by simpa [renArgs] using h)

theorem AV.ren_lt {f : Nat → Option Nat} {n : Nat} (hl : ∀ t u, f t = some u → u < n) (z : AV) (t : Nat) (ht : t ∈ (z.ren f).toks) : t < n := by
  have cell : ∀ (c : C), t ∈ (c.ren f).toks → t < n := fun c hc => ren_toks hl c t hc
  cases z with
  | v q =>
    cases q with
    | one c => exact cell c (by simpa [AV.ren, V1.ren, AV.toks, V1.toks, V1.cells] using ht)
    | agg cs =>
      simp only [AV.ren, V1.ren, AV.toks, V1.toks, V1.cells, List.mem_flatMap, List.mem_map] at ht
      obtain ⟨_, ⟨c, _, rfl⟩, hc⟩ := ht
      exact cell c hc
  | tup l =>
    simp only [AV.ren, AV.toks, List.mem_flatMap, List.mem_map] at ht
    obtain ⟨_, ⟨q, _, rfl⟩, hq⟩ := ht
    cases q with
    | one c => exact cell c (by simpa [V1.ren, V1.toks, V1.cells] using hq)
    | agg cs =>
      simp only [V1.ren, V1.toks, V1.cells, List.mem_flatMap, List.mem_map] at hq
      obtain ⟨_, ⟨c, _, rfl⟩, hc⟩ := hq
      exact cell c hc
  | undef => simp [AV.ren, AV.toks] at ht

theorem Good.normSlots {st : St} {a : Act} {w : World} (hg : Good b N st a w) (slots : List Nat) : Good b N (Ab.normSlots slots st) a w := by
  obtain ⟨γ, F, h⟩ := hg
  let ts := addHeap st.sto (reach st.sto (argVals st.args ++ valsOf (slotsOf st.env slots)))
  obtain ⟨hnd, hts⟩ := addHeap_ok (reach_ok (S := st.sto) (l := argVals st.args ++ valsOf (slotsOf st.env slots)))
  obtain ⟨h1, h2, h3, h4⟩ := call_in h.inv (ts := ts) hnd (fun t => idxOf ts t 0) rfl
  have hm : ∀ c, Mine F (fun j => match ts[j]? with | some t => γ t | none => ⟨none, 0, 0, 0, none⟩) (renSto ts (fun t => idxOf ts t 0) st.sto ts 0) c → Mine F γ st.sto c := by
    rintro c (⟨j, ⟨x, hx⟩, hb⟩ | ⟨j, i, x, hx, hj⟩)
    · obtain ⟨_, t, b', h1, h2, _⟩ := look_renSto hx
      rw [Nat.sub_zero] at h1
      simp only [h1] at hb
      exact .tok ⟨b', h2⟩ hb
    · obtain ⟨_, t, b', h1, h2, rfl⟩ := look_renSto hx
      exact .inr ⟨j, t, b', h2, (ren_kids _ _ _).1 hj⟩
  refine ⟨fun j => match ts[j]? with | some t => γ t | none => ⟨none, 0, 0, 0, none⟩, F, ⟨fun i v hv => ?_, fun i v hv t ht => ?_, h.num, h.defers, h1, h2, fun j t hj => ?_, h.os, h.tape, h.output, h.size, h.heap, h.sub, h.fnew, fun c hc => h.mine c (hm c hc), h.frz, fun hn => h.hk (renSto_noHeap (fun x hx => addHeap_mem hx) hn)⟩⟩
  · obtain ⟨x, hx, rfl⟩ := look_renEnv hv
    exact (h.env i x (look_slotsOf hx)).ren h3
  · obtain ⟨x, hx, rfl⟩ := look_renEnv hv
    exact AV.ren_lt h4 x t ht
  · obtain ⟨u, hu, hf⟩ := get_renArgs hj
    refine ⟨?_, h4 u t hf⟩
    have := h3 u t hf
    exact Eq.trans this (h.args j u hu).1

theorem Good.promote {a : Act} {w : World} : ∀ (l : List (Nat × Nat × Ty)) {st : St}, Good b N st a w → Good b N (Ab.promote l st) a w
  | [], st, h => h
  | (i, E, e) :: l, st, hg => by
    simp only [Ab.promote]
    split
    · rename_i hi
      obtain ⟨γ, F, h⟩ := hg
      refine Good.promote l ⟨setG γ st.nxt ⟨none, 0, 0, e.size, none⟩, F, ?_⟩
      have hp := Post.nilRow (E := E) (e := e) h.inv h.lt
      have hne : ∀ t, t < st.nxt → setG γ st.nxt ⟨none, 0, 0, e.size, none⟩ t = γ t := fun t ht => setG_ne γ _ (by omega)
      refine ⟨fun j v hv => ?_, fun j v hv t ht => ?_, h.num, h.defers, hp.inv, fun t x hx => ?_, fun j t hj => ?_, h.os, h.tape, h.output, h.size, h.heap, h.sub, h.fnew, fun c hc => ?_, h.frz, fun hn => h.hk (noHeap_left hn)⟩
      · rw [look_upd] at hv
        by_cases e1 : i = j
        · subst e1
          rw [if_pos rfl] at hv
          injection hv with hv
          subst hv
          have : a.tmps.getD i Go.undef = .slice none 0 0 := h.env i _ hi
          rw [this]
          show _ = (setG γ st.nxt _ st.nxt).val
          rw [setG_self]
          rfl
        · rw [if_neg e1] at hv
          exact (h.env j v hv).lasts (Lasts.refl F w) fun t ht => hne t (h.envLt j v hv t ht)
      · rw [look_upd] at hv
        by_cases e1 : i = j
        · rw [if_pos e1] at hv
          injection hv with hv
          subst hv
          simp [AV.toks, V1.toks, V1.cells, C.toks] at ht
          show t < st.nxt + 1
          omega
        · rw [if_neg e1] at hv
          exact Nat.lt_succ_of_lt (h.envLt j v hv t ht)
      · rw [look_append] at hx
        cases hS : look st.sto t with
        | some y =>
          rw [hS] at hx
          injection hx with hx
          subst hx
          obtain ⟨h1, h2⟩ := h.lt t y hS
          exact ⟨Nat.lt_succ_of_lt h1, fun u hu => Nat.lt_succ_of_lt (h2 u hu)⟩
        | none =>
          rw [hS] at hx
          simp only [look] at hx
          by_cases e1 : st.nxt = t
          · subst e1
            rw [beq_yes] at hx
            injection hx with hx
            subst hx
            exact ⟨Nat.lt_succ_self _, fun u hu => by simp [Blk.toks] at hu⟩
          · rw [beq_no e1] at hx; cases hx
      · obtain ⟨h1, h2⟩ := h.args j t hj
        exact ⟨(hne t h2).trans h1, Nat.lt_succ_of_lt h2⟩
      · rcases hp.mine c hc with h1 | h1
        · exact h.mine c h1
        · exact .inr (Nat.le_trans h.size h1)
    · exact Good.promote l hg

/-! ### The code -/
def Qof (b : Start) (N : Nat) {R : Type} (K : X → St → Option R) (r : R) : Exit → Act → World → Prop
  | .normal, a, w => ∃ st, K .normal st = some r ∧ Good b N st a w
  | .exit i, a, w => ∃ st, K (.exit i) st = some r ∧ Good b N st a w
  | .ret, a, w => ∃ st, K .ret st = some r ∧ Good b N st a w
  | _, _, _ => False

end
end Go.Ab
/-! Functions: what they are handed, and what they hand back. -/
set_option linter.unusedVariables false
set_option linter.unusedSimpArgs false
namespace Go.Ab

/-! ### Shapes -/
/-- What a function hands back: a datum of one cell, a struct, a row of its own. -/
inductive RSh where
  | dat (t : Ty)
  | agg (t : Ty)
  | own (E : Nat) (e : Ty)
@[reducible] def RSh.den : RSh → Type
  | .dat t => t.den
  | .agg t => t.den
  | .own _ e => List e.den
@[reducible] def resDen : List RSh → Type
  | [] => Unit
  | [r] => r.den
  | r :: r' :: rs => r.den × resDen (r' :: rs)

def RSh.val (n : Nat) : (r : RSh) → r.den → V1
  | .dat t, x => match t.explode x with | c :: _ => .one c | [] => .one .dead
  | .agg t, x => .agg (t.explode x)
  | .own _ _, _ => .one (.own n)
def RSh.sto (n : Nat) : (r : RSh) → r.den → Store
  | .own E e, x => [(n, .row E e .plain x)]
  | _, _ => []
def RSh.step : RSh → Nat
  | .own _ _ => 1
  | _ => 0
def resVals : (n : Nat) → (l : List RSh) → resDen l → List V1
  | _, [], _ => []
  | n, [r], x => [r.val n x]
  | n, r :: r' :: rs, x => r.val n x.1 :: resVals (n + r.step) (r' :: rs) x.2
def resSto : (n : Nat) → (l : List RSh) → resDen l → Store
  | _, [], _ => []
  | n, [r], x => r.sto n x
  | n, r :: r' :: rs, x => r.sto n x.1 ++ resSto (n + r.step) (r' :: rs) x.2
def packV : List V1 → AV
  | [x] => .v x
  | l => .tup l

/-- What a function is handed: data alone. -/
inductive ASh where
  | dat (t : Ty)
  | agg (t : Ty)
@[reducible] def ASh.den : ASh → Type
  | .dat t => t.den
  | .agg t => t.den
@[reducible] def argDen : List ASh → Type
  | [] => Unit
  | [r] => r.den
  | r :: r' :: rs => r.den × argDen (r' :: rs)
def ASh.val : (r : ASh) → r.den → AV
  | .dat t, x => match t.explode x with | c :: _ => one c | [] => .undef
  | .agg t, x => aggr (t.explode x)
def argsV : (l : List ASh) → argDen l → List AV
  | [], _ => []
  | [r], x => [r.val x]
  | r :: r' :: rs, x => r.val x.1 :: argsV (r' :: rs) x.2

section
variable {P : Program} {b : Start} {N : Nat} {Γ : Tab} {T : Table}

/-- A row frozen: the state still fits, whatever is known lasts. -/
theorem Ok.freeze {st : St} {a : Act} {w : World} {γ : Nat → G} {F : FK} (h : Ok b N st a w γ F) {t E : Nat} {e : Ty} {m : RowK} {xs : List e.den} (hS : look st.sto t = some (.row E e m xs)) :
    ∃ F', Ok b N { st with sto := upd st.sto t (.row E e .frz xs) } a w γ F' ∧ Lasts F F' w w ∧ ∀ c, (γ t).blk = some c → F' c := by
  obtain ⟨F', hp, hsub, hF', hk⟩ := Post.freeze (fr := st.nxt) h.inv hS
  have hl : Lasts F F' w w := ⟨hsub, fun _ _ => rfl⟩
  refine ⟨F', ⟨fun i v hv => (h.env i v hv).lasts hl fun _ _ => rfl, h.envLt, h.num, h.defers, hp.inv, fun u x hx => ?_, h.args, h.os, h.tape, h.output, h.size, h.heap, h.sub.trans hsub, fun c hc => ?_, fun c hc => ?_, h.frz, fun hn => hk.trans (h.hk (upd_noHeap hS rfl hn))⟩, hl, hF'⟩
  · rw [look_upd] at hx
    split at hx
    · rename_i e1
      subst e1
      injection hx with hx
      subst hx
      exact ⟨(h.lt t _ hS).1, fun u hu => by simp [Blk.toks] at hu⟩
    · exact h.lt u x hx
  · rcases hp.fnew c hc with h1 | h1 | h1
    · exact h.fnew c h1
    · exact .inr (h.mine c h1)
    · exact .inr (.inr (Nat.le_trans h.size h1))
  · rcases hp.mine c hc with h1 | h1
    · exact h.mine c h1
    · exact .inr (Nat.le_trans h.size h1)

theorem Ok.freezeC {st : St} {a : Act} {w : World} {γ : Nat → G} {F : FK} (h : Ok b N st a w γ F) (c : C) :
    ∃ F', Ok b N { st with sto := (Ab.freezeC st.sto c).2 } a w γ F' ∧ Lasts F F' w w ∧ ∀ v, RepC γ F w c v → RepC γ F' w (Ab.freezeC st.sto c).1 v := by
  cases c with
  | own t =>
    simp only [Ab.freezeC]
    split
    · rename_i E e m xs hS
      obtain ⟨F', h1, h2, h3⟩ := h.freeze hS
      refine ⟨F', h1, h2, fun v hv => ?_⟩
      have hrow : RowOk F' (γ t) w E e .frz xs := h1.inv.blk t (.row E e .frz xs) (by show look (upd st.sto t _) t = _; rw [look_upd, if_pos rfl])
      have hv' : v = (γ t).val := hv
      rw [hv']
      exact frz_ro hrow h3
    · exact ⟨F, h, Lasts.refl F w, fun _ _ => trivial⟩
  | _ => exact ⟨F, h, Lasts.refl F w, fun _ hv => hv⟩

theorem Ok.freezeCs {a : Act} {w : World} {γ : Nat → G} : ∀ (cs : List C) {st : St} {F : FK}, Ok b N st a w γ F →
    ∃ F', Ok b N { st with sto := (Ab.freezeCs st.sto cs).2 } a w γ F' ∧ Lasts F F' w w ∧ ∀ vs, All2 (RepC γ F w) cs vs → All2 (RepC γ F' w) (Ab.freezeCs st.sto cs).1 vs
  | [], st, F, h => ⟨F, h, Lasts.refl F w, fun _ hv => hv⟩
  | c :: cs, st, F, h => by
    obtain ⟨F1, h1, l1, r1⟩ := h.freezeC c
    obtain ⟨F2, h2, l2, r2⟩ := Ok.freezeCs cs h1
    refine ⟨F2, h2, ⟨l1.sub.trans l2.sub, fun _ _ => rfl⟩, fun vs hv => ?_⟩
    match vs, hv with
    | v :: vs, hv => exact ⟨(r1 v hv.1).lasts l2 fun _ _ => rfl, r2 vs (RepCs.lasts l1 (fun _ _ => rfl) hv.2)⟩

/-! ### Results -/
theorem Ok.nilRow {st : St} {a : Act} {w : World} {γ : Nat → G} {F : FK} (h : Ok b N st a w γ F) (E : Nat) (e : Ty) :
    Ok b N { st with sto := st.sto ++ [(st.nxt, .row E e .plain [])], nxt := st.nxt + 1 } a w (setG γ st.nxt ⟨none, 0, 0, e.size, none⟩) F := by
  have hp := Post.nilRow (E := E) (e := e) h.inv h.lt
  have hne : ∀ t, t < st.nxt → setG γ st.nxt ⟨none, 0, 0, e.size, none⟩ t = γ t := fun t ht => setG_ne γ _ (by omega)
  refine ⟨fun j v hv => (h.env j v hv).lasts (Lasts.refl F w) fun t ht => hne t (h.envLt j v hv t ht), fun j v hv t ht => Nat.lt_succ_of_lt (h.envLt j v hv t ht), h.num, h.defers, hp.inv, fun t x hx => ?_, fun j t hj => ?_, h.os, h.tape, h.output, h.size, h.heap, h.sub, h.fnew, fun c hc => ?_, h.frz, fun hn => h.hk (noHeap_left hn)⟩
  · rw [look_append] at hx
    cases hS : look st.sto t with
    | some y =>
      rw [hS] at hx
      injection hx with hx
      subst hx
      obtain ⟨h1, h2⟩ := h.lt t y hS
      exact ⟨Nat.lt_succ_of_lt h1, fun u hu => Nat.lt_succ_of_lt (h2 u hu)⟩
    | none =>
      rw [hS] at hx
      simp only [look] at hx
      by_cases e1 : st.nxt = t
      · subst e1
        rw [beq_yes] at hx
        injection hx with hx
        subst hx
        exact ⟨Nat.lt_succ_self _, fun u hu => by simp [Blk.toks] at hu⟩
      · rw [beq_no e1] at hx; cases hx
  · obtain ⟨h1, h2⟩ := h.args j t hj
    exact ⟨(hne t h2).trans h1, Nat.lt_succ_of_lt h2⟩
  · rcases hp.mine c hc with h1 | h1
    · exact h.mine c h1
    · exact .inr (Nat.le_trans h.size h1)

/-! ### The heap at a function's end -/
end
end Go.Ab
/-! Functions. -/
set_option linter.unusedVariables false
set_option linter.unusedSimpArgs false
namespace Go.Ab

def argEnv : Nat → List AV → Env
  | _, [] => []
  | n, v :: l => (n, v) :: argEnv (n + 1) l

section
variable {P : Program} {b : Start} {N : Nat} {Γ : Tab} {T : Table}

theorem explode_toks : ∀ (e : Ty) (y : e.den), (e.explode y).flatMap C.toks = []
  | .int _, _ => rfl
  | .bool, _ => rfl
  | .str, _ => rfl
  | .slice _, _ => rfl
  | .ref _, _ => rfl
  | .pair p q, y => by simp [Ty.explode, explode_toks p, explode_toks q]

theorem ASh.toks (s : ASh) (x : s.den) : (s.val x).toks = [] := by
  cases s with
  | dat t =>
    simp only [ASh.val]
    split
    · rename_i c cs hc
      have := explode_toks t x
      rw [hc] at this
      simp only [List.flatMap_cons, List.append_eq_nil_iff] at this
      simp [AV.toks, V1.toks, V1.cells, this.1]
    · rfl
  | agg t => simp [ASh.val, AV.toks, V1.toks, V1.cells, explode_toks]

theorem argsV_toks : ∀ (l : List ASh) (x : argDen l), ∀ v ∈ argsV l x, v.toks = []
  | [], _, v, h => by simp [argsV] at h
  | [s], x, v, h => by
    simp [argsV] at h
    subst h
    exact s.toks x
  | s :: s' :: l, x, v, h => by
    simp only [argsV, List.mem_cons] at h
    rcases h with rfl | h
    · exact s.toks x.1
    · exact argsV_toks (s' :: l) x.2 v h

/-- What a function over data comes to. -/
def FnOk (P : Program) (f : Nat) (sig : List ASh) (res : List RSh) (x : argDen sig) (y : resDen res) : Prop :=
  ∀ (γ : Nat → G) (F : FK) (w : World) (vals : List Value), Frz F w → All2 (RepA γ F w) (argsV sig x) vals →
    Calls P f vals.toArray w fun e w' => ∃ u γ' F', e = .returned u ∧ Post 0 γ F w [] γ' F' w' (resSto 0 res y) ∧ RepA γ' F' w' (packV (resVals 0 res y)) u

theorem no_mine {F : FK} {γ : Nat → G} {c : Nat} : ¬ Mine F γ [] c := by
  rintro (⟨t, ⟨x, hx⟩, _⟩ | ⟨j, t, x, hx, _⟩)
  · cases hx
  · cases hx

theorem Inv.sub {F : FK} {γ : Nat → G} {S S' : Store} {w : World} (h : Inv F γ S w) (hs : ∀ t z, look S' t = some z → look S t = some z) : Inv F γ S' w :=
  ⟨fun t x hx => h.blk t x (hs t x hx), fun t t' c ⟨x, hx⟩ ⟨x', hx'⟩ => h.inj t t' c ⟨x, hs t x hx⟩ ⟨x', hs t' x' hx'⟩, h.fz, h.hp.sub hs⟩

/-! ### Data without slices of the heap -/
theorem resSto_raw {n : Nat} {l : List RSh} {y : resDen l} : rawNo (resSto n l y) = true := by
  have one : ∀ (n : Nat) (r : RSh) (y : r.den), rawNo (r.sto n y) = true := by
    intro n r y
    cases r <;> rfl
  have app : ∀ (S T : Store), rawNo (S ++ T) = (rawNo S && rawNo T) := by
    intro S T
    induction S with
    | nil => simp [rawNo]
    | cons p S ih => simp [rawNo, ih, Bool.and_assoc]
  have : rawNo (resSto n l y) = true := by
    induction l generalizing n with
    | nil => rfl
    | cons r l ih =>
      cases l with
      | nil => exact one n r y
      | cons r2 l =>
        simp only [resSto]
        rw [app, one, ih]
        rfl
  exact this
theorem rawNo_no {S : Store} (h : rawNo S = true) : noHeap S = true := by
  unfold noHeap heapTok
  rw [h]
  rfl
theorem backSto_raw {g : Nat → Option Nat} : ∀ {S : Store}, rawNo S = true → rawNo (backSto g S) = true
  | [], _ => rfl
  | (t, b) :: S, h => by
    simp only [rawNo, Bool.and_eq_true] at h
    simp only [backSto]
    split
    · simp only [rawNo, ren_isHeap, h.1, backSto_raw h.2, Bool.and_self]
    · exact backSto_raw h.2
end
end Go.Ab
/-! Functions over data, in tables. -/
set_option linter.unusedVariables false
set_option linter.unusedSimpArgs false
namespace Go.Ab

/-- One that is handed in, read as its shape says. -/
def takeOne (S : Store) : (a : ASh) → AV → Option (a.den × Store)
  | .dat t, .v (.one c) => match t.whole [(freezeC S c).1] with
    | some x => some (x, (freezeC S c).2)
    | none => none
  | .agg t, .v (.agg cs) => match t.whole (freezeCs S cs).1 with
    | some x => some (x, (freezeCs S cs).2)
    | none => none
  | _, _ => none
def takeArgs : (l : List ASh) → List AV → Store → Option (argDen l × Store)
  | [], [], S => some ((), S)
  | [a], [v], S => takeOne S a v
  | a :: a' :: l, v :: vs, S => match takeOne S a v with
    | some (x, S1) => match takeArgs (a' :: l) vs S1 with
      | some (xs, S2) => some ((x, xs), S2)
      | none => none
    | none => none
  | _, _, _ => none

/-- A function over data, as tables have it. -/
def entFn (sig : List ASh) (res : List RSh) (F : argDen sig → Option (resDen res)) (args : List AV) (S : Store) : Res :=
  match takeArgs sig args S with
  | none => .fail
  | some (x, S1) => .call (resDen res) (F x) fun y => ((packV (resVals 0 res y)).ren (backTok [] S.length), S1 ++ backSto (backTok [] S.length) (resSto 0 res y))

section
variable {P : Program}

theorem takeOne_sound {γ : Nat → G} {F : FK} {w : World} {S S1 : Store} {fr : Nat} {a : ASh} {v : AV} {x : a.den} (hI : Inv F γ S w) (h : takeOne S a v = some (x, S1)) {u : Value} (hr : RepA γ F w v u) :
    SameToks S S1 ∧ ∃ F', Post fr γ F w S γ F' w S1 ∧ RepA γ F' w (a.val x) u := by
  cases a with
  | dat t =>
    match v with
    | .v (.one c) =>
      simp only [takeOne] at h
      split at h
      · rename_i y hy
        simp only [Option.some.injEq, Prod.mk.injEq] at h
        obtain ⟨rfl, rfl⟩ := h
        obtain ⟨F', p, r⟩ := freezeC_post (fr := fr) hI c
        refine ⟨sameToks_freezeC S c, F', p, ?_⟩
        have h1 := whole_rep hy (γ := γ) (F := F') (w := w) (l := [u]) ⟨r u hr, trivial⟩
        have := explode_rep (γ := γ) h1
        simp only [ASh.val]
        split
        · rename_i c' cs hc
          rw [hc] at this
          match cs, this with
          | [], h => exact h.1
        · rename_i hc
          rw [hc] at this
          exact this.elim
      · cases h
    | .v (.agg cs) => simp [takeOne] at h
    | .tup l => simp [takeOne] at h
    | .undef => simp [takeOne] at h
  | agg t =>
    match v with
    | .v (.agg cs) =>
      simp only [takeOne] at h
      split at h
      · rename_i y hy
        simp only [Option.some.injEq, Prod.mk.injEq] at h
        obtain ⟨rfl, rfl⟩ := h
        obtain ⟨F', p, r⟩ := freezeCs_post (fr := fr) cs hI
        obtain ⟨l, hl, hcs⟩ := hr
        exact ⟨sameToks_freezeCs cs S, F', p, l, hl, explode_rep (whole_rep hy (r l hcs))⟩
      · cases h
    | .v (.one c) => simp [takeOne] at h
    | .tup l => simp [takeOne] at h
    | .undef => simp [takeOne] at h

theorem takeArgs_sound {γ : Nat → G} {w : World} {fr : Nat} : ∀ (l : List ASh) {vs : List AV} {S S1 : Store} {F : FK} {x : argDen l}, Inv F γ S w → takeArgs l vs S = some (x, S1) → ∀ {us : List Value}, All2 (RepA γ F w) vs us →
    SameToks S S1 ∧ ∃ F', Post fr γ F w S γ F' w S1 ∧ All2 (RepA γ F' w) (argsV l x) us
  | [], [], S, S1, F, x, hI, h, us, hr => by
    simp only [takeArgs, Option.some.injEq, Prod.mk.injEq] at h
    obtain ⟨_, rfl⟩ := h
    exact ⟨⟨fun m h => h, fun h => h⟩, F, Post.same hI, hr⟩
  | [a], [v], S, S1, F, x, hI, h, us, hr => by
    match us, hr with
    | [u], hr =>
      obtain ⟨h1, F', p, r⟩ := takeOne_sound (fr := fr) hI h hr.1
      exact ⟨h1, F', p, r, trivial⟩
  | a :: a' :: l, v :: vs, S, S1, F, x, hI, h, us, hr => by
    match us, hr with
    | u :: us, hr =>
      simp only [takeArgs] at h
      split at h
      · rename_i y S2 hy
        split at h
        · rename_i ys S3 hys
          simp only [Option.some.injEq, Prod.mk.injEq] at h
          obtain ⟨rfl, rfl⟩ := h
          obtain ⟨s1, F1, p1, r1⟩ := takeOne_sound (fr := fr) hI hy hr.1
          obtain ⟨s2, F2, p2, r2⟩ := takeArgs_sound (fr := fr) (a' :: l) p1.inv hys (hr.2.imp fun y _ b hb => RepA.lasts p1.lasts (fun _ _ => rfl) hb)
          exact ⟨⟨fun m h => s2 m (s1 m h), fun h => s1.hp (s2.hp h)⟩, F2, p1.trans hI p2 s2.hp, RepA.lasts p2.lasts (fun _ _ => rfl) r1, r2⟩
        · cases h
      · cases h
  | [], _ :: _, _, _, _, _, _, h, _, _ => by simp [takeArgs] at h
  | [_], [], _, _, _, _, _, h, _, _ => by simp [takeArgs] at h
  | [_], _ :: _ :: _, _, _, _, _, _, h, _, _ => by simp [takeArgs] at h
  | _ :: _ :: _, [], _, _, _, _, _, h, _, _ => by simp [takeArgs] at h

theorem keep_none : ∀ (S : Store), keep (memb []) S = []
  | [] => rfl
  | (t, b) :: l => keep_none l
theorem keep_whole : ∀ (S : Store), keep (fun t => !memb [] t) S = S
  | [] => rfl
  | (t, b) :: l => congrArg ((t, b) :: ·) (keep_whole l)
theorem backSto_le {m : Nat} : ∀ {S : Store} {t : Nat}, Has (backSto (backTok [] m) S) t → m ≤ t
  | [], t, ⟨x, hx⟩ => by cases hx
  | (i, b) :: l, t, ⟨x, hx⟩ => by
    simp only [backSto, backTok, List.getElem?_nil, look] at hx
    by_cases e : m + (i - ([] : List Nat).length) = t
    · omega
    · rw [beq_no e] at hx
      exact backSto_le (S := l) ⟨x, hx⟩

/-- What a function over data comes to, in the words of calls. -/
theorem entFn_sem {f : Nat} {sig : List ASh} {res : List RSh} {x : argDen sig} {y : resDen res} (h : FnOk P f sig res x y) {args : List AV} {S S1 : Store} (hx : takeArgs sig args S = some (x, S1)) :
    FnSem P f args S S.length ((packV (resVals 0 res y)).ren (backTok [] S.length)) (S1 ++ backSto (backTok [] S.length) (resSto 0 res y)) := by
  intro γ F w vals hI hlt hal hA _
  obtain ⟨s1, F1, p1, r1⟩ := takeArgs_sound (fr := S.length) sig hI hx hA
  let γ0 : Nat → G := fun j => match ([] : List Nat)[j]? with | some t => γ t | none => ⟨none, 0, 0, 0, none⟩
  have r1' : All2 (RepA γ0 F1 w) (argsV sig x) vals := r1.imp fun y hy b hb => RepA.lasts (Lasts.refl F1 w) (fun t ht => by rw [argsV_toks sig x y hy] at ht; simp at ht) hb
  refine (h γ0 F1 w vals p1.inv.fz r1').mono ?_
  rintro e w' ⟨u, γ1, F2, rfl, hp, hr⟩
  have hI0 : Inv F1 γ [] w := Inv.nil p1.inv.fz
  have hnb : noHeap (backSto (backTok [] S.length) (resSto 0 res y)) = true := rawNo_no (backSto_raw resSto_raw)
  obtain ⟨γ', hq, hr'⟩ := call_back (args := []) hI0 (fun t b hb => by cases hb) (fr := S.length) (ts := []) (by simp) (fun t ht => by simp at ht) (S' := resSto 0 res y) hp hr
  refine ⟨u, γ', F2, rfl, ?_, hr'⟩
  have hq' : Post S.length γ F1 w (keep (memb []) S1) γ' F2 w' (backSto (backTok [] S.length) (resSto 0 res y)) := by rw [keep_none]; exact hq
  have hinv := Inv.split p1.inv (s1 _ hlt) hq' (fun t ht => .inr (backSto_le ht)) (.inr hnb)
  rw [keep_whole] at hinv
  have hlt1 := s1 _ hlt
  have q : Post S.length γ F1 w S1 γ' F2 w' (S1 ++ backSto (backTok [] S.length) (resSto 0 res y)) := by
    refine ⟨hq.os, hq.tape, hq.output, hq.size, fun b hb _ => hq.heap b hb no_mine, hq.gam, hq.sub, fun b hb => ?_, fun b hb => ?_, hq.frz, hinv, fun _ => hq.kid0 hnb⟩
    · rcases hq.fnew b hb with h | h | h
      · exact .inl h
      · exact absurd h no_mine
      · exact .inr (.inr h)
    · rcases hb with ⟨t, ht, hb⟩ | ⟨j, t, x, hx, hj⟩
      · rcases Has.append.1 ht with h1 | h1
        · obtain ⟨z, hz⟩ := h1
          rw [hq.gam t (hlt1 t z hz).1] at hb
          exact .inl (.tok ⟨z, hz⟩ hb)
        · rcases hq.mine b (.tok h1 hb) with h | h
          · exact absurd h no_mine
          · exact .inr h
      · rw [look_append] at hx
        cases hl : look S1 t with
        | some z =>
          rw [hl] at hx
          injection hx with hx
          subst hx
          exact .inl (.inr ⟨j, t, _, hl, (kids_congr (hq.kid0 hnb)).1 hj⟩)
        | none =>
          rw [hl] at hx
          have := noHeap_look hnb hx
          rw [kids_isHeap hj] at this
          cases this
  exact p1.trans hI q fun h => noHeap_left h

/-- A function that has a body. -/
def HasBody (P : Program) (f : Nat) : Prop := ∃ fn, P.funcs[f]? = some fn ∧ (fn.name == "runtime.NumGoroutine") = false ∧ fn.body.isNone = false

theorem Sound.nil : Sound P [] := fun _ _ _ => trivial
theorem Sound.cons {T : Table} (hT : Sound P T) {f : Nat} {sig : List ASh} {res : List RSh} {F : argDen sig → Option (resDen res)} (hb : HasBody P f) (hF : ∀ x y, F x = some y → FnOk P f sig res x y) : Sound P ((f, entFn sig res F) :: T) := by
  intro g args S
  unfold lookT
  by_cases e : f = g
  · subst e
    rw [beq_yes]
    simp only [cond_true]
    unfold entFn
    cases hx : takeArgs sig args S with
    | none => trivial
    | some q =>
      obtain ⟨x, S1⟩ := q
      exact fun y hy => .inl ⟨hb, entFn_sem (hF x y hy) hx⟩
  · rw [beq_no e]
    exact hT g args S

/-- A function that the model stands in for. -/
theorem Sound.ext {T : Table} (hT : Sound P T) {f : Nat} {E : List AV → Store → Res} (hE : ∀ args S, ResSem (fun v S' => ExtSem P f args S v S') (E args S)) : Sound P ((f, E) :: T) := by
  intro g args S
  unfold lookT
  by_cases e : f = g
  · subst e
    rw [beq_yes]
    simp only [cond_true]
    exact (hE args S).imp fun v S' h => .inr h
  · rw [beq_no e]
    exact hT g args S
end
end Go.Ab
/-! Regions whose order is drawn. -/
set_option linter.unusedVariables false
set_option linter.unusedSimpArgs false
namespace Go.Ab

/-- One operation's part in a region. -/
structure Tr where
  o : Oper
  args : List AV
  ts : List Nat
  fr : Nat
  nx : Nat
  part : Store
  v : AV
  S' : Store
  quiet : Bool

def Tr.put (t : Tr) (st : St) : St :=
  { env := putE st.env t.o.dst t.v, sto := bif t.quiet then st.sto else keep (fun u => !memb t.ts u) st.sto ++ t.S', nxt := t.nx, args := st.args }

def inT (t : Tr) (u : Nat) : Bool := memb t.ts u || (Nat.ble t.fr u && Nat.blt u t.nx)
section
variable {R : Type}

end

/-! ### What the checks say -/
theorem inT_iff {t : Tr} {u : Nat} : inT t u = true ↔ u ∈ t.ts ∨ (t.fr ≤ u ∧ u < t.nx) := by
  simp [inT, memb_iff, Nat.blt_eq]
structure GoodT (N : Nat) (t : Tr) : Prop where
  ts : ∀ u ∈ t.ts, u < t.fr
  le : t.fr ≤ t.nx
  part : StoLt t.fr t.part
  args : ArgLt t.fr t.args
  sto : ∀ {u : Nat} {b : Blk}, look t.S' u = some b → inT t u = true ∧ ∀ x ∈ b.toks, inT t x = true
  val : ∀ u ∈ t.v.toks, inT t u = true
  dst : dstOk N t.o.dst = true
  qt : t.quiet = true → t.nx = t.fr
  hp : t.quiet = false → noHeap t.part = noHeap t.S'
theorem GoodT.lt {N : Nat} {t : Tr} (h : GoodT N t) {u : Nat} (hu : inT t u = true) : u < t.nx := by
  rcases inT_iff.1 hu with h1 | h1
  · exact Nat.lt_of_lt_of_le (h.ts u h1) h.le
  · exact h1.2

/-! ### A part of the operations, in order -/
def play (f : Nat → Bool) : List Tr → Nat → St → St
  | [], _, st => st
  | t :: l, i, st => play f l (i + 1) (bif f i then t.put st else st)

theorem play_congr {f g : Nat → Bool} : ∀ {L : List Tr} {n : Nat} {st : St}, (∀ j, j < L.length → f (n + j) = g (n + j)) → play f L n st = play g L n st
  | [], _, _, _ => rfl
  | t :: l, n, st, h => by
    simp only [play]
    rw [show f n = g n from h 0 (by simp)]
    refine play_congr fun j hj => ?_
    have := h (j + 1) (by simpa using hj)
    rwa [show n + 1 + j = n + (j + 1) by omega]
end Go.Ab
/-! Regions whose order is drawn: why any order comes to the same. -/
set_option linter.unusedVariables false
set_option linter.unusedSimpArgs false
namespace Go.Ab

/-! ### What must be before what -/
/-! ### The walk in order -/
end Go.Ab
