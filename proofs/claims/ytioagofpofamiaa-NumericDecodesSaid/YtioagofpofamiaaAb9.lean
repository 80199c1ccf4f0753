/- Operations that make memory, or write it. -/
import Derived.Test.YtioagofpofamiaaAb8
import Derived.Deep.AppendSrc
/-! Operations that make memory, or write it. -/
set_option linter.unusedVariables false
set_option linter.unusedSimpArgs false
namespace Go.Ab

def setG (γ : Nat → G) (t : Nat) (g : G) : Nat → G := fun u => if u = t then g else γ u
theorem setG_self (γ : Nat → G) (t : Nat) (g : G) : setG γ t g t = g := by simp [setG]
theorem setG_ne (γ : Nat → G) {t u : Nat} (g : G) (h : u ≠ t) : setG γ t g u = γ u := by simp [setG, h]

theorem one_of_RepC {γ : Nat → G} {F : Nat → Prop} {w : World} {c : C} {v : Value} (h : RepC γ F w c v) (hl : c.live = true) : v.oneCell' = true := by
  cases c with
  | int k n => simp only [RepC] at h; subst h; rfl
  | bool b => simp only [RepC] at h; subst h; rfl
  | str s => simp only [RepC] at h; subst h; rfl
  | ro e xs => obtain ⟨A, n, cap, rfl, _⟩ := h; rfl
  | emp => simp only [RepC] at h; subst h; rfl
  | own t => simp only [RepC] at h; subst h; unfold G.val; split <;> rfl
  | ptr t off => obtain ⟨b, _, rfl⟩ := h; rfl
  | eptr t i fo => obtain ⟨b, _, _, _, rfl⟩ := h; rfl
  | aptr t off n i => obtain ⟨b, _, _, _, rfl⟩ := h; rfl
  | rptr e x fo => obtain ⟨a, l, _, _, _, rfl⟩ := h; rfl
  | fn f caps => obtain ⟨bs, rfl, _⟩ := h; rfl
  | nil k => simp only [RepC] at h; subst h; cases k <;> rfl
  | dead => cases hl

theorem ones_of_RepC {γ : Nat → G} {F : Nat → Prop} {w : World} : ∀ {cs : List C} {vs : List Value}, All2 (RepC γ F w) cs vs → cs.all C.live = true → ∀ v ∈ vs, v.oneCell' = true
  | [], [], _, _, v, h => by simp at h
  | c :: cs, u :: vs, hr, hl, v, h => by
    simp only [List.all_cons, Bool.and_eq_true] at hl
    rcases List.mem_cons.1 h with rfl | h
    · exact one_of_RepC hr.1 hl.1
    · exact ones_of_RepC hr.2 hl.2 v h
  | [], _ :: _, h, _, _, _ => h.elim
  | _ :: _, [], h, _, _, _ => h.elim

theorem RepD.ones {F : Nat → Prop} {w : World} : ∀ {t : Ty} {x : t.den} {l : List Value}, RepD F w t x l → ∀ v ∈ l, v.oneCell' = true
  | .int _, _, _, h, v, hv => by simp only [RepD] at h; subst h; simp at hv; subst hv; rfl
  | .bool, _, _, h, v, hv => by simp only [RepD] at h; subst h; simp at hv; subst hv; rfl
  | .str, _, _, h, v, hv => by simp only [RepD] at h; subst h; simp at hv; subst hv; rfl
  | .pair a b, _, _, h, v, hv => by
    simp only [RepD] at h
    obtain ⟨l1, l2, rfl, h1, h2⟩ := h
    rcases List.mem_append.1 hv with hv | hv
    · exact RepD.ones h1 v hv
    · exact RepD.ones h2 v hv
  | .slice e, _, _, h, v, hv => by
    simp only [RepD] at h
    obtain ⟨u, rfl, A, n, cap, rfl, _⟩ := h
    simp at hv; subst hv; rfl
theorem Flat.ones {F : Nat → Prop} {w : World} {e : Ty} : ∀ {xs : List e.den} {l : List Value}, Flat F w e xs l → ∀ v ∈ l, v.oneCell' = true
  | [], _, h, v, hv => by simp only [Flat] at h; subst h; simp at hv
  | _ :: _, _, h, v, hv => by
    simp only [Flat] at h
    obtain ⟨l1, l2, rfl, h1, h2⟩ := h
    rcases List.mem_append.1 hv with hv | hv
    · exact h1.ones v hv
    · exact Flat.ones h2 v hv

/-- The world with a new block, some orders having been drawn. -/
structure NewBlk (w w' : World) (o : Obj) : Prop where
  os : w'.os = w.os
  tape : w'.tape = w.tape
  output : w'.output = w.output
  size : w'.heap.size = w.heap.size + 1
  old : ∀ {b : Nat}, b < w.heap.size → w'.heap[b]? = w.heap[b]?
  new : w'.heap[w.heap.size]? = some o
theorem NewBlk.alloc (w : World) (o : Obj) : NewBlk w (w.alloc o) o :=
  ⟨rfl, rfl, rfl, by simp, fun {b} hb => heap_alloc_old w o b hb, heap_alloc_new w o⟩

section
variable {P : Program} {dst : Option Tmp} {ty : TypeId} {pos : String} {aft : Array Edge} {gd : Option (Nat × Bool)} {fr : Nat} {S : Store} {Γ : Tab}

theorem Inv.lasts_new {γ : Nat → G} {F : Nat → Prop} {w w' : World} {o : Obj} (hI : Inv F γ S w) (h : NewBlk w w' o) : Lasts F F w w' := ⟨fun _ h => h, fun b hb => h.old (hI.fz b hb)⟩

/-- A new block, with a token of its own. -/
theorem Post.new {γ : Nat → G} {F : Nat → Prop} {w w' : World} {o : Obj} {g : G} {x : Blk} (hI : Inv F γ S w) (hlt : StoLt fr S) (h : NewBlk w w' o) (hg : g.blk = some w.heap.size)
    (hx : BlkOk F (setG γ fr g) w' fr x) : Post fr γ F w S (setG γ fr g) F w' (S ++ [(fr, x)]) := by
  have hl : Lasts F F w w' := hI.lasts_new h
  have hnew : ∀ t b, look (S ++ [(fr, x)]) t = some b → (look S t = some b ∧ t < fr) ∨ (t = fr ∧ b = x) := by
    intro t b hb
    rw [look_append] at hb
    cases hS : look S t with
    | some c => rw [hS] at hb; injection hb with hb; subst hb; exact .inl ⟨rfl, (hlt t _ hS).1⟩
    | none =>
      rw [hS] at hb
      simp only [look] at hb
      by_cases e : fr = t
      · subst e
        rw [beq_yes] at hb
        injection hb with hb
        exact .inr ⟨rfl, hb.symm⟩
      · rw [beq_no e] at hb; cases hb
  have hne : ∀ t, t < fr → setG γ fr g t = γ t := fun t ht => setG_ne γ g (by omega)
  refine ⟨h.os, h.tape, h.output, by rw [h.size]; omega, fun b hb _ => h.old hb, fun t ht => hne t ht, fun _ h => h, fun _ h => .inl h, ?_, fun b hb => h.old (hI.fz b hb), ?_⟩
  · rintro b ⟨t, ⟨y, hy⟩, hb⟩
    rcases hnew t y hy with ⟨h1, h2⟩ | ⟨rfl, rfl⟩
    · rw [hne t h2] at hb
      exact .inl ⟨t, ⟨y, h1⟩, hb⟩
    · rw [setG_self, hg] at hb
      injection hb with hb
      exact .inr (by omega)
  · refine ⟨fun t b hb => ?_, fun t t' b ht ht' hb hb' => ?_, fun b hb => by rw [h.size]; have := hI.fz b hb; omega⟩
    · rcases hnew t b hb with ⟨h1, h2⟩ | ⟨rfl, rfl⟩
      · exact (hI.blk t b h1).lasts hl (hne t h2) (fun u hu => hne u ((hlt t b h1).2 u hu)) fun c hc => ⟨h.old ((hI.blk t b h1).lt hc), fun h => h⟩
      · exact hx
    · obtain ⟨y, hy⟩ := ht
      obtain ⟨y', hy'⟩ := ht'
      rcases hnew t y hy with ⟨h1, h2⟩ | ⟨e1, e2⟩ <;> rcases hnew t' y' hy' with ⟨h3, h4⟩ | ⟨e3, e4⟩
      · rw [hne t h2] at hb
        rw [hne t' h4] at hb'
        exact hI.inj t t' b ⟨y, h1⟩ ⟨y', h3⟩ hb hb'
      · subst e3
        rw [hne t h2] at hb
        rw [setG_self, hg] at hb'
        injection hb' with hb'
        have := (hI.blk t y h1).lt hb
        omega
      · subst e1
        rw [hne t' h4] at hb'
        rw [setG_self, hg] at hb
        injection hb with hb
        have := (hI.blk t' y' h3).lt hb'
        omega
      · omega

/-- A token without a block: an empty row. -/
theorem Post.nilRow {γ : Nat → G} {F : Nat → Prop} {w : World} {E : Nat} {e : Ty} (hI : Inv F γ S w) (hlt : StoLt fr S) : Post fr γ F w S (setG γ fr ⟨none, 0, 0, e.size⟩) F w (S ++ [(fr, .row E e .plain [])]) := by
  have hnew : ∀ t b, look (S ++ [(fr, Blk.row E e .plain [])]) t = some b → (look S t = some b ∧ t < fr) ∨ (t = fr ∧ b = .row E e .plain []) := by
    intro t b hb
    rw [look_append] at hb
    cases hS : look S t with
    | some c => rw [hS] at hb; injection hb with hb; subst hb; exact .inl ⟨rfl, (hlt t _ hS).1⟩
    | none =>
      rw [hS] at hb
      simp only [look] at hb
      by_cases e : fr = t
      · subst e
        rw [beq_yes] at hb
        injection hb with hb
        exact .inr ⟨rfl, hb.symm⟩
      · rw [beq_no e] at hb; cases hb
  have hne : ∀ t, t < fr → setG γ fr ⟨none, 0, 0, e.size⟩ t = γ t := fun t ht => setG_ne γ _ (by omega)
  refine ⟨rfl, rfl, rfl, Nat.le_refl _, fun _ _ _ => rfl, hne, fun _ h => h, fun _ h => .inl h, ?_, fun _ _ => rfl, ?_⟩
  · rintro b ⟨t, ⟨y, hy⟩, hb⟩
    rcases hnew t y hy with ⟨h1, h2⟩ | ⟨rfl, rfl⟩
    · rw [hne t h2] at hb
      exact .inl ⟨t, ⟨y, h1⟩, hb⟩
    · rw [setG_self] at hb; cases hb
  · refine ⟨fun t b hb => ?_, fun t t' b ht ht' hb hb' => ?_, hI.fz⟩
    · rcases hnew t b hb with ⟨h1, h2⟩ | ⟨rfl, rfl⟩
      · exact (hI.blk t b h1).lasts (Lasts.refl F w) (hne t h2) (fun u hu => hne u ((hlt t b h1).2 u hu)) fun c hc => ⟨rfl, fun h => h⟩
      · show RowOk F (setG γ t ⟨none, 0, 0, e.size⟩ t) w E e .plain []
        rw [setG_self]
        exact ⟨rfl, rfl, .inl ⟨rfl, rfl⟩⟩
    · obtain ⟨y, hy⟩ := ht
      obtain ⟨y', hy'⟩ := ht'
      rcases hnew t y hy with ⟨h1, h2⟩ | ⟨e1, e2⟩ <;> rcases hnew t' y' hy' with ⟨h3, h4⟩ | ⟨e3, e4⟩
      · rw [hne t h2] at hb
        rw [hne t' h4] at hb'
        exact hI.inj t t' b ⟨y, h1⟩ ⟨y', h3⟩ hb hb'
      · subst e3; rw [setG_self] at hb'; cases hb'
      · subst e1; rw [setG_self] at hb; cases hb
      · omega

/-- The world with one block's cells turned. -/
structure Turned (w w' : World) (b : Nat) : Prop where
  os : w'.os = w.os
  tape : w'.tape = w.tape
  output : w'.output = w.output
  size : w'.heap.size = w.heap.size
  old : ∀ c, c ≠ b → w'.heap[c]? = w.heap[c]?

theorem Post.write {γ : Nat → G} {F : Nat → Prop} {w w' : World} {tok b : Nat} {x y : Blk} (hI : Inv F γ S w) (hS : look S tok = some x) (hb : (γ tok).blk = some b) (hF : ¬ F b) (h : Turned w w' b)
    (hy : BlkOk F γ w' tok y) : Post fr γ F w S γ F w' (upd S tok y) := by
  have hl : Lasts F F w w' := ⟨fun _ h => h, fun c hc => h.old c fun e => hF (e ▸ hc)⟩
  have hHas : ∀ t, Has (upd S tok y) t → Has S t := by
    rintro t ⟨z, hz⟩
    rw [look_upd] at hz
    split at hz
    · rename_i e; subst e; exact ⟨_, hS⟩
    · exact ⟨z, hz⟩
  refine ⟨h.os, h.tape, h.output, Nat.le_of_eq h.size.symm, fun c hc hm => h.old c fun e => hm ⟨tok, ⟨x, hS⟩, by rw [e]; exact hb⟩, fun _ _ => rfl, fun _ h => h, fun _ h => .inl h, ?_, hl.heap, ?_⟩
  · rintro c ⟨t, ht, hc⟩
    exact .inl ⟨t, hHas t ht, hc⟩
  · refine ⟨fun t z hz => ?_, fun t t' c ht ht' => hI.inj t t' c (hHas t ht) (hHas t' ht'), fun c hc => by rw [h.size]; exact hI.fz c hc⟩
    rw [look_upd] at hz
    split at hz
    · rename_i e
      subst e
      injection hz with hz
      subst hz
      exact hy
    · rename_i hne
      exact (hI.blk t z hz).lasts hl rfl (fun _ _ => rfl) fun c hc => ⟨h.old c fun e => hne (hI.inj tok t b ⟨x, hS⟩ ⟨z, hz⟩ hb (e ▸ hc)), fun h => h⟩

theorem RepA.new {γ : Nat → G} {F : Nat → Prop} {w w' : World} {o : Obj} {g : G} {x : AV} {v : Value} (hI : Inv F γ S w) (h : NewBlk w w' o) (hx : ∀ t ∈ x.toks, t < fr) (hr : RepA γ F w x v) : RepA (setG γ fr g) F w' x v :=
  hr.lasts (hI.lasts_new h) fun t ht => setG_ne γ g (by have := hx t ht; omega)
theorem RepCs.new {γ : Nat → G} {F : Nat → Prop} {w w' : World} {o : Obj} {g : G} {cs : List C} {vs : List Value} (hI : Inv F γ S w) (h : NewBlk w w' o) (hx : ∀ t ∈ cs.flatMap C.toks, t < fr) (hr : All2 (RepC γ F w) cs vs) : All2 (RepC (setG γ fr g) F w') cs vs :=
  RepCs.lasts (hI.lasts_new h) (fun t ht => setG_ne γ g (by have := hx t ht; omega)) hr

/-- A new variable. -/
theorem sem_newVar {γ : Nat → G} {F : Nat → Prop} {w w' : World} {E : Nat} {cs : List C} {arr : Array Value} (hI : Inv F γ S w) (hlt : StoLt fr S) (hcs : ∀ t ∈ cs.flatMap C.toks, t < fr) (hr : All2 (RepC γ F w) cs arr.toList)
    (h : NewBlk w w' (.cells arr E)) :
    ∃ γ', Post fr γ F w S γ' F w' (S ++ [(fr, .var cs)]) ∧ RepA γ' F w' (one (.ptr fr 0)) (.pointer (some ⟨w.heap.size, 0, none⟩)) := by
  refine ⟨setG γ fr ⟨some w.heap.size, 0, 0, 0⟩, Post.new hI hlt h rfl ⟨w.heap.size, arr, E, by rw [setG_self], h.new, fun hF => ?_, RepCs.new hI h hcs hr⟩, w.heap.size, by rw [setG_self], rfl⟩
  have := hI.fz _ hF
  omega

theorem sem_alloc (hΓ : tabIs P Γ = true) (t : TypeId) (r : TR) (z : List C) (hr : trOf Γ t = some r) (hz : r.zero = some z) : OpSem P ⟨dst, .alloc t, ty, pos, aft, gd⟩ [] fr S (one (.ptr fr 0)) (S ++ [(fr, .var z)]) := by
  intro γ F w a hI hlt _ _ next Q hn
  obtain ⟨d, i, ok⟩ := trOf_ok hΓ hr
  obtain ⟨v, hv, hzs, _⟩ := ok.zero z hz
  have hrep := zerosAre_rep (γ := γ) (F := F) (w := w) hzs
  have hnt : ∀ u ∈ z.flatMap C.toks, u < fr := by
    have : ∀ (cs : List C) (vs : List Value), zerosAre cs vs = true → cs.flatMap C.toks = [] := by
      intro cs
      induction cs with
      | nil => intro vs _; rfl
      | cons c cs ih =>
        intro vs h
        cases vs with
        | nil => simp [zerosAre] at h
        | cons v vs =>
          simp only [zerosAre, Bool.and_eq_true] at h
          have h1 : c.toks = [] := by
            have := h.1
            cases c <;> simp_all [zeroIs, C.toks]
          simp [h1, ih vs h.2]
    rw [this _ _ hzs]
    intro u hu
    simp at hu
  obtain ⟨γ', hp, hrp⟩ := sem_newVar hI hlt hnt hrep (NewBlk.alloc w (.cells v.cells t))
  refine wp_of_value (w' := w.alloc (.cells v.cells t)) ?_ (hn _ γ' F _ hp hrp)
  simp [execOp, Instr.alloc, zeroValue, typeInfo, ok.inf, hv, newVar, newRow]

theorem cells_of_rep {γ : Nat → G} {F : Nat → Prop} {w : World} {x : V1} {v : Value} (h : RepV γ F w x v) (hl : x.cells.all C.live = true) : All2 (RepC γ F w) x.cells v.cells.toList := by
  cases x with
  | one c =>
    have h1 : v.oneCell' = true := one_of_RepC h (by simpa [V1.cells] using hl)
    have : v.cells = #[v] := by cases v <;> simp_all [Value.cells, Value.oneCell']
    rw [this]
    exact ⟨h, trivial⟩
  | agg cs =>
    obtain ⟨l, rfl, h⟩ := h
    exact h

theorem sem_box (t : TypeId) (x : Operand) (av : V1) (hl : av.cells.all C.live = true) : OpSem P ⟨dst, .box t x, ty, pos, aft, gd⟩ [.v av] fr S (one (.ptr fr 0)) (S ++ [(fr, .var av.cells)]) := by
  intro γ F w a hI hlt hal hA next Q hn
  have hr := cells_of_rep hA.1 hl
  obtain ⟨γ', hp, hrp⟩ := sem_newVar hI hlt (fun t ht => hal (.v av) (by simp) t ht) hr (NewBlk.alloc w (.cells (a.eval x).cells t))
  refine wp_of_value (w' := w.alloc (.cells (a.eval x).cells t)) ?_ (hn _ γ' F _ hp hrp)
  simp [execOp, Instr.box, newVar, newRow]
end
end Go.Ab
