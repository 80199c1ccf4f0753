/- What abstract values stand for, and that it lasts. -/
import Derived.Test.YtioagofpofamiaaAb1
/-! What abstract values stand for, and that it lasts. -/
set_option linter.unusedVariables false
namespace Go.Ab

def All2 {α β : Type} (R : α → β → Prop) : List α → List β → Prop
  | [], [] => True
  | a :: l, b :: m => R a b ∧ All2 R l m
  | _, _ => False

theorem All2.length {α β : Type} {R : α → β → Prop} : ∀ {l : List α} {m : List β}, All2 R l m → l.length = m.length
  | [], [], _ => rfl
  | _ :: l, _ :: m, h => by simp [All2.length h.2]
  | [], _ :: _, h => h.elim
  | _ :: _, [], h => h.elim
theorem All2.imp {α β : Type} {R R' : α → β → Prop} : ∀ {l : List α} {m : List β}, All2 R l m → (∀ a ∈ l, ∀ b, R a b → R' a b) → All2 R' l m
  | [], [], _, _ => trivial
  | a :: l, b :: m, h, f => ⟨f a (by simp) b h.1, All2.imp h.2 fun x hx => f x (by simp [hx])⟩
  | [], _ :: _, h, _ => h.elim
  | _ :: _, [], h, _ => h.elim
theorem All2.get {α β : Type} {R : α → β → Prop} : ∀ {l : List α} {m : List β}, All2 R l m → ∀ (i : Nat) (a : α), l[i]? = some a → ∃ b, m[i]? = some b ∧ R a b
  | a :: l, b :: m, h, 0, x, hx => by simp at hx; subst hx; exact ⟨b, rfl, h.1⟩
  | a :: l, b :: m, h, i + 1, x, hx => by simpa using All2.get h.2 i x (by simpa using hx)
  | [], _, _, i, x, hx => by simp at hx
  | _ :: _, [], h, _, _, _ => h.elim
theorem All2.append {α β : Type} {R : α → β → Prop} : ∀ {l : List α} {m : List β} {l' : List α} {m' : List β}, All2 R l m → All2 R l' m' → All2 R (l ++ l') (m ++ m')
  | [], [], _, _, _, h' => h'
  | _ :: l, _ :: m, _, _, h, h' => ⟨h.1, All2.append h.2 h'⟩
  | [], _ :: _, _, _, h, _ => h.elim
  | _ :: _, [], _, _, h, _ => h.elim
theorem All2.take {α β : Type} {R : α → β → Prop} : ∀ (n : Nat) {l : List α} {m : List β}, All2 R l m → All2 R (l.take n) (m.take n)
  | 0, _, _, _ => by simp [All2]
  | n + 1, [], [], _ => by simp [All2]
  | n + 1, _ :: l, _ :: m, h => by simpa [All2] using ⟨h.1, All2.take n h.2⟩
  | _ + 1, [], _ :: _, h => h.elim
  | _ + 1, _ :: _, [], h => h.elim
theorem All2.drop {α β : Type} {R : α → β → Prop} : ∀ (n : Nat) {l : List α} {m : List β}, All2 R l m → All2 R (l.drop n) (m.drop n)
  | 0, _, _, h => by simpa using h
  | n + 1, [], [], _ => by simp [All2]
  | n + 1, _ :: l, _ :: m, h => by simpa using All2.drop n h.2
  | _ + 1, [], _ :: _, h => h.elim
  | _ + 1, _ :: _, [], h => h.elim
theorem All2.map_left {α α' β : Type} {R : α → β → Prop} {R' : α' → β → Prop} {f : α → α'} : ∀ {l : List α} {m : List β}, All2 R l m → (∀ a ∈ l, ∀ b, R a b → R' (f a) b) → All2 R' (l.map f) m
  | [], [], _, _ => trivial
  | a :: l, b :: m, h, g => ⟨g a (by simp) b h.1, All2.map_left h.2 fun x hx => g x (by simp [hx])⟩
  | [], _ :: _, h, _ => h.elim
  | _ :: _, [], h, _ => h.elim

/-- Where a token's block lies. -/
structure G where
  blk : Option Nat
  len : Nat
  cap : Nat
  sz : Nat
def G.val (g : G) : Value := match g.blk with
  | some b => .slice (some ⟨b, 0, none⟩) g.len g.cap
  | none => .slice none 0 0

section
variable (F : Nat → Prop) (w : World)

/-- A slice that is read. -/
def RoSl {α : Type} (R : α → List Value → Prop) (sz : Nat) (xs : List α) (v : Value) : Prop :=
  ∃ A n cap, v = .slice A n cap ∧ xs.length = n ∧ n ≤ cap ∧
    (0 < n → ∃ a : Addr, A = some a ∧ a.spot = none ∧ F a.block ∧ ∀ i x, xs[i]? = some x → ∃ l, R x l ∧ l.length = sz ∧ ∀ j v, l[j]? = some v → w.cell? ⟨a.block, a.off + (i * sz + j), none⟩ = some v)

def RepD : (t : Ty) → t.den → List Value → Prop
  | .int k, x, l => l = [.int k x]
  | .bool, x, l => l = [.bool x]
  | .str, x, l => l = [.string x]
  | .pair a b, x, l => ∃ l1 l2, l = l1 ++ l2 ∧ RepD a x.1 l1 ∧ RepD b x.2 l2
  | .slice e, xs, l => ∃ v, l = [v] ∧ RoSl F w (RepD e) e.size xs v

def Flat (e : Ty) : List e.den → List Value → Prop
  | [], l => l = []
  | x :: xs, l => ∃ l1 l2, l = l1 ++ l2 ∧ RepD F w e x l1 ∧ Flat e xs l2
end

theorem RepD.length {F : Nat → Prop} {w : World} : ∀ {t : Ty} {x : t.den} {l : List Value}, RepD F w t x l → l.length = t.size
  | .int _, _, _, h => by simp only [RepD] at h; subst h; rfl
  | .bool, _, _, h => by simp only [RepD] at h; subst h; rfl
  | .str, _, _, h => by simp only [RepD] at h; subst h; rfl
  | .pair a b, _, _, h => by
    simp only [RepD] at h
    obtain ⟨l1, l2, rfl, h1, h2⟩ := h
    simp [Ty.size, RepD.length h1, RepD.length h2]
  | .slice e, _, _, h => by
    simp only [RepD] at h
    obtain ⟨v, rfl, _⟩ := h
    rfl

theorem Ty.size_pos : ∀ t : Ty, 0 < t.size
  | .pair a b => by have := a.size_pos; simp [Ty.size]; omega
  | .int _ | .bool | .str | .slice _ => by simp [Ty.size]

theorem Flat.length {F : Nat → Prop} {w : World} {e : Ty} : ∀ {xs : List e.den} {l : List Value}, Flat F w e xs l → l.length = xs.length * e.size
  | [], _, h => by simp only [Flat] at h; subst h; simp
  | x :: xs, _, h => by
    simp only [Flat] at h
    obtain ⟨l1, l2, rfl, h1, h2⟩ := h
    simp [RepD.length h1, Flat.length h2, Nat.add_mul, Nat.add_comm]

theorem Flat.append {F : Nat → Prop} {w : World} {e : Ty} : ∀ {xs ys : List e.den} {l m : List Value}, Flat F w e xs l → Flat F w e ys m → Flat F w e (xs ++ ys) (l ++ m)
  | [], _, _, _, h, h' => by simp only [Flat] at h; subst h; simpa using h'
  | x :: xs, _, _, _, h, h' => by
    simp only [Flat] at h
    obtain ⟨l1, l2, rfl, h1, h2⟩ := h
    exact ⟨l1, _, List.append_assoc .., h1, Flat.append h2 h'⟩

/-- An element's cells in the whole. -/
theorem Flat.at {F : Nat → Prop} {w : World} {e : Ty} : ∀ {xs : List e.den} {l : List Value}, Flat F w e xs l → ∀ i x, xs[i]? = some x →
    ∃ m, RepD F w e x m ∧ ∀ j v, m[j]? = some v → l[i * e.size + j]? = some v
  | [], _, _, i, x, hx => by simp at hx
  | y :: xs, _, h, 0, x, hx => by
    simp only [Flat] at h
    obtain ⟨l1, l2, rfl, h1, h2⟩ := h
    simp at hx
    subst hx
    refine ⟨l1, h1, fun j v hv => ?_⟩
    have hj : j < l1.length := (List.getElem?_eq_some_iff.1 hv).1
    simpa [List.getElem?_append_left hj] using hv
  | y :: xs, _, h, i + 1, x, hx => by
    simp only [Flat] at h
    obtain ⟨l1, l2, rfl, h1, h2⟩ := h
    obtain ⟨m, hm, hl⟩ := Flat.at h2 i x (by simpa using hx)
    refine ⟨m, hm, fun j v hv => ?_⟩
    have := hl j v hv
    rw [List.getElem?_append_right (by rw [RepD.length h1, Nat.add_mul]; omega), RepD.length h1, ← this]
    congr 1
    rw [Nat.add_mul]
    omega

theorem Flat.take {F : Nat → Prop} {w : World} {e : Ty} : ∀ (n : Nat) {xs : List e.den} {l : List Value}, Flat F w e xs l → Flat F w e (xs.take n) (l.take (n * e.size))
  | 0, _, _, _ => by simp [Flat]
  | n + 1, [], _, h => by simp only [Flat] at h; subst h; simp [Flat]
  | n + 1, x :: xs, _, h => by
    simp only [Flat] at h
    obtain ⟨l1, l2, rfl, h1, h2⟩ := h
    refine ⟨l1, l2.take (n * e.size), ?_, h1, Flat.take n h2⟩
    rw [List.take_append, RepD.length h1, List.take_of_length_le (by rw [RepD.length h1, Nat.add_mul]; omega)]
    congr 2
    rw [Nat.add_mul]
    omega

/-- An element turned. -/
theorem Flat.set {F : Nat → Prop} {w : World} {e : Ty} : ∀ {xs : List e.den} {l : List Value}, Flat F w e xs l → ∀ (i : Nat) (y : e.den) (m : List Value), i < xs.length → RepD F w e y m →
    Flat F w e (xs.set i y) (l.take (i * e.size) ++ m ++ l.drop (i * e.size + e.size))
  | [], _, _, i, y, m, hi, _ => by simp at hi
  | x :: xs, _, h, 0, y, m, _, hm => by
    simp only [Flat] at h
    obtain ⟨l1, l2, rfl, h1, h2⟩ := h
    refine ⟨m, l2, ?_, hm, h2⟩
    have := RepD.length h1
    simp [List.drop_left' this]
  | x :: xs, _, h, i + 1, y, m, hi, hm => by
    simp only [Flat] at h
    obtain ⟨l1, l2, rfl, h1, h2⟩ := h
    refine ⟨l1, _, ?_, h1, Flat.set h2 i y m (by simpa using hi) hm⟩
    have h3 := RepD.length h1
    have e1 : (i + 1) * e.size = e.size + i * e.size := by rw [Nat.add_mul]; omega
    rw [e1, List.take_append, h3, List.take_of_length_le (by omega), List.drop_append, h3, List.drop_of_length_le (by omega)]
    simp only [List.nil_append, List.append_assoc]
    congr 3
    · congr 1; omega
    · congr 1; omega

/-! ### That data last -/
structure Lasts (F F' : Nat → Prop) (w w' : World) : Prop where
  sub : ∀ b, F b → F' b
  heap : ∀ b, F b → w'.heap[b]? = w.heap[b]?
theorem Lasts.refl (F : Nat → Prop) (w : World) : Lasts F F w w := ⟨fun _ h => h, fun _ _ => rfl⟩

theorem RoSl.lasts {α : Type} {R R' : α → List Value → Prop} {F F' : Nat → Prop} {w w' : World} {sz : Nat} {xs : List α} {v : Value} (h : RoSl F w R sz xs v) (hl : Lasts F F' w w')
    (hR : ∀ x l, R x l → R' x l) : RoSl F' w' R' sz xs v := by
  obtain ⟨A, n, cap, hv, hn, hc, h⟩ := h
  refine ⟨A, n, cap, hv, hn, hc, fun h0 => ?_⟩
  obtain ⟨a, hA, hs, hF, h⟩ := h h0
  refine ⟨a, hA, hs, hl.sub _ hF, fun i x hx => ?_⟩
  obtain ⟨l, h1, h2, h3⟩ := h i x hx
  exact ⟨l, hR _ _ h1, h2, fun j v hv => (World.cell?_of_block (a := ⟨a.block, a.off + (i * sz + j), none⟩) (hl.heap _ hF)).trans (h3 j v hv)⟩

theorem RepD.lasts {F F' : Nat → Prop} {w w' : World} (hl : Lasts F F' w w') : ∀ {t : Ty} {x : t.den} {l : List Value}, RepD F w t x l → RepD F' w' t x l
  | .int _, _, _, h => h
  | .bool, _, _, h => h
  | .str, _, _, h => h
  | .pair a b, _, _, h => by
    simp only [RepD] at h ⊢
    obtain ⟨l1, l2, rfl, h1, h2⟩ := h
    exact ⟨l1, l2, rfl, RepD.lasts hl h1, RepD.lasts hl h2⟩
  | .slice e, _, _, h => by
    simp only [RepD] at h ⊢
    obtain ⟨v, rfl, h⟩ := h
    exact ⟨v, rfl, h.lasts hl fun x l => RepD.lasts hl⟩
theorem Flat.lasts {F F' : Nat → Prop} {w w' : World} (hl : Lasts F F' w w') {e : Ty} : ∀ {xs : List e.den} {l : List Value}, Flat F w e xs l → Flat F' w' e xs l
  | [], _, h => h
  | _ :: _, _, h => by
    simp only [Flat] at h ⊢
    obtain ⟨l1, l2, rfl, h1, h2⟩ := h
    exact ⟨l1, l2, rfl, h1.lasts hl, Flat.lasts hl h2⟩

/-! ### Values -/
section
variable (γ : Nat → G) (F : Nat → Prop) (w : World)

def RepC : C → Value → Prop
  | .int k n, v => v = .int k n
  | .bool b, v => v = .bool b
  | .str s, v => v = .string s
  | .ro e xs, v => RoSl F w (RepD F w e) e.size xs v
  | .emp, v => v = .slice none 0 0
  | .own t, v => v = (γ t).val
  | .ptr t off, v => ∃ b, (γ t).blk = some b ∧ v = .pointer (some ⟨b, off, none⟩)
  | .eptr t i fo, v => ∃ b, (γ t).blk = some b ∧ 0 ≤ i ∧ i.toNat < (γ t).len ∧ v = .pointer (some ⟨b, i.toNat * (γ t).sz + fo, none⟩)
  | .aptr t off n i, v => ∃ b, (γ t).blk = some b ∧ 0 ≤ i ∧ i.toNat < n ∧ v = .pointer (some ⟨b, off + i.toNat, none⟩)
  | .rptr e x fo, v => ∃ (a : Addr) (l : List Value), F a.block ∧ RepD F w e x l ∧ (∀ j u, l[j]? = some u → w.cell? ⟨a.block, a.off + j, none⟩ = some u) ∧ v = .pointer (some ⟨a.block, a.off + fo, none⟩)
  | .fn f caps, v => ∃ bs : List Nat, v = .func (.func f) #[] (bs.map fun b => Value.pointer (some ⟨b, 0, none⟩)).toArray ∧ All2 (fun t b => (γ t).blk = some b) caps bs
  | .nil k, v => v = k.val
  | .dead, _ => True

def RepV : V1 → Value → Prop
  | .one c, v => RepC γ F w c v
  | .agg cs, v => ∃ l : List Value, v = .agg l.toArray ∧ All2 (RepC γ F w) cs l

def RepA : AV → Value → Prop
  | .v x, v => RepV γ F w x v
  | .tup l, v => ∃ vs : List Value, v = .tuple vs.toArray ∧ All2 (RepV γ F w) l vs
  | .undef, _ => True
end

theorem RepC.lasts {γ γ' : Nat → G} {F F' : Nat → Prop} {w w' : World} (hl : Lasts F F' w w') {c : C} {v : Value} (hγ : ∀ t ∈ c.toks, γ' t = γ t) (h : RepC γ F w c v) : RepC γ' F' w' c v := by
  cases c with
  | ro e xs => exact RoSl.lasts h hl fun x l => RepD.lasts hl
  | own t => simp only [RepC] at h ⊢; rw [hγ t (by simp [C.toks])]; exact h
  | ptr t off => simp only [RepC] at h ⊢; rw [hγ t (by simp [C.toks])]; exact h
  | eptr t i fo => simp only [RepC] at h ⊢; rw [hγ t (by simp [C.toks])]; exact h
  | aptr t off n i => simp only [RepC] at h ⊢; rw [hγ t (by simp [C.toks])]; exact h
  | rptr e x fo =>
    obtain ⟨a, l, h1, h2, h3, h4⟩ := h
    exact ⟨a, l, hl.sub _ h1, h2.lasts hl, fun j u hu => (World.cell?_of_block (a := ⟨a.block, a.off + j, none⟩) (hl.heap _ h1)).trans (h3 j u hu), h4⟩
  | fn f caps =>
    obtain ⟨bs, h1, h2⟩ := h
    exact ⟨bs, h1, h2.imp fun t ht b hb => by rw [hγ t (by simpa [C.toks] using ht)]; exact hb⟩
  | _ => exact h

theorem RepCs.lasts {γ γ' : Nat → G} {F F' : Nat → Prop} {w w' : World} (hl : Lasts F F' w w') {cs : List C} {vs : List Value} (hγ : ∀ t ∈ cs.flatMap C.toks, γ' t = γ t)
    (h : All2 (RepC γ F w) cs vs) : All2 (RepC γ' F' w') cs vs :=
  h.imp fun c hc v hv => RepC.lasts hl (fun t ht => hγ t (List.mem_flatMap.2 ⟨c, hc, ht⟩)) hv

theorem RepV.lasts {γ γ' : Nat → G} {F F' : Nat → Prop} {w w' : World} (hl : Lasts F F' w w') {x : V1} {v : Value} (hγ : ∀ t ∈ x.toks, γ' t = γ t) (h : RepV γ F w x v) : RepV γ' F' w' x v := by
  cases x with
  | one c => exact RepC.lasts hl (fun t ht => hγ t (by simpa [V1.toks, V1.cells] using ht)) h
  | agg cs =>
    obtain ⟨l, h1, h2⟩ := h
    exact ⟨l, h1, RepCs.lasts hl (fun t ht => hγ t (by simpa [V1.toks, V1.cells] using ht)) h2⟩

theorem RepA.lasts {γ γ' : Nat → G} {F F' : Nat → Prop} {w w' : World} (hl : Lasts F F' w w') {x : AV} {v : Value} (hγ : ∀ t ∈ x.toks, γ' t = γ t) (h : RepA γ F w x v) : RepA γ' F' w' x v := by
  cases x with
  | v x => exact RepV.lasts hl hγ h
  | tup l =>
    obtain ⟨vs, h1, h2⟩ := h
    exact ⟨vs, h1, h2.imp fun y hy u hu => RepV.lasts hl (fun t ht => hγ t (by simp only [AV.toks]; exact List.mem_flatMap.2 ⟨y, hy, ht⟩)) hu⟩
  | undef => trivial

/-! ### The store -/
/-- A row's block: none yet, or cells enough, the first of which are the elements'. -/
def RowOk (F : Nat → Prop) (g : G) (w : World) (E : Nat) (e : Ty) (m : RowK) (xs : List e.den) : Prop :=
  g.len = xs.length ∧ g.sz = e.size ∧
  ((g.blk = none ∧ xs = []) ∨
   ∃ b cur fr flat, g.blk = some b ∧ w.heap[b]? = some (.cells cur E fr) ∧ xs.length ≤ g.cap ∧ g.cap ≤ maxLen ∧ cur.size = g.cap * e.size ∧
     cur.toList.take (xs.length * e.size) = flat ∧ Flat F w e xs flat ∧
     (match m with
      | .plain => ¬ F b ∧ fr = (0, 0)
      | .mark => ¬ F b ∧ cur.size ≤ fr.1
      | .frz => F b))

def BlkOk (F : Nat → Prop) (γ : Nat → G) (w : World) (t : Nat) : Blk → Prop
  | .var cs => ∃ b cur E, (γ t).blk = some b ∧ w.heap[b]? = some (.cells cur E (0, 0)) ∧ ¬ F b ∧ All2 (RepC γ F w) cs cur.toList
  | .row E e m xs => RowOk F (γ t) w E e m xs

def Has (S : Store) (t : Nat) : Prop := ∃ b, look S t = some b

structure Inv (F : Nat → Prop) (γ : Nat → G) (S : Store) (w : World) : Prop where
  blk : ∀ t b, look S t = some b → BlkOk F γ w t b
  inj : ∀ t t' b, Has S t → Has S t' → (γ t).blk = some b → (γ t').blk = some b → t = t'
  fz : ∀ b, F b → b < w.heap.size

/-- The blocks that tokens stand for. -/
def Mine (γ : Nat → G) (S : Store) (b : Nat) : Prop := ∃ t, Has S t ∧ (γ t).blk = some b

/-- What has become of the world, and of what is known of it. -/
structure Post (fr : Nat) (γ : Nat → G) (F : Nat → Prop) (w : World) (S : Store) (γ' : Nat → G) (F' : Nat → Prop) (w' : World) (S' : Store) : Prop where
  os : w'.os = w.os
  tape : w'.tape = w.tape
  output : w'.output = w.output
  size : w.heap.size ≤ w'.heap.size
  heap : ∀ b, b < w.heap.size → ¬ Mine γ S b → w'.heap[b]? = w.heap[b]?
  gam : ∀ t, t < fr → γ' t = γ t
  sub : ∀ b, F b → F' b
  fnew : ∀ b, F' b → F b ∨ Mine γ S b ∨ w.heap.size ≤ b
  mine : ∀ b, Mine γ' S' b → Mine γ S b ∨ w.heap.size ≤ b
  frz : ∀ b, F b → w'.heap[b]? = w.heap[b]?
  inv : Inv F' γ' S' w'

theorem Post.lasts {fr : Nat} {γ : Nat → G} {F : Nat → Prop} {w : World} {S : Store} {γ' : Nat → G} {F' : Nat → Prop} {w' : World} {S' : Store} (h : Post fr γ F w S γ' F' w' S') : Lasts F F' w w' := ⟨h.sub, h.frz⟩

/-- Nothing has been written. -/
theorem Post.same {fr : Nat} {γ : Nat → G} {F : Nat → Prop} {w : World} {S : Store} (h : Inv F γ S w) : Post fr γ F w S γ F w S :=
  ⟨rfl, rfl, rfl, Nat.le_refl _, fun _ _ _ => rfl, fun _ _ => rfl, fun _ h => h, fun _ h => .inl h, fun _ h => .inl h, fun _ _ => rfl, h⟩

theorem lt_of_cells {w : World} {b : Nat} {o : Obj} (h : w.heap[b]? = some o) : b < w.heap.size := (Array.getElem?_eq_some_iff.1 h).1
theorem BlkOk.lt {F : Nat → Prop} {γ : Nat → G} {w : World} {t : Nat} {x : Blk} (h : BlkOk F γ w t x) {b : Nat} (hb : (γ t).blk = some b) : b < w.heap.size := by
  cases x with
  | var cs =>
    obtain ⟨b', cur, E, h1, h2, _⟩ := h
    rw [h1] at hb
    injection hb with hb
    subst hb
    exact lt_of_cells h2
  | row E e m xs =>
    obtain ⟨_, _, h | ⟨b', cur, fr, flat, h1, h2, _⟩⟩ := h
    · rw [h.1] at hb
      cases hb
    · rw [h1] at hb
      injection hb with hb
      subst hb
      exact lt_of_cells h2
theorem Inv.mine_lt {F : Nat → Prop} {γ : Nat → G} {S : Store} {w : World} (h : Inv F γ S w) {b : Nat} (hb : Mine γ S b) : b < w.heap.size := by
  obtain ⟨t, ⟨x, hx⟩, hb⟩ := hb
  exact (h.blk t x hx).lt hb

/-! ### Lists by keys -/
theorem beq_iff (i j : Nat) : Nat.beq i j = true ↔ i = j := by simp
theorem beq_no {i j : Nat} (h : i ≠ j) : Nat.beq i j = false := by
  cases e : Nat.beq i j with
  | false => rfl
  | true => exact absurd ((beq_iff i j).1 e) h
theorem beq_yes (i : Nat) : Nat.beq i i = true := (beq_iff i i).2 rfl
theorem look_append {α : Type} (l m : List (Nat × α)) (j : Nat) : look (l ++ m) j = (match look l j with | some x => some x | none => look m j) := by
  induction l with
  | nil => rfl
  | cons p l ih =>
    simp only [List.cons_append, look]
    cases Nat.beq p.1 j <;> simp [ih]
theorem look_upd {α : Type} (l : List (Nat × α)) (i j : Nat) (x : α) : look (upd l i x) j = if i = j then some x else look l j := by
  induction l with
  | nil =>
    simp only [upd, look]
    by_cases h : i = j
    · subst h; rw [beq_yes, if_pos rfl]; rfl
    · rw [beq_no h, if_neg h]; rfl
  | cons p l ih =>
    simp only [upd]
    by_cases hp : p.1 = i
    · subst hp
      rw [beq_yes]
      simp only [cond_true, look]
      by_cases h : p.1 = j
      · subst h; rw [beq_yes, if_pos rfl]; rfl
      · rw [beq_no h, if_neg h]; rfl
    · rw [beq_no hp]
      simp only [cond_false, look, ih]
      by_cases h : i = j
      · subst h
        simp [beq_no hp]
      · simp only [if_neg h]
theorem memb_iff (l : List Nat) (j : Nat) : memb l j = true ↔ j ∈ l := by
  induction l with
  | nil => simp [memb]
  | cons i l ih =>
    simp only [memb, List.mem_cons]
    by_cases h : i = j
    · subst h; rw [beq_yes]; simp
    · rw [beq_no h]
      simp only [cond_false, ih]
      constructor
      · exact .inr
      · rintro (rfl | h')
        · exact absurd rfl h
        · exact h'
theorem look_keep {α : Type} (f : Nat → Bool) (l : List (Nat × α)) (j : Nat) : look (keep f l) j = if f j = true then look l j else none := by
  induction l with
  | nil => simp [keep, look]
  | cons p l ih =>
    simp only [keep]
    by_cases hf : f p.1 = true
    · rw [hf]
      simp only [cond_true, look]
      by_cases h : p.1 = j
      · subst h; rw [beq_yes, if_pos hf]; rfl
      · rw [beq_no h]; exact ih
    · have hf' : f p.1 = false := by simpa using hf
      rw [hf']
      simp only [cond_false, ih, look]
      by_cases h : p.1 = j
      · subst h; simp [hf']
      · rw [beq_no h]; rfl

/-- One block of the store turned, another world, nothing else of it written. -/
theorem BlkOk.lasts {F F' : Nat → Prop} {γ γ' : Nat → G} {w w' : World} {t : Nat} {x : Blk} (h : BlkOk F γ w t x) (hl : Lasts F F' w w') (ht : γ' t = γ t) (hγ : ∀ u ∈ x.toks, γ' u = γ u)
    (hb : ∀ b, (γ t).blk = some b → w'.heap[b]? = w.heap[b]? ∧ (F' b → F b)) : BlkOk F' γ' w' t x := by
  cases x with
  | var cs =>
    obtain ⟨b, cur, E, h1, h2, h3, h4⟩ := h
    refine ⟨b, cur, E, by rw [ht]; exact h1, (hb b h1).1.trans h2, fun h => h3 ((hb b h1).2 h), RepCs.lasts hl hγ h4⟩
  | row E e m xs =>
    obtain ⟨g1, g2, h⟩ := h
    refine ⟨by rw [ht]; exact g1, by rw [ht]; exact g2, ?_⟩
    rw [ht]
    rcases h with h | ⟨b, cur, fr, flat, h1, h2, h3, h4, h5, h6, h7, h8⟩
    · exact .inl h
    · refine .inr ⟨b, cur, fr, flat, h1, (hb b h1).1.trans h2, h3, h4, h5, h6, h7.lasts hl, ?_⟩
      cases m with
      | plain => exact ⟨fun h => h8.1 ((hb b h1).2 h), h8.2⟩
      | mark => exact ⟨fun h => h8.1 ((hb b h1).2 h), h8.2⟩
      | frz => exact hl.sub _ h8

/-! ### A part of the store goes on, the rest stays -/
theorem Has.keep {f : Nat → Bool} {S : Store} {t : Nat} : Has (keep f S) t ↔ f t = true ∧ Has S t := by
  simp only [Has, look_keep]
  by_cases h : f t = true <;> simp [h]
theorem Has.append {S T : Store} {t : Nat} : Has (S ++ T) t ↔ Has S t ∨ Has T t := by
  simp only [Has, look_append]
  cases look S t <;> simp

theorem Inv.part {F : Nat → Prop} {γ : Nat → G} {S : Store} {w : World} (h : Inv F γ S w) (f : Nat → Bool) : Inv F γ (keep f S) w where
  blk t b hb := by
    rw [look_keep] at hb
    split at hb
    · exact h.blk t b hb
    · cases hb
  inj t t' b ht ht' := h.inj t t' b (Has.keep.1 ht).2 (Has.keep.1 ht').2
  fz := h.fz

theorem keysOk_has {ts : List Nat} {nx : Nat} : ∀ {S : Store}, keysOk ts nx S = true → ∀ {t : Nat}, Has S t → t ∈ ts ∨ nx ≤ t
  | [], _, t, h => by obtain ⟨b, hb⟩ := h; cases hb
  | (u, b) :: S, hk, t, h => by
    simp only [keysOk, Bool.and_eq_true, Bool.or_eq_true, memb_iff, Nat.ble_eq] at hk
    by_cases e : u = t
    · subst e; exact hk.1
    · refine keysOk_has hk.2 ?_
      obtain ⟨x, hx⟩ := h
      simp only [look, beq_no e, cond_false] at hx
      exact ⟨x, hx⟩
theorem allLt_mem {n : Nat} : ∀ {l : List Nat}, allLt n l = true → ∀ t ∈ l, t < n
  | [], _, t, h => by simp at h
  | u :: l, hl, t, h => by
    simp only [allLt, Bool.and_eq_true] at hl
    rcases List.mem_cons.1 h with rfl | h
    · have := hl.1
      simpa [Nat.blt_eq] using this
    · exact allLt_mem hl.2 t h
theorem stoLt_look {n : Nat} : ∀ {S : Store}, stoLt n S = true → ∀ {t : Nat} {b : Blk}, look S t = some b → t < n ∧ ∀ u ∈ b.toks, u < n
  | [], _, t, b, h => by cases h
  | (u, x) :: S, hS, t, b, h => by
    simp only [stoLt, Bool.and_eq_true, Nat.blt_eq] at hS
    by_cases e : u = t
    · subst e
      simp only [look, beq_yes, cond_true] at h
      injection h with h
      subst h
      exact ⟨by simpa [Nat.blt_eq] using hS.1, allLt_mem hS.2.1⟩
    · simp only [look, beq_no e, cond_false] at h
      exact stoLt_look hS.2.2 h

/-- The whole store, of which a part has gone on. -/
theorem Inv.split {F : Nat → Prop} {γ : Nat → G} {S : Store} {w : World} {ts : List Nat} {fr : Nat} {γ' : Nat → G} {F' : Nat → Prop} {w' : World} {S' : Store} (h : Inv F γ S w)
    (hlt : ∀ t b, look S t = some b → t < fr ∧ ∀ u ∈ b.toks, u < fr) (p : Post fr γ F w (keep (memb ts) S) γ' F' w' S') (hk : ∀ t, Has S' t → t ∈ ts ∨ fr ≤ t) :
    Inv F' γ' (keep (fun t => !memb ts t) S ++ S') w' := by
  have notMine : ∀ t b, Has S t → t ∉ ts → (γ t).blk = some b → ¬ Mine γ (keep (memb ts) S) b := by
    rintro t b ht hts hb ⟨u, hu, hub⟩
    have hu' := Has.keep.1 hu
    exact hts (by rw [h.inj t u b ht hu'.2 hb hub]; exact (memb_iff _ _).1 hu'.1)
  have restHas : ∀ t, Has (keep (fun t => !memb ts t) S) t → t ∉ ts ∧ Has S t := by
    intro t ht
    have := Has.keep.1 ht
    refine ⟨fun hm => ?_, this.2⟩
    have h2 := this.1
    rw [(memb_iff ts t).2 hm] at h2
    cases h2
  have hfix : ∀ t, Has S t → γ' t = γ t := fun t ⟨b, hb⟩ => p.gam t (hlt t b hb).1
  refine ⟨fun t b hb => ?_, fun t t' b ht ht' hb hb' => ?_, p.inv.fz⟩
  · rw [look_append] at hb
    cases hl : look (keep (fun t => !memb ts t) S) t with
    | some x =>
      rw [hl] at hb
      simp only [Option.some.injEq] at hb
      subst hb
      have ht := restHas t ⟨x, hl⟩
      have hS : look S t = some x := by
        rw [look_keep] at hl
        split at hl
        · exact hl
        · cases hl
      refine (h.blk t x hS).lasts p.lasts (hfix t ht.2) (fun u hu => p.gam u ((hlt t x hS).2 u hu)) fun b hb => ?_
      have hbl := (h.blk t x hS).lt hb
      have hnm := notMine t b ht.2 ht.1 hb
      exact ⟨p.heap b hbl hnm, fun hF => (p.fnew b hF).resolve_right (fun hh => hh.elim hnm (fun hh => by omega))⟩
    | none =>
      rw [hl] at hb
      exact p.inv.blk t b hb
  · rcases Has.append.1 ht with h1 | h1 <;> rcases Has.append.1 ht' with h2 | h2
    · have e1 := restHas t h1
      have e2 := restHas t' h2
      rw [hfix t e1.2] at hb
      rw [hfix t' e2.2] at hb'
      exact h.inj t t' b e1.2 e2.2 hb hb'
    · have e1 := restHas t h1
      rw [hfix t e1.2] at hb
      obtain ⟨x, hx⟩ := e1.2
      have hbl := (h.blk t x hx).lt hb
      exact absurd ((p.mine b ⟨t', h2, hb'⟩).resolve_right (by omega)) (notMine t b e1.2 e1.1 hb)
    · have e1 := restHas t' h2
      rw [hfix t' e1.2] at hb'
      obtain ⟨x, hx⟩ := e1.2
      have hbl := (h.blk t' x hx).lt hb'
      exact absurd ((p.mine b ⟨t, h1, hb⟩).resolve_right (by omega)) (notMine t' b e1.2 e1.1 hb')
    · exact p.inv.inj t t' b h1 h2 hb hb'

end Go.Ab
