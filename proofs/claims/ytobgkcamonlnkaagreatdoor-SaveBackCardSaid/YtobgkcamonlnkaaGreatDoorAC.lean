/- Regions whose order is drawn: their law. -/
import Derived.Test.YtobgkcamonlnkaaGreatDoorAB
import Derived.Deep.Slices
import Derived.Below
import Derived.SizedLaws
import Derived.ChangeOld
import Derived.OpenShut
import Derived.WalkKit
import Derived.ProofKit
import Derived.Carry
import Derived.Shelf.Spec.BitsCarry
import Derived.LoopN
/-! Regions whose order is drawn: their law. -/
set_option linter.unusedVariables false
set_option linter.unusedSimpArgs false
namespace Go.Ab

def Tr.out (t : Tr) : Store := if t.quiet = true then t.part else t.S'

/-! ### One more -/
section
variable {P : Program} {b : Start} {N : Nat}

end
end Go.Ab
/-! Regions whose order is drawn: every order. -/
set_option linter.unusedVariables false
set_option linter.unusedSimpArgs false
namespace Go.Ab

section
variable {P : Program} {b : Start} {N : Nat} {ops : Array Oper} {L : List Tr} {st0 : St} {nF : Nat}

def Doing (b : Start) (N : Nat) (L : List Tr) (st0 : St) (nF : Nat) (f : Nat → Bool) (a : Act) (w : World) : Prop :=
  Good b N { env := (play f L 0 st0).env, sto := (play f L 0 st0).sto, nxt := nF, args := st0.args } a w

end
end Go.Ab
/-! Regions whose order is drawn: the whole. -/
set_option linter.unusedVariables false
set_option linter.unusedSimpArgs false
namespace Go.Ab

section
variable {P : Program} {b : Start} {N : Nat} {ops : Array Oper} {L : List Tr} {st0 : St} {nF : Nat}

theorem Doing.congr {f g : Nat → Bool} {a : Act} {w : World} (h : Doing b N L st0 nF f a w) (he : ∀ j, j < L.length → f j = g j) : Doing b N L st0 nF g a w := by
  unfold Doing at *
  rwa [play_congr (f := g) (g := f) fun j hj => by rw [Nat.zero_add]; exact (he j hj).symm]

end
end Go.Ab
/-! Code with summaries of its parts: loops, and places where ways meet. -/
set_option linter.unusedVariables false
set_option linter.unusedSimpArgs false
namespace Go.Ab

/-- What a part of the code comes to. -/
abbrev Sum1 := (R : Type) → (X → St → Option R) → St → Option R
abbrev Sums := List (Nat × Sum1)
def lookS : Sums → Nat → Option Sum1
  | [], _ => none
  | p :: l, j => bif Nat.beq p.1 j then some p.2 else lookS l j

/-- The parts of a code at a place. -/
def codesAt (q : Nat) : Code → Nat → List Code
  | .seq a b, p => (bif Nat.beq p q then [.seq a b] else []) ++ (codesAt q a (2 * p) ++ codesAt q b (2 * p + 1))
  | .cond c x y, p => (bif Nat.beq p q then [.cond c x y] else []) ++ (codesAt q x (2 * p) ++ codesAt q y (2 * p + 1))
  | .block id c, p => (bif Nat.beq p q then [.block id c] else []) ++ codesAt q c (2 * p)
  | .loop c, p => (bif Nat.beq p q then [.loop c] else []) ++ codesAt q c (2 * p)
  | _, _ => []

def SumOk (P : Program) (N : Nat) (c : Code) (s : Sum1) : Prop :=
  ∀ (R : Type) (b : Start) (K : X → St → Option R) (st : St) (r : R) (a : Act) (w : World), s R K st = some r → Good b N st a w → c.wp P (Qof b N K r) a w
def SumsOk (P : Program) (N : Nat) (LT : Sums) (C : Code) (p : Nat) : Prop :=
  ∀ q c, c ∈ codesAt q C p → ∀ s, lookS LT q = some s → SumOk P N c s

theorem SumsOk.nil {P : Program} {N : Nat} {C : Code} {p : Nat} : SumsOk P N [] C p := fun _ _ _ _ h => by cases h
theorem SumsOk.cons {P : Program} {N : Nat} {LT : Sums} {C : Code} {p : Nat} (h : SumsOk P N LT C p) {q : Nat} {c : Code} {s : Sum1} (hc : codesAt q C p = [c]) (hs : SumOk P N c s) : SumsOk P N ((q, s) :: LT) C p := by
  intro q' c' hc' s' hs'
  simp only [lookS] at hs'
  by_cases e : q = q'
  · subst e
    rw [beq_yes] at hs'
    simp only [cond_true, Option.some.injEq] at hs'
    subst hs'
    rw [hc] at hc'
    simp only [List.mem_singleton] at hc'
    subst hc'
    exact hs
  · rw [beq_no e] at hs'
    exact h q' c' hc' s' hs'

section
variable {P : Program} {b : Start} {N : Nat} {Γ : Tab} {T : Table}

end

/-! ### Shapes of states -/
inductive CS where
  | int (k : IntKind) | bool | str | ro (e : Ty)
  | emp | own (t : Nat) | ptr (t off : Nat) | fn (f : Nat) (caps : List Nat) | nil (k : NilK) | dead
  | ref (e : Ty) | mref (t : Nat) | kids (e : Ty)
@[reducible] def denS : List CS → Type
  | [] => Unit
  | .int _ :: l => Int × denS l
  | .bool :: l => Bool × denS l
  | .str :: l => ByteArray × denS l
  | .ro e :: l => List e.den × denS l
  | .emp :: l => denS l
  | .own _ :: l => denS l
  | .ptr _ _ :: l => denS l
  | .fn _ _ :: l => denS l
  | .nil _ :: l => denS l
  | .dead :: l => denS l
  | .ref _ :: l => Nat × denS l
  | .mref _ :: l => denS l
  | .kids e :: l => List (Kid e.den) × denS l

def encCs : (cs : List CS) → {rest : List CS} → denS (cs ++ rest) → List C × denS rest
  | [], _, v => ([], v)
  | .int k :: cs, _, v => (.int k v.1 :: (encCs cs v.2).1, (encCs cs v.2).2)
  | .bool :: cs, _, v => (.bool v.1 :: (encCs cs v.2).1, (encCs cs v.2).2)
  | .str :: cs, _, v => (.str v.1 :: (encCs cs v.2).1, (encCs cs v.2).2)
  | .ro e :: cs, _, v => (.ro e v.1 :: (encCs cs v.2).1, (encCs cs v.2).2)
  | .emp :: cs, _, v => (.emp :: (encCs cs v).1, (encCs cs v).2)
  | .own t :: cs, _, v => (.own t :: (encCs cs v).1, (encCs cs v).2)
  | .ptr t o :: cs, _, v => (.ptr t o :: (encCs cs v).1, (encCs cs v).2)
  | .fn f l :: cs, _, v => (.fn f l :: (encCs cs v).1, (encCs cs v).2)
  | .nil k :: cs, _, v => (.nil k :: (encCs cs v).1, (encCs cs v).2)
  | .dead :: cs, _, v => (.dead :: (encCs cs v).1, (encCs cs v).2)
  | .ref e :: cs, _, v => (.ref e v.1 :: (encCs cs v.2).1, (encCs cs v.2).2)
  | .mref t :: cs, _, v => (.mref t :: (encCs cs v).1, (encCs cs v).2)
  | .kids e :: cs, _, v => (.kids e v.1 :: (encCs cs v.2).1, (encCs cs v.2).2)

def consO {α β : Type} (a : α) : Option β → Option (α × β)
  | some b => some (a, b)
  | none => none
def beqL : List Nat → List Nat → Bool
  | [], [] => true
  | i :: l, j :: m => Nat.beq i j && beqL l m
  | _, _ => false
theorem beqL_eq : ∀ {l m : List Nat}, beqL l m = true → l = m
  | [], [], _ => rfl
  | i :: l, j :: m, h => by
    simp only [beqL, Bool.and_eq_true, Nat.beq_eq] at h
    rw [h.1, beqL_eq h.2]
  | [], _ :: _, h => by simp [beqL] at h
  | _ :: _, [], h => by simp [beqL] at h
def decCs : (cs : List CS) → {rest : List CS} → List C → denS rest → Option (denS (cs ++ rest))
  | [], _, l, v => match l with | [] => some v | _ => none
  | .int k :: cs, _, l, v => match l with | .int k' n :: l => (if k = k' then consO n (decCs cs l v) else none) | _ => none
  | .bool :: cs, _, l, v => match l with | .bool n :: l => consO n (decCs cs l v) | _ => none
  | .str :: cs, _, l, v => match l with | .str n :: l => consO n (decCs cs l v) | _ => none
  | .ro e :: cs, _, l, v => match l with | .ro e' xs :: l => (if h : e' = e then consO (cast (congrArg (fun z => List (Ty.den z)) h) xs) (decCs cs l v) else none) | _ => none
  | .emp :: cs, _, l, v => match l with | .emp :: l => decCs cs l v | _ => none
  | .own t :: cs, _, l, v => match l with | .own t' :: l => (bif Nat.beq t t' then decCs cs l v else none) | _ => none
  | .ptr t o :: cs, _, l, v => match l with | .ptr t' o' :: l => (bif Nat.beq t t' && Nat.beq o o' then decCs cs l v else none) | _ => none
  | .fn f c :: cs, _, l, v => match l with | .fn f' c' :: l => (bif Nat.beq f f' && beqL c c' then decCs cs l v else none) | _ => none
  | .nil k :: cs, _, l, v => match l with | .nil k' :: l => (if k = k' then decCs cs l v else none) | _ => none
  | .dead :: cs, _, l, v => match l with | .dead :: l => decCs cs l v | _ => none
  | .ref e :: cs, _, l, v => match l with | .ref e' id :: l => (if e' = e then consO id (decCs cs l v) else none) | _ => none
  | .mref t :: cs, _, l, v => match l with | .mref t' :: l => (bif Nat.beq t t' then decCs cs l v else none) | _ => none
  | .kids e :: cs, _, l, v => match l with | .kids e' xs :: l => (if h : e' = e then consO (cast (congrArg (fun z => List (Kid (Ty.den z))) h) xs) (decCs cs l v) else none) | _ => none

theorem consO_eq {α β : Type} {a : α} {x : Option β} {y : α × β} (h : consO a x = some y) : y.1 = a ∧ x = some y.2 := by
  cases x with
  | none => cases h
  | some b => injection h with h; subst h; exact ⟨rfl, rfl⟩

theorem bif_some {α : Type} {c : Bool} {x : Option α} {y : α} (h : (bif c then x else none) = some y) : c = true ∧ x = some y := by
  cases c with
  | true => exact ⟨rfl, h⟩
  | false => cases h

theorem dec_encCs : ∀ (cs : List CS) {rest : List CS} {l : List C} {v : denS rest} {r : denS (cs ++ rest)}, decCs cs l v = some r → encCs cs r = (l, v)
  | [], _, l, v, r, h => by
    simp only [decCs] at h
    split at h
    · injection h with h; subst h; rfl
    · cases h
  | .int k :: cs, _, l, v, r, h => by
    simp only [decCs] at h
    split at h
    · split at h
      · rename_i hk
        subst hk
        obtain ⟨h1, h2⟩ := consO_eq h
        simp only [encCs, dec_encCs cs h2, h1]
      · cases h
    · cases h
  | .bool :: cs, _, l, v, r, h => by
    simp only [decCs] at h
    split at h
    · obtain ⟨h1, h2⟩ := consO_eq h
      simp only [encCs, dec_encCs cs h2, h1]
    · cases h
  | .str :: cs, _, l, v, r, h => by
    simp only [decCs] at h
    split at h
    · obtain ⟨h1, h2⟩ := consO_eq h
      simp only [encCs, dec_encCs cs h2, h1]
    · cases h
  | .ro e :: cs, _, l, v, r, h => by
    simp only [decCs] at h
    split at h
    · split at h
      · rename_i hk
        subst hk
        obtain ⟨h1, h2⟩ := consO_eq h
        simp only [encCs, dec_encCs cs h2, h1, cast_eq]
      · cases h
    · cases h
  | .emp :: cs, _, l, v, r, h => by
    simp only [decCs] at h
    split at h
    · simp only [encCs, dec_encCs cs h]
    · cases h
  | .own t :: cs, _, l, v, r, h => by
    simp only [decCs] at h
    split at h
    · obtain ⟨h1, h2⟩ := bif_some h
      simp only [Nat.beq_eq] at h1
      subst h1
      simp only [encCs, dec_encCs cs h2]
    · cases h
  | .ptr t o :: cs, _, l, v, r, h => by
    simp only [decCs] at h
    split at h
    · obtain ⟨h1, h2⟩ := bif_some h
      simp only [Bool.and_eq_true, Nat.beq_eq] at h1
      obtain ⟨rfl, rfl⟩ := h1
      simp only [encCs, dec_encCs cs h2]
    · cases h
  | .fn f c :: cs, _, l, v, r, h => by
    simp only [decCs] at h
    split at h
    · obtain ⟨h1, h2⟩ := bif_some h
      simp only [Bool.and_eq_true, Nat.beq_eq] at h1
      obtain ⟨rfl, h3⟩ := h1
      have := beqL_eq h3
      subst this
      simp only [encCs, dec_encCs cs h2]
    · cases h
  | .nil k :: cs, _, l, v, r, h => by
    simp only [decCs] at h
    split at h
    · split at h
      · rename_i hk
        subst hk
        simp only [encCs, dec_encCs cs h]
      · cases h
    · cases h
  | .dead :: cs, _, l, v, r, h => by
    simp only [decCs] at h
    split at h
    · simp only [encCs, dec_encCs cs h]
    · cases h
  | .ref e :: cs, _, l, v, r, h => by
    simp only [decCs] at h
    split at h
    · split at h
      · rename_i hk
        subst hk
        obtain ⟨h1, h2⟩ := consO_eq h
        simp only [encCs, dec_encCs cs h2, h1]
      · cases h
    · cases h
  | .mref t :: cs, _, l, v, r, h => by
    simp only [decCs] at h
    split at h
    · obtain ⟨h1, h2⟩ := bif_some h
      simp only [Nat.beq_eq] at h1
      subst h1
      simp only [encCs, dec_encCs cs h2]
    · cases h
  | .kids e :: cs, _, l, v, r, h => by
    simp only [decCs] at h
    split at h
    · split at h
      · rename_i hk
        subst hk
        obtain ⟨h1, h2⟩ := consO_eq h
        simp only [encCs, dec_encCs cs h2, h1, cast_eq]
      · cases h
    · cases h

/-- What a slot holds; what a token stands for. -/
inductive AS where
  | one (c : CS)
  | agg (cs : List CS)
inductive BS where
  | var (E : Nat) (cs : List CS)
  | row (E : Nat) (e : Ty) (m : RowK)
  | heap (E : Nat) (e : Ty)
  | smap
structure Shape where
  env : List (Nat × AS)
  sto : List (Nat × BS)
  nxt : Nat
  args : List (Option Nat)

def leavesE : List (Nat × AS) → List CS → List CS
  | [], rest => rest
  | (_, .one c) :: es, rest => [c] ++ leavesE es rest
  | (_, .agg cs) :: es, rest => cs ++ leavesE es rest
def leavesS : List (Nat × BS) → List CS → List CS
  | [], rest => rest
  | (_, .var _ cs) :: es, rest => cs ++ leavesS es rest
  | (_, .row _ e _) :: es, rest => [.ro e] ++ leavesS es rest
  | (_, .heap _ e) :: es, rest => [.kids e] ++ leavesS es rest
  | (_, .smap) :: es, rest => [.ro (.pair .str .bool)] ++ leavesS es rest
@[reducible] def Shape.Den (sh : Shape) : Type := denS (leavesE sh.env (leavesS sh.sto []))

def hd1 : List C → C
  | [c] => c
  | _ => .dead
def encE : (es : List (Nat × AS)) → {rest : List CS} → denS (leavesE es rest) → Env × denS rest
  | [], _, v => ([], v)
  | (i, .one c) :: es, _, v => ((i, .v (.one (hd1 (encCs [c] v).1))) :: (encE es (encCs [c] v).2).1, (encE es (encCs [c] v).2).2)
  | (i, .agg cs) :: es, _, v => ((i, .v (.agg (encCs cs v).1)) :: (encE es (encCs cs v).2).1, (encE es (encCs cs v).2).2)
def encS : (es : List (Nat × BS)) → {rest : List CS} → denS (leavesS es rest) → Store × denS rest
  | [], _, v => ([], v)
  | (i, .var E cs) :: es, _, v => ((i, .var E (encCs cs v).1) :: (encS es (encCs cs v).2).1, (encS es (encCs cs v).2).2)
  | (i, .row E e m) :: es, _, v => ((i, .row E e m v.1) :: (encS es v.2).1, (encS es v.2).2)
  | (i, .heap E e) :: es, _, v => ((i, .heap E e v.1) :: (encS es v.2).1, (encS es v.2).2)
  | (i, .smap) :: es, _, v => ((i, .smap v.1) :: (encS es v.2).1, (encS es v.2).2)
def encSt (sh : Shape) (v : sh.Den) : St :=
  { env := (encE sh.env v).1, sto := (encS sh.sto (rest := []) (encE sh.env v).2).1, nxt := sh.nxt, args := sh.args }

def decE : (es : List (Nat × AS)) → {rest : List CS} → Env → denS rest → Option (denS (leavesE es rest))
  | [], _, l, v => match l with | [] => some v | _ => none
  | (i, .one c) :: es, _, l, v => match l with
    | (j, .v (.one x)) :: l => (bif Nat.beq i j then match decE es l v with | some q => decCs [c] [x] q | none => none else none)
    | _ => none
  | (i, .agg cs) :: es, _, l, v => match l with
    | (j, .v (.agg xs)) :: l => (bif Nat.beq i j then match decE es l v with | some q => decCs cs xs q | none => none else none)
    | _ => none
def decS : (es : List (Nat × BS)) → {rest : List CS} → Store → denS rest → Option (denS (leavesS es rest))
  | [], _, l, v => match l with | [] => some v | _ => none
  | (i, .var E cs) :: es, _, l, v => match l with
    | (j, .var E' xs) :: l => (bif Nat.beq i j && Nat.beq E E' then match decS es l v with | some q => decCs cs xs q | none => none else none)
    | _ => none
  | (i, .row E e m) :: es, _, l, v => match l with
    | (j, .row E' e' m' xs) :: l => (bif Nat.beq i j && Nat.beq E E' then if m = m' then match decS es l v with | some q => if h : e' = e then some (cast (congrArg (fun z => List (Ty.den z)) h) xs, q) else none | none => none else none else none)
    | _ => none
  | (i, .heap E e) :: es, _, l, v => match l with
    | (j, .heap E' e' xs) :: l => (bif Nat.beq i j && Nat.beq E E' then match decS es l v with | some q => if h : e' = e then some (cast (congrArg (fun z => List (Kid (Ty.den z))) h) xs, q) else none | none => none else none)
    | _ => none
  | (i, .smap) :: es, _, l, v => match l with
    | (j, .smap xs) :: l => (bif Nat.beq i j then match decS es l v with | some q => some (xs, q) | none => none else none)
    | _ => none
def beqArgs : List (Option Nat) → List (Option Nat) → Bool
  | [], [] => true
  | none :: l, none :: m => beqArgs l m
  | some i :: l, some j :: m => Nat.beq i j && beqArgs l m
  | _, _ => false
theorem beqArgs_eq : ∀ {l m : List (Option Nat)}, beqArgs l m = true → l = m
  | [], [], _ => rfl
  | none :: l, none :: m, h => by rw [beqArgs_eq (l := l) (m := m) h]
  | some i :: l, some j :: m, h => by
    simp only [beqArgs, Bool.and_eq_true, Nat.beq_eq] at h
    rw [h.1, beqArgs_eq h.2]
  | [], _ :: _, h => by simp [beqArgs] at h
  | none :: _, [], h => by simp [beqArgs] at h
  | some _ :: _, [], h => by simp [beqArgs] at h
  | none :: _, some _ :: _, h => by simp [beqArgs] at h
  | some _ :: _, none :: _, h => by simp [beqArgs] at h
def decSt (sh : Shape) (st : St) : Option sh.Den :=
  bif beqArgs sh.args st.args && Nat.beq sh.nxt st.nxt then match decS sh.sto (rest := []) st.sto () with
    | some q => decE sh.env st.env q
    | none => none
  else none

theorem dec_encE : ∀ (es : List (Nat × AS)) {rest : List CS} {l : Env} {v : denS rest} {r : denS (leavesE es rest)}, decE es l v = some r → encE es r = (l, v)
  | [], _, l, v, r, h => by
    simp only [decE] at h
    split at h
    · injection h with h; subst h; rfl
    · cases h
  | (i, .one c) :: es, _, l, v, r, h => by
    simp only [decE] at h
    split at h
    · obtain ⟨h1, h2⟩ := bif_some h
      simp only [Nat.beq_eq] at h1
      subst h1
      split at h2
      · rename_i q hq
        have := dec_encCs [c] h2
        simp only [encE, this, dec_encE es hq, hd1]
      · cases h2
    · cases h
  | (i, .agg cs) :: es, _, l, v, r, h => by
    simp only [decE] at h
    split at h
    · obtain ⟨h1, h2⟩ := bif_some h
      simp only [Nat.beq_eq] at h1
      subst h1
      split at h2
      · rename_i q hq
        have := dec_encCs cs h2
        simp only [encE, this, dec_encE es hq]
      · cases h2
    · cases h
theorem dec_encS : ∀ (es : List (Nat × BS)) {rest : List CS} {l : Store} {v : denS rest} {r : denS (leavesS es rest)}, decS es l v = some r → encS es r = (l, v)
  | [], _, l, v, r, h => by
    simp only [decS] at h
    split at h
    · injection h with h; subst h; rfl
    · cases h
  | (i, .var E cs) :: es, _, l, v, r, h => by
    simp only [decS] at h
    split at h
    · obtain ⟨h1, h2⟩ := bif_some h
      simp only [Bool.and_eq_true, Nat.beq_eq] at h1
      obtain ⟨h1, h1'⟩ := h1
      subst h1
      subst h1'
      split at h2
      · rename_i q hq
        have := dec_encCs cs h2
        simp only [encS, this, dec_encS es hq]
      · cases h2
    · cases h
  | (i, .row E e m) :: es, _, l, v, r, h => by
    simp only [decS] at h
    split at h
    · obtain ⟨h1, h2⟩ := bif_some h
      simp only [Bool.and_eq_true, Nat.beq_eq] at h1
      obtain ⟨rfl, rfl⟩ := h1
      split at h2
      · rename_i hm
        subst hm
        split at h2
        · rename_i q hq
          split at h2
          · rename_i he
            subst he
            injection h2 with h2
            subst h2
            simp only [encS, dec_encS es hq, cast_eq]
          · cases h2
        · cases h2
      · cases h2
    · cases h
  | (i, .heap E e) :: es, _, l, v, r, h => by
    simp only [decS] at h
    split at h
    · obtain ⟨h1, h2⟩ := bif_some h
      simp only [Bool.and_eq_true, Nat.beq_eq] at h1
      obtain ⟨rfl, rfl⟩ := h1
      split at h2
      · rename_i q hq
        split at h2
        · rename_i he
          subst he
          injection h2 with h2
          subst h2
          simp only [encS, dec_encS es hq, cast_eq]
        · cases h2
      · cases h2
    · cases h
  | (i, .smap) :: es, _, l, v, r, h => by
    simp only [decS] at h
    split at h
    · obtain ⟨h1, h2⟩ := bif_some h
      simp only [Nat.beq_eq] at h1
      subst h1
      split at h2
      · rename_i q hq
        injection h2 with h2
        subst h2
        simp only [encS, dec_encS es hq]
      · cases h2
    · cases h
theorem dec_encSt {sh : Shape} {st : St} {v : sh.Den} (h : decSt sh st = some v) : encSt sh v = st := by
  unfold decSt at h
  obtain ⟨h1, h2⟩ := bif_some h
  simp only [Bool.and_eq_true, Nat.beq_eq] at h1
  split at h2
  · rename_i q hq
    have e1 := dec_encE sh.env h2
    have e2 := dec_encS sh.sto (rest := []) hq
    have ha := beqArgs_eq h1.1
    unfold encSt
    rw [e1]
    simp only
    rw [e2, h1.2, ha]
  · cases h2

/-! ### What is kept where ways meet -/
/-- The slots; those empty slices that are taken for rows of one's own; those slices that are read only from there on. -/
structure NoteR where
  slots : List Nat
  proms : List (Nat × Nat × Ty)
  ros : List (Nat × Ty)
def toRo : List (Nat × Ty) → St → St
  | [], st => st
  | (i, e) :: l, st => match look st.env i with
    | some (.v (.one .emp)) => toRo l { env := upd st.env i (one (.ro e [])), sto := st.sto, nxt := st.nxt, args := st.args }
    | some (.v (.one (.own t))) => toRo l { env := upd st.env i (one (freezeC st.sto (.own t)).1), sto := (freezeC st.sto (.own t)).2, nxt := st.nxt, args := st.args }
    | _ => toRo l st
def normR (n : NoteR) (st : St) : St := normSlots n.slots (toRo n.ros (promote n.proms st))

/-! ### Summaries -/
def iterS {V R : Type} (Step : (V → Option R) → V → Option R) : Nat → V → Option R
  | 0, _ => none
  | n + 1, v => Step (iterS Step n) v

/-- Behind a part of the code: what is kept. -/
def partK {R : Type} (nx : NoteR) (K : X → St → Option R) : X → St → Option R
  | .normal, st => K .normal (normR nx st)
  | .exit i, st => K (.exit i) (normR nx st)
  | .ret, st => K .ret (normR nx st)
def bodyK {R : Type} (n nx : NoteR) (rec : St → Option R) (K : X → St → Option R) : X → St → Option R
  | .normal, st => rec (normR n st)
  | .exit i, st => K (.exit i) (normR nx st)
  | .ret, st => K .ret (normR nx st)

def loopSum (sh : Shape) (n : NoteR) (k : Nat) (Step : (R : Type) → (sh.Den → Option R) → (X → St → Option R) → sh.Den → Option R) : Sum1 :=
  fun R K st => match decSt sh (normR n st) with
    | some v => iterS (fun rec v => Step R rec K v) k v
    | none => none
def partSum (sh : Shape) (n : NoteR) (Step : (R : Type) → (X → St → Option R) → sh.Den → Option R) : Sum1 :=
  fun R K st => match decSt sh (normR n st) with
    | some v => Step R K v
    | none => none

section
variable {P : Program} {b : Start} {N : Nat} {Γ : Tab} {T : Table}

theorem Ok.setEnv {st : St} {a : Act} {w : World} {γ : Nat → G} {F : FK} (h : Ok b N st a w γ F) {i : Nat} {v : AV} (hv : RepA γ F w v (a.tmps.getD i Go.undef)) (ht : v.toks = []) : Ok b N { env := upd st.env i v, sto := st.sto, nxt := st.nxt, args := st.args } a w γ F := by
  refine ⟨fun j x hx => ?_, fun j x hx t ht' => ?_, h.num, h.defers, h.inv, h.lt, h.args, h.os, h.tape, h.output, h.size, h.heap, h.sub, h.fnew, h.mine, h.frz, h.hk⟩
  · rw [look_upd] at hx
    split at hx
    · rename_i e; subst e; injection hx with hx; subst hx; exact hv
    · exact h.env j x hx
  · rw [look_upd] at hx
    split at hx
    · injection hx with hx; subst hx; rw [ht] at ht'; simp at ht'
    · exact h.envLt j x hx t ht'

theorem Good.toRo {a : Act} {w : World} : ∀ (l : List (Nat × Ty)) {st : St}, Good b N st a w → Good b N (Ab.toRo l st) a w
  | [], st, h => h
  | (i, e) :: l, st, hg => by
    simp only [Ab.toRo]
    split
    · rename_i hi
      obtain ⟨γ, F, h⟩ := hg
      refine Good.toRo l ⟨γ, F, h.setEnv ?_ rfl⟩
      have hv : a.tmps.getD i Go.undef = .slice none 0 0 := h.env i _ hi
      rw [hv]
      exact ⟨none, 0, 0, rfl, rfl, Nat.le_refl _, fun h => by omega⟩
    · rename_i t hi
      obtain ⟨γ, F, h⟩ := hg
      obtain ⟨F', h', hl, hr⟩ := h.freezeC (.own t)
      have hv := hr _ (h.env i _ hi)
      have ht : (one (freezeC st.sto (.own t)).1).toks = [] := by
        simp only [freezeC]
        split <;> simp [AV.toks, V1.toks, V1.cells, C.toks]
      exact Good.toRo l ⟨γ, F', h'.setEnv hv ht⟩
    · exact Good.toRo l hg

theorem Good.norm {st : St} {a : Act} {w : World} (hg : Good b N st a w) (n : NoteR) : Good b N (normR n st) a w := ((hg.promote _).toRo _).normSlots _

theorem Qof.part {R : Type} {nx : NoteR} {K : X → St → Option R} {r : R} {e : Exit} {a : Act} {w : World} (h : Qof b N (partK nx K) r e a w) : Qof b N K r e a w := by
  cases e with
  | normal => obtain ⟨st, h1, h2⟩ := h; exact ⟨_, h1, h2.norm nx⟩
  | exit i => obtain ⟨st, h1, h2⟩ := h; exact ⟨_, h1, h2.norm nx⟩
  | ret => obtain ⟨st, h1, h2⟩ := h; exact ⟨_, h1, h2.norm nx⟩
  | goto l => exact h
  | panic ch => exact h
  | outgrown => exact h

end
end Go.Ab
/-! Functions, by code with summaries. -/
set_option linter.unusedVariables false
set_option linter.unusedSimpArgs false
namespace Go.Ab

def codeOf (fn : Func) : Code := match fn.body with
  | some c => c
  | none => .skip
def firstC : List Code → Code
  | c :: _ => c
  | [] => .skip
def bodyOf : Code → Code
  | .loop c => c
  | _ => .skip

section
variable {P : Program} {b : Start} {N : Nat} {Γ : Tab} {T : Table}

end
end Go.Ab
/-! What a law is handed, read as data. -/
set_option linter.unusedVariables false
set_option linter.unusedSimpArgs false
namespace Go.Ab
open Go.Deep

/-- Data as a program's own values are: whole numbers in their kinds. -/
def Ty.ok : (t : Ty) → t.den → Prop
  | .int k, n => (Lit.int k n).wf = true
  | .bool, _ => True
  | .str, s => s.size ≤ maxLen
  | .pair a b, x => a.ok x.1 ∧ b.ok x.2
  | .slice e, xs => xs.length ≤ maxLen ∧ ∀ x ∈ xs, e.ok x
  | .ref _, _ => False

section
variable {H : Type} {enc : TypeId × Value → H} {P : Program} {w : World} {held : Bool}

end
end Go.Ab
/-! A law's row, from what its function comes to. -/
set_option linter.unusedVariables false
set_option linter.unusedSimpArgs false
namespace Go.Ab
open Go.ChangeShapes Go.WideShapes Go.ChangeAt Go.RowKit

def ASh.ok : (a : ASh) → a.den → Prop
  | .dat t, x => t.ok x
  | .agg t, x => t.ok x
def ArgOk : (l : List ASh) → argDen l → Prop
  | [], _ => True
  | [a], x => a.ok x
  | a :: a' :: l, x => a.ok x.1 ∧ ArgOk (a' :: l) x.2

section
variable {H : Type} {enc : TypeId × Value → H} {P : Program} {w : World} {held : Bool}

end
end Go.Ab
/-! Sums and differences of words with a carry. -/
set_option linter.unusedVariables false
set_option linter.unusedSimpArgs false
namespace Go.Ab

section
variable {P : Program} {f : Nat} {fn : Func}

end
end Go.Ab
/-! Functions that are handed variables and rows: what they leave of them; and loops whose first round begins otherwise. -/
set_option linter.unusedVariables false
set_option linter.unusedSimpArgs false
namespace Go.Ab

def v1s : Env → List V1
  | [] => []
  | (_, .v x) :: l => x :: v1s l
  | _ :: l => v1s l
theorem valsOf_argEnv : ∀ (l : List AV) (n : Nat), valsOf (argEnv n l) = l
  | [], _ => rfl
  | x :: l, n => by simp only [argEnv, valsOf, valsOf_argEnv l (n + 1)]

def outV (osh : Shape) (y : osh.Den) : AV := packV (v1s (encSt osh y).env)

/-- What a call comes to, of what it was handed. -/
def GnOk (P : Program) (f : Nat) (ish osh : Shape) (x : ish.Den) (y : osh.Den) : Prop :=
  FnSem P f (valsOf (encSt ish x).env) (encSt ish x).sto ish.nxt (outV osh y) (encSt osh y).sto

/-- A function, as tables have it. -/
def entG (ish osh : Shape) (F : ish.Den → Option osh.Den) (args : List AV) (S : Store) : Res :=
  match decSt ish { env := argEnv 0 args, sto := S, nxt := S.length, args := [] } with
  | some x => .call osh.Den (F x) fun y => (outV osh y, (encSt osh y).sto)
  | none => .fail
def entOr (E1 E2 : List AV → Store → Res) (args : List AV) (S : Store) : Res := match E1 args S with
  | .fail => E2 args S
  | r => r

section
variable {P : Program} {b : Start} {N : Nat} {Γ : Tab} {T : Table}

/-! ### Tables -/
def EntOk (P : Program) (f : Nat) (E : List AV → Store → Res) : Prop := ∀ args S, ResSem (fun v S' => FnSem P f args S S.length v S') (E args S)

theorem entG_ok {f : Nat} {ish osh : Shape} {F : ish.Den → Option osh.Den} (h : ∀ x y, F x = some y → GnOk P f ish osh x y) : EntOk P f (entG ish osh F) := by
  intro args S
  unfold entG
  split
  · rename_i x hx
    intro y hy
    have g := h x y hy
    have e := dec_encSt hx
    unfold GnOk at g
    have e1 : ish.nxt = S.length := congrArg St.nxt e
    have e2 : valsOf (encSt ish x).env = args := by rw [e]; exact valsOf_argEnv _ _
    have e3 : (encSt ish x).sto = S := by rw [e]
    rw [e1, e2, e3] at g
    exact g
  · trivial

theorem entFn_ok {f : Nat} {sig : List ASh} {res : List RSh} {F : argDen sig → Option (resDen res)} (hF : ∀ x y, F x = some y → FnOk P f sig res x y) : EntOk P f (entFn sig res F) := by
  intro args S
  unfold entFn
  cases hx : takeArgs sig args S with
  | none => trivial
  | some q =>
    obtain ⟨x, S1⟩ := q
    exact fun y hy => entFn_sem (hF x y hy) hx

theorem entOr_ok {f : Nat} {E1 E2 : List AV → Store → Res} (h1 : EntOk P f E1) (h2 : EntOk P f E2) : EntOk P f (entOr E1 E2) := by
  intro args S
  have g1 := h1 args S
  have g2 := h2 args S
  unfold entOr
  cases h : E1 args S with
  | fail => exact g2
  | ok v S' => rw [h] at g1; exact g1
  | chk c v S' => rw [h] at g1; exact g1
  | call R m k => rw [h] at g1; exact g1

theorem Sound.consE {T : Table} (hT : Sound P T) {f : Nat} {E : List AV → Store → Res} (hb : HasBody P f) (hE : EntOk P f E) : Sound P ((f, E) :: T) := by
  intro g args S
  unfold lookT
  by_cases e : f = g
  · subst e
    rw [beq_yes]
    simp only [cond_true]
    exact (hE args S).imp fun v S' h => .inl ⟨hb, h⟩
  · rw [beq_no e]
    exact hT g args S

/-! ### Loops, by rounds -/
def SumRd (P : Program) (N : Nat) (c : Code) (s : Sum1) (n : Nat) : Prop :=
  ∀ (R : Type) (b : Start) (K : X → St → Option R) (st : St) (r : R) (a : Act) (w : World), s R K st = some r → Good b N st a w → Code.rounds P c (Qof b N K r) n a w

theorem SumRd.ok {c : Code} {s : Sum1} {n : Nat} (h : SumRd P N c s n) : SumOk P N (.loop c) s := fun R b K st r a w he hg => wp_loop_rounds n (h R b K st r a w he hg)

/-- A loop that may be come to in other shapes: in this one; else as is told before. -/
def step2K {R : Type} (sh : Shape) (n nx : NoteR) (s : Sum1) (rec : sh.Den → Option R) (K : X → St → Option R) : X → St → Option R
  | .normal, st => match decSt sh (normR n st) with
    | some v => rec v
    | none => s R K st
  | .exit i, st => K (.exit i) (normR nx st)
  | .ret, st => K .ret (normR nx st)
def loop2Sum (sh : Shape) (n : NoteR) (s : Sum1) (k : Nat) (Step : (R : Type) → (sh.Den → Option R) → (X → St → Option R) → sh.Den → Option R) : Sum1 :=
  fun R K st => match decSt sh (normR n st) with
    | some v => iterS (fun rec v => Step R rec K v) k v
    | none => s R K st
def part2Sum (sh : Shape) (n : NoteR) (s : Sum1) (Step : (R : Type) → (X → St → Option R) → sh.Den → Option R) : Sum1 :=
  fun R K st => match decSt sh (normR n st) with
    | some v => Step R K v
    | none => s R K st

end
end Go.Ab
/-! Functions over data whose results have no slices: what they are handed stays one's own. -/
set_option linter.unusedVariables false
set_option linter.unusedSimpArgs false
namespace Go.Ab

/-- No slice in it. -/
def Ty.flatB : Ty → Bool
  | .slice _ => false
  | .ref _ => false
  | .pair a b => a.flatB && b.flatB
  | _ => true
theorem RepD.flat {F F' : FK} {w w' : World} : ∀ {t : Ty} {x : t.den} {l : List Value}, t.flatB = true → RepD F w t x l → RepD F' w' t x l
  | .int _, _, _, _, h => h
  | .bool, _, _, _, h => h
  | .str, _, _, _, h => h
  | .pair a b, _, _, hf, h => by
    simp only [Ty.flatB, Bool.and_eq_true] at hf
    simp only [RepD] at h ⊢
    obtain ⟨l1, l2, rfl, h1, h2⟩ := h
    exact ⟨l1, l2, rfl, RepD.flat hf.1 h1, RepD.flat hf.2 h2⟩
  | .slice e, _, _, hf, _ => by cases hf
  | .ref e, _, _, hf, _ => by cases hf
theorem Flat.flat {F F' : FK} {w w' : World} {e : Ty} (hf : e.flatB = true) : ∀ {xs : List e.den} {l : List Value}, Flat F w e xs l → Flat F' w' e xs l
  | [], _, h => h
  | _ :: _, _, h => by
    simp only [Flat] at h ⊢
    obtain ⟨l1, l2, rfl, h1, h2⟩ := h
    exact ⟨l1, l2, rfl, h1.flat hf, Flat.flat hf h2⟩

def RSh.flatB : RSh → Bool
  | .dat t => t.flatB
  | .agg t => t.flatB
  | .own _ e => e.flatB
def C.noRo : C → Bool
  | .ro .. => false
  | .rptr .. => false
  | .ref .. => false
  | .hptr .. => false
  | .hview .. => false
  | _ => true
theorem noRo_ren {f : Nat → Option Nat} {c : C} (h : c.noRo = true) : (c.ren f).noRo = true := by
  cases c <;> simp only [C.ren] <;> first | exact h | rfl | (split <;> rfl)
theorem explode_noRo : ∀ (t : Ty) (x : t.den), t.flatB = true → ∀ c ∈ t.explode x, c.noRo = true
  | .int _, _, _, c, h => by simp [Ty.explode] at h; subst h; rfl
  | .bool, _, _, c, h => by simp [Ty.explode] at h; subst h; rfl
  | .str, _, _, c, h => by simp [Ty.explode] at h; subst h; rfl
  | .pair a b, x, hf, c, h => by
    simp only [Ty.flatB, Bool.and_eq_true] at hf
    simp only [Ty.explode, List.mem_append] at h
    rcases h with h | h
    · exact explode_noRo a x.1 hf.1 c h
    · exact explode_noRo b x.2 hf.2 c h
  | .slice _, _, hf, _, _ => by cases hf
  | .ref _, _, hf, _, _ => by cases hf
theorem RepC.noRo {γ : Nat → G} {F F' : FK} {w w' : World} {c : C} {v : Value} (hc : c.noRo = true) (h : RepC γ F w c v) : RepC γ F' w' c v := by
  cases c <;> first | exact h | cases hc
def V1.noRo (x : V1) : Prop := ∀ c ∈ x.cells, c.noRo = true
theorem RepV.noRo {γ : Nat → G} {F F' : FK} {w w' : World} {x : V1} {v : Value} (hx : x.noRo) (h : RepV γ F w x v) : RepV γ F' w' x v := by
  cases x with
  | one c => exact RepC.noRo (hx c (by simp [V1.cells])) h
  | agg cs =>
    obtain ⟨l, h1, h2⟩ := h
    exact ⟨l, h1, h2.imp fun c hc b hb => RepC.noRo (hx c hc) hb⟩
theorem noRo_renV {f : Nat → Option Nat} {x : V1} (h : x.noRo) : (x.ren f).noRo := by
  cases x with
  | one c => intro d hd; simp [V1.ren, V1.cells] at hd; subst hd; exact noRo_ren (h c (by simp [V1.cells]))
  | agg cs =>
    intro d hd
    simp only [V1.ren, V1.cells, List.mem_map] at hd
    obtain ⟨c, hc, rfl⟩ := hd
    exact noRo_ren (h c hc)
theorem resVals_noRo : ∀ (n : Nat) (l : List RSh) (y : resDen l), l.all RSh.flatB = true → ∀ x ∈ resVals n l y, x.noRo := by
  have one : ∀ (n : Nat) (r : RSh) (y : r.den), r.flatB = true → (r.val n y).noRo := by
    intro n r y h
    cases r with
    | dat t =>
      intro c hc
      simp only [RSh.val] at hc
      have := explode_noRo t y h
      split at hc
      · rename_i c' cs he
        simp [V1.cells] at hc
        subst hc
        exact this c (by rw [he]; simp)
      · simp [V1.cells] at hc
        subst hc
        rfl
    | agg t =>
      intro c hc
      exact explode_noRo t y h c (by simpa [RSh.val, V1.cells] using hc)
    | own E e =>
      intro c hc
      simp [RSh.val, V1.cells] at hc
      subst hc
      rfl
  intro n l
  induction l generalizing n with
  | nil => intro y _ x hx; simp [resVals] at hx
  | cons r l ih =>
    intro y h x hx
    simp only [List.all_cons, Bool.and_eq_true] at h
    cases l with
    | nil =>
      simp [resVals] at hx
      subst hx
      exact one n r y h.1
    | cons r2 l =>
      simp only [resVals, List.mem_cons] at hx
      rcases hx with rfl | hx
      · exact one n r _ h.1
      · exact ih _ _ h.2 x hx

theorem BlkOk.flat {F F' : FK} {γ : Nat → G} {w : World} {t E : Nat} {e : Ty} {xs : List e.den} (hf : e.flatB = true) (hs : ∀ b, F' b → F b) (h : BlkOk F γ w t (.row E e .plain xs)) : BlkOk F' γ w t (.row E e .plain xs) := by
  obtain ⟨g1, g2, h⟩ := h
  refine ⟨g1, g2, ?_⟩
  rcases h with h | ⟨b, cur, fr, flat, h1, h2, h3, h4, h5, h6, h7, h8⟩
  · exact .inl h
  · exact .inr ⟨b, cur, fr, flat, h1, h2, h3, h4, h5, h6, h7.flat hf, fun c => h8.1 (hs b c), h8.2⟩

/-- What rows are handed back. -/
theorem resSto_rows : ∀ (n : Nat) (l : List RSh) (y : resDen l), l.all RSh.flatB = true → ∀ p ∈ resSto n l y, ∃ (E : Nat) (e : Ty) (xs : List e.den), e.flatB = true ∧ p.2 = Blk.row E e .plain xs := by
  intro n l
  induction l generalizing n with
  | nil => intro y _ p hp; simp [resSto] at hp
  | cons r l ih =>
    intro y h p hp
    simp only [List.all_cons, Bool.and_eq_true] at h
    have one : ∀ (n : Nat) (y : r.den), p ∈ r.sto n y → ∃ (E : Nat) (e : Ty) (xs : List e.den), e.flatB = true ∧ p.2 = Blk.row E e .plain xs := by
      intro n y hp
      cases r with
      | dat t => simp [RSh.sto] at hp
      | agg t => simp [RSh.sto] at hp
      | own E e =>
        simp [RSh.sto] at hp
        subst hp
        exact ⟨E, e, y, h.1, rfl⟩
    cases l with
    | nil => exact one n y (by simpa [resSto] using hp)
    | cons r2 l =>
      simp only [resSto, List.mem_append] at hp
      rcases hp with hp | hp
      · exact one _ _ hp
      · exact ih _ _ h.2 p hp
theorem backSto_mem {g : Nat → Option Nat} : ∀ {S : Store} {t : Nat} {b : Blk}, look (backSto g S) t = some b → ∃ p ∈ S, b = p.2.ren g
  | [], t, b, h => by cases h
  | (u, x) :: S, t, b, h => by
    simp only [backSto] at h
    split at h
    · simp only [look] at h
      rename_i v hv
      by_cases e : v = t
      · subst e
        rw [beq_yes] at h
        simp only [cond_true, Option.some.injEq] at h
        exact ⟨(u, x), by simp, h.symm⟩
      · rw [beq_no e] at h
        obtain ⟨p, hp, hb⟩ := backSto_mem h
        exact ⟨p, by simp [hp], hb⟩
    · obtain ⟨p, hp, hb⟩ := backSto_mem h
      exact ⟨p, by simp [hp], hb⟩

/-- A function over data, as tables have it; what it is handed is not frozen. -/
def entFnB (sig : List ASh) (res : List RSh) (F : argDen sig → Option (resDen res)) (args : List AV) (S : Store) : Res :=
  bif res.all RSh.flatB then
  match takeArgs sig args S with
  | none => .fail
  | some (x, _) => .call (resDen res) (F x) fun y => ((packV (resVals 0 res y)).ren (backTok [] S.length), S ++ backSto (backTok [] S.length) (resSto 0 res y))
  else .fail

theorem entFnB_sem {P : Program} {f : Nat} {sig : List ASh} {res : List RSh} {x : argDen sig} {y : resDen res} (hres : res.all RSh.flatB = true) (h : FnOk P f sig res x y) {args : List AV} {S S1 : Store} (hx : takeArgs sig args S = some (x, S1)) :
    FnSem P f args S S.length ((packV (resVals 0 res y)).ren (backTok [] S.length)) (S ++ backSto (backTok [] S.length) (resSto 0 res y)) := by
  intro γ F w vals hI hlt hal hA _
  obtain ⟨s1, F1, p1, r1⟩ := takeArgs_sound (fr := S.length) sig hI hx hA
  let γ0 : Nat → G := fun j => match ([] : List Nat)[j]? with | some t => γ t | none => ⟨none, 0, 0, 0, none⟩
  have r1' : All2 (RepA γ0 F1 w) (argsV sig x) vals := r1.imp fun y hy b hb => RepA.lasts (Lasts.refl F1 w) (fun t ht => by rw [argsV_toks sig x y hy] at ht; simp at ht) hb
  refine (h γ0 F1 w vals p1.inv.fz r1').mono ?_
  rintro e w' ⟨u, γ1, F2, rfl, hp, hr⟩
  have hI0 : Inv F1 γ [] w := Inv.nil p1.inv.fz
  have hnb : noHeap (backSto (backTok [] S.length) (resSto 0 res y)) = true := rawNo_no (backSto_raw resSto_raw)
  obtain ⟨γ', hq, hr'⟩ := call_back (args := []) hI0 (fun t b hb => by cases hb) (fr := S.length) (ts := []) (by simp) (fun t ht => by simp at ht) (S' := resSto 0 res y) hp hr
  -- what is frozen now: what was, and what is new
  let F3 : FK := ⟨fun b => F b ∨ (F2 b ∧ w.heap.size ≤ b), F.kid⟩
  have h32 : ∀ b, F3 b → F2 b := fun b hb => hb.elim (fun hb => hq.sub b (p1.sub b hb)) fun hb => hb.1
  have hold : ∀ b, b < w.heap.size → w'.heap[b]? = w.heap[b]? := fun b hb => hq.heap b hb no_mine
  have hFlt := hI.fz.lt
  have hinv3 : Inv F3 γ' (backSto (backTok [] S.length) (resSto 0 res y)) w' := by
    refine ⟨fun t b hb => ?_, hq.inv.inj, ⟨fun b hb => hq.inv.fz.lt b (h32 b hb), hI.fz.gnd.mono (fun b hb => .inl hb) fun b hb => hold b (hFlt b hb)⟩, ⟨fun t t' x x' h1 h2 h3 => (by rw [noHeap_look hnb h1] at h3; cases h3), fun j j' b h1 => absurd h1 (noHeap_kid hnb), fun j b t h1 => absurd h1 (noHeap_kid hnb)⟩⟩
    have hok := hq.inv.blk t b hb
    obtain ⟨p, hp, hbp⟩ := backSto_mem hb
    obtain ⟨E, e, xs, hf, hp2⟩ := resSto_rows 0 res y hres p hp
    rw [hbp, hp2] at hok ⊢
    exact hok.flat hf h32
  have hq3 : Post S.length γ F w [] γ' F3 w' (backSto (backTok [] S.length) (resSto 0 res y)) :=
    ⟨hq.os, hq.tape, hq.output, hq.size, fun b hb _ => hold b hb, hq.gam, ⟨fun b hb => .inl hb, fun j s hs => hs⟩, fun b hb => hb.elim .inl fun hb => .inr (.inr hb.2), fun b hb => by
      rcases hb with ⟨t, ht, hb⟩ | ⟨j, hj⟩
      · exact (hq.mine b (.tok ht hb)).imp (fun h => absurd h no_mine) id
      · exact absurd hj (noHeap_kid hnb), fun b hb => hold b (hFlt b hb), hinv3, fun _ => rfl⟩
  refine ⟨u, γ', F3, rfl, ?_, ?_⟩
  · have hq' : Post S.length γ F w (keep (memb []) S) γ' F3 w' (backSto (backTok [] S.length) (resSto 0 res y)) := by rw [keep_none]; exact hq3
    have hinv := Inv.split hI hlt hq' (fun t ht => .inr (backSto_le ht)) (.inr hnb)
    rw [keep_whole] at hinv
    refine ⟨hq3.os, hq3.tape, hq3.output, hq3.size, fun b hb _ => hold b hb, hq3.gam, hq3.sub, fun b hb => ?_, fun b hb => ?_, hq3.frz, hinv, fun _ => rfl⟩
    · rcases hq3.fnew b hb with h | h | h
      · exact .inl h
      · exact absurd h no_mine
      · exact .inr (.inr h)
    · rcases hb with ⟨t, ht, hb⟩ | ⟨j, t, x, hx, hj⟩
      · rcases Has.append.1 ht with h1 | h1
        · obtain ⟨z, hz⟩ := h1
          rw [hq3.gam t (hlt t z hz).1] at hb
          exact .inl (.tok ⟨z, hz⟩ hb)
        · rcases hq3.mine b (.tok h1 hb) with h | h
          · exact absurd h no_mine
          · exact .inr h
      · rw [look_append] at hx
        cases hl : look S t with
        | some z =>
          rw [hl] at hx
          injection hx with hx
          subst hx
          exact .inl (.inr ⟨j, t, _, hl, (kids_congr (F := F) (F' := F3) rfl).1 hj⟩)
        | none =>
          rw [hl] at hx
          have := noHeap_look hnb hx
          rw [kids_isHeap hj] at this
          cases this
  · have hno := resVals_noRo 0 res y hres
    generalize resVals 0 res y = l at *
    match l, hno with
    | [x], hno =>
      have := noRo_renV (f := backTok [] S.length) (hno x (by simp))
      exact RepV.noRo this hr'
    | [], hno =>
      obtain ⟨vs, h1, h2⟩ := hr'
      match vs, h1, h2 with
      | [], h1, _ => exact ⟨[], h1, trivial⟩
    | x :: x' :: l, hno =>
      obtain ⟨vs, h1, h2⟩ := hr'
      refine ⟨vs, h1, h2.imp fun z hz b hb => RepV.noRo ?_ hb⟩
      obtain ⟨z', hz', rfl⟩ := List.mem_map.1 hz
      exact noRo_renV (hno z' hz')

theorem entFnB_ok {P : Program} {f : Nat} {sig : List ASh} {res : List RSh} {F : argDen sig → Option (resDen res)} (hF : ∀ x y, F x = some y → FnOk P f sig res x y) : EntOk P f (entFnB sig res F) := by
  intro args S
  unfold entFnB
  cases hres : res.all RSh.flatB with
  | false => trivial
  | true =>
    simp only [cond_true]
    cases hx : takeArgs sig args S with
    | none => trivial
    | some q =>
      obtain ⟨x, S1⟩ := q
      exact fun y hy => entFnB_sem hres (hF x y hy) hx
end Go.Ab
/-! Shorter words for printed texts. -/
set_option linter.unusedVariables false
namespace Go.Ab

/-- A table of functions, with its proof. -/
structure TB (P : Program) where
  t : Table
  ok : Sound P t
def okB (fn : Func) : Bool := !(fn.name == "runtime.NumGoroutine") && !fn.body.isNone
def EV (P : Program) (f : Nat) (E : List AV → Store → Res) : Prop := HasBody P f ∧ EntOk P f E
def FnV (P : Program) (f : Nat) (sig : List ASh) (res : List RSh) (F : argDen sig → Option (resDen res)) : Prop := HasBody P f ∧ ∀ x y, F x = some y → FnOk P f sig res x y
def GnV (P : Program) (f : Nat) (ish osh : Shape) (F : ish.Den → Option osh.Den) : Prop := HasBody P f ∧ ∀ x y, F x = some y → GnOk P f ish osh x y
def cAt (q : Nat) (fn : Func) : Code := firstC (codesAt q (codeOf fn) 1)
def SumO (P : Program) (fn : Func) (q : Nat) (S : Sum1) : Prop := SumOk P fn.ntmps (cAt q fn) S
section
variable {P : Program} {Γ : Tab} {f : Nat} {fn : Func}
theorem okB_body (h : okB fn = true) : fn.body = some (codeOf fn) ∧ (fn.name == "runtime.NumGoroutine") = false ∧ fn.body.isNone = false := by
  unfold okB at h
  simp only [Bool.and_eq_true, Bool.not_eq_true'] at h
  refine ⟨?_, h.1, h.2⟩
  unfold codeOf
  cases hb : fn.body with
  | none => rw [hb] at h; exact absurd h.2 (by decide)
  | some c => rfl
theorem FnV.e {sig : List ASh} {res : List RSh} {F : argDen sig → Option (resDen res)} (h : FnV P f sig res F) : EV P f (entFnB sig res F) := ⟨h.1, entFnB_ok h.2⟩
theorem FnV.p {sig : List ASh} {res : List RSh} {F : argDen sig → Option (resDen res)} (h : FnV P f sig res F) : EV P f (entFn sig res F) := ⟨h.1, entFn_ok h.2⟩
theorem GnV.e {ish osh : Shape} {F : ish.Den → Option osh.Den} (h : GnV P f ish osh F) : EV P f (entG ish osh F) := ⟨h.1, entG_ok h.2⟩
theorem EV.or {E1 E2 : List AV → Store → Res} (h1 : EV P f E1) (h2 : EV P f E2) : EV P f (entOr E1 E2) := ⟨h1.1, entOr_ok h1.2 h2.2⟩
def TB.nil : TB P := ⟨[], Sound.nil⟩
def TB.c {E : List AV → Store → Res} (B : TB P) (h : EV P f E) : TB P := ⟨(f, E) :: B.t, B.ok.consE h.1 h.2⟩
def TB.u {sig : List ASh} {res : List RSh} {F : argDen sig → Option (resDen res)} (B : TB P) (h : FnV P f sig res F) : TB P := B.c h.e
def TB.p {sig : List ASh} {res : List RSh} {F : argDen sig → Option (resDen res)} (B : TB P) (h : FnV P f sig res F) : TB P := B.c h.p
def TB.g {ish osh : Shape} {F : ish.Den → Option osh.Den} (B : TB P) (h : GnV P f ish osh F) : TB P := B.c h.e
def TB.x {E : List AV → Store → Res} (B : TB P) (h : ∀ args S, ResSem (fun v S' => ExtSem P f args S v S') (E args S)) : TB P := ⟨(f, E) :: B.t, B.ok.ext h⟩
def TB.h {E : List AV → Store → Res} (B : TB P) (hf : P.funcs[f]? = some fn) (ho : okB fn = true) (h : EntOk P f E) : TB P := B.c ⟨⟨fn, hf, (okB_body ho).2⟩, h⟩
/-- A function by hand. -/
theorem hs (hf : P.funcs[f]? = some fn) (ho : okB fn = true) {sig : List ASh} {res : List RSh} {F : argDen sig → Option (resDen res)} (h : ∀ x y, F x = some y → FnOk P f sig res x y) : FnV P f sig res F := ⟨⟨fn, hf, (okB_body ho).2⟩, h⟩
theorem SumsOk.s {LT : Sums} {C : Code} {p q : Nat} {S : Sum1} (h : SumsOk P fn.ntmps LT C p) (hs : SumO P fn q S) (hc : codesAt q C p = [cAt q fn]) : SumsOk P fn.ntmps ((q, S) :: LT) C p := h.cons hc hs
end
end Go.Ab
