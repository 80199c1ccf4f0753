/- Code with summaries of its parts: loops, and places where ways meet. -/
import Derived.Test.YtioagofpofamiaaAb24
/-! Code with summaries of its parts: loops, and places where ways meet. -/
set_option linter.unusedVariables false
set_option linter.unusedSimpArgs false
namespace Go.Ab

/-- What a part of the code comes to. -/
abbrev Sum1 := (R : Type) → (X → St → Option R) → St → Option R
abbrev Sums := List (Nat × Sum1)
def lookS : Sums → Nat → Option Sum1
  | [], _ => none
  | p :: l, j => bif Nat.beq p.1 j then some p.2 else lookS l j

/-- Where a block's exits lead. -/
def blockK {R : Type} (id : Nat) (K : X → St → Option R) : X → St → Option R
  | .exit i, st => bif Nat.beq i id then K .normal st else K (.exit i) st
  | .normal, st => K .normal st
  | .ret, st => K .ret st
def seqK {R : Type} (F : St → Option R) (K : X → St → Option R) : X → St → Option R
  | .normal, st => F st
  | .exit i, st => K (.exit i) st
  | .ret, st => K .ret st

def evS (Γ : Tab) (T : Table) (N : Nat) (LT : Sums) {R : Type} : Code → Nat → (X → St → Option R) → St → Option R
  | .skip, _, K, st => K .normal st
  | .label _, _, K, st => K .normal st
  | .exit id, _, K, st => K (.exit id) st
  | .ret, _, K, st => K .ret st
  | .region _ ops draw, _, K, st => bif draw then evDraw Γ T N ops st (K .normal) else evOps Γ T N ops ops.toList st (K .normal)
  | .seq a b, p, K, st => match lookS LT p with
    | some s => s R K st
    | none => evS Γ T N LT a (2 * p) (seqK (evS Γ T N LT b (2 * p + 1) K) K) st
  | .cond c x y, p, K, st => match lookS LT p with
    | some s => s R K st
    | none => match evalA st.env c with
      | .v (.one (.bool b)) => bif b then evS Γ T N LT x (2 * p) K st else evS Γ T N LT y (2 * p + 1) K st
      | _ => none
  | .block id c, p, K, st => match lookS LT p with
    | some s => s R K st
    | none => evS Γ T N LT c (2 * p) (blockK id K) st
  | .loop c, p, K, st => match lookS LT p with
    | some s => s R K st
    | none => loopN (fun K' st' => evS Γ T N LT c (2 * p) K' st') K 200 st
  | _, _, _, _ => none

/-- The parts of a code at a place. -/
def codesAt (q : Nat) : Code → Nat → List Code
  | .seq a b, p => (bif Nat.beq p q then [.seq a b] else []) ++ (codesAt q a (2 * p) ++ codesAt q b (2 * p + 1))
  | .cond c x y, p => (bif Nat.beq p q then [.cond c x y] else []) ++ (codesAt q x (2 * p) ++ codesAt q y (2 * p + 1))
  | .block id c, p => (bif Nat.beq p q then [.block id c] else []) ++ codesAt q c (2 * p)
  | .loop c, p => (bif Nat.beq p q then [.loop c] else []) ++ codesAt q c (2 * p)
  | _, _ => []

def SumOk (P : Program) (N : Nat) (c : Code) (s : Sum1) : Prop :=
  ∀ (R : Type) (b : Start) (K : X → St → Option R) (st : St) (r : R) (a : Act) (w : World), s R K st = some r → Good b N st a w → c.wp P (Qof b N K r) a w
def SumsOk (P : Program) (N : Nat) (LT : Sums) (C : Code) (p : Nat) : Prop :=
  ∀ q c, c ∈ codesAt q C p → ∀ s, lookS LT q = some s → SumOk P N c s

theorem SumsOk.nil {P : Program} {N : Nat} {C : Code} {p : Nat} : SumsOk P N [] C p := fun _ _ _ _ h => by cases h
theorem SumsOk.cons {P : Program} {N : Nat} {LT : Sums} {C : Code} {p : Nat} (h : SumsOk P N LT C p) {q : Nat} {c : Code} {s : Sum1} (hc : codesAt q C p = [c]) (hs : SumOk P N c s) : SumsOk P N ((q, s) :: LT) C p := by
  intro q' c' hc' s' hs'
  simp only [lookS] at hs'
  by_cases e : q = q'
  · subst e
    rw [beq_yes] at hs'
    simp only [cond_true, Option.some.injEq] at hs'
    subst hs'
    rw [hc] at hc'
    simp only [List.mem_singleton] at hc'
    subst hc'
    exact hs
  · rw [beq_no e] at hs'
    exact h q' c' hc' s' hs'

section
variable {P : Program} {b : Start} {N : Nat} {Γ : Tab} {T : Table}

theorem evS_sound (hΓ : tabIs P Γ = true) (hT : Sound P T) (hm : P.follows .mixedOrders = true) {LT : Sums} {R : Type} {r : R} : ∀ (c : Code) (p : Nat) (K : X → St → Option R) (st : St) (a : Act) (w : World), SumsOk P N LT c p →
    evS Γ T N LT c p K st = some r → Good b N st a w → c.wp P (Qof b N K r) a w
  | .skip, p, K, st, a, w, hs, he, hg => wp_skip ⟨_, he, hg⟩
  | .label l, p, K, st, a, w, hs, he, hg => wp_label ⟨_, he, hg⟩
  | .exit id, p, K, st, a, w, hs, he, hg => wp_exit ⟨_, he, hg⟩
  | .ret, p, K, st, a, w, hs, he, hg => wp_ret ⟨_, he, hg⟩
  | .region id ops draw, p, K, st, a, w, hs, he, hg => by
    simp only [evS] at he
    cases draw with
    | true => exact draw_ok hΓ hT hm R b N id ops st K r a w he hg
    | false =>
      simp only [cond_false] at he
      refine wp_region ?_
      have := evOps_sound (P := P) (N := N) (b := b) hΓ hT (ops := ops) (K := K .normal) (r := r) (Q := Qof b N K r) (fun st' a' w' h1 h2 => ⟨st', h1, h2⟩) ops.toList 0 st a w (by simp) he hg
      rwa [show List.range' 0 ops.toList.length = List.range ops.size from by rw [List.range_eq_range']; simp] at this
  | .seq x y, p, K, st, a, w, hs, he, hg => by
    simp only [evS] at he
    split at he
    · rename_i s hl
      exact hs p _ (by simp [codesAt, beq_yes]) s hl R b K st r a w he hg
    · have hsx : SumsOk P N LT x (2 * p) := fun q c hc => hs q c (by simp only [codesAt, List.mem_append]; exact .inr (.inl hc))
      have hsy : SumsOk P N LT y (2 * p + 1) := fun q c hc => hs q c (by simp only [codesAt, List.mem_append]; exact .inr (.inr hc))
      refine wp_seq (wp_mono (evS_sound hΓ hT hm x (2 * p) _ st a w hsx he hg) ?_)
      intro e a' w' hq
      cases e with
      | normal =>
        obtain ⟨st', h1, h2⟩ := hq
        exact evS_sound hΓ hT hm y (2 * p + 1) K st' a' w' hsy h1 h2
      | exit i => exact hq
      | ret => exact hq
      | goto l => exact hq
      | panic ch => exact hq
      | outgrown => exact hq
  | .cond c x y, p, K, st, a, w, hs, he, hg => by
    simp only [evS] at he
    split at he
    · rename_i s hl
      exact hs p _ (by simp [codesAt, beq_yes]) s hl R b K st r a w he hg
    · have hsx : SumsOk P N LT x (2 * p) := fun q c hc => hs q c (by simp only [codesAt, List.mem_append]; exact .inr (.inl hc))
      have hsy : SumsOk P N LT y (2 * p + 1) := fun q c hc => hs q c (by simp only [codesAt, List.mem_append]; exact .inr (.inr hc))
      split at he
      · rename_i bb hb
        have hg' := hg
        obtain ⟨γ, F, h⟩ := hg'
        have hv : a.eval c = .bool bb := by
          have := (h.eval c).1
          rw [hb] at this
          exact this
        refine wp_cond hv ?_
        cases bb with
        | true => exact evS_sound hΓ hT hm x (2 * p) K st a w hsx he hg
        | false => exact evS_sound hΓ hT hm y (2 * p + 1) K st a w hsy he hg
      · cases he
  | .block id c, p, K, st, a, w, hs, he, hg => by
    simp only [evS] at he
    split at he
    · rename_i s hl
      exact hs p _ (by simp [codesAt, beq_yes]) s hl R b K st r a w he hg
    · have hsc : SumsOk P N LT c (2 * p) := fun q c' hc => hs q c' (by simp only [codesAt, List.mem_append]; exact .inr hc)
      refine wp_block (wp_mono (evS_sound hΓ hT hm c (2 * p) _ st a w hsc he hg) ?_)
      intro e a' w' hq
      cases e with
      | normal => exact hq
      | exit i =>
        obtain ⟨st', h1, h2⟩ := hq
        simp only [Exit.inBlock]
        simp only [blockK] at h1
        by_cases hi : i = id
        · subst hi
          rw [if_pos rfl]
          rw [beq_yes] at h1
          exact ⟨st', h1, h2⟩
        · rw [if_neg hi]
          rw [beq_no hi] at h1
          exact ⟨st', h1, h2⟩
      | ret => exact hq
      | goto l => exact hq
      | panic ch => exact hq
      | outgrown => exact hq
  | .loop c, p, K, st, a, w, hs, he, hg => by
    simp only [evS] at he
    split at he
    · rename_i s hl
      exact hs p _ (by simp [codesAt, beq_yes]) s hl R b K st r a w he hg
    · have hsc : SumsOk P N LT c (2 * p) := fun q c' hc => hs q c' (by simp only [codesAt, List.mem_append]; exact .inr hc)
      exact loop_sound (fun K' st a w h1 h2 => evS_sound hΓ hT hm c (2 * p) K' st a w hsc h1 h2) he hg
  | .rangeFunc .., p, K, st, a, w, hs, he, hg => by simp [evS] at he
  | .scope .., p, K, st, a, w, hs, he, hg => by simp [evS] at he
  | .goto .., p, K, st, a, w, hs, he, hg => by simp [evS] at he
  | .refuse .., p, K, st, a, w, hs, he, hg => by simp [evS] at he
end

/-! ### Shapes of states -/
inductive CS where
  | int (k : IntKind) | bool | str | ro (e : Ty)
  | emp | own (t : Nat) | ptr (t off : Nat) | fn (f : Nat) (caps : List Nat) | nil (k : NilK) | dead
@[reducible] def denS : List CS → Type
  | [] => Unit
  | .int _ :: l => Int × denS l
  | .bool :: l => Bool × denS l
  | .str :: l => ByteArray × denS l
  | .ro e :: l => List e.den × denS l
  | .emp :: l => denS l
  | .own _ :: l => denS l
  | .ptr _ _ :: l => denS l
  | .fn _ _ :: l => denS l
  | .nil _ :: l => denS l
  | .dead :: l => denS l

def encCs : (cs : List CS) → {rest : List CS} → denS (cs ++ rest) → List C × denS rest
  | [], _, v => ([], v)
  | .int k :: cs, _, v => (.int k v.1 :: (encCs cs v.2).1, (encCs cs v.2).2)
  | .bool :: cs, _, v => (.bool v.1 :: (encCs cs v.2).1, (encCs cs v.2).2)
  | .str :: cs, _, v => (.str v.1 :: (encCs cs v.2).1, (encCs cs v.2).2)
  | .ro e :: cs, _, v => (.ro e v.1 :: (encCs cs v.2).1, (encCs cs v.2).2)
  | .emp :: cs, _, v => (.emp :: (encCs cs v).1, (encCs cs v).2)
  | .own t :: cs, _, v => (.own t :: (encCs cs v).1, (encCs cs v).2)
  | .ptr t o :: cs, _, v => (.ptr t o :: (encCs cs v).1, (encCs cs v).2)
  | .fn f l :: cs, _, v => (.fn f l :: (encCs cs v).1, (encCs cs v).2)
  | .nil k :: cs, _, v => (.nil k :: (encCs cs v).1, (encCs cs v).2)
  | .dead :: cs, _, v => (.dead :: (encCs cs v).1, (encCs cs v).2)

def consO {α β : Type} (a : α) : Option β → Option (α × β)
  | some b => some (a, b)
  | none => none
def beqL : List Nat → List Nat → Bool
  | [], [] => true
  | i :: l, j :: m => Nat.beq i j && beqL l m
  | _, _ => false
theorem beqL_eq : ∀ {l m : List Nat}, beqL l m = true → l = m
  | [], [], _ => rfl
  | i :: l, j :: m, h => by
    simp only [beqL, Bool.and_eq_true, Nat.beq_eq] at h
    rw [h.1, beqL_eq h.2]
  | [], _ :: _, h => by simp [beqL] at h
  | _ :: _, [], h => by simp [beqL] at h
theorem beqL_self : ∀ (l : List Nat), beqL l l = true
  | [] => rfl
  | i :: l => by simp [beqL, beqL_self l]

def decCs : (cs : List CS) → {rest : List CS} → List C → denS rest → Option (denS (cs ++ rest))
  | [], _, l, v => match l with | [] => some v | _ => none
  | .int k :: cs, _, l, v => match l with | .int k' n :: l => (if k = k' then consO n (decCs cs l v) else none) | _ => none
  | .bool :: cs, _, l, v => match l with | .bool n :: l => consO n (decCs cs l v) | _ => none
  | .str :: cs, _, l, v => match l with | .str n :: l => consO n (decCs cs l v) | _ => none
  | .ro e :: cs, _, l, v => match l with | .ro e' xs :: l => (if h : e' = e then consO (cast (congrArg (fun z => List (Ty.den z)) h) xs) (decCs cs l v) else none) | _ => none
  | .emp :: cs, _, l, v => match l with | .emp :: l => decCs cs l v | _ => none
  | .own t :: cs, _, l, v => match l with | .own t' :: l => (bif Nat.beq t t' then decCs cs l v else none) | _ => none
  | .ptr t o :: cs, _, l, v => match l with | .ptr t' o' :: l => (bif Nat.beq t t' && Nat.beq o o' then decCs cs l v else none) | _ => none
  | .fn f c :: cs, _, l, v => match l with | .fn f' c' :: l => (bif Nat.beq f f' && beqL c c' then decCs cs l v else none) | _ => none
  | .nil k :: cs, _, l, v => match l with | .nil k' :: l => (if k = k' then decCs cs l v else none) | _ => none
  | .dead :: cs, _, l, v => match l with | .dead :: l => decCs cs l v | _ => none

theorem consO_eq {α β : Type} {a : α} {x : Option β} {y : α × β} (h : consO a x = some y) : y.1 = a ∧ x = some y.2 := by
  cases x with
  | none => cases h
  | some b => injection h with h; subst h; exact ⟨rfl, rfl⟩

theorem bif_some {α : Type} {c : Bool} {x : Option α} {y : α} (h : (bif c then x else none) = some y) : c = true ∧ x = some y := by
  cases c with
  | true => exact ⟨rfl, h⟩
  | false => cases h

theorem dec_encCs : ∀ (cs : List CS) {rest : List CS} {l : List C} {v : denS rest} {r : denS (cs ++ rest)}, decCs cs l v = some r → encCs cs r = (l, v)
  | [], _, l, v, r, h => by
    simp only [decCs] at h
    split at h
    · injection h with h; subst h; rfl
    · cases h
  | .int k :: cs, _, l, v, r, h => by
    simp only [decCs] at h
    split at h
    · split at h
      · rename_i hk
        subst hk
        obtain ⟨h1, h2⟩ := consO_eq h
        simp only [encCs, dec_encCs cs h2, h1]
      · cases h
    · cases h
  | .bool :: cs, _, l, v, r, h => by
    simp only [decCs] at h
    split at h
    · obtain ⟨h1, h2⟩ := consO_eq h
      simp only [encCs, dec_encCs cs h2, h1]
    · cases h
  | .str :: cs, _, l, v, r, h => by
    simp only [decCs] at h
    split at h
    · obtain ⟨h1, h2⟩ := consO_eq h
      simp only [encCs, dec_encCs cs h2, h1]
    · cases h
  | .ro e :: cs, _, l, v, r, h => by
    simp only [decCs] at h
    split at h
    · split at h
      · rename_i hk
        subst hk
        obtain ⟨h1, h2⟩ := consO_eq h
        simp only [encCs, dec_encCs cs h2, h1, cast_eq]
      · cases h
    · cases h
  | .emp :: cs, _, l, v, r, h => by
    simp only [decCs] at h
    split at h
    · simp only [encCs, dec_encCs cs h]
    · cases h
  | .own t :: cs, _, l, v, r, h => by
    simp only [decCs] at h
    split at h
    · obtain ⟨h1, h2⟩ := bif_some h
      simp only [Nat.beq_eq] at h1
      subst h1
      simp only [encCs, dec_encCs cs h2]
    · cases h
  | .ptr t o :: cs, _, l, v, r, h => by
    simp only [decCs] at h
    split at h
    · obtain ⟨h1, h2⟩ := bif_some h
      simp only [Bool.and_eq_true, Nat.beq_eq] at h1
      obtain ⟨rfl, rfl⟩ := h1
      simp only [encCs, dec_encCs cs h2]
    · cases h
  | .fn f c :: cs, _, l, v, r, h => by
    simp only [decCs] at h
    split at h
    · obtain ⟨h1, h2⟩ := bif_some h
      simp only [Bool.and_eq_true, Nat.beq_eq] at h1
      obtain ⟨rfl, h3⟩ := h1
      have := beqL_eq h3
      subst this
      simp only [encCs, dec_encCs cs h2]
    · cases h
  | .nil k :: cs, _, l, v, r, h => by
    simp only [decCs] at h
    split at h
    · split at h
      · rename_i hk
        subst hk
        simp only [encCs, dec_encCs cs h]
      · cases h
    · cases h
  | .dead :: cs, _, l, v, r, h => by
    simp only [decCs] at h
    split at h
    · simp only [encCs, dec_encCs cs h]
    · cases h

theorem enc_decCs : ∀ (cs : List CS) {rest : List CS} (v : denS (cs ++ rest)), decCs cs (encCs cs v).1 (encCs cs v).2 = some v
  | [], _, v => rfl
  | .int k :: cs, _, v => by simp only [encCs, decCs, if_pos, enc_decCs cs v.2]; rfl
  | .bool :: cs, _, v => by simp only [encCs, decCs, enc_decCs cs v.2]; rfl
  | .str :: cs, _, v => by simp only [encCs, decCs, enc_decCs cs v.2]; rfl
  | .ro e :: cs, _, v => by simp only [encCs, decCs, dif_pos, enc_decCs cs v.2]; rfl
  | .emp :: cs, _, v => by simp only [encCs, decCs, enc_decCs cs v]
  | .own t :: cs, _, v => by simp only [encCs, decCs, beq_yes, cond_true, enc_decCs cs v]
  | .ptr t o :: cs, _, v => by simp only [encCs, decCs, beq_yes, Bool.and_self, cond_true, enc_decCs cs v]
  | .fn f c :: cs, _, v => by simp only [encCs, decCs, beq_yes, beqL_self, Bool.and_self, cond_true, enc_decCs cs v]
  | .nil k :: cs, _, v => by simp only [encCs, decCs, if_pos, enc_decCs cs v]
  | .dead :: cs, _, v => by simp only [encCs, decCs, enc_decCs cs v]

/-- What a slot holds; what a token stands for. -/
inductive AS where
  | one (c : CS)
  | agg (cs : List CS)
inductive BS where
  | var (cs : List CS)
  | row (E : Nat) (e : Ty) (m : RowK)
structure Shape where
  env : List (Nat × AS)
  sto : List (Nat × BS)
  nxt : Nat

def leavesE : List (Nat × AS) → List CS → List CS
  | [], rest => rest
  | (_, .one c) :: es, rest => [c] ++ leavesE es rest
  | (_, .agg cs) :: es, rest => cs ++ leavesE es rest
def leavesS : List (Nat × BS) → List CS → List CS
  | [], rest => rest
  | (_, .var cs) :: es, rest => cs ++ leavesS es rest
  | (_, .row _ e _) :: es, rest => [.ro e] ++ leavesS es rest
@[reducible] def Shape.Den (sh : Shape) : Type := denS (leavesE sh.env (leavesS sh.sto []))

def hd1 : List C → C
  | [c] => c
  | _ => .dead
def encE : (es : List (Nat × AS)) → {rest : List CS} → denS (leavesE es rest) → Env × denS rest
  | [], _, v => ([], v)
  | (i, .one c) :: es, _, v => ((i, .v (.one (hd1 (encCs [c] v).1))) :: (encE es (encCs [c] v).2).1, (encE es (encCs [c] v).2).2)
  | (i, .agg cs) :: es, _, v => ((i, .v (.agg (encCs cs v).1)) :: (encE es (encCs cs v).2).1, (encE es (encCs cs v).2).2)
def encS : (es : List (Nat × BS)) → {rest : List CS} → denS (leavesS es rest) → Store × denS rest
  | [], _, v => ([], v)
  | (i, .var cs) :: es, _, v => ((i, .var (encCs cs v).1) :: (encS es (encCs cs v).2).1, (encS es (encCs cs v).2).2)
  | (i, .row E e m) :: es, _, v => ((i, .row E e m v.1) :: (encS es v.2).1, (encS es v.2).2)
def encSt (sh : Shape) (v : sh.Den) : St :=
  { env := (encE sh.env v).1, sto := (encS sh.sto (rest := []) (encE sh.env v).2).1, nxt := sh.nxt, args := [] }

def decE : (es : List (Nat × AS)) → {rest : List CS} → Env → denS rest → Option (denS (leavesE es rest))
  | [], _, l, v => match l with | [] => some v | _ => none
  | (i, .one c) :: es, _, l, v => match l with
    | (j, .v (.one x)) :: l => (bif Nat.beq i j then match decE es l v with | some q => decCs [c] [x] q | none => none else none)
    | _ => none
  | (i, .agg cs) :: es, _, l, v => match l with
    | (j, .v (.agg xs)) :: l => (bif Nat.beq i j then match decE es l v with | some q => decCs cs xs q | none => none else none)
    | _ => none
def decS : (es : List (Nat × BS)) → {rest : List CS} → Store → denS rest → Option (denS (leavesS es rest))
  | [], _, l, v => match l with | [] => some v | _ => none
  | (i, .var cs) :: es, _, l, v => match l with
    | (j, .var xs) :: l => (bif Nat.beq i j then match decS es l v with | some q => decCs cs xs q | none => none else none)
    | _ => none
  | (i, .row E e m) :: es, _, l, v => match l with
    | (j, .row E' e' m' xs) :: l => (bif Nat.beq i j && Nat.beq E E' then if m = m' then match decS es l v with | some q => if h : e' = e then some (cast (congrArg (fun z => List (Ty.den z)) h) xs, q) else none | none => none else none else none)
    | _ => none
def decSt (sh : Shape) (st : St) : Option sh.Den :=
  match st.args with
  | [] => bif Nat.beq sh.nxt st.nxt then match decS sh.sto (rest := []) st.sto () with
    | some q => decE sh.env st.env q
    | none => none
    else none
  | _ => none

theorem dec_encE : ∀ (es : List (Nat × AS)) {rest : List CS} {l : Env} {v : denS rest} {r : denS (leavesE es rest)}, decE es l v = some r → encE es r = (l, v)
  | [], _, l, v, r, h => by
    simp only [decE] at h
    split at h
    · injection h with h; subst h; rfl
    · cases h
  | (i, .one c) :: es, _, l, v, r, h => by
    simp only [decE] at h
    split at h
    · obtain ⟨h1, h2⟩ := bif_some h
      simp only [Nat.beq_eq] at h1
      subst h1
      split at h2
      · rename_i q hq
        have := dec_encCs [c] h2
        simp only [encE, this, dec_encE es hq, hd1]
      · cases h2
    · cases h
  | (i, .agg cs) :: es, _, l, v, r, h => by
    simp only [decE] at h
    split at h
    · obtain ⟨h1, h2⟩ := bif_some h
      simp only [Nat.beq_eq] at h1
      subst h1
      split at h2
      · rename_i q hq
        have := dec_encCs cs h2
        simp only [encE, this, dec_encE es hq]
      · cases h2
    · cases h
theorem dec_encS : ∀ (es : List (Nat × BS)) {rest : List CS} {l : Store} {v : denS rest} {r : denS (leavesS es rest)}, decS es l v = some r → encS es r = (l, v)
  | [], _, l, v, r, h => by
    simp only [decS] at h
    split at h
    · injection h with h; subst h; rfl
    · cases h
  | (i, .var cs) :: es, _, l, v, r, h => by
    simp only [decS] at h
    split at h
    · obtain ⟨h1, h2⟩ := bif_some h
      simp only [Nat.beq_eq] at h1
      subst h1
      split at h2
      · rename_i q hq
        have := dec_encCs cs h2
        simp only [encS, this, dec_encS es hq]
      · cases h2
    · cases h
  | (i, .row E e m) :: es, _, l, v, r, h => by
    simp only [decS] at h
    split at h
    · obtain ⟨h1, h2⟩ := bif_some h
      simp only [Bool.and_eq_true, Nat.beq_eq] at h1
      obtain ⟨rfl, rfl⟩ := h1
      split at h2
      · rename_i hm
        subst hm
        split at h2
        · rename_i q hq
          split at h2
          · rename_i he
            subst he
            injection h2 with h2
            subst h2
            simp only [encS, dec_encS es hq, cast_eq]
          · cases h2
        · cases h2
      · cases h2
    · cases h
theorem dec_encSt {sh : Shape} {st : St} {v : sh.Den} (h : decSt sh st = some v) : encSt sh v = st := by
  unfold decSt at h
  split at h
  · rename_i ha
    obtain ⟨h1, h2⟩ := bif_some h
    simp only [Nat.beq_eq] at h1
    split at h2
    · rename_i q hq
      have e1 := dec_encE sh.env h2
      have e2 := dec_encS sh.sto (rest := []) hq
      unfold encSt
      rw [e1]
      simp only
      rw [e2, h1]
      obtain ⟨_, _, _, _⟩ := st
      simp only at ha
      rw [ha]
    · cases h2
  · cases h

theorem enc_decE : ∀ (es : List (Nat × AS)) {rest : List CS} (v : denS (leavesE es rest)), decE es (encE es v).1 (encE es v).2 = some v
  | [], _, v => rfl
  | (i, .one c) :: es, rest, v => by
    have h : [hd1 (encCs [c] (rest := leavesE es rest) v).1] = (encCs [c] (rest := leavesE es rest) v).1 := by cases c <;> rfl
    simp only [encE, decE, beq_yes, cond_true, enc_decE es]
    rw [h]
    exact enc_decCs [c] v
  | (i, .agg cs) :: es, rest, v => by
    simp only [encE, decE, beq_yes, cond_true, enc_decE es]
    exact enc_decCs cs v
theorem enc_decS : ∀ (es : List (Nat × BS)) {rest : List CS} (v : denS (leavesS es rest)), decS es (encS es v).1 (encS es v).2 = some v
  | [], _, v => rfl
  | (i, .var cs) :: es, rest, v => by
    simp only [encS, decS, beq_yes, cond_true, enc_decS es]
    exact enc_decCs cs v
  | (i, .row E e m) :: es, rest, v => by
    simp only [encS, decS, beq_yes, Bool.and_self, cond_true, enc_decS es, if_pos, dif_pos]
    rfl
theorem enc_decSt (sh : Shape) (v : sh.Den) : decSt sh (encSt sh v) = some v := by
  unfold decSt encSt
  simp only [beq_yes, cond_true]
  have h := enc_decS sh.sto (rest := []) (encE sh.env v).2
  have e : (encS sh.sto (rest := []) (encE sh.env v).2).2 = () := rfl
  rw [e] at h
  rw [h]
  exact enc_decE sh.env v

/-! ### Summaries -/
def iterS {V R : Type} (Step : (V → Option R) → V → Option R) : Nat → V → Option R
  | 0, _ => none
  | n + 1, v => Step (iterS Step n) v

/-- Behind a part of the code: what is kept. -/
def partK {R : Type} (nx : Note) (K : X → St → Option R) : X → St → Option R
  | .normal, st => K .normal (norm nx st)
  | .exit i, st => K (.exit i) (norm nx st)
  | .ret, st => K .ret (norm nx st)
def bodyK {R : Type} (n nx : Note) (rec : St → Option R) (K : X → St → Option R) : X → St → Option R
  | .normal, st => rec (norm n st)
  | .exit i, st => K (.exit i) (norm nx st)
  | .ret, st => K .ret (norm nx st)

def loopSum (sh : Shape) (n : Note) (k : Nat) (Step : (R : Type) → (sh.Den → Option R) → (X → St → Option R) → sh.Den → Option R) : Sum1 :=
  fun R K st => match decSt sh (norm n st) with
    | some v => iterS (fun rec v => Step R rec K v) k v
    | none => none
def partSum (sh : Shape) (n : Note) (Step : (R : Type) → (X → St → Option R) → sh.Den → Option R) : Sum1 :=
  fun R K st => match decSt sh (norm n st) with
    | some v => Step R K v
    | none => none

section
variable {P : Program} {b : Start} {N : Nat} {Γ : Tab} {T : Table}

theorem Good.norm {st : St} {a : Act} {w : World} (hg : Good b N st a w) (n : Note) : Good b N (Ab.norm n st) a w := (hg.promote _).normSlots _

theorem Qof.part {R : Type} {nx : Note} {K : X → St → Option R} {r : R} {e : Exit} {a : Act} {w : World} (h : Qof b N (partK nx K) r e a w) : Qof b N K r e a w := by
  cases e with
  | normal => obtain ⟨st, h1, h2⟩ := h; exact ⟨_, h1, h2.norm nx⟩
  | exit i => obtain ⟨st, h1, h2⟩ := h; exact ⟨_, h1, h2.norm nx⟩
  | ret => obtain ⟨st, h1, h2⟩ := h; exact ⟨_, h1, h2.norm nx⟩
  | goto l => exact h
  | panic ch => exact h
  | outgrown => exact h

theorem sum_part (hΓ : tabIs P Γ = true) (hT : Sound P T) (hm : P.follows .mixedOrders = true) {LT : Sums} {c : Code} {p : Nat} {sh : Shape} {n nx : Note} {Step : (R : Type) → (X → St → Option R) → sh.Den → Option R}
    (hs : SumsOk P N LT c p) (hstep : ∀ (R : Type) (K : X → St → Option R) (v : sh.Den), evS Γ T N LT c p (partK nx K) (encSt sh v) = Step R K v) : SumOk P N c (partSum sh n Step) := by
  intro R b K st r a w he hg
  unfold partSum at he
  split at he
  · rename_i v hv
    rw [← hstep R K v, dec_encSt hv] at he
    exact wp_mono (evS_sound hΓ hT hm c p _ _ a w hs he (hg.norm n)) fun e a' w' h => h.part
  · cases he

theorem sum_loop (hΓ : tabIs P Γ = true) (hT : Sound P T) (hm : P.follows .mixedOrders = true) {LT : Sums} {c : Code} {p : Nat} {sh : Shape} {n nx : Note} {k : Nat} {Step : (R : Type) → (sh.Den → Option R) → (X → St → Option R) → sh.Den → Option R}
    (hs : SumsOk P N LT c p) (hstep : ∀ (R : Type) (rec : St → Option R) (K : X → St → Option R) (v : sh.Den), evS Γ T N LT c p (bodyK n nx rec K) (encSt sh v) = Step R (fun v => rec (encSt sh v)) K v) : SumOk P N (.loop c) (loopSum sh n k Step) := by
  intro R b K st r a w he hg
  unfold loopSum at he
  split at he
  · rename_i v hv
    refine wp_loop_ghost (fun m a w => ∃ st v, decSt sh (Ab.norm n st) = some v ∧ iterS (fun rec v => Step R rec K v) m v = some r ∧ Good b N st a w) k ⟨st, v, hv, he, hg⟩ ?_
    rintro m a w ⟨st, v, hv, he, hg⟩
    cases m with
    | zero => simp [iterS] at he
    | succ m =>
      let rec' : St → Option R := fun s => match decSt sh s with | some v => iterS (fun rec v => Step R rec K v) m v | none => none
      have hrec : (fun v => rec' (encSt sh v)) = iterS (fun rec v => Step R rec K v) m := by
        funext v
        show (match decSt sh (encSt sh v) with | some v => iterS (fun rec v => Step R rec K v) m v | none => none) = _
        rw [enc_decSt]
      have he' : evS Γ T N LT c p (bodyK n nx rec' K) (encSt sh v) = some r := by
        rw [hstep R rec' K v, hrec]
        exact he
      rw [dec_encSt hv] at he'
      refine wp_mono (evS_sound hΓ hT hm c p _ _ a w hs he' (hg.norm n)) ?_
      intro e a' w' hq
      cases e with
      | normal =>
        obtain ⟨st', h1, h2⟩ := hq
        have h1 : (match decSt sh (Ab.norm n st') with | some v => iterS (fun rec v => Step R rec K v) m v | none => none) = some r := h1
        split at h1
        · rename_i v' hv'
          exact ⟨m, Nat.lt_succ_self m, st', v', hv', h1, h2⟩
        · cases h1
      | exit i => obtain ⟨st, h1, h2⟩ := hq; exact ⟨_, h1, h2.norm nx⟩
      | ret => obtain ⟨st, h1, h2⟩ := hq; exact ⟨_, h1, h2.norm nx⟩
      | goto l => exact hq
      | panic ch => exact hq
      | outgrown => exact hq
  · cases he
end
end Go.Ab
