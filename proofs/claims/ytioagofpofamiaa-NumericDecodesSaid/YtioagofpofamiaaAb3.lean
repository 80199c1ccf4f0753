/- The type table is the program's; the operations without memory. -/
import Derived.Test.YtioagofpofamiaaAb2
import Derived.Laws.IdiomCopy
/-! The type table is the program's; the operations without memory. -/
set_option linter.unusedVariables false
set_option linter.unusedSimpArgs false
namespace Go.Ab

/-! ### The table of types -/
def aggOf : TypeDesc → Bool
  | .struct _ | .array _ _ => true
  | _ => false

def zeroIs : C → Value → Bool
  | .int k n, .int k' m => decide (k = k') && decide (n = m)
  | .bool b, .bool c => b == c
  | .str s, .string u => Nat.beq s.size 0 && Nat.beq u.size 0
  | .emp, .slice none 0 0 => true
  | .nil .ptr, .pointer none => true
  | .nil .fn, .nilFunc => true
  | .nil .iface, .nilIface => true
  | .nil .map, .map none => true
  | _, _ => false
def zerosAre : List C → List Value → Bool
  | [], [] => true
  | c :: cs, v :: vs => zeroIs c v && zerosAre cs vs
  | _, _ => false

theorem ba_empty {s u : ByteArray} (h : s.size = 0) (h' : u.size = 0) : u = s := by
  apply ByteArray.ext
  have h1 : s.data.size = 0 := h
  have h2 : u.data.size = 0 := h'
  rw [Array.size_eq_zero_iff.1 h1, Array.size_eq_zero_iff.1 h2]

theorem zeroIs_rep {γ : Nat → G} {F : Nat → Prop} {w : World} {c : C} {v : Value} (h : zeroIs c v = true) : RepC γ F w c v := by
  unfold zeroIs at h
  split at h <;> simp_all [RepC, NilK.val]
theorem zerosAre_rep {γ : Nat → G} {F : Nat → Prop} {w : World} : ∀ {cs : List C} {vs : List Value}, zerosAre cs vs = true → All2 (RepC γ F w) cs vs
  | [], [], _ => trivial
  | c :: cs, v :: vs, h => by
    simp only [zerosAre, Bool.and_eq_true] at h
    exact ⟨zeroIs_rep h.1, zerosAre_rep h.2⟩
  | [], _ :: _, h => by simp [zerosAre] at h
  | _ :: _, [], h => by simp [zerosAre] at h

/-- The cells of a type's default datum are those of its zero value. -/
def dfltIs : Ty → List Value → Option (List Value)
  | .int k, .int k' n :: l => if k = k' ∧ n = 0 then some l else none
  | .bool, .bool false :: l => some l
  | .str, .string s :: l => if s.size = 0 then some l else none
  | .pair a b, l => match dfltIs a l with
    | some l' => dfltIs b l'
    | none => none
  | .slice _, .slice none 0 0 :: l => some l
  | _, _ => none
theorem dfltIs_rep {F : Nat → Prop} {w : World} : ∀ {t : Ty} {l l' : List Value}, dfltIs t l = some l' → ∃ m, l = m ++ l' ∧ RepD F w t t.dflt m
  | .int k, l, l', h => by
    unfold dfltIs at h
    split at h <;> try (cases h; done)
    all_goals first
      | (rename_i k1 k' n r hk; split at h
         · rename_i hc; obtain ⟨rfl, rfl⟩ := hc; injection hk with hk; subst hk; injection h with h; subst h; exact ⟨[_], rfl, rfl⟩
         · cases h)
      | (rename_i hk; cases hk)
      | (rename_i hk _; cases hk)
  | .bool, l, l', h => by
    unfold dfltIs at h
    split at h <;> simp_all
    exact ⟨[_], rfl, rfl⟩
  | .str, l, l', h => by
    unfold dfltIs at h
    split at h <;> simp_all
    rename_i s r
    obtain ⟨rfl, rfl⟩ := h
    exact ⟨[_], rfl, rfl⟩
  | .slice e, l, l', h => by
    unfold dfltIs at h
    split at h <;> simp_all
    refine ⟨[_], rfl, _, rfl, none, 0, 0, rfl, rfl, Nat.le_refl _, fun h => by omega⟩
  | .pair a b, l, l', h => by
    simp only [dfltIs] at h
    split at h
    · rename_i x hx
      obtain ⟨m1, rfl, h1⟩ := dfltIs_rep hx
      obtain ⟨m2, rfl, h2⟩ := dfltIs_rep h
      exact ⟨m1 ++ m2, by simp, m1, m2, rfl, h1, h2⟩
    · cases h

def fieldsAre (P : Program) : List Field → List (Nat × Nat × Nat) → Bool
  | [], [] => true
  | f :: fs, (t, o, s) :: l => (Nat.beq f.type t && (Nat.beq f.offset o && (match P.info? t with | some i => Nat.beq i.size s | none => false))) && fieldsAre P fs l
  | _, _ => false

def descIs (P : Program) (d : TypeDesc) (r : TR) : Bool :=
  match d, r.d with
  | .int k, .int k' => decide (k = k')
  | .bool, .bool => true
  | .string, .str => true
  | .pointer e, .ptr e' => Nat.beq e e'
  | .slice e, .slice e' ty => Nat.beq e e' && (match P.info? e with | some i => Nat.beq i.size ty.size && (match i.zero with | some z => (match dfltIs ty z.cells.toList with | some [] => true | _ => false) | none => true) | none => false)
  | .array n e, .array n' e' => Nat.beq n n' && Nat.beq e e'
  | .struct fs, .struct l => fieldsAre P fs.toList l
  | _, .other => true
  | _, _ => false

def noBlank (P : Program) : TypeDesc → Bool
  | .struct fs => fs.toList.all fun f => f.name != "_"
  | _ => false
def eqIs (P : Program) (t : Nat) (d : TypeDesc) : Bool := noBlank P d && (!P.eqGuardType P.depth t && !P.stoodInHeld t)

def trIs (P : Program) (t : Nat) (r : TR) : Bool :=
  match P.underlying t, P.info? t with
  | some d, some i => (!r.eq || eqIs P t d) && (descIs P d r && (Nat.beq i.size r.size && (Nat.beq i.bytes r.bytes && ((aggOf d == r.agg) && (match r.zero with
    | none => true
    | some z => (match i.zero with | some v => zerosAre z v.cells.toList && Nat.beq v.cells.size r.size && (match v with | .agg _ => aggOf d | .tuple _ => false | _ => !aggOf d) | none => false))))))
  | _, _ => false
def tabIs (P : Program) : Tab → Bool
  | [] => true
  | (t, r) :: l => trIs P t r && tabIs P l

theorem tabIs_look {P : Program} : ∀ {Γ : Tab}, tabIs P Γ = true → ∀ {t : Nat} {r : TR}, look Γ t = some r → trIs P t r = true
  | [], _, t, r, h => by cases h
  | (u, x) :: Γ, hΓ, t, r, h => by
    simp only [tabIs, Bool.and_eq_true] at hΓ
    by_cases e : u = t
    · subst e
      simp only [look, beq_yes, cond_true] at h
      injection h with h
      subst h
      exact hΓ.1
    · simp only [look, beq_no e, cond_false] at h
      exact tabIs_look hΓ.2 h

/-- What the table says of a type is so. -/
structure TrOk (P : Program) (t : Nat) (r : TR) (d : TypeDesc) (i : TypeInfo) : Prop where
  und : P.underlying t = some d
  inf : P.info? t = some i
  size : i.size = r.size
  bytes : i.bytes = r.bytes
  agg : aggOf d = r.agg
  desc : descIs P d r = true
  eq : r.eq = true → eqIs P t d = true
  zero : ∀ z, r.zero = some z → ∃ v, i.zero = some v ∧ zerosAre z v.cells.toList = true ∧ v.cells.size = r.size ∧ (match v with | .agg _ => aggOf d = true | .tuple _ => False | _ => aggOf d = false)

theorem trIs_ok {P : Program} {t : Nat} {r : TR} (h : trIs P t r = true) : ∃ d i, TrOk P t r d i := by
  unfold trIs at h
  split at h
  · rename_i d i hd hi
    simp only [Bool.and_eq_true, Nat.beq_eq, beq_iff_eq] at h
    obtain ⟨h0, h1, h2, h3, h4, h5⟩ := h
    refine ⟨d, i, hd, hi, h2, h3, h4, h1, fun he => by simpa [he] using h0, fun z hz => ?_⟩
    rw [hz] at h5
    simp only at h5
    split at h5
    · rename_i v hv
      simp only [Bool.and_eq_true, Nat.beq_eq] at h5
      refine ⟨v, hv, h5.1.1, h5.1.2, ?_⟩
      have := h5.2
      cases v <;> simp_all
    · cases h5
  · cases h

theorem trOf_ok {P : Program} {Γ : Tab} (hΓ : tabIs P Γ = true) {t : Nat} {r : TR} (h : trOf Γ t = some r) : ∃ d i, TrOk P t r d i := trIs_ok (tabIs_look hΓ h)

/-! ### The form of an operation's law -/
def ResSem (Φ : AV → Store → Prop) : Res → Prop
  | .ok v S => Φ v S
  | .chk c v S => c = true → Φ v S
  | .call _ m h => ∀ x, m = some x → Φ (h x).1 (h x).2
  | .fail => True

theorem ResSem.imp {Φ Ψ : AV → Store → Prop} {r : Res} (h : ResSem Φ r) (f : ∀ v S, Φ v S → Ψ v S) : ResSem Ψ r := by
  cases r with
  | ok v S => exact f _ _ h
  | chk c v S => exact fun hc => f _ _ (h hc)
  | call R m g => exact fun x hx => f _ _ (h x hx)
  | fail => trivial

/-- Every token of the store, and all that stands in it, is below a number. -/
def StoLt (fr : Nat) (S : Store) : Prop := ∀ t b, look S t = some b → t < fr ∧ ∀ u ∈ b.toks, u < fr
def ArgLt (fr : Nat) (l : List AV) : Prop := ∀ x ∈ l, ∀ t ∈ x.toks, t < fr

def OpSem (P : Program) (o : Oper) (args : List AV) (fr : Nat) (S : Store) (v : AV) (S' : Store) : Prop :=
  ∀ (γ : Nat → G) (F : Nat → Prop) (w : World) (a : Act), Inv F γ S w → StoLt fr S → ArgLt fr args → All2 (fun x av => RepA γ F w av (a.eval x)) o.op.operands.toList args →
  ∀ (next : Act → World → Prop) (Q : Exit → Act → World → Prop), (∀ u γ' F' w', Post fr γ F w S γ' F' w' S' → RepA γ' F' w' v u → next (a.put o.dst u) w') → o.wp P a w next Q

theorem wp_of_value {P : Program} {o : Oper} {a : Act} {w w' : World} {u : Value} {next : Act → World → Prop} {Q : Exit → Act → World → Prop} (h : (execOp a.eval o).run P w = .ok (.value u) w')
    (hn : next (a.put o.dst u) w') : o.wp P a w next Q := by unfold Oper.wp; rw [h]; exact hn
theorem wp_of_skip {P : Program} {o : Oper} {a : Act} {w w' : World} {next : Act → World → Prop} {Q : Exit → Act → World → Prop} (h : (execOp a.eval o).run P w = .ok .skip w')
    (hn : next (a.put o.dst Go.undef) w') : o.wp P a w next Q := by unfold Oper.wp; rw [h]; exact hn

/-- An operation that only reckons: it may draw. -/
theorem OpSem.pure {P : Program} {o : Oper} {args : List AV} {fr : Nat} {S : Store} {v : AV}
    (h : ∀ (γ : Nat → G) (F : Nat → Prop) (w : World) (a : Act), Inv F γ S w → All2 (fun x av => RepA γ F w av (a.eval x)) o.op.operands.toList args →
      ∃ u, (execOp a.eval o).run P w = .ok (.value u) w ∧ RepA γ F w v u) : OpSem P o args fr S v S := by
  intro γ F w a hI _ _ hA next Q hn
  obtain ⟨u, h1, h2⟩ := h γ F w a hI hA
  exact wp_of_value h1 (hn u γ F w (Post.same hI) h2)

theorem all2_one {α β : Type} {R : α → β → Prop} {x : α} {l : List β} (h : All2 R [x] l) : ∃ y, l = [y] ∧ R x y := by
  match l, h with
  | [y], h => exact ⟨y, rfl, h.1⟩
theorem all2_two {α β : Type} {R : α → β → Prop} {x x' : α} {l : List β} (h : All2 R [x, x'] l) : ∃ y y', l = [y, y'] ∧ R x y ∧ R x' y' := by
  match l, h with
  | [y, y'], h => exact ⟨y, y', rfl, h.1, h.2.1⟩
theorem all2_three {α β : Type} {R : α → β → Prop} {x x' x'' : α} {l : List β} (h : All2 R [x, x', x''] l) : ∃ y y' y'', l = [y, y', y''] ∧ R x y ∧ R x' y' ∧ R x'' y'' := by
  match l, h with
  | [y, y', y''], h => exact ⟨y, y', y'', rfl, h.1, h.2.1, h.2.2.1⟩

section
variable {P : Program} {dst : Option Tmp} {ty : TypeId} {pos : String} {aft : Array Edge} {gd : Option (Nat × Bool)} {fr : Nat} {S : Store}

theorem sem_move (x : Operand) (av : AV) : OpSem P ⟨dst, .move x, ty, pos, aft, gd⟩ [av] fr S av S :=
  OpSem.pure fun γ F w a _ hA => ⟨a.eval x, rfl, hA.1⟩
theorem sem_assign (x : Operand) (av : AV) : OpSem P ⟨dst, .assign x, ty, pos, aft, gd⟩ [av] fr S av S :=
  OpSem.pure fun γ F w a _ hA => ⟨a.eval x, rfl, hA.1⟩

theorem sem_pick (c x y : Operand) (ac ax ay : AV) : ResSem (OpSem P ⟨dst, .pick c x y, ty, pos, aft, gd⟩ [ac, ax, ay] fr S) (pickA ac ax ay S) := by
  unfold pickA
  split
  · rename_i b a' b'
    refine OpSem.pure fun γ F w a _ hA => ⟨a.eval (if b then x else y), ?_, ?_⟩
    · have h1 : a.eval c = .bool b := hA.1
      simp only [execOp, h1, asBool]
      cases b <;> rfl
    · cases b
      · exact hA.2.2.1
      · exact hA.2.1
  · rename_i b k a' k' b'
    split
    · rename_i hk
      subst hk
      refine OpSem.pure fun γ F w a _ hA => ⟨a.eval (if b then x else y), ?_, ?_⟩
      · have h1 : a.eval c = .bool b := hA.1
        simp only [execOp, h1, asBool]
        cases b <;> rfl
      · cases b
        · exact hA.2.2.1
        · exact hA.2.1
    · trivial
  · refine OpSem.pure fun γ F w a _ hA => ⟨a.eval x, ?_, hA.2.1⟩
    have h1 : a.eval c = .bool true := hA.1
    simp only [execOp, h1, asBool]
    rfl
  · refine OpSem.pure fun γ F w a _ hA => ⟨a.eval y, ?_, hA.2.2.1⟩
    have h1 : a.eval c = .bool false := hA.1
    simp only [execOp, h1, asBool]
    rfl
  · trivial

theorem sem_extract (x : Operand) (i : Nat) (l : List V1) (y : V1) (hy : l[i]? = some y) : OpSem P ⟨dst, .extract x i, ty, pos, aft, gd⟩ [.tup l] fr S (.v y) S := by
  refine OpSem.pure fun γ F w a _ hA => ?_
  obtain ⟨vs, h1, h2⟩ := hA.1
  obtain ⟨u, hu, hr⟩ := h2.get i y hy
  refine ⟨u, ?_, hr⟩
  simp [execOp, Instr.extract, h1, hu]

theorem sem_un (u : UnOp) (t : TypeId) (x : Operand) (ax : AV) : ResSem (OpSem P ⟨dst, .unOp u t x, ty, pos, aft, gd⟩ [ax] fr S) (unA u ax S) := by
  unfold unA
  split
  · rename_i k n
    refine OpSem.pure fun γ F w a _ hA => ⟨.int k (k.wrap (0 - n)), ?_, rfl⟩
    have h1 : a.eval x = .int k n := hA.1
    simp [execOp, h1, Op.unary, Op.intArith]
  · rename_i b
    refine OpSem.pure fun γ F w a _ hA => ⟨.bool (!b), ?_, rfl⟩
    have h1 : a.eval x = .bool b := hA.1
    simp [execOp, h1, Op.unary]
  · trivial

theorem eqGuard_int (op : BinOp) (t : TypeId) (x y : Operand) (k k' : IntKind) (m n : Int) (w : World) : (eqGuard op t x y (.int k m) (.int k' n)).run P w = .ok () w := by
  unfold eqGuard
  by_cases h : (!(match op with | .eql | .neq => true | _ => false)) = true
  · simp [h]
  · simp [h]
theorem eqGuard_str (op : BinOp) (t : TypeId) (x y : Operand) (m n : ByteArray) (w : World) : (eqGuard op t x y (.string m) (.string n)).run P w = .ok () w := by
  unfold eqGuard
  by_cases h : (!(match op with | .eql | .neq => true | _ => false)) = true
  · simp [h]
  · simp [h]
theorem eqGuard_bool (op : BinOp) (t : TypeId) (x y : Operand) (m n : Bool) (w : World) : (eqGuard op t x y (.bool m) (.bool n)).run P w = .ok () w := by
  unfold eqGuard
  by_cases h : (!(match op with | .eql | .neq => true | _ => false)) = true
  · simp [h]
  · simp [h]
end
end Go.Ab
