/- Regions whose order is drawn. -/
import Derived.Test.YtioagofpofamiaaAb19
import Derived.Orders
/-! Regions whose order is drawn. -/
set_option linter.unusedVariables false
set_option linter.unusedSimpArgs false
namespace Go.Ab

/-- One operation's part in a region. -/
structure Tr where
  o : Oper
  args : List AV
  ts : List Nat
  fr : Nat
  nx : Nat
  part : Store
  v : AV
  S' : Store
  quiet : Bool

/-- Operations that leave the store as it is. -/
def quietK : Op → Bool
  | .move _ => true
  | .load .. => true
  | .fieldAddr .. => true
  | .indexAddr .. => true
  | .nilCheck _ => true
  | .extract .. => true
  | .call { callee := .builtin .len, .. } => true
  | _ => false

def Tr.put (t : Tr) (st : St) : St :=
  { env := putE st.env t.o.dst t.v, sto := bif t.quiet then st.sto else keep (fun u => !memb t.ts u) st.sto ++ t.S', nxt := t.nx, args := st.args }

def inT (t : Tr) (u : Nat) : Bool := memb t.ts u || (Nat.ble t.fr u && Nat.blt u t.nx)
def allIn (t : Tr) : List Nat → Bool
  | [] => true
  | u :: l => inT t u && allIn t l
def stoIn (t : Tr) : Store → Bool
  | [] => true
  | (u, b) :: l => inT t u && (allIn t b.toks && stoIn t l)
def argsLt (n : Nat) : List AV → Bool
  | [] => true
  | v :: l => allLt n v.toks && argsLt n l

def Tr.good (N : Nat) (t : Tr) : Bool :=
  allLt t.fr t.ts && (Nat.ble t.fr t.nx && (stoLt t.fr t.part && (argsLt t.fr t.args && (stoIn t t.S' && (allIn t t.v.toks && (dstOk N t.o.dst && (!t.quiet || Nat.beq t.nx t.fr)))))))

section
variable {R : Type}

def evDr (Γ : Tab) (T : Table) (N : Nat) (ops : Array Oper) : List Oper → St → List Tr → (List Tr → St → Option R) → Option R
  | [], st, acc, K => K acc st
  | o :: l, st, acc, K =>
    match guardA ops st.env o with
    | none => none
    | some (some false) =>
      let t : Tr := ⟨o, [], [], st.nxt, st.nxt, [], .tup [], [], true⟩
      bif t.good N then evDr Γ T N ops l (t.put st) (acc ++ [t]) K else none
    | some _ =>
      let args := argsOf st.env o
      let ts := reach st.sto args
      let part := keep (memb ts) st.sto
      runRes (stepOp Γ T o.op args st.nxt part) fun v S' => splitB (isGuard ops o) v fun v =>
        let q := quietK o.op
        let t : Tr := ⟨o, args, ts, st.nxt, bif q then st.nxt else topKey S' st.nxt, part, v, bif q then [] else S', q⟩
        bif t.good N then evDr Γ T N ops l (t.put st) (acc ++ [t]) K else none

def uni : List Nat → List Nat → List Nat
  | [], m => m
  | i :: l, m => bif memb m i then uni l m else uni l (i :: m)
def edgesOf : List Edge → List Nat
  | [] => []
  | e :: l => bif Region.binds .any e then e.on :: edgesOf l else edgesOf l
def nthL (l : List (List Nat)) (i : Nat) : List Nat := l.getD i []
def closeL (acc : List (List Nat)) : List Nat → List Nat → List Nat
  | [], m => m
  | i :: l, m => closeL acc l (uni (nthL acc i) (uni [i] m))
/-- Of each operation: those that must be done before it. -/
def befs : List Oper → List (List Nat) → List (List Nat)
  | [], acc => acc
  | o :: l, acc => befs l (acc ++ [closeL acc (edgesOf o.after.toList) []])

def backOk : List Oper → Nat → Bool
  | [], _ => true
  | o :: l, n => allLt n (edgesOf o.after.toList) && backOk l (n + 1)

def noneIn (t : Tr) : List Nat → Bool
  | [] => true
  | u :: l => !inT t u && noneIn t l
def free2 (ops : Array Oper) (x y : Tr) : Bool :=
  Oper.apart ops x.o y.o && ((x.quiet && y.quiet) || (noneIn y x.ts && noneIn x y.ts))
/-- Any two are in order, or free. -/
def chkPair (ops : Array Oper) (bs : List Nat) (y : Tr) : List Tr → Nat → Bool
  | [], _ => true
  | x :: l, i => Nat.ble x.nx y.fr && ((memb bs i || free2 ops x y) && chkPair ops bs y l (i + 1))
def chkAll (ops : Array Oper) (n0 nF : Nat) : List (List Nat) → List Tr → List Tr → Bool
  | bs :: B, acc, y :: l => Nat.ble n0 y.fr && (Nat.ble y.nx nF && (chkPair ops bs y acc 0 && chkAll ops n0 nF B (acc ++ [y]) l))
  | _, _, [] => true
  | [], _, _ :: _ => false

/-- A region whose order is drawn. -/
def evDraw (Γ : Tab) (T : Table) (N : Nat) (ops : Array Oper) (st : St) (K : St → Option R) : Option R :=
  bif backOk ops.toList 0 then
    evDr Γ T N ops ops.toList st [] fun L st' => bif chkAll ops st.nxt st'.nxt (befs ops.toList []) [] L && Nat.ble st.nxt st'.nxt then K st' else none
  else none
end

/-! ### What the checks say -/
theorem inT_iff {t : Tr} {u : Nat} : inT t u = true ↔ u ∈ t.ts ∨ (t.fr ≤ u ∧ u < t.nx) := by
  simp [inT, memb_iff, Nat.blt_eq]
theorem allIn_mem {t : Tr} : ∀ {l : List Nat}, allIn t l = true → ∀ u ∈ l, inT t u = true
  | [], _, u, h => by simp at h
  | x :: l, h, u, hu => by
    simp only [allIn, Bool.and_eq_true] at h
    rcases List.mem_cons.1 hu with rfl | hu
    · exact h.1
    · exact allIn_mem h.2 u hu
theorem stoIn_look {t : Tr} : ∀ {S : Store}, stoIn t S = true → ∀ {u : Nat} {b : Blk}, look S u = some b → inT t u = true ∧ ∀ x ∈ b.toks, inT t x = true
  | [], _, u, b, h => by cases h
  | (v, c) :: l, hS, u, b, h => by
    simp only [stoIn, Bool.and_eq_true] at hS
    by_cases e : v = u
    · subst e
      simp only [look, beq_yes, cond_true] at h
      injection h with h
      subst h
      exact ⟨hS.1, allIn_mem hS.2.1⟩
    · simp only [look, beq_no e, cond_false] at h
      exact stoIn_look hS.2.2 h
theorem argsLt_ok {n : Nat} : ∀ {l : List AV}, argsLt n l = true → ArgLt n l
  | [], _, x, hx => by simp at hx
  | v :: l, h, x, hx => by
    simp only [argsLt, Bool.and_eq_true] at h
    rcases List.mem_cons.1 hx with rfl | hx
    · exact allLt_mem h.1
    · exact argsLt_ok h.2 x hx
theorem noneIn_mem {t : Tr} : ∀ {l : List Nat}, noneIn t l = true → ∀ u ∈ l, inT t u = false
  | [], _, u, h => by simp at h
  | x :: l, h, u, hu => by
    simp only [noneIn, Bool.and_eq_true, Bool.not_eq_true'] at h
    rcases List.mem_cons.1 hu with rfl | hu
    · exact h.1
    · exact noneIn_mem h.2 u hu

structure GoodT (N : Nat) (t : Tr) : Prop where
  ts : ∀ u ∈ t.ts, u < t.fr
  le : t.fr ≤ t.nx
  part : StoLt t.fr t.part
  args : ArgLt t.fr t.args
  sto : ∀ {u : Nat} {b : Blk}, look t.S' u = some b → inT t u = true ∧ ∀ x ∈ b.toks, inT t x = true
  val : ∀ u ∈ t.v.toks, inT t u = true
  dst : dstOk N t.o.dst = true
  qt : t.quiet = true → t.nx = t.fr
theorem good_ok {N : Nat} {t : Tr} (h : t.good N = true) : GoodT N t := by
  simp only [Tr.good, Bool.and_eq_true, Bool.or_eq_true, Bool.not_eq_true'] at h
  obtain ⟨h1, h2, h3, h4, h5, h6, h7, h8⟩ := h
  exact ⟨allLt_mem h1, by simpa using h2, fun u b hb => stoLt_look h3 hb, argsLt_ok h4, stoIn_look h5, allIn_mem h6, h7, fun hq => by
    rcases h8 with h8 | h8
    · rw [hq] at h8; cases h8
    · simpa using h8⟩
theorem GoodT.lt {N : Nat} {t : Tr} (h : GoodT N t) {u : Nat} (hu : inT t u = true) : u < t.nx := by
  rcases inT_iff.1 hu with h1 | h1
  · exact Nat.lt_of_lt_of_le (h.ts u h1) h.le
  · exact h1.2

/-! ### A part of the operations, in order -/
def play (f : Nat → Bool) : List Tr → Nat → St → St
  | [], _, st => st
  | t :: l, i, st => play f l (i + 1) (bif f i then t.put st else st)

theorem play_congr {f g : Nat → Bool} : ∀ {L : List Tr} {n : Nat} {st : St}, (∀ j, j < L.length → f (n + j) = g (n + j)) → play f L n st = play g L n st
  | [], _, _, _ => rfl
  | t :: l, n, st, h => by
    simp only [play]
    rw [show f n = g n from h 0 (by simp)]
    refine play_congr fun j hj => ?_
    have := h (j + 1) (by simpa using hj)
    rwa [show n + 1 + j = n + (j + 1) by omega]
theorem play_args {f : Nat → Bool} : ∀ {L : List Tr} {n : Nat} {st : St}, (play f L n st).args = st.args
  | [], _, _ => rfl
  | t :: l, n, st => by
    simp only [play]
    rw [play_args]
    cases f n <;> rfl
theorem play_none {f : Nat → Bool} : ∀ {L : List Tr} {n : Nat} {st : St}, (∀ j, n ≤ j → f j = false) → play f L n st = st
  | [], _, _, _ => rfl
  | t :: l, n, st, h => by
    simp only [play]
    rw [h n (Nat.le_refl _)]
    exact play_none fun j hj => h j (by omega)
theorem play_succ : ∀ {L : List Tr} {n k : Nat} {st : St} {t : Tr}, L[k]? = some t → play (fun i => decide (i < n + k + 1)) L n st = t.put (play (fun i => decide (i < n + k)) L n st)
  | [], n, k, st, t, h => by simp at h
  | x :: l, n, 0, st, t, h => by
    simp only [List.getElem?_cons_zero, Option.some.injEq] at h
    subst h
    simp only [play]
    rw [play_none (fun j hj => by simp; omega), play_none (fun j hj => by simp; omega)]
    simp
  | x :: l, n, k + 1, st, t, h => by
    simp only [List.getElem?_cons_succ] at h
    simp only [play]
    have e1 : decide (n < n + (k + 1) + 1) = true := by simp; omega
    have e2 : decide (n < n + (k + 1)) = true := by simp
    rw [e1, e2]
    have := play_succ (n := n + 1) (st := x.put st) h
    rw [show n + 1 + k + 1 = n + (k + 1) + 1 by omega, show n + 1 + k = n + (k + 1) by omega] at this
    exact this

theorem put_env (t : Tr) (st : St) (i : Nat) : look (t.put st).env i = if t.o.dst = some i then some t.v else look st.env i := look_putE _ _ _ _

theorem play_env {i : Nat} {f g : Nat → Bool} : ∀ {L : List Tr} {n : Nat} {st st' : St}, (∀ j t, L[j]? = some t → t.o.dst = some i → f (n + j) = g (n + j)) → look st.env i = look st'.env i → look (play f L n st).env i = look (play g L n st').env i
  | [], _, _, _, _, h => h
  | t :: l, n, st, st', h, he => by
    simp only [play]
    refine play_env (fun j x hx hd => ?_) ?_
    · have := h (j + 1) x (by simpa using hx) hd
      rwa [show n + 1 + j = n + (j + 1) by omega]
    · by_cases hd : t.o.dst = some i
      · have := h 0 t rfl hd
        rw [Nat.add_zero] at this
        rw [this]
        cases g n
        · exact he
        · simp only [cond_true, put_env, if_pos hd]
      · have : ∀ (c : Bool) (s : St), look (bif c then t.put s else s).env i = look s.env i := by
          intro c s
          cases c
          · rfl
          · simp only [cond_true, put_env, if_neg hd]
        rw [this, this, he]

theorem put_sto {t : Tr} {st : St} {u : Nat} (hq : t.quiet = false) : look (t.put st).sto u = match (if memb t.ts u = true then none else look st.sto u) with | some x => some x | none => look t.S' u := by
  simp only [Tr.put, hq, cond_false, look_append, look_keep]
  cases memb t.ts u <;> simp <;> cases look st.sto u <;> rfl

theorem put_sto_ne {N : Nat} {t : Tr} (hg : GoodT N t) {st : St} {u : Nat} (h : t.quiet = true ∨ inT t u = false) : look (t.put st).sto u = look st.sto u := by
  cases hq : t.quiet with
  | true => simp only [Tr.put, hq, cond_true]
  | false =>
    have h : inT t u = false := h.resolve_left (by rw [hq]; simp)
    rw [put_sto hq]
    have hm : memb t.ts u = false := by
      cases hm : memb t.ts u with
      | false => rfl
      | true => rw [show inT t u = true by simp [inT, hm]] at h; cases h
    rw [hm]
    simp only [Bool.false_eq_true, if_false]
    cases hs : look st.sto u with
    | some x => rfl
    | none =>
      simp only
      cases hs' : look t.S' u with
      | none => rfl
      | some b => rw [(hg.sto hs').1] at h; cases h

theorem play_sto {N : Nat} {u : Nat} {f g : Nat → Bool} : ∀ {L : List Tr} {n : Nat} {st st' : St}, (∀ t ∈ L, GoodT N t) → (∀ j t, L[j]? = some t → t.quiet = false → inT t u = true → f (n + j) = g (n + j)) → look st.sto u = look st'.sto u → look (play f L n st).sto u = look (play g L n st').sto u
  | [], _, _, _, _, _, h => h
  | t :: l, n, st, st', hG, h, he => by
    simp only [play]
    refine play_sto (fun x hx => hG x (by simp [hx])) (fun j x hx hq hd => ?_) ?_
    · have := h (j + 1) x (by simpa using hx) hq hd
      rwa [show n + 1 + j = n + (j + 1) by omega]
    · by_cases hd : t.quiet = false ∧ inT t u = true
      · have := h 0 t rfl hd.1 hd.2
        rw [Nat.add_zero] at this
        rw [this]
        cases g n
        · exact he
        · simp only [cond_true, put_sto hd.1, he]
      · have hd' : t.quiet = true ∨ inT t u = false := by
          cases hq : t.quiet
          · right
            cases hi : inT t u
            · rfl
            · exact absurd ⟨hq, hi⟩ hd
          · exact .inl rfl
        have : ∀ (c : Bool) (s : St), look (bif c then t.put s else s).sto u = look s.sto u := by
          intro c s
          cases c
          · rfl
          · exact put_sto_ne (hG t (by simp)) hd'
        rw [this, this, he]

theorem play_src {f : Nat → Bool} {u : Nat} {z : Blk} : ∀ {L : List Tr} {n : Nat} {st : St}, look (play f L n st).sto u = some z → look st.sto u = some z ∨ ∃ j t, L[j]? = some t ∧ f (n + j) = true ∧ t.quiet = false ∧ look t.S' u = some z
  | [], _, _, h => .inl h
  | t :: l, n, st, h => by
    simp only [play] at h
    rcases play_src h with h1 | ⟨j, x, h1, h2, h3, h4⟩
    · cases hf : f n with
      | false => rw [hf] at h1; exact .inl h1
      | true =>
        rw [hf] at h1
        simp only [cond_true] at h1
        cases hq : t.quiet with
        | true => simp only [Tr.put, hq, cond_true] at h1; exact .inl h1
        | false =>
          rw [put_sto hq] at h1
          cases hm : memb t.ts u with
          | true =>
            rw [hm] at h1
            simp only [if_true] at h1
            exact .inr ⟨0, t, rfl, by simpa using hf, hq, h1⟩
          | false =>
            rw [hm] at h1
            simp only [Bool.false_eq_true, if_false] at h1
            cases hs : look st.sto u with
            | some x => rw [hs] at h1; exact .inl h1
            | none => rw [hs] at h1; exact .inr ⟨0, t, rfl, by simpa using hf, hq, h1⟩
    · exact .inr ⟨j + 1, x, by simpa using h1, by rwa [show n + (j + 1) = n + 1 + j by omega], h3, h4⟩

theorem play_srcE {f : Nat → Bool} {i : Nat} {v : AV} : ∀ {L : List Tr} {n : Nat} {st : St}, look (play f L n st).env i = some v → look st.env i = some v ∨ ∃ j t, L[j]? = some t ∧ f (n + j) = true ∧ v = t.v
  | [], _, _, h => .inl h
  | t :: l, n, st, h => by
    simp only [play] at h
    rcases play_srcE h with h1 | ⟨j, x, h1, h2, h3⟩
    · cases hf : f n with
      | false => rw [hf] at h1; exact .inl h1
      | true =>
        rw [hf] at h1
        simp only [cond_true, put_env] at h1
        split at h1
        · injection h1 with h1
          exact .inr ⟨0, t, rfl, by simpa using hf, h1.symm⟩
        · exact .inl h1
    · exact .inr ⟨j + 1, x, by simpa using h1, by rwa [show n + (j + 1) = n + 1 + j by omega], h3⟩
end Go.Ab
