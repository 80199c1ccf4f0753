/- The ground: blocks of package-level variables whose contents a proof may lean on. Here: none. -/
import Derived.Orders
import Derived.Deep.LoopGhost
import Derived.Laws.AppendOwn
import Derived.Laws.MakeOwn
import Derived.Laws.BytesArg
import Derived.Laws.BytesString
import Derived.KernelRfl
import Derived.Laws.IdiomCopy
import Derived.Laws.StructEq
import Derived.Laws.Cells
import Derived.Deep.AppendSrc
/-! The ground: none. -/
namespace Go.Ab
/-- The blocks, each with its cells. -/
def groundL : List (Nat × Array Value) := []
/-- Blocks that hold one number each. -/
def groundI : List Nat := []
end Go.Ab
/-! An abstract interpreter over the model's code: the definitions. Values are heap-free, or name rows and variables by numbers ('tokens') whose contents a store holds. -/
set_option linter.unusedVariables false
namespace Go.Ab

/-- The type of a piece of data that nobody writes any more. -/
inductive Ty where
  | int (k : IntKind)
  | bool
  | str
  | pair (a b : Ty)
  | slice (e : Ty)
  | ref (e : Ty)   -- a slice whose contents the heap of the state holds, by number
  deriving DecidableEq

@[reducible] def Ty.den : Ty → Type
  | .int _ => Int
  | .bool => Bool
  | .str => ByteArray
  | .pair a b => a.den × b.den
  | .slice e => List e.den
  | .ref _ => Nat

def Ty.size : Ty → Nat
  | .pair a b => a.size + b.size
  | _ => 1

/-- Does a slice of the heap occur in it? -/
def Ty.hasRef : Ty → Bool
  | .pair a b => a.hasRef || b.hasRef
  | .slice e => e.hasRef
  | .ref _ => true
  | _ => false

/-- A slice in the heap: no longer to be used; read only; one's own, with so much room at least. -/
inductive Kid (α : Type) where
  | dead
  | ro (xs : List α)
  | own (xs : List α) (c : Nat)
def kidAt {α : Type} (H : List (Kid α)) : Nat → Kid α
  | 0 => .ro []
  | j + 1 => match H[j]? with
    | some k => k
    | none => .dead
def kget {α : Type} (H : List (Kid α)) (id : Nat) : List α := match kidAt H id with
  | .ro xs => xs
  | .own xs _ => xs
  | .dead => []
/-- May be appended to: nil, or one's own. -/
def kown {α : Type} (H : List (Kid α)) : Nat → Bool
  | 0 => true
  | j + 1 => match H[j]? with
    | some (.own _ _) => true
    | _ => false
/-- Read only. -/
def kro {α : Type} (H : List (Kid α)) (id : Nat) : Bool := match kidAt H id with
  | .ro _ => true
  | _ => false
def kroom {α : Type} (H : List (Kid α)) (id : Nat) : Nat := match kidAt H id with
  | .own _ c => c
  | _ => 0
def kkill {α : Type} (H : List (Kid α)) : Nat → List (Kid α)
  | 0 => H
  | j + 1 => H.set j .dead
/-- What is behind the first n elements turned: a new slice; the old one is gone. -/
def kapp {α : Type} (H : List (Kid α)) (id n : Nat) (ys : List α) : List (Kid α) :=
  kkill H id ++ [.own ((kget H id).take n ++ ys) (max (kroom H id) (n + ys.length))]
inductive NilK where
  | ptr | fn | iface | map
  deriving DecidableEq

def NilK.val : NilK → Value
  | .ptr => .pointer none
  | .fn => .nilFunc
  | .iface => .nilIface
  | .map => .map none

/-- What one cell holds. -/
inductive C where
  | int (k : IntKind) (n : Int)
  | bool (b : Bool)
  | str (s : ByteArray)
  | ro (e : Ty) (xs : List e.den)
  | emp
  | own (t : Nat)
  | ptr (t off : Nat)
  | eptr (t : Nat) (i : Int) (fo : Nat)
  | aptr (t off n : Nat) (i : Int)
  | rptr (e : Ty) (x : e.den) (fo : Nat)
  | fn (f : Nat) (caps : List Nat)
  | nil (k : NilK)
  | ref (e : Ty) (id : Nat)
  | hptr (e : Ty) (id : Nat) (i : Int) (fo : Nat)
  | hview (e : Ty) (id : Nat) (lo hi : Int)
  | mref (t : Nat)
  | kids (e : Ty) (H : List (Kid e.den))   -- never a value; a heap's place in shapes
  | emp0   -- a slice without elements and without room
  | dead

inductive V1 where
  | one (c : C)
  | agg (cs : List C)

inductive AV where
  | v (x : V1)
  | tup (l : List V1)
  | undef

@[reducible] def one (c : C) : AV := .v (.one c)
@[reducible] def aggr (cs : List C) : AV := .v (.agg cs)

/-- How a row lies: as made; with the mark that []byte(s) lays behind its last cell; no longer written by anybody. -/
inductive RowK where
  | plain | mark | frz
  deriving DecidableEq

/-- A block: a variable's cells; or a row of which one slice, from its first element on, is the only way in. -/
inductive Blk where
  | var (E : Nat) (cs : List C)
  | row (E : Nat) (e : Ty) (m : RowK) (xs : List e.den)
  | heap (E : Nat) (e : Ty) (H : List (Kid e.den))
  | smap (l : List (ByteArray × Bool))

abbrev Store := List (Nat × Blk)
abbrev Env := List (Nat × AV)

def look {α : Type} : List (Nat × α) → Nat → Option α
  | [], _ => none
  | p :: l, j => bif Nat.beq p.1 j then some p.2 else look l j

def upd {α : Type} : List (Nat × α) → Nat → α → List (Nat × α)
  | [], j, x => [(j, x)]
  | p :: l, j, x => bif Nat.beq p.1 j then (j, x) :: l else p :: upd l j x

def memb : List Nat → Nat → Bool
  | [], _ => false
  | i :: l, j => bif Nat.beq i j then true else memb l j

def keep {α : Type} (f : Nat → Bool) : List (Nat × α) → List (Nat × α)
  | [] => []
  | p :: l => bif f p.1 then p :: keep f l else keep f l

/-- A state; 'args': what has become of the tokens that were handed in. -/
structure St where
  env : Env
  sto : Store
  nxt : Nat
  args : List (Option Nat)

/-! ### Data laid out, and put together -/
def Ty.explode : (t : Ty) → t.den → List C
  | .int k, x => [.int k x]
  | .bool, x => [.bool x]
  | .str, x => [.str x]
  | .pair a b, x => a.explode x.1 ++ b.explode x.2
  | .slice e, x => [.ro e x]
  | .ref e, x => [.ref e x]

def Ty.implode : (t : Ty) → List C → Option (t.den × List C)
  | .int k, l => match l with
    | .int k' n :: l => if k = k' then some (n, l) else none
    | _ => none
  | .bool, l => match l with
    | .bool b :: l => some (b, l)
    | _ => none
  | .str, l => match l with
    | .str s :: l => some (s, l)
    | _ => none
  | .slice e, l => match l with
    | .ro e' xs :: l => if h : e' = e then some (cast (congrArg (fun z => List (Ty.den z)) h) xs, l) else none
    | .emp :: l => some ([], l)
    | .emp0 :: l => some ([], l)
    | _ => none
  | .ref e, l => match l with
    | .ref e' id :: l => if e' = e then some (id, l) else none
    | .emp :: l => some ((0 : Nat), l)
    | _ => none
  | .pair a b, l =>
    match a.implode l with
    | some (x, l') => match b.implode l' with
      | some (y, l'') => some ((x, y), l'')
      | none => none
    | none => none

def Ty.whole (t : Ty) (l : List C) : Option t.den :=
  match t.implode l with
  | some (x, []) => some x
  | _ => none

def V1.cells : V1 → List C
  | .one c => [c]
  | .agg cs => cs

def C.toks : C → List Nat
  | .own t | .ptr t _ | .eptr t _ _ | .aptr t _ _ _ | .mref t => [t]
  | .fn _ caps => caps
  | _ => []
def V1.toks (x : V1) : List Nat := x.cells.flatMap C.toks
def AV.toks : AV → List Nat
  | .v x => x.toks
  | .tup l => l.flatMap V1.toks
  | .undef => []
def Blk.toks : Blk → List Nat
  | .var _ cs => cs.flatMap C.toks
  | .row .. => []
  | .heap .. => []
  | .smap _ => []

/-! ### The heap of a state -/
def C.refd : C → Bool
  | .ref .. | .hptr .. | .hview .. => true
  | .ro e _ => e.hasRef
  | .rptr e _ _ => e.hasRef
  | _ => false
def anyRef : List C → Bool
  | [] => false
  | c :: l => c.refd || anyRef l
def V1.refd (x : V1) : Bool := anyRef x.cells
def anyRefV : List V1 → Bool
  | [] => false
  | x :: l => x.refd || anyRefV l
def AV.refd : AV → Bool
  | .v x => x.refd
  | .tup l => anyRefV l
  | .undef => false
def anyRefA : List AV → Bool
  | [] => false
  | x :: l => x.refd || anyRefA l
def Blk.refd : Blk → Bool
  | .var _ cs => anyRef cs
  | .row _ e _ _ => e.hasRef
  | .heap _ e _ => e.hasRef
  | .smap _ => false
def Blk.isHeap : Blk → Bool
  | .heap .. => true
  | _ => false
def rawNo : Store → Bool
  | [] => true
  | (_, b) :: l => !b.isHeap && rawNo l
def heapTokL (S : Store) : Store → Option Nat
  | [] => none
  | (t, _) :: l => match look S t with
    | some b => bif b.isHeap then some t else heapTokL S l
    | none => heapTokL S l
/-- The heap's token. -/
def heapTok (S : Store) : Option Nat := bif rawNo S then none else heapTokL S S
def noHeap (S : Store) : Bool := match heapTok S with
  | none => true
  | some _ => false
/-- Does what is met lean on the heap? -/
def refdToks (S : Store) : List Nat → Bool
  | [] => false
  | t :: l => (match look S t with
    | some b => b.refd
    | none => false) || refdToks S l
def addHeap (S : Store) (ts : List Nat) : List Nat := match heapTok S with
  | some h => bif memb ts h then ts else ts ++ [h]
  | none => ts

/-- The tokens that values lead to, in the order in which they are met. -/
def reachGo (S : Store) : Nat → List Nat → List Nat → List Nat
  | 0, _, acc => acc
  | _ + 1, [], acc => acc
  | n + 1, t :: todo, acc =>
    bif memb acc t then reachGo S n todo acc else
    match look S t with
    | some b => reachGo S n (todo ++ b.toks) (acc ++ [t])
    | none => reachGo S n todo acc
def reach (S : Store) (l : List AV) : List Nat :=
  let ts := reachGo S 200 (l.flatMap AV.toks) []
  bif noHeap S then ts else bif anyRefA l || refdToks S ts then addHeap S ts else ts

/-! ### Names of tokens turned -/
def idxOf : List Nat → Nat → Nat → Option Nat
  | [], _, _ => none
  | i :: l, t, n => bif Nat.beq i t then some n else idxOf l t (n + 1)

def C.ren (f : Nat → Option Nat) : C → C
  | .own t => match f t with | some u => .own u | none => .dead
  | .ptr t o => match f t with | some u => .ptr u o | none => .dead
  | .eptr t i o => match f t with | some u => .eptr u i o | none => .dead
  | .aptr t o n i => match f t with | some u => .aptr u o n i | none => .dead
  | .mref t => match f t with | some u => .mref u | none => .dead
  | .fn g caps => match caps.mapM f with | some l => .fn g l | none => .dead
  | c => c
def V1.ren (f : Nat → Option Nat) : V1 → V1
  | .one c => .one (c.ren f)
  | .agg cs => .agg (cs.map (C.ren f))
def AV.ren (f : Nat → Option Nat) : AV → AV
  | .v x => .v (x.ren f)
  | .tup l => .tup (l.map (V1.ren f))
  | .undef => .undef
def Blk.ren (f : Nat → Option Nat) : Blk → Blk
  | .var E cs => .var E (cs.map (C.ren f))
  | b => b

/-! ### Types -/
/-! ### The heap at a function's end -/
def Kid.frz {α : Type} : Kid α → Kid α
  | .own xs _ => .ro xs
  | k => k
/-! ### What an operation comes to -/
inductive Res : Type 1 where
  | ok (v : AV) (S : Store)
  | chk (c : Bool) (v : AV) (S : Store)
  | call (R : Type) (m : Option R) (f : R → AV × Store)
  | fail

abbrev Table := List (Nat × (List AV → Store → Res))

def lookT (T : Table) (f : Nat) (args : List AV) (S : Store) : Res :=
  match T with
  | [] => .fail
  | p :: l => bif Nat.beq p.1 f then p.2 args S else lookT l f args S

def cellConst : Value → C
  | .int k n => .int k n
  | .bool b => .bool b
  | .string s => .str s
  | .slice none 0 0 => .emp
  | .pointer none => .nil .ptr
  | .nilFunc => .nil .fn
  | .nilIface => .nil .iface
  | .map none => .nil .map
  | _ => .dead
def constV : Value → AV
  | .agg cs => aggr (cs.toList.map cellConst)
  | .tuple _ => .undef
  | v => one (cellConst v)

def evalA (env : Env) : Operand → AV
  | .tmp t => match look env t with | some v => v | none => .undef
  | .const v => constV v
  | .func f => one (.fn f [])
  | .global _ => .undef

def bt (s : ByteArray) (i : Int) : Int := if h : i.toNat < s.size then ((s[i.toNat]'h).toNat : Int) else 0
def strEq (x y : ByteArray) : Bool := x.toList == y.toList
def bits (op : BinOp) (k : IntKind) (x y : Int) : Int :=
  let a := BitVec.ofInt k.bits x
  let b := BitVec.ofInt k.bits y
  match op with
  | .and => k.wrap (a &&& b).toNat
  | .or => k.wrap (a ||| b).toNat
  | .xor => k.wrap (a ^^^ b).toNat
  | _ => k.wrap (a &&& ~~~b).toNat
def shlI (k : IntKind) (x y : Int) : Int := k.wrap (x * 2 ^ (min y.toNat k.bits))
def shrI (k : IntKind) (x y : Int) : Int := x.fdiv (2 ^ (min y.toNat k.bits))
def bytesOf (s : ByteArray) : List Int := s.data.toList.map fun b => (b.toNat : Int)

/-- What a slice reads as. -/
structure Seq where
  e : Ty
  xs : List e.den
def sliceBds (lo hi n : Int) : Bool := decide (0 ≤ lo) && (decide (lo ≤ hi) && decide (hi ≤ n))
def mxI (x y : Int) : Int := if y > x then y else x
def mnI (x y : Int) : Int := if y < x then y else x
/-- A token of a callee, told as the caller's. -/
def backTok (ts : List Nat) (fr : Nat) (t : Nat) : Option Nat :=
  match ts[t]? with
  | some u => some u
  | none => some (fr + (t - ts.length))
def renSto (ts : List Nat) (f : Nat → Option Nat) (S : Store) : List Nat → Nat → Store
  | [], _ => []
  | t :: l, n => match look S t with
    | some b => (n, b.ren f) :: renSto ts f S l (n + 1)
    | none => renSto ts f S l (n + 1)
def backSto (g : Nat → Option Nat) : Store → Store
  | [] => []
  | (t, b) :: l => match g t with
    | some u => (u, b.ren g) :: backSto g l
    | none => backSto g l

/-! ### Maps of strings to truth values -/
def smapGet : List (ByteArray × Bool) → ByteArray → Bool
  | [], _ => false
  | p :: l, k => bif k == p.1 then p.2 else smapGet l k
def smapPut : List (ByteArray × Bool) → ByteArray → Bool → List (ByteArray × Bool)
  | [], k, b => [(k, b)]
  | p :: l, k, b => bif k == p.1 then (k, b) :: l else p :: smapPut l k b
/-! ### Rows that are no longer written -/
def freezeC (S : Store) : C → C × Store
  | .own t => match look S t with
    | some (.row E e _ xs) => (.ro e xs, upd S t (.row E e .frz xs))
    | _ => (.dead, S)
  | c => (c, S)
def freezeCs (S : Store) : List C → List C × Store
  | [] => ([], S)
  | c :: cs => ((freezeC S c).1 :: (freezeCs (freezeC S c).2 cs).1, (freezeCs (freezeC S c).2 cs).2)
def frzA (S : Store) : AV → AV × Store
  | .v (.one c) => (.v (.one (freezeC S c).1), (freezeC S c).2)
  | .v (.agg cs) => (.v (.agg (freezeCs S cs).1), (freezeCs S cs).2)
  | v => (v, S)
def frzAs (S : Store) : List AV → List AV × Store
  | [] => ([], S)
  | v :: vs => ((frzA S v).1 :: (frzAs (frzA S v).2 vs).1, (frzAs (frzA S v).2 vs).2)

/-! ### Code -/
inductive X where
  | normal
  | exit (id : Nat)
  | ret

/-- What is kept where code is come to again: the slots, and those empty slices that are taken for rows of one's own. -/
structure Note where
  slots : List Nat
  proms : List (Nat × Nat × Ty)

def promote : List (Nat × Nat × Ty) → St → St
  | [], st => st
  | (i, E, e) :: l, st => match look st.env i with
    | some (.v (.one .emp)) => promote l { env := upd st.env i (one (.own st.nxt)), sto := st.sto ++ [(st.nxt, .row E e .plain [])], nxt := st.nxt + 1, args := st.args }
    | _ => promote l st

def slotsOf (env : Env) : List Nat → Env
  | [] => []
  | i :: l => match look env i with
    | some v => (i, v) :: slotsOf env l
    | none => slotsOf env l
def renEnv (f : Nat → Option Nat) : Env → Env
  | [] => []
  | (i, v) :: l => (i, v.ren f) :: renEnv f l
def valsOf : Env → List AV
  | [] => []
  | (_, v) :: l => v :: valsOf l

def argVals : List (Option Nat) → List AV
  | [] => []
  | some t :: l => one (.ptr t 0) :: argVals l
  | none :: l => argVals l
def renArgs (f : Nat → Option Nat) : List (Option Nat) → List (Option Nat)
  | [] => []
  | some t :: l => f t :: renArgs f l
  | none :: l => none :: renArgs f l
def normSlots (slots : List Nat) (st : St) : St :=
  let e := slotsOf st.env slots
  let ts := addHeap st.sto (reach st.sto (argVals st.args ++ valsOf e))
  let σ := fun t => idxOf ts t 0
  { env := renEnv σ e, sto := renSto ts σ st.sto ts 0, nxt := ts.length, args := renArgs σ st.args }
def norm (n : Note) (st : St) : St := normSlots n.slots (promote n.proms st)

def dstOk (N : Nat) : Option Nat → Bool
  | some d => Nat.blt d N
  | none => true
def putE (env : Env) (dst : Option Nat) (v : AV) : Env := match dst with
  | some d => upd env d v
  | none => env

section
variable {R : Type}

end
end Go.Ab
/-! What abstract values stand for, and that it lasts. -/
set_option linter.unusedVariables false
namespace Go.Ab

def All2 {α β : Type} (R : α → β → Prop) : List α → List β → Prop
  | [], [] => True
  | a :: l, b :: m => R a b ∧ All2 R l m
  | _, _ => False

theorem All2.length {α β : Type} {R : α → β → Prop} : ∀ {l : List α} {m : List β}, All2 R l m → l.length = m.length
  | [], [], _ => rfl
  | _ :: l, _ :: m, h => by simp [All2.length h.2]
  | [], _ :: _, h => h.elim
  | _ :: _, [], h => h.elim
theorem All2.imp {α β : Type} {R R' : α → β → Prop} : ∀ {l : List α} {m : List β}, All2 R l m → (∀ a ∈ l, ∀ b, R a b → R' a b) → All2 R' l m
  | [], [], _, _ => trivial
  | a :: l, b :: m, h, f => ⟨f a (by simp) b h.1, All2.imp h.2 fun x hx => f x (by simp [hx])⟩
  | [], _ :: _, h, _ => h.elim
  | _ :: _, [], h, _ => h.elim
theorem All2.append {α β : Type} {R : α → β → Prop} : ∀ {l : List α} {m : List β} {l' : List α} {m' : List β}, All2 R l m → All2 R l' m' → All2 R (l ++ l') (m ++ m')
  | [], [], _, _, _, h' => h'
  | _ :: l, _ :: m, _, _, h, h' => ⟨h.1, All2.append h.2 h'⟩
  | [], _ :: _, _, _, h, _ => h.elim
  | _ :: _, [], _, _, h, _ => h.elim
theorem All2.take {α β : Type} {R : α → β → Prop} : ∀ (n : Nat) {l : List α} {m : List β}, All2 R l m → All2 R (l.take n) (m.take n)
  | 0, _, _, _ => by simp [All2]
  | n + 1, [], [], _ => by simp [All2]
  | n + 1, _ :: l, _ :: m, h => by simpa [All2] using ⟨h.1, All2.take n h.2⟩
  | _ + 1, [], _ :: _, h => h.elim
  | _ + 1, _ :: _, [], h => h.elim
theorem All2.drop {α β : Type} {R : α → β → Prop} : ∀ (n : Nat) {l : List α} {m : List β}, All2 R l m → All2 R (l.drop n) (m.drop n)
  | 0, _, _, h => by simpa using h
  | n + 1, [], [], _ => by simp [All2]
  | n + 1, _ :: l, _ :: m, h => by simpa using All2.drop n h.2
  | _ + 1, [], _ :: _, h => h.elim
  | _ + 1, _ :: _, [], h => h.elim
theorem All2.map_left {α α' β : Type} {R : α → β → Prop} {R' : α' → β → Prop} {f : α → α'} : ∀ {l : List α} {m : List β}, All2 R l m → (∀ a ∈ l, ∀ b, R a b → R' (f a) b) → All2 R' (l.map f) m
  | [], [], _, _ => trivial
  | a :: l, b :: m, h, g => ⟨g a (by simp) b h.1, All2.map_left h.2 fun x hx => g x (by simp [hx])⟩
  | [], _ :: _, h, _ => h.elim
  | _ :: _, [], h, _ => h.elim

/-- Where a token's block lies. -/
structure G where
  blk : Option Nat
  len : Nat
  cap : Nat
  sz : Nat
  nl : Option Addr   -- where an empty row without a block points to
def G.val (g : G) : Value := match g.blk with
  | some b => .slice (some ⟨b, 0, none⟩) g.len g.cap
  | none => .slice g.nl 0 0

/-- A slice's value. -/
structure SlV where
  A : Option Addr
  n : Nat
  cap : Nat
def SlV.val (s : SlV) : Value := .slice s.A s.n s.cap
def G.sl (g : G) : SlV := match g.blk with
  | some b => ⟨some ⟨b, 0, none⟩, g.len, g.cap⟩
  | none => ⟨none, 0, 0⟩
/-- The blocks that nobody writes; and the values of the slices of the heap, by their numbers. -/
structure FK where
  on : Nat → Prop
  kid : Nat → Option SlV
instance : CoeFun FK (fun _ => Nat → Prop) := ⟨FK.on⟩
def FK.kidv (F : FK) : Nat → Value → Prop
  | 0, v => v = .slice none 0 0
  | j + 1, v => ∃ s, F.kid j = some s ∧ v = s.val
structure FK.Le (F F' : FK) : Prop where
  on : ∀ b, F b → F' b
  kid : ∀ j s, F.kid j = some s → F'.kid j = some s
instance {F F' : FK} : CoeFun (FK.Le F F') (fun _ => ∀ b, F b → F' b) := ⟨FK.Le.on⟩
theorem FK.Le.refl (F : FK) : FK.Le F F := ⟨fun _ h => h, fun _ _ h => h⟩
theorem FK.Le.trans {F F' F'' : FK} (h : FK.Le F F') (h' : FK.Le F' F'') : FK.Le F F'' := ⟨fun b hb => h'.on b (h.on b hb), fun j s hs => h'.kid j s (h.kid j s hs)⟩
theorem FK.Le.kidv {F F' : FK} (h : FK.Le F F') : ∀ {id : Nat} {v : Value}, F.kidv id v → F'.kidv id v
  | 0, _, hv => hv
  | j + 1, _, ⟨s, h1, h2⟩ => ⟨s, h.kid j s h1, h2⟩
/-- All blocks below a number. -/
def FK.below (n : Nat) : FK := ⟨fun b => b < n, fun _ => none⟩
/-- The same blocks, other slices of the heap. -/
def FK.with (F : FK) (k : Nat → Option SlV) : FK := ⟨F.on, k⟩

section
variable (F : FK) (w : World)

/-- A slice that is read. -/
def RoSl {α : Type} (R : α → List Value → Prop) (sz : Nat) (xs : List α) (v : Value) : Prop :=
  ∃ A n cap, v = .slice A n cap ∧ xs.length = n ∧ n ≤ cap ∧
    (0 < n → ∃ a : Addr, A = some a ∧ a.spot = none ∧ F a.block ∧ ∀ i x, xs[i]? = some x → ∃ l, R x l ∧ l.length = sz ∧ ∀ j v, l[j]? = some v → w.cell? ⟨a.block, a.off + (i * sz + j), none⟩ = some v)

def RepD : (t : Ty) → t.den → List Value → Prop
  | .int k, x, l => l = [.int k x]
  | .bool, x, l => l = [.bool x]
  | .str, x, l => l = [.string x]
  | .pair a b, x, l => ∃ l1 l2, l = l1 ++ l2 ∧ RepD a x.1 l1 ∧ RepD b x.2 l2
  | .slice e, xs, l => ∃ v, l = [v] ∧ RoSl F w (RepD e) e.size xs v
  | .ref _, id, l => ∃ v, l = [v] ∧ F.kidv id v

def Flat (e : Ty) : List e.den → List Value → Prop
  | [], l => l = []
  | x :: xs, l => ∃ l1 l2, l = l1 ++ l2 ∧ RepD F w e x l1 ∧ Flat e xs l2
end

theorem RepD.length {F : FK} {w : World} : ∀ {t : Ty} {x : t.den} {l : List Value}, RepD F w t x l → l.length = t.size
  | .int _, _, _, h => by simp only [RepD] at h; subst h; rfl
  | .bool, _, _, h => by simp only [RepD] at h; subst h; rfl
  | .str, _, _, h => by simp only [RepD] at h; subst h; rfl
  | .pair a b, _, _, h => by
    simp only [RepD] at h
    obtain ⟨l1, l2, rfl, h1, h2⟩ := h
    simp [Ty.size, RepD.length h1, RepD.length h2]
  | .slice e, _, _, h => by
    simp only [RepD] at h
    obtain ⟨v, rfl, _⟩ := h
    rfl
  | .ref e, _, _, h => by
    simp only [RepD] at h
    obtain ⟨v, rfl, _⟩ := h
    rfl

theorem Flat.length {F : FK} {w : World} {e : Ty} : ∀ {xs : List e.den} {l : List Value}, Flat F w e xs l → l.length = xs.length * e.size
  | [], _, h => by simp only [Flat] at h; subst h; simp
  | x :: xs, _, h => by
    simp only [Flat] at h
    obtain ⟨l1, l2, rfl, h1, h2⟩ := h
    simp [RepD.length h1, Flat.length h2, Nat.add_mul, Nat.add_comm]

theorem Flat.append {F : FK} {w : World} {e : Ty} : ∀ {xs ys : List e.den} {l m : List Value}, Flat F w e xs l → Flat F w e ys m → Flat F w e (xs ++ ys) (l ++ m)
  | [], _, _, _, h, h' => by simp only [Flat] at h; subst h; simpa using h'
  | x :: xs, _, _, _, h, h' => by
    simp only [Flat] at h
    obtain ⟨l1, l2, rfl, h1, h2⟩ := h
    exact ⟨l1, _, List.append_assoc .., h1, Flat.append h2 h'⟩

/-- An element's cells in the whole. -/
theorem Flat.at {F : FK} {w : World} {e : Ty} : ∀ {xs : List e.den} {l : List Value}, Flat F w e xs l → ∀ i x, xs[i]? = some x →
    ∃ m, RepD F w e x m ∧ ∀ j v, m[j]? = some v → l[i * e.size + j]? = some v
  | [], _, _, i, x, hx => by simp at hx
  | y :: xs, _, h, 0, x, hx => by
    simp only [Flat] at h
    obtain ⟨l1, l2, rfl, h1, h2⟩ := h
    simp at hx
    subst hx
    refine ⟨l1, h1, fun j v hv => ?_⟩
    have hj : j < l1.length := (List.getElem?_eq_some_iff.1 hv).1
    simpa [List.getElem?_append_left hj] using hv
  | y :: xs, _, h, i + 1, x, hx => by
    simp only [Flat] at h
    obtain ⟨l1, l2, rfl, h1, h2⟩ := h
    obtain ⟨m, hm, hl⟩ := Flat.at h2 i x (by simpa using hx)
    refine ⟨m, hm, fun j v hv => ?_⟩
    have := hl j v hv
    rw [List.getElem?_append_right (by rw [RepD.length h1, Nat.add_mul]; omega), RepD.length h1, ← this]
    congr 1
    rw [Nat.add_mul]
    omega

theorem Flat.take {F : FK} {w : World} {e : Ty} : ∀ (n : Nat) {xs : List e.den} {l : List Value}, Flat F w e xs l → Flat F w e (xs.take n) (l.take (n * e.size))
  | 0, _, _, _ => by simp [Flat]
  | n + 1, [], _, h => by simp only [Flat] at h; subst h; simp [Flat]
  | n + 1, x :: xs, _, h => by
    simp only [Flat] at h
    obtain ⟨l1, l2, rfl, h1, h2⟩ := h
    refine ⟨l1, l2.take (n * e.size), ?_, h1, Flat.take n h2⟩
    rw [List.take_append, RepD.length h1, List.take_of_length_le (by rw [RepD.length h1, Nat.add_mul]; omega)]
    congr 2
    rw [Nat.add_mul]
    omega

/-- An element turned. -/
theorem Flat.set {F : FK} {w : World} {e : Ty} : ∀ {xs : List e.den} {l : List Value}, Flat F w e xs l → ∀ (i : Nat) (y : e.den) (m : List Value), i < xs.length → RepD F w e y m →
    Flat F w e (xs.set i y) (l.take (i * e.size) ++ m ++ l.drop (i * e.size + e.size))
  | [], _, _, i, y, m, hi, _ => by simp at hi
  | x :: xs, _, h, 0, y, m, _, hm => by
    simp only [Flat] at h
    obtain ⟨l1, l2, rfl, h1, h2⟩ := h
    refine ⟨m, l2, ?_, hm, h2⟩
    have := RepD.length h1
    simp [List.drop_left' this]
  | x :: xs, _, h, i + 1, y, m, hi, hm => by
    simp only [Flat] at h
    obtain ⟨l1, l2, rfl, h1, h2⟩ := h
    refine ⟨l1, _, ?_, h1, Flat.set h2 i y m (by simpa using hi) hm⟩
    have h3 := RepD.length h1
    have e1 : (i + 1) * e.size = e.size + i * e.size := by rw [Nat.add_mul]; omega
    rw [e1, List.take_append, h3, List.take_of_length_le (by omega), List.drop_append, h3, List.drop_of_length_le (by omega)]
    simp only [List.nil_append, List.append_assoc]
    congr 3
    · congr 1; omega
    · congr 1; omega

/-! ### That data last -/
structure Lasts (F F' : FK) (w w' : World) : Prop where
  sub : FK.Le F F'
  heap : ∀ b, F b → w'.heap[b]? = w.heap[b]?
theorem Lasts.refl (F : FK) (w : World) : Lasts F F w w := ⟨FK.Le.refl F, fun _ _ => rfl⟩

theorem RoSl.lasts {α : Type} {R R' : α → List Value → Prop} {F F' : FK} {w w' : World} {sz : Nat} {xs : List α} {v : Value} (h : RoSl F w R sz xs v) (hl : Lasts F F' w w')
    (hR : ∀ x l, R x l → R' x l) : RoSl F' w' R' sz xs v := by
  obtain ⟨A, n, cap, hv, hn, hc, h⟩ := h
  refine ⟨A, n, cap, hv, hn, hc, fun h0 => ?_⟩
  obtain ⟨a, hA, hs, hF, h⟩ := h h0
  refine ⟨a, hA, hs, hl.sub _ hF, fun i x hx => ?_⟩
  obtain ⟨l, h1, h2, h3⟩ := h i x hx
  exact ⟨l, hR _ _ h1, h2, fun j v hv => (World.cell?_of_block (a := ⟨a.block, a.off + (i * sz + j), none⟩) (hl.heap _ hF)).trans (h3 j v hv)⟩

theorem RepD.lasts {F F' : FK} {w w' : World} (hl : Lasts F F' w w') : ∀ {t : Ty} {x : t.den} {l : List Value}, RepD F w t x l → RepD F' w' t x l
  | .int _, _, _, h => h
  | .bool, _, _, h => h
  | .str, _, _, h => h
  | .pair a b, _, _, h => by
    simp only [RepD] at h ⊢
    obtain ⟨l1, l2, rfl, h1, h2⟩ := h
    exact ⟨l1, l2, rfl, RepD.lasts hl h1, RepD.lasts hl h2⟩
  | .slice e, _, _, h => by
    simp only [RepD] at h ⊢
    obtain ⟨v, rfl, h⟩ := h
    exact ⟨v, rfl, h.lasts hl fun x l => RepD.lasts hl⟩
  | .ref e, _, _, h => by
    simp only [RepD] at h ⊢
    obtain ⟨v, rfl, h⟩ := h
    exact ⟨v, rfl, hl.sub.kidv h⟩
theorem Flat.lasts {F F' : FK} {w w' : World} (hl : Lasts F F' w w') {e : Ty} : ∀ {xs : List e.den} {l : List Value}, Flat F w e xs l → Flat F' w' e xs l
  | [], _, h => h
  | _ :: _, _, h => by
    simp only [Flat] at h ⊢
    obtain ⟨l1, l2, rfl, h1, h2⟩ := h
    exact ⟨l1, l2, rfl, h1.lasts hl, Flat.lasts hl h2⟩

/-! ### Values -/
section
variable (γ : Nat → G) (F : FK) (w : World)

def RepC : C → Value → Prop
  | .int k n, v => v = .int k n
  | .bool b, v => v = .bool b
  | .str s, v => v = .string s
  | .ro e xs, v => RoSl F w (RepD F w e) e.size xs v
  | .emp, v => v = .slice none 0 0
  | .own t, v => v = (γ t).val
  | .ptr t off, v => ∃ b, (γ t).blk = some b ∧ v = .pointer (some ⟨b, off, none⟩)
  | .eptr t i fo, v => ∃ b, (γ t).blk = some b ∧ 0 ≤ i ∧ i.toNat < (γ t).len ∧ v = .pointer (some ⟨b, i.toNat * (γ t).sz + fo, none⟩)
  | .aptr t off n i, v => ∃ b, (γ t).blk = some b ∧ 0 ≤ i ∧ i.toNat < n ∧ v = .pointer (some ⟨b, off + i.toNat, none⟩)
  | .rptr e x fo, v => ∃ (a : Addr) (l : List Value), F a.block ∧ RepD F w e x l ∧ (∀ j u, l[j]? = some u → w.cell? ⟨a.block, a.off + j, none⟩ = some u) ∧ v = .pointer (some ⟨a.block, a.off + fo, none⟩)
  | .fn f caps, v => ∃ bs : List Nat, v = .func (.func f) #[] (bs.map fun b => Value.pointer (some ⟨b, 0, none⟩)).toArray ∧ All2 (fun t b => (γ t).blk = some b) caps bs
  | .nil k, v => v = k.val
  | .ref _ id, v => F.kidv id v
  | .hptr e id i fo, v => ∃ j b o n c, id = j + 1 ∧ F.kid j = some ⟨some ⟨b, o, none⟩, n, c⟩ ∧ 0 ≤ i ∧ i.toNat < n ∧ v = .pointer (some ⟨b, o + i.toNat * e.size + fo, none⟩)
  | .hview e id lo hi, v => ∃ j s, id = j + 1 ∧ F.kid j = some s ∧ 0 ≤ lo ∧ lo ≤ hi ∧ hi ≤ s.cap ∧ v = .slice (if s.cap = lo.toNat then s.A else s.A.map (·.add (lo.toNat * e.size))) (hi.toNat - lo.toNat) (s.cap - lo.toNat)
  | .mref t, v => ∃ b, (γ t).blk = some b ∧ v = .map (some b)
  | .kids _ _, _ => True
  | .emp0, v => ∃ A, v = .slice A 0 0
  | .dead, _ => True

def RepV : V1 → Value → Prop
  | .one c, v => RepC γ F w c v
  | .agg cs, v => ∃ l : List Value, v = .agg l.toArray ∧ All2 (RepC γ F w) cs l

def RepA : AV → Value → Prop
  | .v x, v => RepV γ F w x v
  | .tup l, v => ∃ vs : List Value, v = .tuple vs.toArray ∧ All2 (RepV γ F w) l vs
  | .undef, _ => True
end

theorem RepC.lasts {γ γ' : Nat → G} {F F' : FK} {w w' : World} (hl : Lasts F F' w w') {c : C} {v : Value} (hγ : ∀ t ∈ c.toks, γ' t = γ t) (h : RepC γ F w c v) : RepC γ' F' w' c v := by
  cases c with
  | ro e xs => exact RoSl.lasts h hl fun x l => RepD.lasts hl
  | own t => simp only [RepC] at h ⊢; rw [hγ t (by simp [C.toks])]; exact h
  | ptr t off => simp only [RepC] at h ⊢; rw [hγ t (by simp [C.toks])]; exact h
  | eptr t i fo => simp only [RepC] at h ⊢; rw [hγ t (by simp [C.toks])]; exact h
  | aptr t off n i => simp only [RepC] at h ⊢; rw [hγ t (by simp [C.toks])]; exact h
  | rptr e x fo =>
    obtain ⟨a, l, h1, h2, h3, h4⟩ := h
    exact ⟨a, l, hl.sub _ h1, h2.lasts hl, fun j u hu => (World.cell?_of_block (a := ⟨a.block, a.off + j, none⟩) (hl.heap _ h1)).trans (h3 j u hu), h4⟩
  | fn f caps =>
    obtain ⟨bs, h1, h2⟩ := h
    exact ⟨bs, h1, h2.imp fun t ht b hb => by rw [hγ t (by simpa [C.toks] using ht)]; exact hb⟩
  | ref e id => exact hl.sub.kidv h
  | hptr e id i fo =>
    obtain ⟨j, b, o, n, c, h1, h2, h3⟩ := h
    exact ⟨j, b, o, n, c, h1, hl.sub.kid _ _ h2, h3⟩
  | hview e id lo hi =>
    obtain ⟨j, s, h1, h2, h3⟩ := h
    exact ⟨j, s, h1, hl.sub.kid _ _ h2, h3⟩
  | mref t => simp only [RepC] at h ⊢; rw [hγ t (by simp [C.toks])]; exact h
  | _ => exact h

theorem RepCs.lasts {γ γ' : Nat → G} {F F' : FK} {w w' : World} (hl : Lasts F F' w w') {cs : List C} {vs : List Value} (hγ : ∀ t ∈ cs.flatMap C.toks, γ' t = γ t)
    (h : All2 (RepC γ F w) cs vs) : All2 (RepC γ' F' w') cs vs :=
  h.imp fun c hc v hv => RepC.lasts hl (fun t ht => hγ t (List.mem_flatMap.2 ⟨c, hc, ht⟩)) hv

theorem RepV.lasts {γ γ' : Nat → G} {F F' : FK} {w w' : World} (hl : Lasts F F' w w') {x : V1} {v : Value} (hγ : ∀ t ∈ x.toks, γ' t = γ t) (h : RepV γ F w x v) : RepV γ' F' w' x v := by
  cases x with
  | one c => exact RepC.lasts hl (fun t ht => hγ t (by simpa [V1.toks, V1.cells] using ht)) h
  | agg cs =>
    obtain ⟨l, h1, h2⟩ := h
    exact ⟨l, h1, RepCs.lasts hl (fun t ht => hγ t (by simpa [V1.toks, V1.cells] using ht)) h2⟩

theorem RepA.lasts {γ γ' : Nat → G} {F F' : FK} {w w' : World} (hl : Lasts F F' w w') {x : AV} {v : Value} (hγ : ∀ t ∈ x.toks, γ' t = γ t) (h : RepA γ F w x v) : RepA γ' F' w' x v := by
  cases x with
  | v x => exact RepV.lasts hl hγ h
  | tup l =>
    obtain ⟨vs, h1, h2⟩ := h
    exact ⟨vs, h1, h2.imp fun y hy u hu => RepV.lasts hl (fun t ht => hγ t (by simp only [AV.toks]; exact List.mem_flatMap.2 ⟨y, hy, ht⟩)) hu⟩
  | undef => trivial

/-! ### The store -/
/-- A row's block: none yet, or cells enough, the first of which are the elements'. -/
def RowOk (F : FK) (g : G) (w : World) (E : Nat) (e : Ty) (m : RowK) (xs : List e.den) : Prop :=
  g.len = xs.length ∧ g.sz = e.size ∧
  ((g.blk = none ∧ xs = []) ∨
   ∃ b cur fr flat, g.blk = some b ∧ w.heap[b]? = some (.cells cur E fr) ∧ xs.length ≤ g.cap ∧ g.cap ≤ maxLen ∧ cur.size = g.cap * e.size ∧
     cur.toList.take (xs.length * e.size) = flat ∧ Flat F w e xs flat ∧
     (match m with
      | .plain => ¬ F b ∧ fr = (0, 0)
      | .mark => ¬ F b ∧ cur.size ≤ fr.1
      | .frz => F b))

/-- A slice of the heap: it lies as it is told. -/
def KidOk (F : FK) (w : World) (E : Nat) (e : Ty) (j : Nat) : Kid e.den → Prop
  | .dead => True
  | .ro xs => ∃ s, F.kid j = some s ∧ RoSl F w (RepD F w e) e.size xs s.val
  | .own xs c => ∃ g : G, F.kid j = some g.sl ∧ RowOk F g w E e .plain xs ∧ xs.length ≤ c ∧ c ≤ g.sl.cap

/-- The blocks of a block's slices of the heap that are one's own. -/
def Blk.kids (F : FK) : Blk → Nat → Nat → Prop
  | .heap _ _ H, j, b => (∃ xs c, H[j]? = some (.own xs c)) ∧ ∃ n c, F.kid j = some ⟨some ⟨b, 0, none⟩, n, c⟩
  | _, _, _ => False

def BlkOk (F : FK) (γ : Nat → G) (w : World) (t : Nat) : Blk → Prop
  | .var E cs => ∃ b cur, (γ t).blk = some b ∧ w.heap[b]? = some (.cells cur E (0, 0)) ∧ ¬ F b ∧ All2 (RepC γ F w) cs cur.toList
  | .row E e m xs => RowOk F (γ t) w E e m xs
  | .heap E e H => (γ t).blk = none ∧ (∀ j s, F.kid j = some s → j < H.length) ∧ ∀ j k, H[j]? = some k → KidOk F w E e j k
  | .smap l => ∃ b es clk, (γ t).blk = some b ∧ w.heap[b]? = some (.map es clk) ∧ ¬ F b ∧ es.toList.map (fun e => (e.key, e.val)) = l.map fun p => (Value.string p.1, Value.bool p.2)

def Has (S : Store) (t : Nat) : Prop := ∃ b, look S t = some b

/-- The ground lies as it is told, and nobody writes it. -/
def Gnd (F : FK) (w : World) : Prop := (∀ p ∈ groundL, F p.1 ∧ ∃ t fz, w.heap[p.1]? = some (.cells p.2 t fz)) ∧ ∀ b ∈ groundI, F b ∧ ∃ m, w.cell? ⟨b, 0, none⟩ = some (.int .i64 m)
theorem Gnd.mono {F F' : FK} {w w' : World} (h : Gnd F w) (hs : ∀ b, F b → F' b) (hw : ∀ b, F b → w'.heap[b]? = w.heap[b]?) : Gnd F' w' := ⟨fun p hp =>
  ⟨hs _ (h.1 p hp).1, (by obtain ⟨t, fz, e⟩ := (h.1 p hp).2; exact ⟨t, fz, by rw [hw _ (h.1 p hp).1]; exact e⟩)⟩, fun b hb =>
  ⟨hs _ (h.2 b hb).1, (by obtain ⟨m, e⟩ := (h.2 b hb).2; exact ⟨m, (World.cell?_of_block (a := ⟨b, 0, none⟩) (hw _ (h.2 b hb).1)).trans e⟩)⟩⟩
/-- The frozen blocks lie in the heap; the ground is among them. -/
structure Frz (F : FK) (w : World) : Prop where
  lt : ∀ b, F b → b < w.heap.size
  gnd : Gnd F w
instance {F : FK} {w : World} : CoeFun (Frz F w) (fun _ => ∀ b, F b → b < w.heap.size) := ⟨Frz.lt⟩

/-- A block that a slice of the heap lies in, which is one's own. -/
def KidO (F : FK) (S : Store) (j b : Nat) : Prop := ∃ t x, look S t = some x ∧ x.kids F j b

/-- There is one heap at most; its slices lie apart. -/
structure HpInv (F : FK) (γ : Nat → G) (S : Store) : Prop where
  uniq : ∀ t t' x x', look S t = some x → look S t' = some x' → x.isHeap = true → x'.isHeap = true → t = t'
  kid : ∀ j j' b, KidO F S j b → KidO F S j' b → j = j'
  sep : ∀ j b t, KidO F S j b → Has S t → (γ t).blk ≠ some b

structure Inv (F : FK) (γ : Nat → G) (S : Store) (w : World) : Prop where
  blk : ∀ t b, look S t = some b → BlkOk F γ w t b
  inj : ∀ t t' b, Has S t → Has S t' → (γ t).blk = some b → (γ t').blk = some b → t = t'
  fz : Frz F w
  hp : HpInv F γ S

/-- The blocks that tokens stand for, and that slices of the heap lie in. -/
def Mine (F : FK) (γ : Nat → G) (S : Store) (b : Nat) : Prop := (∃ t, Has S t ∧ (γ t).blk = some b) ∨ ∃ j, KidO F S j b

/-- What has become of the world, and of what is known of it. -/
structure Post (fr : Nat) (γ : Nat → G) (F : FK) (w : World) (S : Store) (γ' : Nat → G) (F' : FK) (w' : World) (S' : Store) : Prop where
  os : w'.os = w.os
  tape : w'.tape = w.tape
  output : w'.output = w.output
  size : w.heap.size ≤ w'.heap.size
  heap : ∀ b, b < w.heap.size → ¬ Mine F γ S b → w'.heap[b]? = w.heap[b]?
  gam : ∀ t, t < fr → γ' t = γ t
  sub : FK.Le F F'
  fnew : ∀ b, F' b → F b ∨ Mine F γ S b ∨ w.heap.size ≤ b
  mine : ∀ b, Mine F' γ' S' b → Mine F γ S b ∨ w.heap.size ≤ b
  frz : ∀ b, F b → w'.heap[b]? = w.heap[b]?
  inv : Inv F' γ' S' w'
  kid0 : noHeap S' = true → F'.kid = F.kid

theorem Post.lasts {fr : Nat} {γ : Nat → G} {F : FK} {w : World} {S : Store} {γ' : Nat → G} {F' : FK} {w' : World} {S' : Store} (h : Post fr γ F w S γ' F' w' S') : Lasts F F' w w' := ⟨h.sub, h.frz⟩

/-- Nothing has been written. -/
theorem Post.same {fr : Nat} {γ : Nat → G} {F : FK} {w : World} {S : Store} (h : Inv F γ S w) : Post fr γ F w S γ F w S :=
  ⟨rfl, rfl, rfl, Nat.le_refl _, fun _ _ _ => rfl, fun _ _ => rfl, FK.Le.refl _, fun _ h => .inl h, fun _ h => .inl h, fun _ _ => rfl, h, fun _ => rfl⟩

theorem lt_of_cells {w : World} {b : Nat} {o : Obj} (h : w.heap[b]? = some o) : b < w.heap.size := (Array.getElem?_eq_some_iff.1 h).1
theorem BlkOk.lt {F : FK} {γ : Nat → G} {w : World} {t : Nat} {x : Blk} (h : BlkOk F γ w t x) {b : Nat} (hb : (γ t).blk = some b) : b < w.heap.size := by
  cases x with
  | var E cs =>
    obtain ⟨b', cur, h1, h2, _⟩ := h
    rw [h1] at hb
    injection hb with hb
    subst hb
    exact lt_of_cells h2
  | row E e m xs =>
    obtain ⟨_, _, h | ⟨b', cur, fr, flat, h1, h2, _⟩⟩ := h
    · rw [h.1] at hb
      cases hb
    · rw [h1] at hb
      injection hb with hb
      subst hb
      exact lt_of_cells h2
  | heap E e H => rw [h.1] at hb; cases hb
  | smap l =>
    obtain ⟨b', es, clk, h1, h2, _⟩ := h
    rw [h1] at hb
    injection hb with hb
    subst hb
    exact lt_of_cells h2
theorem G.sl_some {g : G} {b n c : Nat} (h : g.sl = ⟨some ⟨b, 0, none⟩, n, c⟩) : g.blk = some b ∧ g.len = n ∧ g.cap = c := by
  unfold G.sl at h
  cases hb : g.blk with
  | none => rw [hb] at h; cases h
  | some b' =>
    rw [hb] at h
    injection h with h1 h2 h3
    injection h1 with h1
    injection h1 with h1
    exact ⟨by rw [h1], h2, h3⟩
/-- The block of a slice of the heap that is one's own. -/
theorem BlkOk.kid {F : FK} {γ : Nat → G} {w : World} {t : Nat} {x : Blk} (h : BlkOk F γ w t x) {j b : Nat} (hk : x.kids F j b) : b < w.heap.size ∧ ¬ F b := by
  cases x with
  | heap E e H =>
    obtain ⟨⟨xs, c, hx⟩, n, cp, hs⟩ := hk
    obtain ⟨g, hg, hr, _⟩ := h.2.2 j _ hx
    rw [hs] at hg
    injection hg with hg
    obtain ⟨g1, g2, g3⟩ := G.sl_some hg.symm
    obtain ⟨_, _, h | ⟨b', cur, fr, flat, h1, h2, _, _, _, _, _, h8⟩⟩ := hr
    · rw [h.1] at g1; cases g1
    · rw [h1] at g1
      injection g1 with g1
      subst g1
      exact ⟨lt_of_cells h2, h8.1⟩
  | var E cs => exact hk.elim
  | row E e m xs => exact hk.elim
  | smap l => exact hk.elim
theorem Inv.kid_lt {F : FK} {γ : Nat → G} {S : Store} {w : World} (h : Inv F γ S w) {j b : Nat} (hk : KidO F S j b) : b < w.heap.size ∧ ¬ F b := by
  obtain ⟨t, x, hx, hk⟩ := hk
  exact (h.blk t x hx).kid hk
theorem Inv.mine_lt {F : FK} {γ : Nat → G} {S : Store} {w : World} (h : Inv F γ S w) {b : Nat} (hb : Mine F γ S b) : b < w.heap.size := by
  rcases hb with ⟨t, ⟨x, hx⟩, hb⟩ | ⟨j, hb⟩
  · exact (h.blk t x hx).lt hb
  · exact (h.kid_lt hb).1
theorem Mine.tok {F : FK} {γ : Nat → G} {S : Store} {b t : Nat} (h : Has S t) (hb : (γ t).blk = some b) : Mine F γ S b := .inl ⟨t, h, hb⟩

theorem rawNo_look : ∀ {S : Store}, rawNo S = true → ∀ {t : Nat} {x : Blk}, look S t = some x → x.isHeap = false
  | [], _, t, x, h => by cases h
  | (u, y) :: S, hn, t, x, h => by
    simp only [rawNo, Bool.and_eq_true, Bool.not_eq_true'] at hn
    simp only [look] at h
    cases hh : Nat.beq u t with
    | true =>
      rw [hh] at h
      simp only [cond_true, Option.some.injEq] at h
      subst h
      exact hn.1
    | false =>
      rw [hh] at h
      exact rawNo_look hn.2 h
theorem heapTokL_some {S : Store} : ∀ {l : Store} {t : Nat}, heapTokL S l = some t → ∃ x, look S t = some x ∧ x.isHeap = true
  | [], t, h => by cases h
  | (u, y) :: l, t, h => by
    simp only [heapTokL] at h
    split at h
    · rename_i b hb
      cases hh : b.isHeap with
      | true =>
        rw [hh] at h
        simp only [cond_true, Option.some.injEq] at h
        subst h
        exact ⟨b, hb, hh⟩
      | false =>
        rw [hh] at h
        exact heapTokL_some h
    · exact heapTokL_some h
theorem heapTokL_none {S : Store} : ∀ {l : Store}, heapTokL S l = none → ∀ {t : Nat} {y x : Blk}, (t, y) ∈ l → look S t = some x → x.isHeap = false
  | [], h, t, y, x, hm, _ => by simp at hm
  | (u, z) :: l, h, t, y, x, hm, hx => by
    simp only [heapTokL] at h
    rcases List.mem_cons.1 hm with e | hm
    · injection e with e1 e2
      subst e1
      rw [hx] at h
      simp only at h
      cases hh : x.isHeap with
      | true => rw [hh] at h; cases h
      | false => rfl
    · split at h
      · rename_i b hb
        cases hh : b.isHeap with
        | true => rw [hh] at h; cases h
        | false => rw [hh] at h; exact heapTokL_none h hm hx
      · exact heapTokL_none h hm hx
theorem look_mem : ∀ {S : Store} {t : Nat} {x : Blk}, look S t = some x → (t, x) ∈ S
  | [], t, x, h => by cases h
  | (u, y) :: S, t, x, h => by
    simp only [look] at h
    cases hh : Nat.beq u t with
    | true =>
      rw [hh] at h
      simp only [cond_true, Option.some.injEq] at h
      have : u = t := by simpa using hh
      subst this
      subst h
      simp
    | false =>
      rw [hh] at h
      exact List.mem_cons_of_mem _ (look_mem h)
theorem heapTok_some {S : Store} {t : Nat} (h : heapTok S = some t) : ∃ x, look S t = some x ∧ x.isHeap = true := by
  unfold heapTok at h
  cases hr : rawNo S with
  | true => rw [hr] at h; cases h
  | false => rw [hr] at h; exact heapTokL_some h
theorem noHeap_look {S : Store} (hn : noHeap S = true) {t : Nat} {x : Blk} (hx : look S t = some x) : x.isHeap = false := by
  unfold noHeap at hn
  cases ht : heapTok S with
  | some _ => rw [ht] at hn; cases hn
  | none =>
    unfold heapTok at ht
    cases hr : rawNo S with
    | true => exact rawNo_look hr hx
    | false => rw [hr] at ht; exact heapTokL_none ht (look_mem hx) hx
theorem noHeap_of {S : Store} (h : ∀ t x, look S t = some x → x.isHeap = false) : noHeap S = true := by
  unfold noHeap
  cases ht : heapTok S with
  | none => rfl
  | some t =>
    obtain ⟨x, h1, h2⟩ := heapTok_some ht
    rw [h t x h1] at h2
    cases h2
theorem kids_isHeap {F : FK} {x : Blk} {j b : Nat} (h : x.kids F j b) : x.isHeap = true := by
  cases x <;> first | rfl | exact h.elim
theorem noHeap_kid {F : FK} {S : Store} (hn : noHeap S = true) {j b : Nat} : ¬ KidO F S j b := by
  rintro ⟨t, x, hx, hk⟩
  have := noHeap_look hn hx
  rw [kids_isHeap hk] at this
  cases this
theorem kids_congr {F F' : FK} (h : F'.kid = F.kid) {x : Blk} {j b : Nat} : x.kids F' j b ↔ x.kids F j b := by
  cases x <;> simp [Blk.kids, h]
/-- Another store, whose heap is part of the one that was. -/
theorem HpInv.mono {F F' : FK} {γ γ' : Nat → G} {S S' : Store} {n : Nat} (h : HpInv F γ S) (hn : ∀ j b, KidO F S j b → b < n) (hk : F'.kid = F.kid) (hh : ∀ t x, look S' t = some x → x.isHeap = true → ∃ u, look S u = some x ∧ ∀ t' x', look S' t' = some x' → x'.isHeap = true → look S u = some x' → t = t')
    (ht : ∀ t b, Has S' t → (γ' t).blk = some b → (∃ u, Has S u ∧ (γ u).blk = some b) ∨ n ≤ b) : HpInv F' γ' S' := by
  have hko : ∀ j b, KidO F' S' j b → KidO F S j b := by
    rintro j b ⟨t, x, hx, hkx⟩
    obtain ⟨u, hu, _⟩ := hh t x hx (kids_isHeap hkx)
    exact ⟨u, x, hu, (kids_congr hk).1 hkx⟩
  refine ⟨fun t t' x x' hx hx' h1 h2 => ?_, fun j j' b h1 h2 => h.kid j j' b (hko j b h1) (hko j' b h2), fun j b t h1 h2 h3 => ?_⟩
  · obtain ⟨u, hu, hun⟩ := hh t x hx h1
    obtain ⟨u', hu', _⟩ := hh t' x' hx' h2
    have := h.uniq u u' x x' hu hu' h1 h2
    subst this
    rw [hu] at hu'
    injection hu' with hu'
    subst hu'
    exact hun t' x hx' h2 hu
  · rcases ht t b h2 h3 with ⟨u, hu, hb⟩ | hb
    · exact h.sep j b u (hko j b h1) hu hb
    · have := hn j b (hko j b h1)
      omega

/-! ### Lists by keys -/
theorem beq_iff (i j : Nat) : Nat.beq i j = true ↔ i = j := by simp
theorem beq_no {i j : Nat} (h : i ≠ j) : Nat.beq i j = false := by
  cases e : Nat.beq i j with
  | false => rfl
  | true => exact absurd ((beq_iff i j).1 e) h
theorem beq_yes (i : Nat) : Nat.beq i i = true := (beq_iff i i).2 rfl
theorem look_append {α : Type} (l m : List (Nat × α)) (j : Nat) : look (l ++ m) j = (match look l j with | some x => some x | none => look m j) := by
  induction l with
  | nil => rfl
  | cons p l ih =>
    simp only [List.cons_append, look]
    cases Nat.beq p.1 j <;> simp [ih]
theorem look_upd {α : Type} (l : List (Nat × α)) (i j : Nat) (x : α) : look (upd l i x) j = if i = j then some x else look l j := by
  induction l with
  | nil =>
    simp only [upd, look]
    by_cases h : i = j
    · subst h; rw [beq_yes, if_pos rfl]; rfl
    · rw [beq_no h, if_neg h]; rfl
  | cons p l ih =>
    simp only [upd]
    by_cases hp : p.1 = i
    · subst hp
      rw [beq_yes]
      simp only [cond_true, look]
      by_cases h : p.1 = j
      · subst h; rw [beq_yes, if_pos rfl]; rfl
      · rw [beq_no h, if_neg h]; rfl
    · rw [beq_no hp]
      simp only [cond_false, look, ih]
      by_cases h : i = j
      · subst h
        simp [beq_no hp]
      · simp only [if_neg h]
theorem memb_iff (l : List Nat) (j : Nat) : memb l j = true ↔ j ∈ l := by
  induction l with
  | nil => simp [memb]
  | cons i l ih =>
    simp only [memb, List.mem_cons]
    by_cases h : i = j
    · subst h; rw [beq_yes]; simp
    · rw [beq_no h]
      simp only [cond_false, ih]
      constructor
      · exact .inr
      · rintro (rfl | h')
        · exact absurd rfl h
        · exact h'
theorem look_keep {α : Type} (f : Nat → Bool) (l : List (Nat × α)) (j : Nat) : look (keep f l) j = if f j = true then look l j else none := by
  induction l with
  | nil => simp [keep, look]
  | cons p l ih =>
    simp only [keep]
    by_cases hf : f p.1 = true
    · rw [hf]
      simp only [cond_true, look]
      by_cases h : p.1 = j
      · subst h; rw [beq_yes, if_pos hf]; rfl
      · rw [beq_no h]; exact ih
    · have hf' : f p.1 = false := by simpa using hf
      rw [hf']
      simp only [cond_false, ih, look]
      by_cases h : p.1 = j
      · subst h; simp [hf']
      · rw [beq_no h]; rfl

/-- One block of the store turned, another world, nothing else of it written. -/
theorem BlkOk.lasts {F F' : FK} {γ γ' : Nat → G} {w w' : World} {t : Nat} {x : Blk} (h : BlkOk F γ w t x) (hl : Lasts F F' w w') (ht : γ' t = γ t) (hγ : ∀ u ∈ x.toks, γ' u = γ u)
    (hb : ∀ b, (γ t).blk = some b → w'.heap[b]? = w.heap[b]? ∧ (F' b → F b)) (hk : x.isHeap = true → F'.kid = F.kid ∧ ∀ j b, x.kids F j b → w'.heap[b]? = w.heap[b]? ∧ (F' b → F b)) : BlkOk F' γ' w' t x := by
  cases x with
  | var E cs =>
    obtain ⟨b, cur, h1, h2, h3, h4⟩ := h
    refine ⟨b, cur, by rw [ht]; exact h1, (hb b h1).1.trans h2, fun h => h3 ((hb b h1).2 h), RepCs.lasts hl hγ h4⟩
  | row E e m xs =>
    obtain ⟨g1, g2, h⟩ := h
    refine ⟨by rw [ht]; exact g1, by rw [ht]; exact g2, ?_⟩
    rw [ht]
    rcases h with h | ⟨b, cur, fr, flat, h1, h2, h3, h4, h5, h6, h7, h8⟩
    · exact .inl h
    · refine .inr ⟨b, cur, fr, flat, h1, (hb b h1).1.trans h2, h3, h4, h5, h6, h7.lasts hl, ?_⟩
      cases m with
      | plain => exact ⟨fun h => h8.1 ((hb b h1).2 h), h8.2⟩
      | mark => exact ⟨fun h => h8.1 ((hb b h1).2 h), h8.2⟩
      | frz => exact hl.sub _ h8
  | heap E e H =>
    obtain ⟨g1, g2, g3⟩ := h
    obtain ⟨hk1, hk2⟩ := hk rfl
    refine ⟨by rw [ht]; exact g1, fun j s hs => g2 j s (by rw [← hk1]; exact hs), fun j k hj => ?_⟩
    have h3 := g3 j k hj
    cases k with
    | dead => trivial
    | ro xs =>
      obtain ⟨s, h4, h5⟩ := h3
      exact ⟨s, hl.sub.kid _ _ h4, h5.lasts hl fun x l => RepD.lasts hl⟩
    | own xs c =>
      obtain ⟨g, h4, h5, h6⟩ := h3
      refine ⟨g, hl.sub.kid _ _ h4, ?_, h6⟩
      obtain ⟨a1, a2, h⟩ := h5
      refine ⟨a1, a2, ?_⟩
      rcases h with h | ⟨b, cur, fr, flat, h1, h2, h3, h4', h5, h6, h7, h8⟩
      · exact .inl h
      · have hb' := hk2 j b ⟨⟨xs, c, hj⟩, g.len, g.cap, by rw [h4]; unfold G.sl; rw [h1]⟩
        exact .inr ⟨b, cur, fr, flat, h1, hb'.1.trans h2, h3, h4', h5, h6, h7.lasts hl, fun h => h8.1 (hb'.2 h), h8.2⟩
  | smap l =>
    obtain ⟨b, es, clk, h1, h2, h3, h4⟩ := h
    exact ⟨b, es, clk, by rw [ht]; exact h1, (hb b h1).1.trans h2, fun h => h3 ((hb b h1).2 h), h4⟩

theorem HpInv.sub {F : FK} {γ : Nat → G} {S S' : Store} (h : HpInv F γ S) (hs : ∀ t x, look S' t = some x → look S t = some x) : HpInv F γ S' := by
  have hko : ∀ j b, KidO F S' j b → KidO F S j b := fun j b ⟨t, x, hx, hk⟩ => ⟨t, x, hs t x hx, hk⟩
  exact ⟨fun t t' x x' h1 h2 => h.uniq t t' x x' (hs t x h1) (hs t' x' h2), fun j j' b h1 h2 => h.kid j j' b (hko j b h1) (hko j' b h2), fun j b t h1 ⟨x, h2⟩ => h.sep j b t (hko j b h1) ⟨x, hs t x h2⟩⟩
theorem KidO.sub {F : FK} {S S' : Store} (hs : ∀ t x, look S' t = some x → look S t = some x) {j b : Nat} (h : KidO F S' j b) : KidO F S j b := by
  obtain ⟨t, x, hx, hk⟩ := h
  exact ⟨t, x, hs t x hx, hk⟩
theorem look_keep_sub {f : Nat → Bool} {S : Store} {t : Nat} {x : Blk} (h : look (keep f S) t = some x) : look S t = some x := by
  rw [look_keep] at h
  split at h
  · exact h
  · cases h
theorem Mine.part {F : FK} {γ : Nat → G} {S : Store} {f : Nat → Bool} {b : Nat} (h : Mine F γ (keep f S) b) : Mine F γ S b := by
  rcases h with ⟨t, ⟨x, hx⟩, hb⟩ | ⟨j, hk⟩
  · exact .inl ⟨t, ⟨x, look_keep_sub hx⟩, hb⟩
  · exact .inr ⟨j, hk.sub fun t x => look_keep_sub⟩

def FK.add (F : FK) (p : Nat → Prop) : FK := ⟨fun b => F b ∨ p b, F.kid⟩
theorem FK.Le.add (F : FK) (p : Nat → Prop) : FK.Le F (F.add p) := ⟨fun _ h => .inl h, fun _ _ h => h⟩

/-- One more slice of the heap. -/
def FK.put (F : FK) (n : Nat) (s : SlV) : FK := ⟨F.on, fun j => if j = n then some s else F.kid j⟩

/-- A block turned that is no heap. -/
theorem KidO.upd {F F' : FK} (hk : F'.kid = F.kid) {S : Store} {tok : Nat} {y : Blk} (hy : y.isHeap = false) {j b : Nat} (h : KidO F' (Ab.upd S tok y) j b) : KidO F S j b := by
  obtain ⟨t, x, hx, hj⟩ := h
  rw [look_upd] at hx
  split at hx
  · injection hx with hx
    subst hx
    rw [kids_isHeap hj] at hy
    cases hy
  · exact ⟨t, x, hx, (kids_congr hk).1 hj⟩
theorem HpInv.upd {F F' : FK} {γ : Nat → G} {S : Store} (h : HpInv F γ S) (hk : F'.kid = F.kid) {tok : Nat} {y : Blk} (hy : y.isHeap = false) (hS : Has S tok) : HpInv F' γ (Ab.upd S tok y) := by
  have hHas : ∀ t, Has (Ab.upd S tok y) t → Has S t := by
    rintro t ⟨z, hz⟩
    rw [look_upd] at hz
    split at hz
    · rename_i e; subst e; exact hS
    · exact ⟨z, hz⟩
  have hh : ∀ t x, look (Ab.upd S tok y) t = some x → x.isHeap = true → look S t = some x := by
    intro t x hx h1
    rw [look_upd] at hx
    split at hx
    · injection hx with hx
      subst hx
      rw [h1] at hy
      cases hy
    · exact hx
  exact ⟨fun t t' x x' h1 h2 h3 h4 => h.uniq t t' x x' (hh t x h1 h3) (hh t' x' h2 h4) h3 h4, fun j j' b h1 h2 => h.kid j j' b (h1.upd hk hy) (h2.upd hk hy), fun j b t h1 h2 => h.sep j b t (h1.upd hk hy) (hHas t h2)⟩
/-! ### A part of the store goes on, the rest stays -/
theorem Has.keep {f : Nat → Bool} {S : Store} {t : Nat} : Has (keep f S) t ↔ f t = true ∧ Has S t := by
  simp only [Has, look_keep]
  by_cases h : f t = true <;> simp [h]
theorem Has.append {S T : Store} {t : Nat} : Has (S ++ T) t ↔ Has S t ∨ Has T t := by
  simp only [Has, look_append]
  cases look S t <;> simp

theorem Inv.part {F : FK} {γ : Nat → G} {S : Store} {w : World} (h : Inv F γ S w) (f : Nat → Bool) : Inv F γ (keep f S) w where
  blk t b hb := by
    rw [look_keep] at hb
    split at hb
    · exact h.blk t b hb
    · cases hb
  inj t t' b ht ht' := h.inj t t' b (Has.keep.1 ht).2 (Has.keep.1 ht').2
  fz := h.fz
  hp := h.hp.sub fun t x hx => by
    rw [look_keep] at hx
    split at hx
    · exact hx
    · cases hx

/-- The whole store, of which a part has gone on. -/
theorem Inv.split {F : FK} {γ : Nat → G} {S : Store} {w : World} {ts : List Nat} {fr : Nat} {γ' : Nat → G} {F' : FK} {w' : World} {S' : Store} (h : Inv F γ S w)
    (hlt : ∀ t b, look S t = some b → t < fr ∧ ∀ u ∈ b.toks, u < fr) (p : Post fr γ F w (keep (memb ts) S) γ' F' w' S') (hk : ∀ t, Has S' t → t ∈ ts ∨ fr ≤ t) (ho : noHeap (keep (fun t => !memb ts t) S) = true ∨ noHeap S' = true) :
    Inv F' γ' (keep (fun t => !memb ts t) S ++ S') w' := by
  have restHas : ∀ t x, look (keep (fun t => !memb ts t) S) t = some x → t ∉ ts ∧ look S t = some x := by
    intro t x ht
    rw [look_keep] at ht
    split at ht
    · rename_i h2
      refine ⟨fun hm => ?_, ht⟩
      rw [(memb_iff ts t).2 hm] at h2
      cases h2
    · cases ht
  have partHas : ∀ t x, look (keep (memb ts) S) t = some x → t ∈ ts ∧ look S t = some x := by
    intro t x ht
    rw [look_keep] at ht
    split at ht
    · rename_i h2
      exact ⟨(memb_iff ts t).1 h2, ht⟩
    · cases ht
  -- what stands for the rest is not the part's
  have notMine : ∀ t b, Has S t → t ∉ ts → (γ t).blk = some b → ¬ Mine F γ (keep (memb ts) S) b := by
    rintro t b ht hts hb (⟨u, ⟨y, hu⟩, hub⟩ | ⟨j, u, y, hu, hj⟩)
    · obtain ⟨h1, h2⟩ := partHas u y hu
      exact hts (by rw [h.inj t u b ht ⟨y, h2⟩ hb hub]; exact h1)
    · exact h.hp.sep j b t ⟨u, y, (partHas u y hu).2, hj⟩ ht hb
  have kidNot : ∀ t x j b, look (keep (fun t => !memb ts t) S) t = some x → x.kids F j b → ¬ Mine F γ (keep (memb ts) S) b := by
    rintro t x j b hx hj (⟨u, ⟨y, hu⟩, hub⟩ | ⟨j', u, y, hu, hj'⟩)
    · exact h.hp.sep j b u ⟨t, x, (restHas t x hx).2, hj⟩ ⟨y, (partHas u y hu).2⟩ hub
    · have := h.hp.uniq t u x y (restHas t x hx).2 (partHas u y hu).2 (kids_isHeap hj) (kids_isHeap hj')
      subst this
      exact (restHas t x hx).1 (partHas t y hu).1
  have hfix : ∀ t, Has S t → γ' t = γ t := fun t ⟨b, hb⟩ => p.gam t (hlt t b hb).1
  have kid0 : ∀ t x, look (keep (fun t => !memb ts t) S) t = some x → x.isHeap = true → F'.kid = F.kid := by
    intro t x hx hh
    rcases ho with ho | ho
    · rw [noHeap_look ho hx] at hh; cases hh
    · exact p.kid0 ho
  have kept : ∀ b, b < w.heap.size → ¬ Mine F γ (keep (memb ts) S) b → w'.heap[b]? = w.heap[b]? ∧ (F' b → F b) := fun b hbl hnm =>
    ⟨p.heap b hbl hnm, fun hF => (p.fnew b hF).resolve_right (fun hh => hh.elim hnm (fun hh => by omega))⟩
  have whole : ∀ t x, look (keep (fun t => !memb ts t) S ++ S') t = some x → look (keep (fun t => !memb ts t) S) t = some x ∨ look S' t = some x := by
    intro t x hx
    rw [look_append] at hx
    cases hl : look (keep (fun t => !memb ts t) S) t with
    | some y => rw [hl] at hx; exact .inl hx
    | none => rw [hl] at hx; exact .inr hx
  have kids : ∀ j b, KidO F' (keep (fun t => !memb ts t) S ++ S') j b → (∃ t x, look (keep (fun t => !memb ts t) S) t = some x ∧ x.kids F j b ∧ noHeap S' = true) ∨ (KidO F' S' j b ∧ noHeap (keep (fun t => !memb ts t) S) = true) := by
    rintro j b ⟨t, x, hx, hj⟩
    rcases whole t x hx with h1 | h1
    · have hh := kids_isHeap hj
      refine .inl ⟨t, x, h1, (kids_congr (kid0 t x h1 hh)).1 hj, ?_⟩
      rcases ho with ho | ho
      · rw [noHeap_look ho h1] at hh; cases hh
      · exact ho
    · have hh := kids_isHeap hj
      refine .inr ⟨⟨t, x, h1, hj⟩, ?_⟩
      rcases ho with ho | ho
      · exact ho
      · rw [noHeap_look ho h1] at hh; cases hh
  refine ⟨fun t b hb => ?_, fun t t' b ht ht' hb hb' => ?_, p.inv.fz, ⟨fun t t' x x' hx hx' h1 h2 => ?_, fun j j' b h1 h2 => ?_, fun j b t h1 ht hb => ?_⟩⟩
  · rcases whole t b hb with hl | hl
    · obtain ⟨hts, hS⟩ := restHas t b hl
      refine (h.blk t b hS).lasts p.lasts (hfix t ⟨b, hS⟩) (fun u hu => p.gam u ((hlt t b hS).2 u hu)) (fun c hc => ?_) fun hh => ⟨kid0 t b hl hh, fun j c hc => ?_⟩
      · exact kept c ((h.blk t b hS).lt hc) (notMine t c ⟨b, hS⟩ hts hc)
      · exact kept c ((h.blk t b hS).kid hc).1 (kidNot t b j c hl hc)
    · exact p.inv.blk t b hl
  · rcases Has.append.1 ht with h1 | h1 <;> rcases Has.append.1 ht' with h2 | h2
    · obtain ⟨x, hx⟩ := h1
      obtain ⟨x', hx'⟩ := h2
      have e1 := restHas t x hx
      have e2 := restHas t' x' hx'
      rw [hfix t ⟨x, e1.2⟩] at hb
      rw [hfix t' ⟨x', e2.2⟩] at hb'
      exact h.inj t t' b ⟨x, e1.2⟩ ⟨x', e2.2⟩ hb hb'
    · obtain ⟨x, hx⟩ := h1
      have e1 := restHas t x hx
      rw [hfix t ⟨x, e1.2⟩] at hb
      have hbl := (h.blk t x e1.2).lt hb
      exact absurd ((p.mine b (.inl ⟨t', h2, hb'⟩)).resolve_right (by omega)) (notMine t b ⟨x, e1.2⟩ e1.1 hb)
    · obtain ⟨x, hx⟩ := h2
      have e1 := restHas t' x hx
      rw [hfix t' ⟨x, e1.2⟩] at hb'
      have hbl := (h.blk t' x e1.2).lt hb'
      exact absurd ((p.mine b (.inl ⟨t, h1, hb⟩)).resolve_right (by omega)) (notMine t' b ⟨x, e1.2⟩ e1.1 hb')
    · exact p.inv.inj t t' b h1 h2 hb hb'
  · rcases whole t x hx with a1 | a1 <;> rcases whole t' x' hx' with a2 | a2
    · exact h.hp.uniq t t' x x' (restHas t x a1).2 (restHas t' x' a2).2 h1 h2
    · rcases ho with ho | ho
      · rw [noHeap_look ho a1] at h1; cases h1
      · rw [noHeap_look ho a2] at h2; cases h2
    · rcases ho with ho | ho
      · rw [noHeap_look ho a2] at h2; cases h2
      · rw [noHeap_look ho a1] at h1; cases h1
    · exact p.inv.hp.uniq t t' x x' a1 a2 h1 h2
  · rcases kids j b h1 with ⟨t, x, a1, a2, a3⟩ | ⟨a1, a3⟩ <;> rcases kids j' b h2 with ⟨t', x', b1, b2, b3⟩ | ⟨b1, b3⟩
    · exact h.hp.kid j j' b ⟨t, x, (restHas t x a1).2, a2⟩ ⟨t', x', (restHas t' x' b1).2, b2⟩
    · exact absurd b1 (noHeap_kid a3)
    · exact absurd a1 (noHeap_kid b3)
    · exact p.inv.hp.kid j j' b a1 b1
  · rcases kids j b h1 with ⟨u, x, a1, a2, a3⟩ | ⟨a1, a3⟩ <;> rcases Has.append.1 ht with b1 | b1
    · obtain ⟨y, hy⟩ := b1
      have e1 := restHas t y hy
      rw [hfix t ⟨y, e1.2⟩] at hb
      exact h.hp.sep j b t ⟨u, x, (restHas u x a1).2, a2⟩ ⟨y, e1.2⟩ hb
    · have hbl := ((h.blk u x (restHas u x a1).2).kid a2).1
      exact absurd ((p.mine b (.inl ⟨t, b1, hb⟩)).resolve_right (by omega)) (kidNot u x j b a1 a2)
    · obtain ⟨y, hy⟩ := b1
      have e1 := restHas t y hy
      rw [hfix t ⟨y, e1.2⟩] at hb
      have hbl := (h.blk t y e1.2).lt hb
      exact absurd ((p.mine b (.inr ⟨j, a1⟩)).resolve_right (by omega)) (notMine t b ⟨y, e1.2⟩ e1.1 hb)
    · exact p.inv.hp.sep j b t a1 b1 hb

theorem noHeap_left {S T : Store} (h : noHeap (S ++ T) = true) : noHeap S = true := noHeap_of fun t x hx => noHeap_look h (t := t) (by rw [look_append, hx])
end Go.Ab
/-! The type table is the program's; the operations without memory. -/
set_option linter.unusedVariables false
set_option linter.unusedSimpArgs false
namespace Go.Ab

/-! ### The table of types -/
/-! ### The form of an operation's law -/
def ResSem (Φ : AV → Store → Prop) : Res → Prop
  | .ok v S => Φ v S
  | .chk c v S => c = true → Φ v S
  | .call _ m h => ∀ x, m = some x → Φ (h x).1 (h x).2
  | .fail => True

theorem ResSem.imp {Φ Ψ : AV → Store → Prop} {r : Res} (h : ResSem Φ r) (f : ∀ v S, Φ v S → Ψ v S) : ResSem Ψ r := by
  cases r with
  | ok v S => exact f _ _ h
  | chk c v S => exact fun hc => f _ _ (h hc)
  | call R m g => exact fun x hx => f _ _ (h x hx)
  | fail => trivial

/-- Every token of the store, and all that stands in it, is below a number. -/
def StoLt (fr : Nat) (S : Store) : Prop := ∀ t b, look S t = some b → t < fr ∧ ∀ u ∈ b.toks, u < fr
def ArgLt (fr : Nat) (l : List AV) : Prop := ∀ x ∈ l, ∀ t ∈ x.toks, t < fr

def OpSem (P : Program) (o : Oper) (args : List AV) (fr : Nat) (S : Store) (v : AV) (S' : Store) : Prop :=
  ∀ (γ : Nat → G) (F : FK) (w : World) (a : Act), Inv F γ S w → StoLt fr S → ArgLt fr args → All2 (fun x av => RepA γ F w av (a.eval x)) o.op.operands.toList args →
  ∀ (next : Act → World → Prop) (Q : Exit → Act → World → Prop), (∀ u γ' F' w', Post fr γ F w S γ' F' w' S' → RepA γ' F' w' v u → next (a.put o.dst u) w') → o.wp P a w next Q

theorem wp_of_value {P : Program} {o : Oper} {a : Act} {w w' : World} {u : Value} {next : Act → World → Prop} {Q : Exit → Act → World → Prop} (h : (execOp a.eval o).run P w = .ok (.value u) w')
    (hn : next (a.put o.dst u) w') : o.wp P a w next Q := by unfold Oper.wp; rw [h]; exact hn
/-- An operation that only reckons: it may draw. -/
theorem OpSem.pure {P : Program} {o : Oper} {args : List AV} {fr : Nat} {S : Store} {v : AV}
    (h : ∀ (γ : Nat → G) (F : FK) (w : World) (a : Act), Inv F γ S w → All2 (fun x av => RepA γ F w av (a.eval x)) o.op.operands.toList args →
      ∃ u, (execOp a.eval o).run P w = .ok (.value u) w ∧ RepA γ F w v u) : OpSem P o args fr S v S := by
  intro γ F w a hI _ _ hA next Q hn
  obtain ⟨u, h1, h2⟩ := h γ F w a hI hA
  exact wp_of_value h1 (hn u γ F w (Post.same hI) h2)

section
variable {P : Program} {dst : Option Tmp} {ty : TypeId} {pos : String} {aft : Array Edge} {gd : Option (Nat × Bool)} {fr : Nat} {S : Store}

end
end Go.Ab
/-! Operations that reckon, and that read. -/
set_option linter.unusedVariables false
set_option linter.unusedSimpArgs false
namespace Go.Ab
section
variable {P : Program} {dst : Option Tmp} {ty : TypeId} {pos : String} {aft : Array Edge} {gd : Option (Nat × Bool)} {fr : Nat} {S : Store}

variable {Γ : Tab}

end
end Go.Ab
/-! Operations that read: tests, parts, elements, cuts, lengths. -/
set_option linter.unusedVariables false
set_option linter.unusedSimpArgs false
namespace Go.Ab
section
variable {P : Program} {dst : Option Tmp} {ty : TypeId} {pos : String} {aft : Array Edge} {gd : Option (Nat × Bool)} {fr : Nat} {S : Store} {Γ : Tab}

end
end Go.Ab
/-! Loads, elements, cuts, lengths. -/
set_option linter.unusedVariables false
set_option linter.unusedSimpArgs false
namespace Go.Ab

/-- A datum's cells, taken apart. -/
theorem explode_rep {γ : Nat → G} {F : FK} {w : World} : ∀ {t : Ty} {x : t.den} {l : List Value}, RepD F w t x l → All2 (RepC γ F w) (t.explode x) l
  | .int _, _, _, h => by simp only [RepD] at h; subst h; exact ⟨rfl, trivial⟩
  | .bool, _, _, h => by simp only [RepD] at h; subst h; exact ⟨rfl, trivial⟩
  | .str, _, _, h => by simp only [RepD] at h; subst h; exact ⟨rfl, trivial⟩
  | .pair a b, _, _, h => by
    simp only [RepD] at h
    obtain ⟨l1, l2, rfl, h1, h2⟩ := h
    exact (explode_rep h1).append (explode_rep h2)
  | .slice e, _, _, h => by
    simp only [RepD] at h
    obtain ⟨v, rfl, h⟩ := h
    exact ⟨h, trivial⟩
  | .ref e, _, _, h => by
    simp only [RepD] at h
    obtain ⟨v, rfl, h⟩ := h
    exact ⟨h, trivial⟩

theorem emp_ro {F : FK} {w : World} {e : Ty} : RoSl F w (RepD F w e) e.size ([] : List e.den) (.slice none 0 0) :=
  ⟨none, 0, 0, rfl, rfl, Nat.le_refl _, fun h => by omega⟩

theorem implode_rep {γ : Nat → G} {F : FK} {w : World} : ∀ {t : Ty} {cs cs' : List C} {x : t.den} {l : List Value}, t.implode cs = some (x, cs') → All2 (RepC γ F w) cs l →
    ∃ l1 l2, l = l1 ++ l2 ∧ RepD F w t x l1 ∧ All2 (RepC γ F w) cs' l2
  | .int k, cs, cs', x, l, h, hr => by
    simp only [Ty.implode] at h
    split at h
    · rename_i k' n r
      split at h
      · rename_i hc
        subst hc
        injection h with h
        injection h with h1 h2
        subst h1 h2
        match l, hr with
        | v :: l, hr => exact ⟨[v], l, rfl, by have := hr.1; simp only [RepC] at this; rw [this]; rfl, hr.2⟩
      · cases h
    · cases h
  | .bool, cs, cs', x, l, h, hr => by
    simp only [Ty.implode] at h
    split at h
    · injection h with h
      injection h with h1 h2
      subst h1 h2
      match l, hr with
      | v :: l, hr => exact ⟨[v], l, rfl, by have := hr.1; simp only [RepC] at this; rw [this]; rfl, hr.2⟩
    · cases h
  | .str, cs, cs', x, l, h, hr => by
    simp only [Ty.implode] at h
    split at h
    · injection h with h
      injection h with h1 h2
      subst h1 h2
      match l, hr with
      | v :: l, hr => exact ⟨[v], l, rfl, by have := hr.1; simp only [RepC] at this; rw [this]; rfl, hr.2⟩
    · cases h
  | .slice e, cs, cs', x, l, h, hr => by
    simp only [Ty.implode] at h
    split at h
    · rename_i e' xs r
      split at h
      · rename_i hc
        subst hc
        injection h with h
        injection h with h1 h2
        subst h1 h2
        match l, hr with
        | v :: l, hr => exact ⟨[v], l, rfl, ⟨v, rfl, hr.1⟩, hr.2⟩
      · cases h
    · injection h with h
      injection h with h1 h2
      subst h1 h2
      match l, hr with
      | v :: l, hr => exact ⟨[v], l, rfl, ⟨v, rfl, by have := hr.1; simp only [RepC] at this; rw [this]; exact emp_ro⟩, hr.2⟩
    · injection h with h
      injection h with h1 h2
      subst h1 h2
      match l, hr with
      | v :: l, hr =>
        obtain ⟨A, hA⟩ := hr.1
        exact ⟨[v], l, rfl, ⟨v, rfl, A, 0, 0, hA, rfl, Nat.le_refl _, fun h => by omega⟩, hr.2⟩
    · cases h
  | .ref e, cs, cs', x, l, h, hr => by
    simp only [Ty.implode] at h
    split at h
    · rename_i e' xs r
      split at h
      · rename_i hc
        subst hc
        injection h with h
        injection h with h1 h2
        subst h1 h2
        match l, hr with
        | v :: l, hr => exact ⟨[v], l, rfl, ⟨v, rfl, hr.1⟩, hr.2⟩
      · cases h
    · injection h with h
      injection h with h1 h2
      subst h1 h2
      match l, hr with
      | v :: l, hr => exact ⟨[v], l, rfl, ⟨v, rfl, hr.1⟩, hr.2⟩
    · cases h
  | .pair a b, cs, cs', x, l, h, hr => by
    simp only [Ty.implode] at h
    split at h
    · rename_i y c1 h1
      split at h
      · rename_i z c2 h2
        injection h with h
        injection h with e1 e2
        subst e1 e2
        obtain ⟨l1, l2, rfl, r1, hr⟩ := implode_rep h1 hr
        obtain ⟨l3, l4, rfl, r2, hr⟩ := implode_rep h2 hr
        exact ⟨l1 ++ l3, l4, by simp, ⟨l1, l3, rfl, r1, r2⟩, hr⟩
      · cases h
    · cases h

theorem whole_rep {γ : Nat → G} {F : FK} {w : World} {t : Ty} {cs : List C} {x : t.den} {l : List Value} (h : t.whole cs = some x) (hr : All2 (RepC γ F w) cs l) : RepD F w t x l := by
  unfold Ty.whole at h
  split at h
  · rename_i y hy
    injection h with h
    subst h
    obtain ⟨l1, l2, rfl, r1, r2⟩ := implode_rep hy hr
    match l2, r2 with
    | [], _ => simpa using r1
  · cases h

section
variable {P : Program} {dst : Option Tmp} {ty : TypeId} {pos : String} {aft : Array Edge} {gd : Option (Nat × Bool)} {fr : Nat} {S : Store} {Γ : Tab}

theorem cell_of_heap {w : World} {b j : Nat} {cur : Array Value} {E : TypeId} {fz : Nat × Nat} (h : w.heap[b]? = some (.cells cur E fz)) : w.cell? ⟨b, j, none⟩ = cur[j]? := by simp [World.cell?, h]

/-- An element of a row. -/
theorem row_elem {F : FK} {g : G} {w : World} {E : Nat} {e : Ty} {m : RowK} {xs : List e.den} (h : RowOk F g w E e m xs) {b : Nat} (hb : g.blk = some b) {i : Nat} {x : e.den} (hx : xs[i]? = some x) :
    ∃ l, RepD F w e x l ∧ ∀ j u, l[j]? = some u → w.cell? ⟨b, i * e.size + j, none⟩ = some u := by
  obtain ⟨_, _, ⟨hn, _⟩ | ⟨b', cur, fz, flat, h1, h2, h3, h4, h5, h6, h7, _⟩⟩ := h
  · rw [hn] at hb; cases hb
  · rw [h1] at hb
    injection hb with hb
    subst hb
    obtain ⟨l, hl, hc⟩ := h7.at i x hx
    refine ⟨l, hl, fun j u hu => ?_⟩
    have := hc j u hu
    rw [← h6, List.getElem?_take] at this
    split at this
    · rw [cell_of_heap h2]; simpa using this
    · cases this

end
end Go.Ab
/-! Elements, cuts, lengths. -/
set_option linter.unusedVariables false
set_option linter.unusedSimpArgs false
namespace Go.Ab

section
variable {P : Program} {dst : Option Tmp} {ty : TypeId} {pos : String} {aft : Array Edge} {gd : Option (Nat × Bool)} {fr : Nat} {S : Store} {Γ : Tab}

end
end Go.Ab
/-! Cuts, conversions, lengths, values built. -/
set_option linter.unusedVariables false
set_option linter.unusedSimpArgs false
namespace Go.Ab
section
variable {P : Program} {dst : Option Tmp} {ty : TypeId} {pos : String} {aft : Array Edge} {gd : Option (Nat × Bool)} {fr : Nat} {S : Store} {Γ : Tab}

/-- A row's block no longer written. -/
theorem Post.freeze {γ : Nat → G} {F : FK} {w : World} {tok E : Nat} {e : Ty} {m : RowK} {xs : List e.den} (hI : Inv F γ S w) (hS : look S tok = some (.row E e m xs)) :
    ∃ F', Post fr γ F w S γ F' w (upd S tok (.row E e .frz xs)) ∧ FK.Le F F' ∧ (∀ b, (γ tok).blk = some b → F' b) ∧ F'.kid = F.kid := by
  have hrow : RowOk F (γ tok) w E e m xs := hI.blk tok _ hS
  have hHas : ∀ t, Has (upd S tok (.row E e .frz xs)) t → Has S t := by
    rintro t ⟨x, hx⟩
    rw [look_upd] at hx
    split at hx
    · rename_i e; subst e; exact ⟨_, hS⟩
    · exact ⟨x, hx⟩
  refine ⟨F.add fun b => (γ tok).blk = some b, ⟨rfl, rfl, rfl, Nat.le_refl _, fun _ _ _ => rfl, fun _ _ => rfl, FK.Le.add F _, fun b h => ?_, fun b hb => .inl ?_, fun _ _ => rfl, ?_, fun _ => rfl⟩, FK.Le.add F _, fun b h => .inr h, rfl⟩
  · rcases h with h | h
    · exact .inl h
    · exact .inr (.inl (.tok ⟨_, hS⟩ h))
  · rcases hb with ⟨t, ht, hb⟩ | ⟨j, hb⟩
    · exact .inl ⟨t, hHas t ht, hb⟩
    · exact .inr ⟨j, hb.upd rfl rfl⟩
  · have hl : Lasts F (F.add fun b => (γ tok).blk = some b) w w := ⟨FK.Le.add F _, fun _ _ => rfl⟩
    refine ⟨fun t b hb => ?_, fun t t' b ht ht' => hI.inj t t' b (hHas t ht) (hHas t' ht'), ⟨fun b hb => ?_, hI.fz.gnd.mono (fun _ h => .inl h) (fun _ _ => rfl)⟩, HpInv.upd (F' := F.add _) hI.hp rfl (y := .row E e .frz xs) rfl ⟨_, hS⟩⟩
    · rw [look_upd] at hb
      split at hb
      · rename_i et
        subst et
        injection hb with hb
        subst hb
        obtain ⟨h1, h2, h3⟩ := hrow
        refine ⟨h1, h2, ?_⟩
        rcases h3 with h3 | ⟨b, cur, fz, flat, g1, g2, g3, g4, g5, g6, g7, g8⟩
        · exact .inl h3
        · exact .inr ⟨b, cur, fz, flat, g1, g2, g3, g4, g5, g6, g7.lasts hl, .inr g1⟩
      · rename_i hne
        have hS' := hI.blk t b hb
        refine hS'.lasts hl rfl (fun _ _ => rfl) (fun c hc => ⟨rfl, fun hF => ?_⟩) fun _ => ⟨rfl, fun j c hc => ⟨rfl, fun hF => ?_⟩⟩
        · rcases hF with hF | hF
          · exact hF
          · exact absurd (hI.inj t tok c ⟨b, hb⟩ ⟨_, hS⟩ hc hF) (fun e => hne e.symm)
        · rcases hF with hF | hF
          · exact hF
          · exact absurd hF (hI.hp.sep j c tok ⟨t, b, hb, hc⟩ ⟨_, hS⟩)
    · rcases hb with hb | hb
      · exact hI.fz b hb
      · exact hI.mine_lt (.tok ⟨_, hS⟩ hb)

theorem all2_args {γ : Nat → G} {F : FK} {w : World} {a : Act} : ∀ {xs : List Operand} {args : List AV}, All2 (fun x av => RepA γ F w av (a.eval x)) xs args → All2 (RepA γ F w) args (xs.map a.eval)
  | [], [], _ => trivial
  | _ :: _, _ :: _, h => ⟨h.1, all2_args h.2⟩
  | [], _ :: _, h => h.elim
  | _ :: _, [], h => h.elim

end
end Go.Ab
/-! Operations that make memory, or write it. -/
set_option linter.unusedVariables false
set_option linter.unusedSimpArgs false
namespace Go.Ab

def setG (γ : Nat → G) (t : Nat) (g : G) : Nat → G := fun u => if u = t then g else γ u
theorem setG_self (γ : Nat → G) (t : Nat) (g : G) : setG γ t g t = g := by simp [setG]
theorem setG_ne (γ : Nat → G) {t u : Nat} (g : G) (h : u ≠ t) : setG γ t g u = γ u := by simp [setG, h]

/-- The world with a new block, some orders having been drawn. -/
structure NewBlk (w w' : World) (o : Obj) : Prop where
  os : w'.os = w.os
  tape : w'.tape = w.tape
  output : w'.output = w.output
  size : w'.heap.size = w.heap.size + 1
  old : ∀ {b : Nat}, b < w.heap.size → w'.heap[b]? = w.heap[b]?
  new : w'.heap[w.heap.size]? = some o
theorem NewBlk.alloc (w : World) (o : Obj) : NewBlk w (w.alloc o) o :=
  ⟨rfl, rfl, rfl, by simp, fun {b} hb => heap_alloc_old w o b hb, heap_alloc_new w o⟩

section
variable {P : Program} {dst : Option Tmp} {ty : TypeId} {pos : String} {aft : Array Edge} {gd : Option (Nat × Bool)} {fr : Nat} {S : Store} {Γ : Tab}

theorem Inv.lasts_new {γ : Nat → G} {F : FK} {w w' : World} {o : Obj} (hI : Inv F γ S w) (h : NewBlk w w' o) : Lasts F F w w' := ⟨FK.Le.refl F, fun b hb => h.old (hI.fz b hb)⟩

/-- A new token, that is no heap. -/
theorem HpInv.new {γ : Nat → G} {F : FK} {S : Store} {x : Blk} {g : G} {fr : Nat} (h : HpInv F γ S) (hlt : StoLt fr S) (hx : x.isHeap = false) (hg : ∀ j b, KidO F S j b → g.blk ≠ some b) :
    HpInv F (setG γ fr g) (S ++ [(fr, x)]) := by
  have hnew : ∀ t b, look (S ++ [(fr, x)]) t = some b → (look S t = some b ∧ t < fr) ∨ (t = fr ∧ b = x) := by
    intro t b hb
    rw [look_append] at hb
    cases hS : look S t with
    | some c => rw [hS] at hb; injection hb with hb; subst hb; exact .inl ⟨rfl, (hlt t _ hS).1⟩
    | none =>
      rw [hS] at hb
      simp only [look] at hb
      by_cases e : fr = t
      · subst e
        rw [beq_yes] at hb
        injection hb with hb
        exact .inr ⟨rfl, hb.symm⟩
      · rw [beq_no e] at hb; cases hb
  have hko : ∀ j b, KidO F (S ++ [(fr, x)]) j b → KidO F S j b := by
    rintro j b ⟨t, y, hy, hj⟩
    rcases hnew t y hy with ⟨h1, _⟩ | ⟨rfl, rfl⟩
    · exact ⟨t, y, h1, hj⟩
    · rw [kids_isHeap hj] at hx; cases hx
  refine ⟨fun t t' y y' h1 h2 h3 h4 => ?_, fun j j' b h1 h2 => h.kid j j' b (hko j b h1) (hko j' b h2), fun j b t h1 ⟨y, hy⟩ hb => ?_⟩
  · rcases hnew t y h1 with ⟨a1, _⟩ | ⟨rfl, rfl⟩
    · rcases hnew t' y' h2 with ⟨b1, _⟩ | ⟨rfl, rfl⟩
      · exact h.uniq t t' y y' a1 b1 h3 h4
      · rw [h4] at hx; cases hx
    · rw [h3] at hx; cases hx
  · rcases hnew t y hy with ⟨a1, a2⟩ | ⟨rfl, rfl⟩
    · rw [setG_ne γ g (by omega)] at hb
      exact h.sep j b t (hko j b h1) ⟨y, a1⟩ hb
    · rw [setG_self] at hb
      exact hg j b (hko j b h1) hb
theorem KidO.old {F : FK} {S : Store} {fr : Nat} {x : Blk} (hx : x.isHeap = false) {j b : Nat} (h : KidO F (S ++ [(fr, x)]) j b) : KidO F S j b := by
  obtain ⟨t, y, hy, hj⟩ := h
  rw [look_append] at hy
  cases hS : look S t with
  | some c => rw [hS] at hy; injection hy with hy; subst hy; exact ⟨t, _, hS, hj⟩
  | none =>
    rw [hS] at hy
    simp only [look] at hy
    by_cases e : fr = t
    · subst e
      rw [beq_yes] at hy
      injection hy with hy
      subst hy
      rw [kids_isHeap hj] at hx; cases hx
    · rw [beq_no e] at hy; cases hy

/-- A new block, with a token of its own. -/
theorem Post.new {γ : Nat → G} {F : FK} {w w' : World} {o : Obj} {g : G} {x : Blk} (hI : Inv F γ S w) (hlt : StoLt fr S) (h : NewBlk w w' o) (hg : g.blk = some w.heap.size)
    (hx : BlkOk F (setG γ fr g) w' fr x) (hnh : x.isHeap = false := by rfl) : Post fr γ F w S (setG γ fr g) F w' (S ++ [(fr, x)]) := by
  have hl : Lasts F F w w' := hI.lasts_new h
  have hnew : ∀ t b, look (S ++ [(fr, x)]) t = some b → (look S t = some b ∧ t < fr) ∨ (t = fr ∧ b = x) := by
    intro t b hb
    rw [look_append] at hb
    cases hS : look S t with
    | some c => rw [hS] at hb; injection hb with hb; subst hb; exact .inl ⟨rfl, (hlt t _ hS).1⟩
    | none =>
      rw [hS] at hb
      simp only [look] at hb
      by_cases e : fr = t
      · subst e
        rw [beq_yes] at hb
        injection hb with hb
        exact .inr ⟨rfl, hb.symm⟩
      · rw [beq_no e] at hb; cases hb
  have hne : ∀ t, t < fr → setG γ fr g t = γ t := fun t ht => setG_ne γ g (by omega)
  refine ⟨h.os, h.tape, h.output, by rw [h.size]; omega, fun b hb _ => h.old hb, fun t ht => hne t ht, FK.Le.refl F, fun _ h => .inl h, ?_, fun b hb => h.old (hI.fz b hb), ?_, fun _ => rfl⟩
  · rintro b (⟨t, ⟨y, hy⟩, hb⟩ | ⟨j, hb⟩)
    case inr => exact .inl (.inr ⟨j, hb.old hnh⟩)
    rcases hnew t y hy with ⟨h1, h2⟩ | ⟨rfl, rfl⟩
    · rw [hne t h2] at hb
      exact .inl (.tok ⟨y, h1⟩ hb)
    · rw [setG_self, hg] at hb
      injection hb with hb
      exact .inr (by omega)
  · refine ⟨fun t b hb => ?_, fun t t' b ht ht' hb hb' => ?_, ⟨fun b hb => (by rw [h.size]; have := hI.fz b hb; omega), hI.fz.gnd.mono (fun _ h => h) hl.heap⟩, hI.hp.new hlt hnh fun j b hj hb => (by rw [hg] at hb; injection hb with hb; have := (hI.kid_lt hj).1; omega)⟩
    · rcases hnew t b hb with ⟨h1, h2⟩ | ⟨rfl, rfl⟩
      · exact (hI.blk t b h1).lasts hl (hne t h2) (fun u hu => hne u ((hlt t b h1).2 u hu)) (fun c hc => ⟨h.old ((hI.blk t b h1).lt hc), fun h => h⟩) fun _ => ⟨rfl, fun j c hc => ⟨h.old ((hI.blk t b h1).kid hc).1, fun h => h⟩⟩
      · exact hx
    · obtain ⟨y, hy⟩ := ht
      obtain ⟨y', hy'⟩ := ht'
      rcases hnew t y hy with ⟨h1, h2⟩ | ⟨e1, e2⟩ <;> rcases hnew t' y' hy' with ⟨h3, h4⟩ | ⟨e3, e4⟩
      · rw [hne t h2] at hb
        rw [hne t' h4] at hb'
        exact hI.inj t t' b ⟨y, h1⟩ ⟨y', h3⟩ hb hb'
      · subst e3
        rw [hne t h2] at hb
        rw [setG_self, hg] at hb'
        injection hb' with hb'
        have := (hI.blk t y h1).lt hb
        omega
      · subst e1
        rw [hne t' h4] at hb'
        rw [setG_self, hg] at hb
        injection hb with hb
        have := (hI.blk t' y' h3).lt hb'
        omega
      · omega

/-- A token without a block: an empty row. -/
theorem Post.nilRow {γ : Nat → G} {F : FK} {w : World} {E : Nat} {e : Ty} (hI : Inv F γ S w) (hlt : StoLt fr S) (nl : Option Addr := none) : Post fr γ F w S (setG γ fr ⟨none, 0, 0, e.size, nl⟩) F w (S ++ [(fr, .row E e .plain [])]) := by
  have hnew : ∀ t b, look (S ++ [(fr, Blk.row E e .plain [])]) t = some b → (look S t = some b ∧ t < fr) ∨ (t = fr ∧ b = .row E e .plain []) := by
    intro t b hb
    rw [look_append] at hb
    cases hS : look S t with
    | some c => rw [hS] at hb; injection hb with hb; subst hb; exact .inl ⟨rfl, (hlt t _ hS).1⟩
    | none =>
      rw [hS] at hb
      simp only [look] at hb
      by_cases e : fr = t
      · subst e
        rw [beq_yes] at hb
        injection hb with hb
        exact .inr ⟨rfl, hb.symm⟩
      · rw [beq_no e] at hb; cases hb
  have hne : ∀ t, t < fr → setG γ fr ⟨none, 0, 0, e.size, nl⟩ t = γ t := fun t ht => setG_ne γ _ (by omega)
  refine ⟨rfl, rfl, rfl, Nat.le_refl _, fun _ _ _ => rfl, hne, FK.Le.refl _, fun _ h => .inl h, ?_, fun _ _ => rfl, ?_, fun _ => rfl⟩
  · rintro b (⟨t, ⟨y, hy⟩, hb⟩ | ⟨j, hb⟩)
    case inr => exact .inl (.inr ⟨j, hb.old rfl⟩)
    rcases hnew t y hy with ⟨h1, h2⟩ | ⟨rfl, rfl⟩
    · rw [hne t h2] at hb
      exact .inl (.tok ⟨y, h1⟩ hb)
    · rw [setG_self] at hb; cases hb
  · refine ⟨fun t b hb => ?_, fun t t' b ht ht' hb hb' => ?_, hI.fz, hI.hp.new hlt rfl fun j b hj hb => (by cases hb)⟩
    · rcases hnew t b hb with ⟨h1, h2⟩ | ⟨rfl, rfl⟩
      · exact (hI.blk t b h1).lasts (Lasts.refl F w) (hne t h2) (fun u hu => hne u ((hlt t b h1).2 u hu)) (fun c hc => ⟨rfl, fun h => h⟩) fun _ => ⟨rfl, fun j c hc => ⟨rfl, fun h => h⟩⟩
      · show RowOk F (setG γ t ⟨none, 0, 0, e.size, nl⟩ t) w E e .plain []
        rw [setG_self]
        exact ⟨rfl, rfl, .inl ⟨rfl, rfl⟩⟩
    · obtain ⟨y, hy⟩ := ht
      obtain ⟨y', hy'⟩ := ht'
      rcases hnew t y hy with ⟨h1, h2⟩ | ⟨e1, e2⟩ <;> rcases hnew t' y' hy' with ⟨h3, h4⟩ | ⟨e3, e4⟩
      · rw [hne t h2] at hb
        rw [hne t' h4] at hb'
        exact hI.inj t t' b ⟨y, h1⟩ ⟨y', h3⟩ hb hb'
      · subst e3; rw [setG_self] at hb'; cases hb'
      · subst e1; rw [setG_self] at hb; cases hb
      · omega

/-- The world with one block's cells turned. -/
structure Turned (w w' : World) (b : Nat) : Prop where
  os : w'.os = w.os
  tape : w'.tape = w.tape
  output : w'.output = w.output
  size : w'.heap.size = w.heap.size
  old : ∀ c, c ≠ b → w'.heap[c]? = w.heap[c]?

theorem Post.write {γ : Nat → G} {F : FK} {w w' : World} {tok b : Nat} {x y : Blk} (hI : Inv F γ S w) (hS : look S tok = some x) (hb : (γ tok).blk = some b) (hF : ¬ F b) (h : Turned w w' b)
    (hy : BlkOk F γ w' tok y) (hnh : y.isHeap = false := by rfl) : Post fr γ F w S γ F w' (upd S tok y) := by
  have hl : Lasts F F w w' := ⟨FK.Le.refl F, fun c hc => h.old c fun e => hF (e ▸ hc)⟩
  have hHas : ∀ t, Has (upd S tok y) t → Has S t := by
    rintro t ⟨z, hz⟩
    rw [look_upd] at hz
    split at hz
    · rename_i e; subst e; exact ⟨_, hS⟩
    · exact ⟨z, hz⟩
  refine ⟨h.os, h.tape, h.output, Nat.le_of_eq h.size.symm, fun c hc hm => h.old c fun e => hm (.tok ⟨x, hS⟩ (by rw [e]; exact hb)), fun _ _ => rfl, FK.Le.refl F, fun _ h => .inl h, ?_, hl.heap, ?_, fun _ => rfl⟩
  · rintro c (⟨t, ht, hc⟩ | ⟨j, hc⟩)
    · exact .inl (.tok (hHas t ht) hc)
    · exact .inl (.inr ⟨j, hc.upd rfl hnh⟩)
  · refine ⟨fun t z hz => ?_, fun t t' c ht ht' => hI.inj t t' c (hHas t ht) (hHas t' ht'), ⟨fun c hc => (by rw [h.size]; exact hI.fz c hc), hI.fz.gnd.mono (fun _ h => h) hl.heap⟩, hI.hp.upd rfl hnh ⟨x, hS⟩⟩
    rw [look_upd] at hz
    split at hz
    · rename_i e
      subst e
      injection hz with hz
      subst hz
      exact hy
    · rename_i hne
      exact (hI.blk t z hz).lasts hl rfl (fun _ _ => rfl) (fun c hc => ⟨h.old c fun e => hne (hI.inj tok t b ⟨x, hS⟩ ⟨z, hz⟩ hb (e ▸ hc)), fun h => h⟩) fun _ => ⟨rfl, fun j c hc => ⟨h.old c fun e => hI.hp.sep j c tok ⟨t, z, hz, hc⟩ ⟨x, hS⟩ (e ▸ hb), fun h => h⟩⟩

theorem RepA.new {γ : Nat → G} {F : FK} {w w' : World} {o : Obj} {g : G} {x : AV} {v : Value} (hI : Inv F γ S w) (h : NewBlk w w' o) (hx : ∀ t ∈ x.toks, t < fr) (hr : RepA γ F w x v) : RepA (setG γ fr g) F w' x v :=
  hr.lasts (hI.lasts_new h) fun t ht => setG_ne γ g (by have := hx t ht; omega)
theorem RepCs.new {γ : Nat → G} {F : FK} {w w' : World} {o : Obj} {g : G} {cs : List C} {vs : List Value} (hI : Inv F γ S w) (h : NewBlk w w' o) (hx : ∀ t ∈ cs.flatMap C.toks, t < fr) (hr : All2 (RepC γ F w) cs vs) : All2 (RepC (setG γ fr g) F w') cs vs :=
  RepCs.lasts (hI.lasts_new h) (fun t ht => setG_ne γ g (by have := hx t ht; omega)) hr

end
end Go.Ab
/-! Stores. -/
set_option linter.unusedVariables false
set_option linter.unusedSimpArgs false
namespace Go.Ab

section
variable {P : Program} {dst : Option Tmp} {ty : TypeId} {pos : String} {aft : Array Edge} {gd : Option (Nat × Bool)} {fr : Nat} {S : Store} {Γ : Tab}

end
end Go.Ab
/-! Values built; rows made. -/
set_option linter.unusedVariables false
set_option linter.unusedSimpArgs false
namespace Go.Ab

section
variable {P : Program} {dst : Option Tmp} {ty : TypeId} {pos : String} {aft : Array Edge} {gd : Option (Nat × Bool)} {fr : Nat} {S : Store} {Γ : Tab}

end
end Go.Ab
/-! Slice literals, conversions, append. -/
set_option linter.unusedVariables false
set_option linter.unusedSimpArgs false
namespace Go.Ab

section
variable {P : Program} {dst : Option Tmp} {ty : TypeId} {pos : String} {aft : Array Edge} {gd : Option (Nat × Bool)} {fr : Nat} {S : Store} {Γ : Tab}

end
end Go.Ab
/-! Conversions, append. -/
set_option linter.unusedVariables false
set_option linter.unusedSimpArgs false
namespace Go.Ab

section
variable {P : Program} {dst : Option Tmp} {ty : TypeId} {pos : String} {aft : Array Edge} {gd : Option (Nat × Bool)} {fr : Nat} {S : Store} {Γ : Tab}

theorem Post.drop {γ γ' : Nat → G} {F F' : FK} {w w' : World} {S' : Store} (h : Post fr γ F w S γ' F' w' S') (f : Nat → Bool) (hd : ∀ t x, look S' t = some x → x.isHeap = true → f t = true) : Post fr γ F w S γ' F' w' (keep f S') :=
  ⟨h.os, h.tape, h.output, h.size, h.heap, h.gam, h.sub, h.fnew, fun b hb => h.mine b hb.part, h.frz, h.inv.part f, fun hn => h.kid0 (noHeap_of fun t x hx => by
    cases hh : x.isHeap with
    | false => rfl
    | true =>
      have := noHeap_look hn (t := t) (x := x) (by rw [look_keep, hd t x hx hh]; exact hx)
      rw [hh] at this
      cases this)⟩

end
end Go.Ab
