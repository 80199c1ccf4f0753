/- An abstract interpreter over the model's code: the definitions. Values are heap-free, or name rows and variables by numbers ('tokens') whose contents a store holds. -/
import Derived.Orders
import Derived.Deep.LoopGhost
import Derived.Laws.AppendOwn
import Derived.Laws.MakeOwn
import Derived.Laws.BytesArg
import Derived.Laws.BytesString
import Derived.KernelRfl
/-! An abstract interpreter over the model's code: the definitions. Values are heap-free, or name rows and variables by numbers ('tokens') whose contents a store holds. -/
set_option linter.unusedVariables false
namespace Go.Ab

/-- The type of a piece of data that nobody writes any more. -/
inductive Ty where
  | int (k : IntKind)
  | bool
  | str
  | pair (a b : Ty)
  | slice (e : Ty)
  deriving DecidableEq

@[reducible] def Ty.den : Ty → Type
  | .int _ => Int
  | .bool => Bool
  | .str => ByteArray
  | .pair a b => a.den × b.den
  | .slice e => List e.den

def Ty.size : Ty → Nat
  | .pair a b => a.size + b.size
  | _ => 1

def Ty.dflt : (t : Ty) → t.den
  | .int _ => (0 : Int)
  | .bool => false
  | .str => ByteArray.empty
  | .pair a b => (a.dflt, b.dflt)
  | .slice _ => []

inductive NilK where
  | ptr | fn | iface | map
  deriving DecidableEq

def NilK.val : NilK → Value
  | .ptr => .pointer none
  | .fn => .nilFunc
  | .iface => .nilIface
  | .map => .map none

/-- What one cell holds. -/
inductive C where
  | int (k : IntKind) (n : Int)
  | bool (b : Bool)
  | str (s : ByteArray)
  | ro (e : Ty) (xs : List e.den)
  | emp
  | own (t : Nat)
  | ptr (t off : Nat)
  | eptr (t : Nat) (i : Int) (fo : Nat)
  | aptr (t off n : Nat) (i : Int)
  | rptr (e : Ty) (x : e.den) (fo : Nat)
  | fn (f : Nat) (caps : List Nat)
  | nil (k : NilK)
  | dead

inductive V1 where
  | one (c : C)
  | agg (cs : List C)

inductive AV where
  | v (x : V1)
  | tup (l : List V1)
  | undef

@[reducible] def one (c : C) : AV := .v (.one c)
@[reducible] def aggr (cs : List C) : AV := .v (.agg cs)

/-- How a row lies: as made; with the mark that []byte(s) lays behind its last cell; no longer written by anybody. -/
inductive RowK where
  | plain | mark | frz
  deriving DecidableEq

/-- A block: a variable's cells; or a row of which one slice, from its first element on, is the only way in. -/
inductive Blk where
  | var (cs : List C)
  | row (E : Nat) (e : Ty) (m : RowK) (xs : List e.den)

abbrev Store := List (Nat × Blk)
abbrev Env := List (Nat × AV)

def look {α : Type} : List (Nat × α) → Nat → Option α
  | [], _ => none
  | p :: l, j => bif Nat.beq p.1 j then some p.2 else look l j

def upd {α : Type} : List (Nat × α) → Nat → α → List (Nat × α)
  | [], j, x => [(j, x)]
  | p :: l, j, x => bif Nat.beq p.1 j then (j, x) :: l else p :: upd l j x

def memb : List Nat → Nat → Bool
  | [], _ => false
  | i :: l, j => bif Nat.beq i j then true else memb l j

def keep {α : Type} (f : Nat → Bool) : List (Nat × α) → List (Nat × α)
  | [] => []
  | p :: l => bif f p.1 then p :: keep f l else keep f l

/-- A state; 'args': what has become of the tokens that were handed in. -/
structure St where
  env : Env
  sto : Store
  nxt : Nat
  args : List (Option Nat)

/-! ### Data laid out, and put together -/
def Ty.explode : (t : Ty) → t.den → List C
  | .int k, x => [.int k x]
  | .bool, x => [.bool x]
  | .str, x => [.str x]
  | .pair a b, x => a.explode x.1 ++ b.explode x.2
  | .slice e, x => [.ro e x]

def Ty.implode : (t : Ty) → List C → Option (t.den × List C)
  | .int k, l => match l with
    | .int k' n :: l => if k = k' then some (n, l) else none
    | _ => none
  | .bool, l => match l with
    | .bool b :: l => some (b, l)
    | _ => none
  | .str, l => match l with
    | .str s :: l => some (s, l)
    | _ => none
  | .slice e, l => match l with
    | .ro e' xs :: l => if h : e' = e then some (cast (congrArg (fun z => List (Ty.den z)) h) xs, l) else none
    | .emp :: l => some ([], l)
    | _ => none
  | .pair a b, l =>
    match a.implode l with
    | some (x, l') => match b.implode l' with
      | some (y, l'') => some ((x, y), l'')
      | none => none
    | none => none

def Ty.whole (t : Ty) (l : List C) : Option t.den :=
  match t.implode l with
  | some (x, []) => some x
  | _ => none

def V1.cells : V1 → List C
  | .one c => [c]
  | .agg cs => cs

def C.toks : C → List Nat
  | .own t | .ptr t _ | .eptr t _ _ | .aptr t _ _ _ => [t]
  | .fn _ caps => caps
  | _ => []
def V1.toks (x : V1) : List Nat := x.cells.flatMap C.toks
def AV.toks : AV → List Nat
  | .v x => x.toks
  | .tup l => l.flatMap V1.toks
  | .undef => []
def Blk.toks : Blk → List Nat
  | .var cs => cs.flatMap C.toks
  | .row .. => []

/-- The tokens that values lead to, in the order in which they are met. -/
def reachGo (S : Store) : Nat → List Nat → List Nat → List Nat
  | 0, _, acc => acc
  | _ + 1, [], acc => acc
  | n + 1, t :: todo, acc =>
    bif memb acc t then reachGo S n todo acc else
    match look S t with
    | some b => reachGo S n (todo ++ b.toks) (acc ++ [t])
    | none => reachGo S n todo acc
def reach (S : Store) (l : List AV) : List Nat := reachGo S 200 (l.flatMap AV.toks) []

/-! ### Names of tokens turned -/
def idxOf : List Nat → Nat → Nat → Option Nat
  | [], _, _ => none
  | i :: l, t, n => bif Nat.beq i t then some n else idxOf l t (n + 1)

def C.ren (f : Nat → Option Nat) : C → C
  | .own t => match f t with | some u => .own u | none => .dead
  | .ptr t o => match f t with | some u => .ptr u o | none => .dead
  | .eptr t i o => match f t with | some u => .eptr u i o | none => .dead
  | .aptr t o n i => match f t with | some u => .aptr u o n i | none => .dead
  | .fn g caps => match caps.mapM f with | some l => .fn g l | none => .dead
  | c => c
def V1.ren (f : Nat → Option Nat) : V1 → V1
  | .one c => .one (c.ren f)
  | .agg cs => .agg (cs.map (C.ren f))
def AV.ren (f : Nat → Option Nat) : AV → AV
  | .v x => .v (x.ren f)
  | .tup l => .tup (l.map (V1.ren f))
  | .undef => .undef
def Blk.ren (f : Nat → Option Nat) : Blk → Blk
  | .var cs => .var (cs.map (C.ren f))
  | b => b

/-! ### Types -/
inductive TD where
  | int (k : IntKind)
  | bool
  | str
  | ptr (e : Nat)
  | slice (e : Nat) (ty : Ty)
  | array (n e : Nat)
  | struct (fs : List (Nat × Nat × Nat))   -- type, place, size
  | other
/-- A type: what it is, its cells, its bytes, is it a struct or an array; its zero value, if it can be told; may two values be compared field by field. -/
structure TR where
  d : TD
  size : Nat
  bytes : Nat
  agg : Bool
  zero : Option (List C)
  eq : Bool

abbrev Tab := List (Nat × TR)

/-! ### What an operation comes to -/
inductive Res : Type 1 where
  | ok (v : AV) (S : Store)
  | chk (c : Bool) (v : AV) (S : Store)
  | call (R : Type) (m : Option R) (f : R → AV × Store)
  | fail

abbrev Table := List (Nat × (List AV → Store → Res))

def lookT (T : Table) (f : Nat) (args : List AV) (S : Store) : Res :=
  match T with
  | [] => .fail
  | p :: l => bif Nat.beq p.1 f then p.2 args S else lookT l f args S

def cellConst : Value → C
  | .int k n => .int k n
  | .bool b => .bool b
  | .string s => .str s
  | .slice none 0 0 => .emp
  | .pointer none => .nil .ptr
  | .nilFunc => .nil .fn
  | .nilIface => .nil .iface
  | .map none => .nil .map
  | _ => .dead
def constV : Value → AV
  | .agg cs => aggr (cs.toList.map cellConst)
  | .tuple _ => .undef
  | v => one (cellConst v)

def evalA (env : Env) : Operand → AV
  | .tmp t => match look env t with | some v => v | none => .undef
  | .const v => constV v
  | .func f => one (.fn f [])
  | .global _ => .undef

def bt (s : ByteArray) (i : Int) : Int := if h : i.toNat < s.size then ((s[i.toNat]'h).toNat : Int) else 0
def strEq (x y : ByteArray) : Bool := x.toList == y.toList
def strLt (x y : ByteArray) : Bool := Op.bytesLess x.toList y.toList
def bits (op : BinOp) (k : IntKind) (x y : Int) : Int :=
  let a := BitVec.ofInt k.bits x
  let b := BitVec.ofInt k.bits y
  match op with
  | .and => k.wrap (a &&& b).toNat
  | .or => k.wrap (a ||| b).toNat
  | .xor => k.wrap (a ^^^ b).toNat
  | _ => k.wrap (a &&& ~~~b).toNat
def shlI (k : IntKind) (x y : Int) : Int := k.wrap (x * 2 ^ (min y.toNat k.bits))
def shrI (k : IntKind) (x y : Int) : Int := x.fdiv (2 ^ (min y.toNat k.bits))
def bytesOf (s : ByteArray) : List Int := s.data.toList.map fun b => (b.toNat : Int)

/-- The whole numbers of cells of one kind. -/
def intCells : List C → Option (IntKind × List Int)
  | [.int k n] => some (k, [n])
  | .int k n :: l => match intCells l with
    | some (k', ns) => if k = k' then some (k, n :: ns) else none
    | none => none
  | _ => none

def intBin (op : BinOp) (k : IntKind) (x y : Int) (S : Store) : Res :=
  match op with
  | .add => .ok (one (.int k (k.wrap (x + y)))) S
  | .sub => .ok (one (.int k (k.wrap (x - y)))) S
  | .mul => .ok (one (.int k (k.wrap (x * y)))) S
  | .quo => .chk (!decide (y = 0)) (one (.int k (k.wrap (x.tdiv y)))) S
  | .rem => .chk (!decide (y = 0)) (one (.int k (x.tmod y))) S
  | .and | .or | .xor | .andNot => .ok (one (.int k (bits op k x y))) S
  | .eql => .ok (one (.bool (x == y))) S
  | .neq => .ok (one (.bool (x != y))) S
  | .lss => .ok (one (.bool (decide (x < y)))) S
  | .leq => .ok (one (.bool (decide (x ≤ y)))) S
  | .gtr => .ok (one (.bool (decide (x > y)))) S
  | .geq => .ok (one (.bool (decide (x ≥ y)))) S
  | _ => .fail

def strBin (op : BinOp) (x y : ByteArray) (S : Store) : Res :=
  match op with
  | .add => .chk (decide (x.size + y.size ≤ 9223372036854775807)) (one (.str (x ++ y))) S
  | .eql => .ok (one (.bool (strEq x y))) S
  | .neq => .ok (one (.bool (!strEq x y))) S
  | .lss => .ok (one (.bool (strLt x y))) S
  | .leq => .ok (one (.bool (strLt x y || strEq x y))) S
  | .gtr => .ok (one (.bool (!(strLt x y || strEq x y)))) S
  | .geq => .ok (one (.bool (!strLt x y))) S
  | _ => .fail

def partA (agg : Bool) (size off : Nat) (cs : List C) : Option AV :=
  bif agg then (bif Nat.ble (off + size) cs.length then some (aggr ((cs.drop off).take size)) else none)
  else match cs[off]? with
    | some c => some (one c)
    | none => none

def C.live : C → Bool
  | .dead => false
  | _ => true

/-- Cells from a place on turned to others. -/
def splice (cs : List C) (off : Nat) (new : List C) : List C := cs.take off ++ new ++ cs.drop (off + new.length)

def setNth (l : List Int) (i : Nat) (v : Int) : List Int := l.set i v


def trOf (Γ : Tab) (t : Nat) : Option TR := look Γ t

/-- Two values of a type compared. -/
def eqFs (f : Nat → List C → List C → Option Bool) : List (Nat × Nat × Nat) → List C → List C → Option Bool
  | [], _, _ => some true
  | (t, o, s) :: l, xs, ys => match f t ((xs.drop o).take s) ((ys.drop o).take s), eqFs f l xs ys with
    | some a, some b => some (a && b)
    | _, _ => none
def eqTy (Γ : Tab) : Nat → Nat → List C → List C → Option Bool
  | 0, _, _, _ => none
  | n + 1, t, xs, ys =>
    match trOf Γ t with
    | some r => match r.d, xs, ys with
      | .int _, [.int k a], [.int k' b] => if k = k' then some (a == b) else none
      | .bool, [.bool a], [.bool b] => some (a == b)
      | .str, [.str a], [.str b] => some (strEq a b)
      | .struct fs, xs, ys => bif r.eq then eqFs (eqTy Γ n) fs xs ys else none
      | _, _, _ => none
    | none => none

def binA (Γ : Tab) (op : BinOp) (t : Nat) (x y : AV) (S : Store) : Res :=
  match x, y with
  | .v (.one (.int k a)), .v (.one (.int k' b)) =>
    match op with
    | .shl => .chk (decide (0 ≤ b)) (one (.int k (shlI k a b))) S
    | .shr => .chk (decide (0 ≤ b)) (one (.int k (shrI k a b))) S
    | _ => if k = k' then intBin op k a b S else .fail
  | .v (.one (.str a)), .v (.one (.str b)) => strBin op a b S
  | .v (.one (.bool a)), .v (.one (.bool b)) =>
    match op, trOf Γ t with
    | .eql, some { d := .bool, .. } => .ok (one (.bool (a == b))) S
    | .neq, some { d := .bool, .. } => .ok (one (.bool (!(a == b)))) S
    | _, _ => .fail
  | .v (.agg xs), .v (.agg ys) =>
    match op, trOf Γ t, eqTy Γ 20 t xs ys with
    | .eql, some { d := .struct _, eq := true, .. }, some b => .ok (one (.bool b)) S
    | .neq, some { d := .struct _, eq := true, .. }, some b => .ok (one (.bool (!b))) S
    | _, _, _ => .fail
  | _, _ => .fail

/-- What a slice reads as. -/
structure Seq where
  e : Ty
  xs : List e.den
def seqOf (S : Store) : AV → Option Seq
  | .v (.one (.own t)) => match look S t with
    | some (.row _ e _ xs) => some ⟨e, xs⟩
    | _ => none
  | .v (.one (.ro e xs)) => some ⟨e, xs⟩
  | _ => none

def loadA (Γ : Tab) (t : Nat) (x : AV) (S : Store) : Res :=
  match trOf Γ t with
  | none => .fail
  | some r =>
    match x with
    | .v (.one (.ptr tok off)) => match look S tok with
      | some (.var cs) => match partA r.agg r.size off cs with
        | some v => .ok v S
        | none => .fail
      | _ => .fail
    | .v (.one (.eptr tok i fo)) => match look S tok with
      | some (.row _ e _ xs) => match partA r.agg r.size fo (e.explode (xs.getD i.toNat e.dflt)) with
        | some v => .ok v S
        | none => .fail
      | _ => .fail
    | .v (.one (.rptr e y fo)) => match partA r.agg r.size fo (e.explode y) with
      | some v => .ok v S
      | none => .fail
    | .v (.one (.aptr tok off n i)) => match look S tok with
      | some (.var cs) =>
        bif Nat.ble (off + n) cs.length then
          match intCells ((cs.drop off).take n), r.agg with
          | some (k, ns), false => .ok (one (.int k (ns.getD i.toNat 0))) S
          | _, _ => .fail
        else .fail
      | _ => .fail
    | _ => .fail

def storeA (Γ : Tab) (t : Nat) (x v : AV) (S : Store) : Res :=
  match trOf Γ t, v with
  | some r, .v y =>
    bif Nat.beq y.cells.length r.size && y.cells.all C.live then
    match x with
    | .v (.one (.ptr tok off)) => match look S tok with
      | some (.var cs) =>
        bif Nat.ble (off + r.size) cs.length then .ok .undef (upd S tok (.var (splice cs off y.cells))) else .fail
      | _ => .fail
    | .v (.one (.eptr tok i fo)) => match look S tok with
      | some (.row E e .plain xs) => match e.whole (splice (e.explode (xs.getD i.toNat e.dflt)) fo y.cells) with
        | some z => bif Nat.ble (fo + r.size) e.size then .ok .undef (upd S tok (.row E e .plain (xs.set i.toNat z))) else .fail
        | none => .fail
      | some (.row E e .mark xs) => match e.whole (splice (e.explode (xs.getD i.toNat e.dflt)) fo y.cells) with
        | some z => bif Nat.ble (fo + r.size) e.size then .ok .undef (upd S tok (.row E e .mark (xs.set i.toNat z))) else .fail
        | none => .fail
      | _ => .fail
    | .v (.one (.aptr tok off n i)) => match look S tok, y with
      | some (.var cs), .one (.int k z) =>
        bif Nat.ble (off + n) cs.length then
          match intCells ((cs.drop off).take n) with
          | some (k', ns) => if k = k' then .ok .undef (upd S tok (.var (splice cs off ((setNth ns i.toNat z).map (C.int k))))) else .fail
          | none => .fail
        else .fail
      | _, _ => .fail
    | _ => .fail
    else .fail
  | _, _ => .fail

def fieldAddrA (Γ : Tab) (s : Nat) (x : AV) (f : Nat) (S : Store) : Res :=
  match trOf Γ s with
  | some { d := .struct fs, .. } => match fs[f]? with
    | some (_, off, size) =>
      bif Nat.beq size 0 then .fail else
      match x with
      | .v (.one (.ptr tok o)) => .ok (one (.ptr tok (o + off))) S
      | .v (.one (.eptr tok i o)) => .ok (one (.eptr tok i (o + off))) S
      | .v (.one (.rptr e y o)) => .ok (one (.rptr e y (o + off))) S
      | _ => .fail
    | none => .fail
  | _ => .fail

def fieldA (Γ : Tab) (s : Nat) (x : AV) (f : Nat) (S : Store) : Res :=
  match trOf Γ s, x with
  | some { d := .struct fs, .. }, .v (.agg cs) => match fs[f]? with
    | some (ft, off, _) => match trOf Γ ft with
      | some r => match partA r.agg r.size off cs with
        | some v => .ok v S
        | none => .fail
      | none => .fail
    | none => .fail
  | _, _ => .fail

def indexAddrA (Γ : Tab) (t : Nat) (x i : AV) (S : Store) : Res :=
  match trOf Γ t, i with
  | some { d := .slice _ te, .. }, .v (.one (.int _ n)) =>
    match x with
    | .v (.one (.own tok)) => match look S tok with
      | some (.row _ e _ xs) => bif Nat.beq e.size te.size then .chk (decide (0 ≤ n) && decide (n < (xs.length : Int))) (one (.eptr tok n 0)) S else .fail
      | _ => .fail
    | .v (.one (.ro e xs)) => bif Nat.beq e.size te.size then .chk (decide (0 ≤ n) && decide (n < (xs.length : Int))) (one (.rptr e (xs.getD n.toNat e.dflt) 0)) S else .fail
    | _ => .fail
  | some { d := .array len e, .. }, .v (.one (.int _ n)) =>
    match x, trOf Γ e with
    | .v (.one (.ptr tok off)), some r =>
      bif Nat.beq r.size 1 && !r.agg then .chk (decide (0 ≤ n) && decide (n < (len : Int))) (one (.aptr tok off len n)) S
      else .fail
    | _, _ => .fail
  | _, _ => .fail

def indexA (Γ : Tab) (t : Nat) (x i : AV) (S : Store) : Res :=
  match x, i with
  | .v (.one (.str s)), .v (.one (.int _ n)) =>
    match trOf Γ t with
    | some { d := .str, .. } => .chk (decide (0 ≤ n) && decide (n < (s.size : Int))) (one (.int .u8 (bt s n))) S
    | _ => .fail
  | .v (.agg cs), .v (.one (.int _ n)) =>
    match trOf Γ t with
    | some { d := .array len e, .. } => match trOf Γ e, intCells cs with
      | some r, some (k, ns) => bif Nat.beq r.size 1 && !r.agg && Nat.beq len cs.length then .chk (decide (0 ≤ n) && decide (n < (len : Int))) (one (.int k (ns.getD n.toNat 0))) S else .fail
      | _, _ => .fail
    | _ => .fail
  | _, _ => .fail

def sliceBds (lo hi n : Int) : Bool := decide (0 ≤ lo) && (decide (lo ≤ hi) && decide (hi ≤ n))
def intA : Option AV → Int → Option Int
  | none, d => some d
  | some (.v (.one (.int _ n))), _ => some n
  | _, _ => none

/-- A slice cut (what is cut of a row is no longer written). -/
def sliceA (Γ : Tab) (t : Nat) (x : AV) (lo hi : Option AV) (S : Store) : Res :=
  match trOf Γ t, x with
  | some { d := .str, .. }, .v (.one (.str s)) =>
    match intA lo 0, intA hi (s.size : Int) with
    | some l, some h => .chk (sliceBds l h (s.size : Int)) (one (.str (s.extract l.toNat h.toNat))) S
    | _, _ => .fail
  | some { d := .slice _ te, .. }, .v (.one (.ro e xs)) =>
    match intA lo 0, intA hi (xs.length : Int), Nat.beq e.size te.size with
    | some l, some h, true => .chk (sliceBds l h (xs.length : Int)) (one (.ro e ((xs.take h.toNat).drop l.toNat))) S
    | _, _, _ => .fail
  | some { d := .slice _ te, .. }, .v (.one (.own tok)) => match look S tok with
    | some (.row E e _ xs) =>
      match intA lo 0, intA hi (xs.length : Int), Nat.beq e.size te.size with
      | some l, some h, true => .chk (sliceBds l h (xs.length : Int)) (one (.ro e ((xs.take h.toNat).drop l.toNat))) (upd S tok (.row E e .frz xs))
      | _, _, _ => .fail
    | _ => .fail
  | _, _ => .fail

def convertA (Γ : Tab) (src dst : Nat) (x : AV) (fr : Nat) (S : Store) : Res :=
  match trOf Γ src, trOf Γ dst with
  | some a, some b =>
    match a.d, b.d, x with
    | .int _, .int k, .v (.one (.int _ n)) => .ok (one (.int k (k.wrap n))) S
    | .str, .str, .v (.one (.str s)) => .ok x S
    | .str, .slice e (.int .u8), .v (.one (.str s)) => match trOf Γ e with
      | some { d := .int .u8, .. } => .chk (decide (s.size ≤ 9223372036854775807)) (one (.own fr)) (S ++ [(fr, .row e (.int .u8) .mark (bytesOf s))])
      | _ => .fail
    | .slice e (.int .u8), .str, x => match trOf Γ e, seqOf S x with
      | some { d := .int .u8, .. }, some ⟨.int .u8, xs⟩ => .ok (one (.str (strOfNums xs))) S
      | _, _ => .fail
    | _, _, _ => .fail
  | _, _ => .fail

def sameOp : Operand → Operand → Bool
  | .tmp i, .tmp j => Nat.beq i j
  | .const (.int .i64 m), .const (.int .i64 n) => decide (m = n)
  | _, _ => false

def makeA (Γ : Tab) (t : Nat) (same : Bool) (n c : AV) (fr : Nat) (S : Store) : Res :=
  match trOf Γ t, n, c with
  | some { d := .slice e ty, .. }, .v (.one (.int .i64 n)), .v (.one (.int .i64 c)) => match trOf Γ e with
    | some { zero := some _, bytes := by_, .. } =>
      bif same then .chk (decide (0 ≤ n) && decide (n * by_ ≤ 140737488355328) && decide (n ≤ 281474976710656)) (one (.own fr)) (S ++ [(fr, .row e ty .plain (List.replicate n.toNat ty.dflt))])
      else bif decide (n = 0) then .chk (decide (0 ≤ c) && decide (c * by_ ≤ 140737488355328) && decide (c ≤ 281474976710656)) (one (.own fr)) (S ++ [(fr, .row e ty .plain [])])
      else .fail
    | _ => .fail
  | _, _, _ => .fail

def partsA (places : Nat → Option (Nat × Nat)) : List Nat → List AV → List C → Option (List C)
  | [], [], cs => some cs
  | i :: is, .v x :: vs, cs => match places i with
    | some (off, size) => bif Nat.beq x.cells.length size && Nat.ble (off + size) cs.length then partsA places is vs (splice cs off x.cells) else none
    | none => none
  | _, _, _ => none

def liveA : AV → Bool
  | .v y => y.cells.all C.live
  | _ => true

def buildA (Γ : Tab) (t : Nat) (is : List Nat) (vs : List AV) (S : Store) : Res :=
  match trOf Γ t with
  | some { d := .struct fs, zero := some z, .. } => match partsA (fun i => match fs[i]? with | some (_, o, s) => some (o, s) | none => none) is vs z with
    | some cs => .ok (aggr cs) S
    | none => .fail
  | some { d := .array _ e, zero := some z, .. } => match trOf Γ e with
    | some r => match partsA (fun i => some (i * r.size, r.size)) is vs z with
      | some cs => .ok (aggr cs) S
      | none => .fail
    | none => .fail
  | _ => .fail

/-- The elements of a slice literal, none left out. -/
def elemsA (ty : Ty) : List AV → Option (List ty.den)
  | [] => some []
  | .v x :: vs => match ty.whole x.cells, elemsA ty vs with
    | some y, some ys => some (y :: ys)
    | _, _ => none
  | _ => none
def isUp : List Nat → Nat → Bool
  | [], _ => true
  | i :: is, n => Nat.beq i n && isUp is (n + 1)

def buildSliceA (Γ : Tab) (t len : Nat) (is : List Nat) (vs : List AV) (fr : Nat) (S : Store) : Res :=
  match trOf Γ t with
  | some { d := .slice e ty, .. } => match trOf Γ e, elemsA ty vs with
    | some { zero := some _, .. }, some xs => bif isUp is 0 && Nat.beq is.length len && Nat.ble (len * ty.size) 1000 then .ok (one (.own fr)) (S ++ [(fr, .row e ty .plain xs)]) else .fail
    | _, _ => .fail
  | _ => .fail

def zeroRow (Γ : Tab) (t : Nat) : Option (Nat × Ty × Nat) :=
  match trOf Γ t with
  | some { d := .slice e ty, .. } => match trOf Γ e with
    | some { zero := some _, bytes := b, .. } => some (e, ty, b)
    | _ => none
  | _ => none

def appendTo (E : Nat) (ty : Ty) (by_ : Nat) (xs ys : List ty.den) (fr : Nat) (S : Store) : Res :=
  .chk (decide ((xs.length + ys.length) * by_ ≤ 140737488355328) && decide (xs.length + ys.length ≤ 9223372036854775807)) (one (.own fr)) (S ++ [(fr, .row E ty .plain (xs ++ ys))])

def castSeq (ty : Ty) (q : Seq) : Option (List ty.den) :=
  if h : q.e = ty then some (cast (congrArg (fun z => List (Ty.den z)) h) q.xs) else none

def tokOf : AV → Nat → Bool
  | .v (.one (.own t)), u => Nat.beq t u
  | _, _ => false

/-- What is appended. -/
def srcA (Γ : Tab) (tx : Nat) (ty : Ty) (x : AV) (S : Store) : Option (List ty.den) :=
  match trOf Γ tx with
  | some { d := .slice _ _, .. } => match x with
    | .v (.one .emp) => some []
    | x => match seqOf S x with
      | some q => castSeq ty q
      | none => none
  | some { d := .str, .. } => match x with
    | .v (.one (.str z)) => castSeq ty ⟨.int .u8, bytesOf z⟩
    | _ => none
  | _ => none

def appendA (Γ : Tab) (ts : List Nat) (s x : AV) (fr : Nat) (S : Store) : Res :=
  match ts with
  | [t, tx] =>
    match zeroRow Γ t with
    | none => .fail
    | some (E, ty, b) =>
      match srcA Γ tx ty x S with
      | none => .fail
      | some ys =>
        match s with
        | .v (.one .emp) => appendTo E ty b [] ys fr S
        | .v (.one (.own t)) =>
          bif tokOf x t then .fail else
          match look S t with
          | some (.row E' e' .plain xs) => if E' = E then match castSeq ty ⟨e', xs⟩ with
            | some xs => appendTo E ty b xs ys fr (keep (fun i => !Nat.beq i t) S)
            | none => .fail
            else .fail
          | _ => .fail
        | _ => .fail
  | _ => .fail

def lenA (Γ : Tab) (ts : List Nat) (x : AV) (S : Store) : Res :=
  match ts with
  | t :: _ => match trOf Γ t with
    | some { d := .str, .. } => match x with
      | .v (.one (.str s)) => .ok (one (.int .i64 (s.size : Int))) S
      | _ => .fail
    | some { d := .slice _ _, .. } => match x with
      | .v (.one .emp) => .ok (one (.int .i64 0)) S
      | x => match seqOf S x with
        | some q => .ok (one (.int .i64 (q.xs.length : Int))) S
        | none => .fail
    | some { d := .array n _, .. } => .ok (one (.int .i64 (n : Int))) S
    | _ => .fail
  | [] => .fail

def mxI (x y : Int) : Int := if y > x then y else x
def mnI (x y : Int) : Int := if y < x then y else x
def foldI (f : Int → Int → Int) (k : IntKind) : Int → List AV → Option Int
  | x, [] => some x
  | x, .v (.one (.int k' y)) :: l => if k = k' then foldI f k (f x y) l else none
  | _, _ => none

def builtinA (Γ : Tab) (b : Builtin) (ts : List Nat) (args : List AV) (fr : Nat) (S : Store) : Res :=
  match b, args with
  | .len, [x] => lenA Γ ts x S
  | .append, [s, x] => appendA Γ ts s x fr S
  | .max, .v (.one (.int k x)) :: l => match foldI mxI k x l with
    | some z => .ok (one (.int k z)) S
    | none => .fail
  | .min, .v (.one (.int k x)) :: l => match foldI mnI k x l with
    | some z => .ok (one (.int k z)) S
    | none => .fail
  | _, _ => .fail

/-- A token of a callee, told as the caller's. -/
def backTok (ts : List Nat) (fr : Nat) (t : Nat) : Option Nat :=
  match ts[t]? with
  | some u => some u
  | none => some (fr + (t - ts.length))
def renSto (ts : List Nat) (f : Nat → Option Nat) (S : Store) : List Nat → Nat → Store
  | [], _ => []
  | t :: l, n => match look S t with
    | some b => (n, b.ren f) :: renSto ts f S l (n + 1)
    | none => renSto ts f S l (n + 1)
def backSto (g : Nat → Option Nat) : Store → Store
  | [] => []
  | (t, b) :: l => match g t with
    | some u => (u, b.ren g) :: backSto g l
    | none => backSto g l

def callA (T : Table) (f : Nat) (args : List AV) (fr : Nat) (S : Store) : Res :=
  let ts := reach S args
  let σ := fun t => idxOf ts t 0
  let g := backTok ts fr
  match lookT T f (args.map (AV.ren σ)) (renSto ts σ S ts 0) with
  | .ok v S' => .ok (v.ren g) (backSto g S')
  | .chk c v S' => .chk c (v.ren g) (backSto g S')
  | .call R m h => .call R m fun x => ((h x).1.ren g, backSto g (h x).2)
  | .fail => .fail

def unA (op : UnOp) (x : AV) (S : Store) : Res :=
  match op, x with
  | .neg, .v (.one (.int k n)) => .ok (one (.int k (k.wrap (0 - n)))) S
  | .not, .v (.one (.bool b)) => .ok (one (.bool (!b))) S
  | _, _ => .fail

def pickA (c a b : AV) (S : Store) : Res :=
  match c, a, b with
  | .v (.one (.bool c)), .v (.one (.bool a)), .v (.one (.bool b)) => .ok (one (.bool (bif c then a else b))) S
  | .v (.one (.bool c)), .v (.one (.int k a)), .v (.one (.int k' b)) => if k = k' then .ok (one (.int k (bif c then a else b))) S else .fail
  | .v (.one (.bool true)), a, _ => .ok a S
  | .v (.one (.bool false)), _, b => .ok b S
  | _, _, _ => .fail

/-- What a function literal captures: variables. -/
def capsOf : List AV → Option (List Nat)
  | [] => some []
  | .v (.one (.ptr t 0)) :: vs => match capsOf vs with
    | some l => some (t :: l)
    | none => none
  | _ => none

/-- One operation, over the values of its operands and what they lead to. -/
def stepOp (Γ : Tab) (T : Table) (op : Op) (args : List AV) (fr : Nat) (S : Store) : Res :=
  match op, args with
  | .move _, [x] => .ok x S
  | .assign _, [x] => .ok x S
  | .pick _ _ _, [c, a, b] => pickA c a b S
  | .alloc t, [] => match trOf Γ t with
    | some { zero := some z, .. } => .ok (one (.ptr fr 0)) (S ++ [(fr, .var z)])
    | _ => .fail
  | .box t _, [.v x] => bif x.cells.all C.live then .ok (one (.ptr fr 0)) (S ++ [(fr, .var x.cells)]) else .fail
  | .build t ps, vs => bif vs.all liveA then buildA Γ t (ps.toList.map (·.1)) vs S else .fail
  | .buildSlice t n ps, vs => buildSliceA Γ t n (ps.toList.map (·.1)) vs fr S
  | .load t _, [x] => loadA Γ t x S
  | .store t _ _, [x, v] => storeA Γ t x v S
  | .nilCheck _, [x] => match x with
    | .v (.one (.ptr ..)) | .v (.one (.eptr ..)) | .v (.one (.rptr ..)) | .v (.one (.aptr ..)) | .v (.one (.fn ..)) => .ok x S
    | _ => .fail
  | .binOp b t _ _ _, [x, y] => binA Γ b t x y S
  | .unOp u _ _, [x] => unA u x S
  | .convert s d _, [x] => convertA Γ s d x fr S
  | .makeSlice t l c, [n, m] => makeA Γ t (sameOp l c) n m fr S
  | .slice t _ (some _) (some _) none, [x, l, h] => sliceA Γ t x (some l) (some h) S
  | .slice t _ (some _) none none, [x, l] => sliceA Γ t x (some l) none S
  | .slice t _ none (some _) none, [x, h] => sliceA Γ t x none (some h) S
  | .slice t _ none none none, [x] => sliceA Γ t x none none S
  | .fieldAddr s _ f, [x] => fieldAddrA Γ s x f S
  | .field s _ f, [x] => fieldA Γ s x f S
  | .indexAddr t _ _, [x, i] => indexAddrA Γ t x i S
  | .index t _ _, [x, i] => indexA Γ t x i S
  | .extract _ i, [.tup l] => match l[i]? with
    | some x => .ok (.v x) S
    | none => .fail
  | .call { callee := .builtin b, argTypes := ts, .. }, vs => builtinA Γ b ts.toList vs fr S
  | .call { callee := .value _, .. }, .v (.one (.fn f caps)) :: vs => callA T f (vs ++ caps.map fun t => one (.ptr t 0)) fr S
  | .makeFunc (.func f) first _, vs => bif Nat.beq first.size 0 then match capsOf vs with
    | some l => .ok (one (.fn f l)) S
    | none => .fail
    else .fail
  | _, _ => .fail

/-! ### Code -/
inductive X where
  | normal
  | exit (id : Nat)
  | ret

/-- What is kept where code is come to again: the slots, and those empty slices that are taken for rows of one's own. -/
structure Note where
  slots : List Nat
  proms : List (Nat × Nat × Ty)

def promote : List (Nat × Nat × Ty) → St → St
  | [], st => st
  | (i, E, e) :: l, st => match look st.env i with
    | some (.v (.one .emp)) => promote l { env := upd st.env i (one (.own st.nxt)), sto := st.sto ++ [(st.nxt, .row E e .plain [])], nxt := st.nxt + 1, args := st.args }
    | _ => promote l st

def slotsOf (env : Env) : List Nat → Env
  | [] => []
  | i :: l => match look env i with
    | some v => (i, v) :: slotsOf env l
    | none => slotsOf env l
def renEnv (f : Nat → Option Nat) : Env → Env
  | [] => []
  | (i, v) :: l => (i, v.ren f) :: renEnv f l
def valsOf : Env → List AV
  | [] => []
  | (_, v) :: l => v :: valsOf l

def argVals : List (Option Nat) → List AV
  | [] => []
  | some t :: l => one (.ptr t 0) :: argVals l
  | none :: l => argVals l
def renArgs (f : Nat → Option Nat) : List (Option Nat) → List (Option Nat)
  | [] => []
  | some t :: l => f t :: renArgs f l
  | none :: l => none :: renArgs f l
def normSlots (slots : List Nat) (st : St) : St :=
  let e := slotsOf st.env slots
  let ts := reach st.sto (argVals st.args ++ valsOf e)
  let σ := fun t => idxOf ts t 0
  { env := renEnv σ e, sto := renSto ts σ st.sto ts 0, nxt := ts.length, args := renArgs σ st.args }
def norm (n : Note) (st : St) : St := normSlots n.slots (promote n.proms st)

abbrev Notes := List (Nat × Note)
def noted (ns : Notes) (p : Nat) (st : St) : St := match look ns p with
  | some n => norm n st
  | none => st

def topKey : Store → Nat → Nat
  | [], n => n
  | (t, _) :: l, n => topKey l (bif Nat.ble n t then t + 1 else n)
def allLt (n : Nat) : List Nat → Bool
  | [] => true
  | t :: l => Nat.blt t n && allLt n l
def stoLt (n : Nat) : Store → Bool
  | [] => true
  | (t, b) :: l => Nat.blt t n && (allLt n b.toks && stoLt n l)
def keysOk (ts : List Nat) (nx : Nat) : Store → Bool
  | [] => true
  | (t, _) :: l => (memb ts t || Nat.ble nx t) && keysOk ts nx l

def dstOk (N : Nat) : Option Nat → Bool
  | some d => Nat.blt d N
  | none => true
def putE (env : Env) (dst : Option Nat) (v : AV) : Env := match dst with
  | some d => upd env d v
  | none => env

/-- The state behind an operation. -/
def after (N : Nat) (st : St) (ts : List Nat) (dst : Option Nat) (v : AV) (S' : Store) : Option St :=
  let nx := topKey S' st.nxt
  bif keysOk ts st.nxt S' && (stoLt nx S' && (allLt nx v.toks && dstOk N dst)) then
    some { env := putE st.env dst v, sto := keep (fun t => !memb ts t) st.sto ++ S', nxt := nx, args := st.args }
  else none

/-- Is the operation wanted? Nothing: that can't be told. -/
def guardA (ops : Array Oper) (env : Env) (o : Oper) : Option (Option Bool) :=
  match o.guard with
  | none => some none
  | some (j, want) => match (ops[j]?).bind (·.dst) with
    | some d => match look env d with
      | some (.v (.one (.bool b))) => some (some (b == want))
      | some (.tup []) => some (some false)
      | _ => none
    | none => none

section
variable {R : Type}

def onAfter (x : Option St) (K : St → Option R) : Option R := match x with
  | some st => K st
  | none => none

def runRes (r : Res) (F : AV → Store → Option R) : Option R :=
  match r with
  | .ok v S => F v S
  | .chk c v S => bif c then F v S else none
  | .call _ m h => m.bind fun x => F (h x).1 (h x).2
  | .fail => none

def argsOf (env : Env) (o : Oper) : List AV := o.op.operands.toList.map (evalA env)

/-- Does the guard of another operation look at what one leaves? -/
def guards (ops : Array Oper) (d : Nat) : List Oper → Bool
  | [] => false
  | o :: l => (match o.guard with
    | some (j, _) => (match ops[j]? with
      | some x => (match x.dst with
        | some e => Nat.beq d e
        | none => false)
      | none => false)
    | none => false) || guards ops d l
def isGuard (ops : Array Oper) (o : Oper) : Bool := match o.dst with
  | some d => guards ops d ops.toList
  | none => false

/-- Ways parted at a value that guards look at. -/
def splitB (g : Bool) (v : AV) (F : AV → Option R) : Option R :=
  bif g then match v with
    | .v (.one (.bool b)) => bif b then F (one (.bool true)) else F (one (.bool false))
    | v => F v
  else F v
theorem splitB_eq {g : Bool} {v : AV} {F : AV → Option R} {r : R} (h : splitB g v F = some r) : F v = some r := by
  unfold splitB at h
  cases g with
  | false => exact h
  | true =>
    simp only [cond_true] at h
    split at h
    · rename_i b
      cases b <;> exact h
    · exact h

def evRun (Γ : Tab) (T : Table) (N : Nat) (g : Bool) (o : Oper) (st : St) (K : St → Option R) : Option R :=
  let args := argsOf st.env o
  let ts := reach st.sto args
  runRes (stepOp Γ T o.op args st.nxt (keep (memb ts) st.sto)) fun v S' => splitB g v fun v => onAfter (after N st ts o.dst v S') K

def evOper (Γ : Tab) (T : Table) (N : Nat) (ops : Array Oper) (o : Oper) (st : St) (K : St → Option R) : Option R :=
  match guardA ops st.env o with
  | none => none
  | some none => evRun Γ T N (isGuard ops o) o st K
  | some (some b) => bif b then evRun Γ T N (isGuard ops o) o st K else onAfter (after N st [] o.dst (.tup []) []) K

def evOps (Γ : Tab) (T : Table) (N : Nat) (ops : Array Oper) : List Oper → St → (St → Option R) → Option R
  | [], st, K => K st
  | o :: l, st, K => evOper Γ T N ops o st fun st' => evOps Γ T N ops l st' K

def loopN (body : (X → St → Option R) → St → Option R) (K : X → St → Option R) : Nat → St → Option R
  | 0, _ => none
  | n + 1, st => body (fun e st' => match e with
    | .normal => loopN body K n st'
    | e => K e st') st

def ev (Γ : Tab) (T : Table) (N : Nat) (D : Array Oper → St → (St → Option R) → Option R) (ns : Notes) (k : Nat) : Code → Nat → (X → St → Option R) → St → Option R
  | .skip, p, K, st => K .normal (noted ns p st)
  | .label _, p, K, st => K .normal (noted ns p st)
  | .exit id, p, K, st => K (.exit id) st
  | .ret, p, K, st => K .ret st
  | .region _ ops draw, p, K, st =>
    bif draw then D ops (noted ns p st) (K .normal) else evOps Γ T N ops ops.toList (noted ns p st) (K .normal)
  | .seq a b, p, K, st => ev Γ T N D ns k a (2 * p) (fun e st' => match e with
    | .normal => ev Γ T N D ns k b (2 * p + 1) K st'
    | e => K e st') (noted ns p st)
  | .cond c x y, p, K, st => match evalA st.env c with
    | .v (.one (.bool b)) => bif b then ev Γ T N D ns k x (2 * p) K st else ev Γ T N D ns k y (2 * p + 1) K st
    | _ => none
  | .block id c, p, K, st => ev Γ T N D ns k c (2 * p) (fun e st' => match e with
    | .exit i => bif Nat.beq i id then K .normal st' else K (.exit i) st'
    | e => K e st') (noted ns p st)
  | .loop c, p, K, st => loopN (fun K' st' => ev Γ T N D ns k c (2 * p) K' (noted ns (2 * p + 1) st')) K k st
  | _, _, _, _ => none

end
end Go.Ab
