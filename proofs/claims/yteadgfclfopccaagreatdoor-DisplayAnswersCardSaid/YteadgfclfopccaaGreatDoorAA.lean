/- Joined texts. -/
import Derived.Orders
import Derived.Lib.ItoaNum
import Derived.Deep.LoopGhost
import Derived.Laws.AppendOwn
import Derived.Laws.MakeOwn
import Derived.Laws.BytesArg
import Derived.Laws.BytesString
import Derived.KernelRfl
import Derived.Laws.IdiomCopy
import Derived.Laws.StructEq
import Derived.Laws.Cells
import Derived.Deep.AppendSrc
namespace Go.Ab
def groundL:List (Nat×Array Value):=[(3,(Lib.pow10Tab.map fun z=>Value.int .u64 z).toArray)]
def groundI:List Nat:=[]
end Go.Ab
set_option linter.unusedVariables false
namespace Go.Ab
inductive Ty where
 | int (k:IntKind)
 | bool
 | str
 | pair (a b:Ty)
 | slice (e:Ty)
 | ref (e:Ty)   -- a slice whose contents the heap of the state holds,by number
 deriving DecidableEq
@[reducible] def Ty.den:Ty->Type
 | .int _=>Int
 | .bool=>Bool
 | .str=>ByteArray
 | .pair a b=>a.den×b.den
 | .slice e=>List e.den
 | .ref _=>Nat
def Ty.size:Ty->Nat
 | .pair a b=>a.size+b.size
 | _=>1
def Ty.dflt:(t:Ty)->t.den
 | .int _=>(0:Int)
 | .bool=>false
 | .str=>ByteArray.empty
 | .pair a b=>(a.dflt,b.dflt)
 | .slice _=>[]
 | .ref _=>(0:Nat)
def Ty.hasRef:Ty->Bool
 | .pair a b=>a.hasRef||b.hasRef
 | .slice e=>e.hasRef
 | .ref _=>true
 | _=>false
inductive Kid (α:Type) where
 | dead
 | ro (xs:List α)
 | own (xs:List α) (c:Nat)
def kidAt {α:Type}(H:List (Kid α)):Nat->Kid α
 | 0=>.ro []
 | j+1=>match H[j]? with
  | some k=>k
  | none=>.dead
def kget {α:Type}(H:List (Kid α))(id:Nat):List α:=match kidAt H id with
 | .ro xs=>xs
 | .own xs _=>xs
 | .dead=>[]
def kalive {α:Type}(H:List (Kid α))(id:Nat):Bool:=match kidAt H id with
 | .dead=>false
 | _=>true
def kown {α:Type}(H:List (Kid α)):Nat->Bool
 | 0=>true
 | j+1=>match H[j]? with
  | some (.own _ _)=>true
  | _=>false
def kro {α:Type}(H:List (Kid α))(id:Nat):Bool:=match kidAt H id with
 | .ro _=>true
 | _=>false
def kroom {α:Type}(H:List (Kid α))(id:Nat):Nat:=match kidAt H id with
 | .own _ c=>c
 | _=>0
def kcap {α:Type}(H:List (Kid α))(id:Nat):Nat:=max (kroom H id) (kget H id).length
def kkill {α:Type}(H:List (Kid α)):Nat->List (Kid α)
 | 0=>H
 | j+1=>H.set j .dead
def kapp {α:Type}(H:List (Kid α))(id n:Nat)(ys:List α):List (Kid α) :=
 kkill H id++[.own ((kget H id).take n++ys) (max (kroom H id) (n+ys.length))]
def wrt {α:Type}(xs:List α)(lo:Nat)(ys:List α):List α:=(xs.take lo++(ys++xs.drop (lo+ys.length))).take xs.length
def kwrt {α:Type}(H:List (Kid α))(id lo:Nat)(ys:List α):List (Kid α):=match id with
 | 0=>H
 | j+1=>H.set j (.own (wrt (kget H id) lo ys) (kroom H id))
def kset {α:Type}(H:List (Kid α))(id i:Nat)(z:α):List (Kid α):=match id with
 | 0=>H
 | j+1=>H.set j (.own ((kget H id).set i z) (kroom H id))
def kidOf {α:Type}(xs:List α):Kid α:=.own xs xs.length
inductive NilK where
 | ptr | fn | iface | map
 deriving DecidableEq
def NilK.val:NilK->Value
 | .ptr=>.pointer none
 | .fn=>.nilFunc
 | .iface=>.nilIface
 | .map=>.map none
inductive C where
 | int (k:IntKind) (n:Int)
 | bool (b:Bool)
 | str (s:ByteArray)
 | ro (e:Ty) (xs:List e.den)
 | emp
 | own (t:Nat)
 | ptr (t off:Nat)
 | eptr (t:Nat) (i:Int) (fo:Nat)
 | aptr (t off n:Nat) (i:Int)
 | rptr (e:Ty) (x:e.den) (fo:Nat)
 | fn (f:Nat) (caps:List Nat)
 | nil (k:NilK)
 | ref (e:Ty) (id:Nat)
 | hptr (e:Ty) (id:Nat) (i:Int) (fo:Nat)
 | hview (e:Ty) (id:Nat) (lo hi:Int)
 | view (t:Nat) (lo hi:Int)   -- a part of a row of one's own
 | optr (t:Nat) (i:Int)   -- the address of an element of a row;nil below 0
 | mref (t:Nat)
 | kids (e:Ty) (H:List (Kid e.den))   -- never a value;a heap's place in shapes
 | emp0   -- a slice without elements and without room
 | dead
inductive V1 where
 | one (c:C)
 | agg (cs:List C)
inductive AV where
 | v (x:V1)
 | tup (l:List V1)
 | undef
@[reducible] def one (c:C):AV:=.v (.one c)
@[reducible] def aggr (cs:List C):AV:=.v (.agg cs)
inductive RowK where
 | plain | mark | frz
 deriving DecidableEq
inductive Blk where
 | var (E:Nat) (cs:List C)
 | row (E:Nat) (e:Ty) (m:RowK) (xs:List e.den)
 | heap (E:Nat) (e:Ty) (H:List (Kid e.den))
 | smap (l:List (ByteArray×Bool))
abbrev Store:=List (Nat×Blk)
abbrev Env:=List (Nat×AV)
def look {α:Type}:List (Nat×α)->Nat->Option α
 | [],_=>none
 | p::l,j=>bif Nat.beq p.1 j then some p.2 else look l j
def upd {α:Type}:List (Nat×α)->Nat->α->List (Nat×α)
 | [],j,x=>[(j,x)]
 | p::l,j,x=>bif Nat.beq p.1 j then (j,x)::l else p::upd l j x
def memb:List Nat->Nat->Bool
 | [],_=>false
 | i::l,j=>bif Nat.beq i j then true else memb l j
def keep {α:Type}(f:Nat->Bool):List (Nat×α)->List (Nat×α)
 | []=>[]
 | p::l=>bif f p.1 then p::keep f l else keep f l
structure St where
 env:Env
 sto:Store
 nxt:Nat
 args:List (Option Nat)
def Ty.explode:(t:Ty)->t.den->List C
 | .int k,x=>[.int k x]
 | .bool,x=>[.bool x]
 | .str,x=>[.str x]
 | .pair a b,x=>a.explode x.1++b.explode x.2
 | .slice e,x=>[.ro e x]
 | .ref e,x=>[.ref e x]
def Ty.implode:(t:Ty)->List C->Option (t.den×List C)
 | .int k,l=>match l with
  | .int k' n::l=>if k=k' then some (n,l) else none
  | _=>none
 | .bool,l=>match l with
  | .bool b::l=>some (b,l)
  | _=>none
 | .str,l=>match l with
  | .str s::l=>some (s,l)
  | _=>none
 | .slice e,l=>match l with
  | .ro e' xs::l=>if h:e'=e then some (cast (congrArg (fun z=>List (Ty.den z)) h) xs,l) else none
  | .emp::l=>some ([],l)
  | .emp0::l=>some ([],l)
  | _=>none
 | .ref e,l=>match l with
  | .ref e' id::l=>if e'=e then some (id,l) else none
  | .emp::l=>some ((0:Nat),l)
  | _=>none
 | .pair a b,l =>
  match a.implode l with
  | some (x,l')=>match b.implode l' with
   | some (y,l'')=>some ((x,y),l'')
   | none=>none
  | none=>none
def Ty.whole (t:Ty)(l:List C):Option t.den :=
 match t.implode l with
 | some (x,[])=>some x
 | _=>none
def V1.cells:V1->List C
 | .one c=>[c]
 | .agg cs=>cs
def C.toks:C->List Nat
 | .own t | .ptr t _ | .eptr t _ _ | .aptr t _ _ _ | .mref t | .view t _ _ | .optr t _=>[t]
 | .fn _ caps=>caps
 | _=>[]
def V1.toks (x:V1):List Nat:=x.cells.flatMap C.toks
def AV.toks:AV->List Nat
 | .v x=>x.toks
 | .tup l=>l.flatMap V1.toks
 | .undef=>[]
def Blk.toks:Blk->List Nat
 | .var _ cs=>cs.flatMap C.toks
 | .row ..=>[]
 | .heap ..=>[]
 | .smap _=>[]
def C.refd:C->Bool
 | .ref .. | .hptr .. | .hview ..=>true
 | .ro e _=>e.hasRef
 | .rptr e _ _=>e.hasRef
 | _=>false
def anyRef:List C->Bool
 | []=>false
 | c::l=>c.refd||anyRef l
def V1.refd (x:V1):Bool:=anyRef x.cells
def anyRefV:List V1->Bool
 | []=>false
 | x::l=>x.refd||anyRefV l
def AV.refd:AV->Bool
 | .v x=>x.refd
 | .tup l=>anyRefV l
 | .undef=>false
def anyRefA:List AV->Bool
 | []=>false
 | x::l=>x.refd||anyRefA l
def Blk.refd:Blk->Bool
 | .var _ cs=>anyRef cs
 | .row _ e _ _=>e.hasRef
 | .heap _ e _=>e.hasRef
 | .smap _=>false
def Blk.isHeap:Blk->Bool
 | .heap ..=>true
 | _=>false
def rawNo:Store->Bool
 | []=>true
 | (_,b)::l=>!b.isHeap&&rawNo l
def heapTokL (S:Store):Store->Option Nat
 | []=>none
 | (t,_)::l=>match look S t with
  | some b=>bif b.isHeap then some t else heapTokL S l
  | none=>heapTokL S l
def heapTok (S:Store):Option Nat:=bif rawNo S then none else heapTokL S S
def noHeap (S:Store):Bool:=match heapTok S with
 | none=>true
 | some _=>false
def heapOf (e:Ty)(S:Store):Option (Nat×Nat×List (Kid e.den)):=match heapTok S with
 | some t=>match look S t with
  | some (.heap E e' H)=>if h:e'=e then some (t,E,cast (congrArg (fun z=>List (Kid (Ty.den z))) h) H) else none
  | _=>none
 | none=>none
def refdToks (S:Store):List Nat->Bool
 | []=>false
 | t::l=>(match look S t with
  | some b=>b.refd
  | none=>false)||refdToks S l
def addHeap (S:Store)(ts:List Nat):List Nat:=match heapTok S with
 | some h=>bif memb ts h then ts else ts++[h]
 | none=>ts
def reachGo (S:Store):Nat->List Nat->List Nat->List Nat
 | 0,_,acc=>acc
 | _+1,[],acc=>acc
 | n+1,t::todo,acc =>
  bif memb acc t then reachGo S n todo acc else
  match look S t with
  | some b=>reachGo S n (todo++b.toks) (acc++[t])
  | none=>reachGo S n todo acc
def reach (S:Store)(l:List AV):List Nat :=
 let ts:=reachGo S 200 (l.flatMap AV.toks) []
 bif noHeap S then ts else bif anyRefA l||refdToks S ts then addHeap S ts else ts
def idxOf:List Nat->Nat->Nat->Option Nat
 | [],_,_=>none
 | i::l,t,n=>bif Nat.beq i t then some n else idxOf l t (n+1)
def C.ren (f:Nat->Option Nat):C->C
 | .own t=>match f t with | some u=>.own u | none=>.dead
 | .ptr t o=>match f t with | some u=>.ptr u o | none=>.dead
 | .eptr t i o=>match f t with | some u=>.eptr u i o | none=>.dead
 | .aptr t o n i=>match f t with | some u=>.aptr u o n i | none=>.dead
 | .mref t=>match f t with | some u=>.mref u | none=>.dead
 | .view t lo hi=>match f t with | some u=>.view u lo hi | none=>.dead
 | .optr t i=>match f t with | some u=>.optr u i | none=>.dead
 | .fn g caps=>match caps.mapM f with | some l=>.fn g l | none=>.dead
 | c=>c
def V1.ren (f:Nat->Option Nat):V1->V1
 | .one c=>.one (c.ren f)
 | .agg cs=>.agg (cs.map (C.ren f))
def AV.ren (f:Nat->Option Nat):AV->AV
 | .v x=>.v (x.ren f)
 | .tup l=>.tup (l.map (V1.ren f))
 | .undef=>.undef
def Blk.ren (f:Nat->Option Nat):Blk->Blk
 | .var E cs=>.var E (cs.map (C.ren f))
 | b=>b
inductive TD where
 | int (k:IntKind)
 | bool
 | str
 | ptr (e:Nat)
 | slice (e:Nat) (ty:Ty)
 | array (n e:Nat)
 | struct (fs:List (Nat×Nat×Nat))   -- type,place,size
 | mapSB   -- strings to truth values
 | other
structure TR where
 own:List (Nat×Nat×Ty)   -- in a new variable: which of its cells,nil at first,are taken for rows of one's own
 d:TD
 size:Nat
 bytes:Nat
 agg:Bool
 zero:Option (List C)
 eq:Bool
abbrev Tab:=List (Nat×TR)
def Kid.frz {α:Type}:Kid α->Kid α
 | .own xs _=>.ro xs
 | k=>k
def Ty.unref:Ty->Ty
 | .pair a b=>.pair a.unref b.unref
 | .ref e=>.slice e
 | t=>t
def resD (e:Ty)(H:List (Kid e.den)):(t:Ty)->t.den->t.unref.den
 | .pair a b,x=>(resD e H a x.1,resD e H b x.2)
 | .ref e2,id=>if h:e=e2 then cast (congrArg (fun z=>List (Ty.den z)) h) (kget H id) else []
 | .int _,x=>x
 | .bool,x=>x
 | .str,x=>x
 | .slice _,x=>x
def resOk (e:Ty)(H:List (Kid e.den)):(t:Ty)->t.den->Bool
 | .pair a b,x=>resOk e H a x.1&&resOk e H b x.2
 | .ref e2,id=>bif decide (e=e2) then kro H id else false
 | .slice e2,_=>!e2.hasRef
 | _,_=>true
def freezeHp (st:St):St:=match heapTok st.sto with
 | none=>st
 | some h=>match look st.sto h with
  | some (.heap E e H)=>{ env:=st.env,sto:=upd st.sto h (.heap E e (H.map Kid.frz)),nxt:=st.nxt,args:=st.args }
  | _=>st
def resC (S:Store):C->C×Bool
 | .ref e id=>match heapOf e S with
  | some (_,_,H)=>(.ro e (kget H id),kro H id&&!e.hasRef)
  | none=>(.dead,true)
 | .ro e xs=>bif e.hasRef then match heapTok S with
   | some h=>match look S h with
    | some (.heap _ e2 H)=>(.ro e.unref (xs.map (resD e2 H e)),xs.all (resOk e2 H e))
    | _=>(.dead,true)
   | none=>(.dead,true)
  else (.ro e xs,true)
 | c=>(c,true)
def resCs (S:Store):List C->List C×Bool
 | []=>([],true)
 | c::l=>((resC S c).1::(resCs S l).1,(resC S c).2&&(resCs S l).2)
def resV (S:Store):V1->V1×Bool
 | .one c=>(.one (resC S c).1,(resC S c).2)
 | .agg cs=>(.agg (resCs S cs).1,(resCs S cs).2)
def resVs (S:Store):List V1->List V1×Bool
 | []=>([],true)
 | x::l=>((resV S x).1::(resVs S l).1,(resV S x).2&&(resVs S l).2)
def withHeap (hp:Option (Nat×Ty))(st:St):St:=match hp with
 | none=>st
 | some (E,e)=>{ env:=st.env,sto:=st.sto++[(st.nxt,.heap E e [])],nxt:=st.nxt+1,args:=st.args }
inductive Res:Type 1 where
 | ok (v:AV) (S:Store)
 | chk (c:Bool) (v:AV) (S:Store)
 | call (R:Type) (m:Option R) (f:R->AV×Store)
 | rd (S:Store) (R:Type) (m:Option R) (f:R->AV×Store)   -- the store stays;and what is new
 | alt (R1 R2:Type) (m:Option (R1 ⊕ R2)) (f:R1->AV×Store) (g:R2->AV×Store)   -- one of two kinds of result
 | fail
abbrev Table:=List (Nat×(List AV->Store->Res))
def lookT (T:Table)(f:Nat)(args:List AV)(S:Store):Res :=
 match T with
 | []=>.fail
 | p::l=>bif Nat.beq p.1 f then p.2 args S else lookT l f args S
def cellConst:Value->C
 | .int k n=>.int k n
 | .bool b=>.bool b
 | .string s=>.str s
 | .slice none 0 0=>.emp
 | .pointer none=>.nil .ptr
 | .nilFunc=>.nil .fn
 | .nilIface=>.nil .iface
 | .map none=>.nil .map
 | _=>.dead
def constV:Value->AV
 | .agg cs=>aggr (cs.toList.map cellConst)
 | .tuple _=>.undef
 | v=>one (cellConst v)
def evalA (env:Env):Operand->AV
 | .tmp t=>match look env t with | some v=>v | none=>.undef
 | .const v=>constV v
 | .func f=>one (.fn f [])
 | .global _=>.undef
def bt (s:ByteArray)(i:Int):Int:=if h:i.toNat<s.size then ((s[i.toNat]'h).toNat:Int) else 0
def strEq (x y:ByteArray):Bool:=x.toList==y.toList
def strLt (x y:ByteArray):Bool:=Op.bytesLess x.toList y.toList
def bits (op:BinOp)(k:IntKind)(x y:Int):Int :=
 let a:=BitVec.ofInt k.bits x
 let b:=BitVec.ofInt k.bits y
 match op with
 | .and=>k.wrap (a &&& b).toNat
 | .or=>k.wrap (a ||| b).toNat
 | .xor=>k.wrap (a ^^^ b).toNat
 | _=>k.wrap (a &&& ~~~b).toNat
def shlI (k:IntKind)(x y:Int):Int:=k.wrap (x*2 ^ (min y.toNat k.bits))
def shrI (k:IntKind)(x y:Int):Int:=x.fdiv (2 ^ (min y.toNat k.bits))
def bytesOf (s:ByteArray):List Int:=s.data.toList.map fun b=>(b.toNat:Int)
def intCells:List C->Option (IntKind×List Int)
 | [.int k n]=>some (k,[n])
 | .int k n::l=>match intCells l with
  | some (k',ns)=>if k=k' then some (k,n::ns) else none
  | none=>none
 | _=>none
def intBin (op:BinOp)(k:IntKind)(x y:Int)(S:Store):Res :=
 match op with
 | .add=>.ok (one (.int k (k.wrap (x+y)))) S
 | .sub=>.ok (one (.int k (k.wrap (x - y)))) S
 | .mul=>.ok (one (.int k (k.wrap (x*y)))) S
 | .quo=>.chk (!decide (y=0)) (one (.int k (k.wrap (x.tdiv y)))) S
 | .rem=>.chk (!decide (y=0)) (one (.int k (x.tmod y))) S
 | .and | .or | .xor | .andNot=>.ok (one (.int k (bits op k x y))) S
 | .eql=>.ok (one (.bool (x==y))) S
 | .neq=>.ok (one (.bool (x !=y))) S
 | .lss=>.ok (one (.bool (decide (x<y)))) S
 | .leq=>.ok (one (.bool (decide (x<=y)))) S
 | .gtr=>.ok (one (.bool (decide (x > y)))) S
 | .geq=>.ok (one (.bool (decide (x≥y)))) S
 | _=>.fail
def strBin (op:BinOp)(x y:ByteArray)(S:Store):Res :=
 match op with
 | .add=>.chk (decide (x.size+y.size<=9223372036854775807)) (one (.str (x++y))) S
 | .eql=>.ok (one (.bool (strEq x y))) S
 | .neq=>.ok (one (.bool (!strEq x y))) S
 | .lss=>.ok (one (.bool (strLt x y))) S
 | .leq=>.ok (one (.bool (strLt x y||strEq x y))) S
 | .gtr=>.ok (one (.bool (!(strLt x y||strEq x y)))) S
 | .geq=>.ok (one (.bool (!strLt x y))) S
 | _=>.fail
def partA (agg:Bool)(size off:Nat)(cs:List C):Option AV :=
 bif agg then (bif Nat.ble (off+size) cs.length then some (aggr ((cs.drop off).take size)) else none)
 else match cs[off]? with
  | some c=>some (one c)
  | none=>none
def C.live:C->Bool
 | .dead=>false
 | .kids ..=>false
 | _=>true
def splice (cs:List C)(off:Nat)(new:List C):List C:=cs.take off++new++cs.drop (off+new.length)
def setNth (l:List Int)(i:Nat)(v:Int):List Int:=l.set i v
def setCells (k:IntKind)(i:Nat)(z:Int):Nat->List Int->List C
 | _,[]=>[]
 | j,n::ns=>.int k (bif Nat.beq i j then z else n)::setCells k i z (j+1) ns
theorem setCells_at (k:IntKind)(i:Nat)(z:Int):∀ (ns:List Int) (j:Nat),setCells k i z j ns=(if j<=i then (ns.set (i - j) z).map (C.int k) else ns.map (C.int k))
 | [],j=>by simp[setCells]
 | n::ns,j=>by
  simp only[setCells]
  rw[setCells_at k i z ns (j+1)]
  by_cases h:i=j
  ·subst h
   rw[if_neg (by omega),if_pos (Nat.le_refl _)]
   simp
  ·have hb:Nat.beq i j=false:=by
    cases hh:Nat.beq i j with
    | false=>rfl
    | true=>exact absurd (Nat.eq_of_beq_eq_true hh) h
   rw[hb]
   by_cases hle:j<=i
   ·rw[if_pos hle,if_pos (by omega),show i - j=(i - (j+1))+1 by omega]
    simp
   ·rw[if_neg hle,if_neg (by omega)]
    simp
theorem setCells_eq (k:IntKind)(i:Nat)(z:Int)(ns:List Int):setCells k i z 0 ns=(setNth ns i z).map (C.int k):=by
 rw[setCells_at,if_pos (Nat.zero_le _)]
 rfl
def trOf (Γ:Tab)(t:Nat):Option TR:=look Γ t
def eqFs (f:Nat->List C->List C->Option Bool):List (Nat×Nat×Nat)->List C->List C->Option Bool
 | [],_,_=>some true
 | (t,o,s)::l,xs,ys=>match f t ((xs.drop o).take s) ((ys.drop o).take s),eqFs f l xs ys with
  | some a,some b=>some (a&&b)
  | _,_=>none
def eqTy (Γ:Tab):Nat->Nat->List C->List C->Option Bool
 | 0,_,_,_=>none
 | n+1,t,xs,ys =>
  match trOf Γ t with
  | some r=>match r.d,xs,ys with
   | .int _,[.int k a],[.int k' b]=>if k=k' then some (a==b) else none
   | .bool,[.bool a],[.bool b]=>some (a==b)
   | .str,[.str a],[.str b]=>some (strEq a b)
   | .struct fs,xs,ys=>bif r.eq then eqFs (eqTy Γ n) fs xs ys else none
   | _,_,_=>none
  | none=>none
def binA (Γ:Tab)(op:BinOp)(t:Nat)(x y:AV)(S:Store):Res :=
 match x,y with
 | .v (.one (.int k a)),.v (.one (.int k' b)) =>
  match op with
  | .shl=>.chk (decide (0<=b)) (one (.int k (shlI k a b))) S
  | .shr=>.chk (decide (0<=b)) (one (.int k (shrI k a b))) S
  | _=>if k=k' then intBin op k a b S else .fail
 | .v (.one (.str a)),.v (.one (.str b))=>strBin op a b S
 | .v (.one (.bool a)),.v (.one (.bool b)) =>
  match op,trOf Γ t with
  | .eql,some { d:=.bool,.. }=>.ok (one (.bool (a==b))) S
  | .neq,some { d:=.bool,.. }=>.ok (one (.bool (!(a==b)))) S
  | _,_=>.fail
 | .v (.agg xs),.v (.agg ys) =>
  match op,trOf Γ t,eqTy Γ 20 t xs ys with
  | .eql,some { d:=.struct _,eq:=true,.. },some b=>.ok (one (.bool b)) S
  | .neq,some { d:=.struct _,eq:=true,.. },some b=>.ok (one (.bool (!b))) S
  | _,_,_=>.fail
 | .v (.one (.optr _ i)),.v (.one (.nil .ptr))=>match op,trOf Γ t with
  | .eql,some { d:=.ptr _,.. }=>.ok (one (.bool (decide (i<0)))) S
  | .neq,some { d:=.ptr _,.. }=>.ok (one (.bool (!decide (i<0)))) S
  | _,_=>.fail
 | .v (.one (.nil .ptr)),.v (.one (.nil .ptr))=>match op,trOf Γ t with
  | .eql,some { d:=.ptr _,.. }=>.ok (one (.bool true)) S
  | .neq,some { d:=.ptr _,.. }=>.ok (one (.bool false)) S
  | _,_=>.fail
 | .v (.one (.ptr _ _)),.v (.one (.nil .ptr))=>match op,trOf Γ t with
  | .eql,some { d:=.ptr _,.. }=>.ok (one (.bool false)) S
  | .neq,some { d:=.ptr _,.. }=>.ok (one (.bool true)) S
  | _,_=>.fail
 | .v (.one (.eptr _ _ _)),.v (.one (.nil .ptr))=>match op,trOf Γ t with
  | .eql,some { d:=.ptr _,.. }=>.ok (one (.bool false)) S
  | .neq,some { d:=.ptr _,.. }=>.ok (one (.bool true)) S
  | _,_=>.fail
 | .v (.one .emp),.v (.one .emp)=>match op,trOf Γ t with
  | .eql,some { d:=.slice _ _,.. }=>.ok (one (.bool true)) S
  | .neq,some { d:=.slice _ _,.. }=>.ok (one (.bool false)) S
  | _,_=>.fail
 | .v (.one (.own tok)),.v (.one .emp)=>match op,trOf Γ t,look S tok with
  | .eql,some { d:=.slice _ _,.. },some (.row _ _ _ xs)=>.chk (decide (0<xs.length)) (one (.bool false)) S
  | .neq,some { d:=.slice _ _,.. },some (.row _ _ _ xs)=>.chk (decide (0<xs.length)) (one (.bool true)) S
  | _,_,_=>.fail
 | _,_=>.fail
structure Seq where
 e:Ty
 xs:List e.den
def seqOf (S:Store):AV->Option Seq
 | .v (.one (.own t))=>match look S t with
  | some (.row _ e _ xs)=>some ⟨e,xs⟩
  | _=>none
 | .v (.one (.ro e xs))=>some ⟨e,xs⟩
 | _=>none
def loadA (Γ:Tab)(t:Nat)(x:AV)(S:Store):Res :=
 match trOf Γ t with
 | none=>.fail
 | some r =>
  match x with
  | .v (.one (.ptr tok off))=>match look S tok with
   | some (.var _ cs)=>match partA r.agg r.size off cs with
    | some v=>.ok v S
    | none=>.fail
   | _=>.fail
  | .v (.one (.eptr tok i fo))=>match look S tok with
   | some (.row _ e _ xs)=>match partA r.agg r.size fo (e.explode (xs.getD i.toNat e.dflt)) with
    | some v=>.ok v S
    | none=>.fail
   | _=>.fail
  | .v (.one (.rptr e y fo))=>match partA r.agg r.size fo (e.explode y) with
   | some v=>.ok v S
   | none=>.fail
  | .v (.one (.optr tok i))=>match look S tok with
   | some (.row _ e _ xs)=>match partA r.agg r.size 0 (e.explode (xs.getD i.toNat e.dflt)) with
    | some v=>.chk (decide (0<=i)) v S
    | none=>.fail
   | _=>.fail
  | .v (.one (.hptr e id i fo))=>match heapOf e S with
   | some (_,_,H)=>match partA r.agg r.size fo (e.explode ((kget H id).getD i.toNat e.dflt)) with
    | some v=>.chk (kalive H id) v S
    | none=>.fail
   | none=>.fail
  | .v (.one (.aptr tok off n i))=>match look S tok with
   | some (.var _ cs) =>
    bif Nat.ble (off+n) cs.length then
     match intCells ((cs.drop off).take n),r.agg with
     | some (k,ns),false=>.ok (one (.int k (ns.getD i.toNat 0))) S
     | _,_=>.fail
    else .fail
   | _=>.fail
  | _=>.fail
def storeA (Γ:Tab)(t:Nat)(x v:AV)(S:Store):Res :=
 match trOf Γ t,v with
 | some r,.v y =>
  bif Nat.beq y.cells.length r.size&&y.cells.all C.live then
  match x with
  | .v (.one (.ptr tok off))=>match look S tok with
   | some (.var E cs) =>
    bif Nat.ble (off+r.size) cs.length then .ok .undef (upd S tok (.var E (splice cs off y.cells))) else .fail
   | _=>.fail
  | .v (.one (.eptr tok i fo))=>match look S tok with
   | some (.row E e .plain xs)=>match e.whole (splice (e.explode (xs.getD i.toNat e.dflt)) fo y.cells) with
    | some z=>bif Nat.ble (fo+r.size) e.size then .ok .undef (upd S tok (.row E e .plain (xs.set i.toNat z))) else .fail
    | none=>.fail
   | some (.row E e .mark xs)=>match e.whole (splice (e.explode (xs.getD i.toNat e.dflt)) fo y.cells) with
    | some z=>bif Nat.ble (fo+r.size) e.size then .ok .undef (upd S tok (.row E e .mark (xs.set i.toNat z))) else .fail
    | none=>.fail
   | _=>.fail
  | .v (.one (.hptr e id i fo))=>match heapOf e S with
   | some (tok,E,H)=>match e.whole (splice (e.explode ((kget H id).getD i.toNat e.dflt)) fo y.cells) with
    | some z=>bif Nat.ble (fo+r.size) e.size then .chk (kown H id) .undef (upd S tok (.heap E e (kset H id i.toNat z))) else .fail
    | none=>.fail
   | none=>.fail
  | .v (.one (.aptr tok off n i))=>match look S tok,y with
   | some (.var E cs),.one (.int k z) =>
    bif Nat.ble (off+n) cs.length then
     match intCells ((cs.drop off).take n) with
     | some (k',ns)=>if k=k' then .ok .undef (upd S tok (.var E (splice cs off (setCells k i.toNat z 0 ns)))) else .fail
     | none=>.fail
    else .fail
   | _,_=>.fail
  | _=>.fail
  else .fail
 | _,_=>.fail
def fieldAddrA (Γ:Tab)(s:Nat)(x:AV)(f:Nat)(S:Store):Res :=
 match trOf Γ s with
 | some { d:=.struct fs,.. }=>match fs[f]? with
  | some (_,off,size) =>
   bif Nat.beq size 0 then .fail else
   match x with
   | .v (.one (.ptr tok o))=>.ok (one (.ptr tok (o+off))) S
   | .v (.one (.eptr tok i o))=>.ok (one (.eptr tok i (o+off))) S
   | .v (.one (.rptr e y o))=>.ok (one (.rptr e y (o+off))) S
   | .v (.one (.hptr e id i o))=>.ok (one (.hptr e id i (o+off))) S
   | .v (.one (.optr tok i))=>.chk (decide (0<=i)) (one (.eptr tok i off)) S
   | _=>.fail
  | none=>.fail
 | _=>.fail
def fieldA (Γ:Tab)(s:Nat)(x:AV)(f:Nat)(S:Store):Res :=
 match trOf Γ s,x with
 | some { d:=.struct fs,.. },.v (.agg cs)=>match fs[f]? with
  | some (ft,off,_)=>match trOf Γ ft with
   | some r=>match partA r.agg r.size off cs with
    | some v=>.ok v S
    | none=>.fail
   | none=>.fail
  | none=>.fail
 | _,_=>.fail
def indexAddrA (Γ:Tab)(t:Nat)(x i:AV)(S:Store):Res :=
 match trOf Γ t,i with
 | some { d:=.slice _ te,.. },.v (.one (.int _ n)) =>
  match x with
  | .v (.one (.own tok))=>match look S tok with
   | some (.row _ e _ xs)=>bif Nat.beq e.size te.size then .chk (decide (0<=n)&&decide (n<(xs.length:Int))) (one (.eptr tok n 0)) S else .fail
   | _=>.fail
  | .v (.one (.ro e xs))=>bif Nat.beq e.size te.size then .chk (decide (0<=n)&&decide (n<(xs.length:Int))) (one (.rptr e (xs.getD n.toNat e.dflt) 0)) S else .fail
  | .v (.one (.ref e id))=>match heapOf e S with
   | some (_,_,H)=>bif Nat.beq e.size te.size then .chk (kalive H id&&(decide (0<=n)&&decide (n<((kget H id).length:Int)))) (one (.hptr e id n 0)) S else .fail
   | none=>.fail
  | .v (.one (.hview e id lo hi))=>match heapOf e S with
   | some (_,_,H)=>bif Nat.beq e.size te.size then .chk (kalive H id&&((decide (0<=n)&&decide (n<hi - lo))&&decide (lo+n<((kget H id).length:Int)))) (one (.hptr e id (lo+n) 0)) S else .fail
   | none=>.fail
  | _=>.fail
 | some { d:=.array len e,.. },.v (.one (.int _ n)) =>
  match x,trOf Γ e with
  | .v (.one (.ptr tok off)),some r =>
   bif Nat.beq r.size 1&&!r.agg then .chk (decide (0<=n)&&decide (n<(len:Int))) (one (.aptr tok off len n)) S
   else .fail
  | _,_=>.fail
 | _,_=>.fail
def indexA (Γ:Tab)(t:Nat)(x i:AV)(S:Store):Res :=
 match x,i with
 | .v (.one (.str s)),.v (.one (.int _ n)) =>
  match trOf Γ t with
  | some { d:=.str,.. }=>.chk (decide (0<=n)&&decide (n<(s.size:Int))) (one (.int .u8 (bt s n))) S
  | _=>.fail
 | .v (.agg cs),.v (.one (.int _ n)) =>
  match trOf Γ t with
  | some { d:=.array len e,.. }=>match trOf Γ e,intCells cs with
   | some r,some (k,ns)=>bif Nat.beq r.size 1&&!r.agg&&Nat.beq len cs.length then .chk (decide (0<=n)&&decide (n<(len:Int))) (one (.int k (ns.getD n.toNat 0))) S else .fail
   | _,_=>.fail
  | _=>.fail
 | _,_=>.fail
def sliceBds (lo hi n:Int):Bool:=decide (0<=lo)&&(decide (lo<=hi)&&decide (hi<=n))
def intA:Option AV->Int->Option Int
 | none,d=>some d
 | some (.v (.one (.int _ n))),_=>some n
 | _,_=>none
def sliceA (Γ:Tab)(t:Nat)(x:AV)(lo hi:Option AV)(S:Store):Res :=
 match trOf Γ t,x with
 | some { d:=.str,.. },.v (.one (.str s)) =>
  match intA lo 0,intA hi (s.size:Int) with
  | some l,some h=>.chk (sliceBds l h (s.size:Int)) (one (.str (s.extract l.toNat h.toNat))) S
  | _,_=>.fail
 | some { d:=.slice _ te,.. },.v (.one (.ro e xs)) =>
  match intA lo 0,intA hi (xs.length:Int),Nat.beq e.size te.size with
  | some l,some h,true=>.chk (sliceBds l h (xs.length:Int)) (one (.ro e ((xs.take h.toNat).drop l.toNat))) S
  | _,_,_=>.fail
 | some { d:=.slice _ te,.. },.v (.one (.own tok))=>match look S tok with
  | some (.row E e _ xs) =>
   match intA lo 0,intA hi (xs.length:Int),Nat.beq e.size te.size with
   | some l,some h,true=>.chk (sliceBds l h (xs.length:Int)) (one (.ro e ((xs.take h.toNat).drop l.toNat))) (upd S tok (.row E e .frz xs))
   | _,_,_=>.fail
  | _=>.fail
 | some { d:=.slice _ te,.. },.v (.one (.ref e id))=>match heapOf e S with
  | some (_,_,H) =>
   match intA lo 0,intA hi ((kget H id).length:Int),Nat.beq e.size te.size with
   | some l,some h,true=>.chk (kalive H id&&sliceBds l h (kcap H id:Int)) (one (.hview e id l h)) S
   | _,_,_=>.fail
  | none=>.fail
 | _,_=>.fail
def vwOf:List (Nat×Nat×Ty)->Bool
 | []=>false
 | p::l=>Nat.beq p.1 99||vwOf l
def viewS (Γ:Tab)(t:Nat)(x:AV)(lo hi:Option AV)(fr:Nat)(S:Store):Option Res :=
 match trOf Γ t,x with
 | some { own:=ow,d:=.slice _ te,.. },.v (.one (.own tok))=>bif vwOf ow then match look S tok with
  | some (.row E e m xs)=>match lo,m,intA lo 0,intA hi (xs.length:Int),Nat.beq e.size te.size with
   | none,.plain,_,some h,true=>some (.chk (sliceBds 0 h (xs.length:Int)) (one (.own fr)) (keep (fun i=>!Nat.beq i tok) S++[(fr,.row E e .plain (xs.take h.toNat))]))
   | some _,.plain,some l,some h,true=>some (.chk (sliceBds l h (xs.length:Int)) (one (.view tok l h)) S)
   | some _,.mark,some l,some h,true=>some (.chk (sliceBds l h (xs.length:Int)) (one (.view tok l h)) S)
   | _,_,_,_,_=>none
  | _=>none
  else none
 | some { d:=.slice _ _,.. },.v (.one .emp)=>match intA lo 0,intA hi 0 with
  | some l,some h=>some (.chk (sliceBds l h 0) (one .emp) S)
  | _,_=>none
 | _,_=>none
def sliceX (Γ:Tab)(t:Nat)(x:AV)(lo hi:Option AV)(fr:Nat)(S:Store):Res:=match viewS Γ t x lo hi fr S with
 | some r=>r
 | none=>sliceA Γ t x lo hi S
def slice4A (Γ:Tab)(t:Nat)(x l h m:AV)(S:Store):Res :=
 match trOf Γ t,x,l,h,m with
 | some { d:=.slice _ te,.. },.v (.one (.ref e id)),.v (.one (.int _ l)),.v (.one (.int _ h)),.v (.one (.int _ m))=>match heapOf e S with
  | some (_,_,H)=>.chk (kalive H id&&((decide (0<=l)&&decide (l<=h))&&(decide (h<=m)&&decide (m<=(kcap H id:Int))))) (one .dead) S
  | none=>.fail
 | _,_,_,_,_=>.fail
def slice3A (Γ:Tab)(t:Nat)(x h m:AV)(S:Store):Res :=
 match trOf Γ t,h,m with
 | some { d:=.slice _ te,.. },.v (.one (.int _ h)),.v (.one (.int _ m)) =>
  bif decide (h=0)&&decide (m=0) then
   match x with
   | .v (.one .emp) | .v (.one .emp0) | .v (.one (.ro ..))=>.ok (one .emp0) S
   | .v (.one (.own tok))=>match look S tok with
    | some (.row ..)=>.ok (one .emp0) S
    | _=>.fail
   | _=>.fail
  else .fail
 | _,_,_=>.fail
def convertA (Γ:Tab)(src dst:Nat)(x:AV)(fr:Nat)(S:Store):Res :=
 match trOf Γ src,trOf Γ dst with
 | some a,some b =>
  match a.d,b.d,x with
  | .int _,.int k,.v (.one (.int _ n))=>.ok (one (.int k (k.wrap n))) S
  | .str,.str,.v (.one (.str s))=>.ok x S
  | .str,.slice e (.int .u8),.v (.one (.str s))=>match trOf Γ e with
   | some { d:=.int .u8,.. }=>.chk (decide (s.size<=9223372036854775807)) (one (.own fr)) (S++[(fr,.row e (.int .u8) .mark (bytesOf s))])
   | _=>.fail
  | .slice e (.int .u8),.str,x=>match trOf Γ e,seqOf S x with
   | some { d:=.int .u8,.. },some ⟨.int .u8,xs⟩=>.ok (one (.str (strOfNums xs))) S
   | _,_=>.fail
  | _,_,_=>.fail
 | _,_=>.fail
def sameOp:Operand->Operand->Bool
 | .tmp i,.tmp j=>Nat.beq i j
 | .const (.int .i64 m),.const (.int .i64 n)=>decide (m=n)
 | _,_=>false
def makeA (Γ:Tab)(t:Nat)(same:Bool)(n c:AV)(fr:Nat)(S:Store):Res :=
 match trOf Γ t,n,c with
 | some { d:=.slice e ty,.. },.v (.one (.int .i64 n)),.v (.one (.int .i64 c))=>match trOf Γ e with
  | some { zero:=some _,bytes:=by_,.. } =>
   bif same then .chk (decide (0<=n)&&decide (n*by_<=140737488355328)&&decide (n<=281474976710656)) (one (.own fr)) (S++[(fr,.row e ty .plain (List.replicate n.toNat ty.dflt))])
   else bif decide (n=0) then .chk (decide (0<=c)&&decide (c*by_<=140737488355328)&&decide (c<=281474976710656)) (one (.own fr)) (S++[(fr,.row e ty .plain [])])
   else .fail
  | _=>.fail
 | _,_,_=>.fail
def partsA (places:Nat->Option (Nat×Nat)):List Nat->List AV->List C->Option (List C)
 | [],[],cs=>some cs
 | i::is,.v x::vs,cs=>match places i with
  | some (off,size)=>bif Nat.beq x.cells.length size&&Nat.ble (off+size) cs.length then partsA places is vs (splice cs off x.cells) else none
  | none=>none
 | _,_,_=>none
def liveA:AV->Bool
 | .v y=>y.cells.all C.live
 | _=>true
def buildA (Γ:Tab)(t:Nat)(is:List Nat)(vs:List AV)(S:Store):Res :=
 match trOf Γ t with
 | some { d:=.struct fs,zero:=some z,.. }=>match partsA (fun i=>match fs[i]? with | some (_,o,s)=>some (o,s) | none=>none) is vs z with
  | some cs=>.ok (aggr cs) S
  | none=>.fail
 | some { d:=.array _ e,zero:=some z,.. }=>match trOf Γ e with
  | some r=>match partsA (fun i=>some (i*r.size,r.size)) is vs z with
   | some cs=>.ok (aggr cs) S
   | none=>.fail
  | none=>.fail
 | _=>.fail
def elemsA (ty:Ty):List AV->Option (List ty.den)
 | []=>some []
 | .v x::vs=>match ty.whole x.cells,elemsA ty vs with
  | some y,some ys=>some (y::ys)
  | _,_=>none
 | _=>none
def isUp:List Nat->Nat->Bool
 | [],_=>true
 | i::is,n=>Nat.beq i n&&isUp is (n+1)
def buildSliceA (Γ:Tab)(t len:Nat)(is:List Nat)(vs:List AV)(fr:Nat)(S:Store):Res :=
 match trOf Γ t with
 | some { d:=.slice e ty,.. }=>match trOf Γ e,elemsA ty vs with
  | some { zero:=some _,.. },some xs=>bif isUp is 0&&Nat.beq is.length len&&Nat.ble (len*ty.size) 1000 then .ok (one (.own fr)) (S++[(fr,.row e ty .plain xs)]) else .fail
  | _,_=>.fail
 | _=>.fail
def zeroRow (Γ:Tab)(t:Nat):Option (Nat×Ty×Nat) :=
 match trOf Γ t with
 | some { d:=.slice e ty,.. }=>match trOf Γ e with
  | some { zero:=some _,bytes:=b,.. }=>some (e,ty,b)
  | _=>none
 | _=>none
def appendTo (E:Nat)(ty:Ty)(by_:Nat)(xs ys:List ty.den)(fr:Nat)(S:Store):Res :=
 .chk (decide ((xs.length+ys.length)*by_<=140737488355328)&&decide (xs.length+ys.length<=9223372036854775807)) (one (.own fr)) (S++[(fr,.row E ty .plain (xs++ys))])
def castSeq (ty:Ty)(q:Seq):Option (List ty.den) :=
 if h:q.e=ty then some (cast (congrArg (fun z=>List (Ty.den z)) h) q.xs) else none
def tokOf:AV->Nat->Bool
 | .v (.one (.own t)),u=>Nat.beq t u
 | _,_=>false
def srcA (Γ:Tab)(tx:Nat)(ty:Ty)(x:AV)(S:Store):Option (List ty.den) :=
 match trOf Γ tx with
 | some { d:=.slice _ _,.. }=>match x with
  | .v (.one .emp)=>some []
  | x=>match seqOf S x with
   | some q=>castSeq ty q
   | none=>none
 | some { d:=.str,.. }=>match x with
  | .v (.one (.str z))=>castSeq ty ⟨.int .u8,bytesOf z⟩
  | _=>none
 | _=>none
def viewOf (ty:Ty)(S:Store):AV->Option (Bool×List ty.den)
 | .v (.one (.ref e id))=>if e=ty then match heapOf ty S with
  | some (_,_,H)=>some (kalive H id,kget H id)
  | none=>none
  else none
 | .v (.one (.hview e id lo hi))=>if e=ty then match heapOf ty S with
  | some (_,_,H)=>some (kalive H id&&decide (hi<=((kget H id).length:Int)),((kget H id).take hi.toNat).drop lo.toNat)
  | none=>none
  else none
 | _=>none
def srcV (Γ:Tab)(tx:Nat)(ty:Ty)(x:AV)(S:Store):Option (Bool×List ty.den):=match trOf Γ tx with
 | some { d:=.slice _ _,.. }=>viewOf ty S x
 | _=>none
def appendV (E:Nat)(ty:Ty)(by_:Nat)(e:Ty)(id:Nat)(lo hi:Int)(ys:List ty.den)(S:Store):Res :=
 if e=ty then match heapOf ty S with
  | some (t,E',H)=>if E'=E then .chk ((decide (lo=0)&&decide (hi<=((kget H id).length:Int)))&&(kown H id&&(decide ((hi.toNat+ys.length)*by_<=140737488355328)&&decide (hi.toNat+ys.length<=9223372036854775807)))) (one (.ref ty (H.length+1))) (upd S t (.heap E ty (kapp H id hi.toNat ys))) else .fail
  | none=>.fail
 else .fail
def appendX (E:Nat)(ty:Ty)(by_:Nat)(e:Ty)(id:Nat)(ys:List ty.den)(S:Store):Res :=
 if e=ty then match heapOf ty S with
  | some (t,E',H)=>if E'=E then .chk (kown H id&&(decide (((kget H id).length+ys.length)*by_<=140737488355328)&&decide ((kget H id).length+ys.length<=9223372036854775807))) (one (.ref ty (H.length+1))) (upd S t (.heap E ty (kapp H id (kget H id).length ys))) else .fail
  | none=>.fail
 else .fail
def Ty.u8:Ty->Bool
 | .int .u8=>true
 | _=>false
def appendW (E:Nat)(ty:Ty)(b:Nat)(s x:AV)(ys:List ty.den)(fr:Nat)(S:Store):Res :=
 match s with
 | .v (.one .emp)=>appendTo E ty b [] ys fr S
 | .v (.one .emp0)=>bif ty.u8 then .fail else appendTo E ty b [] ys fr S
 | .v (.one (.ref e id))=>appendX E ty b e id ys S
 | .v (.one (.hview e id lo hi))=>appendV E ty b e id lo hi ys S
 | .v (.one (.own t)) =>
  bif tokOf x t then .fail else
  match look S t with
  | some (.row E' e' .plain xs)=>if E'=E then match castSeq ty ⟨e',xs⟩ with
   | some xs=>appendTo E ty b xs ys fr (keep (fun i=>!Nat.beq i t) S)
   | none=>.fail
   else .fail
  | _=>.fail
 | _=>.fail
def zeroN (Γ:Tab)(tx:Nat)(x:AV):Option Int:=match trOf Γ tx,x with
 | some { d:=.int .i64,.. },.v (.one (.int .i64 n))=>some n
 | _,_=>none
def withC (c:Bool):Res->Res
 | .ok v S=>.chk c v S
 | .chk d v S=>.chk (c&&d) v S
 | _=>.fail
def appendA (Γ:Tab)(ts:List Nat)(s x:AV)(fr:Nat)(S:Store):Res :=
 match ts with
 | [t,tx] =>
  match zeroRow Γ t with
  | none=>.fail
  | some (E,ty,b) =>
   match srcA Γ tx ty x S with
   | some ys=>appendW E ty b s x ys fr S
   | none=>match srcV Γ tx ty x S with
   | some (c,ys)=>withC c (appendW E ty b s x ys fr S)
   | none=>match zeroN Γ tx x with
    | some n=>withC (decide (0<=n)&&(decide (n*b<=140737488355328)&&decide (n<=9223372036854775807))) (appendW E ty b s x (List.replicate n.toNat ty.dflt) fr S)
    | none=>.fail
 | _=>.fail
def lenA (Γ:Tab)(ts:List Nat)(x:AV)(S:Store):Res :=
 match ts with
 | t::_=>match trOf Γ t with
  | some { d:=.str,.. }=>match x with
   | .v (.one (.str s))=>.ok (one (.int .i64 (s.size:Int))) S
   | _=>.fail
  | some { d:=.slice _ _,.. }=>match x with
   | .v (.one .emp)=>.ok (one (.int .i64 0)) S
   | .v (.one .emp0)=>.ok (one (.int .i64 0)) S
   | .v (.one (.ref e id))=>match heapOf e S with
    | some (_,_,H)=>.chk (kalive H id) (one (.int .i64 ((kget H id).length:Int))) S
    | none=>.fail
   | .v (.one (.hview _ _ lo hi))=>.ok (one (.int .i64 (hi - lo))) S
   | x=>match seqOf S x with
    | some q=>.ok (one (.int .i64 (q.xs.length:Int))) S
    | none=>.fail
  | some { d:=.array n _,.. }=>.ok (one (.int .i64 (n:Int))) S
  | _=>.fail
 | []=>.fail
def writeV (E:Nat)(ty:Ty)(tok:Nat)(lo:Int)(ys:List ty.den)(S:Store)(v:AV):Res:=match look S tok with
 | some (.row E' e m xs)=>if E'=E then match m,castSeq e ⟨ty,ys⟩ with
  | .plain,some ys=>.ok v (upd S tok (.row E' e .plain (wrt xs lo.toNat ys)))
  | .mark,some ys=>.ok v (upd S tok (.row E' e .mark (wrt xs lo.toNat ys)))
  | _,_=>.fail
  else .fail
 | _=>.fail
def clearA (Γ:Tab)(ts:List Nat)(x:AV)(S:Store):Res :=
 match ts with
 | t::_=>match zeroRow Γ t,x with
  | some (E,ty,_),.v (.one (.hview e id lo hi))=>if e=ty then match heapOf ty S with
   | some (tk,E',H)=>if E'=E then .chk (kown H id) .undef (upd S tk (.heap E ty (kwrt H id lo.toNat (List.replicate (hi - lo).toNat ty.dflt)))) else .fail
   | none=>.fail
   else .fail
  | some (E,ty,_),.v (.one (.view tok lo hi))=>writeV E ty tok lo (List.replicate (hi - lo).toNat ty.dflt) S .undef
  | _,_=>.fail
 | []=>.fail
def copyA (Γ:Tab)(ts:List Nat)(x y:AV)(S:Store):Res :=
 match ts,x,y with
 | [t,_],.v (.one (.view tok lo hi)),.v (.one (.str z))=>match zeroRow Γ t with
  | some (E,ty,_)=>match castSeq ty ⟨.int .u8,bytesOf (z.extract 0 (min z.size (hi - lo).toNat))⟩ with
   | some ys=>writeV E ty tok lo ys S (one (.int .i64 ((min z.size (hi - lo).toNat:Nat):Int)))
   | none=>.fail
  | none=>.fail
 | _,_,_=>.fail
def capA (Γ:Tab)(ts:List Nat)(x:AV)(S:Store):Res :=
 match ts,x with
 | t::_,.v (.one .emp)=>match trOf Γ t with
  | some { d:=.slice _ _,.. }=>.ok (one (.int .i64 0)) S
  | _=>.fail
 | _,_=>.fail
def mxI (x y:Int):Int:=if y > x then y else x
def mnI (x y:Int):Int:=if y<x then y else x
def foldI (f:Int->Int->Int)(k:IntKind):Int->List AV->Option Int
 | x,[]=>some x
 | x,.v (.one (.int k' y))::l=>if k=k' then foldI f k (f x y) l else none
 | _,_=>none
def builtinA (Γ:Tab)(b:Builtin)(ts:List Nat)(args:List AV)(fr:Nat)(S:Store):Res :=
 match b,args with
 | .len,[x]=>lenA Γ ts x S
 | .append,[s,x]=>appendA Γ ts s x fr S
 | .clear,[x]=>clearA Γ ts x S
 | .copy,[x,y]=>copyA Γ ts x y S
 | .cap,[x]=>capA Γ ts x S
 | .max,.v (.one (.int k x))::l=>match foldI mxI k x l with
  | some z=>.ok (one (.int k z)) S
  | none=>.fail
 | .min,.v (.one (.int k x))::l=>match foldI mnI k x l with
  | some z=>.ok (one (.int k z)) S
  | none=>.fail
 | _,_=>.fail
def backTok (ts:List Nat)(fr:Nat)(t:Nat):Option Nat :=
 match ts[t]? with
 | some u=>some u
 | none=>some (fr+(t - ts.length))
def renSto (ts:List Nat)(f:Nat->Option Nat)(S:Store):List Nat->Nat->Store
 | [],_=>[]
 | t::l,n=>match look S t with
  | some b=>(n,b.ren f)::renSto ts f S l (n+1)
  | none=>renSto ts f S l (n+1)
def backSto (g:Nat->Option Nat):Store->Store
 | []=>[]
 | (t,b)::l=>match g t with
  | some u=>(u,b.ren g)::backSto g l
  | none=>backSto g l
def allMem (ts:List Nat):List Nat->Bool
 | []=>true
 | t::l=>memb ts t&&allMem ts l
def closedB (ts:List Nat):Store->Bool
 | []=>true
 | (t,b)::l=>memb ts t&&(allMem ts b.toks&&closedB ts l)
def callA (T:Table)(f:Nat)(args:List AV)(fr:Nat)(S:Store):Res :=
 let ts:=addHeap S (reach S args)
 let σ:=fun t=>idxOf ts t 0
 let g:=backTok ts fr
 bif noHeap S||!noHeap (renSto ts σ S ts 0) then
 match lookT T f (args.map (AV.ren σ)) (renSto ts σ S ts 0) with
 | .ok v S'=>.ok (v.ren g) (backSto g S')
 | .chk c v S'=>.chk c (v.ren g) (backSto g S')
 | .call R m h=>.call R m fun x=>((h x).1.ren g,backSto g (h x).2)
 | .alt R1 R2 m h1 h2=>.alt R1 R2 m (fun x=>((h1 x).1.ren g,backSto g (h1 x).2)) fun x=>((h2 x).1.ren g,backSto g (h2 x).2)
 | .rd _ R m h=>bif closedB ts S then .rd S R m fun x=>((h x).1.ren g,backSto g (h x).2) else .fail
 | .fail=>.fail
 else .fail
def unA (op:UnOp)(x:AV)(S:Store):Res :=
 match op,x with
 | .neg,.v (.one (.int k n))=>.ok (one (.int k (k.wrap (0 - n)))) S
 | .not,.v (.one (.bool b))=>.ok (one (.bool (!b))) S
 | _,_=>.fail
def pickA (c a b:AV)(S:Store):Res :=
 match c,a,b with
 | .v (.one (.bool c)),.v (.one (.bool a)),.v (.one (.bool b))=>.ok (one (.bool (bif c then a else b))) S
 | .v (.one (.bool c)),.v (.one (.int k a)),.v (.one (.int k' b))=>if k=k' then .ok (one (.int k (bif c then a else b))) S else .fail
 | .v (.one (.bool true)),a,_=>.ok a S
 | .v (.one (.bool false)),_,b=>.ok b S
 | _,_,_=>.fail
def smapGet:List (ByteArray×Bool)->ByteArray->Bool
 | [],_=>false
 | p::l,k=>bif k==p.1 then p.2 else smapGet l k
def smapPut:List (ByteArray×Bool)->ByteArray->Bool->List (ByteArray×Bool)
 | [],k,b=>[(k,b)]
 | p::l,k,b=>bif k==p.1 then (k,b)::l else p::smapPut l k b
def makeMapA (Γ:Tab)(t fr:Nat)(S:Store):Res:=match trOf Γ t with
 | some { d:=.mapSB,.. }=>.ok (one (.mref fr)) (S++[(fr,.smap [])])
 | _=>.fail
def lookupA (Γ:Tab)(t:Nat)(x k:AV)(S:Store):Res:=match trOf Γ t,x,k with
 | some { d:=.mapSB,.. },.v (.one (.mref m)),.v (.one (.str k))=>match look S m with
  | some (.smap l)=>.ok (one (.bool (smapGet l k))) S
  | _=>.fail
 | _,_,_=>.fail
def mapUpdateA (Γ:Tab)(t:Nat)(x k b:AV)(S:Store):Res:=match trOf Γ t,x,k,b with
 | some { d:=.mapSB,.. },.v (.one (.mref m)),.v (.one (.str k)),.v (.one (.bool b))=>match look S m with
  | some (.smap l)=>.ok .undef (upd S m (.smap (smapPut l k b)))
  | _=>.fail
 | _,_,_,_=>.fail
def promCells:List (Nat×Nat×Ty)->List C->Nat->List C×(Store×Nat)
 | [],cs,n=>(cs,[],n)
 | (off,E,e)::l,cs,n=>match cs[off]? with
  | some .emp=>((promCells l (cs.set off (.own n)) (n+1)).1,(n,.row E e .plain [])::(promCells l (cs.set off (.own n)) (n+1)).2.1,(promCells l (cs.set off (.own n)) (n+1)).2.2)
  | _=>promCells l cs n
def varA (o:List (Nat×Nat×Ty))(t:Nat)(cs:List C)(fr:Nat)(S:Store):Res :=
 .ok (one (.ptr (promCells o cs fr).2.2 0)) (S++((promCells o cs fr).2.1++[((promCells o cs fr).2.2,.var t (promCells o cs fr).1)]))
def ownOf (Γ:Tab)(t:Nat):List (Nat×Nat×Ty):=match trOf Γ t with
 | some r=>r.own
 | none=>[]
def freezeC (S:Store):C->C×Store
 | .own t=>match look S t with
  | some (.row E e _ xs)=>(.ro e xs,upd S t (.row E e .frz xs))
  | _=>(.dead,S)
 | c=>(c,S)
def freezeCs (S:Store):List C->List C×Store
 | []=>([],S)
 | c::cs=>((freezeC S c).1::(freezeCs (freezeC S c).2 cs).1,(freezeCs (freezeC S c).2 cs).2)
def frzA (S:Store):AV->AV×Store
 | .v (.one c)=>(.v (.one (freezeC S c).1),(freezeC S c).2)
 | .v (.agg cs)=>(.v (.agg (freezeCs S cs).1),(freezeCs S cs).2)
 | v=>(v,S)
def frzAs (S:Store):List AV->List AV×Store
 | []=>([],S)
 | v::vs=>((frzA S v).1::(frzAs (frzA S v).2 vs).1,(frzAs (frzA S v).2 vs).2)
def leaves:Ty->List Ty
 | .pair a b=>leaves a++leaves b
 | t=>[t]
def takeC (S:Store)(l:Ty)(c:C):C×Store:=match l,c with
 | .ref e,.ro e' xs=>if e'=e then match heapOf e' S with
  | some (t,E,H)=>(.ref e' (H.length+1),upd S t (.heap E e' (H++[.ro xs])))
  | none=>(c,S)
  else (c,S)
 | .ref e,.emp=>(.ref e 0,S)
 | .ref e,.own u=>match look S u with
  | some (.row E' e' .plain xs)=>if e'=e then match heapOf e' S with
   | some (t,E,H)=>if E'=E then (.ref e' (H.length+1),upd (keep (fun i=>!Nat.beq i u) S) t (.heap E' e' (H++[kidOf xs]))) else (c,S)
   | none=>(c,S)
   else (c,S)
  | _=>(c,S)
 | _,_=>(c,S)
def takeCs (S:Store):List Ty->List C->List C×Store
 | l::ls,c::cs=>((takeC S l c).1::(takeCs (takeC S l c).2 ls cs).1,(takeCs (takeC S l c).2 ls cs).2)
 | _,cs=>(cs,S)
def takeA (ls:List Ty)(v:AV)(S:Store):AV×Store:=match v,ls with
 | .v (.one c),l::_=>(.v (.one (takeC S l c).1),(takeC S l c).2)
 | .v (.agg cs),ls=>(.v (.agg (takeCs S ls cs).1),(takeCs S ls cs).2)
 | v,_=>(v,S)
def takeAs (ls:List Ty):List AV->Store->List AV×Store
 | [],S=>([],S)
 | v::vs,S=>((takeA ls v S).1::(takeAs ls vs (takeA ls v S).2).1,(takeAs ls vs (takeA ls v S).2).2)
def refsTy (Γ:Tab)(t:Nat):List Ty:=match trOf Γ t with
 | some { d:=.slice _ te,.. }=>bif te.hasRef then leaves te else []
 | _=>[]
def refsOf (S:Store)(u o:Nat):List Ty:=match look S u with
 | some (.row _ e _ _)=>bif e.hasRef then (leaves e).drop o else []
 | _=>[]
def okDeep (e:Ty):Ty->Bool
 | .pair a b=>okDeep e a&&okDeep e b
 | .ref e2=>decide (e2=e)
 | _=>true
def deepD (e:Ty):(te:Ty)->te.unref.den->Nat->te.den×List (Kid e.den)
 | .pair a b,x,n=>(((deepD e a x.1 n).1,(deepD e b x.2 (n+(deepD e a x.1 n).2.length)).1),(deepD e a x.1 n).2++(deepD e b x.2 (n+(deepD e a x.1 n).2.length)).2)
 | .ref e2,x,n=>if h:e2=e then ((n+1:Nat),[.ro (cast (congrArg (fun z=>List (Ty.den z)) h) x)]) else ((0:Nat),[])
 | .int _,x,_=>(x,[])
 | .bool,x,_=>(x,[])
 | .str,x,_=>(x,[])
 | .slice _,x,_=>(x,[])
def deepL (e te:Ty):List te.unref.den->Nat->List te.den×List (Kid e.den)
 | [],_=>([],[])
 | x::xs,n=>((deepD e te x n).1::(deepL e te xs (n+(deepD e te x n).2.length)).1,(deepD e te x n).2++(deepL e te xs (n+(deepD e te x n).2.length)).2)
def deepA (Γ:Tab)(t:Nat)(v:AV)(S:Store):Store:=match trOf Γ t,v with
 | some { d:=.slice _ te,.. },.v (.one (.own u))=>bif te.hasRef then match look S u with
  | some (.row E e .plain xs)=>if h:e=te.unref then match heapTok S with
   | some tk=>match look S tk with
    | some (.heap E2 e2 H)=>bif okDeep e2 te then upd (upd S tk (.heap E2 e2 (H++(deepL e2 te (cast (congrArg (fun z=>List (Ty.den z)) h) xs) H.length).2))) u (.row E te .plain (deepL e2 te (cast (congrArg (fun z=>List (Ty.den z)) h) xs) H.length).1) else S
    | _=>S
   | none=>S
   else S
  | _=>S
  else S
 | _,_=>S
def storePA (Γ:Tab)(t u o:Nat)(v:AV)(fr:Nat)(S:Store):Res:=match v with
 | .v (.agg cs)=>storeA Γ t (.v (.one (.ptr u o))) (.v (.agg (promCells (ownOf Γ t) cs fr).1)) (S++(promCells (ownOf Γ t) cs fr).2.1)
 | v=>storeA Γ t (.v (.one (.ptr u o))) v (deepA Γ t v S)
def capsOf:List AV->Option (List Nat)
 | []=>some []
 | .v (.one (.ptr t 0))::vs=>match capsOf vs with
  | some l=>some (t::l)
  | none=>none
 | _=>none
def stepOp (Γ:Tab)(T:Table)(op:Op)(args:List AV)(fr:Nat)(S:Store):Res :=
 match op,args with
 | .move _,[x]=>.ok x S
 | .assign _,[x]=>.ok x S
 | .pick _ _ _,[c,a,b]=>pickA c a b S
 | .alloc t,[]=>match trOf Γ t with
  | some { zero:=some z,.. }=>varA (ownOf Γ t) t z fr S
  | _=>.fail
 | .box t _,[.v x]=>bif x.cells.all C.live then varA (ownOf Γ t) t x.cells fr S else .fail
 | .build t ps,vs=>bif vs.all liveA then buildA Γ t (ps.toList.map (·.1)) vs S else .fail
 | .buildSlice t n ps,vs=>buildSliceA Γ t n (ps.toList.map (·.1)) (frzAs (takeAs (refsTy Γ t) vs S).2 (takeAs (refsTy Γ t) vs S).1).1 fr (frzAs (takeAs (refsTy Γ t) vs S).2 (takeAs (refsTy Γ t) vs S).1).2
 | .load t _,[x]=>loadA Γ t x S
 | .store t _ _,[.v (.one (.eptr u i o)),v]=>storeA Γ t (.v (.one (.eptr u i o))) (frzA (takeA (refsOf S u o) v S).2 (takeA (refsOf S u o) v S).1).1 (frzA (takeA (refsOf S u o) v S).2 (takeA (refsOf S u o) v S).1).2
 | .store t _ _,[.v (.one (.ptr u o)),v]=>storePA Γ t u o v fr S
 | .store t _ _,[x,v]=>storeA Γ t x v S
 | .nilCheck _,[x]=>match x with
  | .v (.one (.ptr ..)) | .v (.one (.eptr ..)) | .v (.one (.rptr ..)) | .v (.one (.aptr ..)) | .v (.one (.fn ..)) | .v (.one (.hptr ..))=>.ok x S
  | .v (.one (.optr t i))=>.chk (decide (0<=i)) (one (.eptr t i 0)) S
  | _=>.fail
 | .binOp b t _ _ _,[x,y]=>binA Γ b t x y S
 | .unOp u _ _,[x]=>unA u x S
 | .convert s d _,[x]=>convertA Γ s d x fr S
 | .makeSlice t l c,[n,m]=>makeA Γ t (sameOp l c) n m fr S
 | .slice t _ (some _) (some _) none,[x,l,h]=>sliceX Γ t x (some l) (some h) fr S
 | .slice t _ (some _) none none,[x,l]=>sliceX Γ t x (some l) none fr S
 | .slice t _ none (some _) none,[x,h]=>sliceX Γ t x none (some h) fr S
 | .slice t _ none none none,[x]=>sliceX Γ t x none none fr S
 | .slice t _ none (some _) (some _),[x,h,m]=>slice3A Γ t x h m S
 | .slice t _ (some _) (some _) (some _),[x,l,h,m]=>slice4A Γ t x l h m S
 | .fieldAddr s _ f,[x]=>fieldAddrA Γ s x f S
 | .field s _ f,[x]=>fieldA Γ s x f S
 | .indexAddr t _ _,[x,i]=>indexAddrA Γ t x i S
 | .index t _ _,[x,i]=>indexA Γ t x i S
 | .extract _ i,[.tup l]=>match l[i]? with
  | some x=>.ok (.v x) S
  | none=>.fail
 | .makeMap t none,[]=>makeMapA Γ t fr S
 | .lookup t _ _ false,[x,k]=>lookupA Γ t x k S
 | .mapUpdate t _ _ _,[x,k,b]=>mapUpdateA Γ t x k b S
 | .call { callee:=.builtin b,argTypes:=ts,.. },vs=>builtinA Γ b ts.toList vs fr S
 | .call { callee:=.value _,.. },.v (.one (.fn f caps))::vs=>callA T f (vs++caps.map fun t=>one (.ptr t 0)) fr S
 | .makeFunc (.func f) first _,vs=>bif Nat.beq first.size 0 then match capsOf vs with
  | some l=>.ok (one (.fn f l)) S
  | none=>.fail
  else .fail
 | _,_=>.fail
inductive X where
 | normal
 | exit (id:Nat)
 | ret
structure Note where
 slots:List Nat
 proms:List (Nat×Nat×Ty)
def promote:List (Nat×Nat×Ty)->St->St
 | [],st=>st
 | (i,E,e)::l,st=>match look st.env i with
  | some (.v (.one .emp))=>promote l { env:=upd st.env i (one (.own st.nxt)),sto:=st.sto++[(st.nxt,.row E e .plain [])],nxt:=st.nxt+1,args:=st.args }
  | _=>promote l st
def slotsOf (env:Env):List Nat->Env
 | []=>[]
 | i::l=>match look env i with
  | some v=>(i,v)::slotsOf env l
  | none=>slotsOf env l
def renEnv (f:Nat->Option Nat):Env->Env
 | []=>[]
 | (i,v)::l=>(i,v.ren f)::renEnv f l
def valsOf:Env->List AV
 | []=>[]
 | (_,v)::l=>v::valsOf l
def argVals:List (Option Nat)->List AV
 | []=>[]
 | some t::l=>one (.ptr t 0)::argVals l
 | none::l=>argVals l
def renArgs (f:Nat->Option Nat):List (Option Nat)->List (Option Nat)
 | []=>[]
 | some t::l=>f t::renArgs f l
 | none::l=>none::renArgs f l
def normSlots (slots:List Nat)(st:St):St :=
 let e:=slotsOf st.env slots
 let ts:=addHeap st.sto (reach st.sto (argVals st.args++valsOf e))
 let σ:=fun t=>idxOf ts t 0
 { env:=renEnv σ e,sto:=renSto ts σ st.sto ts 0,nxt:=ts.length,args:=renArgs σ st.args }
def norm (n:Note)(st:St):St:=normSlots n.slots (promote n.proms st)
def topKey:Store->Nat->Nat
 | [],n=>n
 | (t,_)::l,n=>topKey l (bif Nat.ble n t then t+1 else n)
def allLt (n:Nat):List Nat->Bool
 | []=>true
 | t::l=>Nat.blt t n&&allLt n l
def stoLt (n:Nat):Store->Bool
 | []=>true
 | (t,b)::l=>Nat.blt t n&&(allLt n b.toks&&stoLt n l)
def keysOk (ts:List Nat)(nx:Nat):Store->Bool
 | []=>true
 | (t,_)::l=>(memb ts t||Nat.ble nx t)&&keysOk ts nx l
def dstOk (N:Nat):Option Nat->Bool
 | some d=>Nat.blt d N
 | none=>true
def putE (env:Env)(dst:Option Nat)(v:AV):Env:=match dst with
 | some d=>upd env d v
 | none=>env
def hpOk (S rest S':Store):Bool:=(noHeap rest||noHeap S')&&((noHeap S||!noHeap (rest++S'))&&(noHeap S'||!noHeap (rest++S')))
def after (N:Nat)(st:St)(ts:List Nat)(dst:Option Nat)(v:AV)(S':Store):Option St :=
 let nx:=topKey S' st.nxt
 bif keysOk ts st.nxt S'&&(stoLt nx S'&&(allLt nx v.toks&&(dstOk N dst&&hpOk st.sto (keep (fun t=>!memb ts t) st.sto) S'))) then
  some { env:=putE st.env dst v,sto:=keep (fun t=>!memb ts t) st.sto++S',nxt:=nx,args:=st.args }
 else none
def guardA (ops:Array Oper)(env:Env)(o:Oper):Option (Option Bool) :=
 match o.guard with
 | none=>some none
 | some (j,want)=>match (ops[j]?).bind (·.dst) with
  | some d=>match look env d with
   | some (.v (.one (.bool b)))=>some (some (b==want))
   | some (.tup [])=>some (some false)
   | _=>none
  | none=>none
section
variable {R:Type}
def onAfter (x:Option St)(K:St->Option R):Option R:=match x with
 | some st=>K st
 | none=>none
def altB {R1 R2 R:Type}(m:Option (R1 ⊕ R2))(f:R1->Option R)(g:R2->Option R):Option R:=match m with
 | none=>none
 | some (.inl x)=>f x
 | some (.inr y)=>g y
theorem altB_some {R1 R2 R:Type}{m:Option (R1 ⊕ R2)}{f:R1->Option R}{g:R2->Option R}{r:R}(h:altB m f g=some r):(∃ x,m=some (.inl x)∧f x=some r)∨∃ y,m=some (.inr y)∧g y=some r:=by
 cases m with
 | none=>cases h
 | some s=>cases s with
  | inl x=>exact .inl ⟨x,rfl,h⟩
  | inr y=>exact .inr ⟨y,rfl,h⟩
def runRes (r:Res)(F:AV->Store->Option R):Option R :=
 match r with
 | .ok v S=>F v S
 | .chk c v S=>bif c then F v S else none
 | .call _ m h=>m.bind fun x=>F (h x).1 (h x).2
 | .alt _ _ m h1 h2=>altB m (fun x=>F (h1 x).1 (h1 x).2) fun x=>F (h2 x).1 (h2 x).2
 | .rd S _ m h=>m.bind fun x=>F (h x).1 (S++(h x).2)
 | .fail=>none
def argsOf (env:Env)(o:Oper):List AV:=o.op.operands.toList.map (evalA env)
def guards (ops:Array Oper)(d:Nat):List Oper->Bool
 | []=>false
 | o::l=>(match o.guard with
  | some (j,_)=>(match ops[j]? with
   | some x=>(match x.dst with
    | some e=>Nat.beq d e
    | none=>false)
   | none=>false)
  | none=>false)||guards ops d l
def isGuard (ops:Array Oper)(o:Oper):Bool:=match o.dst with
 | some d=>guards ops d ops.toList
 | none=>false
def splitB (g:Bool)(v:AV)(F:AV->Option R):Option R :=
 bif g then match v with
  | .v (.one (.bool b))=>bif b then F (one (.bool true)) else F (one (.bool false))
  | v=>F v
 else F v
theorem splitB_eq {g:Bool}{v:AV}{F:AV->Option R}{r:R}(h:splitB g v F=some r):F v=some r:=by
 unfold splitB at h
 cases g with
 | false=>exact h
 | true =>
  simp only[cond_true] at h
  split at h
  ·rename_i b
   cases b<;>exact h
  ·exact h
def opToks (Γ:Tab)(op:Op)(S:Store)(args:List AV):List Nat:=match op with
 | .call { callee:=.value _,.. }=>addHeap S (reach S args)
 | .store t _ _=>bif (refsTy Γ t).isEmpty then reach S args else addHeap S (reach S args)
 | .buildSlice t ..=>bif (refsTy Γ t).isEmpty then reach S args else addHeap S (reach S args)
 | _=>reach S args
def evRun (Γ:Tab)(T:Table)(N:Nat)(g:Bool)(o:Oper)(st:St)(K:St->Option R):Option R :=
 let args:=argsOf st.env o
 let ts:=opToks Γ o.op st.sto args
 runRes (stepOp Γ T o.op args st.nxt (keep (memb ts) st.sto)) fun v S'=>splitB g v fun v=>onAfter (after N st ts o.dst v S') K
def evOper (Γ:Tab)(T:Table)(N:Nat)(ops:Array Oper)(o:Oper)(st:St)(K:St->Option R):Option R :=
 match guardA ops st.env o with
 | none=>none
 | some none=>evRun Γ T N (isGuard ops o) o st K
 | some (some b)=>bif b then evRun Γ T N (isGuard ops o) o st K else onAfter (after N st [] o.dst (.tup []) []) K
def evOps (Γ:Tab)(T:Table)(N:Nat)(ops:Array Oper):List Oper->St->(St->Option R)->Option R
 | [],st,K=>K st
 | o::l,st,K=>evOper Γ T N ops o st fun st'=>evOps Γ T N ops l st' K
def loopN (body:(X->St->Option R)->St->Option R)(K:X->St->Option R):Nat->St->Option R
 | 0,_=>none
 | n+1,st=>body (fun e st'=>match e with
  | .normal=>loopN body K n st'
  | e=>K e st') st
end
end Go.Ab
namespace Go.Ab
def All2 {α β:Type}(R:α->β->Prop):List α->List β->Prop
 | [],[]=>True
 | a::l,b::m=>R a b∧All2 R l m
 | _,_=>False
theorem All2.length {α β:Type}{R:α->β->Prop}:∀ {l:List α} {m:List β},All2 R l m->l.length=m.length
 | [],[],_=>rfl
 | _::l,_::m,h=>by simp[All2.length h.2]
 | [],_::_,h=>h.elim
 | _::_,[],h=>h.elim
theorem All2.imp {α β:Type}{R R':α->β->Prop}:∀ {l:List α} {m:List β},All2 R l m->(∀ a∈l,∀ b,R a b->R' a b)->All2 R' l m
 | [],[],_,_=>trivial
 | a::l,b::m,h,f=>⟨f a (by simp) b h.1,All2.imp h.2 fun x hx=>f x (by simp[hx])⟩
 | [],_::_,h,_=>h.elim
 | _::_,[],h,_=>h.elim
theorem All2.get {α β:Type}{R:α->β->Prop}:∀ {l:List α} {m:List β},All2 R l m->∀ (i:Nat) (a:α),l[i]?=some a->∃ b,m[i]?=some b∧R a b
 | a::l,b::m,h,0,x,hx=>by simp at hx;subst hx;exact⟨b,rfl,h.1⟩
 | a::l,b::m,h,i+1,x,hx=>by simpa using All2.get h.2 i x (by simpa using hx)
 | [],_,_,i,x,hx=>by simp at hx
 | _::_,[],h,_,_,_=>h.elim
theorem All2.append {α β:Type}{R:α->β->Prop}:∀ {l:List α} {m:List β} {l':List α} {m':List β},All2 R l m->All2 R l' m'->All2 R (l++l') (m++m')
 | [],[],_,_,_,h'=>h'
 | _::l,_::m,_,_,h,h'=>⟨h.1,All2.append h.2 h'⟩
 | [],_::_,_,_,h,_=>h.elim
 | _::_,[],_,_,h,_=>h.elim
theorem All2.take {α β:Type}{R:α->β->Prop}:∀ (n:Nat) {l:List α} {m:List β},All2 R l m->All2 R (l.take n) (m.take n)
 | 0,_,_,_=>by simp[All2]
 | n+1,[],[],_=>by simp[All2]
 | n+1,_::l,_::m,h=>by simpa [All2] using ⟨h.1,All2.take n h.2⟩
 | _+1,[],_::_,h=>h.elim
 | _+1,_::_,[],h=>h.elim
theorem All2.drop {α β:Type}{R:α->β->Prop}:∀ (n:Nat) {l:List α} {m:List β},All2 R l m->All2 R (l.drop n) (m.drop n)
 | 0,_,_,h=>by simpa using h
 | n+1,[],[],_=>by simp[All2]
 | n+1,_::l,_::m,h=>by simpa using All2.drop n h.2
 | _+1,[],_::_,h=>h.elim
 | _+1,_::_,[],h=>h.elim
theorem All2.map_left {α α' β:Type}{R:α->β->Prop}{R':α'->β->Prop}{f:α->α'}:∀ {l:List α} {m:List β},All2 R l m->(∀ a∈l,∀ b,R a b->R' (f a) b)->All2 R' (l.map f) m
 | [],[],_,_=>trivial
 | a::l,b::m,h,g=>⟨g a (by simp) b h.1,All2.map_left h.2 fun x hx=>g x (by simp[hx])⟩
 | [],_::_,h,_=>h.elim
 | _::_,[],h,_=>h.elim
structure G where
 blk:Option Nat
 len:Nat
 cap:Nat
 sz:Nat
 nl:Option Addr   -- where an empty row without a block points to
def G.val (g:G):Value:=match g.blk with
 | some b=>.slice (some ⟨b,0,none⟩) g.len g.cap
 | none=>.slice g.nl 0 0
structure SlV where
 A:Option Addr
 n:Nat
 cap:Nat
 own:Option Nat   -- its block,where that may be one's own
def SlV.val (s:SlV):Value:=.slice s.A s.n s.cap
def G.sl (g:G):SlV:=match g.blk with
 | some b=>⟨some ⟨b,0,none⟩,g.len,g.cap,some b⟩
 | none=>⟨g.nl,0,0,none⟩
theorem G.sl_val (g:G):g.sl.val=g.val:=by
 unfold G.sl G.val
 cases g.blk<;>rfl
theorem G.sl_own (g:G):g.sl.own=g.blk:=by
 unfold G.sl
 cases g.blk<;>rfl
theorem G.sl_at {g:G}{b:Nat}(h:g.blk=some b):g.sl=⟨some ⟨b,0,none⟩,g.len,g.cap,some b⟩:=by
 unfold G.sl
 rw[h]
theorem G.sl_none {g:G}(h:g.blk=none):g.sl=⟨g.nl,0,0,none⟩:=by
 unfold G.sl
 rw[h]
structure FK where
 on:Nat->Prop
 kid:Nat->Option SlV
instance:CoeFun FK (fun _=>Nat->Prop):=⟨FK.on⟩
def FK.ks (F:FK):Nat->Option SlV
 | 0=>some ⟨none,0,0,none⟩
 | j+1=>F.kid j
def FK.kidv (F:FK):Nat->Value->Prop
 | 0,v=>v=.slice none 0 0
 | j+1,v=>∃ s,F.kid j=some s∧v=s.val
structure FK.Le (F F':FK):Prop where
 on:∀ b,F b->F' b
 kid:∀ j s,F.kid j=some s->F'.kid j=some s
instance {F F':FK}:CoeFun (FK.Le F F') (fun _=>∀ b,F b->F' b):=⟨FK.Le.on⟩
theorem FK.Le.refl (F:FK):FK.Le F F:=⟨fun _ h=>h,fun _ _ h=>h⟩
theorem FK.Le.trans {F F' F'':FK}(h:FK.Le F F')(h':FK.Le F' F''):FK.Le F F'':=⟨fun b hb=>h'.on b (h.on b hb),fun j s hs=>h'.kid j s (h.kid j s hs)⟩
theorem FK.Le.kidv {F F':FK}(h:FK.Le F F'):∀ {id:Nat} {v:Value},F.kidv id v->F'.kidv id v
 | 0,_,hv=>hv
 | j+1,_,⟨s,h1,h2⟩=>⟨s,h.kid j s h1,h2⟩
theorem FK.Le.ks {F F':FK}(h:FK.Le F F'):∀ {id:Nat} {s:SlV},F.ks id=some s->F'.ks id=some s
 | 0,_,hv=>hv
 | j+1,_,hv=>h.kid j _ hv
theorem FK.kidv_ks {F:FK}:∀ {id:Nat} {v:Value},F.kidv id v->∃ s,F.ks id=some s∧v=s.val
 | 0,_,h=>⟨⟨none,0,0,none⟩,rfl,h⟩
 | _+1,_,⟨s,h1,h2⟩=>⟨s,h1,h2⟩
theorem FK.ks_kidv {F:FK}:∀ {id:Nat} {s:SlV},F.ks id=some s->F.kidv id s.val
 | 0,_,h=>by injection h with h;subst h;rfl
 | _+1,s,h=>⟨s,h,rfl⟩
theorem FK.kidv_slice {F:FK}:∀ {id:Nat} {v:Value},F.kidv id v->∃ A n c,v=.slice A n c
 | 0,_,h=>⟨none,0,0,h⟩
 | _+1,_,⟨s,_,h⟩=>⟨s.A,s.n,s.cap,h⟩
def FK.below (n:Nat):FK:=⟨fun b=>b<n,fun _=>none⟩
def FK.with (F:FK)(k:Nat->Option SlV):FK:=⟨F.on,k⟩
section
variable (F:FK) (w:World)
def RoSl {α:Type}(R:α->List Value->Prop)(sz:Nat)(xs:List α)(v:Value):Prop :=
 ∃ A n cap,v=.slice A n cap∧xs.length=n∧n<=cap ∧
  (0<n->∃ a:Addr,A=some a∧a.spot=none∧F a.block∧∀ i x,xs[i]?=some x->∃ l,R x l∧l.length=sz∧∀ j v,l[j]?=some v->w.cell? ⟨a.block,a.off+(i*sz+j),none⟩=some v)
def RepD:(t:Ty)->t.den->List Value->Prop
 | .int k,x,l=>l=[.int k x]
 | .bool,x,l=>l=[.bool x]
 | .str,x,l=>l=[.string x]
 | .pair a b,x,l=>∃ l1 l2,l=l1++l2∧RepD a x.1 l1∧RepD b x.2 l2
 | .slice e,xs,l=>∃ v,l=[v]∧RoSl F w (RepD e) e.size xs v
 | .ref _,id,l=>∃ v,l=[v]∧F.kidv id v
def Flat (e:Ty):List e.den->List Value->Prop
 | [],l=>l=[]
 | x::xs,l=>∃ l1 l2,l=l1++l2∧RepD F w e x l1∧Flat e xs l2
end
theorem RepD.length {F:FK}{w:World}:∀ {t:Ty} {x:t.den} {l:List Value},RepD F w t x l->l.length=t.size
 | .int _,_,_,h=>by simp only[RepD] at h;subst h;rfl
 | .bool,_,_,h=>by simp only[RepD] at h;subst h;rfl
 | .str,_,_,h=>by simp only[RepD] at h;subst h;rfl
 | .pair a b,_,_,h=>by
  simp only[RepD] at h
  obtain⟨l1,l2,rfl,h1,h2⟩:=h
  simp[Ty.size,RepD.length h1,RepD.length h2]
 | .slice e,_,_,h=>by
  simp only[RepD] at h
  obtain⟨v,rfl,_⟩:=h
  rfl
 | .ref e,_,_,h=>by
  simp only[RepD] at h
  obtain⟨v,rfl,_⟩:=h
  rfl
theorem Ty.size_pos:∀ t:Ty,0<t.size
 | .pair a b=>by have:=a.size_pos;simp[Ty.size];omega
 | .int _ | .bool | .str | .slice _ | .ref _=>by simp[Ty.size]
theorem Flat.length {F:FK}{w:World}{e:Ty}:∀ {xs:List e.den} {l:List Value},Flat F w e xs l->l.length=xs.length*e.size
 | [],_,h=>by simp only[Flat] at h;subst h;simp
 | x::xs,_,h=>by
  simp only[Flat] at h
  obtain⟨l1,l2,rfl,h1,h2⟩:=h
  simp[RepD.length h1,Flat.length h2,Nat.add_mul,Nat.add_comm]
theorem Flat.append {F:FK}{w:World}{e:Ty}:∀ {xs ys:List e.den} {l m:List Value},Flat F w e xs l->Flat F w e ys m->Flat F w e (xs++ys) (l++m)
 | [],_,_,_,h,h'=>by simp only[Flat] at h;subst h;simpa using h'
 | x::xs,_,_,_,h,h'=>by
  simp only[Flat] at h
  obtain⟨l1,l2,rfl,h1,h2⟩:=h
  exact⟨l1,_,List.append_assoc ..,h1,Flat.append h2 h'⟩
theorem Flat.at {F:FK}{w:World}{e:Ty}:∀ {xs:List e.den} {l:List Value},Flat F w e xs l->∀ i x,xs[i]?=some x ->
  ∃ m,RepD F w e x m∧∀ j v,m[j]?=some v->l[i*e.size+j]?=some v
 | [],_,_,i,x,hx=>by simp at hx
 | y::xs,_,h,0,x,hx=>by
  simp only[Flat] at h
  obtain⟨l1,l2,rfl,h1,h2⟩:=h
  simp at hx
  subst hx
  refine⟨l1,h1,fun j v hv=>?_⟩
  have hj:j<l1.length:=(List.getElem?_eq_some_iff.1 hv).1
  simpa [List.getElem?_append_left hj] using hv
 | y::xs,_,h,i+1,x,hx=>by
  simp only[Flat] at h
  obtain⟨l1,l2,rfl,h1,h2⟩:=h
  obtain⟨m,hm,hl⟩:=Flat.at h2 i x (by simpa using hx)
  refine⟨m,hm,fun j v hv=>?_⟩
  have:=hl j v hv
  rw[List.getElem?_append_right (by rw[RepD.length h1,Nat.add_mul];omega),RepD.length h1,← this]
  congr 1
  rw[Nat.add_mul]
  omega
theorem Flat.take {F:FK}{w:World}{e:Ty}:∀ (n:Nat) {xs:List e.den} {l:List Value},Flat F w e xs l->Flat F w e (xs.take n) (l.take (n*e.size))
 | 0,_,_,_=>by simp[Flat]
 | n+1,[],_,h=>by simp only[Flat] at h;subst h;simp[Flat]
 | n+1,x::xs,_,h=>by
  simp only[Flat] at h
  obtain⟨l1,l2,rfl,h1,h2⟩:=h
  refine⟨l1,l2.take (n*e.size),?_,h1,Flat.take n h2⟩
  rw[List.take_append,RepD.length h1,List.take_of_length_le (by rw[RepD.length h1,Nat.add_mul];omega)]
  congr 2
  rw[Nat.add_mul]
  omega
theorem Flat.drop {F:FK}{w:World}{e:Ty}:∀ (n:Nat) {xs:List e.den} {l:List Value},Flat F w e xs l->Flat F w e (xs.drop n) (l.drop (n*e.size))
 | 0,_,_,h=>by simpa using h
 | n+1,[],_,h=>by simp only[Flat] at h;subst h;simp[Flat]
 | n+1,x::xs,_,h=>by
  simp only[Flat] at h
  obtain⟨l1,l2,rfl,h1,h2⟩:=h
  have h3:=RepD.length h1
  have e1:(n+1)*e.size=e.size+n*e.size:=by rw[Nat.add_mul];omega
  have e2:(l1++l2).drop ((n+1)*e.size)=l2.drop (n*e.size):=by rw[e1,← List.drop_drop,List.drop_left' h3]
  rw[e2]
  exact Flat.drop n h2
theorem Flat.set {F:FK}{w:World}{e:Ty}:∀ {xs:List e.den} {l:List Value},Flat F w e xs l->∀ (i:Nat) (y:e.den) (m:List Value),i<xs.length->RepD F w e y m ->
  Flat F w e (xs.set i y) (l.take (i*e.size)++m++l.drop (i*e.size+e.size))
 | [],_,_,i,y,m,hi,_=>by simp at hi
 | x::xs,_,h,0,y,m,_,hm=>by
  simp only[Flat] at h
  obtain⟨l1,l2,rfl,h1,h2⟩:=h
  refine⟨m,l2,?_,hm,h2⟩
  have:=RepD.length h1
  simp[List.drop_left' this]
 | x::xs,_,h,i+1,y,m,hi,hm=>by
  simp only[Flat] at h
  obtain⟨l1,l2,rfl,h1,h2⟩:=h
  refine⟨l1,_,?_,h1,Flat.set h2 i y m (by simpa using hi) hm⟩
  have h3:=RepD.length h1
  have e1:(i+1)*e.size=e.size+i*e.size:=by rw[Nat.add_mul];omega
  rw[e1,List.take_append,h3,List.take_of_length_le (by omega),List.drop_append,h3,List.drop_of_length_le (by omega)]
  simp only[List.nil_append,List.append_assoc]
  congr 3
  ·congr 1;omega
  ·congr 1;omega
structure Lasts (F F':FK)(w w':World):Prop where
 sub:FK.Le F F'
 heap:∀ b,F b->w'.heap[b]?=w.heap[b]?
theorem Lasts.refl (F:FK)(w:World):Lasts F F w w:=⟨FK.Le.refl F,fun _ _=>rfl⟩
theorem RoSl.lasts {α:Type}{R R':α->List Value->Prop}{F F':FK}{w w':World}{sz:Nat}{xs:List α}{v:Value}(h:RoSl F w R sz xs v)(hl:Lasts F F' w w')
  (hR:∀ x l,R x l->R' x l):RoSl F' w' R' sz xs v:=by
 obtain⟨A,n,cap,hv,hn,hc,h⟩:=h
 refine⟨A,n,cap,hv,hn,hc,fun h0=>?_⟩
 obtain⟨a,hA,hs,hF,h⟩:=h h0
 refine⟨a,hA,hs,hl.sub _ hF,fun i x hx=>?_⟩
 obtain⟨l,h1,h2,h3⟩:=h i x hx
 exact⟨l,hR _ _ h1,h2,fun j v hv=>(World.cell?_of_block (a:=⟨a.block,a.off+(i*sz+j),none⟩) (hl.heap _ hF)).trans (h3 j v hv)⟩
theorem RepD.lasts {F F':FK}{w w':World}(hl:Lasts F F' w w'):∀ {t:Ty} {x:t.den} {l:List Value},RepD F w t x l->RepD F' w' t x l
 | .int _,_,_,h=>h
 | .bool,_,_,h=>h
 | .str,_,_,h=>h
 | .pair a b,_,_,h=>by
  simp only[RepD] at h ⊢
  obtain⟨l1,l2,rfl,h1,h2⟩:=h
  exact⟨l1,l2,rfl,RepD.lasts hl h1,RepD.lasts hl h2⟩
 | .slice e,_,_,h=>by
  simp only[RepD] at h ⊢
  obtain⟨v,rfl,h⟩:=h
  exact⟨v,rfl,h.lasts hl fun x l=>RepD.lasts hl⟩
 | .ref e,_,_,h=>by
  simp only[RepD] at h ⊢
  obtain⟨v,rfl,h⟩:=h
  exact⟨v,rfl,hl.sub.kidv h⟩
theorem Flat.lasts {F F':FK}{w w':World}(hl:Lasts F F' w w'){e:Ty}:∀ {xs:List e.den} {l:List Value},Flat F w e xs l->Flat F' w' e xs l
 | [],_,h=>h
 | _::_,_,h=>by
  simp only[Flat] at h ⊢
  obtain⟨l1,l2,rfl,h1,h2⟩:=h
  exact⟨l1,l2,rfl,h1.lasts hl,Flat.lasts hl h2⟩
section
variable (γ:Nat->G) (F:FK) (w:World)
def RepC:C->Value->Prop
 | .int k n,v=>v=.int k n
 | .bool b,v=>v=.bool b
 | .str s,v=>v=.string s
 | .ro e xs,v=>RoSl F w (RepD F w e) e.size xs v
 | .emp,v=>v=.slice none 0 0
 | .own t,v=>v=(γ t).val
 | .ptr t off,v=>∃ b,(γ t).blk=some b∧v=.pointer (some ⟨b,off,none⟩)
 | .eptr t i fo,v=>∃ b,(γ t).blk=some b∧0<=i∧i.toNat<(γ t).len∧v=.pointer (some ⟨b,i.toNat*(γ t).sz+fo,none⟩)
 | .aptr t off n i,v=>∃ b,(γ t).blk=some b∧0<=i∧i.toNat<n∧v=.pointer (some ⟨b,off+i.toNat,none⟩)
 | .rptr e x fo,v=>∃ (a:Addr) (l:List Value),F a.block∧RepD F w e x l∧(∀ j u,l[j]?=some u->w.cell? ⟨a.block,a.off+j,none⟩=some u)∧v=.pointer (some ⟨a.block,a.off+fo,none⟩)
 | .fn f caps,v=>∃ bs:List Nat,v=.func (.func f) #[] (bs.map fun b=>Value.pointer (some ⟨b,0,none⟩)).toArray∧All2 (fun t b=>(γ t).blk=some b) caps bs
 | .nil k,v=>v=k.val
 | .ref _ id,v=>F.kidv id v
 | .hptr e id i fo,v=>∃ j b o s,id=j+1∧F.kid j=some s∧s.A=some ⟨b,o,none⟩∧0<=i∧i.toNat<s.n∧v=.pointer (some ⟨b,o+i.toNat*e.size+fo,none⟩)
 | .hview e id lo hi,v=>∃ s,F.ks id=some s∧0<=lo∧lo<=hi∧hi<=s.cap∧v=.slice (if s.cap=lo.toNat then s.A else s.A.map (·.add (lo.toNat*e.size))) (hi.toNat - lo.toNat) (s.cap - lo.toNat)
 | .mref t,v=>∃ b,(γ t).blk=some b∧v=.map (some b)
 | .view t lo hi,v=>0<=lo∧lo<=hi∧hi<=((γ t).len:Int)∧v=.slice (if (γ t).sl.cap=lo.toNat then (γ t).sl.A else (γ t).sl.A.map (·.add (lo.toNat*(γ t).sz))) (hi.toNat - lo.toNat) ((γ t).sl.cap - lo.toNat)
 | .optr t i,v=>(i<0∧v=.pointer none)∨∃ b,(γ t).blk=some b∧0<=i∧i.toNat<(γ t).len∧v=.pointer (some ⟨b,i.toNat*(γ t).sz,none⟩)
 | .kids _ _,_=>True
 | .emp0,v=>∃ A,v=.slice A 0 0
 | .dead,_=>True
def RepV:V1->Value->Prop
 | .one c,v=>RepC γ F w c v
 | .agg cs,v=>∃ l:List Value,v=.agg l.toArray∧All2 (RepC γ F w) cs l
def RepA:AV->Value->Prop
 | .v x,v=>RepV γ F w x v
 | .tup l,v=>∃ vs:List Value,v=.tuple vs.toArray∧All2 (RepV γ F w) l vs
 | .undef,_=>True
end
theorem RepC.lasts {γ γ':Nat->G}{F F':FK}{w w':World}(hl:Lasts F F' w w'){c:C}{v:Value}(hγ:∀ t∈c.toks,γ' t=γ t)(h:RepC γ F w c v):RepC γ' F' w' c v:=by
 cases c with
 | ro e xs=>exact RoSl.lasts h hl fun x l=>RepD.lasts hl
 | own t=>simp only[RepC] at h ⊢;rw[hγ t (by simp[C.toks])];exact h
 | ptr t off=>simp only[RepC] at h ⊢;rw[hγ t (by simp[C.toks])];exact h
 | eptr t i fo=>simp only[RepC] at h ⊢;rw[hγ t (by simp[C.toks])];exact h
 | aptr t off n i=>simp only[RepC] at h ⊢;rw[hγ t (by simp[C.toks])];exact h
 | rptr e x fo =>
  obtain⟨a,l,h1,h2,h3,h4⟩:=h
  exact⟨a,l,hl.sub _ h1,h2.lasts hl,fun j u hu=>(World.cell?_of_block (a:=⟨a.block,a.off+j,none⟩) (hl.heap _ h1)).trans (h3 j u hu),h4⟩
 | fn f caps =>
  obtain⟨bs,h1,h2⟩:=h
  exact⟨bs,h1,h2.imp fun t ht b hb=>by rw[hγ t (by simpa [C.toks] using ht)];exact hb⟩
 | ref e id=>exact hl.sub.kidv h
 | hptr e id i fo =>
  obtain⟨j,b,o,s,h1,h2,h3⟩:=h
  exact⟨j,b,o,s,h1,hl.sub.kid _ _ h2,h3⟩
 | hview e id lo hi =>
  obtain⟨s,h2,h3⟩:=h
  exact⟨s,hl.sub.ks h2,h3⟩
 | mref t=>simp only[RepC] at h ⊢;rw[hγ t (by simp[C.toks])];exact h
 | view t lo hi=>simp only[RepC] at h ⊢;rw[hγ t (by simp[C.toks])];exact h
 | optr t i=>simp only[RepC] at h ⊢;rw[hγ t (by simp[C.toks])];exact h
 | _=>exact h
theorem RepCs.lasts {γ γ':Nat->G}{F F':FK}{w w':World}(hl:Lasts F F' w w'){cs:List C}{vs:List Value}(hγ:∀ t∈cs.flatMap C.toks,γ' t=γ t)
  (h:All2 (RepC γ F w) cs vs):All2 (RepC γ' F' w') cs vs :=
 h.imp fun c hc v hv=>RepC.lasts hl (fun t ht=>hγ t (List.mem_flatMap.2 ⟨c,hc,ht⟩)) hv
theorem RepV.lasts {γ γ':Nat->G}{F F':FK}{w w':World}(hl:Lasts F F' w w'){x:V1}{v:Value}(hγ:∀ t∈x.toks,γ' t=γ t)(h:RepV γ F w x v):RepV γ' F' w' x v:=by
 cases x with
 | one c=>exact RepC.lasts hl (fun t ht=>hγ t (by simpa [V1.toks,V1.cells] using ht)) h
 | agg cs =>
  obtain⟨l,h1,h2⟩:=h
  exact⟨l,h1,RepCs.lasts hl (fun t ht=>hγ t (by simpa [V1.toks,V1.cells] using ht)) h2⟩
theorem RepA.lasts {γ γ':Nat->G}{F F':FK}{w w':World}(hl:Lasts F F' w w'){x:AV}{v:Value}(hγ:∀ t∈x.toks,γ' t=γ t)(h:RepA γ F w x v):RepA γ' F' w' x v:=by
 cases x with
 | v x=>exact RepV.lasts hl hγ h
 | tup l =>
  obtain⟨vs,h1,h2⟩:=h
  exact⟨vs,h1,h2.imp fun y hy u hu=>RepV.lasts hl (fun t ht=>hγ t (by simp only[AV.toks];exact List.mem_flatMap.2 ⟨y,hy,ht⟩)) hu⟩
 | undef=>trivial
def RowOk (F:FK)(g:G)(w:World)(E:Nat)(e:Ty)(m:RowK)(xs:List e.den):Prop :=
  g.len=xs.length∧g.sz=e.size ∧
  ((g.blk=none∧xs=[]∧(e.u8=true->g.nl=none)) ∨
   ∃ b cur fr flat,g.blk=some b∧w.heap[b]?=some (.cells cur E fr)∧xs.length<=g.cap∧g.cap<=maxLen∧cur.size=g.cap*e.size ∧
     cur.toList.take (xs.length*e.size)=flat∧Flat F w e xs flat ∧
     (match m with
      | .plain=>¬ F b∧fr=(0,0)
      | .mark=>¬ F b∧cur.size<=fr.1
      | .frz=>F b))
def KidOk (F:FK)(w:World)(E:Nat)(e:Ty)(j:Nat):Kid e.den->Prop
 | .dead=>True
 | .ro xs=>∃ s,F.kid j=some s∧RoSl F w (RepD F w e) e.size xs s.val
 | .own xs c=>∃ g:G,F.kid j=some g.sl∧RowOk F g w E e .plain xs∧xs.length<=c∧c<=g.sl.cap
def Blk.kids (F:FK):Blk->Nat->Nat->Prop
 | .heap _ _ H,j,b=>(∃ xs c,H[j]?=some (.own xs c))∧∃ s,F.kid j=some s∧s.own=some b
 | _,_,_=>False
def BlkOk (F:FK)(γ:Nat->G)(w:World)(t:Nat):Blk->Prop
 | .var E cs=>∃ b cur,(γ t).blk=some b∧w.heap[b]?=some (.cells cur E (0,0))∧¬ F b∧All2 (RepC γ F w) cs cur.toList
 | .row E e m xs=>RowOk F (γ t) w E e m xs
 | .heap E e H=>(γ t).blk=none∧(∀ j s,F.kid j=some s->j<H.length)∧∀ j k,H[j]?=some k->KidOk F w E e j k
 | .smap l=>∃ b es clk,(γ t).blk=some b∧w.heap[b]?=some (.map es clk)∧¬ F b∧es.toList.map (fun e=>(e.key,e.val))=l.map fun p=>(Value.string p.1,Value.bool p.2)
def Has (S:Store)(t:Nat):Prop:=∃ b,look S t=some b
def Gnd (F:FK)(w:World):Prop:=(∀ p∈groundL,F p.1∧∃ t fz,w.heap[p.1]?=some (.cells p.2 t fz))∧∀ b∈groundI,F b∧∃ m,w.cell? ⟨b,0,none⟩=some (.int .i64 m)
theorem Gnd.mono {F F':FK}{w w':World}(h:Gnd F w)(hs:∀ b,F b->F' b)(hw:∀ b,F b->w'.heap[b]?=w.heap[b]?):Gnd F' w':=⟨fun p hp =>
 ⟨hs _ (h.1 p hp).1,(by obtain⟨t,fz,e⟩:=(h.1 p hp).2;exact⟨t,fz,by rw[hw _ (h.1 p hp).1];exact e⟩)⟩,fun b hb =>
 ⟨hs _ (h.2 b hb).1,(by obtain⟨m,e⟩:=(h.2 b hb).2;exact⟨m,(World.cell?_of_block (a:=⟨b,0,none⟩) (hw _ (h.2 b hb).1)).trans e⟩)⟩⟩
structure Frz (F:FK)(w:World):Prop where
 lt:∀ b,F b->b<w.heap.size
 gnd:Gnd F w
instance {F:FK}{w:World}:CoeFun (Frz F w) (fun _=>∀ b,F b->b<w.heap.size):=⟨Frz.lt⟩
def KidO (F:FK)(S:Store)(j b:Nat):Prop:=∃ t x,look S t=some x∧x.kids F j b
structure HpInv (F:FK)(γ:Nat->G)(S:Store):Prop where
 uniq:∀ t t' x x',look S t=some x->look S t'=some x'->x.isHeap=true->x'.isHeap=true->t=t'
 kid:∀ j j' b,KidO F S j b->KidO F S j' b->j=j'
 sep:∀ j b t,KidO F S j b->Has S t->(γ t).blk≠some b
structure Inv (F:FK)(γ:Nat->G)(S:Store)(w:World):Prop where
 blk:∀ t b,look S t=some b->BlkOk F γ w t b
 inj:∀ t t' b,Has S t->Has S t'->(γ t).blk=some b->(γ t').blk=some b->t=t'
 fz:Frz F w
 hp:HpInv F γ S
def Mine (F:FK)(γ:Nat->G)(S:Store)(b:Nat):Prop:=(∃ t,Has S t∧(γ t).blk=some b)∨∃ j,KidO F S j b
structure Post (fr:Nat)(γ:Nat->G)(F:FK)(w:World)(S:Store)(γ':Nat->G)(F':FK)(w':World)(S':Store):Prop where
 os:w'.os=w.os
 tape:w'.tape=w.tape
 output:w'.output=w.output
 size:w.heap.size<=w'.heap.size
 heap:∀ b,b<w.heap.size->¬ Mine F γ S b->w'.heap[b]?=w.heap[b]?
 gam:∀ t,t<fr->γ' t=γ t
 sub:FK.Le F F'
 fnew:∀ b,F' b->F b∨Mine F γ S b∨w.heap.size<=b
 mine:∀ b,Mine F' γ' S' b->Mine F γ S b∨w.heap.size<=b
 frz:∀ b,F b->w'.heap[b]?=w.heap[b]?
 inv:Inv F' γ' S' w'
 kid0:noHeap S'=true->F'.kid=F.kid
theorem Post.lasts {fr:Nat}{γ:Nat->G}{F:FK}{w:World}{S:Store}{γ':Nat->G}{F':FK}{w':World}{S':Store}(h:Post fr γ F w S γ' F' w' S'):Lasts F F' w w':=⟨h.sub,h.frz⟩
theorem Post.same {fr:Nat}{γ:Nat->G}{F:FK}{w:World}{S:Store}(h:Inv F γ S w):Post fr γ F w S γ F w S :=
 ⟨rfl,rfl,rfl,Nat.le_refl _,fun _ _ _=>rfl,fun _ _=>rfl,FK.Le.refl _,fun _ h=>.inl h,fun _ h=>.inl h,fun _ _=>rfl,h,fun _=>rfl⟩
theorem lt_of_cells {w:World}{b:Nat}{o:Obj}(h:w.heap[b]?=some o):b<w.heap.size:=(Array.getElem?_eq_some_iff.1 h).1
theorem BlkOk.lt {F:FK}{γ:Nat->G}{w:World}{t:Nat}{x:Blk}(h:BlkOk F γ w t x){b:Nat}(hb:(γ t).blk=some b):b<w.heap.size:=by
 cases x with
 | var E cs =>
  obtain⟨b',cur,h1,h2,_⟩:=h
  rw[h1] at hb
  injection hb with hb
  subst hb
  exact lt_of_cells h2
 | row E e m xs =>
  obtain⟨_,_,h | ⟨b',cur,fr,flat,h1,h2,_⟩⟩:=h
  ·rw[h.1] at hb
   cases hb
  ·rw[h1] at hb
   injection hb with hb
   subst hb
   exact lt_of_cells h2
 | heap E e H=>rw[h.1] at hb;cases hb
 | smap l =>
  obtain⟨b',es,clk,h1,h2,_⟩:=h
  rw[h1] at hb
  injection hb with hb
  subst hb
  exact lt_of_cells h2
theorem BlkOk.kid {F:FK}{γ:Nat->G}{w:World}{t:Nat}{x:Blk}(h:BlkOk F γ w t x){j b:Nat}(hk:x.kids F j b):b<w.heap.size∧¬ F b:=by
 cases x with
 | heap E e H =>
  obtain⟨⟨xs,c,hx⟩,s,hs,hso⟩:=hk
  obtain⟨g,hg,hr,_⟩:=h.2.2 j _ hx
  rw[hs] at hg
  injection hg with hg
  have g1:g.blk=some b:=by rw[← G.sl_own,← hg];exact hso
  obtain⟨_,_,h | ⟨b',cur,fr,flat,h1,h2,_,_,_,_,_,h8⟩⟩:=hr
  ·rw[h.1] at g1;cases g1
  ·rw[h1] at g1
   injection g1 with g1
   subst g1
   exact⟨lt_of_cells h2,h8.1⟩
 | var E cs=>exact hk.elim
 | row E e m xs=>exact hk.elim
 | smap l=>exact hk.elim
theorem Inv.kid_lt {F:FK}{γ:Nat->G}{S:Store}{w:World}(h:Inv F γ S w){j b:Nat}(hk:KidO F S j b):b<w.heap.size∧¬ F b:=by
 obtain⟨t,x,hx,hk⟩:=hk
 exact (h.blk t x hx).kid hk
theorem Inv.mine_lt {F:FK}{γ:Nat->G}{S:Store}{w:World}(h:Inv F γ S w){b:Nat}(hb:Mine F γ S b):b<w.heap.size:=by
 rcases hb with ⟨t,⟨x,hx⟩,hb⟩ | ⟨j,hb⟩
 ·exact (h.blk t x hx).lt hb
 ·exact (h.kid_lt hb).1
theorem Mine.tok {F:FK}{γ:Nat->G}{S:Store}{b t:Nat}(h:Has S t)(hb:(γ t).blk=some b):Mine F γ S b:=.inl ⟨t,h,hb⟩
theorem rawNo_look:∀ {S:Store},rawNo S=true->∀ {t:Nat} {x:Blk},look S t=some x->x.isHeap=false
 | [],_,t,x,h=>by cases h
 | (u,y)::S,hn,t,x,h=>by
  simp only[rawNo,Bool.and_eq_true,Bool.not_eq_true'] at hn
  simp only[look] at h
  cases hh:Nat.beq u t with
  | true =>
   rw[hh] at h
   simp only[cond_true,Option.some.injEq] at h
   subst h
   exact hn.1
  | false =>
   rw[hh] at h
   exact rawNo_look hn.2 h
theorem heapTokL_some {S:Store}:∀ {l:Store} {t:Nat},heapTokL S l=some t->∃ x,look S t=some x∧x.isHeap=true
 | [],t,h=>by cases h
 | (u,y)::l,t,h=>by
  simp only[heapTokL] at h
  split at h
  ·rename_i b hb
   cases hh:b.isHeap with
   | true =>
    rw[hh] at h
    simp only[cond_true,Option.some.injEq] at h
    subst h
    exact⟨b,hb,hh⟩
   | false =>
    rw[hh] at h
    exact heapTokL_some h
  ·exact heapTokL_some h
theorem heapTokL_none {S:Store}:∀ {l:Store},heapTokL S l=none->∀ {t:Nat} {y x:Blk},(t,y)∈l->look S t=some x->x.isHeap=false
 | [],h,t,y,x,hm,_=>by simp at hm
 | (u,z)::l,h,t,y,x,hm,hx=>by
  simp only[heapTokL] at h
  rcases List.mem_cons.1 hm with e | hm
  ·injection e with e1 e2
   subst e1
   rw[hx] at h
   simp only at h
   cases hh:x.isHeap with
   | true=>rw[hh] at h;cases h
   | false=>rfl
  ·split at h
   ·rename_i b hb
    cases hh:b.isHeap with
    | true=>rw[hh] at h;cases h
    | false=>rw[hh] at h;exact heapTokL_none h hm hx
   ·exact heapTokL_none h hm hx
theorem look_mem:∀ {S:Store} {t:Nat} {x:Blk},look S t=some x->(t,x)∈S
 | [],t,x,h=>by cases h
 | (u,y)::S,t,x,h=>by
  simp only[look] at h
  cases hh:Nat.beq u t with
  | true =>
   rw[hh] at h
   simp only[cond_true,Option.some.injEq] at h
   have:u=t:=by simpa using hh
   subst this
   subst h
   simp
  | false =>
   rw[hh] at h
   exact List.mem_cons_of_mem _ (look_mem h)
theorem heapTok_some {S:Store}{t:Nat}(h:heapTok S=some t):∃ x,look S t=some x∧x.isHeap=true:=by
 unfold heapTok at h
 cases hr:rawNo S with
 | true=>rw[hr] at h;cases h
 | false=>rw[hr] at h;exact heapTokL_some h
theorem noHeap_look {S:Store}(hn:noHeap S=true){t:Nat}{x:Blk}(hx:look S t=some x):x.isHeap=false:=by
 unfold noHeap at hn
 cases ht:heapTok S with
 | some _=>rw[ht] at hn;cases hn
 | none =>
  unfold heapTok at ht
  cases hr:rawNo S with
  | true=>exact rawNo_look hr hx
  | false=>rw[hr] at ht;exact heapTokL_none ht (look_mem hx) hx
theorem noHeap_of {S:Store}(h:∀ t x,look S t=some x->x.isHeap=false):noHeap S=true:=by
 unfold noHeap
 cases ht:heapTok S with
 | none=>rfl
 | some t =>
  obtain⟨x,h1,h2⟩:=heapTok_some ht
  rw[h t x h1] at h2
  cases h2
theorem noHeap_not {S:Store}(h:noHeap S=false):∃ t x,look S t=some x∧x.isHeap=true:=by
 unfold noHeap at h
 cases ht:heapTok S with
 | none=>rw[ht] at h;cases h
 | some t=>obtain⟨x,h1,h2⟩:=heapTok_some ht;exact⟨t,x,h1,h2⟩
theorem kids_isHeap {F:FK}{x:Blk}{j b:Nat}(h:x.kids F j b):x.isHeap=true:=by
 cases x<;>first | rfl | exact h.elim
theorem noHeap_kid {F:FK}{S:Store}(hn:noHeap S=true){j b:Nat}:¬ KidO F S j b:=by
 rintro⟨t,x,hx,hk⟩
 have:=noHeap_look hn hx
 rw[kids_isHeap hk] at this
 cases this
theorem kids_congr {F F':FK}(h:F'.kid=F.kid){x:Blk}{j b:Nat}:x.kids F' j b↔x.kids F j b:=by
 cases x<;>simp[Blk.kids,h]
theorem HpInv.mono {F F':FK}{γ γ':Nat->G}{S S':Store}{n:Nat}(h:HpInv F γ S)(hn:∀ j b,KidO F S j b->b<n)(hk:F'.kid=F.kid)(hh:∀ t x,look S' t=some x->x.isHeap=true->∃ u,look S u=some x∧∀ t' x',look S' t'=some x'->x'.isHeap=true->look S u=some x'->t=t')
  (ht:∀ t b,Has S' t->(γ' t).blk=some b->(∃ u,Has S u∧(γ u).blk=some b)∨n<=b):HpInv F' γ' S':=by
 have hko:∀ j b,KidO F' S' j b->KidO F S j b:=by
  rintro j b ⟨t,x,hx,hkx⟩
  obtain⟨u,hu,_⟩:=hh t x hx (kids_isHeap hkx)
  exact⟨u,x,hu,(kids_congr hk).1 hkx⟩
 refine⟨fun t t' x x' hx hx' h1 h2=>?_,fun j j' b h1 h2=>h.kid j j' b (hko j b h1) (hko j' b h2),fun j b t h1 h2 h3=>?_⟩
 ·obtain⟨u,hu,hun⟩:=hh t x hx h1
  obtain⟨u',hu',_⟩:=hh t' x' hx' h2
  have:=h.uniq u u' x x' hu hu' h1 h2
  subst this
  rw[hu] at hu'
  injection hu' with hu'
  subst hu'
  exact hun t' x hx' h2 hu
 ·rcases ht t b h2 h3 with ⟨u,hu,hb⟩ | hb
  ·exact h.sep j b u (hko j b h1) hu hb
  ·have:=hn j b (hko j b h1)
   omega
theorem beq_iff (i j:Nat):Nat.beq i j=true↔i=j:=by simp
theorem beq_no {i j:Nat}(h:i≠j):Nat.beq i j=false:=by
 cases e:Nat.beq i j with
 | false=>rfl
 | true=>exact absurd ((beq_iff i j).1 e) h
theorem beq_yes (i:Nat):Nat.beq i i=true:=(beq_iff i i).2 rfl
theorem look_append {α:Type}(l m:List (Nat×α))(j:Nat):look (l++m) j=(match look l j with | some x=>some x | none=>look m j):=by
 induction l with
 | nil=>rfl
 | cons p l ih =>
  simp only[List.cons_append,look]
  cases Nat.beq p.1 j<;>simp[ih]
theorem look_upd {α:Type}(l:List (Nat×α))(i j:Nat)(x:α):look (upd l i x) j=if i=j then some x else look l j:=by
 induction l with
 | nil =>
  simp only[upd,look]
  by_cases h:i=j
  ·subst h;rw[beq_yes,if_pos rfl];rfl
  ·rw[beq_no h,if_neg h];rfl
 | cons p l ih =>
  simp only[upd]
  by_cases hp:p.1=i
  ·subst hp
   rw[beq_yes]
   simp only[cond_true,look]
   by_cases h:p.1=j
   ·subst h;rw[beq_yes,if_pos rfl];rfl
   ·rw[beq_no h,if_neg h];rfl
  ·rw[beq_no hp]
   simp only[cond_false,look,ih]
   by_cases h:i=j
   ·subst h
    simp[beq_no hp]
   ·simp only[if_neg h]
theorem memb_iff (l:List Nat)(j:Nat):memb l j=true↔j∈l:=by
 induction l with
 | nil=>simp[memb]
 | cons i l ih =>
  simp only[memb,List.mem_cons]
  by_cases h:i=j
  ·subst h;rw[beq_yes];simp
  ·rw[beq_no h]
   simp only[cond_false,ih]
   constructor
   ·exact .inr
   ·rintro (rfl | h')
    ·exact absurd rfl h
    ·exact h'
theorem look_keep {α:Type}(f:Nat->Bool)(l:List (Nat×α))(j:Nat):look (keep f l) j=if f j=true then look l j else none:=by
 induction l with
 | nil=>simp[keep,look]
 | cons p l ih =>
  simp only[keep]
  by_cases hf:f p.1=true
  ·rw[hf]
   simp only[cond_true,look]
   by_cases h:p.1=j
   ·subst h;rw[beq_yes,if_pos hf];rfl
   ·rw[beq_no h];exact ih
  ·have hf':f p.1=false:=by simpa using hf
   rw[hf']
   simp only[cond_false,ih,look]
   by_cases h:p.1=j
   ·subst h;simp[hf']
   ·rw[beq_no h];rfl
theorem BlkOk.lasts {F F':FK}{γ γ':Nat->G}{w w':World}{t:Nat}{x:Blk}(h:BlkOk F γ w t x)(hl:Lasts F F' w w')(ht:γ' t=γ t)(hγ:∀ u∈x.toks,γ' u=γ u)
  (hb:∀ b,(γ t).blk=some b->w'.heap[b]?=w.heap[b]?∧(F' b->F b)) (hk:x.isHeap=true->F'.kid=F.kid∧∀ j b,x.kids F j b->w'.heap[b]?=w.heap[b]?∧(F' b->F b)):BlkOk F' γ' w' t x:=by
 cases x with
 | var E cs =>
  obtain⟨b,cur,h1,h2,h3,h4⟩:=h
  refine⟨b,cur,by rw[ht];exact h1,(hb b h1).1.trans h2,fun h=>h3 ((hb b h1).2 h),RepCs.lasts hl hγ h4⟩
 | row E e m xs =>
  obtain⟨g1,g2,h⟩:=h
  refine⟨by rw[ht];exact g1,by rw[ht];exact g2,?_⟩
  rw[ht]
  rcases h with h | ⟨b,cur,fr,flat,h1,h2,h3,h4,h5,h6,h7,h8⟩
  ·exact .inl h
  ·refine .inr ⟨b,cur,fr,flat,h1,(hb b h1).1.trans h2,h3,h4,h5,h6,h7.lasts hl,?_⟩
   cases m with
   | plain=>exact⟨fun h=>h8.1 ((hb b h1).2 h),h8.2⟩
   | mark=>exact⟨fun h=>h8.1 ((hb b h1).2 h),h8.2⟩
   | frz=>exact hl.sub _ h8
 | heap E e H =>
  obtain⟨g1,g2,g3⟩:=h
  obtain⟨hk1,hk2⟩:=hk rfl
  refine⟨by rw[ht];exact g1,fun j s hs=>g2 j s (by rw[← hk1];exact hs),fun j k hj=>?_⟩
  have h3:=g3 j k hj
  cases k with
  | dead=>trivial
  | ro xs =>
   obtain⟨s,h4,h5⟩:=h3
   exact⟨s,hl.sub.kid _ _ h4,h5.lasts hl fun x l=>RepD.lasts hl⟩
  | own xs c =>
   obtain⟨g,h4,h5,h6⟩:=h3
   refine⟨g,hl.sub.kid _ _ h4,?_,h6⟩
   obtain⟨a1,a2,h⟩:=h5
   refine⟨a1,a2,?_⟩
   rcases h with h | ⟨b,cur,fr,flat,h1,h2,h3,h4',h5,h6,h7,h8⟩
   ·exact .inl h
   ·have hb':=hk2 j b ⟨⟨xs,c,hj⟩,g.sl,h4,by rw[G.sl_own,h1]⟩
    exact .inr ⟨b,cur,fr,flat,h1,hb'.1.trans h2,h3,h4',h5,h6,h7.lasts hl,fun h=>h8.1 (hb'.2 h),h8.2⟩
 | smap l =>
  obtain⟨b,es,clk,h1,h2,h3,h4⟩:=h
  exact⟨b,es,clk,by rw[ht];exact h1,(hb b h1).1.trans h2,fun h=>h3 ((hb b h1).2 h),h4⟩
theorem HpInv.sub {F:FK}{γ:Nat->G}{S S':Store}(h:HpInv F γ S)(hs:∀ t x,look S' t=some x->look S t=some x):HpInv F γ S':=by
 have hko:∀ j b,KidO F S' j b->KidO F S j b:=fun j b ⟨t,x,hx,hk⟩=>⟨t,x,hs t x hx,hk⟩
 exact⟨fun t t' x x' h1 h2=>h.uniq t t' x x' (hs t x h1) (hs t' x' h2),fun j j' b h1 h2=>h.kid j j' b (hko j b h1) (hko j' b h2),fun j b t h1 ⟨x,h2⟩=>h.sep j b t (hko j b h1) ⟨x,hs t x h2⟩⟩
theorem KidO.sub {F:FK}{S S':Store}(hs:∀ t x,look S' t=some x->look S t=some x){j b:Nat}(h:KidO F S' j b):KidO F S j b:=by
 obtain⟨t,x,hx,hk⟩:=h
 exact⟨t,x,hs t x hx,hk⟩
theorem look_keep_sub {f:Nat->Bool}{S:Store}{t:Nat}{x:Blk}(h:look (keep f S) t=some x):look S t=some x:=by
 rw[look_keep] at h
 split at h
 ·exact h
 ·cases h
theorem Mine.part {F:FK}{γ:Nat->G}{S:Store}{f:Nat->Bool}{b:Nat}(h:Mine F γ (keep f S) b):Mine F γ S b:=by
 rcases h with ⟨t,⟨x,hx⟩,hb⟩ | ⟨j,hk⟩
 ·exact .inl ⟨t,⟨x,look_keep_sub hx⟩,hb⟩
 ·exact .inr ⟨j,hk.sub fun t x=>look_keep_sub⟩
def FK.add (F:FK)(p:Nat->Prop):FK:=⟨fun b=>F b∨p b,F.kid⟩
theorem FK.Le.add (F:FK)(p:Nat->Prop):FK.Le F (F.add p):=⟨fun _ h=>.inl h,fun _ _ h=>h⟩
def FK.put (F:FK)(n:Nat)(s:SlV):FK:=⟨F.on,fun j=>if j=n then some s else F.kid j⟩
theorem KidO.upd {F F':FK}(hk:F'.kid=F.kid){S:Store}{tok:Nat}{y:Blk}(hy:y.isHeap=false){j b:Nat}(h:KidO F' (Ab.upd S tok y) j b):KidO F S j b:=by
 obtain⟨t,x,hx,hj⟩:=h
 rw[look_upd] at hx
 split at hx
 ·injection hx with hx
  subst hx
  rw[kids_isHeap hj] at hy
  cases hy
 ·exact⟨t,x,hx,(kids_congr hk).1 hj⟩
theorem HpInv.upd {F F':FK}{γ:Nat->G}{S:Store}(h:HpInv F γ S)(hk:F'.kid=F.kid){tok:Nat}{y:Blk}(hy:y.isHeap=false)(hS:Has S tok):HpInv F' γ (Ab.upd S tok y):=by
 have hHas:∀ t,Has (Ab.upd S tok y) t->Has S t:=by
  rintro t ⟨z,hz⟩
  rw[look_upd] at hz
  split at hz
  ·rename_i e;subst e;exact hS
  ·exact⟨z,hz⟩
 have hh:∀ t x,look (Ab.upd S tok y) t=some x->x.isHeap=true->look S t=some x:=by
  intro t x hx h1
  rw[look_upd] at hx
  split at hx
  ·injection hx with hx
   subst hx
   rw[h1] at hy
   cases hy
  ·exact hx
 exact⟨fun t t' x x' h1 h2 h3 h4=>h.uniq t t' x x' (hh t x h1 h3) (hh t' x' h2 h4) h3 h4,fun j j' b h1 h2=>h.kid j j' b (h1.upd hk hy) (h2.upd hk hy),fun j b t h1 h2=>h.sep j b t (h1.upd hk hy) (hHas t h2)⟩
theorem HpInv.re {F F':FK}{γ γ':Nat->G}{S:Store}(h:HpInv F γ S)(hk:F'.kid=F.kid)(hg:∀ t,Has S t->γ' t=γ t):HpInv F' γ' S:=by
 have hko:∀ j b,KidO F' S j b->KidO F S j b:=fun j b ⟨t,x,hx,hj⟩=>⟨t,x,hx,(kids_congr hk).1 hj⟩
 exact⟨h.uniq,fun j j' b h1 h2=>h.kid j j' b (hko j b h1) (hko j' b h2),fun j b t h1 h2=>by rw[hg t h2];exact h.sep j b t (hko j b h1) h2⟩
theorem Has.keep {f:Nat->Bool}{S:Store}{t:Nat}:Has (keep f S) t↔f t=true∧Has S t:=by
 simp only[Has,look_keep]
 by_cases h:f t=true<;>simp[h]
theorem Has.append {S T:Store}{t:Nat}:Has (S++T) t↔Has S t∨Has T t:=by
 simp only[Has,look_append]
 cases look S t<;>simp
theorem Inv.part {F:FK}{γ:Nat->G}{S:Store}{w:World}(h:Inv F γ S w)(f:Nat->Bool):Inv F γ (keep f S) w where
 blk t b hb:=by
  rw[look_keep] at hb
  split at hb
  ·exact h.blk t b hb
  ·cases hb
 inj t t' b ht ht':=h.inj t t' b (Has.keep.1 ht).2 (Has.keep.1 ht').2
 fz:=h.fz
 hp:=h.hp.sub fun t x hx=>by
  rw[look_keep] at hx
  split at hx
  ·exact hx
  ·cases hx
theorem keysOk_has {ts:List Nat}{nx:Nat}:∀ {S:Store},keysOk ts nx S=true->∀ {t:Nat},Has S t->t∈ts∨nx<=t
 | [],_,t,h=>by obtain⟨b,hb⟩:=h;cases hb
 | (u,b)::S,hk,t,h=>by
  simp only[keysOk,Bool.and_eq_true,Bool.or_eq_true,memb_iff,Nat.ble_eq] at hk
  by_cases e:u=t
  ·subst e;exact hk.1
  ·refine keysOk_has hk.2 ?_
   obtain⟨x,hx⟩:=h
   simp only[look,beq_no e,cond_false] at hx
   exact⟨x,hx⟩
theorem allLt_mem {n:Nat}:∀ {l:List Nat},allLt n l=true->∀ t∈l,t<n
 | [],_,t,h=>by simp at h
 | u::l,hl,t,h=>by
  simp only[allLt,Bool.and_eq_true] at hl
  rcases List.mem_cons.1 h with rfl | h
  ·have:=hl.1
   simpa [Nat.blt_eq] using this
  ·exact allLt_mem hl.2 t h
theorem stoLt_look {n:Nat}:∀ {S:Store},stoLt n S=true->∀ {t:Nat} {b:Blk},look S t=some b->t<n∧∀ u∈b.toks,u<n
 | [],_,t,b,h=>by cases h
 | (u,x)::S,hS,t,b,h=>by
  simp only[stoLt,Bool.and_eq_true,Nat.blt_eq] at hS
  by_cases e:u=t
  ·subst e
   simp only[look,beq_yes,cond_true] at h
   injection h with h
   subst h
   exact⟨by simpa [Nat.blt_eq] using hS.1,allLt_mem hS.2.1⟩
  ·simp only[look,beq_no e,cond_false] at h
   exact stoLt_look hS.2.2 h
theorem Inv.split {F:FK}{γ:Nat->G}{S:Store}{w:World}{ts:List Nat}{fr:Nat}{γ':Nat->G}{F':FK}{w':World}{S':Store}(h:Inv F γ S w)
  (hlt:∀ t b,look S t=some b->t<fr∧∀ u∈b.toks,u<fr) (p:Post fr γ F w (keep (memb ts) S) γ' F' w' S') (hk:∀ t,Has S' t->t∈ts∨fr<=t) (ho:noHeap (keep (fun t=>!memb ts t) S)=true∨noHeap S'=true) :
  Inv F' γ' (keep (fun t=>!memb ts t) S++S') w':=by
 have restHas:∀ t x,look (keep (fun t=>!memb ts t) S) t=some x->t ∉ ts∧look S t=some x:=by
  intro t x ht
  rw[look_keep] at ht
  split at ht
  ·rename_i h2
   refine⟨fun hm=>?_,ht⟩
   rw[(memb_iff ts t).2 hm] at h2
   cases h2
  ·cases ht
 have partHas:∀ t x,look (keep (memb ts) S) t=some x->t∈ts∧look S t=some x:=by
  intro t x ht
  rw[look_keep] at ht
  split at ht
  ·rename_i h2
   exact⟨(memb_iff ts t).1 h2,ht⟩
  ·cases ht
 have notMine:∀ t b,Has S t->t ∉ ts->(γ t).blk=some b->¬ Mine F γ (keep (memb ts) S) b:=by
  rintro t b ht hts hb (⟨u,⟨y,hu⟩,hub⟩ | ⟨j,u,y,hu,hj⟩)
  ·obtain⟨h1,h2⟩:=partHas u y hu
   exact hts (by rw[h.inj t u b ht ⟨y,h2⟩ hb hub];exact h1)
  ·exact h.hp.sep j b t ⟨u,y,(partHas u y hu).2,hj⟩ ht hb
 have kidNot:∀ t x j b,look (keep (fun t=>!memb ts t) S) t=some x->x.kids F j b->¬ Mine F γ (keep (memb ts) S) b:=by
  rintro t x j b hx hj (⟨u,⟨y,hu⟩,hub⟩ | ⟨j',u,y,hu,hj'⟩)
  ·exact h.hp.sep j b u ⟨t,x,(restHas t x hx).2,hj⟩ ⟨y,(partHas u y hu).2⟩ hub
  ·have:=h.hp.uniq t u x y (restHas t x hx).2 (partHas u y hu).2 (kids_isHeap hj) (kids_isHeap hj')
   subst this
   exact (restHas t x hx).1 (partHas t y hu).1
 have hfix:∀ t,Has S t->γ' t=γ t:=fun t ⟨b,hb⟩=>p.gam t (hlt t b hb).1
 have kid0:∀ t x,look (keep (fun t=>!memb ts t) S) t=some x->x.isHeap=true->F'.kid=F.kid:=by
  intro t x hx hh
  rcases ho with ho | ho
  ·rw[noHeap_look ho hx] at hh;cases hh
  ·exact p.kid0 ho
 have kept:∀ b,b<w.heap.size->¬ Mine F γ (keep (memb ts) S) b->w'.heap[b]?=w.heap[b]?∧(F' b->F b):=fun b hbl hnm =>
  ⟨p.heap b hbl hnm,fun hF=>(p.fnew b hF).resolve_right (fun hh=>hh.elim hnm (fun hh=>by omega))⟩
 have whole:∀ t x,look (keep (fun t=>!memb ts t) S++S') t=some x->look (keep (fun t=>!memb ts t) S) t=some x∨look S' t=some x:=by
  intro t x hx
  rw[look_append] at hx
  cases hl:look (keep (fun t=>!memb ts t) S) t with
  | some y=>rw[hl] at hx;exact .inl hx
  | none=>rw[hl] at hx;exact .inr hx
 have kids:∀ j b,KidO F' (keep (fun t=>!memb ts t) S++S') j b->(∃ t x,look (keep (fun t=>!memb ts t) S) t=some x∧x.kids F j b∧noHeap S'=true)∨(KidO F' S' j b∧noHeap (keep (fun t=>!memb ts t) S)=true):=by
  rintro j b ⟨t,x,hx,hj⟩
  rcases whole t x hx with h1 | h1
  ·have hh:=kids_isHeap hj
   refine .inl ⟨t,x,h1,(kids_congr (kid0 t x h1 hh)).1 hj,?_⟩
   rcases ho with ho | ho
   ·rw[noHeap_look ho h1] at hh;cases hh
   ·exact ho
  ·have hh:=kids_isHeap hj
   refine .inr ⟨⟨t,x,h1,hj⟩,?_⟩
   rcases ho with ho | ho
   ·exact ho
   ·rw[noHeap_look ho h1] at hh;cases hh
 refine⟨fun t b hb=>?_,fun t t' b ht ht' hb hb'=>?_,p.inv.fz,⟨fun t t' x x' hx hx' h1 h2=>?_,fun j j' b h1 h2=>?_,fun j b t h1 ht hb=>?_⟩⟩
 ·rcases whole t b hb with hl | hl
  ·obtain⟨hts,hS⟩:=restHas t b hl
   refine (h.blk t b hS).lasts p.lasts (hfix t ⟨b,hS⟩) (fun u hu=>p.gam u ((hlt t b hS).2 u hu)) (fun c hc=>?_) fun hh=>⟨kid0 t b hl hh,fun j c hc=>?_⟩
   ·exact kept c ((h.blk t b hS).lt hc) (notMine t c ⟨b,hS⟩ hts hc)
   ·exact kept c ((h.blk t b hS).kid hc).1 (kidNot t b j c hl hc)
  ·exact p.inv.blk t b hl
 ·rcases Has.append.1 ht with h1 | h1<;>rcases Has.append.1 ht' with h2 | h2
  ·obtain⟨x,hx⟩:=h1
   obtain⟨x',hx'⟩:=h2
   have e1:=restHas t x hx
   have e2:=restHas t' x' hx'
   rw[hfix t ⟨x,e1.2⟩] at hb
   rw[hfix t' ⟨x',e2.2⟩] at hb'
   exact h.inj t t' b ⟨x,e1.2⟩ ⟨x',e2.2⟩ hb hb'
  ·obtain⟨x,hx⟩:=h1
   have e1:=restHas t x hx
   rw[hfix t ⟨x,e1.2⟩] at hb
   have hbl:=(h.blk t x e1.2).lt hb
   exact absurd ((p.mine b (.inl ⟨t',h2,hb'⟩)).resolve_right (by omega)) (notMine t b ⟨x,e1.2⟩ e1.1 hb)
  ·obtain⟨x,hx⟩:=h2
   have e1:=restHas t' x hx
   rw[hfix t' ⟨x,e1.2⟩] at hb'
   have hbl:=(h.blk t' x e1.2).lt hb'
   exact absurd ((p.mine b (.inl ⟨t,h1,hb⟩)).resolve_right (by omega)) (notMine t' b ⟨x,e1.2⟩ e1.1 hb')
  ·exact p.inv.inj t t' b h1 h2 hb hb'
 ·rcases whole t x hx with a1 | a1<;>rcases whole t' x' hx' with a2 | a2
  ·exact h.hp.uniq t t' x x' (restHas t x a1).2 (restHas t' x' a2).2 h1 h2
  ·rcases ho with ho | ho
   ·rw[noHeap_look ho a1] at h1;cases h1
   ·rw[noHeap_look ho a2] at h2;cases h2
  ·rcases ho with ho | ho
   ·rw[noHeap_look ho a2] at h2;cases h2
   ·rw[noHeap_look ho a1] at h1;cases h1
  ·exact p.inv.hp.uniq t t' x x' a1 a2 h1 h2
 ·rcases kids j b h1 with ⟨t,x,a1,a2,a3⟩ | ⟨a1,a3⟩<;>rcases kids j' b h2 with ⟨t',x',b1,b2,b3⟩ | ⟨b1,b3⟩
  ·exact h.hp.kid j j' b ⟨t,x,(restHas t x a1).2,a2⟩ ⟨t',x',(restHas t' x' b1).2,b2⟩
  ·exact absurd b1 (noHeap_kid a3)
  ·exact absurd a1 (noHeap_kid b3)
  ·exact p.inv.hp.kid j j' b a1 b1
 ·rcases kids j b h1 with ⟨u,x,a1,a2,a3⟩ | ⟨a1,a3⟩<;>rcases Has.append.1 ht with b1 | b1
  ·obtain⟨y,hy⟩:=b1
   have e1:=restHas t y hy
   rw[hfix t ⟨y,e1.2⟩] at hb
   exact h.hp.sep j b t ⟨u,x,(restHas u x a1).2,a2⟩ ⟨y,e1.2⟩ hb
  ·have hbl:=((h.blk u x (restHas u x a1).2).kid a2).1
   exact absurd ((p.mine b (.inl ⟨t,b1,hb⟩)).resolve_right (by omega)) (kidNot u x j b a1 a2)
  ·obtain⟨y,hy⟩:=b1
   have e1:=restHas t y hy
   rw[hfix t ⟨y,e1.2⟩] at hb
   have hbl:=(h.blk t y e1.2).lt hb
   exact absurd ((p.mine b (.inr ⟨j,a1⟩)).resolve_right (by omega)) (notMine t b ⟨y,e1.2⟩ e1.1 hb)
  ·exact p.inv.hp.sep j b t a1 b1 hb
theorem noHeap_left {S T:Store}(h:noHeap (S++T)=true):noHeap S=true:=noHeap_of fun t x hx=>noHeap_look h (t:=t) (by rw[look_append,hx])
theorem noHeap_parts {S:Store}{f:Nat->Bool}(h1:noHeap (keep f S)=true)(h2:noHeap (keep (fun t=>!f t) S)=true):noHeap S=true:=noHeap_of fun t x hx=>by
 cases hf:f t with
 | true=>exact noHeap_look h1 (t:=t) (by rw[look_keep,hf];exact hx)
 | false=>exact noHeap_look h2 (t:=t) (by rw[look_keep,hf];exact hx)
end Go.Ab
set_option linter.unusedSimpArgs false
namespace Go.Ab
def aggOf:TypeDesc->Bool
 | .struct _ | .array _ _=>true
 | _=>false
def zeroIs:C->Value->Bool
 | .int k n,.int k' m=>decide (k=k')&&decide (n=m)
 | .bool b,.bool c=>b==c
 | .str s,.string u=>Nat.beq s.size 0&&Nat.beq u.size 0
 | .emp,.slice none 0 0=>true
 | .nil .ptr,.pointer none=>true
 | .nil .fn,.nilFunc=>true
 | .nil .iface,.nilIface=>true
 | .nil .map,.map none=>true
 | _,_=>false
def zerosAre:List C->List Value->Bool
 | [],[]=>true
 | c::cs,v::vs=>zeroIs c v&&zerosAre cs vs
 | _,_=>false
theorem zeroIs_rep {γ:Nat->G}{F:FK}{w:World}{c:C}{v:Value}(h:zeroIs c v=true):RepC γ F w c v:=by
 unfold zeroIs at h
 split at h<;>simp_all [RepC,NilK.val]
theorem zerosAre_rep {γ:Nat->G}{F:FK}{w:World}:∀ {cs:List C} {vs:List Value},zerosAre cs vs=true->All2 (RepC γ F w) cs vs
 | [],[],_=>trivial
 | c::cs,v::vs,h=>by
  simp only[zerosAre,Bool.and_eq_true] at h
  exact⟨zeroIs_rep h.1,zerosAre_rep h.2⟩
 | [],_::_,h=>by simp[zerosAre] at h
 | _::_,[],h=>by simp[zerosAre] at h
def dfltIs:Ty->List Value->Option (List Value)
 | .int k,.int k' n::l=>if k=k'∧n=0 then some l else none
 | .bool,.bool false::l=>some l
 | .str,.string s::l=>if s.size=0 then some l else none
 | .pair a b,l=>match dfltIs a l with
  | some l'=>dfltIs b l'
  | none=>none
 | .slice _,.slice none 0 0::l=>some l
 | .ref _,.slice none 0 0::l=>some l
 | _,_=>none
theorem dfltIs_rep {F:FK}{w:World}:∀ {t:Ty} {l l':List Value},dfltIs t l=some l'->∃ m,l=m++l'∧RepD F w t t.dflt m
  | .int k,l,l',h=>by
    unfold dfltIs at h
    split at h<;>try (cases h;done)
    all_goals first
      | (rename_i k1 k' n r hk;split at h
         · rename_i hc;obtain⟨rfl,rfl⟩:=hc;injection hk with hk;subst hk;injection h with h;subst h;exact⟨[_],rfl,rfl⟩
         · cases h)
      | (rename_i hk;cases hk)
      | (rename_i hk _;cases hk)
  | .bool,l,l',h=>by
    unfold dfltIs at h
    split at h<;>simp_all
    exact⟨[_],rfl,rfl⟩
  | .str,l,l',h=>by
    unfold dfltIs at h
    split at h<;>simp_all
    rename_i s r
    obtain⟨rfl,rfl⟩:=h
    exact⟨[_],rfl,rfl⟩
  | .slice e,l,l',h=>by
    unfold dfltIs at h
    split at h<;>simp_all
    refine⟨[_],rfl,_,rfl,none,0,0,rfl,rfl,Nat.le_refl _,fun h=>by omega⟩
  | .ref e,l,l',h=>by
    unfold dfltIs at h
    split at h<;>simp_all
    exact⟨[_],rfl,_,rfl,rfl⟩
  | .pair a b,l,l',h=>by
    simp only[dfltIs] at h
    split at h
    · rename_i x hx
      obtain⟨m1,rfl,h1⟩:=dfltIs_rep hx
      obtain⟨m2,rfl,h2⟩:=dfltIs_rep h
      exact⟨m1++m2,by simp,m1,m2,rfl,h1,h2⟩
    · cases h
def fieldsAre (P:Program):List Field->List (Nat×Nat×Nat)->Bool
 | [],[]=>true
 | f::fs,(t,o,s)::l=>(Nat.beq f.type t&&(Nat.beq f.offset o&&(match P.info? t with | some i=>Nat.beq i.size s | none=>false)))&&fieldsAre P fs l
 | _,_=>false
def descIs (P:Program)(d:TypeDesc)(r:TR):Bool :=
 match d,r.d with
 | .int k,.int k'=>decide (k=k')
 | .bool,.bool=>true
 | .string,.str=>true
 | .pointer e,.ptr e'=>Nat.beq e e'
 | .slice e,.slice e' ty=>Nat.beq e e'&&(match P.info? e with | some i=>Nat.beq i.size ty.size&&(match i.zero with | some z=>(match dfltIs ty z.cells.toList with | some []=>true | _=>false) | none=>true) | none=>false)
 | .array n e,.array n' e'=>Nat.beq n n'&&Nat.beq e e'
 | .struct fs,.struct l=>fieldsAre P fs.toList l
 | .map k e,.mapSB=>(match P.underlying k with | some .string=>true | _=>false)&&(match P.info? e with | some i=>(match i.zero with | some (.bool false)=>true | _=>false) | none=>false)
 | _,.other=>true
 | _,_=>false
def noBlank (P:Program):TypeDesc->Bool
 | .struct fs => fs.toList.all fun f => f.name != "_"
 | _=>false
def eqIs (P:Program)(t:Nat)(d:TypeDesc):Bool:=noBlank P d&&(!P.eqGuardType P.depth t&&!P.stoodInHeld t)
def trIs (P:Program)(t:Nat)(r:TR):Bool :=
 match P.underlying t,P.info? t with
 | some d,some i=>(!r.eq||eqIs P t d)&&(descIs P d r&&(Nat.beq i.size r.size&&(Nat.beq i.bytes r.bytes&&((aggOf d==r.agg)&&(match r.zero with
  | none=>true
  | some z=>(match i.zero with | some v=>zerosAre z v.cells.toList&&Nat.beq v.cells.size r.size&&(match v with | .agg _=>aggOf d | .tuple _=>false | _=>!aggOf d) | none=>false))))))
 | _,_=>false
def tabIs (P:Program):Tab->Bool
 | []=>true
 | (t,r)::l=>trIs P t r&&tabIs P l
theorem tabIs_look {P:Program}:∀ {Γ:Tab},tabIs P Γ=true->∀ {t:Nat} {r:TR},look Γ t=some r->trIs P t r=true
 | [],_,t,r,h=>by cases h
 | (u,x)::Γ,hΓ,t,r,h=>by
  simp only[tabIs,Bool.and_eq_true] at hΓ
  by_cases e:u=t
  ·subst e
   simp only[look,beq_yes,cond_true] at h
   injection h with h
   subst h
   exact hΓ.1
  ·simp only[look,beq_no e,cond_false] at h
   exact tabIs_look hΓ.2 h
structure TrOk (P:Program)(t:Nat)(r:TR)(d:TypeDesc)(i:TypeInfo):Prop where
 und:P.underlying t=some d
 inf:P.info? t=some i
 size:i.size=r.size
 bytes:i.bytes=r.bytes
 agg:aggOf d=r.agg
 desc:descIs P d r=true
 eq:r.eq=true->eqIs P t d=true
 zero:∀ z,r.zero=some z->∃ v,i.zero=some v∧zerosAre z v.cells.toList=true∧v.cells.size=r.size∧(match v with | .agg _=>aggOf d=true | .tuple _=>False | _=>aggOf d=false)
theorem trIs_ok {P:Program}{t:Nat}{r:TR}(h:trIs P t r=true):∃ d i,TrOk P t r d i:=by
 unfold trIs at h
 split at h
 ·rename_i d i hd hi
  simp only[Bool.and_eq_true,Nat.beq_eq,beq_iff_eq] at h
  obtain⟨h0,h1,h2,h3,h4,h5⟩:=h
  refine⟨d,i,hd,hi,h2,h3,h4,h1,fun he=>by simpa [he] using h0,fun z hz=>?_⟩
  rw[hz] at h5
  simp only at h5
  split at h5
  ·rename_i v hv
   simp only[Bool.and_eq_true,Nat.beq_eq] at h5
   refine⟨v,hv,h5.1.1,h5.1.2,?_⟩
   have:=h5.2
   cases v<;>simp_all
  ·cases h5
 ·cases h
theorem trOf_ok {P:Program}{Γ:Tab}(hΓ:tabIs P Γ=true){t:Nat}{r:TR}(h:trOf Γ t=some r):∃ d i,TrOk P t r d i:=trIs_ok (tabIs_look hΓ h)
def ResSem (Φ:AV->Store->Prop):Res->Prop
 | .ok v S=>Φ v S
 | .chk c v S=>c=true->Φ v S
 | .call _ m h=>∀ x,m=some x->Φ (h x).1 (h x).2
 | .alt _ _ m h1 h2=>(∀ x,m=some (.inl x)->Φ (h1 x).1 (h1 x).2)∧∀ x,m=some (.inr x)->Φ (h2 x).1 (h2 x).2
 | .rd S _ m h=>∀ x,m=some x->Φ (h x).1 (S++(h x).2)
 | .fail=>True
theorem ResSem.imp {Φ Ψ:AV->Store->Prop}{r:Res}(h:ResSem Φ r)(f:∀ v S,Φ v S->Ψ v S):ResSem Ψ r:=by
 cases r with
 | ok v S=>exact f _ _ h
 | chk c v S=>exact fun hc=>f _ _ (h hc)
 | call R m g=>exact fun x hx=>f _ _ (h x hx)
 | rd S R m g=>exact fun x hx=>f _ _ (h x hx)
 | alt R1 R2 m g1 g2=>exact⟨fun x hx=>f _ _ (h.1 x hx),fun x hx=>f _ _ (h.2 x hx)⟩
 | fail=>trivial
def StoLt (fr:Nat)(S:Store):Prop:=∀ t b,look S t=some b->t<fr∧∀ u∈b.toks,u<fr
def ArgLt (fr:Nat)(l:List AV):Prop:=∀ x∈l,∀ t∈x.toks,t<fr
def OpSem (P:Program)(o:Oper)(args:List AV)(fr:Nat)(S:Store)(v:AV)(S':Store):Prop :=
 ∀ (γ:Nat->G) (F:FK) (w:World) (a:Act),Inv F γ S w->StoLt fr S->ArgLt fr args->All2 (fun x av=>RepA γ F w av (a.eval x)) o.op.operands.toList args ->
 ∀ (next:Act->World->Prop) (Q:Exit->Act->World->Prop),(∀ u γ' F' w',Post fr γ F w S γ' F' w' S'->RepA γ' F' w' v u->next (a.put o.dst u) w')->o.wp P a w next Q
theorem wp_of_value {P:Program}{o:Oper}{a:Act}{w w':World}{u:Value}{next:Act->World->Prop}{Q:Exit->Act->World->Prop}(h:(execOp a.eval o).run P w=.ok (.value u) w')
  (hn:next (a.put o.dst u) w'):o.wp P a w next Q:=by unfold Oper.wp;rw[h];exact hn
theorem wp_of_skip {P:Program}{o:Oper}{a:Act}{w w':World}{next:Act->World->Prop}{Q:Exit->Act->World->Prop}(h:(execOp a.eval o).run P w=.ok .skip w')
  (hn:next (a.put o.dst Go.undef) w'):o.wp P a w next Q:=by unfold Oper.wp;rw[h];exact hn
theorem OpSem.pure {P:Program}{o:Oper}{args:List AV}{fr:Nat}{S:Store}{v:AV}
  (h:∀ (γ:Nat->G) (F:FK) (w:World) (a:Act),Inv F γ S w->All2 (fun x av=>RepA γ F w av (a.eval x)) o.op.operands.toList args ->
   ∃ u,(execOp a.eval o).run P w=.ok (.value u) w∧RepA γ F w v u):OpSem P o args fr S v S:=by
 intro γ F w a hI _ _ hA next Q hn
 obtain⟨u,h1,h2⟩:=h γ F w a hI hA
 exact wp_of_value h1 (hn u γ F w (Post.same hI) h2)
theorem all2_one {α β:Type}{R:α->β->Prop}{x:α}{l:List β}(h:All2 R [x] l):∃ y,l=[y]∧R x y:=by
 match l,h with
 | [y],h=>exact⟨y,rfl,h.1⟩
theorem all2_two {α β:Type}{R:α->β->Prop}{x x':α}{l:List β}(h:All2 R [x,x'] l):∃ y y',l=[y,y']∧R x y∧R x' y':=by
 match l,h with
 | [y,y'],h=>exact⟨y,y',rfl,h.1,h.2.1⟩
section
variable {P:Program} {dst:Option Tmp} {ty:TypeId} {pos:String} {aft:Array Edge} {gd:Option (Nat×Bool)} {fr:Nat} {S:Store}
theorem sem_move (x:Operand)(av:AV):OpSem P ⟨dst,.move x,ty,pos,aft,gd⟩ [av] fr S av S :=
 OpSem.pure fun γ F w a _ hA=>⟨a.eval x,rfl,hA.1⟩
theorem sem_assign (x:Operand)(av:AV):OpSem P ⟨dst,.assign x,ty,pos,aft,gd⟩ [av] fr S av S :=
 OpSem.pure fun γ F w a _ hA=>⟨a.eval x,rfl,hA.1⟩
theorem sem_pick (c x y:Operand)(ac ax ay:AV):ResSem (OpSem P ⟨dst,.pick c x y,ty,pos,aft,gd⟩ [ac,ax,ay] fr S) (pickA ac ax ay S):=by
 unfold pickA
 split
 ·rename_i b a' b'
  refine OpSem.pure fun γ F w a _ hA=>⟨a.eval (if b then x else y),?_,?_⟩
  ·have h1:a.eval c=.bool b:=hA.1
   simp only[execOp,h1,asBool]
   cases b<;>rfl
  ·cases b
   ·exact hA.2.2.1
   ·exact hA.2.1
 ·rename_i b k a' k' b'
  split
  ·rename_i hk
   subst hk
   refine OpSem.pure fun γ F w a _ hA=>⟨a.eval (if b then x else y),?_,?_⟩
   ·have h1:a.eval c=.bool b:=hA.1
    simp only[execOp,h1,asBool]
    cases b<;>rfl
   ·cases b
    ·exact hA.2.2.1
    ·exact hA.2.1
  ·trivial
 ·refine OpSem.pure fun γ F w a _ hA=>⟨a.eval x,?_,hA.2.1⟩
  have h1:a.eval c=.bool true:=hA.1
  simp only[execOp,h1,asBool]
  rfl
 ·refine OpSem.pure fun γ F w a _ hA=>⟨a.eval y,?_,hA.2.2.1⟩
  have h1:a.eval c=.bool false:=hA.1
  simp only[execOp,h1,asBool]
  rfl
 ·trivial
theorem sem_extract (x:Operand)(i:Nat)(l:List V1)(y:V1)(hy:l[i]?=some y):OpSem P ⟨dst,.extract x i,ty,pos,aft,gd⟩ [.tup l] fr S (.v y) S:=by
 refine OpSem.pure fun γ F w a _ hA=>?_
 obtain⟨vs,h1,h2⟩:=hA.1
 obtain⟨u,hu,hr⟩:=h2.get i y hy
 refine⟨u,?_,hr⟩
 simp[execOp,Instr.extract,h1,hu]
theorem sem_un (u:UnOp)(t:TypeId)(x:Operand)(ax:AV):ResSem (OpSem P ⟨dst,.unOp u t x,ty,pos,aft,gd⟩ [ax] fr S) (unA u ax S):=by
 unfold unA
 split
 ·rename_i k n
  refine OpSem.pure fun γ F w a _ hA=>⟨.int k (k.wrap (0 - n)),?_,rfl⟩
  have h1:a.eval x=.int k n:=hA.1
  simp[execOp,h1,Op.unary,Op.intArith]
 ·rename_i b
  refine OpSem.pure fun γ F w a _ hA=>⟨.bool (!b),?_,rfl⟩
  have h1:a.eval x=.bool b:=hA.1
  simp[execOp,h1,Op.unary]
 ·trivial
theorem eqGuard_int (op:BinOp)(t:TypeId)(x y:Operand)(k k':IntKind)(m n:Int)(w:World):(eqGuard op t x y (.int k m) (.int k' n)).run P w=.ok () w:=by
 unfold eqGuard
 by_cases h:(!(match op with | .eql | .neq=>true | _=>false))=true
 ·simp[h]
 ·simp[h]
theorem eqGuard_str (op:BinOp)(t:TypeId)(x y:Operand)(m n:ByteArray)(w:World):(eqGuard op t x y (.string m) (.string n)).run P w=.ok () w:=by
 unfold eqGuard
 by_cases h:(!(match op with | .eql | .neq=>true | _=>false))=true
 ·simp[h]
 ·simp[h]
theorem eqGuard_bool (op:BinOp)(t:TypeId)(x y:Operand)(m n:Bool)(w:World):(eqGuard op t x y (.bool m) (.bool n)).run P w=.ok () w:=by
 unfold eqGuard
 by_cases h:(!(match op with | .eql | .neq=>true | _=>false))=true
 ·simp[h]
 ·simp[h]
end
end Go.Ab
namespace Go.Ab
section
variable {P:Program} {dst:Option Tmp} {ty:TypeId} {pos:String} {aft:Array Edge} {gd:Option (Nat×Bool)} {fr:Nat} {S:Store}
theorem run_bin {op:BinOp}{t yt:TypeId}{x y:Operand}{a:Act}{w:World}{u:Value}(hg:(eqGuard op t x y (a.eval x) (a.eval y)).run P w=.ok () w)(hb:(Go.binOp op t (a.eval x) (a.eval y)).run P w=.ok u w) :
  (execOp a.eval ⟨dst,.binOp op t x y yt,ty,pos,aft,gd⟩).run P w=.ok (.value u) w:=by
 simp[execOp,hg,hb]
theorem sem_bin_of {op:BinOp}{t yt:TypeId}{x y:Operand}{ax ay:AV}{v:AV}{u:Value}(vx vy:Value)
  (hx:∀ γ F w z,RepA γ F w ax z->z=vx) (hy:∀ γ F w z,RepA γ F w ay z->z=vy)
  (hg:∀ w,(eqGuard op t x y vx vy).run P w=.ok () w) (hb:∀ w,(Go.binOp op t vx vy).run P w=.ok u w) (hv:∀ γ F w,RepA γ F w v u) :
  OpSem P ⟨dst,.binOp op t x y yt,ty,pos,aft,gd⟩ [ax,ay] fr S v S:=by
 refine OpSem.pure fun γ F w a _ hA=>⟨u,?_,hv γ F w⟩
 have h1:=hx _ _ _ _ hA.1
 have h2:=hy _ _ _ _ hA.2.1
 exact run_bin (by rw[h1,h2];exact hg w) (by rw[h1,h2];exact hb w)
theorem sem_int {op:BinOp}{t yt:TypeId}{x y:Operand}{k:IntKind}{m n:Int}(hop:(match op with | .shl | .shr=>true | _=>false)=false) :
  ResSem (OpSem P ⟨dst,.binOp op t x y yt,ty,pos,aft,gd⟩ [one (.int k m),one (.int k n)] fr S) (intBin op k m n S):=by
 have go:∀ (v:AV) (u:Value),(∀ w,(Go.binOp op t (.int k m) (.int k n)).run P w=.ok u w)->(∀ γ F w,RepA γ F w v u)->OpSem P ⟨dst,.binOp op t x y yt,ty,pos,aft,gd⟩ [one (.int k m),one (.int k n)] fr S v S :=
  fun v u hb hv=>sem_bin_of (.int k m) (.int k n) (fun _ _ _ _ h=>h) (fun _ _ _ _ h=>h) (eqGuard_int op t x y k k m n) hb hv
 cases op<;>simp only[intBin]<;>try trivial
 case quo=>exact fun hc=>go _ (.int k (k.wrap (m.tdiv n))) (fun w=>by simp at hc;simp[Go.binOp,Op.intDiv,hc]) fun _ _ _=>rfl
 case rem=>exact fun hc=>go _ (.int k (m.tmod n)) (fun w=>by simp at hc;simp[Go.binOp,Op.intDiv,hc]) fun _ _ _=>rfl
 case add=>exact go _ (.int k (k.wrap (m+n))) (fun w=>by simp[Go.binOp,Op.intArith]) fun _ _ _=>rfl
 case sub=>exact go _ (.int k (k.wrap (m - n))) (fun w=>by simp[Go.binOp,Op.intArith]) fun _ _ _=>rfl
 case mul=>exact go _ (.int k (k.wrap (m*n))) (fun w=>by simp[Go.binOp,Op.intArith]) fun _ _ _=>rfl
 case and=>exact go _ (.int k (bits .and k m n)) (fun w=>by simp[Go.binOp,Op.intBits,bits]) fun _ _ _=>rfl
 case or=>exact go _ (.int k (bits .or k m n)) (fun w=>by simp[Go.binOp,Op.intBits,bits]) fun _ _ _=>rfl
 case xor=>exact go _ (.int k (bits .xor k m n)) (fun w=>by simp[Go.binOp,Op.intBits,bits]) fun _ _ _=>rfl
 case andNot=>exact go _ (.int k (bits .andNot k m n)) (fun w=>by simp[Go.binOp,Op.intBits,bits]) fun _ _ _=>rfl
 case eql=>exact go _ (.bool (m==n)) (fun w=>by simp[Go.binOp,Op.intCmp]) fun _ _ _=>rfl
 case neq=>exact go _ (.bool (m !=n)) (fun w=>by simp[Go.binOp,Op.intCmp]) fun _ _ _=>rfl
 case lss=>exact go _ (.bool (decide (m<n))) (fun w=>by simp[Go.binOp,Op.intCmp]) fun _ _ _=>rfl
 case leq=>exact go _ (.bool (decide (m<=n))) (fun w=>by simp[Go.binOp,Op.intCmp]) fun _ _ _=>rfl
 case gtr=>exact go _ (.bool (decide (m > n))) (fun w=>by simp[Go.binOp,Op.intCmp]) fun _ _ _=>rfl
 case geq=>exact go _ (.bool (decide (m≥n))) (fun w=>by simp[Go.binOp,Op.intCmp]) fun _ _ _=>rfl
theorem sem_str {op:BinOp}{t yt:TypeId}{x y:Operand}{m n:ByteArray} :
  ResSem (OpSem P ⟨dst,.binOp op t x y yt,ty,pos,aft,gd⟩ [one (.str m),one (.str n)] fr S) (strBin op m n S):=by
 have go:∀ (v:AV) (u:Value),(∀ w,(Go.binOp op t (.string m) (.string n)).run P w=.ok u w)->(∀ γ F w,RepA γ F w v u)->OpSem P ⟨dst,.binOp op t x y yt,ty,pos,aft,gd⟩ [one (.str m),one (.str n)] fr S v S :=
  fun v u hb hv=>sem_bin_of (.string m) (.string n) (fun _ _ _ _ h=>h) (fun _ _ _ _ h=>h) (eqGuard_str op t x y m n) hb hv
 cases op<;>simp only[strBin]<;>try trivial
 case add=>exact fun hc=>go _ (.string (m++n)) (fun w=>by
  have h:¬ (9223372036854775807:Int)<(m.size:Int)+(n.size:Int):=by have:=of_decide_eq_true hc;omega
  simp[Go.binOp,Op.stringOp,IntKind.max,IntKind.signed,IntKind.bits,h]) fun _ _ _=>rfl
 case eql=>exact go _ (.bool (strEq m n)) (fun w=>by simp[Go.binOp,Op.stringOp,strEq]) fun _ _ _=>rfl
 case neq=>exact go _ (.bool (!strEq m n)) (fun w=>by simp[Go.binOp,Op.stringOp,strEq]) fun _ _ _=>rfl
 case lss=>exact go _ (.bool (strLt m n)) (fun w=>by simp[Go.binOp,Op.stringOp,strLt]) fun _ _ _=>rfl
 case leq=>exact go _ (.bool (strLt m n||strEq m n)) (fun w=>by simp[Go.binOp,Op.stringOp,strLt,strEq]) fun _ _ _=>rfl
 case gtr=>exact go _ (.bool (!(strLt m n||strEq m n))) (fun w=>by simp[Go.binOp,Op.stringOp,strLt,strEq]) fun _ _ _=>rfl
 case geq=>exact go _ (.bool (!strLt m n)) (fun w=>by simp[Go.binOp,Op.stringOp,strLt,strEq]) fun _ _ _=>rfl
variable {Γ:Tab}
theorem TrOk.isAgg {t:Nat}{r:TR}{d:TypeDesc}{i:TypeInfo}(h:TrOk P t r d i)(w:World):(isAgg t).run P w=.ok r.agg w:=by
 have ha:=h.agg
 unfold Go.isAgg
 simp only[Sem.run_bind,run_underlying h.und,Result.andThen_ok]
 cases d<;>simp_all [aggOf]
theorem TrOk.sizeOf {t:Nat}{r:TR}{d:TypeDesc}{i:TypeInfo}(h:TrOk P t r d i)(w:World):(Go.sizeOf t).run P w=.ok r.size w:=by
 simp[Go.sizeOf,typeInfo,h.inf,h.size]
theorem partA_run {γ:Nat->G}{F:FK}{w0:World}{t:Nat}{r:TR}{d:TypeDesc}{i:TypeInfo}(h:TrOk P t r d i){off:Nat}{cs:List C}{vs:List Value}{v:AV}(hv:partA r.agg r.size off cs=some v)
  (hc:All2 (RepC γ F w0) cs vs) (w:World):∃ u,(part t vs.toArray off).run P w=.ok u w∧RepA γ F w0 v u:=by
 unfold partA at hv
 unfold part
 simp only[Sem.run_bind,h.isAgg,h.sizeOf,Result.andThen_ok,Sem.run_ite]
 cases ha:r.agg with
 | true =>
  rw[ha] at hv
  simp only[cond_true] at hv
  cases hb:Nat.ble (off+r.size) cs.length with
  | false=>simp[hb] at hv
  | true =>
   simp only[hb,cond_true,Option.some.injEq] at hv
   subst hv
   refine⟨.agg (vs.toArray.extract off (off+r.size)),by simp,_,?_,(hc.drop off).take r.size⟩
   congr 1
   apply Array.ext'
   simp[List.extract_eq_take_drop]
 | false =>
  rw[ha] at hv
  simp only[cond_false] at hv
  split at hv
  ·rename_i c hco
   injection hv with hv
   subst hv
   obtain⟨u,hu,hr⟩:=hc.get off c hco
   exact⟨u,by simp[hu],hr⟩
  ·cases hv
theorem eqFs_run {f:Nat->List C->List C->Option Bool}{d:Nat}{γ:Nat->G}{F:FK}{w0:World}{xs ys:List C}{vs us:List Value}(hx:All2 (RepC γ F w0) xs vs)(hy:All2 (RepC γ F w0) ys us)
  (hf:∀ t o s r,f t ((xs.drop o).take s) ((ys.drop o).take s)=some r->(∃ i,P.info? t=some i∧i.size=s)->∀ w:World,∃ a b,(part t vs.toArray o).run P w=.ok a w∧(part t us.toArray o).run P w=.ok b w∧(Op.equalIn d t a b).run P w=.ok r w) :
  ∀ {fs : List Field} {l : List (Nat × Nat × Nat)} {r : Bool}, fieldsAre P fs l = true → (fs.all fun f => f.name != "_") = true → eqFs f l xs ys = some r → ∀ w : World, (Op.eqFields d vs.toArray us.toArray fs).run P w = .ok r w
 | [],[],r,_,_,h,w=>by
  simp only[eqFs,Option.some.injEq] at h
  subst h
  simp[Op.eqFields]
 | g::fs,(t,o,s)::l,r,hfs,hn,h,w=>by
  simp only[fieldsAre,Bool.and_eq_true,Nat.beq_eq] at hfs
  obtain⟨⟨rfl,rfl,hs⟩,hfs⟩:=hfs
  simp only[List.all_cons,Bool.and_eq_true,bne_iff_ne] at hn
  simp only[eqFs] at h
  split at h
  ·rename_i a b ha hb
   injection h with h
   subst h
   have hi:∃ i,P.info? g.type=some i∧i.size=s:=by
    split at hs
    ·rename_i i hi;exact⟨i,hi,by simpa using hs⟩
    ·cases hs
   obtain⟨u,v,h1,h2,h3⟩:=hf _ _ _ _ ha hi w
   have ih:=eqFs_run hx hy hf hfs hn.2 hb
   simp only[Op.eqFields,hn.1,ne_eq,not_false_eq_true,if_true,Sem.run_bind,h1,h2,h3,Result.andThen_ok]
   cases a
   ·simp
   ·simp[ih w]
  ·cases h
 | [],_::_,_,h,_,_,_=>by simp[fieldsAre] at h
 | _::_,[],_,h,_,_,_=>by simp[fieldsAre] at h
theorem info_TrOk {t:Nat}{r:TR}{d:TypeDesc}{i j:TypeInfo}(h:TrOk P t r d i)(hj:P.info? t=some j):j=i:=by
 have:=h.inf
 rw[hj] at this
 injection this
theorem eqTy_run (hΓ:tabIs P Γ=true){γ:Nat->G}{F:FK}{w0:World}:∀ (n:Nat) {t:Nat} {xs ys:List C} {vs us:List Value} {r:Bool},All2 (RepC γ F w0) xs vs->All2 (RepC γ F w0) ys us->eqTy Γ n t xs ys=some r ->
  ∀ (d:Nat),n<=d->∀ (tr:TR),trOf Γ t=some tr->∀ w:World,∃ a b,(if tr.agg then a=.agg vs.toArray∧b=.agg us.toArray else vs=[a]∧us=[b])∧(Op.equalIn d t a b).run P w=.ok r w
 | 0,_,_,_,_,_,_,_,_,h=>by simp[eqTy] at h
 | n+1,t,xs,ys,vs,us,r,hx,hy,h=>by
  intro d hd tr htr w
  obtain⟨d,rfl⟩:∃ m,d=m+1:=⟨d - 1,by omega⟩
  simp only[eqTy,htr] at h
  obtain⟨td,ti,ok⟩:=trOf_ok hΓ htr
  have hagg:=ok.agg
  have hdesc:=ok.desc
  split at h
  ·rename_i q k a k' b hq
   split at h
   ·rename_i hk
    subst hk
    injection h with h
    subst h
    obtain⟨v,rfl,hv⟩:=all2_one hx
    obtain⟨u,rfl,hu⟩:=all2_one hy
    simp only[RepC] at hv hu
    subst hv hu
    unfold descIs at hdesc
    rw[hq] at hdesc
    split at hdesc<;>try (simp_all;done)
    simp only[aggOf] at hagg
    exact⟨_,_,by rw[← hagg];exact⟨rfl,rfl⟩,run_equalIn_int w d t _ _ a b ok.und⟩
   ·cases h
  ·rename_i a b hq
   injection h with h
   subst h
   obtain⟨v,rfl,hv⟩:=all2_one hx
   obtain⟨u,rfl,hu⟩:=all2_one hy
   simp only[RepC] at hv hu
   subst hv hu
   unfold descIs at hdesc
   rw[hq] at hdesc
   split at hdesc<;>try (simp_all;done)
   simp only[aggOf] at hagg
   exact⟨_,_,by rw[← hagg];exact⟨rfl,rfl⟩,run_equalIn_bool' w d t a b ok.und⟩
  ·rename_i a b hq
   injection h with h
   subst h
   obtain⟨v,rfl,hv⟩:=all2_one hx
   obtain⟨u,rfl,hu⟩:=all2_one hy
   simp only[RepC] at hv hu
   subst hv hu
   unfold descIs at hdesc
   rw[hq] at hdesc
   split at hdesc<;>try (simp_all;done)
   simp only[aggOf] at hagg
   exact⟨_,_,by rw[← hagg];exact⟨rfl,rfl⟩,run_equalIn_string w d t a b ok.und⟩
  ·rename_i fs hq
   cases he:tr.eq with
   | false=>simp[he] at h
   | true =>
    simp only[he,cond_true] at h
    have heq:=ok.eq he
    simp only[eqIs,Bool.and_eq_true,Bool.not_eq_true'] at heq
    unfold descIs at hdesc
    rw[hq] at hdesc
    split at hdesc<;>try (simp_all;done)
    rename_i sf l hl
    have hl':fs=l:=by simpa using hl
    subst hl'
    simp only[aggOf] at hagg
    refine⟨_,_,by rw[← hagg];exact⟨rfl,rfl⟩,?_⟩
    have hfo:P.fieldsOf t=sf:=by simp[Program.fieldsOf,ok.und]
    rw[run_equalIn_struct w d t _ _ (by rw[hfo];exact ok.und) heq.2.2,hfo]
    refine eqFs_run hx hy (f:=eqTy Γ n) ?_ hdesc heq.1 h w
    intro t' o s r' hr' hi w'
    obtain⟨i',hi',hs'⟩:=hi
    cases htr':trOf Γ t' with
    | none =>
     cases n with
     | zero=>simp[eqTy] at hr'
     | succ n=>simp[eqTy,htr'] at hr'
    | some tr' =>
     obtain⟨td',ti',ok'⟩:=trOf_ok hΓ htr'
     have hsz:tr'.size=s:=by rw[← ok'.size,← info_TrOk ok' hi',hs']
     obtain⟨a,b,hab,hrun⟩:=eqTy_run hΓ n ((hx.drop o).take s) ((hy.drop o).take s) hr' d (by omega) tr' htr' w'
     refine⟨a,b,?_,?_,hrun⟩
     ·unfold part
      simp only[Sem.run_bind,ok'.isAgg,ok'.sizeOf,Result.andThen_ok,Sem.run_ite]
      cases ha:tr'.agg with
      | true =>
       simp only[ha,if_true] at hab ⊢
       rw[hab.1,hsz]
       simp only[Sem.run_pure]
       congr 2
       apply Array.ext'
       simp[List.extract_eq_take_drop]
      | false =>
       simp only[ha,Bool.false_eq_true,if_false] at hab ⊢
       have:=congrArg (·[0]?) hab.1
       simp only[List.getElem?_take,List.getElem?_drop,List.getElem?_cons_zero,Nat.add_zero] at this
       split at this
       ·simp[this]
       ·cases this
     ·unfold part
      simp only[Sem.run_bind,ok'.isAgg,ok'.sizeOf,Result.andThen_ok,Sem.run_ite]
      cases ha:tr'.agg with
      | true =>
       simp only[ha,if_true] at hab ⊢
       rw[hab.2,hsz]
       simp only[Sem.run_pure]
       congr 2
       apply Array.ext'
       simp[List.extract_eq_take_drop]
      | false =>
       simp only[ha,Bool.false_eq_true,if_false] at hab ⊢
       have:=congrArg (·[0]?) hab.2
       simp only[List.getElem?_take,List.getElem?_drop,List.getElem?_cons_zero,Nat.add_zero] at this
       split at this
       ·simp[this]
       ·cases this
  ·cases h
end
end Go.Ab
namespace Go.Ab
section
variable {P:Program} {dst:Option Tmp} {ty:TypeId} {pos:String} {aft:Array Edge} {gd:Option (Nat×Bool)} {fr:Nat} {S:Store} {Γ:Tab}
theorem descIs_bool {d:TypeDesc}{r:TR}(h:descIs P d r=true)(hr:r.d=.bool):d=.bool:=by
 unfold descIs at h;rw[hr] at h;cases d<;>simp_all
theorem descIs_str {d:TypeDesc}{r:TR}(h:descIs P d r=true)(hr:r.d=.str):d=.string:=by
 unfold descIs at h;rw[hr] at h;cases d<;>simp_all
theorem descIs_int {d:TypeDesc}{r:TR}{k:IntKind}(h:descIs P d r=true)(hr:r.d=.int k):d=.int k:=by
 unfold descIs at h;rw[hr] at h;cases d<;>simp_all
theorem descIs_array {d:TypeDesc}{r:TR}{n e:Nat}(h:descIs P d r=true)(hr:r.d=.array n e):d=.array n e:=by
 unfold descIs at h;rw[hr] at h;cases d<;>simp_all
theorem descIs_struct {d:TypeDesc}{r:TR}{l:List (Nat×Nat×Nat)}(h:descIs P d r=true)(hr:r.d=.struct l):∃ fs,d=.struct fs∧fieldsAre P fs.toList l=true:=by
 unfold descIs at h;rw[hr] at h;cases d<;>simp_all
theorem descIs_slice {d:TypeDesc}{r:TR}{e:Nat}{t:Ty}(h:descIs P d r=true)(hr:r.d=.slice e t) :
  d=.slice e∧∃ i,P.info? e=some i∧i.size=t.size∧∀ z,i.zero=some z->dfltIs t z.cells.toList=some []:=by
 unfold descIs at h;rw[hr] at h
 cases d<;>simp only[Bool.and_eq_true,Nat.beq_eq] at h<;>try (cases h;done)
 rename_i e'
 obtain⟨rfl,h⟩:=h
 refine⟨rfl,?_⟩
 split at h
 ·rename_i i hi
  simp only[Bool.and_eq_true,Nat.beq_eq] at h
  refine⟨i,hi,h.1,fun z hz=>?_⟩
  have h2:=h.2
  rw[hz] at h2
  simp only at h2
  split at h2
  ·assumption
  ·cases h2
 ·cases h
theorem fieldsAre_get {fs:List Field}{l:List (Nat×Nat×Nat)}(h:fieldsAre P fs l=true):∀ (f:Nat) (t o s:Nat),l[f]?=some (t,o,s)->∃ g,fs[f]?=some g∧g.type=t∧g.offset=o∧∃ i,P.info? t=some i∧i.size=s:=by
 induction l generalizing fs with
 | nil=>intro f t o s hf;simp at hf
 | cons p l ih =>
  obtain⟨t',o',s'⟩:=p
  cases fs with
  | nil=>simp[fieldsAre] at h
  | cons g fs =>
   simp only[fieldsAre,Bool.and_eq_true,Nat.beq_eq] at h
   intro f t o s hf
   cases f with
   | zero =>
    simp only[List.getElem?_cons_zero,Option.some.injEq,Prod.mk.injEq] at hf
    obtain⟨rfl,rfl,rfl⟩:=hf
    refine⟨g,rfl,h.1.1,h.1.2.1,?_⟩
    have h3:=h.1.2.2
    split at h3
    ·rename_i i hi;exact⟨i,hi,by simpa using h3⟩
    ·cases h3
   | succ f=>simpa using ih h.2 f t o s (by simpa using hf)
theorem ptr_nil (hΓ:tabIs P Γ=true){t e:Nat}{o:List (Nat×Nat×Ty)}{sz by_:Nat}{ag:Bool}{z:Option (List C)}{eq:Bool}(hr:trOf Γ t=some { own:=o,d:=.ptr e,size:=sz,bytes:=by_,agg:=ag,zero:=z,eq:=eq })(t':Nat)(x y:Operand)(w:World)(p:Option Addr) :
  (∀ op',(eqGuard op' t' x y (.pointer p) (.pointer none)).run P w=.ok () w)∧(Go.binOp .eql t (.pointer p) (.pointer none)).run P w=.ok (.bool p.isNone) w∧(Go.binOp .neq t (.pointer p) (.pointer none)).run P w=.ok (.bool (!p.isNone)) w:=by
 obtain⟨d,inf,ok⟩:=trOf_ok hΓ hr
 have hd:=ok.desc
 unfold descIs at hd
 have hu:∃ e',P.underlying t=some (.pointer e'):=by
  rw[ok.und]
  cases d<;>simp at hd
  exact⟨_,rfl⟩
 obtain⟨e',hu⟩:=hu
 have e0:∀ d,(Op.equalIn (d+1) t (.pointer p) (.pointer none)).run P w=.ok p.isNone w:=by
  intro d
  cases p<;>simp[Op.equalIn,run_underlying hu]
 have e1:(Op.equal t (.pointer p) (.pointer none)).run P w=.ok p.isNone w:=e0 9999
 refine⟨fun op'=>by cases op'<;>simp[eqGuard],?_,?_⟩
 ·simp only[Go.binOp]
  simp[e1]
 ·simp only[Go.binOp]
  simp[e1]
theorem slice_nil (hΓ:tabIs P Γ=true){t E:Nat}{te:Ty}{o:List (Nat×Nat×Ty)}{sz by_:Nat}{ag:Bool}{z:Option (List C)}{eq:Bool}(hr:trOf Γ t=some { own:=o,d:=.slice E te,size:=sz,bytes:=by_,agg:=ag,zero:=z,eq:=eq })(t':Nat)(x y:Operand)(w:World)(A:Option Addr)(n c:Nat) :
  (∀ op',(eqGuard op' t' x y (.slice A n c) (.slice none 0 0)).run P w=.ok () w)∧(Go.binOp .eql t (.slice A n c) (.slice none 0 0)).run P w=.ok (.bool A.isNone) w∧(Go.binOp .neq t (.slice A n c) (.slice none 0 0)).run P w=.ok (.bool (!A.isNone)) w:=by
 obtain⟨d,inf,ok⟩:=trOf_ok hΓ hr
 obtain⟨hd,ei,hei,hsz,_⟩:=descIs_slice ok.desc rfl
 have hu:P.underlying t=some (.slice E):=by rw[ok.und,hd]
 have e0:∀ d,(Op.equalIn (d+1) t (.slice A n c) (.slice none 0 0)).run P w=.ok A.isNone w:=by
  intro d
  cases A<;>simp[Op.equalIn,run_underlying hu]
 have e1:(Op.equal t (.slice A n c) (.slice none 0 0)).run P w=.ok A.isNone w:=e0 9999
 refine⟨fun op'=>by cases op'<;>simp[eqGuard],?_,?_⟩
 ·simp only[Go.binOp]
  simp[e1]
 ·simp only[Go.binOp]
  simp[e1]
theorem sem_bin (hΓ:tabIs P Γ=true)(op:BinOp)(t yt:TypeId)(x y:Operand)(ax ay:AV):ResSem (OpSem P ⟨dst,.binOp op t x y yt,ty,pos,aft,gd⟩ [ax,ay] fr S) (binA Γ op t ax ay S):=by
 unfold binA
 split
 ·rename_i k a k' b
  split
  ·intro hc
   have h0:¬ b<0:=by have:=of_decide_eq_true hc;omega
   refine sem_bin_of (.int k a) (.int k' b) (fun _ _ _ _ h=>h) (fun _ _ _ _ h=>h) (eqGuard_int _ t x y k k' a b) (u:=.int k (shlI k a b)) (fun w=>?_) fun _ _ _=>rfl
   simp[Go.binOp,Op.shift,h0,shlI]
  ·intro hc
   have h0:¬ b<0:=by have:=of_decide_eq_true hc;omega
   refine sem_bin_of (.int k a) (.int k' b) (fun _ _ _ _ h=>h) (fun _ _ _ _ h=>h) (eqGuard_int _ t x y k k' a b) (u:=.int k (shrI k a b)) (fun w=>?_) fun _ _ _=>rfl
   simp[Go.binOp,Op.shift,h0,shrI]
  ·rename_i h1 h2
   split
   ·rename_i hk
    subst hk
    exact sem_int (by cases op<;>simp_all)
   ·trivial
 ·exact sem_str
 ·rename_i a b
  split
  ·rename_i sz by_ ag z eq hr
   obtain⟨d,i,ok⟩:=trOf_ok hΓ hr
   have hb:=descIs_bool ok.desc rfl
   refine sem_bin_of (.bool a) (.bool b) (fun _ _ _ _ h=>h) (fun _ _ _ _ h=>h) (eqGuard_bool _ t x y a b) (u:=.bool (a==b)) (fun w=>?_) fun _ _ _=>rfl
   simp[Go.binOp,Op.equal,Op.maxDepth,run_equalIn_bool' w 9999 t a b (by rw[ok.und,hb])]
  ·rename_i sz by_ ag z eq hr
   obtain⟨d,i,ok⟩:=trOf_ok hΓ hr
   have hb:=descIs_bool ok.desc rfl
   refine sem_bin_of (.bool a) (.bool b) (fun _ _ _ _ h=>h) (fun _ _ _ _ h=>h) (eqGuard_bool _ t x y a b) (u:=.bool (!(a==b))) (fun w=>?_) fun _ _ _=>rfl
   simp[Go.binOp,Op.equal,Op.maxDepth,run_equalIn_bool' w 9999 t a b (by rw[ok.und,hb])]
  ·trivial
 ·rename_i xs ys
  have key:∀ (o:List (Nat×Nat×Ty)) (l:List (Nat×Nat×Nat)) (sz by_:Nat) (ag:Bool) (z:Option (List C)) (b:Bool),trOf Γ t=some { own:=o,d:=.struct l,size:=sz,bytes:=by_,agg:=ag,zero:=z,eq:=true }->eqTy Γ 20 t xs ys=some b ->
    ∀ γ F w (vx vy:Value),RepA γ F w (aggr xs) vx->RepA γ F w (aggr ys) vy->(∀ op',(eqGuard op' t x y vx vy).run P w=.ok () w)∧(Go.binOp .eql t vx vy).run P w=.ok (.bool b) w∧(Go.binOp .neq t vx vy).run P w=.ok (.bool (!b)) w:=by
   intro o l sz by_ ag z b hr he γ F w vx vy hx hy
   obtain⟨vs,rfl,hxs⟩:=hx
   obtain⟨us,rfl,hys⟩:=hy
   obtain⟨d,i,ok⟩:=trOf_ok hΓ hr
   obtain⟨fs,hd,_⟩:=descIs_struct ok.desc rfl
   have hag:=ok.agg
   rw[hd] at hag
   have heq:=ok.eq rfl
   simp only[eqIs,Bool.and_eq_true,Bool.not_eq_true'] at heq
   obtain⟨a,c,hab,hrun⟩:=eqTy_run hΓ 20 hxs hys he 10000 (by omega) _ hr w
   have hag':ag=true:=by simpa [aggOf] using hag.symm
   simp only[hag',if_true] at hab
   obtain⟨rfl,rfl⟩:=hab
   exact⟨fun op'=>run_eqGuard_agg w op' t x y _ _ heq.2.1,by rw[run_eql_struct,hrun];rfl,by rw[run_neq_struct,hrun];rfl⟩
  split
  ·rename_i l sz by_ ag z b hr he
   refine OpSem.pure fun γ F w a _ hA=>?_
   obtain⟨h1,h2,h3⟩:=key _ _ _ _ _ _ _ hr he γ F w _ _ hA.1 hA.2.1
   exact⟨_,run_bin (h1 _) h2,rfl⟩
  ·rename_i l sz by_ ag z b hr he
   refine OpSem.pure fun γ F w a _ hA=>?_
   obtain⟨h1,h2,h3⟩:=key _ _ _ _ _ _ _ hr he γ F w _ _ hA.1 hA.2.1
   exact⟨_,run_bin (h1 _) h3,rfl⟩
  ·trivial
 ·rename_i tok i
  have key:∀ (e:Nat) (o:List (Nat×Nat×Ty)) (sz by_:Nat) (ag:Bool) (z:Option (List C)) (eq:Bool),trOf Γ t=some { own:=o,d:=.ptr e,size:=sz,bytes:=by_,agg:=ag,zero:=z,eq:=eq } ->
    ∀ γ F w (vx vy:Value),RepA γ F w (one (.optr tok i)) vx->RepA γ F w (one (.nil .ptr)) vy->(∀ op',(eqGuard op' t x y vx vy).run P w=.ok () w)∧(Go.binOp .eql t vx vy).run P w=.ok (.bool (decide (i<0))) w∧(Go.binOp .neq t vx vy).run P w=.ok (.bool (!decide (i<0))) w:=by
   intro e o sz by_ ag z eq hr γ F w vx vy hx hy
   obtain⟨d,inf,ok⟩:=trOf_ok hΓ hr
   have hd:=ok.desc
   unfold descIs at hd
   have hu:∃ e',P.underlying t=some (.pointer e'):=by
    rw[ok.und]
    cases d<;>simp at hd
    exact⟨_,rfl⟩
   obtain⟨e',hu⟩:=hu
   have hy':vy=.pointer none:=hy
   subst hy'
   have hp:∃ p:Option Addr,vx=.pointer p∧p.isNone=decide (i<0):=by
    rcases hx with ⟨h1,rfl⟩ | ⟨b,_,h1,_,rfl⟩
    ·exact⟨none,rfl,by simp[h1]⟩
    ·refine⟨some _,rfl,?_⟩
     have:¬ i<0:=by omega
     simp[this]
   obtain⟨p,rfl,hp⟩:=hp
   have e0:∀ d,(Op.equalIn (d+1) t (.pointer p) (.pointer none)).run P w=.ok p.isNone w:=by
    intro d
    cases p<;>simp[Op.equalIn,run_underlying hu]
   have e1:(Op.equal t (.pointer p) (.pointer none)).run P w=.ok p.isNone w:=e0 9999
   refine⟨fun op'=>by cases op'<;>simp[eqGuard],?_,?_⟩
   ·rw[← hp]
    simp only[Go.binOp]
    simp[e1]
   ·rw[← hp]
    simp only[Go.binOp]
    simp[e1]
  split
  ·rename_i e sz by_ ag z eq hr
   refine OpSem.pure fun γ F w a _ hA=>?_
   obtain⟨h1,h2,h3⟩:=key _ _ _ _ _ _ _ hr γ F w _ _ hA.1 hA.2.1
   exact⟨_,run_bin (h1 _) h2,rfl⟩
  ·rename_i e sz by_ ag z eq hr
   refine OpSem.pure fun γ F w a _ hA=>?_
   obtain⟨h1,h2,h3⟩:=key _ _ _ _ _ _ _ hr γ F w _ _ hA.1 hA.2.1
   exact⟨_,run_bin (h1 _) h3,rfl⟩
  ·trivial
 ·split
  ·rename_i e sz by_ ag z eq hr
   refine OpSem.pure fun γ F w a _ hA=>?_
   obtain⟨p,hp,hq⟩:∃ p:Option Addr,a.eval x=.pointer p∧p.isNone=true:=⟨none,hA.1,rfl⟩
   obtain⟨h1,h2,h3⟩:=ptr_nil hΓ hr t x y w p
   exact⟨_,run_bin (by rw[hp,show a.eval y=.pointer none from hA.2.1];exact h1 _) (by rw[hp,show a.eval y=.pointer none from hA.2.1];exact h2),by rw[hq];rfl⟩
  ·rename_i e sz by_ ag z eq hr
   refine OpSem.pure fun γ F w a _ hA=>?_
   obtain⟨p,hp,hq⟩:∃ p:Option Addr,a.eval x=.pointer p∧p.isNone=true:=⟨none,hA.1,rfl⟩
   obtain⟨h1,h2,h3⟩:=ptr_nil hΓ hr t x y w p
   exact⟨_,run_bin (by rw[hp,show a.eval y=.pointer none from hA.2.1];exact h1 _) (by rw[hp,show a.eval y=.pointer none from hA.2.1];exact h3),by rw[hq];rfl⟩
  ·trivial
 ·split
  ·rename_i e sz by_ ag z eq hr
   refine OpSem.pure fun γ F w a _ hA=>?_
   obtain⟨p,hp,hq⟩:∃ p:Option Addr,a.eval x=.pointer p∧p.isNone=false:=by
    obtain⟨b,_,h⟩:=hA.1
    exact⟨_,h,rfl⟩
   obtain⟨h1,h2,h3⟩:=ptr_nil hΓ hr t x y w p
   exact⟨_,run_bin (by rw[hp,show a.eval y=.pointer none from hA.2.1];exact h1 _) (by rw[hp,show a.eval y=.pointer none from hA.2.1];exact h2),by rw[hq];rfl⟩
  ·rename_i e sz by_ ag z eq hr
   refine OpSem.pure fun γ F w a _ hA=>?_
   obtain⟨p,hp,hq⟩:∃ p:Option Addr,a.eval x=.pointer p∧p.isNone=false:=by
    obtain⟨b,_,h⟩:=hA.1
    exact⟨_,h,rfl⟩
   obtain⟨h1,h2,h3⟩:=ptr_nil hΓ hr t x y w p
   exact⟨_,run_bin (by rw[hp,show a.eval y=.pointer none from hA.2.1];exact h1 _) (by rw[hp,show a.eval y=.pointer none from hA.2.1];exact h3),by rw[hq];rfl⟩
  ·trivial
 ·split
  ·rename_i e sz by_ ag z eq hr
   refine OpSem.pure fun γ F w a _ hA=>?_
   obtain⟨p,hp,hq⟩:∃ p:Option Addr,a.eval x=.pointer p∧p.isNone=false:=by
    obtain⟨b,_,_,_,h⟩:=hA.1
    exact⟨_,h,rfl⟩
   obtain⟨h1,h2,h3⟩:=ptr_nil hΓ hr t x y w p
   exact⟨_,run_bin (by rw[hp,show a.eval y=.pointer none from hA.2.1];exact h1 _) (by rw[hp,show a.eval y=.pointer none from hA.2.1];exact h2),by rw[hq];rfl⟩
  ·rename_i e sz by_ ag z eq hr
   refine OpSem.pure fun γ F w a _ hA=>?_
   obtain⟨p,hp,hq⟩:∃ p:Option Addr,a.eval x=.pointer p∧p.isNone=false:=by
    obtain⟨b,_,_,_,h⟩:=hA.1
    exact⟨_,h,rfl⟩
   obtain⟨h1,h2,h3⟩:=ptr_nil hΓ hr t x y w p
   exact⟨_,run_bin (by rw[hp,show a.eval y=.pointer none from hA.2.1];exact h1 _) (by rw[hp,show a.eval y=.pointer none from hA.2.1];exact h3),by rw[hq];rfl⟩
  ·trivial
 ·split
  ·rename_i E te sz by_ ag z eq hr
   refine OpSem.pure fun γ F w a _ hA=>?_
   obtain⟨h1,h2,h3⟩:=slice_nil hΓ hr t x y w none 0 0
   exact⟨_,run_bin (by rw[show a.eval x=.slice none 0 0 from hA.1,show a.eval y=.slice none 0 0 from hA.2.1];exact h1 _) (by rw[show a.eval x=.slice none 0 0 from hA.1,show a.eval y=.slice none 0 0 from hA.2.1];exact h2),rfl⟩
  ·rename_i E te sz by_ ag z eq hr
   refine OpSem.pure fun γ F w a _ hA=>?_
   obtain⟨h1,h2,h3⟩:=slice_nil hΓ hr t x y w none 0 0
   exact⟨_,run_bin (by rw[show a.eval x=.slice none 0 0 from hA.1,show a.eval y=.slice none 0 0 from hA.2.1];exact h1 _) (by rw[show a.eval x=.slice none 0 0 from hA.1,show a.eval y=.slice none 0 0 from hA.2.1];exact h3),rfl⟩
  ·trivial
 ·rename_i tok
  have val:∀ (E:Nat) (e:Ty) (m:RowK) (xs:List e.den),look S tok=some (.row E e m xs)->0<xs.length->∀ γ F w (v:Value),Inv F γ S w->RepA γ F w (one (.own tok)) v->∃ A n c,v=.slice (some A) n c:=by
   intro E e m xs hS hx γ F w v hI hv
   have hrow:RowOk F (γ tok) w E e m xs:=hI.blk tok _ hS
   obtain⟨g1,g2,⟨g3,g4,_⟩ | ⟨b,cur,fz,flat,g3,_⟩⟩:=hrow
   ·subst g4
    simp at hx
   ·have hv':v=(γ tok).val:=hv
    refine⟨⟨b,0,none⟩,(γ tok).len,(γ tok).cap,?_⟩
    rw[hv']
    unfold G.val
    rw[g3]
  split
  ·rename_i E te sz by_ ag z eq E' e m xs hr hS
   intro hc
   refine OpSem.pure fun γ F w a hI hA=>?_
   obtain⟨A,n,c,hv⟩:=val _ _ _ _ hS (of_decide_eq_true hc) γ F w _ hI hA.1
   obtain⟨h1,h2,h3⟩:=slice_nil hΓ hr t x y w (some A) n c
   exact⟨_,run_bin (by rw[hv,show a.eval y=.slice none 0 0 from hA.2.1];exact h1 _) (by rw[hv,show a.eval y=.slice none 0 0 from hA.2.1];exact h2),rfl⟩
  ·rename_i E te sz by_ ag z eq E' e m xs hr hS
   intro hc
   refine OpSem.pure fun γ F w a hI hA=>?_
   obtain⟨A,n,c,hv⟩:=val _ _ _ _ hS (of_decide_eq_true hc) γ F w _ hI hA.1
   obtain⟨h1,h2,h3⟩:=slice_nil hΓ hr t x y w (some A) n c
   exact⟨_,run_bin (by rw[hv,show a.eval y=.slice none 0 0 from hA.2.1];exact h1 _) (by rw[hv,show a.eval y=.slice none 0 0 from hA.2.1];exact h3),rfl⟩
  ·trivial
 ·trivial
theorem sem_field (hΓ:tabIs P Γ=true)(s:TypeId)(x:Operand)(f:Nat)(ax:AV):ResSem (OpSem P ⟨dst,.field s x f,ty,pos,aft,gd⟩ [ax] fr S) (fieldA Γ s ax f S):=by
 unfold fieldA
 split
 ·rename_i fs sz by_ ag z eq cs hr
  split
  ·rename_i ft off fsz hf
   split
   ·rename_i r hft
    split
    ·rename_i v hv
     refine OpSem.pure fun γ F w a _ hA=>?_
     obtain⟨d,i,ok⟩:=trOf_ok hΓ hr
     obtain⟨sf,hd,hfs⟩:=descIs_struct ok.desc rfl
     obtain⟨g,hg,rfl,rfl,_⟩:=fieldsAre_get hfs f _ _ _ hf
     obtain⟨d',i',ok'⟩:=trOf_ok hΓ hft
     obtain⟨vs,h1,h2⟩:=hA.1
     obtain⟨u,hu,hrep⟩:=partA_run ok' hv h2 w
     refine⟨u,?_,hrep⟩
     have hund:P.underlying s=some (.struct sf):=by rw[ok.und,hd]
     have hg':sf[f]?=some g:=by simpa using hg
     simp[execOp,Instr.field,run_underlying hund,hg',h1,asAgg,hu]
    ·trivial
   ·trivial
  ·trivial
 ·trivial
theorem sem_fieldAddr (hΓ:tabIs P Γ=true)(s:TypeId)(x:Operand)(f:Nat)(ax:AV):ResSem (OpSem P ⟨dst,.fieldAddr s x f,ty,pos,aft,gd⟩ [ax] fr S) (fieldAddrA Γ s ax f S):=by
 unfold fieldAddrA
 split
 ·rename_i fs sz by_ ag z eq hr
  split
  ·rename_i ft off fsz hf
   cases h0:Nat.beq fsz 0 with
   | true=>trivial
   | false =>
    simp only[cond_false]
    have hne:fsz≠0:=fun e=>by rw[e] at h0;cases h0
    obtain⟨d,i,ok⟩:=trOf_ok hΓ hr
    obtain⟨sf,hd,hfs⟩:=descIs_struct ok.desc rfl
    obtain⟨g,hg,rfl,rfl,fi,hfi,hfsz⟩:=fieldsAre_get hfs f _ _ _ hf
    have hund:P.underlying s=some (.struct sf):=by rw[ok.und,hd]
    have hg':sf[f]?=some g:=by simpa using hg
    have run:∀ (a:Act) (w:World) (b o:Nat),a.eval x=.pointer (some ⟨b,o,none⟩)->(execOp a.eval ⟨dst,.fieldAddr s x f,ty,pos,aft,gd⟩).run P w=.ok (.value (.pointer (some ⟨b,o+g.offset,none⟩))) w:=by
     intro a w b o he
     have hadd:(⟨b,o,none⟩:Addr).add g.offset=⟨b,o+g.offset,none⟩:=by unfold Addr.add;split<;>simp_all
     have hs0:¬ fi.size=0:=by rw[hfsz];exact hne
     simp[execOp,Instr.fieldAt,run_underlying hund,hg',he,Instr.sureAddr,fieldPlace,Go.sizeOf,typeInfo,hfi,hs0,hadd]
    split
    ·rename_i tok o
     refine OpSem.pure fun γ F w a _ hA=>?_
     obtain⟨b,h1,h2⟩:=hA.1
     exact⟨_,run a w b o h2,b,h1,rfl⟩
    ·rename_i tok j o
     refine OpSem.pure fun γ F w a _ hA=>?_
     obtain⟨b,h1,h2,h3,h4⟩:=hA.1
     refine⟨_,run a w b _ h4,b,h1,h2,h3,?_⟩
     rw[Nat.add_assoc]
    ·rename_i e y o
     refine OpSem.pure fun γ F w a _ hA=>?_
     obtain⟨ad,l,h1,h2,h3,h4⟩:=hA.1
     refine⟨_,run a w _ _ h4,ad,l,h1,h2,h3,?_⟩
     rw[Nat.add_assoc]
    ·rename_i e id j o
     refine OpSem.pure fun γ F w a _ hA=>?_
     obtain⟨q,b,o',n,c,h1,h2,h3,h4,h5⟩:=hA.1
     refine⟨_,run a w b _ h5,q,b,o',n,c,h1,h2,h3,h4,?_⟩
     rw[Nat.add_assoc]
    ·rename_i tok j
     intro hc
     have h0:=of_decide_eq_true hc
     refine OpSem.pure fun γ F w a _ hA=>?_
     rcases hA.1 with ⟨h1,-⟩ | ⟨b,h1,h2,h3,h4⟩
     ·omega
     ·exact⟨_,run a w b _ h4,b,h1,h2,h3,rfl⟩
    ·trivial
  ·trivial
 ·trivial
theorem sem_nilCheck (x:Operand)(ax:AV)(h:match ax with | .v (.one (.ptr ..)) | .v (.one (.eptr ..)) | .v (.one (.rptr ..)) | .v (.one (.aptr ..)) | .v (.one (.fn ..)) | .v (.one (.hptr ..))=>True | _=>False) :
  OpSem P ⟨dst,.nilCheck x,ty,pos,aft,gd⟩ [ax] fr S ax S:=by
 refine OpSem.pure fun γ F w a _ hA=>⟨a.eval x,?_,hA.1⟩
 have hx:=hA.1
 split at h<;>try (exact h.elim)
 ·obtain⟨b,_,h2⟩:=hx;simp[execOp,h2]
 ·obtain⟨b,_,_,_,h2⟩:=hx;simp[execOp,h2]
 ·obtain⟨b,l,_,_,_,h2⟩:=hx;simp[execOp,h2]
 ·obtain⟨b,_,_,_,h2⟩:=hx;simp[execOp,h2]
 ·obtain⟨bs,h2,_⟩:=hx;simp[execOp,h2]
 ·obtain⟨q,b,o,n,c,_,_,_,_,h2⟩:=hx;simp[execOp,h2]
theorem sem_nilCheckO (x:Operand)(tok:Nat)(i:Int)(h:0<=i):OpSem P ⟨dst,.nilCheck x,ty,pos,aft,gd⟩ [one (.optr tok i)] fr S (one (.eptr tok i 0)) S:=by
 refine OpSem.pure fun γ F w a _ hA=>⟨a.eval x,?_,?_⟩
 ·rcases hA.1 with ⟨h1,-⟩ | ⟨b,h1,h2,h3,h4⟩
  ·omega
  ·simp[execOp,h4]
 ·rcases hA.1 with ⟨h1,-⟩ | ⟨b,h1,h2,h3,h4⟩
  ·omega
  ·exact⟨b,h1,h2,h3,h4⟩
end
end Go.Ab
namespace Go.Ab
theorem addr_add (b o n:Nat):(⟨b,o,none⟩:Addr).add n=⟨b,o+n,none⟩:=by unfold Addr.add;split<;>simp_all
theorem explode_rep {γ:Nat->G}{F:FK}{w:World}:∀ {t:Ty} {x:t.den} {l:List Value},RepD F w t x l->All2 (RepC γ F w) (t.explode x) l
 | .int _,_,_,h=>by simp only[RepD] at h;subst h;exact⟨rfl,trivial⟩
 | .bool,_,_,h=>by simp only[RepD] at h;subst h;exact⟨rfl,trivial⟩
 | .str,_,_,h=>by simp only[RepD] at h;subst h;exact⟨rfl,trivial⟩
 | .pair a b,_,_,h=>by
  simp only[RepD] at h
  obtain⟨l1,l2,rfl,h1,h2⟩:=h
  exact (explode_rep h1).append (explode_rep h2)
 | .slice e,_,_,h=>by
  simp only[RepD] at h
  obtain⟨v,rfl,h⟩:=h
  exact⟨h,trivial⟩
 | .ref e,_,_,h=>by
  simp only[RepD] at h
  obtain⟨v,rfl,h⟩:=h
  exact⟨h,trivial⟩
theorem emp_ro {F:FK}{w:World}{e:Ty}:RoSl F w (RepD F w e) e.size ([]:List e.den) (.slice none 0 0) :=
 ⟨none,0,0,rfl,rfl,Nat.le_refl _,fun h=>by omega⟩
theorem implode_rep {γ:Nat->G}{F:FK}{w:World}:∀ {t:Ty} {cs cs':List C} {x:t.den} {l:List Value},t.implode cs=some (x,cs')->All2 (RepC γ F w) cs l ->
  ∃ l1 l2,l=l1++l2∧RepD F w t x l1∧All2 (RepC γ F w) cs' l2
 | .int k,cs,cs',x,l,h,hr=>by
  simp only[Ty.implode] at h
  split at h
  ·rename_i k' n r
   split at h
   ·rename_i hc
    subst hc
    injection h with h
    injection h with h1 h2
    subst h1 h2
    match l,hr with
    | v::l,hr=>exact⟨[v],l,rfl,by have:=hr.1;simp only[RepC] at this;rw[this];rfl,hr.2⟩
   ·cases h
  ·cases h
 | .bool,cs,cs',x,l,h,hr=>by
  simp only[Ty.implode] at h
  split at h
  ·injection h with h
   injection h with h1 h2
   subst h1 h2
   match l,hr with
   | v::l,hr=>exact⟨[v],l,rfl,by have:=hr.1;simp only[RepC] at this;rw[this];rfl,hr.2⟩
  ·cases h
 | .str,cs,cs',x,l,h,hr=>by
  simp only[Ty.implode] at h
  split at h
  ·injection h with h
   injection h with h1 h2
   subst h1 h2
   match l,hr with
   | v::l,hr=>exact⟨[v],l,rfl,by have:=hr.1;simp only[RepC] at this;rw[this];rfl,hr.2⟩
  ·cases h
 | .slice e,cs,cs',x,l,h,hr=>by
  simp only[Ty.implode] at h
  split at h
  ·rename_i e' xs r
   split at h
   ·rename_i hc
    subst hc
    injection h with h
    injection h with h1 h2
    subst h1 h2
    match l,hr with
    | v::l,hr=>exact⟨[v],l,rfl,⟨v,rfl,hr.1⟩,hr.2⟩
   ·cases h
  ·injection h with h
   injection h with h1 h2
   subst h1 h2
   match l,hr with
   | v::l,hr=>exact⟨[v],l,rfl,⟨v,rfl,by have:=hr.1;simp only[RepC] at this;rw[this];exact emp_ro⟩,hr.2⟩
  ·injection h with h
   injection h with h1 h2
   subst h1 h2
   match l,hr with
   | v::l,hr =>
    obtain⟨A,hA⟩:=hr.1
    exact⟨[v],l,rfl,⟨v,rfl,A,0,0,hA,rfl,Nat.le_refl _,fun h=>by omega⟩,hr.2⟩
  ·cases h
 | .ref e,cs,cs',x,l,h,hr=>by
  simp only[Ty.implode] at h
  split at h
  ·rename_i e' xs r
   split at h
   ·rename_i hc
    subst hc
    injection h with h
    injection h with h1 h2
    subst h1 h2
    match l,hr with
    | v::l,hr=>exact⟨[v],l,rfl,⟨v,rfl,hr.1⟩,hr.2⟩
   ·cases h
  ·injection h with h
   injection h with h1 h2
   subst h1 h2
   match l,hr with
   | v::l,hr=>exact⟨[v],l,rfl,⟨v,rfl,hr.1⟩,hr.2⟩
  ·cases h
 | .pair a b,cs,cs',x,l,h,hr=>by
  simp only[Ty.implode] at h
  split at h
  ·rename_i y c1 h1
   split at h
   ·rename_i z c2 h2
    injection h with h
    injection h with e1 e2
    subst e1 e2
    obtain⟨l1,l2,rfl,r1,hr⟩:=implode_rep h1 hr
    obtain⟨l3,l4,rfl,r2,hr⟩:=implode_rep h2 hr
    exact⟨l1++l3,l4,by simp,⟨l1,l3,rfl,r1,r2⟩,hr⟩
   ·cases h
  ·cases h
theorem whole_rep {γ:Nat->G}{F:FK}{w:World}{t:Ty}{cs:List C}{x:t.den}{l:List Value}(h:t.whole cs=some x)(hr:All2 (RepC γ F w) cs l):RepD F w t x l:=by
 unfold Ty.whole at h
 split at h
 ·rename_i y hy
  injection h with h
  subst h
  obtain⟨l1,l2,rfl,r1,r2⟩:=implode_rep hy hr
  match l2,r2 with
  | [],_=>simpa using r1
 ·cases h
section
variable {P:Program} {dst:Option Tmp} {ty:TypeId} {pos:String} {aft:Array Edge} {gd:Option (Nat×Bool)} {fr:Nat} {S:Store} {Γ:Tab}
theorem run_loadVar_cells {w:World}{t:Nat}{r:TR}{d:TypeDesc}{i:TypeInfo}(ok:TrOk P t r d i){b o off:Nat}{cs:List C}{l:List Value}{γ:Nat->G}{F:FK}{w0:World}{v:AV}
  (hcell:∀ j u,l[j]?=some u->w.cell? ⟨b,o+j,none⟩=some u) (hv:partA r.agg r.size off cs=some v) (hr:All2 (RepC γ F w0) cs l) :
  ∃ u,(loadVar t ⟨b,o+off,none⟩).run P w=.ok u w∧RepA γ F w0 v u:=by
 unfold partA at hv
 unfold loadVar
 simp only[Sem.run_bind,ok.isAgg,Result.andThen_ok,Sem.run_ite,ok.sizeOf]
 cases ha:r.agg with
 | true =>
  rw[ha] at hv
  simp only[cond_true] at hv
  cases hb:Nat.ble (off+r.size) cs.length with
  | false=>simp[hb] at hv
  | true =>
   simp only[hb,cond_true,Option.some.injEq] at hv
   subst hv
   have hlen:=hr.length
   have hbl:off+r.size<=cs.length:=by simpa using hb
   have hl:=run_loadCells_list (P:=P) w ⟨b,o+off,none⟩ ((l.drop off).take r.size) (fun j u hj=>by
    rw[addr_add,Nat.add_assoc]
    simp only[List.getElem?_take,List.getElem?_drop] at hj
    split at hj
    ·exact hcell _ _ hj
    ·cases hj)
   have hn:((l.drop off).take r.size).length=r.size:=by simp;omega
   rw[hn] at hl
   refine⟨_,by simp[hl],_,rfl,(hr.drop off).take r.size⟩
 | false =>
  rw[ha] at hv
  simp only[cond_false] at hv
  split at hv
  ·rename_i c hco
   injection hv with hv
   subst hv
   obtain⟨u,hu,hrep⟩:=hr.get off c hco
   refine⟨u,?_,hrep⟩
   have:=hcell _ _ hu
   simp[this]
  ·cases hv
theorem cell_of_heap {w:World}{b j:Nat}{cur:Array Value}{E:TypeId}{fz:Nat×Nat}(h:w.heap[b]?=some (.cells cur E fz)):w.cell? ⟨b,j,none⟩=cur[j]?:=by simp[World.cell?,h]
theorem row_elem {F:FK}{g:G}{w:World}{E:Nat}{e:Ty}{m:RowK}{xs:List e.den}(h:RowOk F g w E e m xs){b:Nat}(hb:g.blk=some b){i:Nat}{x:e.den}(hx:xs[i]?=some x) :
  ∃ l,RepD F w e x l∧∀ j u,l[j]?=some u->w.cell? ⟨b,i*e.size+j,none⟩=some u:=by
 obtain⟨_,_,⟨hn,_⟩ | ⟨b',cur,fz,flat,h1,h2,h3,h4,h5,h6,h7,_⟩⟩:=h
 ·rw[hn] at hb;cases hb
 ·rw[h1] at hb
  injection hb with hb
  subst hb
  obtain⟨l,hl,hc⟩:=h7.at i x hx
  refine⟨l,hl,fun j u hu=>?_⟩
  have:=hc j u hu
  rw[← h6,List.getElem?_take] at this
  split at this
  ·rw[cell_of_heap h2];simpa using this
  ·cases this
theorem intCells_rep {γ:Nat->G}{F:FK}{w:World}:∀ {cs:List C} {l:List Value} {k:IntKind} {ns:List Int},intCells cs=some (k,ns)->All2 (RepC γ F w) cs l->l=ns.map (Value.int k)∧cs=ns.map (C.int k)
 | [],_,_,_,h,_=>by simp[intCells] at h
 | [.int k n],l,k',ns,h,hr=>by
  simp only[intCells,Option.some.injEq,Prod.mk.injEq] at h
  obtain⟨rfl,rfl⟩:=h
  obtain⟨v,rfl,hv⟩:=all2_one hr
  simp only[RepC] at hv
  subst hv
  exact⟨rfl,rfl⟩
 | .int k n::c::cs,l,k',ns,h,hr=>by
  rw[intCells] at h
  ·split at h
   ·rename_i k2 ns2 h2
    split at h
    ·rename_i hk
     subst hk
     simp only[Option.some.injEq,Prod.mk.injEq] at h
     obtain⟨rfl,rfl⟩:=h
     match l,hr with
     | v::l,hr =>
      obtain⟨h3,h4⟩:=intCells_rep h2 hr.2
      have:=hr.1
      simp only[RepC] at this
      subst this
      exact⟨by rw[h3];rfl,by rw[h4];rfl⟩
    ·cases h
   ·cases h
  ·intro h;cases h
 | .bool _::_,_,_,_,h,_=>by simp[intCells] at h
 | .str _::_,_,_,_,h,_=>by simp[intCells] at h
 | .ro _ _::_,_,_,_,h,_=>by simp[intCells] at h
 | .emp::_,_,_,_,h,_=>by simp[intCells] at h
 | .own _::_,_,_,_,h,_=>by simp[intCells] at h
 | .ptr _ _::_,_,_,_,h,_=>by simp[intCells] at h
 | .eptr _ _ _::_,_,_,_,h,_=>by simp[intCells] at h
 | .aptr _ _ _ _::_,_,_,_,h,_=>by simp[intCells] at h
 | .rptr _ _ _::_,_,_,_,h,_=>by simp[intCells] at h
 | .fn _ _::_,_,_,_,h,_=>by simp[intCells] at h
 | .nil _::_,_,_,_,h,_=>by simp[intCells] at h
 | .dead::_,_,_,_,h,_=>by simp[intCells] at h
 | .ref _ _::_,_,_,_,h,_=>by simp[intCells] at h
 | .hptr _ _ _ _::_,_,_,_,h,_=>by simp[intCells] at h
 | .hview _ _ _ _::_,_,_,_,h,_=>by simp[intCells] at h
 | .view _ _ _::_,_,_,_,h,_=>by simp[intCells] at h
 | .optr _ _::_,_,_,_,h,_=>by simp[intCells] at h
 | .mref _::_,_,_,_,h,_=>by simp[intCells] at h
 | .kids _ _::_,_,_,_,h,_=>by simp[intCells] at h
 | .emp0::_,_,_,_,h,_=>by simp[intCells] at h
theorem heapOf_look {e:Ty}{S:Store}{t E:Nat}{H:List (Kid e.den)}(h:heapOf e S=some (t,E,H)):look S t=some (.heap E e H):=by
 unfold heapOf at h
 split at h
 ·split at h
  ·rename_i E' e' H' hl
   split at h
   ·rename_i he
    subst he
    simp only[Option.some.injEq,Prod.mk.injEq] at h
    obtain⟨rfl,rfl,rfl⟩:=h
    exact hl
   ·cases h
  ·cases h
 ·cases h
theorem kid_elem {γ:Nat->G}{F:FK}{w:World}{S:Store}(hI:Inv F γ S w){t E:Nat}{e:Ty}{H:List (Kid e.den)}(hS:look S t=some (.heap E e H)){j b o i:Nat}{s:SlV}(hk:F.kid j=some s)(hsA:s.A=some ⟨b,o,none⟩)
  (hal:kalive H (j+1)=true) (hi:i<s.n):i<(kget H (j+1)).length∧∃ l,RepD F w e ((kget H (j+1)).getD i e.dflt) l∧∀ q u,l[q]?=some u->w.cell? ⟨b,o+i*e.size+q,none⟩=some u:=by
 obtain⟨-,-,hok⟩:=hI.blk t _ hS
 unfold kalive at hal
 unfold kget
 simp only[kidAt] at hal ⊢
 cases hj:H[j]? with
 | none=>rw[hj] at hal;cases hal
 | some k =>
  rw[hj] at hal
  have h:=hok j k hj
  cases k with
  | dead=>cases hal
  | ro xs =>
   obtain⟨s',h1,A,n',cap,h2,h3,h4,h5⟩:=h
   rw[hk] at h1
   injection h1 with h1
   subst h1
   simp only[SlV.val] at h2
   injection h2 with h2 h2' h2''
   have hin:i<xs.length:=by omega
   obtain⟨a,g1,g2,g3,g4⟩:=h5 (by omega)
   rw[← h2,hsA] at g1
   injection g1 with g1
   subst g1
   have hget:xs[i]?=some (xs.getD i e.dflt):=by simp[List.getD,List.getElem?_eq_getElem hin]
   obtain⟨l,q1,q2,q3⟩:=g4 i _ hget
   exact⟨hin,l,q1,fun q u hu=>by have:=q3 q u hu;rwa [← Nat.add_assoc] at this⟩
  | own xs cp =>
   obtain⟨g,h1,h2,h3⟩:=h
   rw[hk] at h1
   injection h1 with h1
   have hrow:=h2
   obtain⟨a1,a2,⟨a3,a4,_⟩ | ⟨b',cur,fz,flat,a3,a4,a5⟩⟩:=h2
   ·rw[G.sl_none a3] at h1
    rw[h1] at hi
    exact absurd hi (Nat.not_lt_zero _)
   ·rw[G.sl_at a3] at h1
    rw[h1] at hsA hi
    simp only[Option.some.injEq,Addr.mk.injEq,and_true] at hsA hi
    obtain⟨rfl,rfl⟩:=hsA
    have hin:i<xs.length:=by omega
    have hget:xs[i]?=some (xs.getD i e.dflt):=by simp[List.getD,List.getElem?_eq_getElem hin]
    obtain⟨l,q1,q2⟩:=row_elem hrow a3 hget
    exact⟨hin,l,q1,fun q u hu=>by have:=q2 q u hu;rw[Nat.zero_add];exact this⟩
theorem kid_place {γ:Nat->G}{F:FK}{w:World}{S:Store}(hI:Inv F γ S w){t E:Nat}{e:Ty}{H:List (Kid e.den)}(hS:look S t=some (.heap E e H)){id:Nat}(hal:kalive H id=true){v:Value}(hv:F.kidv id v)(hn:0<(kget H id).length) :
  ∃ j b o s,id=j+1∧F.kid j=some s∧s.A=some ⟨b,o,none⟩∧s.n=(kget H id).length∧v=.slice (some ⟨b,o,none⟩) (kget H id).length s.cap:=by
 obtain⟨-,-,hok⟩:=hI.blk t _ hS
 cases id with
 | zero=>simp[kget,kidAt] at hn
 | succ j =>
  obtain⟨s,hs,rfl⟩:=hv
  unfold kalive at hal
  unfold kget at hn ⊢
  simp only[kidAt] at hal hn ⊢
  cases hj:H[j]? with
  | none=>rw[hj] at hal;cases hal
  | some k =>
   rw[hj] at hal hn
   have hk:=hok j k hj
   cases k with
   | dead=>cases hal
   | ro xs =>
    obtain⟨s',h1,A,n,cap,h2,h3,h4,h5⟩:=hk
    rw[hs] at h1
    injection h1 with h1
    subst h1
    have hn:0<xs.length:=hn
    obtain⟨a,g1,g2,g3,-⟩:=h5 (by omega)
    obtain⟨sA,sn,sc,so⟩:=s
    simp only[SlV.val,Value.slice.injEq] at h2
    obtain⟨rfl,rfl,rfl⟩:=h2
    obtain⟨b,o,sp⟩:=a
    simp only at g2
    subst g2
    refine⟨j,b,o,_,rfl,hs,g1,h3.symm,?_⟩
    simp only[SlV.val]
    rw[g1,← h3]
   | own xs c =>
    obtain⟨g,h1,h2,-⟩:=hk
    rw[hs] at h1
    injection h1 with h1
    subst h1
    have hn:0<xs.length:=hn
    obtain⟨a1,a2,⟨a3,a4,_⟩ | ⟨b,cur,fz,flat,a3,-⟩⟩:=h2
    ·rw[a4] at hn;simp at hn
    ·have e:g.sl=⟨some ⟨b,0,none⟩,xs.length,g.cap,some b⟩:=by rw[G.sl_at a3,a1]
     exact⟨j,b,0,g.sl,rfl,hs,by rw[e],by rw[e],by rw[e];rfl⟩
theorem sem_load (hΓ:tabIs P Γ=true)(t:TypeId)(x:Operand)(ax:AV):ResSem (OpSem P ⟨dst,.load t x,ty,pos,aft,gd⟩ [ax] fr S) (loadA Γ t ax S):=by
 unfold loadA
 split
 ·trivial
 ·rename_i r hr
  obtain⟨d,i,ok⟩:=trOf_ok hΓ hr
  have fin:∀ (a:Act) (w:World) (ad:Addr) (u:Value),a.eval x=.pointer (some ad)->(loadVar t ad).run P w=.ok u w->(execOp a.eval ⟨dst,.load t x,ty,pos,aft,gd⟩).run P w=.ok (.value u) w:=by
   intro a w ad u h1 h2
   simp[execOp,Instr.loadAt,h1,Instr.sureAddr,h2]
  split
  ·rename_i tok off
   split
   ·rename_i cs hS
    split
    ·rename_i v hv
     refine OpSem.pure fun γ F w a hI hA=>?_
     obtain⟨b,hb,hp⟩:=hA.1
     obtain⟨b',cur,h1,h2,h3,h4⟩:=hI.blk tok _ hS
     rw[h1] at hb
     injection hb with hb
     subst hb
     obtain⟨u,hu,hrep⟩:=run_loadVar_cells ok (b:=b') (o:=0) (off:=off) (w:=w) (fun j u hj=>by rw[Nat.zero_add,cell_of_heap h2];simpa using hj) hv h4
     rw[Nat.zero_add] at hu
     exact⟨u,fin a w _ u hp hu,hrep⟩
    ·trivial
   ·trivial
  ·rename_i tok j fo
   split
   ·rename_i E e m xs hS
    split
    ·rename_i v hv
     refine OpSem.pure fun γ F w a hI hA=>?_
     obtain⟨b,hb,h0,hlt,hp⟩:=hA.1
     have hrow:RowOk F (γ tok) w E e m xs:=hI.blk tok _ hS
     have hlen:j.toNat<xs.length:=by rw[← hrow.1];exact hlt
     have hget:xs[j.toNat]?=some (xs.getD j.toNat e.dflt):=by simp[List.getD,List.getElem?_eq_getElem hlen]
     obtain⟨l,hl,hc⟩:=row_elem hrow hb hget
     obtain⟨u,hu,hrep⟩:=run_loadVar_cells ok (b:=b) (o:=j.toNat*e.size) (off:=fo) (w:=w) hc hv (explode_rep (γ:=γ) hl)
     refine⟨u,fin a w _ u hp ?_,hrep⟩
     rw[hrow.2.1]
     exact hu
    ·trivial
   ·trivial
  ·rename_i e y fo
   split
   ·rename_i v hv
    refine OpSem.pure fun γ F w a hI hA=>?_
    obtain⟨ad,l,h1,h2,h3,h4⟩:=hA.1
    obtain⟨u,hu,hrep⟩:=run_loadVar_cells ok (b:=ad.block) (o:=ad.off) (off:=fo) (w:=w) h3 hv (explode_rep (γ:=γ) h2)
    exact⟨u,fin a w _ u h4 hu,hrep⟩
   ·trivial
  ·rename_i tok j
   split
   ·rename_i E e m xs hS
    split
    ·rename_i v hv
     intro hj
     have hj0:=of_decide_eq_true hj
     refine OpSem.pure fun γ F w a hI hA=>?_
     rcases hA.1 with ⟨hneg,-⟩ | ⟨b,hb,h0,hlt,hp⟩
     ·omega
     have hrow:RowOk F (γ tok) w E e m xs:=hI.blk tok _ hS
     have hlen:j.toNat<xs.length:=by rw[← hrow.1];exact hlt
     have hget:xs[j.toNat]?=some (xs.getD j.toNat e.dflt):=by simp[List.getD,List.getElem?_eq_getElem hlen]
     obtain⟨l,hl,hc⟩:=row_elem hrow hb hget
     obtain⟨u,hu,hrep⟩:=run_loadVar_cells ok (b:=b) (o:=j.toNat*e.size) (off:=0) (w:=w) hc hv (explode_rep (γ:=γ) hl)
     refine⟨u,fin a w _ u hp ?_,hrep⟩
     rw[hrow.2.1]
     exact hu
    ·trivial
   ·trivial
  ·rename_i e id j fo
   split
   ·rename_i tk E H hH
    split
    ·rename_i v hv
     intro hal
     refine OpSem.pure fun γ F w a hI hA=>?_
     obtain⟨q,b,o,s,rfl,hk,hsA,h0,hlt,hp⟩:=hA.1
     obtain⟨hin,l,hl,hc⟩:=kid_elem hI (heapOf_look hH) hk hsA hal hlt
     obtain⟨u,hu,hrep⟩:=run_loadVar_cells ok (b:=b) (o:=o+j.toNat*e.size) (off:=fo) (w:=w) hc hv (explode_rep (γ:=γ) hl)
     exact⟨u,fin a w _ u hp hu,hrep⟩
    ·trivial
   ·trivial
  ·rename_i tok off n j
   split
   ·rename_i cs hS
    cases hb:Nat.ble (off+n) cs.length with
    | false=>trivial
    | true =>
     simp only[cond_true]
     split
     ·rename_i k ns hns hag
      refine OpSem.pure fun γ F w a hI hA=>?_
      obtain⟨b,hbk,h0,hlt,hp⟩:=hA.1
      obtain⟨b',cur,h1,h2,h3,h4⟩:=hI.blk tok _ hS
      rw[h1] at hbk
      injection hbk with hbk
      subst hbk
      obtain⟨hl,hcs⟩:=intCells_rep hns ((h4.drop off).take n)
      have hbl:off+n<=cs.length:=by simpa using hb
      have hlen4:=h4.length
      have hnl:ns.length=n:=by
       have:=congrArg List.length hcs
       simp at this
       omega
      have hju:cur.toList[off+j.toNat]?=some (.int k (ns.getD j.toNat 0)):=by
       have h5:=congrArg (·[j.toNat]?) hl
       simp only[List.getElem?_take,List.getElem?_drop,if_pos hlt,List.getElem?_map] at h5
       rw[h5,List.getElem?_eq_getElem (by omega)]
       simp[List.getD,List.getElem?_eq_getElem (show j.toNat<ns.length by omega)]
      refine⟨_,fin a w _ (.int k (ns.getD j.toNat 0)) hp ?_,rfl⟩
      unfold loadVar
      have hag':r.agg=false:=hag
      simp only[Sem.run_bind,ok.isAgg,Result.andThen_ok,Sem.run_ite,hag',Bool.false_eq_true,if_false,run_load,cell_of_heap h2]
      have:cur[off+j.toNat]?=some (.int k (ns.getD j.toNat 0)):=by simpa using hju
      simp[this]
     ·trivial
   ·trivial
  ·trivial
end
end Go.Ab
namespace Go.Ab
def Reads (F:FK)(w:World)(e:Ty)(xs:List e.den)(v:Value):Prop :=
 ∃ A n cap,v=.slice A n cap∧xs.length=n∧n<=cap∧(0<n->∃ b o,A=some ⟨b,o,none⟩∧∀ i x,xs[i]?=some x->∃ l,RepD F w e x l∧∀ j u,l[j]?=some u->w.cell? ⟨b,o+(i*e.size+j),none⟩=some u)
theorem RoSl.reads {F:FK}{w:World}{e:Ty}{xs:List e.den}{v:Value}(h:RoSl F w (RepD F w e) e.size xs v):Reads F w e xs v:=by
 obtain⟨A,n,cap,hv,hn,hc,h⟩:=h
 refine⟨A,n,cap,hv,hn,hc,fun h0=>?_⟩
 obtain⟨a,hA,hs,hF,h⟩:=h h0
 refine⟨a.block,a.off,by rw[hA];cases a;simp_all,fun i x hx=>?_⟩
 obtain⟨l,h1,h2,h3⟩:=h i x hx
 exact⟨l,h1,h3⟩
theorem RowOk.reads {F:FK}{g:G}{w:World}{E:Nat}{e:Ty}{m:RowK}{xs:List e.den}(h:RowOk F g w E e m xs):Reads F w e xs g.val:=by
 have h':=h
 obtain⟨h1,h2,⟨h3,h4,h4n⟩ | ⟨b,cur,fz,flat,h3,h4,h5,_⟩⟩:=h'
 ·subst h4
  exact⟨g.nl,0,0,by simp[G.val,h3],rfl,Nat.le_refl _,fun h=>by omega⟩
 ·refine⟨some ⟨b,0,none⟩,g.len,g.cap,by simp[G.val,h3],h1.symm,by omega,fun _=>⟨b,0,rfl,fun i x hx=>?_⟩⟩
  obtain⟨l,hl,hc⟩:=row_elem h h3 hx
  exact⟨l,hl,fun j u hu=>by rw[Nat.zero_add];exact hc j u hu⟩
theorem seqOf_reads {γ:Nat->G}{F:FK}{S:Store}{w:World}(hI:Inv F γ S w){x:AV}{q:Seq}(h:seqOf S x=some q){v:Value}(hr:RepA γ F w x v):Reads F w q.e q.xs v:=by
 unfold seqOf at h
 split at h
 ·rename_i t
  split at h
  ·rename_i E e m xs hS
   injection h with h
   subst h
   have hv:v=(γ t).val:=hr
   rw[hv]
   exact RowOk.reads (hI.blk t _ hS)
  ·cases h
 ·injection h with h
  subst h
  exact RoSl.reads hr
 ·cases h
section
variable {P:Program} {dst:Option Tmp} {ty:TypeId} {pos:String} {aft:Array Edge} {gd:Option (Nat×Bool)} {fr:Nat} {S:Store} {Γ:Tab}
theorem run_index_addr {w:World}{t e:Nat}{i:TypeInfo}(hu:P.underlying t=some (.slice e))(hi:P.info? e=some i){a:Act}{x y:Operand}{b o n cap:Nat}{k:IntKind}{j:Int}
  (hx:a.eval x=.slice (some ⟨b,o,none⟩) n cap) (hy:a.eval y=.int k j) (h0:0<=j) (hlt:j<n) :
  (execOp a.eval ⟨dst,.indexAddr t x y,ty,pos,aft,gd⟩).run P w=.ok (.value (.pointer (some ⟨b,o+j.toNat*i.size,none⟩))) w:=by
 have hc:0<=j∧j<(n:Int):=⟨h0,hlt⟩
 simp[execOp,Instr.indexAt,hx,hy,asIntOf,run_underlying hu,hc,Go.sizeOf,typeInfo,hi,addr_add]
theorem sem_indexAddr (hΓ:tabIs P Γ=true)(t:TypeId)(x y:Operand)(ax ay:AV):ResSem (OpSem P ⟨dst,.indexAddr t x y,ty,pos,aft,gd⟩ [ax,ay] fr S) (indexAddrA Γ t ax ay S):=by
 unfold indexAddrA
 split
 ·rename_i E te sz by_ ag z eq k n hr
  obtain⟨d,i,ok⟩:=trOf_ok hΓ hr
  obtain⟨hd,ei,hei,hsz,_⟩:=descIs_slice ok.desc rfl
  have hund:P.underlying t=some (.slice E):=by rw[ok.und,hd]
  split
  ·rename_i tok
   split
   ·rename_i E' e m xs hS
    cases hte:Nat.beq e.size te.size with
    | false=>trivial
    | true =>
     intro hc
     have hte':e.size=te.size:=(beq_iff _ _).1 hte
     simp only[Bool.and_eq_true,decide_eq_true_eq] at hc
     refine OpSem.pure fun γ F w a hI hA=>?_
     have hx:a.eval x=(γ tok).val:=hA.1
     have hy:a.eval y=.int k n:=hA.2.1
     have hrow:RowOk F (γ tok) w E' e m xs:=hI.blk tok _ hS
     obtain⟨h1,h2,⟨h3,h4,h4n⟩ | ⟨b,cur,fz,flat,h3,h4,h5,h6⟩⟩:=hrow
     ·subst h4;simp at hc;omega
     ·have hv:a.eval x=.slice (some ⟨b,0,none⟩) (γ tok).len (γ tok).cap:=by rw[hx];simp[G.val,h3]
      refine⟨_,run_index_addr hund hei hv hy hc.1 (by rw[h1];exact hc.2),b,h3,hc.1,?_,?_⟩
      ·rw[h1];omega
      ·rw[Nat.zero_add,Nat.add_zero,hsz,h2,hte']
   ·trivial
  ·rename_i e xs
   cases hte:Nat.beq e.size te.size with
   | false=>trivial
   | true =>
    intro hc
    have hte':e.size=te.size:=(beq_iff _ _).1 hte
    simp only[Bool.and_eq_true,decide_eq_true_eq] at hc
    refine OpSem.pure fun γ F w a hI hA=>?_
    obtain⟨A,n',cap,hv,hn,hcap,h⟩:=hA.1
    have hy:a.eval y=.int k n:=hA.2.1
    have hn':n<(n':Int):=by omega
    obtain⟨ad,hAd,hs,hF,h⟩:=h (by omega)
    have hlen:n.toNat<xs.length:=by omega
    have hget:xs[n.toNat]?=some (xs.getD n.toNat e.dflt):=by simp[List.getD,List.getElem?_eq_getElem hlen]
    obtain⟨l,h1,h2,h3⟩:=h _ _ hget
    obtain⟨b,o,sp⟩:=ad
    simp only at hs
    subst hs
    have hv':a.eval x=.slice (some ⟨b,o,none⟩) n' cap:=by rw[hv,hAd]
    refine⟨_,run_index_addr hund hei hv' hy hc.1 hn',⟨b,o+n.toNat*e.size,none⟩,l,hF,h1,fun j u hu=>?_,?_⟩
    ·have:=h3 j u hu
     rw[← Nat.add_assoc] at this
     exact this
    ·rw[Nat.add_zero,hsz,hte']
  ·rename_i e id
   split
   ·rename_i tk E2 H hH
    cases hte:Nat.beq e.size te.size with
    | false=>trivial
    | true =>
     intro hc
     simp only[Bool.and_eq_true,decide_eq_true_eq,Nat.beq_eq] at hc hte
     obtain⟨hal,hc⟩:=hc
     have hte:e.size=te.size∧kalive H id=true:=⟨hte,hal⟩
     refine OpSem.pure fun γ F w a hI hA=>?_
     have hy:a.eval y=.int k n:=hA.2.1
     obtain⟨j,b,o,s,rfl,hk,hsA,hsn,hv⟩:=kid_place hI (heapOf_look hH) hte.2 hA.1 (by omega)
     refine⟨_,run_index_addr hund hei hv hy hc.1 (by omega),j,b,o,s,rfl,hk,hsA,hc.1,by omega,?_⟩
     rw[Nat.add_zero,hsz,hte.1]
   ·trivial
  ·rename_i e id lo hi
   split
   ·rename_i tk E2 H hH
    cases hte:Nat.beq e.size te.size with
    | false=>trivial
    | true =>
     intro hc
     simp only[Bool.and_eq_true,decide_eq_true_eq,Nat.beq_eq] at hc hte
     obtain⟨hal,⟨hc0,hc1⟩,hc2⟩:=hc
     refine OpSem.pure fun γ F w a hI hA=>?_
     have hy:a.eval y=.int k n:=hA.2.1
     obtain⟨s0,hs0,g1,g2,g3,gv⟩:=hA.1
     obtain⟨j,b,o,s,rfl,hk,hsA,hsn,-⟩:=kid_place hI (heapOf_look hH) hal (FK.ks_kidv hs0) (by omega)
     have hs0':F.kid j=some s0:=hs0
     rw[hk] at hs0'
     injection hs0' with hs0'
     subst hs0'
     rw[if_neg (by omega),hsA] at gv
     have gv':a.eval x=.slice (some ⟨b,o+lo.toNat*e.size,none⟩) (hi.toNat - lo.toNat) (s.cap - lo.toNat):=by rw[gv];simp[addr_add]
     refine⟨_,run_index_addr hund hei gv' hy hc0 (by omega),j,b,o,s,rfl,hk,hsA,by omega,by omega,?_⟩
     rw[Nat.add_zero,hsz,← hte,show (lo+n).toNat=lo.toNat+n.toNat by omega,Nat.add_mul,Nat.add_assoc]
   ·trivial
  ·trivial
 ·rename_i len e sz by_ ag z eq k n hr
  obtain⟨d,i,ok⟩:=trOf_ok hΓ hr
  have hd:=descIs_array ok.desc rfl
  have hund:P.underlying t=some (.array len e):=by rw[ok.und,hd]
  split
  ·rename_i tok off r hre
   cases hc0:Nat.beq r.size 1&&!r.agg with
   | false=>trivial
   | true =>
    intro hc
    simp only[Bool.and_eq_true,decide_eq_true_eq,Nat.beq_eq] at hc hc0
    obtain⟨d',i',ok'⟩:=trOf_ok hΓ hre
    refine OpSem.pure fun γ F w a hI hA=>?_
    obtain⟨b,hb,hp⟩:=hA.1
    have hy:a.eval y=.int k n:=hA.2.1
    refine⟨.pointer (some ⟨b,off+n.toNat,none⟩),?_,b,hb,hc.1,by omega,rfl⟩
    have hi1:i'.size=1:=by rw[ok'.size];exact hc0.1
    simp[execOp,Instr.indexAt,hp,hy,asIntOf,run_underlying hund,hc.1,hc.2,Go.sizeOf,typeInfo,ok'.inf,hi1,addr_add,Instr.sureAddr]
  ·trivial
 ·trivial
theorem sem_index (hΓ:tabIs P Γ=true)(t:TypeId)(x y:Operand)(ax ay:AV):ResSem (OpSem P ⟨dst,.index t x y,ty,pos,aft,gd⟩ [ax,ay] fr S) (indexA Γ t ax ay S):=by
 unfold indexA
 split
 ·rename_i s k n
  split
  ·rename_i sz by_ ag z eq hr
   intro hc
   simp only[Bool.and_eq_true,decide_eq_true_eq] at hc
   obtain⟨d,i,ok⟩:=trOf_ok hΓ hr
   have hd:=descIs_str ok.desc rfl
   have hund:P.underlying t=some .string:=by rw[ok.und,hd]
   refine OpSem.pure fun γ F w a hI hA=>?_
   have hx:a.eval x=.string s:=hA.1
   have hy:a.eval y=.int k n:=hA.2.1
   have hlt:n.toNat<s.size:=by omega
   refine⟨.int .u8 (bt s n),?_,rfl⟩
   have hg:s[n.toNat]?=some (s[n.toNat]'hlt):=getElem?_pos s n.toNat hlt
   simp[execOp,Instr.index,hx,hy,asIntOf,run_underlying hund,hc.1,hg,bt,hlt]
  ·trivial
 ·rename_i cs k n
  split
  ·rename_i len e sz by_ ag z eq hr
   split
   ·rename_i r k' ns hre hns
    cases hc0:Nat.beq r.size 1&&!r.agg&&Nat.beq len cs.length with
    | false=>trivial
    | true =>
     intro hc
     simp only[Bool.and_eq_true,decide_eq_true_eq,Nat.beq_eq,Bool.not_eq_true'] at hc hc0
     obtain⟨d,i,ok⟩:=trOf_ok hΓ hr
     have hd:=descIs_array ok.desc rfl
     have hund:P.underlying t=some (.array len e):=by rw[ok.und,hd]
     obtain⟨d',i',ok'⟩:=trOf_ok hΓ hre
     refine OpSem.pure fun γ F w a hI hA=>?_
     obtain⟨vs,hv,hcs⟩:=hA.1
     have hy:a.eval y=.int k n:=hA.2.1
     obtain⟨h1,h2⟩:=intCells_rep hns hcs
     have hlen:ns.length=len:=by rw[hc0.2,h2];simp
     have hi1:i'.size=1:=by rw[ok'.size];exact hc0.1.1
     refine⟨.int k' (ns.getD n.toNat 0),?_,rfl⟩
     have hlt:n.toNat<ns.length:=by omega
     have hg:vs[n.toNat]?=some (.int k' (ns.getD n.toNat 0)):=by rw[h1];simp[List.getD,List.getElem?_eq_getElem hlt]
     simp[execOp,Instr.index,hv,hy,asIntOf,run_underlying hund,hc.1,hc.2,Go.sizeOf,typeInfo,ok'.inf,hi1,part,ok'.isAgg,hc0.1.2,hg]
   ·trivial
  ·trivial
 ·trivial
theorem run_sliceBoundsC {w:World}{isS:Bool}{len cap:Nat}{l h:Int}{lo hi:Option Value}(hlo:(lo=none∧l=0)∨∃ k,lo=some (.int k l))(hhi:(hi=none∧h=len)∨∃ k,hi=some (.int k h))
  (h0:0<=l) (h1:l<=h) (h2:h<=cap):(Instr.sliceBounds isS len cap lo hi none).run P w=.ok (l.toNat,h.toNat,cap) w:=by
 have c1:0<=h∧h<=(cap:Int):=⟨by omega,by omega⟩
 have c2:0<=l∧l<=h:=⟨h0,h1⟩
 have c3:max h 0=h:=by omega
 have c4:((h.toNat:Nat):Int)=h:=by omega
 rcases hlo with ⟨rfl,rfl⟩ | ⟨k,rfl⟩<;>rcases hhi with ⟨rfl,rfl⟩ | ⟨k',rfl⟩
 ·simp[Instr.sliceBounds]
 ·simp[Instr.sliceBounds,Instr.sliceBound,asIntOf,c1]
 ·simp[Instr.sliceBounds,Instr.sliceBound,asIntOf,c2]
 ·simp[Instr.sliceBounds,Instr.sliceBound,asIntOf,c1,c2,c3,c4]
theorem run_sliceBounds {w:World}{isS:Bool}{len cap:Nat}{l h:Int}{lo hi:Option Value}(hlo:(lo=none∧l=0)∨∃ k,lo=some (.int k l))(hhi:(hi=none∧h=len)∨∃ k,hi=some (.int k h))
  (h0:0<=l) (h1:l<=h) (h2:h<=len) (hcap:len<=cap):(Instr.sliceBounds isS len cap lo hi none).run P w=.ok (l.toNat,h.toNat,cap) w:=run_sliceBoundsC hlo hhi h0 h1 (by omega)
end
end Go.Ab
namespace Go.Ab
section
variable {P:Program} {dst:Option Tmp} {ty:TypeId} {pos:String} {aft:Array Edge} {gd:Option (Nat×Bool)} {fr:Nat} {S:Store} {Γ:Tab}
def OptRep (γ:Nat->G)(F:FK)(w:World)(a:Act):Option Operand->Option AV->Prop
 | none,none=>True
 | some y,some v=>RepA γ F w v (a.eval y)
 | _,_=>False
theorem intA_some {v:AV}{d l:Int}(h:intA (some v) d=some l):∃ k,v=one (.int k l):=by
 cases v with
 | v x =>
  cases x with
  | one c =>
   cases c<;>simp only[intA] at h<;>try (cases h;done)
   injection h with h
   subst h
   exact⟨_,rfl⟩
  | agg _=>simp[intA] at h
 | tup _=>simp[intA] at h
 | undef=>simp[intA] at h
theorem intA_ok {lo:Option Operand}{al:Option AV}{d l:Int}{γ:Nat->G}{F:FK}{w:World}{a:Act}(h:intA al d=some l)(hr:OptRep γ F w a lo al) :
  (lo.map a.eval=none∧l=d)∨∃ k,lo.map a.eval=some (.int k l):=by
 cases lo with
 | none =>
  cases al with
  | none=>simp only[intA,Option.some.injEq] at h;exact .inl ⟨rfl,h.symm⟩
  | some v=>exact hr.elim
 | some y =>
  cases al with
  | none=>exact hr.elim
  | some v =>
   obtain⟨k,rfl⟩:=intA_some h
   exact .inr ⟨k,by simp only[Option.map_some];exact congrArg some hr⟩
theorem Post.freeze {γ:Nat->G}{F:FK}{w:World}{tok E:Nat}{e:Ty}{m:RowK}{xs:List e.den}(hI:Inv F γ S w)(hS:look S tok=some (.row E e m xs)) :
  ∃ F',Post fr γ F w S γ F' w (upd S tok (.row E e .frz xs))∧FK.Le F F'∧(∀ b,(γ tok).blk=some b->F' b)∧F'.kid=F.kid:=by
 have hrow:RowOk F (γ tok) w E e m xs:=hI.blk tok _ hS
 have hHas:∀ t,Has (upd S tok (.row E e .frz xs)) t->Has S t:=by
  rintro t ⟨x,hx⟩
  rw[look_upd] at hx
  split at hx
  ·rename_i e;subst e;exact⟨_,hS⟩
  ·exact⟨x,hx⟩
 refine⟨F.add fun b=>(γ tok).blk=some b,⟨rfl,rfl,rfl,Nat.le_refl _,fun _ _ _=>rfl,fun _ _=>rfl,FK.Le.add F _,fun b h=>?_,fun b hb=>.inl ?_,fun _ _=>rfl,?_,fun _=>rfl⟩,FK.Le.add F _,fun b h=>.inr h,rfl⟩
 ·rcases h with h | h
  ·exact .inl h
  ·exact .inr (.inl (.tok ⟨_,hS⟩ h))
 ·rcases hb with ⟨t,ht,hb⟩ | ⟨j,hb⟩
  ·exact .inl ⟨t,hHas t ht,hb⟩
  ·exact .inr ⟨j,hb.upd rfl rfl⟩
 ·have hl:Lasts F (F.add fun b=>(γ tok).blk=some b) w w:=⟨FK.Le.add F _,fun _ _=>rfl⟩
  refine⟨fun t b hb=>?_,fun t t' b ht ht'=>hI.inj t t' b (hHas t ht) (hHas t' ht'),⟨fun b hb=>?_,hI.fz.gnd.mono (fun _ h=>.inl h) (fun _ _=>rfl)⟩,HpInv.upd (F':=F.add _) hI.hp rfl (y:=.row E e .frz xs) rfl ⟨_,hS⟩⟩
  ·rw[look_upd] at hb
   split at hb
   ·rename_i et
    subst et
    injection hb with hb
    subst hb
    obtain⟨h1,h2,h3⟩:=hrow
    refine⟨h1,h2,?_⟩
    rcases h3 with h3 | ⟨b,cur,fz,flat,g1,g2,g3,g4,g5,g6,g7,g8⟩
    ·exact .inl h3
    ·exact .inr ⟨b,cur,fz,flat,g1,g2,g3,g4,g5,g6,g7.lasts hl,.inr g1⟩
   ·rename_i hne
    have hS':=hI.blk t b hb
    refine hS'.lasts hl rfl (fun _ _=>rfl) (fun c hc=>⟨rfl,fun hF=>?_⟩) fun _=>⟨rfl,fun j c hc=>⟨rfl,fun hF=>?_⟩⟩
    ·rcases hF with hF | hF
     ·exact hF
     ·exact absurd (hI.inj t tok c ⟨b,hb⟩ ⟨_,hS⟩ hc hF) (fun e=>hne e.symm)
    ·rcases hF with hF | hF
     ·exact hF
     ·exact absurd hF (hI.hp.sep j c tok ⟨t,b,hb,hc⟩ ⟨_,hS⟩)
  ·rcases hb with hb | hb
   ·exact hI.fz b hb
   ·exact hI.mine_lt (.tok ⟨_,hS⟩ hb)
theorem upd_same {S:Store}{t:Nat}{x:Blk}(h:look S t=some x):upd S t x=S:=by
 induction S with
 | nil=>simp[look] at h
 | cons p l ih =>
  unfold look at h
  unfold upd
  cases hp:Nat.beq p.1 t with
  | true =>
   rw[hp] at h
   simp only[cond_true,Option.some.injEq] at h ⊢
   have:=(beq_iff _ _).1 hp
   rw[← this,← h]
  | false =>
   rw[hp] at h
   simp only[cond_false] at h ⊢
   rw[ih h]
theorem kid_reads {γ:Nat->G}{F:FK}{S:Store}{w:World}(hI:Inv F γ S w){e:Ty}{t E:Nat}{H:List (Kid e.den)}(h:heapOf e S=some (t,E,H)){id:Nat}(hal:kalive H id=true){v:Value}(hv:F.kidv id v):Reads F w e (kget H id) v:=by
 have hok:BlkOk F γ w t (.heap E e H):=hI.blk t _ (heapOf_look h)
 cases id with
 | zero=>
  have hv':v=.slice none 0 0:=hv
  exact⟨none,0,0,hv',rfl,Nat.le_refl _,fun h=>by omega⟩
 | succ j =>
  obtain⟨s,hs,rfl⟩:=hv
  unfold kget
  unfold kalive at hal
  simp only[kidAt] at hal ⊢
  cases hj:H[j]? with
  | none=>rw[hj] at hal;cases hal
  | some k =>
   rw[hj] at hal
   have hk:=hok.2.2 j k hj
   cases k with
   | dead=>cases hal
   | ro xs =>
    obtain⟨s',h1,h2⟩:=hk
    rw[hs] at h1
    injection h1 with h1
    subst h1
    exact h2.reads
   | own xs c =>
    obtain⟨g,h1,h2,_⟩:=hk
    rw[hs] at h1
    injection h1 with h1
    subst h1
    rw[G.sl_val]
    exact h2.reads
theorem getElem?_cut {α:Type}(xs:List α)(l h i:Nat)(hi:i<h - l):((xs.take h).drop l)[i]?=xs[l+i]?:=by
 rw[List.getElem?_drop,List.getElem?_take,if_pos (by omega)]
theorem RoSl.cut {F:FK}{w:World}{e:Ty}{xs:List e.den}{b o n cap:Nat}{A:Option Addr}(l h:Nat)(hlh:l<=h)(hh:h<=xs.length)(hn:xs.length=n)(hc:n<=cap)(hF:0<n->A=some ⟨b,o,none⟩∧F b)
  (hx:∀ i x,xs[i]?=some x->∃ m,RepD F w e x m∧m.length=e.size∧∀ j u,m[j]?=some u->w.cell? ⟨b,o+(i*e.size+j),none⟩=some u) :
  RoSl F w (RepD F w e) e.size ((xs.take h).drop l) (.slice (if cap=l then A else A.map (·.add (l*e.size))) (h - l) (cap - l)):=by
 refine⟨_,_,_,rfl,by simp;omega,by omega,fun h0=>?_⟩
 obtain⟨hA,hFb⟩:=hF (by omega)
 subst hA
 rw[if_neg (by omega)]
 refine⟨⟨b,o+l*e.size,none⟩,by simp[addr_add],rfl,hFb,fun i x hi=>?_⟩
 have hil:i<h - l:=by
  have:=(List.getElem?_eq_some_iff.1 hi).1
  simp at this
  omega
 rw[getElem?_cut xs l h i hil] at hi
 obtain⟨m,h1,h2,h3⟩:=hx _ _ hi
 refine⟨m,h1,h2,fun j u hu=>?_⟩
 have:=h3 j u hu
 rw[Nat.add_mul] at this
 have e1:o+l*e.size+(i*e.size+j)=o+(l*e.size+i*e.size+j):=by omega
 simp only
 rw[e1]
 exact this
theorem run_slice_slC {w:World}{t E:Nat}{i:TypeInfo}(hu:P.underlying t=some (.slice E))(hi:P.info? E=some i){A:Option Addr}{n cap:Nat}{l h:Int}{lo hi':Option Value}(hlo:(lo=none∧l=0)∨∃ k,lo=some (.int k l))(hhi:(hi'=none∧h=n)∨∃ k,hi'=some (.int k h))
  (h0:0<=l) (h1:l<=h) (h2:h<=cap) :
  (Instr.sliceAt t (.slice A n cap) lo hi' none).run P w=.ok (.slice (if cap=l.toNat then A else A.map (·.add (l.toNat*i.size))) (h.toNat - l.toNat) (cap - l.toNat)) w:=by
 simp[Instr.sliceAt,Instr.slice,run_underlying hu,run_sliceBoundsC hlo hhi h0 h1 h2,Go.sizeOf,typeInfo,hi]
theorem run_slice_sl {w:World}{t E:Nat}{i:TypeInfo}(hu:P.underlying t=some (.slice E))(hi:P.info? E=some i){A:Option Addr}{n cap:Nat}{l h:Int}{lo hi':Option Value}(hlo:(lo=none∧l=0)∨∃ k,lo=some (.int k l))(hhi:(hi'=none∧h=n)∨∃ k,hi'=some (.int k h))
  (h0:0<=l) (h1:l<=h) (h2:h<=n) (hc:n<=cap) :
  (Instr.sliceAt t (.slice A n cap) lo hi' none).run P w=.ok (.slice (if cap=l.toNat then A else A.map (·.add (l.toNat*i.size))) (h.toNat - l.toNat) (cap - l.toNat)) w:=run_slice_slC hu hi hlo hhi h0 h1 (by omega)
theorem kcap_le {γ:Nat->G}{F:FK}{S:Store}{w:World}(hI:Inv F γ S w){e:Ty}{t E:Nat}{H:List (Kid e.den)}(hS:look S t=some (.heap E e H)){id:Nat}(hal:kalive H id=true){s:SlV}(hs:F.ks id=some s):kcap H id<=s.cap∧s.n=(kget H id).length:=by
 obtain⟨-,-,hok⟩:=hI.blk t _ hS
 cases id with
 | zero =>
  injection hs with hs
  subst hs
  exact⟨Nat.le_refl 0,rfl⟩
 | succ j =>
  have hs:F.kid j=some s:=hs
  unfold kalive at hal
  unfold kcap kget kroom
  simp only[kidAt] at hal ⊢
  cases hj:H[j]? with
  | none=>rw[hj] at hal;cases hal
  | some k =>
   rw[hj] at hal
   have hk:=hok j k hj
   cases k with
   | dead=>cases hal
   | ro xs =>
    obtain⟨s',h1,A,n,cap,h2,h3,h4,-⟩:=hk
    rw[hs] at h1
    injection h1 with h1
    subst h1
    unfold SlV.val at h2
    injection h2 with e1 e2 e3
    exact⟨by simp only;omega,by simp only;omega⟩
   | own xs c =>
    obtain⟨g,h1,⟨a1,a2,a3⟩,h4,h5⟩:=hk
    rw[hs] at h1
    injection h1 with h1
    subst h1
    refine⟨by simp only;omega,?_⟩
    rcases a3 with ⟨a3,a4,a4n⟩ | ⟨b,cur,fz,flat,a3,-⟩
    ·rw[G.sl_none a3,a4];rfl
    ·rw[G.sl_at a3];exact a1
theorem sem_slice (hΓ:tabIs P Γ=true)(t:TypeId)(x:Operand)(lo hi:Option Operand)(ax:AV)(al ah:Option AV)(args:List AV)
  (hargs:∀ γ F w (a:Act),All2 (fun x av=>RepA γ F w av (a.eval x)) (Op.slice t x lo hi none).operands.toList args->RepA γ F w ax (a.eval x)∧OptRep γ F w a lo al∧OptRep γ F w a hi ah) :
  ResSem (OpSem P ⟨dst,.slice t x lo hi none,ty,pos,aft,gd⟩ args fr S) (sliceA Γ t ax al ah S):=by
 unfold sliceA
 split
 ·rename_i sz by_ ag z eq s hr
  obtain⟨d,i,ok⟩:=trOf_ok hΓ hr
  have hd:=descIs_str ok.desc rfl
  have hund:P.underlying t=some .string:=by rw[ok.und,hd]
  split
  ·rename_i l h hl hh
   intro hc
   simp only[sliceBds,Bool.and_eq_true,decide_eq_true_eq] at hc
   refine OpSem.pure fun γ F w a hI hA=>?_
   obtain⟨h1,h2,h3⟩:=hargs γ F w a hA
   have hx:a.eval x=.string s:=h1
   have hb:=run_sliceBounds (P:=P) (w:=w) (isS:=false) (len:=s.size) (cap:=s.size) (intA_ok hl h2) (intA_ok hh h3) hc.1 hc.2.1 hc.2.2 (Nat.le_refl _)
   exact⟨.string (s.extract l.toNat h.toNat),by simp[execOp,Instr.sliceAt,Instr.slice,hx,run_underlying hund,hb],rfl⟩
  ·trivial
 ·rename_i E te sz by_ ag z eq e xs hr
  obtain⟨d,i,ok⟩:=trOf_ok hΓ hr
  obtain⟨hd,ei,hei,hsz,_⟩:=descIs_slice ok.desc rfl
  have hund:P.underlying t=some (.slice E):=by rw[ok.und,hd]
  split
  ·rename_i l h hl hh hte
   have hte':e.size=te.size:=(beq_iff _ _).1 hte
   intro hc
   simp only[sliceBds,Bool.and_eq_true,decide_eq_true_eq] at hc
   refine OpSem.pure fun γ F w a hI hA=>?_
   obtain⟨h1,h2,h3⟩:=hargs γ F w a hA
   obtain⟨A,n,cap,hv,hn,hcap,hcell⟩:=h1
   have hb:=run_slice_sl (P:=P) (w:=w) hund hei (A:=A) (intA_ok hl h2) (hn ▸ intA_ok hh h3) hc.1 hc.2.1 (by omega) hcap
   refine⟨_,by simp only[execOp,hv,Option.map_none];rw[Sem.run_bind,hb];rfl,?_⟩
   rw[hsz,← hte']
   by_cases hn0:0<n
   ·obtain⟨ad,hA,hs,hF,hcl⟩:=hcell hn0
    obtain⟨b,o,sp⟩:=ad
    simp only at hs
    subst hs
    exact RoSl.cut l.toNat h.toNat (by omega) (by omega) hn hcap (fun _=>⟨hA,hF⟩) hcl
   ·refine RoSl.cut (b:=0) (o:=0) l.toNat h.toNat (by omega) (by omega) hn hcap (fun h=>absurd h hn0) fun i x hx=>?_
    have:xs=[]:=List.eq_nil_of_length_eq_zero (by omega)
    subst this
    simp at hx
  ·trivial
 ·rename_i E te sz by_ ag z eq tok hr
  obtain⟨d,i,ok⟩:=trOf_ok hΓ hr
  obtain⟨hd,ei,hei,hsz,_⟩:=descIs_slice ok.desc rfl
  have hund:P.underlying t=some (.slice E):=by rw[ok.und,hd]
  split
  ·rename_i E' e m xs hS
   split
   ·rename_i l h hl hh hte
    have hte':e.size=te.size:=(beq_iff _ _).1 hte
    intro hc
    simp only[sliceBds,Bool.and_eq_true,decide_eq_true_eq] at hc
    intro γ F w a hI hlt _ hA next Q hnext
    obtain⟨h1,h2,h3⟩:=hargs γ F w a hA
    have hrow:RowOk F (γ tok) w E' e m xs:=hI.blk tok _ hS
    obtain⟨A,n,cap,hv,hn,hcap,hcell⟩:=hrow.reads
    have hx:a.eval x=.slice A n cap:=by rw[← hv];exact h1
    have hb:=run_slice_sl (P:=P) (w:=w) hund hei (A:=A) (intA_ok hl h2) (hn ▸ intA_ok hh h3) hc.1 hc.2.1 (by omega) hcap
    obtain⟨F',hp,hsub,hF',_⟩:=Post.freeze (fr:=fr) hI hS
    refine wp_of_value (w':=w) (by simp only[execOp,hx,Option.map_none];rw[Sem.run_bind,hb];rfl) (hnext _ γ F' w hp ?_)
    rw[hsz,← hte']
    by_cases hn0:0<n
    ·obtain⟨g1,g2,⟨g3,g4,g4n⟩ | ⟨b,cur,fz,flat,g3,g4,g5,g6,g7,g8,g9,g10⟩⟩:=hrow
     ·subst g4;simp at hn;omega
     ·have hgv:(γ tok).val=.slice (some ⟨b,0,none⟩) (γ tok).len (γ tok).cap:=by simp[G.val,g3]
      rw[hgv] at hv
      injection hv with hA hn' hc'
      refine RoSl.cut (b:=b) (o:=0) l.toNat h.toNat (by omega) (by omega) hn hcap (fun _=>⟨hA.symm,hF' b g3⟩) fun i x hx=>?_
      obtain⟨m',hm,hmc⟩:=row_elem (hI.blk tok _ hS) g3 hx
      exact⟨m',hm.lasts hp.lasts,hm.length,fun j u hu=>by rw[Nat.zero_add];exact hmc j u hu⟩
    ·refine RoSl.cut (b:=0) (o:=0) l.toNat h.toNat (by omega) (by omega) hn hcap (fun h=>absurd h hn0) fun i x hx=>?_
     have:xs=[]:=List.eq_nil_of_length_eq_zero (by omega)
     subst this
     simp at hx
   ·trivial
  ·trivial
 ·rename_i E te sz by_ ag z eq e id hr
  obtain⟨d,i,ok⟩:=trOf_ok hΓ hr
  obtain⟨hd,ei,hei,hsz,_⟩:=descIs_slice ok.desc rfl
  have hund:P.underlying t=some (.slice E):=by rw[ok.und,hd]
  split
  ·rename_i tok E' H hH
   split
   ·rename_i l h hl hh hte
    have hte0:e.size=te.size:=(beq_iff _ _).1 hte
    intro hc
    simp only[sliceBds,Bool.and_eq_true,decide_eq_true_eq] at hc
    obtain⟨hal,hc⟩:=hc
    refine OpSem.pure fun γ F w a hI hA=>?_
    obtain⟨h1,h2,h3⟩:=hargs γ F w a hA
    obtain⟨s,hs,hv⟩:=FK.kidv_ks h1
    obtain⟨hcp,hsn⟩:=kcap_le hI (heapOf_look hH) hal hs
    have hb:=run_slice_slC (P:=P) (w:=w) hund hei (A:=s.A) (n:=s.n) (cap:=s.cap) (intA_ok hl h2) (hsn ▸ intA_ok hh h3) hc.1 hc.2.1 (by omega)
    refine⟨_,by simp only[execOp,hv,SlV.val,Option.map_none];rw[Sem.run_bind,hb];rfl,s,hs,hc.1,hc.2.1,by omega,?_⟩
    rw[hsz,← hte0]
   ·trivial
  ·trivial
 ·trivial
theorem sem_slice4 (hΓ:tabIs P Γ=true)(t:TypeId)(x l h m:Operand)(ax al ah am:AV):ResSem (OpSem P ⟨dst,.slice t x (some l) (some h) (some m),ty,pos,aft,gd⟩ [ax,al,ah,am] fr S) (slice4A Γ t ax al ah am S):=by
 unfold slice4A
 split
 ·rename_i E te sz by_ ag z eq e id k1 lv k2 hv k3 mv hr
  obtain⟨d,i,ok⟩:=trOf_ok hΓ hr
  obtain⟨hd,ei,hei,hsz,_⟩:=descIs_slice ok.desc rfl
  have hund:P.underlying t=some (.slice E):=by rw[ok.und,hd]
  split
  ·rename_i tok E' H hH
   intro hc
   simp only[Bool.and_eq_true,decide_eq_true_eq] at hc
   obtain⟨hal,⟨h0,h1⟩,h2,h3⟩:=hc
   refine OpSem.pure fun γ F w a hI hA=>?_
   obtain⟨s,hs,hv1⟩:=FK.kidv_ks hA.1
   obtain⟨hcp,hsn⟩:=kcap_le hI (heapOf_look hH) hal hs
   have hx:a.eval x=.slice s.A s.n s.cap:=hv1
   have hl:a.eval l=.int k1 lv:=hA.2.1
   have hh:a.eval h=.int k2 hv:=hA.2.2.1
   have hm:a.eval m=.int k3 mv:=hA.2.2.2.1
   have c1:0<=mv∧mv<=(s.cap:Int):=⟨by omega,by omega⟩
   have c2:0<=hv∧hv<=mv:=⟨by omega,by omega⟩
   have c3:0<=lv∧lv<=hv:=⟨by omega,by omega⟩
   have c4:max mv 0=mv:=by omega
   have c5:max hv 0=hv:=by omega
   refine⟨_,by simp[execOp,Instr.sliceAt,Instr.slice,hx,hl,hh,hm,run_underlying hund,Instr.sliceBounds,Instr.sliceBound,asIntOf,Go.sizeOf,typeInfo,hei,c1,c2,c3,c4,c5];rfl,trivial⟩
  ·trivial
 ·trivial
theorem sem_slice3 (hΓ:tabIs P Γ=true)(t:TypeId)(x h m:Operand)(ax ah am:AV):ResSem (OpSem P ⟨dst,.slice t x none (some h) (some m),ty,pos,aft,gd⟩ [ax,ah,am] fr S) (slice3A Γ t ax ah am S):=by
 unfold slice3A
 split
 ·rename_i E te sz by_ ag z eq k1 hv k2 mv hr
  obtain⟨d,i,ok⟩:=trOf_ok hΓ hr
  obtain⟨hd,ei,hei,hsz,_⟩:=descIs_slice ok.desc rfl
  have hund:P.underlying t=some (.slice E):=by rw[ok.und,hd]
  cases hc:decide (hv=0)&&decide (mv=0) with
  | false=>trivial
  | true =>
   simp only[cond_true]
   simp only[Bool.and_eq_true,decide_eq_true_eq] at hc
   obtain⟨rfl,rfl⟩:=hc
   have run:∀ (γ:Nat->G) (F:FK) (w:World) (a:Act),All2 (fun x av=>RepA γ F w av (a.eval x)) (Op.slice t x none (some h) (some m)).operands.toList [ax,one (.int k1 0),one (.int k2 0)] ->
     (∃ A n cap,a.eval x=.slice A n cap)->∃ u,(execOp a.eval ⟨dst,.slice t x none (some h) (some m),ty,pos,aft,gd⟩).run P w=.ok (.value u) w∧RepA γ F w (one .emp0) u:=by
    rintro γ F w a hA ⟨A,n,cap,hx⟩
    have hh:a.eval h=.int k1 0:=hA.2.1
    have hm:a.eval m=.int k2 0:=hA.2.2.1
    refine⟨.slice A 0 0,?_,A,rfl⟩
    simp[execOp,Instr.sliceAt,Instr.slice,hx,hh,hm,run_underlying hund,Instr.sliceBounds,Instr.sliceBound,asIntOf,Go.sizeOf,typeInfo,hei]
   split
   ·exact OpSem.pure fun γ F w a hI hA=>run γ F w a hA ⟨none,0,0,hA.1⟩
   ·exact OpSem.pure fun γ F w a hI hA=>run γ F w a hA (by obtain⟨A,hA⟩:=hA.1;exact⟨A,0,0,hA⟩)
   ·exact OpSem.pure fun γ F w a hI hA=>run γ F w a hA (by obtain⟨A,n,cap,hv,_⟩:=hA.1;exact⟨A,n,cap,hv⟩)
   ·rename_i tok
    split
    ·rename_i E' e' m' xs hS
     refine OpSem.pure fun γ F w a hI hA=>run γ F w a hA ?_
     obtain⟨A,n,cap,h1,_⟩:=RowOk.reads (hI.blk tok _ hS)
     exact⟨A,n,cap,(show a.eval x=(γ tok).val from hA.1).trans h1⟩
    ·trivial
   ·trivial
 ·trivial
theorem run_call_builtin {a:Act}{w w':World}{b:Builtin}{xs:Array Operand}{ts:Array TypeId}{u:Value}(f:Sem Value)(hb:∀ cs,builtin b ts ty cs (xs.map a.eval)=(do pure (Next.value (← f))))
  (h:f.run P w=.ok u w'):(execOp a.eval ⟨dst,.call { callee:=.builtin b,args:=xs,argTypes:=ts },ty,pos,aft,gd⟩).run P w=.ok (.value u) w':=by
 simp only[execOp,resolve,Sem.run_bind,Sem.run_pure,Result.andThen_ok,invoke]
 rw[hb]
 simp[h]
theorem all2_args {γ:Nat->G}{F:FK}{w:World}{a:Act}:∀ {xs:List Operand} {args:List AV},All2 (fun x av=>RepA γ F w av (a.eval x)) xs args->All2 (RepA γ F w) args (xs.map a.eval)
 | [],[],_=>trivial
 | _::_,_::_,h=>⟨h.1,all2_args h.2⟩
 | [],_::_,h=>h.elim
 | _::_,[],h=>h.elim
theorem sem_len (hΓ:tabIs P Γ=true)(xs:Array Operand)(ts:Array TypeId)(ax:AV):ResSem (OpSem P ⟨dst,.call { callee:=.builtin .len,args:=xs,argTypes:=ts },ty,pos,aft,gd⟩ [ax] fr S) (lenA Γ ts.toList ax S):=by
 have hops:((Op.call { callee:=.builtin .len,args:=xs,argTypes:=ts }).operands).toList=xs.toList:=by simp[Op.operands,Call.operands]
 have fin:∀ (γ:Nat->G) (F:FK) (w:World) (a:Act),All2 (fun x av=>RepA γ F w av (a.eval x)) ((Op.call { callee:=.builtin .len,args:=xs,argTypes:=ts }).operands).toList [ax] ->
   ∃ v,xs.map a.eval=#[v]∧RepA γ F w ax v:=by
  intro γ F w a hA
  rw[hops] at hA
  obtain⟨v,hv,hr⟩:=all2_one (all2_args hA)
  exact⟨v,by apply Array.ext';simpa using hv,hr⟩
 unfold lenA
 cases hts:ts.toList with
 | nil=>trivial
 | cons t tl =>
  have hts0:ts[0]?=some t:=by rw[← Array.getElem?_toList,hts];rfl
  simp only
  cases hr:trOf Γ t with
  | none=>trivial
  | some r =>
   obtain⟨d,i,ok⟩:=trOf_ok hΓ hr
   obtain⟨ow,rd,sz,by_,ag,z,eq⟩:=r
   cases rd<;>try trivial
   ·have hd:=descIs_str ok.desc rfl
    have hund:P.underlying t=some .string:=by rw[ok.und,hd]
    simp only
    split
    ·rename_i s
     refine OpSem.pure fun γ F w a hI hA=>?_
     obtain⟨v,hxs,hv⟩:=fin γ F w a hA
     have hv':v=.string s:=hv
     subst hv'
     refine⟨.int .i64 s.size,run_call_builtin (Builtin.len_ ts ty (xs.map a.eval)) (fun _=>rfl) ?_,rfl⟩
     rw[hxs]
     simp[Builtin.len_,hts0,run_underlying hund,goInt]
    ·trivial
   ·rename_i E te
    obtain⟨hd,ei,hei,hsz,_⟩:=descIs_slice ok.desc rfl
    have hund:P.underlying t=some (.slice E):=by rw[ok.und,hd]
    have rd:∀ (n:Nat),(∀ γ F w v,Inv F γ S w->RepA γ F w ax v->∃ A cap,v=.slice A n cap)->OpSem P ⟨dst,.call { callee:=.builtin .len,args:=xs,argTypes:=ts },ty,pos,aft,gd⟩ [ax] fr S (one (.int .i64 (n:Int))) S:=by
     intro n hn
     refine OpSem.pure fun γ F w a hI hA=>?_
     obtain⟨v,hxs,hv⟩:=fin γ F w a hA
     obtain⟨A,cap,rfl⟩:=hn γ F w v hI hv
     refine⟨.int .i64 n,run_call_builtin (Builtin.len_ ts ty (xs.map a.eval)) (fun _=>rfl) ?_,rfl⟩
     rw[hxs]
     simp[Builtin.len_,hts0,run_underlying hund,goInt]
    simp only
    split
    ·exact rd 0 fun γ F w v hI hv=>⟨none,0,hv⟩
    ·exact rd 0 fun γ F w v hI hv=>(by obtain⟨A,hA⟩:=hv;exact⟨A,0,hA⟩)
    ·split
     ·rename_i hH
      intro hal
      refine rd _ fun γ F w v hI hv=>?_
      obtain⟨A,n,cap,h1,h2,_⟩:=kid_reads hI hH hal hv
      exact⟨A,cap,by rw[h1,h2]⟩
     ·trivial
    ·rename_i e1 id1 lo hi
     refine OpSem.pure fun γ F w a hI hA=>?_
     obtain⟨v,hxs,hv⟩:=fin γ F w a hA
     obtain⟨s,hs,g1,g2,g3,rfl⟩:=hv
     refine⟨.int .i64 ((hi.toNat - lo.toNat:Nat):Int),run_call_builtin (Builtin.len_ ts ty (xs.map a.eval)) (fun _=>rfl) ?_,?_⟩
     ·rw[hxs]
      simp[Builtin.len_,hts0,run_underlying hund,goInt]
     ·show Value.int _ _=Value.int _ _
      congr 1
      omega
    ·split
     ·rename_i q hq
      refine rd q.xs.length fun γ F w v hI hv=>?_
      obtain⟨A,n,cap,h1,h2,_⟩:=seqOf_reads hI hq hv
      exact⟨A,cap,by rw[h1,h2]⟩
     ·trivial
   ·rename_i n e
    have hd:=descIs_array ok.desc rfl
    have hund:P.underlying t=some (.array n e):=by rw[ok.und,hd]
    refine OpSem.pure fun γ F w a hI hA=>?_
    obtain⟨v,hxs,hv⟩:=fin γ F w a hA
    refine⟨.int .i64 n,run_call_builtin (Builtin.len_ ts ty (xs.map a.eval)) (fun _=>rfl) ?_,rfl⟩
    rw[hxs]
    simp[Builtin.len_,hts0,run_underlying hund,goInt]
theorem foldI_run {γ:Nat->G}{F:FK}{w:World}{g:Int->Int->Int}{m2:Value->Value->Sem Value}(hm:∀ k x y (w:World),(m2 (.int k x) (.int k y)).run P w=.ok (.int k (g x y)) w){k:IntKind}:∀ {l:List AV} {vs:List Value} {x z:Int},foldI g k x l=some z->All2 (RepA γ F w) l vs ->
  (vs.foldlM m2 (.int k x)).run P w=.ok (.int k z) w
 | [],[],x,z,h,_=>by simp only[foldI,Option.some.injEq] at h;subst h;simp
 | y::l,v::vs,x,z,h,hr=>by
  unfold foldI at h
  split at h
  ·rename_i e;cases e
  ·rename_i x' k' n l' e
   injection e with e1 e2
   subst e1 e2
   split at h
   ·rename_i hk
    subst hk
    have hv:v=.int k n:=hr.1
    subst hv
    simp only[List.foldlM_cons,Sem.run_bind,hm,Result.andThen_ok]
    exact foldI_run hm h hr.2
   ·cases h
  ·cases h
 | [],_::_,_,_,_,h=>h.elim
 | _::_,[],_,_,_,h=>h.elim
theorem sem_maxmin (xs:Array Operand)(ts:Array TypeId)(k:IntKind)(x:Int)(l:List AV)(b:Builtin)(g:Int->Int->Int)(hbg:b=.max∧g=mxI∨b=.min∧g=mnI)(z:Int)(hz:foldI g k x l=some z) :
  OpSem P ⟨dst,.call { callee:=.builtin b,args:=xs,argTypes:=ts },ty,pos,aft,gd⟩ (one (.int k x)::l) fr S (one (.int k z)) S:=by
 have hops:((Op.call { callee:=.builtin b,args:=xs,argTypes:=ts }).operands).toList=xs.toList:=by simp[Op.operands,Call.operands]
 refine OpSem.pure fun γ F w a hI hA=>⟨.int k z,?_,rfl⟩
 simp only[hops] at hA
 have hA':=all2_args hA
 match hvs:xs.toList.map a.eval,hA' with
 | v::vs,hA' =>
  have hv:v=.int k x:=hA'.1
  subst hv
  have htl:(xs.map a.eval).toList=.int k x::vs:=by simpa using hvs
  rcases hbg with ⟨rfl,rfl⟩ | ⟨rfl,rfl⟩
  ·refine run_call_builtin (Builtin.max_ ts ty (xs.map a.eval)) (fun _=>rfl) ?_
   unfold Builtin.max_
   rw[htl]
   exact foldI_run (fun k x y w=>by simp[Builtin.max2,mxI]) hz hA'.2
  ·refine run_call_builtin (Builtin.min_ ts ty (xs.map a.eval)) (fun _=>rfl) ?_
   unfold Builtin.min_
   rw[htl]
   exact foldI_run (fun k x y w=>by simp[Builtin.min2,mnI]) hz hA'.2
end
end Go.Ab
namespace Go.Ab
def setG (γ:Nat->G)(t:Nat)(g:G):Nat->G:=fun u=>if u=t then g else γ u
theorem setG_self (γ:Nat->G)(t:Nat)(g:G):setG γ t g t=g:=by simp[setG]
theorem setG_ne (γ:Nat->G){t u:Nat}(g:G)(h:u≠t):setG γ t g u=γ u:=by simp[setG,h]
theorem one_of_RepC {γ:Nat->G}{F:FK}{w:World}{c:C}{v:Value}(h:RepC γ F w c v)(hl:c.live=true):v.oneCell'=true:=by
 cases c with
 | int k n=>simp only[RepC] at h;subst h;rfl
 | bool b=>simp only[RepC] at h;subst h;rfl
 | str s=>simp only[RepC] at h;subst h;rfl
 | ro e xs=>obtain⟨A,n,cap,rfl,_⟩:=h;rfl
 | emp=>simp only[RepC] at h;subst h;rfl
 | own t=>simp only[RepC] at h;subst h;unfold G.val;split<;>rfl
 | ptr t off=>obtain⟨b,_,rfl⟩:=h;rfl
 | eptr t i fo=>obtain⟨b,_,_,_,rfl⟩:=h;rfl
 | aptr t off n i=>obtain⟨b,_,_,_,rfl⟩:=h;rfl
 | rptr e x fo=>obtain⟨a,l,_,_,_,rfl⟩:=h;rfl
 | fn f caps=>obtain⟨bs,rfl,_⟩:=h;rfl
 | nil k=>simp only[RepC] at h;subst h;cases k<;>rfl
 | ref e id=>obtain⟨A,n,c,rfl⟩:=FK.kidv_slice h;rfl
 | hptr e id i fo=>obtain⟨j,b,o,s,_,_,_,_,_,rfl⟩:=h;rfl
 | hview e id lo hi=>obtain⟨s,_,_,_,_,rfl⟩:=h;rfl
 | view t lo hi=>obtain⟨_,_,_,rfl⟩:=h;rfl
 | optr t i=>rcases h with ⟨_,rfl⟩ | ⟨b,_,_,_,rfl⟩<;>rfl
 | mref t=>obtain⟨b,_,rfl⟩:=h;rfl
 | kids e H=>cases hl
 | emp0=>obtain⟨A,rfl⟩:=h;rfl
 | dead=>cases hl
theorem ones_of_RepC {γ:Nat->G}{F:FK}{w:World}:∀ {cs:List C} {vs:List Value},All2 (RepC γ F w) cs vs->cs.all C.live=true->∀ v∈vs,v.oneCell'=true
 | [],[],_,_,v,h=>by simp at h
 | c::cs,u::vs,hr,hl,v,h=>by
  simp only[List.all_cons,Bool.and_eq_true] at hl
  rcases List.mem_cons.1 h with rfl | h
  ·exact one_of_RepC hr.1 hl.1
  ·exact ones_of_RepC hr.2 hl.2 v h
 | [],_::_,h,_,_,_=>h.elim
 | _::_,[],h,_,_,_=>h.elim
theorem RepD.ones {F:FK}{w:World}:∀ {t:Ty} {x:t.den} {l:List Value},RepD F w t x l->∀ v∈l,v.oneCell'=true
 | .int _,_,_,h,v,hv=>by simp only[RepD] at h;subst h;simp at hv;subst hv;rfl
 | .bool,_,_,h,v,hv=>by simp only[RepD] at h;subst h;simp at hv;subst hv;rfl
 | .str,_,_,h,v,hv=>by simp only[RepD] at h;subst h;simp at hv;subst hv;rfl
 | .pair a b,_,_,h,v,hv=>by
  simp only[RepD] at h
  obtain⟨l1,l2,rfl,h1,h2⟩:=h
  rcases List.mem_append.1 hv with hv | hv
  ·exact RepD.ones h1 v hv
  ·exact RepD.ones h2 v hv
 | .slice e,_,_,h,v,hv=>by
  simp only[RepD] at h
  obtain⟨u,rfl,A,n,cap,rfl,_⟩:=h
  simp at hv;subst hv;rfl
 | .ref e,_,_,h,v,hv=>by
  simp only[RepD] at h
  obtain⟨u,rfl,h⟩:=h
  obtain⟨A,n,c,rfl⟩:=FK.kidv_slice h
  simp at hv;subst hv;rfl
theorem Flat.ones {F:FK}{w:World}{e:Ty}:∀ {xs:List e.den} {l:List Value},Flat F w e xs l->∀ v∈l,v.oneCell'=true
 | [],_,h,v,hv=>by simp only[Flat] at h;subst h;simp at hv
 | _::_,_,h,v,hv=>by
  simp only[Flat] at h
  obtain⟨l1,l2,rfl,h1,h2⟩:=h
  rcases List.mem_append.1 hv with hv | hv
  ·exact h1.ones v hv
  ·exact Flat.ones h2 v hv
structure NewBlk (w w':World)(o:Obj):Prop where
 os:w'.os=w.os
 tape:w'.tape=w.tape
 output:w'.output=w.output
 size:w'.heap.size=w.heap.size+1
 old:∀ {b:Nat},b<w.heap.size->w'.heap[b]?=w.heap[b]?
 new:w'.heap[w.heap.size]?=some o
theorem NewBlk.alloc (w:World)(o:Obj):NewBlk w (w.alloc o) o :=
 ⟨rfl,rfl,rfl,by simp,fun {b} hb=>heap_alloc_old w o b hb,heap_alloc_new w o⟩
section
variable {P:Program} {dst:Option Tmp} {ty:TypeId} {pos:String} {aft:Array Edge} {gd:Option (Nat×Bool)} {fr:Nat} {S:Store} {Γ:Tab}
theorem Inv.lasts_new {γ:Nat->G}{F:FK}{w w':World}{o:Obj}(hI:Inv F γ S w)(h:NewBlk w w' o):Lasts F F w w':=⟨FK.Le.refl F,fun b hb=>h.old (hI.fz b hb)⟩
theorem HpInv.new {γ:Nat->G}{F:FK}{S:Store}{x:Blk}{g:G}{fr:Nat}(h:HpInv F γ S)(hlt:StoLt fr S)(hx:x.isHeap=false)(hg:∀ j b,KidO F S j b->g.blk≠some b) :
  HpInv F (setG γ fr g) (S++[(fr,x)]):=by
 have hnew:∀ t b,look (S++[(fr,x)]) t=some b->(look S t=some b∧t<fr)∨(t=fr∧b=x):=by
  intro t b hb
  rw[look_append] at hb
  cases hS:look S t with
  | some c=>rw[hS] at hb;injection hb with hb;subst hb;exact .inl ⟨rfl,(hlt t _ hS).1⟩
  | none =>
   rw[hS] at hb
   simp only[look] at hb
   by_cases e:fr=t
   ·subst e
    rw[beq_yes] at hb
    injection hb with hb
    exact .inr ⟨rfl,hb.symm⟩
   ·rw[beq_no e] at hb;cases hb
 have hko:∀ j b,KidO F (S++[(fr,x)]) j b->KidO F S j b:=by
  rintro j b ⟨t,y,hy,hj⟩
  rcases hnew t y hy with ⟨h1,_⟩ | ⟨rfl,rfl⟩
  ·exact⟨t,y,h1,hj⟩
  ·rw[kids_isHeap hj] at hx;cases hx
 refine⟨fun t t' y y' h1 h2 h3 h4=>?_,fun j j' b h1 h2=>h.kid j j' b (hko j b h1) (hko j' b h2),fun j b t h1 ⟨y,hy⟩ hb=>?_⟩
 ·rcases hnew t y h1 with ⟨a1,_⟩ | ⟨rfl,rfl⟩
  ·rcases hnew t' y' h2 with ⟨b1,_⟩ | ⟨rfl,rfl⟩
   ·exact h.uniq t t' y y' a1 b1 h3 h4
   ·rw[h4] at hx;cases hx
  ·rw[h3] at hx;cases hx
 ·rcases hnew t y hy with ⟨a1,a2⟩ | ⟨rfl,rfl⟩
  ·rw[setG_ne γ g (by omega)] at hb
   exact h.sep j b t (hko j b h1) ⟨y,a1⟩ hb
  ·rw[setG_self] at hb
   exact hg j b (hko j b h1) hb
theorem KidO.old {F:FK}{S:Store}{fr:Nat}{x:Blk}(hx:x.isHeap=false){j b:Nat}(h:KidO F (S++[(fr,x)]) j b):KidO F S j b:=by
 obtain⟨t,y,hy,hj⟩:=h
 rw[look_append] at hy
 cases hS:look S t with
 | some c=>rw[hS] at hy;injection hy with hy;subst hy;exact⟨t,_,hS,hj⟩
 | none =>
  rw[hS] at hy
  simp only[look] at hy
  by_cases e:fr=t
  ·subst e
   rw[beq_yes] at hy
   injection hy with hy
   subst hy
   rw[kids_isHeap hj] at hx;cases hx
  ·rw[beq_no e] at hy;cases hy
theorem Post.new {γ:Nat->G}{F:FK}{w w':World}{o:Obj}{g:G}{x:Blk}(hI:Inv F γ S w)(hlt:StoLt fr S)(h:NewBlk w w' o)(hg:g.blk=some w.heap.size)
  (hx:BlkOk F (setG γ fr g) w' fr x) (hnh:x.isHeap=false:=by rfl):Post fr γ F w S (setG γ fr g) F w' (S++[(fr,x)]):=by
 have hl:Lasts F F w w':=hI.lasts_new h
 have hnew:∀ t b,look (S++[(fr,x)]) t=some b->(look S t=some b∧t<fr)∨(t=fr∧b=x):=by
  intro t b hb
  rw[look_append] at hb
  cases hS:look S t with
  | some c=>rw[hS] at hb;injection hb with hb;subst hb;exact .inl ⟨rfl,(hlt t _ hS).1⟩
  | none =>
   rw[hS] at hb
   simp only[look] at hb
   by_cases e:fr=t
   ·subst e
    rw[beq_yes] at hb
    injection hb with hb
    exact .inr ⟨rfl,hb.symm⟩
   ·rw[beq_no e] at hb;cases hb
 have hne:∀ t,t<fr->setG γ fr g t=γ t:=fun t ht=>setG_ne γ g (by omega)
 refine⟨h.os,h.tape,h.output,by rw[h.size];omega,fun b hb _=>h.old hb,fun t ht=>hne t ht,FK.Le.refl F,fun _ h=>.inl h,?_,fun b hb=>h.old (hI.fz b hb),?_,fun _=>rfl⟩
 ·rintro b (⟨t,⟨y,hy⟩,hb⟩ | ⟨j,hb⟩)
  case inr=>exact .inl (.inr ⟨j,hb.old hnh⟩)
  rcases hnew t y hy with ⟨h1,h2⟩ | ⟨rfl,rfl⟩
  ·rw[hne t h2] at hb
   exact .inl (.tok ⟨y,h1⟩ hb)
  ·rw[setG_self,hg] at hb
   injection hb with hb
   exact .inr (by omega)
 ·refine⟨fun t b hb=>?_,fun t t' b ht ht' hb hb'=>?_,⟨fun b hb=>(by rw[h.size];have:=hI.fz b hb;omega),hI.fz.gnd.mono (fun _ h=>h) hl.heap⟩,hI.hp.new hlt hnh fun j b hj hb=>(by rw[hg] at hb;injection hb with hb;have:=(hI.kid_lt hj).1;omega)⟩
  ·rcases hnew t b hb with ⟨h1,h2⟩ | ⟨rfl,rfl⟩
   ·exact (hI.blk t b h1).lasts hl (hne t h2) (fun u hu=>hne u ((hlt t b h1).2 u hu)) (fun c hc=>⟨h.old ((hI.blk t b h1).lt hc),fun h=>h⟩) fun _=>⟨rfl,fun j c hc=>⟨h.old ((hI.blk t b h1).kid hc).1,fun h=>h⟩⟩
   ·exact hx
  ·obtain⟨y,hy⟩:=ht
   obtain⟨y',hy'⟩:=ht'
   rcases hnew t y hy with ⟨h1,h2⟩ | ⟨e1,e2⟩<;>rcases hnew t' y' hy' with ⟨h3,h4⟩ | ⟨e3,e4⟩
   ·rw[hne t h2] at hb
    rw[hne t' h4] at hb'
    exact hI.inj t t' b ⟨y,h1⟩ ⟨y',h3⟩ hb hb'
   ·subst e3
    rw[hne t h2] at hb
    rw[setG_self,hg] at hb'
    injection hb' with hb'
    have:=(hI.blk t y h1).lt hb
    omega
   ·subst e1
    rw[hne t' h4] at hb'
    rw[setG_self,hg] at hb
    injection hb with hb
    have:=(hI.blk t' y' h3).lt hb'
    omega
   ·omega
theorem Post.nilRow {γ:Nat->G}{F:FK}{w:World}{E:Nat}{e:Ty}(hI:Inv F γ S w)(hlt:StoLt fr S)(nl:Option Addr:=none)(hnl:e.u8=true->nl=none:=by intros;rfl):Post fr γ F w S (setG γ fr ⟨none,0,0,e.size,nl⟩) F w (S++[(fr,.row E e .plain [])]):=by
 have hnew:∀ t b,look (S++[(fr,Blk.row E e .plain [])]) t=some b->(look S t=some b∧t<fr)∨(t=fr∧b=.row E e .plain []):=by
  intro t b hb
  rw[look_append] at hb
  cases hS:look S t with
  | some c=>rw[hS] at hb;injection hb with hb;subst hb;exact .inl ⟨rfl,(hlt t _ hS).1⟩
  | none =>
   rw[hS] at hb
   simp only[look] at hb
   by_cases e:fr=t
   ·subst e
    rw[beq_yes] at hb
    injection hb with hb
    exact .inr ⟨rfl,hb.symm⟩
   ·rw[beq_no e] at hb;cases hb
 have hne:∀ t,t<fr->setG γ fr ⟨none,0,0,e.size,nl⟩ t=γ t:=fun t ht=>setG_ne γ _ (by omega)
 refine⟨rfl,rfl,rfl,Nat.le_refl _,fun _ _ _=>rfl,hne,FK.Le.refl _,fun _ h=>.inl h,?_,fun _ _=>rfl,?_,fun _=>rfl⟩
 ·rintro b (⟨t,⟨y,hy⟩,hb⟩ | ⟨j,hb⟩)
  case inr=>exact .inl (.inr ⟨j,hb.old rfl⟩)
  rcases hnew t y hy with ⟨h1,h2⟩ | ⟨rfl,rfl⟩
  ·rw[hne t h2] at hb
   exact .inl (.tok ⟨y,h1⟩ hb)
  ·rw[setG_self] at hb;cases hb
 ·refine⟨fun t b hb=>?_,fun t t' b ht ht' hb hb'=>?_,hI.fz,hI.hp.new hlt rfl fun j b hj hb=>(by cases hb)⟩
  ·rcases hnew t b hb with ⟨h1,h2⟩ | ⟨rfl,rfl⟩
   ·exact (hI.blk t b h1).lasts (Lasts.refl F w) (hne t h2) (fun u hu=>hne u ((hlt t b h1).2 u hu)) (fun c hc=>⟨rfl,fun h=>h⟩) fun _=>⟨rfl,fun j c hc=>⟨rfl,fun h=>h⟩⟩
   ·show RowOk F (setG γ t ⟨none,0,0,e.size,nl⟩ t) w E e .plain []
    rw[setG_self]
    exact⟨rfl,rfl,.inl ⟨rfl,rfl,hnl⟩⟩
  ·obtain⟨y,hy⟩:=ht
   obtain⟨y',hy'⟩:=ht'
   rcases hnew t y hy with ⟨h1,h2⟩ | ⟨e1,e2⟩<;>rcases hnew t' y' hy' with ⟨h3,h4⟩ | ⟨e3,e4⟩
   ·rw[hne t h2] at hb
    rw[hne t' h4] at hb'
    exact hI.inj t t' b ⟨y,h1⟩ ⟨y',h3⟩ hb hb'
   ·subst e3;rw[setG_self] at hb';cases hb'
   ·subst e1;rw[setG_self] at hb;cases hb
   ·omega
structure Turned (w w':World)(b:Nat):Prop where
 os:w'.os=w.os
 tape:w'.tape=w.tape
 output:w'.output=w.output
 size:w'.heap.size=w.heap.size
 old:∀ c,c≠b->w'.heap[c]?=w.heap[c]?
theorem Post.write {γ:Nat->G}{F:FK}{w w':World}{tok b:Nat}{x y:Blk}(hI:Inv F γ S w)(hS:look S tok=some x)(hb:(γ tok).blk=some b)(hF:¬ F b)(h:Turned w w' b)
  (hy:BlkOk F γ w' tok y) (hnh:y.isHeap=false:=by rfl):Post fr γ F w S γ F w' (upd S tok y):=by
 have hl:Lasts F F w w':=⟨FK.Le.refl F,fun c hc=>h.old c fun e=>hF (e ▸ hc)⟩
 have hHas:∀ t,Has (upd S tok y) t->Has S t:=by
  rintro t ⟨z,hz⟩
  rw[look_upd] at hz
  split at hz
  ·rename_i e;subst e;exact⟨_,hS⟩
  ·exact⟨z,hz⟩
 refine⟨h.os,h.tape,h.output,Nat.le_of_eq h.size.symm,fun c hc hm=>h.old c fun e=>hm (.tok ⟨x,hS⟩ (by rw[e];exact hb)),fun _ _=>rfl,FK.Le.refl F,fun _ h=>.inl h,?_,hl.heap,?_,fun _=>rfl⟩
 ·rintro c (⟨t,ht,hc⟩ | ⟨j,hc⟩)
  ·exact .inl (.tok (hHas t ht) hc)
  ·exact .inl (.inr ⟨j,hc.upd rfl hnh⟩)
 ·refine⟨fun t z hz=>?_,fun t t' c ht ht'=>hI.inj t t' c (hHas t ht) (hHas t' ht'),⟨fun c hc=>(by rw[h.size];exact hI.fz c hc),hI.fz.gnd.mono (fun _ h=>h) hl.heap⟩,hI.hp.upd rfl hnh ⟨x,hS⟩⟩
  rw[look_upd] at hz
  split at hz
  ·rename_i e
   subst e
   injection hz with hz
   subst hz
   exact hy
  ·rename_i hne
   exact (hI.blk t z hz).lasts hl rfl (fun _ _=>rfl) (fun c hc=>⟨h.old c fun e=>hne (hI.inj tok t b ⟨x,hS⟩ ⟨z,hz⟩ hb (e ▸ hc)),fun h=>h⟩) fun _=>⟨rfl,fun j c hc=>⟨h.old c fun e=>hI.hp.sep j c tok ⟨t,z,hz,hc⟩ ⟨x,hS⟩ (e ▸ hb),fun h=>h⟩⟩
theorem Post.kidWrite {γ:Nat->G}{F:FK}{w w':World}{S:Store}{t E:Nat}{e:Ty}{H:List (Kid e.den)}{j b c:Nat}{xs zs:List e.den}{g:G}(hI:Inv F γ S w)(hS:look S t=some (.heap E e H))
  (hj:H[j]?=some (.own xs c)) (hg:F.kid j=some g.sl) (hb:g.blk=some b) (h:Turned w w' b) (hr:RowOk F g w' E e .plain zs) (hc:zs.length<=c∧c<=g.sl.cap) :
  Post fr γ F w S γ F w' (upd S t (.heap E e (H.set j (.own zs c)))):=by
 have hko:KidO F S j b:=⟨t,_,hS,⟨xs,c,hj⟩,g.sl,hg,by rw[G.sl_own,hb]⟩
 have hF:¬ F b:=(hI.kid_lt hko).2
 have hl:Lasts F F w w':=⟨FK.Le.refl F,fun c hc=>h.old c fun e=>hF (e ▸ hc)⟩
 have hHas:∀ t',Has (upd S t (.heap E e (H.set j (.own zs c)))) t'->Has S t':=by
  rintro t' ⟨z,hz⟩
  rw[look_upd] at hz
  split at hz
  ·rename_i e;subst e;exact⟨_,hS⟩
  ·exact⟨z,hz⟩
 have hkid:∀ j' b',KidO F (upd S t (.heap E e (H.set j (.own zs c)))) j' b'->KidO F S j' b':=by
  rintro j' b' ⟨t',x,hx,hk⟩
  rw[look_upd] at hx
  split at hx
  ·injection hx with hx
   subst hx
   obtain⟨⟨ys,c',h1⟩,h2⟩:=hk
   refine⟨t,_,hS,?_,h2⟩
   rw[List.getElem?_set] at h1
   split at h1
   ·rename_i hjj;subst hjj;exact⟨xs,c,hj⟩
   ·exact⟨ys,c',h1⟩
  ·exact⟨t',x,hx,hk⟩
 refine⟨h.os,h.tape,h.output,Nat.le_of_eq h.size.symm,fun c hc hm=>h.old c fun e=>hm (.inr ⟨j,by rw[e];exact hko⟩),fun _ _=>rfl,FK.Le.refl F,fun _ h=>.inl h,?_,hl.heap,?_,fun _=>rfl⟩
 ·rintro c (⟨t',ht',hc'⟩ | ⟨j',hc'⟩)
  ·exact .inl (.inl ⟨t',hHas t' ht',hc'⟩)
  ·exact .inl (.inr ⟨j',hkid _ _ hc'⟩)
 ·refine⟨fun t' z hz=>?_,fun t' t'' c ht' ht''=>hI.inj t' t'' c (hHas t' ht') (hHas t'' ht''),⟨fun c hc=>(by rw[h.size];exact hI.fz c hc),hI.fz.gnd.mono (fun _ h=>h) hl.heap⟩,?_⟩
  ·rw[look_upd] at hz
   split at hz
   ·rename_i e'
    subst e'
    injection hz with hz
    subst hz
    obtain⟨g1,g2,g3⟩:=hI.blk _ _ hS
    refine⟨g1,fun q s hs=>by rw[List.length_set];exact g2 q s hs,fun q k hq=>?_⟩
    rw[List.getElem?_set] at hq
    by_cases hqj:j=q
    ·rw[if_pos hqj] at hq
     split at hq
     ·injection hq with hq
      subst hq hqj
      exact⟨g,hg,hr,hc⟩
     ·cases hq
    ·rw[if_neg hqj] at hq
     have h3:=g3 q k hq
     cases k with
     | dead=>trivial
     | ro ys =>
      obtain⟨s,h4,h5⟩:=h3
      exact⟨s,h4,h5.lasts hl fun x l=>RepD.lasts hl⟩
     | own ys c2 =>
      obtain⟨g',h4,⟨a1,a2,h5⟩,h6⟩:=h3
      refine⟨g',h4,⟨a1,a2,?_⟩,h6⟩
      rcases h5 with h5 | ⟨b2,cur,fz,flat,d1,d2,d3,d4,d5,d6,d7,d8⟩
      ·exact .inl h5
      ·have hk2:KidO F S q b2:=⟨_,_,hS,⟨ys,c2,hq⟩,g'.sl,h4,by rw[G.sl_own,d1]⟩
       have hne:b2≠b:=fun e=>hqj (hI.hp.kid j q b hko (e ▸ hk2))
       exact .inr ⟨b2,cur,fz,flat,d1,(h.old b2 hne).trans d2,d3,d4,d5,d6,d7.lasts hl,d8⟩
   ·rename_i hne
    refine (hI.blk t' z hz).lasts hl rfl (fun _ _=>rfl) (fun c hc=>⟨h.old c fun e=>hI.hp.sep j b t' hko ⟨z,hz⟩ (e ▸ hc),fun h=>h⟩) fun hh=>?_
    exact absurd (hI.hp.uniq t t' _ _ hS hz rfl hh) hne
  ·refine⟨fun u u' x x' hx hx' hh hh'=>?_,fun q q' b' hq hq'=>hI.hp.kid q q' b' (hkid _ _ hq) (hkid _ _ hq'),fun q b' u hq hu=>hI.hp.sep q b' u (hkid _ _ hq) (hHas u hu)⟩
   rw[look_upd] at hx hx'
   have e1:t=u:=by
    split at hx
    ·rename_i e;exact e
    ·exact hI.hp.uniq t u _ _ hS hx rfl hh
   have e2:t=u':=by
    split at hx'
    ·rename_i e;exact e
    ·exact hI.hp.uniq t u' _ _ hS hx' rfl hh'
   rw[← e1,← e2]
theorem RepA.new {γ:Nat->G}{F:FK}{w w':World}{o:Obj}{g:G}{x:AV}{v:Value}(hI:Inv F γ S w)(h:NewBlk w w' o)(hx:∀ t∈x.toks,t<fr)(hr:RepA γ F w x v):RepA (setG γ fr g) F w' x v :=
 hr.lasts (hI.lasts_new h) fun t ht=>setG_ne γ g (by have:=hx t ht;omega)
theorem RepCs.new {γ:Nat->G}{F:FK}{w w':World}{o:Obj}{g:G}{cs:List C}{vs:List Value}(hI:Inv F γ S w)(h:NewBlk w w' o)(hx:∀ t∈cs.flatMap C.toks,t<fr)(hr:All2 (RepC γ F w) cs vs):All2 (RepC (setG γ fr g) F w') cs vs :=
 RepCs.lasts (hI.lasts_new h) (fun t ht=>setG_ne γ g (by have:=hx t ht;omega)) hr
theorem sem_newVar {γ:Nat->G}{F:FK}{w w':World}{E:Nat}{cs:List C}{arr:Array Value}(hI:Inv F γ S w)(hlt:StoLt fr S)(hcs:∀ t∈cs.flatMap C.toks,t<fr)(hr:All2 (RepC γ F w) cs arr.toList)
  (h:NewBlk w w' (.cells arr E)) :
  ∃ γ',Post fr γ F w S γ' F w' (S++[(fr,.var E cs)])∧RepA γ' F w' (one (.ptr fr 0)) (.pointer (some ⟨w.heap.size,0,none⟩)):=by
 refine⟨setG γ fr ⟨some w.heap.size,0,0,0,none⟩,Post.new hI hlt h rfl ⟨w.heap.size,arr,by rw[setG_self],h.new,fun hF=>?_,RepCs.new hI h hcs hr⟩ rfl,w.heap.size,by rw[setG_self],rfl⟩
 have:=hI.fz _ hF
 omega
theorem cells_of_rep {γ:Nat->G}{F:FK}{w:World}{x:V1}{v:Value}(h:RepV γ F w x v)(hl:x.cells.all C.live=true):All2 (RepC γ F w) x.cells v.cells.toList:=by
 cases x with
 | one c =>
  have h1:v.oneCell'=true:=one_of_RepC h (by simpa [V1.cells] using hl)
  have:v.cells=#[v]:=by cases v<;>simp_all [Value.cells,Value.oneCell']
  rw[this]
  exact⟨h,trivial⟩
 | agg cs =>
  obtain⟨l,rfl,h⟩:=h
  exact h
end
end Go.Ab
namespace Go.Ab
def spl {α:Type}(cs:List α)(off:Nat)(new:List α):List α:=cs.take off++new++cs.drop (off+new.length)
theorem spl_length {α:Type}(cs:List α)(off:Nat)(new:List α)(h:off+new.length<=cs.length):(spl cs off new).length=cs.length:=by
 simp[spl];omega
theorem spl_cons {α:Type}(cs:List α)(off:Nat)(v:α)(new:List α)(h:off+(v::new).length<=cs.length):spl (cs.set off v) (off+1) new=spl cs off (v::new):=by
 have hlt:off<cs.length:=by simp at h;omega
 simp only[spl,List.length_cons]
 rw[List.take_set,List.drop_set_of_lt (by omega)]
 have:(cs.take (off+1)).set off v=cs.take off++[v]:=by
  rw[List.take_add_one,List.getElem?_eq_getElem hlt,Option.toList_some,List.set_append_right _ _ (by simp;omega)]
  simp[Nat.min_eq_left (Nat.le_of_lt hlt)]
 rw[this]
 have e1:off+1+new.length=off+(new.length+1):=by omega
 rw[e1]
 simp
theorem spl_get {α:Type}(cs:List α)(off:Nat)(new:List α)(h:off+new.length<=cs.length)(q:Nat):(spl cs off new)[q]?=if off<=q∧q<off+new.length then new[q - off]? else cs[q]?:=by
 unfold spl
 rw[List.getElem?_append,List.length_append,List.length_take,Nat.min_eq_left (by omega)]
 by_cases h2:q<off+new.length
 ·rw[if_pos h2,List.getElem?_append,List.length_take,Nat.min_eq_left (by omega)]
  by_cases h1:q<off
  ·rw[if_pos h1,if_neg (by omega),List.getElem?_take,if_pos h1]
  ·rw[if_neg h1,if_pos ⟨by omega,h2⟩]
 ·rw[if_neg h2,if_neg (by omega),List.getElem?_drop]
  congr 1
  omega
theorem spl_elem {α:Type}(L:List α)(i e fo n:Nat)(ys:List α)(h1:i+e<=n)(h2:fo+ys.length<=e)(h3:n<=L.length) :
  (spl L (i+fo) ys).take n=(L.take n).take i++spl ((L.drop i).take e) fo ys++(L.take n).drop (i+e):=by
 have hm:((L.drop i).take e).length=e:=by simp;omega
 have hsl:(spl ((L.drop i).take e) fo ys).length=e:=by rw[spl_length _ _ _ (by omega),hm]
 have hti:((L.take n).take i).length=i:=by simp;omega
 apply List.ext_getElem?
 intro q
 rw[List.getElem?_take,spl_get _ _ _ (by omega),List.getElem?_append,List.length_append,hsl,hti]
 by_cases hq:q<n
 ·rw[if_pos hq]
  by_cases ha:q<i+e
  ·rw[if_pos ha,List.getElem?_append,hti]
   by_cases hb:q<i
   ·rw[if_pos hb,if_neg (by omega),List.getElem?_take,if_pos hb,List.getElem?_take,if_pos hq]
   ·rw[if_neg hb,spl_get _ _ _ (by omega)]
    by_cases hc:i+fo<=q∧q<i+fo+ys.length
    ·rw[if_pos hc,if_pos (by omega)]
     congr 1
     omega
    ·rw[if_neg hc,if_neg (by omega),List.getElem?_take,if_pos (by omega),List.getElem?_drop]
     congr 1
     omega
  ·rw[if_neg ha,if_neg (by omega),List.getElem?_drop,List.getElem?_take,if_pos (by omega)]
   congr 1
   omega
 ·rw[if_neg hq,if_neg (by omega),List.getElem?_drop,List.getElem?_take,if_neg (by omega)]
theorem spl_set {α:Type}(L:List α)(off n j:Nat)(v:α)(h1:off+n<=L.length)(hj:j<n):spl L (off+j) [v]=spl L off (((L.drop off).take n).set j v):=by
 have hm:((L.drop off).take n).length=n:=by simp;omega
 apply List.ext_getElem?
 intro q
 rw[spl_get _ _ _ (by simp;omega),spl_get _ _ _ (by rw[List.length_set,hm];exact h1),List.length_set,hm,List.getElem?_set,hm,List.getElem?_take,List.getElem?_drop]
 by_cases h:off<=q∧q<off+n
 ·rw[if_pos h]
  by_cases e:q=off+j
  ·subst e
   rw[if_pos (by simp),if_pos (by omega),if_pos (by omega)]
   simp
  ·rw[if_neg (by simp;omega),if_neg (by omega),if_pos (by omega)]
   congr 1
   omega
 ·rw[if_neg h,if_neg (by simp;omega)]
theorem run_storeCells_blk {P:Program}(g o:Nat)(t:TypeId)(fz:Nat×Nat):∀ (vs:List Value) (i:Nat) (cur:Array Value) (w:World),w.heap[g]?=some (.cells cur t fz)->(fz=(0,0)∨cur.size<=fz.1)->o+i+vs.length<=cur.size->(∀ v∈vs,v.oneCell'=true) ->
  ∃ w' cur',(storeCells ⟨g,o,none⟩ vs i).run P w=.ok () w'∧Turned w w' g∧w'.heap[g]?=some (.cells cur' t fz)∧cur'.toList=spl cur.toList (o+i) vs
 | [],i,cur,w,hg,_,hl,_=>by
  refine⟨w,cur,rfl,⟨rfl,rfl,rfl,rfl,fun _ _=>rfl⟩,hg,by simp[spl]⟩
 | v::rest,i,cur,w,hg,hz,hl,h1=>by
  have hi:o+i<cur.size:=by simp at hl;omega
  have hadd:(⟨g,o,none⟩:Addr).add i=⟨g,o+i,none⟩:=by unfold Addr.add;split<;>simp_all
  have hcell:w.cell? ⟨g,o+i,none⟩=some cur[o+i]:=by simp[World.cell?,hg,hi]
  have hfro:w.frozen? ⟨g,o+i,none⟩=false:=by
   simp only[World.frozen?,hg]
   rcases hz with rfl | hz
   ·simp
   ·have:¬ fz.1<=o+i:=by omega
    simp[this]
  have hst:(store ((⟨g,o,none⟩:Addr).add i) v).run P w=.ok () (w.setCell ⟨g,o+i,none⟩ v):=by
   rw[hadd,run_store P w _ v _ (h1 v (by simp)),hcell]
   simp[hfro]
  have hblk:(w.setCell ⟨g,o+i,none⟩ v).heap[g]?=some (.cells (cur.setIfInBounds (o+i) v) t fz):=by
   show (w.heap.modify g _)[g]?=_
   rw[Array.getElem?_modify,if_pos rfl,hg]
   rfl
  obtain⟨w',cur',hr,ht,hb,hc⟩:=run_storeCells_blk (P:=P) g o t fz rest (i+1) (cur.setIfInBounds (o+i) v) (w.setCell ⟨g,o+i,none⟩ v) hblk (by simpa using hz) (by simp at hl ⊢;omega) (fun x hx=>h1 x (by simp[hx]))
  refine⟨w',cur',by simp only[storeCells,Sem.run_bind,hst,Result.andThen_ok,hr],?_,hb,?_⟩
  ·refine⟨ht.os,ht.tape,ht.output,by rw[ht.size];simp,fun c hc=>?_⟩
   rw[ht.old c hc]
   exact heap_setCell_other w _ c v hc
  ·rw[hc,Array.toList_setIfInBounds,← Nat.add_assoc]
   exact spl_cons _ _ _ _ (by simp at hl ⊢;omega)
theorem splice_eq (cs:List C)(off:Nat)(new:List C):splice cs off new=spl cs off new:=rfl
theorem All2.spl {α β:Type}{R:α->β->Prop}{l:List α}{m:List β}{x:List α}{y:List β}(off:Nat)(h:All2 R l m)(h':All2 R x y):All2 R (spl l off x) (spl m off y):=by
 have e:x.length=y.length:=h'.length
 unfold Ab.spl
 rw[e]
 exact ((h.take off).append h').append (h.drop _)
section
variable {P:Program} {dst:Option Tmp} {ty:TypeId} {pos:String} {aft:Array Edge} {gd:Option (Nat×Bool)} {fr:Nat} {S:Store} {Γ:Tab}
theorem run_storeVar {w w':World}{t:Nat}{r:TR}{d:TypeDesc}{i:TypeInfo}(ok:TrOk P t r d i){ad:Addr}{v:Value}(hl:v.cells.size=r.size)(h:(storeCells ad v.cells.toList 0).run P w=.ok () w') :
  (storeVar t ad v).run P w=.ok () w':=by
 unfold storeVar
 simp only[Sem.run_bind,ok.sizeOf,Result.andThen_ok]
 simp[hl,h]
theorem row_turn {γ:Nat->G}{F:FK}{g:G}{w:World}{E:Nat}{e:Ty}{xs:List e.den}(hrow:RowOk F g w E e .plain xs){b:Nat}(g3:g.blk=some b){j fo n:Nat}(hjx:j<xs.length){z:e.den}{cs:List C}{vs:List Value}
  (hz:e.whole (splice (e.explode (xs.getD j e.dflt)) fo cs)=some z) (hfo:fo+n<=e.size) (hn:vs.length=n) (hcl:All2 (RepC γ F w) cs vs) (hlive:cs.all C.live=true) :
  ∃ w',(storeCells ⟨b,j*e.size+fo,none⟩ vs 0).run P w=.ok () w'∧Turned w w' b∧RowOk F g w' E e .plain (xs.set j z):=by
 obtain⟨g1,g2,⟨g3',g4⟩ | ⟨b',cur,fz,flat,g3',g4,g5,g6,g7,g8,g9,g10⟩⟩:=hrow
 ·rw[g3'] at g3;cases g3
 ·rw[g3'] at g3
  injection g3 with g3
  subst g3
  have hget:xs[j]?=some (xs.getD j e.dflt):=by simp[List.getD,List.getElem?_eq_getElem hjx]
  obtain⟨l,hl,hlc⟩:=g9.at _ _ hget
  have hll:=hl.length
  have hmul:(j+1)*e.size<=xs.length*e.size:=Nat.mul_le_mul_right _ (by omega)
  have hmul2:xs.length*e.size<=cur.size:=by rw[g7];exact Nat.mul_le_mul_right _ g5
  rw[Nat.add_mul,Nat.one_mul] at hmul
  obtain⟨w',cur',hrun,htn,hb',hc'⟩:=run_storeCells_blk (P:=P) b' (j*e.size+fo) E fz vs 0 cur w g4 (.inl g10.2) (by omega) (ones_of_RepC hcl hlive)
  refine⟨w',hrun,htn,?_⟩
  have hlst:Lasts F F w w':=⟨FK.Le.refl F,fun c hc=>htn.old c fun e=>g10.1 (e ▸ hc)⟩
  have hnew:RepD F w e z (spl l fo vs):=whole_rep (γ:=γ) hz (by rw[splice_eq];exact (explode_rep hl).spl fo hcl)
  have hset:=(g9.lasts hlst).set j z _ hjx (hnew.lasts hlst)
  refine⟨by rw[List.length_set];exact g1,g2,.inr ⟨b',cur',fz,_,g3',hb',by rw[List.length_set];exact g5,g6,?_,rfl,?_,?_⟩⟩
  ·have h5:=congrArg List.length hc'
   rw[spl_length _ _ _ (by simp;omega)] at h5
   simp at h5
   omega
  ·rw[List.length_set,hc']
   have hcells:cur.toList.take (xs.length*e.size)=flat:=g8
   have hmid:(cur.toList.drop (j*e.size)).take e.size=l:=by
    apply List.ext_getElem?
    intro q
    rw[List.getElem?_take]
    split
    ·rename_i hq
     rw[List.getElem?_drop]
     have hql:q<l.length:=by omega
     have:=hlc q _ (List.getElem?_eq_getElem hql)
     rw[← hcells,List.getElem?_take,if_pos (by omega)] at this
     rw[this,List.getElem?_eq_getElem hql]
    ·rw[List.getElem?_eq_none (by omega)]
   have e1:(spl cur.toList (j*e.size+fo+0) vs).take (xs.length*e.size)=flat.take (j*e.size)++spl l fo vs++flat.drop (j*e.size+e.size):=by
    rw[← hcells,← hmid,Nat.add_zero]
    exact spl_elem _ _ _ _ _ _ hmul (by omega) (by simp;omega)
   rw[e1]
   exact hset
  ·exact⟨g10.1,g10.2⟩
theorem row_manyM {F:FK}{g:G}{w:World}{E:Nat}{e:Ty}{xs ys:List e.den}{m:RowK}(hm:m=.plain∨m=.mark)(hrow:RowOk F g w E e m xs){b:Nat}(g3:g.blk=some b){lo:Nat}(hle:lo+ys.length<=g.cap){vs:List Value}(hf:Flat F w e ys vs) :
  ∃ w',(storeCells ⟨b,lo*e.size,none⟩ vs 0).run P w=.ok () w'∧Turned w w' b∧RowOk F g w' E e m (wrt xs lo ys):=by
 obtain⟨g1,g2,⟨g3',g4⟩ | ⟨b',cur,fz,flat,g3',g4,g5,g6,g7,g8,g9,g10⟩⟩:=hrow
 ·rw[g3'] at g3;cases g3
 ·rw[g3'] at g3
  injection g3 with g3
  subst g3
  have hz:¬ F b'∧(fz=(0,0)∨cur.size<=fz.1):=by
   rcases hm with rfl | rfl
   ·exact⟨g10.1,.inl g10.2⟩
   ·exact⟨g10.1,.inr g10.2⟩
  have hvl:=hf.length
  have hmul:(lo+ys.length)*e.size<=g.cap*e.size:=Nat.mul_le_mul_right _ hle
  have hadd:(lo+ys.length)*e.size=lo*e.size+ys.length*e.size:=Nat.add_mul ..
  obtain⟨w',cur',hrun,htn,hb',hc'⟩:=run_storeCells_blk (P:=P) b' (lo*e.size) E fz vs 0 cur w g4 hz.2 (by omega) hf.ones
  have hlst:Lasts F F w w':=⟨FK.Le.refl F,fun c hc=>htn.old c fun e=>hz.1 (e ▸ hc)⟩
  have hsz':cur'.size=cur.size:=by
   have h5:=congrArg List.length hc'
   rw[spl_length _ _ _ (by simp;omega)] at h5
   simpa using h5
  have hwl:(wrt xs lo ys).length=xs.length:=by
   unfold wrt
   simp only[List.length_take,List.length_append,List.length_drop]
   omega
  refine⟨w',hrun,htn,by rw[hwl];exact g1,g2,.inr ⟨b',cur',fz,_,g3',hb',by rw[hwl];exact g5,g6,?_,rfl,?_,by
   rcases hm with rfl | rfl
   ·exact g10
   ·exact⟨g10.1,by rw[hsz'];exact g10.2⟩⟩⟩
  ·have h5:=congrArg List.length hc'
   rw[spl_length _ _ _ (by simp;omega)] at h5
   simp at h5
   omega
  ·rw[hwl,hc',Nat.add_zero]
   have hcells:cur.toList.take (xs.length*e.size)=flat:=g8
   by_cases hlo:lo<=xs.length
   ·have hlom:lo*e.size<=xs.length*e.size:=Nat.mul_le_mul_right _ hlo
    have f1:Flat F w e (xs.take lo) (cur.toList.take (lo*e.size)):=by
     have:=g9.take lo
     rwa [← hcells,List.take_take,Nat.min_eq_left hlom] at this
    have f3:Flat F w e (xs.drop (lo+ys.length)) ((cur.toList.take (xs.length*e.size)).drop ((lo+ys.length)*e.size)):=by
     rw[hcells];exact g9.drop _
    have fw:=(f1.append (hf.append f3)).take xs.length
    have e1:(spl cur.toList (lo*e.size) vs).take (xs.length*e.size)=(cur.toList.take (lo*e.size)++(vs++(cur.toList.take (xs.length*e.size)).drop ((lo+ys.length)*e.size))).take (xs.length*e.size):=by
     unfold spl
     rw[hvl,← hadd,List.append_assoc,← List.append_assoc,← List.append_assoc,List.take_append,List.take_append (l₂:=List.drop _ (List.take _ _))]
     congr 1
     have hpl:(cur.toList.take (lo*e.size)++vs).length=(lo+ys.length)*e.size:=by
      rw[List.length_append,List.length_take,hvl,hadd]
      have:cur.toList.length=cur.size:=by simp
      omega
     rw[hpl,List.drop_take,List.take_take,Nat.min_self]
    rw[e1]
    exact fw.lasts hlst
   ·have hlo':xs.length<=lo:=by omega
    have hlom:xs.length*e.size<=lo*e.size:=Nat.mul_le_mul_right _ hlo'
    have e1:(spl cur.toList (lo*e.size) vs).take (xs.length*e.size)=flat:=by
     unfold spl
     rw[List.append_assoc,List.take_append_of_le_length (by simp;omega),List.take_take,Nat.min_eq_left hlom]
     exact hcells
    have e2:wrt xs lo ys=xs:=by
     unfold wrt
     rw[List.take_of_length_le (l:=xs) hlo',List.take_left']
     rfl
    rw[e1,e2]
    exact g9.lasts hlst
theorem row_many {F:FK}{g:G}{w:World}{E:Nat}{e:Ty}{xs ys:List e.den}(hrow:RowOk F g w E e .plain xs){b:Nat}(g3:g.blk=some b){lo:Nat}(hle:lo+ys.length<=g.cap){vs:List Value}(hf:Flat F w e ys vs) :
  ∃ w',(storeCells ⟨b,lo*e.size,none⟩ vs 0).run P w=.ok () w'∧Turned w w' b∧RowOk F g w' E e .plain (wrt xs lo ys):=row_manyM (.inl rfl) hrow g3 hle hf
theorem sem_store (hΓ:tabIs P Γ=true)(t:TypeId)(x y:Operand)(ax ay:AV):ResSem (OpSem P ⟨dst,.store t x y,ty,pos,aft,gd⟩ [ax,ay] fr S) (storeA Γ t ax ay S):=by
 unfold storeA
 split
 ·rename_i r av hr
  obtain⟨d,i,ok⟩:=trOf_ok hΓ hr
  cases hb:Nat.beq av.cells.length r.size&&av.cells.all C.live with
  | false=>trivial
  | true =>
   simp only[cond_true]
   simp only[Bool.and_eq_true,Nat.beq_eq] at hb
   obtain⟨hsz,hlive⟩:=hb
   have fin:∀ (a:Act) (w w':World) (ad:Addr),a.eval x=.pointer (some ad)->(storeVar t ad (a.eval y)).run P w=.ok () w'->(execOp a.eval ⟨dst,.store t x y,ty,pos,aft,gd⟩).run P w=.ok .skip w':=by
    intro a w w' ad h1 h2
    simp[execOp,Instr.storeAt,h1,Instr.sureAddr,h2]
   split
   ·rename_i tok off
    split
    ·rename_i E cs hS
     cases hfit:Nat.ble (off+r.size) cs.length with
     | false=>trivial
     | true =>
      intro γ F w a hI hlt _ hA next Q hn
      have hfit':off+r.size<=cs.length:=by simpa using hfit
      obtain⟨b,hbk,hp⟩:=hA.1
      obtain⟨b',cur,h1,h2,h3,h4⟩:=hI.blk tok _ hS
      rw[h1] at hbk
      injection hbk with hbk
      subst hbk
      have hcl:=cells_of_rep hA.2.1 hlive
      have hlen:=hcl.length
      have hlen4:=h4.length
      obtain⟨w',cur',hrun,htn,hb',hc'⟩:=run_storeCells_blk (P:=P) b' off E (0,0) (a.eval y).cells.toList 0 cur w h2 (.inl rfl) (by simp at hlen hlen4 ⊢;omega) (ones_of_RepC hcl hlive)
      refine wp_of_skip (fin a w w' _ hp (run_storeVar ok (by simp at hlen;omega) hrun)) (hn Go.undef γ F w' ?_ trivial)
      refine Post.write hI hS h1 h3 htn ⟨b',cur',h1,hb',h3,?_⟩
      rw[hc',splice_eq]
      have hl:Lasts F F w w':=⟨FK.Le.refl F,fun c hc=>htn.old c fun e=>h3 (e ▸ hc)⟩
      exact (RepCs.lasts hl (fun _ _=>rfl) h4).spl off (RepCs.lasts hl (fun _ _=>rfl) hcl)
    ·trivial
   ·rename_i tok j fo
    have row:∀ (E:Nat) (e:Ty) (m:RowK) (xs:List e.den) (z:e.den),m≠.frz->look S tok=some (.row E e m xs)->e.whole (splice (e.explode (xs.getD j.toNat e.dflt)) fo av.cells)=some z->fo+r.size<=e.size ->
      OpSem P ⟨dst,.store t x y,ty,pos,aft,gd⟩ [one (.eptr tok j fo),.v av] fr S .undef (upd S tok (.row E e m (xs.set j.toNat z))):=by
     intro E e m xs z hm hS hz hfo γ F w a hI hlt _ hA next Q hn
     obtain⟨b,hbk,h0,hjl,hp⟩:=hA.1
     have hrow:RowOk F (γ tok) w E e m xs:=hI.blk tok _ hS
     have hrow':=hrow
     obtain⟨g1,g2,⟨g3,g4,g4n⟩ | ⟨b',cur,fz,flat,g3,g4,g5,g6,g7,g8,g9,g10⟩⟩:=hrow'
     ·rw[g3] at hbk;cases hbk
     ·rw[g3] at hbk
      injection hbk with hbk
      subst hbk
      have hjx:j.toNat<xs.length:=by omega
      have hget:xs[j.toNat]?=some (xs.getD j.toNat e.dflt):=by simp[List.getD,List.getElem?_eq_getElem hjx]
      obtain⟨l,hl,hlc⟩:=g9.at _ _ hget
      have hll:=hl.length
      have hcl:=cells_of_rep hA.2.1 hlive
      have hlen:=hcl.length
      have hnF:¬ F b':=by
       cases m with
       | plain=>exact g10.1
       | mark=>exact g10.1
       | frz=>exact absurd rfl hm
      have hfz:fz=(0,0)∨cur.size<=fz.1:=by
       cases m with
       | plain=>exact .inl g10.2
       | mark=>exact .inr g10.2
       | frz=>exact absurd rfl hm
      have hmul:(j.toNat+1)*e.size<=xs.length*e.size:=Nat.mul_le_mul_right _ (by omega)
      have hmul2:xs.length*e.size<=cur.size:=by rw[g7];exact Nat.mul_le_mul_right _ g5
      rw[Nat.add_mul,Nat.one_mul] at hmul
      obtain⟨w',cur',hrun,htn,hb',hc'⟩:=run_storeCells_blk (P:=P) b' (j.toNat*e.size+fo) E fz (a.eval y).cells.toList 0 cur w g4 hfz (by simp at hlen ⊢;omega) (ones_of_RepC hcl hlive)
      refine wp_of_skip (fin a w w' _ hp ?_) (hn Go.undef γ F w' ?_ trivial)
      ·rw[g2]
       exact run_storeVar ok (by simp at hlen;omega) hrun
      ·refine Post.write hI hS g3 hnF htn ?_
       have hlst:Lasts F F w w':=⟨FK.Le.refl F,fun c hc=>htn.old c fun e=>hnF (e ▸ hc)⟩
       have hnew:RepD F w e z (spl l fo (a.eval y).cells.toList):=whole_rep (γ:=γ) hz (by rw[splice_eq];exact (explode_rep hl).spl fo hcl)
       have hset:=(g9.lasts hlst).set j.toNat z _ hjx (hnew.lasts hlst)
       refine⟨by rw[List.length_set];exact g1,g2,.inr ⟨b',cur',fz,_,g3,hb',by rw[List.length_set];exact g5,g6,?_,rfl,?_,?_⟩⟩
       ·have h5:=congrArg List.length hc'
        rw[spl_length _ _ _ (by simp at hlen ⊢;omega)] at h5
        simp at h5
        omega
       ·rw[List.length_set,hc']
        have hcells:cur.toList.take (xs.length*e.size)=flat:=g8
        have hmid:(cur.toList.drop (j.toNat*e.size)).take e.size=l:=by
         apply List.ext_getElem?
         intro q
         rw[List.getElem?_take]
         split
         ·rename_i hq
          rw[List.getElem?_drop]
          have hql:q<l.length:=by omega
          have:=hlc q _ (List.getElem?_eq_getElem hql)
          rw[← hcells,List.getElem?_take,if_pos (by omega)] at this
          rw[this,List.getElem?_eq_getElem hql]
         ·rw[List.getElem?_eq_none (by omega)]
        have e1:(spl cur.toList (j.toNat*e.size+fo+0) (a.eval y).cells.toList).take (xs.length*e.size)=flat.take (j.toNat*e.size)++spl l fo (a.eval y).cells.toList++flat.drop (j.toNat*e.size+e.size):=by
         rw[← hcells,← hmid,Nat.add_zero]
         exact spl_elem _ _ _ _ _ _ hmul (by omega) (by simp;omega)
        rw[e1]
        exact hset
       ·cases m with
        | plain=>exact⟨g10.1,g10.2⟩
        | mark =>
         refine⟨g10.1,?_⟩
         have h5:=congrArg List.length hc'
         rw[spl_length _ _ _ (by simp at hlen ⊢;omega)] at h5
         simp at h5
         have:=g10.2
         omega
        | frz=>exact absurd rfl hm
    split
    ·rename_i E e xs hS
     split
     ·rename_i z hz
      cases hfo:Nat.ble (fo+r.size) e.size with
      | false=>trivial
      | true=>exact row E e .plain xs z (by simp) hS hz (by simpa using hfo)
     ·trivial
    ·rename_i E e xs hS
     split
     ·rename_i z hz
      cases hfo:Nat.ble (fo+r.size) e.size with
      | false=>trivial
      | true=>exact row E e .mark xs z (by simp) hS hz (by simpa using hfo)
     ·trivial
    ·trivial
   ·rename_i e id j fo
    split
    ·rename_i tk E H hH
     split
     ·rename_i z hz
      cases hfo:Nat.ble (fo+r.size) e.size with
      | false=>trivial
      | true =>
        intro how
        have hfo':fo+r.size<=e.size:=by simpa using hfo
        intro γ F w a hI hlt _ hA next Q hn
        obtain⟨q,b,o,s,rfl,hk,hsA,h0,hjn,hp⟩:=hA.1
        have hS:=heapOf_look hH
        obtain⟨-,-,hok⟩:=hI.blk tk _ hS
        unfold kown at how
        simp only at how
        cases hq:H[q]? with
        | none=>rw[hq] at how;cases how
        | some kd =>
         rw[hq] at how
         cases kd with
         | dead=>cases how
         | ro xs=>cases how
         | own xs cp =>
          obtain⟨g,k1,k2,k3⟩:=hok q _ hq
          have hget:kget H (q+1)=xs:=by unfold kget kidAt;simp only[hq]
          have hroom:kroom H (q+1)=cp:=by unfold kroom kidAt;simp only[hq]
          rw[hk] at k1
          injection k1 with k1
          cases hgb:g.blk with
          | none=>rw[G.sl_none hgb] at k1;rw[k1] at hjn;exact absurd hjn (Nat.not_lt_zero _)
          | some b2 =>
           have hsA':=hsA
           have hjn':=hjn
           rw[k1,G.sl_at hgb] at hsA' hjn'
           simp only[Option.some.injEq,Addr.mk.injEq,and_true] at hsA' hjn'
           obtain⟨rfl,rfl⟩:=hsA'
           have hjx:j.toNat<xs.length:=by rw[← k2.1];exact hjn'
           rw[hget] at hz
           have hcl:=cells_of_rep hA.2.1 hlive
           have hlen:=hcl.length
           obtain⟨w',hrun,htn,hrow'⟩:=row_turn (P:=P) k2 hgb (n:=r.size) hjx hz hfo' (by simp at hlen ⊢;omega) hcl hlive
           refine wp_of_skip (fin a w w' _ hp ?_) (hn Go.undef γ F w' ?_ trivial)
           ·rw[Nat.zero_add]
            exact run_storeVar ok (by simp at hlen;omega) hrun
           ·have hset:kset H (q+1) j.toNat z=H.set q (.own (xs.set j.toNat z) cp):=by unfold kset;simp only[hget,hroom]
            rw[hset]
            exact Post.kidWrite hI hS hq (by rw[hk,k1]) hgb htn hrow' ⟨by rw[List.length_set];exact k3.1,k3.2⟩
     ·trivial
    ·trivial
   ·rename_i tok off n j
    split
    ·rename_i _ E cs k z hS
     cases hfit:Nat.ble (off+n) cs.length with
     | false=>trivial
     | true =>
      simp only[cond_true]
      split
      ·rename_i k' ns hns
       split
       ·rename_i hk
        subst hk
        rw[setCells_eq]
        intro γ F w a hI hlt _ hA next Q hn
        have hfit':off+n<=cs.length:=by simpa using hfit
        obtain⟨b,hbk,h0,hjn,hp⟩:=hA.1
        obtain⟨b',cur,h1,h2,h3,h4⟩:=hI.blk tok _ hS
        rw[h1] at hbk
        injection hbk with hbk
        subst hbk
        have hy:a.eval y=.int k z:=hA.2.1
        have hlen4:=h4.length
        obtain⟨hl,hcs⟩:=intCells_rep hns ((h4.drop off).take n)
        have hnl:ns.length=n:=by
         have:=congrArg List.length hcs
         simp at this
         omega
        have hsz1:r.size=1:=by simpa [V1.cells] using hsz.symm
        obtain⟨w',cur',hrun,htn,hb',hc'⟩:=run_storeCells_blk (P:=P) b' (off+j.toNat) E (0,0) [Value.int k z] 0 cur w h2 (.inl rfl) (by simp at hlen4 ⊢;omega) (by simp[Value.oneCell'])
        refine wp_of_skip (fin a w w' _ hp (run_storeVar ok (by rw[hy,hsz1];rfl) (by rw[hy];exact hrun))) (hn Go.undef γ F w' ?_ trivial)
        refine Post.write hI hS h1 h3 htn ⟨b',cur',h1,hb',h3,?_⟩
        have hlst:Lasts F F w w':=⟨FK.Le.refl F,fun c hc=>htn.old c fun e=>h3 (e ▸ hc)⟩
        have hcur:cur'.toList=spl cur.toList off ((setNth ns j.toNat z).map (Value.int k)):=by
         rw[hc']
         have e2:(setNth ns j.toNat z).map (Value.int k)=((cur.toList.drop off).take n).set j.toNat (Value.int k z):=by rw[hl];simp[setNth,List.map_set]
         rw[e2,Nat.add_zero]
         exact spl_set _ _ _ _ _ (by omega) hjn
        rw[hcur,splice_eq]
        refine (RepCs.lasts hlst (fun _ _=>rfl) h4).spl off ?_
        generalize setNth ns j.toNat z=ms
        induction ms with
        | nil=>trivial
        | cons m ms ih=>exact⟨rfl,ih⟩
       ·trivial
      ·trivial
    ·trivial
   ·trivial
 ·trivial
end
end Go.Ab
namespace Go.Ab
theorem foldl_zip {α:Type}(off:Nat):∀ (l:List α) (k:Nat) (cs:Array α),off+k+l.length<=cs.size->((l.zipIdx k).foldl (fun cs (p:α×Nat)=>cs.setIfInBounds (off+p.2) p.1) cs).toList=spl cs.toList (off+k) l
 | [],k,cs,_=>by simp[spl]
 | v::l,k,cs,h=>by
  simp only[List.zipIdx_cons,List.foldl_cons]
  rw[foldl_zip off l (k+1) _ (by simp at h ⊢;omega),Array.toList_setIfInBounds,← Nat.add_assoc]
  exact spl_cons _ _ _ _ (by simp at h ⊢;omega)
section
variable {P:Program} {dst:Option Tmp} {ty:TypeId} {pos:String} {aft:Array Edge} {gd:Option (Nat×Bool)} {fr:Nat} {S:Store} {Γ:Tab}
theorem fill_rep {γ:Nat->G}{F:FK}{w:World}{place places:Nat->Option (Nat×Nat)}:∀ {is:List Nat} {avs:List AV} {vs:List Value} {zs cs:List C} {cells:Array Value},partsA places is avs zs=some cs->(∀ i∈is,∀ p,places i=some p->place i=some p) ->
  All2 (RepC γ F w) zs cells.toList->All2 (RepA γ F w) avs vs->(∀ x∈avs,match x with | .v y=>y.cells.all C.live=true | _=>True)->∃ cells',Instr.fill place cells (is.zip vs)=some cells'∧All2 (RepC γ F w) cs cells'.toList
 | [],[],vs,zs,cs,cells,h,_,hz,hv,_=>by
  simp only[partsA,Option.some.injEq] at h
  subst h
  exact⟨cells,by simp[Instr.fill],hz⟩
 | i::is,.v x::avs,v::vs,zs,cs,cells,h,hp,hz,hv,hl=>by
  simp only[partsA] at h
  split at h
  ·rename_i off size hpl
   cases hb:Nat.beq x.cells.length size&&Nat.ble (off+size) zs.length with
   | false=>rw[hb] at h;cases h
   | true =>
    rw[hb] at h
    simp only[cond_true] at h
    simp only[Bool.and_eq_true,Nat.beq_eq,Nat.ble_eq] at hb
    have hcl:=cells_of_rep hv.1 (hl (.v x) (by simp))
    have hlen:=hcl.length
    have hlz:=hz.length
    have hvs:v.cells.size=size:=by simp at hlen;omega
    have hfit:off+v.cells.size<=cells.size:=by simp at hlz;omega
    have hf:=foldl_zip off v.cells.toList 0 cells (by simpa using hfit)
    obtain⟨cells',h1,h2⟩:=fill_rep (cells:=(v.cells.toList.zipIdx 0).foldl (fun cs (p:Value×Nat)=>cs.setIfInBounds (off+p.2) p.1) cells) h (fun j hj=>hp j (by simp[hj])) (by rw[hf];exact hz.spl _ hcl) hv.2 (fun y hy=>hl y (by simp[hy]))
    refine⟨cells',?_,h2⟩
    rw[← h1]
    simp only[List.zip_cons_cons,Instr.fill,hp i (by simp) _ hpl]
    rw[if_neg (by simp[hvs];omega)]
    congr 1
    rw[← Array.foldl_toList]
    simp
  ·cases h
 | [],_::_,_,_,_,_,h,_,_,_,_=>by simp[partsA] at h
 | _::_,[],_,_,_,_,h,_,_,_,_=>by simp[partsA] at h
 | _::_,.tup _::_,_,_,_,_,h,_,_,_,_=>by simp[partsA] at h
 | _::_,.undef::_,_,_,_,_,h,_,_,_,_=>by simp[partsA] at h
 | _::_,.v _::_,[],_,_,_,_,_,_,h,_=>h.elim
theorem zip_map_operands {a:Act}(ps:List (Nat×Operand)):(ps.map fun p=>(p.1,a.eval p.2))=(ps.map (·.1)).zip ((ps.map (·.2)).map a.eval):=by
 induction ps with
 | nil=>rfl
 | cons p ps ih=>simp[ih]
theorem run_places {w:World}:∀ (fs:List Field) (l:List (Nat×Nat×Nat)),fieldsAre P fs l=true->(fs.mapM (fun f:Field=>(do let s ← Go.sizeOf f.type;pure (f.offset,s):Sem (Nat×Nat)))).run P w=.ok (l.map fun p=>(p.2.1,p.2.2)) w
 | [],[],_=>by simp
 | f::fs,(t,o,s)::l,h=>by
  simp only[fieldsAre,Bool.and_eq_true,Nat.beq_eq] at h
  obtain⟨⟨rfl,rfl,hs⟩,h⟩:=h
  have ih:=run_places (w:=w) fs l h
  have hi:∃ i,P.info? f.type=some i∧i.size=s:=by
   split at hs
   ·rename_i i hi;exact⟨i,hi,by simpa using hs⟩
   ·cases hs
  obtain⟨i,hi,hsz⟩:=hi
  simp only[List.mapM_cons,Sem.run_bind,Go.sizeOf,typeInfo,run_program,hi,Result.andThen_ok,Sem.run_pure,hsz,List.map_cons]
  simp only[Go.sizeOf,typeInfo] at ih
  rw[ih]
  rfl
 | [],_::_,h=>by simp[fieldsAre] at h
 | _::_,[],h=>by simp[fieldsAre] at h
theorem sem_build (hΓ:tabIs P Γ=true)(t:TypeId)(ps:Array (Nat×Operand))(vs:List AV)(hl:vs.all liveA=true):ResSem (OpSem P ⟨dst,.build t ps,ty,pos,aft,gd⟩ vs fr S) (buildA Γ t (ps.toList.map (·.1)) vs S):=by
 have hl':∀ x∈vs,match x with | .v y=>y.cells.all C.live=true | _=>True:=by
  intro x hx
  have:=List.all_eq_true.1 hl x hx
  cases x<;>simp_all [liveA]
 unfold buildA
 split
 ·rename_i fs sz by_ ag z eq hr
  split
  ·rename_i cs hcs
   obtain⟨d,i,ok⟩:=trOf_ok hΓ hr
   obtain⟨sf,hd,hfs⟩:=descIs_struct ok.desc rfl
   obtain⟨v,hv,hzs,hsz,_⟩:=ok.zero z rfl
   have hund:P.underlying t=some (.struct sf):=by rw[ok.und,hd]
   refine OpSem.pure fun γ F w a hI hA=>?_
   have hA':All2 (RepA γ F w) vs ((ps.toList.map (·.2)).map a.eval):=by
    have:=all2_args hA
    simpa [Op.operands] using this
   obtain⟨cells',h1,h2⟩:=fill_rep (place:=fun i=>(fs.map fun p=>(p.2.1,p.2.2)).toArray[i]?) hcs (fun i _ p hp=>by
    simp only[List.getElem?_toArray,List.getElem?_map]
    split at hp
    ·rename_i t' o' s' hfi
     injection hp with hp
     subst hp
     simp[hfi]
    ·cases hp) (zerosAre_rep hzs) hA' hl'
   have hp:=run_places (P:=P) (w:=w) sf.toList fs hfs
   refine⟨.agg cells',?_,cells'.toList,by simp,h2⟩
   have hm:(sf.mapM (fun f:Field=>(do let s ← Go.sizeOf f.type;pure (f.offset,s):Sem (Nat×Nat)))).run P w=.ok (fs.map fun p=>(p.2.1,p.2.2)).toArray w:=by
    rw[Array.mapM_eq_mapM_toList,Sem.run_map,hp]
    rfl
   have hparts:(Array.map (fun (i,x)=>(i,a.eval x)) ps).toList=(ps.toList.map (·.1)).zip ((ps.toList.map (·.2)).map a.eval):=by
    rw[Array.toList_map]
    exact zip_map_operands _
   simp only[execOp,Instr.build,Sem.run_bind,zeroValue,typeInfo,run_program,ok.inf,Result.andThen_ok,Sem.run_pure,hv,run_underlying hund]
   rw[hm]
   simp only[Result.andThen_ok,hparts,h1,Sem.run_pure]
  ·trivial
 ·rename_i n e sz by_ ag z eq hr
  split
  ·rename_i r hre
   split
   ·rename_i cs hcs
    obtain⟨d,i,ok⟩:=trOf_ok hΓ hr
    have hd:=descIs_array ok.desc rfl
    obtain⟨v,hv,hzs,hsz,_⟩:=ok.zero z rfl
    have hund:P.underlying t=some (.array n e):=by rw[ok.und,hd]
    obtain⟨d',i',ok'⟩:=trOf_ok hΓ hre
    refine OpSem.pure fun γ F w a hI hA=>?_
    have hA':All2 (RepA γ F w) vs ((ps.toList.map (·.2)).map a.eval):=by
     have:=all2_args hA
     simpa [Op.operands] using this
    obtain⟨cells',h1,h2⟩:=fill_rep (place:=fun i=>some (i*r.size,r.size)) hcs (fun i _ p hp=>hp) (zerosAre_rep hzs) hA' hl'
    refine⟨.agg cells',?_,cells'.toList,by simp,h2⟩
    have hparts:(Array.map (fun (i,x)=>(i,a.eval x)) ps).toList=(ps.toList.map (·.1)).zip ((ps.toList.map (·.2)).map a.eval):=by
     rw[Array.toList_map]
     exact zip_map_operands _
    simp only[execOp,Instr.build,Sem.run_bind,zeroValue,typeInfo,run_program,ok.inf,Result.andThen_ok,Sem.run_pure,hv,run_underlying hund,ok'.sizeOf,hparts,h1]
   ·trivial
  ·trivial
 ·trivial
theorem sem_newRow {γ:Nat->G}{F:FK}{w w':World}{E cap:Nat}{e:Ty}{m:RowK}{xs:List e.den}{arr:Array Value}{fz:Nat×Nat}(hI:Inv F γ S w)(hlt:StoLt fr S)(h:NewBlk w w' (.cells arr E fz))
  (hc:xs.length<=cap) (hm:cap<=maxLen) (hs:arr.size=cap*e.size) (hf:Flat F w e xs (arr.toList.take (xs.length*e.size))) (hz:match m with | .plain=>fz=(0,0) | .mark=>arr.size<=fz.1 | .frz=>False) :
  ∃ γ',Post fr γ F w S γ' F w' (S++[(fr,.row E e m xs)])∧RepA γ' F w' (one (.own fr)) (.slice (some ⟨w.heap.size,0,none⟩) xs.length cap):=by
 refine⟨setG γ fr ⟨some w.heap.size,xs.length,cap,e.size,none⟩,Post.new hI hlt h rfl ?_,?_⟩
 ·show RowOk F (setG γ fr _ fr) w' E e m xs
  rw[setG_self]
  have hnF:¬ F w.heap.size:=fun hF=>by have:=hI.fz _ hF;omega
  refine⟨rfl,rfl,.inr ⟨w.heap.size,arr,fz,_,rfl,h.new,hc,hm,hs,rfl,hf.lasts (hI.lasts_new h),?_⟩⟩
  cases m with
  | plain=>exact⟨hnF,hz⟩
  | mark=>exact⟨hnF,hz⟩
  | frz=>exact hz.elim
 ·show _=(setG γ fr _ fr).val
  rw[setG_self]
  rfl
theorem zeros_flat {F:FK}{w:World}{e:Ty}{z:List Value}(hz:RepD F w e e.dflt z):∀ n,Flat F w e (List.replicate n e.dflt) ((List.replicate n z).flatten)
 | 0=>by simp[Flat]
 | n+1=>⟨z,_,by simp[List.replicate_succ],hz,zeros_flat hz n⟩
theorem madeCells_flat (z:Array Value)(n:Nat)(hz:0<z.size):(madeCells z (n*z.size)).toList=(List.replicate n z.toList).flatten:=by
 apply List.ext_getElem?
 intro q
 simp only[madeCells,Array.toList_map,Array.toList_range,List.getElem?_map]
 by_cases hq:q<n*z.size
 ·have h1:(List.range (n*z.size))[q]?=some q:=by simp[hq]
  rw[h1]
  have hm:q % z.size<z.size:=Nat.mod_lt _ hz
  simp only[Option.map_some]
  have:∀ (k:Nat) (q:Nat),q<k*z.size->((List.replicate k z.toList).flatten)[q]?=some (z[q % z.size]!):=by
   intro k
   induction k with
   | zero=>intro q h;simp at h
   | succ k ih =>
    intro q h
    rw[List.replicate_succ,List.flatten_cons,List.getElem?_append]
    simp only[Array.length_toList]
    by_cases h2:q<z.size
    ·rw[if_pos h2,Nat.mod_eq_of_lt h2]
     simp[h2]
    ·rw[if_neg h2,ih (q - z.size) (by rw[Nat.add_mul] at h;omega)]
     congr 2
     rw[← Nat.mod_eq_sub_mod (by omega)]
  rw[this n q hq]
 ·have h1:(List.range (n*z.size))[q]?=none:=by simp;omega
  rw[h1]
  simp only[Option.map_none]
  symm
  apply List.getElem?_eq_none
  rw[List.length_flatten]
  simp
  omega
theorem run_make_new {w:World}{t E:Nat}{i:TypeInfo}{z:Value}(ht:P.underlying t=some (.slice E))(hi:P.info? E=some i)(hz:i.zero=some z)(l c:Int)(h0:0<=l)(hlc:l<=c)(hbytes:c*i.bytes<=281474976710656)(h63:c<=9223372036854775807) :
  (Instr.makeSlice t (.int .i64 l) (.int .i64 c)).run P w=.ok (.slice (some ⟨w.heap.size,0,none⟩) l.toNat c.toNat) (w.alloc (.cells (madeCells z.cells (c.toNat*i.size)) E)) :=
 run_make w t E i z ht hi hz .i64 .i64 l c h0 hlc (by rw[Int.mul_comm];exact hbytes) h63
theorem sameOp_eq {a:Act}{x y:Operand}{n m:Int}(h:sameOp x y=true)(hx:a.eval x=.int .i64 n)(hy:a.eval y=.int .i64 m):n=m:=by
 unfold sameOp at h
 split at h
 ·rename_i i j
  rw[Nat.beq_eq] at h
  subst h
  rw[hx] at hy
  injection hy
 ·rename_i p q
  simp only[decide_eq_true_eq] at h
  subst h
  rw[hx] at hy
  injection hy
 ·cases h
theorem sem_make (hΓ:tabIs P Γ=true)(t:TypeId)(x y:Operand)(ax ay:AV):ResSem (OpSem P ⟨dst,.makeSlice t x y,ty,pos,aft,gd⟩ [ax,ay] fr S) (makeA Γ t (sameOp x y) ax ay fr S):=by
 unfold makeA
 split
 ·rename_i E te sz by_ ag z eq n c hr
  obtain⟨d,i,ok⟩:=trOf_ok hΓ hr
  obtain⟨hd,ei,hei,hsz,hdf⟩:=descIs_slice ok.desc rfl
  have hund:P.underlying t=some (.slice E):=by rw[ok.und,hd]
  split
  ·rename_i hre
   obtain⟨d',i',ok'⟩:=trOf_ok hΓ hre
   have hii:i'=ei:=by have:=ok'.inf;rw[hei] at this;injection this with this;exact this.symm
   subst hii
   obtain⟨v,hv,hzs,hvs,_⟩:=ok'.zero _ rfl
   have hdfl:=hdf v hv
   have hby:=ok'.bytes
   simp only at hby
   have hvsz:v.cells.size=te.size:=by rw[hvs,← hsz];exact ok'.size.symm
   have hdr:∀ (F:FK) (w:World),RepD F w te te.dflt v.cells.toList:=by
    intro F w
    obtain⟨m,hm,hr⟩:=dfltIs_rep (F:=F) (w:=w) hdfl
    rw[List.append_nil] at hm
    rw[hm]
    exact hr
   cases hsame:sameOp x y with
   | true =>
    intro hc
    simp only[Bool.and_eq_true,decide_eq_true_eq] at hc
    intro γ F w a hI hlt _ hA next Q hn
    have hx:a.eval x=.int .i64 n:=hA.1
    have hy:a.eval y=.int .i64 c:=hA.2.1
    have hnc:=sameOp_eq hsame hx hy
    subst hnc
    have hrun:=run_make_new (P:=P) (w:=w) hund hei hv n n hc.1.1 (Int.le_refl _) (by rw[hby];omega) (by omega)
    rw[hsz,← hvsz] at hrun
    have hflat:=madeCells_flat v.cells n.toNat (by rw[hvsz];exact te.size_pos)
    obtain⟨γ',hp,hrp⟩:=sem_newRow (m:=.plain) (e:=te) (xs:=List.replicate n.toNat te.dflt) (cap:=n.toNat) hI hlt (NewBlk.alloc w (.cells (madeCells v.cells (n.toNat*v.cells.size)) E))
     (by simp) (by simp only[maxLen];omega) (by rw[size_madeCells,hvsz]) (by
      rw[hflat,List.take_of_length_le (by simp[hvsz])]
      exact zeros_flat (hdr F w) _) rfl
    rw[List.length_replicate] at hrp
    exact wp_of_value (by simp only[execOp,hx,hy];rw[Sem.run_bind,hrun];rfl) (hn _ γ' F _ hp hrp)
   | false =>
    simp only[cond_false]
    cases hn0:decide (n=0) with
    | false=>trivial
    | true =>
     intro hc
     simp only[Bool.and_eq_true,decide_eq_true_eq] at hc hn0
     intro γ F w a hI hlt _ hA next Q hn
     have hx:a.eval x=.int .i64 n:=hA.1
     have hy:a.eval y=.int .i64 c:=hA.2.1
     subst hn0
     have hrun:=run_make_new (P:=P) (w:=w) hund hei hv 0 c (Int.le_refl _) hc.1.1 (by rw[hby];omega) (by omega)
     rw[hsz,← hvsz] at hrun
     obtain⟨γ',hp,hrp⟩:=sem_newRow (m:=.plain) (e:=te) (xs:=[]) (cap:=c.toNat) hI hlt (NewBlk.alloc w (.cells (madeCells v.cells (c.toNat*v.cells.size)) E))
      (by simp) (by simp only[maxLen];omega) (by rw[size_madeCells,hvsz]) (by simp[Flat]) rfl
     exact wp_of_value (by simp only[execOp,hx,hy];rw[Sem.run_bind,hrun];rfl) (hn _ γ' F _ hp hrp)
  ·trivial
 ·trivial
theorem elemsA_flat {γ:Nat->G}{F:FK}{w:World}{e:Ty}:∀ {avs:List AV} {vs:List Value} {xs:List e.den},elemsA e avs=some xs->All2 (RepA γ F w) avs vs->Flat F w e xs (vs.flatMap fun v=>v.cells.toList)
  | [],[],xs,h,_=>by simp only[elemsA,Option.some.injEq] at h;subst h;rfl
  | .v x::avs,v::vs,xs,h,hr=>by
    simp only[elemsA] at h
    split at h
    · rename_i y ys hy hys
      injection h with h
      subst h
      have hlive:x.cells.all C.live=true:=by
        have:∀ (t:Ty) (cs:List C) (z:t.den) (r:List C),t.implode cs=some (z,r)->(∀ c∈cs,c∈r∨c.live=true):=by
          intro t
          induction t with
          | int k => intro cs z r h c hc; simp only [Ty.implode] at h; split at h <;> try (cases h; done)
                     split at h<;>try (cases h;done)
                     injection h with h;injection h with h1 h2;subst h2
                     rcases List.mem_cons.1 hc with rfl | hc
                     · exact .inr rfl
                     · exact .inl hc
          | bool => intro cs z r h c hc; simp only [Ty.implode] at h; split at h <;> try (cases h; done)
                    injection h with h;injection h with h1 h2;subst h2
                    rcases List.mem_cons.1 hc with rfl | hc
                    · exact .inr rfl
                    · exact .inl hc
          | str => intro cs z r h c hc; simp only [Ty.implode] at h; split at h <;> try (cases h; done)
                   injection h with h;injection h with h1 h2;subst h2
                   rcases List.mem_cons.1 hc with rfl | hc
                   · exact .inr rfl
                   · exact .inl hc
          | slice e _ =>
            intro cs z r h c hc
            simp only[Ty.implode] at h
            split at h
            · split at h<;>try (cases h;done)
              injection h with h;injection h with h1 h2;subst h2
              rcases List.mem_cons.1 hc with rfl | hc
              · exact .inr rfl
              · exact .inl hc
            · injection h with h;injection h with h1 h2;subst h2
              rcases List.mem_cons.1 hc with rfl | hc
              · exact .inr rfl
              · exact .inl hc
            · injection h with h;injection h with h1 h2;subst h2
              rcases List.mem_cons.1 hc with rfl | hc
              · exact .inr rfl
              · exact .inl hc
            · cases h
          | ref e _ =>
            intro cs z r h c hc
            simp only[Ty.implode] at h
            split at h
            · split at h<;>try (cases h;done)
              injection h with h;injection h with h1 h2;subst h2
              rcases List.mem_cons.1 hc with rfl | hc
              · exact .inr rfl
              · exact .inl hc
            · injection h with h;injection h with h1 h2;subst h2
              rcases List.mem_cons.1 hc with rfl | hc
              · exact .inr rfl
              · exact .inl hc
            · cases h
          | pair a b iha ihb =>
            intro cs z r h c hc
            simp only[Ty.implode] at h
            split at h<;>try (cases h;done)
            rename_i y c1 h1
            split at h<;>try (cases h;done)
            rename_i y' c2 h2
            injection h with h;injection h with e1 e2;subst e2
            rcases iha _ _ _ h1 c hc with hc | hc
            · exact ihb _ _ _ h2 c hc
            · exact .inr hc
        unfold Ty.whole at hy
        split at hy<;>try (cases hy;done)
        rename_i z hz
        rw[List.all_eq_true]
        intro c hc
        rcases this _ _ _ _ hz c hc with h | h
        · simp at h
        · exact h
      have hcl:=cells_of_rep hr.1 hlive
      exact⟨v.cells.toList,_,rfl,whole_rep hy hcl,elemsA_flat hys hr.2⟩
    · cases h
  | [],_::_,_,_,h=>h.elim
  | .v _::_,[],_,_,h=>h.elim
  | .tup _::_,_,_,h,_=>by simp[elemsA] at h
  | .undef::_,_,_,h,_=>by simp[elemsA] at h
end
end Go.Ab
namespace Go.Ab
theorem fill_up {size:Nat}:∀ {is:List Nat} {vs:List Value} {k:Nat} {cells:Array Value},isUp is k=true->is.length=vs.length->(∀ v∈vs,v.cells.size=size)->cells.size=(k+is.length)*size ->
  ∃ cells',Instr.fill (fun i=>some (i*size,size)) cells (is.zip vs)=some cells'∧cells'.toList=cells.toList.take (k*size)++vs.flatMap fun v=>v.cells.toList
 | [],[],k,cells,_,_,_,hs=>by
  refine⟨cells,rfl,?_⟩
  rw[List.take_of_length_le (by simp at hs ⊢;omega)]
  simp
 | i::is,v::vs,k,cells,hu,hl,hv,hs=>by
  simp only[isUp,Bool.and_eq_true,Nat.beq_eq] at hu
  obtain⟨rfl,hu⟩:=hu
  have hvs:=hv v (by simp)
  have e1:(i+(is.length+1))*size=i*size+size+is.length*size:=by rw[Nat.add_mul,Nat.add_mul];omega
  simp only[List.length_cons] at hs
  rw[e1] at hs
  have hfit:i*size+v.cells.size<=cells.size:=by omega
  have hf:=foldl_zip (i*size) v.cells.toList 0 cells (by simpa using hfit)
  have hfs:=congrArg List.length hf
  rw[spl_length _ _ _ (by simpa using hfit)] at hfs
  simp only[Array.length_toList] at hfs
  obtain⟨cells',h1,h2⟩:=fill_up (cells:=(v.cells.toList.zipIdx 0).foldl (fun cs (p:Value×Nat)=>cs.setIfInBounds (i*size+p.2) p.1) cells) hu (by simpa using hl) (fun u hu=>hv u (by simp[hu])) (by
   rw[hfs,Nat.add_mul,Nat.add_mul];omega)
  refine⟨cells',?_,?_⟩
  ·rw[← h1]
   simp only[List.zip_cons_cons,Instr.fill]
   rw[if_neg (by simp[hvs];omega)]
   congr 1
   rw[← Array.foldl_toList]
   simp
  ·rw[h2,hf]
   simp only[List.flatMap_cons,← List.append_assoc]
   congr 1
   unfold spl
   rw[Nat.add_zero,List.take_append_of_le_length (by simp[Nat.add_mul];omega),List.take_of_length_le (by simp[Nat.add_mul];omega),Nat.add_zero]
 | [],_::_,_,_,_,h,_,_=>by simp at h
 | _::_,[],_,_,_,h,_,_=>by simp at h
section
variable {P:Program} {dst:Option Tmp} {ty:TypeId} {pos:String} {aft:Array Edge} {gd:Option (Nat×Bool)} {fr:Nat} {S:Store} {Γ:Tab}
theorem elemsA_sizes {γ:Nat->G}{F:FK}{w:World}{e:Ty}:∀ {avs:List AV} {vs:List Value} {xs:List e.den},elemsA e avs=some xs->All2 (RepA γ F w) avs vs->(∀ v∈vs,v.cells.size=e.size)∧xs.length=vs.length
 | [],[],xs,h,_=>by simp only[elemsA,Option.some.injEq] at h;subst h;simp
 | .v x::avs,v::vs,xs,h,hr=>by
  have h0:=h
  simp only[elemsA] at h
  split at h
  ·rename_i y ys hy hys
   injection h with h
   subst h
   have h1:elemsA e [.v x]=some [y]:=by simp[elemsA,hy]
   have hf:=elemsA_flat (γ:=γ) (F:=F) (w:=w) (vs:=[v]) h1 ⟨hr.1,trivial⟩
   have hl:=hf.length
   simp at hl
   obtain⟨h2,h3⟩:=elemsA_sizes hys hr.2
   refine⟨fun u hu=>?_,by simp[h3]⟩
   rcases List.mem_cons.1 hu with rfl | hu
   ·exact hl
   ·exact h2 u hu
  ·cases h
 | [],_::_,_,_,h=>h.elim
 | .v _::_,[],_,_,h=>h.elim
 | .tup _::_,_,_,h,_=>by simp[elemsA] at h
 | .undef::_,_,_,h,_=>by simp[elemsA] at h
theorem sem_buildSlice (hΓ:tabIs P Γ=true)(t len:Nat)(ps:Array (Nat×Operand))(vs:List AV):ResSem (OpSem P ⟨dst,.buildSlice t len ps,ty,pos,aft,gd⟩ vs fr S) (buildSliceA Γ t len (ps.toList.map (·.1)) vs fr S):=by
 unfold buildSliceA
 split
 ·rename_i E te sz by_ ag z eq hr
  obtain⟨d,i,ok⟩:=trOf_ok hΓ hr
  obtain⟨hd,ei,hei,hsz,hdf⟩:=descIs_slice ok.desc rfl
  have hund:P.underlying t=some (.slice E):=by rw[ok.und,hd]
  split
  ·rename_i xs hre hxs
   obtain⟨d',i',ok'⟩:=trOf_ok hΓ hre
   have hii:i'=ei:=by have:=ok'.inf;rw[hei] at this;injection this with this;exact this.symm
   subst hii
   obtain⟨v,hv,hzs,hvs,_⟩:=ok'.zero _ rfl
   cases hb:isUp (ps.toList.map (·.1)) 0&&Nat.beq (ps.toList.map (·.1)).length len&&Nat.ble (len*te.size) 1000 with
   | false=>trivial
   | true =>
    simp only[Bool.and_eq_true,Nat.beq_eq,Nat.ble_eq] at hb
    obtain⟨⟨hup,hlen⟩,hsmall⟩:=hb
    intro γ F w a hI hlt _ hA next Q hn
    have hA':All2 (RepA γ F w) vs ((ps.toList.map (·.2)).map a.eval):=by
     have:=all2_args hA
     simpa [Op.operands] using this
    obtain⟨hsizes,hxl⟩:=elemsA_sizes hxs hA'
    have hflat:=elemsA_flat hxs hA'
    have hxlen:xs.length=len:=by rw[hxl];simp at hlen ⊢;exact hlen
    obtain⟨cells',h1,h2⟩:=fill_up (size:=te.size) (is:=ps.toList.map (·.1)) (vs:=(ps.toList.map (·.2)).map a.eval) (k:=0) (cells:=(Array.range (len*te.size)).map ((if len*te.size=0 then #[] else v.cells)[· % (if len*te.size=0 then #[] else v.cells).size]!)) hup (by simp) hsizes (by rw[Array.size_map,Array.size_range,hlen,Nat.zero_add])
    simp only[Nat.zero_mul,List.take_zero,List.nil_append] at h2
    have hparts:(Array.map (fun (i,x)=>(i,a.eval x)) ps).toList=(ps.toList.map (·.1)).zip ((ps.toList.map (·.2)).map a.eval):=by
     rw[Array.toList_map]
     exact zip_map_operands _
    have hcs:cells'.size=len*te.size:=by
     have:=congrArg List.length h2
     rw[hflat.length,hxlen] at this
     simpa using this
    obtain⟨γ',hp,hrp⟩:=sem_newRow (m:=.plain) (e:=te) (xs:=xs) (cap:=len) hI hlt (NewBlk.alloc w (.cells cells' E)) (by omega) (by
     have:=te.size_pos
     have h3:len*1<=len*te.size:=Nat.mul_le_mul_left _ this
     simp only[maxLen];omega) hcs (by rw[h2,List.take_of_length_le (by rw[hflat.length];exact Nat.le_refl _)];exact hflat) rfl
    rw[hxlen] at hrp
    refine wp_of_value ?_ (hn _ γ' F _ hp hrp)
    have h24:¬ (len*te.size > 2 ^ 24):=by omega
    simp only[execOp,Instr.buildSlice,Sem.run_bind,run_underlying hund,Result.andThen_ok,Go.sizeOf,typeInfo,run_program,hei,Sem.run_pure,hsz,if_neg h24,hparts]
    by_cases h0:len*te.size=0
    ·simp only[h0,if_true] at h1 ⊢
     simp only[Sem.run_pure,Result.andThen_ok,h1,newRow,Sem.run_bind,run_newObj]
     rfl
    ·simp only[if_neg h0] at h1 ⊢
     simp only[zeroValue,typeInfo,hv,Sem.run_bind,run_program,hei,Sem.run_pure,Result.andThen_ok,h1,newRow,run_newObj]
     rfl
  ·trivial
 ·trivial
end
end Go.Ab
namespace Go.Ab
theorem keep_append {α:Type}(f:Nat->Bool)(l m:List (Nat×α)):keep f (l++m)=keep f l++keep f m:=by
 induction l with
 | nil=>rfl
 | cons p l ih =>
  simp only[List.cons_append,keep]
  cases f p.1<;>simp[ih]
theorem bytes_flat {F:FK}{w:World}:∀ (l:List UInt8),Flat F w (.int .u8) (l.map fun b=>(b.toNat:Int)) (l.map fun b=>Value.int .u8 b.toNat)
 | []=>rfl
 | b::l=>⟨[_],_,rfl,rfl,bytes_flat l⟩
theorem flat_of_cells {F:FK}{w:World}{e:Ty}{b:Nat}:∀ {xs:List e.den} {o:Nat},(∀ i x,xs[i]?=some x->∃ l,RepD F w e x l∧∀ j u,l[j]?=some u->w.cell? ⟨b,o+(i*e.size+j),none⟩=some u) ->
  ∃ news,Flat F w e xs news∧∀ j u,news[j]?=some u->w.cell? ⟨b,o+j,none⟩=some u
 | [],o,_=>⟨[],rfl,fun j u h=>by simp at h⟩
 | x::xs,o,h=>by
  obtain⟨l,hl,hc⟩:=h 0 x rfl
  obtain⟨news,hn,hnc⟩:=flat_of_cells (xs:=xs) (o:=o+e.size) fun i y hy=>by
   obtain⟨m,hm,hmc⟩:=h (i+1) y (by simpa using hy)
   refine⟨m,hm,fun j u hu=>?_⟩
   have:=hmc j u hu
   rw[Nat.add_mul] at this
   have e1:o+e.size+(i*e.size+j)=o+(i*e.size+1*e.size+j):=by omega
   rw[e1]
   exact this
  refine⟨l++news,⟨l,news,rfl,hl,hn⟩,fun j u hu=>?_⟩
  rw[List.getElem?_append] at hu
  split at hu
  ·have:=hc j u hu
   simpa using this
  ·have:=hnc _ u hu
   have hll:=hl.length
   have e1:o+e.size+(j - l.length)=o+j:=by omega
   rw[e1] at this
   exact this
section
variable {P:Program} {dst:Option Tmp} {ty:TypeId} {pos:String} {aft:Array Edge} {gd:Option (Nat×Bool)} {fr:Nat} {S:Store} {Γ:Tab}
theorem Post.drop {γ γ':Nat->G}{F F':FK}{w w':World}{S':Store}(h:Post fr γ F w S γ' F' w' S')(f:Nat->Bool)(hd:∀ t x,look S' t=some x->x.isHeap=true->f t=true):Post fr γ F w S γ' F' w' (keep f S') :=
 ⟨h.os,h.tape,h.output,h.size,h.heap,h.gam,h.sub,h.fnew,fun b hb=>h.mine b hb.part,h.frz,h.inv.part f,fun hn=>h.kid0 (noHeap_of fun t x hx=>by
  cases hh:x.isHeap with
  | false=>rfl
  | true =>
   have:=noHeap_look hn (t:=t) (x:=x) (by rw[look_keep,hd t x hx hh];exact hx)
   rw[hh] at this
   cases this)⟩
theorem reads_src {F:FK}{w:World}{e:Ty}{ys:List e.den}{v:Value}(h:Reads F w e ys v){tx e':TypeId}(hk:P.underlying tx=some (.slice e')) :
  ∃ news,Flat F w e ys news∧Src P e.size tx v ys.length news w:=by
 obtain⟨A,n,cap,rfl,hn,hc,h⟩:=h
 by_cases h0:0<n
 ·obtain⟨b,o,hA,h'⟩:=h h0
  subst hA
  obtain⟨news,hf,hnc⟩:=flat_of_cells h'
  refine⟨news,hf,?_⟩
  rw[hn]
  exact Src.ofSlice w hk _ n cap news (by rw[hf.length,hn]) (fun j u hu=>by rw[addr_add];exact hnc j u hu) hf.ones
 ·have:n=0:=by omega
  subst this
  have:ys=[]:=List.eq_nil_of_length_eq_zero hn
  subst this
  refine⟨[],rfl,?_⟩
  cases A with
  | none=>exact Src.ofNil w hk cap
  | some a=>exact Src.ofSlice w hk a 0 cap [] (by simp) (fun j u hu=>by simp at hu) (fun u hu=>by simp at hu)
theorem sem_convert (hΓ:tabIs P Γ=true)(s d:TypeId)(x:Operand)(ax:AV):ResSem (OpSem P ⟨dst,.convert s d x,ty,pos,aft,gd⟩ [ax] fr S) (convertA Γ s d ax fr S):=by
 unfold convertA
 split
 ·rename_i ra rb hra hrb
  obtain⟨da,ia,oka⟩:=trOf_ok hΓ hra
  obtain⟨db,ib,okb⟩:=trOf_ok hΓ hrb
  split
  ·rename_i k1 k k2 n h1 h2
   have hda:=descIs_int oka.desc h1
   have hdb:=descIs_int okb.desc h2
   refine OpSem.pure fun γ F w a hI hA=>⟨.int k (k.wrap n),?_,rfl⟩
   have hx:a.eval x=.int k2 n:=hA.1
   simp[execOp,convert,run_underlying (oka.und.trans (congrArg some hda)),run_underlying (okb.und.trans (congrArg some hdb)),hx,Conv.intToInt]
  ·rename_i z h1 h2
   have hda:=descIs_str oka.desc h1
   have hdb:=descIs_str okb.desc h2
   refine OpSem.pure fun γ F w a hI hA=>⟨.string z,?_,rfl⟩
   have hx:a.eval x=.string z:=hA.1
   simp[execOp,convert,run_underlying (oka.und.trans (congrArg some hda)),run_underlying (okb.und.trans (congrArg some hdb)),hx]
  ·rename_i E z h1 h2
   have hda:=descIs_str oka.desc h1
   obtain⟨hdb,ei,hei,hsz,_⟩:=descIs_slice okb.desc h2
   split
   ·rename_i hre
    obtain⟨de,ie,oke⟩:=trOf_ok hΓ hre
    have hde:=descIs_int oke.desc rfl
    intro hc
    have hsz63:z.size<=9223372036854775807:=of_decide_eq_true hc
    intro γ F w a hI hlt _ hA next Q hn
    have hx:a.eval x=.string z:=hA.1
    let cap:=grownCap w z.size 0 E
    have hcap:z.size<=cap:=grownCap_ge w z.size 0 E
    have hcm:cap<=maxLen:=grownCap_le_maxLen w z.size 0 E (by simp only[maxLen];omega)
    let arr:Array Value:=z.data.map (fun b=>Value.int .u8 b.toNat)++Array.replicate (cap - z.size) (.int .u8 0)
    have harr:arr.size=cap:=by
     show (z.data.map (fun b=>Value.int .u8 b.toNat)++Array.replicate (cap - z.size) (Value.int .u8 0)).size=cap
     simp only[Array.size_append,Array.size_map,Array.size_replicate]
     have:z.data.size=z.size:=rfl
     omega
    let w1:=w.drew.alloc (.cells arr E)
    let w2:=w1.freeze { block:=w.heap.size,off:=arr.size } 1
    have hsh:w1.shape? w.heap.size=some (E,arr.size):=by
     show (match w1.heap[w.heap.size]? with | some (.cells c elem _)=>some (elem,c.size) | _=>none)=_
     have:w1.heap[w.heap.size]?=some (.cells arr E):=heap_alloc_new w.drew _
     rw[this]
    have hrun:(execOp a.eval ⟨dst,.convert s d x,ty,pos,aft,gd⟩).run P w=.ok (.value (.slice (some ⟨w.heap.size,0,none⟩) z.size cap)) w2:=by
     simp only[execOp,convert,Sem.run_bind,run_underlying (oka.und.trans (congrArg some hda)),run_underlying (okb.und.trans (congrArg some hdb)),Result.andThen_ok,hx,run_underlying (oke.und.trans (congrArg some hde)),Conv.stringToBytes,run_choose,Question.forced,Bool.false_eq_true,if_false,newRow,run_newObj,Sem.run_pure,markStringish,run_shape]
     have hsh':World.shape? { heap:=w.heap.push (.cells arr E),tape:=w.tape,drawn:=w.drawn+1,os:=w.os,output:=w.output } w.heap.size=some (E,arr.size):=hsh
     rw[show (Question.appendCap z.size 0 E).cut (w.tape w.drawn (Question.appendCap z.size 0 E))=cap from rfl]
     rw[show (Array.map (fun b=>Value.int IntKind.u8 ↑(UInt8.toNat b)) z.data++Array.replicate (cap - z.size) (Value.int IntKind.u8 0))=arr from rfl]
     simp only[hsh',Result.andThen_ok,run_freeze]
     rfl
    have hnb:NewBlk w w2 (.cells arr E (arr.size,arr.size+1)):=by
     refine⟨rfl,rfl,rfl,?_,?_,?_⟩
     ·show (w1.heap.modify _ _).size=_
      rw[Array.size_modify]
      exact World.size_alloc w.drew _
     ·intro b hb
      show (w1.heap.modify w.heap.size _)[b]?=_
      rw[Array.getElem?_modify,if_neg (by omega)]
      exact heap_alloc_old w.drew _ b hb
     ·show (w1.heap.modify w.heap.size _)[w.heap.size]?=_
      have:w1.heap[w.heap.size]?=some (.cells arr E):=heap_alloc_new w.drew _
      rw[Array.getElem?_modify,if_pos rfl,this]
      rfl
    have hbl:(bytesOf z).length=z.size:=by
     unfold bytesOf
     rw[List.length_map,Array.length_toList]
     rfl
    obtain⟨γ',hp,hrp⟩:=sem_newRow (m:=.mark) (e:=.int .u8) (xs:=bytesOf z) (cap:=cap) hI hlt hnb (by omega) hcm (by rw[harr];simp[Ty.size]) (by
     have h3:arr.toList=(z.data.toList.map fun b=>Value.int .u8 b.toNat)++List.replicate (cap - z.size) (Value.int .u8 0):=by
      show (z.data.map (fun b=>Value.int .u8 b.toNat)++Array.replicate (cap - z.size) (Value.int .u8 0)).toList=_
      simp
     rw[h3,List.take_left' (by
      rw[List.length_map,hbl,Array.length_toList]
      show z.size=z.size*1
      omega)]
     exact bytes_flat _) (Nat.le_refl _)
    rw[hbl] at hrp
    exact wp_of_value hrun (hn _ γ' F _ hp hrp)
   ·trivial
  ·rename_i E h1 h2
   obtain⟨hda,ei,hei,hsz,_⟩:=descIs_slice oka.desc h1
   have hdb:=descIs_str okb.desc h2
   split
   ·rename_i xs hre hq
    obtain⟨de,ie,oke⟩:=trOf_ok hΓ hre
    have hde:=descIs_int oke.desc rfl
    refine OpSem.pure fun γ F w a hI hA=>⟨.string (strOfNums xs),?_,rfl⟩
    obtain⟨A,n,cap,hv,hn,_,h⟩:=seqOf_reads hI hq hA.1
    have hs:=oka.und.trans (congrArg some hda)
    have he:=oke.und.trans (congrArg some hde)
    have hdd:=okb.und.trans (congrArg some hdb)
    by_cases h0:0<n
    ·obtain⟨b,o,hA',h'⟩:=h h0
     subst hA'
     have:=run_convert_bytes_arg (P:=P) w s E hs he b o n cap xs hn (fun i hi=>by
      have hix:i<xs.length:=by rw[hn];exact hi
      obtain⟨l,hl,hc⟩:=h' i _ (List.getElem?_eq_getElem hix)
      simp only[RepD] at hl
      subst hl
      have:=hc 0 _ rfl
      simp only[Ty.size,Nat.mul_one,Nat.add_zero] at this
      rw[this]
      simp[List.getD,List.getElem?_eq_getElem hix]) d hdd
     simp[execOp,hv,this]
    ·have hn0:n=0:=by omega
     subst hn0
     have hx0:xs=[]:=List.eq_nil_of_length_eq_zero hn
     subst hx0
     cases A with
     | none =>
      have:=run_convert_bytes_nil (P:=P) w s E hs he 0 cap d hdd
      simp[execOp,hv,this]
      rfl
     | some ad =>
      have:=run_convert_bytes_string (P:=P) w s d E (some ad) 0 cap hs he hdd
      have h2:=run_bytesToString (P:=P) w ad 0 cap [] (by simp[loadCells,loadCellsFrom])
      simp[execOp,hv,this,h2]
      rfl
   ·trivial
  ·trivial
 ·trivial
end
end Go.Ab
