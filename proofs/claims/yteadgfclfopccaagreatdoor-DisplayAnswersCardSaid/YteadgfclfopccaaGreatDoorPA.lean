/- Joined texts. -/
import Derived.Test.YteadgfclfopccaaGreatDoorAC
import Derived.Laws.Strings
import Derived.Test.YteadgfclfopccaaGreatDoorFeJ
import Derived.KernelRfl
set_option linter.unusedVariables false
set_option linter.unusedSimpArgs false
namespace Go.Ab
theorem wi {x:Int}(h0:-9223372036854775808<=x)(h1:x<=9223372036854775807):IntKind.i64.wrap x=x:=by
 rw[IntKind.wrap_i64];omega
theorem bind_some' {α β:Type}(a:α)(f:α->Option β):Option.bind (some a) f=f a:=rfl
theorem bif_true {α:Type}{c:Bool}(h:c=true)(a b:α):(bif c then a else b)=a:=by rw[h];rfl
theorem bif_false {α:Type}{c:Bool}(h:c=false)(a b:α):(bif c then a else b)=b:=by rw[h];rfl
theorem strEq_self (x:ByteArray):strEq x x=true:=by simp[strEq]
end Go.Ab
namespace Go.Ab
def S (l:List UInt8):ByteArray:=⟨l.toArray⟩
theorem S_list (l:List UInt8):(S l).data.toList=l:=by simp[S]
theorem S_of (s:ByteArray):S s.data.toList=s:=by cases s;simp[S]
theorem S_ext {a b:ByteArray}(h:a.data.toList=b.data.toList):a=b:=by rw[← S_of a,← S_of b,h]
theorem S_size (l:List UInt8):(S l).size=l.length:=by simp[S,ByteArray.size]
theorem S_app (l m:List UInt8):S l++S m=S (l++m):=S_ext (by simp[S_list])
theorem S_cut (l:List UInt8)(i j:Nat):(S l).extract i j=S ((l.take j).drop i):=S_ext (by
 rw[S_list]
 simp[S,List.extract_eq_take_drop,List.drop_take])
theorem S_nums (xs:List Int):strOfNums xs=S (xs.map fun n=>UInt8.ofNat n.toNat):=rfl
theorem S_bt (l:List UInt8)(i:Nat)(h:i<l.length):bt (S l) (i:Int)=((l.getD i 0).toNat:Int):=by
 unfold bt
 rw[dif_pos (by rw[S_size];simpa using h)]
 simp[S,List.getD_eq_getElem?_getD,h]
 rfl
def ints (l:List UInt8):List Int:=l.map fun b=>(b.toNat:Int)
theorem S_bytes (l:List UInt8):bytesOf (S l)=ints l:=by
 unfold bytesOf
 rw[S_list]
 rfl
theorem S_back (l:List UInt8):strOfNums (ints l)=S l:=by
 rw[S_nums]
 unfold ints
 rw[List.map_map]
 congr 1
 conv=>rhs;rw[← List.map_id l]
 refine List.map_congr_left fun b _=>?_
 simp
theorem byte_rng (b:UInt8):0<=(b.toNat:Int)∧(b.toNat:Int)<=255:=by
 have:=b.toNat_lt
 omega
theorem sliceB {a b n:Nat}(h1:a<=b)(h2:b<=n):sliceBds (a:Int) (b:Int) (n:Int)=true:=by
 unfold sliceBds
 simp
 omega
theorem sliceB0 {b n:Nat}(h2:b<=n):sliceBds 0 (b:Int) (n:Int)=true:=sliceB (a:=0) (by omega) h2
theorem iter_list {α A V R:Type}{Step:(V->Option R)->V->Option R}(l:List α)(mk:Nat->A->V)(g:List α->A->Option R)(P:Nat->A->Prop)
  (hnil:∀ rec a,P l.length a->Step rec (mk l.length a)=g [] a)
  (hcons:∀ rec i a x,l[i]?=some x->i<l.length->P i a->(∃ a',P (i+1) a'∧Step rec (mk i a)=rec (mk (i+1) a')∧g (x::l.drop (i+1)) a=g (l.drop (i+1)) a')∨Step rec (mk i a)=g (x::l.drop (i+1)) a) :
  ∀ {k:Nat},l.length<k->∀ a,P 0 a->iterS Step k (mk 0 a)=g l a:=by
 have main:∀ (d i k:Nat),i+d=l.length->d<k->∀ a,P i a->iterS Step k (mk i a)=g (l.drop i) a:=by
  intro d
  induction d with
  | zero =>
   intro i k hi hk a hp
   cases k with
   | zero=>omega
   | succ k =>
    have hi:i=l.length:=by omega
    subst hi
    show Step (iterS Step k) _=_
    rw[hnil _ _ hp,List.drop_length]
  | succ d ih =>
   intro i k hi hk a hp
   cases k with
   | zero=>omega
   | succ k =>
    show Step (iterS Step k) _=_
    have hl:i<l.length:=by omega
    have hx:l[i]?=some l[i]:=List.getElem?_eq_getElem hl
    rw[List.drop_eq_getElem_cons hl]
    rcases hcons (iterS Step k) i a _ hx hl hp with ⟨a',hp',h1,h2⟩ | h
    ·rw[h1,h2]
     exact ih (i+1) k (by omega) (by omega) a' hp'
    ·exact h
 intro k hk a hp
 exact main l.length 0 k (by omega) hk a hp
theorem iter_from {α A V R:Type}{Step:(V->Option R)->V->Option R}(l:List α)(mk:Nat->A->V)(g:List α->A->Option R)(P:Nat->A->Prop)
  (hnil:∀ rec a,P l.length a->Step rec (mk l.length a)=g [] a)
  (hcons:∀ rec i a x,l[i]?=some x->i<l.length->P i a->(∃ a',P (i+1) a'∧Step rec (mk i a)=rec (mk (i+1) a')∧g (x::l.drop (i+1)) a=g (l.drop (i+1)) a')∨Step rec (mk i a)=g (x::l.drop (i+1)) a) :
  ∀ {k:Nat},l.length<k->∀ i a,i<=l.length->P i a->iterS Step k (mk i a)=g (l.drop i) a:=by
 have main:∀ (d i k:Nat),i+d=l.length->d<k->∀ a,P i a->iterS Step k (mk i a)=g (l.drop i) a:=by
  intro d
  induction d with
  | zero =>
   intro i k hi hk a hp
   cases k with
   | zero=>omega
   | succ k =>
    have hi:i=l.length:=by omega
    subst hi
    show Step (iterS Step k) _=_
    rw[hnil _ _ hp,List.drop_length]
  | succ d ih =>
   intro i k hi hk a hp
   cases k with
   | zero=>omega
   | succ k =>
    show Step (iterS Step k) _=_
    have hl:i<l.length:=by omega
    have hx:l[i]?=some l[i]:=List.getElem?_eq_getElem hl
    rw[List.drop_eq_getElem_cons hl]
    rcases hcons (iterS Step k) i a _ hx hl hp with ⟨a',hp',h1,h2⟩ | h
    ·rw[h1,h2]
     exact ih (i+1) k (by omega) (by omega) a' hp'
    ·exact h
 intro k hk i a hi hp
 exact main (l.length - i) i k (by omega) (by omega) a hp
theorem iter_up {A V R:Type}{Step:(V->Option R)->V->Option R}(n:Nat)(mk:Nat->A->V)(g:Nat->A->Option R)(P:Nat->A->Prop)
  (hnil:∀ rec a,P n a->Step rec (mk n a)=g n a)
  (hcons:∀ rec i a,i<n->P i a->(∃ a',P (i+1) a'∧Step rec (mk i a)=rec (mk (i+1) a')∧g i a=g (i+1) a')∨Step rec (mk i a)=g i a) :
  ∀ {k:Nat},n<k->∀ a,P 0 a->iterS Step k (mk 0 a)=g 0 a:=by
 have main:∀ (d i k:Nat),i+d=n->d<k->∀ a,P i a->iterS Step k (mk i a)=g i a:=by
  intro d
  induction d with
  | zero =>
   intro i k hi hk a hp
   cases k with
   | zero=>omega
   | succ k =>
    have hi:i=n:=by omega
    subst hi
    exact hnil _ _ hp
  | succ d ih =>
   intro i k hi hk a hp
   cases k with
   | zero=>omega
   | succ k =>
    show Step (iterS Step k) _=_
    rcases hcons (iterS Step k) i a (by omega) hp with ⟨a',hp',h1,h2⟩ | h
    ·rw[h1,h2]
     exact ih (i+1) k (by omega) (by omega) a' hp'
    ·exact h
 intro k hk a hp
 exact main n 0 k (by omega) hk a hp
theorem getD_of {α:Type}{l:List α}{i:Nat}{x d:α}(h:l[i]?=some x):l.getD i d=x:=by
 rw[List.getD_eq_getElem?_getD,h];rfl
theorem inb {i n:Nat}(h:i<n):((decide ((0:Int)<=(i:Int)))&&(decide ((i:Int)<(n:Int))))=true:=by
 simp
 omega
theorem ltn {i n:Nat}(h:i<n):decide ((i:Int)<(n:Int))=true:=by simp;omega
theorem wi_succ {i:Nat}(h:i<9223372036854775807):IntKind.i64.wrap ((i:Int)+1)=((i+1:Nat):Int):=by
 rw[wi (by omega) (by omega)]
 omega
end Go.Ab
namespace Go.Ab
abbrev SF:=Int×(Int×(Int×(Bool×(Bool×Bool))))
abbrev Scr:=ByteArray×(List SF×Int)
def fEnd (x:SF):Int:=x.1+x.2.1
def ovl (x y:SF):Bool:=decide (x.1 - 1<fEnd y)&&decide (y.1 - 1<fEnd x)
def insS (x:SF):List SF->List SF
 | []=>[x]
 | y::l=>bif decide (x.1<y.1) then x::y::l else y::insS x l
def wrF (F:List SF)(x:SF):List SF:=insS x (F.filter fun y=>!ovl y x)
structure OkF (x:SF):Prop where
 a:1<=x.1
 l:1<=x.2.1
 e:fEnd x<=1920
 t0:0<=x.2.2.1
 t1:x.2.2.1<=15
 i:(x.2.2.2.2.2||x.2.2.2.2.1)=true->x.2.2.2.1=true
structure RightF (F:List SF):Prop where
 ok:∀ x∈F,OkF x
 pw:F.Pairwise fun a b=>fEnd a<b.1
theorem mem_insS {x z:SF}:∀ {l:List SF},z∈insS x l↔z=x∨z∈l
 | []=>by simp[insS]
 | y::l=>by
  unfold insS
  cases decide (x.1<y.1) with
  | true=>simp
  | false =>
   simp only[cond_false,List.mem_cons,mem_insS]
   constructor
   ·rintro (h | h | h)
    ·exact .inr (.inl h)
    ·exact .inl h
    ·exact .inr (.inr h)
   ·rintro (h | h | h)
    ·exact .inr (.inl h)
    ·exact .inl h
    ·exact .inr (.inr h)
theorem mem_wrF {F:List SF}{x z:SF}:z∈wrF F x↔z=x∨(z∈F∧ovl z x=false):=by
 unfold wrF
 rw[mem_insS,List.mem_filter]
 simp
theorem ovl_false {x y:SF}(hx:OkF x)(hy:OkF y):ovl x y=false↔fEnd x<y.1∨fEnd y<x.1:=by
 have:=hx.l
 have:=hy.l
 unfold ovl
 rw[Bool.and_eq_false_iff,decide_eq_false_iff_not,decide_eq_false_iff_not]
 unfold fEnd
 omega
theorem ins_pw {x:SF}(hx:OkF x):∀ {l:List SF},(∀ y∈l,OkF y∧ovl y x=false)->l.Pairwise (fun a b=>fEnd a<b.1)->(insS x l).Pairwise fun a b=>fEnd a<b.1
 | [],_,_=>by simp[insS]
 | y::l,h,hp=>by
  obtain⟨hy,ho⟩:=h y (by simp)
  have ho:=(ovl_false hy hx).1 ho
  have hxl:=hx.l
  have hyl:=hy.l
  rw[List.pairwise_cons] at hp
  unfold insS
  by_cases c:x.1<y.1
  ·rw[decide_eq_true c]
   simp only[cond_true,List.pairwise_cons]
   have h1:fEnd x<y.1:=by
    rcases ho with ho | ho
    ·unfold fEnd at ho;omega
    ·exact ho
   refine⟨fun z hz=>?_,hp.1,hp.2⟩
   rcases List.mem_cons.1 hz with rfl | hz
   ·exact h1
   ·have:=hp.1 z hz
    unfold fEnd at *
    omega
  ·rw[decide_eq_false c]
   simp only[cond_false,List.pairwise_cons]
   have h1:fEnd y<x.1:=by
    rcases ho with ho | ho
    ·exact ho
    ·unfold fEnd at ho;omega
   refine⟨fun z hz=>?_,ins_pw hx (fun z hz=>h z (by simp[hz])) hp.2⟩
   rcases mem_insS.1 hz with rfl | hz
   ·exact h1
   ·exact hp.1 z hz
theorem RightF.wr {F:List SF}{x:SF}(h:RightF F)(hx:OkF x):RightF (wrF F x):=by
 refine⟨fun z hz=>?_,ins_pw hx (fun y hy=>?_) (h.pw.filter _)⟩
 ·rcases mem_wrF.1 hz with rfl | hz
  ·exact hx
  ·exact h.ok z hz.1
 ·rw[List.mem_filter] at hy
  exact⟨h.ok y hy.1,by simpa using hy.2⟩
theorem ins_split {x:SF}:∀ {l:List SF} {i:Nat},i<=l.length->(∀ y∈l.take i,y.1<x.1)->(∀ y∈l.drop i,x.1<y.1)->l.take i++[x]++l.drop i=insS x l
 | [],i,h,_,_=>by simp[insS]
 | y::l,0,h,_,h2=>by
  have:=h2 y (by simp)
  simp[insS,this]
 | y::l,i+1,h,h1,h2=>by
  have:=h1 y (by simp)
  have ih:=ins_split (x:=x) (l:=l) (i:=i) (by simpa using h) (fun z hz=>h1 z (by simp[hz])) (fun z hz=>h2 z (by simpa using hz))
  unfold insS
  rw[decide_eq_false (by omega)]
  simp only[cond_false,List.take_succ_cons,List.drop_succ_cons,List.cons_append]
  rw[← ih]
theorem RightF.lt {F:List SF}(h:RightF F):F.Pairwise fun a b=>a.1<b.1:=by
 have hk:=h.ok
 have:=h.pw
 clear h
 induction F with
 | nil=>exact List.Pairwise.nil
 | cons a l ih =>
  rw[List.pairwise_cons] at this ⊢
  refine⟨fun b hb=>?_,ih (fun x hx=>hk x (by simp[hx])) this.2⟩
  have h1:=this.1 b hb
  have h2:=(hk a (by simp)).l
  unfold fEnd at h1
  omega
def patch (c:List UInt8)(i:Nat)(b:List UInt8):List UInt8:=c.take i++b++c.drop (i+b.length)
theorem patch_len {c:List UInt8}{i:Nat}{b:List UInt8}(h:i+b.length<=c.length):(patch c i b).length=c.length:=by
 simp[patch];omega
theorem patch_mem {c:List UInt8}{i:Nat}{b:List UInt8}{P:UInt8->Prop}(hc:∀ x∈c,P x)(hb:∀ x∈b,P x):∀ x∈patch c i b,P x:=by
 intro x hx
 simp only[patch,List.mem_append] at hx
 rcases hx with (hx | hx) | hx
 ·exact hc x (List.mem_of_mem_take hx)
 ·exact hb x hx
 ·exact hc x (List.mem_of_mem_drop hx)
end Go.Ab
namespace Go.Proofs.YteadgfclfopccaaGreatDoor
open Go.Ab
def tyErr (kd ln sc:Int):Int :=
 if ¬ (0<=kd∧kd<=4) then 4
 else if ¬ (if kd=0 then 1<=ln∧ln<=256 else if kd=1∨kd=2 then 1<=ln∧ln<=15 else if kd=3 then ln=4∨ln=9 else ln=0) then 18
 else if ¬ (0<=sc∧sc<=(if kd=0∨kd=4 then 0 else ln)) then 3
 else 0
def pw (n:Int):Int:=10 ^ n.toNat
theorem wu64 (x:Int):IntKind.u64.wrap x=x % 18446744073709551616:=by
 simp[IntKind.wrap,IntKind.signed,IntKind.bits]
theorem shr64 {x:Int}{n:Nat}(hn:n<=64):shrI .u64 x (n:Int)=x / 2 ^ n:=by
 unfold shrI
 rw[show IntKind.u64.bits=64 from rfl,Int.toNat_natCast,Nat.min_eq_left hn,Int.fdiv_eq_ediv_of_nonneg _ (Int.le_of_lt (Int.pow_pos (by decide)))]
theorem nn (i:Nat):decide ((0:Int)<=(i:Int))=true:=by simp
theorem bne0 {x:Int}(h:x≠0):(x !=0)=true:=by simpa using h
def fst0:List Int->Int
 | []=>0
 | x::l=>if x≠0 then x else fst0 l
theorem f966q (l:List Int)(hl:l.length<5000):f966F 5000 l=some (fst0 l):=by
 unfold f966F f966l0
 refine iter_list (k:=5000) (R:=Int) (A:=Unit) l (fun i _=>(l,(l.length:Int),(i:Int),())) (fun m _=>some (fst0 m)) (fun _ _=>True) ?_ ?_ hl () trivial
 ·intro rec a _
  unfold f966l0s
  simp[fst0]
 ·intro rec i a x hx hi _
  unfold f966l0s
  simp only[ltn hi,nn,Bool.and_self,cond_true,Int.toNat_natCast,getD_of hx,wi_succ (i:=i) (by omega)]
  by_cases h:x=0
  ·exact .inl ⟨(),trivial,by simp[h],by simp[fst0,h]⟩
  ·exact .inr (by rw[bif_true (bne0 h)];simp[fst0,h])
theorem first2 (a b:Int):f966F 5000 [a,b]=some (fst0 [a,b]):=f966q _ (by simp)
theorem first3 (a b c:Int):f966F 5000 [a,b,c]=some (fst0 [a,b,c]):=f966q _ (by simp)
theorem first4 (a b c d:Int):f966F 5000 [a,b,c,d]=some (fst0 [a,b,c,d]):=f966q _ (by simp)
theorem f968q (k:Nat)(b:Bool)(e:Int):f968F k (b,e)=some (bif b then e else 0):=by
 unfold f968F
 cases b<;>rfl
theorem f969q (k:Nat)(a b c:Int):f969F k (a,b,c)=some (decide (b<=a)&&decide (a<=c)):=by
 unfold f969F
 simp only
 cases decide (b<=a)<;>rfl
theorem f48w (k:Nat)(a b c:Int):f48F k (a,b,c)=some (decide (b<=a)&&decide (a<=c)):=by
 unfold f48F
 simp only
 cases decide (b<=a)<;>rfl
def dgc (c:Int):Bool:=decide (48<=c)&&decide (c<=57)
theorem f225w (k:Nat)(c:Int):f225F k c=some (dgc c):=by
 unfold f225F dgc
 cases decide ((48:Int)<=c)<;>rfl
def shc (c:Int):Bool:=decide (32<=c)&&decide (c<=126)
def isTx (s:ByteArray):Bool:=(bytesOf s).all shc
theorem f1082q (k:Nat)(c:Int):f1082F k c=some (!shc c):=by
 unfold f1082F shc
 by_cases h:c<32
 ·rw[bif_true (by simpa using h),decide_eq_false (by omega)];rfl
 ·rw[bif_false (by simpa using h),decide_eq_true (show 32<=c by omega)]
  by_cases h2:c<=126
  ·rw[decide_eq_true h2,decide_eq_false (by omega)];rfl
  ·rw[decide_eq_false h2,decide_eq_true (by omega)];rfl
def ixF {α:Type}(p:α->Bool):Nat->List α->Int
 | _,[]=>-1
 | i,x::l=>bif p x then (i:Int) else ixF p (i+1) l
def ix {α:Type}(p:α->Bool)(l:List α):Int:=ixF p 0 l
theorem ixF_lt {α:Type}(p:α->Bool):∀ (l:List α) (i:Nat),ixF p i l=-1∧(∀ x∈l,p x=false)∨∃ j x,ixF p i l=((i+j:Nat):Int)∧l[j]?=some x∧p x=true∧∀ m,m<j->∀ y,l[m]?=some y->p y=false
 | [],i=>.inl ⟨rfl,fun x h=>by cases h⟩
 | x::l,i=>by
  unfold ixF
  cases h:p x with
  | true=>exact .inr ⟨0,x,rfl,rfl,h,fun m hm=>by omega⟩
  | false =>
   rcases ixF_lt p l (i+1) with ⟨h1,h2⟩ | ⟨j,y,h1,h2,h3,h4⟩
   ·refine .inl ⟨h1,fun z hz=>?_⟩
    rcases List.mem_cons.1 hz with e | hz
    ·rw[e];exact h
    ·exact h2 z hz
   ·refine .inr ⟨j+1,y,by rw[cond_false,h1];omega,h2,h3,fun m hm z hz=>?_⟩
    cases m with
    | zero=>simp at hz;rw[← hz];exact h
    | succ m=>exact h4 m (by omega) z hz
theorem ix_spec {α:Type}(p:α->Bool)(l:List α):ix p l=-1∧(∀ x∈l,p x=false)∨∃ (j:Nat) (x:α),ix p l=(j:Int)∧l[j]?=some x∧p x=true∧∀ m,m<j->∀ y,l[m]?=some y->p y=false:=by
 rcases ixF_lt p l 0 with h | ⟨j,x,h1,h2⟩
 ·exact .inl h
 ·exact .inr ⟨j,x,by unfold ix;rw[h1,Nat.zero_add],h2⟩
theorem iter_find {α V R:Type}{Step:(V->Option R)->V->Option R}(l:List α)(p:α->Bool)(mk:Nat->V)(F:Int->Option R)
  (hnil:∀ rec,Step rec (mk l.length)=F (-1))
  (hcons:∀ rec (i:Nat) x,l[i]?=some x->i<l.length->Step rec (mk i)=bif p x then F (i:Int) else rec (mk (i+1))) {k:Nat} (hk:l.length<k):iterS Step k (mk 0)=F (ix p l):=by
 refine iter_list (k:=k) (A:=Nat) l (fun i _=>mk i) (fun m a=>F (ixF p a m)) (fun i a=>a=i) ?_ ?_ hk 0 rfl
 ·intro rec a _
  exact hnil rec
 ·intro rec i a x hx hi hp
  subst hp
  rw[hcons rec a x hx hi]
  rw[show ixF p a (x::l.drop (a+1))=bif p x then (a:Int) else ixF p (a+1) (l.drop (a+1)) from rfl]
  cases p x with
  | true=>exact .inr rfl
  | false=>exact .inl ⟨_,rfl,rfl,rfl⟩
theorem ix_nonneg {α:Type}(p:α->Bool)(l:List α):decide (ix p l≥0)=!(ix p l==-1):=by
 rcases ix_spec p l with ⟨h,_⟩ | ⟨j,x,h,_⟩
 ·rw[h];rfl
 ·rw[h,decide_eq_true (by omega)];simp
theorem ix_any {α:Type}(p:α->Bool)(l:List α):(!(ix p l==-1))=l.any p:=by
 rcases ix_spec p l with ⟨h,g⟩ | ⟨j,x,h,hx,hp,_⟩
 ·rw[h]
  have:l.any p=false:=by rw[List.any_eq_false];intro x hx;rw[g x hx];decide
  rw[this];rfl
 ·have:l.any p=true:=List.any_eq_true.2 ⟨x,List.mem_of_getElem? hx,hp⟩
  rw[h,this];simp
theorem f1118q (l:List Int)(hl:l.length<5000):f1118v0F 5000 (l,())=some (ix (fun c=>!shc c) l,l,()):=by
 unfold f1118v0F f1118v0l0
 refine iter_find l (fun c=>!shc c) (fun i=>((l.length:Int),(i:Int),l,())) (fun i=>some (i,l,())) ?_ ?_ hl
 ·intro rec
  unfold f1118v0l0s
  simp
 ·intro rec i x hx hi
  unfold f1118v0l0s
  simp only[ltn hi,nn,Bool.and_self,cond_true,Int.toNat_natCast,getD_of hx,f1082q,bind_some',wi_succ (i:=i) (by omega)]
theorem f1024q (s:ByteArray)(hs:s.size<5000):f1024F 5000 s=some (isTx s):=by
 have hl:(bytesOf s).length=s.size:=by unfold bytesOf;rw[List.length_map];rfl
 unfold f1024F f1081v0F
 simp only[show decide (s.size<=9223372036854775807)=true by simp;omega,cond_true,f1118q _ (show (bytesOf s).length<5000 by omega),bind_some',ix_nonneg,ix_any,isTx]
 congr 1
 rw[Bool.eq_iff_iff]
 simp[List.all_eq_true]
theorem f1010q (s:ByteArray)(hs:s.size<5000):f1010F 5000 s=some (isTx s):=by
 obtain⟨l,rfl⟩:∃ l,s=S l:=⟨_,(S_of s).symm⟩
 rw[S_size] at hs
 unfold f1010F f1010l0 isTx
 rw[S_bytes]
 refine iter_list (k:=5000) (R:=Bool) (A:=Unit) l (fun i _=>(S l,(i:Int),())) (fun m _=>some ((ints m).all shc)) (fun _ _=>True) ?_ ?_ hs () trivial
 ·intro rec a _
  unfold f1010l0s
  simp[S_size,ints]
 ·intro rec i a x hx hi _
  unfold f1010l0s
  have hg:l.getD i 0=x:=getD_of hx
  simp only[S_size,ltn hi,nn,Bool.and_self,cond_true,S_bt l i hi,hg,wi_succ (i:=i) (by omega)]
  have e:(ints (x::l.drop (i+1))).all shc=(shc (x.toNat:Int)&&(ints (l.drop (i+1))).all shc):=rfl
  rw[e]
  by_cases h:((x.toNat:Nat):Int)<32
  ·refine .inr ?_
   rw[bif_true (by simpa using h),show shc (x.toNat:Int)=false by unfold shc;rw[decide_eq_false (by omega)];rfl]
   rfl
  ·by_cases h2:((x.toNat:Nat):Int) > 126
   ·refine .inr ?_
    rw[bif_false (by simpa using h),bif_true (by simpa using h2),show shc (x.toNat:Int)=false by unfold shc;rw[decide_eq_false (show ¬ ((x.toNat:Int)<=126) by omega),Bool.and_false]]
    rfl
   ·refine .inl ⟨(),trivial,?_,?_⟩
    ·rw[bif_false (by simpa using h),bif_false (by simpa using h2)]
    ·rw[show shc (x.toNat:Int)=true by unfold shc;rw[decide_eq_true (by omega),decide_eq_true (by omega)];rfl,Bool.true_and]
abbrev Cnd:=Int×Bool
abbrev Fld:=ByteArray×(Int×(Int×((Int×(Int×Int))×(Int×(ByteArray×(Int×List Cnd))))))
abbrev Ky:=Int×(Int×Bool)
abbrev Fmt:=ByteArray×(List Fld×List Ky)
def lenF (x:Fld):Int :=
 if x.2.2.2.2.1=0 then (x.2.2.2.2.2.1.size:Int) else if x.2.2.2.1.1=0 then x.2.2.2.1.2.1
 else if x.2.2.2.1.2.2=x.2.2.2.1.2.1 then x.2.2.2.1.2.1+3 else if x.2.2.2.1.2.2 > 0 then x.2.2.2.1.2.1+2 else x.2.2.2.1.2.1+1
def TyOk (x:Fld):Prop:=x.2.2.2.2.1=0∨(tyErr x.2.2.2.1.1 x.2.2.2.1.2.1 x.2.2.2.1.2.2=0∧x.2.2.2.1.1≠4)
def NearC (x:Fld):Prop:=2<=x.2.2.1∧x.2.2.1<=80
def okInd (n:Int):Bool:=decide (1<=n)&&decide (n<=99)
def placeB (x:Fld):Bool:=(decide (0<=x.2.2.2.2.2.2.1)&&decide (x.2.2.2.2.2.2.1<=15))&&((decide (1<=x.2.1)&&decide (x.2.1<=24))&&((decide (2<=x.2.2.1)&&decide (x.2.2.1<=80))&&decide (x.2.2.1+lenF x - 1<=80)))
structure FewX (x:Fld):Prop where
 c:x.2.2.2.2.2.2.2.length<=4
 t:x.2.2.2.2.2.1.size<=100
structure FewF (f:Fmt):Prop where
 n:f.2.1.length<=31
 k:f.2.2.length<=11
 x:∀ x∈f.2.1,FewX x
theorem fst0_pair {a b:Int}(h:fst0 [a,b]=0):a=0∧b=0:=by
 by_cases ha:a=0
 ·subst ha
  by_cases hb:b=0
  ·exact⟨rfl,hb⟩
  ·simp[fst0,hb] at h
 ·simp[fst0,ha] at h
theorem fst0_cons {a:Int}{l:List Int}:fst0 (a::l)=0↔a=0∧fst0 l=0:=by
 by_cases ha:a=0
 ·subst ha;simp[fst0]
 ·simp[fst0,ha]
theorem bif_zero {b:Bool}{e:Int}(he:e≠0):(bif b then e else 0)=0↔b=false:=by
 cases b<;>simp[he]
structure Passed (x:Fld):Prop where
 ty:TyOk x
 nr:NearC x
 pl:placeB x=true
 cn:∀ c∈x.2.2.2.2.2.2.2,okInd c.1=true
 us:0<=x.2.2.2.2.1∧x.2.2.2.2.1<=3
def placeF (x:SF):Bool:=decide (x.1≥1)&&(decide (x.2.1≥1)&&(decide (x.1<1920)&&decide (x.2.1<=1920 - x.1)))
def scF (x:SF):Int:=fst0 [bif !placeF x then 3 else 0,bif !(decide ((0:Int)<=x.2.2.1)&&decide (x.2.2.1<=15)) then 3 else 0,bif (x.2.2.2.2.2||x.2.2.2.2.1)&&!x.2.2.2.1 then 5 else 0]
theorem scF_ok {x:SF}:scF x=0↔OkF x:=by
 unfold scF placeF
 simp only[fst0_cons,bif_zero (show (3:Int)≠0 by decide),bif_zero (show (5:Int)≠0 by decide)]
 constructor
 ·rintro⟨h1,h2,h3,-⟩
  simp at h1 h2 h3
  refine⟨h1.1,h1.2.1,by unfold fEnd;omega,h2.1,h2.2,fun h=>?_⟩
  simp only[Bool.or_eq_true] at h
  exact h3 h
 ·rintro⟨a,l,e,t0,t1,i⟩
  unfold fEnd at e
  refine⟨by simp;omega,by simp;omega,?_,rfl⟩
  cases hm:(x.2.2.2.2.2||x.2.2.2.2.1) with
  | false=>rfl
  | true=>rw[i hm];rfl
theorem f1025q (x:SF):f1025F 5000 x=some (scF x):=by
 unfold f1025F scF placeF
 simp only[f968q,f969q,first3,bind_some']
 cases h1:decide (x.1≥1) with
 | false=>cases x.2.2.2.2.2<;>cases x.2.2.2.2.1<;>rfl
 | true =>
  cases h2:decide (x.2.1≥1) with
  | false=>cases x.2.2.2.2.2<;>cases x.2.2.2.2.1<;>rfl
  | true =>
   cases h3:decide (x.1<1920) with
   | false=>cases x.2.2.2.2.2<;>cases x.2.2.2.2.1<;>rfl
   | true =>
    simp only[decide_eq_true_eq] at h1 h3
    have e:IntKind.i64.wrap (1920 - x.1)=1920 - x.1:=wi (by omega) (by omega)
    simp only[e]
    cases x.2.2.2.2.2<;>cases x.2.2.2.2.1<;>rfl
def ordE (p:Option SF)(x:SF):Int:=match p with
 | none=>0
 | some y=>bif decide (x.1<=fEnd y) then 14 else 0
def scFs:Nat->Option SF->List SF->Option (Int×Int)
 | _,_,[]=>none
 | i,p,x::l=>if fst0 [scF x,ordE p x]=0 then scFs (i+1) (some x) l else some ((i:Int),fst0 [scF x,ordE p x])
theorem scFs_cons (i:Nat)(p:Option SF)(x:SF)(l:List SF):scFs i p (x::l)=if fst0 [scF x,ordE p x]=0 then scFs (i+1) (some x) l else some ((i:Int),fst0 [scF x,ordE p x]):=rfl
def chkScr (s:Scr):Int×Int :=
 if fst0 [bif (s.1.size:Int) !=1920 then 18 else 0,bif !isTx s.1 then 8 else 0]=0 then match scFs 0 none s.2.1 with
  | some r=>r
  | none=>(0,bif !(decide (0<=s.2.2)&&decide (s.2.2<=1919)) then 3 else 0)
 else (0,fst0 [bif (s.1.size:Int) !=1920 then 18 else 0,bif !isTx s.1 then 8 else 0])
structure RightS (s:Scr):Prop where
 n:s.1.size=1920
 t:isTx s.1=true
 f:RightF s.2.1
 c0:0<=s.2.2
 c1:s.2.2<=1919
theorem ordE_zero {p:Option SF}{x:SF}:ordE p x=0↔∀ y,p=some y->fEnd y<x.1:=by
 unfold ordE
 cases p with
 | none=>simp
 | some y =>
  rw[bif_zero (by decide)]
  simp
theorem scFs_none:∀ {l:List SF} {i:Nat} {p:Option SF},scFs i p l=none↔(∀ x∈l,OkF x)∧l.Pairwise (fun a b=>fEnd a<b.1)∧∀ y,p=some y->∀ x∈l,fEnd y<x.1
 | [],i,p=>by simp[scFs]
 | x::l,i,p=>by
  rw[scFs_cons]
  by_cases h:fst0 [scF x,ordE p x]=0
  ·rw[if_pos h,scFs_none]
   obtain⟨h1,h2⟩:=fst0_pair h
   have ox:=scF_ok.1 h1
   have h2:=ordE_zero.1 h2
   constructor
   ·rintro⟨a,b,c⟩
    refine⟨fun z hz=>?_,List.pairwise_cons.2 ⟨fun z hz=>c x rfl z hz,b⟩,fun y hy z hz=>?_⟩
    ·rcases List.mem_cons.1 hz with rfl | hz
     ·exact ox
     ·exact a z hz
    ·rcases List.mem_cons.1 hz with rfl | hz
     ·exact h2 y hy
     ·have:=h2 y hy
      have:=c x rfl z hz
      have:=ox.l
      unfold fEnd at *
      omega
   ·rintro⟨a,b,c⟩
    rw[List.pairwise_cons] at b
    refine⟨fun z hz=>a z (by simp[hz]),b.2,fun y hy z hz=>?_⟩
    injection hy with hy
    subst hy
    exact b.1 z hz
  ·rw[if_neg h]
   simp only[reduceCtorEq,false_iff]
   rintro⟨a,b,c⟩
   refine h ?_
   rw[scF_ok.2 (a x (by simp)),ordE_zero.2 fun y hy=>c y hy x (by simp)]
   rfl
theorem chkScr_right {s:Scr}:(chkScr s).2=0↔RightS s:=by
 unfold chkScr
 by_cases h:fst0 [bif (s.1.size:Int) !=1920 then 18 else 0,bif !isTx s.1 then 8 else 0]=0
 ·rw[if_pos h]
  obtain⟨h1,h2⟩:=fst0_pair h
  rw[bif_zero (by decide)] at h1 h2
  have hn:s.1.size=1920:=by simp at h1;omega
  have ht:isTx s.1=true:=by simpa using h2
  cases hs:scFs 0 none s.2.1 with
  | some r =>
   simp only
   constructor
   ·intro hr
    exfalso
    have key:∀ (l:List SF) (i:Nat) (p:Option SF),scFs i p l=some r->r.2≠0:=by
     intro l
     induction l with
     | nil=>intro i p h;cases h
     | cons x l ih =>
      intro i p h
      rw[scFs_cons] at h
      split at h
      ·exact ih _ _ h
      ·rename_i hne
       injection h with h
       rw[← h]
       exact hne
    exact key _ _ _ hs hr
   ·intro hr
    have:=scFs_none (i:=0) (p:=none).2 ⟨hr.f.ok,hr.f.pw,fun y hy=>by cases hy⟩
    rw[hs] at this
    cases this
  | none =>
   simp only[bif_zero (show (3:Int)≠0 by decide)]
   obtain⟨a,b,-⟩:=scFs_none.1 hs
   constructor
   ·intro hc
    simp at hc
    exact⟨hn,ht,⟨a,b⟩,hc.1,hc.2⟩
   ·intro hr
    have:=hr.c0
    have:=hr.c1
    simp
    omega
 ·rw[if_neg h]
  constructor
  ·intro h2
   exact absurd h2 h
  ·intro hr
   refine absurd ?_ h
   rw[hr.n,hr.t]
   rfl
theorem RightS.zero {s:Scr}(h:RightS s):chkScr s=(0,0):=by
 have h2:=chkScr_right.2 h
 have hs:scFs 0 none s.2.1=none:=scFs_none.2 ⟨h.f.ok,h.f.pw,fun y hy=>by cases hy⟩
 unfold chkScr at h2 ⊢
 rw[hs] at h2 ⊢
 split at h2
 ·rename_i hh
  rw[if_pos hh]
  simp only at h2 ⊢
  rw[h2]
 ·rename_i hh
  exact absurd h2 hh
theorem f1017q (k:Nat)(x:SF)(h:OkF x):f1017F k x=some (fEnd x):=by
 unfold f1017F fEnd
 have:=h.a
 have:=h.l
 have:=h.e
 unfold fEnd at this
 rw[wi (by omega) (by omega)]
def prv (F:List SF):Nat->Option SF
 | 0=>none
 | i+1=>F[i]?
theorem f958l1q {R:Type}(k0:D73->Option R)(k1:D74->Option R)(s:Scr)(hF:s.2.1.length<=200) :
  f958l1 5000 k0 k1 (s.2.1,(s.2.1.length:Int),0,s.1,s.2.1,s.2.2,())=match scFs 0 none s.2.1 with
   | some (i,e)=>k0 (i,e,s.1,s.2.1,s.2.2,())
   | none=>k1 (s.1,s.2.1,s.2.2,()):=by
 unfold f958l1
 refine (iter_list (k:=5000) (R:=R) (A:=Nat×Option SF) s.2.1 (fun i a=>(s.2.1,(s.2.1.length:Int),(i:Int),s.1,s.2.1,s.2.2,())) (fun m a=>match scFs a.1 a.2 m with
   | some (i,e)=>k0 (i,e,s.1,s.2.1,s.2.2,())
   | none=>k1 (s.1,s.2.1,s.2.2,())) (fun i a=>a.1=i∧a.2=prv s.2.1 i∧∀ y,a.2=some y->OkF y) ?_ ?_ (by omega) (0,none) ⟨rfl,rfl,fun y hy=>by cases hy⟩)
 ·intro rec a _
  unfold f958l1s
  simp[scFs]
 ·intro rec i a x hx hi hp
  obtain⟨rfl,hpv,hok⟩:=hp
  have ex:(x.1,x.2.1,x.2.2.1,x.2.2.2.1,x.2.2.2.2.1,x.2.2.2.2.2)=x:=rfl
  unfold f958l1s f958p0
  simp only[ltn hi,nn,Bool.and_self,cond_true,Int.toNat_natCast,getD_of hx,ex,f1025q,bind_some']
  rw[scFs_cons]
  have fin:∀ (e:Int),e=fst0 [scF x,ordE a.2 x] ->
    (∃ a':Nat×Option SF,(a'.1=a.1+1∧a'.2=prv s.2.1 (a.1+1)∧∀ y,a'.2=some y->OkF y)∧(bif e !=0 then k0 ((a.1:Int),e,s.1,s.2.1,s.2.2,()) else rec (s.2.1,(s.2.1.length:Int),IntKind.i64.wrap ((a.1:Int)+1),s.1,s.2.1,s.2.2,()))=rec (s.2.1,(s.2.1.length:Int),((a.1+1:Nat):Int),s.1,s.2.1,s.2.2,()) ∧
     (match (if fst0 [scF x,ordE a.2 x]=0 then scFs (a.1+1) (some x) (s.2.1.drop (a.1+1)) else some ((a.1:Int),fst0 [scF x,ordE a.2 x])) with
      | some (i,e)=>k0 (i,e,s.1,s.2.1,s.2.2,())
      | none=>k1 (s.1,s.2.1,s.2.2,()))=(match scFs a'.1 a'.2 (s.2.1.drop (a.1+1)) with
      | some (i,e)=>k0 (i,e,s.1,s.2.1,s.2.2,())
      | none=>k1 (s.1,s.2.1,s.2.2,()))) ∨
    (bif e !=0 then k0 ((a.1:Int),e,s.1,s.2.1,s.2.2,()) else rec (s.2.1,(s.2.1.length:Int),IntKind.i64.wrap ((a.1:Int)+1),s.1,s.2.1,s.2.2,())) =
     (match (if fst0 [scF x,ordE a.2 x]=0 then scFs (a.1+1) (some x) (s.2.1.drop (a.1+1)) else some ((a.1:Int),fst0 [scF x,ordE a.2 x])) with
      | some (i,e)=>k0 (i,e,s.1,s.2.1,s.2.2,())
      | none=>k1 (s.1,s.2.1,s.2.2,())):=by
   intro e he
   subst he
   by_cases h:fst0 [scF x,ordE a.2 x]=0
   ·refine .inl ⟨(a.1+1,some x),⟨rfl,hx.symm,fun y hy=>?_⟩,?_,?_⟩
    ·injection hy with hy
     subst hy
     exact scF_ok.1 (fst0_pair h).1
    ·rw[h,bif_false (by decide),wi_succ (i:=a.1) (by omega)]
    ·rw[if_pos h]
   ·refine .inr ?_
    rw[if_neg h,bif_true (bne0 h)]
  cases ha:a.1 with
  | zero =>
   have hpn:a.2=none:=by rw[hpv,ha];rfl
   rw[bif_false (by simp)]
   simp only[f968q,first2,bind_some',cond_false]
   have:=fin (fst0 [scF x,0]) (by rw[hpn];rfl)
   rw[ha] at this
   exact this
  | succ j =>
   have hj:j<s.2.1.length:=by omega
   obtain⟨y,hy⟩:∃ y,s.2.1[j]?=some y:=⟨_,List.getElem?_eq_getElem hj⟩
   have hpy:a.2=some y:=by rw[hpv,ha];exact hy
   have oy:=hok y hpy
   have em:mxI (IntKind.i64.wrap (((j+1:Nat):Int) - 1)) 0=(j:Int):=by
    rw[wi (by omega) (by omega)]
    unfold mxI
    split<;>omega
   have ey:(y.1,y.2.1,y.2.2.1,y.2.2.2.1,y.2.2.2.2.1,y.2.2.2.2.2)=y:=rfl
   rw[bif_true (by simp)]
   simp only[em,inb hj,cond_true,Int.toNat_natCast,getD_of hy,ey,f1017q _ y oy,f968q,first2,bind_some']
   have:=fin (fst0 [scF x,bif decide (x.1<=fEnd y) then 14 else 0]) (by rw[hpy];rfl)
   rw[ha] at this
   exact this
theorem f958q (s:Scr)(hc:s.1.size<=2000)(hF:s.2.1.length<=200):f958F 5000 s=some (chkScr s):=by
 unfold f958F chkScr
 simp only[f968q,f1024q _ (show s.1.size<5000 by omega),first2,bind_some']
 by_cases h:fst0 [bif (s.1.size:Int) !=1920 then 18 else 0,bif !isTx s.1 then 8 else 0]=0
 ·rw[if_pos h,h,bif_false (by decide),f958l1q _ _ s hF]
  cases scFs 0 none s.2.1 with
  | some r=>rfl
  | none=>simp only[f969q,f968q,bind_some']
 ·rw[if_neg h,bif_true (bne0 h)]
theorem f1005q (s:Scr)(hc:s.1.size<=2000)(hF:s.2.1.length<=200):f1005F 5000 s=some (chkScr s).2:=by
 unfold f1005F
 have es:(s.1,s.2.1,s.2.2)=s:=rfl
 simp only[es,f958q s hc hF,bind_some']
theorem f960p1q {R:Type}(k0:D186->Option R)(k1:D187->Option R)(s:Scr)(i:Nat)(x:SF)(p:Option SF)(hx:s.2.1[i]?=some x)(hp:p=prv s.2.1 i)(hok:∀ y,p=some y->OkF y)(hF:s.2.1.length<=200) :
  f960p1 5000 k0 k1 ((i:Int),s.1,s.2.1,s.2.2,())=if fst0 [scF x,ordE p x]=0 then k1 ((i:Int),s.1,s.2.1,s.2.2,()) else k0 ((i:Int),fst0 [scF x,ordE p x],(i:Int),s.1,s.2.1,s.2.2,()):=by
 have hi:i<s.2.1.length:=(List.getElem?_eq_some_iff.1 hx).1
 unfold f960p1
 simp only[nn,ltn hi,Bool.and_self,cond_true,Int.toNat_natCast,getD_of hx,f48w,bind_some']
 have bad:∀ {e:Int},e≠0->scF x=e->(if fst0 [scF x,ordE p x]=0 then k1 ((i:Int),s.1,s.2.1,s.2.2,()) else k0 ((i:Int),fst0 [scF x,ordE p x],(i:Int),s.1,s.2.1,s.2.2,()))=k0 ((i:Int),e,(i:Int),s.1,s.2.1,s.2.2,()):=by
  intro e he h
  have e1:fst0 [scF x,ordE p x]=e:=by rw[h];simp[fst0,he]
  rw[e1,if_neg he]
 cases h1:(decide ((1:Int)<=x.1)&&decide (x.1<=1919)) with
 | false =>
  have hpl:placeF x=false:=by
   unfold placeF
   rw[Bool.and_eq_false_iff] at h1
   simp only[decide_eq_false_iff_not] at h1
   rcases h1 with h1 | h1
   ·rw[decide_eq_false (show ¬ x.1≥1 by omega)];rfl
   ·rw[decide_eq_false (show ¬ x.1<1920 by omega)];simp
  rw[bad (e:=3) (by decide) (by unfold scF;rw[hpl];rfl)]
  rfl
 | true =>
  have h1':=h1
  simp only[Bool.and_eq_true,decide_eq_true_eq] at h1'
  have e:IntKind.i64.wrap (1920 - x.1)=1920 - x.1:=wi (by omega) (by omega)
  simp only[Bool.not_true,cond_false,e]
  cases h2:(decide ((1:Int)<=x.2.1)&&decide (x.2.1<=1920 - x.1)) with
  | false =>
   have hpl:placeF x=false:=by
    unfold placeF
    rw[Bool.and_eq_false_iff] at h2
    simp only[decide_eq_false_iff_not] at h2
    rcases h2 with h2 | h2
    ·rw[decide_eq_false (show ¬ x.2.1≥1 by omega)];simp
    ·rw[decide_eq_false h2];simp
   rw[bad (e:=3) (by decide) (by unfold scF;rw[hpl];rfl)]
   rfl
  | true =>
   have h2':=h2
   simp only[Bool.and_eq_true,decide_eq_true_eq] at h2'
   have hpl:placeF x=true:=by
    unfold placeF
    simp only[Bool.and_eq_true,decide_eq_true_eq]
    omega
   simp only[Bool.not_true,cond_false]
   cases h3:(decide ((0:Int)<=x.2.2.1)&&decide (x.2.2.1<=15)) with
   | false =>
    rw[bad (e:=3) (by decide) (by unfold scF;rw[hpl,h3];rfl)]
    rfl
   | true =>
    simp only[Bool.not_true,cond_false]
    cases h4:((x.2.2.2.2.2||x.2.2.2.2.1)&&!x.2.2.2.1) with
    | true =>
     rw[bad (e:=5) (by decide) (by unfold scF;rw[hpl,h3,h4];rfl)]
     unfold f960p0
     revert h4
     cases x.2.2.2.2.2<;>cases x.2.2.2.2.1<;>cases x.2.2.2.1<;>intro h4<;>first | rfl | cases h4
    | false =>
     have hs:scF x=0:=by unfold scF;rw[hpl,h3,h4];rfl
     have step:∀ (q0:D184->Option R) (q1:D185->Option R),f960p0 5000 q0 q1 ((i:Int),s.1,s.2.1,s.2.2,x.1,x.2.1,x.2.2.1,x.2.2.2.1,x.2.2.2.2.1,x.2.2.2.2.2,())=q1 ((i:Int),s.1,s.2.1,s.2.2,x.1,x.2.1,x.2.2.1,x.2.2.2.1,x.2.2.2.2.1,x.2.2.2.2.2,()):=by
      intro q0 q1
      unfold f960p0
      revert h4
      cases x.2.2.2.2.2<;>cases x.2.2.2.2.1<;>cases x.2.2.2.1<;>intro h4<;>first | rfl | cases h4
     rw[step,hs]
     cases i with
     | zero =>
      have hpn:p=none:=hp
      subst hpn
      rfl
     | succ j =>
      have hj:j<s.2.1.length:=by omega
      obtain⟨y,hy⟩:∃ y,s.2.1[j]?=some y:=⟨_,List.getElem?_eq_getElem hj⟩
      have hpy:p=some y:=by rw[hp];exact hy
      subst hpy
      have oy:=hok y rfl
      have a1:=oy.a
      have a2:=oy.l
      have a3:=oy.e
      unfold fEnd at a3
      have ej:IntKind.i64.wrap (((j+1:Nat):Int) - 1)=(j:Int):=by rw[wi (by omega) (by omega)];omega
      have ee:IntKind.i64.wrap (y.1+y.2.1)=fEnd y:=by unfold fEnd;exact wi (by omega) (by omega)
      rw[bif_true (by simp)]
      simp only[ej,nn,ltn hj,Bool.and_self,cond_true,Int.toNat_natCast,getD_of hy,ee]
      rw[show ordE (some y) x=bif decide (x.1<=fEnd y) then 14 else 0 from rfl]
      cases decide (x.1<=fEnd y)<;>rfl
theorem f960l2q {R:Type}(k0:D73->Option R)(k1:D74->Option R)(s:Scr)(hF:s.2.1.length<=200) :
  f960l2 5000 k0 k1 (0,s.1,s.2.1,s.2.2,())=match scFs 0 none s.2.1 with
   | some (i,e)=>k0 (i,e,s.1,s.2.1,s.2.2,())
   | none=>k1 (s.1,s.2.1,s.2.2,()):=by
 unfold f960l2
 refine (iter_list (k:=5000) (R:=R) (A:=Nat×Option SF) s.2.1 (fun i a=>((i:Int),s.1,s.2.1,s.2.2,())) (fun m a=>match scFs a.1 a.2 m with
   | some (i,e)=>k0 (i,e,s.1,s.2.1,s.2.2,())
   | none=>k1 (s.1,s.2.1,s.2.2,())) (fun i a=>a.1=i∧a.2=prv s.2.1 i∧∀ y,a.2=some y->OkF y) ?_ ?_ (by omega) (0,none) ⟨rfl,rfl,fun y hy=>by cases hy⟩)
 ·intro rec a _
  unfold f960l2s
  simp[scFs]
 ·intro rec i a x hx hi hp
  obtain⟨rfl,hpv,hok⟩:=hp
  unfold f960l2s
  simp only[ltn hi,cond_true]
  rw[f960p1q _ _ s a.1 x a.2 hx hpv hok hF,scFs_cons]
  by_cases h:fst0 [scF x,ordE a.2 x]=0
  ·refine .inl ⟨(a.1+1,some x),⟨rfl,hx.symm,fun y hy=>?_⟩,?_,?_⟩
   ·injection hy with hy
    subst hy
    exact scF_ok.1 (fst0_pair h).1
   ·rw[if_pos h]
    simp only[wi_succ (i:=a.1) (by omega)]
   ·simp only[if_pos h]
  ·refine .inr ?_
   simp only[if_neg h]
theorem f960q (s:Scr)(hc:s.1.size<=2000)(hF:s.2.1.length<=200):f960F 5000 s=some (chkScr s):=by
 unfold f960F chkScr
 simp only[f1010q _ (show s.1.size<5000 by omega),bind_some']
 cases h1:((s.1.size:Int) !=1920) with
 | true=>rfl
 | false =>
  simp only[cond_false]
  cases h2:isTx s.1 with
  | false=>rfl
  | true =>
   simp only[Bool.not_true,cond_false]
   rw[show fst0 [(0:Int),0]=0 from rfl,if_pos rfl,f960l2q _ _ s hF]
   cases scFs 0 none s.2.1 with
   | some r=>rfl
   | none =>
    simp only[f48w,bind_some']
    cases (decide (0<=s.2.2)&&decide (s.2.2<=1919))<;>rfl
theorem f1007q (s:Scr)(hc:s.1.size<=2000)(hF:s.2.1.length<=200):f1007F 5000 s=some (chkScr s).2:=by
 unfold f1007F
 have es:(s.1,s.2.1,s.2.2)=s:=rfl
 simp only[es,f960q s hc hF,bind_some']
theorem f939q (k:Nat)(s:Scr):f939F k s=some (decide ((s.1.size:Int)<=2000)&&decide ((s.2.1.length:Int)<=200)):=by
 unfold f939F
 cases decide ((s.1.size:Int)<=2000)<;>rfl
theorem f941q (k:Nat)(s:Scr)(hF:s.2.1.length<=2000):f941F k s=some s:=by
 unfold f941F
 rw[bif_true (by simp;omega)]
 rfl
theorem f943q (s:Scr)(hF:s.2.1.length<=4000):f943F 5000 (s,s)=some true:=by
 unfold f943F
 simp only[strEq_self,Bool.not_true,cond_false,bne_self_eq_false]
 unfold f943l0
 refine iter_list (k:=5000) (R:=Bool) (A:=Unit) s.2.1 (fun i _=>((i:Int),s.1,s.2.1,s.2.2,s.1,s.2.1,s.2.2,())) (fun _ _=>some true) (fun _ _=>True) ?_ ?_ (by omega) () trivial
 ·intro rec u _
  unfold f943l0s
  simp
 ·intro rec i u x hx hi _
  refine .inl ⟨(),trivial,?_,rfl⟩
  unfold f943l0s
  simp only[ltn hi,nn,Bool.and_self,cond_true,Int.toNat_natCast,getD_of hx,beq_self_eq_true,Bool.not_true,cond_false,wi_succ (i:=i) (by omega)]
def txL (l:List UInt8):Bool:=(ints l).all shc
theorem isTx_S (l:List UInt8):isTx (S l)=txL l:=by unfold isTx txL;rw[S_bytes]
theorem txL_mem {l:List UInt8}:txL l=true↔∀ b∈l,shc (b.toNat:Int)=true:=by
 unfold txL ints
 simp[List.all_eq_true]
theorem _root_.Go.Ab.RightF.len {F:List SF}(h:RightF F):F.length<=960:=by
 have key:∀ (F:List SF) (m:Int),RightF F->(∀ x∈F,m<=x.1)->F≠[]->m+2*F.length<=1921:=by
  intro F
  induction F with
  | nil=>intro m _ _ h;exact absurd rfl h
  | cons x l ih =>
   intro m hr hm _
   have ox:=hr.ok x (by simp)
   have h1:=hm x (by simp)
   have hp:=List.pairwise_cons.1 hr.pw
   have:=ox.l
   have:=ox.e
   by_cases hl:l=[]
   ·subst hl
    unfold fEnd at this
    simp;omega
   ·have:=ih (m+2) ⟨fun y hy=>hr.ok y (by simp[hy]),hp.2⟩ (fun y hy=>by
     have:=hp.1 y hy
     unfold fEnd at this
     omega) hl
    simp only[List.length_cons]
    omega
 by_cases hF:F=[]
 ·subst hF;simp
 ·have:=key F 1 h (fun x hx=>(h.ok x hx).a) hF
  omega
theorem f1139q (y f:SF)(hy:OkF y):f1139v0F 5000 (y.1,y.2.1,y.2.2.1,y.2.2.2.1,y.2.2.2.2.1,y.2.2.2.2.2,fEnd f,f.1 - 1,())=some (ovl y f,fEnd f,f.1 - 1,()):=by
 unfold f1139v0F ovl
 have a:=hy.a
 have l:=hy.l
 have e:=hy.e
 unfold fEnd at e
 have w:IntKind.i64.wrap (y.1 - 1)=y.1 - 1:=wi (by omega) (by omega)
 have ey:(y.1,y.2.1,y.2.2.1,y.2.2.2.1,y.2.2.2.2.1,y.2.2.2.2.2)=y:=rfl
 simp only[w,ey,f1017q _ y hy,bind_some']
 cases decide (y.1 - 1<fEnd f)<;>rfl
theorem f1163q (F:List SF)(f:SF)(hF:∀ y∈F,OkF y)(hl:F.length<5000):f1163v0F 5000 (F,fEnd f,f.1 - 1,())=some (ix (fun y=>ovl y f) F,F,fEnd f,f.1 - 1,()):=by
 unfold f1163v0F f1163v0l0
 refine iter_find F (fun y=>ovl y f) (fun i=>((F.length:Int),(i:Int),F,fEnd f,f.1 - 1,())) (fun i=>some (i,F,fEnd f,f.1 - 1,())) ?_ ?_ hl
 ·intro rec
  unfold f1163v0l0s
  simp
 ·intro rec i y hy hi
  unfold f1163v0l0s
  simp only[ltn hi,nn,Bool.and_self,cond_true,Int.toNat_natCast,getD_of hy,f1139q y f (hF y (List.mem_of_getElem? hy)),bind_some',wi_succ (i:=i) (by omega)]
theorem wrt_take {α:Type}(xs ys:List α)(i:Nat)(h:i<=xs.length):(wrt xs i ys).take i=xs.take i:=by
 unfold wrt
 rw[List.take_take,Nat.min_eq_left h,List.take_append_of_le_length (by simp;omega),List.take_of_length_le (by simp;omega)]
theorem wrt_len {α:Type}(xs ys:List α)(i:Nat)(h:i<=xs.length):i<=(wrt xs i ys).length:=by
 unfold wrt
 simp
 omega
structure Kept (F:List SF)(q:SF->Bool)(j:Nat)(a:Nat×List SF):Prop where
 n:a.2.length=F.length
 i:a.1=((F.take j).filter q).length
 lt:a.1<=j
 pre:a.2.take a.1=(F.take j).filter q
 suf:∀ m,j<=m->a.2[m]?=F[m]?
theorem Kept.drop {F:List SF}{q:SF->Bool}{j:Nat}{a:Nat×List SF}{y:SF}(h:Kept F q j a)(hy:F[j]?=some y)(hq:q y=false):Kept F q (j+1) a:=by
 have ht:F.take (j+1)=F.take j++[y]:=by rw[List.take_add_one,hy];rfl
 have hf:(F.take (j+1)).filter q=(F.take j).filter q:=by rw[ht,List.filter_append];simp[hq]
 exact⟨h.n,by rw[hf];exact h.i,by have:=h.lt;omega,by rw[hf];exact h.pre,fun m hm=>h.suf m (by omega)⟩
theorem Kept.keep {F:List SF}{q:SF->Bool}{j:Nat}{a:Nat×List SF}{y:SF}(h:Kept F q j a)(hy:F[j]?=some y)(hq:q y=true):Kept F q (j+1) (a.1+1,a.2.set a.1 y):=by
 have hj:j<F.length:=(List.getElem?_eq_some_iff.1 hy).1
 have ht:F.take (j+1)=F.take j++[y]:=by rw[List.take_add_one,hy];rfl
 have hf:(F.take (j+1)).filter q=(F.take j).filter q++[y]:=by rw[ht,List.filter_append];simp[hq]
 have hl:=h.lt
 have hn:=h.n
 refine⟨by simp[hn],by rw[hf];simp[h.i],by simp only;omega,?_,fun m hm=>?_⟩
 ·rw[hf,← h.pre]
  simp only
  rw[List.take_add_one,List.getElem?_set_self (by omega),List.take_set_of_le (by omega)]
  rfl
 ·simp only
  rw[List.getElem?_set_ne (by omega)]
  exact h.suf m (by omega)
theorem f1138q (F:List SF)(f:SF)(hF:∀ y∈F,OkF y)(hl:F.length<=2000):f1138v0F 5000 (F,fEnd f,f.1 - 1,())=some (fEnd f,f.1 - 1,F.filter (fun y=>!ovl y f),()):=by
 unfold f1138v0F
 simp only[f1163q F f hF (by omega),bind_some']
 rcases ix_spec (fun y=>ovl y f) F with ⟨h,hn⟩ | ⟨j,x,h,hx,hp,hb⟩
 ·rw[h,bif_true (by decide),List.filter_eq_self.2 fun y hy=>by rw[hn y hy];rfl]
 ·have hj:j<F.length:=(List.getElem?_eq_some_iff.1 hx).1
  rw[h,bif_false (by simp)]
  have e1:IntKind.i64.wrap ((j:Int)+1)=((j+1:Nat):Int):=wi_succ (by omega)
  simp only[e1]
  have hpre:(F.take j).filter (fun y=>!ovl y f)=F.take j:=List.filter_eq_self.2 fun y hy=>by
   obtain⟨m,hm⟩:=List.getElem?_of_mem hy
   rw[List.getElem?_take] at hm
   split at hm
   ·rename_i hlt
    rw[hb m hlt y hm];rfl
   ·cases hm
  have k0:Kept F (fun y=>!ovl y f) j (j,F):=⟨rfl,by rw[hpre];simp;omega,Nat.le_refl _,hpre.symm,fun _ _=>rfl⟩
  have k1:Kept F (fun y=>!ovl y f) (j+1) (j,F):=k0.drop hx (by rw[hp];rfl)
  unfold f1138v0l1
  have hit:=iter_from (k:=5000) (R:=D81) (A:=Nat×List SF) (Step:=fun rec v=>f1138v0l1s 5000 rec (fun (w10:D78) =>
   bif (sliceBds w10.1 (w10.2.1.length:Int) (w10.2.1.length:Int)) then
   let t11:=(wrt w10.2.1 (Int.toNat w10.1) (List.replicate (Int.toNat ((w10.2.1.length:Int) - w10.1)) ((0:Int),((0:Int),((0:Int),(false,(false,false)))))))
   bif (sliceBds (0:Int) w10.1 (t11.length:Int)) then
   some (w10.2.2.1,w10.2.2.2.1,(t11.take (Int.toNat w10.1)),())
   else none
   else none) v) F (fun m a=>((a.1:Int),(m:Int),a.2,fEnd f,f.1 - 1,())) (fun _ _=>some (fEnd f,f.1 - 1,F.filter (fun y=>!ovl y f),())) (fun m a=>Kept F (fun y=>!ovl y f) m a) ?_ ?_ (by omega) (j+1) (j,F) (by omega) k1
  ·exact hit
  ·intro rec a ha
   unfold f1138v0l1s
   have hn:=ha.n
   have hlt:=ha.lt
   simp only[]
   rw[bif_false (by simp[hn])]
   simp only[Int.toNat_natCast]
   rw[bif_true (sliceB (by omega) (Nat.le_refl _)),bif_true (sliceB0 (wrt_len _ _ _ (by omega))),wrt_take _ _ _ (by omega),ha.pre,List.take_length]
  ·intro rec m a y hy hm ha
   have hn:=ha.n
   have hlt:=ha.lt
   have hy2:a.2[m]?=some y:=by rw[ha.suf m (Nat.le_refl _)];exact hy
   have hm2:m<a.2.length:=by omega
   have ha1:a.1<a.2.length:=by omega
   unfold f1138v0l1s f1138v0p0
   simp only[ltn hm2,nn,Bool.and_self,cond_true,Int.toNat_natCast,getD_of hy2,f1139q y f (hF y (List.mem_of_getElem? hy)),bind_some']
   have ey:(y.1,y.2.1,y.2.2.1,y.2.2.2.1,y.2.2.2.2.1,y.2.2.2.2.2)=y:=rfl
   cases hq:ovl y f with
   | true=>exact .inl ⟨a,ha.drop hy (by rw[hq];rfl),by simp only[Bool.not_true,cond_false,wi_succ (i:=m) (by omega)],by first | rfl | trivial⟩
   | false=>exact .inl ⟨(a.1+1,a.2.set a.1 y),ha.keep hy (by rw[hq];rfl),by simp only[Bool.not_false,cond_true,nn,ltn ha1,Bool.and_self,ey,wi_succ (i:=m) (by omega),wi_succ (i:=a.1) (by omega)],by first | rfl | trivial⟩
theorem f1141q (k:Nat)(x f:SF):f1141F k (x,f)=some (if x.1<f.1 then -1 else if x.1 > f.1 then 1 else 0):=by
 unfold f1141F f1142F f1164F
 simp only[bind_some',bne_self_eq_false,cond_false]
 by_cases h:x.1<f.1
 ·rw[if_pos h,bif_true (by simpa using h)];rfl
 ·rw[if_neg h,bif_false (by simpa using h)]
  by_cases h2:x.1 > f.1
  ·rw[if_pos h2,bif_true (by simpa using h2)];rfl
  ·rw[if_neg h2,bif_false (by simpa using h2)];rfl
abbrev unS (f:SF):Int×Int×Int×Bool×Bool×Bool×Unit:=(f.1,f.2.1,f.2.2.1,f.2.2.2.1,f.2.2.2.2.1,f.2.2.2.2.2,())
theorem half_idx {i j:Nat}(h:i<j)(hj:j<=2000):IntKind.i64.wrap (shrI .u64 (IntKind.u64.wrap (IntKind.i64.wrap ((i:Int)+(j:Int)))) 1)=(((i+j) / 2:Nat):Int):=by
 rw[wi (x:=(i:Int)+j) (by omega) (by omega),wu64,show (1:Int)=((1:Nat):Int) from rfl,shr64 (by decide),wi (by omega) (by omega)]
 omega
theorem f1140l0q {R:Type}(k0:D82->Option R)(L:List SF)(f:SF)(n:Int)(hs:L.Pairwise fun a b=>a.1<b.1)(hL:L.length<=2000):∀ (d i j K:Nat),i+d=j->j<=L.length->d<K->(∀ m x,m<i->L[m]?=some x->x.1<f.1)->(∀ m x,j<=m->L[m]?=some x->f.1<=x.1) ->
  ∃ r,r<=L.length∧(∀ m x,m<r->L[m]?=some x->x.1<f.1)∧(∀ m x,r<=m->L[m]?=some x->f.1<=x.1)∧iterS (fun rec v=>f1140v0l0s 5000 rec k0 v) K (n,(i:Int),(j:Int),L,unS f)=k0 (n,(r:Int),L,unS f):=by
 have mono:∀ (a b:Nat) (x y:SF),a<b->L[a]?=some x->L[b]?=some y->x.1<y.1:=by
  intro a b x y hab hx hy
  obtain⟨ha,ex⟩:=List.getElem?_eq_some_iff.1 hx
  obtain⟨hb,ey⟩:=List.getElem?_eq_some_iff.1 hy
  have:=List.pairwise_iff_getElem.1 hs a b ha hb hab
  rw[ex,ey] at this
  exact this
 intro d
 induction d using Nat.strongRecOn with
 | ind d ih =>
  intro i j K hd hj hK hlo hhi
  cases K with
  | zero=>omega
  | succ K =>
   by_cases h:i<j
   ·have hh:(i+j) / 2<L.length:=by omega
    obtain⟨x,hx⟩:∃ x,L[(i+j) / 2]?=some x:=⟨_,List.getElem?_eq_getElem hh⟩
    have ex:(x.1,x.2.1,x.2.2.1,x.2.2.2.1,x.2.2.2.2.1,x.2.2.2.2.2)=x:=rfl
    have ef:(f.1,f.2.1,f.2.2.1,f.2.2.2.1,f.2.2.2.2.1,f.2.2.2.2.2)=f:=rfl
    have step:∀ rec,f1140v0l0s 5000 rec k0 (n,(i:Int),(j:Int),L,unS f)=if x.1<f.1 then rec (n,(((i+j) / 2+1:Nat):Int),(j:Int),L,unS f) else rec (n,(i:Int),(((i+j) / 2:Nat):Int),L,unS f):=by
     intro rec
     unfold f1140v0l0s
     rw[bif_true (by simp;omega)]
     simp only[half_idx h (by omega),nn,ltn hh,Bool.and_self,cond_true,Int.toNat_natCast,getD_of hx,ex,ef,f1141q,bind_some',wi_succ (i:=(i+j) / 2) (by omega)]
     by_cases c:x.1<f.1
     ·rw[if_pos c,if_pos c];rfl
     ·rw[if_neg c,if_neg c]
      split<;>rfl
    by_cases c:x.1<f.1
    ·obtain⟨r,r1,r2,r3,r4⟩:=ih (j - ((i+j) / 2+1)) (by omega) ((i+j) / 2+1) j K (by omega) hj (by omega) (fun m y hm hy=>by
      by_cases e:m=(i+j) / 2
      ·subst e
       rw[hx] at hy
       injection hy with hy
       rw[← hy];exact c
      ·have:=mono m _ y x (by omega) hy hx
       omega) hhi
     refine⟨r,r1,r2,r3,?_⟩
     rw[← r4]
     show f1140v0l0s 5000 _ k0 _=_
     rw[step,if_pos c]
    ·obtain⟨r,r1,r2,r3,r4⟩:=ih ((i+j) / 2 - i) (by omega) i ((i+j) / 2) K (by omega) (by omega) (by omega) hlo (fun m y hm hy=>by
      by_cases e:m=(i+j) / 2
      ·subst e
       rw[hx] at hy
       injection hy with hy
       rw[← hy];omega
      ·have:=mono _ m x y (by omega) hx hy
       omega)
     refine⟨r,r1,r2,r3,?_⟩
     rw[← r4]
     show f1140v0l0s 5000 _ k0 _=_
     rw[step,if_neg c]
   ·have hij:i=j:=by omega
    subst hij
    refine⟨i,hj,hlo,hhi,?_⟩
    show f1140v0l0s 5000 _ k0 _=_
    unfold f1140v0l0s
    rw[bif_false (by simp)]
theorem f1140q (L:List SF)(f:SF)(hs:L.Pairwise fun a b=>a.1<b.1)(hL:L.length<=2000) :
  ∃ r b,r<=L.length∧(∀ m x,m<r->L[m]?=some x->x.1<f.1)∧(∀ m x,r<=m->L[m]?=some x->f.1<=x.1)∧f1140v0F 5000 (f.1,f.2.1,f.2.2.1,f.2.2.2.1,f.2.2.2.2.1,f.2.2.2.2.2,L,())=some ((r:Int),b,L,()):=by
 unfold f1140v0F f1140v0l0
 obtain⟨r,r1,r2,r3,r4⟩:=f1140l0q (R:=D84) (fun (w9:D82) =>
   bif (decide (w9.2.1<w9.1)) then
    bif ((decide ((0:Int)<=w9.2.1))&&(decide (w9.2.1<(w9.2.2.1.length:Int)))) then
    let t10:=(w9.2.2.1.getD (Int.toNat w9.2.1) ((0:Int),((0:Int),((0:Int),(false,(false,false)))))).1
    let t11:=(w9.2.2.1.getD (Int.toNat w9.2.1) ((0:Int),((0:Int),((0:Int),(false,(false,false)))))).2.1
    let t12:=(w9.2.2.1.getD (Int.toNat w9.2.1) ((0:Int),((0:Int),((0:Int),(false,(false,false)))))).2.2.1
    let t13:=(w9.2.2.1.getD (Int.toNat w9.2.1) ((0:Int),((0:Int),((0:Int),(false,(false,false)))))).2.2.2.1
    let t14:=(w9.2.2.1.getD (Int.toNat w9.2.1) ((0:Int),((0:Int),((0:Int),(false,(false,false)))))).2.2.2.2.1
    let t15:=(w9.2.2.1.getD (Int.toNat w9.2.1) ((0:Int),((0:Int),((0:Int),(false,(false,false)))))).2.2.2.2.2
    Option.bind (f1141F 5000 ((t10,(t11,(t12,(t13,(t14,t15))))),(w9.2.2.2.1,(w9.2.2.2.2.1,(w9.2.2.2.2.2.1,(w9.2.2.2.2.2.2.1,(w9.2.2.2.2.2.2.2.1,w9.2.2.2.2.2.2.2.2.1))))))) fun y16 =>
    some (w9.2.1,(y16==(0:Int)),w9.2.2.1,())
    else none
   else
   some (w9.2.1,false,w9.2.2.1,())) L f (L.length:Int) hs hL L.length 0 L.length 5000 (by omega) (Nat.le_refl _) (by omega) (fun m x hm=>by omega) (fun m x hm hx=>by
    have:=(List.getElem?_eq_some_iff.1 hx).1
    omega)
 by_cases h:r<L.length
 ·obtain⟨x,hx⟩:∃ x,L[r]?=some x:=⟨_,List.getElem?_eq_getElem h⟩
  refine⟨r,(if x.1<f.1 then (-1:Int) else if x.1 > f.1 then 1 else 0)==0,r1,r2,r3,?_⟩
  refine r4.trans ?_
  simp only[ltn h,nn,Bool.and_self,cond_true,Int.toNat_natCast,getD_of hx,f1141q,bind_some']
 ·refine⟨r,false,r1,r2,r3,?_⟩
  refine r4.trans ?_
  rw[bif_false (by simp;omega)]
theorem f1107q (c t:List UInt8)(F:List SF)(f:SF)(cur:Int)(st:ByteArray)(a b:Int)(hc:c.length=1920)(hF:RightF F)(hf:OkF f)(ht:(t.length:Int)=f.2.1) :
  f1107v0F 5000 (f.1,f.2.1,f.2.2.1,f.2.2.2.1,f.2.2.2.2.1,f.2.2.2.2.2,S t,S c,F,cur,st,a,b,())=some (S (patch c (f.1 - 1).toNat (32::t)),cur,st,a,b,wrF F f,()):=by
 have h1:=hf.a
 have h2:=hf.l
 have h3:=hf.e
 have hlen:=hF.len
 have h3':=h3
 unfold fEnd at h3'
 have w:IntKind.i64.wrap (f.1 - 1)=f.1 - 1:=wi (by omega) (by omega)
 obtain⟨p,hp⟩:∃ p:Nat,f.1 - 1=(p:Int):=⟨(f.1 - 1).toNat,by omega⟩
 obtain⟨q,hq⟩:∃ q:Nat,fEnd f=(q:Int):=⟨(fEnd f).toNat,by unfold fEnd;omega⟩
 have hpq:q=p+(t.length+1):=by unfold fEnd at hq;omega
 have ef:(f.1,f.2.1,f.2.2.1,f.2.2.2.1,f.2.2.2.2.1,f.2.2.2.2.2)=f:=rfl
 have hs1:S (32::[])=(⟨#[32]⟩:ByteArray):=rfl
 have hclone:f1012F 5000 F=some F:=by
  unfold f1012F cloneF
  rw[bif_true (by simp;omega)]
 have hfl:(F.filter fun y=>!ovl y f).length<=F.length:=List.length_filter_le _ _
 have hsort:(F.filter fun y=>!ovl y f).Pairwise fun a b=>a.1<b.1:=hF.lt.filter _
 obtain⟨r,b6,r1,r2,r3,r4⟩:=f1140q (F.filter fun y=>!ovl y f) f hsort (by omega)
 have hins:(F.filter fun y=>!ovl y f).take r++[f]++(F.filter fun y=>!ovl y f).drop r=wrF F f:=by
  refine ins_split r1 (fun y hy=>?_) (fun y hy=>?_)
  ·obtain⟨m,hm⟩:=List.getElem?_of_mem hy
   rw[List.getElem?_take] at hm
   split at hm
   ·exact r2 m y ‹_› hm
   ·cases hm
  ·obtain⟨m,hm⟩:=List.getElem?_of_mem hy
   rw[List.getElem?_drop] at hm
   have hge:=r3 (r+m) y (by omega) hm
   have hmem:=List.mem_of_getElem? hm
   rw[List.mem_filter] at hmem
   have oy:=hF.ok y hmem.1
   have ho:ovl y f=false:=by simpa using hmem.2
   have:=(ovl_false oy hf).1 ho
   have:=oy.l
   unfold fEnd at *
   omega
 unfold f1107v0F
 have wp:IntKind.i64.wrap (p:Int)=(p:Int):=wi (by omega) (by omega)
 simp only[ef,f1017q _ f hf,bind_some',hp,wp,hq,S_size,Int.toNat_natCast,← hs1]
 rw[bif_true (sliceB0 (by omega))]
 simp only[S_cut,S_app,S_size,List.length_append,List.length_take,List.length_drop,List.length_cons,List.length_nil,List.drop_zero]
 rw[bif_true (by simp;omega),bif_true (by simp;omega),bif_true (sliceB (by omega) (Nat.le_refl _)),bif_true (by simp;omega)]
 rw[hclone]
 simp only[bind_some']
 have hd:=f1138q F f hF.ok (by omega)
 rw[hp,hq] at hd
 rw[hd]
 simp only[bind_some',r4,Int.toNat_natCast]
 rw[bif_true (by simp;omega),hins]
 unfold patch
 congr 4
 ·rw[List.append_assoc];rfl
 ·rw[hpq,List.take_of_length_le (Nat.le_refl c.length)];rfl
def plc (a b:UInt8):Bool:=(decide ((1:Int)<=(a.toNat:Int))&&decide ((a.toNat:Int)<=24))&&(decide ((1:Int)<=(b.toNat:Int))&&decide ((b.toNat:Int)<=80))
def cel (a b:UInt8):Int:=((a.toNat:Int) - 1)*80+(b.toNat:Int) - 1
theorem wi_byte (b:UInt8):IntKind.i64.wrap (b.toNat:Int)=(b.toNat:Int):=wi (by have:=byte_rng b;omega) (by have:=byte_rng b;omega)
theorem f1045q (k:Nat)(a b:UInt8):f1045F k ((a.toNat:Int),(b.toNat:Int))=some (cel a b):=by
 have:=byte_rng a
 have:=byte_rng b
 unfold f1045F cel
 simp only
 rw[wi (x:=(a.toNat:Int) - 1) (by omega) (by omega),wi (x:=((a.toNat:Int) - 1)*80) (by omega) (by omega),wi (x:=((a.toNat:Int) - 1)*80+b.toNat) (by omega) (by omega),wi (by omega) (by omega)]
theorem f1038q (l:List UInt8)(i:Nat)(a b:UInt8)(ha:l[i]?=some a)(hb:l[i+1]?=some b)(hl:l.length<=5000):f1038F 5000 (S l,(i:Int))=some (cel a b,plc a b):=by
 have hi:i<l.length:=(List.getElem?_eq_some_iff.1 ha).1
 have hi1:i+1<l.length:=(List.getElem?_eq_some_iff.1 hb).1
 have e1:bt (S l) (i:Int)=(a.toNat:Int):=by rw[S_bt l i hi,getD_of ha]
 have e2:bt (S l) ((i+1:Nat):Int)=(b.toNat:Int):=by rw[S_bt l (i+1) hi1,getD_of hb]
 unfold f1038F plc
 simp only[S_size,inb hi,wi_succ (i:=i) (by omega),inb hi1,cond_true,e1,e2,wi_byte,f1045q,f969q,bind_some']
 cases (decide ((1:Int)<=(a.toNat:Int))&&decide ((a.toNat:Int)<=24))<;>rfl
abbrev St4:=List UInt8×List SF×Int×Int
structure Good4 (s:St4):Prop where
 n:s.1.length=1920
 t:txL s.1=true
 f:RightF s.2.1
 c0:0<=s.2.2.1
 c1:s.2.2.1<=1919
 b0:-1<=s.2.2.2
 b1:s.2.2.2<=1919
def rgt (fl at_ n:UInt8):Bool:=((fl.toNat:Int)==0||((fl.toNat:Int)==64||(fl.toNat:Int)==96))&&((decide ((0:Int)<=(at_.toNat:Int) - 32)&&decide ((at_.toNat:Int) - 32<=15))&&decide ((n.toNat:Int) > 0))
def sfld (fl at_ n:UInt8)(buf:Int):SF:=(buf+1,(n.toNat:Int),(at_.toNat:Int) - 32,decide ((fl.toNat:Int)≥64),(fl.toNat:Int)==96,false)
def fldE (fl at_ n:UInt8)(t:List UInt8)(buf:Int):Int:=fst0 [bif !rgt fl at_ n then 3 else 0,bif decide (buf<0) then 26 else 0,bif decide (buf+1+(n.toNat:Int) > 1920) then 3 else 0,bif !txL t then 8 else 0]
def fldS (t:List UInt8)(s:St4):Nat×Int×St4:=match t with
 | fl::at_::n::u =>
  if u.length<n.toNat then (0,9,s)
  else if fldE fl at_ n (u.take n.toNat) s.2.2.2≠0 then (0,fldE fl at_ n (u.take n.toNat) s.2.2.2,s)
  else (4+n.toNat,0,patch s.1 s.2.2.2.toNat (32::u.take n.toNat),wrF s.2.1 (sfld fl at_ n s.2.2.2),s.2.2.1,-1)
 | _=>(0,9,s)
theorem fldE_ok {fl at_ n:UInt8}{t:List UInt8}{buf:Int}(h:fldE fl at_ n t buf=0):rgt fl at_ n=true∧0<=buf∧buf+1+(n.toNat:Int)<=1920∧txL t=true:=by
 unfold fldE at h
 simp only[fst0_cons,bif_zero (show (3:Int)≠0 by decide),bif_zero (show (26:Int)≠0 by decide),bif_zero (show (8:Int)≠0 by decide)] at h
 obtain⟨h1,h2,h3,h4,-⟩:=h
 simp at h1 h2 h3 h4
 exact⟨h1,h2,h3,h4⟩
theorem sfld_ok {fl at_ n:UInt8}{buf:Int}(h:rgt fl at_ n=true)(h0:0<=buf)(h1:buf+1+(n.toNat:Int)<=1920):OkF (sfld fl at_ n buf):=by
 unfold rgt at h
 simp only[Bool.and_eq_true,decide_eq_true_eq,Bool.or_eq_true,beq_iff_eq] at h
 obtain⟨h2,⟨h3,h4⟩,h5⟩:=h
 refine⟨by simp only[sfld];omega,by simp only[sfld];omega,by simp only[sfld,fEnd];omega,by simp only[sfld];omega,by simp only[sfld];omega,fun h=>?_⟩
 simp only[sfld,Bool.false_or,beq_iff_eq,decide_eq_true_eq] at h ⊢
 omega
theorem fldS_good {t:List UInt8}{s:St4}(h:Good4 s):Good4 (fldS t s).2.2∧((fldS t s).2.1=0->(fldS t s).1<=t.length+1∧0<(fldS t s).1):=by
 unfold fldS
 split
 ·rename_i fl at_ n u
  by_cases h1:u.length<n.toNat
  ·rw[if_pos h1];exact⟨h,fun e=>by cases e⟩
  ·rw[if_neg h1]
   by_cases h2:fldE fl at_ n (u.take n.toNat) s.2.2.2=0
   ·rw[if_neg (not_not_intro h2)]
    obtain⟨e1,e2,e3,e4⟩:=fldE_ok h2
    have ok:=sfld_ok e1 e2 e3
    have hl:(32::u.take n.toNat).length=n.toNat+1:=by simp;omega
    refine⟨⟨?_,?_,h.f.wr ok,h.c0,h.c1,by simp,by simp⟩,fun _=>?_⟩
    ·rw[patch_len (by rw[hl,h.n];omega)];exact h.n
    ·refine txL_mem.2 (patch_mem (txL_mem.1 h.t) fun x hx=>?_)
     rcases List.mem_cons.1 hx with rfl | hx
     ·decide
     ·exact txL_mem.1 e4 x hx
    ·simp only[List.length_cons]
     omega
   ·rw[if_pos h2];exact⟨h,fun e=>absurd e h2⟩
 ·exact⟨h,fun e=>by cases e⟩
abbrev un4 (n:Nat×Int×St4)(l:List UInt8)(a:Nat):D88:=((n.1:Int),n.2.1,S n.2.2.1,n.2.2.2.1,n.2.2.2.2.1,S l,(a:Int),n.2.2.2.2.2,())
set_option maxHeartbeats 1000000 in
theorem f1063q (l:List UInt8)(a:Nat)(s:St4)(h:Good4 s)(ha:a<l.length)(hl:l.length<=4200) :
  f1063v0F 5000 (S s.1,s.2.1,s.2.2.1,S l,(a:Int),s.2.2.2,())=some (un4 (fldS (l.drop (a+1)) s) l a):=by
 unfold f1063v0F
 simp only[S_size,wi_succ (i:=a) (by omega)]
 rw[bif_true (sliceB (by omega) (Nat.le_refl _))]
 simp only[Int.toNat_natCast,S_cut,List.take_length,S_size]
 obtain⟨t,ht⟩:∃ t,t=l.drop (a+1):=⟨_,rfl⟩
 have htl:t.length<=4200:=by rw[ht];simp;omega
 rw[← ht]
 match t,htl with
 | [],_=>rw[bif_true (by simp)];rfl
 | [_],_=>rw[bif_true (by simp)];rfl
 | [_,_],_=>rw[bif_true (by simp)];rfl
 | fl::at_::n::u,htl =>
  simp only[List.length_cons] at htl
  have r0:=byte_rng fl
  have r1:=byte_rng at_
  have r2:=byte_rng n
  have b0:bt (S (fl::at_::n::u)) 0=(fl.toNat:Int):=S_bt _ 0 (by simp)
  have b1:bt (S (fl::at_::n::u)) 1=(at_.toNat:Int):=S_bt _ 1 (by simp)
  have b2:bt (S (fl::at_::n::u)) 2=(n.toNat:Int):=S_bt _ 2 (by simp)
  have w3:IntKind.i64.wrap ((3:Int)+(n.toNat:Int))=((3+n.toNat:Nat):Int):=by rw[wi (by omega) (by omega)];omega
  have wa:IntKind.i64.wrap ((at_.toNat:Int) - 32)=(at_.toNat:Int) - 32:=wi (by omega) (by omega)
  have wb:IntKind.i64.wrap (s.2.2.2+1)=s.2.2.2+1:=wi (by have:=h.b0;omega) (by have:=h.b1;omega)
  have wc:IntKind.i64.wrap (s.2.2.2+1+(n.toNat:Int))=s.2.2.2+1+(n.toNat:Int):=wi (by have:=h.b0;omega) (by have:=h.b1;omega)
  have w4:IntKind.i64.wrap ((4:Int)+(n.toNat:Int))=((4+n.toNat:Nat):Int):=by rw[wi (by omega) (by omega)];omega
  simp only[b0,b1,b2,wi_byte,w3,wa,wb,wc,w4,List.length_cons]
  rw[bif_false (by simp;omega),bif_true (by simp;omega)]
  have efld:fldS (fl::at_::n::u) s=(if u.length<n.toNat then (0,9,s)
   else if fldE fl at_ n (u.take n.toNat) s.2.2.2≠0 then (0,fldE fl at_ n (u.take n.toNat) s.2.2.2,s)
   else (4+n.toNat,0,patch s.1 s.2.2.2.toNat (32::u.take n.toNat),wrF s.2.1 (sfld fl at_ n s.2.2.2),s.2.2.1,-1)):=rfl
  rw[efld]
  by_cases hn:u.length<n.toNat
  ·rw[if_pos hn,bif_true (by simp;omega)]
   rfl
  ·rw[if_neg hn,bif_false (by simp;omega),bif_true (by simp;omega),bif_true (by simp;omega),bif_true (by simp;omega)]
   have hcut:((fl::at_::n::u).take (3+n.toNat)).drop 3=u.take n.toNat:=by
    rw[Nat.add_comm 3 n.toNat]
    rfl
   have hsb:sliceBds (3:Int) ((3+n.toNat:Nat):Int) ((u.length+1+1+1:Nat):Int)=true:=sliceB (a:=3) (by omega) (by omega)
   have ef:(s.2.2.2+1,(n.toNat:Int),(at_.toNat:Int) - 32,decide ((fl.toNat:Int)≥64),((fl.toNat:Int)==96),false)=sfld fl at_ n s.2.2.2:=rfl
   have tail:∀ q:Bool,q=rgt fl at_ n ->
     (Option.bind (f968F 5000 (!q,3)) fun y5 =>
      Option.bind (f968F 5000 (decide (s.2.2.2<0),26)) fun y6 =>
      Option.bind (f968F 5000 (decide (s.2.2.2+1+(n.toNat:Int) > 1920),3)) fun y8 =>
      Option.bind (f1024F 5000 (S (u.take n.toNat))) fun y9 =>
      Option.bind (f968F 5000 (!y9,8)) fun y10 =>
      Option.bind (f966F 5000 [y5,y6,y8,y10]) fun y11 =>
      bif (y11 !=(0:Int)) then
       some ((0:Int),y11,S s.1,s.2.1,s.2.2.1,S l,(a:Int),s.2.2.2,())
      else
      Option.bind (f1107v0F 5000 (s.2.2.2+1,(n.toNat:Int),(at_.toNat:Int) - 32,decide ((fl.toNat:Int)≥64),((fl.toNat:Int)==96),false,S (u.take n.toNat),S s.1,s.2.1,s.2.2.1,S l,(a:Int),s.2.2.2,())) fun y12 =>
      some (((4+n.toNat:Nat):Int),(0:Int),y12.1,y12.2.2.2.2.2.1,y12.2.1,y12.2.2.1,y12.2.2.2.1,(-1:Int),())) =
     some (un4 (if fldE fl at_ n (u.take n.toNat) s.2.2.2≠0 then (0,fldE fl at_ n (u.take n.toNat) s.2.2.2,s)
      else (4+n.toNat,0,patch s.1 s.2.2.2.toNat (32::u.take n.toNat),wrF s.2.1 (sfld fl at_ n s.2.2.2),s.2.2.1,-1)) l a):=by
    intro q hq
    simp only[f968q,f1024q _ (show (S (u.take n.toNat)).size<5000 by rw[S_size];simp;omega),isTx_S,first4,bind_some',hq]
    have e0:fst0 [bif !rgt fl at_ n then 3 else 0,bif decide (s.2.2.2<0) then 26 else 0,bif decide (s.2.2.2+1+(n.toNat:Int) > 1920) then 3 else 0,bif !txL (u.take n.toNat) then 8 else 0]=fldE fl at_ n (u.take n.toNat) s.2.2.2:=rfl
    rw[e0]
    by_cases he:fldE fl at_ n (u.take n.toNat) s.2.2.2=0
    ·obtain⟨e1,e2,e3,e4⟩:=fldE_ok he
     have ok:=sfld_ok e1 e2 e3
     have hw:=f1107q s.1 (u.take n.toNat) s.2.1 (sfld fl at_ n s.2.2.2) s.2.2.1 (S l) (a:Int) s.2.2.2 h.n h.f ok (by simp[sfld];omega)
     have ep:(sfld fl at_ n s.2.2.2).1 - 1=s.2.2.2:=by simp only[sfld];omega
     rw[ep] at hw
     rw[he,bif_false (by decide),if_neg (by decide)]
     have hw':f1107v0F 5000 (s.2.2.2+1,(n.toNat:Int),(at_.toNat:Int) - 32,decide ((fl.toNat:Int)≥64),((fl.toNat:Int)==96),false,S (u.take n.toNat),S s.1,s.2.1,s.2.2.1,S l,(a:Int),s.2.2.2,())=_:=hw
     rw[hw']
     rfl
    ·rw[bif_true (bne0 he),if_pos he]
     rfl
   have h3n:(3:Int).toNat=3:=rfl
   simp only[hsb,cond_true,Int.toNat_natCast,h3n,S_cut,hcut,f969q,bind_some']
   have fin:∀ q:Bool,q=rgt fl at_ n->_:=tail
   by_cases f0:(fl.toNat:Int)=0
   ·rw[bif_true (by simpa using f0)]
    cases ha2:(decide ((0:Int)<=(at_.toNat:Int) - 32)&&decide ((at_.toNat:Int) - 32<=15)) with
    | true=>exact tail (decide ((n.toNat:Int) > 0)) (by unfold rgt;rw[ha2,f0];rfl)
    | false=>exact tail false (by unfold rgt;rw[ha2];simp)
   ·rw[bif_false (by simpa using f0)]
    by_cases f1:(fl.toNat:Int)=64
    ·rw[bif_true (by simpa using f1)]
     cases ha2:(decide ((0:Int)<=(at_.toNat:Int) - 32)&&decide ((at_.toNat:Int) - 32<=15)) with
     | true=>exact tail (decide ((n.toNat:Int) > 0)) (by unfold rgt;rw[ha2,f1];rfl)
     | false=>exact tail false (by unfold rgt;rw[ha2];simp)
    ·rw[bif_false (by simpa using f1)]
     by_cases f2:(fl.toNat:Int)=96
     ·rw[bif_true (by simpa using f2)]
      cases ha2:(decide ((0:Int)<=(at_.toNat:Int) - 32)&&decide ((at_.toNat:Int) - 32<=15)) with
      | true=>exact tail (decide ((n.toNat:Int) > 0)) (by unfold rgt;rw[ha2,f2];rfl)
      | false=>exact tail false (by unfold rgt;rw[ha2];simp)
     ·rw[bif_false (by simpa using f2)]
      exact tail false (by unfold rgt;rw[beq_eq_false_iff_ne.2 f0,beq_eq_false_iff_ne.2 f1,beq_eq_false_iff_ne.2 f2];rfl)
theorem f73s {c:UInt8}{n:Nat}(hn:n<=4900):f73F 5000 ((⟨#[c]⟩:ByteArray),(n:Int))=some (S (List.replicate n c)):=by
 unfold f73F
 have hs:((⟨#[c]⟩:ByteArray).size:Int)=1:=rfl
 simp only[hs]
 rw[bif_true (by simp<;>omega),Int.toNat_natCast]
 have h:=Lib.repeatL_replicate c 1 n
 have h:Lib.repeatL [c] n=List.replicate n c:=by rw[Nat.mul_one] at h;exact h
 show some (⟨(Lib.repeatL [c] n).toArray⟩:ByteArray)=_
 rw[h]
 rfl
theorem iterS_succ {V R:Type}(Step:(V->Option R)->V->Option R)(k:Nat)(v:V):iterS Step (k+1) v=Step (iterS Step k) v:=rfl
def blank:List UInt8:=List.replicate 1920 32
theorem f955q:f955F 5000 ()=some (S blank,[],0):=by
 unfold f955F blank
 rw[show ((1920:Int))=((1920:Nat):Int) from rfl,f73s (by omega)]
 rfl
theorem blank_good:Good4 (blank,[],0,-1):=by
 refine⟨List.length_replicate,?_,?_,by simp,by simp,by simp,by simp⟩
 ·refine txL_mem.2 fun x hx=>?_
  rw[(List.mem_replicate.1 hx).2]
  decide
 ·exact⟨fun y hy=>(by cases hy),List.Pairwise.nil⟩
def ordS (t:List UInt8)(s:St4):Nat×Int×St4:=match t with
 | []=>(0,9,s)
 | b::t =>
  if (b.toNat:Int)=64 then (1,0,blank,[],0,-1)
  else if (b.toNat:Int)=29 then fldS t s
  else if (b.toNat:Int)=17∨(b.toNat:Int)=19 then (match t with
   | x::y::_=>if plc x y=true then (if (b.toNat:Int)=17 then (3,0,s.1,s.2.1,s.2.2.1,cel x y) else (3,0,s.1,s.2.1,cel x y,s.2.2.2)) else (0,3,s)
   | _=>(0,9,s))
  else (0,4,s)
theorem cel_rng {x y:UInt8}(h:plc x y=true):0<=cel x y∧cel x y<=1919:=by
 unfold plc at h
 simp only[Bool.and_eq_true,decide_eq_true_eq] at h
 unfold cel
 omega
theorem ordS_good {t:List UInt8}{s:St4}(h:Good4 s):Good4 (ordS t s).2.2∧((ordS t s).2.1=0->(ordS t s).1<=t.length∧0<(ordS t s).1):=by
 unfold ordS
 split
 ·exact⟨h,fun e=>by cases e⟩
 ·rename_i b t
  by_cases h1:(b.toNat:Int)=64
  ·rw[if_pos h1]
   exact⟨blank_good,fun _=>by simp⟩
  ·rw[if_neg h1]
   by_cases h2:(b.toNat:Int)=29
   ·rw[if_pos h2]
    have:=fldS_good (t:=t) h
    exact⟨this.1,fun e=>by have:=this.2 e;simp;omega⟩
   ·rw[if_neg h2]
    by_cases h3:(b.toNat:Int)=17∨(b.toNat:Int)=19
    ·rw[if_pos h3]
     split
     ·rename_i x y u
      by_cases h4:plc x y=true
      ·rw[if_pos h4]
       have:=cel_rng h4
       by_cases h5:(b.toNat:Int)=17
       ·rw[if_pos h5];exact⟨⟨h.n,h.t,h.f,h.c0,h.c1,by show -1<=cel x y;omega,this.2⟩,fun _=>by simp⟩
       ·rw[if_neg h5];exact⟨⟨h.n,h.t,h.f,this.1,this.2,h.b0,h.b1⟩,fun _=>by simp⟩
      ·rw[if_neg h4];exact⟨h,fun e=>by cases e⟩
     ·exact⟨h,fun e=>by cases e⟩
    ·rw[if_neg h3];exact⟨h,fun e=>by cases e⟩
set_option maxHeartbeats 1000000 in
theorem f1006q (l:List UInt8)(a:Nat)(s:St4)(h:Good4 s)(ha:a<l.length)(hl:l.length<=4200) :
  f1006v0F 5000 (S s.1,s.2.1,s.2.2.1,S l,(a:Int),s.2.2.2,())=some (un4 (ordS (l.drop a) s) l a):=by
 unfold f1006v0F
 simp only[S_size,inb ha,cond_true]
 obtain⟨b,hb⟩:∃ b,l[a]?=some b:=⟨l[a],List.getElem?_eq_getElem ha⟩
 have e1:bt (S l) (a:Int)=(b.toNat:Int):=by rw[S_bt l a ha,getD_of hb]
 have hd:l.drop a=b::l.drop (a+1):=by
  rw[List.drop_eq_getElem_cons ha]
  congr 1
  rw[List.getElem?_eq_getElem ha] at hb
  exact Option.some.inj hb
 rw[e1,hd]
 have eo:ordS (b::l.drop (a+1)) s=(if (b.toNat:Int)=64 then (1,0,blank,[],0,-1)
  else if (b.toNat:Int)=29 then fldS (l.drop (a+1)) s
  else if (b.toNat:Int)=17∨(b.toNat:Int)=19 then (match l.drop (a+1) with
   | x::y::_=>if plc x y=true then (if (b.toNat:Int)=17 then (3,0,s.1,s.2.1,s.2.2.1,cel x y) else (3,0,s.1,s.2.1,cel x y,s.2.2.2)) else (0,3,s)
   | _=>(0,9,s))
  else (0,4,s)):=rfl
 rw[eo]
 by_cases h1:(b.toNat:Int)=64
 ·rw[if_pos h1,bif_true (by simpa using h1),f955q]
  rfl
 ·rw[if_neg h1,bif_false (by simpa using h1)]
  by_cases h2:(b.toNat:Int)=29
  ·rw[if_pos h2,bif_true (by simpa using h2),f1063q l a s h ha hl]
   rfl
  ·rw[if_neg h2,bif_false (by simpa using h2)]
   have hdl:(l.drop (a+1)).length=l.length - (a+1):=List.length_drop
   have w0:IntKind.i64.wrap ((l.length:Int) - (a:Int))=(l.length:Int) - (a:Int):=wi (by omega) (by omega)
   have hpl:∀ x y u,l.drop (a+1)=x::y::u->f1038F 5000 (S l,IntKind.i64.wrap ((a:Int)+1))=some (cel x y,plc x y):=by
    intro x y u hu
    have hx:l[a+1]?=some x:=by
     have:(l.drop (a+1))[0]?=some x:=by rw[hu];rfl
     rwa [List.getElem?_drop,Nat.add_zero] at this
    have hy:l[a+1+1]?=some y:=by
     have:(l.drop (a+1))[1]?=some y:=by rw[hu];rfl
     rwa [List.getElem?_drop] at this
    rw[wi_succ (i:=a) (by omega)]
    exact f1038q l (a+1) x y hx hy (by omega)
   by_cases h17:(b.toNat:Int)=17
   ·have q17:((b.toNat:Int)==17)=true:=by simpa using h17
    rw[if_pos (Or.inl h17)]
    unfold f1006v0p0
    simp only[q17,cond_true,S_size,w0]
    match hu:l.drop (a+1) with
    | []=>rw[bif_true (by rw[hu] at hdl;simp at hdl ⊢;omega)];rfl
    | [_]=>rw[bif_true (by rw[hu] at hdl;simp at hdl ⊢;omega)];rfl
    | x::y::u =>
     rw[bif_false (by rw[hu] at hdl;simp at hdl ⊢;omega),hpl x y u hu,bind_some']
     by_cases hp:plc x y=true
     ·simp only[hp,Bool.not_true,cond_false,if_true,if_pos h17]
      unfold f1006v0p1
      simp only[S_size,inb ha,cond_true,e1,q17]
      rfl
     ·have hp':plc x y=false:=by simpa using hp
      simp only[hp',Bool.not_false,cond_true]
      rfl
   ·have q17:((b.toNat:Int)==17)=false:=by simpa using h17
    by_cases h19:(b.toNat:Int)=19
    ·have q19:((b.toNat:Int)==19)=true:=by simpa using h19
     rw[if_pos (Or.inr h19)]
     unfold f1006v0p0
     simp only[q17,q19,cond_true,cond_false,S_size,w0]
     match hu:l.drop (a+1) with
     | []=>rw[bif_true (by rw[hu] at hdl;simp at hdl ⊢;omega)];rfl
     | [_]=>rw[bif_true (by rw[hu] at hdl;simp at hdl ⊢;omega)];rfl
     | x::y::u =>
      rw[bif_false (by rw[hu] at hdl;simp at hdl ⊢;omega),hpl x y u hu,bind_some']
      by_cases hp:plc x y=true
      ·simp only[hp,Bool.not_true,cond_false,if_true,if_neg h17]
       unfold f1006v0p1
       simp only[S_size,inb ha,cond_true,cond_false,e1,q17]
       rfl
      ·have hp':plc x y=false:=by simpa using hp
       simp only[hp',Bool.not_false,cond_true]
       rfl
    ·have q19:((b.toNat:Int)==19)=false:=by simpa using h19
     rw[if_neg (by simp[h17,h19])]
     unfold f1006v0p0
     simp only[q17,q19,cond_true,cond_false,S_size,w0]
     rfl
abbrev Bad:Scr:=(ByteArray.empty,[],0)
def shS:Nat->List UInt8->Nat->St4->Scr×Int×Int
 | 0,_,a,s=>((S s.1,s.2.1,s.2.2.1),(a:Int),0)
 | k+1,t,a,s=>match t with
  | []=>((S s.1,s.2.1,s.2.2.1),(a:Int),0)
  | b::u=>if (ordS (b::u) s).2.1≠0 then (Bad,(a:Int),(ordS (b::u) s).2.1)
   else shS k ((b::u).drop (ordS (b::u) s).1) (a+(ordS (b::u) s).1) (ordS (b::u) s).2.2
theorem f940l0q (l:List UInt8)(hl:l.length<=4000):∀ (k a:Nat) (s:St4),Good4 s->a<=l.length->l.length - a<k ->
  iterS (fun rec v=>f940l0s 5000 rec (fun (w5:D92)=>some ((w5.2.2.2.1,([],w5.2.2.2.2.1)),w5.2.1,w5.2.2.1))
   (fun (w6:D93)=>some ((w6.2.2.2.1,(w6.2.2.2.2.1,w6.2.2.2.2.2.1)),(w6.1.size:Int),(0:Int))) v) k
   (S l,ByteArray.empty,(0:Int),S s.1,s.2.1,s.2.2.1,S l,(a:Int),s.2.2.2,())=some (shS k (l.drop a) a s):=by
 intro k
 induction k with
 | zero=>intro a s h ha hk;omega
 | succ k ih =>
  intro a s h ha hk
  rw[iterS_succ]
  unfold f940l0s
  simp only[S_size]
  by_cases hal:a<l.length
  ·rw[bif_true (by simpa using hal),f1006q l a s h hal (by omega),bind_some']
   obtain⟨b,u,hu⟩:∃ b u,l.drop a=b::u:=by
    cases hd:l.drop a with
    | nil=>have:=List.drop_eq_nil_iff.1 hd;omega
    | cons b u=>exact⟨b,u,rfl⟩
   have hg:=ordS_good (t:=b::u) h
   have hlen:(b::u).length=l.length - a:=by rw[← hu];exact List.length_drop
   have es:shS (k+1) (b::u) a s=if (ordS (b::u) s).2.1≠0 then (Bad,(a:Int),(ordS (b::u) s).2.1)
    else shS k ((b::u).drop (ordS (b::u) s).1) (a+(ordS (b::u) s).1) (ordS (b::u) s).2.2:=rfl
   rw[hu,es]
   by_cases he:(ordS (b::u) s).2.1=0
   ·rw[if_neg (by simpa using he)]
    simp only[un4]
    rw[bif_false (by simpa using he)]
    have hr:=hg.2 he
    have hw:IntKind.i64.wrap ((a:Int)+((ordS (b::u) s).1:Int))=((a+(ordS (b::u) s).1:Nat):Int):=by rw[wi (by omega) (by omega)];omega
    rw[hw]
    have:=ih (a+(ordS (b::u) s).1) (ordS (b::u) s).2.2 hg.1 (by omega) (by omega)
    rw[← List.drop_drop,hu] at this
    exact this
   ·rw[if_pos he]
    simp only[un4]
    rw[bif_true (bne0 he)]
  ·rw[bif_false (by simpa using hal)]
   have:l.drop a=[]:=List.drop_eq_nil_iff.2 (by omega)
   rw[this]
   have:a=l.length:=by omega
   subst this
   rfl
def shown (s:Scr)(l:List UInt8):Scr×Int×Int :=
 if (chkScr s).2≠0 then (Bad,0,(chkScr s).2)
 else if 4000<l.length then (Bad,0,2)
 else shS 5000 l 0 (s.1.data.toList,s.2.1,s.2.2,-1)
theorem RightS.good {s:Scr}(h:RightS s):Good4 (s.1.data.toList,s.2.1,s.2.2,-1) :=
 ⟨h.n,h.t,h.f,h.c0,h.c1,by simp,by simp⟩
theorem f940q (s:Scr)(l:List UInt8)(hc:s.1.size<=2000)(hF:s.2.1.length<=200):f940F 5000 (s,S l)=some (shown s l):=by
 unfold f940F shown
 have es:(s.1,s.2.1,s.2.2)=s:=rfl
 simp only[es,f1005q s hc hF,f968q,S_size,first2,bind_some']
 by_cases h1:(chkScr s).2=0
 ·rw[if_neg (by simpa using h1)]
  by_cases h2:4000<l.length
  ·rw[if_pos h2,h1,bif_true (show decide ((l.length:Int) > 4000)=true by simp;omega)]
   rfl
  ·rw[if_neg h2,h1,bif_false (show decide ((l.length:Int) > 4000)=false by simp;omega)]
   have:=f940l0q l (by omega) 5000 0 (s.1.data.toList,s.2.1,s.2.2,-1) (chkScr_right.1 h1).good (by omega) (by omega)
   rw[List.drop_zero] at this
   rw[bif_false (show (fst0 [0,0] !=0)=false from rfl)]
   unfold f940l0
   generalize shS 5000 l 0 (s.1.data.toList,s.2.1,s.2.2,-1)=r at this ⊢
   exact this
 ·rw[if_pos h1]
  have:fst0 [(chkScr s).2,bif decide ((l.length:Int) > 4000) then 2 else 0]=(chkScr s).2:=by
   unfold fst0
   rw[if_pos h1]
  rw[this,bif_true (bne0 h1)]
theorem f72q {c n:Nat}(hn:n<=4900):f72F 5000 ((c:Int),(n:Int))=some (S (List.replicate n (UInt8.ofNat c))):=by
 unfold f72F f72l0
 have:=iter_up (k:=5000) (R:=ByteArray) (A:=Unit) n (Step:=fun rec v=>f72l0s 5000 rec (fun (w1:List Int×Unit)=>some (strOfNums w1.1)) v)
  (fun i _=>((c:Int),(n:Int),(i:Int),List.replicate i (c:Int),())) (fun _ _=>some (S (List.replicate n (UInt8.ofNat c)))) (fun _ _=>True)
  (by
   intro rec a _
   unfold f72l0s
   rw[bif_false (by simp)]
   simp only[S_nums,List.map_replicate,Int.toNat_natCast])
  (by
   intro rec i a hi _
   refine .inl ⟨(),trivial,?_,rfl⟩
   unfold f72l0s
   rw[bif_true (by simp;omega),bif_true (by simp;omega)]
   simp only[wi_succ (i:=i) (by omega),List.replicate_succ'])
  (by omega) () trivial
 exact this
theorem f1028q (k:Nat)(c t:List UInt8)(p:Nat)(h:p+t.length<=c.length)(hc:c.length<=4000):f1028F k (S c,(p:Int),S t)=some (S (patch c p t)):=by
 unfold f1028F patch
 have w:IntKind.i64.wrap ((p:Int)+(t.length:Int))=((p+t.length:Nat):Int):=by rw[wi (by omega) (by omega)];omega
 have hb:sliceBds (0:Int) (p:Int) (c.length:Int)=true:=sliceB (a:=0) (by omega) (by omega)
 have hb2:sliceBds ((p+t.length:Nat):Int) (c.length:Int) (c.length:Int)=true:=sliceB h (Nat.le_refl _)
 simp only[S_size,S_cut,hb,cond_true,w,hb2,Int.toNat_natCast,List.drop_zero,S_app,List.take_length]
 rw[bif_true (by simp;omega),bif_true (by simp;omega)]
def nxt {R:Type}(rec:D202->Option R)(bad:Int->Option R)(l:List UInt8)(a:Nat)(r:Nat×Int×St4):Option R :=
 if r.2.1≠0 then bad r.2.1 else rec (S l,r.2.2.2.2.2,((a+r.1:Nat):Int),S r.2.2.1,r.2.2.2.1,r.2.2.2.2.1,ByteArray.empty,(0:Int),())
abbrev SFd:SF:=(0,(0,(0,(false,(false,false)))))
def md (x:SF):SF:=(x.1,(x.2.1,(x.2.2.1,(x.2.2.2.1,(x.2.2.2.2.1,true)))))
def fdF (q:SF->Bool):Nat->List SF->Option Nat
 | _,[]=>none
 | i,x::l=>bif x.2.2.2.1&&q x then some i else fdF q (i+1) l
def curQ (cu:Int)(x:SF):Bool:=decide (x.1<=cu)&&decide (cu<fEnd x)
def fsA:List SF->Option Int
 | []=>none
 | x::l=>bif x.2.2.2.1 then some x.1 else fsA l
def nxA (cu:Int):List SF->Option Int
 | []=>none
 | x::l=>bif x.2.2.2.1&&decide (x.1 > cu) then some x.1 else nxA cu l
def toA (cu:Int)(F:List SF):Option Int:=match nxA cu F with
 | some a=>some a
 | none=>fsA F
def inpI:Nat->List SF->List Int
 | _,[]=>[]
 | i,x::l=>bif x.2.2.2.1 then (i:Int)::inpI (i+1) l else inpI (i+1) l
def inp (F:List SF):List Int:=inpI 0 F
theorem inpI_mem {i:Int}:∀ {l:List SF} {a:Nat},i∈inpI a l->∃ (j:Nat) (x:SF),i=((a+j:Nat):Int)∧l[j]?=some x∧x.2.2.2.1=true
 | [],_,h=>by cases h
 | x::l,a,h=>by
  unfold inpI at h
  have rest:i∈inpI (a+1) l->∃ (j:Nat) (x':SF),i=((a+j:Nat):Int)∧(x::l)[j]?=some x'∧x'.2.2.2.1=true:=by
   intro h
   obtain⟨j,y,h1,h2,h3⟩:=inpI_mem h
   exact⟨j+1,y,by rw[h1];omega,h2,h3⟩
  cases hx:x.2.2.2.1 with
  | true =>
   rw[hx] at h
   rcases List.mem_cons.1 h with h | h
   ·exact⟨0,x,by simpa using h,rfl,hx⟩
   ·exact rest h
  | false =>
   rw[hx] at h
   exact rest h
theorem inp_mem {i:Int}{F:List SF}(h:i∈inp F):∃ (j:Nat) (x:SF),i=(j:Int)∧F[j]?=some x∧x.2.2.2.1=true:=by
 obtain⟨j,x,h1,h2⟩:=inpI_mem h
 exact⟨j,x,by simpa using h1,h2⟩
theorem inpI_len:∀ (l:List SF) (a:Nat),(inpI a l).length<=l.length
 | [],_=>Nat.le_refl _
 | x::l,a=>by
  unfold inpI
  have:=inpI_len l (a+1)
  cases x.2.2.2.1<;>simp<;>omega
theorem fd_inp (F:List SF)(q:SF->Bool):∀ (l:List SF) (a:Nat),F.drop a=l->(inpI a l).find? (fun i=>q (F.getD i.toNat SFd))=(fdF q a l).map fun n=>(n:Int)
 | [],a,_=>rfl
 | x::l,a,h=>by
  have hx:F[a]?=some x:=by
   have:(F.drop a)[0]?=some x:=by rw[h];rfl
   rwa [List.getElem?_drop,Nat.add_zero] at this
  have hl:F.drop (a+1)=l:=by rw[← List.drop_drop,h];rfl
  unfold inpI fdF
  cases hi:x.2.2.2.1 with
  | false=>exact fd_inp F q l (a+1) hl
  | true =>
   simp only[cond_true,Bool.true_and,List.find?_cons,Int.toNat_natCast,getD_of hx]
   cases hq:q x with
   | true=>rfl
   | false=>exact fd_inp F q l (a+1) hl
theorem fd_some {q:SF->Bool}{n:Nat}:∀ {l:List SF} {a:Nat},fdF q a l=some n->∃ (j:Nat) (x:SF),n=a+j∧l[j]?=some x∧x.2.2.2.1=true∧q x=true
 | [],_,h=>by cases h
 | x::l,a,h=>by
  unfold fdF at h
  cases hb:(x.2.2.2.1&&q x) with
  | true =>
   rw[hb] at h
   rw[Bool.and_eq_true] at hb
   exact⟨0,x,by simpa using h.symm,rfl,hb⟩
  | false =>
   rw[hb] at h
   obtain⟨j,y,h1,h2⟩:=fd_some h
   exact⟨j+1,y,by omega,h2⟩
theorem nx_fd (F:List SF)(cu:Int):∀ (l:List SF) (a:Nat),F.drop a=l->nxA cu l=(fdF (fun x=>decide (x.1 > cu)) a l).map fun n=>(F.getD n SFd).1
 | [],a,_=>rfl
 | x::l,a,h=>by
  have hx:F[a]?=some x:=by
   have:(F.drop a)[0]?=some x:=by rw[h];rfl
   rwa [List.getElem?_drop,Nat.add_zero] at this
  have hl:F.drop (a+1)=l:=by rw[← List.drop_drop,h];rfl
  unfold nxA fdF
  cases (x.2.2.2.1&&decide (x.1 > cu)) with
  | true=>simp only[cond_true,Option.map_some,getD_of hx]
  | false=>exact nx_fd F cu l (a+1) hl
theorem fs_inp (F:List SF):∀ (l:List SF) (a:Nat),F.drop a=l->(inpI a l=[]∧fsA l=none∨∃ i r,inpI a l=i::r∧fsA l=some (F.getD i.toNat SFd).1)
 | [],a,_=>.inl ⟨rfl,rfl⟩
 | x::l,a,h=>by
  have hx:F[a]?=some x:=by
   have:(F.drop a)[0]?=some x:=by rw[h];rfl
   rwa [List.getElem?_drop,Nat.add_zero] at this
  have hl:F.drop (a+1)=l:=by rw[← List.drop_drop,h];rfl
  unfold inpI fsA
  cases hi:x.2.2.2.1 with
  | false=>exact fs_inp F l (a+1) hl
  | true=>exact .inr ⟨_,_,rfl,by simp only[cond_true,Int.toNat_natCast,getD_of hx]⟩
theorem nx_set {x:SF}{cu:Int}:∀ {l:List SF} {j:Nat},l[j]?=some x->nxA cu (l.set j (md x))=nxA cu l
 | [],_,h=>by cases h
 | y::l,0,h=>by
  have:y=x:=by simpa using h
  subst this
  rfl
 | y::l,j+1,h=>by
  rw[List.set_cons_succ]
  unfold nxA
  rw[nx_set (l:=l) (j:=j) h]
theorem fs_set {x:SF}:∀ {l:List SF} {j:Nat},l[j]?=some x->fsA (l.set j (md x))=fsA l
 | [],_,h=>by cases h
 | y::l,0,h=>by
  have:y=x:=by simpa using h
  subst this
  rfl
 | y::l,j+1,h=>by
  rw[List.set_cons_succ]
  unfold fsA
  rw[fs_set (l:=l) (j:=j) h]
theorem to_set {x:SF}{cu:Int}{l:List SF}{j:Nat}(h:l[j]?=some x):toA cu (l.set j (md x))=toA cu l:=by
 unfold toA
 rw[nx_set h,fs_set h]
theorem nx_mem {cu a:Int}:∀ {l:List SF},nxA cu l=some a->∃ x∈l,x.1=a
 | [],h=>by cases h
 | x::l,h=>by
  unfold nxA at h
  cases hb:(x.2.2.2.1&&decide (x.1 > cu)) with
  | true =>
   rw[hb] at h
   exact⟨x,List.mem_cons_self,by simpa using h⟩
  | false =>
   rw[hb] at h
   obtain⟨y,h1,h2⟩:=nx_mem (l:=l) h
   exact⟨y,List.mem_cons_of_mem _ h1,h2⟩
theorem fs_mem {a:Int}:∀ {l:List SF},fsA l=some a->∃ x∈l,x.1=a
 | [],h=>by cases h
 | x::l,h=>by
  unfold fsA at h
  cases hb:x.2.2.2.1 with
  | true =>
   rw[hb] at h
   exact⟨x,List.mem_cons_self,by simpa using h⟩
  | false =>
   rw[hb] at h
   obtain⟨y,h1,h2⟩:=fs_mem (l:=l) h
   exact⟨y,List.mem_cons_of_mem _ h1,h2⟩
theorem to_mem {cu a:Int}{l:List SF}(h:toA cu l=some a):∃ x∈l,x.1=a:=by
 unfold toA at h
 cases hn:nxA cu l with
 | some b =>
  rw[hn] at h
  exact nx_mem (by rw[hn];exact h)
 | none =>
  rw[hn] at h
  exact fs_mem h
theorem ixF_find {α:Type}(p:α->Bool):∀ (l:List α) (i:Nat),ixF p i l=-1∧l.find? p=none∨∃ (j:Nat) (x:α),ixF p i l=((i+j:Nat):Int)∧l[j]?=some x∧l.find? p=some x
 | [],i=>.inl ⟨rfl,rfl⟩
 | x::l,i=>by
  unfold ixF
  cases hp:p x with
  | true=>exact .inr ⟨0,x,rfl,rfl,by simp[hp]⟩
  | false =>
   simp only[cond_false,List.find?_cons,hp]
   rcases ixF_find p l (i+1) with h | ⟨j,y,h1,h2,h3⟩
   ·exact .inl h
   ·exact .inr ⟨j+1,y,by rw[h1];congr 1;omega,h2,h3⟩
theorem f1065q (st:ByteArray)(cu:Int)(F:List SF)(sh:List Int)(hF:F.length<=2000):f1065v0F 5000 (st,cu,F,sh,())=some (st,cu,F,sh,inp F,()):=by
 unfold f1065v0F f1065v0l1 inp
 refine iter_list (k:=5000) (R:=D97) (A:=Nat×List Int) F (fun i a=>((F.length:Int),(i:Int),st,cu,F,sh,a.2,())) (fun m a=>some (st,cu,F,sh,a.2++inpI a.1 m,())) (fun i a=>a.1=i∧a.2.length<=i) ?_ ?_ (by omega) (0,[]) ⟨rfl,Nat.le_refl _⟩
 ·intro rec a ha
  unfold f1065v0l1s
  rw[bif_false (by simp)]
  simp[inpI]
 ·intro rec i a x hx hi ha
  obtain⟨a1,a2⟩:=a
  obtain⟨h1,h2⟩:=ha
  simp only at h1 h2
  subst h1
  refine .inl ⟨(a1+1,bif x.2.2.2.1 then a2++[(a1:Int)] else a2),⟨rfl,?_⟩,?_,?_⟩
  ·cases x.2.2.2.1<;>simp<;>omega
  ·unfold f1065v0l1s
   rw[bif_true (ltn hi)]
   unfold f1065v0p0
   simp only[inb hi,cond_true,Int.toNat_natCast,getD_of hx,wi_succ (i:=a1) (by omega)]
   cases x.2.2.2.1 with
   | true=>rw[bif_true (by rfl),bif_true (by simp;omega)];rfl
   | false=>rfl
  ·simp only[inpI]
   cases x.2.2.2.1<;>simp
theorem f1064q (st:ByteArray)(cu:Int)(F:List SF)(sh:List Int)(hR:RightF F)(hF:F.length<=2000):f1064v0F 5000 (st,cu,F,sh,())=some (match fdF (curQ cu) 0 F with
  | some n=>.inl ((n:Int),st,cu,F,sh,())
  | none=>.inr (st,cu,F,sh,())):=by
 unfold f1064v0F
 simp only[f1065q st cu F sh hF,bind_some']
 unfold f1064v0l1
 have hl:=inpI_len F 0
 have e:fdF (curQ cu) 0 F=((inp F).find? (fun i=>curQ cu (F.getD i.toNat SFd))).map Int.toNat:=by
  unfold inp
  rw[fd_inp F (curQ cu) F 0 rfl]
  cases fdF (curQ cu) 0 F<;>rfl
 rw[e]
 refine iter_list (k:=5000) (R:=Sum D100 D98) (A:=Unit) (inp F) (fun j _=>(((inp F).length:Int),(j:Int),st,cu,F,sh,inp F,())) (fun m _=>some (match (m.find? (fun i=>curQ cu (F.getD i.toNat SFd))).map Int.toNat with
  | some n=>.inl ((n:Int),st,cu,F,sh,())
  | none=>.inr (st,cu,F,sh,()))) (fun _ _=>True) ?_ ?_ (by unfold inp;omega) () trivial
 ·intro rec a _
  unfold f1064v0l1s
  rw[bif_false (by simp)]
  rfl
 ·intro rec j a i hx hj _
  obtain⟨n,x,hn,hxn,hin⟩:=inp_mem (List.mem_of_getElem? hx)
  subst hn
  have hnl:n<F.length:=(List.getElem?_eq_some_iff.1 hxn).1
  have ok:=hR.ok x (List.mem_of_getElem? hxn)
  have hg:((n:Int)::(inp F).drop (j+1)).find? (fun i=>curQ cu (F.getD i.toNat SFd))=if curQ cu x=true then some (n:Int) else ((inp F).drop (j+1)).find? (fun i=>curQ cu (F.getD i.toNat SFd)):=by
   rw[List.find?_cons]
   simp only[Int.toNat_natCast,getD_of hxn]
   cases curQ cu x<;>rfl
  have step:f1064v0l1s 5000 rec (fun (w12:D100)=>some (.inl (w12.1,w12.2.1,w12.2.2.1,w12.2.2.2.1,w12.2.2.2.2.1,()))) (fun (w13:D98)=>some (.inr (w13.1,w13.2.1,w13.2.2.1,w13.2.2.2.1,())))
    (((inp F).length:Int),(j:Int),st,cu,F,sh,inp F,())=bif curQ cu x then some (.inl ((n:Int),st,cu,F,sh,())) else rec (((inp F).length:Int),((j+1:Nat):Int),st,cu,F,sh,inp F,()):=by
   unfold f1064v0l1s
   rw[bif_true (ltn hj)]
   unfold f1064v0p0
   have ek:f1017F 5000 (x.1,(x.2.1,(x.2.2.1,(x.2.2.2.1,(x.2.2.2.2.1,x.2.2.2.2.2)))))=some (fEnd x):=f1017q 5000 x ok
   simp only[inb hj,cond_true,Int.toNat_natCast,getD_of hx,inb hnl,getD_of hxn,ek,bind_some',wi_succ (i:=j) (show j<9223372036854775807 by unfold inp at hj;omega)]
   unfold curQ
   cases decide (x.1<=cu) with
   | false=>rfl
   | true=>cases decide (cu<fEnd x)<;>rfl
  cases hc:curQ cu x with
  | true =>
   refine .inr ?_
   rw[hc] at hg
   rw[step,hc,hg]
   rfl
  | false =>
   refine .inl ⟨(),trivial,?_,?_⟩
   ·rw[step,hc]
    rfl
   ·rw[hc] at hg
    rw[hg]
    rfl
abbrev gtP (F:List SF)(cu:Int)(i:Int):Bool:=decide ((F.getD i.toNat SFd).1 > cu)
theorem f1108q (st:ByteArray)(cu:Int)(F:List SF)(sh:List Int){i:Int}(h:i∈inp F):f1108v0F 5000 (i,st,cu,F,sh,())=some (gtP F cu i,st,cu,F,sh,()):=by
 obtain⟨n,x,hn,hxn,hin⟩:=inp_mem h
 subst hn
 have hnl:n<F.length:=(List.getElem?_eq_some_iff.1 hxn).1
 unfold f1108v0F
 simp only[inb hnl,cond_true]
theorem f1088q (st:ByteArray)(cu:Int)(F:List SF)(sh:List Int)(hF:F.length<=2000):f1088v1F 5000 (inp F,st,cu,F,sh,())=some (ix (gtP F cu) (inp F),inp F,st,cu,F,sh,()):=by
 have hl:=inpI_len F 0
 have hl:(inp F).length<=2000:=by unfold inp;omega
 unfold f1088v1F f1088v1p2 f1088v1l1
 rw[show ∀ (Step:(D104->Option D102)->D104->Option D102) v,iterS Step 5000 v=Step (iterS Step 4999) v from fun _ _=>rfl]
 unfold f1088v1l1s
 simp only
 cases hi:inp F with
 | nil=>rfl
 | cons i0 r =>
  have h0:f1108v0F 5000 (i0,st,cu,F,sh,())=some (gtP F cu i0,st,cu,F,sh,()):=f1108q st cu F sh (by rw[hi];exact List.mem_cons_self)
  have e0:((i0::r).getD (Int.toNat 0) (0:Int))=i0:=rfl
  have hb:decide ((0:Int)<((i0::r).length:Int))=true:=by simp<;>omega
  have hb0:decide ((0:Int)<=0)=true:=rfl
  simp only[hb,hb0,Bool.and_self,cond_true,e0,h0,bind_some']
  rw[hi] at hl
  have loop:=iter_from (k:=5000) (R:=D102) (A:=Nat) (Step:=fun rec v=>f1088v1l0s 5000 rec (fun (w3:D102)=>some (w3.1,w3.2.1,w3.2.2.1,w3.2.2.2.1,w3.2.2.2.2.1,w3.2.2.2.2.2.1,())) (fun (w4:D103)=>some ((-1:Int),w4.1,w4.2.1,w4.2.2.1,w4.2.2.2.1,w4.2.2.2.2.1,())) v)
   (i0::r) (fun j _=>(((i0::r).length:Int),(j:Int),i0::r,st,cu,F,sh,())) (fun m a=>some (ixF (gtP F cu) a m,i0::r,st,cu,F,sh,())) (fun j a=>a=j)
   (by
    intro rec a ha
    unfold f1088v1l0s
    rw[bif_false (by simp)]
    rfl)
   (by
    intro rec j a x hx hj ha
    subst ha
    have h1:f1108v0F 5000 (x,st,cu,F,sh,())=some (gtP F cu x,st,cu,F,sh,()):=f1108q st cu F sh (by rw[hi];exact List.mem_of_getElem? hx)
    have eg:(some (ixF (gtP F cu) a (x::(i0::r).drop (a+1)),i0::r,st,cu,F,sh,()):Option D102)=some ((bif gtP F cu x then (a:Int) else ixF (gtP F cu) (a+1) ((i0::r).drop (a+1))),i0::r,st,cu,F,sh,()):=rfl
    have step:∀ K0 K1,f1088v1l0s 5000 rec K0 K1 (((i0::r).length:Int),(a:Int),i0::r,st,cu,F,sh,())=bif gtP F cu x then K0 ((a:Int),i0::r,st,cu,F,sh,()) else rec (((i0::r).length:Int),((a+1:Nat):Int),i0::r,st,cu,F,sh,()):=by
     intro K0 K1
     unfold f1088v1l0s
     rw[bif_true (ltn hj)]
     simp only[inb hj,cond_true,Int.toNat_natCast,getD_of hx,h1,bind_some',wi_succ (i:=a) (by omega)]
    rw[step]
    simp only[eg]
    cases gtP F cu x with
    | true=>exact .inr rfl
    | false=>exact .inl ⟨_,rfl,rfl,rfl⟩)
   (by omega) 1 1 (by simp) rfl
  have ei:ix (gtP F cu) (i0::r)=bif gtP F cu i0 then 0 else ixF (gtP F cu) 1 r:=rfl
  rw[ei]
  cases hg:gtP F cu i0 with
  | true=>rfl
  | false =>
   have w1:IntKind.i64.wrap ((0:Int)+1)=((1:Nat):Int):=rfl
   simp only[cond_false,w1]
   unfold f1088v1l0
   exact loop
theorem f1066q (st:ByteArray)(cu:Int)(F:List SF)(sh:List Int)(hF:F.length<=2000){to':Int}(ht:toA cu F=some to'):f1066v0F 5000 (st,cu,F,sh,())=some (st,to',F,sh,()):=by
 have hl:=inpI_len F 0
 have hl:(inp F).length<=2000:=by unfold inp;omega
 unfold f1066v0F f1066v0p0
 simp only[f1065q st cu F sh hF,bind_some',f1088q st cu F sh hF]
 rcases fs_inp F F 0 rfl with ⟨h1,h2⟩ | ⟨i0,r,h1,h2⟩
 ·exfalso
  unfold toA at ht
  rw[h2] at ht
  have:nxA cu F=none:=by
   rw[nx_fd F cu F 0 rfl]
   have:=fd_inp F (fun x=>decide (x.1 > cu)) F 0 rfl
   rw[h1] at this
   cases hf:fdF (fun x=>decide (x.1 > cu)) 0 F with
   | none=>rfl
   | some n=>rw[hf] at this;cases this
  rw[this] at ht
  cases ht
 ·have h1:inp F=i0::r:=h1
  rw[bif_true (by rw[h1];simp<;>omega)]
  have hfd:(inp F).find? (gtP F cu)=(fdF (fun x=>decide (x.1 > cu)) 0 F).map fun n=>(n:Int):=fd_inp F (fun x=>decide (x.1 > cu)) F 0 rfl
  have hnx:=nx_fd F cu F 0 rfl
  rcases ixF_find (gtP F cu) (inp F) 0 with ⟨e1,e2⟩ | ⟨j,i,e1,e2,e3⟩
  ·have e1:ix (gtP F cu) (inp F)=-1:=e1
   rw[e1]
   have hnone:nxA cu F=none:=by
    rw[hnx]
    cases hf:fdF (fun x=>decide (x.1 > cu)) 0 F with
    | none=>rfl
    | some n=>rw[hf,e2] at hfd;cases hfd
   unfold toA at ht
   rw[hnone,h2] at ht
   rw[bif_false (show decide ((-1:Int)≥0)=false from rfl)]
   have g0:(inp F).getD 0 0=i0:=by rw[h1];rfl
   obtain⟨n,x,hn,hxn,hin⟩:=inp_mem (show i0∈inp F by rw[h1];exact List.mem_cons_self)
   have hnl:n<F.length:=(List.getElem?_eq_some_iff.1 hxn).1
   simp only[g0]
   subst hn
   rw[bif_true (inb hnl)]
   simp only[Int.toNat_natCast] at ht ⊢
   rw[← Option.some.inj ht]
  ·have e1:ix (gtP F cu) (inp F)=(j:Int):=by unfold ix;rw[e1,Nat.zero_add]
   have hj:j<(inp F).length:=(List.getElem?_eq_some_iff.1 e2).1
   rw[e1]
   rw[bif_true (show decide ((j:Int)≥0)=true by simp),bif_true (inb hj)]
   simp only[Int.toNat_natCast,getD_of e2]
   obtain⟨n,x,hn,hxn,hin⟩:=inp_mem (List.mem_of_getElem? e2)
   have hnl:n<F.length:=(List.getElem?_eq_some_iff.1 hxn).1
   subst hn
   rw[bif_true (inb hnl)]
   have:nxA cu F=some (F.getD n SFd).1:=by
    rw[hnx]
    rw[e3] at hfd
    cases hf:fdF (fun x=>decide (x.1 > cu)) 0 F with
    | none=>rw[hf] at hfd;cases hfd
    | some m =>
     rw[hf] at hfd
     have:n=m:=by have:=Option.some.inj hfd;simp only at this;omega
     subst this
     rfl
   unfold toA at ht
   rw[this] at ht
   simp only[Int.toNat_natCast] at ht ⊢
   rw[← Option.some.inj ht]
abbrev St3:=List UInt8×List SF×Int
def badC (x:SF)(c:Int):Bool:=x.2.2.2.2.1&&(!dgc c&&((c !=32)&&((c !=45)&&(c !=46))))
def okK (c:Int):Bool:=(decide ((32:Int)<=c)&&decide (c<=126))||(c==8||(c==9||c==13))
def stay (s:St3)(x:SF)(t:Int):Int:=if s.2.2+1<fEnd x then s.2.2+1 else t
def keyI (b:UInt8)(s:St3)(n:Nat)(x:SF)(t:Int):Int×St3 :=
 if (b.toNat:Int)=8 then (0,s.1,s.2.1,mxI (s.2.2 - 1) x.1)
 else if (b.toNat:Int)=9 then (0,s.1,s.2.1,t)
 else if (b.toNat:Int)=13 then (0,patch s.1 s.2.2.toNat (List.replicate (fEnd x - s.2.2).toNat 32),s.2.1.set n (md x),t)
 else if badC x (b.toNat:Int)=true then (17,s)
 else (0,patch s.1 s.2.2.toNat [b],s.2.1.set n (md x),stay s x t)
def keyS (b:UInt8)(s:St3):Int×St3 :=
 if okK (b.toNat:Int)=false then (4,s) else match toA s.2.2 s.2.1 with
  | none=>(26,s)
  | some t=>match fdF (curQ s.2.2) 0 s.2.1 with
   | none=>if (b.toNat:Int)=9∨(b.toNat:Int)=13 then (0,s.1,s.2.1,t) else (26,s)
   | some n=>keyI b s n (s.2.1.getD n SFd) t
theorem to_none {cu:Int}{F:List SF}(h:toA cu F=none):inp F=[]:=by
 rcases fs_inp F F 0 rfl with ⟨h1,_⟩ | ⟨i0,r,_,h2⟩
 ·exact h1
 ·unfold toA at h
  rw[h2] at h
  split at h<;>cases h
theorem to_ne {cu t:Int}{F:List SF}(ht:toA cu F=some t):inp F≠[]:=by
 intro h1
 unfold toA at ht
 have hn:nxA cu F=none:=by
  rw[nx_fd F cu F 0 rfl]
  have:=fd_inp F (fun x=>decide (x.1 > cu)) F 0 rfl
  rw[show inpI 0 F=[] from h1] at this
  cases hf:fdF (fun x=>decide (x.1 > cu)) 0 F with
  | none=>rfl
  | some n=>rw[hf] at this;cases this
 rw[hn] at ht
 rcases fs_inp F F 0 rfl with ⟨_,h2⟩ | ⟨i0,r,h3,_⟩
 ·rw[h2] at ht;cases ht
 ·rw[show inpI 0 F=[] from h1] at h3;cases h3
theorem to_some {cu:Int}{F:List SF}{q:SF->Bool}{n:Nat}(h:fdF q 0 F=some n):∃ t,toA cu F=some t:=by
 cases ht:toA cu F with
 | some t=>exact⟨t,rfl⟩
 | none =>
  have h1:=to_none ht
  have:=fd_inp F q F 0 rfl
  rw[show inpI 0 F=[] from h1,h] at this
  cases this
theorem md_ok {x:SF}(h:OkF x)(hi:x.2.2.2.1=true):OkF (md x):=⟨h.a,h.l,h.e,h.t0,h.t1,fun _=>hi⟩
theorem f1067p0q {R:Type}(k0:D106->Option R)(k1:D107->Option R)(st:ByteArray)(cu c:Int)(F:List SF)(sh:List Int)(n:Nat)(x:SF)(hx:F[n]?=some x) :
  f1067v0p0 5000 k0 k1 ((n:Int),c,st,cu,F,sh,())=bif badC x c then k0 ((n:Int),c,17,st,cu,F,sh,()) else k1 ((n:Int),c,st,cu,F,sh,()):=by
 unfold f1067v0p0 badC dgc
 simp only[Int.toNat_natCast,getD_of hx]
 cases x.2.2.2.2.1 with
 | false=>rfl
 | true =>
  simp only[cond_true,Bool.true_and]
  by_cases h1:c<48
  ·rw[bif_true (by simpa using h1),decide_eq_false (show ¬ (48:Int)<=c by omega)]
   cases c !=32<;>cases c !=45<;>cases c !=46<;>rfl
  ·rw[bif_false (by simpa using h1),decide_eq_true (show (48:Int)<=c by omega)]
   by_cases h2:c > 57
   ·rw[bif_true (by simpa using h2),decide_eq_false (show ¬ c<=(57:Int) by omega)]
    cases c !=32<;>cases c !=45<;>cases c !=46<;>rfl
   ·rw[bif_false (by simpa using h2),decide_eq_true (show c<=(57:Int) by omega)]
    rfl
theorem f1067q (st:ByteArray)(cu c:Int)(F:List SF)(sh:List Int)(n:Nat)(x:SF)(t:Int)(hx:F[n]?=some x)(hR:RightF F)(hF:F.length<=2000)
  (hi:x.2.2.2.1=true) (hq:curQ cu x=true) (ht:toA cu F=some t) (hsh:sh.length=1920) :
  f1067v0F 5000 ((n:Int),c,st,cu,F,sh,())=some (if badC x c=true then (17,st,cu,F,sh,()) else (0,st,(if cu+1<fEnd x then cu+1 else t),F.set n (md x),sh.set cu.toNat c,())):=by
 have ok:=hR.ok x (List.mem_of_getElem? hx)
 have h1:=ok.a
 have h2:=ok.e
 unfold curQ at hq
 rw[Bool.and_eq_true,decide_eq_true_eq,decide_eq_true_eq] at hq
 have hn:n<F.length:=(List.getElem?_eq_some_iff.1 hx).1
 unfold f1067v0F
 simp only
 rw[f1067p0q _ _ st cu c F sh n x hx]
 cases badC x c with
 | true=>rfl
 | false =>
  rw[if_neg (by decide)]
  simp only[cond_false]
  rw[bif_true (show (decide ((0:Int)<=cu)&&decide (cu<(sh.length:Int)))=true by simp;omega)]
  simp only[Int.toNat_natCast,getD_of hx]
  have es:F.set n (x.1,x.2.1,x.2.2.1,x.2.2.2.1,x.2.2.2.2.1,true)=F.set n (md x):=rfl
  rw[es]
  unfold f1067v0p1
  have hg:(F.set n (md x)).getD n SFd=md x:=getD_of (by rw[List.getElem?_set_self hn])
  have hk:f1017F 5000 ((md x).1,((md x).2.1,((md x).2.2.1,((md x).2.2.2.1,((md x).2.2.2.2.1,(md x).2.2.2.2.2)))))=some (fEnd x):=f1017q 5000 (md x) (md_ok ok hi)
  simp only[Int.toNat_natCast,hg,hk,bind_some']
  rw[wi (x:=cu+1) (by omega) (by omega)]
  by_cases he:cu+1=fEnd x
  ·rw[bif_true (by simpa using he),f1066q st cu (F.set n (md x)) (sh.set cu.toNat c) (by simpa using hF) (by rw[to_set hx];exact ht),if_neg (by omega)]
   rfl
  ·rw[bif_false (by simpa using he),if_pos (by omega)]
theorem ints_len (l:List UInt8):(ints l).length=l.length:=by simp[ints]
theorem ints_set (l:List UInt8)(i:Nat)(b:UInt8)(h:i<l.length):(ints l).set i (b.toNat:Int)=ints (patch l i [b]):=by
 have:patch l i [b]=l.set i b:=by
  unfold patch
  rw[List.set_eq_take_append_cons_drop,if_pos h]
  simp
 rw[this]
 unfold ints
 rw[List.map_set]
theorem ints_wrt (l r:List UInt8)(i:Nat)(h:i+r.length<=l.length):wrt (ints l) i (bytesOf (S r))=ints (patch l i r):=by
 have hlen:=patch_len h
 unfold wrt
 rw[S_bytes]
 have:(ints l).take i++(ints r++(ints l).drop (i+(ints r).length))=ints (patch l i r):=by
  rw[ints_len]
  unfold ints patch
  simp[List.map_append,List.map_take,List.map_drop]
 rw[this,ints_len,← hlen,← ints_len (patch l i r),List.take_length]
structure Good3 (s:St3):Prop where
 n:s.1.length=1920
 t:txL s.1=true
 f:RightF s.2.1
 c0:0<=s.2.2
 c1:s.2.2<=1919
theorem md_right {F:List SF}{n:Nat}{x:SF}(h:RightF F)(hx:F[n]?=some x)(hi:x.2.2.2.1=true):RightF (F.set n (md x)):=by
 have hm:(F.set n (md x)).map (fun y:SF=>(y.1,fEnd y))=F.map fun y:SF=>(y.1,fEnd y):=by
  rw[List.map_set]
  have hn:n<(F.map fun y:SF=>(y.1,fEnd y)).length:=by rw[List.length_map];exact (List.getElem?_eq_some_iff.1 hx).1
  have:(F.map fun y:SF=>(y.1,fEnd y))[n]=((md x).1,fEnd (md x)):=by
   rw[List.getElem_map]
   have:=(List.getElem?_eq_some_iff.1 hx).2
   rw[this]
   rfl
  rw[← this,List.set_getElem_self]
 constructor
 ·intro y hy
  rcases List.mem_or_eq_of_mem_set hy with h1 | h1
  ·exact h.ok y h1
  ·rw[h1]
   exact md_ok (h.ok x (List.mem_of_getElem? hx)) hi
 ·have p1:(F.map fun y:SF=>(y.1,fEnd y)).Pairwise fun a b=>a.2<b.1:=List.pairwise_map.2 h.pw
  rw[← hm] at p1
  exact List.pairwise_map.1 p1
theorem to_rng {cu t:Int}{F:List SF}(h:RightF F)(ht:toA cu F=some t):1<=t∧t<=1919:=by
 obtain⟨x,hx,rfl⟩:=to_mem ht
 have ok:=h.ok x hx
 have h1:=ok.a
 have h2:=ok.l
 have h3:=ok.e
 unfold fEnd at h3
 omega
theorem cur_some {cu:Int}{F:List SF}{n:Nat}(h:fdF (curQ cu) 0 F=some n):∃ x,F[n]?=some x∧x.2.2.2.1=true∧curQ cu x=true∧x.1<=cu∧cu<fEnd x:=by
 obtain⟨j,x,h1,h2,h3,h4⟩:=fd_some h
 rw[Nat.zero_add] at h1
 subst h1
 have h5:=h4
 unfold curQ at h5
 rw[Bool.and_eq_true,decide_eq_true_eq,decide_eq_true_eq] at h5
 exact⟨x,h2,h3,h4,h5⟩
theorem mxI_max (a b:Int):mxI a b=max a b:=by unfold mxI;split<;>omega
theorem patch_good {s:St3}(h:Good3 s){i:Nat}{r:List UInt8}(hr:i+r.length<=1920)(ht:∀ x∈r,32<=x.toNat∧x.toNat<=126):(patch s.1 i r).length=1920∧txL (patch s.1 i r)=true:=by
 constructor
 ·rw[patch_len (by rw[h.n];exact hr)]
  exact h.n
 ·refine txL_mem.2 (patch_mem (txL_mem.1 h.t) fun x hx=>?_)
  have:=ht x hx
  unfold shc
  rw[decide_eq_true (show (32:Int)<=(x.toNat:Int) by omega),decide_eq_true (show (x.toNat:Int)<=126 by omega)]
  rfl
theorem keyS_good {b:UInt8}{s:St3}(h:Good3 s):Good3 (keyS b s).2:=by
 unfold keyS
 cases hk:okK (b.toNat:Int) with
 | false=>rw[if_pos rfl];exact h
 | true =>
  rw[if_neg (by decide)]
  cases ht:toA s.2.2 s.2.1 with
  | none=>exact h
  | some t =>
   have hto:=to_rng h.f ht
   cases hc:fdF (curQ s.2.2) 0 s.2.1 with
   | none =>
    simp only
    split
    ·exact⟨h.n,h.t,h.f,by show 0<=t;omega,hto.2⟩
    ·exact h
   | some n =>
    obtain⟨x,hx,hi,hq,hq1,hq2⟩:=cur_some hc
    have ok:=h.f.ok x (List.mem_of_getElem? hx)
    have h1:=ok.a
    have h3:=ok.e
    have h0:=h.c0
    have h01:=h.c1
    simp only[getD_of hx]
    unfold keyI
    split
    ·refine⟨h.n,h.t,h.f,?_,?_⟩
     ·show 0<=mxI (s.2.2 - 1) x.1
      rw[mxI_max];omega
     ·show mxI (s.2.2 - 1) x.1<=1919
      rw[mxI_max];omega
    ·split
     ·exact⟨h.n,h.t,h.f,by show 0<=t;omega,hto.2⟩
     ·rename_i n8 n9
      split
      ·have hp:=patch_good h (i:=s.2.2.toNat) (r:=List.replicate (fEnd x - s.2.2).toNat 32) (by rw[List.length_replicate];omega) (fun y hy=>by rw[(List.mem_replicate.1 hy).2];decide)
       exact⟨hp.1,hp.2,md_right h.f hx hi,by show 0<=t;omega,hto.2⟩
      ·rename_i n13
       split
       ·exact h
       ·have hb:32<=b.toNat∧b.toNat<=126:=by
         unfold okK at hk
         simp only[Bool.or_eq_true,Bool.and_eq_true,decide_eq_true_eq,beq_iff_eq] at hk
         omega
        have hp:=patch_good h (i:=s.2.2.toNat) (r:=[b]) (by simp;omega) (fun y hy=>by rw[List.mem_singleton.1 hy];exact hb)
        refine⟨hp.1,hp.2,md_right h.f hx hi,?_,?_⟩
        ·show 0<=stay s x t
         unfold stay
         split<;>omega
        ·show stay s x t<=1919
         unfold stay
         split<;>omega
set_option maxHeartbeats 2000000 in
theorem f1013q (st:ByteArray)(b:UInt8)(s:St3)(h:Good3 s) :
  f1013v0F 5000 ((b.toNat:Int),st,s.2.2,s.2.1,ints s.1,())=some ((keyS b s).1,st,(keyS b s).2.2.2,(keyS b s).2.2.1,ints (keyS b s).2.1,()):=by
 have hF:=h.f.len
 have h0:=h.c0
 have h01:=h.c1
 have hsh:(ints s.1).length=1920:=by rw[ints_len];exact h.n
 have rb:=byte_rng b
 unfold f1013v0F
 rw[f1064q st s.2.2 s.2.1 (ints s.1) h.f (by omega)]
 unfold keyS
 cases hc:fdF (curQ s.2.2) 0 s.2.1 with
 | some n =>
  obtain⟨x,hx,hi,hq,hq1,hq2⟩:=cur_some hc
  obtain⟨t,ht⟩:=to_some (cu:=s.2.2) hc
  have ok:=h.f.ok x (List.mem_of_getElem? hx)
  have a1:=ok.a
  have a2:=ok.l
  have a3:=ok.e
  simp only[altB,ht,getD_of hx]
  unfold f1013v0p1
  have hne:=to_ne ht
  have hlz:(((inp s.2.1).length:Int)==0)=false:=by
   cases hh:inp s.2.1 with
   | nil=>exact absurd hh hne
   | cons a l=>simp;omega
  have h65:=f1065q st s.2.2 s.2.1 (ints s.1) (by omega)
  by_cases c9:(b.toNat:Int)=9
  ·have q9:((b.toNat:Int)==9)=true:=by simpa using c9
   have q13:((b.toNat:Int)==13)=false:=by rw[c9];rfl
   have hok:okK (b.toNat:Int)=true:=by rw[c9];rfl
   simp only[q9,cond_true,h65,bind_some',hlz,cond_false]
   unfold f1013v0p0
   simp only[q13,cond_false,f1066q st s.2.2 s.2.1 (ints s.1) (by omega) ht,bind_some']
   rw[hok,if_neg (show ¬ (true=false) by decide)]
   unfold keyI
   rw[if_neg (by omega),if_pos c9]
  ·have q9:((b.toNat:Int)==9)=false:=by simpa using c9
   by_cases c13:(b.toNat:Int)=13
   ·have q13:((b.toNat:Int)==13)=true:=by simpa using c13
    have hok:okK (b.toNat:Int)=true:=by rw[c13];rfl
    simp only[q9,q13,cond_true,h65,bind_some',hlz,cond_false]
    unfold f1013v0p0
    have ek:f1017F 5000 (x.1,(x.2.1,(x.2.2.1,(x.2.2.2.1,(x.2.2.2.2.1,x.2.2.2.2.2)))))=some (fEnd x):=f1017q 5000 x ok
    obtain⟨m,hm⟩:∃ m:Nat,x.2.1=(m:Int):=⟨x.2.1.toNat,by omega⟩
    obtain⟨cu,hcu⟩:∃ cu:Nat,s.2.2=(cu:Int):=⟨s.2.2.toNat,by omega⟩
    obtain⟨e,he⟩:∃ e:Nat,fEnd x=(e:Int):=⟨(fEnd x).toNat,by omega⟩
    have hfe:(e:Int)=x.1+x.2.1:=he.symm
    have h73:f73F 5000 ((⟨#[32]⟩:ByteArray),x.2.1)=some (S (List.replicate m 32)):=by rw[hm];exact f73s (by omega)
    have hsb:sliceBds s.2.2 (fEnd x) (((ints s.1).length:Nat):Int)=true:=by rw[hcu,he];exact sliceB (by omega) (by omega)
    simp only[q13,cond_true,Int.toNat_natCast,getD_of hx,ek,bind_some',hsb,h73,S_cut,S_size,List.length_replicate,List.drop_zero]
    have emin:min m (fEnd x - s.2.2).toNat=(fEnd x - s.2.2).toNat:=by omega
    have etake:(List.replicate m (32:UInt8)).take (fEnd x - s.2.2).toNat=List.replicate (fEnd x - s.2.2).toNat 32:=by
     rw[List.take_replicate,Nat.min_comm,emin]
    rw[emin,etake,ints_wrt _ _ _ (by rw[List.length_replicate,h.n];omega)]
    have es:s.2.1.set n (x.1,x.2.1,x.2.2.1,x.2.2.2.1,x.2.2.2.2.1,true)=s.2.1.set n (md x):=rfl
    rw[es]
    rw[f1066q st s.2.2 (s.2.1.set n (md x)) _ (by simp;omega) (by rw[to_set hx];exact ht),bind_some']
    rw[hok,if_neg (show ¬ (true=false) by decide)]
    unfold keyI
    rw[if_neg (by omega),if_neg c9,if_pos c13]
   ·have q13:((b.toNat:Int)==13)=false:=by simpa using c13
    simp only[q9,q13,cond_false]
    by_cases c8:(b.toNat:Int)=8
    ·have q8:((b.toNat:Int) !=8)=false:=by rw[c8];rfl
     have hok:okK (b.toNat:Int)=true:=by rw[c8];rfl
     simp only[q8,cond_false,Int.toNat_natCast,getD_of hx]
     rw[wi (x:=s.2.2 - 1) (by omega) (by omega),hok,if_neg (show ¬ (true=false) by decide)]
     unfold keyI
     rw[if_pos c8]
    ·have q8:((b.toNat:Int) !=8)=true:=by simpa using c8
     simp only[q8,cond_true]
     by_cases l32:(b.toNat:Int)<32
     ·have hok:okK (b.toNat:Int)=false:=by unfold okK;simp;omega
      rw[bif_true (by simpa using l32),hok,if_pos rfl]
     ·rw[bif_false (by simpa using l32)]
      by_cases g126:(b.toNat:Int) > 126
      ·have hok:okK (b.toNat:Int)=false:=by unfold okK;simp;omega
       rw[bif_true (by simpa using g126),hok,if_pos rfl]
      ·rw[bif_false (by simpa using g126)]
       have hok:okK (b.toNat:Int)=true:=by unfold okK;simp;omega
       rw[f1067q st s.2.2 (b.toNat:Int) s.2.1 (ints s.1) n x t hx h.f (by omega) hi hq ht hsh,bind_some',hok,if_neg (show ¬ (true=false) by decide)]
       unfold keyI
       rw[if_neg c8,if_neg c9,if_neg c13]
       cases badC x (b.toNat:Int) with
       | true=>rfl
       | false =>
        rw[if_neg (show ¬ (false=true) by decide),if_neg (show ¬ (false=true) by decide),ints_set _ _ _ (by rw[h.n];omega)]
        rfl
 | none =>
  simp only[altB]
  unfold f1013v0p3
  have h65:=f1065q st s.2.2 s.2.1 (ints s.1) (by omega)
  have hz:(toA s.2.2 s.2.1=none∧(((inp s.2.1).length:Int)==0)=true)∨∃ t,toA s.2.2 s.2.1=some t∧(((inp s.2.1).length:Int)==0)=false:=by
   cases ht:toA s.2.2 s.2.1 with
   | none=>exact .inl ⟨rfl,by rw[to_none ht];rfl⟩
   | some t =>
    refine .inr ⟨t,rfl,?_⟩
    cases hh:inp s.2.1 with
    | nil=>exact absurd hh (to_ne ht)
    | cons a l=>simp;omega
  by_cases c9:(b.toNat:Int)=9
  ·have q9:((b.toNat:Int)==9)=true:=by simpa using c9
   have q13:((b.toNat:Int)==13)=false:=by rw[c9];rfl
   have hok:okK (b.toNat:Int)=true:=by rw[c9];rfl
   rw[hok,if_neg (show ¬ (true=false) by decide)]
   rcases hz with ⟨ht,hlz⟩ | ⟨t,ht,hlz⟩
   ·simp only[q9,cond_true,h65,bind_some',hlz,ht]
   ·simp only[q9,cond_true,h65,bind_some',hlz,cond_false,ht]
    unfold f1013v0p2
    simp only[q13,cond_false,f1066q st s.2.2 s.2.1 (ints s.1) (by omega) ht,bind_some']
    rw[if_pos (Or.inl c9)]
  ·have q9:((b.toNat:Int)==9)=false:=by simpa using c9
   by_cases c13:(b.toNat:Int)=13
   ·have q13:((b.toNat:Int)==13)=true:=by simpa using c13
    have hok:okK (b.toNat:Int)=true:=by rw[c13];rfl
    rw[hok,if_neg (show ¬ (true=false) by decide)]
    rcases hz with ⟨ht,hlz⟩ | ⟨t,ht,hlz⟩
    ·simp only[q9,q13,cond_true,h65,bind_some',hlz,ht,cond_false]
    ·simp only[q9,q13,cond_true,h65,bind_some',hlz,cond_false,ht]
     unfold f1013v0p2
     simp only[q13,cond_true,f1066q st s.2.2 s.2.1 (ints s.1) (by omega) ht,bind_some']
     rw[if_pos (Or.inr c13)]
   ·have q13:((b.toNat:Int)==13)=false:=by simpa using c13
    simp only[q9,q13,cond_false]
    by_cases c8:(b.toNat:Int)=8
    ·have q8:((b.toNat:Int) !=8)=false:=by rw[c8];rfl
     have hok:okK (b.toNat:Int)=true:=by rw[c8];rfl
     simp only[q8,cond_false]
     rw[hok,if_neg (show ¬ (true=false) by decide)]
     cases toA s.2.2 s.2.1 with
     | none=>rfl
     | some t =>
      simp only
      rw[if_neg (show ¬ ((b.toNat:Int)=9∨(b.toNat:Int)=13) by omega)]
    ·have q8:((b.toNat:Int) !=8)=true:=by simpa using c8
     simp only[q8,cond_true]
     by_cases l32:(b.toNat:Int)<32
     ·have hok:okK (b.toNat:Int)=false:=by unfold okK;simp;omega
      rw[bif_true (by simpa using l32),hok,if_pos rfl]
     ·rw[bif_false (by simpa using l32)]
      by_cases g126:(b.toNat:Int) > 126
      ·have hok:okK (b.toNat:Int)=false:=by unfold okK;simp;omega
       rw[bif_true (by simpa using g126),hok,if_pos rfl]
      ·rw[bif_false (by simpa using g126)]
       have hok:okK (b.toNat:Int)=true:=by unfold okK;simp;omega
       rw[hok,if_neg (show ¬ (true=false) by decide)]
       cases toA s.2.2 s.2.1 with
       | none=>rfl
       | some t =>
        simp only
        rw[if_neg (show ¬ ((b.toNat:Int)=9∨(b.toNat:Int)=13) by omega)]
def tyS:Nat->List UInt8->St3->Scr×Int×Int
 | a,[],s=>((S s.1,s.2.1,s.2.2),(a:Int),0)
 | a,b::l,s=>if (keyS b s).1≠0 then (Bad,(a:Int),(keyS b s).1) else tyS (a+1) l (keyS b s).2
def typed (s:Scr)(l:List UInt8):Scr×Int×Int :=
 if (chkScr s).2≠0 then (Bad,0,(chkScr s).2)
 else if 4000<l.length then (Bad,0,2)
 else tyS 0 l (s.1.data.toList,s.2.1,s.2.2)
theorem RightS.good3 {s:Scr}(h:RightS s):Good3 (s.1.data.toList,s.2.1,s.2.2):=⟨h.n,h.t,h.f,h.c0,h.c1⟩
theorem f1012q (F:List SF)(h:F.length<=2000):f1012F 5000 F=some F:=by
 unfold f1012F cloneF
 rw[bif_true (by simp;omega)]
theorem f944l0q (l:List UInt8)(hl:l.length<=4000)(st:ByteArray)(s:St3)(hs:Good3 s) :
  iterS (fun rec v=>f944l0s 5000 rec (fun (w6:D108)=>some ((w6.2.2.2.1,([],w6.2.2.2.2.1)),w6.2.1,w6.2.2.1))
   (fun (w7:D109)=>some (((strOfNums w7.2.2.2.2.2.2.1),(w7.2.2.2.2.2.1,w7.2.2.2.2.1)),(w7.1.size:Int),(0:Int))) v) 5000
   (S l,(l.length:Int),(0:Int),ByteArray.empty,(0:Int),st,s.2.2,s.2.1,ints s.1,())=some (tyS 0 l s):=by
 refine iter_list (k:=5000) (R:=D95) (A:=Nat×St3) l (fun i a=>(S l,(l.length:Int),(i:Int),ByteArray.empty,(0:Int),st,a.2.2.2,a.2.2.1,ints a.2.1,())) (fun m a=>some (tyS a.1 m a.2)) (fun i a=>a.1=i∧Good3 a.2) ?_ ?_ (by omega) (0,s) ⟨rfl,hs⟩
 ·intro rec a ⟨h1,h2⟩
  obtain⟨n,s⟩:=a
  simp only at h1 h2
  subst h1
  unfold f944l0s
  rw[bif_false (by simp)]
  simp only[S_back,S_size]
  rfl
 ·intro rec i a b hb hi ⟨h1,h2⟩
  obtain⟨n,s⟩:=a
  simp only at h1 h2
  subst h1
  have e1:bt (S l) (n:Int)=(b.toNat:Int):=by rw[S_bt l n hi,getD_of hb]
  have es:tyS n (b::l.drop (n+1)) s=if (keyS b s).1≠0 then (Bad,(n:Int),(keyS b s).1) else tyS (n+1) (l.drop (n+1)) (keyS b s).2:=rfl
  by_cases he:(keyS b s).1=0
  ·refine .inl ⟨(n+1,(keyS b s).2),⟨rfl,keyS_good h2⟩,?_,?_⟩
   ·unfold f944l0s
    rw[bif_true (ltn hi)]
    simp only[S_size,inb hi,cond_true,e1,f1013q st b s h2,bind_some',wi_succ (i:=n) (by omega)]
    rw[bif_false (by simpa using he)]
   ·show some (tyS n (b::l.drop (n+1)) s)=_
    rw[es,if_neg (by simpa using he)]
  ·refine .inr ?_
   show _=some (tyS n (b::l.drop (n+1)) s)
   rw[es,if_pos he]
   unfold f944l0s
   rw[bif_true (ltn hi)]
   simp only[S_size,inb hi,cond_true,e1,f1013q st b s h2,bind_some']
   rw[bif_true (bne0 he)]
theorem f944q (s:Scr)(l:List UInt8)(hc:s.1.size<=2000)(hF:s.2.1.length<=200):f944F 5000 (s,S l)=some (typed s l):=by
 unfold f944F typed
 have es:(s.1,s.2.1,s.2.2)=s:=rfl
 simp only[es,f1005q s hc hF,f968q,S_size,first2,bind_some']
 by_cases h1:(chkScr s).2=0
 ·rw[if_neg (by simpa using h1)]
  by_cases h2:4000<l.length
  ·rw[if_pos h2,h1,bif_true (show decide ((l.length:Int) > 4000)=true by simp;omega)]
   rfl
  ·rw[if_neg h2,h1,bif_false (show decide ((l.length:Int) > 4000)=false by simp;omega)]
   have:=f944l0q l (by omega) s.1 (s.1.data.toList,s.2.1,s.2.2) (chkScr_right.1 h1).good3
   rw[bif_false (show (fst0 [0,0] !=0)=false from rfl),bif_true (show decide (s.1.size<=9223372036854775807)=true by simp;omega),f1012q _ (by omega),bind_some']
   unfold f944l0
   rw[← S_bytes,S_of] at this
   exact this
 ·rw[if_pos h1]
  have:fst0 [(chkScr s).2,bif decide ((l.length:Int) > 4000) then 2 else 0]=(chkScr s).2:=by
   unfold fst0
   rw[if_pos h1]
  rw[this,bif_true (bne0 h1)]
def optN (o:Option Nat):Int:=match o with
 | some n=>(n:Int)
 | none=>-1
def optI (o:Option Int):Int:=match o with
 | some n=>n
 | none=>-1
theorem f1068q (c:ByteArray)(F:List SF)(cu:Int)(hR:RightF F)(hF:F.length<=2000):f1068F 5000 (c,F,cu)=some (optN (fdF (curQ cu) 0 F)):=by
 unfold f1068F f1068l1
 refine iter_list (k:=5000) (R:=Int) (A:=Nat) F (fun i _=>((i:Int),c,F,cu,())) (fun m a=>some (optN (fdF (curQ cu) a m))) (fun i a=>a=i) ?_ ?_ (by omega) 0 rfl
 ·intro rec a _
  unfold f1068l1s
  rw[bif_false (by simp)]
  rfl
 ·intro rec i a x hx hi ha
  subst ha
  have ok:=hR.ok x (List.mem_of_getElem? hx)
  have h1:=ok.a
  have h2:=ok.l
  have h3:=ok.e
  unfold fEnd at h3
  have eg:fdF (curQ cu) a (x::F.drop (a+1))=bif x.2.2.2.1&&curQ cu x then some a else fdF (curQ cu) (a+1) (F.drop (a+1)):=rfl
  have ew:(decide (x.1<=cu)&&decide (cu<=x.1+x.2.1 - 1))=curQ cu x:=by
   unfold curQ fEnd
   congr 1
   simp
   omega
  have step:∀ K0 K1,f1068l1s 5000 rec K0 K1 ((a:Int),c,F,cu,())=bif x.2.2.2.1&&curQ cu x then K0 ((a:Int),()) else rec (((a+1:Nat):Int),c,F,cu,()):=by
   intro K0 K1
   unfold f1068l1s
   rw[bif_true (ltn hi)]
   unfold f1068p0
   simp only[inb hi,cond_true,Int.toNat_natCast,getD_of hx,f48w,bind_some',wi_succ (i:=a) (by omega)]
   rw[wi (x:=x.1+x.2.1) (by omega) (by omega),wi (by omega) (by omega),ew]
   cases x.2.2.2.1 with
   | false=>rfl
   | true=>cases curQ cu x<;>rfl
  rw[step]
  simp only[eg]
  cases (x.2.2.2.1&&curQ cu x) with
  | true=>exact .inr rfl
  | false=>exact .inl ⟨_,rfl,rfl,rfl⟩
theorem f1069q (c:ByteArray)(F:List SF)(cu:Int)(hR:RightF F)(hF:F.length<=2000):f1069F 5000 (c,F,cu)=some (optI (toA cu F)):=by
 unfold f1069F f1069l2
 refine iter_list (k:=5000) (R:=Int) (A:=Int) F (fun i a=>(a,(i:Int),c,F,cu,())) (fun m a=>some (match nxA cu m with
  | some b=>b
  | none=>if a=-1 then optI (fsA m) else a)) (fun i a=>True) ?_ ?_ (by omega) (-1) trivial |>.trans ?_
 ·intro rec a _
  unfold f1069l2s
  rw[bif_false (by simp)]
  simp only[nxA,fsA,optI]
  split
  ·rename_i h;rw[h]
  ·rfl
 ·intro rec i a x hx hi _
  have ok:=hR.ok x (List.mem_of_getElem? hx)
  have h1:=ok.a
  have step:∀ K0 K1,f1069l2s 5000 rec K0 K1 (a,(i:Int),c,F,cu,())=bif x.2.2.2.1&&decide (x.1 > cu) then K0 (x.1,a,()) else rec ((if x.2.2.2.1=true∧a=-1 then x.1 else a),((i+1:Nat):Int),c,F,cu,()):=by
   intro K0 K1
   unfold f1069l2s
   rw[bif_true (ltn hi)]
   unfold f1069p1 f1069p0
   simp only[inb hi,cond_true,Int.toNat_natCast,getD_of hx,wi_succ (i:=i) (by omega)]
   cases hin:x.2.2.2.1 with
   | false=>simp
   | true =>
    simp only[cond_true,Bool.true_and]
    cases hd:decide (x.1 > cu) with
    | true=>rfl
    | false =>
     simp only[cond_false]
     by_cases ha:a=-1
     ·rw[bif_true (by simpa using ha),if_pos ⟨trivial,ha⟩]
     ·rw[bif_false (by simpa using ha),if_neg (fun h=>ha h.2)]
  have e1:nxA cu (x::F.drop (i+1))=bif x.2.2.2.1&&decide (x.1 > cu) then some x.1 else nxA cu (F.drop (i+1)):=rfl
  have e2:fsA (x::F.drop (i+1))=bif x.2.2.2.1 then some x.1 else fsA (F.drop (i+1)):=rfl
  rw[step]
  simp only[e1,e2]
  cases hq:(x.2.2.2.1&&decide (x.1 > cu)) with
  | true=>exact .inr rfl
  | false =>
   refine .inl ⟨if x.2.2.2.1=true∧a=-1 then x.1 else a,trivial,rfl,?_⟩
   simp only[cond_false]
   cases nxA cu (F.drop (i+1)) with
   | some b=>rfl
   | none =>
    simp only
    cases hin:x.2.2.2.1 with
    | false =>
     simp only[cond_false]
     rw[if_neg (show ¬ (false=true∧a=-1) from fun h=>by cases h.1)]
    | true =>
     simp only[cond_true]
     by_cases ha:a=-1
     ·rw[if_pos ha,if_pos (show True∧a=-1 from ⟨trivial,ha⟩),if_neg (show ¬ x.1=-1 by omega)]
      rfl
     ·rw[if_neg ha,if_neg (show ¬ (True∧a=-1) from fun h=>ha h.2),if_neg ha]
 ·unfold toA
  cases nxA cu F with
  | some b=>rfl
  | none=>rw[if_pos rfl]
theorem bne0' {a b:Int}(h:¬ a=b):(a !=b)=true:=by simpa using h
theorem f941v0q (k:Nat)(c:ByteArray)(F:List SF)(cu:Int)(hF:F.length<=2000):f941v0F k (c,F,cu,())=some (c,cu,F,()):=by
 unfold f941v0F
 rw[bif_true (by simp;omega)]
 rfl
theorem f1014p0q {R:Type}(k0:D206->Option R)(k1:D199->Option R)(b:UInt8)(c:ByteArray)(F:List SF)(cu:Int) :
  f1014p0 5000 k0 k1 ((b.toNat:Int),c,F,cu,ByteArray.empty,(0:Int),())=if okK (b.toNat:Int)=false then k0 ((b.toNat:Int),(4:Int),c,F,cu,c,F,cu,()) else k1 ((b.toNat:Int),c,F,cu,ByteArray.empty,(0:Int),()):=by
 unfold f1014p0 okK
 simp only[wi_byte,f48w,bind_some']
 cases (decide ((32:Int)<=(b.toNat:Int))&&decide ((b.toNat:Int)<=126)) with
 | true=>rfl
 | false =>
  simp only[Bool.not_false,cond_true,Bool.false_or]
  by_cases c8:(b.toNat:Int)=8
  ·rw[c8];rfl
  ·by_cases c9:(b.toNat:Int)=9
   ·rw[c9];rfl
   ·by_cases c13:(b.toNat:Int)=13
    ·rw[c13];rfl
    ·rw[bif_true (bne0' c8),bif_true (bne0' c9),bif_true (bne0' c13),if_pos]
     simp[c8,c9,c13]
set_option maxHeartbeats 2000000 in
theorem f1014q (b:UInt8)(s:St3)(h:Good3 s):f1014F 5000 ((S s.1,s.2.1,s.2.2),(b.toNat:Int))=some ((S (keyS b s).2.1,(keyS b s).2.2.1,(keyS b s).2.2.2),(keyS b s).1):=by
 have hF:=h.f.len
 have h0:=h.c0
 have h01:=h.c1
 have rb:=byte_rng b
 unfold f1014F
 simp only
 rw[f1014p0q]
 unfold keyS
 cases hok:okK (b.toNat:Int) with
 | false=>rfl
 | true =>
  rw[if_neg (show ¬ (true=false) by decide),if_neg (show ¬ (true=false) by decide)]
  simp only[f941v0q 5000 (S s.1) s.2.1 s.2.2 (by omega),f1068q (S s.1) s.2.1 s.2.2 h.f (by omega),f1069q (S s.1) s.2.1 s.2.2 h.f (by omega),bind_some']
  unfold f1014p1
  cases ht:toA s.2.2 s.2.1 with
  | none=>rfl
  | some t =>
   have hto:=to_rng h.f ht
   have et:optI (some t)=t:=rfl
   simp only[et]
   rw[bif_false (by simp;omega)]
   cases hc:fdF (curQ s.2.2) 0 s.2.1 with
   | none =>
    have en:optN none=-1:=rfl
    simp only[en]
    rw[bif_true (show ((-1:Int)==-1)=true from rfl)]
    by_cases c9:(b.toNat:Int)=9
    ·rw[c9];rfl
    ·by_cases c13:(b.toNat:Int)=13
     ·rw[c13];rfl
     ·rw[bif_true (bne0' c9),bif_true (bne0' c13),if_neg (show ¬ ((b.toNat:Int)=9∨(b.toNat:Int)=13) by omega)]
   | some n =>
    obtain⟨x,hx,hi,hq,hq1,hq2⟩:=cur_some hc
    have ok:=h.f.ok x (List.mem_of_getElem? hx)
    have a1:=ok.a
    have a2:=ok.l
    have a3:=ok.e
    have hfe:fEnd x=x.1+x.2.1:=rfl
    have hn:n<s.2.1.length:=(List.getElem?_eq_some_iff.1 hx).1
    have en:optN (some n)=(n:Int):=rfl
    have nm1:((n:Int)==-1)=false:=by simp<;>omega
    simp only[en,nm1,cond_false,inb hn,cond_true,Int.toNat_natCast,getD_of hx]
    rw[wi (x:=x.1+x.2.1) (by omega) (by omega),← hfe]
    unfold f1014p3
    unfold keyI
    by_cases c8:(b.toNat:Int)=8
    ·rw[if_pos c8,bif_true (by simpa using c8)]
     simp only[Int.toNat_natCast,getD_of hx]
     rw[wi (x:=s.2.2 - 1) (by omega) (by omega)]
    ·rw[if_neg c8,bif_false (by simpa using c8)]
     by_cases c9:(b.toNat:Int)=9
     ·rw[if_pos c9,bif_true (by simpa using c9)]
     ·rw[if_neg c9,bif_false (by simpa using c9)]
      by_cases c13:(b.toNat:Int)=13
      ·rw[if_pos c13,bif_true (by simpa using c13)]
       simp only[Int.toNat_natCast,getD_of hx]
       rw[wi (x:=fEnd x - s.2.2) (by omega) (by omega)]
       obtain⟨m,hm⟩:∃ m:Nat,fEnd x - s.2.2=(m:Int):=⟨(fEnd x - s.2.2).toNat,by omega⟩
       obtain⟨cu,hcu⟩:∃ cu:Nat,s.2.2=(cu:Int):=⟨s.2.2.toNat,by omega⟩
       have h72:f72F 5000 ((32:Int),fEnd x - s.2.2)=some (S (List.replicate m 32)):=by rw[hm];exact f72q (c:=32) (n:=m) (by omega)
       have h28:f1028F 5000 (S s.1,s.2.2,S (List.replicate m 32))=some (S (patch s.1 cu (List.replicate m 32))):=by
        rw[hcu]
        exact f1028q 5000 s.1 _ cu (by rw[List.length_replicate,h.n];omega) (by rw[h.n];decide)
       simp only[h72,h28,bind_some']
       rw[show s.2.2.toNat=cu by omega,show (fEnd x - s.2.2).toNat=m by omega]
       rfl
      ·rw[if_neg c13,bif_false (by simpa using c13)]
       obtain⟨cu,hcu⟩:∃ cu:Nat,s.2.2=(cu:Int):=⟨s.2.2.toNat,by omega⟩
       have e1:strOfNums [(b.toNat:Int)]=S [b]:=by rw[S_nums];simp
       have h28:f1028F 5000 (S s.1,s.2.2,S [b])=some (S (patch s.1 cu [b])):=by
        rw[hcu]
        exact f1028q 5000 s.1 _ cu (by simp[h.n];omega) (by rw[h.n];decide)
       have tail:(Option.bind (f1028F 5000 (S s.1,s.2.2,strOfNums [(b.toNat:Int)])) fun y19 =>
         bif decide (IntKind.i64.wrap (s.2.2+1)<fEnd x) then
          some ((y19,(s.2.1.set n (md x),IntKind.i64.wrap (s.2.2+1))),(0:Int))
         else some ((y19,(s.2.1.set n (md x),t)),(0:Int)))=some ((S (patch s.1 s.2.2.toNat [b]),s.2.1.set n (md x),stay s x t),(0:Int)):=by
        rw[e1,h28,bind_some',wi (x:=s.2.2+1) (by omega) (by omega),show s.2.2.toNat=cu by omega]
        unfold stay
        by_cases hl:s.2.2+1<fEnd x
        ·rw[bif_true (by simpa using hl),if_pos hl]
        ·rw[bif_false (by simpa using hl),if_neg hl]
       unfold f1014p2 badC
       have emd:s.2.1.set n (x.1,x.2.1,x.2.2.1,x.2.2.2.1,x.2.2.2.2.1,true)=s.2.1.set n (md x):=rfl
       simp only[Int.toNat_natCast,getD_of hx,f225w,bind_some',emd]
       cases x.2.2.2.2.1 with
       | false=>exact tail
       | true =>
        simp only[cond_true,Bool.true_and]
        cases dgc (b.toNat:Int) with
        | true=>exact tail
        | false =>
         simp only[Bool.not_false,cond_true,Bool.true_and]
         cases (b.toNat:Int) !=32 with
         | false=>exact tail
         | true=>cases (b.toNat:Int) !=45 with
          | false=>exact tail
          | true=>cases (b.toNat:Int) !=46 with
           | false=>exact tail
           | true=>rfl
theorem f945l0q (l:List UInt8)(hl:l.length<=4000)(s:St3)(hs:Good3 s) :
  iterS (fun rec v=>f945l0s 5000 rec (fun (w3:D202)=>some ((w3.2.2.2.2.2.2.1,([],w3.2.2.2.2.2.2.2.1)),w3.2.1,w3.2.2.1))
   (fun (w4:D213)=>some ((w4.2.1,(w4.2.2.1,w4.2.2.2.1)),(w4.1.size:Int),(0:Int))) v) 5000
   (S l,(0:Int),S s.1,s.2.1,s.2.2,ByteArray.empty,(0:Int),())=some (tyS 0 l s):=by
 refine iter_list (k:=5000) (R:=D95) (A:=Nat×St3) l (fun i a=>(S l,(i:Int),S a.2.1,a.2.2.1,a.2.2.2,ByteArray.empty,(0:Int),())) (fun m a=>some (tyS a.1 m a.2)) (fun i a=>a.1=i∧Good3 a.2) ?_ ?_ (by omega) (0,s) ⟨rfl,hs⟩
 ·intro rec a ⟨h1,h2⟩
  obtain⟨n,s⟩:=a
  simp only at h1 h2
  subst h1
  unfold f945l0s
  simp only[S_size]
  rw[bif_false (by simp)]
  rfl
 ·intro rec i a b hb hi ⟨h1,h2⟩
  obtain⟨n,s⟩:=a
  simp only at h1 h2
  subst h1
  have e1:bt (S l) (n:Int)=(b.toNat:Int):=by rw[S_bt l n hi,getD_of hb]
  have es:tyS n (b::l.drop (n+1)) s=if (keyS b s).1≠0 then (Bad,(n:Int),(keyS b s).1) else tyS (n+1) (l.drop (n+1)) (keyS b s).2:=rfl
  by_cases he:(keyS b s).1=0
  ·refine .inl ⟨(n+1,(keyS b s).2),⟨rfl,keyS_good h2⟩,?_,?_⟩
   ·unfold f945l0s
    simp only[S_size]
    rw[bif_true (ltn hi)]
    simp only[inb hi,cond_true,e1,f1014q b s h2,bind_some',wi_succ (i:=n) (by omega)]
    rw[bif_false (by simpa using he)]
   ·show some (tyS n (b::l.drop (n+1)) s)=_
    rw[es,if_neg (by simpa using he)]
  ·refine .inr ?_
   show _=some (tyS n (b::l.drop (n+1)) s)
   rw[es,if_pos he]
   unfold f945l0s
   simp only[S_size]
   rw[bif_true (ltn hi)]
   simp only[inb hi,cond_true,e1,f1014q b s h2,bind_some']
   rw[bif_true (bne0 he)]
theorem f945q (s:Scr)(l:List UInt8)(hc:s.1.size<=2000)(hF:s.2.1.length<=200):f945F 5000 (s,S l)=some (typed s l):=by
 unfold f945F typed
 have es:(s.1,s.2.1,s.2.2)=s:=rfl
 simp only[es,f1007q s hc hF,S_size,bind_some']
 by_cases h1:(chkScr s).2=0
 ·rw[if_neg (by simpa using h1),bif_false (by simpa using h1)]
  by_cases h2:4000<l.length
  ·rw[if_pos h2,bif_true (show decide ((l.length:Int) > 4000)=true by simp;omega)]
  ·rw[if_neg h2,bif_false (show decide ((l.length:Int) > 4000)=false by simp;omega)]
   have:=f945l0q l (by omega) (s.1.data.toList,s.2.1,s.2.2) (chkScr_right.1 h1).good3
   unfold f945l0
   exact this
 ·rw[if_pos h1,bif_true (bne0 h1)]
end Go.Proofs.YteadgfclfopccaaGreatDoor
