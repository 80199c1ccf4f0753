/- Joined texts. -/
import Derived.Test.YteadgfclfopccaaGreatDoorAC
import Derived.Lib.Overlaps
import Derived.Test.YteadgfclfopccaaGreatDoorProg
import Derived.Shelf.RegionOpenPlain
import Derived.WalkKit
import Derived.Lib.Walk
import Derived.Lib.SliceRun
import Derived.Lib.JoinLaws
import Derived.Laws.Externs
set_option linter.unusedVariables false
set_option linter.unusedSimpArgs false
namespace Go.Ab
open Go.Lib
theorem run_copy_blk {P:Program}{w:World}{dT sT elem:TypeId}{i:TypeInfo}(hu:P.underlying dT=some (.slice elem))(hi:P.info? elem=some i){b o dLen sLen:Nat}{a:Addr}{cs:List Value}{cur:Array Value}{t:TypeId}
  (hn:cs.length=min sLen dLen*i.size) (hsrc:∀ j v,cs[j]?=some v->w.cell? (a.add j)=some v) (hb:w.heap[b]?=some (.cells cur t (0,0))) (hl:o+cs.length<=cur.size) (h1:∀ v∈cs,v.oneCell'=true) :
  ∃ w' cur',(∀ ty dCap sCap,(Builtin.copy_ #[dT,sT] ty #[.slice (some ⟨b,o,none⟩) dLen dCap,.slice (some a) sLen sCap]).run P w=.ok (goInt ((min sLen dLen:Nat):Int)) w')∧Turned w w' b∧w'.heap[b]?=some (.cells cur' t (0,0))∧cur'.toList=spl cur.toList o cs:=by
 obtain⟨w',cur',hst,ht,hb',hc⟩:=run_storeCells_blk (P:=P) b o t (0,0) cs 0 cur w hb (.inl rfl) (by omega) h1
 refine⟨w',cur',fun ty dCap sCap=>?_,ht,hb',hc⟩
 have hlo:=run_loadCells_list (P:=P) w a cs hsrc
 rw[hn] at hlo
 have hm:Nat.min sLen dLen=min sLen dLen:=rfl
 simp[Builtin.copy_,run_underlying hu,Builtin.lenOf,Builtin.firstCells,sizeOf,typeInfo,hi,hm,hlo,hst]
structure InsW (P:Program)(f fo T T3:Nat)(sz:Nat):Prop where
 last:∀ (base:Option Addr) (n c m vc:Nat) (va:Addr) (w w1:World) (u:Value),0<m->n<=c->c<=maxLen->(base=none->n=0∧c=0)->(∀ ty,(Builtin.append_ #[T,T] ty #[.slice base n c,.slice (some va) m vc]).run P w=.ok u w1) ->
  Calls P f #[.slice base n c,.int .i64 (n:Int),.slice (some va) m vc] w fun e w'=>e=.returned u∧w'=w1
 grow:∀ (b N i n c m vc G:Nat) (va:Addr) (w W1 W2 W3:World),i<n->0<m->n<=c->c<n+m->n+m<=G->G<=maxLen ->
  (∀ ty,(Builtin.append_ #[T,T3] ty #[.slice (some ⟨b,0,none⟩) i c,.int .i64 ((n:Int)+(m:Int) - (i:Int))]).run P w=.ok (.slice (some ⟨N,0,none⟩) (n+m) G) W1) ->
  (∀ ty dc sc,(Builtin.copy_ #[T,T] ty #[.slice (some ⟨N,i*sz,none⟩) (n+m - i) dc,.slice (some va) m sc]).run P W1=.ok (goInt (m:Int)) W2) ->
  (∀ ty dc sc,(Builtin.copy_ #[T,T] ty #[.slice (some ⟨N,(i+m)*sz,none⟩) (n+m - (i+m)) dc,.slice (some ⟨b,i*sz,none⟩) (n - i) sc]).run P W2.drew=.ok (goInt ((n - i:Nat):Int)) W3) ->
  Calls P f #[.slice (some ⟨b,0,none⟩) n c,.int .i64 (i:Int),.slice (some va) m vc] w fun e w'=>e=.returned (.slice (some ⟨N,0,none⟩) (n+m) G)∧w'=W3
 shift:∀ (b i n c m vc:Nat) (va:Addr) (w W2 W3:World),i<n->0<m->n+m<=c->c<=maxLen ->
  (∀ lb cb,(callFunc fo #[.slice (some va) m vc,.slice (some ⟨b,(i+m)*sz,none⟩) lb cb]).run P w=.ok (.value (.bool false)) w) ->
  (∀ ty dc sc,(Builtin.copy_ #[T,T] ty #[.slice (some ⟨b,(i+m)*sz,none⟩) (n+m - (i+m)) dc,.slice (some ⟨b,i*sz,none⟩) (n+m - i) sc]).run P w.drew=.ok (goInt ((n - i:Nat):Int)) W2) ->
  (∀ ty dc sc,(Builtin.copy_ #[T,T] ty #[.slice (some ⟨b,i*sz,none⟩) (n+m - i) dc,.slice (some va) m sc]).run P W2=.ok (goInt (m:Int)) W3) ->
  Calls P f #[.slice (some ⟨b,0,none⟩) n c,.int .i64 (i:Int),.slice (some va) m vc] w fun e w'=>e=.returned (.slice (some ⟨b,0,none⟩) (n+m) c)∧w'=W3
structure InsT (P:Program)(T T3 E:Nat)(e:Ty)(i:TypeInfo)(z:Value):Prop where
 t:P.underlying T=some (.slice E)
 t3:P.underlying T3=some (.int .i64)
 inf:P.info? E=some i
 zero:i.zero=some z
 sz:i.size=e.size
 zs:z.cells.size=e.size
 bp:0<i.bytes
 z1:∀ (n:Nat),∀ v∈(Builtin.zeroCells z.cells n).toList,v.oneCell'=true
theorem spl_shift {α:Type}{A fl news:List α}{p q r:Nat}(hA:A.take r=fl)(hf:fl.length=r)(hp:p<=r)(hq:news.length=q)(hl:r+q<=A.length) :
  (spl (spl A (p+q) (fl.drop p)) p news).take (r+q)=fl.take p++news++fl.drop p:=by
 subst hA hq
 apply List.ext_getElem?
 intro j
 simp only[spl,List.getElem?_take,List.getElem?_append,List.getElem?_drop,List.length_append,List.length_take,List.length_drop]
 repeat' split
 all_goals first
  | rfl
  | omega
  | (congr 1;omega)
  | (exfalso;simp only[Nat.min_def] at *;split at *<;>omega)
  | skip
theorem spl_grow {α:Type}{B fl news:List α}{p q r:Nat}(hB:B.take p=fl.take p)(hf:fl.length=r)(hp:p<=r)(hq:news.length=q)(hl:r+q<=B.length) :
  (spl (spl B p news) (p+q) (fl.drop p)).take (r+q)=fl.take p++news++fl.drop p:=by
 subst hf hq
 have h1:(spl B p news).take (p+news.length)=fl.take p++news:=by
  unfold spl
  rw[← hB,List.take_left' (by simp;omega)]
 unfold spl at h1 ⊢
 rw[h1,List.take_left' (by simp;omega)]
def rowOf (E:Nat)(e:Ty):Blk->Option (List e.den)
 | .row E' e' .plain xs=>if h:e'=e then bif Nat.beq E' E then some (h ▸ xs) else none else none
 | _=>none
theorem rowOf_eq {E:Nat}{e:Ty}{x:Blk}{xs:List e.den}(h:rowOf E e x=some xs):x=.row E e .plain xs:=by
 unfold rowOf at h
 split at h
 ·rename_i E' e' ys
  split at h
  ·rename_i he
   subst he
   obtain⟨h1,h2⟩:=bif_some (x:=some ys) h
   simp only[Nat.beq_eq] at h1
   injection h2 with h2
   rw[h1,h2]
  ·cases h
 ·cases h
def insertE (E:Nat)(e:Ty)(bytes:Nat)(args:List AV)(S:Store):Res:=match args with
 | [.v (.one (.own t)),.v (.one (.int .i64 i)),.v (.one (.own u))] =>
  bif Nat.beq t u then .fail else
  match (look S t).bind (rowOf E e) with
  | some xs=>(match (look S u).bind (rowOf E e) with
   | some ys=>.chk (decide (0<=i)&&(decide (i<=(xs.length:Int))&&(decide (0<ys.length)&&decide ((xs.length+ys.length)*bytes<=140737488355328)))) (one (.own S.length)) (keep (fun j=>!Nat.beq j t) S++[(S.length,.row E e .plain (xs.take i.toNat++ys++xs.drop i.toNat))])
   | none=>.fail)
  | none=>.fail
 | _=>.fail
theorem cells_at {w:World}{b E:Nat}{cur:Array Value}{fz:Nat×Nat}{fl:List Value}{n:Nat}(h:w.heap[b]?=some (.cells cur E fz))(hf:cur.toList.take n=fl)(o:Nat):∀ j v,(fl.drop o)[j]?=some v->w.cell? ((⟨b,o,none⟩:Addr).add j)=some v:=by
 intro j v hv
 rw[← hf,List.getElem?_drop,List.getElem?_take] at hv
 rw[addr_add,cell_of_heap h]
 split at hv
 ·simpa using hv
 ·cases hv
section
variable {P:Program} {f fo T T3 E:Nat} {e:Ty} {i:TypeInfo} {z:Value}
theorem insert_ok0 (W:InsW P f fo T T3 e.size)(Y:InsT P T T3 E e i z)
  (hov:∀ (w:World) (vb b o la ca lb cb:Nat) (c1 c2:Array Value),vb≠b->w.heap[vb]?=some (.cells c1 E (0,0))->w.heap[b]?=some (.cells c2 E (0,0))->c2.size≠0->(callFunc fo #[.slice (some ⟨vb,0,none⟩) la ca,.slice (some ⟨b,o,none⟩) lb cb]).run P w=.ok (.value (.bool false)) w) :
  ∀ args S,ResSem (fun v S'=>FnSem P f args S S.length v S') (insertE E e i.bytes args S):=by
 intro args S
 unfold insertE
 split
 ·rename_i t ix u
  cases htu:Nat.beq t u with
  | true=>trivial
  | false =>
   have htu:t≠u:=by rintro rfl;rw[beq_yes] at htu;cases htu
   simp only[cond_false]
   split
   ·rename_i xs hxs
    obtain⟨x,hx,hx2⟩:=Option.bind_eq_some_iff.1 hxs
    have:=rowOf_eq hx2
    subst this
    split
    ·rename_i ys hys
     obtain⟨y,hy,hy2⟩:=Option.bind_eq_some_iff.1 hys
     have:=rowOf_eq hy2
     subst this
     intro hc
     simp only[Bool.and_eq_true,decide_eq_true_eq] at hc
     obtain⟨i0,i1,m0,hbig⟩:=hc
     intro γ F w vals hI hlt hal hA _
     match vals,hA with
     | [v1,v2,v3],⟨hv1,hv2,hv3,_⟩ =>
      have hv1:v1=(γ t).val:=hv1
      have hv2:v2=.int .i64 ix:=hv2
      have hv3:v3=(γ u).val:=hv3
      subst hv2
      have hrt:RowOk F (γ t) w E e .plain xs:=hI.blk t _ hx
      have hru:RowOk F (γ u) w E e .plain ys:=hI.blk u _ hy
      have htl:=(hlt t _ hx).1
      obtain⟨a1,a2,⟨_,a3,_⟩ | ⟨vb,cu,fz,fu,a3,a4,a5,a6,a7,a8,a9,a10,a11⟩⟩:=hru
      ·rw[a3] at m0;simp at m0
      subst a11
      have hv3:v3=.slice (some ⟨vb,0,none⟩) ys.length (γ u).cap:=by rw[hv3,← a1];simp[G.val,a3]
      subst hv3
      have ful:fu.length=ys.length*e.size:=a9.length
      have hcv:∀ j v,fu[j]?=some v->w.cell? ((⟨vb,0,none⟩:Addr).add j)=some v:=fun j v hj=>cells_at a4 a8 0 j v (by simpa using hj)
      have hsrc:Src P i.size T (.slice (some ⟨vb,0,none⟩) ys.length (γ u).cap) ys.length fu w:=Src.ofSlice w Y.t ⟨vb,0,none⟩ ys.length (γ u).cap fu (by rw[ful,Y.sz]) hcv (Flat.ones a9)
      have hb2:xs.length+ys.length<=140737488355328:=Nat.le_trans (Nat.le_mul_of_pos_right _ Y.bp) hbig
      have h63:xs.length+ys.length<=9223372036854775807:=by omega
      obtain⟨k,rfl⟩:∃ k:Nat,ix=(k:Int):=⟨ix.toNat,by omega⟩
      have hk:k<=xs.length:=by omega
      have hkt:(k:Int).toNat=k:=rfl
      rw[hkt]
      by_cases hkn:k=xs.length
      ·-- behind the last element
       subst hkn
       rw[List.take_length,List.drop_length,List.append_nil]
       obtain⟨v',w',γ',hrun,hp,hr⟩:=run_append_abs (fr:=S.length) (tr:=T) hI hlt Y.t Y.inf Y.zero Y.sz Y.zs a9 (App.ofSrc Y.t Y.inf Y.zero hsrc) hbig h63 _ (.inr ⟨t,rfl,hx,rfl⟩)
       have fin:∀ (base:Option Addr) (c:Nat),v1=.slice base xs.length c->xs.length<=c->c<=maxLen->(base=none->xs.length=0∧c=0) ->
         Calls P f [v1,.int .i64 (xs.length:Int),.slice (some ⟨vb,0,none⟩) ys.length (γ u).cap].toArray w fun en w'=>∃ u γ' F',en=.returned u∧Post S.length γ F w S γ' F' w' (keep (fun j=>!Nat.beq j t) S++[(S.length,.row E e .plain (xs++ys))])∧RepA γ' F' w' (one (.own S.length)) u:=by
        intro base c hv hle hmx hn
        subst hv
        rw[← hv1] at hrun
        refine (W.last base xs.length c ys.length _ ⟨vb,0,none⟩ w w' v' m0 hle hmx hn fun ty=>hrun).mono ?_
        rintro en w2 ⟨rfl,rfl⟩
        exact⟨_,γ',F,rfl,hp,hr⟩
       obtain⟨b1,b2,⟨b3,b4,_⟩ | ⟨b,cur,fz,fl,b3,b4,b5,b6,b7,b8,b9,b10⟩⟩:=hrt
       ·subst b4
        exact fin (γ t).nl 0 (by rw[hv1];simp[G.val,b3]) (by simp) (by simp[maxLen]) (by simp)
       ·exact fin (some ⟨b,0,none⟩) (γ t).cap (by rw[hv1,← b1];simp[G.val,b3]) b5 b6 (by simp)
      ·have hkl:k<xs.length:=by omega
       obtain⟨b1,b2,⟨b3,b4,_⟩ | ⟨b,cur,fz,fl,b3,b4,b5,b6,b7,b8,b9,b10,b11⟩⟩:=id hrt
       ·rw[b4] at hkl;simp at hkl
       subst b11
       have hv1:v1=.slice (some ⟨b,0,none⟩) xs.length (γ t).cap:=by rw[hv1,← b1];simp[G.val,b3]
       subst hv1
       have hvb:vb≠b:=fun h=>htu (hI.inj t u b ⟨_,hx⟩ ⟨_,hy⟩ b3 (h ▸ a3))
       have fll:fl.length=xs.length*e.size:=b9.length
       have e1:(k+ys.length)*e.size=k*e.size+ys.length*e.size:=Nat.add_mul ..
       have e2:(xs.length+ys.length)*e.size=xs.length*e.size+ys.length*e.size:=Nat.add_mul ..
       have e3:k*e.size<=xs.length*e.size:=Nat.mul_le_mul_right _ hk
       have e4:(xs.length - k)*e.size=xs.length*e.size - k*e.size:=Nat.sub_mul ..
       have hflat:Flat F w e (xs.take k++ys++xs.drop k) (fl.take (k*e.size)++fu++fl.drop (k*e.size)):=((b9.take k).append a9).append (b9.drop k)
       have hlen:(xs.take k++ys++xs.drop k).length=xs.length+ys.length:=by simp;omega
       have hone1:∀ v∈fl.drop (k*e.size),v.oneCell'=true:=fun v hv=>Flat.ones b9 v (List.mem_of_mem_drop hv)
       by_cases hroom:xs.length+ys.length<=(γ t).cap
       ·-- in its place
        have hmul:(xs.length+ys.length)*e.size<=(γ t).cap*e.size:=Nat.mul_le_mul_right _ hroom
        obtain⟨W2,c2,hcA,hT2,hb2',hc2⟩:=run_copy_blk (P:=P) (w:=w.drew) (dT:=T) (sT:=T) Y.t Y.inf (b:=b) (o:=(k+ys.length)*e.size) (dLen:=xs.length+ys.length - (k+ys.length)) (sLen:=xs.length+ys.length - k) (a:=⟨b,k*e.size,none⟩) (cs:=fl.drop (k*e.size)) (cur:=cur) (t:=E)
         (by rw[List.length_drop,fll,Y.sz,show min (xs.length+ys.length - k) (xs.length+ys.length - (k+ys.length))=xs.length - k by omega,e4]) (cells_at b4 b8 _) b4 (by rw[List.length_drop,fll,b7];omega) hone1
        rw[show min (xs.length+ys.length - k) (xs.length+ys.length - (k+ys.length))=xs.length - k by omega] at hcA
        have hc2s:c2.size=cur.size:=by
         have:=congrArg List.length hc2
         rw[spl_length _ _ _ (by rw[List.length_drop,fll,Array.length_toList (xs:=cur),b7];omega)] at this
         simpa using this
        have hu2:W2.heap[vb]?=some (.cells cu E (0,0)):=by rw[hT2.old vb hvb];exact a4
        obtain⟨W3,c3,hcB,hT3,hb3',hc3⟩:=run_copy_blk (P:=P) (w:=W2) (dT:=T) (sT:=T) Y.t Y.inf (b:=b) (o:=k*e.size) (dLen:=xs.length+ys.length - k) (sLen:=ys.length) (a:=⟨vb,0,none⟩) (cs:=fu) (cur:=c2) (t:=E)
         (by rw[ful,Y.sz,show min ys.length (xs.length+ys.length - k)=ys.length by omega]) (fun j v hj=>cells_at hu2 a8 0 j v (by simpa using hj)) hb2' (by rw[ful,hc2s,b7];omega) (Flat.ones a9)
        rw[show min ys.length (xs.length+ys.length - k)=ys.length by omega] at hcB
        refine (W.shift b k xs.length (γ t).cap ys.length (γ u).cap ⟨vb,0,none⟩ w W2 W3 hkl m0 hroom b6 (fun lb cb=>hov w vb b _ _ _ lb cb cu cur hvb a4 b4 (by rw[b7];exact Nat.ne_of_gt (Nat.mul_pos (by omega) e.size_pos))) hcA hcB).mono ?_
        rintro en w2 ⟨rfl,rfl⟩
        have hT:Turned w w2 b:=⟨hT3.os.trans hT2.os,hT3.tape.trans hT2.tape,hT3.output.trans hT2.output,hT3.size.trans hT2.size,fun c hc=>(hT3.old c hc).trans (hT2.old c hc)⟩
        refine⟨_,setG γ S.length ⟨some b,xs.length+ys.length,(γ t).cap,e.size,none⟩,F,rfl,Post.move hI hlt hx b3 b10 hT rfl ?_ rfl,by show _=(setG γ S.length _ S.length).val;rw[setG_self];rfl⟩
        show RowOk F (setG γ S.length _ S.length) w2 E e .plain _
        rw[setG_self]
        refine⟨hlen.symm,rfl,.inr ⟨b,c3,(0,0),_,rfl,hb3',by rw[hlen];exact hroom,b6,?_,rfl,?_,b10,rfl⟩⟩
        ·have:=congrArg List.length hc3
         rw[spl_length _ _ _ (by rw[ful,Array.length_toList (xs:=c2),hc2s,b7];omega)] at this
         rw[Array.length_toList (xs:=c3),Array.length_toList (xs:=c2)] at this
         rw[this,hc2s,b7]
        ·rw[hlen,hc3,hc2,e2,e1,← ful,← fll,spl_shift (r:=fl.length) (by rw[fll];exact b8) rfl (by rw[fll];exact e3) rfl (by rw[fll,ful,Array.length_toList (xs:=cur),b7];omega)]
         exact hflat.lasts ⟨FK.Le.refl F,fun c hc=>hT.old c fun h=>b10 (h ▸ hc)⟩
       ·-- a new row
        have hzr:((xs.length:Int)+(ys.length:Int) - (k:Int))=((xs.length+ys.length - k:Nat):Int):=by omega
        have happ:=App.ofZero (P:=P) (w:=w) (tx:=T3) (tr:=T) Y.t Y.inf Y.zero (by rw[Y.zs,Y.sz]) Y.t3 (n:=((xs.length+ys.length - k:Nat):Int)) (by omega)
         (by
          have h1:(xs.length+ys.length - k)*i.bytes<=(xs.length+ys.length)*i.bytes:=Nat.mul_le_mul_right _ (by omega)
          have h2:(((xs.length+ys.length - k)*i.bytes:Nat):Int)<=140737488355328:=by omega
          rw[Int.natCast_mul] at h2
          exact h2) (by omega) (Y.z1 _)
        rw[show ((xs.length+ys.length - k:Nat):Int).toNat=xs.length+ys.length - k from rfl] at happ
        have hfirst:(Builtin.firstCells i.size k (.slice (some ⟨b,0,none⟩) k (γ t).cap)).run P w.drew=.ok (fl.take (k*e.size)).toArray w.drew:=run_firstCells_some w.drew i.size k ⟨b,0,none⟩ k (γ t).cap (fl.take (k*e.size)) (by rw[List.length_take,fll,Y.sz];omega) (by
         intro j v hj
         have hj':(fl.drop 0)[j]?=some v:=by
          rw[List.getElem?_take] at hj
          split at hj
          ·simpa using hj
          ·cases hj
         exact cells_at (w:=w.drew) b4 b8 0 j v hj')
        have hsum:k+(xs.length+ys.length - k)=xs.length+ys.length:=by omega
        have hrz:=happ.grow (some ⟨b,0,none⟩) k (γ t).cap _ hfirst (by omega) (by omega) (growslice_fits (by omega) (by rw[hsum];exact hbig))
        rw[hsum] at hrz
        obtain⟨GC,hGC⟩:∃ GC,GC=grownCap w (xs.length+ys.length) (γ t).cap E:=⟨_,rfl⟩
        have hge:xs.length+ys.length<=GC:=by rw[hGC];exact grownCap_ge w _ _ E
        have hcm:GC<=maxLen:=by rw[hGC];exact grownCap_le_maxLen w _ _ E (by simp only[maxLen];omega)
        rw[← hGC] at hrz
        obtain⟨c1,hc1⟩:∃ c1:Array Value,c1=((fl.take (k*e.size)++(Builtin.zeroCells z.cells (xs.length+ys.length - k)).toList).toArray++Builtin.zeroCells z.cells (GC - (xs.length+ys.length))):=⟨_,rfl⟩
        rw[← hc1] at hrz
        have hc1s:c1.size=GC*e.size:=by
         rw[hc1,Array.size_append,size_zeroCells,List.size_toArray,List.length_append,Array.length_toList (xs:=Builtin.zeroCells z.cells (xs.length+ys.length - k)),size_zeroCells,List.length_take,fll,Y.zs,Nat.min_eq_left e3,← Nat.add_mul,hsum,← Nat.add_mul]
         congr 1
         omega
        have hmul:(xs.length+ys.length)*e.size<=GC*e.size:=Nat.mul_le_mul_right _ hge
        obtain⟨N,hN⟩:∃ N,N=w.heap.size:=⟨_,rfl⟩
        obtain⟨W1,hW1⟩:∃ W1,W1=w.drew.alloc (.cells c1 E):=⟨_,rfl⟩
        rw[← hW1,← hN] at hrz
        have nb:NewBlk w W1 (.cells c1 E):=by rw[hW1];exact⟨rfl,rfl,rfl,by simp,fun {b} hb=>heap_alloc_old w.drew _ hb,heap_alloc_new w.drew _⟩
        have hb1:W1.heap[N]?=some (.cells c1 E (0,0)):=by rw[hN];exact nb.new
        have hbl:b<w.heap.size:=lt_of_cells b4
        have hvl:vb<w.heap.size:=lt_of_cells a4
        have hu1:W1.heap[vb]?=some (.cells cu E (0,0)):=by rw[nb.old hvl];exact a4
        obtain⟨W2,c2,hcB,hT2,hb2',hc2⟩:=run_copy_blk (P:=P) (w:=W1) (dT:=T) (sT:=T) Y.t Y.inf (b:=N) (o:=k*e.size) (dLen:=xs.length+ys.length - k) (sLen:=ys.length) (a:=⟨vb,0,none⟩) (cs:=fu) (cur:=c1) (t:=E)
         (by rw[ful,Y.sz,show min ys.length (xs.length+ys.length - k)=ys.length by omega]) (fun j v hj=>cells_at hu1 a8 0 j v (by simpa using hj)) hb1 (by rw[ful,hc1s];omega) (Flat.ones a9)
        rw[show min ys.length (xs.length+ys.length - k)=ys.length by omega] at hcB
        have hc2s:c2.size=c1.size:=by
         have:=congrArg List.length hc2
         rw[spl_length _ _ _ (by rw[ful,Array.length_toList (xs:=c1),hc1s];omega)] at this
         simpa using this
        have hb2b:W2.drew.heap[b]?=some (.cells cur E (0,0)):=by
         show W2.heap[b]?=_
         rw[hT2.old b (by omega),nb.old hbl];exact b4
        obtain⟨W3,c3,hcA,hT3,hb3',hc3⟩:=run_copy_blk (P:=P) (w:=W2.drew) (dT:=T) (sT:=T) Y.t Y.inf (b:=N) (o:=(k+ys.length)*e.size) (dLen:=xs.length+ys.length - (k+ys.length)) (sLen:=xs.length - k) (a:=⟨b,k*e.size,none⟩) (cs:=fl.drop (k*e.size)) (cur:=c2) (t:=E)
         (by rw[List.length_drop,fll,Y.sz,show min (xs.length - k) (xs.length+ys.length - (k+ys.length))=xs.length - k by omega,e4]) (cells_at hb2b b8 _) hb2' (by rw[List.length_drop,fll,hc2s,hc1s];omega) hone1
        rw[show min (xs.length - k) (xs.length+ys.length - (k+ys.length))=xs.length - k by omega] at hcA
        refine (W.grow b N k xs.length (γ t).cap ys.length (γ u).cap GC ⟨vb,0,none⟩ w W1 W2 W3 hkl m0 b5 (by omega) hge hcm (fun ty=>by rw[hzr];exact hrz) hcB hcA).mono ?_
        rintro en w2 ⟨rfl,rfl⟩
        have hnb:NewBlk w w2 (.cells c3 E):=⟨hT3.os.trans (hT2.os.trans nb.os),hT3.tape.trans (hT2.tape.trans nb.tape),hT3.output.trans (hT2.output.trans nb.output),hT3.size.trans (hT2.size.trans nb.size),fun {c} hc=>(hT3.old c (by omega)).trans ((hT2.old c (by omega)).trans (nb.old hc)),by rw[← hN];exact hb3'⟩
        obtain⟨γ',hp,hrp⟩:=sem_newRow (m:=.plain) (e:=e) (xs:=xs.take k++ys++xs.drop k) (cap:=GC) hI hlt hnb (by rw[hlen];exact hge) hcm (by
         have:=congrArg List.length hc3
         rw[spl_length _ _ _ (by rw[List.length_drop,fll,Array.length_toList (xs:=c2),hc2s,hc1s];omega)] at this
         rw[Array.length_toList (xs:=c3),Array.length_toList (xs:=c2)] at this
         rw[this,hc2s,hc1s]) (by
         rw[hlen,hc3,hc2,e2,e1,← ful,← fll,spl_grow (r:=fl.length) (by rw[hc1];simp only[Array.toList_append,List.append_assoc];rw[List.take_left' (by rw[List.length_take,fll];omega)]) rfl (by rw[fll];exact e3) rfl (by rw[fll,ful,Array.length_toList (xs:=c1),hc1s];omega)]
         exact hflat) rfl
        rw[hlen,← hN] at hrp
        refine⟨_,γ',F,rfl,?_,hrp⟩
        rw[← keep_ne_new htl]
        refine hp.drop _ fun t' x' hx' hh=>?_
        cases ht':Nat.beq t' t with
        | false=>rfl
        | true =>
         have:t'=t:=by simpa using ht'
         subst this
         rw[look_append,hx] at hx'
         injection hx' with hx'
         subst hx'
         cases hh
     | [],h=>exact h.elim
     | [_],h=>exact h.2.elim
     | [_,_],h=>exact h.2.2.elim
     | _::_::_::_::_,h=>exact h.2.2.2.elim
    ·trivial
   ·trivial
 ·trivial
theorem insert_ok (W:InsW P f fo T T3 e.size)(Y:InsT P T T3 E e i z)
  (hov:∀ (w:World) (vb b o la ca lb cb:Nat) (c1 c2:Array Value),vb≠b->w.heap[vb]?=some (.cells c1 E (0,0))->w.heap[b]?=some (.cells c2 E (0,0))->c2.size≠0->(callFunc fo #[.slice (some ⟨vb,0,none⟩) la ca,.slice (some ⟨b,o,none⟩) lb cb]).run P w=.ok (.value (.bool false)) w) :
  EntOk P f (insertE E e i.bytes):=fun args S=>⟨by
 unfold insertE
 repeat' (first | trivial | split)
 all_goals (generalize Nat.beq _ _=c;cases c<;>(repeat' (first | trivial | split))),insert_ok0 W Y hov args S⟩
end
end Go.Ab
namespace Go.Proofs
open Go.Shelf Go.RowKit Go.Lib
variable {P:Program}
theorem wp_append_runJ (w:World){o:Oper}{a:Act}{K:Act->World->Prop}{Q:Exit->Act->World->Prop}(d s:Operand)(t t':TypeId)
  (ho:o.op=.call { callee:=.builtin .append,args:=#[d,s],argTypes:=#[t,t'] }) (v u:Value) (hd:a.eval d=v) (hs:a.eval s=u) {v':Value} {w':World}
  (hr:(Builtin.append_ #[t,t'] o.type #[v,u]).run P w=.ok v' w') (h:K (a.put o.dst v') w'):o.wp P a w K Q:=by
 unfold Oper.wp execOp
 simp only[ho,resolve,invoke,builtin,Sem.run_bind,Sem.run_pure,Result.andThen_ok,List.map_toArray,List.map_cons,List.map_nil,hd,hs,hr]
 exact h
theorem wpList_append_runJ (w:World){ops:Array Oper}{rest:List Oper}{o:Oper}{a:Act}{Q:Exit->Act->World->Prop}(hgd:o.guard=none)(d s:Operand)(t t':TypeId)
  (ho:o.op=.call { callee:=.builtin .append,args:=#[d,s],argTypes:=#[t,t'] }) (v u:Value) (hd:a.eval d=v) (hs:a.eval s=u) {v':Value} {w':World}
  (hr:(Builtin.append_ #[t,t'] o.type #[v,u]).run P w=.ok v' w') (h:wpList P ops Q rest (a.put o.dst v') w'):wpList P ops Q (o::rest) a w :=
 wpList_plain hgd fun _ hK=>wp_append_runJ w d s t t' ho v u hd hs hr (hK _ _ h)
theorem wp_copy_runJ (w:World){o:Oper}{a:Act}{K:Act->World->Prop}{Q:Exit->Act->World->Prop}(d s:Operand)(t t':TypeId)
  (ho:o.op=.call { callee:=.builtin .copy,args:=#[d,s],argTypes:=#[t,t'] }) (v u:Value) (hd:a.eval d=v) (hs:a.eval s=u) {v':Value} {w':World}
  (hr:(Builtin.copy_ #[t,t'] o.type #[v,u]).run P w=.ok v' w') (h:K (a.put o.dst v') w'):o.wp P a w K Q:=by
 unfold Oper.wp execOp
 simp only[ho,resolve,invoke,builtin,Sem.run_bind,Sem.run_pure,Result.andThen_ok,List.map_toArray,List.map_cons,List.map_nil,hd,hs,hr]
 exact h
theorem wpList_copy_runJ (w:World){ops:Array Oper}{rest:List Oper}{o:Oper}{a:Act}{Q:Exit->Act->World->Prop}(hgd:o.guard=none)(d s:Operand)(t t':TypeId)
  (ho:o.op=.call { callee:=.builtin .copy,args:=#[d,s],argTypes:=#[t,t'] }) (v u:Value) (hd:a.eval d=v) (hs:a.eval s=u) {v':Value} {w':World}
  (hr:(Builtin.copy_ #[t,t'] o.type #[v,u]).run P w=.ok v' w') (h:wpList P ops Q rest (a.put o.dst v') w'):wpList P ops Q (o::rest) a w :=
 wpList_plain hgd fun _ hK=>wp_copy_runJ w d s t t' ho v u hd hs hr (hK _ _ h)
theorem step_copy_runJ {ops:Array Oper}{o:Oper}{a:Act}{w:World}{K:Act->World->Prop}{Q:Exit->Act->World->Prop}{E:Prop}
  (hg:o.guard=none) (d x:Operand) (dT sT:TypeId) (hop:o.op=Op.call { callee:=Callee.builtin Builtin.copy,args:=#[d,x],argTypes:=#[dT,sT] })
  (v u:Value) (hd:a.eval d=v) (hx:a.eval x=u) {v':Value} {w':World} (hr:(Builtin.copy_ #[dT,sT] o.type #[v,u]).run P w=.ok v' w') (hK:K (a.put o.dst v') w') :
  if Region.wanted o (yielded ops a.tmps)=true then Oper.wp P o a w K Q else E:=by
 have hw:Region.wanted o (yielded ops a.tmps)=true:=by simp[Region.wanted,hg]
 rw[if_pos hw]
 unfold Oper.wp
 simp[execOp,hop,resolve,invoke,builtin,hd,hx,hr,Result.andThen]
 exact hK
end Go.Proofs
namespace Go.Proofs.YteadgfclfopccaaGreatDoor
open Go.Shelf Go.RowKit Go.Lib Go.Ab
set_option maxHeartbeats 4000000 in
set_option maxRecDepth 100000 in
theorem ins_last (base:Option Addr)(n c m vc:Nat)(va:Addr)(w w1:World)(u:Value)(hm:0<m)(hnc:n<=c)(hmx:c<=maxLen)(hb:base=none->n=0∧c=0)
  (hrun:∀ ty,(Builtin.append_ #[75,75] ty #[.slice base n c,.slice (some va) m vc]).run Tryz.prog w=.ok u w1) :
  Calls Tryz.prog 243 #[.slice base n c,.int .i64 (n:Int),.slice (some va) m vc] w fun e w'=>e=.returned u∧w'=w1:=by
 have hz1:¬ ((m:Int)=0):=by omega
 have mixed:Tryz.prog.follows .mixedOrders=true:=by kernel_rfl
 have z182:∀ w,(Go.sizeOf 182).run Tryz.prog w=.ok 6 w:=fun w=>by simp[Go.sizeOf,typeInfo,show Tryz.prog.info? 182=some Tryz.t182 from by kernel_rfl];rfl
 have u75:=run_underlying (P:=Tryz.prog) (show Tryz.prog.underlying 75=some (.slice 182) by kernel_rfl)
 have u3:=run_underlying (P:=Tryz.prog) (show Tryz.prog.underlying 3=some (.int .i64) by kernel_rfl)
 have u4:=run_underlying (P:=Tryz.prog) (show Tryz.prog.underlying 4=some .bool by kernel_rfl)
 go_enter Tryz.func243,Tryz.ntmps243
 cases base with
 | none =>
  obtain⟨rfl,rfl⟩:=hb rfl
  go_wp2_with (at_builtin;refine wpList_append_runJ _ rfl _ _ 75 75 rfl _ _ rfl rfl (hrun _) ?_)
  go_ret
  exact⟨rfl,rfl⟩
 | some a =>
  go_wp2_with (at_builtin;refine wpList_append_runJ _ rfl _ _ 75 75 rfl _ _ rfl rfl (hrun _) ?_)
  all_goals (go_ret;exact⟨rfl,rfl⟩)
set_option maxHeartbeats 4000000 in
set_option maxRecDepth 100000 in
theorem ins_grow (b N i n c m vc G:Nat)(va:Addr)(w W1 W2 W3:World)(hi:i<n)(hm:0<m)(hnc:n<=c)(hroom:c<n+m)(hG:n+m<=G)(hGx:G<=maxLen)
  (hA:∀ ty,(Builtin.append_ #[75,3] ty #[.slice (some ⟨b,0,none⟩) i c,.int .i64 ((n:Int)+(m:Int) - (i:Int))]).run Tryz.prog w=.ok (.slice (some ⟨N,0,none⟩) (n+m) G) W1)
  (hB:∀ ty dc sc,(Builtin.copy_ #[75,75] ty #[.slice (some ⟨N,i*6,none⟩) (n+m - i) dc,.slice (some va) m sc]).run Tryz.prog W1=.ok (goInt (m:Int)) W2)
  (hC:∀ ty dc sc,(Builtin.copy_ #[75,75] ty #[.slice (some ⟨N,(i+m)*6,none⟩) (n+m - (i+m)) dc,.slice (some ⟨b,i*6,none⟩) (n - i) sc]).run Tryz.prog W2.drew=.ok (goInt ((n - i:Nat):Int)) W3) :
  Calls Tryz.prog 243 #[.slice (some ⟨b,0,none⟩) n c,.int .i64 (i:Int),.slice (some va) m vc] w fun e w'=>e=.returned (.slice (some ⟨N,0,none⟩) (n+m) G)∧w'=W3:=by
 have hz1:¬ ((m:Int)=0):=by omega
 have hz2:¬ ((i:Int)=(n:Int)):=by omega
 have hz3:(c:Int)<(n:Int)+(m:Int):=by omega
 have hGx:G<=9223372036854775807:=by unfold maxLen at hGx;omega
 have mixed:Tryz.prog.follows .mixedOrders=true:=by kernel_rfl
 have z182:∀ w,(Go.sizeOf 182).run Tryz.prog w=.ok 6 w:=fun w=>by simp[Go.sizeOf,typeInfo,show Tryz.prog.info? 182=some Tryz.t182 from by kernel_rfl];rfl
 have u75:=run_underlying (P:=Tryz.prog) (show Tryz.prog.underlying 75=some (.slice 182) by kernel_rfl)
 have u3:=run_underlying (P:=Tryz.prog) (show Tryz.prog.underlying 3=some (.int .i64) by kernel_rfl)
 have u4:=run_underlying (P:=Tryz.prog) (show Tryz.prog.underlying 4=some .bool by kernel_rfl)
 have hw1:IntKind.i64.wrap ((i:Int)+(m:Int))=(i:Int)+(m:Int):=by rw[IntKind.wrap_i64];omega
 have hb1:(0:Int)<=(i:Int)+(m:Int):=by omega
 have hin:i<=n:=by omega
 have htn:((i:Int)+(m:Int)).toNat=i+m:=by omega
 have hb3:(i:Int)<=(n:Int):=by omega
 have hGi:¬ (G=i):=by omega
 have hGim:¬ (G=i+m):=by omega
 have hci:¬ (c=i):=by omega
 have hci':¬ (c<=i):=by omega
 go_enter Tryz.func243,Tryz.ntmps243
 go_wp2_with (first
  | (at_builtin;refine wpList_append_runJ _ rfl _ _ 75 3 rfl _ _ rfl rfl (hA _) ?_)
  | (at_builtin;refine wpList_copy_runJ _ rfl _ _ 75 75 rfl _ _ rfl rfl (hB _ _ _) ?_)
  | (at_builtin;refine wpList_copy_runJ _ rfl _ _ 75 75 rfl _ _ rfl rfl (hC _ _ _) ?_))
 go_region_law_o (refine step_copy_runJ rfl _ _ 75 75 rfl (.slice (some ⟨N,(i+m)*6,none⟩) (n+m - (i+m)) (G - (i+m))) (.slice (some ⟨b,i*6,none⟩) (n - i) (c - i)) (by simp[Act.eval,Act.put]) (by simp[Act.eval,Act.put]) (hC 3 (G - (i+m)) (c - i)) ?_)
 go_wp2
 go_ret
 exact⟨rfl,rfl⟩
set_option maxHeartbeats 4000000 in
set_option maxRecDepth 100000 in
theorem ins_shift (b i n c m vc:Nat)(va:Addr)(w W2 W3:World)(hi:i<n)(hm:0<m)(hroom:n+m<=c)(hcx:c<=maxLen)
  (hov:∀ lb cb,(callFunc 265 #[.slice (some va) m vc,.slice (some ⟨b,(i+m)*6,none⟩) lb cb]).run Tryz.prog w=.ok (.value (.bool false)) w)
  (hA:∀ ty dc sc,(Builtin.copy_ #[75,75] ty #[.slice (some ⟨b,(i+m)*6,none⟩) (n+m - (i+m)) dc,.slice (some ⟨b,i*6,none⟩) (n+m - i) sc]).run Tryz.prog w.drew=.ok (goInt ((n - i:Nat):Int)) W2)
  (hB:∀ ty dc sc,(Builtin.copy_ #[75,75] ty #[.slice (some ⟨b,i*6,none⟩) (n+m - i) dc,.slice (some va) m sc]).run Tryz.prog W2=.ok (goInt (m:Int)) W3) :
  Calls Tryz.prog 243 #[.slice (some ⟨b,0,none⟩) n c,.int .i64 (i:Int),.slice (some va) m vc] w fun e w'=>e=.returned (.slice (some ⟨b,0,none⟩) (n+m) c)∧w'=W3:=by
 have hz1:¬ ((m:Int)=0):=by omega
 have hz2:¬ ((i:Int)=(n:Int)):=by omega
 have hcx:c<=9223372036854775807:=by unfold maxLen at hcx;omega
 have mixed:Tryz.prog.follows .mixedOrders=true:=by kernel_rfl
 have z182:∀ w,(Go.sizeOf 182).run Tryz.prog w=.ok 6 w:=fun w=>by simp[Go.sizeOf,typeInfo,show Tryz.prog.info? 182=some Tryz.t182 from by kernel_rfl];rfl
 have u75:=run_underlying (P:=Tryz.prog) (show Tryz.prog.underlying 75=some (.slice 182) by kernel_rfl)
 have u3:=run_underlying (P:=Tryz.prog) (show Tryz.prog.underlying 3=some (.int .i64) by kernel_rfl)
 have u4:=run_underlying (P:=Tryz.prog) (show Tryz.prog.underlying 4=some .bool by kernel_rfl)
 have hw1:IntKind.i64.wrap ((i:Int)+(m:Int))=(i:Int)+(m:Int):=by rw[IntKind.wrap_i64];omega
 have hb1:(0:Int)<=(i:Int)+(m:Int):=by omega
 have hin:i<=n:=by omega
 have htn:((i:Int)+(m:Int)).toNat=i+m:=by omega
 have hb2:¬ (c=i+m):=by omega
 have hb3:(i:Int)<=(n:Int)+(m:Int):=by omega
 have hb4:¬ (c=i):=by omega
 go_enter Tryz.func243,Tryz.ntmps243
 go_wp2_with (simp only[hov])
 go_region_law_o (refine step_copy_runJ rfl _ _ 75 75 rfl (.slice (some ⟨b,(i+m)*6,none⟩) (n+m - (i+m)) (c - (i+m))) (.slice (some ⟨b,i*6,none⟩) (n+m - i) (c - i)) (by simp[Act.eval,Act.put]) (by simp[Act.eval,Act.put]) (hA 3 (c - (i+m)) (c - i)) ?_)
 go_wp2_with (at_builtin;refine wpList_copy_runJ _ rfl _ _ 75 75 rfl _ _ rfl rfl (hB _ _ _) ?_)
 go_ret
 exact⟨rfl,rfl⟩
abbrev SFt:Go.Ab.Ty:=.pair (.int .i64) (.pair (.int .i64) (.pair (.int .i64) (.pair .bool (.pair .bool .bool))))
theorem ins_walk:InsW Tryz.prog 243 265 75 3 SFt.size:=(show 6=SFt.size by kernel_rfl) ▸ ⟨ins_last,ins_grow,ins_shift⟩
theorem ins_types:InsT Tryz.prog 75 3 182 SFt Tryz.t182 (Value.agg #[.int .i64 0,.int .i64 0,.int .i64 0,.bool false,.bool false,.bool false]) where
 t:=by kernel_rfl
 t3:=by kernel_rfl
 inf:=by kernel_rfl
 zero:=by kernel_rfl
 sz:=by kernel_rfl
 zs:=by kernel_rfl
 bp:=by decide
 z1 n v hv:=by
  have hflat:(Builtin.zeroCells (Value.agg #[.int .i64 0,.int .i64 0,.int .i64 0,.bool false,.bool false,.bool false]).cells n).toList=(List.replicate n (Value.agg #[.int .i64 0,.int .i64 0,.int .i64 0,.bool false,.bool false,.bool false]).cells.toList).flatten:=madeCells_flat _ n (by decide)
  rw[hflat] at hv
  obtain⟨l,hl,hv⟩:=List.mem_flatten.1 hv
  rw[List.eq_of_mem_replicate hl] at hv
  simp[Value.cells] at hv
  rcases hv with rfl | rfl<;>rfl
theorem ins_apart (w:World)(vb b o la ca lb cb:Nat)(c1 c2:Array Value)(hne:vb≠b)(h1:w.heap[vb]?=some (.cells c1 182 (0,0)))(h2:w.heap[b]?=some (.cells c2 182 (0,0)))(hs:c2.size≠0) :
  (callFunc 265 #[.slice (some ⟨vb,0,none⟩) la ca,.slice (some ⟨b,o,none⟩) lb cb]).run Tryz.prog w=.ok (.value (.bool false)) w:=by
 rw[run_callFunc_extern Tryz.func265 (by kernel_rfl) (by kernel_rfl) (by kernel_rfl) (e:=Extern.SlicesOverlaps.overlaps #[75,75] #[4]) (by kernel_rfl),
  Lib.run_overlaps_apart w 75 4 182 (by kernel_rfl) 6 (fun w=>by simp[Go.sizeOf,typeInfo,show Tryz.prog.info? 182=some Tryz.t182 from by kernel_rfl];rfl) ⟨vb,0,none⟩ ⟨b,o,none⟩ la ca lb cb hne 182 182 c1.size c2.size (by simp[World.shape?,h1]) (by simp[World.shape?,h2]) hs (by simp[World.frozen?,h1]) (by simp[World.frozen?,h1])]
 rfl
theorem si_ok:EntOk Tryz.prog 243 (insertE 182 SFt 32):=(show Tryz.t182.bytes=32 by kernel_rfl) ▸ insert_ok ins_walk ins_types ins_apart
end Go.Proofs.YteadgfclfopccaaGreatDoor
