/- Joined texts. -/
import Derived.Test.YteadgfclfopccaaGreatDoorAC
import Derived.Shelf.Strings.Builder1
import Derived.Shelf.SlicesE.Clone
set_option linter.unusedVariables false
set_option linter.unusedSimpArgs false
namespace Go.Proofs
open Go.Shelf Go.RowKit
variable {P:Program} {ρ:Ren}
end Go.Proofs
namespace Go.Ab
open Go.Shelf Go.Proofs
section
variable {P:Program} {ρ:Ren}
end
end Go.Ab
namespace Go.Proofs
open Go.Shelf Go.RowKit Go.Lib
variable {P:Program} {ρ:Ren}
set_option maxHeartbeats 2000000 in
set_option maxRecDepth 100000 in
theorem clone_empty (L:SlLaysE0.n41 P ρ)(i0:TypeInfo)(z:Value)(size bytes:Nat)(hi:P.info? (ρ.t 23)=some i0)(hz0:i0.zero=some z)(hz1:i0.size=size)(hz2:i0.bytes=bytes)(hzs:z.cells.size=size)(hsz:0<size)
  (z23:∀ w,(Go.sizeOf (ρ.t 23)).run P w=.ok size w) (a:Addr) (c:Nat) (w:World) :
  Calls P (ρ.f 41) #[.slice (some a) 0 c] w fun e w'=>∃ v',e=.returned v'∧w'.ownsRow w.heap.size (ρ.t 23) size v' 0 []∧v'≠.slice none 0 0∧Below w.heap.size w w':=by
 have mixed:=L.mixed;have t4:=L.t4;have a4:=L.a4;have z4:=L.z4;have v4:=L.v4;have t22:=L.t22;have a22:=L.a22;have z22:=L.z22;have v22:=L.v22
 have q22:∀ (w:World) (a:Option Addr) (n c n' c':Nat),(binOp .eql (ρ.t 22) (.slice a n c) (.slice none n' c')).run P w=.ok (.bool a.isNone) w:=fun w a n c n' c'=>Lib.run_eql_slice_nil w _ _ a n c n' c' L.t22
 have u22:∀ w,Sem.run P (underlying (ρ.t 22)) w=.ok (TypeDesc.slice (ρ.t 23)) w:=run_underlying t22
 obtain⟨_,_,FG⟩:=L.f41
 go_enter FG,SlBodyN.n41_ntmps ρ
 go_wp2_with (at_builtin;refine wpList_append_own _ rfl _ _ (ρ.t 22) rfl w.heap.size (ρ.t 23) i0 z size bytes t22 hi hz0 hz1 hz2 hzs hsz _ _ _ rfl (World.ownsRow_made w #[] 0 (Nat.le_refl _) (Nat.zero_le _) (by simp)) a 0 c [] rfl ?qc1 ?qc2 ?qc3 ?qc4 ?qc5 ?qc6 ?_)
 case qc1=>simp
 case qc2=>intro j u hj;simp at hj
 case qc3=>intro u hu;simp at hu
 case qc4=>simp
 case qc5=>simp
 case qc6=>simp
 intro v' w1 hown hgrow hnil
 go_wp2
 go_ret
 refine⟨v',rfl,by simpa using hown,?_,?_⟩
 ·exact hnil
 ·exact ((Below.refl _ w).alloc (Nat.le_refl _) _).grown hgrow (by simp) (by intro k hk;simp[Value.ownBlock] at hk;omega)
end Go.Proofs
namespace Go.Ab
open Go.Shelf Go.Proofs Go.RowKit Go.Lib
variable {P:Program} {ρ:Ren}
theorem RoSl.flat {F:FK}{w:World}{e:Ty}{b off:Nat}:∀ {xs:List e.den} (n:Nat),(∀ i x,xs[i]?=some x->∃ l,RepD F w e x l∧l.length=e.size∧∀ j v,l[j]?=some v->w.cell? ⟨b,off+((n+i)*e.size+j),none⟩=some v) ->
  ∃ l,Flat F w e xs l∧∀ j v,l[j]?=some v->w.cell? ⟨b,off+(n*e.size+j),none⟩=some v
 | [],n,_=>⟨[],rfl,fun j v h=>by simp at h⟩
 | x::xs,n,h=>by
  obtain⟨l1,h1,h2,h3⟩:=h 0 x (by simp)
  obtain⟨l2,h4,h5⟩:=RoSl.flat (xs:=xs) (n+1) fun i y hy=>by
   obtain⟨l,a,b,c⟩:=h (i+1) y (by simpa using hy)
   exact⟨l,a,b,fun j v hv=>by rw[show n+1+i=n+(i+1) by omega];exact c j v hv⟩
  refine⟨l1++l2,⟨l1,l2,rfl,h1,h4⟩,fun j v hv=>?_⟩
  by_cases hj:j<l1.length
  ·rw[List.getElem?_append_left hj] at hv
   simpa using h3 j v hv
  ·rw[List.getElem?_append_right (by omega)] at hv
   have:=h5 (j - l1.length) v hv
   rw[h2] at this
   rw[show off+(n*e.size+j)=off+((n+1)*e.size+(j - e.size)) by rw[Nat.add_mul];omega]
   exact this
theorem Post.madeRow {γ:Nat->G}{F:FK}{w w':World}{E:Nat}{e:Ty}{xs:List e.den}{v:Value}{news:List Value}(hF:Frz F w)(hb:Below w.heap.size w w')(ho:w'.ownsRow w.heap.size E e.size v xs.length news)(hf:Flat F w e xs news) :
  ∃ γ',Post 0 γ F w [] γ' F w' [(0,.row E e .plain xs)]∧RepA γ' F w' (one (.own 0)) v:=by
 have hlt:∀ b,F b->w'.heap[b]?=w.heap[b]?:=fun b h=>hb.block b (hF b h)
 have hl:Lasts F F w w':=⟨FK.Le.refl F,hlt⟩
 have frz:Frz F w':=⟨fun b h=>Nat.lt_of_lt_of_le (hF b h) hb.size,hF.gnd.mono (fun _ h=>h) hlt⟩
 have main:∀ g:G,g.val=v->RowOk F g w' E e .plain xs->(∀ b,g.blk=some b->w.heap.size<=b)->∃ γ',Post 0 γ F w [] γ' F w' [(0,.row E e .plain xs)]∧RepA γ' F w' (one (.own 0)) v:=by
  intro g hv hr hge
  have hk:∀ t x,look [(0,Blk.row E e .plain xs)] t=some x->t=0∧x=.row E e .plain xs:=by
   intro t x hx
   simp only[look] at hx
   by_cases h0:(0:Nat)=t
   ·subst h0
    rw[beq_yes] at hx
    injection hx with hx
    exact⟨rfl,hx.symm⟩
   ·rw[beq_no h0] at hx;cases hx
  have hnk:∀ j b,¬ KidO F [(0,Blk.row E e .plain xs)] j b:=by
   rintro j b ⟨t,x,hx,hj⟩
   obtain⟨_,rfl⟩:=hk t x hx
   exact hj
  refine⟨fun _=>g,⟨hb.os,hb.tape,hb.output,hb.size,fun b h _=>hb.block b h,fun t ht=>(by omega),FK.Le.refl F,fun _ h=>.inl h,?_,hlt,⟨?_,?_,frz,⟨?_,?_,?_⟩⟩,fun _=>rfl⟩,hv.symm⟩
  ·rintro b (⟨t,_,h⟩ | ⟨j,h⟩)
   ·exact .inr (hge b h)
   ·exact absurd h (hnk j b)
  ·intro t x hx
   obtain⟨rfl,rfl⟩:=hk t x hx
   exact hr
  ·rintro t t' b ⟨x,hx⟩ ⟨x',hx'⟩ _ _
   rw[(hk t x hx).1,(hk t' x' hx').1]
  ·intro t t' x x' hx hx' _ _
   rw[(hk t x hx).1,(hk t' x' hx').1]
  ·intro j j' b h _
   exact absurd h (hnk j b)
  ·intro j b t h _
   exact absurd h (hnk j b)
 obtain⟨hlen,⟨rfl,hn⟩ | ⟨g,cap,cur,rfl,hg,hh,hc,hm,hs,htk⟩⟩:=ho
 ·exact main ⟨none,0,0,e.size,none⟩ rfl ⟨hn.symm,rfl,.inl ⟨rfl,List.length_eq_zero_iff.1 hn,fun _=>rfl⟩⟩ fun b h=>by cases h
 ·refine main ⟨some g,xs.length,cap,e.size,none⟩ rfl ⟨rfl,rfl,.inr ⟨g,cur,(0,0),news,rfl,hh,hc,hm,hs,htk,hf.lasts hl,fun h=>?_,rfl⟩⟩ fun b h=>(by injection h with h;omega)
  have:=hF g h
  omega
def cloneF (α:Type)(bytes:Nat)(x:List α):Option (List α):=bif decide (x.length*bytes<=140737488355328)&&decide (x.length<=9223372036854775807) then some x else none
theorem clone_ok (L:SlLaysE0.n41 P ρ){e:Ty}{i0:TypeInfo}{z:Value}{bytes:Nat}(hi:P.info? (ρ.t 23)=some i0)(hz0:i0.zero=some z)(hz1:i0.size=e.size)(hz2:i0.bytes=bytes)(hzs:z.cells.size=e.size)
  (z23:∀ w,(Go.sizeOf (ρ.t 23)).run P w=.ok e.size w) (x y:List e.den) (h:cloneF e.den bytes x=some y):FnOk P (ρ.f 41) [.dat (.slice e)] [.own (ρ.t 23) e] x y:=by
 unfold cloneF at h
 cases hc:decide (x.length*bytes<=140737488355328)&&decide (x.length<=9223372036854775807) with
 | false=>rw[hc] at h;cases h
 | true =>
  rw[hc] at h
  cases h
  simp only[Bool.and_eq_true,decide_eq_true_eq] at hc
  obtain⟨hbig,hmax⟩:=hc
  intro γ F w vals hF hvals
  match vals,hvals with
  | [v],⟨hv,_⟩ =>
   obtain⟨A,n,cap,rfl,hlen,hle,hrd⟩:=(show RoSl F w (RepD F w e) e.size x v from hv)
   subst hlen
   have fin:∀ {news:List Value},Flat F w e x news->∀ (en:Ending) (w':World),(∃ v',en=.returned v'∧w'.ownsRow w.heap.size (ρ.t 23) e.size v' x.length news∧v'≠.slice none 0 0∧Below w.heap.size w w') ->
     ∃ u γ' F',en=.returned u∧Post 0 γ F w [] γ' F' w' (resSto 0 [.own (ρ.t 23) e] x)∧RepA γ' F' w' (packV (resVals 0 [.own (ρ.t 23) e] x)) u:=by
    rintro news hf en w' ⟨v',rfl,ho,_,hb⟩
    obtain⟨γ',p,r⟩:=Post.madeRow (γ:=γ) hF hb ho hf
    exact⟨v',γ',F,rfl,p,r⟩
   match A,hrd with
   | none,hrd =>
    have h0:x.length=0:=by
     rcases Nat.eq_zero_or_pos x.length with h | h
     ·exact h
     ·obtain⟨a,ha,_⟩:=hrd h
      cases ha
    have hx:x=[]:=List.length_eq_zero_iff.1 h0
    subst hx
    refine (AnyE.slices_Clone_nil L 0 cap w).mono ?_
    rintro en w' ⟨rfl,rfl⟩
    obtain⟨γ',p,r⟩:=Post.madeRow (γ:=γ) (E:=ρ.t 23) (e:=e) (xs:=[]) (v:=.slice none 0 0) (news:=[]) hF (Below.refl _ w') ⟨by simp,.inl ⟨rfl,rfl⟩⟩ rfl
    exact⟨_,γ',F,rfl,p,r⟩
   | some a,hrd =>
    rcases Nat.eq_zero_or_pos x.length with h0 | h0
    ·have hx:x=[]:=List.length_eq_zero_iff.1 h0
     subst hx
     exact (clone_empty L i0 z e.size bytes hi hz0 hz1 hz2 hzs e.size_pos z23 a cap w).mono fun en w' hw=>fin (news:=[]) rfl en w' hw
    ·obtain⟨a',ha,hsp,hFa,hcell⟩:=hrd h0
     injection ha with ha
     subst ha
     obtain⟨b,off,sp⟩:=a
     have hsp:sp=none:=hsp
     subst hsp
     obtain⟨l,hl,hlc⟩:=RoSl.flat (F:=F) (w:=w) (e:=e) (b:=b) (off:=off) (xs:=x) 0 fun i y hy=>by
      obtain⟨l,h1,h2,h3⟩:=hcell i y hy
      exact⟨l,h1,h2,fun j v hv=>by rw[Nat.zero_add];exact h3 j v hv⟩
     refine (AnyE.slices_Clone L i0 z e.size bytes hi hz0 hz1 hz2 hzs e.size_pos z23 b off x.length cap l w hl.length (by unfold maxLen;omega) hbig (fun j u hj=>?_) (fun u hu=>?_)).mono fun en w' hw=>fin hl en w' hw
     ·have:=hlc j u hj
      rwa [Nat.zero_mul,Nat.zero_add] at this
     ·exact Flat.ones hl u hu
end Go.Ab
