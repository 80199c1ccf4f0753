/- Joined texts. -/
import Derived.Test.YthcmomgkfjjajaaGreatDoorPA
set_option linter.unusedVariables false
set_option linter.unusedSimpArgs false
namespace Go.Proofs.YthcmomgkfjjajaaGreatDoor
open Go.Ab
theorem chrT_size (s:ByteArray):(chrT s).size<=s.size:=by
 unfold chrT
 rw[strOfNums_size,List.length_map,ints_length,List.length_take]
 have:=trimN_le s.data.toList s.data.toList.length
 rw[ba_len] at *
 omega
theorem txtS_size {n s:Int}(h:numErr n s=0):(txtS n s.toNat).size<=60:=by
 have c:=numErr_ok h
 have hd:=decS_size (u:=n.natAbs) (by omega)
 have p1:=pad_size (decS n.natAbs) s.toNat
 have p2:=pt_size (padS (decS n.natAbs) s.toNat) s.toNat (by omega)
 have h1:(⟨#[45]⟩:ByteArray).size=1:=rfl
 unfold txtS
 split
 ·rw[app_size,h1];omega
 ·omega
theorem fTx_size {l:List Typ}{data:ByteArray}{i:Nat}(hw:∀ t∈l,wrT t=false)(hi:i<l.length):(fTx l data i).size<=300:=by
 have hx:l[i]?=some (l[i]'hi):=List.getElem?_eq_getElem hi
 have hg:l.getD i (0,(0,0))=l[i]'hi:=getD_of hx
 obtain⟨ht,h4⟩:=wrT_ok (hw _ (List.mem_of_getElem? hx))
 obtain⟨o1,o2⟩:=off_rng l i
 obtain⟨w1,w2⟩:=wd_rng (l[i]'hi)
 unfold fTx
 rw[hg]
 split
 ·decide
 ·rename_i hc
  have hsz:(data.extract (off l i).toNat (off l i+wd (l[i]'hi)).toNat).size<=256:=by
   rw[ext_size _ _ _ (by omega)];omega
  generalize data.extract (off l i).toNat (off l i+wd (l[i]'hi)).toNat=s at hsz
  unfold fT
  split
  ·have:=chrT_size s;omega
  ·split
   ·decide
   ·rename_i h0 he
    obtain⟨a1,a2,a3,a4,a5,a6,a7,a8,a9⟩:=ty_ok ht
    have:=txtS_size (dec_num (s:=s) ht (by omega) (by simpa using he))
    omega
def subL (fl:List ByteArray):List UInt8->List UInt8
 | []=>[]
 | [c]=>[c]
 | c::d::r=>if c=38∧49<=d.toNat∧d.toNat - 48<=fl.length then (fl.getD (d.toNat - 49) ByteArray.empty).data.toList++subL fl r else c::subL fl (d::r)
theorem sub_cases (fl:List ByteArray)(l:List UInt8)(i:Nat)(hi:i<l.length) :
  (∃ d,l[i]?=some 38∧l[i+1]?=some d∧49<=d.toNat∧d.toNat - 48<=fl.length∧subL fl (l.drop i)=(fl.getD (d.toNat - 49) ByteArray.empty).data.toList++subL fl (l.drop (i+1+1))) ∨
  ∃ x,l[i]?=some x∧(∀ d,x=38->l[i+1]?=some d->¬ (49<=d.toNat∧d.toNat - 48<=fl.length))∧subL fl (l.drop i)=x::subL fl (l.drop (i+1)):=by
 have e:l.drop i=l[i]'hi::l.drop (i+1):=List.drop_eq_getElem_cons hi
 have hx:l[i]?=some (l[i]'hi):=List.getElem?_eq_getElem hi
 by_cases h1:i+1<l.length
 ·have e1:l.drop (i+1)=l[i+1]'h1::l.drop (i+1+1):=List.drop_eq_getElem_cons h1
  have hd:l[i+1]?=some (l[i+1]'h1):=List.getElem?_eq_getElem h1
  by_cases c:l[i]'hi=38∧49<=(l[i+1]'h1).toNat∧(l[i+1]'h1).toNat - 48<=fl.length
  ·refine .inl ⟨_,by rw[hx,c.1],hd,c.2.1,c.2.2,?_⟩
   rw[e,e1,subL,if_pos c]
  ·refine .inr ⟨_,hx,?_,?_⟩
   ·intro d h2 h3 h4
    rw[hd] at h3
    cases h3
    exact c ⟨h2,h4⟩
   ·rw[e,e1,subL,if_neg c]
 ·refine .inr ⟨_,hx,?_,?_⟩
  ·intro d _ h3
   rw[List.getElem?_eq_none (by omega)] at h3
   cases h3
  ·rw[e,List.drop_eq_nil_of_le (by omega)]
   simp[subL]
theorem f808p0n {R:Type}(k0:ByteArray×List ByteArray×Int×List Int×Unit->Option R)(k1:ByteArray×List ByteArray×Int×Unit->Option R){l:List UInt8}{fl:List ByteArray}{i:Nat}{x:UInt8}(hx:l[i]?=some x)(hb:l.length<10000)
  (hno:∀ d,x=38->l[i+1]?=some d->¬ (49<=d.toNat∧d.toNat - 48<=fl.length)):f808p0 1000 k0 k1 (S l,fl,(i:Int),())=k1 (S l,fl,(i:Int),()):=by
 have hi:i<l.length:=(List.getElem?_eq_some_iff.1 hx).1
 have hg:l.getD i 0=x:=getD_of hx
 unfold f808p0
 simp only[S_size,nn,ltn hi,Bool.and_self,cond_true,S_bt l i hi,hg,wi_succ (i:=i) (by omega)]
 by_cases c:x=38
 ·subst c
  by_cases h1:i+1<l.length
  ·have hd:l[i+1]?=some (l[i+1]'h1):=List.getElem?_eq_getElem h1
   have hgd:l.getD (i+1) 0=l[i+1]'h1:=getD_of hd
   have:=hno _ rfl hd
   have hr:=byte_rng (l[i+1]'h1)
   simp only[nn,ltn h1,Bool.and_self,cond_true,S_bt l (i+1) h1,hgd]
   by_cases h49:49<=(l[i+1]'h1).toNat
   ·rw[bif_true (by rfl),bif_true (by simp;omega),wu8 (x:=((l[i+1]'h1).toNat:Int) - 48) (by omega) (by omega),wi (by omega) (by omega),bif_false (by simp;omega)]
   ·rw[bif_true (by rfl),bif_false (by simp;omega)]
  ·rw[bif_true (by rfl),bif_false (by simp;omega)]
 ·rw[bif_false]
  rw[beq_eq_false_iff_ne]
  intro h
  apply c
  apply UInt8.toNat_inj.1
  have:x.toNat=38:=by omega
  rw[this];rfl
theorem f808p2n {R:Type}(k0 k1:ByteArray×List ByteArray×Int×List Int×Unit->Option R){l:List UInt8}{fl:List ByteArray}{i:Nat}{x:UInt8}(A:List Int)(hx:l[i]?=some x)(hb:l.length<10000)
  (hno:∀ d,x=38->l[i+1]?=some d->¬ (49<=d.toNat∧d.toNat - 48<=fl.length)):f808p2 1000 k0 k1 (S l,fl,(i:Int),A,())=k1 (S l,fl,(i:Int),A,()):=by
 have hi:i<l.length:=(List.getElem?_eq_some_iff.1 hx).1
 have hg:l.getD i 0=x:=getD_of hx
 unfold f808p2
 simp only[S_size,nn,ltn hi,Bool.and_self,cond_true,S_bt l i hi,hg,wi_succ (i:=i) (by omega)]
 by_cases c:x=38
 ·subst c
  by_cases h1:i+1<l.length
  ·have hd:l[i+1]?=some (l[i+1]'h1):=List.getElem?_eq_getElem h1
   have hgd:l.getD (i+1) 0=l[i+1]'h1:=getD_of hd
   have:=hno _ rfl hd
   have hr:=byte_rng (l[i+1]'h1)
   simp only[nn,ltn h1,Bool.and_self,cond_true,S_bt l (i+1) h1,hgd]
   by_cases h49:49<=(l[i+1]'h1).toNat
   ·rw[bif_true (by rfl),bif_true (by simp;omega),wu8 (x:=((l[i+1]'h1).toNat:Int) - 48) (by omega) (by omega),wi (by omega) (by omega),bif_false (by simp;omega)]
   ·rw[bif_true (by rfl),bif_false (by simp;omega)]
  ·rw[bif_true (by rfl),bif_false (by simp;omega)]
 ·rw[bif_false]
  rw[beq_eq_false_iff_ne]
  intro h
  apply c
  apply UInt8.toNat_inj.1
  have:x.toNat=38:=by omega
  rw[this];rfl
theorem f808p0m {R:Type}(k0:ByteArray×List ByteArray×Int×List Int×Unit->Option R)(k1:ByteArray×List ByteArray×Int×Unit->Option R){l:List UInt8}{fl:List ByteArray}{i:Nat}{d:UInt8}(hx:l[i]?=some 38)(hd:l[i+1]?=some d)(hb:l.length<10000)
  (h49:49<=d.toNat) (hn:d.toNat - 48<=fl.length) (hs:∀ s∈fl,s.size<=300):f808p0 1000 k0 k1 (S l,fl,(i:Int),())=k0 (S l,fl,((i+1:Nat):Int),[]++bytesOf (fl.getD (d.toNat - 49) ByteArray.empty),()):=by
 have hi:i<l.length:=(List.getElem?_eq_some_iff.1 hx).1
 have h1:i+1<l.length:=(List.getElem?_eq_some_iff.1 hd).1
 have hg:l.getD i 0=38:=getD_of hx
 have hgd:l.getD (i+1) 0=d:=getD_of hd
 have hr:=byte_rng d
 have hj:d.toNat - 49<fl.length:=by omega
 have hm:(fl.getD (d.toNat - 49) ByteArray.empty).size<=300:=by
  have e:=List.getElem?_eq_getElem hj
  rw[getD_of e]
  exact hs _ (List.mem_of_getElem? e)
 have hl:(bytesOf (fl.getD (d.toNat - 49) ByteArray.empty)).length=(fl.getD (d.toNat - 49) ByteArray.empty).size:=by unfold bytesOf;rw[List.length_map];rfl
 have e49:IntKind.u8.wrap ((d.toNat:Int) - 49)=((d.toNat - 49:Nat):Int):=by rw[wu8 (by omega) (by omega)];omega
 have e48:IntKind.i64.wrap (IntKind.u8.wrap ((d.toNat:Int) - 48))=((d.toNat - 48:Nat):Int):=by rw[wu8 (by omega) (by omega),wi (by omega) (by omega)];omega
 unfold f808p0
 simp only[S_size,nn,ltn hi,ltn h1,ltn hj,Bool.and_self,cond_true,S_bt l i hi,hg,wi_succ (i:=i) (by omega),S_bt l (i+1) h1,hgd,e49,e48,Int.toNat_natCast]
 rw[bif_true (by rfl),bif_true (by simp;omega),bif_true (by simp;omega)]
 unfold f825v0F
 simp only[hl]
 rw[bif_true (szN (by simp only[List.length_nil];omega) (by decide)),bind_some']
theorem f808p2m {R:Type}(k0 k1:ByteArray×List ByteArray×Int×List Int×Unit->Option R){l:List UInt8}{fl:List ByteArray}{i:Nat}{d:UInt8}{A:List Int}(hA:A.length<=1000000)(hx:l[i]?=some 38)(hd:l[i+1]?=some d)(hb:l.length<10000)
  (h49:49<=d.toNat) (hn:d.toNat - 48<=fl.length) (hs:∀ s∈fl,s.size<=300):f808p2 1000 k0 k1 (S l,fl,(i:Int),A,())=k0 (S l,fl,((i+1:Nat):Int),A++bytesOf (fl.getD (d.toNat - 49) ByteArray.empty),()):=by
 have hi:i<l.length:=(List.getElem?_eq_some_iff.1 hx).1
 have h1:i+1<l.length:=(List.getElem?_eq_some_iff.1 hd).1
 have hg:l.getD i 0=38:=getD_of hx
 have hgd:l.getD (i+1) 0=d:=getD_of hd
 have hr:=byte_rng d
 have hj:d.toNat - 49<fl.length:=by omega
 have hm:(fl.getD (d.toNat - 49) ByteArray.empty).size<=300:=by
  have e:=List.getElem?_eq_getElem hj
  rw[getD_of e]
  exact hs _ (List.mem_of_getElem? e)
 have hl:(bytesOf (fl.getD (d.toNat - 49) ByteArray.empty)).length=(fl.getD (d.toNat - 49) ByteArray.empty).size:=by unfold bytesOf;rw[List.length_map];rfl
 have e49:IntKind.u8.wrap ((d.toNat:Int) - 49)=((d.toNat - 49:Nat):Int):=by rw[wu8 (by omega) (by omega)];omega
 have e48:IntKind.i64.wrap (IntKind.u8.wrap ((d.toNat:Int) - 48))=((d.toNat - 48:Nat):Int):=by rw[wu8 (by omega) (by omega),wi (by omega) (by omega)];omega
 unfold f808p2
 simp only[S_size,nn,ltn hi,ltn h1,ltn hj,Bool.and_self,cond_true,S_bt l i hi,hg,wi_succ (i:=i) (by omega),S_bt l (i+1) h1,hgd,e49,e48,Int.toNat_natCast]
 rw[bif_true (by rfl),bif_true (by simp;omega),bif_true (by simp;omega)]
 unfold f825v1F
 simp only[hl]
 rw[bif_true (szN (by omega) (by decide)),bind_some']
theorem bytes_ints (s:ByteArray):bytesOf s=ints s.data.toList:=rfl
theorem f808l4m {R:Type}(rec:ByteArray×List ByteArray×Int×List Int×Unit->Option R)(k0:List Int×Unit->Option R){l:List UInt8}{fl:List ByteArray}{i:Nat}{d:UInt8}{A:List UInt8}(hA:A.length<=1000000)(hx:l[i]?=some 38)(hd:l[i+1]?=some d)(hb:l.length<10000)
  (h49:49<=d.toNat) (hn:d.toNat - 48<=fl.length) (hs:∀ s∈fl,s.size<=300):f808l4s 1000 rec k0 (S l,fl,(i:Int),ints A,())=rec (S l,fl,((i+1+1:Nat):Int),ints (A++(fl.getD (d.toNat - 49) ByteArray.empty).data.toList),()):=by
 have hi:i<l.length:=(List.getElem?_eq_some_iff.1 hx).1
 have h1:i+1<l.length:=(List.getElem?_eq_some_iff.1 hd).1
 unfold f808l4s f808p3
 simp only[S_size,ltn hi,cond_true]
 rw[f808p2m _ _ (by rw[ints_length];omega) hx hd hb h49 hn hs]
 simp only[wi_succ (i:=i+1) (by omega),bytes_ints,← ints_app]
theorem f808l4n {R:Type}(rec:ByteArray×List ByteArray×Int×List Int×Unit->Option R)(k0:List Int×Unit->Option R){l:List UInt8}{fl:List ByteArray}{i:Nat}{x:UInt8}{A:List UInt8}(hA:A.length<=1000000)(hx:l[i]?=some x)(hb:l.length<10000)
  (hno:∀ d,x=38->l[i+1]?=some d->¬ (49<=d.toNat∧d.toNat - 48<=fl.length)):f808l4s 1000 rec k0 (S l,fl,(i:Int),ints A,())=rec (S l,fl,((i+1:Nat):Int),ints (A++[x]),()):=by
 have hi:i<l.length:=(List.getElem?_eq_some_iff.1 hx).1
 have hg:l.getD i 0=x:=getD_of hx
 unfold f808l4s f808p3
 simp only[S_size,ltn hi,cond_true]
 rw[f808p2n _ _ _ hx hb hno]
 simp only[S_size,nn,ltn hi,Bool.and_self,cond_true,S_bt l i hi,hg]
 unfold f826v1F
 simp only[]
 rw[bif_true (by rw[ints_length];simp;omega),bind_some']
 have hc:ints A++[(x.toNat:Int)]=ints (A++[x]):=by rw[ints_app];rfl
 simp only[wi_succ (i:=i) (show i<9223372036854775807 by omega),hc]
theorem f808l4q {R:Type}(k0:List Int×Unit->Option R){l:List UInt8}{fl:List ByteArray}(hb:l.length<1000)(hs:∀ s∈fl,s.size<=300):∀ (n i K:Nat) (A:List UInt8),l.length - i<=n->l.length - i<K->A.length<=300*i->i<=l.length ->
  iterS (fun rec v=>f808l4s 1000 rec k0 v) K (S l,fl,(i:Int),ints A,())=k0 (ints (A++subL fl (l.drop i)),()):=by
 have fin:∀ (K:Nat) (A:List UInt8),0<K->iterS (fun rec v=>f808l4s 1000 rec k0 v) K (S l,fl,(l.length:Int),ints A,())=k0 (ints (A++subL fl (l.drop l.length)),()):=by
  intro K A hK
  obtain⟨K,rfl⟩:∃ q,K=q+1:=⟨K - 1,by omega⟩
  rw[iter_one]
  unfold f808l4s
  simp[S_size,subL]
 intro n
 induction n with
 | zero =>
  intro i K A hn hK hA hi
  obtain rfl:i=l.length:=by omega
  exact fin K A (by omega)
 | succ n ih =>
  intro i K A hn hK hA hi
  by_cases he:i=l.length
  ·subst he;exact fin K A (by omega)
  have hi:i<l.length:=by omega
  obtain⟨K,rfl⟩:∃ q,K=q+1:=⟨K - 1,by omega⟩
  rw[iter_one]
  rcases sub_cases fl l i hi with ⟨d,hx,hd,h49,hn2,e⟩ | ⟨x,hx,hno,e⟩
  ·have h1:i+1<l.length:=(List.getElem?_eq_some_iff.1 hd).1
   have hj:d.toNat - 49<fl.length:=by omega
   have hm:(fl.getD (d.toNat - 49) ByteArray.empty).data.toList.length<=300:=by
    have e:=List.getElem?_eq_getElem hj
    rw[getD_of e]
    exact hs _ (List.mem_of_getElem? e)
   rw[f808l4m _ _ (by omega) hx hd (by omega) h49 hn2 hs,e,ih (i+1+1) K _ (by omega) (by omega) (by rw[List.length_append];omega) (by omega),List.append_assoc]
  ·rw[f808l4n _ _ (by omega) hx (by omega) hno,e,ih (i+1) K _ (by omega) (by omega) (by simp;omega) (by omega),List.append_assoc]
   rfl
theorem ints_ok (l:List UInt8):(List.all (ints l) fun x=>decide (0<=x)&&decide (x<=255))=true:=by
 rw[List.all_eq_true]
 intro x hx
 unfold ints at hx
 obtain⟨b,_,rfl⟩:=List.mem_map.1 hx
 have:=byte_rng b
 simp;omega
theorem f808q {s:ByteArray}{fl:List ByteArray}(hb:s.size<1000)(hs:∀ s∈fl,s.size<=300):f808F 1000 (s,fl)=some (S (subL fl s.data.toList)):=by
 obtain⟨l,rfl⟩:∃ l,s=S l:=⟨_,(S_of s).symm⟩
 rw[S_size] at hb
 rw[S_list]
 unfold f808F f808p6 f808l5
 simp only[]
 rw[iterS_1000]
 unfold f808l5s f808p1
 cases hl:l with
 | nil=>rfl
 | cons x0 r =>
  have hi:0<l.length:=by rw[hl];simp
  rw[← hl]
  have h0:decide ((0:Int)<(l.length:Int))=true:=by simp;omega
  have i0:((0:Int))=((0:Nat):Int):=rfl
  simp only[S_size,h0,cond_true]
  have fin:∀ (B:List UInt8),(bif (List.all (ints B) fun x=>decide (0<=x)&&decide (x<=255)) then some (strOfNums (ints B)) else none)=some (S B):=fun B=>by
   rw[ints_ok,cond_true,S_back]
  rw[i0]
  rcases sub_cases fl l 0 hi with ⟨d,hx,hd,h49,hn2,e⟩ | ⟨x,hx,hno,e⟩
  ·have h1:0+1<l.length:=(List.getElem?_eq_some_iff.1 hd).1
   have hj:d.toNat - 49<fl.length:=by omega
   have hm:(fl.getD (d.toNat - 49) ByteArray.empty).data.toList.length<=300:=by
    have e:=List.getElem?_eq_getElem hj
    rw[getD_of e]
    exact hs _ (List.mem_of_getElem? e)
   rw[f808p0m _ _ hx hd (by omega) h49 hn2 hs]
   simp only[wi_succ (i:=0+1) (by omega),bytes_ints,List.nil_append]
   unfold f808l4
   rw[f808l4q _ hb hs l.length (0+1+1) 1000 _ (by omega) (by omega) (by omega) (by omega)]
   refine (fin _).trans ?_
   rw[← e]
   rfl
  ·have hg:l.getD 0 0=x:=getD_of hx
   rw[f808p0n _ _ hx (by omega) hno]
   simp only[S_size,nn,ltn hi,Bool.and_self,cond_true,S_bt l 0 hi,hg]
   unfold f826v0F
   simp only[]
   rw[bif_true (szN (by simp) (by decide)),bind_some']
   have hc:[]++[(x.toNat:Int)]=ints [x]:=rfl
   simp only[wi_succ (i:=0) (by omega),hc]
   unfold f808l4
   rw[f808l4q _ hb hs l.length (0+1) 1000 _ (by omega) (by omega) (by simp) (by omega)]
   refine (fin _).trans ?_
   rw[show [x]++subL fl (l.drop (0+1))=subL fl (l.drop 0) from e.symm]
   rfl
noncomputable def fls (l:List Typ)(data:ByteArray):List ByteArray:=(List.range l.length).map (fTx l data)
theorem fls_size {l:List Typ}{data:ByteArray}(hw:∀ t∈l,wrT t=false):∀ s∈fls l data,s.size<=300:=by
 intro s hs
 obtain⟨i,hi,rfl⟩:=List.mem_map.1 hs
 exact fTx_size hw (List.mem_range.1 hi)
noncomputable def subT (d:Dsc)(data s:ByteArray):ByteArray:=S (subL (fls d.2.2.2.2.1 data) s.data.toList)
theorem runD_right:∀ (l:List Dsc) (p:Option ByteArray) (i:Nat),(runD p i l).2=0->∀ d∈l,dscE d=0∧isId d.1=true
 | [],_,_,_,_,h=>by cases h
 | x::l,p,i,h,d,hd=>by
  unfold runD at h
  by_cases hz:dE p x≠0
  ·rw[if_pos hz] at h;exact absurd h hz
  ·rw[if_neg hz] at h
   rcases List.mem_cons.1 hd with e | hd
   ·subst e
    simp only[ne_eq,Decidable.not_not] at hz
    unfold dE at hz
    cases hI:isId d.1 with
    | false=>rw[hI] at hz;simp at hz
    | true =>
     rw[hI] at hz
     refine⟨?_,rfl⟩
     cases p with
     | none=>simpa using hz
     | some q =>
      cases hq:strLt q d.1 with
      | false=>simp[hq] at hz
      | true=>simpa [hq] using hz
   ·exact runD_right l _ _ h d hd
theorem file_right {l:List Dsc}(h:(filE l).2=0):∀ d∈l,dscE d=0∧isId d.1=true:=by
 unfold filE at h
 split at h
 ·cases h
 ·exact runD_right l _ _ h
theorem tys_right {l:List Typ}(h:tysE l=0):l.length<=9∧∀ t∈l,wrT t=false:=by
 unfold tysE at h
 split at h
 ·cases h
 ·split at h
  ·cases h
  ·rename_i h1 h2
   refine⟨by omega,fun t ht=>?_⟩
   cases hw:wrT t with
   | false=>rfl
   | true=>exact absurd (List.any_eq_true.2 ⟨t,ht,hw⟩) h2
structure RightD (d:Dsc):Prop where
 first:d.2.2.1.size<=200
 second:d.2.2.2.1.size<=200
 ne:d.2.2.1≠ByteArray.empty
 t1:isTx d.2.2.1=true
 t2:isTx d.2.2.2.1=true
 types:d.2.2.2.2.1.length<=9
 tys:∀ t∈d.2.2.2.2.1,wrT t=false
 dflt:txE d.2.2.2.2.2.1 32=0
 reps:rpsE d.2.2.2.2.2.2=0
theorem dsc_right {d:Dsc}(h:dscE d=0):RightD d:=by
 unfold dscE at h
 split at h
 ·cases h
 split at h
 ·cases h
 split at h
 ·cases h
 split at h
 ·cases h
 split at h
 ·rename_i hc;exact absurd h hc
 split at h
 ·rename_i hc;exact absurd h hc
 rename_i h1 h2 h3 h4 h5 h6
 obtain⟨g1,g2⟩:=tys_right (show tysE d.2.2.2.2.1=0 by simpa using h5)
 have h4:isTx d.2.2.1=true∧isTx d.2.2.2.1=true:=by simpa using h4
 refine⟨by omega,by omega,?_,h4.1,h4.2,g1,g2,by simpa using h6,h⟩
 intro e
 rw[e] at h2
 exact h2 (strEq_self _)
noncomputable def txs (d:Dsc)(data:ByteArray):ByteArray×ByteArray×Int :=
 if data.size > 512 then (ByteArray.empty,ByteArray.empty,2)
 else if (subT d data d.2.2.1).size > 256∨(subT d data d.2.2.2.1).size > 256 then (ByteArray.empty,ByteArray.empty,2)
 else (subT d data d.2.2.1,subT d data d.2.2.2.1,0)
theorem f779q {d:Dsc}{data:ByteArray}(h:RightD d)(hdt:data.size<=600):f779F 1000 ((d.1,(d.2.1,(d.2.2.1,(d.2.2.2.1,(d.2.2.2.2.1,(d.2.2.2.2.2.1,d.2.2.2.2.2.2)))))),data)=some (txs d data):=by
 obtain⟨g1,g2,g3,g4,g5,g6,g7,g8,g9⟩:=h
 unfold f779F txs
 simp only[]
 by_cases hc:data.size > 512
 ·rw[if_pos hc,bif_true (by rw[decide_eq_true_eq];omega)]
 ·rw[if_neg hc,bif_false (by rw[decide_eq_false_iff_not];omega),f807q (by omega) g7 hdt]
  have e1:f808F 1000 (d.2.2.1,(List.range d.2.2.2.2.1.length).map (fTx d.2.2.2.2.1 data))=some (subT d data d.2.2.1):=f808q (by omega) (fls_size g7)
  have e2:f808F 1000 (d.2.2.2.1,(List.range d.2.2.2.2.1.length).map (fTx d.2.2.2.2.1 data))=some (subT d data d.2.2.2.1):=f808q (by omega) (fls_size g7)
  simp only[bind_some',e1,e2]
  by_cases c1:(subT d data d.2.2.1).size > 256
  ·rw[if_pos (.inl c1),bif_true (by rw[decide_eq_true_eq];omega)]
  ·rw[bif_false (by rw[decide_eq_false_iff_not];omega)]
   by_cases c2:(subT d data d.2.2.2.1).size > 256
   ·rw[if_pos (.inr c2),bif_true (by rw[decide_eq_true_eq];omega)]
   ·rw[if_neg (by omega),bif_false (by rw[decide_eq_false_iff_not];omega)]
abbrev Row:=ByteArray×(Int×(Bool×(Int×Nat)))
abbrev Hep:=List (Kid Msg)
theorem kget_of {α:Type}{H:List (Kid α)}{id:Nat}{xs:List α}{c:Nat}(h:kidAt H id=.own xs c):kget H id=xs:=by unfold kget;rw[h]
theorem kroom_of {α:Type}{H:List (Kid α)}{id:Nat}{xs:List α}{c:Nat}(h:kidAt H id=.own xs c):kroom H id=c:=by unfold kroom;rw[h]
theorem kalive_of {α:Type}{H:List (Kid α)}{id:Nat}{xs:List α}{c:Nat}(h:kidAt H id=.own xs c):kalive H id=true:=by unfold kalive;rw[h]
theorem kcap_of {α:Type}{H:List (Kid α)}{id:Nat}{xs:List α}{c:Nat}(h:kidAt H id=.own xs c):kcap H id=max c xs.length:=by unfold kcap;rw[kroom_of h,kget_of h]
theorem kid_pos {α:Type}{H:List (Kid α)}{id:Nat}{xs:List α}{c:Nat}(h:kidAt H id=.own xs c):∃ j,id=j+1∧H[j]?=some (.own xs c):=by
 cases id with
 | zero=>cases h
 | succ j =>
  refine⟨j,rfl,?_⟩
  simp only[kidAt] at h
  cases hj:H[j]? with
  | none=>rw[hj] at h;cases h
  | some k=>rw[hj] at h;simp only at h;rw[h]
theorem kid_le {α:Type}{H:List (Kid α)}{id:Nat}{xs:List α}{c:Nat}(h:kidAt H id=.own xs c):0<id∧id<=H.length:=by
 obtain⟨j,rfl,hj⟩:=kid_pos h
 have:=(List.getElem?_eq_some_iff.1 hj).1
 omega
theorem kown_of {α:Type}{H:List (Kid α)}{id:Nat}{xs:List α}{c:Nat}(h:kidAt H id=.own xs c):kown H id=true:=by
 obtain⟨j,rfl,hj⟩:=kid_pos h
 unfold kown
 simp only[hj]
theorem kid_app {α:Type}(H L:List (Kid α)){id:Nat}(h:id<=H.length):kidAt (H++L) id=kidAt H id:=by
 cases id with
 | zero=>rfl
 | succ j =>
  simp only[kidAt]
  rw[List.getElem?_append_left (by omega)]
theorem kid_new {α:Type}(H:List (Kid α))(k:Kid α):kidAt (H++[k]) (H.length+1)=k:=by
 simp[kidAt]
theorem kid_set {α:Type}{H:List (Kid α)}{j:Nat}(k:Kid α)(h:j<H.length):kidAt (H.set j k) (j+1)=k:=by
 simp only[kidAt]
 rw[List.getElem?_set_self h]
theorem kid_set_ne {α:Type}(H:List (Kid α)){j id:Nat}(k:Kid α)(h:id≠j+1):kidAt (H.set j k) id=kidAt H id:=by
 cases id with
 | zero=>rfl
 | succ i =>
  simp only[kidAt]
  rw[List.getElem?_set_ne (by omega)]
theorem kkill_len {α:Type}(H:List (Kid α))(id:Nat):(kkill H id).length=H.length:=by
 cases id<;>simp[kkill]
theorem kapp_len {α:Type}(H:List (Kid α))(id n:Nat)(ys:List α):(kapp H id n ys).length=H.length+1:=by
 unfold kapp
 simp[kkill_len]
theorem kapp_new {α:Type}(H:List (Kid α))(id n:Nat)(ys:List α):kidAt (kapp H id n ys) (H.length+1)=.own ((kget H id).take n++ys) (max (kroom H id) (n+ys.length)):=by
 unfold kapp
 rw[← kkill_len H id,kid_new]
theorem kapp_old {α:Type}(H:List (Kid α)){id i:Nat}(n:Nat)(ys:List α)(h:i≠id)(hl:i<=H.length):kidAt (kapp H id n ys) i=kidAt H i:=by
 unfold kapp
 rw[kid_app _ _ (by rw[kkill_len];exact hl)]
 cases id with
 | zero=>rfl
 | succ j=>exact kid_set_ne _ _ h
theorem kset_at {α:Type}{H:List (Kid α)}{id:Nat}{xs:List α}{c:Nat}(h:kidAt H id=.own xs c)(k:Nat)(z:α):kidAt (kset H id k z) id=.own (xs.set k z) c:=by
 obtain⟨j,rfl,hj⟩:=kid_pos h
 unfold kset
 simp only[kget_of h,kroom_of h]
 exact kid_set _ (List.getElem?_eq_some_iff.1 hj).1
theorem kset_ne {α:Type}(H:List (Kid α)){id i:Nat}(h:i≠id)(k:Nat)(z:α):kidAt (kset H id k z) i=kidAt H i:=by
 cases id with
 | zero=>rfl
 | succ j=>exact kid_set_ne _ _ h
theorem kwrt_at {α:Type}{H:List (Kid α)}{id:Nat}{xs:List α}{c:Nat}(h:kidAt H id=.own xs c)(lo:Nat)(ys:List α):kidAt (kwrt H id lo ys) id=.own (wrt xs lo ys) c:=by
 obtain⟨j,rfl,hj⟩:=kid_pos h
 unfold kwrt
 simp only[kget_of h,kroom_of h]
 exact kid_set _ (List.getElem?_eq_some_iff.1 hj).1
theorem kwrt_ne {α:Type}(H:List (Kid α)){id i:Nat}(h:i≠id)(lo:Nat)(ys:List α):kidAt (kwrt H id lo ys) i=kidAt H i:=by
 cases id with
 | zero=>rfl
 | succ j=>exact kid_set_ne _ _ h
theorem kwrt_len {α:Type}(H:List (Kid α))(id lo:Nat)(ys:List α):(kwrt H id lo ys).length=H.length:=by
 cases id<;>simp[kwrt]
theorem wrt_end {α:Type}(xs ys:List α):wrt xs xs.length ys=xs:=by
 unfold wrt
 rw[List.take_length,List.take_left]
def kidOk (H:Hep)(id:Nat):Prop:=∃ xs c,kidAt H id=.own xs c∧xs.length<=c
structure Hp (H:Hep)(R:List Row):Prop where
 ok:∀ r∈R,kidOk H r.2.2.2.2
 nd:(R.map fun r=>r.2.2.2.2).Nodup
def qOf (H:Hep)(r:Row):Que:=(r.1,(r.2.1,(r.2.2.1,(r.2.2.2.1,kget H r.2.2.2.2))))
def qs (H:Hep)(R:List Row):List Que:=R.map (qOf H)
theorem qs_len (H:Hep)(R:List Row):(qs H R).length=R.length:=by simp[qs]
theorem qs_get {H:Hep}{R:List Row}{j:Nat}{r:Row}(h:R[j]?=some r):(qs H R)[j]?=some (qOf H r):=by
 unfold qs
 rw[List.getElem?_map,h];rfl
theorem qs_row {H:Hep}{R:List Row}{j:Nat}{q:Que}(h:(qs H R)[j]?=some q):∃ r,R[j]?=some r∧qOf H r=q:=by
 unfold qs at h
 rw[List.getElem?_map] at h
 cases hr:R[j]? with
 | none=>rw[hr] at h;cases h
 | some r=>rw[hr] at h;exact⟨r,rfl,by simpa using h⟩
theorem Hp.kid {H:Hep}{R:List Row}(h:Hp H R){j:Nat}{r:Row}(hr:R[j]?=some r):kidOk H r.2.2.2.2:=h.ok r (List.mem_of_getElem? hr)
theorem Hp.alive {H:Hep}{R:List Row}(h:Hp H R):(R.all fun q=>(true&&(true&&(true&&(true&&(kalive H q.2.2.2.2))))))=true:=by
 rw[List.all_eq_true]
 intro r hr
 obtain⟨xs,c,hk,_⟩:=h.ok r hr
 simp only[Bool.true_and]
 exact kalive_of hk
theorem Hp.frz {H:Hep}{R:List Row}(h:Hp H R):(R.all fun q=>(true&&(true&&(true&&(true&&(kro (List.map Kid.frz H) q.2.2.2.2))))))=true:=by
 rw[List.all_eq_true]
 intro r hr
 obtain⟨xs,c,hk,_⟩:=h.ok r hr
 simp only[Bool.true_and]
 rw[kro_frz]
 exact kalive_of hk
theorem qs_frz (H:Hep)(R:List Row):(R.map fun q=>(q.1,(q.2.1,(q.2.2.1,(q.2.2.2.1,(kget (List.map Kid.frz H) q.2.2.2.2))))))=qs H R:=by
 unfold qs qOf
 refine List.map_congr_left fun q _=>?_
 rw[kget_frz]
theorem qs_map (H:Hep)(R:List Row):(R.map fun q=>(q.1,(q.2.1,(q.2.2.1,(q.2.2.2.1,(kget H q.2.2.2.2))))))=qs H R:=rfl
theorem Hp.upd {H H':Hep}{R:List Row}(h:Hp H R){j:Nat}{r:Row}(hr:R[j]?=some r)(r':Row)(hk:kidOk H' r'.2.2.2.2)(hid:r'.2.2.2.2=r.2.2.2.2∨H.length<r'.2.2.2.2)
  (hold:∀ i,i≠r.2.2.2.2->i<=H.length->kidAt H' i=kidAt H i):Hp H' (R.set j r')∧qs H' (R.set j r')=(qs H R).set j (qOf H' r'):=by
 have hj:j<R.length:=(List.getElem?_eq_some_iff.1 hr).1
 have hrj:R[j]=r:=(List.getElem?_eq_some_iff.1 hr).2
 have nd:=h.nd
 have other:∀ i x,i≠j->R[i]?=some x->x.2.2.2.2≠r.2.2.2.2:=by
  intro i x hij hx e
  have hi:i<R.length:=(List.getElem?_eq_some_iff.1 hx).1
  have a:(R.map fun r=>r.2.2.2.2)[i]?=some x.2.2.2.2:=by rw[List.getElem?_map,hx];rfl
  have b:(R.map fun r=>r.2.2.2.2)[j]?=some r.2.2.2.2:=by rw[List.getElem?_map,hr];rfl
  rw[e] at a
  exact hij ((List.getElem?_inj (by simpa using hi) nd).1 (a.trans b.symm))
 have oldk:∀ i x,i≠j->R[i]?=some x->kidAt H' x.2.2.2.2=kidAt H x.2.2.2.2:=by
  intro i x hij hx
  obtain⟨xs,c,hk2,_⟩:=h.kid hx
  exact hold _ (other i x hij hx) (kid_le hk2).2
 refine⟨⟨fun x hx=>?_,?_⟩,?_⟩
 ·obtain⟨i,hi⟩:=List.mem_iff_getElem?.1 hx
  by_cases e:i=j
  ·subst e
   rw[List.getElem?_set_self hj] at hi
   injection hi with hi
   subst hi
   exact hk
  ·rw[List.getElem?_set_ne (fun c=>e c.symm)] at hi
   obtain⟨xs,c,hk2,hl⟩:=h.kid hi
   exact⟨xs,c,by rw[oldk i x e hi];exact hk2,hl⟩
 ·rw[List.map_set]
  unfold List.Nodup
  rw[List.pairwise_iff_getElem]
  intro a b ha hb hab
  simp only[List.length_set,List.length_map] at ha hb
  rw[List.getElem_set,List.getElem_set]
  have na:∀ i (hi:i<R.length),i≠j->R[i].2.2.2.2≠r'.2.2.2.2:=by
   intro i hi hij e
   have hx:R[i]?=some R[i]:=List.getElem?_eq_getElem hi
   rcases hid with e2 | e2
   ·exact other i _ hij hx (e.trans e2)
   ·obtain⟨xs,c,hk2,_⟩:=h.kid hx
    have:=(kid_le hk2).2
    omega
  by_cases c1:j=a
  ·rw[if_pos c1]
   rw[if_neg (by omega)]
   simp only[List.getElem_map]
   exact fun e=>na b hb (by omega) e.symm
  ·rw[if_neg c1]
   by_cases c2:j=b
   ·rw[if_pos c2]
    simp only[List.getElem_map]
    exact na a ha (by omega)
   ·rw[if_neg c2]
    have:=(List.pairwise_iff_getElem.1 nd) a b (by simpa using ha) (by simpa using hb) hab
    exact this
 ·apply List.ext_getElem?
  intro i
  by_cases e:i=j
  ·subst e
   rw[List.getElem?_set_self (by rw[qs_len];exact hj)]
   unfold qs
   rw[List.getElem?_map,List.getElem?_set_self hj];rfl
  ·rw[List.getElem?_set_ne (fun c=>e c.symm)]
   unfold qs
   rw[List.getElem?_map,List.getElem?_map,List.getElem?_set_ne (fun c=>e c.symm)]
   cases hx:R[i]? with
   | none=>rfl
   | some x =>
    simp only[Option.map_some]
    congr 1
    unfold qOf kget
    rw[oldk i x e hx]
theorem Hp.row {H:Hep}{R:List Row}(h:Hp H R){j:Nat}{r:Row}(hr:R[j]?=some r)(r':Row)(hid:r'.2.2.2.2=r.2.2.2.2):Hp H (R.set j r')∧qs H (R.set j r')=(qs H R).set j (qOf H r') :=
 h.upd hr r' (by rw[hid];exact h.kid hr) (.inl hid) (fun _ _ _=>rfl)
def ownK (Q:List Que):Hep:=Q.map fun q=>kidOf q.2.2.2.2
def rowQ (q:Que)(id:Nat):Row:=(q.1,(q.2.1,(q.2.2.1,(q.2.2.2.1,id))))
def ownR:List Que->Nat->List Row
 | [],_=>[]
 | q::l,n=>rowQ q (n+1)::ownR l (n+1)
theorem ownR_len:∀ (Q:List Que) (n:Nat),(ownR Q n).length=Q.length
 | [],_=>rfl
 | q::l,n=>by simp[ownR,ownR_len l (n+1)]
theorem ownR_get:∀ (Q:List Que) (n i:Nat),(ownR Q n)[i]?=(Q[i]?).map fun q=>rowQ q (n+i+1)
 | [],_,_=>by simp[ownR]
 | q::l,n,0=>by simp[ownR]
 | q::l,n,i+1=>by
  simp only[ownR,List.getElem?_cons_succ,ownR_get l (n+1) i]
  congr 1
  funext q
  rw[show n+1+i+1=n+(i+1)+1 by omega]
theorem ownK_get (Q:List Que)(i:Nat):(ownK Q)[i]?=(Q[i]?).map fun q=>kidOf q.2.2.2.2:=by
 unfold ownK;rw[List.getElem?_map]
theorem ownK_at {H:Hep}{Q:List Que}{i:Nat}{q:Que}(h:Q[i]?=some q):kidAt (H++ownK Q) (H.length+i+1)=.own q.2.2.2.2 q.2.2.2.2.length:=by
 simp only[kidAt]
 rw[List.getElem?_append_right (by omega),show H.length+i - H.length=i by omega,ownK_get,h];rfl
theorem own_hp (H:Hep)(Q:List Que):Hp (H++ownK Q) (ownR Q H.length)∧qs (H++ownK Q) (ownR Q H.length)=Q:=by
 have key:∀ i r,(ownR Q H.length)[i]?=some r->∃ q,Q[i]?=some q∧r=rowQ q (H.length+i+1):=by
  intro i r hr
  rw[ownR_get] at hr
  cases hq:Q[i]? with
  | none=>rw[hq] at hr;cases hr
  | some q=>rw[hq] at hr;exact⟨q,rfl,by simpa using hr.symm⟩
 refine⟨⟨fun r hr=>?_,?_⟩,?_⟩
 ·obtain⟨i,hi⟩:=List.mem_iff_getElem?.1 hr
  obtain⟨q,hq,rfl⟩:=key i r hi
  exact⟨_,_,ownK_at hq,Nat.le_refl _⟩
 ·unfold List.Nodup
  rw[List.pairwise_iff_getElem]
  intro a b ha hb hab
  simp only[List.length_map] at ha hb
  obtain⟨q,_,e1⟩:=key a _ (List.getElem?_eq_getElem ha)
  obtain⟨q',_,e2⟩:=key b _ (List.getElem?_eq_getElem hb)
  simp only[List.getElem_map,e1,e2,rowQ]
  omega
 ·apply List.ext_getElem?
  intro i
  unfold qs
  rw[List.getElem?_map,ownR_get]
  cases hq:Q[i]? with
  | none=>rfl
  | some q =>
   simp only[Option.map_some,qOf,rowQ,kget_of (ownK_at (H:=H) hq)]
@[reducible] def MsgT:Ty:=.pair (.int .i64) (.pair (.int .i64) (.pair .str (.pair .str (.pair .str (.pair .bool (.pair .bool (.int .i64)))))))
@[reducible] def RowT:Ty:=.pair .str (.pair (.int .i64) (.pair .bool (.pair (.int .i64) (.ref MsgT))))
def roK (Q:List Que):Hep:=Q.map fun q=>.ro q.2.2.2.2
theorem deepQ:∀ (Q:List Que) (n:Nat),deepL MsgT RowT Q n=(ownR Q n,roK Q)
 | [],_=>rfl
 | q::l,n=>by
  have h:deepL MsgT RowT (q::l) n=(rowQ q (n+1)::(deepL MsgT RowT l (n+1)).1,.ro q.2.2.2.2::(deepL MsgT RowT l (n+1)).2):=rfl
  have e:=deepQ l (n+1)
  exact h.trans (congr (congrArg Prod.mk (congrArg (List.cons _) (congrArg Prod.fst e))) (congrArg (List.cons _) (congrArg Prod.snd e)))
theorem f798q {Q:List Que}(hl:Q.length<=1000):f798F 1000 Q=some Q:=by
 unfold f798F cloneF
 rw[bif_true (szN (by omega) (by decide))]
theorem f799q {l:List Msg}(hl:l.length<=1000):f799F 1000 l=some l:=by
 unfold f799F cloneF
 rw[bif_true (szN (by omega) (by decide))]
theorem f754v0q {F:List Dsc}{Q:List Que}(hl:Q.length<=100)(hm:∀ q∈Q,q.2.2.2.2.length<=100):f754v0F 1000 (F,Q,[],())=some (F,roK Q++ownK Q,ownR Q Q.length,()):=by
 have hro:(roK Q).length=Q.length:=by simp[roK]
 unfold f754v0F
 simp only[f798q (show Q.length<=1000 by omega),bind_some']
 have hD:∀ n,deepL MsgT RowT Q n=(ownR Q n,roK Q):=deepQ Q
 simp only[hD,List.length_nil,List.nil_append,ownR_len]
 have rows:∀ i,i<=Q.length->(ownR (Q.take i) Q.length++(ownR Q 0).drop i).length=Q.length:=by
  intro i hi
  rw[List.length_append,ownR_len,List.length_drop,ownR_len,List.length_take];omega
 have snoc:∀ (l:List Que) (n:Nat) (q:Que),ownR (l++[q]) n=ownR l n++[rowQ q (n+l.length+1)]:=by
  intro l
  induction l with
  | nil=>intro n q;simp[ownR]
  | cons x l ih =>
   intro n q
   simp only[List.cons_append,ownR,ih,List.length_cons]
   rw[show n+1+l.length+1=n+(l.length+1)+1 by omega]
 unfold f754v0l0
 have key:=iter_for (k:=1000) (R:=List Dsc×Hep×List Row×Unit) (Step:=fun rec v=>f754v0l0s 1000 rec (fun w5:Hep×List Dsc×List Row×List Dsc×List Row×Unit=>some (w5.2.1,w5.1,w5.2.2.1,())) v) (fun i=>((Q.length:Int),(i:Int),roK Q++ownK (Q.take i),F,ownR (Q.take i) Q.length++(ownR Q 0).drop i,[],[],())) Q.length (fin:=some (F,roK Q++ownK Q,ownR Q Q.length,())) ?_ ?_ (by omega)
 ·have e0:roK Q++ownK (Q.take 0)=roK Q:=by simp[ownK]
  have e1:ownR (Q.take 0) Q.length++(ownR Q 0).drop 0=ownR Q 0:=by simp[ownR]
  simp only[e0,e1] at key
  exact key
 ·intro rec i hi
  have hx:Q[i]?=some (Q[i]'hi):=List.getElem?_eq_getElem hi
  generalize Q[i]'hi=x at hx
  have hm1:=hm x (List.mem_of_getElem? hx)
  have hr0:(ownR Q 0)[i]?=some (rowQ x (i+1)):=by rw[ownR_get,hx];simp
  have hi0:i<(ownR Q 0).length:=by rw[ownR_len];exact hi
  have hdr:(ownR Q 0).drop i=rowQ x (i+1)::(ownR Q 0).drop (i+1):=by
   rw[List.drop_eq_getElem_cons hi0,(List.getElem?_eq_some_iff.1 hr0).2]
  have tl:(ownR (Q.take i) Q.length).length=i:=by rw[ownR_len,List.length_take];omega
  have hget:(ownR (Q.take i) Q.length++(ownR Q 0).drop i)[i]?=some (rowQ x (i+1)):=by
   rw[List.getElem?_append_right (by omega),tl,Nat.sub_self,hdr];rfl
  have hk:kidAt (roK Q++ownK (Q.take i)) (i+1)=.ro x.2.2.2.2:=by
   simp only[kidAt]
   rw[List.getElem?_append_left (by omega)]
   unfold roK
   rw[List.getElem?_map,hx];rfl
  have hal:kalive (roK Q++ownK (Q.take i)) (i+1)=true:=by unfold kalive;rw[hk]
  have hkg:kget (roK Q++ownK (Q.take i)) (i+1)=x.2.2.2.2:=by unfold kget;rw[hk]
  have hlen:(roK Q++ownK (Q.take i)).length=Q.length+i:=by
   rw[List.length_append,hro];simp[ownK];omega
  have htk:Q.take (i+1)=Q.take i++[x]:=by rw[List.take_add_one,hx];rfl
  unfold f754v0l0s
  simp only[ltn hi,nn,cond_true,rows i (by omega),Int.toNat_natCast,getD_of hget,rowQ,hal,hkg,Bool.and_self,f799q (l:=x.2.2.2.2) (by omega),bind_some',hlen,wi_succ (i:=i) (by omega)]
  congr 1
  rw[htk]
  have e1:ownK (Q.take i++[x])=ownK (Q.take i)++[kidOf x.2.2.2.2]:=by simp[ownK]
  have e2:(ownR (Q.take i) Q.length++(ownR Q 0).drop i).set i (x.1,(x.2.1,(x.2.2.1,(x.2.2.2.1,Q.length+i+1))))=ownR (Q.take i++[x]) Q.length++(ownR Q 0).drop (i+1):=by
   rw[List.set_append_right _ _ (by omega),tl,Nat.sub_self,hdr,List.set_cons_zero,snoc,List.length_take,show min i Q.length=i by omega]
   simp[rowQ]
  rw[e1,e2,List.append_assoc]
 ·intro rec
  unfold f754v0l0s
  rw[bif_false (by simp)]
  rw[List.take_length,List.drop_of_length_le (by rw[ownR_len];omega),List.append_nil]
theorem own_prog (Q:List Que):Hp (roK Q++ownK Q) (ownR Q Q.length)∧qs (roK Q++ownK Q) (ownR Q Q.length)=Q:=by
 have h:=own_hp (roK Q) Q
 have e:(roK Q).length=Q.length:=by simp[roK]
 rw[e] at h
 exact h
abbrev Bdy:=Int×(ByteArray×(ByteArray×(ByteArray×(Bool×(Bool×Int)))))
def dropI (l:List Msg)(i:Nat):List Msg:=l.take i++l.drop (i+1)
theorem dropI_len {l:List Msg}{i:Nat}(h:i<l.length):(dropI l i).length=l.length - 1:=by
 unfold dropI
 rw[List.length_append,List.length_take,List.length_drop];omega
def shut (m:Msg):Bool:=!opn m
def putQ (q:Que)(m:Bdy):Int×Que :=
 if q.2.2.2.1=1000000 then (3,q)
 else if (q.2.2.2.2.length:Int)=q.2.1 then
  if q.2.2.1=false∨ix shut q.2.2.2.2<0 then (30,q)
  else (0,(q.1,(q.2.1,(q.2.2.1,(q.2.2.2.1+1,dropI q.2.2.2.2 (ix shut q.2.2.2.2).toNat++[(q.2.2.2.1,m)])))))
 else (0,(q.1,(q.2.1,(q.2.2.1,(q.2.2.2.1+1,q.2.2.2.2++[(q.2.2.2.1,m)])))))
structure Fit (q:Que):Prop where
 lim:q.2.1<=12
 len:(q.2.2.2.2.length:Int)<=q.2.1
 n1:1<=q.2.2.2.1
 n2:q.2.2.2.1<=1000000
theorem f802v0q {H:Hep}{id:Nat}{xs:List Msg}{c:Nat}(hk:kidAt H id=.own xs c)(hc:xs.length<=c)(hl:xs.length<=1000){i:Nat}(hi:i<xs.length) :
  ∃ H',f802v0F 1000 (id,(i:Int),((i+1:Nat):Int),H,())=some (H.length+1,H',())∧(∃ c',kidAt H' (H.length+1)=.own (dropI xs i) c'∧(dropI xs i).length<=c')∧(∀ j,j≠id->j<=H.length->kidAt H' j=kidAt H j)∧H'.length=H.length+1:=by
 have hcap:(xs.length:Int)<=((max c xs.length:Nat):Int):=by omega
 have hk1:=kapp_new H id i (xs.drop (i+1))
 rw[kget_of hk,kroom_of hk] at hk1
 have hd:=dropI_len hi
 have hk1:kidAt (kapp H id i (xs.drop (i+1))) (H.length+1)=.own (dropI xs i) (max c (i+(xs.drop (i+1)).length)):=hk1
 have hdl:(xs.drop (i+1)).length=xs.length - (i+1):=by simp
 generalize hC:max c (i+(xs.drop (i+1)).length)=c1 at hk1
 have hc1:(dropI xs i).length<=c1:=by omega
 have hc2:xs.length<=c1:=by omega
 have hk2:=kwrt_at hk1 (dropI xs i).length (List.replicate (xs.length - (dropI xs i).length) (0,(0,(ByteArray.empty,(ByteArray.empty,(ByteArray.empty,(false,(false,0))))))))
 rw[wrt_end] at hk2
 have sub:Int.toNat ((xs.length:Int) - ((dropI xs i).length:Int))=xs.length - (dropI xs i).length:=by omega
 refine⟨kwrt (kapp H id i (xs.drop (i+1))) (H.length+1) (dropI xs i).length (List.replicate (xs.length - (dropI xs i).length) (0,(0,(ByteArray.empty,(ByteArray.empty,(ByteArray.empty,(false,(false,0)))))))),?_,⟨_,hk2,hc1⟩,?_,?_⟩
 ·unfold f802v0F
  simp only[kalive_of hk,kget_of hk,kown_of hk,kcap_of hk,Bool.true_and,cond_true,Int.toNat_natCast,List.take_length,kalive_of hk1,kget_of hk1,kown_of hk1,kcap_of hk1,sub]
  rw[bif_true (by simp;omega),bif_false (by simp;omega),bif_true (sliceB0 (by omega)),bif_true (sliceB (by omega) (by omega)),bif_true (by simp;omega),bif_true (sliceB (by omega) (by omega))]
 ·intro j hj hjl
  rw[kwrt_ne _ (by omega),kapp_old _ _ _ hj hjl]
 ·rw[kwrt_len,kapp_len]
theorem f801q (m:Msg):f801F 1000 (m.1,(m.2.1,(m.2.2.1,(m.2.2.2.1,(m.2.2.2.2.1,(m.2.2.2.2.2.1,(m.2.2.2.2.2.2.1,m.2.2.2.2.2.2.2)))))))=some (shut m):=by
 unfold f801F shut
 simp only[f784q,bind_some']
theorem f800v2q {H:Hep}{id:Nat}{xs:List Msg}{c:Nat}(hk:kidAt H id=.own xs c)(hl:xs.length<1000):f800v2F 1000 (id,H,())=some (ix shut xs,H,()):=by
 unfold f800v2F f800v2l0
 simp only[kalive_of hk,kget_of hk,cond_true]
 refine iter_find xs shut (fun i=>(id,(xs.length:Int),(i:Int),H,())) (fun i=>some (i,H,())) ?_ ?_ hl
 ·intro rec
  unfold f800v2l0s
  simp
 ·intro rec i x hx hi
  unfold f800v2l0s
  simp only[ltn hi,nn,Bool.and_self,cond_true,Int.toNat_natCast,kalive_of hk,kget_of hk,getD_of hx,f801q,bind_some',wi_succ (i:=i) (by omega)]
theorem getD_set {α:Type}{l:List α}{j:Nat}(h:j<l.length)(x d:α):(l.set j x).getD j d=x:=by
 rw[List.getD_eq_getElem?_getD,List.getElem?_set_self h];rfl
theorem f755v0q {F:List Dsc}{H:Hep}{R:List Row}(h:Hp H R){nm:ByteArray}{j:Nat}{r:Row}(hj:ix (isQ nm) (qs H R)=(j:Int))(hr:R[j]?=some r)(hl:R.length<=100)(hf:Fit (qOf H r))(k0:Int)(m:Bdy) :
  ∃ H' R',f755v0F 1000 (F,nm,k0,m.1,m.2.1,m.2.2.1,m.2.2.2.1,m.2.2.2.2.1,m.2.2.2.2.2.1,m.2.2.2.2.2.2,R,H,())=some (if (putQ (qOf H r) m).1=0 then r.2.2.2.1 else 0,(putQ (qOf H r) m).1,R',H',()) ∧
   ((putQ (qOf H r) m).1=0->Hp H' R'∧qs H' R'=(qs H R).set j (putQ (qOf H r) m).2):=by
 have hjl:j<R.length:=(List.getElem?_eq_some_iff.1 hr).1
 obtain⟨xs,c,hk,hc⟩:=h.kid hr
 obtain⟨nm0,lim,wr0,nx,id⟩:=r
 obtain⟨f1,f2,f3,f4⟩:=hf
 simp only[qOf,kget_of hk] at f1 f2 f3 f4 hk ⊢
 have hxs:xs.length<=12:=by omega
 have hw:IntKind.i64.wrap (nx+1)=nx+1:=wi (by omega) (by omega)
 unfold f755v0F
 simp only[h.alive,Bool.and_self,cond_true,qs_map,f752q F (qs H R) nm (by rw[qs_len];omega),hj,bind_some',nn,ltn hjl,Int.toNat_natCast,getD_of hr,kalive_of hk,kget_of hk]
 unfold putQ
 simp only[]
 by_cases h3:nx=1000000
 ·rw[if_pos h3,bif_true (by simpa using h3)]
  exact⟨H,R,rfl,fun e=>by cases e⟩
 rw[if_neg h3,bif_false (by simpa using h3)]
 by_cases hfull:(xs.length:Int)=lim
 ·rw[if_pos hfull,bif_true (by simpa using hfull)]
  simp only[f800v2q hk (by omega),bind_some']
  cases wr0 with
  | false=>exact⟨H,R,rfl,fun e=>by cases e⟩
  | true =>
   simp only[Bool.not_true,cond_false,Bool.true_eq_false,false_or]
   rcases ix_spec shut xs with ⟨e,_⟩ | ⟨i,x,e,hx,hp,_⟩
   ·rw[e]
    exact⟨H,R,rfl,fun e=>by cases e⟩
   ·have hi:i<xs.length:=(List.getElem?_eq_some_iff.1 hx).1
    rw[e]
    obtain⟨H1,e1,⟨c1,hk1,hc1⟩,hold1,hlen1⟩:=f802v0q hk hc (by omega) hi
    rw[if_neg (show ¬ ((i:Int)<0) by omega),bif_false (show decide ((i:Int)<0)=false by simp)]
    simp only[wi_succ (i:=i) (by omega),e1,bind_some',getD_set hjl,List.set_set,List.length_set,hw,kown_of hk1,kget_of hk1,Bool.true_and,Int.toNat_natCast]
    have hd:=dropI_len hi
    rw[bif_true (szN (by simp;omega) (by decide))]
    have hk2:=kapp_new H1 (H.length+1) (dropI xs i).length [(nx,m)]
    rw[kget_of hk1,kroom_of hk1,List.take_length] at hk2
    refine⟨_,_,rfl,fun _=>?_⟩
    have U:=h.upd (H':=kapp H1 (H.length+1) (dropI xs i).length [(nx,m)]) hr (nm0,(lim,(true,(nx+1,H1.length+1)))) ⟨_,_,hk2,by simp;omega⟩ (.inr (by simp only;omega)) (fun a ha hal=>by
     rw[kapp_old _ _ _ (by omega) (by omega)]
     exact hold1 a ha hal)
    refine⟨U.1,U.2.trans ?_⟩
    simp only[qOf,kget_of hk2]
 ·rw[if_neg hfull,bif_false (by simpa using hfull)]
  simp only[getD_set hjl,List.set_set,List.length_set,hw,kown_of hk,kget_of hk,Bool.true_and]
  rw[bif_true (szN (by simp;omega) (by decide))]
  have hk2:=kapp_new H id xs.length [(nx,m)]
  rw[kget_of hk,kroom_of hk,List.take_length] at hk2
  refine⟨_,_,rfl,fun _=>?_⟩
  have U:=h.upd (H':=kapp H id xs.length [(nx,m)]) hr (nm0,(lim,(wr0,(nx+1,H.length+1)))) ⟨_,_,hk2,by simp;omega⟩ (.inr (by simp only;omega)) (fun a ha hal=>kapp_old _ _ _ ha hal)
  refine⟨U.1,U.2.trans ?_⟩
  simp only[qOf,kget_of hk2]
def txL (l:List UInt8):Bool:=(ints l).all shc
theorem isTx_S (l:List UInt8):isTx (S l)=txL l:=by unfold isTx txL;rw[S_bytes]
theorem txL_of (s:ByteArray):txL s.data.toList=isTx s:=rfl
theorem txL_app (l m:List UInt8):txL (l++m)=(txL l&&txL m):=by unfold txL;rw[ints_app,List.all_append]
theorem txL_cons (x:UInt8)(l:List UInt8):txL (x::l)=(shc (x.toNat:Int)&&txL l):=rfl
theorem sub_tx {fl:List ByteArray}(hs:∀ s∈fl,isTx s=true):∀ (n:Nat) (l:List UInt8),l.length<=n->txL l=true->txL (subL fl l)=true
 | 0,[],_,_=>rfl
 | 0,_::_,h,_=>by simp at h
 | n+1,[],_,_=>rfl
 | n+1,[c],_,h=>h
 | n+1,c::d::r,hn,h=>by
  have hr:r.length+1<=n:=by simpa using hn
  rw[subL]
  rw[txL_cons,Bool.and_eq_true] at h
  have h2:=h.2
  rw[txL_cons,Bool.and_eq_true] at h2
  split
  ·rename_i hc
   rw[txL_app,Bool.and_eq_true]
   refine⟨?_,sub_tx hs n r (by omega) h2.2⟩
   have hj:d.toNat - 49<fl.length:=by omega
   have e:=List.getElem?_eq_getElem hj
   rw[getD_of e,txL_of]
   exact hs _ (List.mem_of_getElem? e)
  ·rw[txL_cons,Bool.and_eq_true]
   exact⟨h.1,sub_tx hs n (d::r) (by simpa using hr) h.2⟩
theorem isTx_app' (a b:ByteArray):isTx (a++b)=(isTx a&&isTx b):=by
 have e:(a++b).data.toList=a.data.toList++b.data.toList:=by simp
 rw[← txL_of,e,txL_app];rfl
theorem txL_mem {l m:List UInt8}(h:txL l=true)(hs:∀ x∈m,x∈l):txL m=true:=by
 unfold txL ints at *
 rw[List.all_eq_true] at *
 intro x hx
 obtain⟨b,hb,rfl⟩:=List.mem_map.1 hx
 exact h _ (List.mem_map.2 ⟨b,hs b hb,rfl⟩)
theorem isTx_cut {s:ByteArray}(h:isTx s=true)(i j:Nat):isTx (s.extract i j)=true:=by
 rw[← txL_of] at h ⊢
 rw[Lib.extract_data]
 exact txL_mem h (fun x hx=>List.mem_of_mem_drop (List.mem_of_mem_take hx))
theorem nums_tx {xs:List Int}(h:∀ x∈xs,32<=x∧x<=126):isTx (strOfNums xs)=true:=by
 rw[S_nums,isTx_S]
 unfold txL ints
 rw[List.all_eq_true]
 intro y hy
 obtain⟨b,hb,rfl⟩:=List.mem_map.1 hy
 obtain⟨x,hx,rfl⟩:=List.mem_map.1 hb
 obtain⟨h1,h2⟩:=h x hx
 have e:(UInt8.ofNat x.toNat).toNat=x.toNat:=by rw[UInt8.toNat_ofNat'];omega
 rw[e]
 unfold shc
 rw[decide_eq_true (by omega),decide_eq_true (by omega)];rfl
theorem dec_tx:∀ (n u:Nat),u<=n->txL (Lib.decDigits u)=true:=by
 intro n
 induction n with
 | zero =>
  intro u hu
  obtain rfl:u=0:=by omega
  rw[Lib.decDigits,dif_pos (by omega)];rfl
 | succ n ih =>
  intro u hu
  have one:∀ d:Nat,d<10->txL [UInt8.ofNat (48+d)]=true:=by
   intro d hd
   rw[txL_cons]
   have e:(UInt8.ofNat (48+d)).toNat=48+d:=by rw[UInt8.toNat_ofNat'];omega
   rw[e]
   unfold shc
   rw[decide_eq_true (by omega),decide_eq_true (by omega)];rfl
  by_cases h:u<10
  ·rw[Lib.decDigits,dif_pos h];exact one u h
  ·rw[Lib.decDigits,dif_neg h,txL_app,ih (u / 10) (by omega),one (u % 10) (by omega)];rfl
theorem txt_tx (n:Int)(sc:Nat):isTx (txtS n sc)=true:=by
 have hd:isTx (decS n.natAbs)=true:=by
  rw[← txL_of,decS_list];exact dec_tx _ _ (Nat.le_refl _)
 have hp:isTx (padS (decS n.natAbs) sc)=true:=by
  unfold padS
  rw[isTx_app',hd,Bool.and_true]
  unfold copies
  refine nums_tx fun x hx=>?_
  rw[(List.mem_replicate.1 hx).2];decide
 have ht:isTx (ptS (padS (decS n.natAbs) sc) sc)=true:=by
  unfold ptS
  split
  ·rw[isTx_app',isTx_app',isTx_cut hp,isTx_cut hp];rfl
  ·exact hp
 unfold txtS
 split
 ·rw[isTx_app',ht];rfl
 ·exact ht
theorem fT_tx (t:Typ)(s:ByteArray):isTx (fT t s)=true:=by
 unfold fT
 split
 ·unfold chrT
  refine nums_tx fun x hx=>?_
  obtain⟨c,_,rfl⟩:=List.mem_map.1 hx
  unfold cl
  split<;>omega
 ·split
  ·rfl
  ·exact txt_tx _ _
theorem fls_tx (l:List Typ)(data:ByteArray):∀ s∈fls l data,isTx s=true:=by
 intro s hs
 obtain⟨i,_,rfl⟩:=List.mem_map.1 hs
 unfold fTx
 split
 ·rfl
 ·exact fT_tx _ _
theorem subT_tx {d:Dsc}{data s:ByteArray}(h:isTx s=true):isTx (subT d data s)=true:=by
 unfold subT
 rw[isTx_S]
 exact sub_tx (fls_tx _ _) _ _ (Nat.le_refl _) (by rw[txL_of];exact h)
theorem runQ_right:∀ (Q:List Que) (l:List Que) (p:Option ByteArray) (i:Nat),(runQ Q p i l).2=0->∀ q∈l,queE Q q=0∧isNm q.1=true
 | _,[],_,_,_,_,h=>by cases h
 | Q,x::l,p,i,h,d,hd=>by
  unfold runQ at h
  by_cases hz:qE Q p x≠0
  ·rw[if_pos hz] at h;exact absurd h hz
  ·rw[if_neg hz] at h
   rcases List.mem_cons.1 hd with e | hd
   ·subst e
    simp only[ne_eq,Decidable.not_not] at hz
    unfold qE at hz
    cases hI:isNm d.1 with
    | false=>rw[hI] at hz;simp at hz
    | true =>
     rw[hI] at hz
     refine⟨?_,rfl⟩
     cases p with
     | none=>simpa using hz
     | some q =>
      cases hq:strLt q d.1 with
      | false=>simp[hq] at hz
      | true=>simpa [hq] using hz
   ·exact runQ_right Q l _ _ h d hd
structure RightQ (Q:List Que)(q:Que):Prop where
 nm:isNm q.1=true
 l0:1<=q.2.1
 l1:q.2.1<=12
 n1:1<=q.2.2.2.1
 n2:q.2.2.2.1<=1000000
 len:(q.2.2.2.2.length:Int)<=q.2.1
 msgs:runM Q q.2.2.2.1 0 q.2.2.2.2=0
theorem RightQ.fit {Q:List Que}{q:Que}(h:RightQ Q q):Fit q:=⟨h.l1,h.len,h.n1,h.n2⟩
theorem que_right {Q:List Que}{q:Que}(hn:isNm q.1=true)(h:queE Q q=0):RightQ Q q:=by
 unfold queE at h
 split at h
 ·cases h
 ·rename_i h1
  split at h
  ·cases h
  ·rename_i h2
   simp only[Bool.or_eq_true,Bool.not_eq_true',Bool.and_eq_false_iff,decide_eq_false_iff_not,not_or,Decidable.not_not] at h1
   exact⟨hn,h1.1.1,h1.1.2,h1.2.1,h1.2.2,by omega,h⟩
structure RightS (s:Sys):Prop where
 file:FewF s.1
 fe:(filE s.1).2=0
 len:s.2.length<=6
 each:∀ q∈s.2,RightQ s.2 q
theorem sys_right {s:Sys}(hF:FewF s.1)(h:(sysE s).2=0):RightS s:=by
 unfold sysE at h
 split at h
 ·rename_i h1;exact absurd h h1
 ·rename_i h1
  split at h
  ·cases h
  ·rename_i h2
   exact⟨hF,by simpa using h1,by omega,fun q hq=>(runQ_right _ _ _ _ h q hq).elim fun a b=>que_right b a⟩
theorem RightS.msgs {s:Sys}(h:RightS s):∀ q∈s.2,q.2.2.2.2.length<=100:=by
 intro q hq
 have:=(h.each q hq).len
 have:=(h.each q hq).l1
 omega
theorem runM_text:∀ (Q:List Que) (nx:Int) (l:List Msg) (last:Int),runM Q nx last l=0->∀ m∈l,msgE Q m=0
 | _,_,[],_,_,_,h=>by cases h
 | Q,nx,x::l,last,h,m,hm=>by
  unfold runM at h
  split at h
  ·cases h
  ·split at h
   ·rename_i h1;exact absurd h h1
   ·rename_i h1
    rcases List.mem_cons.1 hm with e | hm
    ·subst e;simpa using h1
    ·exact runM_text Q nx l _ h m hm
theorem msg_text {Q:List Que}{m:Msg}(h:msgE Q m=0):m.2.2.2.1.size<=256∧isTx m.2.2.2.1=true∧m.2.2.2.1≠ByteArray.empty:=by
 unfold msgE at h
 split at h
 ·cases h
 split at h
 ·cases h
 split at h
 ·cases h
 split at h
 ·rename_i hc;exact absurd h hc
 rename_i h3 h4
 simp only[ne_eq,Decidable.not_not] at h4
 unfold txE at h4
 split at h4
 ·cases h4
 ·split at h4
  ·rename_i h5 h6
   refine⟨by omega,h6,fun e=>?_⟩
   rw[e] at h3
   exact h3 (strEq_self _)
  ·cases h4
abbrev Snd:=ByteArray×(ByteArray×(ByteArray×(ByteArray×(ByteArray×Bool))))
def dD:Dsc:=(ByteArray.empty,(0,(ByteArray.empty,(ByteArray.empty,([],(ByteArray.empty,[]))))))
def dQ:Que:=(ByteArray.empty,(0,(false,(0,[]))))
noncomputable def textE (s:Sys)(x:Snd):ByteArray×Int :=
 if (strEq x.2.2.1 ByteArray.empty&&strEq x.2.2.2.2.1 ByteArray.empty)=true then (ByteArray.empty,1)
 else if ((!strEq x.2.2.1 ByteArray.empty&&!strEq x.2.2.2.2.1 ByteArray.empty)||(strEq x.2.2.1 ByteArray.empty&&!strEq x.2.2.2.1 ByteArray.empty))=true then (ByteArray.empty,5)
 else if strEq x.2.2.1 ByteArray.empty=true then (x.2.2.2.2.1,txE x.2.2.2.2.1 256)
 else if ix (isD x.2.2.1) s.1<0 then (ByteArray.empty,11)
 else ((txs (s.1.getD (ix (isD x.2.2.1) s.1).toNat dD) x.2.2.2.1).1,if (txs (s.1.getD (ix (isD x.2.2.1) s.1).toNat dD) x.2.2.2.1).2.2≠0 then (txs (s.1.getD (ix (isD x.2.2.1) s.1).toNat dD) x.2.2.2.1).2.2 else if strEq (txs (s.1.getD (ix (isD x.2.2.1) s.1).toNat dD) x.2.2.2.1).1 ByteArray.empty=true then 1 else 0)
theorem desc_get {s:Sys}(h:RightS s){id:ByteArray}(hi:¬ ix (isD id) s.1<0):∃ (j:Nat) (d:Dsc),ix (isD id) s.1=(j:Int)∧s.1[j]?=some d∧j<s.1.length∧RightD d∧FewD d∧(filE [d]).2=0:=by
 rcases ix_spec (isD id) s.1 with ⟨e,_⟩ | ⟨j,d,e,hd,_,_⟩
 ·omega
 ·have hm:=List.mem_of_getElem? hd
  have hr:=file_right h.fe d hm
  refine⟨j,d,e,hd,(List.getElem?_eq_some_iff.1 hd).1,dsc_right hr.1,h.file.each d hm,?_⟩
  unfold filE runD runD dE
  simp[hr.1,hr.2]
theorem f753q {s:Sys}(h:RightS s){x:Snd}(h1:x.2.2.2.1.size<=600)(h2:x.2.2.2.2.1.size<1000):f753F 1000 ((s.1,s.2),(x.1,(x.2.1,(x.2.2.1,(x.2.2.2.1,(x.2.2.2.2.1,x.2.2.2.2.2))))))=some (textE s x):=by
 have hl:=h.file.len
 obtain⟨fr,tw,id,data,text,inq⟩:=x
 unfold f753F f753p0 textE
 simp only at h1 h2 ⊢
 have two:∀ a b:Int,f760F 1000 [a,b]=some (if a≠0 then a else b):=fun a b=>by rw[f760q _ (by simp),fst0_2]
 cases e1:strEq id ByteArray.empty with
 | true =>
  cases e2:strEq text ByteArray.empty with
  | true=>cases e3:strEq data ByteArray.empty<;>simp[f761q,two]
  | false =>
   cases e3:strEq data ByteArray.empty with
   | false=>simp[f761q,two]
   | true=>simp[f761q,two,f797q text 256 h2]
 | false =>
  cases e2:strEq text ByteArray.empty with
  | false=>simp[f761q,two]
  | true =>
   simp only[f761q,two,bind_some',Bool.not_false,Bool.not_true,cond_true,cond_false,Bool.false_and,Bool.and_false,Bool.false_or,Bool.or_false,Bool.false_eq_true,if_false,f790q s.1 id (by omega),ne_eq,not_true_eq_false,bne_self_eq_false]
   by_cases hi:ix (isD id) s.1<0
   ·rw[if_pos hi,bif_true (by simpa using hi)]
   ·obtain⟨j,d,e,hd,hj,hR,hF,_⟩:=desc_get h hi
    rw[if_neg hi,bif_false (by simpa using hi),e,bif_true (inb hj)]
    simp only[Int.toNat_natCast,getD_of hd,f779q hR h1,bind_some']
    congr 2
    cases strEq (txs d data).1 ByteArray.empty<;>rfl
theorem f715p0q {R0:Type}(k0:Int×Int×List Dsc×List Que×ByteArray×ByteArray×ByteArray×ByteArray×ByteArray×Bool×Hep×Unit->Option R0)(k1:List Dsc×List Que×ByteArray×ByteArray×ByteArray×ByteArray×ByteArray×Bool×List Dsc×List Row×Hep×Unit->Option R0)
  (F:List Dsc) (Q:List Que) (fr tw id data text:ByteArray) (inq:Bool) (F1:List Dsc) (R1:List Row) (H:Hep) (hl:Q.length<1000) :
  f715p0 1000 k0 k1 (F,Q,fr,tw,id,data,text,inq,F1,R1,H,())=if (!strEq fr ByteArray.empty||inq)=true∧ix (isQ fr) Q<0 then k0 (0,11,F,Q,fr,tw,id,data,text,inq,H,()) else k1 (F,Q,fr,tw,id,data,text,inq,F1,R1,H,()):=by
 unfold f715p0
 simp only[f752q F Q fr hl,bind_some']
 by_cases hi:ix (isQ fr) Q<0
 ·cases strEq fr ByteArray.empty<;>cases inq<;>simp[hi]
 ·cases strEq fr ByteArray.empty<;>cases inq<;>simp[hi]
def bdy (x:Snd)(t:ByteArray):Bdy:=((if x.2.2.2.2.2=true then 1 else 0),(x.2.2.1,(t,(x.1,(false,(false,0))))))
def queI (s:Sys)(nm:ByteArray):Nat:=(ix (isQ nm) s.2).toNat
def queS (s:Sys)(nm:ByteArray):Que:=s.2.getD (queI s nm) dQ
noncomputable def sentE (s:Sys)(x:Snd):Sys×Int×Int :=
 if qErr s x.2.1≠0 then (([],[]),0,qErr s x.2.1)
 else if (!strEq x.1 ByteArray.empty||x.2.2.2.2.2)=true∧ix (isQ x.1) s.2<0 then (([],[]),0,11)
 else if (textE s x).2≠0 then (([],[]),0,(textE s x).2)
 else if (putQ (queS s x.2.1) (bdy x (textE s x).1)).1≠0 then (([],[]),0,(putQ (queS s x.2.1) (bdy x (textE s x).1)).1)
 else ((s.1,s.2.set (queI s x.2.1) (putQ (queS s x.2.1) (bdy x (textE s x).1)).2),(queS s x.2.1).2.2.2.1,0)
theorem que_get {s:Sys}(hF:Few s){nm:ByteArray}(h:qErr s nm=0):RightS s∧∃ q,s.2[queI s nm]?=some q∧queS s nm=q∧ix (isQ nm) s.2=(queI s nm:Int)∧q.1=nm:=by
 unfold qErr at h
 split at h
 ·rename_i h1;exact absurd h h1
 ·rename_i h1
  split at h
  ·cases h
  ·rename_i h2
   have hR:=sys_right hF.file (by simpa using h1)
   obtain⟨j,q,e,hq,hj,hn⟩:=ix_get (isQ nm) s.2 (by simpa using h2)
   have hi:queI s nm=j:=by unfold queI;rw[e];rfl
   refine⟨hR,q,by rw[hi];exact hq,?_,by rw[hi];exact e,strEq_iff.1 hn⟩
   unfold queS
   rw[hi,getD_of hq]
theorem RightS.few {s:Sys}(h:RightS s):Few s:=by
 refine⟨h.file,by have:=h.len;omega,fun q hq=>⟨?_,fun m hm=>?_⟩⟩
 ·have:=(h.each q hq).len
  have:=(h.each q hq).l1
  omega
 ·have:=(msg_text (runM_text _ _ _ _ (h.each q hq).msgs m hm)).1
  omega
theorem f715q {s:Sys}(hF:Few s){x:Snd}(h1:x.2.2.2.1.size<=600)(h2:x.2.2.2.2.1.size<1000):f715F 1000 ((s.1,s.2),(x.1,(x.2.1,(x.2.2.1,(x.2.2.2.1,(x.2.2.2.2.1,x.2.2.2.2.2))))))=some (sentE s x):=by
 have hl:=hF.len
 unfold f715F sentE
 simp only[f751one hF,bind_some']
 by_cases hz:qErr s x.2.1=0
 ·obtain⟨hR,q,hq,hqs,hqi,hqn⟩:=que_get hF hz
  rw[bif_false (by simpa using hz),if_neg (by simpa using hz),f715p0q _ _ _ _ _ _ _ _ _ _ _ _ _ (by omega)]
  by_cases hc:(!strEq x.1 ByteArray.empty||x.2.2.2.2.2)=true∧ix (isQ x.1) s.2<0
  ·rw[if_pos hc,if_pos hc]
  rw[if_neg hc,if_neg hc]
  simp only[f753q hR h1 h2,bind_some']
  by_cases ht:(textE s x).2=0
  ·rw[bif_false (by simpa using ht),if_neg (by simpa using ht)]
   obtain⟨hp,hqq⟩:=own_prog s.2
   have hr:(ownR s.2 s.2.length)[queI s x.2.1]?=some (rowQ q (s.2.length+queI s x.2.1+1)):=by rw[ownR_get,hq];rfl
   have hqo:qOf (roK s.2++ownK s.2) (rowQ q (s.2.length+queI s x.2.1+1))=q:=by
    have:=qs_get (H:=roK s.2++ownK s.2) hr
    rw[hqq,hq] at this
    injection this with this
    exact this.symm
   have hfit:Fit q:=(hR.each q (List.mem_of_getElem? hq)).fit
   have P:=f755v0q (F:=s.1) hp (nm:=x.2.1) (j:=queI s x.2.1) (by rw[hqq];exact hqi) hr (by rw[ownR_len];omega) (by rw[hqo];exact hfit) 0 (bdy x (textE s x).1)
   rw[hqo,hqq] at P
   obtain⟨H',R',e1,e2⟩:=P
   have e1:f755v0F 1000 (s.1,x.2.1,0,(if x.2.2.2.2.2=true then 1 else 0),x.2.2.1,(textE s x).1,x.1,false,false,0,ownR s.2 s.2.length,roK s.2++ownK s.2,())=_:=e1
   have hp1:∀ {R0:Type} (K:List Dsc×List Que×ByteArray×ByteArray×ByteArray×ByteArray×ByteArray×Bool×Int×Int×ByteArray×ByteArray×ByteArray×Bool×Bool×Int×List Dsc×List Row×Hep×Unit->Option R0) (t:ByteArray),f715p1 1000 K (s.1,s.2,x.1,x.2.1,x.2.2.1,x.2.2.2.1,x.2.2.2.2.1,x.2.2.2.2.2,0,0,x.2.2.1,t,x.1,false,false,0,[],[],[],())=K (s.1,s.2,x.1,x.2.1,x.2.2.1,x.2.2.2.1,x.2.2.2.2.1,x.2.2.2.2.2,0,(if x.2.2.2.2.2=true then 1 else 0),x.2.2.1,t,x.1,false,false,0,[],[],[],()):=by
    intro R0 K t
    unfold f715p1
    cases x.2.2.2.2.2<;>rfl
   rw[hp1]
   simp only[f754v0q (F:=s.1) (show s.2.length<=100 by omega) hR.msgs,bind_some',e1,hqs]
   by_cases hp0:(putQ q (bdy x (textE s x).1)).1=0
   ·obtain⟨u1,u2⟩:=e2 hp0
    rw[if_pos hp0,bif_false (by simpa using hp0),if_neg (not_not_intro hp0),u1.frz,qs_frz,u2]
    rfl
   ·rw[if_pos hp0,bif_true (bne0 hp0)]
  ·rw[bif_true (bne0 ht),if_pos ht]
 ·rw[bif_true (bne0 hz),if_pos hz]
theorem txs_ok {d:Dsc}{data:ByteArray}(hR:RightD d)(hz:(txs d data).2.2=0):(txs d data).1.size<=256∧isTx (txs d data).1=true:=by
 unfold txs at hz ⊢
 split
 ·rename_i h;rw[if_pos h] at hz;cases hz
 ·rename_i h
  rw[if_neg h] at hz
  split
  ·rename_i h4;rw[if_pos h4] at hz;cases hz
  ·rename_i h4
   refine⟨?_,subT_tx hR.t1⟩
   show (subT d data d.2.2.1).size<=256
   omega
structure Small (s:Sys):Prop where
 file:FewF s.1
 len:s.2.length<=100
 each:∀ q∈s.2,q.2.2.2.2.length<=100
theorem Small.set {s:Sys}(h:Small s)(j:Nat){q:Que}(hq:q.2.2.2.2.length<=100):Small (s.1,s.2.set j q):=by
 refine⟨h.file,by rw[List.length_set];exact h.len,fun x hx=>?_⟩
 rcases List.mem_or_eq_of_mem_set hx with hx | rfl
 ·exact h.each x hx
 ·exact hq
theorem put_len {q:Que}(hf:Fit q)(m:Bdy):(putQ q m).2.2.2.2.2.length<=100:=by
 obtain⟨h1,h2,h3,h4⟩:=hf
 unfold putQ
 split
 ·show q.2.2.2.2.length<=100;omega
 ·split
  ·split
   ·show q.2.2.2.2.length<=100;omega
   ·rename_i hc
    rcases ix_spec shut q.2.2.2.2 with ⟨e,_⟩ | ⟨i,x,e,hx,_,_⟩
    ·exact absurd (Or.inr (by rw[e];decide)) hc
    ·have hi:=(List.getElem?_eq_some_iff.1 hx).1
     have:=dropI_len hi
     rw[e]
     simp only[List.length_append,Int.toNat_natCast,this,List.length_singleton]
     omega
  ·simp;omega
theorem f714q (x:Snd):f714F 1000 (x.1,(x.2.1,(x.2.2.1,(x.2.2.2.1,(x.2.2.2.2.1,x.2.2.2.2.2)))))=some (decide (x.2.2.2.1.size<=514)&&decide (x.2.2.2.2.1.size<=300)):=by
 unfold f714F
 simp only[]
 by_cases h:x.2.2.2.1.size<=514
 ·rw[bif_true (by simp;omega),decide_eq_true h,Bool.true_and]
  congr 1
  by_cases h2:x.2.2.2.2.1.size<=300
  ·rw[decide_eq_true h2,decide_eq_true (by omega)]
  ·rw[decide_eq_false h2,decide_eq_false (by omega)]
 ·rw[bif_false (by simp;omega),decide_eq_false h];rfl
theorem runM_iff (Q:List Que)(nx:Int):∀ (l:List Msg) (last:Int),runM Q nx last l=0↔(∀ m∈l,msgE Q m=0∧last<m.1∧m.1<nx)∧l.Pairwise fun a b=>a.1<b.1
 | [],last=>by simp[runM]
 | m::l,last=>by
  have ih:=runM_iff Q nx l m.1
  unfold runM
  have hk:keyB last nx m=true↔m.1<=last∨m.1≥nx:=by
   unfold keyB;rw[Bool.or_eq_true,decide_eq_true_eq,decide_eq_true_eq]
  by_cases h:keyB last nx m=true
  ·rw[if_pos h]
   have:=hk.1 h
   constructor
   ·intro c;cases c
   ·intro c
    have:=(c.1 m (by simp)).2
    omega
  ·rw[if_neg h]
   have hn:¬ (m.1<=last∨m.1≥nx):=fun c=>h (hk.2 c)
   by_cases hz:msgE Q m=0
   ·rw[if_neg (not_not_intro hz),ih]
    constructor
    ·rintro⟨a,b⟩
     refine⟨fun x hx=>?_,List.pairwise_cons.2 ⟨fun x hx=>(a x hx).2.1,b⟩⟩
     rcases List.mem_cons.1 hx with rfl | hx
     ·exact⟨hz,by omega,by omega⟩
     ·have:=a x hx
      exact⟨this.1,by omega,this.2.2⟩
    ·rintro⟨a,b⟩
     rw[List.pairwise_cons] at b
     exact⟨fun x hx=>⟨(a x (by simp[hx])).1,b.1 x hx,(a x (by simp[hx])).2.2⟩,b.2⟩
   ·rw[if_pos hz]
    constructor
    ·intro c;exact absurd c hz
    ·intro c;exact absurd (c.1 m (by simp)).1 hz
def nms (Q:List Que):List ByteArray:=Q.map (·.1)
theorem ixF_map {α β:Type}(p:β->Bool)(g:α->β):∀ (l:List α) (i:Nat),ixF (fun x=>p (g x)) i l=ixF p i (l.map g)
 | [],_=>rfl
 | x::l,i=>by simp only[ixF,List.map_cons,ixF_map p g l (i+1)]
theorem ix_names {Q Q':List Que}(h:nms Q=nms Q')(nm:ByteArray):ix (isQ nm) Q=ix (isQ nm) Q':=by
 unfold ix
 have e:∀ Q:List Que,ixF (isQ nm) 0 Q=ixF (fun n=>strEq n nm) 0 (nms Q):=fun Q=>ixF_map (fun n=>strEq n nm) (fun q:Que=>q.1) Q 0
 rw[e,e,h]
theorem msgE_names {Q Q':List Que}(h:nms Q=nms Q')(m:Msg):msgE Q m=msgE Q' m:=by
 unfold msgE
 rw[ix_names h]
theorem nms_set {Q:List Que}{j:Nat}{q q':Que}(hq:Q[j]?=some q)(hn:q'.1=q.1):nms (Q.set j q')=nms Q:=by
 unfold nms
 rw[List.map_set,hn]
 apply List.ext_getElem?
 intro i
 by_cases e:j=i
 ·subst e
  rw[List.getElem?_set_self (by simpa using (List.getElem?_eq_some_iff.1 hq).1),List.getElem?_map,hq];rfl
 ·rw[List.getElem?_set_ne e]
def ltO:Option ByteArray->ByteArray->Bool
 | none,_=>true
 | some p,n=>strLt p n
def ordN:Option ByteArray->List ByteArray->Bool
 | _,[]=>true
 | p,n::l=>ltO p n&&ordN (some n) l
theorem runQ_ord (Q:List Que):∀ (l:List Que) (p:Option ByteArray) (i:Nat),(runQ Q p i l).2=0->ordN p (nms l)=true
 | [],_,_,_=>rfl
 | x::l,p,i,h=>by
  unfold runQ at h
  by_cases hz:qE Q p x≠0
  ·rw[if_pos hz] at h;exact absurd h hz
  ·rw[if_neg hz] at h
   show (ltO p x.1&&ordN (some x.1) (nms l))=true
   rw[runQ_ord Q l _ _ h,Bool.and_true]
   simp only[ne_eq,Decidable.not_not] at hz
   unfold qE at hz
   cases p with
   | none=>rfl
   | some q =>
    cases hI:isNm x.1 with
    | false=>rw[hI] at hz;simp at hz
    | true =>
     rw[hI] at hz
     cases hq:strLt q x.1 with
     | false=>simp[hq] at hz
     | true=>exact hq
theorem que_zero {Q:List Que}{q:Que}(h:RightQ Q q):queE Q q=0:=by
 unfold queE
 rw[if_neg,if_neg (by have:=h.len;omega),h.msgs]
 simp only[Bool.or_eq_true,Bool.not_eq_true',Bool.and_eq_false_iff,decide_eq_false_iff_not,not_or,Decidable.not_not]
 exact⟨⟨h.l0,h.l1⟩,h.n1,h.n2⟩
theorem runQ_zero (Q:List Que):∀ (l:List Que) (p:Option ByteArray) (i:Nat),(∀ q∈l,RightQ Q q)->ordN p (nms l)=true->runQ Q p i l=(0,0)
 | [],_,_,_,_=>rfl
 | x::l,p,i,h,ho=>by
  have ho:(ltO p x.1&&ordN (some x.1) (nms l))=true:=ho
  rw[Bool.and_eq_true] at ho
  have hx:=h x (by simp)
  have hz:qE Q p x=0:=by
   unfold qE
   rw[hx.nm,que_zero hx]
   cases p with
   | none=>rfl
   | some q =>
    have:strLt q x.1=true:=ho.1
    simp[this]
  unfold runQ
  rw[if_neg (not_not_intro hz)]
  exact runQ_zero Q l _ _ (fun q hq=>h q (by simp[hq])) ho.2
structure Right (s:Sys):Prop where
 r:RightS s
 ord:ordN none (nms s.2)=true
theorem sys_Right {s:Sys}(hF:FewF s.1)(h:(sysE s).2=0):Right s:=by
 refine⟨sys_right hF h,?_⟩
 unfold sysE at h
 split at h
 ·rename_i h1;exact absurd h h1
 ·split at h
  ·cases h
  ·exact runQ_ord _ _ _ _ h
theorem Right.zero {s:Sys}(h:Right s):sysE s=(0,0):=by
 unfold sysE
 rw[if_neg (not_not_intro h.r.fe),if_neg (by have:=h.r.len;omega)]
 exact runQ_zero _ _ _ _ h.r.each h.ord
theorem Right.set {s:Sys}(h:Right s){j:Nat}{q q':Que}(hq:s.2[j]?=some q)(hn:q'.1=q.1)(hr:RightQ s.2 q'):Right (s.1,s.2.set j q'):=by
 have hns:=nms_set hq hn
 have cong:∀ x,RightQ s.2 x->RightQ (s.2.set j q') x:=by
  intro x hx
  obtain⟨a1,a2,a3,a4,a5,a6,a7⟩:=hx
  refine⟨a1,a2,a3,a4,a5,a6,?_⟩
  rw[runM_iff] at a7 ⊢
  exact⟨fun m hm=>by rw[msgE_names hns];exact a7.1 m hm,a7.2⟩
 refine⟨⟨h.r.file,h.r.fe,by rw[List.length_set];exact h.r.len,fun x hx=>?_⟩,by rw[hns];exact h.ord⟩
 rcases List.mem_or_eq_of_mem_set hx with hx | rfl
 ·exact cong x (h.r.each x hx)
 ·exact cong _ hr
theorem RightQ.iff {Q:List Que}{q:Que}(h:RightQ Q q):(∀ m∈q.2.2.2.2,msgE Q m=0∧0<m.1∧m.1<q.2.2.2.1)∧q.2.2.2.2.Pairwise fun a b=>a.1<b.1:=(runM_iff Q _ _ _).1 h.msgs
theorem RightQ.uniq {Q:List Que}{q:Que}(h:RightQ Q q){a b:Msg}(ha:a∈q.2.2.2.2)(hb:b∈q.2.2.2.2)(e:a.1=b.1):a=b:=by
 have hp:=h.iff.2
 obtain⟨i,hi⟩:=List.mem_iff_getElem?.1 ha
 obtain⟨k,hk⟩:=List.mem_iff_getElem?.1 hb
 obtain⟨hi1,hi2⟩:=List.getElem?_eq_some_iff.1 hi
 obtain⟨hk1,hk2⟩:=List.getElem?_eq_some_iff.1 hk
 rcases Nat.lt_trichotomy i k with c | c | c
 ·have:=(List.pairwise_iff_getElem.1 hp) i k hi1 hk1 c
  rw[hi2,hk2] at this;omega
 ·subst c;rw[← hi2,← hk2]
 ·have:=(List.pairwise_iff_getElem.1 hp) k i hk1 hi1 c
  rw[hi2,hk2] at this;omega
theorem drop_sub (l:List Msg)(i:Nat):(dropI l i).Sublist l:=by
 unfold dropI
 have h:=(List.drop_sublist 1 (l.drop i)).append_left (l.take i)
 rw[List.drop_drop,List.take_append_drop] at h
 exact h
theorem RightQ.sub {Q:List Que}{q:Que}(h:RightQ Q q){l:List Msg}(hs:l.Sublist q.2.2.2.2):RightQ Q (q.1,(q.2.1,(q.2.2.1,(q.2.2.2.1,l)))):=by
 obtain⟨a1,a2,a3,a4,a5,a6,a7⟩:=h
 refine⟨a1,a2,a3,a4,a5,?_,?_⟩
 ·have:=hs.length_le
  show (l.length:Int)<=q.2.1
  omega
 ·rw[runM_iff] at a7 ⊢
  exact⟨fun m hm=>a7.1 m (hs.subset hm),a7.2.sublist hs⟩
theorem RightQ.turn {Q:List Que}{q:Que}(h:RightQ Q q){i:Nat}{m m':Msg}(hm:q.2.2.2.2[i]?=some m)(hk:m'.1=m.1)(he:msgE Q m'=0):RightQ Q (q.1,(q.2.1,(q.2.2.1,(q.2.2.2.1,q.2.2.2.2.set i m')))):=by
 have hit:=h.iff
 obtain⟨a1,a2,a3,a4,a5,a6,a7⟩:=h
 obtain⟨hi,hmi⟩:=List.getElem?_eq_some_iff.1 hm
 refine⟨a1,a2,a3,a4,a5,by simpa using a6,?_⟩
 rw[runM_iff]
 refine⟨fun x hx=>?_,?_⟩
 ·rcases List.mem_or_eq_of_mem_set hx with hx | rfl
  ·exact hit.1 x hx
  ·have:=hit.1 m (List.mem_of_getElem? hm)
   rw[hk]
   exact⟨he,this.2⟩
 ·rw[List.pairwise_iff_getElem]
  intro a b ha hb hab
  simp only[List.length_set] at ha hb
  have key:∀ c (hc:c<(q.2.2.2.2.set i m').length) (hc':c<q.2.2.2.2.length),(q.2.2.2.2.set i m')[c].1=q.2.2.2.2[c].1:=by
   intro c hc hc'
   rw[List.getElem_set]
   split
   ·rename_i e;subst e;rw[hk,hmi]
   ·rfl
  rw[key a (by simpa using ha) ha,key b (by simpa using hb) hb]
  exact (List.pairwise_iff_getElem.1 hit.2) a b ha hb hab
theorem put_name (q:Que)(m:Bdy):(putQ q m).2.1=q.1:=by
 unfold putQ
 repeat' split
 all_goals rfl
theorem RightQ.put {Q:List Que}{q:Que}(h:RightQ Q q){m:Bdy}(hp:(putQ q m).1=0)(he:msgE Q (q.2.2.2.1,m)=0):RightQ Q (putQ q m).2:=by
 have hit:=h.iff
 have hlen:=put_len h.fit m
 have snoc:∀ l:List Msg,l.Sublist q.2.2.2.2->(l.length:Int)+1<=q.2.1->q.2.2.2.1≠1000000->RightQ Q (q.1,(q.2.1,(q.2.2.1,(q.2.2.2.1+1,l++[(q.2.2.2.1,m)])))):=by
  intro l hs hl hn
  obtain⟨a1,a2,a3,a4,a5,a6,a7⟩:=h
  refine⟨a1,a2,a3,by show 1<=q.2.2.2.1+1;omega,by show q.2.2.2.1+1<=1000000;omega,by simpa using hl,?_⟩
  show runM Q (q.2.2.2.1+1) 0 (l++[(q.2.2.2.1,m)])=0
  rw[runM_iff]
  refine⟨fun x hx=>?_,?_⟩
  ·rcases List.mem_append.1 hx with hx | hx
   ·have:=hit.1 x (hs.subset hx)
    exact⟨this.1,this.2.1,by omega⟩
   ·rw[List.mem_singleton.1 hx]
    exact⟨he,by show 0<q.2.2.2.1;omega,by show q.2.2.2.1<q.2.2.2.1+1;omega⟩
  ·rw[List.pairwise_append]
   refine⟨hit.2.sublist hs,by simp,fun a ha b hb=>?_⟩
   rw[List.mem_singleton.1 hb]
   exact (hit.1 a (hs.subset ha)).2.2
 unfold putQ at hp ⊢
 by_cases h3:q.2.2.2.1=1000000
 ·rw[if_pos h3] at hp;cases hp
 rw[if_neg h3] at hp ⊢
 by_cases hf:(q.2.2.2.2.length:Int)=q.2.1
 ·rw[if_pos hf] at hp ⊢
  by_cases hw:q.2.2.1=false∨ix shut q.2.2.2.2<0
  ·rw[if_pos hw] at hp;cases hp
  ·rw[if_neg hw]
   rcases ix_spec shut q.2.2.2.2 with ⟨e,_⟩ | ⟨i,x,e,hx,_,_⟩
   ·exact absurd (Or.inr (by rw[e];decide)) hw
   ·have hi:=(List.getElem?_eq_some_iff.1 hx).1
    have hd:=dropI_len hi
    rw[e]
    exact snoc _ (drop_sub _ _) (by rw[Int.toNat_natCast,hd];omega) h3
 ·rw[if_neg hf]
  have:=h.len
  exact snoc _ (List.Sublist.refl _) (by omega) h3
theorem put_mem {q:Que}{b:Bdy}(hp:(putQ q b).1=0){m:Msg}(hm:m∈q.2.2.2.2)(ho:opn m=true):m∈(putQ q b).2.2.2.2.2:=by
 unfold putQ at hp ⊢
 by_cases h3:q.2.2.2.1=1000000
 ·rw[if_pos h3] at hp;cases hp
 rw[if_neg h3] at hp ⊢
 by_cases hf:(q.2.2.2.2.length:Int)=q.2.1
 ·rw[if_pos hf] at hp ⊢
  by_cases hw:q.2.2.1=false∨ix shut q.2.2.2.2<0
  ·rw[if_pos hw] at hp;cases hp
  ·rw[if_neg hw]
   rcases ix_spec shut q.2.2.2.2 with ⟨e,_⟩ | ⟨i,x,e,hx,hs,_⟩
   ·exact absurd (Or.inr (by rw[e];decide)) hw
   ·rw[e]
    show m∈dropI q.2.2.2.2 ((i:Int).toNat)++[_]
    rw[List.mem_append,Int.toNat_natCast]
    left
    obtain⟨k,hk⟩:=List.mem_iff_getElem?.1 hm
    have hki:k≠i:=by
     intro c
     subst c
     rw[hx] at hk
     injection hk with hk
     subst hk
     unfold shut at hs
     rw[ho] at hs
     cases hs
    unfold dropI
    rw[List.mem_append]
    rcases Nat.lt_or_gt_of_ne hki with c | c
    ·left
     refine List.mem_iff_getElem?.2 ⟨k,?_⟩
     rw[List.getElem?_take,if_pos c,hk]
    ·right
     refine List.mem_iff_getElem?.2 ⟨k - (i+1),?_⟩
     rw[List.getElem?_drop,show i+1+(k - (i+1))=k by omega,hk]
 ·rw[if_neg hf]
  exact List.mem_append.2 (.inl hm)
theorem key_found {l:List Msg}{m:Msg}(h:m∈l):∃ (i:Nat) (x:Msg),ix (isK m.1) l=(i:Int)∧l[i]?=some x∧i<l.length∧x.1=m.1:=by
 rcases ix_spec (isK m.1) l with ⟨_,g⟩ | ⟨i,x,e,hx,hp,_⟩
 ·have:=g m h
  unfold isK at this
  simp at this
 ·exact⟨i,x,e,hx,(List.getElem?_eq_some_iff.1 hx).1,by unfold isK at hp;simpa using hp⟩
def dM:Msg:=(0,(0,(ByteArray.empty,(ByteArray.empty,(ByteArray.empty,(false,(false,0)))))))
def setAns (m:Msg):Msg:=(m.1,(m.2.1,(m.2.2.1,(m.2.2.2.1,(m.2.2.2.2.1,(m.2.2.2.2.2.1,(true,m.2.2.2.2.2.2.2)))))))
def atK (l:List Msg)(key:Int):Nat:=(ix (isK key) l).toNat
def markL (l:List Msg)(key:Int):List Msg:=l.set (atK l key) (setAns (l.getD (atK l key) dM))
def withL (q:Que)(l:List Msg):Que:=(q.1,(q.2.1,(q.2.2.1,(q.2.2.2.1,l))))
def rep (m:Msg)(nm t:ByteArray):Bdy:=(2,(ByteArray.empty,(t,(nm,(false,(false,m.1))))))
def dfl (F:List Dsc)(m:Msg):ByteArray:=if ix (isD m.2.2.1) F<0 then starN else if strEq (F.getD (ix (isD m.2.2.1) F).toNat dD).2.2.2.2.2.1 ByteArray.empty=true then starN else (F.getD (ix (isD m.2.2.1) F).toNat dD).2.2.2.2.2.1
def fromI (Q:List Que)(m:Msg):Nat:=(ix (isQ m.2.2.2.2.1) Q).toNat
def answerE (Q:List Que)(j:Nat)(m:Msg)(t:ByteArray):Int×List Que :=
 if (putQ (Q.getD (fromI Q m) dQ) (rep m (Q.getD j dQ).1 t)).1≠0 then ((putQ (Q.getD (fromI Q m) dQ) (rep m (Q.getD j dQ).1 t)).1,Q)
 else (0,(Q.set (fromI Q m) (putQ (Q.getD (fromI Q m) dQ) (rep m (Q.getD j dQ).1 t)).2).set j
  (withL ((Q.set (fromI Q m) (putQ (Q.getD (fromI Q m) dQ) (rep m (Q.getD j dQ).1 t)).2).getD j dQ) (markL ((Q.set (fromI Q m) (putQ (Q.getD (fromI Q m) dQ) (rep m (Q.getD j dQ).1 t)).2).getD j dQ).2.2.2.2 m.1)))
def removeE (s:Sys)(j:Nat)(key:Int):Int×List Que :=
 if ix (isK key) (s.2.getD j dQ).2.2.2.2<0 then (0,s.2)
 else if opn ((s.2.getD j dQ).2.2.2.2.getD (atK (s.2.getD j dQ).2.2.2.2 key) dM)=true then
  if (answerE s.2 j ((s.2.getD j dQ).2.2.2.2.getD (atK (s.2.getD j dQ).2.2.2.2 key) dM) (dfl s.1 ((s.2.getD j dQ).2.2.2.2.getD (atK (s.2.getD j dQ).2.2.2.2 key) dM))).1≠0 then
   ((answerE s.2 j ((s.2.getD j dQ).2.2.2.2.getD (atK (s.2.getD j dQ).2.2.2.2 key) dM) (dfl s.1 ((s.2.getD j dQ).2.2.2.2.getD (atK (s.2.getD j dQ).2.2.2.2 key) dM))).1,s.2)
  else (0,(answerE s.2 j ((s.2.getD j dQ).2.2.2.2.getD (atK (s.2.getD j dQ).2.2.2.2 key) dM) (dfl s.1 ((s.2.getD j dQ).2.2.2.2.getD (atK (s.2.getD j dQ).2.2.2.2 key) dM))).2.set j
   (withL ((answerE s.2 j ((s.2.getD j dQ).2.2.2.2.getD (atK (s.2.getD j dQ).2.2.2.2 key) dM) (dfl s.1 ((s.2.getD j dQ).2.2.2.2.getD (atK (s.2.getD j dQ).2.2.2.2 key) dM))).2.getD j dQ)
    (dropI ((answerE s.2 j ((s.2.getD j dQ).2.2.2.2.getD (atK (s.2.getD j dQ).2.2.2.2 key) dM) (dfl s.1 ((s.2.getD j dQ).2.2.2.2.getD (atK (s.2.getD j dQ).2.2.2.2 key) dM))).2.getD j dQ).2.2.2.2
     (atK ((answerE s.2 j ((s.2.getD j dQ).2.2.2.2.getD (atK (s.2.getD j dQ).2.2.2.2 key) dM) (dfl s.1 ((s.2.getD j dQ).2.2.2.2.getD (atK (s.2.getD j dQ).2.2.2.2 key) dM))).2.getD j dQ).2.2.2.2 key))))
 else (0,s.2.set j (withL (s.2.getD j dQ) (dropI (s.2.getD j dQ).2.2.2.2 (atK (s.2.getD j dQ).2.2.2.2 key))))
theorem open_kind {m:Msg}(h:opn m=true):m.2.1=1∧m.2.2.2.2.2.2.1=false:=by
 unfold opn at h
 simpa using h
theorem open_from {Q:List Que}{m:Msg}(h:msgE Q m=0)(ho:m.2.1=1):∃ q,Q[fromI Q m]?=some q∧ix (isQ m.2.2.2.2.1) Q=(fromI Q m:Int)∧q.1=m.2.2.2.2.1:=by
 unfold msgE at h
 split at h
 ·cases h
 split at h
 ·cases h
 split at h
 ·cases h
 split at h
 ·rename_i hc;exact absurd h hc
 split at h
 ·cases h
 rename_i h5
 split at h
 ·cases h
 rename_i h6
 have he:strEq m.2.2.2.2.1 ByteArray.empty=false:=by
  cases hs:strEq m.2.2.2.2.1 ByteArray.empty with
  | false=>rfl
  | true=>rw[hs,ho] at h6;simp at h6
 rw[he] at h5
 obtain⟨j,q,e,hq,hj,hn⟩:=ix_get (isQ m.2.2.2.2.1) Q (by simpa using h5)
 have hi:fromI Q m=j:=by unfold fromI;rw[e];rfl
 exact⟨q,by rw[hi];exact hq,by rw[hi];exact e,strEq_iff.1 hn⟩
theorem answer_eq {Q:List Que}{j:Nat}{q qf:Que}(hj:Q[j]?=some q){m:Msg}(hf:Q[fromI Q m]?=some qf)(t:ByteArray){qj:Que}(hqj:(Q.set (fromI Q m) (putQ qf (rep m q.1 t)).2)[j]?=some qj) :
  answerE Q j m t=if (putQ qf (rep m q.1 t)).1≠0 then ((putQ qf (rep m q.1 t)).1,Q) else (0,(Q.set (fromI Q m) (putQ qf (rep m q.1 t)).2).set j (withL qj (markL qj.2.2.2.2 m.1))):=by
 unfold answerE
 rw[getD_of hj,getD_of hf,getD_of hqj]
theorem f768q (q:Que)(key:Int)(hl:q.2.2.2.2.length<1000):f768F 1000 ((q.1,(q.2.1,(q.2.2.1,(q.2.2.2.1,q.2.2.2.2)))),key)=some (ix (isK key) q.2.2.2.2):=by
 unfold f768F f800v1F f800v1l0
 have:=iter_find (k:=1000) (R:=Int×Int×Unit) (Step:=fun rec v=>f800v1l0s 1000 rec (fun w3=>some (w3.1,w3.2.1,())) (fun w4=>some (-1,w4.1,())) v) q.2.2.2.2 (isK key) (fun i=>(q.2.2.2.2,(q.2.2.2.2.length:Int),(i:Int),key,())) (fun i=>some (i,key,())) ?_ ?_ hl
 ·simp only[] at this ⊢
  rw[show ((0:Int))=((0:Nat):Int) from rfl,this]
  rfl
 ·intro rec
  unfold f800v1l0s
  simp
 ·intro rec i x hx hi
  unfold f800v1l0s f805v0F
  simp only[ltn hi,nn,Bool.and_self,cond_true,Int.toNat_natCast,getD_of hx,bind_some',wi_succ (i:=i) (by omega)]
  rfl
theorem f770q (F:List Dsc)(Q:List Que)(m:Msg)(hl:F.length<1000):f770F 1000 ((F,Q),(m.1,(m.2.1,(m.2.2.1,(m.2.2.2.1,(m.2.2.2.2.1,(m.2.2.2.2.2.1,(m.2.2.2.2.2.2.1,m.2.2.2.2.2.2.2))))))))=some (dfl F m):=by
 unfold f770F f770p0 dfl
 simp only[f790q F m.2.2.1 hl,bind_some']
 rcases ix_spec (isD m.2.2.1) F with ⟨e,_⟩ | ⟨j,d,e,hd,_,_⟩
 ·rw[e];rfl
 ·have hj:=(List.getElem?_eq_some_iff.1 hd).1
  rw[e,if_neg (by omega),bif_true (by simp),bif_true (inb hj)]
  simp only[Int.toNat_natCast,getD_of hd]
  cases strEq d.2.2.2.2.2.1 ByteArray.empty with
  | true=>rfl
  | false=>simp only[Bool.not_false,cond_true,Bool.false_eq_true,if_false];rw[bif_true (inb hj)]
theorem answer_place {Q:List Que}{j:Nat}{q qf:Que}(hj:Q[j]?=some q){m:Msg}(hm:m∈q.2.2.2.2)(ho:opn m=true)(hf:Q[fromI Q m]?=some qf){t:ByteArray}(hz:(putQ qf (rep m q.1 t)).1=0) :
  ∃ qj,(Q.set (fromI Q m) (putQ qf (rep m q.1 t)).2)[j]?=some qj∧m∈qj.2.2.2.2∧qj.1=q.1∧(qj=q∨qj=(putQ qf (rep m q.1 t)).2∧qf=q):=by
 have hjl:=(List.getElem?_eq_some_iff.1 hj).1
 by_cases e:fromI Q m=j
 ·rw[e] at hf ⊢
  rw[hj] at hf
  injection hf with hf
  subst hf
  exact⟨_,List.getElem?_set_self hjl,put_mem hz hm ho,put_name _ _,.inr ⟨rfl,rfl⟩⟩
 ·rw[List.getElem?_set_ne e]
  exact⟨q,hj,hm,rfl,.inl rfl⟩
theorem f771v0q {s:Sys}(hR:RightS s){H:Hep}{R:List Row}(hp:Hp H R)(hq:qs H R=s.2){j:Nat}{q:Que}(hi:ix (isQ q.1) s.2=(j:Int))(hj:s.2[j]?=some q){m:Msg}(hm:m∈q.2.2.2.2)(ho:opn m=true)(t:ByteArray) :
  ∃ H' R',f771v0F 1000 (s.1,q.1,m.1,m.2.1,m.2.2.1,m.2.2.2.1,m.2.2.2.2.1,m.2.2.2.2.2.1,m.2.2.2.2.2.2.1,m.2.2.2.2.2.2.2,t,R,H,())=some ((answerE s.2 j m t).1,R',H',()) ∧
   ((answerE s.2 j m t).1=0->Hp H' R'∧qs H' R'=(answerE s.2 j m t).2):=by
 have hrq:=hR.each q (List.mem_of_getElem? hj)
 obtain⟨qf,hf,hfi,hfn⟩:=open_from (hrq.iff.1 m hm).1 (open_kind ho).1
 obtain⟨r,hr,hrf⟩:=qs_row (H:=H) (R:=R) (by rw[hq];exact hf)
 have hRl:R.length=s.2.length:=by rw[← hq,qs_len]
 have hl:=hR.len
 have P:=f755v0q (F:=s.1) hp (nm:=m.2.2.2.2.1) (j:=fromI s.2 m) (by rw[hq];exact hfi) hr (by omega) (by rw[hrf];exact (hR.each qf (List.mem_of_getElem? hf)).fit) 0 (rep m q.1 t)
 rw[hrf,hq] at P
 obtain⟨H1,R1,e1,e2⟩:=P
 have e1:f755v0F 1000 (s.1,m.2.2.2.2.1,0,2,ByteArray.empty,t,q.1,false,false,m.1,R,H,())=_:=e1
 unfold f771v0F
 simp only[e1,bind_some']
 by_cases hz:(putQ qf (rep m q.1 t)).1=0
 ·obtain⟨hp1,hq1⟩:=e2 hz
  obtain⟨qj,hqj,hmj,hnj,hor⟩:=answer_place hj hm ho hf hz
  have hns:nms (s.2.set (fromI s.2 m) (putQ qf (rep m q.1 t)).2)=nms s.2:=nms_set hf (put_name _ _)
  obtain⟨r1,hr1,hrj⟩:=qs_row (H:=H1) (R:=R1) (by rw[hq1];exact hqj)
  have hR1l:R1.length=s.2.length:=by rw[← qs_len H1 R1,hq1,List.length_set]
  have hi1:ix (isQ q.1) (qs H1 R1)=(j:Int):=by rw[hq1,ix_names hns,hi]
  have hj1:j<R1.length:=(List.getElem?_eq_some_iff.1 hr1).1
  obtain⟨xs,c,hk,hc⟩:=hp1.kid hr1
  have hxs:qj.2.2.2.2=xs:=by rw[← hrj];exact kget_of hk
  have hlen:xs.length<=100:=by
   rw[← hxs]
   rcases hor with e | ⟨e,e'⟩
   ·rw[e];exact hR.msgs q (List.mem_of_getElem? hj)
   ·rw[e];exact put_len (hR.each qf (List.mem_of_getElem? hf)).fit _
  obtain⟨i,x,hix,hx,hil,hxk⟩:=key_found (l:=xs) (m:=m) (by rw[← hxs];exact hmj)
  have hplace:∀ a b c d,f768F 1000 ((a,(b,(c,(d,xs)))),m.1)=some (i:Int):=by
   intro a b c d
   rw[f768q (a,(b,(c,(d,xs)))) m.1 (by show xs.length<1000;omega),hix]
  rw[bif_false (by simpa using hz)]
  simp only[hp1.alive,Bool.and_self,cond_true,qs_map,f752q s.1 (qs H1 R1) q.1 (by rw[qs_len];omega),hi1,bind_some',nn,ltn hj1,ltn hil,Int.toNat_natCast,getD_of hr1,kalive_of hk,kget_of hk,kown_of hk,hplace,getD_of hx]
  have hk2:=kset_at hk i (setAns x)
  have U:=hp1.upd (H':=kset H1 r1.2.2.2.2 i (setAns x)) hr1 r1 ⟨_,_,hk2,by rw[List.length_set];exact hc⟩ (.inl rfl) (fun a ha hal=>kset_ne _ ha _ _)
  have hself:R1.set j r1=R1:=by
   apply List.ext_getElem?
   intro a
   by_cases e:j=a
   ·subst e;rw[List.getElem?_set_self hj1,hr1]
   ·rw[List.getElem?_set_ne e]
  rw[hself] at U
  rw[answer_eq hj hf t hqj,if_neg (not_not_intro hz)]
  refine⟨kset H1 r1.2.2.2.2 i (setAns x),R1,rfl,fun _=>⟨U.1,U.2.trans ?_⟩⟩
  rw[hq1]
  congr 1
  have hat:atK xs m.1=i:=by unfold atK;rw[hix];rfl
  rw[← hrj]
  simp only[withL,qOf,kget_of hk,kget_of hk2,markL,hat,getD_of hx]
 ·have hqj:∃ qj,(s.2.set (fromI s.2 m) (putQ qf (rep m q.1 t)).2)[j]?=some qj:=⟨_,List.getElem?_eq_getElem (by rw[List.length_set];exact (List.getElem?_eq_some_iff.1 hj).1)⟩
  obtain⟨qj,hqj⟩:=hqj
  rw[bif_true (bne0 hz),answer_eq hj hf t hqj,if_pos hz]
  exact⟨H1,R1,rfl,fun e=>absurd e hz⟩
theorem remove_none {s:Sys}{j:Nat}{q:Que}(hj:s.2[j]?=some q){key:Int}(h:ix (isK key) q.2.2.2.2<0):removeE s j key=(0,s.2):=by
 unfold removeE
 rw[getD_of hj,if_pos h]
theorem remove_shut {s:Sys}{j:Nat}{q:Que}(hj:s.2[j]?=some q){key:Int}{i:Nat}{m:Msg}(hi:ix (isK key) q.2.2.2.2=(i:Int))(hm:q.2.2.2.2[i]?=some m)(ho:opn m=false):removeE s j key=(0,s.2.set j (withL q (dropI q.2.2.2.2 i))):=by
 have hat:atK q.2.2.2.2 key=i:=by unfold atK;rw[hi];rfl
 unfold removeE
 rw[getD_of hj,hi,if_neg (by omega),hat,getD_of hm,ho,if_neg (by decide)]
theorem remove_open {s:Sys}{j:Nat}{q:Que}(hj:s.2[j]?=some q){key:Int}{i:Nat}{m:Msg}(hi:ix (isK key) q.2.2.2.2=(i:Int))(hm:q.2.2.2.2[i]?=some m)(ho:opn m=true) :
  removeE s j key=if (answerE s.2 j m (dfl s.1 m)).1≠0 then ((answerE s.2 j m (dfl s.1 m)).1,s.2) else (0,(answerE s.2 j m (dfl s.1 m)).2.set j (withL ((answerE s.2 j m (dfl s.1 m)).2.getD j dQ) (dropI ((answerE s.2 j m (dfl s.1 m)).2.getD j dQ).2.2.2.2 (atK ((answerE s.2 j m (dfl s.1 m)).2.getD j dQ).2.2.2.2 key)))):=by
 have hat:atK q.2.2.2.2 key=i:=by unfold atK;rw[hi];rfl
 unfold removeE
 rw[getD_of hj,hi,if_neg (by omega),hat,getD_of hm,ho,if_pos rfl]
theorem answer_post {s:Sys}(hR:RightS s){j:Nat}{q:Que}(hj:s.2[j]?=some q){m:Msg}(hm:m∈q.2.2.2.2)(ho:opn m=true)(t:ByteArray)(hz:(answerE s.2 j m t).1=0) :
  ∃ q',(answerE s.2 j m t).2[j]?=some q'∧q'.1=q.1∧nms (answerE s.2 j m t).2=nms s.2∧(∃ x∈q'.2.2.2.2,x.1=m.1)∧q'.2.2.2.2.length<=100∧(answerE s.2 j m t).2.length=s.2.length:=by
 have hrq:=hR.each q (List.mem_of_getElem? hj)
 obtain⟨qf,hf,hfi,hfn⟩:=open_from (hrq.iff.1 m hm).1 (open_kind ho).1
 have hjl:=(List.getElem?_eq_some_iff.1 hj).1
 obtain⟨qj0,hqj0⟩:∃ qj,(s.2.set (fromI s.2 m) (putQ qf (rep m q.1 t)).2)[j]?=some qj:=⟨_,List.getElem?_eq_getElem (by rw[List.length_set];exact hjl)⟩
 have hz1:(putQ qf (rep m q.1 t)).1=0:=by
  rw[answer_eq hj hf t hqj0] at hz
  apply Decidable.byContradiction
  intro c
  rw[if_pos c] at hz
  exact c hz
 obtain⟨qj,hqj,hmj,hnj,hor⟩:=answer_place hj hm ho hf hz1
 rw[answer_eq hj hf t hqj,if_neg (not_not_intro hz1)]
 obtain⟨i,x,hix,hx,hil,hxk⟩:=key_found hmj
 have hat:atK qj.2.2.2.2 m.1=i:=by unfold atK;rw[hix];rfl
 refine⟨_,List.getElem?_set_self (by rw[List.length_set];exact hjl),hnj,?_,⟨setAns x,?_,hxk⟩,?_,by rw[List.length_set,List.length_set]⟩
 ·exact (nms_set (q':=withL qj (markL qj.2.2.2.2 m.1)) hqj rfl).trans (nms_set hf (put_name _ _))
 ·show setAns x∈markL qj.2.2.2.2 m.1
  unfold markL
  rw[hat,getD_of hx]
  exact List.mem_iff_getElem?.2 ⟨i,List.getElem?_set_self hil⟩
 ·show (markL qj.2.2.2.2 m.1).length<=100
  unfold markL
  rw[List.length_set]
  rcases hor with e | ⟨e,e'⟩
  ·rw[e];exact hR.msgs q (List.mem_of_getElem? hj)
  ·rw[e];exact put_len (hR.each qf (List.mem_of_getElem? hf)).fit _
theorem f764v0q {s:Sys}(hR:RightS s){H:Hep}{R:List Row}(hp:Hp H R)(hq:qs H R=s.2){j:Nat}{q:Que}(hi:ix (isQ q.1) s.2=(j:Int))(hj:s.2[j]?=some q)(key:Int) :
  ∃ H' R',f764v0F 1000 (s.1,q.1,key,R,H,())=some ((removeE s j key).1,R',H',())∧((removeE s j key).1=0->Hp H' R'∧qs H' R'=(removeE s j key).2):=by
 have hl:=hR.len
 have hF:=hR.file.len
 have hRl:R.length=s.2.length:=by rw[← hq,qs_len]
 have hjl:=(List.getElem?_eq_some_iff.1 hj).1
 have hjR:j<R.length:=by omega
 obtain⟨r,hr,hrq⟩:=qs_row (H:=H) (R:=R) (by rw[hq];exact hj)
 obtain⟨xs,c,hk,hc⟩:=hp.kid hr
 have hxs:q.2.2.2.2=xs:=by rw[← hrq];exact kget_of hk
 have hxl:xs.length<=100:=by rw[← hxs];exact hR.msgs q (List.mem_of_getElem? hj)
 have hplace:∀ a b c d,f768F 1000 ((a,(b,(c,(d,xs)))),key)=some (ix (isK key) xs):=by
  intro a b c d
  exact f768q (a,(b,(c,(d,xs)))) key (by show xs.length<1000;omega)
 unfold f764v0F
 simp only[hp.alive,Bool.and_self,cond_true,qs_map,hq,f752q s.1 s.2 q.1 (by omega),hi,bind_some',nn,ltn hjR,Int.toNat_natCast,getD_of hr,kalive_of hk,kget_of hk,hplace]
 rcases ix_spec (isK key) xs with ⟨e,_⟩ | ⟨i,m,e,hm,hkm,_⟩
 ·rw[e,remove_none hj (by rw[hxs,e];decide),bif_true (by decide)]
  exact⟨H,R,rfl,fun _=>⟨hp,hq⟩⟩
 have hil:=(List.getElem?_eq_some_iff.1 hm).1
 have hmk:m.1=key:=by unfold isK at hkm;simpa using hkm
 rw[e,bif_false (by simp)]
 simp only[nn,ltn hil,Bool.and_self,cond_true,Int.toNat_natCast,getD_of hm,f784q,bind_some']
 cases ho:opn m with
 | false =>
  obtain⟨H1,e1,⟨c1,hk1,hc1⟩,hold1,hlen1⟩:=f802v0q hk hc (by omega) hil
  simp only[cond_false,wi_succ (i:=i) (show i<9223372036854775807 by omega),e1,bind_some']
  have U:=hp.upd (H':=H1) hr (r.1,(r.2.1,(r.2.2.1,(r.2.2.2.1,H.length+1)))) ⟨_,_,hk1,hc1⟩ (.inr (by simp only;omega)) hold1
  rw[remove_shut hj (by rw[hxs];exact e) (by rw[hxs];exact hm) ho]
  refine⟨_,_,rfl,fun _=>⟨U.1,U.2.trans ?_⟩⟩
  rw[hq]
  congr 1
  rw[← hrq]
  simp only[withL,qOf,kget_of hk,kget_of hk1]
 | true =>
  have hmem:m∈q.2.2.2.2:=by rw[hxs];exact List.mem_of_getElem? hm
  obtain⟨H1,R1,e1,e2⟩:=f771v0q hR hp hq hi hj hmem ho (dfl s.1 m)
  simp only[cond_true,f770q s.1 s.2 m (by omega),bind_some',e1]
  rw[remove_open hj (by rw[hxs];exact e) (by rw[hxs];exact hm) ho]
  by_cases hz:(answerE s.2 j m (dfl s.1 m)).1=0
  ·obtain⟨hp1,hq1⟩:=e2 hz
   obtain⟨q',hq',hn',_,⟨x',hx',hxk'⟩,hl',hlen'⟩:=answer_post hR hj hmem ho _ hz
   obtain⟨r1,hr1,hrq1⟩:=qs_row (H:=H1) (R:=R1) (by rw[hq1];exact hq')
   obtain⟨ys,c1,hk1,hc1⟩:=hp1.kid hr1
   have hys:q'.2.2.2.2=ys:=by rw[← hrq1];exact kget_of hk1
   rw[hys] at hl' hx'
   obtain⟨i1,x1,e3,hx1,hi1,_⟩:=key_found hx'
   rw[hxk',hmk] at e3
   have hplace1:∀ a b c d,f768F 1000 ((a,(b,(c,(d,ys)))),key)=some (i1:Int):=by
    intro a b c d
    rw[← e3]
    exact f768q (a,(b,(c,(d,ys)))) key (by show ys.length<1000;omega)
   have hj1:j<R1.length:=(List.getElem?_eq_some_iff.1 hr1).1
   obtain⟨H2,e4,⟨c2,hk2,hc2⟩,hold2,hlen2⟩:=f802v0q hk1 hc1 (by omega) hi1
   rw[if_neg (not_not_intro hz),bif_false (by simpa using hz)]
   simp only[getD_of hr1,kalive_of hk1,kget_of hk1,Bool.and_self,cond_true,hplace1,bind_some',wi_succ (i:=i1) (show i1<9223372036854775807 by omega),e4]
   have U:=hp1.upd (H':=H2) hr1 (r1.1,(r1.2.1,(r1.2.2.1,(r1.2.2.2.1,H1.length+1)))) ⟨_,_,hk2,hc2⟩ (.inr (by simp only;omega)) hold2
   refine⟨_,_,rfl,fun _=>⟨U.1,U.2.trans ?_⟩⟩
   rw[hq1,getD_of hq']
   congr 1
   have hat:atK ys key=i1:=by unfold atK;rw[e3];rfl
   rw[← hrq1]
   simp only[withL,qOf,kget_of hk1,kget_of hk2,hat]
  ·rw[if_pos hz,bif_true (bne0 hz)]
   exact⟨H1,R1,rfl,fun c=>absurd c hz⟩
structure TxtOk (t:ByteArray):Prop where
 ne:strEq t ByteArray.empty=false
 tx:txE t 256=0
theorem txE_mono {t:ByteArray}{n:Int}(h:txE t n=0)(hn:n<=256):txE t 256=0:=by
 unfold txE at *
 split at h
 ·cases h
 ·rename_i h1
  rw[if_neg (by omega)]
  exact h
theorem dfl_ok {s:Sys}(h:RightS s)(m:Msg):TxtOk (dfl s.1 m):=by
 unfold dfl
 split
 ·exact⟨by kernel_rfl,by kernel_rfl⟩
 ·rename_i hi
  obtain⟨j,d,e,hd,hj,hR,_,_⟩:=desc_get h hi
  rw[e,Int.toNat_natCast,getD_of hd]
  split
  ·exact⟨by kernel_rfl,by kernel_rfl⟩
  ·rename_i hs
   exact⟨by simpa using hs,txE_mono hR.dflt (by decide)⟩
theorem nm_ne {nm:ByteArray}(h:isNm nm=true):strEq nm ByteArray.empty=false:=by
 cases he:strEq nm ByteArray.empty with
 | false=>rfl
 | true =>
  rw[strEq_iff.1 he] at h
  exact absurd h (by decide)
theorem rep_ok {Q:List Que}{m:Msg}{nm t:ByteArray}(nx:Int)(hn:isNm nm=true)(hi:ix (isQ nm) Q≠-1)(ht:TxtOk t)(h1:1<=m.1)(h2:m.1<=1000000):msgE Q (nx,rep m nm t)=0:=by
 have hne:=nm_ne hn
 have hq:(ix (isQ nm) Q==-1)=false:=by simpa using hi
 have hk:(decide (1<=m.1)&&decide (m.1<=1000000))=true:=by rw[decide_eq_true h1,decide_eq_true h2];rfl
 have he:strEq ByteArray.empty ByteArray.empty=true:=strEq_self _
 unfold msgE rep frmB
 simp only[ht.ne,ht.tx,hne,hq,hk,he]
 simp
theorem frm_ans {m:Msg}(hk:m.2.1=1)(h:frmB m=false):frmB (setAns m)=false:=by
 unfold frmB setAns at *
 simp only[hk] at *
 simpa using h
theorem msg_ans {Q:List Que}{m:Msg}(h:msgE Q m=0)(hk:m.2.1=1):msgE Q (setAns m)=0:=by
 have hf:frmB m=false:=by
  cases hf:frmB m with
  | false=>rfl
  | true =>
   exfalso
   unfold msgE at h
   rw[hf] at h
   repeat' split at h
   all_goals first | (cases h;done) | (rename_i hc;exact absurd h hc) | (rename_i hc _;exact absurd h hc) | (rename_i _ hc _ _;exact absurd h hc) | simp at *
 have h2:=frm_ans hk hf
 unfold msgE at h ⊢
 rw[h2]
 rw[hf] at h
 exact h
def setOld (m:Msg):Msg:=(m.1,(m.2.1,(m.2.2.1,(m.2.2.2.1,(m.2.2.2.2.1,(true,(m.2.2.2.2.2.2.1,m.2.2.2.2.2.2.2)))))))
theorem Right.names {s:Sys}(h:Right s){j:Nat}{q:Que}(hj:s.2[j]?=some q):ix (isQ q.1) s.2≠-1:=by
 rcases ix_spec (isQ q.1) s.2 with ⟨_,g⟩ | ⟨i,x,e,_,_,_⟩
 ·have:=g q (List.mem_of_getElem? hj)
  unfold isQ at this
  rw[strEq_self] at this
  cases this
 ·rw[e];omega
theorem answer_right {s:Sys}(h:Right s){j:Nat}{q:Que}(hj:s.2[j]?=some q){m:Msg}(hm:m∈q.2.2.2.2)(ho:opn m=true){t:ByteArray}(ht:TxtOk t)(hz:(answerE s.2 j m t).1=0):Right (s.1,(answerE s.2 j m t).2):=by
 have hrq:=h.r.each q (List.mem_of_getElem? hj)
 obtain⟨qf,hf,hfi,hfn⟩:=open_from (hrq.iff.1 m hm).1 (open_kind ho).1
 have hjl:=(List.getElem?_eq_some_iff.1 hj).1
 obtain⟨qj0,hqj0⟩:∃ qj,(s.2.set (fromI s.2 m) (putQ qf (rep m q.1 t)).2)[j]?=some qj:=⟨_,List.getElem?_eq_getElem (by rw[List.length_set];exact hjl)⟩
 have hz1:(putQ qf (rep m q.1 t)).1=0:=by
  rw[answer_eq hj hf t hqj0] at hz
  apply Decidable.byContradiction
  intro c
  rw[if_pos c] at hz
  exact c hz
 obtain⟨qj,hqj,hmj,hnj,hor⟩:=answer_place hj hm ho hf hz1
 rw[answer_eq hj hf t hqj,if_neg (not_not_intro hz1)]
 have hk:=hrq.iff.1 m hm
 have hnx:=hrq.n2
 have h1:Right (s.1,s.2.set (fromI s.2 m) (putQ qf (rep m q.1 t)).2):=h.set hf (put_name _ _) ((h.r.each qf (List.mem_of_getElem? hf)).put hz1 (rep_ok _ hrq.nm (h.names hj) ht (by omega) (by omega)))
 obtain⟨i,x,hix,hx,hil,hxk⟩:=key_found hmj
 have hrj:RightQ (s.2.set (fromI s.2 m) (putQ qf (rep m q.1 t)).2) qj:=h1.r.each qj (List.mem_of_getElem? hqj)
 have hxm:x=m:=hrj.uniq (List.mem_of_getElem? hx) hmj hxk
 subst hxm
 have hat:atK qj.2.2.2.2 x.1=i:=by unfold atK;rw[hix];rfl
 have hw:markL qj.2.2.2.2 x.1=qj.2.2.2.2.set i (setAns x):=by unfold markL;rw[hat,getD_of hx]
 rw[hw]
 have hmx:msgE (s.2.set (fromI s.2 x) (putQ qf (rep x q.1 t)).2) x=0:=(hrj.iff.1 x hmj).1
 exact h1.set (q':=withL qj (qj.2.2.2.2.set i (setAns x))) hqj rfl (hrj.turn (m':=setAns x) hx rfl (msg_ans hmx (open_kind ho).1))
theorem remove_right {s:Sys}(h:Right s){j:Nat}{q:Que}(hj:s.2[j]?=some q){key:Int}(hz:(removeE s j key).1=0):Right (s.1,(removeE s j key).2)∧nms (removeE s j key).2=nms s.2:=by
 rcases ix_spec (isK key) q.2.2.2.2 with ⟨e,_⟩ | ⟨i,m,e,hm,hkm,_⟩
 ·rw[remove_none hj (by rw[e];decide)]
  exact⟨h,rfl⟩
 have hmk:m.1=key:=by unfold isK at hkm;simpa using hkm
 have hrq:=h.r.each q (List.mem_of_getElem? hj)
 cases ho:opn m with
 | false =>
  rw[remove_shut hj e hm ho]
  exact⟨h.set (q':=withL q (dropI q.2.2.2.2 i)) hj rfl (hrq.sub (drop_sub _ _)),nms_set (q':=withL q (dropI q.2.2.2.2 i)) hj rfl⟩
 | true =>
  have hmem:=List.mem_of_getElem? hm
  rw[remove_open hj e hm ho] at hz ⊢
  by_cases hz1:(answerE s.2 j m (dfl s.1 m)).1=0
  ·rw[if_neg (not_not_intro hz1)]
   have h1:=answer_right h hj hmem ho (dfl_ok h.r m) hz1
   obtain⟨q',hq',hn',hns,_,_,_⟩:=answer_post h.r hj hmem ho _ hz1
   rw[getD_of hq']
   have hr':RightQ (answerE s.2 j m (dfl s.1 m)).2 q':=h1.r.each q' (List.mem_of_getElem? hq')
   exact⟨h1.set (q':=withL q' _) hq' rfl (hr'.sub (drop_sub _ _)),(nms_set (q':=withL q' (dropI q'.2.2.2.2 (atK q'.2.2.2.2 key))) hq' rfl).trans hns⟩
  ·rw[if_pos hz1] at hz;exact absurd hz hz1
theorem nms_get {Q Q':List Que}(h:nms Q'=nms Q){j:Nat}{q:Que}(hj:Q[j]?=some q):∃ q',Q'[j]?=some q'∧q'.1=q.1:=by
 have a:(nms Q)[j]?=some q.1:=by unfold nms;rw[List.getElem?_map,hj];rfl
 rw[← h] at a
 unfold nms at a
 rw[List.getElem?_map] at a
 cases hq:Q'[j]? with
 | none=>rw[hq] at a;cases a
 | some q'=>rw[hq] at a;exact⟨q',rfl,by simpa using a⟩
abbrev Ask:=ByteArray×(Int×(Int×Bool))
def choP (x:Ask)(m:Msg):Bool:=x.2.1==0||((x.2.1==2&&!m.2.2.2.2.2.1)||((x.2.1==3&&decide (m.1 > x.2.2.1))||(x.2.1==4&&m.1==x.2.2.1)))
def chosenE (l:List Msg)(x:Ask):Int:=if x.2.1=1 then (l.length:Int) - 1 else ix (choP x) l
theorem ix_congr {α:Type}{p p':α->Bool}(h:∀ x,p x=p' x)(l:List α):ix p l=ix p' l:=by
 have:p=p':=funext h
 rw[this]
theorem ixF_true {α:Type}(l:List α):ix (fun _=>true) l=mnI (l.length:Int) 1 - 1:=by
 cases l with
 | nil=>rfl
 | cons x l =>
  have:ix (fun _=>true) (x::l)=0:=rfl
  rw[this]
  unfold mnI
  simp only[List.length_cons]
  split<;>omega
theorem f800v3q (l:List Msg)(hl:l.length<1000):f800v3F 1000 (l,())=some (ix (fun m=>!m.2.2.2.2.2.1) l,()):=by
 unfold f800v3F f800v3l0
 refine iter_find l (fun m=>!m.2.2.2.2.2.1) (fun i=>(l,(l.length:Int),(i:Int),())) (fun i=>some (i,())) ?_ ?_ hl
 ·intro rec
  unfold f800v3l0s
  simp
 ·intro rec i x hx hi
  unfold f800v3l0s f803F
  simp only[ltn hi,nn,Bool.and_self,cond_true,Int.toNat_natCast,getD_of hx,bind_some',wi_succ (i:=i) (by omega)]
theorem f800v4q (l:List Msg)(x:Ask)(hl:l.length<1000):f800v4F 1000 (l,x.1,x.2.1,x.2.2.1,x.2.2.2,())=some (ix (fun m=>decide (m.1 > x.2.2.1)) l,x.1,x.2.1,x.2.2.1,x.2.2.2,()):=by
 unfold f800v4F f800v4l0
 refine iter_find l (fun m=>decide (m.1 > x.2.2.1)) (fun i=>(l,(l.length:Int),(i:Int),x.1,x.2.1,x.2.2.1,x.2.2.2,())) (fun i=>some (i,x.1,x.2.1,x.2.2.1,x.2.2.2,())) ?_ ?_ hl
 ·intro rec
  unfold f800v4l0s
  simp
 ·intro rec i y hy hi
  unfold f800v4l0s f804v0F
  simp only[ltn hi,nn,Bool.and_self,cond_true,Int.toNat_natCast,getD_of hy,bind_some',wi_succ (i:=i) (by omega)]
theorem f763q (q:Que)(x:Ask)(hl:q.2.2.2.2.length<1000)(h0:0<=x.2.1)(h4:x.2.1<=4):f763F 1000 ((q.1,(q.2.1,(q.2.2.1,(q.2.2.2.1,q.2.2.2.2)))),(x.1,(x.2.1,(x.2.2.1,x.2.2.2))))=some (chosenE q.2.2.2.2 x):=by
 unfold f763F chosenE
 have:x.2.1=0∨x.2.1=1∨x.2.1=2∨x.2.1=3∨x.2.1=4:=by omega
 rcases this with e | e | e | e | e
 ·rw[if_neg (by omega),ix_congr (p':=fun _=>true) (fun m=>by unfold choP;rw[e];rfl),ixF_true]
  simp only[e]
  rw[bif_true (by rfl),wi (by unfold mnI;split<;>omega) (by unfold mnI;split<;>omega)]
 ·rw[if_pos e]
  simp only[e]
  rw[bif_false (by rfl),bif_true (by rfl),wi (by omega) (by omega)]
 ·rw[if_neg (by omega),ix_congr (p':=fun m=>!m.2.2.2.2.2.1) (fun m=>by unfold choP;rw[e];simp)]
  simp only[e]
  rw[bif_false (by rfl),bif_false (by rfl),bif_true (by rfl),f800v3q _ hl,bind_some']
 ·rw[if_neg (by omega),ix_congr (p':=fun m=>decide (m.1 > x.2.2.1)) (fun m=>by unfold choP;rw[e];simp)]
  have h4:=f800v4q q.2.2.2.2 x hl
  simp only[e] at h4 ⊢
  rw[bif_false (by rfl),bif_false (by rfl),bif_false (by rfl),bif_true (by rfl),h4,bind_some']
 ·rw[if_neg (by omega),ix_congr (p':=isK x.2.2.1) (fun m=>by unfold choP isK;rw[e];simp)]
  simp only[e]
  rw[bif_false (by rfl),bif_false (by rfl),bif_false (by rfl),bif_false (by rfl),f768q q _ hl,bind_some']
theorem chosen_rng {l:List Msg}{x:Ask}(h:¬ chosenE l x<0):∃ (i:Nat) (m:Msg),chosenE l x=(i:Int)∧l[i]?=some m∧i<l.length:=by
 unfold chosenE at *
 split at h
 ·rename_i e
  rw[if_pos e]
  refine⟨l.length - 1,_,by omega,List.getElem?_eq_getElem (by omega),by omega⟩
 ·rename_i e
  rw[if_neg e]
  rcases ix_spec (choP x) l with ⟨e2,_⟩ | ⟨i,m,e2,hm,_,_⟩
  ·omega
  ·exact⟨i,m,e2,hm,(List.getElem?_eq_some_iff.1 hm).1⟩
def receivedE (s:Sys)(x:Ask):Sys×Msg×Int :=
 if qErr s x.1≠0 then (([],[]),dM,qErr s x.1)
 else if !(decide (0<=x.2.1)&&decide (x.2.1<=4)) then (([],[]),dM,4)
 else if chosenE (queS s x.1).2.2.2.2 x<0 then (([],[]),dM,40)
 else if x.2.2.2=false then ((s.1,s.2.set (queI s x.1) (withL (queS s x.1) ((queS s x.1).2.2.2.2.set (chosenE (queS s x.1).2.2.2.2 x).toNat (setOld ((queS s x.1).2.2.2.2.getD (chosenE (queS s x.1).2.2.2.2 x).toNat dM))))),(queS s x.1).2.2.2.2.getD (chosenE (queS s x.1).2.2.2.2 x).toNat dM,0)
 else if (removeE s (queI s x.1) ((queS s x.1).2.2.2.2.getD (chosenE (queS s x.1).2.2.2.2 x).toNat dM).1).1≠0 then (([],[]),dM,(removeE s (queI s x.1) ((queS s x.1).2.2.2.2.getD (chosenE (queS s x.1).2.2.2.2 x).toNat dM).1).1)
 else ((s.1,(removeE s (queI s x.1) ((queS s x.1).2.2.2.2.getD (chosenE (queS s x.1).2.2.2.2 x).toNat dM).1).2),(queS s x.1).2.2.2.2.getD (chosenE (queS s x.1).2.2.2.2 x).toNat dM,0)
theorem qOf_own {H:Hep}{R:List Row}{s:Sys}(hq:qs H R=s.2){j:Nat}{q:Que}(hj:s.2[j]?=some q):∃ r,R[j]?=some r∧qOf H r=q:=qs_row (by rw[hq];exact hj)
theorem f719q {s:Sys}(hF:Few s)(x:Ask):f719F 1000 ((s.1,s.2),(x.1,(x.2.1,(x.2.2.1,x.2.2.2))))=some (receivedE s x):=by
 have hl:=hF.len
 unfold f719F receivedE
 simp only[f751one hF,bind_some',f762q,f761q,f760q _ (show ([_,_]:List Int).length<1000 by simp),fst0_2]
 by_cases hz:qErr s x.1=0
 ·obtain⟨hR,q,hq,hqs,hqi,hqn⟩:=que_get hF hz
  have hql:=hR.msgs q (List.mem_of_getElem? hq)
  have hj:=(List.getElem?_eq_some_iff.1 hq).1
  rw[hqs,if_neg (not_not_intro hz),if_neg (not_not_intro hz)]
  cases hw:(decide (0<=x.2.1)&&decide (x.2.1<=4)) with
  | false=>rfl
  | true =>
   rw[Bool.and_eq_true,decide_eq_true_eq,decide_eq_true_eq] at hw
   simp only[Bool.not_true,cond_false,bne_self_eq_false,Bool.false_eq_true,if_false,f752q s.1 s.2 x.1 (by omega),hqi,bind_some',inb hj,cond_true,Int.toNat_natCast,getD_of hq,f763q q x (by omega) hw.1 hw.2]
   by_cases hc:chosenE q.2.2.2.2 x<0
   ·rw[if_pos hc,bif_true (by simpa using hc)];rfl
   rw[if_neg hc,bif_false (by simpa using hc)]
   obtain⟨i,m,e,hm,hi⟩:=chosen_rng hc
   obtain⟨hp,hqq⟩:=own_prog s.2
   obtain⟨r,hr,hrq⟩:=qOf_own hqq hq
   have hjr:=(List.getElem?_eq_some_iff.1 hr).1
   rw[e]
   simp only[inb hi,cond_true,Int.toNat_natCast,getD_of hm,f754v0q (F:=s.1) (show s.2.length<=100 by omega) hR.msgs,bind_some']
   cases hb:x.2.2.2 with
   | false =>
    obtain⟨xs,c,hk,hcl⟩:=hp.kid hr
    have hxs:q.2.2.2.2=xs:=by rw[← hrq];exact kget_of hk
    have hx:xs[i]?=some m:=by rw[← hxs];exact hm
    have hil:i<xs.length:=by rw[← hxs];exact hi
    have hk2:=kset_at hk i (setOld m)
    have U:=hp.upd (H':=kset (roK s.2++ownK s.2) r.2.2.2.2 i (setOld m)) hr r ⟨_,_,hk2,by rw[List.length_set];exact hcl⟩ (.inl rfl) (fun a ha hal=>kset_ne _ ha _ _)
    have hself:(ownR s.2 s.2.length).set (queI s x.1) r=ownR s.2 s.2.length:=by
     apply List.ext_getElem?
     intro a
     by_cases e:queI s x.1=a
     ·subst e;rw[List.getElem?_set_self hjr,hr]
     ·rw[List.getElem?_set_ne e]
    rw[hself] at U
    simp only[Bool.not_false,cond_true,nn,ltn hjr,ltn hil,Bool.and_self,Int.toNat_natCast,getD_of hr,kalive_of hk,kget_of hk,kown_of hk,getD_of hx,if_true]
    have ef:=U.1.frz
    simp only[setOld] at ef U
    rw[ef]
    simp only[Bool.and_self,cond_true,qs_frz,U.2,hqq]
    congr 4
    rw[← hrq]
    simp only[setOld] at hk2
    simp only[withL,qOf,kget_of hk,kget_of hk2,setOld]
   | true =>
    obtain⟨H1,R1,e1,e2⟩:=f764v0q hR hp hqq (by rw[hqn];exact hqi) hq m.1
    rw[hqn] at e1
    simp only[Bool.not_true,cond_false,e1,bind_some',Bool.true_eq_false,if_false]
    by_cases hz2:(removeE s (queI s x.1) m.1).1=0
    ·obtain⟨hp1,hq1⟩:=e2 hz2
     rw[bif_false (by simpa using hz2),if_neg (not_not_intro hz2),hp1.frz,qs_frz,hq1]
     rfl
    ·rw[bif_true (bne0 hz2),if_pos hz2];rfl
 ·rw[if_pos hz,if_pos hz,bif_true (bne0 hz)];rfl
theorem que_Right {s:Sys}(hF:Few s){nm:ByteArray}(h:qErr s nm=0):Right s:=by
 unfold qErr at h
 split at h
 ·rename_i h1;exact absurd h h1
 ·rename_i h1
  exact sys_Right hF.file (by simpa using h1)
abbrev Rply:=ByteArray×(Int×ByteArray)
def refE (F:List Dsc)(m:Msg)(t:ByteArray):Int :=
 if txE t 32≠0 then txE t 32 else if (strEq t ByteArray.empty||strEq t (dfl F m))=true then 0
 else if ix (isD m.2.2.1) F<0 then 0
 else if (F.getD (ix (isD m.2.2.1) F).toNat dD).2.2.2.2.2.2.length=0∨has (F.getD (ix (isD m.2.2.1) F).toNat dD).2.2.2.2.2.2 t=true then 0 else 39
def repT (F:List Dsc)(m:Msg)(t:ByteArray):ByteArray:=if strEq t ByteArray.empty=true then dfl F m else t
def repliedE (s:Sys)(x:Rply):Sys×Int :=
 if qErr s x.1≠0 then (([],[]),qErr s x.1)
 else if ix (isK x.2.1) (queS s x.1).2.2.2.2<0 then (([],[]),11)
 else if ((queS s x.1).2.2.2.2.getD (atK (queS s x.1).2.2.2.2 x.2.1) dM).2.1≠1 then (([],[]),4)
 else if ((queS s x.1).2.2.2.2.getD (atK (queS s x.1).2.2.2.2 x.2.1) dM).2.2.2.2.2.2.1=true then (([],[]),26)
 else if refE s.1 ((queS s x.1).2.2.2.2.getD (atK (queS s x.1).2.2.2.2 x.2.1) dM) x.2.2≠0 then (([],[]),refE s.1 ((queS s x.1).2.2.2.2.getD (atK (queS s x.1).2.2.2.2 x.2.1) dM) x.2.2)
 else if (answerE s.2 (queI s x.1) ((queS s x.1).2.2.2.2.getD (atK (queS s x.1).2.2.2.2 x.2.1) dM) (repT s.1 ((queS s x.1).2.2.2.2.getD (atK (queS s x.1).2.2.2.2 x.2.1) dM) x.2.2)).1≠0 then
  (([],[]),(answerE s.2 (queI s x.1) ((queS s x.1).2.2.2.2.getD (atK (queS s x.1).2.2.2.2 x.2.1) dM) (repT s.1 ((queS s x.1).2.2.2.2.getD (atK (queS s x.1).2.2.2.2 x.2.1) dM) x.2.2)).1)
 else ((s.1,(answerE s.2 (queI s x.1) ((queS s x.1).2.2.2.2.getD (atK (queS s x.1).2.2.2.2 x.2.1) dM) (repT s.1 ((queS s x.1).2.2.2.2.getD (atK (queS s x.1).2.2.2.2 x.2.1) dM) x.2.2)).2),0)
theorem f769q {s:Sys}(hR:RightS s)(m:Msg){t:ByteArray}(ht:t.size<1000):f769F 1000 ((s.1,s.2),(m.1,(m.2.1,(m.2.2.1,(m.2.2.2.1,(m.2.2.2.2.1,(m.2.2.2.2.2.1,(m.2.2.2.2.2.2.1,m.2.2.2.2.2.2.2))))))),t)=some (refE s.1 m t):=by
 have hF:=hR.file.len
 unfold f769F refE
 simp only[f797q t 32 ht,bind_some',f770q s.1 s.2 m (by omega),f790q s.1 m.2.2.1 (by omega),f761q]
 by_cases hz:txE t 32=0
 ·rw[if_neg (not_not_intro hz),hz,bif_false (by rfl)]
  cases strEq t ByteArray.empty with
  | true=>rfl
  | false =>
   cases strEq t (dfl s.1 m) with
   | true=>rfl
   | false =>
    simp only[Bool.or_self,Bool.false_eq_true,if_false,cond_false]
    rcases ix_spec (isD m.2.2.1) s.1 with ⟨e,_⟩ | ⟨j,d,e,hd,_,_⟩
    ·rw[e];rfl
    ·have hj:=(List.getElem?_eq_some_iff.1 hd).1
     have hm:mxI (j:Int) 0=(j:Int):=by unfold mxI;split<;>omega
     have hrl:=(hR.file.each d (List.mem_of_getElem? hd)).reps
     rw[e,if_neg (show ¬ ((j:Int)<0) by omega),bif_true (by simp)]
     simp only[hm,inb hj,cond_true,Int.toNat_natCast,getD_of hd]
     by_cases h0:d.2.2.2.2.2.2.length=0
     ·rw[if_pos (.inl h0),bif_false (by rw[h0];rfl)]
     ·rw[bif_true (by rw[decide_eq_true_eq];omega)]
      simp only[f806q _ t (show d.2.2.2.2.2.2.length<1000 by omega),bind_some']
      cases hh:has d.2.2.2.2.2.2 t with
      | true=>rw[if_pos (.inr rfl)];rfl
      | false=>rw[if_neg (fun c=>c.elim h0 (by decide))];rfl
 ·rw[if_pos hz,bif_true (bne0 hz)]
theorem opn_of {m:Msg}(h1:m.2.1=1)(h2:m.2.2.2.2.2.2.1=false):opn m=true:=by
 unfold opn
 rw[h1,h2];rfl
theorem f721q {s:Sys}(hF:Few s)(x:Rply)(ht:x.2.2.size<1000):f721F 1000 ((s.1,s.2),x.1,x.2.1,x.2.2)=some (repliedE s x):=by
 have hl:=hF.len
 unfold f721F repliedE
 simp only[f751one hF,bind_some']
 by_cases hz:qErr s x.1=0
 ·obtain⟨hR,q,hq,hqs,hqi,hqn⟩:=que_get hF hz
  have hql:=hR.msgs q (List.mem_of_getElem? hq)
  have hj:=(List.getElem?_eq_some_iff.1 hq).1
  have hFl:=hR.file.len
  rw[hqs,if_neg (not_not_intro hz),bif_false (by simpa using hz)]
  simp only[f752q s.1 s.2 x.1 (by omega),hqi,bind_some',inb hj,cond_true,Int.toNat_natCast,getD_of hq,f768q q x.2.1 (by omega),f761q,f760q _ (show ([_,_]:List Int).length<1000 by simp),fst0_2]
  rcases ix_spec (isK x.2.1) q.2.2.2.2 with ⟨e,_⟩ | ⟨i,m,e,hm,hkm,_⟩
  ·rw[e];rfl
  have hi:=(List.getElem?_eq_some_iff.1 hm).1
  have hat:atK q.2.2.2.2 x.2.1=i:=by unfold atK;rw[e];rfl
  rw[e,if_neg (show ¬ ((i:Int)<0) by omega),bif_false (by simp),bif_true (inb hi),hat]
  simp only[Int.toNat_natCast,getD_of hm]
  by_cases hk:m.2.1=1
  ·rw[if_neg (not_not_intro hk)]
   simp only[hk,bne_self_eq_false,cond_false,ne_eq,not_true_eq_false,if_false]
   cases ha:m.2.2.2.2.2.2.1 with
   | true=>rfl
   | false =>
    have ho:=opn_of hk ha
    have f769:=f769q hR m ht
    simp only[hk,ha] at f769
    simp only[cond_false,bne_self_eq_false,Bool.false_eq_true,if_false,f769,bind_some']
    by_cases hr:refE s.1 m x.2.2=0
    ·rw[if_neg (not_not_intro hr),bif_false (by simpa using hr)]
     have hp0:∀ {R0:Type} (K:ByteArray×ByteArray×List Dsc×List Que×Int×Int×ByteArray×ByteArray×ByteArray×Bool×Bool×Int×List Dsc×List Row×Hep×Unit->Option R0),
       f721p0 1000 K (x.1,x.2.2,s.1,s.2,m.1,1,m.2.2.1,m.2.2.2.1,m.2.2.2.2.1,m.2.2.2.2.2.1,false,m.2.2.2.2.2.2.2,[],[],[],())=K (x.1,repT s.1 m x.2.2,s.1,s.2,m.1,1,m.2.2.1,m.2.2.2.1,m.2.2.2.2.1,m.2.2.2.2.2.1,false,m.2.2.2.2.2.2.2,[],[],[],()):=by
      intro R0 K
      have hd:=f770q s.1 s.2 m (by omega)
      simp only[hk,ha] at hd
      unfold f721p0 repT
      cases strEq x.2.2 ByteArray.empty with
      | true=>simp only[cond_true,hd,bind_some',if_true]
      | false=>rfl
     rw[hp0]
     obtain⟨hp,hqq⟩:=own_prog s.2
     obtain⟨H1,R1,e1,e2⟩:=f771v0q hR hp hqq (by rw[hqn];exact hqi) hq (List.mem_of_getElem? hm) ho (repT s.1 m x.2.2)
     rw[hqn,hk,ha] at e1
     simp only[f754v0q (F:=s.1) (show s.2.length<=100 by omega) hR.msgs,bind_some',e1]
     by_cases hz2:(answerE s.2 (queI s x.1) m (repT s.1 m x.2.2)).1=0
     ·obtain⟨hp1,hq1⟩:=e2 hz2
      rw[bif_false (by simpa using hz2),if_neg (not_not_intro hz2),hp1.frz,qs_frz,hq1]
      rfl
     ·rw[bif_true (bne0 hz2),if_pos hz2]
    ·rw[if_pos hr,bif_true (bne0 hr)]
  ·rw[if_pos hk]
   simp only[bne_iff_ne.2 hk,cond_true]
   rfl
 ·rw[if_pos hz,bif_true (bne0 hz)]
theorem ref_ok {F:List Dsc}{m:Msg}{t:ByteArray}(h:refE F m t=0)(hd:TxtOk (dfl F m)):TxtOk (repT F m t):=by
 unfold repT
 split
 ·exact hd
 ·rename_i he
  refine⟨by simpa using he,?_⟩
  unfold refE at h
  split at h
  ·rename_i hc;exact absurd h hc
  ·rename_i hc
   exact txE_mono (n:=32) (by simpa using hc) (by decide)
theorem replied_right {s:Sys}(hF:Few s)(x:Rply):(repliedE s x).1=([],[])∧(repliedE s x).2≠0∨(repliedE s x).2=0∧Right (repliedE s x).1∧nms (repliedE s x).1.2=nms s.2∧(repliedE s x).1.1=s.1:=by
 unfold repliedE
 by_cases hz:qErr s x.1=0
 ·obtain⟨hR,q,hq,hqs,hqi,hqn⟩:=que_get hF hz
  rw[hqs,if_neg (not_not_intro hz)]
  rcases ix_spec (isK x.2.1) q.2.2.2.2 with ⟨e,_⟩ | ⟨i,m,e,hm,hkm,_⟩
  ·rw[e,if_pos (by decide)];exact .inl ⟨rfl,by decide⟩
  have hat:atK q.2.2.2.2 x.2.1=i:=by unfold atK;rw[e];rfl
  rw[e,if_neg (show ¬ ((i:Int)<0) by omega),hat,getD_of hm]
  split
  ·exact .inl ⟨rfl,by decide⟩
  ·rename_i hk
   split
   ·exact .inl ⟨rfl,by decide⟩
   ·rename_i ha
    have ho:opn m=true:=opn_of (by simpa using hk) (by simpa using ha)
    have hmem:=List.mem_of_getElem? hm
    split
    ·rename_i hr;exact .inl ⟨rfl,hr⟩
    ·rename_i hr
     split
     ·rename_i hz2;exact .inl ⟨rfl,hz2⟩
     ·rename_i hz2
      have hz2:(answerE s.2 (queI s x.1) m (repT s.1 m x.2.2)).1=0:=by simpa using hz2
      have hRt:=que_Right hF hz
      obtain⟨_,_,_,hns,_⟩:=answer_post hR hq hmem ho _ hz2
      exact .inr ⟨rfl,answer_right hRt hq hmem ho (ref_ok (by simpa using hr) (dfl_ok hR m)) hz2,hns,rfl⟩
 ·rw[if_pos hz];exact .inl ⟨rfl,hz⟩
def removeL (s:Sys)(j:Nat):List Int->Sys×Int
 | []=>(s,0)
 | k::l=>if (removeE s j k).1≠0 then (([],[]),(removeE s j k).1) else removeL (s.1,(removeE s j k).2) j l
def keysOf (l:List Msg):List Int:=l.map (·.1)
def removedE (s:Sys)(nm:ByteArray)(key:Int):Sys×Int :=
 if qErr s nm≠0 then (([],[]),qErr s nm)
 else if key=-1 then removeL s (queI s nm) (keysOf (queS s nm).2.2.2.2)
 else if ix (isK key) (queS s nm).2.2.2.2<0 then (([],[]),11)
 else removeL s (queI s nm) [key]
theorem f723l2q {s:Sys}(h:Right s){H:Hep}{R:List Row}(hp:Hp H R)(hq:qs H R=s.2){j:Nat}{q:Que}(hi:ix (isQ q.1) s.2=(j:Int))(hj:s.2[j]?=some q)(l:List Int)(hl:l.length<1000) :
  f723l2 1000 (fun (w10:Int×List Dsc×List Row×Hep×Unit)=>some ((([],[]):Sys),w10.1))
   (fun (w11:List Dsc×List Dsc×List Row×List Row×Hep×Unit) =>
    bif (((w11.2.2.2.1.all fun q=>(true&&(true&&(true&&(true&&(kro (List.map Kid.frz w11.2.2.2.2.1) q.2.2.2.2))))))&&true)&&true) then
    some ((w11.1,(w11.2.2.2.1.map fun q=>(q.1,(q.2.1,(q.2.2.1,(q.2.2.2.1,(kget (List.map Kid.frz w11.2.2.2.2.1) q.2.2.2.2))))))),(0:Int))
    else none)
   (q.1,(l.length:Int),0,s.1,l,[],[],R,H,())=some (removeL s j l):=by
 unfold f723l2
 refine iter_list (k:=1000) (A:=Hep×List Row) l (fun i a=>(q.1,(l.length:Int),(i:Int),s.1,l,[],[],a.2,a.1,())) (fun m a=>some (removeL (s.1,qs a.1 a.2) j m)) (fun _ a=>Hp a.1 a.2∧Right (s.1,qs a.1 a.2)∧nms (qs a.1 a.2)=nms s.2) ?_ ?_ hl (H,R) ⟨hp,by rw[hq];exact h,by rw[hq]⟩ |>.trans (by rw[hq])
 ·intro rec a ha
  unfold f723l2s
  rw[bif_false (by simp)]
  simp only[ha.1.frz,Bool.and_self,cond_true,qs_frz]
  rfl
 ·intro rec i a k hk hil ha
  obtain⟨h1,h2,h3⟩:=ha
  obtain⟨q',hq',hn'⟩:=nms_get (Q:=s.2) (Q':=qs a.1 a.2) h3 hj
  have hi':ix (isQ q'.1) (qs a.1 a.2)=(j:Int):=by rw[hn',ix_names h3,hi]
  obtain⟨H1,R1,e1,e2⟩:=f764v0q (s:=(s.1,qs a.1 a.2)) h2.r h1 rfl hi' hq' k
  rw[hn'] at e1
  unfold f723l2s
  have hg:l.getD i 0=k:=getD_of hk
  simp only[ltn hil,nn,Bool.and_self,cond_true,Int.toNat_natCast,hg,wi_succ (i:=i) (show i<9223372036854775807 by omega)]
  simp only[] at e1
  rw[e1,bind_some']
  simp only[removeL]
  by_cases hz:(removeE (s.1,qs a.1 a.2) j k).1=0
  ·obtain⟨hp1,hq1⟩:=e2 hz
   obtain⟨hr1,hr2⟩:=remove_right h2 hq' hz
   refine .inl ⟨(H1,R1),⟨hp1,by rw[hq1];exact hr1,by rw[hq1];exact hr2.trans h3⟩,?_,?_⟩
   ·rw[bif_false (by simpa using hz)]
   ·rw[if_neg (not_not_intro hz),hq1]
  ·exact .inr (by rw[bif_true (bne0 hz),if_pos hz])
theorem f723l0q {R0:Type}(K:ByteArray×List Dsc×List Que×List Int×List Dsc×List Row×Hep×Unit->Option R0)(nm:ByteArray)(F:List Dsc)(Q:List Que)(l:List Msg)(hl:l.length<=100) :
  f723l0 1000 K (nm,l,(l.length:Int),0,F,Q,[],[],[],[],())=K (nm,F,Q,keysOf l,[],[],[],()):=by
 unfold f723l0
 refine iter_list (k:=1000) (A:=List Int) l (fun i a=>(nm,l,(l.length:Int),(i:Int),F,Q,a,[],[],[],())) (fun m a=>K (nm,F,Q,a++keysOf m,[],[],[],())) (fun i a=>a.length=i) ?_ ?_ (by omega) [] rfl
 ·intro rec a ha
  unfold f723l0s
  simp[keysOf]
 ·intro rec i a x hx hi ha
  refine .inl ⟨a++[x.1],by simp[ha],?_,by simp[keysOf]⟩
  unfold f723l0s
  simp only[ltn hi,nn,Bool.and_self,cond_true,Int.toNat_natCast,getD_of hx,wi_succ (i:=i) (show i<9223372036854775807 by omega)]
  rw[bif_true (szN (by simp;omega) (by decide))]
theorem f723q {s:Sys}(hF:Few s)(nm:ByteArray)(key:Int):f723F 1000 ((s.1,s.2),nm,key)=some (removedE s nm key):=by
 have hl:=hF.len
 unfold f723F removedE
 simp only[f751one hF,bind_some']
 by_cases hz:qErr s nm=0
 ·obtain⟨hR,q,hq,hqs,hqi,hqn⟩:=que_get hF hz
  have hql:=hR.msgs q (List.mem_of_getElem? hq)
  have hj:=(List.getElem?_eq_some_iff.1 hq).1
  obtain⟨hp,hqq⟩:=own_prog s.2
  have hRt:=que_Right hF hz
  rw[hqs,if_neg (not_not_intro hz),bif_false (by simpa using hz)]
  simp only[f752q s.1 s.2 nm (by omega),hqi,bind_some',inb hj,cond_true,Int.toNat_natCast,getD_of hq]
  unfold f723p1
  simp only[]
  by_cases hk:key=-1
  ·rw[if_pos hk,bif_true (by rw[hk];rfl),f723l0q _ _ _ _ _ hql]
   simp only[f754v0q (F:=s.1) (show s.2.length<=100 by omega) hR.msgs,bind_some']
   have:=f723l2q hRt hp hqq (by rw[hqn];exact hqi) hq (keysOf q.2.2.2.2) (by unfold keysOf;rw[List.length_map];omega)
   rw[hqn] at this
   exact this
  ·rw[if_neg hk,bif_false (by simpa using hk)]
   simp only[f768q q key (by omega),bind_some']
   by_cases hx:ix (isK key) q.2.2.2.2<0
   ·rw[if_pos hx,bif_true (by simpa using hx)]
   ·rw[if_neg hx,bif_false (by simpa using hx)]
    simp only[f754v0q (F:=s.1) (show s.2.length<=100 by omega) hR.msgs,bind_some']
    have:=f723l2q hRt hp hqq (by rw[hqn];exact hqi) hq [key] (by simp)
    rw[hqn] at this
    exact this
 ·rw[if_pos hz,bif_true (bne0 hz)]
theorem removeL_right {s:Sys}(h:Right s){j:Nat}{q:Que}(hj:s.2[j]?=some q):∀ (l:List Int) (a:List Que),Right (s.1,a)->nms a=nms s.2 ->
  (removeL (s.1,a) j l).1=([],[])∧(removeL (s.1,a) j l).2≠0∨(removeL (s.1,a) j l).2=0∧Right (removeL (s.1,a) j l).1∧nms (removeL (s.1,a) j l).1.2=nms s.2∧(removeL (s.1,a) j l).1.1=s.1
 | [],a,h1,h2=>.inr ⟨rfl,h1,h2,rfl⟩
 | k::l,a,h1,h2=>by
  unfold removeL
  obtain⟨q',hq',hn'⟩:=nms_get (Q:=s.2) (Q':=a) h2 hj
  split
  ·rename_i hz;exact .inl ⟨rfl,hz⟩
  ·rename_i hz
   obtain⟨hr1,hr2⟩:=remove_right (s:=(s.1,a)) h1 hq' (by simpa using hz)
   exact removeL_right h hj l _ hr1 (hr2.trans h2)
theorem removed_right {s:Sys}(hF:Few s)(nm:ByteArray)(key:Int):(removedE s nm key).1=([],[])∧(removedE s nm key).2≠0∨(removedE s nm key).2=0∧Right (removedE s nm key).1∧nms (removedE s nm key).1.2=nms s.2∧(removedE s nm key).1.1=s.1:=by
 unfold removedE
 by_cases hz:qErr s nm=0
 ·obtain⟨hR,q,hq,hqs,hqi,hqn⟩:=que_get hF hz
  have hRt:=que_Right hF hz
  rw[if_neg (not_not_intro hz)]
  split
  ·exact removeL_right hRt hq _ s.2 hRt rfl
  ·split
   ·exact .inl ⟨rfl,by decide⟩
   ·exact removeL_right hRt hq _ s.2 hRt rfl
 ·rw[if_pos hz];exact .inl ⟨rfl,hz⟩
abbrev Act:=Int×(Snd×(Ask×ByteArray))
abbrev Res:=Int×(Int×Msg)
noncomputable def actE (s:Sys)(a:Act):Sys×Res :=
 if a.1=0 then (if (sentE s a.2.1).2.2≠0 then (s,((sentE s a.2.1).2.2,(0,dM))) else ((sentE s a.2.1).1,(0,((sentE s a.2.1).2.1,dM))))
 else if a.1=1 then (if (receivedE s a.2.2.1).2.2≠0 then (s,((receivedE s a.2.2.1).2.2,(0,dM))) else ((receivedE s a.2.2.1).1,(0,(0,(receivedE s a.2.2.1).2.1))))
 else if a.1=2 then (if (repliedE s (a.2.2.1.1,(a.2.2.1.2.2.1,a.2.2.2))).2≠0 then (s,((repliedE s (a.2.2.1.1,(a.2.2.1.2.2.1,a.2.2.2))).2,(0,dM))) else ((repliedE s (a.2.2.1.1,(a.2.2.1.2.2.1,a.2.2.2))).1,(0,(0,dM))))
 else if a.1=3 then (if (removedE s a.2.2.1.1 a.2.2.1.2.2.1).2≠0 then (s,((removedE s a.2.2.1.1 a.2.2.1.2.2.1).2,(0,dM))) else ((removedE s a.2.2.1.1 a.2.2.1.2.2.1).1,(0,(0,dM))))
 else (s,(4,(0,dM)))
theorem sent_err {s:Sys}{x:Snd}(h:(sentE s x).2.2≠0):(sentE s x).2.1=0:=by
 unfold sentE at h ⊢
 split at h
 ·rename_i c;rw[if_pos c]
 rename_i c;rw[if_neg c]
 split at h
 ·rename_i c;rw[if_pos c]
 rename_i c;rw[if_neg c]
 split at h
 ·rename_i c;rw[if_pos c]
 rename_i c;rw[if_neg c]
 split at h
 ·rename_i c;rw[if_pos c]
 rename_i c;rw[if_neg c]
 exact absurd rfl h
theorem received_err {s:Sys}{x:Ask}(h:(receivedE s x).2.2≠0):(receivedE s x).2.1=dM:=by
 unfold receivedE at h ⊢
 split at h
 ·rename_i c;rw[if_pos c]
 rename_i c;rw[if_neg c]
 split at h
 ·rename_i c;rw[if_pos c]
 rename_i c;rw[if_neg c]
 split at h
 ·rename_i c;rw[if_pos c]
 rename_i c;rw[if_neg c]
 split at h
 ·exact absurd rfl h
 rename_i c;rw[if_neg c]
 split at h
 ·rename_i c;rw[if_pos c]
 rename_i c;rw[if_neg c]
 exact absurd rfl h
structure Fine (a:Act):Prop where
 data:a.2.1.2.2.2.1.size<=600
 text:a.2.1.2.2.2.2.1.size<1000
 reply:a.2.2.2.size<1000
theorem f775q {s:Sys}(hF:Few s){a:Act}(h:Fine a):f775F 1000 ((s.1,s.2),(a.1,((a.2.1.1,(a.2.1.2.1,(a.2.1.2.2.1,(a.2.1.2.2.2.1,(a.2.1.2.2.2.2.1,a.2.1.2.2.2.2.2))))),((a.2.2.1.1,(a.2.2.1.2.1,(a.2.2.1.2.2.1,a.2.2.1.2.2.2))),a.2.2.2))))=some (actE s a):=by
 unfold f775F f775p0 actE
 by_cases h0:a.1=0
 ·rw[if_pos h0]
  simp only[h0]
  rw[bif_true (by rfl),f715q hF h.data h.text,bind_some']
  by_cases he:(sentE s a.2.1).2.2=0
  ·rw[if_neg (not_not_intro he),bif_false (by simpa using he),he];try rfl
  ·(rw[if_pos he,bif_true (bne0 he),sent_err he])
   try rfl
 rw[if_neg h0]
 by_cases h1:a.1=1
 ·rw[if_pos h1]
  simp only[h1]
  rw[bif_false (by rfl),bif_true (by rfl),f719q hF,bind_some']
  by_cases he:(receivedE s a.2.2.1).2.2=0
  ·(rw[if_neg (not_not_intro he),bif_false (by simpa using he),he])
   try rfl
  ·(rw[if_pos he,bif_true (bne0 he),received_err he])
   try rfl
 rw[if_neg h1]
 by_cases h2:a.1=2
 ·rw[if_pos h2]
  simp only[h2]
  rw[bif_false (by rfl),bif_false (by rfl),bif_true (by rfl),f721q hF (a.2.2.1.1,(a.2.2.1.2.2.1,a.2.2.2)) h.reply,bind_some']
  by_cases he:(repliedE s (a.2.2.1.1,(a.2.2.1.2.2.1,a.2.2.2))).2=0
  ·(rw[if_neg (not_not_intro he),bif_false (by simpa using he),he])
   try rfl
  ·(rw[if_pos he,bif_true (bne0 he)])
   try rfl
 rw[if_neg h2]
 by_cases h3:a.1=3
 ·rw[if_pos h3]
  simp only[h3]
  rw[bif_false (by rfl),bif_false (by rfl),bif_false (by rfl),bif_true (by rfl),f723q hF,bind_some']
  by_cases he:(removedE s a.2.2.1.1 a.2.2.1.2.2.1).2=0
  ·(rw[if_neg (not_not_intro he),bif_false (by simpa using he),he])
   try rfl
  ·(rw[if_pos he,bif_true (bne0 he)])
   try rfl
 rw[if_neg h3]
 simp only[]
 rw[bif_false (by simpa using h0),bif_false (by simpa using h1),bif_false (by simpa using h2),bif_false (by simpa using h3)]
 rfl
theorem text_ok {s:Sys}(hR:RightS s){x:Snd}(h:(textE s x).2=0):TxtOk (textE s x).1∧(strEq x.2.2.1 ByteArray.empty=true∨isId x.2.2.1=true):=by
 unfold textE at h ⊢
 split at h
 ·cases h
 rename_i c1
 rw[if_neg c1]
 split at h
 ·cases h
 rename_i c2
 rw[if_neg c2]
 split at h
 ·rename_i c3
  rw[if_pos c3]
  refine⟨⟨?_,h⟩,.inl c3⟩
  rw[c3,Bool.true_and] at c1
  simpa using c1
 ·rename_i c3
  rw[if_neg c3]
  split at h
  ·cases h
  ·rename_i hi
   rw[if_neg hi]
   obtain⟨j,d,e,hd,hj,hRd,hFd,hfe⟩:=desc_get hR hi
   rw[e,Int.toNat_natCast,getD_of hd] at h ⊢
   simp only[] at h ⊢
   split at h
   ·rename_i hz;exact absurd h hz
   ·rename_i hz
    split at h
    ·cases h
    ·rename_i hne
     obtain⟨t1,t2⟩:=txs_ok hRd (by simpa using hz)
     refine⟨⟨by simpa using hne,?_⟩,.inr ?_⟩
     ·unfold txE
      rw[if_neg (by omega),t2];rfl
     ·have hid:=(file_right hR.fe d (List.mem_of_getElem? hd)).2
      rcases ix_spec (isD x.2.2.1) s.1 with ⟨e2,_⟩ | ⟨j2,d2,e2,hd2,hp2,_⟩
      ·omega
      ·have:j2=j:=by omega
       subst this
       rw[hd] at hd2
       injection hd2 with hd2
       subst hd2
       unfold isD at hp2
       rw[← strEq_iff.1 hp2]
       exact hid
theorem names_ne {s:Sys}(h:RightS s){nm:ByteArray}(hi:¬ ix (isQ nm) s.2<0):strEq nm ByteArray.empty=false:=by
 rcases ix_spec (isQ nm) s.2 with ⟨e,_⟩ | ⟨j,q,e,hq,hp,_⟩
 ·omega
 ·unfold isQ at hp
  rw[← strEq_iff.1 hp]
  exact nm_ne (h.each q (List.mem_of_getElem? hq)).nm
theorem bdy_ok {s:Sys}(hR:RightS s){x:Snd}(hc:¬ ((!strEq x.1 ByteArray.empty||x.2.2.2.2.2)=true∧ix (isQ x.1) s.2<0))(ht:(textE s x).2=0)(nx:Int):msgE s.2 (nx,bdy x (textE s x).1)=0:=by
 obtain⟨t1,t2⟩:=text_ok hR ht
 unfold msgE bdy frmB
 simp only[t1.ne,t1.tx]
 have hid:(!strEq x.2.2.1 ByteArray.empty&&!isId x.2.2.1)=false:=by
  rcases t2 with e | e
  ·rw[e];rfl
  ·rw[e];simp
 have hq:(ix (isQ x.1) s.2==-1)=decide (ix (isQ x.1) s.2<0):=ix_neg _ _
 rw[hid,hq]
 cases he:strEq x.1 ByteArray.empty with
 | true =>
  have hn:x.2.2.2.2.2=false:=by
   cases hb:x.2.2.2.2.2 with
   | false=>rfl
   | true =>
    exfalso
    apply hc
    refine⟨by simp[hb],?_⟩
    apply Decidable.byContradiction
    intro c
    have:=names_ne hR c
    rw[he] at this
    cases this
  rw[hn]
  simp
 | false =>
  rw[he] at hc
  have hi:¬ ix (isQ x.1) s.2<0:=fun c=>hc ⟨by simp,c⟩
  rw[decide_eq_false hi]
  cases x.2.2.2.2.2<;>simp
theorem sent_right {s:Sys}(hF:Few s){x:Snd}(h:(sentE s x).2.2=0):Right (sentE s x).1∧nms (sentE s x).1.2=nms s.2∧(sentE s x).1.1=s.1:=by
 unfold sentE at h ⊢
 split at h
 ·rename_i hz;exact absurd h hz
 ·rename_i hz
  rw[if_neg hz]
  have hz:qErr s x.2.1=0:=by simpa using hz
  obtain⟨hR,q,hq,hqs,hqi,hqn⟩:=que_get hF hz
  split at h
  ·cases h
  ·rename_i hc
   rw[if_neg hc]
   split at h
   ·rename_i ht;exact absurd h ht
   ·rename_i ht
    rw[if_neg ht]
    rw[hqs] at h ⊢
    split at h
    ·rename_i hp;exact absurd h hp
    ·rename_i hp
     rw[if_neg hp]
     have hRt:=que_Right hF hz
     exact⟨hRt.set hq (put_name _ _) ((hR.each q (List.mem_of_getElem? hq)).put (by simpa using hp) (bdy_ok hR hc (by simpa using ht) _)),nms_set hq (put_name _ _),rfl⟩
theorem received_right {s:Sys}(hF:Few s){x:Ask}(h:(receivedE s x).2.2=0):Right (receivedE s x).1∧nms (receivedE s x).1.2=nms s.2∧(receivedE s x).1.1=s.1:=by
 unfold receivedE at h ⊢
 split at h
 ·rename_i hz;exact absurd h hz
 ·rename_i hz
  rw[if_neg hz]
  have hz:qErr s x.1=0:=by simpa using hz
  obtain⟨hR,q,hq,hqs,hqi,hqn⟩:=que_get hF hz
  have hRt:=que_Right hF hz
  have hrq:=hR.each q (List.mem_of_getElem? hq)
  rw[hqs] at h ⊢
  split at h
  ·cases h
  ·rename_i hw
   rw[if_neg hw]
   split at h
   ·cases h
   ·rename_i hc
    rw[if_neg hc]
    obtain⟨i,m,e,hm,hi⟩:=chosen_rng hc
    rw[e,Int.toNat_natCast,getD_of hm] at h ⊢
    split at h
    ·rename_i hb
     rw[if_pos hb]
     exact⟨hRt.set (q':=withL q (q.2.2.2.2.set i (setOld m))) hq rfl (hrq.turn (m':=setOld m) hm rfl (hrq.iff.1 m (List.mem_of_getElem? hm)).1),nms_set (q':=withL q (q.2.2.2.2.set i (setOld m))) hq rfl,rfl⟩
    ·rename_i hb
     rw[if_neg hb]
     split at h
     ·rename_i hz2;exact absurd h hz2
     ·rename_i hz2
      rw[if_neg hz2]
      obtain⟨r1,r2⟩:=remove_right hRt hq (key:=m.1) (by simpa using hz2)
      exact⟨r1,r2,rfl⟩
theorem act_right {s:Sys}(h:Right s)(a:Act):Right (actE s a).1∧nms (actE s a).1.2=nms s.2∧(actE s a).1.1=s.1:=by
 have hF:=h.r.few
 unfold actE
 split
 ·split
  ·exact⟨h,rfl,rfl⟩
  ·rename_i he;exact sent_right hF (by simpa using he)
 ·split
  ·split
   ·exact⟨h,rfl,rfl⟩
   ·rename_i he;exact received_right hF (by simpa using he)
  ·split
   ·split
    ·exact⟨h,rfl,rfl⟩
    ·rename_i he
     rcases replied_right hF (a.2.2.1.1,(a.2.2.1.2.2.1,a.2.2.2)) with ⟨_,c⟩ | ⟨_,c⟩
     ·exact absurd c he
     ·exact c
   ·split
    ·split
     ·exact⟨h,rfl,rfl⟩
     ·rename_i he
      rcases removed_right hF a.2.2.1.1 a.2.2.1.2.2.1 with ⟨_,c⟩ | ⟨_,c⟩
      ·exact absurd c he
      ·exact c
    ·exact⟨h,rfl,rfl⟩
noncomputable def runE:Sys->List Act->Sys×List Res
 | s,[]=>(s,[])
 | s,a::l=>((runE (actE s a).1 l).1,(actE s a).2::(runE (actE s a).1 l).2)
theorem run_right:∀ (l:List Act) {s:Sys},Right s->Right (runE s l).1∧nms (runE s l).1.2=nms s.2∧(runE s l).2.length=l.length
 | [],s,h=>⟨h,rfl,rfl⟩
 | a::l,s,h=>by
  obtain⟨h1,h2,_⟩:=act_right h a
  obtain⟨r1,r2,r3⟩:=run_right l h1
  exact⟨r1,r2.trans h2,by simp[runE,r3]⟩
def dA:Act:=(0,((ByteArray.empty,(ByteArray.empty,(ByteArray.empty,(ByteArray.empty,(ByteArray.empty,false))))),((ByteArray.empty,(0,(0,false))),ByteArray.empty)))
def longE (s:Sys)(l:List Act):Int:=if (sysE s).2≠0 then (sysE s).2 else if l.length > 60 then 2 else 0
theorem f726q {s:Sys}(hF:Few s){l:List Act}(hl:l.length<=62)(hf:∀ a∈l,Fine a) :
  f726F 1000 ((s.1,s.2),l)=some (if longE s l≠0 then (([],[]),[],longE s l) else ((runE s l).1,(runE s l).2,0)):=by
 unfold f726F
 simp only[f751q hF [] (by simp),f761q,bind_some',f760q _ (show ([_,_]:List Int).length<1000 by simp),fst0_2]
 have hc:(if (if (sysE s).2≠0 then (sysE s).2 else if ([]:List ByteArray).any (fun n=>ix (isQ n) s.2==-1) then 11 else 0)≠0 then (if (sysE s).2≠0 then (sysE s).2 else if ([]:List ByteArray).any (fun n=>ix (isQ n) s.2==-1) then 11 else 0) else bif decide ((l.length:Int) > 60) then 2 else 0)=longE s l:=by
  unfold longE
  by_cases h:(sysE s).2=0
  ·simp only[h,ne_eq,not_true_eq_false,if_false,List.any_nil,Bool.false_eq_true]
   by_cases h2:l.length > 60
   ·rw[if_pos h2,bif_true (by rw[decide_eq_true_eq];omega)]
   ·rw[if_neg h2,bif_false (by rw[decide_eq_false_iff_not];omega)]
  ·rw[if_pos h,if_pos h]
   rw[if_pos h]
 rw[hc]
 by_cases hz:longE s l=0
 ·rw[if_neg (not_not_intro hz),bif_false (by simpa using hz)]
  have hR:Right s:=by
   unfold longE at hz
   split at hz
   ·rename_i h;exact absurd hz h
   ·rename_i h;exact sys_Right hF.file (by simpa using h)
  unfold f726l0
  refine iter_list (k:=1000) (A:=Sys×List Res) l (fun i a=>(l,(l.length:Int),(i:Int),a.1.1,a.1.2,a.2,[],[],())) (fun m a=>some (((runE a.1 m).1.1,(runE a.1 m).1.2),a.2++(runE a.1 m).2,0)) (fun i a=>Right a.1∧a.2.length=i) ?_ ?_ (by omega) (s,[]) ⟨hR,rfl⟩
  ·intro rec a ha
   unfold f726l0s
   simp[runE]
  ·intro rec i a x hx hi ha
   obtain⟨h1,h2⟩:=ha
   refine .inl ⟨((actE a.1 x).1,a.2++[(actE a.1 x).2]),⟨(act_right h1 x).1,by simp[h2]⟩,?_,by simp[runE]⟩
   have hg:l.getD i dA=x:=getD_of hx
   unfold dA at hg
   unfold f726l0s
   simp only[ltn hi,nn,Bool.and_self,cond_true,Int.toNat_natCast,hg,f775q h1.r.few (hf x (List.mem_of_getElem? hx)),bind_some',wi_succ (i:=i) (show i<9223372036854775807 by omega)]
   rw[bif_true (szN (by simp;omega) (by decide))]
 ·rw[if_pos hz,bif_true (bne0 hz)]
def shortA (a:Act):Bool:=decide (a.2.1.2.2.2.1.size<=514)&&(decide (a.2.1.2.2.2.2.1.size<=300)&&decide (a.2.2.2.size<=100))
def short (l:List Act):Bool:=decide (l.length<=62)&&l.all shortA
theorem short_fine {l:List Act}(h:short l=true):l.length<=62∧∀ a∈l,Fine a:=by
 unfold short at h
 rw[Bool.and_eq_true,decide_eq_true_eq,List.all_eq_true] at h
 refine⟨h.1,fun a ha=>?_⟩
 have:=h.2 a ha
 unfold shortA at this
 simp only[Bool.and_eq_true,decide_eq_true_eq] at this
 exact⟨by omega,by omega,by omega⟩
theorem f725q (l:List Act):f725F 1000 l=some (short l):=by
 unfold f725F short
 by_cases h:l.length<=62
 ·rw[decide_eq_true h,Bool.true_and,bif_false (by rw[decide_eq_false_iff_not];omega)]
  unfold f725l0
  refine iter_list (k:=1000) (R:=Bool) (A:=Unit) l (fun i _=>(l,(i:Int),())) (fun m _=>some (m.all shortA)) (fun _ _=>True) ?_ ?_ (by omega) () trivial
  ·intro rec _ _
   unfold f725l0s
   simp
  ·intro rec i _ x hx hi _
   have hg:l.getD i dA=x:=getD_of hx
   unfold dA at hg
   unfold f725l0s
   simp only[ltn hi,nn,Bool.and_self,cond_true,Int.toNat_natCast,hg,f714q,bind_some',wi_succ (i:=i) (show i<9223372036854775807 by omega),List.all_cons]
   unfold shortA
   by_cases h1:x.2.1.2.2.2.1.size<=514∧x.2.1.2.2.2.2.1.size<=300
   ·rw[bif_false (by simp[h1])]
    by_cases h2:x.2.2.2.size<=100
    ·exact .inl ⟨(),trivial,by rw[bif_false (by rw[decide_eq_false_iff_not];omega)],by simp[h1,h2]⟩
    ·exact .inr (by rw[bif_true (by rw[decide_eq_true_eq];omega)];simp[h2])
   ·refine .inr ?_
    have hb:(decide (x.2.1.2.2.2.1.size<=514)&&decide (x.2.1.2.2.2.2.1.size<=300))=false:=by
     rw[Bool.and_eq_false_iff,decide_eq_false_iff_not,decide_eq_false_iff_not];omega
    rw[bif_true (by rw[hb];rfl),← Bool.and_assoc (decide _) (decide _) (decide _),hb]
    rfl
 ·rw[decide_eq_false h,bif_true (by rw[decide_eq_true_eq];omega)];rfl
def core (m:Msg):Int×(Int×(ByteArray×(ByteArray×(ByteArray×Int)))):=(m.1,(m.2.1,(m.2.2.1,(m.2.2.2.1,(m.2.2.2.2.1,m.2.2.2.2.2.2.2)))))
theorem core_key {a b:Msg}(h:core a=core b):a.1=b.1:=congrArg (fun z=>z.1) h
structure Kp (v:Bool)(a b:Que):Prop where
 nm:b.1=a.1
 nx:a.2.2.2.1<=b.2.2.2.1
 nx1:v=false->b.2.2.2.1<=a.2.2.2.1+1
 old:∀ n∈b.2.2.2.2,n.1<a.2.2.2.1->∃ m∈a.2.2.2.2,core m=core n
 stay:v=false->∀ m∈a.2.2.2.2,opn m=true->∃ n∈b.2.2.2.2,n.1=m.1
theorem Kp.refl (v:Bool)(a:Que):Kp v a a:=⟨rfl,Int.le_refl _,fun _=>by omega,fun n h _=>⟨n,h,rfl⟩,fun _ m h _=>⟨m,h,rfl⟩⟩
theorem Kp.trans {a b c:Que}(h1:Kp true a b)(h2:Kp true b c):Kp true a c:=by
 refine⟨h2.nm.trans h1.nm,Int.le_trans h1.nx h2.nx,(fun e=>by cases e),fun n hn hlt=>?_,(fun e=>by cases e)⟩
 have:=h1.nx
 obtain⟨m,hm,hc⟩:=h2.old n hn (by omega)
 obtain⟨m',hm',hc'⟩:=h1.old m hm (by rw[core_key hc];exact hlt)
 exact⟨m',hm',hc'.trans hc⟩
theorem dropI_mem {l:List Msg}{i:Nat}{m:Msg}(h:m∈dropI l i):m∈l:=(drop_sub l i).subset h
theorem Kp.put {q:Que}{b:Bdy}(hz:(putQ q b).1=0):Kp false q (putQ q b).2:=by
  refine⟨put_name _ _,?_,fun _=>?_,?_,fun _ m hm ho=>⟨m,put_mem hz hm ho,rfl⟩⟩
  all_goals
    unfold putQ at hz ⊢
    by_cases h3:q.2.2.2.1=1000000
    · rw[if_pos h3] at hz;cases hz
    rw[if_neg h3] at hz ⊢
    by_cases hf:(q.2.2.2.2.length:Int)=q.2.1
    · rw[if_pos hf] at hz ⊢
      by_cases hw:q.2.2.1=false∨ix shut q.2.2.2.2<0
      · rw[if_pos hw] at hz;cases hz
      · rw[if_neg hw]
        first
          | (show q.2.2.2.1<=q.2.2.2.1+1;omega)
          | (show q.2.2.2.1+1<=q.2.2.2.1+1;omega)
          | (intro n hn hlt
             rcases List.mem_append.1 (show n∈dropI q.2.2.2.2 (ix shut q.2.2.2.2).toNat++[(q.2.2.2.1,b)] from hn) with hn | hn
             · exact⟨n,dropI_mem hn,rfl⟩
             · rw[List.mem_singleton.1 hn] at hlt
               exact absurd hlt (by show ¬ q.2.2.2.1<q.2.2.2.1;omega))
    · rw[if_neg hf]
      first
        | (show q.2.2.2.1<=q.2.2.2.1+1;omega)
        | (show q.2.2.2.1+1<=q.2.2.2.1+1;omega)
        | (intro n hn hlt
           rcases List.mem_append.1 (show n∈q.2.2.2.2++[(q.2.2.2.1,b)] from hn) with hn | hn
           · exact⟨n,hn,rfl⟩
           · rw[List.mem_singleton.1 hn] at hlt
             exact absurd hlt (by show ¬ q.2.2.2.1<q.2.2.2.1;omega))
theorem Kp.turn {q:Que}{i:Nat}{m m':Msg}(hm:q.2.2.2.2[i]?=some m)(hc:core m'=core m):Kp true q (withL q (q.2.2.2.2.set i m')):=by
 refine⟨rfl,Int.le_refl _,(fun e=>by cases e),fun n hn _=>?_,(fun e=>by cases e)⟩
 rcases List.mem_or_eq_of_mem_set (show n∈q.2.2.2.2.set i m' from hn) with hn | rfl
 ·exact⟨n,hn,rfl⟩
 ·exact⟨m,List.mem_of_getElem? hm,hc.symm⟩
theorem Kp.drop (q:Que)(i:Nat):Kp true q (withL q (dropI q.2.2.2.2 i)) :=
 ⟨rfl,Int.le_refl _,(fun e=>by cases e),fun n hn _=>⟨n,dropI_mem hn,rfl⟩,(fun e=>by cases e)⟩
def KpS (v:Bool)(Q Q':List Que):Prop:=∀ (k:Nat) (q:Que),Q[k]?=some q->∃ q',Q'[k]?=some q'∧Kp v q q'
theorem KpS.refl (v:Bool)(Q:List Que):KpS v Q Q:=fun k q h=>⟨q,h,Kp.refl v q⟩
theorem KpS.trans {A B C:List Que}(h1:KpS true A B)(h2:KpS true B C):KpS true A C:=by
 intro k q hq
 obtain⟨q1,h3,h4⟩:=h1 k q hq
 obtain⟨q2,h5,h6⟩:=h2 k q1 h3
 exact⟨q2,h5,h4.trans h6⟩
theorem KpS.set {v:Bool}{Q:List Que}{j:Nat}{q q':Que}(hj:Q[j]?=some q)(h:Kp v q q'):KpS v Q (Q.set j q'):=by
 intro k x hx
 by_cases e:j=k
 ·subst e
  rw[hj] at hx
  injection hx with hx
  subst hx
  exact⟨q',List.getElem?_set_self (List.getElem?_eq_some_iff.1 hj).1,h⟩
 ·exact⟨x,by rw[List.getElem?_set_ne e];exact hx,Kp.refl v x⟩
def emptyQ (q:Que):Que:=(q.1,(q.2.1,(q.2.2.1,(1,[]))))
def emptyS (s:Sys):Sys:=(s.1,s.2.map emptyQ)
theorem f716v1q {F:List Dsc}{Q:List Que}(hF:FewF F)(hl:Q.length<=100)(hm:∀ q∈Q,q.2.2.2.2.length<=100):f716v1F 1000 (F,Q,())=some (F,Q,()):=by
 unfold f716v1F f716v1p2
 simp only[f736q hF,bind_some']
 have lp:∀ (q:Que) (m:List Que),Q=q::m->f716v1l0 1000 (fun w7:List Dsc×List Que×List Dsc×List Que×Unit=>some (w7.2.2.1,w7.2.2.2.1,())) (1,F,Q,[],[],F,[q],())=some (F,Q,()):=by
  intro q m hq
  have key:=iter_from (k:=1000) (R:=List Dsc×List Que×Unit) (A:=List Que) (Step:=fun rec v=>f716v1l0s 1000 rec (fun w7:List Dsc×List Que×List Dsc×List Que×Unit=>some (w7.2.2.1,w7.2.2.2.1,())) v) Q (fun i a=>((i:Int),F,Q,[],[],F,a,())) (fun m a=>some (F,a++m,())) (fun i a=>a.length=i) ?_ ?_ (by omega) 1 [q] (by rw[hq];simp) rfl
  ·unfold f716v1l0
   rw[show ((1:Int))=((1:Nat):Int) from rfl,key,hq]
   rfl
  ·intro rec a _
   unfold f716v1l0s
   simp
  ·intro rec i a x hx hi ha
   have hd:=hm x (List.mem_of_getElem? hx)
   refine .inl ⟨a++[x],by simp[ha],?_,by simp⟩
   unfold f716v1l0s
   simp only[ltn hi,nn,Bool.and_self,cond_true,Int.toNat_natCast,getD_of hx,wi_succ (i:=i) (by omega),List.nil_append]
   rw[bif_true (szN (by simp;omega) (by decide)),bif_true (szN (by simp;omega) (by decide))]
 unfold f716v1l1
 rw[iterS_1000]
 cases Q with
 | nil=>rfl
 | cons q m =>
  unfold f716v1l1s
  have hq:=hm q (by simp)
  have hc:decide ((0:Int)<(((q::m).length:Nat):Int))=true:=by simp
  simp only[hc,decide_true,Bool.and_self,cond_true,Int.toNat_zero,List.getD_cons_zero,List.nil_append]
  rw[bif_true (by simp),bif_true (szN (by simp;omega) (by decide)),bif_true (szN (by simp) (by decide))]
  exact lp q m rfl
theorem f730v0q {s:Sys}(h:RightS s):f730v0F 1000 (s.1,s.2,())=some (s.1,s.2.map emptyQ,()):=by
 have hl:=h.len
 unfold f730v0F
 simp only[f716v1q h.file (show s.2.length<=100 by omega) h.msgs,bind_some']
 unfold f730v0l0
 have key:=iter_for (k:=1000) (R:=List Dsc×List Que×Unit) (Step:=fun rec v=>f730v0l0s 1000 rec (fun w4:List Dsc×List Que×List Dsc×List Que×Unit=>some (w4.2.2.1,w4.2.2.2.1,())) v) (fun i=>((i:Int),[],[],s.1,(s.2.take i).map emptyQ++s.2.drop i,())) s.2.length (fin:=some (s.1,s.2.map emptyQ,())) ?_ ?_ (by omega)
 ·simp only[List.take_zero,List.map_nil,List.nil_append,List.drop_zero] at key
  exact key
 ·intro rec i hi
  have hx:s.2[i]?=some (s.2[i]'hi):=List.getElem?_eq_getElem hi
  have hlen:((s.2.take i).map emptyQ++s.2.drop i).length=s.2.length:=by simp;omega
  have hge:((s.2.take i).map emptyQ++s.2.drop i)[i]?=some (s.2[i]'hi):=by
   rw[List.getElem?_append_right (by simp;omega)]
   simp[Nat.min_eq_left (Nat.le_of_lt hi)]
  unfold f730v0l0s
  simp only[hlen,ltn hi,nn,Bool.and_self,cond_true,Int.toNat_natCast,getD_of hge,List.length_set,getD_set (show i<((s.2.take i).map emptyQ++s.2.drop i).length by omega),List.set_set,wi_succ (i:=i) (show i<9223372036854775807 by omega)]
  congr 5
  rw[List.set_append_right _ _ (by simp;omega)]
  have e:i - ((s.2.take i).map emptyQ).length=0:=by simp;omega
  rw[e,List.drop_eq_getElem_cons hi,List.set_cons_zero,List.take_succ_eq_append_getElem hi,List.map_append,List.append_assoc]
  rfl
 ·intro rec
  unfold f730v0l0s
  simp
theorem empty_right {s:Sys}(h:Right s):Right (emptyS s):=by
 have hn:nms (emptyS s).2=nms s.2:=by
  unfold nms emptyS
  rw[List.map_map];rfl
 refine⟨⟨h.r.file,h.r.fe,by simp[emptyS,h.r.len],fun q hq=>?_⟩,by rw[hn];exact h.ord⟩
 obtain⟨q0,hq0,rfl⟩:=List.mem_map.1 (show q∈s.2.map emptyQ from hq)
 obtain⟨a1,a2,a3,a4,a5,a6,a7⟩:=h.r.each q0 hq0
 exact⟨a1,a2,a3,by show (1:Int)<=1;omega,by show (1:Int)<=1000000;omega,by show ((0:Nat):Int)<=q0.2.1;omega,rfl⟩
def isRep (nm:ByteArray)(k:Int)(m:Msg):Bool:=m.2.1==2&&(strEq m.2.2.2.2.1 nm&&m.2.2.2.2.2.2.2==k)
def opK (k:Int)(m:Msg):Bool:=m.1==k&&opn m
structure Gd (s:Sys):Prop where
 r:Right s
 w:∀ q∈s.2,q.2.2.1=false
 lo:∀ p∈s.2,∀ r∈p.2.2.2.2,r.2.1=2->∀ q,s.2[queI s r.2.2.2.2.1]?=some q->r.2.2.2.2.2.2.2<q.2.2.2.1
def Inv (s:Sys)(tn:ByteArray)(k:Int)(fn:ByteArray):Prop :=
 ∃ qt qf:Que,s.2[queI s tn]?=some qt∧ix (isQ tn) s.2=(queI s tn:Int)∧qt.1=tn∧s.2[queI s fn]?=some qf∧ix (isQ fn) s.2=(queI s fn:Int)∧k<qt.2.2.2.1 ∧
  (∀ m∈qt.2.2.2.2,m.1=k->m.2.1=1∧m.2.2.2.2.1=fn)∧qf.2.2.2.2.countP (isRep tn k)=if qt.2.2.2.2.any (opK k)=true then 0 else 1
theorem queI_names {s s':Sys}(h:nms s'.2=nms s.2)(nm:ByteArray):queI s' nm=queI s nm:=by
 unfold queI;rw[ix_names h]
theorem set_split {α:Type}{l:List α}{i:Nat}{x:α}(h:l[i]?=some x)(x':α):l=l.take i++x::l.drop (i+1)∧l.set i x'=l.take i++x'::l.drop (i+1):=by
 obtain⟨hi,hx⟩:=List.getElem?_eq_some_iff.1 h
 refine⟨?_,?_⟩
 ·rw[← hx,← List.drop_eq_getElem_cons hi,List.take_append_drop]
 ·rw[List.set_eq_take_append_cons_drop,if_pos hi]
theorem any_set {α:Type}{l:List α}{i:Nat}{x x':α}(h:l[i]?=some x){p:α->Bool}(hp:p x'=p x):(l.set i x').any p=l.any p:=by
 obtain⟨h1,h2⟩:=set_split h x'
 rw[h2,List.any_append,List.any_cons,hp,← List.any_cons,← List.any_append,← h1]
theorem count_set {α:Type}{l:List α}{i:Nat}{x x':α}(h:l[i]?=some x){p:α->Bool}(hp:p x'=p x):(l.set i x').countP p=l.countP p:=by
 obtain⟨h1,h2⟩:=set_split h x'
 rw[h2,List.countP_append,List.countP_cons,hp,← List.countP_cons,← List.countP_append,← h1]
theorem any_drop {l:List Msg}{i:Nat}{x:Msg}(h:l[i]?=some x){p:Msg->Bool}(hp:p x=false):(dropI l i).any p=l.any p:=by
 obtain⟨h1,_⟩:=set_split h x
 conv=>rhs;rw[h1]
 unfold dropI
 rw[List.any_append,List.any_append,List.any_cons,hp,Bool.false_or]
theorem Inv.set {s:Sys}{tn fn:ByteArray}{k:Int}(h:Inv s tn k fn){j:Nat}{q q':Que}(hj:s.2[j]?=some q)(hn:q'.1=q.1)(hx:q.2.2.2.1<=q'.2.2.2.1)
  (hold:∀ n∈q'.2.2.2.2,n.1<q.2.2.2.1->∃ m∈q.2.2.2.2,core m=core n)
  (h2:j=queI s tn->q'.2.2.2.2.any (opK k)=q.2.2.2.2.any (opK k)) (h4:j=queI s fn->q'.2.2.2.2.countP (isRep tn k)=q.2.2.2.2.countP (isRep tn k)):Inv (s.1,s.2.set j q') tn k fn:=by
 obtain⟨qt,qf,a1,a2,a3,a4,a5,a6,a7,a8⟩:=h
 have hns:nms (s.2.set j q')=nms s.2:=nms_set hj hn
 have hjl:=(List.getElem?_eq_some_iff.1 hj).1
 have et:queI (s.1,s.2.set j q') tn=queI s tn:=queI_names (s':=(s.1,s.2.set j q')) hns tn
 have ef:queI (s.1,s.2.set j q') fn=queI s fn:=queI_names (s':=(s.1,s.2.set j q')) hns fn
 have nt:∀ nm:ByteArray,ix (isQ nm) (s.2.set j q')=ix (isQ nm) s.2:=fun nm=>ix_names hns nm
 have ht:∃ qt',(s.2.set j q')[queI s tn]?=some qt'∧qt'.1=tn∧k<qt'.2.2.2.1∧(∀ m∈qt'.2.2.2.2,m.1=k->m.2.1=1∧m.2.2.2.2.1=fn)∧qt'.2.2.2.2.any (opK k)=qt.2.2.2.2.any (opK k):=by
  by_cases e:j=queI s tn
  ·subst e
   rw[hj] at a1
   injection a1 with a1
   subst a1
   refine⟨q',List.getElem?_set_self hjl,hn.trans a3,by omega,fun m hm hk=>?_,h2 rfl⟩
   obtain⟨m0,hm0,hc⟩:=hold m hm (by omega)
   obtain⟨b1,b2⟩:=a7 m0 hm0 ((core_key hc).trans hk)
   have c2:m0.2.1=m.2.1:=congrArg (fun z=>z.2.1) hc
   have c5:m0.2.2.2.2.1=m.2.2.2.2.1:=congrArg (fun z=>z.2.2.2.2.1) hc
   exact⟨c2 ▸ b1,c5 ▸ b2⟩
  ·exact⟨qt,by rw[List.getElem?_set_ne e];exact a1,a3,a6,a7,rfl⟩
 have hf:∃ qf',(s.2.set j q')[queI s fn]?=some qf'∧qf'.2.2.2.2.countP (isRep tn k)=qf.2.2.2.2.countP (isRep tn k):=by
  by_cases e:j=queI s fn
  ·subst e
   rw[hj] at a4
   injection a4 with a4
   subst a4
   exact⟨q',List.getElem?_set_self hjl,h4 rfl⟩
  ·exact⟨qf,by rw[List.getElem?_set_ne e];exact a4,rfl⟩
 obtain⟨qt',b1,b2,b3,b4,b5⟩:=ht
 obtain⟨qf',c1,c2⟩:=hf
 exact⟨qt',qf',by rw[et];exact b1,by rw[et];exact (nt tn).trans a2,b2,by rw[ef];exact c1,by rw[ef];exact (nt fn).trans a5,b3,b4,by rw[c2,a8,b5]⟩
theorem Gd.set {s:Sys}(h:Gd s){j:Nat}{q q':Que}(hj:s.2[j]?=some q)(hn:q'.1=q.1)(hr:RightQ s.2 q')(hw:q'.2.2.1=q.2.2.1)(hx:q.2.2.2.1<=q'.2.2.2.1)
  (hm:∀ n∈q'.2.2.2.2,n.2.1=2->(∃ m∈q.2.2.2.2,core m=core n)∨∀ p,s.2[queI s n.2.2.2.2.1]?=some p->n.2.2.2.2.2.2.2<p.2.2.2.1):Gd (s.1,s.2.set j q'):=by
 have hns:nms (s.2.set j q')=nms s.2:=nms_set hj hn
 have hjl:=(List.getElem?_eq_some_iff.1 hj).1
 have et:∀ nm,queI (s.1,s.2.set j q') nm=queI s nm:=fun nm=>queI_names (s':=(s.1,s.2.set j q')) hns nm
 have grow:∀ (nm:ByteArray) (p:Que) (z:Int),(s.2.set j q')[queI s nm]?=some p->(∀ p0,s.2[queI s nm]?=some p0->z<p0.2.2.2.1)->z<p.2.2.2.1:=by
  intro nm p z hp hz
  by_cases e:j=queI s nm
  ·subst e
   rw[List.getElem?_set_self hjl] at hp
   injection hp with hp
   subst hp
   have:=hz q hj
   omega
  ·rw[List.getElem?_set_ne e] at hp
   exact hz p hp
 refine⟨h.r.set hj hn hr,fun x hx=>?_,fun p hp r hrm hk x hxs=>?_⟩
 ·rcases List.mem_or_eq_of_mem_set hx with hx | rfl
  ·exact h.w x hx
  ·rw[hw];exact h.w q (List.mem_of_getElem? hj)
 ·rw[et] at hxs
  refine grow _ _ _ hxs (fun p0 hp0=>?_)
  rcases List.mem_or_eq_of_mem_set hp with hp | rfl
  ·exact h.lo p hp r hrm hk p0 hp0
  ·rcases hm r hrm hk with ⟨m,hmm,hc⟩ | g
   ·have c2:m.2.1=r.2.1:=congrArg (fun z=>z.2.1) hc
    have c5:m.2.2.2.2.1=r.2.2.2.2.1:=congrArg (fun z=>z.2.2.2.2.1) hc
    have c6:m.2.2.2.2.2.2.2=r.2.2.2.2.2.2.2:=congrArg (fun z=>z.2.2.2.2.2) hc
    rw[← c6]
    exact h.lo q (List.mem_of_getElem? hj) m hmm (c2.trans hk) p0 (by rw[c5];exact hp0)
   ·exact g p0 hp0
structure Pres (asks:Nat->Prop)(s s':Sys):Prop where
 fl:s'.1=s.1
 nm:nms s'.2=nms s.2
 gd:Gd s'
 iv:∀ tn k fn,asks (queI s fn)->Inv s tn k fn->Inv s' tn k fn
theorem Pres.refl {asks:Nat->Prop}{s:Sys}(h:Gd s):Pres asks s s:=⟨rfl,rfl,h,fun _ _ _ _ h=>h⟩
theorem Pres.trans {asks:Nat->Prop}{a b c:Sys}(h1:Pres asks a b)(h2:Pres asks b c):Pres asks a c :=
 ⟨h2.fl.trans h1.fl,h2.nm.trans h1.nm,h2.gd,fun tn k fn ha hi=>h2.iv tn k fn (by rw[queI_names h1.nm];exact ha) (h1.iv tn k fn ha hi)⟩
theorem put_nowrap {q:Que}(hw:q.2.2.1=false){b:Bdy}(hz:(putQ q b).1=0):(putQ q b).2=(q.1,(q.2.1,(q.2.2.1,(q.2.2.2.1+1,q.2.2.2.2++[(q.2.2.2.1,b)])))):=by
 unfold putQ at hz ⊢
 by_cases h3:q.2.2.2.1=1000000
 ·rw[if_pos h3] at hz;cases hz
 rw[if_neg h3] at hz ⊢
 by_cases hf:(q.2.2.2.2.length:Int)=q.2.1
 ·rw[if_pos hf,if_pos (.inl hw)] at hz;cases hz
 ·rw[if_neg hf]
theorem put_any {q:Que}{b:Bdy}{k:Int}(hk:k<q.2.2.2.1):(q.2.2.2.2++[(q.2.2.2.1,b)]).any (opK k)=q.2.2.2.2.any (opK k):=by
 rw[List.any_append]
 have:opK k (q.2.2.2.1,b)=false:=by
  unfold opK
  rw[show (((q.2.2.2.1,b):Msg).1==k)=false by simp;omega];rfl
 simp[this]
theorem put_count {q:Que}{b:Bdy}{tn:ByteArray}{k:Int}(hb:isRep tn k (q.2.2.2.1,b)=false):(q.2.2.2.2++[(q.2.2.2.1,b)]).countP (isRep tn k)=q.2.2.2.2.countP (isRep tn k):=by
 rw[List.countP_append]
 simp[hb]
theorem inv_put {s:Sys}(hG:Gd s){j:Nat}{q:Que}(hj:s.2[j]?=some q){b:Bdy}(hz:(putQ q b).1=0){tn fn:ByteArray}{k:Int}(h:Inv s tn k fn)(hb:j=queI s fn->isRep tn k (q.2.2.2.1,b)=false):Inv (s.1,s.2.set j (putQ q b).2) tn k fn:=by
 have hp:=put_nowrap (hG.w q (List.mem_of_getElem? hj)) hz
 have hkp:=Kp.put hz
 refine h.set hj (put_name _ _) hkp.nx hkp.old (fun e=>?_) (fun e=>?_)
 ·obtain⟨qt,qf,a1,a2,a3,a4,a5,a6,a7,a8⟩:=h
  rw[← e,hj] at a1
  injection a1 with a1
  subst a1
  rw[hp]
  exact put_any a6
 ·rw[hp]
  exact put_count (hb e)
theorem gd_put {s:Sys}(hG:Gd s){j:Nat}{q:Que}(hj:s.2[j]?=some q){b:Bdy}(hz:(putQ q b).1=0)(he:msgE s.2 (q.2.2.2.1,b)=0)
  (hb:b.1=2->∀ p,s.2[queI s b.2.2.2.1]?=some p->b.2.2.2.2.2.2<p.2.2.2.1):Gd (s.1,s.2.set j (putQ q b).2):=by
 have hp:=put_nowrap (hG.w q (List.mem_of_getElem? hj)) hz
 have hrq:=hG.r.r.each q (List.mem_of_getElem? hj)
 refine hG.set hj (put_name _ _) (hrq.put hz he) (by rw[hp]) (Kp.put hz).nx (fun n hn hk=>?_)
 rw[hp] at hn
 rcases List.mem_append.1 (show n∈q.2.2.2.2++[(q.2.2.2.1,b)] from hn) with hn | hn
 ·exact .inl ⟨n,hn,rfl⟩
 ·rw[List.mem_singleton.1 hn] at hk ⊢
  exact .inr (hb hk)
theorem pres_turn {asks:Nat->Prop}{s:Sys}(hG:Gd s){j:Nat}{q:Que}(hj:s.2[j]?=some q){i:Nat}{m m':Msg}(hm:q.2.2.2.2[i]?=some m)(hc:core m'=core m)(he:msgE s.2 m'=0)(ho:opn m'=opn m):Pres asks s (s.1,s.2.set j (withL q (q.2.2.2.2.set i m'))):=by
 have hrq:=hG.r.r.each q (List.mem_of_getElem? hj)
 have hkp:=Kp.turn hm hc
 have c1:m'.1=m.1:=core_key hc
 have c2:m'.2.1=m.2.1:=congrArg (fun z=>z.2.1) hc
 have c5:m'.2.2.2.2.1=m.2.2.2.2.1:=congrArg (fun z=>z.2.2.2.2.1) hc
 have c6:m'.2.2.2.2.2.2.2=m.2.2.2.2.2.2.2:=congrArg (fun z=>z.2.2.2.2.2) hc
 refine⟨rfl,nms_set (q':=withL q _) hj rfl,hG.set (q':=withL q _) hj rfl (hrq.turn hm c1 he) rfl (Int.le_refl _) (fun n hn hk=>.inl ?_),fun tn k fn _ h=>h.set (q':=withL q _) hj rfl (Int.le_refl _) hkp.old (fun _=>?_) (fun _=>?_)⟩
 ·rcases List.mem_or_eq_of_mem_set (show n∈q.2.2.2.2.set i m' from hn) with hn | rfl
  ·exact⟨n,hn,rfl⟩
  ·exact⟨m,List.mem_of_getElem? hm,hc.symm⟩
 ·exact any_set hm (by unfold opK;rw[c1,ho])
 ·exact count_set hm (by unfold isRep;rw[c2,c5,c6])
theorem pres_drop {asks:Nat->Prop}{s:Sys}(hG:Gd s){j:Nat}{q:Que}(hj:s.2[j]?=some q)(ha:¬ asks j){i:Nat}{m:Msg}(hm:q.2.2.2.2[i]?=some m)(ho:opn m=false):Pres asks s (s.1,s.2.set j (withL q (dropI q.2.2.2.2 i))):=by
 have hrq:=hG.r.r.each q (List.mem_of_getElem? hj)
 refine⟨rfl,nms_set (q':=withL q _) hj rfl,hG.set (q':=withL q _) hj rfl (hrq.sub (drop_sub _ _)) rfl (Int.le_refl _) (fun n hn hk=>.inl ⟨n,dropI_mem hn,rfl⟩),fun tn k fn hf h=>h.set (q':=withL q _) hj rfl (Int.le_refl _) (Kp.drop q i).old (fun _=>?_) (fun e=>?_)⟩
 ·exact any_drop hm (by unfold opK;rw[ho,Bool.and_false])
 ·exact absurd (e ▸ hf) ha
theorem pres_answer {asks:Nat->Prop}{s:Sys}(hG:Gd s){j:Nat}{q:Que}(hj:s.2[j]?=some q)(hji:ix (isQ q.1) s.2=(j:Int)){m:Msg}(hm:m∈q.2.2.2.2)(ho:opn m=true){t:ByteArray}(ht:TxtOk t)(hz:(answerE s.2 j m t).1=0):Pres asks s (s.1,(answerE s.2 j m t).2):=by
 have hrq:=hG.r.r.each q (List.mem_of_getElem? hj)
 obtain⟨qf0,hf0,hfi,hfn⟩:=open_from (hrq.iff.1 m hm).1 (open_kind ho).1
 have hjl:=(List.getElem?_eq_some_iff.1 hj).1
 obtain⟨qj0,hqj0⟩:∃ qj,(s.2.set (fromI s.2 m) (putQ qf0 (rep m q.1 t)).2)[j]?=some qj:=⟨_,List.getElem?_eq_getElem (by rw[List.length_set];exact hjl)⟩
 have hz1:(putQ qf0 (rep m q.1 t)).1=0:=by
  rw[answer_eq hj hf0 t hqj0] at hz
  apply Decidable.byContradiction
  intro c
  rw[if_pos c] at hz
  exact c hz
 obtain⟨qj,hqj,hmj,hnj,hor⟩:=answer_place hj hm ho hf0 hz1
 rw[answer_eq hj hf0 t hqj,if_neg (not_not_intro hz1)]
 have hk:=hrq.iff.1 m hm
 have hnx:=hrq.n2
 have hjq:queI s q.1=j:=by unfold queI;rw[hji];rfl
 have g1:Gd (s.1,s.2.set (fromI s.2 m) (putQ qf0 (rep m q.1 t)).2):=gd_put hG hf0 hz1 (rep_ok _ hrq.nm (hG.r.names hj) ht (by omega) (by omega)) (fun _ p hp=>by
  have hp:s.2[queI s q.1]?=some p:=hp
  rw[hjq,hj] at hp
  injection hp with hp
  subst hp
  exact hk.2.2)
 have n1:nms (s.2.set (fromI s.2 m) (putQ qf0 (rep m q.1 t)).2)=nms s.2:=nms_set hf0 (put_name _ _)
 obtain⟨i,x,hix,hx,hil,hxk⟩:=key_found hmj
 have hrj:RightQ (s.2.set (fromI s.2 m) (putQ qf0 (rep m q.1 t)).2) qj:=g1.r.r.each qj (List.mem_of_getElem? hqj)
 have hxm:x=m:=hrj.uniq (List.mem_of_getElem? hx) hmj hxk
 subst hxm
 have hat:atK qj.2.2.2.2 x.1=i:=by unfold atK;rw[hix];rfl
 have hw:markL qj.2.2.2.2 x.1=qj.2.2.2.2.set i (setAns x):=by unfold markL;rw[hat,getD_of hx]
 rw[hw]
 have hmx:msgE (s.2.set (fromI s.2 x) (putQ qf0 (rep x q.1 t)).2) x=0:=(hrj.iff.1 x hmj).1
 have g2:Gd (s.1,(s.2.set (fromI s.2 x) (putQ qf0 (rep x q.1 t)).2).set j (withL qj (qj.2.2.2.2.set i (setAns x)))) :=
  g1.set (q':=withL qj _) hqj rfl (hrj.turn (m':=setAns x) hx rfl (msg_ans hmx (open_kind ho).1)) rfl (Int.le_refl _) (fun n hn hk2=>.inl (by
   rcases List.mem_or_eq_of_mem_set (show n∈qj.2.2.2.2.set i (setAns x) from hn) with hn | rfl
   ·exact⟨n,hn,rfl⟩
   ·exact⟨x,hmj,rfl⟩))
 refine⟨rfl,(nms_set (q':=withL qj (qj.2.2.2.2.set i (setAns x))) hqj rfl).trans n1,g2,fun tn k fn ha h=>?_⟩
 have hkp2:∀ n∈(withL qj (qj.2.2.2.2.set i (setAns x))).2.2.2.2,n.1<qj.2.2.2.1->∃ m∈qj.2.2.2.2,core m=core n:=(Kp.turn (q:=qj) (m':=setAns x) hx rfl).old
 by_cases hc:q.1=tn∧x.1=k
 ·-- the inquiry itself
  obtain⟨e1,e2⟩:=hc
  subst e1
  subst e2
  obtain⟨qt,qf,a1,a2,a3,a4,a5,a6,a7,a8⟩:=h
  rw[hjq,hj] at a1
  injection a1 with a1
  subst a1
  obtain⟨b1,b2⟩:=a7 x hm rfl
  have hff:fromI s.2 x=queI s fn:=by unfold fromI queI;rw[b2]
  rw[hff] at hqj g1 hrj hf0 g2 n1 ⊢
  rw[hf0] at a4
  injection a4 with a4
  subst a4
  have hopen:q.2.2.2.2.any (opK x.1)=true:=List.any_eq_true.2 ⟨x,hm,by unfold opK;rw[ho];simp⟩
  rw[hopen,if_pos rfl] at a8
  have hpn:=put_nowrap (hG.w qf0 (List.mem_of_getElem? hf0)) hz1
  have hrep:isRep q.1 x.1 (qf0.2.2.2.1,rep x q.1 t)=true:=by
   unfold isRep rep
   simp[strEq_self]
  have hcnt:(putQ qf0 (rep x q.1 t)).2.2.2.2.2.countP (isRep q.1 x.1)=1:=by
   rw[hpn]
   show (qf0.2.2.2.2++[(qf0.2.2.2.1,rep x q.1 t)]).countP (isRep q.1 x.1)=1
   rw[List.countP_append,a8]
   simp[hrep]
  have hfl:=(List.getElem?_eq_some_iff.1 hf0).1
  have hns2:nms ((s.2.set (queI s fn) (putQ qf0 (rep x q.1 t)).2).set j (withL qj (qj.2.2.2.2.set i (setAns x))))=nms s.2:=(nms_set (q':=withL qj (qj.2.2.2.2.set i (setAns x))) hqj rfl).trans n1
  have et:=queI_names (s:=s) (s':=(s.1,(s.2.set (queI s fn) (putQ qf0 (rep x q.1 t)).2).set j (withL qj (qj.2.2.2.2.set i (setAns x))))) hns2
  have en:∀ nm:ByteArray,ix (isQ nm) ((s.2.set (queI s fn) (putQ qf0 (rep x q.1 t)).2).set j (withL qj (qj.2.2.2.2.set i (setAns x))))=ix (isQ nm) s.2:=fun nm=>ix_names hns2 nm
  have hclosed:(qj.2.2.2.2.set i (setAns x)).any (opK x.1)=false:=by
   rw[List.any_eq_false]
   intro y hy
   rcases List.mem_or_eq_of_mem_set hy with hy2 | rfl
   ·intro hop
    unfold opK at hop
    rw[Bool.and_eq_true] at hop
    have hyx:y=x:=hrj.uniq hy2 hmj (by simpa using hop.1)
    have rr:RightQ ((s.2.set (queI s fn) (putQ qf0 (rep x q.1 t)).2).set j (withL qj (qj.2.2.2.2.set i (setAns x)))) (withL qj (qj.2.2.2.2.set i (setAns x))):=g2.r.r.each _ (List.mem_of_getElem? (List.getElem?_set_self (by rw[List.length_set];exact hjl)))
    have hin:setAns x∈(withL qj (qj.2.2.2.2.set i (setAns x))).2.2.2.2:=List.mem_of_getElem? (List.getElem?_set_self hil)
    have:=rr.uniq hy hin (by rw[hyx];rfl)
    rw[this] at hop
    have hna:opn (setAns x)=false:=by unfold opn setAns;simp
    rw[hna] at hop
    exact absurd hop.2 (by decide)
   ·unfold opK
    have hna:opn (setAns x)=false:=by unfold opn setAns;simp
    rw[hna,Bool.and_false]
    decide
  have hfq:∃ qf',((s.2.set (queI s fn) (putQ qf0 (rep x q.1 t)).2).set j (withL qj (qj.2.2.2.2.set i (setAns x))))[queI s fn]?=some qf'∧qf'.2.2.2.2.countP (isRep q.1 x.1)=1:=by
   by_cases e:j=queI s fn
   ·subst e
    rw[List.getElem?_set_self hfl] at hqj
    injection hqj with hqj
    subst hqj
    refine⟨_,List.getElem?_set_self (by rw[List.length_set];exact hfl),?_⟩
    show ((putQ qf0 (rep x q.1 t)).2.2.2.2.2.set i (setAns x)).countP (isRep q.1 x.1)=1
    rw[count_set hx (by rfl),hcnt]
   ·exact⟨_,by rw[List.getElem?_set_ne e,List.getElem?_set_self hfl],hcnt⟩
  obtain⟨qf',c1,c2⟩:=hfq
  refine⟨withL qj (qj.2.2.2.2.set i (setAns x)),qf',?_,?_,hnj,?_,?_,?_,fun y hy hk2=>?_,?_⟩
  ·rw[et,hjq];exact List.getElem?_set_self (by rw[List.length_set];exact hjl)
  ·rw[et];exact (en q.1).trans a2
  ·rw[et];exact c1
  ·rw[et];exact (en fn).trans a5
  ·show x.1<qj.2.2.2.1
   rcases hor with e | ⟨e,e'⟩
   ·rw[e];exact a6
   ·rw[e]
    have:=(Kp.put hz1).nx
    rw[e'] at this
    rw[e']
    omega
  ·rcases List.mem_or_eq_of_mem_set (show y∈qj.2.2.2.2.set i (setAns x) from hy) with hy | rfl
   ·have:=hrj.uniq hy hmj hk2
    subst this
    exact⟨b1,b2⟩
   ·exact⟨b1,b2⟩
  ·rw[c2]
   show 1=if (qj.2.2.2.2.set i (setAns x)).any (opK x.1)=true then 0 else 1
   rw[hclosed];rfl
 ·have hnr:isRep tn k (qf0.2.2.2.1,rep x q.1 t)=false:=by
   unfold isRep rep
   simp only[beq_self_eq_true,Bool.true_and]
   cases e1:strEq q.1 tn with
   | false=>rfl
   | true =>
    have:=strEq_iff.1 e1
    simp only[Bool.true_and,beq_eq_false_iff_ne]
    intro c
    exact hc ⟨this,c⟩
  have i1:=inv_put hG hf0 hz1 h (fun _=>hnr)
  refine i1.set (q':=withL qj _) hqj rfl (Int.le_refl _) hkp2 (fun e=>?_) (fun _=>count_set hx rfl)
  rw[queI_names (s:=s) (s':=(s.1,s.2.set (fromI s.2 x) (putQ qf0 (rep x q.1 t)).2)) n1] at e
  have hne:x.1≠k:=by
   intro c
   apply hc
   refine⟨?_,c⟩
   obtain⟨qt,qf,a1,a2,a3,_⟩:=h
   rw[← e,hj] at a1
   injection a1 with a1
   subst a1
   exact a3
  exact any_set hx (by
   unfold opK
   have h1:((setAns x).1==k)=false:=by simpa [setAns] using hne
   have h2:(x.1==k)=false:=by simpa using hne
   rw[h1,h2];rfl)
theorem answer_shut {s:Sys}(h:Right s){j:Nat}{q:Que}(hj:s.2[j]?=some q){m:Msg}(hm:m∈q.2.2.2.2)(ho:opn m=true)(t:ByteArray)(hz:(answerE s.2 j m t).1=0) :
  ∃ q',(answerE s.2 j m t).2[j]?=some q'∧q'.1=q.1∧∃ x∈q'.2.2.2.2,x.1=m.1∧opn x=false:=by
 have hrq:=h.r.each q (List.mem_of_getElem? hj)
 obtain⟨qf,hf,hfi,hfn⟩:=open_from (hrq.iff.1 m hm).1 (open_kind ho).1
 have hjl:=(List.getElem?_eq_some_iff.1 hj).1
 obtain⟨qj0,hqj0⟩:∃ qj,(s.2.set (fromI s.2 m) (putQ qf (rep m q.1 t)).2)[j]?=some qj:=⟨_,List.getElem?_eq_getElem (by rw[List.length_set];exact hjl)⟩
 have hz1:(putQ qf (rep m q.1 t)).1=0:=by
  rw[answer_eq hj hf t hqj0] at hz
  apply Decidable.byContradiction
  intro c
  rw[if_pos c] at hz
  exact c hz
 obtain⟨qj,hqj,hmj,hnj,hor⟩:=answer_place hj hm ho hf hz1
 rw[answer_eq hj hf t hqj,if_neg (not_not_intro hz1)]
 obtain⟨i,x,hix,hx,hil,hxk⟩:=key_found hmj
 have hat:atK qj.2.2.2.2 m.1=i:=by unfold atK;rw[hix];rfl
 refine⟨_,List.getElem?_set_self (by rw[List.length_set];exact hjl),hnj,setAns x,?_,hxk,by unfold opn setAns;simp⟩
 show setAns x∈markL qj.2.2.2.2 m.1
 unfold markL
 rw[hat,getD_of hx]
 exact List.mem_iff_getElem?.2 ⟨i,List.getElem?_set_self hil⟩
theorem pres_remove {asks:Nat->Prop}{s:Sys}(hG:Gd s){j:Nat}{q:Que}(hj:s.2[j]?=some q)(hji:ix (isQ q.1) s.2=(j:Int))(ha:¬ asks j){key:Int}(hz:(removeE s j key).1=0):Pres asks s (s.1,(removeE s j key).2):=by
 rcases ix_spec (isK key) q.2.2.2.2 with ⟨e,_⟩ | ⟨i,m,e,hm,hkm,_⟩
 ·rw[remove_none hj (by rw[e];decide)]
  exact Pres.refl hG
 have hmk:m.1=key:=by unfold isK at hkm;simpa using hkm
 cases ho:opn m with
 | false =>
  rw[remove_shut hj e hm ho]
  exact pres_drop hG hj ha hm ho
 | true =>
  have hmem:=List.mem_of_getElem? hm
  rw[remove_open hj e hm ho] at hz ⊢
  by_cases hz1:(answerE s.2 j m (dfl s.1 m)).1=0
  ·rw[if_neg (not_not_intro hz1)]
   have P1:=pres_answer (asks:=asks) hG hj hji hmem ho (dfl_ok hG.r.r m) hz1
   obtain⟨q',hq',hn',x,hx,hxk,hxo⟩:=answer_shut hG.r hj hmem ho _ hz1
   rw[getD_of hq']
   have hr':=P1.gd.r.r.each q' (List.mem_of_getElem? hq')
   obtain⟨i1,x1,e1,hx1,hi1,hk1⟩:=key_found hx
   have hxx:x1=x:=hr'.uniq (List.mem_of_getElem? hx1) hx hk1
   subst hxx
   have hat:atK q'.2.2.2.2 key=i1:=by unfold atK;rw[← hmk,← hxk,e1];rfl
   rw[hat]
   exact P1.trans (pres_drop (s:=(s.1,(answerE s.2 j m (dfl s.1 m)).2)) P1.gd hq' ha hx1 hxo)
  ·rw[if_pos hz1] at hz;exact absurd hz hz1
theorem pres_removeL {asks:Nat->Prop}{j:Nat}(ha:¬ asks j){nm:ByteArray}:∀ (l:List Int) (s:Sys) {q:Que},Gd s->s.2[j]?=some q->q.1=nm->ix (isQ nm) s.2=(j:Int)->(removeL s j l).2=0->Pres asks s (removeL s j l).1
 | [],s,q,hG,_,_,_,_=>Pres.refl hG
 | k::l,s,q,hG,hj,hn,hi,h=>by
  unfold removeL at h ⊢
  split at h
  ·rename_i hz;exact absurd h hz
  ·rename_i hz
   rw[if_neg hz]
   have hz:(removeE s j k).1=0:=by simpa using hz
   have P:=pres_remove (asks:=asks) hG hj (by rw[hn];exact hi) ha hz
   obtain⟨q',hq',hn'⟩:=nms_get (Q:=s.2) (Q':=(removeE s j k).2) P.nm hj
   exact P.trans (pres_removeL ha l (s.1,(removeE s j k).2) P.gd hq' (hn'.trans hn) (by rw[show ix (isQ nm) (removeE s j k).2=ix (isQ nm) s.2 from ix_names P.nm nm];exact hi) h)
def removes (a:Act):Bool:=a.1==3||(a.1==1&&a.2.2.1.2.2.2)
def keepP (asks:Nat->Prop)(s:Sys)(a:Act):Prop:=removes a=true->ix (isQ a.2.2.1.1) s.2=-1∨¬ asks (queI s a.2.2.1.1)
theorem qerr_ix {s:Sys}{nm:ByteArray}(h:qErr s nm=0):ix (isQ nm) s.2≠-1:=by
 unfold qErr at h
 split at h
 ·rename_i h1;exact absurd h h1
 ·split at h
  ·cases h
  ·rename_i h2;simpa using h2
theorem keep_not {asks:Nat->Prop}{s:Sys}{a:Act}(hk:keepP asks s a)(hr:removes a=true)(hz:qErr s a.2.2.1.1=0):¬ asks (queI s a.2.2.1.1):=by
 rcases hk hr with c | c
 ·exact absurd c (qerr_ix hz)
 ·exact c
theorem pres_act {asks:Nat->Prop}{s:Sys}(hG:Gd s){a:Act}(hk:keepP asks s a):Pres asks s (actE s a).1:=by
 have hF:=hG.r.r.few
 unfold actE
 by_cases h0:a.1=0
 ·rw[if_pos h0]
  split
  ·exact Pres.refl hG
  ·rename_i he
   have he:(sentE s a.2.1).2.2=0:=by simpa using he
   generalize a.2.1=x at he
   unfold sentE at he ⊢
   split at he
   ·rename_i hz;exact absurd he hz
   ·rename_i hz
    rw[if_neg hz]
    obtain⟨hR,q,hq,hqs,hqi,hqn⟩:=que_get hF (show qErr s x.2.1=0 by simpa using hz)
    split at he
    ·cases he
    ·rename_i hc
     rw[if_neg hc]
     split at he
     ·rename_i ht;exact absurd he ht
     ·rename_i ht
      rw[if_neg ht]
      rw[hqs] at he ⊢
      split at he
      ·rename_i hp;exact absurd he hp
      ·rename_i hp
       rw[if_neg hp]
       have hp:(putQ q (bdy x (textE s x).1)).1=0:=by simpa using hp
       have hkind:(bdy x (textE s x).1).1≠2:=by unfold bdy;simp only[];split<;>decide
       refine⟨rfl,nms_set hq (put_name _ _),gd_put hG hq hp (bdy_ok hR hc (by simpa using ht) _) (fun c=>absurd c hkind),fun tn k fn _ h=>inv_put hG hq hp h (fun _=>?_)⟩
       unfold isRep
       rw[show (((q.2.2.2.1,bdy x (textE s x).1):Msg).2.1==2)=false by simpa using hkind]
       rfl
 rw[if_neg h0]
 by_cases h1:a.1=1
 ·rw[if_pos h1]
  split
  ·exact Pres.refl hG
  ·rename_i he
   have h:(receivedE s a.2.2.1).2.2=0:=by simpa using he
   unfold receivedE at h ⊢
   split at h
   ·rename_i hz;exact absurd h hz
   ·rename_i hz
    rw[if_neg hz]
    have hz:qErr s a.2.2.1.1=0:=by simpa using hz
    obtain⟨hR,q,hq,hqs,hqi,hqn⟩:=que_get hF hz
    have hrq:=hR.each q (List.mem_of_getElem? hq)
    rw[hqs] at h ⊢
    split at h
    ·cases h
    ·rename_i hw
     rw[if_neg hw]
     split at h
     ·cases h
     ·rename_i hc
      rw[if_neg hc]
      obtain⟨i,m,e,hm,hi⟩:=chosen_rng hc
      rw[e,Int.toNat_natCast,getD_of hm] at h ⊢
      split at h
      ·rename_i hb
       rw[if_pos hb]
       exact pres_turn hG hq (m':=setOld m) hm rfl (hrq.iff.1 m (List.mem_of_getElem? hm)).1 rfl
      ·rename_i hb
       rw[if_neg hb]
       split at h
       ·rename_i hz2;exact absurd h hz2
       ·rename_i hz2
        rw[if_neg hz2]
        exact pres_remove hG hq (by rw[hqn];exact hqi) (keep_not hk (by unfold removes;rw[h1];simpa using hb) hz) (by simpa using hz2)
 rw[if_neg h1]
 by_cases h2:a.1=2
 ·rw[if_pos h2]
  split
  ·exact Pres.refl hG
  ·rename_i he
   have h:(repliedE s (a.2.2.1.1,(a.2.2.1.2.2.1,a.2.2.2))).2=0:=by simpa using he
   generalize (a.2.2.1.1,(a.2.2.1.2.2.1,a.2.2.2))=x at h
   unfold repliedE at h ⊢
   by_cases hz:qErr s x.1=0
   ·obtain⟨hR,q,hq,hqs,hqi,hqn⟩:=que_get hF hz
    rw[hqs,if_neg (not_not_intro hz)] at h ⊢
    rcases ix_spec (isK x.2.1) q.2.2.2.2 with ⟨e,_⟩ | ⟨i,m,e,hm,hkm,_⟩
    ·rw[e,if_pos (by decide)] at h;cases h
    have hat:atK q.2.2.2.2 x.2.1=i:=by unfold atK;rw[e];rfl
    rw[e,if_neg (show ¬ ((i:Int)<0) by omega),hat,getD_of hm] at h ⊢
    split at h
    ·cases h
    ·rename_i hk
     rw[if_neg hk]
     split at h
     ·cases h
     ·rename_i ha
      rw[if_neg ha]
      have ho:opn m=true:=opn_of (by simpa using hk) (by simpa using ha)
      split at h
      ·rename_i hr;exact absurd h hr
      ·rename_i hr
       rw[if_neg hr]
       split at h
       ·rename_i hz2;exact absurd h hz2
       ·rename_i hz2
        rw[if_neg hz2]
        exact pres_answer hG hq (by rw[hqn];exact hqi) (List.mem_of_getElem? hm) ho (ref_ok (by simpa using hr) (dfl_ok hR m)) (by simpa using hz2)
   ·rw[if_pos hz] at h;exact absurd h hz
 rw[if_neg h2]
 by_cases h3:a.1=3
 ·rw[if_pos h3]
  split
  ·exact Pres.refl hG
  ·rename_i he
   have h:(removedE s a.2.2.1.1 a.2.2.1.2.2.1).2=0:=by simpa using he
   have hrm:removes a=true:=by unfold removes;rw[h3];rfl
   unfold removedE at h ⊢
   by_cases hz:qErr s a.2.2.1.1=0
   ·obtain⟨hR,q,hq,hqs,hqi,hqn⟩:=que_get hF hz
    have hna:=keep_not hk hrm hz
    rw[if_neg (not_not_intro hz)] at h ⊢
    split at h
    ·rename_i c
     rw[if_pos c]
     exact pres_removeL hna _ s hG hq hqn hqi h
    ·rename_i c
     rw[if_neg c]
     split at h
     ·cases h
     ·rename_i c2
      rw[if_neg c2]
      exact pres_removeL hna _ s hG hq hqn hqi h
   ·rw[if_pos hz] at h;exact absurd h hz
 ·rw[if_neg h3]
  exact Pres.refl hG
theorem pres_run {asks:Nat->Prop}:∀ (l:List Act) {s:Sys},Gd s->(∀ a∈l,keepP asks s a)->Pres asks s (runE s l).1
 | [],s,h,_=>Pres.refl h
 | a::l,s,h,hk=>by
  have P:=pres_act h (hk a (by simp))
  exact P.trans (pres_run l P.gd (fun b hb hr=>by
   rcases hk b (by simp[hb]) hr with c | c
   ·exact .inl (by rw[ix_names P.nm];exact c)
   ·exact .inr (by rw[queI_names P.nm];exact c)))
theorem sent_inv {s:Sys}(hG:Gd s){x:Snd}(hq0:x.2.2.2.2.2=true)(he:(sentE s x).2.2=0):Inv (sentE s x).1 x.2.1 (sentE s x).2.1 x.1:=by
 have hF:=hG.r.r.few
 unfold sentE at he ⊢
 split at he
 ·rename_i hz;exact absurd he hz
 rename_i hz
 rw[if_neg hz]
 obtain⟨hR,q,hq,hqs,hqi,hqn⟩:=que_get hF (show qErr s x.2.1=0 by simpa using hz)
 split at he
 ·cases he
 rename_i hc
 rw[if_neg hc]
 split at he
 ·rename_i ht;exact absurd he ht
 rename_i ht
 rw[if_neg ht]
 rw[hqs] at he ⊢
 split at he
 ·rename_i hp;exact absurd he hp
 rename_i hp
 rw[if_neg hp]
 have hp:(putQ q (bdy x (textE s x).1)).1=0:=by simpa using hp
 have hpn:=put_nowrap (hG.w q (List.mem_of_getElem? hq)) hp
 have hql:=(List.getElem?_eq_some_iff.1 hq).1
 have hfi:¬ ix (isQ x.1) s.2<0:=fun c=>hc ⟨by rw[hq0,Bool.or_true],c⟩
 obtain⟨f,qf,ef,hqf,_,_⟩:∃ (f:Nat) (qf:Que),ix (isQ x.1) s.2=(f:Int)∧s.2[f]?=some qf∧f<s.2.length∧True:=by
  rcases ix_spec (isQ x.1) s.2 with ⟨e,_⟩ | ⟨f,qf,e,h,_,_⟩
  ·omega
  ·exact⟨f,qf,e,h,(List.getElem?_eq_some_iff.1 h).1,trivial⟩
 have hf:queI s x.1=f:=by unfold queI;rw[ef];rfl
 have hns:nms (s.2.set (queI s x.2.1) (putQ q (bdy x (textE s x).1)).2)=nms s.2:=nms_set hq (put_name _ _)
 have et:=queI_names (s:=s) (s':=(s.1,s.2.set (queI s x.2.1) (putQ q (bdy x (textE s x).1)).2)) hns
 have en:∀ nm:ByteArray,ix (isQ nm) (s.2.set (queI s x.2.1) (putQ q (bdy x (textE s x).1)).2)=ix (isQ nm) s.2:=fun nm=>ix_names hns nm
 have hrq:=hR.each q (List.mem_of_getElem? hq)
 have hkind:(bdy x (textE s x).1).1=1:=by unfold bdy;simp only[];rw[hq0,if_pos rfl]
 have none_yet:∀ p∈s.2,p.2.2.2.2.countP (isRep x.2.1 q.2.2.2.1)=0:=by
  intro p hpm
  rw[List.countP_eq_zero]
  intro r hr hc2
  unfold isRep at hc2
  rw[Bool.and_eq_true,Bool.and_eq_true] at hc2
  obtain⟨c1,c2,c3⟩:=hc2
  have c2:=strEq_iff.1 c2
  have:=hG.lo p hpm r hr (by simpa using c1) q (by rw[c2];exact hq)
  have c3:r.2.2.2.2.2.2.2=q.2.2.2.1:=by simpa using c3
  omega
 have hnew:isRep x.2.1 q.2.2.2.1 (q.2.2.2.1,bdy x (textE s x).1)=false:=by
  unfold isRep
  rw[show (((q.2.2.2.1,bdy x (textE s x).1):Msg).2.1==2)=false by rw[show ((q.2.2.2.1,bdy x (textE s x).1):Msg).2.1=1 from hkind];rfl]
  rfl
 have hfq:∃ qf',(s.2.set (queI s x.2.1) (putQ q (bdy x (textE s x).1)).2)[queI s x.1]?=some qf'∧qf'.2.2.2.2.countP (isRep x.2.1 q.2.2.2.1)=0:=by
  by_cases e:queI s x.2.1=queI s x.1
  ·refine⟨_,by rw[← e];exact List.getElem?_set_self hql,?_⟩
   rw[hpn]
   exact (put_count hnew).trans (none_yet q (List.mem_of_getElem? hq))
  ·exact⟨qf,by rw[List.getElem?_set_ne e,hf];exact hqf,none_yet qf (List.mem_of_getElem? hqf)⟩
 obtain⟨qf',c1,c2⟩:=hfq
 refine⟨(putQ q (bdy x (textE s x).1)).2,qf',?_,?_,(put_name _ _).trans hqn,?_,?_,?_,fun m hm hk=>?_,?_⟩
 ·rw[et];exact List.getElem?_set_self hql
 ·rw[et];exact (en x.2.1).trans hqi
 ·rw[et];exact c1
 ·rw[et,hf];exact (en x.1).trans ef
 ·rw[hpn];show q.2.2.2.1<q.2.2.2.1+1;omega
 ·rw[hpn] at hm
  rcases List.mem_append.1 (show m∈q.2.2.2.2++[(q.2.2.2.1,bdy x (textE s x).1)] from hm) with hm | hm
  ·have:=(hrq.iff.1 m hm).2.2
   have hk:m.1=q.2.2.2.1:=hk
   omega
  ·rw[List.mem_singleton.1 hm]
   exact⟨hkind,rfl⟩
 ·rw[c2,hpn]
  have:(q.2.2.2.2++[(q.2.2.2.1,bdy x (textE s x).1)]).any (opK q.2.2.2.1)=true:=by
   rw[List.any_append]
   have:opK q.2.2.2.1 (q.2.2.2.1,bdy x (textE s x).1)=true:=by
    unfold opK
    rw[opn_of (m:=(q.2.2.2.1,bdy x (textE s x).1)) hkind rfl]
    simp
   simp[this]
  show 0=if (q.2.2.2.2++[(q.2.2.2.1,bdy x (textE s x).1)]).any (opK q.2.2.2.1)=true then 0 else 1
  rw[this];rfl
theorem run_inv {asks:Nat->Prop}:∀ (l:List Act) {s:Sys},Gd s->(∀ a∈l,keepP asks s a)->∀ (i:Nat) (a:Act) (r:Res),l[i]?=some a->(runE s l).2[i]?=some r->a.1=0->a.2.1.2.2.2.2.2=true->r.1=0->asks (queI s a.2.1.1) ->
  Inv (runE s l).1 a.2.1.2.1 r.2.1 a.2.1.1
 | [],s,_,_,i,a,r,ha,_,_,_,_,_=>by simp at ha
 | b::l,s,h,hk,i,a,r,ha,hr,h0,hq,hc,has=>by
  have P:=pres_act h (hk b (by simp))
  have hk':∀ c∈l,keepP asks (actE s b).1 c:=fun c hcm hrm=>by
   rcases hk c (by simp[hcm]) hrm with c | c
   ·exact .inl (by rw[ix_names P.nm];exact c)
   ·exact .inr (by rw[queI_names P.nm];exact c)
  cases i with
  | zero =>
   have ha:b=a:=by simpa using ha
   subst ha
   have hr:(actE s b).2=r:=by simpa [runE] using hr
   have P2:=pres_run l P.gd hk'
   have hI:Inv (actE s b).1 b.2.1.2.1 r.2.1 b.2.1.1:=by
    rw[← hr] at hc ⊢
    unfold actE at hc ⊢
    rw[if_pos h0] at hc ⊢
    split at hc
    ·rename_i he;exact absurd hc he
    ·rename_i he
     rw[if_neg he]
     exact sent_inv h hq (by simpa using he)
   exact P2.iv _ _ _ (by rw[queI_names P.nm];exact has) hI
  | succ i =>
   exact run_inv l P.gd hk' i a r (by simpa using ha) (by simpa [runE] using hr) h0 hq hc (by rw[queI_names P.nm];exact has)
def noWr (q:Que):Que:=(q.1,(q.2.1,(false,(q.2.2.2.1,q.2.2.2.2))))
def beginS (s:Sys):Sys:=(s.1,(s.2.map emptyQ).map noWr)
theorem begin_gd {s:Sys}(h:Right s):Gd (beginS s):=by
 have h0:=empty_right h
 have hn:nms (beginS s).2=nms s.2:=by
  unfold nms beginS
  rw[List.map_map,List.map_map];rfl
 have empt:∀ q∈(beginS s).2,q.2.2.2.2=[]∧q.2.2.1=false:=by
  intro q hq
  obtain⟨q1,hq1,rfl⟩:=List.mem_map.1 (show q∈(s.2.map emptyQ).map noWr from hq)
  obtain⟨q0,hq0,rfl⟩:=List.mem_map.1 hq1
  exact⟨rfl,rfl⟩
 refine⟨⟨⟨h.r.file,h.r.fe,by simp[beginS,h.r.len],fun q hq=>?_⟩,by rw[hn];exact h.ord⟩,fun q hq=>(empt q hq).2,fun p hp r hr=>?_⟩
 ·obtain⟨q1,hq1,rfl⟩:=List.mem_map.1 (show q∈(s.2.map emptyQ).map noWr from hq)
  obtain⟨q0,hq0,rfl⟩:=List.mem_map.1 hq1
  obtain⟨a1,a2,a3,a4,a5,a6,a7⟩:=h.r.each q0 hq0
  exact⟨a1,a2,a3,by show (1:Int)<=1;omega,by show (1:Int)<=1000000;omega,by show ((0:Nat):Int)<=q0.2.1;omega,rfl⟩
 ·rw[(empt p hp).1] at hr;cases hr
theorem f707l0q {R0:Type}(K:List Act×List Dsc×List Que×Unit->Option R0)(l:List Act)(F:List Dsc)(Q:List Que)(hl:Q.length<=100):f707l0 1000 K (l,0,F,Q,())=K (l,F,Q.map noWr,()):=by
 unfold f707l0
 have key:=iter_for (k:=1000) (Step:=fun rec v=>f707l0s 1000 rec K v) (fun i=>(l,(i:Int),F,(Q.take i).map noWr++Q.drop i,())) Q.length (fin:=K (l,F,Q.map noWr,())) ?_ ?_ (by omega)
 ·simp only[List.take_zero,List.map_nil,List.nil_append,List.drop_zero] at key
  exact key
 ·intro rec i hi
  have hlen:((Q.take i).map noWr++Q.drop i).length=Q.length:=by simp;omega
  have hge:((Q.take i).map noWr++Q.drop i)[i]?=some (Q[i]'hi):=by
   rw[List.getElem?_append_right (by simp;omega)]
   simp[Nat.min_eq_left (Nat.le_of_lt hi)]
  unfold f707l0s
  simp only[hlen,ltn hi,nn,Bool.and_self,cond_true,Int.toNat_natCast,getD_of hge,wi_succ (i:=i) (show i<9223372036854775807 by omega)]
  congr 5
  rw[List.set_append_right _ _ (by simp;omega)]
  have e:i - ((Q.take i).map noWr).length=0:=by simp;omega
  rw[e,List.drop_eq_getElem_cons hi,List.set_cons_zero,List.take_succ_eq_append_getElem hi,List.map_append,List.append_assoc]
  rfl
 ·intro rec
  unfold f707l0s
  simp
def askB (Q:List Que)(a:Act)(k:Nat):Bool:=a.1==0&&(a.2.1.2.2.2.2.2&&ix (isQ a.2.1.1) Q==(k:Int))
def askL (Q:List Que)(l:List Act):List Bool:=(List.range Q.length).map fun k=>l.any fun a=>askB Q a k
theorem askL_get {Q:List Que}{l:List Act}{k:Nat}(h:k<Q.length):(askL Q l)[k]?=some (l.any fun a=>askB Q a k):=by
 unfold askL
 rw[List.getElem?_map,List.getElem?_range h];rfl
theorem askL_len (Q:List Que)(l:List Act):(askL Q l).length=Q.length:=by simp[askL]
theorem askL_no {Q:List Que}{l:List Act}{a:Act}(h:∀ k,k<Q.length->askB Q a k=false):askL Q (l++[a])=askL Q l:=by
 unfold askL
 refine List.map_congr_left fun k hk=>?_
 rw[List.any_append,List.any_cons,h k (List.mem_range.1 hk)]
 simp
theorem askL_set {Q:List Que}{l:List Act}{a:Act}{f:Nat}(h:∀ k,askB Q a k=decide (k=f))(hf:f<Q.length):askL Q (l++[a])=(askL Q l).set f true:=by
 apply List.ext_getElem?
 intro k
 by_cases e:f=k
 ·subst e
  rw[List.getElem?_set_self (by rw[askL_len];exact hf),askL_get hf,List.any_append,List.any_cons,h]
  simp
 ·rw[List.getElem?_set_ne e]
  by_cases hk:k<Q.length
  ·rw[askL_get hk,askL_get hk,List.any_append,List.any_cons,h,decide_eq_false (fun c=>e c.symm)]
   simp
  ·rw[List.getElem?_eq_none (by rw[askL_len];omega),List.getElem?_eq_none (by rw[askL_len];omega)]
theorem f707l2q {R0:Type}(K:List Act×List Bool×List Dsc×List Que×Unit->Option R0){l:List Act}(F:List Dsc)(Q:List Que)(hl:l.length<1000)(hQ:Q.length<=100):f707l2 1000 K (l,0,List.replicate Q.length false,F,Q,())=K (l,askL Q l,F,Q,()):=by
 unfold f707l2
 have h0:List.replicate Q.length false=askL Q []:=by
  unfold askL
  rw[show (fun k=>([]:List Act).any fun a=>askB Q a k)=fun _=>false from rfl,List.map_const',List.length_range]
 rw[h0]
 have key:=iter_for (k:=1000) (Step:=fun rec v=>f707l2s 1000 rec K v) (fun i=>(l,(i:Int),askL Q (l.take i),F,Q,())) l.length (fin:=K (l,askL Q l,F,Q,())) ?_ ?_ hl
 ·simp only[List.take_zero] at key
  exact key
 ·intro rec i hi
  have ha:l[i]?=some (l[i]'hi):=List.getElem?_eq_getElem hi
  have ht:l.take (i+1)=l.take i++[l[i]'hi]:=List.take_succ_eq_append_getElem hi
  rw[ht]
  generalize l[i]'hi=a at ha ht ⊢
  have hg:l.getD i dA=a:=getD_of ha
  unfold dA at hg
  have asp:∀ b c k,(a.1==0)=b->a.2.1.2.2.2.2.2=c->askB Q a k=(b&&(c&&ix (isQ a.2.1.1) Q==(k:Int))):=by
   intro b c k hb hc
   unfold askB
   rw[hb,hc]
  unfold f707l2s f707p1
  simp only[ltn hi,nn,Bool.and_self,cond_true,Int.toNat_natCast,hg,f731q F Q a.2.1.1 (by omega),bind_some',wi_succ (i:=i) (show i<9223372036854775807 by omega)]
  cases hb:a.1==0 with
  | false =>
   rw[askL_no (fun k _=>by rw[asp false _ k hb rfl];rfl)]
   rfl
  | true =>
   cases hc:a.2.1.2.2.2.2.2 with
   | false =>
    rw[askL_no (fun k _=>by rw[asp true false k hb hc];rfl)]
    rfl
   | true =>
    simp only[cond_true]
    rcases ix_spec (isQ a.2.1.1) Q with ⟨e,_⟩ | ⟨f,q,e,hq,_,_⟩
    ·rw[e,askL_no (fun k _=>by rw[asp true true k hb hc,e];simp)]
     rfl
    ·have hf:=(List.getElem?_eq_some_iff.1 hq).1
     rw[e,bif_true (by simp)]
     rw[bif_true (by rw[askL_len];exact inb hf),Int.toNat_natCast]
     rw[askL_set (f:=f) (fun k=>by
      rw[asp true true k hb hc,e,Bool.true_and,Bool.true_and]
      by_cases c:k=f
      ·subst c;simp
      ·rw[decide_eq_false c,beq_eq_false_iff_ne];omega) hf]
 ·intro rec
  unfold f707l2s
  rw[bif_false (by simp),List.take_length]
def keepB (Q:List Que)(asks:List Bool)(a:Act):Bool:=ix (isQ a.2.2.1.1) Q==-1||(!removes a||!asks.getD (ix (isQ a.2.2.1.1) Q).toNat false)
theorem f707p3q {R0:Type}(K:List Act×Int×List Bool×List Act×List Dsc×List Que×Unit->Option R0){l:List Act}{i:Nat}{a:Act}(ha:l[i]?=some a)(asks:List Bool)(acc:List Act)(F:List Dsc)(Q:List Que)(hacc:acc.length<=1000)(hQ:Q.length<=100)(hask:asks.length=Q.length) :
  f707p3 1000 K (l,(i:Int),asks,acc,F,Q,())=K (l,(i:Int),asks,(if keepB Q asks a=true then acc++[a] else acc),F,Q,()):=by
 have hi:=(List.getElem?_eq_some_iff.1 ha).1
 have hg:l.getD i dA=a:=getD_of ha
 unfold dA at hg
 have hsz:(decide ((acc.length+[a].length)*152<=140737488355328)&&decide (acc.length+[a].length<=9223372036854775807))=true:=szN (by simp;omega) (by decide)
 unfold f707p3 keepB removes
 simp only[inb hi,cond_true,Int.toNat_natCast,hg,f731q F Q a.2.2.1.1 (by omega),bind_some',hsz]
 have heta:((a.1,((a.2.1.1,(a.2.1.2.1,(a.2.1.2.2.1,(a.2.1.2.2.2.1,(a.2.1.2.2.2.2.1,a.2.1.2.2.2.2.2))))),((a.2.2.1.1,(a.2.2.1.2.1,(a.2.2.1.2.2.1,a.2.2.1.2.2.2))),a.2.2.2))):Act)=a:=rfl
 rw[heta]
 by_cases h3:a.1=3
 ·rcases ix_spec (isQ a.2.2.1.1) Q with ⟨e,_⟩ | ⟨f,q,e,hq,_,_⟩
  ·rw[e,show (a.1==3)=true by simpa using h3]
   rfl
  ·have hf:f<asks.length:=by rw[hask];exact (List.getElem?_eq_some_iff.1 hq).1
   rw[e,show (a.1==3)=true by simpa using h3]
   rw[bif_true (by rfl),bif_false (by rw[beq_eq_false_iff_ne];omega),bif_true (inb hf),Int.toNat_natCast]
   have e1:((f:Int)==-1)=false:=by rw[beq_eq_false_iff_ne];omega
   rw[e1]
   cases asks.getD f false<;>simp
 ·rw[bif_false (by simpa using h3)]
  have e3:(a.1==3)=false:=by simpa using h3
  by_cases h1:a.1=1
  ·have e1:(a.1==1)=true:=by simpa using h1
   rw[bif_true e1,e3,e1]
   rcases ix_spec (isQ a.2.2.1.1) Q with ⟨e,_⟩ | ⟨f,q,e,hq,_,_⟩
   ·rw[e];rfl
   ·have hf:f<asks.length:=by rw[hask];exact (List.getElem?_eq_some_iff.1 hq).1
    have en:((f:Int)==-1)=false:=by rw[beq_eq_false_iff_ne];omega
    rw[e,en]
    cases a.2.2.1.2.2.2 with
    | false=>rfl
    | true =>
     simp only[Bool.not_true,cond_false,Bool.false_or,Bool.and_self,inb hf,cond_true,Int.toNat_natCast]
     cases asks.getD f false<;>simp
  ·have e1:(a.1==1)=false:=by simpa using h1
   rw[bif_false e1,e3,e1]
   cases ix (isQ a.2.2.1.1) Q==-1<;>simp
theorem f707l4q {R0:Type}(K:List Act×List Dsc×List Que×Unit->Option R0){l:List Act}(asks:List Bool)(F:List Dsc)(Q:List Que)(hl:l.length<1000)(hQ:Q.length<=100)(hask:asks.length=Q.length) :
  f707l4 1000 K (l,0,asks,[],F,Q,())=K (l.filter (keepB Q asks),F,Q,()):=by
 unfold f707l4
 refine iter_list (k:=1000) (A:=List Act) l (fun i a=>(l,(i:Int),asks,a,F,Q,())) (fun m a=>K (a++m.filter (keepB Q asks),F,Q,())) (fun i a=>a.length<=i) ?_ ?_ hl [] (by simp)
 ·intro rec a _
  unfold f707l4s
  simp
 ·intro rec i acc a ha hi hacc
  have hlen:(if keepB Q asks a=true then acc++[a] else acc).length<=i+1:=by
   split
   ·simp;omega
   ·omega
  refine .inl ⟨if keepB Q asks a=true then acc++[a] else acc,hlen,?_,?_⟩
  ·unfold f707l4s
   simp only[ltn hi,cond_true]
   rw[f707p3q _ ha asks acc F Q (by omega) hQ hask]
   simp only[wi_succ (i:=i) (show i<9223372036854775807 by omega)]
  ·rw[List.filter_cons]
   split<;>simp
def dR:Res:=(0,(0,dM))
theorem f707l6q {R0:Type}(K:Int×Int×Int×List Act×List Dsc×List Que×List Res×Unit->Option R0)(i:Nat)(tw:Int){f:Nat}(acts:List Act)(F:List Dsc){Q:List Que}{res:List Res}{r:Res}(t37:Int)(t38 tn t40 t41 t42:ByteArray)(t43:Bool)(t44:ByteArray)(t45 t46:Int)(t47:Bool)(t48:ByteArray)
  {qf:Que} (hf:Q[f]?=some qf) (hr:res[i]?=some r) (hl:qf.2.2.2.2.length<=100) :
  f707l6 1000 K ((i:Int),tw,(f:Int),0,0,acts,F,Q,res,t37,t38,tn,t40,t41,t42,t43,t44,t45,t46,t47,t48,())=K ((i:Int),tw,((qf.2.2.2.2.countP (isRep tn r.2.1):Nat):Int),acts,F,Q,res,()):=by
 have hfl:=(List.getElem?_eq_some_iff.1 hf).1
 have hrl:=(List.getElem?_eq_some_iff.1 hr).1
 have hg:res.getD i dR=r:=getD_of hr
 unfold dR dM at hg
 have f69:∀ b:Bool,f69F 1000 b=some (if b=true then 1 else 0):=fun b=>f69q 1000 b
 unfold f707l6
 have key:=iter_list (k:=1000) (A:=Nat) (Step:=fun rec v=>f707l6s 1000 rec K v) qf.2.2.2.2 (fun k n=>((i:Int),tw,(f:Int),(n:Int),(k:Int),acts,F,Q,res,t37,t38,tn,t40,t41,t42,t43,t44,t45,t46,t47,t48,())) (fun m n=>K ((i:Int),tw,((n+m.countP (isRep tn r.2.1):Nat):Int),acts,F,Q,res,())) (fun k n=>n<=k) ?_ ?_ (by omega) 0 (by omega)
 ·rw[Nat.zero_add] at key
  exact key
 ·intro rec n _
  unfold f707l6s
  simp only[inb hfl,cond_true,Int.toNat_natCast,getD_of hf]
  simp
 ·intro rec k n m hm hk hn
  refine .inl ⟨n+(if isRep tn r.2.1 m=true then 1 else 0),by split<;>omega,?_,by rw[List.countP_cons];congr 4;omega⟩
  unfold f707l6s f707p5
  have wn:∀ z:Int,z=0∨z=1->IntKind.i64.wrap ((n:Int)+z)=(n:Int)+z:=fun z hz=>wi (by omega) (by omega)
  have hgR:∀ d:Res,res.getD i d=r:=fun d=>getD_of hr
  simp only[nn,ltn hfl,ltn hk,ltn hrl,Bool.and_self,cond_true,Int.toNat_natCast,getD_of hf,getD_of hm,hgR,f69,bind_some',wi_succ (i:=k) (show k<9223372036854775807 by omega)]
  unfold isRep
  cases m.2.1==2 with
  | false =>
   simp only[cond_false,Bool.false_and,Bool.false_eq_true,if_false]
   rw[wn 0 (.inl rfl)];congr 5
  | true =>
   cases strEq m.2.2.2.2.1 tn with
   | false =>
    simp only[cond_true,cond_false,Bool.false_and,Bool.and_false,Bool.false_eq_true,if_false]
    rw[wn 0 (.inl rfl)];congr 5
   | true =>
    simp only[cond_true,Bool.true_and]
    by_cases c:m.2.2.2.2.2.2.2=r.2.1
    ·have:(m.2.2.2.2.2.2.2==r.2.1)=true:=by simpa using c
     rw[this,if_pos rfl,if_pos rfl,wn 1 (.inr rfl)]
     congr 5
    ·have:(m.2.2.2.2.2.2.2==r.2.1)=false:=by simpa using c
     rw[this,if_neg (by decide),if_neg (by decide),wn 0 (.inl rfl)]
     congr 5
theorem f707p7q {R0:Type}(k0:Int×List Act×List Dsc×List Que×List Res×Unit->Option R0)(k1:Bool×Int×Int×List Act×List Dsc×List Que×List Res×Unit->Option R0)(k2:Bool×Int×Int×Int×List Act×List Dsc×List Que×List Res×Unit->Option R0)(k3:Int×Int×Int×List Act×List Dsc×List Que×List Res×Unit->Option R0)
  {l:List Act} {i:Nat} {a:Act} {r:Res} {s:Sys} {res:List Res} (hS:RightS s) (ha:l[i]?=some a) (hr:res[i]?=some r) (hI:a.1=0->a.2.1.2.2.2.2.2=true->r.1=0->Inv s a.2.1.2.1 r.2.1 a.2.1.1) :
  f707p7 1000 k0 k1 k2 k3 ((i:Int),l,s.1,s.2,res,())=k0 ((i:Int),l,s.1,s.2,res,())∨∃ y z:Int,f707p7 1000 k0 k1 k2 k3 ((i:Int),l,s.1,s.2,res,())=k3 ((i:Int),y,z,l,s.1,s.2,res,()):=by
 have hi:=(List.getElem?_eq_some_iff.1 ha).1
 have hrl:=(List.getElem?_eq_some_iff.1 hr).1
 have hsl:=hS.len
 have hgA:∀ d:Act,l.getD i d=a:=fun d=>getD_of ha
 have hgR:∀ d:Res,res.getD i d=r:=fun d=>getD_of hr
 unfold f707p7
 simp only[inb hi,inb hrl,cond_true,Int.toNat_natCast,hgA,hgR,f731q s.1 s.2 _ (show s.2.length<1000 by omega),bind_some']
 by_cases h0:a.1=0
 ·rw[bif_false (by simpa using h0)]
  cases hq:a.2.1.2.2.2.2.2 with
  | false=>exact .inl rfl
  | true =>
   rw[Bool.not_true,cond_false]
   by_cases hc:r.1=0
   ·rw[bif_false (by simpa using hc)]
    obtain⟨qt,qf,a1,a2,a3,a4,a5,a6,a7,a8⟩:=hI h0 hq hc
    have htl:=(List.getElem?_eq_some_iff.1 a1).1
    have hqt:=hS.each qt (List.mem_of_getElem? a1)
    have hqtl:=hS.msgs qt (List.mem_of_getElem? a1)
    have hqfl:=hS.msgs qf (List.mem_of_getElem? a4)
    rw[a2,a5,bif_false (by rw[beq_eq_false_iff_ne];omega),bif_false (by rw[beq_eq_false_iff_ne];omega),f707l6q _ _ _ _ _ _ _ _ _ _ _ _ _ _ _ _ _ a4 hr hqfl]
    simp only[nn,ltn htl,ltn hrl,Bool.and_self,cond_true,Int.toNat_natCast,getD_of a1,hgR,f733q qt r.2.1 (show qt.2.2.2.2.length<1000 by omega),bind_some',f69q]
    rcases ix_spec (isK r.2.1) qt.2.2.2.2 with ⟨e,g⟩ | ⟨j,x,e,hx,hk,_⟩
    ·have hno:qt.2.2.2.2.any (opK r.2.1)=false:=by
      rw[List.any_eq_false]
      intro m hm hop
      unfold opK at hop
      rw[Bool.and_eq_true] at hop
      have:=g m hm
      unfold isK at this
      rw[this] at hop
      exact absurd hop.1 (by decide)
     rw[a8,hno,e,bif_false (by rfl),if_neg (by decide)]
     exact .inr ⟨_,_,rfl⟩
    ·have hxl:=(List.getElem?_eq_some_iff.1 hx).1
     have hxm:=List.mem_of_getElem? hx
     have hxk:x.1=r.2.1:=by unfold isK at hk;simpa using hk
     obtain⟨b1,b2⟩:=a7 x hxm hxk
     have hany:qt.2.2.2.2.any (opK r.2.1)=!x.2.2.2.2.2.2.1:=by
      cases hx7:x.2.2.2.2.2.2.1 with
      | false=>exact List.any_eq_true.2 ⟨x,hxm,by unfold opK;rw[opn_of b1 hx7,hxk];simp⟩
      | true =>
       rw[Bool.not_true,List.any_eq_false]
       intro m hm hop
       unfold opK at hop
       rw[Bool.and_eq_true] at hop
       have hmx:m=x:=hqt.uniq hm hxm (by rw[hxk];simpa using hop.1)
       rw[hmx] at hop
       have:opn x=false:=by unfold opn;rw[hx7];simp
       rw[this] at hop
       exact absurd hop.2 (by decide)
     rw[a8,hany,e,bif_true (by simp),bif_true (inb hxl)]
     simp only[Int.toNat_natCast,getD_of hx]
     cases x.2.2.2.2.2.2.1 with
     | false=>exact .inr ⟨_,_,rfl⟩
     | true=>exact .inr ⟨_,_,rfl⟩
   ·rw[bif_true (bne0 hc)];exact .inl rfl
 ·rw[bif_true (bne0 h0)];exact .inl rfl
theorem f707l8q {l:List Act}{s:Sys}{res:List Res}(hS:RightS s)(hl:l.length<1000)(hlen:res.length=l.length)(hI:∀ (i:Nat) (a:Act) (r:Res),l[i]?=some a->res[i]?=some r->a.1=0->a.2.1.2.2.2.2.2=true->r.1=0->Inv s a.2.1.2.1 r.2.1 a.2.1.1) :
  f707l8 1000 (fun w72:Bool×Unit=>some w72.1) (fun w73:Unit=>some true) (0,l,s.1,s.2,res,())=some true:=by
 unfold f707l8
 refine iter_list (k:=1000) (R:=Bool) (A:=Unit) l (fun i _=>((i:Int),l,s.1,s.2,res,())) (fun _ _=>some true) (fun _ _=>True) ?_ ?_ hl () trivial
 ·intro rec _ _
  unfold f707l8s
  simp
 ·intro rec i _ a ha hi _
  refine .inl ⟨(),trivial,?_,rfl⟩
  obtain⟨r,hr⟩:∃ r,res[i]?=some r:=⟨_,List.getElem?_eq_getElem (by omega)⟩
  unfold f707l8s
  simp only[ltn hi,cond_true]
  rcases f707p7q (fun w68:Int×List Act×List Dsc×List Que×List Res×Unit=>rec (IntKind.i64.wrap (w68.1+1),w68.2.1,w68.2.2.1,w68.2.2.2.1,w68.2.2.2.2.1,())) (fun w69=>some w69.1) (fun w70=>some w70.1) (fun w71=>rec (IntKind.i64.wrap (w71.1+1),w71.2.2.2.1,w71.2.2.2.2.1,w71.2.2.2.2.2.1,w71.2.2.2.2.2.2.1,())) hS ha hr (hI i a r ha hr) with T | ⟨y,z,T⟩
  ·rw[T]
   simp only[wi_succ (i:=i) (show i<9223372036854775807 by omega)]
  ·rw[T]
   simp only[wi_succ (i:=i) (show i<9223372036854775807 by omega)]
theorem sent_from:∀ (l:List Act) {s:Sys},Right s->∀ (i:Nat) (a:Act) (r:Res),l[i]?=some a->(runE s l).2[i]?=some r->a.1=0->a.2.1.2.2.2.2.2=true->r.1=0->¬ ix (isQ a.2.1.1) s.2<0
 | [],s,_,i,a,r,ha,_,_,_,_=>by simp at ha
 | b::l,s,h,i,a,r,ha,hr,h0,hq,hc=>by
  cases i with
  | zero =>
   have ha:b=a:=by simpa using ha
   subst ha
   have hr:(actE s b).2=r:=by simpa [runE] using hr
   rw[← hr] at hc
   unfold actE at hc
   rw[if_pos h0] at hc
   split at hc
   ·rename_i he;exact absurd hc he
   ·rename_i he
    have he:(sentE s b.2.1).2.2=0:=by simpa using he
    intro c
    unfold sentE at he
    split at he
    ·rename_i hz;exact absurd he hz
    ·rename_i hz
     rw[if_pos ⟨by rw[hq,Bool.or_true],c⟩] at he
     cases he
  | succ i =>
   have T:=sent_from l (act_right h b).1 i a r (by simpa using ha) (by simpa [runE] using hr) h0 hq hc
   rw[ix_names (act_right h b).2.1] at T
   exact T
theorem answers (y:Sys×List Act):f707F 1000 y=some true:=by
 obtain⟨s,l⟩:=y
 unfold f707F
 simp only[awake18,f713q,bind_some',Bool.not_true,cond_false,f725q]
 cases hf:fewS s with
 | false=>rfl
 | true =>
  have hF:=fewS_iff.1 hf
  rw[Bool.not_true,cond_false]
  cases hs:short l with
  | false=>rfl
  | true =>
   obtain⟨hl,hfine⟩:=short_fine hs
   rw[Bool.not_true,cond_false]
   by_cases hb:l.length > 60
   ·rw[bif_true (by rw[decide_eq_true_eq];omega)]
   ·rw[bif_false (by rw[decide_eq_false_iff_not];omega)]
    simp only[f727q hF,bind_some']
    by_cases hz:(sysE s).2=0
    ·rw[bif_false (by simpa using hz)]
     have hR:=sys_Right hF.file hz
     have hsl:=hR.r.len
     simp only[f730v0q hR.r,bind_some']
     rw[f707l0q _ _ _ _ (by simp;omega)]
     have h:=begin_gd hR
     have e1:s.1=(beginS s).1:=rfl
     have e2:(s.2.map emptyQ).map noWr=(beginS s).2:=rfl
     rw[e1,e2]
     generalize beginS s=t at h
     have htl:=h.r.r.len
     simp only[]
     rw[bif_true (by simp;omega),Int.toNat_natCast,f707l2q _ _ _ (by omega) (by omega)]
     simp only[]
     rw[f707l4q _ _ _ _ (by omega) (by omega) (askL_len _ _)]
     have hA:(l.filter (keepB t.2 (askL t.2 l))).length<=l.length:=List.length_filter_le _ _
     have hsub:∀ a∈l.filter (keepB t.2 (askL t.2 l)),a∈l∧keepB t.2 (askL t.2 l) a=true:=fun a ha=>List.mem_filter.1 ha
     generalize hacts:l.filter (keepB t.2 (askL t.2 l))=acts at hA hsub
     have hzl:longE t acts=0:=by
      unfold longE
      rw[h.r.zero,if_neg (not_not_intro rfl),if_neg (by omega)]
     have hrun:=f726q h.r.r.few (l:=acts) (by omega) (fun a ha=>hfine a (hsub a ha).1)
     rw[hzl,if_neg (not_not_intro rfl)] at hrun
     obtain⟨r1,r2,r3⟩:=run_right acts h.r
     have rl:(runE t acts).1.2.length=t.2.length:=by
      have e:=congrArg List.length r2
      unfold nms at e
      simpa using e
     simp only[f716q h.r.r.few,bind_some',hrun,bne_self_eq_false,cond_false,r3,rl]
     let asks:Nat->Prop:=fun k=>(askL t.2 l)[k]?=some true
     have hkeep:∀ a∈acts,keepP asks t a:=by
      intro a ha hrm
      have hk:=(hsub a ha).2
      unfold keepB at hk
      rw[hrm] at hk
      rcases ix_spec (isQ a.2.2.1.1) t.2 with ⟨e,_⟩ | ⟨f,q,e,hq,_,_⟩
      ·exact .inl e
      ·right
       have hf:=(List.getElem?_eq_some_iff.1 hq).1
       have hqi:queI t a.2.2.1.1=f:=by unfold queI;rw[e];rfl
       rw[e,show ((f:Int)==-1)=false by rw[beq_eq_false_iff_ne];omega] at hk
       rw[hqi]
       show ¬ (askL t.2 l)[f]?=some true
       rw[List.getD_eq_getElem?_getD,Int.toNat_natCast] at hk
       intro c
       rw[c] at hk
       simp at hk
     refine f707l8q r1.r (by omega) r3 (fun i a r ha hr h0 hq hc=>run_inv acts h hkeep i a r ha hr h0 hq hc ?_)
     have hal:a∈l:=(hsub a (List.mem_of_getElem? ha)).1
     show (askL t.2 l)[queI t a.2.1.1]?=some true
     have hfrom:¬ ix (isQ a.2.1.1) t.2<0:=sent_from acts h.r i a r ha hr h0 hq hc
     rcases ix_spec (isQ a.2.1.1) t.2 with ⟨e,_⟩ | ⟨f,q,e,hqf,_,_⟩
     ·omega
     ·have hf:=(List.getElem?_eq_some_iff.1 hqf).1
      have hqi:queI t a.2.1.1=f:=by unfold queI;rw[e];rfl
      rw[hqi,askL_get hf]
      congr 1
      exact List.any_eq_true.2 ⟨a,hal,by unfold askB;rw[h0,hq,e];simp⟩
    ·rw[bif_true (bne0 hz)]
end Go.Proofs.YthcmomgkfjjajaaGreatDoor
