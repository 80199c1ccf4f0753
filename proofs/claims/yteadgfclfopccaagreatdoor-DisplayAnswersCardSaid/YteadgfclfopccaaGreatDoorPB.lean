/- Joined texts. -/
import Derived.Test.YteadgfclfopccaaGreatDoorPA
import Derived.Test.YteadgfclfopccaaGreatDoorFeJ
set_option linter.unusedVariables false
set_option linter.unusedSimpArgs false
namespace Go.Proofs.YteadgfclfopccaaGreatDoor
open Go.Ab
def trm (l:List UInt8):List UInt8:=Lib.trimRightB l 32
theorem trm_snoc (l:List UInt8)(c:UInt8):trm (l++[c])=if c=32 then trm l else l++[c]:=by
 unfold trm Lib.trimRightB
 rw[List.reverse_append]
 by_cases h:c=32
 ·subst h;simp
 ·simp[h,List.dropWhile]
theorem trm_pre (l:List UInt8):trm l=l.take (trm l).length:=by
 refine List.prefix_iff_eq_take.1 ?_
 unfold trm Lib.trimRightB
 have:=List.reverse_prefix.2 (List.dropWhile_suffix (·==(32:UInt8)) (l:=l.reverse))
 rwa [List.reverse_reverse] at this
theorem trm_le (l:List UInt8):(trm l).length<=l.length:=by
 have:=congrArg List.length (trm_pre l)
 rw[List.length_take] at this
 omega
theorem f1016q (l:List UInt8)(h:l.length<=5000):f1016F 5000 (S l,(⟨#[32]⟩:ByteArray))=some (S (trm l)):=by
 unfold f1016F
 simp only[show (⟨#[32]⟩:ByteArray).data.toList=[32] from rfl,S_list,S_size]
 rw[bif_true (by simp;omega)]
 rfl
def posI (n:Int):List Int:=[IntKind.u8.wrap (IntKind.i64.wrap (IntKind.i64.wrap (Int.tdiv n 80)+1)),IntKind.u8.wrap (IntKind.i64.wrap (Int.tmod n 80+1))]
theorem f1015q (k:Nat)(n:Int):f1015F k n=some (posI n):=rfl
def segL (c:List UInt8)(x:SF):List UInt8:=trm ((c.take (fEnd x).toNat).drop x.1.toNat)
def ansI (c:List UInt8):List SF->List Int->List Int
 | [],o=>o
 | x::l,o=>bif x.2.2.2.2.2 then ansI c l (((o++[17])++posI x.1)++ints (segL c x)) else ansI c l o
theorem segL_len (c:List UInt8)(x:SF)(h:c.length=1920):(segL c x).length<=1920:=by
 unfold segL
 have:=trm_le ((c.take (fEnd x).toNat).drop x.1.toNat)
 simp at this
 omega
def answ (s:Scr)(aid:Int)(att:Bool):ByteArray×Int :=
 if (chkScr s).2≠0 then (ByteArray.empty,(chkScr s).2)
 else if aid≠241∧¬ (49<=aid∧aid<=72) then (ByteArray.empty,3)
 else (strOfNums (bif att then posI s.2.2++[IntKind.u8.wrap aid] else ansI s.1.data.toList s.2.1 (posI s.2.2++[IntKind.u8.wrap aid])),0)
theorem f946l2q (att:Bool)(c:List UInt8)(F:List SF)(cu:Int)(o:List Int)(hc:c.length=1920)(hR:RightF F)(ho:o.length<=3) :
  iterS (fun rec v=>f946l2s 5000 rec (fun (w15:List Int×Unit)=>some ((strOfNums w15.1),(0:Int))) v) 5000 (att,F,(F.length:Int),(0:Int),S c,F,cu,o,()) =
   some (strOfNums (bif att then o else ansI c F o),0):=by
 have hF:=hR.len
 refine iter_list (k:=5000) (R:=ByteArray×Int) (A:=List Int) F (fun i a=>(att,F,(F.length:Int),(i:Int),S c,F,cu,a,())) (fun m a=>some (strOfNums (bif att then a else ansI c m a),0)) (fun i a=>a.length<=3+i*2000) ?_ ?_ (by omega) o (by omega)
 ·intro rec a ha
  unfold f946l2s
  rw[bif_false (by simp)]
  cases att<;>rfl
 ·intro rec i a x hx hi ha
  have ok:=hR.ok x (List.mem_of_getElem? hx)
  have h1:=ok.a
  have h2:=ok.l
  have h3:=ok.e
  have hfe:fEnd x=x.1+x.2.1:=rfl
  have hsl:=segL_len c x hc
  refine .inl ⟨bif x.2.2.2.2.2&&!att then ((a++[17])++posI x.1)++ints (segL c x) else a,?_,?_,?_⟩
  ·have ha':a.length<=3+i*2000:=ha
   have hp1:((((a++[17])++posI x.1)++ints (segL c x)).length)=a.length+3+(segL c x).length:=by
    rw[List.length_append,List.length_append,List.length_append,ints_len]
    rfl
   have key:∀ z:Bool,(bif z then ((a++[17])++posI x.1)++ints (segL c x) else a).length<=3+(i+1)*2000:=by
    intro z
    cases z with
    | false =>
     rw[cond_false,Nat.succ_mul]
     exact Nat.le_trans ha' (by clear hp1 hsl ha';generalize i*2000=w;omega)
    | true =>
     rw[cond_true,hp1,Nat.succ_mul]
     generalize (segL c x).length=z at hsl
     generalize i*2000=w at ha'
     generalize a.length=u at ha'
     omega
   exact key _
  ·unfold f946l2s
   rw[bif_true (ltn hi)]
   unfold f946p1
   have ek:f1017F 5000 (x.1,(x.2.1,(x.2.2.1,(x.2.2.2.1,(x.2.2.2.2.1,x.2.2.2.2.2)))))=some (fEnd x):=f1017q 5000 x ok
   obtain⟨p,hp⟩:∃ p:Nat,x.1=(p:Int):=⟨x.1.toNat,by omega⟩
   obtain⟨q,hq⟩:∃ q:Nat,fEnd x=(q:Int):=⟨(fEnd x).toNat,by omega⟩
   have hsb:sliceBds x.1 (fEnd x) (c.length:Int)=true:=by rw[hp,hq];exact sliceB (by omega) (by omega)
   have htr:f1016F 5000 (S ((c.take (fEnd x).toNat).drop x.1.toNat),(⟨#[32]⟩:ByteArray))=some (S (segL c x)):=f1016q _ (by simp;omega)
   simp only[inb hi,cond_true,Int.toNat_natCast,getD_of hx,S_size,S_cut,ek,hsb,htr,f1015q,bind_some',S_bytes,wi_succ (i:=i) (by omega)]
   cases x.2.2.2.2.2 with
   | false=>rfl
   | true =>
    cases att with
    | true=>rfl
    | false =>
     simp only[Bool.not_false,cond_true,Bool.and_self]
     rw[bif_true (by simp;omega),bif_true (by simp[posI];omega),bif_true (by simp only[List.length_append,ints_len,List.length_cons,List.length_nil,posI];simp;omega)]
  ·have e:ansI c (x::F.drop (i+1)) a=bif x.2.2.2.2.2 then ansI c (F.drop (i+1)) (((a++[17])++posI x.1)++ints (segL c x)) else ansI c (F.drop (i+1)) a:=rfl
   simp only[e]
   cases att with
   | true=>simp
   | false=>cases x.2.2.2.2.2<;>rfl
theorem f946q (s:Scr)(aid:Int)(att:Bool)(hc:s.1.size<=2000)(hF:s.2.1.length<=200):f946F 5000 (s,aid,att)=some (answ s aid att):=by
 unfold f946F f946p0 answ
 have es:(s.1,s.2.1,s.2.2)=s:=rfl
 simp only[es,f1005q s hc hF,f969q,f968q,first2,bind_some',f1015q]
 by_cases h1:(chkScr s).2=0
 ·rw[if_neg (by simpa using h1),h1]
  have hr:=chkScr_right.1 h1
  have main:(bif decide ((((posI s.2.2).length+[IntKind.u8.wrap aid].length)*1:Nat)<=140737488355328)&&decide ((posI s.2.2).length+[IntKind.u8.wrap aid].length<=9223372036854775807) then
    f946l2 5000 (fun (w15:List Int×Unit)=>some ((strOfNums w15.1),(0:Int))) (att,s.2.1,(s.2.1.length:Int),(0:Int),s.1,s.2.1,s.2.2,(posI s.2.2++[IntKind.u8.wrap aid]),())
    else none)=some (strOfNums (bif att then posI s.2.2++[IntKind.u8.wrap aid] else ansI s.1.data.toList s.2.1 (posI s.2.2++[IntKind.u8.wrap aid])),0):=by
   rw[bif_true (by simp[posI])]
   have:=f946l2q att s.1.data.toList s.2.1 s.2.2 (posI s.2.2++[IntKind.u8.wrap aid]) hr.n hr.f (by simp[posI])
   unfold f946l2
   rw[S_of] at this
   exact this
  by_cases ha:aid=241
  ·rw[bif_false (by simpa using ha),if_neg (fun h=>h.1 ha)]
   rw[bif_false (show (fst0 [0,bif false then 3 else 0] !=0)=false from rfl)]
   exact main
  ·rw[bif_true (bne0' ha)]
   by_cases hb:49<=aid∧aid<=72
   ·rw[if_neg (fun h=>h.2 hb),decide_eq_true hb.1,decide_eq_true hb.2]
    rw[bif_false (show (fst0 [0,bif !(true&&true) then 3 else 0] !=0)=false from rfl)]
    exact main
   ·rw[if_pos ⟨ha,hb⟩]
    have:(decide ((49:Int)<=aid)&&decide (aid<=72))=false:=by simp;omega
    rw[this]
    rfl
 ·rw[if_pos h1]
  have hf:∀ z,fst0 [(chkScr s).2,z]=(chkScr s).2:=by
   intro z
   unfold fst0
   rw[if_pos h1]
  simp only[hf]
  rw[bif_true (bne0 h1)]
  cases aid !=241<;>rfl
theorem nums_app (a b:List Int):strOfNums a++strOfNums b=strOfNums (a++b):=by
 rw[S_nums,S_nums,S_nums,S_app,List.map_append]
theorem nums_size (a:List Int):(strOfNums a).size=a.length:=by
 rw[S_nums,S_size,List.length_map]
theorem nums_pos (n:Int):strOfNums [17,IntKind.u8.wrap (IntKind.i64.wrap (IntKind.i64.wrap (Int.tdiv n 80)+1)),IntKind.u8.wrap (IntKind.i64.wrap (Int.tmod n 80+1))]=strOfNums ([17]++posI n):=rfl
theorem f947l1q {R:Type}(k0:D215->Option R)(att:Bool)(o:ByteArray)(i:Int)(c:ByteArray)(F:List SF)(cu:Int)(x:SF):∀ (n:Nat) (t:List UInt8) (K:Nat),t.length<=n->n<K->n<=3000 ->
  iterS (fun rec v=>f947l1s 5000 rec k0 v) K (att,o,i,S t,c,F,cu,x.1,x.2.1,x.2.2.1,x.2.2.2.1,x.2.2.2.2.1,x.2.2.2.2.2,())=k0 (att,o,i,S (trm t),c,F,cu,x.1,x.2.1,x.2.2.1,x.2.2.2.1,x.2.2.2.2.1,x.2.2.2.2.2,()):=by
 intro n
 induction n with
 | zero =>
  intro t K ht hK _
  obtain⟨K,rfl⟩:∃ q,K=q+1:=⟨K - 1,by omega⟩
  have:t=[]:=List.length_eq_zero_iff.1 (by omega)
  subst this
  rw[iterS_succ]
  unfold f947l1s
  rfl
 | succ n ih =>
  intro t K ht hK hn
  obtain⟨K,rfl⟩:∃ q,K=q+1:=⟨K - 1,by omega⟩
  rw[iterS_succ]
  rcases List.eq_nil_or_concat t with rfl | ⟨u,b,rfl⟩
  ·unfold f947l1s
   rfl
  ·rw[List.concat_eq_append] at ht ⊢
   have hlen:(u++[b]).length=u.length+1:=by simp
   have hw:IntKind.i64.wrap (((u.length+1:Nat):Int) - 1)=(u.length:Int):=by rw[wi (by omega) (by omega)];omega
   have hb:bt (S (u++[b])) (u.length:Int)=(b.toNat:Int):=by
    rw[S_bt _ _ (by omega)]
    congr 2
    rw[getD_of (x:=b) (by simp)]
   have hsb:sliceBds 0 (u.length:Int) ((u.length+1:Nat):Int)=true:=sliceB0 (by omega)
   unfold f947l1s
   simp only[S_size,hlen,hw,inb (show u.length<u.length+1 by omega),hb,cond_true,hsb,Int.toNat_natCast,S_cut,List.drop_zero,show (u++[b]).take u.length=u by simp]
   rw[bif_true (show decide (((u.length+1:Nat):Int) > 0)=true by simp<;>omega),trm_snoc]
   by_cases hbl:b=32
   ·rw[if_pos hbl,bif_true (by rw[hbl];rfl)]
    exact ih u K (by omega) (by omega) (by omega)
   ·rw[if_neg hbl,bif_false]
    have:(b.toNat:Int)≠32:=fun h=>hbl (by
     have h2:b.toNat=32:=by omega
     exact UInt8.toNat_inj.1 (by rw[h2];rfl))
    simpa using this
set_option maxHeartbeats 1000000 in
theorem f947l3q (att:Bool)(c:List UInt8)(F:List SF)(cu:Int)(o:List Int)(hc:c.length=1920)(hR:RightF F)(ho:o.length<=3) :
  iterS (fun rec v=>f947l3s 5000 rec (fun (w17:ByteArray×Unit)=>some (w17.1,(0:Int))) v) 5000 (att,strOfNums o,(0:Int),S c,F,cu,()) =
   some (strOfNums (bif att then o else ansI c F o),0):=by
 have hF:=hR.len
 cases att with
 | true =>
  rw[show ∀ (Step:(D217->Option (ByteArray×Int))->D217->Option (ByteArray×Int)) v,iterS Step 5000 v=Step (iterS Step 4999) v from fun _ _=>rfl]
  unfold f947l3s
  simp only
  cases decide ((0:Int)<(F.length:Int))<;>rfl
 | false =>
  refine iter_list (k:=5000) (R:=ByteArray×Int) (A:=List Int) F (fun i a=>(false,strOfNums a,(i:Int),S c,F,cu,())) (fun m a=>some (strOfNums (ansI c m a),0)) (fun i a=>a.length<=3+i*2000) ?_ ?_ (by omega) o (by omega)
  ·intro rec a ha
   unfold f947l3s
   rw[bif_false (by simp)]
   rfl
  ·intro rec i a x hx hi ha
   have ok:=hR.ok x (List.mem_of_getElem? hx)
   have h1:=ok.a
   have h2:=ok.l
   have h3:=ok.e
   have hfe:fEnd x=x.1+x.2.1:=rfl
   have hsl:=segL_len c x hc
   have ha':a.length<=3+i*2000:=ha
   refine .inl ⟨bif x.2.2.2.2.2 then ((a++[17])++posI x.1)++ints (segL c x) else a,?_,?_,?_⟩
   ·have hp1:((((a++[17])++posI x.1)++ints (segL c x)).length)=a.length+3+(segL c x).length:=by
     rw[List.length_append,List.length_append,List.length_append,ints_len]
     rfl
    have key:∀ z:Bool,(bif z then ((a++[17])++posI x.1)++ints (segL c x) else a).length<=3+(i+1)*2000:=by
     intro z
     cases z with
     | false =>
      rw[cond_false,Nat.succ_mul]
      exact Nat.le_trans ha' (by clear hp1 hsl ha' ha;generalize i*2000=w;omega)
     | true =>
      rw[cond_true,hp1,Nat.succ_mul]
      clear ha
      generalize (segL c x).length=z at hsl
      generalize i*2000=w at ha'
      generalize a.length=u at ha'
      omega
    exact key _
   ·unfold f947l3s
    rw[bif_true (ltn hi)]
    unfold f947p2
    obtain⟨p,hp⟩:∃ p:Nat,x.1=(p:Int):=⟨x.1.toNat,by omega⟩
    obtain⟨q,hq⟩:∃ q:Nat,fEnd x=(q:Int):=⟨(fEnd x).toNat,by omega⟩
    have hsb:sliceBds x.1 (fEnd x) (c.length:Int)=true:=by rw[hp,hq];exact sliceB (by omega) (by omega)
    simp only[Bool.not_false,cond_true,inb hi,Int.toNat_natCast,getD_of hx,S_size,wi_succ (i:=i) (show i<9223372036854775807 by omega)]
    cases hm:x.2.2.2.2.2 with
    | false=>rfl
    | true =>
     simp only[Bool.not_true,cond_false]
     rw[wi (x:=x.1+x.2.1) (by omega) (by omega),← hfe,bif_true hsb]
     rw[S_cut]
     unfold f947l1
     have hl1:=f947l1q (R:=ByteArray×Int) (fun (w11:D215) =>
      let t12:=(IntKind.i64.wrap ((IntKind.i64.wrap (Int.tdiv w11.2.2.2.2.2.2.2.1 (80:Int)))+(1:Int)))
      let t13:=(IntKind.i64.wrap ((Int.tmod w11.2.2.2.2.2.2.2.1 (80:Int))+(1:Int)))
      bif (decide (w11.2.1.size+(strOfNums [(17:Int),(IntKind.u8.wrap t12),(IntKind.u8.wrap t13)]).size<=9223372036854775807)) then
      let t14:=(w11.2.1++(strOfNums [(17:Int),(IntKind.u8.wrap t12),(IntKind.u8.wrap t13)]))
      bif (decide (t14.size+w11.2.2.2.1.size<=9223372036854775807)) then
      rec (w11.1,(t14++w11.2.2.2.1),(IntKind.i64.wrap (w11.2.2.1+(1:Int))),w11.2.2.2.2.1,w11.2.2.2.2.2.1,w11.2.2.2.2.2.2.1,())
      else none
      else none) false (strOfNums a) (i:Int) (S c) F cu x 2000 ((c.take (fEnd x).toNat).drop x.1.toNat) 5000 (by simp;omega) (by omega) (by omega)
     rw[hm] at hl1
     refine hl1.trans ?_
     simp only[nums_pos,nums_size,nums_app]
     have e1:S (trm ((c.take (fEnd x).toNat).drop x.1.toNat))=strOfNums (ints (segL c x)):=by rw[S_back];rfl
     have hpl:([17]++posI x.1:List Int).length=3:=rfl
     have hal:a.length<=2000003:=by
      clear hl1 hsb hsl
      have:i*2000<=960*2000:=Nat.mul_le_mul_right 2000 (by omega)
      omega
     rw[bif_true (by rw[hpl];exact decide_eq_true (by omega)),e1,nums_size,ints_len]
     rw[bif_true (by rw[List.length_append,hpl];exact decide_eq_true (by omega)),nums_app,wi_succ (i:=i) (by omega)]
     rw[cond_true,List.append_assoc a [17] (posI x.1)]
   ·have e:ansI c (x::F.drop (i+1)) a=bif x.2.2.2.2.2 then ansI c (F.drop (i+1)) (((a++[17])++posI x.1)++ints (segL c x)) else ansI c (F.drop (i+1)) a:=rfl
    simp only[e]
    cases x.2.2.2.2.2<;>rfl
theorem f947q (s:Scr)(aid:Int)(att:Bool)(hc:s.1.size<=2000)(hF:s.2.1.length<=200):f947F 5000 (s,aid,att)=some (answ s aid att):=by
 unfold f947F f947p0 answ
 have es:(s.1,s.2.1,s.2.2)=s:=rfl
 simp only[es,f1007q s hc hF,f48w,bind_some']
 by_cases h1:(chkScr s).2=0
 ·rw[if_neg (by simpa using h1),bif_false (by simpa using h1)]
  have hr:=chkScr_right.1 h1
  have main:f947l3 5000 (fun (w17:ByteArray×Unit)=>some (w17.1,(0:Int))) (att,strOfNums (posI s.2.2++[IntKind.u8.wrap aid]),(0:Int),s.1,s.2.1,s.2.2,())=some (strOfNums (bif att then posI s.2.2++[IntKind.u8.wrap aid] else ansI s.1.data.toList s.2.1 (posI s.2.2++[IntKind.u8.wrap aid])),0):=by
   have:=f947l3q att s.1.data.toList s.2.1 s.2.2 (posI s.2.2++[IntKind.u8.wrap aid]) hr.n hr.f (by simp[posI])
   unfold f947l3
   rw[S_of] at this
   exact this
  by_cases ha:aid=241
  ·rw[bif_false (by simpa using ha),if_neg (fun h=>h.1 ha)]
   exact main
  ·rw[bif_true (bne0' ha)]
   by_cases hb:49<=aid∧aid<=72
   ·rw[if_neg (fun h=>h.2 hb),decide_eq_true hb.1,decide_eq_true hb.2]
    exact main
   ·rw[if_pos ⟨ha,hb⟩]
    have:(decide ((49:Int)<=aid)&&decide (aid<=72))=false:=by simp;omega
    rw[this]
    rfl
 ·rw[if_pos h1,bif_true (bne0 h1)]
theorem aw1:∃ y,f965F 5000 ()=some y∧f936F 5000 ((y.1,(y.2.1,y.2.2)),[((0:Int),(⟨#[65,66,32]⟩:ByteArray))],[])=some ((⟨#[17,2,4,29,64,32,3,65,66,32,19,2,5]⟩:ByteArray),0):=⟨_,rfl,by kernel_rfl⟩
theorem aw2:∃ y,f965F 5000 ()=some y∧f948F 5000 ((y.1,(y.2.1,y.2.2)),[((0:Int),(⟨#[65,66,32]⟩:ByteArray))],(⟨#[2,6,241,17,2,5,88,66]⟩:ByteArray))=some ([((0:Int),(⟨#[88,66,32]⟩:ByteArray))],[],0,0):=⟨_,rfl,by kernel_rfl⟩
theorem aw2b:f950F 5000 ([((0:Int),(⟨#[88,66,32]⟩:ByteArray))],[((0:Int),(⟨#[88,66,32]⟩:ByteArray))])=some true:=by kernel_rfl
theorem blank_right:RightS (S blank,[],0):=⟨by rw[S_size];exact blank_good.n,by rw[isTx_S];exact blank_good.t,blank_good.f,by decide,by decide⟩
def aCells:List UInt8:=patch blank 83 [32,65,66,32]
def aF:List SF:=[(84,(3,(0,(true,(false,false)))))]
theorem aw3:f940F 5000 ((S blank,[],0),S [17,2,4,29,64,32,3,65,66,32,19,2,5])=some ((S aCells,aF,84),13,0):=by
 rw[f940q _ _ (by show (S blank).size<=2000;rw[blank_right.n];decide) (by decide)]
 unfold shown
 rw[blank_right.zero,if_neg (by decide),if_neg (by decide),S_list]
 rfl
theorem aCells_good:aCells.length=1920∧txL aCells=true:=by
 have h:(83:Nat)+([32,65,66,32]:List UInt8).length<=blank.length:=by rw[blank_good.n];decide
 constructor
 ·unfold aCells
  rw[patch_len h]
  exact blank_good.n
 ·refine txL_mem.2 (patch_mem (txL_mem.1 blank_good.t) fun x hx=>?_)
  simp at hx
  rcases hx with rfl | rfl | rfl | rfl<;>decide
def bF:List SF:=[(84,(3,(0,(true,(false,true)))))]
theorem aF_right:RightF aF:=by
 refine⟨fun x hx=>?_,by simp[aF]⟩
 rw[List.mem_singleton.1 hx]
 exact⟨by decide,by decide,by decide,by decide,by decide,by decide⟩
theorem bF_right:RightF bF:=by
 refine⟨fun x hx=>?_,by simp[bF]⟩
 rw[List.mem_singleton.1 hx]
 exact⟨by decide,by decide,by decide,by decide,by decide,by decide⟩
def bCells:List UInt8:=patch aCells 84 [88]
theorem bCells_good:bCells.length=1920∧txL bCells=true:=by
 have h:(84:Nat)+([88]:List UInt8).length<=aCells.length:=by rw[aCells_good.1];decide
 constructor
 ·unfold bCells
  rw[patch_len h]
  exact aCells_good.1
 ·refine txL_mem.2 (patch_mem (txL_mem.1 aCells_good.2) fun x hx=>?_)
  simp at hx
  subst hx
  decide
theorem aS_right:RightS (S aCells,aF,84):=⟨by rw[S_size];exact aCells_good.1,by rw[isTx_S];exact aCells_good.2,aF_right,by decide,by decide⟩
theorem bS_right:RightS (S bCells,bF,85):=⟨by rw[S_size];exact bCells_good.1,by rw[isTx_S];exact bCells_good.2,bF_right,by decide,by decide⟩
theorem aw4:f944F 5000 ((S aCells,aF,84),S [88])=some ((S bCells,bF,85),1,0):=by
 rw[f944q _ _ (by rw[aS_right.n];decide) (by decide)]
 unfold typed
 rw[aS_right.zero,if_neg (by decide),if_neg (by decide),S_list]
 rfl
theorem aw5:f946F 5000 ((S bCells,bF,85),241,false)=some ((⟨#[2,6,241,17,2,5,88,66]⟩:ByteArray),0):=by
 rw[f946q _ _ _ (by rw[bS_right.n];decide) (by decide)]
 unfold answ
 rw[bS_right.zero,if_neg (by decide),if_neg (by decide),S_list]
 have:segL bCells (84,(3,(0,(true,(false,true)))))=[88,66]:=by
  unfold segL bCells aCells blank
  rfl
 unfold bF ansI
 simp only[cond_false,cond_true,this,ansI]
 rfl
theorem awake41:f915F 5000 ()=some true:=by
 obtain⟨y,hy,h1⟩:=aw1
 obtain⟨y',hy',h2⟩:=aw2
 have:y'=y:=by rw[hy] at hy';exact (Option.some.inj hy').symm
 subst this
 unfold f915F
 have e3:f955F 5000 ()=some (S blank,[],0):=f955q
 have e4:f940F 5000 ((S blank,[],0),(⟨#[17,2,4,29,64,32,3,65,66,32,19,2,5]⟩:ByteArray))=some ((S aCells,aF,84),13,0):=aw3
 have e5:f944F 5000 ((S aCells,aF,84),(⟨#[88]⟩:ByteArray))=some ((S bCells,bF,85),1,0):=aw4
 rw[hy,bind_some',h1,bind_some',e3,bind_some',e4,bind_some',e5,bind_some',aw5,bind_some',bind_some',h2,bind_some']
 have s1:strEq (⟨#[17,2,4,29,64,32,3,65,66,32,19,2,5]⟩:ByteArray) (⟨#[17,2,4,29,64,32,3,65,66,32,19,2,5]⟩:ByteArray)=true:=strEq_self _
 have s2:strEq (⟨#[2,6,241,17,2,5,88,66]⟩:ByteArray) (⟨#[2,6,241,17,2,5,88,66]⟩:ByteArray)=true:=strEq_self _
 simp only[s1,s2,aw2b,bind_some']
 rfl
theorem tyS_len:∀ (l:List UInt8) (a:Nat) (s:St3),Good3 s->(tyS a l s).1.2.1.length<=960
 | [],a,s,h=>h.f.len
 | b::l,a,s,h=>by
  have es:tyS a (b::l) s=if (keyS b s).1≠0 then (Bad,(a:Int),(keyS b s).1) else tyS (a+1) l (keyS b s).2:=rfl
  rw[es]
  split
  ·simp
  ·exact tyS_len l _ _ (keyS_good h)
theorem typed_len (s:Scr)(l:List UInt8):(typed s l).1.2.1.length<=960:=by
 unfold typed
 by_cases h1:(chkScr s).2=0
 ·rw[if_neg (by simpa using h1)]
  by_cases h2:4000<l.length
  ·rw[if_pos h2];simp
  ·rw[if_neg h2]
   exact tyS_len l 0 _ (chkScr_right.1 h1).good3
 ·rw[if_pos h1];simp
theorem types (x:D94):f908F 5000 x=some true:=by
 obtain⟨s,st⟩:=x
 unfold f908F
 rw[awake41,bind_some',bif_false (by rfl)]
 have es:(s.1,(s.2.1,s.2.2))=s:=rfl
 simp only[es,f939q,bind_some']
 by_cases hg:s.1.size<=2000∧s.2.1.length<=200
 ·obtain⟨hc,hF⟩:=hg
  rw[bif_false (by simp;omega)]
  cases decide ((st.size:Int) > 4100) with
  | true=>rfl
  | false =>
   rw[cond_false,f941q 5000 s (by omega),bind_some']
   obtain⟨l,rfl⟩:∃ l,st=S l:=⟨st.data.toList,(S_of st).symm⟩
   have e1:=f944q s l hc hF
   have e2:=f945q s l hc hF
   have e3:=f943q (typed s l).1 (by have:=typed_len s l;omega)
   simp only[es,e1,e2,bind_some',e3,beq_self_eq_true,cond_true]
 ·rw[bif_true (by simp;omega)]
theorem answers (x:D113):f909F 5000 x=some true:=by
 obtain⟨s,aid,att⟩:=x
 unfold f909F
 rw[awake41,bind_some',bif_false (by rfl)]
 have es:(s.1,(s.2.1,s.2.2))=s:=rfl
 simp only[es,f939q,bind_some']
 by_cases hg:s.1.size<=2000∧s.2.1.length<=200
 ·obtain⟨hc,hF⟩:=hg
  rw[bif_false (by simp;omega),f941q 5000 s (by omega),bind_some']
  have e1:=f946q s aid att hc hF
  have e2:=f947q s aid att hc hF
  simp only[es,e1,e2,bind_some',beq_self_eq_true,cond_true,strEq_self]
 ·rw[bif_true (by simp;omega)]
end Go.Proofs.YteadgfclfopccaaGreatDoor
