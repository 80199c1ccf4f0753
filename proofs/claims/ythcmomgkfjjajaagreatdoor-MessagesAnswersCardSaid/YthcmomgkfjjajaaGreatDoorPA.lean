/- Joined texts. -/
import Derived.Test.YthcmomgkfjjajaaGreatDoorAC
import Derived.Laws.Strings
import Derived.Test.YthcmomgkfjjajaaGreatDoorFeJ
import Derived.KernelRfl
set_option linter.unusedVariables false
set_option linter.unusedSimpArgs false
namespace Go.Ab
theorem wi {x:Int}(h0:-9223372036854775808<=x)(h1:x<=9223372036854775807):IntKind.i64.wrap x=x:=by
 rw[IntKind.wrap_i64];omega
theorem wu8e (x:Int):IntKind.u8.wrap x=x % 256:=by
 simp[IntKind.wrap,IntKind.signed,IntKind.bits]
theorem wu8 {x:Int}(h0:0<=x)(h1:x<=255):IntKind.u8.wrap x=x:=by
 rw[wu8e];omega
theorem bind_some' {α β:Type}(a:α)(f:α->Option β):Option.bind (some a) f=f a:=rfl
theorem bif_true {α:Type}{c:Bool}(h:c=true)(a b:α):(bif c then a else b)=a:=by rw[h];rfl
theorem bif_false {α:Type}{c:Bool}(h:c=false)(a b:α):(bif c then a else b)=b:=by rw[h];rfl
theorem strEq_self (x:ByteArray):strEq x x=true:=by simp[strEq]
theorem strEq_iff {x y:ByteArray}:strEq x y=true↔x=y:=by
 constructor
 ·intro h
  simp only[strEq,beq_iff_eq] at h
  have h2:x.data.toList=y.data.toList:=by
   have e:∀ z:ByteArray,z.toList=z.data.toList:=fun z=>ByteArray.toList_eq z
   rw[← e,← e,h]
  cases x;cases y
  simp only at h2
  congr
  exact Array.ext' h2
 ·rintro rfl
  exact strEq_self x
theorem iter_for {V R:Type}{Step:(V->Option R)->V->Option R}(st:Nat->V)(n:Nat){fin:Option R}(hstep:∀ rec i,i<n->Step rec (st i)=rec (st (i+1)))(hend:∀ rec,Step rec (st n)=fin) :
  ∀ {k:Nat},n<k->iterS Step k (st 0)=fin:=by
 have:∀ (d i k:Nat),i+d=n->d<k->iterS Step k (st i)=fin:=by
  intro d
  induction d with
  | zero =>
   intro i k hi hk
   cases k with
   | zero=>omega
   | succ k =>
    have:i=n:=by omega
    subst this
    exact hend _
  | succ d ih =>
   intro i k hi hk
   cases k with
   | zero=>omega
   | succ k =>
    show Step (iterS Step k) (st i)=fin
    rw[hstep _ i (by omega)]
    exact ih (i+1) k (by omega) (by omega)
 intro k hk
 exact this n 0 k (by omega) hk
theorem getD_take_map (g:Int->Int)(l:List Int)(i:Nat):((l.take i).map g++l.drop i).getD i 0=l.getD i 0:=by
 by_cases h:i<l.length
 ·rw[List.getD_eq_getElem?_getD,List.getElem?_append_right (by simp;omega)]
  simp[List.length_take,Nat.min_eq_left (Nat.le_of_lt h),List.getD_eq_getElem?_getD]
 ·rw[List.getD_eq_getElem?_getD,List.getD_eq_getElem?_getD,List.getElem?_eq_none (by simp;omega),List.getElem?_eq_none (by omega)]
theorem set_take_map (g:Int->Int){l:List Int}{i:Nat}(h:i<l.length):((l.take i).map g++l.drop i).set i (g (l.getD i 0))=(l.take (i+1)).map g++l.drop (i+1):=by
 rw[List.set_append_right _ _ (by simp;omega)]
 have e:i - ((l.take i).map g).length=0:=by simp;omega
 rw[e,List.drop_eq_getElem_cons h,List.set_cons_zero,List.take_succ_eq_append_getElem h,List.map_append,List.append_assoc]
 simp[List.getD_eq_getElem?_getD,List.getElem?_eq_getElem h]
end Go.Ab
namespace Go.Proofs.YthcmomgkfjjajaaGreatDoor
open Go.Ab
theorem f70q (k:Nat)(n lo hi:Int):f70F k (n,lo,hi)=some (decide (lo<=n∧n<=hi)):=by
 unfold f70F
 by_cases h:lo<=n<;>simp[h]
theorem f48q (k:Nat)(n lo hi:Int):f48F k (n,lo,hi)=some (decide (lo<=n∧n<=hi)):=by
 unfold f48F
 by_cases h:lo<=n<;>simp[h]
theorem f43q (k:Nat)(b:Bool)(e:Int):f43F k (b,e)=some (if b=true then e else 0):=by
 unfold f43F
 cases b<;>rfl
theorem f69q (k:Nat)(b:Bool):f69F k b=some (if b=true then 1 else 0):=by
 unfold f69F
 cases b<;>rfl
theorem f68q (k:Nat)(n:Int):f68F k n=some (decide (1<=n∧n<=3)):=by
 unfold f68F
 rw[f48q]
 rfl
theorem f42l0_step {R:Type}(k:Nat)(rec:List Int×Int×Int×Unit->Option R)(k0:Int×Unit->Option R)(k1:Unit->Option R)(l:List Int)(i:Nat)(hl:l.length<1000)(hi:i<l.length) :
  f42l0s k rec k0 k1 (l,(l.length:Int),(i:Int),())=if l.getD i 0=0 then rec (l,(l.length:Int),((i+1:Nat):Int),()) else k0 (l.getD i 0,()):=by
 unfold f42l0s
 have h1:(i:Int)<(l.length:Int):=by omega
 simp only[h1,decide_true,cond_true,Int.natCast_nonneg,Bool.and_self,Int.toNat_natCast,wi (x:=(i:Int)+1) (by omega) (by omega)]
 by_cases h:l.getD i 0=0
 ·rw[if_pos h,h];rfl
 ·rw[if_neg h]
  have:(l.getD i 0 !=0)=true:=by simpa using h
  rw[this]
  rfl
theorem f42q (a b:Int):f42F 1000 [a,b]=some (if a=0 then b else a):=by
 have e0:∀ {R:Type} (Step:(List Int×Int×Int×Unit->Option R)->List Int×Int×Int×Unit->Option R) v,iterS Step 1000 v=Step (fun v=>Step (fun v=>Step (iterS Step 997) v) v) v:=fun _ _=>rfl
 unfold f42F f42l0
 rw[e0]
 have s0:=fun rec k0 k1=>f42l0_step (R:=Int) 1000 rec k0 k1 [a,b] 0 (by simp) (by simp)
 have s1:=fun rec k0 k1=>f42l0_step (R:=Int) 1000 rec k0 k1 [a,b] 1 (by simp) (by simp)
 have s2:∀ rec k0 k1,f42l0s (R:=Int) 1000 rec k0 k1 ([a,b],(([a,b].length:Nat):Int),((2:Nat):Int),())=k1 ():=fun _ _ _=>rfl
 have z0:((0:Nat):Int)=0:=rfl
 rw[z0] at s0
 rw[s0]
 simp only[Nat.zero_add,s1,Nat.reduceAdd,s2]
 by_cases ha:a=0<;>by_cases hb:b=0<;>simp[ha,hb]
def tyErr (kd ln sc:Int):Int :=
 if ¬ (0<=kd∧kd<=4) then 4
 else if ¬ (if kd=0 then 1<=ln∧ln<=256 else if kd=1∨kd=2 then 1<=ln∧ln<=15 else if kd=3 then ln=4∨ln=9 else ln=0) then 18
 else if ¬ (0<=sc∧sc<=(if kd=0∨kd=4 then 0 else ln)) then 3
 else 0
theorem f28q (kd ln sc:Int):f28F 1000 (kd,ln,sc)=some (tyErr kd ln sc):=by
 unfold f28F f28p1 f28p0 tyErr
 simp only[f70q,f43q,f42q,bind_some']
 by_cases h0:kd=0
 ·subst h0
  simp[cond_eq_ite]
  repeat' split
  all_goals first | rfl | omega
 by_cases h1:kd=1
 ·subst h1
  simp[cond_eq_ite]
  repeat' split
  all_goals first | rfl | omega
 by_cases h2:kd=2
 ·subst h2
  simp[cond_eq_ite]
  repeat' split
  all_goals first | rfl | omega
 by_cases h3:kd=3
 ·subst h3
  simp[cond_eq_ite]
  repeat' split
  all_goals first | rfl | omega
 by_cases h4:kd=4
 ·subst h4
  simp[cond_eq_ite]
  repeat' split
  all_goals first | rfl | omega
 ·have:¬ (0<=kd∧kd<=4):=by omega
  simp[cond_eq_ite,h0,h1,h2,h3,h4,this]
theorem f27q (kd ln sc:Int):f27F 1000 (kd,ln,sc)=some (tyErr kd ln sc):=by
 unfold f27F f27p1 f27p0 f27p2 tyErr
 simp only[f48q,f68q,f69q,bind_some']
 have w0:IntKind.i64.wrap (3*0)=0:=rfl
 have w1:IntKind.i64.wrap (3*1)=3:=rfl
 by_cases h0:kd=0
 ·subst h0
  simp[cond_eq_ite]
  repeat' split
  all_goals first | rfl | omega
 by_cases h1:kd=1
 ·subst h1
  simp[cond_eq_ite]
  repeat' split
  all_goals first | rfl | omega
 by_cases h2:kd=2
 ·subst h2
  simp[cond_eq_ite]
  repeat' split
  all_goals first | rfl | omega
 by_cases h3:kd=3
 ·subst h3
  simp[cond_eq_ite]
  repeat' split
  all_goals first | rfl | omega
 by_cases h4:kd=4
 ·subst h4
  simp[cond_eq_ite]
  repeat' split
  all_goals first | rfl | omega
 ·have:¬ (0<=kd∧kd<=4):=by omega
  simp[cond_eq_ite,h0,h1,h2,h3,h4,this]
def pw (n:Int):Int:=10 ^ n.toNat
theorem upto15 {n:Int}(h0:1<=n)(h1:n<=15):n=1∨n=2∨n=3∨n=4∨n=5∨n=6∨n=7∨n=8∨n=9∨n=10∨n=11∨n=12∨n=13∨n=14∨n=15:=by omega
theorem pw_bound {n:Int}(h0:1<=n)(h1:n<=15):10<=pw n∧pw n<=1000000000000000:=by
 rcases upto15 h0 h1 with rfl | rfl | rfl | rfl | rfl | rfl | rfl | rfl | rfl | rfl | rfl | rfl | rfl | rfl | rfl<;>decide
theorem f71q {n:Int}(h0:1<=n)(h1:n<=15):f71F 1000 n=some (pw n):=by
 rcases upto15 h0 h1 with rfl | rfl | rfl | rfl | rfl | rfl | rfl | rfl | rfl | rfl | rfl | rfl | rfl | rfl | rfl<;>kernel_rfl
theorem f81q {n:Int}(h0:1<=n)(h1:n<=15):f81F 1000 n=some (pw n):=by
 rcases upto15 h0 h1 with rfl | rfl | rfl | rfl | rfl | rfl | rfl | rfl | rfl | rfl | rfl | rfl | rfl | rfl | rfl<;>kernel_rfl
theorem f49q {kd n sc:Int}(h0:1<=n)(h1:n<=15):f49F 1000 (kd,n,sc)=some (pw n - 1):=by
 unfold f49F
 rw[f81q h0 h1]
 have:=pw_bound h0 h1
 show some (IntKind.i64.wrap (pw n - 1))=_
 rw[wi (by omega) (by omega)]
def valErr (kd ln sc n:Int)(s:ByteArray):Int :=
 if tyErr kd ln sc≠0 then tyErr kd ln sc
 else if kd=4 then 17
 else if kd=0 then (if n≠0 then 5 else if (s.size:Int)≠ln then 18 else 0)
 else if strEq s ByteArray.empty=false then 5
 else if ¬ (-(pw ln - 1)<=n∧n<=pw ln - 1) then 19
 else 0
theorem ty_ok {kd ln sc:Int}(h:tyErr kd ln sc=0):0<=kd∧kd<=4∧(kd=0->1<=ln∧ln<=256)∧(1<=kd∧kd<=3->1<=ln∧ln<=15)∧(kd=3->ln=4∨ln=9)∧(kd=4->ln=0)∧0<=sc∧(kd=0∨kd=4->sc=0)∧(1<=kd∧kd<=3->sc<=ln):=by
 unfold tyErr at h
 repeat' split at h
 all_goals omega
theorem f29q (kd ln sc n:Int)(s:ByteArray):f29F 1000 ((kd,ln,sc),n,s)=some (valErr kd ln sc n s):=by
 unfold f29F valErr
 simp only[f28q,f43q,f42q,bind_some']
 by_cases ht:tyErr kd ln sc=0
 ·obtain⟨a1,a2,a3,a4,a5,a6,a7,a8,a9⟩:=ty_ok ht
  rw[ht]
  by_cases h4:kd=4
  ·subst h4
   simp[cond_eq_ite]
  by_cases h0:kd=0
  ·subst h0
   simp[cond_eq_ite]
   repeat' split
   all_goals first | rfl | omega
  ·have hl:=a4 (by omega)
   have hb:=pw_bound hl.1 hl.2
   rw[f71q hl.1 hl.2]
   simp only[bind_some',f70q]
   rw[wi (x:=pw ln - 1) (by omega) (by omega),wi (x:=0 - (pw ln - 1)) (by omega) (by omega)]
   simp[cond_eq_ite,h4,h0]
   cases strEq s ByteArray.empty
   ·simp
   ·simp
    repeat' split
    all_goals first | rfl | omega
 ·have hn:(tyErr kd ln sc !=0)=true:=by simpa using ht
  simp[ht,cond_eq_ite]
theorem mx_abs {n:Int}(h0:-1000000000000000<=n)(h1:n<=1000000000000000):mxI n (IntKind.i64.wrap (0 - n))=if n<0 then -n else n:=by
 rw[wi (by omega) (by omega)]
 unfold mxI
 split<;>split<;>omega
theorem getD_mem {l:List Int}{P:Int->Prop}(h:∀ d∈l,P d){i:Nat}(hi:i<l.length):P (l.getD i 0):=by
 rw[List.getD_eq_getElem?_getD,List.getElem?_eq_getElem hi]
 exact h _ (List.getElem_mem hi)
theorem bytes_len (s:ByteArray):(bytesOf s).length=s.size:=by
 unfold bytesOf
 rw[List.length_map]
 rfl
theorem bytes_mem {s:ByteArray}{d:Int}(h:d∈bytesOf s):0<=d∧d<=255:=by
 simp only[bytesOf,List.mem_map] at h
 obtain⟨b,_,rfl⟩:=h
 have:=b.toNat_lt
 omega
theorem bytes_get (s:ByteArray)(i:Nat):0<=(bytesOf s).getD i 0∧(bytesOf s).getD i 0<=255:=by
 by_cases h:i<(bytesOf s).length
 ·exact getD_mem (P:=fun d=>0<=d∧d<=255) (fun d hd=>bytes_mem hd) h
 ·rw[List.getD_eq_getElem?_getD,List.getElem?_eq_none (by omega)]
  decide
theorem bt_get (s:ByteArray)(i:Nat):bt s (i:Int)=(bytesOf s).getD i 0:=by
 unfold bt
 rw[Int.toNat_natCast]
 split
 ·rename_i h
  have h':i<s.data.toList.length:=h
  simp only[bytesOf,List.getD_eq_getElem?_getD,List.getElem?_map,List.getElem?_eq_getElem h',Option.map_some,Option.getD_some]
  rfl
 ·rename_i h
  rw[List.getD_eq_getElem?_getD,List.getElem?_eq_none (by rw[bytes_len];omega)]
  rfl
theorem shr4:∀ b:Fin 256,shrI .u8 (b.val:Int) 4=(b.val:Int) / 16:=by decide +kernel
theorem shr4' {b:Int}(h0:0<=b)(h1:b<=255):shrI .u8 b 4=b / 16:=by
 have:=shr4 ⟨b.toNat,by omega⟩
 simp only at this
 rwa [show ((b.toNat:Nat):Int)=b by omega] at this
theorem and15:∀ b:Fin 256,bits .and .u8 (b.val:Int) 15=(b.val:Int) % 16:=by decide +kernel
theorem and15' {b:Int}(h0:0<=b)(h1:b<=255):bits .and .u8 b 15=b % 16:=by
 have:=and15 ⟨b.toNat,by omega⟩
 simp only at this
 rwa [show ((b.toNat:Nat):Int)=b by omega] at this
def scanB (bad:Nat->Bool)(val:Nat->Int):Nat->Nat->Int->Nat ⊕ Int
 | 0,_,n=>.inr n
 | r+1,i,n=>bif bad i then .inl i else scanB bad val r (i+1) (n*10+val i)
theorem scanB_bound {bad:Nat->Bool}{val:Nat->Int}{N:Nat}(hv:∀ i,i<N->bad i=false->0<=val i∧val i<=9):∀ {r i:Nat} {n m:Int},i+r<=N->0<=n->n<10 ^ i->scanB bad val r i n=.inr m->0<=m∧m<10 ^ (i+r)
 | 0,i,n,m,_,h0,h1,h=>by
  simp only[scanB,Sum.inr.injEq] at h
  subst h
  exact⟨h0,h1⟩
 | r+1,i,n,m,hN,h0,h1,h=>by
  simp only[scanB] at h
  cases hb:bad i with
  | true=>rw[hb] at h;cases h
  | false =>
   rw[hb] at h
   simp only[cond_false] at h
   obtain⟨v0,v1⟩:=hv i (by omega) hb
   have:=scanB_bound hv (r:=r) (i:=i+1) (n:=n*10+val i) (by omega) (by omega) (by rw[Int.pow_succ];omega) h
   rwa [show i+1+r=i+(r+1) by omega] at this
theorem scanB_lt {bad:Nat->Bool}{val:Nat->Int}:∀ {r i:Nat} {n:Int} {j:Nat},scanB bad val r i n=.inl j->i<=j∧j<i+r
 | 0,_,_,_,h=>by cases h
 | r+1,i,n,j,h=>by
  simp only[scanB] at h
  cases hb:bad i with
  | true =>
   rw[hb] at h
   simp only[cond_true,Sum.inl.injEq] at h
   omega
  | false =>
   rw[hb] at h
   have:=scanB_lt (r:=r) h
   omega
theorem scanB_congr {bad bad':Nat->Bool}{val val':Nat->Int}:∀ {r i:Nat} {n:Int},(∀ j,i<=j->j<i+r->bad j=bad' j∧val j=val' j)->scanB bad val r i n=scanB bad' val' r i n
 | 0,_,_,_=>rfl
 | r+1,i,n,h=>by
  obtain⟨h1,h2⟩:=h i (by omega) (by omega)
  simp only[scanB,h1,h2]
  rw[scanB_congr fun j a b=>h j (by omega) (by omega)]
theorem iter_scan {V R:Type}{Step:(V->Option R)->V->Option R}(st:Nat->Int->V){bad:Nat->Bool}{val:Nat->Int}{N:Nat}{exit:Nat->Option R}
  (hv:∀ i,i<N->bad i=false->0<=val i∧val i<=9) (hstep:∀ rec i m,i<N->0<=m->m<10 ^ i->Step rec (st i m)=bif bad i then exit i else rec (st (i+1) (m*10+val i))) :
  ∀ {r i k:Nat} {m:Int},i+r=N->r<=k->0<=m->m<10 ^ i->iterS Step k (st i m)=match scanB bad val r i m with
   | .inl j=>exit j
   | .inr m=>iterS Step (k - r) (st N m)
 | 0,i,k,m,hi,hk,h0,h1=>by
  rw[Nat.add_zero] at hi
  subst hi
  rfl
 | r+1,i,k,m,hi,hk,h0,h1=>by
  obtain⟨k,rfl⟩:∃ k',k=k'+1:=⟨k - 1,by omega⟩
  show Step (iterS Step k) (st i m)=_
  rw[hstep _ i m (by omega) h0 h1]
  simp only[scanB]
  cases hb:bad i with
  | true=>rfl
  | false =>
   simp only[cond_false]
   obtain⟨v0,v1⟩:=hv i (by omega) hb
   rw[iter_scan st hv hstep (r:=r) (i:=i+1) (k:=k) (by omega) (by omega) (by omega) (by rw[Int.pow_succ];omega),show k+1 - (r+1)=k - r by omega]
theorem pow_le16 {i:Nat}(h:i<=16):(10:Int) ^ i<=10000000000000000:=by
 have:=Nat.pow_le_pow_right (n:=10) (by decide) h
 have e:((10 ^ i:Nat):Int)=(10:Int) ^ i:=by simp
 rw[← e]
 omega
def half (s:ByteArray)(t:Nat):Int:=if t % 2=0 then (bytesOf s).getD (t / 2) 0 / 16 else (bytesOf s).getD (t / 2) 0 % 16
def atH (t:Nat):Int:=((t / 2:Nat):Int)
theorem half_bound (s:ByteArray)(t:Nat):0<=half s t∧half s t<=15:=by
 have:=bytes_get s (t / 2)
 unfold half
 split<;>omega
def lowh (s:ByteArray)(t:Nat):Int:=(bytesOf s).getD t 0 % 16
def atZ (t:Nat):Int:=(t:Int)
theorem halves1 {ln sc:Int}(s:ByteArray)(h:s.size<=400):f80F 1000 ((1,ln,sc),s)=some ((List.range (2*s.size)).map (half s),(List.range (2*s.size)).map atH):=by
 unfold f80F f80l1
 have key:=iter_for (R:=List Int×List Int) (Step:=fun rec v=>f80l1s 1000 rec (fun w3=>f80p2 1000 (fun w5=>some (w5.2.2.2.2.1,w5.2.2.2.2.2.1)) (w3.1,w3.2.1,w3.2.2.1,w3.2.2.2.1,w3.2.2.2.2.1,w3.2.2.2.2.2.1,())) v)
  (fun i=>(s,(s.size:Int),(i:Int),1,ln,sc,(List.range (2*i)).map (half s),(List.range (2*i)).map atH,())) s.size (fin:=some ((List.range (2*s.size)).map (half s),(List.range (2*s.size)).map atH)) ?_ ?_ (k:=1000) (by omega)
 ·simpa using key
 ·intro rec i hi
  unfold f80l1s f80p0
  have e1:(decide ((i:Int)<(s.size:Int)))=true:=by simp;omega
  have e0:(decide ((0:Int)<=(i:Int)))=true:=by simp
  have k1:((1:Int)==1)=true:=rfl
  obtain⟨b0,b1⟩:=bytes_get s i
  simp only[e1,e0,k1,Bool.and_self,cond_true,bt_get,shr4' b0 b1,and15' b0 b1]
  have c1:(decide ((((List.range (2*i)).map (half s)).length+[(bytesOf s).getD i 0 / 16,(bytesOf s).getD i 0 % 16].length)*1<=140737488355328)&&decide (((List.range (2*i)).map (half s)).length+[(bytesOf s).getD i 0 / 16,(bytesOf s).getD i 0 % 16].length<=9223372036854775807))=true:=by simp;omega
  have c2:(decide ((((List.range (2*i)).map atH).length+[(i:Int),(i:Int)].length)*8<=140737488355328)&&decide (((List.range (2*i)).map atH).length+[(i:Int),(i:Int)].length<=9223372036854775807))=true:=by simp;omega
  rw[c1,c2]
  simp only[cond_true]
  rw[wi (x:=(i:Int)+1) (by omega) (by omega)]
  have a1:(List.range (2*(i+1))).map (half s)=(List.range (2*i)).map (half s)++[(bytesOf s).getD i 0 / 16,(bytesOf s).getD i 0 % 16]:=by
   rw[show 2*(i+1)=2*i+1+1 by omega,List.range_succ,List.range_succ]
   simp only[List.map_append,List.map_cons,List.map_nil,List.append_assoc,List.cons_append,List.nil_append]
   have x1:half s (2*i)=(bytesOf s).getD i 0 / 16:=by unfold half;rw[if_pos (by omega),show 2*i / 2=i by omega]
   have x2:half s (2*i+1)=(bytesOf s).getD i 0 % 16:=by unfold half;rw[if_neg (by omega),show (2*i+1) / 2=i by omega]
   rw[x1,x2]
  have a2:(List.range (2*(i+1))).map atH=(List.range (2*i)).map atH++[(i:Int),(i:Int)]:=by
   rw[show 2*(i+1)=2*i+1+1 by omega,List.range_succ,List.range_succ]
   simp only[List.map_append,List.map_cons,List.map_nil,List.append_assoc,List.cons_append,List.nil_append]
   have x1:atH (2*i)=i:=by unfold atH;rw[show 2*i / 2=i by omega]
   have x2:atH (2*i+1)=i:=by unfold atH;rw[show (2*i+1) / 2=i by omega]
   rw[x1,x2]
  rw[a1,a2]
  rfl
 ·intro rec
  unfold f80l1s f80p2
  have e1:(decide ((s.size:Int)<(s.size:Int)))=false:=by simp
  simp only[e1,cond_false]
  rfl
theorem halves2 {ln sc:Int}(s:ByteArray)(h0:1<=s.size)(h:s.size<=400):f80F 1000 ((2,ln,sc),s)=some ((List.range s.size).map (lowh s)++[(bytesOf s).getD (s.size - 1) 0 / 16],(List.range s.size).map atZ++[((s.size - 1:Nat):Int)]):=by
 unfold f80F f80l1
 have key:=iter_for (R:=List Int×List Int) (Step:=fun rec v=>f80l1s 1000 rec (fun w3=>f80p2 1000 (fun w5=>some (w5.2.2.2.2.1,w5.2.2.2.2.2.1)) (w3.1,w3.2.1,w3.2.2.1,w3.2.2.2.1,w3.2.2.2.2.1,w3.2.2.2.2.2.1,())) v)
  (fun i=>(s,(s.size:Int),(i:Int),2,ln,sc,(List.range i).map (lowh s),(List.range i).map atZ,())) s.size (fin:=some ((List.range s.size).map (lowh s)++[(bytesOf s).getD (s.size - 1) 0 / 16],(List.range s.size).map atZ++[((s.size - 1:Nat):Int)])) ?_ ?_ (k:=1000) (by omega)
 ·simpa using key
 ·intro rec i hi
  unfold f80l1s f80p0
  have e1:(decide ((i:Int)<(s.size:Int)))=true:=by simp;omega
  have e0:(decide ((0:Int)<=(i:Int)))=true:=by simp
  have k1:((2:Int)==1)=false:=rfl
  obtain⟨b0,b1⟩:=bytes_get s i
  simp only[e1,e0,k1,Bool.and_self,cond_true,cond_false,bt_get,shr4' b0 b1,and15' b0 b1]
  have c1:(decide ((((List.range i).map (lowh s)).length+[(bytesOf s).getD i 0 % 16].length)*1<=140737488355328)&&decide (((List.range i).map (lowh s)).length+[(bytesOf s).getD i 0 % 16].length<=9223372036854775807))=true:=by simp;omega
  have c2:(decide ((((List.range i).map atZ).length+[(i:Int)].length)*8<=140737488355328)&&decide (((List.range i).map atZ).length+[(i:Int)].length<=9223372036854775807))=true:=by simp;omega
  rw[c1,c2]
  simp only[cond_true]
  rw[wi (x:=(i:Int)+1) (by omega) (by omega),List.range_succ,List.map_append,List.map_append]
  rfl
 ·intro rec
  unfold f80l1s f80p2
  have e1:(decide ((s.size:Int)<(s.size:Int)))=false:=by simp
  have k2:((2:Int)==2)=true:=rfl
  have w:IntKind.i64.wrap ((s.size:Int) - 1)=((s.size - 1:Nat):Int):=by rw[wi (by omega) (by omega)];omega
  have e0:(decide ((0:Int)<=((s.size - 1:Nat):Int)))=true:=by simp<;>omega
  have e2:(decide (((s.size - 1:Nat):Int)<(s.size:Int)))=true:=by simp<;>omega
  obtain⟨b0,b1⟩:=bytes_get s (s.size - 1)
  simp only[e1,cond_false,k2,cond_true,w,e0,e2,Bool.and_self,bt_get,shr4' b0 b1]
  have c1:(decide ((((List.range s.size).map (lowh s)).length+[(bytesOf s).getD (s.size - 1) 0 / 16].length)*1<=140737488355328)&&decide (((List.range s.size).map (lowh s)).length+[(bytesOf s).getD (s.size - 1) 0 / 16].length<=9223372036854775807))=true:=by simp;omega
  have c2:(decide ((((List.range s.size).map atZ).length+[((s.size - 1:Nat):Int)].length)*8<=140737488355328)&&decide (((List.range s.size).map atZ).length+[((s.size - 1:Nat):Int)].length<=9223372036854775807))=true:=by simp;omega
  rw[c1,c2]
  rfl
def sgn (m h:Int):Int:=if h=11∨h=13 then -m else m
def decR (bad:Nat->Bool)(h:Nat->Int)(a:Nat->Int)(N:Nat):Int×Int×Int :=
 match scanB bad h N 0 0 with
 | .inl j=>(0,a j,21)
 | .inr m=>if h N<10 then (0,a N,21) else (sgn m (h N),0,0)
def badN (h:Nat->Int)(N:Nat)(ln:Int)(i:Nat):Bool:=decide (h i > 9)||(decide (h i > 0)&&decide ((i:Int)<(N:Int) - ln))
theorem sign_eq (d m x:Int):(bif decide (d<10) then some ((0:Int),x,(21:Int)) else bif d==11 then some (0 - m,0,0) else bif d==13 then some (0 - m,0,0) else some (m,0,0))=some (if d<10 then (0,x,21) else (if d=11∨d=13 then -m else m,0,0)):=by
 by_cases x1:d<10
 ·simp[x1]
 ·by_cases x2:d=11
  ·subst x2;simp
  ·by_cases x3:d=13
   ·subst x3;simp
   ·have y2:(d==11)=false:=by simpa using x2
    have y3:(d==13)=false:=by simpa using x3
    simp[x1,x2,x3,y2,y3]
theorem f46q {kd ln sc:Int}{s:ByteArray}{h a:List Int}{N:Nat}(hf:f80F 1000 ((kd,ln,sc),s)=some (h,a))(hl:h.length=N+1)(al:a.length=N+1)(hN:N<=16)(l0:0<=ln)(l1:ln<=256)(hb:∀ i,0<=h.getD i 0∧h.getD i 0<=15) :
  f46F 1000 ((kd,ln,sc),s)=some (decR (badN (fun i=>h.getD i 0) N ln) (fun i=>h.getD i 0) (fun i=>a.getD i 0) N):=by
 unfold f46F
 have w:IntKind.i64.wrap ((h.length:Int) - 1)=(N:Int):=by rw[wi (by omega) (by omega)];omega
 have c1:sliceBds 0 (N:Int) (h.length:Int)=true:=by unfold sliceBds;simp;omega
 simp only[hf,bind_some',w,c1,cond_true,Int.toNat_natCast,List.drop_zero]
 have tl:(h.take N).length=N:=by simp;omega
 have tg:∀ i,i<N->(h.take N).getD i 0=h.getD i 0:=fun i hi=>by simp[List.getD_eq_getElem?_getD,List.getElem?_take,hi]
 rw[tl]
 unfold f46l1
 have key:=iter_scan (R:=Int×Int×Int) (Step:=fun rec v=>f46l1s 1000 rec (fun w6=>some (w6.1,w6.2.1,w6.2.2.1)) (fun w7=>f46p2 1000 (fun w8=>some (w8.1,w8.2.1,w8.2.2.1)) (fun w9=>some (w9.2.1,(0:Int),(0:Int))) (w7.1,w7.2.1,w7.2.2.1,w7.2.2.2.1,())) v)
  (fun i m=>((N:Int),m,h.take N,(N:Int),(i:Int),kd,ln,sc,h,a,())) (bad:=badN (fun i=>h.getD i 0) N ln) (val:=fun i=>h.getD i 0) (N:=N) (exit:=fun j=>some (0,a.getD j 0,21))
  (fun i hi hbad=>by
   simp only[badN,Bool.or_eq_false_iff,decide_eq_false_iff_not] at hbad
   exact⟨(hb i).1,by omega⟩)
  (fun rec i m hi m0 m1=>by
   have p:=pow_le16 (i:=i) (by omega)
   obtain⟨b0,b1⟩:=hb i
   unfold f46l1s f46p0
   have e1:(decide ((i:Int)<(N:Int)))=true:=by simp;omega
   have e0:(decide ((0:Int)<=(i:Int)))=true:=by simp
   have e2:(decide ((i:Int)<((h.take N).length:Int)))=true:=by rw[tl];exact e1
   have e3:(decide ((i:Int)<(a.length:Int)))=true:=by simp;omega
   simp only[e1,e0,e2,e3,Bool.and_self,cond_true,Int.toNat_natCast,tg i hi]
   rw[wi (x:=(N:Int) - ln) (by omega) (by omega),wi (x:=h.getD i 0) (by omega) (by omega),wi (x:=m*10) (by omega) (by omega),wi (x:=m*10+h.getD i 0) (by omega) (by omega),wi (x:=(i:Int)+1) (by omega) (by omega)]
   unfold badN
   cases decide (h.getD i 0 > 9)<;>cases decide (h.getD i 0 > 0)<;>cases decide ((i:Int)<(N:Int) - ln)<;>rfl)
  (r:=N) (i:=0) (k:=1000) (m:=0) (by omega) (by omega) (by omega) (by simp)
 refine Eq.trans key ?_
 unfold decR
 cases hsc:scanB (badN (fun i=>h.getD i 0) N ln) (fun i=>h.getD i 0) N 0 0 with
 | inl j=>rfl
 | inr m =>
  simp only
  obtain⟨k,hk⟩:∃ k,1000 - N=k+1:=⟨1000 - N - 1,by omega⟩
  rw[hk,iterS]
  have mb:=scanB_bound (N:=N) (fun i hi hbad=>by
   simp only[badN,Bool.or_eq_false_iff,decide_eq_false_iff_not] at hbad
   exact⟨(hb i).1,by omega⟩) (by omega) (by omega) (by simp) hsc
  have p:=pow_le16 (i:=0+N) (by omega)
  unfold f46l1s f46p2
  have e1:(decide ((N:Int)<(N:Int)))=false:=by simp
  have e0:(decide ((0:Int)<=(N:Int)))=true:=by simp
  have e2:(decide ((N:Int)<(h.length:Int)))=true:=by simp;omega
  have e3:(decide ((N:Int)<(a.length:Int)))=true:=by simp;omega
  simp only[e1,e0,e2,e3,Bool.and_self,cond_true,cond_false,Int.toNat_natCast]
  rw[wi (x:=0 - m) (by omega) (by omega)]
  unfold sgn
  exact sign_eq _ _ _
theorem f82q {m h:Int}(m0:-10000000000000000<=m)(m1:m<=10000000000000000):f82F 1000 (m,h)=some (sgn m h,decide (h≥10)):=by
 unfold f82F f82p0 sgn
 simp only
 rw[wi (x:=0 - m) (by omega) (by omega)]
 by_cases x2:h=11
 ·subst x2;simp
 ·by_cases x3:h=13
  ·subst x3;simp
  ·have y2:(h==11)=false:=by simpa using x2
   have y3:(h==13)=false:=by simpa using x3
   simp[y2,y3,x2,x3]
theorem scan_last {bad:Nat->Bool}{val:Nat->Int}{L:Nat}{c:Bool}:∀ {r i:Nat} {n:Int},i+(r+1)=L->scanB (fun i=>bad i||(decide (i=L - 1)&&c)) val (r+1) i n=(match scanB bad val (r+1) i n with
  | .inl j=>.inl j
  | .inr m=>bif c then .inl (L - 1) else .inr m)
 | 0,i,n,h=>by
  have:i=L - 1:=by omega
  simp only[scanB,this,decide_true,Bool.true_and]
  cases bad (L - 1)<;>cases c<;>rfl
 | r+1,i,n,h=>by
  have hne:¬ i=L - 1:=by omega
  rw[scanB]
  conv=>rhs;rw[scanB]
  simp only[hne,decide_false,Bool.false_and,Bool.or_false]
  cases bad i with
  | true=>rfl
  | false =>
   simp only[cond_false]
   exact scan_last (by omega)
theorem f50q {s:ByteArray}{L:Nat}(hs:s.size=L)(h0:1<=L)(h1:L<=16):f50F 1000 s=some (match decR (fun i=>decide (lowh s i > 9)) (fun i=>if i=L then (bytesOf s).getD (L - 1) 0 / 16 else lowh s i) (fun i=>if i=L then ((L - 1:Nat):Int) else (i:Int)) L with
  | (n,at_,e)=>((n,ByteArray.empty),at_,e)):=by
 unfold f50F f50l1
 let sg:Int:=(bytesOf s).getD (L - 1) 0 / 16
 obtain⟨g0,g1⟩:=bytes_get s (L - 1)
 have hlow:∀ i,0<=lowh s i∧lowh s i<=15:=fun i=>by have:=bytes_get s i;unfold lowh;omega
 have w:IntKind.i64.wrap ((s.size:Int) - 1)=((L - 1:Nat):Int):=by rw[wi (by omega) (by omega)];omega
 have key:=iter_scan (R:=(Int×ByteArray)×Int×Int) (Step:=fun rec v=>f50l1s 1000 rec (fun w4=>some ((w4.2.2.2.2.1,w4.2.2.2.2.2.1),w4.1,w4.2.1)) (fun w5=>Option.bind (f82F 1000 (w5.1,w5.2.1)) fun y6=>some ((y6.1,ByteArray.empty),(0:Int),(0:Int))) v)
  (fun i m=>(s,m,(if i<L then (15:Int) else sg),(i:Int),0,ByteArray.empty,())) (bad:=fun i=>decide (lowh s i > 9)||(decide (i=L - 1)&&decide (sg<10))) (val:=lowh s) (N:=L) (exit:=fun j=>some ((0,ByteArray.empty),(j:Int),21))
  (fun i hi hbad=>by
   simp only[Bool.or_eq_false_iff,decide_eq_false_iff_not] at hbad
   exact⟨(hlow i).1,by omega⟩)
  (fun rec i m hi m0 m1=>by
   have p:=pow_le16 (i:=i) (by omega)
   obtain⟨b0,b1⟩:=bytes_get s i
   have hlo:=hlow i
   have hlod:lowh s i=(bytesOf s).getD i 0 % 16:=rfl
   unfold f50l1s f50p0
   have e1:(decide ((i:Int)<(s.size:Int)))=true:=by simp;omega
   have e0:(decide ((0:Int)<=(i:Int)))=true:=by simp
   simp only[e1,e0,w,Bool.and_self,cond_true,bt_get]
   rw[wi (x:=(bytesOf s).getD i 0) (by omega) (by omega),Int.tmod_eq_emod_of_nonneg b0,Int.tdiv_eq_ediv_of_nonneg b0,wi (x:=(bytesOf s).getD i 0 / 16) (by omega) (by omega),← hlod,
    wi (x:=10*m) (by omega) (by omega),wi (x:=10*m+lowh s i) (by omega) (by omega),wi (x:=(i:Int)+1) (by omega) (by omega),show 10*m+lowh s i=m*10+lowh s i by omega]
   by_cases hL:i=L - 1
   ·have q:((i:Int)==((L - 1:Nat):Int))=true:=by rw[hL];simp
    have hsg:(bytesOf s).getD i 0 / 16=sg:=by rw[hL]
    rw[q,hsg]
    simp only[cond_true]
    have n1:¬ (i+1<L):=by omega
    by_cases x1:sg<10
    ·simp[x1,hL]
    ·by_cases x2:lowh s i > 9
     ·simp[x1,x2]
     ·simp[x1,x2,n1]
   ·have q:((i:Int)==((L - 1:Nat):Int))=false:=by simp;omega
    rw[q]
    have n0:i<L:=hi
    have n1:i+1<L:=by omega
    by_cases x2:lowh s i > 9
    ·simp[x2,n0]
    ·simp[x2,n0,n1,hL])
  (r:=L) (i:=0) (k:=1000) (m:=0) (by omega) (by omega) (by omega) (by simp)
 have hstart:(if (0:Nat)<L then (15:Int) else sg)=15:=if_pos (by omega)
 simp only[hstart] at key
 refine Eq.trans key ?_
 obtain⟨L',hL'⟩:∃ L',L=L'+1:=⟨L - 1,by omega⟩
 have sl:=scan_last (bad:=fun i=>decide (lowh s i > 9)) (val:=lowh s) (L:=L) (c:=decide (sg<10)) (r:=L') (i:=0) (n:=0) (by omega)
 rw[← hL'] at sl
 rw[sl]
 unfold decR
 have cg:scanB (fun i=>decide (lowh s i > 9)) (fun i=>if i=L then (bytesOf s).getD (L - 1) 0 / 16 else lowh s i) L 0 0=scanB (fun i=>decide (lowh s i > 9)) (lowh s) L 0 0:=scanB_congr fun j _ hj=>⟨rfl,if_neg (by omega)⟩
 rw[cg]
 cases hsc:scanB (fun i=>decide (lowh s i > 9)) (lowh s) L 0 0 with
 | inl j =>
  have:=scanB_lt hsc
  simp only
  rw[if_neg (by omega)]
 | inr m =>
  simp only[if_true]
  have mb:=scanB_bound (N:=L) (fun i hi hbad=>by
   simp only[decide_eq_false_iff_not] at hbad
   exact⟨(hlow i).1,by omega⟩) (by omega) (by omega) (by simp) hsc
  have p:=pow_le16 (i:=0+L) (by omega)
  show (match (bif decide (sg<10) then Sum.inl (L - 1) else Sum.inr m) with | .inl j=>_ | .inr m=>_)=some (match (if sg<10 then ((0:Int),((L - 1:Nat):Int),(21:Int)) else (sgn m sg,0,0)) with | (n,at_,e)=>((n,ByteArray.empty),at_,e))
  by_cases x1:sg<10
  ·simp[x1]
  ·simp only[x1,decide_false,cond_false,if_false]
   obtain⟨k,hk⟩:∃ k,1000 - L=k+1:=⟨1000 - L - 1,by omega⟩
   rw[hk,iterS]
   unfold f50l1s
   have e1:(decide ((L:Int)<(s.size:Int)))=false:=by simp;omega
   have n0:¬ (L<L):=by omega
   simp only[e1,cond_false,n0,if_false]
   rw[f82q (by omega) (by omega)]
   rfl
def badP (s:ByteArray)(ln:Int)(i:Nat):Bool:=decide (half s i > 9)||(decide (i=0)&&(decide (ln % 2=0)&&decide (half s i≠0)))
abbrev R51:=(Int×ByteArray)×Int×Int
theorem f51step {s:ByteArray}{z:Nat}{ln sc m:Int}(hz:s.size=z)(h1:z<=16)(l0:0<=ln)(i:Nat)(hi:i<2*z)(m0:0<=m)(m1:m<=10000000000000000)
  (rec:ByteArray×Int×Int×Int×Int×Int×Int×ByteArray×Unit->Option R51) (k1:Int×Int×ByteArray×Unit->Option R51) :
  f51l4s 1000 rec (fun w41=>some ((w41.2.2.2.1,w41.2.2.2.2.1),w41.1,w41.2.1)) k1 (s,m,(i:Int),1,ln,sc,0,ByteArray.empty,()) =
   bif (bif decide (i=2*z - 1) then decide (half s i<10) else decide (half s i > 9))||(decide (i=0)&&(decide (ln % 2=0)&&decide (half s i≠0))) then some ((0,ByteArray.empty),atH i,21)
   else rec (s,(bif decide (i=2*z - 1) then sgn m (half s i) else m*10+half s i),((i+1:Nat):Int),1,ln,sc,0,ByteArray.empty,()):=by
 obtain⟨b0,b1⟩:=bytes_get s (i / 2)
 obtain⟨h0,h15⟩:=half_bound s i
 have w1:IntKind.i64.wrap (2*(s.size:Int))=((2*z:Nat):Int):=by rw[hz,wi (by omega) (by omega)];omega
 have w2:IntKind.i64.wrap (((2*z:Nat):Int) - 1)=((2*z - 1:Nat):Int):=by rw[wi (by omega) (by omega)];omega
 have w3:IntKind.i64.wrap (Int.tdiv (i:Int) 2)=((i / 2:Nat):Int):=by rw[Int.tdiv_eq_ediv_of_nonneg (by omega),wi (by omega) (by omega)];omega
 have e1:(decide ((i:Int)<((2*z:Nat):Int)))=true:=by simp;omega
 have e0:(decide ((0:Int)<=((i / 2:Nat):Int)))=true:=by simp<;>omega
 have e2:(decide (((i / 2:Nat):Int)<(s.size:Int)))=true:=by simp;omega
 have wB:IntKind.i64.wrap ((bytesOf s).getD (i / 2) 0)=(bytesOf s).getD (i / 2) 0:=wi (by omega) (by omega)
 have wD:IntKind.i64.wrap (Int.tdiv ((bytesOf s).getD (i / 2) 0) 16)=(bytesOf s).getD (i / 2) 0 / 16:=by rw[Int.tdiv_eq_ediv_of_nonneg b0,wi (by omega) (by omega)]
 have wM:Int.tmod ((bytesOf s).getD (i / 2) 0) 16=(bytesOf s).getD (i / 2) 0 % 16:=Int.tmod_eq_emod_of_nonneg b0
 have wI:IntKind.i64.wrap ((i:Int)+1)=((i+1:Nat):Int):=by rw[wi (by omega) (by omega)];rfl
 have wL:Int.tmod ln 2=ln % 2:=Int.tmod_eq_emod_of_nonneg l0
 have wH:∀ h:Int,0<=h->h<=15->IntKind.i64.wrap (IntKind.i64.wrap (10*m)+h)=m*10+h:=fun h a b=>by rw[wi (x:=10*m) (by omega) (by omega),wi (by omega) (by omega)];omega
 have qL:((i:Int)==((2*z - 1:Nat):Int))=decide (i=2*z - 1):=by
  by_cases hh:i=2*z - 1
  ·rw[decide_eq_true hh,hh];simp
  ·rw[decide_eq_false hh];simp;omega
 have q0:((i:Int)==0)=decide (i=0):=by
  by_cases hh:i=0
  ·subst hh;rfl
  ·rw[decide_eq_false hh];simp;omega
 have qP:((ln % 2:Int)==0)=decide (ln % 2=0):=by
  by_cases hh:ln % 2=0
  ·rw[hh];rfl
  ·rw[decide_eq_false hh];simpa using hh
 have qN:(half s i !=0)=decide (half s i≠0):=by
  by_cases hh:half s i=0
  ·rw[hh];rfl
  ·rw[decide_eq_true hh];simpa using hh
 unfold f51l4s f51p3 f51p0 f51p1 f51p2
 simp only[w1,e1,cond_true,w3,e0,e2,Bool.and_self,bt_get,wB,wD,wM,w2,qL,q0,wL,qP,wI]
 by_cases hp:i % 2=0
 ·have p1:((Int.tmod (i:Int) 2)==1)=false:=by rw[Int.tmod_eq_emod_of_nonneg (by omega)];simp;omega
  have hh:(bytesOf s).getD (i / 2) 0 / 16=half s i:=by unfold half;rw[if_pos hp]
  simp only[p1,cond_false,hh,wH _ h0 h15,qN]
  have f:=f82q (m:=m) (h:=half s i) (by omega) (by omega)
  rw[f]
  simp only[bind_some']
  cases decide (i=2*z - 1)<;>cases decide (half s i<10)<;>cases decide (half s i > 9)<;>cases decide (i=0)<;>cases decide (ln % 2=0)<;>cases decide (half s i≠0)<;>rfl
 ·have p1:((Int.tmod (i:Int) 2)==1)=true:=by rw[Int.tmod_eq_emod_of_nonneg (by omega)];simp;omega
  have hh:(bytesOf s).getD (i / 2) 0 % 16=half s i:=by unfold half;rw[if_neg hp]
  simp only[p1,cond_true,hh,wH _ h0 h15,qN]
  have f:=f82q (m:=m) (h:=half s i) (by omega) (by omega)
  rw[f]
  simp only[bind_some']
  cases decide (i=2*z - 1)<;>cases decide (half s i<10)<;>cases decide (half s i > 9)<;>cases decide (i=0)<;>cases decide (ln % 2=0)<;>cases decide (half s i≠0)<;>rfl
theorem f51q {s:ByteArray}{z:Nat}{ln sc:Int}(hz:s.size=z)(h0:1<=z)(h1:z<=8)(l0:0<=ln):f51F 1000 ((1,ln,sc),s)=some (match decR (badP s ln) (half s) atH (2*z - 1) with
  | (n,at_,e)=>((n,ByteArray.empty),at_,e)):=by
 unfold f51F f51l4
 have key:=iter_scan (R:=R51) (Step:=fun rec v=>f51l4s 1000 rec (fun w41=>some ((w41.2.2.2.1,w41.2.2.2.2.1),w41.1,w41.2.1)) (fun w42=>some ((w42.1,ByteArray.empty),(0:Int),(0:Int))) v)
  (fun i m=>(s,m,(i:Int),1,ln,sc,0,ByteArray.empty,())) (bad:=badP s ln) (val:=half s) (N:=2*z - 1) (exit:=fun j=>some ((0,ByteArray.empty),atH j,21))
  (fun i hi hbad=>by
   simp only[badP,Bool.or_eq_false_iff,decide_eq_false_iff_not] at hbad
   exact⟨(half_bound s i).1,by omega⟩)
  (fun rec i m hi m0 m1=>by
   have p:=pow_le16 (i:=i) (by omega)
   have:=f51step (sc:=sc) hz (by omega) l0 i (by omega) m0 (by omega) rec (fun w42=>some ((w42.1,ByteArray.empty),(0:Int),(0:Int)))
   rw[this]
   have nl:¬ (i=2*z - 1):=by omega
   unfold badP
   simp only[nl,decide_false,cond_false])
  (r:=2*z - 1) (i:=0) (k:=1000) (m:=0) (by omega) (by omega) (by omega) (by simp)
 refine Eq.trans key ?_
 unfold decR
 cases hsc:scanB (badP s ln) (half s) (2*z - 1) 0 0 with
 | inl j=>rfl
 | inr m =>
  simp only
  have mb:=scanB_bound (N:=2*z - 1) (fun i hi hbad=>by
   simp only[badP,Bool.or_eq_false_iff,decide_eq_false_iff_not] at hbad
   exact⟨(half_bound s i).1,by omega⟩) (by omega) (by omega) (by simp) hsc
  have p:=pow_le16 (i:=0+(2*z - 1)) (by omega)
  obtain⟨k,hk⟩:∃ k,1000 - (2*z - 1)=k+1+1:=⟨1000 - (2*z - 1) - 2,by omega⟩
  rw[hk,iterS]
  have:=f51step (sc:=sc) hz (by omega) l0 (2*z - 1) (by omega) mb.1 (by omega) (iterS (fun rec v=>f51l4s 1000 rec (fun w41=>some ((w41.2.2.2.1,w41.2.2.2.2.1),w41.1,w41.2.1)) (fun w42=>some ((w42.1,ByteArray.empty),(0:Int),(0:Int))) v) (k+1)) (fun w42=>some ((w42.1,ByteArray.empty),(0:Int),(0:Int)))
  rw[this]
  have n0:¬ (2*z - 1=0):=by omega
  simp only[decide_true,cond_true,n0,decide_false,Bool.false_and,Bool.or_false]
  by_cases x1:half s (2*z - 1)<10
  ·simp[x1]
  ·simp only[x1,decide_false,cond_false,if_false]
   rw[iterS]
   unfold f51l4s
   have w1:IntKind.i64.wrap (2*(s.size:Int))=((2*z:Nat):Int):=by rw[hz,wi (by omega) (by omega)];omega
   have e1:(decide (((2*z - 1+1:Nat):Int)<((2*z:Nat):Int)))=false:=by simp;omega
   simp only[w1,e1,cond_false]
theorem dec1 {ln sc:Int}{s:ByteArray}(h0:1<=ln)(h1:ln<=15)(hs:(s.size:Int)=ln / 2+1):∃ n a e,f46F 1000 ((1,ln,sc),s)=some (n,a,e)∧f51F 1000 ((1,ln,sc),s)=some ((n,ByteArray.empty),a,e):=by
 obtain⟨z,hz⟩:∃ z,s.size=z:=⟨_,rfl⟩
 have hz0:1<=z:=by omega
 have hz1:z<=8:=by omega
 have hl:((List.range (2*z)).map (half s)).length=(2*z - 1)+1:=by simp;omega
 have al:((List.range (2*z)).map atH).length=(2*z - 1)+1:=by simp;omega
 have hg:∀ i,i<2*z->((List.range (2*z)).map (half s)).getD i 0=half s i:=fun i hi=>by simp[List.getD_eq_getElem?_getD,hi]
 have ag:∀ i,i<2*z->((List.range (2*z)).map atH).getD i 0=atH i:=fun i hi=>by simp[List.getD_eq_getElem?_getD,hi]
 have hb:∀ i,0<=((List.range (2*z)).map (half s)).getD i 0∧((List.range (2*z)).map (half s)).getD i 0<=15:=fun i=>by
  by_cases hi:i<2*z
  ·rw[hg i hi];exact half_bound s i
  ·rw[List.getD_eq_getElem?_getD,List.getElem?_eq_none (by simp;omega)];decide
 have hv:=halves1 (ln:=ln) (sc:=sc) s (by omega)
 rw[hz] at hv
 have A:=f46q hv hl al (by omega) (by omega) (by omega) hb
 have B:=f51q (ln:=ln) (sc:=sc) hz hz0 hz1 (by omega)
 have E:decR (badN (fun i=>((List.range (2*z)).map (half s)).getD i 0) (2*z - 1) ln) (fun i=>((List.range (2*z)).map (half s)).getD i 0) (fun i=>((List.range (2*z)).map atH).getD i 0) (2*z - 1)=decR (badP s ln) (half s) atH (2*z - 1):=by
  unfold decR
  have cg:scanB (badN (fun i=>((List.range (2*z)).map (half s)).getD i 0) (2*z - 1) ln) (fun i=>((List.range (2*z)).map (half s)).getD i 0) (2*z - 1) 0 0=scanB (badP s ln) (half s) (2*z - 1) 0 0:=scanB_congr fun j _ hj=>by
   refine⟨?_,hg j (by omega)⟩
   unfold badN badP
   simp only[hg j (by omega)]
   obtain⟨c0,c1⟩:=half_bound s j
   congr 1
   rw[← Bool.decide_and,← Bool.decide_and,← Bool.decide_and,decide_eq_decide]
   omega
  rw[cg]
  cases hsc:scanB (badP s ln) (half s) (2*z - 1) 0 0 with
  | inl j =>
   have:=scanB_lt hsc
   simp only[ag j (by omega)]
  | inr m=>simp only[hg (2*z - 1) (by omega),ag (2*z - 1) (by omega)]
 rw[E] at A
 exact⟨_,_,_,A,B⟩
theorem dec2 {ln sc:Int}{s:ByteArray}(h0:1<=ln)(h1:ln<=15)(hs:(s.size:Int)=ln):∃ n a e,f46F 1000 ((2,ln,sc),s)=some (n,a,e)∧f50F 1000 s=some ((n,ByteArray.empty),a,e):=by
 obtain⟨L,hL⟩:∃ L,s.size=L:=⟨_,rfl⟩
 have hL0:1<=L:=by omega
 have hL1:L<=15:=by omega
 obtain⟨g0,g1⟩:=bytes_get s (L - 1)
 have hl:((List.range L).map (lowh s)++[(bytesOf s).getD (L - 1) 0 / 16]).length=L+1:=by simp
 have al:((List.range L).map atZ++[((L - 1:Nat):Int)]).length=L+1:=by simp
 have hg:∀ i,i<=L->((List.range L).map (lowh s)++[(bytesOf s).getD (L - 1) 0 / 16]).getD i 0=if i=L then (bytesOf s).getD (L - 1) 0 / 16 else lowh s i:=fun i hi=>by
  by_cases h:i=L
  ·subst h;rw[if_pos rfl,List.getD_eq_getElem?_getD,List.getElem?_append_right (by simp)];simp
  ·rw[if_neg h,List.getD_eq_getElem?_getD,List.getElem?_append_left (by simp;omega)];simp[show i<L by omega]
 have ag:∀ i,i<=L->((List.range L).map atZ++[((L - 1:Nat):Int)]).getD i 0=if i=L then ((L - 1:Nat):Int) else (i:Int):=fun i hi=>by
  by_cases h:i=L
  ·subst h;rw[if_pos rfl,List.getD_eq_getElem?_getD,List.getElem?_append_right (by simp)];simp
  ·rw[if_neg h,List.getD_eq_getElem?_getD,List.getElem?_append_left (by simp;omega)];simp[show i<L by omega,atZ]
 have hb:∀ i,0<=((List.range L).map (lowh s)++[(bytesOf s).getD (L - 1) 0 / 16]).getD i 0∧((List.range L).map (lowh s)++[(bytesOf s).getD (L - 1) 0 / 16]).getD i 0<=15:=fun i=>by
  by_cases hi:i<=L
  ·rw[hg i hi]
   have:=bytes_get s i
   unfold lowh
   split<;>omega
  ·rw[List.getD_eq_getElem?_getD,List.getElem?_eq_none (by rw[hl];omega)];decide
 have hv:=halves2 (ln:=ln) (sc:=sc) s (by omega) (by omega)
 rw[hL] at hv
 have A:=f46q hv hl al (by omega) (by omega) (by omega) hb
 have B:=f50q hL hL0 (by omega)
 have E:decR (badN (fun i=>((List.range L).map (lowh s)++[(bytesOf s).getD (L - 1) 0 / 16]).getD i 0) L ln) (fun i=>((List.range L).map (lowh s)++[(bytesOf s).getD (L - 1) 0 / 16]).getD i 0) (fun i=>((List.range L).map atZ++[((L - 1:Nat):Int)]).getD i 0) L
   = decR (fun i=>decide (lowh s i > 9)) (fun i=>if i=L then (bytesOf s).getD (L - 1) 0 / 16 else lowh s i) (fun i=>if i=L then ((L - 1:Nat):Int) else (i:Int)) L:=by
  unfold decR
  have cg:scanB (badN (fun i=>((List.range L).map (lowh s)++[(bytesOf s).getD (L - 1) 0 / 16]).getD i 0) L ln) (fun i=>((List.range L).map (lowh s)++[(bytesOf s).getD (L - 1) 0 / 16]).getD i 0) L 0 0
    = scanB (fun i=>decide (lowh s i > 9)) (fun i=>if i=L then (bytesOf s).getD (L - 1) 0 / 16 else lowh s i) L 0 0:=scanB_congr fun j _ hj=>by
   refine⟨?_,hg j (by omega)⟩
   unfold badN
   simp only[hg j (by omega)]
   rw[if_neg (by omega)]
   have:¬ ((j:Int)<(L:Int) - ln):=by omega
   simp[this]
  rw[cg]
  cases hsc:scanB (fun i=>decide (lowh s i > 9)) (fun i=>if i=L then (bytesOf s).getD (L - 1) 0 / 16 else lowh s i) L 0 0 with
  | inl j =>
   have:=scanB_lt hsc
   simp only[ag j (by omega)]
  | inr m=>simp only[hg L (by omega),ag L (by omega)]
 rw[E] at A
 exact⟨_,_,_,A,B⟩
theorem or256 {n c:Int}(n0:-1099511627776<=n)(n1:n<=1099511627776)(c0:0<=c)(c1:c<=255):bits .or .i64 (shlI .i64 n 8) c=n*256+c:=by
 have hs:shlI .i64 n 8=n*256:=by
  unfold shlI
  rw[show min (8:Int).toNat IntKind.i64.bits=8 from rfl,show (2:Int) ^ 8=256 from rfl,wi (by omega) (by omega)]
 rw[hs]
 unfold bits
 simp only
 have key:(BitVec.ofInt IntKind.i64.bits (n*256) ||| BitVec.ofInt IntKind.i64.bits c).toNat=(((n*256+c) % 18446744073709551616)).toNat:=by
  rw[BitVec.toNat_or]
  have e1:(BitVec.ofInt IntKind.i64.bits (n*256)).toNat=((n % 72057594037927936).toNat) <<< 8:=by
   rw[BitVec.toNat_ofInt,Nat.shiftLeft_eq]
   show ((n*256) % ((2 ^ 64:Nat):Int)).toNat=_
   have:((2 ^ 64:Nat):Int)=18446744073709551616:=rfl
   rw[this]
   omega
  have e2:(BitVec.ofInt IntKind.i64.bits c).toNat=c.toNat:=by
   rw[BitVec.toNat_ofInt]
   show (c % ((2 ^ 64:Nat):Int)).toNat=_
   have:((2 ^ 64:Nat):Int)=18446744073709551616:=rfl
   rw[this]
   omega
  rw[e1,e2,← Nat.shiftLeft_add_eq_or_of_lt (by omega),Nat.shiftLeft_eq]
  omega
 rw[key,IntKind.wrap_i64]
 omega
theorem i8w:∀ b:Fin 256,IntKind.i8.wrap (b.val:Int)=if (b.val:Int)≥128 then (b.val:Int) - 256 else b.val:=by decide +kernel
theorem i8w' {b:Int}(h0:0<=b)(h1:b<=255):IntKind.i8.wrap b=if b≥128 then b - 256 else b:=by
 have:=i8w ⟨b.toNat,by omega⟩
 simp only at this
 rwa [show ((b.toNat:Nat):Int)=b by omega] at this
def fold (e:List Int)(n0:Int):Nat->Int
 | 0=>n0
 | i+1=>fold e n0 i*256+e.getD i 0
theorem fold_bound {e:List Int}{n0:Int}(h0:-128<=n0)(h1:n0<=255)(he:∀ i,0<=e.getD i 0∧e.getD i 0<=255):∀ i,-(128*256 ^ i)<=fold e n0 i∧fold e n0 i<=256*256 ^ i - 1
 | 0=>by simp[fold];omega
 | i+1=>by
  have:=fold_bound h0 h1 he i
  have:=he i
  simp only[fold,Int.pow_succ]
  omega
theorem p256 {i:Nat}(h:i<=4):(256:Int) ^ i<=4294967296:=by
 have:i=0∨i=1∨i=2∨i=3∨i=4:=by omega
 rcases this with rfl | rfl | rfl | rfl | rfl<;>decide
theorem bytes_tail (s:ByteArray):bytesOf (s.extract 1 s.size)=(bytesOf s).drop 1:=by
 unfold bytesOf
 rw[← List.map_drop]
 congr 1
 rw[ByteArray.data_extract,Array.toList_extract,List.extract_eq_take_drop]
 exact List.take_of_length_le (by rw[List.length_drop];exact Nat.le_refl _)
theorem f45q {s:ByteArray}(h0:1<=s.size)(h1:s.size<=4):f45F 1000 s=some (fold ((bytesOf s).drop 1) (if (bytesOf s).getD 0 0≥128 then (bytesOf s).getD 0 0 - 256 else (bytesOf s).getD 0 0) (s.size - 1)):=by
 obtain⟨b0,b1⟩:=bytes_get s 0
 unfold f45F
 have c1:(decide ((0:Int)<(s.size:Int)))=true:=by simp;omega
 have c2:sliceBds 1 (s.size:Int) (s.size:Int)=true:=by unfold sliceBds;simp;omega
 have hz:((bytesOf s).drop 1).length=s.size - 1:=by rw[List.length_drop,bytes_len]
 have c3:(decide ((s.extract 1 s.size).size<=9223372036854775807))=true:=by
  have:(s.extract 1 s.size).size=s.size - 1:=by rw[← bytes_len,bytes_tail,hz]
  simp[this];omega
 have hb0:bt s 0=(bytesOf s).getD 0 0:=bt_get s 0
 simp only[c1,c2,Int.toNat_natCast,c3,cond_true,bytes_tail,hz,hb0,i8w' b0 b1]
 have he:∀ i,0<=((bytesOf s).drop 1).getD i 0∧((bytesOf s).drop 1).getD i 0<=255:=fun i=>by
  have:=bytes_get s (1+i)
  rw[List.getD_eq_getElem?_getD,List.getElem?_drop]
  rwa [List.getD_eq_getElem?_getD] at this
 have n0:-128<=(if (bytesOf s).getD 0 0≥128 then (bytesOf s).getD 0 0 - 256 else (bytesOf s).getD 0 0)∧(if (bytesOf s).getD 0 0≥128 then (bytesOf s).getD 0 0 - 256 else (bytesOf s).getD 0 0)<=255:=by split<;>omega
 rw[wi (by omega) (by omega)]
 unfold f45l0
 have key:=iter_for (R:=Int) (Step:=fun rec v=>f45l0s 1000 rec (fun w2=>some w2.1) v) (fun i=>(fold ((bytesOf s).drop 1) (if (bytesOf s).getD 0 0≥128 then (bytesOf s).getD 0 0 - 256 else (bytesOf s).getD 0 0) i,((s.size - 1:Nat):Int),(i:Int),(bytesOf s).drop 1,())) (s.size - 1)
  (fin:=some (fold ((bytesOf s).drop 1) (if (bytesOf s).getD 0 0≥128 then (bytesOf s).getD 0 0 - 256 else (bytesOf s).getD 0 0) (s.size - 1))) ?_ ?_ (k:=1000) (by omega)
 ·exact key
 ·intro rec i hi
  have fb:=fold_bound n0.1 n0.2 he i
  have p:=p256 (i:=i) (by omega)
  obtain⟨c0,c1⟩:=he i
  unfold f45l0s
  have e1:(decide ((i:Int)<((s.size - 1:Nat):Int)))=true:=by simp;omega
  have e0:(decide ((0:Int)<=(i:Int)))=true:=by simp
  have e2:(decide ((i:Int)<(((bytesOf s).drop 1).length:Int)))=true:=by rw[hz];exact e1
  simp only[e1,e0,e2,Bool.and_self,cond_true,Int.toNat_natCast]
  rw[wi (x:=((bytesOf s).drop 1).getD i 0) (by omega) (by omega),or256 (by omega) (by omega) c0 c1,wi (x:=(i:Int)+1) (by omega) (by omega)]
  rfl
 ·intro rec
  unfold f45l0s
  have e1:(decide (((s.size - 1:Nat):Int)<((s.size - 1:Nat):Int)))=false:=by simp
  simp only[e1,cond_false]
theorem f47q {s:ByteArray}(h1:s.size<=4):f47F 1000 (s,0,(s.size:Int))=some (fold (bytesOf s) 0 s.size):=by
 unfold f47F f47l0
 have he:∀ i,0<=(bytesOf s).getD i 0∧(bytesOf s).getD i 0<=255:=bytes_get s
 have key:=iter_for (R:=Int) (Step:=fun rec v=>f47l0s 1000 rec (fun w2=>some w2.1) v) (fun i=>(s,0,(s.size:Int),fold (bytesOf s) 0 i,(i:Int),())) s.size (fin:=some (fold (bytesOf s) 0 s.size)) ?_ ?_ (k:=1000) (by omega)
 ·exact key
 ·intro rec i hi
  have fb:=fold_bound (n0:=0) (by decide) (by decide) he i
  have p:=p256 (i:=i) (by omega)
  obtain⟨c0,c1⟩:=he i
  unfold f47l0s
  have e1:(decide ((i:Int)<(s.size:Int)))=true:=by simp;omega
  have e0:(decide ((0:Int)<=(i:Int)))=true:=by simp
  have w0:IntKind.i64.wrap (0+(i:Int))=i:=by rw[wi (by omega) (by omega)];omega
  simp only[e1,w0,e0,Bool.and_self,cond_true,bt_get]
  rw[wi (x:=fold (bytesOf s) 0 i*256) (by omega) (by omega),wi (x:=(bytesOf s).getD i 0) (by omega) (by omega),wi (x:=fold (bytesOf s) 0 i*256+(bytesOf s).getD i 0) (by omega) (by omega),wi (x:=(i:Int)+1) (by omega) (by omega)]
  rfl
 ·intro rec
  unfold f47l0s
  have e1:(decide ((s.size:Int)<(s.size:Int)))=false:=by simp
  simp only[e1,cond_false]
def szOf (kd ln:Int):Int:=if kd=1 then ln / 2+1 else if kd=3 then (if ln=9 then 4 else 2) else ln
theorem size_q {kd ln sc:Int}(ht:tyErr kd ln sc=0)(h4:kd≠4):f44F 1000 (kd,ln,sc)=some (szOf kd ln)∧f31F 1000 (kd,ln,sc)=some (szOf kd ln):=by
 obtain⟨a1,a2,a3,a4,a5,a6,a7,a8,a9⟩:=ty_ok ht
 have:kd=0∨kd=1∨kd=2∨kd=3:=by omega
 rcases this with rfl | rfl | rfl | rfl
 ·exact⟨rfl,rfl⟩
 ·obtain⟨l0,l1⟩:=a4 (by omega)
  have w:IntKind.i64.wrap (IntKind.i64.wrap (Int.tdiv ln 2)+1)=ln / 2+1:=by rw[Int.tdiv_eq_ediv_of_nonneg (by omega),wi (x:=ln / 2) (by omega) (by omega),wi (by omega) (by omega)]
  constructor
  ·show some (IntKind.i64.wrap (IntKind.i64.wrap (Int.tdiv ln 2)+1))=_
   rw[w];rfl
  ·show some (IntKind.i64.wrap (IntKind.i64.wrap (Int.tdiv ln 2)+1))=_
   rw[w];rfl
 ·exact⟨rfl,rfl⟩
 ·rcases a5 rfl with rfl | rfl<;>exact⟨rfl,rfl⟩
theorem bin_eq {s:ByteArray}{z:Nat}(hz:s.size=z)(h:z=2∨z=4):fold ((bytesOf s).drop 1) (if (bytesOf s).getD 0 0≥128 then (bytesOf s).getD 0 0 - 256 else (bytesOf s).getD 0 0) (z - 1)=(if (bytesOf s).getD 0 0≥128 then fold (bytesOf s) 0 z - 2 ^ (8*z) else fold (bytesOf s) 0 z):=by
 have hd:∀ i,((bytesOf s).drop 1).getD i 0=(bytesOf s).getD (i+1) 0:=fun i=>by
  rw[List.getD_eq_getElem?_getD,List.getElem?_drop,List.getD_eq_getElem?_getD,Nat.add_comm]
 rcases h with rfl | rfl
 ·simp only[fold,hd,Nat.reduceSub,Nat.reduceAdd]
  split<;>omega
 ·simp only[fold,hd,Nat.reduceSub,Nat.reduceAdd]
  split<;>omega
theorem dec3 {ln sc:Int}{s:ByteArray}(hl:ln=4∨ln=9)(ht:tyErr 3 ln sc=0)(hs:(s.size:Int)=szOf 3 ln):∃ r,f16F 1000 ((3,ln,sc),s)=some r∧f17F 1000 ((3,ln,sc),s)=some r:=by
 obtain⟨g44,g31⟩:=size_q ht (by decide)
 obtain⟨z,hz⟩:∃ z,s.size=z:=⟨_,rfl⟩
 have hz24:z=2∨z=4:=by
  unfold szOf at hs
  rcases hl with rfl | rfl
  ·simp at hs;omega
  ·simp at hs;omega
 have l0:1<=ln:=by omega
 have l1:ln<=15:=by omega
 have pb:=pw_bound l0 l1
 obtain⟨b0,b1⟩:=bytes_get s 0
 have F:=f45q (s:=s) (by omega) (by omega)
 have G:=f47q (s:=s) (by omega)
 rw[hz,bin_eq hz hz24] at F
 have hb0:bt s 0=(bytesOf s).getD 0 0:=bt_get s 0
 let n:Int:=if (bytesOf s).getD 0 0≥128 then fold (bytesOf s) 0 z - 2 ^ (8*z) else fold (bytesOf s) 0 z
 have fb:=fold_bound (n0:=0) (by decide) (by decide) (bytes_get s) z
 have p:=p256 (i:=z) (by omega)
 have e18:((s.size:Int) !=szOf 3 ln)=false:=by rw[hs];simp
 refine⟨if pw ln - 1<n∨n < -(pw ln - 1) then (((0:Int),ByteArray.empty),(0:Int),(19:Int)) else ((n,ByteArray.empty),0,0),?_,?_⟩
 ·unfold f16F f16p0
  simp only[f28q,ht,f43q,f42q,bind_some',g44,e18,F,f29q]
  have hv:valErr 3 ln sc n ByteArray.empty=if pw ln - 1<n∨n < -(pw ln - 1) then 19 else 0:=by
   unfold valErr
   rw[if_neg (by simp[ht]),if_neg (by decide),if_neg (by decide),strEq_self,if_neg (by decide)]
   split<;>split<;>first | rfl | omega
  have hv':valErr 3 ln sc (if (bytesOf s).getD 0 0≥128 then fold (bytesOf s) 0 z - 2 ^ (8*z) else fold (bytesOf s) 0 z) ByteArray.empty=if pw ln - 1<n∨n < -(pw ln - 1) then 19 else 0:=hv
  rw[hv']
  by_cases hr:pw ln - 1<n∨n < -(pw ln - 1)
  ·rw[if_pos hr,if_pos hr];rfl
  ·rw[if_neg hr,if_neg hr];rfl
 ·unfold f17F f17p0
  rw[hz] at G e18
  have e0:((3:Int)==4)=false:=rfl
  have e1:((3:Int)==0)=false:=rfl
  have e2:((3:Int)==3)=true:=rfl
  have c1:(decide ((0:Int)<(z:Int)))=true:=by simp;omega
  have y0:((0:Int) !=0)=false:=rfl
  simp only[f27q,ht,bind_some',y0,e0,e1,e2,g31,cond_false,cond_true,hz,e18,G,c1,hb0,f49q l0 l1,f48q]
  have w8:IntKind.i64.wrap (8*(z:Int))=8*(z:Int):=wi (by omega) (by omega)
  have c2:(decide ((0:Int)<=8*(z:Int)))=true:=by simp;omega
  have sh:shlI .i64 1 (8*(z:Int))=2 ^ (8*z):=by rcases hz24 with rfl | rfl<;>rfl
  have pz:(2:Int) ^ (8*z)=256 ^ z:=by rcases hz24 with rfl | rfl<;>rfl
  rw[w8,c2,sh]
  simp only[cond_true]
  rw[wi (x:=0 - (pw ln - 1)) (by omega) (by omega)]
  by_cases hb:(bytesOf s).getD 0 0≥128
  ·have hn:n=fold (bytesOf s) 0 z - 2 ^ (8*z):=if_pos hb
   rw[decide_eq_true hb,wi (x:=fold (bytesOf s) 0 z - 2 ^ (8*z)) (by omega) (by omega),← hn]
   simp only[cond_true]
   by_cases hr:pw ln - 1<n∨n < -(pw ln - 1)
   ·rw[if_pos hr,decide_eq_false (by omega)];rfl
   ·rw[if_neg hr,decide_eq_true (by omega)];rfl
  ·have hn:n=fold (bytesOf s) 0 z:=if_neg hb
   rw[decide_eq_false hb,← hn]
   simp only[cond_false]
   by_cases hr:pw ln - 1<n∨n < -(pw ln - 1)
   ·rw[if_pos hr,decide_eq_false (by omega)];rfl
   ·rw[if_neg hr,decide_eq_true (by omega)];rfl
theorem f16q (kd ln sc:Int)(s:ByteArray):∃ r,f16F 1000 ((kd,ln,sc),s)=some r∧f17F 1000 ((kd,ln,sc),s)=some r:=by
 by_cases ht:tyErr kd ln sc=0
 ·obtain⟨a1,a2,a3,a4,a5,a6,a7,a8,a9⟩:=ty_ok ht
  by_cases h4:kd=4
  ·subst h4
   refine⟨(((0:Int),ByteArray.empty),(0:Int),(17:Int)),?_,?_⟩
   ·unfold f16F f16p0
    simp only[f28q,ht,f43q,f42q,bind_some']
    rfl
   ·unfold f17F
    simp only[f27q,ht,bind_some']
    rfl
  ·obtain⟨g44,g31⟩:=size_q ht h4
   have k4:(kd==4)=false:=by simpa using h4
   have y0:((0:Int) !=0)=false:=rfl
   have z0:((0:Int)==0)=true:=rfl
   have tt:(if false=true then (17:Int) else 0)=0:=rfl
   have t0:(if (0:Int)=0 then (0:Int) else 0)=0:=rfl
   by_cases hs:(s.size:Int)=szOf kd ln
   ·have e18:((s.size:Int) !=szOf kd ln)=false:=by rw[hs];simp
    have:kd=0∨kd=1∨kd=2∨kd=3:=by omega
    rcases this with rfl | rfl | rfl | rfl
    ·refine⟨(((0:Int),s),(0:Int),(0:Int)),?_,?_⟩
     ·unfold f16F f16p0
      simp only[f28q,ht,f43q,f42q,bind_some',k4,tt,t0,z0,cond_true,g44,e18]
      rfl
     ·unfold f17F
      simp only[f27q,ht,bind_some',y0,k4,cond_false,g31,e18]
      rfl
    ·obtain⟨l0,l1⟩:=a4 (by omega)
     obtain⟨n,a,e,A,B⟩:=dec1 (sc:=sc) l0 l1 hs
     refine⟨((n,ByteArray.empty),a,e),?_,?_⟩
     ·unfold f16F f16p0
      simp only[f28q,ht,f43q,f42q,bind_some',k4,tt,t0,z0,cond_true,g44,e18,A]
      rfl
     ·unfold f17F
      simp only[f27q,ht,bind_some',y0,k4,cond_false,g31,e18,B]
      rfl
    ·obtain⟨l0,l1⟩:=a4 (by omega)
     obtain⟨n,a,e,A,B⟩:=dec2 (sc:=sc) l0 l1 hs
     refine⟨((n,ByteArray.empty),a,e),?_,?_⟩
     ·unfold f16F f16p0
      simp only[f28q,ht,f43q,f42q,bind_some',k4,tt,t0,z0,cond_true,g44,e18,A]
      rfl
     ·unfold f17F
      simp only[f27q,ht,bind_some',y0,k4,cond_false,g31,e18,B]
      rfl
    ·exact dec3 (a5 rfl) ht hs
   ·have e18:((s.size:Int) !=szOf kd ln)=true:=by simpa using hs
    refine⟨(((0:Int),ByteArray.empty),(0:Int),(18:Int)),?_,?_⟩
    ·unfold f16F f16p0
     simp only[f28q,ht,f43q,f42q,bind_some',k4,tt,t0,z0,cond_true,g44,e18]
     rfl
    ·unfold f17F
     simp only[f27q,ht,bind_some',y0,k4,cond_false,g31,e18]
     rfl
 ·have hn:(tyErr kd ln sc !=0)=true:=by simpa using ht
  have hz:(tyErr kd ln sc==0)=false:=by simpa using ht
  refine⟨(((0:Int),ByteArray.empty),(0:Int),tyErr kd ln sc),?_,?_⟩
  ·unfold f16F f16p0
   simp only[f28q,f43q,f42q,bind_some',if_neg ht,hz,cond_false,hn,cond_true]
  ·unfold f17F
   simp only[f27q,bind_some',hn,cond_true]
end Go.Proofs.YthcmomgkfjjajaaGreatDoor
namespace Go.Ab
def S (l:List UInt8):ByteArray:=⟨l.toArray⟩
theorem S_list (l:List UInt8):(S l).data.toList=l:=by simp[S]
theorem S_of (s:ByteArray):S s.data.toList=s:=by cases s;simp[S]
theorem S_ext {a b:ByteArray}(h:a.data.toList=b.data.toList):a=b:=by rw[← S_of a,← S_of b,h]
theorem S_inj {l m:List UInt8}:S l=S m↔l=m:=⟨fun h=>by rw[← S_list l,← S_list m,h],fun h=>by rw[h]⟩
theorem S_size (l:List UInt8):(S l).size=l.length:=by simp[S,ByteArray.size]
theorem S_app (l m:List UInt8):S l++S m=S (l++m):=S_ext (by simp[S_list])
theorem S_cut (l:List UInt8)(i j:Nat):(S l).extract i j=S ((l.take j).drop i):=S_ext (by
 rw[S_list]
 simp[S,List.extract_eq_take_drop,List.drop_take])
theorem S_nums (xs:List Int):strOfNums xs=S (xs.map fun n=>UInt8.ofNat n.toNat):=rfl
theorem S_bt (l:List UInt8)(i:Nat)(h:i<l.length):bt (S l) (i:Int)=((l.getD i 0).toNat:Int):=by
 unfold bt
 rw[dif_pos (by rw[S_size];simpa using h)]
 simp[S,List.getD_eq_getElem?_getD,h]
 rfl
theorem S_eq (l m:List UInt8):strEq (S l) (S m)=decide (l=m):=by
 by_cases h:l=m
 ·subst h;rw[strEq_self];simp
 ·rw[decide_eq_false h]
  cases e:strEq (S l) (S m) with
  | false=>rfl
  | true=>exact absurd (S_inj.1 (strEq_iff.1 e)) h
def ints (l:List UInt8):List Int:=l.map fun b=>(b.toNat:Int)
theorem ints_app (l m:List UInt8):ints (l++m)=ints l++ints m:=by simp[ints]
theorem ints_length (l:List UInt8):(ints l).length=l.length:=by simp[ints]
theorem S_bytes (l:List UInt8):bytesOf (S l)=ints l:=by
 unfold bytesOf
 rw[S_list]
 rfl
theorem S_back (l:List UInt8):strOfNums (ints l)=S l:=by
 rw[S_nums]
 unfold ints
 rw[List.map_map]
 congr 1
 conv=>rhs;rw[← List.map_id l]
 refine List.map_congr_left fun b _=>?_
 simp
theorem S_nil:S []=ByteArray.empty:=rfl
theorem ints_get {l:List UInt8}{i:Nat}(h:i<l.length):(ints l).getD i 0=((l.getD i 0).toNat:Int):=by
 simp[ints,List.getD_eq_getElem?_getD,h]
theorem byte_rng (b:UInt8):0<=(b.toNat:Int)∧(b.toNat:Int)<=255:=by
 have:=b.toNat_lt
 omega
theorem sliceB {a b n:Nat}(h1:a<=b)(h2:b<=n):sliceBds (a:Int) (b:Int) (n:Int)=true:=by
 unfold sliceBds
 simp
 omega
theorem sliceB0 {b n:Nat}(h2:b<=n):sliceBds 0 (b:Int) (n:Int)=true:=sliceB (a:=0) (by omega) h2
theorem iter_list {α A V R:Type}{Step:(V->Option R)->V->Option R}(l:List α)(mk:Nat->A->V)(g:List α->A->Option R)(P:Nat->A->Prop)
  (hnil:∀ rec a,P l.length a->Step rec (mk l.length a)=g [] a)
  (hcons:∀ rec i a x,l[i]?=some x->i<l.length->P i a->(∃ a',P (i+1) a'∧Step rec (mk i a)=rec (mk (i+1) a')∧g (x::l.drop (i+1)) a=g (l.drop (i+1)) a')∨Step rec (mk i a)=g (x::l.drop (i+1)) a) :
  ∀ {k:Nat},l.length<k->∀ a,P 0 a->iterS Step k (mk 0 a)=g l a:=by
 have main:∀ (d i k:Nat),i+d=l.length->d<k->∀ a,P i a->iterS Step k (mk i a)=g (l.drop i) a:=by
  intro d
  induction d with
  | zero =>
   intro i k hi hk a hp
   cases k with
   | zero=>omega
   | succ k =>
    have hi:i=l.length:=by omega
    subst hi
    show Step (iterS Step k) _=_
    rw[hnil _ _ hp,List.drop_length]
  | succ d ih =>
   intro i k hi hk a hp
   cases k with
   | zero=>omega
   | succ k =>
    show Step (iterS Step k) _=_
    have hl:i<l.length:=by omega
    have hx:l[i]?=some l[i]:=List.getElem?_eq_getElem hl
    rw[List.drop_eq_getElem_cons hl]
    rcases hcons (iterS Step k) i a _ hx hl hp with ⟨a',hp',h1,h2⟩ | h
    ·rw[h1,h2]
     exact ih (i+1) k (by omega) (by omega) a' hp'
    ·exact h
 intro k hk a hp
 exact main l.length 0 k (by omega) hk a hp
theorem iter_from {α A V R:Type}{Step:(V->Option R)->V->Option R}(l:List α)(mk:Nat->A->V)(g:List α->A->Option R)(P:Nat->A->Prop)
  (hnil:∀ rec a,P l.length a->Step rec (mk l.length a)=g [] a)
  (hcons:∀ rec i a x,l[i]?=some x->i<l.length->P i a->(∃ a',P (i+1) a'∧Step rec (mk i a)=rec (mk (i+1) a')∧g (x::l.drop (i+1)) a=g (l.drop (i+1)) a')∨Step rec (mk i a)=g (x::l.drop (i+1)) a) :
  ∀ {k:Nat},l.length<k->∀ i a,i<=l.length->P i a->iterS Step k (mk i a)=g (l.drop i) a:=by
 have main:∀ (d i k:Nat),i+d=l.length->d<k->∀ a,P i a->iterS Step k (mk i a)=g (l.drop i) a:=by
  intro d
  induction d with
  | zero =>
   intro i k hi hk a hp
   cases k with
   | zero=>omega
   | succ k =>
    have hi:i=l.length:=by omega
    subst hi
    show Step (iterS Step k) _=_
    rw[hnil _ _ hp,List.drop_length]
  | succ d ih =>
   intro i k hi hk a hp
   cases k with
   | zero=>omega
   | succ k =>
    show Step (iterS Step k) _=_
    have hl:i<l.length:=by omega
    have hx:l[i]?=some l[i]:=List.getElem?_eq_getElem hl
    rw[List.drop_eq_getElem_cons hl]
    rcases hcons (iterS Step k) i a _ hx hl hp with ⟨a',hp',h1,h2⟩ | h
    ·rw[h1,h2]
     exact ih (i+1) k (by omega) (by omega) a' hp'
    ·exact h
 intro k hk i a hi hp
 exact main (l.length - i) i k (by omega) (by omega) a hp
theorem iterS_1000 {V R:Type}(Step:(V->Option R)->V->Option R)(v:V):iterS Step 1000 v=Step (iterS Step 999) v:=rfl
theorem getD_of {α:Type}{l:List α}{i:Nat}{x d:α}(h:l[i]?=some x):l.getD i d=x:=by
 rw[List.getD_eq_getElem?_getD,h];rfl
theorem inb {i n:Nat}(h:i<n):((decide ((0:Int)<=(i:Int)))&&(decide ((i:Int)<(n:Int))))=true:=by
 simp
 omega
theorem ltn {i n:Nat}(h:i<n):decide ((i:Int)<(n:Int))=true:=by simp;omega
theorem wi_succ {i:Nat}(h:i<9223372036854775807):IntKind.i64.wrap ((i:Int)+1)=((i+1:Nat):Int):=by
 rw[wi (by omega) (by omega)]
 omega
def nmA (c:Int):Bool:=(decide (65<=c)&&decide (c<=90))||(c==35||(c==36||c==64))
def nmB (c:Int):Bool:=nmA c||((decide (48<=c)&&decide (c<=57))||(c==95||c==46))
def nmL:Bool->List Int->Bool
 | _,[]=>true
 | f,c::l=>(bif f then nmA c else nmB c)&&nmL false l
def isNm (s:ByteArray):Bool:=decide (1<=s.size∧s.size<=10)&&nmL true (bytesOf s)
end Go.Ab
namespace Go.Proofs.YthcmomgkfjjajaaGreatDoor
open Go.Ab
theorem nn (i:Nat):decide ((0:Int)<=(i:Int))=true:=by simp
theorem bne0 {x:Int}(h:x≠0):(x !=0)=true:=by simpa using h
abbrev Typ:=Int×(Int×Int)
abbrev Msg:=Int×(Int×(ByteArray×(ByteArray×(ByteArray×(Bool×(Bool×Int))))))
abbrev Que:=ByteArray×(Int×(Bool×(Int×List Msg)))
abbrev Dsc:=ByteArray×(Int×(ByteArray×(ByteArray×(List Typ×(ByteArray×List ByteArray)))))
abbrev Sys:=List Dsc×List Que
def fst0:List Int->Int
 | []=>0
 | x::l=>if x≠0 then x else fst0 l
theorem f760q (l:List Int)(hl:l.length<1000):f760F 1000 l=some (fst0 l):=by
 unfold f760F f760l0
 refine iter_list (k:=1000) (R:=Int) (A:=Unit) l (fun i _=>(l,(l.length:Int),(i:Int),())) (fun m _=>some (fst0 m)) (fun _ _=>True) ?_ ?_ hl () trivial
 ·intro rec a _
  unfold f760l0s
  simp[fst0]
 ·intro rec i a x hx hi _
  unfold f760l0s
  simp only[ltn hi,nn,Bool.and_self,cond_true,Int.toNat_natCast,getD_of hx,wi_succ (i:=i) (by omega)]
  by_cases h:x=0
  ·exact .inl ⟨(),trivial,by simp[h],by simp[fst0,h]⟩
  ·exact .inr (by rw[bif_true (bne0 h)];simp[fst0,h])
theorem f761q (k:Nat)(b:Bool)(e:Int):f761F k (b,e)=some (bif b then e else 0):=by
 unfold f761F
 cases b<;>rfl
theorem f762q (k:Nat)(a b c:Int):f762F k (a,b,c)=some (decide (b<=a)&&decide (a<=c)):=by
 unfold f762F
 simp only
 cases decide (b<=a)<;>rfl
theorem f48w (k:Nat)(a b c:Int):f48F k (a,b,c)=some (decide (b<=a)&&decide (a<=c)):=by
 unfold f48F
 simp only
 cases decide (b<=a)<;>rfl
def upr (c:Int):Bool:=decide (65<=c)&&decide (c<=90)
def dgc (c:Int):Bool:=decide (48<=c)&&decide (c<=57)
theorem f810q (k:Nat)(c:Int):f810F k c=some (upr c):=by
 unfold f810F upr
 cases decide ((65:Int)<=c)<;>rfl
theorem f813q (k:Nat)(c:Int):f813F k c=some (upr c):=by
 unfold f813F upr
 cases decide ((65:Int)<=c)<;>rfl
theorem f811q (k:Nat)(c:Int):f811F k c=some (dgc c):=by
 unfold f811F dgc
 cases decide ((48:Int)<=c)<;>rfl
theorem f814q (k:Nat)(c:Int):f814F k c=some (dgc c):=by
 unfold f814F dgc
 cases decide ((48:Int)<=c)<;>rfl
def shc (c:Int):Bool:=decide (32<=c)&&decide (c<=126)
def isTx (s:ByteArray):Bool:=(bytesOf s).all shc
theorem f832q (k:Nat)(c:Int):f832F k c=some (!shc c):=by
 unfold f832F shc
 by_cases h:c<32
 ·rw[bif_true (by simpa using h),decide_eq_false (by omega)];rfl
 ·rw[bif_false (by simpa using h),decide_eq_true (show 32<=c by omega)]
  by_cases h2:c<=126
  ·rw[decide_eq_true h2,decide_eq_false (by omega)];rfl
  ·rw[decide_eq_false h2,decide_eq_true (by omega)];rfl
def ixF {α:Type}(p:α->Bool):Nat->List α->Int
 | _,[]=>-1
 | i,x::l=>bif p x then (i:Int) else ixF p (i+1) l
def ix {α:Type}(p:α->Bool)(l:List α):Int:=ixF p 0 l
theorem ixF_lt {α:Type}(p:α->Bool):∀ (l:List α) (i:Nat),ixF p i l=-1∧(∀ x∈l,p x=false)∨∃ j x,ixF p i l=((i+j:Nat):Int)∧l[j]?=some x∧p x=true∧∀ m,m<j->∀ y,l[m]?=some y->p y=false
 | [],i=>.inl ⟨rfl,fun x h=>by cases h⟩
 | x::l,i=>by
  unfold ixF
  cases h:p x with
  | true=>exact .inr ⟨0,x,rfl,rfl,h,fun m hm=>by omega⟩
  | false =>
   rcases ixF_lt p l (i+1) with ⟨h1,h2⟩ | ⟨j,y,h1,h2,h3,h4⟩
   ·refine .inl ⟨h1,fun z hz=>?_⟩
    rcases List.mem_cons.1 hz with e | hz
    ·rw[e];exact h
    ·exact h2 z hz
   ·refine .inr ⟨j+1,y,by rw[cond_false,h1];omega,h2,h3,fun m hm z hz=>?_⟩
    cases m with
    | zero=>simp at hz;rw[← hz];exact h
    | succ m=>exact h4 m (by omega) z hz
theorem ix_spec {α:Type}(p:α->Bool)(l:List α):ix p l=-1∧(∀ x∈l,p x=false)∨∃ (j:Nat) (x:α),ix p l=(j:Int)∧l[j]?=some x∧p x=true∧∀ m,m<j->∀ y,l[m]?=some y->p y=false:=by
 rcases ixF_lt p l 0 with h | ⟨j,x,h1,h2⟩
 ·exact .inl h
 ·exact .inr ⟨j,x,by unfold ix;rw[h1,Nat.zero_add],h2⟩
theorem iter_find {α V R:Type}{Step:(V->Option R)->V->Option R}(l:List α)(p:α->Bool)(mk:Nat->V)(F:Int->Option R)
  (hnil:∀ rec,Step rec (mk l.length)=F (-1))
  (hcons:∀ rec (i:Nat) x,l[i]?=some x->i<l.length->Step rec (mk i)=bif p x then F (i:Int) else rec (mk (i+1))) {k:Nat} (hk:l.length<k):iterS Step k (mk 0)=F (ix p l):=by
 refine iter_list (k:=k) (A:=Nat) l (fun i _=>mk i) (fun m a=>F (ixF p a m)) (fun i a=>a=i) ?_ ?_ hk 0 rfl
 ·intro rec a _
  exact hnil rec
 ·intro rec i a x hx hi hp
  subst hp
  rw[hcons rec a x hx hi]
  rw[show ixF p a (x::l.drop (a+1))=bif p x then (a:Int) else ixF p (a+1) (l.drop (a+1)) from rfl]
  cases p x with
  | true=>exact .inr rfl
  | false=>exact .inl ⟨_,rfl,rfl,rfl⟩
theorem ix_neg {α:Type}(p:α->Bool)(l:List α):(ix p l==-1)=decide (ix p l<0):=by
 rcases ix_spec p l with ⟨h,_⟩ | ⟨j,x,h,_⟩
 ·rw[h];rfl
 ·rw[h,decide_eq_false (by omega)];simp
theorem ix_nonneg {α:Type}(p:α->Bool)(l:List α):decide (ix p l≥0)=!(ix p l==-1):=by
 rcases ix_spec p l with ⟨h,_⟩ | ⟨j,x,h,_⟩
 ·rw[h];rfl
 ·rw[h,decide_eq_true (by omega)];simp
theorem ix_any {α:Type}(p:α->Bool)(l:List α):(!(ix p l==-1))=l.any p:=by
 rcases ix_spec p l with ⟨h,g⟩ | ⟨j,x,h,hx,hp,_⟩
 ·rw[h]
  have:l.any p=false:=by rw[List.any_eq_false];intro x hx;rw[g x hx];decide
  rw[this];rfl
 ·have:l.any p=true:=List.any_eq_true.2 ⟨x,List.mem_of_getElem? hx,hp⟩
  rw[h,this];simp
theorem strEq_comm (a b:ByteArray):strEq a b=strEq b a:=by
 rw[Bool.eq_iff_iff,strEq_iff,strEq_iff];exact eq_comm
theorem f849q (l:List Int)(hl:l.length<1000):f849v0F 1000 (l,())=some (ix (fun c=>!shc c) l,l,()):=by
 unfold f849v0F f849v0l0
 refine iter_find l (fun c=>!shc c) (fun i=>((l.length:Int),(i:Int),l,())) (fun i=>some (i,l,())) ?_ ?_ hl
 ·intro rec
  unfold f849v0l0s
  simp
 ·intro rec i x hx hi
  unfold f849v0l0s
  simp only[ltn hi,nn,Bool.and_self,cond_true,Int.toNat_natCast,getD_of hx,f832q,bind_some',wi_succ (i:=i) (by omega)]
theorem f815q (s:ByteArray)(hs:s.size<1000):f815F 1000 s=some (isTx s):=by
 have hl:(bytesOf s).length=s.size:=by unfold bytesOf;rw[List.length_map];rfl
 unfold f815F f831v0F
 simp only[show decide (s.size<=9223372036854775807)=true by simp;omega,cond_true,f849q _ (show (bytesOf s).length<1000 by omega),bind_some',ix_nonneg,ix_any,isTx]
 congr 1
 rw[Bool.eq_iff_iff]
 simp[List.all_eq_true]
theorem f756q (s:ByteArray)(hs:s.size<1000):f756F 1000 s=some (isTx s):=by
 obtain⟨l,rfl⟩:∃ l,s=S l:=⟨_,(S_of s).symm⟩
 rw[S_size] at hs
 unfold f756F f756l0 isTx
 rw[S_bytes]
 refine iter_list (k:=1000) (R:=Bool) (A:=Unit) l (fun i _=>(S l,(i:Int),())) (fun m _=>some ((ints m).all shc)) (fun _ _=>True) ?_ ?_ hs () trivial
 ·intro rec a _
  unfold f756l0s
  simp[S_size,ints]
 ·intro rec i a x hx hi _
  unfold f756l0s
  have hg:l.getD i 0=x:=getD_of hx
  simp only[S_size,ltn hi,nn,Bool.and_self,cond_true,S_bt l i hi,hg,wi_succ (i:=i) (by omega)]
  have e:(ints (x::l.drop (i+1))).all shc=(shc (x.toNat:Int)&&(ints (l.drop (i+1))).all shc):=rfl
  rw[e]
  by_cases h:((x.toNat:Nat):Int)<32
  ·refine .inr ?_
   rw[bif_true (by simpa using h),show shc (x.toNat:Int)=false by unfold shc;rw[decide_eq_false (by omega)];rfl]
   rfl
  ·by_cases h2:((x.toNat:Nat):Int) > 126
   ·refine .inr ?_
    rw[bif_false (by simpa using h),bif_true (by simpa using h2),show shc (x.toNat:Int)=false by unfold shc;rw[decide_eq_false (show ¬ ((x.toNat:Int)<=126) by omega),Bool.and_false]]
    rfl
   ·refine .inl ⟨(),trivial,?_,?_⟩
    ·rw[bif_false (by simpa using h),bif_false (by simpa using h2)]
    ·rw[show shc (x.toNat:Int)=true by unfold shc;rw[decide_eq_true (by omega),decide_eq_true (by omega)];rfl,Bool.true_and]
def txE (s:ByteArray)(n:Int):Int:=if (s.size:Int) > n then 2 else if isTx s then 0 else 5
theorem f797q (s:ByteArray)(n:Int)(hs:s.size<1000):f797F 1000 (s,n)=some (txE s n):=by
 unfold f797F txE
 simp only[f761q,f815q s hs,bind_some',f760q _ (show ([_,_]:List Int).length<1000 by simp)]
 by_cases h:(s.size:Int) > n
 ·simp[h,fst0]
 ·cases h2:isTx s<;>simp[h,h2,fst0]
def idc (i:Nat)(c:Int):Bool:=dgc c||(upr c&&(decide (i<=1)||decide (c<=70)))
def allI:Nat->List Int->Bool
 | _,[]=>true
 | i,c::l=>idc i c&&allI (i+1) l
def isId (s:ByteArray):Bool:=decide (s.size=7)&&(upr ((bytesOf s).getD 0 0)&&allI 0 ((bytesOf s).drop 1))
theorem f788p0q {R:Type}(k0:Bool×Int×Int×List Int×Unit->Option R)(k1:Int×Int×List Int×Unit->Option R)(n:Int)(i:Nat)(l:List Int)(x:Int)(hx:l[i]?=some x) :
  f788p0 1000 k0 k1 (n,(i:Int),l,())=bif idc i x then k1 (n,(i:Int),l,()) else k0 (false,n,(i:Int),l,()):=by
 have hi:i<l.length:=(List.getElem?_eq_some_iff.1 hx).1
 unfold f788p0
 simp only[inb hi,cond_true,Int.toNat_natCast,getD_of hx,f811q,f810q,bind_some']
 unfold idc
 cases dgc x with
 | true=>rfl
 | false =>
  cases upr x with
  | false=>rfl
  | true =>
   show (bif decide ((i:Int) > 1) then bif decide (x > 70) then k0 (false,n,(i:Int),l,()) else k1 (n,(i:Int),l,()) else k1 (n,(i:Int),l,()))=_
   by_cases h1:i<=1
   ·rw[decide_eq_true h1,decide_eq_false (show ¬ (i:Int) > 1 by omega)];rfl
   ·rw[decide_eq_false h1,decide_eq_true (show (i:Int) > 1 by omega)]
    by_cases h2:x<=70
    ·rw[decide_eq_true h2,decide_eq_false (show ¬ x > 70 by omega)];rfl
    ·rw[decide_eq_false h2,decide_eq_true (show x > 70 by omega)];rfl
theorem f788q (s:ByteArray):f788F 1000 s=some (isId s):=by
 obtain⟨l,rfl⟩:∃ l,s=S l:=⟨_,(S_of s).symm⟩
 unfold f788F isId
 rw[S_size,S_bytes]
 by_cases h7:l.length=7
 ·have hx:(l.take l.length).drop 1=l.drop 1:=by rw[List.take_length]
  have hb:bt (S l) 0=(ints l).getD 0 0:=by
   have:=S_bt l 0 (by omega)
   rw[ints_get (by omega)];exact this
  rw[decide_eq_true h7,Bool.true_and,bif_false (by simp;omega),bif_true (by simp;omega)]
  simp only[f810q,bind_some',hb]
  cases upr ((ints l).getD 0 0) with
  | false=>rfl
  | true =>
   have hs:sliceBds 1 (l.length:Int) (l.length:Int)=true:=sliceB (a:=1) (by omega) (by omega)
   have h2:∀ n:Int,decide (((S l).extract 1 l.length).size<=9223372036854775807)=true:=fun _=>by rw[S_cut,S_size];simp;omega
   rw[Bool.not_true,cond_false,Bool.true_and,hs,cond_true,Int.toNat_natCast,h2 0,cond_true,S_cut,hx,S_bytes]
   have hd:ints (l.drop 1)=(ints l).drop 1:=by simp[ints]
   rw[hd]
   unfold f788l1
   refine iter_list (k:=1000) (R:=Bool) (A:=Nat) ((ints l).drop 1) (fun i _=>((((ints l).drop 1).length:Int),(i:Int),(ints l).drop 1,())) (fun m a=>some (allI a m)) (fun i a=>a=i) ?_ ?_ (by simp[ints];omega) 0 rfl
   ·intro rec a _
    unfold f788l1s
    simp[allI]
   ·intro rec i a x hx hi ha
    subst ha
    unfold f788l1s
    simp only[ltn hi,cond_true,f788p0q _ _ _ _ _ _ hx,allI]
    cases idc a x with
    | true=>exact .inl ⟨_,rfl,by rw[cond_true,wi_succ (i:=a) (by simp[ints] at hi;omega)],by simp[allI]⟩
    | false=>exact .inr rfl
 ·rw[decide_eq_false h7,bif_true (by simp;omega)];rfl
theorem f791p0q {R:Type}(k0:ByteArray×Bool×Int×Unit->Option R)(k1:ByteArray×Int×Unit->Option R)(i:Nat)(l:List UInt8)(x:UInt8)(hx:l[i+1]?=some x) :
  f791p0 1000 k0 k1 (S l,((i+1:Nat):Int),())=bif idc i (x.toNat:Int) then k1 (S l,((i+1:Nat):Int),()) else k0 (S l,false,((i+1:Nat):Int),()):=by
 have hi:i+1<l.length:=(List.getElem?_eq_some_iff.1 hx).1
 have hg:l.getD (i+1) 0=x:=getD_of hx
 unfold f791p0
 simp only[S_size,inb hi,cond_true,S_bt l _ hi,hg,f814q,f813q,bind_some']
 generalize (x.toNat:Int)=c
 unfold idc
 cases hd:dgc c with
 | true=>rfl
 | false =>
  by_cases h1:i<=1
  ·rw[bif_true (by rfl),bif_true (show decide (((i+1:Nat):Int)<3)=true by simp;omega),bif_false (show decide (((i+1:Nat):Int)≥3)=false by simp;omega),decide_eq_true h1]
   cases upr c<;>rfl
  ·rw[bif_true (by rfl),bif_false (show decide (((i+1:Nat):Int)<3)=false by simp;omega),bif_true (show decide (((i+1:Nat):Int)≥3)=true by simp;omega),decide_eq_false h1]
   unfold upr
   by_cases h2:c<65
   ·rw[decide_eq_true h2,decide_eq_false (show ¬ 65<=c by omega)];rfl
   ·rw[decide_eq_false h2,decide_eq_true (show 65<=c by omega)]
    by_cases h3:c > 70
    ·rw[decide_eq_true h3,decide_eq_false (show ¬ c<=70 by omega)];simp
    ·rw[decide_eq_false h3,decide_eq_true (show c<=70 by omega),decide_eq_true (show c<=90 by omega)];rfl
theorem f791q (s:ByteArray):f791F 1000 s=some (isId s):=by
 obtain⟨l,rfl⟩:∃ l,s=S l:=⟨_,(S_of s).symm⟩
 unfold f791F isId
 rw[S_size,S_bytes]
 by_cases h7:l.length=7
 ·have hb:bt (S l) 0=(ints l).getD 0 0:=by
   have:=S_bt l 0 (by omega)
   rw[ints_get (by omega)];exact this
  rw[decide_eq_true h7,Bool.true_and,bif_false (by simp;omega),bif_true (by simp;omega)]
  simp only[f813q,bind_some',hb]
  cases upr ((ints l).getD 0 0) with
  | false=>rfl
  | true =>
   rw[Bool.not_true,cond_false,Bool.true_and]
   have hd:ints (l.drop 1)=(ints l).drop 1:=by simp[ints]
   rw[← hd]
   unfold f791l1
   have key:=iter_from (k:=1000) (R:=Bool) (A:=Nat) (Step:=fun rec v=>f791l1s 1000 rec (fun w6=>some w6.1) (fun w7=>some true) v) l (fun i _=>(S l,(i:Int),())) (fun m a=>some (allI a (ints m))) (fun i a=>i=a+1) ?_ ?_ (by omega) 1 0 (by omega) rfl
   ·exact key
   ·intro rec a _
    unfold f791l1s
    simp[h7,allI,ints]
   ·intro rec i a x hx hi ha
    subst ha
    unfold f791l1s
    simp only[show decide (((a+1:Nat):Int)<7)=true by simp;omega,cond_true,f791p0q _ _ _ _ _ hx]
    have e:allI a (ints (x::l.drop (a+1+1)))=(idc a (x.toNat:Int)&&allI (a+1) (ints (l.drop (a+1+1)))):=rfl
    rw[e]
    cases idc a (x.toNat:Int) with
    | true=>exact .inl ⟨_,rfl,by rw[cond_true,wi_succ (i:=a+1) (by omega)],by simp⟩
    | false=>exact .inr rfl
 ·rw[decide_eq_false h7,bif_true (by simp;omega)];rfl
set_option maxHeartbeats 1000000 in
theorem f782p0q {R:Type}(k0:Int×Int×List Int×Unit->Option R)(k1:Bool×Int×Int×List Int×Unit->Option R)(n:Int)(i:Nat)(l:List Int)(x:Int)(hx:l[i]?=some x) :
  f782p0 1000 k0 k1 (n,(i:Int),l,())=bif (bif i==0 then nmA x else nmB x) then k0 (n,(i:Int),l,()) else k1 (false,n,(i:Int),l,()):=by
 have hi:i<l.length:=(List.getElem?_eq_some_iff.1 hx).1
 unfold f782p0
 simp only[inb hi,cond_true,Int.toNat_natCast,getD_of hx,f810q,f811q,bind_some']
 have e0:((i:Int)==0)=(i==0):=by rw[Bool.eq_iff_iff];simp
 simp only[e0]
 unfold nmB nmA upr dgc
 generalize hz:(i==0)=z
 clear e0 hx
 cases z
 all_goals
  simp only[cond_eq_ite,Bool.or_eq_true,Bool.and_eq_true,decide_eq_true_eq,beq_iff_eq,Bool.not_eq_true',beq_eq_false_iff_ne,ne_eq,Bool.false_eq_true,if_false,if_true,bne_iff_ne,Bool.and_eq_false_iff,decide_eq_false_iff_not]
  repeat' split
  all_goals first | rfl | (exfalso;omega)
set_option maxHeartbeats 1000000 in
theorem f785p0q {R:Type}(k0:ByteArray×Int×Unit->Option R)(k1:ByteArray×Bool×Int×Unit->Option R)(i:Nat)(l:List UInt8)(x:UInt8)(hx:l[i]?=some x) :
  f785p0 1000 k0 k1 (S l,(i:Int),())=bif (bif i==0 then nmA (x.toNat:Int) else nmB (x.toNat:Int)) then k0 (S l,(i:Int),()) else k1 (S l,false,(i:Int),()):=by
 have hi:i<l.length:=(List.getElem?_eq_some_iff.1 hx).1
 have hg:l.getD i 0=x:=getD_of hx
 unfold f785p0
 simp only[S_size,inb hi,cond_true,S_bt l _ hi,hg,f813q,f814q,bind_some']
 have e0:((i:Int)==0)=(i==0):=by rw[Bool.eq_iff_iff];simp
 simp only[e0]
 generalize (x.toNat:Int)=c
 unfold nmB nmA upr dgc
 generalize hz:(i==0)=z
 clear e0 hx hg
 cases z
 all_goals
  simp only[cond_eq_ite,Bool.or_eq_true,Bool.and_eq_true,decide_eq_true_eq,beq_iff_eq,Bool.not_eq_true',beq_eq_false_iff_ne,ne_eq,Bool.false_eq_true,if_false,if_true,bne_iff_ne,Bool.and_eq_false_iff,decide_eq_false_iff_not]
  repeat' split
  all_goals first | rfl | (exfalso;omega)
theorem f782q (s:ByteArray):f782F 1000 s=some (isNm s):=by
 obtain⟨l,rfl⟩:∃ l,s=S l:=⟨_,(S_of s).symm⟩
 unfold f782F isNm
 rw[S_size,← S_nil,S_eq,S_bytes]
 by_cases h0:l=[]
 ·subst h0;rfl
 have h1:1<=l.length:=by
  cases l with
  | nil=>exact absurd rfl h0
  | cons=>simp
 rw[decide_eq_false h0,cond_false]
 by_cases h10:l.length<=10
 ·rw[show decide ((l.length:Int) > 10)=false by simp;omega,cond_false,show decide (l.length<=9223372036854775807)=true by simp;omega,cond_true,show decide (1<=l.length∧l.length<=10)=true by simp;omega,Bool.true_and]
  unfold f782l1
  refine iter_list (k:=1000) (R:=Bool) (A:=Bool) (ints l) (fun i _=>(((ints l).length:Int),(i:Int),ints l,())) (fun m a=>some (nmL a m)) (fun i a=>a=(i==0)) ?_ ?_ (by rw[ints_length];omega) true rfl
  ·intro rec a _
   unfold f782l1s
   simp[nmL]
  ·intro rec i a x hx hi ha
   subst ha
   unfold f782l1s
   simp only[ltn hi,cond_true,f782p0q _ _ _ _ _ _ hx,nmL]
   cases (bif i==0 then nmA x else nmB x) with
   | true=>exact .inl ⟨_,rfl,by rw[cond_true,wi_succ (i:=i) (by rw[ints_length] at hi;omega)],by simp⟩
   | false=>exact .inr rfl
 ·rw[show decide ((l.length:Int) > 10)=true by simp;omega,cond_true,show decide (1<=l.length∧l.length<=10)=false by simp;omega]
  rfl
theorem f785q (s:ByteArray):f785F 1000 s=some (isNm s):=by
 obtain⟨l,rfl⟩:∃ l,s=S l:=⟨_,(S_of s).symm⟩
 unfold f785F isNm
 simp only[S_size,f48w,bind_some',S_bytes]
 by_cases h:1<=l.length∧l.length<=10
 ·rw[decide_eq_true h,Bool.true_and,show (decide ((1:Int)<=(l.length:Int))&&decide ((l.length:Int)<=10))=true by simp;omega,Bool.not_true,cond_false]
  unfold f785l1
  refine iter_list (k:=1000) (R:=Bool) (A:=Bool) l (fun i _=>(S l,(i:Int),())) (fun m a=>some (nmL a (ints m))) (fun i a=>a=(i==0)) ?_ ?_ (by omega) true rfl
  ·intro rec a _
   unfold f785l1s
   simp[nmL,S_size,ints]
  ·intro rec i a x hx hi ha
   subst ha
   unfold f785l1s
   simp only[S_size,ltn hi,cond_true,f785p0q _ _ _ _ _ hx]
   have e:nmL (i==0) (ints (x::l.drop (i+1)))=((bif i==0 then nmA (x.toNat:Int) else nmB (x.toNat:Int))&&nmL false (ints (l.drop (i+1)))):=rfl
   rw[e]
   cases (bif i==0 then nmA (x.toNat:Int) else nmB (x.toNat:Int)) with
   | true=>exact .inl ⟨_,rfl,by rw[cond_true,wi_succ (i:=i) (by omega)],by simp⟩
   | false=>exact .inr rfl
 ·rw[decide_eq_false h,show (decide ((1:Int)<=(l.length:Int))&&decide ((l.length:Int)<=10))=false by rw[Bool.and_eq_false_iff];simp;omega]
  rfl
theorem bytesLess_tot:∀ a b:List UInt8,(!Op.bytesLess a b)=(Op.bytesLess b a||decide (b=a))
 | [],[]=>by simp[Op.bytesLess]
 | [],b::l=>by simp[Op.bytesLess]
 | a::l,[]=>by simp[Op.bytesLess]
 | a::l,b::m=>by
  have ih:=bytesLess_tot l m
  simp only[Op.bytesLess]
  by_cases h1:a<b
  ·have h2:¬ b<a:=by
    have a1:=UInt8.lt_iff_toNat_lt.1 h1
    intro c
    have a2:=UInt8.lt_iff_toNat_lt.1 c
    omega
   have h3:b≠a:=fun c=>by rw[c] at h1;exact h2 (c ▸ h1)
   simp[h1,h2,h3,Ne.symm h3]
  ·by_cases h2:b<a
   ·have h3:a≠b:=fun c=>by rw[c] at h2;exact h1 (c ▸ h2)
    simp[h1,h2,h3,Ne.symm h3]
   ·have h3:a=b:=by
     apply UInt8.toNat_inj.1
     have a1:¬ a.toNat<b.toNat:=fun c=>h1 (UInt8.lt_iff_toNat_lt.2 c)
     have a2:¬ b.toNat<a.toNat:=fun c=>h2 (UInt8.lt_iff_toNat_lt.2 c)
     omega
    subst h3
    simpa using ih
theorem strLt_tot (a b:ByteArray):(!strLt a b)=(strLt b a||strEq b a):=by
 unfold strLt
 rw[bytesLess_tot]
 congr 1
 rw[Bool.eq_iff_iff,decide_eq_true_eq,strEq_iff,ByteArray.toList_eq,ByteArray.toList_eq]
 refine⟨fun h=>S_ext h,fun h=>by rw[h]⟩
def wrT (t:Typ):Bool:=t.1==4||tyErr t.1 t.2.1 t.2.2 !=0
def tysE (l:List Typ):Int:=if l.length > 9 then 2 else if l.any wrT then 17 else 0
theorem f833q (t:Typ):f833F 1000 (t.1,(t.2.1,t.2.2))=some (wrT t):=by
 unfold f833F wrT
 simp only[f28q,bind_some']
 cases t.1==4<;>rfl
theorem f853q (l:List Typ)(hl:l.length<1000):f853v0F 1000 (l,())=some (ix wrT l,()):=by
 unfold f853v0F f853v0l0
 refine iter_find l wrT (fun i=>(l,(l.length:Int),(i:Int),())) (fun i=>some (i,())) ?_ ?_ hl
 ·intro rec
  unfold f853v0l0s
  simp
 ·intro rec i x hx hi
  unfold f853v0l0s
  simp only[ltn hi,nn,Bool.and_self,cond_true,Int.toNat_natCast,getD_of hx,f833q,bind_some',wi_succ (i:=i) (by omega)]
theorem f816q (l:List Typ)(hl:l.length<1000):f816F 1000 l=some (tysE l):=by
 unfold f816F f835v0F tysE
 simp only[f761q,f853q l hl,bind_some',ix_nonneg,ix_any,f760q _ (show ([_,_]:List Int).length<1000 by simp)]
 by_cases h:l.length > 9
 ·rw[if_pos h,decide_eq_true (show (l.length:Int) > 9 by omega)];simp[fst0]
 ·rw[if_neg h,decide_eq_false (show ¬ (l.length:Int) > 9 by omega)]
  cases l.any wrT<;>simp[fst0]
theorem f820q (t:Typ):f820F 1000 (t.1,(t.2.1,t.2.2))=some (tyErr t.1 t.2.1 t.2.2==0):=by
 obtain⟨kd,ln,sc⟩:=t
 unfold f820F f820p0 tyErr
 simp only[f48q,bind_some']
 by_cases h0:kd=0
 ·subst h0
  simp[cond_eq_ite]
  repeat' split
  all_goals first | rfl | (simp;omega) | omega
 by_cases h1:kd=1
 ·subst h1
  simp[cond_eq_ite]
  repeat' split
  all_goals first | rfl | (simp;omega) | omega
 by_cases h2:kd=2
 ·subst h2
  simp[cond_eq_ite]
  repeat' split
  all_goals first | rfl | (simp;omega) | omega
 by_cases h3:kd=3
 ·subst h3
  simp[cond_eq_ite]
  repeat' split
  all_goals first | rfl | (simp;omega) | omega
 by_cases h4:kd=4
 ·subst h4
  simp[cond_eq_ite]
  repeat' split
  all_goals first | rfl | (simp;omega) | omega
 ·have hk:¬ (0<=kd∧kd<=4):=by omega
  have q0:(kd==0)=false:=by simpa using h0
  have q1:(kd==1)=false:=by simpa using h1
  have q2:(kd==2)=false:=by simpa using h2
  have q3:(kd==3)=false:=by simpa using h3
  have q4:(kd==4)=false:=by simpa using h4
  rw[if_pos hk]
  simp only[q0,q1,q2,q3,q4,cond_false]
  rfl
abbrev Ctx:=ByteArray×Int×ByteArray×ByteArray×List Typ×ByteArray×List ByteArray×Unit
theorem f792l0q {R:Type}(k0:Int×Ctx->Option R)(k1:Ctx->Option R)(a:ByteArray)(b:Int)(c d:ByteArray)(l:List Typ)(e:ByteArray)(f:List ByteArray)(hl:l.length<1000) :
  f792l0 1000 k0 k1 (0,a,b,c,d,l,e,f,())=bif l.any wrT then k0 (17,a,b,c,d,l,e,f,()) else k1 (a,b,c,d,l,e,f,()):=by
 unfold f792l0
 refine iter_list (k:=1000) (A:=Unit) l (fun i _=>((i:Int),a,b,c,d,l,e,f,())) (fun m _=>bif m.any wrT then k0 (17,a,b,c,d,l,e,f,()) else k1 (a,b,c,d,l,e,f,())) (fun _ _=>True) ?_ ?_ hl () trivial
 ·intro rec _ _
  unfold f792l0s
  simp
 ·intro rec i _ x hx hi _
  unfold f792l0s
  simp only[ltn hi,nn,Bool.and_self,cond_true,Int.toNat_natCast,getD_of hx,f820q,bind_some',wi_succ (i:=i) (by omega),List.any_cons]
  unfold wrT
  cases hz:(tyErr x.1 x.2.1 x.2.2==0) with
  | false=>exact .inr (by simp[bne,hz])
  | true =>
   cases h4:(x.1==4) with
   | true=>exact .inr (by simp)
   | false=>exact .inl ⟨(),trivial,by simp,by simp[bne,hz]⟩
def has (l:List ByteArray)(s:ByteArray):Bool:=l.any fun y=>strEq y s
theorem f822q (l:List ByteArray)(s:ByteArray)(hl:l.length<1000):f822F 1000 (l,s)=some (ix (fun y=>strEq y s) l):=by
 unfold f822F f822l0
 refine iter_find l (fun y=>strEq y s) (fun i=>(l,s,(l.length:Int),(i:Int),())) (fun i=>some i) ?_ ?_ hl
 ·intro rec
  unfold f822l0s
  simp
 ·intro rec i x hx hi
  unfold f822l0s
  simp only[ltn hi,nn,Bool.and_self,cond_true,Int.toNat_natCast,getD_of hx,bind_some',wi_succ (i:=i) (by omega),strEq_comm s x]
theorem f806q (l:List ByteArray)(s:ByteArray)(hl:l.length<1000):f806F 1000 (l,s)=some (has l s):=by
 unfold f806F has
 simp only[f822q l s hl,bind_some',ix_nonneg,ix_any]
theorem f773q (l:List ByteArray)(s:ByteArray)(hl:l.length<1000):f773F 1000 (l,s)=some (ix (fun y=>strEq y s) l):=by
 unfold f773F f773l0
 refine iter_find l (fun y=>strEq y s) (fun i=>(l,s,(i:Int),())) (fun i=>some i) ?_ ?_ hl
 ·intro rec
  unfold f773l0s
  simp
 ·intro rec i x hx hi
  unfold f773l0s
  simp only[ltn hi,nn,Bool.and_self,cond_true,Int.toNat_natCast,getD_of hx,bind_some',wi_succ (i:=i) (by omega)]
def repE (seen:List ByteArray)(s:ByteArray):Int:=if strEq s ByteArray.empty then 1 else if txE s 32≠0 then txE s 32 else if has seen s then 13 else 0
def runR:List ByteArray->List ByteArray->Int
 | _,[]=>0
 | seen,s::l=>if repE seen s≠0 then repE seen s else runR (seen++[s]) l
def rpsE (l:List ByteArray):Int:=if l.length > 8 then 2 else runR [] l
theorem take_succ_of {α:Type}{l:List α}{i:Nat}{x:α}(h:l[i]?=some x):l.take i++[x]=l.take (i+1):=by
 rw[List.take_add_one,h];rfl
theorem f817q (l:List ByteArray)(hl:l.length<1000)(hs:∀ s∈l,s.size<1000):f817F 1000 l=some (rpsE l):=by
 unfold f817F rpsE
 by_cases h8:l.length > 8
 ·rw[if_pos h8,bif_true (by simp;omega)]
 ·rw[if_neg h8,bif_false (by simp;omega)]
  unfold f817l0
  refine iter_list (k:=1000) (R:=Int) (A:=List ByteArray) l (fun i _=>(l,l,(l.length:Int),(i:Int),())) (fun m a=>some (runR a m)) (fun i a=>a=l.take i) ?_ ?_ hl [] rfl
  ·intro rec a _
   unfold f817l0s
   simp[runR]
  ·intro rec i a x hx hi ha
   subst ha
   unfold f817l0s
   have hsz:=hs x (List.mem_of_getElem? hx)
   have hsl:sliceBds 0 (i:Int) (l.length:Int)=true:=sliceB0 (by omega)
   have htk:(l.take i).length<1000:=by rw[List.length_take];omega
   simp only[ltn hi,nn,Bool.and_self,cond_true,Int.toNat_natCast,getD_of hx,bind_some',f761q,f797q x 32 hsz,hsl,List.drop_zero,f806q _ _ htk,f760q _ (show ([_,_,_]:List Int).length<1000 by simp),wi_succ (i:=i) (by omega)]
   have e:fst0 [bif strEq x ByteArray.empty then 1 else 0,txE x 32,bif has (l.take i) x then 13 else 0]=repE (l.take i) x:=by
    unfold repE
    cases strEq x ByteArray.empty with
    | true=>simp[fst0]
    | false =>
     by_cases ht:txE x 32=0
     ·cases has (l.take i) x<;>simp[fst0,ht]
     ·simp[fst0,ht]
   rw[e]
   by_cases hz:repE (l.take i) x=0
   ·refine .inl ⟨_,rfl,by rw[bif_false (by simpa using hz)],?_⟩
    rw[show runR (l.take i) (x::l.drop (i+1))=runR (l.take i++[x]) (l.drop (i+1)) by simp[runR,hz],take_succ_of hx]
   ·refine .inr ?_
    rw[bif_true (bne0 hz)]
    simp[runR,hz]
theorem size_empty {s:ByteArray}:((s.size:Int)==0)=strEq s ByteArray.empty:=by
 obtain⟨l,rfl⟩:∃ l,s=S l:=⟨_,(S_of s).symm⟩
 rw[S_size,← S_nil,S_eq]
 cases l with
 | nil=>rfl
 | cons x l=>simp;omega
theorem f792l1q (a:ByteArray)(b:Int)(c d:ByteArray)(t:List Typ)(e:ByteArray)(l:List ByteArray)(hl:l.length<1000)(hs:∀ s∈l,s.size<1000) :
  f792l1 1000 (fun w14=>some w14.1) (fun w15=>some 0) (0,a,b,c,d,t,e,l,())=some (runR [] l):=by
 unfold f792l1
 refine iter_list (k:=1000) (R:=Int) (A:=List ByteArray) l (fun i _=>((i:Int),a,b,c,d,t,e,l,())) (fun m a=>some (runR a m)) (fun i a=>a=l.take i) ?_ ?_ hl [] rfl
 ·intro rec a _
  unfold f792l1s
  simp[runR]
 ·intro rec i a x hx hi ha
  subst ha
  unfold f792l1s
  have hsz:=hs x (List.mem_of_getElem? hx)
  have hsl:sliceBds 0 (i:Int) (l.length:Int)=true:=sliceB0 (by omega)
  have htk:(l.take i).length<1000:=by rw[List.length_take];omega
  simp only[ltn hi,nn,Bool.and_self,cond_true,Int.toNat_natCast,getD_of hx,bind_some',size_empty,f756q x hsz,hsl,List.drop_zero,f773q _ _ htk,wi_succ (i:=i) (by omega)]
  have e0:(ix (fun y=>strEq y x) (l.take i) !=-1)=has (l.take i) x:=ix_any _ _
  rw[e0]
  have e1:(bif strEq x ByteArray.empty then (fun w14:Int×Unit=>some w14.1) (1,()) else
    bif decide ((x.size:Int) > 32) then (fun w14:Int×Unit=>some w14.1) (2,()) else
    bif !isTx x then (fun w14:Int×Unit=>some w14.1) (5,()) else
    bif has (l.take i) x then (fun w14:Int×Unit=>some w14.1) (13,()) else rec (((i+1:Nat):Int),a,b,c,d,t,e,l,())) =
    if repE (l.take i) x≠0 then some (repE (l.take i) x) else rec (((i+1:Nat):Int),a,b,c,d,t,e,l,()):=by
   unfold repE txE
   cases strEq x ByteArray.empty with
   | true=>rfl
   | false =>
    by_cases h2:(x.size:Int) > 32
    ·simp[h2]
    ·cases isTx x with
     | false=>simp[h2]
     | true=>cases has (l.take i) x<;>simp[h2]
  simp only[] at e1 ⊢
  rw[e1]
  by_cases hz:repE (l.take i) x=0
  ·refine .inl ⟨_,rfl,by rw[if_neg (by simp[hz])],?_⟩
   rw[show runR (l.take i) (x::l.drop (i+1))=runR (l.take i++[x]) (l.drop (i+1)) by simp[runR,hz],take_succ_of hx]
  ·exact .inr (by rw[if_pos hz];simp[runR,hz])
structure FewD (d:Dsc):Prop where
 first:d.2.2.1.size<=400
 second:d.2.2.2.1.size<=400
 types:d.2.2.2.2.1.length<=12
 dflt:d.2.2.2.2.2.1.size<=100
 reps:d.2.2.2.2.2.2.length<=12
 rep:∀ s∈d.2.2.2.2.2.2,s.size<=100
def dscE (d:Dsc):Int :=
 if !(decide (0<=d.2.1)&&decide (d.2.1<=99)) then 3 else if strEq d.2.2.1 ByteArray.empty then 1
 else if d.2.2.1.size > 200∨d.2.2.2.1.size > 200 then 2 else if !(isTx d.2.2.1&&isTx d.2.2.2.1) then 5
 else if tysE d.2.2.2.2.1≠0 then tysE d.2.2.2.2.1 else if txE d.2.2.2.2.2.1 32≠0 then txE d.2.2.2.2.2.1 32 else rpsE d.2.2.2.2.2.2
theorem isTx_app (a b:ByteArray):isTx (a++b)=(isTx a&&isTx b):=by
 obtain⟨l,rfl⟩:∃ l,a=S l:=⟨_,(S_of a).symm⟩
 obtain⟨m,rfl⟩:∃ m,b=S m:=⟨_,(S_of b).symm⟩
 unfold isTx
 rw[S_app,S_bytes,S_bytes,S_bytes,ints_app,List.all_append]
theorem f789q {d:Dsc}(h:FewD d):f789F 1000 (d.1,(d.2.1,(d.2.2.1,(d.2.2.2.1,(d.2.2.2.2.1,(d.2.2.2.2.2.1,d.2.2.2.2.2.2))))))=some (dscE d):=by
 obtain⟨g1,g2,g3,g4,g5,g6⟩:=h
 obtain⟨id,sev,a,b,ty,df,rp⟩:=d
 simp only at g1 g2 g3 g4 g5 g6
 have hab:(a++b).size<1000:=by rw[ByteArray.size_append];omega
 unfold f789F dscE
 simp only[f762q,f761q,bind_some',f815q _ hab,f816q ty (by omega),f797q df 32 (by omega),f817q rp (by omega) (fun s hs=>Nat.lt_of_le_of_lt (g6 s hs) (by decide)),f760q _ (show ([_,_,_,_,_,_,_]:List Int).length<1000 by simp),isTx_app,
  show decide (a.size+b.size<=9223372036854775807)=true by simp;omega,cond_true]
 generalize (decide (0<=sev)&&decide (sev<=99))=c1
 generalize strEq a ByteArray.empty=c2
 generalize (isTx a&&isTx b)=c3
 by_cases h1:a.size > 200
 ·rw[decide_eq_true (show (a.size:Int) > 200 by omega)]
  cases c1<;>cases c2<;>simp[fst0,h1]
 ·rw[decide_eq_false (show ¬ (a.size:Int) > 200 by omega)]
  by_cases h2:b.size > 200
  ·rw[decide_eq_true (show (b.size:Int) > 200 by omega)]
   cases c1<;>cases c2<;>simp[fst0,h2]
  ·rw[decide_eq_false (show ¬ (b.size:Int) > 200 by omega)]
   cases c1<;>cases c2<;>cases c3<;>simp[fst0,h1,h2]
   by_cases e1:tysE ty=0<;>by_cases e2:txE df 32=0<;>by_cases e3:rpsE rp=0<;>simp[e1,e2,e3]
theorem f792q {d:Dsc}(h:FewD d):f792F 1000 (d.1,(d.2.1,(d.2.2.1,(d.2.2.2.1,(d.2.2.2.2.1,(d.2.2.2.2.2.1,d.2.2.2.2.2.2))))))=some (dscE d):=by
 obtain⟨g1,g2,g3,g4,g5,g6⟩:=h
 obtain⟨id,sev,a,b,ty,df,rp⟩:=d
 simp only at g1 g2 g3 g4 g5 g6
 unfold f792F dscE
 simp only[f48w,bind_some',f756q a (by omega),f756q b (by omega),f756q df (by omega),f792l0q _ _ _ _ _ _ _ _ _ (show ty.length<1000 by omega),f792l1q _ _ _ _ _ _ rp (by omega) (fun s hs=>Nat.lt_of_le_of_lt (g6 s hs) (by decide)),size_empty]
 generalize (decide (0<=sev)&&decide (sev<=99))=c1
 generalize strEq a ByteArray.empty=c2
 generalize isTx a=c3
 generalize isTx b=c4
 unfold tysE txE rpsE
 by_cases h1:a.size > 200
 ·rw[decide_eq_true (show (a.size:Int) > 200 by omega)]
  cases c1<;>cases c2<;>simp[h1]
 ·rw[decide_eq_false (show ¬ (a.size:Int) > 200 by omega)]
  by_cases h2:b.size > 200
  ·rw[decide_eq_true (show (b.size:Int) > 200 by omega)]
   cases c1<;>cases c2<;>simp[h2]
  ·rw[decide_eq_false (show ¬ (b.size:Int) > 200 by omega)]
   cases c1<;>cases c2<;>cases c3<;>cases c4<;>simp[h1,h2]
   by_cases h3:ty.length > 9
   ·rw[decide_eq_true (show 9<(ty.length:Int) by omega)]
    simp[h3]
   ·rw[decide_eq_false (show ¬ 9<(ty.length:Int) by omega)]
    cases ty.any wrT<;>simp[h3]
    by_cases h4:32<(df.size:Int)
    ·simp[h4]
    ·cases isTx df<;>simp[h4]
     by_cases h5:rp.length > 8
     ·rw[decide_eq_true (show 8<(rp.length:Int) by omega)]
      simp[h5]
     ·rw[decide_eq_false (show ¬ 8<(rp.length:Int) by omega)]
      simp[h5]
theorem awake18:f712F 1000 ()=some true:=by kernel_rfl
def fewD (d:Dsc):Bool:=!(decide (d.2.2.2.2.1.length > 12)||(decide (d.2.2.2.2.2.2.length > 12)||(decide (d.2.2.1.size > 400)||(decide (d.2.2.2.1.size > 400)||decide (d.2.2.2.2.2.1.size > 100)))))&&d.2.2.2.2.2.2.all fun s=>decide (s.size<=100)
theorem fewD_iff {d:Dsc}:fewD d=true↔FewD d:=by
 unfold fewD
 constructor
 ·intro h
  simp only[Bool.and_eq_true,Bool.not_eq_true',Bool.or_eq_false_iff,decide_eq_false_iff_not,List.all_eq_true,decide_eq_true_eq] at h
  obtain⟨⟨h1,h2,h3,h4,h5⟩,h6⟩:=h
  exact⟨by omega,by omega,by omega,by omega,by omega,h6⟩
 ·rintro⟨h1,h2,h3,h4,h5,h6⟩
  simp only[Bool.and_eq_true,Bool.not_eq_true',Bool.or_eq_false_iff,decide_eq_false_iff_not,List.all_eq_true,decide_eq_true_eq]
  exact⟨⟨by omega,by omega,by omega,by omega,by omega⟩,h6⟩
def fewDs (l:List Dsc):Bool:=decide (l.length<=21)&&l.all fewD
theorem gtn (n m:Nat):decide ((n:Int) > (m:Int))=decide (n > m):=by
 by_cases h:n > m
 ·rw[decide_eq_true h,decide_eq_true (by omega)]
 ·rw[decide_eq_false h,decide_eq_false (by omega)]
theorem f735q (d:Dsc):f735F 1000 (d.1,(d.2.1,(d.2.2.1,(d.2.2.2.1,(d.2.2.2.2.1,(d.2.2.2.2.2.1,d.2.2.2.2.2.2))))))=some (fewD d):=by
 obtain⟨id,sev,a,b,ty,df,rp⟩:=d
 unfold f735F fewD
 simp only[show ((12:Int))=((12:Nat):Int) from rfl,show ((400:Int))=((400:Nat):Int) from rfl,show ((100:Int))=((100:Nat):Int) from rfl,gtn]
 by_cases h1:ty.length > 12
 ·simp[h1]
 by_cases h2:rp.length > 12
 ·simp[h1,h2]
 by_cases h3:a.size > 400
 ·simp[h1,h2,h3]
 by_cases h4:b.size > 400
 ·simp[h1,h2,h3,h4]
 by_cases h5:df.size > 100
 ·simp[h1,h2,h3,h4,h5]
 simp only[h1,h2,h3,h4,h5,decide_false,cond_false,Bool.or_false,Bool.not_false,Bool.true_and]
 unfold f735l0
 refine iter_list (k:=1000) (R:=Bool) (A:=Unit) rp (fun i _=>((i:Int),id,sev,a,b,ty,df,rp,())) (fun m _=>some (m.all fun s=>decide (s.size<=100))) (fun _ _=>True) ?_ ?_ (by omega) () trivial
 ·intro rec _ _
  unfold f735l0s
  simp
 ·intro rec i _ x hx hi _
  unfold f735l0s
  simp only[ltn hi,nn,Bool.and_self,cond_true,Int.toNat_natCast,getD_of hx,wi_succ (i:=i) (by omega),List.all_cons]
  by_cases h:x.size<=100
  ·exact .inl ⟨(),trivial,by rw[bif_false (by simp;omega)],by simp[h]⟩
  ·exact .inr (by rw[bif_true (by simp;omega)];simp[h])
theorem f745q (l:List Dsc):f745F 1000 l=some (fewDs l):=by
 unfold f745F fewDs
 by_cases h:l.length<=21
 ·rw[decide_eq_true h,Bool.true_and,bif_false (by simp;omega)]
  unfold f745l0
  refine iter_list (k:=1000) (R:=Bool) (A:=Unit) l (fun i _=>(l,(i:Int),())) (fun m _=>some (m.all fewD)) (fun _ _=>True) ?_ ?_ (by omega) () trivial
  ·intro rec _ _
   unfold f745l0s
   simp
  ·intro rec i _ x hx hi _
   unfold f745l0s
   simp only[ltn hi,nn,Bool.and_self,cond_true,Int.toNat_natCast,getD_of hx,f735q,bind_some',wi_succ (i:=i) (by omega),List.all_cons]
   cases fewD x with
   | true=>exact .inl ⟨(),trivial,by simp,by simp⟩
   | false=>exact .inr rfl
 ·rw[decide_eq_false h,bif_true (by simp;omega)];rfl
structure FewF (l:List Dsc):Prop where
 len:l.length<=21
 each:∀ d∈l,FewD d
theorem fewDs_iff {l:List Dsc}:fewDs l=true↔FewF l:=by
 unfold fewDs
 rw[Bool.and_eq_true,decide_eq_true_eq,List.all_eq_true]
 exact⟨fun h=>⟨h.1,fun d hd=>fewD_iff.1 (h.2 d hd)⟩,fun h=>⟨h.1,fun d hd=>fewD_iff.2 (h.2 d hd)⟩⟩
theorem szN {n m:Nat}(h:n*m<=140737488355328)(hm:1<=m):(decide (n*m<=140737488355328)&&decide (n<=9223372036854775807))=true:=by
 have:n<=n*m:=Nat.le_mul_of_pos_right n hm
 rw[decide_eq_true h,decide_eq_true (by omega)];rfl
theorem f777q (l:List ByteArray)(hl:l.length<=1000):f777F 1000 l=some l:=by
 unfold f777F
 rw[bif_true (szN (by simp;omega) (by decide))]
 rfl
theorem f736q {l:List Dsc}(h:FewF l):f736F 1000 l=some l:=by
 obtain⟨h1,h2⟩:=h
 unfold f736F f736l0
 have key:=iter_list (k:=1000) (R:=List Dsc) (A:=List Dsc) (Step:=fun rec v=>f736l0s 1000 rec (fun w4=>some w4.1) v) l (fun i a=>(l,(i:Int),a,())) (fun m a=>some (a++m)) (fun i a=>a.length=i) ?_ ?_ (by omega) [] rfl
 ·exact key
 ·intro rec a _
  unfold f736l0s
  simp
 ·intro rec i a x hx hi ha
  have hd:=h2 x (List.mem_of_getElem? hx)
  obtain⟨g1,g2,g3,g4,g5,g6⟩:=hd
  refine .inl ⟨a++[x],by simp[ha],?_,by simp⟩
  unfold f736l0s
  simp only[ltn hi,nn,Bool.and_self,cond_true,Int.toNat_natCast,getD_of hx,f777q _ (show x.2.2.2.2.2.2.length<=1000 by omega),bind_some',wi_succ (i:=i) (by omega),List.nil_append]
  rw[bif_true (szN (by simp;omega) (by decide)),bif_true (szN (by simp;omega) (by decide))]
def dE (pr:Option ByteArray)(d:Dsc):Int:=if !isId d.1 then 7 else if (match pr with | none=>false | some p=>!strLt p d.1) then 14 else dscE d
def runD:Option ByteArray->Nat->List Dsc->Int×Int
 | _,_,[]=>(0,0)
 | pr,i,d::l=>if dE pr d≠0 then ((i:Int),dE pr d) else runD (some d.1) (i+1) l
def filE (l:List Dsc):Int×Int:=if l.length > 20 then (0,2) else runD none 0 l
def prevD (l:List Dsc)(i:Nat):Option ByteArray:=if i=0 then none else l[i - 1]?.map (·.1)
theorem prevD_succ {l:List Dsc}{i:Nat}{x:Dsc}(h:l[i]?=some x):prevD l (i+1)=some x.1:=by
 unfold prevD
 rw[if_neg (by omega),Nat.add_sub_cancel,h];rfl
theorem fst0_3 (a b c:Int):fst0 [a,b,c]=if a≠0 then a else if b≠0 then b else c:=by
 simp only[fst0]
 by_cases h:c=0<;>simp[h]
theorem f746p0q {R:Type}(k0:List Dsc×Int×Int×List Dsc×Int×Int×Unit->Option R)(k1:List Dsc×List Dsc×Int×Int×Unit->Option R){l:List Dsc}{i:Nat}{x:Dsc}(hl:l.length<=21)(hx:l[i]?=some x)(hd:FewD x)(n:Int) :
  f746p0 1000 k0 k1 (l,l,n,(i:Int),())=if dE (prevD l i) x≠0 then k0 (l,(i:Int),dE (prevD l i) x,l,n,(i:Int),()) else k1 (l,l,n,(i:Int),()):=by
 have hi:i<l.length:=(List.getElem?_eq_some_iff.1 hx).1
 unfold f746p0
 simp only[inb hi,cond_true,Int.toNat_natCast,getD_of hx,f788q,f761q,f789q hd,bind_some',f760q _ (show ([_,_,_]:List Int).length<1000 by simp),fst0_3]
 cases i with
 | zero =>
  simp only[show decide (((0:Nat):Int) > 0)=false from rfl,cond_false,prevD,if_true,dE]
  cases isId x.1 with
  | false=>simp
  | true =>
   by_cases hz:dscE x=0
   ·simp[hz]
   ·simp[hz,bne0 hz]
 | succ j =>
  have hj:j<l.length:=by omega
  obtain⟨p,hp⟩:∃ p,l[j]?=some p:=⟨_,List.getElem?_eq_getElem hj⟩
  have hw:mxI (IntKind.i64.wrap (((j+1:Nat):Int) - 1)) 0=(j:Int):=by
   rw[wi (by omega) (by omega)];unfold mxI;split<;>omega
  simp only[show decide (((j+1:Nat):Int) > 0)=true by simp,cond_true,hw,inb hj,Int.toNat_natCast,getD_of hp]
  rw[prevD_succ hp]
  unfold dE
  cases isId x.1 with
  | false=>simp
  | true =>
   cases hlt:strLt p.1 x.1 with
   | false=>simp[hlt]
   | true =>
    by_cases hz:dscE x=0
    ·simp[hlt,hz]
    ·simp[hlt,hz,bne0 hz]
theorem f746q {l:List Dsc}(h:FewF l):f746F 1000 l=some (filE l):=by
 obtain⟨h1,h2⟩:=h
 unfold f746F filE
 by_cases h20:l.length > 20
 ·rw[if_pos h20,bif_true (by simp;omega)]
 ·rw[if_neg h20,bif_false (by simp;omega)]
  unfold f746l1
  refine iter_list (k:=1000) (R:=Int×Int) (A:=Nat×Option ByteArray) l (fun i _=>(l,l,(l.length:Int),(i:Int),())) (fun m a=>some (runD a.2 a.1 m)) (fun i a=>a=(i,prevD l i)) ?_ ?_ (by omega) (0,none) rfl
  ·intro rec a _
   unfold f746l1s
   simp[runD]
  ·intro rec i a x hx hi ha
   subst ha
   unfold f746l1s
   simp only[ltn hi,cond_true,f746p0q _ _ h1 hx (h2 x (List.mem_of_getElem? hx)),wi_succ (i:=i) (by omega)]
   by_cases hz:dE (prevD l i) x=0
   ·refine .inl ⟨_,rfl,by simp[hz],?_⟩
    simp[runD,hz,prevD_succ hx]
   ·exact .inr (by simp[runD,hz])
theorem f748p0q {R:Type}(k0:List Dsc×Int×Int×Unit->Option R){l:List Dsc}{i:Nat}{x:Dsc}(hl:l.length<=21)(hx:l[i]?=some x)(hd:FewD x) :
  f748p0 1000 k0 (l,(i:Int),())=k0 (l,(i:Int),dE (prevD l i) x,()):=by
 have hi:i<l.length:=(List.getElem?_eq_some_iff.1 hx).1
 unfold f748p0
 simp only[inb hi,cond_true,Int.toNat_natCast,getD_of hx,f791q,f792q hd,bind_some']
 cases i with
 | zero =>
  simp only[show decide (((0:Nat):Int) > 0)=false from rfl,cond_false,prevD,if_true,dE]
  cases isId x.1 with
  | false=>simp
  | true=>simp
 | succ j =>
  have hj:j<l.length:=by omega
  obtain⟨p,hp⟩:∃ p,l[j]?=some p:=⟨_,List.getElem?_eq_getElem hj⟩
  have hw:IntKind.i64.wrap (((j+1:Nat):Int) - 1)=(j:Int):=by
   rw[wi (by omega) (by omega)];omega
  simp only[show decide (((j+1:Nat):Int) > 0)=true by simp,cond_true,hw,inb hj,Int.toNat_natCast,getD_of hp,← strLt_tot]
  rw[prevD_succ hp]
  unfold dE
  cases isId x.1 with
  | false=>simp
  | true=>cases hlt:strLt p.1 x.1<;>simp[hlt]
theorem f748q {l:List Dsc}(h:FewF l):f748F 1000 l=some (filE l):=by
 obtain⟨h1,h2⟩:=h
 unfold f748F filE
 by_cases h20:l.length > 20
 ·rw[if_pos h20,bif_true (by simp;omega)]
 ·rw[if_neg h20,bif_false (by simp;omega)]
  unfold f748l1
  refine iter_list (k:=1000) (R:=Int×Int) (A:=Nat×Option ByteArray) l (fun i _=>(l,(i:Int),())) (fun m a=>some (runD a.2 a.1 m)) (fun i a=>a=(i,prevD l i)) ?_ ?_ (by omega) (0,none) rfl
  ·intro rec a _
   unfold f748l1s
   simp[runD]
  ·intro rec i a x hx hi ha
   subst ha
   unfold f748l1s
   simp only[ltn hi,cond_true,f748p0q _ h1 hx (h2 x (List.mem_of_getElem? hx)),wi_succ (i:=i) (by omega)]
   by_cases hz:dE (prevD l i) x=0
   ·refine .inl ⟨_,rfl,by simp[hz],?_⟩
    simp[runD,hz,prevD_succ hx]
   ·exact .inr (by rw[bif_true (bne0 hz)];simp[runD,hz])
def isD (id:ByteArray)(d:Dsc):Bool:=strEq d.1 id
theorem f790q (l:List Dsc)(id:ByteArray)(hl:l.length<1000):f790F 1000 (l,id)=some (ix (isD id) l):=by
 unfold f790F f818v0F f818v0l0
 have:=iter_find (k:=1000) (R:=Int×ByteArray×Unit) (Step:=fun rec v=>f818v0l0s 1000 rec (fun w3=>some (w3.1,w3.2.1,())) (fun w4=>some (-1,w4.1,())) v) l (isD id) (fun i=>(l,(l.length:Int),(i:Int),id,())) (fun i=>some (i,id,())) ?_ ?_ hl
 ·simp only[] at this ⊢
  rw[show ((0:Int))=((0:Nat):Int) from rfl,this]
  rfl
 ·intro rec
  unfold f818v0l0s
  simp
 ·intro rec i x hx hi
  unfold f818v0l0s f819v0F isD
  simp only[ltn hi,nn,Bool.and_self,cond_true,Int.toNat_natCast,getD_of hx,bind_some',wi_succ (i:=i) (by omega)]
def isQ (nm:ByteArray)(q:Que):Bool:=strEq q.1 nm
def isK (key:Int)(m:Msg):Bool:=m.1==key
theorem f752q (F:List Dsc)(Q:List Que)(nm:ByteArray)(hl:Q.length<1000):f752F 1000 ((F,Q),nm)=some (ix (isQ nm) Q):=by
 unfold f752F f795v0F f795v0l0
 have:=iter_find (k:=1000) (R:=Int×ByteArray×Unit) (Step:=fun rec v=>f795v0l0s 1000 rec (fun w3=>some (w3.1,w3.2.1,())) (fun w4=>some (-1,w4.1,())) v) Q (isQ nm) (fun i=>(Q,(Q.length:Int),(i:Int),nm,())) (fun i=>some (i,nm,())) ?_ ?_ hl
 ·simp only[] at this ⊢
  rw[show ((0:Int))=((0:Nat):Int) from rfl,this]
  rfl
 ·intro rec
  unfold f795v0l0s
  simp
 ·intro rec i x hx hi
  unfold f795v0l0s f796v0F isQ
  simp only[ltn hi,nn,Bool.and_self,cond_true,Int.toNat_natCast,getD_of hx,bind_some',wi_succ (i:=i) (by omega)]
theorem f731q (F:List Dsc)(Q:List Que)(nm:ByteArray)(hl:Q.length<1000):f731F 1000 ((F,Q),nm)=some (ix (isQ nm) Q):=by
 unfold f731F f731l0
 refine iter_find Q (isQ nm) (fun i=>(nm,(i:Int),F,Q,())) (fun i=>some i) ?_ ?_ hl
 ·intro rec
  unfold f731l0s
  simp
 ·intro rec i x hx hi
  unfold f731l0s isQ
  simp only[ltn hi,nn,Bool.and_self,cond_true,Int.toNat_natCast,getD_of hx,bind_some',wi_succ (i:=i) (by omega)]
theorem f733q (q:Que)(key:Int)(hl:q.2.2.2.2.length<1000):f733F 1000 ((q.1,(q.2.1,(q.2.2.1,(q.2.2.2.1,q.2.2.2.2)))),key)=some (ix (isK key) q.2.2.2.2):=by
 unfold f733F f733l0
 refine iter_find q.2.2.2.2 (isK key) (fun i=>(key,(i:Int),q.1,q.2.1,q.2.2.1,q.2.2.2.1,q.2.2.2.2,())) (fun i=>some i) ?_ ?_ hl
 ·intro rec
  unfold f733l0s
  simp
 ·intro rec i x hx hi
  unfold f733l0s isK
  simp only[ltn hi,nn,Bool.and_self,cond_true,Int.toNat_natCast,getD_of hx,bind_some',wi_succ (i:=i) (by omega)]
def frmB (m:Msg):Bool:=(m.2.2.2.2.2.2.1&&!(m.2.1==1))||((!(m.2.1==2)&&m.2.2.2.2.2.2.2 !=0)||(m.2.1==2&&(!(decide (1<=m.2.2.2.2.2.2.2)&&decide (m.2.2.2.2.2.2.2<=1000000))||!strEq m.2.2.1 ByteArray.empty)))
def msgE (Q:List Que)(m:Msg):Int :=
 if !(decide (0<=m.2.1)&&decide (m.2.1<=2)) then 4 else if !strEq m.2.2.1 ByteArray.empty&&!isId m.2.2.1 then 7 else if strEq m.2.2.2.1 ByteArray.empty then 1
 else if txE m.2.2.2.1 256≠0 then txE m.2.2.2.1 256 else if !strEq m.2.2.2.2.1 ByteArray.empty&&ix (isQ m.2.2.2.2.1) Q==-1 then 11
 else if strEq m.2.2.2.2.1 ByteArray.empty&&m.2.1 !=0 then 7 else if frmB m then 5 else 0
def keyB (last nx:Int)(m:Msg):Bool:=decide (m.1<=last)||decide (m.1≥nx)
theorem fst0_8 (a b c d e f g h:Int):fst0 [a,b,c,d,e,f,g,h]=if a≠0 then a else if b≠0 then b else if c≠0 then c else if d≠0 then d else if e≠0 then e else if f≠0 then f else if g≠0 then g else h:=by
 simp only[fst0]
 by_cases hh:h=0<;>simp[hh]
theorem f812p0q {R:Type}(k0:Int×Unit->Option R)(last:Int)(form:Bool)(F:List Dsc)(Q:List Que)(q:Que)(m:Msg)(hl:Q.length<1000)(ht:m.2.2.2.1.size<1000) :
  f812p0 1000 k0 (last,form,F,Q,q.1,q.2.1,q.2.2.1,q.2.2.2.1,q.2.2.2.2,m.1,m.2.1,m.2.2.1,m.2.2.2.1,m.2.2.2.2.1,m.2.2.2.2.2.1,m.2.2.2.2.2.2.1,m.2.2.2.2.2.2.2,())
   = k0 (fst0 [bif keyB last q.2.2.2.1 m then 14 else 0,bif !(decide (0<=m.2.1)&&decide (m.2.1<=2)) then 4 else 0,bif !strEq m.2.2.1 ByteArray.empty&&!isId m.2.2.1 then 7 else 0,bif strEq m.2.2.2.1 ByteArray.empty then 1 else 0,txE m.2.2.2.1 256,
    bif !strEq m.2.2.2.2.1 ByteArray.empty&&ix (isQ m.2.2.2.2.1) Q==-1 then 11 else 0,bif strEq m.2.2.2.2.1 ByteArray.empty&&m.2.1 !=0 then 7 else 0,bif form then 5 else 0],()):=by
 unfold f812p0 keyB
 simp only[f761q,f762q,f788q,f797q _ 256 ht,f752q F Q _ hl,bind_some',f760q _ (show ([_,_,_,_,_,_,_,_]:List Int).length<1000 by simp),← ix_neg]
 cases decide (m.1<=last)<;>cases strEq m.2.2.1 ByteArray.empty<;>cases strEq m.2.2.2.2.1 ByteArray.empty<;>simp only[Bool.not_true,Bool.not_false,cond_true,cond_false,Bool.true_and,Bool.false_and,Bool.true_or,Bool.false_or]
theorem f812q (last:Int)(F:List Dsc)(Q:List Que)(q:Que)(m:Msg)(hl:Q.length<1000)(ht:m.2.2.2.1.size<1000) :
  f812F 1000 ((F,Q),(q.1,(q.2.1,(q.2.2.1,(q.2.2.2.1,q.2.2.2.2)))),(m.1,(m.2.1,(m.2.2.1,(m.2.2.2.1,(m.2.2.2.2.1,(m.2.2.2.2.2.1,(m.2.2.2.2.2.2.1,m.2.2.2.2.2.2.2))))))),last)=some (if keyB last q.2.2.2.1 m then 14 else msgE Q m):=by
 have main:∀ form:Bool,form=frmB m->fst0 [bif keyB last q.2.2.2.1 m then 14 else 0,bif !(decide (0<=m.2.1)&&decide (m.2.1<=2)) then 4 else 0,bif !strEq m.2.2.1 ByteArray.empty&&!isId m.2.2.1 then 7 else 0,bif strEq m.2.2.2.1 ByteArray.empty then 1 else 0,txE m.2.2.2.1 256,
    bif !strEq m.2.2.2.2.1 ByteArray.empty&&ix (isQ m.2.2.2.2.1) Q==-1 then 11 else 0,bif strEq m.2.2.2.2.1 ByteArray.empty&&m.2.1 !=0 then 7 else 0,bif form then 5 else 0]=if keyB last q.2.2.2.1 m then 14 else msgE Q m:=by
  intro form hf
  subst hf
  unfold msgE
  rw[fst0_8]
  cases keyB last q.2.2.2.1 m
  ·cases (!(decide (0<=m.2.1)&&decide (m.2.1<=2)))<;>cases (!strEq m.2.2.1 ByteArray.empty&&!isId m.2.2.1)<;>cases (strEq m.2.2.2.1 ByteArray.empty)<;>cases (!strEq m.2.2.2.2.1 ByteArray.empty&&ix (isQ m.2.2.2.2.1) Q==-1)<;>cases (strEq m.2.2.2.2.1 ByteArray.empty&&m.2.1 !=0)<;>cases frmB m<;>simp
  ·simp
 unfold f812F
 simp only[f812p0q _ _ _ F Q q m hl ht,f762q,bind_some']
 have m0:=fun f h=>congrArg some (main f h)
 unfold frmB at m0
 by_cases h1:m.2.1=1
 ·have e2:(m.2.1==2)=false:=by rw[h1];rfl
  have e1:(m.2.1==1)=true:=by rw[h1];rfl
  have e3:(m.2.1 !=1)=false:=by rw[h1];rfl
  simp only[e1,e2,e3,Bool.not_true,Bool.and_false,Bool.not_false,Bool.true_and,Bool.false_or,Bool.false_and,Bool.or_false,cond_true,cond_false] at m0 ⊢
  cases hr:(m.2.2.2.2.2.2.2 !=0) with
  | true=>cases m.2.2.2.2.2.2.1<;>simp only[cond_true,cond_false]<;>exact m0 true (by rw[hr])
  | false=>cases m.2.2.2.2.2.2.1<;>simp only[cond_true,cond_false]<;>exact m0 false (by rw[hr])
 ·have e1:(m.2.1==1)=false:=by simpa using h1
  have e3:(m.2.1 !=1)=true:=by simpa using h1
  by_cases h2:m.2.1=2
  ·have e2:(m.2.1==2)=true:=by rw[h2];rfl
   simp only[e1,e2,e3,Bool.not_true,Bool.and_true,Bool.not_false,Bool.true_and,Bool.false_or,Bool.false_and,Bool.or_false,cond_true,cond_false] at m0 ⊢
   cases hA:m.2.2.2.2.2.2.1 with
   | true=>exact m0 true (by rw[hA];rfl)
   | false =>
    cases hB:(decide (1<=m.2.2.2.2.2.2.2)&&decide (m.2.2.2.2.2.2.2<=1000000)) with
    | true=>exact m0 (!strEq m.2.2.1 ByteArray.empty) (by rw[hA,hB];rfl)
    | false=>exact m0 true (by rw[hA,hB];rfl)
  ·have e2:(m.2.1==2)=false:=by simpa using h2
   simp only[e1,e2,e3,Bool.not_true,Bool.and_true,Bool.not_false,Bool.true_and,Bool.false_or,Bool.false_and,Bool.or_false,cond_true,cond_false] at m0 ⊢
   cases hA:m.2.2.2.2.2.2.1 with
   | true=>exact m0 true (by rw[hA];rfl)
   | false =>
    cases hr:(m.2.2.2.2.2.2.2 !=0) with
    | true=>exact m0 true (by rw[hA,hr];rfl)
    | false=>exact m0 false (by rw[hA,hr];rfl)
theorem f786q (F:List Dsc)(Q:List Que)(m:Msg)(hl:Q.length<1000)(ht:m.2.2.2.1.size<1000) :
  f786F 1000 ((F,Q),(m.1,(m.2.1,(m.2.2.1,(m.2.2.2.1,(m.2.2.2.2.1,(m.2.2.2.2.2.1,(m.2.2.2.2.2.2.1,m.2.2.2.2.2.2.2))))))))=some (msgE Q m):=by
 unfold f786F f786p0 f786p1 f786p2 f786p3 msgE frmB
 simp only[f48w,f791q,f756q _ ht,f731q F Q _ hl,bind_some']
 have hgt:((m.2.2.2.1.size:Int) > 256)=((256:Int)<m.2.2.2.1.size):=rfl
 unfold txE
 cases (decide (0<=m.2.1)&&decide (m.2.1<=2)) with
 | false=>rfl
 | true =>
 have rest:∀ {α:Type} (c:Bool) (a b:α),(bif c then a else b)=if c=true then a else b:=fun c a b=>by cases c<;>rfl
 cases strEq m.2.2.1 ByteArray.empty<;>cases isId m.2.2.1<;>cases strEq m.2.2.2.1 ByteArray.empty<;>(try simp only[Bool.not_true,Bool.not_false,cond_true,cond_false,Bool.true_and,Bool.false_and,Bool.and_false,Bool.and_true,Bool.false_eq_true,if_true,if_false])
 all_goals
  by_cases hs:(m.2.2.2.1.size:Int) > 256
  ·simp[hs]
  cases isTx m.2.2.2.1
  ·simp[hs]
  simp only[hs,decide_false,cond_false,if_false,if_true,Bool.not_true,cond_true,ne_eq,not_true_eq_false]
  cases strEq m.2.2.2.2.1 ByteArray.empty<;>cases (ix (isQ m.2.2.2.2.1) Q==-1)<;>cases hm:(m.2.1 !=0)<;>(try simp only[Bool.not_true,Bool.not_false,cond_true,cond_false,Bool.true_and,Bool.false_and,Bool.and_false,Bool.and_true,Bool.false_eq_true,if_true,if_false])
  all_goals
   have hn:(m.2.1 !=1)=!(m.2.1==1):=rfl
   rw[hn]
   cases m.2.2.2.2.2.2.1<;>cases (m.2.1==1)<;>cases (m.2.1==2)<;>cases (m.2.2.2.2.2.2.2 !=0)<;>cases (decide (1<=m.2.2.2.2.2.2.2)&&decide (m.2.2.2.2.2.2.2<=1000000))<;>rfl
def runM (Q:List Que)(nx:Int):Int->List Msg->Int
 | _,[]=>0
 | last,m::l=>if keyB last nx m=true then 14 else if msgE Q m≠0 then msgE Q m else runM Q nx m.1 l
def queE (Q:List Que)(q:Que):Int :=
 if !(decide (1<=q.2.1)&&decide (q.2.1<=12))||!(decide (1<=q.2.2.2.1)&&decide (q.2.2.2.1<=1000000)) then 3
 else if (q.2.2.2.2.length:Int) > q.2.1 then 2 else runM Q q.2.2.2.1 0 q.2.2.2.2
structure FewQ (q:Que):Prop where
 len:q.2.2.2.2.length<=14
 text:∀ m∈q.2.2.2.2,m.2.2.2.1.size<=300
theorem fst0_2 (a b:Int):fst0 [a,b]=if a≠0 then a else b:=by
 simp only[fst0]
 by_cases h:b=0<;>simp[h]
theorem f783q (F:List Dsc)(Q:List Que){q:Que}(hQ:Q.length<1000)(h:FewQ q):f783F 1000 ((F,Q),(q.1,(q.2.1,(q.2.2.1,(q.2.2.2.1,q.2.2.2.2)))))=some (queE Q q):=by
 obtain⟨h1,h2⟩:=h
 have loop:f783l1 1000 (fun w13:Int×Unit=>some w13.1) (fun w14:Unit=>some 0) (0,q.2.2.2.2,(q.2.2.2.2.length:Int),0,F,Q,q.1,q.2.1,q.2.2.1,q.2.2.2.1,q.2.2.2.2,())=some (runM Q q.2.2.2.1 0 q.2.2.2.2):=by
  unfold f783l1
  refine iter_list (k:=1000) (R:=Int) (A:=Int) q.2.2.2.2 (fun i a=>(a,q.2.2.2.2,(q.2.2.2.2.length:Int),(i:Int),F,Q,q.1,q.2.1,q.2.2.1,q.2.2.2.1,q.2.2.2.2,())) (fun m a=>some (runM Q q.2.2.2.1 a m)) (fun _ _=>True) ?_ ?_ (by omega) 0 trivial
  ·intro rec a _
   unfold f783l1s
   simp[runM]
  ·intro rec i a x hx hi _
   unfold f783l1s
   have ht:x.2.2.2.1.size<1000:=by have:=h2 x (List.mem_of_getElem? hx);omega
   simp only[ltn hi,nn,Bool.and_self,cond_true,Int.toNat_natCast,getD_of hx,f812q a F Q q x hQ ht,bind_some',wi_succ (i:=i) (by omega)]
   cases hk:keyB a q.2.2.2.1 x with
   | true=>exact .inr (by simp[runM,hk])
   | false =>
    by_cases hz:msgE Q x=0
    ·exact .inl ⟨x.1,trivial,by simp[hz],by simp[runM,hk,hz]⟩
    ·exact .inr (by simp[runM,hk,hz,bne0 hz])
 unfold f783F f783p0 queE
 simp only[f762q,f761q,bind_some',f760q _ (show ([_,_]:List Int).length<1000 by simp),loop,fst0_2]
 cases (decide (1<=q.2.1)&&decide (q.2.1<=12)) with
 | false=>simp
 | true =>
  cases (decide (1<=q.2.2.2.1)&&decide (q.2.2.2.1<=1000000)) with
  | false=>simp
  | true =>
   by_cases hl:(q.2.2.2.2.length:Int) > q.2.1
   ·rw[decide_eq_true hl];simp[hl]
   ·rw[decide_eq_false hl];simp[hl]
def qE (Q:List Que)(pr:Option ByteArray)(q:Que):Int:=if !isNm q.1 then 7 else if (match pr with | none=>false | some p=>!strLt p q.1) then 14 else queE Q q
def runQ (Q:List Que):Option ByteArray->Nat->List Que->Int×Int
 | _,_,[]=>(0,0)
 | pr,i,q::l=>if qE Q pr q≠0 then ((i:Int),qE Q pr q) else runQ Q (some q.1) (i+1) l
def sysE (s:Sys):Int×Int:=if (filE s.1).2≠0 then filE s.1 else if s.2.length > 6 then (0,2) else runQ s.2 none 0 s.2
structure Few (s:Sys):Prop where
 file:FewF s.1
 len:s.2.length<=7
 each:∀ q∈s.2,FewQ q
def prevQ (l:List Que)(i:Nat):Option ByteArray:=if i=0 then none else l[i - 1]?.map (·.1)
theorem prevQ_succ {l:List Que}{i:Nat}{x:Que}(h:l[i]?=some x):prevQ l (i+1)=some x.1:=by
 unfold prevQ
 rw[if_neg (by omega),Nat.add_sub_cancel,h];rfl
theorem f739p0q {R:Type}(k0:Int×Int×List Que×Int×Int×List Dsc×List Que×Unit->Option R)(k1:List Que×Int×Int×List Dsc×List Que×Unit->Option R)(F:List Dsc){l:List Que}{i:Nat}{x:Que}(hl:l.length<=7)(hx:l[i]?=some x)(hd:FewQ x)(n:Int) :
  f739p0 1000 k0 k1 (l,n,(i:Int),F,l,())=if qE l (prevQ l i) x≠0 then k0 ((i:Int),qE l (prevQ l i) x,l,n,(i:Int),F,l,()) else k1 (l,n,(i:Int),F,l,()):=by
 have hi:i<l.length:=(List.getElem?_eq_some_iff.1 hx).1
 unfold f739p0
 simp only[inb hi,cond_true,Int.toNat_natCast,getD_of hx,f782q,f761q,f783q F l (show l.length<1000 by omega) hd,bind_some',f760q _ (show ([_,_,_]:List Int).length<1000 by simp),fst0_3]
 cases i with
 | zero =>
  simp only[show decide (((0:Nat):Int) > 0)=false from rfl,cond_false,prevQ,if_true,qE]
  cases isNm x.1 with
  | false=>simp
  | true =>
   by_cases hz:queE l x=0
   ·simp[hz]
   ·simp[hz,bne0 hz]
 | succ j =>
  have hj:j<l.length:=by omega
  obtain⟨p,hp⟩:∃ p,l[j]?=some p:=⟨_,List.getElem?_eq_getElem hj⟩
  have hw:mxI (IntKind.i64.wrap (((j+1:Nat):Int) - 1)) 0=(j:Int):=by
   rw[wi (by omega) (by omega)];unfold mxI;split<;>omega
  simp only[show decide (((j+1:Nat):Int) > 0)=true by simp,cond_true,hw,inb hj,Int.toNat_natCast,getD_of hp]
  rw[prevQ_succ hp]
  unfold qE
  cases isNm x.1 with
  | false=>simp
  | true =>
   cases hlt:strLt p.1 x.1 with
   | false=>simp[hlt]
   | true =>
    by_cases hz:queE l x=0
    ·simp[hlt,hz]
    ·simp[hlt,hz,bne0 hz]
theorem f739q {s:Sys}(h:Few s):f739F 1000 (s.1,s.2)=some (sysE s):=by
 obtain⟨h0,h1,h2⟩:=h
 unfold f739F sysE
 simp only[f746q h0,bind_some']
 by_cases hf:(filE s.1).2=0
 ·rw[if_neg (by simpa using hf),bif_false (by simpa using hf)]
  by_cases h6:s.2.length > 6
  ·rw[if_pos h6,bif_true (by simp;omega)]
  ·rw[if_neg h6,bif_false (by simp;omega)]
   unfold f739l1
   refine iter_list (k:=1000) (R:=Int×Int) (A:=Nat×Option ByteArray) s.2 (fun i _=>(s.2,(s.2.length:Int),(i:Int),s.1,s.2,())) (fun m a=>some (runQ s.2 a.2 a.1 m)) (fun i a=>a=(i,prevQ s.2 i)) ?_ ?_ (by omega) (0,none) rfl
   ·intro rec a _
    unfold f739l1s
    simp[runQ]
   ·intro rec i a x hx hi ha
    subst ha
    unfold f739l1s
    simp only[ltn hi,cond_true,f739p0q _ _ _ h1 hx (h2 x (List.mem_of_getElem? hx)),wi_succ (i:=i) (by omega)]
    by_cases hz:qE s.2 (prevQ s.2 i) x=0
    ·refine .inl ⟨_,rfl,by simp[hz],?_⟩
     simp[runQ,hz,prevQ_succ hx]
    ·exact .inr (by simp[runQ,hz])
 ·rw[if_pos (by simpa using hf),bif_true (by simpa using hf)]
theorem key_eq {last nx:Int}(m:Msg)(h0:0<=last)(h1:last<=1000000)(h2:1<=nx)(h3:nx<=1000000) :
  (!(decide (IntKind.i64.wrap (last+1)<=m.1)&&decide (m.1<=IntKind.i64.wrap (nx - 1))))=keyB last nx m:=by
 rw[wi (by omega) (by omega),wi (by omega) (by omega)]
 unfold keyB
 rw[Bool.eq_iff_iff]
 simp
 omega
theorem f741l1q {R:Type}(k0:Int×Int×Int×List Dsc×List Que×Unit->Option R)(k1:Int×List Dsc×List Que×Unit->Option R)(i0:Int)(F:List Dsc)(Q:List Que)(q:Que)(hQ:Q.length<1000)(h:FewQ q)(n1:1<=q.2.2.2.1)(n2:q.2.2.2.1<=1000000) :
  f741l1 1000 k0 k1 (i0,0,0,F,Q,q.1,q.2.1,q.2.2.1,q.2.2.2.1,q.2.2.2.2,())=if runM Q q.2.2.2.1 0 q.2.2.2.2≠0 then k0 (i0,runM Q q.2.2.2.1 0 q.2.2.2.2,i0,F,Q,()) else k1 (i0,F,Q,()):=by
 obtain⟨h1,h2⟩:=h
 unfold f741l1
 refine iter_list (k:=1000) (A:=Int) q.2.2.2.2 (fun i a=>(i0,a,(i:Int),F,Q,q.1,q.2.1,q.2.2.1,q.2.2.2.1,q.2.2.2.2,())) (fun m a=>if runM Q q.2.2.2.1 a m≠0 then k0 (i0,runM Q q.2.2.2.1 a m,i0,F,Q,()) else k1 (i0,F,Q,())) (fun _ a=>0<=a∧a<=1000000) ?_ ?_ (by omega) 0 (by decide)
 ·intro rec a _
  unfold f741l1s
  simp[runM]
 ·intro rec i a x hx hi ha
  unfold f741l1s
  have ht:x.2.2.2.1.size<1000:=by have:=h2 x (List.mem_of_getElem? hx);omega
  simp only[ltn hi,nn,Bool.and_self,cond_true,Int.toNat_natCast,getD_of hx,f786q F Q x hQ ht,f48w,key_eq x ha.1 ha.2 n1 n2,bind_some',wi_succ (i:=i) (by omega)]
  cases hk:keyB a q.2.2.2.1 x with
  | true=>exact .inr (by simp[runM,hk])
  | false =>
   by_cases hz:msgE Q x=0
   ·refine .inl ⟨x.1,?_,by simp[hz],by simp[runM,hk,hz]⟩
    unfold keyB at hk
    simp only[Bool.or_eq_false_iff,decide_eq_false_iff_not] at hk
    omega
   ·exact .inr (by simp[runM,hk,hz,bne0 hz])
theorem f741q {s:Sys}(h:Few s):f741F 1000 (s.1,s.2)=some (sysE s):=by
 obtain⟨h0,h1,h2⟩:=h
 unfold f741F sysE
 simp only[f748q h0,bind_some']
 by_cases hf:(filE s.1).2=0
 ·rw[if_neg (by simpa using hf),bif_false (by simpa using hf)]
  by_cases h6:s.2.length > 6
  ·rw[if_pos h6,bif_true (by simp;omega)]
  ·rw[if_neg h6,bif_false (by simp;omega)]
   unfold f741l2
   refine iter_list (k:=1000) (R:=Int×Int) (A:=Nat×Option ByteArray) s.2 (fun i _=>((i:Int),s.1,s.2,())) (fun m a=>some (runQ s.2 a.2 a.1 m)) (fun i a=>a=(i,prevQ s.2 i)) ?_ ?_ (by omega) (0,none) rfl
   ·intro rec a _
    unfold f741l2s
    simp[runQ]
   ·intro rec i a x hx hi ha
    subst ha
    have hq:=h2 x (List.mem_of_getElem? hx)
    have step:f741l2s 1000 rec (fun w16:Int×Int×Unit=>some (w16.1,w16.2.1)) (fun w17:Unit=>some (0,0)) ((i:Int),s.1,s.2,())=if qE s.2 (prevQ s.2 i) x≠0 then some ((i:Int),qE s.2 (prevQ s.2 i) x) else rec (((i+1:Nat):Int),s.1,s.2,()):=by
     unfold f741l2s f741p0
     simp only[ltn hi,nn,Bool.and_self,cond_true,Int.toNat_natCast,getD_of hx,f785q,f48w,bind_some']
     have tail:∀ c:Bool,c=(match prevQ s.2 i with | none=>false | some p=>!strLt p x.1)->(bif isNm x.1 then (bif c then some ((i:Int),(14:Int)) else
       bif !(decide (1<=x.2.1)&&decide (x.2.1<=12)) then some ((i:Int),(3:Int)) else bif !(decide (1<=x.2.2.2.1)&&decide (x.2.2.2.1<=1000000)) then some ((i:Int),(3:Int)) else
       bif decide ((x.2.2.2.2.length:Int) > x.2.1) then some ((i:Int),(2:Int)) else
       f741l1 1000 (fun w14:Int×Int×Int×List Dsc×List Que×Unit=>some (w14.1,w14.2.1)) (fun w15:Int×List Dsc×List Que×Unit=>rec (IntKind.i64.wrap (w15.1+1),w15.2.1,w15.2.2.1,())) ((i:Int),0,0,s.1,s.2,x.1,x.2.1,x.2.2.1,x.2.2.2.1,x.2.2.2.2,())) else some ((i:Int),(7:Int)))=if qE s.2 (prevQ s.2 i) x≠0 then some ((i:Int),qE s.2 (prevQ s.2 i) x) else rec (((i+1:Nat):Int),s.1,s.2,()):=by
      intro c hc
      unfold qE
      rw[← hc]
      cases isNm x.1 with
      | false=>simp
      | true =>
       cases c with
       | true=>simp
       | false =>
        unfold queE
        cases (decide (1<=x.2.1)&&decide (x.2.1<=12)) with
        | false=>simp
        | true =>
         cases hn:(decide (1<=x.2.2.2.1)&&decide (x.2.2.2.1<=1000000)) with
         | false=>simp
         | true =>
          rw[Bool.and_eq_true,decide_eq_true_eq,decide_eq_true_eq] at hn
          by_cases hl:(x.2.2.2.2.length:Int) > x.2.1
          ·rw[decide_eq_true hl];simp[hl]
          ·rw[decide_eq_false hl,f741l1q _ _ _ _ _ _ (by omega) hq hn.1 hn.2]
           by_cases hz:runM s.2 x.2.2.2.1 0 x.2.2.2.2=0
           ·simp only[hz,wi_succ (i:=i) (show i<9223372036854775807 by omega)];simp[hl]
           ·simp[hl,hz]
     cases i with
     | zero =>
      have t0:=tail false (by simp[prevQ])
      simp only[show decide (((0:Nat):Int) > 0)=false from rfl,cond_false]
      rw[← t0]
      cases isNm x.1<;>rfl
     | succ j =>
      have hj:j<s.2.length:=by omega
      obtain⟨p,hp⟩:∃ p,s.2[j]?=some p:=⟨_,List.getElem?_eq_getElem hj⟩
      have hw:IntKind.i64.wrap (((j+1:Nat):Int) - 1)=(j:Int):=by
       rw[wi (by omega) (by omega)];omega
      have t0:=tail (!strLt p.1 x.1) (by rw[prevQ_succ hp])
      simp only[show decide (((j+1:Nat):Int) > 0)=true by simp,cond_true,hw,inb hj,Int.toNat_natCast,getD_of hp,← strLt_tot]
      rw[← t0]
      cases isNm x.1<;>rfl
    rw[step]
    by_cases hz:qE s.2 (prevQ s.2 i) x=0
    ·refine .inl ⟨_,rfl,by simp[hz],?_⟩
     simp[runQ,hz,prevQ_succ hx]
    ·exact .inr (by simp[runQ,hz])
 ·rw[if_pos (by simpa using hf),bif_true (by simpa using hf)]
def fewQ (q:Que):Bool:=decide (q.2.2.2.2.length<=14)&&q.2.2.2.2.all fun m=>decide (m.2.2.2.1.size<=300)
def fewS (s:Sys):Bool:=fewDs s.1&&(decide (s.2.length<=7)&&s.2.all fewQ)
theorem fewQ_iff {q:Que}:fewQ q=true↔FewQ q:=by
 unfold fewQ
 rw[Bool.and_eq_true,decide_eq_true_eq,List.all_eq_true]
 exact⟨fun h=>⟨h.1,fun m hm=>by simpa using h.2 m hm⟩,fun h=>⟨h.1,fun m hm=>by simpa using h.2 m hm⟩⟩
theorem fewS_iff {s:Sys}:fewS s=true↔Few s:=by
 unfold fewS
 rw[Bool.and_eq_true,Bool.and_eq_true,decide_eq_true_eq,List.all_eq_true]
 exact⟨fun h=>⟨fewDs_iff.1 h.1,h.2.1,fun q hq=>fewQ_iff.1 (h.2.2 q hq)⟩,fun h=>⟨fewDs_iff.2 h.1,h.2,fun q hq=>fewQ_iff.2 (h.3 q hq)⟩⟩
theorem f713l0q {R:Type}(k0:Bool×Int×List Dsc×List Que×Unit->Option R)(k1:Int×List Dsc×List Que×Unit->Option R)(F:List Dsc)(Q:List Que){j:Nat}{q:Que}(hq:Q[j]?=some q)(hl:q.2.2.2.2.length<=14) :
  f713l0 1000 k0 k1 ((j:Int),0,F,Q,())=bif q.2.2.2.2.all (fun m=>decide (m.2.2.2.1.size<=300)) then k1 ((j:Int),F,Q,()) else k0 (false,(j:Int),F,Q,()):=by
 have hj:j<Q.length:=(List.getElem?_eq_some_iff.1 hq).1
 unfold f713l0
 refine iter_list (k:=1000) (A:=Unit) q.2.2.2.2 (fun i _=>((j:Int),(i:Int),F,Q,())) (fun m _=>bif m.all (fun m=>decide (m.2.2.2.1.size<=300)) then k1 ((j:Int),F,Q,()) else k0 (false,(j:Int),F,Q,())) (fun _ _=>True) ?_ ?_ (by omega) () trivial
 ·intro rec _ _
  unfold f713l0s
  simp only[nn,ltn hj,Bool.and_self,cond_true,Int.toNat_natCast,getD_of hq]
  simp
 ·intro rec i _ x hx hi _
  unfold f713l0s
  simp only[nn,ltn hj,ltn hi,Bool.and_self,cond_true,Int.toNat_natCast,getD_of hq,getD_of hx,wi_succ (i:=i) (by omega),List.all_cons]
  by_cases h:x.2.2.2.1.size<=300
  ·exact .inl ⟨(),trivial,by rw[bif_false (by simp;omega)],by simp[h]⟩
  ·exact .inr (by rw[bif_true (by simp;omega)];simp[h])
theorem f713q (s:Sys):f713F 1000 (s.1,s.2)=some (fewS s):=by
 unfold f713F fewS
 simp only[f745q,bind_some']
 cases fewDs s.1 with
 | false=>rfl
 | true =>
  simp only[Bool.not_true,cond_false,Bool.true_and]
  by_cases h:s.2.length<=7
  ·rw[decide_eq_true h,Bool.true_and,bif_false (by simp;omega)]
   unfold f713l1
   refine iter_list (k:=1000) (R:=Bool) (A:=Unit) s.2 (fun i _=>((i:Int),s.1,s.2,())) (fun m _=>some (m.all fewQ)) (fun _ _=>True) ?_ ?_ (by omega) () trivial
   ·intro rec _ _
    unfold f713l1s
    simp
   ·intro rec i _ x hx hi _
    unfold f713l1s
    simp only[ltn hi,nn,Bool.and_self,cond_true,Int.toNat_natCast,getD_of hx,List.all_cons]
    by_cases hl:x.2.2.2.2.length<=14
    ·rw[bif_false (by simp;omega),f713l0q _ _ _ _ hx hl]
     simp only[wi_succ (i:=i) (show i<9223372036854775807 by omega)]
     unfold fewQ
     rw[decide_eq_true hl,Bool.true_and]
     cases x.2.2.2.2.all (fun m=>decide (m.2.2.2.1.size<=300)) with
     | true=>exact .inl ⟨(),trivial,rfl,by rw[Bool.true_and]⟩
     | false=>exact .inr rfl
    ·exact .inr (by rw[bif_true (by simp;omega)];unfold fewQ;simp[hl])
  ·rw[decide_eq_false h,bif_true (by simp;omega)];rfl
theorem f716q {s:Sys}(h:Few s):f716F 1000 (s.1,s.2)=some s:=by
 obtain⟨F,Q⟩:=s
 obtain⟨h0,h1,h2⟩:=h
 simp only at h0 h1 h2
 unfold f716F f716p2
 simp only[f736q h0,bind_some']
 have lp:∀ (q:Que) (m:List Que),Q=q::m->f716l0 1000 (fun w7:List Dsc×List Que×List Dsc×List Que×Unit=>some (w7.2.2.1,w7.2.2.2.1)) (1,F,Q,[],[],F,[q],())=some (F,Q):=by
  intro q m hq
  have key:=iter_from (k:=1000) (R:=Sys) (A:=List Que) (Step:=fun rec v=>f716l0s 1000 rec (fun w7:List Dsc×List Que×List Dsc×List Que×Unit=>some (w7.2.2.1,w7.2.2.2.1)) v) Q (fun i a=>((i:Int),F,Q,[],[],F,a,())) (fun m a=>some (F,a++m)) (fun i a=>a.length=i) ?_ ?_ (by omega) 1 [q] (by rw[hq];simp) rfl
  ·unfold f716l0
   rw[show ((1:Int))=((1:Nat):Int) from rfl,key,hq]
   rfl
  ·intro rec a _
   unfold f716l0s
   simp
  ·intro rec i a x hx hi ha
   have hd:=h2 x (List.mem_of_getElem? hx)
   obtain⟨g1,g2⟩:=hd
   refine .inl ⟨a++[x],by simp[ha],?_,by simp⟩
   unfold f716l0s
   simp only[ltn hi,nn,Bool.and_self,cond_true,Int.toNat_natCast,getD_of hx,wi_succ (i:=i) (by omega),List.nil_append]
   rw[bif_true (szN (by simp;omega) (by decide)),bif_true (szN (by simp;omega) (by decide))]
 unfold f716l1
 rw[iterS_1000]
 cases Q with
 | nil=>rfl
 | cons q m =>
  unfold f716l1s
  have hq:FewQ q:=h2 q (by simp)
  obtain⟨g1,g2⟩:=hq
  have hc:decide ((0:Int)<(((q::m).length:Nat):Int))=true:=by simp
  simp only[hc,decide_true,Bool.and_self,cond_true,Int.toNat_zero,List.getD_cons_zero,List.nil_append]
  rw[bif_true (by simp),bif_true (szN (by simp;omega) (by decide)),bif_true (szN (by simp) (by decide))]
  exact lp q m rfl
theorem f727q {s:Sys}(h:Few s):f727F 1000 (s.1,s.2)=some (sysE s).2:=by
 unfold f727F
 simp only[f741q h,bind_some']
def qErr (s:Sys)(nm:ByteArray):Int:=if (sysE s).2≠0 then (sysE s).2 else if ix (isQ nm) s.2==-1 then 11 else 0
theorem f821q (F:List Dsc)(Q:List Que)(l:List ByteArray)(hQ:Q.length<1000)(hl:l.length<1000):f821v0F 1000 (l,F,Q,())=some (ix (fun n=>ix (isQ n) Q==-1) l,F,Q,()):=by
 unfold f821v0F f821v0l0
 refine iter_find l (fun n=>ix (isQ n) Q==-1) (fun i=>(l,(l.length:Int),(i:Int),F,Q,())) (fun i=>some (i,F,Q,())) ?_ ?_ hl
 ·intro rec
  unfold f821v0l0s
  simp
 ·intro rec i x hx hi
  unfold f821v0l0s f794v0F
  simp only[ltn hi,nn,Bool.and_self,cond_true,Int.toNat_natCast,getD_of hx,f752q F Q _ hQ,bind_some',wi_succ (i:=i) (by omega),← ix_neg]
theorem f751q {s:Sys}(h:Few s)(l:List ByteArray)(hl:l.length<1000):f751F 1000 ((s.1,s.2),l)=some (if (sysE s).2≠0 then (sysE s).2 else if l.any (fun n=>ix (isQ n) s.2==-1) then 11 else 0):=by
 have:=h.len
 unfold f751F f793v0F
 simp only[f739q h,bind_some',f821q s.1 s.2 l (by omega) hl,f761q,ix_nonneg,ix_any]
 by_cases hz:(sysE s).2=0
 ·rw[bif_false (by simpa using hz),if_neg (by simpa using hz)]
  cases l.any (fun n=>ix (isQ n) s.2==-1)<;>rfl
 ·rw[bif_true (bne0 hz),if_pos hz]
theorem f751one {s:Sys}(h:Few s)(nm:ByteArray):f751F 1000 ((s.1,s.2),[nm])=some (qErr s nm):=by
 rw[f751q h _ (by simp)]
 simp[qErr]
def opn (m:Msg):Bool:=m.2.1==1&&!m.2.2.2.2.2.2.1
theorem f784q (k:Nat)(m:Msg):f784F k (m.1,(m.2.1,(m.2.2.1,(m.2.2.2.1,(m.2.2.2.2.1,(m.2.2.2.2.2.1,(m.2.2.2.2.2.2.1,m.2.2.2.2.2.2.2)))))))=some (opn m):=by
 unfold f784F opn
 cases m.2.1==1<;>rfl
theorem ix_get {α:Type}(p:α->Bool)(l:List α)(h:(ix p l==-1)=false):∃ (j:Nat) (x:α),ix p l=(j:Int)∧l[j]?=some x∧j<l.length∧p x=true:=by
 rcases ix_spec p l with ⟨e,_⟩ | ⟨j,x,e,hx,hp,_⟩
 ·rw[e] at h;cases h
 ·exact⟨j,x,e,hx,(List.getElem?_eq_some_iff.1 hx).1,hp⟩
theorem iter_one {V R:Type}(Step:(V->Option R)->V->Option R)(k:Nat)(v:V):iterS Step (k+1) v=Step (iterS Step k) v:=rfl
def numErr (n s:Int):Int:=if -999999999999999<=n∧n<=999999999999999∧0<=s∧s<=15 then 0 else 3
theorem f52q (n s:Int):f52F 1000 (n,s)=some (numErr n s):=by
 unfold f52F numErr
 simp only[f70q,f43q,bind_some']
 by_cases h:-999999999999999<=n∧n<=999999999999999
 ·simp only[h,and_self,decide_true,Bool.not_true,cond_false,true_and]
  by_cases h2:0<=s∧s<=15
  ·simp[h2]
  ·simp[h2]
 ·have e:¬ (-999999999999999<=n∧n<=999999999999999∧0<=s∧s<=15):=by omega
  rw[if_neg e]
  simp[h]
theorem numErr_ok {n s:Int}(h:numErr n s=0):-999999999999999<=n∧n<=999999999999999∧0<=s∧s<=15:=by
 unfold numErr at h
 apply Decidable.byContradiction
 intro c
 rw[if_neg c] at h
 omega
def decS (u:Nat):ByteArray:=⟨(Lib.decDigits u).toArray⟩
theorem decS_list (u:Nat):(decS u).data.toList=Lib.decDigits u:=by simp[decS]
theorem decS_len:∀ (n u:Nat),u<10 ^ (n+1)->(Lib.decDigits u).length<=n+1
 | 0,u,h=>by
  have h:u<10:=by simpa using h
  rw[Lib.decDigits,dif_pos h];simp
 | n+1,u,h=>by
  by_cases hu:u<10
  ·rw[Lib.decDigits,dif_pos hu];simp
  ·rw[Lib.decDigits,dif_neg hu]
   have:=decS_len n (u / 10) (by rw[Nat.pow_succ] at h;omega)
   simp
   omega
theorem decS_size {u:Nat}(h:u<=999999999999999):(decS u).size<=15:=by
 have:(decS u).size=(Lib.decDigits u).length:=by
  have e:(decS u).size=(decS u).data.toList.length:=rfl
  rw[e,decS_list]
 rw[this]
 exact decS_len 14 u (by omega)
theorem ba_ext' {a b:ByteArray}(h:a.data.toList=b.data.toList):a=b:=by
 cases a;cases b
 congr
 exact Array.ext' h
theorem f862n {u:Nat}(h:u<=999999999999999):f862F 1000 (u:Int)=some (decS u):=by
 unfold f862F
 rw[bif_true (by first | (simp;done) | (simp;omega))]
 congr 1
def copies (c n:Nat):ByteArray:=strOfNums (List.replicate n (c:Int))
theorem f73q {c:UInt8}{n:Nat}(hn:n<=900):f73F 1000 ((⟨#[c]⟩:ByteArray),(n:Int))=some (copies c.toNat n):=by
 unfold f73F copies
 have hs:((⟨#[c]⟩:ByteArray).size:Int)=1:=rfl
 simp only[hs]
 rw[bif_true (by first | (simp;done) | (simp;omega)),Int.toNat_natCast]
 congr 1
 have h:=Lib.repeatL_replicate c 1 n
 have h:Lib.repeatL [c] n=List.replicate n c:=by rw[Nat.mul_one] at h;exact h
 show (⟨(Lib.repeatL [c] n).toArray⟩:ByteArray)=_
 rw[h]
 unfold strOfNums
 congr 1
 rw[List.map_replicate,Int.toNat_natCast,UInt8.ofNat_toNat]
theorem copies_size (c n:Nat):(copies c n).size=n:=by unfold copies;rw[strOfNums_size];simp
theorem app_size (a b:ByteArray):(a++b).size=a.size+b.size:=by
 have e:∀ x:ByteArray,x.size=x.data.toList.length:=fun _=>rfl
 rw[e,e,e]
 simp
def padS (s:ByteArray)(sc:Nat):ByteArray:=copies 48 (sc+1 - s.size)++s
theorem pad_code {R:Type}(k0:ByteArray×Int×Int×Unit->Option R)(n:Int)(sc:Nat)(s:ByteArray)(hsc:sc<=100)(hs:s.size<=200) :
  f840p0 1000 k0 (s,n,(sc:Int),())=k0 (padS s sc,n,(sc:Int),()):=by
 unfold f840p0
 simp only[]
 by_cases h:s.size<=sc
 ·have w:IntKind.i64.wrap (IntKind.i64.wrap ((sc:Int)+1) - (s.size:Int))=((sc+1 - s.size:Nat):Int):=by rw[wi (x:=(sc:Int)+1) (by omega) (by omega),wi (by omega) (by omega)];omega
  have h73:f73F 1000 ((⟨#[48]⟩:ByteArray),((sc+1 - s.size:Nat):Int))=some (copies 48 (sc+1 - s.size)):=f73q (c:=48) (by omega)
  rw[bif_true (by first | (simp;done) | (simp;omega)),w,h73,bind_some',bif_true (by rw[copies_size];simp;omega)]
  rfl
 ·rw[bif_false (by first | (simp;done) | (simp;omega))]
  unfold padS
  rw[show sc+1 - s.size=0 by omega]
  have:copies 48 0++s=s:=by
   apply ba_ext'
   simp[copies,strOfNums]
  rw[this]
def ptS (s:ByteArray)(sc:Nat):ByteArray:=if 0<sc then (s.extract 0 (s.size - sc)++(⟨#[46]⟩:ByteArray))++s.extract (s.size - sc) s.size else s
theorem ext_size (s:ByteArray)(i j:Nat)(h:j<=s.size):(s.extract i j).size=j - i:=by
 have e:∀ x:ByteArray,x.size=x.data.toList.length:=fun _=>rfl
 rw[e,Lib.extract_data,List.length_take,List.length_drop,← e]
 omega
theorem pt_code {R:Type}(k0:ByteArray×Int×Int×Unit->Option R)(n:Int)(sc:Nat)(s:ByteArray)(hsc:sc<=s.size)(hs:s.size<=400) :
  f840p1 1000 k0 (s,n,(sc:Int),())=k0 (ptS s sc,n,(sc:Int),()):=by
 unfold f840p1 ptS
 have w:IntKind.i64.wrap ((s.size:Int) - (sc:Int))=((s.size - sc:Nat):Int):=by rw[wi (by omega) (by omega)];omega
 have h1:(⟨#[46]⟩:ByteArray).size=1:=rfl
 simp only[w,Int.toNat_natCast]
 by_cases h:0<sc
 ·rw[if_pos h,bif_true (by first | (simp;done) | (simp;omega)),bif_true (by unfold sliceBds;first | (simp;done) | (simp;omega)),bif_true (by rw[ext_size _ _ _ (by omega),h1];simp;omega),bif_true (by unfold sliceBds;first | (simp;done) | (simp;omega)),bif_true (by rw[app_size,ext_size _ _ _ (by omega),ext_size _ _ _ (by omega),h1];simp;omega)]
 ·rw[if_neg h,bif_false (by first | (simp;done) | (simp;omega))]
def txtS (n:Int)(sc:Nat):ByteArray:=if n<0 then (⟨#[45]⟩:ByteArray)++ptS (padS (decS n.natAbs) sc) sc else ptS (padS (decS n.natAbs) sc) sc
theorem pad_size (s:ByteArray)(sc:Nat):sc+1<=(padS s sc).size∧(padS s sc).size<=sc+1+s.size:=by
 unfold padS
 rw[app_size,copies_size]
 omega
theorem pt_size (s:ByteArray)(sc:Nat)(h:sc<=s.size):(ptS s sc).size<=s.size+1:=by
 unfold ptS
 split
 ·rw[app_size,app_size,ext_size _ _ _ (by omega),ext_size _ _ _ (by omega)]
  have h1:(⟨#[46]⟩:ByteArray).size=1:=rfl
  omega
 ·omega
theorem f840q {n s:Int}(h:numErr n s=0):f840F 1000 (n,s)=some (txtS n s.toNat,0):=by
 have c:=numErr_ok h
 obtain⟨S,rfl⟩:∃ S:Nat,s=S:=⟨s.toNat,by omega⟩
 have hm:mxI n (IntKind.i64.wrap (0 - n))=(n.natAbs:Int):=by
  rw[mx_abs (by omega) (by omega)]
  split<;>omega
 have hd:=decS_size (u:=n.natAbs) (by omega)
 have p1:=pad_size (decS n.natAbs) S
 have p2:=pt_size (padS (decS n.natAbs) S) S (by omega)
 have h1:(⟨#[45]⟩:ByteArray).size=1:=rfl
 unfold f840F
 simp only[f52q,h,bind_some',bne_self_eq_false,cond_false,hm]
 rw[f862n (by omega),bind_some',pad_code _ _ _ _ (by omega) (by omega)]
 simp only[]
 rw[pt_code _ _ _ _ (by omega) (by omega)]
 unfold f840p2 txtS
 rw[Int.toNat_natCast]
 simp only[h1]
 by_cases hn:n<0
 ·rw[bif_true (by simpa using hn),if_pos hn,bif_true (by first | (simp;done) | (simp;omega))]
 ·rw[bif_false (by simpa using hn),if_neg hn]
def cl (c:Int):Int:=if c<32∨126<c then 63 else c
theorem cl_len (l:List Int)(i:Nat):((l.take i).map cl++l.drop i).length=l.length:=by
 simp;omega
theorem cl_none {l:List Int}{i:Nat}{x:Int}(hx:l[i]?=some x)(h:cl x=x):(l.take i).map cl++l.drop i=(l.take (i+1)).map cl++l.drop (i+1):=by
 have hi:i<l.length:=(List.getElem?_eq_some_iff.1 hx).1
 have hg:l[i]=x:=(List.getElem?_eq_some_iff.1 hx).2
 rw[List.drop_eq_getElem_cons hi,List.take_succ_eq_append_getElem hi,List.map_append,List.append_assoc,hg]
 simp[h]
theorem f838q (s:ByteArray)(hs:s.size<1000):f838F 1000 s=some (strOfNums ((bytesOf s).map cl)):=by
 have hl:(bytesOf s).length=s.size:=by unfold bytesOf;rw[List.length_map];rfl
 unfold f838F f838l1
 rw[bif_true (by simp;omega)]
 generalize bytesOf s=l at hl ⊢
 refine iter_list (k:=1000) (R:=ByteArray) (A:=Nat) l (fun i _=>((l.length:Int),(i:Int),(l.take i).map cl++l.drop i,())) (fun m a=>some (strOfNums (l.map cl))) (fun _ _=>True) ?_ ?_ (by omega) 0 trivial
 ·intro rec a _
  unfold f838l1s
  simp
 ·intro rec i a x hx hi _
  refine .inl ⟨0,trivial,?_,rfl⟩
  unfold f838l1s f838p0
  have hg:l.getD i 0=x:=getD_of hx
  simp only[ltn hi,nn,Bool.and_self,cond_true,Int.toNat_natCast,cl_len,getD_take_map,hg,wi_succ (i:=i) (by omega)]
  have hset:=set_take_map cl hi
  rw[hg] at hset
  by_cases h1:x<32
  ·rw[bif_true (by simpa using h1),show (63:Int)=cl x by simp[cl,h1],hset]
  ·rw[bif_false (by simpa using h1)]
   by_cases h2:x > 126
   ·rw[bif_true (by simpa using h2),show (63:Int)=cl x by have:126<x:=h2;simp[cl,this],hset]
   ·rw[bif_false (by simpa using h2),cl_none hx (by unfold cl;rw[if_neg (by omega)])]
def trimN (l:List UInt8):Nat->Nat
 | 0=>0
 | n+1=>if l.getD n 0=32 then trimN l n else n+1
theorem trimN_le (l:List UInt8):∀ n,trimN l n<=n
 | 0=>Nat.le_refl _
 | n+1=>by
  unfold trimN
  split
  ·exact Nat.le_succ_of_le (trimN_le l n)
  ·exact Nat.le_refl _
theorem trimN_spec (l:List UInt8):∀ n,n<=l.length->(∀ (j:Nat) b,trimN l n<=j->j<n->l[j]?=some b->b=32)∧∀ b,0<trimN l n->l[trimN l n - 1]?=some b->b≠32
 | 0,_=>⟨fun j b _ h=>by omega,fun b h=>by simp[trimN] at h⟩
 | n+1,hn=>by
  have hx:l[n]?=some (l[n]'(by omega)):=List.getElem?_eq_getElem (by omega)
  unfold trimN
  by_cases h:l.getD n 0=32
  ·rw[if_pos h]
   obtain⟨h1,h2⟩:=trimN_spec l n (by omega)
   refine⟨fun j b hj hj2 hb=>?_,h2⟩
   by_cases e:j=n
   ·subst e
    rw[getD_of hb] at h
    exact h
   ·exact h1 j b hj (by omega) hb
  ·rw[if_neg h]
   refine⟨fun j b hj hj2=>by omega,fun b _ hb=>?_⟩
   rw[Nat.add_sub_cancel] at hb
   rw[getD_of hb] at h
   exact h
theorem trim_eq (l:List UInt8):Lib.trimRightB l 32=l.take (trimN l l.length):=by
 obtain⟨h1,h2⟩:=trimN_spec l l.length (Nat.le_refl _)
 exact Lib.trimRightB_take l 32 _ (trimN_le l _) (fun j b hj hb=>h1 j b hj (List.getElem?_eq_some_iff.1 hb).1 hb) h2
noncomputable def dec (t:Typ)(s:ByteArray):(Int×ByteArray)×Int×Int:=(f16F 1000 (t,s)).getD ((0,ByteArray.empty),0,0)
theorem f16d (t:Typ)(s:ByteArray):f16F 1000 (t,s)=some (dec t s):=by
 obtain⟨r,h,_⟩:=f16q t.1 t.2.1 t.2.2 s
 have h:f16F 1000 (t,s)=some r:=h
 unfold dec
 rw[h];rfl
def wd (t:Typ):Int:=if tyErr t.1 t.2.1 t.2.2≠0 then 0 else if t.1=4 then 16 else szOf t.1 t.2.1
theorem wd_rng (t:Typ):0<=wd t∧wd t<=256:=by
 unfold wd
 split
 ·omega
 ·rename_i ht
  simp only[ne_eq,Decidable.not_not] at ht
  obtain⟨a1,a2,a3,a4,a5,a6,a7,a8,a9⟩:=ty_ok ht
  split
  ·omega
  ·unfold szOf
   repeat' split
   all_goals omega
theorem f24w (kd ln sc:Int):f24F 1000 (kd,(ln,sc))=some (wd (kd,ln,sc),tyErr kd ln sc):=by
 unfold f24F wd
 simp only[f28q,bind_some']
 by_cases ht:tyErr kd ln sc=0
 ·rw[bif_false (by simpa using ht)]
  by_cases h4:kd=4
  ·subst h4
   obtain⟨a1,a2,a3,a4,a5,a6,a7,a8,a9⟩:=ty_ok ht
   simp only[ht,ne_eq,not_true_eq_false,if_false,if_true]
   rfl
  ·obtain⟨g44,g31⟩:=size_q ht h4
   simp only[g44,ht,ne_eq,not_true_eq_false,if_false,h4,bind_some']
 ·rw[bif_true (by simpa using ht)]
  simp only[ne_eq,ht,not_false_eq_true,if_true]
theorem scanB_bound2 {bad:Nat->Bool}{val:Nat->Int}{N z:Nat}(hv:∀ i,i<N->bad i=false->0<=val i∧val i<=9∧(i<z->val i=0)):∀ {r i:Nat} {n m:Int},i+r<=N->0<=n->n<10 ^ (i - z)->scanB bad val r i n=.inr m->0<=m∧m<10 ^ (i+r - z)
 | 0,i,n,m,_,h0,h1,h=>by
  simp only[scanB,Sum.inr.injEq] at h
  subst h
  exact⟨h0,h1⟩
 | r+1,i,n,m,hN,h0,h1,h=>by
  simp only[scanB] at h
  cases hb:bad i with
  | true=>rw[hb] at h;cases h
  | false =>
   rw[hb] at h
   simp only[cond_false] at h
   obtain⟨v0,v1,v2⟩:=hv i (by omega) hb
   have hn:n*10+val i<10 ^ (i+1 - z):=by
    by_cases hz:i<z
    ·have e1:i - z=0:=by omega
     have e2:i+1 - z=0:=by omega
     rw[e1,Int.pow_zero] at h1
     rw[e2,Int.pow_zero,v2 hz]
     omega
    ·rw[show i+1 - z=(i - z)+1 by omega,Int.pow_succ]
     omega
   have:=scanB_bound2 hv (r:=r) (i:=i+1) (n:=n*10+val i) (by omega) (by omega) hn h
   rwa [show i+1+r - z=i+(r+1) - z by omega] at this
theorem decR_fit {h a:Nat->Int}{N:Nat}{ln:Int}(h0:1<=ln)(hN:ln<=N)(hb:∀ i,0<=h i∧h i<=15)(he:(decR (badN h N ln) h a N).2.2=0) :
  -(pw ln - 1)<=(decR (badN h N ln) h a N).1∧(decR (badN h N ln) h a N).1<=pw ln - 1:=by
 unfold decR at *
 cases hs:scanB (badN h N ln) h N 0 0 with
 | inl j=>rw[hs] at he;exact absurd he (by simp)
 | inr m =>
  rw[hs] at he
  simp only[] at he ⊢
  have hb2:=scanB_bound2 (bad:=badN h N ln) (val:=h) (N:=N) (z:=N - ln.toNat) (fun i hi hbad=>by
   simp only[badN,Bool.or_eq_false_iff,decide_eq_false_iff_not,Bool.and_eq_false_iff] at hbad
   obtain⟨b0,b1⟩:=hb i
   refine⟨b0,by omega,fun hz=>?_⟩
   rcases hbad.2 with c | c
   ·omega
   ·omega) (r:=N) (i:=0) (n:=0) (m:=m) (by omega) (by omega) (by rw[Nat.zero_sub,Int.pow_zero];omega) hs
  rw[show 0+N - (N - ln.toNat)=ln.toNat by omega] at hb2
  have hp:pw ln=10 ^ ln.toNat:=rfl
  rw[← hp] at hb2
  by_cases c:h N<10
  ·rw[if_pos c] at he;exact absurd he (by simp)
  ·rw[if_neg c]
   unfold sgn
   split<;>simp only<;>omega
theorem dec1_fit {ln sc:Int}{s:ByteArray}(h0:1<=ln)(h1:ln<=15)(hs:(s.size:Int)=ln / 2+1):∃ n a e,f46F 1000 ((1,ln,sc),s)=some (n,a,e)∧(e=0->-(pw ln - 1)<=n∧n<=pw ln - 1):=by
 obtain⟨z,hz⟩:∃ z,s.size=z:=⟨_,rfl⟩
 have hz0:1<=z:=by omega
 have hz1:z<=8:=by omega
 have hl:((List.range (2*z)).map (half s)).length=(2*z - 1)+1:=by simp;omega
 have al:((List.range (2*z)).map atH).length=(2*z - 1)+1:=by simp;omega
 have hg:∀ i,i<2*z->((List.range (2*z)).map (half s)).getD i 0=half s i:=fun i hi=>by simp[List.getD_eq_getElem?_getD,hi]
 have hb:∀ i,0<=((List.range (2*z)).map (half s)).getD i 0∧((List.range (2*z)).map (half s)).getD i 0<=15:=fun i=>by
  by_cases hi:i<2*z
  ·rw[hg i hi];exact half_bound s i
  ·rw[List.getD_eq_getElem?_getD,List.getElem?_eq_none (by simp;omega)];decide
 have hv:=halves1 (ln:=ln) (sc:=sc) s (by omega)
 rw[hz] at hv
 have A:=f46q hv hl al (by omega) (by omega) (by omega) hb
 exact⟨_,_,_,A,fun he=>decR_fit h0 (by omega) hb he⟩
theorem dec2_fit {ln sc:Int}{s:ByteArray}(h0:1<=ln)(h1:ln<=15)(hs:(s.size:Int)=ln):∃ n a e,f46F 1000 ((2,ln,sc),s)=some (n,a,e)∧(e=0->-(pw ln - 1)<=n∧n<=pw ln - 1):=by
 obtain⟨L,hL⟩:∃ L,s.size=L:=⟨_,rfl⟩
 obtain⟨g0,g1⟩:=bytes_get s (L - 1)
 have hl:((List.range L).map (lowh s)++[(bytesOf s).getD (L - 1) 0 / 16]).length=L+1:=by simp
 have al:((List.range L).map atZ++[((L - 1:Nat):Int)]).length=L+1:=by simp
 have hg:∀ i,i<=L->((List.range L).map (lowh s)++[(bytesOf s).getD (L - 1) 0 / 16]).getD i 0=if i=L then (bytesOf s).getD (L - 1) 0 / 16 else lowh s i:=fun i hi=>by
  by_cases h:i=L
  ·subst h;rw[if_pos rfl,List.getD_eq_getElem?_getD,List.getElem?_append_right (by simp)];simp
  ·rw[if_neg h,List.getD_eq_getElem?_getD,List.getElem?_append_left (by simp;omega)];simp[show i<L by omega]
 have hb:∀ i,0<=((List.range L).map (lowh s)++[(bytesOf s).getD (L - 1) 0 / 16]).getD i 0∧((List.range L).map (lowh s)++[(bytesOf s).getD (L - 1) 0 / 16]).getD i 0<=15:=fun i=>by
  by_cases hi:i<=L
  ·rw[hg i hi]
   have:=bytes_get s i
   unfold lowh
   split<;>omega
  ·rw[List.getD_eq_getElem?_getD,List.getElem?_eq_none (by rw[hl];omega)];decide
 have hv:=halves2 (ln:=ln) (sc:=sc) s (by omega) (by omega)
 rw[hL] at hv
 have A:=f46q hv hl al (by omega) (by omega) (by omega) hb
 exact⟨_,_,_,A,fun he=>decR_fit h0 (by omega) hb he⟩
theorem val_num {kd ln sc n:Int}(ht:tyErr kd ln sc=0)(hk:1<=kd∧kd<=3)(h:-(pw ln - 1)<=n∧n<=pw ln - 1):valErr kd ln sc n ByteArray.empty=0:=by
 unfold valErr
 rw[if_neg (fun c=>c ht),if_neg (by omega),if_neg (by omega),strEq_self,if_neg (by decide),if_neg (fun c=>c h)]
theorem val_bound {kd ln sc n:Int}{s:ByteArray}(h:valErr kd ln sc n s=0)(hk:1<=kd∧kd<=3):tyErr kd ln sc=0∧s=ByteArray.empty∧-(pw ln - 1)<=n∧n<=pw ln - 1:=by
 have ht:tyErr kd ln sc=0:=by
  apply Decidable.byContradiction
  intro c
  unfold valErr at h
  rw[if_pos c] at h
  exact c h
 refine⟨ht,?_⟩
 unfold valErr at h
 rw[if_neg (fun c=>c ht),if_neg (by omega),if_neg (by omega)] at h
 by_cases c:strEq s ByteArray.empty=false
 ·rw[if_pos c] at h;exact absurd h (by decide)
 ·rw[if_neg c] at h
  refine⟨strEq_iff.1 (by simpa using c),?_⟩
  apply Decidable.byContradiction
  intro c2
  rw[if_pos c2] at h
  exact absurd h (by decide)
theorem dec_right {kd ln sc:Int}{s:ByteArray}{r:(Int×ByteArray)×Int×Int}(hf:f16F 1000 ((kd,ln,sc),s)=some r)(he:r.2.2=0):valErr kd ln sc r.1.1 r.1.2=0:=by
 by_cases ht:tyErr kd ln sc=0
 ·obtain⟨a1,a2,a3,a4,a5,a6,a7,a8,a9⟩:=ty_ok ht
  by_cases h4:kd=4
  ·subst h4
   unfold f16F f16p0 at hf
   simp only[f28q,ht,f43q,f42q,bind_some'] at hf
   cases hf
   exact absurd he (by decide)
  ·obtain⟨g44,g31⟩:=size_q ht h4
   have k4:(kd==4)=false:=by simpa using h4
   have z0:((0:Int)==0)=true:=rfl
   have tt:(if false=true then (17:Int) else 0)=0:=rfl
   have t0:(if (0:Int)=0 then (0:Int) else 0)=0:=rfl
   by_cases hs:(s.size:Int)=szOf kd ln
   ·have e18:((s.size:Int) !=szOf kd ln)=false:=by rw[hs];simp
    have:kd=0∨kd=1∨kd=2∨kd=3:=by omega
    rcases this with rfl | rfl | rfl | rfl
    ·unfold f16F f16p0 at hf
     simp only[f28q,ht,f43q,f42q,bind_some',k4,tt,t0,z0,cond_true,g44,e18] at hf
     cases hf
     unfold valErr
     rw[if_neg (fun c=>c ht),if_neg (by decide),if_pos rfl,if_neg (fun c=>c rfl),if_neg (fun c=>c hs)]
    ·obtain⟨l0,l1⟩:=a4 (by omega)
     obtain⟨n,a,e,A,B⟩:=dec1_fit (sc:=sc) l0 l1 hs
     unfold f16F f16p0 at hf
     simp only[f28q,ht,f43q,f42q,bind_some',k4,tt,t0,z0,cond_true,g44,e18,A] at hf
     cases hf
     exact val_num ht (by decide) (B he)
    ·obtain⟨l0,l1⟩:=a4 (by omega)
     obtain⟨n,a,e,A,B⟩:=dec2_fit (sc:=sc) l0 l1 hs
     unfold f16F f16p0 at hf
     simp only[f28q,ht,f43q,f42q,bind_some',k4,tt,t0,z0,cond_true,g44,e18,A] at hf
     cases hf
     exact val_num ht (by decide) (B he)
    ·obtain⟨z,hz⟩:∃ z,s.size=z:=⟨_,rfl⟩
     have hz24:z=2∨z=4:=by
      unfold szOf at hs
      rcases a5 rfl with rfl | rfl
      ·simp at hs;omega
      ·simp at hs;omega
     have F:=f45q (s:=s) (by omega) (by omega)
     generalize fold ((bytesOf s).drop 1) (if (bytesOf s).getD 0 0≥128 then (bytesOf s).getD 0 0 - 256 else (bytesOf s).getD 0 0) (s.size - 1)=n at F
     unfold f16F f16p0 at hf
     simp only[f28q,ht,f43q,f42q,bind_some',g44,e18,F,f29q] at hf
     by_cases hv:valErr 3 ln sc n ByteArray.empty=0
     ·rw[hv] at hf
      cases hf
      exact hv
     ·have hvb:(valErr 3 ln sc n ByteArray.empty !=0)=true:=by simpa using hv
      rw[hvb] at hf
      cases hf
      exact absurd he hv
   ·have e18:((s.size:Int) !=szOf kd ln)=true:=by simpa using hs
    unfold f16F f16p0 at hf
    simp only[f28q,ht,f43q,f42q,bind_some',k4,tt,t0,z0,cond_true,g44,e18] at hf
    cases hf
    exact absurd he (by decide)
 ·have hn:(tyErr kd ln sc !=0)=true:=by simpa using ht
  have hz:(tyErr kd ln sc==0)=false:=by simpa using ht
  unfold f16F f16p0 at hf
  simp only[f28q,f43q,f42q,bind_some',if_neg ht,hz,cond_false,hn,cond_true] at hf
  cases hf
  exact absurd he ht
def starN:ByteArray:=⟨#[42,78]⟩
def chrT (s:ByteArray):ByteArray:=strOfNums ((ints (s.data.toList.take (trimN s.data.toList s.data.toList.length))).map cl)
noncomputable def fT (t:Typ)(s:ByteArray):ByteArray:=if t.1=0 then chrT s else if (dec t s).2.2≠0 then starN else txtS (dec t s).1.1 t.2.2.toNat
theorem dec_char {ln sc:Int}{s:ByteArray}(ht:tyErr 0 ln sc=0)(hs:(s.size:Int)=szOf 0 ln):f16F 1000 ((0,(ln,sc)),s)=some ((0,s),0,0):=by
 obtain⟨g44,g31⟩:=size_q ht (by decide)
 unfold f16F f16p0
 have e18:((s.size:Int) !=szOf 0 ln)=false:=by rw[hs];simp
 simp only[f28q,ht,f43q,f42q,bind_some',g44,e18]
 rfl
theorem dec_num {t:Typ}{s:ByteArray}(ht:tyErr t.1 t.2.1 t.2.2=0)(hk:1<=t.1∧t.1<=3)(he:(dec t s).2.2=0):numErr (dec t s).1.1 t.2.2=0:=by
 obtain⟨kd,ln,sc⟩:=t
 simp only at ht hk
 have hv:=dec_right (f16d (kd,ln,sc) s) he
 obtain⟨_,_,h1,h2⟩:=val_bound hv hk
 obtain⟨a1,a2,a3,a4,a5,a6,a7,a8,a9⟩:=ty_ok ht
 obtain⟨b1,b2⟩:=a4 hk
 have b3:=a9 hk
 have hp:=(pw_bound b1 b2).2
 show numErr (dec (kd,ln,sc) s).1.1 sc=0
 unfold numErr
 rw[if_pos (by omega)]
theorem wd_sz {kd ln sc:Int}(ht:tyErr kd ln sc=0)(h4:kd≠4):wd (kd,ln,sc)=szOf kd ln:=by
 unfold wd
 rw[if_neg (by simpa using ht),if_neg h4]
theorem ba_len (s:ByteArray):s.data.toList.length=s.size:=rfl
theorem f824q {t:Typ}{s:ByteArray}(ht:tyErr t.1 t.2.1 t.2.2=0)(h4:t.1≠4)(hs:(s.size:Int)=wd t):f824F 1000 ((t.1,(t.2.1,t.2.2)),s)=some (fT t s):=by
 have hr:=wd_rng t
 obtain⟨kd,ln,sc⟩:=t
 simp only at ht h4
 unfold f824F fT
 simp only[f16d,bind_some']
 by_cases h0:kd=0
 ·subst h0
  have hb:s.size<=256:=by omega
  rw[wd_sz ht h4] at hs
  have hd:dec (0,ln,sc) s=((0,s),0,0):=by
   unfold dec
   rw[dec_char ht hs];rfl
  have h39:f839F 1000 (s,(⟨#[32]⟩:ByteArray))=some (S (s.data.toList.take (trimN s.data.toList s.data.toList.length))):=by
   unfold f839F
   simp only[]
   rw[bif_true (by simp;omega)]
   congr 1
   have:=trim_eq s.data.toList
   rw[this];rfl
  have hl:(S (s.data.toList.take (trimN s.data.toList s.data.toList.length))).size<1000:=by
   rw[S_size,List.length_take,ba_len];omega
  simp only[hd,h39,bind_some',f838q _ hl,S_bytes]
  rfl
 ·obtain⟨a1,a2,a3,a4,a5,a6,a7,a8,a9⟩:=ty_ok ht
  rw[if_neg h0]
  by_cases he:(dec (kd,ln,sc) s).2.2=0
  ·rw[bif_false (by simpa using he),if_neg (by simpa using he),bif_false (by simpa using h0)]
   have hn:numErr (dec (kd,ln,sc) s).1.1 sc=0:=dec_num (t:=(kd,ln,sc)) ht (by simp only;omega) he
   rw[f840q hn,bind_some']
  ·rw[bif_true (bne0 he),if_pos he];rfl
def off (l:List Typ):Nat->Int
 | 0=>0
 | i+1=>off l i+wd (l.getD i (0,(0,0)))
theorem off_rng (l:List Typ):∀ i,0<=off l i∧off l i<=256*(i:Int)
 | 0=>by simp[off]
 | i+1=>by
  have:=off_rng l i
  have:=wd_rng (l.getD i (0,(0,0)))
  simp only[off]
  omega
noncomputable def fTx (l:List Typ)(data:ByteArray)(i:Nat):ByteArray :=
 if off l i+wd (l.getD i (0,(0,0))) > (data.size:Int) then starN else fT (l.getD i (0,(0,0))) (data.extract (off l i).toNat (off l i+wd (l.getD i (0,(0,0)))).toNat)
theorem wrT_ok {t:Typ}(h:wrT t=false):tyErr t.1 t.2.1 t.2.2=0∧t.1≠4:=by
 unfold wrT at h
 simp at h
 exact⟨h.2,h.1⟩
theorem cutI (a b n:Int)(h0:0<=a)(h1:a<=b)(h2:b<=n):sliceBds a b n=true:=by
 have:=sliceB (a:=a.toNat) (b:=b.toNat) (n:=n.toNat) (by omega) (by omega)
 rwa [Int.toNat_of_nonneg h0,Int.toNat_of_nonneg (by omega),Int.toNat_of_nonneg (by omega)] at this
theorem f807q {l:List Typ}{data:ByteArray}(hl:l.length<=12)(hw:∀ t∈l,wrT t=false)(hd:data.size<=600):f807F 1000 (l,data)=some ((List.range l.length).map (fTx l data)):=by
 unfold f807F f807l1
 refine iter_for (fun i=>(data,off l i,l,(l.length:Int),(i:Int),(List.range i).map (fTx l data),())) l.length (fin:=some ((List.range l.length).map (fTx l data))) ?_ ?_ (by omega)
 ·intro rec i hi
  have hx:l[i]?=some (l[i]'hi):=List.getElem?_eq_getElem hi
  have hg:l.getD i (0,(0,0))=l[i]'hi:=getD_of hx
  obtain⟨ht,h4⟩:=wrT_ok (hw _ (List.mem_of_getElem? hx))
  obtain⟨o1,o2⟩:=off_rng l i
  obtain⟨w1,w2⟩:=wd_rng (l[i]'hi)
  unfold f807l1s
  have hsum:IntKind.i64.wrap (off l i+wd (l[i]'hi))=off l i+wd (l[i]'hi):=wi (by omega) (by omega)
  simp only[ltn hi,nn,Bool.and_self,cond_true,Int.toNat_natCast,hg,f24w,bind_some',wi_succ (i:=i) (by omega)]
  unfold f807p0
  simp only[hsum]
  have hoff:off l (i+1)=off l i+wd (l[i]'hi):=by rw[off,hg]
  have hend:∀ y,fTx l data i=y->(List.range i).map (fTx l data)++[y]=(List.range (i+1)).map (fTx l data):=by
   intro y h;rw[List.range_succ,List.map_append,← h];rfl
  by_cases hc:off l i+wd (l[i]'hi)<=(data.size:Int)
  ·have hsz:(data.extract (off l i).toNat (off l i+wd (l[i]'hi)).toNat).size=(wd (l[i]'hi)).toNat:=by
    rw[ext_size _ _ _ (by omega)];omega
   rw[bif_true (by simpa using hc),bif_true (cutI _ _ _ o1 (by omega) hc)]
   rw[f824q (t:=l[i]'hi) ht h4 (by rw[hsz];omega),bind_some']
   rw[bif_true (szN (by simp;omega) (by decide)),hend _ (by unfold fTx;rw[hg,if_neg (by omega)]),hoff,wi_succ (i:=i) (by omega)]
  ·rw[bif_false (by simpa using hc),bif_true (szN (by simp;omega) (by decide)),hend _ (by unfold fTx;rw[hg,if_pos (by omega)];rfl),hoff,wi_succ (i:=i) (by omega)]
 ·intro rec
  unfold f807l1s
  simp
end Go.Proofs.YthcmomgkfjjajaaGreatDoor
