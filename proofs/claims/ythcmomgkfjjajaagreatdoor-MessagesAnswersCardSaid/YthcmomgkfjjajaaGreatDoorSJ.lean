/- Joined texts. -/
import Derived.Test.YthcmomgkfjjajaaGreatDoorAC
import Derived.Shelf.Strings.Builder1
import Derived.Shelf.SlicesE.Clone
import Derived.Test.YthcmomgkfjjajaaGreatDoorProg
import Derived.Shelf.LaysM
import Derived.Shelf.Strconv.Itoa3
import Derived.Shelf.Strings.Repeat
import Derived.Shelf.Strings.Trim
set_option linter.unusedVariables false
set_option linter.unusedSimpArgs false
namespace Go.Proofs
open Go.Shelf Go.RowKit
variable {P:Program} {ρ:Ren}
theorem addr_add' (g j:Nat):(⟨g,0,none⟩:Addr).add j=⟨g,j,none⟩:=by
 cases j<;>simp[Addr.add]
set_option maxHeartbeats 1000000 in
set_option maxRecDepth 100000 in
theorem bld_string (L:Lays.n169 P ρ)(X:Builder.Extra P ρ)(b g cap:Nat)(p:Value)(cur:Array Value)(l:List UInt8)(w:World)(hbk:w.heap[b]?=some (.cells #[p,.slice (some ⟨g,0,none⟩) l.length cap] (ρ.t 72) (0,0)))
  (hg:w.heap[g]?=some (.cells cur (ρ.t 5) (0,0))) (hnc:l.length<=cap) (hcm:cap<=maxLen) (hcs:cur.size=cap) (htake:cur.toList.take l.length=l.map fun b=>Value.int .u8 b.toNat) (h0:l≠[]) :
  Calls P (ρ.f 169) #[.pointer (some ⟨b,0,none⟩)] w fun e w'=>e=.returned (.string ⟨l.toArray⟩)∧w'=w.drew.freeze ⟨g,0,none⟩ l.length:=by
 have hl0:l.length≠0:=by simpa using h0
 have c1:w.drew.cell? ⟨b,1,none⟩=some (.slice (some ⟨g,0,none⟩) l.length cap):=by
  have:w.drew.heap[b]?=some (.cells #[p,.slice (some ⟨g,0,none⟩) l.length cap] (ρ.t 72) (0,0)):=hbk
  rw[Lib.cell_of_heap this];rfl
 have hSD:(Builtin.unsafeSliceData_ #[(ρ.t 37)] (ρ.t 127) #[.slice (some ⟨g,0,none⟩) l.length cap]).run P w.drew=.ok (.pointer (some ⟨g,0,none⟩)) w.drew :=
  Lib.run_unsafeSliceData_row _ _ _ _ _ _ (by omega)
 have hUS:(Builtin.unsafeString_ #[(ρ.t 127),(ρ.t 3)] (ρ.t 9) #[.pointer (some ⟨g,0,none⟩),.int .i64 l.length]).run P w.drew=.ok (.string ⟨l.toArray⟩) (w.drew.freeze ⟨g,0,none⟩ l.length):=by
  have hg':w.drew.heap[g]?=some (.cells cur (ρ.t 5) (0,0)):=hg
  refine Lib.run_unsafeString_row w.drew (ρ.t 127) (ρ.t 3) (ρ.t 9) (ρ.t 5) L.t127 X.cellsByte g cur.size (by simp[World.shape?,hg']) l h0 (by omega) (by unfold maxLen at hcm;omega) ?_
  intro j x hx
  rw[addr_add',Lib.cell_of_heap hg']
  have hj:j<l.length:=(List.getElem?_eq_some_iff.1 hx).1
  have:=congrArg (fun m=>m[j]?) htake
  simp only[List.getElem?_take,if_pos hj,List.getElem?_map,hx,Option.map_some] at this
  simpa using this
 have mixed:=L.mixed
 have t72:=L.t72;have a72:=L.a72;have z72:=L.z72;have v72:=L.v72;have u72:=run_underlying L.t72
 have t70:=L.t70;have a70:=L.a70;have z70:=L.z70;have v70:=L.v70;have u70:=run_underlying L.t70
 have t37:=L.t37;have a37:=L.a37;have z37:=L.z37;have v37:=L.v37;have u37:=run_underlying L.t37
 have t127:=L.t127;have a127:=L.a127;have z127:=L.z127;have v127:=L.v127;have u127:=run_underlying L.t127
 have t3:=L.t3;have a3:=L.a3;have z3:=L.z3;have v3:=L.v3;have u3:=run_underlying L.t3
 have t9:=L.t9;have a9:=L.a9;have z9:=L.z9;have v9:=L.v9;have u9:=run_underlying L.t9
 have t5:=X.t5;have a5:=X.a5;have z5:=X.z5;have v5:=X.v5;have u5:=run_underlying X.t5
 go_enter L.f169,Body.n169_ntmps ρ
 go_wp2
 go_region_o
 all_goals (go_wp2;go_ret;exact⟨rfl,rfl⟩)
set_option maxHeartbeats 2000000 in
set_option maxRecDepth 100000 in
theorem bld_string_nil (L:Lays.n169 P ρ)(X:Builder.Extra P ρ)(b:Nat)(p:Value)(w:World)(hbk:w.heap[b]?=some (.cells #[p,.slice none 0 0] (ρ.t 72) (0,0))) :
  Calls P (ρ.f 169) #[.pointer (some ⟨b,0,none⟩)] w fun e w'=>e=.returned (.string ⟨#[]⟩)∧w'=w.drew:=by
 have hUS:=Any.unsafeString_none L X
 have c1:w.drew.cell? ⟨b,1,none⟩=some (.slice none 0 0):=by
  have:w.drew.heap[b]?=some (.cells #[p,.slice none 0 0] (ρ.t 72) (0,0)):=hbk
  rw[Lib.cell_of_heap this];rfl
 have hSD:(Builtin.unsafeSliceData_ #[(ρ.t 37)] (ρ.t 127) #[.slice none 0 0]).run P w.drew=.ok (.pointer none) w.drew:=rfl
 have mixed:=L.mixed
 have t72:=L.t72;have a72:=L.a72;have z72:=L.z72;have v72:=L.v72;have u72:=run_underlying L.t72
 have t70:=L.t70;have a70:=L.a70;have z70:=L.z70;have v70:=L.v70;have u70:=run_underlying L.t70
 have t37:=L.t37;have a37:=L.a37;have z37:=L.z37;have v37:=L.v37;have u37:=run_underlying L.t37
 have t127:=L.t127;have a127:=L.a127;have z127:=L.z127;have v127:=L.v127;have u127:=run_underlying L.t127
 have t3:=L.t3;have a3:=L.a3;have z3:=L.z3;have v3:=L.v3;have u3:=run_underlying L.t3
 have t9:=L.t9;have a9:=L.a9;have z9:=L.z9;have v9:=L.v9;have u9:=run_underlying L.t9
 have t5:=X.t5;have a5:=X.a5;have z5:=X.z5;have v5:=X.v5;have u5:=run_underlying X.t5
 go_enter L.f169,Body.n169_ntmps ρ
 go_wp2
 go_region_o
 all_goals (go_wp2;go_ret;exact⟨rfl,rfl⟩)
set_option maxHeartbeats 2000000 in
set_option maxRecDepth 100000 in
theorem bld_string0 (L:Lays.n169 P ρ)(X:Builder.Extra P ρ)(b g cap:Nat)(p:Value)(w w2:World)(a:Addr)(hbk:w.heap[b]?=some (.cells #[p,.slice (some ⟨g,0,none⟩) 0 cap] (ρ.t 72) (0,0)))
  (hSD:(Builtin.unsafeSliceData_ #[(ρ.t 37)] (ρ.t 127) #[.slice (some ⟨g,0,none⟩) 0 cap]).run P w.drew=.ok (.pointer (some a)) w2) (c2:w2.cell? ⟨b,1,none⟩=some (.slice (some ⟨g,0,none⟩) 0 cap)) :
  Calls P (ρ.f 169) #[.pointer (some ⟨b,0,none⟩)] w fun e w'=>e=.returned (.string ⟨#[]⟩)∧w'=w2:=by
 have c1:w.drew.cell? ⟨b,1,none⟩=some (.slice (some ⟨g,0,none⟩) 0 cap):=by
  have:w.drew.heap[b]?=some (.cells #[p,.slice (some ⟨g,0,none⟩) 0 cap] (ρ.t 72) (0,0)):=hbk
  rw[Lib.cell_of_heap this];rfl
 have hUS:(Builtin.unsafeString_ #[(ρ.t 127),(ρ.t 3)] (ρ.t 9) #[.pointer (some a),.int .i64 0]).run P w2=.ok (.string ⟨#[]⟩) w2:=rfl
 have mixed:=L.mixed
 have t72:=L.t72;have a72:=L.a72;have z72:=L.z72;have v72:=L.v72;have u72:=run_underlying L.t72
 have t70:=L.t70;have a70:=L.a70;have z70:=L.z70;have v70:=L.v70;have u70:=run_underlying L.t70
 have t37:=L.t37;have a37:=L.a37;have z37:=L.z37;have v37:=L.v37;have u37:=run_underlying L.t37
 have t127:=L.t127;have a127:=L.a127;have z127:=L.z127;have v127:=L.v127;have u127:=run_underlying L.t127
 have t3:=L.t3;have a3:=L.a3;have z3:=L.z3;have v3:=L.v3;have u3:=run_underlying L.t3
 have t9:=L.t9;have a9:=L.a9;have z9:=L.z9;have v9:=L.v9;have u9:=run_underlying L.t9
 have t5:=X.t5;have a5:=X.a5;have z5:=X.z5;have v5:=X.v5;have u5:=run_underlying X.t5
 go_enter L.f169,Body.n169_ntmps ρ
 go_wp2
 go_region_o
 all_goals (go_wp2;go_ret;exact⟨rfl,rfl⟩)
end Go.Proofs
namespace Go.Ab
open Go.Shelf Go.Proofs
def copyCheckE (T:Nat)(args:List AV)(S:Store):Res:=match args with
 | [.v (.one (.ptr t 0))]=>match look S t with
  | some (.var E [.nil .ptr,c])=>bif Nat.beq E T then .ok (.tup []) (upd S t (.var E [.ptr t 0,c])) else .fail
  | some (.var E [.ptr t' 0,c])=>bif Nat.beq t' t then .ok (.tup []) S else .fail
  | _=>.fail
 | _=>.fail
def rowU8 (E:Nat):Blk->Option (List Int)
 | .row E' (.int .u8) .plain xs=>bif Nat.beq E' E then some xs else none
 | _=>none
theorem rowU8_eq {E:Nat}{x:Blk}{xs:List Int}(h:rowU8 E x=some xs):x=.row E (.int .u8) .plain xs:=by
 unfold rowU8 at h
 split at h
 ·rename_i E' ys
  obtain⟨h1,h2⟩:=bif_some (x:=some ys) h
  simp only[Nat.beq_eq] at h1
  injection h2 with h2
  rw[h1,h2]
 ·cases h
def bldStringE (T E:Nat)(args:List AV)(S:Store):Res:=match args with
 | [.v (.one (.ptr t 0))]=>match look S t with
  | some (.var T' [_,.emp])=>bif Nat.beq T' T then .ok (one (.str ByteArray.empty)) S else .fail
  | some (.var T' [_,.own r])=>bif Nat.beq T' T then (match (look S r).bind (rowU8 E) with
   | some xs=>.chk (xs.all fun x=>decide (0<=x)&&decide (x<=255)) (one (.str (strOfNums xs))) (upd S r (.row E (.int .u8) .frz xs))
   | none=>.fail) else .fail
  | _=>.fail
 | _=>.fail
theorem Post.drewW {fr:Nat}{γ:Nat->G}{F:FK}{w:World}{S:Store}(h:Inv F γ S w):Post fr γ F w S γ F w.drew S :=
 ⟨rfl,rfl,rfl,Nat.le_refl _,fun _ _ _=>rfl,fun _ _=>rfl,FK.Le.refl _,fun _ h=>.inl h,fun _ h=>.inl h,fun _ _=>rfl,
  ⟨fun t x hx=>(h.blk t x hx).lasts ⟨FK.Le.refl _,fun _ _=>rfl⟩ rfl (fun _ _=>rfl) (fun _ _=>⟨rfl,id⟩) fun _=>⟨rfl,fun _ _ _=>⟨rfl,id⟩⟩,h.inj,⟨h.fz.lt,h.fz.gnd.mono (fun _ h=>h) fun _ _=>rfl⟩,h.hp⟩,fun _=>rfl⟩
theorem Post.drewR {fr:Nat}{γ γ':Nat->G}{F F':FK}{w w':World}{S S':Store}(h:Post fr γ F w S γ' F' w' S'):Post fr γ F w S γ' F' w'.drew S':=by
 have d:=Post.drewW (fr:=fr) h.inv
 exact⟨h.os,h.tape,h.output,h.size,h.heap,h.gam,h.sub,h.fnew,h.mine,h.frz,d.inv,h.kid0⟩
theorem Post.extraR {fr:Nat}{γ γ':Nat->G}{F F':FK}{w w' w2:World}{S S':Store}{o:Obj}(h:Post fr γ F w S γ' F' w' S')(n:NewBlk w' w2 o):Post fr γ F w S γ' F' w2 S':=by
 have hI:=h.inv
 have hl:Lasts F' F' w' w2:=hI.lasts_new n
 exact⟨n.os.trans h.os,n.tape.trans h.tape,n.output.trans h.output,by rw[n.size];have:=h.size;omega,fun b hb hm=>by rw[n.old (Nat.lt_of_lt_of_le hb h.size)];exact h.heap b hb hm,h.gam,h.sub,h.fnew,h.mine,fun b hb=>by rw[n.old (hI.fz b (h.sub.1 b hb))];exact h.frz b hb,
  ⟨fun t b hb=>(hI.blk t b hb).lasts hl rfl (fun _ _=>rfl) (fun c hc=>⟨n.old ((hI.blk t b hb).lt hc),fun h=>h⟩) fun _=>⟨rfl,fun j c hc=>⟨n.old ((hI.blk t b hb).kid hc).1,fun h=>h⟩⟩,hI.inj,⟨fun b hb=>(by rw[n.size];have:=hI.fz b hb;omega),hI.fz.gnd.mono (fun _ h=>h) hl.heap⟩,hI.hp⟩,h.kid0⟩
theorem Post.turnFrz {fr:Nat}{γ:Nat->G}{F:FK}{w w':World}{S:Store}{tok b E:Nat}{e:Ty}{m:RowK}{xs:List e.den}(hI:Inv F γ S w)(hS:look S tok=some (.row E e m xs))(hb:(γ tok).blk=some b)(hF:¬ F b)(h:Turned w w' b)
  (hc:∀ cur fz,w.heap[b]?=some (.cells cur E fz)->∃ fz',w'.heap[b]?=some (.cells cur E fz')):Post fr γ F w S γ (F.add fun c=>c=b) w' (upd S tok (.row E e .frz xs)):=by
 have hl:Lasts F (F.add fun c=>c=b) w w':=⟨FK.Le.add F _,fun c hc=>h.old c fun e=>hF (e ▸ hc)⟩
 have hHas:∀ t,Has (upd S tok (.row E e .frz xs)) t->Has S t:=by
  rintro t ⟨z,hz⟩
  rw[look_upd] at hz
  split at hz
  ·rename_i e;subst e;exact⟨_,hS⟩
  ·exact⟨z,hz⟩
 have hrow:RowOk F (γ tok) w E e m xs:=hI.blk tok _ hS
 refine⟨h.os,h.tape,h.output,Nat.le_of_eq h.size.symm,fun c hc hm=>h.old c fun e=>hm (.tok ⟨_,hS⟩ (by rw[e];exact hb)),fun _ _=>rfl,FK.Le.add F _,fun c hc=>?_,?_,fun c hc=>hl.heap c hc,?_,fun _=>rfl⟩
 ·rcases hc with hc | hc
  ·exact .inl hc
  ·exact .inr (.inl (.tok ⟨_,hS⟩ (by rw[hc];exact hb)))
 ·rintro c (⟨t,ht,hc⟩ | ⟨j,hc⟩)
  ·exact .inl (.tok (hHas t ht) hc)
  ·exact .inl (.inr ⟨j,hc.upd rfl rfl⟩)
 ·refine⟨fun t z hz=>?_,fun t t' c ht ht'=>hI.inj t t' c (hHas t ht) (hHas t' ht'),⟨fun c hc=>?_,hI.fz.gnd.mono (fun _ h=>.inl h) hl.heap⟩,HpInv.upd (F':=F.add _) hI.hp rfl (y:=.row E e .frz xs) rfl ⟨_,hS⟩⟩
  ·rw[look_upd] at hz
   split at hz
   ·rename_i e1
    subst e1
    injection hz with hz
    subst hz
    obtain⟨h1,h2,h3⟩:=hrow
    refine⟨h1,h2,?_⟩
    rcases h3 with h3 | ⟨b',cur,fz,flat,g1,g2,g3,g4,g5,g6,g7,g8⟩
    ·rw[h3.1] at hb;cases hb
    ·rw[g1] at hb
     injection hb with hb
     subst hb
     obtain⟨fz',hfz⟩:=hc cur fz g2
     exact .inr ⟨b',cur,fz',flat,g1,hfz,g3,g4,g5,g6,g7.lasts hl,.inr rfl⟩
   ·rename_i hne
    refine (hI.blk t z hz).lasts hl rfl (fun _ _=>rfl) (fun c hc'=>⟨h.old c fun e=>hne (hI.inj tok t b ⟨_,hS⟩ ⟨z,hz⟩ hb (e ▸ hc')),fun h=>?_⟩) fun _=>⟨rfl,fun j c hc'=>⟨h.old c fun e=>hI.hp.sep j c tok ⟨t,z,hz,hc'⟩ ⟨_,hS⟩ (e ▸ hb),fun h=>?_⟩⟩
    ·rcases h with h | h
     ·exact h
     ·have h:c=b:=h
      subst h
      exact absurd (hI.inj tok t _ ⟨_,hS⟩ ⟨z,hz⟩ hb hc') hne
    ·rcases h with h | h
     ·exact h
     ·have h:c=b:=h
      exact absurd (h ▸ hb) (hI.hp.sep j c tok ⟨t,z,hz,hc'⟩ ⟨_,hS⟩)
  ·rcases hc with hc | hc
   ·rw[h.size];exact hI.fz c hc
   ·rw[h.size];exact hI.mine_lt (.tok ⟨_,hS⟩ (by rw[hc];exact hb))
theorem turned_setCell (w:World)(b:Nat)(v:Value):Turned w (w.setCell ⟨b,0,none⟩ v) b :=
 ⟨rfl,rfl,rfl,by simp[World.setCell],fun c hc=>by simp only[World.setCell,Array.getElem?_modify];rw[if_neg (fun e=>hc e.symm)]⟩
theorem turned_freeze (w:World)(b n:Nat):Turned w (w.drew.freeze ⟨b,0,none⟩ n) b:=by
 unfold World.freeze
 split
 ·exact⟨rfl,rfl,rfl,rfl,fun _ _=>rfl⟩
 ·exact⟨rfl,rfl,rfl,by simp,fun c hc=>by
   simp only[Array.getElem?_modify]
   rw[if_neg (fun e=>hc e.symm)]
   rfl⟩
theorem flat_u8 {F:FK}{w:World}:∀ {xs:List Int} {l:List Value},Flat F w (.int .u8) xs l->l=xs.map (Value.int .u8)
 | [],l,h=>h
 | x::xs,l,h=>by
  obtain⟨a,b,rfl,ha,hb⟩:=h
  have ha:a=[Value.int .u8 x]:=ha
  rw[ha,flat_u8 hb]
  rfl
theorem u8_back {xs:List Int}(h:(xs.all fun x=>decide (0<=x)&&decide (x<=255))=true):xs.map (Value.int .u8)=(xs.map fun n=>UInt8.ofNat n.toNat).map fun b=>Value.int .u8 b.toNat:=by
 rw[List.map_map]
 refine List.map_congr_left fun x hx=>?_
 have:=List.all_eq_true.1 h x hx
 simp only[Bool.and_eq_true,decide_eq_true_eq] at this
 show Value.int .u8 x=Value.int .u8 ((UInt8.ofNat x.toNat).toNat:Int)
 rw[UInt8.toNat_ofNat']
 congr 1
 omega
section
variable {P:Program} {ρ:Ren}
theorem copyCheck_ok0 (L:Lays.n240 P ρ)(X:Builder.X72 P ρ):∀ args S,ResSem (fun v S'=>FnSem P (ρ.f 240) args S S.length v S') (copyCheckE (ρ.t 72) args S):=by
 intro args S
 unfold copyCheckE
 split
 ·rename_i t
  split
  ·rename_i E c hS
   cases hE:Nat.beq E (ρ.t 72) with
   | false=>trivial
   | true =>
    simp only[cond_true]
    have hE:E=ρ.t 72:=by simpa using hE
    subst hE
    intro γ F w vals hI hlt hal hA _
    match vals,hA with
    | [v],⟨hv,_⟩ =>
     obtain⟨b,hb,rfl⟩:=hv
     obtain⟨b',cur,h1,h2,h3,h4⟩:=hI.blk t _ hS
     rw[h1] at hb
     injection hb with hb
     subst hb
     obtain⟨v0,v1,hcur⟩:∃ v0 v1,cur=#[v0,v1]:=by
      obtain⟨l⟩:=cur
      match l,h4 with
      | [v0,v1],_=>exact⟨v0,v1,rfl⟩
     subst hcur
     obtain⟨k0,k1,_⟩:=h4
     have k0:v0=.pointer none:=k0
     subst k0
     refine (Any.Builder_copyCheck_fresh L X b' w (by rw[Lib.cell_of_heap h2];rfl) (by simp[World.shape?,h2]) (by simp[World.frozen?,h2])).mono ?_
     rintro e w' ⟨rfl,rfl⟩
     refine⟨_,γ,F,rfl,Post.write hI hS h1 h3 (turned_setCell _ _ _) ⟨b',#[.pointer (some ⟨b',0,none⟩),v1],h1,?_,h3,⟨b',h1,rfl⟩,?_,trivial⟩,⟨[],rfl,trivial⟩⟩
     ·simp only[World.setCell,Array.getElem?_modify]
      simp[h2]
     ·exact RepC.lasts (F:=F) (w:=w) ⟨FK.Le.refl _,fun c hc=>(turned_setCell w b' _).old c fun e=>h3 (by rw[← e];exact hc)⟩ (fun _ _=>rfl) k1
  ·rename_i E t' c hS
   cases hE:Nat.beq t' t with
   | false=>trivial
   | true =>
    simp only[cond_true]
    have hE:t'=t:=by simpa using hE
    subst hE
    intro γ F w vals hI hlt hal hA _
    match vals,hA with
    | [v],⟨hv,_⟩ =>
     obtain⟨b,hb,rfl⟩:=hv
     obtain⟨b',cur,h1,h2,h3,h4⟩:=hI.blk t' _ hS
     rw[h1] at hb
     injection hb with hb
     subst hb
     obtain⟨v0,v1,hcur⟩:∃ v0 v1,cur=#[v0,v1]:=by
      obtain⟨l⟩:=cur
      match l,h4 with
      | [v0,v1],_=>exact⟨v0,v1,rfl⟩
     subst hcur
     obtain⟨k0,k1,_⟩:=h4
     obtain⟨b2,k0,k2⟩:=k0
     rw[h1] at k0
     injection k0 with k0
     subst k0
     subst k2
     refine (Any.Builder_copyCheck_used L X b' w (by rw[Lib.cell_of_heap h2];rfl)).mono ?_
     rintro e w' ⟨rfl,rfl⟩
     exact⟨_,γ,F,rfl,Post.same hI,⟨[],rfl,trivial⟩⟩
  ·trivial
 ·trivial
theorem copyCheck_ok (L:Lays.n240 P ρ)(X:Builder.X72 P ρ):EntOk P (ρ.f 240) (copyCheckE (ρ.t 72)):=fun args S=>⟨by
 unfold copyCheckE
 repeat' (first | trivial | split)
 all_goals (generalize Nat.beq _ _=c;cases c<;>(repeat' (first | trivial | split))),copyCheck_ok0 L X args S⟩
theorem bldString_ok0 (L:Lays.n169 P ρ)(X:Builder.Extra P ρ):∀ args S,ResSem (fun v S'=>FnSem P (ρ.f 169) args S S.length v S') (bldStringE (ρ.t 72) (ρ.t 5) args S):=by
 intro args S
 unfold bldStringE
 split
 ·rename_i t
  split
  ·rename_i T' c hS
   cases hE:Nat.beq T' (ρ.t 72) with
   | false=>trivial
   | true =>
    simp only[cond_true]
    have hE:T'=ρ.t 72:=by simpa using hE
    subst hE
    intro γ F w vals hI hlt hal hA _
    match vals,hA with
    | [v],⟨hv,_⟩ =>
     obtain⟨b,hb,rfl⟩:=hv
     obtain⟨b',cur,h1,h2,h3,h4⟩:=hI.blk t _ hS
     rw[h1] at hb
     injection hb with hb
     subst hb
     obtain⟨v0,v1,hcur⟩:∃ v0 v1,cur=#[v0,v1]:=by
      obtain⟨l⟩:=cur
      match l,h4 with
      | [v0,v1],_=>exact⟨v0,v1,rfl⟩
     subst hcur
     obtain⟨k0,k1,_⟩:=h4
     have k1:v1=.slice none 0 0:=k1
     subst k1
     refine (bld_string_nil L X b' v0 w h2).mono ?_
     rintro e w' ⟨rfl,rfl⟩
     exact⟨_,γ,F,rfl,Post.drewW hI,rfl⟩
  ·rename_i T' c r hS
   cases hE:Nat.beq T' (ρ.t 72) with
   | false=>trivial
   | true =>
    simp only[cond_true]
    have hE:T'=ρ.t 72:=by simpa using hE
    subst hE
    split
    ·rename_i xs hr
     obtain⟨x,hx,hr2⟩:=Option.bind_eq_some_iff.1 hr
     have:=rowU8_eq hr2
     subst this
     intro hall
     intro γ F w vals hI hlt hal hA _
     match vals,hA with
     | [v],⟨hv,_⟩ =>
      obtain⟨b,hb,rfl⟩:=hv
      obtain⟨b',cur,h1,h2,h3,h4⟩:=hI.blk t _ hS
      rw[h1] at hb
      injection hb with hb
      subst hb
      obtain⟨v0,v1,hcur⟩:∃ v0 v1,cur=#[v0,v1]:=by
       obtain⟨l⟩:=cur
       match l,h4 with
       | [v0,v1],_=>exact⟨v0,v1,rfl⟩
      subst hcur
      obtain⟨k0,k1,_⟩:=h4
      have k1:v1=(γ r).val:=k1
      have hrow:RowOk F (γ r) w (ρ.t 5) (.int .u8) .plain xs:=hI.blk r _ hx
      obtain⟨q1,q2,q3⟩:=hrow
      rcases q3 with q3 | ⟨g,gc,fz,flat,g1,g2,g3,g4,g5,g6,g7,g8⟩
      ·obtain⟨q4,q5,q6⟩:=q3
       subst q5
       have hv1:v1=.slice none 0 0:=by
        rw[k1]
        unfold G.val
        rw[q4,q6 rfl]
       subst hv1
       obtain⟨F',p,_⟩:=Post.freeze (fr:=S.length) hI hx
       refine (bld_string_nil L X b' v0 w h2).mono ?_
       rintro e w' ⟨rfl,rfl⟩
       exact⟨_,γ,F',rfl,p.drewR,rfl⟩
      ·by_cases hne:xs=[]
       ·subst hne
        obtain⟨F',p,_⟩:=Post.freeze (fr:=S.length) hI hx
        have hv1:v1=.slice (some ⟨g,0,none⟩) 0 (γ r).cap:=by
         rw[k1]
         unfold G.val
         rw[g1]
         show Value.slice _ (γ r).len _=_
         rw[q1];rfl
        subst hv1
        by_cases hcap:(γ r).cap=0
        ·have hb2:b'<w.heap.size:=lt_of_cells h2
         have hsh:w.drew.shape? g=some (ρ.t 5,gc.size):=by
          have hg':w.drew.heap[g]?=some (.cells gc (ρ.t 5) fz):=g2
          simp[World.shape?,hg']
         refine (bld_string0 L X b' g (γ r).cap v0 w (w.drew.alloc (.view ⟨g,0,none⟩ (ρ.t 5))) ⟨w.heap.size,0,none⟩ h2 ?_ ?_).mono ?_
         ·have hdef:Builtin.unsafeSliceData_ #[ρ.t 37] (ρ.t 127) #[.slice (some ⟨g,0,none⟩) 0 (γ r).cap] =
            (if (γ r).cap≠0 then pure (.pointer (some ⟨g,0,none⟩)) else do
             if (← viewAt g).isSome then pure (.pointer (some ⟨g,0,none⟩))
             else pure (.pointer (some ⟨← newObj (.view ⟨g,0,none⟩ (← elemOf (ρ.t 127))),0,none⟩))):=rfl
          rw[hdef]
          simp[hcap,viewAt,elemOf,run_underlying L.t127,hsh]
         ·have:(w.drew.alloc (.view ⟨g,0,none⟩ (ρ.t 5))).heap[b']?=some (.cells #[v0,.slice (some ⟨g,0,none⟩) 0 (γ r).cap] (ρ.t 72) (0,0)):=by
           rw[(NewBlk.alloc w.drew _).old (show b'<w.drew.heap.size from hb2)];exact h2
          rw[Lib.cell_of_heap this];rfl
         ·rintro e w' ⟨rfl,rfl⟩
          exact⟨_,γ,F',rfl,p.drewR.extraR (NewBlk.alloc _ _),rfl⟩
        ·refine (bld_string0 L X b' g (γ r).cap v0 w w.drew ⟨g,0,none⟩ h2 (Lib.run_unsafeSliceData_row _ _ _ _ _ _ (by omega)) ?_).mono ?_
         ·have:w.drew.heap[b']?=some (.cells #[v0,.slice (some ⟨g,0,none⟩) 0 (γ r).cap] (ρ.t 72) (0,0)):=h2
          rw[Lib.cell_of_heap this];rfl
         ·rintro e w' ⟨rfl,rfl⟩
          exact⟨_,γ,F',rfl,p.drewR,rfl⟩
       obtain⟨g8,g9⟩:=g8
       subst g9
       have hlen:(xs.map fun n=>UInt8.ofNat n.toNat).length=xs.length:=by simp
       have hv1:v1=.slice (some ⟨g,0,none⟩) (xs.map fun n=>UInt8.ofNat n.toNat).length (γ r).cap:=by
        rw[k1,hlen,← q1]
        unfold G.val
        rw[g1]
       subst hv1
       have hflat:=flat_u8 g7
       refine (bld_string L X b' g (γ r).cap v0 gc (xs.map fun n=>UInt8.ofNat n.toNat) w h2 g2 (by rw[hlen];exact g3) g4 (by simpa [Ty.size] using g5) ?_ (by simpa using hne)).mono ?_
       ·rw[hlen,← u8_back hall,← hflat,← g6]
        simp[Ty.size]
       ·rintro e w' ⟨rfl,rfl⟩
        refine⟨_,γ,_,rfl,Post.turnFrz hI hx g1 g8 (turned_freeze w g _) fun cur fz hcur=>?_,rfl⟩
        unfold World.freeze
        split
        ·exact⟨fz,hcur⟩
        ·obtain⟨lo,hi⟩:=fz
         have hcur':w.drew.heap[g]?=some (.cells cur (ρ.t 5) (lo,hi)):=hcur
         exact⟨_,(by simp only[Array.getElem?_modify,hcur',if_pos,Option.map_some];rfl)⟩
    ·trivial
  ·trivial
 ·trivial
theorem bldString_ok (L:Lays.n169 P ρ)(X:Builder.Extra P ρ):EntOk P (ρ.f 169) (bldStringE (ρ.t 72) (ρ.t 5)):=fun args S=>⟨by
 unfold bldStringE
 repeat' (first | trivial | split)
 all_goals (generalize Nat.beq _ _=c;cases c<;>(repeat' (first | trivial | split))),bldString_ok0 L X args S⟩
end
end Go.Ab
namespace Go.Proofs
open Go.Shelf Go.RowKit Go.Lib
variable {P:Program} {ρ:Ren}
set_option maxHeartbeats 2000000 in
set_option maxRecDepth 100000 in
theorem clone_empty (L:SlLaysE0.n41 P ρ)(i0:TypeInfo)(z:Value)(size bytes:Nat)(hi:P.info? (ρ.t 23)=some i0)(hz0:i0.zero=some z)(hz1:i0.size=size)(hz2:i0.bytes=bytes)(hzs:z.cells.size=size)(hsz:0<size)
  (z23:∀ w,(Go.sizeOf (ρ.t 23)).run P w=.ok size w) (a:Addr) (c:Nat) (w:World) :
  Calls P (ρ.f 41) #[.slice (some a) 0 c] w fun e w'=>∃ v',e=.returned v'∧w'.ownsRow w.heap.size (ρ.t 23) size v' 0 []∧v'≠.slice none 0 0∧Below w.heap.size w w':=by
 have mixed:=L.mixed;have t4:=L.t4;have a4:=L.a4;have z4:=L.z4;have v4:=L.v4;have t22:=L.t22;have a22:=L.a22;have z22:=L.z22;have v22:=L.v22
 have q22:∀ (w:World) (a:Option Addr) (n c n' c':Nat),(binOp .eql (ρ.t 22) (.slice a n c) (.slice none n' c')).run P w=.ok (.bool a.isNone) w:=fun w a n c n' c'=>Lib.run_eql_slice_nil w _ _ a n c n' c' L.t22
 have u22:∀ w,Sem.run P (underlying (ρ.t 22)) w=.ok (TypeDesc.slice (ρ.t 23)) w:=run_underlying t22
 obtain⟨_,_,FG⟩:=L.f41
 go_enter FG,SlBodyN.n41_ntmps ρ
 go_wp2_with (at_builtin;refine wpList_append_own _ rfl _ _ (ρ.t 22) rfl w.heap.size (ρ.t 23) i0 z size bytes t22 hi hz0 hz1 hz2 hzs hsz _ _ _ rfl (World.ownsRow_made w #[] 0 (Nat.le_refl _) (Nat.zero_le _) (by simp)) a 0 c [] rfl ?qc1 ?qc2 ?qc3 ?qc4 ?qc5 ?qc6 ?_)
 case qc1=>simp
 case qc2=>intro j u hj;simp at hj
 case qc3=>intro u hu;simp at hu
 case qc4=>simp
 case qc5=>simp
 case qc6=>simp
 intro v' w1 hown hgrow hnil
 go_wp2
 go_ret
 refine⟨v',rfl,by simpa using hown,?_,?_⟩
 ·exact hnil
 ·exact ((Below.refl _ w).alloc (Nat.le_refl _) _).grown hgrow (by simp) (by intro k hk;simp[Value.ownBlock] at hk;omega)
end Go.Proofs
namespace Go.Ab
open Go.Shelf Go.Proofs Go.RowKit Go.Lib
variable {P:Program} {ρ:Ren}
theorem RoSl.flat {F:FK}{w:World}{e:Ty}{b off:Nat}:∀ {xs:List e.den} (n:Nat),(∀ i x,xs[i]?=some x->∃ l,RepD F w e x l∧l.length=e.size∧∀ j v,l[j]?=some v->w.cell? ⟨b,off+((n+i)*e.size+j),none⟩=some v) ->
  ∃ l,Flat F w e xs l∧∀ j v,l[j]?=some v->w.cell? ⟨b,off+(n*e.size+j),none⟩=some v
 | [],n,_=>⟨[],rfl,fun j v h=>by simp at h⟩
 | x::xs,n,h=>by
  obtain⟨l1,h1,h2,h3⟩:=h 0 x (by simp)
  obtain⟨l2,h4,h5⟩:=RoSl.flat (xs:=xs) (n+1) fun i y hy=>by
   obtain⟨l,a,b,c⟩:=h (i+1) y (by simpa using hy)
   exact⟨l,a,b,fun j v hv=>by rw[show n+1+i=n+(i+1) by omega];exact c j v hv⟩
  refine⟨l1++l2,⟨l1,l2,rfl,h1,h4⟩,fun j v hv=>?_⟩
  by_cases hj:j<l1.length
  ·rw[List.getElem?_append_left hj] at hv
   simpa using h3 j v hv
  ·rw[List.getElem?_append_right (by omega)] at hv
   have:=h5 (j - l1.length) v hv
   rw[h2] at this
   rw[show off+(n*e.size+j)=off+((n+1)*e.size+(j - e.size)) by rw[Nat.add_mul];omega]
   exact this
theorem Post.madeRow {γ:Nat->G}{F:FK}{w w':World}{E:Nat}{e:Ty}{xs:List e.den}{v:Value}{news:List Value}(hF:Frz F w)(hb:Below w.heap.size w w')(ho:w'.ownsRow w.heap.size E e.size v xs.length news)(hf:Flat F w e xs news) :
  ∃ γ',Post 0 γ F w [] γ' F w' [(0,.row E e .plain xs)]∧RepA γ' F w' (one (.own 0)) v:=by
 have hlt:∀ b,F b->w'.heap[b]?=w.heap[b]?:=fun b h=>hb.block b (hF b h)
 have hl:Lasts F F w w':=⟨FK.Le.refl F,hlt⟩
 have frz:Frz F w':=⟨fun b h=>Nat.lt_of_lt_of_le (hF b h) hb.size,hF.gnd.mono (fun _ h=>h) hlt⟩
 have main:∀ g:G,g.val=v->RowOk F g w' E e .plain xs->(∀ b,g.blk=some b->w.heap.size<=b)->∃ γ',Post 0 γ F w [] γ' F w' [(0,.row E e .plain xs)]∧RepA γ' F w' (one (.own 0)) v:=by
  intro g hv hr hge
  have hk:∀ t x,look [(0,Blk.row E e .plain xs)] t=some x->t=0∧x=.row E e .plain xs:=by
   intro t x hx
   simp only[look] at hx
   by_cases h0:(0:Nat)=t
   ·subst h0
    rw[beq_yes] at hx
    injection hx with hx
    exact⟨rfl,hx.symm⟩
   ·rw[beq_no h0] at hx;cases hx
  have hnk:∀ j b,¬ KidO F [(0,Blk.row E e .plain xs)] j b:=by
   rintro j b ⟨t,x,hx,hj⟩
   obtain⟨_,rfl⟩:=hk t x hx
   exact hj
  refine⟨fun _=>g,⟨hb.os,hb.tape,hb.output,hb.size,fun b h _=>hb.block b h,fun t ht=>(by omega),FK.Le.refl F,fun _ h=>.inl h,?_,hlt,⟨?_,?_,frz,⟨?_,?_,?_⟩⟩,fun _=>rfl⟩,hv.symm⟩
  ·rintro b (⟨t,_,h⟩ | ⟨j,h⟩)
   ·exact .inr (hge b h)
   ·exact absurd h (hnk j b)
  ·intro t x hx
   obtain⟨rfl,rfl⟩:=hk t x hx
   exact hr
  ·rintro t t' b ⟨x,hx⟩ ⟨x',hx'⟩ _ _
   rw[(hk t x hx).1,(hk t' x' hx').1]
  ·intro t t' x x' hx hx' _ _
   rw[(hk t x hx).1,(hk t' x' hx').1]
  ·intro j j' b h _
   exact absurd h (hnk j b)
  ·intro j b t h _
   exact absurd h (hnk j b)
 obtain⟨hlen,⟨rfl,hn⟩ | ⟨g,cap,cur,rfl,hg,hh,hc,hm,hs,htk⟩⟩:=ho
 ·exact main ⟨none,0,0,e.size,none⟩ rfl ⟨hn.symm,rfl,.inl ⟨rfl,List.length_eq_zero_iff.1 hn,fun _=>rfl⟩⟩ fun b h=>by cases h
 ·refine main ⟨some g,xs.length,cap,e.size,none⟩ rfl ⟨rfl,rfl,.inr ⟨g,cur,(0,0),news,rfl,hh,hc,hm,hs,htk,hf.lasts hl,fun h=>?_,rfl⟩⟩ fun b h=>(by injection h with h;omega)
  have:=hF g h
  omega
def cloneF (α:Type)(bytes:Nat)(x:List α):Option (List α):=bif decide (x.length*bytes<=140737488355328)&&decide (x.length<=9223372036854775807) then some x else none
theorem clone_ok (L:SlLaysE0.n41 P ρ){e:Ty}{i0:TypeInfo}{z:Value}{bytes:Nat}(hi:P.info? (ρ.t 23)=some i0)(hz0:i0.zero=some z)(hz1:i0.size=e.size)(hz2:i0.bytes=bytes)(hzs:z.cells.size=e.size)
  (z23:∀ w,(Go.sizeOf (ρ.t 23)).run P w=.ok e.size w) (x y:List e.den) (h:cloneF e.den bytes x=some y):FnOk P (ρ.f 41) [.dat (.slice e)] [.own (ρ.t 23) e] x y:=by
 unfold cloneF at h
 cases hc:decide (x.length*bytes<=140737488355328)&&decide (x.length<=9223372036854775807) with
 | false=>rw[hc] at h;cases h
 | true =>
  rw[hc] at h
  cases h
  simp only[Bool.and_eq_true,decide_eq_true_eq] at hc
  obtain⟨hbig,hmax⟩:=hc
  intro γ F w vals hF hvals
  match vals,hvals with
  | [v],⟨hv,_⟩ =>
   obtain⟨A,n,cap,rfl,hlen,hle,hrd⟩:=(show RoSl F w (RepD F w e) e.size x v from hv)
   subst hlen
   have fin:∀ {news:List Value},Flat F w e x news->∀ (en:Ending) (w':World),(∃ v',en=.returned v'∧w'.ownsRow w.heap.size (ρ.t 23) e.size v' x.length news∧v'≠.slice none 0 0∧Below w.heap.size w w') ->
     ∃ u γ' F',en=.returned u∧Post 0 γ F w [] γ' F' w' (resSto 0 [.own (ρ.t 23) e] x)∧RepA γ' F' w' (packV (resVals 0 [.own (ρ.t 23) e] x)) u:=by
    rintro news hf en w' ⟨v',rfl,ho,_,hb⟩
    obtain⟨γ',p,r⟩:=Post.madeRow (γ:=γ) hF hb ho hf
    exact⟨v',γ',F,rfl,p,r⟩
   match A,hrd with
   | none,hrd =>
    have h0:x.length=0:=by
     rcases Nat.eq_zero_or_pos x.length with h | h
     ·exact h
     ·obtain⟨a,ha,_⟩:=hrd h
      cases ha
    have hx:x=[]:=List.length_eq_zero_iff.1 h0
    subst hx
    refine (AnyE.slices_Clone_nil L 0 cap w).mono ?_
    rintro en w' ⟨rfl,rfl⟩
    obtain⟨γ',p,r⟩:=Post.madeRow (γ:=γ) (E:=ρ.t 23) (e:=e) (xs:=[]) (v:=.slice none 0 0) (news:=[]) hF (Below.refl _ w') ⟨by simp,.inl ⟨rfl,rfl⟩⟩ rfl
    exact⟨_,γ',F,rfl,p,r⟩
   | some a,hrd =>
    rcases Nat.eq_zero_or_pos x.length with h0 | h0
    ·have hx:x=[]:=List.length_eq_zero_iff.1 h0
     subst hx
     exact (clone_empty L i0 z e.size bytes hi hz0 hz1 hz2 hzs e.size_pos z23 a cap w).mono fun en w' hw=>fin (news:=[]) rfl en w' hw
    ·obtain⟨a',ha,hsp,hFa,hcell⟩:=hrd h0
     injection ha with ha
     subst ha
     obtain⟨b,off,sp⟩:=a
     have hsp:sp=none:=hsp
     subst hsp
     obtain⟨l,hl,hlc⟩:=RoSl.flat (F:=F) (w:=w) (e:=e) (b:=b) (off:=off) (xs:=x) 0 fun i y hy=>by
      obtain⟨l,h1,h2,h3⟩:=hcell i y hy
      exact⟨l,h1,h2,fun j v hv=>by rw[Nat.zero_add];exact h3 j v hv⟩
     refine (AnyE.slices_Clone L i0 z e.size bytes hi hz0 hz1 hz2 hzs e.size_pos z23 b off x.length cap l w hl.length (by unfold maxLen;omega) hbig (fun j u hj=>?_) (fun u hu=>?_)).mono fun en w' hw=>fin hl en w' hw
     ·have:=hlc j u hj
      rwa [Nat.zero_mul,Nat.zero_add] at this
     ·exact Flat.ones hl u hu
end Go.Ab
namespace Go.Proofs.YthcmomgkfjjajaaGreatDoor
open Go.Shelf Go.Ab Go.RowKit
theorem same_ok {P:Program}{f:Nat}{sig:List ASh}{res:List RSh}{x:argDen sig}{y:resDen res}(u:Value)(hsto:resSto 0 res y=[])(hu:∀ (γ:Nat->G) (F:FK) (w:World),RepA γ F w (packV (resVals 0 res y)) u)
  (h:∀ (γ:Nat->G) (F:FK) (w:World) (vals:List Value),Frz F w->All2 (RepA γ F w) (argsV sig x) vals->Calls P f vals.toArray w fun e w'=>e=.returned u∧Below w.heap.size w w'):FnOk P f sig res x y:=by
 intro γ F w vals hF hvals
 refine (h γ F w vals hF hvals).mono fun e w' ⟨he,hw⟩=>?_
 refine⟨u,γ,F,he,?_,hu γ F w'⟩
 rw[hsto]
 exact⟨hw.os,hw.tape,hw.output,hw.size,fun b hb _=>hw.block b hb,fun _ _=>rfl,FK.Le.refl F,fun _ h=>.inl h,fun b h=>absurd h no_mine,fun b h=>hw.block b (hF b h),
  Inv.nil ⟨fun b h=>Nat.lt_of_lt_of_le (hF b h) hw.size,hF.gnd.mono (fun _ h=>h) (fun b h=>hw.block b (hF b h))⟩,fun _=>rfl⟩
theorem one_byte {s:ByteArray}{c:UInt8}(h:s.data.toList=[c]):s=⟨#[c]⟩:=by
 cases s with
 | mk d =>
  congr
  exact Array.ext' h
theorem same_world {P:Program}{f:Nat}{vals:Array Value}{w:World}{u:Value}(h:Calls P f vals w fun e w'=>e=.returned u∧w'=w):Calls P f vals w fun e w'=>e=.returned u∧Below w.heap.size w w' :=
 h.mono fun e w' ⟨he,hw⟩=>by subst hw;exact⟨he,Below.refl _ _⟩
def lays162_ren:Go.Shelf.Ren:=⟨fun | 162=>139 | 232=>157 | 227=>158 | 234=>159 | 236=>160 | 228=>170 | 271=>171 | 151=>172 | 120=>178 | 197=>179 | 152=>180 | 260=>186 | 137=>187 | 119=>188 | 224=>189 | 225=>190 | 217=>196 | 266=>202 | n=>n,fun | 9=>9 | 4=>4 | 3=>3 | 5=>5 | 117=>204 | 116=>203 | 0=>0 | 124=>207 | 21=>21 | 105=>219 | 46=>216 | 119=>244 | 139=>247 | 138=>246 | n=>n,fun | 3=>0 | 4=>1 | n=>n⟩
theorem lays162:Go.Proofs.Lays.n162 Tryz.prog lays162_ren:={
 mixed:=by kernel_rfl
 f119:=Tryz.func188.trans (congrArg some (by kernel_rfl))
 f120:=Tryz.func178.trans (congrArg some (by kernel_rfl))
 f137:=Tryz.func187.trans (congrArg some (by kernel_rfl))
 f151:=Tryz.func172.trans (congrArg some (by kernel_rfl))
 f152:=Tryz.func180.trans (congrArg some (by kernel_rfl))
 f162:=Tryz.func139.trans (congrArg some (by kernel_rfl))
 f197:=Tryz.func179.trans (congrArg some (by kernel_rfl))
 f217:=Tryz.func196.trans (congrArg some (by kernel_rfl))
 f224:=Tryz.func189.trans (congrArg some (by kernel_rfl))
 f225:=Tryz.func190.trans (congrArg some (by kernel_rfl))
 f227:=Tryz.func158.trans (congrArg some (by kernel_rfl))
 f228:=Tryz.func170.trans (congrArg some (by kernel_rfl))
 f232:=Tryz.func157.trans (congrArg some (by kernel_rfl))
 f234:=Tryz.func159.trans (congrArg some (by kernel_rfl))
 f236:=Tryz.func160.trans (congrArg some (by kernel_rfl))
 f260:=Tryz.func186.trans (congrArg some (by kernel_rfl))
 f266:=Tryz.func202.trans (congrArg some (by kernel_rfl))
 f271:=Tryz.func171.trans (congrArg some (by kernel_rfl))
 t0:=Tryz.underlying0
 a0:=Tryz.isAgg0
 z0:=Tryz.sizeOf0
 v0:=Tryz.zeroValue0
 t3:=Tryz.underlying3
 a3:=Tryz.isAgg3
 z3:=Tryz.sizeOf3
 v3:=Tryz.zeroValue3
 t4:=Tryz.underlying4
 a4:=Tryz.isAgg4
 z4:=Tryz.sizeOf4
 v4:=Tryz.zeroValue4
 t5:=Tryz.underlying5
 a5:=Tryz.isAgg5
 z5:=Tryz.sizeOf5
 v5:=Tryz.zeroValue5
 t9:=Tryz.underlying9
 a9:=Tryz.isAgg9
 z9:=Tryz.sizeOf9
 v9:=Tryz.zeroValue9
 t21:=Tryz.underlying21
 a21:=Tryz.isAgg21
 z21:=Tryz.sizeOf21
 v21:=Tryz.zeroValue21
 t46:=Tryz.underlying216
 a46:=Tryz.isAgg216
 z46:=Tryz.sizeOf216
 v46:=Tryz.zeroValue216
 t105:=Tryz.underlying219
 a105:=Tryz.isAgg219
 z105:=Tryz.sizeOf219
 v105:=Tryz.zeroValue219
 t116:=Tryz.underlying203
 a116:=Tryz.isAgg203
 z116:=Tryz.sizeOf203
 t117:=Tryz.underlying204
 a117:=Tryz.isAgg204
 z117:=Tryz.sizeOf204
 v117:=Tryz.zeroValue204
 t119:=Tryz.underlying244
 a119:=Tryz.isAgg244
 z119:=Tryz.sizeOf244
 t124:=Tryz.underlying207
 a124:=Tryz.isAgg207
 z124:=Tryz.sizeOf207
 v124:=Tryz.zeroValue207
 t138:=Tryz.underlying246
 a138:=Tryz.isAgg246
 z138:=Tryz.sizeOf246
 v138:=Tryz.zeroValue246
 t139:=Tryz.underlying247
 a139:=Tryz.isAgg247
 z139:=Tryz.sizeOf247
 v139:=Tryz.zeroValue247
 g3:=by kernel_rfl
 g4:=by kernel_rfl }
def f839F (k:Nat)(x:ByteArray×ByteArray):Option ByteArray :=
 match x.2.data.toList with
 | [c]=>bif (decide (c.toNat<128)&&decide (x.1.size<=9223372036854775807)) then some ⟨(Lib.trimRightB x.1.data.toList c).toArray⟩ else none
 | _=>none
theorem f839B:HasBody Go.Proofs.Tryz.prog 139:=⟨Go.Proofs.Tryz.f139,Go.Proofs.Tryz.func139,by kernel_rfl,by kernel_rfl⟩
theorem f839Ok (k:Nat)(x:ByteArray×ByteArray)(y:ByteArray)(h:f839F k x=some y):FnOk Go.Proofs.Tryz.prog 139 [.dat .str,.dat .str] [.dat .str] x y:=by
 obtain⟨s,t⟩:=x
 unfold f839F at h
 simp only[] at h
 split at h
 ·rename_i c hc
  have ht:=one_byte hc
  subst ht
  cases hcc:(decide (c.toNat<128)&&decide (s.size<=9223372036854775807)) with
  | false=>rw[hcc] at h;cases h
  | true =>
   rw[hcc] at h
   cases h
   simp only[Bool.and_eq_true,decide_eq_true_eq] at hcc
   obtain⟨hlt,hs⟩:=hcc
   refine same_ok (.string ⟨(Lib.trimRightB s.data.toList c).toArray⟩) rfl (fun _ _ _=>rfl) fun γ F w vals _ hvals=>?_
   match vals,hvals with
   | [a,b],⟨ha,hb,_⟩ =>
    have ha:a=.string s:=ha
    have hb:b=.string ⟨#[c]⟩:=hb
    subst ha hb
    exact same_world (Any.strings_TrimRight_one lays162 s c hlt w hs)
 ·cases h
def lays105_ren:Go.Shelf.Ren:=⟨fun | 105=>163 | 212=>174 | 99=>175 | 165=>176 | 166=>125 | 170=>177 | 169=>127 | 263=>182 | 264=>183 | 206=>184 | 240=>141 | 241=>185 | 276=>164 | 277=>195 | n=>n,fun | 9=>9 | 3=>3 | 4=>4 | 20=>20 | 0=>0 | 46=>216 | 109=>222 | 5=>5 | 72=>167 | 76=>170 | 51=>229 | 146=>230 | 53=>232 | 148=>233 | 70=>165 | 37=>155 | 75=>169 | 127=>190 | 164=>210 | 80=>173 | n=>n,fun | n=>n⟩
theorem lays105:Go.Proofs.Lays.n105 Tryz.prog lays105_ren:={
 mixed:=by kernel_rfl
 f99:=Tryz.func175.trans (congrArg some (by kernel_rfl))
 f105:=Tryz.func163.trans (congrArg some (by kernel_rfl))
 f165:=Tryz.func176.trans (congrArg some (by kernel_rfl))
 f166:=Tryz.func125.trans (congrArg some (by kernel_rfl))
 f169:=Tryz.func127.trans (congrArg some (by kernel_rfl))
 f170:=Tryz.func177.trans (congrArg some (by kernel_rfl))
 f206:=Tryz.func184.trans (congrArg some (by kernel_rfl))
 f212:=Tryz.func174.trans (congrArg some (by kernel_rfl))
 f240:=Tryz.func141.trans (congrArg some (by kernel_rfl))
 f241:=Tryz.func185.trans (congrArg some (by kernel_rfl))
 f263:=Tryz.func182.trans (congrArg some (by kernel_rfl))
 f264:=Tryz.func183.trans (congrArg some (by kernel_rfl))
 f276:=Tryz.func164.trans (congrArg some (by kernel_rfl))
 f277:=Tryz.func195.trans (congrArg some (by kernel_rfl))
 t0:=Tryz.underlying0
 a0:=Tryz.isAgg0
 z0:=Tryz.sizeOf0
 v0:=Tryz.zeroValue0
 t3:=Tryz.underlying3
 a3:=Tryz.isAgg3
 z3:=Tryz.sizeOf3
 v3:=Tryz.zeroValue3
 t4:=Tryz.underlying4
 a4:=Tryz.isAgg4
 z4:=Tryz.sizeOf4
 v4:=Tryz.zeroValue4
 t5:=Tryz.underlying5
 a5:=Tryz.isAgg5
 z5:=Tryz.sizeOf5
 v5:=Tryz.zeroValue5
 t9:=Tryz.underlying9
 a9:=Tryz.isAgg9
 z9:=Tryz.sizeOf9
 v9:=Tryz.zeroValue9
 t20:=Tryz.underlying20
 a20:=Tryz.isAgg20
 z20:=Tryz.sizeOf20
 v20:=Tryz.zeroValue20
 t37:=Tryz.underlying155
 a37:=Tryz.isAgg155
 z37:=Tryz.sizeOf155
 v37:=Tryz.zeroValue155
 t46:=Tryz.underlying216
 a46:=Tryz.isAgg216
 z46:=Tryz.sizeOf216
 v46:=Tryz.zeroValue216
 t51:=Tryz.underlying229
 a51:=Tryz.isAgg229
 z51:=Tryz.sizeOf229
 v51:=Tryz.zeroValue229
 t53:=Tryz.underlying232
 a53:=Tryz.isAgg232
 z53:=Tryz.sizeOf232
 v53:=Tryz.zeroValue232
 t70:=Tryz.underlying165
 a70:=Tryz.isAgg165
 z70:=Tryz.sizeOf165
 v70:=Tryz.zeroValue165
 t72:=Tryz.underlying167
 a72:=Tryz.isAgg167
 z72:=Tryz.sizeOf167
 v72:=Tryz.zeroValue167
 t75:=Tryz.underlying169
 a75:=Tryz.isAgg169
 z75:=Tryz.sizeOf169
 v75:=Tryz.zeroValue169
 t76:=Tryz.underlying170
 a76:=Tryz.isAgg170
 z76:=Tryz.sizeOf170
 v76:=Tryz.zeroValue170
 t109:=Tryz.underlying222
 a109:=Tryz.isAgg222
 z109:=Tryz.sizeOf222
 v109:=Tryz.zeroValue222
 t127:=Tryz.underlying190
 a127:=Tryz.isAgg190
 z127:=Tryz.sizeOf190
 v127:=Tryz.zeroValue190
 t146:=Tryz.underlying230
 a146:=Tryz.isAgg230
 z146:=Tryz.sizeOf230
 v146:=Tryz.zeroValue230
 t148:=Tryz.underlying233
 a148:=Tryz.isAgg233
 z148:=Tryz.sizeOf233
 v148:=Tryz.zeroValue233
 t164:=Tryz.underlying210
 a164:=Tryz.isAgg210
 z164:=Tryz.sizeOf210
 v164:=Tryz.zeroValue210 }
theorem extra105:Builder.Extra Tryz.prog lays105_ren:={
 sizeBuilder:=by kernel_rfl
 liesBuilder:=by kernel_rfl
 t5:=Tryz.underlying5
 a5:=Tryz.isAgg5
 z5:=Tryz.sizeOf5
 v5:=Tryz.zeroValue5
 infoByte:=by kernel_rfl
 cellsByte:=by kernel_rfl
 sizeByte:=by kernel_rfl
 neB5:=by decide }
def f73F (k:Nat)(x:ByteArray×Int):Option ByteArray :=
 bif decide (0<=x.2)&&(decide (x.2<=9223372036854775807)&&decide ((x.1.size:Int)*x.2<=140737488355328)) then some ⟨(Lib.repeatL x.1.data.toList x.2.toNat).toArray⟩ else none
theorem f73B:HasBody Go.Proofs.Tryz.prog 163:=⟨Go.Proofs.Tryz.f163,Go.Proofs.Tryz.func163,by kernel_rfl,by kernel_rfl⟩
theorem f73Ok (k:Nat)(x:ByteArray×Int)(y:ByteArray)(h:f73F k x=some y):FnOk Go.Proofs.Tryz.prog 163 [.dat .str,.dat (.int .i64)] [.dat .str] x y:=by
 obtain⟨s,c⟩:=x
 unfold f73F at h
 cases hc:(decide (0<=c)&&(decide (c<=9223372036854775807)&&decide ((s.size:Int)*c<=140737488355328))) with
 | false=>rw[hc] at h;cases h
 | true =>
  rw[hc] at h
  simp only[Bool.and_eq_true,decide_eq_true_eq] at hc
  obtain⟨c0,c1,c2⟩:=hc
  obtain⟨C,rfl⟩:∃ C:Nat,c=C:=⟨c.toNat,by omega⟩
  have hy:y=⟨(Lib.repeatL s.data.toList C).toArray⟩:=by
   simp only[cond_true,Int.toNat_natCast] at h
   exact (Option.some.inj h).symm
  subst hy
  have hlen:s.size*C<=140737488355328:=by
   have e:(s.size:Int)*(C:Int)=((s.size*C:Nat):Int):=by simp
   omega
  refine same_ok (.string ⟨(Lib.repeatL s.data.toList C).toArray⟩) rfl (fun _ _ _=>rfl) fun γ F w vals _ hvals=>?_
  match vals,hvals with
  | [a,b],⟨ha,hb,_⟩ =>
   have ha:a=.string s:=ha
   have hb:b=.int .i64 (C:Int):=hb
   subst ha hb
   exact Any.strings_Repeat lays105 extra105 s C w (by omega) hlen
def laysM171_ren:Go.Shelf.Ren:=⟨fun | 171=>162 | 243=>173 | 246=>181 | 283=>191 | 284=>192 | 285=>193 | 286=>194 | 129=>198 | 317=>197 | 318=>199 | 319=>200 | 320=>201 | 337=>203 | 338=>204 | n=>n,fun | 3=>3 | 9=>9 | 2=>2 | 4=>4 | 171=>238 | 0=>0 | 53=>232 | 37=>155 | 5=>5 | 173=>241 | 212=>248 | 51=>229 | 20=>20 | 213=>249 | 46=>216 | 232=>252 | 233=>253 | n=>n,fun | 17=>3 | 18=>4 | 19=>5 | n=>n⟩
theorem laysM171:Go.Proofs.LaysM.n171 Tryz.prog laysM171_ren:={
 mixed:=by kernel_rfl
 f129:=Tryz.func198.trans (congrArg some (by kernel_rfl))
 f171:=Tryz.func162.trans (congrArg some (by kernel_rfl))
 f243:=Tryz.func173.trans (congrArg some (by kernel_rfl))
 f246:=Tryz.func181.trans (congrArg some (by kernel_rfl))
 f283:=Tryz.func191.trans (congrArg some (by kernel_rfl))
 f284:=Tryz.func192.trans (congrArg some (by kernel_rfl))
 f285:=Tryz.func193.trans (congrArg some (by kernel_rfl))
 f286:=Tryz.func194.trans (congrArg some (by kernel_rfl))
 f317:=Tryz.func197.trans (congrArg some (by kernel_rfl))
 f318:=Tryz.func199.trans (congrArg some (by kernel_rfl))
 f319:=Tryz.func200.trans (congrArg some (by kernel_rfl))
 f320:=Tryz.func201.trans (congrArg some (by kernel_rfl))
 f337:=Tryz.func203.trans (congrArg some (by kernel_rfl))
 f338:=Tryz.func204.trans (congrArg some (by kernel_rfl))
 t0:=Tryz.underlying0
 a0:=Tryz.isAgg0
 z0:=Tryz.sizeOf0
 v0:=Tryz.zeroValue0
 t2:=Tryz.underlying2
 a2:=Tryz.isAgg2
 z2:=Tryz.sizeOf2
 v2:=Tryz.zeroValue2
 t3:=Tryz.underlying3
 a3:=Tryz.isAgg3
 z3:=Tryz.sizeOf3
 v3:=Tryz.zeroValue3
 t4:=Tryz.underlying4
 a4:=Tryz.isAgg4
 z4:=Tryz.sizeOf4
 v4:=Tryz.zeroValue4
 t5:=Tryz.underlying5
 a5:=Tryz.isAgg5
 z5:=Tryz.sizeOf5
 v5:=Tryz.zeroValue5
 t9:=Tryz.underlying9
 a9:=Tryz.isAgg9
 z9:=Tryz.sizeOf9
 v9:=Tryz.zeroValue9
 t20:=Tryz.underlying20
 a20:=Tryz.isAgg20
 z20:=Tryz.sizeOf20
 v20:=Tryz.zeroValue20
 t37:=Tryz.underlying155
 a37:=Tryz.isAgg155
 z37:=Tryz.sizeOf155
 v37:=Tryz.zeroValue155
 t46:=Tryz.underlying216
 a46:=Tryz.isAgg216
 z46:=Tryz.sizeOf216
 v46:=Tryz.zeroValue216
 t51:=Tryz.underlying229
 a51:=Tryz.isAgg229
 z51:=Tryz.sizeOf229
 v51:=Tryz.zeroValue229
 t53:=Tryz.underlying232
 a53:=Tryz.isAgg232
 z53:=Tryz.sizeOf232
 v53:=Tryz.zeroValue232
 t171:=Tryz.underlying238
 a171:=Tryz.isAgg238
 z171:=Tryz.sizeOf238
 v171:=Tryz.zeroValue238
 t173:=Tryz.underlying241
 a173:=Tryz.isAgg241
 z173:=Tryz.sizeOf241
 v173:=Tryz.zeroValue241
 t212:=Tryz.underlying248
 a212:=Tryz.isAgg248
 z212:=Tryz.sizeOf248
 v212:=Tryz.zeroValue248
 t213:=Tryz.underlying249
 a213:=Tryz.isAgg249
 z213:=Tryz.sizeOf249
 t232:=Tryz.underlying252
 a232:=Tryz.isAgg252
 z232:=Tryz.sizeOf252
 v232:=Tryz.zeroValue252
 t233:=Tryz.underlying253
 a233:=Tryz.isAgg253
 z233:=Tryz.sizeOf253
 v233:=Tryz.zeroValue253
 g17:=by kernel_rfl
 g18:=by kernel_rfl
 g19:=by kernel_rfl
 i0:=by kernel_rfl
 i2:=by kernel_rfl
 i3:=by kernel_rfl
 i4:=by kernel_rfl
 i5:=by kernel_rfl
 i9:=by kernel_rfl
 i20:=by kernel_rfl
 i37:=by kernel_rfl
 i46:=by kernel_rfl
 i51:=by kernel_rfl
 i53:=by kernel_rfl
 i171:=by kernel_rfl
 i173:=by kernel_rfl
 i212:=by kernel_rfl
 i232:=by kernel_rfl
 i233:=by kernel_rfl
 m17:=by kernel_rfl
 m18:=by kernel_rfl
 m19:=by kernel_rfl }
def f862F (k:Nat)(x:Int):Option ByteArray :=
 bif decide (-9223372036854775808<=x)&&decide (x<=9223372036854775807) then some ⟨(Lib.itoa x).toArray⟩ else none
theorem f862B:HasBody Go.Proofs.Tryz.prog 162:=⟨Go.Proofs.Tryz.f162,Go.Proofs.Tryz.func162,by kernel_rfl,by kernel_rfl⟩
theorem f862Ok (k:Nat)(x:Int)(y:ByteArray)(h:f862F k x=some y):FnOk Go.Proofs.Tryz.prog 162 [.dat (.int .i64)] [.dat .str] x y:=by
 unfold f862F at h
 cases hc:(decide (-9223372036854775808<=x)&&decide (x<=9223372036854775807)) with
 | false=>rw[hc] at h;cases h
 | true =>
  rw[hc] at h
  cases h
  simp only[Bool.and_eq_true,decide_eq_true_eq] at hc
  refine same_ok (.string ⟨(Lib.itoa x).toArray⟩) rfl (fun _ _ _=>rfl) fun γ F w vals hF hvals=>?_
  match vals,hvals with
  | [a],⟨ha,_⟩ =>
   have ha:a=.int .i64 x:=ha
   subst ha
   have htab : Lib.TabIs Go.Proofs.Tryz.prog w "internal/strconv.uint64pow10" .u64 Lib.pow10Tab := by
    obtain⟨_,t,fz,e⟩:=hF.gnd.1 (3,(Lib.pow10Tab.map fun z=>Value.int .u64 z).toArray) (List.mem_singleton.2 rfl)
    have hg : Go.Proofs.Tryz.prog.globalNamed "internal/strconv.uint64pow10" = some 3 := by kernel_rfl
    have e:w.heap[3]?=some (.cells (Lib.pow10Tab.map fun z=>Value.int .u64 z).toArray t fz):=e
    unfold Lib.TabIs World.var?
    rw[hg]
    show (match w.heap[3]? with | some (.cells cs _ _)=>some cs | _=>none)=_
    rw[e]
   have hr:=Any.strconv_Itoa laysM171 x hc.1 hc.2 w htab
   refine (show Calls Go.Proofs.Tryz.prog 162 #[.int .i64 x] w _ from hr).mono fun e w' ⟨he,n,os,hw⟩=>?_
   subst hw
   exact⟨he,rfl,rfl,rfl,by simp,fun b hb=>Array.getElem?_append_left hb⟩
def lays169_ren:Go.Shelf.Ren:=⟨fun | 169=>127 | n=>n,fun | 70=>165 | 9=>9 | 0=>0 | 72=>167 | 37=>155 | 127=>190 | 3=>3 | 5=>5 | n=>n,fun | n=>n⟩
theorem lays169:Go.Proofs.Lays.n169 Tryz.prog lays169_ren:={
 mixed:=by kernel_rfl
 f169:=Tryz.func127.trans (congrArg some (by kernel_rfl))
 t0:=Tryz.underlying0
 a0:=Tryz.isAgg0
 z0:=Tryz.sizeOf0
 v0:=Tryz.zeroValue0
 t3:=Tryz.underlying3
 a3:=Tryz.isAgg3
 z3:=Tryz.sizeOf3
 v3:=Tryz.zeroValue3
 t9:=Tryz.underlying9
 a9:=Tryz.isAgg9
 z9:=Tryz.sizeOf9
 v9:=Tryz.zeroValue9
 t37:=Tryz.underlying155
 a37:=Tryz.isAgg155
 z37:=Tryz.sizeOf155
 v37:=Tryz.zeroValue155
 t70:=Tryz.underlying165
 a70:=Tryz.isAgg165
 z70:=Tryz.sizeOf165
 v70:=Tryz.zeroValue165
 t72:=Tryz.underlying167
 a72:=Tryz.isAgg167
 z72:=Tryz.sizeOf167
 v72:=Tryz.zeroValue167
 t127:=Tryz.underlying190
 a127:=Tryz.isAgg190
 z127:=Tryz.sizeOf190
 v127:=Tryz.zeroValue190 }
theorem extra169:Builder.Extra Tryz.prog lays169_ren:={
 sizeBuilder:=by kernel_rfl
 liesBuilder:=by kernel_rfl
 t5:=Tryz.underlying5
 a5:=Tryz.isAgg5
 z5:=Tryz.sizeOf5
 v5:=Tryz.zeroValue5
 infoByte:=by kernel_rfl
 cellsByte:=by kernel_rfl
 sizeByte:=by kernel_rfl
 neB5:=by decide }
def bcE:List AV->Store->Res:=copyCheckE 167
theorem bc_ok:EntOk Go.Proofs.Tryz.prog 141 bcE:=copyCheck_ok (ρ:=lays105_ren) { lays105 with } extra105.toX72
def bsE:List AV->Store->Res:=bldStringE 167 5
theorem bs_ok:EntOk Go.Proofs.Tryz.prog 127 bsE:=bldString_ok (ρ:=lays169_ren) lays169 extra169
def clr98:Go.Shelf.Ren:=⟨fun | 41=>98 | n=>n,fun | 22=>23 | 23=>69 | 4=>4 | n=>n,fun n=>n⟩
theorem cll98:SlLaysE0.n41 Go.Proofs.Tryz.prog clr98:={
 mixed:=by kernel_rfl
 f41:=⟨Go.Proofs.Tryz.f98.name,by kernel_rfl,Go.Proofs.Tryz.func98.trans (congrArg some (by kernel_rfl))⟩
 t4:=Go.Proofs.Tryz.underlying4
 a4:=Go.Proofs.Tryz.isAgg4
 z4:=Go.Proofs.Tryz.sizeOf4
 v4:=Go.Proofs.Tryz.zeroValue4
 t22:=Go.Proofs.Tryz.underlying23
 a22:=Go.Proofs.Tryz.isAgg23
 z22:=Go.Proofs.Tryz.sizeOf23
 v22:=Go.Proofs.Tryz.zeroValue23 }
def f798F (k:Nat)(x:List (ByteArray×(Int×(Bool×(Int×(List (Int×(Int×(ByteArray×(ByteArray×(ByteArray×(Bool×(Bool×Int))))))))))))):Option (List (ByteArray×(Int×(Bool×(Int×(List (Int×(Int×(ByteArray×(ByteArray×(ByteArray×(Bool×(Bool×Int))))))))))))):=cloneF (ByteArray×(Int×(Bool×(Int×(List (Int×(Int×(ByteArray×(ByteArray×(ByteArray×(Bool×(Bool×Int)))))))))))) 64 x
theorem f798B:HasBody Go.Proofs.Tryz.prog 98:=⟨Go.Proofs.Tryz.f98,Go.Proofs.Tryz.func98,by kernel_rfl,by kernel_rfl⟩
theorem f798Ok (k:Nat)(x y:List (ByteArray×(Int×(Bool×(Int×(List (Int×(Int×(ByteArray×(ByteArray×(ByteArray×(Bool×(Bool×Int)))))))))))))(h:f798F k x=some y):FnOk Go.Proofs.Tryz.prog 98 [.dat (.slice (.pair .str (.pair (.int .i64) (.pair .bool (.pair (.int .i64) (.slice (.pair (.int .i64) (.pair (.int .i64) (.pair .str (.pair .str (.pair .str (.pair .bool (.pair .bool (.int .i64))))))))))))))] [.own 69 (.pair .str (.pair (.int .i64) (.pair .bool (.pair (.int .i64) (.slice (.pair (.int .i64) (.pair (.int .i64) (.pair .str (.pair .str (.pair .str (.pair .bool (.pair .bool (.int .i64)))))))))))))] x y :=
 clone_ok cll98 (e:=(.pair .str (.pair (.int .i64) (.pair .bool (.pair (.int .i64) (.slice (.pair (.int .i64) (.pair (.int .i64) (.pair .str (.pair .str (.pair .str (.pair .bool (.pair .bool (.int .i64)))))))))))))) (i0:=Go.Proofs.Tryz.t69) (z:=(Go.Proofs.Tryz.t69.zero).getD (.bool false)) (bytes:=64) (by kernel_rfl) (by kernel_rfl) (by kernel_rfl) (by kernel_rfl) (by kernel_rfl) Go.Proofs.Tryz.sizeOf69 x y h
def clr99:Go.Shelf.Ren:=⟨fun | 41=>99 | n=>n,fun | 22=>67 | 23=>42 | 4=>4 | n=>n,fun n=>n⟩
theorem cll99:SlLaysE0.n41 Go.Proofs.Tryz.prog clr99:={
 mixed:=by kernel_rfl
 f41:=⟨Go.Proofs.Tryz.f99.name,by kernel_rfl,Go.Proofs.Tryz.func99.trans (congrArg some (by kernel_rfl))⟩
 t4:=Go.Proofs.Tryz.underlying4
 a4:=Go.Proofs.Tryz.isAgg4
 z4:=Go.Proofs.Tryz.sizeOf4
 v4:=Go.Proofs.Tryz.zeroValue4
 t22:=Go.Proofs.Tryz.underlying67
 a22:=Go.Proofs.Tryz.isAgg67
 z22:=Go.Proofs.Tryz.sizeOf67
 v22:=Go.Proofs.Tryz.zeroValue67 }
def f799F (k:Nat)(x:List (Int×(Int×(ByteArray×(ByteArray×(ByteArray×(Bool×(Bool×Int)))))))):Option (List (Int×(Int×(ByteArray×(ByteArray×(ByteArray×(Bool×(Bool×Int)))))))):=cloneF (Int×(Int×(ByteArray×(ByteArray×(ByteArray×(Bool×(Bool×Int))))))) 80 x
theorem f799B:HasBody Go.Proofs.Tryz.prog 99:=⟨Go.Proofs.Tryz.f99,Go.Proofs.Tryz.func99,by kernel_rfl,by kernel_rfl⟩
theorem f799Ok (k:Nat)(x y:List (Int×(Int×(ByteArray×(ByteArray×(ByteArray×(Bool×(Bool×Int))))))))(h:f799F k x=some y):FnOk Go.Proofs.Tryz.prog 99 [.dat (.slice (.pair (.int .i64) (.pair (.int .i64) (.pair .str (.pair .str (.pair .str (.pair .bool (.pair .bool (.int .i64)))))))))] [.own 42 (.pair (.int .i64) (.pair (.int .i64) (.pair .str (.pair .str (.pair .str (.pair .bool (.pair .bool (.int .i64))))))))] x y :=
 clone_ok cll99 (e:=(.pair (.int .i64) (.pair (.int .i64) (.pair .str (.pair .str (.pair .str (.pair .bool (.pair .bool (.int .i64))))))))) (i0:=Go.Proofs.Tryz.t42) (z:=(Go.Proofs.Tryz.t42.zero).getD (.bool false)) (bytes:=80) (by kernel_rfl) (by kernel_rfl) (by kernel_rfl) (by kernel_rfl) (by kernel_rfl) Go.Proofs.Tryz.sizeOf42 x y h
end Go.Proofs.YthcmomgkfjjajaaGreatDoor
