import Derived.Test.YteadgfclfopccaaGreatDoorFaJ
import Derived.Test.YteadgfclfopccaaGreatDoorProg
import Derived.Test.YteadgfclfopccaaGreatDoorSI
import Derived.Test.YteadgfclfopccaaGreatDoorSK
set_option linter.unusedVariables false
set_option maxRecDepth 100000
namespace Go.Proofs.YteadgfclfopccaaGreatDoor
open Go.Ab
noncomputable def f1025T (k:Nat):TB P:=TB.nil |>.u (f969Ok k) |>.u (f968Ok k) |>.u (f966Ok k)
noncomputable def f1025F (k:Nat)(x:(Int×(Int×D70))):Option (Int) :=
 bif (decide (x.1≥(1:Int))) then
  bif (decide (x.2.1≥(1:Int))) then
   bif (decide (x.1<(1920:Int))) then
    Option.bind (f968F k ((!(decide (x.2.1<=(IntKind.i64.wrap ((1920:Int) - x.1))))),(3:Int))) fun y1 =>
    Option.bind (f969F k (x.2.2.1,(0:Int),(15:Int))) fun y2 =>
    Option.bind (f968F k ((!y2),(3:Int))) fun y3 =>
    bif x.2.2.2.2.2 then
     Option.bind (f968F k ((!x.2.2.2.1),(5:Int))) fun y4 =>
     Option.bind (f966F k [y1,y3,y4]) fun y5 =>
     some y5
    else
    bif x.2.2.2.2.1 then
     Option.bind (f968F k ((!x.2.2.2.1),(5:Int))) fun y6 =>
     Option.bind (f966F k [y1,y3,y6]) fun y7 =>
     some y7
    else
    Option.bind (f968F k (false,(5:Int))) fun y8 =>
    Option.bind (f966F k [y1,y3,y8]) fun y9 =>
    some y9
   else
   Option.bind (f968F k (true,(3:Int))) fun y10 =>
   Option.bind (f969F k (x.2.2.1,(0:Int),(15:Int))) fun y11 =>
   Option.bind (f968F k ((!y11),(3:Int))) fun y12 =>
   bif x.2.2.2.2.2 then
    Option.bind (f968F k ((!x.2.2.2.1),(5:Int))) fun y13 =>
    Option.bind (f966F k [y10,y12,y13]) fun y14 =>
    some y14
   else
   bif x.2.2.2.2.1 then
    Option.bind (f968F k ((!x.2.2.2.1),(5:Int))) fun y15 =>
    Option.bind (f966F k [y10,y12,y15]) fun y16 =>
    some y16
   else
   Option.bind (f968F k (false,(5:Int))) fun y17 =>
   Option.bind (f966F k [y10,y12,y17]) fun y18 =>
   some y18
  else
  Option.bind (f968F k (true,(3:Int))) fun y19 =>
  Option.bind (f969F k (x.2.2.1,(0:Int),(15:Int))) fun y20 =>
  Option.bind (f968F k ((!y20),(3:Int))) fun y21 =>
  bif x.2.2.2.2.2 then
   Option.bind (f968F k ((!x.2.2.2.1),(5:Int))) fun y22 =>
   Option.bind (f966F k [y19,y21,y22]) fun y23 =>
   some y23
  else
  bif x.2.2.2.2.1 then
   Option.bind (f968F k ((!x.2.2.2.1),(5:Int))) fun y24 =>
   Option.bind (f966F k [y19,y21,y24]) fun y25 =>
   some y25
  else
  Option.bind (f968F k (false,(5:Int))) fun y26 =>
  Option.bind (f966F k [y19,y21,y26]) fun y27 =>
  some y27
 else
 Option.bind (f968F k (true,(3:Int))) fun y28 =>
 Option.bind (f969F k (x.2.2.1,(0:Int),(15:Int))) fun y29 =>
 Option.bind (f968F k ((!y29),(3:Int))) fun y30 =>
 bif x.2.2.2.2.2 then
  Option.bind (f968F k ((!x.2.2.2.1),(5:Int))) fun y31 =>
  Option.bind (f966F k [y28,y30,y31]) fun y32 =>
  some y32
 else
 bif x.2.2.2.2.1 then
  Option.bind (f968F k ((!x.2.2.2.1),(5:Int))) fun y33 =>
  Option.bind (f966F k [y28,y30,y33]) fun y34 =>
  some y34
 else
 Option.bind (f968F k (false,(5:Int))) fun y35 =>
 Option.bind (f966F k [y28,y30,y35]) fun y36 =>
 some y36
theorem f1025Ok (k:Nat):FnV P 125 [.agg (.pair (.int .i64) Y9)] [.dat (.int .i64)] (f1025F k) :=
 fs tm (f1025T k) Tryz.func125 (by kernel_rfl) SumsOk.nil none fun _=>by kernel_rfl
noncomputable def f1017F (k:Nat)(x:(Int×(Int×D70))):Option (Int) :=
 some (IntKind.i64.wrap (x.1+x.2.1))
theorem f1017Ok (k:Nat):FnV P 117 [.agg (.pair (.int .i64) Y9)] [.dat (.int .i64)] (f1017F k) :=
 fs tm TB.nil Tryz.func117 (by kernel_rfl) SumsOk.nil none fun _=>by kernel_rfl
noncomputable def f958T (k:Nat):TB P:=TB.nil |>.u (f1025Ok k) |>.u (f1024Ok k) |>.u (f1017Ok k) |>.u (f969Ok k) |>.u (f968Ok k) |>.u (f966Ok k)
noncomputable def f958p0 {R:Type}(k:Nat)(k0:D71->Option R)(k1:D72->Option R)(v:D72):Option R :=
 bif ((decide ((0:Int)<=v.2.2.1))&&(decide (v.2.2.1<(v.1.length:Int)))) then
 let t5:=(v.1.getD (Int.toNat v.2.2.1) ((0:Int),((0:Int),((0:Int),(false,(false,false))))))
 Option.bind (f1025F k (t5.1,(t5.2.1,(t5.2.2.1,(t5.2.2.2.1,(t5.2.2.2.2.1,t5.2.2.2.2.2)))))) fun y6 =>
 bif (decide (v.2.2.1 > (0:Int))) then
  bif ((decide ((0:Int)<=(mxI (IntKind.i64.wrap (v.2.2.1 - (1:Int))) (0:Int))))&&(decide ((mxI (IntKind.i64.wrap (v.2.2.1 - (1:Int))) (0:Int))<(v.2.2.2.2.1.length:Int)))) then
  let t7:=(v.2.2.2.2.1.getD (Int.toNat (mxI (IntKind.i64.wrap (v.2.2.1 - (1:Int))) (0:Int))) ((0:Int),((0:Int),((0:Int),(false,(false,false))))))
  Option.bind (f1017F k (t7.1,(t7.2.1,(t7.2.2.1,(t7.2.2.2.1,(t7.2.2.2.2.1,t7.2.2.2.2.2)))))) fun y8 =>
  Option.bind (f968F k ((decide (t5.1<=y8)),(14:Int))) fun y9 =>
  Option.bind (f966F k [y6,y9]) fun y10 =>
  bif (y10 !=(0:Int)) then
   k0 (v.2.2.1,y10,v.1,v.2.1,v.2.2.1,v.2.2.2.1,v.2.2.2.2.1,v.2.2.2.2.2.1,())
  else
  k1 (v.1,v.2.1,v.2.2.1,v.2.2.2.1,v.2.2.2.2.1,v.2.2.2.2.2.1,())
  else none
 else
 Option.bind (f968F k (false,(14:Int))) fun y11 =>
 Option.bind (f966F k [y6,y11]) fun y12 =>
 bif (y12 !=(0:Int)) then
  k0 (v.2.2.1,y12,v.1,v.2.1,v.2.2.1,v.2.2.2.1,v.2.2.2.2.1,v.2.2.2.2.2.1,())
 else
 k1 (v.1,v.2.1,v.2.2.1,v.2.2.2.1,v.2.2.2.2.1,v.2.2.2.2.2.1,())
 else none
noncomputable def f958p0S (k:Nat):=partSum ⟨[(1,.one (.ptr 0 0)),(24,.one (.ro (.pair (.int .i64) Y9))),(25,.one (.int .i64)),(26,.one (.int .i64))],[(0,.var 77 [.str,.ro (.pair (.int .i64) Y9),.int .i64])],1,[]⟩ ⟨[1,24,25,26],[],[]⟩ fun R K v=>f958p0 k (fun w=>K .ret (encSt ⟨[(1,.one (.ptr 0 0)),(2,.one (.int .i64)),(3,.one (.int .i64)),(24,.one (.ro (.pair (.int .i64) Y9))),(25,.one (.int .i64)),(26,.one (.int .i64))],[(0,.var 77 [.str,.ro (.pair (.int .i64) Y9),.int .i64])],1,[]⟩ w)) (fun w=>K .normal (encSt ⟨[(1,.one (.ptr 0 0)),(24,.one (.ro (.pair (.int .i64) Y9))),(25,.one (.int .i64)),(26,.one (.int .i64))],[(0,.var 77 [.str,.ro (.pair (.int .i64) Y9),.int .i64])],1,[]⟩ w)) v
theorem f958p0O (k:Nat):SumO P Tryz.f58 934 (f958p0S k):=pt tm (f958T k) ⟨[1,2,3,24,25,26],[],[]⟩ SumsOk.nil fun _ _ _=>by kernel_rfl
noncomputable def f958l1s {R:Type}(k:Nat)(rec:D72->Option R)(k0:D73->Option R)(k1:D74->Option R)(v:D72):Option R :=
 bif (decide (v.2.2.1<v.2.1)) then
  f958p0 k
   (fun (w13:D71) =>
    k0 (w13.1,w13.2.1,w13.2.2.2.2.2.1,w13.2.2.2.2.2.2.1,w13.2.2.2.2.2.2.2.1,()))
   (fun (w14:D72) =>
    rec (w14.1,w14.2.1,(IntKind.i64.wrap (w14.2.2.1+(1:Int))),w14.2.2.2.1,w14.2.2.2.2.1,w14.2.2.2.2.2.1,()))
   (v.1,v.2.1,v.2.2.1,v.2.2.2.1,v.2.2.2.2.1,v.2.2.2.2.2.1,())
 else
 k1 (v.2.2.2.1,v.2.2.2.2.1,v.2.2.2.2.2.1,())
noncomputable def f958l1 {R:Type}(k:Nat)(k0:D73->Option R)(k1:D74->Option R)(v:D72):Option R:=iterS (fun rec v=>f958l1s k rec k0 k1 v) k v
noncomputable def f958l1S (k:Nat):=loopSum ⟨[(1,.one (.ptr 0 0)),(24,.one (.ro (.pair (.int .i64) Y9))),(25,.one (.int .i64)),(26,.one (.int .i64))],[(0,.var 77 [.str,.ro (.pair (.int .i64) Y9),.int .i64])],1,[]⟩ ⟨[1,24,25,26],[],[]⟩ k fun R rec K v=>f958l1s k rec (fun w=>K .ret (encSt ⟨[(1,.one (.ptr 0 0)),(2,.one (.int .i64)),(3,.one (.int .i64))],[(0,.var 77 [.str,.ro (.pair (.int .i64) Y9),.int .i64])],1,[]⟩ w)) (fun w=>K (.exit 0) (encSt ⟨[(1,.one (.ptr 0 0))],[(0,.var 77 [.str,.ro (.pair (.int .i64) Y9),.int .i64])],1,[]⟩ w)) v
theorem f958l1O (k:Nat):SumO P Tryz.f58 58 (f958l1S k):=lp tm (f958T k) ⟨[1,2,3],[],[]⟩ (SumsOk.nil |>.s (f958p0O k) (by kernel_rfl)) (by kernel_rfl) fun _ _ _ _=>by kernel_rfl
noncomputable def f958F (k:Nat)(x:(ByteArray×D75)):Option (Int×Int) :=
 Option.bind (f968F k (((x.1.size:Int) !=(1920:Int)),(18:Int))) fun y1 =>
 Option.bind (f1024F k x.1) fun y2 =>
 Option.bind (f968F k ((!y2),(8:Int))) fun y3 =>
 Option.bind (f966F k [y1,y3]) fun y4 =>
 bif (y4 !=(0:Int)) then
  some ((0:Int),y4)
 else
 f958l1 k
  (fun (w15:D73) =>
   some (w15.1,w15.2.1))
  (fun (w16:D74) =>
   Option.bind (f969F k (w16.2.2.1,(0:Int),(1919:Int))) fun y17 =>
   Option.bind (f968F k ((!y17),(3:Int))) fun y18 =>
   some ((0:Int),y18))
  (x.2.1,(x.2.1.length:Int),(0:Int),x.1,x.2.1,x.2.2,())
theorem f958Ok (k:Nat):FnV P 58 [.agg (.pair .str Y10)] [.dat (.int .i64),.dat (.int .i64)] (f958F k) :=
 fs tm (f958T k) Tryz.func58 (by kernel_rfl) (SumsOk.nil |>.s (f958l1O k) (by kernel_rfl) |>.s (f958p0O k) (by kernel_rfl)) none fun _=>by kernel_rfl
noncomputable def f1005T (k:Nat):TB P:=TB.nil |>.u (f958Ok k)
noncomputable def f1005F (k:Nat)(x:(ByteArray×D75)):Option (Int) :=
 Option.bind (f958F k (x.1,(x.2.1,x.2.2))) fun y1 =>
 some y1.2
theorem f1005Ok (k:Nat):FnV P 105 [.agg (.pair .str Y10)] [.dat (.int .i64)] (f1005F k) :=
 fs tm (f1005T k) Tryz.func105 (by kernel_rfl) SumsOk.nil none fun _=>by kernel_rfl
noncomputable def f955T (k:Nat):TB P:=TB.nil |>.u (f73V k)
noncomputable def f955F (k:Nat)(x:Unit):Option ((ByteArray×D75)) :=
 Option.bind (f73F k ((⟨#[32]⟩:ByteArray),(1920:Int))) fun y1 =>
 some (y1,([],(0:Int)))
theorem f955Ok (k:Nat):FnV P 55 [] [.agg (.pair .str Y10)] (f955F k) :=
 fs tm (f955T k) Tryz.func55 (by kernel_rfl) SumsOk.nil none fun _=>by kernel_rfl
theorem f1012V (k:Nat):FnV P 112 [.dat (.slice (.pair (.int .i64) Y9))] [.own 182 (.pair (.int .i64) Y9)] (f1012F k):=⟨f1012B,f1012Ok k⟩
noncomputable def f1164F (k:Nat)(x:Int):Option (Bool) :=
 some (x !=x)
theorem f1164Ok (k:Nat):FnV P 264 [.dat (.int .i64)] [.dat .bool] (f1164F k) :=
 fs tm TB.nil Tryz.func264 (by kernel_rfl) SumsOk.nil none fun _=>by kernel_rfl
noncomputable def f1142T (k:Nat):TB P:=TB.nil |>.u (f1164Ok k)
noncomputable def f1142F (k:Nat)(x:Int×Int):Option (Int) :=
 Option.bind (f1164F k x.1) fun y1 =>
 Option.bind (f1164F k x.2) fun y2 =>
 bif y1 then
  bif y2 then
   some (0:Int)
  else
  some (-1:Int)
 else
 bif y2 then
  some (1:Int)
 else
 bif (decide (x.1<x.2)) then
  some (-1:Int)
 else
 bif (decide (x.1 > x.2)) then
  some (1:Int)
 else
 some (0:Int)
theorem f1142Ok (k:Nat):FnV P 242 [.dat (.int .i64),.dat (.int .i64)] [.dat (.int .i64)] (f1142F k) :=
 fs tm (f1142T k) Tryz.func242 (by kernel_rfl) SumsOk.nil none fun _=>by kernel_rfl
noncomputable def f1141T (k:Nat):TB P:=TB.nil |>.u (f1142Ok k)
noncomputable def f1141F (k:Nat)(x:D76):Option (Int) :=
 Option.bind (f1142F k (x.1.1,x.2.1)) fun y1 =>
 some y1
theorem f1141Ok (k:Nat):FnV P 241 [.agg (.pair (.int .i64) Y9),.agg (.pair (.int .i64) Y9)] [.dat (.int .i64)] (f1141F k) :=
 fs tm (f1141T k) Tryz.func241 (by kernel_rfl) SumsOk.nil none fun _=>by kernel_rfl
noncomputable def f1045F (k:Nat)(x:Int×Int):Option (Int) :=
 let t1:=(IntKind.i64.wrap ((IntKind.i64.wrap ((IntKind.i64.wrap (x.1 - (1:Int)))*(80:Int)))+x.2))
 some (IntKind.i64.wrap (t1 - (1:Int)))
theorem f1045Ok (k:Nat):FnV P 145 [.dat (.int .i64),.dat (.int .i64)] [.dat (.int .i64)] (f1045F k) :=
 fs tm TB.nil Tryz.func145 (by kernel_rfl) SumsOk.nil none fun _=>by kernel_rfl
noncomputable def f1038T (k:Nat):TB P:=TB.nil |>.u (f1045Ok k) |>.u (f969Ok k)
noncomputable def f1038F (k:Nat)(x:ByteArray×Int):Option (Int×Bool) :=
 bif ((decide ((0:Int)<=x.2))&&(decide (x.2<(x.1.size:Int)))) then
 bif ((decide ((0:Int)<=(IntKind.i64.wrap (x.2+(1:Int)))))&&(decide ((IntKind.i64.wrap (x.2+(1:Int)))<(x.1.size:Int)))) then
 Option.bind (f1045F k ((IntKind.i64.wrap (bt x.1 x.2)),(IntKind.i64.wrap (bt x.1 (IntKind.i64.wrap (x.2+(1:Int))))))) fun y1 =>
 Option.bind (f969F k ((IntKind.i64.wrap (bt x.1 x.2)),(1:Int),(24:Int))) fun y2 =>
 bif y2 then
  Option.bind (f969F k ((IntKind.i64.wrap (bt x.1 (IntKind.i64.wrap (x.2+(1:Int))))),(1:Int),(80:Int))) fun y3 =>
  some (y1,y3)
 else
 some (y1,false)
 else none
 else none
theorem f1038Ok (k:Nat):FnV P 138 [.dat .str,.dat (.int .i64)] [.dat (.int .i64),.dat .bool] (f1038F k) :=
 fs tm (f1038T k) Tryz.func138 (by kernel_rfl) SumsOk.nil none fun _=>by kernel_rfl
noncomputable def f1139v0I:Shape:=⟨[(0,.agg [.int .i64,.int .i64,.int .i64,.bool,.bool,.bool]),(1,.one (.ptr 0 0)),(2,.one (.ptr 1 0))],[(0,.var 3 [.int .i64]),(1,.var 3 [.int .i64])],2,[]⟩
noncomputable def f1139v0U:Shape:=⟨[(0,.one (.bool))],[(0,.var 3 [.int .i64]),(1,.var 3 [.int .i64])],2,[]⟩
noncomputable def f1139v0T (k:Nat):TB P:=TB.nil |>.u (f1017Ok k)
noncomputable def f1139v0F (k:Nat)(x:D77):Option (Bool×Int×Int×Unit) :=
 bif (decide ((IntKind.i64.wrap (x.1 - (1:Int)))<x.2.2.2.2.2.2.1)) then
  Option.bind (f1017F k (x.1,(x.2.1,(x.2.2.1,(x.2.2.2.1,(x.2.2.2.2.1,x.2.2.2.2.2.1)))))) fun y1 =>
  some ((decide (x.2.2.2.2.2.2.2.1<y1)),x.2.2.2.2.2.2.1,x.2.2.2.2.2.2.2.1,())
 else
 some (false,x.2.2.2.2.2.2.1,x.2.2.2.2.2.2.2.1,())
theorem f1139v0Ok (k:Nat):GnV P 239 f1139v0I f1139v0U (f1139v0F k) :=
 gs tm (f1139v0T k) Tryz.func239 (by kernel_rfl) SumsOk.nil [.dat .bool] [] none fun _=>by kernel_rfl
noncomputable def f1163v0I:Shape:=⟨[(0,.one (.own 0)),(1,.one (.fn 239 [1,2]))],[(0,.row 182 (.pair (.int .i64) Y9) .plain),(1,.var 3 [.int .i64]),(2,.var 3 [.int .i64])],3,[]⟩
noncomputable def f1163v0U:Shape:=⟨[(0,.one (.int .i64))],[(0,.row 182 (.pair (.int .i64) Y9) .plain),(1,.var 3 [.int .i64]),(2,.var 3 [.int .i64])],3,[]⟩
noncomputable def f1163v0T (k:Nat):TB P:=TB.nil |>.g (f1139v0Ok k)
noncomputable def f1163v0l0s {R:Type}(k:Nat)(rec:D80->Option R)(k0:D78->Option R)(k1:D79->Option R)(v:D80):Option R :=
 bif (decide (v.2.1<v.1)) then
  bif ((decide ((0:Int)<=v.2.1))&&(decide (v.2.1<(v.2.2.1.length:Int)))) then
  let t1:=(v.2.2.1.getD (Int.toNat v.2.1) ((0:Int),((0:Int),((0:Int),(false,(false,false)))))).1
  let t2:=(v.2.2.1.getD (Int.toNat v.2.1) ((0:Int),((0:Int),((0:Int),(false,(false,false)))))).2.1
  let t3:=(v.2.2.1.getD (Int.toNat v.2.1) ((0:Int),((0:Int),((0:Int),(false,(false,false)))))).2.2.1
  let t4:=(v.2.2.1.getD (Int.toNat v.2.1) ((0:Int),((0:Int),((0:Int),(false,(false,false)))))).2.2.2.1
  let t5:=(v.2.2.1.getD (Int.toNat v.2.1) ((0:Int),((0:Int),((0:Int),(false,(false,false)))))).2.2.2.2.1
  let t6:=(v.2.2.1.getD (Int.toNat v.2.1) ((0:Int),((0:Int),((0:Int),(false,(false,false)))))).2.2.2.2.2
  Option.bind (f1139v0F k (t1,t2,t3,t4,t5,t6,v.2.2.2.1,v.2.2.2.2.1,())) fun y7 =>
  bif y7.1 then
   k0 (v.2.1,v.2.2.1,y7.2.1,y7.2.2.1,())
  else
  rec (v.1,(IntKind.i64.wrap (v.2.1+(1:Int))),v.2.2.1,y7.2.1,y7.2.2.1,())
  else none
 else
 k1 (v.2.2.1,v.2.2.2.1,v.2.2.2.2.1,())
noncomputable def f1163v0l0 {R:Type}(k:Nat)(k0:D78->Option R)(k1:D79->Option R)(v:D80):Option R:=iterS (fun rec v=>f1163v0l0s k rec k0 k1 v) k v
noncomputable def f1163v0l0S (k:Nat):=loopSum ⟨[(0,.one (.own 0)),(1,.one (.fn 239 [1,2])),(7,.one (.int .i64)),(8,.one (.int .i64))],[(0,.row 182 (.pair (.int .i64) Y9) .plain),(1,.var 3 [.int .i64]),(2,.var 3 [.int .i64])],3,[some 0,some 1,some 2]⟩ ⟨[0,1,7,8],[],[]⟩ k fun R rec K v=>f1163v0l0s k rec (fun w=>K .ret (encSt ⟨[(4,.one (.int .i64))],[(0,.row 182 (.pair (.int .i64) Y9) .plain),(1,.var 3 [.int .i64]),(2,.var 3 [.int .i64])],3,[some 0,some 1,some 2]⟩ w)) (fun w=>K (.exit 0) (encSt ⟨[],[(0,.row 182 (.pair (.int .i64) Y9) .plain),(1,.var 3 [.int .i64]),(2,.var 3 [.int .i64])],3,[some 0,some 1,some 2]⟩ w)) v
theorem f1163v0l0O (k:Nat):SumO P Tryz.f263 26 (f1163v0l0S k):=lp tm (f1163v0T k) ⟨[4],[],[]⟩ SumsOk.nil (by kernel_rfl) fun _ _ _ _=>by kernel_rfl
noncomputable def f1163v0F (k:Nat)(x:D79):Option (D78) :=
 f1163v0l0 k
  (fun (w8:D78) =>
   some (w8.1,w8.2.1,w8.2.2.1,w8.2.2.2.1,()))
  (fun (w9:D79) =>
   some ((-1:Int),w9.1,w9.2.1,w9.2.2.1,()))
  ((x.1.length:Int),(0:Int),x.1,x.2.1,x.2.2.1,())
theorem f1163v0Ok (k:Nat):GnV P 263 f1163v0I f1163v0U (f1163v0F k) :=
 gs tm (f1163v0T k) Tryz.func263 (by kernel_rfl) (SumsOk.nil |>.s (f1163v0l0O k) (by kernel_rfl)) [.dat .bool] [] none fun _=>by kernel_rfl
noncomputable def f1138v0I:Shape:=⟨[(0,.one (.own 0)),(1,.one (.fn 239 [1,2]))],[(0,.row 182 (.pair (.int .i64) Y9) .plain),(1,.var 3 [.int .i64]),(2,.var 3 [.int .i64])],3,[]⟩
noncomputable def f1138v0U:Shape:=⟨[(0,.one (.own 3))],[(1,.var 3 [.int .i64]),(2,.var 3 [.int .i64]),(3,.row 182 (.pair (.int .i64) Y9) .plain)],4,[]⟩
noncomputable def f1138v0T (k:Nat):TB P:=TB.nil |>.g (f1163v0Ok k) |>.g (f1139v0Ok k)
noncomputable def f1138v0p0 {R:Type}(k:Nat)(k0:D80->Option R)(v:D80):Option R :=
 bif ((decide ((0:Int)<=v.2.1))&&(decide (v.2.1<(v.2.2.1.length:Int)))) then
 let t2:=(v.2.2.1.getD (Int.toNat v.2.1) ((0:Int),((0:Int),((0:Int),(false,(false,false)))))).1
 let t3:=(v.2.2.1.getD (Int.toNat v.2.1) ((0:Int),((0:Int),((0:Int),(false,(false,false)))))).2.1
 let t4:=(v.2.2.1.getD (Int.toNat v.2.1) ((0:Int),((0:Int),((0:Int),(false,(false,false)))))).2.2.1
 let t5:=(v.2.2.1.getD (Int.toNat v.2.1) ((0:Int),((0:Int),((0:Int),(false,(false,false)))))).2.2.2.1
 let t6:=(v.2.2.1.getD (Int.toNat v.2.1) ((0:Int),((0:Int),((0:Int),(false,(false,false)))))).2.2.2.2.1
 let t7:=(v.2.2.1.getD (Int.toNat v.2.1) ((0:Int),((0:Int),((0:Int),(false,(false,false)))))).2.2.2.2.2
 Option.bind (f1139v0F k (t2,t3,t4,t5,t6,t7,v.2.2.2.1,v.2.2.2.2.1,())) fun y8 =>
 bif (!y8.1) then
  bif ((decide ((0:Int)<=v.1))&&(decide (v.1<(v.2.2.1.length:Int)))) then
  k0 ((IntKind.i64.wrap (v.1+(1:Int))),v.2.1,(v.2.2.1.set (Int.toNat v.1) (t2,(t3,(t4,(t5,(t6,t7)))))),y8.2.1,y8.2.2.1,())
  else none
 else
 k0 (v.1,v.2.1,v.2.2.1,y8.2.1,y8.2.2.1,())
 else none
noncomputable def f1138v0p0S (k:Nat):=partSum ⟨[(0,.one (.own 0)),(1,.one (.fn 239 [1,2])),(5,.one (.int .i64)),(6,.one (.int .i64))],[(0,.row 182 (.pair (.int .i64) Y9) .plain),(1,.var 3 [.int .i64]),(2,.var 3 [.int .i64])],3,[some 0,some 1,some 2]⟩ ⟨[0,1,5,6],[],[]⟩ fun R K v=>f1138v0p0 k (fun w=>K .normal (encSt ⟨[(0,.one (.own 0)),(1,.one (.fn 239 [1,2])),(5,.one (.int .i64)),(6,.one (.int .i64))],[(0,.row 182 (.pair (.int .i64) Y9) .plain),(1,.var 3 [.int .i64]),(2,.var 3 [.int .i64])],3,[some 0,some 1,some 2]⟩ w)) v
theorem f1138v0p0O (k:Nat):SumO P Tryz.f238 978 (f1138v0p0S k):=pt tm (f1138v0T k) ⟨[0,1,4,5,6],[],[]⟩ SumsOk.nil fun _ _ _=>by kernel_rfl
noncomputable def f1138v0l1s {R:Type}(k:Nat)(rec:D80->Option R)(k0:D78->Option R)(v:D80):Option R :=
 bif (decide (v.2.1<(v.2.2.1.length:Int))) then
  f1138v0p0 k
   (fun (w9:D80) =>
    rec (w9.1,(IntKind.i64.wrap (w9.2.1+(1:Int))),w9.2.2.1,w9.2.2.2.1,w9.2.2.2.2.1,()))
   (v.1,v.2.1,v.2.2.1,v.2.2.2.1,v.2.2.2.2.1,())
 else
 k0 (v.1,v.2.2.1,v.2.2.2.1,v.2.2.2.2.1,())
noncomputable def f1138v0l1 {R:Type}(k:Nat)(k0:D78->Option R)(v:D80):Option R:=iterS (fun rec v=>f1138v0l1s k rec k0 v) k v
noncomputable def f1138v0l1S (k:Nat):=loopSum ⟨[(0,.one (.own 0)),(1,.one (.fn 239 [1,2])),(5,.one (.int .i64)),(6,.one (.int .i64))],[(0,.row 182 (.pair (.int .i64) Y9) .plain),(1,.var 3 [.int .i64]),(2,.var 3 [.int .i64])],3,[some 0,some 1,some 2]⟩ ⟨[0,1,5,6],[],[]⟩ k fun R rec K v=>f1138v0l1s k rec (fun w=>K (.exit 0) (encSt ⟨[(0,.one (.own 0)),(5,.one (.int .i64))],[(0,.row 182 (.pair (.int .i64) Y9) .plain),(1,.var 3 [.int .i64]),(2,.var 3 [.int .i64])],3,[some 0,some 1,some 2]⟩ w)) v
theorem f1138v0l1O (k:Nat):SumO P Tryz.f238 122 (f1138v0l1S k):=lp tm (f1138v0T k) ⟨[0,4,5],[],[]⟩ (SumsOk.nil |>.s (f1138v0p0O k) (by kernel_rfl)) (by kernel_rfl) fun _ _ _ _=>by kernel_rfl
noncomputable def f1138v0F (k:Nat)(x:D79):Option (D81) :=
 Option.bind (f1163v0F k (x.1,x.2.1,x.2.2.1,())) fun y1 =>
 bif (y1.1==(-1:Int)) then
  some (y1.2.2.1,y1.2.2.2.1,y1.2.1,())
 else
 f1138v0l1 k
  (fun (w10:D78) =>
   bif (sliceBds w10.1 (w10.2.1.length:Int) (w10.2.1.length:Int)) then
   let t11:=(wrt w10.2.1 (Int.toNat w10.1) (List.replicate (Int.toNat ((w10.2.1.length:Int) - w10.1)) ((0:Int),((0:Int),((0:Int),(false,(false,false)))))))
   bif (sliceBds (0:Int) w10.1 (t11.length:Int)) then
   some (w10.2.2.1,w10.2.2.2.1,(t11.take (Int.toNat w10.1)),())
   else none
   else none)
  (y1.1,(IntKind.i64.wrap (y1.1+(1:Int))),y1.2.1,y1.2.2.1,y1.2.2.2.1,())
theorem f1138v0Ok (k:Nat):GnV P 238 f1138v0I f1138v0U (f1138v0F k) :=
 gs tm (f1138v0T k) Tryz.func238 (by kernel_rfl) (SumsOk.nil |>.s (f1138v0l1O k) (by kernel_rfl) |>.s (f1138v0p0O k) (by kernel_rfl)) [.own 182 (.pair (.int .i64) Y9)] [0] none fun _=>by kernel_rfl
noncomputable def f1140v0I:Shape:=⟨[(0,.one (.own 0)),(1,.agg [.int .i64,.int .i64,.int .i64,.bool,.bool,.bool]),(2,.one (.fn 241 []))],[(0,.row 182 (.pair (.int .i64) Y9) .plain)],1,[]⟩
noncomputable def f1140v0U:Shape:=⟨[(0,.one (.int .i64)),(1,.one (.bool))],[(0,.row 182 (.pair (.int .i64) Y9) .plain)],1,[]⟩
noncomputable def f1140v0T (k:Nat):TB P:=TB.nil |>.u (f1141Ok k)
noncomputable def f1140v0l0s {R:Type}(k:Nat)(rec:D83->Option R)(k0:D82->Option R)(v:D83):Option R :=
 bif (decide (v.2.1<v.2.2.1)) then
  let t1:=(shrI .u64 (IntKind.u64.wrap (IntKind.i64.wrap (v.2.1+v.2.2.1))) (1:Int))
  bif ((decide ((0:Int)<=(IntKind.i64.wrap t1)))&&(decide ((IntKind.i64.wrap t1)<(v.2.2.2.1.length:Int)))) then
  let t2:=(v.2.2.2.1.getD (Int.toNat (IntKind.i64.wrap t1)) ((0:Int),((0:Int),((0:Int),(false,(false,false)))))).1
  let t3:=(v.2.2.2.1.getD (Int.toNat (IntKind.i64.wrap t1)) ((0:Int),((0:Int),((0:Int),(false,(false,false)))))).2.1
  let t4:=(v.2.2.2.1.getD (Int.toNat (IntKind.i64.wrap t1)) ((0:Int),((0:Int),((0:Int),(false,(false,false)))))).2.2.1
  let t5:=(v.2.2.2.1.getD (Int.toNat (IntKind.i64.wrap t1)) ((0:Int),((0:Int),((0:Int),(false,(false,false)))))).2.2.2.1
  let t6:=(v.2.2.2.1.getD (Int.toNat (IntKind.i64.wrap t1)) ((0:Int),((0:Int),((0:Int),(false,(false,false)))))).2.2.2.2.1
  let t7:=(v.2.2.2.1.getD (Int.toNat (IntKind.i64.wrap t1)) ((0:Int),((0:Int),((0:Int),(false,(false,false)))))).2.2.2.2.2
  Option.bind (f1141F k ((t2,(t3,(t4,(t5,(t6,t7))))),(v.2.2.2.2.1,(v.2.2.2.2.2.1,(v.2.2.2.2.2.2.1,(v.2.2.2.2.2.2.2.1,(v.2.2.2.2.2.2.2.2.1,v.2.2.2.2.2.2.2.2.2.1))))))) fun y8 =>
  bif (decide (y8<(0:Int))) then
   rec (v.1,(IntKind.i64.wrap ((IntKind.i64.wrap t1)+(1:Int))),v.2.2.1,v.2.2.2.1,v.2.2.2.2.1,v.2.2.2.2.2.1,v.2.2.2.2.2.2.1,v.2.2.2.2.2.2.2.1,v.2.2.2.2.2.2.2.2.1,v.2.2.2.2.2.2.2.2.2.1,())
  else
  rec (v.1,v.2.1,(IntKind.i64.wrap t1),v.2.2.2.1,v.2.2.2.2.1,v.2.2.2.2.2.1,v.2.2.2.2.2.2.1,v.2.2.2.2.2.2.2.1,v.2.2.2.2.2.2.2.2.1,v.2.2.2.2.2.2.2.2.2.1,())
  else none
 else
 k0 (v.1,v.2.1,v.2.2.2.1,v.2.2.2.2.1,v.2.2.2.2.2.1,v.2.2.2.2.2.2.1,v.2.2.2.2.2.2.2.1,v.2.2.2.2.2.2.2.2.1,v.2.2.2.2.2.2.2.2.2.1,())
noncomputable def f1140v0l0 {R:Type}(k:Nat)(k0:D82->Option R)(v:D83):Option R:=iterS (fun rec v=>f1140v0l0s k rec k0 v) k v
noncomputable def f1140v0l0S (k:Nat):=loopSum ⟨[(0,.one (.own 0)),(2,.one (.fn 241 [])),(4,.one (.ptr 1 0)),(8,.one (.int .i64)),(9,.one (.int .i64)),(10,.one (.int .i64))],[(0,.row 182 (.pair (.int .i64) Y9) .plain),(1,.var 182 [.int .i64,.int .i64,.int .i64,.bool,.bool,.bool])],2,[some 0]⟩ ⟨[0,2,4,8,9,10],[],[]⟩ k fun R rec K v=>f1140v0l0s k rec (fun w=>K (.exit 0) (encSt ⟨[(0,.one (.own 0)),(2,.one (.fn 241 [])),(4,.one (.ptr 1 0)),(8,.one (.int .i64)),(9,.one (.int .i64))],[(0,.row 182 (.pair (.int .i64) Y9) .plain),(1,.var 182 [.int .i64,.int .i64,.int .i64,.bool,.bool,.bool])],2,[some 0]⟩ w)) v
theorem f1140v0l0O (k:Nat):SumO P Tryz.f240 60 (f1140v0l0S k):=lp tm (f1140v0T k) ⟨[0,2,4,6,7,8,9],[],[]⟩ SumsOk.nil (by kernel_rfl) fun _ _ _ _=>by kernel_rfl
noncomputable def f1140v0F (k:Nat)(x:D85):Option (D84) :=
 f1140v0l0 k
  (fun (w9:D82) =>
   bif (decide (w9.2.1<w9.1)) then
    bif ((decide ((0:Int)<=w9.2.1))&&(decide (w9.2.1<(w9.2.2.1.length:Int)))) then
    let t10:=(w9.2.2.1.getD (Int.toNat w9.2.1) ((0:Int),((0:Int),((0:Int),(false,(false,false)))))).1
    let t11:=(w9.2.2.1.getD (Int.toNat w9.2.1) ((0:Int),((0:Int),((0:Int),(false,(false,false)))))).2.1
    let t12:=(w9.2.2.1.getD (Int.toNat w9.2.1) ((0:Int),((0:Int),((0:Int),(false,(false,false)))))).2.2.1
    let t13:=(w9.2.2.1.getD (Int.toNat w9.2.1) ((0:Int),((0:Int),((0:Int),(false,(false,false)))))).2.2.2.1
    let t14:=(w9.2.2.1.getD (Int.toNat w9.2.1) ((0:Int),((0:Int),((0:Int),(false,(false,false)))))).2.2.2.2.1
    let t15:=(w9.2.2.1.getD (Int.toNat w9.2.1) ((0:Int),((0:Int),((0:Int),(false,(false,false)))))).2.2.2.2.2
    Option.bind (f1141F k ((t10,(t11,(t12,(t13,(t14,t15))))),(w9.2.2.2.1,(w9.2.2.2.2.1,(w9.2.2.2.2.2.1,(w9.2.2.2.2.2.2.1,(w9.2.2.2.2.2.2.2.1,w9.2.2.2.2.2.2.2.2.1))))))) fun y16 =>
    some (w9.2.1,(y16==(0:Int)),w9.2.2.1,())
    else none
   else
   some (w9.2.1,false,w9.2.2.1,()))
  ((x.2.2.2.2.2.2.1.length:Int),(0:Int),(x.2.2.2.2.2.2.1.length:Int),x.2.2.2.2.2.2.1,x.1,x.2.1,x.2.2.1,x.2.2.2.1,x.2.2.2.2.1,x.2.2.2.2.2.1,())
theorem f1140v0Ok (k:Nat):GnV P 240 f1140v0I f1140v0U (f1140v0F k) :=
 gs tm (f1140v0T k) Tryz.func240 (by kernel_rfl) (SumsOk.nil |>.s (f1140v0l0O k) (by kernel_rfl)) [.dat .bool,.dat .bool] [] none fun _=>by kernel_rfl
noncomputable def f1107v0I:Shape:=⟨[(0,.one (.ptr 0 0)),(1,.agg [.int .i64,.int .i64,.int .i64,.bool,.bool,.bool]),(2,.one (.str))],[(0,.var 175 [.str,.ro (.pair (.int .i64) Y9),.int .i64,.str,.int .i64,.int .i64])],1,[]⟩
noncomputable def f1107v0U:Shape:=⟨[],[(0,.var 175 [.str,.own 1,.int .i64,.str,.int .i64,.int .i64]),(1,.row 182 (.pair (.int .i64) Y9) .plain)],2,[]⟩
noncomputable def f1107v0T (k:Nat):TB P:=TB.nil |>.h Tryz.func243 (by kernel_rfl) si_ok |>.g (f1140v0Ok k) |>.g (f1138v0Ok k) |>.u (f1017Ok k) |>.u (f1012V k)
noncomputable def f1107v0F (k:Nat)(x:D87):Option (D86) :=
 Option.bind (f1017F k (x.1,(x.2.1,(x.2.2.1,(x.2.2.2.1,(x.2.2.2.2.1,x.2.2.2.2.2.1)))))) fun y1 =>
 bif (sliceBds (0:Int) (IntKind.i64.wrap (x.1 - (1:Int))) (x.2.2.2.2.2.2.2.1.size:Int)) then
 let t2:=(x.2.2.2.2.2.2.2.1.extract 0 (Int.toNat (IntKind.i64.wrap (x.1 - (1:Int)))))
 bif (decide (t2.size+(⟨#[32]⟩:ByteArray).size<=9223372036854775807)) then
 bif (decide ((t2++(⟨#[32]⟩:ByteArray)).size+x.2.2.2.2.2.2.1.size<=9223372036854775807)) then
 bif (sliceBds y1 (x.2.2.2.2.2.2.2.1.size:Int) (x.2.2.2.2.2.2.2.1.size:Int)) then
 let t3:=(x.2.2.2.2.2.2.2.1.extract (Int.toNat y1) (Int.toNat (x.2.2.2.2.2.2.2.1.size:Int)))
 bif (decide (((t2++(⟨#[32]⟩:ByteArray))++x.2.2.2.2.2.2.1).size+t3.size<=9223372036854775807)) then
 Option.bind (f1012F k x.2.2.2.2.2.2.2.2.1) fun y4 =>
 Option.bind (f1138v0F k (y4,y1,(IntKind.i64.wrap (x.1 - (1:Int))),())) fun y5 =>
 Option.bind (f1140v0F k (x.1,x.2.1,x.2.2.1,x.2.2.2.1,x.2.2.2.2.1,x.2.2.2.2.2.1,y5.2.2.1,())) fun y6 =>
 bif (decide ((0:Int)<=y6.1)&&(decide (y6.1<=(y6.2.2.1.length:Int))&&(decide (0<[(x.1,(x.2.1,(x.2.2.1,(x.2.2.2.1,(x.2.2.2.2.1,x.2.2.2.2.2.1)))))].length)&&decide ((y6.2.2.1.length+[(x.1,(x.2.1,(x.2.2.1,(x.2.2.2.1,(x.2.2.2.2.1,x.2.2.2.2.2.1)))))].length)*32<=140737488355328)))) then
 let t7:=(y6.2.2.1.take (Int.toNat y6.1)++[(x.1,(x.2.1,(x.2.2.1,(x.2.2.2.1,(x.2.2.2.2.1,x.2.2.2.2.2.1)))))]++y6.2.2.1.drop (Int.toNat y6.1))
 some ((((t2++(⟨#[32]⟩:ByteArray))++x.2.2.2.2.2.2.1)++t3),x.2.2.2.2.2.2.2.2.2.1,x.2.2.2.2.2.2.2.2.2.2.1,x.2.2.2.2.2.2.2.2.2.2.2.1,x.2.2.2.2.2.2.2.2.2.2.2.2.1,t7,())
 else none
 else none
 else none
 else none
 else none
 else none
theorem f1107v0Ok (k:Nat):GnV P 207 f1107v0I f1107v0U (f1107v0F k) :=
 gs tm (f1107v0T k) Tryz.func207 (by kernel_rfl) SumsOk.nil [] [] none fun _=>by kernel_rfl
noncomputable def f1063v0I:Shape:=⟨[(0,.one (.ptr 0 0))],[(0,.var 175 [.str,.ro (.pair (.int .i64) Y9),.int .i64,.str,.int .i64,.int .i64])],1,[]⟩
noncomputable def f1063v0U:Shape:=⟨[(0,.one (.int .i64)),(1,.one (.int .i64))],[(0,.var 175 [.str,.ro (.pair (.int .i64) Y9),.int .i64,.str,.int .i64,.int .i64])],1,[]⟩
noncomputable def f1063v0T (k:Nat):TB P:=TB.nil |>.g (f1107v0Ok k) |>.u (f1024Ok k) |>.u (f969Ok k) |>.u (f968Ok k) |>.u (f966Ok k)
noncomputable def f1063v0F (k:Nat)(x:D89):Option (D88) :=
 bif (sliceBds (IntKind.i64.wrap (x.2.2.2.2.1+(1:Int))) (x.2.2.2.1.size:Int) (x.2.2.2.1.size:Int)) then
 let t1:=(x.2.2.2.1.extract (Int.toNat (IntKind.i64.wrap (x.2.2.2.2.1+(1:Int)))) (Int.toNat (x.2.2.2.1.size:Int)))
 bif (decide ((t1.size:Int)<(3:Int))) then
  some ((0:Int),(9:Int),x.1,x.2.1,x.2.2.1,x.2.2.2.1,x.2.2.2.2.1,x.2.2.2.2.2.1,())
 else
 bif (decide ((2:Int)<(t1.size:Int))) then
 let t2:=(decide ((t1.size:Int)<(IntKind.i64.wrap ((3:Int)+(IntKind.i64.wrap (bt t1 (2:Int)))))))
 bif t2 then
  some ((0:Int),(9:Int),x.1,x.2.1,x.2.2.1,x.2.2.2.1,x.2.2.2.2.1,x.2.2.2.2.2.1,())
 else
 bif (decide ((0:Int)<(t1.size:Int))) then
 bif (decide ((1:Int)<(t1.size:Int))) then
 bif (decide ((2:Int)<(t1.size:Int))) then
 bif ((IntKind.i64.wrap (bt t1 (0:Int)))==(0:Int)) then
  Option.bind (f969F k ((IntKind.i64.wrap ((IntKind.i64.wrap (bt t1 (1:Int))) - (32:Int))),(0:Int),(15:Int))) fun y3 =>
  bif y3 then
   bif (sliceBds (3:Int) (IntKind.i64.wrap ((3:Int)+(IntKind.i64.wrap (bt t1 (2:Int))))) (t1.size:Int)) then
   let t4:=(t1.extract 3 (Int.toNat (IntKind.i64.wrap ((3:Int)+(IntKind.i64.wrap (bt t1 (2:Int)))))))
   Option.bind (f968F k ((!(decide ((IntKind.i64.wrap (bt t1 (2:Int))) > (0:Int)))),(3:Int))) fun y5 =>
   Option.bind (f968F k ((decide (x.2.2.2.2.2.1<(0:Int))),(26:Int))) fun y6 =>
   let t7:=(IntKind.i64.wrap ((IntKind.i64.wrap (x.2.2.2.2.2.1+(1:Int)))+(IntKind.i64.wrap (bt t1 (2:Int)))))
   Option.bind (f968F k ((decide (t7 > (1920:Int))),(3:Int))) fun y8 =>
   Option.bind (f1024F k t4) fun y9 =>
   Option.bind (f968F k ((!y9),(8:Int))) fun y10 =>
   Option.bind (f966F k [y5,y6,y8,y10]) fun y11 =>
   bif (y11 !=(0:Int)) then
    some ((0:Int),y11,x.1,x.2.1,x.2.2.1,x.2.2.2.1,x.2.2.2.2.1,x.2.2.2.2.2.1,())
   else
   Option.bind (f1107v0F k ((IntKind.i64.wrap (x.2.2.2.2.2.1+(1:Int))),(IntKind.i64.wrap (bt t1 (2:Int))),(IntKind.i64.wrap ((IntKind.i64.wrap (bt t1 (1:Int))) - (32:Int))),(decide ((IntKind.i64.wrap (bt t1 (0:Int)))≥(64:Int))),((IntKind.i64.wrap (bt t1 (0:Int)))==(96:Int)),false,t4,x.1,x.2.1,x.2.2.1,x.2.2.2.1,x.2.2.2.2.1,x.2.2.2.2.2.1,())) fun y12 =>
   some ((IntKind.i64.wrap ((4:Int)+(IntKind.i64.wrap (bt t1 (2:Int))))),(0:Int),y12.1,y12.2.2.2.2.2.1,y12.2.1,y12.2.2.1,y12.2.2.2.1,(-1:Int),())
   else none
  else
  bif (sliceBds (3:Int) (IntKind.i64.wrap ((3:Int)+(IntKind.i64.wrap (bt t1 (2:Int))))) (t1.size:Int)) then
  let t13:=(t1.extract 3 (Int.toNat (IntKind.i64.wrap ((3:Int)+(IntKind.i64.wrap (bt t1 (2:Int)))))))
  Option.bind (f968F k (true,(3:Int))) fun y14 =>
  Option.bind (f968F k ((decide (x.2.2.2.2.2.1<(0:Int))),(26:Int))) fun y15 =>
  let t16:=(IntKind.i64.wrap ((IntKind.i64.wrap (x.2.2.2.2.2.1+(1:Int)))+(IntKind.i64.wrap (bt t1 (2:Int)))))
  Option.bind (f968F k ((decide (t16 > (1920:Int))),(3:Int))) fun y17 =>
  Option.bind (f1024F k t13) fun y18 =>
  Option.bind (f968F k ((!y18),(8:Int))) fun y19 =>
  Option.bind (f966F k [y14,y15,y17,y19]) fun y20 =>
  bif (y20 !=(0:Int)) then
   some ((0:Int),y20,x.1,x.2.1,x.2.2.1,x.2.2.2.1,x.2.2.2.2.1,x.2.2.2.2.2.1,())
  else
  Option.bind (f1107v0F k ((IntKind.i64.wrap (x.2.2.2.2.2.1+(1:Int))),(IntKind.i64.wrap (bt t1 (2:Int))),(IntKind.i64.wrap ((IntKind.i64.wrap (bt t1 (1:Int))) - (32:Int))),(decide ((IntKind.i64.wrap (bt t1 (0:Int)))≥(64:Int))),((IntKind.i64.wrap (bt t1 (0:Int)))==(96:Int)),false,t13,x.1,x.2.1,x.2.2.1,x.2.2.2.1,x.2.2.2.2.1,x.2.2.2.2.2.1,())) fun y21 =>
  some ((IntKind.i64.wrap ((4:Int)+(IntKind.i64.wrap (bt t1 (2:Int))))),(0:Int),y21.1,y21.2.2.2.2.2.1,y21.2.1,y21.2.2.1,y21.2.2.2.1,(-1:Int),())
  else none
 else
 bif ((IntKind.i64.wrap (bt t1 (0:Int)))==(64:Int)) then
  Option.bind (f969F k ((IntKind.i64.wrap ((IntKind.i64.wrap (bt t1 (1:Int))) - (32:Int))),(0:Int),(15:Int))) fun y22 =>
  bif y22 then
   bif (sliceBds (3:Int) (IntKind.i64.wrap ((3:Int)+(IntKind.i64.wrap (bt t1 (2:Int))))) (t1.size:Int)) then
   let t23:=(t1.extract 3 (Int.toNat (IntKind.i64.wrap ((3:Int)+(IntKind.i64.wrap (bt t1 (2:Int)))))))
   Option.bind (f968F k ((!(decide ((IntKind.i64.wrap (bt t1 (2:Int))) > (0:Int)))),(3:Int))) fun y24 =>
   Option.bind (f968F k ((decide (x.2.2.2.2.2.1<(0:Int))),(26:Int))) fun y25 =>
   let t26:=(IntKind.i64.wrap ((IntKind.i64.wrap (x.2.2.2.2.2.1+(1:Int)))+(IntKind.i64.wrap (bt t1 (2:Int)))))
   Option.bind (f968F k ((decide (t26 > (1920:Int))),(3:Int))) fun y27 =>
   Option.bind (f1024F k t23) fun y28 =>
   Option.bind (f968F k ((!y28),(8:Int))) fun y29 =>
   Option.bind (f966F k [y24,y25,y27,y29]) fun y30 =>
   bif (y30 !=(0:Int)) then
    some ((0:Int),y30,x.1,x.2.1,x.2.2.1,x.2.2.2.1,x.2.2.2.2.1,x.2.2.2.2.2.1,())
   else
   Option.bind (f1107v0F k ((IntKind.i64.wrap (x.2.2.2.2.2.1+(1:Int))),(IntKind.i64.wrap (bt t1 (2:Int))),(IntKind.i64.wrap ((IntKind.i64.wrap (bt t1 (1:Int))) - (32:Int))),(decide ((IntKind.i64.wrap (bt t1 (0:Int)))≥(64:Int))),((IntKind.i64.wrap (bt t1 (0:Int)))==(96:Int)),false,t23,x.1,x.2.1,x.2.2.1,x.2.2.2.1,x.2.2.2.2.1,x.2.2.2.2.2.1,())) fun y31 =>
   some ((IntKind.i64.wrap ((4:Int)+(IntKind.i64.wrap (bt t1 (2:Int))))),(0:Int),y31.1,y31.2.2.2.2.2.1,y31.2.1,y31.2.2.1,y31.2.2.2.1,(-1:Int),())
   else none
  else
  bif (sliceBds (3:Int) (IntKind.i64.wrap ((3:Int)+(IntKind.i64.wrap (bt t1 (2:Int))))) (t1.size:Int)) then
  let t32:=(t1.extract 3 (Int.toNat (IntKind.i64.wrap ((3:Int)+(IntKind.i64.wrap (bt t1 (2:Int)))))))
  Option.bind (f968F k (true,(3:Int))) fun y33 =>
  Option.bind (f968F k ((decide (x.2.2.2.2.2.1<(0:Int))),(26:Int))) fun y34 =>
  let t35:=(IntKind.i64.wrap ((IntKind.i64.wrap (x.2.2.2.2.2.1+(1:Int)))+(IntKind.i64.wrap (bt t1 (2:Int)))))
  Option.bind (f968F k ((decide (t35 > (1920:Int))),(3:Int))) fun y36 =>
  Option.bind (f1024F k t32) fun y37 =>
  Option.bind (f968F k ((!y37),(8:Int))) fun y38 =>
  Option.bind (f966F k [y33,y34,y36,y38]) fun y39 =>
  bif (y39 !=(0:Int)) then
   some ((0:Int),y39,x.1,x.2.1,x.2.2.1,x.2.2.2.1,x.2.2.2.2.1,x.2.2.2.2.2.1,())
  else
  Option.bind (f1107v0F k ((IntKind.i64.wrap (x.2.2.2.2.2.1+(1:Int))),(IntKind.i64.wrap (bt t1 (2:Int))),(IntKind.i64.wrap ((IntKind.i64.wrap (bt t1 (1:Int))) - (32:Int))),(decide ((IntKind.i64.wrap (bt t1 (0:Int)))≥(64:Int))),((IntKind.i64.wrap (bt t1 (0:Int)))==(96:Int)),false,t32,x.1,x.2.1,x.2.2.1,x.2.2.2.1,x.2.2.2.2.1,x.2.2.2.2.2.1,())) fun y40 =>
  some ((IntKind.i64.wrap ((4:Int)+(IntKind.i64.wrap (bt t1 (2:Int))))),(0:Int),y40.1,y40.2.2.2.2.2.1,y40.2.1,y40.2.2.1,y40.2.2.2.1,(-1:Int),())
  else none
 else
 bif ((IntKind.i64.wrap (bt t1 (0:Int)))==(96:Int)) then
  Option.bind (f969F k ((IntKind.i64.wrap ((IntKind.i64.wrap (bt t1 (1:Int))) - (32:Int))),(0:Int),(15:Int))) fun y41 =>
  bif y41 then
   bif (sliceBds (3:Int) (IntKind.i64.wrap ((3:Int)+(IntKind.i64.wrap (bt t1 (2:Int))))) (t1.size:Int)) then
   let t42:=(t1.extract 3 (Int.toNat (IntKind.i64.wrap ((3:Int)+(IntKind.i64.wrap (bt t1 (2:Int)))))))
   Option.bind (f968F k ((!(decide ((IntKind.i64.wrap (bt t1 (2:Int))) > (0:Int)))),(3:Int))) fun y43 =>
   Option.bind (f968F k ((decide (x.2.2.2.2.2.1<(0:Int))),(26:Int))) fun y44 =>
   let t45:=(IntKind.i64.wrap ((IntKind.i64.wrap (x.2.2.2.2.2.1+(1:Int)))+(IntKind.i64.wrap (bt t1 (2:Int)))))
   Option.bind (f968F k ((decide (t45 > (1920:Int))),(3:Int))) fun y46 =>
   Option.bind (f1024F k t42) fun y47 =>
   Option.bind (f968F k ((!y47),(8:Int))) fun y48 =>
   Option.bind (f966F k [y43,y44,y46,y48]) fun y49 =>
   bif (y49 !=(0:Int)) then
    some ((0:Int),y49,x.1,x.2.1,x.2.2.1,x.2.2.2.1,x.2.2.2.2.1,x.2.2.2.2.2.1,())
   else
   Option.bind (f1107v0F k ((IntKind.i64.wrap (x.2.2.2.2.2.1+(1:Int))),(IntKind.i64.wrap (bt t1 (2:Int))),(IntKind.i64.wrap ((IntKind.i64.wrap (bt t1 (1:Int))) - (32:Int))),(decide ((IntKind.i64.wrap (bt t1 (0:Int)))≥(64:Int))),((IntKind.i64.wrap (bt t1 (0:Int)))==(96:Int)),false,t42,x.1,x.2.1,x.2.2.1,x.2.2.2.1,x.2.2.2.2.1,x.2.2.2.2.2.1,())) fun y50 =>
   some ((IntKind.i64.wrap ((4:Int)+(IntKind.i64.wrap (bt t1 (2:Int))))),(0:Int),y50.1,y50.2.2.2.2.2.1,y50.2.1,y50.2.2.1,y50.2.2.2.1,(-1:Int),())
   else none
  else
  bif (sliceBds (3:Int) (IntKind.i64.wrap ((3:Int)+(IntKind.i64.wrap (bt t1 (2:Int))))) (t1.size:Int)) then
  let t51:=(t1.extract 3 (Int.toNat (IntKind.i64.wrap ((3:Int)+(IntKind.i64.wrap (bt t1 (2:Int)))))))
  Option.bind (f968F k (true,(3:Int))) fun y52 =>
  Option.bind (f968F k ((decide (x.2.2.2.2.2.1<(0:Int))),(26:Int))) fun y53 =>
  let t54:=(IntKind.i64.wrap ((IntKind.i64.wrap (x.2.2.2.2.2.1+(1:Int)))+(IntKind.i64.wrap (bt t1 (2:Int)))))
  Option.bind (f968F k ((decide (t54 > (1920:Int))),(3:Int))) fun y55 =>
  Option.bind (f1024F k t51) fun y56 =>
  Option.bind (f968F k ((!y56),(8:Int))) fun y57 =>
  Option.bind (f966F k [y52,y53,y55,y57]) fun y58 =>
  bif (y58 !=(0:Int)) then
   some ((0:Int),y58,x.1,x.2.1,x.2.2.1,x.2.2.2.1,x.2.2.2.2.1,x.2.2.2.2.2.1,())
  else
  Option.bind (f1107v0F k ((IntKind.i64.wrap (x.2.2.2.2.2.1+(1:Int))),(IntKind.i64.wrap (bt t1 (2:Int))),(IntKind.i64.wrap ((IntKind.i64.wrap (bt t1 (1:Int))) - (32:Int))),(decide ((IntKind.i64.wrap (bt t1 (0:Int)))≥(64:Int))),((IntKind.i64.wrap (bt t1 (0:Int)))==(96:Int)),false,t51,x.1,x.2.1,x.2.2.1,x.2.2.2.1,x.2.2.2.2.1,x.2.2.2.2.2.1,())) fun y59 =>
  some ((IntKind.i64.wrap ((4:Int)+(IntKind.i64.wrap (bt t1 (2:Int))))),(0:Int),y59.1,y59.2.2.2.2.2.1,y59.2.1,y59.2.2.1,y59.2.2.2.1,(-1:Int),())
  else none
 else
 bif (sliceBds (3:Int) (IntKind.i64.wrap ((3:Int)+(IntKind.i64.wrap (bt t1 (2:Int))))) (t1.size:Int)) then
 let t60:=(t1.extract 3 (Int.toNat (IntKind.i64.wrap ((3:Int)+(IntKind.i64.wrap (bt t1 (2:Int)))))))
 Option.bind (f968F k (true,(3:Int))) fun y61 =>
 Option.bind (f968F k ((decide (x.2.2.2.2.2.1<(0:Int))),(26:Int))) fun y62 =>
 let t63:=(IntKind.i64.wrap ((IntKind.i64.wrap (x.2.2.2.2.2.1+(1:Int)))+(IntKind.i64.wrap (bt t1 (2:Int)))))
 Option.bind (f968F k ((decide (t63 > (1920:Int))),(3:Int))) fun y64 =>
 Option.bind (f1024F k t60) fun y65 =>
 Option.bind (f968F k ((!y65),(8:Int))) fun y66 =>
 Option.bind (f966F k [y61,y62,y64,y66]) fun y67 =>
 bif (y67 !=(0:Int)) then
  some ((0:Int),y67,x.1,x.2.1,x.2.2.1,x.2.2.2.1,x.2.2.2.2.1,x.2.2.2.2.2.1,())
 else
 Option.bind (f1107v0F k ((IntKind.i64.wrap (x.2.2.2.2.2.1+(1:Int))),(IntKind.i64.wrap (bt t1 (2:Int))),(IntKind.i64.wrap ((IntKind.i64.wrap (bt t1 (1:Int))) - (32:Int))),(decide ((IntKind.i64.wrap (bt t1 (0:Int)))≥(64:Int))),((IntKind.i64.wrap (bt t1 (0:Int)))==(96:Int)),false,t60,x.1,x.2.1,x.2.2.1,x.2.2.2.1,x.2.2.2.2.1,x.2.2.2.2.2.1,())) fun y68 =>
 some ((IntKind.i64.wrap ((4:Int)+(IntKind.i64.wrap (bt t1 (2:Int))))),(0:Int),y68.1,y68.2.2.2.2.2.1,y68.2.1,y68.2.2.1,y68.2.2.2.1,(-1:Int),())
 else none
 else none
 else none
 else none
 else none
 else none
theorem f1063v0Ok (k:Nat):GnV P 163 f1063v0I f1063v0U (f1063v0F k) :=
 gs tm (f1063v0T k) Tryz.func163 (by kernel_rfl) SumsOk.nil [.dat .bool,.dat .bool] [] none fun _=>by kernel_rfl
noncomputable def f1006v0I:Shape:=⟨[(0,.one (.ptr 0 0))],[(0,.var 175 [.str,.ro (.pair (.int .i64) Y9),.int .i64,.str,.int .i64,.int .i64])],1,[]⟩
noncomputable def f1006v0U:Shape:=⟨[(0,.one (.int .i64)),(1,.one (.int .i64))],[(0,.var 175 [.str,.ro (.pair (.int .i64) Y9),.int .i64,.str,.int .i64,.int .i64])],1,[]⟩
noncomputable def f1006v0T (k:Nat):TB P:=TB.nil |>.g (f1063v0Ok k) |>.u (f1038Ok k) |>.p (f955Ok k)
noncomputable def f1006v0p0 {R:Type}(k:Nat)(k0:D90->Option R)(v:D91):Option R :=
 bif (v.1==(17:Int)) then
  k0 ((v.1==(17:Int)),v.2.1,v.2.2.1,v.2.2.2.1,v.2.2.2.2.1,v.2.2.2.2.2.1,v.2.2.2.2.2.2.1,())
 else
 k0 ((v.1==(19:Int)),v.2.1,v.2.2.1,v.2.2.2.1,v.2.2.2.2.1,v.2.2.2.2.2.1,v.2.2.2.2.2.2.1,())
noncomputable def f1006v0p0S (k:Nat):=partSum ⟨[(0,.one (.ptr 0 0)),(14,.one (.int .u8))],[(0,.var 175 [.str,.ro (.pair (.int .i64) Y9),.int .i64,.str,.int .i64,.int .i64])],1,[some 0]⟩ ⟨[0,14],[],[]⟩ fun R K v=>f1006v0p0 k (fun w=>K .normal (encSt ⟨[(0,.one (.ptr 0 0)),(30,.one (.bool))],[(0,.var 175 [.str,.ro (.pair (.int .i64) Y9),.int .i64,.str,.int .i64,.int .i64])],1,[some 0]⟩ w)) v
theorem f1006v0p0O (k:Nat):SumO P Tryz.f106 862 (f1006v0p0S k):=pt tm (f1006v0T k) ⟨[0,2,3,30],[],[]⟩ SumsOk.nil fun _ _ _=>by kernel_rfl
noncomputable def f1006v0p1 {R:Type}(k:Nat)(k0:D89->Option R)(v:D91):Option R :=
 bif ((decide ((0:Int)<=v.2.2.2.2.2.1))&&(decide (v.2.2.2.2.2.1<(v.2.2.2.2.1.size:Int)))) then
 bif ((bt v.2.2.2.2.1 v.2.2.2.2.2.1)==(17:Int)) then
  k0 (v.2.1,v.2.2.1,v.2.2.2.1,v.2.2.2.2.1,v.2.2.2.2.2.1,v.1,())
 else
 k0 (v.2.1,v.2.2.1,v.1,v.2.2.2.2.1,v.2.2.2.2.2.1,v.2.2.2.2.2.2.1,())
 else none
noncomputable def f1006v0p1S (k:Nat):=partSum ⟨[(0,.one (.ptr 0 0)),(4,.one (.int .i64))],[(0,.var 175 [.str,.ro (.pair (.int .i64) Y9),.int .i64,.str,.int .i64,.int .i64])],1,[some 0]⟩ ⟨[0,4],[],[]⟩ fun R K v=>f1006v0p1 k (fun w=>K .normal (encSt ⟨[],[(0,.var 175 [.str,.ro (.pair (.int .i64) Y9),.int .i64,.str,.int .i64,.int .i64])],1,[some 0]⟩ w)) v
theorem f1006v0p1O (k:Nat):SumO P Tryz.f106 126 (f1006v0p1S k):=pt tm (f1006v0T k) ⟨[2,3],[],[]⟩ SumsOk.nil fun _ _ _=>by kernel_rfl
noncomputable def f1006v0F (k:Nat)(x:D89):Option (D88) :=
 bif ((decide ((0:Int)<=x.2.2.2.2.1))&&(decide (x.2.2.2.2.1<(x.2.2.2.1.size:Int)))) then
 bif ((bt x.2.2.2.1 x.2.2.2.2.1)==(64:Int)) then
  Option.bind (f955F k ()) fun y1 =>
  some ((1:Int),(0:Int),y1.1,y1.2.1,y1.2.2,x.2.2.2.1,x.2.2.2.2.1,(-1:Int),())
 else
 bif ((bt x.2.2.2.1 x.2.2.2.2.1)==(29:Int)) then
  Option.bind (f1063v0F k (x.1,x.2.1,x.2.2.1,x.2.2.2.1,x.2.2.2.2.1,x.2.2.2.2.2.1,())) fun y2 =>
  some (y2.1,y2.2.1,y2.2.2.1,y2.2.2.2.1,y2.2.2.2.2.1,y2.2.2.2.2.2.1,y2.2.2.2.2.2.2.1,y2.2.2.2.2.2.2.2.1,())
 else
 f1006v0p0 k
  (fun (w3:D90) =>
   bif w3.1 then
    let t4:=(decide ((IntKind.i64.wrap ((w3.2.2.2.2.1.size:Int) - w3.2.2.2.2.2.1))<(3:Int)))
    bif t4 then
     some ((0:Int),(9:Int),w3.2.1,w3.2.2.1,w3.2.2.2.1,w3.2.2.2.2.1,w3.2.2.2.2.2.1,w3.2.2.2.2.2.2.1,())
    else
    Option.bind (f1038F k (w3.2.2.2.2.1,(IntKind.i64.wrap (w3.2.2.2.2.2.1+(1:Int))))) fun y5 =>
    bif (!y5.2) then
     some ((0:Int),(3:Int),w3.2.1,w3.2.2.1,w3.2.2.2.1,w3.2.2.2.2.1,w3.2.2.2.2.2.1,w3.2.2.2.2.2.2.1,())
    else
    f1006v0p1 k
     (fun (w6:D89) =>
      some ((3:Int),(0:Int),w6.1,w6.2.1,w6.2.2.1,w6.2.2.2.1,w6.2.2.2.2.1,w6.2.2.2.2.2.1,()))
     (y5.1,w3.2.1,w3.2.2.1,w3.2.2.2.1,w3.2.2.2.2.1,w3.2.2.2.2.2.1,w3.2.2.2.2.2.2.1,())
   else
   some ((0:Int),(4:Int),w3.2.1,w3.2.2.1,w3.2.2.2.1,w3.2.2.2.2.1,w3.2.2.2.2.2.1,w3.2.2.2.2.2.2.1,()))
  ((bt x.2.2.2.1 x.2.2.2.2.1),x.1,x.2.1,x.2.2.1,x.2.2.2.1,x.2.2.2.2.1,x.2.2.2.2.2.1,())
 else none
theorem f1006v0Ok (k:Nat):GnV P 106 f1006v0I f1006v0U (f1006v0F k) :=
 gs tm (f1006v0T k) Tryz.func106 (by kernel_rfl) (SumsOk.nil |>.s (f1006v0p1O k) (by kernel_rfl) |>.s (f1006v0p0O k) (by kernel_rfl)) [.dat .bool,.dat .bool] [] none fun _=>by kernel_rfl
noncomputable def f940T (k:Nat):TB P:=TB.nil |>.g (f1006v0Ok k) |>.u (f1005Ok k) |>.u (f968Ok k) |>.u (f966Ok k)
noncomputable def f940l0s {R:Type}(k:Nat)(rec:D93->Option R)(k0:D92->Option R)(k1:D93->Option R)(v:D93):Option R :=
 bif (decide (v.2.2.2.2.2.2.2.1<(v.1.size:Int))) then
  Option.bind (f1006v0F k (v.2.2.2.1,v.2.2.2.2.1,v.2.2.2.2.2.1,v.2.2.2.2.2.2.1,v.2.2.2.2.2.2.2.1,v.2.2.2.2.2.2.2.2.1,())) fun y4 =>
  bif (y4.2.1 !=(0:Int)) then
   k0 (v.1,y4.2.2.2.2.2.2.1,y4.2.1,ByteArray.empty,(0:Int),y4.2.2.1,y4.2.2.2.1,y4.2.2.2.2.1,y4.2.2.2.2.2.1,y4.2.2.2.2.2.2.1,y4.2.2.2.2.2.2.2.1,())
  else
  rec (v.1,v.2.1,v.2.2.1,y4.2.2.1,y4.2.2.2.1,y4.2.2.2.2.1,y4.2.2.2.2.2.1,(IntKind.i64.wrap (y4.2.2.2.2.2.2.1+y4.1)),y4.2.2.2.2.2.2.2.1,())
 else
 k1 (v.1,v.2.1,v.2.2.1,v.2.2.2.1,v.2.2.2.2.1,v.2.2.2.2.2.1,v.2.2.2.2.2.2.1,v.2.2.2.2.2.2.2.1,v.2.2.2.2.2.2.2.2.1,())
noncomputable def f940l0 {R:Type}(k:Nat)(k0:D92->Option R)(k1:D93->Option R)(v:D93):Option R:=iterS (fun rec v=>f940l0s k rec k0 k1 v) k v
noncomputable def f940l0S (k:Nat):=loopSum ⟨[(1,.one (.str)),(4,.one (.ptr 0 0)),(8,.one (.ptr 1 0))],[(0,.var 77 [.str,.emp,.int .i64]),(1,.var 175 [.str,.ro (.pair (.int .i64) Y9),.int .i64,.str,.int .i64,.int .i64])],2,[]⟩ ⟨[1,4,8],[],[]⟩ k fun R rec K v=>f940l0s k rec (fun w=>K .ret (encSt ⟨[(1,.one (.str)),(4,.one (.ptr 0 0)),(5,.one (.int .i64)),(6,.one (.int .i64)),(8,.one (.ptr 1 0))],[(0,.var 77 [.str,.emp,.int .i64]),(1,.var 175 [.str,.ro (.pair (.int .i64) Y9),.int .i64,.str,.int .i64,.int .i64])],2,[]⟩ w)) (fun w=>K (.exit 0) (encSt ⟨[(1,.one (.str)),(4,.one (.ptr 0 0)),(8,.one (.ptr 1 0))],[(0,.var 77 [.str,.emp,.int .i64]),(1,.var 175 [.str,.ro (.pair (.int .i64) Y9),.int .i64,.str,.int .i64,.int .i64])],2,[]⟩ w)) v
theorem f940l0O (k:Nat):SumO P Tryz.f40 60 (f940l0S k):=lp tm (f940T k) ⟨[1,4,5,6,8],[],[]⟩ SumsOk.nil (by kernel_rfl) fun _ _ _ _=>by kernel_rfl
noncomputable def f940F (k:Nat)(x:D94):Option (D95) :=
 Option.bind (f1005F k (x.1.1,(x.1.2.1,x.1.2.2))) fun y1 =>
 Option.bind (f968F k ((decide ((x.2.size:Int) > (4000:Int))),(2:Int))) fun y2 =>
 Option.bind (f966F k [y1,y2]) fun y3 =>
 bif (y3 !=(0:Int)) then
  some ((ByteArray.empty,([],(0:Int))),(0:Int),y3)
 else
 f940l0 k
  (fun (w5:D92) =>
   some ((w5.2.2.2.1,([],w5.2.2.2.2.1)),w5.2.1,w5.2.2.1))
  (fun (w6:D93) =>
   some ((w6.2.2.2.1,(w6.2.2.2.2.1,w6.2.2.2.2.2.1)),(w6.1.size:Int),(0:Int)))
  (x.2,ByteArray.empty,(0:Int),x.1.1,x.1.2.1,x.1.2.2,x.2,(0:Int),(-1:Int),())
theorem f940Ok (k:Nat):FnV P 40 [.agg (.pair .str Y10),.dat .str] [.agg (.pair .str Y10),.dat (.int .i64),.dat (.int .i64)] (f940F k) :=
 fs tm (f940T k) Tryz.func40 (by kernel_rfl) (SumsOk.nil |>.s (f940l0O k) (by kernel_rfl)) none fun _=>by kernel_rfl
noncomputable def f1065v0I:Shape:=⟨[(0,.one (.ptr 0 0))],[(0,.var 185 [.str,.own 1,.int .i64,.own 2]),(1,.row 182 (.pair (.int .i64) Y9) .plain),(2,.row 5 (.int .u8) .mark)],3,[]⟩
noncomputable def f1065v0U:Shape:=⟨[(0,.one (.own 3))],[(0,.var 185 [.str,.own 1,.int .i64,.own 2]),(1,.row 182 (.pair (.int .i64) Y9) .plain),(2,.row 5 (.int .u8) .mark),(3,.row 3 (.int .i64) .plain)],4,[]⟩
noncomputable def f1065v0p0 {R:Type}(k:Nat)(k0:D96->Option R)(v:D96):Option R :=
 bif ((decide ((0:Int)<=v.2.1))&&(decide (v.2.1<(v.2.2.2.2.1.length:Int)))) then
 let t1:=(v.2.2.2.2.1.getD (Int.toNat v.2.1) ((0:Int),((0:Int),((0:Int),(false,(false,false)))))).1
 let t2:=(v.2.2.2.2.1.getD (Int.toNat v.2.1) ((0:Int),((0:Int),((0:Int),(false,(false,false)))))).2.1
 let t3:=(v.2.2.2.2.1.getD (Int.toNat v.2.1) ((0:Int),((0:Int),((0:Int),(false,(false,false)))))).2.2.1
 let t4:=(v.2.2.2.2.1.getD (Int.toNat v.2.1) ((0:Int),((0:Int),((0:Int),(false,(false,false)))))).2.2.2.1
 let t5:=(v.2.2.2.2.1.getD (Int.toNat v.2.1) ((0:Int),((0:Int),((0:Int),(false,(false,false)))))).2.2.2.2.1
 let t6:=(v.2.2.2.2.1.getD (Int.toNat v.2.1) ((0:Int),((0:Int),((0:Int),(false,(false,false)))))).2.2.2.2.2
 bif t4 then
  bif (decide ((v.2.2.2.2.2.2.1.length+[v.2.1].length)*8<=140737488355328)&&decide (v.2.2.2.2.2.2.1.length+[v.2.1].length<=9223372036854775807)) then
  k0 (v.1,v.2.1,v.2.2.1,v.2.2.2.1,v.2.2.2.2.1,v.2.2.2.2.2.1,(v.2.2.2.2.2.2.1++[v.2.1]),())
  else none
 else
 k0 (v.1,v.2.1,v.2.2.1,v.2.2.2.1,v.2.2.2.2.1,v.2.2.2.2.2.1,v.2.2.2.2.2.2.1,())
 else none
noncomputable def f1065v0p0S (k:Nat):=partSum ⟨[(3,.one (.own 3)),(10,.one (.own 1)),(11,.one (.int .i64)),(12,.one (.int .i64))],[(0,.var 185 [.str,.own 1,.int .i64,.own 2]),(1,.row 182 (.pair (.int .i64) Y9) .plain),(2,.row 5 (.int .u8) .mark),(3,.row 3 (.int .i64) .plain)],4,[some 0,some 1,some 2]⟩ ⟨[3,10,11,12],[],[]⟩ fun R K v=>f1065v0p0 k (fun w=>K .normal (encSt ⟨[(3,.one (.own 3)),(10,.one (.own 1)),(11,.one (.int .i64)),(12,.one (.int .i64))],[(0,.var 185 [.str,.own 1,.int .i64,.own 2]),(1,.row 182 (.pair (.int .i64) Y9) .plain),(2,.row 5 (.int .u8) .mark),(3,.row 3 (.int .i64) .plain)],4,[some 0,some 1,some 2]⟩ w)) v
theorem f1065v0p0O (k:Nat):SumO P Tryz.f165 934 (f1065v0p0S k):=pt tm TB.nil ⟨[2,3,10,11,12],[],[]⟩ SumsOk.nil fun _ _ _=>by kernel_rfl
noncomputable def f1065v0l1s {R:Type}(k:Nat)(rec:D96->Option R)(k0:D97->Option R)(v:D96):Option R :=
 bif (decide (v.2.1<v.1)) then
  f1065v0p0 k
   (fun (w7:D96) =>
    rec (w7.1,(IntKind.i64.wrap (w7.2.1+(1:Int))),w7.2.2.1,w7.2.2.2.1,w7.2.2.2.2.1,w7.2.2.2.2.2.1,w7.2.2.2.2.2.2.1,()))
   (v.1,v.2.1,v.2.2.1,v.2.2.2.1,v.2.2.2.2.1,v.2.2.2.2.2.1,v.2.2.2.2.2.2.1,())
 else
 k0 (v.2.2.1,v.2.2.2.1,v.2.2.2.2.1,v.2.2.2.2.2.1,v.2.2.2.2.2.2.1,())
noncomputable def f1065v0l1 {R:Type}(k:Nat)(k0:D97->Option R)(v:D96):Option R:=iterS (fun rec v=>f1065v0l1s k rec k0 v) k v
noncomputable def f1065v0l1S (k:Nat):=loopSum ⟨[(3,.one (.own 3)),(10,.one (.own 1)),(11,.one (.int .i64)),(12,.one (.int .i64))],[(0,.var 185 [.str,.own 1,.int .i64,.own 2]),(1,.row 182 (.pair (.int .i64) Y9) .plain),(2,.row 5 (.int .u8) .mark),(3,.row 3 (.int .i64) .plain)],4,[some 0,some 1,some 2]⟩ ⟨[3,10,11,12],[(3,3,(.int .i64))],[]⟩ k fun R rec K v=>f1065v0l1s k rec (fun w=>K (.exit 0) (encSt ⟨[(3,.one (.own 3))],[(0,.var 185 [.str,.own 1,.int .i64,.own 2]),(1,.row 182 (.pair (.int .i64) Y9) .plain),(2,.row 5 (.int .u8) .mark),(3,.row 3 (.int .i64) .plain)],4,[some 0,some 1,some 2]⟩ w)) v
theorem f1065v0l1O (k:Nat):SumO P Tryz.f165 58 (f1065v0l1S k):=lp tm TB.nil ⟨[2,3],[],[]⟩ (SumsOk.nil |>.s (f1065v0p0O k) (by kernel_rfl)) (by kernel_rfl) fun _ _ _ _=>by kernel_rfl
noncomputable def f1065v0F (k:Nat)(x:D98):Option (D97) :=
 f1065v0l1 k
  (fun (w8:D97) =>
   some (w8.1,w8.2.1,w8.2.2.1,w8.2.2.2.1,w8.2.2.2.2.1,()))
  ((x.2.2.1.length:Int),(0:Int),x.1,x.2.1,x.2.2.1,x.2.2.2.1,[],())
theorem f1065v0Ok (k:Nat):GnV P 165 f1065v0I f1065v0U (f1065v0F k) :=
 gs tm TB.nil Tryz.func165 (by kernel_rfl) (SumsOk.nil |>.s (f1065v0l1O k) (by kernel_rfl) |>.s (f1065v0p0O k) (by kernel_rfl)) [.own 3 (.int .i64)] [] none fun _=>by kernel_rfl
noncomputable def f1064v0I:Shape:=⟨[(0,.one (.ptr 0 0))],[(0,.var 185 [.str,.own 1,.int .i64,.own 2]),(1,.row 182 (.pair (.int .i64) Y9) .plain),(2,.row 5 (.int .u8) .mark)],3,[]⟩
noncomputable def f1064v0U:Shape:=⟨[(0,.one (.eptr 3 0))],[(0,.var 185 [.str,.own 3,.int .i64,.own 4]),(3,.row 182 (.pair (.int .i64) Y9) .plain),(4,.row 5 (.int .u8) .mark)],5,[]⟩
noncomputable def f1064v0W:Shape:=⟨[(0,.one (.nil .ptr))],[(0,.var 185 [.str,.own 3,.int .i64,.own 4]),(3,.row 182 (.pair (.int .i64) Y9) .plain),(4,.row 5 (.int .u8) .mark)],5,[]⟩
noncomputable def f1064v0T (k:Nat):TB P:=TB.nil |>.g (f1065v0Ok k) |>.u (f1017Ok k)
noncomputable def f1064v0p0 {R:Type}(k:Nat)(k0:D99->Option R)(k1:D96->Option R)(v:D96):Option R :=
 bif ((decide ((0:Int)<=v.2.1))&&(decide (v.2.1<(v.2.2.2.2.2.2.1.length:Int)))) then
 bif ((decide ((0:Int)<=(v.2.2.2.2.2.2.1.getD (Int.toNat v.2.1) (0:Int))))&&(decide ((v.2.2.2.2.2.2.1.getD (Int.toNat v.2.1) (0:Int))<(v.2.2.2.2.1.length:Int)))) then
 let t2:=(v.2.2.2.2.1.getD (Int.toNat (v.2.2.2.2.2.2.1.getD (Int.toNat v.2.1) (0:Int))) ((0:Int),((0:Int),((0:Int),(false,(false,false)))))).1
 bif (decide (t2<=v.2.2.2.1)) then
  let t3:=(v.2.2.2.2.1.getD (Int.toNat (v.2.2.2.2.2.2.1.getD (Int.toNat v.2.1) (0:Int))) ((0:Int),((0:Int),((0:Int),(false,(false,false)))))).1
  let t4:=(v.2.2.2.2.1.getD (Int.toNat (v.2.2.2.2.2.2.1.getD (Int.toNat v.2.1) (0:Int))) ((0:Int),((0:Int),((0:Int),(false,(false,false)))))).2.1
  let t5:=(v.2.2.2.2.1.getD (Int.toNat (v.2.2.2.2.2.2.1.getD (Int.toNat v.2.1) (0:Int))) ((0:Int),((0:Int),((0:Int),(false,(false,false)))))).2.2.1
  let t6:=(v.2.2.2.2.1.getD (Int.toNat (v.2.2.2.2.2.2.1.getD (Int.toNat v.2.1) (0:Int))) ((0:Int),((0:Int),((0:Int),(false,(false,false)))))).2.2.2.1
  let t7:=(v.2.2.2.2.1.getD (Int.toNat (v.2.2.2.2.2.2.1.getD (Int.toNat v.2.1) (0:Int))) ((0:Int),((0:Int),((0:Int),(false,(false,false)))))).2.2.2.2.1
  let t8:=(v.2.2.2.2.1.getD (Int.toNat (v.2.2.2.2.2.2.1.getD (Int.toNat v.2.1) (0:Int))) ((0:Int),((0:Int),((0:Int),(false,(false,false)))))).2.2.2.2.2
  Option.bind (f1017F k (t3,(t4,(t5,(t6,(t7,t8)))))) fun y9 =>
  bif (decide (v.2.2.2.1<y9)) then
   k0 ((v.2.2.2.2.2.2.1.getD (Int.toNat v.2.1) (0:Int)),v.1,v.2.1,v.2.2.1,v.2.2.2.1,v.2.2.2.2.1,v.2.2.2.2.2.1,v.2.2.2.2.2.2.1,())
  else
  k1 (v.1,v.2.1,v.2.2.1,v.2.2.2.1,v.2.2.2.2.1,v.2.2.2.2.2.1,v.2.2.2.2.2.2.1,())
 else
 k1 (v.1,v.2.1,v.2.2.1,v.2.2.2.1,v.2.2.2.2.1,v.2.2.2.2.2.1,v.2.2.2.2.2.2.1,())
 else none
 else none
noncomputable def f1064v0p0S (k:Nat):=partSum ⟨[(0,.one (.ptr 0 0)),(7,.one (.own 3)),(8,.one (.int .i64)),(9,.one (.int .i64))],[(0,.var 185 [.str,.own 1,.int .i64,.own 2]),(1,.row 182 (.pair (.int .i64) Y9) .plain),(2,.row 5 (.int .u8) .mark),(3,.row 3 (.int .i64) .plain)],4,[some 0,some 1,some 2]⟩ ⟨[0,7,8,9],[],[]⟩ fun R K v=>f1064v0p0 k (fun w=>K .ret (encSt ⟨[(0,.one (.ptr 0 0)),(2,.one (.eptr 1 0)),(7,.one (.own 3)),(8,.one (.int .i64)),(9,.one (.int .i64))],[(0,.var 185 [.str,.own 1,.int .i64,.own 2]),(1,.row 182 (.pair (.int .i64) Y9) .plain),(2,.row 5 (.int .u8) .mark),(3,.row 3 (.int .i64) .plain)],4,[some 0,some 1,some 2]⟩ w)) (fun w=>K .normal (encSt ⟨[(0,.one (.ptr 0 0)),(7,.one (.own 3)),(8,.one (.int .i64)),(9,.one (.int .i64))],[(0,.var 185 [.str,.own 1,.int .i64,.own 2]),(1,.row 182 (.pair (.int .i64) Y9) .plain),(2,.row 5 (.int .u8) .mark),(3,.row 3 (.int .i64) .plain)],4,[some 0,some 1,some 2]⟩ w)) v
theorem f1064v0p0O (k:Nat):SumO P Tryz.f164 422 (f1064v0p0S k):=pt tm (f1064v0T k) ⟨[0,2,7,8,9],[],[]⟩ SumsOk.nil fun _ _ _=>by kernel_rfl
noncomputable def f1064v0l1s {R:Type}(k:Nat)(rec:D96->Option R)(k0:D100->Option R)(k1:D98->Option R)(v:D96):Option R :=
 bif (decide (v.2.1<v.1)) then
  f1064v0p0 k
   (fun (w10:D99) =>
    k0 (w10.1,w10.2.2.2.1,w10.2.2.2.2.1,w10.2.2.2.2.2.1,w10.2.2.2.2.2.2.1,()))
   (fun (w11:D96) =>
    rec (w11.1,(IntKind.i64.wrap (w11.2.1+(1:Int))),w11.2.2.1,w11.2.2.2.1,w11.2.2.2.2.1,w11.2.2.2.2.2.1,w11.2.2.2.2.2.2.1,()))
   (v.1,v.2.1,v.2.2.1,v.2.2.2.1,v.2.2.2.2.1,v.2.2.2.2.2.1,v.2.2.2.2.2.2.1,())
 else
 k1 (v.2.2.1,v.2.2.2.1,v.2.2.2.2.1,v.2.2.2.2.2.1,())
noncomputable def f1064v0l1 {R:Type}(k:Nat)(k0:D100->Option R)(k1:D98->Option R)(v:D96):Option R:=iterS (fun rec v=>f1064v0l1s k rec k0 k1 v) k v
noncomputable def f1064v0l1S (k:Nat):=loopSum ⟨[(0,.one (.ptr 0 0)),(7,.one (.own 3)),(8,.one (.int .i64)),(9,.one (.int .i64))],[(0,.var 185 [.str,.own 1,.int .i64,.own 2]),(1,.row 182 (.pair (.int .i64) Y9) .plain),(2,.row 5 (.int .u8) .mark),(3,.row 3 (.int .i64) .plain)],4,[some 0,some 1,some 2]⟩ ⟨[0,7,8,9],[],[]⟩ k fun R rec K v=>f1064v0l1s k rec (fun w=>K .ret (encSt ⟨[(2,.one (.eptr 1 0))],[(0,.var 185 [.str,.own 1,.int .i64,.own 2]),(1,.row 182 (.pair (.int .i64) Y9) .plain),(2,.row 5 (.int .u8) .mark)],3,[some 0,some 1,some 2]⟩ w)) (fun w=>K (.exit 0) (encSt ⟨[],[(0,.var 185 [.str,.own 1,.int .i64,.own 2]),(1,.row 182 (.pair (.int .i64) Y9) .plain),(2,.row 5 (.int .u8) .mark)],3,[some 0,some 1,some 2]⟩ w)) v
theorem f1064v0l1O (k:Nat):SumO P Tryz.f164 26 (f1064v0l1S k):=lp tm (f1064v0T k) ⟨[2],[],[]⟩ (SumsOk.nil |>.s (f1064v0p0O k) (by kernel_rfl)) (by kernel_rfl) fun _ _ _ _=>by kernel_rfl
noncomputable def f1064v0F (k:Nat)(x:D98):Option (Sum (D100) (D98)) :=
 Option.bind (f1065v0F k (x.1,x.2.1,x.2.2.1,x.2.2.2.1,())) fun y1 =>
 f1064v0l1 k
  (fun (w12:D100) =>
   some (.inl (w12.1,w12.2.1,w12.2.2.1,w12.2.2.2.1,w12.2.2.2.2.1,())))
  (fun (w13:D98) =>
   some (.inr (w13.1,w13.2.1,w13.2.2.1,w13.2.2.2.1,())))
  ((y1.2.2.2.2.1.length:Int),(0:Int),y1.1,y1.2.1,y1.2.2.1,y1.2.2.2.1,y1.2.2.2.2.1,())
theorem f1064v0Ok (k:Nat):GnV2 P 164 f1064v0I f1064v0U f1064v0W (f1064v0F k) :=
 gs2 tm (f1064v0T k) Tryz.func164 (by kernel_rfl) (SumsOk.nil |>.s (f1064v0l1O k) (by kernel_rfl) |>.s (f1064v0p0O k) (by kernel_rfl)) [.dat .bool] [.dat .bool] [1,2] [1,2] none fun _=>by kernel_rfl
noncomputable def f1108v0I:Shape:=⟨[(0,.one (.int .i64)),(1,.one (.ptr 0 0))],[(0,.var 183 [.ptr 1 0]),(1,.var 185 [.str,.own 2,.int .i64,.own 3]),(2,.row 182 (.pair (.int .i64) Y9) .plain),(3,.row 5 (.int .u8) .mark)],4,[]⟩
noncomputable def f1108v0U:Shape:=⟨[(0,.one (.bool))],[(0,.var 183 [.ptr 1 0]),(1,.var 185 [.str,.own 4,.int .i64,.own 5]),(4,.row 182 (.pair (.int .i64) Y9) .plain),(5,.row 5 (.int .u8) .mark)],6,[]⟩
noncomputable def f1108v0F (k:Nat)(x:D100):Option (D101) :=
 bif ((decide ((0:Int)<=x.1))&&(decide (x.1<(x.2.2.2.1.length:Int)))) then
 let t1:=(x.2.2.2.1.getD (Int.toNat x.1) ((0:Int),((0:Int),((0:Int),(false,(false,false)))))).1
 some ((decide (t1 > x.2.2.1)),x.2.1,x.2.2.1,x.2.2.2.1,x.2.2.2.2.1,())
 else none
theorem f1108v0Ok (k:Nat):GnV P 208 f1108v0I f1108v0U (f1108v0F k) :=
 gs tm TB.nil Tryz.func208 (by kernel_rfl) SumsOk.nil [.dat .bool] [2,3] none fun _=>by kernel_rfl
noncomputable def f1088v1I:Shape:=⟨[(0,.one (.own 0)),(1,.one (.fn 208 [1]))],[(0,.row 3 (.int .i64) .plain),(1,.var 183 [.ptr 2 0]),(2,.var 185 [.str,.own 3,.int .i64,.own 4]),(3,.row 182 (.pair (.int .i64) Y9) .plain),(4,.row 5 (.int .u8) .mark)],5,[]⟩
noncomputable def f1088v1U:Shape:=⟨[(0,.one (.int .i64))],[(0,.row 3 (.int .i64) .plain),(1,.var 183 [.ptr 2 0]),(2,.var 185 [.str,.own 5,.int .i64,.own 6]),(5,.row 182 (.pair (.int .i64) Y9) .plain),(6,.row 5 (.int .u8) .mark)],7,[]⟩
noncomputable def f1088v1T (k:Nat):TB P:=TB.nil |>.g (f1108v0Ok k)
noncomputable def f1088v1l0H:Shape:=⟨[(0,.one (.own 0)),(1,.one (.fn 208 [1])),(7,.one (.int .i64)),(8,.one (.int .i64))],[(0,.row 3 (.int .i64) .plain),(1,.var 183 [.ptr 2 0]),(2,.var 185 [.str,.own 3,.int .i64,.own 4]),(3,.row 182 (.pair (.int .i64) Y9) .plain),(4,.row 5 (.int .u8) .mark)],5,[some 0,some 1,some 2,none,none]⟩
noncomputable def f1088v1l0X0:Shape:=⟨[(4,.one (.int .i64))],[(0,.row 3 (.int .i64) .plain),(1,.var 183 [.ptr 2 0]),(2,.var 185 [.str,.own 3,.int .i64,.own 4]),(3,.row 182 (.pair (.int .i64) Y9) .plain),(4,.row 5 (.int .u8) .mark)],5,[some 0,some 1,some 2,none,none]⟩
noncomputable def f1088v1l0X1:Shape:=⟨[],[(0,.row 3 (.int .i64) .plain),(1,.var 183 [.ptr 2 0]),(2,.var 185 [.str,.own 3,.int .i64,.own 4]),(3,.row 182 (.pair (.int .i64) Y9) .plain),(4,.row 5 (.int .u8) .mark)],5,[some 0,some 1,some 2,none,none]⟩
noncomputable def f1088v1l0N:NoteR:=⟨[0,1,7,8],[],[]⟩
noncomputable def f1088v1l0M:NoteR:=⟨[4],[],[]⟩
noncomputable def f1088v1l0C:Code:=firstC (codesAt 26 (codeOf Tryz.f188) 1)
noncomputable def f1088v1l0s {R:Type}(k:Nat)(rec:D104->Option R)(k0:D102->Option R)(k1:D103->Option R)(v:D104):Option R :=
 bif (decide (v.2.1<v.1)) then
  bif ((decide ((0:Int)<=v.2.1))&&(decide (v.2.1<(v.2.2.1.length:Int)))) then
  Option.bind (f1108v0F k ((v.2.2.1.getD (Int.toNat v.2.1) (0:Int)),v.2.2.2.1,v.2.2.2.2.1,v.2.2.2.2.2.1,v.2.2.2.2.2.2.1,())) fun y2 =>
  bif y2.1 then
   k0 (v.2.1,v.2.2.1,y2.2.1,y2.2.2.1,y2.2.2.2.1,y2.2.2.2.2.1,())
  else
  rec (v.1,(IntKind.i64.wrap (v.2.1+(1:Int))),v.2.2.1,y2.2.1,y2.2.2.1,y2.2.2.2.1,y2.2.2.2.2.1,())
  else none
 else
 k1 (v.2.2.1,v.2.2.2.1,v.2.2.2.2.1,v.2.2.2.2.2.1,v.2.2.2.2.2.2.1,())
noncomputable def f1088v1l0 {R:Type}(k:Nat)(k0:D102->Option R)(k1:D103->Option R)(v:D104):Option R:=iterS (fun rec v=>f1088v1l0s k rec k0 k1 v) k v
noncomputable def f1088v1l0S (k:Nat):Sum1:=loopSum f1088v1l0H f1088v1l0N k (fun R rec K v=>f1088v1l0s k rec (fun w=>K .ret (encSt f1088v1l0X0 w)) (fun w=>K (.exit 0) (encSt f1088v1l0X1 w)) v)
theorem f1088v1l0E (k:Nat)(R:Type)(rec:St->Option R)(K:X->St->Option R)(v:f1088v1l0H.Den):evS tab (f1088v1T k).t Tryz.f188.ntmps [] (bodyOf f1088v1l0C) 52 (bodyK f1088v1l0N f1088v1l0M rec K) (encSt f1088v1l0H v)=f1088v1l0s k (fun v=>rec (encSt f1088v1l0H v)) (fun w=>K .ret (encSt f1088v1l0X0 w)) (fun w=>K (.exit 0) (encSt f1088v1l0X1 w)) v:=by kernel_rfl
theorem f1088v1l0I (k:Nat):SumsOk P Tryz.f188.ntmps [] (bodyOf f1088v1l0C) 52:=SumsOk.nil
noncomputable def f1088v1l1H:Shape:=⟨[(0,.one (.own 0)),(1,.one (.fn 208 [1])),(7,.one (.int .i64)),(8,.one (.int .i64))],[(0,.row 3 (.int .i64) .plain),(1,.var 183 [.ptr 2 0]),(2,.var 185 [.str,.own 3,.int .i64,.own 4]),(3,.row 182 (.pair (.int .i64) Y9) .plain),(4,.row 5 (.int .u8) .mark)],5,[some 0,some 1,some 2,some 3,some 4]⟩
noncomputable def f1088v1l1X0:Shape:=⟨[(4,.one (.int .i64))],[(0,.row 3 (.int .i64) .plain),(1,.var 183 [.ptr 2 0]),(2,.var 185 [.str,.own 3,.int .i64,.own 4]),(3,.row 182 (.pair (.int .i64) Y9) .plain),(4,.row 5 (.int .u8) .mark)],5,[some 0,some 1,some 2,none,none]⟩
noncomputable def f1088v1l1X1:Shape:=⟨[],[(0,.row 3 (.int .i64) .plain),(1,.var 183 [.ptr 2 0]),(2,.var 185 [.str,.own 3,.int .i64,.own 4]),(3,.row 182 (.pair (.int .i64) Y9) .plain),(4,.row 5 (.int .u8) .mark)],5,[some 0,some 1,some 2,none,none]⟩
noncomputable def f1088v1l1X2:Shape:=⟨[],[(0,.row 3 (.int .i64) .plain),(1,.var 183 [.ptr 2 0]),(2,.var 185 [.str,.own 3,.int .i64,.own 4]),(3,.row 182 (.pair (.int .i64) Y9) .plain),(4,.row 5 (.int .u8) .mark)],5,[some 0,some 1,some 2,some 3,some 4]⟩
noncomputable def f1088v1l1N:NoteR:=⟨[0,1,7,8],[],[]⟩
noncomputable def f1088v1l1M:NoteR:=⟨[4],[],[]⟩
noncomputable def f1088v1l1C:Code:=firstC (codesAt 26 (codeOf Tryz.f188) 1)
noncomputable def f1088v1l1s {R:Type}(k:Nat)(rec:D104->Option R)(k0:D102->Option R)(k1:D103->Option R)(k2:D103->Option R)(v:D104):Option R :=
 bif (decide (v.2.1<v.1)) then
  bif ((decide ((0:Int)<=v.2.1))&&(decide (v.2.1<(v.2.2.1.length:Int)))) then
  Option.bind (f1108v0F k ((v.2.2.1.getD (Int.toNat v.2.1) (0:Int)),v.2.2.2.1,v.2.2.2.2.1,v.2.2.2.2.2.1,v.2.2.2.2.2.2.1,())) fun y1 =>
  bif y1.1 then
   k0 (v.2.1,v.2.2.1,y1.2.1,y1.2.2.1,y1.2.2.2.1,y1.2.2.2.2.1,())
  else
  f1088v1l0 k
   (fun (w3:D102) =>
    k0 (w3.1,w3.2.1,w3.2.2.1,w3.2.2.2.1,w3.2.2.2.2.1,w3.2.2.2.2.2.1,()))
   (fun (w4:D103) =>
    k1 (w4.1,w4.2.1,w4.2.2.1,w4.2.2.2.1,w4.2.2.2.2.1,()))
   (v.1,(IntKind.i64.wrap (v.2.1+(1:Int))),v.2.2.1,y1.2.1,y1.2.2.1,y1.2.2.2.1,y1.2.2.2.2.1,())
  else none
 else
 k2 (v.2.2.1,v.2.2.2.1,v.2.2.2.2.1,v.2.2.2.2.2.1,v.2.2.2.2.2.2.1,())
noncomputable def f1088v1l1 {R:Type}(k:Nat)(k0:D102->Option R)(k1:D103->Option R)(k2:D103->Option R)(v:D104):Option R:=iterS (fun rec v=>f1088v1l1s k rec k0 k1 k2 v) k v
theorem f1088v1l0Rd (k:Nat):SumRd P Tryz.f188.ntmps (bodyOf f1088v1l0C) (f1088v1l0S k) k:=loop_rd tm.1 (f1088v1T k).ok tm.2 (f1088v1l0I k) (f1088v1l0E k)
noncomputable def f1088v1l1S (k:Nat):Sum1:=loop2Sum f1088v1l1H f1088v1l1N (f1088v1l0S k) k (fun R rec K v=>f1088v1l1s k rec (fun w=>K .ret (encSt f1088v1l1X0 w)) (fun w=>K (.exit 0) (encSt f1088v1l1X1 w)) (fun w=>K (.exit 0) (encSt f1088v1l1X2 w)) v)
theorem f1088v1l1E (k:Nat)(R:Type)(rec:f1088v1l1H.Den->Option R)(K:X->St->Option R)(v:f1088v1l1H.Den):evS tab (f1088v1T k).t Tryz.f188.ntmps [] (bodyOf f1088v1l1C) 52 (step2K f1088v1l1H f1088v1l1N f1088v1l1M (f1088v1l0S k) rec K) (encSt f1088v1l1H v)=f1088v1l1s k rec (fun w=>K .ret (encSt f1088v1l1X0 w)) (fun w=>K (.exit 0) (encSt f1088v1l1X1 w)) (fun w=>K (.exit 0) (encSt f1088v1l1X2 w)) v:=by kernel_rfl
theorem f1088v1l1I (k:Nat):SumsOk P Tryz.f188.ntmps [] (bodyOf f1088v1l1C) 52:=SumsOk.nil
theorem f1088v1l1Rd (k:Nat):SumRd P Tryz.f188.ntmps (bodyOf f1088v1l1C) (f1088v1l1S k) (k+(k)):=loop2_rd tm.1 (f1088v1T k).ok tm.2 (f1088v1l1I k) ((show bodyOf f1088v1l0C=bodyOf f1088v1l1C by kernel_rfl) ▸ f1088v1l0Rd k) (f1088v1l1E k)
theorem f1088v1l1O (k:Nat):SumO P Tryz.f188 26 (f1088v1l1S k):=(show SumOk P Tryz.f188.ntmps f1088v1l1C (f1088v1l1S k) from (show f1088v1l1C=.loop (bodyOf f1088v1l1C) by kernel_rfl) ▸ (f1088v1l1Rd k).ok)
noncomputable def f1088v1p2 {R:Type}(k:Nat)(k0:D102->Option R)(k1:D103->Option R)(k2:D103->Option R)(v:D103):Option R :=
 f1088v1l1 k
  (fun (w5:D102) =>
   k0 (w5.1,w5.2.1,w5.2.2.1,w5.2.2.2.1,w5.2.2.2.2.1,w5.2.2.2.2.2.1,()))
  (fun (w6:D103) =>
   k1 (w6.1,w6.2.1,w6.2.2.1,w6.2.2.2.1,w6.2.2.2.2.1,()))
  (fun (w7:D103) =>
   k2 (w7.1,w7.2.1,w7.2.2.1,w7.2.2.2.1,w7.2.2.2.2.1,()))
  ((v.1.length:Int),(0:Int),v.1,v.2.1,v.2.2.1,v.2.2.2.1,v.2.2.2.2.1,())
noncomputable def f1088v1p2S (k:Nat):=partSum ⟨[(0,.one (.own 0)),(1,.one (.fn 208 [1]))],[(0,.row 3 (.int .i64) .plain),(1,.var 183 [.ptr 2 0]),(2,.var 185 [.str,.own 3,.int .i64,.own 4]),(3,.row 182 (.pair (.int .i64) Y9) .plain),(4,.row 5 (.int .u8) .mark)],5,[some 0,some 1,some 2,some 3,some 4]⟩ ⟨[0,1],[],[]⟩ fun R K v=>f1088v1p2 k (fun w=>K .ret (encSt ⟨[(4,.one (.int .i64))],[(0,.row 3 (.int .i64) .plain),(1,.var 183 [.ptr 2 0]),(2,.var 185 [.str,.own 3,.int .i64,.own 4]),(3,.row 182 (.pair (.int .i64) Y9) .plain),(4,.row 5 (.int .u8) .mark)],5,[some 0,some 1,some 2,none,none]⟩ w)) (fun w=>K .normal (encSt ⟨[],[(0,.row 3 (.int .i64) .plain),(1,.var 183 [.ptr 2 0]),(2,.var 185 [.str,.own 3,.int .i64,.own 4]),(3,.row 182 (.pair (.int .i64) Y9) .plain),(4,.row 5 (.int .u8) .mark)],5,[some 0,some 1,some 2,none,none]⟩ w)) (fun w=>K .normal (encSt ⟨[],[(0,.row 3 (.int .i64) .plain),(1,.var 183 [.ptr 2 0]),(2,.var 185 [.str,.own 3,.int .i64,.own 4]),(3,.row 182 (.pair (.int .i64) Y9) .plain),(4,.row 5 (.int .u8) .mark)],5,[some 0,some 1,some 2,some 3,some 4]⟩ w)) v
theorem f1088v1p2O (k:Nat):SumO P Tryz.f188 6 (f1088v1p2S k):=pt tm (f1088v1T k) ⟨[4],[],[]⟩ (SumsOk.nil |>.s (f1088v1l1O k) (by kernel_rfl)) fun _ _ _=>by kernel_rfl
noncomputable def f1088v1F (k:Nat)(x:D103):Option (D102) :=
 f1088v1p2 k
  (fun (w8:D102) =>
   some (w8.1,w8.2.1,w8.2.2.1,w8.2.2.2.1,w8.2.2.2.2.1,w8.2.2.2.2.2.1,()))
  (fun (w9:D103) =>
   some ((-1:Int),w9.1,w9.2.1,w9.2.2.1,w9.2.2.2.1,w9.2.2.2.2.1,()))
  (fun (w10:D103) =>
   some ((-1:Int),w10.1,w10.2.1,w10.2.2.1,w10.2.2.2.1,w10.2.2.2.2.1,()))
  (x.1,x.2.1,x.2.2.1,x.2.2.2.1,x.2.2.2.2.1,())
theorem f1088v1Ok (k:Nat):GnV P 188 f1088v1I f1088v1U (f1088v1F k) :=
 gs tm (f1088v1T k) Tryz.func188 (by kernel_rfl) (SumsOk.nil |>.s (f1088v1p2O k) (by kernel_rfl) |>.s (f1088v1l1O k) (by kernel_rfl)) [.dat .bool] [3,4] none fun _=>by kernel_rfl
noncomputable def f1066v0I:Shape:=⟨[(0,.one (.ptr 0 0))],[(0,.var 185 [.str,.own 1,.int .i64,.own 2]),(1,.row 182 (.pair (.int .i64) Y9) .plain),(2,.row 5 (.int .u8) .mark)],3,[]⟩
noncomputable def f1066v0U:Shape:=⟨[],[(0,.var 185 [.str,.own 3,.int .i64,.own 4]),(3,.row 182 (.pair (.int .i64) Y9) .plain),(4,.row 5 (.int .u8) .mark)],5,[]⟩
noncomputable def f1066v0T (k:Nat):TB P:=TB.nil |>.g (f1088v1Ok k) |>.g (f1065v0Ok k)
noncomputable def f1066v0p0 {R:Type}(k:Nat)(k0:D100->Option R)(v:D105):Option R :=
 Option.bind (f1088v1F k (v.2.2.2.2.2.1,v.2.1,v.2.2.1,v.2.2.2.1,v.2.2.2.2.1,())) fun y2 =>
 bif (decide (y2.1≥(0:Int))) then
  bif ((decide ((0:Int)<=y2.1))&&(decide (y2.1<(y2.2.1.length:Int)))) then
  k0 ((y2.2.1.getD (Int.toNat y2.1) (0:Int)),y2.2.2.1,y2.2.2.2.1,y2.2.2.2.2.1,y2.2.2.2.2.2.1,())
  else none
 else
 k0 (v.1,y2.2.2.1,y2.2.2.2.1,y2.2.2.2.2.1,y2.2.2.2.2.2.1,())
noncomputable def f1066v0p0S (k:Nat):=partSum ⟨[(1,.one (.ptr 3 0)),(2,.one (.own 4)),(3,.one (.int .i64))],[(0,.var 185 [.str,.own 1,.int .i64,.own 2]),(1,.row 182 (.pair (.int .i64) Y9) .plain),(2,.row 5 (.int .u8) .mark),(3,.var 183 [.ptr 0 0]),(4,.row 3 (.int .i64) .plain)],5,[some 0,some 1,some 2]⟩ ⟨[1,2,3],[],[]⟩ fun R K v=>f1066v0p0 k (fun w=>K .normal (encSt ⟨[(1,.one (.ptr 1 0)),(3,.one (.int .i64))],[(0,.var 185 [.str,.own 2,.int .i64,.own 3]),(1,.var 183 [.ptr 0 0]),(2,.row 182 (.pair (.int .i64) Y9) .plain),(3,.row 5 (.int .u8) .mark)],4,[some 0,none,none]⟩ w)) v
theorem f1066v0p0O (k:Nat):SumO P Tryz.f166 30 (f1066v0p0S k):=pt tm (f1066v0T k) ⟨[1,3],[],[]⟩ SumsOk.nil fun _ _ _=>by kernel_rfl
noncomputable def f1066v0F (k:Nat)(x:D98):Option (D98) :=
 Option.bind (f1065v0F k (x.1,x.2.1,x.2.2.1,x.2.2.2.1,())) fun y1 =>
 bif (decide ((0:Int)<(y1.2.2.2.2.1.length:Int))) then
 f1066v0p0 k
  (fun (w3:D100) =>
   bif ((decide ((0:Int)<=w3.1))&&(decide (w3.1<(w3.2.2.2.1.length:Int)))) then
   let t4:=(w3.2.2.2.1.getD (Int.toNat w3.1) ((0:Int),((0:Int),((0:Int),(false,(false,false)))))).1
   some (w3.2.1,t4,w3.2.2.2.1,w3.2.2.2.2.1,())
   else none)
  ((y1.2.2.2.2.1.getD 0 (0:Int)),y1.1,y1.2.1,y1.2.2.1,y1.2.2.2.1,y1.2.2.2.2.1,())
 else none
theorem f1066v0Ok (k:Nat):GnV P 166 f1066v0I f1066v0U (f1066v0F k) :=
 gs tm (f1066v0T k) Tryz.func166 (by kernel_rfl) (SumsOk.nil |>.s (f1066v0p0O k) (by kernel_rfl)) [] [1,2] none fun _=>by kernel_rfl
noncomputable def f1067v0I:Shape:=⟨[(0,.one (.ptr 0 0)),(1,.one (.eptr 1 0)),(2,.one (.int .u8))],[(0,.var 185 [.str,.own 1,.int .i64,.own 2]),(1,.row 182 (.pair (.int .i64) Y9) .plain),(2,.row 5 (.int .u8) .mark)],3,[]⟩
noncomputable def f1067v0U:Shape:=⟨[(0,.one (.int .i64))],[(0,.var 185 [.str,.own 3,.int .i64,.own 4]),(3,.row 182 (.pair (.int .i64) Y9) .plain),(4,.row 5 (.int .u8) .mark)],5,[]⟩
noncomputable def f1067v0T (k:Nat):TB P:=TB.nil |>.g (f1066v0Ok k) |>.u (f1017Ok k)
noncomputable def f1067v0p0 {R:Type}(k:Nat)(k0:D106->Option R)(k1:D107->Option R)(v:D107):Option R :=
 let t1:=(v.2.2.2.2.1.getD (Int.toNat v.1) ((0:Int),((0:Int),((0:Int),(false,(false,false)))))).2.2.2.2.1
 bif t1 then
  bif (decide (v.2.1<(48:Int))) then
   bif (v.2.1 !=(32:Int)) then
    bif (v.2.1 !=(45:Int)) then
     bif (v.2.1 !=(46:Int)) then
      k0 (v.1,v.2.1,(17:Int),v.2.2.1,v.2.2.2.1,v.2.2.2.2.1,v.2.2.2.2.2.1,())
     else
     k1 (v.1,v.2.1,v.2.2.1,v.2.2.2.1,v.2.2.2.2.1,v.2.2.2.2.2.1,())
    else
    k1 (v.1,v.2.1,v.2.2.1,v.2.2.2.1,v.2.2.2.2.1,v.2.2.2.2.2.1,())
   else
   k1 (v.1,v.2.1,v.2.2.1,v.2.2.2.1,v.2.2.2.2.1,v.2.2.2.2.2.1,())
  else
  bif (decide (v.2.1 > (57:Int))) then
   bif (v.2.1 !=(32:Int)) then
    bif (v.2.1 !=(45:Int)) then
     bif (v.2.1 !=(46:Int)) then
      k0 (v.1,v.2.1,(17:Int),v.2.2.1,v.2.2.2.1,v.2.2.2.2.1,v.2.2.2.2.2.1,())
     else
     k1 (v.1,v.2.1,v.2.2.1,v.2.2.2.1,v.2.2.2.2.1,v.2.2.2.2.2.1,())
    else
    k1 (v.1,v.2.1,v.2.2.1,v.2.2.2.1,v.2.2.2.2.1,v.2.2.2.2.2.1,())
   else
   k1 (v.1,v.2.1,v.2.2.1,v.2.2.2.1,v.2.2.2.2.1,v.2.2.2.2.2.1,())
  else
  k1 (v.1,v.2.1,v.2.2.1,v.2.2.2.1,v.2.2.2.2.1,v.2.2.2.2.2.1,())
 else
 k1 (v.1,v.2.1,v.2.2.1,v.2.2.2.1,v.2.2.2.2.1,v.2.2.2.2.2.1,())
noncomputable def f1067v0p0S (k:Nat):=partSum ⟨[(0,.one (.ptr 0 0)),(1,.one (.eptr 1 0)),(2,.one (.int .u8))],[(0,.var 185 [.str,.own 1,.int .i64,.own 2]),(1,.row 182 (.pair (.int .i64) Y9) .plain),(2,.row 5 (.int .u8) .mark)],3,[some 0,some 1,some 2]⟩ ⟨[0,1,2],[],[]⟩ fun R K v=>f1067v0p0 k (fun w=>K .ret (encSt ⟨[(0,.one (.ptr 0 0)),(1,.one (.eptr 1 0)),(2,.one (.int .u8)),(6,.one (.int .i64))],[(0,.var 185 [.str,.own 1,.int .i64,.own 2]),(1,.row 182 (.pair (.int .i64) Y9) .plain),(2,.row 5 (.int .u8) .mark)],3,[some 0,some 1,some 2]⟩ w)) (fun w=>K .normal (encSt ⟨[(0,.one (.ptr 0 0)),(1,.one (.eptr 1 0)),(2,.one (.int .u8))],[(0,.var 185 [.str,.own 1,.int .i64,.own 2]),(1,.row 182 (.pair (.int .i64) Y9) .plain),(2,.row 5 (.int .u8) .mark)],3,[some 0,some 1,some 2]⟩ w)) v
theorem f1067v0p0O (k:Nat):SumO P Tryz.f167 6 (f1067v0p0S k):=pt tm (f1067v0T k) ⟨[0,1,2,6],[],[]⟩ SumsOk.nil fun _ _ _=>by kernel_rfl
noncomputable def f1067v0p1 {R:Type}(k:Nat)(k0:D98->Option R)(k1:D98->Option R)(v:D100):Option R :=
 let t5:=(v.2.2.2.1.getD (Int.toNat v.1) ((0:Int),((0:Int),((0:Int),(false,(false,false)))))).1
 let t6:=(v.2.2.2.1.getD (Int.toNat v.1) ((0:Int),((0:Int),((0:Int),(false,(false,false)))))).2.1
 let t7:=(v.2.2.2.1.getD (Int.toNat v.1) ((0:Int),((0:Int),((0:Int),(false,(false,false)))))).2.2.1
 let t8:=(v.2.2.2.1.getD (Int.toNat v.1) ((0:Int),((0:Int),((0:Int),(false,(false,false)))))).2.2.2.1
 let t9:=(v.2.2.2.1.getD (Int.toNat v.1) ((0:Int),((0:Int),((0:Int),(false,(false,false)))))).2.2.2.2.1
 let t10:=(v.2.2.2.1.getD (Int.toNat v.1) ((0:Int),((0:Int),((0:Int),(false,(false,false)))))).2.2.2.2.2
 Option.bind (f1017F k (t5,(t6,(t7,(t8,(t9,t10)))))) fun y11 =>
 bif ((IntKind.i64.wrap (v.2.2.1+(1:Int)))==y11) then
  Option.bind (f1066v0F k (v.2.1,v.2.2.1,v.2.2.2.1,v.2.2.2.2.1,())) fun y12 =>
  k0 (y12.1,y12.2.1,y12.2.2.1,y12.2.2.2.1,())
 else
 k1 (v.2.1,(IntKind.i64.wrap (v.2.2.1+(1:Int))),v.2.2.2.1,v.2.2.2.2.1,())
noncomputable def f1067v0p1S (k:Nat):=partSum ⟨[(0,.one (.ptr 0 0)),(1,.one (.eptr 1 0))],[(0,.var 185 [.str,.own 1,.int .i64,.own 2]),(1,.row 182 (.pair (.int .i64) Y9) .plain),(2,.row 5 (.int .u8) .mark)],3,[some 0,some 1,some 2]⟩ ⟨[0,1],[],[]⟩ fun R K v=>f1067v0p1 k (fun w=>K .normal (encSt ⟨[],[(0,.var 185 [.str,.own 1,.int .i64,.own 2]),(1,.row 182 (.pair (.int .i64) Y9) .plain),(2,.row 5 (.int .u8) .mark)],3,[some 0,none,none]⟩ w)) (fun w=>K .normal (encSt ⟨[],[(0,.var 185 [.str,.own 1,.int .i64,.own 2]),(1,.row 182 (.pair (.int .i64) Y9) .plain),(2,.row 5 (.int .u8) .mark)],3,[some 0,some 1,some 2]⟩ w)) v
theorem f1067v0p1O (k:Nat):SumO P Tryz.f167 30 (f1067v0p1S k):=pt tm (f1067v0T k) ⟨[6],[],[]⟩ SumsOk.nil fun _ _ _=>by kernel_rfl
noncomputable def f1067v0F (k:Nat)(x:D107):Option (D100) :=
 f1067v0p0 k
  (fun (w2:D106) =>
   some (w2.2.2.1,w2.2.2.2.1,w2.2.2.2.2.1,w2.2.2.2.2.2.1,w2.2.2.2.2.2.2.1,()))
  (fun (w3:D107) =>
   bif ((decide ((0:Int)<=w3.2.2.2.1))&&(decide (w3.2.2.2.1<(w3.2.2.2.2.2.1.length:Int)))) then
   let t4:=(w3.2.2.2.2.1.set (Int.toNat w3.1) ((w3.2.2.2.2.1.getD (Int.toNat w3.1) ((0:Int),((0:Int),((0:Int),(false,(false,false)))))).1,((w3.2.2.2.2.1.getD (Int.toNat w3.1) ((0:Int),((0:Int),((0:Int),(false,(false,false)))))).2.1,((w3.2.2.2.2.1.getD (Int.toNat w3.1) ((0:Int),((0:Int),((0:Int),(false,(false,false)))))).2.2.1,((w3.2.2.2.2.1.getD (Int.toNat w3.1) ((0:Int),((0:Int),((0:Int),(false,(false,false)))))).2.2.2.1,((w3.2.2.2.2.1.getD (Int.toNat w3.1) ((0:Int),((0:Int),((0:Int),(false,(false,false)))))).2.2.2.2.1,true))))))
   f1067v0p1 k
    (fun (w13:D98) =>
     some ((0:Int),w13.1,w13.2.1,w13.2.2.1,w13.2.2.2.1,()))
    (fun (w14:D98) =>
     some ((0:Int),w14.1,w14.2.1,w14.2.2.1,w14.2.2.2.1,()))
    (w3.1,w3.2.2.1,w3.2.2.2.1,t4,(w3.2.2.2.2.2.1.set (Int.toNat w3.2.2.2.1) w3.2.1),())
   else none)
  (x.1,x.2.1,x.2.2.1,x.2.2.2.1,x.2.2.2.2.1,x.2.2.2.2.2.1,())
theorem f1067v0Ok (k:Nat):GnV P 167 f1067v0I f1067v0U (f1067v0F k) :=
 gs tm (f1067v0T k) Tryz.func167 (by kernel_rfl) (SumsOk.nil |>.s (f1067v0p1O k) (by kernel_rfl) |>.s (f1067v0p0O k) (by kernel_rfl)) [.dat .bool] [1,2] none fun _=>by kernel_rfl
noncomputable def f1013v0I:Shape:=⟨[(0,.one (.ptr 0 0)),(1,.one (.int .u8))],[(0,.var 185 [.str,.own 1,.int .i64,.own 2]),(1,.row 182 (.pair (.int .i64) Y9) .plain),(2,.row 5 (.int .u8) .mark)],3,[]⟩
noncomputable def f1013v0U:Shape:=⟨[(0,.one (.int .i64))],[(0,.var 185 [.str,.own 3,.int .i64,.own 4]),(3,.row 182 (.pair (.int .i64) Y9) .plain),(4,.row 5 (.int .u8) .mark)],5,[]⟩
noncomputable def f1013v0T (k:Nat):TB P:=TB.nil |>.g (f1067v0Ok k) |>.g (f1066v0Ok k) |>.g (f1065v0Ok k) |>.g2 (f1064v0Ok k) |>.u (f73V k) |>.u (f1017Ok k)
noncomputable def f1013v0p0H:Shape:=⟨[(0,.one (.ptr 0 0)),(1,.one (.int .u8)),(5,.one (.eptr 1 0))],[(0,.var 185 [.str,.own 1,.int .i64,.own 2]),(1,.row 182 (.pair (.int .i64) Y9) .plain),(2,.row 5 (.int .u8) .mark)],3,[some 0,none,none]⟩
noncomputable def f1013v0p0X0:Shape:=⟨[(0,.one (.ptr 0 0))],[(0,.var 185 [.str,.own 1,.int .i64,.own 2]),(1,.row 182 (.pair (.int .i64) Y9) .plain),(2,.row 5 (.int .u8) .mark)],3,[some 0,none,none]⟩
noncomputable def f1013v0p0N:NoteR:=⟨[0,1,5],[],[]⟩
noncomputable def f1013v0p0M:NoteR:=⟨[0,4],[],[]⟩
noncomputable def f1013v0p0C:Code:=firstC (codesAt 458 (codeOf Tryz.f113) 1)
noncomputable def f1013v0p0 {R:Type}(k:Nat)(k0:D98->Option R)(v:D107):Option R :=
 bif (v.1==(13:Int)) then
  let t3:=(v.2.2.2.2.1.getD (Int.toNat v.2.1) ((0:Int),((0:Int),((0:Int),(false,(false,false)))))).1
  let t4:=(v.2.2.2.2.1.getD (Int.toNat v.2.1) ((0:Int),((0:Int),((0:Int),(false,(false,false)))))).2.1
  let t5:=(v.2.2.2.2.1.getD (Int.toNat v.2.1) ((0:Int),((0:Int),((0:Int),(false,(false,false)))))).2.2.1
  let t6:=(v.2.2.2.2.1.getD (Int.toNat v.2.1) ((0:Int),((0:Int),((0:Int),(false,(false,false)))))).2.2.2.1
  let t7:=(v.2.2.2.2.1.getD (Int.toNat v.2.1) ((0:Int),((0:Int),((0:Int),(false,(false,false)))))).2.2.2.2.1
  let t8:=(v.2.2.2.2.1.getD (Int.toNat v.2.1) ((0:Int),((0:Int),((0:Int),(false,(false,false)))))).2.2.2.2.2
  Option.bind (f1017F k (t3,(t4,(t5,(t6,(t7,t8)))))) fun y9 =>
  bif (sliceBds v.2.2.2.1 y9 (v.2.2.2.2.2.1.length:Int)) then
  let t10:=(v.2.2.2.2.1.getD (Int.toNat v.2.1) ((0:Int),((0:Int),((0:Int),(false,(false,false)))))).2.1
  Option.bind (f73F k ((⟨#[32]⟩:ByteArray),t10)) fun y11 =>
  let t12:=(wrt v.2.2.2.2.2.1 (Int.toNat v.2.2.2.1) (bytesOf (y11.extract 0 (min y11.size (Int.toNat (y9 - v.2.2.2.1))))))
  let t13:=(v.2.2.2.2.1.set (Int.toNat v.2.1) ((v.2.2.2.2.1.getD (Int.toNat v.2.1) ((0:Int),((0:Int),((0:Int),(false,(false,false)))))).1,((v.2.2.2.2.1.getD (Int.toNat v.2.1) ((0:Int),((0:Int),((0:Int),(false,(false,false)))))).2.1,((v.2.2.2.2.1.getD (Int.toNat v.2.1) ((0:Int),((0:Int),((0:Int),(false,(false,false)))))).2.2.1,((v.2.2.2.2.1.getD (Int.toNat v.2.1) ((0:Int),((0:Int),((0:Int),(false,(false,false)))))).2.2.2.1,((v.2.2.2.2.1.getD (Int.toNat v.2.1) ((0:Int),((0:Int),((0:Int),(false,(false,false)))))).2.2.2.2.1,true))))))
  k0 (v.2.2.1,v.2.2.2.1,t13,t12,())
  else none
 else
 k0 (v.2.2.1,v.2.2.2.1,v.2.2.2.2.1,v.2.2.2.2.2.1,())
noncomputable def f1013v0p0S (k:Nat):Sum1:=partSum f1013v0p0H f1013v0p0N (fun R K v=>f1013v0p0 k (fun w=>K .normal (encSt f1013v0p0X0 w)) v)
theorem f1013v0p0E (k:Nat)(R:Type)(K:X->St->Option R)(v:f1013v0p0H.Den):evS tab (f1013v0T k).t Tryz.f113.ntmps [] f1013v0p0C 458 (partK f1013v0p0M K) (encSt f1013v0p0H v)=f1013v0p0 k (fun w=>K .normal (encSt f1013v0p0X0 w)) v:=by kernel_rfl
theorem f1013v0p0I (k:Nat):SumsOk P Tryz.f113.ntmps [] f1013v0p0C 458:=SumsOk.nil
theorem f1013v0p0O (k:Nat):SumO P Tryz.f113 458 (f1013v0p0S k):=sum_part tm.1 (f1013v0T k).ok tm.2 (f1013v0p0I k) (f1013v0p0E k)
noncomputable def f1013v0p1H:Shape:=⟨[(0,.one (.ptr 0 0)),(1,.one (.int .u8)),(5,.one (.eptr 1 0))],[(0,.var 185 [.str,.own 1,.int .i64,.own 2]),(1,.row 182 (.pair (.int .i64) Y9) .plain),(2,.row 5 (.int .u8) .mark)],3,[some 0,none,none]⟩
noncomputable def f1013v0p1X0:Shape:=⟨[(0,.one (.ptr 0 0)),(4,.one (.int .i64)),(5,.one (.eptr 1 0))],[(0,.var 185 [.str,.own 1,.int .i64,.own 2]),(1,.row 182 (.pair (.int .i64) Y9) .plain),(2,.row 5 (.int .u8) .mark)],3,[some 0,none,none]⟩
noncomputable def f1013v0p1X1:Shape:=⟨[(0,.one (.ptr 0 0)),(4,.one (.int .i64))],[(0,.var 185 [.str,.own 1,.int .i64,.own 2]),(1,.row 182 (.pair (.int .i64) Y9) .plain),(2,.row 5 (.int .u8) .mark)],3,[some 0,none,none]⟩
noncomputable def f1013v0p1X2:Shape:=⟨[(0,.one (.ptr 0 0)),(4,.one (.int .i64)),(5,.one (.dead))],[(0,.var 185 [.str,.own 1,.int .i64,.own 2]),(1,.row 182 (.pair (.int .i64) Y9) .plain),(2,.row 5 (.int .u8) .mark)],3,[some 0,none,none]⟩
noncomputable def f1013v0p1X3:Shape:=⟨[(0,.one (.ptr 0 0)),(5,.one (.eptr 1 0))],[(0,.var 185 [.str,.own 1,.int .i64,.own 2]),(1,.row 182 (.pair (.int .i64) Y9) .plain),(2,.row 5 (.int .u8) .mark)],3,[some 0,none,none]⟩
noncomputable def f1013v0p1N:NoteR:=⟨[0,1,5],[],[]⟩
noncomputable def f1013v0p1M:NoteR:=⟨[0,4,5],[],[]⟩
noncomputable def f1013v0p1C:Code:=firstC (codesAt 14 (codeOf Tryz.f113) 1)
noncomputable def f1013v0p1 {R:Type}(k:Nat)(k0:D107->Option R)(k1:D100->Option R)(k2:D100->Option R)(k3:D100->Option R)(v:D107):Option R :=
 bif (v.1==(9:Int)) then
  Option.bind (f1065v0F k (v.2.2.1,v.2.2.2.1,v.2.2.2.2.1,v.2.2.2.2.2.1,())) fun y2 =>
  bif ((y2.2.2.2.2.1.length:Int)==(0:Int)) then
   k0 ((26:Int),v.2.1,y2.1,y2.2.1,y2.2.2.1,y2.2.2.2.1,())
  else
  f1013v0p0 k
   (fun (w14:D98) =>
    Option.bind (f1066v0F k (w14.1,w14.2.1,w14.2.2.1,w14.2.2.2.1,())) fun y15 =>
    k1 ((0:Int),y15.1,y15.2.1,y15.2.2.1,y15.2.2.2.1,()))
   (v.1,v.2.1,y2.1,y2.2.1,y2.2.2.1,y2.2.2.2.1,())
 else
 bif (v.1==(13:Int)) then
  Option.bind (f1065v0F k (v.2.2.1,v.2.2.2.1,v.2.2.2.2.1,v.2.2.2.2.2.1,())) fun y16 =>
  bif ((y16.2.2.2.2.1.length:Int)==(0:Int)) then
   k0 ((26:Int),v.2.1,y16.1,y16.2.1,y16.2.2.1,y16.2.2.2.1,())
  else
  f1013v0p0 k
   (fun (w17:D98) =>
    Option.bind (f1066v0F k (w17.1,w17.2.1,w17.2.2.1,w17.2.2.2.1,())) fun y18 =>
    k1 ((0:Int),y18.1,y18.2.1,y18.2.2.1,y18.2.2.2.1,()))
   (v.1,v.2.1,y16.1,y16.2.1,y16.2.2.1,y16.2.2.2.1,())
 else
 bif (v.1 !=(8:Int)) then
  bif (decide (v.1<(32:Int))) then
   k0 ((4:Int),v.2.1,v.2.2.1,v.2.2.2.1,v.2.2.2.2.1,v.2.2.2.2.2.1,())
  else
  bif (decide (v.1 > (126:Int))) then
   k0 ((4:Int),v.2.1,v.2.2.1,v.2.2.2.1,v.2.2.2.2.1,v.2.2.2.2.2.1,())
  else
  bif (v.1 !=(8:Int)) then
   Option.bind (f1067v0F k (v.2.1,v.1,v.2.2.1,v.2.2.2.1,v.2.2.2.2.1,v.2.2.2.2.2.1,())) fun y19 =>
   k2 (y19.1,y19.2.1,y19.2.2.1,y19.2.2.2.1,y19.2.2.2.2.1,())
  else
  k3 (v.2.1,v.2.2.1,v.2.2.2.1,v.2.2.2.2.1,v.2.2.2.2.2.1,())
 else
 bif (v.1 !=(8:Int)) then
  Option.bind (f1067v0F k (v.2.1,v.1,v.2.2.1,v.2.2.2.1,v.2.2.2.2.1,v.2.2.2.2.2.1,())) fun y20 =>
  k2 (y20.1,y20.2.1,y20.2.2.1,y20.2.2.2.1,y20.2.2.2.2.1,())
 else
 k3 (v.2.1,v.2.2.1,v.2.2.2.1,v.2.2.2.2.1,v.2.2.2.2.2.1,())
noncomputable def f1013v0p1S (k:Nat):Sum1:=partSum f1013v0p1H f1013v0p1N (fun R K v=>f1013v0p1 k (fun w=>K .ret (encSt f1013v0p1X0 w)) (fun w=>K .ret (encSt f1013v0p1X1 w)) (fun w=>K .ret (encSt f1013v0p1X2 w)) (fun w=>K .normal (encSt f1013v0p1X3 w)) v)
theorem f1013v0p1E (k:Nat)(R:Type)(K:X->St->Option R)(v:f1013v0p1H.Den):evS tab (f1013v0T k).t Tryz.f113.ntmps [(458,f1013v0p0S k)] f1013v0p1C 14 (partK f1013v0p1M K) (encSt f1013v0p1H v)=f1013v0p1 k (fun w=>K .ret (encSt f1013v0p1X0 w)) (fun w=>K .ret (encSt f1013v0p1X1 w)) (fun w=>K .ret (encSt f1013v0p1X2 w)) (fun w=>K .normal (encSt f1013v0p1X3 w)) v:=by kernel_rfl
theorem f1013v0p1I (k:Nat):SumsOk P Tryz.f113.ntmps [(458,f1013v0p0S k)] f1013v0p1C 14:=(SumsOk.nil).s (f1013v0p0O k) (by kernel_rfl)
theorem f1013v0p1O (k:Nat):SumO P Tryz.f113 14 (f1013v0p1S k):=sum_part tm.1 (f1013v0T k).ok tm.2 (f1013v0p1I k) (f1013v0p1E k)
noncomputable def f1013v0p2H:Shape:=⟨[(0,.one (.ptr 0 0)),(1,.one (.int .u8)),(5,.one (.nil .ptr))],[(0,.var 185 [.str,.own 1,.int .i64,.own 2]),(1,.row 182 (.pair (.int .i64) Y9) .plain),(2,.row 5 (.int .u8) .mark)],3,[some 0,none,none]⟩
noncomputable def f1013v0p2X0:Shape:=⟨[(0,.one (.ptr 0 0))],[(0,.var 185 [.str,.own 1,.int .i64,.own 2]),(1,.row 182 (.pair (.int .i64) Y9) .plain),(2,.row 5 (.int .u8) .mark)],3,[some 0,none,none]⟩
noncomputable def f1013v0p2N:NoteR:=⟨[0,1,5],[],[]⟩
noncomputable def f1013v0p2M:NoteR:=⟨[0,4],[],[]⟩
noncomputable def f1013v0p2C:Code:=firstC (codesAt 458 (codeOf Tryz.f113) 1)
noncomputable def f1013v0p2 {R:Type}(k:Nat)(k0:D98->Option R)(v:D100):Option R :=
 bif (v.1==(13:Int)) then
  k0 (v.2.1,v.2.2.1,v.2.2.2.1,v.2.2.2.2.1,())
 else
 k0 (v.2.1,v.2.2.1,v.2.2.2.1,v.2.2.2.2.1,())
noncomputable def f1013v0p2S (k:Nat):Sum1:=part2Sum f1013v0p2H f1013v0p2N (f1013v0p0S k) (fun R K v=>f1013v0p2 k (fun w=>K .normal (encSt f1013v0p2X0 w)) v)
theorem f1013v0p2E (k:Nat)(R:Type)(K:X->St->Option R)(v:f1013v0p2H.Den):evS tab (f1013v0T k).t Tryz.f113.ntmps [] f1013v0p2C 458 (partK f1013v0p2M K) (encSt f1013v0p2H v)=f1013v0p2 k (fun w=>K .normal (encSt f1013v0p2X0 w)) v:=by kernel_rfl
theorem f1013v0p2I (k:Nat):SumsOk P Tryz.f113.ntmps [] f1013v0p2C 458:=SumsOk.nil
theorem f1013v0p2O (k:Nat):SumO P Tryz.f113 458 (f1013v0p2S k):=part2_ok tm.1 (f1013v0T k).ok tm.2 (f1013v0p2I k) (f1013v0p0O k) (f1013v0p2E k)
noncomputable def f1013v0p3H:Shape:=⟨[(0,.one (.ptr 0 0)),(1,.one (.int .u8)),(5,.one (.nil .ptr))],[(0,.var 185 [.str,.own 1,.int .i64,.own 2]),(1,.row 182 (.pair (.int .i64) Y9) .plain),(2,.row 5 (.int .u8) .mark)],3,[some 0,none,none]⟩
noncomputable def f1013v0p3X0:Shape:=⟨[(0,.one (.ptr 0 0)),(4,.one (.int .i64)),(5,.one (.nil .ptr))],[(0,.var 185 [.str,.own 1,.int .i64,.own 2]),(1,.row 182 (.pair (.int .i64) Y9) .plain),(2,.row 5 (.int .u8) .mark)],3,[some 0,none,none]⟩
noncomputable def f1013v0p3X1:Shape:=⟨[(0,.one (.ptr 0 0)),(4,.one (.int .i64))],[(0,.var 185 [.str,.own 1,.int .i64,.own 2]),(1,.row 182 (.pair (.int .i64) Y9) .plain),(2,.row 5 (.int .u8) .mark)],3,[some 0,none,none]⟩
noncomputable def f1013v0p3N:NoteR:=⟨[0,1,5],[],[]⟩
noncomputable def f1013v0p3M:NoteR:=⟨[0,4,5],[],[]⟩
noncomputable def f1013v0p3C:Code:=firstC (codesAt 14 (codeOf Tryz.f113) 1)
noncomputable def f1013v0p3 {R:Type}(k:Nat)(k0:D100->Option R)(k1:D100->Option R)(v:D100):Option R :=
 bif (v.1==(9:Int)) then
  Option.bind (f1065v0F k (v.2.1,v.2.2.1,v.2.2.2.1,v.2.2.2.2.1,())) fun y27 =>
  bif ((y27.2.2.2.2.1.length:Int)==(0:Int)) then
   k0 ((26:Int),y27.1,y27.2.1,y27.2.2.1,y27.2.2.2.1,())
  else
  f1013v0p2 k
   (fun (w28:D98) =>
    Option.bind (f1066v0F k (w28.1,w28.2.1,w28.2.2.1,w28.2.2.2.1,())) fun y29 =>
    k1 ((0:Int),y29.1,y29.2.1,y29.2.2.1,y29.2.2.2.1,()))
   (v.1,y27.1,y27.2.1,y27.2.2.1,y27.2.2.2.1,())
 else
 bif (v.1==(13:Int)) then
  Option.bind (f1065v0F k (v.2.1,v.2.2.1,v.2.2.2.1,v.2.2.2.2.1,())) fun y30 =>
  bif ((y30.2.2.2.2.1.length:Int)==(0:Int)) then
   k0 ((26:Int),y30.1,y30.2.1,y30.2.2.1,y30.2.2.2.1,())
  else
  f1013v0p2 k
   (fun (w31:D98) =>
    Option.bind (f1066v0F k (w31.1,w31.2.1,w31.2.2.1,w31.2.2.2.1,())) fun y32 =>
    k1 ((0:Int),y32.1,y32.2.1,y32.2.2.1,y32.2.2.2.1,()))
   (v.1,y30.1,y30.2.1,y30.2.2.1,y30.2.2.2.1,())
 else
 bif (v.1 !=(8:Int)) then
  bif (decide (v.1<(32:Int))) then
   k0 ((4:Int),v.2.1,v.2.2.1,v.2.2.2.1,v.2.2.2.2.1,())
  else
  bif (decide (v.1 > (126:Int))) then
   k0 ((4:Int),v.2.1,v.2.2.1,v.2.2.2.1,v.2.2.2.2.1,())
  else
  k0 ((26:Int),v.2.1,v.2.2.1,v.2.2.2.1,v.2.2.2.2.1,())
 else
 k0 ((26:Int),v.2.1,v.2.2.1,v.2.2.2.1,v.2.2.2.2.1,())
noncomputable def f1013v0p3S (k:Nat):Sum1:=part2Sum f1013v0p3H f1013v0p3N (f1013v0p1S k) (fun R K v=>f1013v0p3 k (fun w=>K .ret (encSt f1013v0p3X0 w)) (fun w=>K .ret (encSt f1013v0p3X1 w)) v)
theorem f1013v0p3E (k:Nat)(R:Type)(K:X->St->Option R)(v:f1013v0p3H.Den):evS tab (f1013v0T k).t Tryz.f113.ntmps [(458,f1013v0p2S k)] f1013v0p3C 14 (partK f1013v0p3M K) (encSt f1013v0p3H v)=f1013v0p3 k (fun w=>K .ret (encSt f1013v0p3X0 w)) (fun w=>K .ret (encSt f1013v0p3X1 w)) v:=by kernel_rfl
theorem f1013v0p3I (k:Nat):SumsOk P Tryz.f113.ntmps [(458,f1013v0p2S k)] f1013v0p3C 14:=(SumsOk.nil).s (f1013v0p2O k) (by kernel_rfl)
theorem f1013v0p3O (k:Nat):SumO P Tryz.f113 14 (f1013v0p3S k):=part2_ok tm.1 (f1013v0T k).ok tm.2 (f1013v0p3I k) (f1013v0p1O k) (f1013v0p3E k)
noncomputable def f1013v0F (k:Nat)(x:D100):Option (D100) :=
 altB (f1064v0F k (x.2.1,x.2.2.1,x.2.2.2.1,x.2.2.2.2.1,())) (fun y1 =>
  f1013v0p1 k
   (fun (w21:D107) =>
    some (w21.1,w21.2.2.1,w21.2.2.2.1,w21.2.2.2.2.1,w21.2.2.2.2.2.1,()))
   (fun (w22:D100) =>
    some (w22.1,w22.2.1,w22.2.2.1,w22.2.2.2.1,w22.2.2.2.2.1,()))
   (fun (w23:D100) =>
    some (w23.1,w23.2.1,w23.2.2.1,w23.2.2.2.1,w23.2.2.2.2.1,()))
   (fun (w24:D100) =>
    let t25:=(w24.2.2.2.1.getD (Int.toNat w24.1) ((0:Int),((0:Int),((0:Int),(false,(false,false)))))).1
    some ((0:Int),w24.2.1,(mxI (IntKind.i64.wrap (w24.2.2.1 - (1:Int))) t25),w24.2.2.2.1,w24.2.2.2.2.1,()))
   (x.1,y1.1,y1.2.1,y1.2.2.1,y1.2.2.2.1,y1.2.2.2.2.1,())) fun y26 =>
 f1013v0p3 k
  (fun (w33:D100) =>
   some (w33.1,w33.2.1,w33.2.2.1,w33.2.2.2.1,w33.2.2.2.2.1,()))
  (fun (w34:D100) =>
   some (w34.1,w34.2.1,w34.2.2.1,w34.2.2.2.1,w34.2.2.2.2.1,()))
  (x.1,y26.1,y26.2.1,y26.2.2.1,y26.2.2.2.1,())
theorem f1013v0Ok (k:Nat):GnV P 113 f1013v0I f1013v0U (f1013v0F k) :=
 gs tm (f1013v0T k) Tryz.func113 (by kernel_rfl) (SumsOk.nil |>.s (f1013v0p3O k) (by kernel_rfl) |>.s (f1013v0p2O k) (by kernel_rfl)) [.dat .bool] [1,2] none fun _=>by kernel_rfl
noncomputable def f944T (k:Nat):TB P:=TB.nil |>.g (f1013v0Ok k) |>.u (f1012V k) |>.u (f1005Ok k) |>.u (f968Ok k) |>.u (f966Ok k)
noncomputable def f944l0s {R:Type}(k:Nat)(rec:D108->Option R)(k0:D108->Option R)(k1:D109->Option R)(v:D108):Option R :=
 bif (decide (v.2.2.1<v.2.1)) then
  bif ((decide ((0:Int)<=v.2.2.1))&&(decide (v.2.2.1<(v.1.size:Int)))) then
  Option.bind (f1013v0F k ((bt v.1 v.2.2.1),v.2.2.2.2.2.1,v.2.2.2.2.2.2.1,v.2.2.2.2.2.2.2.1,v.2.2.2.2.2.2.2.2.1,())) fun y5 =>
  bif (y5.1 !=(0:Int)) then
   k0 (v.1,v.2.2.1,y5.1,ByteArray.empty,(0:Int),y5.2.1,y5.2.2.1,y5.2.2.2.1,y5.2.2.2.2.1,())
  else
  rec (v.1,v.2.1,(IntKind.i64.wrap (v.2.2.1+(1:Int))),v.2.2.2.1,v.2.2.2.2.1,y5.2.1,y5.2.2.1,y5.2.2.2.1,y5.2.2.2.2.1,())
  else none
 else
 k1 (v.1,v.2.2.2.1,v.2.2.2.2.1,v.2.2.2.2.2.1,v.2.2.2.2.2.2.1,v.2.2.2.2.2.2.2.1,v.2.2.2.2.2.2.2.2.1,())
noncomputable def f944l0 {R:Type}(k:Nat)(k0:D108->Option R)(k1:D109->Option R)(v:D108):Option R:=iterS (fun rec v=>f944l0s k rec k0 k1 v) k v
noncomputable def f944l0S (k:Nat):=loopSum ⟨[(1,.one (.str)),(4,.one (.ptr 0 0)),(8,.one (.ptr 1 0)),(37,.one (.int .i64)),(38,.one (.int .i64))],[(0,.var 77 [.str,.emp,.int .i64]),(1,.var 185 [.str,.own 2,.int .i64,.own 3]),(2,.row 182 (.pair (.int .i64) Y9) .plain),(3,.row 5 (.int .u8) .mark)],4,[]⟩ ⟨[1,4,8,37,38],[],[]⟩ k fun R rec K v=>f944l0s k rec (fun w=>K .ret (encSt ⟨[(1,.one (.str)),(4,.one (.ptr 0 0)),(5,.one (.int .i64)),(6,.one (.int .i64)),(8,.one (.ptr 1 0))],[(0,.var 77 [.str,.emp,.int .i64]),(1,.var 185 [.str,.own 2,.int .i64,.own 3]),(2,.row 182 (.pair (.int .i64) Y9) .plain),(3,.row 5 (.int .u8) .mark)],4,[]⟩ w)) (fun w=>K (.exit 0) (encSt ⟨[(1,.one (.str)),(4,.one (.ptr 0 0)),(8,.one (.ptr 1 0))],[(0,.var 77 [.str,.emp,.int .i64]),(1,.var 185 [.str,.own 2,.int .i64,.own 3]),(2,.row 182 (.pair (.int .i64) Y9) .plain),(3,.row 5 (.int .u8) .mark)],4,[]⟩ w)) v
theorem f944l0O (k:Nat):SumO P Tryz.f44 250 (f944l0S k):=lp tm (f944T k) ⟨[1,4,5,6,8],[],[]⟩ SumsOk.nil (by kernel_rfl) fun _ _ _ _=>by kernel_rfl
noncomputable def f944F (k:Nat)(x:D94):Option (D95) :=
 Option.bind (f1005F k (x.1.1,(x.1.2.1,x.1.2.2))) fun y1 =>
 Option.bind (f968F k ((decide ((x.2.size:Int) > (4000:Int))),(2:Int))) fun y2 =>
 Option.bind (f966F k [y1,y2]) fun y3 =>
 bif (y3 !=(0:Int)) then
  some ((ByteArray.empty,([],(0:Int))),(0:Int),y3)
 else
 bif (decide (x.1.1.size<=9223372036854775807)) then
 Option.bind (f1012F k x.1.2.1) fun y4 =>
 f944l0 k
  (fun (w6:D108) =>
   some ((w6.2.2.2.1,([],w6.2.2.2.2.1)),w6.2.1,w6.2.2.1))
  (fun (w7:D109) =>
   some (((strOfNums w7.2.2.2.2.2.2.1),(w7.2.2.2.2.2.1,w7.2.2.2.2.1)),(w7.1.size:Int),(0:Int)))
  (x.2,(x.2.size:Int),(0:Int),ByteArray.empty,(0:Int),x.1.1,x.1.2.2,y4,(bytesOf x.1.1),())
 else none
theorem f944Ok (k:Nat):FnV P 44 [.agg (.pair .str Y10),.dat .str] [.agg (.pair .str Y10),.dat (.int .i64),.dat (.int .i64)] (f944F k) :=
 fs tm (f944T k) Tryz.func44 (by kernel_rfl) (SumsOk.nil |>.s (f944l0O k) (by kernel_rfl)) none fun _=>by kernel_rfl
end Go.Proofs.YteadgfclfopccaaGreatDoor
