import Derived.Test.YthcmomgkfjjajaaGreatDoorFdJ
import Derived.Test.YthcmomgkfjjajaaGreatDoorProg
set_option linter.unusedVariables false
set_option maxRecDepth 100000
namespace Go.Proofs.YthcmomgkfjjajaaGreatDoor
open Go.Ab
noncomputable def f735l0s {R:Type}(k:Nat)(rec:D152->Option R)(k0:Bool×Unit->Option R)(k1:Unit->Option R)(v:D152):Option R :=
 bif (decide (v.1<(v.2.2.2.2.2.2.2.1.length:Int))) then
 bif ((decide (0<=v.1))&&(decide (v.1<(v.2.2.2.2.2.2.2.1.length:Int)))) then
 let t1:=(decide (((v.2.2.2.2.2.2.2.1.getD (Int.toNat v.1) ByteArray.empty).size:Int) > 100))
 bif t1 then
 k0 (false,())
 else
 rec ((IntKind.i64.wrap (v.1+1)),v.2.1,v.2.2.1,v.2.2.2.1,v.2.2.2.2.1,v.2.2.2.2.2.1,v.2.2.2.2.2.2.1,v.2.2.2.2.2.2.2.1,())
 else none
 else
 k1 (())
noncomputable def f735l0 {R:Type}(k:Nat)(k0:Bool×Unit->Option R)(k1:Unit->Option R)(v:D152):Option R:=iterS (fun rec v=>f735l0s k rec k0 k1 v) k v
noncomputable def f735l0S (k:Nat):=loopSum ⟨[(1,.one (.ptr 0 0)),(3,oI)],[(0,.var 82 [.str,.int .i64,.str,.str,.ro (.pair (.int .i64) Y6),.str,.ro .str])],1,[]⟩ ⟨[1,3],[],[]⟩ k fun R rec K v=>f735l0s k rec (fun w=>K .ret (encSt ⟨[(2,oB)],[],0,[]⟩ w)) (fun w=>K (.exit 0) (encSt ⟨[],[],0,[]⟩ w)) v
theorem f735l0O (k:Nat):SumO P Tryz.f35 58 (f735l0S k):=lp tm TB.nil ⟨[2],[],[]⟩ SumsOk.nil (by kernel_rfl) fun _ _ _ _=>by kernel_rfl
noncomputable def f735F (k:Nat)(x:D13):Option (Bool) :=
 bif (decide ((x.2.2.2.2.1.length:Int) > 12)) then
 some false
 else
 bif (decide ((x.2.2.2.2.2.2.length:Int) > 12)) then
 some false
 else
 bif (decide ((x.2.2.1.size:Int) > 400)) then
 some false
 else
 bif (decide ((x.2.2.2.1.size:Int) > 400)) then
 some false
 else
 bif (decide ((x.2.2.2.2.2.1.size:Int) > 100)) then
 some false
 else
 f735l0 k
 (fun (w2:Bool×Unit) =>
 some w2.1)
 (fun (w3:Unit) =>
 some true)
 (0,x.1,x.2.1,x.2.2.1,x.2.2.2.1,x.2.2.2.2.1,x.2.2.2.2.2.1,x.2.2.2.2.2.2,())
theorem f735Ok (k:Nat):FnV P 35 [.agg Y10] [.dat .bool] (f735F k) :=
 fs tm TB.nil Tryz.func35 (by kernel_rfl) (SumsOk.nil |>.s (f735l0O k) (by kernel_rfl)) none fun _=>by kernel_rfl
noncomputable def f745T (k:Nat):TB P:=TB.nil |>.u (f735Ok k)
noncomputable def f745l0s {R:Type}(k:Nat)(rec:List D13×Int×Unit->Option R)(k0:Bool×Unit->Option R)(k1:Unit->Option R)(v:List D13×Int×Unit):Option R :=
 bif (decide (v.2.1<(v.1.length:Int))) then
 bif ((decide (0<=v.2.1))&&(decide (v.2.1<(v.1.length:Int)))) then
 let t1:=(v.1.getD (Int.toNat v.2.1) (ByteArray.empty,(0,(ByteArray.empty,(ByteArray.empty,([],(ByteArray.empty,[])))))))
 Option.bind (f735F k (t1.1,(t1.2.1,(t1.2.2.1,(t1.2.2.2.1,(t1.2.2.2.2.1,(t1.2.2.2.2.2.1,t1.2.2.2.2.2.2))))))) fun y2 =>
 bif (!y2) then
 k0 (false,())
 else
 rec (v.1,(IntKind.i64.wrap (v.2.1+1)),())
 else none
 else
 k1 (())
noncomputable def f745l0 {R:Type}(k:Nat)(k0:Bool×Unit->Option R)(k1:Unit->Option R)(v:List D13×Int×Unit):Option R:=iterS (fun rec v=>f745l0s k rec k0 k1 v) k v
noncomputable def f745l0S (k:Nat):=loopSum ⟨[(0,.one (.ro Y10)),(3,oI)],[],0,[]⟩ ⟨[0,3],[],[]⟩ k fun R rec K v=>f745l0s k rec (fun w=>K .ret (encSt ⟨[(2,oB)],[],0,[]⟩ w)) (fun w=>K (.exit 0) (encSt ⟨[],[],0,[]⟩ w)) v
theorem f745l0O (k:Nat):SumO P Tryz.f45 58 (f745l0S k):=lp tm (f745T k) ⟨[2],[],[]⟩ SumsOk.nil (by kernel_rfl) fun _ _ _ _=>by kernel_rfl
noncomputable def f745F (k:Nat)(x:(List D13)):Option (Bool) :=
 bif (decide ((x.length:Int) > 21)) then
 some false
 else
 f745l0 k
 (fun (w3:Bool×Unit) =>
 some w3.1)
 (fun (w4:Unit) =>
 some true)
 (x,0,())
theorem f745Ok (k:Nat):FnV P 45 [.dat (.slice Y10)] [.dat .bool] (f745F k) :=
 fs tm (f745T k) Tryz.func45 (by kernel_rfl) (SumsOk.nil |>.s (f745l0O k) (by kernel_rfl)) none fun _=>by kernel_rfl
noncomputable def f713T (k:Nat):TB P:=TB.nil |>.u (f745Ok k)
noncomputable def f713l0s {R:Type}(k:Nat)(rec:D199->Option R)(k0:D198->Option R)(k1:D112->Option R)(v:D199):Option R :=
 bif ((decide (0<=v.1))&&(decide (v.1<(v.2.2.2.1.length:Int)))) then
 let t3:=(v.2.2.2.1.getD (Int.toNat v.1) (ByteArray.empty,(0,(false,(0,[])))))
 bif (decide (v.2.1<(t3.2.2.2.2.length:Int))) then
 bif ((decide (0<=v.1))&&(decide (v.1<(v.2.2.2.1.length:Int)))) then
 let t4:=(v.2.2.2.1.getD (Int.toNat v.1) (ByteArray.empty,(0,(false,(0,[])))))
 bif ((decide (0<=v.2.1))&&(decide (v.2.1<(t4.2.2.2.2.length:Int)))) then
 let t5:=(t4.2.2.2.2.getD (Int.toNat v.2.1) (0,(0,(ByteArray.empty,(ByteArray.empty,(ByteArray.empty,(false,(false,0))))))))
 bif (decide ((t5.2.2.2.1.size:Int) > 300)) then
 k0 (false,v.1,v.2.2.1,v.2.2.2.1,())
 else
 rec (v.1,(IntKind.i64.wrap (v.2.1+1)),v.2.2.1,v.2.2.2.1,())
 else none
 else none
 else
 k1 (v.1,v.2.2.1,v.2.2.2.1,())
 else none
noncomputable def f713l0 {R:Type}(k:Nat)(k0:D198->Option R)(k1:D112->Option R)(v:D199):Option R:=iterS (fun rec v=>f713l0s k rec k0 k1 v) k v
noncomputable def f713l0S (k:Nat):=loopSum ⟨[(1,.one (.ptr 0 0)),(3,oI),(4,oI)],[(0,.var 25 [.ro Y10,.ro (.pair .str Y5)])],1,[]⟩ ⟨[1,3,4],[],[]⟩ k fun R rec K v=>f713l0s k rec (fun w=>K .ret (encSt ⟨[(1,.one (.ptr 0 0)),(2,oB),(3,oI)],[(0,.var 25 [.ro Y10,.ro (.pair .str Y5)])],1,[]⟩ w)) (fun w=>K (.exit 2) (encSt ⟨[(1,.one (.ptr 0 0)),(3,oI)],[(0,.var 25 [.ro Y10,.ro (.pair .str Y5)])],1,[]⟩ w)) v
theorem f713l0O (k:Nat):SumO P Tryz.f13 7462 (f713l0S k):=lp tm (f713T k) ⟨[1,2,3],[],[]⟩ SumsOk.nil (by kernel_rfl) fun _ _ _ _=>by kernel_rfl
noncomputable def f713l1s {R:Type}(k:Nat)(rec:D112->Option R)(k0:Bool×Unit->Option R)(k1:Unit->Option R)(v:D112):Option R :=
 bif (decide (v.1<(v.2.2.1.length:Int))) then
 bif ((decide (0<=v.1))&&(decide (v.1<(v.2.2.1.length:Int)))) then
 let t2:=(v.2.2.1.getD (Int.toNat v.1) (ByteArray.empty,(0,(false,(0,[])))))
 bif (decide ((t2.2.2.2.2.length:Int) > 14)) then
 k0 (false,())
 else
 f713l0 k
 (fun (w6:D198) =>
 k0 (w6.1,()))
 (fun (w7:D112) =>
 rec ((IntKind.i64.wrap (w7.1+1)),w7.2.1,w7.2.2.1,()))
 (v.1,0,v.2.1,v.2.2.1,())
 else none
 else
 k1 (())
noncomputable def f713l1 {R:Type}(k:Nat)(k0:Bool×Unit->Option R)(k1:Unit->Option R)(v:D112):Option R:=iterS (fun rec v=>f713l1s k rec k0 k1 v) k v
noncomputable def f713l1S (k:Nat):=loopSum ⟨[(1,.one (.ptr 0 0)),(3,oI)],[(0,.var 25 [.ro Y10,.ro (.pair .str Y5)])],1,[]⟩ ⟨[1,3],[],[]⟩ k fun R rec K v=>f713l1s k rec (fun w=>K .ret (encSt ⟨[(2,oB)],[],0,[]⟩ w)) (fun w=>K (.exit 0) (encSt ⟨[],[],0,[]⟩ w)) v
theorem f713l1O (k:Nat):SumO P Tryz.f13 58 (f713l1S k):=lp tm (f713T k) ⟨[2],[],[]⟩ (SumsOk.nil |>.s (f713l0O k) (by kernel_rfl)) (by kernel_rfl) fun _ _ _ _=>by kernel_rfl
noncomputable def f713F (k:Nat)(x:D14):Option (Bool) :=
 Option.bind (f745F k x.1) fun y1 =>
 bif (!y1) then
 some false
 else
 bif (decide ((x.2.length:Int) > 7)) then
 some false
 else
 f713l1 k
 (fun (w8:Bool×Unit) =>
 some w8.1)
 (fun (w9:Unit) =>
 some true)
 (0,x.1,x.2,())
theorem f713Ok (k:Nat):FnV P 13 [.agg Y11] [.dat .bool] (f713F k) :=
 fs tm (f713T k) Tryz.func13 (by kernel_rfl) (SumsOk.nil |>.s (f713l1O k) (by kernel_rfl) |>.s (f713l0O k) (by kernel_rfl)) none fun _=>by kernel_rfl
noncomputable def f714F (k:Nat)(x:(ByteArray×D64)):Option (Bool) :=
 bif (decide ((x.2.2.2.1.size:Int)<=514)) then
 some (decide ((x.2.2.2.2.1.size:Int)<=300))
 else
 some false
theorem f714Ok (k:Nat):FnV P 14 [.agg (.pair .str Y14)] [.dat .bool] (f714F k) :=
 fs tm TB.nil Tryz.func14 (by kernel_rfl) SumsOk.nil none fun _=>by kernel_rfl
noncomputable def f725T (k:Nat):TB P:=TB.nil |>.u (f714Ok k)
noncomputable def f725l0s {R:Type}(k:Nat)(rec:D200->Option R)(k0:Bool×Unit->Option R)(k1:Unit->Option R)(v:D200):Option R :=
 bif (decide (v.2.1<(v.1.length:Int))) then
 bif ((decide (0<=v.2.1))&&(decide (v.2.1<(v.1.length:Int)))) then
 let t1:=(v.1.getD (Int.toNat v.2.1) (0,((ByteArray.empty,(ByteArray.empty,(ByteArray.empty,(ByteArray.empty,(ByteArray.empty,false))))),((ByteArray.empty,(0,(0,false))),ByteArray.empty))))
 Option.bind (f714F k (t1.2.1.1,(t1.2.1.2.1,(t1.2.1.2.2.1,(t1.2.1.2.2.2.1,(t1.2.1.2.2.2.2.1,t1.2.1.2.2.2.2.2)))))) fun y2 =>
 bif (!y2) then
 k0 (false,())
 else
 bif ((decide (0<=v.2.1))&&(decide (v.2.1<(v.1.length:Int)))) then
 let t3:=(v.1.getD (Int.toNat v.2.1) (0,((ByteArray.empty,(ByteArray.empty,(ByteArray.empty,(ByteArray.empty,(ByteArray.empty,false))))),((ByteArray.empty,(0,(0,false))),ByteArray.empty))))
 bif (decide ((t3.2.2.2.size:Int) > 100)) then
 k0 (false,())
 else
 rec (v.1,(IntKind.i64.wrap (v.2.1+1)),())
 else none
 else none
 else
 k1 (())
noncomputable def f725l0 {R:Type}(k:Nat)(k0:Bool×Unit->Option R)(k1:Unit->Option R)(v:D200):Option R:=iterS (fun rec v=>f725l0s k rec k0 k1 v) k v
noncomputable def f725l0S (k:Nat):=loopSum ⟨[(0,.one (.ro (.pair (.int .i64) Y19))),(3,oI)],[],0,[]⟩ ⟨[0,3],[],[]⟩ k fun R rec K v=>f725l0s k rec (fun w=>K .ret (encSt ⟨[(2,oB)],[],0,[]⟩ w)) (fun w=>K (.exit 0) (encSt ⟨[],[],0,[]⟩ w)) v
theorem f725l0O (k:Nat):SumO P Tryz.f25 58 (f725l0S k):=lp tm (f725T k) ⟨[2],[],[]⟩ SumsOk.nil (by kernel_rfl) fun _ _ _ _=>by kernel_rfl
noncomputable def f725F (k:Nat)(x:(List (Int×D190))):Option (Bool) :=
 bif (decide ((x.length:Int) > 62)) then
 some false
 else
 f725l0 k
 (fun (w4:Bool×Unit) =>
 some w4.1)
 (fun (w5:Unit) =>
 some true)
 (x,0,())
theorem f725Ok (k:Nat):FnV P 25 [.dat (.slice (.pair (.int .i64) Y19))] [.dat .bool] (f725F k) :=
 fs tm (f725T k) Tryz.func25 (by kernel_rfl) (SumsOk.nil |>.s (f725l0O k) (by kernel_rfl)) none fun _=>by kernel_rfl
noncomputable def f730v0I:Shape:=⟨[(0,.agg [.ro Y10,.ro (.pair .str Y5)])],[],0,[]⟩
noncomputable def f730v0U:Shape:=⟨[(0,.agg [.own 0,.own 1])],[(0,.row 82 Y10 .plain),(1,.row 69 (.pair .str Y5) .plain)],2,[]⟩
noncomputable def f730v0T (k:Nat):TB P:=TB.nil |>.g (f716v1Ok k)
noncomputable def f730v0l0s {R:Type}(k:Nat)(rec:D186->Option R)(k0:D67->Option R)(v:D186):Option R :=
 bif (decide (v.1<(v.2.2.2.2.1.length:Int))) then
 bif ((decide (0<=v.1))&&(decide (v.1<(v.2.2.2.2.1.length:Int)))) then
 let t2:=(v.2.2.2.2.1.set (Int.toNat v.1) ((v.2.2.2.2.1.getD (Int.toNat v.1) (ByteArray.empty,(0,(false,(0,[]))))).1,((v.2.2.2.2.1.getD (Int.toNat v.1) (ByteArray.empty,(0,(false,(0,[]))))).2.1,((v.2.2.2.2.1.getD (Int.toNat v.1) (ByteArray.empty,(0,(false,(0,[]))))).2.2.1,((v.2.2.2.2.1.getD (Int.toNat v.1) (ByteArray.empty,(0,(false,(0,[]))))).2.2.2.1,[])))))
 bif ((decide (0<=v.1))&&(decide (v.1<(t2.length:Int)))) then
 let t3:=(t2.set (Int.toNat v.1) ((t2.getD (Int.toNat v.1) (ByteArray.empty,(0,(false,(0,[]))))).1,((t2.getD (Int.toNat v.1) (ByteArray.empty,(0,(false,(0,[]))))).2.1,((t2.getD (Int.toNat v.1) (ByteArray.empty,(0,(false,(0,[]))))).2.2.1,(1,(t2.getD (Int.toNat v.1) (ByteArray.empty,(0,(false,(0,[]))))).2.2.2.2)))))
 rec ((IntKind.i64.wrap (v.1+1)),v.2.1,v.2.2.1,v.2.2.2.1,t3,())
 else none
 else none
 else
 k0 (v.2.1,v.2.2.1,v.2.2.2.1,v.2.2.2.2.1,())
noncomputable def f730v0l0 {R:Type}(k:Nat)(k0:D67->Option R)(v:D186):Option R:=iterS (fun rec v=>f730v0l0s k rec k0 v) k v
noncomputable def f730v0l0S (k:Nat):=loopSum ⟨[(2,.one (.ptr 0 0)),(3,.one (.ptr 1 0)),(4,oI)],[(0,.var 25 [.own 2,.own 3]),(1,.var 25 [.own 4,.own 5]),(2,.row 82 Y10 .plain),(3,.row 69 (.pair .str Y5) .plain),(4,.row 82 Y10 .plain),(5,.row 69 (.pair .str Y5) .plain)],6,[]⟩ ⟨[2,3,4],[],[]⟩ k fun R rec K v=>f730v0l0s k rec (fun w=>K (.exit 0) (encSt ⟨[(2,.one (.ptr 0 0)),(3,.one (.ptr 1 0))],[(0,.var 25 [.own 2,.own 3]),(1,.var 25 [.own 4,.own 5]),(2,.row 82 Y10 .plain),(3,.row 69 (.pair .str Y5) .plain),(4,.row 82 Y10 .plain),(5,.row 69 (.pair .str Y5) .plain)],6,[]⟩ w)) v
theorem f730v0l0O (k:Nat):SumO P Tryz.f30 58 (f730v0l0S k):=lp tm (f730v0T k) ⟨[2,3],[],[]⟩ SumsOk.nil (by kernel_rfl) fun _ _ _ _=>by kernel_rfl
noncomputable def f730v0F (k:Nat)(x:D113):Option (D113) :=
 Option.bind (f716v1F k (x.1,x.2.1,())) fun y1 =>
 f730v0l0 k
 (fun (w4:D67) =>
 some (w4.2.2.1,w4.2.2.2.1,()))
 (0,[],[],y1.1,y1.2.1,())
theorem f730v0Ok (k:Nat):GnV P 30 f730v0I f730v0U (f730v0F k) :=
 gs tm (f730v0T k) Tryz.func30 (by kernel_rfl) (SumsOk.nil |>.s (f730v0l0O k) (by kernel_rfl)) [.own 0 .bool] [] none fun _=>by kernel_rfl
noncomputable def f707T (k:Nat):TB P:=TB.nil |>.u (f733Ok k) |>.u (f69Ok k) |>.u (f731Ok k) |>.g (f730v0Ok k) |>.u (f727Ok k) |>.p (f726Ok k) |>.u (f725Ok k) |>.p (f716Ok k) |>.u (f713Ok k) |>.u (f712Ok k)
noncomputable def f707l0s {R:Type}(k:Nat)(rec:D210->Option R)(k0:D201->Option R)(v:D210):Option R :=
 bif (decide (v.2.1<(v.2.2.2.1.length:Int))) then
 bif ((decide (0<=v.2.1))&&(decide (v.2.1<(v.2.2.2.1.length:Int)))) then
 let t6:=(v.2.2.2.1.set (Int.toNat v.2.1) ((v.2.2.2.1.getD (Int.toNat v.2.1) (ByteArray.empty,(0,(false,(0,[]))))).1,((v.2.2.2.1.getD (Int.toNat v.2.1) (ByteArray.empty,(0,(false,(0,[]))))).2.1,(false,((v.2.2.2.1.getD (Int.toNat v.2.1) (ByteArray.empty,(0,(false,(0,[]))))).2.2.2.1,(v.2.2.2.1.getD (Int.toNat v.2.1) (ByteArray.empty,(0,(false,(0,[]))))).2.2.2.2)))))
 rec (v.1,(IntKind.i64.wrap (v.2.1+1)),v.2.2.1,t6,())
 else none
 else
 k0 (v.1,v.2.2.1,v.2.2.2.1,())
noncomputable def f707l0 {R:Type}(k:Nat)(k0:D201->Option R)(v:D210):Option R:=iterS (fun rec v=>f707l0s k rec k0 v) k v
noncomputable def f707l0S (k:Nat):=loopSum ⟨[(1,.one (.ro (.pair (.int .i64) Y19))),(5,.one (.ptr 0 0)),(6,oI)],[(0,.var 25 [.own 1,.own 2]),(1,.row 82 Y10 .plain),(2,.row 69 (.pair .str Y5) .plain)],3,[]⟩ ⟨[1,5,6],[],[]⟩ k fun R rec K v=>f707l0s k rec (fun w=>K (.exit 0) (encSt ⟨[(1,.one (.ro (.pair (.int .i64) Y19))),(5,.one (.ptr 0 0))],[(0,.var 25 [.own 1,.own 2]),(1,.row 82 Y10 .plain),(2,.row 69 (.pair .str Y5) .plain)],3,[]⟩ w)) v
theorem f707l0O (k:Nat):SumO P Tryz.f7 250 (f707l0S k):=lp tm (f707T k) ⟨[1,4,5],[],[]⟩ SumsOk.nil (by kernel_rfl) fun _ _ _ _=>by kernel_rfl
noncomputable def f707p1 {R:Type}(k:Nat)(k0:D202->Option R)(v:D202):Option R :=
 bif ((decide (0<=v.2.1))&&(decide (v.2.1<(v.1.length:Int)))) then
 let t8:=(v.1.getD (Int.toNat v.2.1) (0,((ByteArray.empty,(ByteArray.empty,(ByteArray.empty,(ByteArray.empty,(ByteArray.empty,false))))),((ByteArray.empty,(0,(0,false))),ByteArray.empty))))
 Option.bind (f731F k ((v.2.2.2.1,v.2.2.2.2.1),t8.2.1.1)) fun y9 =>
 bif ((decide (0<=v.2.1))&&(decide (v.2.1<(v.1.length:Int)))) then
 let t10:=(v.1.getD (Int.toNat v.2.1) (0,((ByteArray.empty,(ByteArray.empty,(ByteArray.empty,(ByteArray.empty,(ByteArray.empty,false))))),((ByteArray.empty,(0,(0,false))),ByteArray.empty))))
 bif (t10.1==0) then
 bif ((decide (0<=v.2.1))&&(decide (v.2.1<(v.1.length:Int)))) then
 let t11:=(v.1.getD (Int.toNat v.2.1) (0,((ByteArray.empty,(ByteArray.empty,(ByteArray.empty,(ByteArray.empty,(ByteArray.empty,false))))),((ByteArray.empty,(0,(0,false))),ByteArray.empty))))
 bif t11.2.1.2.2.2.2.2 then
 bif (y9 !=(-1)) then
 bif ((decide (0<=y9))&&(decide (y9<(v.2.2.1.length:Int)))) then
 k0 (v.1,v.2.1,(v.2.2.1.set (Int.toNat y9) true),v.2.2.2.1,v.2.2.2.2.1,())
 else none
 else
 k0 (v.1,v.2.1,v.2.2.1,v.2.2.2.1,v.2.2.2.2.1,())
 else
 k0 (v.1,v.2.1,v.2.2.1,v.2.2.2.1,v.2.2.2.2.1,())
 else none
 else
 k0 (v.1,v.2.1,v.2.2.1,v.2.2.2.1,v.2.2.2.2.1,())
 else none
 else none
noncomputable def f707p1S (k:Nat):=partSum ⟨[(1,.one (.ro (.pair (.int .i64) Y19))),(5,.one (.ptr 0 0)),(7,.one (.own 1)),(8,oI)],[(0,.var 25 [.own 2,.own 3]),(1,.row 4 .bool .plain),(2,.row 82 Y10 .plain),(3,.row 69 (.pair .str Y5) .plain)],4,[]⟩ ⟨[1,5,7,8],[],[]⟩ fun R K v=>f707p1 k (fun w=>K .normal (encSt ⟨[(1,.one (.ro (.pair (.int .i64) Y19))),(5,.one (.ptr 0 0)),(7,.one (.own 1)),(8,oI)],[(0,.var 25 [.own 2,.own 3]),(1,.row 4 .bool .plain),(2,.row 82 Y10 .plain),(3,.row 69 (.pair .str Y5) .plain)],4,[]⟩ w)) v
theorem f707p1O (k:Nat):SumO P Tryz.f7 8146 (f707p1S k):=pt tm (f707T k) ⟨[1,4,5,7,8,10,14,15,17,19,21],[],[]⟩ SumsOk.nil fun _ _ _=>by kernel_rfl
noncomputable def f707l2s {R:Type}(k:Nat)(rec:D202->Option R)(k0:D203->Option R)(v:D202):Option R :=
 bif (decide (v.2.1<(v.1.length:Int))) then
 f707p1 k
 (fun (w12:D202) =>
 rec (w12.1,(IntKind.i64.wrap (w12.2.1+1)),w12.2.2.1,w12.2.2.2.1,w12.2.2.2.2.1,()))
 (v.1,v.2.1,v.2.2.1,v.2.2.2.1,v.2.2.2.2.1,())
 else
 k0 (v.1,v.2.2.1,v.2.2.2.1,v.2.2.2.2.1,())
noncomputable def f707l2 {R:Type}(k:Nat)(k0:D203->Option R)(v:D202):Option R:=iterS (fun rec v=>f707l2s k rec k0 v) k v
noncomputable def f707l2S (k:Nat):=loopSum ⟨[(1,.one (.ro (.pair (.int .i64) Y19))),(5,.one (.ptr 0 0)),(7,.one (.own 1)),(8,oI)],[(0,.var 25 [.own 2,.own 3]),(1,.row 4 .bool .plain),(2,.row 82 Y10 .plain),(3,.row 69 (.pair .str Y5) .plain)],4,[]⟩ ⟨[1,5,7,8],[],[]⟩ k fun R rec K v=>f707l2s k rec (fun w=>K (.exit 2) (encSt ⟨[(1,.one (.ro (.pair (.int .i64) Y19))),(5,.one (.ptr 0 0)),(7,.one (.own 1))],[(0,.var 25 [.own 2,.own 3]),(1,.row 4 .bool .plain),(2,.row 82 Y10 .plain),(3,.row 69 (.pair .str Y5) .plain)],4,[]⟩ w)) v
theorem f707l2O (k:Nat):SumO P Tryz.f7 1018 (f707l2S k):=lp tm (f707T k) ⟨[1,4,5,7],[],[]⟩ (SumsOk.nil |>.s (f707p1O k) (by kernel_rfl)) (by kernel_rfl) fun _ _ _ _=>by kernel_rfl
noncomputable def f707p3 {R:Type}(k:Nat)(k0:D204->Option R)(v:D204):Option R :=
 bif ((decide (0<=v.2.1))&&(decide (v.2.1<(v.1.length:Int)))) then
 let t14:=(v.1.getD (Int.toNat v.2.1) (0,((ByteArray.empty,(ByteArray.empty,(ByteArray.empty,(ByteArray.empty,(ByteArray.empty,false))))),((ByteArray.empty,(0,(0,false))),ByteArray.empty))))
 Option.bind (f731F k ((v.2.2.2.2.1,v.2.2.2.2.2.1),t14.2.2.1.1)) fun y15 =>
 bif ((decide (0<=v.2.1))&&(decide (v.2.1<(v.1.length:Int)))) then
 let t16:=(v.1.getD (Int.toNat v.2.1) (0,((ByteArray.empty,(ByteArray.empty,(ByteArray.empty,(ByteArray.empty,(ByteArray.empty,false))))),((ByteArray.empty,(0,(0,false))),ByteArray.empty))))
 bif (t16.1==3) then
 bif (y15==(-1)) then
 bif ((decide (0<=v.2.1))&&(decide (v.2.1<(v.1.length:Int)))) then
 let t17:=(v.1.getD (Int.toNat v.2.1) (0,((ByteArray.empty,(ByteArray.empty,(ByteArray.empty,(ByteArray.empty,(ByteArray.empty,false))))),((ByteArray.empty,(0,(0,false))),ByteArray.empty))))
 let t18:=[(t17.1,((t17.2.1.1,(t17.2.1.2.1,(t17.2.1.2.2.1,(t17.2.1.2.2.2.1,(t17.2.1.2.2.2.2.1,t17.2.1.2.2.2.2.2))))),((t17.2.2.1.1,(t17.2.2.1.2.1,(t17.2.2.1.2.2.1,t17.2.2.1.2.2.2))),t17.2.2.2)))]
 bif (decide ((v.2.2.2.1.length+t18.length)*152<=140737488355328)&&decide (v.2.2.2.1.length+t18.length<=9223372036854775807)) then
 k0 (v.1,v.2.1,v.2.2.1,(v.2.2.2.1++t18),v.2.2.2.2.1,v.2.2.2.2.2.1,())
 else none
 else none
 else
 bif ((decide (0<=y15))&&(decide (y15<(v.2.2.1.length:Int)))) then
 bif (!(v.2.2.1.getD (Int.toNat y15) false)) then
 bif ((decide (0<=v.2.1))&&(decide (v.2.1<(v.1.length:Int)))) then
 let t19:=(v.1.getD (Int.toNat v.2.1) (0,((ByteArray.empty,(ByteArray.empty,(ByteArray.empty,(ByteArray.empty,(ByteArray.empty,false))))),((ByteArray.empty,(0,(0,false))),ByteArray.empty))))
 let t20:=[(t19.1,((t19.2.1.1,(t19.2.1.2.1,(t19.2.1.2.2.1,(t19.2.1.2.2.2.1,(t19.2.1.2.2.2.2.1,t19.2.1.2.2.2.2.2))))),((t19.2.2.1.1,(t19.2.2.1.2.1,(t19.2.2.1.2.2.1,t19.2.2.1.2.2.2))),t19.2.2.2)))]
 bif (decide ((v.2.2.2.1.length+t20.length)*152<=140737488355328)&&decide (v.2.2.2.1.length+t20.length<=9223372036854775807)) then
 k0 (v.1,v.2.1,v.2.2.1,(v.2.2.2.1++t20),v.2.2.2.2.1,v.2.2.2.2.2.1,())
 else none
 else none
 else
 k0 (v.1,v.2.1,v.2.2.1,v.2.2.2.1,v.2.2.2.2.1,v.2.2.2.2.2.1,())
 else none
 else
 bif ((decide (0<=v.2.1))&&(decide (v.2.1<(v.1.length:Int)))) then
 let t21:=(v.1.getD (Int.toNat v.2.1) (0,((ByteArray.empty,(ByteArray.empty,(ByteArray.empty,(ByteArray.empty,(ByteArray.empty,false))))),((ByteArray.empty,(0,(0,false))),ByteArray.empty))))
 bif (t21.1==1) then
 bif ((decide (0<=v.2.1))&&(decide (v.2.1<(v.1.length:Int)))) then
 let t22:=(v.1.getD (Int.toNat v.2.1) (0,((ByteArray.empty,(ByteArray.empty,(ByteArray.empty,(ByteArray.empty,(ByteArray.empty,false))))),((ByteArray.empty,(0,(0,false))),ByteArray.empty))))
 bif (y15==(-1)) then
 bif ((decide (0<=v.2.1))&&(decide (v.2.1<(v.1.length:Int)))) then
 let t23:=(v.1.getD (Int.toNat v.2.1) (0,((ByteArray.empty,(ByteArray.empty,(ByteArray.empty,(ByteArray.empty,(ByteArray.empty,false))))),((ByteArray.empty,(0,(0,false))),ByteArray.empty))))
 let t24:=[(t23.1,((t23.2.1.1,(t23.2.1.2.1,(t23.2.1.2.2.1,(t23.2.1.2.2.2.1,(t23.2.1.2.2.2.2.1,t23.2.1.2.2.2.2.2))))),((t23.2.2.1.1,(t23.2.2.1.2.1,(t23.2.2.1.2.2.1,t23.2.2.1.2.2.2))),t23.2.2.2)))]
 bif (decide ((v.2.2.2.1.length+t24.length)*152<=140737488355328)&&decide (v.2.2.2.1.length+t24.length<=9223372036854775807)) then
 k0 (v.1,v.2.1,v.2.2.1,(v.2.2.2.1++t24),v.2.2.2.2.1,v.2.2.2.2.2.1,())
 else none
 else none
 else
 bif (!t22.2.2.1.2.2.2) then
 bif ((decide (0<=v.2.1))&&(decide (v.2.1<(v.1.length:Int)))) then
 let t25:=(v.1.getD (Int.toNat v.2.1) (0,((ByteArray.empty,(ByteArray.empty,(ByteArray.empty,(ByteArray.empty,(ByteArray.empty,false))))),((ByteArray.empty,(0,(0,false))),ByteArray.empty))))
 let t26:=[(t25.1,((t25.2.1.1,(t25.2.1.2.1,(t25.2.1.2.2.1,(t25.2.1.2.2.2.1,(t25.2.1.2.2.2.2.1,t25.2.1.2.2.2.2.2))))),((t25.2.2.1.1,(t25.2.2.1.2.1,(t25.2.2.1.2.2.1,t25.2.2.1.2.2.2))),t25.2.2.2)))]
 bif (decide ((v.2.2.2.1.length+t26.length)*152<=140737488355328)&&decide (v.2.2.2.1.length+t26.length<=9223372036854775807)) then
 k0 (v.1,v.2.1,v.2.2.1,(v.2.2.2.1++t26),v.2.2.2.2.1,v.2.2.2.2.2.1,())
 else none
 else none
 else
 bif ((decide (0<=y15))&&(decide (y15<(v.2.2.1.length:Int)))) then
 bif (!(v.2.2.1.getD (Int.toNat y15) false)) then
 bif ((decide (0<=v.2.1))&&(decide (v.2.1<(v.1.length:Int)))) then
 let t27:=(v.1.getD (Int.toNat v.2.1) (0,((ByteArray.empty,(ByteArray.empty,(ByteArray.empty,(ByteArray.empty,(ByteArray.empty,false))))),((ByteArray.empty,(0,(0,false))),ByteArray.empty))))
 let t28:=[(t27.1,((t27.2.1.1,(t27.2.1.2.1,(t27.2.1.2.2.1,(t27.2.1.2.2.2.1,(t27.2.1.2.2.2.2.1,t27.2.1.2.2.2.2.2))))),((t27.2.2.1.1,(t27.2.2.1.2.1,(t27.2.2.1.2.2.1,t27.2.2.1.2.2.2))),t27.2.2.2)))]
 bif (decide ((v.2.2.2.1.length+t28.length)*152<=140737488355328)&&decide (v.2.2.2.1.length+t28.length<=9223372036854775807)) then
 k0 (v.1,v.2.1,v.2.2.1,(v.2.2.2.1++t28),v.2.2.2.2.1,v.2.2.2.2.2.1,())
 else none
 else none
 else
 k0 (v.1,v.2.1,v.2.2.1,v.2.2.2.1,v.2.2.2.2.1,v.2.2.2.2.2.1,())
 else none
 else none
 else
 bif (y15==(-1)) then
 bif ((decide (0<=v.2.1))&&(decide (v.2.1<(v.1.length:Int)))) then
 let t29:=(v.1.getD (Int.toNat v.2.1) (0,((ByteArray.empty,(ByteArray.empty,(ByteArray.empty,(ByteArray.empty,(ByteArray.empty,false))))),((ByteArray.empty,(0,(0,false))),ByteArray.empty))))
 let t30:=[(t29.1,((t29.2.1.1,(t29.2.1.2.1,(t29.2.1.2.2.1,(t29.2.1.2.2.2.1,(t29.2.1.2.2.2.2.1,t29.2.1.2.2.2.2.2))))),((t29.2.2.1.1,(t29.2.2.1.2.1,(t29.2.2.1.2.2.1,t29.2.2.1.2.2.2))),t29.2.2.2)))]
 bif (decide ((v.2.2.2.1.length+t30.length)*152<=140737488355328)&&decide (v.2.2.2.1.length+t30.length<=9223372036854775807)) then
 k0 (v.1,v.2.1,v.2.2.1,(v.2.2.2.1++t30),v.2.2.2.2.1,v.2.2.2.2.2.1,())
 else none
 else none
 else
 bif ((decide (0<=v.2.1))&&(decide (v.2.1<(v.1.length:Int)))) then
 let t31:=(v.1.getD (Int.toNat v.2.1) (0,((ByteArray.empty,(ByteArray.empty,(ByteArray.empty,(ByteArray.empty,(ByteArray.empty,false))))),((ByteArray.empty,(0,(0,false))),ByteArray.empty))))
 let t32:=[(t31.1,((t31.2.1.1,(t31.2.1.2.1,(t31.2.1.2.2.1,(t31.2.1.2.2.2.1,(t31.2.1.2.2.2.2.1,t31.2.1.2.2.2.2.2))))),((t31.2.2.1.1,(t31.2.2.1.2.1,(t31.2.2.1.2.2.1,t31.2.2.1.2.2.2))),t31.2.2.2)))]
 bif (decide ((v.2.2.2.1.length+t32.length)*152<=140737488355328)&&decide (v.2.2.2.1.length+t32.length<=9223372036854775807)) then
 k0 (v.1,v.2.1,v.2.2.1,(v.2.2.2.1++t32),v.2.2.2.2.1,v.2.2.2.2.2.1,())
 else none
 else none
 else none
 else none
 else none
noncomputable def f707p3S (k:Nat):=partSum ⟨[(1,.one (.ro (.pair (.int .i64) Y19))),(5,.one (.ptr 0 0)),(7,.one (.own 1)),(10,.one (.own 2)),(11,oI)],[(0,.var 25 [.own 3,.own 4]),(1,.row 4 .bool .plain),(2,.row 73 (.pair (.int .i64) Y19) .plain),(3,.row 82 Y10 .plain),(4,.row 69 (.pair .str Y5) .plain)],5,[]⟩ ⟨[1,5,7,10,11],[],[]⟩ fun R K v=>f707p3 k (fun w=>K .normal (encSt ⟨[(1,.one (.ro (.pair (.int .i64) Y19))),(5,.one (.ptr 0 0)),(7,.one (.own 1)),(10,.one (.own 2)),(11,oI)],[(0,.var 25 [.own 3,.own 4]),(1,.row 4 .bool .plain),(2,.row 73 (.pair (.int .i64) Y19) .plain),(3,.row 82 Y10 .plain),(4,.row 69 (.pair .str Y5) .plain)],5,[]⟩ w)) v
theorem f707p3O (k:Nat):SumO P Tryz.f7 32722 (f707p3S k):=pt tm (f707T k) ⟨[1,4,5,7,10,11,14,15,17,19,21],[],[]⟩ SumsOk.nil fun _ _ _=>by kernel_rfl
noncomputable def f707l4s {R:Type}(k:Nat)(rec:D204->Option R)(k0:D201->Option R)(v:D204):Option R :=
 bif (decide (v.2.1<(v.1.length:Int))) then
 f707p3 k
 (fun (w33:D204) =>
 rec (w33.1,(IntKind.i64.wrap (w33.2.1+1)),w33.2.2.1,w33.2.2.2.1,w33.2.2.2.2.1,w33.2.2.2.2.2.1,()))
 (v.1,v.2.1,v.2.2.1,v.2.2.2.1,v.2.2.2.2.1,v.2.2.2.2.2.1,())
 else
 k0 (v.2.2.2.1,v.2.2.2.2.1,v.2.2.2.2.2.1,())
noncomputable def f707l4 {R:Type}(k:Nat)(k0:D201->Option R)(v:D204):Option R:=iterS (fun rec v=>f707l4s k rec k0 v) k v
noncomputable def f707l4S (k:Nat):=loopSum ⟨[(1,.one (.ro (.pair (.int .i64) Y19))),(5,.one (.ptr 0 0)),(7,.one (.own 1)),(10,.one (.own 2)),(11,oI)],[(0,.var 25 [.own 3,.own 4]),(1,.row 4 .bool .plain),(2,.row 73 (.pair (.int .i64) Y19) .plain),(3,.row 82 Y10 .plain),(4,.row 69 (.pair .str Y5) .plain)],5,[]⟩ ⟨[1,5,7,10,11],[(10,73,(.pair (.int .i64) Y19))],[]⟩ k fun R rec K v=>f707l4s k rec (fun w=>K (.exit 4) (encSt ⟨[(5,.one (.ptr 0 0)),(10,.one (.own 1))],[(0,.var 25 [.own 2,.own 3]),(1,.row 73 (.pair (.int .i64) Y19) .plain),(2,.row 82 Y10 .plain),(3,.row 69 (.pair .str Y5) .plain)],4,[]⟩ w)) v
theorem f707l4O (k:Nat):SumO P Tryz.f7 4090 (f707l4S k):=lp tm (f707T k) ⟨[4,5,10],[],[]⟩ (SumsOk.nil |>.s (f707p3O k) (by kernel_rfl)) (by kernel_rfl) fun _ _ _ _=>by kernel_rfl
noncomputable def f707p5 {R:Type}(k:Nat)(k0:D205->Option R)(v:D205):Option R :=
 bif ((decide (0<=v.2.2.1))&&(decide (v.2.2.1<(v.2.2.2.2.2.2.2.1.length:Int)))) then
 let t53:=(v.2.2.2.2.2.2.2.1.getD (Int.toNat v.2.2.1) (ByteArray.empty,(0,(false,(0,[])))))
 bif ((decide (0<=v.2.2.2.2.1))&&(decide (v.2.2.2.2.1<(t53.2.2.2.2.length:Int)))) then
 let t54:=(t53.2.2.2.2.getD (Int.toNat v.2.2.2.2.1) (0,(0,(ByteArray.empty,(ByteArray.empty,(ByteArray.empty,(false,(false,0))))))))
 bif (t54.2.1==2) then
 bif (strEq t54.2.2.2.2.1 v.2.2.2.2.2.2.2.2.2.2.2.1) then
 bif ((decide (0<=v.1))&&(decide (v.1<(v.2.2.2.2.2.2.2.2.1.length:Int)))) then
 let t55:=(v.2.2.2.2.2.2.2.2.1.getD (Int.toNat v.1) (0,(0,(0,(0,(ByteArray.empty,(ByteArray.empty,(ByteArray.empty,(false,(false,0)))))))))).2.1
 Option.bind (f69F k (t54.2.2.2.2.2.2.2==t55)) fun y56 =>
 k0 (v.1,v.2.1,v.2.2.1,(IntKind.i64.wrap (v.2.2.2.1+y56)),v.2.2.2.2.1,v.2.2.2.2.2.1,v.2.2.2.2.2.2.1,v.2.2.2.2.2.2.2.1,v.2.2.2.2.2.2.2.2.1,v.2.2.2.2.2.2.2.2.2.1,v.2.2.2.2.2.2.2.2.2.2.1,v.2.2.2.2.2.2.2.2.2.2.2.1,v.2.2.2.2.2.2.2.2.2.2.2.2.1,v.2.2.2.2.2.2.2.2.2.2.2.2.2.1,v.2.2.2.2.2.2.2.2.2.2.2.2.2.2.1,v.2.2.2.2.2.2.2.2.2.2.2.2.2.2.2.1,v.2.2.2.2.2.2.2.2.2.2.2.2.2.2.2.2.1,v.2.2.2.2.2.2.2.2.2.2.2.2.2.2.2.2.2.1,v.2.2.2.2.2.2.2.2.2.2.2.2.2.2.2.2.2.2.1,v.2.2.2.2.2.2.2.2.2.2.2.2.2.2.2.2.2.2.2.1,v.2.2.2.2.2.2.2.2.2.2.2.2.2.2.2.2.2.2.2.2.1,())
 else none
 else
 Option.bind (f69F k false) fun y57 =>
 k0 (v.1,v.2.1,v.2.2.1,(IntKind.i64.wrap (v.2.2.2.1+y57)),v.2.2.2.2.1,v.2.2.2.2.2.1,v.2.2.2.2.2.2.1,v.2.2.2.2.2.2.2.1,v.2.2.2.2.2.2.2.2.1,v.2.2.2.2.2.2.2.2.2.1,v.2.2.2.2.2.2.2.2.2.2.1,v.2.2.2.2.2.2.2.2.2.2.2.1,v.2.2.2.2.2.2.2.2.2.2.2.2.1,v.2.2.2.2.2.2.2.2.2.2.2.2.2.1,v.2.2.2.2.2.2.2.2.2.2.2.2.2.2.1,v.2.2.2.2.2.2.2.2.2.2.2.2.2.2.2.1,v.2.2.2.2.2.2.2.2.2.2.2.2.2.2.2.2.1,v.2.2.2.2.2.2.2.2.2.2.2.2.2.2.2.2.2.1,v.2.2.2.2.2.2.2.2.2.2.2.2.2.2.2.2.2.2.1,v.2.2.2.2.2.2.2.2.2.2.2.2.2.2.2.2.2.2.2.1,v.2.2.2.2.2.2.2.2.2.2.2.2.2.2.2.2.2.2.2.2.1,())
 else
 Option.bind (f69F k false) fun y58 =>
 k0 (v.1,v.2.1,v.2.2.1,(IntKind.i64.wrap (v.2.2.2.1+y58)),v.2.2.2.2.1,v.2.2.2.2.2.1,v.2.2.2.2.2.2.1,v.2.2.2.2.2.2.2.1,v.2.2.2.2.2.2.2.2.1,v.2.2.2.2.2.2.2.2.2.1,v.2.2.2.2.2.2.2.2.2.2.1,v.2.2.2.2.2.2.2.2.2.2.2.1,v.2.2.2.2.2.2.2.2.2.2.2.2.1,v.2.2.2.2.2.2.2.2.2.2.2.2.2.1,v.2.2.2.2.2.2.2.2.2.2.2.2.2.2.1,v.2.2.2.2.2.2.2.2.2.2.2.2.2.2.2.1,v.2.2.2.2.2.2.2.2.2.2.2.2.2.2.2.2.1,v.2.2.2.2.2.2.2.2.2.2.2.2.2.2.2.2.2.1,v.2.2.2.2.2.2.2.2.2.2.2.2.2.2.2.2.2.2.1,v.2.2.2.2.2.2.2.2.2.2.2.2.2.2.2.2.2.2.2.1,v.2.2.2.2.2.2.2.2.2.2.2.2.2.2.2.2.2.2.2.2.1,())
 else none
 else none
noncomputable def f707p5S (k:Nat):=partSum ⟨[(10,.one (.own 0)),(14,.one (.ptr 1 0)),(15,.one (.own 2)),(17,oI),(18,.one (.ptr 3 0)),(19,oI),(20,oI),(21,oI),(22,oI)],[(0,.row 73 (.pair (.int .i64) Y19) .frz),(1,.var 25 [.ro Y10,.ro (.pair .str Y5)]),(2,.row 75 Y20 .plain),(3,.var 73 [.int .i64,.str,.str,.str,.str,.str,.bool,.str,.int .i64,.int .i64,.bool,.str])],4,[]⟩ ⟨[10,14,15,17,18,19,20,21,22],[],[]⟩ fun R K v=>f707p5 k (fun w=>K .normal (encSt ⟨[(10,.one (.own 0)),(14,.one (.ptr 1 0)),(15,.one (.own 2)),(17,oI),(18,.one (.ptr 3 0)),(19,oI),(20,oI),(21,oI),(22,oI)],[(0,.row 73 (.pair (.int .i64) Y19) .frz),(1,.var 25 [.ro Y10,.ro (.pair .str Y5)]),(2,.row 75 Y20 .plain),(3,.var 73 [.int .i64,.str,.str,.str,.str,.str,.bool,.str,.int .i64,.int .i64,.bool,.str])],4,[]⟩ w)) v
theorem f707p5O (k:Nat):SumO P Tryz.f7 1073555410 (f707p5S k):=pt tm (f707T k) ⟨[1,4,5,7,10,14,15,17,18,19,20,21,22],[],[]⟩ SumsOk.nil fun _ _ _=>by kernel_rfl
noncomputable def f707l6s {R:Type}(k:Nat)(rec:D205->Option R)(k0:D206->Option R)(v:D205):Option R :=
 bif ((decide (0<=v.2.2.1))&&(decide (v.2.2.1<(v.2.2.2.2.2.2.2.1.length:Int)))) then
 let t52:=(v.2.2.2.2.2.2.2.1.getD (Int.toNat v.2.2.1) (ByteArray.empty,(0,(false,(0,[])))))
 bif (decide (v.2.2.2.2.1<(t52.2.2.2.2.length:Int))) then
 f707p5 k
 (fun (w59:D205) =>
 rec (w59.1,w59.2.1,w59.2.2.1,w59.2.2.2.1,(IntKind.i64.wrap (w59.2.2.2.2.1+1)),w59.2.2.2.2.2.1,w59.2.2.2.2.2.2.1,w59.2.2.2.2.2.2.2.1,w59.2.2.2.2.2.2.2.2.1,w59.2.2.2.2.2.2.2.2.2.1,w59.2.2.2.2.2.2.2.2.2.2.1,w59.2.2.2.2.2.2.2.2.2.2.2.1,w59.2.2.2.2.2.2.2.2.2.2.2.2.1,w59.2.2.2.2.2.2.2.2.2.2.2.2.2.1,w59.2.2.2.2.2.2.2.2.2.2.2.2.2.2.1,w59.2.2.2.2.2.2.2.2.2.2.2.2.2.2.2.1,w59.2.2.2.2.2.2.2.2.2.2.2.2.2.2.2.2.1,w59.2.2.2.2.2.2.2.2.2.2.2.2.2.2.2.2.2.1,w59.2.2.2.2.2.2.2.2.2.2.2.2.2.2.2.2.2.2.1,w59.2.2.2.2.2.2.2.2.2.2.2.2.2.2.2.2.2.2.2.1,w59.2.2.2.2.2.2.2.2.2.2.2.2.2.2.2.2.2.2.2.2.1,()))
 (v.1,v.2.1,v.2.2.1,v.2.2.2.1,v.2.2.2.2.1,v.2.2.2.2.2.1,v.2.2.2.2.2.2.1,v.2.2.2.2.2.2.2.1,v.2.2.2.2.2.2.2.2.1,v.2.2.2.2.2.2.2.2.2.1,v.2.2.2.2.2.2.2.2.2.2.1,v.2.2.2.2.2.2.2.2.2.2.2.1,v.2.2.2.2.2.2.2.2.2.2.2.2.1,v.2.2.2.2.2.2.2.2.2.2.2.2.2.1,v.2.2.2.2.2.2.2.2.2.2.2.2.2.2.1,v.2.2.2.2.2.2.2.2.2.2.2.2.2.2.2.1,v.2.2.2.2.2.2.2.2.2.2.2.2.2.2.2.2.1,v.2.2.2.2.2.2.2.2.2.2.2.2.2.2.2.2.2.1,v.2.2.2.2.2.2.2.2.2.2.2.2.2.2.2.2.2.2.1,v.2.2.2.2.2.2.2.2.2.2.2.2.2.2.2.2.2.2.2.1,v.2.2.2.2.2.2.2.2.2.2.2.2.2.2.2.2.2.2.2.2.1,())
 else
 k0 (v.1,v.2.1,v.2.2.2.1,v.2.2.2.2.2.1,v.2.2.2.2.2.2.1,v.2.2.2.2.2.2.2.1,v.2.2.2.2.2.2.2.2.1,())
 else none
noncomputable def f707l6 {R:Type}(k:Nat)(k0:D206->Option R)(v:D205):Option R:=iterS (fun rec v=>f707l6s k rec k0 v) k v
noncomputable def f707l6S (k:Nat):=loopSum ⟨[(10,.one (.own 0)),(14,.one (.ptr 1 0)),(15,.one (.own 2)),(17,oI),(18,.one (.ptr 3 0)),(19,oI),(20,oI),(21,oI),(22,oI)],[(0,.row 73 (.pair (.int .i64) Y19) .frz),(1,.var 25 [.ro Y10,.ro (.pair .str Y5)]),(2,.row 75 Y20 .plain),(3,.var 73 [.int .i64,.str,.str,.str,.str,.str,.bool,.str,.int .i64,.int .i64,.bool,.str])],4,[]⟩ ⟨[10,14,15,17,18,19,20,21,22],[],[]⟩ k fun R rec K v=>f707l6s k rec (fun w=>K (.exit 8) (encSt ⟨[(10,.one (.own 0)),(14,.one (.ptr 1 0)),(15,.one (.own 2)),(17,oI),(19,oI),(21,oI)],[(0,.row 73 (.pair (.int .i64) Y19) .frz),(1,.var 25 [.ro Y10,.ro (.pair .str Y5)]),(2,.row 75 Y20 .plain)],3,[]⟩ w)) v
theorem f707l6O (k:Nat):SumO P Tryz.f7 134194426 (f707l6S k):=lp tm (f707T k) ⟨[4,10,14,15,17,19,21],[],[]⟩ (SumsOk.nil |>.s (f707p5O k) (by kernel_rfl)) (by kernel_rfl) fun _ _ _ _=>by kernel_rfl
noncomputable def f707p7 {R:Type}(k:Nat)(k0:D207->Option R)(k1:D208->Option R)(k2:D209->Option R)(k3:D206->Option R)(v:D207):Option R :=
 bif ((decide (0<=v.1))&&(decide (v.1<(v.2.1.length:Int)))) then
 let t37:=(v.2.1.getD (Int.toNat v.1) (0,((ByteArray.empty,(ByteArray.empty,(ByteArray.empty,(ByteArray.empty,(ByteArray.empty,false))))),((ByteArray.empty,(0,(0,false))),ByteArray.empty)))).1
 let t38:=(v.2.1.getD (Int.toNat v.1) (0,((ByteArray.empty,(ByteArray.empty,(ByteArray.empty,(ByteArray.empty,(ByteArray.empty,false))))),((ByteArray.empty,(0,(0,false))),ByteArray.empty)))).2.1.1
 let t39:=(v.2.1.getD (Int.toNat v.1) (0,((ByteArray.empty,(ByteArray.empty,(ByteArray.empty,(ByteArray.empty,(ByteArray.empty,false))))),((ByteArray.empty,(0,(0,false))),ByteArray.empty)))).2.1.2.1
 let t40:=(v.2.1.getD (Int.toNat v.1) (0,((ByteArray.empty,(ByteArray.empty,(ByteArray.empty,(ByteArray.empty,(ByteArray.empty,false))))),((ByteArray.empty,(0,(0,false))),ByteArray.empty)))).2.1.2.2.1
 let t41:=(v.2.1.getD (Int.toNat v.1) (0,((ByteArray.empty,(ByteArray.empty,(ByteArray.empty,(ByteArray.empty,(ByteArray.empty,false))))),((ByteArray.empty,(0,(0,false))),ByteArray.empty)))).2.1.2.2.2.1
 let t42:=(v.2.1.getD (Int.toNat v.1) (0,((ByteArray.empty,(ByteArray.empty,(ByteArray.empty,(ByteArray.empty,(ByteArray.empty,false))))),((ByteArray.empty,(0,(0,false))),ByteArray.empty)))).2.1.2.2.2.2.1
 let t43:=(v.2.1.getD (Int.toNat v.1) (0,((ByteArray.empty,(ByteArray.empty,(ByteArray.empty,(ByteArray.empty,(ByteArray.empty,false))))),((ByteArray.empty,(0,(0,false))),ByteArray.empty)))).2.1.2.2.2.2.2
 let t44:=(v.2.1.getD (Int.toNat v.1) (0,((ByteArray.empty,(ByteArray.empty,(ByteArray.empty,(ByteArray.empty,(ByteArray.empty,false))))),((ByteArray.empty,(0,(0,false))),ByteArray.empty)))).2.2.1.1
 let t45:=(v.2.1.getD (Int.toNat v.1) (0,((ByteArray.empty,(ByteArray.empty,(ByteArray.empty,(ByteArray.empty,(ByteArray.empty,false))))),((ByteArray.empty,(0,(0,false))),ByteArray.empty)))).2.2.1.2.1
 let t46:=(v.2.1.getD (Int.toNat v.1) (0,((ByteArray.empty,(ByteArray.empty,(ByteArray.empty,(ByteArray.empty,(ByteArray.empty,false))))),((ByteArray.empty,(0,(0,false))),ByteArray.empty)))).2.2.1.2.2.1
 let t47:=(v.2.1.getD (Int.toNat v.1) (0,((ByteArray.empty,(ByteArray.empty,(ByteArray.empty,(ByteArray.empty,(ByteArray.empty,false))))),((ByteArray.empty,(0,(0,false))),ByteArray.empty)))).2.2.1.2.2.2
 let t48:=(v.2.1.getD (Int.toNat v.1) (0,((ByteArray.empty,(ByteArray.empty,(ByteArray.empty,(ByteArray.empty,(ByteArray.empty,false))))),((ByteArray.empty,(0,(0,false))),ByteArray.empty)))).2.2.2
 bif (t37 !=0) then
 k0 (v.1,v.2.1,v.2.2.1,v.2.2.2.1,v.2.2.2.2.1,())
 else
 bif (!t43) then
 k0 (v.1,v.2.1,v.2.2.1,v.2.2.2.1,v.2.2.2.2.1,())
 else
 bif ((decide (0<=v.1))&&(decide (v.1<(v.2.2.2.2.1.length:Int)))) then
 let t49:=(v.2.2.2.2.1.getD (Int.toNat v.1) (0,(0,(0,(0,(ByteArray.empty,(ByteArray.empty,(ByteArray.empty,(false,(false,0)))))))))).1
 bif (t49 !=0) then
 k0 (v.1,v.2.1,v.2.2.1,v.2.2.2.1,v.2.2.2.2.1,())
 else
 Option.bind (f731F k ((v.2.2.1,v.2.2.2.1),t39)) fun y50 =>
 Option.bind (f731F k ((v.2.2.1,v.2.2.2.1),t38)) fun y51 =>
 bif (y50==(-1)) then
 k1 (false,v.1,y50,v.2.1,v.2.2.1,v.2.2.2.1,v.2.2.2.2.1,())
 else
 bif (y51==(-1)) then
 k1 (false,v.1,y50,v.2.1,v.2.2.1,v.2.2.2.1,v.2.2.2.2.1,())
 else
 f707l6 k
 (fun (w60:D206) =>
 bif ((decide (0<=w60.2.1))&&(decide (w60.2.1<(w60.2.2.2.2.2.1.length:Int)))) then
 let t61:=(w60.2.2.2.2.2.1.getD (Int.toNat w60.2.1) (ByteArray.empty,(0,(false,(0,[])))))
 bif ((decide (0<=w60.1))&&(decide (w60.1<(w60.2.2.2.2.2.2.1.length:Int)))) then
 let t62:=(w60.2.2.2.2.2.2.1.getD (Int.toNat w60.1) (0,(0,(0,(0,(ByteArray.empty,(ByteArray.empty,(ByteArray.empty,(false,(false,0)))))))))).2.1
 Option.bind (f733F k ((t61.1,(t61.2.1,(t61.2.2.1,(t61.2.2.2.1,t61.2.2.2.2)))),t62)) fun y63 =>
 bif (y63 !=(-1)) then
 bif ((decide (0<=w60.2.1))&&(decide (w60.2.1<(w60.2.2.2.2.2.1.length:Int)))) then
 let t64:=(w60.2.2.2.2.2.1.getD (Int.toNat w60.2.1) (ByteArray.empty,(0,(false,(0,[])))))
 bif ((decide (0<=y63))&&(decide (y63<(t64.2.2.2.2.length:Int)))) then
 let t65:=(t64.2.2.2.2.getD (Int.toNat y63) (0,(0,(ByteArray.empty,(ByteArray.empty,(ByteArray.empty,(false,(false,0))))))))
 Option.bind (f69F k (!(!t65.2.2.2.2.2.2.1))) fun y66 =>
 bif (w60.2.2.1 !=y66) then
 k2 (false,w60.1,w60.2.1,w60.2.2.1,w60.2.2.2.1,w60.2.2.2.2.1,w60.2.2.2.2.2.1,w60.2.2.2.2.2.2.1,())
 else
 k3 (w60.1,w60.2.1,w60.2.2.1,w60.2.2.2.1,w60.2.2.2.2.1,w60.2.2.2.2.2.1,w60.2.2.2.2.2.2.1,())
 else none
 else none
 else
 Option.bind (f69F k true) fun y67 =>
 bif (w60.2.2.1 !=y67) then
 k2 (false,w60.1,w60.2.1,w60.2.2.1,w60.2.2.2.1,w60.2.2.2.2.1,w60.2.2.2.2.2.1,w60.2.2.2.2.2.2.1,())
 else
 k3 (w60.1,w60.2.1,w60.2.2.1,w60.2.2.2.1,w60.2.2.2.2.1,w60.2.2.2.2.2.1,w60.2.2.2.2.2.2.1,())
 else none
 else none)
 (v.1,y50,y51,0,0,v.2.1,v.2.2.1,v.2.2.2.1,v.2.2.2.2.1,t37,t38,t39,t40,t41,t42,t43,t44,t45,t46,t47,t48,())
 else none
 else none
noncomputable def f707p7S (k:Nat):=partSum ⟨[(10,.one (.own 0)),(14,.one (.ptr 1 0)),(15,.one (.own 2)),(17,oI)],[(0,.row 73 (.pair (.int .i64) Y19) .frz),(1,.var 25 [.ro Y10,.ro (.pair .str Y5)]),(2,.row 75 Y20 .plain)],3,[]⟩ ⟨[10,14,15,17],[],[]⟩ fun R K v=>f707p7 k (fun w=>K .normal (encSt ⟨[(10,.one (.own 0)),(14,.one (.ptr 1 0)),(15,.one (.own 2)),(17,oI)],[(0,.row 73 (.pair (.int .i64) Y19) .frz),(1,.var 25 [.ro Y10,.ro (.pair .str Y5)]),(2,.row 75 Y20 .plain)],3,[]⟩ w)) (fun w=>K .ret (encSt ⟨[(4,oB),(10,.one (.own 0)),(14,.one (.ptr 1 0)),(15,.one (.own 2)),(17,oI),(19,oI)],[(0,.row 73 (.pair (.int .i64) Y19) .frz),(1,.var 25 [.ro Y10,.ro (.pair .str Y5)]),(2,.row 75 Y20 .plain)],3,[]⟩ w)) (fun w=>K .ret (encSt ⟨[(4,oB),(10,.one (.own 0)),(14,.one (.ptr 1 0)),(15,.one (.own 2)),(17,oI),(19,oI),(21,oI)],[(0,.row 73 (.pair (.int .i64) Y19) .frz),(1,.var 25 [.ro Y10,.ro (.pair .str Y5)]),(2,.row 75 Y20 .plain)],3,[]⟩ w)) (fun w=>K .normal (encSt ⟨[(10,.one (.own 0)),(14,.one (.ptr 1 0)),(15,.one (.own 2)),(17,oI),(19,oI),(21,oI)],[(0,.row 73 (.pair (.int .i64) Y19) .frz),(1,.var 25 [.ro Y10,.ro (.pair .str Y5)]),(2,.row 75 Y20 .plain)],3,[]⟩ w)) v
theorem f707p7O (k:Nat):SumO P Tryz.f7 262098 (f707p7S k):=pt tm (f707T k) ⟨[1,4,5,7,10,14,15,17,19,21],[],[]⟩ (SumsOk.nil |>.s (f707l6O k) (by kernel_rfl) |>.s (f707p5O k) (by kernel_rfl)) fun _ _ _=>by kernel_rfl
noncomputable def f707l8s {R:Type}(k:Nat)(rec:D207->Option R)(k0:Bool×Unit->Option R)(k1:Unit->Option R)(v:D207):Option R :=
 bif (decide (v.1<(v.2.1.length:Int))) then
 f707p7 k
 (fun (w68:D207) =>
 rec ((IntKind.i64.wrap (w68.1+1)),w68.2.1,w68.2.2.1,w68.2.2.2.1,w68.2.2.2.2.1,()))
 (fun (w69:D208) =>
 k0 (w69.1,()))
 (fun (w70:D209) =>
 k0 (w70.1,()))
 (fun (w71:D206) =>
 rec ((IntKind.i64.wrap (w71.1+1)),w71.2.2.2.1,w71.2.2.2.2.1,w71.2.2.2.2.2.1,w71.2.2.2.2.2.2.1,()))
 (v.1,v.2.1,v.2.2.1,v.2.2.2.1,v.2.2.2.2.1,())
 else
 k1 (())
noncomputable def f707l8 {R:Type}(k:Nat)(k0:Bool×Unit->Option R)(k1:Unit->Option R)(v:D207):Option R:=iterS (fun rec v=>f707l8s k rec k0 k1 v) k v
noncomputable def f707l8S (k:Nat):=loopSum ⟨[(10,.one (.own 0)),(14,.one (.ptr 1 0)),(15,.one (.own 2)),(17,oI)],[(0,.row 73 (.pair (.int .i64) Y19) .frz),(1,.var 25 [.ro Y10,.ro (.pair .str Y5)]),(2,.row 75 Y20 .plain)],3,[]⟩ ⟨[10,14,15,17],[],[]⟩ k fun R rec K v=>f707l8s k rec (fun w=>K .ret (encSt ⟨[(4,oB)],[],0,[]⟩ w)) (fun w=>K (.exit 6) (encSt ⟨[],[],0,[]⟩ w)) v
theorem f707l8O (k:Nat):SumO P Tryz.f7 32762 (f707l8S k):=lp tm (f707T k) ⟨[4],[],[]⟩ (SumsOk.nil |>.s (f707p7O k) (by kernel_rfl) |>.s (f707l6O k) (by kernel_rfl) |>.s (f707p5O k) (by kernel_rfl)) (by kernel_rfl) fun _ _ _ _=>by kernel_rfl
noncomputable def f707F (k:Nat)(x:D194):Option (Bool) :=
 Option.bind (f712F k ()) fun y1 =>
 bif (!y1) then
 some false
 else
 Option.bind (f713F k (x.1.1,x.1.2)) fun y2 =>
 bif (!y2) then
 some true
 else
 Option.bind (f725F k x.2) fun y3 =>
 bif (!y3) then
 some true
 else
 bif (decide ((x.2.length:Int) > 60)) then
 some true
 else
 Option.bind (f727F k (x.1.1,x.1.2)) fun y4 =>
 bif (y4 !=0) then
 some true
 else
 Option.bind (f730v0F k (x.1.1,x.1.2,())) fun y5 =>
 f707l0 k
 (fun (w7:D201) =>
 bif (((decide (0<=(w7.2.2.1.length:Int)))&&(decide (((w7.2.2.1.length:Int)*1)<=140737488355328)))&&(decide ((w7.2.2.1.length:Int)<=281474976710656))) then
 f707l2 k
 (fun (w13:D203) =>
 f707l4 k
 (fun (w34:D201) =>
 Option.bind (f716F k (w34.2.1,w34.2.2.1)) fun y35 =>
 Option.bind (f726F k ((y35.1,y35.2),w34.1)) fun y36 =>
 bif (y36.2.2 !=0) then
 some false
 else
 bif ((y36.2.1.length:Int) !=(w34.1.length:Int)) then
 some false
 else
 bif ((y36.1.2.length:Int) !=(w34.2.2.1.length:Int)) then
 some false
 else
 f707l8 k
 (fun (w72:Bool×Unit) =>
 some w72.1)
 (fun (w73:Unit) =>
 some true)
 (0,w34.1,y36.1.1,y36.1.2,y36.2.1,()))
 (w13.1,0,w13.2.1,[],w13.2.2.1,w13.2.2.2.1,()))
 (w7.1,0,(List.replicate (Int.toNat (w7.2.2.1.length:Int)) false),w7.2.1,w7.2.2.1,())
 else none)
 (x.2,0,y5.1,y5.2.1,())
theorem f707Ok (k:Nat):FnV P 7 [.agg Y11,.dat (.slice (.pair (.int .i64) Y19))] [.dat .bool] (f707F k) :=
 fs tm (f707T k) Tryz.func7 (by kernel_rfl) (SumsOk.nil |>.s (f707l8O k) (by kernel_rfl) |>.s (f707p7O k) (by kernel_rfl) |>.s (f707l6O k) (by kernel_rfl) |>.s (f707p5O k) (by kernel_rfl) |>.s (f707l4O k) (by kernel_rfl) |>.s (f707p3O k) (by kernel_rfl) |>.s (f707l2O k) (by kernel_rfl) |>.s (f707p1O k) (by kernel_rfl) |>.s (f707l0O k) (by kernel_rfl)) none fun _=>by kernel_rfl
end Go.Proofs.YthcmomgkfjjajaaGreatDoor
