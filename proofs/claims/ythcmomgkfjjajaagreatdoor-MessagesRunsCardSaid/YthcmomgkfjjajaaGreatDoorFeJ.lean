import Derived.Test.YthcmomgkfjjajaaGreatDoorFdJ
import Derived.Test.YthcmomgkfjjajaaGreatDoorProg
set_option linter.unusedVariables false
set_option maxRecDepth 100000
namespace Go.Proofs.YthcmomgkfjjajaaGreatDoor
open Go.Ab
noncomputable def f735l0s {R:Type}(k:Nat)(rec:D152->Option R)(k0:Bool×Unit->Option R)(k1:Unit->Option R)(v:D152):Option R :=
 bif (decide (v.1<(v.2.2.2.2.2.2.2.1.length:Int))) then
 bif ((decide (0<=v.1))&&(decide (v.1<(v.2.2.2.2.2.2.2.1.length:Int)))) then
 let t1:=(decide (((v.2.2.2.2.2.2.2.1.getD (Int.toNat v.1) ByteArray.empty).size:Int) > 100))
 bif t1 then
 k0 (false,())
 else
 rec ((IntKind.i64.wrap (v.1+1)),v.2.1,v.2.2.1,v.2.2.2.1,v.2.2.2.2.1,v.2.2.2.2.2.1,v.2.2.2.2.2.2.1,v.2.2.2.2.2.2.2.1,())
 else none
 else
 k1 (())
noncomputable def f735l0 {R:Type}(k:Nat)(k0:Bool×Unit->Option R)(k1:Unit->Option R)(v:D152):Option R:=iterS (fun rec v=>f735l0s k rec k0 k1 v) k v
noncomputable def f735l0S (k:Nat):=loopSum ⟨[(1,.one (.ptr 0 0)),(3,oI)],[(0,.var 82 [.str,.int .i64,.str,.str,.ro (.pair (.int .i64) Y6),.str,.ro .str])],1,[]⟩ ⟨[1,3],[],[]⟩ k fun R rec K v=>f735l0s k rec (fun w=>K .ret (encSt ⟨[(2,oB)],[],0,[]⟩ w)) (fun w=>K (.exit 0) (encSt ⟨[],[],0,[]⟩ w)) v
theorem f735l0O (k:Nat):SumO P Tryz.f35 58 (f735l0S k):=lp tm TB.nil ⟨[2],[],[]⟩ SumsOk.nil (by kernel_rfl) fun _ _ _ _=>by kernel_rfl
noncomputable def f735F (k:Nat)(x:D13):Option (Bool) :=
 bif (decide ((x.2.2.2.2.1.length:Int) > 12)) then
 some false
 else
 bif (decide ((x.2.2.2.2.2.2.length:Int) > 12)) then
 some false
 else
 bif (decide ((x.2.2.1.size:Int) > 400)) then
 some false
 else
 bif (decide ((x.2.2.2.1.size:Int) > 400)) then
 some false
 else
 bif (decide ((x.2.2.2.2.2.1.size:Int) > 100)) then
 some false
 else
 f735l0 k
 (fun (w2:Bool×Unit) =>
 some w2.1)
 (fun (w3:Unit) =>
 some true)
 (0,x.1,x.2.1,x.2.2.1,x.2.2.2.1,x.2.2.2.2.1,x.2.2.2.2.2.1,x.2.2.2.2.2.2,())
theorem f735Ok (k:Nat):FnV P 35 [.agg Y10] [.dat .bool] (f735F k) :=
 fs tm TB.nil Tryz.func35 (by kernel_rfl) (SumsOk.nil |>.s (f735l0O k) (by kernel_rfl)) none fun _=>by kernel_rfl
noncomputable def f745T (k:Nat):TB P:=TB.nil |>.u (f735Ok k)
noncomputable def f745l0s {R:Type}(k:Nat)(rec:List D13×Int×Unit->Option R)(k0:Bool×Unit->Option R)(k1:Unit->Option R)(v:List D13×Int×Unit):Option R :=
 bif (decide (v.2.1<(v.1.length:Int))) then
 bif ((decide (0<=v.2.1))&&(decide (v.2.1<(v.1.length:Int)))) then
 let t1:=(v.1.getD (Int.toNat v.2.1) (ByteArray.empty,(0,(ByteArray.empty,(ByteArray.empty,([],(ByteArray.empty,[])))))))
 Option.bind (f735F k (t1.1,(t1.2.1,(t1.2.2.1,(t1.2.2.2.1,(t1.2.2.2.2.1,(t1.2.2.2.2.2.1,t1.2.2.2.2.2.2))))))) fun y2 =>
 bif (!y2) then
 k0 (false,())
 else
 rec (v.1,(IntKind.i64.wrap (v.2.1+1)),())
 else none
 else
 k1 (())
noncomputable def f745l0 {R:Type}(k:Nat)(k0:Bool×Unit->Option R)(k1:Unit->Option R)(v:List D13×Int×Unit):Option R:=iterS (fun rec v=>f745l0s k rec k0 k1 v) k v
noncomputable def f745l0S (k:Nat):=loopSum ⟨[(0,.one (.ro Y10)),(3,oI)],[],0,[]⟩ ⟨[0,3],[],[]⟩ k fun R rec K v=>f745l0s k rec (fun w=>K .ret (encSt ⟨[(2,oB)],[],0,[]⟩ w)) (fun w=>K (.exit 0) (encSt ⟨[],[],0,[]⟩ w)) v
theorem f745l0O (k:Nat):SumO P Tryz.f45 58 (f745l0S k):=lp tm (f745T k) ⟨[2],[],[]⟩ SumsOk.nil (by kernel_rfl) fun _ _ _ _=>by kernel_rfl
noncomputable def f745F (k:Nat)(x:(List D13)):Option (Bool) :=
 bif (decide ((x.length:Int) > 21)) then
 some false
 else
 f745l0 k
 (fun (w3:Bool×Unit) =>
 some w3.1)
 (fun (w4:Unit) =>
 some true)
 (x,0,())
theorem f745Ok (k:Nat):FnV P 45 [.dat (.slice Y10)] [.dat .bool] (f745F k) :=
 fs tm (f745T k) Tryz.func45 (by kernel_rfl) (SumsOk.nil |>.s (f745l0O k) (by kernel_rfl)) none fun _=>by kernel_rfl
noncomputable def f713T (k:Nat):TB P:=TB.nil |>.u (f745Ok k)
noncomputable def f713l0s {R:Type}(k:Nat)(rec:D198->Option R)(k0:D197->Option R)(k1:D112->Option R)(v:D198):Option R :=
 bif ((decide (0<=v.1))&&(decide (v.1<(v.2.2.2.1.length:Int)))) then
 let t3:=(v.2.2.2.1.getD (Int.toNat v.1) (ByteArray.empty,(0,(false,(0,[])))))
 bif (decide (v.2.1<(t3.2.2.2.2.length:Int))) then
 bif ((decide (0<=v.1))&&(decide (v.1<(v.2.2.2.1.length:Int)))) then
 let t4:=(v.2.2.2.1.getD (Int.toNat v.1) (ByteArray.empty,(0,(false,(0,[])))))
 bif ((decide (0<=v.2.1))&&(decide (v.2.1<(t4.2.2.2.2.length:Int)))) then
 let t5:=(t4.2.2.2.2.getD (Int.toNat v.2.1) (0,(0,(ByteArray.empty,(ByteArray.empty,(ByteArray.empty,(false,(false,0))))))))
 bif (decide ((t5.2.2.2.1.size:Int) > 300)) then
 k0 (false,v.1,v.2.2.1,v.2.2.2.1,())
 else
 rec (v.1,(IntKind.i64.wrap (v.2.1+1)),v.2.2.1,v.2.2.2.1,())
 else none
 else none
 else
 k1 (v.1,v.2.2.1,v.2.2.2.1,())
 else none
noncomputable def f713l0 {R:Type}(k:Nat)(k0:D197->Option R)(k1:D112->Option R)(v:D198):Option R:=iterS (fun rec v=>f713l0s k rec k0 k1 v) k v
noncomputable def f713l0S (k:Nat):=loopSum ⟨[(1,.one (.ptr 0 0)),(3,oI),(4,oI)],[(0,.var 25 [.ro Y10,.ro (.pair .str Y5)])],1,[]⟩ ⟨[1,3,4],[],[]⟩ k fun R rec K v=>f713l0s k rec (fun w=>K .ret (encSt ⟨[(1,.one (.ptr 0 0)),(2,oB),(3,oI)],[(0,.var 25 [.ro Y10,.ro (.pair .str Y5)])],1,[]⟩ w)) (fun w=>K (.exit 2) (encSt ⟨[(1,.one (.ptr 0 0)),(3,oI)],[(0,.var 25 [.ro Y10,.ro (.pair .str Y5)])],1,[]⟩ w)) v
theorem f713l0O (k:Nat):SumO P Tryz.f13 7462 (f713l0S k):=lp tm (f713T k) ⟨[1,2,3],[],[]⟩ SumsOk.nil (by kernel_rfl) fun _ _ _ _=>by kernel_rfl
noncomputable def f713l1s {R:Type}(k:Nat)(rec:D112->Option R)(k0:Bool×Unit->Option R)(k1:Unit->Option R)(v:D112):Option R :=
 bif (decide (v.1<(v.2.2.1.length:Int))) then
 bif ((decide (0<=v.1))&&(decide (v.1<(v.2.2.1.length:Int)))) then
 let t2:=(v.2.2.1.getD (Int.toNat v.1) (ByteArray.empty,(0,(false,(0,[])))))
 bif (decide ((t2.2.2.2.2.length:Int) > 14)) then
 k0 (false,())
 else
 f713l0 k
 (fun (w6:D197) =>
 k0 (w6.1,()))
 (fun (w7:D112) =>
 rec ((IntKind.i64.wrap (w7.1+1)),w7.2.1,w7.2.2.1,()))
 (v.1,0,v.2.1,v.2.2.1,())
 else none
 else
 k1 (())
noncomputable def f713l1 {R:Type}(k:Nat)(k0:Bool×Unit->Option R)(k1:Unit->Option R)(v:D112):Option R:=iterS (fun rec v=>f713l1s k rec k0 k1 v) k v
noncomputable def f713l1S (k:Nat):=loopSum ⟨[(1,.one (.ptr 0 0)),(3,oI)],[(0,.var 25 [.ro Y10,.ro (.pair .str Y5)])],1,[]⟩ ⟨[1,3],[],[]⟩ k fun R rec K v=>f713l1s k rec (fun w=>K .ret (encSt ⟨[(2,oB)],[],0,[]⟩ w)) (fun w=>K (.exit 0) (encSt ⟨[],[],0,[]⟩ w)) v
theorem f713l1O (k:Nat):SumO P Tryz.f13 58 (f713l1S k):=lp tm (f713T k) ⟨[2],[],[]⟩ (SumsOk.nil |>.s (f713l0O k) (by kernel_rfl)) (by kernel_rfl) fun _ _ _ _=>by kernel_rfl
noncomputable def f713F (k:Nat)(x:D14):Option (Bool) :=
 Option.bind (f745F k x.1) fun y1 =>
 bif (!y1) then
 some false
 else
 bif (decide ((x.2.length:Int) > 7)) then
 some false
 else
 f713l1 k
 (fun (w8:Bool×Unit) =>
 some w8.1)
 (fun (w9:Unit) =>
 some true)
 (0,x.1,x.2,())
theorem f713Ok (k:Nat):FnV P 13 [.agg Y11] [.dat .bool] (f713F k) :=
 fs tm (f713T k) Tryz.func13 (by kernel_rfl) (SumsOk.nil |>.s (f713l1O k) (by kernel_rfl) |>.s (f713l0O k) (by kernel_rfl)) none fun _=>by kernel_rfl
noncomputable def f714F (k:Nat)(x:(ByteArray×D64)):Option (Bool) :=
 bif (decide ((x.2.2.2.1.size:Int)<=514)) then
 some (decide ((x.2.2.2.2.1.size:Int)<=300))
 else
 some false
theorem f714Ok (k:Nat):FnV P 14 [.agg (.pair .str Y14)] [.dat .bool] (f714F k) :=
 fs tm TB.nil Tryz.func14 (by kernel_rfl) SumsOk.nil none fun _=>by kernel_rfl
noncomputable def f725T (k:Nat):TB P:=TB.nil |>.u (f714Ok k)
noncomputable def f725l0s {R:Type}(k:Nat)(rec:D199->Option R)(k0:Bool×Unit->Option R)(k1:Unit->Option R)(v:D199):Option R :=
 bif (decide (v.2.1<(v.1.length:Int))) then
 bif ((decide (0<=v.2.1))&&(decide (v.2.1<(v.1.length:Int)))) then
 let t1:=(v.1.getD (Int.toNat v.2.1) (0,((ByteArray.empty,(ByteArray.empty,(ByteArray.empty,(ByteArray.empty,(ByteArray.empty,false))))),((ByteArray.empty,(0,(0,false))),ByteArray.empty))))
 Option.bind (f714F k (t1.2.1.1,(t1.2.1.2.1,(t1.2.1.2.2.1,(t1.2.1.2.2.2.1,(t1.2.1.2.2.2.2.1,t1.2.1.2.2.2.2.2)))))) fun y2 =>
 bif (!y2) then
 k0 (false,())
 else
 bif ((decide (0<=v.2.1))&&(decide (v.2.1<(v.1.length:Int)))) then
 let t3:=(v.1.getD (Int.toNat v.2.1) (0,((ByteArray.empty,(ByteArray.empty,(ByteArray.empty,(ByteArray.empty,(ByteArray.empty,false))))),((ByteArray.empty,(0,(0,false))),ByteArray.empty))))
 bif (decide ((t3.2.2.2.size:Int) > 100)) then
 k0 (false,())
 else
 rec (v.1,(IntKind.i64.wrap (v.2.1+1)),())
 else none
 else none
 else
 k1 (())
noncomputable def f725l0 {R:Type}(k:Nat)(k0:Bool×Unit->Option R)(k1:Unit->Option R)(v:D199):Option R:=iterS (fun rec v=>f725l0s k rec k0 k1 v) k v
noncomputable def f725l0S (k:Nat):=loopSum ⟨[(0,.one (.ro (.pair (.int .i64) Y19))),(3,oI)],[],0,[]⟩ ⟨[0,3],[],[]⟩ k fun R rec K v=>f725l0s k rec (fun w=>K .ret (encSt ⟨[(2,oB)],[],0,[]⟩ w)) (fun w=>K (.exit 0) (encSt ⟨[],[],0,[]⟩ w)) v
theorem f725l0O (k:Nat):SumO P Tryz.f25 58 (f725l0S k):=lp tm (f725T k) ⟨[2],[],[]⟩ SumsOk.nil (by kernel_rfl) fun _ _ _ _=>by kernel_rfl
noncomputable def f725F (k:Nat)(x:(List (Int×D189))):Option (Bool) :=
 bif (decide ((x.length:Int) > 62)) then
 some false
 else
 f725l0 k
 (fun (w4:Bool×Unit) =>
 some w4.1)
 (fun (w5:Unit) =>
 some true)
 (x,0,())
theorem f725Ok (k:Nat):FnV P 25 [.dat (.slice (.pair (.int .i64) Y19))] [.dat .bool] (f725F k) :=
 fs tm (f725T k) Tryz.func25 (by kernel_rfl) (SumsOk.nil |>.s (f725l0O k) (by kernel_rfl)) none fun _=>by kernel_rfl
noncomputable def f758l0s {R:Type}(k:Nat)(rec:D200->Option R)(k0:Bool×Unit->Option R)(k1:Unit->Option R)(v:D200):Option R :=
 bif (decide (v.2.2.1<(v.1.length:Int))) then
 bif ((decide (0<=v.2.2.1))&&(decide (v.2.2.1<(v.1.length:Int)))) then
 bif ((decide (0<=v.2.2.1))&&(decide (v.2.2.1<(v.2.1.length:Int)))) then
 let t1:=(!strEq (v.1.getD (Int.toNat v.2.2.1) ByteArray.empty) (v.2.1.getD (Int.toNat v.2.2.1) ByteArray.empty))
 bif t1 then
 k0 (false,())
 else
 rec (v.1,v.2.1,(IntKind.i64.wrap (v.2.2.1+1)),())
 else none
 else none
 else
 k1 (())
noncomputable def f758l0 {R:Type}(k:Nat)(k0:Bool×Unit->Option R)(k1:Unit->Option R)(v:D200):Option R:=iterS (fun rec v=>f758l0s k rec k0 k1 v) k v
noncomputable def f758l0S (k:Nat):=loopSum ⟨[(0,.one (.ro .str)),(1,.one (.ro .str)),(5,oI)],[],0,[]⟩ ⟨[0,1,5],[],[]⟩ k fun R rec K v=>f758l0s k rec (fun w=>K .ret (encSt ⟨[(4,oB)],[],0,[]⟩ w)) (fun w=>K (.exit 0) (encSt ⟨[],[],0,[]⟩ w)) v
theorem f758l0O (k:Nat):SumO P Tryz.f58 58 (f758l0S k):=lp tm TB.nil ⟨[4],[],[]⟩ SumsOk.nil (by kernel_rfl) fun _ _ _ _=>by kernel_rfl
noncomputable def f758F (k:Nat)(x:D201):Option (Bool) :=
 bif ((x.1.length:Int) !=(x.2.length:Int)) then
 some false
 else
 f758l0 k
 (fun (w2:Bool×Unit) =>
 some w2.1)
 (fun (w3:Unit) =>
 some true)
 (x.1,x.2,0,())
theorem f758Ok (k:Nat):FnV P 58 [.dat (.slice .str),.dat (.slice .str)] [.dat .bool] (f758F k) :=
 fs tm TB.nil Tryz.func58 (by kernel_rfl) (SumsOk.nil |>.s (f758l0O k) (by kernel_rfl)) none fun _=>by kernel_rfl
noncomputable def f759l0s {R:Type}(k:Nat)(rec:D202->Option R)(k0:Bool×Unit->Option R)(k1:Unit->Option R)(v:D202):Option R :=
 bif (decide (v.1<(v.2.2.2.2.2.1.length:Int))) then
 bif ((decide (0<=v.1))&&(decide (v.1<(v.2.2.2.2.2.1.length:Int)))) then
 let t1:=(v.2.2.2.2.2.1.getD (Int.toNat v.1) (0,(0,(ByteArray.empty,(ByteArray.empty,(ByteArray.empty,(false,(false,0))))))))
 bif ((decide (0<=v.1))&&(decide (v.1<(v.2.2.2.2.2.2.2.2.2.2.1.length:Int)))) then
 let t2:=(v.2.2.2.2.2.2.2.2.2.2.1.getD (Int.toNat v.1) (0,(0,(ByteArray.empty,(ByteArray.empty,(ByteArray.empty,(false,(false,0))))))))
 let t3:=(!((t1.1==t2.1)&&((t1.2.1==t2.2.1)&&((strEq t1.2.2.1 t2.2.2.1)&&((strEq t1.2.2.2.1 t2.2.2.2.1)&&((strEq t1.2.2.2.2.1 t2.2.2.2.2.1)&&((t1.2.2.2.2.2.1==t2.2.2.2.2.2.1)&&((t1.2.2.2.2.2.2.1==t2.2.2.2.2.2.2.1)&&((t1.2.2.2.2.2.2.2==t2.2.2.2.2.2.2.2)&&true)))))))))
 bif t3 then
 k0 (false,())
 else
 rec ((IntKind.i64.wrap (v.1+1)),v.2.1,v.2.2.1,v.2.2.2.1,v.2.2.2.2.1,v.2.2.2.2.2.1,v.2.2.2.2.2.2.1,v.2.2.2.2.2.2.2.1,v.2.2.2.2.2.2.2.2.1,v.2.2.2.2.2.2.2.2.2.1,v.2.2.2.2.2.2.2.2.2.2.1,())
 else none
 else none
 else
 k1 (())
noncomputable def f759l0 {R:Type}(k:Nat)(k0:Bool×Unit->Option R)(k1:Unit->Option R)(v:D202):Option R:=iterS (fun rec v=>f759l0s k rec k0 k1 v) k v
noncomputable def f759l0S (k:Nat):=loopSum ⟨[(2,.one (.ptr 0 0)),(3,.one (.ptr 1 0)),(5,oI)],[(0,.var 69 [.str,.int .i64,.bool,.int .i64,.ro Y3]),(1,.var 69 [.str,.int .i64,.bool,.int .i64,.ro Y3])],2,[]⟩ ⟨[2,3,5],[],[]⟩ k fun R rec K v=>f759l0s k rec (fun w=>K .ret (encSt ⟨[(4,oB)],[],0,[]⟩ w)) (fun w=>K (.exit 0) (encSt ⟨[],[],0,[]⟩ w)) v
theorem f759l0O (k:Nat):SumO P Tryz.f59 58 (f759l0S k):=lp tm TB.nil ⟨[4],[],[]⟩ SumsOk.nil (by kernel_rfl) fun _ _ _ _=>by kernel_rfl
noncomputable def f759F (k:Nat)(x:D6×D6):Option (Bool) :=
 bif (!strEq x.1.1 x.2.1) then
 some false
 else
 bif (x.1.2.1 !=x.2.2.1) then
 some false
 else
 bif (!(x.1.2.2.1==x.2.2.2.1)) then
 some false
 else
 bif (x.1.2.2.2.1 !=x.2.2.2.2.1) then
 some false
 else
 bif ((x.1.2.2.2.2.length:Int) !=(x.2.2.2.2.2.length:Int)) then
 some false
 else
 f759l0 k
 (fun (w4:Bool×Unit) =>
 some w4.1)
 (fun (w5:Unit) =>
 some true)
 (0,x.1.1,x.1.2.1,x.1.2.2.1,x.1.2.2.2.1,x.1.2.2.2.2,x.2.1,x.2.2.1,x.2.2.2.1,x.2.2.2.2.1,x.2.2.2.2.2,())
theorem f759Ok (k:Nat):FnV P 59 [.agg (.pair .str Y5),.agg (.pair .str Y5)] [.dat .bool] (f759F k) :=
 fs tm TB.nil Tryz.func59 (by kernel_rfl) (SumsOk.nil |>.s (f759l0O k) (by kernel_rfl)) none fun _=>by kernel_rfl
noncomputable def f718T (k:Nat):TB P:=TB.nil |>.u (f759Ok k) |>.u (f758Ok k)
noncomputable def f718l0s {R:Type}(k:Nat)(rec:D206->Option R)(k0:D203->Option R)(k1:D204->Option R)(v:D206):Option R :=
 bif (decide (v.2.1<(v.2.2.2.2.2.2.2.2.2.2.1.length:Int))) then
 bif ((decide (0<=v.2.1))&&(decide (v.2.1<(v.2.2.2.2.2.2.2.2.2.2.1.length:Int)))) then
 let t4:=(v.2.2.2.2.2.2.2.2.2.2.1.getD (Int.toNat v.2.1) (0,(0,0)))
 bif ((decide (0<=v.2.1))&&(decide (v.2.1<(v.2.2.2.2.2.2.2.2.2.2.2.2.2.2.2.2.2.1.length:Int)))) then
 let t5:=(v.2.2.2.2.2.2.2.2.2.2.2.2.2.2.2.2.2.1.getD (Int.toNat v.2.1) (0,(0,0)))
 let t6:=(!((t4.1==t5.1)&&((t4.2.1==t5.2.1)&&((t4.2.2==t5.2.2)&&true))))
 bif t6 then
 k0 (false,v.1,v.2.2.1,v.2.2.2.1,v.2.2.2.2.1,v.2.2.2.2.2.1,())
 else
 rec (v.1,(IntKind.i64.wrap (v.2.1+1)),v.2.2.1,v.2.2.2.1,v.2.2.2.2.1,v.2.2.2.2.2.1,v.2.2.2.2.2.2.1,v.2.2.2.2.2.2.2.1,v.2.2.2.2.2.2.2.2.1,v.2.2.2.2.2.2.2.2.2.1,v.2.2.2.2.2.2.2.2.2.2.1,v.2.2.2.2.2.2.2.2.2.2.2.1,v.2.2.2.2.2.2.2.2.2.2.2.2.1,v.2.2.2.2.2.2.2.2.2.2.2.2.2.1,v.2.2.2.2.2.2.2.2.2.2.2.2.2.2.1,v.2.2.2.2.2.2.2.2.2.2.2.2.2.2.2.1,v.2.2.2.2.2.2.2.2.2.2.2.2.2.2.2.2.1,v.2.2.2.2.2.2.2.2.2.2.2.2.2.2.2.2.2.1,v.2.2.2.2.2.2.2.2.2.2.2.2.2.2.2.2.2.2.1,v.2.2.2.2.2.2.2.2.2.2.2.2.2.2.2.2.2.2.2.1,())
 else none
 else none
 else
 k1 (v.1,v.2.2.1,v.2.2.2.1,v.2.2.2.2.1,v.2.2.2.2.2.1,())
noncomputable def f718l0 {R:Type}(k:Nat)(k0:D203->Option R)(k1:D204->Option R)(v:D206):Option R:=iterS (fun rec v=>f718l0s k rec k0 k1 v) k v
noncomputable def f718l0S (k:Nat):=loopSum ⟨[(2,.one (.ptr 0 0)),(3,.one (.ptr 1 0)),(5,oI),(6,.one (.ptr 2 0)),(7,.one (.ptr 3 0)),(8,oI)],[(0,.var 25 [.ro Y10,.ro (.pair .str Y5)]),(1,.var 25 [.ro Y10,.ro (.pair .str Y5)]),(2,.var 82 [.str,.int .i64,.str,.str,.ro (.pair (.int .i64) Y6),.str,.ro .str]),(3,.var 82 [.str,.int .i64,.str,.str,.ro (.pair (.int .i64) Y6),.str,.ro .str])],4,[]⟩ ⟨[2,3,5,6,7,8],[],[]⟩ k fun R rec K v=>f718l0s k rec (fun w=>K .ret (encSt ⟨[(2,.one (.ptr 0 0)),(3,.one (.ptr 1 0)),(4,oB),(5,oI)],[(0,.var 25 [.ro Y10,.ro (.pair .str Y5)]),(1,.var 25 [.ro Y10,.ro (.pair .str Y5)])],2,[]⟩ w)) (fun w=>K (.exit 2) (encSt ⟨[(2,.one (.ptr 0 0)),(3,.one (.ptr 1 0)),(5,oI)],[(0,.var 25 [.ro Y10,.ro (.pair .str Y5)]),(1,.var 25 [.ro Y10,.ro (.pair .str Y5)])],2,[]⟩ w)) v
theorem f718l0O (k:Nat):SumO P Tryz.f18 14926 (f718l0S k):=lp tm (f718T k) ⟨[2,3,4,5],[],[]⟩ SumsOk.nil (by kernel_rfl) fun _ _ _ _=>by kernel_rfl
noncomputable def f718l1s {R:Type}(k:Nat)(rec:D204->Option R)(k0:D205->Option R)(k1:D67->Option R)(v:D204):Option R :=
 bif (decide (v.1<(v.2.1.length:Int))) then
 bif ((decide (0<=v.1))&&(decide (v.1<(v.2.1.length:Int)))) then
 let t1:=(v.2.1.getD (Int.toNat v.1) (ByteArray.empty,(0,(ByteArray.empty,(ByteArray.empty,([],(ByteArray.empty,[])))))))
 bif ((decide (0<=v.1))&&(decide (v.1<(v.2.2.2.1.length:Int)))) then
 let t2:=(v.2.2.2.1.getD (Int.toNat v.1) (ByteArray.empty,(0,(ByteArray.empty,(ByteArray.empty,([],(ByteArray.empty,[])))))))
 bif (!strEq t1.1 t2.1) then
 k0 (false,v.2.1,v.2.2.1,v.2.2.2.1,v.2.2.2.2.1,())
 else
 bif (t1.2.1 !=t2.2.1) then
 k0 (false,v.2.1,v.2.2.1,v.2.2.2.1,v.2.2.2.2.1,())
 else
 bif (!strEq t1.2.2.1 t2.2.2.1) then
 k0 (false,v.2.1,v.2.2.1,v.2.2.2.1,v.2.2.2.2.1,())
 else
 bif (!strEq t1.2.2.2.1 t2.2.2.2.1) then
 k0 (false,v.2.1,v.2.2.1,v.2.2.2.1,v.2.2.2.2.1,())
 else
 bif (!strEq t1.2.2.2.2.2.1 t2.2.2.2.2.2.1) then
 k0 (false,v.2.1,v.2.2.1,v.2.2.2.1,v.2.2.2.2.1,())
 else
 Option.bind (f758F k (t1.2.2.2.2.2.2,t2.2.2.2.2.2.2)) fun y3 =>
 bif (!y3) then
 k0 (false,v.2.1,v.2.2.1,v.2.2.2.1,v.2.2.2.2.1,())
 else
 bif ((t1.2.2.2.2.1.length:Int) !=(t2.2.2.2.2.1.length:Int)) then
 k0 (false,v.2.1,v.2.2.1,v.2.2.2.1,v.2.2.2.2.1,())
 else
 f718l0 k
 (fun (w7:D203) =>
 k0 (w7.1,w7.2.2.1,w7.2.2.2.1,w7.2.2.2.2.1,w7.2.2.2.2.2.1,()))
 (fun (w8:D204) =>
 rec ((IntKind.i64.wrap (w8.1+1)),w8.2.1,w8.2.2.1,w8.2.2.2.1,w8.2.2.2.2.1,()))
 (v.1,0,v.2.1,v.2.2.1,v.2.2.2.1,v.2.2.2.2.1,t1.1,t1.2.1,t1.2.2.1,t1.2.2.2.1,t1.2.2.2.2.1,t1.2.2.2.2.2.1,t1.2.2.2.2.2.2,t2.1,t2.2.1,t2.2.2.1,t2.2.2.2.1,t2.2.2.2.2.1,t2.2.2.2.2.2.1,t2.2.2.2.2.2.2,())
 else none
 else none
 else
 k1 (v.2.1,v.2.2.1,v.2.2.2.1,v.2.2.2.2.1,())
noncomputable def f718l1 {R:Type}(k:Nat)(k0:D205->Option R)(k1:D67->Option R)(v:D204):Option R:=iterS (fun rec v=>f718l1s k rec k0 k1 v) k v
noncomputable def f718l1S (k:Nat):=loopSum ⟨[(2,.one (.ptr 0 0)),(3,.one (.ptr 1 0)),(5,oI)],[(0,.var 25 [.ro Y10,.ro (.pair .str Y5)]),(1,.var 25 [.ro Y10,.ro (.pair .str Y5)])],2,[]⟩ ⟨[2,3,5],[],[]⟩ k fun R rec K v=>f718l1s k rec (fun w=>K .ret (encSt ⟨[(2,.one (.ptr 0 0)),(3,.one (.ptr 1 0)),(4,oB)],[(0,.var 25 [.ro Y10,.ro (.pair .str Y5)]),(1,.var 25 [.ro Y10,.ro (.pair .str Y5)])],2,[]⟩ w)) (fun w=>K (.exit 0) (encSt ⟨[(2,.one (.ptr 0 0)),(3,.one (.ptr 1 0))],[(0,.var 25 [.ro Y10,.ro (.pair .str Y5)]),(1,.var 25 [.ro Y10,.ro (.pair .str Y5)])],2,[]⟩ w)) v
theorem f718l1O (k:Nat):SumO P Tryz.f18 58 (f718l1S k):=lp tm (f718T k) ⟨[2,3,4],[],[]⟩ (SumsOk.nil |>.s (f718l0O k) (by kernel_rfl)) (by kernel_rfl) fun _ _ _ _=>by kernel_rfl
noncomputable def f718l2s {R:Type}(k:Nat)(rec:D204->Option R)(k0:Bool×Unit->Option R)(k1:Unit->Option R)(v:D204):Option R :=
 bif (decide (v.1<(v.2.2.1.length:Int))) then
 bif ((decide (0<=v.1))&&(decide (v.1<(v.2.2.1.length:Int)))) then
 let t11:=(v.2.2.1.getD (Int.toNat v.1) (ByteArray.empty,(0,(false,(0,[])))))
 bif ((decide (0<=v.1))&&(decide (v.1<(v.2.2.2.2.1.length:Int)))) then
 let t12:=(v.2.2.2.2.1.getD (Int.toNat v.1) (ByteArray.empty,(0,(false,(0,[])))))
 Option.bind (f759F k ((t11.1,(t11.2.1,(t11.2.2.1,(t11.2.2.2.1,t11.2.2.2.2)))),(t12.1,(t12.2.1,(t12.2.2.1,(t12.2.2.2.1,t12.2.2.2.2)))))) fun y13 =>
 bif (!y13) then
 k0 (false,())
 else
 rec ((IntKind.i64.wrap (v.1+1)),v.2.1,v.2.2.1,v.2.2.2.1,v.2.2.2.2.1,())
 else none
 else none
 else
 k1 (())
noncomputable def f718l2 {R:Type}(k:Nat)(k0:Bool×Unit->Option R)(k1:Unit->Option R)(v:D204):Option R:=iterS (fun rec v=>f718l2s k rec k0 k1 v) k v
noncomputable def f718l2S (k:Nat):=loopSum ⟨[(2,.one (.ptr 0 0)),(3,.one (.ptr 1 0)),(9,oI)],[(0,.var 25 [.ro Y10,.ro (.pair .str Y5)]),(1,.var 25 [.ro Y10,.ro (.pair .str Y5)])],2,[]⟩ ⟨[2,3,9],[],[]⟩ k fun R rec K v=>f718l2s k rec (fun w=>K .ret (encSt ⟨[(4,oB)],[],0,[]⟩ w)) (fun w=>K (.exit 4) (encSt ⟨[],[],0,[]⟩ w)) v
theorem f718l2O (k:Nat):SumO P Tryz.f18 122 (f718l2S k):=lp tm (f718T k) ⟨[4],[],[]⟩ SumsOk.nil (by kernel_rfl) fun _ _ _ _=>by kernel_rfl
noncomputable def f718F (k:Nat)(x:D14×D14):Option (Bool) :=
 bif ((x.1.1.length:Int) !=(x.2.1.length:Int)) then
 some false
 else
 bif ((x.1.2.length:Int) !=(x.2.2.length:Int)) then
 some false
 else
 f718l1 k
 (fun (w9:D205) =>
 some w9.1)
 (fun (w10:D67) =>
 f718l2 k
 (fun (w14:Bool×Unit) =>
 some w14.1)
 (fun (w15:Unit) =>
 some true)
 (0,w10.1,w10.2.1,w10.2.2.1,w10.2.2.2.1,()))
 (0,x.1.1,x.1.2,x.2.1,x.2.2,())
theorem f718Ok (k:Nat):FnV P 18 [.agg Y11,.agg Y11] [.dat .bool] (f718F k) :=
 fs tm (f718T k) Tryz.func18 (by kernel_rfl) (SumsOk.nil |>.s (f718l2O k) (by kernel_rfl) |>.s (f718l1O k) (by kernel_rfl) |>.s (f718l0O k) (by kernel_rfl)) none fun _=>by kernel_rfl
noncomputable def f776T (k:Nat):TB P:=TB.nil |>.p (f724Ok k) |>.p (f722Ok k) |>.p (f720Ok k) |>.p (f717Ok k)
noncomputable def f776p0 {R:Type}(k:Nat)(k0:D207->Option R)(v:D208):Option R :=
 bif (v.2.2.2.1==0) then
 Option.bind (f717F k ((v.2.1,v.2.2.1),(v.2.2.2.2.1,(v.2.2.2.2.2.1,(v.2.2.2.2.2.2.1,(v.2.2.2.2.2.2.2.1,(v.2.2.2.2.2.2.2.2.1,v.2.2.2.2.2.2.2.2.2.1))))))) fun y1 =>
 let t2:=v.2.2.2.2.2.2.2.2.2.2.2.2.2.2.2.2.2.2.2.2.2.2.2.2.2.2.2.2.2.2.2.2.2.2.1
 let t3:=v.2.2.2.2.2.2.2.2.2.2.2.2.2.2.2.2.2.2.2.2.2.2.2.2.2.2.2.2.2.2.2.2.2.2.2.1
 let t4:=v.2.2.2.2.2.2.2.2.2.2.2.2.2.2.2.2.2.2.2.2.2.2.2.2.2.2.2.2.2.2.2.2.2.2.2.2.1
 k0 (y1.2.2,v.2.1,v.2.2.1,v.2.2.2.2.2.2.2.2.2.2.2.2.2.2.2.1,v.2.2.2.2.2.2.2.2.2.2.2.2.2.2.2.2.1,v.2.2.2.2.2.2.2.2.2.2.2.2.2.2.2.2.2.1,v.2.2.2.2.2.2.2.2.2.2.2.2.2.2.2.2.2.2.1,v.2.2.2.2.2.2.2.2.2.2.2.2.2.2.2.2.2.2.2.1,v.2.2.2.2.2.2.2.2.2.2.2.2.2.2.2.2.2.2.2.2.1,v.2.2.2.2.2.2.2.2.2.2.2.2.2.2.2.2.2.2.2.2.2.1,v.2.2.2.2.2.2.2.2.2.2.2.2.2.2.2.2.2.2.2.2.2.2.1,v.2.2.2.2.2.2.2.2.2.2.2.2.2.2.2.2.2.2.2.2.2.2.2.1,v.2.2.2.2.2.2.2.2.2.2.2.2.2.2.2.2.2.2.2.2.2.2.2.2.1,y1.1.1,y1.1.2,v.2.2.2.2.2.2.2.2.2.2.2.2.2.2.2.2.2.2.2.2.2.2.2.2.2.2.2.1,y1.2.1,v.2.2.2.2.2.2.2.2.2.2.2.2.2.2.2.2.2.2.2.2.2.2.2.2.2.2.2.2.2.1,v.2.2.2.2.2.2.2.2.2.2.2.2.2.2.2.2.2.2.2.2.2.2.2.2.2.2.2.2.2.2.1,v.2.2.2.2.2.2.2.2.2.2.2.2.2.2.2.2.2.2.2.2.2.2.2.2.2.2.2.2.2.2.2.1,v.2.2.2.2.2.2.2.2.2.2.2.2.2.2.2.2.2.2.2.2.2.2.2.2.2.2.2.2.2.2.2.2.1,v.2.2.2.2.2.2.2.2.2.2.2.2.2.2.2.2.2.2.2.2.2.2.2.2.2.2.2.2.2.2.2.2.2.1,t2,t3,t4,v.2.2.2.2.2.2.2.2.2.2.2.2.2.2.2.2.2.2.2.2.2.2.2.2.2.2.2.2.2.2.2.2.2.2.2.2.2.1,v.2.2.2.2.2.2.2.2.2.2.2.2.2.2.2.2.2.2.2.2.2.2.2.2.2.2.2.2.2.2.2.2.2.2.2.2.2.2.1,())
 else
 bif (v.2.2.2.1==1) then
 Option.bind (f720F k ((v.2.1,v.2.2.1),(v.2.2.2.2.2.2.2.2.2.2.1,(v.2.2.2.2.2.2.2.2.2.2.2.1,(v.2.2.2.2.2.2.2.2.2.2.2.2.1,v.2.2.2.2.2.2.2.2.2.2.2.2.2.1))))) fun y5 =>
 let t6:=v.2.2.2.2.2.2.2.2.2.2.2.2.2.2.2.2.2.2.2.2.2.2.2.2.2.2.2.2.2.2.2.2.2.2.1
 let t7:=v.2.2.2.2.2.2.2.2.2.2.2.2.2.2.2.2.2.2.2.2.2.2.2.2.2.2.2.2.2.2.2.2.2.2.2.1
 let t8:=v.2.2.2.2.2.2.2.2.2.2.2.2.2.2.2.2.2.2.2.2.2.2.2.2.2.2.2.2.2.2.2.2.2.2.2.2.1
 k0 (y5.2.2,v.2.1,v.2.2.1,v.2.2.2.2.2.2.2.2.2.2.2.2.2.2.2.1,v.2.2.2.2.2.2.2.2.2.2.2.2.2.2.2.2.1,v.2.2.2.2.2.2.2.2.2.2.2.2.2.2.2.2.2.1,v.2.2.2.2.2.2.2.2.2.2.2.2.2.2.2.2.2.2.1,v.2.2.2.2.2.2.2.2.2.2.2.2.2.2.2.2.2.2.2.1,v.2.2.2.2.2.2.2.2.2.2.2.2.2.2.2.2.2.2.2.2.1,v.2.2.2.2.2.2.2.2.2.2.2.2.2.2.2.2.2.2.2.2.2.1,v.2.2.2.2.2.2.2.2.2.2.2.2.2.2.2.2.2.2.2.2.2.2.1,v.2.2.2.2.2.2.2.2.2.2.2.2.2.2.2.2.2.2.2.2.2.2.2.1,v.2.2.2.2.2.2.2.2.2.2.2.2.2.2.2.2.2.2.2.2.2.2.2.2.1,y5.1.1,y5.1.2,v.2.2.2.2.2.2.2.2.2.2.2.2.2.2.2.2.2.2.2.2.2.2.2.2.2.2.2.1,v.2.2.2.2.2.2.2.2.2.2.2.2.2.2.2.2.2.2.2.2.2.2.2.2.2.2.2.2.1,y5.2.1.1,y5.2.1.2.1,y5.2.1.2.2.1,y5.2.1.2.2.2.1,y5.2.1.2.2.2.2.1,y5.2.1.2.2.2.2.2.1,y5.2.1.2.2.2.2.2.2.1,y5.2.1.2.2.2.2.2.2.2,v.2.2.2.2.2.2.2.2.2.2.2.2.2.2.2.2.2.2.2.2.2.2.2.2.2.2.2.2.2.2.2.2.2.2.2.2.2.1,v.2.2.2.2.2.2.2.2.2.2.2.2.2.2.2.2.2.2.2.2.2.2.2.2.2.2.2.2.2.2.2.2.2.2.2.2.2.2.1,())
 else
 bif (v.2.2.2.1==2) then
 Option.bind (f722F k ((v.2.1,v.2.2.1),(v.2.2.2.2.2.2.2.2.2.2.1,(v.2.2.2.2.2.2.2.2.2.2.2.2.1,v.2.2.2.2.2.2.2.2.2.2.2.2.2.2.1)))) fun y9 =>
 k0 (y9.2,v.2.1,v.2.2.1,v.2.2.2.2.2.2.2.2.2.2.2.2.2.2.2.1,v.2.2.2.2.2.2.2.2.2.2.2.2.2.2.2.2.1,v.2.2.2.2.2.2.2.2.2.2.2.2.2.2.2.2.2.1,v.2.2.2.2.2.2.2.2.2.2.2.2.2.2.2.2.2.2.1,v.2.2.2.2.2.2.2.2.2.2.2.2.2.2.2.2.2.2.2.1,v.2.2.2.2.2.2.2.2.2.2.2.2.2.2.2.2.2.2.2.2.1,v.2.2.2.2.2.2.2.2.2.2.2.2.2.2.2.2.2.2.2.2.2.1,v.2.2.2.2.2.2.2.2.2.2.2.2.2.2.2.2.2.2.2.2.2.2.1,v.2.2.2.2.2.2.2.2.2.2.2.2.2.2.2.2.2.2.2.2.2.2.2.1,v.2.2.2.2.2.2.2.2.2.2.2.2.2.2.2.2.2.2.2.2.2.2.2.2.1,y9.1.1,y9.1.2,v.2.2.2.2.2.2.2.2.2.2.2.2.2.2.2.2.2.2.2.2.2.2.2.2.2.2.2.1,v.2.2.2.2.2.2.2.2.2.2.2.2.2.2.2.2.2.2.2.2.2.2.2.2.2.2.2.2.1,v.2.2.2.2.2.2.2.2.2.2.2.2.2.2.2.2.2.2.2.2.2.2.2.2.2.2.2.2.2.1,v.2.2.2.2.2.2.2.2.2.2.2.2.2.2.2.2.2.2.2.2.2.2.2.2.2.2.2.2.2.2.1,v.2.2.2.2.2.2.2.2.2.2.2.2.2.2.2.2.2.2.2.2.2.2.2.2.2.2.2.2.2.2.2.1,v.2.2.2.2.2.2.2.2.2.2.2.2.2.2.2.2.2.2.2.2.2.2.2.2.2.2.2.2.2.2.2.2.1,v.2.2.2.2.2.2.2.2.2.2.2.2.2.2.2.2.2.2.2.2.2.2.2.2.2.2.2.2.2.2.2.2.2.1,v.2.2.2.2.2.2.2.2.2.2.2.2.2.2.2.2.2.2.2.2.2.2.2.2.2.2.2.2.2.2.2.2.2.2.1,v.2.2.2.2.2.2.2.2.2.2.2.2.2.2.2.2.2.2.2.2.2.2.2.2.2.2.2.2.2.2.2.2.2.2.2.1,v.2.2.2.2.2.2.2.2.2.2.2.2.2.2.2.2.2.2.2.2.2.2.2.2.2.2.2.2.2.2.2.2.2.2.2.2.1,v.2.2.2.2.2.2.2.2.2.2.2.2.2.2.2.2.2.2.2.2.2.2.2.2.2.2.2.2.2.2.2.2.2.2.2.2.2.1,v.2.2.2.2.2.2.2.2.2.2.2.2.2.2.2.2.2.2.2.2.2.2.2.2.2.2.2.2.2.2.2.2.2.2.2.2.2.2.1,())
 else
 bif (v.2.2.2.1==3) then
 Option.bind (f724F k ((v.2.1,v.2.2.1),v.2.2.2.2.2.2.2.2.2.2.1,v.2.2.2.2.2.2.2.2.2.2.2.2.1)) fun y10 =>
 k0 (y10.2,v.2.1,v.2.2.1,v.2.2.2.2.2.2.2.2.2.2.2.2.2.2.2.1,v.2.2.2.2.2.2.2.2.2.2.2.2.2.2.2.2.1,v.2.2.2.2.2.2.2.2.2.2.2.2.2.2.2.2.2.1,v.2.2.2.2.2.2.2.2.2.2.2.2.2.2.2.2.2.2.1,v.2.2.2.2.2.2.2.2.2.2.2.2.2.2.2.2.2.2.2.1,v.2.2.2.2.2.2.2.2.2.2.2.2.2.2.2.2.2.2.2.2.1,v.2.2.2.2.2.2.2.2.2.2.2.2.2.2.2.2.2.2.2.2.2.1,v.2.2.2.2.2.2.2.2.2.2.2.2.2.2.2.2.2.2.2.2.2.2.1,v.2.2.2.2.2.2.2.2.2.2.2.2.2.2.2.2.2.2.2.2.2.2.2.1,v.2.2.2.2.2.2.2.2.2.2.2.2.2.2.2.2.2.2.2.2.2.2.2.2.1,y10.1.1,y10.1.2,v.2.2.2.2.2.2.2.2.2.2.2.2.2.2.2.2.2.2.2.2.2.2.2.2.2.2.2.1,v.2.2.2.2.2.2.2.2.2.2.2.2.2.2.2.2.2.2.2.2.2.2.2.2.2.2.2.2.1,v.2.2.2.2.2.2.2.2.2.2.2.2.2.2.2.2.2.2.2.2.2.2.2.2.2.2.2.2.2.1,v.2.2.2.2.2.2.2.2.2.2.2.2.2.2.2.2.2.2.2.2.2.2.2.2.2.2.2.2.2.2.1,v.2.2.2.2.2.2.2.2.2.2.2.2.2.2.2.2.2.2.2.2.2.2.2.2.2.2.2.2.2.2.2.1,v.2.2.2.2.2.2.2.2.2.2.2.2.2.2.2.2.2.2.2.2.2.2.2.2.2.2.2.2.2.2.2.2.1,v.2.2.2.2.2.2.2.2.2.2.2.2.2.2.2.2.2.2.2.2.2.2.2.2.2.2.2.2.2.2.2.2.2.1,v.2.2.2.2.2.2.2.2.2.2.2.2.2.2.2.2.2.2.2.2.2.2.2.2.2.2.2.2.2.2.2.2.2.2.1,v.2.2.2.2.2.2.2.2.2.2.2.2.2.2.2.2.2.2.2.2.2.2.2.2.2.2.2.2.2.2.2.2.2.2.2.1,v.2.2.2.2.2.2.2.2.2.2.2.2.2.2.2.2.2.2.2.2.2.2.2.2.2.2.2.2.2.2.2.2.2.2.2.2.1,v.2.2.2.2.2.2.2.2.2.2.2.2.2.2.2.2.2.2.2.2.2.2.2.2.2.2.2.2.2.2.2.2.2.2.2.2.2.1,v.2.2.2.2.2.2.2.2.2.2.2.2.2.2.2.2.2.2.2.2.2.2.2.2.2.2.2.2.2.2.2.2.2.2.2.2.2.2.1,())
 else
 k0 (v.1,v.2.1,v.2.2.1,v.2.2.2.2.2.2.2.2.2.2.2.2.2.2.2.1,v.2.2.2.2.2.2.2.2.2.2.2.2.2.2.2.2.1,v.2.2.2.2.2.2.2.2.2.2.2.2.2.2.2.2.2.1,v.2.2.2.2.2.2.2.2.2.2.2.2.2.2.2.2.2.2.1,v.2.2.2.2.2.2.2.2.2.2.2.2.2.2.2.2.2.2.2.1,v.2.2.2.2.2.2.2.2.2.2.2.2.2.2.2.2.2.2.2.2.1,v.2.2.2.2.2.2.2.2.2.2.2.2.2.2.2.2.2.2.2.2.2.1,v.2.2.2.2.2.2.2.2.2.2.2.2.2.2.2.2.2.2.2.2.2.2.1,v.2.2.2.2.2.2.2.2.2.2.2.2.2.2.2.2.2.2.2.2.2.2.2.1,v.2.2.2.2.2.2.2.2.2.2.2.2.2.2.2.2.2.2.2.2.2.2.2.2.1,v.2.2.2.2.2.2.2.2.2.2.2.2.2.2.2.2.2.2.2.2.2.2.2.2.2.1,v.2.2.2.2.2.2.2.2.2.2.2.2.2.2.2.2.2.2.2.2.2.2.2.2.2.2.1,v.2.2.2.2.2.2.2.2.2.2.2.2.2.2.2.2.2.2.2.2.2.2.2.2.2.2.2.1,v.2.2.2.2.2.2.2.2.2.2.2.2.2.2.2.2.2.2.2.2.2.2.2.2.2.2.2.2.1,v.2.2.2.2.2.2.2.2.2.2.2.2.2.2.2.2.2.2.2.2.2.2.2.2.2.2.2.2.2.1,v.2.2.2.2.2.2.2.2.2.2.2.2.2.2.2.2.2.2.2.2.2.2.2.2.2.2.2.2.2.2.1,v.2.2.2.2.2.2.2.2.2.2.2.2.2.2.2.2.2.2.2.2.2.2.2.2.2.2.2.2.2.2.2.1,v.2.2.2.2.2.2.2.2.2.2.2.2.2.2.2.2.2.2.2.2.2.2.2.2.2.2.2.2.2.2.2.2.1,v.2.2.2.2.2.2.2.2.2.2.2.2.2.2.2.2.2.2.2.2.2.2.2.2.2.2.2.2.2.2.2.2.2.1,v.2.2.2.2.2.2.2.2.2.2.2.2.2.2.2.2.2.2.2.2.2.2.2.2.2.2.2.2.2.2.2.2.2.2.1,v.2.2.2.2.2.2.2.2.2.2.2.2.2.2.2.2.2.2.2.2.2.2.2.2.2.2.2.2.2.2.2.2.2.2.2.1,v.2.2.2.2.2.2.2.2.2.2.2.2.2.2.2.2.2.2.2.2.2.2.2.2.2.2.2.2.2.2.2.2.2.2.2.2.1,v.2.2.2.2.2.2.2.2.2.2.2.2.2.2.2.2.2.2.2.2.2.2.2.2.2.2.2.2.2.2.2.2.2.2.2.2.2.1,v.2.2.2.2.2.2.2.2.2.2.2.2.2.2.2.2.2.2.2.2.2.2.2.2.2.2.2.2.2.2.2.2.2.2.2.2.2.2.1,())
noncomputable def f776p0S (k:Nat):=partSum ⟨[(2,.one (.ptr 0 0)),(3,.one (.ptr 1 0)),(4,.one (.ptr 2 0)),(5,.one (.ptr 3 0)),(6,.one (.ptr 4 0)),(7,.one (.ptr 5 0)),(8,oI)],[(0,.var 25 [.ro Y10,.ro (.pair .str Y5)]),(1,.var 73 [.int .i64,.str,.str,.str,.str,.str,.bool,.str,.int .i64,.int .i64,.bool,.str]),(2,.var 25 [.own 6,.own 7]),(3,.var 75 [.int .i64,.int .i64,.int .i64,.int .i64,.str,.str,.str,.bool,.bool,.int .i64]),(4,.var 25 [.ro Y10,.ro (.pair .str Y5)]),(5,.var 75 [.int .i64,.int .i64,.int .i64,.int .i64,.str,.str,.str,.bool,.bool,.int .i64]),(6,.row 82 Y10 .plain),(7,.row 69 (.pair .str Y5) .plain)],8,[]⟩ ⟨[2,3,4,5,6,7,8],[],[]⟩ fun R K v=>f776p0 k (fun w=>K .normal (encSt ⟨[(2,.one (.ptr 0 0)),(4,.one (.ptr 1 0)),(5,.one (.ptr 2 0)),(6,.one (.ptr 3 0)),(7,.one (.ptr 4 0)),(8,oI)],[(0,.var 25 [.ro Y10,.ro (.pair .str Y5)]),(1,.var 25 [.own 5,.own 6]),(2,.var 75 [.int .i64,.int .i64,.int .i64,.int .i64,.str,.str,.str,.bool,.bool,.int .i64]),(3,.var 25 [.ro Y10,.ro (.pair .str Y5)]),(4,.var 75 [.int .i64,.int .i64,.int .i64,.int .i64,.str,.str,.str,.bool,.bool,.int .i64]),(5,.row 82 Y10 .plain),(6,.row 69 (.pair .str Y5) .plain)],7,[]⟩ w)) v
theorem f776p0O (k:Nat):SumO P Tryz.f76 14 (f776p0S k):=pt tm (f776T k) ⟨[2,4,5,6,7,8],[],[]⟩ SumsOk.nil fun _ _ _=>by kernel_rfl
noncomputable def f776F (k:Nat)(x:D14×(Int×D189)):Option (D14×(Int×D190)) :=
 f776p0 k
 (fun (w11:D207) =>
 bif (w11.1 !=0) then
 some ((w11.2.1,w11.2.2.1),(w11.1,(0,(0,(0,(ByteArray.empty,(ByteArray.empty,(ByteArray.empty,(false,(false,0))))))))))
 else
 some ((w11.2.2.2.2.2.2.2.2.2.2.2.2.2.1,w11.2.2.2.2.2.2.2.2.2.2.2.2.2.2.1),(w11.2.2.2.2.2.2.2.2.2.2.2.2.2.2.2.1,(w11.2.2.2.2.2.2.2.2.2.2.2.2.2.2.2.2.1,(w11.2.2.2.2.2.2.2.2.2.2.2.2.2.2.2.2.2.1,(w11.2.2.2.2.2.2.2.2.2.2.2.2.2.2.2.2.2.2.1,(w11.2.2.2.2.2.2.2.2.2.2.2.2.2.2.2.2.2.2.2.1,(w11.2.2.2.2.2.2.2.2.2.2.2.2.2.2.2.2.2.2.2.2.1,(w11.2.2.2.2.2.2.2.2.2.2.2.2.2.2.2.2.2.2.2.2.2.1,(w11.2.2.2.2.2.2.2.2.2.2.2.2.2.2.2.2.2.2.2.2.2.2.1,(w11.2.2.2.2.2.2.2.2.2.2.2.2.2.2.2.2.2.2.2.2.2.2.2.1,w11.2.2.2.2.2.2.2.2.2.2.2.2.2.2.2.2.2.2.2.2.2.2.2.2.1)))))))))))
 (4,x.1.1,x.1.2,x.2.1,x.2.2.1.1,x.2.2.1.2.1,x.2.2.1.2.2.1,x.2.2.1.2.2.2.1,x.2.2.1.2.2.2.2.1,x.2.2.1.2.2.2.2.2,x.2.2.2.1.1,x.2.2.2.1.2.1,x.2.2.2.1.2.2.1,x.2.2.2.1.2.2.2,x.2.2.2.2,0,0,0,0,ByteArray.empty,ByteArray.empty,ByteArray.empty,false,false,0,x.1.1,x.1.2,0,0,0,0,ByteArray.empty,ByteArray.empty,ByteArray.empty,false,false,0,[],[],())
theorem f776Ok (k:Nat):FnV P 76 [.agg Y11,.agg (.pair (.int .i64) Y19)] [.agg Y11,.agg Y20] (f776F k) :=
 fs tm (f776T k) Tryz.func76 (by kernel_rfl) (SumsOk.nil |>.s (f776p0O k) (by kernel_rfl)) none fun _=>by kernel_rfl
noncomputable def f728T (k:Nat):TB P:=TB.nil |>.p (f776Ok k) |>.p (f716Ok k)
noncomputable def f728l0s {R:Type}(k:Nat)(rec:D209->Option R)(k0:D191->Option R)(v:D209):Option R :=
 bif (decide (v.2.1<(v.1.length:Int))) then
 bif ((decide (0<=v.2.1))&&(decide (v.2.1<(v.1.length:Int)))) then
 let t2:=(v.1.getD (Int.toNat v.2.1) (0,((ByteArray.empty,(ByteArray.empty,(ByteArray.empty,(ByteArray.empty,(ByteArray.empty,false))))),((ByteArray.empty,(0,(0,false))),ByteArray.empty))))
 Option.bind (f776F k ((v.2.2.1,v.2.2.2.1),(t2.1,((t2.2.1.1,(t2.2.1.2.1,(t2.2.1.2.2.1,(t2.2.1.2.2.2.1,(t2.2.1.2.2.2.2.1,t2.2.1.2.2.2.2.2))))),((t2.2.2.1.1,(t2.2.2.1.2.1,(t2.2.2.1.2.2.1,t2.2.2.1.2.2.2))),t2.2.2.2))))) fun y3 =>
 let t4:=[(y3.2.1,(y3.2.2.1,(y3.2.2.2.1,(y3.2.2.2.2.1,(y3.2.2.2.2.2.1,(y3.2.2.2.2.2.2.1,(y3.2.2.2.2.2.2.2.1,(y3.2.2.2.2.2.2.2.2.1,(y3.2.2.2.2.2.2.2.2.2.1,y3.2.2.2.2.2.2.2.2.2.2)))))))))]
 bif (decide ((v.2.2.2.2.1.length+t4.length)*96<=140737488355328)&&decide (v.2.2.2.2.1.length+t4.length<=9223372036854775807)) then
 rec (v.1,(IntKind.i64.wrap (v.2.1+1)),y3.1.1,y3.1.2,(v.2.2.2.2.1++t4),v.2.2.2.2.2.1,v.2.2.2.2.2.2.1,())
 else none
 else none
 else
 k0 (v.2.2.1,v.2.2.2.1,v.2.2.2.2.1,v.2.2.2.2.2.1,v.2.2.2.2.2.2.1,())
noncomputable def f728l0 {R:Type}(k:Nat)(k0:D191->Option R)(v:D209):Option R:=iterS (fun rec v=>f728l0s k rec k0 v) k v
noncomputable def f728l0S (k:Nat):=loopSum ⟨[(1,.one (.ro (.pair (.int .i64) Y19))),(4,.one (.ptr 0 0)),(6,.one (.ptr 1 0)),(7,.one (.own 2)),(8,oI)],[(0,.var 25 [.own 3,.own 4]),(1,.var 25 [.ro Y10,.ro (.pair .str Y5)]),(2,.row 75 Y20 .plain),(3,.row 82 Y10 .plain),(4,.row 69 (.pair .str Y5) .plain)],5,[]⟩ ⟨[1,4,6,7,8],[(7,75,Y20)],[]⟩ k fun R rec K v=>f728l0s k rec (fun w=>K (.exit 0) (encSt ⟨[(4,.one (.ptr 0 0)),(6,.one (.ptr 1 0)),(7,.one (.own 2))],[(0,.var 25 [.own 3,.own 4]),(1,.var 25 [.ro Y10,.ro (.pair .str Y5)]),(2,.row 75 Y20 .plain),(3,.row 82 Y10 .plain),(4,.row 69 (.pair .str Y5) .plain)],5,[]⟩ w)) v
theorem f728l0O (k:Nat):SumO P Tryz.f28 122 (f728l0S k):=lp tm (f728T k) ⟨[4,5,6,7],[],[]⟩ SumsOk.nil (by kernel_rfl) fun _ _ _ _=>by kernel_rfl
noncomputable def f728F (k:Nat)(x:D193):Option (D14×List (Int×D190)) :=
 Option.bind (f716F k (x.1.1,x.1.2)) fun y1 =>
 f728l0 k
 (fun (w5:D191) =>
 some ((w5.1,w5.2.1),w5.2.2.1))
 (x.2,0,y1.1,y1.2,[],[],[],())
theorem f728Ok (k:Nat):FnV P 28 [.agg Y11,.dat (.slice (.pair (.int .i64) Y19))] [.agg Y11,.own 75 Y20] (f728F k) :=
 fs tm (f728T k) Tryz.func28 (by kernel_rfl) (SumsOk.nil |>.s (f728l0O k) (by kernel_rfl)) none fun _=>by kernel_rfl
noncomputable def f729l0s {R:Type}(k:Nat)(rec:D210->Option R)(k0:Bool×Unit->Option R)(k1:Unit->Option R)(v:D210):Option R :=
 bif (decide (v.2.2.1<(v.1.length:Int))) then
 bif ((decide (0<=v.2.2.1))&&(decide (v.2.2.1<(v.1.length:Int)))) then
 let t1:=(v.1.getD (Int.toNat v.2.2.1) (0,(0,(0,(0,(ByteArray.empty,(ByteArray.empty,(ByteArray.empty,(false,(false,0))))))))))
 bif ((decide (0<=v.2.2.1))&&(decide (v.2.2.1<(v.2.1.length:Int)))) then
 let t2:=(v.2.1.getD (Int.toNat v.2.2.1) (0,(0,(0,(0,(ByteArray.empty,(ByteArray.empty,(ByteArray.empty,(false,(false,0))))))))))
 let t3:=(!((t1.1==t2.1)&&((t1.2.1==t2.2.1)&&(((t1.2.2.1==t2.2.2.1)&&((t1.2.2.2.1==t2.2.2.2.1)&&((strEq t1.2.2.2.2.1 t2.2.2.2.2.1)&&((strEq t1.2.2.2.2.2.1 t2.2.2.2.2.2.1)&&((strEq t1.2.2.2.2.2.2.1 t2.2.2.2.2.2.2.1)&&((t1.2.2.2.2.2.2.2.1==t2.2.2.2.2.2.2.2.1)&&((t1.2.2.2.2.2.2.2.2.1==t2.2.2.2.2.2.2.2.2.1)&&((t1.2.2.2.2.2.2.2.2.2==t2.2.2.2.2.2.2.2.2.2)&&true))))))))&&true))))
 bif t3 then
 k0 (false,())
 else
 rec (v.1,v.2.1,(IntKind.i64.wrap (v.2.2.1+1)),())
 else none
 else none
 else
 k1 (())
noncomputable def f729l0 {R:Type}(k:Nat)(k0:Bool×Unit->Option R)(k1:Unit->Option R)(v:D210):Option R:=iterS (fun rec v=>f729l0s k rec k0 k1 v) k v
noncomputable def f729l0S (k:Nat):=loopSum ⟨[(0,.one (.ro Y20)),(1,.one (.ro Y20)),(5,oI)],[],0,[]⟩ ⟨[0,1,5],[],[]⟩ k fun R rec K v=>f729l0s k rec (fun w=>K .ret (encSt ⟨[(4,oB)],[],0,[]⟩ w)) (fun w=>K (.exit 0) (encSt ⟨[],[],0,[]⟩ w)) v
theorem f729l0O (k:Nat):SumO P Tryz.f29 58 (f729l0S k):=lp tm TB.nil ⟨[4],[],[]⟩ SumsOk.nil (by kernel_rfl) fun _ _ _ _=>by kernel_rfl
noncomputable def f729F (k:Nat)(x:D211):Option (Bool) :=
 bif ((x.1.length:Int) !=(x.2.length:Int)) then
 some false
 else
 f729l0 k
 (fun (w4:Bool×Unit) =>
 some w4.1)
 (fun (w5:Unit) =>
 some true)
 (x.1,x.2,0,())
theorem f729Ok (k:Nat):FnV P 29 [.dat (.slice Y20),.dat (.slice Y20)] [.dat .bool] (f729F k) :=
 fs tm TB.nil Tryz.func29 (by kernel_rfl) (SumsOk.nil |>.s (f729l0O k) (by kernel_rfl)) none fun _=>by kernel_rfl
noncomputable def f706T (k:Nat):TB P:=TB.nil |>.u (f729Ok k) |>.p (f728Ok k) |>.u (f727Ok k) |>.p (f726Ok k) |>.u (f725Ok k) |>.u (f718Ok k) |>.p (f716Ok k) |>.u (f713Ok k) |>.u (f712Ok k)
noncomputable def f706p0 {R:Type}(k:Nat)(k0:D212->Option R)(v:D212):Option R :=
 bif (v.2.2.1==0) then
 bif (decide ((v.1.length:Int) > 60)) then
 k0 (v.1,v.2.1,2,v.2.2.2.1,v.2.2.2.2.1,v.2.2.2.2.2.1,v.2.2.2.2.2.2.1,v.2.2.2.2.2.2.2.1,())
 else
 k0 (v.1,v.2.1,v.2.2.1,v.2.2.2.1,v.2.2.2.2.1,v.2.2.2.2.2.1,v.2.2.2.2.2.2.1,v.2.2.2.2.2.2.2.1,())
 else
 k0 (v.1,v.2.1,v.2.2.1,v.2.2.2.1,v.2.2.2.2.1,v.2.2.2.2.2.1,v.2.2.2.2.2.2.1,v.2.2.2.2.2.2.2.1,())
noncomputable def f706p0S (k:Nat):=partSum ⟨[(1,.one (.ro (.pair (.int .i64) Y19))),(2,.one (.ptr 0 0)),(5,.one (.ptr 1 0)),(6,.one (.own 2)),(7,oI),(8,oI)],[(0,.var 25 [.ro Y10,.ro (.pair .str Y5)]),(1,.var 25 [.ro Y10,.ro (.pair .str Y5)]),(2,.row 75 Y20 .plain)],3,[]⟩ ⟨[1,2,5,6,7,8],[],[]⟩ fun R K v=>f706p0 k (fun w=>K .normal (encSt ⟨[(1,.one (.ro (.pair (.int .i64) Y19))),(2,.one (.ptr 0 0)),(5,.one (.ptr 1 0)),(6,.one (.own 2)),(7,oI),(8,oI)],[(0,.var 25 [.ro Y10,.ro (.pair .str Y5)]),(1,.var 25 [.ro Y10,.ro (.pair .str Y5)]),(2,.row 75 Y20 .plain)],3,[]⟩ w)) v
theorem f706p0O (k:Nat):SumO P Tryz.f6 126 (f706p0S k):=pt tm (f706T k) ⟨[1,2,4,5,6,7,8],[],[]⟩ SumsOk.nil fun _ _ _=>by kernel_rfl
noncomputable def f706F (k:Nat)(x:D193):Option (Bool) :=
 Option.bind (f712F k ()) fun y1 =>
 bif (!y1) then
 some false
 else
 Option.bind (f713F k (x.1.1,x.1.2)) fun y2 =>
 bif (!y2) then
 some true
 else
 Option.bind (f725F k x.2) fun y3 =>
 bif (!y3) then
 some true
 else
 Option.bind (f716F k (x.1.1,x.1.2)) fun y4 =>
 bif (decide ((([]:List (Int×D189)).length+x.2.length)*152<=140737488355328)&&decide (([]:List (Int×D189)).length+x.2.length<=9223372036854775807)) then
 Option.bind (f726F k ((y4.1,y4.2),([]++x.2))) fun y5 =>
 Option.bind (f727F k (x.1.1,x.1.2)) fun y6 =>
 f706p0 k
 (fun (w7:D212) =>
 bif (w7.2.2.1 !=0) then
 bif (w7.2.1==w7.2.2.1) then
 Option.bind (f718F k ((w7.2.2.2.2.2.1,w7.2.2.2.2.2.2.1),([],[]))) fun y8 =>
 bif y8 then
 some ((w7.2.2.2.2.2.2.2.1.length:Int)==0)
 else
 some false
 else
 some false
 else
 Option.bind (f728F k ((w7.2.2.2.1,w7.2.2.2.2.1),w7.1)) fun y9 =>
 bif (w7.2.1==0) then
 Option.bind (f718F k ((w7.2.2.2.2.2.1,w7.2.2.2.2.2.2.1),(y9.1.1,y9.1.2))) fun y10 =>
 bif y10 then
 Option.bind (f729F k (w7.2.2.2.2.2.2.2.1,y9.2)) fun y11 =>
 some y11
 else
 some false
 else
 some false)
 (x.2,y5.2.2,y6,x.1.1,x.1.2,y5.1.1,y5.1.2,y5.2.1,())
 else none
theorem f706Ok (k:Nat):FnV P 6 [.agg Y11,.dat (.slice (.pair (.int .i64) Y19))] [.dat .bool] (f706F k) :=
 fs tm (f706T k) Tryz.func6 (by kernel_rfl) (SumsOk.nil |>.s (f706p0O k) (by kernel_rfl)) none fun _=>by kernel_rfl
end Go.Proofs.YthcmomgkfjjajaaGreatDoor
