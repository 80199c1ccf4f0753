import Derived.Test.YthcmomgkfjjajaaGreatDoorFcJ
import Derived.Test.YthcmomgkfjjajaaGreatDoorProg
set_option linter.unusedVariables false
set_option maxRecDepth 100000
namespace Go.Proofs.YthcmomgkfjjajaaGreatDoor
open Go.Ab
noncomputable def f813F (k:Nat)(x:Int):Option (Bool) :=
 bif (decide (65<=x)) then
 some (decide (x<=90))
 else
 some false
theorem f813Ok (k:Nat):FnV P 113 [.dat (.int .u8)] [.dat .bool] (f813F k) :=
 fs tm TB.nil Tryz.func113 (by kernel_rfl) SumsOk.nil none fun _=>by kernel_rfl
noncomputable def f814F (k:Nat)(x:Int):Option (Bool) :=
 bif (decide (48<=x)) then
 some (decide (x<=57))
 else
 some false
theorem f814Ok (k:Nat):FnV P 114 [.dat (.int .u8)] [.dat .bool] (f814F k) :=
 fs tm TB.nil Tryz.func114 (by kernel_rfl) SumsOk.nil none fun _=>by kernel_rfl
noncomputable def f791T (k:Nat):TB P:=TB.nil |>.u (f814Ok k) |>.u (f813Ok k)
noncomputable def f791p0 {R:Type}(k:Nat)(k0:D148->Option R)(k1:ByteArray×Int×Unit->Option R)(v:ByteArray×Int×Unit):Option R :=
 bif ((decide (0<=v.2.1))&&(decide (v.2.1<(v.1.size:Int)))) then
 Option.bind (f814F k (bt v.1 v.2.1)) fun y2 =>
 bif (!y2) then
 bif (decide (v.2.1<3)) then
 Option.bind (f813F k (bt v.1 v.2.1)) fun y3 =>
 bif (!y3) then
 k0 (v.1,false,v.2.1,())
 else
 bif (decide (v.2.1≥3)) then
 bif (decide ((bt v.1 v.2.1)<65)) then
 k0 (v.1,false,v.2.1,())
 else
 bif (decide ((bt v.1 v.2.1) > 70)) then
 k0 (v.1,false,v.2.1,())
 else
 k1 (v.1,v.2.1,())
 else
 k1 (v.1,v.2.1,())
 else
 bif (decide (v.2.1≥3)) then
 bif (decide ((bt v.1 v.2.1)<65)) then
 k0 (v.1,false,v.2.1,())
 else
 bif (decide ((bt v.1 v.2.1) > 70)) then
 k0 (v.1,false,v.2.1,())
 else
 k1 (v.1,v.2.1,())
 else
 k1 (v.1,v.2.1,())
 else
 k1 (v.1,v.2.1,())
 else none
noncomputable def f791p0S (k:Nat):=partSum ⟨[(0,oS),(3,oI)],[],0,[]⟩ ⟨[0,3],[],[]⟩ fun R K v=>f791p0 k (fun w=>K .ret (encSt ⟨[(0,oS),(2,oB),(3,oI)],[],0,[]⟩ w)) (fun w=>K .normal (encSt ⟨[(0,oS),(3,oI)],[],0,[]⟩ w)) v
theorem f791p0O (k:Nat):SumO P Tryz.f91 466 (f791p0S k):=pt tm (f791T k) ⟨[0,2,3],[],[]⟩ SumsOk.nil fun _ _ _=>by kernel_rfl
noncomputable def f791l1s {R:Type}(k:Nat)(rec:ByteArray×Int×Unit->Option R)(k0:Bool×Unit->Option R)(k1:Unit->Option R)(v:ByteArray×Int×Unit):Option R :=
 bif (decide (v.2.1<7)) then
 f791p0 k
 (fun (w4:D148) =>
 k0 (w4.2.1,()))
 (fun (w5:ByteArray×Int×Unit) =>
 rec (w5.1,(IntKind.i64.wrap (w5.2.1+1)),()))
 (v.1,v.2.1,())
 else
 k1 (())
noncomputable def f791l1 {R:Type}(k:Nat)(k0:Bool×Unit->Option R)(k1:Unit->Option R)(v:ByteArray×Int×Unit):Option R:=iterS (fun rec v=>f791l1s k rec k0 k1 v) k v
noncomputable def f791l1S (k:Nat):=loopSum ⟨[(0,oS),(3,oI)],[],0,[]⟩ ⟨[0,3],[],[]⟩ k fun R rec K v=>f791l1s k rec (fun w=>K .ret (encSt ⟨[(2,oB)],[],0,[]⟩ w)) (fun w=>K (.exit 0) (encSt ⟨[],[],0,[]⟩ w)) v
theorem f791l1O (k:Nat):SumO P Tryz.f91 58 (f791l1S k):=lp tm (f791T k) ⟨[2],[],[]⟩ (SumsOk.nil |>.s (f791p0O k) (by kernel_rfl)) (by kernel_rfl) fun _ _ _ _=>by kernel_rfl
noncomputable def f791F (k:Nat)(x:ByteArray):Option (Bool) :=
 bif ((x.size:Int) !=7) then
 some false
 else
 bif (decide (0<(x.size:Int))) then
 Option.bind (f813F k (bt x 0)) fun y1 =>
 bif (!y1) then
 some false
 else
 f791l1 k
 (fun (w6:Bool×Unit) =>
 some w6.1)
 (fun (w7:Unit) =>
 some true)
 (x,1,())
 else none
theorem f791Ok (k:Nat):FnV P 91 [.dat .str] [.dat .bool] (f791F k) :=
 fs tm (f791T k) Tryz.func91 (by kernel_rfl) (SumsOk.nil |>.s (f791l1O k) (by kernel_rfl) |>.s (f791p0O k) (by kernel_rfl)) none fun _=>by kernel_rfl
noncomputable def f48F (k:Nat)(x:Int×Int×Int):Option (Bool) :=
 bif (decide (x.2.1<=x.1)) then
 some (decide (x.1<=x.2.2))
 else
 some false
theorem f48Ok (k:Nat):FnV P 65 [.dat (.int .i64),.dat (.int .i64),.dat (.int .i64)] [.dat .bool] (f48F k) :=
 fs tm TB.nil Tryz.func65 (by kernel_rfl) SumsOk.nil none fun _=>by kernel_rfl
noncomputable def f756l0s {R:Type}(k:Nat)(rec:ByteArray×Int×Unit->Option R)(k0:Bool×Unit->Option R)(k1:Unit->Option R)(v:ByteArray×Int×Unit):Option R :=
 bif (decide (v.2.1<(v.1.size:Int))) then
 bif ((decide (0<=v.2.1))&&(decide (v.2.1<(v.1.size:Int)))) then
 bif (decide ((bt v.1 v.2.1)<32)) then
 k0 (false,())
 else
 bif ((decide (0<=v.2.1))&&(decide (v.2.1<(v.1.size:Int)))) then
 bif (decide ((bt v.1 v.2.1) > 126)) then
 k0 (false,())
 else
 rec (v.1,(IntKind.i64.wrap (v.2.1+1)),())
 else none
 else none
 else
 k1 (())
noncomputable def f756l0 {R:Type}(k:Nat)(k0:Bool×Unit->Option R)(k1:Unit->Option R)(v:ByteArray×Int×Unit):Option R:=iterS (fun rec v=>f756l0s k rec k0 k1 v) k v
noncomputable def f756l0S (k:Nat):=loopSum ⟨[(0,oS),(3,oI)],[],0,[]⟩ ⟨[0,3],[],[]⟩ k fun R rec K v=>f756l0s k rec (fun w=>K .ret (encSt ⟨[(2,oB)],[],0,[]⟩ w)) (fun w=>K (.exit 0) (encSt ⟨[],[],0,[]⟩ w)) v
theorem f756l0O (k:Nat):SumO P Tryz.f56 26 (f756l0S k):=lp tm TB.nil ⟨[2],[],[]⟩ SumsOk.nil (by kernel_rfl) fun _ _ _ _=>by kernel_rfl
noncomputable def f756F (k:Nat)(x:ByteArray):Option (Bool) :=
 f756l0 k
 (fun (w1:Bool×Unit) =>
 some w1.1)
 (fun (w2:Unit) =>
 some true)
 (x,0,())
theorem f756Ok (k:Nat):FnV P 56 [.dat .str] [.dat .bool] (f756F k) :=
 fs tm TB.nil Tryz.func56 (by kernel_rfl) (SumsOk.nil |>.s (f756l0O k) (by kernel_rfl)) none fun _=>by kernel_rfl
noncomputable def f820T (k:Nat):TB P:=TB.nil |>.u (f48Ok k)
noncomputable def f820p0 {R:Type}(k:Nat)(k0:D149->Option R)(v:D150):Option R :=
 bif (v.1==1) then
 k0 (v.1,(v.1==1),v.2.1,v.2.2.1,v.2.2.2.1,())
 else
 k0 (v.1,(v.1==2),v.2.1,v.2.2.1,v.2.2.2.1,())
noncomputable def f820p0S (k:Nat):=partSum ⟨[(1,.one (.ptr 0 0)),(4,oI)],[(0,.var 115 [.int .i64,.int .i64,.int .i64])],1,[]⟩ ⟨[1,4],[],[]⟩ fun R K v=>f820p0 k (fun w=>K .normal (encSt ⟨[(1,.one (.ptr 0 0)),(4,oI),(15,oB)],[(0,.var 115 [.int .i64,.int .i64,.int .i64])],1,[]⟩ w)) v
theorem f820p0O (k:Nat):SumO P Tryz.f120 214 (f820p0S k):=pt tm (f820T k) ⟨[1,2,4,15],[],[]⟩ SumsOk.nil fun _ _ _=>by kernel_rfl
noncomputable def f820F (k:Nat)(x:(Int×(Int×Int))):Option (Bool) :=
 bif (x.1==0) then
 Option.bind (f48F k (x.2.1,1,256)) fun y1 =>
 bif y1 then
 some (x.2.2==0)
 else
 some false
 else
 f820p0 k
 (fun (w2:D149) =>
 bif w2.2.1 then
 Option.bind (f48F k (w2.2.2.2.1,1,15)) fun y3 =>
 bif y3 then
 Option.bind (f48F k (w2.2.2.2.2.1,0,w2.2.2.2.1)) fun y4 =>
 some y4
 else
 some false
 else
 bif (w2.1==3) then
 bif (w2.2.2.2.1==4) then
 Option.bind (f48F k (w2.2.2.2.2.1,0,w2.2.2.2.1)) fun y5 =>
 some y5
 else
 bif (w2.2.2.2.1==9) then
 Option.bind (f48F k (w2.2.2.2.2.1,0,w2.2.2.2.1)) fun y6 =>
 some y6
 else
 some false
 else
 bif (w2.2.2.1==4) then
 bif (w2.2.2.2.1==0) then
 some (w2.2.2.2.2.1==0)
 else
 some false
 else
 some false)
 (x.1,x.1,x.2.1,x.2.2,())
theorem f820Ok (k:Nat):FnV P 120 [.agg (.pair (.int .i64) Y6)] [.dat .bool] (f820F k) :=
 fs tm (f820T k) Tryz.func120 (by kernel_rfl) (SumsOk.nil |>.s (f820p0O k) (by kernel_rfl)) none fun _=>by kernel_rfl
noncomputable def f773l0s {R:Type}(k:Nat)(rec:D151->Option R)(k0:Int×Unit->Option R)(k1:Unit->Option R)(v:D151):Option R :=
 bif (decide (v.2.2.1<(v.1.length:Int))) then
 bif ((decide (0<=v.2.2.1))&&(decide (v.2.2.1<(v.1.length:Int)))) then
 bif (strEq (v.1.getD (Int.toNat v.2.2.1) ByteArray.empty) v.2.1) then
 k0 (v.2.2.1,())
 else
 rec (v.1,v.2.1,(IntKind.i64.wrap (v.2.2.1+1)),())
 else none
 else
 k1 (())
noncomputable def f773l0 {R:Type}(k:Nat)(k0:Int×Unit->Option R)(k1:Unit->Option R)(v:D151):Option R:=iterS (fun rec v=>f773l0s k rec k0 k1 v) k v
noncomputable def f773l0S (k:Nat):=loopSum ⟨[(0,.one (.ro .str)),(1,oS),(5,oI)],[],0,[]⟩ ⟨[0,1,5],[],[]⟩ k fun R rec K v=>f773l0s k rec (fun w=>K .ret (encSt ⟨[(4,oI)],[],0,[]⟩ w)) (fun w=>K (.exit 0) (encSt ⟨[],[],0,[]⟩ w)) v
theorem f773l0O (k:Nat):SumO P Tryz.f73 26 (f773l0S k):=lp tm TB.nil ⟨[4],[],[]⟩ SumsOk.nil (by kernel_rfl) fun _ _ _ _=>by kernel_rfl
noncomputable def f773F (k:Nat)(x:D24):Option (Int) :=
 f773l0 k
 (fun (w1:Int×Unit) =>
 some w1.1)
 (fun (w2:Unit) =>
 some (-1))
 (x.1,x.2,0,())
theorem f773Ok (k:Nat):FnV P 73 [.dat (.slice .str),.dat .str] [.dat (.int .i64)] (f773F k) :=
 fs tm TB.nil Tryz.func73 (by kernel_rfl) (SumsOk.nil |>.s (f773l0O k) (by kernel_rfl)) none fun _=>by kernel_rfl
noncomputable def f792T (k:Nat):TB P:=TB.nil |>.u (f820Ok k) |>.u (f773Ok k) |>.u (f48Ok k) |>.u (f756Ok k)
noncomputable def f792l0s {R:Type}(k:Nat)(rec:D152->Option R)(k0:D152->Option R)(k1:D153->Option R)(v:D152):Option R :=
 bif (decide (v.1<(v.2.2.2.2.2.1.length:Int))) then
 bif ((decide (0<=v.1))&&(decide (v.1<(v.2.2.2.2.2.1.length:Int)))) then
 let t4:=(v.2.2.2.2.2.1.getD (Int.toNat v.1) (0,(0,0)))
 Option.bind (f820F k (t4.1,(t4.2.1,t4.2.2))) fun y5 =>
 bif (!y5) then
 k0 (17,v.2.1,v.2.2.1,v.2.2.2.1,v.2.2.2.2.1,v.2.2.2.2.2.1,v.2.2.2.2.2.2.1,v.2.2.2.2.2.2.2.1,())
 else
 bif ((decide (0<=v.1))&&(decide (v.1<(v.2.2.2.2.2.1.length:Int)))) then
 let t6:=(v.2.2.2.2.2.1.getD (Int.toNat v.1) (0,(0,0)))
 bif (t6.1==4) then
 k0 (17,v.2.1,v.2.2.1,v.2.2.2.1,v.2.2.2.2.1,v.2.2.2.2.2.1,v.2.2.2.2.2.2.1,v.2.2.2.2.2.2.2.1,())
 else
 rec ((IntKind.i64.wrap (v.1+1)),v.2.1,v.2.2.1,v.2.2.2.1,v.2.2.2.2.1,v.2.2.2.2.2.1,v.2.2.2.2.2.2.1,v.2.2.2.2.2.2.2.1,())
 else none
 else none
 else
 k1 (v.2.1,v.2.2.1,v.2.2.2.1,v.2.2.2.2.1,v.2.2.2.2.2.1,v.2.2.2.2.2.2.1,v.2.2.2.2.2.2.2.1,())
noncomputable def f792l0 {R:Type}(k:Nat)(k0:D152->Option R)(k1:D153->Option R)(v:D152):Option R:=iterS (fun rec v=>f792l0s k rec k0 k1 v) k v
noncomputable def f792l0S (k:Nat):=loopSum ⟨[(1,.one (.ptr 0 0)),(3,oI)],[(0,.var 82 [.str,.int .i64,.str,.str,.ro (.pair (.int .i64) Y6),.str,.ro .str])],1,[]⟩ ⟨[1,3],[],[]⟩ k fun R rec K v=>f792l0s k rec (fun w=>K .ret (encSt ⟨[(1,.one (.ptr 0 0)),(2,oI)],[(0,.var 82 [.str,.int .i64,.str,.str,.ro (.pair (.int .i64) Y6),.str,.ro .str])],1,[]⟩ w)) (fun w=>K (.exit 0) (encSt ⟨[(1,.one (.ptr 0 0))],[(0,.var 82 [.str,.int .i64,.str,.str,.ro (.pair (.int .i64) Y6),.str,.ro .str])],1,[]⟩ w)) v
theorem f792l0O (k:Nat):SumO P Tryz.f92 1018 (f792l0S k):=lp tm (f792T k) ⟨[1,2],[],[]⟩ SumsOk.nil (by kernel_rfl) fun _ _ _ _=>by kernel_rfl
noncomputable def f792l1s {R:Type}(k:Nat)(rec:D152->Option R)(k0:Int×Unit->Option R)(k1:Unit->Option R)(v:D152):Option R :=
 bif (decide (v.1<(v.2.2.2.2.2.2.2.1.length:Int))) then
 bif ((decide (0<=v.1))&&(decide (v.1<(v.2.2.2.2.2.2.2.1.length:Int)))) then
 let t10:=(((v.2.2.2.2.2.2.2.1.getD (Int.toNat v.1) ByteArray.empty).size:Int)==0)
 bif t10 then
 k0 (1,())
 else
 let t11:=(decide (((v.2.2.2.2.2.2.2.1.getD (Int.toNat v.1) ByteArray.empty).size:Int) > 32))
 bif t11 then
 k0 (2,())
 else
 Option.bind (f756F k (v.2.2.2.2.2.2.2.1.getD (Int.toNat v.1) ByteArray.empty)) fun y12 =>
 bif (!y12) then
 k0 (5,())
 else
 bif (sliceBds 0 v.1 (v.2.2.2.2.2.2.2.1.length:Int)) then
 Option.bind (f773F k (((v.2.2.2.2.2.2.2.1.take (Int.toNat v.1)).drop 0),(v.2.2.2.2.2.2.2.1.getD (Int.toNat v.1) ByteArray.empty))) fun y13 =>
 bif (y13 !=(-1)) then
 k0 (13,())
 else
 rec ((IntKind.i64.wrap (v.1+1)),v.2.1,v.2.2.1,v.2.2.2.1,v.2.2.2.2.1,v.2.2.2.2.2.1,v.2.2.2.2.2.2.1,v.2.2.2.2.2.2.2.1,())
 else none
 else none
 else
 k1 (())
noncomputable def f792l1 {R:Type}(k:Nat)(k0:Int×Unit->Option R)(k1:Unit->Option R)(v:D152):Option R:=iterS (fun rec v=>f792l1s k rec k0 k1 v) k v
noncomputable def f792l1S (k:Nat):=loopSum ⟨[(1,.one (.ptr 0 0)),(4,oI)],[(0,.var 82 [.str,.int .i64,.str,.str,.ro (.pair (.int .i64) Y6),.str,.ro .str])],1,[]⟩ ⟨[1,4],[],[]⟩ k fun R rec K v=>f792l1s k rec (fun w=>K .ret (encSt ⟨[(2,oI)],[],0,[]⟩ w)) (fun w=>K (.exit 2) (encSt ⟨[],[],0,[]⟩ w)) v
theorem f792l1O (k:Nat):SumO P Tryz.f92 16378 (f792l1S k):=lp tm (f792T k) ⟨[2],[],[]⟩ SumsOk.nil (by kernel_rfl) fun _ _ _ _=>by kernel_rfl
noncomputable def f792F (k:Nat)(x:D13):Option (Int) :=
 Option.bind (f48F k (x.2.1,0,99)) fun y1 =>
 bif (!y1) then
 some 3
 else
 bif ((x.2.2.1.size:Int)==0) then
 some 1
 else
 bif (decide ((x.2.2.1.size:Int) > 200)) then
 some 2
 else
 bif (decide ((x.2.2.2.1.size:Int) > 200)) then
 some 2
 else
 Option.bind (f756F k x.2.2.1) fun y2 =>
 bif (!y2) then
 some 5
 else
 Option.bind (f756F k x.2.2.2.1) fun y3 =>
 bif (!y3) then
 some 5
 else
 bif (decide ((x.2.2.2.2.1.length:Int) > 9)) then
 some 2
 else
 f792l0 k
 (fun (w7:D152) =>
 some w7.1)
 (fun (w8:D153) =>
 bif (decide ((w8.2.2.2.2.2.1.size:Int) > 32)) then
 some 2
 else
 Option.bind (f756F k w8.2.2.2.2.2.1) fun y9 =>
 bif (!y9) then
 some 5
 else
 bif (decide ((w8.2.2.2.2.2.2.1.length:Int) > 8)) then
 some 2
 else
 f792l1 k
 (fun (w14:Int×Unit) =>
 some w14.1)
 (fun (w15:Unit) =>
 some 0)
 (0,w8.1,w8.2.1,w8.2.2.1,w8.2.2.2.1,w8.2.2.2.2.1,w8.2.2.2.2.2.1,w8.2.2.2.2.2.2.1,()))
 (0,x.1,x.2.1,x.2.2.1,x.2.2.2.1,x.2.2.2.2.1,x.2.2.2.2.2.1,x.2.2.2.2.2.2,())
theorem f792Ok (k:Nat):FnV P 92 [.agg Y10] [.dat (.int .i64)] (f792F k) :=
 fs tm (f792T k) Tryz.func92 (by kernel_rfl) (SumsOk.nil |>.s (f792l1O k) (by kernel_rfl) |>.s (f792l0O k) (by kernel_rfl)) none fun _=>by kernel_rfl
noncomputable def f748T (k:Nat):TB P:=TB.nil |>.u (f792Ok k) |>.u (f791Ok k)
noncomputable def f748p0 {R:Type}(k:Nat)(k0:D154->Option R)(v:List D13×Int×Unit):Option R :=
 bif ((decide (0<=v.2.1))&&(decide (v.2.1<(v.1.length:Int)))) then
 let t1:=(v.1.getD (Int.toNat v.2.1) (ByteArray.empty,(0,(ByteArray.empty,(ByteArray.empty,([],(ByteArray.empty,[])))))))
 Option.bind (f791F k t1.1) fun y2 =>
 bif (!y2) then
 k0 (v.1,v.2.1,7,())
 else
 bif (decide (v.2.1 > 0)) then
 bif ((decide (0<=v.2.1))&&(decide (v.2.1<(v.1.length:Int)))) then
 let t3:=(v.1.getD (Int.toNat v.2.1) (ByteArray.empty,(0,(ByteArray.empty,(ByteArray.empty,([],(ByteArray.empty,[])))))))
 bif ((decide (0<=(IntKind.i64.wrap (v.2.1 - 1))))&&(decide ((IntKind.i64.wrap (v.2.1 - 1))<(v.1.length:Int)))) then
 let t4:=(v.1.getD (Int.toNat (IntKind.i64.wrap (v.2.1 - 1))) (ByteArray.empty,(0,(ByteArray.empty,(ByteArray.empty,([],(ByteArray.empty,[])))))))
 bif (strLt t3.1 t4.1||strEq t3.1 t4.1) then
 k0 (v.1,v.2.1,14,())
 else
 bif ((decide (0<=v.2.1))&&(decide (v.2.1<(v.1.length:Int)))) then
 let t5:=(v.1.getD (Int.toNat v.2.1) (ByteArray.empty,(0,(ByteArray.empty,(ByteArray.empty,([],(ByteArray.empty,[])))))))
 Option.bind (f792F k (t5.1,(t5.2.1,(t5.2.2.1,(t5.2.2.2.1,(t5.2.2.2.2.1,(t5.2.2.2.2.2.1,t5.2.2.2.2.2.2))))))) fun y6 =>
 k0 (v.1,v.2.1,y6,())
 else none
 else none
 else none
 else
 bif ((decide (0<=v.2.1))&&(decide (v.2.1<(v.1.length:Int)))) then
 let t7:=(v.1.getD (Int.toNat v.2.1) (ByteArray.empty,(0,(ByteArray.empty,(ByteArray.empty,([],(ByteArray.empty,[])))))))
 Option.bind (f792F k (t7.1,(t7.2.1,(t7.2.2.1,(t7.2.2.2.1,(t7.2.2.2.2.1,(t7.2.2.2.2.2.1,t7.2.2.2.2.2.2))))))) fun y8 =>
 k0 (v.1,v.2.1,y8,())
 else none
 else none
noncomputable def f748p0S (k:Nat):=partSum ⟨[(0,.one (.ro Y10)),(4,oI)],[],0,[]⟩ ⟨[0,4],[],[]⟩ fun R K v=>f748p0 k (fun w=>K .normal (encSt ⟨[(0,.one (.ro Y10)),(4,oI),(5,oI)],[],0,[]⟩ w)) v
theorem f748p0O (k:Nat):SumO P Tryz.f48 3730 (f748p0S k):=pt tm (f748T k) ⟨[0,2,3,4,5],[],[]⟩ SumsOk.nil fun _ _ _=>by kernel_rfl
noncomputable def f748l1s {R:Type}(k:Nat)(rec:List D13×Int×Unit->Option R)(k0:Int×Int×Unit->Option R)(k1:Unit->Option R)(v:List D13×Int×Unit):Option R :=
 bif (decide (v.2.1<(v.1.length:Int))) then
 f748p0 k
 (fun (w9:D154) =>
 bif (w9.2.2.1 !=0) then
 k0 (w9.2.1,w9.2.2.1,())
 else
 rec (w9.1,(IntKind.i64.wrap (w9.2.1+1)),()))
 (v.1,v.2.1,())
 else
 k1 (())
noncomputable def f748l1 {R:Type}(k:Nat)(k0:Int×Int×Unit->Option R)(k1:Unit->Option R)(v:List D13×Int×Unit):Option R:=iterS (fun rec v=>f748l1s k rec k0 k1 v) k v
noncomputable def f748l1S (k:Nat):=loopSum ⟨[(0,.one (.ro Y10)),(4,oI)],[],0,[]⟩ ⟨[0,4],[],[]⟩ k fun R rec K v=>f748l1s k rec (fun w=>K .ret (encSt ⟨[(2,oI),(3,oI)],[],0,[]⟩ w)) (fun w=>K (.exit 0) (encSt ⟨[],[],0,[]⟩ w)) v
theorem f748l1O (k:Nat):SumO P Tryz.f48 58 (f748l1S k):=lp tm (f748T k) ⟨[2,3],[],[]⟩ (SumsOk.nil |>.s (f748p0O k) (by kernel_rfl)) (by kernel_rfl) fun _ _ _ _=>by kernel_rfl
noncomputable def f748F (k:Nat)(x:(List D13)):Option (Int×Int) :=
 bif (decide ((x.length:Int) > 20)) then
 some (0,2)
 else
 f748l1 k
 (fun (w10:Int×Int×Unit) =>
 some (w10.1,w10.2.1))
 (fun (w11:Unit) =>
 some (0,0))
 (x,0,())
theorem f748Ok (k:Nat):FnV P 48 [.dat (.slice Y10)] [.dat (.int .i64),.dat (.int .i64)] (f748F k) :=
 fs tm (f748T k) Tryz.func48 (by kernel_rfl) (SumsOk.nil |>.s (f748l1O k) (by kernel_rfl) |>.s (f748p0O k) (by kernel_rfl)) none fun _=>by kernel_rfl
noncomputable def f785T (k:Nat):TB P:=TB.nil |>.u (f814Ok k) |>.u (f813Ok k) |>.u (f48Ok k)
noncomputable def f785p0 {R:Type}(k:Nat)(k0:ByteArray×Int×Unit->Option R)(k1:D148->Option R)(v:ByteArray×Int×Unit):Option R :=
 bif ((decide (0<=v.2.1))&&(decide (v.2.1<(v.1.size:Int)))) then
 Option.bind (f813F k (bt v.1 v.2.1)) fun y2 =>
 bif y2 then
 k0 (v.1,v.2.1,())
 else
 bif ((bt v.1 v.2.1)==36) then
 k0 (v.1,v.2.1,())
 else
 bif ((bt v.1 v.2.1)==35) then
 k0 (v.1,v.2.1,())
 else
 bif (!((bt v.1 v.2.1)==64)) then
 bif (v.2.1==0) then
 k1 (v.1,false,v.2.1,())
 else
 Option.bind (f814F k (bt v.1 v.2.1)) fun y3 =>
 bif (!y3) then
 bif ((bt v.1 v.2.1) !=95) then
 bif ((bt v.1 v.2.1) !=46) then
 k1 (v.1,false,v.2.1,())
 else
 k0 (v.1,v.2.1,())
 else
 k0 (v.1,v.2.1,())
 else
 k0 (v.1,v.2.1,())
 else
 k0 (v.1,v.2.1,())
 else none
noncomputable def f785p0S (k:Nat):=partSum ⟨[(0,oS),(3,oI)],[],0,[]⟩ ⟨[0,3],[],[]⟩ fun R K v=>f785p0 k (fun w=>K .normal (encSt ⟨[(0,oS),(3,oI)],[],0,[]⟩ w)) (fun w=>K .ret (encSt ⟨[(0,oS),(2,oB),(3,oI)],[],0,[]⟩ w)) v
theorem f785p0O (k:Nat):SumO P Tryz.f85 466 (f785p0S k):=pt tm (f785T k) ⟨[0,2,3],[],[]⟩ SumsOk.nil fun _ _ _=>by kernel_rfl
noncomputable def f785l1s {R:Type}(k:Nat)(rec:ByteArray×Int×Unit->Option R)(k0:Bool×Unit->Option R)(k1:Unit->Option R)(v:ByteArray×Int×Unit):Option R :=
 bif (decide (v.2.1<(v.1.size:Int))) then
 f785p0 k
 (fun (w4:ByteArray×Int×Unit) =>
 rec (w4.1,(IntKind.i64.wrap (w4.2.1+1)),()))
 (fun (w5:D148) =>
 k0 (w5.2.1,()))
 (v.1,v.2.1,())
 else
 k1 (())
noncomputable def f785l1 {R:Type}(k:Nat)(k0:Bool×Unit->Option R)(k1:Unit->Option R)(v:ByteArray×Int×Unit):Option R:=iterS (fun rec v=>f785l1s k rec k0 k1 v) k v
noncomputable def f785l1S (k:Nat):=loopSum ⟨[(0,oS),(3,oI)],[],0,[]⟩ ⟨[0,3],[],[]⟩ k fun R rec K v=>f785l1s k rec (fun w=>K .ret (encSt ⟨[(2,oB)],[],0,[]⟩ w)) (fun w=>K (.exit 0) (encSt ⟨[],[],0,[]⟩ w)) v
theorem f785l1O (k:Nat):SumO P Tryz.f85 58 (f785l1S k):=lp tm (f785T k) ⟨[2],[],[]⟩ (SumsOk.nil |>.s (f785p0O k) (by kernel_rfl)) (by kernel_rfl) fun _ _ _ _=>by kernel_rfl
noncomputable def f785F (k:Nat)(x:ByteArray):Option (Bool) :=
 Option.bind (f48F k ((x.size:Int),1,10)) fun y1 =>
 bif (!y1) then
 some false
 else
 f785l1 k
 (fun (w6:Bool×Unit) =>
 some w6.1)
 (fun (w7:Unit) =>
 some true)
 (x,0,())
theorem f785Ok (k:Nat):FnV P 85 [.dat .str] [.dat .bool] (f785F k) :=
 fs tm (f785T k) Tryz.func85 (by kernel_rfl) (SumsOk.nil |>.s (f785l1O k) (by kernel_rfl) |>.s (f785p0O k) (by kernel_rfl)) none fun _=>by kernel_rfl
noncomputable def f786T (k:Nat):TB P:=TB.nil |>.u (f791Ok k) |>.u (f48Ok k) |>.u (f756Ok k) |>.u (f731Ok k)
noncomputable def f786p0 {R:Type}(k:Nat)(k0:D155->Option R)(k1:D80->Option R)(v:D80):Option R :=
 bif (!strEq v.2.2.2.2.1 ByteArray.empty) then
 Option.bind (f791F k v.2.2.2.2.1) fun y2 =>
 bif (!y2) then
 k0 (7,v.1,v.2.1,v.2.2.1,v.2.2.2.1,v.2.2.2.2.1,v.2.2.2.2.2.1,v.2.2.2.2.2.2.1,v.2.2.2.2.2.2.2.1,v.2.2.2.2.2.2.2.2.1,v.2.2.2.2.2.2.2.2.2.1,())
 else
 k1 (v.1,v.2.1,v.2.2.1,v.2.2.2.1,v.2.2.2.2.1,v.2.2.2.2.2.1,v.2.2.2.2.2.2.1,v.2.2.2.2.2.2.2.1,v.2.2.2.2.2.2.2.2.1,v.2.2.2.2.2.2.2.2.2.1,())
 else
 k1 (v.1,v.2.1,v.2.2.1,v.2.2.2.1,v.2.2.2.2.1,v.2.2.2.2.2.1,v.2.2.2.2.2.2.1,v.2.2.2.2.2.2.2.1,v.2.2.2.2.2.2.2.2.1,v.2.2.2.2.2.2.2.2.2.1,())
noncomputable def f786p0S (k:Nat):=partSum ⟨[(2,.one (.ptr 0 0)),(3,.one (.ptr 1 0))],[(0,.var 25 [.ro Y10,.ro (.pair .str Y5)]),(1,.var 42 [.int .i64,.int .i64,.str,.str,.str,.bool,.bool,.int .i64])],2,[]⟩ ⟨[2,3],[],[]⟩ fun R K v=>f786p0 k (fun w=>K .ret (encSt ⟨[(2,.one (.ptr 0 0)),(3,.one (.ptr 1 0)),(4,oI)],[(0,.var 25 [.ro Y10,.ro (.pair .str Y5)]),(1,.var 42 [.int .i64,.int .i64,.str,.str,.str,.bool,.bool,.int .i64])],2,[]⟩ w)) (fun w=>K .normal (encSt ⟨[(2,.one (.ptr 0 0)),(3,.one (.ptr 1 0))],[(0,.var 25 [.ro Y10,.ro (.pair .str Y5)]),(1,.var 42 [.int .i64,.int .i64,.str,.str,.str,.bool,.bool,.int .i64])],2,[]⟩ w)) v
theorem f786p0O (k:Nat):SumO P Tryz.f86 14 (f786p0S k):=pt tm (f786T k) ⟨[2,3,4],[],[]⟩ SumsOk.nil fun _ _ _=>by kernel_rfl
noncomputable def f786p1 {R:Type}(k:Nat)(k0:D156->Option R)(k1:D157->Option R)(v:D80):Option R :=
 bif (!strEq v.2.2.2.2.2.2.1 ByteArray.empty) then
 Option.bind (f731F k ((v.1,v.2.1),v.2.2.2.2.2.2.1)) fun y6 =>
 bif (y6==(-1)) then
 k0 (11,v.2.2.1,v.2.2.2.1,v.2.2.2.2.1,v.2.2.2.2.2.1,v.2.2.2.2.2.2.1,v.2.2.2.2.2.2.2.1,v.2.2.2.2.2.2.2.2.1,v.2.2.2.2.2.2.2.2.2.1,())
 else
 k1 (v.2.2.1,v.2.2.2.1,v.2.2.2.2.1,v.2.2.2.2.2.1,v.2.2.2.2.2.2.1,v.2.2.2.2.2.2.2.1,v.2.2.2.2.2.2.2.2.1,v.2.2.2.2.2.2.2.2.2.1,())
 else
 k1 (v.2.2.1,v.2.2.2.1,v.2.2.2.2.1,v.2.2.2.2.2.1,v.2.2.2.2.2.2.1,v.2.2.2.2.2.2.2.1,v.2.2.2.2.2.2.2.2.1,v.2.2.2.2.2.2.2.2.2.1,())
noncomputable def f786p1S (k:Nat):=partSum ⟨[(2,.one (.ptr 0 0)),(3,.one (.ptr 1 0))],[(0,.var 25 [.ro Y10,.ro (.pair .str Y5)]),(1,.var 42 [.int .i64,.int .i64,.str,.str,.str,.bool,.bool,.int .i64])],2,[]⟩ ⟨[2,3],[],[]⟩ fun R K v=>f786p1 k (fun w=>K .ret (encSt ⟨[(3,.one (.ptr 0 0)),(4,oI)],[(0,.var 42 [.int .i64,.int .i64,.str,.str,.str,.bool,.bool,.int .i64])],1,[]⟩ w)) (fun w=>K .normal (encSt ⟨[(3,.one (.ptr 0 0))],[(0,.var 42 [.int .i64,.int .i64,.str,.str,.str,.bool,.bool,.int .i64])],1,[]⟩ w)) v
theorem f786p1O (k:Nat):SumO P Tryz.f86 254 (f786p1S k):=pt tm (f786T k) ⟨[3,4],[],[]⟩ SumsOk.nil fun _ _ _=>by kernel_rfl
noncomputable def f786p2 {R:Type}(k:Nat)(k0:D156->Option R)(k1:D157->Option R)(v:D157):Option R :=
 bif (strEq v.2.2.2.2.1 ByteArray.empty) then
 bif (v.2.1 !=0) then
 k0 (7,v.1,v.2.1,v.2.2.1,v.2.2.2.1,v.2.2.2.2.1,v.2.2.2.2.2.1,v.2.2.2.2.2.2.1,v.2.2.2.2.2.2.2.1,())
 else
 k1 (v.1,v.2.1,v.2.2.1,v.2.2.2.1,v.2.2.2.2.1,v.2.2.2.2.2.1,v.2.2.2.2.2.2.1,v.2.2.2.2.2.2.2.1,())
 else
 k1 (v.1,v.2.1,v.2.2.1,v.2.2.2.1,v.2.2.2.2.1,v.2.2.2.2.2.1,v.2.2.2.2.2.2.1,v.2.2.2.2.2.2.2.1,())
noncomputable def f786p2S (k:Nat):=partSum ⟨[(3,.one (.ptr 0 0))],[(0,.var 42 [.int .i64,.int .i64,.str,.str,.str,.bool,.bool,.int .i64])],1,[]⟩ ⟨[3],[],[]⟩ fun R K v=>f786p2 k (fun w=>K .ret (encSt ⟨[(3,.one (.ptr 0 0)),(4,oI)],[(0,.var 42 [.int .i64,.int .i64,.str,.str,.str,.bool,.bool,.int .i64])],1,[]⟩ w)) (fun w=>K .normal (encSt ⟨[(3,.one (.ptr 0 0))],[(0,.var 42 [.int .i64,.int .i64,.str,.str,.str,.bool,.bool,.int .i64])],1,[]⟩ w)) v
theorem f786p2O (k:Nat):SumO P Tryz.f86 510 (f786p2S k):=pt tm (f786T k) ⟨[3,4],[],[]⟩ SumsOk.nil fun _ _ _=>by kernel_rfl
noncomputable def f786p3 {R:Type}(k:Nat)(k0:Int×Unit->Option R)(k1:Unit->Option R)(v:D158):Option R :=
 bif v.2.2.2.2.2.2.2.1 then
 bif (v.2.2.1 !=1) then
 k0 (5,())
 else
 bif (v.2.2.2.2.2.2.2.2.1 !=0) then
 bif (!v.1) then
 k0 (5,())
 else
 bif v.1 then
 bif (!strEq v.2.2.2.1 ByteArray.empty) then
 k0 (5,())
 else
 Option.bind (f48F k (v.2.2.2.2.2.2.2.2.1,1,1000000)) fun y11 =>
 bif (!y11) then
 k0 (5,())
 else
 k1 (())
 else
 k1 (())
 else
 bif v.1 then
 bif (!strEq v.2.2.2.1 ByteArray.empty) then
 k0 (5,())
 else
 Option.bind (f48F k (v.2.2.2.2.2.2.2.2.1,1,1000000)) fun y12 =>
 bif (!y12) then
 k0 (5,())
 else
 k1 (())
 else
 k1 (())
 else
 bif (v.2.2.2.2.2.2.2.2.1 !=0) then
 bif (!v.1) then
 k0 (5,())
 else
 bif v.1 then
 bif (!strEq v.2.2.2.1 ByteArray.empty) then
 k0 (5,())
 else
 Option.bind (f48F k (v.2.2.2.2.2.2.2.2.1,1,1000000)) fun y13 =>
 bif (!y13) then
 k0 (5,())
 else
 k1 (())
 else
 k1 (())
 else
 bif v.1 then
 bif (!strEq v.2.2.2.1 ByteArray.empty) then
 k0 (5,())
 else
 Option.bind (f48F k (v.2.2.2.2.2.2.2.2.1,1,1000000)) fun y14 =>
 bif (!y14) then
 k0 (5,())
 else
 k1 (())
 else
 k1 (())
noncomputable def f786p3S (k:Nat):=partSum ⟨[(3,.one (.ptr 0 0)),(5,oB)],[(0,.var 42 [.int .i64,.int .i64,.str,.str,.str,.bool,.bool,.int .i64])],1,[]⟩ ⟨[3,5],[],[]⟩ fun R K v=>f786p3 k (fun w=>K .ret (encSt ⟨[(4,oI)],[],0,[]⟩ w)) (fun w=>K .normal (encSt ⟨[],[],0,[]⟩ w)) v
theorem f786p3O (k:Nat):SumO P Tryz.f86 2046 (f786p3S k):=pt tm (f786T k) ⟨[4],[],[]⟩ SumsOk.nil fun _ _ _=>by kernel_rfl
noncomputable def f786F (k:Nat)(x:D81):Option (Int) :=
 Option.bind (f48F k (x.2.2.1,0,2)) fun y1 =>
 bif (!y1) then
 some 4
 else
 f786p0 k
 (fun (w3:D155) =>
 some w3.1)
 (fun (w4:D80) =>
 bif (strEq w4.2.2.2.2.2.1 ByteArray.empty) then
 some 1
 else
 bif (decide ((w4.2.2.2.2.2.1.size:Int) > 256)) then
 some 2
 else
 Option.bind (f756F k w4.2.2.2.2.2.1) fun y5 =>
 bif (!y5) then
 some 5
 else
 f786p1 k
 (fun (w7:D156) =>
 some w7.1)
 (fun (w8:D157) =>
 f786p2 k
 (fun (w9:D156) =>
 some w9.1)
 (fun (w10:D157) =>
 f786p3 k
 (fun (w15:Int×Unit) =>
 some w15.1)
 (fun (w16:Unit) =>
 some 0)
 ((w10.2.1==2),w10.1,w10.2.1,w10.2.2.1,w10.2.2.2.1,w10.2.2.2.2.1,w10.2.2.2.2.2.1,w10.2.2.2.2.2.2.1,w10.2.2.2.2.2.2.2.1,()))
 (w8.1,w8.2.1,w8.2.2.1,w8.2.2.2.1,w8.2.2.2.2.1,w8.2.2.2.2.2.1,w8.2.2.2.2.2.2.1,w8.2.2.2.2.2.2.2.1,()))
 (w4.1,w4.2.1,w4.2.2.1,w4.2.2.2.1,w4.2.2.2.2.1,w4.2.2.2.2.2.1,w4.2.2.2.2.2.2.1,w4.2.2.2.2.2.2.2.1,w4.2.2.2.2.2.2.2.2.1,w4.2.2.2.2.2.2.2.2.2.1,()))
 (x.1.1,x.1.2,x.2.1,x.2.2.1,x.2.2.2.1,x.2.2.2.2.1,x.2.2.2.2.2.1,x.2.2.2.2.2.2.1,x.2.2.2.2.2.2.2.1,x.2.2.2.2.2.2.2.2,())
theorem f786Ok (k:Nat):FnV P 86 [.agg Y11,.agg Y3] [.dat (.int .i64)] (f786F k) :=
 fs tm (f786T k) Tryz.func86 (by kernel_rfl) (SumsOk.nil |>.s (f786p3O k) (by kernel_rfl) |>.s (f786p2O k) (by kernel_rfl) |>.s (f786p1O k) (by kernel_rfl) |>.s (f786p0O k) (by kernel_rfl)) none fun _=>by kernel_rfl
noncomputable def f741T (k:Nat):TB P:=TB.nil |>.u (f786Ok k) |>.u (f785Ok k) |>.u (f48Ok k) |>.u (f748Ok k)
noncomputable def f741p0 {R:Type}(k:Nat)(k0:D159->Option R)(k1:D28->Option R)(v:D28):Option R :=
 bif (decide (v.1 > 0)) then
 bif ((decide (0<=(IntKind.i64.wrap (v.1 - 1))))&&(decide ((IntKind.i64.wrap (v.1 - 1))<(v.2.2.1.length:Int)))) then
 let t4:=(v.2.2.1.getD (Int.toNat (IntKind.i64.wrap (v.1 - 1))) (ByteArray.empty,(0,(false,(0,[])))))
 bif (strLt v.2.2.2.1 t4.1||strEq v.2.2.2.1 t4.1) then
 k0 (v.1,14,v.1,v.2.1,v.2.2.1,v.2.2.2.1,v.2.2.2.2.1,v.2.2.2.2.2.1,v.2.2.2.2.2.2.1,v.2.2.2.2.2.2.2.1,())
 else
 k1 (v.1,v.2.1,v.2.2.1,v.2.2.2.1,v.2.2.2.2.1,v.2.2.2.2.2.1,v.2.2.2.2.2.2.1,v.2.2.2.2.2.2.2.1,())
 else none
 else
 k1 (v.1,v.2.1,v.2.2.1,v.2.2.2.1,v.2.2.2.2.1,v.2.2.2.2.2.1,v.2.2.2.2.2.2.1,v.2.2.2.2.2.2.2.1,())
noncomputable def f741p0S (k:Nat):=partSum ⟨[(1,.one (.ptr 0 0)),(6,oI),(7,.one (.ptr 1 0))],[(0,.var 25 [.ro Y10,.ro (.pair .str Y5)]),(1,.var 69 [.str,.int .i64,.bool,.int .i64,.ro Y3])],2,[]⟩ ⟨[1,6,7],[],[]⟩ fun R K v=>f741p0 k (fun w=>K .ret (encSt ⟨[(1,.one (.ptr 0 0)),(2,oI),(3,oI),(6,oI),(7,.one (.ptr 1 0))],[(0,.var 25 [.ro Y10,.ro (.pair .str Y5)]),(1,.var 69 [.str,.int .i64,.bool,.int .i64,.ro Y3])],2,[]⟩ w)) (fun w=>K .normal (encSt ⟨[(1,.one (.ptr 0 0)),(6,oI),(7,.one (.ptr 1 0))],[(0,.var 25 [.ro Y10,.ro (.pair .str Y5)]),(1,.var 69 [.str,.int .i64,.bool,.int .i64,.ro Y3])],2,[]⟩ w)) v
theorem f741p0O (k:Nat):SumO P Tryz.f41 15654 (f741p0S k):=pt tm (f741T k) ⟨[1,2,3,6,7],[],[]⟩ SumsOk.nil fun _ _ _=>by kernel_rfl
noncomputable def f741l1s {R:Type}(k:Nat)(rec:D159->Option R)(k0:D160->Option R)(k1:D112->Option R)(v:D159):Option R :=
 bif (decide (v.2.2.1<(v.2.2.2.2.2.2.2.2.2.1.length:Int))) then
 bif ((decide (0<=v.2.2.1))&&(decide (v.2.2.1<(v.2.2.2.2.2.2.2.2.2.1.length:Int)))) then
 let t9:=(v.2.2.2.2.2.2.2.2.2.1.getD (Int.toNat v.2.2.1) (0,(0,(ByteArray.empty,(ByteArray.empty,(ByteArray.empty,(false,(false,0))))))))
 Option.bind (f48F k (t9.1,(IntKind.i64.wrap (v.2.1+1)),(IntKind.i64.wrap (v.2.2.2.2.2.2.2.2.1 - 1)))) fun y10 =>
 bif (!y10) then
 k0 (v.1,14,v.1,v.2.2.2.1,v.2.2.2.2.1,())
 else
 bif ((decide (0<=v.2.2.1))&&(decide (v.2.2.1<(v.2.2.2.2.2.2.2.2.2.1.length:Int)))) then
 let t11:=(v.2.2.2.2.2.2.2.2.2.1.getD (Int.toNat v.2.2.1) (0,(0,(ByteArray.empty,(ByteArray.empty,(ByteArray.empty,(false,(false,0))))))))
 Option.bind (f786F k ((v.2.2.2.1,v.2.2.2.2.1),(t11.1,(t11.2.1,(t11.2.2.1,(t11.2.2.2.1,(t11.2.2.2.2.1,(t11.2.2.2.2.2.1,(t11.2.2.2.2.2.2.1,t11.2.2.2.2.2.2.2))))))))) fun y12 =>
 bif (y12 !=0) then
 k0 (v.1,y12,v.1,v.2.2.2.1,v.2.2.2.2.1,())
 else
 bif ((decide (0<=v.2.2.1))&&(decide (v.2.2.1<(v.2.2.2.2.2.2.2.2.2.1.length:Int)))) then
 let t13:=(v.2.2.2.2.2.2.2.2.2.1.getD (Int.toNat v.2.2.1) (0,(0,(ByteArray.empty,(ByteArray.empty,(ByteArray.empty,(false,(false,0))))))))
 rec (v.1,t13.1,(IntKind.i64.wrap (v.2.2.1+1)),v.2.2.2.1,v.2.2.2.2.1,v.2.2.2.2.2.1,v.2.2.2.2.2.2.1,v.2.2.2.2.2.2.2.1,v.2.2.2.2.2.2.2.2.1,v.2.2.2.2.2.2.2.2.2.1,())
 else none
 else none
 else none
 else
 k1 (v.1,v.2.2.2.1,v.2.2.2.2.1,())
noncomputable def f741l1 {R:Type}(k:Nat)(k0:D160->Option R)(k1:D112->Option R)(v:D159):Option R:=iterS (fun rec v=>f741l1s k rec k0 k1 v) k v
noncomputable def f741l1S (k:Nat):=loopSum ⟨[(1,.one (.ptr 0 0)),(6,oI),(7,.one (.ptr 1 0)),(8,oI),(9,oI)],[(0,.var 25 [.ro Y10,.ro (.pair .str Y5)]),(1,.var 69 [.str,.int .i64,.bool,.int .i64,.ro Y3])],2,[]⟩ ⟨[1,6,7,8,9],[],[]⟩ k fun R rec K v=>f741l1s k rec (fun w=>K .ret (encSt ⟨[(1,.one (.ptr 0 0)),(2,oI),(3,oI),(6,oI)],[(0,.var 25 [.ro Y10,.ro (.pair .str Y5)])],1,[]⟩ w)) (fun w=>K (.exit 2) (encSt ⟨[(1,.one (.ptr 0 0)),(6,oI)],[(0,.var 25 [.ro Y10,.ro (.pair .str Y5)])],1,[]⟩ w)) v
theorem f741l1O (k:Nat):SumO P Tryz.f41 500990 (f741l1S k):=lp tm (f741T k) ⟨[1,2,3,6],[],[]⟩ SumsOk.nil (by kernel_rfl) fun _ _ _ _=>by kernel_rfl
noncomputable def f741l2s {R:Type}(k:Nat)(rec:D112->Option R)(k0:Int×Int×Unit->Option R)(k1:Unit->Option R)(v:D112):Option R :=
 bif (decide (v.1<(v.2.2.1.length:Int))) then
 bif ((decide (0<=v.1))&&(decide (v.1<(v.2.2.1.length:Int)))) then
 let t2:=(v.2.2.1.getD (Int.toNat v.1) (ByteArray.empty,(0,(false,(0,[])))))
 Option.bind (f785F k t2.1) fun y3 =>
 bif (!y3) then
 k0 (v.1,7,())
 else
 f741p0 k
 (fun (w5:D159) =>
 k0 (w5.1,w5.2.1,()))
 (fun (w6:D28) =>
 Option.bind (f48F k (w6.2.2.2.2.1,1,12)) fun y7 =>
 bif (!y7) then
 k0 (w6.1,3,())
 else
 Option.bind (f48F k (w6.2.2.2.2.2.2.1,1,1000000)) fun y8 =>
 bif (!y8) then
 k0 (w6.1,3,())
 else
 bif (decide ((w6.2.2.2.2.2.2.2.1.length:Int) > w6.2.2.2.2.1)) then
 k0 (w6.1,2,())
 else
 f741l1 k
 (fun (w14:D160) =>
 k0 (w14.1,w14.2.1,()))
 (fun (w15:D112) =>
 rec ((IntKind.i64.wrap (w15.1+1)),w15.2.1,w15.2.2.1,()))
 (w6.1,0,0,w6.2.1,w6.2.2.1,w6.2.2.2.1,w6.2.2.2.2.1,w6.2.2.2.2.2.1,w6.2.2.2.2.2.2.1,w6.2.2.2.2.2.2.2.1,()))
 (v.1,v.2.1,v.2.2.1,t2.1,t2.2.1,t2.2.2.1,t2.2.2.2.1,t2.2.2.2.2,())
 else none
 else
 k1 (())
noncomputable def f741l2 {R:Type}(k:Nat)(k0:Int×Int×Unit->Option R)(k1:Unit->Option R)(v:D112):Option R:=iterS (fun rec v=>f741l2s k rec k0 k1 v) k v
noncomputable def f741l2S (k:Nat):=loopSum ⟨[(1,.one (.ptr 0 0)),(6,oI)],[(0,.var 25 [.ro Y10,.ro (.pair .str Y5)])],1,[]⟩ ⟨[1,6],[],[]⟩ k fun R rec K v=>f741l2s k rec (fun w=>K .ret (encSt ⟨[(2,oI),(3,oI)],[],0,[]⟩ w)) (fun w=>K (.exit 0) (encSt ⟨[],[],0,[]⟩ w)) v
theorem f741l2O (k:Nat):SumO P Tryz.f41 122 (f741l2S k):=lp tm (f741T k) ⟨[2,3],[],[]⟩ (SumsOk.nil |>.s (f741l1O k) (by kernel_rfl) |>.s (f741p0O k) (by kernel_rfl)) (by kernel_rfl) fun _ _ _ _=>by kernel_rfl
noncomputable def f741F (k:Nat)(x:D14):Option (Int×Int) :=
 Option.bind (f748F k x.1) fun y1 =>
 bif (y1.2 !=0) then
 some (y1.1,y1.2)
 else
 bif (decide ((x.2.length:Int) > 6)) then
 some (0,2)
 else
 f741l2 k
 (fun (w16:Int×Int×Unit) =>
 some (w16.1,w16.2.1))
 (fun (w17:Unit) =>
 some (0,0))
 (0,x.1,x.2,())
theorem f741Ok (k:Nat):FnV P 41 [.agg Y11] [.dat (.int .i64),.dat (.int .i64)] (f741F k) :=
 fs tm (f741T k) Tryz.func41 (by kernel_rfl) (SumsOk.nil |>.s (f741l2O k) (by kernel_rfl) |>.s (f741l1O k) (by kernel_rfl) |>.s (f741p0O k) (by kernel_rfl)) none fun _=>by kernel_rfl
noncomputable def f727T (k:Nat):TB P:=TB.nil |>.u (f741Ok k)
noncomputable def f727F (k:Nat)(x:D14):Option (Int) :=
 Option.bind (f741F k (x.1,x.2)) fun y1 =>
 some y1.2
theorem f727Ok (k:Nat):FnV P 27 [.agg Y11] [.dat (.int .i64)] (f727F k) :=
 fs tm (f727T k) Tryz.func27 (by kernel_rfl) SumsOk.nil none fun _=>by kernel_rfl
noncomputable def f69F (k:Nat)(x:Bool):Option (Int) :=
 bif x then
 some 1
 else
 some 0
theorem f69Ok (k:Nat):FnV P 32 [.dat .bool] [.dat (.int .i64)] (f69F k) :=
 fs tm TB.nil Tryz.func32 (by kernel_rfl) SumsOk.nil none fun _=>by kernel_rfl
noncomputable def f31F (k:Nat)(x:(Int×(Int×Int))):Option (Int) :=
 bif (x.1==1) then
 let t1:=(IntKind.i64.wrap ((IntKind.i64.wrap (Int.tdiv x.2.1 2))+1))
 some t1
 else
 bif (x.1==3) then
 Option.bind (f69F k (x.2.1==9)) fun y2 =>
 some (IntKind.i64.wrap (2+(IntKind.i64.wrap (2*y2))))
 else
 bif (x.1==4) then
 some 16
 else
 some x.2.1
noncomputable def f68F (k:Nat)(x:Int):Option (Bool) :=
 Option.bind (f48F k (x,1,3)) fun y1 =>
 some y1
noncomputable def f27p0 {R:Type}(k:Nat)(k0:D17->Option R)(v:D18):Option R :=
 bif (v.2.1==1) then
 k0 (v.1,v.2.1,(v.2.1==1),v.2.2.1,v.2.2.2.1,v.2.2.2.2.1,())
 else
 k0 (v.1,v.2.1,(v.2.1==2),v.2.2.1,v.2.2.2.1,v.2.2.2.2.1,())
noncomputable def f27p1 {R:Type}(k:Nat)(k0:D19->Option R)(v:D19):Option R :=
 bif (v.2.1==0) then
 Option.bind (f48F k (v.2.2.1,1,256)) fun y2 =>
 k0 (y2,v.2.1,v.2.2.1,v.2.2.2.1,())
 else
 f27p0 k
 (fun (w3:D17) =>
 bif w3.2.2.1 then
 Option.bind (f48F k (w3.2.2.2.2.1,1,15)) fun y4 =>
 k0 (y4,w3.2.2.2.1,w3.2.2.2.2.1,w3.2.2.2.2.2.1,())
 else
 bif (w3.2.1==3) then
 bif (w3.2.2.2.2.1==4) then
 k0 (true,w3.2.2.2.1,w3.2.2.2.2.1,w3.2.2.2.2.2.1,())
 else
 k0 ((w3.2.2.2.2.1==9),w3.2.2.2.1,w3.2.2.2.2.1,w3.2.2.2.2.2.1,())
 else
 k0 (w3.1,w3.2.2.2.1,w3.2.2.2.2.1,w3.2.2.2.2.2.1,()))
 (v.1,v.2.1,v.2.1,v.2.2.1,v.2.2.2.1,())
noncomputable def f27p2 {R:Type}(k:Nat)(k0:D150->Option R)(v:D150):Option R :=
 Option.bind (f68F k v.2.1) fun y6 =>
 bif y6 then
 k0 (v.2.2.1,v.2.1,v.2.2.1,v.2.2.2.1,())
 else
 k0 (v.1,v.2.1,v.2.2.1,v.2.2.2.1,())
noncomputable def f27F (k:Nat)(x:(Int×(Int×Int))):Option (Int) :=
 Option.bind (f48F k (x.1,0,4)) fun y1 =>
 bif (!y1) then
 some 4
 else
 f27p1 k
 (fun (w5:D19) =>
 bif (!w5.1) then
 some 18
 else
 f27p2 k
 (fun (w7:D150) =>
 Option.bind (f48F k (w7.2.2.2.1,0,w7.1)) fun y8 =>
 Option.bind (f69F k (!y8)) fun y9 =>
 some (IntKind.i64.wrap (3*y9)))
 (0,w5.2.1,w5.2.2.1,w5.2.2.2.1,()))
 ((x.2.1==0),x.1,x.2.1,x.2.2,())
noncomputable def f47l0s {R:Type}(k:Nat)(rec:D161->Option R)(k0:Int×Unit->Option R)(v:D161):Option R :=
 bif (decide (v.2.2.2.2.1<v.2.2.1)) then
 bif ((decide (0<=(IntKind.i64.wrap (v.2.1+v.2.2.2.2.1))))&&(decide ((IntKind.i64.wrap (v.2.1+v.2.2.2.2.1))<(v.1.size:Int)))) then
 let t1:=(IntKind.i64.wrap ((IntKind.i64.wrap (v.2.2.2.1*256))+(IntKind.i64.wrap (bt v.1 (IntKind.i64.wrap (v.2.1+v.2.2.2.2.1))))))
 rec (v.1,v.2.1,v.2.2.1,t1,(IntKind.i64.wrap (v.2.2.2.2.1+1)),())
 else none
 else
 k0 (v.2.2.2.1,())
noncomputable def f47l0 {R:Type}(k:Nat)(k0:Int×Unit->Option R)(v:D161):Option R:=iterS (fun rec v=>f47l0s k rec k0 v) k v
noncomputable def f47F (k:Nat)(x:ByteArray×Int×Int):Option (Int) :=
 f47l0 k
 (fun (w2:Int×Unit) =>
 some w2.1)
 (x.1,x.2.1,x.2.2,0,0,())
noncomputable def f81l0s {R:Type}(k:Nat)(rec:Int×Int×Int×Unit->Option R)(k0:Int×Unit->Option R)(v:Int×Int×Int×Unit):Option R :=
 bif (decide (v.2.2.1<v.1)) then
 rec (v.1,(IntKind.i64.wrap (v.2.1*10)),(IntKind.i64.wrap (v.2.2.1+1)),())
 else
 k0 (v.2.1,())
noncomputable def f81l0 {R:Type}(k:Nat)(k0:Int×Unit->Option R)(v:Int×Int×Int×Unit):Option R:=iterS (fun rec v=>f81l0s k rec k0 v) k v
noncomputable def f81F (k:Nat)(x:Int):Option (Int) :=
 f81l0 k
 (fun (w1:Int×Unit) =>
 some w1.1)
 (x,1,0,())
noncomputable def f49F (k:Nat)(x:(Int×(Int×Int))):Option (Int) :=
 Option.bind (f81F k x.2.1) fun y1 =>
 some (IntKind.i64.wrap (y1 - 1))
noncomputable def f82p0 {R:Type}(k:Nat)(k0:Int×Int×Unit->Option R)(v:Int×Int×Unit):Option R :=
 bif (v.2.1==11) then
 k0 ((IntKind.i64.wrap (0 - v.1)),v.2.1,())
 else
 bif (v.2.1==13) then
 k0 ((IntKind.i64.wrap (0 - v.1)),v.2.1,())
 else
 k0 (v.1,v.2.1,())
noncomputable def f82F (k:Nat)(x:Int×Int):Option (Int×Bool) :=
 f82p0 k
 (fun (w1:Int×Int×Unit) =>
 some (w1.1,(decide (w1.2.1≥10))))
 (x.1,x.2,())
noncomputable def f50p0 {R:Type}(k:Nat)(k0:D162->Option R)(v:D162):Option R :=
 bif (v.2.2.2.1==(IntKind.i64.wrap ((v.1.size:Int) - 1))) then
 bif ((decide (0<=v.2.2.2.1))&&(decide (v.2.2.2.1<(v.1.size:Int)))) then
 let t1:=(IntKind.i64.wrap (Int.tdiv (IntKind.i64.wrap (bt v.1 v.2.2.2.1)) 16))
 k0 (v.1,v.2.1,t1,v.2.2.2.1,v.2.2.2.2.1,v.2.2.2.2.2.1,())
 else none
 else
 k0 (v.1,v.2.1,v.2.2.1,v.2.2.2.1,v.2.2.2.2.1,v.2.2.2.2.2.1,())
noncomputable def f50l1s {R:Type}(k:Nat)(rec:D162->Option R)(k0:D163->Option R)(k1:D164->Option R)(v:D162):Option R :=
 bif (decide (v.2.2.2.1<(v.1.size:Int))) then
 f50p0 k
 (fun (w2:D162) =>
 bif (decide (w2.2.2.1<10)) then
 k0 (w2.2.2.2.1,21,w2.2.1,w2.2.2.1,0,ByteArray.empty,())
 else
 bif ((decide (0<=w2.2.2.2.1))&&(decide (w2.2.2.2.1<(w2.1.size:Int)))) then
 bif (decide ((Int.tmod (bt w2.1 w2.2.2.2.1) 16) > 9)) then
 k0 (w2.2.2.2.1,21,w2.2.1,w2.2.2.1,0,ByteArray.empty,())
 else
 bif ((decide (0<=w2.2.2.2.1))&&(decide (w2.2.2.2.1<(w2.1.size:Int)))) then
 let t3:=(IntKind.i64.wrap ((IntKind.i64.wrap (10*w2.2.1))+(Int.tmod (IntKind.i64.wrap (bt w2.1 w2.2.2.2.1)) 16)))
 rec (w2.1,t3,w2.2.2.1,(IntKind.i64.wrap (w2.2.2.2.1+1)),w2.2.2.2.2.1,w2.2.2.2.2.2.1,())
 else none
 else none)
 (v.1,v.2.1,v.2.2.1,v.2.2.2.1,v.2.2.2.2.1,v.2.2.2.2.2.1,())
 else
 k1 (v.2.1,v.2.2.1,v.2.2.2.2.1,v.2.2.2.2.2.1,())
noncomputable def f50l1 {R:Type}(k:Nat)(k0:D163->Option R)(k1:D164->Option R)(v:D162):Option R:=iterS (fun rec v=>f50l1s k rec k0 k1 v) k v
noncomputable def f50F (k:Nat)(x:ByteArray):Option (D48) :=
 f50l1 k
 (fun (w4:D163) =>
 some ((w4.2.2.2.2.1,w4.2.2.2.2.2.1),w4.1,w4.2.1))
 (fun (w5:D164) =>
 Option.bind (f82F k (w5.1,w5.2.1)) fun y6 =>
 some ((y6.1,ByteArray.empty),0,0))
 (x,0,15,0,0,ByteArray.empty,())
noncomputable def f51p0 {R:Type}(k:Nat)(k0:D165->Option R)(v:D165):Option R :=
 bif ((Int.tmod v.2.2.1 2)==1) then
 bif ((decide (0<=(IntKind.i64.wrap (Int.tdiv v.2.2.1 2))))&&(decide ((IntKind.i64.wrap (Int.tdiv v.2.2.1 2))<(v.1.size:Int)))) then
 let t2:=(IntKind.i64.wrap (bt v.1 (IntKind.i64.wrap (Int.tdiv v.2.2.1 2))))
 k0 (v.1,v.2.1,v.2.2.1,(Int.tmod t2 16),v.2.2.2.2.1,v.2.2.2.2.2.1,v.2.2.2.2.2.2.1,v.2.2.2.2.2.2.2.1,v.2.2.2.2.2.2.2.2.1,())
 else none
 else
 k0 (v.1,v.2.1,v.2.2.1,v.2.2.2.1,v.2.2.2.2.1,v.2.2.2.2.2.1,v.2.2.2.2.2.2.1,v.2.2.2.2.2.2.2.1,v.2.2.2.2.2.2.2.2.1,())
noncomputable def f51p1 {R:Type}(k:Nat)(k0:D166->Option R)(v:D166):Option R :=
 let t4:=(IntKind.i64.wrap ((IntKind.i64.wrap (2*(v.1.size:Int))) - 1))
 bif (v.2.2.1==t4) then
 k0 (v.1,v.2.1,v.2.2.1,v.2.2.2.1,(decide (v.2.2.2.1<10)),v.2.2.2.2.2.1,v.2.2.2.2.2.2.1,v.2.2.2.2.2.2.2.1,v.2.2.2.2.2.2.2.2.1,v.2.2.2.2.2.2.2.2.2.1,())
 else
 k0 (v.1,v.2.1,v.2.2.1,v.2.2.2.1,v.2.2.2.2.1,v.2.2.2.2.2.1,v.2.2.2.2.2.2.1,v.2.2.2.2.2.2.2.1,v.2.2.2.2.2.2.2.2.1,v.2.2.2.2.2.2.2.2.2.1,())
noncomputable def f51p2 {R:Type}(k:Nat)(k0:D167->Option R)(k1:D165->Option R)(v:D166):Option R :=
 bif v.2.2.2.2.1 then
 k0 (v.1,(IntKind.i64.wrap (Int.tdiv v.2.2.1 2)),21,v.2.1,v.2.2.1,v.2.2.2.1,v.2.2.2.2.2.1,v.2.2.2.2.2.2.1,v.2.2.2.2.2.2.2.1,0,ByteArray.empty,())
 else
 bif (v.2.2.1==0) then
 bif ((Int.tmod v.2.2.2.2.2.2.1 2)==0) then
 bif (v.2.2.2.1 !=0) then
 k0 (v.1,(IntKind.i64.wrap (Int.tdiv v.2.2.1 2)),21,v.2.1,v.2.2.1,v.2.2.2.1,v.2.2.2.2.2.1,v.2.2.2.2.2.2.1,v.2.2.2.2.2.2.2.1,0,ByteArray.empty,())
 else
 k1 (v.1,v.2.1,v.2.2.1,v.2.2.2.1,v.2.2.2.2.2.1,v.2.2.2.2.2.2.1,v.2.2.2.2.2.2.2.1,v.2.2.2.2.2.2.2.2.1,v.2.2.2.2.2.2.2.2.2.1,())
 else
 k1 (v.1,v.2.1,v.2.2.1,v.2.2.2.1,v.2.2.2.2.2.1,v.2.2.2.2.2.2.1,v.2.2.2.2.2.2.2.1,v.2.2.2.2.2.2.2.2.1,v.2.2.2.2.2.2.2.2.2.1,())
 else
 k1 (v.1,v.2.1,v.2.2.1,v.2.2.2.1,v.2.2.2.2.2.1,v.2.2.2.2.2.2.1,v.2.2.2.2.2.2.2.1,v.2.2.2.2.2.2.2.2.1,v.2.2.2.2.2.2.2.2.2.1,())
noncomputable def f51p3 {R:Type}(k:Nat)(k0:D168->Option R)(k1:D169->Option R)(v:D169):Option R :=
 bif ((decide (0<=(IntKind.i64.wrap (Int.tdiv v.2.2.1 2))))&&(decide ((IntKind.i64.wrap (Int.tdiv v.2.2.1 2))<(v.1.size:Int)))) then
 let t1:=(IntKind.i64.wrap (bt v.1 (IntKind.i64.wrap (Int.tdiv v.2.2.1 2))))
 f51p0 k
 (fun (w3:D165) =>
 f51p1 k
 (fun (w5:D166) =>
 f51p2 k
 (fun (w6:D167) =>
 k0 (w6.1,w6.2.1,w6.2.2.1,w6.2.2.2.1,w6.2.2.2.2.1,w6.2.2.2.2.2.2.1,w6.2.2.2.2.2.2.2.1,w6.2.2.2.2.2.2.2.2.1,w6.2.2.2.2.2.2.2.2.2.1,w6.2.2.2.2.2.2.2.2.2.2.1,()))
 (fun (w7:D165) =>
 let t8:=(IntKind.i64.wrap ((IntKind.i64.wrap (2*(w7.1.size:Int))) - 1))
 bif (w7.2.2.1==t8) then
 Option.bind (f82F k (w7.2.1,w7.2.2.2.1)) fun y9 =>
 k1 (w7.1,y9.1,w7.2.2.1,w7.2.2.2.2.1,w7.2.2.2.2.2.1,w7.2.2.2.2.2.2.1,w7.2.2.2.2.2.2.2.1,w7.2.2.2.2.2.2.2.2.1,())
 else
 let t10:=(IntKind.i64.wrap ((IntKind.i64.wrap (10*w7.2.1))+w7.2.2.2.1))
 k1 (w7.1,t10,w7.2.2.1,w7.2.2.2.2.1,w7.2.2.2.2.2.1,w7.2.2.2.2.2.2.1,w7.2.2.2.2.2.2.2.1,w7.2.2.2.2.2.2.2.2.1,()))
 (w5.1,w5.2.1,w5.2.2.1,w5.2.2.2.1,w5.2.2.2.2.1,w5.2.2.2.2.2.1,w5.2.2.2.2.2.2.1,w5.2.2.2.2.2.2.2.1,w5.2.2.2.2.2.2.2.2.1,w5.2.2.2.2.2.2.2.2.2.1,()))
 (w3.1,w3.2.1,w3.2.2.1,w3.2.2.2.1,(decide (w3.2.2.2.1 > 9)),w3.2.2.2.2.1,w3.2.2.2.2.2.1,w3.2.2.2.2.2.2.1,w3.2.2.2.2.2.2.2.1,w3.2.2.2.2.2.2.2.2.1,()))
 (v.1,v.2.1,v.2.2.1,(IntKind.i64.wrap (Int.tdiv t1 16)),v.2.2.2.1,v.2.2.2.2.1,v.2.2.2.2.2.1,v.2.2.2.2.2.2.1,v.2.2.2.2.2.2.2.1,())
 else none
noncomputable def f51l4s {R:Type}(k:Nat)(rec:D169->Option R)(k0:D170->Option R)(k1:D171->Option R)(v:D169):Option R :=
 bif (decide (v.2.2.1<(IntKind.i64.wrap (2*(v.1.size:Int))))) then
 f51p3 k
 (fun (w11:D168) =>
 k0 (w11.2.1,w11.2.2.1,w11.2.2.2.1,w11.2.2.2.2.2.2.2.2.1,w11.2.2.2.2.2.2.2.2.2.1,()))
 (fun (w12:D169) =>
 rec (w12.1,w12.2.1,(IntKind.i64.wrap (w12.2.2.1+1)),w12.2.2.2.1,w12.2.2.2.2.1,w12.2.2.2.2.2.1,w12.2.2.2.2.2.2.1,w12.2.2.2.2.2.2.2.1,()))
 (v.1,v.2.1,v.2.2.1,v.2.2.2.1,v.2.2.2.2.1,v.2.2.2.2.2.1,v.2.2.2.2.2.2.1,v.2.2.2.2.2.2.2.1,())
 else
 k1 (v.2.1,v.2.2.2.2.2.2.1,v.2.2.2.2.2.2.2.1,())
noncomputable def f51l4 {R:Type}(k:Nat)(k0:D170->Option R)(k1:D171->Option R)(v:D169):Option R:=iterS (fun rec v=>f51l4s k rec k0 k1 v) k v
noncomputable def f51F (k:Nat)(x:D40):Option (D48) :=
 f51l4 k
 (fun (w13:D170) =>
 some ((w13.2.2.2.1,w13.2.2.2.2.1),w13.1,w13.2.1))
 (fun (w14:D171) =>
 some ((w14.1,ByteArray.empty),0,0))
 (x.2,0,0,x.1.1,x.1.2.1,x.1.2.2,0,ByteArray.empty,())
noncomputable def f17p0 {R:Type}(k:Nat)(k0:D163->Option R)(v:D47):Option R :=
 bif (decide (0<(v.1.size:Int))) then
 bif (decide ((bt v.1 0)≥128)) then
 bif (decide (0<=(IntKind.i64.wrap (8*(v.1.size:Int))))) then
 let t4:=(shlI .i64 1 (IntKind.i64.wrap (8*(v.1.size:Int))))
 k0 ((IntKind.i64.wrap (v.2.1 - t4)),v.2.2.1,v.2.2.2.1,v.2.2.2.2.1,v.2.2.2.2.2.1,v.2.2.2.2.2.2.1,())
 else none
 else
 k0 (v.2.1,v.2.2.1,v.2.2.2.1,v.2.2.2.2.1,v.2.2.2.2.2.1,v.2.2.2.2.2.2.1,())
 else none
noncomputable def f17F (k:Nat)(x:D40):Option (D48) :=
 Option.bind (f27F k (x.1.1,(x.1.2.1,x.1.2.2))) fun y1 =>
 bif (y1 !=0) then
 some ((0,ByteArray.empty),0,y1)
 else
 bif (x.1.1==4) then
 some ((0,ByteArray.empty),0,17)
 else
 Option.bind (f31F k (x.1.1,(x.1.2.1,x.1.2.2))) fun y2 =>
 bif ((x.2.size:Int) !=y2) then
 some ((0,ByteArray.empty),0,18)
 else
 bif (x.1.1==0) then
 some ((0,x.2),0,0)
 else
 bif (x.1.1==3) then
 Option.bind (f47F k (x.2,0,(x.2.size:Int))) fun y3 =>
 f17p0 k
 (fun (w5:D163) =>
 Option.bind (f49F k (w5.2.1,(w5.2.2.1,w5.2.2.2.1))) fun y6 =>
 Option.bind (f49F k (w5.2.1,(w5.2.2.1,w5.2.2.2.1))) fun y7 =>
 Option.bind (f48F k (w5.1,(IntKind.i64.wrap (0 - y6)),y7)) fun y8 =>
 bif (!y8) then
 some ((0,ByteArray.empty),0,19)
 else
 some ((w5.1,ByteArray.empty),0,0))
 (x.2,y3,x.1.1,x.1.2.1,x.1.2.2,0,ByteArray.empty,())
 else
 bif (x.1.1==2) then
 Option.bind (f50F k x.2) fun y9 =>
 some ((y9.1.1,y9.1.2),y9.2.1,y9.2.2)
 else
 Option.bind (f51F k ((x.1.1,(x.1.2.1,x.1.2.2)),x.2)) fun y10 =>
 some ((y10.1.1,y10.1.2),y10.2.1,y10.2.2)
noncomputable def f716v1I:Shape:=⟨[(0,.agg [.ro Y10,.ro (.pair .str Y5)])],[],0,[]⟩
noncomputable def f716v1U:Shape:=⟨[(0,.agg [.own 0,.own 1])],[(0,.row 82 Y10 .plain),(1,.row 69 (.pair .str Y5) .plain)],2,[]⟩
noncomputable def f716v1T (k:Nat):TB P:=TB.nil |>.p (f736Ok k)
noncomputable def f716v1l0H:Shape:=⟨[(1,.one (.ptr 0 0)),(2,.one (.ptr 1 0)),(3,.one (.ptr 2 0)),(4,oI)],[(0,.var 25 [.ro Y10,.ro (.pair .str Y5)]),(1,.var 25 [.own 3,.own 4]),(2,.var 25 [.own 5,.own 6]),(3,.row 82 Y10 .plain),(4,.row 69 (.pair .str Y5) .plain),(5,.row 82 Y10 .plain),(6,.row 69 (.pair .str Y5) .plain)],7,[]⟩
noncomputable def f716v1l0X0:Shape:=⟨[(2,.one (.ptr 0 0)),(3,.one (.ptr 1 0))],[(0,.var 25 [.own 2,.own 3]),(1,.var 25 [.own 4,.own 5]),(2,.row 82 Y10 .plain),(3,.row 69 (.pair .str Y5) .plain),(4,.row 82 Y10 .plain),(5,.row 69 (.pair .str Y5) .plain)],6,[]⟩
noncomputable def f716v1l0N:NoteR:=⟨[1,2,3,4],[],[]⟩
noncomputable def f716v1l0M:NoteR:=⟨[2,3],[],[]⟩
noncomputable def f716v1l0C:Code:=firstC (codesAt 58 (codeOf Tryz.f16) 1)
noncomputable def f716v1l0s {R:Type}(k:Nat)(rec:D69->Option R)(k0:D67->Option R)(v:D69):Option R :=
 bif (decide (v.1<(v.2.2.1.length:Int))) then
 bif ((decide (0<=v.1))&&(decide (v.1<(v.2.2.1.length:Int)))) then
 let t4:=(v.2.2.1.getD (Int.toNat v.1) (ByteArray.empty,(0,(false,(0,[])))))
 bif (decide ((([]:List (Int×(Int×D4))).length+t4.2.2.2.2.length)*80<=140737488355328)&&decide (([]:List (Int×(Int×D4))).length+t4.2.2.2.2.length<=9223372036854775807)) then
 bif (decide ((v.2.2.2.2.2.2.1.length+[(t4.1,(t4.2.1,(t4.2.2.1,(t4.2.2.2.1,([]++t4.2.2.2.2)))))].length)*64<=140737488355328)&&decide (v.2.2.2.2.2.2.1.length+[(t4.1,(t4.2.1,(t4.2.2.1,(t4.2.2.2.1,([]++t4.2.2.2.2)))))].length<=9223372036854775807)) then
 let t5:=(v.2.2.2.2.2.2.1++[(t4.1,(t4.2.1,(t4.2.2.1,(t4.2.2.2.1,([]++t4.2.2.2.2)))))])
 rec ((IntKind.i64.wrap (v.1+1)),v.2.1,v.2.2.1,v.2.2.2.1,v.2.2.2.2.1,v.2.2.2.2.2.1,t5,())
 else none
 else none
 else none
 else
 k0 (v.2.2.2.1,v.2.2.2.2.1,v.2.2.2.2.2.1,v.2.2.2.2.2.2.1,())
noncomputable def f716v1l0 {R:Type}(k:Nat)(k0:D67->Option R)(v:D69):Option R:=iterS (fun rec v=>f716v1l0s k rec k0 v) k v
noncomputable def f716v1l0S (k:Nat):Sum1:=loopSum f716v1l0H f716v1l0N k (fun R rec K v=>f716v1l0s k rec (fun w=>K (.exit 0) (encSt f716v1l0X0 w)) v)
theorem f716v1l0E (k:Nat)(R:Type)(rec:St->Option R)(K:X->St->Option R)(v:f716v1l0H.Den):evS tab (f716v1T k).t Tryz.f16.ntmps [] (bodyOf f716v1l0C) 116 (bodyK f716v1l0N f716v1l0M rec K) (encSt f716v1l0H v)=f716v1l0s k (fun v=>rec (encSt f716v1l0H v)) (fun w=>K (.exit 0) (encSt f716v1l0X0 w)) v:=by kernel_rfl
theorem f716v1l0I (k:Nat):SumsOk P Tryz.f16.ntmps [] (bodyOf f716v1l0C) 116:=SumsOk.nil
noncomputable def f716v1l1H:Shape:=⟨[(1,.one (.ptr 0 0)),(2,.one (.ptr 1 0)),(3,.one (.ptr 2 0)),(4,oI)],[(0,.var 25 [.ro Y10,.ro (.pair .str Y5)]),(1,.var 25 [.own 3,.own 4]),(2,.var 25 [.own 5,.emp]),(3,.row 82 Y10 .plain),(4,.row 69 (.pair .str Y5) .plain),(5,.row 82 Y10 .plain)],6,[]⟩
noncomputable def f716v1l1X0:Shape:=⟨[(2,.one (.ptr 0 0)),(3,.one (.ptr 1 0))],[(0,.var 25 [.own 2,.own 3]),(1,.var 25 [.own 4,.own 5]),(2,.row 82 Y10 .plain),(3,.row 69 (.pair .str Y5) .plain),(4,.row 82 Y10 .plain),(5,.row 69 (.pair .str Y5) .plain)],6,[]⟩
noncomputable def f716v1l1X1:Shape:=⟨[(2,.one (.ptr 0 0)),(3,.one (.ptr 1 0))],[(0,.var 25 [.own 2,.own 3]),(1,.var 25 [.own 4,.emp]),(2,.row 82 Y10 .plain),(3,.row 69 (.pair .str Y5) .plain),(4,.row 82 Y10 .plain)],5,[]⟩
noncomputable def f716v1l1N:NoteR:=⟨[1,2,3,4],[],[]⟩
noncomputable def f716v1l1M:NoteR:=⟨[2,3],[],[]⟩
noncomputable def f716v1l1C:Code:=firstC (codesAt 58 (codeOf Tryz.f16) 1)
noncomputable def f716v1l1s {R:Type}(k:Nat)(rec:D70->Option R)(k0:D67->Option R)(k1:D68->Option R)(v:D70):Option R :=
 bif (decide (v.1<(v.2.2.1.length:Int))) then
 bif ((decide (0<=v.1))&&(decide (v.1<(v.2.2.1.length:Int)))) then
 let t2:=(v.2.2.1.getD (Int.toNat v.1) (ByteArray.empty,(0,(false,(0,[])))))
 bif (decide ((([]:List (Int×(Int×D4))).length+t2.2.2.2.2.length)*80<=140737488355328)&&decide (([]:List (Int×(Int×D4))).length+t2.2.2.2.2.length<=9223372036854775807)) then
 bif (decide ((([]:List D6).length+[(t2.1,(t2.2.1,(t2.2.2.1,(t2.2.2.2.1,([]++t2.2.2.2.2)))))].length)*64<=140737488355328)&&decide (([]:List D6).length+[(t2.1,(t2.2.1,(t2.2.2.1,(t2.2.2.2.1,([]++t2.2.2.2.2)))))].length<=9223372036854775807)) then
 let t3:=([]++[(t2.1,(t2.2.1,(t2.2.2.1,(t2.2.2.2.1,([]++t2.2.2.2.2)))))])
 f716v1l0 k
 (fun (w6:D67) =>
 k0 (w6.1,w6.2.1,w6.2.2.1,w6.2.2.2.1,()))
 ((IntKind.i64.wrap (v.1+1)),v.2.1,v.2.2.1,v.2.2.2.1,v.2.2.2.2.1,v.2.2.2.2.2.1,t3,())
 else none
 else none
 else none
 else
 k1 (v.2.2.2.1,v.2.2.2.2.1,v.2.2.2.2.2.1,())
noncomputable def f716v1l1 {R:Type}(k:Nat)(k0:D67->Option R)(k1:D68->Option R)(v:D70):Option R:=iterS (fun rec v=>f716v1l1s k rec k0 k1 v) k v
theorem f716v1l0Rd (k:Nat):SumRd P Tryz.f16.ntmps (bodyOf f716v1l0C) (f716v1l0S k) k:=loop_rd tm.1 (f716v1T k).ok tm.2 (f716v1l0I k) (f716v1l0E k)
noncomputable def f716v1l1S (k:Nat):Sum1:=loop2Sum f716v1l1H f716v1l1N (f716v1l0S k) k (fun R rec K v=>f716v1l1s k rec (fun w=>K (.exit 0) (encSt f716v1l1X0 w)) (fun w=>K (.exit 0) (encSt f716v1l1X1 w)) v)
theorem f716v1l1E (k:Nat)(R:Type)(rec:f716v1l1H.Den->Option R)(K:X->St->Option R)(v:f716v1l1H.Den):evS tab (f716v1T k).t Tryz.f16.ntmps [] (bodyOf f716v1l1C) 116 (step2K f716v1l1H f716v1l1N f716v1l1M (f716v1l0S k) rec K) (encSt f716v1l1H v)=f716v1l1s k rec (fun w=>K (.exit 0) (encSt f716v1l1X0 w)) (fun w=>K (.exit 0) (encSt f716v1l1X1 w)) v:=by kernel_rfl
theorem f716v1l1I (k:Nat):SumsOk P Tryz.f16.ntmps [] (bodyOf f716v1l1C) 116:=SumsOk.nil
theorem f716v1l1Rd (k:Nat):SumRd P Tryz.f16.ntmps (bodyOf f716v1l1C) (f716v1l1S k) (k+(k)):=loop2_rd tm.1 (f716v1T k).ok tm.2 (f716v1l1I k) ((show bodyOf f716v1l0C=bodyOf f716v1l1C by kernel_rfl) ▸ f716v1l0Rd k) (f716v1l1E k)
theorem f716v1l1O (k:Nat):SumO P Tryz.f16 58 (f716v1l1S k):=(show SumOk P Tryz.f16.ntmps f716v1l1C (f716v1l1S k) from (show f716v1l1C=.loop (bodyOf f716v1l1C) by kernel_rfl) ▸ (f716v1l1Rd k).ok)
noncomputable def f716v1p2 {R:Type}(k:Nat)(k0:D67->Option R)(k1:D68->Option R)(v:D71):Option R :=
 f716v1l1 k
 (fun (w7:D67) =>
 k0 (w7.1,w7.2.1,w7.2.2.1,w7.2.2.2.1,()))
 (fun (w8:D68) =>
 k1 (w8.1,w8.2.1,w8.2.2.1,()))
 (0,v.1,v.2.1,v.2.2.1,v.2.2.2.1,v.2.2.2.2.1,())
noncomputable def f716v1p2S (k:Nat):=partSum ⟨[(1,.one (.ptr 0 0)),(2,.one (.ptr 1 0)),(3,.one (.ptr 2 0))],[(0,.var 25 [.ro Y10,.ro (.pair .str Y5)]),(1,.var 25 [.own 3,.own 4]),(2,.var 25 [.own 5,.emp]),(3,.row 82 Y10 .plain),(4,.row 69 (.pair .str Y5) .plain),(5,.row 82 Y10 .plain)],6,[]⟩ ⟨[1,2,3],[],[]⟩ fun R K v=>f716v1p2 k (fun w=>K .normal (encSt ⟨[(2,.one (.ptr 0 0)),(3,.one (.ptr 1 0))],[(0,.var 25 [.own 2,.own 3]),(1,.var 25 [.own 4,.own 5]),(2,.row 82 Y10 .plain),(3,.row 69 (.pair .str Y5) .plain),(4,.row 82 Y10 .plain),(5,.row 69 (.pair .str Y5) .plain)],6,[]⟩ w)) (fun w=>K .normal (encSt ⟨[(2,.one (.ptr 0 0)),(3,.one (.ptr 1 0))],[(0,.var 25 [.own 2,.own 3]),(1,.var 25 [.own 4,.emp]),(2,.row 82 Y10 .plain),(3,.row 69 (.pair .str Y5) .plain),(4,.row 82 Y10 .plain)],5,[]⟩ w)) v
theorem f716v1p2O (k:Nat):SumO P Tryz.f16 14 (f716v1p2S k):=pt tm (f716v1T k) ⟨[2,3],[],[]⟩ (SumsOk.nil |>.s (f716v1l1O k) (by kernel_rfl)) fun _ _ _=>by kernel_rfl
noncomputable def f716v1F (k:Nat)(x:D113):Option (D113) :=
 Option.bind (f736F k x.1) fun y1 =>
 f716v1p2 k
 (fun (w9:D67) =>
 some (w9.2.2.1,w9.2.2.2.1,()))
 (fun (w10:D68) =>
 some (w10.2.2.1,[],()))
 (x.1,x.2.1,[],[],y1,())
theorem f716v1Ok (k:Nat):GnV P 16 f716v1I f716v1U (f716v1F k) :=
 gs tm (f716v1T k) Tryz.func16 (by kernel_rfl) (SumsOk.nil |>.s (f716v1p2O k) (by kernel_rfl) |>.s (f716v1l1O k) (by kernel_rfl)) [.own 0 .bool] [] none fun _=>by kernel_rfl
noncomputable def f775T (k:Nat):TB P:=TB.nil |>.p (f723Ok k) |>.p (f721Ok k) |>.p (f719Ok k) |>.p (f715Ok k)
noncomputable def f775p0 {R:Type}(k:Nat)(k0:D187->Option R)(k1:D188->Option R)(v:D189):Option R :=
 bif (v.2.2.1==0) then
 Option.bind (f715F k ((v.1,v.2.1),(v.2.2.2.1,(v.2.2.2.2.1,(v.2.2.2.2.2.1,(v.2.2.2.2.2.2.1,(v.2.2.2.2.2.2.2.1,v.2.2.2.2.2.2.2.2.1))))))) fun y1 =>
 let t2:=v.2.2.2.2.2.2.2.2.2.2.2.2.2.2.2.2.2.2.2.2.2.2.2.2.2.2.2.2.2.2.2.2.2.2.2.2.1
 let t3:=v.2.2.2.2.2.2.2.2.2.2.2.2.2.2.2.2.2.2.2.2.2.2.2.2.2.2.2.2.2.2.2.2.2.2.2.2.2.1
 k0 (v.1,v.2.1,v.2.2.2.2.2.2.2.2.2.2.2.2.2.2.1,v.2.2.2.2.2.2.2.2.2.2.2.2.2.2.2.1,v.2.2.2.2.2.2.2.2.2.2.2.2.2.2.2.2.1,v.2.2.2.2.2.2.2.2.2.2.2.2.2.2.2.2.2.1,v.2.2.2.2.2.2.2.2.2.2.2.2.2.2.2.2.2.2.1,v.2.2.2.2.2.2.2.2.2.2.2.2.2.2.2.2.2.2.2.1,v.2.2.2.2.2.2.2.2.2.2.2.2.2.2.2.2.2.2.2.2.1,v.2.2.2.2.2.2.2.2.2.2.2.2.2.2.2.2.2.2.2.2.2.1,v.2.2.2.2.2.2.2.2.2.2.2.2.2.2.2.2.2.2.2.2.2.2.1,v.2.2.2.2.2.2.2.2.2.2.2.2.2.2.2.2.2.2.2.2.2.2.2.1,y1.1.1,y1.1.2,y1.2.2,y1.2.1,v.2.2.2.2.2.2.2.2.2.2.2.2.2.2.2.2.2.2.2.2.2.2.2.2.2.2.1,v.2.2.2.2.2.2.2.2.2.2.2.2.2.2.2.2.2.2.2.2.2.2.2.2.2.2.2.1,v.2.2.2.2.2.2.2.2.2.2.2.2.2.2.2.2.2.2.2.2.2.2.2.2.2.2.2.2.1,v.2.2.2.2.2.2.2.2.2.2.2.2.2.2.2.2.2.2.2.2.2.2.2.2.2.2.2.2.2.1,v.2.2.2.2.2.2.2.2.2.2.2.2.2.2.2.2.2.2.2.2.2.2.2.2.2.2.2.2.2.2.1,v.2.2.2.2.2.2.2.2.2.2.2.2.2.2.2.2.2.2.2.2.2.2.2.2.2.2.2.2.2.2.2.1,v.2.2.2.2.2.2.2.2.2.2.2.2.2.2.2.2.2.2.2.2.2.2.2.2.2.2.2.2.2.2.2.2.1,v.2.2.2.2.2.2.2.2.2.2.2.2.2.2.2.2.2.2.2.2.2.2.2.2.2.2.2.2.2.2.2.2.2.1,v.2.2.2.2.2.2.2.2.2.2.2.2.2.2.2.2.2.2.2.2.2.2.2.2.2.2.2.2.2.2.2.2.2.2.1,v.2.2.2.2.2.2.2.2.2.2.2.2.2.2.2.2.2.2.2.2.2.2.2.2.2.2.2.2.2.2.2.2.2.2.2.1,())
 else
 bif (v.2.2.1==1) then
 Option.bind (f719F k ((v.1,v.2.1),(v.2.2.2.2.2.2.2.2.2.1,(v.2.2.2.2.2.2.2.2.2.2.1,(v.2.2.2.2.2.2.2.2.2.2.2.1,v.2.2.2.2.2.2.2.2.2.2.2.2.1))))) fun y4 =>
 let t5:=v.2.2.2.2.2.2.2.2.2.2.2.2.2.2.2.2.2.2.2.2.2.2.2.2.2.2.2.2.2.2.2.2.2.2.2.2.1
 let t6:=v.2.2.2.2.2.2.2.2.2.2.2.2.2.2.2.2.2.2.2.2.2.2.2.2.2.2.2.2.2.2.2.2.2.2.2.2.2.1
 k0 (v.1,v.2.1,v.2.2.2.2.2.2.2.2.2.2.2.2.2.2.1,v.2.2.2.2.2.2.2.2.2.2.2.2.2.2.2.1,v.2.2.2.2.2.2.2.2.2.2.2.2.2.2.2.2.1,v.2.2.2.2.2.2.2.2.2.2.2.2.2.2.2.2.2.1,v.2.2.2.2.2.2.2.2.2.2.2.2.2.2.2.2.2.2.1,v.2.2.2.2.2.2.2.2.2.2.2.2.2.2.2.2.2.2.2.1,v.2.2.2.2.2.2.2.2.2.2.2.2.2.2.2.2.2.2.2.2.1,v.2.2.2.2.2.2.2.2.2.2.2.2.2.2.2.2.2.2.2.2.2.1,v.2.2.2.2.2.2.2.2.2.2.2.2.2.2.2.2.2.2.2.2.2.2.1,v.2.2.2.2.2.2.2.2.2.2.2.2.2.2.2.2.2.2.2.2.2.2.2.1,y4.1.1,y4.1.2,y4.2.2,v.2.2.2.2.2.2.2.2.2.2.2.2.2.2.2.2.2.2.2.2.2.2.2.2.2.1,y4.2.1.1,y4.2.1.2.1,y4.2.1.2.2.1,y4.2.1.2.2.2.1,y4.2.1.2.2.2.2.1,y4.2.1.2.2.2.2.2.1,y4.2.1.2.2.2.2.2.2.1,y4.2.1.2.2.2.2.2.2.2,v.2.2.2.2.2.2.2.2.2.2.2.2.2.2.2.2.2.2.2.2.2.2.2.2.2.2.2.2.2.2.2.2.2.2.1,v.2.2.2.2.2.2.2.2.2.2.2.2.2.2.2.2.2.2.2.2.2.2.2.2.2.2.2.2.2.2.2.2.2.2.2.1,())
 else
 bif (v.2.2.1==2) then
 Option.bind (f721F k ((v.1,v.2.1),v.2.2.2.2.2.2.2.2.2.1,v.2.2.2.2.2.2.2.2.2.2.2.1,v.2.2.2.2.2.2.2.2.2.2.2.2.2.1)) fun y7 =>
 let t8:=v.2.2.2.2.2.2.2.2.2.2.2.2.2.2.2.2.2.2.2.2.2.2.2.2.2.2.2.2.2.2.2.2.2.2.2.2.1
 let t9:=v.2.2.2.2.2.2.2.2.2.2.2.2.2.2.2.2.2.2.2.2.2.2.2.2.2.2.2.2.2.2.2.2.2.2.2.2.2.1
 k0 (v.1,v.2.1,v.2.2.2.2.2.2.2.2.2.2.2.2.2.2.1,v.2.2.2.2.2.2.2.2.2.2.2.2.2.2.2.1,v.2.2.2.2.2.2.2.2.2.2.2.2.2.2.2.2.1,v.2.2.2.2.2.2.2.2.2.2.2.2.2.2.2.2.2.1,v.2.2.2.2.2.2.2.2.2.2.2.2.2.2.2.2.2.2.1,v.2.2.2.2.2.2.2.2.2.2.2.2.2.2.2.2.2.2.2.1,v.2.2.2.2.2.2.2.2.2.2.2.2.2.2.2.2.2.2.2.2.1,v.2.2.2.2.2.2.2.2.2.2.2.2.2.2.2.2.2.2.2.2.2.1,v.2.2.2.2.2.2.2.2.2.2.2.2.2.2.2.2.2.2.2.2.2.2.1,v.2.2.2.2.2.2.2.2.2.2.2.2.2.2.2.2.2.2.2.2.2.2.2.1,y7.1.1,y7.1.2,y7.2,v.2.2.2.2.2.2.2.2.2.2.2.2.2.2.2.2.2.2.2.2.2.2.2.2.2.1,v.2.2.2.2.2.2.2.2.2.2.2.2.2.2.2.2.2.2.2.2.2.2.2.2.2.2.1,v.2.2.2.2.2.2.2.2.2.2.2.2.2.2.2.2.2.2.2.2.2.2.2.2.2.2.2.1,v.2.2.2.2.2.2.2.2.2.2.2.2.2.2.2.2.2.2.2.2.2.2.2.2.2.2.2.2.1,v.2.2.2.2.2.2.2.2.2.2.2.2.2.2.2.2.2.2.2.2.2.2.2.2.2.2.2.2.2.1,v.2.2.2.2.2.2.2.2.2.2.2.2.2.2.2.2.2.2.2.2.2.2.2.2.2.2.2.2.2.2.1,v.2.2.2.2.2.2.2.2.2.2.2.2.2.2.2.2.2.2.2.2.2.2.2.2.2.2.2.2.2.2.2.1,v.2.2.2.2.2.2.2.2.2.2.2.2.2.2.2.2.2.2.2.2.2.2.2.2.2.2.2.2.2.2.2.2.1,v.2.2.2.2.2.2.2.2.2.2.2.2.2.2.2.2.2.2.2.2.2.2.2.2.2.2.2.2.2.2.2.2.2.1,v.2.2.2.2.2.2.2.2.2.2.2.2.2.2.2.2.2.2.2.2.2.2.2.2.2.2.2.2.2.2.2.2.2.2.1,v.2.2.2.2.2.2.2.2.2.2.2.2.2.2.2.2.2.2.2.2.2.2.2.2.2.2.2.2.2.2.2.2.2.2.2.1,())
 else
 bif (v.2.2.1==3) then
 Option.bind (f723F k ((v.1,v.2.1),v.2.2.2.2.2.2.2.2.2.1,v.2.2.2.2.2.2.2.2.2.2.2.1)) fun y10 =>
 let t11:=v.2.2.2.2.2.2.2.2.2.2.2.2.2.2.2.2.2.2.2.2.2.2.2.2.2.2.2.2.2.2.2.2.2.2.2.2.1
 let t12:=v.2.2.2.2.2.2.2.2.2.2.2.2.2.2.2.2.2.2.2.2.2.2.2.2.2.2.2.2.2.2.2.2.2.2.2.2.2.1
 k0 (v.1,v.2.1,v.2.2.2.2.2.2.2.2.2.2.2.2.2.2.1,v.2.2.2.2.2.2.2.2.2.2.2.2.2.2.2.1,v.2.2.2.2.2.2.2.2.2.2.2.2.2.2.2.2.1,v.2.2.2.2.2.2.2.2.2.2.2.2.2.2.2.2.2.1,v.2.2.2.2.2.2.2.2.2.2.2.2.2.2.2.2.2.2.1,v.2.2.2.2.2.2.2.2.2.2.2.2.2.2.2.2.2.2.2.1,v.2.2.2.2.2.2.2.2.2.2.2.2.2.2.2.2.2.2.2.2.1,v.2.2.2.2.2.2.2.2.2.2.2.2.2.2.2.2.2.2.2.2.2.1,v.2.2.2.2.2.2.2.2.2.2.2.2.2.2.2.2.2.2.2.2.2.2.1,v.2.2.2.2.2.2.2.2.2.2.2.2.2.2.2.2.2.2.2.2.2.2.2.1,y10.1.1,y10.1.2,y10.2,v.2.2.2.2.2.2.2.2.2.2.2.2.2.2.2.2.2.2.2.2.2.2.2.2.2.1,v.2.2.2.2.2.2.2.2.2.2.2.2.2.2.2.2.2.2.2.2.2.2.2.2.2.2.1,v.2.2.2.2.2.2.2.2.2.2.2.2.2.2.2.2.2.2.2.2.2.2.2.2.2.2.2.1,v.2.2.2.2.2.2.2.2.2.2.2.2.2.2.2.2.2.2.2.2.2.2.2.2.2.2.2.2.1,v.2.2.2.2.2.2.2.2.2.2.2.2.2.2.2.2.2.2.2.2.2.2.2.2.2.2.2.2.2.1,v.2.2.2.2.2.2.2.2.2.2.2.2.2.2.2.2.2.2.2.2.2.2.2.2.2.2.2.2.2.2.1,v.2.2.2.2.2.2.2.2.2.2.2.2.2.2.2.2.2.2.2.2.2.2.2.2.2.2.2.2.2.2.2.1,v.2.2.2.2.2.2.2.2.2.2.2.2.2.2.2.2.2.2.2.2.2.2.2.2.2.2.2.2.2.2.2.2.1,v.2.2.2.2.2.2.2.2.2.2.2.2.2.2.2.2.2.2.2.2.2.2.2.2.2.2.2.2.2.2.2.2.2.1,v.2.2.2.2.2.2.2.2.2.2.2.2.2.2.2.2.2.2.2.2.2.2.2.2.2.2.2.2.2.2.2.2.2.2.1,v.2.2.2.2.2.2.2.2.2.2.2.2.2.2.2.2.2.2.2.2.2.2.2.2.2.2.2.2.2.2.2.2.2.2.2.1,())
 else
 k1 (v.1,v.2.1,v.2.2.2.2.2.2.2.2.2.2.2.2.2.2.1,v.2.2.2.2.2.2.2.2.2.2.2.2.2.2.2.1,v.2.2.2.2.2.2.2.2.2.2.2.2.2.2.2.2.1,v.2.2.2.2.2.2.2.2.2.2.2.2.2.2.2.2.2.1,v.2.2.2.2.2.2.2.2.2.2.2.2.2.2.2.2.2.2.1,v.2.2.2.2.2.2.2.2.2.2.2.2.2.2.2.2.2.2.2.1,v.2.2.2.2.2.2.2.2.2.2.2.2.2.2.2.2.2.2.2.2.1,v.2.2.2.2.2.2.2.2.2.2.2.2.2.2.2.2.2.2.2.2.2.1,v.2.2.2.2.2.2.2.2.2.2.2.2.2.2.2.2.2.2.2.2.2.2.1,v.2.2.2.2.2.2.2.2.2.2.2.2.2.2.2.2.2.2.2.2.2.2.2.1,4,v.2.2.2.2.2.2.2.2.2.2.2.2.2.2.2.2.2.2.2.2.2.2.2.2.2.1,v.2.2.2.2.2.2.2.2.2.2.2.2.2.2.2.2.2.2.2.2.2.2.2.2.2.2.1,v.2.2.2.2.2.2.2.2.2.2.2.2.2.2.2.2.2.2.2.2.2.2.2.2.2.2.2.1,v.2.2.2.2.2.2.2.2.2.2.2.2.2.2.2.2.2.2.2.2.2.2.2.2.2.2.2.2.1,v.2.2.2.2.2.2.2.2.2.2.2.2.2.2.2.2.2.2.2.2.2.2.2.2.2.2.2.2.2.1,v.2.2.2.2.2.2.2.2.2.2.2.2.2.2.2.2.2.2.2.2.2.2.2.2.2.2.2.2.2.2.1,v.2.2.2.2.2.2.2.2.2.2.2.2.2.2.2.2.2.2.2.2.2.2.2.2.2.2.2.2.2.2.2.1,v.2.2.2.2.2.2.2.2.2.2.2.2.2.2.2.2.2.2.2.2.2.2.2.2.2.2.2.2.2.2.2.2.1,v.2.2.2.2.2.2.2.2.2.2.2.2.2.2.2.2.2.2.2.2.2.2.2.2.2.2.2.2.2.2.2.2.2.1,v.2.2.2.2.2.2.2.2.2.2.2.2.2.2.2.2.2.2.2.2.2.2.2.2.2.2.2.2.2.2.2.2.2.2.1,v.2.2.2.2.2.2.2.2.2.2.2.2.2.2.2.2.2.2.2.2.2.2.2.2.2.2.2.2.2.2.2.2.2.2.2.1,v.2.2.2.2.2.2.2.2.2.2.2.2.2.2.2.2.2.2.2.2.2.2.2.2.2.2.2.2.2.2.2.2.2.2.2.2.1,v.2.2.2.2.2.2.2.2.2.2.2.2.2.2.2.2.2.2.2.2.2.2.2.2.2.2.2.2.2.2.2.2.2.2.2.2.2.1,())
noncomputable def f775p0S (k:Nat):=partSum ⟨[(2,.one (.ptr 0 0)),(3,.one (.ptr 1 0)),(4,.one (.ptr 2 0)),(5,.one (.ptr 3 0)),(6,.one (.ptr 4 0)),(7,.one (.ptr 5 0))],[(0,.var 25 [.ro Y10,.ro (.pair .str Y5)]),(1,.var 73 [.int .i64,.str,.str,.str,.str,.str,.bool,.str,.int .i64,.int .i64,.bool,.str]),(2,.var 25 [.own 6,.own 7]),(3,.var 75 [.int .i64,.int .i64,.int .i64,.int .i64,.str,.str,.str,.bool,.bool,.int .i64]),(4,.var 25 [.own 8,.own 9]),(5,.var 75 [.int .i64,.int .i64,.int .i64,.int .i64,.str,.str,.str,.bool,.bool,.int .i64]),(6,.row 82 Y10 .plain),(7,.row 69 (.pair .str Y5) .plain),(8,.row 82 Y10 .plain),(9,.row 69 (.pair .str Y5) .plain)],10,[]⟩ ⟨[2,3,4,5,6,7],[],[]⟩ fun R K v=>f775p0 k (fun w=>K .normal (encSt ⟨[(2,.one (.ptr 0 0)),(4,.one (.ptr 1 0)),(5,.one (.ptr 2 0)),(6,.one (.ptr 3 0)),(7,.one (.ptr 4 0))],[(0,.var 25 [.ro Y10,.ro (.pair .str Y5)]),(1,.var 25 [.own 5,.own 6]),(2,.var 75 [.int .i64,.int .i64,.int .i64,.int .i64,.str,.str,.str,.bool,.bool,.int .i64]),(3,.var 25 [.ro Y10,.ro (.pair .str Y5)]),(4,.var 75 [.int .i64,.int .i64,.int .i64,.int .i64,.str,.str,.str,.bool,.bool,.int .i64]),(5,.row 82 Y10 .plain),(6,.row 69 (.pair .str Y5) .plain)],7,[]⟩ w)) (fun w=>K .normal (encSt ⟨[(2,.one (.ptr 0 0)),(4,.one (.ptr 1 0)),(5,.one (.ptr 2 0)),(6,.one (.ptr 3 0)),(7,.one (.ptr 4 0))],[(0,.var 25 [.ro Y10,.ro (.pair .str Y5)]),(1,.var 25 [.own 5,.own 6]),(2,.var 75 [.int .i64,.int .i64,.int .i64,.int .i64,.str,.str,.str,.bool,.bool,.int .i64]),(3,.var 25 [.own 7,.own 8]),(4,.var 75 [.int .i64,.int .i64,.int .i64,.int .i64,.str,.str,.str,.bool,.bool,.int .i64]),(5,.row 82 Y10 .plain),(6,.row 69 (.pair .str Y5) .plain),(7,.row 82 Y10 .plain),(8,.row 69 (.pair .str Y5) .plain)],9,[]⟩ w)) v
theorem f775p0O (k:Nat):SumO P Tryz.f75 30 (f775p0S k):=pt tm (f775T k) ⟨[2,4,5,6,7],[],[]⟩ SumsOk.nil fun _ _ _=>by kernel_rfl
noncomputable def f775F (k:Nat)(x:D14×(Int×D190)):Option (D14×(Int×D191)) :=
 f775p0 k
 (fun (w13:D187) =>
 bif (w13.2.2.2.2.2.2.2.2.2.2.2.2.2.2.1 !=0) then
 some ((w13.1,w13.2.1),(w13.2.2.2.2.2.2.2.2.2.2.2.2.2.2.1,(w13.2.2.2.2.2.2.2.2.2.2.2.2.2.2.2.1,(w13.2.2.2.2.2.2.2.2.2.2.2.2.2.2.2.2.1,(w13.2.2.2.2.2.2.2.2.2.2.2.2.2.2.2.2.2.1,(w13.2.2.2.2.2.2.2.2.2.2.2.2.2.2.2.2.2.2.1,(w13.2.2.2.2.2.2.2.2.2.2.2.2.2.2.2.2.2.2.2.1,(w13.2.2.2.2.2.2.2.2.2.2.2.2.2.2.2.2.2.2.2.2.1,(w13.2.2.2.2.2.2.2.2.2.2.2.2.2.2.2.2.2.2.2.2.2.1,(w13.2.2.2.2.2.2.2.2.2.2.2.2.2.2.2.2.2.2.2.2.2.2.1,w13.2.2.2.2.2.2.2.2.2.2.2.2.2.2.2.2.2.2.2.2.2.2.2.1))))))))))
 else
 some ((w13.2.2.2.2.2.2.2.2.2.2.2.2.1,w13.2.2.2.2.2.2.2.2.2.2.2.2.2.1),(w13.2.2.2.2.2.2.2.2.2.2.2.2.2.2.1,(w13.2.2.2.2.2.2.2.2.2.2.2.2.2.2.2.1,(w13.2.2.2.2.2.2.2.2.2.2.2.2.2.2.2.2.1,(w13.2.2.2.2.2.2.2.2.2.2.2.2.2.2.2.2.2.1,(w13.2.2.2.2.2.2.2.2.2.2.2.2.2.2.2.2.2.2.1,(w13.2.2.2.2.2.2.2.2.2.2.2.2.2.2.2.2.2.2.2.1,(w13.2.2.2.2.2.2.2.2.2.2.2.2.2.2.2.2.2.2.2.2.1,(w13.2.2.2.2.2.2.2.2.2.2.2.2.2.2.2.2.2.2.2.2.2.1,(w13.2.2.2.2.2.2.2.2.2.2.2.2.2.2.2.2.2.2.2.2.2.2.1,w13.2.2.2.2.2.2.2.2.2.2.2.2.2.2.2.2.2.2.2.2.2.2.2.1)))))))))))
 (fun (w14:D188) =>
 bif (w14.2.2.2.2.2.2.2.2.2.2.2.2.1 !=0) then
 some ((w14.1,w14.2.1),(w14.2.2.2.2.2.2.2.2.2.2.2.2.1,(w14.2.2.2.2.2.2.2.2.2.2.2.2.2.1,(w14.2.2.2.2.2.2.2.2.2.2.2.2.2.2.1,(w14.2.2.2.2.2.2.2.2.2.2.2.2.2.2.2.1,(w14.2.2.2.2.2.2.2.2.2.2.2.2.2.2.2.2.1,(w14.2.2.2.2.2.2.2.2.2.2.2.2.2.2.2.2.2.1,(w14.2.2.2.2.2.2.2.2.2.2.2.2.2.2.2.2.2.2.1,(w14.2.2.2.2.2.2.2.2.2.2.2.2.2.2.2.2.2.2.2.1,(w14.2.2.2.2.2.2.2.2.2.2.2.2.2.2.2.2.2.2.2.2.1,w14.2.2.2.2.2.2.2.2.2.2.2.2.2.2.2.2.2.2.2.2.2.1))))))))))
 else
 some ((w14.2.2.2.2.2.2.2.2.2.2.2.2.2.2.2.2.2.2.2.2.2.2.2.2.1,w14.2.2.2.2.2.2.2.2.2.2.2.2.2.2.2.2.2.2.2.2.2.2.2.2.2.1),(w14.2.2.2.2.2.2.2.2.2.2.2.2.1,(w14.2.2.2.2.2.2.2.2.2.2.2.2.2.1,(w14.2.2.2.2.2.2.2.2.2.2.2.2.2.2.1,(w14.2.2.2.2.2.2.2.2.2.2.2.2.2.2.2.1,(w14.2.2.2.2.2.2.2.2.2.2.2.2.2.2.2.2.1,(w14.2.2.2.2.2.2.2.2.2.2.2.2.2.2.2.2.2.1,(w14.2.2.2.2.2.2.2.2.2.2.2.2.2.2.2.2.2.2.1,(w14.2.2.2.2.2.2.2.2.2.2.2.2.2.2.2.2.2.2.2.1,(w14.2.2.2.2.2.2.2.2.2.2.2.2.2.2.2.2.2.2.2.2.1,w14.2.2.2.2.2.2.2.2.2.2.2.2.2.2.2.2.2.2.2.2.2.1)))))))))))
 (x.1.1,x.1.2,x.2.1,x.2.2.1.1,x.2.2.1.2.1,x.2.2.1.2.2.1,x.2.2.1.2.2.2.1,x.2.2.1.2.2.2.2.1,x.2.2.1.2.2.2.2.2,x.2.2.2.1.1,x.2.2.2.1.2.1,x.2.2.2.1.2.2.1,x.2.2.2.1.2.2.2,x.2.2.2.2,0,0,0,0,ByteArray.empty,ByteArray.empty,ByteArray.empty,false,false,0,0,0,0,0,ByteArray.empty,ByteArray.empty,ByteArray.empty,false,false,0,[],[],[],[],())
theorem f775Ok (k:Nat):FnV P 75 [.agg Y11,.agg (.pair (.int .i64) Y19)] [.agg Y11,.agg Y20] (f775F k) :=
 fs tm (f775T k) Tryz.func75 (by kernel_rfl) (SumsOk.nil |>.s (f775p0O k) (by kernel_rfl)) none fun _=>by kernel_rfl
noncomputable def f726T (k:Nat):TB P:=TB.nil |>.p (f775Ok k) |>.u (f761Ok k) |>.u (f760Ok k) |>.u (f751Ok k)
noncomputable def f726l0s {R:Type}(k:Nat)(rec:D193->Option R)(k0:D192->Option R)(v:D193):Option R :=
 bif (decide (v.2.2.1<v.2.1)) then
 bif ((decide (0<=v.2.2.1))&&(decide (v.2.2.1<(v.1.length:Int)))) then
 let t4:=(v.1.getD (Int.toNat v.2.2.1) (0,((ByteArray.empty,(ByteArray.empty,(ByteArray.empty,(ByteArray.empty,(ByteArray.empty,false))))),((ByteArray.empty,(0,(0,false))),ByteArray.empty))))
 Option.bind (f775F k ((v.2.2.2.1,v.2.2.2.2.1),(t4.1,((t4.2.1.1,(t4.2.1.2.1,(t4.2.1.2.2.1,(t4.2.1.2.2.2.1,(t4.2.1.2.2.2.2.1,t4.2.1.2.2.2.2.2))))),((t4.2.2.1.1,(t4.2.2.1.2.1,(t4.2.2.1.2.2.1,t4.2.2.1.2.2.2))),t4.2.2.2))))) fun y5 =>
 let t6:=[(y5.2.1,(y5.2.2.1,(y5.2.2.2.1,(y5.2.2.2.2.1,(y5.2.2.2.2.2.1,(y5.2.2.2.2.2.2.1,(y5.2.2.2.2.2.2.2.1,(y5.2.2.2.2.2.2.2.2.1,(y5.2.2.2.2.2.2.2.2.2.1,y5.2.2.2.2.2.2.2.2.2.2)))))))))]
 bif (decide ((v.2.2.2.2.2.1.length+t6.length)*96<=140737488355328)&&decide (v.2.2.2.2.2.1.length+t6.length<=9223372036854775807)) then
 rec (v.1,v.2.1,(IntKind.i64.wrap (v.2.2.1+1)),y5.1.1,y5.1.2,(v.2.2.2.2.2.1++t6),v.2.2.2.2.2.2.1,v.2.2.2.2.2.2.2.1,())
 else none
 else none
 else
 k0 (v.2.2.2.1,v.2.2.2.2.1,v.2.2.2.2.2.1,v.2.2.2.2.2.2.1,v.2.2.2.2.2.2.2.1,())
noncomputable def f726l0 {R:Type}(k:Nat)(k0:D192->Option R)(v:D193):Option R:=iterS (fun rec v=>f726l0s k rec k0 v) k v
noncomputable def f726l0S (k:Nat):=loopSum ⟨[(2,.one (.ptr 0 0)),(4,.one (.ptr 1 0)),(8,.one (.own 2)),(25,.one (.ro (.pair (.int .i64) Y19))),(26,oI),(27,oI)],[(0,.var 25 [.ro Y10,.ro (.pair .str Y5)]),(1,.var 25 [.own 3,.own 4]),(2,.row 75 Y20 .plain),(3,.row 82 Y10 .plain),(4,.row 69 (.pair .str Y5) .plain)],5,[]⟩ ⟨[2,4,8,25,26,27],[(8,75,Y20)],[]⟩ k fun R rec K v=>f726l0s k rec (fun w=>K (.exit 0) (encSt ⟨[(2,.one (.ptr 0 0)),(4,.one (.ptr 1 0)),(8,.one (.own 2))],[(0,.var 25 [.ro Y10,.ro (.pair .str Y5)]),(1,.var 25 [.own 3,.own 4]),(2,.row 75 Y20 .plain),(3,.row 82 Y10 .plain),(4,.row 69 (.pair .str Y5) .plain)],5,[]⟩ w)) v
theorem f726l0O (k:Nat):SumO P Tryz.f26 122 (f726l0S k):=lp tm (f726T k) ⟨[2,4,5,6,8],[],[]⟩ SumsOk.nil (by kernel_rfl) fun _ _ _ _=>by kernel_rfl
noncomputable def f726F (k:Nat)(x:D194):Option (D195) :=
 Option.bind (f751F k ((x.1.1,x.1.2),[])) fun y1 =>
 Option.bind (f761F k ((decide ((x.2.length:Int) > 60)),2)) fun y2 =>
 Option.bind (f760F k [y1,y2]) fun y3 =>
 bif (y3 !=0) then
 some (([],[]),[],y3)
 else
 f726l0 k
 (fun (w7:D192) =>
 some ((w7.1,w7.2.1),w7.2.2.1,0))
 (x.2,(x.2.length:Int),0,x.1.1,x.1.2,[],[],[],())
theorem f726Ok (k:Nat):FnV P 26 [.agg Y11,.dat (.slice (.pair (.int .i64) Y19))] [.agg Y11,.own 75 Y20,.dat (.int .i64)] (f726F k) :=
 fs tm (f726T k) Tryz.func26 (by kernel_rfl) (SumsOk.nil |>.s (f726l0O k) (by kernel_rfl)) none fun _=>by kernel_rfl
noncomputable def f750F (k:Nat)(x:ByteArray):Option (D6) :=
 some (x,(3,(false,(1,[]))))
theorem f750Ok (k:Nat):FnV P 50 [.dat .str] [.agg (.pair .str Y5)] (f750F k) :=
 fs tm TB.nil Tryz.func50 (by kernel_rfl) SumsOk.nil none fun _=>by kernel_rfl
noncomputable def f712T (k:Nat):TB P:=TB.nil |>.p (f750Ok k) |>.p (f726Ok k)
noncomputable def f712F (k:Nat)(x:Unit):Option (Bool) :=
 Option.bind (f750F k (⟨#[65]⟩:ByteArray)) fun y1 =>
 Option.bind (f750F k (⟨#[66]⟩:ByteArray)) fun y2 =>
 let t3:=[(y1.1,(y1.2.1,(y1.2.2.1,(y1.2.2.2.1,y1.2.2.2.2)))),(y2.1,(y2.2.1,(y2.2.2.1,(y2.2.2.2.1,y2.2.2.2.2))))]
 let t4:=[(0,(((⟨#[65]⟩:ByteArray),((⟨#[66]⟩:ByteArray),(ByteArray.empty,(ByteArray.empty,((⟨#[71,79,63]⟩:ByteArray),true))))),((ByteArray.empty,(0,(0,false))),ByteArray.empty))),(2,((ByteArray.empty,(ByteArray.empty,(ByteArray.empty,(ByteArray.empty,(ByteArray.empty,false))))),(((⟨#[66]⟩:ByteArray),(0,(1,false))),(⟨#[67]⟩:ByteArray)))),(2,((ByteArray.empty,(ByteArray.empty,(ByteArray.empty,(ByteArray.empty,(ByteArray.empty,false))))),(((⟨#[66]⟩:ByteArray),(0,(1,false))),(⟨#[67]⟩:ByteArray)))),(1,((ByteArray.empty,(ByteArray.empty,(ByteArray.empty,(ByteArray.empty,(ByteArray.empty,false))))),(((⟨#[65]⟩:ByteArray),(0,(0,false))),ByteArray.empty)))]
 Option.bind (f726F k (([],t3),t4)) fun y5 =>
 bif (y5.2.2==0) then
 bif ((y5.2.1.length:Int)==4) then
 bif (decide (0<(y5.2.1.length:Int))) then
 let t6:=(y5.2.1.getD 0 (0,(0,(0,(0,(ByteArray.empty,(ByteArray.empty,(ByteArray.empty,(false,(false,0)))))))))).2.1
 bif (t6==1) then
 bif (decide (1<(y5.2.1.length:Int))) then
 let t7:=(y5.2.1.getD 1 (0,(0,(0,(0,(ByteArray.empty,(ByteArray.empty,(ByteArray.empty,(false,(false,0)))))))))).1
 bif (t7==0) then
 bif (decide (2<(y5.2.1.length:Int))) then
 let t8:=(y5.2.1.getD 2 (0,(0,(0,(0,(ByteArray.empty,(ByteArray.empty,(ByteArray.empty,(false,(false,0)))))))))).1
 bif (t8==26) then
 bif (decide (3<(y5.2.1.length:Int))) then
 let t9:=(y5.2.1.getD 3 (0,(0,(0,(0,(ByteArray.empty,(ByteArray.empty,(ByteArray.empty,(false,(false,0)))))))))).2.2.2.2.2.1
 bif (strEq t9 (⟨#[67]⟩:ByteArray)) then
 bif (decide (3<(y5.2.1.length:Int))) then
 let t10:=(y5.2.1.getD 3 (0,(0,(0,(0,(ByteArray.empty,(ByteArray.empty,(ByteArray.empty,(false,(false,0)))))))))).2.2.2.2.2.2.2.2.2
 some (t10==1)
 else none
 else
 some false
 else none
 else
 some false
 else none
 else
 some false
 else none
 else
 some false
 else none
 else
 some false
 else
 some false
theorem f712Ok (k:Nat):FnV P 12 [] [.dat .bool] (f712F k) :=
 fs tm (f712T k) Tryz.func12 (by kernel_rfl) SumsOk.nil none fun _=>by kernel_rfl
end Go.Proofs.YthcmomgkfjjajaaGreatDoor
