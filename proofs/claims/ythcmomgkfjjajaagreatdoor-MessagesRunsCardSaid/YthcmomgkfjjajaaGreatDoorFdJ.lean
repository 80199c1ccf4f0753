import Derived.Test.YthcmomgkfjjajaaGreatDoorFcJ
import Derived.Test.YthcmomgkfjjajaaGreatDoorProg
set_option linter.unusedVariables false
set_option maxRecDepth 100000
namespace Go.Proofs.YthcmomgkfjjajaaGreatDoor
open Go.Ab
noncomputable def f813F (k:Nat)(x:Int):Option (Bool) :=
 bif (decide (65<=x)) then
 some (decide (x<=90))
 else
 some false
theorem f813Ok (k:Nat):FnV P 113 [.dat (.int .u8)] [.dat .bool] (f813F k) :=
 fs tm TB.nil Tryz.func113 (by kernel_rfl) SumsOk.nil none fun _=>by kernel_rfl
noncomputable def f814F (k:Nat)(x:Int):Option (Bool) :=
 bif (decide (48<=x)) then
 some (decide (x<=57))
 else
 some false
theorem f814Ok (k:Nat):FnV P 114 [.dat (.int .u8)] [.dat .bool] (f814F k) :=
 fs tm TB.nil Tryz.func114 (by kernel_rfl) SumsOk.nil none fun _=>by kernel_rfl
noncomputable def f791T (k:Nat):TB P:=TB.nil |>.u (f814Ok k) |>.u (f813Ok k)
noncomputable def f791p0 {R:Type}(k:Nat)(k0:D148->Option R)(k1:ByteArray×Int×Unit->Option R)(v:ByteArray×Int×Unit):Option R :=
 bif ((decide (0<=v.2.1))&&(decide (v.2.1<(v.1.size:Int)))) then
 Option.bind (f814F k (bt v.1 v.2.1)) fun y2 =>
 bif (!y2) then
 bif (decide (v.2.1<3)) then
 Option.bind (f813F k (bt v.1 v.2.1)) fun y3 =>
 bif (!y3) then
 k0 (v.1,false,v.2.1,())
 else
 bif (decide (v.2.1≥3)) then
 bif (decide ((bt v.1 v.2.1)<65)) then
 k0 (v.1,false,v.2.1,())
 else
 bif (decide ((bt v.1 v.2.1) > 70)) then
 k0 (v.1,false,v.2.1,())
 else
 k1 (v.1,v.2.1,())
 else
 k1 (v.1,v.2.1,())
 else
 bif (decide (v.2.1≥3)) then
 bif (decide ((bt v.1 v.2.1)<65)) then
 k0 (v.1,false,v.2.1,())
 else
 bif (decide ((bt v.1 v.2.1) > 70)) then
 k0 (v.1,false,v.2.1,())
 else
 k1 (v.1,v.2.1,())
 else
 k1 (v.1,v.2.1,())
 else
 k1 (v.1,v.2.1,())
 else none
noncomputable def f791p0S (k:Nat):=partSum ⟨[(0,oS),(3,oI)],[],0,[]⟩ ⟨[0,3],[],[]⟩ fun R K v=>f791p0 k (fun w=>K .ret (encSt ⟨[(0,oS),(2,oB),(3,oI)],[],0,[]⟩ w)) (fun w=>K .normal (encSt ⟨[(0,oS),(3,oI)],[],0,[]⟩ w)) v
theorem f791p0O (k:Nat):SumO P Tryz.f91 466 (f791p0S k):=pt tm (f791T k) ⟨[0,2,3],[],[]⟩ SumsOk.nil fun _ _ _=>by kernel_rfl
noncomputable def f791l1s {R:Type}(k:Nat)(rec:ByteArray×Int×Unit->Option R)(k0:Bool×Unit->Option R)(k1:Unit->Option R)(v:ByteArray×Int×Unit):Option R :=
 bif (decide (v.2.1<7)) then
 f791p0 k
 (fun (w4:D148) =>
 k0 (w4.2.1,()))
 (fun (w5:ByteArray×Int×Unit) =>
 rec (w5.1,(IntKind.i64.wrap (w5.2.1+1)),()))
 (v.1,v.2.1,())
 else
 k1 (())
noncomputable def f791l1 {R:Type}(k:Nat)(k0:Bool×Unit->Option R)(k1:Unit->Option R)(v:ByteArray×Int×Unit):Option R:=iterS (fun rec v=>f791l1s k rec k0 k1 v) k v
noncomputable def f791l1S (k:Nat):=loopSum ⟨[(0,oS),(3,oI)],[],0,[]⟩ ⟨[0,3],[],[]⟩ k fun R rec K v=>f791l1s k rec (fun w=>K .ret (encSt ⟨[(2,oB)],[],0,[]⟩ w)) (fun w=>K (.exit 0) (encSt ⟨[],[],0,[]⟩ w)) v
theorem f791l1O (k:Nat):SumO P Tryz.f91 58 (f791l1S k):=lp tm (f791T k) ⟨[2],[],[]⟩ (SumsOk.nil |>.s (f791p0O k) (by kernel_rfl)) (by kernel_rfl) fun _ _ _ _=>by kernel_rfl
noncomputable def f791F (k:Nat)(x:ByteArray):Option (Bool) :=
 bif ((x.size:Int) !=7) then
 some false
 else
 bif (decide (0<(x.size:Int))) then
 Option.bind (f813F k (bt x 0)) fun y1 =>
 bif (!y1) then
 some false
 else
 f791l1 k
 (fun (w6:Bool×Unit) =>
 some w6.1)
 (fun (w7:Unit) =>
 some true)
 (x,1,())
 else none
theorem f791Ok (k:Nat):FnV P 91 [.dat .str] [.dat .bool] (f791F k) :=
 fs tm (f791T k) Tryz.func91 (by kernel_rfl) (SumsOk.nil |>.s (f791l1O k) (by kernel_rfl) |>.s (f791p0O k) (by kernel_rfl)) none fun _=>by kernel_rfl
noncomputable def f48F (k:Nat)(x:Int×Int×Int):Option (Bool) :=
 bif (decide (x.2.1<=x.1)) then
 some (decide (x.1<=x.2.2))
 else
 some false
theorem f48Ok (k:Nat):FnV P 65 [.dat (.int .i64),.dat (.int .i64),.dat (.int .i64)] [.dat .bool] (f48F k) :=
 fs tm TB.nil Tryz.func65 (by kernel_rfl) SumsOk.nil none fun _=>by kernel_rfl
noncomputable def f756l0s {R:Type}(k:Nat)(rec:ByteArray×Int×Unit->Option R)(k0:Bool×Unit->Option R)(k1:Unit->Option R)(v:ByteArray×Int×Unit):Option R :=
 bif (decide (v.2.1<(v.1.size:Int))) then
 bif ((decide (0<=v.2.1))&&(decide (v.2.1<(v.1.size:Int)))) then
 bif (decide ((bt v.1 v.2.1)<32)) then
 k0 (false,())
 else
 bif ((decide (0<=v.2.1))&&(decide (v.2.1<(v.1.size:Int)))) then
 bif (decide ((bt v.1 v.2.1) > 126)) then
 k0 (false,())
 else
 rec (v.1,(IntKind.i64.wrap (v.2.1+1)),())
 else none
 else none
 else
 k1 (())
noncomputable def f756l0 {R:Type}(k:Nat)(k0:Bool×Unit->Option R)(k1:Unit->Option R)(v:ByteArray×Int×Unit):Option R:=iterS (fun rec v=>f756l0s k rec k0 k1 v) k v
noncomputable def f756l0S (k:Nat):=loopSum ⟨[(0,oS),(3,oI)],[],0,[]⟩ ⟨[0,3],[],[]⟩ k fun R rec K v=>f756l0s k rec (fun w=>K .ret (encSt ⟨[(2,oB)],[],0,[]⟩ w)) (fun w=>K (.exit 0) (encSt ⟨[],[],0,[]⟩ w)) v
theorem f756l0O (k:Nat):SumO P Tryz.f56 26 (f756l0S k):=lp tm TB.nil ⟨[2],[],[]⟩ SumsOk.nil (by kernel_rfl) fun _ _ _ _=>by kernel_rfl
noncomputable def f756F (k:Nat)(x:ByteArray):Option (Bool) :=
 f756l0 k
 (fun (w1:Bool×Unit) =>
 some w1.1)
 (fun (w2:Unit) =>
 some true)
 (x,0,())
theorem f756Ok (k:Nat):FnV P 56 [.dat .str] [.dat .bool] (f756F k) :=
 fs tm TB.nil Tryz.func56 (by kernel_rfl) (SumsOk.nil |>.s (f756l0O k) (by kernel_rfl)) none fun _=>by kernel_rfl
noncomputable def f820T (k:Nat):TB P:=TB.nil |>.u (f48Ok k)
noncomputable def f820p0 {R:Type}(k:Nat)(k0:D149->Option R)(v:D150):Option R :=
 bif (v.1==1) then
 k0 (v.1,(v.1==1),v.2.1,v.2.2.1,v.2.2.2.1,())
 else
 k0 (v.1,(v.1==2),v.2.1,v.2.2.1,v.2.2.2.1,())
noncomputable def f820p0S (k:Nat):=partSum ⟨[(1,.one (.ptr 0 0)),(4,oI)],[(0,.var 115 [.int .i64,.int .i64,.int .i64])],1,[]⟩ ⟨[1,4],[],[]⟩ fun R K v=>f820p0 k (fun w=>K .normal (encSt ⟨[(1,.one (.ptr 0 0)),(4,oI),(15,oB)],[(0,.var 115 [.int .i64,.int .i64,.int .i64])],1,[]⟩ w)) v
theorem f820p0O (k:Nat):SumO P Tryz.f120 214 (f820p0S k):=pt tm (f820T k) ⟨[1,2,4,15],[],[]⟩ SumsOk.nil fun _ _ _=>by kernel_rfl
noncomputable def f820F (k:Nat)(x:(Int×(Int×Int))):Option (Bool) :=
 bif (x.1==0) then
 Option.bind (f48F k (x.2.1,1,256)) fun y1 =>
 bif y1 then
 some (x.2.2==0)
 else
 some false
 else
 f820p0 k
 (fun (w2:D149) =>
 bif w2.2.1 then
 Option.bind (f48F k (w2.2.2.2.1,1,15)) fun y3 =>
 bif y3 then
 Option.bind (f48F k (w2.2.2.2.2.1,0,w2.2.2.2.1)) fun y4 =>
 some y4
 else
 some false
 else
 bif (w2.1==3) then
 bif (w2.2.2.2.1==4) then
 Option.bind (f48F k (w2.2.2.2.2.1,0,w2.2.2.2.1)) fun y5 =>
 some y5
 else
 bif (w2.2.2.2.1==9) then
 Option.bind (f48F k (w2.2.2.2.2.1,0,w2.2.2.2.1)) fun y6 =>
 some y6
 else
 some false
 else
 bif (w2.2.2.1==4) then
 bif (w2.2.2.2.1==0) then
 some (w2.2.2.2.2.1==0)
 else
 some false
 else
 some false)
 (x.1,x.1,x.2.1,x.2.2,())
theorem f820Ok (k:Nat):FnV P 120 [.agg (.pair (.int .i64) Y6)] [.dat .bool] (f820F k) :=
 fs tm (f820T k) Tryz.func120 (by kernel_rfl) (SumsOk.nil |>.s (f820p0O k) (by kernel_rfl)) none fun _=>by kernel_rfl
noncomputable def f773l0s {R:Type}(k:Nat)(rec:D151->Option R)(k0:Int×Unit->Option R)(k1:Unit->Option R)(v:D151):Option R :=
 bif (decide (v.2.2.1<(v.1.length:Int))) then
 bif ((decide (0<=v.2.2.1))&&(decide (v.2.2.1<(v.1.length:Int)))) then
 bif (strEq (v.1.getD (Int.toNat v.2.2.1) ByteArray.empty) v.2.1) then
 k0 (v.2.2.1,())
 else
 rec (v.1,v.2.1,(IntKind.i64.wrap (v.2.2.1+1)),())
 else none
 else
 k1 (())
noncomputable def f773l0 {R:Type}(k:Nat)(k0:Int×Unit->Option R)(k1:Unit->Option R)(v:D151):Option R:=iterS (fun rec v=>f773l0s k rec k0 k1 v) k v
noncomputable def f773l0S (k:Nat):=loopSum ⟨[(0,.one (.ro .str)),(1,oS),(5,oI)],[],0,[]⟩ ⟨[0,1,5],[],[]⟩ k fun R rec K v=>f773l0s k rec (fun w=>K .ret (encSt ⟨[(4,oI)],[],0,[]⟩ w)) (fun w=>K (.exit 0) (encSt ⟨[],[],0,[]⟩ w)) v
theorem f773l0O (k:Nat):SumO P Tryz.f73 26 (f773l0S k):=lp tm TB.nil ⟨[4],[],[]⟩ SumsOk.nil (by kernel_rfl) fun _ _ _ _=>by kernel_rfl
noncomputable def f773F (k:Nat)(x:D24):Option (Int) :=
 f773l0 k
 (fun (w1:Int×Unit) =>
 some w1.1)
 (fun (w2:Unit) =>
 some (-1))
 (x.1,x.2,0,())
theorem f773Ok (k:Nat):FnV P 73 [.dat (.slice .str),.dat .str] [.dat (.int .i64)] (f773F k) :=
 fs tm TB.nil Tryz.func73 (by kernel_rfl) (SumsOk.nil |>.s (f773l0O k) (by kernel_rfl)) none fun _=>by kernel_rfl
noncomputable def f792T (k:Nat):TB P:=TB.nil |>.u (f820Ok k) |>.u (f773Ok k) |>.u (f48Ok k) |>.u (f756Ok k)
noncomputable def f792l0s {R:Type}(k:Nat)(rec:D152->Option R)(k0:D152->Option R)(k1:D153->Option R)(v:D152):Option R :=
 bif (decide (v.1<(v.2.2.2.2.2.1.length:Int))) then
 bif ((decide (0<=v.1))&&(decide (v.1<(v.2.2.2.2.2.1.length:Int)))) then
 let t4:=(v.2.2.2.2.2.1.getD (Int.toNat v.1) (0,(0,0)))
 Option.bind (f820F k (t4.1,(t4.2.1,t4.2.2))) fun y5 =>
 bif (!y5) then
 k0 (17,v.2.1,v.2.2.1,v.2.2.2.1,v.2.2.2.2.1,v.2.2.2.2.2.1,v.2.2.2.2.2.2.1,v.2.2.2.2.2.2.2.1,())
 else
 bif ((decide (0<=v.1))&&(decide (v.1<(v.2.2.2.2.2.1.length:Int)))) then
 let t6:=(v.2.2.2.2.2.1.getD (Int.toNat v.1) (0,(0,0)))
 bif (t6.1==4) then
 k0 (17,v.2.1,v.2.2.1,v.2.2.2.1,v.2.2.2.2.1,v.2.2.2.2.2.1,v.2.2.2.2.2.2.1,v.2.2.2.2.2.2.2.1,())
 else
 rec ((IntKind.i64.wrap (v.1+1)),v.2.1,v.2.2.1,v.2.2.2.1,v.2.2.2.2.1,v.2.2.2.2.2.1,v.2.2.2.2.2.2.1,v.2.2.2.2.2.2.2.1,())
 else none
 else none
 else
 k1 (v.2.1,v.2.2.1,v.2.2.2.1,v.2.2.2.2.1,v.2.2.2.2.2.1,v.2.2.2.2.2.2.1,v.2.2.2.2.2.2.2.1,())
noncomputable def f792l0 {R:Type}(k:Nat)(k0:D152->Option R)(k1:D153->Option R)(v:D152):Option R:=iterS (fun rec v=>f792l0s k rec k0 k1 v) k v
noncomputable def f792l0S (k:Nat):=loopSum ⟨[(1,.one (.ptr 0 0)),(3,oI)],[(0,.var 82 [.str,.int .i64,.str,.str,.ro (.pair (.int .i64) Y6),.str,.ro .str])],1,[]⟩ ⟨[1,3],[],[]⟩ k fun R rec K v=>f792l0s k rec (fun w=>K .ret (encSt ⟨[(1,.one (.ptr 0 0)),(2,oI)],[(0,.var 82 [.str,.int .i64,.str,.str,.ro (.pair (.int .i64) Y6),.str,.ro .str])],1,[]⟩ w)) (fun w=>K (.exit 0) (encSt ⟨[(1,.one (.ptr 0 0))],[(0,.var 82 [.str,.int .i64,.str,.str,.ro (.pair (.int .i64) Y6),.str,.ro .str])],1,[]⟩ w)) v
theorem f792l0O (k:Nat):SumO P Tryz.f92 1018 (f792l0S k):=lp tm (f792T k) ⟨[1,2],[],[]⟩ SumsOk.nil (by kernel_rfl) fun _ _ _ _=>by kernel_rfl
noncomputable def f792l1s {R:Type}(k:Nat)(rec:D152->Option R)(k0:Int×Unit->Option R)(k1:Unit->Option R)(v:D152):Option R :=
 bif (decide (v.1<(v.2.2.2.2.2.2.2.1.length:Int))) then
 bif ((decide (0<=v.1))&&(decide (v.1<(v.2.2.2.2.2.2.2.1.length:Int)))) then
 let t10:=(((v.2.2.2.2.2.2.2.1.getD (Int.toNat v.1) ByteArray.empty).size:Int)==0)
 bif t10 then
 k0 (1,())
 else
 let t11:=(decide (((v.2.2.2.2.2.2.2.1.getD (Int.toNat v.1) ByteArray.empty).size:Int) > 32))
 bif t11 then
 k0 (2,())
 else
 Option.bind (f756F k (v.2.2.2.2.2.2.2.1.getD (Int.toNat v.1) ByteArray.empty)) fun y12 =>
 bif (!y12) then
 k0 (5,())
 else
 bif (sliceBds 0 v.1 (v.2.2.2.2.2.2.2.1.length:Int)) then
 Option.bind (f773F k (((v.2.2.2.2.2.2.2.1.take (Int.toNat v.1)).drop 0),(v.2.2.2.2.2.2.2.1.getD (Int.toNat v.1) ByteArray.empty))) fun y13 =>
 bif (y13 !=(-1)) then
 k0 (13,())
 else
 rec ((IntKind.i64.wrap (v.1+1)),v.2.1,v.2.2.1,v.2.2.2.1,v.2.2.2.2.1,v.2.2.2.2.2.1,v.2.2.2.2.2.2.1,v.2.2.2.2.2.2.2.1,())
 else none
 else none
 else
 k1 (())
noncomputable def f792l1 {R:Type}(k:Nat)(k0:Int×Unit->Option R)(k1:Unit->Option R)(v:D152):Option R:=iterS (fun rec v=>f792l1s k rec k0 k1 v) k v
noncomputable def f792l1S (k:Nat):=loopSum ⟨[(1,.one (.ptr 0 0)),(4,oI)],[(0,.var 82 [.str,.int .i64,.str,.str,.ro (.pair (.int .i64) Y6),.str,.ro .str])],1,[]⟩ ⟨[1,4],[],[]⟩ k fun R rec K v=>f792l1s k rec (fun w=>K .ret (encSt ⟨[(2,oI)],[],0,[]⟩ w)) (fun w=>K (.exit 2) (encSt ⟨[],[],0,[]⟩ w)) v
theorem f792l1O (k:Nat):SumO P Tryz.f92 16378 (f792l1S k):=lp tm (f792T k) ⟨[2],[],[]⟩ SumsOk.nil (by kernel_rfl) fun _ _ _ _=>by kernel_rfl
noncomputable def f792F (k:Nat)(x:D13):Option (Int) :=
 Option.bind (f48F k (x.2.1,0,99)) fun y1 =>
 bif (!y1) then
 some 3
 else
 bif ((x.2.2.1.size:Int)==0) then
 some 1
 else
 bif (decide ((x.2.2.1.size:Int) > 200)) then
 some 2
 else
 bif (decide ((x.2.2.2.1.size:Int) > 200)) then
 some 2
 else
 Option.bind (f756F k x.2.2.1) fun y2 =>
 bif (!y2) then
 some 5
 else
 Option.bind (f756F k x.2.2.2.1) fun y3 =>
 bif (!y3) then
 some 5
 else
 bif (decide ((x.2.2.2.2.1.length:Int) > 9)) then
 some 2
 else
 f792l0 k
 (fun (w7:D152) =>
 some w7.1)
 (fun (w8:D153) =>
 bif (decide ((w8.2.2.2.2.2.1.size:Int) > 32)) then
 some 2
 else
 Option.bind (f756F k w8.2.2.2.2.2.1) fun y9 =>
 bif (!y9) then
 some 5
 else
 bif (decide ((w8.2.2.2.2.2.2.1.length:Int) > 8)) then
 some 2
 else
 f792l1 k
 (fun (w14:Int×Unit) =>
 some w14.1)
 (fun (w15:Unit) =>
 some 0)
 (0,w8.1,w8.2.1,w8.2.2.1,w8.2.2.2.1,w8.2.2.2.2.1,w8.2.2.2.2.2.1,w8.2.2.2.2.2.2.1,()))
 (0,x.1,x.2.1,x.2.2.1,x.2.2.2.1,x.2.2.2.2.1,x.2.2.2.2.2.1,x.2.2.2.2.2.2,())
theorem f792Ok (k:Nat):FnV P 92 [.agg Y10] [.dat (.int .i64)] (f792F k) :=
 fs tm (f792T k) Tryz.func92 (by kernel_rfl) (SumsOk.nil |>.s (f792l1O k) (by kernel_rfl) |>.s (f792l0O k) (by kernel_rfl)) none fun _=>by kernel_rfl
noncomputable def f748T (k:Nat):TB P:=TB.nil |>.u (f792Ok k) |>.u (f791Ok k)
noncomputable def f748p0 {R:Type}(k:Nat)(k0:D154->Option R)(v:List D13×Int×Unit):Option R :=
 bif ((decide (0<=v.2.1))&&(decide (v.2.1<(v.1.length:Int)))) then
 let t1:=(v.1.getD (Int.toNat v.2.1) (ByteArray.empty,(0,(ByteArray.empty,(ByteArray.empty,([],(ByteArray.empty,[])))))))
 Option.bind (f791F k t1.1) fun y2 =>
 bif (!y2) then
 k0 (v.1,v.2.1,7,())
 else
 bif (decide (v.2.1 > 0)) then
 bif ((decide (0<=v.2.1))&&(decide (v.2.1<(v.1.length:Int)))) then
 let t3:=(v.1.getD (Int.toNat v.2.1) (ByteArray.empty,(0,(ByteArray.empty,(ByteArray.empty,([],(ByteArray.empty,[])))))))
 bif ((decide (0<=(IntKind.i64.wrap (v.2.1 - 1))))&&(decide ((IntKind.i64.wrap (v.2.1 - 1))<(v.1.length:Int)))) then
 let t4:=(v.1.getD (Int.toNat (IntKind.i64.wrap (v.2.1 - 1))) (ByteArray.empty,(0,(ByteArray.empty,(ByteArray.empty,([],(ByteArray.empty,[])))))))
 bif (strLt t3.1 t4.1||strEq t3.1 t4.1) then
 k0 (v.1,v.2.1,14,())
 else
 bif ((decide (0<=v.2.1))&&(decide (v.2.1<(v.1.length:Int)))) then
 let t5:=(v.1.getD (Int.toNat v.2.1) (ByteArray.empty,(0,(ByteArray.empty,(ByteArray.empty,([],(ByteArray.empty,[])))))))
 Option.bind (f792F k (t5.1,(t5.2.1,(t5.2.2.1,(t5.2.2.2.1,(t5.2.2.2.2.1,(t5.2.2.2.2.2.1,t5.2.2.2.2.2.2))))))) fun y6 =>
 k0 (v.1,v.2.1,y6,())
 else none
 else none
 else none
 else
 bif ((decide (0<=v.2.1))&&(decide (v.2.1<(v.1.length:Int)))) then
 let t7:=(v.1.getD (Int.toNat v.2.1) (ByteArray.empty,(0,(ByteArray.empty,(ByteArray.empty,([],(ByteArray.empty,[])))))))
 Option.bind (f792F k (t7.1,(t7.2.1,(t7.2.2.1,(t7.2.2.2.1,(t7.2.2.2.2.1,(t7.2.2.2.2.2.1,t7.2.2.2.2.2.2))))))) fun y8 =>
 k0 (v.1,v.2.1,y8,())
 else none
 else none
noncomputable def f748p0S (k:Nat):=partSum ⟨[(0,.one (.ro Y10)),(4,oI)],[],0,[]⟩ ⟨[0,4],[],[]⟩ fun R K v=>f748p0 k (fun w=>K .normal (encSt ⟨[(0,.one (.ro Y10)),(4,oI),(5,oI)],[],0,[]⟩ w)) v
theorem f748p0O (k:Nat):SumO P Tryz.f48 3730 (f748p0S k):=pt tm (f748T k) ⟨[0,2,3,4,5],[],[]⟩ SumsOk.nil fun _ _ _=>by kernel_rfl
noncomputable def f748l1s {R:Type}(k:Nat)(rec:List D13×Int×Unit->Option R)(k0:Int×Int×Unit->Option R)(k1:Unit->Option R)(v:List D13×Int×Unit):Option R :=
 bif (decide (v.2.1<(v.1.length:Int))) then
 f748p0 k
 (fun (w9:D154) =>
 bif (w9.2.2.1 !=0) then
 k0 (w9.2.1,w9.2.2.1,())
 else
 rec (w9.1,(IntKind.i64.wrap (w9.2.1+1)),()))
 (v.1,v.2.1,())
 else
 k1 (())
noncomputable def f748l1 {R:Type}(k:Nat)(k0:Int×Int×Unit->Option R)(k1:Unit->Option R)(v:List D13×Int×Unit):Option R:=iterS (fun rec v=>f748l1s k rec k0 k1 v) k v
noncomputable def f748l1S (k:Nat):=loopSum ⟨[(0,.one (.ro Y10)),(4,oI)],[],0,[]⟩ ⟨[0,4],[],[]⟩ k fun R rec K v=>f748l1s k rec (fun w=>K .ret (encSt ⟨[(2,oI),(3,oI)],[],0,[]⟩ w)) (fun w=>K (.exit 0) (encSt ⟨[],[],0,[]⟩ w)) v
theorem f748l1O (k:Nat):SumO P Tryz.f48 58 (f748l1S k):=lp tm (f748T k) ⟨[2,3],[],[]⟩ (SumsOk.nil |>.s (f748p0O k) (by kernel_rfl)) (by kernel_rfl) fun _ _ _ _=>by kernel_rfl
noncomputable def f748F (k:Nat)(x:(List D13)):Option (Int×Int) :=
 bif (decide ((x.length:Int) > 20)) then
 some (0,2)
 else
 f748l1 k
 (fun (w10:Int×Int×Unit) =>
 some (w10.1,w10.2.1))
 (fun (w11:Unit) =>
 some (0,0))
 (x,0,())
theorem f748Ok (k:Nat):FnV P 48 [.dat (.slice Y10)] [.dat (.int .i64),.dat (.int .i64)] (f748F k) :=
 fs tm (f748T k) Tryz.func48 (by kernel_rfl) (SumsOk.nil |>.s (f748l1O k) (by kernel_rfl) |>.s (f748p0O k) (by kernel_rfl)) none fun _=>by kernel_rfl
noncomputable def f785T (k:Nat):TB P:=TB.nil |>.u (f814Ok k) |>.u (f813Ok k) |>.u (f48Ok k)
noncomputable def f785p0 {R:Type}(k:Nat)(k0:ByteArray×Int×Unit->Option R)(k1:D148->Option R)(v:ByteArray×Int×Unit):Option R :=
 bif ((decide (0<=v.2.1))&&(decide (v.2.1<(v.1.size:Int)))) then
 Option.bind (f813F k (bt v.1 v.2.1)) fun y2 =>
 bif y2 then
 k0 (v.1,v.2.1,())
 else
 bif ((bt v.1 v.2.1)==36) then
 k0 (v.1,v.2.1,())
 else
 bif ((bt v.1 v.2.1)==35) then
 k0 (v.1,v.2.1,())
 else
 bif (!((bt v.1 v.2.1)==64)) then
 bif (v.2.1==0) then
 k1 (v.1,false,v.2.1,())
 else
 Option.bind (f814F k (bt v.1 v.2.1)) fun y3 =>
 bif (!y3) then
 bif ((bt v.1 v.2.1) !=95) then
 bif ((bt v.1 v.2.1) !=46) then
 k1 (v.1,false,v.2.1,())
 else
 k0 (v.1,v.2.1,())
 else
 k0 (v.1,v.2.1,())
 else
 k0 (v.1,v.2.1,())
 else
 k0 (v.1,v.2.1,())
 else none
noncomputable def f785p0S (k:Nat):=partSum ⟨[(0,oS),(3,oI)],[],0,[]⟩ ⟨[0,3],[],[]⟩ fun R K v=>f785p0 k (fun w=>K .normal (encSt ⟨[(0,oS),(3,oI)],[],0,[]⟩ w)) (fun w=>K .ret (encSt ⟨[(0,oS),(2,oB),(3,oI)],[],0,[]⟩ w)) v
theorem f785p0O (k:Nat):SumO P Tryz.f85 466 (f785p0S k):=pt tm (f785T k) ⟨[0,2,3],[],[]⟩ SumsOk.nil fun _ _ _=>by kernel_rfl
noncomputable def f785l1s {R:Type}(k:Nat)(rec:ByteArray×Int×Unit->Option R)(k0:Bool×Unit->Option R)(k1:Unit->Option R)(v:ByteArray×Int×Unit):Option R :=
 bif (decide (v.2.1<(v.1.size:Int))) then
 f785p0 k
 (fun (w4:ByteArray×Int×Unit) =>
 rec (w4.1,(IntKind.i64.wrap (w4.2.1+1)),()))
 (fun (w5:D148) =>
 k0 (w5.2.1,()))
 (v.1,v.2.1,())
 else
 k1 (())
noncomputable def f785l1 {R:Type}(k:Nat)(k0:Bool×Unit->Option R)(k1:Unit->Option R)(v:ByteArray×Int×Unit):Option R:=iterS (fun rec v=>f785l1s k rec k0 k1 v) k v
noncomputable def f785l1S (k:Nat):=loopSum ⟨[(0,oS),(3,oI)],[],0,[]⟩ ⟨[0,3],[],[]⟩ k fun R rec K v=>f785l1s k rec (fun w=>K .ret (encSt ⟨[(2,oB)],[],0,[]⟩ w)) (fun w=>K (.exit 0) (encSt ⟨[],[],0,[]⟩ w)) v
theorem f785l1O (k:Nat):SumO P Tryz.f85 58 (f785l1S k):=lp tm (f785T k) ⟨[2],[],[]⟩ (SumsOk.nil |>.s (f785p0O k) (by kernel_rfl)) (by kernel_rfl) fun _ _ _ _=>by kernel_rfl
noncomputable def f785F (k:Nat)(x:ByteArray):Option (Bool) :=
 Option.bind (f48F k ((x.size:Int),1,10)) fun y1 =>
 bif (!y1) then
 some false
 else
 f785l1 k
 (fun (w6:Bool×Unit) =>
 some w6.1)
 (fun (w7:Unit) =>
 some true)
 (x,0,())
theorem f785Ok (k:Nat):FnV P 85 [.dat .str] [.dat .bool] (f785F k) :=
 fs tm (f785T k) Tryz.func85 (by kernel_rfl) (SumsOk.nil |>.s (f785l1O k) (by kernel_rfl) |>.s (f785p0O k) (by kernel_rfl)) none fun _=>by kernel_rfl
noncomputable def f786T (k:Nat):TB P:=TB.nil |>.u (f791Ok k) |>.u (f48Ok k) |>.u (f756Ok k) |>.u (f731Ok k)
noncomputable def f786p0 {R:Type}(k:Nat)(k0:D155->Option R)(k1:D80->Option R)(v:D80):Option R :=
 bif (!strEq v.2.2.2.2.1 ByteArray.empty) then
 Option.bind (f791F k v.2.2.2.2.1) fun y2 =>
 bif (!y2) then
 k0 (7,v.1,v.2.1,v.2.2.1,v.2.2.2.1,v.2.2.2.2.1,v.2.2.2.2.2.1,v.2.2.2.2.2.2.1,v.2.2.2.2.2.2.2.1,v.2.2.2.2.2.2.2.2.1,v.2.2.2.2.2.2.2.2.2.1,())
 else
 k1 (v.1,v.2.1,v.2.2.1,v.2.2.2.1,v.2.2.2.2.1,v.2.2.2.2.2.1,v.2.2.2.2.2.2.1,v.2.2.2.2.2.2.2.1,v.2.2.2.2.2.2.2.2.1,v.2.2.2.2.2.2.2.2.2.1,())
 else
 k1 (v.1,v.2.1,v.2.2.1,v.2.2.2.1,v.2.2.2.2.1,v.2.2.2.2.2.1,v.2.2.2.2.2.2.1,v.2.2.2.2.2.2.2.1,v.2.2.2.2.2.2.2.2.1,v.2.2.2.2.2.2.2.2.2.1,())
noncomputable def f786p0S (k:Nat):=partSum ⟨[(2,.one (.ptr 0 0)),(3,.one (.ptr 1 0))],[(0,.var 25 [.ro Y10,.ro (.pair .str Y5)]),(1,.var 42 [.int .i64,.int .i64,.str,.str,.str,.bool,.bool,.int .i64])],2,[]⟩ ⟨[2,3],[],[]⟩ fun R K v=>f786p0 k (fun w=>K .ret (encSt ⟨[(2,.one (.ptr 0 0)),(3,.one (.ptr 1 0)),(4,oI)],[(0,.var 25 [.ro Y10,.ro (.pair .str Y5)]),(1,.var 42 [.int .i64,.int .i64,.str,.str,.str,.bool,.bool,.int .i64])],2,[]⟩ w)) (fun w=>K .normal (encSt ⟨[(2,.one (.ptr 0 0)),(3,.one (.ptr 1 0))],[(0,.var 25 [.ro Y10,.ro (.pair .str Y5)]),(1,.var 42 [.int .i64,.int .i64,.str,.str,.str,.bool,.bool,.int .i64])],2,[]⟩ w)) v
theorem f786p0O (k:Nat):SumO P Tryz.f86 14 (f786p0S k):=pt tm (f786T k) ⟨[2,3,4],[],[]⟩ SumsOk.nil fun _ _ _=>by kernel_rfl
noncomputable def f786p1 {R:Type}(k:Nat)(k0:D156->Option R)(k1:D157->Option R)(v:D80):Option R :=
 bif (!strEq v.2.2.2.2.2.2.1 ByteArray.empty) then
 Option.bind (f731F k ((v.1,v.2.1),v.2.2.2.2.2.2.1)) fun y6 =>
 bif (y6==(-1)) then
 k0 (11,v.2.2.1,v.2.2.2.1,v.2.2.2.2.1,v.2.2.2.2.2.1,v.2.2.2.2.2.2.1,v.2.2.2.2.2.2.2.1,v.2.2.2.2.2.2.2.2.1,v.2.2.2.2.2.2.2.2.2.1,())
 else
 k1 (v.2.2.1,v.2.2.2.1,v.2.2.2.2.1,v.2.2.2.2.2.1,v.2.2.2.2.2.2.1,v.2.2.2.2.2.2.2.1,v.2.2.2.2.2.2.2.2.1,v.2.2.2.2.2.2.2.2.2.1,())
 else
 k1 (v.2.2.1,v.2.2.2.1,v.2.2.2.2.1,v.2.2.2.2.2.1,v.2.2.2.2.2.2.1,v.2.2.2.2.2.2.2.1,v.2.2.2.2.2.2.2.2.1,v.2.2.2.2.2.2.2.2.2.1,())
noncomputable def f786p1S (k:Nat):=partSum ⟨[(2,.one (.ptr 0 0)),(3,.one (.ptr 1 0))],[(0,.var 25 [.ro Y10,.ro (.pair .str Y5)]),(1,.var 42 [.int .i64,.int .i64,.str,.str,.str,.bool,.bool,.int .i64])],2,[]⟩ ⟨[2,3],[],[]⟩ fun R K v=>f786p1 k (fun w=>K .ret (encSt ⟨[(3,.one (.ptr 0 0)),(4,oI)],[(0,.var 42 [.int .i64,.int .i64,.str,.str,.str,.bool,.bool,.int .i64])],1,[]⟩ w)) (fun w=>K .normal (encSt ⟨[(3,.one (.ptr 0 0))],[(0,.var 42 [.int .i64,.int .i64,.str,.str,.str,.bool,.bool,.int .i64])],1,[]⟩ w)) v
theorem f786p1O (k:Nat):SumO P Tryz.f86 254 (f786p1S k):=pt tm (f786T k) ⟨[3,4],[],[]⟩ SumsOk.nil fun _ _ _=>by kernel_rfl
noncomputable def f786p2 {R:Type}(k:Nat)(k0:D156->Option R)(k1:D157->Option R)(v:D157):Option R :=
 bif (strEq v.2.2.2.2.1 ByteArray.empty) then
 bif (v.2.1 !=0) then
 k0 (7,v.1,v.2.1,v.2.2.1,v.2.2.2.1,v.2.2.2.2.1,v.2.2.2.2.2.1,v.2.2.2.2.2.2.1,v.2.2.2.2.2.2.2.1,())
 else
 k1 (v.1,v.2.1,v.2.2.1,v.2.2.2.1,v.2.2.2.2.1,v.2.2.2.2.2.1,v.2.2.2.2.2.2.1,v.2.2.2.2.2.2.2.1,())
 else
 k1 (v.1,v.2.1,v.2.2.1,v.2.2.2.1,v.2.2.2.2.1,v.2.2.2.2.2.1,v.2.2.2.2.2.2.1,v.2.2.2.2.2.2.2.1,())
noncomputable def f786p2S (k:Nat):=partSum ⟨[(3,.one (.ptr 0 0))],[(0,.var 42 [.int .i64,.int .i64,.str,.str,.str,.bool,.bool,.int .i64])],1,[]⟩ ⟨[3],[],[]⟩ fun R K v=>f786p2 k (fun w=>K .ret (encSt ⟨[(3,.one (.ptr 0 0)),(4,oI)],[(0,.var 42 [.int .i64,.int .i64,.str,.str,.str,.bool,.bool,.int .i64])],1,[]⟩ w)) (fun w=>K .normal (encSt ⟨[(3,.one (.ptr 0 0))],[(0,.var 42 [.int .i64,.int .i64,.str,.str,.str,.bool,.bool,.int .i64])],1,[]⟩ w)) v
theorem f786p2O (k:Nat):SumO P Tryz.f86 510 (f786p2S k):=pt tm (f786T k) ⟨[3,4],[],[]⟩ SumsOk.nil fun _ _ _=>by kernel_rfl
noncomputable def f786p3 {R:Type}(k:Nat)(k0:Int×Unit->Option R)(k1:Unit->Option R)(v:D158):Option R :=
 bif v.2.2.2.2.2.2.2.1 then
 bif (v.2.2.1 !=1) then
 k0 (5,())
 else
 bif (v.2.2.2.2.2.2.2.2.1 !=0) then
 bif (!v.1) then
 k0 (5,())
 else
 bif v.1 then
 bif (!strEq v.2.2.2.1 ByteArray.empty) then
 k0 (5,())
 else
 Option.bind (f48F k (v.2.2.2.2.2.2.2.2.1,1,1000000)) fun y11 =>
 bif (!y11) then
 k0 (5,())
 else
 k1 (())
 else
 k1 (())
 else
 bif v.1 then
 bif (!strEq v.2.2.2.1 ByteArray.empty) then
 k0 (5,())
 else
 Option.bind (f48F k (v.2.2.2.2.2.2.2.2.1,1,1000000)) fun y12 =>
 bif (!y12) then
 k0 (5,())
 else
 k1 (())
 else
 k1 (())
 else
 bif (v.2.2.2.2.2.2.2.2.1 !=0) then
 bif (!v.1) then
 k0 (5,())
 else
 bif v.1 then
 bif (!strEq v.2.2.2.1 ByteArray.empty) then
 k0 (5,())
 else
 Option.bind (f48F k (v.2.2.2.2.2.2.2.2.1,1,1000000)) fun y13 =>
 bif (!y13) then
 k0 (5,())
 else
 k1 (())
 else
 k1 (())
 else
 bif v.1 then
 bif (!strEq v.2.2.2.1 ByteArray.empty) then
 k0 (5,())
 else
 Option.bind (f48F k (v.2.2.2.2.2.2.2.2.1,1,1000000)) fun y14 =>
 bif (!y14) then
 k0 (5,())
 else
 k1 (())
 else
 k1 (())
noncomputable def f786p3S (k:Nat):=partSum ⟨[(3,.one (.ptr 0 0)),(5,oB)],[(0,.var 42 [.int .i64,.int .i64,.str,.str,.str,.bool,.bool,.int .i64])],1,[]⟩ ⟨[3,5],[],[]⟩ fun R K v=>f786p3 k (fun w=>K .ret (encSt ⟨[(4,oI)],[],0,[]⟩ w)) (fun w=>K .normal (encSt ⟨[],[],0,[]⟩ w)) v
theorem f786p3O (k:Nat):SumO P Tryz.f86 2046 (f786p3S k):=pt tm (f786T k) ⟨[4],[],[]⟩ SumsOk.nil fun _ _ _=>by kernel_rfl
noncomputable def f786F (k:Nat)(x:D81):Option (Int) :=
 Option.bind (f48F k (x.2.2.1,0,2)) fun y1 =>
 bif (!y1) then
 some 4
 else
 f786p0 k
 (fun (w3:D155) =>
 some w3.1)
 (fun (w4:D80) =>
 bif (strEq w4.2.2.2.2.2.1 ByteArray.empty) then
 some 1
 else
 bif (decide ((w4.2.2.2.2.2.1.size:Int) > 256)) then
 some 2
 else
 Option.bind (f756F k w4.2.2.2.2.2.1) fun y5 =>
 bif (!y5) then
 some 5
 else
 f786p1 k
 (fun (w7:D156) =>
 some w7.1)
 (fun (w8:D157) =>
 f786p2 k
 (fun (w9:D156) =>
 some w9.1)
 (fun (w10:D157) =>
 f786p3 k
 (fun (w15:Int×Unit) =>
 some w15.1)
 (fun (w16:Unit) =>
 some 0)
 ((w10.2.1==2),w10.1,w10.2.1,w10.2.2.1,w10.2.2.2.1,w10.2.2.2.2.1,w10.2.2.2.2.2.1,w10.2.2.2.2.2.2.1,w10.2.2.2.2.2.2.2.1,()))
 (w8.1,w8.2.1,w8.2.2.1,w8.2.2.2.1,w8.2.2.2.2.1,w8.2.2.2.2.2.1,w8.2.2.2.2.2.2.1,w8.2.2.2.2.2.2.2.1,()))
 (w4.1,w4.2.1,w4.2.2.1,w4.2.2.2.1,w4.2.2.2.2.1,w4.2.2.2.2.2.1,w4.2.2.2.2.2.2.1,w4.2.2.2.2.2.2.2.1,w4.2.2.2.2.2.2.2.2.1,w4.2.2.2.2.2.2.2.2.2.1,()))
 (x.1.1,x.1.2,x.2.1,x.2.2.1,x.2.2.2.1,x.2.2.2.2.1,x.2.2.2.2.2.1,x.2.2.2.2.2.2.1,x.2.2.2.2.2.2.2.1,x.2.2.2.2.2.2.2.2,())
theorem f786Ok (k:Nat):FnV P 86 [.agg Y11,.agg Y3] [.dat (.int .i64)] (f786F k) :=
 fs tm (f786T k) Tryz.func86 (by kernel_rfl) (SumsOk.nil |>.s (f786p3O k) (by kernel_rfl) |>.s (f786p2O k) (by kernel_rfl) |>.s (f786p1O k) (by kernel_rfl) |>.s (f786p0O k) (by kernel_rfl)) none fun _=>by kernel_rfl
noncomputable def f741T (k:Nat):TB P:=TB.nil |>.u (f786Ok k) |>.u (f785Ok k) |>.u (f48Ok k) |>.u (f748Ok k)
noncomputable def f741p0 {R:Type}(k:Nat)(k0:D159->Option R)(k1:D28->Option R)(v:D28):Option R :=
 bif (decide (v.1 > 0)) then
 bif ((decide (0<=(IntKind.i64.wrap (v.1 - 1))))&&(decide ((IntKind.i64.wrap (v.1 - 1))<(v.2.2.1.length:Int)))) then
 let t4:=(v.2.2.1.getD (Int.toNat (IntKind.i64.wrap (v.1 - 1))) (ByteArray.empty,(0,(false,(0,[])))))
 bif (strLt v.2.2.2.1 t4.1||strEq v.2.2.2.1 t4.1) then
 k0 (v.1,14,v.1,v.2.1,v.2.2.1,v.2.2.2.1,v.2.2.2.2.1,v.2.2.2.2.2.1,v.2.2.2.2.2.2.1,v.2.2.2.2.2.2.2.1,())
 else
 k1 (v.1,v.2.1,v.2.2.1,v.2.2.2.1,v.2.2.2.2.1,v.2.2.2.2.2.1,v.2.2.2.2.2.2.1,v.2.2.2.2.2.2.2.1,())
 else none
 else
 k1 (v.1,v.2.1,v.2.2.1,v.2.2.2.1,v.2.2.2.2.1,v.2.2.2.2.2.1,v.2.2.2.2.2.2.1,v.2.2.2.2.2.2.2.1,())
noncomputable def f741p0S (k:Nat):=partSum ⟨[(1,.one (.ptr 0 0)),(6,oI),(7,.one (.ptr 1 0))],[(0,.var 25 [.ro Y10,.ro (.pair .str Y5)]),(1,.var 69 [.str,.int .i64,.bool,.int .i64,.ro Y3])],2,[]⟩ ⟨[1,6,7],[],[]⟩ fun R K v=>f741p0 k (fun w=>K .ret (encSt ⟨[(1,.one (.ptr 0 0)),(2,oI),(3,oI),(6,oI),(7,.one (.ptr 1 0))],[(0,.var 25 [.ro Y10,.ro (.pair .str Y5)]),(1,.var 69 [.str,.int .i64,.bool,.int .i64,.ro Y3])],2,[]⟩ w)) (fun w=>K .normal (encSt ⟨[(1,.one (.ptr 0 0)),(6,oI),(7,.one (.ptr 1 0))],[(0,.var 25 [.ro Y10,.ro (.pair .str Y5)]),(1,.var 69 [.str,.int .i64,.bool,.int .i64,.ro Y3])],2,[]⟩ w)) v
theorem f741p0O (k:Nat):SumO P Tryz.f41 15654 (f741p0S k):=pt tm (f741T k) ⟨[1,2,3,6,7],[],[]⟩ SumsOk.nil fun _ _ _=>by kernel_rfl
noncomputable def f741l1s {R:Type}(k:Nat)(rec:D159->Option R)(k0:D160->Option R)(k1:D112->Option R)(v:D159):Option R :=
 bif (decide (v.2.2.1<(v.2.2.2.2.2.2.2.2.2.1.length:Int))) then
 bif ((decide (0<=v.2.2.1))&&(decide (v.2.2.1<(v.2.2.2.2.2.2.2.2.2.1.length:Int)))) then
 let t9:=(v.2.2.2.2.2.2.2.2.2.1.getD (Int.toNat v.2.2.1) (0,(0,(ByteArray.empty,(ByteArray.empty,(ByteArray.empty,(false,(false,0))))))))
 Option.bind (f48F k (t9.1,(IntKind.i64.wrap (v.2.1+1)),(IntKind.i64.wrap (v.2.2.2.2.2.2.2.2.1 - 1)))) fun y10 =>
 bif (!y10) then
 k0 (v.1,14,v.1,v.2.2.2.1,v.2.2.2.2.1,())
 else
 bif ((decide (0<=v.2.2.1))&&(decide (v.2.2.1<(v.2.2.2.2.2.2.2.2.2.1.length:Int)))) then
 let t11:=(v.2.2.2.2.2.2.2.2.2.1.getD (Int.toNat v.2.2.1) (0,(0,(ByteArray.empty,(ByteArray.empty,(ByteArray.empty,(false,(false,0))))))))
 Option.bind (f786F k ((v.2.2.2.1,v.2.2.2.2.1),(t11.1,(t11.2.1,(t11.2.2.1,(t11.2.2.2.1,(t11.2.2.2.2.1,(t11.2.2.2.2.2.1,(t11.2.2.2.2.2.2.1,t11.2.2.2.2.2.2.2))))))))) fun y12 =>
 bif (y12 !=0) then
 k0 (v.1,y12,v.1,v.2.2.2.1,v.2.2.2.2.1,())
 else
 bif ((decide (0<=v.2.2.1))&&(decide (v.2.2.1<(v.2.2.2.2.2.2.2.2.2.1.length:Int)))) then
 let t13:=(v.2.2.2.2.2.2.2.2.2.1.getD (Int.toNat v.2.2.1) (0,(0,(ByteArray.empty,(ByteArray.empty,(ByteArray.empty,(false,(false,0))))))))
 rec (v.1,t13.1,(IntKind.i64.wrap (v.2.2.1+1)),v.2.2.2.1,v.2.2.2.2.1,v.2.2.2.2.2.1,v.2.2.2.2.2.2.1,v.2.2.2.2.2.2.2.1,v.2.2.2.2.2.2.2.2.1,v.2.2.2.2.2.2.2.2.2.1,())
 else none
 else none
 else none
 else
 k1 (v.1,v.2.2.2.1,v.2.2.2.2.1,())
noncomputable def f741l1 {R:Type}(k:Nat)(k0:D160->Option R)(k1:D112->Option R)(v:D159):Option R:=iterS (fun rec v=>f741l1s k rec k0 k1 v) k v
noncomputable def f741l1S (k:Nat):=loopSum ⟨[(1,.one (.ptr 0 0)),(6,oI),(7,.one (.ptr 1 0)),(8,oI),(9,oI)],[(0,.var 25 [.ro Y10,.ro (.pair .str Y5)]),(1,.var 69 [.str,.int .i64,.bool,.int .i64,.ro Y3])],2,[]⟩ ⟨[1,6,7,8,9],[],[]⟩ k fun R rec K v=>f741l1s k rec (fun w=>K .ret (encSt ⟨[(1,.one (.ptr 0 0)),(2,oI),(3,oI),(6,oI)],[(0,.var 25 [.ro Y10,.ro (.pair .str Y5)])],1,[]⟩ w)) (fun w=>K (.exit 2) (encSt ⟨[(1,.one (.ptr 0 0)),(6,oI)],[(0,.var 25 [.ro Y10,.ro (.pair .str Y5)])],1,[]⟩ w)) v
theorem f741l1O (k:Nat):SumO P Tryz.f41 500990 (f741l1S k):=lp tm (f741T k) ⟨[1,2,3,6],[],[]⟩ SumsOk.nil (by kernel_rfl) fun _ _ _ _=>by kernel_rfl
noncomputable def f741l2s {R:Type}(k:Nat)(rec:D112->Option R)(k0:Int×Int×Unit->Option R)(k1:Unit->Option R)(v:D112):Option R :=
 bif (decide (v.1<(v.2.2.1.length:Int))) then
 bif ((decide (0<=v.1))&&(decide (v.1<(v.2.2.1.length:Int)))) then
 let t2:=(v.2.2.1.getD (Int.toNat v.1) (ByteArray.empty,(0,(false,(0,[])))))
 Option.bind (f785F k t2.1) fun y3 =>
 bif (!y3) then
 k0 (v.1,7,())
 else
 f741p0 k
 (fun (w5:D159) =>
 k0 (w5.1,w5.2.1,()))
 (fun (w6:D28) =>
 Option.bind (f48F k (w6.2.2.2.2.1,1,12)) fun y7 =>
 bif (!y7) then
 k0 (w6.1,3,())
 else
 Option.bind (f48F k (w6.2.2.2.2.2.2.1,1,1000000)) fun y8 =>
 bif (!y8) then
 k0 (w6.1,3,())
 else
 bif (decide ((w6.2.2.2.2.2.2.2.1.length:Int) > w6.2.2.2.2.1)) then
 k0 (w6.1,2,())
 else
 f741l1 k
 (fun (w14:D160) =>
 k0 (w14.1,w14.2.1,()))
 (fun (w15:D112) =>
 rec ((IntKind.i64.wrap (w15.1+1)),w15.2.1,w15.2.2.1,()))
 (w6.1,0,0,w6.2.1,w6.2.2.1,w6.2.2.2.1,w6.2.2.2.2.1,w6.2.2.2.2.2.1,w6.2.2.2.2.2.2.1,w6.2.2.2.2.2.2.2.1,()))
 (v.1,v.2.1,v.2.2.1,t2.1,t2.2.1,t2.2.2.1,t2.2.2.2.1,t2.2.2.2.2,())
 else none
 else
 k1 (())
noncomputable def f741l2 {R:Type}(k:Nat)(k0:Int×Int×Unit->Option R)(k1:Unit->Option R)(v:D112):Option R:=iterS (fun rec v=>f741l2s k rec k0 k1 v) k v
noncomputable def f741l2S (k:Nat):=loopSum ⟨[(1,.one (.ptr 0 0)),(6,oI)],[(0,.var 25 [.ro Y10,.ro (.pair .str Y5)])],1,[]⟩ ⟨[1,6],[],[]⟩ k fun R rec K v=>f741l2s k rec (fun w=>K .ret (encSt ⟨[(2,oI),(3,oI)],[],0,[]⟩ w)) (fun w=>K (.exit 0) (encSt ⟨[],[],0,[]⟩ w)) v
theorem f741l2O (k:Nat):SumO P Tryz.f41 122 (f741l2S k):=lp tm (f741T k) ⟨[2,3],[],[]⟩ (SumsOk.nil |>.s (f741l1O k) (by kernel_rfl) |>.s (f741p0O k) (by kernel_rfl)) (by kernel_rfl) fun _ _ _ _=>by kernel_rfl
noncomputable def f741F (k:Nat)(x:D14):Option (Int×Int) :=
 Option.bind (f748F k x.1) fun y1 =>
 bif (y1.2 !=0) then
 some (y1.1,y1.2)
 else
 bif (decide ((x.2.length:Int) > 6)) then
 some (0,2)
 else
 f741l2 k
 (fun (w16:Int×Int×Unit) =>
 some (w16.1,w16.2.1))
 (fun (w17:Unit) =>
 some (0,0))
 (0,x.1,x.2,())
theorem f741Ok (k:Nat):FnV P 41 [.agg Y11] [.dat (.int .i64),.dat (.int .i64)] (f741F k) :=
 fs tm (f741T k) Tryz.func41 (by kernel_rfl) (SumsOk.nil |>.s (f741l2O k) (by kernel_rfl) |>.s (f741l1O k) (by kernel_rfl) |>.s (f741p0O k) (by kernel_rfl)) none fun _=>by kernel_rfl
noncomputable def f727T (k:Nat):TB P:=TB.nil |>.u (f741Ok k)
noncomputable def f727F (k:Nat)(x:D14):Option (Int) :=
 Option.bind (f741F k (x.1,x.2)) fun y1 =>
 some y1.2
theorem f727Ok (k:Nat):FnV P 27 [.agg Y11] [.dat (.int .i64)] (f727F k) :=
 fs tm (f727T k) Tryz.func27 (by kernel_rfl) SumsOk.nil none fun _=>by kernel_rfl
noncomputable def f69F (k:Nat)(x:Bool):Option (Int) :=
 bif x then
 some 1
 else
 some 0
theorem f69Ok (k:Nat):FnV P 32 [.dat .bool] [.dat (.int .i64)] (f69F k) :=
 fs tm TB.nil Tryz.func32 (by kernel_rfl) SumsOk.nil none fun _=>by kernel_rfl
noncomputable def f742T (k:Nat):TB P:=TB.nil |>.u (f69Ok k) |>.u (f731Ok k) |>.u (f727Ok k)
noncomputable def f742F (k:Nat)(x:D14×ByteArray):Option (Int) :=
 Option.bind (f727F k (x.1.1,x.1.2)) fun y1 =>
 bif (y1 !=0) then
 some y1
 else
 Option.bind (f731F k ((x.1.1,x.1.2),x.2)) fun y2 =>
 Option.bind (f69F k (y2==(-1))) fun y3 =>
 some (IntKind.i64.wrap (11*y3))
theorem f742Ok (k:Nat):FnV P 42 [.agg Y11,.dat .str] [.dat (.int .i64)] (f742F k) :=
 fs tm (f742T k) Tryz.func42 (by kernel_rfl) SumsOk.nil none fun _=>by kernel_rfl
noncomputable def f780T (k:Nat):TB P:=TB.nil |>.u (f748Ok k)
noncomputable def f780F (k:Nat)(x:(List D13)):Option (Int) :=
 Option.bind (f748F k x) fun y1 =>
 some y1.2
theorem f780Ok (k:Nat):FnV P 80 [.dat (.slice Y10)] [.dat (.int .i64)] (f780F k) :=
 fs tm (f780T k) Tryz.func80 (by kernel_rfl) SumsOk.nil none fun _=>by kernel_rfl
noncomputable def f31T (k:Nat):TB P:=TB.nil |>.u (f69Ok k)
noncomputable def f31F (k:Nat)(x:(Int×(Int×Int))):Option (Int) :=
 bif (x.1==1) then
 let t1:=(IntKind.i64.wrap ((IntKind.i64.wrap (Int.tdiv x.2.1 2))+1))
 some t1
 else
 bif (x.1==3) then
 Option.bind (f69F k (x.2.1==9)) fun y2 =>
 some (IntKind.i64.wrap (2+(IntKind.i64.wrap (2*y2))))
 else
 bif (x.1==4) then
 some 16
 else
 some x.2.1
theorem f31Ok (k:Nat):FnV P 128 [.agg (.pair (.int .i64) Y6)] [.dat (.int .i64)] (f31F k) :=
 fs tm (f31T k) Tryz.func128 (by kernel_rfl) SumsOk.nil none fun _=>by kernel_rfl
noncomputable def f68T (k:Nat):TB P:=TB.nil |>.u (f48Ok k)
noncomputable def f68F (k:Nat)(x:Int):Option (Bool) :=
 Option.bind (f48F k (x,1,3)) fun y1 =>
 some y1
theorem f68Ok (k:Nat):FnV P 165 [.dat (.int .i64)] [.dat .bool] (f68F k) :=
 fs tm (f68T k) Tryz.func165 (by kernel_rfl) SumsOk.nil none fun _=>by kernel_rfl
noncomputable def f27T (k:Nat):TB P:=TB.nil |>.u (f68Ok k) |>.u (f48Ok k) |>.u (f69Ok k)
noncomputable def f27p0 {R:Type}(k:Nat)(k0:D17->Option R)(v:D18):Option R :=
 bif (v.2.1==1) then
 k0 (v.1,v.2.1,(v.2.1==1),v.2.2.1,v.2.2.2.1,v.2.2.2.2.1,())
 else
 k0 (v.1,v.2.1,(v.2.1==2),v.2.2.1,v.2.2.2.1,v.2.2.2.2.1,())
noncomputable def f27p0S (k:Nat):=partSum ⟨[(1,.one (.ptr 0 0)),(3,oB),(13,oI)],[(0,.var 115 [.int .i64,.int .i64,.int .i64])],1,[]⟩ ⟨[1,3,13],[],[]⟩ fun R K v=>f27p0 k (fun w=>K .normal (encSt ⟨[(1,.one (.ptr 0 0)),(3,oB),(13,oI),(19,oB)],[(0,.var 115 [.int .i64,.int .i64,.int .i64])],1,[]⟩ w)) v
theorem f27p0O (k:Nat):SumO P Tryz.f142 982 (f27p0S k):=pt tm (f27T k) ⟨[1,2,3,13,19],[],[]⟩ SumsOk.nil fun _ _ _=>by kernel_rfl
noncomputable def f27p1 {R:Type}(k:Nat)(k0:D19->Option R)(v:D19):Option R :=
 bif (v.2.1==0) then
 Option.bind (f48F k (v.2.2.1,1,256)) fun y2 =>
 k0 (y2,v.2.1,v.2.2.1,v.2.2.2.1,())
 else
 f27p0 k
 (fun (w3:D17) =>
 bif w3.2.2.1 then
 Option.bind (f48F k (w3.2.2.2.2.1,1,15)) fun y4 =>
 k0 (y4,w3.2.2.2.1,w3.2.2.2.2.1,w3.2.2.2.2.2.1,())
 else
 bif (w3.2.1==3) then
 bif (w3.2.2.2.2.1==4) then
 k0 (true,w3.2.2.2.1,w3.2.2.2.2.1,w3.2.2.2.2.2.1,())
 else
 k0 ((w3.2.2.2.2.1==9),w3.2.2.2.1,w3.2.2.2.2.1,w3.2.2.2.2.2.1,())
 else
 k0 (w3.1,w3.2.2.2.1,w3.2.2.2.2.1,w3.2.2.2.2.2.1,()))
 (v.1,v.2.1,v.2.1,v.2.2.1,v.2.2.2.1,())
noncomputable def f27p1S (k:Nat):=partSum ⟨[(1,.one (.ptr 0 0)),(3,oB)],[(0,.var 115 [.int .i64,.int .i64,.int .i64])],1,[]⟩ ⟨[1,3],[],[]⟩ fun R K v=>f27p1 k (fun w=>K .normal (encSt ⟨[(1,.one (.ptr 0 0)),(3,oB)],[(0,.var 115 [.int .i64,.int .i64,.int .i64])],1,[]⟩ w)) v
theorem f27p1O (k:Nat):SumO P Tryz.f142 30 (f27p1S k):=pt tm (f27T k) ⟨[1,2,3],[],[]⟩ (SumsOk.nil |>.s (f27p0O k) (by kernel_rfl)) fun _ _ _=>by kernel_rfl
noncomputable def f27p2 {R:Type}(k:Nat)(k0:D150->Option R)(v:D150):Option R :=
 Option.bind (f68F k v.2.1) fun y6 =>
 bif y6 then
 k0 (v.2.2.1,v.2.1,v.2.2.1,v.2.2.2.1,())
 else
 k0 (v.1,v.2.1,v.2.2.1,v.2.2.2.1,())
noncomputable def f27p2S (k:Nat):=partSum ⟨[(1,.one (.ptr 0 0)),(4,oI)],[(0,.var 115 [.int .i64,.int .i64,.int .i64])],1,[]⟩ ⟨[1,4],[],[]⟩ fun R K v=>f27p2 k (fun w=>K .normal (encSt ⟨[(1,.one (.ptr 0 0)),(4,oI)],[(0,.var 115 [.int .i64,.int .i64,.int .i64])],1,[]⟩ w)) v
theorem f27p2O (k:Nat):SumO P Tryz.f142 254 (f27p2S k):=pt tm (f27T k) ⟨[1,2,4],[],[]⟩ SumsOk.nil fun _ _ _=>by kernel_rfl
noncomputable def f27F (k:Nat)(x:(Int×(Int×Int))):Option (Int) :=
 Option.bind (f48F k (x.1,0,4)) fun y1 =>
 bif (!y1) then
 some 4
 else
 f27p1 k
 (fun (w5:D19) =>
 bif (!w5.1) then
 some 18
 else
 f27p2 k
 (fun (w7:D150) =>
 Option.bind (f48F k (w7.2.2.2.1,0,w7.1)) fun y8 =>
 Option.bind (f69F k (!y8)) fun y9 =>
 some (IntKind.i64.wrap (3*y9)))
 (0,w5.2.1,w5.2.2.1,w5.2.2.2.1,()))
 ((x.2.1==0),x.1,x.2.1,x.2.2,())
theorem f27Ok (k:Nat):FnV P 142 [.agg (.pair (.int .i64) Y6)] [.dat (.int .i64)] (f27F k) :=
 fs tm (f27T k) Tryz.func142 (by kernel_rfl) (SumsOk.nil |>.s (f27p2O k) (by kernel_rfl) |>.s (f27p1O k) (by kernel_rfl) |>.s (f27p0O k) (by kernel_rfl)) none fun _=>by kernel_rfl
noncomputable def f47l0s {R:Type}(k:Nat)(rec:D161->Option R)(k0:Int×Unit->Option R)(v:D161):Option R :=
 bif (decide (v.2.2.2.2.1<v.2.2.1)) then
 bif ((decide (0<=(IntKind.i64.wrap (v.2.1+v.2.2.2.2.1))))&&(decide ((IntKind.i64.wrap (v.2.1+v.2.2.2.2.1))<(v.1.size:Int)))) then
 let t1:=(IntKind.i64.wrap ((IntKind.i64.wrap (v.2.2.2.1*256))+(IntKind.i64.wrap (bt v.1 (IntKind.i64.wrap (v.2.1+v.2.2.2.2.1))))))
 rec (v.1,v.2.1,v.2.2.1,t1,(IntKind.i64.wrap (v.2.2.2.2.1+1)),())
 else none
 else
 k0 (v.2.2.2.1,())
noncomputable def f47l0 {R:Type}(k:Nat)(k0:Int×Unit->Option R)(v:D161):Option R:=iterS (fun rec v=>f47l0s k rec k0 v) k v
noncomputable def f47l0S (k:Nat):=loopSum ⟨[(0,oS),(1,oI),(2,oI),(7,oI),(8,oI)],[],0,[]⟩ ⟨[0,1,2,7,8],[],[]⟩ k fun R rec K v=>f47l0s k rec (fun w=>K (.exit 0) (encSt ⟨[(7,oI)],[],0,[]⟩ w)) v
theorem f47l0O (k:Nat):SumO P Tryz.f143 58 (f47l0S k):=lp tm TB.nil ⟨[6,7],[],[]⟩ SumsOk.nil (by kernel_rfl) fun _ _ _ _=>by kernel_rfl
noncomputable def f47F (k:Nat)(x:ByteArray×Int×Int):Option (Int) :=
 f47l0 k
 (fun (w2:Int×Unit) =>
 some w2.1)
 (x.1,x.2.1,x.2.2,0,0,())
theorem f47Ok (k:Nat):FnV P 143 [.dat .str,.dat (.int .i64),.dat (.int .i64)] [.dat (.int .i64)] (f47F k) :=
 fs tm TB.nil Tryz.func143 (by kernel_rfl) (SumsOk.nil |>.s (f47l0O k) (by kernel_rfl)) none fun _=>by kernel_rfl
noncomputable def f81l0s {R:Type}(k:Nat)(rec:Int×Int×Int×Unit->Option R)(k0:Int×Unit->Option R)(v:Int×Int×Int×Unit):Option R :=
 bif (decide (v.2.2.1<v.1)) then
 rec (v.1,(IntKind.i64.wrap (v.2.1*10)),(IntKind.i64.wrap (v.2.2.1+1)),())
 else
 k0 (v.2.1,())
noncomputable def f81l0 {R:Type}(k:Nat)(k0:Int×Unit->Option R)(v:Int×Int×Int×Unit):Option R:=iterS (fun rec v=>f81l0s k rec k0 v) k v
noncomputable def f81l0S (k:Nat):=loopSum ⟨[(0,oI),(3,oI),(4,oI)],[],0,[]⟩ ⟨[0,3,4],[],[]⟩ k fun R rec K v=>f81l0s k rec (fun w=>K (.exit 0) (encSt ⟨[(3,oI)],[],0,[]⟩ w)) v
theorem f81l0O (k:Nat):SumO P Tryz.f166 58 (f81l0S k):=lp tm TB.nil ⟨[2,3],[],[]⟩ SumsOk.nil (by kernel_rfl) fun _ _ _ _=>by kernel_rfl
noncomputable def f81F (k:Nat)(x:Int):Option (Int) :=
 f81l0 k
 (fun (w1:Int×Unit) =>
 some w1.1)
 (x,1,0,())
theorem f81Ok (k:Nat):FnV P 166 [.dat (.int .i64)] [.dat (.int .i64)] (f81F k) :=
 fs tm TB.nil Tryz.func166 (by kernel_rfl) (SumsOk.nil |>.s (f81l0O k) (by kernel_rfl)) none fun _=>by kernel_rfl
noncomputable def f49T (k:Nat):TB P:=TB.nil |>.u (f81Ok k)
noncomputable def f49F (k:Nat)(x:(Int×(Int×Int))):Option (Int) :=
 Option.bind (f81F k x.2.1) fun y1 =>
 some (IntKind.i64.wrap (y1 - 1))
theorem f49Ok (k:Nat):FnV P 144 [.agg (.pair (.int .i64) Y6)] [.dat (.int .i64)] (f49F k) :=
 fs tm (f49T k) Tryz.func144 (by kernel_rfl) SumsOk.nil none fun _=>by kernel_rfl
noncomputable def f82p0 {R:Type}(k:Nat)(k0:Int×Int×Unit->Option R)(v:Int×Int×Unit):Option R :=
 bif (v.2.1==11) then
 k0 ((IntKind.i64.wrap (0 - v.1)),v.2.1,())
 else
 bif (v.2.1==13) then
 k0 ((IntKind.i64.wrap (0 - v.1)),v.2.1,())
 else
 k0 (v.1,v.2.1,())
noncomputable def f82p0S (k:Nat):=partSum ⟨[(0,oI),(1,oI)],[],0,[]⟩ ⟨[0,1],[],[]⟩ fun R K v=>f82p0 k (fun w=>K .normal (encSt ⟨[(0,oI),(1,oI)],[],0,[]⟩ w)) v
theorem f82p0O (k:Nat):SumO P Tryz.f167 6 (f82p0S k):=pt tm TB.nil ⟨[0,1,4,5],[],[]⟩ SumsOk.nil fun _ _ _=>by kernel_rfl
noncomputable def f82F (k:Nat)(x:Int×Int):Option (Int×Bool) :=
 f82p0 k
 (fun (w1:Int×Int×Unit) =>
 some (w1.1,(decide (w1.2.1≥10))))
 (x.1,x.2,())
theorem f82Ok (k:Nat):FnV P 167 [.dat (.int .i64),.dat (.int .i64)] [.dat (.int .i64),.dat .bool] (f82F k) :=
 fs tm TB.nil Tryz.func167 (by kernel_rfl) (SumsOk.nil |>.s (f82p0O k) (by kernel_rfl)) none fun _=>by kernel_rfl
noncomputable def f50T (k:Nat):TB P:=TB.nil |>.u (f82Ok k)
noncomputable def f50p0 {R:Type}(k:Nat)(k0:D162->Option R)(v:D162):Option R :=
 bif (v.2.2.2.1==(IntKind.i64.wrap ((v.1.size:Int) - 1))) then
 bif ((decide (0<=v.2.2.2.1))&&(decide (v.2.2.2.1<(v.1.size:Int)))) then
 let t1:=(IntKind.i64.wrap (Int.tdiv (IntKind.i64.wrap (bt v.1 v.2.2.2.1)) 16))
 k0 (v.1,v.2.1,t1,v.2.2.2.1,v.2.2.2.2.1,v.2.2.2.2.2.1,())
 else none
 else
 k0 (v.1,v.2.1,v.2.2.1,v.2.2.2.1,v.2.2.2.2.1,v.2.2.2.2.2.1,())
noncomputable def f50p0S (k:Nat):=partSum ⟨[(0,oS),(2,.one (.ptr 0 0)),(5,oI),(6,oI),(7,oI)],[(0,.var 176 [.int .i64,.str])],1,[]⟩ ⟨[0,2,5,6,7],[],[]⟩ fun R K v=>f50p0 k (fun w=>K .normal (encSt ⟨[(0,oS),(2,.one (.ptr 0 0)),(5,oI),(6,oI),(7,oI)],[(0,.var 176 [.int .i64,.str])],1,[]⟩ w)) v
theorem f50p0O (k:Nat):SumO P Tryz.f145 1864 (f50p0S k):=pt tm (f50T k) ⟨[0,2,3,4,5,6,7],[],[]⟩ SumsOk.nil fun _ _ _=>by kernel_rfl
noncomputable def f50l1s {R:Type}(k:Nat)(rec:D162->Option R)(k0:D163->Option R)(k1:D164->Option R)(v:D162):Option R :=
 bif (decide (v.2.2.2.1<(v.1.size:Int))) then
 f50p0 k
 (fun (w2:D162) =>
 bif (decide (w2.2.2.1<10)) then
 k0 (w2.2.2.2.1,21,w2.2.1,w2.2.2.1,0,ByteArray.empty,())
 else
 bif ((decide (0<=w2.2.2.2.1))&&(decide (w2.2.2.2.1<(w2.1.size:Int)))) then
 bif (decide ((Int.tmod (bt w2.1 w2.2.2.2.1) 16) > 9)) then
 k0 (w2.2.2.2.1,21,w2.2.1,w2.2.2.1,0,ByteArray.empty,())
 else
 bif ((decide (0<=w2.2.2.2.1))&&(decide (w2.2.2.2.1<(w2.1.size:Int)))) then
 let t3:=(IntKind.i64.wrap ((IntKind.i64.wrap (10*w2.2.1))+(Int.tmod (IntKind.i64.wrap (bt w2.1 w2.2.2.2.1)) 16)))
 rec (w2.1,t3,w2.2.2.1,(IntKind.i64.wrap (w2.2.2.2.1+1)),w2.2.2.2.2.1,w2.2.2.2.2.2.1,())
 else none
 else none)
 (v.1,v.2.1,v.2.2.1,v.2.2.2.1,v.2.2.2.2.1,v.2.2.2.2.2.1,())
 else
 k1 (v.2.1,v.2.2.1,v.2.2.2.2.1,v.2.2.2.2.2.1,())
noncomputable def f50l1 {R:Type}(k:Nat)(k0:D163->Option R)(k1:D164->Option R)(v:D162):Option R:=iterS (fun rec v=>f50l1s k rec k0 k1 v) k v
noncomputable def f50l1S (k:Nat):=loopSum ⟨[(0,oS),(2,.one (.ptr 0 0)),(5,oI),(6,oI),(7,oI)],[(0,.var 176 [.int .i64,.str])],1,[]⟩ ⟨[0,2,5,6,7],[],[]⟩ k fun R rec K v=>f50l1s k rec (fun w=>K .ret (encSt ⟨[(2,.one (.ptr 0 0)),(3,oI),(4,oI),(5,oI),(6,oI)],[(0,.var 176 [.int .i64,.str])],1,[]⟩ w)) (fun w=>K (.exit 0) (encSt ⟨[(2,.one (.ptr 0 0)),(5,oI),(6,oI)],[(0,.var 176 [.int .i64,.str])],1,[]⟩ w)) v
theorem f50l1O (k:Nat):SumO P Tryz.f145 58 (f50l1S k):=lp tm (f50T k) ⟨[2,3,4,5,6],[],[]⟩ (SumsOk.nil |>.s (f50p0O k) (by kernel_rfl)) (by kernel_rfl) fun _ _ _ _=>by kernel_rfl
noncomputable def f50F (k:Nat)(x:ByteArray):Option (D48) :=
 f50l1 k
 (fun (w4:D163) =>
 some ((w4.2.2.2.2.1,w4.2.2.2.2.2.1),w4.1,w4.2.1))
 (fun (w5:D164) =>
 Option.bind (f82F k (w5.1,w5.2.1)) fun y6 =>
 some ((y6.1,ByteArray.empty),0,0))
 (x,0,15,0,0,ByteArray.empty,())
theorem f50Ok (k:Nat):FnV P 145 [.dat .str] [.agg Y12,.dat (.int .i64),.dat (.int .i64)] (f50F k) :=
 fs tm (f50T k) Tryz.func145 (by kernel_rfl) (SumsOk.nil |>.s (f50l1O k) (by kernel_rfl) |>.s (f50p0O k) (by kernel_rfl)) none fun _=>by kernel_rfl
noncomputable def f51T (k:Nat):TB P:=TB.nil |>.u (f82Ok k)
noncomputable def f51p0 {R:Type}(k:Nat)(k0:D165->Option R)(v:D165):Option R :=
 bif ((Int.tmod v.2.2.1 2)==1) then
 bif ((decide (0<=(IntKind.i64.wrap (Int.tdiv v.2.2.1 2))))&&(decide ((IntKind.i64.wrap (Int.tdiv v.2.2.1 2))<(v.1.size:Int)))) then
 let t2:=(IntKind.i64.wrap (bt v.1 (IntKind.i64.wrap (Int.tdiv v.2.2.1 2))))
 k0 (v.1,v.2.1,v.2.2.1,(Int.tmod t2 16),v.2.2.2.2.1,v.2.2.2.2.2.1,v.2.2.2.2.2.2.1,v.2.2.2.2.2.2.2.1,v.2.2.2.2.2.2.2.2.1,())
 else none
 else
 k0 (v.1,v.2.1,v.2.2.1,v.2.2.2.1,v.2.2.2.2.1,v.2.2.2.2.2.1,v.2.2.2.2.2.2.1,v.2.2.2.2.2.2.2.1,v.2.2.2.2.2.2.2.2.1,())
noncomputable def f51p0S (k:Nat):=partSum ⟨[(1,oS),(2,.one (.ptr 0 0)),(4,.one (.ptr 1 0)),(7,oI),(8,oI),(9,oI)],[(0,.var 115 [.int .i64,.int .i64,.int .i64]),(1,.var 176 [.int .i64,.str])],2,[]⟩ ⟨[1,2,4,7,8,9],[],[]⟩ fun R K v=>f51p0 k (fun w=>K .normal (encSt ⟨[(1,oS),(2,.one (.ptr 0 0)),(4,.one (.ptr 1 0)),(7,oI),(8,oI),(9,oI)],[(0,.var 115 [.int .i64,.int .i64,.int .i64]),(1,.var 176 [.int .i64,.str])],2,[]⟩ w)) v
theorem f51p0O (k:Nat):SumO P Tryz.f146 3730 (f51p0S k):=pt tm (f51T k) ⟨[1,2,4,5,6,7,8,9],[],[]⟩ SumsOk.nil fun _ _ _=>by kernel_rfl
noncomputable def f51p1 {R:Type}(k:Nat)(k0:D166->Option R)(v:D166):Option R :=
 let t4:=(IntKind.i64.wrap ((IntKind.i64.wrap (2*(v.1.size:Int))) - 1))
 bif (v.2.2.1==t4) then
 k0 (v.1,v.2.1,v.2.2.1,v.2.2.2.1,(decide (v.2.2.2.1<10)),v.2.2.2.2.2.1,v.2.2.2.2.2.2.1,v.2.2.2.2.2.2.2.1,v.2.2.2.2.2.2.2.2.1,v.2.2.2.2.2.2.2.2.2.1,())
 else
 k0 (v.1,v.2.1,v.2.2.1,v.2.2.2.1,v.2.2.2.2.1,v.2.2.2.2.2.1,v.2.2.2.2.2.2.1,v.2.2.2.2.2.2.2.1,v.2.2.2.2.2.2.2.2.1,v.2.2.2.2.2.2.2.2.2.1,())
noncomputable def f51p1S (k:Nat):=partSum ⟨[(1,oS),(2,.one (.ptr 0 0)),(4,.one (.ptr 1 0)),(7,oI),(8,oI),(9,oI),(10,oB)],[(0,.var 115 [.int .i64,.int .i64,.int .i64]),(1,.var 176 [.int .i64,.str])],2,[]⟩ ⟨[1,2,4,7,8,9,10],[],[]⟩ fun R K v=>f51p1 k (fun w=>K .normal (encSt ⟨[(1,oS),(2,.one (.ptr 0 0)),(4,.one (.ptr 1 0)),(7,oI),(8,oI),(9,oI),(10,oB)],[(0,.var 115 [.int .i64,.int .i64,.int .i64]),(1,.var 176 [.int .i64,.str])],2,[]⟩ w)) v
theorem f51p1O (k:Nat):SumO P Tryz.f146 14926 (f51p1S k):=pt tm (f51T k) ⟨[1,2,4,5,6,7,8,9,10],[],[]⟩ SumsOk.nil fun _ _ _=>by kernel_rfl
noncomputable def f51p2 {R:Type}(k:Nat)(k0:D167->Option R)(k1:D165->Option R)(v:D166):Option R :=
 bif v.2.2.2.2.1 then
 k0 (v.1,(IntKind.i64.wrap (Int.tdiv v.2.2.1 2)),21,v.2.1,v.2.2.1,v.2.2.2.1,v.2.2.2.2.2.1,v.2.2.2.2.2.2.1,v.2.2.2.2.2.2.2.1,0,ByteArray.empty,())
 else
 bif (v.2.2.1==0) then
 bif ((Int.tmod v.2.2.2.2.2.2.1 2)==0) then
 bif (v.2.2.2.1 !=0) then
 k0 (v.1,(IntKind.i64.wrap (Int.tdiv v.2.2.1 2)),21,v.2.1,v.2.2.1,v.2.2.2.1,v.2.2.2.2.2.1,v.2.2.2.2.2.2.1,v.2.2.2.2.2.2.2.1,0,ByteArray.empty,())
 else
 k1 (v.1,v.2.1,v.2.2.1,v.2.2.2.1,v.2.2.2.2.2.1,v.2.2.2.2.2.2.1,v.2.2.2.2.2.2.2.1,v.2.2.2.2.2.2.2.2.1,v.2.2.2.2.2.2.2.2.2.1,())
 else
 k1 (v.1,v.2.1,v.2.2.1,v.2.2.2.1,v.2.2.2.2.2.1,v.2.2.2.2.2.2.1,v.2.2.2.2.2.2.2.1,v.2.2.2.2.2.2.2.2.1,v.2.2.2.2.2.2.2.2.2.1,())
 else
 k1 (v.1,v.2.1,v.2.2.1,v.2.2.2.1,v.2.2.2.2.2.1,v.2.2.2.2.2.2.1,v.2.2.2.2.2.2.2.1,v.2.2.2.2.2.2.2.2.1,v.2.2.2.2.2.2.2.2.2.1,())
noncomputable def f51p2S (k:Nat):=partSum ⟨[(1,oS),(2,.one (.ptr 0 0)),(4,.one (.ptr 1 0)),(7,oI),(8,oI),(9,oI),(10,oB)],[(0,.var 115 [.int .i64,.int .i64,.int .i64]),(1,.var 176 [.int .i64,.str])],2,[]⟩ ⟨[1,2,4,7,8,9,10],[],[]⟩ fun R K v=>f51p2 k (fun w=>K .ret (encSt ⟨[(1,oS),(2,.one (.ptr 0 0)),(4,.one (.ptr 1 0)),(5,oI),(6,oI),(7,oI),(8,oI),(9,oI)],[(0,.var 115 [.int .i64,.int .i64,.int .i64]),(1,.var 176 [.int .i64,.str])],2,[]⟩ w)) (fun w=>K .normal (encSt ⟨[(1,oS),(2,.one (.ptr 0 0)),(4,.one (.ptr 1 0)),(7,oI),(8,oI),(9,oI)],[(0,.var 115 [.int .i64,.int .i64,.int .i64]),(1,.var 176 [.int .i64,.str])],2,[]⟩ w)) v
theorem f51p2O (k:Nat):SumO P Tryz.f146 29854 (f51p2S k):=pt tm (f51T k) ⟨[1,2,4,5,6,7,8,9],[],[]⟩ SumsOk.nil fun _ _ _=>by kernel_rfl
noncomputable def f51p3 {R:Type}(k:Nat)(k0:D168->Option R)(k1:D169->Option R)(v:D169):Option R :=
 bif ((decide (0<=(IntKind.i64.wrap (Int.tdiv v.2.2.1 2))))&&(decide ((IntKind.i64.wrap (Int.tdiv v.2.2.1 2))<(v.1.size:Int)))) then
 let t1:=(IntKind.i64.wrap (bt v.1 (IntKind.i64.wrap (Int.tdiv v.2.2.1 2))))
 f51p0 k
 (fun (w3:D165) =>
 f51p1 k
 (fun (w5:D166) =>
 f51p2 k
 (fun (w6:D167) =>
 k0 (w6.1,w6.2.1,w6.2.2.1,w6.2.2.2.1,w6.2.2.2.2.1,w6.2.2.2.2.2.2.1,w6.2.2.2.2.2.2.2.1,w6.2.2.2.2.2.2.2.2.1,w6.2.2.2.2.2.2.2.2.2.1,w6.2.2.2.2.2.2.2.2.2.2.1,()))
 (fun (w7:D165) =>
 let t8:=(IntKind.i64.wrap ((IntKind.i64.wrap (2*(w7.1.size:Int))) - 1))
 bif (w7.2.2.1==t8) then
 Option.bind (f82F k (w7.2.1,w7.2.2.2.1)) fun y9 =>
 k1 (w7.1,y9.1,w7.2.2.1,w7.2.2.2.2.1,w7.2.2.2.2.2.1,w7.2.2.2.2.2.2.1,w7.2.2.2.2.2.2.2.1,w7.2.2.2.2.2.2.2.2.1,())
 else
 let t10:=(IntKind.i64.wrap ((IntKind.i64.wrap (10*w7.2.1))+w7.2.2.2.1))
 k1 (w7.1,t10,w7.2.2.1,w7.2.2.2.2.1,w7.2.2.2.2.2.1,w7.2.2.2.2.2.2.1,w7.2.2.2.2.2.2.2.1,w7.2.2.2.2.2.2.2.2.1,()))
 (w5.1,w5.2.1,w5.2.2.1,w5.2.2.2.1,w5.2.2.2.2.1,w5.2.2.2.2.2.1,w5.2.2.2.2.2.2.1,w5.2.2.2.2.2.2.2.1,w5.2.2.2.2.2.2.2.2.1,w5.2.2.2.2.2.2.2.2.2.1,()))
 (w3.1,w3.2.1,w3.2.2.1,w3.2.2.2.1,(decide (w3.2.2.2.1 > 9)),w3.2.2.2.2.1,w3.2.2.2.2.2.1,w3.2.2.2.2.2.2.1,w3.2.2.2.2.2.2.2.1,w3.2.2.2.2.2.2.2.2.1,()))
 (v.1,v.2.1,v.2.2.1,(IntKind.i64.wrap (Int.tdiv t1 16)),v.2.2.2.1,v.2.2.2.2.1,v.2.2.2.2.2.1,v.2.2.2.2.2.2.1,v.2.2.2.2.2.2.2.1,())
 else none
noncomputable def f51p3S (k:Nat):=partSum ⟨[(1,oS),(2,.one (.ptr 0 0)),(4,.one (.ptr 1 0)),(7,oI),(8,oI)],[(0,.var 115 [.int .i64,.int .i64,.int .i64]),(1,.var 176 [.int .i64,.str])],2,[]⟩ ⟨[1,2,4,7,8],[],[]⟩ fun R K v=>f51p3 k (fun w=>K .ret (encSt ⟨[(1,oS),(2,.one (.ptr 0 0)),(4,.one (.ptr 1 0)),(5,oI),(6,oI),(7,oI),(8,oI)],[(0,.var 115 [.int .i64,.int .i64,.int .i64]),(1,.var 176 [.int .i64,.str])],2,[]⟩ w)) (fun w=>K .normal (encSt ⟨[(1,oS),(2,.one (.ptr 0 0)),(4,.one (.ptr 1 0)),(7,oI),(8,oI)],[(0,.var 115 [.int .i64,.int .i64,.int .i64]),(1,.var 176 [.int .i64,.str])],2,[]⟩ w)) v
theorem f51p3O (k:Nat):SumO P Tryz.f146 466 (f51p3S k):=pt tm (f51T k) ⟨[1,2,4,5,6,7,8],[],[]⟩ (SumsOk.nil |>.s (f51p2O k) (by kernel_rfl) |>.s (f51p1O k) (by kernel_rfl) |>.s (f51p0O k) (by kernel_rfl)) fun _ _ _=>by kernel_rfl
noncomputable def f51l4s {R:Type}(k:Nat)(rec:D169->Option R)(k0:D170->Option R)(k1:D171->Option R)(v:D169):Option R :=
 bif (decide (v.2.2.1<(IntKind.i64.wrap (2*(v.1.size:Int))))) then
 f51p3 k
 (fun (w11:D168) =>
 k0 (w11.2.1,w11.2.2.1,w11.2.2.2.1,w11.2.2.2.2.2.2.2.2.1,w11.2.2.2.2.2.2.2.2.2.1,()))
 (fun (w12:D169) =>
 rec (w12.1,w12.2.1,(IntKind.i64.wrap (w12.2.2.1+1)),w12.2.2.2.1,w12.2.2.2.2.1,w12.2.2.2.2.2.1,w12.2.2.2.2.2.2.1,w12.2.2.2.2.2.2.2.1,()))
 (v.1,v.2.1,v.2.2.1,v.2.2.2.1,v.2.2.2.2.1,v.2.2.2.2.2.1,v.2.2.2.2.2.2.1,v.2.2.2.2.2.2.2.1,())
 else
 k1 (v.2.1,v.2.2.2.2.2.2.1,v.2.2.2.2.2.2.2.1,())
noncomputable def f51l4 {R:Type}(k:Nat)(k0:D170->Option R)(k1:D171->Option R)(v:D169):Option R:=iterS (fun rec v=>f51l4s k rec k0 k1 v) k v
noncomputable def f51l4S (k:Nat):=loopSum ⟨[(1,oS),(2,.one (.ptr 0 0)),(4,.one (.ptr 1 0)),(7,oI),(8,oI)],[(0,.var 115 [.int .i64,.int .i64,.int .i64]),(1,.var 176 [.int .i64,.str])],2,[]⟩ ⟨[1,2,4,7,8],[],[]⟩ k fun R rec K v=>f51l4s k rec (fun w=>K .ret (encSt ⟨[(4,.one (.ptr 0 0)),(5,oI),(6,oI),(7,oI)],[(0,.var 176 [.int .i64,.str])],1,[]⟩ w)) (fun w=>K (.exit 0) (encSt ⟨[(4,.one (.ptr 0 0)),(7,oI)],[(0,.var 176 [.int .i64,.str])],1,[]⟩ w)) v
theorem f51l4O (k:Nat):SumO P Tryz.f146 58 (f51l4S k):=lp tm (f51T k) ⟨[4,5,6,7],[],[]⟩ (SumsOk.nil |>.s (f51p3O k) (by kernel_rfl) |>.s (f51p2O k) (by kernel_rfl) |>.s (f51p1O k) (by kernel_rfl) |>.s (f51p0O k) (by kernel_rfl)) (by kernel_rfl) fun _ _ _ _=>by kernel_rfl
noncomputable def f51F (k:Nat)(x:D40):Option (D48) :=
 f51l4 k
 (fun (w13:D170) =>
 some ((w13.2.2.2.1,w13.2.2.2.2.1),w13.1,w13.2.1))
 (fun (w14:D171) =>
 some ((w14.1,ByteArray.empty),0,0))
 (x.2,0,0,x.1.1,x.1.2.1,x.1.2.2,0,ByteArray.empty,())
theorem f51Ok (k:Nat):FnV P 146 [.agg (.pair (.int .i64) Y6),.dat .str] [.agg Y12,.dat (.int .i64),.dat (.int .i64)] (f51F k) :=
 fs tm (f51T k) Tryz.func146 (by kernel_rfl) (SumsOk.nil |>.s (f51l4O k) (by kernel_rfl) |>.s (f51p3O k) (by kernel_rfl) |>.s (f51p2O k) (by kernel_rfl) |>.s (f51p1O k) (by kernel_rfl) |>.s (f51p0O k) (by kernel_rfl)) none fun _=>by kernel_rfl
noncomputable def f17T (k:Nat):TB P:=TB.nil |>.u (f51Ok k) |>.u (f50Ok k) |>.u (f49Ok k) |>.u (f47Ok k) |>.u (f27Ok k) |>.u (f31Ok k) |>.u (f48Ok k)
noncomputable def f17p0 {R:Type}(k:Nat)(k0:D163->Option R)(v:D47):Option R :=
 bif (decide (0<(v.1.size:Int))) then
 bif (decide ((bt v.1 0)≥128)) then
 bif (decide (0<=(IntKind.i64.wrap (8*(v.1.size:Int))))) then
 let t4:=(shlI .i64 1 (IntKind.i64.wrap (8*(v.1.size:Int))))
 k0 ((IntKind.i64.wrap (v.2.1 - t4)),v.2.2.1,v.2.2.2.1,v.2.2.2.2.1,v.2.2.2.2.2.1,v.2.2.2.2.2.2.1,())
 else none
 else
 k0 (v.2.1,v.2.2.1,v.2.2.2.1,v.2.2.2.2.1,v.2.2.2.2.2.1,v.2.2.2.2.2.2.1,())
 else none
noncomputable def f17p0S (k:Nat):=partSum ⟨[(1,oS),(2,.one (.ptr 0 0)),(4,.one (.ptr 1 0)),(8,oI)],[(0,.var 115 [.int .i64,.int .i64,.int .i64]),(1,.var 176 [.int .i64,.str])],2,[]⟩ ⟨[1,2,4,8],[],[]⟩ fun R K v=>f17p0 k (fun w=>K .normal (encSt ⟨[(2,.one (.ptr 0 0)),(4,.one (.ptr 1 0)),(8,oI)],[(0,.var 115 [.int .i64,.int .i64,.int .i64]),(1,.var 176 [.int .i64,.str])],2,[]⟩ w)) v
theorem f17p0O (k:Nat):SumO P Tryz.f129 16058 (f17p0S k):=pt tm (f17T k) ⟨[2,4,5,6,8],[],[]⟩ SumsOk.nil fun _ _ _=>by kernel_rfl
noncomputable def f17F (k:Nat)(x:D40):Option (D48) :=
 Option.bind (f27F k (x.1.1,(x.1.2.1,x.1.2.2))) fun y1 =>
 bif (y1 !=0) then
 some ((0,ByteArray.empty),0,y1)
 else
 bif (x.1.1==4) then
 some ((0,ByteArray.empty),0,17)
 else
 Option.bind (f31F k (x.1.1,(x.1.2.1,x.1.2.2))) fun y2 =>
 bif ((x.2.size:Int) !=y2) then
 some ((0,ByteArray.empty),0,18)
 else
 bif (x.1.1==0) then
 some ((0,x.2),0,0)
 else
 bif (x.1.1==3) then
 Option.bind (f47F k (x.2,0,(x.2.size:Int))) fun y3 =>
 f17p0 k
 (fun (w5:D163) =>
 Option.bind (f49F k (w5.2.1,(w5.2.2.1,w5.2.2.2.1))) fun y6 =>
 Option.bind (f49F k (w5.2.1,(w5.2.2.1,w5.2.2.2.1))) fun y7 =>
 Option.bind (f48F k (w5.1,(IntKind.i64.wrap (0 - y6)),y7)) fun y8 =>
 bif (!y8) then
 some ((0,ByteArray.empty),0,19)
 else
 some ((w5.1,ByteArray.empty),0,0))
 (x.2,y3,x.1.1,x.1.2.1,x.1.2.2,0,ByteArray.empty,())
 else
 bif (x.1.1==2) then
 Option.bind (f50F k x.2) fun y9 =>
 some ((y9.1.1,y9.1.2),y9.2.1,y9.2.2)
 else
 Option.bind (f51F k ((x.1.1,(x.1.2.1,x.1.2.2)),x.2)) fun y10 =>
 some ((y10.1.1,y10.1.2),y10.2.1,y10.2.2)
theorem f17Ok (k:Nat):FnV P 129 [.agg (.pair (.int .i64) Y6),.dat .str] [.agg Y12,.dat (.int .i64),.dat (.int .i64)] (f17F k) :=
 fs tm (f17T k) Tryz.func129 (by kernel_rfl) (SumsOk.nil |>.s (f17p0O k) (by kernel_rfl)) none fun _=>by kernel_rfl
noncomputable def f79F (k:Nat)(x:Int):Option (Int) :=
 some (mxI x (IntKind.i64.wrap (0 - x)))
theorem f79Ok (k:Nat):FnV P 148 [.dat (.int .i64)] [.dat (.int .i64)] (f79F k) :=
 fs tm TB.nil Tryz.func148 (by kernel_rfl) SumsOk.nil none fun _=>by kernel_rfl
noncomputable def f847T (k:Nat){r:Int->Option (ByteArray)}(hr:FnV P 147 [.dat (.int .i64)] [.dat .str] r):TB P:=TB.nil |>.u hr
noncomputable def f847G (k:Nat)(r:Int->Option (ByteArray))(x:Int):Option (ByteArray) :=
 bif (decide (x<(-9))) then
 Option.bind (r (IntKind.i64.wrap (0 - (IntKind.i64.wrap (Int.tdiv x 10))))) fun y1 =>
 bif (decide ((⟨#[45]⟩:ByteArray).size+y1.size<=9223372036854775807)) then
 Option.bind (r (IntKind.i64.wrap (0 - (Int.tmod x 10)))) fun y2 =>
 bif (decide (((⟨#[45]⟩:ByteArray)++y1).size+y2.size<=9223372036854775807)) then
 some (((⟨#[45]⟩:ByteArray)++y1)++y2)
 else none
 else none
 else
 bif (decide (x<0)) then
 Option.bind (r (IntKind.i64.wrap (0 - x))) fun y3 =>
 bif (decide ((⟨#[45]⟩:ByteArray).size+y3.size<=9223372036854775807)) then
 some ((⟨#[45]⟩:ByteArray)++y3)
 else none
 else
 bif (decide (x<10)) then
 some (strOfNums [(IntKind.u8.wrap (IntKind.i64.wrap (48+x)))])
 else
 Option.bind (r (IntKind.i64.wrap (Int.tdiv x 10))) fun y4 =>
 let t5:=(IntKind.u8.wrap (IntKind.i64.wrap (48+(Int.tmod x 10))))
 bif (decide (y4.size+(strOfNums [t5]).size<=9223372036854775807)) then
 some (y4++(strOfNums [t5]))
 else none
theorem f847Z (k:Nat){r:Int->Option (ByteArray)}(hr:FnV P 147 [.dat (.int .i64)] [.dat .str] r):FnV P 147 [.dat (.int .i64)] [.dat .str] (f847G k r) :=
 fs tm (f847T k hr) Tryz.func147 (by kernel_rfl) SumsOk.nil none fun _=>by kernel_rfl
noncomputable def f847R (k:Nat):Nat->(Int)->Option (ByteArray)
 | 0,_=>none
 | n+1,x=>f847G k (f847R k n) x
theorem f847Y (k:Nat):∀ n:Nat,FnV P 147 [.dat (.int .i64)] [.dat .str] (f847R k n)
 | 0=>⟨⟨Tryz.f147,Tryz.func147,(okB_body (by kernel_rfl)).2⟩,fun _ _ h=>by cases h⟩
 | n+1=>f847Z k (f847Y k n)
noncomputable def f847F (k:Nat)(x:Int):Option (ByteArray):=f847R k k x
theorem f847Ok (k:Nat):FnV P 147 [.dat (.int .i64)] [.dat .str] (f847F k):=f847Y k k
noncomputable def f830T (k:Nat):TB P:=TB.nil |>.u (f79Ok k) |>.u (f847Ok k)
noncomputable def f830l0s {R:Type}(k:Nat)(rec:D49->Option R)(k0:D49->Option R)(v:D49):Option R :=
 bif (decide ((v.1.size:Int)<=v.2.2.1)) then
 bif (decide ((⟨#[48]⟩:ByteArray).size+v.1.size<=9223372036854775807)) then
 rec (((⟨#[48]⟩:ByteArray)++v.1),v.2.1,v.2.2.1,())
 else none
 else
 k0 (v.1,v.2.1,v.2.2.1,())
noncomputable def f830l0 {R:Type}(k:Nat)(k0:D49->Option R)(v:D49):Option R:=iterS (fun rec v=>f830l0s k rec k0 v) k v
noncomputable def f830l0S (k:Nat):=loopSum ⟨[(1,.one (.ptr 0 0)),(3,oS)],[(0,.var 181 [.int .i64,.int .i64])],1,[]⟩ ⟨[1,3],[],[]⟩ k fun R rec K v=>f830l0s k rec (fun w=>K (.exit 0) (encSt ⟨[(1,.one (.ptr 0 0)),(3,oS)],[(0,.var 181 [.int .i64,.int .i64])],1,[]⟩ w)) v
theorem f830l0O (k:Nat):SumO P Tryz.f130 28 (f830l0S k):=lp tm (f830T k) ⟨[1,2,3],[],[]⟩ SumsOk.nil (by kernel_rfl) fun _ _ _ _=>by kernel_rfl
noncomputable def f830p1 {R:Type}(k:Nat)(k0:D49->Option R)(v:D49):Option R :=
 bif (decide (v.2.2.1 > 0)) then
 bif (sliceBds 0 (IntKind.i64.wrap ((v.1.size:Int) - v.2.2.1)) (v.1.size:Int)) then
 let t4:=(v.1.extract 0 (Int.toNat (IntKind.i64.wrap ((v.1.size:Int) - v.2.2.1))))
 bif (decide (t4.size+(⟨#[46]⟩:ByteArray).size<=9223372036854775807)) then
 bif (sliceBds (IntKind.i64.wrap ((v.1.size:Int) - v.2.2.1)) (v.1.size:Int) (v.1.size:Int)) then
 let t5:=(v.1.extract (Int.toNat (IntKind.i64.wrap ((v.1.size:Int) - v.2.2.1))) (Int.toNat (v.1.size:Int)))
 bif (decide ((t4++(⟨#[46]⟩:ByteArray)).size+t5.size<=9223372036854775807)) then
 k0 (((t4++(⟨#[46]⟩:ByteArray))++t5),v.2.1,v.2.2.1,())
 else none
 else none
 else none
 else none
 else
 k0 (v.1,v.2.1,v.2.2.1,())
noncomputable def f830p1S (k:Nat):=partSum ⟨[(1,.one (.ptr 0 0)),(3,oS)],[(0,.var 181 [.int .i64,.int .i64])],1,[]⟩ ⟨[1,3],[],[]⟩ fun R K v=>f830p1 k (fun w=>K .normal (encSt ⟨[(1,.one (.ptr 0 0)),(3,oS)],[(0,.var 181 [.int .i64,.int .i64])],1,[]⟩ w)) v
theorem f830p1O (k:Nat):SumO P Tryz.f130 30 (f830p1S k):=pt tm (f830T k) ⟨[1,2,3],[],[]⟩ SumsOk.nil fun _ _ _=>by kernel_rfl
noncomputable def f830p2 {R:Type}(k:Nat)(k0:D49->Option R)(v:D49):Option R :=
 bif (decide (v.2.1<0)) then
 bif (decide ((⟨#[45]⟩:ByteArray).size+v.1.size<=9223372036854775807)) then
 k0 (((⟨#[45]⟩:ByteArray)++v.1),v.2.1,v.2.2.1,())
 else none
 else
 k0 (v.1,v.2.1,v.2.2.1,())
noncomputable def f830p2S (k:Nat):=partSum ⟨[(1,.one (.ptr 0 0)),(3,oS)],[(0,.var 181 [.int .i64,.int .i64])],1,[]⟩ ⟨[1,3],[],[]⟩ fun R K v=>f830p2 k (fun w=>K .normal (encSt ⟨[(1,.one (.ptr 0 0)),(3,oS)],[(0,.var 181 [.int .i64,.int .i64])],1,[]⟩ w)) v
theorem f830p2O (k:Nat):SumO P Tryz.f130 62 (f830p2S k):=pt tm (f830T k) ⟨[1,2,3],[],[]⟩ SumsOk.nil fun _ _ _=>by kernel_rfl
noncomputable def f830F (k:Nat)(x:(Int×Int)):Option (ByteArray) :=
 Option.bind (f79F k x.1) fun y1 =>
 Option.bind (f847F k y1) fun y2 =>
 f830l0 k
 (fun (w3:D49) =>
 f830p1 k
 (fun (w6:D49) =>
 f830p2 k
 (fun (w7:D49) =>
 some w7.1)
 (w6.1,w6.2.1,w6.2.2.1,()))
 (w3.1,w3.2.1,w3.2.2.1,()))
 (y2,x.1,x.2,())
theorem f830Ok (k:Nat):FnV P 130 [.agg Y6] [.dat .str] (f830F k) :=
 fs tm (f830T k) Tryz.func130 (by kernel_rfl) (SumsOk.nil |>.s (f830p2O k) (by kernel_rfl) |>.s (f830p1O k) (by kernel_rfl) |>.s (f830l0O k) (by kernel_rfl)) none fun _=>by kernel_rfl
noncomputable def f809T (k:Nat):TB P:=TB.nil |>.u (f830Ok k) |>.u (f17Ok k) |>.u (f31Ok k)
noncomputable def f809l0s {R:Type}(k:Nat)(rec:D173->Option R)(k0:D172->Option R)(v:D173):Option R :=
 bif (decide (v.2.2.2.2.1<v.2.2.1)) then
 bif ((decide (0<=v.2.2.2.2.1))&&(decide (v.2.2.2.2.1<(v.1.length:Int)))) then
 let t1:=(v.1.getD (Int.toNat v.2.2.2.2.1) (0,(0,0))).1
 let t2:=(v.1.getD (Int.toNat v.2.2.2.2.1) (0,(0,0))).2.1
 let t3:=(v.1.getD (Int.toNat v.2.2.2.2.1) (0,(0,0))).2.2
 Option.bind (f31F k (t1,(t2,t3))) fun y4 =>
 rec (v.1,v.2.1,v.2.2.1,(IntKind.i64.wrap (v.2.2.2.1+y4)),(IntKind.i64.wrap (v.2.2.2.2.1+1)),())
 else none
 else
 k0 (v.1,v.2.1,v.2.2.1,v.2.2.2.1,())
noncomputable def f809l0 {R:Type}(k:Nat)(k0:D172->Option R)(v:D173):Option R:=iterS (fun rec v=>f809l0s k rec k0 v) k v
noncomputable def f809l0S (k:Nat):=loopSum ⟨[(0,.one (.ro (.pair (.int .i64) Y6))),(1,oS),(2,oI),(7,oI),(8,oI)],[],0,[]⟩ ⟨[0,1,2,7,8],[],[]⟩ k fun R rec K v=>f809l0s k rec (fun w=>K (.exit 0) (encSt ⟨[(0,.one (.ro (.pair (.int .i64) Y6))),(1,oS),(2,oI),(7,oI)],[],0,[]⟩ w)) v
theorem f809l0O (k:Nat):SumO P Tryz.f109 58 (f809l0S k):=lp tm (f809T k) ⟨[0,1,2,6,7],[],[]⟩ SumsOk.nil (by kernel_rfl) fun _ _ _ _=>by kernel_rfl
noncomputable def f809l1s {R:Type}(k:Nat)(rec:ByteArray×Int×Unit->Option R)(k0:ByteArray×Int×Unit->Option R)(v:ByteArray×Int×Unit):Option R :=
 bif (decide (v.2.1 > 0)) then
 bif ((decide (0<=(IntKind.i64.wrap (v.2.1 - 1))))&&(decide ((IntKind.i64.wrap (v.2.1 - 1))<(v.1.size:Int)))) then
 bif ((bt v.1 (IntKind.i64.wrap (v.2.1 - 1)))==32) then
 rec (v.1,(IntKind.i64.wrap (v.2.1 - 1)),())
 else
 k0 (v.1,v.2.1,())
 else none
 else
 k0 (v.1,v.2.1,())
noncomputable def f809l1 {R:Type}(k:Nat)(k0:ByteArray×Int×Unit->Option R)(v:ByteArray×Int×Unit):Option R:=iterS (fun rec v=>f809l1s k rec k0 v) k v
noncomputable def f809l1S (k:Nat):=loopSum ⟨[(10,oS),(14,oI)],[],0,[]⟩ ⟨[10,14],[],[]⟩ k fun R rec K v=>f809l1s k rec (fun w=>K (.exit 2) (encSt ⟨[(10,oS),(14,oI)],[],0,[]⟩ w)) v
theorem f809l1O (k:Nat):SumO P Tryz.f109 2044 (f809l1S k):=lp tm (f809T k) ⟨[6,10,14],[],[]⟩ SumsOk.nil (by kernel_rfl) fun _ _ _ _=>by kernel_rfl
noncomputable def f809p2 {R:Type}(k:Nat)(k0:D1->Option R)(v:D1):Option R :=
 bif ((decide (0<=v.2.1))&&(decide (v.2.1<(v.2.2.1.length:Int)))) then
 bif (decide ((v.2.2.1.getD (Int.toNat v.2.1) 0)<32)) then
 bif ((decide (0<=v.2.1))&&(decide (v.2.1<(v.2.2.1.length:Int)))) then
 k0 (v.1,v.2.1,(v.2.2.1.set (Int.toNat v.2.1) 63),())
 else none
 else
 bif ((decide (0<=v.2.1))&&(decide (v.2.1<(v.2.2.1.length:Int)))) then
 bif (decide ((v.2.2.1.getD (Int.toNat v.2.1) 0) > 126)) then
 bif ((decide (0<=v.2.1))&&(decide (v.2.1<(v.2.2.1.length:Int)))) then
 k0 (v.1,v.2.1,(v.2.2.1.set (Int.toNat v.2.1) 63),())
 else none
 else
 k0 (v.1,v.2.1,v.2.2.1,())
 else none
 else none
noncomputable def f809p2S (k:Nat):=partSum ⟨[(14,oI),(15,.one (.own 0)),(16,oI)],[(0,.row 5 (.int .u8) .mark)],1,[]⟩ ⟨[14,15,16],[],[]⟩ fun R K v=>f809p2 k (fun w=>K .normal (encSt ⟨[(14,oI),(15,.one (.own 0)),(16,oI)],[(0,.row 5 (.int .u8) .mark)],1,[]⟩ w)) v
theorem f809p2O (k:Nat):SumO P Tryz.f109 131026 (f809p2S k):=pt tm (f809T k) ⟨[0,1,2,6,7,10,14,15,16],[],[]⟩ SumsOk.nil fun _ _ _=>by kernel_rfl
noncomputable def f809l3s {R:Type}(k:Nat)(rec:D1->Option R)(k0:List Int×Unit->Option R)(v:D1):Option R :=
 bif (decide (v.2.1<v.1)) then
 f809p2 k
 (fun (w15:D1) =>
 rec (w15.1,(IntKind.i64.wrap (w15.2.1+1)),w15.2.2.1,()))
 (v.1,v.2.1,v.2.2.1,())
 else
 k0 (v.2.2.1,())
noncomputable def f809l3 {R:Type}(k:Nat)(k0:List Int×Unit->Option R)(v:D1):Option R:=iterS (fun rec v=>f809l3s k rec k0 v) k v
noncomputable def f809l3S (k:Nat):=loopSum ⟨[(14,oI),(15,.one (.own 0)),(16,oI)],[(0,.row 5 (.int .u8) .mark)],1,[]⟩ ⟨[14,15,16],[],[]⟩ k fun R rec K v=>f809l3s k rec (fun w=>K (.exit 4) (encSt ⟨[(15,.one (.own 0))],[(0,.row 5 (.int .u8) .mark)],1,[]⟩ w)) v
theorem f809l3O (k:Nat):SumO P Tryz.f109 16378 (f809l3S k):=lp tm (f809T k) ⟨[6,15],[],[]⟩ (SumsOk.nil |>.s (f809p2O k) (by kernel_rfl)) (by kernel_rfl) fun _ _ _ _=>by kernel_rfl
noncomputable def f809F (k:Nat)(x:D174):Option (ByteArray) :=
 f809l0 k
 (fun (w5:D172) =>
 bif ((decide (0<=w5.2.2.1))&&(decide (w5.2.2.1<(w5.1.length:Int)))) then
 let t6:=(w5.1.getD (Int.toNat w5.2.2.1) (0,(0,0))).2.1
 let t7:=(w5.1.getD (Int.toNat w5.2.2.1) (0,(0,0))).2.2
 Option.bind (f31F k ((w5.1.getD (Int.toNat w5.2.2.1) (0,(0,0))).1,(t6,t7))) fun y8 =>
 bif (decide ((IntKind.i64.wrap (w5.2.2.2.1+y8)) > (w5.2.1.size:Int))) then
 some (⟨#[42,78]⟩:ByteArray)
 else
 Option.bind (f31F k ((w5.1.getD (Int.toNat w5.2.2.1) (0,(0,0))).1,(t6,t7))) fun y9 =>
 bif (sliceBds w5.2.2.2.1 (IntKind.i64.wrap (w5.2.2.2.1+y9)) (w5.2.1.size:Int)) then
 let t10:=(w5.2.1.extract (Int.toNat w5.2.2.2.1) (Int.toNat (IntKind.i64.wrap (w5.2.2.2.1+y9))))
 let t11:=((w5.1.getD (Int.toNat w5.2.2.1) (0,(0,0))).1 !=0)
 bif t11 then
 Option.bind (f17F k (((w5.1.getD (Int.toNat w5.2.2.1) (0,(0,0))).1,(t6,t7)),t10)) fun y12 =>
 bif (y12.2.2 !=0) then
 some (⟨#[42,78]⟩:ByteArray)
 else
 Option.bind (f830F k (y12.1.1,t7)) fun y13 =>
 some y13
 else
 f809l1 k
 (fun (w14:ByteArray×Int×Unit) =>
 bif (sliceBds 0 w14.2.1 (w14.1.size:Int)) then
 bif (decide ((w14.1.extract 0 (Int.toNat w14.2.1)).size<=9223372036854775807)) then
 f809l3 k
 (fun (w16:List Int×Unit) =>
 some (strOfNums w16.1))
 (w14.2.1,0,(bytesOf (w14.1.extract 0 (Int.toNat w14.2.1))),())
 else none
 else none)
 (t10,(t10.size:Int),())
 else none
 else none)
 (x.1,x.2.1,x.2.2,0,0,())
theorem f809Ok (k:Nat):FnV P 109 [.dat (.slice (.pair (.int .i64) Y6)),.dat .str,.dat (.int .i64)] [.dat .str] (f809F k) :=
 fs tm (f809T k) Tryz.func109 (by kernel_rfl) (SumsOk.nil |>.s (f809l3O k) (by kernel_rfl) |>.s (f809p2O k) (by kernel_rfl) |>.s (f809l1O k) (by kernel_rfl) |>.s (f809l0O k) (by kernel_rfl)) none fun _=>by kernel_rfl
noncomputable def f781T (k:Nat):TB P:=TB.nil |>.u (f809Ok k) |>.u (f48Ok k)
noncomputable def f781p0 {R:Type}(k:Nat)(k0:D175->Option R)(k1:D175->Option R)(v:D175):Option R :=
 bif ((decide (0<=v.2.2.2.1))&&(decide (v.2.2.2.1<(v.1.size:Int)))) then
 bif ((bt v.1 v.2.2.2.1)==38) then
 let t1:=(decide ((IntKind.i64.wrap (v.2.2.2.1+1))<(v.1.size:Int)))
 bif t1 then
 bif ((decide (0<=(IntKind.i64.wrap (v.2.2.2.1+1))))&&(decide ((IntKind.i64.wrap (v.2.2.2.1+1))<(v.1.size:Int)))) then
 let t2:=(IntKind.i64.wrap ((IntKind.i64.wrap (bt v.1 (IntKind.i64.wrap (v.2.2.2.1+1)))) - 48))
 Option.bind (f48F k (t2,1,(v.2.2.2.2.2.2.2.2.1.length:Int))) fun y3 =>
 bif y3 then
 bif ((decide (0<=(IntKind.i64.wrap (v.2.2.2.1+1))))&&(decide ((IntKind.i64.wrap (v.2.2.2.1+1))<(v.1.size:Int)))) then
 let t4:=(IntKind.i64.wrap ((IntKind.i64.wrap (bt v.1 (IntKind.i64.wrap (v.2.2.2.1+1)))) - 49))
 Option.bind (f809F k (v.2.2.2.2.2.2.2.2.1,v.2.1,t4)) fun y5 =>
 bif (decide (v.2.2.1.size+y5.size<=9223372036854775807)) then
 k0 (v.1,v.2.1,(v.2.2.1++y5),(IntKind.i64.wrap (v.2.2.2.1+1)),v.2.2.2.2.1,v.2.2.2.2.2.1,v.2.2.2.2.2.2.1,v.2.2.2.2.2.2.2.1,v.2.2.2.2.2.2.2.2.1,v.2.2.2.2.2.2.2.2.2.1,v.2.2.2.2.2.2.2.2.2.2.1,())
 else none
 else none
 else
 k1 (v.1,v.2.1,v.2.2.1,v.2.2.2.1,v.2.2.2.2.1,v.2.2.2.2.2.1,v.2.2.2.2.2.2.1,v.2.2.2.2.2.2.2.1,v.2.2.2.2.2.2.2.2.1,v.2.2.2.2.2.2.2.2.2.1,v.2.2.2.2.2.2.2.2.2.2.1,())
 else none
 else
 k1 (v.1,v.2.1,v.2.2.1,v.2.2.2.1,v.2.2.2.2.1,v.2.2.2.2.2.1,v.2.2.2.2.2.2.1,v.2.2.2.2.2.2.2.1,v.2.2.2.2.2.2.2.2.1,v.2.2.2.2.2.2.2.2.2.1,v.2.2.2.2.2.2.2.2.2.2.1,())
 else
 k1 (v.1,v.2.1,v.2.2.1,v.2.2.2.1,v.2.2.2.2.1,v.2.2.2.2.2.1,v.2.2.2.2.2.2.1,v.2.2.2.2.2.2.2.1,v.2.2.2.2.2.2.2.2.1,v.2.2.2.2.2.2.2.2.2.1,v.2.2.2.2.2.2.2.2.2.2.1,())
 else none
noncomputable def f781p0S (k:Nat):=partSum ⟨[(1,oS),(2,oS),(3,.one (.ptr 0 0)),(7,oS),(8,oI)],[(0,.var 82 [.str,.int .i64,.str,.str,.ro (.pair (.int .i64) Y6),.str,.ro .str])],1,[]⟩ ⟨[1,2,3,7,8],[],[]⟩ fun R K v=>f781p0 k (fun w=>K (.exit 1) (encSt ⟨[(1,oS),(2,oS),(3,.one (.ptr 0 0)),(7,oS),(8,oI)],[(0,.var 82 [.str,.int .i64,.str,.str,.ro (.pair (.int .i64) Y6),.str,.ro .str])],1,[]⟩ w)) (fun w=>K .normal (encSt ⟨[(1,oS),(2,oS),(3,.one (.ptr 0 0)),(7,oS),(8,oI)],[(0,.var 82 [.str,.int .i64,.str,.str,.ro (.pair (.int .i64) Y6),.str,.ro .str])],1,[]⟩ w)) v
theorem f781p0O (k:Nat):SumO P Tryz.f81 1864 (f781p0S k):=pt tm (f781T k) ⟨[1,2,3,6,7,8],[],[]⟩ SumsOk.nil fun _ _ _=>by kernel_rfl
noncomputable def f781p1 {R:Type}(k:Nat)(k0:D175->Option R)(v:D175):Option R :=
 f781p0 k
 (fun (w6:D175) =>
 k0 (w6.1,w6.2.1,w6.2.2.1,w6.2.2.2.1,w6.2.2.2.2.1,w6.2.2.2.2.2.1,w6.2.2.2.2.2.2.1,w6.2.2.2.2.2.2.2.1,w6.2.2.2.2.2.2.2.2.1,w6.2.2.2.2.2.2.2.2.2.1,w6.2.2.2.2.2.2.2.2.2.2.1,()))
 (fun (w7:D175) =>
 bif (sliceBds w7.2.2.2.1 (IntKind.i64.wrap (w7.2.2.2.1+1)) (w7.1.size:Int)) then
 let t8:=(w7.1.extract (Int.toNat w7.2.2.2.1) (Int.toNat (IntKind.i64.wrap (w7.2.2.2.1+1))))
 bif (decide (w7.2.2.1.size+t8.size<=9223372036854775807)) then
 k0 (w7.1,w7.2.1,(w7.2.2.1++t8),w7.2.2.2.1,w7.2.2.2.2.1,w7.2.2.2.2.2.1,w7.2.2.2.2.2.2.1,w7.2.2.2.2.2.2.2.1,w7.2.2.2.2.2.2.2.2.1,w7.2.2.2.2.2.2.2.2.2.1,w7.2.2.2.2.2.2.2.2.2.2.1,())
 else none
 else none)
 (v.1,v.2.1,v.2.2.1,v.2.2.2.1,v.2.2.2.2.1,v.2.2.2.2.2.1,v.2.2.2.2.2.2.1,v.2.2.2.2.2.2.2.1,v.2.2.2.2.2.2.2.2.1,v.2.2.2.2.2.2.2.2.2.1,v.2.2.2.2.2.2.2.2.2.2.1,())
noncomputable def f781p1S (k:Nat):=partSum ⟨[(1,oS),(2,oS),(3,.one (.ptr 0 0)),(7,oS),(8,oI)],[(0,.var 82 [.str,.int .i64,.str,.str,.ro (.pair (.int .i64) Y6),.str,.ro .str])],1,[]⟩ ⟨[1,2,3,7,8],[],[]⟩ fun R K v=>f781p1 k (fun w=>K .normal (encSt ⟨[(1,oS),(2,oS),(3,.one (.ptr 0 0)),(7,oS),(8,oI)],[(0,.var 82 [.str,.int .i64,.str,.str,.ro (.pair (.int .i64) Y6),.str,.ro .str])],1,[]⟩ w)) v
theorem f781p1O (k:Nat):SumO P Tryz.f81 466 (f781p1S k):=pt tm (f781T k) ⟨[1,2,3,6,7,8],[],[]⟩ (SumsOk.nil |>.s (f781p0O k) (by kernel_rfl)) fun _ _ _=>by kernel_rfl
noncomputable def f781l2s {R:Type}(k:Nat)(rec:D175->Option R)(k0:ByteArray×Unit->Option R)(v:D175):Option R :=
 bif (decide (v.2.2.2.1<(v.1.size:Int))) then
 f781p1 k
 (fun (w9:D175) =>
 rec (w9.1,w9.2.1,w9.2.2.1,(IntKind.i64.wrap (w9.2.2.2.1+1)),w9.2.2.2.2.1,w9.2.2.2.2.2.1,w9.2.2.2.2.2.2.1,w9.2.2.2.2.2.2.2.1,w9.2.2.2.2.2.2.2.2.1,w9.2.2.2.2.2.2.2.2.2.1,w9.2.2.2.2.2.2.2.2.2.2.1,()))
 (v.1,v.2.1,v.2.2.1,v.2.2.2.1,v.2.2.2.2.1,v.2.2.2.2.2.1,v.2.2.2.2.2.2.1,v.2.2.2.2.2.2.2.1,v.2.2.2.2.2.2.2.2.1,v.2.2.2.2.2.2.2.2.2.1,v.2.2.2.2.2.2.2.2.2.2.1,())
 else
 k0 (v.2.2.1,())
noncomputable def f781l2 {R:Type}(k:Nat)(k0:ByteArray×Unit->Option R)(v:D175):Option R:=iterS (fun rec v=>f781l2s k rec k0 v) k v
noncomputable def f781l2S (k:Nat):=loopSum ⟨[(1,oS),(2,oS),(3,.one (.ptr 0 0)),(7,oS),(8,oI)],[(0,.var 82 [.str,.int .i64,.str,.str,.ro (.pair (.int .i64) Y6),.str,.ro .str])],1,[]⟩ ⟨[1,2,3,7,8],[],[]⟩ k fun R rec K v=>f781l2s k rec (fun w=>K (.exit 0) (encSt ⟨[(7,oS)],[],0,[]⟩ w)) v
theorem f781l2O (k:Nat):SumO P Tryz.f81 58 (f781l2S k):=lp tm (f781T k) ⟨[6,7],[],[]⟩ (SumsOk.nil |>.s (f781p1O k) (by kernel_rfl) |>.s (f781p0O k) (by kernel_rfl)) (by kernel_rfl) fun _ _ _ _=>by kernel_rfl
noncomputable def f781F (k:Nat)(x:D176):Option (ByteArray) :=
 f781l2 k
 (fun (w10:ByteArray×Unit) =>
 some w10.1)
 (x.2.1,x.2.2,ByteArray.empty,0,x.1.1,x.1.2.1,x.1.2.2.1,x.1.2.2.2.1,x.1.2.2.2.2.1,x.1.2.2.2.2.2.1,x.1.2.2.2.2.2.2,())
theorem f781Ok (k:Nat):FnV P 81 [.agg Y10,.dat .str,.dat .str] [.dat .str] (f781F k) :=
 fs tm (f781T k) Tryz.func81 (by kernel_rfl) (SumsOk.nil |>.s (f781l2O k) (by kernel_rfl) |>.s (f781p1O k) (by kernel_rfl) |>.s (f781p0O k) (by kernel_rfl)) none fun _=>by kernel_rfl
noncomputable def f738T (k:Nat):TB P:=TB.nil |>.u (f781Ok k) |>.u (f780Ok k)
noncomputable def f738F (k:Nat)(x:D13×ByteArray):Option (D60) :=
 let t1:=[(x.1.1,(x.1.2.1,(x.1.2.2.1,(x.1.2.2.2.1,(x.1.2.2.2.2.1,(x.1.2.2.2.2.2.1,x.1.2.2.2.2.2.2))))))]
 Option.bind (f780F k t1) fun y2 =>
 bif (y2 !=0) then
 some (ByteArray.empty,ByteArray.empty,y2)
 else
 bif (decide ((x.2.size:Int) > 512)) then
 some (ByteArray.empty,ByteArray.empty,2)
 else
 Option.bind (f781F k ((x.1.1,(x.1.2.1,(x.1.2.2.1,(x.1.2.2.2.1,(x.1.2.2.2.2.1,(x.1.2.2.2.2.2.1,x.1.2.2.2.2.2.2)))))),x.1.2.2.1,x.2)) fun y3 =>
 Option.bind (f781F k ((x.1.1,(x.1.2.1,(x.1.2.2.1,(x.1.2.2.2.1,(x.1.2.2.2.2.1,(x.1.2.2.2.2.2.1,x.1.2.2.2.2.2.2)))))),x.1.2.2.2.1,x.2)) fun y4 =>
 bif (decide ((y3.size:Int) > 256)) then
 some (ByteArray.empty,ByteArray.empty,2)
 else
 bif (decide ((y4.size:Int) > 256)) then
 some (ByteArray.empty,ByteArray.empty,2)
 else
 some (y3,y4,0)
theorem f738Ok (k:Nat):FnV P 38 [.agg Y10,.dat .str] [.dat .str,.dat .str,.dat (.int .i64)] (f738F k) :=
 fs tm (f738T k) Tryz.func38 (by kernel_rfl) SumsOk.nil none fun _=>by kernel_rfl
noncomputable def f717T (k:Nat):TB P:=TB.nil |>.g (f757v0Ok k) |>.u (f756Ok k) |>.u (f749Ok k) |>.u (f742Ok k) |>.u (f738Ok k) |>.u (f69Ok k) |>.u (f731Ok k)
noncomputable def f717p0 {R:Type}(k:Nat)(k0:D116->Option R)(k1:D117->Option R)(v:D117):Option R :=
 bif (!strEq v.2.2.1 ByteArray.empty) then
 Option.bind (f731F k ((v.1,v.2.1),v.2.2.1)) fun y2 =>
 bif (y2==(-1)) then
 k0 (0,11,v.1,v.2.1,v.2.2.1,v.2.2.2.1,v.2.2.2.2.1,v.2.2.2.2.2.1,v.2.2.2.2.2.2.1,v.2.2.2.2.2.2.2.1,v.2.2.2.2.2.2.2.2.2.2.1,())
 else
 k1 (v.1,v.2.1,v.2.2.1,v.2.2.2.1,v.2.2.2.2.1,v.2.2.2.2.2.1,v.2.2.2.2.2.2.1,v.2.2.2.2.2.2.2.1,v.2.2.2.2.2.2.2.2.1,v.2.2.2.2.2.2.2.2.2.1,v.2.2.2.2.2.2.2.2.2.2.1,())
 else
 bif v.2.2.2.2.2.2.2.1 then
 Option.bind (f731F k ((v.1,v.2.1),v.2.2.1)) fun y3 =>
 bif (y3==(-1)) then
 k0 (0,11,v.1,v.2.1,v.2.2.1,v.2.2.2.1,v.2.2.2.2.1,v.2.2.2.2.2.1,v.2.2.2.2.2.2.1,v.2.2.2.2.2.2.2.1,v.2.2.2.2.2.2.2.2.2.2.1,())
 else
 k1 (v.1,v.2.1,v.2.2.1,v.2.2.2.1,v.2.2.2.2.1,v.2.2.2.2.2.1,v.2.2.2.2.2.2.1,v.2.2.2.2.2.2.2.1,v.2.2.2.2.2.2.2.2.1,v.2.2.2.2.2.2.2.2.2.1,v.2.2.2.2.2.2.2.2.2.2.1,())
 else
 k1 (v.1,v.2.1,v.2.2.1,v.2.2.2.1,v.2.2.2.2.1,v.2.2.2.2.2.1,v.2.2.2.2.2.2.1,v.2.2.2.2.2.2.2.1,v.2.2.2.2.2.2.2.2.1,v.2.2.2.2.2.2.2.2.2.1,v.2.2.2.2.2.2.2.2.2.2.1,())
noncomputable def f717p0S (k:Nat):=partSum ⟨[(2,.one (.ptr 0 0)),(3,.one (.ptr 1 0)),(4,.one (.ptr 2 0)),(7,.one (.ptr 3 0))],[(0,.var 25 [.ro Y10,.ro (.pair .str Y5)]),(1,.var 27 [.str,.str,.str,.str,.str,.bool]),(2,.var 25 [.own 4,.own 5]),(3,.var 25 [.emp,.emp]),(4,.row 82 Y10 .plain),(5,.row 69 (.pair .str Y16) .plain),(6,.heap 42 Y3)],7,[]⟩ ⟨[2,3,4,7],[],[]⟩ fun R K v=>f717p0 k (fun w=>K .ret (encSt ⟨[(2,.one (.ptr 0 0)),(3,.one (.ptr 1 0)),(4,.one (.ptr 2 0)),(5,oI),(6,oI),(7,.one (.ptr 3 0))],[(0,.var 25 [.ro Y10,.ro (.pair .str Y5)]),(1,.var 27 [.str,.str,.str,.str,.str,.bool]),(2,.var 25 [.emp,.emp]),(3,.var 25 [.emp,.emp]),(4,.heap 42 Y3)],5,[]⟩ w)) (fun w=>K .normal (encSt ⟨[(2,.one (.ptr 0 0)),(3,.one (.ptr 1 0)),(4,.one (.ptr 2 0)),(7,.one (.ptr 3 0))],[(0,.var 25 [.ro Y10,.ro (.pair .str Y5)]),(1,.var 27 [.str,.str,.str,.str,.str,.bool]),(2,.var 25 [.own 4,.own 5]),(3,.var 25 [.emp,.emp]),(4,.row 82 Y10 .plain),(5,.row 69 (.pair .str Y16) .plain),(6,.heap 42 Y3)],7,[]⟩ w)) v
theorem f717p0O (k:Nat):SumO P Tryz.f17 30 (f717p0S k):=pt htm0 (f717T k) ⟨[2,3,4,5,6,7],[],[]⟩ SumsOk.nil fun _ _ _=>by kernel_rfl
noncomputable def f717p1 {R:Type}(k:Nat)(k0:D116->Option R)(k1:D117->Option R)(v:D117):Option R :=
 bif (strEq v.2.2.2.2.1 ByteArray.empty) then
 bif (strEq v.2.2.2.2.2.2.1 ByteArray.empty) then
 k0 (0,1,v.1,v.2.1,v.2.2.1,v.2.2.2.1,v.2.2.2.2.1,v.2.2.2.2.2.1,v.2.2.2.2.2.2.1,v.2.2.2.2.2.2.2.1,v.2.2.2.2.2.2.2.2.2.2.1,())
 else
 k1 (v.1,v.2.1,v.2.2.1,v.2.2.2.1,v.2.2.2.2.1,v.2.2.2.2.2.1,v.2.2.2.2.2.2.1,v.2.2.2.2.2.2.2.1,v.2.2.2.2.2.2.2.2.1,v.2.2.2.2.2.2.2.2.2.1,v.2.2.2.2.2.2.2.2.2.2.1,())
 else
 k1 (v.1,v.2.1,v.2.2.1,v.2.2.2.1,v.2.2.2.2.1,v.2.2.2.2.2.1,v.2.2.2.2.2.2.1,v.2.2.2.2.2.2.2.1,v.2.2.2.2.2.2.2.2.1,v.2.2.2.2.2.2.2.2.2.1,v.2.2.2.2.2.2.2.2.2.2.1,())
noncomputable def f717p1S (k:Nat):=partSum ⟨[(2,.one (.ptr 0 0)),(3,.one (.ptr 1 0)),(4,.one (.ptr 2 0)),(7,.one (.ptr 3 0))],[(0,.var 25 [.ro Y10,.ro (.pair .str Y5)]),(1,.var 27 [.str,.str,.str,.str,.str,.bool]),(2,.var 25 [.own 4,.own 5]),(3,.var 25 [.emp,.emp]),(4,.row 82 Y10 .plain),(5,.row 69 (.pair .str Y16) .plain),(6,.heap 42 Y3)],7,[]⟩ ⟨[2,3,4,7],[],[]⟩ fun R K v=>f717p1 k (fun w=>K .ret (encSt ⟨[(2,.one (.ptr 0 0)),(3,.one (.ptr 1 0)),(4,.one (.ptr 2 0)),(5,oI),(6,oI),(7,.one (.ptr 3 0))],[(0,.var 25 [.ro Y10,.ro (.pair .str Y5)]),(1,.var 27 [.str,.str,.str,.str,.str,.bool]),(2,.var 25 [.emp,.emp]),(3,.var 25 [.emp,.emp]),(4,.heap 42 Y3)],5,[]⟩ w)) (fun w=>K .normal (encSt ⟨[(2,.one (.ptr 0 0)),(3,.one (.ptr 1 0)),(4,.one (.ptr 2 0)),(7,.one (.ptr 3 0))],[(0,.var 25 [.ro Y10,.ro (.pair .str Y5)]),(1,.var 27 [.str,.str,.str,.str,.str,.bool]),(2,.var 25 [.own 4,.own 5]),(3,.var 25 [.emp,.emp]),(4,.row 82 Y10 .plain),(5,.row 69 (.pair .str Y16) .plain),(6,.heap 42 Y3)],7,[]⟩ w)) v
theorem f717p1O (k:Nat):SumO P Tryz.f17 62 (f717p1S k):=pt htm0 (f717T k) ⟨[2,3,4,5,6,7],[],[]⟩ SumsOk.nil fun _ _ _=>by kernel_rfl
noncomputable def f717p2 {R:Type}(k:Nat)(k0:D116->Option R)(k1:D117->Option R)(v:D117):Option R :=
 bif (!strEq v.2.2.2.2.1 ByteArray.empty) then
 bif (!strEq v.2.2.2.2.2.2.1 ByteArray.empty) then
 k0 (0,5,v.1,v.2.1,v.2.2.1,v.2.2.2.1,v.2.2.2.2.1,v.2.2.2.2.2.1,v.2.2.2.2.2.2.1,v.2.2.2.2.2.2.2.1,v.2.2.2.2.2.2.2.2.2.2.1,())
 else
 bif (strEq v.2.2.2.2.1 ByteArray.empty) then
 bif (!strEq v.2.2.2.2.2.1 ByteArray.empty) then
 k0 (0,5,v.1,v.2.1,v.2.2.1,v.2.2.2.1,v.2.2.2.2.1,v.2.2.2.2.2.1,v.2.2.2.2.2.2.1,v.2.2.2.2.2.2.2.1,v.2.2.2.2.2.2.2.2.2.2.1,())
 else
 k1 (v.1,v.2.1,v.2.2.1,v.2.2.2.1,v.2.2.2.2.1,v.2.2.2.2.2.1,v.2.2.2.2.2.2.1,v.2.2.2.2.2.2.2.1,v.2.2.2.2.2.2.2.2.1,v.2.2.2.2.2.2.2.2.2.1,v.2.2.2.2.2.2.2.2.2.2.1,())
 else
 k1 (v.1,v.2.1,v.2.2.1,v.2.2.2.1,v.2.2.2.2.1,v.2.2.2.2.2.1,v.2.2.2.2.2.2.1,v.2.2.2.2.2.2.2.1,v.2.2.2.2.2.2.2.2.1,v.2.2.2.2.2.2.2.2.2.1,v.2.2.2.2.2.2.2.2.2.2.1,())
 else
 bif (strEq v.2.2.2.2.1 ByteArray.empty) then
 bif (!strEq v.2.2.2.2.2.1 ByteArray.empty) then
 k0 (0,5,v.1,v.2.1,v.2.2.1,v.2.2.2.1,v.2.2.2.2.1,v.2.2.2.2.2.1,v.2.2.2.2.2.2.1,v.2.2.2.2.2.2.2.1,v.2.2.2.2.2.2.2.2.2.2.1,())
 else
 k1 (v.1,v.2.1,v.2.2.1,v.2.2.2.1,v.2.2.2.2.1,v.2.2.2.2.2.1,v.2.2.2.2.2.2.1,v.2.2.2.2.2.2.2.1,v.2.2.2.2.2.2.2.2.1,v.2.2.2.2.2.2.2.2.2.1,v.2.2.2.2.2.2.2.2.2.2.1,())
 else
 k1 (v.1,v.2.1,v.2.2.1,v.2.2.2.1,v.2.2.2.2.1,v.2.2.2.2.2.1,v.2.2.2.2.2.2.1,v.2.2.2.2.2.2.2.1,v.2.2.2.2.2.2.2.2.1,v.2.2.2.2.2.2.2.2.2.1,v.2.2.2.2.2.2.2.2.2.2.1,())
noncomputable def f717p2S (k:Nat):=partSum ⟨[(2,.one (.ptr 0 0)),(3,.one (.ptr 1 0)),(4,.one (.ptr 2 0)),(7,.one (.ptr 3 0))],[(0,.var 25 [.ro Y10,.ro (.pair .str Y5)]),(1,.var 27 [.str,.str,.str,.str,.str,.bool]),(2,.var 25 [.own 4,.own 5]),(3,.var 25 [.emp,.emp]),(4,.row 82 Y10 .plain),(5,.row 69 (.pair .str Y16) .plain),(6,.heap 42 Y3)],7,[]⟩ ⟨[2,3,4,7],[],[]⟩ fun R K v=>f717p2 k (fun w=>K .ret (encSt ⟨[(2,.one (.ptr 0 0)),(3,.one (.ptr 1 0)),(4,.one (.ptr 2 0)),(5,oI),(6,oI),(7,.one (.ptr 3 0))],[(0,.var 25 [.ro Y10,.ro (.pair .str Y5)]),(1,.var 27 [.str,.str,.str,.str,.str,.bool]),(2,.var 25 [.emp,.emp]),(3,.var 25 [.emp,.emp]),(4,.heap 42 Y3)],5,[]⟩ w)) (fun w=>K .normal (encSt ⟨[(2,.one (.ptr 0 0)),(3,.one (.ptr 1 0)),(4,.one (.ptr 2 0)),(7,.one (.ptr 3 0))],[(0,.var 25 [.ro Y10,.ro (.pair .str Y5)]),(1,.var 27 [.str,.str,.str,.str,.str,.bool]),(2,.var 25 [.own 4,.own 5]),(3,.var 25 [.emp,.emp]),(4,.row 82 Y10 .plain),(5,.row 69 (.pair .str Y16) .plain),(6,.heap 42 Y3)],7,[]⟩ w)) v
theorem f717p2O (k:Nat):SumO P Tryz.f17 126 (f717p2S k):=pt htm0 (f717T k) ⟨[2,3,4,5,6,7],[],[]⟩ SumsOk.nil fun _ _ _=>by kernel_rfl
noncomputable def f717p3 {R:Type}(k:Nat)(k0:D177->Option R)(k1:D178->Option R)(v:D178):Option R :=
 bif (!strEq v.2.2.2.2.2.1 ByteArray.empty) then
 Option.bind (f749F k (v.2.1,v.2.2.2.2.2.1)) fun y10 =>
 bif (y10==(-1)) then
 k0 (0,11,v.1,v.2.1,v.2.2.1,v.2.2.2.1,v.2.2.2.2.1,v.2.2.2.2.2.1,v.2.2.2.2.2.2.1,v.2.2.2.2.2.2.2.1,v.2.2.2.2.2.2.2.2.1,v.2.2.2.2.2.2.2.2.2.2.2.1,())
 else
 bif ((decide (0<=y10))&&(decide (y10<(v.2.1.length:Int)))) then
 let t11:=(v.2.1.getD (Int.toNat y10) (ByteArray.empty,(0,(ByteArray.empty,(ByteArray.empty,([],(ByteArray.empty,[])))))))
 Option.bind (f738F k ((t11.1,(t11.2.1,(t11.2.2.1,(t11.2.2.2.1,(t11.2.2.2.2.1,(t11.2.2.2.2.2.1,t11.2.2.2.2.2.2)))))),v.2.2.2.2.2.2.1)) fun y12 =>
 bif (y12.2.2 !=0) then
 k0 (0,y12.2.2,v.1,v.2.1,v.2.2.1,v.2.2.2.1,v.2.2.2.2.1,v.2.2.2.2.2.1,v.2.2.2.2.2.2.1,v.2.2.2.2.2.2.2.1,v.2.2.2.2.2.2.2.2.1,v.2.2.2.2.2.2.2.2.2.2.2.1,())
 else
 k1 (y12.1,v.2.1,v.2.2.1,v.2.2.2.1,v.2.2.2.2.1,v.2.2.2.2.2.1,v.2.2.2.2.2.2.1,v.2.2.2.2.2.2.2.1,v.2.2.2.2.2.2.2.2.1,v.2.2.2.2.2.2.2.2.2.1,v.2.2.2.2.2.2.2.2.2.2.1,v.2.2.2.2.2.2.2.2.2.2.2.1,())
 else none
 else
 k1 (v.1,v.2.1,v.2.2.1,v.2.2.2.1,v.2.2.2.2.1,v.2.2.2.2.2.1,v.2.2.2.2.2.2.1,v.2.2.2.2.2.2.2.1,v.2.2.2.2.2.2.2.2.1,v.2.2.2.2.2.2.2.2.2.1,v.2.2.2.2.2.2.2.2.2.2.1,v.2.2.2.2.2.2.2.2.2.2.2.1,())
noncomputable def f717p3S (k:Nat):=partSum ⟨[(2,.one (.ptr 0 0)),(3,.one (.ptr 1 0)),(4,.one (.ptr 2 0)),(7,.one (.ptr 3 0)),(9,oS)],[(0,.var 25 [.ro Y10,.ro (.pair .str Y5)]),(1,.var 27 [.str,.str,.str,.str,.str,.bool]),(2,.var 25 [.own 4,.own 5]),(3,.var 25 [.emp,.emp]),(4,.row 82 Y10 .plain),(5,.row 69 (.pair .str Y16) .plain),(6,.heap 42 Y3)],7,[]⟩ ⟨[2,3,4,7,9],[],[]⟩ fun R K v=>f717p3 k (fun w=>K .ret (encSt ⟨[(2,.one (.ptr 0 0)),(3,.one (.ptr 1 0)),(4,.one (.ptr 2 0)),(5,oI),(6,oI),(7,.one (.ptr 3 0)),(9,oS)],[(0,.var 25 [.ro Y10,.ro (.pair .str Y5)]),(1,.var 27 [.str,.str,.str,.str,.str,.bool]),(2,.var 25 [.emp,.emp]),(3,.var 25 [.emp,.emp]),(4,.heap 42 Y3)],5,[]⟩ w)) (fun w=>K .normal (encSt ⟨[(2,.one (.ptr 0 0)),(3,.one (.ptr 1 0)),(4,.one (.ptr 2 0)),(7,.one (.ptr 3 0)),(9,oS)],[(0,.var 25 [.ro Y10,.ro (.pair .str Y5)]),(1,.var 27 [.str,.str,.str,.str,.str,.bool]),(2,.var 25 [.own 4,.own 5]),(3,.var 25 [.emp,.emp]),(4,.row 82 Y10 .plain),(5,.row 69 (.pair .str Y16) .plain),(6,.heap 42 Y3)],7,[]⟩ w)) v
theorem f717p3O (k:Nat):SumO P Tryz.f17 510 (f717p3S k):=pt htm0 (f717T k) ⟨[2,3,4,5,6,7,9],[],[]⟩ SumsOk.nil fun _ _ _=>by kernel_rfl
noncomputable def f717F (k:Nat)(x:D14×(ByteArray×D64)):Option (D14×Int×Int) :=
 Option.bind (f742F k ((x.1.1,x.1.2),x.2.2.1)) fun y1 =>
 bif (y1 !=0) then
 some (([],[]),0,y1)
 else
 f717p0 k
 (fun (w4:D116) =>
 some (([],[]),w4.1,w4.2.1))
 (fun (w5:D117) =>
 f717p1 k
 (fun (w6:D116) =>
 some (([],[]),w6.1,w6.2.1))
 (fun (w7:D117) =>
 f717p2 k
 (fun (w8:D116) =>
 some (([],[]),w8.1,w8.2.1))
 (fun (w9:D117) =>
 f717p3 k
 (fun (w13:D177) =>
 some (([],[]),w13.1,w13.2.1))
 (fun (w14:D178) =>
 bif ((w14.1.size:Int)==0) then
 some (([],[]),0,1)
 else
 bif (decide ((w14.1.size:Int) > 256)) then
 some (([],[]),0,2)
 else
 Option.bind (f756F k w14.1) fun y15 =>
 bif (!y15) then
 some (([],[]),0,5)
 else
 Option.bind (f731F k ((w14.2.1,w14.2.2.1),w14.2.2.2.2.1)) fun y16 =>
 Option.bind (f69F k w14.2.2.2.2.2.2.2.2.1) fun y17 =>
 Option.bind (f757v0F k (w14.2.1,w14.2.2.1,y16,0,y17,w14.2.2.2.2.2.1,w14.1,w14.2.2.2.1,false,false,0,w14.2.2.2.2.2.2.2.2.2.2.2.1,())) fun y18 =>
 bif (((y18.2.2.2.2.1.all fun q=>(true&&(true&&(true&&(true&&(kro (List.map Kid.frz y18.2.2.1) q.2.2.2.2))))))&&true)&&true) then
 some ((y18.2.2.2.1,(y18.2.2.2.2.1.map fun q=>(q.1,(q.2.1,(q.2.2.1,(q.2.2.2.1,(kget (List.map Kid.frz y18.2.2.1) q.2.2.2.2))))))),y18.1,y18.2.1)
 else none)
 (w9.2.2.2.2.2.2.1,w9.1,w9.2.1,w9.2.2.1,w9.2.2.2.1,w9.2.2.2.2.1,w9.2.2.2.2.2.1,w9.2.2.2.2.2.2.1,w9.2.2.2.2.2.2.2.1,w9.2.2.2.2.2.2.2.2.1,w9.2.2.2.2.2.2.2.2.2.1,w9.2.2.2.2.2.2.2.2.2.2.1,()))
 (w7.1,w7.2.1,w7.2.2.1,w7.2.2.2.1,w7.2.2.2.2.1,w7.2.2.2.2.2.1,w7.2.2.2.2.2.2.1,w7.2.2.2.2.2.2.2.1,w7.2.2.2.2.2.2.2.2.1,w7.2.2.2.2.2.2.2.2.2.1,w7.2.2.2.2.2.2.2.2.2.2.1,()))
 (w5.1,w5.2.1,w5.2.2.1,w5.2.2.2.1,w5.2.2.2.2.1,w5.2.2.2.2.2.1,w5.2.2.2.2.2.2.1,w5.2.2.2.2.2.2.2.1,w5.2.2.2.2.2.2.2.2.1,w5.2.2.2.2.2.2.2.2.2.1,w5.2.2.2.2.2.2.2.2.2.2.1,()))
 (x.1.1,x.1.2,x.2.1,x.2.2.1,x.2.2.2.1,x.2.2.2.2.1,x.2.2.2.2.2.1,x.2.2.2.2.2.2,[],[],[],())
theorem f717Ok (k:Nat):FnV P 17 [.agg Y11,.agg (.pair .str Y14)] [.agg Y11,.dat (.int .i64),.dat (.int .i64)] (f717F k) :=
 fs htm0 (f717T k) Tryz.func17 (by kernel_rfl) (SumsOk.nil |>.s (f717p3O k) (by kernel_rfl) |>.s (f717p2O k) (by kernel_rfl) |>.s (f717p1O k) (by kernel_rfl) |>.s (f717p0O k) (by kernel_rfl)) (some (42,Y3)) fun _=>by kernel_rfl
noncomputable def f766p0 {R:Type}(k:Nat)(k0:D179->Option R)(k1:D180->Option R)(v:D180):Option R :=
 bif ((decide (0<=v.1))&&(decide (v.1<(v.2.2.2.2.2.1.length:Int)))) then
 let t1:=(v.2.2.2.2.2.1.getD (Int.toNat v.1) (0,(0,(ByteArray.empty,(ByteArray.empty,(ByteArray.empty,(false,(false,0))))))))
 bif (v.2.2.2.2.2.2.2.1==0) then
 k0 (v.1,v.1,v.2.1,v.2.2.1,v.2.2.2.1,v.2.2.2.2.1,v.2.2.2.2.2.1,v.2.2.2.2.2.2.1,v.2.2.2.2.2.2.2.1,v.2.2.2.2.2.2.2.2.1,v.2.2.2.2.2.2.2.2.2.1,())
 else
 bif (v.2.2.2.2.2.2.2.1==2) then
 bif (!t1.2.2.2.2.2.1) then
 k0 (v.1,v.1,v.2.1,v.2.2.1,v.2.2.2.1,v.2.2.2.2.1,v.2.2.2.2.2.1,v.2.2.2.2.2.2.1,v.2.2.2.2.2.2.2.1,v.2.2.2.2.2.2.2.2.1,v.2.2.2.2.2.2.2.2.2.1,())
 else
 bif (v.2.2.2.2.2.2.2.1==3) then
 bif (decide (t1.1 > v.2.2.2.2.2.2.2.2.1)) then
 k0 (v.1,v.1,v.2.1,v.2.2.1,v.2.2.2.1,v.2.2.2.2.1,v.2.2.2.2.2.1,v.2.2.2.2.2.2.1,v.2.2.2.2.2.2.2.1,v.2.2.2.2.2.2.2.2.1,v.2.2.2.2.2.2.2.2.2.1,())
 else
 bif (v.2.2.2.2.2.2.2.1==4) then
 bif (t1.1==v.2.2.2.2.2.2.2.2.1) then
 k0 (v.1,v.1,v.2.1,v.2.2.1,v.2.2.2.1,v.2.2.2.2.1,v.2.2.2.2.2.1,v.2.2.2.2.2.2.1,v.2.2.2.2.2.2.2.1,v.2.2.2.2.2.2.2.2.1,v.2.2.2.2.2.2.2.2.2.1,())
 else
 k1 (v.1,v.2.1,v.2.2.1,v.2.2.2.1,v.2.2.2.2.1,v.2.2.2.2.2.1,v.2.2.2.2.2.2.1,v.2.2.2.2.2.2.2.1,v.2.2.2.2.2.2.2.2.1,v.2.2.2.2.2.2.2.2.2.1,())
 else
 k1 (v.1,v.2.1,v.2.2.1,v.2.2.2.1,v.2.2.2.2.1,v.2.2.2.2.2.1,v.2.2.2.2.2.2.1,v.2.2.2.2.2.2.2.1,v.2.2.2.2.2.2.2.2.1,v.2.2.2.2.2.2.2.2.2.1,())
 else
 bif (v.2.2.2.2.2.2.2.1==4) then
 bif (t1.1==v.2.2.2.2.2.2.2.2.1) then
 k0 (v.1,v.1,v.2.1,v.2.2.1,v.2.2.2.1,v.2.2.2.2.1,v.2.2.2.2.2.1,v.2.2.2.2.2.2.1,v.2.2.2.2.2.2.2.1,v.2.2.2.2.2.2.2.2.1,v.2.2.2.2.2.2.2.2.2.1,())
 else
 k1 (v.1,v.2.1,v.2.2.1,v.2.2.2.1,v.2.2.2.2.1,v.2.2.2.2.2.1,v.2.2.2.2.2.2.1,v.2.2.2.2.2.2.2.1,v.2.2.2.2.2.2.2.2.1,v.2.2.2.2.2.2.2.2.2.1,())
 else
 k1 (v.1,v.2.1,v.2.2.1,v.2.2.2.1,v.2.2.2.2.1,v.2.2.2.2.2.1,v.2.2.2.2.2.2.1,v.2.2.2.2.2.2.2.1,v.2.2.2.2.2.2.2.2.1,v.2.2.2.2.2.2.2.2.2.1,())
 else
 bif (v.2.2.2.2.2.2.2.1==3) then
 bif (decide (t1.1 > v.2.2.2.2.2.2.2.2.1)) then
 k0 (v.1,v.1,v.2.1,v.2.2.1,v.2.2.2.1,v.2.2.2.2.1,v.2.2.2.2.2.1,v.2.2.2.2.2.2.1,v.2.2.2.2.2.2.2.1,v.2.2.2.2.2.2.2.2.1,v.2.2.2.2.2.2.2.2.2.1,())
 else
 bif (v.2.2.2.2.2.2.2.1==4) then
 bif (t1.1==v.2.2.2.2.2.2.2.2.1) then
 k0 (v.1,v.1,v.2.1,v.2.2.1,v.2.2.2.1,v.2.2.2.2.1,v.2.2.2.2.2.1,v.2.2.2.2.2.2.1,v.2.2.2.2.2.2.2.1,v.2.2.2.2.2.2.2.2.1,v.2.2.2.2.2.2.2.2.2.1,())
 else
 k1 (v.1,v.2.1,v.2.2.1,v.2.2.2.1,v.2.2.2.2.1,v.2.2.2.2.2.1,v.2.2.2.2.2.2.1,v.2.2.2.2.2.2.2.1,v.2.2.2.2.2.2.2.2.1,v.2.2.2.2.2.2.2.2.2.1,())
 else
 k1 (v.1,v.2.1,v.2.2.1,v.2.2.2.1,v.2.2.2.2.1,v.2.2.2.2.2.1,v.2.2.2.2.2.2.1,v.2.2.2.2.2.2.2.1,v.2.2.2.2.2.2.2.2.1,v.2.2.2.2.2.2.2.2.2.1,())
 else
 bif (v.2.2.2.2.2.2.2.1==4) then
 bif (t1.1==v.2.2.2.2.2.2.2.2.1) then
 k0 (v.1,v.1,v.2.1,v.2.2.1,v.2.2.2.1,v.2.2.2.2.1,v.2.2.2.2.2.1,v.2.2.2.2.2.2.1,v.2.2.2.2.2.2.2.1,v.2.2.2.2.2.2.2.2.1,v.2.2.2.2.2.2.2.2.2.1,())
 else
 k1 (v.1,v.2.1,v.2.2.1,v.2.2.2.1,v.2.2.2.2.1,v.2.2.2.2.2.1,v.2.2.2.2.2.2.1,v.2.2.2.2.2.2.2.1,v.2.2.2.2.2.2.2.2.1,v.2.2.2.2.2.2.2.2.2.1,())
 else
 k1 (v.1,v.2.1,v.2.2.1,v.2.2.2.1,v.2.2.2.2.1,v.2.2.2.2.2.1,v.2.2.2.2.2.2.1,v.2.2.2.2.2.2.2.1,v.2.2.2.2.2.2.2.2.1,v.2.2.2.2.2.2.2.2.2.1,())
 else none
noncomputable def f766p0S (k:Nat):=partSum ⟨[(2,.one (.ptr 0 0)),(3,.one (.ptr 1 0)),(5,oI)],[(0,.var 69 [.str,.int .i64,.bool,.int .i64,.ro Y3]),(1,.var 40 [.str,.int .i64,.int .i64,.bool])],2,[]⟩ ⟨[2,3,5],[],[]⟩ fun R K v=>f766p0 k (fun w=>K .ret (encSt ⟨[(2,.one (.ptr 0 0)),(3,.one (.ptr 1 0)),(4,oI),(5,oI)],[(0,.var 69 [.str,.int .i64,.bool,.int .i64,.ro Y3]),(1,.var 40 [.str,.int .i64,.int .i64,.bool])],2,[]⟩ w)) (fun w=>K .normal (encSt ⟨[(2,.one (.ptr 0 0)),(3,.one (.ptr 1 0)),(5,oI)],[(0,.var 69 [.str,.int .i64,.bool,.int .i64,.ro Y3]),(1,.var 40 [.str,.int .i64,.int .i64,.bool])],2,[]⟩ w)) v
theorem f766p0O (k:Nat):SumO P Tryz.f66 466 (f766p0S k):=pt tm TB.nil ⟨[2,3,4,5],[],[]⟩ SumsOk.nil fun _ _ _=>by kernel_rfl
noncomputable def f766l1s {R:Type}(k:Nat)(rec:D180->Option R)(k0:Int×Unit->Option R)(k1:Unit->Option R)(v:D180):Option R :=
 bif (decide (v.1<(v.2.2.2.2.2.1.length:Int))) then
 f766p0 k
 (fun (w2:D179) =>
 k0 (w2.1,()))
 (fun (w3:D180) =>
 rec ((IntKind.i64.wrap (w3.1+1)),w3.2.1,w3.2.2.1,w3.2.2.2.1,w3.2.2.2.2.1,w3.2.2.2.2.2.1,w3.2.2.2.2.2.2.1,w3.2.2.2.2.2.2.2.1,w3.2.2.2.2.2.2.2.2.1,w3.2.2.2.2.2.2.2.2.2.1,()))
 (v.1,v.2.1,v.2.2.1,v.2.2.2.1,v.2.2.2.2.1,v.2.2.2.2.2.1,v.2.2.2.2.2.2.1,v.2.2.2.2.2.2.2.1,v.2.2.2.2.2.2.2.2.1,v.2.2.2.2.2.2.2.2.2.1,())
 else
 k1 (())
noncomputable def f766l1 {R:Type}(k:Nat)(k0:Int×Unit->Option R)(k1:Unit->Option R)(v:D180):Option R:=iterS (fun rec v=>f766l1s k rec k0 k1 v) k v
noncomputable def f766l1S (k:Nat):=loopSum ⟨[(2,.one (.ptr 0 0)),(3,.one (.ptr 1 0)),(5,oI)],[(0,.var 69 [.str,.int .i64,.bool,.int .i64,.ro Y3]),(1,.var 40 [.str,.int .i64,.int .i64,.bool])],2,[]⟩ ⟨[2,3,5],[],[]⟩ k fun R rec K v=>f766l1s k rec (fun w=>K .ret (encSt ⟨[(4,oI)],[],0,[]⟩ w)) (fun w=>K (.exit 0) (encSt ⟨[],[],0,[]⟩ w)) v
theorem f766l1O (k:Nat):SumO P Tryz.f66 58 (f766l1S k):=lp tm TB.nil ⟨[4],[],[]⟩ (SumsOk.nil |>.s (f766p0O k) (by kernel_rfl)) (by kernel_rfl) fun _ _ _ _=>by kernel_rfl
noncomputable def f766F (k:Nat)(x:D6×D133):Option (Int) :=
 bif (x.2.2.1==1) then
 some (IntKind.i64.wrap ((x.1.2.2.2.2.length:Int) - 1))
 else
 f766l1 k
 (fun (w4:Int×Unit) =>
 some w4.1)
 (fun (w5:Unit) =>
 some (-1))
 (0,x.1.1,x.1.2.1,x.1.2.2.1,x.1.2.2.2.1,x.1.2.2.2.2,x.2.1,x.2.2.1,x.2.2.2.1,x.2.2.2.2,())
theorem f766Ok (k:Nat):FnV P 66 [.agg (.pair .str Y5),.agg Y18] [.dat (.int .i64)] (f766F k) :=
 fs tm TB.nil Tryz.func66 (by kernel_rfl) (SumsOk.nil |>.s (f766l1O k) (by kernel_rfl) |>.s (f766p0O k) (by kernel_rfl)) none fun _=>by kernel_rfl
noncomputable def f720T (k:Nat):TB P:=TB.nil |>.p (f767Ok k) |>.u (f766Ok k) |>.u (f48Ok k) |>.u (f742Ok k) |>.u (f731Ok k) |>.g (f716v0Ok k)
noncomputable def f720F (k:Nat)(x:D14×D133):Option (D137) :=
 Option.bind (f742F k ((x.1.1,x.1.2),x.2.1)) fun y1 =>
 bif (y1 !=0) then
 some (([],[]),(0,(0,(ByteArray.empty,(ByteArray.empty,(ByteArray.empty,(false,(false,0))))))),y1)
 else
 Option.bind (f48F k (x.2.2.1,0,4)) fun y2 =>
 bif (!y2) then
 some (([],[]),(0,(0,(ByteArray.empty,(ByteArray.empty,(ByteArray.empty,(false,(false,0))))))),4)
 else
 Option.bind (f731F k ((x.1.1,x.1.2),x.2.1)) fun y3 =>
 bif ((decide (0<=y3))&&(decide (y3<(x.1.2.length:Int)))) then
 let t4:=(x.1.2.getD (Int.toNat y3) (ByteArray.empty,(0,(false,(0,[])))))
 Option.bind (f766F k ((t4.1,(t4.2.1,(t4.2.2.1,(t4.2.2.2.1,t4.2.2.2.2)))),(x.2.1,(x.2.2.1,(x.2.2.2.1,x.2.2.2.2))))) fun y5 =>
 bif (decide (y5<0)) then
 some (([],[]),(0,(0,(ByteArray.empty,(ByteArray.empty,(ByteArray.empty,(false,(false,0))))))),40)
 else
 bif ((decide (0<=y3))&&(decide (y3<(x.1.2.length:Int)))) then
 let t6:=(x.1.2.getD (Int.toNat y3) (ByteArray.empty,(0,(false,(0,[])))))
 bif ((decide (0<=y5))&&(decide (y5<(t6.2.2.2.2.length:Int)))) then
 let t7:=(t6.2.2.2.2.getD (Int.toNat y5) (0,(0,(ByteArray.empty,(ByteArray.empty,(ByteArray.empty,(false,(false,0))))))))
 bif x.2.2.2.2 then
 Option.bind (f767F k ((x.1.1,x.1.2),(y3,t7.1))) fun y8 =>
 bif (y8.2 !=0) then
 some (([],[]),(0,(0,(ByteArray.empty,(ByteArray.empty,(ByteArray.empty,(false,(false,0))))))),y8.2)
 else
 some ((y8.1.1,y8.1.2),(t7.1,(t7.2.1,(t7.2.2.1,(t7.2.2.2.1,(t7.2.2.2.2.1,(t7.2.2.2.2.2.1,(t7.2.2.2.2.2.2.1,t7.2.2.2.2.2.2.2))))))),0)
 else
 Option.bind (f716v0F k (x.1.1,x.1.2,[],())) fun y9 =>
 bif ((decide (0<=y3))&&(decide (y3<(y9.2.2.1.length:Int)))) then
 let t10:=(y9.2.2.1.getD (Int.toNat y3) (ByteArray.empty,(0,(false,(0,(0:Nat)))))).2.2.2.2
 bif ((kalive y9.1 t10)&&((decide (0<=y5))&&(decide (y5<((kget y9.1 t10).length:Int))))) then
 bif (kown y9.1 t10) then
 let t11:=(kset y9.1 t10 (Int.toNat y5) (((kget y9.1 t10).getD (Int.toNat y5) (0,(0,(ByteArray.empty,(ByteArray.empty,(ByteArray.empty,(false,(false,0)))))))).1,(((kget y9.1 t10).getD (Int.toNat y5) (0,(0,(ByteArray.empty,(ByteArray.empty,(ByteArray.empty,(false,(false,0)))))))).2.1,(((kget y9.1 t10).getD (Int.toNat y5) (0,(0,(ByteArray.empty,(ByteArray.empty,(ByteArray.empty,(false,(false,0)))))))).2.2.1,(((kget y9.1 t10).getD (Int.toNat y5) (0,(0,(ByteArray.empty,(ByteArray.empty,(ByteArray.empty,(false,(false,0)))))))).2.2.2.1,(((kget y9.1 t10).getD (Int.toNat y5) (0,(0,(ByteArray.empty,(ByteArray.empty,(ByteArray.empty,(false,(false,0)))))))).2.2.2.2.1,(true,(((kget y9.1 t10).getD (Int.toNat y5) (0,(0,(ByteArray.empty,(ByteArray.empty,(ByteArray.empty,(false,(false,0)))))))).2.2.2.2.2.2.1,((kget y9.1 t10).getD (Int.toNat y5) (0,(0,(ByteArray.empty,(ByteArray.empty,(ByteArray.empty,(false,(false,0)))))))).2.2.2.2.2.2.2))))))))
 bif (((y9.2.2.1.all fun q=>(true&&(true&&(true&&(true&&(kro (List.map Kid.frz t11) q.2.2.2.2))))))&&true)&&true) then
 some ((y9.2.1,(y9.2.2.1.map fun q=>(q.1,(q.2.1,(q.2.2.1,(q.2.2.2.1,(kget (List.map Kid.frz t11) q.2.2.2.2))))))),(t7.1,(t7.2.1,(t7.2.2.1,(t7.2.2.2.1,(t7.2.2.2.2.1,(t7.2.2.2.2.2.1,(t7.2.2.2.2.2.2.1,t7.2.2.2.2.2.2.2))))))),0)
 else none
 else none
 else none
 else none
 else none
 else none
 else none
theorem f720Ok (k:Nat):FnV P 20 [.agg Y11,.agg Y18] [.agg Y11,.agg Y3,.dat (.int .i64)] (f720F k) :=
 fs htm0 (f720T k) Tryz.func20 (by kernel_rfl) SumsOk.nil (some (42,Y3)) fun _=>by kernel_rfl
noncomputable def f722T (k:Nat):TB P:=TB.nil |>.g (f774v0Ok k) |>.u (f773Ok k) |>.u (f772Ok k) |>.u (f756Ok k) |>.u (f749Ok k) |>.u (f742Ok k) |>.u (f733Ok k) |>.u (f731Ok k)
noncomputable def f722p0 {R:Type}(k:Nat)(k0:D181->Option R)(v:D181):Option R :=
 bif (strEq v.2.1 ByteArray.empty) then
 Option.bind (f772F k ((v.2.2.1,v.2.2.2.1),(v.2.2.2.2.2.2.2.1,(v.2.2.2.2.2.2.2.2.1,(v.2.2.2.2.2.2.2.2.2.1,(v.2.2.2.2.2.2.2.2.2.2.1,(v.2.2.2.2.2.2.2.2.2.2.2.1,(v.2.2.2.2.2.2.2.2.2.2.2.2.1,(v.2.2.2.2.2.2.2.2.2.2.2.2.2.1,v.2.2.2.2.2.2.2.2.2.2.2.2.2.2.1))))))))) fun y8 =>
 k0 (v.1,y8,v.2.2.1,v.2.2.2.1,v.2.2.2.2.1,v.2.2.2.2.2.1,v.2.2.2.2.2.2.1,v.2.2.2.2.2.2.2.1,v.2.2.2.2.2.2.2.2.1,v.2.2.2.2.2.2.2.2.2.1,v.2.2.2.2.2.2.2.2.2.2.1,v.2.2.2.2.2.2.2.2.2.2.2.1,v.2.2.2.2.2.2.2.2.2.2.2.2.1,v.2.2.2.2.2.2.2.2.2.2.2.2.2.1,v.2.2.2.2.2.2.2.2.2.2.2.2.2.2.1,v.2.2.2.2.2.2.2.2.2.2.2.2.2.2.2.1,v.2.2.2.2.2.2.2.2.2.2.2.2.2.2.2.2.1,v.2.2.2.2.2.2.2.2.2.2.2.2.2.2.2.2.2.1,())
 else
 k0 (v.1,v.2.1,v.2.2.1,v.2.2.2.1,v.2.2.2.2.1,v.2.2.2.2.2.1,v.2.2.2.2.2.2.1,v.2.2.2.2.2.2.2.1,v.2.2.2.2.2.2.2.2.1,v.2.2.2.2.2.2.2.2.2.1,v.2.2.2.2.2.2.2.2.2.2.1,v.2.2.2.2.2.2.2.2.2.2.2.1,v.2.2.2.2.2.2.2.2.2.2.2.2.1,v.2.2.2.2.2.2.2.2.2.2.2.2.2.1,v.2.2.2.2.2.2.2.2.2.2.2.2.2.2.1,v.2.2.2.2.2.2.2.2.2.2.2.2.2.2.2.1,v.2.2.2.2.2.2.2.2.2.2.2.2.2.2.2.2.1,v.2.2.2.2.2.2.2.2.2.2.2.2.2.2.2.2.2.1,())
noncomputable def f722p0S (k:Nat):=partSum ⟨[(2,.one (.ptr 0 0)),(3,.one (.ptr 1 0)),(4,.one (.ptr 2 0)),(6,.one (.ptr 3 0)),(8,oI),(10,.one (.ptr 4 0)),(11,oS)],[(0,.var 25 [.ro Y10,.ro (.pair .str Y5)]),(1,.var 49 [.str,.int .i64,.str]),(2,.var 25 [.own 5,.own 6]),(3,.var 25 [.emp,.emp]),(4,.var 42 [.int .i64,.int .i64,.str,.str,.str,.bool,.bool,.int .i64]),(5,.row 82 Y10 .plain),(6,.row 69 (.pair .str Y16) .plain),(7,.heap 42 Y3)],8,[]⟩ ⟨[2,3,4,6,8,10,11],[],[]⟩ fun R K v=>f722p0 k (fun w=>K .normal (encSt ⟨[(2,.one (.ptr 0 0)),(3,.one (.ptr 1 0)),(4,.one (.ptr 2 0)),(6,.one (.ptr 3 0)),(8,oI),(10,.one (.ptr 4 0)),(11,oS)],[(0,.var 25 [.ro Y10,.ro (.pair .str Y5)]),(1,.var 49 [.str,.int .i64,.str]),(2,.var 25 [.own 5,.own 6]),(3,.var 25 [.emp,.emp]),(4,.var 42 [.int .i64,.int .i64,.str,.str,.str,.bool,.bool,.int .i64]),(5,.row 82 Y10 .plain),(6,.row 69 (.pair .str Y16) .plain),(7,.heap 42 Y3)],8,[]⟩ w)) v
theorem f722p0O (k:Nat):SumO P Tryz.f22 16382 (f722p0S k):=pt htm0 (f722T k) ⟨[2,3,4,5,6,8,10,11],[],[]⟩ SumsOk.nil fun _ _ _=>by kernel_rfl
noncomputable def f722p1 {R:Type}(k:Nat)(k0:D182->Option R)(k1:D183->Option R)(v:D184):Option R :=
 bif (v.2.2.1 !=(-1)) then
 bif ((decide (0<=v.2.2.1))&&(decide (v.2.2.1<(v.2.2.2.1.length:Int)))) then
 let t11:=(v.2.2.2.1.getD (Int.toNat v.2.2.1) (ByteArray.empty,(0,(ByteArray.empty,(ByteArray.empty,([],(ByteArray.empty,[])))))))
 bif (decide ((t11.2.2.2.2.2.2.length:Int) > 0)) then
 Option.bind (f772F k ((v.2.2.2.1,v.2.2.2.2.1),(v.2.2.2.2.2.2.2.2.1,(v.2.2.2.2.2.2.2.2.2.1,(v.2.2.2.2.2.2.2.2.2.2.1,(v.2.2.2.2.2.2.2.2.2.2.2.1,(v.2.2.2.2.2.2.2.2.2.2.2.2.1,(v.2.2.2.2.2.2.2.2.2.2.2.2.2.1,(v.2.2.2.2.2.2.2.2.2.2.2.2.2.2.1,v.2.2.2.2.2.2.2.2.2.2.2.2.2.2.2.1))))))))) fun y12 =>
 bif (!strEq v.2.1 y12) then
 bif ((decide (0<=v.2.2.1))&&(decide (v.2.2.1<(v.2.2.2.1.length:Int)))) then
 let t13:=(v.2.2.2.1.getD (Int.toNat v.2.2.1) (ByteArray.empty,(0,(ByteArray.empty,(ByteArray.empty,([],(ByteArray.empty,[])))))))
 Option.bind (f773F k (t13.2.2.2.2.2.2,v.2.1)) fun y14 =>
 bif (y14==(-1)) then
 k0 (39,v.1,v.2.1,v.2.2.2.1,v.2.2.2.2.1,v.2.2.2.2.2.1,v.2.2.2.2.2.2.1,v.2.2.2.2.2.2.2.1,v.2.2.2.2.2.2.2.2.2.2.2.2.2.2.2.2.2.2.1,())
 else
 k1 (v.1,v.2.1,v.2.2.2.1,v.2.2.2.2.1,v.2.2.2.2.2.1,v.2.2.2.2.2.2.1,v.2.2.2.2.2.2.2.1,v.2.2.2.2.2.2.2.2.2.2.2.2.2.2.2.2.1,v.2.2.2.2.2.2.2.2.2.2.2.2.2.2.2.2.2.1,v.2.2.2.2.2.2.2.2.2.2.2.2.2.2.2.2.2.2.1,())
 else none
 else
 k1 (v.1,v.2.1,v.2.2.2.1,v.2.2.2.2.1,v.2.2.2.2.2.1,v.2.2.2.2.2.2.1,v.2.2.2.2.2.2.2.1,v.2.2.2.2.2.2.2.2.2.2.2.2.2.2.2.2.1,v.2.2.2.2.2.2.2.2.2.2.2.2.2.2.2.2.2.1,v.2.2.2.2.2.2.2.2.2.2.2.2.2.2.2.2.2.2.1,())
 else
 k1 (v.1,v.2.1,v.2.2.2.1,v.2.2.2.2.1,v.2.2.2.2.2.1,v.2.2.2.2.2.2.1,v.2.2.2.2.2.2.2.1,v.2.2.2.2.2.2.2.2.2.2.2.2.2.2.2.2.1,v.2.2.2.2.2.2.2.2.2.2.2.2.2.2.2.2.2.1,v.2.2.2.2.2.2.2.2.2.2.2.2.2.2.2.2.2.2.1,())
 else none
 else
 k1 (v.1,v.2.1,v.2.2.2.1,v.2.2.2.2.1,v.2.2.2.2.2.1,v.2.2.2.2.2.2.1,v.2.2.2.2.2.2.2.1,v.2.2.2.2.2.2.2.2.2.2.2.2.2.2.2.2.1,v.2.2.2.2.2.2.2.2.2.2.2.2.2.2.2.2.2.1,v.2.2.2.2.2.2.2.2.2.2.2.2.2.2.2.2.2.2.1,())
noncomputable def f722p1S (k:Nat):=partSum ⟨[(2,.one (.ptr 0 0)),(3,.one (.ptr 1 0)),(4,.one (.ptr 2 0)),(6,.one (.ptr 3 0)),(8,oI),(10,.one (.ptr 4 0)),(11,oS),(12,oI)],[(0,.var 25 [.ro Y10,.ro (.pair .str Y5)]),(1,.var 49 [.str,.int .i64,.str]),(2,.var 25 [.own 5,.own 6]),(3,.var 25 [.emp,.emp]),(4,.var 42 [.int .i64,.int .i64,.str,.str,.str,.bool,.bool,.int .i64]),(5,.row 82 Y10 .plain),(6,.row 69 (.pair .str Y16) .plain),(7,.heap 42 Y3)],8,[]⟩ ⟨[2,3,4,6,8,10,11,12],[],[]⟩ fun R K v=>f722p1 k (fun w=>K .ret (encSt ⟨[(2,.one (.ptr 0 0)),(3,.one (.ptr 1 0)),(4,.one (.ptr 2 0)),(5,oI),(8,oI),(11,oS)],[(0,.var 25 [.ro Y10,.ro (.pair .str Y5)]),(1,.var 49 [.str,.int .i64,.str]),(2,.var 25 [.emp,.emp]),(3,.heap 42 Y3)],4,[]⟩ w)) (fun w=>K .normal (encSt ⟨[(2,.one (.ptr 0 0)),(3,.one (.ptr 1 0)),(4,.one (.ptr 2 0)),(8,oI),(11,oS)],[(0,.var 25 [.ro Y10,.ro (.pair .str Y5)]),(1,.var 49 [.str,.int .i64,.str]),(2,.var 25 [.own 3,.own 4]),(3,.row 82 Y10 .plain),(4,.row 69 (.pair .str Y16) .plain),(5,.heap 42 Y3)],6,[]⟩ w)) v
theorem f722p1O (k:Nat):SumO P Tryz.f22 65534 (f722p1S k):=pt htm0 (f722T k) ⟨[2,3,4,5,8,11],[],[]⟩ SumsOk.nil fun _ _ _=>by kernel_rfl
noncomputable def f722F (k:Nat)(x:D14×D185):Option (D14×Int) :=
 Option.bind (f742F k ((x.1.1,x.1.2),x.2.1)) fun y1 =>
 bif (y1 !=0) then
 some (([],[]),y1)
 else
 Option.bind (f731F k ((x.1.1,x.1.2),x.2.1)) fun y2 =>
 bif ((decide (0<=y2))&&(decide (y2<(x.1.2.length:Int)))) then
 let t3:=(x.1.2.getD (Int.toNat y2) (ByteArray.empty,(0,(false,(0,[])))))
 Option.bind (f733F k ((t3.1,(t3.2.1,(t3.2.2.1,(t3.2.2.2.1,t3.2.2.2.2)))),x.2.2.1)) fun y4 =>
 bif (y4==(-1)) then
 some (([],[]),11)
 else
 bif ((decide (0<=y2))&&(decide (y2<(x.1.2.length:Int)))) then
 let t5:=(x.1.2.getD (Int.toNat y2) (ByteArray.empty,(0,(false,(0,[])))))
 bif ((decide (0<=y4))&&(decide (y4<(t5.2.2.2.2.length:Int)))) then
 let t6:=(t5.2.2.2.2.getD (Int.toNat y4) (0,(0,(ByteArray.empty,(ByteArray.empty,(ByteArray.empty,(false,(false,0))))))))
 bif (t6.2.1 !=1) then
 some (([],[]),4)
 else
 bif t6.2.2.2.2.2.2.1 then
 some (([],[]),26)
 else
 bif (decide ((x.2.2.2.size:Int) > 32)) then
 some (([],[]),2)
 else
 Option.bind (f756F k x.2.2.2) fun y7 =>
 bif (!y7) then
 some (([],[]),5)
 else
 f722p0 k
 (fun (w9:D181) =>
 Option.bind (f749F k (w9.2.2.1,w9.2.2.2.2.2.2.2.2.2.1)) fun y10 =>
 f722p1 k
 (fun (w15:D182) =>
 some (([],[]),w15.1))
 (fun (w16:D183) =>
 Option.bind (f774v0F k (w16.2.2.1,w16.2.2.2.1,w16.1,w16.2.2.2.2.2.1,w16.2.1,w16.2.2.2.2.2.2.2.2.2.1,())) fun y17 =>
 bif (((y17.2.2.2.1.all fun q=>(true&&(true&&(true&&(true&&(kro (List.map Kid.frz y17.2.1) q.2.2.2.2))))))&&true)&&true) then
 some ((y17.2.2.1,(y17.2.2.2.1.map fun q=>(q.1,(q.2.1,(q.2.2.1,(q.2.2.2.1,(kget (List.map Kid.frz y17.2.1) q.2.2.2.2))))))),y17.1)
 else none)
 (w9.1,w9.2.1,y10,w9.2.2.1,w9.2.2.2.1,w9.2.2.2.2.1,w9.2.2.2.2.2.1,w9.2.2.2.2.2.2.1,w9.2.2.2.2.2.2.2.1,w9.2.2.2.2.2.2.2.2.1,w9.2.2.2.2.2.2.2.2.2.1,w9.2.2.2.2.2.2.2.2.2.2.1,w9.2.2.2.2.2.2.2.2.2.2.2.1,w9.2.2.2.2.2.2.2.2.2.2.2.2.1,w9.2.2.2.2.2.2.2.2.2.2.2.2.2.1,w9.2.2.2.2.2.2.2.2.2.2.2.2.2.2.1,w9.2.2.2.2.2.2.2.2.2.2.2.2.2.2.2.1,w9.2.2.2.2.2.2.2.2.2.2.2.2.2.2.2.2.1,w9.2.2.2.2.2.2.2.2.2.2.2.2.2.2.2.2.2.1,()))
 (y2,x.2.2.2,x.1.1,x.1.2,x.2.1,x.2.2.1,x.2.2.2,t6.1,t6.2.1,t6.2.2.1,t6.2.2.2.1,t6.2.2.2.2.1,t6.2.2.2.2.2.1,t6.2.2.2.2.2.2.1,t6.2.2.2.2.2.2.2,[],[],[],())
 else none
 else none
 else none
theorem f722Ok (k:Nat):FnV P 22 [.agg Y11,.agg (.pair .str Y12)] [.agg Y11,.dat (.int .i64)] (f722F k) :=
 fs htm0 (f722T k) Tryz.func22 (by kernel_rfl) (SumsOk.nil |>.s (f722p1O k) (by kernel_rfl) |>.s (f722p0O k) (by kernel_rfl)) (some (42,Y3)) fun _=>by kernel_rfl
noncomputable def f775T (k:Nat):TB P:=TB.nil |>.p (f723Ok k) |>.p (f721Ok k) |>.p (f719Ok k) |>.p (f715Ok k)
noncomputable def f775p0 {R:Type}(k:Nat)(k0:D186->Option R)(k1:D187->Option R)(v:D188):Option R :=
 bif (v.2.2.1==0) then
 Option.bind (f715F k ((v.1,v.2.1),(v.2.2.2.1,(v.2.2.2.2.1,(v.2.2.2.2.2.1,(v.2.2.2.2.2.2.1,(v.2.2.2.2.2.2.2.1,v.2.2.2.2.2.2.2.2.1))))))) fun y1 =>
 let t2:=v.2.2.2.2.2.2.2.2.2.2.2.2.2.2.2.2.2.2.2.2.2.2.2.2.2.2.2.2.2.2.2.2.2.2.2.2.1
 let t3:=v.2.2.2.2.2.2.2.2.2.2.2.2.2.2.2.2.2.2.2.2.2.2.2.2.2.2.2.2.2.2.2.2.2.2.2.2.2.1
 k0 (v.1,v.2.1,v.2.2.2.2.2.2.2.2.2.2.2.2.2.2.1,v.2.2.2.2.2.2.2.2.2.2.2.2.2.2.2.1,v.2.2.2.2.2.2.2.2.2.2.2.2.2.2.2.2.1,v.2.2.2.2.2.2.2.2.2.2.2.2.2.2.2.2.2.1,v.2.2.2.2.2.2.2.2.2.2.2.2.2.2.2.2.2.2.1,v.2.2.2.2.2.2.2.2.2.2.2.2.2.2.2.2.2.2.2.1,v.2.2.2.2.2.2.2.2.2.2.2.2.2.2.2.2.2.2.2.2.1,v.2.2.2.2.2.2.2.2.2.2.2.2.2.2.2.2.2.2.2.2.2.1,v.2.2.2.2.2.2.2.2.2.2.2.2.2.2.2.2.2.2.2.2.2.2.1,v.2.2.2.2.2.2.2.2.2.2.2.2.2.2.2.2.2.2.2.2.2.2.2.1,y1.1.1,y1.1.2,y1.2.2,y1.2.1,v.2.2.2.2.2.2.2.2.2.2.2.2.2.2.2.2.2.2.2.2.2.2.2.2.2.2.1,v.2.2.2.2.2.2.2.2.2.2.2.2.2.2.2.2.2.2.2.2.2.2.2.2.2.2.2.1,v.2.2.2.2.2.2.2.2.2.2.2.2.2.2.2.2.2.2.2.2.2.2.2.2.2.2.2.2.1,v.2.2.2.2.2.2.2.2.2.2.2.2.2.2.2.2.2.2.2.2.2.2.2.2.2.2.2.2.2.1,v.2.2.2.2.2.2.2.2.2.2.2.2.2.2.2.2.2.2.2.2.2.2.2.2.2.2.2.2.2.2.1,v.2.2.2.2.2.2.2.2.2.2.2.2.2.2.2.2.2.2.2.2.2.2.2.2.2.2.2.2.2.2.2.1,v.2.2.2.2.2.2.2.2.2.2.2.2.2.2.2.2.2.2.2.2.2.2.2.2.2.2.2.2.2.2.2.2.1,v.2.2.2.2.2.2.2.2.2.2.2.2.2.2.2.2.2.2.2.2.2.2.2.2.2.2.2.2.2.2.2.2.2.1,v.2.2.2.2.2.2.2.2.2.2.2.2.2.2.2.2.2.2.2.2.2.2.2.2.2.2.2.2.2.2.2.2.2.2.1,v.2.2.2.2.2.2.2.2.2.2.2.2.2.2.2.2.2.2.2.2.2.2.2.2.2.2.2.2.2.2.2.2.2.2.2.1,())
 else
 bif (v.2.2.1==1) then
 Option.bind (f719F k ((v.1,v.2.1),(v.2.2.2.2.2.2.2.2.2.1,(v.2.2.2.2.2.2.2.2.2.2.1,(v.2.2.2.2.2.2.2.2.2.2.2.1,v.2.2.2.2.2.2.2.2.2.2.2.2.1))))) fun y4 =>
 let t5:=v.2.2.2.2.2.2.2.2.2.2.2.2.2.2.2.2.2.2.2.2.2.2.2.2.2.2.2.2.2.2.2.2.2.2.2.2.1
 let t6:=v.2.2.2.2.2.2.2.2.2.2.2.2.2.2.2.2.2.2.2.2.2.2.2.2.2.2.2.2.2.2.2.2.2.2.2.2.2.1
 k0 (v.1,v.2.1,v.2.2.2.2.2.2.2.2.2.2.2.2.2.2.1,v.2.2.2.2.2.2.2.2.2.2.2.2.2.2.2.1,v.2.2.2.2.2.2.2.2.2.2.2.2.2.2.2.2.1,v.2.2.2.2.2.2.2.2.2.2.2.2.2.2.2.2.2.1,v.2.2.2.2.2.2.2.2.2.2.2.2.2.2.2.2.2.2.1,v.2.2.2.2.2.2.2.2.2.2.2.2.2.2.2.2.2.2.2.1,v.2.2.2.2.2.2.2.2.2.2.2.2.2.2.2.2.2.2.2.2.1,v.2.2.2.2.2.2.2.2.2.2.2.2.2.2.2.2.2.2.2.2.2.1,v.2.2.2.2.2.2.2.2.2.2.2.2.2.2.2.2.2.2.2.2.2.2.1,v.2.2.2.2.2.2.2.2.2.2.2.2.2.2.2.2.2.2.2.2.2.2.2.1,y4.1.1,y4.1.2,y4.2.2,v.2.2.2.2.2.2.2.2.2.2.2.2.2.2.2.2.2.2.2.2.2.2.2.2.2.1,y4.2.1.1,y4.2.1.2.1,y4.2.1.2.2.1,y4.2.1.2.2.2.1,y4.2.1.2.2.2.2.1,y4.2.1.2.2.2.2.2.1,y4.2.1.2.2.2.2.2.2.1,y4.2.1.2.2.2.2.2.2.2,v.2.2.2.2.2.2.2.2.2.2.2.2.2.2.2.2.2.2.2.2.2.2.2.2.2.2.2.2.2.2.2.2.2.2.1,v.2.2.2.2.2.2.2.2.2.2.2.2.2.2.2.2.2.2.2.2.2.2.2.2.2.2.2.2.2.2.2.2.2.2.2.1,())
 else
 bif (v.2.2.1==2) then
 Option.bind (f721F k ((v.1,v.2.1),v.2.2.2.2.2.2.2.2.2.1,v.2.2.2.2.2.2.2.2.2.2.2.1,v.2.2.2.2.2.2.2.2.2.2.2.2.2.1)) fun y7 =>
 let t8:=v.2.2.2.2.2.2.2.2.2.2.2.2.2.2.2.2.2.2.2.2.2.2.2.2.2.2.2.2.2.2.2.2.2.2.2.2.1
 let t9:=v.2.2.2.2.2.2.2.2.2.2.2.2.2.2.2.2.2.2.2.2.2.2.2.2.2.2.2.2.2.2.2.2.2.2.2.2.2.1
 k0 (v.1,v.2.1,v.2.2.2.2.2.2.2.2.2.2.2.2.2.2.1,v.2.2.2.2.2.2.2.2.2.2.2.2.2.2.2.1,v.2.2.2.2.2.2.2.2.2.2.2.2.2.2.2.2.1,v.2.2.2.2.2.2.2.2.2.2.2.2.2.2.2.2.2.1,v.2.2.2.2.2.2.2.2.2.2.2.2.2.2.2.2.2.2.1,v.2.2.2.2.2.2.2.2.2.2.2.2.2.2.2.2.2.2.2.1,v.2.2.2.2.2.2.2.2.2.2.2.2.2.2.2.2.2.2.2.2.1,v.2.2.2.2.2.2.2.2.2.2.2.2.2.2.2.2.2.2.2.2.2.1,v.2.2.2.2.2.2.2.2.2.2.2.2.2.2.2.2.2.2.2.2.2.2.1,v.2.2.2.2.2.2.2.2.2.2.2.2.2.2.2.2.2.2.2.2.2.2.2.1,y7.1.1,y7.1.2,y7.2,v.2.2.2.2.2.2.2.2.2.2.2.2.2.2.2.2.2.2.2.2.2.2.2.2.2.1,v.2.2.2.2.2.2.2.2.2.2.2.2.2.2.2.2.2.2.2.2.2.2.2.2.2.2.1,v.2.2.2.2.2.2.2.2.2.2.2.2.2.2.2.2.2.2.2.2.2.2.2.2.2.2.2.1,v.2.2.2.2.2.2.2.2.2.2.2.2.2.2.2.2.2.2.2.2.2.2.2.2.2.2.2.2.1,v.2.2.2.2.2.2.2.2.2.2.2.2.2.2.2.2.2.2.2.2.2.2.2.2.2.2.2.2.2.1,v.2.2.2.2.2.2.2.2.2.2.2.2.2.2.2.2.2.2.2.2.2.2.2.2.2.2.2.2.2.2.1,v.2.2.2.2.2.2.2.2.2.2.2.2.2.2.2.2.2.2.2.2.2.2.2.2.2.2.2.2.2.2.2.1,v.2.2.2.2.2.2.2.2.2.2.2.2.2.2.2.2.2.2.2.2.2.2.2.2.2.2.2.2.2.2.2.2.1,v.2.2.2.2.2.2.2.2.2.2.2.2.2.2.2.2.2.2.2.2.2.2.2.2.2.2.2.2.2.2.2.2.2.1,v.2.2.2.2.2.2.2.2.2.2.2.2.2.2.2.2.2.2.2.2.2.2.2.2.2.2.2.2.2.2.2.2.2.2.1,v.2.2.2.2.2.2.2.2.2.2.2.2.2.2.2.2.2.2.2.2.2.2.2.2.2.2.2.2.2.2.2.2.2.2.2.1,())
 else
 bif (v.2.2.1==3) then
 Option.bind (f723F k ((v.1,v.2.1),v.2.2.2.2.2.2.2.2.2.1,v.2.2.2.2.2.2.2.2.2.2.2.1)) fun y10 =>
 let t11:=v.2.2.2.2.2.2.2.2.2.2.2.2.2.2.2.2.2.2.2.2.2.2.2.2.2.2.2.2.2.2.2.2.2.2.2.2.1
 let t12:=v.2.2.2.2.2.2.2.2.2.2.2.2.2.2.2.2.2.2.2.2.2.2.2.2.2.2.2.2.2.2.2.2.2.2.2.2.2.1
 k0 (v.1,v.2.1,v.2.2.2.2.2.2.2.2.2.2.2.2.2.2.1,v.2.2.2.2.2.2.2.2.2.2.2.2.2.2.2.1,v.2.2.2.2.2.2.2.2.2.2.2.2.2.2.2.2.1,v.2.2.2.2.2.2.2.2.2.2.2.2.2.2.2.2.2.1,v.2.2.2.2.2.2.2.2.2.2.2.2.2.2.2.2.2.2.1,v.2.2.2.2.2.2.2.2.2.2.2.2.2.2.2.2.2.2.2.1,v.2.2.2.2.2.2.2.2.2.2.2.2.2.2.2.2.2.2.2.2.1,v.2.2.2.2.2.2.2.2.2.2.2.2.2.2.2.2.2.2.2.2.2.1,v.2.2.2.2.2.2.2.2.2.2.2.2.2.2.2.2.2.2.2.2.2.2.1,v.2.2.2.2.2.2.2.2.2.2.2.2.2.2.2.2.2.2.2.2.2.2.2.1,y10.1.1,y10.1.2,y10.2,v.2.2.2.2.2.2.2.2.2.2.2.2.2.2.2.2.2.2.2.2.2.2.2.2.2.1,v.2.2.2.2.2.2.2.2.2.2.2.2.2.2.2.2.2.2.2.2.2.2.2.2.2.2.1,v.2.2.2.2.2.2.2.2.2.2.2.2.2.2.2.2.2.2.2.2.2.2.2.2.2.2.2.1,v.2.2.2.2.2.2.2.2.2.2.2.2.2.2.2.2.2.2.2.2.2.2.2.2.2.2.2.2.1,v.2.2.2.2.2.2.2.2.2.2.2.2.2.2.2.2.2.2.2.2.2.2.2.2.2.2.2.2.2.1,v.2.2.2.2.2.2.2.2.2.2.2.2.2.2.2.2.2.2.2.2.2.2.2.2.2.2.2.2.2.2.1,v.2.2.2.2.2.2.2.2.2.2.2.2.2.2.2.2.2.2.2.2.2.2.2.2.2.2.2.2.2.2.2.1,v.2.2.2.2.2.2.2.2.2.2.2.2.2.2.2.2.2.2.2.2.2.2.2.2.2.2.2.2.2.2.2.2.1,v.2.2.2.2.2.2.2.2.2.2.2.2.2.2.2.2.2.2.2.2.2.2.2.2.2.2.2.2.2.2.2.2.2.1,v.2.2.2.2.2.2.2.2.2.2.2.2.2.2.2.2.2.2.2.2.2.2.2.2.2.2.2.2.2.2.2.2.2.2.1,v.2.2.2.2.2.2.2.2.2.2.2.2.2.2.2.2.2.2.2.2.2.2.2.2.2.2.2.2.2.2.2.2.2.2.2.1,())
 else
 k1 (v.1,v.2.1,v.2.2.2.2.2.2.2.2.2.2.2.2.2.2.1,v.2.2.2.2.2.2.2.2.2.2.2.2.2.2.2.1,v.2.2.2.2.2.2.2.2.2.2.2.2.2.2.2.2.1,v.2.2.2.2.2.2.2.2.2.2.2.2.2.2.2.2.2.1,v.2.2.2.2.2.2.2.2.2.2.2.2.2.2.2.2.2.2.1,v.2.2.2.2.2.2.2.2.2.2.2.2.2.2.2.2.2.2.2.1,v.2.2.2.2.2.2.2.2.2.2.2.2.2.2.2.2.2.2.2.2.1,v.2.2.2.2.2.2.2.2.2.2.2.2.2.2.2.2.2.2.2.2.2.1,v.2.2.2.2.2.2.2.2.2.2.2.2.2.2.2.2.2.2.2.2.2.2.1,v.2.2.2.2.2.2.2.2.2.2.2.2.2.2.2.2.2.2.2.2.2.2.2.1,4,v.2.2.2.2.2.2.2.2.2.2.2.2.2.2.2.2.2.2.2.2.2.2.2.2.2.1,v.2.2.2.2.2.2.2.2.2.2.2.2.2.2.2.2.2.2.2.2.2.2.2.2.2.2.1,v.2.2.2.2.2.2.2.2.2.2.2.2.2.2.2.2.2.2.2.2.2.2.2.2.2.2.2.1,v.2.2.2.2.2.2.2.2.2.2.2.2.2.2.2.2.2.2.2.2.2.2.2.2.2.2.2.2.1,v.2.2.2.2.2.2.2.2.2.2.2.2.2.2.2.2.2.2.2.2.2.2.2.2.2.2.2.2.2.1,v.2.2.2.2.2.2.2.2.2.2.2.2.2.2.2.2.2.2.2.2.2.2.2.2.2.2.2.2.2.2.1,v.2.2.2.2.2.2.2.2.2.2.2.2.2.2.2.2.2.2.2.2.2.2.2.2.2.2.2.2.2.2.2.1,v.2.2.2.2.2.2.2.2.2.2.2.2.2.2.2.2.2.2.2.2.2.2.2.2.2.2.2.2.2.2.2.2.1,v.2.2.2.2.2.2.2.2.2.2.2.2.2.2.2.2.2.2.2.2.2.2.2.2.2.2.2.2.2.2.2.2.2.1,v.2.2.2.2.2.2.2.2.2.2.2.2.2.2.2.2.2.2.2.2.2.2.2.2.2.2.2.2.2.2.2.2.2.2.1,v.2.2.2.2.2.2.2.2.2.2.2.2.2.2.2.2.2.2.2.2.2.2.2.2.2.2.2.2.2.2.2.2.2.2.2.1,v.2.2.2.2.2.2.2.2.2.2.2.2.2.2.2.2.2.2.2.2.2.2.2.2.2.2.2.2.2.2.2.2.2.2.2.2.1,v.2.2.2.2.2.2.2.2.2.2.2.2.2.2.2.2.2.2.2.2.2.2.2.2.2.2.2.2.2.2.2.2.2.2.2.2.2.1,())
noncomputable def f775p0S (k:Nat):=partSum ⟨[(2,.one (.ptr 0 0)),(3,.one (.ptr 1 0)),(4,.one (.ptr 2 0)),(5,.one (.ptr 3 0)),(6,.one (.ptr 4 0)),(7,.one (.ptr 5 0))],[(0,.var 25 [.ro Y10,.ro (.pair .str Y5)]),(1,.var 73 [.int .i64,.str,.str,.str,.str,.str,.bool,.str,.int .i64,.int .i64,.bool,.str]),(2,.var 25 [.own 6,.own 7]),(3,.var 75 [.int .i64,.int .i64,.int .i64,.int .i64,.str,.str,.str,.bool,.bool,.int .i64]),(4,.var 25 [.own 8,.own 9]),(5,.var 75 [.int .i64,.int .i64,.int .i64,.int .i64,.str,.str,.str,.bool,.bool,.int .i64]),(6,.row 82 Y10 .plain),(7,.row 69 (.pair .str Y5) .plain),(8,.row 82 Y10 .plain),(9,.row 69 (.pair .str Y5) .plain)],10,[]⟩ ⟨[2,3,4,5,6,7],[],[]⟩ fun R K v=>f775p0 k (fun w=>K .normal (encSt ⟨[(2,.one (.ptr 0 0)),(4,.one (.ptr 1 0)),(5,.one (.ptr 2 0)),(6,.one (.ptr 3 0)),(7,.one (.ptr 4 0))],[(0,.var 25 [.ro Y10,.ro (.pair .str Y5)]),(1,.var 25 [.own 5,.own 6]),(2,.var 75 [.int .i64,.int .i64,.int .i64,.int .i64,.str,.str,.str,.bool,.bool,.int .i64]),(3,.var 25 [.ro Y10,.ro (.pair .str Y5)]),(4,.var 75 [.int .i64,.int .i64,.int .i64,.int .i64,.str,.str,.str,.bool,.bool,.int .i64]),(5,.row 82 Y10 .plain),(6,.row 69 (.pair .str Y5) .plain)],7,[]⟩ w)) (fun w=>K .normal (encSt ⟨[(2,.one (.ptr 0 0)),(4,.one (.ptr 1 0)),(5,.one (.ptr 2 0)),(6,.one (.ptr 3 0)),(7,.one (.ptr 4 0))],[(0,.var 25 [.ro Y10,.ro (.pair .str Y5)]),(1,.var 25 [.own 5,.own 6]),(2,.var 75 [.int .i64,.int .i64,.int .i64,.int .i64,.str,.str,.str,.bool,.bool,.int .i64]),(3,.var 25 [.own 7,.own 8]),(4,.var 75 [.int .i64,.int .i64,.int .i64,.int .i64,.str,.str,.str,.bool,.bool,.int .i64]),(5,.row 82 Y10 .plain),(6,.row 69 (.pair .str Y5) .plain),(7,.row 82 Y10 .plain),(8,.row 69 (.pair .str Y5) .plain)],9,[]⟩ w)) v
theorem f775p0O (k:Nat):SumO P Tryz.f75 30 (f775p0S k):=pt tm (f775T k) ⟨[2,4,5,6,7],[],[]⟩ SumsOk.nil fun _ _ _=>by kernel_rfl
noncomputable def f775F (k:Nat)(x:D14×(Int×D189)):Option (D14×(Int×D190)) :=
 f775p0 k
 (fun (w13:D186) =>
 bif (w13.2.2.2.2.2.2.2.2.2.2.2.2.2.2.1 !=0) then
 some ((w13.1,w13.2.1),(w13.2.2.2.2.2.2.2.2.2.2.2.2.2.2.1,(w13.2.2.2.2.2.2.2.2.2.2.2.2.2.2.2.1,(w13.2.2.2.2.2.2.2.2.2.2.2.2.2.2.2.2.1,(w13.2.2.2.2.2.2.2.2.2.2.2.2.2.2.2.2.2.1,(w13.2.2.2.2.2.2.2.2.2.2.2.2.2.2.2.2.2.2.1,(w13.2.2.2.2.2.2.2.2.2.2.2.2.2.2.2.2.2.2.2.1,(w13.2.2.2.2.2.2.2.2.2.2.2.2.2.2.2.2.2.2.2.2.1,(w13.2.2.2.2.2.2.2.2.2.2.2.2.2.2.2.2.2.2.2.2.2.1,(w13.2.2.2.2.2.2.2.2.2.2.2.2.2.2.2.2.2.2.2.2.2.2.1,w13.2.2.2.2.2.2.2.2.2.2.2.2.2.2.2.2.2.2.2.2.2.2.2.1))))))))))
 else
 some ((w13.2.2.2.2.2.2.2.2.2.2.2.2.1,w13.2.2.2.2.2.2.2.2.2.2.2.2.2.1),(w13.2.2.2.2.2.2.2.2.2.2.2.2.2.2.1,(w13.2.2.2.2.2.2.2.2.2.2.2.2.2.2.2.1,(w13.2.2.2.2.2.2.2.2.2.2.2.2.2.2.2.2.1,(w13.2.2.2.2.2.2.2.2.2.2.2.2.2.2.2.2.2.1,(w13.2.2.2.2.2.2.2.2.2.2.2.2.2.2.2.2.2.2.1,(w13.2.2.2.2.2.2.2.2.2.2.2.2.2.2.2.2.2.2.2.1,(w13.2.2.2.2.2.2.2.2.2.2.2.2.2.2.2.2.2.2.2.2.1,(w13.2.2.2.2.2.2.2.2.2.2.2.2.2.2.2.2.2.2.2.2.2.1,(w13.2.2.2.2.2.2.2.2.2.2.2.2.2.2.2.2.2.2.2.2.2.2.1,w13.2.2.2.2.2.2.2.2.2.2.2.2.2.2.2.2.2.2.2.2.2.2.2.1)))))))))))
 (fun (w14:D187) =>
 bif (w14.2.2.2.2.2.2.2.2.2.2.2.2.1 !=0) then
 some ((w14.1,w14.2.1),(w14.2.2.2.2.2.2.2.2.2.2.2.2.1,(w14.2.2.2.2.2.2.2.2.2.2.2.2.2.1,(w14.2.2.2.2.2.2.2.2.2.2.2.2.2.2.1,(w14.2.2.2.2.2.2.2.2.2.2.2.2.2.2.2.1,(w14.2.2.2.2.2.2.2.2.2.2.2.2.2.2.2.2.1,(w14.2.2.2.2.2.2.2.2.2.2.2.2.2.2.2.2.2.1,(w14.2.2.2.2.2.2.2.2.2.2.2.2.2.2.2.2.2.2.1,(w14.2.2.2.2.2.2.2.2.2.2.2.2.2.2.2.2.2.2.2.1,(w14.2.2.2.2.2.2.2.2.2.2.2.2.2.2.2.2.2.2.2.2.1,w14.2.2.2.2.2.2.2.2.2.2.2.2.2.2.2.2.2.2.2.2.2.1))))))))))
 else
 some ((w14.2.2.2.2.2.2.2.2.2.2.2.2.2.2.2.2.2.2.2.2.2.2.2.2.1,w14.2.2.2.2.2.2.2.2.2.2.2.2.2.2.2.2.2.2.2.2.2.2.2.2.2.1),(w14.2.2.2.2.2.2.2.2.2.2.2.2.1,(w14.2.2.2.2.2.2.2.2.2.2.2.2.2.1,(w14.2.2.2.2.2.2.2.2.2.2.2.2.2.2.1,(w14.2.2.2.2.2.2.2.2.2.2.2.2.2.2.2.1,(w14.2.2.2.2.2.2.2.2.2.2.2.2.2.2.2.2.1,(w14.2.2.2.2.2.2.2.2.2.2.2.2.2.2.2.2.2.1,(w14.2.2.2.2.2.2.2.2.2.2.2.2.2.2.2.2.2.2.1,(w14.2.2.2.2.2.2.2.2.2.2.2.2.2.2.2.2.2.2.2.1,(w14.2.2.2.2.2.2.2.2.2.2.2.2.2.2.2.2.2.2.2.2.1,w14.2.2.2.2.2.2.2.2.2.2.2.2.2.2.2.2.2.2.2.2.2.1)))))))))))
 (x.1.1,x.1.2,x.2.1,x.2.2.1.1,x.2.2.1.2.1,x.2.2.1.2.2.1,x.2.2.1.2.2.2.1,x.2.2.1.2.2.2.2.1,x.2.2.1.2.2.2.2.2,x.2.2.2.1.1,x.2.2.2.1.2.1,x.2.2.2.1.2.2.1,x.2.2.2.1.2.2.2,x.2.2.2.2,0,0,0,0,ByteArray.empty,ByteArray.empty,ByteArray.empty,false,false,0,0,0,0,0,ByteArray.empty,ByteArray.empty,ByteArray.empty,false,false,0,[],[],[],[],())
theorem f775Ok (k:Nat):FnV P 75 [.agg Y11,.agg (.pair (.int .i64) Y19)] [.agg Y11,.agg Y20] (f775F k) :=
 fs tm (f775T k) Tryz.func75 (by kernel_rfl) (SumsOk.nil |>.s (f775p0O k) (by kernel_rfl)) none fun _=>by kernel_rfl
noncomputable def f726T (k:Nat):TB P:=TB.nil |>.p (f775Ok k) |>.u (f761Ok k) |>.u (f760Ok k) |>.u (f751Ok k)
noncomputable def f726l0s {R:Type}(k:Nat)(rec:D192->Option R)(k0:D191->Option R)(v:D192):Option R :=
 bif (decide (v.2.2.1<v.2.1)) then
 bif ((decide (0<=v.2.2.1))&&(decide (v.2.2.1<(v.1.length:Int)))) then
 let t4:=(v.1.getD (Int.toNat v.2.2.1) (0,((ByteArray.empty,(ByteArray.empty,(ByteArray.empty,(ByteArray.empty,(ByteArray.empty,false))))),((ByteArray.empty,(0,(0,false))),ByteArray.empty))))
 Option.bind (f775F k ((v.2.2.2.1,v.2.2.2.2.1),(t4.1,((t4.2.1.1,(t4.2.1.2.1,(t4.2.1.2.2.1,(t4.2.1.2.2.2.1,(t4.2.1.2.2.2.2.1,t4.2.1.2.2.2.2.2))))),((t4.2.2.1.1,(t4.2.2.1.2.1,(t4.2.2.1.2.2.1,t4.2.2.1.2.2.2))),t4.2.2.2))))) fun y5 =>
 let t6:=[(y5.2.1,(y5.2.2.1,(y5.2.2.2.1,(y5.2.2.2.2.1,(y5.2.2.2.2.2.1,(y5.2.2.2.2.2.2.1,(y5.2.2.2.2.2.2.2.1,(y5.2.2.2.2.2.2.2.2.1,(y5.2.2.2.2.2.2.2.2.2.1,y5.2.2.2.2.2.2.2.2.2.2)))))))))]
 bif (decide ((v.2.2.2.2.2.1.length+t6.length)*96<=140737488355328)&&decide (v.2.2.2.2.2.1.length+t6.length<=9223372036854775807)) then
 rec (v.1,v.2.1,(IntKind.i64.wrap (v.2.2.1+1)),y5.1.1,y5.1.2,(v.2.2.2.2.2.1++t6),v.2.2.2.2.2.2.1,v.2.2.2.2.2.2.2.1,())
 else none
 else none
 else
 k0 (v.2.2.2.1,v.2.2.2.2.1,v.2.2.2.2.2.1,v.2.2.2.2.2.2.1,v.2.2.2.2.2.2.2.1,())
noncomputable def f726l0 {R:Type}(k:Nat)(k0:D191->Option R)(v:D192):Option R:=iterS (fun rec v=>f726l0s k rec k0 v) k v
noncomputable def f726l0S (k:Nat):=loopSum ⟨[(2,.one (.ptr 0 0)),(4,.one (.ptr 1 0)),(8,.one (.own 2)),(25,.one (.ro (.pair (.int .i64) Y19))),(26,oI),(27,oI)],[(0,.var 25 [.ro Y10,.ro (.pair .str Y5)]),(1,.var 25 [.own 3,.own 4]),(2,.row 75 Y20 .plain),(3,.row 82 Y10 .plain),(4,.row 69 (.pair .str Y5) .plain)],5,[]⟩ ⟨[2,4,8,25,26,27],[(8,75,Y20)],[]⟩ k fun R rec K v=>f726l0s k rec (fun w=>K (.exit 0) (encSt ⟨[(2,.one (.ptr 0 0)),(4,.one (.ptr 1 0)),(8,.one (.own 2))],[(0,.var 25 [.ro Y10,.ro (.pair .str Y5)]),(1,.var 25 [.own 3,.own 4]),(2,.row 75 Y20 .plain),(3,.row 82 Y10 .plain),(4,.row 69 (.pair .str Y5) .plain)],5,[]⟩ w)) v
theorem f726l0O (k:Nat):SumO P Tryz.f26 122 (f726l0S k):=lp tm (f726T k) ⟨[2,4,5,6,8],[],[]⟩ SumsOk.nil (by kernel_rfl) fun _ _ _ _=>by kernel_rfl
noncomputable def f726F (k:Nat)(x:D193):Option (D194) :=
 Option.bind (f751F k ((x.1.1,x.1.2),[])) fun y1 =>
 Option.bind (f761F k ((decide ((x.2.length:Int) > 60)),2)) fun y2 =>
 Option.bind (f760F k [y1,y2]) fun y3 =>
 bif (y3 !=0) then
 some (([],[]),[],y3)
 else
 f726l0 k
 (fun (w7:D191) =>
 some ((w7.1,w7.2.1),w7.2.2.1,0))
 (x.2,(x.2.length:Int),0,x.1.1,x.1.2,[],[],[],())
theorem f726Ok (k:Nat):FnV P 26 [.agg Y11,.dat (.slice (.pair (.int .i64) Y19))] [.agg Y11,.own 75 Y20,.dat (.int .i64)] (f726F k) :=
 fs tm (f726T k) Tryz.func26 (by kernel_rfl) (SumsOk.nil |>.s (f726l0O k) (by kernel_rfl)) none fun _=>by kernel_rfl
noncomputable def f750F (k:Nat)(x:ByteArray):Option (D6) :=
 some (x,(3,(false,(1,[]))))
theorem f750Ok (k:Nat):FnV P 50 [.dat .str] [.agg (.pair .str Y5)] (f750F k) :=
 fs tm TB.nil Tryz.func50 (by kernel_rfl) SumsOk.nil none fun _=>by kernel_rfl
noncomputable def f712T (k:Nat):TB P:=TB.nil |>.p (f750Ok k) |>.p (f726Ok k)
noncomputable def f712F (k:Nat)(x:Unit):Option (Bool) :=
 Option.bind (f750F k (⟨#[65]⟩:ByteArray)) fun y1 =>
 Option.bind (f750F k (⟨#[66]⟩:ByteArray)) fun y2 =>
 let t3:=[(y1.1,(y1.2.1,(y1.2.2.1,(y1.2.2.2.1,y1.2.2.2.2)))),(y2.1,(y2.2.1,(y2.2.2.1,(y2.2.2.2.1,y2.2.2.2.2))))]
 let t4:=[(0,(((⟨#[65]⟩:ByteArray),((⟨#[66]⟩:ByteArray),(ByteArray.empty,(ByteArray.empty,((⟨#[71,79,63]⟩:ByteArray),true))))),((ByteArray.empty,(0,(0,false))),ByteArray.empty))),(2,((ByteArray.empty,(ByteArray.empty,(ByteArray.empty,(ByteArray.empty,(ByteArray.empty,false))))),(((⟨#[66]⟩:ByteArray),(0,(1,false))),(⟨#[67]⟩:ByteArray)))),(2,((ByteArray.empty,(ByteArray.empty,(ByteArray.empty,(ByteArray.empty,(ByteArray.empty,false))))),(((⟨#[66]⟩:ByteArray),(0,(1,false))),(⟨#[67]⟩:ByteArray)))),(1,((ByteArray.empty,(ByteArray.empty,(ByteArray.empty,(ByteArray.empty,(ByteArray.empty,false))))),(((⟨#[65]⟩:ByteArray),(0,(0,false))),ByteArray.empty)))]
 Option.bind (f726F k (([],t3),t4)) fun y5 =>
 bif (y5.2.2==0) then
 bif ((y5.2.1.length:Int)==4) then
 bif (decide (0<(y5.2.1.length:Int))) then
 let t6:=(y5.2.1.getD 0 (0,(0,(0,(0,(ByteArray.empty,(ByteArray.empty,(ByteArray.empty,(false,(false,0)))))))))).2.1
 bif (t6==1) then
 bif (decide (1<(y5.2.1.length:Int))) then
 let t7:=(y5.2.1.getD 1 (0,(0,(0,(0,(ByteArray.empty,(ByteArray.empty,(ByteArray.empty,(false,(false,0)))))))))).1
 bif (t7==0) then
 bif (decide (2<(y5.2.1.length:Int))) then
 let t8:=(y5.2.1.getD 2 (0,(0,(0,(0,(ByteArray.empty,(ByteArray.empty,(ByteArray.empty,(false,(false,0)))))))))).1
 bif (t8==26) then
 bif (decide (3<(y5.2.1.length:Int))) then
 let t9:=(y5.2.1.getD 3 (0,(0,(0,(0,(ByteArray.empty,(ByteArray.empty,(ByteArray.empty,(false,(false,0)))))))))).2.2.2.2.2.1
 bif (strEq t9 (⟨#[67]⟩:ByteArray)) then
 bif (decide (3<(y5.2.1.length:Int))) then
 let t10:=(y5.2.1.getD 3 (0,(0,(0,(0,(ByteArray.empty,(ByteArray.empty,(ByteArray.empty,(false,(false,0)))))))))).2.2.2.2.2.2.2.2.2
 some (t10==1)
 else none
 else
 some false
 else none
 else
 some false
 else none
 else
 some false
 else none
 else
 some false
 else none
 else
 some false
 else
 some false
theorem f712Ok (k:Nat):FnV P 12 [] [.dat .bool] (f712F k) :=
 fs tm (f712T k) Tryz.func12 (by kernel_rfl) SumsOk.nil none fun _=>by kernel_rfl
noncomputable def f724T (k:Nat):TB P:=TB.nil |>.p (f767Ok k) |>.u (f742Ok k) |>.u (f733Ok k) |>.u (f731Ok k) |>.p (f716Ok k)
noncomputable def f724p0 {R:Type}(k:Nat)(k0:D195->Option R)(k1:D196->Option R)(v:D195):Option R :=
 bif ((decide (0<=v.1))&&(decide (v.1<(v.2.2.2.2.1.length:Int)))) then
 let t8:=(v.2.2.2.2.1.getD (Int.toNat v.1) (ByteArray.empty,(0,(false,(0,[])))))
 bif ((decide (0<=v.2.2.1))&&(decide (v.2.2.1<(v.2.1.length:Int)))) then
 let t9:=(v.2.1.getD (Int.toNat v.2.2.1) (0,(0,(ByteArray.empty,(ByteArray.empty,(ByteArray.empty,(false,(false,0))))))))
 Option.bind (f733F k ((t8.1,(t8.2.1,(t8.2.2.1,(t8.2.2.2.1,t8.2.2.2.2)))),t9.1)) fun y10 =>
 bif (y10==(-1)) then
 k0 (v.1,v.2.1,v.2.2.1,v.2.2.2.1,v.2.2.2.2.1,v.2.2.2.2.2.1,v.2.2.2.2.2.2.1,())
 else
 bif ((decide (0<=v.2.2.1))&&(decide (v.2.2.1<(v.2.1.length:Int)))) then
 let t11:=(v.2.1.getD (Int.toNat v.2.2.1) (0,(0,(ByteArray.empty,(ByteArray.empty,(ByteArray.empty,(false,(false,0))))))))
 Option.bind (f767F k ((v.2.2.2.1,v.2.2.2.2.1),(v.1,t11.1))) fun y12 =>
 bif (y12.2 !=0) then
 k1 (y12.2,v.1,v.2.1,v.2.2.1,v.2.2.2.1,v.2.2.2.2.1,())
 else
 k0 (v.1,v.2.1,v.2.2.1,y12.1.1,y12.1.2,v.2.2.2.2.2.1,v.2.2.2.2.2.2.1,())
 else none
 else none
 else none
noncomputable def f724p0S (k:Nat):=partSum ⟨[(6,.one (.ptr 0 0)),(9,oI),(10,.one (.ptr 1 0)),(11,.one (.ro Y3)),(12,oI)],[(0,.var 25 [.own 2,.own 3]),(1,.var 25 [.ro Y10,.ro (.pair .str Y5)]),(2,.row 82 Y10 .plain),(3,.row 69 (.pair .str Y5) .plain)],4,[]⟩ ⟨[6,9,10,11,12],[],[]⟩ fun R K v=>f724p0 k (fun w=>K .normal (encSt ⟨[(6,.one (.ptr 0 0)),(9,oI),(10,.one (.ptr 1 0)),(11,.one (.ro Y3)),(12,oI)],[(0,.var 25 [.own 2,.own 3]),(1,.var 25 [.ro Y10,.ro (.pair .str Y5)]),(2,.row 82 Y10 .plain),(3,.row 69 (.pair .str Y5) .plain)],4,[]⟩ w)) (fun w=>K .ret (encSt ⟨[(6,.one (.ptr 0 0)),(7,oI),(9,oI),(10,.one (.ptr 1 0)),(11,.one (.ro Y3)),(12,oI)],[(0,.var 25 [.emp,.emp]),(1,.var 25 [.ro Y10,.ro (.pair .str Y5)])],2,[]⟩ w)) v
theorem f724p0O (k:Nat):SumO P Tryz.f24 8146 (f724p0S k):=pt tm (f724T k) ⟨[6,7,9,10,11,12],[],[]⟩ SumsOk.nil fun _ _ _=>by kernel_rfl
noncomputable def f724l1s {R:Type}(k:Nat)(rec:D195->Option R)(k0:D112->Option R)(k1:D67->Option R)(v:D195):Option R :=
 bif (decide (v.2.2.1<(v.2.1.length:Int))) then
 f724p0 k
 (fun (w13:D195) =>
 rec (w13.1,w13.2.1,(IntKind.i64.wrap (w13.2.2.1+1)),w13.2.2.2.1,w13.2.2.2.2.1,w13.2.2.2.2.2.1,w13.2.2.2.2.2.2.1,()))
 (fun (w14:D196) =>
 k0 (w14.1,w14.2.2.2.2.1,w14.2.2.2.2.2.1,()))
 (v.1,v.2.1,v.2.2.1,v.2.2.2.1,v.2.2.2.2.1,v.2.2.2.2.2.1,v.2.2.2.2.2.2.1,())
 else
 k1 (v.2.2.2.1,v.2.2.2.2.1,v.2.2.2.2.2.1,v.2.2.2.2.2.2.1,())
noncomputable def f724l1 {R:Type}(k:Nat)(k0:D112->Option R)(k1:D67->Option R)(v:D195):Option R:=iterS (fun rec v=>f724l1s k rec k0 k1 v) k v
noncomputable def f724l1S (k:Nat):=loopSum ⟨[(6,.one (.ptr 0 0)),(9,oI),(10,.one (.ptr 1 0)),(11,.one (.ro Y3)),(12,oI)],[(0,.var 25 [.own 2,.own 3]),(1,.var 25 [.ro Y10,.ro (.pair .str Y5)]),(2,.row 82 Y10 .plain),(3,.row 69 (.pair .str Y5) .plain)],4,[]⟩ ⟨[6,9,10,11,12],[],[]⟩ k fun R rec K v=>f724l1s k rec (fun w=>K .ret (encSt ⟨[(6,.one (.ptr 0 0)),(7,oI),(10,.one (.ptr 1 0))],[(0,.var 25 [.emp,.emp]),(1,.var 25 [.ro Y10,.ro (.pair .str Y5)])],2,[]⟩ w)) (fun w=>K (.exit 0) (encSt ⟨[(6,.one (.ptr 0 0)),(10,.one (.ptr 1 0))],[(0,.var 25 [.own 2,.own 3]),(1,.var 25 [.ro Y10,.ro (.pair .str Y5)]),(2,.row 82 Y10 .plain),(3,.row 69 (.pair .str Y5) .plain)],4,[]⟩ w)) v
theorem f724l1O (k:Nat):SumO P Tryz.f24 1018 (f724l1S k):=lp tm (f724T k) ⟨[6,7,10],[],[]⟩ (SumsOk.nil |>.s (f724p0O k) (by kernel_rfl)) (by kernel_rfl) fun _ _ _ _=>by kernel_rfl
noncomputable def f724F (k:Nat)(x:D14×ByteArray×Int):Option (D14×Int) :=
 Option.bind (f742F k ((x.1.1,x.1.2),x.2.1)) fun y1 =>
 bif (y1 !=0) then
 some (([],[]),y1)
 else
 Option.bind (f731F k ((x.1.1,x.1.2),x.2.1)) fun y2 =>
 bif (x.2.2 !=(-1)) then
 bif ((decide (0<=y2))&&(decide (y2<(x.1.2.length:Int)))) then
 let t3:=(x.1.2.getD (Int.toNat y2) (ByteArray.empty,(0,(false,(0,[])))))
 Option.bind (f733F k ((t3.1,(t3.2.1,(t3.2.2.1,(t3.2.2.2.1,t3.2.2.2.2)))),x.2.2)) fun y4 =>
 bif (y4==(-1)) then
 some (([],[]),11)
 else
 Option.bind (f767F k ((x.1.1,x.1.2),(y2,x.2.2))) fun y5 =>
 some ((y5.1.1,y5.1.2),y5.2)
 else none
 else
 Option.bind (f716F k (x.1.1,x.1.2)) fun y6 =>
 bif ((decide (0<=y2))&&(decide (y2<(x.1.2.length:Int)))) then
 let t7:=(x.1.2.getD (Int.toNat y2) (ByteArray.empty,(0,(false,(0,[])))))
 f724l1 k
 (fun (w15:D112) =>
 some (([],[]),w15.1))
 (fun (w16:D67) =>
 some ((w16.1,w16.2.1),0))
 (y2,t7.2.2.2.2,0,y6.1,y6.2,[],[],())
 else none
theorem f724Ok (k:Nat):FnV P 24 [.agg Y11,.dat .str,.dat (.int .i64)] [.agg Y11,.dat (.int .i64)] (f724F k) :=
 fs tm (f724T k) Tryz.func24 (by kernel_rfl) (SumsOk.nil |>.s (f724l1O k) (by kernel_rfl) |>.s (f724p0O k) (by kernel_rfl)) none fun _=>by kernel_rfl
end Go.Proofs.YthcmomgkfjjajaaGreatDoor
