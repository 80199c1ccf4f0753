import Derived.Test.YthcmomgkfjjajaaGreatDoorFaJ
import Derived.Test.YthcmomgkfjjajaaGreatDoorProg
import Derived.Test.YthcmomgkfjjajaaGreatDoorSJ
set_option linter.unusedVariables false
set_option maxRecDepth 100000
namespace Go.Proofs.YthcmomgkfjjajaaGreatDoor
open Go.Ab
noncomputable def f819v0I:Shape:=⟨[(0,.agg [.str,.int .i64,.str,.str,.ro (.pair (.int .i64) Y6),.str,.ro .str]),(1,.one (.ptr 0 0))],[(0,.var 9 [.str])],1,[]⟩
noncomputable def f819v0U:Shape:=⟨[(0,oB)],[(0,.var 9 [.str])],1,[]⟩
noncomputable def f819v0F (k:Nat)(x:D33):Option (Bool×ByteArray×Unit) :=
 some ((strEq x.1 x.2.2.2.2.2.2.2.1),x.2.2.2.2.2.2.2.1,())
theorem f819v0Ok (k:Nat):GnV P 119 f819v0I f819v0U (f819v0F k) :=
 gs tm TB.nil Tryz.func119 (by kernel_rfl) SumsOk.nil [.dat .bool] [] none fun _=>by kernel_rfl
noncomputable def f818v0I:Shape:=⟨[(0,.one (.ro Y10)),(1,.one (.fn 119 [0]))],[(0,.var 9 [.str])],1,[]⟩
noncomputable def f818v0U:Shape:=⟨[(0,oI)],[(0,.var 9 [.str])],1,[]⟩
noncomputable def f818v0T (k:Nat):TB P:=TB.nil |>.g (f819v0Ok k)
noncomputable def f818v0l0s {R:Type}(k:Nat)(rec:D34->Option R)(k0:Int×ByteArray×Unit->Option R)(k1:ByteArray×Unit->Option R)(v:D34):Option R :=
 bif (decide (v.2.2.1<v.2.1)) then
 bif ((decide (0<=v.2.2.1))&&(decide (v.2.2.1<(v.1.length:Int)))) then
 let t1:=(v.1.getD (Int.toNat v.2.2.1) (ByteArray.empty,(0,(ByteArray.empty,(ByteArray.empty,([],(ByteArray.empty,[])))))))
 Option.bind (f819v0F k (t1.1,t1.2.1,t1.2.2.1,t1.2.2.2.1,t1.2.2.2.2.1,t1.2.2.2.2.2.1,t1.2.2.2.2.2.2,v.2.2.2.1,())) fun y2 =>
 bif y2.1 then
 k0 (v.2.2.1,y2.2.1,())
 else
 rec (v.1,v.2.1,(IntKind.i64.wrap (v.2.2.1+1)),y2.2.1,())
 else none
 else
 k1 (v.2.2.2.1,())
noncomputable def f818v0l0 {R:Type}(k:Nat)(k0:Int×ByteArray×Unit->Option R)(k1:ByteArray×Unit->Option R)(v:D34):Option R:=iterS (fun rec v=>f818v0l0s k rec k0 k1 v) k v
noncomputable def f818v0l0S (k:Nat):=loopSum ⟨[(0,.one (.ro Y10)),(1,.one (.fn 119 [0])),(7,oI),(8,oI)],[(0,.var 9 [.str])],1,[some 0]⟩ ⟨[0,1,7,8],[],[]⟩ k fun R rec K v=>f818v0l0s k rec (fun w=>K .ret (encSt ⟨[(4,oI)],[(0,.var 9 [.str])],1,[some 0]⟩ w)) (fun w=>K (.exit 0) (encSt ⟨[],[(0,.var 9 [.str])],1,[some 0]⟩ w)) v
theorem f818v0l0O (k:Nat):SumO P Tryz.f118 26 (f818v0l0S k):=lp tm (f818v0T k) ⟨[4],[],[]⟩ SumsOk.nil (by kernel_rfl) fun _ _ _ _=>by kernel_rfl
noncomputable def f818v0F (k:Nat)(x:D35):Option (Int×ByteArray×Unit) :=
 f818v0l0 k
 (fun (w3:Int×ByteArray×Unit) =>
 some (w3.1,w3.2.1,()))
 (fun (w4:ByteArray×Unit) =>
 some ((-1),w4.1,()))
 (x.1,(x.1.length:Int),0,x.2.1,())
theorem f818v0Ok (k:Nat):GnV P 118 f818v0I f818v0U (f818v0F k) :=
 gs tm (f818v0T k) Tryz.func118 (by kernel_rfl) (SumsOk.nil |>.s (f818v0l0O k) (by kernel_rfl)) [.dat .bool] [] none fun _=>by kernel_rfl
noncomputable def f790T (k:Nat):TB P:=TB.nil |>.g (f818v0Ok k)
noncomputable def f790F (k:Nat)(x:(List D13)×ByteArray):Option (Int) :=
 Option.bind (f818v0F k (x.1,x.2,())) fun y1 =>
 some y1.1
theorem f790Ok (k:Nat):FnV P 90 [.dat (.slice Y10),.dat .str] [.dat (.int .i64)] (f790F k) :=
 fs tm (f790T k) Tryz.func90 (by kernel_rfl) SumsOk.nil none fun _=>by kernel_rfl
noncomputable def f44F (k:Nat)(x:(Int×(Int×Int))):Option (Int) :=
 bif (x.1==1) then
 let t1:=(IntKind.i64.wrap ((IntKind.i64.wrap (Int.tdiv x.2.1 2))+1))
 some t1
 else
 bif (x.1==3) then
 let t2:=(IntKind.i64.wrap ((IntKind.i64.wrap (Int.tdiv x.2.1 9))*2))
 some (IntKind.i64.wrap (2+t2))
 else
 bif (x.1==4) then
 some 16
 else
 some x.2.1
theorem f44Ok (k:Nat):FnV P 136 [.agg (.pair (.int .i64) Y6)] [.dat (.int .i64)] (f44F k) :=
 fs tm TB.nil Tryz.func136 (by kernel_rfl) SumsOk.nil none fun _=>by kernel_rfl
noncomputable def f24T (k:Nat):TB P:=TB.nil |>.u (f44Ok k) |>.u (f28Ok k)
noncomputable def f24F (k:Nat)(x:(Int×(Int×Int))):Option (Int×Int) :=
 Option.bind (f28F k (x.1,(x.2.1,x.2.2))) fun y1 =>
 bif (y1 !=0) then
 some (0,y1)
 else
 Option.bind (f44F k (x.1,(x.2.1,x.2.2))) fun y2 =>
 some (y2,0)
theorem f24Ok (k:Nat):FnV P 123 [.agg (.pair (.int .i64) Y6)] [.dat (.int .i64),.dat (.int .i64)] (f24F k) :=
 fs tm (f24T k) Tryz.func123 (by kernel_rfl) SumsOk.nil none fun _=>by kernel_rfl
noncomputable def f45l0s {R:Type}(k:Nat)(rec:D36->Option R)(k0:Int×Unit->Option R)(v:D36):Option R :=
 bif (decide (v.2.2.1<v.2.1)) then
 bif ((decide (0<=v.2.2.1))&&(decide (v.2.2.1<(v.2.2.2.1.length:Int)))) then
 let t1:=(bits .or .i64 (shlI .i64 v.1 8) (IntKind.i64.wrap (v.2.2.2.1.getD (Int.toNat v.2.2.1) 0)))
 rec (t1,v.2.1,(IntKind.i64.wrap (v.2.2.1+1)),v.2.2.2.1,())
 else none
 else
 k0 (v.1,())
noncomputable def f45l0 {R:Type}(k:Nat)(k0:Int×Unit->Option R)(v:D36):Option R:=iterS (fun rec v=>f45l0s k rec k0 v) k v
noncomputable def f45l0S (k:Nat):=loopSum ⟨[(3,oI),(12,.one (.own 0)),(13,oI),(14,oI)],[(0,.row 5 (.int .u8) .mark)],1,[]⟩ ⟨[3,12,13,14],[],[]⟩ k fun R rec K v=>f45l0s k rec (fun w=>K (.exit 0) (encSt ⟨[(3,oI)],[],0,[]⟩ w)) v
theorem f45l0O (k:Nat):SumO P Tryz.f154 58 (f45l0S k):=lp tm TB.nil ⟨[2,3],[],[]⟩ SumsOk.nil (by kernel_rfl) fun _ _ _ _=>by kernel_rfl
noncomputable def f45F (k:Nat)(x:ByteArray):Option (Int) :=
 bif (decide (0<(x.size:Int))) then
 bif (sliceBds 1 (x.size:Int) (x.size:Int)) then
 bif (decide ((x.extract 1 (Int.toNat (x.size:Int))).size<=9223372036854775807)) then
 f45l0 k
 (fun (w2:Int×Unit) =>
 some w2.1)
 ((IntKind.i64.wrap (IntKind.i8.wrap (bt x 0))),((bytesOf (x.extract 1 (Int.toNat (x.size:Int)))).length:Int),0,(bytesOf (x.extract 1 (Int.toNat (x.size:Int)))),())
 else none
 else none
 else none
theorem f45Ok (k:Nat):FnV P 154 [.dat .str] [.dat (.int .i64)] (f45F k) :=
 fs tm TB.nil Tryz.func154 (by kernel_rfl) (SumsOk.nil |>.s (f45l0O k) (by kernel_rfl)) none fun _=>by kernel_rfl
noncomputable def f71l0s {R:Type}(k:Nat)(rec:Int×Int×Int×Unit->Option R)(k0:Int×Unit->Option R)(v:Int×Int×Int×Unit):Option R :=
 bif (decide (v.2.2.1<v.2.1)) then
 rec ((IntKind.i64.wrap (v.1*10)),v.2.1,(IntKind.i64.wrap (v.2.2.1+1)),())
 else
 k0 (v.1,())
noncomputable def f71l0 {R:Type}(k:Nat)(k0:Int×Unit->Option R)(v:Int×Int×Int×Unit):Option R:=iterS (fun rec v=>f71l0s k rec k0 v) k v
noncomputable def f71l0S (k:Nat):=loopSum ⟨[(3,oI),(5,oI),(6,oI)],[],0,[]⟩ ⟨[3,5,6],[],[]⟩ k fun R rec K v=>f71l0s k rec (fun w=>K (.exit 0) (encSt ⟨[(3,oI)],[],0,[]⟩ w)) v
theorem f71l0O (k:Nat):SumO P Tryz.f168 58 (f71l0S k):=lp tm TB.nil ⟨[2,3],[],[]⟩ SumsOk.nil (by kernel_rfl) fun _ _ _ _=>by kernel_rfl
noncomputable def f71F (k:Nat)(x:Int):Option (Int) :=
 f71l0 k
 (fun (w1:Int×Unit) =>
 some w1.1)
 (1,(mnI x 18),0,())
theorem f71Ok (k:Nat):FnV P 168 [.dat (.int .i64)] [.dat (.int .i64)] (f71F k) :=
 fs tm TB.nil Tryz.func168 (by kernel_rfl) (SumsOk.nil |>.s (f71l0O k) (by kernel_rfl)) none fun _=>by kernel_rfl
noncomputable def f29T (k:Nat):TB P:=TB.nil |>.u (f71Ok k) |>.u (f43Ok k) |>.u (f42Ok k) |>.u (f70Ok k) |>.u (f28Ok k)
noncomputable def f29F (k:Nat)(x:D37):Option (Int) :=
 Option.bind (f28F k (x.1.1,(x.1.2.1,x.1.2.2))) fun y1 =>
 Option.bind (f43F k ((x.1.1==4),17)) fun y2 =>
 Option.bind (f42F k [y1,y2]) fun y3 =>
 bif (y3 !=0) then
 some y3
 else
 bif (x.1.1==0) then
 Option.bind (f43F k ((x.2.1 !=0),5)) fun y4 =>
 Option.bind (f43F k (((x.2.2.size:Int) !=x.1.2.1),18)) fun y5 =>
 Option.bind (f42F k [y4,y5]) fun y6 =>
 some y6
 else
 Option.bind (f71F k x.1.2.1) fun y7 =>
 Option.bind (f43F k ((!strEq x.2.2 ByteArray.empty),5)) fun y8 =>
 Option.bind (f70F k (x.2.1,(IntKind.i64.wrap (0 - (IntKind.i64.wrap (y7 - 1)))),(IntKind.i64.wrap (y7 - 1)))) fun y9 =>
 Option.bind (f43F k ((!y9),19)) fun y10 =>
 Option.bind (f42F k [y8,y10]) fun y11 =>
 some y11
theorem f29Ok (k:Nat):FnV P 155 [.agg (.pair (.int .i64) Y6),.agg Y12] [.dat (.int .i64)] (f29F k) :=
 fs tm (f29T k) Tryz.func155 (by kernel_rfl) SumsOk.nil none fun _=>by kernel_rfl
noncomputable def f80p0 {R:Type}(k:Nat)(k0:D38->Option R)(v:D38):Option R :=
 bif ((decide (0<=v.2.2.1))&&(decide (v.2.2.1<(v.1.size:Int)))) then
 bif ((decide (0<=v.2.2.1))&&(decide (v.2.2.1<(v.1.size:Int)))) then
 bif (v.2.2.2.1==1) then
 let t1:=[(shrI .u8 (bt v.1 v.2.2.1) 4),(bits .and .u8 (bt v.1 v.2.2.1) 15)]
 bif (decide ((v.2.2.2.2.2.2.1.length+t1.length)*1<=140737488355328)&&decide (v.2.2.2.2.2.2.1.length+t1.length<=9223372036854775807)) then
 bif (decide ((v.2.2.2.2.2.2.2.1.length+[v.2.2.1,v.2.2.1].length)*8<=140737488355328)&&decide (v.2.2.2.2.2.2.2.1.length+[v.2.2.1,v.2.2.1].length<=9223372036854775807)) then
 k0 (v.1,v.2.1,v.2.2.1,v.2.2.2.1,v.2.2.2.2.1,v.2.2.2.2.2.1,(v.2.2.2.2.2.2.1++t1),(v.2.2.2.2.2.2.2.1++[v.2.2.1,v.2.2.1]),())
 else none
 else none
 else
 bif (decide ((v.2.2.2.2.2.2.1.length+[(bits .and .u8 (bt v.1 v.2.2.1) 15)].length)*1<=140737488355328)&&decide (v.2.2.2.2.2.2.1.length+[(bits .and .u8 (bt v.1 v.2.2.1) 15)].length<=9223372036854775807)) then
 bif (decide ((v.2.2.2.2.2.2.2.1.length+[v.2.2.1].length)*8<=140737488355328)&&decide (v.2.2.2.2.2.2.2.1.length+[v.2.2.1].length<=9223372036854775807)) then
 k0 (v.1,v.2.1,v.2.2.1,v.2.2.2.1,v.2.2.2.2.1,v.2.2.2.2.2.1,(v.2.2.2.2.2.2.1++[(bits .and .u8 (bt v.1 v.2.2.1) 15)]),(v.2.2.2.2.2.2.2.1++[v.2.2.1]),())
 else none
 else none
 else none
 else none
noncomputable def f80p0S (k:Nat):=partSum ⟨[(1,oS),(2,.one (.ptr 0 0)),(4,.one (.own 1)),(5,.one (.own 2)),(10,oI),(11,oI)],[(0,.var 115 [.int .i64,.int .i64,.int .i64]),(1,.row 5 (.int .u8) .plain),(2,.row 3 (.int .i64) .plain)],3,[]⟩ ⟨[1,2,4,5,10,11],[],[]⟩ fun R K v=>f80p0 k (fun w=>K .normal (encSt ⟨[(1,oS),(2,.one (.ptr 0 0)),(4,.one (.own 1)),(5,.one (.own 2)),(10,oI),(11,oI)],[(0,.var 115 [.int .i64,.int .i64,.int .i64]),(1,.row 5 (.int .u8) .plain),(2,.row 3 (.int .i64) .plain)],3,[]⟩ w)) v
theorem f80p0O (k:Nat):SumO P Tryz.f169 422 (f80p0S k):=pt tm TB.nil ⟨[1,2,4,5,10,11],[],[]⟩ SumsOk.nil fun _ _ _=>by kernel_rfl
noncomputable def f80l1s {R:Type}(k:Nat)(rec:D38->Option R)(k0:D39->Option R)(v:D38):Option R :=
 bif (decide (v.2.2.1<v.2.1)) then
 f80p0 k
 (fun (w2:D38) =>
 rec (w2.1,w2.2.1,(IntKind.i64.wrap (w2.2.2.1+1)),w2.2.2.2.1,w2.2.2.2.2.1,w2.2.2.2.2.2.1,w2.2.2.2.2.2.2.1,w2.2.2.2.2.2.2.2.1,()))
 (v.1,v.2.1,v.2.2.1,v.2.2.2.1,v.2.2.2.2.1,v.2.2.2.2.2.1,v.2.2.2.2.2.2.1,v.2.2.2.2.2.2.2.1,())
 else
 k0 (v.1,v.2.2.2.1,v.2.2.2.2.1,v.2.2.2.2.2.1,v.2.2.2.2.2.2.1,v.2.2.2.2.2.2.2.1,())
noncomputable def f80l1 {R:Type}(k:Nat)(k0:D39->Option R)(v:D38):Option R:=iterS (fun rec v=>f80l1s k rec k0 v) k v
noncomputable def f80l1S (k:Nat):=loopSum ⟨[(1,oS),(2,.one (.ptr 0 0)),(4,.one (.own 1)),(5,.one (.own 2)),(10,oI),(11,oI)],[(0,.var 115 [.int .i64,.int .i64,.int .i64]),(1,.row 5 (.int .u8) .plain),(2,.row 3 (.int .i64) .plain)],3,[]⟩ ⟨[1,2,4,5,10,11],[(4,5,(.int .u8)),(5,3,(.int .i64))],[]⟩ k fun R rec K v=>f80l1s k rec (fun w=>K (.exit 0) (encSt ⟨[(1,oS),(2,.one (.ptr 0 0)),(4,.one (.own 1)),(5,.one (.own 2))],[(0,.var 115 [.int .i64,.int .i64,.int .i64]),(1,.row 5 (.int .u8) .plain),(2,.row 3 (.int .i64) .plain)],3,[]⟩ w)) v
theorem f80l1O (k:Nat):SumO P Tryz.f169 26 (f80l1S k):=lp tm TB.nil ⟨[1,2,4,5],[],[]⟩ (SumsOk.nil |>.s (f80p0O k) (by kernel_rfl)) (by kernel_rfl) fun _ _ _ _=>by kernel_rfl
noncomputable def f80p2 {R:Type}(k:Nat)(k0:D39->Option R)(v:D39):Option R :=
 bif (v.2.1==2) then
 bif ((decide (0<=(IntKind.i64.wrap ((v.1.size:Int) - 1))))&&(decide ((IntKind.i64.wrap ((v.1.size:Int) - 1))<(v.1.size:Int)))) then
 let t4:=(shrI .u8 (bt v.1 (IntKind.i64.wrap ((v.1.size:Int) - 1))) 4)
 bif (decide ((v.2.2.2.2.1.length+[t4].length)*1<=140737488355328)&&decide (v.2.2.2.2.1.length+[t4].length<=9223372036854775807)) then
 bif (decide ((v.2.2.2.2.2.1.length+[(IntKind.i64.wrap ((v.1.size:Int) - 1))].length)*8<=140737488355328)&&decide (v.2.2.2.2.2.1.length+[(IntKind.i64.wrap ((v.1.size:Int) - 1))].length<=9223372036854775807)) then
 k0 (v.1,v.2.1,v.2.2.1,v.2.2.2.1,(v.2.2.2.2.1++[t4]),(v.2.2.2.2.2.1++[(IntKind.i64.wrap ((v.1.size:Int) - 1))]),())
 else none
 else none
 else none
 else
 k0 (v.1,v.2.1,v.2.2.1,v.2.2.2.1,v.2.2.2.2.1,v.2.2.2.2.2.1,())
noncomputable def f80p2S (k:Nat):=partSum ⟨[(1,oS),(2,.one (.ptr 0 0)),(4,.one (.own 1)),(5,.one (.own 2))],[(0,.var 115 [.int .i64,.int .i64,.int .i64]),(1,.row 5 (.int .u8) .plain),(2,.row 3 (.int .i64) .plain)],3,[]⟩ ⟨[1,2,4,5],[],[]⟩ fun R K v=>f80p2 k (fun w=>K .normal (encSt ⟨[(1,oS),(2,.one (.ptr 0 0)),(4,.one (.own 1)),(5,.one (.own 2))],[(0,.var 115 [.int .i64,.int .i64,.int .i64]),(1,.row 5 (.int .u8) .plain),(2,.row 3 (.int .i64) .plain)],3,[]⟩ w)) v
theorem f80p2O (k:Nat):SumO P Tryz.f169 14 (f80p2S k):=pt tm TB.nil ⟨[1,2,4,5],[],[]⟩ SumsOk.nil fun _ _ _=>by kernel_rfl
noncomputable def f80F (k:Nat)(x:D40):Option (List Int×List Int) :=
 f80l1 k
 (fun (w3:D39) =>
 f80p2 k
 (fun (w5:D39) =>
 some (w5.2.2.2.2.1,w5.2.2.2.2.2.1))
 (w3.1,w3.2.1,w3.2.2.1,w3.2.2.2.1,w3.2.2.2.2.1,w3.2.2.2.2.2.1,()))
 (x.2,(x.2.size:Int),0,x.1.1,x.1.2.1,x.1.2.2,[],[],())
theorem f80Ok (k:Nat):FnV P 169 [.agg (.pair (.int .i64) Y6),.dat .str] [.own 5 (.int .u8),.own 3 (.int .i64)] (f80F k) :=
 fs tm TB.nil Tryz.func169 (by kernel_rfl) (SumsOk.nil |>.s (f80p2O k) (by kernel_rfl) |>.s (f80l1O k) (by kernel_rfl) |>.s (f80p0O k) (by kernel_rfl)) none fun _=>by kernel_rfl
noncomputable def f46T (k:Nat):TB P:=TB.nil |>.u (f80Ok k)
noncomputable def f46p0 {R:Type}(k:Nat)(k0:D41->Option R)(k1:D42->Option R)(v:D45):Option R :=
 bif (decide (v.2.2.2.1 > 9)) then
 bif ((decide (0<=v.2.2.1))&&(decide (v.2.2.1<(v.2.2.2.2.2.2.2.2.2.2.2.1.length:Int)))) then
 k0 (0,(v.2.2.2.2.2.2.2.2.2.2.2.1.getD (Int.toNat v.2.2.1) 0),21,v.1,v.2.1,v.2.2.2.1,v.2.2.2.2.1,v.2.2.2.2.2.1,v.2.2.2.2.2.2.1,v.2.2.2.2.2.2.2.1,v.2.2.2.2.2.2.2.2.1,v.2.2.2.2.2.2.2.2.2.1,v.2.2.2.2.2.2.2.2.2.2.1,v.2.2.2.2.2.2.2.2.2.2.2.1,())
 else none
 else
 bif (decide (v.2.2.2.1 > 0)) then
 bif (decide (v.2.2.1<(IntKind.i64.wrap (v.1 - v.2.2.2.2.2.2.2.2.1)))) then
 bif ((decide (0<=v.2.2.1))&&(decide (v.2.2.1<(v.2.2.2.2.2.2.2.2.2.2.2.1.length:Int)))) then
 k0 (0,(v.2.2.2.2.2.2.2.2.2.2.2.1.getD (Int.toNat v.2.2.1) 0),21,v.1,v.2.1,v.2.2.2.1,v.2.2.2.2.1,v.2.2.2.2.2.1,v.2.2.2.2.2.2.1,v.2.2.2.2.2.2.2.1,v.2.2.2.2.2.2.2.2.1,v.2.2.2.2.2.2.2.2.2.1,v.2.2.2.2.2.2.2.2.2.2.1,v.2.2.2.2.2.2.2.2.2.2.2.1,())
 else none
 else
 k1 (v.1,v.2.1,v.2.2.2.1,v.2.2.2.2.1,v.2.2.2.2.2.1,v.2.2.2.2.2.2.1,v.2.2.2.2.2.2.2.1,v.2.2.2.2.2.2.2.2.1,v.2.2.2.2.2.2.2.2.2.1,v.2.2.2.2.2.2.2.2.2.2.1,v.2.2.2.2.2.2.2.2.2.2.2.1,())
 else
 k1 (v.1,v.2.1,v.2.2.2.1,v.2.2.2.2.1,v.2.2.2.2.2.1,v.2.2.2.2.2.2.1,v.2.2.2.2.2.2.2.1,v.2.2.2.2.2.2.2.2.1,v.2.2.2.2.2.2.2.2.2.1,v.2.2.2.2.2.2.2.2.2.2.1,v.2.2.2.2.2.2.2.2.2.2.2.1,())
noncomputable def f46p0S (k:Nat):=partSum ⟨[(2,.one (.ptr 0 0)),(7,.one (.own 1)),(8,.one (.own 2)),(9,oI),(10,oI),(11,oI),(12,.one (.int .u8)),(24,.one (.ro (.int .u8))),(25,oI),(26,oI)],[(0,.var 115 [.int .i64,.int .i64,.int .i64]),(1,.row 5 (.int .u8) .frz),(2,.row 3 (.int .i64) .plain)],3,[]⟩ ⟨[2,7,8,9,10,11,12,24,25,26],[],[]⟩ fun R K v=>f46p0 k (fun w=>K .ret (encSt ⟨[(2,.one (.ptr 0 0)),(4,oI),(5,oI),(6,oI),(7,.one (.own 1)),(8,.one (.own 2)),(9,oI),(10,oI),(12,.one (.int .u8)),(24,.one (.ro (.int .u8))),(25,oI),(26,oI)],[(0,.var 115 [.int .i64,.int .i64,.int .i64]),(1,.row 5 (.int .u8) .frz),(2,.row 3 (.int .i64) .plain)],3,[]⟩ w)) (fun w=>K .normal (encSt ⟨[(2,.one (.ptr 0 0)),(7,.one (.own 1)),(8,.one (.own 2)),(9,oI),(10,oI),(12,.one (.int .u8)),(24,.one (.ro (.int .u8))),(25,oI),(26,oI)],[(0,.var 115 [.int .i64,.int .i64,.int .i64]),(1,.row 5 (.int .u8) .frz),(2,.row 3 (.int .i64) .plain)],3,[]⟩ w)) v
theorem f46p0O (k:Nat):SumO P Tryz.f156 32050 (f46p0S k):=pt tm (f46T k) ⟨[2,4,5,6,7,8,9,10,12,24,25,26],[],[]⟩ SumsOk.nil fun _ _ _=>by kernel_rfl
noncomputable def f46l1s {R:Type}(k:Nat)(rec:D46->Option R)(k0:D43->Option R)(k1:D44->Option R)(v:D46):Option R :=
 bif (decide (v.2.2.2.2.1<v.2.2.2.1)) then
 bif ((decide (0<=v.2.2.2.2.1))&&(decide (v.2.2.2.2.1<(v.2.2.1.length:Int)))) then
 f46p0 k
 (fun (w3:D41) =>
 k0 (w3.1,w3.2.1,w3.2.2.1,w3.2.2.2.1,w3.2.2.2.2.1,w3.2.2.2.2.2.2.2.2.2.2.2.2.1,w3.2.2.2.2.2.2.2.2.2.2.2.2.2.1,()))
 (fun (w4:D42) =>
 let t5:=(IntKind.i64.wrap ((IntKind.i64.wrap (w4.2.1*10))+(IntKind.i64.wrap w4.2.2.1)))
 rec (w4.1,t5,w4.2.2.2.1,w4.2.2.2.2.1,(IntKind.i64.wrap (w4.2.2.2.2.2.1+1)),w4.2.2.2.2.2.2.1,w4.2.2.2.2.2.2.2.1,w4.2.2.2.2.2.2.2.2.1,w4.2.2.2.2.2.2.2.2.2.1,w4.2.2.2.2.2.2.2.2.2.2.1,()))
 (v.1,v.2.1,v.2.2.2.2.1,(v.2.2.1.getD (Int.toNat v.2.2.2.2.1) 0),v.2.2.1,v.2.2.2.1,v.2.2.2.2.1,v.2.2.2.2.2.1,v.2.2.2.2.2.2.1,v.2.2.2.2.2.2.2.1,v.2.2.2.2.2.2.2.2.1,v.2.2.2.2.2.2.2.2.2.1,())
 else none
 else
 k1 (v.1,v.2.1,v.2.2.2.2.2.2.2.2.1,v.2.2.2.2.2.2.2.2.2.1,())
noncomputable def f46l1 {R:Type}(k:Nat)(k0:D43->Option R)(k1:D44->Option R)(v:D46):Option R:=iterS (fun rec v=>f46l1s k rec k0 k1 v) k v
noncomputable def f46l1S (k:Nat):=loopSum ⟨[(2,.one (.ptr 0 0)),(7,.one (.own 1)),(8,.one (.own 2)),(9,oI),(10,oI),(24,.one (.ro (.int .u8))),(25,oI),(26,oI)],[(0,.var 115 [.int .i64,.int .i64,.int .i64]),(1,.row 5 (.int .u8) .frz),(2,.row 3 (.int .i64) .plain)],3,[]⟩ ⟨[2,7,8,9,10,24,25,26],[],[]⟩ k fun R rec K v=>f46l1s k rec (fun w=>K .ret (encSt ⟨[(4,oI),(5,oI),(6,oI),(7,.one (.own 0)),(8,.one (.own 1)),(9,oI),(10,oI)],[(0,.row 5 (.int .u8) .frz),(1,.row 3 (.int .i64) .plain)],2,[]⟩ w)) (fun w=>K (.exit 0) (encSt ⟨[(7,.one (.own 0)),(8,.one (.own 1)),(9,oI),(10,oI)],[(0,.row 5 (.int .u8) .frz),(1,.row 3 (.int .i64) .plain)],2,[]⟩ w)) v
theorem f46l1O (k:Nat):SumO P Tryz.f156 250 (f46l1S k):=lp tm (f46T k) ⟨[4,5,6,7,8,9,10],[],[]⟩ (SumsOk.nil |>.s (f46p0O k) (by kernel_rfl)) (by kernel_rfl) fun _ _ _ _=>by kernel_rfl
noncomputable def f46p2 {R:Type}(k:Nat)(k0:D43->Option R)(k1:D44->Option R)(v:D44):Option R :=
 bif ((decide (0<=v.1))&&(decide (v.1<(v.2.2.1.length:Int)))) then
 bif (decide ((v.2.2.1.getD (Int.toNat v.1) 0)<10)) then
 bif ((decide (0<=v.1))&&(decide (v.1<(v.2.2.2.1.length:Int)))) then
 k0 (0,(v.2.2.2.1.getD (Int.toNat v.1) 0),21,v.1,v.2.1,v.2.2.1,v.2.2.2.1,())
 else none
 else
 bif ((decide (0<=v.1))&&(decide (v.1<(v.2.2.1.length:Int)))) then
 bif ((v.2.2.1.getD (Int.toNat v.1) 0)==11) then
 k1 (v.1,(IntKind.i64.wrap (0 - v.2.1)),v.2.2.1,v.2.2.2.1,())
 else
 bif ((decide (0<=v.1))&&(decide (v.1<(v.2.2.1.length:Int)))) then
 bif ((v.2.2.1.getD (Int.toNat v.1) 0)==13) then
 k1 (v.1,(IntKind.i64.wrap (0 - v.2.1)),v.2.2.1,v.2.2.2.1,())
 else
 k1 (v.1,v.2.1,v.2.2.1,v.2.2.2.1,())
 else none
 else none
 else none
noncomputable def f46p2S (k:Nat):=partSum ⟨[(7,.one (.own 0)),(8,.one (.own 1)),(9,oI),(10,oI)],[(0,.row 5 (.int .u8) .frz),(1,.row 3 (.int .i64) .plain)],2,[]⟩ ⟨[7,8,9,10],[],[]⟩ fun R K v=>f46p2 k (fun w=>K .ret (encSt ⟨[(4,oI),(5,oI),(6,oI),(7,.one (.own 0)),(8,.one (.own 1)),(9,oI),(10,oI)],[(0,.row 5 (.int .u8) .frz),(1,.row 3 (.int .i64) .plain)],2,[]⟩ w)) (fun w=>K .normal (encSt ⟨[(7,.one (.own 0)),(8,.one (.own 1)),(9,oI),(10,oI)],[(0,.row 5 (.int .u8) .frz),(1,.row 3 (.int .i64) .plain)],2,[]⟩ w)) v
theorem f46p2O (k:Nat):SumO P Tryz.f156 126 (f46p2S k):=pt tm (f46T k) ⟨[4,5,6,7,8,9,10],[],[]⟩ SumsOk.nil fun _ _ _=>by kernel_rfl
noncomputable def f46F (k:Nat)(x:D40):Option (Int×Int×Int) :=
 Option.bind (f80F k ((x.1.1,(x.1.2.1,x.1.2.2)),x.2)) fun y1 =>
 bif (sliceBds 0 (IntKind.i64.wrap ((y1.1.length:Int) - 1)) (y1.1.length:Int)) then
 let t2:=((y1.1.take (Int.toNat (IntKind.i64.wrap ((y1.1.length:Int) - 1)))).drop 0)
 f46l1 k
 (fun (w6:D43) =>
 some (w6.1,w6.2.1,w6.2.2.1))
 (fun (w7:D44) =>
 f46p2 k
 (fun (w8:D43) =>
 some (w8.1,w8.2.1,w8.2.2.1))
 (fun (w9:D44) =>
 some (w9.2.1,0,0))
 (w7.1,w7.2.1,w7.2.2.1,w7.2.2.2.1,()))
 ((IntKind.i64.wrap ((y1.1.length:Int) - 1)),0,t2,(t2.length:Int),0,x.1.1,x.1.2.1,x.1.2.2,y1.1,y1.2,())
 else none
theorem f46Ok (k:Nat):FnV P 156 [.agg (.pair (.int .i64) Y6),.dat .str] [.dat (.int .i64),.dat (.int .i64),.dat (.int .i64)] (f46F k) :=
 fs tm (f46T k) Tryz.func156 (by kernel_rfl) (SumsOk.nil |>.s (f46p2O k) (by kernel_rfl) |>.s (f46l1O k) (by kernel_rfl) |>.s (f46p0O k) (by kernel_rfl)) none fun _=>by kernel_rfl
noncomputable def f16T (k:Nat):TB P:=TB.nil |>.u (f46Ok k) |>.u (f29Ok k) |>.u (f45Ok k) |>.u (f43Ok k) |>.u (f42Ok k) |>.u (f44Ok k) |>.u (f28Ok k)
noncomputable def f16p0 {R:Type}(k:Nat)(k0:D47->Option R)(v:D47):Option R :=
 bif (v.2.1==0) then
 Option.bind (f44F k (v.2.2.1,(v.2.2.2.1,v.2.2.2.2.1))) fun y4 =>
 Option.bind (f43F k (((v.1.size:Int) !=y4),18)) fun y5 =>
 k0 (v.1,y5,v.2.2.1,v.2.2.2.1,v.2.2.2.2.1,v.2.2.2.2.2.1,v.2.2.2.2.2.2.1,())
 else
 k0 (v.1,v.2.1,v.2.2.1,v.2.2.2.1,v.2.2.2.2.1,v.2.2.2.2.2.1,v.2.2.2.2.2.2.1,())
noncomputable def f16p0S (k:Nat):=partSum ⟨[(1,oS),(2,.one (.ptr 0 0)),(4,.one (.ptr 1 0)),(7,oI)],[(0,.var 115 [.int .i64,.int .i64,.int .i64]),(1,.var 176 [.int .i64,.str])],2,[]⟩ ⟨[1,2,4,7],[],[]⟩ fun R K v=>f16p0 k (fun w=>K .normal (encSt ⟨[(1,oS),(2,.one (.ptr 0 0)),(4,.one (.ptr 1 0)),(7,oI)],[(0,.var 115 [.int .i64,.int .i64,.int .i64]),(1,.var 176 [.int .i64,.str])],2,[]⟩ w)) v
theorem f16p0O (k:Nat):SumO P Tryz.f137 14 (f16p0S k):=pt tm (f16T k) ⟨[1,2,4,5,6,7],[],[]⟩ SumsOk.nil fun _ _ _=>by kernel_rfl
noncomputable def f16F (k:Nat)(x:D40):Option (D48) :=
 Option.bind (f28F k (x.1.1,(x.1.2.1,x.1.2.2))) fun y1 =>
 Option.bind (f43F k ((x.1.1==4),17)) fun y2 =>
 Option.bind (f42F k [y1,y2]) fun y3 =>
 f16p0 k
 (fun (w6:D47) =>
 bif (w6.2.1 !=0) then
 some ((0,ByteArray.empty),0,w6.2.1)
 else
 bif (w6.2.2.1==0) then
 some ((0,w6.1),0,0)
 else
 bif (w6.2.2.1==3) then
 Option.bind (f45F k w6.1) fun y7 =>
 Option.bind (f29F k ((w6.2.2.1,(w6.2.2.2.1,w6.2.2.2.2.1)),(y7,ByteArray.empty))) fun y8 =>
 bif (y8 !=0) then
 some ((0,ByteArray.empty),0,y8)
 else
 some ((y7,ByteArray.empty),0,0)
 else
 Option.bind (f46F k ((w6.2.2.1,(w6.2.2.2.1,w6.2.2.2.2.1)),w6.1)) fun y9 =>
 some ((y9.1,ByteArray.empty),y9.2.1,y9.2.2))
 (x.2,y3,x.1.1,x.1.2.1,x.1.2.2,0,ByteArray.empty,())
theorem f16Ok (k:Nat):FnV P 137 [.agg (.pair (.int .i64) Y6),.dat .str] [.agg Y12,.dat (.int .i64),.dat (.int .i64)] (f16F k) :=
 fs tm (f16T k) Tryz.func137 (by kernel_rfl) (SumsOk.nil |>.s (f16p0O k) (by kernel_rfl)) none fun _=>by kernel_rfl
theorem f839V (k:Nat):FnV P 139 [.dat .str,.dat .str] [.dat .str] (f839F k):=⟨f839B,f839Ok k⟩
noncomputable def f838p0 {R:Type}(k:Nat)(k0:D1->Option R)(v:D1):Option R :=
 bif ((decide (0<=v.2.1))&&(decide (v.2.1<(v.2.2.1.length:Int)))) then
 bif (decide ((v.2.2.1.getD (Int.toNat v.2.1) 0)<32)) then
 bif ((decide (0<=v.2.1))&&(decide (v.2.1<(v.2.2.1.length:Int)))) then
 k0 (v.1,v.2.1,(v.2.2.1.set (Int.toNat v.2.1) 63),())
 else none
 else
 bif (decide ((v.2.2.1.getD (Int.toNat v.2.1) 0) > 126)) then
 bif ((decide (0<=v.2.1))&&(decide (v.2.1<(v.2.2.1.length:Int)))) then
 k0 (v.1,v.2.1,(v.2.2.1.set (Int.toNat v.2.1) 63),())
 else none
 else
 k0 (v.1,v.2.1,v.2.2.1,())
 else none
noncomputable def f838p0S (k:Nat):=partSum ⟨[(3,.one (.own 0)),(8,.one (.own 0)),(9,oI),(10,oI)],[(0,.row 5 (.int .u8) .mark)],1,[]⟩ ⟨[3,8,9,10],[],[]⟩ fun R K v=>f838p0 k (fun w=>K .normal (encSt ⟨[(3,.one (.own 0)),(8,.one (.own 0)),(9,oI),(10,oI)],[(0,.row 5 (.int .u8) .mark)],1,[]⟩ w)) v
theorem f838p0O (k:Nat):SumO P Tryz.f138 934 (f838p0S k):=pt tm TB.nil ⟨[2,3,8,9,10],[],[]⟩ SumsOk.nil fun _ _ _=>by kernel_rfl
noncomputable def f838l1s {R:Type}(k:Nat)(rec:D1->Option R)(k0:List Int×Unit->Option R)(v:D1):Option R :=
 bif (decide (v.2.1<v.1)) then
 f838p0 k
 (fun (w1:D1) =>
 rec (w1.1,(IntKind.i64.wrap (w1.2.1+1)),w1.2.2.1,()))
 (v.1,v.2.1,v.2.2.1,())
 else
 k0 (v.2.2.1,())
noncomputable def f838l1 {R:Type}(k:Nat)(k0:List Int×Unit->Option R)(v:D1):Option R:=iterS (fun rec v=>f838l1s k rec k0 v) k v
noncomputable def f838l1S (k:Nat):=loopSum ⟨[(3,.one (.own 0)),(8,.one (.own 0)),(9,oI),(10,oI)],[(0,.row 5 (.int .u8) .mark)],1,[]⟩ ⟨[3,8,9,10],[],[]⟩ k fun R rec K v=>f838l1s k rec (fun w=>K (.exit 0) (encSt ⟨[(3,.one (.own 0))],[(0,.row 5 (.int .u8) .mark)],1,[]⟩ w)) v
theorem f838l1O (k:Nat):SumO P Tryz.f138 58 (f838l1S k):=lp tm TB.nil ⟨[2,3],[],[]⟩ (SumsOk.nil |>.s (f838p0O k) (by kernel_rfl)) (by kernel_rfl) fun _ _ _ _=>by kernel_rfl
noncomputable def f838F (k:Nat)(x:ByteArray):Option (ByteArray) :=
 bif (decide (x.size<=9223372036854775807)) then
 f838l1 k
 (fun (w2:List Int×Unit) =>
 some (strOfNums w2.1))
 (((bytesOf x).length:Int),0,(bytesOf x),())
 else none
theorem f838Ok (k:Nat):FnV P 138 [.dat .str] [.dat .str] (f838F k) :=
 fs tm TB.nil Tryz.func138 (by kernel_rfl) (SumsOk.nil |>.s (f838l1O k) (by kernel_rfl) |>.s (f838p0O k) (by kernel_rfl)) none fun _=>by kernel_rfl
noncomputable def f52T (k:Nat):TB P:=TB.nil |>.u (f43Ok k) |>.u (f70Ok k)
noncomputable def f52F (k:Nat)(x:(Int×Int)):Option (Int) :=
 Option.bind (f70F k (x.1,(-999999999999999),999999999999999)) fun y1 =>
 bif (!y1) then
 Option.bind (f43F k (true,3)) fun y2 =>
 some y2
 else
 Option.bind (f70F k (x.2,0,15)) fun y3 =>
 Option.bind (f43F k ((!y3),3)) fun y4 =>
 some y4
theorem f52Ok (k:Nat):FnV P 161 [.agg Y6] [.dat (.int .i64)] (f52F k) :=
 fs tm (f52T k) Tryz.func161 (by kernel_rfl) SumsOk.nil none fun _=>by kernel_rfl
theorem f862V (k:Nat):FnV P 162 [.dat (.int .i64)] [.dat .str] (f862F k):=⟨f862B,f862Ok k⟩
theorem f73V (k:Nat):FnV P 163 [.dat .str,.dat (.int .i64)] [.dat .str] (f73F k):=⟨f73B,f73Ok k⟩
noncomputable def f840T (k:Nat):TB P:=TB.nil |>.u (f73V k) |>.u (f862V k) |>.u (f52Ok k)
noncomputable def f840p0 {R:Type}(k:Nat)(k0:D49->Option R)(v:D49):Option R :=
 bif (decide ((v.1.size:Int)<=v.2.2.1)) then
 let t3:=(IntKind.i64.wrap ((IntKind.i64.wrap (v.2.2.1+1)) - (v.1.size:Int)))
 Option.bind (f73F k ((⟨#[48]⟩:ByteArray),t3)) fun y4 =>
 bif (decide (y4.size+v.1.size<=9223372036854775807)) then
 k0 ((y4++v.1),v.2.1,v.2.2.1,())
 else none
 else
 k0 (v.1,v.2.1,v.2.2.1,())
noncomputable def f840p0S (k:Nat):=partSum ⟨[(1,.one (.ptr 0 0)),(5,oS)],[(0,.var 181 [.int .i64,.int .i64])],1,[]⟩ ⟨[1,5],[],[]⟩ fun R K v=>f840p0 k (fun w=>K .normal (encSt ⟨[(1,.one (.ptr 0 0)),(5,oS)],[(0,.var 181 [.int .i64,.int .i64])],1,[]⟩ w)) v
theorem f840p0O (k:Nat):SumO P Tryz.f140 30 (f840p0S k):=pt tm (f840T k) ⟨[1,2,3,5],[],[]⟩ SumsOk.nil fun _ _ _=>by kernel_rfl
noncomputable def f840p1 {R:Type}(k:Nat)(k0:D49->Option R)(v:D49):Option R :=
 bif (decide (v.2.2.1 > 0)) then
 bif (sliceBds 0 (IntKind.i64.wrap ((v.1.size:Int) - v.2.2.1)) (v.1.size:Int)) then
 let t6:=(v.1.extract 0 (Int.toNat (IntKind.i64.wrap ((v.1.size:Int) - v.2.2.1))))
 bif (decide (t6.size+(⟨#[46]⟩:ByteArray).size<=9223372036854775807)) then
 bif (sliceBds (IntKind.i64.wrap ((v.1.size:Int) - v.2.2.1)) (v.1.size:Int) (v.1.size:Int)) then
 let t7:=(v.1.extract (Int.toNat (IntKind.i64.wrap ((v.1.size:Int) - v.2.2.1))) (Int.toNat (v.1.size:Int)))
 bif (decide ((t6++(⟨#[46]⟩:ByteArray)).size+t7.size<=9223372036854775807)) then
 k0 (((t6++(⟨#[46]⟩:ByteArray))++t7),v.2.1,v.2.2.1,())
 else none
 else none
 else none
 else none
 else
 k0 (v.1,v.2.1,v.2.2.1,())
noncomputable def f840p1S (k:Nat):=partSum ⟨[(1,.one (.ptr 0 0)),(5,oS)],[(0,.var 181 [.int .i64,.int .i64])],1,[]⟩ ⟨[1,5],[],[]⟩ fun R K v=>f840p1 k (fun w=>K .normal (encSt ⟨[(1,.one (.ptr 0 0)),(5,oS)],[(0,.var 181 [.int .i64,.int .i64])],1,[]⟩ w)) v
theorem f840p1O (k:Nat):SumO P Tryz.f140 62 (f840p1S k):=pt tm (f840T k) ⟨[1,2,3,5],[],[]⟩ SumsOk.nil fun _ _ _=>by kernel_rfl
noncomputable def f840p2 {R:Type}(k:Nat)(k0:ByteArray×Unit->Option R)(v:D49):Option R :=
 bif (decide (v.2.1<0)) then
 bif (decide ((⟨#[45]⟩:ByteArray).size+v.1.size<=9223372036854775807)) then
 k0 (((⟨#[45]⟩:ByteArray)++v.1),())
 else none
 else
 k0 (v.1,())
noncomputable def f840p2S (k:Nat):=partSum ⟨[(1,.one (.ptr 0 0)),(5,oS)],[(0,.var 181 [.int .i64,.int .i64])],1,[]⟩ ⟨[1,5],[],[]⟩ fun R K v=>f840p2 k (fun w=>K .normal (encSt ⟨[(5,oS)],[],0,[]⟩ w)) v
theorem f840p2O (k:Nat):SumO P Tryz.f140 126 (f840p2S k):=pt tm (f840T k) ⟨[2,3,5],[],[]⟩ SumsOk.nil fun _ _ _=>by kernel_rfl
noncomputable def f840F (k:Nat)(x:(Int×Int)):Option (ByteArray×Int) :=
 Option.bind (f52F k (x.1,x.2)) fun y1 =>
 bif (y1 !=0) then
 some (ByteArray.empty,y1)
 else
 Option.bind (f862F k (mxI x.1 (IntKind.i64.wrap (0 - x.1)))) fun y2 =>
 f840p0 k
 (fun (w5:D49) =>
 f840p1 k
 (fun (w8:D49) =>
 f840p2 k
 (fun (w9:ByteArray×Unit) =>
 some (w9.1,0))
 (w8.1,w8.2.1,w8.2.2.1,()))
 (w5.1,w5.2.1,w5.2.2.1,()))
 (y2,x.1,x.2,())
theorem f840Ok (k:Nat):FnV P 140 [.agg Y6] [.dat .str,.dat (.int .i64)] (f840F k) :=
 fs tm (f840T k) Tryz.func140 (by kernel_rfl) (SumsOk.nil |>.s (f840p2O k) (by kernel_rfl) |>.s (f840p1O k) (by kernel_rfl) |>.s (f840p0O k) (by kernel_rfl)) none fun _=>by kernel_rfl
noncomputable def f824T (k:Nat):TB P:=TB.nil |>.u (f840Ok k) |>.u (f839V k) |>.u (f838Ok k) |>.u (f16Ok k)
noncomputable def f824F (k:Nat)(x:D40):Option (ByteArray) :=
 Option.bind (f16F k ((x.1.1,(x.1.2.1,x.1.2.2)),x.2)) fun y1 =>
 bif (y1.2.2 !=0) then
 some (⟨#[42,78]⟩:ByteArray)
 else
 bif (x.1.1==0) then
 Option.bind (f839F k (y1.1.2,(⟨#[32]⟩:ByteArray))) fun y2 =>
 Option.bind (f838F k y2) fun y3 =>
 some y3
 else
 Option.bind (f840F k (y1.1.1,x.1.2.2)) fun y4 =>
 some y4.1
theorem f824Ok (k:Nat):FnV P 124 [.agg (.pair (.int .i64) Y6),.dat .str] [.dat .str] (f824F k) :=
 fs tm (f824T k) Tryz.func124 (by kernel_rfl) SumsOk.nil none fun _=>by kernel_rfl
noncomputable def f807T (k:Nat):TB P:=TB.nil |>.u (f824Ok k) |>.u (f24Ok k)
noncomputable def f807p0 {R:Type}(k:Nat)(k0:D51->Option R)(v:D52):Option R :=
 bif (decide ((IntKind.i64.wrap (v.2.1+v.2.2.1))<=(v.1.size:Int))) then
 bif (sliceBds v.2.1 (IntKind.i64.wrap (v.2.1+v.2.2.1)) (v.1.size:Int)) then
 let t3:=(v.1.extract (Int.toNat v.2.1) (Int.toNat (IntKind.i64.wrap (v.2.1+v.2.2.1))))
 Option.bind (f824F k ((v.2.2.2.2.2.2.2.2.1,(v.2.2.2.2.2.2.2.2.2.1,v.2.2.2.2.2.2.2.2.2.2.1)),t3)) fun y4 =>
 k0 (v.1,v.2.1,v.2.2.1,y4,v.2.2.2.2.1,v.2.2.2.2.2.1,v.2.2.2.2.2.2.1,v.2.2.2.2.2.2.2.1,())
 else none
 else
 k0 (v.1,v.2.1,v.2.2.1,v.2.2.2.1,v.2.2.2.2.1,v.2.2.2.2.2.1,v.2.2.2.2.2.2.1,v.2.2.2.2.2.2.2.1,())
noncomputable def f807p0S (k:Nat):=partSum ⟨[(1,oS),(5,.one (.own 0)),(6,oI),(8,.one (.ptr 1 0)),(9,oI),(11,oS),(12,.one (.ro (.pair (.int .i64) Y6))),(13,oI),(14,oI)],[(0,.row 9 .str .plain),(1,.var 115 [.int .i64,.int .i64,.int .i64])],2,[]⟩ ⟨[1,5,6,8,9,11,12,13,14],[],[]⟩ fun R K v=>f807p0 k (fun w=>K .normal (encSt ⟨[(1,oS),(5,.one (.own 0)),(6,oI),(9,oI),(11,oS),(12,.one (.ro (.pair (.int .i64) Y6))),(13,oI),(14,oI)],[(0,.row 9 .str .plain)],1,[]⟩ w)) v
theorem f807p0O (k:Nat):SumO P Tryz.f107 62670 (f807p0S k):=pt tm (f807T k) ⟨[1,4,5,6,9,11,12,13,14],[],[]⟩ SumsOk.nil fun _ _ _=>by kernel_rfl
noncomputable def f807l1s {R:Type}(k:Nat)(rec:D53->Option R)(k0:List ByteArray×Unit->Option R)(v:D53):Option R :=
 bif (decide (v.2.2.2.2.1<v.2.2.2.1)) then
 bif ((decide (0<=v.2.2.2.2.1))&&(decide (v.2.2.2.2.1<(v.2.2.1.length:Int)))) then
 let t1:=(v.2.2.1.getD (Int.toNat v.2.2.2.2.1) (0,(0,0)))
 Option.bind (f24F k (t1.1,(t1.2.1,t1.2.2))) fun y2 =>
 f807p0 k
 (fun (w5:D51) =>
 bif (decide ((w5.2.2.2.2.2.2.2.1.length+[w5.2.2.2.1].length)*16<=140737488355328)&&decide (w5.2.2.2.2.2.2.2.1.length+[w5.2.2.2.1].length<=9223372036854775807)) then
 rec (w5.1,(IntKind.i64.wrap (w5.2.1+w5.2.2.1)),w5.2.2.2.2.1,w5.2.2.2.2.2.1,(IntKind.i64.wrap (w5.2.2.2.2.2.2.1+1)),(w5.2.2.2.2.2.2.2.1++[w5.2.2.2.1]),())
 else none)
 (v.1,v.2.1,y2.1,(⟨#[42,78]⟩:ByteArray),v.2.2.1,v.2.2.2.1,v.2.2.2.2.1,v.2.2.2.2.2.1,t1.1,t1.2.1,t1.2.2,())
 else none
 else
 k0 (v.2.2.2.2.2.1,())
noncomputable def f807l1 {R:Type}(k:Nat)(k0:List ByteArray×Unit->Option R)(v:D53):Option R:=iterS (fun rec v=>f807l1s k rec k0 v) k v
noncomputable def f807l1S (k:Nat):=loopSum ⟨[(1,oS),(5,.one (.own 0)),(6,oI),(12,.one (.ro (.pair (.int .i64) Y6))),(13,oI),(14,oI)],[(0,.row 9 .str .plain)],1,[]⟩ ⟨[1,5,6,12,13,14],[(5,9,.str)],[]⟩ k fun R rec K v=>f807l1s k rec (fun w=>K (.exit 0) (encSt ⟨[(5,.one (.own 0))],[(0,.row 9 .str .plain)],1,[]⟩ w)) v
theorem f807l1O (k:Nat):SumO P Tryz.f107 122 (f807l1S k):=lp tm (f807T k) ⟨[4,5],[],[]⟩ (SumsOk.nil |>.s (f807p0O k) (by kernel_rfl)) (by kernel_rfl) fun _ _ _ _=>by kernel_rfl
noncomputable def f807F (k:Nat)(x:D54):Option (List ByteArray) :=
 f807l1 k
 (fun (w6:List ByteArray×Unit) =>
 some w6.1)
 (x.2,0,x.1,(x.1.length:Int),0,[],())
theorem f807Ok (k:Nat):FnV P 107 [.dat (.slice (.pair (.int .i64) Y6)),.dat .str] [.own 9 .str] (f807F k) :=
 fs tm (f807T k) Tryz.func107 (by kernel_rfl) (SumsOk.nil |>.s (f807l1O k) (by kernel_rfl) |>.s (f807p0O k) (by kernel_rfl)) none fun _=>by kernel_rfl
noncomputable def f825v0I:Shape:=⟨[(0,.one (.ptr 0 0)),(1,oS)],[(0,.var 167 [.nil .ptr,.emp])],1,[]⟩
noncomputable def f825v0U:Shape:=⟨[(0,oI),(1,.one (.nil .iface))],[(0,.var 167 [.ptr 0 0,.own 1]),(1,.row 5 (.int .u8) .plain)],2,[]⟩
noncomputable def f825v0T (k:Nat):TB P:=TB.nil |>.h Tryz.func141 (by kernel_rfl) bc_ok
noncomputable def f825v0F (k:Nat)(x:ByteArray×Unit):Option (Int×List Int×Unit) :=
 bif (decide ((([]:List Int).length+(bytesOf x.1).length)*1<=140737488355328)&&decide (([]:List Int).length+(bytesOf x.1).length<=9223372036854775807)) then
 some ((x.1.size:Int),([]++(bytesOf x.1)),())
 else none
theorem f825v0Ok (k:Nat):GnV P 125 f825v0I f825v0U (f825v0F k) :=
 gs tm (f825v0T k) Tryz.func125 (by kernel_rfl) SumsOk.nil [.dat .bool,.dat .bool] [] none fun _=>by kernel_rfl
noncomputable def f826v0I:Shape:=⟨[(0,.one (.ptr 0 0)),(1,.one (.int .u8))],[(0,.var 167 [.nil .ptr,.emp])],1,[]⟩
noncomputable def f826v0U:Shape:=⟨[(0,.one (.nil .iface))],[(0,.var 167 [.ptr 0 0,.own 1]),(1,.row 5 (.int .u8) .plain)],2,[]⟩
noncomputable def f826v0T (k:Nat):TB P:=TB.nil |>.h Tryz.func141 (by kernel_rfl) bc_ok
noncomputable def f826v0F (k:Nat)(x:Int×Unit):Option (List Int×Unit) :=
 bif (decide ((([]:List Int).length+[x.1].length)*1<=140737488355328)&&decide (([]:List Int).length+[x.1].length<=9223372036854775807)) then
 some (([]++[x.1]),())
 else none
theorem f826v0Ok (k:Nat):GnV P 126 f826v0I f826v0U (f826v0F k) :=
 gs tm (f826v0T k) Tryz.func126 (by kernel_rfl) SumsOk.nil [.dat .bool] [] none fun _=>by kernel_rfl
noncomputable def f825v1I:Shape:=⟨[(0,.one (.ptr 0 0)),(1,oS)],[(0,.var 167 [.ptr 0 0,.own 1]),(1,.row 5 (.int .u8) .plain)],2,[]⟩
noncomputable def f825v1U:Shape:=⟨[(0,oI),(1,.one (.nil .iface))],[(0,.var 167 [.ptr 0 0,.own 2]),(2,.row 5 (.int .u8) .plain)],3,[]⟩
noncomputable def f825v1T (k:Nat):TB P:=TB.nil |>.h Tryz.func141 (by kernel_rfl) bc_ok
noncomputable def f825v1F (k:Nat)(x:D57):Option (Int×List Int×Unit) :=
 bif (decide ((x.2.1.length+(bytesOf x.1).length)*1<=140737488355328)&&decide (x.2.1.length+(bytesOf x.1).length<=9223372036854775807)) then
 some ((x.1.size:Int),(x.2.1++(bytesOf x.1)),())
 else none
theorem f825v1Ok (k:Nat):GnV P 125 f825v1I f825v1U (f825v1F k) :=
 gs tm (f825v1T k) Tryz.func125 (by kernel_rfl) SumsOk.nil [.dat .bool,.dat .bool] [1] none fun _=>by kernel_rfl
noncomputable def f826v1I:Shape:=⟨[(0,.one (.ptr 0 0)),(1,.one (.int .u8))],[(0,.var 167 [.ptr 0 0,.own 1]),(1,.row 5 (.int .u8) .plain)],2,[]⟩
noncomputable def f826v1U:Shape:=⟨[(0,.one (.nil .iface))],[(0,.var 167 [.ptr 0 0,.own 2]),(2,.row 5 (.int .u8) .plain)],3,[]⟩
noncomputable def f826v1T (k:Nat):TB P:=TB.nil |>.h Tryz.func141 (by kernel_rfl) bc_ok
noncomputable def f826v1F (k:Nat)(x:Int×List Int×Unit):Option (List Int×Unit) :=
 bif (decide ((x.2.1.length+[x.1].length)*1<=140737488355328)&&decide (x.2.1.length+[x.1].length<=9223372036854775807)) then
 some ((x.2.1++[x.1]),())
 else none
theorem f826v1Ok (k:Nat):GnV P 126 f826v1I f826v1U (f826v1F k) :=
 gs tm (f826v1T k) Tryz.func126 (by kernel_rfl) SumsOk.nil [.dat .bool] [1] none fun _=>by kernel_rfl
noncomputable def f808T (k:Nat):TB P:=TB.nil |>.h Tryz.func127 (by kernel_rfl) bs_ok |>.c ((f826v1Ok k).e.or (f826v0Ok k).e) |>.c ((f825v1Ok k).e.or (f825v0Ok k).e)
noncomputable def f808p0H:Shape:=⟨[(0,oS),(1,.one (.ro .str)),(5,.one (.ptr 0 0)),(6,oI)],[(0,.var 167 [.nil .ptr,.emp])],1,[]⟩
noncomputable def f808p0X0:Shape:=⟨[(0,oS),(1,.one (.ro .str)),(5,.one (.ptr 0 0)),(6,oI)],[(0,.var 167 [.ptr 0 0,.own 1]),(1,.row 5 (.int .u8) .plain)],2,[]⟩
noncomputable def f808p0X1:Shape:=⟨[(0,oS),(1,.one (.ro .str)),(5,.one (.ptr 0 0)),(6,oI)],[(0,.var 167 [.nil .ptr,.emp])],1,[]⟩
noncomputable def f808p0N:NoteR:=⟨[0,1,5,6],[],[]⟩
noncomputable def f808p0M:NoteR:=⟨[0,1,4,5,6],[],[]⟩
noncomputable def f808p0C:Code:=firstC (codesAt 1864 (codeOf Tryz.f108) 1)
noncomputable def f808p0 {R:Type}(k:Nat)(k0:D55->Option R)(k1:D56->Option R)(v:D56):Option R :=
 bif ((decide (0<=v.2.2.1))&&(decide (v.2.2.1<(v.1.size:Int)))) then
 bif ((bt v.1 v.2.2.1)==38) then
 bif (decide ((IntKind.i64.wrap (v.2.2.1+1))<(v.1.size:Int))) then
 bif ((decide (0<=(IntKind.i64.wrap (v.2.2.1+1))))&&(decide ((IntKind.i64.wrap (v.2.2.1+1))<(v.1.size:Int)))) then
 let t1:=(decide ((bt v.1 (IntKind.i64.wrap (v.2.2.1+1)))≥49))
 bif t1 then
 bif ((decide (0<=(IntKind.i64.wrap (v.2.2.1+1))))&&(decide ((IntKind.i64.wrap (v.2.2.1+1))<(v.1.size:Int)))) then
 let t2:=(IntKind.u8.wrap ((bt v.1 (IntKind.i64.wrap (v.2.2.1+1))) - 48))
 bif (decide ((IntKind.i64.wrap t2)<=(v.2.1.length:Int))) then
 bif ((decide (0<=(IntKind.i64.wrap (v.2.2.1+1))))&&(decide ((IntKind.i64.wrap (v.2.2.1+1))<(v.1.size:Int)))) then
 let t3:=(IntKind.u8.wrap ((bt v.1 (IntKind.i64.wrap (v.2.2.1+1))) - 49))
 bif ((decide (0<=t3))&&(decide (t3<(v.2.1.length:Int)))) then
 Option.bind (f825v0F k ((v.2.1.getD (Int.toNat t3) ByteArray.empty),())) fun y4 =>
 k0 (v.1,v.2.1,(IntKind.i64.wrap (v.2.2.1+1)),y4.2.1,())
 else none
 else none
 else
 k1 (v.1,v.2.1,v.2.2.1,())
 else none
 else
 k1 (v.1,v.2.1,v.2.2.1,())
 else none
 else
 k1 (v.1,v.2.1,v.2.2.1,())
 else
 k1 (v.1,v.2.1,v.2.2.1,())
 else none
noncomputable def f808p0S (k:Nat):Sum1:=partSum f808p0H f808p0N (fun R K v=>f808p0 k (fun w=>K (.exit 1) (encSt f808p0X0 w)) (fun w=>K .normal (encSt f808p0X1 w)) v)
theorem f808p0E (k:Nat)(R:Type)(K:X->St->Option R)(v:f808p0H.Den):evS tab (f808T k).t Tryz.f108.ntmps [] f808p0C 1864 (partK f808p0M K) (encSt f808p0H v)=f808p0 k (fun w=>K (.exit 1) (encSt f808p0X0 w)) (fun w=>K .normal (encSt f808p0X1 w)) v:=by kernel_rfl
theorem f808p0I (k:Nat):SumsOk P Tryz.f108.ntmps [] f808p0C 1864:=SumsOk.nil
theorem f808p0O (k:Nat):SumO P Tryz.f108 1864 (f808p0S k):=sum_part tm.1 (f808T k).ok tm.2 (f808p0I k) (f808p0E k)
noncomputable def f808p1H:Shape:=⟨[(0,oS),(1,.one (.ro .str)),(5,.one (.ptr 0 0)),(6,oI)],[(0,.var 167 [.nil .ptr,.emp])],1,[]⟩
noncomputable def f808p1X0:Shape:=⟨[(0,oS),(1,.one (.ro .str)),(5,.one (.ptr 0 0)),(6,oI)],[(0,.var 167 [.ptr 0 0,.own 1]),(1,.row 5 (.int .u8) .plain)],2,[]⟩
noncomputable def f808p1N:NoteR:=⟨[0,1,5,6],[],[]⟩
noncomputable def f808p1M:NoteR:=⟨[0,1,4,5,6],[],[]⟩
noncomputable def f808p1C:Code:=firstC (codesAt 466 (codeOf Tryz.f108) 1)
noncomputable def f808p1 {R:Type}(k:Nat)(k0:D55->Option R)(v:D56):Option R :=
 f808p0 k
 (fun (w5:D55) =>
 k0 (w5.1,w5.2.1,w5.2.2.1,w5.2.2.2.1,()))
 (fun (w6:D56) =>
 bif ((decide (0<=w6.2.2.1))&&(decide (w6.2.2.1<(w6.1.size:Int)))) then
 Option.bind (f826v0F k ((bt w6.1 w6.2.2.1),())) fun y7 =>
 k0 (w6.1,w6.2.1,w6.2.2.1,y7.1,())
 else none)
 (v.1,v.2.1,v.2.2.1,())
noncomputable def f808p1S (k:Nat):Sum1:=partSum f808p1H f808p1N (fun R K v=>f808p1 k (fun w=>K .normal (encSt f808p1X0 w)) v)
theorem f808p1E (k:Nat)(R:Type)(K:X->St->Option R)(v:f808p1H.Den):evS tab (f808T k).t Tryz.f108.ntmps [(1864,f808p0S k)] f808p1C 466 (partK f808p1M K) (encSt f808p1H v)=f808p1 k (fun w=>K .normal (encSt f808p1X0 w)) v:=by kernel_rfl
theorem f808p1I (k:Nat):SumsOk P Tryz.f108.ntmps [(1864,f808p0S k)] f808p1C 466:=(SumsOk.nil).s (f808p0O k) (by kernel_rfl)
theorem f808p1O (k:Nat):SumO P Tryz.f108 466 (f808p1S k):=sum_part tm.1 (f808T k).ok tm.2 (f808p1I k) (f808p1E k)
noncomputable def f808p2H:Shape:=⟨[(0,oS),(1,.one (.ro .str)),(5,.one (.ptr 0 0)),(6,oI)],[(0,.var 167 [.ptr 0 0,.own 1]),(1,.row 5 (.int .u8) .plain)],2,[]⟩
noncomputable def f808p2X0:Shape:=⟨[(0,oS),(1,.one (.ro .str)),(5,.one (.ptr 0 0)),(6,oI)],[(0,.var 167 [.ptr 0 0,.own 1]),(1,.row 5 (.int .u8) .plain)],2,[]⟩
noncomputable def f808p2X1:Shape:=⟨[(0,oS),(1,.one (.ro .str)),(5,.one (.ptr 0 0)),(6,oI)],[(0,.var 167 [.ptr 0 0,.own 1]),(1,.row 5 (.int .u8) .plain)],2,[]⟩
noncomputable def f808p2N:NoteR:=⟨[0,1,5,6],[],[]⟩
noncomputable def f808p2M:NoteR:=⟨[0,1,4,5,6],[],[]⟩
noncomputable def f808p2C:Code:=firstC (codesAt 1864 (codeOf Tryz.f108) 1)
noncomputable def f808p2 {R:Type}(k:Nat)(k0:D55->Option R)(k1:D55->Option R)(v:D55):Option R :=
 bif ((decide (0<=v.2.2.1))&&(decide (v.2.2.1<(v.1.size:Int)))) then
 bif ((bt v.1 v.2.2.1)==38) then
 bif (decide ((IntKind.i64.wrap (v.2.2.1+1))<(v.1.size:Int))) then
 bif ((decide (0<=(IntKind.i64.wrap (v.2.2.1+1))))&&(decide ((IntKind.i64.wrap (v.2.2.1+1))<(v.1.size:Int)))) then
 let t9:=(decide ((bt v.1 (IntKind.i64.wrap (v.2.2.1+1)))≥49))
 bif t9 then
 bif ((decide (0<=(IntKind.i64.wrap (v.2.2.1+1))))&&(decide ((IntKind.i64.wrap (v.2.2.1+1))<(v.1.size:Int)))) then
 let t10:=(IntKind.u8.wrap ((bt v.1 (IntKind.i64.wrap (v.2.2.1+1))) - 48))
 bif (decide ((IntKind.i64.wrap t10)<=(v.2.1.length:Int))) then
 bif ((decide (0<=(IntKind.i64.wrap (v.2.2.1+1))))&&(decide ((IntKind.i64.wrap (v.2.2.1+1))<(v.1.size:Int)))) then
 let t11:=(IntKind.u8.wrap ((bt v.1 (IntKind.i64.wrap (v.2.2.1+1))) - 49))
 bif ((decide (0<=t11))&&(decide (t11<(v.2.1.length:Int)))) then
 Option.bind (f825v1F k ((v.2.1.getD (Int.toNat t11) ByteArray.empty),v.2.2.2.1,())) fun y12 =>
 k0 (v.1,v.2.1,(IntKind.i64.wrap (v.2.2.1+1)),y12.2.1,())
 else none
 else none
 else
 k1 (v.1,v.2.1,v.2.2.1,v.2.2.2.1,())
 else none
 else
 k1 (v.1,v.2.1,v.2.2.1,v.2.2.2.1,())
 else none
 else
 k1 (v.1,v.2.1,v.2.2.1,v.2.2.2.1,())
 else
 k1 (v.1,v.2.1,v.2.2.1,v.2.2.2.1,())
 else none
noncomputable def f808p2S (k:Nat):Sum1:=part2Sum f808p2H f808p2N (f808p0S k) (fun R K v=>f808p2 k (fun w=>K (.exit 1) (encSt f808p2X0 w)) (fun w=>K .normal (encSt f808p2X1 w)) v)
theorem f808p2E (k:Nat)(R:Type)(K:X->St->Option R)(v:f808p2H.Den):evS tab (f808T k).t Tryz.f108.ntmps [] f808p2C 1864 (partK f808p2M K) (encSt f808p2H v)=f808p2 k (fun w=>K (.exit 1) (encSt f808p2X0 w)) (fun w=>K .normal (encSt f808p2X1 w)) v:=by kernel_rfl
theorem f808p2I (k:Nat):SumsOk P Tryz.f108.ntmps [] f808p2C 1864:=SumsOk.nil
theorem f808p2O (k:Nat):SumO P Tryz.f108 1864 (f808p2S k):=part2_ok tm.1 (f808T k).ok tm.2 (f808p2I k) (f808p0O k) (f808p2E k)
noncomputable def f808p3H:Shape:=⟨[(0,oS),(1,.one (.ro .str)),(5,.one (.ptr 0 0)),(6,oI)],[(0,.var 167 [.ptr 0 0,.own 1]),(1,.row 5 (.int .u8) .plain)],2,[]⟩
noncomputable def f808p3X0:Shape:=⟨[(0,oS),(1,.one (.ro .str)),(5,.one (.ptr 0 0)),(6,oI)],[(0,.var 167 [.ptr 0 0,.own 1]),(1,.row 5 (.int .u8) .plain)],2,[]⟩
noncomputable def f808p3N:NoteR:=⟨[0,1,5,6],[],[]⟩
noncomputable def f808p3M:NoteR:=⟨[0,1,4,5,6],[],[]⟩
noncomputable def f808p3C:Code:=firstC (codesAt 466 (codeOf Tryz.f108) 1)
noncomputable def f808p3 {R:Type}(k:Nat)(k0:D55->Option R)(v:D55):Option R :=
 f808p2 k
 (fun (w13:D55) =>
 k0 (w13.1,w13.2.1,w13.2.2.1,w13.2.2.2.1,()))
 (fun (w14:D55) =>
 bif ((decide (0<=w14.2.2.1))&&(decide (w14.2.2.1<(w14.1.size:Int)))) then
 Option.bind (f826v1F k ((bt w14.1 w14.2.2.1),w14.2.2.2.1,())) fun y15 =>
 k0 (w14.1,w14.2.1,w14.2.2.1,y15.1,())
 else none)
 (v.1,v.2.1,v.2.2.1,v.2.2.2.1,())
noncomputable def f808p3S (k:Nat):Sum1:=part2Sum f808p3H f808p3N (f808p1S k) (fun R K v=>f808p3 k (fun w=>K .normal (encSt f808p3X0 w)) v)
theorem f808p3E (k:Nat)(R:Type)(K:X->St->Option R)(v:f808p3H.Den):evS tab (f808T k).t Tryz.f108.ntmps [(1864,f808p2S k)] f808p3C 466 (partK f808p3M K) (encSt f808p3H v)=f808p3 k (fun w=>K .normal (encSt f808p3X0 w)) v:=by kernel_rfl
theorem f808p3I (k:Nat):SumsOk P Tryz.f108.ntmps [(1864,f808p2S k)] f808p3C 466:=(SumsOk.nil).s (f808p2O k) (by kernel_rfl)
theorem f808p3O (k:Nat):SumO P Tryz.f108 466 (f808p3S k):=part2_ok tm.1 (f808T k).ok tm.2 (f808p3I k) (f808p1O k) (f808p3E k)
noncomputable def f808l4H:Shape:=⟨[(0,oS),(1,.one (.ro .str)),(5,.one (.ptr 0 0)),(6,oI)],[(0,.var 167 [.ptr 0 0,.own 1]),(1,.row 5 (.int .u8) .plain)],2,[]⟩
noncomputable def f808l4X0:Shape:=⟨[(5,.one (.ptr 0 0))],[(0,.var 167 [.ptr 0 0,.own 1]),(1,.row 5 (.int .u8) .plain)],2,[]⟩
noncomputable def f808l4N:NoteR:=⟨[0,1,5,6],[],[]⟩
noncomputable def f808l4M:NoteR:=⟨[4,5],[],[]⟩
noncomputable def f808l4C:Code:=firstC (codesAt 58 (codeOf Tryz.f108) 1)
noncomputable def f808l4s {R:Type}(k:Nat)(rec:D55->Option R)(k0:List Int×Unit->Option R)(v:D55):Option R :=
 bif (decide (v.2.2.1<(v.1.size:Int))) then
 f808p3 k
 (fun (w16:D55) =>
 rec (w16.1,w16.2.1,(IntKind.i64.wrap (w16.2.2.1+1)),w16.2.2.2.1,()))
 (v.1,v.2.1,v.2.2.1,v.2.2.2.1,())
 else
 k0 (v.2.2.2.1,())
noncomputable def f808l4 {R:Type}(k:Nat)(k0:List Int×Unit->Option R)(v:D55):Option R:=iterS (fun rec v=>f808l4s k rec k0 v) k v
noncomputable def f808l4S (k:Nat):Sum1:=loopSum f808l4H f808l4N k (fun R rec K v=>f808l4s k rec (fun w=>K (.exit 0) (encSt f808l4X0 w)) v)
theorem f808l4E (k:Nat)(R:Type)(rec:St->Option R)(K:X->St->Option R)(v:f808l4H.Den):evS tab (f808T k).t Tryz.f108.ntmps [(1864,f808p2S k),(466,f808p3S k)] (bodyOf f808l4C) 116 (bodyK f808l4N f808l4M rec K) (encSt f808l4H v)=f808l4s k (fun v=>rec (encSt f808l4H v)) (fun w=>K (.exit 0) (encSt f808l4X0 w)) v:=by kernel_rfl
theorem f808l4I (k:Nat):SumsOk P Tryz.f108.ntmps [(1864,f808p2S k),(466,f808p3S k)] (bodyOf f808l4C) 116:=((SumsOk.nil).s (f808p3O k) (by kernel_rfl)).s (f808p2O k) (by kernel_rfl)
noncomputable def f808l5H:Shape:=⟨[(0,oS),(1,.one (.ro .str)),(5,.one (.ptr 0 0)),(6,oI)],[(0,.var 167 [.nil .ptr,.emp])],1,[]⟩
noncomputable def f808l5X0:Shape:=⟨[(5,.one (.ptr 0 0))],[(0,.var 167 [.ptr 0 0,.own 1]),(1,.row 5 (.int .u8) .plain)],2,[]⟩
noncomputable def f808l5X1:Shape:=⟨[(5,.one (.ptr 0 0))],[(0,.var 167 [.nil .ptr,.emp])],1,[]⟩
noncomputable def f808l5N:NoteR:=⟨[0,1,5,6],[],[]⟩
noncomputable def f808l5M:NoteR:=⟨[4,5],[],[]⟩
noncomputable def f808l5C:Code:=firstC (codesAt 58 (codeOf Tryz.f108) 1)
noncomputable def f808l5s {R:Type}(k:Nat)(rec:D56->Option R)(k0:List Int×Unit->Option R)(k1:Unit->Option R)(v:D56):Option R :=
 bif (decide (v.2.2.1<(v.1.size:Int))) then
 f808p1 k
 (fun (w8:D55) =>
 f808l4 k
 (fun (w17:List Int×Unit) =>
 k0 (w17.1,()))
 (w8.1,w8.2.1,(IntKind.i64.wrap (w8.2.2.1+1)),w8.2.2.2.1,()))
 (v.1,v.2.1,v.2.2.1,())
 else
 k1 (())
noncomputable def f808l5 {R:Type}(k:Nat)(k0:List Int×Unit->Option R)(k1:Unit->Option R)(v:D56):Option R:=iterS (fun rec v=>f808l5s k rec k0 k1 v) k v
theorem f808l4Rd (k:Nat):SumRd P Tryz.f108.ntmps (bodyOf f808l4C) (f808l4S k) k:=loop_rd tm.1 (f808T k).ok tm.2 (f808l4I k) (f808l4E k)
noncomputable def f808l5S (k:Nat):Sum1:=loop2Sum f808l5H f808l5N (f808l4S k) k (fun R rec K v=>f808l5s k rec (fun w=>K (.exit 0) (encSt f808l5X0 w)) (fun w=>K (.exit 0) (encSt f808l5X1 w)) v)
theorem f808l5E (k:Nat)(R:Type)(rec:f808l5H.Den->Option R)(K:X->St->Option R)(v:f808l5H.Den):evS tab (f808T k).t Tryz.f108.ntmps [(1864,f808p2S k),(466,f808p3S k)] (bodyOf f808l5C) 116 (step2K f808l5H f808l5N f808l5M (f808l4S k) rec K) (encSt f808l5H v)=f808l5s k rec (fun w=>K (.exit 0) (encSt f808l5X0 w)) (fun w=>K (.exit 0) (encSt f808l5X1 w)) v:=by kernel_rfl
theorem f808l5I (k:Nat):SumsOk P Tryz.f108.ntmps [(1864,f808p2S k),(466,f808p3S k)] (bodyOf f808l5C) 116:=((SumsOk.nil).s (f808p3O k) (by kernel_rfl)).s (f808p2O k) (by kernel_rfl)
theorem f808l5Rd (k:Nat):SumRd P Tryz.f108.ntmps (bodyOf f808l5C) (f808l5S k) (k+(k)):=loop2_rd tm.1 (f808T k).ok tm.2 (f808l5I k) ((show bodyOf f808l4C=bodyOf f808l5C by kernel_rfl) ▸ f808l4Rd k) (f808l5E k)
theorem f808l5O (k:Nat):SumO P Tryz.f108 58 (f808l5S k):=(show SumOk P Tryz.f108.ntmps f808l5C (f808l5S k) from (show f808l5C=.loop (bodyOf f808l5C) by kernel_rfl) ▸ (f808l5Rd k).ok)
noncomputable def f808p6 {R:Type}(k:Nat)(k0:List Int×Unit->Option R)(k1:Unit->Option R)(v:D58):Option R :=
 f808l5 k
 (fun (w18:List Int×Unit) =>
 k0 (w18.1,()))
 (fun (w19:Unit) =>
 k1 (()))
 (v.1,v.2.1,0,())
noncomputable def f808p6S (k:Nat):=partSum ⟨[(0,oS),(1,.one (.ro .str)),(5,.one (.ptr 0 0))],[(0,.var 167 [.nil .ptr,.emp])],1,[]⟩ ⟨[0,1,5],[],[]⟩ fun R K v=>f808p6 k (fun w=>K .normal (encSt ⟨[(5,.one (.ptr 0 0))],[(0,.var 167 [.ptr 0 0,.own 1]),(1,.row 5 (.int .u8) .plain)],2,[]⟩ w)) (fun w=>K .normal (encSt ⟨[(5,.one (.ptr 0 0))],[(0,.var 167 [.nil .ptr,.emp])],1,[]⟩ w)) v
theorem f808p6O (k:Nat):SumO P Tryz.f108 14 (f808p6S k):=pt tm (f808T k) ⟨[4,5],[],[]⟩ (SumsOk.nil |>.s (f808l5O k) (by kernel_rfl) |>.s (f808p3O k) (by kernel_rfl) |>.s (f808p2O k) (by kernel_rfl)) fun _ _ _=>by kernel_rfl
noncomputable def f808F (k:Nat)(x:D59):Option (ByteArray) :=
 f808p6 k
 (fun (w20:List Int×Unit) =>
 bif (List.all w20.1 fun x=>decide (0<=x)&&decide (x<=255)) then
 some (strOfNums w20.1)
 else none)
 (fun (w21:Unit) =>
 some ByteArray.empty)
 (x.1,x.2,())
theorem f808Ok (k:Nat):FnV P 108 [.dat .str,.dat (.slice .str)] [.dat .str] (f808F k) :=
 fs tm (f808T k) Tryz.func108 (by kernel_rfl) (SumsOk.nil |>.s (f808p6O k) (by kernel_rfl) |>.s (f808l5O k) (by kernel_rfl) |>.s (f808p3O k) (by kernel_rfl) |>.s (f808p2O k) (by kernel_rfl)) none fun _=>by kernel_rfl
noncomputable def f779T (k:Nat):TB P:=TB.nil |>.u (f808Ok k) |>.u (f807Ok k)
noncomputable def f779F (k:Nat)(x:D13×ByteArray):Option (D60) :=
 bif (decide ((x.2.size:Int) > 512)) then
 some (ByteArray.empty,ByteArray.empty,2)
 else
 Option.bind (f807F k (x.1.2.2.2.2.1,x.2)) fun y1 =>
 Option.bind (f808F k (x.1.2.2.1,y1)) fun y2 =>
 Option.bind (f808F k (x.1.2.2.2.1,y1)) fun y3 =>
 bif (decide ((y2.size:Int) > 256)) then
 some (ByteArray.empty,ByteArray.empty,2)
 else
 bif (decide ((y3.size:Int) > 256)) then
 some (ByteArray.empty,ByteArray.empty,2)
 else
 some (y2,y3,0)
theorem f779Ok (k:Nat):FnV P 79 [.agg Y10,.dat .str] [.dat .str,.dat .str,.dat (.int .i64)] (f779F k) :=
 fs tm (f779T k) Tryz.func79 (by kernel_rfl) SumsOk.nil none fun _=>by kernel_rfl
noncomputable def f753T (k:Nat):TB P:=TB.nil |>.u (f797Ok k) |>.u (f790Ok k) |>.u (f779Ok k) |>.u (f761Ok k) |>.u (f760Ok k)
noncomputable def f753p0 {R:Type}(k:Nat)(k0:D61->Option R)(k1:D62->Option R)(v:D62):Option R :=
 bif (strEq v.2.2.2.2.1 ByteArray.empty) then
 Option.bind (f761F k ((strEq v.2.2.2.2.2.2.1 ByteArray.empty),1)) fun y1 =>
 bif (!strEq v.2.2.2.2.1 ByteArray.empty) then
 bif (!strEq v.2.2.2.2.2.2.1 ByteArray.empty) then
 Option.bind (f761F k (true,5)) fun y2 =>
 Option.bind (f760F k [y1,y2]) fun y3 =>
 bif (y3 !=0) then
 k0 (ByteArray.empty,y3,v.1,v.2.1,v.2.2.1,v.2.2.2.1,v.2.2.2.2.1,v.2.2.2.2.2.1,v.2.2.2.2.2.2.1,v.2.2.2.2.2.2.2.1,())
 else
 k1 (v.1,v.2.1,v.2.2.1,v.2.2.2.1,v.2.2.2.2.1,v.2.2.2.2.2.1,v.2.2.2.2.2.2.1,v.2.2.2.2.2.2.2.1,())
 else
 bif (strEq v.2.2.2.2.1 ByteArray.empty) then
 Option.bind (f761F k ((!strEq v.2.2.2.2.2.1 ByteArray.empty),5)) fun y4 =>
 Option.bind (f760F k [y1,y4]) fun y5 =>
 bif (y5 !=0) then
 k0 (ByteArray.empty,y5,v.1,v.2.1,v.2.2.1,v.2.2.2.1,v.2.2.2.2.1,v.2.2.2.2.2.1,v.2.2.2.2.2.2.1,v.2.2.2.2.2.2.2.1,())
 else
 k1 (v.1,v.2.1,v.2.2.1,v.2.2.2.1,v.2.2.2.2.1,v.2.2.2.2.2.1,v.2.2.2.2.2.2.1,v.2.2.2.2.2.2.2.1,())
 else
 Option.bind (f761F k (false,5)) fun y6 =>
 Option.bind (f760F k [y1,y6]) fun y7 =>
 bif (y7 !=0) then
 k0 (ByteArray.empty,y7,v.1,v.2.1,v.2.2.1,v.2.2.2.1,v.2.2.2.2.1,v.2.2.2.2.2.1,v.2.2.2.2.2.2.1,v.2.2.2.2.2.2.2.1,())
 else
 k1 (v.1,v.2.1,v.2.2.1,v.2.2.2.1,v.2.2.2.2.1,v.2.2.2.2.2.1,v.2.2.2.2.2.2.1,v.2.2.2.2.2.2.2.1,())
 else
 bif (strEq v.2.2.2.2.1 ByteArray.empty) then
 Option.bind (f761F k ((!strEq v.2.2.2.2.2.1 ByteArray.empty),5)) fun y8 =>
 Option.bind (f760F k [y1,y8]) fun y9 =>
 bif (y9 !=0) then
 k0 (ByteArray.empty,y9,v.1,v.2.1,v.2.2.1,v.2.2.2.1,v.2.2.2.2.1,v.2.2.2.2.2.1,v.2.2.2.2.2.2.1,v.2.2.2.2.2.2.2.1,())
 else
 k1 (v.1,v.2.1,v.2.2.1,v.2.2.2.1,v.2.2.2.2.1,v.2.2.2.2.2.1,v.2.2.2.2.2.2.1,v.2.2.2.2.2.2.2.1,())
 else
 Option.bind (f761F k (false,5)) fun y10 =>
 Option.bind (f760F k [y1,y10]) fun y11 =>
 bif (y11 !=0) then
 k0 (ByteArray.empty,y11,v.1,v.2.1,v.2.2.1,v.2.2.2.1,v.2.2.2.2.1,v.2.2.2.2.2.1,v.2.2.2.2.2.2.1,v.2.2.2.2.2.2.2.1,())
 else
 k1 (v.1,v.2.1,v.2.2.1,v.2.2.2.1,v.2.2.2.2.1,v.2.2.2.2.2.1,v.2.2.2.2.2.2.1,v.2.2.2.2.2.2.2.1,())
 else
 Option.bind (f761F k (false,1)) fun y12 =>
 bif (!strEq v.2.2.2.2.1 ByteArray.empty) then
 bif (!strEq v.2.2.2.2.2.2.1 ByteArray.empty) then
 Option.bind (f761F k (true,5)) fun y13 =>
 Option.bind (f760F k [y12,y13]) fun y14 =>
 bif (y14 !=0) then
 k0 (ByteArray.empty,y14,v.1,v.2.1,v.2.2.1,v.2.2.2.1,v.2.2.2.2.1,v.2.2.2.2.2.1,v.2.2.2.2.2.2.1,v.2.2.2.2.2.2.2.1,())
 else
 k1 (v.1,v.2.1,v.2.2.1,v.2.2.2.1,v.2.2.2.2.1,v.2.2.2.2.2.1,v.2.2.2.2.2.2.1,v.2.2.2.2.2.2.2.1,())
 else
 bif (strEq v.2.2.2.2.1 ByteArray.empty) then
 Option.bind (f761F k ((!strEq v.2.2.2.2.2.1 ByteArray.empty),5)) fun y15 =>
 Option.bind (f760F k [y12,y15]) fun y16 =>
 bif (y16 !=0) then
 k0 (ByteArray.empty,y16,v.1,v.2.1,v.2.2.1,v.2.2.2.1,v.2.2.2.2.1,v.2.2.2.2.2.1,v.2.2.2.2.2.2.1,v.2.2.2.2.2.2.2.1,())
 else
 k1 (v.1,v.2.1,v.2.2.1,v.2.2.2.1,v.2.2.2.2.1,v.2.2.2.2.2.1,v.2.2.2.2.2.2.1,v.2.2.2.2.2.2.2.1,())
 else
 Option.bind (f761F k (false,5)) fun y17 =>
 Option.bind (f760F k [y12,y17]) fun y18 =>
 bif (y18 !=0) then
 k0 (ByteArray.empty,y18,v.1,v.2.1,v.2.2.1,v.2.2.2.1,v.2.2.2.2.1,v.2.2.2.2.2.1,v.2.2.2.2.2.2.1,v.2.2.2.2.2.2.2.1,())
 else
 k1 (v.1,v.2.1,v.2.2.1,v.2.2.2.1,v.2.2.2.2.1,v.2.2.2.2.2.1,v.2.2.2.2.2.2.1,v.2.2.2.2.2.2.2.1,())
 else
 bif (strEq v.2.2.2.2.1 ByteArray.empty) then
 Option.bind (f761F k ((!strEq v.2.2.2.2.2.1 ByteArray.empty),5)) fun y19 =>
 Option.bind (f760F k [y12,y19]) fun y20 =>
 bif (y20 !=0) then
 k0 (ByteArray.empty,y20,v.1,v.2.1,v.2.2.1,v.2.2.2.1,v.2.2.2.2.1,v.2.2.2.2.2.1,v.2.2.2.2.2.2.1,v.2.2.2.2.2.2.2.1,())
 else
 k1 (v.1,v.2.1,v.2.2.1,v.2.2.2.1,v.2.2.2.2.1,v.2.2.2.2.2.1,v.2.2.2.2.2.2.1,v.2.2.2.2.2.2.2.1,())
 else
 Option.bind (f761F k (false,5)) fun y21 =>
 Option.bind (f760F k [y12,y21]) fun y22 =>
 bif (y22 !=0) then
 k0 (ByteArray.empty,y22,v.1,v.2.1,v.2.2.1,v.2.2.2.1,v.2.2.2.2.1,v.2.2.2.2.2.1,v.2.2.2.2.2.2.1,v.2.2.2.2.2.2.2.1,())
 else
 k1 (v.1,v.2.1,v.2.2.1,v.2.2.2.1,v.2.2.2.2.1,v.2.2.2.2.2.1,v.2.2.2.2.2.2.1,v.2.2.2.2.2.2.2.1,())
noncomputable def f753p0S (k:Nat):=partSum ⟨[(2,.one (.ptr 0 0)),(3,.one (.ptr 1 0))],[(0,.var 25 [.ro Y10,.ro (.pair .str Y5)]),(1,.var 27 [.str,.str,.str,.str,.str,.bool])],2,[]⟩ ⟨[2,3],[],[]⟩ fun R K v=>f753p0 k (fun w=>K .ret (encSt ⟨[(2,.one (.ptr 0 0)),(3,.one (.ptr 1 0)),(4,oS),(5,oI)],[(0,.var 25 [.ro Y10,.ro (.pair .str Y5)]),(1,.var 27 [.str,.str,.str,.str,.str,.bool])],2,[]⟩ w)) (fun w=>K .normal (encSt ⟨[(2,.one (.ptr 0 0)),(3,.one (.ptr 1 0))],[(0,.var 25 [.ro Y10,.ro (.pair .str Y5)]),(1,.var 27 [.str,.str,.str,.str,.str,.bool])],2,[]⟩ w)) v
theorem f753p0O (k:Nat):SumO P Tryz.f53 6 (f753p0S k):=pt tm (f753T k) ⟨[2,3,4,5],[],[]⟩ SumsOk.nil fun _ _ _=>by kernel_rfl
noncomputable def f753F (k:Nat)(x:D14×(ByteArray×D64)):Option (ByteArray×Int) :=
 f753p0 k
 (fun (w23:D61) =>
 some (w23.1,w23.2.1))
 (fun (w24:D62) =>
 bif (strEq w24.2.2.2.2.1 ByteArray.empty) then
 Option.bind (f797F k (w24.2.2.2.2.2.2.1,256)) fun y25 =>
 some (w24.2.2.2.2.2.2.1,y25)
 else
 Option.bind (f790F k (w24.1,w24.2.2.2.2.1)) fun y26 =>
 bif (decide (y26<0)) then
 some (ByteArray.empty,11)
 else
 bif ((decide (0<=y26))&&(decide (y26<(w24.1.length:Int)))) then
 let t27:=(w24.1.getD (Int.toNat y26) (ByteArray.empty,(0,(ByteArray.empty,(ByteArray.empty,([],(ByteArray.empty,[])))))))
 Option.bind (f779F k ((t27.1,(t27.2.1,(t27.2.2.1,(t27.2.2.2.1,(t27.2.2.2.2.1,(t27.2.2.2.2.2.1,t27.2.2.2.2.2.2)))))),w24.2.2.2.2.2.1)) fun y28 =>
 Option.bind (f761F k ((strEq y28.1 ByteArray.empty),1)) fun y29 =>
 Option.bind (f760F k [y28.2.2,y29]) fun y30 =>
 some (y28.1,y30)
 else none)
 (x.1.1,x.1.2,x.2.1,x.2.2.1,x.2.2.2.1,x.2.2.2.2.1,x.2.2.2.2.2.1,x.2.2.2.2.2.2,())
theorem f753Ok (k:Nat):FnV P 53 [.agg Y11,.agg (.pair .str Y14)] [.dat .str,.dat (.int .i64)] (f753F k) :=
 fs tm (f753T k) Tryz.func53 (by kernel_rfl) (SumsOk.nil |>.s (f753p0O k) (by kernel_rfl)) none fun _=>by kernel_rfl
noncomputable def f777F (k:Nat)(x:(List ByteArray)):Option (List ByteArray) :=
 bif (decide ((([]:List ByteArray).length+x.length)*16<=140737488355328)&&decide (([]:List ByteArray).length+x.length<=9223372036854775807)) then
 some ([]++x)
 else none
theorem f777Ok (k:Nat):FnV P 77 [.dat (.slice .str)] [.own 9 .str] (f777F k) :=
 fs tm TB.nil Tryz.func77 (by kernel_rfl) SumsOk.nil none fun _=>by kernel_rfl
noncomputable def f736T (k:Nat):TB P:=TB.nil |>.u (f777Ok k)
noncomputable def f736l0s {R:Type}(k:Nat)(rec:D66->Option R)(k0:List D13×Unit->Option R)(v:D66):Option R :=
 bif (decide (v.2.1<(v.1.length:Int))) then
 bif ((decide (0<=v.2.1))&&(decide (v.2.1<(v.1.length:Int)))) then
 let t1:=(v.1.getD (Int.toNat v.2.1) (ByteArray.empty,(0,(ByteArray.empty,(ByteArray.empty,([],(ByteArray.empty,[])))))))
 bif (decide ((([]:List (Int×(Int×Int))).length+t1.2.2.2.2.1.length)*24<=140737488355328)&&decide (([]:List (Int×(Int×Int))).length+t1.2.2.2.2.1.length<=9223372036854775807)) then
 Option.bind (f777F k t1.2.2.2.2.2.2) fun y2 =>
 let t3:=[(t1.1,(t1.2.1,(t1.2.2.1,(t1.2.2.2.1,(([]++t1.2.2.2.2.1),(t1.2.2.2.2.2.1,y2))))))]
 bif (decide ((v.2.2.1.length+t3.length)*120<=140737488355328)&&decide (v.2.2.1.length+t3.length<=9223372036854775807)) then
 rec (v.1,(IntKind.i64.wrap (v.2.1+1)),(v.2.2.1++t3),())
 else none
 else none
 else none
 else
 k0 (v.2.2.1,())
noncomputable def f736l0 {R:Type}(k:Nat)(k0:List D13×Unit->Option R)(v:D66):Option R:=iterS (fun rec v=>f736l0s k rec k0 v) k v
noncomputable def f736l0S (k:Nat):=loopSum ⟨[(0,.one (.ro Y10)),(3,.one (.own 0)),(4,oI)],[(0,.row 82 Y10 .plain)],1,[]⟩ ⟨[0,3,4],[(3,82,Y10)],[]⟩ k fun R rec K v=>f736l0s k rec (fun w=>K (.exit 0) (encSt ⟨[(3,.one (.own 0))],[(0,.row 82 Y10 .plain)],1,[]⟩ w)) v
theorem f736l0O (k:Nat):SumO P Tryz.f36 58 (f736l0S k):=lp tm (f736T k) ⟨[2,3],[],[]⟩ SumsOk.nil (by kernel_rfl) fun _ _ _ _=>by kernel_rfl
noncomputable def f736F (k:Nat)(x:(List D13)):Option (List D13) :=
 f736l0 k
 (fun (w4:List D13×Unit) =>
 some w4.1)
 (x,0,[],())
theorem f736Ok (k:Nat):FnV P 36 [.dat (.slice Y10)] [.own 82 Y10] (f736F k) :=
 fs tm (f736T k) Tryz.func36 (by kernel_rfl) (SumsOk.nil |>.s (f736l0O k) (by kernel_rfl)) none fun _=>by kernel_rfl
noncomputable def f716T (k:Nat):TB P:=TB.nil |>.p (f736Ok k)
noncomputable def f716l0H:Shape:=⟨[(1,.one (.ptr 0 0)),(2,.one (.ptr 1 0)),(3,.one (.ptr 2 0)),(4,oI)],[(0,.var 25 [.ro Y10,.ro (.pair .str Y5)]),(1,.var 25 [.own 3,.own 4]),(2,.var 25 [.own 5,.own 6]),(3,.row 82 Y10 .plain),(4,.row 69 (.pair .str Y5) .plain),(5,.row 82 Y10 .plain),(6,.row 69 (.pair .str Y5) .plain)],7,[]⟩
noncomputable def f716l0X0:Shape:=⟨[(2,.one (.ptr 0 0)),(3,.one (.ptr 1 0))],[(0,.var 25 [.own 2,.own 3]),(1,.var 25 [.own 4,.own 5]),(2,.row 82 Y10 .plain),(3,.row 69 (.pair .str Y5) .plain),(4,.row 82 Y10 .plain),(5,.row 69 (.pair .str Y5) .plain)],6,[]⟩
noncomputable def f716l0N:NoteR:=⟨[1,2,3,4],[],[]⟩
noncomputable def f716l0M:NoteR:=⟨[2,3],[],[]⟩
noncomputable def f716l0C:Code:=firstC (codesAt 58 (codeOf Tryz.f16) 1)
noncomputable def f716l0s {R:Type}(k:Nat)(rec:D69->Option R)(k0:D67->Option R)(v:D69):Option R :=
 bif (decide (v.1<(v.2.2.1.length:Int))) then
 bif ((decide (0<=v.1))&&(decide (v.1<(v.2.2.1.length:Int)))) then
 let t4:=(v.2.2.1.getD (Int.toNat v.1) (ByteArray.empty,(0,(false,(0,[])))))
 bif (decide ((([]:List (Int×(Int×D4))).length+t4.2.2.2.2.length)*80<=140737488355328)&&decide (([]:List (Int×(Int×D4))).length+t4.2.2.2.2.length<=9223372036854775807)) then
 bif (decide ((v.2.2.2.2.2.2.1.length+[(t4.1,(t4.2.1,(t4.2.2.1,(t4.2.2.2.1,([]++t4.2.2.2.2)))))].length)*64<=140737488355328)&&decide (v.2.2.2.2.2.2.1.length+[(t4.1,(t4.2.1,(t4.2.2.1,(t4.2.2.2.1,([]++t4.2.2.2.2)))))].length<=9223372036854775807)) then
 let t5:=(v.2.2.2.2.2.2.1++[(t4.1,(t4.2.1,(t4.2.2.1,(t4.2.2.2.1,([]++t4.2.2.2.2)))))])
 rec ((IntKind.i64.wrap (v.1+1)),v.2.1,v.2.2.1,v.2.2.2.1,v.2.2.2.2.1,v.2.2.2.2.2.1,t5,())
 else none
 else none
 else none
 else
 k0 (v.2.2.2.1,v.2.2.2.2.1,v.2.2.2.2.2.1,v.2.2.2.2.2.2.1,())
noncomputable def f716l0 {R:Type}(k:Nat)(k0:D67->Option R)(v:D69):Option R:=iterS (fun rec v=>f716l0s k rec k0 v) k v
noncomputable def f716l0S (k:Nat):Sum1:=loopSum f716l0H f716l0N k (fun R rec K v=>f716l0s k rec (fun w=>K (.exit 0) (encSt f716l0X0 w)) v)
theorem f716l0E (k:Nat)(R:Type)(rec:St->Option R)(K:X->St->Option R)(v:f716l0H.Den):evS tab (f716T k).t Tryz.f16.ntmps [] (bodyOf f716l0C) 116 (bodyK f716l0N f716l0M rec K) (encSt f716l0H v)=f716l0s k (fun v=>rec (encSt f716l0H v)) (fun w=>K (.exit 0) (encSt f716l0X0 w)) v:=by kernel_rfl
theorem f716l0I (k:Nat):SumsOk P Tryz.f16.ntmps [] (bodyOf f716l0C) 116:=SumsOk.nil
noncomputable def f716l1H:Shape:=⟨[(1,.one (.ptr 0 0)),(2,.one (.ptr 1 0)),(3,.one (.ptr 2 0)),(4,oI)],[(0,.var 25 [.ro Y10,.ro (.pair .str Y5)]),(1,.var 25 [.own 3,.own 4]),(2,.var 25 [.own 5,.emp]),(3,.row 82 Y10 .plain),(4,.row 69 (.pair .str Y5) .plain),(5,.row 82 Y10 .plain)],6,[]⟩
noncomputable def f716l1X0:Shape:=⟨[(2,.one (.ptr 0 0)),(3,.one (.ptr 1 0))],[(0,.var 25 [.own 2,.own 3]),(1,.var 25 [.own 4,.own 5]),(2,.row 82 Y10 .plain),(3,.row 69 (.pair .str Y5) .plain),(4,.row 82 Y10 .plain),(5,.row 69 (.pair .str Y5) .plain)],6,[]⟩
noncomputable def f716l1X1:Shape:=⟨[(2,.one (.ptr 0 0)),(3,.one (.ptr 1 0))],[(0,.var 25 [.own 2,.own 3]),(1,.var 25 [.own 4,.emp]),(2,.row 82 Y10 .plain),(3,.row 69 (.pair .str Y5) .plain),(4,.row 82 Y10 .plain)],5,[]⟩
noncomputable def f716l1N:NoteR:=⟨[1,2,3,4],[],[]⟩
noncomputable def f716l1M:NoteR:=⟨[2,3],[],[]⟩
noncomputable def f716l1C:Code:=firstC (codesAt 58 (codeOf Tryz.f16) 1)
noncomputable def f716l1s {R:Type}(k:Nat)(rec:D70->Option R)(k0:D67->Option R)(k1:D68->Option R)(v:D70):Option R :=
 bif (decide (v.1<(v.2.2.1.length:Int))) then
 bif ((decide (0<=v.1))&&(decide (v.1<(v.2.2.1.length:Int)))) then
 let t2:=(v.2.2.1.getD (Int.toNat v.1) (ByteArray.empty,(0,(false,(0,[])))))
 bif (decide ((([]:List (Int×(Int×D4))).length+t2.2.2.2.2.length)*80<=140737488355328)&&decide (([]:List (Int×(Int×D4))).length+t2.2.2.2.2.length<=9223372036854775807)) then
 bif (decide ((([]:List D6).length+[(t2.1,(t2.2.1,(t2.2.2.1,(t2.2.2.2.1,([]++t2.2.2.2.2)))))].length)*64<=140737488355328)&&decide (([]:List D6).length+[(t2.1,(t2.2.1,(t2.2.2.1,(t2.2.2.2.1,([]++t2.2.2.2.2)))))].length<=9223372036854775807)) then
 let t3:=([]++[(t2.1,(t2.2.1,(t2.2.2.1,(t2.2.2.2.1,([]++t2.2.2.2.2)))))])
 f716l0 k
 (fun (w6:D67) =>
 k0 (w6.1,w6.2.1,w6.2.2.1,w6.2.2.2.1,()))
 ((IntKind.i64.wrap (v.1+1)),v.2.1,v.2.2.1,v.2.2.2.1,v.2.2.2.2.1,v.2.2.2.2.2.1,t3,())
 else none
 else none
 else none
 else
 k1 (v.2.2.2.1,v.2.2.2.2.1,v.2.2.2.2.2.1,())
noncomputable def f716l1 {R:Type}(k:Nat)(k0:D67->Option R)(k1:D68->Option R)(v:D70):Option R:=iterS (fun rec v=>f716l1s k rec k0 k1 v) k v
theorem f716l0Rd (k:Nat):SumRd P Tryz.f16.ntmps (bodyOf f716l0C) (f716l0S k) k:=loop_rd tm.1 (f716T k).ok tm.2 (f716l0I k) (f716l0E k)
noncomputable def f716l1S (k:Nat):Sum1:=loop2Sum f716l1H f716l1N (f716l0S k) k (fun R rec K v=>f716l1s k rec (fun w=>K (.exit 0) (encSt f716l1X0 w)) (fun w=>K (.exit 0) (encSt f716l1X1 w)) v)
theorem f716l1E (k:Nat)(R:Type)(rec:f716l1H.Den->Option R)(K:X->St->Option R)(v:f716l1H.Den):evS tab (f716T k).t Tryz.f16.ntmps [] (bodyOf f716l1C) 116 (step2K f716l1H f716l1N f716l1M (f716l0S k) rec K) (encSt f716l1H v)=f716l1s k rec (fun w=>K (.exit 0) (encSt f716l1X0 w)) (fun w=>K (.exit 0) (encSt f716l1X1 w)) v:=by kernel_rfl
theorem f716l1I (k:Nat):SumsOk P Tryz.f16.ntmps [] (bodyOf f716l1C) 116:=SumsOk.nil
theorem f716l1Rd (k:Nat):SumRd P Tryz.f16.ntmps (bodyOf f716l1C) (f716l1S k) (k+(k)):=loop2_rd tm.1 (f716T k).ok tm.2 (f716l1I k) ((show bodyOf f716l0C=bodyOf f716l1C by kernel_rfl) ▸ f716l0Rd k) (f716l1E k)
theorem f716l1O (k:Nat):SumO P Tryz.f16 58 (f716l1S k):=(show SumOk P Tryz.f16.ntmps f716l1C (f716l1S k) from (show f716l1C=.loop (bodyOf f716l1C) by kernel_rfl) ▸ (f716l1Rd k).ok)
noncomputable def f716p2 {R:Type}(k:Nat)(k0:D67->Option R)(k1:D68->Option R)(v:D71):Option R :=
 f716l1 k
 (fun (w7:D67) =>
 k0 (w7.1,w7.2.1,w7.2.2.1,w7.2.2.2.1,()))
 (fun (w8:D68) =>
 k1 (w8.1,w8.2.1,w8.2.2.1,()))
 (0,v.1,v.2.1,v.2.2.1,v.2.2.2.1,v.2.2.2.2.1,())
noncomputable def f716p2S (k:Nat):=partSum ⟨[(1,.one (.ptr 0 0)),(2,.one (.ptr 1 0)),(3,.one (.ptr 2 0))],[(0,.var 25 [.ro Y10,.ro (.pair .str Y5)]),(1,.var 25 [.own 3,.own 4]),(2,.var 25 [.own 5,.emp]),(3,.row 82 Y10 .plain),(4,.row 69 (.pair .str Y5) .plain),(5,.row 82 Y10 .plain)],6,[]⟩ ⟨[1,2,3],[],[]⟩ fun R K v=>f716p2 k (fun w=>K .normal (encSt ⟨[(2,.one (.ptr 0 0)),(3,.one (.ptr 1 0))],[(0,.var 25 [.own 2,.own 3]),(1,.var 25 [.own 4,.own 5]),(2,.row 82 Y10 .plain),(3,.row 69 (.pair .str Y5) .plain),(4,.row 82 Y10 .plain),(5,.row 69 (.pair .str Y5) .plain)],6,[]⟩ w)) (fun w=>K .normal (encSt ⟨[(2,.one (.ptr 0 0)),(3,.one (.ptr 1 0))],[(0,.var 25 [.own 2,.own 3]),(1,.var 25 [.own 4,.emp]),(2,.row 82 Y10 .plain),(3,.row 69 (.pair .str Y5) .plain),(4,.row 82 Y10 .plain)],5,[]⟩ w)) v
theorem f716p2O (k:Nat):SumO P Tryz.f16 14 (f716p2S k):=pt tm (f716T k) ⟨[2,3],[],[]⟩ (SumsOk.nil |>.s (f716l1O k) (by kernel_rfl)) fun _ _ _=>by kernel_rfl
noncomputable def f716F (k:Nat)(x:D14):Option (D14) :=
 Option.bind (f736F k x.1) fun y1 =>
 f716p2 k
 (fun (w9:D67) =>
 some (w9.2.2.1,w9.2.2.2.1))
 (fun (w10:D68) =>
 some (w10.2.2.1,[]))
 (x.1,x.2,[],[],y1,())
theorem f716Ok (k:Nat):FnV P 16 [.agg Y11] [.agg Y11] (f716F k) :=
 fs tm (f716T k) Tryz.func16 (by kernel_rfl) (SumsOk.nil |>.s (f716p2O k) (by kernel_rfl) |>.s (f716l1O k) (by kernel_rfl)) none fun _=>by kernel_rfl
theorem f798V (k:Nat):FnV P 98 [.dat (.slice (.pair .str Y5))] [.own 69 (.pair .str Y5)] (f798F k):=⟨f798B,f798Ok k⟩
theorem f799V (k:Nat):FnV P 99 [.dat (.slice Y3)] [.own 42 Y3] (f799F k):=⟨f799B,f799Ok k⟩
noncomputable def f784F (k:Nat)(x:(Int×(Int×D4))):Option (Bool) :=
 bif (x.2.1==1) then
 some (!x.2.2.2.2.2.2.1)
 else
 some false
theorem f784Ok (k:Nat):FnV P 84 [.agg Y3] [.dat .bool] (f784F k) :=
 fs tm TB.nil Tryz.func84 (by kernel_rfl) SumsOk.nil none fun _=>by kernel_rfl
noncomputable def f801T (k:Nat):TB P:=TB.nil |>.u (f784Ok k)
noncomputable def f801F (k:Nat)(x:(Int×(Int×D4))):Option (Bool) :=
 Option.bind (f784F k (x.1,(x.2.1,(x.2.2.1,(x.2.2.2.1,(x.2.2.2.2.1,(x.2.2.2.2.2.1,(x.2.2.2.2.2.2.1,x.2.2.2.2.2.2.2)))))))) fun y1 =>
 some (!y1)
theorem f801Ok (k:Nat):FnV P 101 [.agg Y3] [.dat .bool] (f801F k) :=
 fs tm (f801T k) Tryz.func101 (by kernel_rfl) SumsOk.nil none fun _=>by kernel_rfl
noncomputable def f805v0I:Shape:=⟨[(0,.agg [.int .i64,.int .i64,.str,.str,.str,.bool,.bool,.int .i64]),(1,.one (.ptr 0 0))],[(0,.var 3 [.int .i64])],1,[]⟩
noncomputable def f805v0U:Shape:=⟨[(0,oB)],[(0,.var 3 [.int .i64])],1,[]⟩
noncomputable def f805v0F (k:Nat)(x:D76):Option (Bool×Int×Unit) :=
 some ((x.1==x.2.2.2.2.2.2.2.2.1),x.2.2.2.2.2.2.2.2.1,())
theorem f805v0Ok (k:Nat):GnV P 105 f805v0I f805v0U (f805v0F k) :=
 gs tm TB.nil Tryz.func105 (by kernel_rfl) SumsOk.nil [.dat .bool] [] none fun _=>by kernel_rfl
noncomputable def f800v1I:Shape:=⟨[(0,.one (.ro Y3)),(1,.one (.fn 105 [0]))],[(0,.var 3 [.int .i64])],1,[]⟩
noncomputable def f800v1U:Shape:=⟨[(0,oI)],[(0,.var 3 [.int .i64])],1,[]⟩
noncomputable def f800v1T (k:Nat):TB P:=TB.nil |>.g (f805v0Ok k)
noncomputable def f800v1l0s {R:Type}(k:Nat)(rec:D77->Option R)(k0:Int×Int×Unit->Option R)(k1:Int×Unit->Option R)(v:D77):Option R :=
 bif (decide (v.2.2.1<v.2.1)) then
 bif ((decide (0<=v.2.2.1))&&(decide (v.2.2.1<(v.1.length:Int)))) then
 let t1:=(v.1.getD (Int.toNat v.2.2.1) (0,(0,(ByteArray.empty,(ByteArray.empty,(ByteArray.empty,(false,(false,0))))))))
 Option.bind (f805v0F k (t1.1,t1.2.1,t1.2.2.1,t1.2.2.2.1,t1.2.2.2.2.1,t1.2.2.2.2.2.1,t1.2.2.2.2.2.2.1,t1.2.2.2.2.2.2.2,v.2.2.2.1,())) fun y2 =>
 bif y2.1 then
 k0 (v.2.2.1,y2.2.1,())
 else
 rec (v.1,v.2.1,(IntKind.i64.wrap (v.2.2.1+1)),y2.2.1,())
 else none
 else
 k1 (v.2.2.2.1,())
noncomputable def f800v1l0 {R:Type}(k:Nat)(k0:Int×Int×Unit->Option R)(k1:Int×Unit->Option R)(v:D77):Option R:=iterS (fun rec v=>f800v1l0s k rec k0 k1 v) k v
noncomputable def f800v1l0S (k:Nat):=loopSum ⟨[(0,.one (.ro Y3)),(1,.one (.fn 105 [0])),(7,oI),(8,oI)],[(0,.var 3 [.int .i64])],1,[some 0]⟩ ⟨[0,1,7,8],[],[]⟩ k fun R rec K v=>f800v1l0s k rec (fun w=>K .ret (encSt ⟨[(4,oI)],[(0,.var 3 [.int .i64])],1,[some 0]⟩ w)) (fun w=>K (.exit 0) (encSt ⟨[],[(0,.var 3 [.int .i64])],1,[some 0]⟩ w)) v
theorem f800v1l0O (k:Nat):SumO P Tryz.f100 26 (f800v1l0S k):=lp tm (f800v1T k) ⟨[4],[],[]⟩ SumsOk.nil (by kernel_rfl) fun _ _ _ _=>by kernel_rfl
noncomputable def f800v1F (k:Nat)(x:D78):Option (Int×Int×Unit) :=
 f800v1l0 k
 (fun (w3:Int×Int×Unit) =>
 some (w3.1,w3.2.1,()))
 (fun (w4:Int×Unit) =>
 some ((-1),w4.1,()))
 (x.1,(x.1.length:Int),0,x.2.1,())
theorem f800v1Ok (k:Nat):GnV P 100 f800v1I f800v1U (f800v1F k) :=
 gs tm (f800v1T k) Tryz.func100 (by kernel_rfl) (SumsOk.nil |>.s (f800v1l0O k) (by kernel_rfl)) [.dat .bool] [] none fun _=>by kernel_rfl
noncomputable def f768T (k:Nat):TB P:=TB.nil |>.g (f800v1Ok k)
noncomputable def f768F (k:Nat)(x:D6×Int):Option (Int) :=
 Option.bind (f800v1F k (x.1.2.2.2.2,x.2,())) fun y1 =>
 some y1.1
theorem f768Ok (k:Nat):FnV P 68 [.agg (.pair .str Y5),.dat (.int .i64)] [.dat (.int .i64)] (f768F k) :=
 fs tm (f768T k) Tryz.func68 (by kernel_rfl) SumsOk.nil none fun _=>by kernel_rfl
noncomputable def f770T (k:Nat):TB P:=TB.nil |>.u (f790Ok k)
noncomputable def f770p0 {R:Type}(k:Nat)(k0:ByteArray×Unit->Option R)(k1:Unit->Option R)(v:D80):Option R :=
 Option.bind (f790F k (v.1,v.2.2.2.2.1)) fun y1 =>
 bif (decide (y1≥0)) then
 bif ((decide (0<=y1))&&(decide (y1<(v.1.length:Int)))) then
 let t2:=(v.1.getD (Int.toNat y1) (ByteArray.empty,(0,(ByteArray.empty,(ByteArray.empty,([],(ByteArray.empty,[])))))))
 bif (!strEq t2.2.2.2.2.2.1 ByteArray.empty) then
 bif ((decide (0<=y1))&&(decide (y1<(v.1.length:Int)))) then
 let t3:=(v.1.getD (Int.toNat y1) (ByteArray.empty,(0,(ByteArray.empty,(ByteArray.empty,([],(ByteArray.empty,[])))))))
 k0 (t3.2.2.2.2.2.1,())
 else none
 else
 k1 (())
 else none
 else
 k1 (())
noncomputable def f770p0S (k:Nat):=partSum ⟨[(2,.one (.ptr 0 0)),(3,.one (.ptr 1 0))],[(0,.var 25 [.ro Y10,.ro (.pair .str Y5)]),(1,.var 42 [.int .i64,.int .i64,.str,.str,.str,.bool,.bool,.int .i64])],2,[]⟩ ⟨[2,3],[],[]⟩ fun R K v=>f770p0 k (fun w=>K .ret (encSt ⟨[(4,oS)],[],0,[]⟩ w)) (fun w=>K .normal (encSt ⟨[],[],0,[]⟩ w)) v
theorem f770p0O (k:Nat):SumO P Tryz.f70 6 (f770p0S k):=pt tm (f770T k) ⟨[4],[],[]⟩ SumsOk.nil fun _ _ _=>by kernel_rfl
noncomputable def f770F (k:Nat)(x:D81):Option (ByteArray) :=
 f770p0 k
 (fun (w4:ByteArray×Unit) =>
 some w4.1)
 (fun (w5:Unit) =>
 some (⟨#[42,78]⟩:ByteArray))
 (x.1.1,x.1.2,x.2.1,x.2.2.1,x.2.2.2.1,x.2.2.2.2.1,x.2.2.2.2.2.1,x.2.2.2.2.2.2.1,x.2.2.2.2.2.2.2.1,x.2.2.2.2.2.2.2.2,())
theorem f770Ok (k:Nat):FnV P 70 [.agg Y11,.agg Y3] [.dat .str] (f770F k) :=
 fs tm (f770T k) Tryz.func70 (by kernel_rfl) (SumsOk.nil |>.s (f770p0O k) (by kernel_rfl)) none fun _=>by kernel_rfl
noncomputable def f733l0s {R:Type}(k:Nat)(rec:D85->Option R)(k0:Int×Unit->Option R)(k1:Unit->Option R)(v:D85):Option R :=
 bif (decide (v.2.1<(v.2.2.2.2.2.2.1.length:Int))) then
 bif ((decide (0<=v.2.1))&&(decide (v.2.1<(v.2.2.2.2.2.2.1.length:Int)))) then
 let t1:=(v.2.2.2.2.2.2.1.getD (Int.toNat v.2.1) (0,(0,(ByteArray.empty,(ByteArray.empty,(ByteArray.empty,(false,(false,0))))))))
 bif (t1.1==v.1) then
 k0 (v.2.1,())
 else
 rec (v.1,(IntKind.i64.wrap (v.2.1+1)),v.2.2.1,v.2.2.2.1,v.2.2.2.2.1,v.2.2.2.2.2.1,v.2.2.2.2.2.2.1,())
 else none
 else
 k1 (())
noncomputable def f733l0 {R:Type}(k:Nat)(k0:Int×Unit->Option R)(k1:Unit->Option R)(v:D85):Option R:=iterS (fun rec v=>f733l0s k rec k0 k1 v) k v
noncomputable def f733l0S (k:Nat):=loopSum ⟨[(1,oI),(2,.one (.ptr 0 0)),(5,oI)],[(0,.var 69 [.str,.int .i64,.bool,.int .i64,.ro Y3])],1,[]⟩ ⟨[1,2,5],[],[]⟩ k fun R rec K v=>f733l0s k rec (fun w=>K .ret (encSt ⟨[(4,oI)],[],0,[]⟩ w)) (fun w=>K (.exit 0) (encSt ⟨[],[],0,[]⟩ w)) v
theorem f733l0O (k:Nat):SumO P Tryz.f33 26 (f733l0S k):=lp tm TB.nil ⟨[4],[],[]⟩ SumsOk.nil (by kernel_rfl) fun _ _ _ _=>by kernel_rfl
noncomputable def f733F (k:Nat)(x:D6×Int):Option (Int) :=
 f733l0 k
 (fun (w2:Int×Unit) =>
 some w2.1)
 (fun (w3:Unit) =>
 some (-1))
 (x.2,0,x.1.1,x.1.2.1,x.1.2.2.1,x.1.2.2.2.1,x.1.2.2.2.2,())
theorem f733Ok (k:Nat):FnV P 33 [.agg (.pair .str Y5),.dat (.int .i64)] [.dat (.int .i64)] (f733F k) :=
 fs tm TB.nil Tryz.func33 (by kernel_rfl) (SumsOk.nil |>.s (f733l0O k) (by kernel_rfl)) none fun _=>by kernel_rfl
noncomputable def f731l0s {R:Type}(k:Nat)(rec:D86->Option R)(k0:Int×Unit->Option R)(k1:Unit->Option R)(v:D86):Option R :=
 bif (decide (v.2.1<(v.2.2.2.1.length:Int))) then
 bif ((decide (0<=v.2.1))&&(decide (v.2.1<(v.2.2.2.1.length:Int)))) then
 let t1:=(v.2.2.2.1.getD (Int.toNat v.2.1) (ByteArray.empty,(0,(false,(0,[])))))
 bif (strEq t1.1 v.1) then
 k0 (v.2.1,())
 else
 rec (v.1,(IntKind.i64.wrap (v.2.1+1)),v.2.2.1,v.2.2.2.1,())
 else none
 else
 k1 (())
noncomputable def f731l0 {R:Type}(k:Nat)(k0:Int×Unit->Option R)(k1:Unit->Option R)(v:D86):Option R:=iterS (fun rec v=>f731l0s k rec k0 k1 v) k v
noncomputable def f731l0S (k:Nat):=loopSum ⟨[(1,oS),(2,.one (.ptr 0 0)),(5,oI)],[(0,.var 25 [.ro Y10,.ro (.pair .str Y5)])],1,[]⟩ ⟨[1,2,5],[],[]⟩ k fun R rec K v=>f731l0s k rec (fun w=>K .ret (encSt ⟨[(4,oI)],[],0,[]⟩ w)) (fun w=>K (.exit 0) (encSt ⟨[],[],0,[]⟩ w)) v
theorem f731l0O (k:Nat):SumO P Tryz.f31 26 (f731l0S k):=lp tm TB.nil ⟨[4],[],[]⟩ SumsOk.nil (by kernel_rfl) fun _ _ _ _=>by kernel_rfl
noncomputable def f731F (k:Nat)(x:D14×ByteArray):Option (Int) :=
 f731l0 k
 (fun (w2:Int×Unit) =>
 some w2.1)
 (fun (w3:Unit) =>
 some (-1))
 (x.2,0,x.1.1,x.1.2,())
theorem f731Ok (k:Nat):FnV P 31 [.agg Y11,.dat .str] [.dat (.int .i64)] (f731F k) :=
 fs tm TB.nil Tryz.func31 (by kernel_rfl) (SumsOk.nil |>.s (f731l0O k) (by kernel_rfl)) none fun _=>by kernel_rfl
end Go.Proofs.YthcmomgkfjjajaaGreatDoor
