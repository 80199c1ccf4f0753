import Derived.Test.YteadgfclfopccaaGreatDoorFbJ
import Derived.Test.YteadgfclfopccaaGreatDoorProg
import Derived.Test.YteadgfclfopccaaGreatDoorSK
set_option linter.unusedVariables false
set_option maxRecDepth 100000
namespace Go.Proofs.YteadgfclfopccaaGreatDoor
open Go.Ab
noncomputable def f1015F (k:Nat)(x:Int):Option (List Int) :=
 let t1:=(IntKind.i64.wrap ((IntKind.i64.wrap (Int.tdiv x (80:Int)))+(1:Int)))
 let t2:=(IntKind.u8.wrap (IntKind.i64.wrap ((Int.tmod x (80:Int))+(1:Int))))
 some [(IntKind.u8.wrap t1),t2]
theorem f1015Ok (k:Nat):FnV P 115 [.dat (.int .i64)] [.own 5 (.int .u8)] (f1015F k) :=
 fs tm TB.nil Tryz.func115 (by kernel_rfl) SumsOk.nil none fun _=>by kernel_rfl
theorem f1016V (k:Nat):FnV P 116 [.dat .str,.dat .str] [.dat .str] (f1016F k):=⟨f1016B,f1016Ok k⟩
noncomputable def f946T (k:Nat):TB P:=TB.nil |>.u (f1017Ok k) |>.u (f1016V k) |>.u (f1015Ok k) |>.u (f1005Ok k) |>.u (f969Ok k) |>.u (f968Ok k) |>.u (f966Ok k)
noncomputable def f946p0 {R:Type}(k:Nat)(k0:D110->Option R)(k1:D111->Option R)(v:D111):Option R :=
 Option.bind (f1005F k (v.2.2.1,(v.2.2.2.1,v.2.2.2.2.1))) fun y1 =>
 bif (v.1 !=(241:Int)) then
  Option.bind (f969F k (v.1,(49:Int),(72:Int))) fun y2 =>
  Option.bind (f968F k ((!y2),(3:Int))) fun y3 =>
  Option.bind (f966F k [y1,y3]) fun y4 =>
  bif (y4 !=(0:Int)) then
   k0 (v.1,v.2.1,ByteArray.empty,y4,v.2.2.1,v.2.2.2.1,v.2.2.2.2.1,())
  else
  k1 (v.1,v.2.1,v.2.2.1,v.2.2.2.1,v.2.2.2.2.1,())
 else
 Option.bind (f968F k (false,(3:Int))) fun y5 =>
 Option.bind (f966F k [y1,y5]) fun y6 =>
 bif (y6 !=(0:Int)) then
  k0 (v.1,v.2.1,ByteArray.empty,y6,v.2.2.1,v.2.2.2.1,v.2.2.2.2.1,())
 else
 k1 (v.1,v.2.1,v.2.2.1,v.2.2.2.1,v.2.2.2.2.1,())
noncomputable def f946p0S (k:Nat):=partSum ⟨[(1,.one (.int .i64)),(2,.one (.bool)),(3,.one (.ptr 0 0))],[(0,.var 77 [.str,.ro (.pair (.int .i64) Y9),.int .i64])],1,[]⟩ ⟨[1,2,3],[],[]⟩ fun R K v=>f946p0 k (fun w=>K .ret (encSt ⟨[(1,.one (.int .i64)),(2,.one (.bool)),(3,.one (.ptr 0 0)),(6,.one (.str)),(7,.one (.int .i64))],[(0,.var 77 [.str,.ro (.pair (.int .i64) Y9),.int .i64])],1,[]⟩ w)) (fun w=>K .normal (encSt ⟨[(1,.one (.int .i64)),(2,.one (.bool)),(3,.one (.ptr 0 0))],[(0,.var 77 [.str,.ro (.pair (.int .i64) Y9),.int .i64])],1,[]⟩ w)) v
theorem f946p0O (k:Nat):SumO P Tryz.f46 6 (f946p0S k):=pt tm (f946T k) ⟨[1,2,3,6,7,10],[],[]⟩ SumsOk.nil fun _ _ _=>by kernel_rfl
noncomputable def f946p1 {R:Type}(k:Nat)(k0:D112->Option R)(v:D112):Option R :=
 bif ((decide ((0:Int)<=v.2.2.2.1))&&(decide (v.2.2.2.1<(v.2.1.length:Int)))) then
 let t10:=(v.2.1.getD (Int.toNat v.2.2.2.1) ((0:Int),((0:Int),((0:Int),(false,(false,false))))))
 bif t10.2.2.2.2.2 then
  bif (!v.1) then
   bif (decide ((v.2.2.2.2.2.2.2.1.length+[(17:Int)].length)*1<=140737488355328)&&decide (v.2.2.2.2.2.2.2.1.length+[(17:Int)].length<=9223372036854775807)) then
   Option.bind (f1015F k t10.1) fun y11 =>
   bif (decide (((v.2.2.2.2.2.2.2.1++[(17:Int)]).length+y11.length)*1<=140737488355328)&&decide ((v.2.2.2.2.2.2.2.1++[(17:Int)]).length+y11.length<=9223372036854775807)) then
   Option.bind (f1017F k (t10.1,(t10.2.1,(t10.2.2.1,(t10.2.2.2.1,(t10.2.2.2.2.1,t10.2.2.2.2.2)))))) fun y12 =>
   bif (sliceBds t10.1 y12 (v.2.2.2.2.1.size:Int)) then
   Option.bind (f1016F k ((v.2.2.2.2.1.extract (Int.toNat t10.1) (Int.toNat y12)),(⟨#[32]⟩:ByteArray))) fun y13 =>
   bif (decide ((((v.2.2.2.2.2.2.2.1++[(17:Int)])++y11).length+(bytesOf y13).length)*1<=140737488355328)&&decide (((v.2.2.2.2.2.2.2.1++[(17:Int)])++y11).length+(bytesOf y13).length<=9223372036854775807)) then
   k0 (v.1,v.2.1,v.2.2.1,v.2.2.2.1,v.2.2.2.2.1,v.2.2.2.2.2.1,v.2.2.2.2.2.2.1,(((v.2.2.2.2.2.2.2.1++[(17:Int)])++y11)++(bytesOf y13)),())
   else none
   else none
   else none
   else none
  else
  k0 (v.1,v.2.1,v.2.2.1,v.2.2.2.1,v.2.2.2.2.1,v.2.2.2.2.2.1,v.2.2.2.2.2.2.1,v.2.2.2.2.2.2.2.1,())
 else
 k0 (v.1,v.2.1,v.2.2.1,v.2.2.2.1,v.2.2.2.2.1,v.2.2.2.2.2.1,v.2.2.2.2.2.2.1,v.2.2.2.2.2.2.2.1,())
 else none
noncomputable def f946p1S (k:Nat):=partSum ⟨[(2,.one (.bool)),(3,.one (.ptr 0 0)),(9,.one (.fn 115 [])),(10,.one (.own 1)),(37,.one (.ro (.pair (.int .i64) Y9))),(38,.one (.int .i64)),(39,.one (.int .i64))],[(0,.var 77 [.str,.ro (.pair (.int .i64) Y9),.int .i64]),(1,.row 5 (.int .u8) .plain)],2,[]⟩ ⟨[2,3,9,10,37,38,39],[],[]⟩ fun R K v=>f946p1 k (fun w=>K .normal (encSt ⟨[(2,.one (.bool)),(3,.one (.ptr 0 0)),(9,.one (.fn 115 [])),(10,.one (.own 1)),(37,.one (.ro (.pair (.int .i64) Y9))),(38,.one (.int .i64)),(39,.one (.int .i64))],[(0,.var 77 [.str,.ro (.pair (.int .i64) Y9),.int .i64]),(1,.row 5 (.int .u8) .plain)],2,[]⟩ w)) v
theorem f946p1O (k:Nat):SumO P Tryz.f46 4006 (f946p1S k):=pt tm (f946T k) ⟨[2,3,6,7,9,10,37,38,39],[],[]⟩ SumsOk.nil fun _ _ _=>by kernel_rfl
noncomputable def f946l2s {R:Type}(k:Nat)(rec:D112->Option R)(k0:List Int×Unit->Option R)(v:D112):Option R :=
 bif (decide (v.2.2.2.1<v.2.2.1)) then
  f946p1 k
   (fun (w14:D112) =>
    rec (w14.1,w14.2.1,w14.2.2.1,(IntKind.i64.wrap (w14.2.2.2.1+(1:Int))),w14.2.2.2.2.1,w14.2.2.2.2.2.1,w14.2.2.2.2.2.2.1,w14.2.2.2.2.2.2.2.1,()))
   (v.1,v.2.1,v.2.2.1,v.2.2.2.1,v.2.2.2.2.1,v.2.2.2.2.2.1,v.2.2.2.2.2.2.1,v.2.2.2.2.2.2.2.1,())
 else
 k0 (v.2.2.2.2.2.2.2.1,())
noncomputable def f946l2 {R:Type}(k:Nat)(k0:List Int×Unit->Option R)(v:D112):Option R:=iterS (fun rec v=>f946l2s k rec k0 v) k v
noncomputable def f946l2S (k:Nat):=loopSum ⟨[(2,.one (.bool)),(3,.one (.ptr 0 0)),(9,.one (.fn 115 [])),(10,.one (.own 1)),(37,.one (.ro (.pair (.int .i64) Y9))),(38,.one (.int .i64)),(39,.one (.int .i64))],[(0,.var 77 [.str,.ro (.pair (.int .i64) Y9),.int .i64]),(1,.row 5 (.int .u8) .plain)],2,[]⟩ ⟨[2,3,9,10,37,38,39],[],[]⟩ k fun R rec K v=>f946l2s k rec (fun w=>K (.exit 0) (encSt ⟨[(10,.one (.own 0))],[(0,.row 5 (.int .u8) .plain)],1,[]⟩ w)) v
theorem f946l2O (k:Nat):SumO P Tryz.f46 250 (f946l2S k):=lp tm (f946T k) ⟨[6,7,10],[],[]⟩ (SumsOk.nil |>.s (f946p1O k) (by kernel_rfl)) (by kernel_rfl) fun _ _ _ _=>by kernel_rfl
noncomputable def f946F (k:Nat)(x:D113):Option (ByteArray×Int) :=
 f946p0 k
  (fun (w7:D110) =>
   some (w7.2.2.1,w7.2.2.2.1))
  (fun (w8:D111) =>
   Option.bind (f1015F k w8.2.2.2.2.1) fun y9 =>
   bif (decide ((y9.length+[(IntKind.u8.wrap w8.1)].length)*1<=140737488355328)&&decide (y9.length+[(IntKind.u8.wrap w8.1)].length<=9223372036854775807)) then
   f946l2 k
    (fun (w15:List Int×Unit) =>
     some ((strOfNums w15.1),(0:Int)))
    (w8.2.1,w8.2.2.2.1,(w8.2.2.2.1.length:Int),(0:Int),w8.2.2.1,w8.2.2.2.1,w8.2.2.2.2.1,(y9++[(IntKind.u8.wrap w8.1)]),())
   else none)
  (x.2.1,x.2.2,x.1.1,x.1.2.1,x.1.2.2,())
theorem f946Ok (k:Nat):FnV P 46 [.agg (.pair .str Y10),.dat (.int .i64),.dat .bool] [.dat .str,.dat (.int .i64)] (f946F k) :=
 fs tm (f946T k) Tryz.func46 (by kernel_rfl) (SumsOk.nil |>.s (f946l2O k) (by kernel_rfl) |>.s (f946p1O k) (by kernel_rfl) |>.s (f946p0O k) (by kernel_rfl)) none fun _=>by kernel_rfl
theorem f989V (k:Nat):FnV P 89 [.dat (.slice Y7)] [.own 119 Y7] (f989F k):=⟨f989B,f989Ok k⟩
noncomputable def f992T (k:Nat):TB P:=TB.nil |>.u (f1045Ok k) |>.u (f1044Ok k)
noncomputable def f992p0 {R:Type}(k:Nat)(k0:D114->Option R)(k1:D115->Option R)(v:D115):Option R :=
 Option.bind (f1044F k (v.2.2.2.2.2.2.2.2.2.2.2.2.2.2.1,(v.2.2.2.2.2.2.2.2.2.2.2.2.2.2.2.1,(v.2.2.2.2.2.2.2.2.2.2.2.2.2.2.2.2.1,((v.2.2.2.2.2.2.2.2.2.2.2.2.2.2.2.2.2.1,(v.2.2.2.2.2.2.2.2.2.2.2.2.2.2.2.2.2.2.1,v.2.2.2.2.2.2.2.2.2.2.2.2.2.2.2.2.2.2.2.1)),(v.2.2.2.2.2.2.2.2.2.2.2.2.2.2.2.2.2.2.2.2.1,(v.2.2.2.2.2.2.2.2.2.2.2.2.2.2.2.2.2.2.2.2.2.1,(v.2.2.2.2.2.2.2.2.2.2.2.2.2.2.2.2.2.2.2.2.2.2.1,v.2.2.2.2.2.2.2.2.2.2.2.2.2.2.2.2.2.2.2.2.2.2.2.1)))))))) fun y2 =>
 bif y2 then
  Option.bind (f1045F k (v.2.2.2.2.2.2.2.2.2.2.2.2.2.2.2.1,v.2.2.2.2.2.2.2.2.2.2.2.2.2.2.2.2.1)) fun y3 =>
  bif (y3==v.1) then
   k0 (v.1,v.2.1,v.2.1,v.2.2.1,v.2.2.2.1,v.2.2.2.2.1,v.2.2.2.2.2.2.2.2.2.2.2.2.2.2.1,v.2.2.2.2.2.2.2.2.2.2.2.2.2.2.2.1,v.2.2.2.2.2.2.2.2.2.2.2.2.2.2.2.2.1,v.2.2.2.2.2.2.2.2.2.2.2.2.2.2.2.2.2.1,v.2.2.2.2.2.2.2.2.2.2.2.2.2.2.2.2.2.2.1,v.2.2.2.2.2.2.2.2.2.2.2.2.2.2.2.2.2.2.2.1,v.2.2.2.2.2.2.2.2.2.2.2.2.2.2.2.2.2.2.2.2.1,v.2.2.2.2.2.2.2.2.2.2.2.2.2.2.2.2.2.2.2.2.2.1,v.2.2.2.2.2.2.2.2.2.2.2.2.2.2.2.2.2.2.2.2.2.2.1,v.2.2.2.2.2.2.2.2.2.2.2.2.2.2.2.2.2.2.2.2.2.2.2.1,v.2.2.2.2.2.2.2.2.2.2.2.2.2.2.1,v.2.2.2.2.2.2.2.2.2.2.2.2.2.2.2.1,v.2.2.2.2.2.2.2.2.2.2.2.2.2.2.2.2.1,v.2.2.2.2.2.2.2.2.2.2.2.2.2.2.2.2.2.1,v.2.2.2.2.2.2.2.2.2.2.2.2.2.2.2.2.2.2.1,v.2.2.2.2.2.2.2.2.2.2.2.2.2.2.2.2.2.2.2.1,v.2.2.2.2.2.2.2.2.2.2.2.2.2.2.2.2.2.2.2.2.1,v.2.2.2.2.2.2.2.2.2.2.2.2.2.2.2.2.2.2.2.2.2.1,v.2.2.2.2.2.2.2.2.2.2.2.2.2.2.2.2.2.2.2.2.2.2.1,v.2.2.2.2.2.2.2.2.2.2.2.2.2.2.2.2.2.2.2.2.2.2.2.1,())
  else
  k1 (v.1,v.2.1,v.2.2.1,v.2.2.2.1,v.2.2.2.2.1,v.2.2.2.2.2.1,v.2.2.2.2.2.2.1,v.2.2.2.2.2.2.2.1,v.2.2.2.2.2.2.2.2.1,v.2.2.2.2.2.2.2.2.2.1,v.2.2.2.2.2.2.2.2.2.2.1,v.2.2.2.2.2.2.2.2.2.2.2.1,v.2.2.2.2.2.2.2.2.2.2.2.2.1,v.2.2.2.2.2.2.2.2.2.2.2.2.2.1,v.2.2.2.2.2.2.2.2.2.2.2.2.2.2.1,v.2.2.2.2.2.2.2.2.2.2.2.2.2.2.2.1,v.2.2.2.2.2.2.2.2.2.2.2.2.2.2.2.2.1,v.2.2.2.2.2.2.2.2.2.2.2.2.2.2.2.2.2.1,v.2.2.2.2.2.2.2.2.2.2.2.2.2.2.2.2.2.2.1,v.2.2.2.2.2.2.2.2.2.2.2.2.2.2.2.2.2.2.2.1,v.2.2.2.2.2.2.2.2.2.2.2.2.2.2.2.2.2.2.2.2.1,v.2.2.2.2.2.2.2.2.2.2.2.2.2.2.2.2.2.2.2.2.2.1,v.2.2.2.2.2.2.2.2.2.2.2.2.2.2.2.2.2.2.2.2.2.2.1,v.2.2.2.2.2.2.2.2.2.2.2.2.2.2.2.2.2.2.2.2.2.2.2.1,())
 else
 k1 (v.1,v.2.1,v.2.2.1,v.2.2.2.1,v.2.2.2.2.1,v.2.2.2.2.2.1,v.2.2.2.2.2.2.1,v.2.2.2.2.2.2.2.1,v.2.2.2.2.2.2.2.2.1,v.2.2.2.2.2.2.2.2.2.1,v.2.2.2.2.2.2.2.2.2.2.1,v.2.2.2.2.2.2.2.2.2.2.2.1,v.2.2.2.2.2.2.2.2.2.2.2.2.1,v.2.2.2.2.2.2.2.2.2.2.2.2.2.1,v.2.2.2.2.2.2.2.2.2.2.2.2.2.2.1,v.2.2.2.2.2.2.2.2.2.2.2.2.2.2.2.1,v.2.2.2.2.2.2.2.2.2.2.2.2.2.2.2.2.1,v.2.2.2.2.2.2.2.2.2.2.2.2.2.2.2.2.2.1,v.2.2.2.2.2.2.2.2.2.2.2.2.2.2.2.2.2.2.1,v.2.2.2.2.2.2.2.2.2.2.2.2.2.2.2.2.2.2.2.1,v.2.2.2.2.2.2.2.2.2.2.2.2.2.2.2.2.2.2.2.2.1,v.2.2.2.2.2.2.2.2.2.2.2.2.2.2.2.2.2.2.2.2.2.1,v.2.2.2.2.2.2.2.2.2.2.2.2.2.2.2.2.2.2.2.2.2.2.1,v.2.2.2.2.2.2.2.2.2.2.2.2.2.2.2.2.2.2.2.2.2.2.2.1,())
noncomputable def f992p0S (k:Nat):=partSum ⟨[(1,.one (.int .i64)),(5,.one (.ptr 0 0)),(6,.one (.int .i64)),(8,.one (.ptr 1 0)),(10,.one (.ro (.pair .str Y5))),(11,.one (.int .i64)),(12,.one (.int .i64))],[(0,.var 124 [.str,.int .i64,.int .i64,.int .i64,.int .i64,.int .i64,.int .i64,.str,.int .i64,.emp]),(1,.var 124 [.str,.int .i64,.int .i64,.int .i64,.int .i64,.int .i64,.int .i64,.str,.int .i64,.ro Y1])],2,[]⟩ ⟨[1,5,6,8,10,11,12],[],[]⟩ fun R K v=>f992p0 k (fun w=>K .ret (encSt ⟨[(1,.one (.int .i64)),(4,.one (.int .i64)),(5,.one (.ptr 0 0)),(6,.one (.int .i64)),(8,.one (.ptr 1 0)),(10,.one (.ro (.pair .str Y5))),(11,.one (.int .i64)),(12,.one (.int .i64))],[(0,.var 124 [.str,.int .i64,.int .i64,.int .i64,.int .i64,.int .i64,.int .i64,.str,.int .i64,.ro Y1]),(1,.var 124 [.str,.int .i64,.int .i64,.int .i64,.int .i64,.int .i64,.int .i64,.str,.int .i64,.ro Y1])],2,[]⟩ w)) (fun w=>K .normal (encSt ⟨[(1,.one (.int .i64)),(5,.one (.ptr 0 0)),(6,.one (.int .i64)),(8,.one (.ptr 1 0)),(10,.one (.ro (.pair .str Y5))),(11,.one (.int .i64)),(12,.one (.int .i64))],[(0,.var 124 [.str,.int .i64,.int .i64,.int .i64,.int .i64,.int .i64,.int .i64,.str,.int .i64,.emp]),(1,.var 124 [.str,.int .i64,.int .i64,.int .i64,.int .i64,.int .i64,.int .i64,.str,.int .i64,.ro Y1])],2,[]⟩ w)) v
theorem f992p0O (k:Nat):SumO P Tryz.f92 7474 (f992p0S k):=pt tm (f992T k) ⟨[1,4,5,6,8,10,11,12],[],[]⟩ SumsOk.nil fun _ _ _=>by kernel_rfl
noncomputable def f992p1 {R:Type}(k:Nat)(k0:D116->Option R)(k1:D117->Option R)(v:D117):Option R :=
 bif ((decide ((0:Int)<=v.2.2.2.2.1))&&(decide (v.2.2.2.2.1<(v.2.2.1.length:Int)))) then
 let t1:=(v.2.2.1.getD (Int.toNat v.2.2.2.2.1) (ByteArray.empty,((0:Int),((0:Int),(((0:Int),((0:Int),(0:Int))),((0:Int),(ByteArray.empty,((0:Int),[]))))))))
 f992p0 k
  (fun (w4:D114) =>
   k0 (w4.1,w4.2.1,w4.2.2.1,w4.2.2.2.1,w4.2.2.2.2.1,w4.2.2.2.2.2.1,w4.2.2.2.2.2.2.1,w4.2.2.2.2.2.2.2.1,w4.2.2.2.2.2.2.2.2.1,w4.2.2.2.2.2.2.2.2.2.1,w4.2.2.2.2.2.2.2.2.2.2.1,w4.2.2.2.2.2.2.2.2.2.2.2.1,w4.2.2.2.2.2.2.2.2.2.2.2.2.1,w4.2.2.2.2.2.2.2.2.2.2.2.2.2.1,w4.2.2.2.2.2.2.2.2.2.2.2.2.2.2.1,w4.2.2.2.2.2.2.2.2.2.2.2.2.2.2.2.1,()))
  (fun (w5:D115) =>
   bif (w5.2.2.2.2.2.2.2.2.2.2.2.2.2.2.2.2.2.2.2.2.1 !=(0:Int)) then
    k1 (w5.1,(IntKind.i64.wrap (w5.2.1+(1:Int))),w5.2.2.1,w5.2.2.2.1,w5.2.2.2.2.1,w5.2.2.2.2.2.1,w5.2.2.2.2.2.2.1,w5.2.2.2.2.2.2.2.1,w5.2.2.2.2.2.2.2.2.1,w5.2.2.2.2.2.2.2.2.2.1,w5.2.2.2.2.2.2.2.2.2.2.1,w5.2.2.2.2.2.2.2.2.2.2.2.1,w5.2.2.2.2.2.2.2.2.2.2.2.2.1,w5.2.2.2.2.2.2.2.2.2.2.2.2.2.1,())
   else
   k1 (w5.1,w5.2.1,w5.2.2.1,w5.2.2.2.1,w5.2.2.2.2.1,w5.2.2.2.2.2.1,w5.2.2.2.2.2.2.1,w5.2.2.2.2.2.2.2.1,w5.2.2.2.2.2.2.2.2.1,w5.2.2.2.2.2.2.2.2.2.1,w5.2.2.2.2.2.2.2.2.2.2.1,w5.2.2.2.2.2.2.2.2.2.2.2.1,w5.2.2.2.2.2.2.2.2.2.2.2.2.1,w5.2.2.2.2.2.2.2.2.2.2.2.2.2.1,()))
  (v.1,v.2.1,v.2.2.1,v.2.2.2.1,v.2.2.2.2.1,v.2.2.2.2.2.1,v.2.2.2.2.2.2.1,v.2.2.2.2.2.2.2.1,v.2.2.2.2.2.2.2.2.1,v.2.2.2.2.2.2.2.2.2.1,v.2.2.2.2.2.2.2.2.2.2.1,v.2.2.2.2.2.2.2.2.2.2.2.1,v.2.2.2.2.2.2.2.2.2.2.2.2.1,v.2.2.2.2.2.2.2.2.2.2.2.2.2.1,t1.1,t1.2.1,t1.2.2.1,t1.2.2.2.1.1,t1.2.2.2.1.2.1,t1.2.2.2.1.2.2,t1.2.2.2.2.1,t1.2.2.2.2.2.1,t1.2.2.2.2.2.2.1,t1.2.2.2.2.2.2.2,())
 else none
noncomputable def f992p1S (k:Nat):=partSum ⟨[(1,.one (.int .i64)),(5,.one (.ptr 0 0)),(6,.one (.int .i64)),(10,.one (.ro (.pair .str Y5))),(11,.one (.int .i64)),(12,.one (.int .i64))],[(0,.var 124 [.str,.int .i64,.int .i64,.int .i64,.int .i64,.int .i64,.int .i64,.str,.int .i64,.emp])],1,[]⟩ ⟨[1,5,6,10,11,12],[],[]⟩ fun R K v=>f992p1 k (fun w=>K .ret (encSt ⟨[(1,.one (.int .i64)),(4,.one (.int .i64)),(5,.one (.ptr 0 0)),(6,.one (.int .i64)),(10,.one (.ro (.pair .str Y5))),(11,.one (.int .i64)),(12,.one (.int .i64))],[(0,.var 124 [.str,.int .i64,.int .i64,.int .i64,.int .i64,.int .i64,.int .i64,.str,.int .i64,.ro Y1])],1,[]⟩ w)) (fun w=>K .normal (encSt ⟨[(1,.one (.int .i64)),(5,.one (.ptr 0 0)),(6,.one (.int .i64)),(10,.one (.ro (.pair .str Y5))),(11,.one (.int .i64)),(12,.one (.int .i64))],[(0,.var 124 [.str,.int .i64,.int .i64,.int .i64,.int .i64,.int .i64,.int .i64,.str,.int .i64,.emp])],1,[]⟩ w)) v
theorem f992p1O (k:Nat):SumO P Tryz.f92 934 (f992p1S k):=pt tm (f992T k) ⟨[1,4,5,6,10,11,12],[],[]⟩ (SumsOk.nil |>.s (f992p0O k) (by kernel_rfl)) fun _ _ _=>by kernel_rfl
noncomputable def f992l2s {R:Type}(k:Nat)(rec:D117->Option R)(k0:D33->Option R)(k1:D118->Option R)(v:D117):Option R :=
 bif (decide (v.2.2.2.2.1<v.2.2.2.1)) then
  f992p1 k
   (fun (w6:D116) =>
    k0 (w6.2.1,w6.2.2.2.2.2.2.1,w6.2.2.2.2.2.2.2.1,w6.2.2.2.2.2.2.2.2.1,w6.2.2.2.2.2.2.2.2.2.1,w6.2.2.2.2.2.2.2.2.2.2.1,w6.2.2.2.2.2.2.2.2.2.2.2.1,w6.2.2.2.2.2.2.2.2.2.2.2.2.1,w6.2.2.2.2.2.2.2.2.2.2.2.2.2.1,w6.2.2.2.2.2.2.2.2.2.2.2.2.2.2.1,w6.2.2.2.2.2.2.2.2.2.2.2.2.2.2.2.1,()))
   (fun (w7:D117) =>
    rec (w7.1,w7.2.1,w7.2.2.1,w7.2.2.2.1,(IntKind.i64.wrap (w7.2.2.2.2.1+(1:Int))),w7.2.2.2.2.2.1,w7.2.2.2.2.2.2.1,w7.2.2.2.2.2.2.2.1,w7.2.2.2.2.2.2.2.2.1,w7.2.2.2.2.2.2.2.2.2.1,w7.2.2.2.2.2.2.2.2.2.2.1,w7.2.2.2.2.2.2.2.2.2.2.2.1,w7.2.2.2.2.2.2.2.2.2.2.2.2.1,w7.2.2.2.2.2.2.2.2.2.2.2.2.2.1,()))
   (v.1,v.2.1,v.2.2.1,v.2.2.2.1,v.2.2.2.2.1,v.2.2.2.2.2.1,v.2.2.2.2.2.2.1,v.2.2.2.2.2.2.2.1,v.2.2.2.2.2.2.2.2.1,v.2.2.2.2.2.2.2.2.2.1,v.2.2.2.2.2.2.2.2.2.2.1,v.2.2.2.2.2.2.2.2.2.2.2.1,v.2.2.2.2.2.2.2.2.2.2.2.2.1,v.2.2.2.2.2.2.2.2.2.2.2.2.2.1,())
 else
 k1 (v.2.2.2.2.2.1,v.2.2.2.2.2.2.1,v.2.2.2.2.2.2.2.1,v.2.2.2.2.2.2.2.2.1,v.2.2.2.2.2.2.2.2.2.1,v.2.2.2.2.2.2.2.2.2.2.1,v.2.2.2.2.2.2.2.2.2.2.2.1,v.2.2.2.2.2.2.2.2.2.2.2.2.1,v.2.2.2.2.2.2.2.2.2.2.2.2.2.1,())
noncomputable def f992l2 {R:Type}(k:Nat)(k0:D33->Option R)(k1:D118->Option R)(v:D117):Option R:=iterS (fun rec v=>f992l2s k rec k0 k1 v) k v
noncomputable def f992l2S (k:Nat):=loopSum ⟨[(1,.one (.int .i64)),(5,.one (.ptr 0 0)),(6,.one (.int .i64)),(10,.one (.ro (.pair .str Y5))),(11,.one (.int .i64)),(12,.one (.int .i64))],[(0,.var 124 [.str,.int .i64,.int .i64,.int .i64,.int .i64,.int .i64,.int .i64,.str,.int .i64,.emp])],1,[]⟩ ⟨[1,5,6,10,11,12],[],[]⟩ k fun R rec K v=>f992l2s k rec (fun w=>K .ret (encSt ⟨[(4,.one (.int .i64)),(5,.one (.ptr 0 0))],[(0,.var 124 [.str,.int .i64,.int .i64,.int .i64,.int .i64,.int .i64,.int .i64,.str,.int .i64,.ro Y1])],1,[]⟩ w)) (fun w=>K (.exit 0) (encSt ⟨[(5,.one (.ptr 0 0))],[(0,.var 124 [.str,.int .i64,.int .i64,.int .i64,.int .i64,.int .i64,.int .i64,.str,.int .i64,.emp])],1,[]⟩ w)) v
theorem f992l2O (k:Nat):SumO P Tryz.f92 58 (f992l2S k):=lp tm (f992T k) ⟨[4,5],[],[]⟩ (SumsOk.nil |>.s (f992p1O k) (by kernel_rfl) |>.s (f992p0O k) (by kernel_rfl)) (by kernel_rfl) fun _ _ _ _=>by kernel_rfl
noncomputable def f992F (k:Nat)(x:(ByteArray×D45)×Int):Option (Int×D11) :=
 f992l2 k
  (fun (w8:D33) =>
   some (w8.1,(w8.2.1,(w8.2.2.1,(w8.2.2.2.1,((w8.2.2.2.2.1,(w8.2.2.2.2.2.1,w8.2.2.2.2.2.2.1)),(w8.2.2.2.2.2.2.2.1,(w8.2.2.2.2.2.2.2.2.1,(w8.2.2.2.2.2.2.2.2.2.1,w8.2.2.2.2.2.2.2.2.2.2.1)))))))))
  (fun (w9:D118) =>
   some ((-1:Int),(ByteArray.empty,((0:Int),((0:Int),(((0:Int),((0:Int),(0:Int))),((0:Int),(ByteArray.empty,((0:Int),[])))))))))
  (x.2,(0:Int),x.1.2.1,(x.1.2.1.length:Int),(0:Int),ByteArray.empty,(0:Int),(0:Int),(0:Int),(0:Int),(0:Int),(0:Int),ByteArray.empty,(0:Int),())
theorem f992Ok (k:Nat):FnV P 92 [.agg (.pair .str Y6),.dat (.int .i64)] [.dat (.int .i64),.agg (.pair .str Y5)] (f992F k) :=
 fs tm (f992T k) Tryz.func92 (by kernel_rfl) (SumsOk.nil |>.s (f992l2O k) (by kernel_rfl) |>.s (f992p1O k) (by kernel_rfl) |>.s (f992p0O k) (by kernel_rfl)) none fun _=>by kernel_rfl
theorem f1095V (k:Nat):FnV P 195 [.dat .str,.dat (.int .u8)] [.dat (.int .i64)] (f1095F k):=⟨f1095B,f1095Ok k⟩
theorem f1096V (k:Nat):FnV P 196 [.dat .str,.dat .str] [.dat .str] (f1096F k):=⟨f1096B,f1096Ok k⟩
noncomputable def f260F (k:Nat)(x:ByteArray×Int):Option (Bool) :=
 bif (decide (x.2<(x.1.size:Int))) then
  bif ((decide ((0:Int)<=x.2))&&(decide (x.2<(x.1.size:Int)))) then
  bif (decide ((48:Int)<=(bt x.1 x.2))) then
   bif ((decide ((0:Int)<=x.2))&&(decide (x.2<(x.1.size:Int)))) then
   some (decide ((bt x.1 x.2)<=(57:Int)))
   else none
  else
  some false
  else none
 else
 some false
theorem f260Ok (k:Nat):FnV P 272 [.dat .str,.dat (.int .i64)] [.dat .bool] (f260F k) :=
 fs tm TB.nil Tryz.func272 (by kernel_rfl) SumsOk.nil none fun _=>by kernel_rfl
noncomputable def f241T (k:Nat):TB P:=TB.nil |>.u (f260Ok k)
noncomputable def f241l0s {R:Type}(k:Nat)(rec:ByteArray×Int×Unit->Option R)(k0:Int×Unit->Option R)(v:ByteArray×Int×Unit):Option R :=
 Option.bind (f260F k (v.1,v.2.1)) fun y2 =>
 bif y2 then
  rec (v.1,(IntKind.i64.wrap (v.2.1+(1:Int))),())
 else
 k0 (v.2.1,())
noncomputable def f241l0 {R:Type}(k:Nat)(k0:Int×Unit->Option R)(v:ByteArray×Int×Unit):Option R:=iterS (fun rec v=>f241l0s k rec k0 v) k v
noncomputable def f241l0S (k:Nat):=loopSum ⟨[(0,.one (.str)),(1,.one (.int .i64))],[],0,[]⟩ ⟨[0,1],[],[]⟩ k fun R rec K v=>f241l0s k rec (fun w=>K (.exit 0) (encSt ⟨[(1,.one (.int .i64))],[],0,[]⟩ w)) v
theorem f241l0O (k:Nat):SumO P Tryz.f251 28 (f241l0S k):=lp tm (f241T k) ⟨[1,4,5],[],[]⟩ SumsOk.nil (by kernel_rfl) fun _ _ _ _=>by kernel_rfl
noncomputable def f241F (k:Nat)(x:ByteArray×Int):Option (Int×Int) :=
 Option.bind (f260F k (x.1,x.2)) fun y1 =>
 bif (!y1) then
  bif (decide (x.2<(x.1.size:Int))) then
   some (x.2,(8:Int))
  else
  some (x.2,(9:Int))
 else
 f241l0 k
  (fun (w3:Int×Unit) =>
   some (w3.1,(0:Int)))
  (x.1,x.2,())
theorem f241Ok (k:Nat):FnV P 251 [.dat .str,.dat (.int .i64)] [.dat (.int .i64),.dat (.int .i64)] (f241F k) :=
 fs tm (f241T k) Tryz.func251 (by kernel_rfl) (SumsOk.nil |>.s (f241l0O k) (by kernel_rfl)) none fun _=>by kernel_rfl
noncomputable def f221T (k:Nat):TB P:=TB.nil |>.u (f241Ok k)
noncomputable def f221p0 {R:Type}(k:Nat)(k0:ByteArray×Int×Unit->Option R)(v:ByteArray×Int×Unit):Option R :=
 bif (decide ((0:Int)<(v.1.size:Int))) then
 bif ((bt v.1 (0:Int))==(45:Int)) then
  k0 (v.1,(1:Int),())
 else
 k0 (v.1,v.2.1,())
 else none
noncomputable def f221p0S (k:Nat):=partSum ⟨[(0,.one (.str)),(2,.one (.int .i64))],[],0,[]⟩ ⟨[0,2],[],[]⟩ fun R K v=>f221p0 k (fun w=>K .normal (encSt ⟨[(0,.one (.str)),(2,.one (.int .i64))],[],0,[]⟩ w)) v
theorem f221p0O (k:Nat):SumO P Tryz.f227 6 (f221p0S k):=pt tm (f221T k) ⟨[0,2,3,4],[],[]⟩ SumsOk.nil fun _ _ _=>by kernel_rfl
noncomputable def f221p1 {R:Type}(k:Nat)(k0:D120->Option R)(k1:D56->Option R)(v:D56):Option R :=
 bif ((decide ((0:Int)<=v.2.1))&&(decide (v.2.1<(v.1.size:Int)))) then
 bif ((bt v.1 v.2.1)==(48:Int)) then
  bif (decide (v.2.2.1 > (IntKind.i64.wrap (v.2.1+(1:Int))))) then
   k0 (v.1,(0:Int),(IntKind.i64.wrap (v.2.1+(1:Int))),(8:Int),())
  else
  k1 (v.1,v.2.1,v.2.2.1,())
 else
 k1 (v.1,v.2.1,v.2.2.1,())
 else none
noncomputable def f221p1S (k:Nat):=partSum ⟨[(0,.one (.str)),(2,.one (.int .i64)),(3,.one (.int .i64))],[],0,[]⟩ ⟨[0,2,3],[],[]⟩ fun R K v=>f221p1 k (fun w=>K .ret (encSt ⟨[(0,.one (.str)),(2,.one (.int .i64)),(3,.one (.int .i64)),(4,.one (.int .i64))],[],0,[]⟩ w)) (fun w=>K .normal (encSt ⟨[(0,.one (.str)),(2,.one (.int .i64)),(3,.one (.int .i64))],[],0,[]⟩ w)) v
theorem f221p1O (k:Nat):SumO P Tryz.f227 62 (f221p1S k):=pt tm (f221T k) ⟨[0,2,3,4],[],[]⟩ SumsOk.nil fun _ _ _=>by kernel_rfl
noncomputable def f221p2 {R:Type}(k:Nat)(k0:D121->Option R)(v:D122):Option R :=
 bif (v.2.2.2.1==(0:Int)) then
  bif (decide (v.2.2.2.2.1<(v.1.size:Int))) then
   k0 (v.2.1,v.2.2.1,(8:Int),v.2.2.2.2.1,())
  else
  k0 (v.2.1,v.2.2.1,v.2.2.2.1,v.2.2.2.2.1,())
 else
 k0 (v.2.1,v.2.2.1,v.2.2.2.1,v.2.2.2.2.1,())
noncomputable def f221p2S (k:Nat):=partSum ⟨[(0,.one (.str)),(2,.one (.int .i64)),(3,.one (.int .i64)),(4,.one (.int .i64)),(5,.one (.int .i64))],[],0,[]⟩ ⟨[0,2,3,4,5],[],[]⟩ fun R K v=>f221p2 k (fun w=>K .normal (encSt ⟨[(2,.one (.int .i64)),(3,.one (.int .i64)),(4,.one (.int .i64)),(5,.one (.int .i64))],[],0,[]⟩ w)) v
theorem f221p2O (k:Nat):SumO P Tryz.f227 1022 (f221p2S k):=pt tm (f221T k) ⟨[2,3,4,5],[],[]⟩ SumsOk.nil fun _ _ _=>by kernel_rfl
noncomputable def f221F (k:Nat)(x:ByteArray):Option (Int×Int×Int) :=
 f221p0 k
  (fun (w1:ByteArray×Int×Unit) =>
   Option.bind (f241F k (w1.1,w1.2.1)) fun y2 =>
   bif (y2.2 !=(0:Int)) then
    some ((0:Int),y2.1,y2.2)
   else
   f221p1 k
    (fun (w3:D120) =>
     some (w3.2.1,w3.2.2.1,w3.2.2.2.1))
    (fun (w4:D56) =>
     bif (w4.2.2.1==(w4.1.size:Int)) then
      some (w4.2.1,w4.2.2.1,(0:Int))
     else
     bif ((decide ((0:Int)<=w4.2.2.1))&&(decide (w4.2.2.1<(w4.1.size:Int)))) then
     bif ((bt w4.1 w4.2.2.1) !=(46:Int)) then
      some ((0:Int),w4.2.2.1,(8:Int))
     else
     Option.bind (f241F k (w4.1,(IntKind.i64.wrap (w4.2.2.1+(1:Int))))) fun y5 =>
     f221p2 k
      (fun (w6:D121) =>
       bif (w6.2.2.1 !=(0:Int)) then
        some ((0:Int),w6.2.2.2.1,w6.2.2.1)
       else
       some (w6.1,w6.2.1,(0:Int)))
      (w4.1,w4.2.1,w4.2.2.1,y5.2,y5.1,())
     else none)
    (w1.1,w1.2.1,y2.1,()))
  (x,(0:Int),())
theorem f221Ok (k:Nat):FnV P 227 [.dat .str] [.dat (.int .i64),.dat (.int .i64),.dat (.int .i64)] (f221F k) :=
 fs tm (f221T k) Tryz.func227 (by kernel_rfl) (SumsOk.nil |>.s (f221p2O k) (by kernel_rfl) |>.s (f221p1O k) (by kernel_rfl) |>.s (f221p0O k) (by kernel_rfl)) none fun _=>by kernel_rfl
theorem f261V (k:Nat):FnV P 273 [.dat .str,.dat .str] [.dat (.int .i64)] (f261F k):=⟨f261B,f261Ok k⟩
noncomputable def f242T (k:Nat):TB P:=TB.nil |>.u (f261V k)
noncomputable def f242F (k:Nat)(x:ByteArray×ByteArray):Option (D123) :=
 Option.bind (f261F k (x.1,x.2)) fun y1 =>
 bif (decide (y1≥(0:Int))) then
  bif (sliceBds (0:Int) y1 (x.1.size:Int)) then
  bif (sliceBds (IntKind.i64.wrap (y1+(x.2.size:Int))) (x.1.size:Int) (x.1.size:Int)) then
  let t2:=(x.1.extract (Int.toNat (IntKind.i64.wrap (y1+(x.2.size:Int)))) (Int.toNat (x.1.size:Int)))
  some ((x.1.extract 0 (Int.toNat y1)),t2,true)
  else none
  else none
 else
 some (x.1,ByteArray.empty,false)
theorem f242Ok (k:Nat):FnV P 252 [.dat .str,.dat .str] [.dat .str,.dat .str,.dat .bool] (f242F k) :=
 fs tm (f242T k) Tryz.func252 (by kernel_rfl) SumsOk.nil none fun _=>by kernel_rfl
noncomputable def f222T (k:Nat):TB P:=TB.nil |>.u (f242Ok k)
noncomputable def f222F (k:Nat)(x:ByteArray×ByteArray):Option (D123) :=
 Option.bind (f242F k (x.1,x.2)) fun y1 =>
 some (y1.1,y1.2.1,y1.2.2)
theorem f222Ok (k:Nat):FnV P 228 [.dat .str,.dat .str] [.dat .str,.dat .str,.dat .bool] (f222F k) :=
 fs tm (f222T k) Tryz.func228 (by kernel_rfl) SumsOk.nil none fun _=>by kernel_rfl
theorem f223V (k:Nat):FnV P 229 [.dat .str,.dat .str] [.dat .str] (f223F k):=⟨f223B,f223Ok k⟩
noncomputable def f207T (k:Nat):TB P:=TB.nil |>.u (f223V k) |>.u (f222Ok k) |>.u (f221Ok k) |>.u (f43Ok k) |>.u (f42Ok k)
noncomputable def f207l0s {R:Type}(k:Nat)(rec:D125->Option R)(k0:D124->Option R)(v:D125):Option R :=
 bif (decide (v.2.2.2.2.2.1<v.2.2.2.2.1)) then
  bif ((decide ((0:Int)<=v.2.2.2.2.2.1))&&(decide (v.2.2.2.2.2.1<(v.2.2.2.2.2.2.2.2.1.length:Int)))) then
  let t7:=(IntKind.u8.wrap ((v.2.2.2.2.2.2.2.2.1.getD (Int.toNat v.2.2.2.2.2.1) (0:Int)) - (48:Int)))
  let t8:=(IntKind.i64.wrap ((IntKind.i64.wrap (v.2.2.2.1*(10:Int)))+(IntKind.i64.wrap t7)))
  rec (v.1,v.2.1,v.2.2.1,t8,v.2.2.2.2.1,(IntKind.i64.wrap (v.2.2.2.2.2.1+(1:Int))),v.2.2.2.2.2.2.1,v.2.2.2.2.2.2.2.1,v.2.2.2.2.2.2.2.2.1,())
  else none
 else
 k0 (v.1,v.2.1,v.2.2.1,v.2.2.2.1,v.2.2.2.2.2.2.1,v.2.2.2.2.2.2.2.1,())
noncomputable def f207l0 {R:Type}(k:Nat)(k0:D124->Option R)(v:D125):Option R:=iterS (fun rec v=>f207l0s k rec k0 v) k v
noncomputable def f207l0S (k:Nat):=loopSum ⟨[(0,.one (.str)),(2,.one (.ptr 0 0)),(6,.one (.int .i64)),(10,.one (.str)),(13,.one (.int .i64)),(57,.one (.own 1)),(58,.one (.int .i64)),(59,.one (.int .i64))],[(0,.var 273 [.int .i64,.int .i64]),(1,.row 5 (.int .u8) .mark)],2,[]⟩ ⟨[0,2,6,10,13,57,58,59],[],[]⟩ k fun R rec K v=>f207l0s k rec (fun w=>K (.exit 0) (encSt ⟨[(0,.one (.str)),(2,.one (.ptr 0 0)),(6,.one (.int .i64)),(10,.one (.str)),(13,.one (.int .i64))],[(0,.var 273 [.int .i64,.int .i64])],1,[]⟩ w)) v
theorem f207l0O (k:Nat):SumO P Tryz.f197 4090 (f207l0S k):=lp tm (f207T k) ⟨[0,2,3,4,6,10,13],[],[]⟩ SumsOk.nil (by kernel_rfl) fun _ _ _ _=>by kernel_rfl
noncomputable def f207p1 {R:Type}(k:Nat)(k0:D124->Option R)(v:D124):Option R :=
 bif (v.2.1==(1:Int)) then
  k0 (v.1,v.2.1,v.2.2.1,(IntKind.i64.wrap (0 - v.2.2.2.1)),v.2.2.2.2.1,v.2.2.2.2.2.1,())
 else
 k0 (v.1,v.2.1,v.2.2.1,v.2.2.2.1,v.2.2.2.2.1,v.2.2.2.2.2.1,())
noncomputable def f207p1S (k:Nat):=partSum ⟨[(0,.one (.str)),(2,.one (.ptr 0 0)),(6,.one (.int .i64)),(10,.one (.str)),(13,.one (.int .i64))],[(0,.var 273 [.int .i64,.int .i64])],1,[]⟩ ⟨[0,2,6,10,13],[],[]⟩ fun R K v=>f207p1 k (fun w=>K .normal (encSt ⟨[(0,.one (.str)),(2,.one (.ptr 0 0)),(6,.one (.int .i64)),(10,.one (.str)),(13,.one (.int .i64))],[(0,.var 273 [.int .i64,.int .i64])],1,[]⟩ w)) v
theorem f207p1O (k:Nat):SumO P Tryz.f197 2046 (f207p1S k):=pt tm (f207T k) ⟨[0,2,3,4,6,10,13],[],[]⟩ SumsOk.nil fun _ _ _=>by kernel_rfl
noncomputable def f207F (k:Nat)(x:ByteArray):Option ((Int×Int)×Int×Int) :=
 Option.bind (f43F k ((decide ((x.size:Int) > (40:Int))),(2:Int))) fun y1 =>
 Option.bind (f43F k ((strEq x ByteArray.empty),(1:Int))) fun y2 =>
 Option.bind (f42F k [y1,y2]) fun y3 =>
 bif (y3 !=(0:Int)) then
  some (((0:Int),(0:Int)),(0:Int),y3)
 else
 Option.bind (f221F k x) fun y4 =>
 bif (y4.2.2 !=(0:Int)) then
  some (((0:Int),(0:Int)),y4.2.1,y4.2.2)
 else
 bif (sliceBds y4.1 (x.size:Int) (x.size:Int)) then
 Option.bind (f222F k ((x.extract (Int.toNat y4.1) (Int.toNat (x.size:Int))),(⟨#[46]⟩:ByteArray))) fun y5 =>
 Option.bind (f223F k (y5.1,(⟨#[48]⟩:ByteArray))) fun y6 =>
 bif (decide (y6.size+y5.2.1.size<=9223372036854775807)) then
 bif (decide (((y6++y5.2.1).size:Int) > (15:Int))) then
  some (((0:Int),(0:Int)),(0:Int),(19:Int))
 else
 bif (decide ((y6++y5.2.1).size<=9223372036854775807)) then
 f207l0 k
  (fun (w9:D124) =>
   f207p1 k
    (fun (w10:D124) =>
     some ((w10.2.2.2.1,(w10.2.2.1.size:Int)),(w10.1.size:Int),(0:Int)))
    (w9.1,w9.2.1,w9.2.2.1,w9.2.2.2.1,w9.2.2.2.2.1,w9.2.2.2.2.2.1,()))
  (x,y4.1,y5.2.1,(0:Int),((bytesOf (y6++y5.2.1)).length:Int),(0:Int),(0:Int),(0:Int),(bytesOf (y6++y5.2.1)),())
 else none
 else none
 else none
theorem f207Ok (k:Nat):FnV P 197 [.dat .str] [.agg Y0,.dat (.int .i64),.dat (.int .i64)] (f207F k) :=
 fs tm (f207T k) Tryz.func197 (by kernel_rfl) (SumsOk.nil |>.s (f207p1O k) (by kernel_rfl) |>.s (f207l0O k) (by kernel_rfl)) none fun _=>by kernel_rfl
noncomputable def f53F (k:Nat)(x:(Int×(Int×Int))):Option (Bool) :=
 bif (x.1==(1:Int)) then
  some true
 else
 bif (x.1==(2:Int)) then
  some true
 else
 some (x.1==(3:Int))
theorem f53Ok (k:Nat):FnV P 231 [.agg (.pair (.int .i64) Y0)] [.dat .bool] (f53F k) :=
 fs tm TB.nil Tryz.func231 (by kernel_rfl) SumsOk.nil none fun _=>by kernel_rfl
noncomputable def f84F (k:Nat)(x:Int):Option (D126) :=
 some (x,((0:Int),((0:Int),(0:Int))))
theorem f84Ok (k:Nat):FnV P 254 [.dat (.int .u64)] [.agg Y12] (f84F k) :=
 fs tm TB.nil Tryz.func254 (by kernel_rfl) SumsOk.nil none fun _=>by kernel_rfl
noncomputable def f111F (k:Nat)(x:Int×Int):Option (Int×Int) :=
 let t1:=(IntKind.u64.wrap ((bits .and .u64 x.1 (4294967295:Int))*(bits .and .u64 x.2 (4294967295:Int))))
 let t2:=(IntKind.u64.wrap ((shrI .u64 x.1 (32:Int))*(bits .and .u64 x.2 (4294967295:Int))))
 let t3:=(bits .and .u64 (IntKind.u64.wrap (t2+(shrI .u64 t1 (32:Int)))) (4294967295:Int))
 let t4:=(shrI .u64 (IntKind.u64.wrap (t2+(shrI .u64 t1 (32:Int)))) (32:Int))
 let t5:=(IntKind.u64.wrap ((bits .and .u64 x.1 (4294967295:Int))*(shrI .u64 x.2 (32:Int))))
 let t6:=(IntKind.u64.wrap ((shrI .u64 x.1 (32:Int))*(shrI .u64 x.2 (32:Int))))
 let t7:=(IntKind.u64.wrap ((IntKind.u64.wrap (t6+t4))+(shrI .u64 (IntKind.u64.wrap (t3+t5)) (32:Int))))
 some (t7,(IntKind.u64.wrap (x.1*x.2)))
theorem f111Ok (k:Nat):FnV P 214 [.dat (.int .u64),.dat (.int .u64)] [.dat (.int .u64),.dat (.int .u64)] (f111F k) :=
 fs tm TB.nil Tryz.func214 (by kernel_rfl) SumsOk.nil none fun _=>by kernel_rfl
noncomputable def f106T (k:Nat):TB P:=TB.nil |>.x (add64_ok Tryz.func276 (by kernel_rfl) (by kernel_rfl) (by kernel_rfl) (by kernel_rfl)) |>.u (f111Ok k)
noncomputable def f106F (k:Nat)(x:D126×Int):Option (D126) :=
 Option.bind (f111F k (x.1.1,x.2)) fun y1 =>
 bif (decide ((0:Int)<=y1.2)&&(decide ((0:Int)<=(0:Int))&&(decide ((0:Int)<=(0:Int))&&decide ((0:Int)<=1)))) then
 let t2:=(IntKind.u64.wrap (y1.1+((y1.2+(0:Int)+(0:Int)) / 18446744073709551616)))
 Option.bind (f111F k (x.1.2.1,x.2)) fun y3 =>
 bif (decide ((0:Int)<=y3.2)&&(decide ((0:Int)<=t2)&&(decide ((0:Int)<=(0:Int))&&decide ((0:Int)<=1)))) then
 let t4:=(IntKind.u64.wrap (y3.1+((y3.2+t2+(0:Int)) / 18446744073709551616)))
 Option.bind (f111F k (x.1.2.2.1,x.2)) fun y5 =>
 bif (decide ((0:Int)<=y5.2)&&(decide ((0:Int)<=t4)&&(decide ((0:Int)<=(0:Int))&&decide ((0:Int)<=1)))) then
 let t6:=(IntKind.u64.wrap (y5.1+((y5.2+t4+(0:Int)) / 18446744073709551616)))
 Option.bind (f111F k (x.1.2.2.2,x.2)) fun y7 =>
 bif (decide ((0:Int)<=y7.2)&&(decide ((0:Int)<=t6)&&(decide ((0:Int)<=(0:Int))&&decide ((0:Int)<=1)))) then
 let t8:=(IntKind.u64.wrap (y7.1+((y7.2+t6+(0:Int)) / 18446744073709551616)))
 some (((y1.2+(0:Int)+(0:Int)) % 18446744073709551616),(((y3.2+t2+(0:Int)) % 18446744073709551616),(((y5.2+t4+(0:Int)) % 18446744073709551616),((y7.2+t6+(0:Int)) % 18446744073709551616))))
 else none
 else none
 else none
 else none
theorem f106Ok (k:Nat):FnV P 274 [.agg Y12,.dat (.int .u64)] [.agg Y12] (f106F k) :=
 fs tm (f106T k) Tryz.func274 (by kernel_rfl) SumsOk.nil none fun _=>by kernel_rfl
noncomputable def f85T (k:Nat):TB P:=TB.nil |>.u (f106Ok k)
noncomputable def f85l0s {R:Type}(k:Nat)(rec:D128->Option R)(k0:D127->Option R)(v:D128):Option R :=
 bif (decide (v.2.1<v.1)) then
  Option.bind (f106F k ((v.2.2.1,(v.2.2.2.1,(v.2.2.2.2.1,v.2.2.2.2.2.1))),(10:Int))) fun y1 =>
  rec (v.1,(IntKind.i64.wrap (v.2.1+(1:Int))),y1.1,y1.2.1,y1.2.2.1,y1.2.2.2,v.2.2.2.2.2.2.1,v.2.2.2.2.2.2.2.1,v.2.2.2.2.2.2.2.2.1,v.2.2.2.2.2.2.2.2.2.1,())
 else
 k0 (v.2.2.1,v.2.2.2.1,v.2.2.2.2.1,v.2.2.2.2.2.1,v.2.2.2.2.2.2.1,v.2.2.2.2.2.2.2.1,v.2.2.2.2.2.2.2.2.1,v.2.2.2.2.2.2.2.2.2.1,())
noncomputable def f85l0 {R:Type}(k:Nat)(k0:D127->Option R)(v:D128):Option R:=iterS (fun rec v=>f85l0s k rec k0 v) k v
noncomputable def f85l0S (k:Nat):=loopSum ⟨[(2,.one (.ptr 0 0)),(4,.one (.ptr 1 0)),(5,.one (.int .i64)),(6,.one (.int .i64))],[(0,.var 309 [.int .u64,.int .u64,.int .u64,.int .u64]),(1,.var 309 [.int .u64,.int .u64,.int .u64,.int .u64])],2,[]⟩ ⟨[2,4,5,6],[],[]⟩ k fun R rec K v=>f85l0s k rec (fun w=>K (.exit 0) (encSt ⟨[(2,.one (.ptr 0 0)),(4,.one (.ptr 1 0))],[(0,.var 309 [.int .u64,.int .u64,.int .u64,.int .u64]),(1,.var 309 [.int .u64,.int .u64,.int .u64,.int .u64])],2,[]⟩ w)) v
theorem f85l0O (k:Nat):SumO P Tryz.f255 26 (f85l0S k):=lp tm (f85T k) ⟨[2,4],[],[]⟩ SumsOk.nil (by kernel_rfl) fun _ _ _ _=>by kernel_rfl
noncomputable def f85F (k:Nat)(x:D126×Int):Option (D126) :=
 f85l0 k
  (fun (w2:D127) =>
   some (w2.1,(w2.2.1,(w2.2.2.1,w2.2.2.2.1))))
  (x.2,(0:Int),x.1.1,x.1.2.1,x.1.2.2.1,x.1.2.2.2,(0:Int),(0:Int),(0:Int),(0:Int),())
theorem f85Ok (k:Nat):FnV P 255 [.agg Y12,.dat (.int .i64)] [.agg Y12] (f85F k) :=
 fs tm (f85T k) Tryz.func255 (by kernel_rfl) (SumsOk.nil |>.s (f85l0O k) (by kernel_rfl)) none fun _=>by kernel_rfl
noncomputable def f83T (k:Nat):TB P:=TB.nil |>.u (f85Ok k) |>.u (f84Ok k)
noncomputable def f83F (k:Nat)(x:(Int×Int)×Int):Option (D126) :=
 Option.bind (f84F k (IntKind.u64.wrap (mxI x.1.1 (IntKind.i64.wrap (0 - x.1.1))))) fun y1 =>
 Option.bind (f85F k ((y1.1,(y1.2.1,(y1.2.2.1,y1.2.2.2))),x.2)) fun y2 =>
 some (y2.1,(y2.2.1,(y2.2.2.1,y2.2.2.2)))
theorem f83Ok (k:Nat):FnV P 253 [.agg Y0,.dat (.int .i64)] [.agg Y12] (f83F k) :=
 fs tm (f83T k) Tryz.func253 (by kernel_rfl) SumsOk.nil none fun _=>by kernel_rfl
noncomputable def f54T (k:Nat):TB P:=TB.nil |>.u (f85Ok k) |>.u (f84Ok k) |>.u (f83Ok k)
noncomputable def f54F (k:Nat)(x:(Int×Int)):Option ((Bool×(D126×D126))) :=
 Option.bind (f83F k ((x.1,x.2),(0:Int))) fun y1 =>
 Option.bind (f84F k (1:Int)) fun y2 =>
 Option.bind (f85F k ((y2.1,(y2.2.1,(y2.2.2.1,y2.2.2.2))),x.2)) fun y3 =>
 some ((decide (x.1<(0:Int))),((y1.1,(y1.2.1,(y1.2.2.1,y1.2.2.2))),(y3.1,(y3.2.1,(y3.2.2.1,y3.2.2.2)))))
theorem f54Ok (k:Nat):FnV P 232 [.agg Y0] [.agg Y13] (f54F k) :=
 fs tm (f54T k) Tryz.func232 (by kernel_rfl) SumsOk.nil none fun _=>by kernel_rfl
noncomputable def f87T (k:Nat):TB P:=TB.nil |>.x (add64_ok Tryz.func276 (by kernel_rfl) (by kernel_rfl) (by kernel_rfl) (by kernel_rfl))
noncomputable def f87F (k:Nat)(x:D126×D126):Option (D126) :=
 bif (decide ((0:Int)<=x.1.1)&&(decide ((0:Int)<=x.2.1)&&(decide ((0:Int)<=(0:Int))&&decide ((0:Int)<=1)))) then
 bif (decide ((0:Int)<=x.1.2.1)&&(decide ((0:Int)<=x.2.2.1)&&(decide ((0:Int)<=((x.1.1+x.2.1+(0:Int)) / 18446744073709551616))&&decide (((x.1.1+x.2.1+(0:Int)) / 18446744073709551616)<=1)))) then
 let t1:=((x.1.2.1+x.2.2.1+((x.1.1+x.2.1+(0:Int)) / 18446744073709551616)) % 18446744073709551616)
 let t2:=((x.1.2.1+x.2.2.1+((x.1.1+x.2.1+(0:Int)) / 18446744073709551616)) / 18446744073709551616)
 bif (decide ((0:Int)<=x.1.2.2.1)&&(decide ((0:Int)<=x.2.2.2.1)&&(decide ((0:Int)<=t2)&&decide (t2<=1)))) then
 bif (decide ((0:Int)<=x.1.2.2.2)&&(decide ((0:Int)<=x.2.2.2.2)&&(decide ((0:Int)<=((x.1.2.2.1+x.2.2.2.1+t2) / 18446744073709551616))&&decide (((x.1.2.2.1+x.2.2.2.1+t2) / 18446744073709551616)<=1)))) then
 let t3:=((x.1.2.2.2+x.2.2.2.2+((x.1.2.2.1+x.2.2.2.1+t2) / 18446744073709551616)) % 18446744073709551616)
 let t4:=((x.1.2.2.2+x.2.2.2.2+((x.1.2.2.1+x.2.2.2.1+t2) / 18446744073709551616)) / 18446744073709551616)
 some (((x.1.1+x.2.1+(0:Int)) % 18446744073709551616),(t1,(((x.1.2.2.1+x.2.2.2.1+t2) % 18446744073709551616),t3)))
 else none
 else none
 else none
 else none
theorem f87Ok (k:Nat):FnV P 257 [.agg Y12,.agg Y12] [.agg Y12] (f87F k) :=
 fs tm (f87T k) Tryz.func257 (by kernel_rfl) SumsOk.nil none fun _=>by kernel_rfl
noncomputable def f63F (k:Nat)(x:D126×D126):Option (Int) :=
 bif (decide (x.1.2.2.2<x.2.2.2.2)) then
  some (-1:Int)
 else
 bif (decide (x.1.2.2.2 > x.2.2.2.2)) then
  some (1:Int)
 else
 bif (decide (x.1.2.2.1<x.2.2.2.1)) then
  some (-1:Int)
 else
 bif (decide (x.1.2.2.1 > x.2.2.2.1)) then
  some (1:Int)
 else
 bif (decide (x.1.2.1<x.2.2.1)) then
  some (-1:Int)
 else
 bif (decide (x.1.2.1 > x.2.2.1)) then
  some (1:Int)
 else
 bif (decide (x.1.1<x.2.1)) then
  some (-1:Int)
 else
 bif (decide (x.1.1 > x.2.1)) then
  some (1:Int)
 else
 some (0:Int)
theorem f63Ok (k:Nat):FnV P 258 [.agg Y12,.agg Y12] [.dat (.int .i64)] (f63F k) :=
 fs tm TB.nil Tryz.func258 (by kernel_rfl) SumsOk.nil none fun _=>by kernel_rfl
noncomputable def f107T (k:Nat):TB P:=TB.nil |>.x (sub64_ok Tryz.func284 (by kernel_rfl) (by kernel_rfl) (by kernel_rfl) (by kernel_rfl))
noncomputable def f107F (k:Nat)(x:D126×D126):Option (D126) :=
 bif (decide ((0:Int)<=x.1.1)&&(decide ((0:Int)<=x.2.1)&&(decide (x.2.1<=18446744073709551615)&&(decide ((0:Int)<=(0:Int))&&decide ((0:Int)<=1))))) then
 bif (decide ((0:Int)<=x.1.2.1)&&(decide ((0:Int)<=x.2.2.1)&&(decide (x.2.2.1<=18446744073709551615)&&(decide ((0:Int)<=(if x.1.1<x.2.1+(0:Int) then (1:Int) else 0))&&decide ((if x.1.1<x.2.1+(0:Int) then (1:Int) else 0)<=1))))) then
 let t1:=((x.1.2.1 - x.2.2.1 - (if x.1.1<x.2.1+(0:Int) then (1:Int) else 0)) % 18446744073709551616)
 let t2:=(if x.1.2.1<x.2.2.1+(if x.1.1<x.2.1+(0:Int) then (1:Int) else 0) then (1:Int) else 0)
 bif (decide ((0:Int)<=x.1.2.2.1)&&(decide ((0:Int)<=x.2.2.2.1)&&(decide (x.2.2.2.1<=18446744073709551615)&&(decide ((0:Int)<=t2)&&decide (t2<=1))))) then
 bif (decide ((0:Int)<=x.1.2.2.2)&&(decide ((0:Int)<=x.2.2.2.2)&&(decide (x.2.2.2.2<=18446744073709551615)&&(decide ((0:Int)<=(if x.1.2.2.1<x.2.2.2.1+t2 then (1:Int) else 0))&&decide ((if x.1.2.2.1<x.2.2.2.1+t2 then (1:Int) else 0)<=1))))) then
 let t3:=((x.1.2.2.2 - x.2.2.2.2 - (if x.1.2.2.1<x.2.2.2.1+t2 then (1:Int) else 0)) % 18446744073709551616)
 let t4:=(if x.1.2.2.2<x.2.2.2.2+(if x.1.2.2.1<x.2.2.2.1+t2 then (1:Int) else 0) then (1:Int) else 0)
 some (((x.1.1 - x.2.1 - (0:Int)) % 18446744073709551616),(t1,(((x.1.2.2.1 - x.2.2.2.1 - t2) % 18446744073709551616),t3)))
 else none
 else none
 else none
 else none
theorem f107Ok (k:Nat):FnV P 275 [.agg Y12,.agg Y12] [.agg Y12] (f107F k) :=
 fs tm (f107T k) Tryz.func275 (by kernel_rfl) SumsOk.nil none fun _=>by kernel_rfl
noncomputable def f86T (k:Nat):TB P:=TB.nil |>.u (f107Ok k) |>.u (f63Ok k) |>.u (f87Ok k)
noncomputable def f86p0 {R:Type}(k:Nat)(k0:D129->Option R)(v:D129):Option R :=
 Option.bind (f87F k ((v.2.2.2.2.2.2.2.2.2.2.2.2.2.1,(v.2.2.2.2.2.2.2.2.2.2.2.2.2.2.1,(v.2.2.2.2.2.2.2.2.2.2.2.2.2.2.2.1,v.2.2.2.2.2.2.2.2.2.2.2.2.2.2.2.2.1))),(v.2.2.2.2.2.2.2.2.2.2.2.2.2.1,(v.2.2.2.2.2.2.2.2.2.2.2.2.2.2.1,(v.2.2.2.2.2.2.2.2.2.2.2.2.2.2.2.1,v.2.2.2.2.2.2.2.2.2.2.2.2.2.2.2.2.1))))) fun y1 =>
 bif ((decide ((0:Int)<=(IntKind.i64.wrap (Int.tdiv v.1 (64:Int)))))&&(decide ((IntKind.i64.wrap (Int.tdiv v.1 (64:Int)))<(4:Int)))) then
 let t2:=(List.getD [v.2.1,v.2.2.1,v.2.2.2.1,v.2.2.2.2.1] (Int.toNat (IntKind.i64.wrap (Int.tdiv v.1 (64:Int)))) 0)
 bif (decide ((0:Int)<=(Int.tmod v.1 (64:Int)))) then
 let t3:=(bits .or .u64 y1.1 (bits .and .u64 (shrI .u64 t2 (Int.tmod v.1 (64:Int))) (1:Int)))
 Option.bind (f63F k ((t3,(y1.2.1,(y1.2.2.1,y1.2.2.2))),(v.2.2.2.2.2.1,(v.2.2.2.2.2.2.1,(v.2.2.2.2.2.2.2.1,v.2.2.2.2.2.2.2.2.1))))) fun y4 =>
 bif (decide (y4≥(0:Int))) then
  Option.bind (f107F k ((t3,(y1.2.1,(y1.2.2.1,y1.2.2.2))),(v.2.2.2.2.2.1,(v.2.2.2.2.2.2.1,(v.2.2.2.2.2.2.2.1,v.2.2.2.2.2.2.2.2.1))))) fun y5 =>
  bif ((decide ((0:Int)<=(IntKind.i64.wrap (Int.tdiv v.1 (64:Int)))))&&(decide ((IntKind.i64.wrap (Int.tdiv v.1 (64:Int)))<(4:Int)))) then
  let t6:=(List.getD [v.2.2.2.2.2.2.2.2.2.1,v.2.2.2.2.2.2.2.2.2.2.1,v.2.2.2.2.2.2.2.2.2.2.2.1,v.2.2.2.2.2.2.2.2.2.2.2.2.1] (Int.toNat (IntKind.i64.wrap (Int.tdiv v.1 (64:Int)))) 0)
  bif (decide ((0:Int)<=(Int.tmod v.1 (64:Int)))) then
  bif ((decide ((0:Int)<=(IntKind.i64.wrap (Int.tdiv v.1 (64:Int)))))&&(decide ((IntKind.i64.wrap (Int.tdiv v.1 (64:Int)))<(4:Int)))) then
  let t7:=(bif Nat.beq (Int.toNat (IntKind.i64.wrap (Int.tdiv v.1 (64:Int)))) 0 then (bits .or .u64 t6 (shlI .u64 (1:Int) (Int.tmod v.1 (64:Int)))) else v.2.2.2.2.2.2.2.2.2.1)
  let t8:=(bif Nat.beq (Int.toNat (IntKind.i64.wrap (Int.tdiv v.1 (64:Int)))) 1 then (bits .or .u64 t6 (shlI .u64 (1:Int) (Int.tmod v.1 (64:Int)))) else v.2.2.2.2.2.2.2.2.2.2.1)
  let t9:=(bif Nat.beq (Int.toNat (IntKind.i64.wrap (Int.tdiv v.1 (64:Int)))) 2 then (bits .or .u64 t6 (shlI .u64 (1:Int) (Int.tmod v.1 (64:Int)))) else v.2.2.2.2.2.2.2.2.2.2.2.1)
  let t10:=(bif Nat.beq (Int.toNat (IntKind.i64.wrap (Int.tdiv v.1 (64:Int)))) 3 then (bits .or .u64 t6 (shlI .u64 (1:Int) (Int.tmod v.1 (64:Int)))) else v.2.2.2.2.2.2.2.2.2.2.2.2.1)
  k0 (v.1,v.2.1,v.2.2.1,v.2.2.2.1,v.2.2.2.2.1,v.2.2.2.2.2.1,v.2.2.2.2.2.2.1,v.2.2.2.2.2.2.2.1,v.2.2.2.2.2.2.2.2.1,t7,t8,t9,t10,y5.1,y5.2.1,y5.2.2.1,y5.2.2.2,())
  else none
  else none
  else none
 else
 k0 (v.1,v.2.1,v.2.2.1,v.2.2.2.1,v.2.2.2.2.1,v.2.2.2.2.2.1,v.2.2.2.2.2.2.1,v.2.2.2.2.2.2.2.1,v.2.2.2.2.2.2.2.2.1,v.2.2.2.2.2.2.2.2.2.1,v.2.2.2.2.2.2.2.2.2.2.1,v.2.2.2.2.2.2.2.2.2.2.2.1,v.2.2.2.2.2.2.2.2.2.2.2.2.1,t3,y1.2.1,y1.2.2.1,y1.2.2.2,())
 else none
 else none
noncomputable def f86p0S (k:Nat):=partSum ⟨[(2,.one (.ptr 0 0)),(3,.one (.ptr 1 0)),(4,.one (.ptr 2 0)),(5,.one (.ptr 3 0)),(6,.one (.int .i64))],[(0,.var 309 [.int .u64,.int .u64,.int .u64,.int .u64]),(1,.var 309 [.int .u64,.int .u64,.int .u64,.int .u64]),(2,.var 309 [.int .u64,.int .u64,.int .u64,.int .u64]),(3,.var 309 [.int .u64,.int .u64,.int .u64,.int .u64])],4,[]⟩ ⟨[2,3,4,5,6],[],[]⟩ fun R K v=>f86p0 k (fun w=>K .normal (encSt ⟨[(2,.one (.ptr 0 0)),(3,.one (.ptr 1 0)),(4,.one (.ptr 2 0)),(5,.one (.ptr 3 0)),(6,.one (.int .i64))],[(0,.var 309 [.int .u64,.int .u64,.int .u64,.int .u64]),(1,.var 309 [.int .u64,.int .u64,.int .u64,.int .u64]),(2,.var 309 [.int .u64,.int .u64,.int .u64,.int .u64]),(3,.var 309 [.int .u64,.int .u64,.int .u64,.int .u64])],4,[]⟩ w)) v
theorem f86p0O (k:Nat):SumO P Tryz.f256 210 (f86p0S k):=pt tm (f86T k) ⟨[2,3,4,5,6],[],[]⟩ SumsOk.nil fun _ _ _=>by kernel_rfl
noncomputable def f86l1s {R:Type}(k:Nat)(rec:D129->Option R)(k0:D127->Option R)(v:D129):Option R :=
 bif (decide (v.1≥(0:Int))) then
  f86p0 k
   (fun (w11:D129) =>
    rec ((IntKind.i64.wrap (w11.1 - (1:Int))),w11.2.1,w11.2.2.1,w11.2.2.2.1,w11.2.2.2.2.1,w11.2.2.2.2.2.1,w11.2.2.2.2.2.2.1,w11.2.2.2.2.2.2.2.1,w11.2.2.2.2.2.2.2.2.1,w11.2.2.2.2.2.2.2.2.2.1,w11.2.2.2.2.2.2.2.2.2.2.1,w11.2.2.2.2.2.2.2.2.2.2.2.1,w11.2.2.2.2.2.2.2.2.2.2.2.2.1,w11.2.2.2.2.2.2.2.2.2.2.2.2.2.1,w11.2.2.2.2.2.2.2.2.2.2.2.2.2.2.1,w11.2.2.2.2.2.2.2.2.2.2.2.2.2.2.2.1,w11.2.2.2.2.2.2.2.2.2.2.2.2.2.2.2.2.1,()))
   (v.1,v.2.1,v.2.2.1,v.2.2.2.1,v.2.2.2.2.1,v.2.2.2.2.2.1,v.2.2.2.2.2.2.1,v.2.2.2.2.2.2.2.1,v.2.2.2.2.2.2.2.2.1,v.2.2.2.2.2.2.2.2.2.1,v.2.2.2.2.2.2.2.2.2.2.1,v.2.2.2.2.2.2.2.2.2.2.2.1,v.2.2.2.2.2.2.2.2.2.2.2.2.1,v.2.2.2.2.2.2.2.2.2.2.2.2.2.1,v.2.2.2.2.2.2.2.2.2.2.2.2.2.2.1,v.2.2.2.2.2.2.2.2.2.2.2.2.2.2.2.1,v.2.2.2.2.2.2.2.2.2.2.2.2.2.2.2.2.1,())
 else
 k0 (v.2.2.2.2.2.2.2.2.2.1,v.2.2.2.2.2.2.2.2.2.2.1,v.2.2.2.2.2.2.2.2.2.2.2.1,v.2.2.2.2.2.2.2.2.2.2.2.2.1,v.2.2.2.2.2.2.2.2.2.2.2.2.2.1,v.2.2.2.2.2.2.2.2.2.2.2.2.2.2.1,v.2.2.2.2.2.2.2.2.2.2.2.2.2.2.2.1,v.2.2.2.2.2.2.2.2.2.2.2.2.2.2.2.2.1,())
noncomputable def f86l1 {R:Type}(k:Nat)(k0:D127->Option R)(v:D129):Option R:=iterS (fun rec v=>f86l1s k rec k0 v) k v
noncomputable def f86l1S (k:Nat):=loopSum ⟨[(2,.one (.ptr 0 0)),(3,.one (.ptr 1 0)),(4,.one (.ptr 2 0)),(5,.one (.ptr 3 0)),(6,.one (.int .i64))],[(0,.var 309 [.int .u64,.int .u64,.int .u64,.int .u64]),(1,.var 309 [.int .u64,.int .u64,.int .u64,.int .u64]),(2,.var 309 [.int .u64,.int .u64,.int .u64,.int .u64]),(3,.var 309 [.int .u64,.int .u64,.int .u64,.int .u64])],4,[]⟩ ⟨[2,3,4,5,6],[],[]⟩ k fun R rec K v=>f86l1s k rec (fun w=>K (.exit 0) (encSt ⟨[(4,.one (.ptr 0 0)),(5,.one (.ptr 1 0))],[(0,.var 309 [.int .u64,.int .u64,.int .u64,.int .u64]),(1,.var 309 [.int .u64,.int .u64,.int .u64,.int .u64])],2,[]⟩ w)) v
theorem f86l1O (k:Nat):SumO P Tryz.f256 26 (f86l1S k):=lp tm (f86T k) ⟨[4,5],[],[]⟩ (SumsOk.nil |>.s (f86p0O k) (by kernel_rfl)) (by kernel_rfl) fun _ _ _ _=>by kernel_rfl
noncomputable def f86F (k:Nat)(x:D126×D126):Option (D126×D126) :=
 f86l1 k
  (fun (w12:D127) =>
   some ((w12.1,(w12.2.1,(w12.2.2.1,w12.2.2.2.1))),(w12.2.2.2.2.1,(w12.2.2.2.2.2.1,(w12.2.2.2.2.2.2.1,w12.2.2.2.2.2.2.2.1)))))
  ((255:Int),x.1.1,x.1.2.1,x.1.2.2.1,x.1.2.2.2,x.2.1,x.2.2.1,x.2.2.2.1,x.2.2.2.2,(0:Int),(0:Int),(0:Int),(0:Int),(0:Int),(0:Int),(0:Int),(0:Int),())
theorem f86Ok (k:Nat):FnV P 256 [.agg Y12,.agg Y12] [.agg Y12,.agg Y12] (f86F k) :=
 fs tm (f86T k) Tryz.func256 (by kernel_rfl) (SumsOk.nil |>.s (f86l1O k) (by kernel_rfl) |>.s (f86p0O k) (by kernel_rfl)) none fun _=>by kernel_rfl
noncomputable def f55T (k:Nat):TB P:=TB.nil |>.u (f63Ok k) |>.u (f87Ok k) |>.u (f86Ok k) |>.u (f85Ok k) |>.u (f84Ok k)
noncomputable def f55p0 {R:Type}(k:Nat)(k0:D130->Option R)(v:D132):Option R :=
 bif v.1 then
  Option.bind (f87F k ((v.2.2.2.2.2.2.2.2.2.2.2.2.2.2.2.2.2.2.2.1,(v.2.2.2.2.2.2.2.2.2.2.2.2.2.2.2.2.2.2.2.2.1,(v.2.2.2.2.2.2.2.2.2.2.2.2.2.2.2.2.2.2.2.2.2.1,v.2.2.2.2.2.2.2.2.2.2.2.2.2.2.2.2.2.2.2.2.2.2.1))),(v.2.2.2.2.2.2.2.2.2.2.2.2.2.2.2.2.2.2.2.1,(v.2.2.2.2.2.2.2.2.2.2.2.2.2.2.2.2.2.2.2.2.1,(v.2.2.2.2.2.2.2.2.2.2.2.2.2.2.2.2.2.2.2.2.2.1,v.2.2.2.2.2.2.2.2.2.2.2.2.2.2.2.2.2.2.2.2.2.2.1))))) fun y3 =>
  Option.bind (f63F k ((y3.1,(y3.2.1,(y3.2.2.1,y3.2.2.2))),(v.2.2.2.2.2.2.1,(v.2.2.2.2.2.2.2.1,(v.2.2.2.2.2.2.2.2.1,v.2.2.2.2.2.2.2.2.2.1))))) fun y4 =>
  bif (decide (y4≥(0:Int))) then
   Option.bind (f84F k (1:Int)) fun y5 =>
   Option.bind (f87F k ((v.2.2.2.2.2.2.2.2.2.2.2.2.2.2.2.1,(v.2.2.2.2.2.2.2.2.2.2.2.2.2.2.2.2.1,(v.2.2.2.2.2.2.2.2.2.2.2.2.2.2.2.2.2.1,v.2.2.2.2.2.2.2.2.2.2.2.2.2.2.2.2.2.2.1))),(y5.1,(y5.2.1,(y5.2.2.1,y5.2.2.2))))) fun y6 =>
   k0 (v.2.1,v.2.2.1,v.2.2.2.1,v.2.2.2.2.1,v.2.2.2.2.2.1,v.2.2.2.2.2.2.1,v.2.2.2.2.2.2.2.1,v.2.2.2.2.2.2.2.2.1,v.2.2.2.2.2.2.2.2.2.1,v.2.2.2.2.2.2.2.2.2.2.1,v.2.2.2.2.2.2.2.2.2.2.2.1,v.2.2.2.2.2.2.2.2.2.2.2.2.1,v.2.2.2.2.2.2.2.2.2.2.2.2.2.1,v.2.2.2.2.2.2.2.2.2.2.2.2.2.2.1,y6.1,y6.2.1,y6.2.2.1,y6.2.2.2,())
  else
  k0 (v.2.1,v.2.2.1,v.2.2.2.1,v.2.2.2.2.1,v.2.2.2.2.2.1,v.2.2.2.2.2.2.1,v.2.2.2.2.2.2.2.1,v.2.2.2.2.2.2.2.2.1,v.2.2.2.2.2.2.2.2.2.1,v.2.2.2.2.2.2.2.2.2.2.1,v.2.2.2.2.2.2.2.2.2.2.2.1,v.2.2.2.2.2.2.2.2.2.2.2.2.1,v.2.2.2.2.2.2.2.2.2.2.2.2.2.1,v.2.2.2.2.2.2.2.2.2.2.2.2.2.2.1,v.2.2.2.2.2.2.2.2.2.2.2.2.2.2.2.1,v.2.2.2.2.2.2.2.2.2.2.2.2.2.2.2.2.1,v.2.2.2.2.2.2.2.2.2.2.2.2.2.2.2.2.2.1,v.2.2.2.2.2.2.2.2.2.2.2.2.2.2.2.2.2.2.1,())
 else
 k0 (v.2.1,v.2.2.1,v.2.2.2.1,v.2.2.2.2.1,v.2.2.2.2.2.1,v.2.2.2.2.2.2.1,v.2.2.2.2.2.2.2.1,v.2.2.2.2.2.2.2.2.1,v.2.2.2.2.2.2.2.2.2.1,v.2.2.2.2.2.2.2.2.2.2.1,v.2.2.2.2.2.2.2.2.2.2.2.1,v.2.2.2.2.2.2.2.2.2.2.2.2.1,v.2.2.2.2.2.2.2.2.2.2.2.2.2.1,v.2.2.2.2.2.2.2.2.2.2.2.2.2.2.1,v.2.2.2.2.2.2.2.2.2.2.2.2.2.2.2.1,v.2.2.2.2.2.2.2.2.2.2.2.2.2.2.2.2.1,v.2.2.2.2.2.2.2.2.2.2.2.2.2.2.2.2.2.1,v.2.2.2.2.2.2.2.2.2.2.2.2.2.2.2.2.2.2.1,())
noncomputable def f55p0S (k:Nat):=partSum ⟨[(2,.one (.bool)),(3,.one (.ptr 0 0)),(4,.one (.ptr 1 0)),(6,.one (.ptr 2 0)),(8,.one (.ptr 3 0)),(9,.one (.ptr 4 0))],[(0,.var 311 [.bool,.int .u64,.int .u64,.int .u64,.int .u64,.int .u64,.int .u64,.int .u64,.int .u64]),(1,.var 121 [.int .i64,.int .i64,.int .i64]),(2,.var 119 [.int .i64,.str]),(3,.var 309 [.int .u64,.int .u64,.int .u64,.int .u64]),(4,.var 309 [.int .u64,.int .u64,.int .u64,.int .u64])],5,[]⟩ ⟨[2,3,4,6,8,9],[],[]⟩ fun R K v=>f55p0 k (fun w=>K .normal (encSt ⟨[(3,.one (.ptr 0 0)),(4,.one (.ptr 1 0)),(6,.one (.ptr 2 0)),(8,.one (.ptr 3 0))],[(0,.var 311 [.bool,.int .u64,.int .u64,.int .u64,.int .u64,.int .u64,.int .u64,.int .u64,.int .u64]),(1,.var 121 [.int .i64,.int .i64,.int .i64]),(2,.var 119 [.int .i64,.str]),(3,.var 309 [.int .u64,.int .u64,.int .u64,.int .u64])],4,[]⟩ w)) v
theorem f55p0O (k:Nat):SumO P Tryz.f233 14 (f55p0S k):=pt tm (f55T k) ⟨[3,4,6,7,8],[],[]⟩ SumsOk.nil fun _ _ _=>by kernel_rfl
noncomputable def f55p1 {R:Type}(k:Nat)(k0:D131->Option R)(v:D133):Option R :=
 bif v.2.1 then
  k0 ((IntKind.i64.wrap (0 - v.1)),v.2.2.2.2.2.2.2.2.2.2.1,v.2.2.2.2.2.2.2.2.2.2.2.1,())
 else
 k0 (v.1,v.2.2.2.2.2.2.2.2.2.2.1,v.2.2.2.2.2.2.2.2.2.2.2.1,())
noncomputable def f55p1S (k:Nat):=partSum ⟨[(3,.one (.ptr 0 0)),(6,.one (.ptr 1 0)),(10,.one (.int .i64))],[(0,.var 311 [.bool,.int .u64,.int .u64,.int .u64,.int .u64,.int .u64,.int .u64,.int .u64,.int .u64]),(1,.var 119 [.int .i64,.str])],2,[]⟩ ⟨[3,6,10],[],[]⟩ fun R K v=>f55p1 k (fun w=>K .normal (encSt ⟨[(6,.one (.ptr 0 0)),(10,.one (.int .i64))],[(0,.var 119 [.int .i64,.str])],1,[]⟩ w)) v
theorem f55p1O (k:Nat):SumO P Tryz.f233 126 (f55p1S k):=pt tm (f55T k) ⟨[6,7,10],[],[]⟩ SumsOk.nil fun _ _ _=>by kernel_rfl
noncomputable def f55F (k:Nat)(x:D134):Option ((Int×ByteArray)×Int) :=
 Option.bind (f85F k ((x.1.2.1.1,(x.1.2.1.2.1,(x.1.2.1.2.2.1,x.1.2.1.2.2.2))),x.2.1.2.2)) fun y1 =>
 Option.bind (f86F k ((y1.1,(y1.2.1,(y1.2.2.1,y1.2.2.2))),(x.1.2.2.1,(x.1.2.2.2.1,(x.1.2.2.2.2.1,x.1.2.2.2.2.2))))) fun y2 =>
 f55p0 k
  (fun (w7:D130) =>
   Option.bind (f84F k (1:Int)) fun y8 =>
   Option.bind (f85F k ((y8.1,(y8.2.1,(y8.2.2.1,y8.2.2.2))),w7.2.2.2.2.2.2.2.2.2.2.1)) fun y9 =>
   Option.bind (f63F k ((w7.2.2.2.2.2.2.2.2.2.2.2.2.2.2.1,(w7.2.2.2.2.2.2.2.2.2.2.2.2.2.2.2.1,(w7.2.2.2.2.2.2.2.2.2.2.2.2.2.2.2.2.1,w7.2.2.2.2.2.2.2.2.2.2.2.2.2.2.2.2.2.1))),(y9.1,(y9.2.1,(y9.2.2.1,y9.2.2.2))))) fun y10 =>
   bif (decide (y10≥(0:Int))) then
    some (((0:Int),ByteArray.empty),(19:Int))
   else
   f55p1 k
    (fun (w11:D131) =>
     some ((w11.1,ByteArray.empty),(0:Int)))
    ((IntKind.i64.wrap w7.2.2.2.2.2.2.2.2.2.2.2.2.2.2.1),w7.1,w7.2.1,w7.2.2.1,w7.2.2.2.1,w7.2.2.2.2.1,w7.2.2.2.2.2.1,w7.2.2.2.2.2.2.1,w7.2.2.2.2.2.2.2.1,w7.2.2.2.2.2.2.2.2.1,w7.2.2.2.2.2.2.2.2.2.2.2.2.1,w7.2.2.2.2.2.2.2.2.2.2.2.2.2.1,()))
  (x.2.2,x.1.1,x.1.2.1.1,x.1.2.1.2.1,x.1.2.1.2.2.1,x.1.2.1.2.2.2,x.1.2.2.1,x.1.2.2.2.1,x.1.2.2.2.2.1,x.1.2.2.2.2.2,x.2.1.1,x.2.1.2.1,x.2.1.2.2,(0:Int),ByteArray.empty,y2.1.1,y2.1.2.1,y2.1.2.2.1,y2.1.2.2.2,y2.2.1,y2.2.2.1,y2.2.2.2.1,y2.2.2.2.2,())
theorem f55Ok (k:Nat):FnV P 233 [.agg Y13,.agg (.pair (.int .i64) Y0),.dat .bool] [.agg Y7,.dat (.int .i64)] (f55F k) :=
 fs tm (f55T k) Tryz.func233 (by kernel_rfl) (SumsOk.nil |>.s (f55p1O k) (by kernel_rfl) |>.s (f55p0O k) (by kernel_rfl)) none fun _=>by kernel_rfl
noncomputable def f18T (k:Nat):TB P:=TB.nil |>.u (f55Ok k) |>.u (f54Ok k) |>.u (f53Ok k) |>.u (f52Ok k) |>.u (f43Ok k) |>.u (f42Ok k) |>.u (f28Ok k)
noncomputable def f18F (k:Nat)(x:D135):Option ((Int×ByteArray)×Int) :=
 Option.bind (f52F k (x.1.1,x.1.2)) fun y1 =>
 Option.bind (f28F k (x.2.1.1,(x.2.1.2.1,x.2.1.2.2))) fun y2 =>
 Option.bind (f53F k (x.2.1.1,(x.2.1.2.1,x.2.1.2.2))) fun y3 =>
 Option.bind (f43F k ((!y3),(17:Int))) fun y4 =>
 Option.bind (f42F k [y1,y2,y4]) fun y5 =>
 bif (y5 !=(0:Int)) then
  some (((0:Int),ByteArray.empty),y5)
 else
 Option.bind (f54F k (x.1.1,x.1.2)) fun y6 =>
 Option.bind (f55F k ((y6.1,((y6.2.1.1,(y6.2.1.2.1,(y6.2.1.2.2.1,y6.2.1.2.2.2))),(y6.2.2.1,(y6.2.2.2.1,(y6.2.2.2.2.1,y6.2.2.2.2.2))))),(x.2.1.1,(x.2.1.2.1,x.2.1.2.2)),x.2.2)) fun y7 =>
 some ((y7.1.1,y7.1.2),y7.2)
theorem f18Ok (k:Nat):FnV P 198 [.agg Y0,.agg (.pair (.int .i64) Y0),.dat .bool] [.agg Y7,.dat (.int .i64)] (f18F k) :=
 fs tm (f18T k) Tryz.func198 (by kernel_rfl) SumsOk.nil none fun _=>by kernel_rfl
noncomputable def f1042T (k:Nat):TB P:=TB.nil |>.u (f18Ok k) |>.u (f207Ok k) |>.u (f1096V k) |>.u (f1092Ok k) |>.u (f1050Ok k) |>.u (f73V k)
noncomputable def f1042p0 {R:Type}(k:Nat)(k0:D136->Option R)(v:D136):Option R :=
 bif (v.1 !=(0:Int)) then
  bif (v.1 !=(19:Int)) then
   k0 ((8:Int),v.2.1,v.2.2.1,v.2.2.2.1,v.2.2.2.2.1,v.2.2.2.2.2.1,v.2.2.2.2.2.2.1,v.2.2.2.2.2.2.2.1,v.2.2.2.2.2.2.2.2.1,v.2.2.2.2.2.2.2.2.2.1,v.2.2.2.2.2.2.2.2.2.2.1,v.2.2.2.2.2.2.2.2.2.2.2.1,v.2.2.2.2.2.2.2.2.2.2.2.2.1,v.2.2.2.2.2.2.2.2.2.2.2.2.2.1,v.2.2.2.2.2.2.2.2.2.2.2.2.2.2.1,())
  else
  k0 (v.1,v.2.1,v.2.2.1,v.2.2.2.1,v.2.2.2.2.1,v.2.2.2.2.2.1,v.2.2.2.2.2.2.1,v.2.2.2.2.2.2.2.1,v.2.2.2.2.2.2.2.2.1,v.2.2.2.2.2.2.2.2.2.1,v.2.2.2.2.2.2.2.2.2.2.1,v.2.2.2.2.2.2.2.2.2.2.2.1,v.2.2.2.2.2.2.2.2.2.2.2.2.1,v.2.2.2.2.2.2.2.2.2.2.2.2.2.1,v.2.2.2.2.2.2.2.2.2.2.2.2.2.2.1,())
 else
 k0 (v.1,v.2.1,v.2.2.1,v.2.2.2.1,v.2.2.2.2.1,v.2.2.2.2.2.1,v.2.2.2.2.2.2.1,v.2.2.2.2.2.2.2.1,v.2.2.2.2.2.2.2.2.1,v.2.2.2.2.2.2.2.2.2.1,v.2.2.2.2.2.2.2.2.2.2.1,v.2.2.2.2.2.2.2.2.2.2.2.1,v.2.2.2.2.2.2.2.2.2.2.2.2.1,v.2.2.2.2.2.2.2.2.2.2.2.2.2.1,v.2.2.2.2.2.2.2.2.2.2.2.2.2.2.1,())
noncomputable def f1042p0S (k:Nat):=partSum ⟨[(2,.one (.ptr 0 0)),(4,.one (.ptr 1 0)),(6,.one (.ptr 2 0)),(8,.one (.int .i64))],[(0,.var 124 [.str,.int .i64,.int .i64,.int .i64,.int .i64,.int .i64,.int .i64,.str,.int .i64,.ro Y1]),(1,.var 119 [.int .i64,.str]),(2,.var 273 [.int .i64,.int .i64])],3,[]⟩ ⟨[2,4,6,8],[],[]⟩ fun R K v=>f1042p0 k (fun w=>K .normal (encSt ⟨[(2,.one (.ptr 0 0)),(4,.one (.ptr 1 0)),(6,.one (.ptr 2 0)),(8,.one (.int .i64))],[(0,.var 124 [.str,.int .i64,.int .i64,.int .i64,.int .i64,.int .i64,.int .i64,.str,.int .i64,.ro Y1]),(1,.var 119 [.int .i64,.str]),(2,.var 273 [.int .i64,.int .i64])],3,[]⟩ w)) v
theorem f1042p0O (k:Nat):SumO P Tryz.f142 126 (f1042p0S k):=pt tm (f1042T k) ⟨[2,4,5,6,8],[],[]⟩ SumsOk.nil fun _ _ _=>by kernel_rfl
noncomputable def f1042F (k:Nat)(x:D11×ByteArray):Option ((Int×ByteArray)×Int) :=
 Option.bind (f1050F k (x.1.1,(x.1.2.1,(x.1.2.2.1,((x.1.2.2.2.1.1,(x.1.2.2.2.1.2.1,x.1.2.2.2.1.2.2)),(x.1.2.2.2.2.1,(x.1.2.2.2.2.2.1,(x.1.2.2.2.2.2.2.1,x.1.2.2.2.2.2.2.2)))))))) fun y1 =>
 bif (decide ((x.2.size:Int) > y1)) then
  some (((0:Int),ByteArray.empty),(18:Int))
 else
 Option.bind (f1092F k (x.1.1,(x.1.2.1,(x.1.2.2.1,((x.1.2.2.2.1.1,(x.1.2.2.2.1.2.1,x.1.2.2.2.1.2.2)),(x.1.2.2.2.2.1,(x.1.2.2.2.2.2.1,(x.1.2.2.2.2.2.2.1,x.1.2.2.2.2.2.2.2)))))))) fun y2 =>
 bif (!y2) then
  Option.bind (f73F k ((⟨#[32]⟩:ByteArray),(IntKind.i64.wrap (x.1.2.2.2.1.2.1 - (x.2.size:Int))))) fun y3 =>
  bif (decide (x.2.size+y3.size<=9223372036854775807)) then
  some (((0:Int),(x.2++y3)),(0:Int))
  else none
 else
 Option.bind (f1096F k (x.2,(⟨#[32]⟩:ByteArray))) fun y4 =>
 bif (strEq y4 ByteArray.empty) then
  some (((0:Int),ByteArray.empty),(0:Int))
 else
 Option.bind (f207F k y4) fun y5 =>
 f1042p0 k
  (fun (w6:D136) =>
   bif (w6.1 !=(0:Int)) then
    some (((0:Int),ByteArray.empty),w6.1)
   else
   Option.bind (f18F k ((w6.2.2.2.2.2.2.2.2.2.2.2.2.2.1,w6.2.2.2.2.2.2.2.2.2.2.2.2.2.2.1),(w6.2.2.2.2.1,(w6.2.2.2.2.2.1,w6.2.2.2.2.2.2.1)),false)) fun y7 =>
   some ((y7.1.1,y7.1.2),y7.2))
  (y5.2.2,x.1.1,x.1.2.1,x.1.2.2.1,x.1.2.2.2.1.1,x.1.2.2.2.1.2.1,x.1.2.2.2.1.2.2,x.1.2.2.2.2.1,x.1.2.2.2.2.2.1,x.1.2.2.2.2.2.2.1,x.1.2.2.2.2.2.2.2,(0:Int),ByteArray.empty,y5.1.1,y5.1.2,())
theorem f1042Ok (k:Nat):FnV P 142 [.agg (.pair .str Y5),.dat .str] [.agg Y7,.dat (.int .i64)] (f1042F k) :=
 fs tm (f1042T k) Tryz.func142 (by kernel_rfl) (SumsOk.nil |>.s (f1042p0O k) (by kernel_rfl)) none fun _=>by kernel_rfl
noncomputable def f1040v0I:Shape:=⟨[(0,.agg [.int .i64,.int .i64,.bool]),(1,.one (.ptr 0 0))],[(0,.var 9 [.str])],1,[]⟩
noncomputable def f1040v0U:Shape:=⟨[(0,.one (.bool))],[(0,.var 9 [.str])],1,[]⟩
noncomputable def f1040v0F (k:Nat)(x:D137):Option (Bool×ByteArray×Unit) :=
 bif (decide ((2:Int)<(x.2.2.2.1.size:Int))) then
 let t1:=((IntKind.i64.wrap ((IntKind.i64.wrap ((49:Int)+x.1)) - (1:Int)))==(IntKind.i64.wrap (bt x.2.2.2.1 (2:Int))))
 some (t1,x.2.2.2.1,())
 else none
theorem f1040v0Ok (k:Nat):GnV P 140 f1040v0I f1040v0U (f1040v0F k) :=
 gs tm TB.nil Tryz.func140 (by kernel_rfl) SumsOk.nil [.dat .bool] [] none fun _=>by kernel_rfl
noncomputable def f1039v1I:Shape:=⟨[(0,.one (.ro (.pair (.int .i64) Y1))),(1,.one (.fn 140 [0]))],[(0,.var 9 [.str])],1,[]⟩
noncomputable def f1039v1U:Shape:=⟨[(0,.one (.int .i64))],[(0,.var 9 [.str])],1,[]⟩
noncomputable def f1039v1T (k:Nat):TB P:=TB.nil |>.g (f1040v0Ok k)
noncomputable def f1039v1l0s {R:Type}(k:Nat)(rec:D138->Option R)(k0:Int×ByteArray×Unit->Option R)(k1:ByteArray×Unit->Option R)(v:D138):Option R :=
 bif (decide (v.2.2.1<v.2.1)) then
  bif ((decide ((0:Int)<=v.2.2.1))&&(decide (v.2.2.1<(v.1.length:Int)))) then
  Option.bind (f1040v0F k ((v.1.getD (Int.toNat v.2.2.1) ((0:Int),((0:Int),false))).1,(v.1.getD (Int.toNat v.2.2.1) ((0:Int),((0:Int),false))).2.1,(v.1.getD (Int.toNat v.2.2.1) ((0:Int),((0:Int),false))).2.2,v.2.2.2.1,())) fun y1 =>
  bif y1.1 then
   k0 (v.2.2.1,y1.2.1,())
  else
  rec (v.1,v.2.1,(IntKind.i64.wrap (v.2.2.1+(1:Int))),y1.2.1,())
  else none
 else
 k1 (v.2.2.2.1,())
noncomputable def f1039v1l0 {R:Type}(k:Nat)(k0:Int×ByteArray×Unit->Option R)(k1:ByteArray×Unit->Option R)(v:D138):Option R:=iterS (fun rec v=>f1039v1l0s k rec k0 k1 v) k v
noncomputable def f1039v1l0S (k:Nat):=loopSum ⟨[(0,.one (.ro (.pair (.int .i64) Y1))),(1,.one (.fn 140 [0])),(7,.one (.int .i64)),(8,.one (.int .i64))],[(0,.var 9 [.str])],1,[some 0]⟩ ⟨[0,1,7,8],[],[]⟩ k fun R rec K v=>f1039v1l0s k rec (fun w=>K .ret (encSt ⟨[(4,.one (.int .i64))],[(0,.var 9 [.str])],1,[some 0]⟩ w)) (fun w=>K (.exit 0) (encSt ⟨[],[(0,.var 9 [.str])],1,[some 0]⟩ w)) v
theorem f1039v1l0O (k:Nat):SumO P Tryz.f139 26 (f1039v1l0S k):=lp tm (f1039v1T k) ⟨[4],[],[]⟩ SumsOk.nil (by kernel_rfl) fun _ _ _ _=>by kernel_rfl
noncomputable def f1039v1F (k:Nat)(x:D139):Option (Int×ByteArray×Unit) :=
 f1039v1l0 k
  (fun (w2:Int×ByteArray×Unit) =>
   some (w2.1,w2.2.1,()))
  (fun (w3:ByteArray×Unit) =>
   some ((-1:Int),w3.1,()))
  (x.1,(x.1.length:Int),(0:Int),x.2.1,())
theorem f1039v1Ok (k:Nat):GnV P 139 f1039v1I f1039v1U (f1039v1F k) :=
 gs tm (f1039v1T k) Tryz.func139 (by kernel_rfl) (SumsOk.nil |>.s (f1039v1l0O k) (by kernel_rfl)) [.dat .bool] [] none fun _=>by kernel_rfl
noncomputable def f986v0I:Shape:=⟨[(0,.agg [.str,.ro (.pair .str Y5),.ro (.pair (.int .i64) Y1)]),(1,.one (.str))],[],0,[]⟩
noncomputable def f986v0U:Shape:=⟨[(0,.one (.nil .ptr)),(1,.one (.own 0)),(2,.one (.int .i64)),(3,.one (.int .i64))],[(0,.row 3 (.int .i64) .plain)],1,[]⟩
noncomputable def f986v0W:Shape:=⟨[(0,.one (.ptr 0 0)),(1,.one (.own 1)),(2,.one (.int .i64)),(3,.one (.int .i64))],[(0,.var 215 [.str,.int .i64]),(1,.row 3 (.int .i64) .plain)],2,[]⟩
noncomputable def f986v0T (k:Nat):TB P:=TB.nil |>.g (f1039v1Ok k) |>.u (f1038Ok k) |>.u (f968Ok k) |>.u (f966Ok k)
noncomputable def f986v0p0 {R:Type}(k:Nat)(k0:D140->Option R)(k1:D141->Option R)(v:D141):Option R :=
 bif ((decide ((0:Int)<=v.1))&&(decide (v.1<(v.2.2.2.1.length:Int)))) then
 bif (v.2.2.2.1.getD (Int.toNat v.1) ((0:Int),((0:Int),false))).2.2 then
  bif (!strEq v.2.2.2.2.1 ByteArray.empty) then
   k0 ((3:Int),(10:Int),v.1,v.2.1,v.2.2.1,v.2.2.2.1,v.2.2.2.2.1,v.2.2.2.2.2.1,())
  else
  k1 (v.1,v.2.1,v.2.2.1,v.2.2.2.1,v.2.2.2.2.1,v.2.2.2.2.2.1,())
 else
 k1 (v.1,v.2.1,v.2.2.1,v.2.2.2.1,v.2.2.2.2.1,v.2.2.2.2.2.1,())
 else none
noncomputable def f986v0p0S (k:Nat):=partSum ⟨[(2,.one (.ptr 0 0)),(11,.one (.ptr 1 0)),(12,.one (.int .i64))],[(0,.var 25 [.str,.ro (.pair .str Y5),.ro (.pair (.int .i64) Y1)]),(1,.var 215 [.str,.int .i64])],2,[]⟩ ⟨[2,11,12],[],[]⟩ fun R K v=>f986v0p0 k (fun w=>K .ret (encSt ⟨[(2,.one (.ptr 0 0)),(4,.one (.nil .ptr)),(5,.one (.emp)),(6,.one (.int .i64)),(7,.one (.int .i64)),(11,.one (.ptr 1 0)),(12,.one (.int .i64))],[(0,.var 25 [.str,.ro (.pair .str Y5),.ro (.pair (.int .i64) Y1)]),(1,.var 215 [.str,.int .i64])],2,[]⟩ w)) (fun w=>K .normal (encSt ⟨[(2,.one (.ptr 0 0)),(11,.one (.ptr 1 0)),(12,.one (.int .i64))],[(0,.var 25 [.str,.ro (.pair .str Y5),.ro (.pair (.int .i64) Y1)]),(1,.var 215 [.str,.int .i64])],2,[]⟩ w)) v
theorem f986v0p0O (k:Nat):SumO P Tryz.f86 510 (f986v0p0S k):=pt tm (f986v0T k) ⟨[2,4,5,6,7,11,12],[],[]⟩ SumsOk.nil fun _ _ _=>by kernel_rfl
noncomputable def f986v0p1 {R:Type}(k:Nat)(k0:D142->Option R)(k1:ByteArray×Int×Unit->Option R)(v:D141):Option R :=
 bif ((decide ((0:Int)<=v.1))&&(decide (v.1<(v.2.2.2.1.length:Int)))) then
 let t8:=(decide ((v.2.2.2.1.getD (Int.toNat v.1) ((0:Int),((0:Int),false))).2.1 > (0:Int)))
 bif t8 then
  k0 (v.2.2.2.2.1,v.2.2.2.2.2.1,[(v.2.2.2.1.getD (Int.toNat v.1) ((0:Int),((0:Int),false))).2.1],())
 else
 k1 (v.2.2.2.2.1,v.2.2.2.2.2.1,())
 else none
noncomputable def f986v0p1S (k:Nat):=partSum ⟨[(2,.one (.ptr 0 0)),(11,.one (.ptr 1 0)),(12,.one (.int .i64)),(13,.one (.emp))],[(0,.var 25 [.str,.ro (.pair .str Y5),.ro (.pair (.int .i64) Y1)]),(1,.var 215 [.str,.int .i64])],2,[]⟩ ⟨[2,11,12,13],[],[]⟩ fun R K v=>f986v0p1 k (fun w=>K .normal (encSt ⟨[(11,.one (.ptr 0 0)),(13,.one (.own 1))],[(0,.var 215 [.str,.int .i64]),(1,.row 3 (.int .i64) .plain)],2,[]⟩ w)) (fun w=>K .normal (encSt ⟨[(11,.one (.ptr 0 0)),(13,.one (.emp))],[(0,.var 215 [.str,.int .i64])],1,[]⟩ w)) v
theorem f986v0p1O (k:Nat):SumO P Tryz.f86 2046 (f986v0p1S k):=pt tm (f986v0T k) ⟨[4,5,6,7,11,13],[],[]⟩ SumsOk.nil fun _ _ _=>by kernel_rfl
noncomputable def f986v0F (k:Nat)(x:D144):Option (Sum (D0) (D143)) :=
 Option.bind (f968F k ((decide ((x.2.2.2.1.size:Int) > (4000:Int))),(2:Int))) fun y1 =>
 Option.bind (f968F k ((decide ((x.2.2.2.1.size:Int)<(3:Int))),(9:Int))) fun y2 =>
 Option.bind (f966F k [y1,y2]) fun y3 =>
 bif (y3 !=(0:Int)) then
  some (.inl ((0:Int),y3,[],()))
 else
 Option.bind (f1038F k (x.2.2.2.1,(0:Int))) fun y4 =>
 bif (!y4.2) then
  some (.inl ((0:Int),(3:Int),[],()))
 else
 bif (sliceBds (3:Int) (x.2.2.2.1.size:Int) (x.2.2.2.1.size:Int)) then
 bif (decide ((2:Int)<(x.2.2.2.1.size:Int))) then
 bif ((bt x.2.2.2.1 (2:Int))==(241:Int)) then
  some (.inr ((0:Int),(0:Int),(x.2.2.2.1.extract 3 (Int.toNat (x.2.2.2.1.size:Int))),(3:Int),[],()))
 else
 Option.bind (f1039v1F k (x.2.2.1,x.2.2.2.1,())) fun y5 =>
 bif (decide (y5.1<(0:Int))) then
  some (.inl ((0:Int),(39:Int),[],()))
 else
 f986v0p0 k
  (fun (w6:D140) =>
   some (.inl (w6.1,w6.2.1,[],())))
  (fun (w7:D141) =>
   f986v0p1 k
    (fun (w9:D142) =>
     some (.inr ((0:Int),(0:Int),w9.1,w9.2.1,w9.2.2.1,())))
    (fun (w10:ByteArray×Int×Unit) =>
     some (.inr ((0:Int),(0:Int),w10.1,w10.2.1,[],())))
    (w7.1,w7.2.1,w7.2.2.1,w7.2.2.2.1,w7.2.2.2.2.1,w7.2.2.2.2.2.1,()))
  (y5.1,x.1,x.2.1,x.2.2.1,(x.2.2.2.1.extract 3 (Int.toNat (x.2.2.2.1.size:Int))),(3:Int),())
 else none
 else none
theorem f986v0Ok (k:Nat):GnV2 P 86 f986v0I f986v0U f986v0W (f986v0F k) :=
 gs2 tm (f986v0T k) Tryz.func86 (by kernel_rfl) (SumsOk.nil |>.s (f986v0p1O k) (by kernel_rfl) |>.s (f986v0p0O k) (by kernel_rfl)) [.dat .bool,.own 3 (.int .i64),.dat .bool,.dat .bool] [.dat .bool,.own 3 (.int .i64),.dat .bool,.dat .bool] [] [] none fun _=>by kernel_rfl
noncomputable def f1041v0I:Shape:=⟨[(0,.one (.ptr 0 0))],[(0,.var 215 [.str,.int .i64])],1,[]⟩
noncomputable def f1041v0U:Shape:=⟨[(0,.one (.int .i64)),(1,.one (.str)),(2,.one (.int .i64))],[(0,.var 215 [.str,.int .i64])],1,[]⟩
noncomputable def f1041v0T (k:Nat):TB P:=TB.nil |>.u (f1095V k) |>.u (f1038Ok k)
noncomputable def f1041v0p0 {R:Type}(k:Nat)(k0:D145->Option R)(v:D145):Option R :=
 Option.bind (f1095F k (v.2.1,(17:Int))) fun y2 =>
 bif (decide (y2≥(0:Int))) then
  bif (sliceBds (0:Int) y2 (v.2.1.size:Int)) then
  k0 (v.1,(v.2.1.extract 0 (Int.toNat y2)),v.2.2.1,v.2.2.2.1,())
  else none
 else
 k0 (v.1,v.2.1,v.2.2.1,v.2.2.2.1,())
noncomputable def f1041v0p0S (k:Nat):=partSum ⟨[(5,.one (.int .i64)),(7,.one (.str))],[(0,.var 215 [.str,.int .i64])],1,[some 0]⟩ ⟨[5,7],[],[]⟩ fun R K v=>f1041v0p0 k (fun w=>K .normal (encSt ⟨[(5,.one (.int .i64)),(7,.one (.str))],[(0,.var 215 [.str,.int .i64])],1,[some 0]⟩ w)) v
theorem f1041v0p0O (k:Nat):SumO P Tryz.f141 254 (f1041v0p0S k):=pt tm (f1041v0T k) ⟨[2,3,4,5,7],[],[]⟩ SumsOk.nil fun _ _ _=>by kernel_rfl
noncomputable def f1041v0F (k:Nat)(x:ByteArray×Int×Unit):Option (D146) :=
 bif (decide ((0:Int)<(x.1.size:Int))) then
 bif ((bt x.1 (0:Int)) !=(17:Int)) then
  some ((0:Int),ByteArray.empty,(4:Int),x.1,x.2.1,())
 else
 bif (decide ((x.1.size:Int)<(3:Int))) then
  some ((0:Int),ByteArray.empty,(9:Int),x.1,x.2.1,())
 else
 Option.bind (f1038F k (x.1,(1:Int))) fun y1 =>
 bif (!y1.2) then
  some ((0:Int),ByteArray.empty,(3:Int),x.1,x.2.1,())
 else
 bif (sliceBds (3:Int) (x.1.size:Int) (x.1.size:Int)) then
 f1041v0p0 k
  (fun (w3:D145) =>
   some (w3.1,w3.2.1,(0:Int),w3.2.2.1,w3.2.2.2.1,()))
  (y1.1,(x.1.extract 3 (Int.toNat (x.1.size:Int))),x.1,x.2.1,())
 else none
 else none
theorem f1041v0Ok (k:Nat):GnV P 141 f1041v0I f1041v0U (f1041v0F k) :=
 gs tm (f1041v0T k) Tryz.func141 (by kernel_rfl) (SumsOk.nil |>.s (f1041v0p0O k) (by kernel_rfl)) [.dat .bool,.dat .bool,.dat .bool] [] none fun _=>by kernel_rfl
noncomputable def f1018v0I:Shape:=⟨[(0,.one (.int .i64)),(1,.one (.ptr 0 0))],[(0,.var 25 [.str,.ro (.pair .str Y5),.ro (.pair (.int .i64) Y1)])],1,[]⟩
noncomputable def f1018v0U:Shape:=⟨[(0,.one (.int .i64)),(1,.one (.int .i64)),(2,.agg [.str,.int .i64,.int .i64,.int .i64,.int .i64,.int .i64,.int .i64,.str,.int .i64,.ro Y1])],[(0,.var 25 [.str,.ro (.pair .str Y5),.ro (.pair (.int .i64) Y1)])],1,[]⟩
noncomputable def f1018v0T (k:Nat):TB P:=TB.nil |>.p (f992Ok k)
noncomputable def f1018v0F (k:Nat)(x:D148):Option (D147) :=
 Option.bind (f992F k ((x.2.1,(x.2.2.1,x.2.2.2.1)),x.1)) fun y1 =>
 some ((0:Int),y1.1,y1.2.1,y1.2.2.1,y1.2.2.2.1,y1.2.2.2.2.1.1,y1.2.2.2.2.1.2.1,y1.2.2.2.2.1.2.2,y1.2.2.2.2.2.1,y1.2.2.2.2.2.2.1,y1.2.2.2.2.2.2.2.1,y1.2.2.2.2.2.2.2.2,x.2.1,x.2.2.1,x.2.2.2.1,())
theorem f1018v0Ok (k:Nat):GnV P 118 f1018v0I f1018v0U (f1018v0F k) :=
 gs tm (f1018v0T k) Tryz.func118 (by kernel_rfl) SumsOk.nil [.dat .bool,.dat .bool,.agg .bool] [] none fun _=>by kernel_rfl
noncomputable def f1019v0I:Shape:=⟨[(0,.one (.int .i64)),(1,.one (.int .i64)),(2,.agg [.int .i64,.str]),(3,.one (.ptr 0 0))],[(0,.var 69 [.own 1]),(1,.row 119 Y7 .plain)],2,[]⟩
noncomputable def f1019v0U:Shape:=⟨[],[(0,.var 69 [.own 2]),(2,.row 119 Y7 .plain)],3,[]⟩
noncomputable def f1019v0F (k:Nat)(x:D150):Option (D149) :=
 bif ((decide ((0:Int)<=x.2.1))&&(decide (x.2.1<(x.2.2.2.2.1.length:Int)))) then
 some ((x.2.2.2.2.1.set (Int.toNat x.2.1) (x.2.2.1,x.2.2.2.1)),())
 else none
theorem f1019v0Ok (k:Nat):GnV P 119 f1019v0I f1019v0U (f1019v0F k) :=
 gs tm TB.nil Tryz.func119 (by kernel_rfl) SumsOk.nil [] [1] none fun _=>by kernel_rfl
noncomputable def f1043v0I:Shape:=⟨[(0,.one (.ptr 0 0)),(1,.one (.str))],[(0,.var 215 [.str,.int .i64])],1,[]⟩
noncomputable def f1043v0U:Shape:=⟨[],[(0,.var 215 [.str,.int .i64])],1,[]⟩
noncomputable def f1043v0F (k:Nat)(x:D151):Option (ByteArray×Int×Unit) :=
 bif (sliceBds (IntKind.i64.wrap ((3:Int)+(x.1.size:Int))) (x.2.1.size:Int) (x.2.1.size:Int)) then
 let t1:=(x.2.1.extract (Int.toNat (IntKind.i64.wrap ((3:Int)+(x.1.size:Int)))) (Int.toNat (x.2.1.size:Int)))
 let t2:=(IntKind.i64.wrap ((IntKind.i64.wrap (x.2.2.1+(3:Int)))+(x.1.size:Int)))
 some (t1,t2,())
 else none
theorem f1043v0Ok (k:Nat):GnV P 143 f1043v0I f1043v0U (f1043v0F k) :=
 gs tm TB.nil Tryz.func143 (by kernel_rfl) SumsOk.nil [] [] none fun _=>by kernel_rfl
noncomputable def f990v0I:Shape:=⟨[(0,.one (.ptr 0 0)),(1,.one (.fn 118 [1])),(2,.one (.fn 119 [2]))],[(0,.var 215 [.str,.int .i64]),(1,.var 25 [.str,.ro (.pair .str Y5),.ro (.pair (.int .i64) Y1)]),(2,.var 69 [.own 3]),(3,.row 119 Y7 .plain)],4,[]⟩
noncomputable def f990v0U:Shape:=⟨[(0,.one (.int .i64)),(1,.one (.int .i64))],[(0,.var 215 [.str,.int .i64]),(1,.var 25 [.str,.ro (.pair .str Y5),.ro (.pair (.int .i64) Y1)]),(2,.var 69 [.own 4]),(4,.row 119 Y7 .plain)],5,[]⟩
noncomputable def f990v0T (k:Nat):TB P:=TB.nil |>.g (f1043v0Ok k) |>.u (f1042Ok k) |>.g (f1041v0Ok k) |>.g (f1019v0Ok k) |>.g (f1018v0Ok k)
noncomputable def f990v0l0H:Shape:=⟨[(0,.one (.ptr 0 0)),(1,.one (.fn 118 [1])),(2,.one (.fn 119 [2]))],[(0,.var 215 [.str,.int .i64]),(1,.var 25 [.str,.ro (.pair .str Y5),.ro (.pair (.int .i64) Y1)]),(2,.var 69 [.own 3]),(3,.row 119 Y7 .plain)],4,[some 0,some 1,some 2,none]⟩
noncomputable def f990v0l0X0:Shape:=⟨[(6,.one (.int .i64)),(7,.one (.int .i64))],[(0,.var 215 [.str,.int .i64]),(1,.var 25 [.str,.ro (.pair .str Y5),.ro (.pair (.int .i64) Y1)]),(2,.var 69 [.own 3]),(3,.row 119 Y7 .plain)],4,[some 0,some 1,some 2,none]⟩
noncomputable def f990v0l0X1:Shape:=⟨[],[(0,.var 215 [.str,.int .i64]),(1,.var 25 [.str,.ro (.pair .str Y5),.ro (.pair (.int .i64) Y1)]),(2,.var 69 [.own 3]),(3,.row 119 Y7 .plain)],4,[some 0,some 1,some 2,none]⟩
noncomputable def f990v0l0N:NoteR:=⟨[0,1,2],[],[]⟩
noncomputable def f990v0l0M:NoteR:=⟨[6,7],[],[]⟩
noncomputable def f990v0l0C:Code:=firstC (codesAt 12 (codeOf Tryz.f90) 1)
noncomputable def f990v0l0s {R:Type}(k:Nat)(rec:D153->Option R)(k0:D152->Option R)(k1:D153->Option R)(v:D153):Option R :=
 bif (!strEq v.1 ByteArray.empty) then
  Option.bind (f1041v0F k (v.1,v.2.1,())) fun y6 =>
  bif (y6.2.2.1 !=(0:Int)) then
   k0 (y6.2.2.2.2.1,y6.2.2.1,y6.2.2.2.1,y6.2.2.2.2.1,v.2.2.1,v.2.2.2.1,v.2.2.2.2.1,v.2.2.2.2.2.1,())
  else
  Option.bind (f1018v0F k (y6.1,v.2.2.1,v.2.2.2.1,v.2.2.2.2.1,())) fun y7 =>
  bif (decide (y7.2.1<(0:Int))) then
   k0 (y6.2.2.2.2.1,(11:Int),y6.2.2.2.1,y6.2.2.2.2.1,y7.2.2.2.2.2.2.2.2.2.2.2.2.1,y7.2.2.2.2.2.2.2.2.2.2.2.2.2.1,y7.2.2.2.2.2.2.2.2.2.2.2.2.2.2.1,v.2.2.2.2.2.1,())
  else
  Option.bind (f1042F k ((y7.2.2.1,(y7.2.2.2.1,(y7.2.2.2.2.1,((y7.2.2.2.2.2.1,(y7.2.2.2.2.2.2.1,y7.2.2.2.2.2.2.2.1)),(y7.2.2.2.2.2.2.2.2.1,(y7.2.2.2.2.2.2.2.2.2.1,(y7.2.2.2.2.2.2.2.2.2.2.1,y7.2.2.2.2.2.2.2.2.2.2.2.1))))))),y6.2.1)) fun y8 =>
  bif (y8.2 !=(0:Int)) then
   k0 (y6.2.2.2.2.1,y8.2,y6.2.2.2.1,y6.2.2.2.2.1,y7.2.2.2.2.2.2.2.2.2.2.2.2.1,y7.2.2.2.2.2.2.2.2.2.2.2.2.2.1,y7.2.2.2.2.2.2.2.2.2.2.2.2.2.2.1,v.2.2.2.2.2.1,())
  else
  Option.bind (f1019v0F k (y7.1,y7.2.1,y8.1.1,y8.1.2,v.2.2.2.2.2.1,())) fun y9 =>
  Option.bind (f1043v0F k (y6.2.1,y6.2.2.2.1,y6.2.2.2.2.1,())) fun y10 =>
  rec (y10.1,y10.2.1,y7.2.2.2.2.2.2.2.2.2.2.2.2.1,y7.2.2.2.2.2.2.2.2.2.2.2.2.2.1,y7.2.2.2.2.2.2.2.2.2.2.2.2.2.2.1,y9.1,())
 else
 k1 (v.1,v.2.1,v.2.2.1,v.2.2.2.1,v.2.2.2.2.1,v.2.2.2.2.2.1,())
noncomputable def f990v0l0 {R:Type}(k:Nat)(k0:D152->Option R)(k1:D153->Option R)(v:D153):Option R:=iterS (fun rec v=>f990v0l0s k rec k0 k1 v) k v
noncomputable def f990v0l0S (k:Nat):Sum1:=loopSum f990v0l0H f990v0l0N k (fun R rec K v=>f990v0l0s k rec (fun w=>K .ret (encSt f990v0l0X0 w)) (fun w=>K (.exit 0) (encSt f990v0l0X1 w)) v)
theorem f990v0l0E (k:Nat)(R:Type)(rec:St->Option R)(K:X->St->Option R)(v:f990v0l0H.Den):evS tab (f990v0T k).t Tryz.f90.ntmps [] (bodyOf f990v0l0C) 24 (bodyK f990v0l0N f990v0l0M rec K) (encSt f990v0l0H v)=f990v0l0s k (fun v=>rec (encSt f990v0l0H v)) (fun w=>K .ret (encSt f990v0l0X0 w)) (fun w=>K (.exit 0) (encSt f990v0l0X1 w)) v:=by kernel_rfl
theorem f990v0l0I (k:Nat):SumsOk P Tryz.f90.ntmps [] (bodyOf f990v0l0C) 24:=SumsOk.nil
noncomputable def f990v0l1H:Shape:=⟨[(0,.one (.ptr 0 0)),(1,.one (.fn 118 [1])),(2,.one (.fn 119 [2]))],[(0,.var 215 [.str,.int .i64]),(1,.var 25 [.str,.ro (.pair .str Y5),.ro (.pair (.int .i64) Y1)]),(2,.var 69 [.own 3]),(3,.row 119 Y7 .plain)],4,[some 0,some 1,some 2,some 3]⟩
noncomputable def f990v0l1X0:Shape:=⟨[(6,.one (.int .i64)),(7,.one (.int .i64))],[(0,.var 215 [.str,.int .i64]),(1,.var 25 [.str,.ro (.pair .str Y5),.ro (.pair (.int .i64) Y1)]),(2,.var 69 [.own 3]),(3,.row 119 Y7 .plain)],4,[some 0,some 1,some 2,some 3]⟩
noncomputable def f990v0l1X1:Shape:=⟨[(6,.one (.int .i64)),(7,.one (.int .i64))],[(0,.var 215 [.str,.int .i64]),(1,.var 25 [.str,.ro (.pair .str Y5),.ro (.pair (.int .i64) Y1)]),(2,.var 69 [.own 3]),(3,.row 119 Y7 .plain)],4,[some 0,some 1,some 2,none]⟩
noncomputable def f990v0l1X2:Shape:=⟨[],[(0,.var 215 [.str,.int .i64]),(1,.var 25 [.str,.ro (.pair .str Y5),.ro (.pair (.int .i64) Y1)]),(2,.var 69 [.own 3]),(3,.row 119 Y7 .plain)],4,[some 0,some 1,some 2,none]⟩
noncomputable def f990v0l1X3:Shape:=⟨[],[(0,.var 215 [.str,.int .i64]),(1,.var 25 [.str,.ro (.pair .str Y5),.ro (.pair (.int .i64) Y1)]),(2,.var 69 [.own 3]),(3,.row 119 Y7 .plain)],4,[some 0,some 1,some 2,some 3]⟩
noncomputable def f990v0l1N:NoteR:=⟨[0,1,2],[],[]⟩
noncomputable def f990v0l1M:NoteR:=⟨[6,7],[],[]⟩
noncomputable def f990v0l1C:Code:=firstC (codesAt 12 (codeOf Tryz.f90) 1)
noncomputable def f990v0l1s {R:Type}(k:Nat)(rec:D153->Option R)(k0:D152->Option R)(k1:D152->Option R)(k2:D153->Option R)(k3:D153->Option R)(v:D153):Option R :=
 bif (!strEq v.1 ByteArray.empty) then
  Option.bind (f1041v0F k (v.1,v.2.1,())) fun y1 =>
  bif (y1.2.2.1 !=(0:Int)) then
   k0 (y1.2.2.2.2.1,y1.2.2.1,y1.2.2.2.1,y1.2.2.2.2.1,v.2.2.1,v.2.2.2.1,v.2.2.2.2.1,v.2.2.2.2.2.1,())
  else
  Option.bind (f1018v0F k (y1.1,v.2.2.1,v.2.2.2.1,v.2.2.2.2.1,())) fun y2 =>
  bif (decide (y2.2.1<(0:Int))) then
   k0 (y1.2.2.2.2.1,(11:Int),y1.2.2.2.1,y1.2.2.2.2.1,y2.2.2.2.2.2.2.2.2.2.2.2.2.1,y2.2.2.2.2.2.2.2.2.2.2.2.2.2.1,y2.2.2.2.2.2.2.2.2.2.2.2.2.2.2.1,v.2.2.2.2.2.1,())
  else
  Option.bind (f1042F k ((y2.2.2.1,(y2.2.2.2.1,(y2.2.2.2.2.1,((y2.2.2.2.2.2.1,(y2.2.2.2.2.2.2.1,y2.2.2.2.2.2.2.2.1)),(y2.2.2.2.2.2.2.2.2.1,(y2.2.2.2.2.2.2.2.2.2.1,(y2.2.2.2.2.2.2.2.2.2.2.1,y2.2.2.2.2.2.2.2.2.2.2.2.1))))))),y1.2.1)) fun y3 =>
  bif (y3.2 !=(0:Int)) then
   k0 (y1.2.2.2.2.1,y3.2,y1.2.2.2.1,y1.2.2.2.2.1,y2.2.2.2.2.2.2.2.2.2.2.2.2.1,y2.2.2.2.2.2.2.2.2.2.2.2.2.2.1,y2.2.2.2.2.2.2.2.2.2.2.2.2.2.2.1,v.2.2.2.2.2.1,())
  else
  Option.bind (f1019v0F k (y2.1,y2.2.1,y3.1.1,y3.1.2,v.2.2.2.2.2.1,())) fun y4 =>
  Option.bind (f1043v0F k (y1.2.1,y1.2.2.2.1,y1.2.2.2.2.1,())) fun y5 =>
  f990v0l0 k
   (fun (w11:D152) =>
    k1 (w11.1,w11.2.1,w11.2.2.1,w11.2.2.2.1,w11.2.2.2.2.1,w11.2.2.2.2.2.1,w11.2.2.2.2.2.2.1,w11.2.2.2.2.2.2.2.1,()))
   (fun (w12:D153) =>
    k2 (w12.1,w12.2.1,w12.2.2.1,w12.2.2.2.1,w12.2.2.2.2.1,w12.2.2.2.2.2.1,()))
   (y5.1,y5.2.1,y2.2.2.2.2.2.2.2.2.2.2.2.2.1,y2.2.2.2.2.2.2.2.2.2.2.2.2.2.1,y2.2.2.2.2.2.2.2.2.2.2.2.2.2.2.1,y4.1,())
 else
 k3 (v.1,v.2.1,v.2.2.1,v.2.2.2.1,v.2.2.2.2.1,v.2.2.2.2.2.1,())
noncomputable def f990v0l1 {R:Type}(k:Nat)(k0:D152->Option R)(k1:D152->Option R)(k2:D153->Option R)(k3:D153->Option R)(v:D153):Option R:=iterS (fun rec v=>f990v0l1s k rec k0 k1 k2 k3 v) k v
theorem f990v0l0Rd (k:Nat):SumRd P Tryz.f90.ntmps (bodyOf f990v0l0C) (f990v0l0S k) k:=loop_rd tm.1 (f990v0T k).ok tm.2 (f990v0l0I k) (f990v0l0E k)
noncomputable def f990v0l1S (k:Nat):Sum1:=loop2Sum f990v0l1H f990v0l1N (f990v0l0S k) k (fun R rec K v=>f990v0l1s k rec (fun w=>K .ret (encSt f990v0l1X0 w)) (fun w=>K .ret (encSt f990v0l1X1 w)) (fun w=>K (.exit 0) (encSt f990v0l1X2 w)) (fun w=>K (.exit 0) (encSt f990v0l1X3 w)) v)
theorem f990v0l1E (k:Nat)(R:Type)(rec:f990v0l1H.Den->Option R)(K:X->St->Option R)(v:f990v0l1H.Den):evS tab (f990v0T k).t Tryz.f90.ntmps [] (bodyOf f990v0l1C) 24 (step2K f990v0l1H f990v0l1N f990v0l1M (f990v0l0S k) rec K) (encSt f990v0l1H v)=f990v0l1s k rec (fun w=>K .ret (encSt f990v0l1X0 w)) (fun w=>K .ret (encSt f990v0l1X1 w)) (fun w=>K (.exit 0) (encSt f990v0l1X2 w)) (fun w=>K (.exit 0) (encSt f990v0l1X3 w)) v:=by kernel_rfl
theorem f990v0l1I (k:Nat):SumsOk P Tryz.f90.ntmps [] (bodyOf f990v0l1C) 24:=SumsOk.nil
theorem f990v0l1Rd (k:Nat):SumRd P Tryz.f90.ntmps (bodyOf f990v0l1C) (f990v0l1S k) (k+(k)):=loop2_rd tm.1 (f990v0T k).ok tm.2 (f990v0l1I k) ((show bodyOf f990v0l0C=bodyOf f990v0l1C by kernel_rfl) ▸ f990v0l0Rd k) (f990v0l1E k)
theorem f990v0l1O (k:Nat):SumO P Tryz.f90 12 (f990v0l1S k):=(show SumOk P Tryz.f90.ntmps f990v0l1C (f990v0l1S k) from (show f990v0l1C=.loop (bodyOf f990v0l1C) by kernel_rfl) ▸ (f990v0l1Rd k).ok)
noncomputable def f990v0p2 {R:Type}(k:Nat)(k0:D152->Option R)(k1:D152->Option R)(k2:D153->Option R)(k3:D153->Option R)(v:D153):Option R :=
 f990v0l1 k
  (fun (w13:D152) =>
   k0 (w13.1,w13.2.1,w13.2.2.1,w13.2.2.2.1,w13.2.2.2.2.1,w13.2.2.2.2.2.1,w13.2.2.2.2.2.2.1,w13.2.2.2.2.2.2.2.1,()))
  (fun (w14:D152) =>
   k1 (w14.1,w14.2.1,w14.2.2.1,w14.2.2.2.1,w14.2.2.2.2.1,w14.2.2.2.2.2.1,w14.2.2.2.2.2.2.1,w14.2.2.2.2.2.2.2.1,()))
  (fun (w15:D153) =>
   k2 (w15.1,w15.2.1,w15.2.2.1,w15.2.2.2.1,w15.2.2.2.2.1,w15.2.2.2.2.2.1,()))
  (fun (w16:D153) =>
   k3 (w16.1,w16.2.1,w16.2.2.1,w16.2.2.2.1,w16.2.2.2.2.1,w16.2.2.2.2.2.1,()))
  (v.1,v.2.1,v.2.2.1,v.2.2.2.1,v.2.2.2.2.1,v.2.2.2.2.2.1,())
noncomputable def f990v0p2S (k:Nat):=partSum ⟨[(0,.one (.ptr 0 0)),(1,.one (.fn 118 [1])),(2,.one (.fn 119 [2]))],[(0,.var 215 [.str,.int .i64]),(1,.var 25 [.str,.ro (.pair .str Y5),.ro (.pair (.int .i64) Y1)]),(2,.var 69 [.own 3]),(3,.row 119 Y7 .plain)],4,[some 0,some 1,some 2,some 3]⟩ ⟨[0,1,2],[],[]⟩ fun R K v=>f990v0p2 k (fun w=>K .ret (encSt ⟨[(6,.one (.int .i64)),(7,.one (.int .i64))],[(0,.var 215 [.str,.int .i64]),(1,.var 25 [.str,.ro (.pair .str Y5),.ro (.pair (.int .i64) Y1)]),(2,.var 69 [.own 3]),(3,.row 119 Y7 .plain)],4,[some 0,some 1,some 2,some 3]⟩ w)) (fun w=>K .ret (encSt ⟨[(6,.one (.int .i64)),(7,.one (.int .i64))],[(0,.var 215 [.str,.int .i64]),(1,.var 25 [.str,.ro (.pair .str Y5),.ro (.pair (.int .i64) Y1)]),(2,.var 69 [.own 3]),(3,.row 119 Y7 .plain)],4,[some 0,some 1,some 2,none]⟩ w)) (fun w=>K .normal (encSt ⟨[],[(0,.var 215 [.str,.int .i64]),(1,.var 25 [.str,.ro (.pair .str Y5),.ro (.pair (.int .i64) Y1)]),(2,.var 69 [.own 3]),(3,.row 119 Y7 .plain)],4,[some 0,some 1,some 2,none]⟩ w)) (fun w=>K .normal (encSt ⟨[],[(0,.var 215 [.str,.int .i64]),(1,.var 25 [.str,.ro (.pair .str Y5),.ro (.pair (.int .i64) Y1)]),(2,.var 69 [.own 3]),(3,.row 119 Y7 .plain)],4,[some 0,some 1,some 2,some 3]⟩ w)) v
theorem f990v0p2O (k:Nat):SumO P Tryz.f90 6 (f990v0p2S k):=pt tm (f990v0T k) ⟨[6,7],[],[]⟩ (SumsOk.nil |>.s (f990v0l1O k) (by kernel_rfl)) fun _ _ _=>by kernel_rfl
noncomputable def f990v0F (k:Nat)(x:D153):Option (D152) :=
 f990v0p2 k
  (fun (w17:D152) =>
   some (w17.1,w17.2.1,w17.2.2.1,w17.2.2.2.1,w17.2.2.2.2.1,w17.2.2.2.2.2.1,w17.2.2.2.2.2.2.1,w17.2.2.2.2.2.2.2.1,()))
  (fun (w18:D152) =>
   some (w18.1,w18.2.1,w18.2.2.1,w18.2.2.2.1,w18.2.2.2.2.1,w18.2.2.2.2.2.1,w18.2.2.2.2.2.2.1,w18.2.2.2.2.2.2.2.1,()))
  (fun (w19:D153) =>
   some ((0:Int),(0:Int),w19.1,w19.2.1,w19.2.2.1,w19.2.2.2.1,w19.2.2.2.2.1,w19.2.2.2.2.2.1,()))
  (fun (w20:D153) =>
   some ((0:Int),(0:Int),w20.1,w20.2.1,w20.2.2.1,w20.2.2.2.1,w20.2.2.2.2.1,w20.2.2.2.2.2.1,()))
  (x.1,x.2.1,x.2.2.1,x.2.2.2.1,x.2.2.2.2.1,x.2.2.2.2.2.1,())
theorem f990v0Ok (k:Nat):GnV P 90 f990v0I f990v0U (f990v0F k) :=
 gs tm (f990v0T k) Tryz.func90 (by kernel_rfl) (SumsOk.nil |>.s (f990v0p2O k) (by kernel_rfl) |>.s (f990v0l1O k) (by kernel_rfl)) [.dat .bool,.dat .bool] [3] none fun _=>by kernel_rfl
noncomputable def f948T (k:Nat):TB P:=TB.nil |>.g (f990v0Ok k) |>.u (f989V k) |>.g2 (f986v0Ok k) |>.u (f972Ok k) |>.u (f967Ok k)
noncomputable def f948F (k:Nat)(x:D154):Option (D155) :=
 Option.bind (f967F k (x.1.1,(x.1.2.1,x.1.2.2))) fun y1 =>
 bif (y1 !=(0:Int)) then
  some ([],[],(0:Int),y1)
 else
 Option.bind (f972F k ((x.1.1,(x.1.2.1,x.1.2.2)),x.2.1)) fun y2 =>
 bif (y2 !=(0:Int)) then
  some ([],[],(0:Int),y2)
 else
 altB (f986v0F k (x.1.1,x.1.2.1,x.1.2.2,x.2.2,())) (fun y3 =>
  bif (y3.2.1 !=(0:Int)) then
   some ([],[],y3.1,y3.2.1)
  else
  Option.bind (f989F k x.2.1) fun y4 =>
  none) fun y5 =>
 bif (y5.2.1 !=(0:Int)) then
  some ([],[],y5.1,y5.2.1)
 else
 Option.bind (f989F k x.2.1) fun y6 =>
 Option.bind (f990v0F k (y5.2.2.1,y5.2.2.2.1,x.1.1,x.1.2.1,x.1.2.2,y6,())) fun y7 =>
 bif (y7.2.1 !=(0:Int)) then
  some ([],[],y7.1,y7.2.1)
 else
 some (y7.2.2.2.2.2.2.2.1,y5.2.2.2.2.1,(0:Int),(0:Int))
theorem f948Ok (k:Nat):FnV P 48 [.agg (.pair .str Y6),.dat (.slice Y7),.dat .str] [.own 119 Y7,.own 3 (.int .i64),.dat (.int .i64),.dat (.int .i64)] (f948F k) :=
 fs tm (f948T k) Tryz.func48 (by kernel_rfl) SumsOk.nil none fun _=>by kernel_rfl
noncomputable def f965F (k:Nat)(x:Unit):Option ((ByteArray×D45)) :=
 let t1:=[((⟨#[78,65,77]⟩:ByteArray),((2:Int),((5:Int),(((0:Int),((3:Int),(0:Int))),((3:Int),(ByteArray.empty,((0:Int),[])))))))]
 some ((⟨#[70]⟩:ByteArray),(t1,[]))
theorem f965Ok (k:Nat):FnV P 65 [] [.agg (.pair .str Y6)] (f965F k) :=
 fs tm TB.nil Tryz.func65 (by kernel_rfl) SumsOk.nil none fun _=>by kernel_rfl
noncomputable def f950l0s {R:Type}(k:Nat)(rec:D156->Option R)(k0:Bool×Unit->Option R)(k1:Unit->Option R)(v:D156):Option R :=
 bif (decide (v.2.2.1<(v.1.length:Int))) then
  bif ((decide ((0:Int)<=v.2.2.1))&&(decide (v.2.2.1<(v.1.length:Int)))) then
  bif ((decide ((0:Int)<=v.2.2.1))&&(decide (v.2.2.1<(v.2.1.length:Int)))) then
  let t1:=(!(((v.1.getD (Int.toNat v.2.2.1) ((0:Int),ByteArray.empty)).1==(v.2.1.getD (Int.toNat v.2.2.1) ((0:Int),ByteArray.empty)).1)&&((strEq (v.1.getD (Int.toNat v.2.2.1) ((0:Int),ByteArray.empty)).2 (v.2.1.getD (Int.toNat v.2.2.1) ((0:Int),ByteArray.empty)).2)&&true)))
  bif t1 then
   k0 (false,())
  else
  rec (v.1,v.2.1,(IntKind.i64.wrap (v.2.2.1+(1:Int))),())
  else none
  else none
 else
 k1 (())
noncomputable def f950l0 {R:Type}(k:Nat)(k0:Bool×Unit->Option R)(k1:Unit->Option R)(v:D156):Option R:=iterS (fun rec v=>f950l0s k rec k0 k1 v) k v
noncomputable def f950l0S (k:Nat):=loopSum ⟨[(0,.one (.ro Y7)),(1,.one (.ro Y7)),(5,.one (.int .i64))],[],0,[]⟩ ⟨[0,1,5],[],[]⟩ k fun R rec K v=>f950l0s k rec (fun w=>K .ret (encSt ⟨[(4,.one (.bool))],[],0,[]⟩ w)) (fun w=>K (.exit 0) (encSt ⟨[],[],0,[]⟩ w)) v
theorem f950l0O (k:Nat):SumO P Tryz.f50 58 (f950l0S k):=lp tm TB.nil ⟨[4],[],[]⟩ SumsOk.nil (by kernel_rfl) fun _ _ _ _=>by kernel_rfl
noncomputable def f950F (k:Nat)(x:D157):Option (Bool) :=
 bif ((x.1.length:Int) !=(x.2.length:Int)) then
  some false
 else
 f950l0 k
  (fun (w2:Bool×Unit) =>
   some w2.1)
  (fun (w3:Unit) =>
   some true)
  (x.1,x.2,(0:Int),())
theorem f950Ok (k:Nat):FnV P 50 [.dat (.slice Y7),.dat (.slice Y7)] [.dat .bool] (f950F k) :=
 fs tm TB.nil Tryz.func50 (by kernel_rfl) (SumsOk.nil |>.s (f950l0O k) (by kernel_rfl)) none fun _=>by kernel_rfl
noncomputable def f915T (k:Nat):TB P:=TB.nil |>.p (f965Ok k) |>.p (f955Ok k) |>.u (f950Ok k) |>.u (f948Ok k) |>.u (f946Ok k) |>.p (f944Ok k) |>.p (f940Ok k) |>.u (f936Ok k)
noncomputable def f915F (k:Nat)(x:Unit):Option (Bool) :=
 Option.bind (f965F k ()) fun y1 =>
 Option.bind (f936F k ((y1.1,(y1.2.1,y1.2.2)),[((0:Int),(⟨#[65,66,32]⟩:ByteArray))],[])) fun y2 =>
 Option.bind (f955F k ()) fun y3 =>
 Option.bind (f940F k ((y3.1,(y3.2.1,y3.2.2)),y2.1)) fun y4 =>
 Option.bind (f944F k ((y4.1.1,(y4.1.2.1,y4.1.2.2)),(⟨#[88]⟩:ByteArray))) fun y5 =>
 Option.bind (f946F k ((y5.1.1,(y5.1.2.1,y5.1.2.2)),(241:Int),false)) fun y6 =>
 Option.bind (f965F k ()) fun y7 =>
 Option.bind (f948F k ((y7.1,(y7.2.1,y7.2.2)),[((0:Int),(⟨#[65,66,32]⟩:ByteArray))],y6.1)) fun y8 =>
 bif (y2.2 !=(0:Int)) then
  some false
 else
 bif (y4.2.2 !=(0:Int)) then
  some false
 else
 bif (y5.2.2 !=(0:Int)) then
  some false
 else
 bif (y6.2 !=(0:Int)) then
  some false
 else
 bif (y8.2.2.2 !=(0:Int)) then
  some false
 else
 let t9:=(strEq y2.1 (⟨#[17,2,4,29,64,32,3,65,66,32,19,2,5]⟩:ByteArray))
 bif t9 then
  bif (y4.2.1==(y2.1.size:Int)) then
   bif (y5.2.1==(1:Int)) then
    bif (y8.2.2.1==(0:Int)) then
     bif (strEq y6.1 (⟨#[2,6,241,17,2,5,88,66]⟩:ByteArray)) then
      Option.bind (f950F k (y8.1,[((0:Int),(⟨#[88,66,32]⟩:ByteArray))])) fun y10 =>
      bif y10 then
       some ((y8.2.1.length:Int)==(0:Int))
      else
      some false
     else
     some false
    else
    some false
   else
   some false
  else
  some false
 else
 some false
theorem f915Ok (k:Nat):FnV P 15 [] [.dat .bool] (f915F k) :=
 fs tm (f915T k) Tryz.func15 (by kernel_rfl) SumsOk.nil none fun _=>by kernel_rfl
end Go.Proofs.YteadgfclfopccaaGreatDoor
