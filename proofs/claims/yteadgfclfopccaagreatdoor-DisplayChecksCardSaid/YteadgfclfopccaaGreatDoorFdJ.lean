import Derived.Test.YteadgfclfopccaaGreatDoorFcJ
import Derived.Test.YteadgfclfopccaaGreatDoorProg
set_option linter.unusedVariables false
set_option maxRecDepth 100000
namespace Go.Proofs.YteadgfclfopccaaGreatDoor
open Go.Ab
noncomputable def f916l0s {R:Type}(k:Nat)(rec:D148->Option R)(k0:Bool×Unit->Option R)(k1:Unit->Option R)(v:D148):Option R :=
 bif (decide (v.1<(v.2.2.1.length:Int))) then
  bif ((decide ((0:Int)<=v.1))&&(decide (v.1<(v.2.2.1.length:Int)))) then
  let t1:=(v.2.2.1.getD (Int.toNat v.1) (ByteArray.empty,((0:Int),((0:Int),(((0:Int),((0:Int),(0:Int))),((0:Int),(ByteArray.empty,((0:Int),[]))))))))
  bif (decide ((t1.2.2.2.2.2.2.2.length:Int) > (4:Int))) then
   k0 (false,())
  else
  bif ((decide ((0:Int)<=v.1))&&(decide (v.1<(v.2.2.1.length:Int)))) then
  let t2:=(v.2.2.1.getD (Int.toNat v.1) (ByteArray.empty,((0:Int),((0:Int),(((0:Int),((0:Int),(0:Int))),((0:Int),(ByteArray.empty,((0:Int),[]))))))))
  bif (decide ((t2.2.2.2.2.2.1.size:Int) > (100:Int))) then
   k0 (false,())
  else
  rec ((IntKind.i64.wrap (v.1+(1:Int))),v.2.1,v.2.2.1,v.2.2.2.1,())
  else none
  else none
 else
 k1 (())
noncomputable def f916l0 {R:Type}(k:Nat)(k0:Bool×Unit->Option R)(k1:Unit->Option R)(v:D148):Option R:=iterS (fun rec v=>f916l0s k rec k0 k1 v) k v
noncomputable def f916l0S (k:Nat):=loopSum ⟨[(1,.one (.ptr 0 0)),(3,.one (.int .i64))],[(0,.var 25 [.str,.ro (.pair .str Y5),.ro (.pair (.int .i64) Y1)])],1,[]⟩ ⟨[1,3],[],[]⟩ k fun R rec K v=>f916l0s k rec (fun w=>K .ret (encSt ⟨[(2,.one (.bool))],[],0,[]⟩ w)) (fun w=>K (.exit 0) (encSt ⟨[],[],0,[]⟩ w)) v
theorem f916l0O (k:Nat):SumO P Tryz.f16 58 (f916l0S k):=lp tm TB.nil ⟨[2],[],[]⟩ SumsOk.nil (by kernel_rfl) fun _ _ _ _=>by kernel_rfl
noncomputable def f916F (k:Nat)(x:(ByteArray×D45)):Option (Bool) :=
 bif (decide ((x.2.1.length:Int) > (31:Int))) then
  some false
 else
 bif (decide ((x.2.2.length:Int) > (11:Int))) then
  some false
 else
 f916l0 k
  (fun (w3:Bool×Unit) =>
   some w3.1)
  (fun (w4:Unit) =>
   some true)
  ((0:Int),x.1,x.2.1,x.2.2,())
theorem f916Ok (k:Nat):FnV P 16 [.agg (.pair .str Y6)] [.dat .bool] (f916F k) :=
 fs tm TB.nil Tryz.func16 (by kernel_rfl) (SumsOk.nil |>.s (f916l0O k) (by kernel_rfl)) none fun _=>by kernel_rfl
noncomputable def f919l0H:Shape:=⟨[(1,.one (.ptr 0 0)),(2,.one (.ptr 1 0)),(3,.one (.ptr 2 0)),(4,.one (.int .i64))],[(0,.var 25 [.str,.ro (.pair .str Y5),.ro (.pair (.int .i64) Y1)]),(1,.var 25 [.str,.emp,.emp]),(2,.var 25 [.str,.own 3,.own 4]),(3,.row 124 (.pair .str Y5) .plain),(4,.row 169 (.pair (.int .i64) Y1) .plain)],5,[]⟩
noncomputable def f919l0X0:Shape:=⟨[(2,.one (.ptr 0 0)),(3,.one (.ptr 1 0))],[(0,.var 25 [.str,.emp,.emp]),(1,.var 25 [.str,.own 2,.own 3]),(2,.row 124 (.pair .str Y5) .plain),(3,.row 169 (.pair (.int .i64) Y1) .plain)],4,[]⟩
noncomputable def f919l0N:NoteR:=⟨[1,2,3,4],[],[]⟩
noncomputable def f919l0M:NoteR:=⟨[2,3],[],[]⟩
noncomputable def f919l0C:Code:=firstC (codesAt 58 (codeOf Tryz.f19) 1)
noncomputable def f919l0s {R:Type}(k:Nat)(rec:D160->Option R)(k0:D158->Option R)(v:D160):Option R :=
 bif (decide (v.1<(v.2.2.1.length:Int))) then
  bif ((decide ((0:Int)<=v.1))&&(decide (v.1<(v.2.2.1.length:Int)))) then
  let t3:=(v.2.2.1.getD (Int.toNat v.1) (ByteArray.empty,((0:Int),((0:Int),(((0:Int),((0:Int),(0:Int))),((0:Int),(ByteArray.empty,((0:Int),[]))))))))
  bif (decide ((([]:List (Int×Bool)).length+t3.2.2.2.2.2.2.2.length)*16<=140737488355328)&&decide (([]:List (Int×Bool)).length+t3.2.2.2.2.2.2.2.length<=9223372036854775807)) then
  let t4:=[(t3.1,(t3.2.1,(t3.2.2.1,((t3.2.2.2.1.1,(t3.2.2.2.1.2.1,t3.2.2.2.1.2.2)),(t3.2.2.2.2.1,(t3.2.2.2.2.2.1,(t3.2.2.2.2.2.2.1,([]++t3.2.2.2.2.2.2.2))))))))]
  bif (decide ((v.2.2.2.2.2.2.1.length+t4.length)*112<=140737488355328)&&decide (v.2.2.2.2.2.2.1.length+t4.length<=9223372036854775807)) then
  rec ((IntKind.i64.wrap (v.1+(1:Int))),v.2.1,v.2.2.1,v.2.2.2.1,v.2.2.2.2.1,v.2.2.2.2.2.1,(v.2.2.2.2.2.2.1++t4),v.2.2.2.2.2.2.2.1,())
  else none
  else none
  else none
 else
 k0 (v.2.2.2.2.1,v.2.2.2.2.2.1,v.2.2.2.2.2.2.1,v.2.2.2.2.2.2.2.1,())
noncomputable def f919l0 {R:Type}(k:Nat)(k0:D158->Option R)(v:D160):Option R:=iterS (fun rec v=>f919l0s k rec k0 v) k v
noncomputable def f919l0S (k:Nat):Sum1:=loopSum f919l0H f919l0N k (fun R rec K v=>f919l0s k rec (fun w=>K (.exit 0) (encSt f919l0X0 w)) v)
theorem f919l0E (k:Nat)(R:Type)(rec:St->Option R)(K:X->St->Option R)(v:f919l0H.Den):evS tab (TB.nil (P:=P)).t Tryz.f19.ntmps [] (bodyOf f919l0C) 116 (bodyK f919l0N f919l0M rec K) (encSt f919l0H v)=f919l0s k (fun v=>rec (encSt f919l0H v)) (fun w=>K (.exit 0) (encSt f919l0X0 w)) v:=by kernel_rfl
theorem f919l0I (k:Nat):SumsOk P Tryz.f19.ntmps [] (bodyOf f919l0C) 116:=SumsOk.nil
noncomputable def f919l1H:Shape:=⟨[(1,.one (.ptr 0 0)),(2,.one (.ptr 1 0)),(3,.one (.ptr 2 0)),(4,.one (.int .i64))],[(0,.var 25 [.str,.ro (.pair .str Y5),.ro (.pair (.int .i64) Y1)]),(1,.var 25 [.str,.emp,.emp]),(2,.var 25 [.str,.emp,.own 3]),(3,.row 169 (.pair (.int .i64) Y1) .plain)],4,[]⟩
noncomputable def f919l1X0:Shape:=⟨[(2,.one (.ptr 0 0)),(3,.one (.ptr 1 0))],[(0,.var 25 [.str,.emp,.emp]),(1,.var 25 [.str,.own 2,.own 3]),(2,.row 124 (.pair .str Y5) .plain),(3,.row 169 (.pair (.int .i64) Y1) .plain)],4,[]⟩
noncomputable def f919l1X1:Shape:=⟨[(2,.one (.ptr 0 0)),(3,.one (.ptr 1 0))],[(0,.var 25 [.str,.emp,.emp]),(1,.var 25 [.str,.emp,.own 2]),(2,.row 169 (.pair (.int .i64) Y1) .plain)],3,[]⟩
noncomputable def f919l1N:NoteR:=⟨[1,2,3,4],[],[]⟩
noncomputable def f919l1M:NoteR:=⟨[2,3],[],[]⟩
noncomputable def f919l1C:Code:=firstC (codesAt 58 (codeOf Tryz.f19) 1)
noncomputable def f919l1s {R:Type}(k:Nat)(rec:D161->Option R)(k0:D158->Option R)(k1:D159->Option R)(v:D161):Option R :=
 bif (decide (v.1<(v.2.2.1.length:Int))) then
  bif ((decide ((0:Int)<=v.1))&&(decide (v.1<(v.2.2.1.length:Int)))) then
  let t1:=(v.2.2.1.getD (Int.toNat v.1) (ByteArray.empty,((0:Int),((0:Int),(((0:Int),((0:Int),(0:Int))),((0:Int),(ByteArray.empty,((0:Int),[]))))))))
  bif (decide ((([]:List (Int×Bool)).length+t1.2.2.2.2.2.2.2.length)*16<=140737488355328)&&decide (([]:List (Int×Bool)).length+t1.2.2.2.2.2.2.2.length<=9223372036854775807)) then
  let t2:=[(t1.1,(t1.2.1,(t1.2.2.1,((t1.2.2.2.1.1,(t1.2.2.2.1.2.1,t1.2.2.2.1.2.2)),(t1.2.2.2.2.1,(t1.2.2.2.2.2.1,(t1.2.2.2.2.2.2.1,([]++t1.2.2.2.2.2.2.2))))))))]
  bif (decide ((([]:List D11).length+t2.length)*112<=140737488355328)&&decide (([]:List D11).length+t2.length<=9223372036854775807)) then
  f919l0 k
   (fun (w5:D158) =>
    k0 (w5.1,w5.2.1,w5.2.2.1,w5.2.2.2.1,()))
   ((IntKind.i64.wrap (v.1+(1:Int))),v.2.1,v.2.2.1,v.2.2.2.1,v.2.2.2.2.1,v.2.2.2.2.2.1,([]++t2),v.2.2.2.2.2.2.1,())
  else none
  else none
  else none
 else
 k1 (v.2.2.2.2.1,v.2.2.2.2.2.1,v.2.2.2.2.2.2.1,())
noncomputable def f919l1 {R:Type}(k:Nat)(k0:D158->Option R)(k1:D159->Option R)(v:D161):Option R:=iterS (fun rec v=>f919l1s k rec k0 k1 v) k v
theorem f919l0Rd (k:Nat):SumRd P Tryz.f19.ntmps (bodyOf f919l0C) (f919l0S k) k:=loop_rd tm.1 (TB.nil (P:=P)).ok tm.2 (f919l0I k) (f919l0E k)
noncomputable def f919l1S (k:Nat):Sum1:=loop2Sum f919l1H f919l1N (f919l0S k) k (fun R rec K v=>f919l1s k rec (fun w=>K (.exit 0) (encSt f919l1X0 w)) (fun w=>K (.exit 0) (encSt f919l1X1 w)) v)
theorem f919l1E (k:Nat)(R:Type)(rec:f919l1H.Den->Option R)(K:X->St->Option R)(v:f919l1H.Den):evS tab (TB.nil (P:=P)).t Tryz.f19.ntmps [] (bodyOf f919l1C) 116 (step2K f919l1H f919l1N f919l1M (f919l0S k) rec K) (encSt f919l1H v)=f919l1s k rec (fun w=>K (.exit 0) (encSt f919l1X0 w)) (fun w=>K (.exit 0) (encSt f919l1X1 w)) v:=by kernel_rfl
theorem f919l1I (k:Nat):SumsOk P Tryz.f19.ntmps [] (bodyOf f919l1C) 116:=SumsOk.nil
theorem f919l1Rd (k:Nat):SumRd P Tryz.f19.ntmps (bodyOf f919l1C) (f919l1S k) (k+(k)):=loop2_rd tm.1 (TB.nil (P:=P)).ok tm.2 (f919l1I k) ((show bodyOf f919l0C=bodyOf f919l1C by kernel_rfl) ▸ f919l0Rd k) (f919l1E k)
theorem f919l1O (k:Nat):SumO P Tryz.f19 58 (f919l1S k):=(show SumOk P Tryz.f19.ntmps f919l1C (f919l1S k) from (show f919l1C=.loop (bodyOf f919l1C) by kernel_rfl) ▸ (f919l1Rd k).ok)
noncomputable def f919p2 {R:Type}(k:Nat)(k0:D158->Option R)(k1:D159->Option R)(v:D162):Option R :=
 f919l1 k
  (fun (w6:D158) =>
   k0 (w6.1,w6.2.1,w6.2.2.1,w6.2.2.2.1,()))
  (fun (w7:D159) =>
   k1 (w7.1,w7.2.1,w7.2.2.1,()))
  ((0:Int),v.1,v.2.1,v.2.2.1,v.2.2.2.1,v.2.2.2.2.1,v.2.2.2.2.2.1,())
noncomputable def f919p2S (k:Nat):=partSum ⟨[(1,.one (.ptr 0 0)),(2,.one (.ptr 1 0)),(3,.one (.ptr 2 0))],[(0,.var 25 [.str,.ro (.pair .str Y5),.ro (.pair (.int .i64) Y1)]),(1,.var 25 [.str,.emp,.emp]),(2,.var 25 [.str,.emp,.own 3]),(3,.row 169 (.pair (.int .i64) Y1) .plain)],4,[]⟩ ⟨[1,2,3],[],[]⟩ fun R K v=>f919p2 k (fun w=>K .normal (encSt ⟨[(2,.one (.ptr 0 0)),(3,.one (.ptr 1 0))],[(0,.var 25 [.str,.emp,.emp]),(1,.var 25 [.str,.own 2,.own 3]),(2,.row 124 (.pair .str Y5) .plain),(3,.row 169 (.pair (.int .i64) Y1) .plain)],4,[]⟩ w)) (fun w=>K .normal (encSt ⟨[(2,.one (.ptr 0 0)),(3,.one (.ptr 1 0))],[(0,.var 25 [.str,.emp,.emp]),(1,.var 25 [.str,.emp,.own 2]),(2,.row 169 (.pair (.int .i64) Y1) .plain)],3,[]⟩ w)) v
theorem f919p2O (k:Nat):SumO P Tryz.f19 14 (f919p2S k):=pt tm TB.nil ⟨[2,3],[],[]⟩ (SumsOk.nil |>.s (f919l1O k) (by kernel_rfl)) fun _ _ _=>by kernel_rfl
noncomputable def f919F (k:Nat)(x:(ByteArray×D45)):Option ((ByteArray×D45)) :=
 bif (decide ((([]:List (Int×(Int×Bool))).length+x.2.2.length)*24<=140737488355328)&&decide (([]:List (Int×(Int×Bool))).length+x.2.2.length<=9223372036854775807)) then
 f919p2 k
  (fun (w8:D158) =>
   some (w8.2.1,(w8.2.2.1,w8.2.2.2.1)))
  (fun (w9:D159) =>
   some (w9.2.1,([],w9.2.2.1)))
  (x.1,x.2.1,x.2.2,ByteArray.empty,x.1,([]++x.2.2),())
 else none
theorem f919Ok (k:Nat):FnV P 19 [.agg (.pair .str Y6)] [.agg (.pair .str Y6)] (f919F k) :=
 fs tm TB.nil Tryz.func19 (by kernel_rfl) (SumsOk.nil |>.s (f919p2O k) (by kernel_rfl) |>.s (f919l1O k) (by kernel_rfl)) none fun _=>by kernel_rfl
noncomputable def f48F (k:Nat)(x:Int×Int×Int):Option (Bool) :=
 bif (decide (x.2.1<=x.1)) then
  some (decide (x.1<=x.2.2))
 else
 some false
theorem f48Ok (k:Nat):FnV P 76 [.dat (.int .i64),.dat (.int .i64),.dat (.int .i64)] [.dat .bool] (f48F k) :=
 fs tm TB.nil Tryz.func76 (by kernel_rfl) SumsOk.nil none fun _=>by kernel_rfl
noncomputable def f1059F (k:Nat)(x:Int):Option (Bool) :=
 bif (decide ((65:Int)<=x)) then
  some (decide (x<=(90:Int)))
 else
 some false
theorem f1059Ok (k:Nat):FnV P 159 [.dat (.int .u8)] [.dat .bool] (f1059F k) :=
 fs tm TB.nil Tryz.func159 (by kernel_rfl) SumsOk.nil none fun _=>by kernel_rfl
noncomputable def f225F (k:Nat)(x:Int):Option (Bool) :=
 bif (decide ((48:Int)<=x)) then
  some (decide (x<=(57:Int)))
 else
 some false
theorem f225Ok (k:Nat):FnV P 160 [.dat (.int .u8)] [.dat .bool] (f225F k) :=
 fs tm TB.nil Tryz.func160 (by kernel_rfl) SumsOk.nil none fun _=>by kernel_rfl
noncomputable def f1003T (k:Nat):TB P:=TB.nil |>.u (f225Ok k) |>.u (f1059Ok k) |>.u (f48Ok k)
noncomputable def f1003p0 {R:Type}(k:Nat)(k0:ByteArray×Int×Unit->Option R)(k1:D163->Option R)(v:ByteArray×Int×Unit):Option R :=
 bif ((decide ((0:Int)<=v.2.1))&&(decide (v.2.1<(v.1.size:Int)))) then
 Option.bind (f1059F k (bt v.1 v.2.1)) fun y2 =>
 bif y2 then
  k0 (v.1,v.2.1,())
 else
 bif ((bt v.1 v.2.1)==(36:Int)) then
  k0 (v.1,v.2.1,())
 else
 bif ((bt v.1 v.2.1)==(35:Int)) then
  k0 (v.1,v.2.1,())
 else
 bif (!((bt v.1 v.2.1)==(64:Int))) then
  bif (v.2.1==(0:Int)) then
   k1 (v.1,false,v.2.1,())
  else
  Option.bind (f225F k (bt v.1 v.2.1)) fun y3 =>
  bif (!y3) then
   bif ((bt v.1 v.2.1) !=(95:Int)) then
    bif ((bt v.1 v.2.1) !=(46:Int)) then
     k1 (v.1,false,v.2.1,())
    else
    k0 (v.1,v.2.1,())
   else
   k0 (v.1,v.2.1,())
  else
  k0 (v.1,v.2.1,())
 else
 k0 (v.1,v.2.1,())
 else none
noncomputable def f1003p0S (k:Nat):=partSum ⟨[(0,.one (.str)),(3,.one (.int .i64))],[],0,[]⟩ ⟨[0,3],[],[]⟩ fun R K v=>f1003p0 k (fun w=>K .normal (encSt ⟨[(0,.one (.str)),(3,.one (.int .i64))],[],0,[]⟩ w)) (fun w=>K .ret (encSt ⟨[(0,.one (.str)),(2,.one (.bool)),(3,.one (.int .i64))],[],0,[]⟩ w)) v
theorem f1003p0O (k:Nat):SumO P Tryz.f103 466 (f1003p0S k):=pt tm (f1003T k) ⟨[0,2,3],[],[]⟩ SumsOk.nil fun _ _ _=>by kernel_rfl
noncomputable def f1003l1s {R:Type}(k:Nat)(rec:ByteArray×Int×Unit->Option R)(k0:Bool×Unit->Option R)(k1:Unit->Option R)(v:ByteArray×Int×Unit):Option R :=
 bif (decide (v.2.1<(v.1.size:Int))) then
  f1003p0 k
   (fun (w4:ByteArray×Int×Unit) =>
    rec (w4.1,(IntKind.i64.wrap (w4.2.1+(1:Int))),()))
   (fun (w5:D163) =>
    k0 (w5.2.1,()))
   (v.1,v.2.1,())
 else
 k1 (())
noncomputable def f1003l1 {R:Type}(k:Nat)(k0:Bool×Unit->Option R)(k1:Unit->Option R)(v:ByteArray×Int×Unit):Option R:=iterS (fun rec v=>f1003l1s k rec k0 k1 v) k v
noncomputable def f1003l1S (k:Nat):=loopSum ⟨[(0,.one (.str)),(3,.one (.int .i64))],[],0,[]⟩ ⟨[0,3],[],[]⟩ k fun R rec K v=>f1003l1s k rec (fun w=>K .ret (encSt ⟨[(2,.one (.bool))],[],0,[]⟩ w)) (fun w=>K (.exit 0) (encSt ⟨[],[],0,[]⟩ w)) v
theorem f1003l1O (k:Nat):SumO P Tryz.f103 58 (f1003l1S k):=lp tm (f1003T k) ⟨[2],[],[]⟩ (SumsOk.nil |>.s (f1003p0O k) (by kernel_rfl)) (by kernel_rfl) fun _ _ _ _=>by kernel_rfl
noncomputable def f1003F (k:Nat)(x:ByteArray):Option (Bool) :=
 Option.bind (f48F k ((x.size:Int),(1:Int),(10:Int))) fun y1 =>
 bif (!y1) then
  some false
 else
 f1003l1 k
  (fun (w6:Bool×Unit) =>
   some w6.1)
  (fun (w7:Unit) =>
   some true)
  (x,(0:Int),())
theorem f1003Ok (k:Nat):FnV P 103 [.dat .str] [.dat .bool] (f1003F k) :=
 fs tm (f1003T k) Tryz.func103 (by kernel_rfl) (SumsOk.nil |>.s (f1003l1O k) (by kernel_rfl) |>.s (f1003p0O k) (by kernel_rfl)) none fun _=>by kernel_rfl
noncomputable def f1010l0s {R:Type}(k:Nat)(rec:ByteArray×Int×Unit->Option R)(k0:Bool×Unit->Option R)(k1:Unit->Option R)(v:ByteArray×Int×Unit):Option R :=
 bif (decide (v.2.1<(v.1.size:Int))) then
  bif ((decide ((0:Int)<=v.2.1))&&(decide (v.2.1<(v.1.size:Int)))) then
  bif (decide ((bt v.1 v.2.1)<(32:Int))) then
   k0 (false,())
  else
  bif ((decide ((0:Int)<=v.2.1))&&(decide (v.2.1<(v.1.size:Int)))) then
  bif (decide ((bt v.1 v.2.1) > (126:Int))) then
   k0 (false,())
  else
  rec (v.1,(IntKind.i64.wrap (v.2.1+(1:Int))),())
  else none
  else none
 else
 k1 (())
noncomputable def f1010l0 {R:Type}(k:Nat)(k0:Bool×Unit->Option R)(k1:Unit->Option R)(v:ByteArray×Int×Unit):Option R:=iterS (fun rec v=>f1010l0s k rec k0 k1 v) k v
noncomputable def f1010l0S (k:Nat):=loopSum ⟨[(0,.one (.str)),(3,.one (.int .i64))],[],0,[]⟩ ⟨[0,3],[],[]⟩ k fun R rec K v=>f1010l0s k rec (fun w=>K .ret (encSt ⟨[(2,.one (.bool))],[],0,[]⟩ w)) (fun w=>K (.exit 0) (encSt ⟨[],[],0,[]⟩ w)) v
theorem f1010l0O (k:Nat):SumO P Tryz.f110 26 (f1010l0S k):=lp tm TB.nil ⟨[2],[],[]⟩ SumsOk.nil (by kernel_rfl) fun _ _ _ _=>by kernel_rfl
noncomputable def f1010F (k:Nat)(x:ByteArray):Option (Bool) :=
 f1010l0 k
  (fun (w1:Bool×Unit) =>
   some w1.1)
  (fun (w2:Unit) =>
   some true)
  (x,(0:Int),())
theorem f1010Ok (k:Nat):FnV P 110 [.dat .str] [.dat .bool] (f1010F k) :=
 fs tm TB.nil Tryz.func110 (by kernel_rfl) (SumsOk.nil |>.s (f1010l0O k) (by kernel_rfl)) none fun _=>by kernel_rfl
noncomputable def f68T (k:Nat):TB P:=TB.nil |>.u (f48Ok k)
noncomputable def f68F (k:Nat)(x:Int):Option (Bool) :=
 Option.bind (f48F k (x,(1:Int),(3:Int))) fun y1 =>
 some y1
theorem f68Ok (k:Nat):FnV P 206 [.dat (.int .i64)] [.dat .bool] (f68F k) :=
 fs tm (f68T k) Tryz.func206 (by kernel_rfl) SumsOk.nil none fun _=>by kernel_rfl
noncomputable def f69F (k:Nat)(x:Bool):Option (Int) :=
 bif x then
  some (1:Int)
 else
 some (0:Int)
theorem f69Ok (k:Nat):FnV P 137 [.dat .bool] [.dat (.int .i64)] (f69F k) :=
 fs tm TB.nil Tryz.func137 (by kernel_rfl) SumsOk.nil none fun _=>by kernel_rfl
noncomputable def f27T (k:Nat):TB P:=TB.nil |>.u (f68Ok k) |>.u (f69Ok k) |>.u (f48Ok k)
noncomputable def f27p0 {R:Type}(k:Nat)(k0:D5->Option R)(v:D6):Option R :=
 bif (v.2.1==(1:Int)) then
  k0 (v.1,v.2.1,(v.2.1==(1:Int)),v.2.2.1,v.2.2.2.1,v.2.2.2.2.1,())
 else
 k0 (v.1,v.2.1,(v.2.1==(2:Int)),v.2.2.1,v.2.2.2.1,v.2.2.2.2.1,())
noncomputable def f27p0S (k:Nat):=partSum ⟨[(1,.one (.ptr 0 0)),(3,.one (.bool)),(13,.one (.int .i64))],[(0,.var 121 [.int .i64,.int .i64,.int .i64])],1,[]⟩ ⟨[1,3,13],[],[]⟩ fun R K v=>f27p0 k (fun w=>K .normal (encSt ⟨[(1,.one (.ptr 0 0)),(3,.one (.bool)),(13,.one (.int .i64)),(19,.one (.bool))],[(0,.var 121 [.int .i64,.int .i64,.int .i64])],1,[]⟩ w)) v
theorem f27p0O (k:Nat):SumO P Tryz.f161 982 (f27p0S k):=pt tm (f27T k) ⟨[1,2,3,13,19],[],[]⟩ SumsOk.nil fun _ _ _=>by kernel_rfl
noncomputable def f27p1 {R:Type}(k:Nat)(k0:D7->Option R)(v:D7):Option R :=
 bif (v.2.1==(0:Int)) then
  Option.bind (f48F k (v.2.2.1,(1:Int),(256:Int))) fun y2 =>
  k0 (y2,v.2.1,v.2.2.1,v.2.2.2.1,())
 else
 f27p0 k
  (fun (w3:D5) =>
   bif w3.2.2.1 then
    Option.bind (f48F k (w3.2.2.2.2.1,(1:Int),(15:Int))) fun y4 =>
    k0 (y4,w3.2.2.2.1,w3.2.2.2.2.1,w3.2.2.2.2.2.1,())
   else
   bif (w3.2.1==(3:Int)) then
    bif (w3.2.2.2.2.1==(4:Int)) then
     k0 (true,w3.2.2.2.1,w3.2.2.2.2.1,w3.2.2.2.2.2.1,())
    else
    k0 ((w3.2.2.2.2.1==(9:Int)),w3.2.2.2.1,w3.2.2.2.2.1,w3.2.2.2.2.2.1,())
   else
   k0 (w3.1,w3.2.2.2.1,w3.2.2.2.2.1,w3.2.2.2.2.2.1,()))
  (v.1,v.2.1,v.2.1,v.2.2.1,v.2.2.2.1,())
noncomputable def f27p1S (k:Nat):=partSum ⟨[(1,.one (.ptr 0 0)),(3,.one (.bool))],[(0,.var 121 [.int .i64,.int .i64,.int .i64])],1,[]⟩ ⟨[1,3],[],[]⟩ fun R K v=>f27p1 k (fun w=>K .normal (encSt ⟨[(1,.one (.ptr 0 0)),(3,.one (.bool))],[(0,.var 121 [.int .i64,.int .i64,.int .i64])],1,[]⟩ w)) v
theorem f27p1O (k:Nat):SumO P Tryz.f161 30 (f27p1S k):=pt tm (f27T k) ⟨[1,2,3],[],[]⟩ (SumsOk.nil |>.s (f27p0O k) (by kernel_rfl)) fun _ _ _=>by kernel_rfl
noncomputable def f27p2 {R:Type}(k:Nat)(k0:D121->Option R)(v:D121):Option R :=
 Option.bind (f68F k v.2.1) fun y6 =>
 bif y6 then
  k0 (v.2.2.1,v.2.1,v.2.2.1,v.2.2.2.1,())
 else
 k0 (v.1,v.2.1,v.2.2.1,v.2.2.2.1,())
noncomputable def f27p2S (k:Nat):=partSum ⟨[(1,.one (.ptr 0 0)),(4,.one (.int .i64))],[(0,.var 121 [.int .i64,.int .i64,.int .i64])],1,[]⟩ ⟨[1,4],[],[]⟩ fun R K v=>f27p2 k (fun w=>K .normal (encSt ⟨[(1,.one (.ptr 0 0)),(4,.one (.int .i64))],[(0,.var 121 [.int .i64,.int .i64,.int .i64])],1,[]⟩ w)) v
theorem f27p2O (k:Nat):SumO P Tryz.f161 254 (f27p2S k):=pt tm (f27T k) ⟨[1,2,4],[],[]⟩ SumsOk.nil fun _ _ _=>by kernel_rfl
noncomputable def f27F (k:Nat)(x:(Int×(Int×Int))):Option (Int) :=
 Option.bind (f48F k (x.1,(0:Int),(4:Int))) fun y1 =>
 bif (!y1) then
  some (4:Int)
 else
 f27p1 k
  (fun (w5:D7) =>
   bif (!w5.1) then
    some (18:Int)
   else
   f27p2 k
    (fun (w7:D121) =>
     Option.bind (f48F k (w7.2.2.2.1,(0:Int),w7.1)) fun y8 =>
     Option.bind (f69F k (!y8)) fun y9 =>
     some (IntKind.i64.wrap ((3:Int)*y9)))
    ((0:Int),w5.2.1,w5.2.2.1,w5.2.2.2.1,()))
  ((x.2.1==(0:Int)),x.1,x.2.1,x.2.2,())
theorem f27Ok (k:Nat):FnV P 161 [.agg (.pair (.int .i64) Y0)] [.dat (.int .i64)] (f27F k) :=
 fs tm (f27T k) Tryz.func161 (by kernel_rfl) (SumsOk.nil |>.s (f27p2O k) (by kernel_rfl) |>.s (f27p1O k) (by kernel_rfl) |>.s (f27p0O k) (by kernel_rfl)) none fun _=>by kernel_rfl
noncomputable def f1023T (k:Nat):TB P:=TB.nil |>.u (f69Ok k)
noncomputable def f1023F (k:Nat)(x:D11):Option (Int) :=
 bif (x.2.2.2.2.1==(0:Int)) then
  some (x.2.2.2.2.2.1.size:Int)
 else
 bif (x.2.2.2.1.1==(0:Int)) then
  some x.2.2.2.1.2.1
 else
 Option.bind (f69F k (decide (x.2.2.2.1.2.2 > (0:Int)))) fun y1 =>
 bif (decide (x.2.2.2.1.2.2 > (0:Int))) then
  Option.bind (f69F k (x.2.2.2.1.2.2==x.2.2.2.1.2.1)) fun y2 =>
  let t3:=(IntKind.i64.wrap ((IntKind.i64.wrap ((IntKind.i64.wrap (x.2.2.2.1.2.1+y1))+y2))+(1:Int)))
  some t3
 else
 Option.bind (f69F k false) fun y4 =>
 let t5:=(IntKind.i64.wrap ((IntKind.i64.wrap ((IntKind.i64.wrap (x.2.2.2.1.2.1+y1))+y4))+(1:Int)))
 some t5
theorem f1023Ok (k:Nat):FnV P 123 [.agg (.pair .str Y5)] [.dat (.int .i64)] (f1023F k) :=
 fs tm (f1023T k) Tryz.func123 (by kernel_rfl) SumsOk.nil none fun _=>by kernel_rfl
noncomputable def f1062p0 {R:Type}(k:Nat)(k0:D164->Option R)(k1:D23->Option R)(v:D23):Option R :=
 bif ((decide ((0:Int)<=v.1))&&(decide (v.1<(v.2.2.1.length:Int)))) then
 bif ((decide ((0:Int)<=v.2.1))&&(decide (v.2.1<(v.2.2.1.length:Int)))) then
 let t1:=((v.2.2.1.getD (Int.toNat v.1) ((0:Int),false)).1==(v.2.2.1.getD (Int.toNat v.2.1) ((0:Int),false)).1)
 bif t1 then
  bif ((decide ((0:Int)<=v.1))&&(decide (v.1<(v.2.2.1.length:Int)))) then
  bif ((decide ((0:Int)<=v.2.1))&&(decide (v.2.1<(v.2.2.1.length:Int)))) then
  let t2:=(!((v.2.2.1.getD (Int.toNat v.1) ((0:Int),false)).2==(v.2.2.1.getD (Int.toNat v.2.1) ((0:Int),false)).2))
  bif t2 then
   k0 (false,v.1,v.2.1,v.2.2.1,())
  else
  k1 (v.1,v.2.1,v.2.2.1,())
  else none
  else none
 else
 k1 (v.1,v.2.1,v.2.2.1,())
 else none
 else none
noncomputable def f1062p0S (k:Nat):=partSum ⟨[(5,.one (.own 0)),(6,.one (.int .i64)),(7,.one (.int .i64))],[(0,.row 233 Y1 .plain)],1,[]⟩ ⟨[5,6,7],[],[]⟩ fun R K v=>f1062p0 k (fun w=>K .ret (encSt ⟨[(4,.one (.bool)),(5,.one (.own 0)),(6,.one (.int .i64)),(7,.one (.int .i64))],[(0,.row 233 Y1 .plain)],1,[]⟩ w)) (fun w=>K .normal (encSt ⟨[(5,.one (.own 0)),(6,.one (.int .i64)),(7,.one (.int .i64))],[(0,.row 233 Y1 .plain)],1,[]⟩ w)) v
theorem f1062p0O (k:Nat):SumO P Tryz.f162 29842 (f1062p0S k):=pt tm TB.nil ⟨[4,5,6,7],[],[]⟩ SumsOk.nil fun _ _ _=>by kernel_rfl
noncomputable def f1062l1s {R:Type}(k:Nat)(rec:D23->Option R)(k0:D165->Option R)(k1:D22->Option R)(v:D23):Option R :=
 bif (decide (v.2.1<v.1)) then
  f1062p0 k
   (fun (w3:D164) =>
    k0 (w3.1,w3.2.1,w3.2.2.2.1,()))
   (fun (w4:D23) =>
    rec (w4.1,(IntKind.i64.wrap (w4.2.1+(1:Int))),w4.2.2.1,()))
   (v.1,v.2.1,v.2.2.1,())
 else
 k1 (v.1,v.2.2.1,())
noncomputable def f1062l1 {R:Type}(k:Nat)(k0:D165->Option R)(k1:D22->Option R)(v:D23):Option R:=iterS (fun rec v=>f1062l1s k rec k0 k1 v) k v
noncomputable def f1062l1S (k:Nat):=loopSum ⟨[(5,.one (.own 0)),(6,.one (.int .i64)),(7,.one (.int .i64))],[(0,.row 233 Y1 .plain)],1,[]⟩ ⟨[5,6,7],[],[]⟩ k fun R rec K v=>f1062l1s k rec (fun w=>K .ret (encSt ⟨[(4,.one (.bool)),(5,.one (.own 0)),(6,.one (.int .i64))],[(0,.row 233 Y1 .plain)],1,[]⟩ w)) (fun w=>K (.exit 2) (encSt ⟨[(5,.one (.own 0)),(6,.one (.int .i64))],[(0,.row 233 Y1 .plain)],1,[]⟩ w)) v
theorem f1062l1O (k:Nat):SumO P Tryz.f162 3730 (f1062l1S k):=lp tm TB.nil ⟨[4,5,6],[],[]⟩ (SumsOk.nil |>.s (f1062p0O k) (by kernel_rfl)) (by kernel_rfl) fun _ _ _ _=>by kernel_rfl
noncomputable def f1062l2s {R:Type}(k:Nat)(rec:D22->Option R)(k0:Bool×Unit->Option R)(k1:Unit->Option R)(v:D22):Option R :=
 bif (decide (v.1<(v.2.1.length:Int))) then
  f1062l1 k
   (fun (w5:D165) =>
    k0 (w5.1,()))
   (fun (w6:D22) =>
    rec ((IntKind.i64.wrap (w6.1+(1:Int))),w6.2.1,()))
   (v.1,(0:Int),v.2.1,())
 else
 k1 (())
noncomputable def f1062l2 {R:Type}(k:Nat)(k0:Bool×Unit->Option R)(k1:Unit->Option R)(v:D22):Option R:=iterS (fun rec v=>f1062l2s k rec k0 k1 v) k v
noncomputable def f1062l2S (k:Nat):=loopSum ⟨[(5,.one (.own 0)),(6,.one (.int .i64))],[(0,.row 233 Y1 .plain)],1,[]⟩ ⟨[5,6],[],[]⟩ k fun R rec K v=>f1062l2s k rec (fun w=>K .ret (encSt ⟨[(4,.one (.bool))],[],0,[]⟩ w)) (fun w=>K (.exit 0) (encSt ⟨[],[],0,[]⟩ w)) v
theorem f1062l2O (k:Nat):SumO P Tryz.f162 58 (f1062l2S k):=lp tm TB.nil ⟨[4],[],[]⟩ (SumsOk.nil |>.s (f1062l1O k) (by kernel_rfl) |>.s (f1062p0O k) (by kernel_rfl)) (by kernel_rfl) fun _ _ _ _=>by kernel_rfl
noncomputable def f1062F (k:Nat)(x:D11×D11):Option (Bool) :=
 bif (decide ((([]:List (Int×Bool)).length+x.1.2.2.2.2.2.2.2.length)*16<=140737488355328)&&decide (([]:List (Int×Bool)).length+x.1.2.2.2.2.2.2.2.length<=9223372036854775807)) then
 bif (decide ((([]++x.1.2.2.2.2.2.2.2).length+x.2.2.2.2.2.2.2.2.length)*16<=140737488355328)&&decide (([]++x.1.2.2.2.2.2.2.2).length+x.2.2.2.2.2.2.2.2.length<=9223372036854775807)) then
 f1062l2 k
  (fun (w7:Bool×Unit) =>
   some w7.1)
  (fun (w8:Unit) =>
   some true)
  ((0:Int),(([]++x.1.2.2.2.2.2.2.2)++x.2.2.2.2.2.2.2.2),())
 else none
 else none
theorem f1062Ok (k:Nat):FnV P 162 [.agg (.pair .str Y5),.agg (.pair .str Y5)] [.dat .bool] (f1062F k) :=
 fs tm TB.nil Tryz.func162 (by kernel_rfl) (SumsOk.nil |>.s (f1062l2O k) (by kernel_rfl) |>.s (f1062l1O k) (by kernel_rfl) |>.s (f1062p0O k) (by kernel_rfl)) none fun _=>by kernel_rfl
noncomputable def f1004T (k:Nat):TB P:=TB.nil |>.u (f1062Ok k) |>.u (f27Ok k) |>.u (f1023Ok k) |>.u (f1010Ok k) |>.u (f1003Ok k) |>.u (f48Ok k)
noncomputable def f1004l0s {R:Type}(k:Nat)(rec:D166->Option R)(k0:D166->Option R)(k1:D167->Option R)(v:D166):Option R :=
 bif (decide (v.2.1<v.1)) then
  bif ((decide ((0:Int)<=v.2.1))&&(decide (v.2.1<(v.2.2.2.1.length:Int)))) then
  let t7:=(v.2.2.2.1.getD (Int.toNat v.2.1) (ByteArray.empty,((0:Int),((0:Int),(((0:Int),((0:Int),(0:Int))),((0:Int),(ByteArray.empty,((0:Int),[]))))))))
  bif (strEq t7.1 v.2.2.2.2.2.1) then
   k0 (v.1,(13:Int),v.2.2.1,v.2.2.2.1,v.2.2.2.2.1,v.2.2.2.2.2.1,v.2.2.2.2.2.2.1,v.2.2.2.2.2.2.2.1,v.2.2.2.2.2.2.2.2.1,v.2.2.2.2.2.2.2.2.2.1,v.2.2.2.2.2.2.2.2.2.2.1,v.2.2.2.2.2.2.2.2.2.2.2.1,v.2.2.2.2.2.2.2.2.2.2.2.2.1,v.2.2.2.2.2.2.2.2.2.2.2.2.2.1,v.2.2.2.2.2.2.2.2.2.2.2.2.2.2.1,())
  else
  rec (v.1,(IntKind.i64.wrap (v.2.1+(1:Int))),v.2.2.1,v.2.2.2.1,v.2.2.2.2.1,v.2.2.2.2.2.1,v.2.2.2.2.2.2.1,v.2.2.2.2.2.2.2.1,v.2.2.2.2.2.2.2.2.1,v.2.2.2.2.2.2.2.2.2.1,v.2.2.2.2.2.2.2.2.2.2.1,v.2.2.2.2.2.2.2.2.2.2.2.1,v.2.2.2.2.2.2.2.2.2.2.2.2.1,v.2.2.2.2.2.2.2.2.2.2.2.2.2.1,v.2.2.2.2.2.2.2.2.2.2.2.2.2.2.1,())
  else none
 else
 k1 (v.1,v.2.2.1,v.2.2.2.1,v.2.2.2.2.1,v.2.2.2.2.2.1,v.2.2.2.2.2.2.1,v.2.2.2.2.2.2.2.1,v.2.2.2.2.2.2.2.2.1,v.2.2.2.2.2.2.2.2.2.1,v.2.2.2.2.2.2.2.2.2.2.1,v.2.2.2.2.2.2.2.2.2.2.2.1,v.2.2.2.2.2.2.2.2.2.2.2.2.1,v.2.2.2.2.2.2.2.2.2.2.2.2.2.1,v.2.2.2.2.2.2.2.2.2.2.2.2.2.2.1,())
noncomputable def f1004l0 {R:Type}(k:Nat)(k0:D166->Option R)(k1:D167->Option R)(v:D166):Option R:=iterS (fun rec v=>f1004l0s k rec k0 k1 v) k v
noncomputable def f1004l0S (k:Nat):=loopSum ⟨[(1,.one (.int .i64)),(2,.one (.ptr 0 0)),(5,.one (.ptr 1 0)),(6,.one (.int .i64))],[(0,.var 25 [.str,.ro (.pair .str Y5),.ro (.pair (.int .i64) Y1)]),(1,.var 124 [.str,.int .i64,.int .i64,.int .i64,.int .i64,.int .i64,.int .i64,.str,.int .i64,.ro Y1])],2,[]⟩ ⟨[1,2,5,6],[],[]⟩ k fun R rec K v=>f1004l0s k rec (fun w=>K .ret (encSt ⟨[(1,.one (.int .i64)),(2,.one (.ptr 0 0)),(4,.one (.int .i64)),(5,.one (.ptr 1 0))],[(0,.var 25 [.str,.ro (.pair .str Y5),.ro (.pair (.int .i64) Y1)]),(1,.var 124 [.str,.int .i64,.int .i64,.int .i64,.int .i64,.int .i64,.int .i64,.str,.int .i64,.ro Y1])],2,[]⟩ w)) (fun w=>K (.exit 0) (encSt ⟨[(1,.one (.int .i64)),(2,.one (.ptr 0 0)),(5,.one (.ptr 1 0))],[(0,.var 25 [.str,.ro (.pair .str Y5),.ro (.pair (.int .i64) Y1)]),(1,.var 124 [.str,.int .i64,.int .i64,.int .i64,.int .i64,.int .i64,.int .i64,.str,.int .i64,.ro Y1])],2,[]⟩ w)) v
theorem f1004l0O (k:Nat):SumO P Tryz.f104 3962 (f1004l0S k):=lp tm (f1004T k) ⟨[1,2,4,5],[],[]⟩ SumsOk.nil (by kernel_rfl) fun _ _ _ _=>by kernel_rfl
noncomputable def f1004p1 {R:Type}(k:Nat)(k0:D166->Option R)(k1:D167->Option R)(v:D167):Option R :=
 bif (v.2.2.2.2.2.2.2.2.2.2.1==(0:Int)) then
  bif (!strEq v.2.2.2.2.1 ByteArray.empty) then
   k0 (v.1,(5:Int),v.2.1,v.2.2.1,v.2.2.2.1,v.2.2.2.2.1,v.2.2.2.2.2.1,v.2.2.2.2.2.2.1,v.2.2.2.2.2.2.2.1,v.2.2.2.2.2.2.2.2.1,v.2.2.2.2.2.2.2.2.2.1,v.2.2.2.2.2.2.2.2.2.2.1,v.2.2.2.2.2.2.2.2.2.2.2.1,v.2.2.2.2.2.2.2.2.2.2.2.2.1,v.2.2.2.2.2.2.2.2.2.2.2.2.2.1,())
  else
  let t3:=(!((v.2.2.2.2.2.2.2.1==(0:Int))&&((v.2.2.2.2.2.2.2.2.1==(0:Int))&&((v.2.2.2.2.2.2.2.2.2.1==(0:Int))&&true))))
  bif t3 then
   k0 (v.1,(5:Int),v.2.1,v.2.2.1,v.2.2.2.1,v.2.2.2.2.1,v.2.2.2.2.2.1,v.2.2.2.2.2.2.1,v.2.2.2.2.2.2.2.1,v.2.2.2.2.2.2.2.2.1,v.2.2.2.2.2.2.2.2.2.1,v.2.2.2.2.2.2.2.2.2.2.1,v.2.2.2.2.2.2.2.2.2.2.2.1,v.2.2.2.2.2.2.2.2.2.2.2.2.1,v.2.2.2.2.2.2.2.2.2.2.2.2.2.1,())
  else
  Option.bind (f48F k ((v.2.2.2.2.2.2.2.2.2.2.2.1.size:Int),(1:Int),(79:Int))) fun y4 =>
  bif (!y4) then
   k0 (v.1,(18:Int),v.2.1,v.2.2.1,v.2.2.2.1,v.2.2.2.2.1,v.2.2.2.2.2.1,v.2.2.2.2.2.2.1,v.2.2.2.2.2.2.2.1,v.2.2.2.2.2.2.2.2.1,v.2.2.2.2.2.2.2.2.2.1,v.2.2.2.2.2.2.2.2.2.2.1,v.2.2.2.2.2.2.2.2.2.2.2.1,v.2.2.2.2.2.2.2.2.2.2.2.2.1,v.2.2.2.2.2.2.2.2.2.2.2.2.2.1,())
  else
  Option.bind (f1010F k v.2.2.2.2.2.2.2.2.2.2.2.1) fun y5 =>
  bif (!y5) then
   k0 (v.1,(8:Int),v.2.1,v.2.2.1,v.2.2.2.1,v.2.2.2.2.1,v.2.2.2.2.2.1,v.2.2.2.2.2.2.1,v.2.2.2.2.2.2.2.1,v.2.2.2.2.2.2.2.2.1,v.2.2.2.2.2.2.2.2.2.1,v.2.2.2.2.2.2.2.2.2.2.1,v.2.2.2.2.2.2.2.2.2.2.2.1,v.2.2.2.2.2.2.2.2.2.2.2.2.1,v.2.2.2.2.2.2.2.2.2.2.2.2.2.1,())
  else
  k1 (v.1,v.2.1,v.2.2.1,v.2.2.2.1,v.2.2.2.2.1,v.2.2.2.2.2.1,v.2.2.2.2.2.2.1,v.2.2.2.2.2.2.2.1,v.2.2.2.2.2.2.2.2.1,v.2.2.2.2.2.2.2.2.2.1,v.2.2.2.2.2.2.2.2.2.2.1,v.2.2.2.2.2.2.2.2.2.2.2.1,v.2.2.2.2.2.2.2.2.2.2.2.2.1,v.2.2.2.2.2.2.2.2.2.2.2.2.2.1,())
 else
 bif (!strEq v.2.2.2.2.2.2.2.2.2.2.2.1 ByteArray.empty) then
  k0 (v.1,(5:Int),v.2.1,v.2.2.1,v.2.2.2.1,v.2.2.2.2.1,v.2.2.2.2.2.1,v.2.2.2.2.2.2.1,v.2.2.2.2.2.2.2.1,v.2.2.2.2.2.2.2.2.1,v.2.2.2.2.2.2.2.2.2.1,v.2.2.2.2.2.2.2.2.2.2.1,v.2.2.2.2.2.2.2.2.2.2.2.1,v.2.2.2.2.2.2.2.2.2.2.2.2.1,v.2.2.2.2.2.2.2.2.2.2.2.2.2.1,())
 else
 Option.bind (f1003F k v.2.2.2.2.1) fun y6 =>
 bif (!y6) then
  k0 (v.1,(7:Int),v.2.1,v.2.2.1,v.2.2.2.1,v.2.2.2.2.1,v.2.2.2.2.2.1,v.2.2.2.2.2.2.1,v.2.2.2.2.2.2.2.1,v.2.2.2.2.2.2.2.2.1,v.2.2.2.2.2.2.2.2.2.1,v.2.2.2.2.2.2.2.2.2.2.1,v.2.2.2.2.2.2.2.2.2.2.2.1,v.2.2.2.2.2.2.2.2.2.2.2.2.1,v.2.2.2.2.2.2.2.2.2.2.2.2.2.1,())
 else
 f1004l0 k
  (fun (w8:D166) =>
   k0 (w8.1,w8.2.1,w8.2.2.1,w8.2.2.2.1,w8.2.2.2.2.1,w8.2.2.2.2.2.1,w8.2.2.2.2.2.2.1,w8.2.2.2.2.2.2.2.1,w8.2.2.2.2.2.2.2.2.1,w8.2.2.2.2.2.2.2.2.2.1,w8.2.2.2.2.2.2.2.2.2.2.1,w8.2.2.2.2.2.2.2.2.2.2.2.1,w8.2.2.2.2.2.2.2.2.2.2.2.2.1,w8.2.2.2.2.2.2.2.2.2.2.2.2.2.1,w8.2.2.2.2.2.2.2.2.2.2.2.2.2.2.1,()))
  (fun (w9:D167) =>
   Option.bind (f27F k (w9.2.2.2.2.2.2.2.1,(w9.2.2.2.2.2.2.2.2.1,w9.2.2.2.2.2.2.2.2.2.1))) fun y10 =>
   bif (y10 !=(0:Int)) then
    k0 (w9.1,y10,w9.2.1,w9.2.2.1,w9.2.2.2.1,w9.2.2.2.2.1,w9.2.2.2.2.2.1,w9.2.2.2.2.2.2.1,w9.2.2.2.2.2.2.2.1,w9.2.2.2.2.2.2.2.2.1,w9.2.2.2.2.2.2.2.2.2.1,w9.2.2.2.2.2.2.2.2.2.2.1,w9.2.2.2.2.2.2.2.2.2.2.2.1,w9.2.2.2.2.2.2.2.2.2.2.2.2.1,w9.2.2.2.2.2.2.2.2.2.2.2.2.2.1,())
   else
   bif (w9.2.2.2.2.2.2.2.1==(4:Int)) then
    k0 (w9.1,(17:Int),w9.2.1,w9.2.2.1,w9.2.2.2.1,w9.2.2.2.2.1,w9.2.2.2.2.2.1,w9.2.2.2.2.2.2.1,w9.2.2.2.2.2.2.2.1,w9.2.2.2.2.2.2.2.2.1,w9.2.2.2.2.2.2.2.2.2.1,w9.2.2.2.2.2.2.2.2.2.2.1,w9.2.2.2.2.2.2.2.2.2.2.2.1,w9.2.2.2.2.2.2.2.2.2.2.2.2.1,w9.2.2.2.2.2.2.2.2.2.2.2.2.2.1,())
   else
   k1 (w9.1,w9.2.1,w9.2.2.1,w9.2.2.2.1,w9.2.2.2.2.1,w9.2.2.2.2.2.1,w9.2.2.2.2.2.2.1,w9.2.2.2.2.2.2.2.1,w9.2.2.2.2.2.2.2.2.1,w9.2.2.2.2.2.2.2.2.2.1,w9.2.2.2.2.2.2.2.2.2.2.1,w9.2.2.2.2.2.2.2.2.2.2.2.1,w9.2.2.2.2.2.2.2.2.2.2.2.2.1,w9.2.2.2.2.2.2.2.2.2.2.2.2.2.1,()))
  (v.1,(0:Int),v.2.1,v.2.2.1,v.2.2.2.1,v.2.2.2.2.1,v.2.2.2.2.2.1,v.2.2.2.2.2.2.1,v.2.2.2.2.2.2.2.1,v.2.2.2.2.2.2.2.2.1,v.2.2.2.2.2.2.2.2.2.1,v.2.2.2.2.2.2.2.2.2.2.1,v.2.2.2.2.2.2.2.2.2.2.2.1,v.2.2.2.2.2.2.2.2.2.2.2.2.1,v.2.2.2.2.2.2.2.2.2.2.2.2.2.1,())
noncomputable def f1004p1S (k:Nat):=partSum ⟨[(1,.one (.int .i64)),(2,.one (.ptr 0 0)),(5,.one (.ptr 1 0))],[(0,.var 25 [.str,.ro (.pair .str Y5),.ro (.pair (.int .i64) Y1)]),(1,.var 124 [.str,.int .i64,.int .i64,.int .i64,.int .i64,.int .i64,.int .i64,.str,.int .i64,.ro Y1])],2,[]⟩ ⟨[1,2,5],[],[]⟩ fun R K v=>f1004p1 k (fun w=>K .ret (encSt ⟨[(1,.one (.int .i64)),(2,.one (.ptr 0 0)),(4,.one (.int .i64)),(5,.one (.ptr 1 0))],[(0,.var 25 [.str,.ro (.pair .str Y5),.ro (.pair (.int .i64) Y1)]),(1,.var 124 [.str,.int .i64,.int .i64,.int .i64,.int .i64,.int .i64,.int .i64,.str,.int .i64,.ro Y1])],2,[]⟩ w)) (fun w=>K .normal (encSt ⟨[(1,.one (.int .i64)),(2,.one (.ptr 0 0)),(5,.one (.ptr 1 0))],[(0,.var 25 [.str,.ro (.pair .str Y5),.ro (.pair (.int .i64) Y1)]),(1,.var 124 [.str,.int .i64,.int .i64,.int .i64,.int .i64,.int .i64,.int .i64,.str,.int .i64,.ro Y1])],2,[]⟩ w)) v
theorem f1004p1O (k:Nat):SumO P Tryz.f104 30 (f1004p1S k):=pt tm (f1004T k) ⟨[1,2,4,5],[],[]⟩ (SumsOk.nil |>.s (f1004l0O k) (by kernel_rfl)) fun _ _ _=>by kernel_rfl
noncomputable def f1004l2s {R:Type}(k:Nat)(rec:D166->Option R)(k0:D166->Option R)(k1:D167->Option R)(v:D166):Option R :=
 bif (decide (v.2.1<(v.2.2.2.2.2.2.2.2.2.2.2.2.2.2.1.length:Int))) then
  bif ((decide ((0:Int)<=v.2.1))&&(decide (v.2.1<(v.2.2.2.2.2.2.2.2.2.2.2.2.2.2.1.length:Int)))) then
  let t18:=(v.2.2.2.2.2.2.2.2.2.2.2.2.2.2.1.getD (Int.toNat v.2.1) ((0:Int),false))
  Option.bind (f48F k (t18.1,(1:Int),(99:Int))) fun y19 =>
  bif (!y19) then
   k0 (v.1,(3:Int),v.2.2.1,v.2.2.2.1,v.2.2.2.2.1,v.2.2.2.2.2.1,v.2.2.2.2.2.2.1,v.2.2.2.2.2.2.2.1,v.2.2.2.2.2.2.2.2.1,v.2.2.2.2.2.2.2.2.2.1,v.2.2.2.2.2.2.2.2.2.2.1,v.2.2.2.2.2.2.2.2.2.2.2.1,v.2.2.2.2.2.2.2.2.2.2.2.2.1,v.2.2.2.2.2.2.2.2.2.2.2.2.2.1,v.2.2.2.2.2.2.2.2.2.2.2.2.2.2.1,())
  else
  rec (v.1,(IntKind.i64.wrap (v.2.1+(1:Int))),v.2.2.1,v.2.2.2.1,v.2.2.2.2.1,v.2.2.2.2.2.1,v.2.2.2.2.2.2.1,v.2.2.2.2.2.2.2.1,v.2.2.2.2.2.2.2.2.1,v.2.2.2.2.2.2.2.2.2.1,v.2.2.2.2.2.2.2.2.2.2.1,v.2.2.2.2.2.2.2.2.2.2.2.1,v.2.2.2.2.2.2.2.2.2.2.2.2.1,v.2.2.2.2.2.2.2.2.2.2.2.2.2.1,v.2.2.2.2.2.2.2.2.2.2.2.2.2.2.1,())
  else none
 else
 k1 (v.1,v.2.2.1,v.2.2.2.1,v.2.2.2.2.1,v.2.2.2.2.2.1,v.2.2.2.2.2.2.1,v.2.2.2.2.2.2.2.1,v.2.2.2.2.2.2.2.2.1,v.2.2.2.2.2.2.2.2.2.1,v.2.2.2.2.2.2.2.2.2.2.1,v.2.2.2.2.2.2.2.2.2.2.2.1,v.2.2.2.2.2.2.2.2.2.2.2.2.1,v.2.2.2.2.2.2.2.2.2.2.2.2.2.1,v.2.2.2.2.2.2.2.2.2.2.2.2.2.2.1,())
noncomputable def f1004l2 {R:Type}(k:Nat)(k0:D166->Option R)(k1:D167->Option R)(v:D166):Option R:=iterS (fun rec v=>f1004l2s k rec k0 k1 v) k v
noncomputable def f1004l2S (k:Nat):=loopSum ⟨[(1,.one (.int .i64)),(2,.one (.ptr 0 0)),(5,.one (.ptr 1 0)),(8,.one (.int .i64))],[(0,.var 25 [.str,.ro (.pair .str Y5),.ro (.pair (.int .i64) Y1)]),(1,.var 124 [.str,.int .i64,.int .i64,.int .i64,.int .i64,.int .i64,.int .i64,.str,.int .i64,.ro Y1])],2,[]⟩ ⟨[1,2,5,8],[],[]⟩ k fun R rec K v=>f1004l2s k rec (fun w=>K .ret (encSt ⟨[(1,.one (.int .i64)),(2,.one (.ptr 0 0)),(4,.one (.int .i64)),(5,.one (.ptr 1 0))],[(0,.var 25 [.str,.ro (.pair .str Y5),.ro (.pair (.int .i64) Y1)]),(1,.var 124 [.str,.int .i64,.int .i64,.int .i64,.int .i64,.int .i64,.int .i64,.str,.int .i64,.ro Y1])],2,[]⟩ w)) (fun w=>K (.exit 2) (encSt ⟨[(1,.one (.int .i64)),(2,.one (.ptr 0 0)),(5,.one (.ptr 1 0))],[(0,.var 25 [.str,.ro (.pair .str Y5),.ro (.pair (.int .i64) Y1)]),(1,.var 124 [.str,.int .i64,.int .i64,.int .i64,.int .i64,.int .i64,.int .i64,.str,.int .i64,.ro Y1])],2,[]⟩ w)) v
theorem f1004l2O (k:Nat):SumO P Tryz.f104 1018 (f1004l2S k):=lp tm (f1004T k) ⟨[1,2,4,5],[],[]⟩ SumsOk.nil (by kernel_rfl) fun _ _ _ _=>by kernel_rfl
noncomputable def f1004p3 {R:Type}(k:Nat)(k0:D168->Option R)(k1:D166->Option R)(v:D166):Option R :=
 bif ((decide ((0:Int)<=v.2.1))&&(decide (v.2.1<(v.2.2.2.1.length:Int)))) then
 let t22:=(v.2.2.2.1.getD (Int.toNat v.2.1) (ByteArray.empty,((0:Int),((0:Int),(((0:Int),((0:Int),(0:Int))),((0:Int),(ByteArray.empty,((0:Int),[]))))))))
 bif (t22.2.1==v.2.2.2.2.2.2.1) then
  Option.bind (f1023F k (v.2.2.2.2.2.1,(v.2.2.2.2.2.2.1,(v.2.2.2.2.2.2.2.1,((v.2.2.2.2.2.2.2.2.1,(v.2.2.2.2.2.2.2.2.2.1,v.2.2.2.2.2.2.2.2.2.2.1)),(v.2.2.2.2.2.2.2.2.2.2.2.1,(v.2.2.2.2.2.2.2.2.2.2.2.2.1,(v.2.2.2.2.2.2.2.2.2.2.2.2.2.1,v.2.2.2.2.2.2.2.2.2.2.2.2.2.2.1)))))))) fun y23 =>
  let t24:=(IntKind.i64.wrap ((IntKind.i64.wrap (v.2.2.2.2.2.2.2.1+y23)) - (1:Int)))
  bif (decide ((IntKind.i64.wrap (t22.2.2.1 - (1:Int)))<=t24)) then
   Option.bind (f1023F k (t22.1,(t22.2.1,(t22.2.2.1,((t22.2.2.2.1.1,(t22.2.2.2.1.2.1,t22.2.2.2.1.2.2)),(t22.2.2.2.2.1,(t22.2.2.2.2.2.1,(t22.2.2.2.2.2.2.1,t22.2.2.2.2.2.2.2)))))))) fun y25 =>
   let t26:=(decide ((IntKind.i64.wrap (v.2.2.2.2.2.2.2.1 - (1:Int)))<=(IntKind.i64.wrap ((IntKind.i64.wrap (t22.2.2.1+y25)) - (1:Int)))))
   bif t26 then
    Option.bind (f1062F k ((v.2.2.2.2.2.1,(v.2.2.2.2.2.2.1,(v.2.2.2.2.2.2.2.1,((v.2.2.2.2.2.2.2.2.1,(v.2.2.2.2.2.2.2.2.2.1,v.2.2.2.2.2.2.2.2.2.2.1)),(v.2.2.2.2.2.2.2.2.2.2.2.1,(v.2.2.2.2.2.2.2.2.2.2.2.2.1,(v.2.2.2.2.2.2.2.2.2.2.2.2.2.1,v.2.2.2.2.2.2.2.2.2.2.2.2.2.2.1))))))),(t22.1,(t22.2.1,(t22.2.2.1,((t22.2.2.2.1.1,(t22.2.2.2.1.2.1,t22.2.2.2.1.2.2)),(t22.2.2.2.2.1,(t22.2.2.2.2.2.1,(t22.2.2.2.2.2.2.1,t22.2.2.2.2.2.2.2))))))))) fun y27 =>
    bif y27 then
     k0 (v.1,(15:Int),v.2.1,v.2.2.1,v.2.2.2.1,v.2.2.2.2.1,v.2.2.2.2.2.1,v.2.2.2.2.2.2.1,v.2.2.2.2.2.2.2.1,v.2.2.2.2.2.2.2.2.1,v.2.2.2.2.2.2.2.2.2.1,v.2.2.2.2.2.2.2.2.2.2.1,v.2.2.2.2.2.2.2.2.2.2.2.1,v.2.2.2.2.2.2.2.2.2.2.2.2.1,v.2.2.2.2.2.2.2.2.2.2.2.2.2.1,v.2.2.2.2.2.2.2.2.2.2.2.2.2.2.1,())
    else
    k1 (v.1,v.2.1,v.2.2.1,v.2.2.2.1,v.2.2.2.2.1,v.2.2.2.2.2.1,v.2.2.2.2.2.2.1,v.2.2.2.2.2.2.2.1,v.2.2.2.2.2.2.2.2.1,v.2.2.2.2.2.2.2.2.2.1,v.2.2.2.2.2.2.2.2.2.2.1,v.2.2.2.2.2.2.2.2.2.2.2.1,v.2.2.2.2.2.2.2.2.2.2.2.2.1,v.2.2.2.2.2.2.2.2.2.2.2.2.2.1,v.2.2.2.2.2.2.2.2.2.2.2.2.2.2.1,())
   else
   k1 (v.1,v.2.1,v.2.2.1,v.2.2.2.1,v.2.2.2.2.1,v.2.2.2.2.2.1,v.2.2.2.2.2.2.1,v.2.2.2.2.2.2.2.1,v.2.2.2.2.2.2.2.2.1,v.2.2.2.2.2.2.2.2.2.1,v.2.2.2.2.2.2.2.2.2.2.1,v.2.2.2.2.2.2.2.2.2.2.2.1,v.2.2.2.2.2.2.2.2.2.2.2.2.1,v.2.2.2.2.2.2.2.2.2.2.2.2.2.1,v.2.2.2.2.2.2.2.2.2.2.2.2.2.2.1,())
  else
  k1 (v.1,v.2.1,v.2.2.1,v.2.2.2.1,v.2.2.2.2.1,v.2.2.2.2.2.1,v.2.2.2.2.2.2.1,v.2.2.2.2.2.2.2.1,v.2.2.2.2.2.2.2.2.1,v.2.2.2.2.2.2.2.2.2.1,v.2.2.2.2.2.2.2.2.2.2.1,v.2.2.2.2.2.2.2.2.2.2.2.1,v.2.2.2.2.2.2.2.2.2.2.2.2.1,v.2.2.2.2.2.2.2.2.2.2.2.2.2.1,v.2.2.2.2.2.2.2.2.2.2.2.2.2.2.1,())
 else
 k1 (v.1,v.2.1,v.2.2.1,v.2.2.2.1,v.2.2.2.2.1,v.2.2.2.2.2.1,v.2.2.2.2.2.2.1,v.2.2.2.2.2.2.2.1,v.2.2.2.2.2.2.2.2.1,v.2.2.2.2.2.2.2.2.2.1,v.2.2.2.2.2.2.2.2.2.2.1,v.2.2.2.2.2.2.2.2.2.2.2.1,v.2.2.2.2.2.2.2.2.2.2.2.2.1,v.2.2.2.2.2.2.2.2.2.2.2.2.2.1,v.2.2.2.2.2.2.2.2.2.2.2.2.2.2.1,())
 else none
noncomputable def f1004p3S (k:Nat):=partSum ⟨[(1,.one (.int .i64)),(2,.one (.ptr 0 0)),(5,.one (.ptr 1 0)),(9,.one (.int .i64))],[(0,.var 25 [.str,.ro (.pair .str Y5),.ro (.pair (.int .i64) Y1)]),(1,.var 124 [.str,.int .i64,.int .i64,.int .i64,.int .i64,.int .i64,.int .i64,.str,.int .i64,.ro Y1])],2,[]⟩ ⟨[1,2,5,9],[],[]⟩ fun R K v=>f1004p3 k (fun w=>K .ret (encSt ⟨[(1,.one (.int .i64)),(2,.one (.ptr 0 0)),(4,.one (.int .i64)),(5,.one (.ptr 1 0)),(9,.one (.int .i64))],[(0,.var 25 [.str,.ro (.pair .str Y5),.ro (.pair (.int .i64) Y1)]),(1,.var 124 [.str,.int .i64,.int .i64,.int .i64,.int .i64,.int .i64,.int .i64,.str,.int .i64,.ro Y1])],2,[]⟩ w)) (fun w=>K .normal (encSt ⟨[(1,.one (.int .i64)),(2,.one (.ptr 0 0)),(5,.one (.ptr 1 0)),(9,.one (.int .i64))],[(0,.var 25 [.str,.ro (.pair .str Y5),.ro (.pair (.int .i64) Y1)]),(1,.var 124 [.str,.int .i64,.int .i64,.int .i64,.int .i64,.int .i64,.int .i64,.str,.int .i64,.ro Y1])],2,[]⟩ w)) v
theorem f1004p3O (k:Nat):SumO P Tryz.f104 16338 (f1004p3S k):=pt tm (f1004T k) ⟨[1,2,4,5,9],[],[]⟩ SumsOk.nil fun _ _ _=>by kernel_rfl
noncomputable def f1004l4s {R:Type}(k:Nat)(rec:D166->Option R)(k0:Int×Unit->Option R)(k1:Unit->Option R)(v:D166):Option R :=
 bif (decide (v.2.1<v.1)) then
  f1004p3 k
   (fun (w28:D168) =>
    k0 (w28.2.1,()))
   (fun (w29:D166) =>
    rec (w29.1,(IntKind.i64.wrap (w29.2.1+(1:Int))),w29.2.2.1,w29.2.2.2.1,w29.2.2.2.2.1,w29.2.2.2.2.2.1,w29.2.2.2.2.2.2.1,w29.2.2.2.2.2.2.2.1,w29.2.2.2.2.2.2.2.2.1,w29.2.2.2.2.2.2.2.2.2.1,w29.2.2.2.2.2.2.2.2.2.2.1,w29.2.2.2.2.2.2.2.2.2.2.2.1,w29.2.2.2.2.2.2.2.2.2.2.2.2.1,w29.2.2.2.2.2.2.2.2.2.2.2.2.2.1,w29.2.2.2.2.2.2.2.2.2.2.2.2.2.2.1,()))
   (v.1,v.2.1,v.2.2.1,v.2.2.2.1,v.2.2.2.2.1,v.2.2.2.2.2.1,v.2.2.2.2.2.2.1,v.2.2.2.2.2.2.2.1,v.2.2.2.2.2.2.2.2.1,v.2.2.2.2.2.2.2.2.2.1,v.2.2.2.2.2.2.2.2.2.2.1,v.2.2.2.2.2.2.2.2.2.2.2.1,v.2.2.2.2.2.2.2.2.2.2.2.2.1,v.2.2.2.2.2.2.2.2.2.2.2.2.2.1,v.2.2.2.2.2.2.2.2.2.2.2.2.2.2.1,())
 else
 k1 (())
noncomputable def f1004l4 {R:Type}(k:Nat)(k0:Int×Unit->Option R)(k1:Unit->Option R)(v:D166):Option R:=iterS (fun rec v=>f1004l4s k rec k0 k1 v) k v
noncomputable def f1004l4S (k:Nat):=loopSum ⟨[(1,.one (.int .i64)),(2,.one (.ptr 0 0)),(5,.one (.ptr 1 0)),(9,.one (.int .i64))],[(0,.var 25 [.str,.ro (.pair .str Y5),.ro (.pair (.int .i64) Y1)]),(1,.var 124 [.str,.int .i64,.int .i64,.int .i64,.int .i64,.int .i64,.int .i64,.str,.int .i64,.ro Y1])],2,[]⟩ ⟨[1,2,5,9],[],[]⟩ k fun R rec K v=>f1004l4s k rec (fun w=>K .ret (encSt ⟨[(4,.one (.int .i64))],[],0,[]⟩ w)) (fun w=>K (.exit 4) (encSt ⟨[],[],0,[]⟩ w)) v
theorem f1004l4O (k:Nat):SumO P Tryz.f104 2042 (f1004l4S k):=lp tm (f1004T k) ⟨[4],[],[]⟩ (SumsOk.nil |>.s (f1004p3O k) (by kernel_rfl)) (by kernel_rfl) fun _ _ _ _=>by kernel_rfl
noncomputable def f1004F (k:Nat)(x:(ByteArray×D45)×Int):Option (Int) :=
 bif ((decide ((0:Int)<=x.2))&&(decide (x.2<(x.1.2.1.length:Int)))) then
 let t1:=(x.1.2.1.getD (Int.toNat x.2) (ByteArray.empty,((0:Int),((0:Int),(((0:Int),((0:Int),(0:Int))),((0:Int),(ByteArray.empty,((0:Int),[]))))))))
 Option.bind (f48F k (t1.2.2.2.2.1,(0:Int),(3:Int))) fun y2 =>
 bif (!y2) then
  some (4:Int)
 else
 f1004p1 k
  (fun (w11:D166) =>
   some w11.2.1)
  (fun (w12:D167) =>
   Option.bind (f48F k (w12.2.2.2.2.2.2.2.2.2.2.2.2.1,(0:Int),(15:Int))) fun y13 =>
   bif (!y13) then
    some (3:Int)
   else
   Option.bind (f48F k (w12.2.2.2.2.2.1,(1:Int),(24:Int))) fun y14 =>
   bif (!y14) then
    some (3:Int)
   else
   Option.bind (f48F k (w12.2.2.2.2.2.2.1,(2:Int),(80:Int))) fun y15 =>
   bif (!y15) then
    some (3:Int)
   else
   Option.bind (f1023F k (w12.2.2.2.2.1,(w12.2.2.2.2.2.1,(w12.2.2.2.2.2.2.1,((w12.2.2.2.2.2.2.2.1,(w12.2.2.2.2.2.2.2.2.1,w12.2.2.2.2.2.2.2.2.2.1)),(w12.2.2.2.2.2.2.2.2.2.2.1,(w12.2.2.2.2.2.2.2.2.2.2.2.1,(w12.2.2.2.2.2.2.2.2.2.2.2.2.1,w12.2.2.2.2.2.2.2.2.2.2.2.2.2.1)))))))) fun y16 =>
   let t17:=(IntKind.i64.wrap ((IntKind.i64.wrap (w12.2.2.2.2.2.2.1+y16)) - (1:Int)))
   bif (decide (t17 > (80:Int))) then
    some (3:Int)
   else
   bif (decide ((w12.2.2.2.2.2.2.2.2.2.2.2.2.2.1.length:Int) > (3:Int))) then
    some (2:Int)
   else
   f1004l2 k
    (fun (w20:D166) =>
     some w20.2.1)
    (fun (w21:D167) =>
     f1004l4 k
      (fun (w30:Int×Unit) =>
       some w30.1)
      (fun (w31:Unit) =>
       some (0:Int))
      (w21.1,(0:Int),w21.2.1,w21.2.2.1,w21.2.2.2.1,w21.2.2.2.2.1,w21.2.2.2.2.2.1,w21.2.2.2.2.2.2.1,w21.2.2.2.2.2.2.2.1,w21.2.2.2.2.2.2.2.2.1,w21.2.2.2.2.2.2.2.2.2.1,w21.2.2.2.2.2.2.2.2.2.2.1,w21.2.2.2.2.2.2.2.2.2.2.2.1,w21.2.2.2.2.2.2.2.2.2.2.2.2.1,w21.2.2.2.2.2.2.2.2.2.2.2.2.2.1,()))
    (w12.1,(0:Int),w12.2.1,w12.2.2.1,w12.2.2.2.1,w12.2.2.2.2.1,w12.2.2.2.2.2.1,w12.2.2.2.2.2.2.1,w12.2.2.2.2.2.2.2.1,w12.2.2.2.2.2.2.2.2.1,w12.2.2.2.2.2.2.2.2.2.1,w12.2.2.2.2.2.2.2.2.2.2.1,w12.2.2.2.2.2.2.2.2.2.2.2.1,w12.2.2.2.2.2.2.2.2.2.2.2.2.1,w12.2.2.2.2.2.2.2.2.2.2.2.2.2.1,()))
  (x.2,x.1.1,x.1.2.1,x.1.2.2,t1.1,t1.2.1,t1.2.2.1,t1.2.2.2.1.1,t1.2.2.2.1.2.1,t1.2.2.2.1.2.2,t1.2.2.2.2.1,t1.2.2.2.2.2.1,t1.2.2.2.2.2.2.1,t1.2.2.2.2.2.2.2,())
 else none
theorem f1004Ok (k:Nat):FnV P 104 [.agg (.pair .str Y6),.dat (.int .i64)] [.dat (.int .i64)] (f1004F k) :=
 fs tm (f1004T k) Tryz.func104 (by kernel_rfl) (SumsOk.nil |>.s (f1004l4O k) (by kernel_rfl) |>.s (f1004p3O k) (by kernel_rfl) |>.s (f1004l2O k) (by kernel_rfl) |>.s (f1004p1O k) (by kernel_rfl) |>.s (f1004l0O k) (by kernel_rfl)) none fun _=>by kernel_rfl
noncomputable def f934T (k:Nat):TB P:=TB.nil |>.u (f1004Ok k) |>.u (f1003Ok k) |>.u (f48Ok k)
noncomputable def f934l0s {R:Type}(k:Nat)(rec:D148->Option R)(k0:D42->Option R)(k1:D43->Option R)(v:D148):Option R :=
 bif (decide (v.1<(v.2.2.1.length:Int))) then
  Option.bind (f1004F k ((v.2.1,(v.2.2.1,v.2.2.2.1)),v.1)) fun y2 =>
  bif (y2 !=(0:Int)) then
   k0 (v.1,y2,v.2.1,v.2.2.1,v.2.2.2.1,())
  else
  rec ((IntKind.i64.wrap (v.1+(1:Int))),v.2.1,v.2.2.1,v.2.2.2.1,())
 else
 k1 (v.2.1,v.2.2.1,v.2.2.2.1,())
noncomputable def f934l0 {R:Type}(k:Nat)(k0:D42->Option R)(k1:D43->Option R)(v:D148):Option R:=iterS (fun rec v=>f934l0s k rec k0 k1 v) k v
noncomputable def f934l0S (k:Nat):=loopSum ⟨[(1,.one (.ptr 0 0)),(4,.one (.int .i64))],[(0,.var 25 [.str,.ro (.pair .str Y5),.ro (.pair (.int .i64) Y1)])],1,[]⟩ ⟨[1,4],[],[]⟩ k fun R rec K v=>f934l0s k rec (fun w=>K .ret (encSt ⟨[(1,.one (.ptr 0 0)),(2,.one (.int .i64)),(3,.one (.int .i64))],[(0,.var 25 [.str,.ro (.pair .str Y5),.ro (.pair (.int .i64) Y1)])],1,[]⟩ w)) (fun w=>K (.exit 0) (encSt ⟨[(1,.one (.ptr 0 0))],[(0,.var 25 [.str,.ro (.pair .str Y5),.ro (.pair (.int .i64) Y1)])],1,[]⟩ w)) v
theorem f934l0O (k:Nat):SumO P Tryz.f34 250 (f934l0S k):=lp tm (f934T k) ⟨[1,2,3],[],[]⟩ SumsOk.nil (by kernel_rfl) fun _ _ _ _=>by kernel_rfl
noncomputable def f934l1s {R:Type}(k:Nat)(rec:D42->Option R)(k0:D169->Option R)(k1:D148->Option R)(v:D42):Option R :=
 bif (decide (v.2.1<v.1)) then
  bif ((decide ((0:Int)<=v.2.1))&&(decide (v.2.1<(v.2.2.2.2.1.length:Int)))) then
  bif ((decide ((0:Int)<=v.1))&&(decide (v.1<(v.2.2.2.2.1.length:Int)))) then
  let t6:=((v.2.2.2.2.1.getD (Int.toNat v.2.1) ((0:Int),((0:Int),false))).1==(v.2.2.2.2.1.getD (Int.toNat v.1) ((0:Int),((0:Int),false))).1)
  bif t6 then
   k0 (v.1,(13:Int),v.1,v.2.2.1,v.2.2.2.1,v.2.2.2.2.1,())
  else
  rec (v.1,(IntKind.i64.wrap (v.2.1+(1:Int))),v.2.2.1,v.2.2.2.1,v.2.2.2.2.1,())
  else none
  else none
 else
 k1 (v.1,v.2.2.1,v.2.2.2.1,v.2.2.2.2.1,())
noncomputable def f934l1 {R:Type}(k:Nat)(k0:D169->Option R)(k1:D148->Option R)(v:D42):Option R:=iterS (fun rec v=>f934l1s k rec k0 k1 v) k v
noncomputable def f934l1S (k:Nat):=loopSum ⟨[(1,.one (.ptr 0 0)),(6,.one (.int .i64)),(7,.one (.int .i64))],[(0,.var 25 [.str,.ro (.pair .str Y5),.ro (.pair (.int .i64) Y1)])],1,[]⟩ ⟨[1,6,7],[],[]⟩ k fun R rec K v=>f934l1s k rec (fun w=>K .ret (encSt ⟨[(1,.one (.ptr 0 0)),(2,.one (.int .i64)),(3,.one (.int .i64)),(6,.one (.int .i64))],[(0,.var 25 [.str,.ro (.pair .str Y5),.ro (.pair (.int .i64) Y1)])],1,[]⟩ w)) (fun w=>K (.exit 4) (encSt ⟨[(1,.one (.ptr 0 0)),(6,.one (.int .i64))],[(0,.var 25 [.str,.ro (.pair .str Y5),.ro (.pair (.int .i64) Y1)])],1,[]⟩ w)) v
theorem f934l1O (k:Nat):SumO P Tryz.f34 129610 (f934l1S k):=lp tm (f934T k) ⟨[1,2,3,6],[],[]⟩ SumsOk.nil (by kernel_rfl) fun _ _ _ _=>by kernel_rfl
noncomputable def f934l2s {R:Type}(k:Nat)(rec:D148->Option R)(k0:Int×Int×Unit->Option R)(k1:Unit->Option R)(v:D148):Option R :=
 bif (decide (v.1<(v.2.2.2.1.length:Int))) then
  bif ((decide ((0:Int)<=v.1))&&(decide (v.1<(v.2.2.2.1.length:Int)))) then
  Option.bind (f48F k ((v.2.2.2.1.getD (Int.toNat v.1) ((0:Int),((0:Int),false))).1,(1:Int),(24:Int))) fun y5 =>
  bif (!y5) then
   k0 (v.1,(3:Int),())
  else
  f934l1 k
   (fun (w7:D169) =>
    k0 (w7.1,w7.2.1,()))
   (fun (w8:D148) =>
    bif ((decide ((0:Int)<=w8.1))&&(decide (w8.1<(w8.2.2.2.1.length:Int)))) then
    Option.bind (f48F k ((w8.2.2.2.1.getD (Int.toNat w8.1) ((0:Int),((0:Int),false))).2.1,(0:Int),(99:Int))) fun y9 =>
    bif (!y9) then
     k0 (w8.1,(3:Int),())
    else
    rec ((IntKind.i64.wrap (w8.1+(1:Int))),w8.2.1,w8.2.2.1,w8.2.2.2.1,())
    else none)
   (v.1,(0:Int),v.2.1,v.2.2.1,v.2.2.2.1,())
  else none
 else
 k1 (())
noncomputable def f934l2 {R:Type}(k:Nat)(k0:Int×Int×Unit->Option R)(k1:Unit->Option R)(v:D148):Option R:=iterS (fun rec v=>f934l2s k rec k0 k1 v) k v
noncomputable def f934l2S (k:Nat):=loopSum ⟨[(1,.one (.ptr 0 0)),(6,.one (.int .i64))],[(0,.var 25 [.str,.ro (.pair .str Y5),.ro (.pair (.int .i64) Y1)])],1,[]⟩ ⟨[1,6],[],[]⟩ k fun R rec K v=>f934l2s k rec (fun w=>K .ret (encSt ⟨[(2,.one (.int .i64)),(3,.one (.int .i64))],[],0,[]⟩ w)) (fun w=>K (.exit 2) (encSt ⟨[],[],0,[]⟩ w)) v
theorem f934l2O (k:Nat):SumO P Tryz.f34 506 (f934l2S k):=lp tm (f934T k) ⟨[2,3],[],[]⟩ (SumsOk.nil |>.s (f934l1O k) (by kernel_rfl)) (by kernel_rfl) fun _ _ _ _=>by kernel_rfl
noncomputable def f934F (k:Nat)(x:(ByteArray×D45)):Option (Int×Int) :=
 Option.bind (f1003F k x.1) fun y1 =>
 bif (!y1) then
  some ((0:Int),(7:Int))
 else
 bif ((x.2.1.length:Int)==(0:Int)) then
  some ((0:Int),(1:Int))
 else
 bif (decide ((x.2.1.length:Int) > (30:Int))) then
  some ((0:Int),(2:Int))
 else
 bif (decide ((x.2.2.length:Int) > (10:Int))) then
  some ((0:Int),(2:Int))
 else
 f934l0 k
  (fun (w3:D42) =>
   some (w3.1,w3.2.1))
  (fun (w4:D43) =>
   f934l2 k
    (fun (w10:Int×Int×Unit) =>
     some (w10.1,w10.2.1))
    (fun (w11:Unit) =>
     some ((0:Int),(0:Int)))
    ((0:Int),w4.1,w4.2.1,w4.2.2.1,()))
  ((0:Int),x.1,x.2.1,x.2.2,())
theorem f934Ok (k:Nat):FnV P 34 [.agg (.pair .str Y6)] [.dat (.int .i64),.dat (.int .i64)] (f934F k) :=
 fs tm (f934T k) Tryz.func34 (by kernel_rfl) (SumsOk.nil |>.s (f934l2O k) (by kernel_rfl) |>.s (f934l1O k) (by kernel_rfl) |>.s (f934l0O k) (by kernel_rfl)) none fun _=>by kernel_rfl
noncomputable def f905T (k:Nat):TB P:=TB.nil |>.u (f934Ok k) |>.u (f933Ok k) |>.p (f919Ok k) |>.u (f916Ok k) |>.u (f915Ok k)
noncomputable def f905F (k:Nat)(x:(ByteArray×D45)):Option (Bool) :=
 Option.bind (f915F k ()) fun y1 =>
 bif (!y1) then
  some false
 else
 Option.bind (f916F k (x.1,(x.2.1,x.2.2))) fun y2 =>
 bif (!y2) then
  some true
 else
 Option.bind (f919F k (x.1,(x.2.1,x.2.2))) fun y3 =>
 Option.bind (f933F k (y3.1,(y3.2.1,y3.2.2))) fun y4 =>
 Option.bind (f934F k (x.1,(x.2.1,x.2.2))) fun y5 =>
 bif (y4.1==y5.1) then
  some (y4.2==y5.2)
 else
 some false
theorem f905Ok (k:Nat):FnV P 5 [.agg (.pair .str Y6)] [.dat .bool] (f905F k) :=
 fs tm (f905T k) Tryz.func5 (by kernel_rfl) SumsOk.nil none fun _=>by kernel_rfl
end Go.Proofs.YteadgfclfopccaaGreatDoor
