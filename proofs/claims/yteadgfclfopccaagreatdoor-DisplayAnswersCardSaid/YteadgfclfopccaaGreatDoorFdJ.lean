import Derived.Test.YteadgfclfopccaaGreatDoorFcJ
import Derived.Test.YteadgfclfopccaaGreatDoorProg
set_option linter.unusedVariables false
set_option maxRecDepth 100000
namespace Go.Proofs.YteadgfclfopccaaGreatDoor
open Go.Ab
noncomputable def f48F (k:Nat)(x:Int×Int×Int):Option (Bool) :=
 bif (decide (x.2.1<=x.1)) then
  some (decide (x.1<=x.2.2))
 else
 some false
theorem f48Ok (k:Nat):FnV P 76 [.dat (.int .i64),.dat (.int .i64),.dat (.int .i64)] [.dat .bool] (f48F k) :=
 fs tm TB.nil Tryz.func76 (by kernel_rfl) SumsOk.nil none fun _=>by kernel_rfl
noncomputable def f225F (k:Nat)(x:Int):Option (Bool) :=
 bif (decide ((48:Int)<=x)) then
  some (decide (x<=(57:Int)))
 else
 some false
noncomputable def f1010l0s {R:Type}(k:Nat)(rec:ByteArray×Int×Unit->Option R)(k0:Bool×Unit->Option R)(k1:Unit->Option R)(v:ByteArray×Int×Unit):Option R :=
 bif (decide (v.2.1<(v.1.size:Int))) then
  bif ((decide ((0:Int)<=v.2.1))&&(decide (v.2.1<(v.1.size:Int)))) then
  bif (decide ((bt v.1 v.2.1)<(32:Int))) then
   k0 (false,())
  else
  bif ((decide ((0:Int)<=v.2.1))&&(decide (v.2.1<(v.1.size:Int)))) then
  bif (decide ((bt v.1 v.2.1) > (126:Int))) then
   k0 (false,())
  else
  rec (v.1,(IntKind.i64.wrap (v.2.1+(1:Int))),())
  else none
  else none
 else
 k1 (())
noncomputable def f1010l0 {R:Type}(k:Nat)(k0:Bool×Unit->Option R)(k1:Unit->Option R)(v:ByteArray×Int×Unit):Option R:=iterS (fun rec v=>f1010l0s k rec k0 k1 v) k v
noncomputable def f1010l0S (k:Nat):=loopSum ⟨[(0,.one (.str)),(3,.one (.int .i64))],[],0,[]⟩ ⟨[0,3],[],[]⟩ k fun R rec K v=>f1010l0s k rec (fun w=>K .ret (encSt ⟨[(2,.one (.bool))],[],0,[]⟩ w)) (fun w=>K (.exit 0) (encSt ⟨[],[],0,[]⟩ w)) v
theorem f1010l0O (k:Nat):SumO P Tryz.f110 26 (f1010l0S k):=lp tm TB.nil ⟨[2],[],[]⟩ SumsOk.nil (by kernel_rfl) fun _ _ _ _=>by kernel_rfl
noncomputable def f1010F (k:Nat)(x:ByteArray):Option (Bool) :=
 f1010l0 k
  (fun (w1:Bool×Unit) =>
   some w1.1)
  (fun (w2:Unit) =>
   some true)
  (x,(0:Int),())
theorem f1010Ok (k:Nat):FnV P 110 [.dat .str] [.dat .bool] (f1010F k) :=
 fs tm TB.nil Tryz.func110 (by kernel_rfl) (SumsOk.nil |>.s (f1010l0O k) (by kernel_rfl)) none fun _=>by kernel_rfl
noncomputable def f72l0s {R:Type}(k:Nat)(rec:D176->Option R)(k0:List Int×Unit->Option R)(v:D176):Option R :=
 bif (decide (v.2.2.1<v.2.1)) then
  bif (decide ((v.2.2.2.1.length+[v.1].length)*1<=140737488355328)&&decide (v.2.2.2.1.length+[v.1].length<=9223372036854775807)) then
  rec (v.1,v.2.1,(IntKind.i64.wrap (v.2.2.1+(1:Int))),(v.2.2.2.1++[v.1]),())
  else none
 else
 k0 (v.2.2.2.1,())
noncomputable def f72l0 {R:Type}(k:Nat)(k0:List Int×Unit->Option R)(v:D176):Option R:=iterS (fun rec v=>f72l0s k rec k0 v) k v
noncomputable def f72F (k:Nat)(x:Int×Int):Option (ByteArray) :=
 f72l0 k
  (fun (w1:List Int×Unit) =>
   some (strOfNums w1.1))
  (x.1,x.2,(0:Int),[],())
noncomputable def f939F (k:Nat)(x:(ByteArray×D75)):Option (Bool) :=
 bif (decide ((x.1.size:Int)<=(2000:Int))) then
  some (decide ((x.2.1.length:Int)<=(200:Int)))
 else
 some false
theorem f939Ok (k:Nat):FnV P 39 [.agg (.pair .str Y10)] [.dat .bool] (f939F k) :=
 fs tm TB.nil Tryz.func39 (by kernel_rfl) SumsOk.nil none fun _=>by kernel_rfl
noncomputable def f941F (k:Nat)(x:(ByteArray×D75)):Option ((ByteArray×D75)) :=
 bif (decide ((([]:List (Int×(Int×D70))).length+x.2.1.length)*32<=140737488355328)&&decide (([]:List (Int×(Int×D70))).length+x.2.1.length<=9223372036854775807)) then
 some (x.1,(([]++x.2.1),x.2.2))
 else none
theorem f941Ok (k:Nat):FnV P 41 [.agg (.pair .str Y10)] [.agg (.pair .str Y10)] (f941F k) :=
 fs tm TB.nil Tryz.func41 (by kernel_rfl) SumsOk.nil none fun _=>by kernel_rfl
noncomputable def f960T (k:Nat):TB P:=TB.nil |>.u (f1010Ok k) |>.u (f48Ok k)
noncomputable def f960p0 {R:Type}(k:Nat)(k0:D184->Option R)(k1:D185->Option R)(v:D185):Option R :=
 bif v.2.2.2.2.2.2.2.2.2.1 then
  bif (!v.2.2.2.2.2.2.2.1) then
   k0 (v.1,(5:Int),v.1,v.2.1,v.2.2.1,v.2.2.2.1,v.2.2.2.2.1,v.2.2.2.2.2.1,v.2.2.2.2.2.2.1,v.2.2.2.2.2.2.2.1,v.2.2.2.2.2.2.2.2.1,v.2.2.2.2.2.2.2.2.2.1,())
  else
  k1 (v.1,v.2.1,v.2.2.1,v.2.2.2.1,v.2.2.2.2.1,v.2.2.2.2.2.1,v.2.2.2.2.2.2.1,v.2.2.2.2.2.2.2.1,v.2.2.2.2.2.2.2.2.1,v.2.2.2.2.2.2.2.2.2.1,())
 else
 bif v.2.2.2.2.2.2.2.2.1 then
  bif (!v.2.2.2.2.2.2.2.1) then
   k0 (v.1,(5:Int),v.1,v.2.1,v.2.2.1,v.2.2.2.1,v.2.2.2.2.1,v.2.2.2.2.2.1,v.2.2.2.2.2.2.1,v.2.2.2.2.2.2.2.1,v.2.2.2.2.2.2.2.2.1,v.2.2.2.2.2.2.2.2.2.1,())
  else
  k1 (v.1,v.2.1,v.2.2.1,v.2.2.2.1,v.2.2.2.2.1,v.2.2.2.2.2.1,v.2.2.2.2.2.2.1,v.2.2.2.2.2.2.2.1,v.2.2.2.2.2.2.2.2.1,v.2.2.2.2.2.2.2.2.2.1,())
 else
 k1 (v.1,v.2.1,v.2.2.1,v.2.2.2.1,v.2.2.2.2.1,v.2.2.2.2.2.1,v.2.2.2.2.2.2.1,v.2.2.2.2.2.2.2.1,v.2.2.2.2.2.2.2.2.1,v.2.2.2.2.2.2.2.2.2.1,())
noncomputable def f960p0S (k:Nat):=partSum ⟨[(1,.one (.ptr 0 0)),(4,.one (.int .i64)),(5,.one (.ptr 1 0))],[(0,.var 77 [.str,.ro (.pair (.int .i64) Y9),.int .i64]),(1,.var 182 [.int .i64,.int .i64,.int .i64,.bool,.bool,.bool])],2,[]⟩ ⟨[1,4,5],[],[]⟩ fun R K v=>f960p0 k (fun w=>K .ret (encSt ⟨[(1,.one (.ptr 0 0)),(2,.one (.int .i64)),(3,.one (.int .i64)),(4,.one (.int .i64)),(5,.one (.ptr 1 0))],[(0,.var 77 [.str,.ro (.pair (.int .i64) Y9),.int .i64]),(1,.var 182 [.int .i64,.int .i64,.int .i64,.bool,.bool,.bool])],2,[]⟩ w)) (fun w=>K .normal (encSt ⟨[(1,.one (.ptr 0 0)),(4,.one (.int .i64)),(5,.one (.ptr 1 0))],[(0,.var 77 [.str,.ro (.pair (.int .i64) Y9),.int .i64]),(1,.var 182 [.int .i64,.int .i64,.int .i64,.bool,.bool,.bool])],2,[]⟩ w)) v
theorem f960p0O (k:Nat):SumO P Tryz.f60 15654 (f960p0S k):=pt tm (f960T k) ⟨[1,2,3,4,5],[],[]⟩ SumsOk.nil fun _ _ _=>by kernel_rfl
noncomputable def f960p1 {R:Type}(k:Nat)(k0:D186->Option R)(k1:D187->Option R)(v:D187):Option R :=
 bif ((decide ((0:Int)<=v.1))&&(decide (v.1<(v.2.2.1.length:Int)))) then
 let t2:=(v.2.2.1.getD (Int.toNat v.1) ((0:Int),((0:Int),((0:Int),(false,(false,false))))))
 Option.bind (f48F k (t2.1,(1:Int),(1919:Int))) fun y3 =>
 bif (!y3) then
  k0 (v.1,(3:Int),v.1,v.2.1,v.2.2.1,v.2.2.2.1,())
 else
 Option.bind (f48F k (t2.2.1,(1:Int),(IntKind.i64.wrap ((1920:Int) - t2.1)))) fun y4 =>
 bif (!y4) then
  k0 (v.1,(3:Int),v.1,v.2.1,v.2.2.1,v.2.2.2.1,())
 else
 Option.bind (f48F k (t2.2.2.1,(0:Int),(15:Int))) fun y5 =>
 bif (!y5) then
  k0 (v.1,(3:Int),v.1,v.2.1,v.2.2.1,v.2.2.2.1,())
 else
 f960p0 k
  (fun (w6:D184) =>
   k0 (w6.1,w6.2.1,w6.2.2.1,w6.2.2.2.1,w6.2.2.2.2.1,w6.2.2.2.2.2.1,()))
  (fun (w7:D185) =>
   bif (decide (w7.1 > (0:Int))) then
    bif ((decide ((0:Int)<=(IntKind.i64.wrap (w7.1 - (1:Int)))))&&(decide ((IntKind.i64.wrap (w7.1 - (1:Int)))<(w7.2.2.1.length:Int)))) then
    let t8:=(w7.2.2.1.getD (Int.toNat (IntKind.i64.wrap (w7.1 - (1:Int)))) ((0:Int),((0:Int),((0:Int),(false,(false,false))))))
    bif ((decide ((0:Int)<=(IntKind.i64.wrap (w7.1 - (1:Int)))))&&(decide ((IntKind.i64.wrap (w7.1 - (1:Int)))<(w7.2.2.1.length:Int)))) then
    let t9:=(w7.2.2.1.getD (Int.toNat (IntKind.i64.wrap (w7.1 - (1:Int)))) ((0:Int),((0:Int),((0:Int),(false,(false,false))))))
    bif (decide (w7.2.2.2.2.1<=(IntKind.i64.wrap (t8.1+t9.2.1)))) then
     k0 (w7.1,(14:Int),w7.1,w7.2.1,w7.2.2.1,w7.2.2.2.1,())
    else
    k1 (w7.1,w7.2.1,w7.2.2.1,w7.2.2.2.1,())
    else none
    else none
   else
   k1 (w7.1,w7.2.1,w7.2.2.1,w7.2.2.2.1,()))
  (v.1,v.2.1,v.2.2.1,v.2.2.2.1,t2.1,t2.2.1,t2.2.2.1,t2.2.2.2.1,t2.2.2.2.2.1,t2.2.2.2.2.2,())
 else none
noncomputable def f960p1S (k:Nat):=partSum ⟨[(1,.one (.ptr 0 0)),(4,.one (.int .i64))],[(0,.var 77 [.str,.ro (.pair (.int .i64) Y9),.int .i64])],1,[]⟩ ⟨[1,4],[],[]⟩ fun R K v=>f960p1 k (fun w=>K .ret (encSt ⟨[(1,.one (.ptr 0 0)),(2,.one (.int .i64)),(3,.one (.int .i64)),(4,.one (.int .i64))],[(0,.var 77 [.str,.ro (.pair (.int .i64) Y9),.int .i64])],1,[]⟩ w)) (fun w=>K .normal (encSt ⟨[(1,.one (.ptr 0 0)),(4,.one (.int .i64))],[(0,.var 77 [.str,.ro (.pair (.int .i64) Y9),.int .i64])],1,[]⟩ w)) v
theorem f960p1O (k:Nat):SumO P Tryz.f60 978 (f960p1S k):=pt tm (f960T k) ⟨[1,2,3,4],[],[]⟩ (SumsOk.nil |>.s (f960p0O k) (by kernel_rfl)) fun _ _ _=>by kernel_rfl
noncomputable def f960l2s {R:Type}(k:Nat)(rec:D187->Option R)(k0:D73->Option R)(k1:D74->Option R)(v:D187):Option R :=
 bif (decide (v.1<(v.2.2.1.length:Int))) then
  f960p1 k
   (fun (w10:D186) =>
    k0 (w10.1,w10.2.1,w10.2.2.2.1,w10.2.2.2.2.1,w10.2.2.2.2.2.1,()))
   (fun (w11:D187) =>
    rec ((IntKind.i64.wrap (w11.1+(1:Int))),w11.2.1,w11.2.2.1,w11.2.2.2.1,()))
   (v.1,v.2.1,v.2.2.1,v.2.2.2.1,())
 else
 k1 (v.2.1,v.2.2.1,v.2.2.2.1,())
noncomputable def f960l2 {R:Type}(k:Nat)(k0:D73->Option R)(k1:D74->Option R)(v:D187):Option R:=iterS (fun rec v=>f960l2s k rec k0 k1 v) k v
noncomputable def f960l2S (k:Nat):=loopSum ⟨[(1,.one (.ptr 0 0)),(4,.one (.int .i64))],[(0,.var 77 [.str,.ro (.pair (.int .i64) Y9),.int .i64])],1,[]⟩ ⟨[1,4],[],[]⟩ k fun R rec K v=>f960l2s k rec (fun w=>K .ret (encSt ⟨[(1,.one (.ptr 0 0)),(2,.one (.int .i64)),(3,.one (.int .i64))],[(0,.var 77 [.str,.ro (.pair (.int .i64) Y9),.int .i64])],1,[]⟩ w)) (fun w=>K (.exit 0) (encSt ⟨[(1,.one (.ptr 0 0))],[(0,.var 77 [.str,.ro (.pair (.int .i64) Y9),.int .i64])],1,[]⟩ w)) v
theorem f960l2O (k:Nat):SumO P Tryz.f60 122 (f960l2S k):=lp tm (f960T k) ⟨[1,2,3],[],[]⟩ (SumsOk.nil |>.s (f960p1O k) (by kernel_rfl) |>.s (f960p0O k) (by kernel_rfl)) (by kernel_rfl) fun _ _ _ _=>by kernel_rfl
noncomputable def f960F (k:Nat)(x:(ByteArray×D75)):Option (Int×Int) :=
 bif ((x.1.size:Int) !=(1920:Int)) then
  some ((0:Int),(18:Int))
 else
 Option.bind (f1010F k x.1) fun y1 =>
 bif (!y1) then
  some ((0:Int),(8:Int))
 else
 f960l2 k
  (fun (w12:D73) =>
   some (w12.1,w12.2.1))
  (fun (w13:D74) =>
   Option.bind (f48F k (w13.2.2.1,(0:Int),(1919:Int))) fun y14 =>
   bif (!y14) then
    some ((0:Int),(3:Int))
   else
   some ((0:Int),(0:Int)))
  ((0:Int),x.1,x.2.1,x.2.2,())
theorem f960Ok (k:Nat):FnV P 60 [.agg (.pair .str Y10)] [.dat (.int .i64),.dat (.int .i64)] (f960F k) :=
 fs tm (f960T k) Tryz.func60 (by kernel_rfl) (SumsOk.nil |>.s (f960l2O k) (by kernel_rfl) |>.s (f960p1O k) (by kernel_rfl) |>.s (f960p0O k) (by kernel_rfl)) none fun _=>by kernel_rfl
noncomputable def f1007T (k:Nat):TB P:=TB.nil |>.u (f960Ok k)
noncomputable def f1007F (k:Nat)(x:(ByteArray×D75)):Option (Int) :=
 Option.bind (f960F k (x.1,(x.2.1,x.2.2))) fun y1 =>
 some y1.2
theorem f1007Ok (k:Nat):FnV P 107 [.agg (.pair .str Y10)] [.dat (.int .i64)] (f1007F k) :=
 fs tm (f1007T k) Tryz.func107 (by kernel_rfl) SumsOk.nil none fun _=>by kernel_rfl
noncomputable def f1028F (k:Nat)(x:D188):Option (ByteArray) :=
 bif (sliceBds (0:Int) x.2.1 (x.1.size:Int)) then
 bif (decide ((x.1.extract 0 (Int.toNat x.2.1)).size+x.2.2.size<=9223372036854775807)) then
 bif (sliceBds (IntKind.i64.wrap (x.2.1+(x.2.2.size:Int))) (x.1.size:Int) (x.1.size:Int)) then
 let t1:=(x.1.extract (Int.toNat (IntKind.i64.wrap (x.2.1+(x.2.2.size:Int)))) (Int.toNat (x.1.size:Int)))
 bif (decide (((x.1.extract 0 (Int.toNat x.2.1))++x.2.2).size+t1.size<=9223372036854775807)) then
 some (((x.1.extract 0 (Int.toNat x.2.1))++x.2.2)++t1)
 else none
 else none
 else none
 else none
noncomputable def f943l0s {R:Type}(k:Nat)(rec:D203->Option R)(k0:Bool×Unit->Option R)(k1:Unit->Option R)(v:D203):Option R :=
 bif (decide (v.1<(v.2.2.1.length:Int))) then
  bif ((decide ((0:Int)<=v.1))&&(decide (v.1<(v.2.2.1.length:Int)))) then
  let t1:=(v.2.2.1.getD (Int.toNat v.1) ((0:Int),((0:Int),((0:Int),(false,(false,false))))))
  bif ((decide ((0:Int)<=v.1))&&(decide (v.1<(v.2.2.2.2.2.1.length:Int)))) then
  let t2:=(v.2.2.2.2.2.1.getD (Int.toNat v.1) ((0:Int),((0:Int),((0:Int),(false,(false,false))))))
  let t3:=(!((t1.1==t2.1)&&((t1.2.1==t2.2.1)&&((t1.2.2.1==t2.2.2.1)&&((t1.2.2.2.1==t2.2.2.2.1)&&((t1.2.2.2.2.1==t2.2.2.2.2.1)&&((t1.2.2.2.2.2==t2.2.2.2.2.2)&&true)))))))
  bif t3 then
   k0 (false,())
  else
  rec ((IntKind.i64.wrap (v.1+(1:Int))),v.2.1,v.2.2.1,v.2.2.2.1,v.2.2.2.2.1,v.2.2.2.2.2.1,v.2.2.2.2.2.2.1,())
  else none
  else none
 else
 k1 (())
noncomputable def f943l0 {R:Type}(k:Nat)(k0:Bool×Unit->Option R)(k1:Unit->Option R)(v:D203):Option R:=iterS (fun rec v=>f943l0s k rec k0 k1 v) k v
noncomputable def f943F (k:Nat)(x:D204):Option (Bool) :=
 bif (!strEq x.1.1 x.2.1) then
  some false
 else
 bif (x.1.2.2 !=x.2.2.2) then
  some false
 else
 bif ((x.1.2.1.length:Int) !=(x.2.2.1.length:Int)) then
  some false
 else
 f943l0 k
  (fun (w4:Bool×Unit) =>
   some w4.1)
  (fun (w5:Unit) =>
   some true)
  ((0:Int),x.1.1,x.1.2.1,x.1.2.2,x.2.1,x.2.2.1,x.2.2.2,())
noncomputable def f1068p0 {R:Type}(k:Nat)(k0:D73->Option R)(k1:D187->Option R)(v:D187):Option R :=
 bif ((decide ((0:Int)<=v.1))&&(decide (v.1<(v.2.2.1.length:Int)))) then
 let t1:=(v.2.2.1.getD (Int.toNat v.1) ((0:Int),((0:Int),((0:Int),(false,(false,false))))))
 bif t1.2.2.2.1 then
  Option.bind (f48F k (v.2.2.2.1,t1.1,(IntKind.i64.wrap ((IntKind.i64.wrap (t1.1+t1.2.1)) - (1:Int))))) fun y2 =>
  bif y2 then
   k0 (v.1,v.1,v.2.1,v.2.2.1,v.2.2.2.1,())
  else
  k1 (v.1,v.2.1,v.2.2.1,v.2.2.2.1,())
 else
 k1 (v.1,v.2.1,v.2.2.1,v.2.2.2.1,())
 else none
noncomputable def f1068l1s {R:Type}(k:Nat)(rec:D187->Option R)(k0:Int×Unit->Option R)(k1:Unit->Option R)(v:D187):Option R :=
 bif (decide (v.1<(v.2.2.1.length:Int))) then
  f1068p0 k
   (fun (w3:D73) =>
    k0 (w3.1,()))
   (fun (w4:D187) =>
    rec ((IntKind.i64.wrap (w4.1+(1:Int))),w4.2.1,w4.2.2.1,w4.2.2.2.1,()))
   (v.1,v.2.1,v.2.2.1,v.2.2.2.1,())
 else
 k1 (())
noncomputable def f1068l1 {R:Type}(k:Nat)(k0:Int×Unit->Option R)(k1:Unit->Option R)(v:D187):Option R:=iterS (fun rec v=>f1068l1s k rec k0 k1 v) k v
noncomputable def f1068F (k:Nat)(x:(ByteArray×D75)):Option (Int) :=
 f1068l1 k
  (fun (w5:Int×Unit) =>
   some w5.1)
  (fun (w6:Unit) =>
   some (-1:Int))
  ((0:Int),x.1,x.2.1,x.2.2,())
noncomputable def f1069p0 {R:Type}(k:Nat)(k0:D184->Option R)(k1:D205->Option R)(v:D205):Option R :=
 bif v.2.2.2.2.2.2.2.2.1 then
  bif (decide (v.2.2.2.2.2.1 > v.2.2.2.2.1)) then
   k0 (v.2.2.2.2.2.1,v.1,v.2.1,v.2.2.1,v.2.2.2.1,v.2.2.2.2.1,v.2.2.2.2.2.1,v.2.2.2.2.2.2.1,v.2.2.2.2.2.2.2.1,v.2.2.2.2.2.2.2.2.1,v.2.2.2.2.2.2.2.2.2.1,v.2.2.2.2.2.2.2.2.2.2.1,())
  else
  k1 (v.1,v.2.1,v.2.2.1,v.2.2.2.1,v.2.2.2.2.1,v.2.2.2.2.2.1,v.2.2.2.2.2.2.1,v.2.2.2.2.2.2.2.1,v.2.2.2.2.2.2.2.2.1,v.2.2.2.2.2.2.2.2.2.1,v.2.2.2.2.2.2.2.2.2.2.1,())
 else
 k1 (v.1,v.2.1,v.2.2.1,v.2.2.2.1,v.2.2.2.2.1,v.2.2.2.2.2.1,v.2.2.2.2.2.2.1,v.2.2.2.2.2.2.2.1,v.2.2.2.2.2.2.2.2.1,v.2.2.2.2.2.2.2.2.2.1,v.2.2.2.2.2.2.2.2.2.2.1,())
noncomputable def f1069p1 {R:Type}(k:Nat)(k0:D186->Option R)(k1:D73->Option R)(v:D73):Option R :=
 bif ((decide ((0:Int)<=v.2.1))&&(decide (v.2.1<(v.2.2.2.1.length:Int)))) then
 let t1:=(v.2.2.2.1.getD (Int.toNat v.2.1) ((0:Int),((0:Int),((0:Int),(false,(false,false))))))
 f1069p0 k
  (fun (w2:D184) =>
   k0 (w2.1,w2.2.1,w2.2.2.1,w2.2.2.2.1,w2.2.2.2.2.1,w2.2.2.2.2.2.1,()))
  (fun (w3:D205) =>
   bif w3.2.2.2.2.2.2.2.2.1 then
    bif (w3.1==(-1:Int)) then
     k1 (w3.2.2.2.2.2.1,w3.2.1,w3.2.2.1,w3.2.2.2.1,w3.2.2.2.2.1,())
    else
    k1 (w3.1,w3.2.1,w3.2.2.1,w3.2.2.2.1,w3.2.2.2.2.1,())
   else
   k1 (w3.1,w3.2.1,w3.2.2.1,w3.2.2.2.1,w3.2.2.2.2.1,()))
  (v.1,v.2.1,v.2.2.1,v.2.2.2.1,v.2.2.2.2.1,t1.1,t1.2.1,t1.2.2.1,t1.2.2.2.1,t1.2.2.2.2.1,t1.2.2.2.2.2,())
 else none
noncomputable def f1069l2s {R:Type}(k:Nat)(rec:D73->Option R)(k0:Int×Int×Unit->Option R)(k1:Int×Unit->Option R)(v:D73):Option R :=
 bif (decide (v.2.1<(v.2.2.2.1.length:Int))) then
  f1069p1 k
   (fun (w4:D186) =>
    k0 (w4.1,w4.2.1,()))
   (fun (w5:D73) =>
    rec (w5.1,(IntKind.i64.wrap (w5.2.1+(1:Int))),w5.2.2.1,w5.2.2.2.1,w5.2.2.2.2.1,()))
   (v.1,v.2.1,v.2.2.1,v.2.2.2.1,v.2.2.2.2.1,())
 else
 k1 (v.1,())
noncomputable def f1069l2 {R:Type}(k:Nat)(k0:Int×Int×Unit->Option R)(k1:Int×Unit->Option R)(v:D73):Option R:=iterS (fun rec v=>f1069l2s k rec k0 k1 v) k v
noncomputable def f1069F (k:Nat)(x:(ByteArray×D75)):Option (Int) :=
 f1069l2 k
  (fun (w6:Int×Int×Unit) =>
   some w6.1)
  (fun (w7:Int×Unit) =>
   some w7.1)
  ((-1:Int),(0:Int),x.1,x.2.1,x.2.2,())
noncomputable def f941v0F (k:Nat)(x:D74):Option (D207) :=
 bif (decide ((([]:List (Int×(Int×D70))).length+x.2.1.length)*32<=140737488355328)&&decide (([]:List (Int×(Int×D70))).length+x.2.1.length<=9223372036854775807)) then
 some (x.1,x.2.2.1,([]++x.2.1),())
 else none
noncomputable def f1014p0 {R:Type}(k:Nat)(k0:D206->Option R)(k1:D199->Option R)(v:D199):Option R :=
 Option.bind (f48F k ((IntKind.i64.wrap v.1),(32:Int),(126:Int))) fun y1 =>
 bif (!y1) then
  bif (v.1 !=(8:Int)) then
   bif (v.1 !=(9:Int)) then
    bif (v.1 !=(13:Int)) then
     k0 (v.1,(4:Int),v.2.1,v.2.2.1,v.2.2.2.1,v.2.1,v.2.2.1,v.2.2.2.1,())
    else
    k1 (v.1,v.2.1,v.2.2.1,v.2.2.2.1,v.2.2.2.2.1,v.2.2.2.2.2.1,())
   else
   k1 (v.1,v.2.1,v.2.2.1,v.2.2.2.1,v.2.2.2.2.1,v.2.2.2.2.2.1,())
  else
  k1 (v.1,v.2.1,v.2.2.1,v.2.2.2.1,v.2.2.2.2.1,v.2.2.2.2.2.1,())
 else
 k1 (v.1,v.2.1,v.2.2.1,v.2.2.2.1,v.2.2.2.2.1,v.2.2.2.2.2.1,())
noncomputable def f1014p1 {R:Type}(k:Nat)(k0:D208->Option R)(k1:D209->Option R)(v:D209):Option R :=
 bif (v.2.2.1==(-1:Int)) then
  k0 (v.1,(26:Int),v.2.1,v.2.2.1,v.2.2.2.1,v.2.2.2.2.1,v.2.2.2.1,v.2.2.2.2.1,v.2.2.2.2.2.2.2.1,())
 else
 bif (v.2.1==(-1:Int)) then
  bif (v.1 !=(9:Int)) then
   bif (v.1 !=(13:Int)) then
    k0 (v.1,(26:Int),v.2.1,v.2.2.1,v.2.2.2.1,v.2.2.2.2.1,v.2.2.2.1,v.2.2.2.2.1,v.2.2.2.2.2.2.2.1,())
   else
   k1 (v.1,v.2.1,v.2.2.1,v.2.2.2.1,v.2.2.2.2.1,v.2.2.2.2.2.1,v.2.2.2.2.2.2.1,v.2.2.2.2.2.2.2.1,())
  else
  k1 (v.1,v.2.1,v.2.2.1,v.2.2.2.1,v.2.2.2.2.1,v.2.2.2.2.2.1,v.2.2.2.2.2.2.1,v.2.2.2.2.2.2.2.1,())
 else
 k1 (v.1,v.2.1,v.2.2.1,v.2.2.2.1,v.2.2.2.2.1,v.2.2.2.2.2.1,v.2.2.2.2.2.2.1,v.2.2.2.2.2.2.2.1,())
noncomputable def f1014p2 {R:Type}(k:Nat)(k0:D210->Option R)(k1:D208->Option R)(v:D208):Option R :=
 let t15:=(v.2.2.2.2.2.2.2.2.1.getD (Int.toNat v.2.2.1) ((0:Int),((0:Int),((0:Int),(false,(false,false)))))).2.2.2.2.1
 bif t15 then
  Option.bind (f225F k v.1) fun y16 =>
  bif (!y16) then
   bif (v.1 !=(32:Int)) then
    bif (v.1 !=(45:Int)) then
     bif (v.1 !=(46:Int)) then
      k0 (v.1,(17:Int),v.2.1,v.2.2.1,v.2.2.2.1,v.2.2.2.2.1,v.2.2.2.2.2.1,v.2.2.2.2.1,v.2.2.2.2.2.1,v.2.2.2.2.2.2.2.2.1,())
     else
     k1 (v.1,v.2.1,v.2.2.1,v.2.2.2.1,v.2.2.2.2.1,v.2.2.2.2.2.1,v.2.2.2.2.2.2.1,v.2.2.2.2.2.2.2.1,v.2.2.2.2.2.2.2.2.1,())
    else
    k1 (v.1,v.2.1,v.2.2.1,v.2.2.2.1,v.2.2.2.2.1,v.2.2.2.2.2.1,v.2.2.2.2.2.2.1,v.2.2.2.2.2.2.2.1,v.2.2.2.2.2.2.2.2.1,())
   else
   k1 (v.1,v.2.1,v.2.2.1,v.2.2.2.1,v.2.2.2.2.1,v.2.2.2.2.2.1,v.2.2.2.2.2.2.1,v.2.2.2.2.2.2.2.1,v.2.2.2.2.2.2.2.2.1,())
  else
  k1 (v.1,v.2.1,v.2.2.1,v.2.2.2.1,v.2.2.2.2.1,v.2.2.2.2.2.1,v.2.2.2.2.2.2.1,v.2.2.2.2.2.2.2.1,v.2.2.2.2.2.2.2.2.1,())
 else
 k1 (v.1,v.2.1,v.2.2.1,v.2.2.2.1,v.2.2.2.2.1,v.2.2.2.2.2.1,v.2.2.2.2.2.2.1,v.2.2.2.2.2.2.2.1,v.2.2.2.2.2.2.2.2.1,())
noncomputable def f1014p3 {R:Type}(k:Nat)(k0:D211->Option R)(k1:D212->Option R)(v:D208):Option R :=
 bif (v.1==(8:Int)) then
  let t11:=(v.2.2.2.2.2.2.2.2.1.getD (Int.toNat v.2.2.1) ((0:Int),((0:Int),((0:Int),(false,(false,false)))))).1
  k0 (v.2.2.2.2.1,(mxI (IntKind.i64.wrap (v.2.2.2.2.2.1 - (1:Int))) t11),v.2.2.2.2.2.2.1,v.2.2.2.2.2.2.2.1,v.2.2.2.2.2.2.2.2.1,())
 else
 bif (v.1==(9:Int)) then
  k0 (v.2.2.2.2.1,v.2.1,v.2.2.2.2.2.2.1,v.2.2.2.2.2.2.2.1,v.2.2.2.2.2.2.2.2.1,())
 else
 bif (v.1==(13:Int)) then
  Option.bind (f72F k ((32:Int),(IntKind.i64.wrap (v.2.2.2.1 - v.2.2.2.2.2.1)))) fun y12 =>
  Option.bind (f1028F k (v.2.2.2.2.1,v.2.2.2.2.2.1,y12)) fun y13 =>
  let t14:=(v.2.2.2.2.2.2.2.2.1.set (Int.toNat v.2.2.1) ((v.2.2.2.2.2.2.2.2.1.getD (Int.toNat v.2.2.1) ((0:Int),((0:Int),((0:Int),(false,(false,false)))))).1,((v.2.2.2.2.2.2.2.2.1.getD (Int.toNat v.2.2.1) ((0:Int),((0:Int),((0:Int),(false,(false,false)))))).2.1,((v.2.2.2.2.2.2.2.2.1.getD (Int.toNat v.2.2.1) ((0:Int),((0:Int),((0:Int),(false,(false,false)))))).2.2.1,((v.2.2.2.2.2.2.2.2.1.getD (Int.toNat v.2.2.1) ((0:Int),((0:Int),((0:Int),(false,(false,false)))))).2.2.2.1,((v.2.2.2.2.2.2.2.2.1.getD (Int.toNat v.2.2.1) ((0:Int),((0:Int),((0:Int),(false,(false,false)))))).2.2.2.2.1,true))))))
  k0 (y13,v.2.1,v.2.2.2.2.2.2.1,v.2.2.2.2.2.2.2.1,t14,())
 else
 f1014p2 k
  (fun (w17:D210) =>
   k1 (w17.2.1,w17.2.2.2.2.2.1,w17.2.2.2.2.2.2.1,w17.2.2.2.2.2.2.2.1,w17.2.2.2.2.2.2.2.2.1,w17.2.2.2.2.2.2.2.2.2.1,()))
  (fun (w18:D208) =>
   Option.bind (f1028F k (w18.2.2.2.2.1,w18.2.2.2.2.2.1,(strOfNums [w18.1]))) fun y19 =>
   let t20:=(w18.2.2.2.2.2.2.2.2.1.set (Int.toNat w18.2.2.1) ((w18.2.2.2.2.2.2.2.2.1.getD (Int.toNat w18.2.2.1) ((0:Int),((0:Int),((0:Int),(false,(false,false)))))).1,((w18.2.2.2.2.2.2.2.2.1.getD (Int.toNat w18.2.2.1) ((0:Int),((0:Int),((0:Int),(false,(false,false)))))).2.1,((w18.2.2.2.2.2.2.2.2.1.getD (Int.toNat w18.2.2.1) ((0:Int),((0:Int),((0:Int),(false,(false,false)))))).2.2.1,((w18.2.2.2.2.2.2.2.2.1.getD (Int.toNat w18.2.2.1) ((0:Int),((0:Int),((0:Int),(false,(false,false)))))).2.2.2.1,((w18.2.2.2.2.2.2.2.2.1.getD (Int.toNat w18.2.2.1) ((0:Int),((0:Int),((0:Int),(false,(false,false)))))).2.2.2.2.1,true))))))
   let t21:=(decide ((IntKind.i64.wrap (w18.2.2.2.2.2.1+(1:Int)))<w18.2.2.2.1))
   bif t21 then
    k0 (y19,(IntKind.i64.wrap (w18.2.2.2.2.2.1+(1:Int))),w18.2.2.2.2.2.2.1,w18.2.2.2.2.2.2.2.1,t20,())
   else
   k0 (y19,w18.2.1,w18.2.2.2.2.2.2.1,w18.2.2.2.2.2.2.2.1,t20,()))
  (v.1,v.2.1,v.2.2.1,v.2.2.2.1,v.2.2.2.2.1,v.2.2.2.2.2.1,v.2.2.2.2.2.2.1,v.2.2.2.2.2.2.2.1,v.2.2.2.2.2.2.2.2.1,())
noncomputable def f1014F (k:Nat)(x:(ByteArray×D75)×Int):Option ((ByteArray×D75)×Int) :=
 f1014p0 k
  (fun (w2:D206) =>
   some ((w2.2.2.2.2.2.1,(w2.2.2.2.2.2.2.1,w2.2.2.2.2.2.2.2.1)),w2.2.1))
  (fun (w3:D199) =>
   Option.bind (f941v0F k (w3.2.1,w3.2.2.1,w3.2.2.2.1,())) fun y4 =>
   Option.bind (f1068F k (y4.1,(y4.2.2.1,y4.2.1))) fun y5 =>
   Option.bind (f1069F k (y4.1,(y4.2.2.1,y4.2.1))) fun y6 =>
   f1014p1 k
    (fun (w7:D208) =>
     some ((w7.2.2.2.2.2.2.1,(w7.2.2.2.2.2.2.2.2.1,w7.2.2.2.2.2.2.2.1)),w7.2.1))
    (fun (w8:D209) =>
     bif (w8.2.1==(-1:Int)) then
      some ((w8.2.2.2.1,(w8.2.2.2.2.2.2.2.1,w8.2.2.1)),(0:Int))
     else
     bif ((decide ((0:Int)<=w8.2.1))&&(decide (w8.2.1<(w8.2.2.2.2.2.2.2.1.length:Int)))) then
     let t9:=(w8.2.2.2.2.2.2.2.1.getD (Int.toNat w8.2.1) ((0:Int),((0:Int),((0:Int),(false,(false,false)))))).1
     let t10:=(w8.2.2.2.2.2.2.2.1.getD (Int.toNat w8.2.1) ((0:Int),((0:Int),((0:Int),(false,(false,false)))))).2.1
     f1014p3 k
      (fun (w22:D211) =>
       some ((w22.1,(w22.2.2.2.2.1,w22.2.1)),(0:Int)))
      (fun (w23:D212) =>
       some ((w23.2.2.2.1,(w23.2.2.2.2.2.1,w23.2.2.2.2.1)),w23.1))
      (w8.1,w8.2.2.1,w8.2.1,(IntKind.i64.wrap (t9+t10)),w8.2.2.2.1,w8.2.2.2.2.1,w8.2.2.2.2.2.1,w8.2.2.2.2.2.2.1,w8.2.2.2.2.2.2.2.1,())
     else none)
    (w3.1,y5,y6,y4.1,y4.2.1,w3.2.2.2.2.1,w3.2.2.2.2.2.1,y4.2.2.1,()))
  (x.2,x.1.1,x.1.2.1,x.1.2.2,ByteArray.empty,(0:Int),())
noncomputable def f945l0s {R:Type}(k:Nat)(rec:D214->Option R)(k0:D202->Option R)(k1:D213->Option R)(v:D214):Option R :=
 bif (decide (v.2.1<(v.1.size:Int))) then
  bif ((decide ((0:Int)<=v.2.1))&&(decide (v.2.1<(v.1.size:Int)))) then
  Option.bind (f1014F k ((v.2.2.1,(v.2.2.2.1,v.2.2.2.2.1)),(bt v.1 v.2.1))) fun y2 =>
  bif (y2.2 !=(0:Int)) then
   k0 (v.1,v.2.1,y2.2,v.2.2.1,v.2.2.2.1,v.2.2.2.2.1,ByteArray.empty,(0:Int),())
  else
  rec (v.1,(IntKind.i64.wrap (v.2.1+(1:Int))),y2.1.1,y2.1.2.1,y2.1.2.2,v.2.2.2.2.2.1,v.2.2.2.2.2.2.1,())
  else none
 else
 k1 (v.1,v.2.2.1,v.2.2.2.1,v.2.2.2.2.1,v.2.2.2.2.2.1,v.2.2.2.2.2.2.1,())
noncomputable def f945l0 {R:Type}(k:Nat)(k0:D202->Option R)(k1:D213->Option R)(v:D214):Option R:=iterS (fun rec v=>f945l0s k rec k0 k1 v) k v
noncomputable def f945F (k:Nat)(x:D94):Option (D95) :=
 Option.bind (f1007F k (x.1.1,(x.1.2.1,x.1.2.2))) fun y1 =>
 bif (y1 !=(0:Int)) then
  some ((ByteArray.empty,([],(0:Int))),(0:Int),y1)
 else
 bif (decide ((x.2.size:Int) > (4000:Int))) then
  some ((ByteArray.empty,([],(0:Int))),(0:Int),(2:Int))
 else
 f945l0 k
  (fun (w3:D202) =>
   some ((w3.2.2.2.2.2.2.1,([],w3.2.2.2.2.2.2.2.1)),w3.2.1,w3.2.2.1))
  (fun (w4:D213) =>
   some ((w4.2.1,(w4.2.2.1,w4.2.2.2.1)),(w4.1.size:Int),(0:Int)))
  (x.2,(0:Int),x.1.1,x.1.2.1,x.1.2.2,ByteArray.empty,(0:Int),())
noncomputable def f908F (k:Nat)(x:D94):Option (Bool) :=
 Option.bind (f915F k ()) fun y1 =>
 bif (!y1) then
  some false
 else
 Option.bind (f939F k (x.1.1,(x.1.2.1,x.1.2.2))) fun y2 =>
 bif (!y2) then
  some true
 else
 bif (decide ((x.2.size:Int) > (4100:Int))) then
  some true
 else
 Option.bind (f941F k (x.1.1,(x.1.2.1,x.1.2.2))) fun y3 =>
 Option.bind (f944F k ((y3.1,(y3.2.1,y3.2.2)),x.2)) fun y4 =>
 Option.bind (f945F k ((x.1.1,(x.1.2.1,x.1.2.2)),x.2)) fun y5 =>
 bif (y4.2.2==y5.2.2) then
  bif (y4.2.1==y5.2.1) then
   Option.bind (f943F k ((y4.1.1,(y4.1.2.1,y4.1.2.2)),(y5.1.1,(y5.1.2.1,y5.1.2.2)))) fun y6 =>
   some y6
  else
  some false
 else
 some false
noncomputable def f947T (k:Nat):TB P:=TB.nil |>.u (f1007Ok k) |>.u (f48Ok k)
noncomputable def f947p0 {R:Type}(k:Nat)(k0:D110->Option R)(k1:D111->Option R)(v:D111):Option R :=
 bif (v.1 !=(241:Int)) then
  Option.bind (f48F k (v.1,(49:Int),(72:Int))) fun y2 =>
  bif (!y2) then
   k0 (v.1,v.2.1,ByteArray.empty,(3:Int),v.2.2.1,v.2.2.2.1,v.2.2.2.2.1,())
  else
  k1 (v.1,v.2.1,v.2.2.1,v.2.2.2.1,v.2.2.2.2.1,())
 else
 k1 (v.1,v.2.1,v.2.2.1,v.2.2.2.1,v.2.2.2.2.1,())
noncomputable def f947p0S (k:Nat):=partSum ⟨[(1,.one (.int .i64)),(2,.one (.bool)),(3,.one (.ptr 0 0))],[(0,.var 77 [.str,.ro (.pair (.int .i64) Y9),.int .i64])],1,[]⟩ ⟨[1,2,3],[],[]⟩ fun R K v=>f947p0 k (fun w=>K .ret (encSt ⟨[(1,.one (.int .i64)),(2,.one (.bool)),(3,.one (.ptr 0 0)),(6,.one (.str)),(7,.one (.int .i64))],[(0,.var 77 [.str,.ro (.pair (.int .i64) Y9),.int .i64])],1,[]⟩ w)) (fun w=>K .normal (encSt ⟨[(1,.one (.int .i64)),(2,.one (.bool)),(3,.one (.ptr 0 0))],[(0,.var 77 [.str,.ro (.pair (.int .i64) Y9),.int .i64])],1,[]⟩ w)) v
theorem f947p0O (k:Nat):SumO P Tryz.f47 14 (f947p0S k):=pt tm (f947T k) ⟨[1,2,3,6,7,9,10,11,12],[],[]⟩ SumsOk.nil fun _ _ _=>by kernel_rfl
noncomputable def f947l1s {R:Type}(k:Nat)(rec:D215->Option R)(k0:D215->Option R)(v:D215):Option R :=
 bif (decide ((v.2.2.2.1.size:Int) > (0:Int))) then
  bif ((decide ((0:Int)<=(IntKind.i64.wrap ((v.2.2.2.1.size:Int) - (1:Int)))))&&(decide ((IntKind.i64.wrap ((v.2.2.2.1.size:Int) - (1:Int)))<(v.2.2.2.1.size:Int)))) then
  let t9:=((bt v.2.2.2.1 (IntKind.i64.wrap ((v.2.2.2.1.size:Int) - (1:Int))))==(32:Int))
  bif t9 then
   bif (sliceBds (0:Int) (IntKind.i64.wrap ((v.2.2.2.1.size:Int) - (1:Int))) (v.2.2.2.1.size:Int)) then
   let t10:=(v.2.2.2.1.extract 0 (Int.toNat (IntKind.i64.wrap ((v.2.2.2.1.size:Int) - (1:Int)))))
   rec (v.1,v.2.1,v.2.2.1,t10,v.2.2.2.2.1,v.2.2.2.2.2.1,v.2.2.2.2.2.2.1,v.2.2.2.2.2.2.2.1,v.2.2.2.2.2.2.2.2.1,v.2.2.2.2.2.2.2.2.2.1,v.2.2.2.2.2.2.2.2.2.2.1,v.2.2.2.2.2.2.2.2.2.2.2.1,v.2.2.2.2.2.2.2.2.2.2.2.2.1,())
   else none
  else
  k0 (v.1,v.2.1,v.2.2.1,v.2.2.2.1,v.2.2.2.2.1,v.2.2.2.2.2.1,v.2.2.2.2.2.2.1,v.2.2.2.2.2.2.2.1,v.2.2.2.2.2.2.2.2.1,v.2.2.2.2.2.2.2.2.2.1,v.2.2.2.2.2.2.2.2.2.2.1,v.2.2.2.2.2.2.2.2.2.2.2.1,v.2.2.2.2.2.2.2.2.2.2.2.2.1,())
  else none
 else
 k0 (v.1,v.2.1,v.2.2.1,v.2.2.2.1,v.2.2.2.2.1,v.2.2.2.2.2.1,v.2.2.2.2.2.2.1,v.2.2.2.2.2.2.2.1,v.2.2.2.2.2.2.2.2.1,v.2.2.2.2.2.2.2.2.2.1,v.2.2.2.2.2.2.2.2.2.2.1,v.2.2.2.2.2.2.2.2.2.2.2.1,v.2.2.2.2.2.2.2.2.2.2.2.2.1,())
noncomputable def f947l1 {R:Type}(k:Nat)(k0:D215->Option R)(v:D215):Option R:=iterS (fun rec v=>f947l1s k rec k0 v) k v
noncomputable def f947l1S (k:Nat):=loopSum ⟨[(2,.one (.bool)),(3,.one (.ptr 0 0)),(9,.one (.str)),(10,.one (.int .i64)),(11,.one (.ptr 1 0)),(12,.one (.str))],[(0,.var 77 [.str,.ro (.pair (.int .i64) Y9),.int .i64]),(1,.var 182 [.int .i64,.int .i64,.int .i64,.bool,.bool,.bool])],2,[]⟩ ⟨[2,3,9,10,11,12],[],[]⟩ k fun R rec K v=>f947l1s k rec (fun w=>K (.exit 2) (encSt ⟨[(2,.one (.bool)),(3,.one (.ptr 0 0)),(9,.one (.str)),(10,.one (.int .i64)),(11,.one (.ptr 1 0)),(12,.one (.str))],[(0,.var 77 [.str,.ro (.pair (.int .i64) Y9),.int .i64]),(1,.var 182 [.int .i64,.int .i64,.int .i64,.bool,.bool,.bool])],2,[]⟩ w)) v
theorem f947l1O (k:Nat):SumO P Tryz.f47 128156 (f947l1S k):=lp tm (f947T k) ⟨[2,3,6,7,9,10,11,12],[],[]⟩ SumsOk.nil (by kernel_rfl) fun _ _ _ _=>by kernel_rfl
noncomputable def f947p2 {R:Type}(k:Nat)(k0:D216->Option R)(k1:D215->Option R)(v:D217):Option R :=
 bif ((decide ((0:Int)<=v.2.2.1))&&(decide (v.2.2.1<(v.2.2.2.2.1.length:Int)))) then
 let t7:=(v.2.2.2.2.1.getD (Int.toNat v.2.2.1) ((0:Int),((0:Int),((0:Int),(false,(false,false))))))
 bif (!t7.2.2.2.2.2) then
  k0 (v.1,v.2.1,v.2.2.1,v.2.2.2.1,v.2.2.2.2.1,v.2.2.2.2.2.1,t7.1,t7.2.1,t7.2.2.1,t7.2.2.2.1,t7.2.2.2.2.1,t7.2.2.2.2.2,())
 else
 bif (sliceBds t7.1 (IntKind.i64.wrap (t7.1+t7.2.1)) (v.2.2.2.1.size:Int)) then
 let t8:=(v.2.2.2.1.extract (Int.toNat t7.1) (Int.toNat (IntKind.i64.wrap (t7.1+t7.2.1))))
 f947l1 k
  (fun (w11:D215) =>
   let t12:=(IntKind.i64.wrap ((IntKind.i64.wrap (Int.tdiv w11.2.2.2.2.2.2.2.1 (80:Int)))+(1:Int)))
   let t13:=(IntKind.i64.wrap ((Int.tmod w11.2.2.2.2.2.2.2.1 (80:Int))+(1:Int)))
   bif (decide (w11.2.1.size+(strOfNums [(17:Int),(IntKind.u8.wrap t12),(IntKind.u8.wrap t13)]).size<=9223372036854775807)) then
   let t14:=(w11.2.1++(strOfNums [(17:Int),(IntKind.u8.wrap t12),(IntKind.u8.wrap t13)]))
   bif (decide (t14.size+w11.2.2.2.1.size<=9223372036854775807)) then
   k1 (w11.1,(t14++w11.2.2.2.1),w11.2.2.1,w11.2.2.2.1,w11.2.2.2.2.1,w11.2.2.2.2.2.1,w11.2.2.2.2.2.2.1,w11.2.2.2.2.2.2.2.1,w11.2.2.2.2.2.2.2.2.1,w11.2.2.2.2.2.2.2.2.2.1,w11.2.2.2.2.2.2.2.2.2.2.1,w11.2.2.2.2.2.2.2.2.2.2.2.1,w11.2.2.2.2.2.2.2.2.2.2.2.2.1,())
   else none
   else none)
  (v.1,v.2.1,v.2.2.1,t8,v.2.2.2.1,v.2.2.2.2.1,v.2.2.2.2.2.1,t7.1,t7.2.1,t7.2.2.1,t7.2.2.2.1,t7.2.2.2.2.1,t7.2.2.2.2.2,())
 else none
 else none
noncomputable def f947p2S (k:Nat):=partSum ⟨[(2,.one (.bool)),(3,.one (.ptr 0 0)),(9,.one (.str)),(10,.one (.int .i64))],[(0,.var 77 [.str,.ro (.pair (.int .i64) Y9),.int .i64])],1,[]⟩ ⟨[2,3,9,10],[],[]⟩ fun R K v=>f947p2 k (fun w=>K .normal (encSt ⟨[(2,.one (.bool)),(3,.one (.ptr 0 0)),(9,.one (.str)),(10,.one (.int .i64)),(11,.one (.ptr 1 0))],[(0,.var 77 [.str,.ro (.pair (.int .i64) Y9),.int .i64]),(1,.var 182 [.int .i64,.int .i64,.int .i64,.bool,.bool,.bool])],2,[]⟩ w)) (fun w=>K .normal (encSt ⟨[(2,.one (.bool)),(3,.one (.ptr 0 0)),(9,.one (.str)),(10,.one (.int .i64)),(11,.one (.ptr 1 0)),(12,.one (.str))],[(0,.var 77 [.str,.ro (.pair (.int .i64) Y9),.int .i64]),(1,.var 182 [.int .i64,.int .i64,.int .i64,.bool,.bool,.bool])],2,[]⟩ w)) v
theorem f947p2O (k:Nat):SumO P Tryz.f47 2002 (f947p2S k):=pt tm (f947T k) ⟨[2,3,6,7,9,10,11,12],[],[]⟩ (SumsOk.nil |>.s (f947l1O k) (by kernel_rfl)) fun _ _ _=>by kernel_rfl
noncomputable def f947l3s {R:Type}(k:Nat)(rec:D217->Option R)(k0:ByteArray×Unit->Option R)(v:D217):Option R :=
 bif (decide (v.2.2.1<(v.2.2.2.2.1.length:Int))) then
  bif (!v.1) then
   f947p2 k
    (fun (w15:D216) =>
     rec (w15.1,w15.2.1,(IntKind.i64.wrap (w15.2.2.1+(1:Int))),w15.2.2.2.1,w15.2.2.2.2.1,w15.2.2.2.2.2.1,()))
    (fun (w16:D215) =>
     rec (w16.1,w16.2.1,(IntKind.i64.wrap (w16.2.2.1+(1:Int))),w16.2.2.2.2.1,w16.2.2.2.2.2.1,w16.2.2.2.2.2.2.1,()))
    (v.1,v.2.1,v.2.2.1,v.2.2.2.1,v.2.2.2.2.1,v.2.2.2.2.2.1,())
  else
  k0 (v.2.1,())
 else
 k0 (v.2.1,())
noncomputable def f947l3 {R:Type}(k:Nat)(k0:ByteArray×Unit->Option R)(v:D217):Option R:=iterS (fun rec v=>f947l3s k rec k0 v) k v
noncomputable def f947l3S (k:Nat):=loopSum ⟨[(2,.one (.bool)),(3,.one (.ptr 0 0)),(9,.one (.str)),(10,.one (.int .i64))],[(0,.var 77 [.str,.ro (.pair (.int .i64) Y9),.int .i64])],1,[]⟩ ⟨[2,3,9,10],[],[]⟩ k fun R rec K v=>f947l3s k rec (fun w=>K (.exit 0) (encSt ⟨[(9,.one (.str))],[],0,[]⟩ w)) v
theorem f947l3O (k:Nat):SumO P Tryz.f47 250 (f947l3S k):=lp tm (f947T k) ⟨[6,7,9],[],[]⟩ (SumsOk.nil |>.s (f947p2O k) (by kernel_rfl) |>.s (f947l1O k) (by kernel_rfl)) (by kernel_rfl) fun _ _ _ _=>by kernel_rfl
noncomputable def f947F (k:Nat)(x:D113):Option (ByteArray×Int) :=
 Option.bind (f1007F k (x.1.1,(x.1.2.1,x.1.2.2))) fun y1 =>
 bif (y1 !=(0:Int)) then
  some (ByteArray.empty,y1)
 else
 f947p0 k
  (fun (w3:D110) =>
   some (w3.2.2.1,w3.2.2.2.1))
  (fun (w4:D111) =>
   let t5:=(IntKind.i64.wrap ((IntKind.i64.wrap (Int.tdiv w4.2.2.2.2.1 (80:Int)))+(1:Int)))
   let t6:=(IntKind.u8.wrap (IntKind.i64.wrap ((Int.tmod w4.2.2.2.2.1 (80:Int))+(1:Int))))
   f947l3 k
    (fun (w17:ByteArray×Unit) =>
     some (w17.1,(0:Int)))
    (w4.2.1,(strOfNums [(IntKind.u8.wrap t5),t6,(IntKind.u8.wrap w4.1)]),(0:Int),w4.2.2.1,w4.2.2.2.1,w4.2.2.2.2.1,()))
  (x.2.1,x.2.2,x.1.1,x.1.2.1,x.1.2.2,())
theorem f947Ok (k:Nat):FnV P 47 [.agg (.pair .str Y10),.dat (.int .i64),.dat .bool] [.dat .str,.dat (.int .i64)] (f947F k) :=
 fs tm (f947T k) Tryz.func47 (by kernel_rfl) (SumsOk.nil |>.s (f947l3O k) (by kernel_rfl) |>.s (f947p2O k) (by kernel_rfl) |>.s (f947l1O k) (by kernel_rfl) |>.s (f947p0O k) (by kernel_rfl)) none fun _=>by kernel_rfl
noncomputable def f909T (k:Nat):TB P:=TB.nil |>.u (f947Ok k) |>.u (f946Ok k) |>.p (f941Ok k) |>.u (f939Ok k) |>.u (f915Ok k)
noncomputable def f909F (k:Nat)(x:D113):Option (Bool) :=
 Option.bind (f915F k ()) fun y1 =>
 bif (!y1) then
  some false
 else
 Option.bind (f939F k (x.1.1,(x.1.2.1,x.1.2.2))) fun y2 =>
 bif (!y2) then
  some true
 else
 Option.bind (f941F k (x.1.1,(x.1.2.1,x.1.2.2))) fun y3 =>
 Option.bind (f946F k ((y3.1,(y3.2.1,y3.2.2)),x.2.1,x.2.2)) fun y4 =>
 Option.bind (f947F k ((x.1.1,(x.1.2.1,x.1.2.2)),x.2.1,x.2.2)) fun y5 =>
 bif (y4.2==y5.2) then
  some (strEq y4.1 y5.1)
 else
 some false
theorem f909Ok (k:Nat):FnV P 9 [.agg (.pair .str Y10),.dat (.int .i64),.dat .bool] [.dat .bool] (f909F k) :=
 fs tm (f909T k) Tryz.func9 (by kernel_rfl) SumsOk.nil none fun _=>by kernel_rfl
end Go.Proofs.YteadgfclfopccaaGreatDoor
