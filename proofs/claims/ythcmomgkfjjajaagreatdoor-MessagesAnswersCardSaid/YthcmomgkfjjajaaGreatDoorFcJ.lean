import Derived.Test.YthcmomgkfjjajaaGreatDoorFbJ
import Derived.Test.YthcmomgkfjjajaaGreatDoorProg
set_option linter.unusedVariables false
set_option maxRecDepth 100000
namespace Go.Proofs.YthcmomgkfjjajaaGreatDoor
open Go.Ab
noncomputable def f794v0I:Shape:=⟨[(0,oS),(1,.one (.ptr 0 0))],[(0,.var 25 [.ro Y10,.ro (.pair .str Y5)])],1,[]⟩
noncomputable def f794v0U:Shape:=⟨[(0,oB)],[(0,.var 25 [.ro Y10,.ro (.pair .str Y5)])],1,[]⟩
noncomputable def f794v0T (k:Nat):TB P:=TB.nil |>.u (f752Ok k)
noncomputable def f794v0F (k:Nat)(x:D110):Option (D111) :=
 Option.bind (f752F k ((x.2.1,x.2.2.1),x.1)) fun y1 =>
 some ((decide (y1<0)),x.2.1,x.2.2.1,())
theorem f794v0Ok (k:Nat):GnV P 94 f794v0I f794v0U (f794v0F k) :=
 gs tm (f794v0T k) Tryz.func94 (by kernel_rfl) SumsOk.nil [.dat .bool] [] none fun _=>by kernel_rfl
noncomputable def f821v0I:Shape:=⟨[(0,.one (.ro .str)),(1,.one (.fn 94 [0]))],[(0,.var 25 [.ro Y10,.ro (.pair .str Y5)])],1,[]⟩
noncomputable def f821v0U:Shape:=⟨[(0,oI)],[(0,.var 25 [.ro Y10,.ro (.pair .str Y5)])],1,[]⟩
noncomputable def f821v0T (k:Nat):TB P:=TB.nil |>.g (f794v0Ok k)
noncomputable def f821v0l0s {R:Type}(k:Nat)(rec:D114->Option R)(k0:D112->Option R)(k1:D113->Option R)(v:D114):Option R :=
 bif (decide (v.2.2.1<v.2.1)) then
 bif ((decide (0<=v.2.2.1))&&(decide (v.2.2.1<(v.1.length:Int)))) then
 Option.bind (f794v0F k ((v.1.getD (Int.toNat v.2.2.1) ByteArray.empty),v.2.2.2.1,v.2.2.2.2.1,())) fun y1 =>
 bif y1.1 then
 k0 (v.2.2.1,y1.2.1,y1.2.2.1,())
 else
 rec (v.1,v.2.1,(IntKind.i64.wrap (v.2.2.1+1)),y1.2.1,y1.2.2.1,())
 else none
 else
 k1 (v.2.2.2.1,v.2.2.2.2.1,())
noncomputable def f821v0l0 {R:Type}(k:Nat)(k0:D112->Option R)(k1:D113->Option R)(v:D114):Option R:=iterS (fun rec v=>f821v0l0s k rec k0 k1 v) k v
noncomputable def f821v0l0S (k:Nat):=loopSum ⟨[(0,.one (.ro .str)),(1,.one (.fn 94 [0])),(7,oI),(8,oI)],[(0,.var 25 [.ro Y10,.ro (.pair .str Y5)])],1,[some 0]⟩ ⟨[0,1,7,8],[],[]⟩ k fun R rec K v=>f821v0l0s k rec (fun w=>K .ret (encSt ⟨[(4,oI)],[(0,.var 25 [.ro Y10,.ro (.pair .str Y5)])],1,[some 0]⟩ w)) (fun w=>K (.exit 0) (encSt ⟨[],[(0,.var 25 [.ro Y10,.ro (.pair .str Y5)])],1,[some 0]⟩ w)) v
theorem f821v0l0O (k:Nat):SumO P Tryz.f121 26 (f821v0l0S k):=lp tm (f821v0T k) ⟨[4],[],[]⟩ SumsOk.nil (by kernel_rfl) fun _ _ _ _=>by kernel_rfl
noncomputable def f821v0F (k:Nat)(x:D115):Option (D112) :=
 f821v0l0 k
 (fun (w2:D112) =>
 some (w2.1,w2.2.1,w2.2.2.1,()))
 (fun (w3:D113) =>
 some ((-1),w3.1,w3.2.1,()))
 (x.1,(x.1.length:Int),0,x.2.1,x.2.2.1,())
theorem f821v0Ok (k:Nat):GnV P 121 f821v0I f821v0U (f821v0F k) :=
 gs tm (f821v0T k) Tryz.func121 (by kernel_rfl) (SumsOk.nil |>.s (f821v0l0O k) (by kernel_rfl)) [.dat .bool] [] none fun _=>by kernel_rfl
noncomputable def f793v0I:Shape:=⟨[(0,.one (.ro .str)),(1,.one (.fn 94 [0]))],[(0,.var 25 [.ro Y10,.ro (.pair .str Y5)])],1,[]⟩
noncomputable def f793v0U:Shape:=⟨[(0,oB)],[(0,.var 25 [.ro Y10,.ro (.pair .str Y5)])],1,[]⟩
noncomputable def f793v0T (k:Nat):TB P:=TB.nil |>.g (f821v0Ok k)
noncomputable def f793v0F (k:Nat)(x:D115):Option (D111) :=
 Option.bind (f821v0F k (x.1,x.2.1,x.2.2.1,())) fun y1 =>
 some ((decide (y1.1≥0)),y1.2.1,y1.2.2.1,())
theorem f793v0Ok (k:Nat):GnV P 93 f793v0I f793v0U (f793v0F k) :=
 gs tm (f793v0T k) Tryz.func93 (by kernel_rfl) SumsOk.nil [.dat .bool] [] none fun _=>by kernel_rfl
noncomputable def f751T (k:Nat):TB P:=TB.nil |>.g (f793v0Ok k) |>.u (f761Ok k) |>.u (f739Ok k)
noncomputable def f751F (k:Nat)(x:D14×(List ByteArray)):Option (Int) :=
 Option.bind (f739F k (x.1.1,x.1.2)) fun y1 =>
 bif (y1.2 !=0) then
 some y1.2
 else
 Option.bind (f793v0F k (x.2,x.1.1,x.1.2,())) fun y2 =>
 Option.bind (f761F k (y2.1,11)) fun y3 =>
 some y3
theorem f751Ok (k:Nat):FnV P 51 [.agg Y11,.dat (.slice .str)] [.dat (.int .i64)] (f751F k) :=
 fs tm (f751T k) Tryz.func51 (by kernel_rfl) SumsOk.nil none fun _=>by kernel_rfl
noncomputable def f754v0I:Shape:=⟨[(0,.agg [.ro Y10,.ro (.pair .str Y5)])],[(0,.heap 42 Y3)],1,[]⟩
noncomputable def f754v0U:Shape:=⟨[(0,.agg [.ro Y10,.own 1])],[(0,.heap 42 Y3),(1,.row 69 (.pair .str Y16) .plain)],2,[]⟩
noncomputable def f754v0T (k:Nat):TB P:=TB.nil |>.u (f799V k) |>.p (f798V k)
noncomputable def f754v0l0s {R:Type}(k:Nat)(rec:D119->Option R)(k0:D90->Option R)(v:D119):Option R :=
 bif (decide (v.2.1<v.1)) then
 bif ((decide (0<=v.2.1))&&(decide (v.2.1<(v.2.2.2.2.1.length:Int)))) then
 let t2:=(v.2.2.2.2.1.getD (Int.toNat v.2.1) (ByteArray.empty,(0,(false,(0,(0:Nat)))))).2.2.2.2
 Option.bind (bif ((kalive v.2.2.1 t2&&true)&&true) then f799F k (kget v.2.2.1 t2) else none) fun y3 =>
 bif ((decide (0<=v.2.1))&&(decide (v.2.1<(v.2.2.2.2.1.length:Int)))) then
 let t4:=(v.2.2.2.2.1.set (Int.toNat v.2.1) ((v.2.2.2.2.1.getD (Int.toNat v.2.1) (ByteArray.empty,(0,(false,(0,(0:Nat)))))).1,((v.2.2.2.2.1.getD (Int.toNat v.2.1) (ByteArray.empty,(0,(false,(0,(0:Nat)))))).2.1,((v.2.2.2.2.1.getD (Int.toNat v.2.1) (ByteArray.empty,(0,(false,(0,(0:Nat)))))).2.2.1,((v.2.2.2.2.1.getD (Int.toNat v.2.1) (ByteArray.empty,(0,(false,(0,(0:Nat)))))).2.2.2.1,(v.2.2.1.length+1))))))
 rec (v.1,(IntKind.i64.wrap (v.2.1+1)),(v.2.2.1++[kidOf y3]),v.2.2.2.1,t4,v.2.2.2.2.2.1,v.2.2.2.2.2.2.1,())
 else none
 else none
 else
 k0 (v.2.2.1,v.2.2.2.1,v.2.2.2.2.1,v.2.2.2.2.2.1,v.2.2.2.2.2.2.1,())
noncomputable def f754v0l0 {R:Type}(k:Nat)(k0:D90->Option R)(v:D119):Option R:=iterS (fun rec v=>f754v0l0s k rec k0 v) k v
noncomputable def f754v0l0S (k:Nat):=loopSum ⟨[(1,.one (.ptr 1 0)),(2,.one (.ptr 2 0)),(10,oI),(11,oI)],[(0,.heap 42 Y3),(1,.var 25 [.ro Y10,.own 3]),(2,.var 25 [.own 4,.own 5]),(3,.row 69 (.pair .str Y16) .plain),(4,.row 82 Y10 .plain),(5,.row 69 (.pair .str Y16) .plain)],6,[some 0]⟩ ⟨[1,2,10,11],[],[]⟩ k fun R rec K v=>f754v0l0s k rec (fun w=>K (.exit 0) (encSt ⟨[(1,.one (.ptr 1 0)),(2,.one (.ptr 2 0))],[(0,.heap 42 Y3),(1,.var 25 [.ro Y10,.own 3]),(2,.var 25 [.own 4,.own 5]),(3,.row 69 (.pair .str Y16) .plain),(4,.row 82 Y10 .plain),(5,.row 69 (.pair .str Y16) .plain)],6,[some 0]⟩ w)) v
theorem f754v0l0O (k:Nat):SumO P Tryz.f54 58 (f754v0l0S k):=lp htm0 (f754v0T k) ⟨[1,2],[],[]⟩ SumsOk.nil (by kernel_rfl) fun _ _ _ _=>by kernel_rfl
noncomputable def f754v0F (k:Nat)(x:D95):Option (D120) :=
 Option.bind (f798F k x.2.1) fun y1 =>
 f754v0l0 k
 (fun (w5:D90) =>
 some (w5.2.1,w5.1,w5.2.2.1,()))
 (((deepL Y3 (.pair .str Y16) y1 x.2.2.1.length).1.length:Int),0,(x.2.2.1++(deepL Y3 (.pair .str Y16) y1 x.2.2.1.length).2),x.1,(deepL Y3 (.pair .str Y16) y1 x.2.2.1.length).1,[],[],())
theorem f754v0Ok (k:Nat):GnV P 54 f754v0I f754v0U (f754v0F k) :=
 gs htm0 (f754v0T k) Tryz.func54 (by kernel_rfl) (SumsOk.nil |>.s (f754v0l0O k) (by kernel_rfl)) [.own 0 .bool] [] none fun _=>by kernel_rfl
noncomputable def f800v2I:Shape:=⟨[(0,.one (.ref Y3)),(1,.one (.fn 101 []))],[(0,.heap 42 Y3)],1,[]⟩
noncomputable def f800v2U:Shape:=⟨[(0,oI)],[(0,.heap 42 Y3)],1,[]⟩
noncomputable def f800v2T (k:Nat):TB P:=TB.nil |>.u (f801Ok k)
noncomputable def f800v2l0s {R:Type}(k:Nat)(rec:D123->Option R)(k0:D121->Option R)(k1:D122->Option R)(v:D123):Option R :=
 bif (decide (v.2.2.1<v.2.1)) then
 bif ((kalive v.2.2.2.1 v.1)&&((decide (0<=v.2.2.1))&&(decide (v.2.2.1<((kget v.2.2.2.1 v.1).length:Int))))) then
 bif (kalive v.2.2.2.1 v.1) then
 let t1:=((kget v.2.2.2.1 v.1).getD (Int.toNat v.2.2.1) (0,(0,(ByteArray.empty,(ByteArray.empty,(ByteArray.empty,(false,(false,0)))))))).1
 let t2:=((kget v.2.2.2.1 v.1).getD (Int.toNat v.2.2.1) (0,(0,(ByteArray.empty,(ByteArray.empty,(ByteArray.empty,(false,(false,0)))))))).2.1
 let t3:=((kget v.2.2.2.1 v.1).getD (Int.toNat v.2.2.1) (0,(0,(ByteArray.empty,(ByteArray.empty,(ByteArray.empty,(false,(false,0)))))))).2.2.1
 let t4:=((kget v.2.2.2.1 v.1).getD (Int.toNat v.2.2.1) (0,(0,(ByteArray.empty,(ByteArray.empty,(ByteArray.empty,(false,(false,0)))))))).2.2.2.1
 let t5:=((kget v.2.2.2.1 v.1).getD (Int.toNat v.2.2.1) (0,(0,(ByteArray.empty,(ByteArray.empty,(ByteArray.empty,(false,(false,0)))))))).2.2.2.2.1
 let t6:=((kget v.2.2.2.1 v.1).getD (Int.toNat v.2.2.1) (0,(0,(ByteArray.empty,(ByteArray.empty,(ByteArray.empty,(false,(false,0)))))))).2.2.2.2.2.1
 let t7:=((kget v.2.2.2.1 v.1).getD (Int.toNat v.2.2.1) (0,(0,(ByteArray.empty,(ByteArray.empty,(ByteArray.empty,(false,(false,0)))))))).2.2.2.2.2.2.1
 let t8:=((kget v.2.2.2.1 v.1).getD (Int.toNat v.2.2.1) (0,(0,(ByteArray.empty,(ByteArray.empty,(ByteArray.empty,(false,(false,0)))))))).2.2.2.2.2.2.2
 Option.bind (f801F k (t1,(t2,(t3,(t4,(t5,(t6,(t7,t8)))))))) fun y9 =>
 bif y9 then
 k0 (v.2.2.1,v.2.2.2.1,())
 else
 rec (v.1,v.2.1,(IntKind.i64.wrap (v.2.2.1+1)),v.2.2.2.1,())
 else none
 else none
 else
 k1 (v.2.2.2.1,())
noncomputable def f800v2l0 {R:Type}(k:Nat)(k0:D121->Option R)(k1:D122->Option R)(v:D123):Option R:=iterS (fun rec v=>f800v2l0s k rec k0 k1 v) k v
noncomputable def f800v2l0S (k:Nat):=loopSum ⟨[(0,.one (.ref Y3)),(1,.one (.fn 101 [])),(7,oI),(8,oI)],[(0,.heap 42 Y3)],1,[some 0]⟩ ⟨[0,1,7,8],[],[]⟩ k fun R rec K v=>f800v2l0s k rec (fun w=>K .ret (encSt ⟨[(4,oI)],[(0,.heap 42 Y3)],1,[some 0]⟩ w)) (fun w=>K (.exit 0) (encSt ⟨[],[(0,.heap 42 Y3)],1,[some 0]⟩ w)) v
theorem f800v2l0O (k:Nat):SumO P Tryz.f100 26 (f800v2l0S k):=lp htm0 (f800v2T k) ⟨[4],[],[]⟩ SumsOk.nil (by kernel_rfl) fun _ _ _ _=>by kernel_rfl
noncomputable def f800v2F (k:Nat)(x:D124):Option (D121) :=
 bif (kalive x.2.1 x.1) then
 f800v2l0 k
 (fun (w10:D121) =>
 some (w10.1,w10.2.1,()))
 (fun (w11:D122) =>
 some ((-1),w11.1,()))
 (x.1,((kget x.2.1 x.1).length:Int),0,x.2.1,())
 else none
theorem f800v2Ok (k:Nat):GnV P 100 f800v2I f800v2U (f800v2F k) :=
 gs htm0 (f800v2T k) Tryz.func100 (by kernel_rfl) (SumsOk.nil |>.s (f800v2l0O k) (by kernel_rfl)) [.dat .bool] [] none fun _=>by kernel_rfl
noncomputable def f802v0I:Shape:=⟨[(0,.one (.ref Y3)),(1,oI),(2,oI)],[(0,.heap 42 Y3)],1,[]⟩
noncomputable def f802v0U:Shape:=⟨[(0,.one (.ref Y3))],[(0,.heap 42 Y3)],1,[]⟩
noncomputable def f802v0F (k:Nat)(x:D123):Option (D124) :=
 bif (kalive x.2.2.2.1 x.1) then
 bif ((kalive x.2.2.2.1 x.1)&&(((decide (0<=x.2.1))&&(decide (x.2.1<=x.2.2.1)))&&((decide (x.2.2.1<=((kget x.2.2.2.1 x.1).length:Int)))&&(decide (((kget x.2.2.2.1 x.1).length:Int)<=(kcap x.2.2.2.1 x.1:Int)))))) then
 bif (x.2.1==x.2.2.1) then
 some (x.1,x.2.2.2.1,())
 else
 bif (kalive x.2.2.2.1 x.1) then
 bif ((kalive x.2.2.2.1 x.1)&&(sliceBds 0 x.2.1 (kcap x.2.2.2.1 x.1:Int))) then
 bif ((kalive x.2.2.2.1 x.1)&&(sliceBds x.2.2.1 ((kget x.2.2.2.1 x.1).length:Int) (kcap x.2.2.2.1 x.1:Int))) then
 bif (((kalive x.2.2.2.1 x.1)&&(decide (((kget x.2.2.2.1 x.1).length:Int)<=((kget x.2.2.2.1 x.1).length:Int))))&&((decide (x.2.1<=((kget x.2.2.2.1 x.1).length:Int)))&&(kown x.2.2.2.1 x.1&&(decide (((Int.toNat x.2.1)+(((kget x.2.2.2.1 x.1).take (Int.toNat ((kget x.2.2.2.1 x.1).length:Int))).drop (Int.toNat x.2.2.1)).length)*80<=140737488355328)&&decide ((Int.toNat x.2.1)+(((kget x.2.2.2.1 x.1).take (Int.toNat ((kget x.2.2.2.1 x.1).length:Int))).drop (Int.toNat x.2.2.1)).length<=9223372036854775807))))) then
 let t1:=(kapp x.2.2.2.1 x.1 (Int.toNat x.2.1) (((kget x.2.2.2.1 x.1).take (Int.toNat ((kget x.2.2.2.1 x.1).length:Int))).drop (Int.toNat x.2.2.1)))
 bif (kalive t1 (x.2.2.2.1.length+1)) then
 bif ((kalive t1 (x.2.2.2.1.length+1))&&(sliceBds ((kget t1 (x.2.2.2.1.length+1)).length:Int) ((kget x.2.2.2.1 x.1).length:Int) (kcap t1 (x.2.2.2.1.length+1):Int))) then
 bif (kown t1 (x.2.2.2.1.length+1)) then
 let t2:=(kwrt t1 (x.2.2.2.1.length+1) (Int.toNat ((kget t1 (x.2.2.2.1.length+1)).length:Int)) (List.replicate (Int.toNat (((kget x.2.2.2.1 x.1).length:Int) - ((kget t1 (x.2.2.2.1.length+1)).length:Int))) (0,(0,(ByteArray.empty,(ByteArray.empty,(ByteArray.empty,(false,(false,0)))))))))
 some ((x.2.2.2.1.length+1),t2,())
 else none
 else none
 else none
 else none
 else none
 else none
 else none
 else none
 else none
theorem f802v0Ok (k:Nat):GnV P 102 f802v0I f802v0U (f802v0F k) :=
 gs htm0 TB.nil Tryz.func102 (by kernel_rfl) SumsOk.nil [.dat .bool] [] none fun _=>by kernel_rfl
noncomputable def f755v0I:Shape:=⟨[(0,.agg [.ro Y10,.own 0]),(1,oS),(2,.agg [.int .i64,.int .i64,.str,.str,.str,.bool,.bool,.int .i64])],[(0,.row 69 (.pair .str Y16) .plain),(1,.heap 42 Y3)],2,[]⟩
noncomputable def f755v0U:Shape:=⟨[(0,oI),(1,oI)],[(0,.row 69 (.pair .str Y16) .plain),(1,.heap 42 Y3)],2,[]⟩
noncomputable def f755v0T (k:Nat):TB P:=TB.nil |>.g (f802v0Ok k) |>.g (f800v2Ok k) |>.u (f752Ok k)
noncomputable def f755v0F (k:Nat)(x:D125):Option (D126) :=
 Option.bind (bif (((x.2.2.2.2.2.2.2.2.2.2.1.all fun q=>(true&&(true&&(true&&(true&&(kalive x.2.2.2.2.2.2.2.2.2.2.2.1 q.2.2.2.2))))))&&true)&&true) then f752F k ((x.1,(x.2.2.2.2.2.2.2.2.2.2.1.map fun q=>(q.1,(q.2.1,(q.2.2.1,(q.2.2.2.1,(kget x.2.2.2.2.2.2.2.2.2.2.2.1 q.2.2.2.2))))))),x.2.1) else none) fun y1 =>
 bif ((decide (0<=y1))&&(decide (y1<(x.2.2.2.2.2.2.2.2.2.2.1.length:Int)))) then
 let t2:=(x.2.2.2.2.2.2.2.2.2.2.1.getD (Int.toNat y1) (ByteArray.empty,(0,(false,(0,(0:Nat)))))).2.2.2.1
 bif (t2==1000000) then
 some (0,3,x.2.2.2.2.2.2.2.2.2.2.1,x.2.2.2.2.2.2.2.2.2.2.2.1,())
 else
 let t3:=(x.2.2.2.2.2.2.2.2.2.2.1.getD (Int.toNat y1) (ByteArray.empty,(0,(false,(0,(0:Nat)))))).2.2.2.2
 bif (kalive x.2.2.2.2.2.2.2.2.2.2.2.1 t3) then
 let t4:=(x.2.2.2.2.2.2.2.2.2.2.1.getD (Int.toNat y1) (ByteArray.empty,(0,(false,(0,(0:Nat)))))).2.1
 bif (((kget x.2.2.2.2.2.2.2.2.2.2.2.1 t3).length:Int)==t4) then
 let t5:=(x.2.2.2.2.2.2.2.2.2.2.1.getD (Int.toNat y1) (ByteArray.empty,(0,(false,(0,(0:Nat)))))).2.2.2.2
 Option.bind (f800v2F k (t5,x.2.2.2.2.2.2.2.2.2.2.2.1,())) fun y6 =>
 let t7:=(x.2.2.2.2.2.2.2.2.2.2.1.getD (Int.toNat y1) (ByteArray.empty,(0,(false,(0,(0:Nat)))))).2.2.1
 bif (!t7) then
 some (0,30,x.2.2.2.2.2.2.2.2.2.2.1,y6.2.1,())
 else
 bif (decide (y6.1<0)) then
 some (0,30,x.2.2.2.2.2.2.2.2.2.2.1,y6.2.1,())
 else
 let t8:=(x.2.2.2.2.2.2.2.2.2.2.1.getD (Int.toNat y1) (ByteArray.empty,(0,(false,(0,(0:Nat)))))).2.2.2.2
 Option.bind (f802v0F k (t8,y6.1,(IntKind.i64.wrap (y6.1+1)),y6.2.1,())) fun y9 =>
 let t10:=(x.2.2.2.2.2.2.2.2.2.2.1.set (Int.toNat y1) ((x.2.2.2.2.2.2.2.2.2.2.1.getD (Int.toNat y1) (ByteArray.empty,(0,(false,(0,(0:Nat)))))).1,((x.2.2.2.2.2.2.2.2.2.2.1.getD (Int.toNat y1) (ByteArray.empty,(0,(false,(0,(0:Nat)))))).2.1,((x.2.2.2.2.2.2.2.2.2.2.1.getD (Int.toNat y1) (ByteArray.empty,(0,(false,(0,(0:Nat)))))).2.2.1,((x.2.2.2.2.2.2.2.2.2.2.1.getD (Int.toNat y1) (ByteArray.empty,(0,(false,(0,(0:Nat)))))).2.2.2.1,y9.1)))))
 let t11:=(t10.getD (Int.toNat y1) (ByteArray.empty,(0,(false,(0,(0:Nat)))))).2.2.2.1
 let t12:=(t10.getD (Int.toNat y1) (ByteArray.empty,(0,(false,(0,(0:Nat)))))).2.2.2.1
 let t13:=(t10.set (Int.toNat y1) ((t10.getD (Int.toNat y1) (ByteArray.empty,(0,(false,(0,(0:Nat)))))).1,((t10.getD (Int.toNat y1) (ByteArray.empty,(0,(false,(0,(0:Nat)))))).2.1,((t10.getD (Int.toNat y1) (ByteArray.empty,(0,(false,(0,(0:Nat)))))).2.2.1,((IntKind.i64.wrap (t12+1)),(t10.getD (Int.toNat y1) (ByteArray.empty,(0,(false,(0,(0:Nat)))))).2.2.2.2)))))
 let t14:=(t13.getD (Int.toNat y1) (ByteArray.empty,(0,(false,(0,(0:Nat)))))).2.2.2.2
 let t15:=[(t11,(x.2.2.2.1,(x.2.2.2.2.1,(x.2.2.2.2.2.1,(x.2.2.2.2.2.2.1,(x.2.2.2.2.2.2.2.1,(x.2.2.2.2.2.2.2.2.1,x.2.2.2.2.2.2.2.2.2.1)))))))]
 bif (kown y9.2.1 t14&&(decide (((kget y9.2.1 t14).length+t15.length)*80<=140737488355328)&&decide ((kget y9.2.1 t14).length+t15.length<=9223372036854775807))) then
 let t16:=(t13.set (Int.toNat y1) ((t13.getD (Int.toNat y1) (ByteArray.empty,(0,(false,(0,(0:Nat)))))).1,((t13.getD (Int.toNat y1) (ByteArray.empty,(0,(false,(0,(0:Nat)))))).2.1,((t13.getD (Int.toNat y1) (ByteArray.empty,(0,(false,(0,(0:Nat)))))).2.2.1,((t13.getD (Int.toNat y1) (ByteArray.empty,(0,(false,(0,(0:Nat)))))).2.2.2.1,(y9.2.1.length+1))))))
 some (t11,0,t16,(kapp y9.2.1 t14 (kget y9.2.1 t14).length t15),())
 else none
 else
 let t17:=(x.2.2.2.2.2.2.2.2.2.2.1.getD (Int.toNat y1) (ByteArray.empty,(0,(false,(0,(0:Nat)))))).2.2.2.1
 let t18:=(x.2.2.2.2.2.2.2.2.2.2.1.getD (Int.toNat y1) (ByteArray.empty,(0,(false,(0,(0:Nat)))))).2.2.2.1
 let t19:=(x.2.2.2.2.2.2.2.2.2.2.1.set (Int.toNat y1) ((x.2.2.2.2.2.2.2.2.2.2.1.getD (Int.toNat y1) (ByteArray.empty,(0,(false,(0,(0:Nat)))))).1,((x.2.2.2.2.2.2.2.2.2.2.1.getD (Int.toNat y1) (ByteArray.empty,(0,(false,(0,(0:Nat)))))).2.1,((x.2.2.2.2.2.2.2.2.2.2.1.getD (Int.toNat y1) (ByteArray.empty,(0,(false,(0,(0:Nat)))))).2.2.1,((IntKind.i64.wrap (t18+1)),(x.2.2.2.2.2.2.2.2.2.2.1.getD (Int.toNat y1) (ByteArray.empty,(0,(false,(0,(0:Nat)))))).2.2.2.2)))))
 let t20:=(t19.getD (Int.toNat y1) (ByteArray.empty,(0,(false,(0,(0:Nat)))))).2.2.2.2
 let t21:=[(t17,(x.2.2.2.1,(x.2.2.2.2.1,(x.2.2.2.2.2.1,(x.2.2.2.2.2.2.1,(x.2.2.2.2.2.2.2.1,(x.2.2.2.2.2.2.2.2.1,x.2.2.2.2.2.2.2.2.2.1)))))))]
 bif (kown x.2.2.2.2.2.2.2.2.2.2.2.1 t20&&(decide (((kget x.2.2.2.2.2.2.2.2.2.2.2.1 t20).length+t21.length)*80<=140737488355328)&&decide ((kget x.2.2.2.2.2.2.2.2.2.2.2.1 t20).length+t21.length<=9223372036854775807))) then
 let t22:=(kapp x.2.2.2.2.2.2.2.2.2.2.2.1 t20 (kget x.2.2.2.2.2.2.2.2.2.2.2.1 t20).length t21)
 let t23:=(t19.set (Int.toNat y1) ((t19.getD (Int.toNat y1) (ByteArray.empty,(0,(false,(0,(0:Nat)))))).1,((t19.getD (Int.toNat y1) (ByteArray.empty,(0,(false,(0,(0:Nat)))))).2.1,((t19.getD (Int.toNat y1) (ByteArray.empty,(0,(false,(0,(0:Nat)))))).2.2.1,((t19.getD (Int.toNat y1) (ByteArray.empty,(0,(false,(0,(0:Nat)))))).2.2.2.1,(x.2.2.2.2.2.2.2.2.2.2.2.1.length+1))))))
 some (t17,0,t23,t22,())
 else none
 else none
 else none
theorem f755v0Ok (k:Nat):GnV P 55 f755v0I f755v0U (f755v0F k) :=
 gs htm0 (f755v0T k) Tryz.func55 (by kernel_rfl) SumsOk.nil [.dat .bool,.dat .bool] [] none fun _=>by kernel_rfl
noncomputable def f715T (k:Nat):TB P:=TB.nil |>.g (f755v0Ok k) |>.g (f754v0Ok k) |>.u (f753Ok k) |>.u (f752Ok k) |>.u (f751Ok k)
noncomputable def f715p0 {R:Type}(k:Nat)(k0:D116->Option R)(k1:D117->Option R)(v:D117):Option R :=
 bif (!strEq v.2.2.1 ByteArray.empty) then
 Option.bind (f752F k ((v.1,v.2.1),v.2.2.1)) fun y2 =>
 bif (decide (y2<0)) then
 k0 (0,11,v.1,v.2.1,v.2.2.1,v.2.2.2.1,v.2.2.2.2.1,v.2.2.2.2.2.1,v.2.2.2.2.2.2.1,v.2.2.2.2.2.2.2.1,v.2.2.2.2.2.2.2.2.2.2.1,())
 else
 k1 (v.1,v.2.1,v.2.2.1,v.2.2.2.1,v.2.2.2.2.1,v.2.2.2.2.2.1,v.2.2.2.2.2.2.1,v.2.2.2.2.2.2.2.1,v.2.2.2.2.2.2.2.2.1,v.2.2.2.2.2.2.2.2.2.1,v.2.2.2.2.2.2.2.2.2.2.1,())
 else
 bif v.2.2.2.2.2.2.2.1 then
 Option.bind (f752F k ((v.1,v.2.1),v.2.2.1)) fun y3 =>
 bif (decide (y3<0)) then
 k0 (0,11,v.1,v.2.1,v.2.2.1,v.2.2.2.1,v.2.2.2.2.1,v.2.2.2.2.2.1,v.2.2.2.2.2.2.1,v.2.2.2.2.2.2.2.1,v.2.2.2.2.2.2.2.2.2.2.1,())
 else
 k1 (v.1,v.2.1,v.2.2.1,v.2.2.2.1,v.2.2.2.2.1,v.2.2.2.2.2.1,v.2.2.2.2.2.2.1,v.2.2.2.2.2.2.2.1,v.2.2.2.2.2.2.2.2.1,v.2.2.2.2.2.2.2.2.2.1,v.2.2.2.2.2.2.2.2.2.2.1,())
 else
 k1 (v.1,v.2.1,v.2.2.1,v.2.2.2.1,v.2.2.2.2.1,v.2.2.2.2.2.1,v.2.2.2.2.2.2.1,v.2.2.2.2.2.2.2.1,v.2.2.2.2.2.2.2.2.1,v.2.2.2.2.2.2.2.2.2.1,v.2.2.2.2.2.2.2.2.2.2.1,())
noncomputable def f715p0S (k:Nat):=partSum ⟨[(2,.one (.ptr 0 0)),(3,.one (.ptr 1 0)),(4,.one (.ptr 2 0))],[(0,.var 25 [.ro Y10,.ro (.pair .str Y5)]),(1,.var 27 [.str,.str,.str,.str,.str,.bool]),(2,.var 25 [.own 3,.own 4]),(3,.row 82 Y10 .plain),(4,.row 69 (.pair .str Y16) .plain),(5,.heap 42 Y3)],6,[]⟩ ⟨[2,3,4],[],[]⟩ fun R K v=>f715p0 k (fun w=>K .ret (encSt ⟨[(2,.one (.ptr 0 0)),(3,.one (.ptr 1 0)),(4,.one (.ptr 2 0)),(5,oI),(6,oI)],[(0,.var 25 [.ro Y10,.ro (.pair .str Y5)]),(1,.var 27 [.str,.str,.str,.str,.str,.bool]),(2,.var 25 [.emp,.emp]),(3,.heap 42 Y3)],4,[]⟩ w)) (fun w=>K .normal (encSt ⟨[(2,.one (.ptr 0 0)),(3,.one (.ptr 1 0)),(4,.one (.ptr 2 0))],[(0,.var 25 [.ro Y10,.ro (.pair .str Y5)]),(1,.var 27 [.str,.str,.str,.str,.str,.bool]),(2,.var 25 [.own 3,.own 4]),(3,.row 82 Y10 .plain),(4,.row 69 (.pair .str Y16) .plain),(5,.heap 42 Y3)],6,[]⟩ w)) v
theorem f715p0O (k:Nat):SumO P Tryz.f15 14 (f715p0S k):=pt htm0 (f715T k) ⟨[2,3,4,5,6],[],[]⟩ SumsOk.nil fun _ _ _=>by kernel_rfl
noncomputable def f715p1 {R:Type}(k:Nat)(k0:D118->Option R)(v:D118):Option R :=
 bif v.2.2.2.2.2.2.2.1 then
 k0 (v.1,v.2.1,v.2.2.1,v.2.2.2.1,v.2.2.2.2.1,v.2.2.2.2.2.1,v.2.2.2.2.2.2.1,v.2.2.2.2.2.2.2.1,v.2.2.2.2.2.2.2.2.1,1,v.2.2.2.2.2.2.2.2.2.2.1,v.2.2.2.2.2.2.2.2.2.2.2.1,v.2.2.2.2.2.2.2.2.2.2.2.2.1,v.2.2.2.2.2.2.2.2.2.2.2.2.2.1,v.2.2.2.2.2.2.2.2.2.2.2.2.2.2.1,v.2.2.2.2.2.2.2.2.2.2.2.2.2.2.2.1,v.2.2.2.2.2.2.2.2.2.2.2.2.2.2.2.2.1,v.2.2.2.2.2.2.2.2.2.2.2.2.2.2.2.2.2.1,v.2.2.2.2.2.2.2.2.2.2.2.2.2.2.2.2.2.2.1,())
 else
 k0 (v.1,v.2.1,v.2.2.1,v.2.2.2.1,v.2.2.2.2.1,v.2.2.2.2.2.1,v.2.2.2.2.2.2.1,v.2.2.2.2.2.2.2.1,v.2.2.2.2.2.2.2.2.1,v.2.2.2.2.2.2.2.2.2.1,v.2.2.2.2.2.2.2.2.2.2.1,v.2.2.2.2.2.2.2.2.2.2.2.1,v.2.2.2.2.2.2.2.2.2.2.2.2.1,v.2.2.2.2.2.2.2.2.2.2.2.2.2.1,v.2.2.2.2.2.2.2.2.2.2.2.2.2.2.1,v.2.2.2.2.2.2.2.2.2.2.2.2.2.2.2.1,v.2.2.2.2.2.2.2.2.2.2.2.2.2.2.2.2.1,v.2.2.2.2.2.2.2.2.2.2.2.2.2.2.2.2.2.1,v.2.2.2.2.2.2.2.2.2.2.2.2.2.2.2.2.2.2.1,())
noncomputable def f715p1S (k:Nat):=partSum ⟨[(2,.one (.ptr 0 0)),(3,.one (.ptr 1 0)),(4,.one (.ptr 2 0)),(10,.one (.ptr 3 0))],[(0,.var 25 [.ro Y10,.ro (.pair .str Y5)]),(1,.var 27 [.str,.str,.str,.str,.str,.bool]),(2,.var 25 [.own 4,.own 5]),(3,.var 42 [.int .i64,.int .i64,.str,.str,.str,.bool,.bool,.int .i64]),(4,.row 82 Y10 .plain),(5,.row 69 (.pair .str Y16) .plain),(6,.heap 42 Y3)],7,[]⟩ ⟨[2,3,4,10],[],[]⟩ fun R K v=>f715p1 k (fun w=>K .normal (encSt ⟨[(2,.one (.ptr 0 0)),(3,.one (.ptr 1 0)),(4,.one (.ptr 2 0)),(10,.one (.ptr 3 0))],[(0,.var 25 [.ro Y10,.ro (.pair .str Y5)]),(1,.var 27 [.str,.str,.str,.str,.str,.bool]),(2,.var 25 [.own 4,.own 5]),(3,.var 42 [.int .i64,.int .i64,.str,.str,.str,.bool,.bool,.int .i64]),(4,.row 82 Y10 .plain),(5,.row 69 (.pair .str Y16) .plain),(6,.heap 42 Y3)],7,[]⟩ w)) v
theorem f715p1O (k:Nat):SumO P Tryz.f15 254 (f715p1S k):=pt htm0 (f715T k) ⟨[2,3,4,5,6,10],[],[]⟩ SumsOk.nil fun _ _ _=>by kernel_rfl
noncomputable def f715F (k:Nat)(x:D14×(ByteArray×D64)):Option (D14×Int×Int) :=
 Option.bind (f751F k ((x.1.1,x.1.2),[x.2.2.1])) fun y1 =>
 bif (y1 !=0) then
 some (([],[]),0,y1)
 else
 f715p0 k
 (fun (w4:D116) =>
 some (([],[]),w4.1,w4.2.1))
 (fun (w5:D117) =>
 Option.bind (f753F k ((w5.1,w5.2.1),(w5.2.2.1,(w5.2.2.2.1,(w5.2.2.2.2.1,(w5.2.2.2.2.2.1,(w5.2.2.2.2.2.2.1,w5.2.2.2.2.2.2.2.1))))))) fun y6 =>
 bif (y6.2 !=0) then
 some (([],[]),0,y6.2)
 else
 f715p1 k
 (fun (w7:D118) =>
 Option.bind (f754v0F k (w7.1,w7.2.1,w7.2.2.2.2.2.2.2.2.2.2.2.2.2.2.2.2.2.2.1,())) fun y8 =>
 Option.bind (f755v0F k (y8.1,w7.2.2.2.1,w7.2.2.2.2.2.2.2.2.1,w7.2.2.2.2.2.2.2.2.2.1,w7.2.2.2.2.2.2.2.2.2.2.1,w7.2.2.2.2.2.2.2.2.2.2.2.1,w7.2.2.2.2.2.2.2.2.2.2.2.2.1,w7.2.2.2.2.2.2.2.2.2.2.2.2.2.1,w7.2.2.2.2.2.2.2.2.2.2.2.2.2.2.1,w7.2.2.2.2.2.2.2.2.2.2.2.2.2.2.2.1,y8.2.2.1,y8.2.1,())) fun y9 =>
 bif (y9.2.1 !=0) then
 some (([],[]),0,y9.2.1)
 else
 bif (((y9.2.2.1.all fun q=>(true&&(true&&(true&&(true&&(kro (List.map Kid.frz y9.2.2.2.1) q.2.2.2.2))))))&&true)&&true) then
 some ((y8.1,(y9.2.2.1.map fun q=>(q.1,(q.2.1,(q.2.2.1,(q.2.2.2.1,(kget (List.map Kid.frz y9.2.2.2.1) q.2.2.2.2))))))),y9.1,0)
 else none)
 (w5.1,w5.2.1,w5.2.2.1,w5.2.2.2.1,w5.2.2.2.2.1,w5.2.2.2.2.2.1,w5.2.2.2.2.2.2.1,w5.2.2.2.2.2.2.2.1,0,0,w5.2.2.2.2.1,y6.1,w5.2.2.1,false,false,0,w5.2.2.2.2.2.2.2.2.1,w5.2.2.2.2.2.2.2.2.2.1,w5.2.2.2.2.2.2.2.2.2.2.1,()))
 (x.1.1,x.1.2,x.2.1,x.2.2.1,x.2.2.2.1,x.2.2.2.2.1,x.2.2.2.2.2.1,x.2.2.2.2.2.2,[],[],[],())
theorem f715Ok (k:Nat):FnV P 15 [.agg Y11,.agg (.pair .str Y14)] [.agg Y11,.dat (.int .i64),.dat (.int .i64)] (f715F k) :=
 fs htm0 (f715T k) Tryz.func15 (by kernel_rfl) (SumsOk.nil |>.s (f715p1O k) (by kernel_rfl) |>.s (f715p0O k) (by kernel_rfl)) (some (42,Y3)) fun _=>by kernel_rfl
noncomputable def f803F (k:Nat)(x:(Int×(Int×D4))):Option (Bool) :=
 some (!x.2.2.2.2.2.1)
theorem f803Ok (k:Nat):FnV P 103 [.agg Y3] [.dat .bool] (f803F k) :=
 fs tm TB.nil Tryz.func103 (by kernel_rfl) SumsOk.nil none fun _=>by kernel_rfl
noncomputable def f800v3I:Shape:=⟨[(0,.one (.ro Y3)),(1,.one (.fn 103 []))],[],0,[]⟩
noncomputable def f800v3U:Shape:=⟨[(0,oI)],[],0,[]⟩
noncomputable def f800v3T (k:Nat):TB P:=TB.nil |>.u (f803Ok k)
noncomputable def f800v3l0s {R:Type}(k:Nat)(rec:D73->Option R)(k0:Int×Unit->Option R)(k1:Unit->Option R)(v:D73):Option R :=
 bif (decide (v.2.2.1<v.2.1)) then
 bif ((decide (0<=v.2.2.1))&&(decide (v.2.2.1<(v.1.length:Int)))) then
 let t1:=(v.1.getD (Int.toNat v.2.2.1) (0,(0,(ByteArray.empty,(ByteArray.empty,(ByteArray.empty,(false,(false,0))))))))
 Option.bind (f803F k (t1.1,(t1.2.1,(t1.2.2.1,(t1.2.2.2.1,(t1.2.2.2.2.1,(t1.2.2.2.2.2.1,(t1.2.2.2.2.2.2.1,t1.2.2.2.2.2.2.2)))))))) fun y2 =>
 bif y2 then
 k0 (v.2.2.1,())
 else
 rec (v.1,v.2.1,(IntKind.i64.wrap (v.2.2.1+1)),())
 else none
 else
 k1 (())
noncomputable def f800v3l0 {R:Type}(k:Nat)(k0:Int×Unit->Option R)(k1:Unit->Option R)(v:D73):Option R:=iterS (fun rec v=>f800v3l0s k rec k0 k1 v) k v
noncomputable def f800v3l0S (k:Nat):=loopSum ⟨[(0,.one (.ro Y3)),(1,.one (.fn 103 [])),(7,oI),(8,oI)],[],0,[]⟩ ⟨[0,1,7,8],[],[]⟩ k fun R rec K v=>f800v3l0s k rec (fun w=>K .ret (encSt ⟨[(4,oI)],[],0,[]⟩ w)) (fun w=>K (.exit 0) (encSt ⟨[],[],0,[]⟩ w)) v
theorem f800v3l0O (k:Nat):SumO P Tryz.f100 26 (f800v3l0S k):=lp tm (f800v3T k) ⟨[4],[],[]⟩ SumsOk.nil (by kernel_rfl) fun _ _ _ _=>by kernel_rfl
noncomputable def f800v3F (k:Nat)(x:D74):Option (Int×Unit) :=
 f800v3l0 k
 (fun (w3:Int×Unit) =>
 some (w3.1,()))
 (fun (w4:Unit) =>
 some ((-1),()))
 (x.1,(x.1.length:Int),0,())
theorem f800v3Ok (k:Nat):GnV P 100 f800v3I f800v3U (f800v3F k) :=
 gs tm (f800v3T k) Tryz.func100 (by kernel_rfl) (SumsOk.nil |>.s (f800v3l0O k) (by kernel_rfl)) [.dat .bool] [] none fun _=>by kernel_rfl
noncomputable def f804v0I:Shape:=⟨[(0,.agg [.int .i64,.int .i64,.str,.str,.str,.bool,.bool,.int .i64]),(1,.one (.ptr 0 0))],[(0,.var 40 [.str,.int .i64,.int .i64,.bool])],1,[]⟩
noncomputable def f804v0U:Shape:=⟨[(0,oB)],[(0,.var 40 [.str,.int .i64,.int .i64,.bool])],1,[]⟩
noncomputable def f804v0F (k:Nat)(x:D127):Option (D128) :=
 some ((decide (x.1 > x.2.2.2.2.2.2.2.2.2.2.1)),x.2.2.2.2.2.2.2.2.1,x.2.2.2.2.2.2.2.2.2.1,x.2.2.2.2.2.2.2.2.2.2.1,x.2.2.2.2.2.2.2.2.2.2.2.1,())
theorem f804v0Ok (k:Nat):GnV P 104 f804v0I f804v0U (f804v0F k) :=
 gs tm TB.nil Tryz.func104 (by kernel_rfl) SumsOk.nil [.dat .bool] [] none fun _=>by kernel_rfl
noncomputable def f800v4I:Shape:=⟨[(0,.one (.ro Y3)),(1,.one (.fn 104 [0]))],[(0,.var 40 [.str,.int .i64,.int .i64,.bool])],1,[]⟩
noncomputable def f800v4U:Shape:=⟨[(0,oI)],[(0,.var 40 [.str,.int .i64,.int .i64,.bool])],1,[]⟩
noncomputable def f800v4T (k:Nat):TB P:=TB.nil |>.g (f804v0Ok k)
noncomputable def f800v4l0s {R:Type}(k:Nat)(rec:D131->Option R)(k0:D129->Option R)(k1:D130->Option R)(v:D131):Option R :=
 bif (decide (v.2.2.1<v.2.1)) then
 bif ((decide (0<=v.2.2.1))&&(decide (v.2.2.1<(v.1.length:Int)))) then
 let t1:=(v.1.getD (Int.toNat v.2.2.1) (0,(0,(ByteArray.empty,(ByteArray.empty,(ByteArray.empty,(false,(false,0))))))))
 Option.bind (f804v0F k (t1.1,t1.2.1,t1.2.2.1,t1.2.2.2.1,t1.2.2.2.2.1,t1.2.2.2.2.2.1,t1.2.2.2.2.2.2.1,t1.2.2.2.2.2.2.2,v.2.2.2.1,v.2.2.2.2.1,v.2.2.2.2.2.1,v.2.2.2.2.2.2.1,())) fun y2 =>
 bif y2.1 then
 k0 (v.2.2.1,y2.2.1,y2.2.2.1,y2.2.2.2.1,y2.2.2.2.2.1,())
 else
 rec (v.1,v.2.1,(IntKind.i64.wrap (v.2.2.1+1)),y2.2.1,y2.2.2.1,y2.2.2.2.1,y2.2.2.2.2.1,())
 else none
 else
 k1 (v.2.2.2.1,v.2.2.2.2.1,v.2.2.2.2.2.1,v.2.2.2.2.2.2.1,())
noncomputable def f800v4l0 {R:Type}(k:Nat)(k0:D129->Option R)(k1:D130->Option R)(v:D131):Option R:=iterS (fun rec v=>f800v4l0s k rec k0 k1 v) k v
noncomputable def f800v4l0S (k:Nat):=loopSum ⟨[(0,.one (.ro Y3)),(1,.one (.fn 104 [0])),(7,oI),(8,oI)],[(0,.var 40 [.str,.int .i64,.int .i64,.bool])],1,[some 0]⟩ ⟨[0,1,7,8],[],[]⟩ k fun R rec K v=>f800v4l0s k rec (fun w=>K .ret (encSt ⟨[(4,oI)],[(0,.var 40 [.str,.int .i64,.int .i64,.bool])],1,[some 0]⟩ w)) (fun w=>K (.exit 0) (encSt ⟨[],[(0,.var 40 [.str,.int .i64,.int .i64,.bool])],1,[some 0]⟩ w)) v
theorem f800v4l0O (k:Nat):SumO P Tryz.f100 26 (f800v4l0S k):=lp tm (f800v4T k) ⟨[4],[],[]⟩ SumsOk.nil (by kernel_rfl) fun _ _ _ _=>by kernel_rfl
noncomputable def f800v4F (k:Nat)(x:D132):Option (D129) :=
 f800v4l0 k
 (fun (w3:D129) =>
 some (w3.1,w3.2.1,w3.2.2.1,w3.2.2.2.1,w3.2.2.2.2.1,()))
 (fun (w4:D130) =>
 some ((-1),w4.1,w4.2.1,w4.2.2.1,w4.2.2.2.1,()))
 (x.1,(x.1.length:Int),0,x.2.1,x.2.2.1,x.2.2.2.1,x.2.2.2.2.1,())
theorem f800v4Ok (k:Nat):GnV P 100 f800v4I f800v4U (f800v4F k) :=
 gs tm (f800v4T k) Tryz.func100 (by kernel_rfl) (SumsOk.nil |>.s (f800v4l0O k) (by kernel_rfl)) [.dat .bool] [] none fun _=>by kernel_rfl
noncomputable def f763T (k:Nat):TB P:=TB.nil |>.c ((f800v4Ok k).e.or (f800v3Ok k).e) |>.u (f768Ok k)
noncomputable def f763F (k:Nat)(x:D6×D133):Option (Int) :=
 bif (x.2.2.1==0) then
 let t1:=(IntKind.i64.wrap ((mnI (x.1.2.2.2.2.length:Int) 1) - 1))
 some t1
 else
 bif (x.2.2.1==1) then
 some (IntKind.i64.wrap ((x.1.2.2.2.2.length:Int) - 1))
 else
 bif (x.2.2.1==2) then
 Option.bind (f800v3F k (x.1.2.2.2.2,())) fun y2 =>
 some y2.1
 else
 bif (x.2.2.1==3) then
 Option.bind (f800v4F k (x.1.2.2.2.2,x.2.1,x.2.2.1,x.2.2.2.1,x.2.2.2.2,())) fun y3 =>
 some y3.1
 else
 Option.bind (f768F k ((x.1.1,(x.1.2.1,(x.1.2.2.1,(x.1.2.2.2.1,x.1.2.2.2.2)))),x.2.2.2.1)) fun y4 =>
 some y4
theorem f763Ok (k:Nat):FnV P 63 [.agg (.pair .str Y5),.agg Y18] [.dat (.int .i64)] (f763F k) :=
 fs tm (f763T k) Tryz.func63 (by kernel_rfl) SumsOk.nil none fun _=>by kernel_rfl
noncomputable def f771v0I:Shape:=⟨[(0,.agg [.ro Y10,.own 0]),(1,oS),(2,.agg [.int .i64,.int .i64,.str,.str,.str,.bool,.bool,.int .i64]),(3,oS)],[(0,.row 69 (.pair .str Y16) .plain),(1,.heap 42 Y3)],2,[]⟩
noncomputable def f771v0U:Shape:=⟨[(0,oI)],[(0,.row 69 (.pair .str Y16) .plain),(1,.heap 42 Y3)],2,[]⟩
noncomputable def f771v0T (k:Nat):TB P:=TB.nil |>.u (f768Ok k) |>.g (f755v0Ok k) |>.u (f752Ok k)
noncomputable def f771v0F (k:Nat)(x:D134):Option (D135) :=
 Option.bind (f755v0F k (x.1,x.2.2.2.2.2.2.1,0,2,ByteArray.empty,x.2.2.2.2.2.2.2.2.2.2.1,x.2.1,false,false,x.2.2.1,x.2.2.2.2.2.2.2.2.2.2.2.1,x.2.2.2.2.2.2.2.2.2.2.2.2.1,())) fun y1 =>
 bif (y1.2.1 !=0) then
 some (y1.2.1,y1.2.2.1,y1.2.2.2.1,())
 else
 Option.bind (bif (((y1.2.2.1.all fun q=>(true&&(true&&(true&&(true&&(kalive y1.2.2.2.1 q.2.2.2.2))))))&&true)&&true) then f752F k ((x.1,(y1.2.2.1.map fun q=>(q.1,(q.2.1,(q.2.2.1,(q.2.2.2.1,(kget y1.2.2.2.1 q.2.2.2.2))))))),x.2.1) else none) fun y2 =>
 bif ((decide (0<=y2))&&(decide (y2<(y1.2.2.1.length:Int)))) then
 let t3:=(y1.2.2.1.getD (Int.toNat y2) (ByteArray.empty,(0,(false,(0,(0:Nat)))))).2.2.2.2
 let t4:=(y1.2.2.1.getD (Int.toNat y2) (ByteArray.empty,(0,(false,(0,(0:Nat)))))).1
 let t5:=(y1.2.2.1.getD (Int.toNat y2) (ByteArray.empty,(0,(false,(0,(0:Nat)))))).2.1
 let t6:=(y1.2.2.1.getD (Int.toNat y2) (ByteArray.empty,(0,(false,(0,(0:Nat)))))).2.2.1
 let t7:=(y1.2.2.1.getD (Int.toNat y2) (ByteArray.empty,(0,(false,(0,(0:Nat)))))).2.2.2.1
 let t8:=(y1.2.2.1.getD (Int.toNat y2) (ByteArray.empty,(0,(false,(0,(0:Nat)))))).2.2.2.2
 Option.bind (bif (((kalive y1.2.2.2.1 t8&&true)&&true)&&true) then f768F k ((t4,(t5,(t6,(t7,(kget y1.2.2.2.1 t8))))),x.2.2.1) else none) fun y9 =>
 bif ((kalive y1.2.2.2.1 t3)&&((decide (0<=y9))&&(decide (y9<((kget y1.2.2.2.1 t3).length:Int))))) then
 bif (kown y1.2.2.2.1 t3) then
 let t10:=(kset y1.2.2.2.1 t3 (Int.toNat y9) (((kget y1.2.2.2.1 t3).getD (Int.toNat y9) (0,(0,(ByteArray.empty,(ByteArray.empty,(ByteArray.empty,(false,(false,0)))))))).1,(((kget y1.2.2.2.1 t3).getD (Int.toNat y9) (0,(0,(ByteArray.empty,(ByteArray.empty,(ByteArray.empty,(false,(false,0)))))))).2.1,(((kget y1.2.2.2.1 t3).getD (Int.toNat y9) (0,(0,(ByteArray.empty,(ByteArray.empty,(ByteArray.empty,(false,(false,0)))))))).2.2.1,(((kget y1.2.2.2.1 t3).getD (Int.toNat y9) (0,(0,(ByteArray.empty,(ByteArray.empty,(ByteArray.empty,(false,(false,0)))))))).2.2.2.1,(((kget y1.2.2.2.1 t3).getD (Int.toNat y9) (0,(0,(ByteArray.empty,(ByteArray.empty,(ByteArray.empty,(false,(false,0)))))))).2.2.2.2.1,(((kget y1.2.2.2.1 t3).getD (Int.toNat y9) (0,(0,(ByteArray.empty,(ByteArray.empty,(ByteArray.empty,(false,(false,0)))))))).2.2.2.2.2.1,(true,((kget y1.2.2.2.1 t3).getD (Int.toNat y9) (0,(0,(ByteArray.empty,(ByteArray.empty,(ByteArray.empty,(false,(false,0)))))))).2.2.2.2.2.2.2))))))))
 some (0,y1.2.2.1,t10,())
 else none
 else none
 else none
theorem f771v0Ok (k:Nat):GnV P 71 f771v0I f771v0U (f771v0F k) :=
 gs htm0 (f771v0T k) Tryz.func71 (by kernel_rfl) SumsOk.nil [.dat .bool] [] none fun _=>by kernel_rfl
noncomputable def f764v0I:Shape:=⟨[(0,.agg [.ro Y10,.own 0]),(1,oS),(2,oI)],[(0,.row 69 (.pair .str Y16) .plain),(1,.heap 42 Y3)],2,[]⟩
noncomputable def f764v0U:Shape:=⟨[(0,oI)],[(0,.row 69 (.pair .str Y16) .plain),(1,.heap 42 Y3)],2,[]⟩
noncomputable def f764v0T (k:Nat):TB P:=TB.nil |>.g (f802v0Ok k) |>.u (f784Ok k) |>.g (f771v0Ok k) |>.u (f770Ok k) |>.u (f768Ok k) |>.u (f752Ok k)
noncomputable def f764v0F (k:Nat)(x:D136):Option (D135) :=
 Option.bind (bif (((x.2.2.2.1.all fun q=>(true&&(true&&(true&&(true&&(kalive x.2.2.2.2.1 q.2.2.2.2))))))&&true)&&true) then f752F k ((x.1,(x.2.2.2.1.map fun q=>(q.1,(q.2.1,(q.2.2.1,(q.2.2.2.1,(kget x.2.2.2.2.1 q.2.2.2.2))))))),x.2.1) else none) fun y1 =>
 bif ((decide (0<=y1))&&(decide (y1<(x.2.2.2.1.length:Int)))) then
 let t2:=(x.2.2.2.1.getD (Int.toNat y1) (ByteArray.empty,(0,(false,(0,(0:Nat)))))).1
 let t3:=(x.2.2.2.1.getD (Int.toNat y1) (ByteArray.empty,(0,(false,(0,(0:Nat)))))).2.1
 let t4:=(x.2.2.2.1.getD (Int.toNat y1) (ByteArray.empty,(0,(false,(0,(0:Nat)))))).2.2.1
 let t5:=(x.2.2.2.1.getD (Int.toNat y1) (ByteArray.empty,(0,(false,(0,(0:Nat)))))).2.2.2.1
 let t6:=(x.2.2.2.1.getD (Int.toNat y1) (ByteArray.empty,(0,(false,(0,(0:Nat)))))).2.2.2.2
 Option.bind (bif (((kalive x.2.2.2.2.1 t6&&true)&&true)&&true) then f768F k ((t2,(t3,(t4,(t5,(kget x.2.2.2.2.1 t6))))),x.2.2.1) else none) fun y7 =>
 bif (decide (y7<0)) then
 some (0,x.2.2.2.1,x.2.2.2.2.1,())
 else
 let t8:=(x.2.2.2.1.getD (Int.toNat y1) (ByteArray.empty,(0,(false,(0,(0:Nat)))))).2.2.2.2
 bif ((kalive x.2.2.2.2.1 t8)&&((decide (0<=y7))&&(decide (y7<((kget x.2.2.2.2.1 t8).length:Int))))) then
 bif (kalive x.2.2.2.2.1 t8) then
 let t9:=((kget x.2.2.2.2.1 t8).getD (Int.toNat y7) (0,(0,(ByteArray.empty,(ByteArray.empty,(ByteArray.empty,(false,(false,0)))))))).1
 let t10:=((kget x.2.2.2.2.1 t8).getD (Int.toNat y7) (0,(0,(ByteArray.empty,(ByteArray.empty,(ByteArray.empty,(false,(false,0)))))))).2.1
 let t11:=((kget x.2.2.2.2.1 t8).getD (Int.toNat y7) (0,(0,(ByteArray.empty,(ByteArray.empty,(ByteArray.empty,(false,(false,0)))))))).2.2.1
 let t12:=((kget x.2.2.2.2.1 t8).getD (Int.toNat y7) (0,(0,(ByteArray.empty,(ByteArray.empty,(ByteArray.empty,(false,(false,0)))))))).2.2.2.1
 let t13:=((kget x.2.2.2.2.1 t8).getD (Int.toNat y7) (0,(0,(ByteArray.empty,(ByteArray.empty,(ByteArray.empty,(false,(false,0)))))))).2.2.2.2.1
 let t14:=((kget x.2.2.2.2.1 t8).getD (Int.toNat y7) (0,(0,(ByteArray.empty,(ByteArray.empty,(ByteArray.empty,(false,(false,0)))))))).2.2.2.2.2.1
 let t15:=((kget x.2.2.2.2.1 t8).getD (Int.toNat y7) (0,(0,(ByteArray.empty,(ByteArray.empty,(ByteArray.empty,(false,(false,0)))))))).2.2.2.2.2.2.1
 let t16:=((kget x.2.2.2.2.1 t8).getD (Int.toNat y7) (0,(0,(ByteArray.empty,(ByteArray.empty,(ByteArray.empty,(false,(false,0)))))))).2.2.2.2.2.2.2
 Option.bind (f784F k (t9,(t10,(t11,(t12,(t13,(t14,(t15,t16)))))))) fun y17 =>
 bif y17 then
 Option.bind (bif (((x.2.2.2.1.all fun q=>(true&&(true&&(true&&(true&&(kalive x.2.2.2.2.1 q.2.2.2.2))))))&&true)&&true) then f770F k ((x.1,(x.2.2.2.1.map fun q=>(q.1,(q.2.1,(q.2.2.1,(q.2.2.2.1,(kget x.2.2.2.2.1 q.2.2.2.2))))))),(t9,(t10,(t11,(t12,(t13,(t14,(t15,t16)))))))) else none) fun y18 =>
 Option.bind (f771v0F k (x.1,x.2.1,t9,t10,t11,t12,t13,t14,t15,t16,y18,x.2.2.2.1,x.2.2.2.2.1,())) fun y19 =>
 bif (y19.1 !=0) then
 some (y19.1,y19.2.1,y19.2.2.1,())
 else
 let t20:=(y19.2.1.getD (Int.toNat y1) (ByteArray.empty,(0,(false,(0,(0:Nat)))))).1
 let t21:=(y19.2.1.getD (Int.toNat y1) (ByteArray.empty,(0,(false,(0,(0:Nat)))))).2.1
 let t22:=(y19.2.1.getD (Int.toNat y1) (ByteArray.empty,(0,(false,(0,(0:Nat)))))).2.2.1
 let t23:=(y19.2.1.getD (Int.toNat y1) (ByteArray.empty,(0,(false,(0,(0:Nat)))))).2.2.2.1
 let t24:=(y19.2.1.getD (Int.toNat y1) (ByteArray.empty,(0,(false,(0,(0:Nat)))))).2.2.2.2
 Option.bind (bif (((kalive y19.2.2.1 t24&&true)&&true)&&true) then f768F k ((t20,(t21,(t22,(t23,(kget y19.2.2.1 t24))))),x.2.2.1) else none) fun y25 =>
 let t26:=(y19.2.1.getD (Int.toNat y1) (ByteArray.empty,(0,(false,(0,(0:Nat)))))).2.2.2.2
 Option.bind (f802v0F k (t26,y25,(IntKind.i64.wrap (y25+1)),y19.2.2.1,())) fun y27 =>
 let t28:=(y19.2.1.set (Int.toNat y1) ((y19.2.1.getD (Int.toNat y1) (ByteArray.empty,(0,(false,(0,(0:Nat)))))).1,((y19.2.1.getD (Int.toNat y1) (ByteArray.empty,(0,(false,(0,(0:Nat)))))).2.1,((y19.2.1.getD (Int.toNat y1) (ByteArray.empty,(0,(false,(0,(0:Nat)))))).2.2.1,((y19.2.1.getD (Int.toNat y1) (ByteArray.empty,(0,(false,(0,(0:Nat)))))).2.2.2.1,y27.1)))))
 some (0,t28,y27.2.1,())
 else
 let t29:=(x.2.2.2.1.getD (Int.toNat y1) (ByteArray.empty,(0,(false,(0,(0:Nat)))))).2.2.2.2
 Option.bind (f802v0F k (t29,y7,(IntKind.i64.wrap (y7+1)),x.2.2.2.2.1,())) fun y30 =>
 let t31:=(x.2.2.2.1.set (Int.toNat y1) ((x.2.2.2.1.getD (Int.toNat y1) (ByteArray.empty,(0,(false,(0,(0:Nat)))))).1,((x.2.2.2.1.getD (Int.toNat y1) (ByteArray.empty,(0,(false,(0,(0:Nat)))))).2.1,((x.2.2.2.1.getD (Int.toNat y1) (ByteArray.empty,(0,(false,(0,(0:Nat)))))).2.2.1,((x.2.2.2.1.getD (Int.toNat y1) (ByteArray.empty,(0,(false,(0,(0:Nat)))))).2.2.2.1,y30.1)))))
 some (0,t31,y30.2.1,())
 else none
 else none
 else none
theorem f764v0Ok (k:Nat):GnV P 64 f764v0I f764v0U (f764v0F k) :=
 gs htm0 (f764v0T k) Tryz.func64 (by kernel_rfl) SumsOk.nil [.dat .bool] [] none fun _=>by kernel_rfl
noncomputable def f719T (k:Nat):TB P:=TB.nil |>.g (f764v0Ok k) |>.u (f763Ok k) |>.u (f762Ok k) |>.u (f761Ok k) |>.u (f760Ok k) |>.g (f754v0Ok k) |>.u (f752Ok k) |>.u (f751Ok k)
noncomputable def f719F (k:Nat)(x:D14×D133):Option (D137) :=
 Option.bind (f751F k ((x.1.1,x.1.2),[x.2.1])) fun y1 =>
 Option.bind (f762F k (x.2.2.1,0,4)) fun y2 =>
 Option.bind (f761F k ((!y2),4)) fun y3 =>
 Option.bind (f760F k [y1,y3]) fun y4 =>
 bif (y4 !=0) then
 some (([],[]),(0,(0,(ByteArray.empty,(ByteArray.empty,(ByteArray.empty,(false,(false,0))))))),y4)
 else
 Option.bind (f752F k ((x.1.1,x.1.2),x.2.1)) fun y5 =>
 bif ((decide (0<=y5))&&(decide (y5<(x.1.2.length:Int)))) then
 let t6:=(x.1.2.getD (Int.toNat y5) (ByteArray.empty,(0,(false,(0,[])))))
 Option.bind (f763F k ((t6.1,(t6.2.1,(t6.2.2.1,(t6.2.2.2.1,t6.2.2.2.2)))),(x.2.1,(x.2.2.1,(x.2.2.2.1,x.2.2.2.2))))) fun y7 =>
 bif (decide (y7<0)) then
 some (([],[]),(0,(0,(ByteArray.empty,(ByteArray.empty,(ByteArray.empty,(false,(false,0))))))),40)
 else
 bif ((decide (0<=y5))&&(decide (y5<(x.1.2.length:Int)))) then
 let t8:=(x.1.2.getD (Int.toNat y5) (ByteArray.empty,(0,(false,(0,[])))))
 bif ((decide (0<=y7))&&(decide (y7<(t8.2.2.2.2.length:Int)))) then
 let t9:=(t8.2.2.2.2.getD (Int.toNat y7) (0,(0,(ByteArray.empty,(ByteArray.empty,(ByteArray.empty,(false,(false,0))))))))
 Option.bind (f754v0F k (x.1.1,x.1.2,[],())) fun y10 =>
 bif (!x.2.2.2.2) then
 bif ((decide (0<=y5))&&(decide (y5<(y10.2.2.1.length:Int)))) then
 let t11:=(y10.2.2.1.getD (Int.toNat y5) (ByteArray.empty,(0,(false,(0,(0:Nat)))))).2.2.2.2
 bif ((kalive y10.2.1 t11)&&((decide (0<=y7))&&(decide (y7<((kget y10.2.1 t11).length:Int))))) then
 bif (kown y10.2.1 t11) then
 let t12:=(kset y10.2.1 t11 (Int.toNat y7) (((kget y10.2.1 t11).getD (Int.toNat y7) (0,(0,(ByteArray.empty,(ByteArray.empty,(ByteArray.empty,(false,(false,0)))))))).1,(((kget y10.2.1 t11).getD (Int.toNat y7) (0,(0,(ByteArray.empty,(ByteArray.empty,(ByteArray.empty,(false,(false,0)))))))).2.1,(((kget y10.2.1 t11).getD (Int.toNat y7) (0,(0,(ByteArray.empty,(ByteArray.empty,(ByteArray.empty,(false,(false,0)))))))).2.2.1,(((kget y10.2.1 t11).getD (Int.toNat y7) (0,(0,(ByteArray.empty,(ByteArray.empty,(ByteArray.empty,(false,(false,0)))))))).2.2.2.1,(((kget y10.2.1 t11).getD (Int.toNat y7) (0,(0,(ByteArray.empty,(ByteArray.empty,(ByteArray.empty,(false,(false,0)))))))).2.2.2.2.1,(true,(((kget y10.2.1 t11).getD (Int.toNat y7) (0,(0,(ByteArray.empty,(ByteArray.empty,(ByteArray.empty,(false,(false,0)))))))).2.2.2.2.2.2.1,((kget y10.2.1 t11).getD (Int.toNat y7) (0,(0,(ByteArray.empty,(ByteArray.empty,(ByteArray.empty,(false,(false,0)))))))).2.2.2.2.2.2.2))))))))
 bif (((y10.2.2.1.all fun q=>(true&&(true&&(true&&(true&&(kro (List.map Kid.frz t12) q.2.2.2.2))))))&&true)&&true) then
 some ((y10.1,(y10.2.2.1.map fun q=>(q.1,(q.2.1,(q.2.2.1,(q.2.2.2.1,(kget (List.map Kid.frz t12) q.2.2.2.2))))))),(t9.1,(t9.2.1,(t9.2.2.1,(t9.2.2.2.1,(t9.2.2.2.2.1,(t9.2.2.2.2.2.1,(t9.2.2.2.2.2.2.1,t9.2.2.2.2.2.2.2))))))),0)
 else none
 else none
 else none
 else none
 else
 Option.bind (f764v0F k (y10.1,x.2.1,t9.1,y10.2.2.1,y10.2.1,())) fun y13 =>
 bif (y13.1 !=0) then
 some (([],[]),(0,(0,(ByteArray.empty,(ByteArray.empty,(ByteArray.empty,(false,(false,0))))))),y13.1)
 else
 bif (((y13.2.1.all fun q=>(true&&(true&&(true&&(true&&(kro (List.map Kid.frz y13.2.2.1) q.2.2.2.2))))))&&true)&&true) then
 some ((y10.1,(y13.2.1.map fun q=>(q.1,(q.2.1,(q.2.2.1,(q.2.2.2.1,(kget (List.map Kid.frz y13.2.2.1) q.2.2.2.2))))))),(t9.1,(t9.2.1,(t9.2.2.1,(t9.2.2.2.1,(t9.2.2.2.2.1,(t9.2.2.2.2.2.1,(t9.2.2.2.2.2.2.1,t9.2.2.2.2.2.2.2))))))),0)
 else none
 else none
 else none
 else none
theorem f719Ok (k:Nat):FnV P 19 [.agg Y11,.agg Y18] [.agg Y11,.agg Y3,.dat (.int .i64)] (f719F k) :=
 fs htm0 (f719T k) Tryz.func19 (by kernel_rfl) SumsOk.nil (some (42,Y3)) fun _=>by kernel_rfl
noncomputable def f769T (k:Nat):TB P:=TB.nil |>.u (f806Ok k) |>.u (f797Ok k) |>.u (f790Ok k) |>.u (f770Ok k) |>.u (f761Ok k)
noncomputable def f769F (k:Nat)(x:D138):Option (Int) :=
 Option.bind (f797F k (x.2.2,32)) fun y1 =>
 bif (y1 !=0) then
 some y1
 else
 bif (strEq x.2.2 ByteArray.empty) then
 some y1
 else
 Option.bind (f770F k ((x.1.1,x.1.2),(x.2.1.1,(x.2.1.2.1,(x.2.1.2.2.1,(x.2.1.2.2.2.1,(x.2.1.2.2.2.2.1,(x.2.1.2.2.2.2.2.1,(x.2.1.2.2.2.2.2.2.1,x.2.1.2.2.2.2.2.2.2))))))))) fun y2 =>
 bif (strEq x.2.2 y2) then
 some y1
 else
 Option.bind (f790F k (x.1.1,x.2.1.2.2.1)) fun y3 =>
 bif (decide (y3≥0)) then
 bif ((decide (0<=(mxI y3 0)))&&(decide ((mxI y3 0)<(x.1.1.length:Int)))) then
 let t4:=(x.1.1.getD (Int.toNat (mxI y3 0)) (ByteArray.empty,(0,(ByteArray.empty,(ByteArray.empty,([],(ByteArray.empty,[])))))))
 bif (decide ((t4.2.2.2.2.2.2.length:Int) > 0)) then
 bif ((decide (0<=(mxI y3 0)))&&(decide ((mxI y3 0)<(x.1.1.length:Int)))) then
 let t5:=(x.1.1.getD (Int.toNat (mxI y3 0)) (ByteArray.empty,(0,(ByteArray.empty,(ByteArray.empty,([],(ByteArray.empty,[])))))))
 Option.bind (f806F k (t5.2.2.2.2.2.2,x.2.2)) fun y6 =>
 Option.bind (f761F k ((!y6),39)) fun y7 =>
 some y7
 else none
 else
 Option.bind (f761F k (false,39)) fun y8 =>
 some y8
 else none
 else
 Option.bind (f761F k (false,39)) fun y9 =>
 some y9
theorem f769Ok (k:Nat):FnV P 69 [.agg Y11,.agg Y3,.dat .str] [.dat (.int .i64)] (f769F k) :=
 fs tm (f769T k) Tryz.func69 (by kernel_rfl) SumsOk.nil none fun _=>by kernel_rfl
noncomputable def f721T (k:Nat):TB P:=TB.nil |>.g (f771v0Ok k) |>.u (f770Ok k) |>.u (f769Ok k) |>.u (f768Ok k) |>.u (f761Ok k) |>.u (f760Ok k) |>.g (f754v0Ok k) |>.u (f752Ok k) |>.u (f751Ok k)
noncomputable def f721p0 {R:Type}(k:Nat)(k0:D139->Option R)(v:D139):Option R :=
 bif (strEq v.2.1 ByteArray.empty) then
 Option.bind (f770F k ((v.2.2.1,v.2.2.2.1),(v.2.2.2.2.1,(v.2.2.2.2.2.1,(v.2.2.2.2.2.2.1,(v.2.2.2.2.2.2.2.1,(v.2.2.2.2.2.2.2.2.1,(v.2.2.2.2.2.2.2.2.2.1,(v.2.2.2.2.2.2.2.2.2.2.1,v.2.2.2.2.2.2.2.2.2.2.2.1))))))))) fun y10 =>
 k0 (v.1,y10,v.2.2.1,v.2.2.2.1,v.2.2.2.2.1,v.2.2.2.2.2.1,v.2.2.2.2.2.2.1,v.2.2.2.2.2.2.2.1,v.2.2.2.2.2.2.2.2.1,v.2.2.2.2.2.2.2.2.2.1,v.2.2.2.2.2.2.2.2.2.2.1,v.2.2.2.2.2.2.2.2.2.2.2.1,v.2.2.2.2.2.2.2.2.2.2.2.2.1,v.2.2.2.2.2.2.2.2.2.2.2.2.2.1,v.2.2.2.2.2.2.2.2.2.2.2.2.2.2.1,())
 else
 k0 (v.1,v.2.1,v.2.2.1,v.2.2.2.1,v.2.2.2.2.1,v.2.2.2.2.2.1,v.2.2.2.2.2.2.1,v.2.2.2.2.2.2.2.1,v.2.2.2.2.2.2.2.2.1,v.2.2.2.2.2.2.2.2.2.1,v.2.2.2.2.2.2.2.2.2.2.1,v.2.2.2.2.2.2.2.2.2.2.2.1,v.2.2.2.2.2.2.2.2.2.2.2.2.1,v.2.2.2.2.2.2.2.2.2.2.2.2.2.1,v.2.2.2.2.2.2.2.2.2.2.2.2.2.2.1,())
noncomputable def f721p0S (k:Nat):=partSum ⟨[(1,oS),(3,oS),(4,.one (.ptr 0 0)),(8,.one (.ptr 1 0)),(13,.one (.ptr 2 0))],[(0,.var 25 [.ro Y10,.ro (.pair .str Y5)]),(1,.var 25 [.own 3,.own 4]),(2,.var 42 [.int .i64,.int .i64,.str,.str,.str,.bool,.bool,.int .i64]),(3,.row 82 Y10 .plain),(4,.row 69 (.pair .str Y16) .plain),(5,.heap 42 Y3)],6,[]⟩ ⟨[1,3,4,8,13],[],[]⟩ fun R K v=>f721p0 k (fun w=>K .normal (encSt ⟨[(1,oS),(3,oS),(4,.one (.ptr 0 0)),(8,.one (.ptr 1 0)),(13,.one (.ptr 2 0))],[(0,.var 25 [.ro Y10,.ro (.pair .str Y5)]),(1,.var 25 [.own 3,.own 4]),(2,.var 42 [.int .i64,.int .i64,.str,.str,.str,.bool,.bool,.int .i64]),(3,.row 82 Y10 .plain),(4,.row 69 (.pair .str Y16) .plain),(5,.heap 42 Y3)],6,[]⟩ w)) v
theorem f721p0O (k:Nat):SumO P Tryz.f21 1022 (f721p0S k):=pt htm0 (f721T k) ⟨[1,3,4,8,9,13],[],[]⟩ SumsOk.nil fun _ _ _=>by kernel_rfl
noncomputable def f721F (k:Nat)(x:D140):Option (D14×Int) :=
 Option.bind (f751F k ((x.1.1,x.1.2),[x.2.1])) fun y1 =>
 bif (y1 !=0) then
 some (([],[]),y1)
 else
 Option.bind (f752F k ((x.1.1,x.1.2),x.2.1)) fun y2 =>
 bif ((decide (0<=y2))&&(decide (y2<(x.1.2.length:Int)))) then
 let t3:=(x.1.2.getD (Int.toNat y2) (ByteArray.empty,(0,(false,(0,[])))))
 Option.bind (f768F k ((t3.1,(t3.2.1,(t3.2.2.1,(t3.2.2.2.1,t3.2.2.2.2)))),x.2.2.1)) fun y4 =>
 bif (decide (y4<0)) then
 some (([],[]),11)
 else
 bif ((decide (0<=y4))&&(decide (y4<(t3.2.2.2.2.length:Int)))) then
 let t5:=(t3.2.2.2.2.getD (Int.toNat y4) (0,(0,(ByteArray.empty,(ByteArray.empty,(ByteArray.empty,(false,(false,0))))))))
 Option.bind (f761F k ((t5.2.1 !=1),4)) fun y6 =>
 Option.bind (f761F k (t5.2.2.2.2.2.2.1,26)) fun y7 =>
 Option.bind (f760F k [y6,y7]) fun y8 =>
 bif (y8 !=0) then
 some (([],[]),y8)
 else
 Option.bind (f769F k ((x.1.1,x.1.2),(t5.1,(t5.2.1,(t5.2.2.1,(t5.2.2.2.1,(t5.2.2.2.2.1,(t5.2.2.2.2.2.1,(t5.2.2.2.2.2.2.1,t5.2.2.2.2.2.2.2))))))),x.2.2.2)) fun y9 =>
 bif (y9 !=0) then
 some (([],[]),y9)
 else
 f721p0 k
 (fun (w11:D139) =>
 Option.bind (f754v0F k (w11.2.2.1,w11.2.2.2.1,w11.2.2.2.2.2.2.2.2.2.2.2.2.2.2.1,())) fun y12 =>
 Option.bind (f771v0F k (y12.1,w11.1,w11.2.2.2.2.1,w11.2.2.2.2.2.1,w11.2.2.2.2.2.2.1,w11.2.2.2.2.2.2.2.1,w11.2.2.2.2.2.2.2.2.1,w11.2.2.2.2.2.2.2.2.2.1,w11.2.2.2.2.2.2.2.2.2.2.1,w11.2.2.2.2.2.2.2.2.2.2.2.1,w11.2.1,y12.2.2.1,y12.2.1,())) fun y13 =>
 bif (y13.1 !=0) then
 some (([],[]),y13.1)
 else
 bif (((y13.2.1.all fun q=>(true&&(true&&(true&&(true&&(kro (List.map Kid.frz y13.2.2.1) q.2.2.2.2))))))&&true)&&true) then
 some ((y12.1,(y13.2.1.map fun q=>(q.1,(q.2.1,(q.2.2.1,(q.2.2.2.1,(kget (List.map Kid.frz y13.2.2.1) q.2.2.2.2))))))),0)
 else none)
 (x.2.1,x.2.2.2,x.1.1,x.1.2,t5.1,t5.2.1,t5.2.2.1,t5.2.2.2.1,t5.2.2.2.2.1,t5.2.2.2.2.2.1,t5.2.2.2.2.2.2.1,t5.2.2.2.2.2.2.2,[],[],[],())
 else none
 else none
theorem f721Ok (k:Nat):FnV P 21 [.agg Y11,.dat .str,.dat (.int .i64),.dat .str] [.agg Y11,.dat (.int .i64)] (f721F k) :=
 fs htm0 (f721T k) Tryz.func21 (by kernel_rfl) (SumsOk.nil |>.s (f721p0O k) (by kernel_rfl)) (some (42,Y3)) fun _=>by kernel_rfl
noncomputable def f723T (k:Nat):TB P:=TB.nil |>.u (f768Ok k) |>.g (f764v0Ok k) |>.g (f754v0Ok k) |>.u (f752Ok k) |>.u (f751Ok k)
noncomputable def f723l0s {R:Type}(k:Nat)(rec:D145->Option R)(k0:D141->Option R)(v:D145):Option R :=
 bif (decide (v.2.2.2.1<v.2.2.1)) then
 bif ((decide (0<=v.2.2.2.1))&&(decide (v.2.2.2.1<(v.2.1.length:Int)))) then
 let t4:=(v.2.1.getD (Int.toNat v.2.2.2.1) (0,(0,(ByteArray.empty,(ByteArray.empty,(ByteArray.empty,(false,(false,0))))))))
 bif (decide ((v.2.2.2.2.2.2.1.length+[t4.1].length)*8<=140737488355328)&&decide (v.2.2.2.2.2.2.1.length+[t4.1].length<=9223372036854775807)) then
 rec (v.1,v.2.1,v.2.2.1,(IntKind.i64.wrap (v.2.2.2.1+1)),v.2.2.2.2.1,v.2.2.2.2.2.1,(v.2.2.2.2.2.2.1++[t4.1]),v.2.2.2.2.2.2.2.1,v.2.2.2.2.2.2.2.2.1,v.2.2.2.2.2.2.2.2.2.1,())
 else none
 else none
 else
 k0 (v.1,v.2.2.2.2.1,v.2.2.2.2.2.1,v.2.2.2.2.2.2.1,v.2.2.2.2.2.2.2.1,v.2.2.2.2.2.2.2.2.1,v.2.2.2.2.2.2.2.2.2.1,())
noncomputable def f723l0 {R:Type}(k:Nat)(k0:D141->Option R)(v:D145):Option R:=iterS (fun rec v=>f723l0s k rec k0 v) k v
noncomputable def f723l0S (k:Nat):=loopSum ⟨[(1,oS),(3,.one (.ptr 0 0)),(6,.one (.ptr 1 0)),(10,.one (.own 2)),(37,.one (.ro Y3)),(38,oI),(39,oI)],[(0,.var 25 [.ro Y10,.ro (.pair .str Y5)]),(1,.var 25 [.own 3,.own 4]),(2,.row 3 (.int .i64) .plain),(3,.row 82 Y10 .plain),(4,.row 69 (.pair .str Y16) .plain),(5,.heap 42 Y3)],6,[]⟩ ⟨[1,3,6,10,37,38,39],[(10,3,(.int .i64))],[]⟩ k fun R rec K v=>f723l0s k rec (fun w=>K (.exit 0) (encSt ⟨[(1,oS),(3,.one (.ptr 0 0)),(6,.one (.ptr 1 0)),(10,.one (.own 2))],[(0,.var 25 [.ro Y10,.ro (.pair .str Y5)]),(1,.var 25 [.own 3,.own 4]),(2,.row 3 (.int .i64) .plain),(3,.row 82 Y10 .plain),(4,.row 69 (.pair .str Y16) .plain),(5,.heap 42 Y3)],6,[]⟩ w)) v
theorem f723l0O (k:Nat):SumO P Tryz.f23 2006 (f723l0S k):=lp htm0 (f723T k) ⟨[1,3,6,7,10],[],[]⟩ SumsOk.nil (by kernel_rfl) fun _ _ _ _=>by kernel_rfl
noncomputable def f723p1 {R:Type}(k:Nat)(k0:D141->Option R)(k1:D144->Option R)(v:D146):Option R :=
 bif (v.2.1==(-1)) then
 f723l0 k
 (fun (w5:D141) =>
 k0 (w5.1,w5.2.1,w5.2.2.1,w5.2.2.2.1,w5.2.2.2.2.1,w5.2.2.2.2.2.1,w5.2.2.2.2.2.2.1,()))
 (v.1,v.2.2.2.2.2.2.2.2.1,(v.2.2.2.2.2.2.2.2.1.length:Int),0,v.2.2.1,v.2.2.2.1,[],v.2.2.2.2.2.2.2.2.2.2.1,v.2.2.2.2.2.2.2.2.2.2.2.1,v.2.2.2.2.2.2.2.2.2.2.2.2.1,())
 else
 Option.bind (f768F k ((v.2.2.2.2.1,(v.2.2.2.2.2.1,(v.2.2.2.2.2.2.1,(v.2.2.2.2.2.2.2.1,v.2.2.2.2.2.2.2.2.1)))),v.2.1)) fun y6 =>
 bif (decide (y6<0)) then
 k1 (v.1,11,v.2.2.1,v.2.2.2.1,v.2.2.2.2.2.2.2.2.2.1,v.2.2.2.2.2.2.2.2.2.2.2.2.1,())
 else
 k0 (v.1,v.2.2.1,v.2.2.2.1,v.2.2.2.2.2.2.2.2.2.1,v.2.2.2.2.2.2.2.2.2.2.1,v.2.2.2.2.2.2.2.2.2.2.2.1,v.2.2.2.2.2.2.2.2.2.2.2.2.1,())
noncomputable def f723p1S (k:Nat):=partSum ⟨[(1,oS),(2,oI),(3,.one (.ptr 0 0)),(6,.one (.ptr 1 0)),(9,.one (.ptr 2 0)),(10,.one (.own 3))],[(0,.var 25 [.ro Y10,.ro (.pair .str Y5)]),(1,.var 25 [.own 4,.own 5]),(2,.var 69 [.str,.int .i64,.bool,.int .i64,.ro Y3]),(3,.row 3 (.int .i64) .plain),(4,.row 82 Y10 .plain),(5,.row 69 (.pair .str Y16) .plain),(6,.heap 42 Y3)],7,[]⟩ ⟨[1,2,3,6,9,10],[],[]⟩ fun R K v=>f723p1 k (fun w=>K .normal (encSt ⟨[(1,oS),(3,.one (.ptr 0 0)),(6,.one (.ptr 1 0)),(10,.one (.own 2))],[(0,.var 25 [.ro Y10,.ro (.pair .str Y5)]),(1,.var 25 [.own 3,.own 4]),(2,.row 3 (.int .i64) .plain),(3,.row 82 Y10 .plain),(4,.row 69 (.pair .str Y16) .plain),(5,.heap 42 Y3)],6,[]⟩ w)) (fun w=>K .ret (encSt ⟨[(1,oS),(3,.one (.ptr 0 0)),(6,.one (.ptr 1 0)),(7,oI),(10,.one (.own 2))],[(0,.var 25 [.ro Y10,.ro (.pair .str Y5)]),(1,.var 25 [.emp,.emp]),(2,.row 3 (.int .i64) .plain),(3,.heap 42 Y3)],4,[]⟩ w)) v
theorem f723p1O (k:Nat):SumO P Tryz.f23 62 (f723p1S k):=pt htm0 (f723T k) ⟨[1,3,6,7,10,13],[],[]⟩ (SumsOk.nil |>.s (f723l0O k) (by kernel_rfl)) fun _ _ _=>by kernel_rfl
noncomputable def f723l2s {R:Type}(k:Nat)(rec:D147->Option R)(k0:D142->Option R)(k1:D143->Option R)(v:D147):Option R :=
 bif (decide (v.2.2.1<v.2.1)) then
 bif ((decide (0<=v.2.2.1))&&(decide (v.2.2.1<(v.2.2.2.2.1.length:Int)))) then
 Option.bind (f764v0F k (v.2.2.2.1,v.1,(v.2.2.2.2.1.getD (Int.toNat v.2.2.1) 0),v.2.2.2.2.2.2.2.1,v.2.2.2.2.2.2.2.2.1,())) fun y9 =>
 bif (y9.1 !=0) then
 k0 (y9.1,v.2.2.2.1,y9.2.1,y9.2.2.1,())
 else
 rec (v.1,v.2.1,(IntKind.i64.wrap (v.2.2.1+1)),v.2.2.2.1,v.2.2.2.2.1,v.2.2.2.2.2.1,v.2.2.2.2.2.2.1,y9.2.1,y9.2.2.1,())
 else none
 else
 k1 (v.2.2.2.1,v.2.2.2.2.2.1,v.2.2.2.2.2.2.1,v.2.2.2.2.2.2.2.1,v.2.2.2.2.2.2.2.2.1,())
noncomputable def f723l2 {R:Type}(k:Nat)(k0:D142->Option R)(k1:D143->Option R)(v:D147):Option R:=iterS (fun rec v=>f723l2s k rec k0 k1 v) k v
noncomputable def f723l2S (k:Nat):=loopSum ⟨[(1,oS),(6,.one (.ptr 0 0)),(13,.one (.ptr 1 0)),(56,.one (.own 2)),(57,oI),(58,oI)],[(0,.var 25 [.own 3,.own 4]),(1,.var 25 [.ro Y10,.own 5]),(2,.row 3 (.int .i64) .plain),(3,.row 82 Y10 .plain),(4,.row 69 (.pair .str Y16) .plain),(5,.row 69 (.pair .str Y16) .plain),(6,.heap 42 Y3)],7,[]⟩ ⟨[1,6,13,56,57,58],[],[]⟩ k fun R rec K v=>f723l2s k rec (fun w=>K .ret (encSt ⟨[(6,.one (.ptr 0 0)),(7,oI),(13,.one (.ptr 1 0))],[(0,.var 25 [.emp,.emp]),(1,.var 25 [.ro Y10,.own 2]),(2,.row 69 (.pair .str Y16) .plain),(3,.heap 42 Y3)],4,[]⟩ w)) (fun w=>K (.exit 2) (encSt ⟨[(6,.one (.ptr 0 0)),(13,.one (.ptr 1 0))],[(0,.var 25 [.own 2,.own 3]),(1,.var 25 [.ro Y10,.own 4]),(2,.row 82 Y10 .plain),(3,.row 69 (.pair .str Y16) .plain),(4,.row 69 (.pair .str Y16) .plain),(5,.heap 42 Y3)],6,[]⟩ w)) v
theorem f723l2O (k:Nat):SumO P Tryz.f23 1018 (f723l2S k):=lp htm0 (f723T k) ⟨[6,7,13],[],[]⟩ SumsOk.nil (by kernel_rfl) fun _ _ _ _=>by kernel_rfl
noncomputable def f723F (k:Nat)(x:D14×ByteArray×Int):Option (D14×Int) :=
 Option.bind (f751F k ((x.1.1,x.1.2),[x.2.1])) fun y1 =>
 bif (y1 !=0) then
 some (([],[]),y1)
 else
 Option.bind (f752F k ((x.1.1,x.1.2),x.2.1)) fun y2 =>
 bif ((decide (0<=y2))&&(decide (y2<(x.1.2.length:Int)))) then
 let t3:=(x.1.2.getD (Int.toNat y2) (ByteArray.empty,(0,(false,(0,[])))))
 f723p1 k
 (fun (w7:D141) =>
 Option.bind (f754v0F k (w7.2.1,w7.2.2.1,w7.2.2.2.2.2.2.1,())) fun y8 =>
 f723l2 k
 (fun (w10:D142) =>
 some (([],[]),w10.1))
 (fun (w11:D143) =>
 bif (((w11.2.2.2.1.all fun q=>(true&&(true&&(true&&(true&&(kro (List.map Kid.frz w11.2.2.2.2.1) q.2.2.2.2))))))&&true)&&true) then
 some ((w11.1,(w11.2.2.2.1.map fun q=>(q.1,(q.2.1,(q.2.2.1,(q.2.2.2.1,(kget (List.map Kid.frz w11.2.2.2.2.1) q.2.2.2.2))))))),0)
 else none)
 (w7.1,(w7.2.2.2.1.length:Int),0,y8.1,w7.2.2.2.1,w7.2.2.2.2.1,w7.2.2.2.2.2.1,y8.2.2.1,y8.2.1,()))
 (fun (w12:D144) =>
 some (([],[]),w12.2.1))
 (x.2.1,x.2.2,x.1.1,x.1.2,t3.1,t3.2.1,t3.2.2.1,t3.2.2.2.1,t3.2.2.2.2,[x.2.2],[],[],[],())
 else none
theorem f723Ok (k:Nat):FnV P 23 [.agg Y11,.dat .str,.dat (.int .i64)] [.agg Y11,.dat (.int .i64)] (f723F k) :=
 fs htm0 (f723T k) Tryz.func23 (by kernel_rfl) (SumsOk.nil |>.s (f723l2O k) (by kernel_rfl) |>.s (f723p1O k) (by kernel_rfl) |>.s (f723l0O k) (by kernel_rfl)) (some (42,Y3)) fun _=>by kernel_rfl
end Go.Proofs.YthcmomgkfjjajaaGreatDoor
