import Derived.Test.YthcmomgkfjjajaaGreatDoorFdJ
import Derived.Test.YthcmomgkfjjajaaGreatDoorProg
set_option linter.unusedVariables false
set_option maxRecDepth 100000
namespace Go.Proofs.YthcmomgkfjjajaaGreatDoor
open Go.Ab
noncomputable def f735l0s {R : Type} (k : Nat) (rec : D152 → Option R) (k0 : Bool × Unit → Option R) (k1 : Unit → Option R) (v : D152) : Option R :=
 bif (decide (v.1 < (v.2.2.2.2.2.2.2.1.length : Int))) then
 bif ((decide (0 ≤ v.1)) && (decide (v.1 < (v.2.2.2.2.2.2.2.1.length : Int)))) then
 let t1 := (decide (((v.2.2.2.2.2.2.2.1.getD (Int.toNat v.1) ByteArray.empty).size : Int) > 100))
 bif t1 then
 k0 (false, ())
 else
 rec ((IntKind.i64.wrap (v.1 + 1)), v.2.1, v.2.2.1, v.2.2.2.1, v.2.2.2.2.1, v.2.2.2.2.2.1, v.2.2.2.2.2.2.1, v.2.2.2.2.2.2.2.1, ())
 else none
 else
 k1 (())
noncomputable def f735l0 {R : Type} (k : Nat) (k0 : Bool × Unit → Option R) (k1 : Unit → Option R) (v : D152) : Option R := iterS (fun rec v => f735l0s k rec k0 k1 v) k v
noncomputable def f735l0S (k : Nat) := loopSum ⟨[(1, .one (.ptr 0 0)), (3, oI)], [(0, .var 82 [.str, .int .i64, .str, .str, .ro (.pair (.int .i64) Y6), .str, .ro .str])], 1, []⟩ ⟨[1, 3], [], []⟩ k fun R rec K v => f735l0s k rec (fun w => K .ret (encSt ⟨[(2, oB)], [], 0, []⟩ w)) (fun w => K (.exit 0) (encSt ⟨[], [], 0, []⟩ w)) v
theorem f735l0O (k : Nat) : SumO P Tryz.f35 58 (f735l0S k) := lp tm TB.nil ⟨[2], [], []⟩ SumsOk.nil (by kernel_rfl) fun _ _ _ _ => by kernel_rfl
noncomputable def f735F (k : Nat) (x : D13) : Option (Bool) :=
 bif (decide ((x.2.2.2.2.1.length : Int) > 12)) then
 some false
 else
 bif (decide ((x.2.2.2.2.2.2.length : Int) > 12)) then
 some false
 else
 bif (decide ((x.2.2.1.size : Int) > 400)) then
 some false
 else
 bif (decide ((x.2.2.2.1.size : Int) > 400)) then
 some false
 else
 bif (decide ((x.2.2.2.2.2.1.size : Int) > 100)) then
 some false
 else
 f735l0 k
 (fun (w2 : Bool × Unit) =>
 some w2.1)
 (fun (w3 : Unit) =>
 some true)
 (0, x.1, x.2.1, x.2.2.1, x.2.2.2.1, x.2.2.2.2.1, x.2.2.2.2.2.1, x.2.2.2.2.2.2, ())
theorem f735Ok (k : Nat) : FnV P 35 [.agg Y10] [.dat .bool] (f735F k) :=
 fs tm TB.nil Tryz.func35 (by kernel_rfl) (SumsOk.nil |>.s (f735l0O k) (by kernel_rfl)) none fun _ => by kernel_rfl
noncomputable def f745T (k : Nat) : TB P := TB.nil |>.u (f735Ok k)
noncomputable def f745l0s {R : Type} (k : Nat) (rec : List D13 × Int × Unit → Option R) (k0 : Bool × Unit → Option R) (k1 : Unit → Option R) (v : List D13 × Int × Unit) : Option R :=
 bif (decide (v.2.1 < (v.1.length : Int))) then
 bif ((decide (0 ≤ v.2.1)) && (decide (v.2.1 < (v.1.length : Int)))) then
 let t1 := (v.1.getD (Int.toNat v.2.1) (ByteArray.empty, (0, (ByteArray.empty, (ByteArray.empty, ([], (ByteArray.empty, [])))))))
 Option.bind (f735F k (t1.1, (t1.2.1, (t1.2.2.1, (t1.2.2.2.1, (t1.2.2.2.2.1, (t1.2.2.2.2.2.1, t1.2.2.2.2.2.2))))))) fun y2 =>
 bif (!y2) then
 k0 (false, ())
 else
 rec (v.1, (IntKind.i64.wrap (v.2.1 + 1)), ())
 else none
 else
 k1 (())
noncomputable def f745l0 {R : Type} (k : Nat) (k0 : Bool × Unit → Option R) (k1 : Unit → Option R) (v : List D13 × Int × Unit) : Option R := iterS (fun rec v => f745l0s k rec k0 k1 v) k v
noncomputable def f745l0S (k : Nat) := loopSum ⟨[(0, .one (.ro Y10)), (3, oI)], [], 0, []⟩ ⟨[0, 3], [], []⟩ k fun R rec K v => f745l0s k rec (fun w => K .ret (encSt ⟨[(2, oB)], [], 0, []⟩ w)) (fun w => K (.exit 0) (encSt ⟨[], [], 0, []⟩ w)) v
theorem f745l0O (k : Nat) : SumO P Tryz.f45 58 (f745l0S k) := lp tm (f745T k) ⟨[2], [], []⟩ SumsOk.nil (by kernel_rfl) fun _ _ _ _ => by kernel_rfl
noncomputable def f745F (k : Nat) (x : (List D13)) : Option (Bool) :=
 bif (decide ((x.length : Int) > 21)) then
 some false
 else
 f745l0 k
 (fun (w3 : Bool × Unit) =>
 some w3.1)
 (fun (w4 : Unit) =>
 some true)
 (x, 0, ())
theorem f745Ok (k : Nat) : FnV P 45 [.dat (.slice Y10)] [.dat .bool] (f745F k) :=
 fs tm (f745T k) Tryz.func45 (by kernel_rfl) (SumsOk.nil |>.s (f745l0O k) (by kernel_rfl)) none fun _ => by kernel_rfl
noncomputable def f713T (k : Nat) : TB P := TB.nil |>.u (f745Ok k)
noncomputable def f713l0s {R : Type} (k : Nat) (rec : D199 → Option R) (k0 : D198 → Option R) (k1 : D112 → Option R) (v : D199) : Option R :=
 bif ((decide (0 ≤ v.1)) && (decide (v.1 < (v.2.2.2.1.length : Int)))) then
 let t3 := (v.2.2.2.1.getD (Int.toNat v.1) (ByteArray.empty, (0, (false, (0, [])))))
 bif (decide (v.2.1 < (t3.2.2.2.2.length : Int))) then
 bif ((decide (0 ≤ v.1)) && (decide (v.1 < (v.2.2.2.1.length : Int)))) then
 let t4 := (v.2.2.2.1.getD (Int.toNat v.1) (ByteArray.empty, (0, (false, (0, [])))))
 bif ((decide (0 ≤ v.2.1)) && (decide (v.2.1 < (t4.2.2.2.2.length : Int)))) then
 let t5 := (t4.2.2.2.2.getD (Int.toNat v.2.1) (0, (0, (ByteArray.empty, (ByteArray.empty, (ByteArray.empty, (false, (false, 0))))))))
 bif (decide ((t5.2.2.2.1.size : Int) > 300)) then
 k0 (false, v.1, v.2.2.1, v.2.2.2.1, ())
 else
 rec (v.1, (IntKind.i64.wrap (v.2.1 + 1)), v.2.2.1, v.2.2.2.1, ())
 else none
 else none
 else
 k1 (v.1, v.2.2.1, v.2.2.2.1, ())
 else none
noncomputable def f713l0 {R : Type} (k : Nat) (k0 : D198 → Option R) (k1 : D112 → Option R) (v : D199) : Option R := iterS (fun rec v => f713l0s k rec k0 k1 v) k v
noncomputable def f713l0S (k : Nat) := loopSum ⟨[(1, .one (.ptr 0 0)), (3, oI), (4, oI)], [(0, .var 25 [.ro Y10, .ro (.pair .str Y5)])], 1, []⟩ ⟨[1, 3, 4], [], []⟩ k fun R rec K v => f713l0s k rec (fun w => K .ret (encSt ⟨[(1, .one (.ptr 0 0)), (2, oB), (3, oI)], [(0, .var 25 [.ro Y10, .ro (.pair .str Y5)])], 1, []⟩ w)) (fun w => K (.exit 2) (encSt ⟨[(1, .one (.ptr 0 0)), (3, oI)], [(0, .var 25 [.ro Y10, .ro (.pair .str Y5)])], 1, []⟩ w)) v
theorem f713l0O (k : Nat) : SumO P Tryz.f13 7462 (f713l0S k) := lp tm (f713T k) ⟨[1, 2, 3], [], []⟩ SumsOk.nil (by kernel_rfl) fun _ _ _ _ => by kernel_rfl
noncomputable def f713l1s {R : Type} (k : Nat) (rec : D112 → Option R) (k0 : Bool × Unit → Option R) (k1 : Unit → Option R) (v : D112) : Option R :=
 bif (decide (v.1 < (v.2.2.1.length : Int))) then
 bif ((decide (0 ≤ v.1)) && (decide (v.1 < (v.2.2.1.length : Int)))) then
 let t2 := (v.2.2.1.getD (Int.toNat v.1) (ByteArray.empty, (0, (false, (0, [])))))
 bif (decide ((t2.2.2.2.2.length : Int) > 14)) then
 k0 (false, ())
 else
 f713l0 k
 (fun (w6 : D198) =>
 k0 (w6.1, ()))
 (fun (w7 : D112) =>
 rec ((IntKind.i64.wrap (w7.1 + 1)), w7.2.1, w7.2.2.1, ()))
 (v.1, 0, v.2.1, v.2.2.1, ())
 else none
 else
 k1 (())
noncomputable def f713l1 {R : Type} (k : Nat) (k0 : Bool × Unit → Option R) (k1 : Unit → Option R) (v : D112) : Option R := iterS (fun rec v => f713l1s k rec k0 k1 v) k v
noncomputable def f713l1S (k : Nat) := loopSum ⟨[(1, .one (.ptr 0 0)), (3, oI)], [(0, .var 25 [.ro Y10, .ro (.pair .str Y5)])], 1, []⟩ ⟨[1, 3], [], []⟩ k fun R rec K v => f713l1s k rec (fun w => K .ret (encSt ⟨[(2, oB)], [], 0, []⟩ w)) (fun w => K (.exit 0) (encSt ⟨[], [], 0, []⟩ w)) v
theorem f713l1O (k : Nat) : SumO P Tryz.f13 58 (f713l1S k) := lp tm (f713T k) ⟨[2], [], []⟩ (SumsOk.nil |>.s (f713l0O k) (by kernel_rfl)) (by kernel_rfl) fun _ _ _ _ => by kernel_rfl
noncomputable def f713F (k : Nat) (x : D14) : Option (Bool) :=
 Option.bind (f745F k x.1) fun y1 =>
 bif (!y1) then
 some false
 else
 bif (decide ((x.2.length : Int) > 7)) then
 some false
 else
 f713l1 k
 (fun (w8 : Bool × Unit) =>
 some w8.1)
 (fun (w9 : Unit) =>
 some true)
 (0, x.1, x.2, ())
theorem f713Ok (k : Nat) : FnV P 13 [.agg Y11] [.dat .bool] (f713F k) :=
 fs tm (f713T k) Tryz.func13 (by kernel_rfl) (SumsOk.nil |>.s (f713l1O k) (by kernel_rfl) |>.s (f713l0O k) (by kernel_rfl)) none fun _ => by kernel_rfl
noncomputable def f714F (k : Nat) (x : (ByteArray × D64)) : Option (Bool) :=
 bif (decide ((x.2.2.2.1.size : Int) ≤ 514)) then
 some (decide ((x.2.2.2.2.1.size : Int) ≤ 300))
 else
 some false
theorem f714Ok (k : Nat) : FnV P 14 [.agg (.pair .str Y14)] [.dat .bool] (f714F k) :=
 fs tm TB.nil Tryz.func14 (by kernel_rfl) SumsOk.nil none fun _ => by kernel_rfl
noncomputable def f725T (k : Nat) : TB P := TB.nil |>.u (f714Ok k)
noncomputable def f725l0s {R : Type} (k : Nat) (rec : D200 → Option R) (k0 : Bool × Unit → Option R) (k1 : Unit → Option R) (v : D200) : Option R :=
 bif (decide (v.2.1 < (v.1.length : Int))) then
 bif ((decide (0 ≤ v.2.1)) && (decide (v.2.1 < (v.1.length : Int)))) then
 let t1 := (v.1.getD (Int.toNat v.2.1) (0, ((ByteArray.empty, (ByteArray.empty, (ByteArray.empty, (ByteArray.empty, (ByteArray.empty, false))))), ((ByteArray.empty, (0, (0, false))), ByteArray.empty))))
 Option.bind (f714F k (t1.2.1.1, (t1.2.1.2.1, (t1.2.1.2.2.1, (t1.2.1.2.2.2.1, (t1.2.1.2.2.2.2.1, t1.2.1.2.2.2.2.2)))))) fun y2 =>
 bif (!y2) then
 k0 (false, ())
 else
 bif ((decide (0 ≤ v.2.1)) && (decide (v.2.1 < (v.1.length : Int)))) then
 let t3 := (v.1.getD (Int.toNat v.2.1) (0, ((ByteArray.empty, (ByteArray.empty, (ByteArray.empty, (ByteArray.empty, (ByteArray.empty, false))))), ((ByteArray.empty, (0, (0, false))), ByteArray.empty))))
 bif (decide ((t3.2.2.2.size : Int) > 100)) then
 k0 (false, ())
 else
 rec (v.1, (IntKind.i64.wrap (v.2.1 + 1)), ())
 else none
 else none
 else
 k1 (())
noncomputable def f725l0 {R : Type} (k : Nat) (k0 : Bool × Unit → Option R) (k1 : Unit → Option R) (v : D200) : Option R := iterS (fun rec v => f725l0s k rec k0 k1 v) k v
noncomputable def f725l0S (k : Nat) := loopSum ⟨[(0, .one (.ro (.pair (.int .i64) Y19))), (3, oI)], [], 0, []⟩ ⟨[0, 3], [], []⟩ k fun R rec K v => f725l0s k rec (fun w => K .ret (encSt ⟨[(2, oB)], [], 0, []⟩ w)) (fun w => K (.exit 0) (encSt ⟨[], [], 0, []⟩ w)) v
theorem f725l0O (k : Nat) : SumO P Tryz.f25 58 (f725l0S k) := lp tm (f725T k) ⟨[2], [], []⟩ SumsOk.nil (by kernel_rfl) fun _ _ _ _ => by kernel_rfl
noncomputable def f725F (k : Nat) (x : (List (Int × D190))) : Option (Bool) :=
 bif (decide ((x.length : Int) > 62)) then
 some false
 else
 f725l0 k
 (fun (w4 : Bool × Unit) =>
 some w4.1)
 (fun (w5 : Unit) =>
 some true)
 (x, 0, ())
theorem f725Ok (k : Nat) : FnV P 25 [.dat (.slice (.pair (.int .i64) Y19))] [.dat .bool] (f725F k) :=
 fs tm (f725T k) Tryz.func25 (by kernel_rfl) (SumsOk.nil |>.s (f725l0O k) (by kernel_rfl)) none fun _ => by kernel_rfl
noncomputable def f734T (k : Nat) : TB P := TB.nil |>.u (f733Ok k)
noncomputable def f734p0 {R : Type} (k : Nat) (k0 : D201 → Option R) (k1 : D202 → Option R) (v : D202) : Option R :=
 bif (!strEq v.2.1 v.2.2.2.2.2.2.1) then
 k0 (v.1, false, v.2.1, v.2.2.1, v.2.2.2.1, v.2.2.2.2.1, v.2.2.2.2.2.1, v.2.2.2.2.2.2.1, v.2.2.2.2.2.2.2.1, v.2.2.2.2.2.2.2.2.1, v.2.2.2.2.2.2.2.2.2.1, v.2.2.2.2.2.2.2.2.2.2.1, ())
 else
 bif (decide (v.2.2.2.2.2.2.2.2.2.1 < v.2.2.2.2.1)) then
 k0 (v.1, false, v.2.1, v.2.2.1, v.2.2.2.1, v.2.2.2.2.1, v.2.2.2.2.2.1, v.2.2.2.2.2.2.1, v.2.2.2.2.2.2.2.1, v.2.2.2.2.2.2.2.2.1, v.2.2.2.2.2.2.2.2.2.1, v.2.2.2.2.2.2.2.2.2.2.1, ())
 else
 bif v.1 then
 let t1 := (decide (v.2.2.2.2.2.2.2.2.2.1 > (IntKind.i64.wrap (v.2.2.2.2.1 + 1))))
 bif t1 then
 k0 (v.1, false, v.2.1, v.2.2.1, v.2.2.2.1, v.2.2.2.2.1, v.2.2.2.2.2.1, v.2.2.2.2.2.2.1, v.2.2.2.2.2.2.2.1, v.2.2.2.2.2.2.2.2.1, v.2.2.2.2.2.2.2.2.2.1, v.2.2.2.2.2.2.2.2.2.2.1, ())
 else
 bif (decide ((v.2.2.2.2.2.2.2.2.2.2.1.length : Int) > v.2.2.2.2.2.2.2.1)) then
 k0 (v.1, false, v.2.1, v.2.2.1, v.2.2.2.1, v.2.2.2.2.1, v.2.2.2.2.2.1, v.2.2.2.2.2.2.1, v.2.2.2.2.2.2.2.1, v.2.2.2.2.2.2.2.2.1, v.2.2.2.2.2.2.2.2.2.1, v.2.2.2.2.2.2.2.2.2.2.1, ())
 else
 k1 (v.1, v.2.1, v.2.2.1, v.2.2.2.1, v.2.2.2.2.1, v.2.2.2.2.2.1, v.2.2.2.2.2.2.1, v.2.2.2.2.2.2.2.1, v.2.2.2.2.2.2.2.2.1, v.2.2.2.2.2.2.2.2.2.1, v.2.2.2.2.2.2.2.2.2.2.1, ())
 else
 bif (decide ((v.2.2.2.2.2.2.2.2.2.2.1.length : Int) > v.2.2.2.2.2.2.2.1)) then
 k0 (v.1, false, v.2.1, v.2.2.1, v.2.2.2.1, v.2.2.2.2.1, v.2.2.2.2.2.1, v.2.2.2.2.2.2.1, v.2.2.2.2.2.2.2.1, v.2.2.2.2.2.2.2.2.1, v.2.2.2.2.2.2.2.2.2.1, v.2.2.2.2.2.2.2.2.2.2.1, ())
 else
 k1 (v.1, v.2.1, v.2.2.1, v.2.2.2.1, v.2.2.2.2.1, v.2.2.2.2.2.1, v.2.2.2.2.2.2.1, v.2.2.2.2.2.2.2.1, v.2.2.2.2.2.2.2.2.1, v.2.2.2.2.2.2.2.2.2.1, v.2.2.2.2.2.2.2.2.2.2.1, ())
noncomputable def f734p0S (k : Nat) := partSum ⟨[(2, oB), (3, .one (.ptr 0 0)), (4, .one (.ptr 1 0))], [(0, .var 69 [.str, .int .i64, .bool, .int .i64, .ro Y3]), (1, .var 69 [.str, .int .i64, .bool, .int .i64, .ro Y3])], 2, []⟩ ⟨[2, 3, 4], [], []⟩ fun R K v => f734p0 k (fun w => K .ret (encSt ⟨[(2, oB), (3, .one (.ptr 0 0)), (4, .one (.ptr 1 0)), (6, oB)], [(0, .var 69 [.str, .int .i64, .bool, .int .i64, .ro Y3]), (1, .var 69 [.str, .int .i64, .bool, .int .i64, .ro Y3])], 2, []⟩ w)) (fun w => K .normal (encSt ⟨[(2, oB), (3, .one (.ptr 0 0)), (4, .one (.ptr 1 0))], [(0, .var 69 [.str, .int .i64, .bool, .int .i64, .ro Y3]), (1, .var 69 [.str, .int .i64, .bool, .int .i64, .ro Y3])], 2, []⟩ w)) v
theorem f734p0O (k : Nat) : SumO P Tryz.f34 6 (f734p0S k) := pt tm (f734T k) ⟨[2, 3, 4, 6], [], []⟩ SumsOk.nil fun _ _ _ => by kernel_rfl
noncomputable def f734p1 {R : Type} (k : Nat) (k0 : D203 → Option R) (k1 : D204 → Option R) (v : D204) : Option R :=
 bif ((decide (0 ≤ v.2.1)) && (decide (v.2.1 < (v.2.2.2.2.2.2.1.length : Int)))) then
 let t4 := (v.2.2.2.2.2.2.1.getD (Int.toNat v.2.1) (0, (0, (ByteArray.empty, (ByteArray.empty, (ByteArray.empty, (false, (false, 0))))))))
 Option.bind (f733F k ((v.2.2.2.2.2.2.2.1, (v.2.2.2.2.2.2.2.2.1, (v.2.2.2.2.2.2.2.2.2.1, (v.2.2.2.2.2.2.2.2.2.2.1, v.2.2.2.2.2.2.2.2.2.2.2.1)))), t4.1)) fun y5 =>
 bif (y5 == (-1)) then
 bif v.1 then
 bif (t4.2.1 == 1) then
 bif (!t4.2.2.2.2.2.2.1) then
 k0 (v.1, false, v.2.1, v.2.2.1, v.2.2.2.1, v.2.2.2.2.1, v.2.2.2.2.2.1, v.2.2.2.2.2.2.1, v.2.2.2.2.2.2.2.1, v.2.2.2.2.2.2.2.2.1, v.2.2.2.2.2.2.2.2.2.1, v.2.2.2.2.2.2.2.2.2.2.1, v.2.2.2.2.2.2.2.2.2.2.2.1, ())
 else
 k1 (v.1, v.2.1, v.2.2.1, v.2.2.2.1, v.2.2.2.2.1, v.2.2.2.2.2.1, v.2.2.2.2.2.2.1, v.2.2.2.2.2.2.2.1, v.2.2.2.2.2.2.2.2.1, v.2.2.2.2.2.2.2.2.2.1, v.2.2.2.2.2.2.2.2.2.2.1, v.2.2.2.2.2.2.2.2.2.2.2.1, ())
 else
 k1 (v.1, v.2.1, v.2.2.1, v.2.2.2.1, v.2.2.2.2.1, v.2.2.2.2.2.1, v.2.2.2.2.2.2.1, v.2.2.2.2.2.2.2.1, v.2.2.2.2.2.2.2.2.1, v.2.2.2.2.2.2.2.2.2.1, v.2.2.2.2.2.2.2.2.2.2.1, v.2.2.2.2.2.2.2.2.2.2.2.1, ())
 else
 k1 (v.1, v.2.1, v.2.2.1, v.2.2.2.1, v.2.2.2.2.1, v.2.2.2.2.2.1, v.2.2.2.2.2.2.1, v.2.2.2.2.2.2.2.1, v.2.2.2.2.2.2.2.2.1, v.2.2.2.2.2.2.2.2.2.1, v.2.2.2.2.2.2.2.2.2.2.1, v.2.2.2.2.2.2.2.2.2.2.2.1, ())
 else
 bif ((decide (0 ≤ y5)) && (decide (y5 < (v.2.2.2.2.2.2.2.2.2.2.2.1.length : Int)))) then
 let t6 := (v.2.2.2.2.2.2.2.2.2.2.2.1.getD (Int.toNat y5) (0, (0, (ByteArray.empty, (ByteArray.empty, (ByteArray.empty, (false, (false, 0))))))))
 let t7 := (!((t6.1 == t4.1) && ((t6.2.1 == t4.2.1) && ((strEq t6.2.2.1 t4.2.2.1) && ((strEq t6.2.2.2.1 t4.2.2.2.1) && ((strEq t6.2.2.2.2.1 t4.2.2.2.2.1) && ((t4.2.2.2.2.2.1 == t4.2.2.2.2.2.1) && ((t4.2.2.2.2.2.2.1 == t4.2.2.2.2.2.2.1) && ((t6.2.2.2.2.2.2.2 == t4.2.2.2.2.2.2.2) && true)))))))))
 bif t7 then
 k0 (v.1, false, v.2.1, v.2.2.1, v.2.2.2.1, v.2.2.2.2.1, v.2.2.2.2.2.1, v.2.2.2.2.2.2.1, v.2.2.2.2.2.2.2.1, v.2.2.2.2.2.2.2.2.1, v.2.2.2.2.2.2.2.2.2.1, v.2.2.2.2.2.2.2.2.2.2.1, v.2.2.2.2.2.2.2.2.2.2.2.1, ())
 else
 k1 (v.1, v.2.1, v.2.2.1, v.2.2.2.1, v.2.2.2.2.1, v.2.2.2.2.2.1, v.2.2.2.2.2.2.1, v.2.2.2.2.2.2.2.1, v.2.2.2.2.2.2.2.2.1, v.2.2.2.2.2.2.2.2.2.1, v.2.2.2.2.2.2.2.2.2.2.1, v.2.2.2.2.2.2.2.2.2.2.2.1, ())
 else none
 else none
noncomputable def f734p1S (k : Nat) := partSum ⟨[(2, oB), (3, .one (.ptr 0 0)), (4, .one (.ptr 1 0)), (7, oI)], [(0, .var 69 [.str, .int .i64, .bool, .int .i64, .ro Y3]), (1, .var 69 [.str, .int .i64, .bool, .int .i64, .ro Y3])], 2, []⟩ ⟨[2, 3, 4, 7], [], []⟩ fun R K v => f734p1 k (fun w => K .ret (encSt ⟨[(2, oB), (3, .one (.ptr 0 0)), (4, .one (.ptr 1 0)), (6, oB), (7, oI)], [(0, .var 69 [.str, .int .i64, .bool, .int .i64, .ro Y3]), (1, .var 69 [.str, .int .i64, .bool, .int .i64, .ro Y3])], 2, []⟩ w)) (fun w => K .normal (encSt ⟨[(2, oB), (3, .one (.ptr 0 0)), (4, .one (.ptr 1 0)), (7, oI)], [(0, .var 69 [.str, .int .i64, .bool, .int .i64, .ro Y3]), (1, .var 69 [.str, .int .i64, .bool, .int .i64, .ro Y3])], 2, []⟩ w)) v
theorem f734p1O (k : Nat) : SumO P Tryz.f34 466 (f734p1S k) := pt tm (f734T k) ⟨[2, 3, 4, 6, 7], [], []⟩ SumsOk.nil fun _ _ _ => by kernel_rfl
noncomputable def f734l2s {R : Type} (k : Nat) (rec : D204 → Option R) (k0 : Bool × Unit → Option R) (k1 : Unit → Option R) (v : D204) : Option R :=
 bif (decide (v.2.1 < (v.2.2.2.2.2.2.1.length : Int))) then
 f734p1 k
 (fun (w8 : D203) =>
 k0 (w8.2.1, ()))
 (fun (w9 : D204) =>
 rec (w9.1, (IntKind.i64.wrap (w9.2.1 + 1)), w9.2.2.1, w9.2.2.2.1, w9.2.2.2.2.1, w9.2.2.2.2.2.1, w9.2.2.2.2.2.2.1, w9.2.2.2.2.2.2.2.1, w9.2.2.2.2.2.2.2.2.1, w9.2.2.2.2.2.2.2.2.2.1, w9.2.2.2.2.2.2.2.2.2.2.1, w9.2.2.2.2.2.2.2.2.2.2.2.1, ()))
 (v.1, v.2.1, v.2.2.1, v.2.2.2.1, v.2.2.2.2.1, v.2.2.2.2.2.1, v.2.2.2.2.2.2.1, v.2.2.2.2.2.2.2.1, v.2.2.2.2.2.2.2.2.1, v.2.2.2.2.2.2.2.2.2.1, v.2.2.2.2.2.2.2.2.2.2.1, v.2.2.2.2.2.2.2.2.2.2.2.1, ())
 else
 k1 (())
noncomputable def f734l2 {R : Type} (k : Nat) (k0 : Bool × Unit → Option R) (k1 : Unit → Option R) (v : D204) : Option R := iterS (fun rec v => f734l2s k rec k0 k1 v) k v
noncomputable def f734l2S (k : Nat) := loopSum ⟨[(2, oB), (3, .one (.ptr 0 0)), (4, .one (.ptr 1 0)), (7, oI)], [(0, .var 69 [.str, .int .i64, .bool, .int .i64, .ro Y3]), (1, .var 69 [.str, .int .i64, .bool, .int .i64, .ro Y3])], 2, []⟩ ⟨[2, 3, 4, 7], [], []⟩ k fun R rec K v => f734l2s k rec (fun w => K .ret (encSt ⟨[(6, oB)], [], 0, []⟩ w)) (fun w => K (.exit 0) (encSt ⟨[], [], 0, []⟩ w)) v
theorem f734l2O (k : Nat) : SumO P Tryz.f34 58 (f734l2S k) := lp tm (f734T k) ⟨[6], [], []⟩ (SumsOk.nil |>.s (f734p1O k) (by kernel_rfl)) (by kernel_rfl) fun _ _ _ _ => by kernel_rfl
noncomputable def f734F (k : Nat) (x : D6 × D6 × Bool) : Option (Bool) :=
 f734p0 k
 (fun (w2 : D201) =>
 some w2.2.1)
 (fun (w3 : D202) =>
 f734l2 k
 (fun (w10 : Bool × Unit) =>
 some w10.1)
 (fun (w11 : Unit) =>
 some true)
 (w3.1, 0, w3.2.1, w3.2.2.1, w3.2.2.2.1, w3.2.2.2.2.1, w3.2.2.2.2.2.1, w3.2.2.2.2.2.2.1, w3.2.2.2.2.2.2.2.1, w3.2.2.2.2.2.2.2.2.1, w3.2.2.2.2.2.2.2.2.2.1, w3.2.2.2.2.2.2.2.2.2.2.1, ()))
 (x.2.2, x.1.1, x.1.2.1, x.1.2.2.1, x.1.2.2.2.1, x.1.2.2.2.2, x.2.1.1, x.2.1.2.1, x.2.1.2.2.1, x.2.1.2.2.2.1, x.2.1.2.2.2.2, ())
theorem f734Ok (k : Nat) : FnV P 34 [.agg (.pair .str Y5), .agg (.pair .str Y5), .dat .bool] [.dat .bool] (f734F k) :=
 fs tm (f734T k) Tryz.func34 (by kernel_rfl) (SumsOk.nil |>.s (f734l2O k) (by kernel_rfl) |>.s (f734p1O k) (by kernel_rfl) |>.s (f734p0O k) (by kernel_rfl)) none fun _ => by kernel_rfl
noncomputable def f730v0I : Shape := ⟨[(0, .agg [.ro Y10, .ro (.pair .str Y5)])], [], 0, []⟩
noncomputable def f730v0U : Shape := ⟨[(0, .agg [.own 0, .own 1])], [(0, .row 82 Y10 .plain), (1, .row 69 (.pair .str Y5) .plain)], 2, []⟩
noncomputable def f730v0T (k : Nat) : TB P := TB.nil |>.g (f716v1Ok k)
noncomputable def f730v0l0s {R : Type} (k : Nat) (rec : D186 → Option R) (k0 : D67 → Option R) (v : D186) : Option R :=
 bif (decide (v.1 < (v.2.2.2.2.1.length : Int))) then
 bif ((decide (0 ≤ v.1)) && (decide (v.1 < (v.2.2.2.2.1.length : Int)))) then
 let t2 := (v.2.2.2.2.1.set (Int.toNat v.1) ((v.2.2.2.2.1.getD (Int.toNat v.1) (ByteArray.empty, (0, (false, (0, []))))).1, ((v.2.2.2.2.1.getD (Int.toNat v.1) (ByteArray.empty, (0, (false, (0, []))))).2.1, ((v.2.2.2.2.1.getD (Int.toNat v.1) (ByteArray.empty, (0, (false, (0, []))))).2.2.1, ((v.2.2.2.2.1.getD (Int.toNat v.1) (ByteArray.empty, (0, (false, (0, []))))).2.2.2.1, [])))))
 bif ((decide (0 ≤ v.1)) && (decide (v.1 < (t2.length : Int)))) then
 let t3 := (t2.set (Int.toNat v.1) ((t2.getD (Int.toNat v.1) (ByteArray.empty, (0, (false, (0, []))))).1, ((t2.getD (Int.toNat v.1) (ByteArray.empty, (0, (false, (0, []))))).2.1, ((t2.getD (Int.toNat v.1) (ByteArray.empty, (0, (false, (0, []))))).2.2.1, (1, (t2.getD (Int.toNat v.1) (ByteArray.empty, (0, (false, (0, []))))).2.2.2.2)))))
 rec ((IntKind.i64.wrap (v.1 + 1)), v.2.1, v.2.2.1, v.2.2.2.1, t3, ())
 else none
 else none
 else
 k0 (v.2.1, v.2.2.1, v.2.2.2.1, v.2.2.2.2.1, ())
noncomputable def f730v0l0 {R : Type} (k : Nat) (k0 : D67 → Option R) (v : D186) : Option R := iterS (fun rec v => f730v0l0s k rec k0 v) k v
noncomputable def f730v0l0S (k : Nat) := loopSum ⟨[(2, .one (.ptr 0 0)), (3, .one (.ptr 1 0)), (4, oI)], [(0, .var 25 [.own 2, .own 3]), (1, .var 25 [.own 4, .own 5]), (2, .row 82 Y10 .plain), (3, .row 69 (.pair .str Y5) .plain), (4, .row 82 Y10 .plain), (5, .row 69 (.pair .str Y5) .plain)], 6, []⟩ ⟨[2, 3, 4], [], []⟩ k fun R rec K v => f730v0l0s k rec (fun w => K (.exit 0) (encSt ⟨[(2, .one (.ptr 0 0)), (3, .one (.ptr 1 0))], [(0, .var 25 [.own 2, .own 3]), (1, .var 25 [.own 4, .own 5]), (2, .row 82 Y10 .plain), (3, .row 69 (.pair .str Y5) .plain), (4, .row 82 Y10 .plain), (5, .row 69 (.pair .str Y5) .plain)], 6, []⟩ w)) v
theorem f730v0l0O (k : Nat) : SumO P Tryz.f30 58 (f730v0l0S k) := lp tm (f730v0T k) ⟨[2, 3], [], []⟩ SumsOk.nil (by kernel_rfl) fun _ _ _ _ => by kernel_rfl
noncomputable def f730v0F (k : Nat) (x : D113) : Option (D113) :=
 Option.bind (f716v1F k (x.1, x.2.1, ())) fun y1 =>
 f730v0l0 k
 (fun (w4 : D67) =>
 some (w4.2.2.1, w4.2.2.2.1, ()))
 (0, [], [], y1.1, y1.2.1, ())
theorem f730v0Ok (k : Nat) : GnV P 30 f730v0I f730v0U (f730v0F k) :=
 gs tm (f730v0T k) Tryz.func30 (by kernel_rfl) (SumsOk.nil |>.s (f730v0l0O k) (by kernel_rfl)) [.own 0 .bool] [] none fun _ => by kernel_rfl
noncomputable def f708T (k : Nat) : TB P := TB.nil |>.u (f734Ok k) |>.g (f730v0Ok k) |>.u (f727Ok k) |>.p (f726Ok k) |>.u (f725Ok k) |>.p (f716Ok k) |>.u (f713Ok k) |>.u (f712Ok k)
noncomputable def f708l0H : Shape := ⟨[(1, .one (.ro (.pair (.int .i64) Y19))), (5, .one (.ptr 0 0)), (6, oI), (7, .one (.ptr 1 0)), (10, oI)], [(0, .var 25 [.own 2, .own 3]), (1, .var 25 [.ro Y10, .ro (.pair .str Y5)]), (2, .row 82 Y10 .frz), (3, .row 69 (.pair .str Y5) .frz)], 4, []⟩
noncomputable def f708l0X0 : Shape := ⟨[(1, .one (.ro (.pair (.int .i64) Y19))), (4, oB), (5, .one (.ptr 0 0)), (6, oI), (7, .one (.ptr 1 0))], [(0, .var 25 [.own 2, .own 3]), (1, .var 25 [.ro Y10, .ro (.pair .str Y5)]), (2, .row 82 Y10 .frz), (3, .row 69 (.pair .str Y5) .frz)], 4, []⟩
noncomputable def f708l0X1 : Shape := ⟨[(1, .one (.ro (.pair (.int .i64) Y19))), (5, .one (.ptr 0 0)), (6, oI), (7, .one (.ptr 1 0))], [(0, .var 25 [.own 2, .own 3]), (1, .var 25 [.ro Y10, .ro (.pair .str Y5)]), (2, .row 82 Y10 .frz), (3, .row 69 (.pair .str Y5) .frz)], 4, []⟩
noncomputable def f708l0N : NoteR := ⟨[1, 5, 6, 7, 10], [], []⟩
noncomputable def f708l0M : NoteR := ⟨[1, 4, 5, 6, 7], [], []⟩
noncomputable def f708l0C : Code := firstC (codesAt 128154 (codeOf Tryz.f8) 1)
noncomputable def f708l0s {R : Type} (k : Nat) (rec : D207 → Option R) (k0 : D205 → Option R) (k1 : D206 → Option R) (v : D207) : Option R :=
 bif (decide (v.2.2.1 < (v.2.2.2.2.1.length : Int))) then
 bif ((decide (0 ≤ v.2.2.1)) && (decide (v.2.2.1 < (v.2.2.2.2.2.2.1.length : Int)))) then
 let t11 := (v.2.2.2.2.2.2.1.getD (Int.toNat v.2.2.1) (ByteArray.empty, (0, (false, (0, []))))).1
 let t12 := (v.2.2.2.2.2.2.1.getD (Int.toNat v.2.2.1) (ByteArray.empty, (0, (false, (0, []))))).2.1
 let t13 := (v.2.2.2.2.2.2.1.getD (Int.toNat v.2.2.1) (ByteArray.empty, (0, (false, (0, []))))).2.2.1
 let t14 := (v.2.2.2.2.2.2.1.getD (Int.toNat v.2.2.1) (ByteArray.empty, (0, (false, (0, []))))).2.2.2.1
 let t15 := (v.2.2.2.2.2.2.1.getD (Int.toNat v.2.2.1) (ByteArray.empty, (0, (false, (0, []))))).2.2.2.2
 bif ((decide (0 ≤ v.2.2.1)) && (decide (v.2.2.1 < (v.2.2.2.2.1.length : Int)))) then
 let t16 := (v.2.2.2.2.1.getD (Int.toNat v.2.2.1) (ByteArray.empty, (0, (false, (0, [])))))
 bif ((decide (0 ≤ v.2.1)) && (decide (v.2.1 < (v.1.length : Int)))) then
 let t17 := (v.1.getD (Int.toNat v.2.1) (0, ((ByteArray.empty, (ByteArray.empty, (ByteArray.empty, (ByteArray.empty, (ByteArray.empty, false))))), ((ByteArray.empty, (0, (0, false))), ByteArray.empty))))
 Option.bind (f734F k ((t11, (t12, (t13, (t14, t15)))), (t16.1, (t16.2.1, (t16.2.2.1, (t16.2.2.2.1, t16.2.2.2.2)))), (t17.1 == 0))) fun y18 =>
 bif (!y18) then
 k0 (v.1, false, v.2.1, v.2.2.2.1, v.2.2.2.2.1, v.2.2.2.2.2.1, v.2.2.2.2.2.2.1, ())
 else
 rec (v.1, v.2.1, (IntKind.i64.wrap (v.2.2.1 + 1)), v.2.2.2.1, v.2.2.2.2.1, v.2.2.2.2.2.1, v.2.2.2.2.2.2.1, ())
 else none
 else none
 else none
 else
 k1 (v.1, v.2.1, v.2.2.2.1, v.2.2.2.2.1, v.2.2.2.2.2.1, v.2.2.2.2.2.2.1, ())
noncomputable def f708l0 {R : Type} (k : Nat) (k0 : D205 → Option R) (k1 : D206 → Option R) (v : D207) : Option R := iterS (fun rec v => f708l0s k rec k0 k1 v) k v
noncomputable def f708l0S (k : Nat) : Sum1 := loopSum f708l0H f708l0N k (fun R rec K v => f708l0s k rec (fun w => K .ret (encSt f708l0X0 w)) (fun w => K (.exit 2) (encSt f708l0X1 w)) v)
theorem f708l0E (k : Nat) (R : Type) (rec : St → Option R) (K : X → St → Option R) (v : f708l0H.Den) : evS tab (f708T k).t Tryz.f8.ntmps [] (bodyOf f708l0C) 256308 (bodyK f708l0N f708l0M rec K) (encSt f708l0H v) = f708l0s k (fun v => rec (encSt f708l0H v)) (fun w => K .ret (encSt f708l0X0 w)) (fun w => K (.exit 2) (encSt f708l0X1 w)) v := by kernel_rfl
theorem f708l0I (k : Nat) : SumsOk P Tryz.f8.ntmps [] (bodyOf f708l0C) 256308 := SumsOk.nil
noncomputable def f708l1H : Shape := ⟨[(1, .one (.ro (.pair (.int .i64) Y19))), (5, .one (.ptr 0 0)), (6, oI), (7, .one (.ptr 1 0)), (10, oI)], [(0, .var 25 [.ro Y10, .ro (.pair .str Y5)]), (1, .var 25 [.ro Y10, .ro (.pair .str Y5)])], 2, []⟩
noncomputable def f708l1X0 : Shape := ⟨[(1, .one (.ro (.pair (.int .i64) Y19))), (4, oB), (5, .one (.ptr 0 0)), (6, oI), (7, .one (.ptr 1 0))], [(0, .var 25 [.ro Y10, .ro (.pair .str Y5)]), (1, .var 25 [.ro Y10, .ro (.pair .str Y5)])], 2, []⟩
noncomputable def f708l1X1 : Shape := ⟨[(1, .one (.ro (.pair (.int .i64) Y19))), (5, .one (.ptr 0 0)), (6, oI), (7, .one (.ptr 1 0))], [(0, .var 25 [.ro Y10, .ro (.pair .str Y5)]), (1, .var 25 [.ro Y10, .ro (.pair .str Y5)])], 2, []⟩
noncomputable def f708l1N : NoteR := ⟨[1, 5, 6, 7, 10], [], []⟩
noncomputable def f708l1M : NoteR := ⟨[1, 4, 5, 6, 7], [], []⟩
noncomputable def f708l1C : Code := firstC (codesAt 128154 (codeOf Tryz.f8) 1)
noncomputable def f708l1s {R : Type} (k : Nat) (rec : D207 → Option R) (k0 : D205 → Option R) (k1 : D206 → Option R) (v : D207) : Option R :=
 bif (decide (v.2.2.1 < (v.2.2.2.2.2.2.1.length : Int))) then
 bif ((decide (0 ≤ v.2.2.1)) && (decide (v.2.2.1 < (v.2.2.2.2.1.length : Int)))) then
 let t26 := (v.2.2.2.2.1.getD (Int.toNat v.2.2.1) (ByteArray.empty, (0, (false, (0, [])))))
 bif ((decide (0 ≤ v.2.2.1)) && (decide (v.2.2.1 < (v.2.2.2.2.2.2.1.length : Int)))) then
 let t27 := (v.2.2.2.2.2.2.1.getD (Int.toNat v.2.2.1) (ByteArray.empty, (0, (false, (0, [])))))
 bif ((decide (0 ≤ v.2.1)) && (decide (v.2.1 < (v.1.length : Int)))) then
 let t28 := (v.1.getD (Int.toNat v.2.1) (0, ((ByteArray.empty, (ByteArray.empty, (ByteArray.empty, (ByteArray.empty, (ByteArray.empty, false))))), ((ByteArray.empty, (0, (0, false))), ByteArray.empty))))
 Option.bind (f734F k ((t26.1, (t26.2.1, (t26.2.2.1, (t26.2.2.2.1, t26.2.2.2.2)))), (t27.1, (t27.2.1, (t27.2.2.1, (t27.2.2.2.1, t27.2.2.2.2)))), (t28.1 == 0))) fun y29 =>
 bif (!y29) then
 k0 (v.1, false, v.2.1, v.2.2.2.1, v.2.2.2.2.1, v.2.2.2.2.2.1, v.2.2.2.2.2.2.1, ())
 else
 rec (v.1, v.2.1, (IntKind.i64.wrap (v.2.2.1 + 1)), v.2.2.2.1, v.2.2.2.2.1, v.2.2.2.2.2.1, v.2.2.2.2.2.2.1, ())
 else none
 else none
 else none
 else
 k1 (v.1, v.2.1, v.2.2.2.1, v.2.2.2.2.1, v.2.2.2.2.2.1, v.2.2.2.2.2.2.1, ())
noncomputable def f708l1 {R : Type} (k : Nat) (k0 : D205 → Option R) (k1 : D206 → Option R) (v : D207) : Option R := iterS (fun rec v => f708l1s k rec k0 k1 v) k v
theorem f708l0Rd (k : Nat) : SumRd P Tryz.f8.ntmps (bodyOf f708l0C) (f708l0S k) k := loop_rd tm.1 (f708T k).ok tm.2 (f708l0I k) (f708l0E k)
noncomputable def f708l1S (k : Nat) : Sum1 := loop2Sum f708l1H f708l1N (f708l0S k) k (fun R rec K v => f708l1s k rec (fun w => K .ret (encSt f708l1X0 w)) (fun w => K (.exit 2) (encSt f708l1X1 w)) v)
theorem f708l1E (k : Nat) (R : Type) (rec : f708l1H.Den → Option R) (K : X → St → Option R) (v : f708l1H.Den) : evS tab (f708T k).t Tryz.f8.ntmps [] (bodyOf f708l1C) 256308 (step2K f708l1H f708l1N f708l1M (f708l0S k) rec K) (encSt f708l1H v) = f708l1s k rec (fun w => K .ret (encSt f708l1X0 w)) (fun w => K (.exit 2) (encSt f708l1X1 w)) v := by kernel_rfl
theorem f708l1I (k : Nat) : SumsOk P Tryz.f8.ntmps [] (bodyOf f708l1C) 256308 := SumsOk.nil
theorem f708l1Rd (k : Nat) : SumRd P Tryz.f8.ntmps (bodyOf f708l1C) (f708l1S k) (k + (k)) := loop2_rd tm.1 (f708T k).ok tm.2 (f708l1I k) ((show bodyOf f708l0C = bodyOf f708l1C by kernel_rfl) ▸ f708l0Rd k) (f708l1E k)
theorem f708l1O (k : Nat) : SumO P Tryz.f8 128154 (f708l1S k) := (show SumOk P Tryz.f8.ntmps f708l1C (f708l1S k) from (show f708l1C = .loop (bodyOf f708l1C) by kernel_rfl) ▸ (f708l1Rd k).ok)
noncomputable def f708l2H : Shape := ⟨[(1, .one (.ro (.pair (.int .i64) Y19))), (5, .one (.ptr 0 0)), (6, oI)], [(0, .var 25 [.ro Y10, .ro (.pair .str Y5)])], 1, []⟩
noncomputable def f708l2X0 : Shape := ⟨[(4, oB)], [], 0, []⟩
noncomputable def f708l2X1 : Shape := ⟨[], [], 0, []⟩
noncomputable def f708l2N : NoteR := ⟨[1, 5, 6], [], []⟩
noncomputable def f708l2M : NoteR := ⟨[4], [], []⟩
noncomputable def f708l2C : Code := firstC (codesAt 250 (codeOf Tryz.f8) 1)
noncomputable def f708l2s {R : Type} (k : Nat) (rec : D208 → Option R) (k0 : Bool × Unit → Option R) (k1 : Unit → Option R) (v : D208) : Option R :=
 bif (decide (v.2.1 < (v.1.length : Int))) then
 Option.bind (f716F k (v.2.2.1, v.2.2.2.1)) fun y21 =>
 bif ((decide (0 ≤ v.2.1)) && (decide (v.2.1 < (v.1.length : Int)))) then
 let t22 := (v.1.getD (Int.toNat v.2.1) (0, ((ByteArray.empty, (ByteArray.empty, (ByteArray.empty, (ByteArray.empty, (ByteArray.empty, false))))), ((ByteArray.empty, (0, (0, false))), ByteArray.empty))))
 let t23 := [(t22.1, ((t22.2.1.1, (t22.2.1.2.1, (t22.2.1.2.2.1, (t22.2.1.2.2.2.1, (t22.2.1.2.2.2.2.1, t22.2.1.2.2.2.2.2))))), ((t22.2.2.1.1, (t22.2.2.1.2.1, (t22.2.2.1.2.2.1, t22.2.2.1.2.2.2))), t22.2.2.2)))]
 Option.bind (f726F k ((y21.1, y21.2), t23)) fun y24 =>
 bif (y24.2.2 != 0) then
 k0 (false, ())
 else
 bif ((y24.1.2.length : Int) != (v.2.2.2.1.length : Int)) then
 k0 (false, ())
 else
 Option.bind (f727F k (y24.1.1, y24.1.2)) fun y25 =>
 bif (y25 != 0) then
 k0 (false, ())
 else
 f708l1 k
 (fun (w30 : D205) =>
 k0 (w30.2.1, ()))
 (fun (w31 : D206) =>
 rec (w31.1, (IntKind.i64.wrap (w31.2.1 + 1)), w31.2.2.2.2.1, w31.2.2.2.2.2.1, ()))
 (v.1, v.2.1, 0, v.2.2.1, v.2.2.2.1, y24.1.1, y24.1.2, ())
 else none
 else
 k1 (())
noncomputable def f708l2 {R : Type} (k : Nat) (k0 : Bool × Unit → Option R) (k1 : Unit → Option R) (v : D208) : Option R := iterS (fun rec v => f708l2s k rec k0 k1 v) k v
noncomputable def f708l2S (k : Nat) : Sum1 := loopSum f708l2H f708l2N k (fun R rec K v => f708l2s k rec (fun w => K .ret (encSt f708l2X0 w)) (fun w => K (.exit 0) (encSt f708l2X1 w)) v)
theorem f708l2E (k : Nat) (R : Type) (rec : St → Option R) (K : X → St → Option R) (v : f708l2H.Den) : evS tab (f708T k).t Tryz.f8.ntmps [(128154, f708l1S k)] (bodyOf f708l2C) 500 (bodyK f708l2N f708l2M rec K) (encSt f708l2H v) = f708l2s k (fun v => rec (encSt f708l2H v)) (fun w => K .ret (encSt f708l2X0 w)) (fun w => K (.exit 0) (encSt f708l2X1 w)) v := by kernel_rfl
theorem f708l2I (k : Nat) : SumsOk P Tryz.f8.ntmps [(128154, f708l1S k)] (bodyOf f708l2C) 500 := (SumsOk.nil).s (f708l1O k) (by kernel_rfl)
noncomputable def f708l3H : Shape := ⟨[(1, .one (.ro (.pair (.int .i64) Y19))), (5, .one (.ptr 0 0)), (6, oI)], [(0, .var 25 [.own 1, .own 2]), (1, .row 82 Y10 .plain), (2, .row 69 (.pair .str Y5) .plain)], 3, []⟩
noncomputable def f708l3X0 : Shape := ⟨[(4, oB)], [], 0, []⟩
noncomputable def f708l3X1 : Shape := ⟨[], [], 0, []⟩
noncomputable def f708l3N : NoteR := ⟨[1, 5, 6], [], []⟩
noncomputable def f708l3M : NoteR := ⟨[4], [], []⟩
noncomputable def f708l3C : Code := firstC (codesAt 250 (codeOf Tryz.f8) 1)
noncomputable def f708l3s {R : Type} (k : Nat) (rec : D208 → Option R) (k0 : Bool × Unit → Option R) (k1 : Unit → Option R) (v : D208) : Option R :=
 bif (decide (v.2.1 < (v.1.length : Int))) then
 Option.bind (f716F k (v.2.2.1, v.2.2.2.1)) fun y6 =>
 bif ((decide (0 ≤ v.2.1)) && (decide (v.2.1 < (v.1.length : Int)))) then
 let t7 := (v.1.getD (Int.toNat v.2.1) (0, ((ByteArray.empty, (ByteArray.empty, (ByteArray.empty, (ByteArray.empty, (ByteArray.empty, false))))), ((ByteArray.empty, (0, (0, false))), ByteArray.empty))))
 let t8 := [(t7.1, ((t7.2.1.1, (t7.2.1.2.1, (t7.2.1.2.2.1, (t7.2.1.2.2.2.1, (t7.2.1.2.2.2.2.1, t7.2.1.2.2.2.2.2))))), ((t7.2.2.1.1, (t7.2.2.1.2.1, (t7.2.2.1.2.2.1, t7.2.2.1.2.2.2))), t7.2.2.2)))]
 Option.bind (f726F k ((y6.1, y6.2), t8)) fun y9 =>
 bif (y9.2.2 != 0) then
 k0 (false, ())
 else
 bif ((y9.1.2.length : Int) != (v.2.2.2.1.length : Int)) then
 k0 (false, ())
 else
 Option.bind (f727F k (y9.1.1, y9.1.2)) fun y10 =>
 bif (y10 != 0) then
 k0 (false, ())
 else
 f708l0 k
 (fun (w19 : D205) =>
 k0 (w19.2.1, ()))
 (fun (w20 : D206) =>
 f708l2 k
 (fun (w32 : Bool × Unit) =>
 k0 (w32.1, ()))
 (fun (w33 : Unit) =>
 k1 (()))
 (w20.1, (IntKind.i64.wrap (w20.2.1 + 1)), w20.2.2.1, w20.2.2.2.1, ()))
 (v.1, v.2.1, 0, y9.1.1, y9.1.2, v.2.2.1, v.2.2.2.1, ())
 else none
 else
 k1 (())
noncomputable def f708l3 {R : Type} (k : Nat) (k0 : Bool × Unit → Option R) (k1 : Unit → Option R) (v : D208) : Option R := iterS (fun rec v => f708l3s k rec k0 k1 v) k v
theorem f708l2Rd (k : Nat) : SumRd P Tryz.f8.ntmps (bodyOf f708l2C) (f708l2S k) k := loop_rd tm.1 (f708T k).ok tm.2 (f708l2I k) (f708l2E k)
noncomputable def f708l3S (k : Nat) : Sum1 := loop2Sum f708l3H f708l3N (f708l2S k) k (fun R rec K v => f708l3s k rec (fun w => K .ret (encSt f708l3X0 w)) (fun w => K (.exit 0) (encSt f708l3X1 w)) v)
theorem f708l3E (k : Nat) (R : Type) (rec : f708l3H.Den → Option R) (K : X → St → Option R) (v : f708l3H.Den) : evS tab (f708T k).t Tryz.f8.ntmps [(128154, f708l1S k)] (bodyOf f708l3C) 500 (step2K f708l3H f708l3N f708l3M (f708l2S k) rec K) (encSt f708l3H v) = f708l3s k rec (fun w => K .ret (encSt f708l3X0 w)) (fun w => K (.exit 0) (encSt f708l3X1 w)) v := by kernel_rfl
theorem f708l3I (k : Nat) : SumsOk P Tryz.f8.ntmps [(128154, f708l1S k)] (bodyOf f708l3C) 500 := (SumsOk.nil).s (f708l1O k) (by kernel_rfl)
theorem f708l3Rd (k : Nat) : SumRd P Tryz.f8.ntmps (bodyOf f708l3C) (f708l3S k) (k + (k)) := loop2_rd tm.1 (f708T k).ok tm.2 (f708l3I k) ((show bodyOf f708l2C = bodyOf f708l3C by kernel_rfl) ▸ f708l2Rd k) (f708l3E k)
theorem f708l3O (k : Nat) : SumO P Tryz.f8 250 (f708l3S k) := (show SumOk P Tryz.f8.ntmps f708l3C (f708l3S k) from (show f708l3C = .loop (bodyOf f708l3C) by kernel_rfl) ▸ (f708l3Rd k).ok)
noncomputable def f708F (k : Nat) (x : D194) : Option (Bool) :=
 Option.bind (f712F k ()) fun y1 =>
 bif (!y1) then
 some false
 else
 Option.bind (f713F k (x.1.1, x.1.2)) fun y2 =>
 bif (!y2) then
 some true
 else
 Option.bind (f725F k x.2) fun y3 =>
 bif (!y3) then
 some true
 else
 bif (decide ((x.2.length : Int) > 20)) then
 some true
 else
 Option.bind (f727F k (x.1.1, x.1.2)) fun y4 =>
 bif (y4 != 0) then
 some true
 else
 Option.bind (f730v0F k (x.1.1, x.1.2, ())) fun y5 =>
 f708l3 k
 (fun (w34 : Bool × Unit) =>
 some w34.1)
 (fun (w35 : Unit) =>
 some true)
 (x.2, 0, y5.1, y5.2.1, ())
theorem f708Ok (k : Nat) : FnV P 8 [.agg Y11, .dat (.slice (.pair (.int .i64) Y19))] [.dat .bool] (f708F k) :=
 fs tm (f708T k) Tryz.func8 (by kernel_rfl) (SumsOk.nil |>.s (f708l3O k) (by kernel_rfl) |>.s (f708l1O k) (by kernel_rfl)) none fun _ => by kernel_rfl
end Go.Proofs.YthcmomgkfjjajaaGreatDoor
