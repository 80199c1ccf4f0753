/- What functions of the program compute: each as a plain Lean function, and that the code comes to it. Printed by gen.py. -/
import Derived.Test.YthcmomgkfjjajaaGreatDoorFcJ
import Derived.Test.YthcmomgkfjjajaaGreatDoorProg
/-! Printed by gen.py: what functions compute. -/
set_option linter.unusedVariables false
set_option maxRecDepth 100000
namespace Go.Proofs.YthcmomgkfjjajaaGreatDoor
open Go.Ab
/-! ## midrange/midrangelaw18.fewParts -/
noncomputable def f735l0s {R : Type} (k : Nat) (rec : D127 → Option R) (k0 : Bool × Unit → Option R) (k1 : Unit → Option R) (v : D127) : Option R :=
  bif (decide (v.1 < (v.2.2.2.2.2.2.2.1.length : Int))) then
    bif ((decide ((0 : Int) ≤ v.1)) && (decide (v.1 < (v.2.2.2.2.2.2.2.1.length : Int)))) then
    let t1 := (decide (((v.2.2.2.2.2.2.2.1.getD (Int.toNat v.1) ByteArray.empty).size : Int) > (100 : Int)))
    bif t1 then
      k0 (false, ())
    else
    rec ((IntKind.i64.wrap (v.1 + (1 : Int))), v.2.1, v.2.2.1, v.2.2.2.1, v.2.2.2.2.1, v.2.2.2.2.2.1, v.2.2.2.2.2.2.1, v.2.2.2.2.2.2.2.1, ())
    else none
  else
  k1 (())
noncomputable def f735l0 {R : Type} (k : Nat) (k0 : Bool × Unit → Option R) (k1 : Unit → Option R) (v : D127) : Option R := iterS (fun rec v => f735l0s k rec k0 k1 v) k v
noncomputable def f735l0S (k : Nat) := loopSum ⟨[(1, .one (.ptr 0 0)), (3, .one (.int .i64))], [(0, .var 82 [.str, .int .i64, .str, .str, .ro (.pair (.int .i64) Y6), .str, .ro .str])], 1, []⟩ ⟨[1, 3], [], []⟩ k fun R rec K v => f735l0s k rec (fun w => K .ret (encSt ⟨[(2, .one (.bool))], [], 0, []⟩ w)) (fun w => K (.exit 0) (encSt ⟨[], [], 0, []⟩ w)) v
theorem f735l0O (k : Nat) : SumO P Tryz.f35 58 (f735l0S k) := lp tm TB.nil ⟨[2], [], []⟩ SumsOk.nil (by kernel_rfl) fun _ _ _ _ => by kernel_rfl
noncomputable def f735F (k : Nat) (x : D13) : Option (Bool) :=
  bif (decide ((x.2.2.2.2.1.length : Int) > (12 : Int))) then
    some false
  else
  bif (decide ((x.2.2.2.2.2.2.length : Int) > (12 : Int))) then
    some false
  else
  bif (decide ((x.2.2.1.size : Int) > (400 : Int))) then
    some false
  else
  bif (decide ((x.2.2.2.1.size : Int) > (400 : Int))) then
    some false
  else
  bif (decide ((x.2.2.2.2.2.1.size : Int) > (100 : Int))) then
    some false
  else
  f735l0 k
    (fun (w2 : Bool × Unit) =>
      some w2.1)
    (fun (w3 : Unit) =>
      some true)
    ((0 : Int), x.1, x.2.1, x.2.2.1, x.2.2.2.1, x.2.2.2.2.1, x.2.2.2.2.2.1, x.2.2.2.2.2.2, ())
theorem f735Ok (k : Nat) : FnV P 35 [.agg Y10] [.dat .bool] (f735F k) :=
  fs tm TB.nil Tryz.func35 (by kernel_rfl) (SumsOk.nil |>.s (f735l0O k) (by kernel_rfl)) none fun _ => by kernel_rfl
/-! ## midrange/midrangelaw18.fewDescs -/
noncomputable def f745T (k : Nat) : TB P := TB.nil |>.u (f735Ok k)
noncomputable def f745l0s {R : Type} (k : Nat) (rec : List D13 × Int × Unit → Option R) (k0 : Bool × Unit → Option R) (k1 : Unit → Option R) (v : List D13 × Int × Unit) : Option R :=
  bif (decide (v.2.1 < (v.1.length : Int))) then
    bif ((decide ((0 : Int) ≤ v.2.1)) && (decide (v.2.1 < (v.1.length : Int)))) then
    let t1 := (v.1.getD (Int.toNat v.2.1) (ByteArray.empty, ((0 : Int), (ByteArray.empty, (ByteArray.empty, ([], (ByteArray.empty, [])))))))
    Option.bind (f735F k (t1.1, (t1.2.1, (t1.2.2.1, (t1.2.2.2.1, (t1.2.2.2.2.1, (t1.2.2.2.2.2.1, t1.2.2.2.2.2.2))))))) fun y2 =>
    bif (!y2) then
      k0 (false, ())
    else
    rec (v.1, (IntKind.i64.wrap (v.2.1 + (1 : Int))), ())
    else none
  else
  k1 (())
noncomputable def f745l0 {R : Type} (k : Nat) (k0 : Bool × Unit → Option R) (k1 : Unit → Option R) (v : List D13 × Int × Unit) : Option R := iterS (fun rec v => f745l0s k rec k0 k1 v) k v
noncomputable def f745l0S (k : Nat) := loopSum ⟨[(0, .one (.ro Y10)), (3, .one (.int .i64))], [], 0, []⟩ ⟨[0, 3], [], []⟩ k fun R rec K v => f745l0s k rec (fun w => K .ret (encSt ⟨[(2, .one (.bool))], [], 0, []⟩ w)) (fun w => K (.exit 0) (encSt ⟨[], [], 0, []⟩ w)) v
theorem f745l0O (k : Nat) : SumO P Tryz.f45 58 (f745l0S k) := lp tm (f745T k) ⟨[2], [], []⟩ SumsOk.nil (by kernel_rfl) fun _ _ _ _ => by kernel_rfl
noncomputable def f745F (k : Nat) (x : (List D13)) : Option (Bool) :=
  bif (decide ((x.length : Int) > (21 : Int))) then
    some false
  else
  f745l0 k
    (fun (w3 : Bool × Unit) =>
      some w3.1)
    (fun (w4 : Unit) =>
      some true)
    (x, (0 : Int), ())
theorem f745Ok (k : Nat) : FnV P 45 [.dat (.slice Y10)] [.dat .bool] (f745F k) :=
  fs tm (f745T k) Tryz.func45 (by kernel_rfl) (SumsOk.nil |>.s (f745l0O k) (by kernel_rfl)) none fun _ => by kernel_rfl
/-! ## midrange/midrangelaw18.few -/
noncomputable def f713T (k : Nat) : TB P := TB.nil |>.u (f745Ok k)
noncomputable def f713l0s {R : Type} (k : Nat) (rec : D129 → Option R) (k0 : D128 → Option R) (k1 : D79 → Option R) (v : D129) : Option R :=
  bif ((decide ((0 : Int) ≤ v.1)) && (decide (v.1 < (v.2.2.2.1.length : Int)))) then
  let t3 := (v.2.2.2.1.getD (Int.toNat v.1) (ByteArray.empty, ((0 : Int), (false, ((0 : Int), [])))))
  bif (decide (v.2.1 < (t3.2.2.2.2.length : Int))) then
    bif ((decide ((0 : Int) ≤ v.1)) && (decide (v.1 < (v.2.2.2.1.length : Int)))) then
    let t4 := (v.2.2.2.1.getD (Int.toNat v.1) (ByteArray.empty, ((0 : Int), (false, ((0 : Int), [])))))
    bif ((decide ((0 : Int) ≤ v.2.1)) && (decide (v.2.1 < (t4.2.2.2.2.length : Int)))) then
    let t5 := (t4.2.2.2.2.getD (Int.toNat v.2.1) ((0 : Int), ((0 : Int), (ByteArray.empty, (ByteArray.empty, (ByteArray.empty, (false, (false, (0 : Int)))))))))
    bif (decide ((t5.2.2.2.1.size : Int) > (300 : Int))) then
      k0 (false, v.1, v.2.2.1, v.2.2.2.1, ())
    else
    rec (v.1, (IntKind.i64.wrap (v.2.1 + (1 : Int))), v.2.2.1, v.2.2.2.1, ())
    else none
    else none
  else
  k1 (v.1, v.2.2.1, v.2.2.2.1, ())
  else none
noncomputable def f713l0 {R : Type} (k : Nat) (k0 : D128 → Option R) (k1 : D79 → Option R) (v : D129) : Option R := iterS (fun rec v => f713l0s k rec k0 k1 v) k v
noncomputable def f713l0S (k : Nat) := loopSum ⟨[(1, .one (.ptr 0 0)), (3, .one (.int .i64)), (4, .one (.int .i64))], [(0, .var 25 [.ro Y10, .ro (.pair .str Y5)])], 1, []⟩ ⟨[1, 3, 4], [], []⟩ k fun R rec K v => f713l0s k rec (fun w => K .ret (encSt ⟨[(1, .one (.ptr 0 0)), (2, .one (.bool)), (3, .one (.int .i64))], [(0, .var 25 [.ro Y10, .ro (.pair .str Y5)])], 1, []⟩ w)) (fun w => K (.exit 2) (encSt ⟨[(1, .one (.ptr 0 0)), (3, .one (.int .i64))], [(0, .var 25 [.ro Y10, .ro (.pair .str Y5)])], 1, []⟩ w)) v
theorem f713l0O (k : Nat) : SumO P Tryz.f13 7462 (f713l0S k) := lp tm (f713T k) ⟨[1, 2, 3], [], []⟩ SumsOk.nil (by kernel_rfl) fun _ _ _ _ => by kernel_rfl
noncomputable def f713l1s {R : Type} (k : Nat) (rec : D79 → Option R) (k0 : Bool × Unit → Option R) (k1 : Unit → Option R) (v : D79) : Option R :=
  bif (decide (v.1 < (v.2.2.1.length : Int))) then
    bif ((decide ((0 : Int) ≤ v.1)) && (decide (v.1 < (v.2.2.1.length : Int)))) then
    let t2 := (v.2.2.1.getD (Int.toNat v.1) (ByteArray.empty, ((0 : Int), (false, ((0 : Int), [])))))
    bif (decide ((t2.2.2.2.2.length : Int) > (14 : Int))) then
      k0 (false, ())
    else
    f713l0 k
      (fun (w6 : D128) =>
        k0 (w6.1, ()))
      (fun (w7 : D79) =>
        rec ((IntKind.i64.wrap (w7.1 + (1 : Int))), w7.2.1, w7.2.2.1, ()))
      (v.1, (0 : Int), v.2.1, v.2.2.1, ())
    else none
  else
  k1 (())
noncomputable def f713l1 {R : Type} (k : Nat) (k0 : Bool × Unit → Option R) (k1 : Unit → Option R) (v : D79) : Option R := iterS (fun rec v => f713l1s k rec k0 k1 v) k v
noncomputable def f713l1S (k : Nat) := loopSum ⟨[(1, .one (.ptr 0 0)), (3, .one (.int .i64))], [(0, .var 25 [.ro Y10, .ro (.pair .str Y5)])], 1, []⟩ ⟨[1, 3], [], []⟩ k fun R rec K v => f713l1s k rec (fun w => K .ret (encSt ⟨[(2, .one (.bool))], [], 0, []⟩ w)) (fun w => K (.exit 0) (encSt ⟨[], [], 0, []⟩ w)) v
theorem f713l1O (k : Nat) : SumO P Tryz.f13 58 (f713l1S k) := lp tm (f713T k) ⟨[2], [], []⟩ (SumsOk.nil |>.s (f713l0O k) (by kernel_rfl)) (by kernel_rfl) fun _ _ _ _ => by kernel_rfl
noncomputable def f713F (k : Nat) (x : D14) : Option (Bool) :=
  Option.bind (f745F k x.1) fun y1 =>
  bif (!y1) then
    some false
  else
  bif (decide ((x.2.length : Int) > (7 : Int))) then
    some false
  else
  f713l1 k
    (fun (w8 : Bool × Unit) =>
      some w8.1)
    (fun (w9 : Unit) =>
      some true)
    ((0 : Int), x.1, x.2, ())
theorem f713Ok (k : Nat) : FnV P 13 [.agg Y11] [.dat .bool] (f713F k) :=
  fs tm (f713T k) Tryz.func13 (by kernel_rfl) (SumsOk.nil |>.s (f713l1O k) (by kernel_rfl) |>.s (f713l0O k) (by kernel_rfl)) none fun _ => by kernel_rfl
/-! ## midrange/midrangebase.CopyStrings -/
noncomputable def f777F (k : Nat) (x : (List ByteArray)) : Option (List ByteArray) :=
  bif (decide ((([] : List ByteArray).length + x.length) * 16 ≤ 140737488355328) && decide (([] : List ByteArray).length + x.length ≤ 9223372036854775807)) then
  some ([] ++ x)
  else none
theorem f777Ok (k : Nat) : FnV P 77 [.dat (.slice .str)] [.own 9 .str] (f777F k) :=
  fs tm TB.nil Tryz.func77 (by kernel_rfl) SumsOk.nil none fun _ => by kernel_rfl
/-! ## midrange/midrangeref18.OwnFile -/
noncomputable def f736T (k : Nat) : TB P := TB.nil |>.u (f777Ok k)
noncomputable def f736l0s {R : Type} (k : Nat) (rec : D130 → Option R) (k0 : List D13 × Unit → Option R) (v : D130) : Option R :=
  bif (decide (v.2.1 < (v.1.length : Int))) then
    bif ((decide ((0 : Int) ≤ v.2.1)) && (decide (v.2.1 < (v.1.length : Int)))) then
    let t1 := (v.1.getD (Int.toNat v.2.1) (ByteArray.empty, ((0 : Int), (ByteArray.empty, (ByteArray.empty, ([], (ByteArray.empty, [])))))))
    bif (decide ((([] : List (Int × (Int × Int))).length + t1.2.2.2.2.1.length) * 24 ≤ 140737488355328) && decide (([] : List (Int × (Int × Int))).length + t1.2.2.2.2.1.length ≤ 9223372036854775807)) then
    Option.bind (f777F k t1.2.2.2.2.2.2) fun y2 =>
    let t3 := [(t1.1, (t1.2.1, (t1.2.2.1, (t1.2.2.2.1, (([] ++ t1.2.2.2.2.1), (t1.2.2.2.2.2.1, y2))))))]
    bif (decide ((v.2.2.1.length + t3.length) * 120 ≤ 140737488355328) && decide (v.2.2.1.length + t3.length ≤ 9223372036854775807)) then
    rec (v.1, (IntKind.i64.wrap (v.2.1 + (1 : Int))), (v.2.2.1 ++ t3), ())
    else none
    else none
    else none
  else
  k0 (v.2.2.1, ())
noncomputable def f736l0 {R : Type} (k : Nat) (k0 : List D13 × Unit → Option R) (v : D130) : Option R := iterS (fun rec v => f736l0s k rec k0 v) k v
noncomputable def f736l0S (k : Nat) := loopSum ⟨[(0, .one (.ro Y10)), (3, .one (.own 0)), (4, .one (.int .i64))], [(0, .row 82 Y10 .plain)], 1, []⟩ ⟨[0, 3, 4], [(3, 82, Y10)], []⟩ k fun R rec K v => f736l0s k rec (fun w => K (.exit 0) (encSt ⟨[(3, .one (.own 0))], [(0, .row 82 Y10 .plain)], 1, []⟩ w)) v
theorem f736l0O (k : Nat) : SumO P Tryz.f36 58 (f736l0S k) := lp tm (f736T k) ⟨[2, 3], [], []⟩ SumsOk.nil (by kernel_rfl) fun _ _ _ _ => by kernel_rfl
noncomputable def f736F (k : Nat) (x : (List D13)) : Option (List D13) :=
  f736l0 k
    (fun (w4 : List D13 × Unit) =>
      some w4.1)
    (x, (0 : Int), [], ())
theorem f736Ok (k : Nat) : FnV P 36 [.dat (.slice Y10)] [.own 82 Y10] (f736F k) :=
  fs tm (f736T k) Tryz.func36 (by kernel_rfl) (SumsOk.nil |>.s (f736l0O k) (by kernel_rfl)) none fun _ => by kernel_rfl
/-! ## midrange/midrangeref18.Own -/
noncomputable def f716T (k : Nat) : TB P := TB.nil |>.p (f736Ok k)
noncomputable def f716l0H : Shape := ⟨[(1, .one (.ptr 0 0)), (2, .one (.ptr 1 0)), (3, .one (.ptr 2 0)), (4, .one (.int .i64))], [(0, .var 25 [.ro Y10, .ro (.pair .str Y5)]), (1, .var 25 [.own 3, .own 4]), (2, .var 25 [.own 5, .own 6]), (3, .row 82 Y10 .plain), (4, .row 69 (.pair .str Y5) .plain), (5, .row 82 Y10 .plain), (6, .row 69 (.pair .str Y5) .plain)], 7, []⟩
noncomputable def f716l0X0 : Shape := ⟨[(2, .one (.ptr 0 0)), (3, .one (.ptr 1 0))], [(0, .var 25 [.own 2, .own 3]), (1, .var 25 [.own 4, .own 5]), (2, .row 82 Y10 .plain), (3, .row 69 (.pair .str Y5) .plain), (4, .row 82 Y10 .plain), (5, .row 69 (.pair .str Y5) .plain)], 6, []⟩
noncomputable def f716l0N : NoteR := ⟨[1, 2, 3, 4], [], []⟩
noncomputable def f716l0M : NoteR := ⟨[2, 3], [], []⟩
noncomputable def f716l0C : Code := firstC (codesAt 58 (codeOf Tryz.f16) 1)
noncomputable def f716l0s {R : Type} (k : Nat) (rec : D132 → Option R) (k0 : D66 → Option R) (v : D132) : Option R :=
  bif (decide (v.1 < (v.2.2.1.length : Int))) then
    bif ((decide ((0 : Int) ≤ v.1)) && (decide (v.1 < (v.2.2.1.length : Int)))) then
    let t4 := (v.2.2.1.getD (Int.toNat v.1) (ByteArray.empty, ((0 : Int), (false, ((0 : Int), [])))))
    bif (decide ((([] : List (Int × (Int × D4))).length + t4.2.2.2.2.length) * 80 ≤ 140737488355328) && decide (([] : List (Int × (Int × D4))).length + t4.2.2.2.2.length ≤ 9223372036854775807)) then
    bif (decide ((v.2.2.2.2.2.2.1.length + [(t4.1, (t4.2.1, (t4.2.2.1, (t4.2.2.2.1, ([] ++ t4.2.2.2.2)))))].length) * 64 ≤ 140737488355328) && decide (v.2.2.2.2.2.2.1.length + [(t4.1, (t4.2.1, (t4.2.2.1, (t4.2.2.2.1, ([] ++ t4.2.2.2.2)))))].length ≤ 9223372036854775807)) then
    let t5 := (v.2.2.2.2.2.2.1 ++ [(t4.1, (t4.2.1, (t4.2.2.1, (t4.2.2.2.1, ([] ++ t4.2.2.2.2)))))])
    rec ((IntKind.i64.wrap (v.1 + (1 : Int))), v.2.1, v.2.2.1, v.2.2.2.1, v.2.2.2.2.1, v.2.2.2.2.2.1, t5, ())
    else none
    else none
    else none
  else
  k0 (v.2.2.2.1, v.2.2.2.2.1, v.2.2.2.2.2.1, v.2.2.2.2.2.2.1, ())
noncomputable def f716l0 {R : Type} (k : Nat) (k0 : D66 → Option R) (v : D132) : Option R := iterS (fun rec v => f716l0s k rec k0 v) k v
noncomputable def f716l0S (k : Nat) : Sum1 := loopSum f716l0H f716l0N k (fun R rec K v => f716l0s k rec (fun w => K (.exit 0) (encSt f716l0X0 w)) v)
theorem f716l0E (k : Nat) (R : Type) (rec : St → Option R) (K : X → St → Option R) (v : f716l0H.Den) : evS tab (f716T k).t Tryz.f16.ntmps [] (bodyOf f716l0C) 116 (bodyK f716l0N f716l0M rec K) (encSt f716l0H v) = f716l0s k (fun v => rec (encSt f716l0H v)) (fun w => K (.exit 0) (encSt f716l0X0 w)) v := by kernel_rfl
theorem f716l0I (k : Nat) : SumsOk P Tryz.f16.ntmps [] (bodyOf f716l0C) 116 := SumsOk.nil
theorem f716l0O (k : Nat) : SumO P Tryz.f16 58 (f716l0S k) := (show SumOk P Tryz.f16.ntmps f716l0C (f716l0S k) from (show f716l0C = .loop (bodyOf f716l0C) by kernel_rfl) ▸ sum_loop tm.1 (f716T k).ok tm.2 (f716l0I k) (f716l0E k))
noncomputable def f716l1H : Shape := ⟨[(1, .one (.ptr 0 0)), (2, .one (.ptr 1 0)), (3, .one (.ptr 2 0)), (4, .one (.int .i64))], [(0, .var 25 [.ro Y10, .ro (.pair .str Y5)]), (1, .var 25 [.own 3, .own 4]), (2, .var 25 [.own 5, .emp]), (3, .row 82 Y10 .plain), (4, .row 69 (.pair .str Y5) .plain), (5, .row 82 Y10 .plain)], 6, []⟩
noncomputable def f716l1X0 : Shape := ⟨[(2, .one (.ptr 0 0)), (3, .one (.ptr 1 0))], [(0, .var 25 [.own 2, .own 3]), (1, .var 25 [.own 4, .own 5]), (2, .row 82 Y10 .plain), (3, .row 69 (.pair .str Y5) .plain), (4, .row 82 Y10 .plain), (5, .row 69 (.pair .str Y5) .plain)], 6, []⟩
noncomputable def f716l1X1 : Shape := ⟨[(2, .one (.ptr 0 0)), (3, .one (.ptr 1 0))], [(0, .var 25 [.own 2, .own 3]), (1, .var 25 [.own 4, .emp]), (2, .row 82 Y10 .plain), (3, .row 69 (.pair .str Y5) .plain), (4, .row 82 Y10 .plain)], 5, []⟩
noncomputable def f716l1N : NoteR := ⟨[1, 2, 3, 4], [], []⟩
noncomputable def f716l1M : NoteR := ⟨[2, 3], [], []⟩
noncomputable def f716l1C : Code := firstC (codesAt 58 (codeOf Tryz.f16) 1)
noncomputable def f716l1s {R : Type} (k : Nat) (rec : D133 → Option R) (k0 : D66 → Option R) (k1 : D131 → Option R) (v : D133) : Option R :=
  bif (decide (v.1 < (v.2.2.1.length : Int))) then
    bif ((decide ((0 : Int) ≤ v.1)) && (decide (v.1 < (v.2.2.1.length : Int)))) then
    let t2 := (v.2.2.1.getD (Int.toNat v.1) (ByteArray.empty, ((0 : Int), (false, ((0 : Int), [])))))
    bif (decide ((([] : List (Int × (Int × D4))).length + t2.2.2.2.2.length) * 80 ≤ 140737488355328) && decide (([] : List (Int × (Int × D4))).length + t2.2.2.2.2.length ≤ 9223372036854775807)) then
    bif (decide ((([] : List D6).length + [(t2.1, (t2.2.1, (t2.2.2.1, (t2.2.2.2.1, ([] ++ t2.2.2.2.2)))))].length) * 64 ≤ 140737488355328) && decide (([] : List D6).length + [(t2.1, (t2.2.1, (t2.2.2.1, (t2.2.2.2.1, ([] ++ t2.2.2.2.2)))))].length ≤ 9223372036854775807)) then
    let t3 := ([] ++ [(t2.1, (t2.2.1, (t2.2.2.1, (t2.2.2.2.1, ([] ++ t2.2.2.2.2)))))])
    f716l0 k
      (fun (w6 : D66) =>
        k0 (w6.1, w6.2.1, w6.2.2.1, w6.2.2.2.1, ()))
      ((IntKind.i64.wrap (v.1 + (1 : Int))), v.2.1, v.2.2.1, v.2.2.2.1, v.2.2.2.2.1, v.2.2.2.2.2.1, t3, ())
    else none
    else none
    else none
  else
  k1 (v.2.2.2.1, v.2.2.2.2.1, v.2.2.2.2.2.1, ())
noncomputable def f716l1 {R : Type} (k : Nat) (k0 : D66 → Option R) (k1 : D131 → Option R) (v : D133) : Option R := iterS (fun rec v => f716l1s k rec k0 k1 v) k v
theorem f716l0Rd (k : Nat) : SumRd P Tryz.f16.ntmps (bodyOf f716l0C) (f716l0S k) k := loop_rd tm.1 (f716T k).ok tm.2 (f716l0I k) (f716l0E k)
noncomputable def f716l1S (k : Nat) : Sum1 := loop2Sum f716l1H f716l1N (f716l0S k) k (fun R rec K v => f716l1s k rec (fun w => K (.exit 0) (encSt f716l1X0 w)) (fun w => K (.exit 0) (encSt f716l1X1 w)) v)
theorem f716l1E (k : Nat) (R : Type) (rec : f716l1H.Den → Option R) (K : X → St → Option R) (v : f716l1H.Den) : evS tab (f716T k).t Tryz.f16.ntmps [] (bodyOf f716l1C) 116 (step2K f716l1H f716l1N f716l1M (f716l0S k) rec K) (encSt f716l1H v) = f716l1s k rec (fun w => K (.exit 0) (encSt f716l1X0 w)) (fun w => K (.exit 0) (encSt f716l1X1 w)) v := by kernel_rfl
theorem f716l1I (k : Nat) : SumsOk P Tryz.f16.ntmps [] (bodyOf f716l1C) 116 := SumsOk.nil
theorem f716l1Rd (k : Nat) : SumRd P Tryz.f16.ntmps (bodyOf f716l1C) (f716l1S k) (k + (k)) := loop2_rd tm.1 (f716T k).ok tm.2 (f716l1I k) ((show bodyOf f716l0C = bodyOf f716l1C by kernel_rfl) ▸ f716l0Rd k) (f716l1E k)
theorem f716l1O (k : Nat) : SumO P Tryz.f16 58 (f716l1S k) := (show SumOk P Tryz.f16.ntmps f716l1C (f716l1S k) from (show f716l1C = .loop (bodyOf f716l1C) by kernel_rfl) ▸ (f716l1Rd k).ok)
noncomputable def f716p2 {R : Type} (k : Nat) (k0 : D66 → Option R) (k1 : D131 → Option R) (v : D134) : Option R :=
  f716l1 k
    (fun (w7 : D66) =>
      k0 (w7.1, w7.2.1, w7.2.2.1, w7.2.2.2.1, ()))
    (fun (w8 : D131) =>
      k1 (w8.1, w8.2.1, w8.2.2.1, ()))
    ((0 : Int), v.1, v.2.1, v.2.2.1, v.2.2.2.1, v.2.2.2.2.1, ())
noncomputable def f716p2S (k : Nat) := partSum ⟨[(1, .one (.ptr 0 0)), (2, .one (.ptr 1 0)), (3, .one (.ptr 2 0))], [(0, .var 25 [.ro Y10, .ro (.pair .str Y5)]), (1, .var 25 [.own 3, .own 4]), (2, .var 25 [.own 5, .emp]), (3, .row 82 Y10 .plain), (4, .row 69 (.pair .str Y5) .plain), (5, .row 82 Y10 .plain)], 6, []⟩ ⟨[1, 2, 3], [], []⟩ fun R K v => f716p2 k (fun w => K .normal (encSt ⟨[(2, .one (.ptr 0 0)), (3, .one (.ptr 1 0))], [(0, .var 25 [.own 2, .own 3]), (1, .var 25 [.own 4, .own 5]), (2, .row 82 Y10 .plain), (3, .row 69 (.pair .str Y5) .plain), (4, .row 82 Y10 .plain), (5, .row 69 (.pair .str Y5) .plain)], 6, []⟩ w)) (fun w => K .normal (encSt ⟨[(2, .one (.ptr 0 0)), (3, .one (.ptr 1 0))], [(0, .var 25 [.own 2, .own 3]), (1, .var 25 [.own 4, .emp]), (2, .row 82 Y10 .plain), (3, .row 69 (.pair .str Y5) .plain), (4, .row 82 Y10 .plain)], 5, []⟩ w)) v
theorem f716p2O (k : Nat) : SumO P Tryz.f16 14 (f716p2S k) := pt tm (f716T k) ⟨[2, 3], [], []⟩ (SumsOk.nil |>.s (f716l1O k) (by kernel_rfl)) fun _ _ _ => by kernel_rfl
noncomputable def f716F (k : Nat) (x : D14) : Option (D14) :=
  Option.bind (f736F k x.1) fun y1 =>
  f716p2 k
    (fun (w9 : D66) =>
      some (w9.2.2.1, w9.2.2.2.1))
    (fun (w10 : D131) =>
      some (w10.2.2.1, []))
    (x.1, x.2, [], [], y1, ())
theorem f716Ok (k : Nat) : FnV P 16 [.agg Y11] [.agg Y11] (f716F k) :=
  fs tm (f716T k) Tryz.func16 (by kernel_rfl) (SumsOk.nil |>.s (f716p2O k) (by kernel_rfl) |>.s (f716l1O k) (by kernel_rfl)) none fun _ => by kernel_rfl
/-! ## midrange/messages.Unanswered -/
noncomputable def f740T (k : Nat) : TB P := TB.nil |>.u (f784Ok k) |>.u (f752Ok k) |>.u (f751Ok k)
noncomputable def f740p0 {R : Type} (k : Nat) (k0 : D135 → Option R) (v : D135) : Option R :=
  bif ((decide ((0 : Int) ≤ v.2.2.1)) && (decide (v.2.2.1 < (v.1.length : Int)))) then
  let t4 := (v.1.getD (Int.toNat v.2.2.1) ((0 : Int), ((0 : Int), (ByteArray.empty, (ByteArray.empty, (ByteArray.empty, (false, (false, (0 : Int)))))))))
  Option.bind (f784F k (t4.1, (t4.2.1, (t4.2.2.1, (t4.2.2.2.1, (t4.2.2.2.2.1, (t4.2.2.2.2.2.1, (t4.2.2.2.2.2.2.1, t4.2.2.2.2.2.2.2)))))))) fun y5 =>
  bif y5 then
    bif (decide ((v.2.2.2.1.length + [t4.1].length) * 8 ≤ 140737488355328) && decide (v.2.2.2.1.length + [t4.1].length ≤ 9223372036854775807)) then
    k0 (v.1, v.2.1, v.2.2.1, (v.2.2.2.1 ++ [t4.1]), ())
    else none
  else
  k0 (v.1, v.2.1, v.2.2.1, v.2.2.2.1, ())
  else none
noncomputable def f740p0S (k : Nat) := partSum ⟨[(7, .one (.own 0)), (24, .one (.ro Y3)), (25, .one (.int .i64)), (26, .one (.int .i64))], [(0, .row 3 (.int .i64) .plain)], 1, []⟩ ⟨[7, 24, 25, 26], [], []⟩ fun R K v => f740p0 k (fun w => K .normal (encSt ⟨[(7, .one (.own 0)), (24, .one (.ro Y3)), (25, .one (.int .i64)), (26, .one (.int .i64))], [(0, .row 3 (.int .i64) .plain)], 1, []⟩ w)) v
theorem f740p0O (k : Nat) : SumO P Tryz.f40 1958 (f740p0S k) := pt tm (f740T k) ⟨[4, 5, 7, 24, 25, 26], [], []⟩ SumsOk.nil fun _ _ _ => by kernel_rfl
noncomputable def f740l1s {R : Type} (k : Nat) (rec : D135 → Option R) (k0 : List Int × Unit → Option R) (v : D135) : Option R :=
  bif (decide (v.2.2.1 < v.2.1)) then
    f740p0 k
      (fun (w6 : D135) =>
        rec (w6.1, w6.2.1, (IntKind.i64.wrap (w6.2.2.1 + (1 : Int))), w6.2.2.2.1, ()))
      (v.1, v.2.1, v.2.2.1, v.2.2.2.1, ())
  else
  k0 (v.2.2.2.1, ())
noncomputable def f740l1 {R : Type} (k : Nat) (k0 : List Int × Unit → Option R) (v : D135) : Option R := iterS (fun rec v => f740l1s k rec k0 v) k v
noncomputable def f740l1S (k : Nat) := loopSum ⟨[(7, .one (.own 0)), (24, .one (.ro Y3)), (25, .one (.int .i64)), (26, .one (.int .i64))], [(0, .row 3 (.int .i64) .plain)], 1, []⟩ ⟨[7, 24, 25, 26], [(7, 3, (.int .i64))], []⟩ k fun R rec K v => f740l1s k rec (fun w => K (.exit 0) (encSt ⟨[(7, .one (.own 0))], [(0, .row 3 (.int .i64) .plain)], 1, []⟩ w)) v
theorem f740l1O (k : Nat) : SumO P Tryz.f40 122 (f740l1S k) := lp tm (f740T k) ⟨[4, 5, 7], [], []⟩ (SumsOk.nil |>.s (f740p0O k) (by kernel_rfl)) (by kernel_rfl) fun _ _ _ _ => by kernel_rfl
noncomputable def f740F (k : Nat) (x : D14 × ByteArray) : Option (List Int × Int) :=
  Option.bind (f751F k ((x.1.1, x.1.2), [x.2])) fun y1 =>
  bif (y1 != (0 : Int)) then
    some ([], y1)
  else
  Option.bind (f752F k ((x.1.1, x.1.2), x.2)) fun y2 =>
  bif ((decide ((0 : Int) ≤ y2)) && (decide (y2 < (x.1.2.length : Int)))) then
  let t3 := (x.1.2.getD (Int.toNat y2) (ByteArray.empty, ((0 : Int), (false, ((0 : Int), [])))))
  f740l1 k
    (fun (w7 : List Int × Unit) =>
      some (w7.1, (0 : Int)))
    (t3.2.2.2.2, (t3.2.2.2.2.length : Int), (0 : Int), [], ())
  else none
theorem f740Ok (k : Nat) : FnV P 40 [.agg Y11, .dat .str] [.own 3 (.int .i64), .dat (.int .i64)] (f740F k) :=
  fs tm (f740T k) Tryz.func40 (by kernel_rfl) (SumsOk.nil |>.s (f740l1O k) (by kernel_rfl) |>.s (f740p0O k) (by kernel_rfl)) none fun _ => by kernel_rfl
/-! ## midrange/midrangebase.IsUpper -/
noncomputable def f813F (k : Nat) (x : Int) : Option (Bool) :=
  bif (decide ((65 : Int) ≤ x)) then
    some (decide (x ≤ (90 : Int)))
  else
  some false
theorem f813Ok (k : Nat) : FnV P 113 [.dat (.int .u8)] [.dat .bool] (f813F k) :=
  fs tm TB.nil Tryz.func113 (by kernel_rfl) SumsOk.nil none fun _ => by kernel_rfl
/-! ## midrange/midrangebase.IsDigit -/
noncomputable def f814F (k : Nat) (x : Int) : Option (Bool) :=
  bif (decide ((48 : Int) ≤ x)) then
    some (decide (x ≤ (57 : Int)))
  else
  some false
theorem f814Ok (k : Nat) : FnV P 114 [.dat (.int .u8)] [.dat .bool] (f814F k) :=
  fs tm TB.nil Tryz.func114 (by kernel_rfl) SumsOk.nil none fun _ => by kernel_rfl
/-! ## midrange/midrangeref18.IsID -/
noncomputable def f791T (k : Nat) : TB P := TB.nil |>.u (f814Ok k) |>.u (f813Ok k)
noncomputable def f791p0 {R : Type} (k : Nat) (k0 : D136 → Option R) (k1 : ByteArray × Int × Unit → Option R) (v : ByteArray × Int × Unit) : Option R :=
  bif ((decide ((0 : Int) ≤ v.2.1)) && (decide (v.2.1 < (v.1.size : Int)))) then
  Option.bind (f814F k (bt v.1 v.2.1)) fun y2 =>
  bif (!y2) then
    bif (decide (v.2.1 < (3 : Int))) then
      Option.bind (f813F k (bt v.1 v.2.1)) fun y3 =>
      bif (!y3) then
        k0 (v.1, false, v.2.1, ())
      else
      bif (decide (v.2.1 ≥ (3 : Int))) then
        bif (decide ((bt v.1 v.2.1) < (65 : Int))) then
          k0 (v.1, false, v.2.1, ())
        else
        bif (decide ((bt v.1 v.2.1) > (70 : Int))) then
          k0 (v.1, false, v.2.1, ())
        else
        k1 (v.1, v.2.1, ())
      else
      k1 (v.1, v.2.1, ())
    else
    bif (decide (v.2.1 ≥ (3 : Int))) then
      bif (decide ((bt v.1 v.2.1) < (65 : Int))) then
        k0 (v.1, false, v.2.1, ())
      else
      bif (decide ((bt v.1 v.2.1) > (70 : Int))) then
        k0 (v.1, false, v.2.1, ())
      else
      k1 (v.1, v.2.1, ())
    else
    k1 (v.1, v.2.1, ())
  else
  k1 (v.1, v.2.1, ())
  else none
noncomputable def f791p0S (k : Nat) := partSum ⟨[(0, .one (.str)), (3, .one (.int .i64))], [], 0, []⟩ ⟨[0, 3], [], []⟩ fun R K v => f791p0 k (fun w => K .ret (encSt ⟨[(0, .one (.str)), (2, .one (.bool)), (3, .one (.int .i64))], [], 0, []⟩ w)) (fun w => K .normal (encSt ⟨[(0, .one (.str)), (3, .one (.int .i64))], [], 0, []⟩ w)) v
theorem f791p0O (k : Nat) : SumO P Tryz.f91 466 (f791p0S k) := pt tm (f791T k) ⟨[0, 2, 3], [], []⟩ SumsOk.nil fun _ _ _ => by kernel_rfl
noncomputable def f791l1s {R : Type} (k : Nat) (rec : ByteArray × Int × Unit → Option R) (k0 : Bool × Unit → Option R) (k1 : Unit → Option R) (v : ByteArray × Int × Unit) : Option R :=
  bif (decide (v.2.1 < (7 : Int))) then
    f791p0 k
      (fun (w4 : D136) =>
        k0 (w4.2.1, ()))
      (fun (w5 : ByteArray × Int × Unit) =>
        rec (w5.1, (IntKind.i64.wrap (w5.2.1 + (1 : Int))), ()))
      (v.1, v.2.1, ())
  else
  k1 (())
noncomputable def f791l1 {R : Type} (k : Nat) (k0 : Bool × Unit → Option R) (k1 : Unit → Option R) (v : ByteArray × Int × Unit) : Option R := iterS (fun rec v => f791l1s k rec k0 k1 v) k v
noncomputable def f791l1S (k : Nat) := loopSum ⟨[(0, .one (.str)), (3, .one (.int .i64))], [], 0, []⟩ ⟨[0, 3], [], []⟩ k fun R rec K v => f791l1s k rec (fun w => K .ret (encSt ⟨[(2, .one (.bool))], [], 0, []⟩ w)) (fun w => K (.exit 0) (encSt ⟨[], [], 0, []⟩ w)) v
theorem f791l1O (k : Nat) : SumO P Tryz.f91 58 (f791l1S k) := lp tm (f791T k) ⟨[2], [], []⟩ (SumsOk.nil |>.s (f791p0O k) (by kernel_rfl)) (by kernel_rfl) fun _ _ _ _ => by kernel_rfl
noncomputable def f791F (k : Nat) (x : ByteArray) : Option (Bool) :=
  bif ((x.size : Int) != (7 : Int)) then
    some false
  else
  bif (decide ((0 : Int) < (x.size : Int))) then
  Option.bind (f813F k (bt x (0 : Int))) fun y1 =>
  bif (!y1) then
    some false
  else
  f791l1 k
    (fun (w6 : Bool × Unit) =>
      some w6.1)
    (fun (w7 : Unit) =>
      some true)
    (x, (1 : Int), ())
  else none
theorem f791Ok (k : Nat) : FnV P 91 [.dat .str] [.dat .bool] (f791F k) :=
  fs tm (f791T k) Tryz.func91 (by kernel_rfl) (SumsOk.nil |>.s (f791l1O k) (by kernel_rfl) |>.s (f791p0O k) (by kernel_rfl)) none fun _ => by kernel_rfl
/-! ## midrange/midrangebase.Within -/
noncomputable def f48F (k : Nat) (x : Int × Int × Int) : Option (Bool) :=
  bif (decide (x.2.1 ≤ x.1)) then
    some (decide (x.1 ≤ x.2.2))
  else
  some false
theorem f48Ok (k : Nat) : FnV P 65 [.dat (.int .i64), .dat (.int .i64), .dat (.int .i64)] [.dat .bool] (f48F k) :=
  fs tm TB.nil Tryz.func65 (by kernel_rfl) SumsOk.nil none fun _ => by kernel_rfl
/-! ## midrange/midrangeref18.IsText -/
noncomputable def f756l0s {R : Type} (k : Nat) (rec : ByteArray × Int × Unit → Option R) (k0 : Bool × Unit → Option R) (k1 : Unit → Option R) (v : ByteArray × Int × Unit) : Option R :=
  bif (decide (v.2.1 < (v.1.size : Int))) then
    bif ((decide ((0 : Int) ≤ v.2.1)) && (decide (v.2.1 < (v.1.size : Int)))) then
    bif (decide ((bt v.1 v.2.1) < (32 : Int))) then
      k0 (false, ())
    else
    bif ((decide ((0 : Int) ≤ v.2.1)) && (decide (v.2.1 < (v.1.size : Int)))) then
    bif (decide ((bt v.1 v.2.1) > (126 : Int))) then
      k0 (false, ())
    else
    rec (v.1, (IntKind.i64.wrap (v.2.1 + (1 : Int))), ())
    else none
    else none
  else
  k1 (())
noncomputable def f756l0 {R : Type} (k : Nat) (k0 : Bool × Unit → Option R) (k1 : Unit → Option R) (v : ByteArray × Int × Unit) : Option R := iterS (fun rec v => f756l0s k rec k0 k1 v) k v
noncomputable def f756l0S (k : Nat) := loopSum ⟨[(0, .one (.str)), (3, .one (.int .i64))], [], 0, []⟩ ⟨[0, 3], [], []⟩ k fun R rec K v => f756l0s k rec (fun w => K .ret (encSt ⟨[(2, .one (.bool))], [], 0, []⟩ w)) (fun w => K (.exit 0) (encSt ⟨[], [], 0, []⟩ w)) v
theorem f756l0O (k : Nat) : SumO P Tryz.f56 26 (f756l0S k) := lp tm TB.nil ⟨[2], [], []⟩ SumsOk.nil (by kernel_rfl) fun _ _ _ _ => by kernel_rfl
noncomputable def f756F (k : Nat) (x : ByteArray) : Option (Bool) :=
  f756l0 k
    (fun (w1 : Bool × Unit) =>
      some w1.1)
    (fun (w2 : Unit) =>
      some true)
    (x, (0 : Int), ())
theorem f756Ok (k : Nat) : FnV P 56 [.dat .str] [.dat .bool] (f756F k) :=
  fs tm TB.nil Tryz.func56 (by kernel_rfl) (SumsOk.nil |>.s (f756l0O k) (by kernel_rfl)) none fun _ => by kernel_rfl
/-! ## midrange/midrangebase.IsDataType -/
noncomputable def f820T (k : Nat) : TB P := TB.nil |>.u (f48Ok k)
noncomputable def f820p0 {R : Type} (k : Nat) (k0 : D137 → Option R) (v : D138) : Option R :=
  bif (v.1 == (1 : Int)) then
    k0 (v.1, (v.1 == (1 : Int)), v.2.1, v.2.2.1, v.2.2.2.1, ())
  else
  k0 (v.1, (v.1 == (2 : Int)), v.2.1, v.2.2.1, v.2.2.2.1, ())
noncomputable def f820p0S (k : Nat) := partSum ⟨[(1, .one (.ptr 0 0)), (4, .one (.int .i64))], [(0, .var 115 [.int .i64, .int .i64, .int .i64])], 1, []⟩ ⟨[1, 4], [], []⟩ fun R K v => f820p0 k (fun w => K .normal (encSt ⟨[(1, .one (.ptr 0 0)), (4, .one (.int .i64)), (15, .one (.bool))], [(0, .var 115 [.int .i64, .int .i64, .int .i64])], 1, []⟩ w)) v
theorem f820p0O (k : Nat) : SumO P Tryz.f120 214 (f820p0S k) := pt tm (f820T k) ⟨[1, 2, 4, 15], [], []⟩ SumsOk.nil fun _ _ _ => by kernel_rfl
noncomputable def f820F (k : Nat) (x : (Int × (Int × Int))) : Option (Bool) :=
  bif (x.1 == (0 : Int)) then
    Option.bind (f48F k (x.2.1, (1 : Int), (256 : Int))) fun y1 =>
    bif y1 then
      some (x.2.2 == (0 : Int))
    else
    some false
  else
  f820p0 k
    (fun (w2 : D137) =>
      bif w2.2.1 then
        Option.bind (f48F k (w2.2.2.2.1, (1 : Int), (15 : Int))) fun y3 =>
        bif y3 then
          Option.bind (f48F k (w2.2.2.2.2.1, (0 : Int), w2.2.2.2.1)) fun y4 =>
          some y4
        else
        some false
      else
      bif (w2.1 == (3 : Int)) then
        bif (w2.2.2.2.1 == (4 : Int)) then
          Option.bind (f48F k (w2.2.2.2.2.1, (0 : Int), w2.2.2.2.1)) fun y5 =>
          some y5
        else
        bif (w2.2.2.2.1 == (9 : Int)) then
          Option.bind (f48F k (w2.2.2.2.2.1, (0 : Int), w2.2.2.2.1)) fun y6 =>
          some y6
        else
        some false
      else
      bif (w2.2.2.1 == (4 : Int)) then
        bif (w2.2.2.2.1 == (0 : Int)) then
          some (w2.2.2.2.2.1 == (0 : Int))
        else
        some false
      else
      some false)
    (x.1, x.1, x.2.1, x.2.2, ())
theorem f820Ok (k : Nat) : FnV P 120 [.agg (.pair (.int .i64) Y6)] [.dat .bool] (f820F k) :=
  fs tm (f820T k) Tryz.func120 (by kernel_rfl) (SumsOk.nil |>.s (f820p0O k) (by kernel_rfl)) none fun _ => by kernel_rfl
/-! ## midrange/midrangebase.IndexOfString -/
noncomputable def f773l0s {R : Type} (k : Nat) (rec : D139 → Option R) (k0 : Int × Unit → Option R) (k1 : Unit → Option R) (v : D139) : Option R :=
  bif (decide (v.2.2.1 < (v.1.length : Int))) then
    bif ((decide ((0 : Int) ≤ v.2.2.1)) && (decide (v.2.2.1 < (v.1.length : Int)))) then
    bif (strEq (v.1.getD (Int.toNat v.2.2.1) ByteArray.empty) v.2.1) then
      k0 (v.2.2.1, ())
    else
    rec (v.1, v.2.1, (IntKind.i64.wrap (v.2.2.1 + (1 : Int))), ())
    else none
  else
  k1 (())
noncomputable def f773l0 {R : Type} (k : Nat) (k0 : Int × Unit → Option R) (k1 : Unit → Option R) (v : D139) : Option R := iterS (fun rec v => f773l0s k rec k0 k1 v) k v
noncomputable def f773l0S (k : Nat) := loopSum ⟨[(0, .one (.ro .str)), (1, .one (.str)), (5, .one (.int .i64))], [], 0, []⟩ ⟨[0, 1, 5], [], []⟩ k fun R rec K v => f773l0s k rec (fun w => K .ret (encSt ⟨[(4, .one (.int .i64))], [], 0, []⟩ w)) (fun w => K (.exit 0) (encSt ⟨[], [], 0, []⟩ w)) v
theorem f773l0O (k : Nat) : SumO P Tryz.f73 26 (f773l0S k) := lp tm TB.nil ⟨[4], [], []⟩ SumsOk.nil (by kernel_rfl) fun _ _ _ _ => by kernel_rfl
noncomputable def f773F (k : Nat) (x : D24) : Option (Int) :=
  f773l0 k
    (fun (w1 : Int × Unit) =>
      some w1.1)
    (fun (w2 : Unit) =>
      some (-1 : Int))
    (x.1, x.2, (0 : Int), ())
theorem f773Ok (k : Nat) : FnV P 73 [.dat (.slice .str), .dat .str] [.dat (.int .i64)] (f773F k) :=
  fs tm TB.nil Tryz.func73 (by kernel_rfl) (SumsOk.nil |>.s (f773l0O k) (by kernel_rfl)) none fun _ => by kernel_rfl
/-! ## midrange/midrangeref18.descErr -/
noncomputable def f792T (k : Nat) : TB P := TB.nil |>.u (f820Ok k) |>.u (f773Ok k) |>.u (f48Ok k) |>.u (f756Ok k)
noncomputable def f792l0s {R : Type} (k : Nat) (rec : D127 → Option R) (k0 : D127 → Option R) (k1 : D140 → Option R) (v : D127) : Option R :=
  bif (decide (v.1 < (v.2.2.2.2.2.1.length : Int))) then
    bif ((decide ((0 : Int) ≤ v.1)) && (decide (v.1 < (v.2.2.2.2.2.1.length : Int)))) then
    let t4 := (v.2.2.2.2.2.1.getD (Int.toNat v.1) ((0 : Int), ((0 : Int), (0 : Int))))
    Option.bind (f820F k (t4.1, (t4.2.1, t4.2.2))) fun y5 =>
    bif (!y5) then
      k0 ((17 : Int), v.2.1, v.2.2.1, v.2.2.2.1, v.2.2.2.2.1, v.2.2.2.2.2.1, v.2.2.2.2.2.2.1, v.2.2.2.2.2.2.2.1, ())
    else
    bif ((decide ((0 : Int) ≤ v.1)) && (decide (v.1 < (v.2.2.2.2.2.1.length : Int)))) then
    let t6 := (v.2.2.2.2.2.1.getD (Int.toNat v.1) ((0 : Int), ((0 : Int), (0 : Int))))
    bif (t6.1 == (4 : Int)) then
      k0 ((17 : Int), v.2.1, v.2.2.1, v.2.2.2.1, v.2.2.2.2.1, v.2.2.2.2.2.1, v.2.2.2.2.2.2.1, v.2.2.2.2.2.2.2.1, ())
    else
    rec ((IntKind.i64.wrap (v.1 + (1 : Int))), v.2.1, v.2.2.1, v.2.2.2.1, v.2.2.2.2.1, v.2.2.2.2.2.1, v.2.2.2.2.2.2.1, v.2.2.2.2.2.2.2.1, ())
    else none
    else none
  else
  k1 (v.2.1, v.2.2.1, v.2.2.2.1, v.2.2.2.2.1, v.2.2.2.2.2.1, v.2.2.2.2.2.2.1, v.2.2.2.2.2.2.2.1, ())
noncomputable def f792l0 {R : Type} (k : Nat) (k0 : D127 → Option R) (k1 : D140 → Option R) (v : D127) : Option R := iterS (fun rec v => f792l0s k rec k0 k1 v) k v
noncomputable def f792l0S (k : Nat) := loopSum ⟨[(1, .one (.ptr 0 0)), (3, .one (.int .i64))], [(0, .var 82 [.str, .int .i64, .str, .str, .ro (.pair (.int .i64) Y6), .str, .ro .str])], 1, []⟩ ⟨[1, 3], [], []⟩ k fun R rec K v => f792l0s k rec (fun w => K .ret (encSt ⟨[(1, .one (.ptr 0 0)), (2, .one (.int .i64))], [(0, .var 82 [.str, .int .i64, .str, .str, .ro (.pair (.int .i64) Y6), .str, .ro .str])], 1, []⟩ w)) (fun w => K (.exit 0) (encSt ⟨[(1, .one (.ptr 0 0))], [(0, .var 82 [.str, .int .i64, .str, .str, .ro (.pair (.int .i64) Y6), .str, .ro .str])], 1, []⟩ w)) v
theorem f792l0O (k : Nat) : SumO P Tryz.f92 1018 (f792l0S k) := lp tm (f792T k) ⟨[1, 2], [], []⟩ SumsOk.nil (by kernel_rfl) fun _ _ _ _ => by kernel_rfl
noncomputable def f792l1s {R : Type} (k : Nat) (rec : D127 → Option R) (k0 : Int × Unit → Option R) (k1 : Unit → Option R) (v : D127) : Option R :=
  bif (decide (v.1 < (v.2.2.2.2.2.2.2.1.length : Int))) then
    bif ((decide ((0 : Int) ≤ v.1)) && (decide (v.1 < (v.2.2.2.2.2.2.2.1.length : Int)))) then
    let t10 := (((v.2.2.2.2.2.2.2.1.getD (Int.toNat v.1) ByteArray.empty).size : Int) == (0 : Int))
    bif t10 then
      k0 ((1 : Int), ())
    else
    let t11 := (decide (((v.2.2.2.2.2.2.2.1.getD (Int.toNat v.1) ByteArray.empty).size : Int) > (32 : Int)))
    bif t11 then
      k0 ((2 : Int), ())
    else
    Option.bind (f756F k (v.2.2.2.2.2.2.2.1.getD (Int.toNat v.1) ByteArray.empty)) fun y12 =>
    bif (!y12) then
      k0 ((5 : Int), ())
    else
    bif (sliceBds (0 : Int) v.1 (v.2.2.2.2.2.2.2.1.length : Int)) then
    Option.bind (f773F k (((v.2.2.2.2.2.2.2.1.take (Int.toNat v.1)).drop 0), (v.2.2.2.2.2.2.2.1.getD (Int.toNat v.1) ByteArray.empty))) fun y13 =>
    bif (y13 != (-1 : Int)) then
      k0 ((13 : Int), ())
    else
    rec ((IntKind.i64.wrap (v.1 + (1 : Int))), v.2.1, v.2.2.1, v.2.2.2.1, v.2.2.2.2.1, v.2.2.2.2.2.1, v.2.2.2.2.2.2.1, v.2.2.2.2.2.2.2.1, ())
    else none
    else none
  else
  k1 (())
noncomputable def f792l1 {R : Type} (k : Nat) (k0 : Int × Unit → Option R) (k1 : Unit → Option R) (v : D127) : Option R := iterS (fun rec v => f792l1s k rec k0 k1 v) k v
noncomputable def f792l1S (k : Nat) := loopSum ⟨[(1, .one (.ptr 0 0)), (4, .one (.int .i64))], [(0, .var 82 [.str, .int .i64, .str, .str, .ro (.pair (.int .i64) Y6), .str, .ro .str])], 1, []⟩ ⟨[1, 4], [], []⟩ k fun R rec K v => f792l1s k rec (fun w => K .ret (encSt ⟨[(2, .one (.int .i64))], [], 0, []⟩ w)) (fun w => K (.exit 2) (encSt ⟨[], [], 0, []⟩ w)) v
theorem f792l1O (k : Nat) : SumO P Tryz.f92 16378 (f792l1S k) := lp tm (f792T k) ⟨[2], [], []⟩ SumsOk.nil (by kernel_rfl) fun _ _ _ _ => by kernel_rfl
noncomputable def f792F (k : Nat) (x : D13) : Option (Int) :=
  Option.bind (f48F k (x.2.1, (0 : Int), (99 : Int))) fun y1 =>
  bif (!y1) then
    some (3 : Int)
  else
  bif ((x.2.2.1.size : Int) == (0 : Int)) then
    some (1 : Int)
  else
  bif (decide ((x.2.2.1.size : Int) > (200 : Int))) then
    some (2 : Int)
  else
  bif (decide ((x.2.2.2.1.size : Int) > (200 : Int))) then
    some (2 : Int)
  else
  Option.bind (f756F k x.2.2.1) fun y2 =>
  bif (!y2) then
    some (5 : Int)
  else
  Option.bind (f756F k x.2.2.2.1) fun y3 =>
  bif (!y3) then
    some (5 : Int)
  else
  bif (decide ((x.2.2.2.2.1.length : Int) > (9 : Int))) then
    some (2 : Int)
  else
  f792l0 k
    (fun (w7 : D127) =>
      some w7.1)
    (fun (w8 : D140) =>
      bif (decide ((w8.2.2.2.2.2.1.size : Int) > (32 : Int))) then
        some (2 : Int)
      else
      Option.bind (f756F k w8.2.2.2.2.2.1) fun y9 =>
      bif (!y9) then
        some (5 : Int)
      else
      bif (decide ((w8.2.2.2.2.2.2.1.length : Int) > (8 : Int))) then
        some (2 : Int)
      else
      f792l1 k
        (fun (w14 : Int × Unit) =>
          some w14.1)
        (fun (w15 : Unit) =>
          some (0 : Int))
        ((0 : Int), w8.1, w8.2.1, w8.2.2.1, w8.2.2.2.1, w8.2.2.2.2.1, w8.2.2.2.2.2.1, w8.2.2.2.2.2.2.1, ()))
    ((0 : Int), x.1, x.2.1, x.2.2.1, x.2.2.2.1, x.2.2.2.2.1, x.2.2.2.2.2.1, x.2.2.2.2.2.2, ())
theorem f792Ok (k : Nat) : FnV P 92 [.agg Y10] [.dat (.int .i64)] (f792F k) :=
  fs tm (f792T k) Tryz.func92 (by kernel_rfl) (SumsOk.nil |>.s (f792l1O k) (by kernel_rfl) |>.s (f792l0O k) (by kernel_rfl)) none fun _ => by kernel_rfl
/-! ## midrange/midrangeref18.CheckFile -/
noncomputable def f748T (k : Nat) : TB P := TB.nil |>.u (f792Ok k) |>.u (f791Ok k)
noncomputable def f748p0 {R : Type} (k : Nat) (k0 : D141 → Option R) (v : List D13 × Int × Unit) : Option R :=
  bif ((decide ((0 : Int) ≤ v.2.1)) && (decide (v.2.1 < (v.1.length : Int)))) then
  let t1 := (v.1.getD (Int.toNat v.2.1) (ByteArray.empty, ((0 : Int), (ByteArray.empty, (ByteArray.empty, ([], (ByteArray.empty, [])))))))
  Option.bind (f791F k t1.1) fun y2 =>
  bif (!y2) then
    k0 (v.1, v.2.1, (7 : Int), ())
  else
  bif (decide (v.2.1 > (0 : Int))) then
    bif ((decide ((0 : Int) ≤ v.2.1)) && (decide (v.2.1 < (v.1.length : Int)))) then
    let t3 := (v.1.getD (Int.toNat v.2.1) (ByteArray.empty, ((0 : Int), (ByteArray.empty, (ByteArray.empty, ([], (ByteArray.empty, [])))))))
    bif ((decide ((0 : Int) ≤ (IntKind.i64.wrap (v.2.1 - (1 : Int))))) && (decide ((IntKind.i64.wrap (v.2.1 - (1 : Int))) < (v.1.length : Int)))) then
    let t4 := (v.1.getD (Int.toNat (IntKind.i64.wrap (v.2.1 - (1 : Int)))) (ByteArray.empty, ((0 : Int), (ByteArray.empty, (ByteArray.empty, ([], (ByteArray.empty, [])))))))
    bif (strLt t3.1 t4.1 || strEq t3.1 t4.1) then
      k0 (v.1, v.2.1, (14 : Int), ())
    else
    bif ((decide ((0 : Int) ≤ v.2.1)) && (decide (v.2.1 < (v.1.length : Int)))) then
    let t5 := (v.1.getD (Int.toNat v.2.1) (ByteArray.empty, ((0 : Int), (ByteArray.empty, (ByteArray.empty, ([], (ByteArray.empty, [])))))))
    Option.bind (f792F k (t5.1, (t5.2.1, (t5.2.2.1, (t5.2.2.2.1, (t5.2.2.2.2.1, (t5.2.2.2.2.2.1, t5.2.2.2.2.2.2))))))) fun y6 =>
    k0 (v.1, v.2.1, y6, ())
    else none
    else none
    else none
  else
  bif ((decide ((0 : Int) ≤ v.2.1)) && (decide (v.2.1 < (v.1.length : Int)))) then
  let t7 := (v.1.getD (Int.toNat v.2.1) (ByteArray.empty, ((0 : Int), (ByteArray.empty, (ByteArray.empty, ([], (ByteArray.empty, [])))))))
  Option.bind (f792F k (t7.1, (t7.2.1, (t7.2.2.1, (t7.2.2.2.1, (t7.2.2.2.2.1, (t7.2.2.2.2.2.1, t7.2.2.2.2.2.2))))))) fun y8 =>
  k0 (v.1, v.2.1, y8, ())
  else none
  else none
noncomputable def f748p0S (k : Nat) := partSum ⟨[(0, .one (.ro Y10)), (4, .one (.int .i64))], [], 0, []⟩ ⟨[0, 4], [], []⟩ fun R K v => f748p0 k (fun w => K .normal (encSt ⟨[(0, .one (.ro Y10)), (4, .one (.int .i64)), (5, .one (.int .i64))], [], 0, []⟩ w)) v
theorem f748p0O (k : Nat) : SumO P Tryz.f48 3730 (f748p0S k) := pt tm (f748T k) ⟨[0, 2, 3, 4, 5], [], []⟩ SumsOk.nil fun _ _ _ => by kernel_rfl
noncomputable def f748l1s {R : Type} (k : Nat) (rec : List D13 × Int × Unit → Option R) (k0 : Int × Int × Unit → Option R) (k1 : Unit → Option R) (v : List D13 × Int × Unit) : Option R :=
  bif (decide (v.2.1 < (v.1.length : Int))) then
    f748p0 k
      (fun (w9 : D141) =>
        bif (w9.2.2.1 != (0 : Int)) then
          k0 (w9.2.1, w9.2.2.1, ())
        else
        rec (w9.1, (IntKind.i64.wrap (w9.2.1 + (1 : Int))), ()))
      (v.1, v.2.1, ())
  else
  k1 (())
noncomputable def f748l1 {R : Type} (k : Nat) (k0 : Int × Int × Unit → Option R) (k1 : Unit → Option R) (v : List D13 × Int × Unit) : Option R := iterS (fun rec v => f748l1s k rec k0 k1 v) k v
noncomputable def f748l1S (k : Nat) := loopSum ⟨[(0, .one (.ro Y10)), (4, .one (.int .i64))], [], 0, []⟩ ⟨[0, 4], [], []⟩ k fun R rec K v => f748l1s k rec (fun w => K .ret (encSt ⟨[(2, .one (.int .i64)), (3, .one (.int .i64))], [], 0, []⟩ w)) (fun w => K (.exit 0) (encSt ⟨[], [], 0, []⟩ w)) v
theorem f748l1O (k : Nat) : SumO P Tryz.f48 58 (f748l1S k) := lp tm (f748T k) ⟨[2, 3], [], []⟩ (SumsOk.nil |>.s (f748p0O k) (by kernel_rfl)) (by kernel_rfl) fun _ _ _ _ => by kernel_rfl
noncomputable def f748F (k : Nat) (x : (List D13)) : Option (Int × Int) :=
  bif (decide ((x.length : Int) > (20 : Int))) then
    some ((0 : Int), (2 : Int))
  else
  f748l1 k
    (fun (w10 : Int × Int × Unit) =>
      some (w10.1, w10.2.1))
    (fun (w11 : Unit) =>
      some ((0 : Int), (0 : Int)))
    (x, (0 : Int), ())
theorem f748Ok (k : Nat) : FnV P 48 [.dat (.slice Y10)] [.dat (.int .i64), .dat (.int .i64)] (f748F k) :=
  fs tm (f748T k) Tryz.func48 (by kernel_rfl) (SumsOk.nil |>.s (f748l1O k) (by kernel_rfl) |>.s (f748p0O k) (by kernel_rfl)) none fun _ => by kernel_rfl
/-! ## midrange/midrangebase.IsName -/
noncomputable def f785T (k : Nat) : TB P := TB.nil |>.u (f814Ok k) |>.u (f813Ok k) |>.u (f48Ok k)
noncomputable def f785p0 {R : Type} (k : Nat) (k0 : ByteArray × Int × Unit → Option R) (k1 : D136 → Option R) (v : ByteArray × Int × Unit) : Option R :=
  bif ((decide ((0 : Int) ≤ v.2.1)) && (decide (v.2.1 < (v.1.size : Int)))) then
  Option.bind (f813F k (bt v.1 v.2.1)) fun y2 =>
  bif y2 then
    k0 (v.1, v.2.1, ())
  else
  bif ((bt v.1 v.2.1) == (36 : Int)) then
    k0 (v.1, v.2.1, ())
  else
  bif ((bt v.1 v.2.1) == (35 : Int)) then
    k0 (v.1, v.2.1, ())
  else
  bif (!((bt v.1 v.2.1) == (64 : Int))) then
    bif (v.2.1 == (0 : Int)) then
      k1 (v.1, false, v.2.1, ())
    else
    Option.bind (f814F k (bt v.1 v.2.1)) fun y3 =>
    bif (!y3) then
      bif ((bt v.1 v.2.1) != (95 : Int)) then
        bif ((bt v.1 v.2.1) != (46 : Int)) then
          k1 (v.1, false, v.2.1, ())
        else
        k0 (v.1, v.2.1, ())
      else
      k0 (v.1, v.2.1, ())
    else
    k0 (v.1, v.2.1, ())
  else
  k0 (v.1, v.2.1, ())
  else none
noncomputable def f785p0S (k : Nat) := partSum ⟨[(0, .one (.str)), (3, .one (.int .i64))], [], 0, []⟩ ⟨[0, 3], [], []⟩ fun R K v => f785p0 k (fun w => K .normal (encSt ⟨[(0, .one (.str)), (3, .one (.int .i64))], [], 0, []⟩ w)) (fun w => K .ret (encSt ⟨[(0, .one (.str)), (2, .one (.bool)), (3, .one (.int .i64))], [], 0, []⟩ w)) v
theorem f785p0O (k : Nat) : SumO P Tryz.f85 466 (f785p0S k) := pt tm (f785T k) ⟨[0, 2, 3], [], []⟩ SumsOk.nil fun _ _ _ => by kernel_rfl
noncomputable def f785l1s {R : Type} (k : Nat) (rec : ByteArray × Int × Unit → Option R) (k0 : Bool × Unit → Option R) (k1 : Unit → Option R) (v : ByteArray × Int × Unit) : Option R :=
  bif (decide (v.2.1 < (v.1.size : Int))) then
    f785p0 k
      (fun (w4 : ByteArray × Int × Unit) =>
        rec (w4.1, (IntKind.i64.wrap (w4.2.1 + (1 : Int))), ()))
      (fun (w5 : D136) =>
        k0 (w5.2.1, ()))
      (v.1, v.2.1, ())
  else
  k1 (())
noncomputable def f785l1 {R : Type} (k : Nat) (k0 : Bool × Unit → Option R) (k1 : Unit → Option R) (v : ByteArray × Int × Unit) : Option R := iterS (fun rec v => f785l1s k rec k0 k1 v) k v
noncomputable def f785l1S (k : Nat) := loopSum ⟨[(0, .one (.str)), (3, .one (.int .i64))], [], 0, []⟩ ⟨[0, 3], [], []⟩ k fun R rec K v => f785l1s k rec (fun w => K .ret (encSt ⟨[(2, .one (.bool))], [], 0, []⟩ w)) (fun w => K (.exit 0) (encSt ⟨[], [], 0, []⟩ w)) v
theorem f785l1O (k : Nat) : SumO P Tryz.f85 58 (f785l1S k) := lp tm (f785T k) ⟨[2], [], []⟩ (SumsOk.nil |>.s (f785p0O k) (by kernel_rfl)) (by kernel_rfl) fun _ _ _ _ => by kernel_rfl
noncomputable def f785F (k : Nat) (x : ByteArray) : Option (Bool) :=
  Option.bind (f48F k ((x.size : Int), (1 : Int), (10 : Int))) fun y1 =>
  bif (!y1) then
    some false
  else
  f785l1 k
    (fun (w6 : Bool × Unit) =>
      some w6.1)
    (fun (w7 : Unit) =>
      some true)
    (x, (0 : Int), ())
theorem f785Ok (k : Nat) : FnV P 85 [.dat .str] [.dat .bool] (f785F k) :=
  fs tm (f785T k) Tryz.func85 (by kernel_rfl) (SumsOk.nil |>.s (f785l1O k) (by kernel_rfl) |>.s (f785p0O k) (by kernel_rfl)) none fun _ => by kernel_rfl
/-! ## midrange/midrangeref18.Queue -/
noncomputable def f731l0s {R : Type} (k : Nat) (rec : D142 → Option R) (k0 : Int × Unit → Option R) (k1 : Unit → Option R) (v : D142) : Option R :=
  bif (decide (v.2.1 < (v.2.2.2.1.length : Int))) then
    bif ((decide ((0 : Int) ≤ v.2.1)) && (decide (v.2.1 < (v.2.2.2.1.length : Int)))) then
    let t1 := (v.2.2.2.1.getD (Int.toNat v.2.1) (ByteArray.empty, ((0 : Int), (false, ((0 : Int), [])))))
    bif (strEq t1.1 v.1) then
      k0 (v.2.1, ())
    else
    rec (v.1, (IntKind.i64.wrap (v.2.1 + (1 : Int))), v.2.2.1, v.2.2.2.1, ())
    else none
  else
  k1 (())
noncomputable def f731l0 {R : Type} (k : Nat) (k0 : Int × Unit → Option R) (k1 : Unit → Option R) (v : D142) : Option R := iterS (fun rec v => f731l0s k rec k0 k1 v) k v
noncomputable def f731l0S (k : Nat) := loopSum ⟨[(1, .one (.str)), (2, .one (.ptr 0 0)), (5, .one (.int .i64))], [(0, .var 25 [.ro Y10, .ro (.pair .str Y5)])], 1, []⟩ ⟨[1, 2, 5], [], []⟩ k fun R rec K v => f731l0s k rec (fun w => K .ret (encSt ⟨[(4, .one (.int .i64))], [], 0, []⟩ w)) (fun w => K (.exit 0) (encSt ⟨[], [], 0, []⟩ w)) v
theorem f731l0O (k : Nat) : SumO P Tryz.f31 26 (f731l0S k) := lp tm TB.nil ⟨[4], [], []⟩ SumsOk.nil (by kernel_rfl) fun _ _ _ _ => by kernel_rfl
noncomputable def f731F (k : Nat) (x : D14 × ByteArray) : Option (Int) :=
  f731l0 k
    (fun (w2 : Int × Unit) =>
      some w2.1)
    (fun (w3 : Unit) =>
      some (-1 : Int))
    (x.2, (0 : Int), x.1.1, x.1.2, ())
theorem f731Ok (k : Nat) : FnV P 31 [.agg Y11, .dat .str] [.dat (.int .i64)] (f731F k) :=
  fs tm TB.nil Tryz.func31 (by kernel_rfl) (SumsOk.nil |>.s (f731l0O k) (by kernel_rfl)) none fun _ => by kernel_rfl
/-! ## midrange/midrangeref18.messageErr -/
noncomputable def f786T (k : Nat) : TB P := TB.nil |>.u (f791Ok k) |>.u (f48Ok k) |>.u (f756Ok k) |>.u (f731Ok k)
noncomputable def f786p0 {R : Type} (k : Nat) (k0 : D143 → Option R) (k1 : D75 → Option R) (v : D75) : Option R :=
  bif (!strEq v.2.2.2.2.1 ByteArray.empty) then
    Option.bind (f791F k v.2.2.2.2.1) fun y2 =>
    bif (!y2) then
      k0 ((7 : Int), v.1, v.2.1, v.2.2.1, v.2.2.2.1, v.2.2.2.2.1, v.2.2.2.2.2.1, v.2.2.2.2.2.2.1, v.2.2.2.2.2.2.2.1, v.2.2.2.2.2.2.2.2.1, v.2.2.2.2.2.2.2.2.2.1, ())
    else
    k1 (v.1, v.2.1, v.2.2.1, v.2.2.2.1, v.2.2.2.2.1, v.2.2.2.2.2.1, v.2.2.2.2.2.2.1, v.2.2.2.2.2.2.2.1, v.2.2.2.2.2.2.2.2.1, v.2.2.2.2.2.2.2.2.2.1, ())
  else
  k1 (v.1, v.2.1, v.2.2.1, v.2.2.2.1, v.2.2.2.2.1, v.2.2.2.2.2.1, v.2.2.2.2.2.2.1, v.2.2.2.2.2.2.2.1, v.2.2.2.2.2.2.2.2.1, v.2.2.2.2.2.2.2.2.2.1, ())
noncomputable def f786p0S (k : Nat) := partSum ⟨[(2, .one (.ptr 0 0)), (3, .one (.ptr 1 0))], [(0, .var 25 [.ro Y10, .ro (.pair .str Y5)]), (1, .var 42 [.int .i64, .int .i64, .str, .str, .str, .bool, .bool, .int .i64])], 2, []⟩ ⟨[2, 3], [], []⟩ fun R K v => f786p0 k (fun w => K .ret (encSt ⟨[(2, .one (.ptr 0 0)), (3, .one (.ptr 1 0)), (4, .one (.int .i64))], [(0, .var 25 [.ro Y10, .ro (.pair .str Y5)]), (1, .var 42 [.int .i64, .int .i64, .str, .str, .str, .bool, .bool, .int .i64])], 2, []⟩ w)) (fun w => K .normal (encSt ⟨[(2, .one (.ptr 0 0)), (3, .one (.ptr 1 0))], [(0, .var 25 [.ro Y10, .ro (.pair .str Y5)]), (1, .var 42 [.int .i64, .int .i64, .str, .str, .str, .bool, .bool, .int .i64])], 2, []⟩ w)) v
theorem f786p0O (k : Nat) : SumO P Tryz.f86 14 (f786p0S k) := pt tm (f786T k) ⟨[2, 3, 4], [], []⟩ SumsOk.nil fun _ _ _ => by kernel_rfl
noncomputable def f786p1 {R : Type} (k : Nat) (k0 : D144 → Option R) (k1 : D145 → Option R) (v : D75) : Option R :=
  bif (!strEq v.2.2.2.2.2.2.1 ByteArray.empty) then
    Option.bind (f731F k ((v.1, v.2.1), v.2.2.2.2.2.2.1)) fun y6 =>
    bif (y6 == (-1 : Int)) then
      k0 ((11 : Int), v.2.2.1, v.2.2.2.1, v.2.2.2.2.1, v.2.2.2.2.2.1, v.2.2.2.2.2.2.1, v.2.2.2.2.2.2.2.1, v.2.2.2.2.2.2.2.2.1, v.2.2.2.2.2.2.2.2.2.1, ())
    else
    k1 (v.2.2.1, v.2.2.2.1, v.2.2.2.2.1, v.2.2.2.2.2.1, v.2.2.2.2.2.2.1, v.2.2.2.2.2.2.2.1, v.2.2.2.2.2.2.2.2.1, v.2.2.2.2.2.2.2.2.2.1, ())
  else
  k1 (v.2.2.1, v.2.2.2.1, v.2.2.2.2.1, v.2.2.2.2.2.1, v.2.2.2.2.2.2.1, v.2.2.2.2.2.2.2.1, v.2.2.2.2.2.2.2.2.1, v.2.2.2.2.2.2.2.2.2.1, ())
noncomputable def f786p1S (k : Nat) := partSum ⟨[(2, .one (.ptr 0 0)), (3, .one (.ptr 1 0))], [(0, .var 25 [.ro Y10, .ro (.pair .str Y5)]), (1, .var 42 [.int .i64, .int .i64, .str, .str, .str, .bool, .bool, .int .i64])], 2, []⟩ ⟨[2, 3], [], []⟩ fun R K v => f786p1 k (fun w => K .ret (encSt ⟨[(3, .one (.ptr 0 0)), (4, .one (.int .i64))], [(0, .var 42 [.int .i64, .int .i64, .str, .str, .str, .bool, .bool, .int .i64])], 1, []⟩ w)) (fun w => K .normal (encSt ⟨[(3, .one (.ptr 0 0))], [(0, .var 42 [.int .i64, .int .i64, .str, .str, .str, .bool, .bool, .int .i64])], 1, []⟩ w)) v
theorem f786p1O (k : Nat) : SumO P Tryz.f86 254 (f786p1S k) := pt tm (f786T k) ⟨[3, 4], [], []⟩ SumsOk.nil fun _ _ _ => by kernel_rfl
noncomputable def f786p2 {R : Type} (k : Nat) (k0 : D144 → Option R) (k1 : D145 → Option R) (v : D145) : Option R :=
  bif (strEq v.2.2.2.2.1 ByteArray.empty) then
    bif (v.2.1 != (0 : Int)) then
      k0 ((7 : Int), v.1, v.2.1, v.2.2.1, v.2.2.2.1, v.2.2.2.2.1, v.2.2.2.2.2.1, v.2.2.2.2.2.2.1, v.2.2.2.2.2.2.2.1, ())
    else
    k1 (v.1, v.2.1, v.2.2.1, v.2.2.2.1, v.2.2.2.2.1, v.2.2.2.2.2.1, v.2.2.2.2.2.2.1, v.2.2.2.2.2.2.2.1, ())
  else
  k1 (v.1, v.2.1, v.2.2.1, v.2.2.2.1, v.2.2.2.2.1, v.2.2.2.2.2.1, v.2.2.2.2.2.2.1, v.2.2.2.2.2.2.2.1, ())
noncomputable def f786p2S (k : Nat) := partSum ⟨[(3, .one (.ptr 0 0))], [(0, .var 42 [.int .i64, .int .i64, .str, .str, .str, .bool, .bool, .int .i64])], 1, []⟩ ⟨[3], [], []⟩ fun R K v => f786p2 k (fun w => K .ret (encSt ⟨[(3, .one (.ptr 0 0)), (4, .one (.int .i64))], [(0, .var 42 [.int .i64, .int .i64, .str, .str, .str, .bool, .bool, .int .i64])], 1, []⟩ w)) (fun w => K .normal (encSt ⟨[(3, .one (.ptr 0 0))], [(0, .var 42 [.int .i64, .int .i64, .str, .str, .str, .bool, .bool, .int .i64])], 1, []⟩ w)) v
theorem f786p2O (k : Nat) : SumO P Tryz.f86 510 (f786p2S k) := pt tm (f786T k) ⟨[3, 4], [], []⟩ SumsOk.nil fun _ _ _ => by kernel_rfl
noncomputable def f786p3 {R : Type} (k : Nat) (k0 : Int × Unit → Option R) (k1 : Unit → Option R) (v : D146) : Option R :=
  bif v.2.2.2.2.2.2.2.1 then
    bif (v.2.2.1 != (1 : Int)) then
      k0 ((5 : Int), ())
    else
    bif (v.2.2.2.2.2.2.2.2.1 != (0 : Int)) then
      bif (!v.1) then
        k0 ((5 : Int), ())
      else
      bif v.1 then
        bif (!strEq v.2.2.2.1 ByteArray.empty) then
          k0 ((5 : Int), ())
        else
        Option.bind (f48F k (v.2.2.2.2.2.2.2.2.1, (1 : Int), (1000000 : Int))) fun y11 =>
        bif (!y11) then
          k0 ((5 : Int), ())
        else
        k1 (())
      else
      k1 (())
    else
    bif v.1 then
      bif (!strEq v.2.2.2.1 ByteArray.empty) then
        k0 ((5 : Int), ())
      else
      Option.bind (f48F k (v.2.2.2.2.2.2.2.2.1, (1 : Int), (1000000 : Int))) fun y12 =>
      bif (!y12) then
        k0 ((5 : Int), ())
      else
      k1 (())
    else
    k1 (())
  else
  bif (v.2.2.2.2.2.2.2.2.1 != (0 : Int)) then
    bif (!v.1) then
      k0 ((5 : Int), ())
    else
    bif v.1 then
      bif (!strEq v.2.2.2.1 ByteArray.empty) then
        k0 ((5 : Int), ())
      else
      Option.bind (f48F k (v.2.2.2.2.2.2.2.2.1, (1 : Int), (1000000 : Int))) fun y13 =>
      bif (!y13) then
        k0 ((5 : Int), ())
      else
      k1 (())
    else
    k1 (())
  else
  bif v.1 then
    bif (!strEq v.2.2.2.1 ByteArray.empty) then
      k0 ((5 : Int), ())
    else
    Option.bind (f48F k (v.2.2.2.2.2.2.2.2.1, (1 : Int), (1000000 : Int))) fun y14 =>
    bif (!y14) then
      k0 ((5 : Int), ())
    else
    k1 (())
  else
  k1 (())
noncomputable def f786p3S (k : Nat) := partSum ⟨[(3, .one (.ptr 0 0)), (5, .one (.bool))], [(0, .var 42 [.int .i64, .int .i64, .str, .str, .str, .bool, .bool, .int .i64])], 1, []⟩ ⟨[3, 5], [], []⟩ fun R K v => f786p3 k (fun w => K .ret (encSt ⟨[(4, .one (.int .i64))], [], 0, []⟩ w)) (fun w => K .normal (encSt ⟨[], [], 0, []⟩ w)) v
theorem f786p3O (k : Nat) : SumO P Tryz.f86 2046 (f786p3S k) := pt tm (f786T k) ⟨[4], [], []⟩ SumsOk.nil fun _ _ _ => by kernel_rfl
noncomputable def f786F (k : Nat) (x : D76) : Option (Int) :=
  Option.bind (f48F k (x.2.2.1, (0 : Int), (2 : Int))) fun y1 =>
  bif (!y1) then
    some (4 : Int)
  else
  f786p0 k
    (fun (w3 : D143) =>
      some w3.1)
    (fun (w4 : D75) =>
      bif (strEq w4.2.2.2.2.2.1 ByteArray.empty) then
        some (1 : Int)
      else
      bif (decide ((w4.2.2.2.2.2.1.size : Int) > (256 : Int))) then
        some (2 : Int)
      else
      Option.bind (f756F k w4.2.2.2.2.2.1) fun y5 =>
      bif (!y5) then
        some (5 : Int)
      else
      f786p1 k
        (fun (w7 : D144) =>
          some w7.1)
        (fun (w8 : D145) =>
          f786p2 k
            (fun (w9 : D144) =>
              some w9.1)
            (fun (w10 : D145) =>
              f786p3 k
                (fun (w15 : Int × Unit) =>
                  some w15.1)
                (fun (w16 : Unit) =>
                  some (0 : Int))
                ((w10.2.1 == (2 : Int)), w10.1, w10.2.1, w10.2.2.1, w10.2.2.2.1, w10.2.2.2.2.1, w10.2.2.2.2.2.1, w10.2.2.2.2.2.2.1, w10.2.2.2.2.2.2.2.1, ()))
            (w8.1, w8.2.1, w8.2.2.1, w8.2.2.2.1, w8.2.2.2.2.1, w8.2.2.2.2.2.1, w8.2.2.2.2.2.2.1, w8.2.2.2.2.2.2.2.1, ()))
        (w4.1, w4.2.1, w4.2.2.1, w4.2.2.2.1, w4.2.2.2.2.1, w4.2.2.2.2.2.1, w4.2.2.2.2.2.2.1, w4.2.2.2.2.2.2.2.1, w4.2.2.2.2.2.2.2.2.1, w4.2.2.2.2.2.2.2.2.2.1, ()))
    (x.1.1, x.1.2, x.2.1, x.2.2.1, x.2.2.2.1, x.2.2.2.2.1, x.2.2.2.2.2.1, x.2.2.2.2.2.2.1, x.2.2.2.2.2.2.2.1, x.2.2.2.2.2.2.2.2, ())
theorem f786Ok (k : Nat) : FnV P 86 [.agg Y11, .agg Y3] [.dat (.int .i64)] (f786F k) :=
  fs tm (f786T k) Tryz.func86 (by kernel_rfl) (SumsOk.nil |>.s (f786p3O k) (by kernel_rfl) |>.s (f786p2O k) (by kernel_rfl) |>.s (f786p1O k) (by kernel_rfl) |>.s (f786p0O k) (by kernel_rfl)) none fun _ => by kernel_rfl
/-! ## midrange/midrangeref18.Check -/
noncomputable def f741T (k : Nat) : TB P := TB.nil |>.u (f786Ok k) |>.u (f785Ok k) |>.u (f48Ok k) |>.u (f748Ok k)
noncomputable def f741p0 {R : Type} (k : Nat) (k0 : D147 → Option R) (k1 : D28 → Option R) (v : D28) : Option R :=
  bif (decide (v.1 > (0 : Int))) then
    bif ((decide ((0 : Int) ≤ (IntKind.i64.wrap (v.1 - (1 : Int))))) && (decide ((IntKind.i64.wrap (v.1 - (1 : Int))) < (v.2.2.1.length : Int)))) then
    let t4 := (v.2.2.1.getD (Int.toNat (IntKind.i64.wrap (v.1 - (1 : Int)))) (ByteArray.empty, ((0 : Int), (false, ((0 : Int), [])))))
    bif (strLt v.2.2.2.1 t4.1 || strEq v.2.2.2.1 t4.1) then
      k0 (v.1, (14 : Int), v.1, v.2.1, v.2.2.1, v.2.2.2.1, v.2.2.2.2.1, v.2.2.2.2.2.1, v.2.2.2.2.2.2.1, v.2.2.2.2.2.2.2.1, ())
    else
    k1 (v.1, v.2.1, v.2.2.1, v.2.2.2.1, v.2.2.2.2.1, v.2.2.2.2.2.1, v.2.2.2.2.2.2.1, v.2.2.2.2.2.2.2.1, ())
    else none
  else
  k1 (v.1, v.2.1, v.2.2.1, v.2.2.2.1, v.2.2.2.2.1, v.2.2.2.2.2.1, v.2.2.2.2.2.2.1, v.2.2.2.2.2.2.2.1, ())
noncomputable def f741p0S (k : Nat) := partSum ⟨[(1, .one (.ptr 0 0)), (6, .one (.int .i64)), (7, .one (.ptr 1 0))], [(0, .var 25 [.ro Y10, .ro (.pair .str Y5)]), (1, .var 69 [.str, .int .i64, .bool, .int .i64, .ro Y3])], 2, []⟩ ⟨[1, 6, 7], [], []⟩ fun R K v => f741p0 k (fun w => K .ret (encSt ⟨[(1, .one (.ptr 0 0)), (2, .one (.int .i64)), (3, .one (.int .i64)), (6, .one (.int .i64)), (7, .one (.ptr 1 0))], [(0, .var 25 [.ro Y10, .ro (.pair .str Y5)]), (1, .var 69 [.str, .int .i64, .bool, .int .i64, .ro Y3])], 2, []⟩ w)) (fun w => K .normal (encSt ⟨[(1, .one (.ptr 0 0)), (6, .one (.int .i64)), (7, .one (.ptr 1 0))], [(0, .var 25 [.ro Y10, .ro (.pair .str Y5)]), (1, .var 69 [.str, .int .i64, .bool, .int .i64, .ro Y3])], 2, []⟩ w)) v
theorem f741p0O (k : Nat) : SumO P Tryz.f41 15654 (f741p0S k) := pt tm (f741T k) ⟨[1, 2, 3, 6, 7], [], []⟩ SumsOk.nil fun _ _ _ => by kernel_rfl
noncomputable def f741l1s {R : Type} (k : Nat) (rec : D147 → Option R) (k0 : D148 → Option R) (k1 : D79 → Option R) (v : D147) : Option R :=
  bif (decide (v.2.2.1 < (v.2.2.2.2.2.2.2.2.2.1.length : Int))) then
    bif ((decide ((0 : Int) ≤ v.2.2.1)) && (decide (v.2.2.1 < (v.2.2.2.2.2.2.2.2.2.1.length : Int)))) then
    let t9 := (v.2.2.2.2.2.2.2.2.2.1.getD (Int.toNat v.2.2.1) ((0 : Int), ((0 : Int), (ByteArray.empty, (ByteArray.empty, (ByteArray.empty, (false, (false, (0 : Int)))))))))
    Option.bind (f48F k (t9.1, (IntKind.i64.wrap (v.2.1 + (1 : Int))), (IntKind.i64.wrap (v.2.2.2.2.2.2.2.2.1 - (1 : Int))))) fun y10 =>
    bif (!y10) then
      k0 (v.1, (14 : Int), v.1, v.2.2.2.1, v.2.2.2.2.1, ())
    else
    bif ((decide ((0 : Int) ≤ v.2.2.1)) && (decide (v.2.2.1 < (v.2.2.2.2.2.2.2.2.2.1.length : Int)))) then
    let t11 := (v.2.2.2.2.2.2.2.2.2.1.getD (Int.toNat v.2.2.1) ((0 : Int), ((0 : Int), (ByteArray.empty, (ByteArray.empty, (ByteArray.empty, (false, (false, (0 : Int)))))))))
    Option.bind (f786F k ((v.2.2.2.1, v.2.2.2.2.1), (t11.1, (t11.2.1, (t11.2.2.1, (t11.2.2.2.1, (t11.2.2.2.2.1, (t11.2.2.2.2.2.1, (t11.2.2.2.2.2.2.1, t11.2.2.2.2.2.2.2))))))))) fun y12 =>
    bif (y12 != (0 : Int)) then
      k0 (v.1, y12, v.1, v.2.2.2.1, v.2.2.2.2.1, ())
    else
    bif ((decide ((0 : Int) ≤ v.2.2.1)) && (decide (v.2.2.1 < (v.2.2.2.2.2.2.2.2.2.1.length : Int)))) then
    let t13 := (v.2.2.2.2.2.2.2.2.2.1.getD (Int.toNat v.2.2.1) ((0 : Int), ((0 : Int), (ByteArray.empty, (ByteArray.empty, (ByteArray.empty, (false, (false, (0 : Int)))))))))
    rec (v.1, t13.1, (IntKind.i64.wrap (v.2.2.1 + (1 : Int))), v.2.2.2.1, v.2.2.2.2.1, v.2.2.2.2.2.1, v.2.2.2.2.2.2.1, v.2.2.2.2.2.2.2.1, v.2.2.2.2.2.2.2.2.1, v.2.2.2.2.2.2.2.2.2.1, ())
    else none
    else none
    else none
  else
  k1 (v.1, v.2.2.2.1, v.2.2.2.2.1, ())
noncomputable def f741l1 {R : Type} (k : Nat) (k0 : D148 → Option R) (k1 : D79 → Option R) (v : D147) : Option R := iterS (fun rec v => f741l1s k rec k0 k1 v) k v
noncomputable def f741l1S (k : Nat) := loopSum ⟨[(1, .one (.ptr 0 0)), (6, .one (.int .i64)), (7, .one (.ptr 1 0)), (8, .one (.int .i64)), (9, .one (.int .i64))], [(0, .var 25 [.ro Y10, .ro (.pair .str Y5)]), (1, .var 69 [.str, .int .i64, .bool, .int .i64, .ro Y3])], 2, []⟩ ⟨[1, 6, 7, 8, 9], [], []⟩ k fun R rec K v => f741l1s k rec (fun w => K .ret (encSt ⟨[(1, .one (.ptr 0 0)), (2, .one (.int .i64)), (3, .one (.int .i64)), (6, .one (.int .i64))], [(0, .var 25 [.ro Y10, .ro (.pair .str Y5)])], 1, []⟩ w)) (fun w => K (.exit 2) (encSt ⟨[(1, .one (.ptr 0 0)), (6, .one (.int .i64))], [(0, .var 25 [.ro Y10, .ro (.pair .str Y5)])], 1, []⟩ w)) v
theorem f741l1O (k : Nat) : SumO P Tryz.f41 500990 (f741l1S k) := lp tm (f741T k) ⟨[1, 2, 3, 6], [], []⟩ SumsOk.nil (by kernel_rfl) fun _ _ _ _ => by kernel_rfl
noncomputable def f741l2s {R : Type} (k : Nat) (rec : D79 → Option R) (k0 : Int × Int × Unit → Option R) (k1 : Unit → Option R) (v : D79) : Option R :=
  bif (decide (v.1 < (v.2.2.1.length : Int))) then
    bif ((decide ((0 : Int) ≤ v.1)) && (decide (v.1 < (v.2.2.1.length : Int)))) then
    let t2 := (v.2.2.1.getD (Int.toNat v.1) (ByteArray.empty, ((0 : Int), (false, ((0 : Int), [])))))
    Option.bind (f785F k t2.1) fun y3 =>
    bif (!y3) then
      k0 (v.1, (7 : Int), ())
    else
    f741p0 k
      (fun (w5 : D147) =>
        k0 (w5.1, w5.2.1, ()))
      (fun (w6 : D28) =>
        Option.bind (f48F k (w6.2.2.2.2.1, (1 : Int), (12 : Int))) fun y7 =>
        bif (!y7) then
          k0 (w6.1, (3 : Int), ())
        else
        Option.bind (f48F k (w6.2.2.2.2.2.2.1, (1 : Int), (1000000 : Int))) fun y8 =>
        bif (!y8) then
          k0 (w6.1, (3 : Int), ())
        else
        bif (decide ((w6.2.2.2.2.2.2.2.1.length : Int) > w6.2.2.2.2.1)) then
          k0 (w6.1, (2 : Int), ())
        else
        f741l1 k
          (fun (w14 : D148) =>
            k0 (w14.1, w14.2.1, ()))
          (fun (w15 : D79) =>
            rec ((IntKind.i64.wrap (w15.1 + (1 : Int))), w15.2.1, w15.2.2.1, ()))
          (w6.1, (0 : Int), (0 : Int), w6.2.1, w6.2.2.1, w6.2.2.2.1, w6.2.2.2.2.1, w6.2.2.2.2.2.1, w6.2.2.2.2.2.2.1, w6.2.2.2.2.2.2.2.1, ()))
      (v.1, v.2.1, v.2.2.1, t2.1, t2.2.1, t2.2.2.1, t2.2.2.2.1, t2.2.2.2.2, ())
    else none
  else
  k1 (())
noncomputable def f741l2 {R : Type} (k : Nat) (k0 : Int × Int × Unit → Option R) (k1 : Unit → Option R) (v : D79) : Option R := iterS (fun rec v => f741l2s k rec k0 k1 v) k v
noncomputable def f741l2S (k : Nat) := loopSum ⟨[(1, .one (.ptr 0 0)), (6, .one (.int .i64))], [(0, .var 25 [.ro Y10, .ro (.pair .str Y5)])], 1, []⟩ ⟨[1, 6], [], []⟩ k fun R rec K v => f741l2s k rec (fun w => K .ret (encSt ⟨[(2, .one (.int .i64)), (3, .one (.int .i64))], [], 0, []⟩ w)) (fun w => K (.exit 0) (encSt ⟨[], [], 0, []⟩ w)) v
theorem f741l2O (k : Nat) : SumO P Tryz.f41 122 (f741l2S k) := lp tm (f741T k) ⟨[2, 3], [], []⟩ (SumsOk.nil |>.s (f741l1O k) (by kernel_rfl) |>.s (f741p0O k) (by kernel_rfl)) (by kernel_rfl) fun _ _ _ _ => by kernel_rfl
noncomputable def f741F (k : Nat) (x : D14) : Option (Int × Int) :=
  Option.bind (f748F k x.1) fun y1 =>
  bif (y1.2 != (0 : Int)) then
    some (y1.1, y1.2)
  else
  bif (decide ((x.2.length : Int) > (6 : Int))) then
    some ((0 : Int), (2 : Int))
  else
  f741l2 k
    (fun (w16 : Int × Int × Unit) =>
      some (w16.1, w16.2.1))
    (fun (w17 : Unit) =>
      some ((0 : Int), (0 : Int)))
    ((0 : Int), x.1, x.2, ())
theorem f741Ok (k : Nat) : FnV P 41 [.agg Y11] [.dat (.int .i64), .dat (.int .i64)] (f741F k) :=
  fs tm (f741T k) Tryz.func41 (by kernel_rfl) (SumsOk.nil |>.s (f741l2O k) (by kernel_rfl) |>.s (f741l1O k) (by kernel_rfl) |>.s (f741p0O k) (by kernel_rfl)) none fun _ => by kernel_rfl
/-! ## midrange/midrangeref18.Err -/
noncomputable def f727T (k : Nat) : TB P := TB.nil |>.u (f741Ok k)
noncomputable def f727F (k : Nat) (x : D14) : Option (Int) :=
  Option.bind (f741F k (x.1, x.2)) fun y1 =>
  some y1.2
theorem f727Ok (k : Nat) : FnV P 27 [.agg Y11] [.dat (.int .i64)] (f727F k) :=
  fs tm (f727T k) Tryz.func27 (by kernel_rfl) SumsOk.nil none fun _ => by kernel_rfl
/-! ## midrange/midrangebase.Count -/
noncomputable def f69F (k : Nat) (x : Bool) : Option (Int) :=
  bif x then
    some (1 : Int)
  else
  some (0 : Int)
theorem f69Ok (k : Nat) : FnV P 32 [.dat .bool] [.dat (.int .i64)] (f69F k) :=
  fs tm TB.nil Tryz.func32 (by kernel_rfl) SumsOk.nil none fun _ => by kernel_rfl
/-! ## midrange/midrangeref18.QueueErr -/
noncomputable def f742T (k : Nat) : TB P := TB.nil |>.u (f69Ok k) |>.u (f731Ok k) |>.u (f727Ok k)
noncomputable def f742F (k : Nat) (x : D14 × ByteArray) : Option (Int) :=
  Option.bind (f727F k (x.1.1, x.1.2)) fun y1 =>
  bif (y1 != (0 : Int)) then
    some y1
  else
  Option.bind (f731F k ((x.1.1, x.1.2), x.2)) fun y2 =>
  Option.bind (f69F k (y2 == (-1 : Int))) fun y3 =>
  some (IntKind.i64.wrap ((11 : Int) * y3))
theorem f742Ok (k : Nat) : FnV P 42 [.agg Y11, .dat .str] [.dat (.int .i64)] (f742F k) :=
  fs tm (f742T k) Tryz.func42 (by kernel_rfl) SumsOk.nil none fun _ => by kernel_rfl
/-! ## midrange/midrangeref18.isOpen -/
noncomputable def f787F (k : Nat) (x : (Int × (Int × D4))) : Option (Bool) :=
  bif (x.2.1 == (1 : Int)) then
    some (!x.2.2.2.2.2.2.1)
  else
  some false
theorem f787Ok (k : Nat) : FnV P 87 [.agg Y3] [.dat .bool] (f787F k) :=
  fs tm TB.nil Tryz.func87 (by kernel_rfl) SumsOk.nil none fun _ => by kernel_rfl
/-! ## midrange/midrangeref18.Unanswered -/
noncomputable def f744T (k : Nat) : TB P := TB.nil |>.u (f787Ok k)
noncomputable def f744p0 {R : Type} (k : Nat) (k0 : D149 → Option R) (v : D149) : Option R :=
  bif ((decide ((0 : Int) ≤ v.1)) && (decide (v.1 < (v.2.2.2.2.2.1.length : Int)))) then
  let t1 := (v.2.2.2.2.2.1.getD (Int.toNat v.1) ((0 : Int), ((0 : Int), (ByteArray.empty, (ByteArray.empty, (ByteArray.empty, (false, (false, (0 : Int)))))))))
  Option.bind (f787F k (t1.1, (t1.2.1, (t1.2.2.1, (t1.2.2.2.1, (t1.2.2.2.2.1, (t1.2.2.2.2.2.1, (t1.2.2.2.2.2.2.1, t1.2.2.2.2.2.2.2)))))))) fun y2 =>
  bif y2 then
    bif ((decide ((0 : Int) ≤ v.1)) && (decide (v.1 < (v.2.2.2.2.2.1.length : Int)))) then
    let t3 := (v.2.2.2.2.2.1.getD (Int.toNat v.1) ((0 : Int), ((0 : Int), (ByteArray.empty, (ByteArray.empty, (ByteArray.empty, (false, (false, (0 : Int)))))))))
    bif (decide ((v.2.2.2.2.2.2.1.length + [t3.1].length) * 8 ≤ 140737488355328) && decide (v.2.2.2.2.2.2.1.length + [t3.1].length ≤ 9223372036854775807)) then
    k0 (v.1, v.2.1, v.2.2.1, v.2.2.2.1, v.2.2.2.2.1, v.2.2.2.2.2.1, (v.2.2.2.2.2.2.1 ++ [t3.1]), ())
    else none
    else none
  else
  k0 (v.1, v.2.1, v.2.2.1, v.2.2.2.1, v.2.2.2.2.1, v.2.2.2.2.2.1, v.2.2.2.2.2.2.1, ())
  else none
noncomputable def f744p0S (k : Nat) := partSum ⟨[(1, .one (.ptr 0 0)), (3, .one (.own 1)), (4, .one (.int .i64))], [(0, .var 69 [.str, .int .i64, .bool, .int .i64, .ro Y3]), (1, .row 3 (.int .i64) .plain)], 2, []⟩ ⟨[1, 3, 4], [], []⟩ fun R K v => f744p0 k (fun w => K .normal (encSt ⟨[(1, .one (.ptr 0 0)), (3, .one (.own 1)), (4, .one (.int .i64))], [(0, .var 69 [.str, .int .i64, .bool, .int .i64, .ro Y3]), (1, .row 3 (.int .i64) .plain)], 2, []⟩ w)) v
theorem f744p0O (k : Nat) : SumO P Tryz.f44 466 (f744p0S k) := pt tm (f744T k) ⟨[1, 2, 3, 4], [], []⟩ SumsOk.nil fun _ _ _ => by kernel_rfl
noncomputable def f744l1s {R : Type} (k : Nat) (rec : D149 → Option R) (k0 : List Int × Unit → Option R) (v : D149) : Option R :=
  bif (decide (v.1 < (v.2.2.2.2.2.1.length : Int))) then
    f744p0 k
      (fun (w4 : D149) =>
        rec ((IntKind.i64.wrap (w4.1 + (1 : Int))), w4.2.1, w4.2.2.1, w4.2.2.2.1, w4.2.2.2.2.1, w4.2.2.2.2.2.1, w4.2.2.2.2.2.2.1, ()))
      (v.1, v.2.1, v.2.2.1, v.2.2.2.1, v.2.2.2.2.1, v.2.2.2.2.2.1, v.2.2.2.2.2.2.1, ())
  else
  k0 (v.2.2.2.2.2.2.1, ())
noncomputable def f744l1 {R : Type} (k : Nat) (k0 : List Int × Unit → Option R) (v : D149) : Option R := iterS (fun rec v => f744l1s k rec k0 v) k v
noncomputable def f744l1S (k : Nat) := loopSum ⟨[(1, .one (.ptr 0 0)), (3, .one (.own 1)), (4, .one (.int .i64))], [(0, .var 69 [.str, .int .i64, .bool, .int .i64, .ro Y3]), (1, .row 3 (.int .i64) .plain)], 2, []⟩ ⟨[1, 3, 4], [(3, 3, (.int .i64))], []⟩ k fun R rec K v => f744l1s k rec (fun w => K (.exit 0) (encSt ⟨[(3, .one (.own 0))], [(0, .row 3 (.int .i64) .plain)], 1, []⟩ w)) v
theorem f744l1O (k : Nat) : SumO P Tryz.f44 58 (f744l1S k) := lp tm (f744T k) ⟨[2, 3], [], []⟩ (SumsOk.nil |>.s (f744p0O k) (by kernel_rfl)) (by kernel_rfl) fun _ _ _ _ => by kernel_rfl
noncomputable def f744F (k : Nat) (x : D6) : Option (List Int) :=
  f744l1 k
    (fun (w5 : List Int × Unit) =>
      some w5.1)
    ((0 : Int), x.1, x.2.1, x.2.2.1, x.2.2.2.1, x.2.2.2.2, [], ())
theorem f744Ok (k : Nat) : FnV P 44 [.agg (.pair .str Y5)] [.own 3 (.int .i64)] (f744F k) :=
  fs tm (f744T k) Tryz.func44 (by kernel_rfl) (SumsOk.nil |>.s (f744l1O k) (by kernel_rfl) |>.s (f744p0O k) (by kernel_rfl)) none fun _ => by kernel_rfl
/-! ## midrange/midrangebase.Ints -/
noncomputable def f743l0s {R : Type} (k : Nat) (rec : D150 → Option R) (k0 : Bool × Unit → Option R) (k1 : Unit → Option R) (v : D150) : Option R :=
  bif (decide (v.2.2.1 < (v.1.length : Int))) then
    bif ((decide ((0 : Int) ≤ v.2.2.1)) && (decide (v.2.2.1 < (v.1.length : Int)))) then
    bif ((decide ((0 : Int) ≤ v.2.2.1)) && (decide (v.2.2.1 < (v.2.1.length : Int)))) then
    let t1 := ((v.1.getD (Int.toNat v.2.2.1) (0 : Int)) != (v.2.1.getD (Int.toNat v.2.2.1) (0 : Int)))
    bif t1 then
      k0 (false, ())
    else
    rec (v.1, v.2.1, (IntKind.i64.wrap (v.2.2.1 + (1 : Int))), ())
    else none
    else none
  else
  k1 (())
noncomputable def f743l0 {R : Type} (k : Nat) (k0 : Bool × Unit → Option R) (k1 : Unit → Option R) (v : D150) : Option R := iterS (fun rec v => f743l0s k rec k0 k1 v) k v
noncomputable def f743l0S (k : Nat) := loopSum ⟨[(0, .one (.ro (.int .i64))), (1, .one (.ro (.int .i64))), (5, .one (.int .i64))], [], 0, []⟩ ⟨[0, 1, 5], [], []⟩ k fun R rec K v => f743l0s k rec (fun w => K .ret (encSt ⟨[(4, .one (.bool))], [], 0, []⟩ w)) (fun w => K (.exit 0) (encSt ⟨[], [], 0, []⟩ w)) v
theorem f743l0O (k : Nat) : SumO P Tryz.f43 58 (f743l0S k) := lp tm TB.nil ⟨[4], [], []⟩ SumsOk.nil (by kernel_rfl) fun _ _ _ _ => by kernel_rfl
noncomputable def f743F (k : Nat) (x : (List Int) × (List Int)) : Option (Bool) :=
  bif ((x.1.length : Int) != (x.2.length : Int)) then
    some false
  else
  f743l0 k
    (fun (w2 : Bool × Unit) =>
      some w2.1)
    (fun (w3 : Unit) =>
      some true)
    (x.1, x.2, (0 : Int), ())
theorem f743Ok (k : Nat) : FnV P 43 [.dat (.slice (.int .i64)), .dat (.slice (.int .i64))] [.dat .bool] (f743F k) :=
  fs tm TB.nil Tryz.func43 (by kernel_rfl) (SumsOk.nil |>.s (f743l0O k) (by kernel_rfl)) none fun _ => by kernel_rfl
/-! ## midrange/midrangelaw18.MessagesSystems -/
noncomputable def f710T (k : Nat) : TB P := TB.nil |>.u (f744Ok k) |>.u (f743Ok k) |>.u (f742Ok k) |>.u (f741Ok k) |>.u (f740Ok k) |>.u (f739Ok k) |>.u (f731Ok k) |>.p (f716Ok k) |>.u (f713Ok k) |>.u (f712Ok k)
noncomputable def f710F (k : Nat) (x : D14 × ByteArray) : Option (Bool) :=
  Option.bind (f712F k ()) fun y1 =>
  bif (!y1) then
    some false
  else
  Option.bind (f713F k (x.1.1, x.1.2)) fun y2 =>
  bif (!y2) then
    some true
  else
  Option.bind (f716F k (x.1.1, x.1.2)) fun y3 =>
  Option.bind (f739F k (y3.1, y3.2)) fun y4 =>
  Option.bind (f716F k (x.1.1, x.1.2)) fun y5 =>
  Option.bind (f740F k ((y5.1, y5.2), x.2)) fun y6 =>
  Option.bind (f741F k (x.1.1, x.1.2)) fun y7 =>
  bif (y4.2 != y7.2) then
    some false
  else
  bif (y4.1 != y7.1) then
    some false
  else
  Option.bind (f742F k ((x.1.1, x.1.2), x.2)) fun y8 =>
  bif (y8 != (0 : Int)) then
    bif (y6.2 == y8) then
      some ((y6.1.length : Int) == (0 : Int))
    else
    some false
  else
  bif (y6.2 == (0 : Int)) then
    Option.bind (f731F k ((x.1.1, x.1.2), x.2)) fun y9 =>
    bif ((decide ((0 : Int) ≤ y9)) && (decide (y9 < (x.1.2.length : Int)))) then
    let t10 := (x.1.2.getD (Int.toNat y9) (ByteArray.empty, ((0 : Int), (false, ((0 : Int), [])))))
    Option.bind (f744F k (t10.1, (t10.2.1, (t10.2.2.1, (t10.2.2.2.1, t10.2.2.2.2))))) fun y11 =>
    Option.bind (f743F k (y6.1, y11)) fun y12 =>
    some y12
    else none
  else
  some false
theorem f710Ok (k : Nat) : FnV P 10 [.agg Y11, .dat .str] [.dat .bool] (f710F k) :=
  fs tm (f710T k) Tryz.func10 (by kernel_rfl) SumsOk.nil none fun _ => by kernel_rfl
end Go.Proofs.YthcmomgkfjjajaaGreatDoor
