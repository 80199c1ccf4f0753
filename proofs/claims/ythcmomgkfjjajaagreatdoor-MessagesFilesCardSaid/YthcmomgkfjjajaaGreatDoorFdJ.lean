/- What functions of the program compute: each as a plain Lean function, and that the code comes to it. Printed by gen.py. -/
import Derived.Test.YthcmomgkfjjajaaGreatDoorFcJ
import Derived.Test.YthcmomgkfjjajaaGreatDoorProg
/-! Printed by gen.py: what functions compute. -/
set_option linter.unusedVariables false
set_option maxRecDepth 100000
namespace Go.Proofs.YthcmomgkfjjajaaGreatDoor
open Go.Ab
/-! ## midrange/midrangelaw18.fewParts -/
noncomputable def f735l0s {R : Type} (k : Nat) (rec : D127 → Option R) (k0 : Bool × Unit → Option R) (k1 : Unit → Option R) (v : D127) : Option R :=
  bif (decide (v.1 < (v.2.2.2.2.2.2.2.1.length : Int))) then
    bif ((decide ((0 : Int) ≤ v.1)) && (decide (v.1 < (v.2.2.2.2.2.2.2.1.length : Int)))) then
    let t1 := (decide (((v.2.2.2.2.2.2.2.1.getD (Int.toNat v.1) ByteArray.empty).size : Int) > (100 : Int)))
    bif t1 then
      k0 (false, ())
    else
    rec ((IntKind.i64.wrap (v.1 + (1 : Int))), v.2.1, v.2.2.1, v.2.2.2.1, v.2.2.2.2.1, v.2.2.2.2.2.1, v.2.2.2.2.2.2.1, v.2.2.2.2.2.2.2.1, ())
    else none
  else
  k1 (())
noncomputable def f735l0 {R : Type} (k : Nat) (k0 : Bool × Unit → Option R) (k1 : Unit → Option R) (v : D127) : Option R := iterS (fun rec v => f735l0s k rec k0 k1 v) k v
noncomputable def f735l0S (k : Nat) := loopSum ⟨[(1, .one (.ptr 0 0)), (3, .one (.int .i64))], [(0, .var 82 [.str, .int .i64, .str, .str, .ro (.pair (.int .i64) Y6), .str, .ro .str])], 1, []⟩ ⟨[1, 3], [], []⟩ k fun R rec K v => f735l0s k rec (fun w => K .ret (encSt ⟨[(2, .one (.bool))], [], 0, []⟩ w)) (fun w => K (.exit 0) (encSt ⟨[], [], 0, []⟩ w)) v
theorem f735l0O (k : Nat) : SumO P Tryz.f35 58 (f735l0S k) := lp tm TB.nil ⟨[2], [], []⟩ SumsOk.nil (by kernel_rfl) fun _ _ _ _ => by kernel_rfl
noncomputable def f735F (k : Nat) (x : D13) : Option (Bool) :=
  bif (decide ((x.2.2.2.2.1.length : Int) > (12 : Int))) then
    some false
  else
  bif (decide ((x.2.2.2.2.2.2.length : Int) > (12 : Int))) then
    some false
  else
  bif (decide ((x.2.2.1.size : Int) > (400 : Int))) then
    some false
  else
  bif (decide ((x.2.2.2.1.size : Int) > (400 : Int))) then
    some false
  else
  bif (decide ((x.2.2.2.2.2.1.size : Int) > (100 : Int))) then
    some false
  else
  f735l0 k
    (fun (w2 : Bool × Unit) =>
      some w2.1)
    (fun (w3 : Unit) =>
      some true)
    ((0 : Int), x.1, x.2.1, x.2.2.1, x.2.2.2.1, x.2.2.2.2.1, x.2.2.2.2.2.1, x.2.2.2.2.2.2, ())
theorem f735Ok (k : Nat) : FnV P 35 [.agg Y10] [.dat .bool] (f735F k) :=
  fs tm TB.nil Tryz.func35 (by kernel_rfl) (SumsOk.nil |>.s (f735l0O k) (by kernel_rfl)) none fun _ => by kernel_rfl
/-! ## midrange/midrangelaw18.fewDescs -/
noncomputable def f745T (k : Nat) : TB P := TB.nil |>.u (f735Ok k)
noncomputable def f745l0s {R : Type} (k : Nat) (rec : List D13 × Int × Unit → Option R) (k0 : Bool × Unit → Option R) (k1 : Unit → Option R) (v : List D13 × Int × Unit) : Option R :=
  bif (decide (v.2.1 < (v.1.length : Int))) then
    bif ((decide ((0 : Int) ≤ v.2.1)) && (decide (v.2.1 < (v.1.length : Int)))) then
    let t1 := (v.1.getD (Int.toNat v.2.1) (ByteArray.empty, ((0 : Int), (ByteArray.empty, (ByteArray.empty, ([], (ByteArray.empty, [])))))))
    Option.bind (f735F k (t1.1, (t1.2.1, (t1.2.2.1, (t1.2.2.2.1, (t1.2.2.2.2.1, (t1.2.2.2.2.2.1, t1.2.2.2.2.2.2))))))) fun y2 =>
    bif (!y2) then
      k0 (false, ())
    else
    rec (v.1, (IntKind.i64.wrap (v.2.1 + (1 : Int))), ())
    else none
  else
  k1 (())
noncomputable def f745l0 {R : Type} (k : Nat) (k0 : Bool × Unit → Option R) (k1 : Unit → Option R) (v : List D13 × Int × Unit) : Option R := iterS (fun rec v => f745l0s k rec k0 k1 v) k v
noncomputable def f745l0S (k : Nat) := loopSum ⟨[(0, .one (.ro Y10)), (3, .one (.int .i64))], [], 0, []⟩ ⟨[0, 3], [], []⟩ k fun R rec K v => f745l0s k rec (fun w => K .ret (encSt ⟨[(2, .one (.bool))], [], 0, []⟩ w)) (fun w => K (.exit 0) (encSt ⟨[], [], 0, []⟩ w)) v
theorem f745l0O (k : Nat) : SumO P Tryz.f45 58 (f745l0S k) := lp tm (f745T k) ⟨[2], [], []⟩ SumsOk.nil (by kernel_rfl) fun _ _ _ _ => by kernel_rfl
noncomputable def f745F (k : Nat) (x : (List D13)) : Option (Bool) :=
  bif (decide ((x.length : Int) > (21 : Int))) then
    some false
  else
  f745l0 k
    (fun (w3 : Bool × Unit) =>
      some w3.1)
    (fun (w4 : Unit) =>
      some true)
    (x, (0 : Int), ())
theorem f745Ok (k : Nat) : FnV P 45 [.dat (.slice Y10)] [.dat .bool] (f745F k) :=
  fs tm (f745T k) Tryz.func45 (by kernel_rfl) (SumsOk.nil |>.s (f745l0O k) (by kernel_rfl)) none fun _ => by kernel_rfl
/-! ## midrange/midrangebase.CopyStrings -/
noncomputable def f777F (k : Nat) (x : (List ByteArray)) : Option (List ByteArray) :=
  bif (decide ((([] : List ByteArray).length + x.length) * 16 ≤ 140737488355328) && decide (([] : List ByteArray).length + x.length ≤ 9223372036854775807)) then
  some ([] ++ x)
  else none
theorem f777Ok (k : Nat) : FnV P 77 [.dat (.slice .str)] [.own 9 .str] (f777F k) :=
  fs tm TB.nil Tryz.func77 (by kernel_rfl) SumsOk.nil none fun _ => by kernel_rfl
/-! ## midrange/midrangeref18.OwnFile -/
noncomputable def f736T (k : Nat) : TB P := TB.nil |>.u (f777Ok k)
noncomputable def f736l0s {R : Type} (k : Nat) (rec : D128 → Option R) (k0 : List D13 × Unit → Option R) (v : D128) : Option R :=
  bif (decide (v.2.1 < (v.1.length : Int))) then
    bif ((decide ((0 : Int) ≤ v.2.1)) && (decide (v.2.1 < (v.1.length : Int)))) then
    let t1 := (v.1.getD (Int.toNat v.2.1) (ByteArray.empty, ((0 : Int), (ByteArray.empty, (ByteArray.empty, ([], (ByteArray.empty, [])))))))
    bif (decide ((([] : List (Int × (Int × Int))).length + t1.2.2.2.2.1.length) * 24 ≤ 140737488355328) && decide (([] : List (Int × (Int × Int))).length + t1.2.2.2.2.1.length ≤ 9223372036854775807)) then
    Option.bind (f777F k t1.2.2.2.2.2.2) fun y2 =>
    let t3 := [(t1.1, (t1.2.1, (t1.2.2.1, (t1.2.2.2.1, (([] ++ t1.2.2.2.2.1), (t1.2.2.2.2.2.1, y2))))))]
    bif (decide ((v.2.2.1.length + t3.length) * 120 ≤ 140737488355328) && decide (v.2.2.1.length + t3.length ≤ 9223372036854775807)) then
    rec (v.1, (IntKind.i64.wrap (v.2.1 + (1 : Int))), (v.2.2.1 ++ t3), ())
    else none
    else none
    else none
  else
  k0 (v.2.2.1, ())
noncomputable def f736l0 {R : Type} (k : Nat) (k0 : List D13 × Unit → Option R) (v : D128) : Option R := iterS (fun rec v => f736l0s k rec k0 v) k v
noncomputable def f736l0S (k : Nat) := loopSum ⟨[(0, .one (.ro Y10)), (3, .one (.own 0)), (4, .one (.int .i64))], [(0, .row 82 Y10 .plain)], 1, []⟩ ⟨[0, 3, 4], [(3, 82, Y10)], []⟩ k fun R rec K v => f736l0s k rec (fun w => K (.exit 0) (encSt ⟨[(3, .one (.own 0))], [(0, .row 82 Y10 .plain)], 1, []⟩ w)) v
theorem f736l0O (k : Nat) : SumO P Tryz.f36 58 (f736l0S k) := lp tm (f736T k) ⟨[2, 3], [], []⟩ SumsOk.nil (by kernel_rfl) fun _ _ _ _ => by kernel_rfl
noncomputable def f736F (k : Nat) (x : (List D13)) : Option (List D13) :=
  f736l0 k
    (fun (w4 : List D13 × Unit) =>
      some w4.1)
    (x, (0 : Int), [], ())
theorem f736Ok (k : Nat) : FnV P 36 [.dat (.slice Y10)] [.own 82 Y10] (f736F k) :=
  fs tm (f736T k) Tryz.func36 (by kernel_rfl) (SumsOk.nil |>.s (f736l0O k) (by kernel_rfl)) none fun _ => by kernel_rfl
/-! ## midrange/messages.fileErr -/
noncomputable def f778T (k : Nat) : TB P := TB.nil |>.u (f746Ok k)
noncomputable def f778F (k : Nat) (x : (List D13)) : Option (Int) :=
  Option.bind (f746F k x) fun y1 =>
  some y1.2
theorem f778Ok (k : Nat) : FnV P 78 [.dat (.slice Y10)] [.dat (.int .i64)] (f778F k) :=
  fs tm (f778T k) Tryz.func78 (by kernel_rfl) SumsOk.nil none fun _ => by kernel_rfl
/-! ## midrange/messages.FindDesc -/
noncomputable def f747T (k : Nat) : TB P := TB.nil |>.u (f790Ok k) |>.u (f778Ok k)
noncomputable def f747F (k : Nat) (x : (List D13) × ByteArray) : Option (Int × Int) :=
  Option.bind (f778F k x.1) fun y1 =>
  bif (y1 != (0 : Int)) then
    some ((0 : Int), y1)
  else
  Option.bind (f790F k (x.1, x.2)) fun y2 =>
  bif (decide (y2 < (0 : Int))) then
    some ((0 : Int), (11 : Int))
  else
  some (y2, (0 : Int))
theorem f747Ok (k : Nat) : FnV P 47 [.dat (.slice Y10), .dat .str] [.dat (.int .i64), .dat (.int .i64)] (f747F k) :=
  fs tm (f747T k) Tryz.func47 (by kernel_rfl) SumsOk.nil none fun _ => by kernel_rfl
/-! ## midrange/midrangebase.IsUpper -/
noncomputable def f813F (k : Nat) (x : Int) : Option (Bool) :=
  bif (decide ((65 : Int) ≤ x)) then
    some (decide (x ≤ (90 : Int)))
  else
  some false
theorem f813Ok (k : Nat) : FnV P 113 [.dat (.int .u8)] [.dat .bool] (f813F k) :=
  fs tm TB.nil Tryz.func113 (by kernel_rfl) SumsOk.nil none fun _ => by kernel_rfl
/-! ## midrange/midrangebase.IsDigit -/
noncomputable def f814F (k : Nat) (x : Int) : Option (Bool) :=
  bif (decide ((48 : Int) ≤ x)) then
    some (decide (x ≤ (57 : Int)))
  else
  some false
theorem f814Ok (k : Nat) : FnV P 114 [.dat (.int .u8)] [.dat .bool] (f814F k) :=
  fs tm TB.nil Tryz.func114 (by kernel_rfl) SumsOk.nil none fun _ => by kernel_rfl
/-! ## midrange/midrangeref18.IsID -/
noncomputable def f791T (k : Nat) : TB P := TB.nil |>.u (f814Ok k) |>.u (f813Ok k)
noncomputable def f791p0 {R : Type} (k : Nat) (k0 : D129 → Option R) (k1 : ByteArray × Int × Unit → Option R) (v : ByteArray × Int × Unit) : Option R :=
  bif ((decide ((0 : Int) ≤ v.2.1)) && (decide (v.2.1 < (v.1.size : Int)))) then
  Option.bind (f814F k (bt v.1 v.2.1)) fun y2 =>
  bif (!y2) then
    bif (decide (v.2.1 < (3 : Int))) then
      Option.bind (f813F k (bt v.1 v.2.1)) fun y3 =>
      bif (!y3) then
        k0 (v.1, false, v.2.1, ())
      else
      bif (decide (v.2.1 ≥ (3 : Int))) then
        bif (decide ((bt v.1 v.2.1) < (65 : Int))) then
          k0 (v.1, false, v.2.1, ())
        else
        bif (decide ((bt v.1 v.2.1) > (70 : Int))) then
          k0 (v.1, false, v.2.1, ())
        else
        k1 (v.1, v.2.1, ())
      else
      k1 (v.1, v.2.1, ())
    else
    bif (decide (v.2.1 ≥ (3 : Int))) then
      bif (decide ((bt v.1 v.2.1) < (65 : Int))) then
        k0 (v.1, false, v.2.1, ())
      else
      bif (decide ((bt v.1 v.2.1) > (70 : Int))) then
        k0 (v.1, false, v.2.1, ())
      else
      k1 (v.1, v.2.1, ())
    else
    k1 (v.1, v.2.1, ())
  else
  k1 (v.1, v.2.1, ())
  else none
noncomputable def f791p0S (k : Nat) := partSum ⟨[(0, .one (.str)), (3, .one (.int .i64))], [], 0, []⟩ ⟨[0, 3], [], []⟩ fun R K v => f791p0 k (fun w => K .ret (encSt ⟨[(0, .one (.str)), (2, .one (.bool)), (3, .one (.int .i64))], [], 0, []⟩ w)) (fun w => K .normal (encSt ⟨[(0, .one (.str)), (3, .one (.int .i64))], [], 0, []⟩ w)) v
theorem f791p0O (k : Nat) : SumO P Tryz.f91 466 (f791p0S k) := pt tm (f791T k) ⟨[0, 2, 3], [], []⟩ SumsOk.nil fun _ _ _ => by kernel_rfl
noncomputable def f791l1s {R : Type} (k : Nat) (rec : ByteArray × Int × Unit → Option R) (k0 : Bool × Unit → Option R) (k1 : Unit → Option R) (v : ByteArray × Int × Unit) : Option R :=
  bif (decide (v.2.1 < (7 : Int))) then
    f791p0 k
      (fun (w4 : D129) =>
        k0 (w4.2.1, ()))
      (fun (w5 : ByteArray × Int × Unit) =>
        rec (w5.1, (IntKind.i64.wrap (w5.2.1 + (1 : Int))), ()))
      (v.1, v.2.1, ())
  else
  k1 (())
noncomputable def f791l1 {R : Type} (k : Nat) (k0 : Bool × Unit → Option R) (k1 : Unit → Option R) (v : ByteArray × Int × Unit) : Option R := iterS (fun rec v => f791l1s k rec k0 k1 v) k v
noncomputable def f791l1S (k : Nat) := loopSum ⟨[(0, .one (.str)), (3, .one (.int .i64))], [], 0, []⟩ ⟨[0, 3], [], []⟩ k fun R rec K v => f791l1s k rec (fun w => K .ret (encSt ⟨[(2, .one (.bool))], [], 0, []⟩ w)) (fun w => K (.exit 0) (encSt ⟨[], [], 0, []⟩ w)) v
theorem f791l1O (k : Nat) : SumO P Tryz.f91 58 (f791l1S k) := lp tm (f791T k) ⟨[2], [], []⟩ (SumsOk.nil |>.s (f791p0O k) (by kernel_rfl)) (by kernel_rfl) fun _ _ _ _ => by kernel_rfl
noncomputable def f791F (k : Nat) (x : ByteArray) : Option (Bool) :=
  bif ((x.size : Int) != (7 : Int)) then
    some false
  else
  bif (decide ((0 : Int) < (x.size : Int))) then
  Option.bind (f813F k (bt x (0 : Int))) fun y1 =>
  bif (!y1) then
    some false
  else
  f791l1 k
    (fun (w6 : Bool × Unit) =>
      some w6.1)
    (fun (w7 : Unit) =>
      some true)
    (x, (1 : Int), ())
  else none
theorem f791Ok (k : Nat) : FnV P 91 [.dat .str] [.dat .bool] (f791F k) :=
  fs tm (f791T k) Tryz.func91 (by kernel_rfl) (SumsOk.nil |>.s (f791l1O k) (by kernel_rfl) |>.s (f791p0O k) (by kernel_rfl)) none fun _ => by kernel_rfl
/-! ## midrange/midrangebase.Within -/
noncomputable def f48F (k : Nat) (x : Int × Int × Int) : Option (Bool) :=
  bif (decide (x.2.1 ≤ x.1)) then
    some (decide (x.1 ≤ x.2.2))
  else
  some false
theorem f48Ok (k : Nat) : FnV P 65 [.dat (.int .i64), .dat (.int .i64), .dat (.int .i64)] [.dat .bool] (f48F k) :=
  fs tm TB.nil Tryz.func65 (by kernel_rfl) SumsOk.nil none fun _ => by kernel_rfl
/-! ## midrange/midrangeref18.IsText -/
noncomputable def f756l0s {R : Type} (k : Nat) (rec : ByteArray × Int × Unit → Option R) (k0 : Bool × Unit → Option R) (k1 : Unit → Option R) (v : ByteArray × Int × Unit) : Option R :=
  bif (decide (v.2.1 < (v.1.size : Int))) then
    bif ((decide ((0 : Int) ≤ v.2.1)) && (decide (v.2.1 < (v.1.size : Int)))) then
    bif (decide ((bt v.1 v.2.1) < (32 : Int))) then
      k0 (false, ())
    else
    bif ((decide ((0 : Int) ≤ v.2.1)) && (decide (v.2.1 < (v.1.size : Int)))) then
    bif (decide ((bt v.1 v.2.1) > (126 : Int))) then
      k0 (false, ())
    else
    rec (v.1, (IntKind.i64.wrap (v.2.1 + (1 : Int))), ())
    else none
    else none
  else
  k1 (())
noncomputable def f756l0 {R : Type} (k : Nat) (k0 : Bool × Unit → Option R) (k1 : Unit → Option R) (v : ByteArray × Int × Unit) : Option R := iterS (fun rec v => f756l0s k rec k0 k1 v) k v
noncomputable def f756l0S (k : Nat) := loopSum ⟨[(0, .one (.str)), (3, .one (.int .i64))], [], 0, []⟩ ⟨[0, 3], [], []⟩ k fun R rec K v => f756l0s k rec (fun w => K .ret (encSt ⟨[(2, .one (.bool))], [], 0, []⟩ w)) (fun w => K (.exit 0) (encSt ⟨[], [], 0, []⟩ w)) v
theorem f756l0O (k : Nat) : SumO P Tryz.f56 26 (f756l0S k) := lp tm TB.nil ⟨[2], [], []⟩ SumsOk.nil (by kernel_rfl) fun _ _ _ _ => by kernel_rfl
noncomputable def f756F (k : Nat) (x : ByteArray) : Option (Bool) :=
  f756l0 k
    (fun (w1 : Bool × Unit) =>
      some w1.1)
    (fun (w2 : Unit) =>
      some true)
    (x, (0 : Int), ())
theorem f756Ok (k : Nat) : FnV P 56 [.dat .str] [.dat .bool] (f756F k) :=
  fs tm TB.nil Tryz.func56 (by kernel_rfl) (SumsOk.nil |>.s (f756l0O k) (by kernel_rfl)) none fun _ => by kernel_rfl
/-! ## midrange/midrangebase.IsDataType -/
noncomputable def f820T (k : Nat) : TB P := TB.nil |>.u (f48Ok k)
noncomputable def f820p0 {R : Type} (k : Nat) (k0 : D130 → Option R) (v : D131) : Option R :=
  bif (v.1 == (1 : Int)) then
    k0 (v.1, (v.1 == (1 : Int)), v.2.1, v.2.2.1, v.2.2.2.1, ())
  else
  k0 (v.1, (v.1 == (2 : Int)), v.2.1, v.2.2.1, v.2.2.2.1, ())
noncomputable def f820p0S (k : Nat) := partSum ⟨[(1, .one (.ptr 0 0)), (4, .one (.int .i64))], [(0, .var 115 [.int .i64, .int .i64, .int .i64])], 1, []⟩ ⟨[1, 4], [], []⟩ fun R K v => f820p0 k (fun w => K .normal (encSt ⟨[(1, .one (.ptr 0 0)), (4, .one (.int .i64)), (15, .one (.bool))], [(0, .var 115 [.int .i64, .int .i64, .int .i64])], 1, []⟩ w)) v
theorem f820p0O (k : Nat) : SumO P Tryz.f120 214 (f820p0S k) := pt tm (f820T k) ⟨[1, 2, 4, 15], [], []⟩ SumsOk.nil fun _ _ _ => by kernel_rfl
noncomputable def f820F (k : Nat) (x : (Int × (Int × Int))) : Option (Bool) :=
  bif (x.1 == (0 : Int)) then
    Option.bind (f48F k (x.2.1, (1 : Int), (256 : Int))) fun y1 =>
    bif y1 then
      some (x.2.2 == (0 : Int))
    else
    some false
  else
  f820p0 k
    (fun (w2 : D130) =>
      bif w2.2.1 then
        Option.bind (f48F k (w2.2.2.2.1, (1 : Int), (15 : Int))) fun y3 =>
        bif y3 then
          Option.bind (f48F k (w2.2.2.2.2.1, (0 : Int), w2.2.2.2.1)) fun y4 =>
          some y4
        else
        some false
      else
      bif (w2.1 == (3 : Int)) then
        bif (w2.2.2.2.1 == (4 : Int)) then
          Option.bind (f48F k (w2.2.2.2.2.1, (0 : Int), w2.2.2.2.1)) fun y5 =>
          some y5
        else
        bif (w2.2.2.2.1 == (9 : Int)) then
          Option.bind (f48F k (w2.2.2.2.2.1, (0 : Int), w2.2.2.2.1)) fun y6 =>
          some y6
        else
        some false
      else
      bif (w2.2.2.1 == (4 : Int)) then
        bif (w2.2.2.2.1 == (0 : Int)) then
          some (w2.2.2.2.2.1 == (0 : Int))
        else
        some false
      else
      some false)
    (x.1, x.1, x.2.1, x.2.2, ())
theorem f820Ok (k : Nat) : FnV P 120 [.agg (.pair (.int .i64) Y6)] [.dat .bool] (f820F k) :=
  fs tm (f820T k) Tryz.func120 (by kernel_rfl) (SumsOk.nil |>.s (f820p0O k) (by kernel_rfl)) none fun _ => by kernel_rfl
/-! ## midrange/midrangebase.IndexOfString -/
noncomputable def f773l0s {R : Type} (k : Nat) (rec : D132 → Option R) (k0 : Int × Unit → Option R) (k1 : Unit → Option R) (v : D132) : Option R :=
  bif (decide (v.2.2.1 < (v.1.length : Int))) then
    bif ((decide ((0 : Int) ≤ v.2.2.1)) && (decide (v.2.2.1 < (v.1.length : Int)))) then
    bif (strEq (v.1.getD (Int.toNat v.2.2.1) ByteArray.empty) v.2.1) then
      k0 (v.2.2.1, ())
    else
    rec (v.1, v.2.1, (IntKind.i64.wrap (v.2.2.1 + (1 : Int))), ())
    else none
  else
  k1 (())
noncomputable def f773l0 {R : Type} (k : Nat) (k0 : Int × Unit → Option R) (k1 : Unit → Option R) (v : D132) : Option R := iterS (fun rec v => f773l0s k rec k0 k1 v) k v
noncomputable def f773l0S (k : Nat) := loopSum ⟨[(0, .one (.ro .str)), (1, .one (.str)), (5, .one (.int .i64))], [], 0, []⟩ ⟨[0, 1, 5], [], []⟩ k fun R rec K v => f773l0s k rec (fun w => K .ret (encSt ⟨[(4, .one (.int .i64))], [], 0, []⟩ w)) (fun w => K (.exit 0) (encSt ⟨[], [], 0, []⟩ w)) v
theorem f773l0O (k : Nat) : SumO P Tryz.f73 26 (f773l0S k) := lp tm TB.nil ⟨[4], [], []⟩ SumsOk.nil (by kernel_rfl) fun _ _ _ _ => by kernel_rfl
noncomputable def f773F (k : Nat) (x : D24) : Option (Int) :=
  f773l0 k
    (fun (w1 : Int × Unit) =>
      some w1.1)
    (fun (w2 : Unit) =>
      some (-1 : Int))
    (x.1, x.2, (0 : Int), ())
theorem f773Ok (k : Nat) : FnV P 73 [.dat (.slice .str), .dat .str] [.dat (.int .i64)] (f773F k) :=
  fs tm TB.nil Tryz.func73 (by kernel_rfl) (SumsOk.nil |>.s (f773l0O k) (by kernel_rfl)) none fun _ => by kernel_rfl
/-! ## midrange/midrangeref18.descErr -/
noncomputable def f792T (k : Nat) : TB P := TB.nil |>.u (f820Ok k) |>.u (f773Ok k) |>.u (f48Ok k) |>.u (f756Ok k)
noncomputable def f792l0s {R : Type} (k : Nat) (rec : D127 → Option R) (k0 : D127 → Option R) (k1 : D133 → Option R) (v : D127) : Option R :=
  bif (decide (v.1 < (v.2.2.2.2.2.1.length : Int))) then
    bif ((decide ((0 : Int) ≤ v.1)) && (decide (v.1 < (v.2.2.2.2.2.1.length : Int)))) then
    let t4 := (v.2.2.2.2.2.1.getD (Int.toNat v.1) ((0 : Int), ((0 : Int), (0 : Int))))
    Option.bind (f820F k (t4.1, (t4.2.1, t4.2.2))) fun y5 =>
    bif (!y5) then
      k0 ((17 : Int), v.2.1, v.2.2.1, v.2.2.2.1, v.2.2.2.2.1, v.2.2.2.2.2.1, v.2.2.2.2.2.2.1, v.2.2.2.2.2.2.2.1, ())
    else
    bif ((decide ((0 : Int) ≤ v.1)) && (decide (v.1 < (v.2.2.2.2.2.1.length : Int)))) then
    let t6 := (v.2.2.2.2.2.1.getD (Int.toNat v.1) ((0 : Int), ((0 : Int), (0 : Int))))
    bif (t6.1 == (4 : Int)) then
      k0 ((17 : Int), v.2.1, v.2.2.1, v.2.2.2.1, v.2.2.2.2.1, v.2.2.2.2.2.1, v.2.2.2.2.2.2.1, v.2.2.2.2.2.2.2.1, ())
    else
    rec ((IntKind.i64.wrap (v.1 + (1 : Int))), v.2.1, v.2.2.1, v.2.2.2.1, v.2.2.2.2.1, v.2.2.2.2.2.1, v.2.2.2.2.2.2.1, v.2.2.2.2.2.2.2.1, ())
    else none
    else none
  else
  k1 (v.2.1, v.2.2.1, v.2.2.2.1, v.2.2.2.2.1, v.2.2.2.2.2.1, v.2.2.2.2.2.2.1, v.2.2.2.2.2.2.2.1, ())
noncomputable def f792l0 {R : Type} (k : Nat) (k0 : D127 → Option R) (k1 : D133 → Option R) (v : D127) : Option R := iterS (fun rec v => f792l0s k rec k0 k1 v) k v
noncomputable def f792l0S (k : Nat) := loopSum ⟨[(1, .one (.ptr 0 0)), (3, .one (.int .i64))], [(0, .var 82 [.str, .int .i64, .str, .str, .ro (.pair (.int .i64) Y6), .str, .ro .str])], 1, []⟩ ⟨[1, 3], [], []⟩ k fun R rec K v => f792l0s k rec (fun w => K .ret (encSt ⟨[(1, .one (.ptr 0 0)), (2, .one (.int .i64))], [(0, .var 82 [.str, .int .i64, .str, .str, .ro (.pair (.int .i64) Y6), .str, .ro .str])], 1, []⟩ w)) (fun w => K (.exit 0) (encSt ⟨[(1, .one (.ptr 0 0))], [(0, .var 82 [.str, .int .i64, .str, .str, .ro (.pair (.int .i64) Y6), .str, .ro .str])], 1, []⟩ w)) v
theorem f792l0O (k : Nat) : SumO P Tryz.f92 1018 (f792l0S k) := lp tm (f792T k) ⟨[1, 2], [], []⟩ SumsOk.nil (by kernel_rfl) fun _ _ _ _ => by kernel_rfl
noncomputable def f792l1s {R : Type} (k : Nat) (rec : D127 → Option R) (k0 : Int × Unit → Option R) (k1 : Unit → Option R) (v : D127) : Option R :=
  bif (decide (v.1 < (v.2.2.2.2.2.2.2.1.length : Int))) then
    bif ((decide ((0 : Int) ≤ v.1)) && (decide (v.1 < (v.2.2.2.2.2.2.2.1.length : Int)))) then
    let t10 := (((v.2.2.2.2.2.2.2.1.getD (Int.toNat v.1) ByteArray.empty).size : Int) == (0 : Int))
    bif t10 then
      k0 ((1 : Int), ())
    else
    let t11 := (decide (((v.2.2.2.2.2.2.2.1.getD (Int.toNat v.1) ByteArray.empty).size : Int) > (32 : Int)))
    bif t11 then
      k0 ((2 : Int), ())
    else
    Option.bind (f756F k (v.2.2.2.2.2.2.2.1.getD (Int.toNat v.1) ByteArray.empty)) fun y12 =>
    bif (!y12) then
      k0 ((5 : Int), ())
    else
    bif (sliceBds (0 : Int) v.1 (v.2.2.2.2.2.2.2.1.length : Int)) then
    Option.bind (f773F k (((v.2.2.2.2.2.2.2.1.take (Int.toNat v.1)).drop 0), (v.2.2.2.2.2.2.2.1.getD (Int.toNat v.1) ByteArray.empty))) fun y13 =>
    bif (y13 != (-1 : Int)) then
      k0 ((13 : Int), ())
    else
    rec ((IntKind.i64.wrap (v.1 + (1 : Int))), v.2.1, v.2.2.1, v.2.2.2.1, v.2.2.2.2.1, v.2.2.2.2.2.1, v.2.2.2.2.2.2.1, v.2.2.2.2.2.2.2.1, ())
    else none
    else none
  else
  k1 (())
noncomputable def f792l1 {R : Type} (k : Nat) (k0 : Int × Unit → Option R) (k1 : Unit → Option R) (v : D127) : Option R := iterS (fun rec v => f792l1s k rec k0 k1 v) k v
noncomputable def f792l1S (k : Nat) := loopSum ⟨[(1, .one (.ptr 0 0)), (4, .one (.int .i64))], [(0, .var 82 [.str, .int .i64, .str, .str, .ro (.pair (.int .i64) Y6), .str, .ro .str])], 1, []⟩ ⟨[1, 4], [], []⟩ k fun R rec K v => f792l1s k rec (fun w => K .ret (encSt ⟨[(2, .one (.int .i64))], [], 0, []⟩ w)) (fun w => K (.exit 2) (encSt ⟨[], [], 0, []⟩ w)) v
theorem f792l1O (k : Nat) : SumO P Tryz.f92 16378 (f792l1S k) := lp tm (f792T k) ⟨[2], [], []⟩ SumsOk.nil (by kernel_rfl) fun _ _ _ _ => by kernel_rfl
noncomputable def f792F (k : Nat) (x : D13) : Option (Int) :=
  Option.bind (f48F k (x.2.1, (0 : Int), (99 : Int))) fun y1 =>
  bif (!y1) then
    some (3 : Int)
  else
  bif ((x.2.2.1.size : Int) == (0 : Int)) then
    some (1 : Int)
  else
  bif (decide ((x.2.2.1.size : Int) > (200 : Int))) then
    some (2 : Int)
  else
  bif (decide ((x.2.2.2.1.size : Int) > (200 : Int))) then
    some (2 : Int)
  else
  Option.bind (f756F k x.2.2.1) fun y2 =>
  bif (!y2) then
    some (5 : Int)
  else
  Option.bind (f756F k x.2.2.2.1) fun y3 =>
  bif (!y3) then
    some (5 : Int)
  else
  bif (decide ((x.2.2.2.2.1.length : Int) > (9 : Int))) then
    some (2 : Int)
  else
  f792l0 k
    (fun (w7 : D127) =>
      some w7.1)
    (fun (w8 : D133) =>
      bif (decide ((w8.2.2.2.2.2.1.size : Int) > (32 : Int))) then
        some (2 : Int)
      else
      Option.bind (f756F k w8.2.2.2.2.2.1) fun y9 =>
      bif (!y9) then
        some (5 : Int)
      else
      bif (decide ((w8.2.2.2.2.2.2.1.length : Int) > (8 : Int))) then
        some (2 : Int)
      else
      f792l1 k
        (fun (w14 : Int × Unit) =>
          some w14.1)
        (fun (w15 : Unit) =>
          some (0 : Int))
        ((0 : Int), w8.1, w8.2.1, w8.2.2.1, w8.2.2.2.1, w8.2.2.2.2.1, w8.2.2.2.2.2.1, w8.2.2.2.2.2.2.1, ()))
    ((0 : Int), x.1, x.2.1, x.2.2.1, x.2.2.2.1, x.2.2.2.2.1, x.2.2.2.2.2.1, x.2.2.2.2.2.2, ())
theorem f792Ok (k : Nat) : FnV P 92 [.agg Y10] [.dat (.int .i64)] (f792F k) :=
  fs tm (f792T k) Tryz.func92 (by kernel_rfl) (SumsOk.nil |>.s (f792l1O k) (by kernel_rfl) |>.s (f792l0O k) (by kernel_rfl)) none fun _ => by kernel_rfl
/-! ## midrange/midrangeref18.CheckFile -/
noncomputable def f748T (k : Nat) : TB P := TB.nil |>.u (f792Ok k) |>.u (f791Ok k)
noncomputable def f748p0 {R : Type} (k : Nat) (k0 : D134 → Option R) (v : List D13 × Int × Unit) : Option R :=
  bif ((decide ((0 : Int) ≤ v.2.1)) && (decide (v.2.1 < (v.1.length : Int)))) then
  let t1 := (v.1.getD (Int.toNat v.2.1) (ByteArray.empty, ((0 : Int), (ByteArray.empty, (ByteArray.empty, ([], (ByteArray.empty, [])))))))
  Option.bind (f791F k t1.1) fun y2 =>
  bif (!y2) then
    k0 (v.1, v.2.1, (7 : Int), ())
  else
  bif (decide (v.2.1 > (0 : Int))) then
    bif ((decide ((0 : Int) ≤ v.2.1)) && (decide (v.2.1 < (v.1.length : Int)))) then
    let t3 := (v.1.getD (Int.toNat v.2.1) (ByteArray.empty, ((0 : Int), (ByteArray.empty, (ByteArray.empty, ([], (ByteArray.empty, [])))))))
    bif ((decide ((0 : Int) ≤ (IntKind.i64.wrap (v.2.1 - (1 : Int))))) && (decide ((IntKind.i64.wrap (v.2.1 - (1 : Int))) < (v.1.length : Int)))) then
    let t4 := (v.1.getD (Int.toNat (IntKind.i64.wrap (v.2.1 - (1 : Int)))) (ByteArray.empty, ((0 : Int), (ByteArray.empty, (ByteArray.empty, ([], (ByteArray.empty, [])))))))
    bif (strLt t3.1 t4.1 || strEq t3.1 t4.1) then
      k0 (v.1, v.2.1, (14 : Int), ())
    else
    bif ((decide ((0 : Int) ≤ v.2.1)) && (decide (v.2.1 < (v.1.length : Int)))) then
    let t5 := (v.1.getD (Int.toNat v.2.1) (ByteArray.empty, ((0 : Int), (ByteArray.empty, (ByteArray.empty, ([], (ByteArray.empty, [])))))))
    Option.bind (f792F k (t5.1, (t5.2.1, (t5.2.2.1, (t5.2.2.2.1, (t5.2.2.2.2.1, (t5.2.2.2.2.2.1, t5.2.2.2.2.2.2))))))) fun y6 =>
    k0 (v.1, v.2.1, y6, ())
    else none
    else none
    else none
  else
  bif ((decide ((0 : Int) ≤ v.2.1)) && (decide (v.2.1 < (v.1.length : Int)))) then
  let t7 := (v.1.getD (Int.toNat v.2.1) (ByteArray.empty, ((0 : Int), (ByteArray.empty, (ByteArray.empty, ([], (ByteArray.empty, [])))))))
  Option.bind (f792F k (t7.1, (t7.2.1, (t7.2.2.1, (t7.2.2.2.1, (t7.2.2.2.2.1, (t7.2.2.2.2.2.1, t7.2.2.2.2.2.2))))))) fun y8 =>
  k0 (v.1, v.2.1, y8, ())
  else none
  else none
noncomputable def f748p0S (k : Nat) := partSum ⟨[(0, .one (.ro Y10)), (4, .one (.int .i64))], [], 0, []⟩ ⟨[0, 4], [], []⟩ fun R K v => f748p0 k (fun w => K .normal (encSt ⟨[(0, .one (.ro Y10)), (4, .one (.int .i64)), (5, .one (.int .i64))], [], 0, []⟩ w)) v
theorem f748p0O (k : Nat) : SumO P Tryz.f48 3730 (f748p0S k) := pt tm (f748T k) ⟨[0, 2, 3, 4, 5], [], []⟩ SumsOk.nil fun _ _ _ => by kernel_rfl
noncomputable def f748l1s {R : Type} (k : Nat) (rec : List D13 × Int × Unit → Option R) (k0 : Int × Int × Unit → Option R) (k1 : Unit → Option R) (v : List D13 × Int × Unit) : Option R :=
  bif (decide (v.2.1 < (v.1.length : Int))) then
    f748p0 k
      (fun (w9 : D134) =>
        bif (w9.2.2.1 != (0 : Int)) then
          k0 (w9.2.1, w9.2.2.1, ())
        else
        rec (w9.1, (IntKind.i64.wrap (w9.2.1 + (1 : Int))), ()))
      (v.1, v.2.1, ())
  else
  k1 (())
noncomputable def f748l1 {R : Type} (k : Nat) (k0 : Int × Int × Unit → Option R) (k1 : Unit → Option R) (v : List D13 × Int × Unit) : Option R := iterS (fun rec v => f748l1s k rec k0 k1 v) k v
noncomputable def f748l1S (k : Nat) := loopSum ⟨[(0, .one (.ro Y10)), (4, .one (.int .i64))], [], 0, []⟩ ⟨[0, 4], [], []⟩ k fun R rec K v => f748l1s k rec (fun w => K .ret (encSt ⟨[(2, .one (.int .i64)), (3, .one (.int .i64))], [], 0, []⟩ w)) (fun w => K (.exit 0) (encSt ⟨[], [], 0, []⟩ w)) v
theorem f748l1O (k : Nat) : SumO P Tryz.f48 58 (f748l1S k) := lp tm (f748T k) ⟨[2, 3], [], []⟩ (SumsOk.nil |>.s (f748p0O k) (by kernel_rfl)) (by kernel_rfl) fun _ _ _ _ => by kernel_rfl
noncomputable def f748F (k : Nat) (x : (List D13)) : Option (Int × Int) :=
  bif (decide ((x.length : Int) > (20 : Int))) then
    some ((0 : Int), (2 : Int))
  else
  f748l1 k
    (fun (w10 : Int × Int × Unit) =>
      some (w10.1, w10.2.1))
    (fun (w11 : Unit) =>
      some ((0 : Int), (0 : Int)))
    (x, (0 : Int), ())
theorem f748Ok (k : Nat) : FnV P 48 [.dat (.slice Y10)] [.dat (.int .i64), .dat (.int .i64)] (f748F k) :=
  fs tm (f748T k) Tryz.func48 (by kernel_rfl) (SumsOk.nil |>.s (f748l1O k) (by kernel_rfl) |>.s (f748p0O k) (by kernel_rfl)) none fun _ => by kernel_rfl
/-! ## midrange/midrangeref18.FindDesc -/
noncomputable def f749l0s {R : Type} (k : Nat) (rec : D135 → Option R) (k0 : Int × Unit → Option R) (k1 : Unit → Option R) (v : D135) : Option R :=
  bif (decide (v.2.2.1 < (v.1.length : Int))) then
    bif ((decide ((0 : Int) ≤ v.2.2.1)) && (decide (v.2.2.1 < (v.1.length : Int)))) then
    let t1 := (v.1.getD (Int.toNat v.2.2.1) (ByteArray.empty, ((0 : Int), (ByteArray.empty, (ByteArray.empty, ([], (ByteArray.empty, [])))))))
    bif (strEq t1.1 v.2.1) then
      k0 (v.2.2.1, ())
    else
    rec (v.1, v.2.1, (IntKind.i64.wrap (v.2.2.1 + (1 : Int))), ())
    else none
  else
  k1 (())
noncomputable def f749l0 {R : Type} (k : Nat) (k0 : Int × Unit → Option R) (k1 : Unit → Option R) (v : D135) : Option R := iterS (fun rec v => f749l0s k rec k0 k1 v) k v
noncomputable def f749l0S (k : Nat) := loopSum ⟨[(0, .one (.ro Y10)), (1, .one (.str)), (5, .one (.int .i64))], [], 0, []⟩ ⟨[0, 1, 5], [], []⟩ k fun R rec K v => f749l0s k rec (fun w => K .ret (encSt ⟨[(4, .one (.int .i64))], [], 0, []⟩ w)) (fun w => K (.exit 0) (encSt ⟨[], [], 0, []⟩ w)) v
theorem f749l0O (k : Nat) : SumO P Tryz.f49 26 (f749l0S k) := lp tm TB.nil ⟨[4], [], []⟩ SumsOk.nil (by kernel_rfl) fun _ _ _ _ => by kernel_rfl
noncomputable def f749F (k : Nat) (x : (List D13) × ByteArray) : Option (Int) :=
  f749l0 k
    (fun (w2 : Int × Unit) =>
      some w2.1)
    (fun (w3 : Unit) =>
      some (-1 : Int))
    (x.1, x.2, (0 : Int), ())
theorem f749Ok (k : Nat) : FnV P 49 [.dat (.slice Y10), .dat .str] [.dat (.int .i64)] (f749F k) :=
  fs tm TB.nil Tryz.func49 (by kernel_rfl) (SumsOk.nil |>.s (f749l0O k) (by kernel_rfl)) none fun _ => by kernel_rfl
/-! ## midrange/midrangelaw18.MessagesFiles -/
noncomputable def f711T (k : Nat) : TB P := TB.nil |>.u (f749Ok k) |>.u (f748Ok k) |>.u (f747Ok k) |>.u (f746Ok k) |>.u (f745Ok k) |>.p (f736Ok k) |>.u (f712Ok k)
noncomputable def f711F (k : Nat) (x : (List D13) × ByteArray) : Option (Bool) :=
  Option.bind (f712F k ()) fun y1 =>
  bif (!y1) then
    some false
  else
  Option.bind (f745F k x.1) fun y2 =>
  bif (!y2) then
    some true
  else
  Option.bind (f736F k x.1) fun y3 =>
  Option.bind (f746F k y3) fun y4 =>
  Option.bind (f736F k x.1) fun y5 =>
  Option.bind (f747F k (y5, x.2)) fun y6 =>
  Option.bind (f748F k x.1) fun y7 =>
  bif (y4.2 != y7.2) then
    some false
  else
  bif (y4.1 != y7.1) then
    some false
  else
  bif (y7.2 != (0 : Int)) then
    bif (y6.2 == y7.2) then
      some (y6.1 == (0 : Int))
    else
    some false
  else
  Option.bind (f749F k (x.1, x.2)) fun y8 =>
  bif (y8 == (-1 : Int)) then
    bif (y6.2 == (11 : Int)) then
      bif (y6.1 == (0 : Int)) then
        some true
      else
      bif (y8 != (-1 : Int)) then
        bif (y6.2 == (0 : Int)) then
          some (y6.1 == y8)
        else
        some false
      else
      some false
    else
    bif (y8 != (-1 : Int)) then
      bif (y6.2 == (0 : Int)) then
        some (y6.1 == y8)
      else
      some false
    else
    some false
  else
  bif (y8 != (-1 : Int)) then
    bif (y6.2 == (0 : Int)) then
      some (y6.1 == y8)
    else
    some false
  else
  some false
theorem f711Ok (k : Nat) : FnV P 11 [.dat (.slice Y10), .dat .str] [.dat .bool] (f711F k) :=
  fs tm (f711T k) Tryz.func11 (by kernel_rfl) SumsOk.nil none fun _ => by kernel_rfl
end Go.Proofs.YthcmomgkfjjajaaGreatDoor
