/- What functions of the program compute: each as a plain Lean function, and that the code comes to it. Printed by gen.py. -/
import Derived.Test.YthcmomgkfjjajaaGreatDoorFcJ
import Derived.Test.YthcmomgkfjjajaaGreatDoorProg
/-! Printed by gen.py: what functions compute. -/
set_option linter.unusedVariables false
set_option maxRecDepth 100000
namespace Go.Proofs.YthcmomgkfjjajaaGreatDoor
open Go.Ab
/-! ## midrange/midrangelaw18.fewParts -/
noncomputable def f735l0s {R : Type} (k : Nat) (rec : D127 → Option R) (k0 : Bool × Unit → Option R) (k1 : Unit → Option R) (v : D127) : Option R :=
  bif (decide (v.1 < (v.2.2.2.2.2.2.2.1.length : Int))) then
    bif ((decide ((0 : Int) ≤ v.1)) && (decide (v.1 < (v.2.2.2.2.2.2.2.1.length : Int)))) then
    let t1 := (decide (((v.2.2.2.2.2.2.2.1.getD (Int.toNat v.1) ByteArray.empty).size : Int) > (100 : Int)))
    bif t1 then
      k0 (false, ())
    else
    rec ((IntKind.i64.wrap (v.1 + (1 : Int))), v.2.1, v.2.2.1, v.2.2.2.1, v.2.2.2.2.1, v.2.2.2.2.2.1, v.2.2.2.2.2.2.1, v.2.2.2.2.2.2.2.1, ())
    else none
  else
  k1 (())
noncomputable def f735l0 {R : Type} (k : Nat) (k0 : Bool × Unit → Option R) (k1 : Unit → Option R) (v : D127) : Option R := iterS (fun rec v => f735l0s k rec k0 k1 v) k v
noncomputable def f735l0S (k : Nat) := loopSum ⟨[(1, .one (.ptr 0 0)), (3, .one (.int .i64))], [(0, .var 82 [.str, .int .i64, .str, .str, .ro (.pair (.int .i64) Y6), .str, .ro .str])], 1, []⟩ ⟨[1, 3], [], []⟩ k fun R rec K v => f735l0s k rec (fun w => K .ret (encSt ⟨[(2, .one (.bool))], [], 0, []⟩ w)) (fun w => K (.exit 0) (encSt ⟨[], [], 0, []⟩ w)) v
theorem f735l0O (k : Nat) : SumO P Tryz.f35 58 (f735l0S k) := lp tm TB.nil ⟨[2], [], []⟩ SumsOk.nil (by kernel_rfl) fun _ _ _ _ => by kernel_rfl
noncomputable def f735F (k : Nat) (x : D13) : Option (Bool) :=
  bif (decide ((x.2.2.2.2.1.length : Int) > (12 : Int))) then
    some false
  else
  bif (decide ((x.2.2.2.2.2.2.length : Int) > (12 : Int))) then
    some false
  else
  bif (decide ((x.2.2.1.size : Int) > (400 : Int))) then
    some false
  else
  bif (decide ((x.2.2.2.1.size : Int) > (400 : Int))) then
    some false
  else
  bif (decide ((x.2.2.2.2.2.1.size : Int) > (100 : Int))) then
    some false
  else
  f735l0 k
    (fun (w2 : Bool × Unit) =>
      some w2.1)
    (fun (w3 : Unit) =>
      some true)
    ((0 : Int), x.1, x.2.1, x.2.2.1, x.2.2.2.1, x.2.2.2.2.1, x.2.2.2.2.2.1, x.2.2.2.2.2.2, ())
theorem f735Ok (k : Nat) : FnV P 35 [.agg Y10] [.dat .bool] (f735F k) :=
  fs tm TB.nil Tryz.func35 (by kernel_rfl) (SumsOk.nil |>.s (f735l0O k) (by kernel_rfl)) none fun _ => by kernel_rfl
/-! ## midrange/midrangebase.CopyStrings -/
noncomputable def f777F (k : Nat) (x : (List ByteArray)) : Option (List ByteArray) :=
  bif (decide ((([] : List ByteArray).length + x.length) * 16 ≤ 140737488355328) && decide (([] : List ByteArray).length + x.length ≤ 9223372036854775807)) then
  some ([] ++ x)
  else none
theorem f777Ok (k : Nat) : FnV P 77 [.dat (.slice .str)] [.own 9 .str] (f777F k) :=
  fs tm TB.nil Tryz.func77 (by kernel_rfl) SumsOk.nil none fun _ => by kernel_rfl
/-! ## midrange/midrangeref18.OwnFile -/
noncomputable def f736T (k : Nat) : TB P := TB.nil |>.u (f777Ok k)
noncomputable def f736l0s {R : Type} (k : Nat) (rec : D128 → Option R) (k0 : List D13 × Unit → Option R) (v : D128) : Option R :=
  bif (decide (v.2.1 < (v.1.length : Int))) then
    bif ((decide ((0 : Int) ≤ v.2.1)) && (decide (v.2.1 < (v.1.length : Int)))) then
    let t1 := (v.1.getD (Int.toNat v.2.1) (ByteArray.empty, ((0 : Int), (ByteArray.empty, (ByteArray.empty, ([], (ByteArray.empty, [])))))))
    bif (decide ((([] : List (Int × (Int × Int))).length + t1.2.2.2.2.1.length) * 24 ≤ 140737488355328) && decide (([] : List (Int × (Int × Int))).length + t1.2.2.2.2.1.length ≤ 9223372036854775807)) then
    Option.bind (f777F k t1.2.2.2.2.2.2) fun y2 =>
    let t3 := [(t1.1, (t1.2.1, (t1.2.2.1, (t1.2.2.2.1, (([] ++ t1.2.2.2.2.1), (t1.2.2.2.2.2.1, y2))))))]
    bif (decide ((v.2.2.1.length + t3.length) * 120 ≤ 140737488355328) && decide (v.2.2.1.length + t3.length ≤ 9223372036854775807)) then
    rec (v.1, (IntKind.i64.wrap (v.2.1 + (1 : Int))), (v.2.2.1 ++ t3), ())
    else none
    else none
    else none
  else
  k0 (v.2.2.1, ())
noncomputable def f736l0 {R : Type} (k : Nat) (k0 : List D13 × Unit → Option R) (v : D128) : Option R := iterS (fun rec v => f736l0s k rec k0 v) k v
noncomputable def f736l0S (k : Nat) := loopSum ⟨[(0, .one (.ro Y10)), (3, .one (.own 0)), (4, .one (.int .i64))], [(0, .row 82 Y10 .plain)], 1, []⟩ ⟨[0, 3, 4], [(3, 82, Y10)], []⟩ k fun R rec K v => f736l0s k rec (fun w => K (.exit 0) (encSt ⟨[(3, .one (.own 0))], [(0, .row 82 Y10 .plain)], 1, []⟩ w)) v
theorem f736l0O (k : Nat) : SumO P Tryz.f36 58 (f736l0S k) := lp tm (f736T k) ⟨[2, 3], [], []⟩ SumsOk.nil (by kernel_rfl) fun _ _ _ _ => by kernel_rfl
noncomputable def f736F (k : Nat) (x : (List D13)) : Option (List D13) :=
  f736l0 k
    (fun (w4 : List D13 × Unit) =>
      some w4.1)
    (x, (0 : Int), [], ())
theorem f736Ok (k : Nat) : FnV P 36 [.dat (.slice Y10)] [.own 82 Y10] (f736F k) :=
  fs tm (f736T k) Tryz.func36 (by kernel_rfl) (SumsOk.nil |>.s (f736l0O k) (by kernel_rfl)) none fun _ => by kernel_rfl
/-! ## midrange/messages.fileErr -/
noncomputable def f778T (k : Nat) : TB P := TB.nil |>.u (f746Ok k)
noncomputable def f778F (k : Nat) (x : (List D13)) : Option (Int) :=
  Option.bind (f746F k x) fun y1 =>
  some y1.2
theorem f778Ok (k : Nat) : FnV P 78 [.dat (.slice Y10)] [.dat (.int .i64)] (f778F k) :=
  fs tm (f778T k) Tryz.func78 (by kernel_rfl) SumsOk.nil none fun _ => by kernel_rfl
/-! ## midrange/messages.TextOf -/
noncomputable def f737T (k : Nat) : TB P := TB.nil |>.u (f779Ok k) |>.u (f778Ok k)
noncomputable def f737F (k : Nat) (x : D13 × ByteArray) : Option (D60) :=
  let t1 := [(x.1.1, (x.1.2.1, (x.1.2.2.1, (x.1.2.2.2.1, (x.1.2.2.2.2.1, (x.1.2.2.2.2.2.1, x.1.2.2.2.2.2.2))))))]
  Option.bind (f778F k t1) fun y2 =>
  bif (y2 != (0 : Int)) then
    some (ByteArray.empty, ByteArray.empty, y2)
  else
  Option.bind (f779F k ((x.1.1, (x.1.2.1, (x.1.2.2.1, (x.1.2.2.2.1, (x.1.2.2.2.2.1, (x.1.2.2.2.2.2.1, x.1.2.2.2.2.2.2)))))), x.2)) fun y3 =>
  some (y3.1, y3.2.1, y3.2.2)
theorem f737Ok (k : Nat) : FnV P 37 [.agg Y10, .dat .str] [.dat .str, .dat .str, .dat (.int .i64)] (f737F k) :=
  fs tm (f737T k) Tryz.func37 (by kernel_rfl) SumsOk.nil none fun _ => by kernel_rfl
/-! ## midrange/midrangebase.IsUpper -/
noncomputable def f813F (k : Nat) (x : Int) : Option (Bool) :=
  bif (decide ((65 : Int) ≤ x)) then
    some (decide (x ≤ (90 : Int)))
  else
  some false
theorem f813Ok (k : Nat) : FnV P 113 [.dat (.int .u8)] [.dat .bool] (f813F k) :=
  fs tm TB.nil Tryz.func113 (by kernel_rfl) SumsOk.nil none fun _ => by kernel_rfl
/-! ## midrange/midrangebase.IsDigit -/
noncomputable def f814F (k : Nat) (x : Int) : Option (Bool) :=
  bif (decide ((48 : Int) ≤ x)) then
    some (decide (x ≤ (57 : Int)))
  else
  some false
theorem f814Ok (k : Nat) : FnV P 114 [.dat (.int .u8)] [.dat .bool] (f814F k) :=
  fs tm TB.nil Tryz.func114 (by kernel_rfl) SumsOk.nil none fun _ => by kernel_rfl
/-! ## midrange/midrangeref18.IsID -/
noncomputable def f791T (k : Nat) : TB P := TB.nil |>.u (f814Ok k) |>.u (f813Ok k)
noncomputable def f791p0 {R : Type} (k : Nat) (k0 : D129 → Option R) (k1 : ByteArray × Int × Unit → Option R) (v : ByteArray × Int × Unit) : Option R :=
  bif ((decide ((0 : Int) ≤ v.2.1)) && (decide (v.2.1 < (v.1.size : Int)))) then
  Option.bind (f814F k (bt v.1 v.2.1)) fun y2 =>
  bif (!y2) then
    bif (decide (v.2.1 < (3 : Int))) then
      Option.bind (f813F k (bt v.1 v.2.1)) fun y3 =>
      bif (!y3) then
        k0 (v.1, false, v.2.1, ())
      else
      bif (decide (v.2.1 ≥ (3 : Int))) then
        bif (decide ((bt v.1 v.2.1) < (65 : Int))) then
          k0 (v.1, false, v.2.1, ())
        else
        bif (decide ((bt v.1 v.2.1) > (70 : Int))) then
          k0 (v.1, false, v.2.1, ())
        else
        k1 (v.1, v.2.1, ())
      else
      k1 (v.1, v.2.1, ())
    else
    bif (decide (v.2.1 ≥ (3 : Int))) then
      bif (decide ((bt v.1 v.2.1) < (65 : Int))) then
        k0 (v.1, false, v.2.1, ())
      else
      bif (decide ((bt v.1 v.2.1) > (70 : Int))) then
        k0 (v.1, false, v.2.1, ())
      else
      k1 (v.1, v.2.1, ())
    else
    k1 (v.1, v.2.1, ())
  else
  k1 (v.1, v.2.1, ())
  else none
noncomputable def f791p0S (k : Nat) := partSum ⟨[(0, .one (.str)), (3, .one (.int .i64))], [], 0, []⟩ ⟨[0, 3], [], []⟩ fun R K v => f791p0 k (fun w => K .ret (encSt ⟨[(0, .one (.str)), (2, .one (.bool)), (3, .one (.int .i64))], [], 0, []⟩ w)) (fun w => K .normal (encSt ⟨[(0, .one (.str)), (3, .one (.int .i64))], [], 0, []⟩ w)) v
theorem f791p0O (k : Nat) : SumO P Tryz.f91 466 (f791p0S k) := pt tm (f791T k) ⟨[0, 2, 3], [], []⟩ SumsOk.nil fun _ _ _ => by kernel_rfl
noncomputable def f791l1s {R : Type} (k : Nat) (rec : ByteArray × Int × Unit → Option R) (k0 : Bool × Unit → Option R) (k1 : Unit → Option R) (v : ByteArray × Int × Unit) : Option R :=
  bif (decide (v.2.1 < (7 : Int))) then
    f791p0 k
      (fun (w4 : D129) =>
        k0 (w4.2.1, ()))
      (fun (w5 : ByteArray × Int × Unit) =>
        rec (w5.1, (IntKind.i64.wrap (w5.2.1 + (1 : Int))), ()))
      (v.1, v.2.1, ())
  else
  k1 (())
noncomputable def f791l1 {R : Type} (k : Nat) (k0 : Bool × Unit → Option R) (k1 : Unit → Option R) (v : ByteArray × Int × Unit) : Option R := iterS (fun rec v => f791l1s k rec k0 k1 v) k v
noncomputable def f791l1S (k : Nat) := loopSum ⟨[(0, .one (.str)), (3, .one (.int .i64))], [], 0, []⟩ ⟨[0, 3], [], []⟩ k fun R rec K v => f791l1s k rec (fun w => K .ret (encSt ⟨[(2, .one (.bool))], [], 0, []⟩ w)) (fun w => K (.exit 0) (encSt ⟨[], [], 0, []⟩ w)) v
theorem f791l1O (k : Nat) : SumO P Tryz.f91 58 (f791l1S k) := lp tm (f791T k) ⟨[2], [], []⟩ (SumsOk.nil |>.s (f791p0O k) (by kernel_rfl)) (by kernel_rfl) fun _ _ _ _ => by kernel_rfl
noncomputable def f791F (k : Nat) (x : ByteArray) : Option (Bool) :=
  bif ((x.size : Int) != (7 : Int)) then
    some false
  else
  bif (decide ((0 : Int) < (x.size : Int))) then
  Option.bind (f813F k (bt x (0 : Int))) fun y1 =>
  bif (!y1) then
    some false
  else
  f791l1 k
    (fun (w6 : Bool × Unit) =>
      some w6.1)
    (fun (w7 : Unit) =>
      some true)
    (x, (1 : Int), ())
  else none
theorem f791Ok (k : Nat) : FnV P 91 [.dat .str] [.dat .bool] (f791F k) :=
  fs tm (f791T k) Tryz.func91 (by kernel_rfl) (SumsOk.nil |>.s (f791l1O k) (by kernel_rfl) |>.s (f791p0O k) (by kernel_rfl)) none fun _ => by kernel_rfl
/-! ## midrange/midrangebase.Within -/
noncomputable def f48F (k : Nat) (x : Int × Int × Int) : Option (Bool) :=
  bif (decide (x.2.1 ≤ x.1)) then
    some (decide (x.1 ≤ x.2.2))
  else
  some false
theorem f48Ok (k : Nat) : FnV P 65 [.dat (.int .i64), .dat (.int .i64), .dat (.int .i64)] [.dat .bool] (f48F k) :=
  fs tm TB.nil Tryz.func65 (by kernel_rfl) SumsOk.nil none fun _ => by kernel_rfl
/-! ## midrange/midrangeref18.IsText -/
noncomputable def f756l0s {R : Type} (k : Nat) (rec : ByteArray × Int × Unit → Option R) (k0 : Bool × Unit → Option R) (k1 : Unit → Option R) (v : ByteArray × Int × Unit) : Option R :=
  bif (decide (v.2.1 < (v.1.size : Int))) then
    bif ((decide ((0 : Int) ≤ v.2.1)) && (decide (v.2.1 < (v.1.size : Int)))) then
    bif (decide ((bt v.1 v.2.1) < (32 : Int))) then
      k0 (false, ())
    else
    bif ((decide ((0 : Int) ≤ v.2.1)) && (decide (v.2.1 < (v.1.size : Int)))) then
    bif (decide ((bt v.1 v.2.1) > (126 : Int))) then
      k0 (false, ())
    else
    rec (v.1, (IntKind.i64.wrap (v.2.1 + (1 : Int))), ())
    else none
    else none
  else
  k1 (())
noncomputable def f756l0 {R : Type} (k : Nat) (k0 : Bool × Unit → Option R) (k1 : Unit → Option R) (v : ByteArray × Int × Unit) : Option R := iterS (fun rec v => f756l0s k rec k0 k1 v) k v
noncomputable def f756l0S (k : Nat) := loopSum ⟨[(0, .one (.str)), (3, .one (.int .i64))], [], 0, []⟩ ⟨[0, 3], [], []⟩ k fun R rec K v => f756l0s k rec (fun w => K .ret (encSt ⟨[(2, .one (.bool))], [], 0, []⟩ w)) (fun w => K (.exit 0) (encSt ⟨[], [], 0, []⟩ w)) v
theorem f756l0O (k : Nat) : SumO P Tryz.f56 26 (f756l0S k) := lp tm TB.nil ⟨[2], [], []⟩ SumsOk.nil (by kernel_rfl) fun _ _ _ _ => by kernel_rfl
noncomputable def f756F (k : Nat) (x : ByteArray) : Option (Bool) :=
  f756l0 k
    (fun (w1 : Bool × Unit) =>
      some w1.1)
    (fun (w2 : Unit) =>
      some true)
    (x, (0 : Int), ())
theorem f756Ok (k : Nat) : FnV P 56 [.dat .str] [.dat .bool] (f756F k) :=
  fs tm TB.nil Tryz.func56 (by kernel_rfl) (SumsOk.nil |>.s (f756l0O k) (by kernel_rfl)) none fun _ => by kernel_rfl
/-! ## midrange/midrangebase.IsDataType -/
noncomputable def f820T (k : Nat) : TB P := TB.nil |>.u (f48Ok k)
noncomputable def f820p0 {R : Type} (k : Nat) (k0 : D130 → Option R) (v : D131) : Option R :=
  bif (v.1 == (1 : Int)) then
    k0 (v.1, (v.1 == (1 : Int)), v.2.1, v.2.2.1, v.2.2.2.1, ())
  else
  k0 (v.1, (v.1 == (2 : Int)), v.2.1, v.2.2.1, v.2.2.2.1, ())
noncomputable def f820p0S (k : Nat) := partSum ⟨[(1, .one (.ptr 0 0)), (4, .one (.int .i64))], [(0, .var 115 [.int .i64, .int .i64, .int .i64])], 1, []⟩ ⟨[1, 4], [], []⟩ fun R K v => f820p0 k (fun w => K .normal (encSt ⟨[(1, .one (.ptr 0 0)), (4, .one (.int .i64)), (15, .one (.bool))], [(0, .var 115 [.int .i64, .int .i64, .int .i64])], 1, []⟩ w)) v
theorem f820p0O (k : Nat) : SumO P Tryz.f120 214 (f820p0S k) := pt tm (f820T k) ⟨[1, 2, 4, 15], [], []⟩ SumsOk.nil fun _ _ _ => by kernel_rfl
noncomputable def f820F (k : Nat) (x : (Int × (Int × Int))) : Option (Bool) :=
  bif (x.1 == (0 : Int)) then
    Option.bind (f48F k (x.2.1, (1 : Int), (256 : Int))) fun y1 =>
    bif y1 then
      some (x.2.2 == (0 : Int))
    else
    some false
  else
  f820p0 k
    (fun (w2 : D130) =>
      bif w2.2.1 then
        Option.bind (f48F k (w2.2.2.2.1, (1 : Int), (15 : Int))) fun y3 =>
        bif y3 then
          Option.bind (f48F k (w2.2.2.2.2.1, (0 : Int), w2.2.2.2.1)) fun y4 =>
          some y4
        else
        some false
      else
      bif (w2.1 == (3 : Int)) then
        bif (w2.2.2.2.1 == (4 : Int)) then
          Option.bind (f48F k (w2.2.2.2.2.1, (0 : Int), w2.2.2.2.1)) fun y5 =>
          some y5
        else
        bif (w2.2.2.2.1 == (9 : Int)) then
          Option.bind (f48F k (w2.2.2.2.2.1, (0 : Int), w2.2.2.2.1)) fun y6 =>
          some y6
        else
        some false
      else
      bif (w2.2.2.1 == (4 : Int)) then
        bif (w2.2.2.2.1 == (0 : Int)) then
          some (w2.2.2.2.2.1 == (0 : Int))
        else
        some false
      else
      some false)
    (x.1, x.1, x.2.1, x.2.2, ())
theorem f820Ok (k : Nat) : FnV P 120 [.agg (.pair (.int .i64) Y6)] [.dat .bool] (f820F k) :=
  fs tm (f820T k) Tryz.func120 (by kernel_rfl) (SumsOk.nil |>.s (f820p0O k) (by kernel_rfl)) none fun _ => by kernel_rfl
/-! ## midrange/midrangebase.IndexOfString -/
noncomputable def f773l0s {R : Type} (k : Nat) (rec : D132 → Option R) (k0 : Int × Unit → Option R) (k1 : Unit → Option R) (v : D132) : Option R :=
  bif (decide (v.2.2.1 < (v.1.length : Int))) then
    bif ((decide ((0 : Int) ≤ v.2.2.1)) && (decide (v.2.2.1 < (v.1.length : Int)))) then
    bif (strEq (v.1.getD (Int.toNat v.2.2.1) ByteArray.empty) v.2.1) then
      k0 (v.2.2.1, ())
    else
    rec (v.1, v.2.1, (IntKind.i64.wrap (v.2.2.1 + (1 : Int))), ())
    else none
  else
  k1 (())
noncomputable def f773l0 {R : Type} (k : Nat) (k0 : Int × Unit → Option R) (k1 : Unit → Option R) (v : D132) : Option R := iterS (fun rec v => f773l0s k rec k0 k1 v) k v
noncomputable def f773l0S (k : Nat) := loopSum ⟨[(0, .one (.ro .str)), (1, .one (.str)), (5, .one (.int .i64))], [], 0, []⟩ ⟨[0, 1, 5], [], []⟩ k fun R rec K v => f773l0s k rec (fun w => K .ret (encSt ⟨[(4, .one (.int .i64))], [], 0, []⟩ w)) (fun w => K (.exit 0) (encSt ⟨[], [], 0, []⟩ w)) v
theorem f773l0O (k : Nat) : SumO P Tryz.f73 26 (f773l0S k) := lp tm TB.nil ⟨[4], [], []⟩ SumsOk.nil (by kernel_rfl) fun _ _ _ _ => by kernel_rfl
noncomputable def f773F (k : Nat) (x : D24) : Option (Int) :=
  f773l0 k
    (fun (w1 : Int × Unit) =>
      some w1.1)
    (fun (w2 : Unit) =>
      some (-1 : Int))
    (x.1, x.2, (0 : Int), ())
theorem f773Ok (k : Nat) : FnV P 73 [.dat (.slice .str), .dat .str] [.dat (.int .i64)] (f773F k) :=
  fs tm TB.nil Tryz.func73 (by kernel_rfl) (SumsOk.nil |>.s (f773l0O k) (by kernel_rfl)) none fun _ => by kernel_rfl
/-! ## midrange/midrangeref18.descErr -/
noncomputable def f792T (k : Nat) : TB P := TB.nil |>.u (f820Ok k) |>.u (f773Ok k) |>.u (f48Ok k) |>.u (f756Ok k)
noncomputable def f792l0s {R : Type} (k : Nat) (rec : D127 → Option R) (k0 : D127 → Option R) (k1 : D133 → Option R) (v : D127) : Option R :=
  bif (decide (v.1 < (v.2.2.2.2.2.1.length : Int))) then
    bif ((decide ((0 : Int) ≤ v.1)) && (decide (v.1 < (v.2.2.2.2.2.1.length : Int)))) then
    let t4 := (v.2.2.2.2.2.1.getD (Int.toNat v.1) ((0 : Int), ((0 : Int), (0 : Int))))
    Option.bind (f820F k (t4.1, (t4.2.1, t4.2.2))) fun y5 =>
    bif (!y5) then
      k0 ((17 : Int), v.2.1, v.2.2.1, v.2.2.2.1, v.2.2.2.2.1, v.2.2.2.2.2.1, v.2.2.2.2.2.2.1, v.2.2.2.2.2.2.2.1, ())
    else
    bif ((decide ((0 : Int) ≤ v.1)) && (decide (v.1 < (v.2.2.2.2.2.1.length : Int)))) then
    let t6 := (v.2.2.2.2.2.1.getD (Int.toNat v.1) ((0 : Int), ((0 : Int), (0 : Int))))
    bif (t6.1 == (4 : Int)) then
      k0 ((17 : Int), v.2.1, v.2.2.1, v.2.2.2.1, v.2.2.2.2.1, v.2.2.2.2.2.1, v.2.2.2.2.2.2.1, v.2.2.2.2.2.2.2.1, ())
    else
    rec ((IntKind.i64.wrap (v.1 + (1 : Int))), v.2.1, v.2.2.1, v.2.2.2.1, v.2.2.2.2.1, v.2.2.2.2.2.1, v.2.2.2.2.2.2.1, v.2.2.2.2.2.2.2.1, ())
    else none
    else none
  else
  k1 (v.2.1, v.2.2.1, v.2.2.2.1, v.2.2.2.2.1, v.2.2.2.2.2.1, v.2.2.2.2.2.2.1, v.2.2.2.2.2.2.2.1, ())
noncomputable def f792l0 {R : Type} (k : Nat) (k0 : D127 → Option R) (k1 : D133 → Option R) (v : D127) : Option R := iterS (fun rec v => f792l0s k rec k0 k1 v) k v
noncomputable def f792l0S (k : Nat) := loopSum ⟨[(1, .one (.ptr 0 0)), (3, .one (.int .i64))], [(0, .var 82 [.str, .int .i64, .str, .str, .ro (.pair (.int .i64) Y6), .str, .ro .str])], 1, []⟩ ⟨[1, 3], [], []⟩ k fun R rec K v => f792l0s k rec (fun w => K .ret (encSt ⟨[(1, .one (.ptr 0 0)), (2, .one (.int .i64))], [(0, .var 82 [.str, .int .i64, .str, .str, .ro (.pair (.int .i64) Y6), .str, .ro .str])], 1, []⟩ w)) (fun w => K (.exit 0) (encSt ⟨[(1, .one (.ptr 0 0))], [(0, .var 82 [.str, .int .i64, .str, .str, .ro (.pair (.int .i64) Y6), .str, .ro .str])], 1, []⟩ w)) v
theorem f792l0O (k : Nat) : SumO P Tryz.f92 1018 (f792l0S k) := lp tm (f792T k) ⟨[1, 2], [], []⟩ SumsOk.nil (by kernel_rfl) fun _ _ _ _ => by kernel_rfl
noncomputable def f792l1s {R : Type} (k : Nat) (rec : D127 → Option R) (k0 : Int × Unit → Option R) (k1 : Unit → Option R) (v : D127) : Option R :=
  bif (decide (v.1 < (v.2.2.2.2.2.2.2.1.length : Int))) then
    bif ((decide ((0 : Int) ≤ v.1)) && (decide (v.1 < (v.2.2.2.2.2.2.2.1.length : Int)))) then
    let t10 := (((v.2.2.2.2.2.2.2.1.getD (Int.toNat v.1) ByteArray.empty).size : Int) == (0 : Int))
    bif t10 then
      k0 ((1 : Int), ())
    else
    let t11 := (decide (((v.2.2.2.2.2.2.2.1.getD (Int.toNat v.1) ByteArray.empty).size : Int) > (32 : Int)))
    bif t11 then
      k0 ((2 : Int), ())
    else
    Option.bind (f756F k (v.2.2.2.2.2.2.2.1.getD (Int.toNat v.1) ByteArray.empty)) fun y12 =>
    bif (!y12) then
      k0 ((5 : Int), ())
    else
    bif (sliceBds (0 : Int) v.1 (v.2.2.2.2.2.2.2.1.length : Int)) then
    Option.bind (f773F k (((v.2.2.2.2.2.2.2.1.take (Int.toNat v.1)).drop 0), (v.2.2.2.2.2.2.2.1.getD (Int.toNat v.1) ByteArray.empty))) fun y13 =>
    bif (y13 != (-1 : Int)) then
      k0 ((13 : Int), ())
    else
    rec ((IntKind.i64.wrap (v.1 + (1 : Int))), v.2.1, v.2.2.1, v.2.2.2.1, v.2.2.2.2.1, v.2.2.2.2.2.1, v.2.2.2.2.2.2.1, v.2.2.2.2.2.2.2.1, ())
    else none
    else none
  else
  k1 (())
noncomputable def f792l1 {R : Type} (k : Nat) (k0 : Int × Unit → Option R) (k1 : Unit → Option R) (v : D127) : Option R := iterS (fun rec v => f792l1s k rec k0 k1 v) k v
noncomputable def f792l1S (k : Nat) := loopSum ⟨[(1, .one (.ptr 0 0)), (4, .one (.int .i64))], [(0, .var 82 [.str, .int .i64, .str, .str, .ro (.pair (.int .i64) Y6), .str, .ro .str])], 1, []⟩ ⟨[1, 4], [], []⟩ k fun R rec K v => f792l1s k rec (fun w => K .ret (encSt ⟨[(2, .one (.int .i64))], [], 0, []⟩ w)) (fun w => K (.exit 2) (encSt ⟨[], [], 0, []⟩ w)) v
theorem f792l1O (k : Nat) : SumO P Tryz.f92 16378 (f792l1S k) := lp tm (f792T k) ⟨[2], [], []⟩ SumsOk.nil (by kernel_rfl) fun _ _ _ _ => by kernel_rfl
noncomputable def f792F (k : Nat) (x : D13) : Option (Int) :=
  Option.bind (f48F k (x.2.1, (0 : Int), (99 : Int))) fun y1 =>
  bif (!y1) then
    some (3 : Int)
  else
  bif ((x.2.2.1.size : Int) == (0 : Int)) then
    some (1 : Int)
  else
  bif (decide ((x.2.2.1.size : Int) > (200 : Int))) then
    some (2 : Int)
  else
  bif (decide ((x.2.2.2.1.size : Int) > (200 : Int))) then
    some (2 : Int)
  else
  Option.bind (f756F k x.2.2.1) fun y2 =>
  bif (!y2) then
    some (5 : Int)
  else
  Option.bind (f756F k x.2.2.2.1) fun y3 =>
  bif (!y3) then
    some (5 : Int)
  else
  bif (decide ((x.2.2.2.2.1.length : Int) > (9 : Int))) then
    some (2 : Int)
  else
  f792l0 k
    (fun (w7 : D127) =>
      some w7.1)
    (fun (w8 : D133) =>
      bif (decide ((w8.2.2.2.2.2.1.size : Int) > (32 : Int))) then
        some (2 : Int)
      else
      Option.bind (f756F k w8.2.2.2.2.2.1) fun y9 =>
      bif (!y9) then
        some (5 : Int)
      else
      bif (decide ((w8.2.2.2.2.2.2.1.length : Int) > (8 : Int))) then
        some (2 : Int)
      else
      f792l1 k
        (fun (w14 : Int × Unit) =>
          some w14.1)
        (fun (w15 : Unit) =>
          some (0 : Int))
        ((0 : Int), w8.1, w8.2.1, w8.2.2.1, w8.2.2.2.1, w8.2.2.2.2.1, w8.2.2.2.2.2.1, w8.2.2.2.2.2.2.1, ()))
    ((0 : Int), x.1, x.2.1, x.2.2.1, x.2.2.2.1, x.2.2.2.2.1, x.2.2.2.2.2.1, x.2.2.2.2.2.2, ())
theorem f792Ok (k : Nat) : FnV P 92 [.agg Y10] [.dat (.int .i64)] (f792F k) :=
  fs tm (f792T k) Tryz.func92 (by kernel_rfl) (SumsOk.nil |>.s (f792l1O k) (by kernel_rfl) |>.s (f792l0O k) (by kernel_rfl)) none fun _ => by kernel_rfl
/-! ## midrange/midrangeref18.CheckFile -/
noncomputable def f748T (k : Nat) : TB P := TB.nil |>.u (f792Ok k) |>.u (f791Ok k)
noncomputable def f748p0 {R : Type} (k : Nat) (k0 : D134 → Option R) (v : List D13 × Int × Unit) : Option R :=
  bif ((decide ((0 : Int) ≤ v.2.1)) && (decide (v.2.1 < (v.1.length : Int)))) then
  let t1 := (v.1.getD (Int.toNat v.2.1) (ByteArray.empty, ((0 : Int), (ByteArray.empty, (ByteArray.empty, ([], (ByteArray.empty, [])))))))
  Option.bind (f791F k t1.1) fun y2 =>
  bif (!y2) then
    k0 (v.1, v.2.1, (7 : Int), ())
  else
  bif (decide (v.2.1 > (0 : Int))) then
    bif ((decide ((0 : Int) ≤ v.2.1)) && (decide (v.2.1 < (v.1.length : Int)))) then
    let t3 := (v.1.getD (Int.toNat v.2.1) (ByteArray.empty, ((0 : Int), (ByteArray.empty, (ByteArray.empty, ([], (ByteArray.empty, [])))))))
    bif ((decide ((0 : Int) ≤ (IntKind.i64.wrap (v.2.1 - (1 : Int))))) && (decide ((IntKind.i64.wrap (v.2.1 - (1 : Int))) < (v.1.length : Int)))) then
    let t4 := (v.1.getD (Int.toNat (IntKind.i64.wrap (v.2.1 - (1 : Int)))) (ByteArray.empty, ((0 : Int), (ByteArray.empty, (ByteArray.empty, ([], (ByteArray.empty, [])))))))
    bif (strLt t3.1 t4.1 || strEq t3.1 t4.1) then
      k0 (v.1, v.2.1, (14 : Int), ())
    else
    bif ((decide ((0 : Int) ≤ v.2.1)) && (decide (v.2.1 < (v.1.length : Int)))) then
    let t5 := (v.1.getD (Int.toNat v.2.1) (ByteArray.empty, ((0 : Int), (ByteArray.empty, (ByteArray.empty, ([], (ByteArray.empty, [])))))))
    Option.bind (f792F k (t5.1, (t5.2.1, (t5.2.2.1, (t5.2.2.2.1, (t5.2.2.2.2.1, (t5.2.2.2.2.2.1, t5.2.2.2.2.2.2))))))) fun y6 =>
    k0 (v.1, v.2.1, y6, ())
    else none
    else none
    else none
  else
  bif ((decide ((0 : Int) ≤ v.2.1)) && (decide (v.2.1 < (v.1.length : Int)))) then
  let t7 := (v.1.getD (Int.toNat v.2.1) (ByteArray.empty, ((0 : Int), (ByteArray.empty, (ByteArray.empty, ([], (ByteArray.empty, [])))))))
  Option.bind (f792F k (t7.1, (t7.2.1, (t7.2.2.1, (t7.2.2.2.1, (t7.2.2.2.2.1, (t7.2.2.2.2.2.1, t7.2.2.2.2.2.2))))))) fun y8 =>
  k0 (v.1, v.2.1, y8, ())
  else none
  else none
noncomputable def f748p0S (k : Nat) := partSum ⟨[(0, .one (.ro Y10)), (4, .one (.int .i64))], [], 0, []⟩ ⟨[0, 4], [], []⟩ fun R K v => f748p0 k (fun w => K .normal (encSt ⟨[(0, .one (.ro Y10)), (4, .one (.int .i64)), (5, .one (.int .i64))], [], 0, []⟩ w)) v
theorem f748p0O (k : Nat) : SumO P Tryz.f48 3730 (f748p0S k) := pt tm (f748T k) ⟨[0, 2, 3, 4, 5], [], []⟩ SumsOk.nil fun _ _ _ => by kernel_rfl
noncomputable def f748l1s {R : Type} (k : Nat) (rec : List D13 × Int × Unit → Option R) (k0 : Int × Int × Unit → Option R) (k1 : Unit → Option R) (v : List D13 × Int × Unit) : Option R :=
  bif (decide (v.2.1 < (v.1.length : Int))) then
    f748p0 k
      (fun (w9 : D134) =>
        bif (w9.2.2.1 != (0 : Int)) then
          k0 (w9.2.1, w9.2.2.1, ())
        else
        rec (w9.1, (IntKind.i64.wrap (w9.2.1 + (1 : Int))), ()))
      (v.1, v.2.1, ())
  else
  k1 (())
noncomputable def f748l1 {R : Type} (k : Nat) (k0 : Int × Int × Unit → Option R) (k1 : Unit → Option R) (v : List D13 × Int × Unit) : Option R := iterS (fun rec v => f748l1s k rec k0 k1 v) k v
noncomputable def f748l1S (k : Nat) := loopSum ⟨[(0, .one (.ro Y10)), (4, .one (.int .i64))], [], 0, []⟩ ⟨[0, 4], [], []⟩ k fun R rec K v => f748l1s k rec (fun w => K .ret (encSt ⟨[(2, .one (.int .i64)), (3, .one (.int .i64))], [], 0, []⟩ w)) (fun w => K (.exit 0) (encSt ⟨[], [], 0, []⟩ w)) v
theorem f748l1O (k : Nat) : SumO P Tryz.f48 58 (f748l1S k) := lp tm (f748T k) ⟨[2, 3], [], []⟩ (SumsOk.nil |>.s (f748p0O k) (by kernel_rfl)) (by kernel_rfl) fun _ _ _ _ => by kernel_rfl
noncomputable def f748F (k : Nat) (x : (List D13)) : Option (Int × Int) :=
  bif (decide ((x.length : Int) > (20 : Int))) then
    some ((0 : Int), (2 : Int))
  else
  f748l1 k
    (fun (w10 : Int × Int × Unit) =>
      some (w10.1, w10.2.1))
    (fun (w11 : Unit) =>
      some ((0 : Int), (0 : Int)))
    (x, (0 : Int), ())
theorem f748Ok (k : Nat) : FnV P 48 [.dat (.slice Y10)] [.dat (.int .i64), .dat (.int .i64)] (f748F k) :=
  fs tm (f748T k) Tryz.func48 (by kernel_rfl) (SumsOk.nil |>.s (f748l1O k) (by kernel_rfl) |>.s (f748p0O k) (by kernel_rfl)) none fun _ => by kernel_rfl
/-! ## midrange/midrangeref18.FileErr -/
noncomputable def f780T (k : Nat) : TB P := TB.nil |>.u (f748Ok k)
noncomputable def f780F (k : Nat) (x : (List D13)) : Option (Int) :=
  Option.bind (f748F k x) fun y1 =>
  some y1.2
theorem f780Ok (k : Nat) : FnV P 80 [.dat (.slice Y10)] [.dat (.int .i64)] (f780F k) :=
  fs tm (f780T k) Tryz.func80 (by kernel_rfl) SumsOk.nil none fun _ => by kernel_rfl
/-! ## midrange/midrangebase.Count -/
noncomputable def f69F (k : Nat) (x : Bool) : Option (Int) :=
  bif x then
    some (1 : Int)
  else
  some (0 : Int)
theorem f69Ok (k : Nat) : FnV P 32 [.dat .bool] [.dat (.int .i64)] (f69F k) :=
  fs tm TB.nil Tryz.func32 (by kernel_rfl) SumsOk.nil none fun _ => by kernel_rfl
/-! ## midrange/midrangebase.Size -/
noncomputable def f31T (k : Nat) : TB P := TB.nil |>.u (f69Ok k)
noncomputable def f31F (k : Nat) (x : (Int × (Int × Int))) : Option (Int) :=
  bif (x.1 == (1 : Int)) then
    let t1 := (IntKind.i64.wrap ((IntKind.i64.wrap (Int.tdiv x.2.1 (2 : Int))) + (1 : Int)))
    some t1
  else
  bif (x.1 == (3 : Int)) then
    Option.bind (f69F k (x.2.1 == (9 : Int))) fun y2 =>
    some (IntKind.i64.wrap ((2 : Int) + (IntKind.i64.wrap ((2 : Int) * y2))))
  else
  bif (x.1 == (4 : Int)) then
    some (16 : Int)
  else
  some x.2.1
theorem f31Ok (k : Nat) : FnV P 128 [.agg (.pair (.int .i64) Y6)] [.dat (.int .i64)] (f31F k) :=
  fs tm (f31T k) Tryz.func128 (by kernel_rfl) SumsOk.nil none fun _ => by kernel_rfl
/-! ## midrange/midrangeref01.IsNumeric -/
noncomputable def f68T (k : Nat) : TB P := TB.nil |>.u (f48Ok k)
noncomputable def f68F (k : Nat) (x : Int) : Option (Bool) :=
  Option.bind (f48F k (x, (1 : Int), (3 : Int))) fun y1 =>
  some y1
theorem f68Ok (k : Nat) : FnV P 165 [.dat (.int .i64)] [.dat .bool] (f68F k) :=
  fs tm (f68T k) Tryz.func165 (by kernel_rfl) SumsOk.nil none fun _ => by kernel_rfl
/-! ## midrange/midrangeref01.TypeErr -/
noncomputable def f27T (k : Nat) : TB P := TB.nil |>.u (f68Ok k) |>.u (f48Ok k) |>.u (f69Ok k)
noncomputable def f27p0 {R : Type} (k : Nat) (k0 : D17 → Option R) (v : D18) : Option R :=
  bif (v.2.1 == (1 : Int)) then
    k0 (v.1, v.2.1, (v.2.1 == (1 : Int)), v.2.2.1, v.2.2.2.1, v.2.2.2.2.1, ())
  else
  k0 (v.1, v.2.1, (v.2.1 == (2 : Int)), v.2.2.1, v.2.2.2.1, v.2.2.2.2.1, ())
noncomputable def f27p0S (k : Nat) := partSum ⟨[(1, .one (.ptr 0 0)), (3, .one (.bool)), (13, .one (.int .i64))], [(0, .var 115 [.int .i64, .int .i64, .int .i64])], 1, []⟩ ⟨[1, 3, 13], [], []⟩ fun R K v => f27p0 k (fun w => K .normal (encSt ⟨[(1, .one (.ptr 0 0)), (3, .one (.bool)), (13, .one (.int .i64)), (19, .one (.bool))], [(0, .var 115 [.int .i64, .int .i64, .int .i64])], 1, []⟩ w)) v
theorem f27p0O (k : Nat) : SumO P Tryz.f142 982 (f27p0S k) := pt tm (f27T k) ⟨[1, 2, 3, 13, 19], [], []⟩ SumsOk.nil fun _ _ _ => by kernel_rfl
noncomputable def f27p1 {R : Type} (k : Nat) (k0 : D19 → Option R) (v : D19) : Option R :=
  bif (v.2.1 == (0 : Int)) then
    Option.bind (f48F k (v.2.2.1, (1 : Int), (256 : Int))) fun y2 =>
    k0 (y2, v.2.1, v.2.2.1, v.2.2.2.1, ())
  else
  f27p0 k
    (fun (w3 : D17) =>
      bif w3.2.2.1 then
        Option.bind (f48F k (w3.2.2.2.2.1, (1 : Int), (15 : Int))) fun y4 =>
        k0 (y4, w3.2.2.2.1, w3.2.2.2.2.1, w3.2.2.2.2.2.1, ())
      else
      bif (w3.2.1 == (3 : Int)) then
        bif (w3.2.2.2.2.1 == (4 : Int)) then
          k0 (true, w3.2.2.2.1, w3.2.2.2.2.1, w3.2.2.2.2.2.1, ())
        else
        k0 ((w3.2.2.2.2.1 == (9 : Int)), w3.2.2.2.1, w3.2.2.2.2.1, w3.2.2.2.2.2.1, ())
      else
      k0 (w3.1, w3.2.2.2.1, w3.2.2.2.2.1, w3.2.2.2.2.2.1, ()))
    (v.1, v.2.1, v.2.1, v.2.2.1, v.2.2.2.1, ())
noncomputable def f27p1S (k : Nat) := partSum ⟨[(1, .one (.ptr 0 0)), (3, .one (.bool))], [(0, .var 115 [.int .i64, .int .i64, .int .i64])], 1, []⟩ ⟨[1, 3], [], []⟩ fun R K v => f27p1 k (fun w => K .normal (encSt ⟨[(1, .one (.ptr 0 0)), (3, .one (.bool))], [(0, .var 115 [.int .i64, .int .i64, .int .i64])], 1, []⟩ w)) v
theorem f27p1O (k : Nat) : SumO P Tryz.f142 30 (f27p1S k) := pt tm (f27T k) ⟨[1, 2, 3], [], []⟩ (SumsOk.nil |>.s (f27p0O k) (by kernel_rfl)) fun _ _ _ => by kernel_rfl
noncomputable def f27p2 {R : Type} (k : Nat) (k0 : D131 → Option R) (v : D131) : Option R :=
  Option.bind (f68F k v.2.1) fun y6 =>
  bif y6 then
    k0 (v.2.2.1, v.2.1, v.2.2.1, v.2.2.2.1, ())
  else
  k0 (v.1, v.2.1, v.2.2.1, v.2.2.2.1, ())
noncomputable def f27p2S (k : Nat) := partSum ⟨[(1, .one (.ptr 0 0)), (4, .one (.int .i64))], [(0, .var 115 [.int .i64, .int .i64, .int .i64])], 1, []⟩ ⟨[1, 4], [], []⟩ fun R K v => f27p2 k (fun w => K .normal (encSt ⟨[(1, .one (.ptr 0 0)), (4, .one (.int .i64))], [(0, .var 115 [.int .i64, .int .i64, .int .i64])], 1, []⟩ w)) v
theorem f27p2O (k : Nat) : SumO P Tryz.f142 254 (f27p2S k) := pt tm (f27T k) ⟨[1, 2, 4], [], []⟩ SumsOk.nil fun _ _ _ => by kernel_rfl
noncomputable def f27F (k : Nat) (x : (Int × (Int × Int))) : Option (Int) :=
  Option.bind (f48F k (x.1, (0 : Int), (4 : Int))) fun y1 =>
  bif (!y1) then
    some (4 : Int)
  else
  f27p1 k
    (fun (w5 : D19) =>
      bif (!w5.1) then
        some (18 : Int)
      else
      f27p2 k
        (fun (w7 : D131) =>
          Option.bind (f48F k (w7.2.2.2.1, (0 : Int), w7.1)) fun y8 =>
          Option.bind (f69F k (!y8)) fun y9 =>
          some (IntKind.i64.wrap ((3 : Int) * y9)))
        ((0 : Int), w5.2.1, w5.2.2.1, w5.2.2.2.1, ()))
    ((x.2.1 == (0 : Int)), x.1, x.2.1, x.2.2, ())
theorem f27Ok (k : Nat) : FnV P 142 [.agg (.pair (.int .i64) Y6)] [.dat (.int .i64)] (f27F k) :=
  fs tm (f27T k) Tryz.func142 (by kernel_rfl) (SumsOk.nil |>.s (f27p2O k) (by kernel_rfl) |>.s (f27p1O k) (by kernel_rfl) |>.s (f27p0O k) (by kernel_rfl)) none fun _ => by kernel_rfl
/-! ## midrange/midrangebase.Big -/
noncomputable def f47l0s {R : Type} (k : Nat) (rec : D135 → Option R) (k0 : Int × Unit → Option R) (v : D135) : Option R :=
  bif (decide (v.2.2.2.2.1 < v.2.2.1)) then
    bif ((decide ((0 : Int) ≤ (IntKind.i64.wrap (v.2.1 + v.2.2.2.2.1)))) && (decide ((IntKind.i64.wrap (v.2.1 + v.2.2.2.2.1)) < (v.1.size : Int)))) then
    let t1 := (IntKind.i64.wrap ((IntKind.i64.wrap (v.2.2.2.1 * (256 : Int))) + (IntKind.i64.wrap (bt v.1 (IntKind.i64.wrap (v.2.1 + v.2.2.2.2.1))))))
    rec (v.1, v.2.1, v.2.2.1, t1, (IntKind.i64.wrap (v.2.2.2.2.1 + (1 : Int))), ())
    else none
  else
  k0 (v.2.2.2.1, ())
noncomputable def f47l0 {R : Type} (k : Nat) (k0 : Int × Unit → Option R) (v : D135) : Option R := iterS (fun rec v => f47l0s k rec k0 v) k v
noncomputable def f47l0S (k : Nat) := loopSum ⟨[(0, .one (.str)), (1, .one (.int .i64)), (2, .one (.int .i64)), (7, .one (.int .i64)), (8, .one (.int .i64))], [], 0, []⟩ ⟨[0, 1, 2, 7, 8], [], []⟩ k fun R rec K v => f47l0s k rec (fun w => K (.exit 0) (encSt ⟨[(7, .one (.int .i64))], [], 0, []⟩ w)) v
theorem f47l0O (k : Nat) : SumO P Tryz.f143 58 (f47l0S k) := lp tm TB.nil ⟨[6, 7], [], []⟩ SumsOk.nil (by kernel_rfl) fun _ _ _ _ => by kernel_rfl
noncomputable def f47F (k : Nat) (x : ByteArray × Int × Int) : Option (Int) :=
  f47l0 k
    (fun (w2 : Int × Unit) =>
      some w2.1)
    (x.1, x.2.1, x.2.2, (0 : Int), (0 : Int), ())
theorem f47Ok (k : Nat) : FnV P 143 [.dat .str, .dat (.int .i64), .dat (.int .i64)] [.dat (.int .i64)] (f47F k) :=
  fs tm TB.nil Tryz.func143 (by kernel_rfl) (SumsOk.nil |>.s (f47l0O k) (by kernel_rfl)) none fun _ => by kernel_rfl
/-! ## midrange/midrangebase.Power -/
noncomputable def f81l0s {R : Type} (k : Nat) (rec : Int × Int × Int × Unit → Option R) (k0 : Int × Unit → Option R) (v : Int × Int × Int × Unit) : Option R :=
  bif (decide (v.2.2.1 < v.1)) then
    rec (v.1, (IntKind.i64.wrap (v.2.1 * (10 : Int))), (IntKind.i64.wrap (v.2.2.1 + (1 : Int))), ())
  else
  k0 (v.2.1, ())
noncomputable def f81l0 {R : Type} (k : Nat) (k0 : Int × Unit → Option R) (v : Int × Int × Int × Unit) : Option R := iterS (fun rec v => f81l0s k rec k0 v) k v
noncomputable def f81l0S (k : Nat) := loopSum ⟨[(0, .one (.int .i64)), (3, .one (.int .i64)), (4, .one (.int .i64))], [], 0, []⟩ ⟨[0, 3, 4], [], []⟩ k fun R rec K v => f81l0s k rec (fun w => K (.exit 0) (encSt ⟨[(3, .one (.int .i64))], [], 0, []⟩ w)) v
theorem f81l0O (k : Nat) : SumO P Tryz.f166 58 (f81l0S k) := lp tm TB.nil ⟨[2, 3], [], []⟩ SumsOk.nil (by kernel_rfl) fun _ _ _ _ => by kernel_rfl
noncomputable def f81F (k : Nat) (x : Int) : Option (Int) :=
  f81l0 k
    (fun (w1 : Int × Unit) =>
      some w1.1)
    (x, (1 : Int), (0 : Int), ())
theorem f81Ok (k : Nat) : FnV P 166 [.dat (.int .i64)] [.dat (.int .i64)] (f81F k) :=
  fs tm TB.nil Tryz.func166 (by kernel_rfl) (SumsOk.nil |>.s (f81l0O k) (by kernel_rfl)) none fun _ => by kernel_rfl
/-! ## midrange/midrangeref01.Most -/
noncomputable def f49T (k : Nat) : TB P := TB.nil |>.u (f81Ok k)
noncomputable def f49F (k : Nat) (x : (Int × (Int × Int))) : Option (Int) :=
  Option.bind (f81F k x.2.1) fun y1 =>
  some (IntKind.i64.wrap (y1 - (1 : Int)))
theorem f49Ok (k : Nat) : FnV P 144 [.agg (.pair (.int .i64) Y6)] [.dat (.int .i64)] (f49F k) :=
  fs tm (f49T k) Tryz.func144 (by kernel_rfl) SumsOk.nil none fun _ => by kernel_rfl
/-! ## midrange/midrangeref01.signed -/
noncomputable def f82p0 {R : Type} (k : Nat) (k0 : Int × Int × Unit → Option R) (v : Int × Int × Unit) : Option R :=
  bif (v.2.1 == (11 : Int)) then
    k0 ((IntKind.i64.wrap (0 - v.1)), v.2.1, ())
  else
  bif (v.2.1 == (13 : Int)) then
    k0 ((IntKind.i64.wrap (0 - v.1)), v.2.1, ())
  else
  k0 (v.1, v.2.1, ())
noncomputable def f82p0S (k : Nat) := partSum ⟨[(0, .one (.int .i64)), (1, .one (.int .i64))], [], 0, []⟩ ⟨[0, 1], [], []⟩ fun R K v => f82p0 k (fun w => K .normal (encSt ⟨[(0, .one (.int .i64)), (1, .one (.int .i64))], [], 0, []⟩ w)) v
theorem f82p0O (k : Nat) : SumO P Tryz.f167 6 (f82p0S k) := pt tm TB.nil ⟨[0, 1, 4, 5], [], []⟩ SumsOk.nil fun _ _ _ => by kernel_rfl
noncomputable def f82F (k : Nat) (x : Int × Int) : Option (Int × Bool) :=
  f82p0 k
    (fun (w1 : Int × Int × Unit) =>
      some (w1.1, (decide (w1.2.1 ≥ (10 : Int)))))
    (x.1, x.2, ())
theorem f82Ok (k : Nat) : FnV P 167 [.dat (.int .i64), .dat (.int .i64)] [.dat (.int .i64), .dat .bool] (f82F k) :=
  fs tm TB.nil Tryz.func167 (by kernel_rfl) (SumsOk.nil |>.s (f82p0O k) (by kernel_rfl)) none fun _ => by kernel_rfl
/-! ## midrange/midrangeref01.decodeZoned -/
noncomputable def f50T (k : Nat) : TB P := TB.nil |>.u (f82Ok k)
noncomputable def f50p0 {R : Type} (k : Nat) (k0 : D136 → Option R) (v : D136) : Option R :=
  bif (v.2.2.2.1 == (IntKind.i64.wrap ((v.1.size : Int) - (1 : Int)))) then
    bif ((decide ((0 : Int) ≤ v.2.2.2.1)) && (decide (v.2.2.2.1 < (v.1.size : Int)))) then
    let t1 := (IntKind.i64.wrap (Int.tdiv (IntKind.i64.wrap (bt v.1 v.2.2.2.1)) (16 : Int)))
    k0 (v.1, v.2.1, t1, v.2.2.2.1, v.2.2.2.2.1, v.2.2.2.2.2.1, ())
    else none
  else
  k0 (v.1, v.2.1, v.2.2.1, v.2.2.2.1, v.2.2.2.2.1, v.2.2.2.2.2.1, ())
noncomputable def f50p0S (k : Nat) := partSum ⟨[(0, .one (.str)), (2, .one (.ptr 0 0)), (5, .one (.int .i64)), (6, .one (.int .i64)), (7, .one (.int .i64))], [(0, .var 176 [.int .i64, .str])], 1, []⟩ ⟨[0, 2, 5, 6, 7], [], []⟩ fun R K v => f50p0 k (fun w => K .normal (encSt ⟨[(0, .one (.str)), (2, .one (.ptr 0 0)), (5, .one (.int .i64)), (6, .one (.int .i64)), (7, .one (.int .i64))], [(0, .var 176 [.int .i64, .str])], 1, []⟩ w)) v
theorem f50p0O (k : Nat) : SumO P Tryz.f145 1864 (f50p0S k) := pt tm (f50T k) ⟨[0, 2, 3, 4, 5, 6, 7], [], []⟩ SumsOk.nil fun _ _ _ => by kernel_rfl
noncomputable def f50l1s {R : Type} (k : Nat) (rec : D136 → Option R) (k0 : D137 → Option R) (k1 : D138 → Option R) (v : D136) : Option R :=
  bif (decide (v.2.2.2.1 < (v.1.size : Int))) then
    f50p0 k
      (fun (w2 : D136) =>
        bif (decide (w2.2.2.1 < (10 : Int))) then
          k0 (w2.2.2.2.1, (21 : Int), w2.2.1, w2.2.2.1, (0 : Int), ByteArray.empty, ())
        else
        bif ((decide ((0 : Int) ≤ w2.2.2.2.1)) && (decide (w2.2.2.2.1 < (w2.1.size : Int)))) then
        bif (decide ((Int.tmod (bt w2.1 w2.2.2.2.1) (16 : Int)) > (9 : Int))) then
          k0 (w2.2.2.2.1, (21 : Int), w2.2.1, w2.2.2.1, (0 : Int), ByteArray.empty, ())
        else
        bif ((decide ((0 : Int) ≤ w2.2.2.2.1)) && (decide (w2.2.2.2.1 < (w2.1.size : Int)))) then
        let t3 := (IntKind.i64.wrap ((IntKind.i64.wrap ((10 : Int) * w2.2.1)) + (Int.tmod (IntKind.i64.wrap (bt w2.1 w2.2.2.2.1)) (16 : Int))))
        rec (w2.1, t3, w2.2.2.1, (IntKind.i64.wrap (w2.2.2.2.1 + (1 : Int))), w2.2.2.2.2.1, w2.2.2.2.2.2.1, ())
        else none
        else none)
      (v.1, v.2.1, v.2.2.1, v.2.2.2.1, v.2.2.2.2.1, v.2.2.2.2.2.1, ())
  else
  k1 (v.2.1, v.2.2.1, v.2.2.2.2.1, v.2.2.2.2.2.1, ())
noncomputable def f50l1 {R : Type} (k : Nat) (k0 : D137 → Option R) (k1 : D138 → Option R) (v : D136) : Option R := iterS (fun rec v => f50l1s k rec k0 k1 v) k v
noncomputable def f50l1S (k : Nat) := loopSum ⟨[(0, .one (.str)), (2, .one (.ptr 0 0)), (5, .one (.int .i64)), (6, .one (.int .i64)), (7, .one (.int .i64))], [(0, .var 176 [.int .i64, .str])], 1, []⟩ ⟨[0, 2, 5, 6, 7], [], []⟩ k fun R rec K v => f50l1s k rec (fun w => K .ret (encSt ⟨[(2, .one (.ptr 0 0)), (3, .one (.int .i64)), (4, .one (.int .i64)), (5, .one (.int .i64)), (6, .one (.int .i64))], [(0, .var 176 [.int .i64, .str])], 1, []⟩ w)) (fun w => K (.exit 0) (encSt ⟨[(2, .one (.ptr 0 0)), (5, .one (.int .i64)), (6, .one (.int .i64))], [(0, .var 176 [.int .i64, .str])], 1, []⟩ w)) v
theorem f50l1O (k : Nat) : SumO P Tryz.f145 58 (f50l1S k) := lp tm (f50T k) ⟨[2, 3, 4, 5, 6], [], []⟩ (SumsOk.nil |>.s (f50p0O k) (by kernel_rfl)) (by kernel_rfl) fun _ _ _ _ => by kernel_rfl
noncomputable def f50F (k : Nat) (x : ByteArray) : Option (D48) :=
  f50l1 k
    (fun (w4 : D137) =>
      some ((w4.2.2.2.2.1, w4.2.2.2.2.2.1), w4.1, w4.2.1))
    (fun (w5 : D138) =>
      Option.bind (f82F k (w5.1, w5.2.1)) fun y6 =>
      some ((y6.1, ByteArray.empty), (0 : Int), (0 : Int)))
    (x, (0 : Int), (15 : Int), (0 : Int), (0 : Int), ByteArray.empty, ())
theorem f50Ok (k : Nat) : FnV P 145 [.dat .str] [.agg Y12, .dat (.int .i64), .dat (.int .i64)] (f50F k) :=
  fs tm (f50T k) Tryz.func145 (by kernel_rfl) (SumsOk.nil |>.s (f50l1O k) (by kernel_rfl) |>.s (f50p0O k) (by kernel_rfl)) none fun _ => by kernel_rfl
/-! ## midrange/midrangeref01.decodePacked -/
noncomputable def f51T (k : Nat) : TB P := TB.nil |>.u (f82Ok k)
noncomputable def f51p0 {R : Type} (k : Nat) (k0 : D139 → Option R) (v : D139) : Option R :=
  bif ((Int.tmod v.2.2.1 (2 : Int)) == (1 : Int)) then
    bif ((decide ((0 : Int) ≤ (IntKind.i64.wrap (Int.tdiv v.2.2.1 (2 : Int))))) && (decide ((IntKind.i64.wrap (Int.tdiv v.2.2.1 (2 : Int))) < (v.1.size : Int)))) then
    let t2 := (IntKind.i64.wrap (bt v.1 (IntKind.i64.wrap (Int.tdiv v.2.2.1 (2 : Int)))))
    k0 (v.1, v.2.1, v.2.2.1, (Int.tmod t2 (16 : Int)), v.2.2.2.2.1, v.2.2.2.2.2.1, v.2.2.2.2.2.2.1, v.2.2.2.2.2.2.2.1, v.2.2.2.2.2.2.2.2.1, ())
    else none
  else
  k0 (v.1, v.2.1, v.2.2.1, v.2.2.2.1, v.2.2.2.2.1, v.2.2.2.2.2.1, v.2.2.2.2.2.2.1, v.2.2.2.2.2.2.2.1, v.2.2.2.2.2.2.2.2.1, ())
noncomputable def f51p0S (k : Nat) := partSum ⟨[(1, .one (.str)), (2, .one (.ptr 0 0)), (4, .one (.ptr 1 0)), (7, .one (.int .i64)), (8, .one (.int .i64)), (9, .one (.int .i64))], [(0, .var 115 [.int .i64, .int .i64, .int .i64]), (1, .var 176 [.int .i64, .str])], 2, []⟩ ⟨[1, 2, 4, 7, 8, 9], [], []⟩ fun R K v => f51p0 k (fun w => K .normal (encSt ⟨[(1, .one (.str)), (2, .one (.ptr 0 0)), (4, .one (.ptr 1 0)), (7, .one (.int .i64)), (8, .one (.int .i64)), (9, .one (.int .i64))], [(0, .var 115 [.int .i64, .int .i64, .int .i64]), (1, .var 176 [.int .i64, .str])], 2, []⟩ w)) v
theorem f51p0O (k : Nat) : SumO P Tryz.f146 3730 (f51p0S k) := pt tm (f51T k) ⟨[1, 2, 4, 5, 6, 7, 8, 9], [], []⟩ SumsOk.nil fun _ _ _ => by kernel_rfl
noncomputable def f51p1 {R : Type} (k : Nat) (k0 : D140 → Option R) (v : D140) : Option R :=
  let t4 := (IntKind.i64.wrap ((IntKind.i64.wrap ((2 : Int) * (v.1.size : Int))) - (1 : Int)))
  bif (v.2.2.1 == t4) then
    k0 (v.1, v.2.1, v.2.2.1, v.2.2.2.1, (decide (v.2.2.2.1 < (10 : Int))), v.2.2.2.2.2.1, v.2.2.2.2.2.2.1, v.2.2.2.2.2.2.2.1, v.2.2.2.2.2.2.2.2.1, v.2.2.2.2.2.2.2.2.2.1, ())
  else
  k0 (v.1, v.2.1, v.2.2.1, v.2.2.2.1, v.2.2.2.2.1, v.2.2.2.2.2.1, v.2.2.2.2.2.2.1, v.2.2.2.2.2.2.2.1, v.2.2.2.2.2.2.2.2.1, v.2.2.2.2.2.2.2.2.2.1, ())
noncomputable def f51p1S (k : Nat) := partSum ⟨[(1, .one (.str)), (2, .one (.ptr 0 0)), (4, .one (.ptr 1 0)), (7, .one (.int .i64)), (8, .one (.int .i64)), (9, .one (.int .i64)), (10, .one (.bool))], [(0, .var 115 [.int .i64, .int .i64, .int .i64]), (1, .var 176 [.int .i64, .str])], 2, []⟩ ⟨[1, 2, 4, 7, 8, 9, 10], [], []⟩ fun R K v => f51p1 k (fun w => K .normal (encSt ⟨[(1, .one (.str)), (2, .one (.ptr 0 0)), (4, .one (.ptr 1 0)), (7, .one (.int .i64)), (8, .one (.int .i64)), (9, .one (.int .i64)), (10, .one (.bool))], [(0, .var 115 [.int .i64, .int .i64, .int .i64]), (1, .var 176 [.int .i64, .str])], 2, []⟩ w)) v
theorem f51p1O (k : Nat) : SumO P Tryz.f146 14926 (f51p1S k) := pt tm (f51T k) ⟨[1, 2, 4, 5, 6, 7, 8, 9, 10], [], []⟩ SumsOk.nil fun _ _ _ => by kernel_rfl
noncomputable def f51p2 {R : Type} (k : Nat) (k0 : D141 → Option R) (k1 : D139 → Option R) (v : D140) : Option R :=
  bif v.2.2.2.2.1 then
    k0 (v.1, (IntKind.i64.wrap (Int.tdiv v.2.2.1 (2 : Int))), (21 : Int), v.2.1, v.2.2.1, v.2.2.2.1, v.2.2.2.2.2.1, v.2.2.2.2.2.2.1, v.2.2.2.2.2.2.2.1, (0 : Int), ByteArray.empty, ())
  else
  bif (v.2.2.1 == (0 : Int)) then
    bif ((Int.tmod v.2.2.2.2.2.2.1 (2 : Int)) == (0 : Int)) then
      bif (v.2.2.2.1 != (0 : Int)) then
        k0 (v.1, (IntKind.i64.wrap (Int.tdiv v.2.2.1 (2 : Int))), (21 : Int), v.2.1, v.2.2.1, v.2.2.2.1, v.2.2.2.2.2.1, v.2.2.2.2.2.2.1, v.2.2.2.2.2.2.2.1, (0 : Int), ByteArray.empty, ())
      else
      k1 (v.1, v.2.1, v.2.2.1, v.2.2.2.1, v.2.2.2.2.2.1, v.2.2.2.2.2.2.1, v.2.2.2.2.2.2.2.1, v.2.2.2.2.2.2.2.2.1, v.2.2.2.2.2.2.2.2.2.1, ())
    else
    k1 (v.1, v.2.1, v.2.2.1, v.2.2.2.1, v.2.2.2.2.2.1, v.2.2.2.2.2.2.1, v.2.2.2.2.2.2.2.1, v.2.2.2.2.2.2.2.2.1, v.2.2.2.2.2.2.2.2.2.1, ())
  else
  k1 (v.1, v.2.1, v.2.2.1, v.2.2.2.1, v.2.2.2.2.2.1, v.2.2.2.2.2.2.1, v.2.2.2.2.2.2.2.1, v.2.2.2.2.2.2.2.2.1, v.2.2.2.2.2.2.2.2.2.1, ())
noncomputable def f51p2S (k : Nat) := partSum ⟨[(1, .one (.str)), (2, .one (.ptr 0 0)), (4, .one (.ptr 1 0)), (7, .one (.int .i64)), (8, .one (.int .i64)), (9, .one (.int .i64)), (10, .one (.bool))], [(0, .var 115 [.int .i64, .int .i64, .int .i64]), (1, .var 176 [.int .i64, .str])], 2, []⟩ ⟨[1, 2, 4, 7, 8, 9, 10], [], []⟩ fun R K v => f51p2 k (fun w => K .ret (encSt ⟨[(1, .one (.str)), (2, .one (.ptr 0 0)), (4, .one (.ptr 1 0)), (5, .one (.int .i64)), (6, .one (.int .i64)), (7, .one (.int .i64)), (8, .one (.int .i64)), (9, .one (.int .i64))], [(0, .var 115 [.int .i64, .int .i64, .int .i64]), (1, .var 176 [.int .i64, .str])], 2, []⟩ w)) (fun w => K .normal (encSt ⟨[(1, .one (.str)), (2, .one (.ptr 0 0)), (4, .one (.ptr 1 0)), (7, .one (.int .i64)), (8, .one (.int .i64)), (9, .one (.int .i64))], [(0, .var 115 [.int .i64, .int .i64, .int .i64]), (1, .var 176 [.int .i64, .str])], 2, []⟩ w)) v
theorem f51p2O (k : Nat) : SumO P Tryz.f146 29854 (f51p2S k) := pt tm (f51T k) ⟨[1, 2, 4, 5, 6, 7, 8, 9], [], []⟩ SumsOk.nil fun _ _ _ => by kernel_rfl
noncomputable def f51p3 {R : Type} (k : Nat) (k0 : D142 → Option R) (k1 : D143 → Option R) (v : D143) : Option R :=
  bif ((decide ((0 : Int) ≤ (IntKind.i64.wrap (Int.tdiv v.2.2.1 (2 : Int))))) && (decide ((IntKind.i64.wrap (Int.tdiv v.2.2.1 (2 : Int))) < (v.1.size : Int)))) then
  let t1 := (IntKind.i64.wrap (bt v.1 (IntKind.i64.wrap (Int.tdiv v.2.2.1 (2 : Int)))))
  f51p0 k
    (fun (w3 : D139) =>
      f51p1 k
        (fun (w5 : D140) =>
          f51p2 k
            (fun (w6 : D141) =>
              k0 (w6.1, w6.2.1, w6.2.2.1, w6.2.2.2.1, w6.2.2.2.2.1, w6.2.2.2.2.2.2.1, w6.2.2.2.2.2.2.2.1, w6.2.2.2.2.2.2.2.2.1, w6.2.2.2.2.2.2.2.2.2.1, w6.2.2.2.2.2.2.2.2.2.2.1, ()))
            (fun (w7 : D139) =>
              let t8 := (IntKind.i64.wrap ((IntKind.i64.wrap ((2 : Int) * (w7.1.size : Int))) - (1 : Int)))
              bif (w7.2.2.1 == t8) then
                Option.bind (f82F k (w7.2.1, w7.2.2.2.1)) fun y9 =>
                k1 (w7.1, y9.1, w7.2.2.1, w7.2.2.2.2.1, w7.2.2.2.2.2.1, w7.2.2.2.2.2.2.1, w7.2.2.2.2.2.2.2.1, w7.2.2.2.2.2.2.2.2.1, ())
              else
              let t10 := (IntKind.i64.wrap ((IntKind.i64.wrap ((10 : Int) * w7.2.1)) + w7.2.2.2.1))
              k1 (w7.1, t10, w7.2.2.1, w7.2.2.2.2.1, w7.2.2.2.2.2.1, w7.2.2.2.2.2.2.1, w7.2.2.2.2.2.2.2.1, w7.2.2.2.2.2.2.2.2.1, ()))
            (w5.1, w5.2.1, w5.2.2.1, w5.2.2.2.1, w5.2.2.2.2.1, w5.2.2.2.2.2.1, w5.2.2.2.2.2.2.1, w5.2.2.2.2.2.2.2.1, w5.2.2.2.2.2.2.2.2.1, w5.2.2.2.2.2.2.2.2.2.1, ()))
        (w3.1, w3.2.1, w3.2.2.1, w3.2.2.2.1, (decide (w3.2.2.2.1 > (9 : Int))), w3.2.2.2.2.1, w3.2.2.2.2.2.1, w3.2.2.2.2.2.2.1, w3.2.2.2.2.2.2.2.1, w3.2.2.2.2.2.2.2.2.1, ()))
    (v.1, v.2.1, v.2.2.1, (IntKind.i64.wrap (Int.tdiv t1 (16 : Int))), v.2.2.2.1, v.2.2.2.2.1, v.2.2.2.2.2.1, v.2.2.2.2.2.2.1, v.2.2.2.2.2.2.2.1, ())
  else none
noncomputable def f51p3S (k : Nat) := partSum ⟨[(1, .one (.str)), (2, .one (.ptr 0 0)), (4, .one (.ptr 1 0)), (7, .one (.int .i64)), (8, .one (.int .i64))], [(0, .var 115 [.int .i64, .int .i64, .int .i64]), (1, .var 176 [.int .i64, .str])], 2, []⟩ ⟨[1, 2, 4, 7, 8], [], []⟩ fun R K v => f51p3 k (fun w => K .ret (encSt ⟨[(1, .one (.str)), (2, .one (.ptr 0 0)), (4, .one (.ptr 1 0)), (5, .one (.int .i64)), (6, .one (.int .i64)), (7, .one (.int .i64)), (8, .one (.int .i64))], [(0, .var 115 [.int .i64, .int .i64, .int .i64]), (1, .var 176 [.int .i64, .str])], 2, []⟩ w)) (fun w => K .normal (encSt ⟨[(1, .one (.str)), (2, .one (.ptr 0 0)), (4, .one (.ptr 1 0)), (7, .one (.int .i64)), (8, .one (.int .i64))], [(0, .var 115 [.int .i64, .int .i64, .int .i64]), (1, .var 176 [.int .i64, .str])], 2, []⟩ w)) v
theorem f51p3O (k : Nat) : SumO P Tryz.f146 466 (f51p3S k) := pt tm (f51T k) ⟨[1, 2, 4, 5, 6, 7, 8], [], []⟩ (SumsOk.nil |>.s (f51p2O k) (by kernel_rfl) |>.s (f51p1O k) (by kernel_rfl) |>.s (f51p0O k) (by kernel_rfl)) fun _ _ _ => by kernel_rfl
noncomputable def f51l4s {R : Type} (k : Nat) (rec : D143 → Option R) (k0 : D144 → Option R) (k1 : D145 → Option R) (v : D143) : Option R :=
  bif (decide (v.2.2.1 < (IntKind.i64.wrap ((2 : Int) * (v.1.size : Int))))) then
    f51p3 k
      (fun (w11 : D142) =>
        k0 (w11.2.1, w11.2.2.1, w11.2.2.2.1, w11.2.2.2.2.2.2.2.2.1, w11.2.2.2.2.2.2.2.2.2.1, ()))
      (fun (w12 : D143) =>
        rec (w12.1, w12.2.1, (IntKind.i64.wrap (w12.2.2.1 + (1 : Int))), w12.2.2.2.1, w12.2.2.2.2.1, w12.2.2.2.2.2.1, w12.2.2.2.2.2.2.1, w12.2.2.2.2.2.2.2.1, ()))
      (v.1, v.2.1, v.2.2.1, v.2.2.2.1, v.2.2.2.2.1, v.2.2.2.2.2.1, v.2.2.2.2.2.2.1, v.2.2.2.2.2.2.2.1, ())
  else
  k1 (v.2.1, v.2.2.2.2.2.2.1, v.2.2.2.2.2.2.2.1, ())
noncomputable def f51l4 {R : Type} (k : Nat) (k0 : D144 → Option R) (k1 : D145 → Option R) (v : D143) : Option R := iterS (fun rec v => f51l4s k rec k0 k1 v) k v
noncomputable def f51l4S (k : Nat) := loopSum ⟨[(1, .one (.str)), (2, .one (.ptr 0 0)), (4, .one (.ptr 1 0)), (7, .one (.int .i64)), (8, .one (.int .i64))], [(0, .var 115 [.int .i64, .int .i64, .int .i64]), (1, .var 176 [.int .i64, .str])], 2, []⟩ ⟨[1, 2, 4, 7, 8], [], []⟩ k fun R rec K v => f51l4s k rec (fun w => K .ret (encSt ⟨[(4, .one (.ptr 0 0)), (5, .one (.int .i64)), (6, .one (.int .i64)), (7, .one (.int .i64))], [(0, .var 176 [.int .i64, .str])], 1, []⟩ w)) (fun w => K (.exit 0) (encSt ⟨[(4, .one (.ptr 0 0)), (7, .one (.int .i64))], [(0, .var 176 [.int .i64, .str])], 1, []⟩ w)) v
theorem f51l4O (k : Nat) : SumO P Tryz.f146 58 (f51l4S k) := lp tm (f51T k) ⟨[4, 5, 6, 7], [], []⟩ (SumsOk.nil |>.s (f51p3O k) (by kernel_rfl) |>.s (f51p2O k) (by kernel_rfl) |>.s (f51p1O k) (by kernel_rfl) |>.s (f51p0O k) (by kernel_rfl)) (by kernel_rfl) fun _ _ _ _ => by kernel_rfl
noncomputable def f51F (k : Nat) (x : D40) : Option (D48) :=
  f51l4 k
    (fun (w13 : D144) =>
      some ((w13.2.2.2.1, w13.2.2.2.2.1), w13.1, w13.2.1))
    (fun (w14 : D145) =>
      some ((w14.1, ByteArray.empty), (0 : Int), (0 : Int)))
    (x.2, (0 : Int), (0 : Int), x.1.1, x.1.2.1, x.1.2.2, (0 : Int), ByteArray.empty, ())
theorem f51Ok (k : Nat) : FnV P 146 [.agg (.pair (.int .i64) Y6), .dat .str] [.agg Y12, .dat (.int .i64), .dat (.int .i64)] (f51F k) :=
  fs tm (f51T k) Tryz.func146 (by kernel_rfl) (SumsOk.nil |>.s (f51l4O k) (by kernel_rfl) |>.s (f51p3O k) (by kernel_rfl) |>.s (f51p2O k) (by kernel_rfl) |>.s (f51p1O k) (by kernel_rfl) |>.s (f51p0O k) (by kernel_rfl)) none fun _ => by kernel_rfl
/-! ## midrange/midrangeref01.Decode -/
noncomputable def f17T (k : Nat) : TB P := TB.nil |>.u (f51Ok k) |>.u (f50Ok k) |>.u (f49Ok k) |>.u (f47Ok k) |>.u (f27Ok k) |>.u (f31Ok k) |>.u (f48Ok k)
noncomputable def f17p0 {R : Type} (k : Nat) (k0 : D137 → Option R) (v : D47) : Option R :=
  bif (decide ((0 : Int) < (v.1.size : Int))) then
  bif (decide ((bt v.1 (0 : Int)) ≥ (128 : Int))) then
    bif (decide ((0 : Int) ≤ (IntKind.i64.wrap ((8 : Int) * (v.1.size : Int))))) then
    let t4 := (shlI .i64 (1 : Int) (IntKind.i64.wrap ((8 : Int) * (v.1.size : Int))))
    k0 ((IntKind.i64.wrap (v.2.1 - t4)), v.2.2.1, v.2.2.2.1, v.2.2.2.2.1, v.2.2.2.2.2.1, v.2.2.2.2.2.2.1, ())
    else none
  else
  k0 (v.2.1, v.2.2.1, v.2.2.2.1, v.2.2.2.2.1, v.2.2.2.2.2.1, v.2.2.2.2.2.2.1, ())
  else none
noncomputable def f17p0S (k : Nat) := partSum ⟨[(1, .one (.str)), (2, .one (.ptr 0 0)), (4, .one (.ptr 1 0)), (8, .one (.int .i64))], [(0, .var 115 [.int .i64, .int .i64, .int .i64]), (1, .var 176 [.int .i64, .str])], 2, []⟩ ⟨[1, 2, 4, 8], [], []⟩ fun R K v => f17p0 k (fun w => K .normal (encSt ⟨[(2, .one (.ptr 0 0)), (4, .one (.ptr 1 0)), (8, .one (.int .i64))], [(0, .var 115 [.int .i64, .int .i64, .int .i64]), (1, .var 176 [.int .i64, .str])], 2, []⟩ w)) v
theorem f17p0O (k : Nat) : SumO P Tryz.f129 16058 (f17p0S k) := pt tm (f17T k) ⟨[2, 4, 5, 6, 8], [], []⟩ SumsOk.nil fun _ _ _ => by kernel_rfl
noncomputable def f17F (k : Nat) (x : D40) : Option (D48) :=
  Option.bind (f27F k (x.1.1, (x.1.2.1, x.1.2.2))) fun y1 =>
  bif (y1 != (0 : Int)) then
    some (((0 : Int), ByteArray.empty), (0 : Int), y1)
  else
  bif (x.1.1 == (4 : Int)) then
    some (((0 : Int), ByteArray.empty), (0 : Int), (17 : Int))
  else
  Option.bind (f31F k (x.1.1, (x.1.2.1, x.1.2.2))) fun y2 =>
  bif ((x.2.size : Int) != y2) then
    some (((0 : Int), ByteArray.empty), (0 : Int), (18 : Int))
  else
  bif (x.1.1 == (0 : Int)) then
    some (((0 : Int), x.2), (0 : Int), (0 : Int))
  else
  bif (x.1.1 == (3 : Int)) then
    Option.bind (f47F k (x.2, (0 : Int), (x.2.size : Int))) fun y3 =>
    f17p0 k
      (fun (w5 : D137) =>
        Option.bind (f49F k (w5.2.1, (w5.2.2.1, w5.2.2.2.1))) fun y6 =>
        Option.bind (f49F k (w5.2.1, (w5.2.2.1, w5.2.2.2.1))) fun y7 =>
        Option.bind (f48F k (w5.1, (IntKind.i64.wrap (0 - y6)), y7)) fun y8 =>
        bif (!y8) then
          some (((0 : Int), ByteArray.empty), (0 : Int), (19 : Int))
        else
        some ((w5.1, ByteArray.empty), (0 : Int), (0 : Int)))
      (x.2, y3, x.1.1, x.1.2.1, x.1.2.2, (0 : Int), ByteArray.empty, ())
  else
  bif (x.1.1 == (2 : Int)) then
    Option.bind (f50F k x.2) fun y9 =>
    some ((y9.1.1, y9.1.2), y9.2.1, y9.2.2)
  else
  Option.bind (f51F k ((x.1.1, (x.1.2.1, x.1.2.2)), x.2)) fun y10 =>
  some ((y10.1.1, y10.1.2), y10.2.1, y10.2.2)
theorem f17Ok (k : Nat) : FnV P 129 [.agg (.pair (.int .i64) Y6), .dat .str] [.agg Y12, .dat (.int .i64), .dat (.int .i64)] (f17F k) :=
  fs tm (f17T k) Tryz.func129 (by kernel_rfl) (SumsOk.nil |>.s (f17p0O k) (by kernel_rfl)) none fun _ => by kernel_rfl
/-! ## midrange/midrangeref01.Amount -/
noncomputable def f79F (k : Nat) (x : Int) : Option (Int) :=
  some (mxI x (IntKind.i64.wrap (0 - x)))
theorem f79Ok (k : Nat) : FnV P 148 [.dat (.int .i64)] [.dat (.int .i64)] (f79F k) :=
  fs tm TB.nil Tryz.func148 (by kernel_rfl) SumsOk.nil none fun _ => by kernel_rfl
/-! ## midrange/midrangebase.Digits -/
noncomputable def f847T (k : Nat) {r : Int → Option (ByteArray)} (hr : FnV P 147 [.dat (.int .i64)] [.dat .str] r) : TB P := TB.nil |>.u hr
noncomputable def f847G (k : Nat) (r : Int → Option (ByteArray)) (x : Int) : Option (ByteArray) :=
  bif (decide (x < (-9 : Int))) then
    Option.bind (r (IntKind.i64.wrap (0 - (IntKind.i64.wrap (Int.tdiv x (10 : Int)))))) fun y1 =>
    bif (decide ((⟨#[45]⟩ : ByteArray).size + y1.size ≤ 9223372036854775807)) then
    Option.bind (r (IntKind.i64.wrap (0 - (Int.tmod x (10 : Int))))) fun y2 =>
    bif (decide (((⟨#[45]⟩ : ByteArray) ++ y1).size + y2.size ≤ 9223372036854775807)) then
    some (((⟨#[45]⟩ : ByteArray) ++ y1) ++ y2)
    else none
    else none
  else
  bif (decide (x < (0 : Int))) then
    Option.bind (r (IntKind.i64.wrap (0 - x))) fun y3 =>
    bif (decide ((⟨#[45]⟩ : ByteArray).size + y3.size ≤ 9223372036854775807)) then
    some ((⟨#[45]⟩ : ByteArray) ++ y3)
    else none
  else
  bif (decide (x < (10 : Int))) then
    some (strOfNums [(IntKind.u8.wrap (IntKind.i64.wrap ((48 : Int) + x)))])
  else
  Option.bind (r (IntKind.i64.wrap (Int.tdiv x (10 : Int)))) fun y4 =>
  let t5 := (IntKind.u8.wrap (IntKind.i64.wrap ((48 : Int) + (Int.tmod x (10 : Int)))))
  bif (decide (y4.size + (strOfNums [t5]).size ≤ 9223372036854775807)) then
  some (y4 ++ (strOfNums [t5]))
  else none
theorem f847Z (k : Nat) {r : Int → Option (ByteArray)} (hr : FnV P 147 [.dat (.int .i64)] [.dat .str] r) : FnV P 147 [.dat (.int .i64)] [.dat .str] (f847G k r) :=
  fs tm (f847T k hr) Tryz.func147 (by kernel_rfl) SumsOk.nil none fun _ => by kernel_rfl
noncomputable def f847R (k : Nat) : Nat → (Int) → Option (ByteArray)
  | 0, _ => none
  | n + 1, x => f847G k (f847R k n) x
theorem f847Y (k : Nat) : ∀ n : Nat, FnV P 147 [.dat (.int .i64)] [.dat .str] (f847R k n)
  | 0 => ⟨⟨Tryz.f147, Tryz.func147, (okB_body (by kernel_rfl)).2⟩, fun _ _ h => by cases h⟩
  | n + 1 => f847Z k (f847Y k n)
noncomputable def f847F (k : Nat) (x : Int) : Option (ByteArray) := f847R k k x
theorem f847Ok (k : Nat) : FnV P 147 [.dat (.int .i64)] [.dat .str] (f847F k) := f847Y k k
/-! ## midrange/midrangeref01.Text -/
noncomputable def f830T (k : Nat) : TB P := TB.nil |>.u (f79Ok k) |>.u (f847Ok k)
noncomputable def f830l0s {R : Type} (k : Nat) (rec : D49 → Option R) (k0 : D49 → Option R) (v : D49) : Option R :=
  bif (decide ((v.1.size : Int) ≤ v.2.2.1)) then
    bif (decide ((⟨#[48]⟩ : ByteArray).size + v.1.size ≤ 9223372036854775807)) then
    rec (((⟨#[48]⟩ : ByteArray) ++ v.1), v.2.1, v.2.2.1, ())
    else none
  else
  k0 (v.1, v.2.1, v.2.2.1, ())
noncomputable def f830l0 {R : Type} (k : Nat) (k0 : D49 → Option R) (v : D49) : Option R := iterS (fun rec v => f830l0s k rec k0 v) k v
noncomputable def f830l0S (k : Nat) := loopSum ⟨[(1, .one (.ptr 0 0)), (3, .one (.str))], [(0, .var 181 [.int .i64, .int .i64])], 1, []⟩ ⟨[1, 3], [], []⟩ k fun R rec K v => f830l0s k rec (fun w => K (.exit 0) (encSt ⟨[(1, .one (.ptr 0 0)), (3, .one (.str))], [(0, .var 181 [.int .i64, .int .i64])], 1, []⟩ w)) v
theorem f830l0O (k : Nat) : SumO P Tryz.f130 28 (f830l0S k) := lp tm (f830T k) ⟨[1, 2, 3], [], []⟩ SumsOk.nil (by kernel_rfl) fun _ _ _ _ => by kernel_rfl
noncomputable def f830p1 {R : Type} (k : Nat) (k0 : D49 → Option R) (v : D49) : Option R :=
  bif (decide (v.2.2.1 > (0 : Int))) then
    bif (sliceBds (0 : Int) (IntKind.i64.wrap ((v.1.size : Int) - v.2.2.1)) (v.1.size : Int)) then
    let t4 := (v.1.extract 0 (Int.toNat (IntKind.i64.wrap ((v.1.size : Int) - v.2.2.1))))
    bif (decide (t4.size + (⟨#[46]⟩ : ByteArray).size ≤ 9223372036854775807)) then
    bif (sliceBds (IntKind.i64.wrap ((v.1.size : Int) - v.2.2.1)) (v.1.size : Int) (v.1.size : Int)) then
    let t5 := (v.1.extract (Int.toNat (IntKind.i64.wrap ((v.1.size : Int) - v.2.2.1))) (Int.toNat (v.1.size : Int)))
    bif (decide ((t4 ++ (⟨#[46]⟩ : ByteArray)).size + t5.size ≤ 9223372036854775807)) then
    k0 (((t4 ++ (⟨#[46]⟩ : ByteArray)) ++ t5), v.2.1, v.2.2.1, ())
    else none
    else none
    else none
    else none
  else
  k0 (v.1, v.2.1, v.2.2.1, ())
noncomputable def f830p1S (k : Nat) := partSum ⟨[(1, .one (.ptr 0 0)), (3, .one (.str))], [(0, .var 181 [.int .i64, .int .i64])], 1, []⟩ ⟨[1, 3], [], []⟩ fun R K v => f830p1 k (fun w => K .normal (encSt ⟨[(1, .one (.ptr 0 0)), (3, .one (.str))], [(0, .var 181 [.int .i64, .int .i64])], 1, []⟩ w)) v
theorem f830p1O (k : Nat) : SumO P Tryz.f130 30 (f830p1S k) := pt tm (f830T k) ⟨[1, 2, 3], [], []⟩ SumsOk.nil fun _ _ _ => by kernel_rfl
noncomputable def f830p2 {R : Type} (k : Nat) (k0 : D49 → Option R) (v : D49) : Option R :=
  bif (decide (v.2.1 < (0 : Int))) then
    bif (decide ((⟨#[45]⟩ : ByteArray).size + v.1.size ≤ 9223372036854775807)) then
    k0 (((⟨#[45]⟩ : ByteArray) ++ v.1), v.2.1, v.2.2.1, ())
    else none
  else
  k0 (v.1, v.2.1, v.2.2.1, ())
noncomputable def f830p2S (k : Nat) := partSum ⟨[(1, .one (.ptr 0 0)), (3, .one (.str))], [(0, .var 181 [.int .i64, .int .i64])], 1, []⟩ ⟨[1, 3], [], []⟩ fun R K v => f830p2 k (fun w => K .normal (encSt ⟨[(1, .one (.ptr 0 0)), (3, .one (.str))], [(0, .var 181 [.int .i64, .int .i64])], 1, []⟩ w)) v
theorem f830p2O (k : Nat) : SumO P Tryz.f130 62 (f830p2S k) := pt tm (f830T k) ⟨[1, 2, 3], [], []⟩ SumsOk.nil fun _ _ _ => by kernel_rfl
noncomputable def f830F (k : Nat) (x : (Int × Int)) : Option (ByteArray) :=
  Option.bind (f79F k x.1) fun y1 =>
  Option.bind (f847F k y1) fun y2 =>
  f830l0 k
    (fun (w3 : D49) =>
      f830p1 k
        (fun (w6 : D49) =>
          f830p2 k
            (fun (w7 : D49) =>
              some w7.1)
            (w6.1, w6.2.1, w6.2.2.1, ()))
        (w3.1, w3.2.1, w3.2.2.1, ()))
    (y2, x.1, x.2, ())
theorem f830Ok (k : Nat) : FnV P 130 [.agg Y6] [.dat .str] (f830F k) :=
  fs tm (f830T k) Tryz.func130 (by kernel_rfl) (SumsOk.nil |>.s (f830p2O k) (by kernel_rfl) |>.s (f830p1O k) (by kernel_rfl) |>.s (f830l0O k) (by kernel_rfl)) none fun _ => by kernel_rfl
/-! ## midrange/midrangeref18.FieldText -/
noncomputable def f809T (k : Nat) : TB P := TB.nil |>.u (f830Ok k) |>.u (f17Ok k) |>.u (f31Ok k)
noncomputable def f809l0s {R : Type} (k : Nat) (rec : D147 → Option R) (k0 : D146 → Option R) (v : D147) : Option R :=
  bif (decide (v.2.2.2.2.1 < v.2.2.1)) then
    bif ((decide ((0 : Int) ≤ v.2.2.2.2.1)) && (decide (v.2.2.2.2.1 < (v.1.length : Int)))) then
    let t1 := (v.1.getD (Int.toNat v.2.2.2.2.1) ((0 : Int), ((0 : Int), (0 : Int)))).1
    let t2 := (v.1.getD (Int.toNat v.2.2.2.2.1) ((0 : Int), ((0 : Int), (0 : Int)))).2.1
    let t3 := (v.1.getD (Int.toNat v.2.2.2.2.1) ((0 : Int), ((0 : Int), (0 : Int)))).2.2
    Option.bind (f31F k (t1, (t2, t3))) fun y4 =>
    rec (v.1, v.2.1, v.2.2.1, (IntKind.i64.wrap (v.2.2.2.1 + y4)), (IntKind.i64.wrap (v.2.2.2.2.1 + (1 : Int))), ())
    else none
  else
  k0 (v.1, v.2.1, v.2.2.1, v.2.2.2.1, ())
noncomputable def f809l0 {R : Type} (k : Nat) (k0 : D146 → Option R) (v : D147) : Option R := iterS (fun rec v => f809l0s k rec k0 v) k v
noncomputable def f809l0S (k : Nat) := loopSum ⟨[(0, .one (.ro (.pair (.int .i64) Y6))), (1, .one (.str)), (2, .one (.int .i64)), (7, .one (.int .i64)), (8, .one (.int .i64))], [], 0, []⟩ ⟨[0, 1, 2, 7, 8], [], []⟩ k fun R rec K v => f809l0s k rec (fun w => K (.exit 0) (encSt ⟨[(0, .one (.ro (.pair (.int .i64) Y6))), (1, .one (.str)), (2, .one (.int .i64)), (7, .one (.int .i64))], [], 0, []⟩ w)) v
theorem f809l0O (k : Nat) : SumO P Tryz.f109 58 (f809l0S k) := lp tm (f809T k) ⟨[0, 1, 2, 6, 7], [], []⟩ SumsOk.nil (by kernel_rfl) fun _ _ _ _ => by kernel_rfl
noncomputable def f809l1s {R : Type} (k : Nat) (rec : ByteArray × Int × Unit → Option R) (k0 : ByteArray × Int × Unit → Option R) (v : ByteArray × Int × Unit) : Option R :=
  bif (decide (v.2.1 > (0 : Int))) then
    bif ((decide ((0 : Int) ≤ (IntKind.i64.wrap (v.2.1 - (1 : Int))))) && (decide ((IntKind.i64.wrap (v.2.1 - (1 : Int))) < (v.1.size : Int)))) then
    bif ((bt v.1 (IntKind.i64.wrap (v.2.1 - (1 : Int)))) == (32 : Int)) then
      rec (v.1, (IntKind.i64.wrap (v.2.1 - (1 : Int))), ())
    else
    k0 (v.1, v.2.1, ())
    else none
  else
  k0 (v.1, v.2.1, ())
noncomputable def f809l1 {R : Type} (k : Nat) (k0 : ByteArray × Int × Unit → Option R) (v : ByteArray × Int × Unit) : Option R := iterS (fun rec v => f809l1s k rec k0 v) k v
noncomputable def f809l1S (k : Nat) := loopSum ⟨[(10, .one (.str)), (14, .one (.int .i64))], [], 0, []⟩ ⟨[10, 14], [], []⟩ k fun R rec K v => f809l1s k rec (fun w => K (.exit 2) (encSt ⟨[(10, .one (.str)), (14, .one (.int .i64))], [], 0, []⟩ w)) v
theorem f809l1O (k : Nat) : SumO P Tryz.f109 2044 (f809l1S k) := lp tm (f809T k) ⟨[6, 10, 14], [], []⟩ SumsOk.nil (by kernel_rfl) fun _ _ _ _ => by kernel_rfl
noncomputable def f809p2 {R : Type} (k : Nat) (k0 : D1 → Option R) (v : D1) : Option R :=
  bif ((decide ((0 : Int) ≤ v.2.1)) && (decide (v.2.1 < (v.2.2.1.length : Int)))) then
  bif (decide ((v.2.2.1.getD (Int.toNat v.2.1) (0 : Int)) < (32 : Int))) then
    bif ((decide ((0 : Int) ≤ v.2.1)) && (decide (v.2.1 < (v.2.2.1.length : Int)))) then
    k0 (v.1, v.2.1, (v.2.2.1.set (Int.toNat v.2.1) (63 : Int)), ())
    else none
  else
  bif ((decide ((0 : Int) ≤ v.2.1)) && (decide (v.2.1 < (v.2.2.1.length : Int)))) then
  bif (decide ((v.2.2.1.getD (Int.toNat v.2.1) (0 : Int)) > (126 : Int))) then
    bif ((decide ((0 : Int) ≤ v.2.1)) && (decide (v.2.1 < (v.2.2.1.length : Int)))) then
    k0 (v.1, v.2.1, (v.2.2.1.set (Int.toNat v.2.1) (63 : Int)), ())
    else none
  else
  k0 (v.1, v.2.1, v.2.2.1, ())
  else none
  else none
noncomputable def f809p2S (k : Nat) := partSum ⟨[(14, .one (.int .i64)), (15, .one (.own 0)), (16, .one (.int .i64))], [(0, .row 5 (.int .u8) .mark)], 1, []⟩ ⟨[14, 15, 16], [], []⟩ fun R K v => f809p2 k (fun w => K .normal (encSt ⟨[(14, .one (.int .i64)), (15, .one (.own 0)), (16, .one (.int .i64))], [(0, .row 5 (.int .u8) .mark)], 1, []⟩ w)) v
theorem f809p2O (k : Nat) : SumO P Tryz.f109 131026 (f809p2S k) := pt tm (f809T k) ⟨[0, 1, 2, 6, 7, 10, 14, 15, 16], [], []⟩ SumsOk.nil fun _ _ _ => by kernel_rfl
noncomputable def f809l3s {R : Type} (k : Nat) (rec : D1 → Option R) (k0 : List Int × Unit → Option R) (v : D1) : Option R :=
  bif (decide (v.2.1 < v.1)) then
    f809p2 k
      (fun (w15 : D1) =>
        rec (w15.1, (IntKind.i64.wrap (w15.2.1 + (1 : Int))), w15.2.2.1, ()))
      (v.1, v.2.1, v.2.2.1, ())
  else
  k0 (v.2.2.1, ())
noncomputable def f809l3 {R : Type} (k : Nat) (k0 : List Int × Unit → Option R) (v : D1) : Option R := iterS (fun rec v => f809l3s k rec k0 v) k v
noncomputable def f809l3S (k : Nat) := loopSum ⟨[(14, .one (.int .i64)), (15, .one (.own 0)), (16, .one (.int .i64))], [(0, .row 5 (.int .u8) .mark)], 1, []⟩ ⟨[14, 15, 16], [], []⟩ k fun R rec K v => f809l3s k rec (fun w => K (.exit 4) (encSt ⟨[(15, .one (.own 0))], [(0, .row 5 (.int .u8) .mark)], 1, []⟩ w)) v
theorem f809l3O (k : Nat) : SumO P Tryz.f109 16378 (f809l3S k) := lp tm (f809T k) ⟨[6, 15], [], []⟩ (SumsOk.nil |>.s (f809p2O k) (by kernel_rfl)) (by kernel_rfl) fun _ _ _ _ => by kernel_rfl
noncomputable def f809F (k : Nat) (x : D148) : Option (ByteArray) :=
  f809l0 k
    (fun (w5 : D146) =>
      bif ((decide ((0 : Int) ≤ w5.2.2.1)) && (decide (w5.2.2.1 < (w5.1.length : Int)))) then
      let t6 := (w5.1.getD (Int.toNat w5.2.2.1) ((0 : Int), ((0 : Int), (0 : Int)))).2.1
      let t7 := (w5.1.getD (Int.toNat w5.2.2.1) ((0 : Int), ((0 : Int), (0 : Int)))).2.2
      Option.bind (f31F k ((w5.1.getD (Int.toNat w5.2.2.1) ((0 : Int), ((0 : Int), (0 : Int)))).1, (t6, t7))) fun y8 =>
      bif (decide ((IntKind.i64.wrap (w5.2.2.2.1 + y8)) > (w5.2.1.size : Int))) then
        some (⟨#[42, 78]⟩ : ByteArray)
      else
      Option.bind (f31F k ((w5.1.getD (Int.toNat w5.2.2.1) ((0 : Int), ((0 : Int), (0 : Int)))).1, (t6, t7))) fun y9 =>
      bif (sliceBds w5.2.2.2.1 (IntKind.i64.wrap (w5.2.2.2.1 + y9)) (w5.2.1.size : Int)) then
      let t10 := (w5.2.1.extract (Int.toNat w5.2.2.2.1) (Int.toNat (IntKind.i64.wrap (w5.2.2.2.1 + y9))))
      let t11 := ((w5.1.getD (Int.toNat w5.2.2.1) ((0 : Int), ((0 : Int), (0 : Int)))).1 != (0 : Int))
      bif t11 then
        Option.bind (f17F k (((w5.1.getD (Int.toNat w5.2.2.1) ((0 : Int), ((0 : Int), (0 : Int)))).1, (t6, t7)), t10)) fun y12 =>
        bif (y12.2.2 != (0 : Int)) then
          some (⟨#[42, 78]⟩ : ByteArray)
        else
        Option.bind (f830F k (y12.1.1, t7)) fun y13 =>
        some y13
      else
      f809l1 k
        (fun (w14 : ByteArray × Int × Unit) =>
          bif (sliceBds (0 : Int) w14.2.1 (w14.1.size : Int)) then
          bif (decide ((w14.1.extract 0 (Int.toNat w14.2.1)).size ≤ 9223372036854775807)) then
          f809l3 k
            (fun (w16 : List Int × Unit) =>
              some (strOfNums w16.1))
            (w14.2.1, (0 : Int), (bytesOf (w14.1.extract 0 (Int.toNat w14.2.1))), ())
          else none
          else none)
        (t10, (t10.size : Int), ())
      else none
      else none)
    (x.1, x.2.1, x.2.2, (0 : Int), (0 : Int), ())
theorem f809Ok (k : Nat) : FnV P 109 [.dat (.slice (.pair (.int .i64) Y6)), .dat .str, .dat (.int .i64)] [.dat .str] (f809F k) :=
  fs tm (f809T k) Tryz.func109 (by kernel_rfl) (SumsOk.nil |>.s (f809l3O k) (by kernel_rfl) |>.s (f809p2O k) (by kernel_rfl) |>.s (f809l1O k) (by kernel_rfl) |>.s (f809l0O k) (by kernel_rfl)) none fun _ => by kernel_rfl
/-! ## midrange/midrangeref18.Text -/
noncomputable def f781T (k : Nat) : TB P := TB.nil |>.u (f809Ok k) |>.u (f48Ok k)
noncomputable def f781p0 {R : Type} (k : Nat) (k0 : D149 → Option R) (k1 : D149 → Option R) (v : D149) : Option R :=
  bif ((decide ((0 : Int) ≤ v.2.2.2.1)) && (decide (v.2.2.2.1 < (v.1.size : Int)))) then
  bif ((bt v.1 v.2.2.2.1) == (38 : Int)) then
    let t1 := (decide ((IntKind.i64.wrap (v.2.2.2.1 + (1 : Int))) < (v.1.size : Int)))
    bif t1 then
      bif ((decide ((0 : Int) ≤ (IntKind.i64.wrap (v.2.2.2.1 + (1 : Int))))) && (decide ((IntKind.i64.wrap (v.2.2.2.1 + (1 : Int))) < (v.1.size : Int)))) then
      let t2 := (IntKind.i64.wrap ((IntKind.i64.wrap (bt v.1 (IntKind.i64.wrap (v.2.2.2.1 + (1 : Int))))) - (48 : Int)))
      Option.bind (f48F k (t2, (1 : Int), (v.2.2.2.2.2.2.2.2.1.length : Int))) fun y3 =>
      bif y3 then
        bif ((decide ((0 : Int) ≤ (IntKind.i64.wrap (v.2.2.2.1 + (1 : Int))))) && (decide ((IntKind.i64.wrap (v.2.2.2.1 + (1 : Int))) < (v.1.size : Int)))) then
        let t4 := (IntKind.i64.wrap ((IntKind.i64.wrap (bt v.1 (IntKind.i64.wrap (v.2.2.2.1 + (1 : Int))))) - (49 : Int)))
        Option.bind (f809F k (v.2.2.2.2.2.2.2.2.1, v.2.1, t4)) fun y5 =>
        bif (decide (v.2.2.1.size + y5.size ≤ 9223372036854775807)) then
        k0 (v.1, v.2.1, (v.2.2.1 ++ y5), (IntKind.i64.wrap (v.2.2.2.1 + (1 : Int))), v.2.2.2.2.1, v.2.2.2.2.2.1, v.2.2.2.2.2.2.1, v.2.2.2.2.2.2.2.1, v.2.2.2.2.2.2.2.2.1, v.2.2.2.2.2.2.2.2.2.1, v.2.2.2.2.2.2.2.2.2.2.1, ())
        else none
        else none
      else
      k1 (v.1, v.2.1, v.2.2.1, v.2.2.2.1, v.2.2.2.2.1, v.2.2.2.2.2.1, v.2.2.2.2.2.2.1, v.2.2.2.2.2.2.2.1, v.2.2.2.2.2.2.2.2.1, v.2.2.2.2.2.2.2.2.2.1, v.2.2.2.2.2.2.2.2.2.2.1, ())
      else none
    else
    k1 (v.1, v.2.1, v.2.2.1, v.2.2.2.1, v.2.2.2.2.1, v.2.2.2.2.2.1, v.2.2.2.2.2.2.1, v.2.2.2.2.2.2.2.1, v.2.2.2.2.2.2.2.2.1, v.2.2.2.2.2.2.2.2.2.1, v.2.2.2.2.2.2.2.2.2.2.1, ())
  else
  k1 (v.1, v.2.1, v.2.2.1, v.2.2.2.1, v.2.2.2.2.1, v.2.2.2.2.2.1, v.2.2.2.2.2.2.1, v.2.2.2.2.2.2.2.1, v.2.2.2.2.2.2.2.2.1, v.2.2.2.2.2.2.2.2.2.1, v.2.2.2.2.2.2.2.2.2.2.1, ())
  else none
noncomputable def f781p0S (k : Nat) := partSum ⟨[(1, .one (.str)), (2, .one (.str)), (3, .one (.ptr 0 0)), (7, .one (.str)), (8, .one (.int .i64))], [(0, .var 82 [.str, .int .i64, .str, .str, .ro (.pair (.int .i64) Y6), .str, .ro .str])], 1, []⟩ ⟨[1, 2, 3, 7, 8], [], []⟩ fun R K v => f781p0 k (fun w => K (.exit 1) (encSt ⟨[(1, .one (.str)), (2, .one (.str)), (3, .one (.ptr 0 0)), (7, .one (.str)), (8, .one (.int .i64))], [(0, .var 82 [.str, .int .i64, .str, .str, .ro (.pair (.int .i64) Y6), .str, .ro .str])], 1, []⟩ w)) (fun w => K .normal (encSt ⟨[(1, .one (.str)), (2, .one (.str)), (3, .one (.ptr 0 0)), (7, .one (.str)), (8, .one (.int .i64))], [(0, .var 82 [.str, .int .i64, .str, .str, .ro (.pair (.int .i64) Y6), .str, .ro .str])], 1, []⟩ w)) v
theorem f781p0O (k : Nat) : SumO P Tryz.f81 1864 (f781p0S k) := pt tm (f781T k) ⟨[1, 2, 3, 6, 7, 8], [], []⟩ SumsOk.nil fun _ _ _ => by kernel_rfl
noncomputable def f781p1 {R : Type} (k : Nat) (k0 : D149 → Option R) (v : D149) : Option R :=
  f781p0 k
    (fun (w6 : D149) =>
      k0 (w6.1, w6.2.1, w6.2.2.1, w6.2.2.2.1, w6.2.2.2.2.1, w6.2.2.2.2.2.1, w6.2.2.2.2.2.2.1, w6.2.2.2.2.2.2.2.1, w6.2.2.2.2.2.2.2.2.1, w6.2.2.2.2.2.2.2.2.2.1, w6.2.2.2.2.2.2.2.2.2.2.1, ()))
    (fun (w7 : D149) =>
      bif (sliceBds w7.2.2.2.1 (IntKind.i64.wrap (w7.2.2.2.1 + (1 : Int))) (w7.1.size : Int)) then
      let t8 := (w7.1.extract (Int.toNat w7.2.2.2.1) (Int.toNat (IntKind.i64.wrap (w7.2.2.2.1 + (1 : Int)))))
      bif (decide (w7.2.2.1.size + t8.size ≤ 9223372036854775807)) then
      k0 (w7.1, w7.2.1, (w7.2.2.1 ++ t8), w7.2.2.2.1, w7.2.2.2.2.1, w7.2.2.2.2.2.1, w7.2.2.2.2.2.2.1, w7.2.2.2.2.2.2.2.1, w7.2.2.2.2.2.2.2.2.1, w7.2.2.2.2.2.2.2.2.2.1, w7.2.2.2.2.2.2.2.2.2.2.1, ())
      else none
      else none)
    (v.1, v.2.1, v.2.2.1, v.2.2.2.1, v.2.2.2.2.1, v.2.2.2.2.2.1, v.2.2.2.2.2.2.1, v.2.2.2.2.2.2.2.1, v.2.2.2.2.2.2.2.2.1, v.2.2.2.2.2.2.2.2.2.1, v.2.2.2.2.2.2.2.2.2.2.1, ())
noncomputable def f781p1S (k : Nat) := partSum ⟨[(1, .one (.str)), (2, .one (.str)), (3, .one (.ptr 0 0)), (7, .one (.str)), (8, .one (.int .i64))], [(0, .var 82 [.str, .int .i64, .str, .str, .ro (.pair (.int .i64) Y6), .str, .ro .str])], 1, []⟩ ⟨[1, 2, 3, 7, 8], [], []⟩ fun R K v => f781p1 k (fun w => K .normal (encSt ⟨[(1, .one (.str)), (2, .one (.str)), (3, .one (.ptr 0 0)), (7, .one (.str)), (8, .one (.int .i64))], [(0, .var 82 [.str, .int .i64, .str, .str, .ro (.pair (.int .i64) Y6), .str, .ro .str])], 1, []⟩ w)) v
theorem f781p1O (k : Nat) : SumO P Tryz.f81 466 (f781p1S k) := pt tm (f781T k) ⟨[1, 2, 3, 6, 7, 8], [], []⟩ (SumsOk.nil |>.s (f781p0O k) (by kernel_rfl)) fun _ _ _ => by kernel_rfl
noncomputable def f781l2s {R : Type} (k : Nat) (rec : D149 → Option R) (k0 : ByteArray × Unit → Option R) (v : D149) : Option R :=
  bif (decide (v.2.2.2.1 < (v.1.size : Int))) then
    f781p1 k
      (fun (w9 : D149) =>
        rec (w9.1, w9.2.1, w9.2.2.1, (IntKind.i64.wrap (w9.2.2.2.1 + (1 : Int))), w9.2.2.2.2.1, w9.2.2.2.2.2.1, w9.2.2.2.2.2.2.1, w9.2.2.2.2.2.2.2.1, w9.2.2.2.2.2.2.2.2.1, w9.2.2.2.2.2.2.2.2.2.1, w9.2.2.2.2.2.2.2.2.2.2.1, ()))
      (v.1, v.2.1, v.2.2.1, v.2.2.2.1, v.2.2.2.2.1, v.2.2.2.2.2.1, v.2.2.2.2.2.2.1, v.2.2.2.2.2.2.2.1, v.2.2.2.2.2.2.2.2.1, v.2.2.2.2.2.2.2.2.2.1, v.2.2.2.2.2.2.2.2.2.2.1, ())
  else
  k0 (v.2.2.1, ())
noncomputable def f781l2 {R : Type} (k : Nat) (k0 : ByteArray × Unit → Option R) (v : D149) : Option R := iterS (fun rec v => f781l2s k rec k0 v) k v
noncomputable def f781l2S (k : Nat) := loopSum ⟨[(1, .one (.str)), (2, .one (.str)), (3, .one (.ptr 0 0)), (7, .one (.str)), (8, .one (.int .i64))], [(0, .var 82 [.str, .int .i64, .str, .str, .ro (.pair (.int .i64) Y6), .str, .ro .str])], 1, []⟩ ⟨[1, 2, 3, 7, 8], [], []⟩ k fun R rec K v => f781l2s k rec (fun w => K (.exit 0) (encSt ⟨[(7, .one (.str))], [], 0, []⟩ w)) v
theorem f781l2O (k : Nat) : SumO P Tryz.f81 58 (f781l2S k) := lp tm (f781T k) ⟨[6, 7], [], []⟩ (SumsOk.nil |>.s (f781p1O k) (by kernel_rfl) |>.s (f781p0O k) (by kernel_rfl)) (by kernel_rfl) fun _ _ _ _ => by kernel_rfl
noncomputable def f781F (k : Nat) (x : D150) : Option (ByteArray) :=
  f781l2 k
    (fun (w10 : ByteArray × Unit) =>
      some w10.1)
    (x.2.1, x.2.2, ByteArray.empty, (0 : Int), x.1.1, x.1.2.1, x.1.2.2.1, x.1.2.2.2.1, x.1.2.2.2.2.1, x.1.2.2.2.2.2.1, x.1.2.2.2.2.2.2, ())
theorem f781Ok (k : Nat) : FnV P 81 [.agg Y10, .dat .str, .dat .str] [.dat .str] (f781F k) :=
  fs tm (f781T k) Tryz.func81 (by kernel_rfl) (SumsOk.nil |>.s (f781l2O k) (by kernel_rfl) |>.s (f781p1O k) (by kernel_rfl) |>.s (f781p0O k) (by kernel_rfl)) none fun _ => by kernel_rfl
/-! ## midrange/midrangeref18.Texts -/
noncomputable def f738T (k : Nat) : TB P := TB.nil |>.u (f781Ok k) |>.u (f780Ok k)
noncomputable def f738F (k : Nat) (x : D13 × ByteArray) : Option (D60) :=
  let t1 := [(x.1.1, (x.1.2.1, (x.1.2.2.1, (x.1.2.2.2.1, (x.1.2.2.2.2.1, (x.1.2.2.2.2.2.1, x.1.2.2.2.2.2.2))))))]
  Option.bind (f780F k t1) fun y2 =>
  bif (y2 != (0 : Int)) then
    some (ByteArray.empty, ByteArray.empty, y2)
  else
  bif (decide ((x.2.size : Int) > (512 : Int))) then
    some (ByteArray.empty, ByteArray.empty, (2 : Int))
  else
  Option.bind (f781F k ((x.1.1, (x.1.2.1, (x.1.2.2.1, (x.1.2.2.2.1, (x.1.2.2.2.2.1, (x.1.2.2.2.2.2.1, x.1.2.2.2.2.2.2)))))), x.1.2.2.1, x.2)) fun y3 =>
  Option.bind (f781F k ((x.1.1, (x.1.2.1, (x.1.2.2.1, (x.1.2.2.2.1, (x.1.2.2.2.2.1, (x.1.2.2.2.2.2.1, x.1.2.2.2.2.2.2)))))), x.1.2.2.2.1, x.2)) fun y4 =>
  bif (decide ((y3.size : Int) > (256 : Int))) then
    some (ByteArray.empty, ByteArray.empty, (2 : Int))
  else
  bif (decide ((y4.size : Int) > (256 : Int))) then
    some (ByteArray.empty, ByteArray.empty, (2 : Int))
  else
  some (y3, y4, (0 : Int))
theorem f738Ok (k : Nat) : FnV P 38 [.agg Y10, .dat .str] [.dat .str, .dat .str, .dat (.int .i64)] (f738F k) :=
  fs tm (f738T k) Tryz.func38 (by kernel_rfl) SumsOk.nil none fun _ => by kernel_rfl
/-! ## midrange/midrangelaw18.MessagesTexts -/
noncomputable def f709T (k : Nat) : TB P := TB.nil |>.u (f738Ok k) |>.u (f737Ok k) |>.p (f736Ok k) |>.u (f735Ok k) |>.u (f712Ok k)
noncomputable def f709F (k : Nat) (x : D13 × ByteArray) : Option (Bool) :=
  Option.bind (f712F k ()) fun y1 =>
  bif (!y1) then
    some false
  else
  Option.bind (f735F k (x.1.1, (x.1.2.1, (x.1.2.2.1, (x.1.2.2.2.1, (x.1.2.2.2.2.1, (x.1.2.2.2.2.2.1, x.1.2.2.2.2.2.2))))))) fun y2 =>
  bif (!y2) then
    some true
  else
  bif (decide ((x.2.size : Int) > (600 : Int))) then
    some true
  else
  let t3 := [(x.1.1, (x.1.2.1, (x.1.2.2.1, (x.1.2.2.2.1, (x.1.2.2.2.2.1, (x.1.2.2.2.2.2.1, x.1.2.2.2.2.2.2))))))]
  Option.bind (f736F k t3) fun y4 =>
  bif (decide ((0 : Int) < (y4.length : Int))) then
  let t5 := (y4.getD 0 (ByteArray.empty, ((0 : Int), (ByteArray.empty, (ByteArray.empty, ([], (ByteArray.empty, []))))))).1
  let t6 := (y4.getD 0 (ByteArray.empty, ((0 : Int), (ByteArray.empty, (ByteArray.empty, ([], (ByteArray.empty, []))))))).2.1
  let t7 := (y4.getD 0 (ByteArray.empty, ((0 : Int), (ByteArray.empty, (ByteArray.empty, ([], (ByteArray.empty, []))))))).2.2.1
  let t8 := (y4.getD 0 (ByteArray.empty, ((0 : Int), (ByteArray.empty, (ByteArray.empty, ([], (ByteArray.empty, []))))))).2.2.2.1
  let t9 := (y4.getD 0 (ByteArray.empty, ((0 : Int), (ByteArray.empty, (ByteArray.empty, ([], (ByteArray.empty, []))))))).2.2.2.2.1
  let t10 := (y4.getD 0 (ByteArray.empty, ((0 : Int), (ByteArray.empty, (ByteArray.empty, ([], (ByteArray.empty, []))))))).2.2.2.2.2.1
  let t11 := (y4.getD 0 (ByteArray.empty, ((0 : Int), (ByteArray.empty, (ByteArray.empty, ([], (ByteArray.empty, []))))))).2.2.2.2.2.2
  Option.bind (f737F k ((t5, (t6, (t7, (t8, (t9, (t10, t11)))))), x.2)) fun y12 =>
  Option.bind (f738F k ((x.1.1, (x.1.2.1, (x.1.2.2.1, (x.1.2.2.2.1, (x.1.2.2.2.2.1, (x.1.2.2.2.2.2.1, x.1.2.2.2.2.2.2)))))), x.2)) fun y13 =>
  bif (y12.2.2 == y13.2.2) then
    bif (strEq y12.1 y13.1) then
      some (strEq y12.2.1 y13.2.1)
    else
    some false
  else
  some false
  else none
theorem f709Ok (k : Nat) : FnV P 9 [.agg Y10, .dat .str] [.dat .bool] (f709F k) :=
  fs tm (f709T k) Tryz.func9 (by kernel_rfl) SumsOk.nil none fun _ => by kernel_rfl
end Go.Proofs.YthcmomgkfjjajaaGreatDoor
