/- What functions of the program compute: each as a plain Lean function, and that the code comes to it. Printed by gen.py. -/
import Derived.Test.YtecbbmokocnadaaDoorFaJ
import Derived.Test.YtecbbmokocnadaaDoorProg
/-! Printed by gen.py: what functions compute. -/
set_option linter.unusedVariables false
set_option maxRecDepth 100000
namespace Go.Proofs.YtecbbmokocnadaaDoor
open Go.Ab
/-! ## midrange/midrangeref02.Parts -/
noncomputable def f317T (k : Nat) : Table := []
theorem f317TS (k : Nat) : Sound P (f317T k) := Sound.nil
theorem f317B : HasBody P 17 := ⟨Go.Proofs.Tryd.f17, Go.Proofs.Tryd.func17, by kernel_rfl, by kernel_rfl⟩
noncomputable def f317l0H : Shape := ⟨[(0, .one (.str)), (2, .one (.ptr 0 0)), (5, .one (.ptr 1 0)), (6, .one (.int .i64))], [(0, .var 36 [.int .i64, .int .i64, .int .i64, .bool]), (1, .var 36 [.int .i64, .int .i64, .int .i64, .bool])], 2, []⟩
noncomputable def f317l0X0 : Shape := ⟨[(0, .one (.str)), (2, .one (.ptr 0 0)), (3, .one (.int .i64)), (4, .one (.int .i64)), (5, .one (.ptr 1 0))], [(0, .var 36 [.int .i64, .int .i64, .int .i64, .bool]), (1, .var 36 [.int .i64, .int .i64, .int .i64, .bool])], 2, []⟩
noncomputable def f317l0X1 : Shape := ⟨[(0, .one (.str)), (2, .one (.ptr 0 0)), (5, .one (.ptr 1 0))], [(0, .var 36 [.int .i64, .int .i64, .int .i64, .bool]), (1, .var 36 [.int .i64, .int .i64, .int .i64, .bool])], 2, []⟩
noncomputable def f317l0N : NoteR := ⟨[0, 2, 5, 6], [], []⟩
noncomputable def f317l0M : NoteR := ⟨[0, 2, 3, 4, 5], [], []⟩
noncomputable def f317l0C : Code := firstC (codesAt 250 (codeOf Go.Proofs.Tryd.f17) 1)
noncomputable def f317l0s {R : Type} (k : Nat) (rec : ByteArray × Int × Int × Int × Int × Bool × Int × Int × Int × Bool × Unit → Option R) (k0 : ByteArray × Int × Int × Int × Int × Int × Bool × Int × Int × Int × Bool × Unit → Option R) (k1 : ByteArray × Int × Int × Int × Bool × Int × Int × Int × Bool × Unit → Option R) (v : ByteArray × Int × Int × Int × Int × Bool × Int × Int × Int × Bool × Unit) : Option R :=
  bif (decide (v.2.1 < (v.1.size : Int))) then
    bif ((decide ((0 : Int) ≤ v.2.1)) && (decide (v.2.1 < (v.1.size : Int)))) then
    bif (decide ((bt v.1 v.2.1) < (32 : Int))) then
      k0 (v.1, v.2.1, (8 : Int), v.2.2.2.2.2.2.1, v.2.2.2.2.2.2.2.1, v.2.2.2.2.2.2.2.2.1, v.2.2.2.2.2.2.2.2.2.1, v.2.2.2.2.2.2.1, v.2.2.2.2.2.2.2.1, v.2.2.2.2.2.2.2.2.1, v.2.2.2.2.2.2.2.2.2.1, ())
    else
    bif ((decide ((0 : Int) ≤ v.2.1)) && (decide (v.2.1 < (v.1.size : Int)))) then
    bif (decide ((bt v.1 v.2.1) > (126 : Int))) then
      k0 (v.1, v.2.1, (8 : Int), v.2.2.2.2.2.2.1, v.2.2.2.2.2.2.2.1, v.2.2.2.2.2.2.2.2.1, v.2.2.2.2.2.2.2.2.2.1, v.2.2.2.2.2.2.1, v.2.2.2.2.2.2.2.1, v.2.2.2.2.2.2.2.2.1, v.2.2.2.2.2.2.2.2.2.1, ())
    else
    rec (v.1, (IntKind.i64.wrap (v.2.1 + (1 : Int))), v.2.2.1, v.2.2.2.1, v.2.2.2.2.1, v.2.2.2.2.2.1, v.2.2.2.2.2.2.1, v.2.2.2.2.2.2.2.1, v.2.2.2.2.2.2.2.2.1, v.2.2.2.2.2.2.2.2.2.1, ())
    else none
    else none
  else
  k1 (v.1, v.2.2.1, v.2.2.2.1, v.2.2.2.2.1, v.2.2.2.2.2.1, v.2.2.2.2.2.2.1, v.2.2.2.2.2.2.2.1, v.2.2.2.2.2.2.2.2.1, v.2.2.2.2.2.2.2.2.2.1, ())
noncomputable def f317l0 {R : Type} (k : Nat) (k0 : ByteArray × Int × Int × Int × Int × Int × Bool × Int × Int × Int × Bool × Unit → Option R) (k1 : ByteArray × Int × Int × Int × Bool × Int × Int × Int × Bool × Unit → Option R) (v : ByteArray × Int × Int × Int × Int × Bool × Int × Int × Int × Bool × Unit) : Option R := iterS (fun rec v => f317l0s k rec k0 k1 v) k v
noncomputable def f317l0S (k : Nat) : Sum1 := loopSum f317l0H f317l0N k (fun R rec K v => f317l0s k rec (fun w => K .ret (encSt f317l0X0 w)) (fun w => K (.exit 0) (encSt f317l0X1 w)) v)
theorem f317l0E (k : Nat) (R : Type) (rec : St → Option R) (K : X → St → Option R) (v : f317l0H.Den) : evS tab (f317T k) Go.Proofs.Tryd.f17.ntmps [] (bodyOf f317l0C) 500 (bodyK f317l0N f317l0M rec K) (encSt f317l0H v) = f317l0s k (fun v => rec (encSt f317l0H v)) (fun w => K .ret (encSt f317l0X0 w)) (fun w => K (.exit 0) (encSt f317l0X1 w)) v := by kernel_rfl
theorem f317l0I (k : Nat) : SumsOk P Go.Proofs.Tryd.f17.ntmps [] (bodyOf f317l0C) 500 := SumsOk.nil
theorem f317l0O (k : Nat) : SumOk P Go.Proofs.Tryd.f17.ntmps f317l0C (f317l0S k) := (show f317l0C = .loop (bodyOf f317l0C) by kernel_rfl) ▸ sum_loop tabOk (f317TS k) mixed (f317l0I k) (f317l0E k)
noncomputable def f317p1H : Shape := ⟨[(0, .one (.str)), (2, .one (.ptr 0 0)), (5, .one (.ptr 1 0)), (7, .one (.ptr 2 0)), (8, .one (.int .i64))], [(0, .var 36 [.int .i64, .int .i64, .int .i64, .bool]), (1, .var 36 [.int .i64, .int .i64, .int .i64, .bool]), (2, .var 36 [.int .i64, .int .i64, .int .i64, .bool])], 3, []⟩
noncomputable def f317p1X0 : Shape := ⟨[(0, .one (.str)), (2, .one (.ptr 0 0)), (5, .one (.ptr 1 0)), (7, .one (.ptr 2 0)), (8, .one (.int .i64))], [(0, .var 36 [.int .i64, .int .i64, .int .i64, .bool]), (1, .var 36 [.int .i64, .int .i64, .int .i64, .bool]), (2, .var 36 [.int .i64, .int .i64, .int .i64, .bool])], 3, []⟩
noncomputable def f317p1N : NoteR := ⟨[0, 2, 5, 7, 8], [], []⟩
noncomputable def f317p1M : NoteR := ⟨[0, 2, 3, 4, 5, 7, 8], [], []⟩
noncomputable def f317p1C : Code := firstC (codesAt 32584 (codeOf Go.Proofs.Tryd.f17) 1)
noncomputable def f317p1 {R : Type} (k : Nat) (k0 : ByteArray × Int × Int × Int × Int × Bool × Int × Int × Int × Bool × Int × Int × Int × Bool × Unit → Option R) (v : ByteArray × Int × Int × Int × Int × Bool × Int × Int × Int × Bool × Int × Int × Int × Bool × Unit) : Option R :=
  bif (v.2.2.2.2.2.2.2.2.2.2.2.2.1 == (-1 : Int)) then
    bif ((decide ((0 : Int) ≤ v.2.1)) && (decide (v.2.1 < (v.1.size : Int)))) then
    bif ((bt v.1 v.2.1) == (48 : Int)) then
      bif ((decide ((0 : Int) ≤ v.2.1)) && (decide (v.2.1 < (v.1.size : Int)))) then
      k0 (v.1, v.2.1, v.2.2.1, v.2.2.2.1, v.2.2.2.2.1, v.2.2.2.2.2.1, v.2.2.2.2.2.2.1, v.2.2.2.2.2.2.2.1, v.2.2.2.2.2.2.2.2.1, v.2.2.2.2.2.2.2.2.2.1, v.2.2.2.2.2.2.2.2.2.2.1, v.2.2.2.2.2.2.2.2.2.2.2.1, v.2.1, ((bt v.1 v.2.1) == (42 : Int)), ())
      else none
    else
    bif ((decide ((0 : Int) ≤ v.2.1)) && (decide (v.2.1 < (v.1.size : Int)))) then
    bif ((bt v.1 v.2.1) == (42 : Int)) then
      bif ((decide ((0 : Int) ≤ v.2.1)) && (decide (v.2.1 < (v.1.size : Int)))) then
      k0 (v.1, v.2.1, v.2.2.1, v.2.2.2.1, v.2.2.2.2.1, v.2.2.2.2.2.1, v.2.2.2.2.2.2.1, v.2.2.2.2.2.2.2.1, v.2.2.2.2.2.2.2.2.1, v.2.2.2.2.2.2.2.2.2.1, v.2.2.2.2.2.2.2.2.2.2.1, v.2.2.2.2.2.2.2.2.2.2.2.1, v.2.1, ((bt v.1 v.2.1) == (42 : Int)), ())
      else none
    else
    k0 (v.1, v.2.1, v.2.2.1, v.2.2.2.1, v.2.2.2.2.1, v.2.2.2.2.2.1, v.2.2.2.2.2.2.1, v.2.2.2.2.2.2.2.1, v.2.2.2.2.2.2.2.2.1, v.2.2.2.2.2.2.2.2.2.1, v.2.2.2.2.2.2.2.2.2.2.1, v.2.2.2.2.2.2.2.2.2.2.2.1, v.2.2.2.2.2.2.2.2.2.2.2.2.1, v.2.2.2.2.2.2.2.2.2.2.2.2.2.1, ())
    else none
    else none
  else
  k0 (v.1, v.2.1, v.2.2.1, v.2.2.2.1, v.2.2.2.2.1, v.2.2.2.2.2.1, v.2.2.2.2.2.2.1, v.2.2.2.2.2.2.2.1, v.2.2.2.2.2.2.2.2.1, v.2.2.2.2.2.2.2.2.2.1, v.2.2.2.2.2.2.2.2.2.2.1, v.2.2.2.2.2.2.2.2.2.2.2.1, v.2.2.2.2.2.2.2.2.2.2.2.2.1, v.2.2.2.2.2.2.2.2.2.2.2.2.2.1, ())
noncomputable def f317p1S (k : Nat) : Sum1 := partSum f317p1H f317p1N (fun R K v => f317p1 k (fun w => K .normal (encSt f317p1X0 w)) v)
theorem f317p1E (k : Nat) (R : Type) (K : X → St → Option R) (v : f317p1H.Den) : evS tab (f317T k) Go.Proofs.Tryd.f17.ntmps [] f317p1C 32584 (partK f317p1M K) (encSt f317p1H v) = f317p1 k (fun w => K .normal (encSt f317p1X0 w)) v := by kernel_rfl
theorem f317p1I (k : Nat) : SumsOk P Go.Proofs.Tryd.f17.ntmps [] f317p1C 32584 := SumsOk.nil
theorem f317p1O (k : Nat) : SumOk P Go.Proofs.Tryd.f17.ntmps f317p1C (f317p1S k) := sum_part tabOk (f317TS k) mixed (f317p1I k) (f317p1E k)
noncomputable def f317p2H : Shape := ⟨[(0, .one (.str)), (2, .one (.ptr 0 0)), (5, .one (.ptr 1 0)), (7, .one (.ptr 2 0)), (8, .one (.int .i64))], [(0, .var 36 [.int .i64, .int .i64, .int .i64, .bool]), (1, .var 36 [.int .i64, .int .i64, .int .i64, .bool]), (2, .var 36 [.int .i64, .int .i64, .int .i64, .bool])], 3, []⟩
noncomputable def f317p2X0 : Shape := ⟨[(0, .one (.str)), (2, .one (.ptr 0 0)), (5, .one (.ptr 1 0)), (7, .one (.ptr 2 0)), (8, .one (.int .i64))], [(0, .var 36 [.int .i64, .int .i64, .int .i64, .bool]), (1, .var 36 [.int .i64, .int .i64, .int .i64, .bool]), (2, .var 36 [.int .i64, .int .i64, .int .i64, .bool])], 3, []⟩
noncomputable def f317p2N : NoteR := ⟨[0, 2, 5, 7, 8], [], []⟩
noncomputable def f317p2M : NoteR := ⟨[0, 2, 3, 4, 5, 7, 8], [], []⟩
noncomputable def f317p2C : Code := firstC (codesAt 8146 (codeOf Go.Proofs.Tryd.f17) 1)
noncomputable def f317p2 {R : Type} (k : Nat) (k0 : ByteArray × Int × Int × Int × Int × Bool × Int × Int × Int × Bool × Int × Int × Int × Bool × Unit → Option R) (v : ByteArray × Int × Int × Int × Int × Bool × Int × Int × Int × Bool × Int × Int × Int × Bool × Unit) : Option R :=
  f317p1 k
    (fun (w3 : ByteArray × Int × Int × Int × Int × Bool × Int × Int × Int × Bool × Int × Int × Int × Bool × Unit) =>
      bif ((decide ((0 : Int) ≤ w3.2.1)) && (decide (w3.2.1 < (w3.1.size : Int)))) then
      bif ((bt w3.1 w3.2.1) == (32 : Int)) then
        k0 (w3.1, w3.2.1, w3.2.2.1, w3.2.2.2.1, w3.2.2.2.2.1, w3.2.2.2.2.2.1, w3.2.2.2.2.2.2.1, w3.2.2.2.2.2.2.2.1, w3.2.2.2.2.2.2.2.2.1, w3.2.2.2.2.2.2.2.2.2.1, (IntKind.i64.wrap (w3.2.1 + (1 : Int))), w3.2.2.2.2.2.2.2.2.2.2.2.1, w3.2.2.2.2.2.2.2.2.2.2.2.2.1, w3.2.2.2.2.2.2.2.2.2.2.2.2.2.1, ())
      else
      k0 (w3.1, w3.2.1, w3.2.2.1, w3.2.2.2.1, w3.2.2.2.2.1, w3.2.2.2.2.2.1, w3.2.2.2.2.2.2.1, w3.2.2.2.2.2.2.2.1, w3.2.2.2.2.2.2.2.2.1, w3.2.2.2.2.2.2.2.2.2.1, w3.2.2.2.2.2.2.2.2.2.2.1, w3.2.2.2.2.2.2.2.2.2.2.2.1, w3.2.2.2.2.2.2.2.2.2.2.2.2.1, w3.2.2.2.2.2.2.2.2.2.2.2.2.2.1, ())
      else none)
    (v.1, v.2.1, v.2.2.1, v.2.2.2.1, v.2.2.2.2.1, v.2.2.2.2.2.1, v.2.2.2.2.2.2.1, v.2.2.2.2.2.2.2.1, v.2.2.2.2.2.2.2.2.1, v.2.2.2.2.2.2.2.2.2.1, v.2.2.2.2.2.2.2.2.2.2.1, v.2.2.2.2.2.2.2.2.2.2.2.1, v.2.2.2.2.2.2.2.2.2.2.2.2.1, v.2.2.2.2.2.2.2.2.2.2.2.2.2.1, ())
noncomputable def f317p2S (k : Nat) : Sum1 := partSum f317p2H f317p2N (fun R K v => f317p2 k (fun w => K .normal (encSt f317p2X0 w)) v)
theorem f317p2E (k : Nat) (R : Type) (K : X → St → Option R) (v : f317p2H.Den) : evS tab (f317T k) Go.Proofs.Tryd.f17.ntmps [(32584, f317p1S k)] f317p2C 8146 (partK f317p2M K) (encSt f317p2H v) = f317p2 k (fun w => K .normal (encSt f317p2X0 w)) v := by kernel_rfl
theorem f317p2I (k : Nat) : SumsOk P Go.Proofs.Tryd.f17.ntmps [(32584, f317p1S k)] f317p2C 8146 := (SumsOk.nil).cons (c := f317p1C) (by kernel_rfl) (f317p1O k)
theorem f317p2O (k : Nat) : SumOk P Go.Proofs.Tryd.f17.ntmps f317p2C (f317p2S k) := sum_part tabOk (f317TS k) mixed (f317p2I k) (f317p2E k)
noncomputable def f317l3H : Shape := ⟨[(0, .one (.str)), (2, .one (.ptr 0 0)), (5, .one (.ptr 1 0)), (7, .one (.ptr 2 0)), (8, .one (.int .i64))], [(0, .var 36 [.int .i64, .int .i64, .int .i64, .bool]), (1, .var 36 [.int .i64, .int .i64, .int .i64, .bool]), (2, .var 36 [.int .i64, .int .i64, .int .i64, .bool])], 3, []⟩
noncomputable def f317l3X0 : Shape := ⟨[(0, .one (.str)), (2, .one (.ptr 0 0)), (5, .one (.ptr 1 0)), (7, .one (.ptr 2 0))], [(0, .var 36 [.int .i64, .int .i64, .int .i64, .bool]), (1, .var 36 [.int .i64, .int .i64, .int .i64, .bool]), (2, .var 36 [.int .i64, .int .i64, .int .i64, .bool])], 3, []⟩
noncomputable def f317l3N : NoteR := ⟨[0, 2, 5, 7, 8], [], []⟩
noncomputable def f317l3M : NoteR := ⟨[0, 2, 3, 4, 5, 7], [], []⟩
noncomputable def f317l3C : Code := firstC (codesAt 1018 (codeOf Go.Proofs.Tryd.f17) 1)
noncomputable def f317l3s {R : Type} (k : Nat) (rec : ByteArray × Int × Int × Int × Int × Bool × Int × Int × Int × Bool × Int × Int × Int × Bool × Unit → Option R) (k0 : ByteArray × Int × Int × Int × Bool × Int × Int × Int × Bool × Int × Int × Int × Bool × Unit → Option R) (v : ByteArray × Int × Int × Int × Int × Bool × Int × Int × Int × Bool × Int × Int × Int × Bool × Unit) : Option R :=
  bif (decide (v.2.1 < (v.1.size : Int))) then
    f317p2 k
      (fun (w4 : ByteArray × Int × Int × Int × Int × Bool × Int × Int × Int × Bool × Int × Int × Int × Bool × Unit) =>
        rec (w4.1, (IntKind.i64.wrap (w4.2.1 + (1 : Int))), w4.2.2.1, w4.2.2.2.1, w4.2.2.2.2.1, w4.2.2.2.2.2.1, w4.2.2.2.2.2.2.1, w4.2.2.2.2.2.2.2.1, w4.2.2.2.2.2.2.2.2.1, w4.2.2.2.2.2.2.2.2.2.1, w4.2.2.2.2.2.2.2.2.2.2.1, w4.2.2.2.2.2.2.2.2.2.2.2.1, w4.2.2.2.2.2.2.2.2.2.2.2.2.1, w4.2.2.2.2.2.2.2.2.2.2.2.2.2.1, ()))
      (v.1, v.2.1, v.2.2.1, v.2.2.2.1, v.2.2.2.2.1, v.2.2.2.2.2.1, v.2.2.2.2.2.2.1, v.2.2.2.2.2.2.2.1, v.2.2.2.2.2.2.2.2.1, v.2.2.2.2.2.2.2.2.2.1, v.2.2.2.2.2.2.2.2.2.2.1, v.2.2.2.2.2.2.2.2.2.2.2.1, v.2.2.2.2.2.2.2.2.2.2.2.2.1, v.2.2.2.2.2.2.2.2.2.2.2.2.2.1, ())
  else
  k0 (v.1, v.2.2.1, v.2.2.2.1, v.2.2.2.2.1, v.2.2.2.2.2.1, v.2.2.2.2.2.2.1, v.2.2.2.2.2.2.2.1, v.2.2.2.2.2.2.2.2.1, v.2.2.2.2.2.2.2.2.2.1, v.2.2.2.2.2.2.2.2.2.2.1, v.2.2.2.2.2.2.2.2.2.2.2.1, v.2.2.2.2.2.2.2.2.2.2.2.2.1, v.2.2.2.2.2.2.2.2.2.2.2.2.2.1, ())
noncomputable def f317l3 {R : Type} (k : Nat) (k0 : ByteArray × Int × Int × Int × Bool × Int × Int × Int × Bool × Int × Int × Int × Bool × Unit → Option R) (v : ByteArray × Int × Int × Int × Int × Bool × Int × Int × Int × Bool × Int × Int × Int × Bool × Unit) : Option R := iterS (fun rec v => f317l3s k rec k0 v) k v
noncomputable def f317l3S (k : Nat) : Sum1 := loopSum f317l3H f317l3N k (fun R rec K v => f317l3s k rec (fun w => K (.exit 2) (encSt f317l3X0 w)) v)
theorem f317l3E (k : Nat) (R : Type) (rec : St → Option R) (K : X → St → Option R) (v : f317l3H.Den) : evS tab (f317T k) Go.Proofs.Tryd.f17.ntmps [(32584, f317p1S k), (8146, f317p2S k)] (bodyOf f317l3C) 2036 (bodyK f317l3N f317l3M rec K) (encSt f317l3H v) = f317l3s k (fun v => rec (encSt f317l3H v)) (fun w => K (.exit 2) (encSt f317l3X0 w)) v := by kernel_rfl
theorem f317l3I (k : Nat) : SumsOk P Go.Proofs.Tryd.f17.ntmps [(32584, f317p1S k), (8146, f317p2S k)] (bodyOf f317l3C) 2036 := ((SumsOk.nil).cons (c := f317p2C) (by kernel_rfl) (f317p2O k)).cons (c := f317p1C) (by kernel_rfl) (f317p1O k)
theorem f317l3O (k : Nat) : SumOk P Go.Proofs.Tryd.f17.ntmps f317l3C (f317l3S k) := (show f317l3C = .loop (bodyOf f317l3C) by kernel_rfl) ▸ sum_loop tabOk (f317TS k) mixed (f317l3I k) (f317l3E k)
noncomputable def f317p4H : Shape := ⟨[(0, .one (.str)), (2, .one (.ptr 0 0)), (7, .one (.ptr 1 0)), (9, .one (.int .i64))], [(0, .var 36 [.int .i64, .int .i64, .int .i64, .bool]), (1, .var 36 [.int .i64, .int .i64, .int .i64, .bool])], 2, []⟩
noncomputable def f317p4X0 : Shape := ⟨[(0, .one (.str)), (2, .one (.ptr 0 0)), (7, .one (.ptr 1 0)), (9, .one (.int .i64))], [(0, .var 36 [.int .i64, .int .i64, .int .i64, .bool]), (1, .var 36 [.int .i64, .int .i64, .int .i64, .bool])], 2, []⟩
noncomputable def f317p4N : NoteR := ⟨[0, 2, 7, 9], [], []⟩
noncomputable def f317p4M : NoteR := ⟨[0, 2, 3, 4, 5, 7, 9], [], []⟩
noncomputable def f317p4C : Code := firstC (codesAt 65490 (codeOf Go.Proofs.Tryd.f17) 1)
noncomputable def f317p4 {R : Type} (k : Nat) (k0 : ByteArray × Int × Int × Int × Int × Bool × Int × Int × Int × Bool × Unit → Option R) (v : ByteArray × Int × Int × Int × Int × Bool × Int × Int × Int × Bool × Unit) : Option R :=
  bif ((decide ((0 : Int) ≤ v.2.1)) && (decide (v.2.1 < (v.1.size : Int)))) then
  bif ((bt v.1 v.2.1) == (45 : Int)) then
    k0 (v.1, v.2.1, v.2.2.1, v.2.2.2.1, v.2.2.2.2.1, v.2.2.2.2.2.1, v.2.2.2.2.2.2.1, v.2.1, v.2.2.2.2.2.2.2.2.1, v.2.2.2.2.2.2.2.2.2.1, ())
  else
  bif ((decide ((0 : Int) ≤ v.2.1)) && (decide (v.2.1 < (v.1.size : Int)))) then
  bif ((bt v.1 v.2.1) == (67 : Int)) then
    bif (decide ((IntKind.i64.wrap (v.2.1 + (1 : Int))) < (v.1.size : Int))) then
      bif ((decide ((0 : Int) ≤ (IntKind.i64.wrap (v.2.1 + (1 : Int))))) && (decide ((IntKind.i64.wrap (v.2.1 + (1 : Int))) < (v.1.size : Int)))) then
      bif ((bt v.1 (IntKind.i64.wrap (v.2.1 + (1 : Int)))) == (82 : Int)) then
        k0 (v.1, v.2.1, v.2.2.1, v.2.2.2.1, v.2.2.2.2.1, v.2.2.2.2.2.1, v.2.2.2.2.2.2.1, v.2.1, v.2.2.2.2.2.2.2.2.1, v.2.2.2.2.2.2.2.2.2.1, ())
      else
      k0 (v.1, v.2.1, v.2.2.1, v.2.2.2.1, v.2.2.2.2.1, v.2.2.2.2.2.1, v.2.2.2.2.2.2.1, v.2.2.2.2.2.2.2.1, v.2.2.2.2.2.2.2.2.1, v.2.2.2.2.2.2.2.2.2.1, ())
      else none
    else
    k0 (v.1, v.2.1, v.2.2.1, v.2.2.2.1, v.2.2.2.2.1, v.2.2.2.2.2.1, v.2.2.2.2.2.2.1, v.2.2.2.2.2.2.2.1, v.2.2.2.2.2.2.2.2.1, v.2.2.2.2.2.2.2.2.2.1, ())
  else
  k0 (v.1, v.2.1, v.2.2.1, v.2.2.2.1, v.2.2.2.2.1, v.2.2.2.2.2.1, v.2.2.2.2.2.2.1, v.2.2.2.2.2.2.2.1, v.2.2.2.2.2.2.2.2.1, v.2.2.2.2.2.2.2.2.2.1, ())
  else none
  else none
noncomputable def f317p4S (k : Nat) : Sum1 := partSum f317p4H f317p4N (fun R K v => f317p4 k (fun w => K .normal (encSt f317p4X0 w)) v)
theorem f317p4E (k : Nat) (R : Type) (K : X → St → Option R) (v : f317p4H.Den) : evS tab (f317T k) Go.Proofs.Tryd.f17.ntmps [] f317p4C 65490 (partK f317p4M K) (encSt f317p4H v) = f317p4 k (fun w => K .normal (encSt f317p4X0 w)) v := by kernel_rfl
theorem f317p4I (k : Nat) : SumsOk P Go.Proofs.Tryd.f17.ntmps [] f317p4C 65490 := SumsOk.nil
theorem f317p4O (k : Nat) : SumOk P Go.Proofs.Tryd.f17.ntmps f317p4C (f317p4S k) := sum_part tabOk (f317TS k) mixed (f317p4I k) (f317p4E k)
noncomputable def f317l5H : Shape := ⟨[(0, .one (.str)), (2, .one (.ptr 0 0)), (7, .one (.ptr 1 0)), (9, .one (.int .i64))], [(0, .var 36 [.int .i64, .int .i64, .int .i64, .bool]), (1, .var 36 [.int .i64, .int .i64, .int .i64, .bool])], 2, []⟩
noncomputable def f317l5X0 : Shape := ⟨[(2, .one (.ptr 0 0)), (7, .one (.ptr 1 0))], [(0, .var 36 [.int .i64, .int .i64, .int .i64, .bool]), (1, .var 36 [.int .i64, .int .i64, .int .i64, .bool])], 2, []⟩
noncomputable def f317l5N : NoteR := ⟨[0, 2, 7, 9], [], []⟩
noncomputable def f317l5M : NoteR := ⟨[2, 3, 4, 7], [], []⟩
noncomputable def f317l5C : Code := firstC (codesAt 8186 (codeOf Go.Proofs.Tryd.f17) 1)
noncomputable def f317l5s {R : Type} (k : Nat) (rec : ByteArray × Int × Int × Int × Int × Bool × Int × Int × Int × Bool × Unit → Option R) (k0 : Int × Int × Int × Bool × Int × Int × Int × Bool × Unit → Option R) (v : ByteArray × Int × Int × Int × Int × Bool × Int × Int × Int × Bool × Unit) : Option R :=
  bif (decide (v.2.1 ≥ v.2.2.2.2.2.2.1)) then
    f317p4 k
      (fun (w7 : ByteArray × Int × Int × Int × Int × Bool × Int × Int × Int × Bool × Unit) =>
        rec (w7.1, (IntKind.i64.wrap (w7.2.1 - (1 : Int))), w7.2.2.1, w7.2.2.2.1, w7.2.2.2.2.1, w7.2.2.2.2.2.1, w7.2.2.2.2.2.2.1, w7.2.2.2.2.2.2.2.1, w7.2.2.2.2.2.2.2.2.1, w7.2.2.2.2.2.2.2.2.2.1, ()))
      (v.1, v.2.1, v.2.2.1, v.2.2.2.1, v.2.2.2.2.1, v.2.2.2.2.2.1, v.2.2.2.2.2.2.1, v.2.2.2.2.2.2.2.1, v.2.2.2.2.2.2.2.2.1, v.2.2.2.2.2.2.2.2.2.1, ())
  else
  k0 (v.2.2.1, v.2.2.2.1, v.2.2.2.2.1, v.2.2.2.2.2.1, v.2.2.2.2.2.2.1, v.2.2.2.2.2.2.2.1, v.2.2.2.2.2.2.2.2.1, v.2.2.2.2.2.2.2.2.2.1, ())
noncomputable def f317l5 {R : Type} (k : Nat) (k0 : Int × Int × Int × Bool × Int × Int × Int × Bool × Unit → Option R) (v : ByteArray × Int × Int × Int × Int × Bool × Int × Int × Int × Bool × Unit) : Option R := iterS (fun rec v => f317l5s k rec k0 v) k v
noncomputable def f317l5S (k : Nat) : Sum1 := loopSum f317l5H f317l5N k (fun R rec K v => f317l5s k rec (fun w => K (.exit 4) (encSt f317l5X0 w)) v)
theorem f317l5E (k : Nat) (R : Type) (rec : St → Option R) (K : X → St → Option R) (v : f317l5H.Den) : evS tab (f317T k) Go.Proofs.Tryd.f17.ntmps [(65490, f317p4S k)] (bodyOf f317l5C) 16372 (bodyK f317l5N f317l5M rec K) (encSt f317l5H v) = f317l5s k (fun v => rec (encSt f317l5H v)) (fun w => K (.exit 4) (encSt f317l5X0 w)) v := by kernel_rfl
theorem f317l5I (k : Nat) : SumsOk P Go.Proofs.Tryd.f17.ntmps [(65490, f317p4S k)] (bodyOf f317l5C) 16372 := (SumsOk.nil).cons (c := f317p4C) (by kernel_rfl) (f317p4O k)
theorem f317l5O (k : Nat) : SumOk P Go.Proofs.Tryd.f17.ntmps f317l5C (f317l5S k) := (show f317l5C = .loop (bodyOf f317l5C) by kernel_rfl) ▸ sum_loop tabOk (f317TS k) mixed (f317l5I k) (f317l5E k)
noncomputable def f317F (k : Nat) (x : ByteArray) : Option ((Int × (Int × (Int × Bool))) × Int × Int) :=
  bif (strEq x ByteArray.empty) then
    some (((0 : Int), ((0 : Int), ((0 : Int), false))), (0 : Int), (1 : Int))
  else
  bif (decide ((x.size : Int) > (40 : Int))) then
    some (((0 : Int), ((0 : Int), ((0 : Int), false))), (0 : Int), (2 : Int))
  else
  f317l0 k
    (fun (w1 : ByteArray × Int × Int × Int × Int × Int × Bool × Int × Int × Int × Bool × Unit) =>
      some ((w1.2.2.2.1, (w1.2.2.2.2.1, (w1.2.2.2.2.2.1, w1.2.2.2.2.2.2.1))), w1.2.1, w1.2.2.1))
    (fun (w2 : ByteArray × Int × Int × Int × Bool × Int × Int × Int × Bool × Unit) =>
      f317l3 k
        (fun (w5 : ByteArray × Int × Int × Int × Bool × Int × Int × Int × Bool × Int × Int × Int × Bool × Unit) =>
          let t6 := (mxI w5.2.2.2.2.2.2.2.2.2.1 (IntKind.i64.wrap (w5.2.2.2.2.2.2.2.2.2.2.2.1 + (1 : Int))))
          bif (t6 == (0 : Int)) then
            some ((w5.2.2.2.2.2.1, (w5.2.2.2.2.2.2.1, (w5.2.2.2.2.2.2.2.1, w5.2.2.2.2.2.2.2.2.1))), (0 : Int), (6 : Int))
          else
          f317l5 k
            (fun (w8 : Int × Int × Int × Bool × Int × Int × Int × Bool × Unit) =>
              some ((w8.2.2.2.2.1, (w8.2.2.2.2.2.1, (w8.2.2.2.2.2.2.1, w8.2.2.2.2.2.2.2.1))), (0 : Int), (0 : Int)))
            (w5.1, (IntKind.i64.wrap ((w5.1.size : Int) - (1 : Int))), w5.2.1, w5.2.2.1, w5.2.2.2.1, w5.2.2.2.2.1, t6, w5.2.2.2.2.2.2.2.2.2.2.1, w5.2.2.2.2.2.2.2.2.2.2.2.1, w5.2.2.2.2.2.2.2.2.2.2.2.2.1, ()))
        (w2.1, (0 : Int), w2.2.1, w2.2.2.1, w2.2.2.2.1, w2.2.2.2.2.1, w2.2.2.2.2.2.1, w2.2.2.2.2.2.2.1, w2.2.2.2.2.2.2.2.1, w2.2.2.2.2.2.2.2.2.1, (0 : Int), (-1 : Int), (-1 : Int), false, ()))
    (x, (0 : Int), (0 : Int), (0 : Int), (0 : Int), false, (0 : Int), (0 : Int), (0 : Int), false, ())
noncomputable def f317L (k : Nat) : Sums := [(250, f317l0S k), (32584, f317p1S k), (8146, f317p2S k), (1018, f317l3S k), (65490, f317p4S k), (8186, f317l5S k)]
theorem f317LS (k : Nat) : SumsOk P Go.Proofs.Tryd.f17.ntmps (f317L k) (codeOf Go.Proofs.Tryd.f17) 1 := ((((((SumsOk.nil).cons (c := f317l5C) (by kernel_rfl) (f317l5O k)).cons (c := f317p4C) (by kernel_rfl) (f317p4O k)).cons (c := f317l3C) (by kernel_rfl) (f317l3O k)).cons (c := f317p2C) (by kernel_rfl) (f317p2O k)).cons (c := f317p1C) (by kernel_rfl) (f317p1O k)).cons (c := f317l0C) (by kernel_rfl) (f317l0O k)
theorem f317E (k : Nat) (x : ByteArray) : evFS tab (f317T k) (f317L k) Go.Proofs.Tryd.f17.ntmps Go.Proofs.Tryd.f17.results.toList (codeOf Go.Proofs.Tryd.f17) (argsV [.dat .str] x) [.agg (.pair (.int .i64) (.pair (.int .i64) (.pair (.int .i64) .bool))), .dat (.int .i64), .dat (.int .i64)] = f317F k x := by kernel_rfl
theorem f317Ok (k : Nat) (x : ByteArray) (y : (Int × (Int × (Int × Bool))) × Int × Int) (h : f317F k x = some y) : FnOk P 17 [.dat .str] [.agg (.pair (.int .i64) (.pair (.int .i64) (.pair (.int .i64) .bool))), .dat (.int .i64), .dat (.int .i64)] x y :=
  evFS_sound tabOk (f317TS k) mixed Go.Proofs.Tryd.func17 (c := codeOf Go.Proofs.Tryd.f17) (by kernel_rfl) (f317LS k) ((f317E k x).trans h)
/-! ## midrange/midrangelaw02.EditParts -/
noncomputable def f304T (k : Nat) : Table := [(13, entFn [] [.dat .bool] (f313F k)), (16, entFn [.dat .str] [.agg (.pair (.int .i64) (.pair (.int .i64) (.pair (.int .i64) .bool))), .dat (.int .i64), .dat (.int .i64)] (f316F k)), (17, entFn [.dat .str] [.agg (.pair (.int .i64) (.pair (.int .i64) (.pair (.int .i64) .bool))), .dat (.int .i64), .dat (.int .i64)] (f317F k))]
theorem f304TS (k : Nat) : Sound P (f304T k) := (((Sound.nil).cons f317B (f317Ok k)).cons f316B (f316Ok k)).cons f313B (f313Ok k)
theorem f304B : HasBody P 4 := ⟨Go.Proofs.Tryd.f4, Go.Proofs.Tryd.func4, by kernel_rfl, by kernel_rfl⟩
noncomputable def f304F (k : Nat) (x : ByteArray) : Option (Bool) :=
  Option.bind (f313F k ()) fun y1 =>
  bif (!y1) then
    some false
  else
  bif (decide ((x.size : Int) > (100 : Int))) then
    some true
  else
  Option.bind (f316F k x) fun y2 =>
  Option.bind (f317F k x) fun y3 =>
  bif (y2.2.2 == y3.2.2) then
    bif (y2.2.1 == y3.2.1) then
      let t4 := ((y2.1.1 == y3.1.1) && ((y2.1.2.1 == y3.1.2.1) && ((y2.1.2.2.1 == y3.1.2.2.1) && ((y2.1.2.2.2 == y3.1.2.2.2) && true))))
      some t4
    else
    some false
  else
  some false
noncomputable def f304L (k : Nat) : Sums := []
theorem f304LS (k : Nat) : SumsOk P Go.Proofs.Tryd.f4.ntmps (f304L k) (codeOf Go.Proofs.Tryd.f4) 1 := SumsOk.nil
theorem f304E (k : Nat) (x : ByteArray) : evFS tab (f304T k) (f304L k) Go.Proofs.Tryd.f4.ntmps Go.Proofs.Tryd.f4.results.toList (codeOf Go.Proofs.Tryd.f4) (argsV [.dat .str] x) [.dat .bool] = f304F k x := by kernel_rfl
theorem f304Ok (k : Nat) (x : ByteArray) (y : Bool) (h : f304F k x = some y) : FnOk P 4 [.dat .str] [.dat .bool] x y :=
  evFS_sound tabOk (f304TS k) mixed Go.Proofs.Tryd.func4 (c := codeOf Go.Proofs.Tryd.f4) (by kernel_rfl) (f304LS k) ((f304E k x).trans h)
/-! ## midrange/midrangeref02.places -/
noncomputable def f361T (k : Nat) : Table := []
theorem f361TS (k : Nat) : Sound P (f361T k) := Sound.nil
theorem f361B : HasBody P 61 := ⟨Go.Proofs.Tryd.f61, Go.Proofs.Tryd.func61, by kernel_rfl, by kernel_rfl⟩
noncomputable def f361p0H : Shape := ⟨[(0, .one (.str)), (3, .one (.ptr 0 0)), (5, .one (.own 1)), (6, .one (.int .i64))], [(0, .var 36 [.int .i64, .int .i64, .int .i64, .bool]), (1, .row 3 (.int .i64) .plain)], 2, []⟩
noncomputable def f361p0X0 : Shape := ⟨[(0, .one (.str)), (3, .one (.ptr 0 0)), (5, .one (.own 1)), (6, .one (.int .i64))], [(0, .var 36 [.int .i64, .int .i64, .int .i64, .bool]), (1, .row 3 (.int .i64) .plain)], 2, []⟩
noncomputable def f361p0N : NoteR := ⟨[0, 3, 5, 6], [], []⟩
noncomputable def f361p0M : NoteR := ⟨[0, 3, 4, 5, 6], [], []⟩
noncomputable def f361p0C : Code := firstC (codesAt 466 (codeOf Go.Proofs.Tryd.f61) 1)
noncomputable def f361p0 {R : Type} (k : Nat) (k0 : ByteArray × Int × Int × Int × Int × Bool × List Int × Unit → Option R) (v : ByteArray × Int × Int × Int × Int × Bool × List Int × Unit) : Option R :=
  bif ((decide ((0 : Int) ≤ v.2.1)) && (decide (v.2.1 < (v.1.size : Int)))) then
  bif ((bt v.1 v.2.1) == (32 : Int)) then
    bif (decide ((v.2.2.2.2.2.2.1.length + [v.2.1].length) * 8 ≤ 140737488355328) && decide (v.2.2.2.2.2.2.1.length + [v.2.1].length ≤ 9223372036854775807)) then
    k0 (v.1, v.2.1, v.2.2.1, v.2.2.2.1, v.2.2.2.2.1, v.2.2.2.2.2.1, (v.2.2.2.2.2.2.1 ++ [v.2.1]), ())
    else none
  else
  bif (v.2.1 == v.2.2.2.2.1) then
    bif (decide ((v.2.2.2.2.2.2.1.length + [v.2.1].length) * 8 ≤ 140737488355328) && decide (v.2.2.2.2.2.2.1.length + [v.2.1].length ≤ 9223372036854775807)) then
    k0 (v.1, v.2.1, v.2.2.1, v.2.2.2.1, v.2.2.2.2.1, v.2.2.2.2.2.1, (v.2.2.2.2.2.2.1 ++ [v.2.1]), ())
    else none
  else
  k0 (v.1, v.2.1, v.2.2.1, v.2.2.2.1, v.2.2.2.2.1, v.2.2.2.2.2.1, v.2.2.2.2.2.2.1, ())
  else none
noncomputable def f361p0S (k : Nat) : Sum1 := partSum f361p0H f361p0N (fun R K v => f361p0 k (fun w => K .normal (encSt f361p0X0 w)) v)
theorem f361p0E (k : Nat) (R : Type) (K : X → St → Option R) (v : f361p0H.Den) : evS tab (f361T k) Go.Proofs.Tryd.f61.ntmps [] f361p0C 466 (partK f361p0M K) (encSt f361p0H v) = f361p0 k (fun w => K .normal (encSt f361p0X0 w)) v := by kernel_rfl
theorem f361p0I (k : Nat) : SumsOk P Go.Proofs.Tryd.f61.ntmps [] f361p0C 466 := SumsOk.nil
theorem f361p0O (k : Nat) : SumOk P Go.Proofs.Tryd.f61.ntmps f361p0C (f361p0S k) := sum_part tabOk (f361TS k) mixed (f361p0I k) (f361p0E k)
noncomputable def f361l1H : Shape := ⟨[(0, .one (.str)), (3, .one (.ptr 0 0)), (5, .one (.own 1)), (6, .one (.int .i64))], [(0, .var 36 [.int .i64, .int .i64, .int .i64, .bool]), (1, .row 3 (.int .i64) .plain)], 2, []⟩
noncomputable def f361l1X0 : Shape := ⟨[(5, .one (.own 0))], [(0, .row 3 (.int .i64) .plain)], 1, []⟩
noncomputable def f361l1N : NoteR := ⟨[0, 3, 5, 6], [(5, 3, (.int .i64))], []⟩
noncomputable def f361l1M : NoteR := ⟨[4, 5], [], []⟩
noncomputable def f361l1C : Code := firstC (codesAt 58 (codeOf Go.Proofs.Tryd.f61) 1)
noncomputable def f361l1s {R : Type} (k : Nat) (rec : ByteArray × Int × Int × Int × Int × Bool × List Int × Unit → Option R) (k0 : List Int × Unit → Option R) (v : ByteArray × Int × Int × Int × Int × Bool × List Int × Unit) : Option R :=
  bif (decide (v.2.1 < (v.1.size : Int))) then
    f361p0 k
      (fun (w1 : ByteArray × Int × Int × Int × Int × Bool × List Int × Unit) =>
        rec (w1.1, (IntKind.i64.wrap (w1.2.1 + (1 : Int))), w1.2.2.1, w1.2.2.2.1, w1.2.2.2.2.1, w1.2.2.2.2.2.1, w1.2.2.2.2.2.2.1, ()))
      (v.1, v.2.1, v.2.2.1, v.2.2.2.1, v.2.2.2.2.1, v.2.2.2.2.2.1, v.2.2.2.2.2.2.1, ())
  else
  k0 (v.2.2.2.2.2.2.1, ())
noncomputable def f361l1 {R : Type} (k : Nat) (k0 : List Int × Unit → Option R) (v : ByteArray × Int × Int × Int × Int × Bool × List Int × Unit) : Option R := iterS (fun rec v => f361l1s k rec k0 v) k v
noncomputable def f361l1S (k : Nat) : Sum1 := loopSum f361l1H f361l1N k (fun R rec K v => f361l1s k rec (fun w => K (.exit 0) (encSt f361l1X0 w)) v)
theorem f361l1E (k : Nat) (R : Type) (rec : St → Option R) (K : X → St → Option R) (v : f361l1H.Den) : evS tab (f361T k) Go.Proofs.Tryd.f61.ntmps [(466, f361p0S k)] (bodyOf f361l1C) 116 (bodyK f361l1N f361l1M rec K) (encSt f361l1H v) = f361l1s k (fun v => rec (encSt f361l1H v)) (fun w => K (.exit 0) (encSt f361l1X0 w)) v := by kernel_rfl
theorem f361l1I (k : Nat) : SumsOk P Go.Proofs.Tryd.f61.ntmps [(466, f361p0S k)] (bodyOf f361l1C) 116 := (SumsOk.nil).cons (c := f361p0C) (by kernel_rfl) (f361p0O k)
theorem f361l1O (k : Nat) : SumOk P Go.Proofs.Tryd.f61.ntmps f361l1C (f361l1S k) := (show f361l1C = .loop (bodyOf f361l1C) by kernel_rfl) ▸ sum_loop tabOk (f361TS k) mixed (f361l1I k) (f361l1E k)
noncomputable def f361F (k : Nat) (x : ByteArray × (Int × (Int × (Int × Bool)))) : Option (List Int) :=
  f361l1 k
    (fun (w2 : List Int × Unit) =>
      some w2.1)
    (x.1, (0 : Int), x.2.1, x.2.2.1, x.2.2.2.1, x.2.2.2.2, [], ())
noncomputable def f361L (k : Nat) : Sums := [(466, f361p0S k), (58, f361l1S k)]
theorem f361LS (k : Nat) : SumsOk P Go.Proofs.Tryd.f61.ntmps (f361L k) (codeOf Go.Proofs.Tryd.f61) 1 := ((SumsOk.nil).cons (c := f361l1C) (by kernel_rfl) (f361l1O k)).cons (c := f361p0C) (by kernel_rfl) (f361p0O k)
theorem f361E (k : Nat) (x : ByteArray × (Int × (Int × (Int × Bool)))) : evFS tab (f361T k) (f361L k) Go.Proofs.Tryd.f61.ntmps Go.Proofs.Tryd.f61.results.toList (codeOf Go.Proofs.Tryd.f61) (argsV [.dat .str, .agg (.pair (.int .i64) (.pair (.int .i64) (.pair (.int .i64) .bool)))] x) [.own 3 (.int .i64)] = f361F k x := by kernel_rfl
theorem f361Ok (k : Nat) (x : ByteArray × (Int × (Int × (Int × Bool)))) (y : List Int) (h : f361F k x = some y) : FnOk P 61 [.dat .str, .agg (.pair (.int .i64) (.pair (.int .i64) (.pair (.int .i64) .bool)))] [.own 3 (.int .i64)] x y :=
  evFS_sound tabOk (f361TS k) mixed Go.Proofs.Tryd.func61 (c := codeOf Go.Proofs.Tryd.f61) (by kernel_rfl) (f361LS k) ((f361E k x).trans h)
/-! ## midrange/midrangeref02.wordErr -/
noncomputable def f342T (k : Nat) : Table := [(17, entFn [.dat .str] [.agg (.pair (.int .i64) (.pair (.int .i64) (.pair (.int .i64) .bool))), .dat (.int .i64), .dat (.int .i64)] (f317F k)), (44, entFn [.agg (.pair (.int .i64) (.pair (.int .i64) (.int .i64)))] [.dat (.int .i64)] (f27F k)), (45, entFn [.dat (.int .i64)] [.dat .bool] (f68F k)), (56, entFn [.dat .bool] [.dat (.int .i64)] (f69F k)), (61, entFn [.dat .str, .agg (.pair (.int .i64) (.pair (.int .i64) (.pair (.int .i64) .bool)))] [.own 3 (.int .i64)] (f361F k))]
theorem f342TS (k : Nat) : Sound P (f342T k) := (((((Sound.nil).cons f361B (f361Ok k)).cons f69B (f69Ok k)).cons f68B (f68Ok k)).cons f27B (f27Ok k)).cons f317B (f317Ok k)
theorem f342B : HasBody P 42 := ⟨Go.Proofs.Tryd.f42, Go.Proofs.Tryd.func42, by kernel_rfl, by kernel_rfl⟩
noncomputable def f342F (k : Nat) (x : (Int × (Int × Int)) × ByteArray) : Option (Int) :=
  Option.bind (f27F k (x.1.1, (x.1.2.1, x.1.2.2))) fun y1 =>
  bif (y1 != (0 : Int)) then
    some y1
  else
  Option.bind (f68F k x.1.1) fun y2 =>
  bif (!y2) then
    some (17 : Int)
  else
  Option.bind (f317F k x.2) fun y3 =>
  bif (y3.2.2 != (0 : Int)) then
    some y3.2.2
  else
  Option.bind (f361F k (x.2, (y3.1.1, (y3.1.2.1, (y3.1.2.2.1, y3.1.2.2.2))))) fun y4 =>
  Option.bind (f69F k ((y4.length : Int) != x.1.2.1)) fun y5 =>
  some (IntKind.i64.wrap ((18 : Int) * y5))
noncomputable def f342L (k : Nat) : Sums := []
theorem f342LS (k : Nat) : SumsOk P Go.Proofs.Tryd.f42.ntmps (f342L k) (codeOf Go.Proofs.Tryd.f42) 1 := SumsOk.nil
theorem f342E (k : Nat) (x : (Int × (Int × Int)) × ByteArray) : evFS tab (f342T k) (f342L k) Go.Proofs.Tryd.f42.ntmps Go.Proofs.Tryd.f42.results.toList (codeOf Go.Proofs.Tryd.f42) (argsV [.agg (.pair (.int .i64) (.pair (.int .i64) (.int .i64))), .dat .str] x) [.dat (.int .i64)] = f342F k x := by kernel_rfl
theorem f342Ok (k : Nat) (x : (Int × (Int × Int)) × ByteArray) (y : Int) (h : f342F k x = some y) : FnOk P 42 [.agg (.pair (.int .i64) (.pair (.int .i64) (.int .i64))), .dat .str] [.dat (.int .i64)] x y :=
  evFS_sound tabOk (f342TS k) mixed Go.Proofs.Tryd.func42 (c := codeOf Go.Proofs.Tryd.f42) (by kernel_rfl) (f342LS k) ((f342E k x).trans h)
/-! ## midrange/midrangeref02.WordText -/
noncomputable def f343T (k : Nat) : Table := [(17, entFn [.dat .str] [.agg (.pair (.int .i64) (.pair (.int .i64) (.pair (.int .i64) .bool))), .dat (.int .i64), .dat (.int .i64)] (f317F k)), (33, entFn [.dat (.int .i64), .dat (.int .i64), .dat (.int .i64)] [.dat .bool] (f48F k)), (75, entFn [.agg (.pair (.int .i64) (.pair (.int .i64) (.int .i64))), .dat (.int .i64)] [.dat .str] (f375F k))]
theorem f343TS (k : Nat) : Sound P (f343T k) := (((Sound.nil).cons f375B (f375Ok k)).cons f48B (f48Ok k)).cons f317B (f317Ok k)
theorem f343B : HasBody P 43 := ⟨Go.Proofs.Tryd.f43, Go.Proofs.Tryd.func43, by kernel_rfl, by kernel_rfl⟩
noncomputable def f343p0H : Shape := ⟨[(1, .one (.int .i64)), (2, .one (.str)), (7, .one (.ptr 0 0)), (10, .one (.str)), (11, .one (.int .u8))], [(0, .var 36 [.int .i64, .int .i64, .int .i64, .bool])], 1, []⟩
noncomputable def f343p0X0 : Shape := ⟨[(1, .one (.int .i64)), (2, .one (.str)), (7, .one (.ptr 0 0)), (10, .one (.str)), (11, .one (.int .u8))], [(0, .var 36 [.int .i64, .int .i64, .int .i64, .bool])], 1, []⟩
noncomputable def f343p0N : NoteR := ⟨[1, 2, 7, 10, 11], [], []⟩
noncomputable def f343p0M : NoteR := ⟨[1, 2, 6, 7, 10, 11, 12], [], []⟩
noncomputable def f343p0C : Code := firstC (codesAt 62 (codeOf Go.Proofs.Tryd.f43) 1)
noncomputable def f343p0 {R : Type} (k : Nat) (k0 : Int × ByteArray × ByteArray × Int × Int × Int × Int × Bool × Unit → Option R) (v : Int × ByteArray × ByteArray × Int × Int × Int × Int × Bool × Unit) : Option R :=
  bif v.2.2.2.2.2.2.2.1 then
    k0 (v.1, v.2.1, v.2.2.1, (42 : Int), v.2.2.2.2.1, v.2.2.2.2.2.1, v.2.2.2.2.2.2.1, v.2.2.2.2.2.2.2.1, ())
  else
  k0 (v.1, v.2.1, v.2.2.1, v.2.2.2.1, v.2.2.2.2.1, v.2.2.2.2.2.1, v.2.2.2.2.2.2.1, v.2.2.2.2.2.2.2.1, ())
noncomputable def f343p0S (k : Nat) : Sum1 := partSum f343p0H f343p0N (fun R K v => f343p0 k (fun w => K .normal (encSt f343p0X0 w)) v)
theorem f343p0E (k : Nat) (R : Type) (K : X → St → Option R) (v : f343p0H.Den) : evS tab (f343T k) Go.Proofs.Tryd.f43.ntmps [] f343p0C 62 (partK f343p0M K) (encSt f343p0H v) = f343p0 k (fun w => K .normal (encSt f343p0X0 w)) v := by kernel_rfl
theorem f343p0I (k : Nat) : SumsOk P Go.Proofs.Tryd.f43.ntmps [] f343p0C 62 := SumsOk.nil
theorem f343p0O (k : Nat) : SumOk P Go.Proofs.Tryd.f43.ntmps f343p0C (f343p0S k) := sum_part tabOk (f343TS k) mixed (f343p0I k) (f343p0E k)
noncomputable def f343p1H : Shape := ⟨[(1, .one (.int .i64)), (2, .one (.str)), (7, .one (.ptr 0 0)), (10, .one (.str)), (11, .one (.int .u8)), (12, .one (.own 1)), (13, .one (.bool)), (14, .one (.int .i64)), (15, .one (.int .i64)), (16, .one (.int .u8))], [(0, .var 36 [.int .i64, .int .i64, .int .i64, .bool]), (1, .row 5 (.int .u8) .plain)], 2, []⟩
noncomputable def f343p1X0 : Shape := ⟨[(1, .one (.int .i64)), (2, .one (.str)), (7, .one (.ptr 0 0)), (10, .one (.str)), (11, .one (.int .u8)), (12, .one (.own 1)), (13, .one (.bool)), (14, .one (.int .i64)), (15, .one (.int .i64)), (16, .one (.int .u8))], [(0, .var 36 [.int .i64, .int .i64, .int .i64, .bool]), (1, .row 5 (.int .u8) .plain)], 2, []⟩
noncomputable def f343p1N : NoteR := ⟨[1, 2, 7, 10, 11, 12, 13, 14, 15, 16], [], []⟩
noncomputable def f343p1M : NoteR := ⟨[1, 2, 6, 7, 10, 11, 12, 13, 14, 15, 16], [], []⟩
noncomputable def f343p1C : Code := firstC (codesAt 16730414 (codeOf Go.Proofs.Tryd.f43) 1)
noncomputable def f343p1 {R : Type} (k : Nat) (k0 : Int × ByteArray × ByteArray × Int × Bool × Int × Int × Int × Int × Int × Int × Bool × List Int × Unit → Option R) (v : Int × ByteArray × ByteArray × Int × Bool × Int × Int × Int × Int × Int × Int × Bool × List Int × Unit) : Option R :=
  bif v.2.2.2.2.1 then
    k0 (v.1, v.2.1, v.2.2.1, v.2.2.2.1, v.2.2.2.2.1, v.2.2.2.2.2.1, v.2.2.2.2.2.2.1, v.2.2.2.1, v.2.2.2.2.2.2.2.2.1, v.2.2.2.2.2.2.2.2.2.1, v.2.2.2.2.2.2.2.2.2.2.1, v.2.2.2.2.2.2.2.2.2.2.2.1, v.2.2.2.2.2.2.2.2.2.2.2.2.1, ())
  else
  k0 (v.1, v.2.1, v.2.2.1, v.2.2.2.1, v.2.2.2.2.1, v.2.2.2.2.2.1, v.2.2.2.2.2.2.1, v.2.2.2.2.2.2.2.1, v.2.2.2.2.2.2.2.2.1, v.2.2.2.2.2.2.2.2.2.1, v.2.2.2.2.2.2.2.2.2.2.1, v.2.2.2.2.2.2.2.2.2.2.2.1, v.2.2.2.2.2.2.2.2.2.2.2.2.1, ())
noncomputable def f343p1S (k : Nat) : Sum1 := partSum f343p1H f343p1N (fun R K v => f343p1 k (fun w => K .normal (encSt f343p1X0 w)) v)
theorem f343p1E (k : Nat) (R : Type) (K : X → St → Option R) (v : f343p1H.Den) : evS tab (f343T k) Go.Proofs.Tryd.f43.ntmps [] f343p1C 16730414 (partK f343p1M K) (encSt f343p1H v) = f343p1 k (fun w => K .normal (encSt f343p1X0 w)) v := by kernel_rfl
theorem f343p1I (k : Nat) : SumsOk P Go.Proofs.Tryd.f43.ntmps [] f343p1C 16730414 := SumsOk.nil
theorem f343p1O (k : Nat) : SumOk P Go.Proofs.Tryd.f43.ntmps f343p1C (f343p1S k) := sum_part tabOk (f343TS k) mixed (f343p1I k) (f343p1E k)
noncomputable def f343p2H : Shape := ⟨[(1, .one (.int .i64)), (2, .one (.str)), (7, .one (.ptr 0 0)), (10, .one (.str)), (11, .one (.int .u8)), (12, .one (.own 1)), (13, .one (.bool)), (14, .one (.int .i64)), (15, .one (.int .i64)), (16, .one (.int .u8))], [(0, .var 36 [.int .i64, .int .i64, .int .i64, .bool]), (1, .row 5 (.int .u8) .plain)], 2, []⟩
noncomputable def f343p2X0 : Shape := ⟨[(1, .one (.int .i64)), (2, .one (.str)), (7, .one (.ptr 0 0)), (10, .one (.str)), (11, .one (.int .u8)), (12, .one (.own 1)), (13, .one (.bool)), (14, .one (.int .i64)), (15, .one (.int .i64)), (16, .one (.int .u8))], [(0, .var 36 [.int .i64, .int .i64, .int .i64, .bool]), (1, .row 5 (.int .u8) .plain)], 2, []⟩
noncomputable def f343p2N : NoteR := ⟨[1, 2, 7, 10, 11, 12, 13, 14, 15, 16], [], []⟩
noncomputable def f343p2M : NoteR := ⟨[1, 2, 6, 7, 10, 11, 12, 13, 14, 15, 16], [], []⟩
noncomputable def f343p2C : Code := firstC (codesAt 130706 (codeOf Go.Proofs.Tryd.f43) 1)
noncomputable def f343p2 {R : Type} (k : Nat) (k0 : Int × ByteArray × ByteArray × Int × Bool × Int × Int × Int × Int × Int × Int × Bool × List Int × Unit → Option R) (v : Int × ByteArray × ByteArray × Int × Bool × Int × Int × Int × Int × Int × Int × Bool × List Int × Unit) : Option R :=
  bif (v.2.2.2.2.2.2.2.1 == (32 : Int)) then
    bif ((decide ((0 : Int) ≤ v.2.2.2.2.2.1)) && (decide (v.2.2.2.2.2.1 < (v.2.2.1.size : Int)))) then
    bif v.2.2.2.2.1 then
      f343p1 k
        (fun (w4 : Int × ByteArray × ByteArray × Int × Bool × Int × Int × Int × Int × Int × Int × Bool × List Int × Unit) =>
          bif w4.2.2.2.2.1 then
            k0 (w4.1, w4.2.1, w4.2.2.1, w4.2.2.2.1, (w4.2.2.2.2.2.2.1 != w4.2.2.2.2.2.2.2.2.2.2.1), w4.2.2.2.2.2.1, w4.2.2.2.2.2.2.1, w4.2.2.2.2.2.2.2.1, w4.2.2.2.2.2.2.2.2.1, w4.2.2.2.2.2.2.2.2.2.1, w4.2.2.2.2.2.2.2.2.2.2.1, w4.2.2.2.2.2.2.2.2.2.2.2.1, w4.2.2.2.2.2.2.2.2.2.2.2.2.1, ())
          else
          k0 (w4.1, w4.2.1, w4.2.2.1, w4.2.2.2.1, false, w4.2.2.2.2.2.1, w4.2.2.2.2.2.2.1, w4.2.2.2.2.2.2.2.1, w4.2.2.2.2.2.2.2.2.1, w4.2.2.2.2.2.2.2.2.2.1, w4.2.2.2.2.2.2.2.2.2.2.1, w4.2.2.2.2.2.2.2.2.2.2.2.1, w4.2.2.2.2.2.2.2.2.2.2.2.2.1, ()))
        (v.1, v.2.1, v.2.2.1, v.2.2.2.1, ((bt v.2.2.1 v.2.2.2.2.2.1) == (48 : Int)), (IntKind.i64.wrap (v.2.2.2.2.2.1 + (1 : Int))), v.2.2.2.2.2.2.1, (bt v.2.2.1 v.2.2.2.2.2.1), v.2.2.2.2.2.2.2.2.1, v.2.2.2.2.2.2.2.2.2.1, v.2.2.2.2.2.2.2.2.2.2.1, v.2.2.2.2.2.2.2.2.2.2.2.1, v.2.2.2.2.2.2.2.2.2.2.2.2.1, ())
    else
    f343p1 k
      (fun (w5 : Int × ByteArray × ByteArray × Int × Bool × Int × Int × Int × Int × Int × Int × Bool × List Int × Unit) =>
        bif w5.2.2.2.2.1 then
          k0 (w5.1, w5.2.1, w5.2.2.1, w5.2.2.2.1, (w5.2.2.2.2.2.2.1 != w5.2.2.2.2.2.2.2.2.2.2.1), w5.2.2.2.2.2.1, w5.2.2.2.2.2.2.1, w5.2.2.2.2.2.2.2.1, w5.2.2.2.2.2.2.2.2.1, w5.2.2.2.2.2.2.2.2.2.1, w5.2.2.2.2.2.2.2.2.2.2.1, w5.2.2.2.2.2.2.2.2.2.2.2.1, w5.2.2.2.2.2.2.2.2.2.2.2.2.1, ())
        else
        k0 (w5.1, w5.2.1, w5.2.2.1, w5.2.2.2.1, false, w5.2.2.2.2.2.1, w5.2.2.2.2.2.2.1, w5.2.2.2.2.2.2.2.1, w5.2.2.2.2.2.2.2.2.1, w5.2.2.2.2.2.2.2.2.2.1, w5.2.2.2.2.2.2.2.2.2.2.1, w5.2.2.2.2.2.2.2.2.2.2.2.1, w5.2.2.2.2.2.2.2.2.2.2.2.2.1, ()))
      (v.1, v.2.1, v.2.2.1, v.2.2.2.1, false, (IntKind.i64.wrap (v.2.2.2.2.2.1 + (1 : Int))), v.2.2.2.2.2.2.1, (bt v.2.2.1 v.2.2.2.2.2.1), v.2.2.2.2.2.2.2.2.1, v.2.2.2.2.2.2.2.2.2.1, v.2.2.2.2.2.2.2.2.2.2.1, v.2.2.2.2.2.2.2.2.2.2.2.1, v.2.2.2.2.2.2.2.2.2.2.2.2.1, ())
    else none
  else
  bif (v.2.2.2.2.2.2.1 == v.2.2.2.2.2.2.2.2.2.2.1) then
    bif ((decide ((0 : Int) ≤ v.2.2.2.2.2.1)) && (decide (v.2.2.2.2.2.1 < (v.2.2.1.size : Int)))) then
    bif v.2.2.2.2.1 then
      f343p1 k
        (fun (w6 : Int × ByteArray × ByteArray × Int × Bool × Int × Int × Int × Int × Int × Int × Bool × List Int × Unit) =>
          bif w6.2.2.2.2.1 then
            k0 (w6.1, w6.2.1, w6.2.2.1, w6.2.2.2.1, (w6.2.2.2.2.2.2.1 != w6.2.2.2.2.2.2.2.2.2.2.1), w6.2.2.2.2.2.1, w6.2.2.2.2.2.2.1, w6.2.2.2.2.2.2.2.1, w6.2.2.2.2.2.2.2.2.1, w6.2.2.2.2.2.2.2.2.2.1, w6.2.2.2.2.2.2.2.2.2.2.1, w6.2.2.2.2.2.2.2.2.2.2.2.1, w6.2.2.2.2.2.2.2.2.2.2.2.2.1, ())
          else
          k0 (w6.1, w6.2.1, w6.2.2.1, w6.2.2.2.1, false, w6.2.2.2.2.2.1, w6.2.2.2.2.2.2.1, w6.2.2.2.2.2.2.2.1, w6.2.2.2.2.2.2.2.2.1, w6.2.2.2.2.2.2.2.2.2.1, w6.2.2.2.2.2.2.2.2.2.2.1, w6.2.2.2.2.2.2.2.2.2.2.2.1, w6.2.2.2.2.2.2.2.2.2.2.2.2.1, ()))
        (v.1, v.2.1, v.2.2.1, v.2.2.2.1, ((bt v.2.2.1 v.2.2.2.2.2.1) == (48 : Int)), (IntKind.i64.wrap (v.2.2.2.2.2.1 + (1 : Int))), v.2.2.2.2.2.2.1, (bt v.2.2.1 v.2.2.2.2.2.1), v.2.2.2.2.2.2.2.2.1, v.2.2.2.2.2.2.2.2.2.1, v.2.2.2.2.2.2.2.2.2.2.1, v.2.2.2.2.2.2.2.2.2.2.2.1, v.2.2.2.2.2.2.2.2.2.2.2.2.1, ())
    else
    f343p1 k
      (fun (w7 : Int × ByteArray × ByteArray × Int × Bool × Int × Int × Int × Int × Int × Int × Bool × List Int × Unit) =>
        bif w7.2.2.2.2.1 then
          k0 (w7.1, w7.2.1, w7.2.2.1, w7.2.2.2.1, (w7.2.2.2.2.2.2.1 != w7.2.2.2.2.2.2.2.2.2.2.1), w7.2.2.2.2.2.1, w7.2.2.2.2.2.2.1, w7.2.2.2.2.2.2.2.1, w7.2.2.2.2.2.2.2.2.1, w7.2.2.2.2.2.2.2.2.2.1, w7.2.2.2.2.2.2.2.2.2.2.1, w7.2.2.2.2.2.2.2.2.2.2.2.1, w7.2.2.2.2.2.2.2.2.2.2.2.2.1, ())
        else
        k0 (w7.1, w7.2.1, w7.2.2.1, w7.2.2.2.1, false, w7.2.2.2.2.2.1, w7.2.2.2.2.2.2.1, w7.2.2.2.2.2.2.2.1, w7.2.2.2.2.2.2.2.2.1, w7.2.2.2.2.2.2.2.2.2.1, w7.2.2.2.2.2.2.2.2.2.2.1, w7.2.2.2.2.2.2.2.2.2.2.2.1, w7.2.2.2.2.2.2.2.2.2.2.2.2.1, ()))
      (v.1, v.2.1, v.2.2.1, v.2.2.2.1, false, (IntKind.i64.wrap (v.2.2.2.2.2.1 + (1 : Int))), v.2.2.2.2.2.2.1, (bt v.2.2.1 v.2.2.2.2.2.1), v.2.2.2.2.2.2.2.2.1, v.2.2.2.2.2.2.2.2.2.1, v.2.2.2.2.2.2.2.2.2.2.1, v.2.2.2.2.2.2.2.2.2.2.2.1, v.2.2.2.2.2.2.2.2.2.2.2.2.1, ())
    else none
  else
  bif (v.2.2.2.2.2.2.2.1 == (38 : Int)) then
    k0 (v.1, v.2.1, v.2.2.1, v.2.2.2.1, v.2.2.2.2.1, v.2.2.2.2.2.1, v.2.2.2.2.2.2.1, (32 : Int), v.2.2.2.2.2.2.2.2.1, v.2.2.2.2.2.2.2.2.2.1, v.2.2.2.2.2.2.2.2.2.2.1, v.2.2.2.2.2.2.2.2.2.2.2.1, v.2.2.2.2.2.2.2.2.2.2.2.2.1, ())
  else
  bif v.2.2.2.2.1 then
    k0 (v.1, v.2.1, v.2.2.1, v.2.2.2.1, v.2.2.2.2.1, v.2.2.2.2.2.1, v.2.2.2.2.2.2.1, v.2.2.2.1, v.2.2.2.2.2.2.2.2.1, v.2.2.2.2.2.2.2.2.2.1, v.2.2.2.2.2.2.2.2.2.2.1, v.2.2.2.2.2.2.2.2.2.2.2.1, v.2.2.2.2.2.2.2.2.2.2.2.2.1, ())
  else
  k0 (v.1, v.2.1, v.2.2.1, v.2.2.2.1, v.2.2.2.2.1, v.2.2.2.2.2.1, v.2.2.2.2.2.2.1, v.2.2.2.2.2.2.2.1, v.2.2.2.2.2.2.2.2.1, v.2.2.2.2.2.2.2.2.2.1, v.2.2.2.2.2.2.2.2.2.2.1, v.2.2.2.2.2.2.2.2.2.2.2.1, v.2.2.2.2.2.2.2.2.2.2.2.2.1, ())
noncomputable def f343p2S (k : Nat) : Sum1 := partSum f343p2H f343p2N (fun R K v => f343p2 k (fun w => K .normal (encSt f343p2X0 w)) v)
theorem f343p2E (k : Nat) (R : Type) (K : X → St → Option R) (v : f343p2H.Den) : evS tab (f343T k) Go.Proofs.Tryd.f43.ntmps [(16730414, f343p1S k)] f343p2C 130706 (partK f343p2M K) (encSt f343p2H v) = f343p2 k (fun w => K .normal (encSt f343p2X0 w)) v := by kernel_rfl
theorem f343p2I (k : Nat) : SumsOk P Go.Proofs.Tryd.f43.ntmps [(16730414, f343p1S k)] f343p2C 130706 := (SumsOk.nil).cons (c := f343p1C) (by kernel_rfl) (f343p1O k)
theorem f343p2O (k : Nat) : SumOk P Go.Proofs.Tryd.f43.ntmps f343p2C (f343p2S k) := sum_part tabOk (f343TS k) mixed (f343p2I k) (f343p2E k)
noncomputable def f343l3H : Shape := ⟨[(1, .one (.int .i64)), (2, .one (.str)), (7, .one (.ptr 0 0)), (10, .one (.str)), (11, .one (.int .u8)), (12, .one (.own 1)), (13, .one (.bool)), (14, .one (.int .i64)), (15, .one (.int .i64))], [(0, .var 36 [.int .i64, .int .i64, .int .i64, .bool]), (1, .row 5 (.int .u8) .plain)], 2, []⟩
noncomputable def f343l3X0 : Shape := ⟨[(1, .one (.int .i64)), (2, .one (.str)), (7, .one (.ptr 0 0)), (12, .one (.own 1))], [(0, .var 36 [.int .i64, .int .i64, .int .i64, .bool]), (1, .row 5 (.int .u8) .plain)], 2, []⟩
noncomputable def f343l3N : NoteR := ⟨[1, 2, 7, 10, 11, 12, 13, 14, 15], [(12, 5, (.int .u8))], []⟩
noncomputable def f343l3M : NoteR := ⟨[1, 2, 6, 7, 12], [], []⟩
noncomputable def f343l3C : Code := firstC (codesAt 2042 (codeOf Go.Proofs.Tryd.f43) 1)
noncomputable def f343l3s {R : Type} (k : Nat) (rec : Int × ByteArray × ByteArray × Int × Bool × Int × Int × Int × Int × Int × Bool × List Int × Unit → Option R) (k0 : Int × ByteArray × Int × Int × Int × Bool × List Int × Unit → Option R) (v : Int × ByteArray × ByteArray × Int × Bool × Int × Int × Int × Int × Int × Bool × List Int × Unit) : Option R :=
  bif (decide (v.2.2.2.2.2.2.1 < v.2.2.2.2.2.2.2.1)) then
    bif ((decide ((0 : Int) ≤ v.2.2.2.2.2.2.1)) && (decide (v.2.2.2.2.2.2.1 < (v.2.1.size : Int)))) then
    f343p2 k
      (fun (w8 : Int × ByteArray × ByteArray × Int × Bool × Int × Int × Int × Int × Int × Int × Bool × List Int × Unit) =>
        bif (decide ((w8.2.2.2.2.2.2.2.2.2.2.2.2.1.length + [w8.2.2.2.2.2.2.2.1].length) * 1 ≤ 140737488355328) && decide (w8.2.2.2.2.2.2.2.2.2.2.2.2.1.length + [w8.2.2.2.2.2.2.2.1].length ≤ 9223372036854775807)) then
        rec (w8.1, w8.2.1, w8.2.2.1, w8.2.2.2.1, w8.2.2.2.2.1, w8.2.2.2.2.2.1, (IntKind.i64.wrap (w8.2.2.2.2.2.2.1 + (1 : Int))), w8.2.2.2.2.2.2.2.2.1, w8.2.2.2.2.2.2.2.2.2.1, w8.2.2.2.2.2.2.2.2.2.2.1, w8.2.2.2.2.2.2.2.2.2.2.2.1, (w8.2.2.2.2.2.2.2.2.2.2.2.2.1 ++ [w8.2.2.2.2.2.2.2.1]), ())
        else none)
      (v.1, v.2.1, v.2.2.1, v.2.2.2.1, v.2.2.2.2.1, v.2.2.2.2.2.1, v.2.2.2.2.2.2.1, (bt v.2.1 v.2.2.2.2.2.2.1), v.2.2.2.2.2.2.2.1, v.2.2.2.2.2.2.2.2.1, v.2.2.2.2.2.2.2.2.2.1, v.2.2.2.2.2.2.2.2.2.2.1, v.2.2.2.2.2.2.2.2.2.2.2.1, ())
    else none
  else
  k0 (v.1, v.2.1, v.2.2.2.2.2.2.2.1, v.2.2.2.2.2.2.2.2.1, v.2.2.2.2.2.2.2.2.2.1, v.2.2.2.2.2.2.2.2.2.2.1, v.2.2.2.2.2.2.2.2.2.2.2.1, ())
noncomputable def f343l3 {R : Type} (k : Nat) (k0 : Int × ByteArray × Int × Int × Int × Bool × List Int × Unit → Option R) (v : Int × ByteArray × ByteArray × Int × Bool × Int × Int × Int × Int × Int × Bool × List Int × Unit) : Option R := iterS (fun rec v => f343l3s k rec k0 v) k v
noncomputable def f343l3S (k : Nat) : Sum1 := loopSum f343l3H f343l3N k (fun R rec K v => f343l3s k rec (fun w => K (.exit 0) (encSt f343l3X0 w)) v)
theorem f343l3E (k : Nat) (R : Type) (rec : St → Option R) (K : X → St → Option R) (v : f343l3H.Den) : evS tab (f343T k) Go.Proofs.Tryd.f43.ntmps [(16730414, f343p1S k), (130706, f343p2S k)] (bodyOf f343l3C) 4084 (bodyK f343l3N f343l3M rec K) (encSt f343l3H v) = f343l3s k (fun v => rec (encSt f343l3H v)) (fun w => K (.exit 0) (encSt f343l3X0 w)) v := by kernel_rfl
theorem f343l3I (k : Nat) : SumsOk P Go.Proofs.Tryd.f43.ntmps [(16730414, f343p1S k), (130706, f343p2S k)] (bodyOf f343l3C) 4084 := ((SumsOk.nil).cons (c := f343p2C) (by kernel_rfl) (f343p2O k)).cons (c := f343p1C) (by kernel_rfl) (f343p1O k)
theorem f343l3O (k : Nat) : SumOk P Go.Proofs.Tryd.f43.ntmps f343l3C (f343l3S k) := (show f343l3C = .loop (bodyOf f343l3C) by kernel_rfl) ▸ sum_loop tabOk (f343TS k) mixed (f343l3I k) (f343l3E k)
noncomputable def f343p4H : Shape := ⟨[(1, .one (.int .i64)), (2, .one (.str)), (7, .one (.ptr 0 0)), (12, .one (.own 1)), (17, .one (.str))], [(0, .var 36 [.int .i64, .int .i64, .int .i64, .bool]), (1, .row 5 (.int .u8) .plain)], 2, []⟩
noncomputable def f343p4X0 : Shape := ⟨[(1, .one (.int .i64)), (2, .one (.str)), (7, .one (.ptr 0 0)), (12, .one (.own 1)), (17, .one (.str))], [(0, .var 36 [.int .i64, .int .i64, .int .i64, .bool]), (1, .row 5 (.int .u8) .plain)], 2, []⟩
noncomputable def f343p4N : NoteR := ⟨[1, 2, 7, 12, 17], [], []⟩
noncomputable def f343p4M : NoteR := ⟨[1, 2, 6, 7, 12, 17], [], []⟩
noncomputable def f343p4C : Code := firstC (codesAt 2046 (codeOf Go.Proofs.Tryd.f43) 1)
noncomputable def f343p4 {R : Type} (k : Nat) (k0 : Int × ByteArray × ByteArray × Int × Int × Int × Bool × List Int × Unit → Option R) (v : Int × ByteArray × ByteArray × Int × Int × Int × Bool × List Int × Unit) : Option R :=
  bif (v.2.2.2.2.1 != (-1 : Int)) then
    bif ((decide ((0 : Int) ≤ v.2.2.2.2.1)) && (decide (v.2.2.2.2.1 < (v.2.1.size : Int)))) then
    bif ((bt v.2.1 v.2.2.2.2.1) == (67 : Int)) then
      k0 (v.1, v.2.1, (⟨#[67, 82]⟩ : ByteArray), v.2.2.2.1, v.2.2.2.2.1, v.2.2.2.2.2.1, v.2.2.2.2.2.2.1, v.2.2.2.2.2.2.2.1, ())
    else
    k0 (v.1, v.2.1, (⟨#[45]⟩ : ByteArray), v.2.2.2.1, v.2.2.2.2.1, v.2.2.2.2.2.1, v.2.2.2.2.2.2.1, v.2.2.2.2.2.2.2.1, ())
    else none
  else
  k0 (v.1, v.2.1, v.2.2.1, v.2.2.2.1, v.2.2.2.2.1, v.2.2.2.2.2.1, v.2.2.2.2.2.2.1, v.2.2.2.2.2.2.2.1, ())
noncomputable def f343p4S (k : Nat) : Sum1 := partSum f343p4H f343p4N (fun R K v => f343p4 k (fun w => K .normal (encSt f343p4X0 w)) v)
theorem f343p4E (k : Nat) (R : Type) (K : X → St → Option R) (v : f343p4H.Den) : evS tab (f343T k) Go.Proofs.Tryd.f43.ntmps [] f343p4C 2046 (partK f343p4M K) (encSt f343p4H v) = f343p4 k (fun w => K .normal (encSt f343p4X0 w)) v := by kernel_rfl
theorem f343p4I (k : Nat) : SumsOk P Go.Proofs.Tryd.f43.ntmps [] f343p4C 2046 := SumsOk.nil
theorem f343p4O (k : Nat) : SumOk P Go.Proofs.Tryd.f43.ntmps f343p4C (f343p4S k) := sum_part tabOk (f343TS k) mixed (f343p4I k) (f343p4E k)
noncomputable def f343p5H : Shape := ⟨[(1, .one (.int .i64)), (2, .one (.str)), (7, .one (.ptr 0 0)), (12, .one (.own 1)), (17, .one (.str)), (18, .one (.int .i64)), (19, .one (.int .u8))], [(0, .var 36 [.int .i64, .int .i64, .int .i64, .bool]), (1, .row 5 (.int .u8) .plain)], 2, []⟩
noncomputable def f343p5X0 : Shape := ⟨[(1, .one (.int .i64)), (2, .one (.str)), (7, .one (.ptr 0 0)), (12, .one (.own 1)), (17, .one (.str)), (18, .one (.int .i64)), (19, .one (.int .u8))], [(0, .var 36 [.int .i64, .int .i64, .int .i64, .bool]), (1, .row 5 (.int .u8) .plain)], 2, []⟩
noncomputable def f343p5N : NoteR := ⟨[1, 2, 7, 12, 17, 18, 19], [], []⟩
noncomputable def f343p5M : NoteR := ⟨[1, 2, 6, 7, 12, 17, 18, 19], [], []⟩
noncomputable def f343p5C : Code := firstC (codesAt 1048210 (codeOf Go.Proofs.Tryd.f43) 1)
noncomputable def f343p5 {R : Type} (k : Nat) (k0 : Int × ByteArray × ByteArray × Int × Int × Int × Int × Int × Bool × List Int × Unit → Option R) (v : Int × ByteArray × ByteArray × Int × Int × Int × Int × Int × Bool × List Int × Unit) : Option R :=
  bif (v.2.2.2.2.1 == (38 : Int)) then
    k0 (v.1, v.2.1, v.2.2.1, v.2.2.2.1, (32 : Int), v.2.2.2.2.2.1, v.2.2.2.2.2.2.1, v.2.2.2.2.2.2.2.1, v.2.2.2.2.2.2.2.2.1, v.2.2.2.2.2.2.2.2.2.1, ())
  else
  bif (v.2.2.2.2.2.2.1 != (-1 : Int)) then
    let t11 := (IntKind.i64.wrap ((IntKind.i64.wrap (v.2.2.2.2.2.2.1 + (v.2.2.1.size : Int))) - (1 : Int)))
    Option.bind (f48F k (v.2.2.2.1, v.2.2.2.2.2.2.1, t11)) fun y12 =>
    bif y12 then
      bif (decide (v.1 ≥ (0 : Int))) then
        k0 (v.1, v.2.1, v.2.2.1, v.2.2.2.1, (32 : Int), v.2.2.2.2.2.1, v.2.2.2.2.2.2.1, v.2.2.2.2.2.2.2.1, v.2.2.2.2.2.2.2.2.1, v.2.2.2.2.2.2.2.2.2.1, ())
      else
      k0 (v.1, v.2.1, v.2.2.1, v.2.2.2.1, v.2.2.2.2.1, v.2.2.2.2.2.1, v.2.2.2.2.2.2.1, v.2.2.2.2.2.2.2.1, v.2.2.2.2.2.2.2.2.1, v.2.2.2.2.2.2.2.2.2.1, ())
    else
    k0 (v.1, v.2.1, v.2.2.1, v.2.2.2.1, v.2.2.2.2.1, v.2.2.2.2.2.1, v.2.2.2.2.2.2.1, v.2.2.2.2.2.2.2.1, v.2.2.2.2.2.2.2.2.1, v.2.2.2.2.2.2.2.2.2.1, ())
  else
  k0 (v.1, v.2.1, v.2.2.1, v.2.2.2.1, v.2.2.2.2.1, v.2.2.2.2.2.1, v.2.2.2.2.2.2.1, v.2.2.2.2.2.2.2.1, v.2.2.2.2.2.2.2.2.1, v.2.2.2.2.2.2.2.2.2.1, ())
noncomputable def f343p5S (k : Nat) : Sum1 := partSum f343p5H f343p5N (fun R K v => f343p5 k (fun w => K .normal (encSt f343p5X0 w)) v)
theorem f343p5E (k : Nat) (R : Type) (K : X → St → Option R) (v : f343p5H.Den) : evS tab (f343T k) Go.Proofs.Tryd.f43.ntmps [] f343p5C 1048210 (partK f343p5M K) (encSt f343p5H v) = f343p5 k (fun w => K .normal (encSt f343p5X0 w)) v := by kernel_rfl
theorem f343p5I (k : Nat) : SumsOk P Go.Proofs.Tryd.f43.ntmps [] f343p5C 1048210 := SumsOk.nil
theorem f343p5O (k : Nat) : SumOk P Go.Proofs.Tryd.f43.ntmps f343p5C (f343p5S k) := sum_part tabOk (f343TS k) mixed (f343p5I k) (f343p5E k)
noncomputable def f343l6H : Shape := ⟨[(1, .one (.int .i64)), (2, .one (.str)), (7, .one (.ptr 0 0)), (12, .one (.own 1)), (17, .one (.str)), (18, .one (.int .i64))], [(0, .var 36 [.int .i64, .int .i64, .int .i64, .bool]), (1, .row 5 (.int .u8) .plain)], 2, []⟩
noncomputable def f343l6X0 : Shape := ⟨[(12, .one (.own 0))], [(0, .row 5 (.int .u8) .plain)], 1, []⟩
noncomputable def f343l6N : NoteR := ⟨[1, 2, 7, 12, 17, 18], [], []⟩
noncomputable def f343l6M : NoteR := ⟨[6, 12], [], []⟩
noncomputable def f343l6C : Code := firstC (codesAt 16378 (codeOf Go.Proofs.Tryd.f43) 1)
noncomputable def f343l6s {R : Type} (k : Nat) (rec : Int × ByteArray × ByteArray × Int × Int × Int × Int × Bool × List Int × Unit → Option R) (k0 : List Int × Unit → Option R) (v : Int × ByteArray × ByteArray × Int × Int × Int × Int × Bool × List Int × Unit) : Option R :=
  bif (decide (v.2.2.2.1 < (v.2.1.size : Int))) then
    bif ((decide ((0 : Int) ≤ v.2.2.2.1)) && (decide (v.2.2.2.1 < (v.2.1.size : Int)))) then
    f343p5 k
      (fun (w13 : Int × ByteArray × ByteArray × Int × Int × Int × Int × Int × Bool × List Int × Unit) =>
        bif (decide ((w13.2.2.2.2.2.2.2.2.2.1.length + [w13.2.2.2.2.1].length) * 1 ≤ 140737488355328) && decide (w13.2.2.2.2.2.2.2.2.2.1.length + [w13.2.2.2.2.1].length ≤ 9223372036854775807)) then
        rec (w13.1, w13.2.1, w13.2.2.1, (IntKind.i64.wrap (w13.2.2.2.1 + (1 : Int))), w13.2.2.2.2.2.1, w13.2.2.2.2.2.2.1, w13.2.2.2.2.2.2.2.1, w13.2.2.2.2.2.2.2.2.1, (w13.2.2.2.2.2.2.2.2.2.1 ++ [w13.2.2.2.2.1]), ())
        else none)
      (v.1, v.2.1, v.2.2.1, v.2.2.2.1, (bt v.2.1 v.2.2.2.1), v.2.2.2.2.1, v.2.2.2.2.2.1, v.2.2.2.2.2.2.1, v.2.2.2.2.2.2.2.1, v.2.2.2.2.2.2.2.2.1, ())
    else none
  else
  k0 (v.2.2.2.2.2.2.2.2.1, ())
noncomputable def f343l6 {R : Type} (k : Nat) (k0 : List Int × Unit → Option R) (v : Int × ByteArray × ByteArray × Int × Int × Int × Int × Bool × List Int × Unit) : Option R := iterS (fun rec v => f343l6s k rec k0 v) k v
noncomputable def f343l6S (k : Nat) : Sum1 := loopSum f343l6H f343l6N k (fun R rec K v => f343l6s k rec (fun w => K (.exit 3) (encSt f343l6X0 w)) v)
theorem f343l6E (k : Nat) (R : Type) (rec : St → Option R) (K : X → St → Option R) (v : f343l6H.Den) : evS tab (f343T k) Go.Proofs.Tryd.f43.ntmps [(1048210, f343p5S k)] (bodyOf f343l6C) 32756 (bodyK f343l6N f343l6M rec K) (encSt f343l6H v) = f343l6s k (fun v => rec (encSt f343l6H v)) (fun w => K (.exit 3) (encSt f343l6X0 w)) v := by kernel_rfl
theorem f343l6I (k : Nat) : SumsOk P Go.Proofs.Tryd.f43.ntmps [(1048210, f343p5S k)] (bodyOf f343l6C) 32756 := (SumsOk.nil).cons (c := f343p5C) (by kernel_rfl) (f343p5O k)
theorem f343l6O (k : Nat) : SumOk P Go.Proofs.Tryd.f43.ntmps f343l6C (f343l6S k) := (show f343l6C = .loop (bodyOf f343l6C) by kernel_rfl) ▸ sum_loop tabOk (f343TS k) mixed (f343l6I k) (f343l6E k)
noncomputable def f343F (k : Nat) (x : (Int × (Int × Int)) × Int × ByteArray) : Option (ByteArray) :=
  Option.bind (f317F k x.2.2) fun y1 =>
  Option.bind (f375F k ((x.1.1, (x.1.2.1, x.1.2.2)), x.2.1)) fun y2 =>
  f343p0 k
    (fun (w3 : Int × ByteArray × ByteArray × Int × Int × Int × Int × Bool × Unit) =>
      f343l3 k
        (fun (w9 : Int × ByteArray × Int × Int × Int × Bool × List Int × Unit) =>
          f343p4 k
            (fun (w10 : Int × ByteArray × ByteArray × Int × Int × Int × Bool × List Int × Unit) =>
              f343l6 k
                (fun (w14 : List Int × Unit) =>
                  some (strOfNums w14.1))
                (w10.1, w10.2.1, w10.2.2.1, w10.2.2.2.1, w10.2.2.2.1, w10.2.2.2.2.1, w10.2.2.2.2.2.1, w10.2.2.2.2.2.2.1, w10.2.2.2.2.2.2.2.1, ()))
            (w9.1, w9.2.1, ByteArray.empty, w9.2.2.1, w9.2.2.2.1, w9.2.2.2.2.1, w9.2.2.2.2.2.1, w9.2.2.2.2.2.2.1, ()))
        (w3.1, w3.2.1, w3.2.2.1, w3.2.2.2.1, true, (0 : Int), (0 : Int), w3.2.2.2.2.1, w3.2.2.2.2.2.1, w3.2.2.2.2.2.2.1, w3.2.2.2.2.2.2.2.1, [], ()))
    (x.2.1, x.2.2, y2, (32 : Int), y1.1.1, y1.1.2.1, y1.1.2.2.1, y1.1.2.2.2, ())
noncomputable def f343L (k : Nat) : Sums := [(62, f343p0S k), (16730414, f343p1S k), (130706, f343p2S k), (2042, f343l3S k), (2046, f343p4S k), (1048210, f343p5S k), (16378, f343l6S k)]
theorem f343LS (k : Nat) : SumsOk P Go.Proofs.Tryd.f43.ntmps (f343L k) (codeOf Go.Proofs.Tryd.f43) 1 := (((((((SumsOk.nil).cons (c := f343l6C) (by kernel_rfl) (f343l6O k)).cons (c := f343p5C) (by kernel_rfl) (f343p5O k)).cons (c := f343p4C) (by kernel_rfl) (f343p4O k)).cons (c := f343l3C) (by kernel_rfl) (f343l3O k)).cons (c := f343p2C) (by kernel_rfl) (f343p2O k)).cons (c := f343p1C) (by kernel_rfl) (f343p1O k)).cons (c := f343p0C) (by kernel_rfl) (f343p0O k)
theorem f343E (k : Nat) (x : (Int × (Int × Int)) × Int × ByteArray) : evFS tab (f343T k) (f343L k) Go.Proofs.Tryd.f43.ntmps Go.Proofs.Tryd.f43.results.toList (codeOf Go.Proofs.Tryd.f43) (argsV [.agg (.pair (.int .i64) (.pair (.int .i64) (.int .i64))), .dat (.int .i64), .dat .str] x) [.dat .str] = f343F k x := by kernel_rfl
theorem f343Ok (k : Nat) (x : (Int × (Int × Int)) × Int × ByteArray) (y : ByteArray) (h : f343F k x = some y) : FnOk P 43 [.agg (.pair (.int .i64) (.pair (.int .i64) (.int .i64))), .dat (.int .i64), .dat .str] [.dat .str] x y :=
  evFS_sound tabOk (f343TS k) mixed Go.Proofs.Tryd.func43 (c := codeOf Go.Proofs.Tryd.f43) (by kernel_rfl) (f343LS k) ((f343E k x).trans h)
/-! ## midrange/midrangeref02.EditedBy -/
noncomputable def f319T (k : Nat) : Table := [(28, entFn [.agg (.pair (.int .i64) (.pair (.int .i64) (.int .i64))), .agg (.pair (.int .i64) .str)] [.dat (.int .i64)] (f30F k)), (42, entFn [.agg (.pair (.int .i64) (.pair (.int .i64) (.int .i64))), .dat .str] [.dat (.int .i64)] (f342F k)), (43, entFn [.agg (.pair (.int .i64) (.pair (.int .i64) (.int .i64))), .dat (.int .i64), .dat .str] [.dat .str] (f343F k))]
theorem f319TS (k : Nat) : Sound P (f319T k) := (((Sound.nil).cons f343B (f343Ok k)).cons f342B (f342Ok k)).cons f30B (f30Ok k)
theorem f319B : HasBody P 19 := ⟨Go.Proofs.Tryd.f19, Go.Proofs.Tryd.func19, by kernel_rfl, by kernel_rfl⟩
noncomputable def f319F (k : Nat) (x : (Int × (Int × Int)) × (Int × ByteArray) × ByteArray) : Option (ByteArray × Int) :=
  Option.bind (f342F k ((x.1.1, (x.1.2.1, x.1.2.2)), x.2.2)) fun y1 =>
  bif (y1 != (0 : Int)) then
    some (ByteArray.empty, y1)
  else
  Option.bind (f30F k ((x.1.1, (x.1.2.1, x.1.2.2)), (x.2.1.1, x.2.1.2))) fun y2 =>
  bif (y2 != (0 : Int)) then
    some (ByteArray.empty, y2)
  else
  Option.bind (f343F k ((x.1.1, (x.1.2.1, x.1.2.2)), x.2.1.1, x.2.2)) fun y3 =>
  some (y3, (0 : Int))
noncomputable def f319L (k : Nat) : Sums := []
theorem f319LS (k : Nat) : SumsOk P Go.Proofs.Tryd.f19.ntmps (f319L k) (codeOf Go.Proofs.Tryd.f19) 1 := SumsOk.nil
theorem f319E (k : Nat) (x : (Int × (Int × Int)) × (Int × ByteArray) × ByteArray) : evFS tab (f319T k) (f319L k) Go.Proofs.Tryd.f19.ntmps Go.Proofs.Tryd.f19.results.toList (codeOf Go.Proofs.Tryd.f19) (argsV [.agg (.pair (.int .i64) (.pair (.int .i64) (.int .i64))), .agg (.pair (.int .i64) .str), .dat .str] x) [.dat .str, .dat (.int .i64)] = f319F k x := by kernel_rfl
theorem f319Ok (k : Nat) (x : (Int × (Int × Int)) × (Int × ByteArray) × ByteArray) (y : ByteArray × Int) (h : f319F k x = some y) : FnOk P 19 [.agg (.pair (.int .i64) (.pair (.int .i64) (.int .i64))), .agg (.pair (.int .i64) .str), .dat .str] [.dat .str, .dat (.int .i64)] x y :=
  evFS_sound tabOk (f319TS k) mixed Go.Proofs.Tryd.func19 (c := codeOf Go.Proofs.Tryd.f19) (by kernel_rfl) (f319LS k) ((f319E k x).trans h)
/-! ## midrange/midrangelaw02.EditWords -/
noncomputable def f305T (k : Nat) : Table := [(13, entFn [] [.dat .bool] (f313F k)), (18, entFn [.agg (.pair (.int .i64) (.pair (.int .i64) (.int .i64))), .agg (.pair (.int .i64) .str), .dat .str] [.dat .str, .dat (.int .i64)] (f318F k)), (19, entFn [.agg (.pair (.int .i64) (.pair (.int .i64) (.int .i64))), .agg (.pair (.int .i64) .str), .dat .str] [.dat .str, .dat (.int .i64)] (f319F k))]
theorem f305TS (k : Nat) : Sound P (f305T k) := (((Sound.nil).cons f319B (f319Ok k)).cons f318B (f318Ok k)).cons f313B (f313Ok k)
theorem f305B : HasBody P 5 := ⟨Go.Proofs.Tryd.f5, Go.Proofs.Tryd.func5, by kernel_rfl, by kernel_rfl⟩
noncomputable def f305F (k : Nat) (x : (Int × (Int × Int)) × (Int × ByteArray) × ByteArray) : Option (Bool) :=
  Option.bind (f313F k ()) fun y1 =>
  bif (!y1) then
    some false
  else
  bif (decide ((x.2.2.size : Int) > (100 : Int))) then
    some true
  else
  bif (decide ((x.2.1.2.size : Int) > (300 : Int))) then
    some true
  else
  Option.bind (f318F k ((x.1.1, (x.1.2.1, x.1.2.2)), (x.2.1.1, x.2.1.2), x.2.2)) fun y2 =>
  Option.bind (f319F k ((x.1.1, (x.1.2.1, x.1.2.2)), (x.2.1.1, x.2.1.2), x.2.2)) fun y3 =>
  bif (y2.2 == y3.2) then
    some (strEq y2.1 y3.1)
  else
  some false
noncomputable def f305L (k : Nat) : Sums := []
theorem f305LS (k : Nat) : SumsOk P Go.Proofs.Tryd.f5.ntmps (f305L k) (codeOf Go.Proofs.Tryd.f5) 1 := SumsOk.nil
theorem f305E (k : Nat) (x : (Int × (Int × Int)) × (Int × ByteArray) × ByteArray) : evFS tab (f305T k) (f305L k) Go.Proofs.Tryd.f5.ntmps Go.Proofs.Tryd.f5.results.toList (codeOf Go.Proofs.Tryd.f5) (argsV [.agg (.pair (.int .i64) (.pair (.int .i64) (.int .i64))), .agg (.pair (.int .i64) .str), .dat .str] x) [.dat .bool] = f305F k x := by kernel_rfl
theorem f305Ok (k : Nat) (x : (Int × (Int × Int)) × (Int × ByteArray) × ByteArray) (y : Bool) (h : f305F k x = some y) : FnOk P 5 [.agg (.pair (.int .i64) (.pair (.int .i64) (.int .i64))), .agg (.pair (.int .i64) .str), .dat .str] [.dat .bool] x y :=
  evFS_sound tabOk (f305TS k) mixed Go.Proofs.Tryd.func5 (c := codeOf Go.Proofs.Tryd.f5) (by kernel_rfl) (f305LS k) ((f305E k x).trans h)
/-! ## midrange/edit.WidthOf -/
noncomputable def f320T (k : Nat) : Table := [(35, entFn [.agg (.pair (.int .i64) (.pair (.int .i64) (.int .i64))), .agg (.pair (.int .u8) (.int .i64))] [.dat (.int .i64)] (f335F k)), (36, entFn [.agg (.pair (.int .i64) (.pair (.int .i64) (.int .i64))), .agg (.pair (.int .i64) .str), .agg (.pair (.int .u8) (.int .i64))] [.dat .str] (f336F k))]
theorem f320TS (k : Nat) : Sound P (f320T k) := ((Sound.nil).cons f336B (f336Ok k)).cons f335B (f335Ok k)
theorem f320B : HasBody P 20 := ⟨Go.Proofs.Tryd.f20, Go.Proofs.Tryd.func20, by kernel_rfl, by kernel_rfl⟩
noncomputable def f320F (k : Nat) (x : (Int × (Int × Int)) × (Int × Int)) : Option (Int × Int) :=
  Option.bind (f335F k ((x.1.1, (x.1.2.1, x.1.2.2)), (x.2.1, x.2.2))) fun y1 =>
  bif (y1 != (0 : Int)) then
    some ((0 : Int), y1)
  else
  Option.bind (f336F k ((x.1.1, (x.1.2.1, x.1.2.2)), ((0 : Int), ByteArray.empty), (x.2.1, x.2.2))) fun y2 =>
  some ((y2.size : Int), (0 : Int))
noncomputable def f320L (k : Nat) : Sums := []
theorem f320LS (k : Nat) : SumsOk P Go.Proofs.Tryd.f20.ntmps (f320L k) (codeOf Go.Proofs.Tryd.f20) 1 := SumsOk.nil
theorem f320E (k : Nat) (x : (Int × (Int × Int)) × (Int × Int)) : evFS tab (f320T k) (f320L k) Go.Proofs.Tryd.f20.ntmps Go.Proofs.Tryd.f20.results.toList (codeOf Go.Proofs.Tryd.f20) (argsV [.agg (.pair (.int .i64) (.pair (.int .i64) (.int .i64))), .agg (.pair (.int .u8) (.int .i64))] x) [.dat (.int .i64), .dat (.int .i64)] = f320F k x := by kernel_rfl
theorem f320Ok (k : Nat) (x : (Int × (Int × Int)) × (Int × Int)) (y : Int × Int) (h : f320F k x = some y) : FnOk P 20 [.agg (.pair (.int .i64) (.pair (.int .i64) (.int .i64))), .agg (.pair (.int .u8) (.int .i64))] [.dat (.int .i64), .dat (.int .i64)] x y :=
  evFS_sound tabOk (f320TS k) mixed Go.Proofs.Tryd.func20 (c := codeOf Go.Proofs.Tryd.f20) (by kernel_rfl) (f320LS k) ((f320E k x).trans h)
/-! ## midrange/midrangeref02.Width -/
noncomputable def f322T (k : Nat) : Table := [(37, entFn [.agg (.pair (.int .i64) (.pair (.int .i64) (.int .i64))), .dat (.int .i64), .agg (.pair (.int .u8) (.int .i64))] [.dat .str] (f337F k))]
theorem f322TS (k : Nat) : Sound P (f322T k) := (Sound.nil).cons f337B (f337Ok k)
theorem f322B : HasBody P 22 := ⟨Go.Proofs.Tryd.f22, Go.Proofs.Tryd.func22, by kernel_rfl, by kernel_rfl⟩
noncomputable def f322F (k : Nat) (x : (Int × (Int × Int)) × (Int × Int)) : Option (Int) :=
  Option.bind (f337F k ((x.1.1, (x.1.2.1, x.1.2.2)), (0 : Int), (x.2.1, x.2.2))) fun y1 =>
  some (y1.size : Int)
noncomputable def f322L (k : Nat) : Sums := []
theorem f322LS (k : Nat) : SumsOk P Go.Proofs.Tryd.f22.ntmps (f322L k) (codeOf Go.Proofs.Tryd.f22) 1 := SumsOk.nil
theorem f322E (k : Nat) (x : (Int × (Int × Int)) × (Int × Int)) : evFS tab (f322T k) (f322L k) Go.Proofs.Tryd.f22.ntmps Go.Proofs.Tryd.f22.results.toList (codeOf Go.Proofs.Tryd.f22) (argsV [.agg (.pair (.int .i64) (.pair (.int .i64) (.int .i64))), .agg (.pair (.int .u8) (.int .i64))] x) [.dat (.int .i64)] = f322F k x := by kernel_rfl
theorem f322Ok (k : Nat) (x : (Int × (Int × Int)) × (Int × Int)) (y : Int) (h : f322F k x = some y) : FnOk P 22 [.agg (.pair (.int .i64) (.pair (.int .i64) (.int .i64))), .agg (.pair (.int .u8) (.int .i64))] [.dat (.int .i64)] x y :=
  evFS_sound tabOk (f322TS k) mixed Go.Proofs.Tryd.func22 (c := codeOf Go.Proofs.Tryd.f22) (by kernel_rfl) (f322LS k) ((f322E k x).trans h)
/-! ## midrange/midrangelaw02.EditWidths -/
noncomputable def f306T (k : Nat) : Table := [(13, entFn [] [.dat .bool] (f313F k)), (20, entFn [.agg (.pair (.int .i64) (.pair (.int .i64) (.int .i64))), .agg (.pair (.int .u8) (.int .i64))] [.dat (.int .i64), .dat (.int .i64)] (f320F k)), (21, entFn [.agg (.pair (.int .i64) (.pair (.int .i64) (.int .i64))), .agg (.pair (.int .u8) (.int .i64))] [.dat (.int .i64)] (f321F k)), (22, entFn [.agg (.pair (.int .i64) (.pair (.int .i64) (.int .i64))), .agg (.pair (.int .u8) (.int .i64))] [.dat (.int .i64)] (f322F k))]
theorem f306TS (k : Nat) : Sound P (f306T k) := ((((Sound.nil).cons f322B (f322Ok k)).cons f321B (f321Ok k)).cons f320B (f320Ok k)).cons f313B (f313Ok k)
theorem f306B : HasBody P 6 := ⟨Go.Proofs.Tryd.f6, Go.Proofs.Tryd.func6, by kernel_rfl, by kernel_rfl⟩
noncomputable def f306F (k : Nat) (x : (Int × (Int × Int)) × (Int × Int)) : Option (Bool) :=
  Option.bind (f313F k ()) fun y1 =>
  bif (!y1) then
    some false
  else
  Option.bind (f320F k ((x.1.1, (x.1.2.1, x.1.2.2)), (x.2.1, x.2.2))) fun y2 =>
  Option.bind (f321F k ((x.1.1, (x.1.2.1, x.1.2.2)), (x.2.1, x.2.2))) fun y3 =>
  bif (y3 != (0 : Int)) then
    bif (y2.2 == y3) then
      some (y2.1 == (0 : Int))
    else
    some false
  else
  bif (y2.2 == (0 : Int)) then
    Option.bind (f322F k ((x.1.1, (x.1.2.1, x.1.2.2)), (x.2.1, x.2.2))) fun y4 =>
    some (y2.1 == y4)
  else
  some false
noncomputable def f306L (k : Nat) : Sums := []
theorem f306LS (k : Nat) : SumsOk P Go.Proofs.Tryd.f6.ntmps (f306L k) (codeOf Go.Proofs.Tryd.f6) 1 := SumsOk.nil
theorem f306E (k : Nat) (x : (Int × (Int × Int)) × (Int × Int)) : evFS tab (f306T k) (f306L k) Go.Proofs.Tryd.f6.ntmps Go.Proofs.Tryd.f6.results.toList (codeOf Go.Proofs.Tryd.f6) (argsV [.agg (.pair (.int .i64) (.pair (.int .i64) (.int .i64))), .agg (.pair (.int .u8) (.int .i64))] x) [.dat .bool] = f306F k x := by kernel_rfl
theorem f306Ok (k : Nat) (x : (Int × (Int × Int)) × (Int × Int)) (y : Bool) (h : f306F k x = some y) : FnOk P 6 [.agg (.pair (.int .i64) (.pair (.int .i64) (.int .i64))), .agg (.pair (.int .u8) (.int .i64))] [.dat .bool] x y :=
  evFS_sound tabOk (f306TS k) mixed Go.Proofs.Tryd.func6 (c := codeOf Go.Proofs.Tryd.f6) (by kernel_rfl) (f306LS k) ((f306E k x).trans h)
/-! ## midrange/midrangebase.IsDigit -/
noncomputable def f323T (k : Nat) : Table := []
theorem f323TS (k : Nat) : Sound P (f323T k) := Sound.nil
theorem f323B : HasBody P 23 := ⟨Go.Proofs.Tryd.f23, Go.Proofs.Tryd.func23, by kernel_rfl, by kernel_rfl⟩
noncomputable def f323F (k : Nat) (x : Int) : Option (Bool) :=
  bif (decide ((48 : Int) ≤ x)) then
    some (decide (x ≤ (57 : Int)))
  else
  some false
noncomputable def f323L (k : Nat) : Sums := []
theorem f323LS (k : Nat) : SumsOk P Go.Proofs.Tryd.f23.ntmps (f323L k) (codeOf Go.Proofs.Tryd.f23) 1 := SumsOk.nil
theorem f323E (k : Nat) (x : Int) : evFS tab (f323T k) (f323L k) Go.Proofs.Tryd.f23.ntmps Go.Proofs.Tryd.f23.results.toList (codeOf Go.Proofs.Tryd.f23) (argsV [.dat (.int .u8)] x) [.dat .bool] = f323F k x := by kernel_rfl
theorem f323Ok (k : Nat) (x : Int) (y : Bool) (h : f323F k x = some y) : FnOk P 23 [.dat (.int .u8)] [.dat .bool] x y :=
  evFS_sound tabOk (f323TS k) mixed Go.Proofs.Tryd.func23 (c := codeOf Go.Proofs.Tryd.f23) (by kernel_rfl) (f323LS k) ((f323E k x).trans h)
/-! ## midrange/midrangelaw02.EditAlike -/
noncomputable def f307T (k : Nat) : Table := [(13, entFn [] [.dat .bool] (f313F k)), (14, entFn [.agg (.pair (.int .i64) (.pair (.int .i64) (.int .i64))), .agg (.pair (.int .i64) .str), .agg (.pair (.int .u8) (.int .i64))] [.dat .str, .dat (.int .i64)] (f314F k)), (20, entFn [.agg (.pair (.int .i64) (.pair (.int .i64) (.int .i64))), .agg (.pair (.int .u8) (.int .i64))] [.dat (.int .i64), .dat (.int .i64)] (f320F k)), (23, entFn [.dat (.int .u8)] [.dat .bool] (f323F k)), (24, entFn [.dat (.int .i64)] [.dat (.int .i64)] (f79F k)), (25, entFn [.agg (.pair (.int .i64) (.pair (.int .i64) (.int .i64))), .agg (.pair (.int .i64) .str)] [.dat (.int .i64)] (f29F k))]
theorem f307TS (k : Nat) : Sound P (f307T k) := ((((((Sound.nil).cons f29B (f29Ok k)).cons f79B (f79Ok k)).cons f323B (f323Ok k)).cons f320B (f320Ok k)).cons f314B (f314Ok k)).cons f313B (f313Ok k)
theorem f307B : HasBody P 7 := ⟨Go.Proofs.Tryd.f7, Go.Proofs.Tryd.func7, by kernel_rfl, by kernel_rfl⟩
noncomputable def f307p0H : Shape := ⟨[(3, .one (.ptr 0 0)), (4, .one (.ptr 1 0)), (7, .one (.str)), (11, .one (.int .i64)), (12, .one (.int .i64))], [(0, .var 23 [.int .i64, .int .i64, .int .i64]), (1, .var 25 [.int .i64, .str])], 2, []⟩
noncomputable def f307p0X0 : Shape := ⟨[(3, .one (.ptr 0 0)), (4, .one (.ptr 1 0)), (7, .one (.str)), (11, .one (.int .i64)), (12, .one (.int .i64))], [(0, .var 23 [.int .i64, .int .i64, .int .i64]), (1, .var 25 [.int .i64, .str])], 2, []⟩
noncomputable def f307p0N : NoteR := ⟨[3, 4, 7, 11, 12], [], []⟩
noncomputable def f307p0M : NoteR := ⟨[3, 4, 6, 7, 11, 12], [], []⟩
noncomputable def f307p0C : Code := firstC (codesAt 32722 (codeOf Go.Proofs.Tryd.f7) 1)
noncomputable def f307p0 {R : Type} (k : Nat) (k0 : ByteArray × Int × Int × Int × Int × Int × Int × ByteArray × Unit → Option R) (v : ByteArray × Int × Int × Int × Int × Int × Int × ByteArray × Unit) : Option R :=
  bif ((decide ((0 : Int) ≤ v.2.2.1)) && (decide (v.2.2.1 < (v.1.size : Int)))) then
  Option.bind (f323F k (bt v.1 v.2.2.1)) fun y4 =>
  bif y4 then
    bif ((decide ((0 : Int) ≤ v.2.2.1)) && (decide (v.2.2.1 < (v.1.size : Int)))) then
    let t5 := (IntKind.i64.wrap ((IntKind.i64.wrap ((10 : Int) * v.2.1)) + (IntKind.i64.wrap (IntKind.u8.wrap ((bt v.1 v.2.2.1) - (48 : Int))))))
    k0 (v.1, t5, v.2.2.1, v.2.2.2.1, v.2.2.2.2.1, v.2.2.2.2.2.1, v.2.2.2.2.2.2.1, v.2.2.2.2.2.2.2.1, ())
    else none
  else
  k0 (v.1, v.2.1, v.2.2.1, v.2.2.2.1, v.2.2.2.2.1, v.2.2.2.2.2.1, v.2.2.2.2.2.2.1, v.2.2.2.2.2.2.2.1, ())
  else none
noncomputable def f307p0S (k : Nat) : Sum1 := partSum f307p0H f307p0N (fun R K v => f307p0 k (fun w => K .normal (encSt f307p0X0 w)) v)
theorem f307p0E (k : Nat) (R : Type) (K : X → St → Option R) (v : f307p0H.Den) : evS tab (f307T k) Go.Proofs.Tryd.f7.ntmps [] f307p0C 32722 (partK f307p0M K) (encSt f307p0H v) = f307p0 k (fun w => K .normal (encSt f307p0X0 w)) v := by kernel_rfl
theorem f307p0I (k : Nat) : SumsOk P Go.Proofs.Tryd.f7.ntmps [] f307p0C 32722 := SumsOk.nil
theorem f307p0O (k : Nat) : SumOk P Go.Proofs.Tryd.f7.ntmps f307p0C (f307p0S k) := sum_part tabOk (f307TS k) mixed (f307p0I k) (f307p0E k)
noncomputable def f307l1H : Shape := ⟨[(3, .one (.ptr 0 0)), (4, .one (.ptr 1 0)), (7, .one (.str)), (11, .one (.int .i64)), (12, .one (.int .i64))], [(0, .var 23 [.int .i64, .int .i64, .int .i64]), (1, .var 25 [.int .i64, .str])], 2, []⟩
noncomputable def f307l1X0 : Shape := ⟨[(3, .one (.ptr 0 0)), (4, .one (.ptr 1 0)), (11, .one (.int .i64))], [(0, .var 23 [.int .i64, .int .i64, .int .i64]), (1, .var 25 [.int .i64, .str])], 2, []⟩
noncomputable def f307l1N : NoteR := ⟨[3, 4, 7, 11, 12], [], []⟩
noncomputable def f307l1M : NoteR := ⟨[3, 4, 6, 11], [], []⟩
noncomputable def f307l1C : Code := firstC (codesAt 4090 (codeOf Go.Proofs.Tryd.f7) 1)
noncomputable def f307l1s {R : Type} (k : Nat) (rec : ByteArray × Int × Int × Int × Int × Int × Int × ByteArray × Unit → Option R) (k0 : Int × Int × Int × Int × Int × ByteArray × Unit → Option R) (v : ByteArray × Int × Int × Int × Int × Int × Int × ByteArray × Unit) : Option R :=
  bif (decide (v.2.2.1 < (v.1.size : Int))) then
    f307p0 k
      (fun (w6 : ByteArray × Int × Int × Int × Int × Int × Int × ByteArray × Unit) =>
        rec (w6.1, w6.2.1, (IntKind.i64.wrap (w6.2.2.1 + (1 : Int))), w6.2.2.2.1, w6.2.2.2.2.1, w6.2.2.2.2.2.1, w6.2.2.2.2.2.2.1, w6.2.2.2.2.2.2.2.1, ()))
      (v.1, v.2.1, v.2.2.1, v.2.2.2.1, v.2.2.2.2.1, v.2.2.2.2.2.1, v.2.2.2.2.2.2.1, v.2.2.2.2.2.2.2.1, ())
  else
  k0 (v.2.1, v.2.2.2.1, v.2.2.2.2.1, v.2.2.2.2.2.1, v.2.2.2.2.2.2.1, v.2.2.2.2.2.2.2.1, ())
noncomputable def f307l1 {R : Type} (k : Nat) (k0 : Int × Int × Int × Int × Int × ByteArray × Unit → Option R) (v : ByteArray × Int × Int × Int × Int × Int × Int × ByteArray × Unit) : Option R := iterS (fun rec v => f307l1s k rec k0 v) k v
noncomputable def f307l1S (k : Nat) : Sum1 := loopSum f307l1H f307l1N k (fun R rec K v => f307l1s k rec (fun w => K (.exit 0) (encSt f307l1X0 w)) v)
theorem f307l1E (k : Nat) (R : Type) (rec : St → Option R) (K : X → St → Option R) (v : f307l1H.Den) : evS tab (f307T k) Go.Proofs.Tryd.f7.ntmps [(32722, f307p0S k)] (bodyOf f307l1C) 8180 (bodyK f307l1N f307l1M rec K) (encSt f307l1H v) = f307l1s k (fun v => rec (encSt f307l1H v)) (fun w => K (.exit 0) (encSt f307l1X0 w)) v := by kernel_rfl
theorem f307l1I (k : Nat) : SumsOk P Go.Proofs.Tryd.f7.ntmps [(32722, f307p0S k)] (bodyOf f307l1C) 8180 := (SumsOk.nil).cons (c := f307p0C) (by kernel_rfl) (f307p0O k)
theorem f307l1O (k : Nat) : SumOk P Go.Proofs.Tryd.f7.ntmps f307l1C (f307l1S k) := (show f307l1C = .loop (bodyOf f307l1C) by kernel_rfl) ▸ sum_loop tabOk (f307TS k) mixed (f307l1I k) (f307l1E k)
noncomputable def f307F (k : Nat) (x : (Int × (Int × Int)) × (Int × ByteArray) × (Int × Int)) : Option (Bool) :=
  Option.bind (f313F k ()) fun y1 =>
  bif (!y1) then
    some false
  else
  bif (decide ((x.2.1.2.size : Int) > (300 : Int))) then
    some true
  else
  Option.bind (f314F k ((x.1.1, (x.1.2.1, x.1.2.2)), (x.2.1.1, x.2.1.2), (x.2.2.1, x.2.2.2))) fun y2 =>
  Option.bind (f320F k ((x.1.1, (x.1.2.1, x.1.2.2)), (x.2.2.1, x.2.2.2))) fun y3 =>
  bif (y2.2 != (0 : Int)) then
    some true
  else
  bif (y3.2 != (0 : Int)) then
    some false
  else
  bif (y3.1 != (y2.1.size : Int)) then
    some false
  else
  f307l1 k
    (fun (w7 : Int × Int × Int × Int × Int × ByteArray × Unit) =>
      Option.bind (f79F k w7.2.2.2.2.1) fun y8 =>
      bif (w7.1 == y8) then
        Option.bind (f29F k ((w7.2.1, (w7.2.2.1, w7.2.2.2.1)), (w7.2.2.2.2.1, w7.2.2.2.2.2.1))) fun y9 =>
        some (y9 == (0 : Int))
      else
      some false)
    (y2.1, (0 : Int), (0 : Int), x.1.1, x.1.2.1, x.1.2.2, x.2.1.1, x.2.1.2, ())
noncomputable def f307L (k : Nat) : Sums := [(32722, f307p0S k), (4090, f307l1S k)]
theorem f307LS (k : Nat) : SumsOk P Go.Proofs.Tryd.f7.ntmps (f307L k) (codeOf Go.Proofs.Tryd.f7) 1 := ((SumsOk.nil).cons (c := f307l1C) (by kernel_rfl) (f307l1O k)).cons (c := f307p0C) (by kernel_rfl) (f307p0O k)
theorem f307E (k : Nat) (x : (Int × (Int × Int)) × (Int × ByteArray) × (Int × Int)) : evFS tab (f307T k) (f307L k) Go.Proofs.Tryd.f7.ntmps Go.Proofs.Tryd.f7.results.toList (codeOf Go.Proofs.Tryd.f7) (argsV [.agg (.pair (.int .i64) (.pair (.int .i64) (.int .i64))), .agg (.pair (.int .i64) .str), .agg (.pair (.int .u8) (.int .i64))] x) [.dat .bool] = f307F k x := by kernel_rfl
theorem f307Ok (k : Nat) (x : (Int × (Int × Int)) × (Int × ByteArray) × (Int × Int)) (y : Bool) (h : f307F k x = some y) : FnOk P 7 [.agg (.pair (.int .i64) (.pair (.int .i64) (.int .i64))), .agg (.pair (.int .i64) .str), .agg (.pair (.int .u8) (.int .i64))] [.dat .bool] x y :=
  evFS_sound tabOk (f307TS k) mixed Go.Proofs.Tryd.func7 (c := codeOf Go.Proofs.Tryd.f7) (by kernel_rfl) (f307LS k) ((f307E k x).trans h)
/-! ## midrange/edit.WordOf -/
noncomputable def f326T (k : Nat) : Table := [(35, entFn [.agg (.pair (.int .i64) (.pair (.int .i64) (.int .i64))), .agg (.pair (.int .u8) (.int .i64))] [.dat (.int .i64)] (f335F k)), (52, entFn [.dat (.int .u8)] [.agg (.pair (.int .i64) (.pair .bool .bool))] (f352F k)), (53, entFn [.dat (.int .u8)] [.dat .bool] (f353F k)), (54, entFn [.dat (.int .i64)] [.dat .str] (f354F k)), (55, entFn [.dat .str, .dat .bool] [.dat .str] (f355F k))]
theorem f326TS (k : Nat) : Sound P (f326T k) := (((((Sound.nil).cons f355B (f355Ok k)).cons f354B (f354Ok k)).cons f353B (f353Ok k)).cons f352B (f352Ok k)).cons f335B (f335Ok k)
theorem f326B : HasBody P 26 := ⟨Go.Proofs.Tryd.f26, Go.Proofs.Tryd.func26, by kernel_rfl, by kernel_rfl⟩
noncomputable def f326p0H : Shape := ⟨[(2, .one (.ptr 0 0)), (3, .one (.ptr 1 0)), (7, .one (.ptr 2 0))], [(0, .var 23 [.int .i64, .int .i64, .int .i64]), (1, .var 27 [.int .u8, .int .i64]), (2, .var 81 [.int .i64, .bool, .bool])], 3, []⟩
noncomputable def f326p0X0 : Shape := ⟨[(2, .one (.ptr 0 0)), (3, .one (.ptr 1 0)), (4, .one (.str)), (5, .one (.int .i64)), (7, .one (.ptr 2 0))], [(0, .var 23 [.int .i64, .int .i64, .int .i64]), (1, .var 27 [.int .u8, .int .i64]), (2, .var 81 [.int .i64, .bool, .bool])], 3, []⟩
noncomputable def f326p0X1 : Shape := ⟨[(2, .one (.ptr 0 0)), (3, .one (.ptr 1 0)), (7, .one (.ptr 2 0))], [(0, .var 23 [.int .i64, .int .i64, .int .i64]), (1, .var 27 [.int .u8, .int .i64]), (2, .var 81 [.int .i64, .bool, .bool])], 3, []⟩
noncomputable def f326p0N : NoteR := ⟨[2, 3, 7], [], []⟩
noncomputable def f326p0M : NoteR := ⟨[2, 3, 4, 5, 7], [], []⟩
noncomputable def f326p0C : Code := firstC (codesAt 62 (codeOf Go.Proofs.Tryd.f26) 1)
noncomputable def f326p0 {R : Type} (k : Nat) (k0 : ByteArray × Int × Int × Int × Int × Int × Int × Int × Bool × Bool × Unit → Option R) (k1 : Int × Int × Int × Int × Int × Int × Bool × Bool × Unit → Option R) (v : Int × Int × Int × Int × Int × Int × Bool × Bool × Unit) : Option R :=
  bif v.2.2.2.2.2.2.2.1 then
    bif (decide (v.2.2.1 > (0 : Int))) then
      k0 (ByteArray.empty, (39 : Int), v.1, v.2.1, v.2.2.1, v.2.2.2.1, v.2.2.2.2.1, v.2.2.2.2.2.1, v.2.2.2.2.2.2.1, v.2.2.2.2.2.2.2.1, ())
    else
    bif (v.2.2.2.2.1 == (1 : Int)) then
      k0 (ByteArray.empty, (39 : Int), v.1, v.2.1, v.2.2.1, v.2.2.2.1, v.2.2.2.2.1, v.2.2.2.2.2.1, v.2.2.2.2.2.2.1, v.2.2.2.2.2.2.2.1, ())
    else
    bif (!v.2.2.2.2.2.2.2.1) then
      bif (v.2.2.1 == v.2.1) then
        k0 (ByteArray.empty, (39 : Int), v.1, v.2.1, v.2.2.1, v.2.2.2.1, v.2.2.2.2.1, v.2.2.2.2.2.1, v.2.2.2.2.2.2.1, v.2.2.2.2.2.2.2.1, ())
      else
      bif (v.2.1 == (1 : Int)) then
        k0 (ByteArray.empty, (39 : Int), v.1, v.2.1, v.2.2.1, v.2.2.2.1, v.2.2.2.2.1, v.2.2.2.2.2.1, v.2.2.2.2.2.2.1, v.2.2.2.2.2.2.2.1, ())
      else
      k1 (v.1, v.2.1, v.2.2.1, v.2.2.2.1, v.2.2.2.2.1, v.2.2.2.2.2.1, v.2.2.2.2.2.2.1, v.2.2.2.2.2.2.2.1, ())
    else
    k1 (v.1, v.2.1, v.2.2.1, v.2.2.2.1, v.2.2.2.2.1, v.2.2.2.2.2.1, v.2.2.2.2.2.2.1, v.2.2.2.2.2.2.2.1, ())
  else
  bif (!v.2.2.2.2.2.2.2.1) then
    bif (v.2.2.1 == v.2.1) then
      k0 (ByteArray.empty, (39 : Int), v.1, v.2.1, v.2.2.1, v.2.2.2.1, v.2.2.2.2.1, v.2.2.2.2.2.1, v.2.2.2.2.2.2.1, v.2.2.2.2.2.2.2.1, ())
    else
    bif (v.2.1 == (1 : Int)) then
      k0 (ByteArray.empty, (39 : Int), v.1, v.2.1, v.2.2.1, v.2.2.2.1, v.2.2.2.2.1, v.2.2.2.2.2.1, v.2.2.2.2.2.2.1, v.2.2.2.2.2.2.2.1, ())
    else
    k1 (v.1, v.2.1, v.2.2.1, v.2.2.2.1, v.2.2.2.2.1, v.2.2.2.2.2.1, v.2.2.2.2.2.2.1, v.2.2.2.2.2.2.2.1, ())
  else
  k1 (v.1, v.2.1, v.2.2.1, v.2.2.2.1, v.2.2.2.2.1, v.2.2.2.2.2.1, v.2.2.2.2.2.2.1, v.2.2.2.2.2.2.2.1, ())
noncomputable def f326p0S (k : Nat) : Sum1 := partSum f326p0H f326p0N (fun R K v => f326p0 k (fun w => K .ret (encSt f326p0X0 w)) (fun w => K .normal (encSt f326p0X1 w)) v)
theorem f326p0E (k : Nat) (R : Type) (K : X → St → Option R) (v : f326p0H.Den) : evS tab (f326T k) Go.Proofs.Tryd.f26.ntmps [] f326p0C 62 (partK f326p0M K) (encSt f326p0H v) = f326p0 k (fun w => K .ret (encSt f326p0X0 w)) (fun w => K .normal (encSt f326p0X1 w)) v := by kernel_rfl
theorem f326p0I (k : Nat) : SumsOk P Go.Proofs.Tryd.f26.ntmps [] f326p0C 62 := SumsOk.nil
theorem f326p0O (k : Nat) : SumOk P Go.Proofs.Tryd.f26.ntmps f326p0C (f326p0S k) := sum_part tabOk (f326TS k) mixed (f326p0I k) (f326p0E k)
noncomputable def f326p1H : Shape := ⟨[(2, .one (.ptr 0 0)), (3, .one (.ptr 1 0)), (7, .one (.ptr 2 0)), (8, .one (.own 3)), (9, .one (.int .i64))], [(0, .var 23 [.int .i64, .int .i64, .int .i64]), (1, .var 27 [.int .u8, .int .i64]), (2, .var 81 [.int .i64, .bool, .bool]), (3, .row 5 (.int .u8) .mark)], 4, []⟩
noncomputable def f326p1X0 : Shape := ⟨[(2, .one (.ptr 0 0)), (3, .one (.ptr 1 0)), (7, .one (.ptr 2 0)), (8, .one (.own 3)), (9, .one (.int .i64))], [(0, .var 23 [.int .i64, .int .i64, .int .i64]), (1, .var 27 [.int .u8, .int .i64]), (2, .var 81 [.int .i64, .bool, .bool]), (3, .row 5 (.int .u8) .mark)], 4, []⟩
noncomputable def f326p1N : NoteR := ⟨[2, 3, 7, 8, 9], [], []⟩
noncomputable def f326p1M : NoteR := ⟨[2, 3, 4, 5, 7, 8, 9], [], []⟩
noncomputable def f326p1C : Code := firstC (codesAt 4074 (codeOf Go.Proofs.Tryd.f26) 1)
noncomputable def f326p1 {R : Type} (k : Nat) (k0 : Int × Int × Int × Int × Int × Int × Int × Bool × Bool × List Int × Unit → Option R) (v : Int × Int × Int × Int × Int × Int × Int × Bool × Bool × List Int × Unit) : Option R :=
  bif (v.2.2.2.1 == (0 : Int)) then
    k0 ((IntKind.i64.wrap (v.1 - (1 : Int))), v.2.1, v.2.2.1, v.2.2.2.1, v.2.2.2.2.1, v.2.2.2.2.2.1, v.2.2.2.2.2.2.1, v.2.2.2.2.2.2.2.1, v.2.2.2.2.2.2.2.2.1, v.2.2.2.2.2.2.2.2.2.1, ())
  else
  k0 (v.1, v.2.1, v.2.2.1, v.2.2.2.1, v.2.2.2.2.1, v.2.2.2.2.2.1, v.2.2.2.2.2.2.1, v.2.2.2.2.2.2.2.1, v.2.2.2.2.2.2.2.2.1, v.2.2.2.2.2.2.2.2.2.1, ())
noncomputable def f326p1S (k : Nat) : Sum1 := partSum f326p1H f326p1N (fun R K v => f326p1 k (fun w => K .normal (encSt f326p1X0 w)) v)
theorem f326p1E (k : Nat) (R : Type) (K : X → St → Option R) (v : f326p1H.Den) : evS tab (f326T k) Go.Proofs.Tryd.f26.ntmps [] f326p1C 4074 (partK f326p1M K) (encSt f326p1H v) = f326p1 k (fun w => K .normal (encSt f326p1X0 w)) v := by kernel_rfl
theorem f326p1I (k : Nat) : SumsOk P Go.Proofs.Tryd.f26.ntmps [] f326p1C 4074 := SumsOk.nil
theorem f326p1O (k : Nat) : SumOk P Go.Proofs.Tryd.f26.ntmps f326p1C (f326p1S k) := sum_part tabOk (f326TS k) mixed (f326p1I k) (f326p1E k)
noncomputable def f326p2H : Shape := ⟨[(2, .one (.ptr 0 0)), (3, .one (.ptr 1 0)), (7, .one (.ptr 2 0)), (8, .one (.own 3))], [(0, .var 23 [.int .i64, .int .i64, .int .i64]), (1, .var 27 [.int .u8, .int .i64]), (2, .var 81 [.int .i64, .bool, .bool]), (3, .row 5 (.int .u8) .mark)], 4, []⟩
noncomputable def f326p2X0 : Shape := ⟨[(2, .one (.ptr 0 0)), (7, .one (.ptr 1 0)), (8, .one (.own 2))], [(0, .var 23 [.int .i64, .int .i64, .int .i64]), (1, .var 81 [.int .i64, .bool, .bool]), (2, .row 5 (.int .u8) .mark)], 3, []⟩
noncomputable def f326p2N : NoteR := ⟨[2, 3, 7, 8], [], []⟩
noncomputable def f326p2M : NoteR := ⟨[2, 4, 5, 7, 8], [], []⟩
noncomputable def f326p2C : Code := firstC (codesAt 254 (codeOf Go.Proofs.Tryd.f26) 1)
noncomputable def f326p2 {R : Type} (k : Nat) (k0 : Int × Int × Int × Int × Bool × Bool × List Int × Unit → Option R) (v : Int × Int × Int × Int × Int × Int × Bool × Bool × List Int × Unit) : Option R :=
  bif (!v.2.2.2.2.2.2.2.1) then
    f326p1 k
      (fun (w7 : Int × Int × Int × Int × Int × Int × Int × Bool × Bool × List Int × Unit) =>
        bif ((decide ((0 : Int) ≤ w7.2.2.2.2.2.1)) && (decide (w7.2.2.2.2.2.1 < (2 : Int)))) then
        bif ((decide ((0 : Int) ≤ w7.1)) && (decide (w7.1 < (w7.2.2.2.2.2.2.2.2.2.1.length : Int)))) then
        let t8 := (w7.2.2.2.2.2.2.2.2.2.1.set (Int.toNat w7.1) (bt (⟨#[48, 42]⟩ : ByteArray) w7.2.2.2.2.2.1))
        k0 (w7.2.1, w7.2.2.1, w7.2.2.2.1, w7.2.2.2.2.2.2.1, w7.2.2.2.2.2.2.2.1, w7.2.2.2.2.2.2.2.2.1, t8, ())
        else none
        else none)
      ((IntKind.i64.wrap ((IntKind.i64.wrap (v.2.1 - v.2.2.1)) - (1 : Int))), v.1, v.2.1, v.2.2.1, v.2.2.2.1, v.2.2.2.2.1, v.2.2.2.2.2.1, v.2.2.2.2.2.2.1, v.2.2.2.2.2.2.2.1, v.2.2.2.2.2.2.2.2.1, ())
  else
  k0 (v.1, v.2.1, v.2.2.1, v.2.2.2.2.2.1, v.2.2.2.2.2.2.1, v.2.2.2.2.2.2.2.1, v.2.2.2.2.2.2.2.2.1, ())
noncomputable def f326p2S (k : Nat) : Sum1 := partSum f326p2H f326p2N (fun R K v => f326p2 k (fun w => K .normal (encSt f326p2X0 w)) v)
theorem f326p2E (k : Nat) (R : Type) (K : X → St → Option R) (v : f326p2H.Den) : evS tab (f326T k) Go.Proofs.Tryd.f26.ntmps [(4074, f326p1S k)] f326p2C 254 (partK f326p2M K) (encSt f326p2H v) = f326p2 k (fun w => K .normal (encSt f326p2X0 w)) v := by kernel_rfl
theorem f326p2I (k : Nat) : SumsOk P Go.Proofs.Tryd.f26.ntmps [(4074, f326p1S k)] f326p2C 254 := (SumsOk.nil).cons (c := f326p1C) (by kernel_rfl) (f326p1O k)
theorem f326p2O (k : Nat) : SumOk P Go.Proofs.Tryd.f26.ntmps f326p2C (f326p2S k) := sum_part tabOk (f326TS k) mixed (f326p2I k) (f326p2E k)
noncomputable def f326p3H : Shape := ⟨[(2, .one (.ptr 0 0)), (7, .one (.ptr 1 0)), (8, .one (.own 2)), (10, .one (.int .i64)), (11, .one (.str))], [(0, .var 23 [.int .i64, .int .i64, .int .i64]), (1, .var 81 [.int .i64, .bool, .bool]), (2, .row 5 (.int .u8) .frz)], 3, []⟩
noncomputable def f326p3X0 : Shape := ⟨[(7, .one (.ptr 0 0)), (11, .one (.str))], [(0, .var 81 [.int .i64, .bool, .bool])], 1, []⟩
noncomputable def f326p3N : NoteR := ⟨[2, 7, 8, 10, 11], [], []⟩
noncomputable def f326p3M : NoteR := ⟨[4, 5, 7, 11], [], []⟩
noncomputable def f326p3C : Code := firstC (codesAt 2046 (codeOf Go.Proofs.Tryd.f26) 1)
noncomputable def f326p3 {R : Type} (k : Nat) (k0 : ByteArray × Int × Bool × Bool × Unit → Option R) (v : Int × ByteArray × Int × Int × Int × Int × Bool × Bool × List Int × Unit) : Option R :=
  bif (decide (v.2.2.2.2.1 > (0 : Int))) then
    bif (sliceBds v.1 (v.2.2.2.2.2.2.2.2.1.length : Int) (v.2.2.2.2.2.2.2.2.1.length : Int)) then
    let t12 := ((v.2.2.2.2.2.2.2.2.1.take (Int.toNat (v.2.2.2.2.2.2.2.2.1.length : Int))).drop (Int.toNat v.1))
    bif (decide ((⟨#[46]⟩ : ByteArray).size + (strOfNums t12).size ≤ 9223372036854775807)) then
    bif (decide (v.2.1.size + ((⟨#[46]⟩ : ByteArray) ++ (strOfNums t12)).size ≤ 9223372036854775807)) then
    k0 ((v.2.1 ++ ((⟨#[46]⟩ : ByteArray) ++ (strOfNums t12))), v.2.2.2.2.2.1, v.2.2.2.2.2.2.1, v.2.2.2.2.2.2.2.1, ())
    else none
    else none
    else none
  else
  k0 (v.2.1, v.2.2.2.2.2.1, v.2.2.2.2.2.2.1, v.2.2.2.2.2.2.2.1, ())
noncomputable def f326p3S (k : Nat) : Sum1 := partSum f326p3H f326p3N (fun R K v => f326p3 k (fun w => K .normal (encSt f326p3X0 w)) v)
theorem f326p3E (k : Nat) (R : Type) (K : X → St → Option R) (v : f326p3H.Den) : evS tab (f326T k) Go.Proofs.Tryd.f26.ntmps [] f326p3C 2046 (partK f326p3M K) (encSt f326p3H v) = f326p3 k (fun w => K .normal (encSt f326p3X0 w)) v := by kernel_rfl
theorem f326p3I (k : Nat) : SumsOk P Go.Proofs.Tryd.f26.ntmps [] f326p3C 2046 := SumsOk.nil
theorem f326p3O (k : Nat) : SumOk P Go.Proofs.Tryd.f26.ntmps f326p3C (f326p3S k) := sum_part tabOk (f326TS k) mixed (f326p3I k) (f326p3E k)
noncomputable def f326F (k : Nat) (x : (Int × (Int × Int)) × (Int × Int)) : Option (ByteArray × Int) :=
  Option.bind (f335F k ((x.1.1, (x.1.2.1, x.1.2.2)), (x.2.1, x.2.2))) fun y1 =>
  bif (y1 != (0 : Int)) then
    some (ByteArray.empty, y1)
  else
  Option.bind (f352F k x.2.1) fun y2 =>
  bif (x.2.2 == (2 : Int)) then
    some (ByteArray.empty, (39 : Int))
  else
  Option.bind (f353F k x.2.1) fun y3 =>
  bif y3 then
    some (ByteArray.empty, (39 : Int))
  else
  bif (y2.1 == (3 : Int)) then
    some (ByteArray.empty, (39 : Int))
  else
  f326p0 k
    (fun (w4 : ByteArray × Int × Int × Int × Int × Int × Int × Int × Bool × Bool × Unit) =>
      some (w4.1, w4.2.1))
    (fun (w5 : Int × Int × Int × Int × Int × Int × Bool × Bool × Unit) =>
      Option.bind (f354F k w5.2.1) fun y6 =>
      bif (decide (y6.size ≤ 9223372036854775807)) then
      f326p2 k
        (fun (w9 : Int × Int × Int × Int × Bool × Bool × List Int × Unit) =>
          bif (sliceBds (0 : Int) (IntKind.i64.wrap (w9.2.1 - w9.2.2.1)) (w9.2.2.2.2.2.2.1.length : Int)) then
          let t10 := ((w9.2.2.2.2.2.2.1.take (Int.toNat (IntKind.i64.wrap (w9.2.1 - w9.2.2.1)))).drop 0)
          Option.bind (f355F k ((strOfNums t10), w9.2.2.2.2.1)) fun y11 =>
          f326p3 k
            (fun (w13 : ByteArray × Int × Bool × Bool × Unit) =>
              bif ((decide ((0 : Int) ≤ w13.2.1)) && (decide (w13.2.1 < ([ByteArray.empty, (⟨#[67, 82]⟩ : ByteArray), (⟨#[45]⟩ : ByteArray)].length : Int)))) then
              let t14 := ([ByteArray.empty, (⟨#[67, 82]⟩ : ByteArray), (⟨#[45]⟩ : ByteArray)].getD (Int.toNat w13.2.1) ByteArray.empty)
              bif (decide (w13.1.size + t14.size ≤ 9223372036854775807)) then
              some ((w13.1 ++ t14), (0 : Int))
              else none
              else none)
            ((IntKind.i64.wrap (w9.2.1 - w9.2.2.1)), y11, w9.1, w9.2.1, w9.2.2.1, w9.2.2.2.1, w9.2.2.2.2.1, w9.2.2.2.2.2.1, w9.2.2.2.2.2.2.1, ())
          else none)
        (w5.1, w5.2.1, w5.2.2.1, w5.2.2.2.1, w5.2.2.2.2.1, w5.2.2.2.2.2.1, w5.2.2.2.2.2.2.1, w5.2.2.2.2.2.2.2.1, (bytesOf y6), ())
      else none)
    (x.1.1, x.1.2.1, x.1.2.2, x.2.1, x.2.2, y2.1, y2.2.1, y2.2.2, ())
noncomputable def f326L (k : Nat) : Sums := [(62, f326p0S k), (4074, f326p1S k), (254, f326p2S k), (2046, f326p3S k)]
theorem f326LS (k : Nat) : SumsOk P Go.Proofs.Tryd.f26.ntmps (f326L k) (codeOf Go.Proofs.Tryd.f26) 1 := ((((SumsOk.nil).cons (c := f326p3C) (by kernel_rfl) (f326p3O k)).cons (c := f326p2C) (by kernel_rfl) (f326p2O k)).cons (c := f326p1C) (by kernel_rfl) (f326p1O k)).cons (c := f326p0C) (by kernel_rfl) (f326p0O k)
theorem f326E (k : Nat) (x : (Int × (Int × Int)) × (Int × Int)) : evFS tab (f326T k) (f326L k) Go.Proofs.Tryd.f26.ntmps Go.Proofs.Tryd.f26.results.toList (codeOf Go.Proofs.Tryd.f26) (argsV [.agg (.pair (.int .i64) (.pair (.int .i64) (.int .i64))), .agg (.pair (.int .u8) (.int .i64))] x) [.dat .str, .dat (.int .i64)] = f326F k x := by kernel_rfl
theorem f326Ok (k : Nat) (x : (Int × (Int × Int)) × (Int × Int)) (y : ByteArray × Int) (h : f326F k x = some y) : FnOk P 26 [.agg (.pair (.int .i64) (.pair (.int .i64) (.int .i64))), .agg (.pair (.int .u8) (.int .i64))] [.dat .str, .dat (.int .i64)] x y :=
  evFS_sound tabOk (f326TS k) mixed Go.Proofs.Tryd.func26 (c := codeOf Go.Proofs.Tryd.f26) (by kernel_rfl) (f326LS k) ((f326E k x).trans h)
/-! ## midrange/midrangeref02.Word -/
noncomputable def f327T (k : Nat) : Table := [(21, entFn [.agg (.pair (.int .i64) (.pair (.int .i64) (.int .i64))), .agg (.pair (.int .u8) (.int .i64))] [.dat (.int .i64)] (f321F k)), (46, entFn [.dat (.int .u8), .dat .str] [.dat .bool] (f346F k)), (56, entFn [.dat .bool] [.dat (.int .i64)] (f69F k)), (57, entFn [.dat (.int .u8), .dat (.int .i64)] [.dat .str] (f72F k))]
theorem f327TS (k : Nat) : Sound P (f327T k) := ((((Sound.nil).cons f72B (f72Ok k)).cons f69B (f69Ok k)).cons f346B (f346Ok k)).cons f321B (f321Ok k)
theorem f327B : HasBody P 27 := ⟨Go.Proofs.Tryd.f27, Go.Proofs.Tryd.func27, by kernel_rfl, by kernel_rfl⟩
noncomputable def f327p0H : Shape := ⟨[(2, .one (.ptr 0 0)), (3, .one (.ptr 1 0)), (7, .one (.bool))], [(0, .var 23 [.int .i64, .int .i64, .int .i64]), (1, .var 27 [.int .u8, .int .i64])], 2, []⟩
noncomputable def f327p0X0 : Shape := ⟨[(2, .one (.ptr 0 0)), (3, .one (.ptr 1 0)), (4, .one (.str)), (5, .one (.int .i64)), (7, .one (.bool))], [(0, .var 23 [.int .i64, .int .i64, .int .i64]), (1, .var 27 [.int .u8, .int .i64])], 2, []⟩
noncomputable def f327p0X1 : Shape := ⟨[(2, .one (.ptr 0 0)), (3, .one (.ptr 1 0)), (7, .one (.bool))], [(0, .var 23 [.int .i64, .int .i64, .int .i64]), (1, .var 27 [.int .u8, .int .i64])], 2, []⟩
noncomputable def f327p0N : NoteR := ⟨[2, 3, 7], [], []⟩
noncomputable def f327p0M : NoteR := ⟨[2, 3, 4, 5, 7, 10], [], []⟩
noncomputable def f327p0C : Code := firstC (codesAt 30 (codeOf Go.Proofs.Tryd.f27) 1)
noncomputable def f327p0 {R : Type} (k : Nat) (k0 : ByteArray × Int × Bool × Int × Int × Int × Int × Int × Unit → Option R) (k1 : Bool × Int × Int × Int × Int × Int × Unit → Option R) (v : Bool × Int × Int × Int × Int × Int × Unit) : Option R :=
  bif (v.2.2.2.2.2.1 == (2 : Int)) then
    k0 (ByteArray.empty, (39 : Int), v.1, v.2.1, v.2.2.1, v.2.2.2.1, v.2.2.2.2.1, v.2.2.2.2.2.1, ())
  else
  Option.bind (f346F k (v.2.2.2.2.1, (⟨#[78, 79, 80, 81, 88, 89, 90]⟩ : ByteArray))) fun y3 =>
  bif y3 then
    k0 (ByteArray.empty, (39 : Int), v.1, v.2.1, v.2.2.1, v.2.2.2.1, v.2.2.2.2.1, v.2.2.2.2.2.1, ())
  else
  bif (!v.1) then
    bif (v.2.2.2.1 == v.2.2.1) then
      k0 (ByteArray.empty, (39 : Int), v.1, v.2.1, v.2.2.1, v.2.2.2.1, v.2.2.2.2.1, v.2.2.2.2.2.1, ())
    else
    bif (v.2.2.1 == (1 : Int)) then
      k0 (ByteArray.empty, (39 : Int), v.1, v.2.1, v.2.2.1, v.2.2.2.1, v.2.2.2.2.1, v.2.2.2.2.2.1, ())
    else
    bif v.1 then
      bif (decide (v.2.2.2.1 > (0 : Int))) then
        k0 (ByteArray.empty, (39 : Int), v.1, v.2.1, v.2.2.1, v.2.2.2.1, v.2.2.2.2.1, v.2.2.2.2.2.1, ())
      else
      bif (v.2.2.2.2.2.1 == (1 : Int)) then
        k0 (ByteArray.empty, (39 : Int), v.1, v.2.1, v.2.2.1, v.2.2.2.1, v.2.2.2.2.1, v.2.2.2.2.2.1, ())
      else
      k1 (v.1, v.2.1, v.2.2.1, v.2.2.2.1, v.2.2.2.2.1, v.2.2.2.2.2.1, ())
    else
    k1 (v.1, v.2.1, v.2.2.1, v.2.2.2.1, v.2.2.2.2.1, v.2.2.2.2.2.1, ())
  else
  bif v.1 then
    bif (decide (v.2.2.2.1 > (0 : Int))) then
      k0 (ByteArray.empty, (39 : Int), v.1, v.2.1, v.2.2.1, v.2.2.2.1, v.2.2.2.2.1, v.2.2.2.2.2.1, ())
    else
    bif (v.2.2.2.2.2.1 == (1 : Int)) then
      k0 (ByteArray.empty, (39 : Int), v.1, v.2.1, v.2.2.1, v.2.2.2.1, v.2.2.2.2.1, v.2.2.2.2.2.1, ())
    else
    k1 (v.1, v.2.1, v.2.2.1, v.2.2.2.1, v.2.2.2.2.1, v.2.2.2.2.2.1, ())
  else
  k1 (v.1, v.2.1, v.2.2.1, v.2.2.2.1, v.2.2.2.2.1, v.2.2.2.2.2.1, ())
noncomputable def f327p0S (k : Nat) : Sum1 := partSum f327p0H f327p0N (fun R K v => f327p0 k (fun w => K .ret (encSt f327p0X0 w)) (fun w => K .normal (encSt f327p0X1 w)) v)
theorem f327p0E (k : Nat) (R : Type) (K : X → St → Option R) (v : f327p0H.Den) : evS tab (f327T k) Go.Proofs.Tryd.f27.ntmps [] f327p0C 30 (partK f327p0M K) (encSt f327p0H v) = f327p0 k (fun w => K .ret (encSt f327p0X0 w)) (fun w => K .normal (encSt f327p0X1 w)) v := by kernel_rfl
theorem f327p0I (k : Nat) : SumsOk P Go.Proofs.Tryd.f27.ntmps [] f327p0C 30 := SumsOk.nil
theorem f327p0O (k : Nat) : SumOk P Go.Proofs.Tryd.f27.ntmps f327p0C (f327p0S k) := sum_part tabOk (f327TS k) mixed (f327p0I k) (f327p0E k)
noncomputable def f327p1H : Shape := ⟨[(2, .one (.ptr 0 0)), (3, .one (.ptr 1 0)), (7, .one (.bool)), (8, .one (.int .i64)), (9, .one (.int .i64))], [(0, .var 23 [.int .i64, .int .i64, .int .i64]), (1, .var 27 [.int .u8, .int .i64])], 2, []⟩
noncomputable def f327p1X0 : Shape := ⟨[(2, .one (.ptr 0 0)), (3, .one (.ptr 1 0)), (8, .one (.int .i64)), (9, .one (.int .i64))], [(0, .var 23 [.int .i64, .int .i64, .int .i64]), (1, .var 27 [.int .u8, .int .i64])], 2, []⟩
noncomputable def f327p1N : NoteR := ⟨[2, 3, 7, 8, 9], [], []⟩
noncomputable def f327p1M : NoteR := ⟨[2, 3, 4, 5, 8, 9, 10], [], []⟩
noncomputable def f327p1C : Code := firstC (codesAt 126 (codeOf Go.Proofs.Tryd.f27) 1)
noncomputable def f327p1 {R : Type} (k : Nat) (k0 : Int × Int × Int × Int × Int × Int × Int × Unit → Option R) (v : Bool × Int × Int × Int × Int × Int × Int × Int × Unit) : Option R :=
  bif (!v.1) then
    Option.bind (f69F k (v.2.2.2.2.2.1 == (0 : Int))) fun y6 =>
    k0 ((IntKind.i64.wrap ((IntKind.i64.wrap (v.2.2.1 - (1 : Int))) - y6)), v.2.2.1, v.2.2.2.1, v.2.2.2.2.1, v.2.2.2.2.2.1, v.2.2.2.2.2.2.1, v.2.2.2.2.2.2.2.1, ())
  else
  k0 (v.2.1, v.2.2.1, v.2.2.2.1, v.2.2.2.2.1, v.2.2.2.2.2.1, v.2.2.2.2.2.2.1, v.2.2.2.2.2.2.2.1, ())
noncomputable def f327p1S (k : Nat) : Sum1 := partSum f327p1H f327p1N (fun R K v => f327p1 k (fun w => K .normal (encSt f327p1X0 w)) v)
theorem f327p1E (k : Nat) (R : Type) (K : X → St → Option R) (v : f327p1H.Den) : evS tab (f327T k) Go.Proofs.Tryd.f27.ntmps [] f327p1C 126 (partK f327p1M K) (encSt f327p1H v) = f327p1 k (fun w => K .normal (encSt f327p1X0 w)) v := by kernel_rfl
theorem f327p1I (k : Nat) : SumsOk P Go.Proofs.Tryd.f27.ntmps [] f327p1C 126 := SumsOk.nil
theorem f327p1O (k : Nat) : SumOk P Go.Proofs.Tryd.f27.ntmps f327p1C (f327p1S k) := sum_part tabOk (f327TS k) mixed (f327p1I k) (f327p1E k)
noncomputable def f327p2H : Shape := ⟨[(2, .one (.ptr 0 0)), (3, .one (.ptr 1 0)), (8, .one (.int .i64)), (9, .one (.int .i64)), (10, .one (.str)), (11, .one (.int .i64))], [(0, .var 23 [.int .i64, .int .i64, .int .i64]), (1, .var 27 [.int .u8, .int .i64])], 2, []⟩
noncomputable def f327p2X0 : Shape := ⟨[(2, .one (.ptr 0 0)), (3, .one (.ptr 1 0)), (8, .one (.int .i64)), (9, .one (.int .i64)), (10, .one (.str)), (11, .one (.int .i64))], [(0, .var 23 [.int .i64, .int .i64, .int .i64]), (1, .var 27 [.int .u8, .int .i64])], 2, []⟩
noncomputable def f327p2N : NoteR := ⟨[2, 3, 8, 9, 10, 11], [], []⟩
noncomputable def f327p2M : NoteR := ⟨[2, 3, 4, 5, 8, 9, 10, 11], [], []⟩
noncomputable def f327p2C : Code := firstC (codesAt 65352 (codeOf Go.Proofs.Tryd.f27) 1)
noncomputable def f327p2 {R : Type} (k : Nat) (k0 : Int × Int × ByteArray × Int × Int × Int × Int × Int × Int × Unit → Option R) (v : Int × Int × ByteArray × Int × Int × Int × Int × Int × Int × Unit) : Option R :=
  Option.bind (f346F k (v.2.2.2.2.2.2.2.1, (⟨#[49, 50, 65, 66, 74, 75]⟩ : ByteArray))) fun y8 =>
  bif y8 then
    bif (decide (v.2.2.2.1 > (0 : Int))) then
      let t9 := ((Int.tmod (IntKind.i64.wrap (v.2.1 - v.2.2.2.1)) (3 : Int)) == (0 : Int))
      bif t9 then
        bif (decide (v.2.2.1.size + (⟨#[44]⟩ : ByteArray).size ≤ 9223372036854775807)) then
        k0 (v.1, v.2.1, (v.2.2.1 ++ (⟨#[44]⟩ : ByteArray)), v.2.2.2.1, v.2.2.2.2.1, v.2.2.2.2.2.1, v.2.2.2.2.2.2.1, v.2.2.2.2.2.2.2.1, v.2.2.2.2.2.2.2.2.1, ())
        else none
      else
      k0 (v.1, v.2.1, v.2.2.1, v.2.2.2.1, v.2.2.2.2.1, v.2.2.2.2.2.1, v.2.2.2.2.2.2.1, v.2.2.2.2.2.2.2.1, v.2.2.2.2.2.2.2.2.1, ())
    else
    k0 (v.1, v.2.1, v.2.2.1, v.2.2.2.1, v.2.2.2.2.1, v.2.2.2.2.2.1, v.2.2.2.2.2.2.1, v.2.2.2.2.2.2.2.1, v.2.2.2.2.2.2.2.2.1, ())
  else
  k0 (v.1, v.2.1, v.2.2.1, v.2.2.2.1, v.2.2.2.2.1, v.2.2.2.2.2.1, v.2.2.2.2.2.2.1, v.2.2.2.2.2.2.2.1, v.2.2.2.2.2.2.2.2.1, ())
noncomputable def f327p2S (k : Nat) : Sum1 := partSum f327p2H f327p2N (fun R K v => f327p2 k (fun w => K .normal (encSt f327p2X0 w)) v)
theorem f327p2E (k : Nat) (R : Type) (K : X → St → Option R) (v : f327p2H.Den) : evS tab (f327T k) Go.Proofs.Tryd.f27.ntmps [] f327p2C 65352 (partK f327p2M K) (encSt f327p2H v) = f327p2 k (fun w => K .normal (encSt f327p2X0 w)) v := by kernel_rfl
theorem f327p2I (k : Nat) : SumsOk P Go.Proofs.Tryd.f27.ntmps [] f327p2C 65352 := SumsOk.nil
theorem f327p2O (k : Nat) : SumOk P Go.Proofs.Tryd.f27.ntmps f327p2C (f327p2S k) := sum_part tabOk (f327TS k) mixed (f327p2I k) (f327p2E k)
noncomputable def f327p3H : Shape := ⟨[(2, .one (.ptr 0 0)), (3, .one (.ptr 1 0)), (8, .one (.int .i64)), (9, .one (.int .i64)), (10, .one (.str)), (11, .one (.int .i64))], [(0, .var 23 [.int .i64, .int .i64, .int .i64]), (1, .var 27 [.int .u8, .int .i64])], 2, []⟩
noncomputable def f327p3X0 : Shape := ⟨[(2, .one (.ptr 0 0)), (3, .one (.ptr 1 0)), (8, .one (.int .i64)), (9, .one (.int .i64)), (10, .one (.str)), (11, .one (.int .i64))], [(0, .var 23 [.int .i64, .int .i64, .int .i64]), (1, .var 27 [.int .u8, .int .i64])], 2, []⟩
noncomputable def f327p3N : NoteR := ⟨[2, 3, 8, 9, 10, 11], [], []⟩
noncomputable def f327p3M : NoteR := ⟨[2, 3, 4, 5, 8, 9, 10, 11], [], []⟩
noncomputable def f327p3C : Code := firstC (codesAt 16338 (codeOf Go.Proofs.Tryd.f27) 1)
noncomputable def f327p3 {R : Type} (k : Nat) (k0 : Int × Int × ByteArray × Int × Int × Int × Int × Int × Int × Unit → Option R) (v : Int × Int × ByteArray × Int × Int × Int × Int × Int × Int × Unit) : Option R :=
  f327p2 k
    (fun (w10 : Int × Int × ByteArray × Int × Int × Int × Int × Int × Int × Unit) =>
      bif (w10.2.2.2.1 == w10.1) then
        bif (w10.2.2.2.2.2.2.2.2.1 == (1 : Int)) then
          bif (decide (w10.2.2.1.size + (⟨#[42]⟩ : ByteArray).size ≤ 9223372036854775807)) then
          k0 (w10.1, w10.2.1, (w10.2.2.1 ++ (⟨#[42]⟩ : ByteArray)), w10.2.2.2.1, w10.2.2.2.2.1, w10.2.2.2.2.2.1, w10.2.2.2.2.2.2.1, w10.2.2.2.2.2.2.2.1, w10.2.2.2.2.2.2.2.2.1, ())
          else none
        else
        bif (w10.2.2.2.1 == w10.1) then
          bif (decide (w10.2.2.1.size + (⟨#[48]⟩ : ByteArray).size ≤ 9223372036854775807)) then
          k0 (w10.1, w10.2.1, (w10.2.2.1 ++ (⟨#[48]⟩ : ByteArray)), w10.2.2.2.1, w10.2.2.2.2.1, w10.2.2.2.2.2.1, w10.2.2.2.2.2.2.1, w10.2.2.2.2.2.2.2.1, w10.2.2.2.2.2.2.2.2.1, ())
          else none
        else
        bif (decide (w10.2.2.1.size + (⟨#[32]⟩ : ByteArray).size ≤ 9223372036854775807)) then
        k0 (w10.1, w10.2.1, (w10.2.2.1 ++ (⟨#[32]⟩ : ByteArray)), w10.2.2.2.1, w10.2.2.2.2.1, w10.2.2.2.2.2.1, w10.2.2.2.2.2.2.1, w10.2.2.2.2.2.2.2.1, w10.2.2.2.2.2.2.2.2.1, ())
        else none
      else
      bif (w10.2.2.2.1 == w10.1) then
        bif (decide (w10.2.2.1.size + (⟨#[48]⟩ : ByteArray).size ≤ 9223372036854775807)) then
        k0 (w10.1, w10.2.1, (w10.2.2.1 ++ (⟨#[48]⟩ : ByteArray)), w10.2.2.2.1, w10.2.2.2.2.1, w10.2.2.2.2.2.1, w10.2.2.2.2.2.2.1, w10.2.2.2.2.2.2.2.1, w10.2.2.2.2.2.2.2.2.1, ())
        else none
      else
      bif (decide (w10.2.2.1.size + (⟨#[32]⟩ : ByteArray).size ≤ 9223372036854775807)) then
      k0 (w10.1, w10.2.1, (w10.2.2.1 ++ (⟨#[32]⟩ : ByteArray)), w10.2.2.2.1, w10.2.2.2.2.1, w10.2.2.2.2.2.1, w10.2.2.2.2.2.2.1, w10.2.2.2.2.2.2.2.1, w10.2.2.2.2.2.2.2.2.1, ())
      else none)
    (v.1, v.2.1, v.2.2.1, v.2.2.2.1, v.2.2.2.2.1, v.2.2.2.2.2.1, v.2.2.2.2.2.2.1, v.2.2.2.2.2.2.2.1, v.2.2.2.2.2.2.2.2.1, ())
noncomputable def f327p3S (k : Nat) : Sum1 := partSum f327p3H f327p3N (fun R K v => f327p3 k (fun w => K .normal (encSt f327p3X0 w)) v)
theorem f327p3E (k : Nat) (R : Type) (K : X → St → Option R) (v : f327p3H.Den) : evS tab (f327T k) Go.Proofs.Tryd.f27.ntmps [(65352, f327p2S k)] f327p3C 16338 (partK f327p3M K) (encSt f327p3H v) = f327p3 k (fun w => K .normal (encSt f327p3X0 w)) v := by kernel_rfl
theorem f327p3I (k : Nat) : SumsOk P Go.Proofs.Tryd.f27.ntmps [(65352, f327p2S k)] f327p3C 16338 := (SumsOk.nil).cons (c := f327p2C) (by kernel_rfl) (f327p2O k)
theorem f327p3O (k : Nat) : SumOk P Go.Proofs.Tryd.f27.ntmps f327p3C (f327p3S k) := sum_part tabOk (f327TS k) mixed (f327p3I k) (f327p3E k)
noncomputable def f327l4H : Shape := ⟨[(2, .one (.ptr 0 0)), (3, .one (.ptr 1 0)), (8, .one (.int .i64)), (9, .one (.int .i64)), (10, .one (.str)), (11, .one (.int .i64))], [(0, .var 23 [.int .i64, .int .i64, .int .i64]), (1, .var 27 [.int .u8, .int .i64])], 2, []⟩
noncomputable def f327l4X0 : Shape := ⟨[(2, .one (.ptr 0 0)), (3, .one (.ptr 1 0)), (10, .one (.str))], [(0, .var 23 [.int .i64, .int .i64, .int .i64]), (1, .var 27 [.int .u8, .int .i64])], 2, []⟩
noncomputable def f327l4N : NoteR := ⟨[2, 3, 8, 9, 10, 11], [], []⟩
noncomputable def f327l4M : NoteR := ⟨[2, 3, 4, 5, 10], [], []⟩
noncomputable def f327l4C : Code := firstC (codesAt 2042 (codeOf Go.Proofs.Tryd.f27) 1)
noncomputable def f327l4s {R : Type} (k : Nat) (rec : Int × Int × ByteArray × Int × Int × Int × Int × Int × Int × Unit → Option R) (k0 : ByteArray × Int × Int × Int × Int × Int × Unit → Option R) (v : Int × Int × ByteArray × Int × Int × Int × Int × Int × Int × Unit) : Option R :=
  bif (decide (v.2.2.2.1 < v.2.1)) then
    f327p3 k
      (fun (w11 : Int × Int × ByteArray × Int × Int × Int × Int × Int × Int × Unit) =>
        rec (w11.1, w11.2.1, w11.2.2.1, (IntKind.i64.wrap (w11.2.2.2.1 + (1 : Int))), w11.2.2.2.2.1, w11.2.2.2.2.2.1, w11.2.2.2.2.2.2.1, w11.2.2.2.2.2.2.2.1, w11.2.2.2.2.2.2.2.2.1, ()))
      (v.1, v.2.1, v.2.2.1, v.2.2.2.1, v.2.2.2.2.1, v.2.2.2.2.2.1, v.2.2.2.2.2.2.1, v.2.2.2.2.2.2.2.1, v.2.2.2.2.2.2.2.2.1, ())
  else
  k0 (v.2.2.1, v.2.2.2.2.1, v.2.2.2.2.2.1, v.2.2.2.2.2.2.1, v.2.2.2.2.2.2.2.1, v.2.2.2.2.2.2.2.2.1, ())
noncomputable def f327l4 {R : Type} (k : Nat) (k0 : ByteArray × Int × Int × Int × Int × Int × Unit → Option R) (v : Int × Int × ByteArray × Int × Int × Int × Int × Int × Int × Unit) : Option R := iterS (fun rec v => f327l4s k rec k0 v) k v
noncomputable def f327l4S (k : Nat) : Sum1 := loopSum f327l4H f327l4N k (fun R rec K v => f327l4s k rec (fun w => K (.exit 0) (encSt f327l4X0 w)) v)
theorem f327l4E (k : Nat) (R : Type) (rec : St → Option R) (K : X → St → Option R) (v : f327l4H.Den) : evS tab (f327T k) Go.Proofs.Tryd.f27.ntmps [(65352, f327p2S k), (16338, f327p3S k)] (bodyOf f327l4C) 4084 (bodyK f327l4N f327l4M rec K) (encSt f327l4H v) = f327l4s k (fun v => rec (encSt f327l4H v)) (fun w => K (.exit 0) (encSt f327l4X0 w)) v := by kernel_rfl
theorem f327l4I (k : Nat) : SumsOk P Go.Proofs.Tryd.f27.ntmps [(65352, f327p2S k), (16338, f327p3S k)] (bodyOf f327l4C) 4084 := ((SumsOk.nil).cons (c := f327p3C) (by kernel_rfl) (f327p3O k)).cons (c := f327p2C) (by kernel_rfl) (f327p2O k)
theorem f327l4O (k : Nat) : SumOk P Go.Proofs.Tryd.f27.ntmps f327l4C (f327l4S k) := (show f327l4C = .loop (bodyOf f327l4C) by kernel_rfl) ▸ sum_loop tabOk (f327TS k) mixed (f327l4I k) (f327l4E k)
noncomputable def f327p5H : Shape := ⟨[(2, .one (.ptr 0 0)), (3, .one (.ptr 1 0)), (10, .one (.str))], [(0, .var 23 [.int .i64, .int .i64, .int .i64]), (1, .var 27 [.int .u8, .int .i64])], 2, []⟩
noncomputable def f327p5X0 : Shape := ⟨[(2, .one (.ptr 0 0)), (3, .one (.ptr 1 0)), (10, .one (.str))], [(0, .var 23 [.int .i64, .int .i64, .int .i64]), (1, .var 27 [.int .u8, .int .i64])], 2, []⟩
noncomputable def f327p5N : NoteR := ⟨[2, 3, 10], [], []⟩
noncomputable def f327p5M : NoteR := ⟨[2, 3, 4, 5, 10], [], []⟩
noncomputable def f327p5C : Code := firstC (codesAt 1022 (codeOf Go.Proofs.Tryd.f27) 1)
noncomputable def f327p5 {R : Type} (k : Nat) (k0 : ByteArray × Int × Int × Int × Int × Int × Unit → Option R) (v : ByteArray × Int × Int × Int × Int × Int × Unit) : Option R :=
  bif (decide (v.2.2.2.1 > (0 : Int))) then
    bif (decide (v.1.size + (⟨#[46]⟩ : ByteArray).size ≤ 9223372036854775807)) then
    Option.bind (f72F k ((32 : Int), v.2.2.2.1)) fun y13 =>
    bif (decide ((v.1 ++ (⟨#[46]⟩ : ByteArray)).size + y13.size ≤ 9223372036854775807)) then
    k0 (((v.1 ++ (⟨#[46]⟩ : ByteArray)) ++ y13), v.2.1, v.2.2.1, v.2.2.2.1, v.2.2.2.2.1, v.2.2.2.2.2.1, ())
    else none
    else none
  else
  k0 (v.1, v.2.1, v.2.2.1, v.2.2.2.1, v.2.2.2.2.1, v.2.2.2.2.2.1, ())
noncomputable def f327p5S (k : Nat) : Sum1 := partSum f327p5H f327p5N (fun R K v => f327p5 k (fun w => K .normal (encSt f327p5X0 w)) v)
theorem f327p5E (k : Nat) (R : Type) (K : X → St → Option R) (v : f327p5H.Den) : evS tab (f327T k) Go.Proofs.Tryd.f27.ntmps [] f327p5C 1022 (partK f327p5M K) (encSt f327p5H v) = f327p5 k (fun w => K .normal (encSt f327p5X0 w)) v := by kernel_rfl
theorem f327p5I (k : Nat) : SumsOk P Go.Proofs.Tryd.f27.ntmps [] f327p5C 1022 := SumsOk.nil
theorem f327p5O (k : Nat) : SumOk P Go.Proofs.Tryd.f27.ntmps f327p5C (f327p5S k) := sum_part tabOk (f327TS k) mixed (f327p5I k) (f327p5E k)
noncomputable def f327p6H : Shape := ⟨[(3, .one (.ptr 0 0)), (10, .one (.str))], [(0, .var 27 [.int .u8, .int .i64])], 1, []⟩
noncomputable def f327p6X0 : Shape := ⟨[(3, .one (.ptr 0 0)), (10, .one (.str))], [(0, .var 27 [.int .u8, .int .i64])], 1, []⟩
noncomputable def f327p6N : NoteR := ⟨[3, 10], [], []⟩
noncomputable def f327p6M : NoteR := ⟨[2, 3, 4, 5, 10], [], []⟩
noncomputable def f327p6C : Code := firstC (codesAt 2046 (codeOf Go.Proofs.Tryd.f27) 1)
noncomputable def f327p6 {R : Type} (k : Nat) (k0 : ByteArray × Int × Int × Unit → Option R) (v : ByteArray × Int × Int × Unit) : Option R :=
  Option.bind (f346F k (v.2.1, (⟨#[65, 66, 67, 68]⟩ : ByteArray))) fun y15 =>
  bif y15 then
    bif (decide (v.1.size + (⟨#[67, 82]⟩ : ByteArray).size ≤ 9223372036854775807)) then
    k0 ((v.1 ++ (⟨#[67, 82]⟩ : ByteArray)), v.2.1, v.2.2.1, ())
    else none
  else
  k0 (v.1, v.2.1, v.2.2.1, ())
noncomputable def f327p6S (k : Nat) : Sum1 := partSum f327p6H f327p6N (fun R K v => f327p6 k (fun w => K .normal (encSt f327p6X0 w)) v)
theorem f327p6E (k : Nat) (R : Type) (K : X → St → Option R) (v : f327p6H.Den) : evS tab (f327T k) Go.Proofs.Tryd.f27.ntmps [] f327p6C 2046 (partK f327p6M K) (encSt f327p6H v) = f327p6 k (fun w => K .normal (encSt f327p6X0 w)) v := by kernel_rfl
theorem f327p6I (k : Nat) : SumsOk P Go.Proofs.Tryd.f27.ntmps [] f327p6C 2046 := SumsOk.nil
theorem f327p6O (k : Nat) : SumOk P Go.Proofs.Tryd.f27.ntmps f327p6C (f327p6S k) := sum_part tabOk (f327TS k) mixed (f327p6I k) (f327p6E k)
noncomputable def f327p7H : Shape := ⟨[(3, .one (.ptr 0 0)), (10, .one (.str))], [(0, .var 27 [.int .u8, .int .i64])], 1, []⟩
noncomputable def f327p7X0 : Shape := ⟨[(3, .one (.ptr 0 0)), (10, .one (.str))], [(0, .var 27 [.int .u8, .int .i64])], 1, []⟩
noncomputable def f327p7N : NoteR := ⟨[3, 10], [], []⟩
noncomputable def f327p7M : NoteR := ⟨[2, 3, 4, 5, 10], [], []⟩
noncomputable def f327p7C : Code := firstC (codesAt 4094 (codeOf Go.Proofs.Tryd.f27) 1)
noncomputable def f327p7 {R : Type} (k : Nat) (k0 : ByteArray × Int × Int × Unit → Option R) (v : ByteArray × Int × Int × Unit) : Option R :=
  Option.bind (f346F k (v.2.1, (⟨#[74, 75, 76, 77]⟩ : ByteArray))) fun y17 =>
  bif y17 then
    bif (decide (v.1.size + (⟨#[45]⟩ : ByteArray).size ≤ 9223372036854775807)) then
    k0 ((v.1 ++ (⟨#[45]⟩ : ByteArray)), v.2.1, v.2.2.1, ())
    else none
  else
  k0 (v.1, v.2.1, v.2.2.1, ())
noncomputable def f327p7S (k : Nat) : Sum1 := partSum f327p7H f327p7N (fun R K v => f327p7 k (fun w => K .normal (encSt f327p7X0 w)) v)
theorem f327p7E (k : Nat) (R : Type) (K : X → St → Option R) (v : f327p7H.Den) : evS tab (f327T k) Go.Proofs.Tryd.f27.ntmps [] f327p7C 4094 (partK f327p7M K) (encSt f327p7H v) = f327p7 k (fun w => K .normal (encSt f327p7X0 w)) v := by kernel_rfl
theorem f327p7I (k : Nat) : SumsOk P Go.Proofs.Tryd.f27.ntmps [] f327p7C 4094 := SumsOk.nil
theorem f327p7O (k : Nat) : SumOk P Go.Proofs.Tryd.f27.ntmps f327p7C (f327p7S k) := sum_part tabOk (f327TS k) mixed (f327p7I k) (f327p7E k)
noncomputable def f327F (k : Nat) (x : (Int × (Int × Int)) × (Int × Int)) : Option (ByteArray × Int) :=
  Option.bind (f321F k ((x.1.1, (x.1.2.1, x.1.2.2)), (x.2.1, x.2.2))) fun y1 =>
  bif (y1 != (0 : Int)) then
    some (ByteArray.empty, y1)
  else
  Option.bind (f346F k (x.2.1, (⟨#[50, 52, 66, 68, 75, 77]⟩ : ByteArray))) fun y2 =>
  f327p0 k
    (fun (w4 : ByteArray × Int × Bool × Int × Int × Int × Int × Int × Unit) =>
      some (w4.1, w4.2.1))
    (fun (w5 : Bool × Int × Int × Int × Int × Int × Unit) =>
      f327p1 k
        (fun (w7 : Int × Int × Int × Int × Int × Int × Int × Unit) =>
          f327l4 k
            (fun (w12 : ByteArray × Int × Int × Int × Int × Int × Unit) =>
              f327p5 k
                (fun (w14 : ByteArray × Int × Int × Int × Int × Int × Unit) =>
                  f327p6 k
                    (fun (w16 : ByteArray × Int × Int × Unit) =>
                      f327p7 k
                        (fun (w18 : ByteArray × Int × Int × Unit) =>
                          some (w18.1, (0 : Int)))
                        (w16.1, w16.2.1, w16.2.2.1, ()))
                    (w14.1, w14.2.2.2.2.1, w14.2.2.2.2.2.1, ()))
                (w12.1, w12.2.1, w12.2.2.1, w12.2.2.2.1, w12.2.2.2.2.1, w12.2.2.2.2.2.1, ()))
            (w7.1, w7.2.1, ByteArray.empty, (0 : Int), w7.2.2.1, w7.2.2.2.1, w7.2.2.2.2.1, w7.2.2.2.2.2.1, w7.2.2.2.2.2.2.1, ()))
        (w5.1, (-1 : Int), (IntKind.i64.wrap (w5.2.2.1 - w5.2.2.2.1)), w5.2.1, w5.2.2.1, w5.2.2.2.1, w5.2.2.2.2.1, w5.2.2.2.2.2.1, ()))
    (y2, x.1.1, x.1.2.1, x.1.2.2, x.2.1, x.2.2, ())
noncomputable def f327L (k : Nat) : Sums := [(30, f327p0S k), (126, f327p1S k), (65352, f327p2S k), (16338, f327p3S k), (2042, f327l4S k), (1022, f327p5S k), (2046, f327p6S k), (4094, f327p7S k)]
theorem f327LS (k : Nat) : SumsOk P Go.Proofs.Tryd.f27.ntmps (f327L k) (codeOf Go.Proofs.Tryd.f27) 1 := ((((((((SumsOk.nil).cons (c := f327p7C) (by kernel_rfl) (f327p7O k)).cons (c := f327p6C) (by kernel_rfl) (f327p6O k)).cons (c := f327p5C) (by kernel_rfl) (f327p5O k)).cons (c := f327l4C) (by kernel_rfl) (f327l4O k)).cons (c := f327p3C) (by kernel_rfl) (f327p3O k)).cons (c := f327p2C) (by kernel_rfl) (f327p2O k)).cons (c := f327p1C) (by kernel_rfl) (f327p1O k)).cons (c := f327p0C) (by kernel_rfl) (f327p0O k)
theorem f327E (k : Nat) (x : (Int × (Int × Int)) × (Int × Int)) : evFS tab (f327T k) (f327L k) Go.Proofs.Tryd.f27.ntmps Go.Proofs.Tryd.f27.results.toList (codeOf Go.Proofs.Tryd.f27) (argsV [.agg (.pair (.int .i64) (.pair (.int .i64) (.int .i64))), .agg (.pair (.int .u8) (.int .i64))] x) [.dat .str, .dat (.int .i64)] = f327F k x := by kernel_rfl
theorem f327Ok (k : Nat) (x : (Int × (Int × Int)) × (Int × Int)) (y : ByteArray × Int) (h : f327F k x = some y) : FnOk P 27 [.agg (.pair (.int .i64) (.pair (.int .i64) (.int .i64))), .agg (.pair (.int .u8) (.int .i64))] [.dat .str, .dat (.int .i64)] x y :=
  evFS_sound tabOk (f327TS k) mixed Go.Proofs.Tryd.func27 (c := codeOf Go.Proofs.Tryd.f27) (by kernel_rfl) (f327LS k) ((f327E k x).trans h)
/-! ## midrange/midrangelaw02.EditWordsOf -/
noncomputable def f308T (k : Nat) : Table := [(13, entFn [] [.dat .bool] (f313F k)), (26, entFn [.agg (.pair (.int .i64) (.pair (.int .i64) (.int .i64))), .agg (.pair (.int .u8) (.int .i64))] [.dat .str, .dat (.int .i64)] (f326F k)), (27, entFn [.agg (.pair (.int .i64) (.pair (.int .i64) (.int .i64))), .agg (.pair (.int .u8) (.int .i64))] [.dat .str, .dat (.int .i64)] (f327F k))]
theorem f308TS (k : Nat) : Sound P (f308T k) := (((Sound.nil).cons f327B (f327Ok k)).cons f326B (f326Ok k)).cons f313B (f313Ok k)
theorem f308B : HasBody P 8 := ⟨Go.Proofs.Tryd.f8, Go.Proofs.Tryd.func8, by kernel_rfl, by kernel_rfl⟩
noncomputable def f308F (k : Nat) (x : (Int × (Int × Int)) × (Int × Int)) : Option (Bool) :=
  Option.bind (f313F k ()) fun y1 =>
  bif (!y1) then
    some false
  else
  Option.bind (f326F k ((x.1.1, (x.1.2.1, x.1.2.2)), (x.2.1, x.2.2))) fun y2 =>
  Option.bind (f327F k ((x.1.1, (x.1.2.1, x.1.2.2)), (x.2.1, x.2.2))) fun y3 =>
  bif (y2.2 == y3.2) then
    some (strEq y2.1 y3.1)
  else
  some false
noncomputable def f308L (k : Nat) : Sums := []
theorem f308LS (k : Nat) : SumsOk P Go.Proofs.Tryd.f8.ntmps (f308L k) (codeOf Go.Proofs.Tryd.f8) 1 := SumsOk.nil
theorem f308E (k : Nat) (x : (Int × (Int × Int)) × (Int × Int)) : evFS tab (f308T k) (f308L k) Go.Proofs.Tryd.f8.ntmps Go.Proofs.Tryd.f8.results.toList (codeOf Go.Proofs.Tryd.f8) (argsV [.agg (.pair (.int .i64) (.pair (.int .i64) (.int .i64))), .agg (.pair (.int .u8) (.int .i64))] x) [.dat .bool] = f308F k x := by kernel_rfl
theorem f308Ok (k : Nat) (x : (Int × (Int × Int)) × (Int × Int)) (y : Bool) (h : f308F k x = some y) : FnOk P 8 [.agg (.pair (.int .i64) (.pair (.int .i64) (.int .i64))), .agg (.pair (.int .u8) (.int .i64))] [.dat .bool] x y :=
  evFS_sound tabOk (f308TS k) mixed Go.Proofs.Tryd.func8 (c := codeOf Go.Proofs.Tryd.f8) (by kernel_rfl) (f308LS k) ((f308E k x).trans h)
/-! ## midrange/midrangelaw02.EditSame -/
noncomputable def f309T (k : Nat) : Table := [(13, entFn [] [.dat .bool] (f313F k)), (14, entFn [.agg (.pair (.int .i64) (.pair (.int .i64) (.int .i64))), .agg (.pair (.int .i64) .str), .agg (.pair (.int .u8) (.int .i64))] [.dat .str, .dat (.int .i64)] (f314F k)), (18, entFn [.agg (.pair (.int .i64) (.pair (.int .i64) (.int .i64))), .agg (.pair (.int .i64) .str), .dat .str] [.dat .str, .dat (.int .i64)] (f318F k)), (26, entFn [.agg (.pair (.int .i64) (.pair (.int .i64) (.int .i64))), .agg (.pair (.int .u8) (.int .i64))] [.dat .str, .dat (.int .i64)] (f326F k)), (28, entFn [.agg (.pair (.int .i64) (.pair (.int .i64) (.int .i64))), .agg (.pair (.int .i64) .str)] [.dat (.int .i64)] (f30F k))]
theorem f309TS (k : Nat) : Sound P (f309T k) := (((((Sound.nil).cons f30B (f30Ok k)).cons f326B (f326Ok k)).cons f318B (f318Ok k)).cons f314B (f314Ok k)).cons f313B (f313Ok k)
theorem f309B : HasBody P 9 := ⟨Go.Proofs.Tryd.f9, Go.Proofs.Tryd.func9, by kernel_rfl, by kernel_rfl⟩
noncomputable def f309F (k : Nat) (x : (Int × (Int × Int)) × (Int × ByteArray) × (Int × Int)) : Option (Bool) :=
  Option.bind (f313F k ()) fun y1 =>
  bif (!y1) then
    some false
  else
  bif (decide ((x.2.1.2.size : Int) > (300 : Int))) then
    some true
  else
  Option.bind (f326F k ((x.1.1, (x.1.2.1, x.1.2.2)), (x.2.2.1, x.2.2.2))) fun y2 =>
  bif (y2.2 != (0 : Int)) then
    some true
  else
  Option.bind (f30F k ((x.1.1, (x.1.2.1, x.1.2.2)), (x.2.1.1, x.2.1.2))) fun y3 =>
  bif (y3 != (0 : Int)) then
    some true
  else
  Option.bind (f314F k ((x.1.1, (x.1.2.1, x.1.2.2)), (x.2.1.1, x.2.1.2), (x.2.2.1, x.2.2.2))) fun y4 =>
  Option.bind (f318F k ((x.1.1, (x.1.2.1, x.1.2.2)), (x.2.1.1, x.2.1.2), y2.1)) fun y5 =>
  bif (y4.2 == (0 : Int)) then
    bif (y5.2 == (0 : Int)) then
      some (strEq y4.1 y5.1)
    else
    some false
  else
  some false
noncomputable def f309L (k : Nat) : Sums := []
theorem f309LS (k : Nat) : SumsOk P Go.Proofs.Tryd.f9.ntmps (f309L k) (codeOf Go.Proofs.Tryd.f9) 1 := SumsOk.nil
theorem f309E (k : Nat) (x : (Int × (Int × Int)) × (Int × ByteArray) × (Int × Int)) : evFS tab (f309T k) (f309L k) Go.Proofs.Tryd.f9.ntmps Go.Proofs.Tryd.f9.results.toList (codeOf Go.Proofs.Tryd.f9) (argsV [.agg (.pair (.int .i64) (.pair (.int .i64) (.int .i64))), .agg (.pair (.int .i64) .str), .agg (.pair (.int .u8) (.int .i64))] x) [.dat .bool] = f309F k x := by kernel_rfl
theorem f309Ok (k : Nat) (x : (Int × (Int × Int)) × (Int × ByteArray) × (Int × Int)) (y : Bool) (h : f309F k x = some y) : FnOk P 9 [.agg (.pair (.int .i64) (.pair (.int .i64) (.int .i64))), .agg (.pair (.int .i64) .str), .agg (.pair (.int .u8) (.int .i64))] [.dat .bool] x y :=
  evFS_sound tabOk (f309TS k) mixed Go.Proofs.Tryd.func9 (c := codeOf Go.Proofs.Tryd.f9) (by kernel_rfl) (f309LS k) ((f309E k x).trans h)
end Go.Proofs.YtecbbmokocnadaaDoor
