/- What functions of the program compute: each as a plain Lean function, and that the code comes to it. Printed by gen.py. -/
import Derived.Test.YtioagofpofamiaaAB
import Derived.Test.YtioagofpofamiaaProg
/-! Printed by gen.py: what functions compute. -/
set_option linter.unusedVariables false
set_option maxRecDepth 100000
namespace Go.Proofs.Ytioagofpofamiaa
open Go.Ab
@[reducible] noncomputable def P : Program := Go.Proofs.Try.prog
def tab : Tab := [
  (3, ⟨.int .i64, 1, 8, false, some [.int .i64 0], false⟩),
  (4, ⟨.bool, 1, 1, false, some [.bool false], false⟩),
  (5, ⟨.int .u8, 1, 1, false, some [.int .u8 0], false⟩),
  (9, ⟨.str, 1, 16, false, some [.str ByteArray.empty], false⟩),
  (23, ⟨.struct [(3, 0, 1), (3, 1, 1), (3, 2, 1)], 3, 24, true, some [.int .i64 0, .int .i64 0, .int .i64 0], true⟩),
  (25, ⟨.struct [(3, 0, 1), (9, 1, 1)], 2, 24, true, some [.int .i64 0, .str ByteArray.empty], true⟩),
  (27, ⟨.int .i64, 1, 8, false, some [.int .i64 0], false⟩),
  (39, ⟨.struct [(3, 0, 1), (3, 1, 1)], 2, 16, true, some [.int .i64 0, .int .i64 0], true⟩),
  (48, ⟨.struct [(39, 0, 2), (39, 2, 2)], 4, 32, true, some [.int .i64 0, .int .i64 0, .int .i64 0, .int .i64 0], true⟩),
  (53, ⟨.struct [(3, 0, 1), (23, 1, 3), (4, 4, 1)], 5, 40, true, some [.int .i64 0, .int .i64 0, .int .i64 0, .int .i64 0, .bool false], true⟩),
  (67, ⟨.struct [(23, 0, 3), (9, 3, 1)], 4, 40, true, some [.int .i64 0, .int .i64 0, .int .i64 0, .str ByteArray.empty], true⟩),
  (71, ⟨.struct [(9, 0, 1), (3, 1, 1), (3, 2, 1)], 3, 32, true, some [.str ByteArray.empty, .int .i64 0, .int .i64 0], true⟩),
  (89, ⟨.int .u64, 1, 8, false, some [.int .u64 0], false⟩),
  (91, ⟨.array 4 89, 4, 32, true, some [.int .u64 0, .int .u64 0, .int .u64 0, .int .u64 0], false⟩),
  (93, ⟨.struct [(4, 0, 1), (91, 1, 4), (91, 5, 4)], 9, 72, true, some [.bool false, .int .u64 0, .int .u64 0, .int .u64 0, .int .u64 0, .int .u64 0, .int .u64 0, .int .u64 0, .int .u64 0], true⟩),
  (98, ⟨.slice 3 (.int .i64), 1, 24, false, some [.emp], false⟩),
  (100, ⟨.struct [(4, 0, 1), (98, 1, 1)], 2, 32, true, some [.bool false, .emp], false⟩),
  (102, ⟨.struct [(100, 0, 2), (98, 2, 1)], 3, 56, true, some [.bool false, .emp, .emp], false⟩),
  (117, ⟨.slice 23 (.pair (.int .i64) (.pair (.int .i64) (.int .i64))), 1, 24, false, some [.emp], false⟩),
  (119, ⟨.slice 5 (.int .u8), 1, 24, false, some [.emp], false⟩),
  (125, ⟨.slice 27 (.int .i64), 1, 24, false, some [.emp], false⟩),
  (126, ⟨.int .i8, 1, 1, false, some [.int .i8 0], false⟩)]
theorem tabOk : tabIs P tab = true := by kernel_rfl
theorem mixed : P.follows .mixedOrders = true := by kernel_rfl
/-! ## midrange/midrangelaw01.packed -/
noncomputable def f39T (k : Nat) : Table := []
theorem f39TS (k : Nat) : Sound P (f39T k) := Sound.nil
theorem f39B : HasBody P 39 := ⟨Go.Proofs.Try.f39, Go.Proofs.Try.func39, by kernel_rfl, by kernel_rfl⟩
noncomputable def f39F (k : Nat) (x : Unit) : Option ((Int × (Int × Int))) :=
  some ((1 : Int), ((5 : Int), (2 : Int)))
noncomputable def f39L (k : Nat) : Sums := []
theorem f39LS (k : Nat) : SumsOk P Go.Proofs.Try.f39.ntmps (f39L k) (codeOf Go.Proofs.Try.f39) 1 := SumsOk.nil
theorem f39E (k : Nat) (x : Unit) : evFS tab (f39T k) (f39L k) Go.Proofs.Try.f39.ntmps Go.Proofs.Try.f39.results.toList (codeOf Go.Proofs.Try.f39) (argsV [] x) [.agg (.pair (.int .i64) (.pair (.int .i64) (.int .i64)))] = f39F k x := by kernel_rfl
theorem f39Ok (k : Nat) (x : Unit) (y : (Int × (Int × Int))) (h : f39F k x = some y) : FnOk P 39 [] [.agg (.pair (.int .i64) (.pair (.int .i64) (.int .i64)))] x y :=
  evFS_sound tabOk (f39TS k) mixed Go.Proofs.Try.func39 (c := codeOf Go.Proofs.Try.f39) (by kernel_rfl) (f39LS k) ((f39E k x).trans h)
/-! ## midrange/numeric.in -/
noncomputable def f70T (k : Nat) : Table := []
theorem f70TS (k : Nat) : Sound P (f70T k) := Sound.nil
theorem f70B : HasBody P 70 := ⟨Go.Proofs.Try.f70, Go.Proofs.Try.func70, by kernel_rfl, by kernel_rfl⟩
noncomputable def f70F (k : Nat) (x : Int × Int × Int) : Option (Bool) :=
  bif (decide (x.2.1 ≤ x.1)) then
    some (decide (x.1 ≤ x.2.2))
  else
  some false
noncomputable def f70L (k : Nat) : Sums := []
theorem f70LS (k : Nat) : SumsOk P Go.Proofs.Try.f70.ntmps (f70L k) (codeOf Go.Proofs.Try.f70) 1 := SumsOk.nil
theorem f70E (k : Nat) (x : Int × Int × Int) : evFS tab (f70T k) (f70L k) Go.Proofs.Try.f70.ntmps Go.Proofs.Try.f70.results.toList (codeOf Go.Proofs.Try.f70) (argsV [.dat (.int .i64), .dat (.int .i64), .dat (.int .i64)] x) [.dat .bool] = f70F k x := by kernel_rfl
theorem f70Ok (k : Nat) (x : Int × Int × Int) (y : Bool) (h : f70F k x = some y) : FnOk P 70 [.dat (.int .i64), .dat (.int .i64), .dat (.int .i64)] [.dat .bool] x y :=
  evFS_sound tabOk (f70TS k) mixed Go.Proofs.Try.func70 (c := codeOf Go.Proofs.Try.f70) (by kernel_rfl) (f70LS k) ((f70E k x).trans h)
/-! ## midrange/numeric.cond -/
noncomputable def f43T (k : Nat) : Table := []
theorem f43TS (k : Nat) : Sound P (f43T k) := Sound.nil
theorem f43B : HasBody P 43 := ⟨Go.Proofs.Try.f43, Go.Proofs.Try.func43, by kernel_rfl, by kernel_rfl⟩
noncomputable def f43F (k : Nat) (x : Bool × Int) : Option (Int) :=
  bif x.1 then
    some x.2
  else
  some (0 : Int)
noncomputable def f43L (k : Nat) : Sums := []
theorem f43LS (k : Nat) : SumsOk P Go.Proofs.Try.f43.ntmps (f43L k) (codeOf Go.Proofs.Try.f43) 1 := SumsOk.nil
theorem f43E (k : Nat) (x : Bool × Int) : evFS tab (f43T k) (f43L k) Go.Proofs.Try.f43.ntmps Go.Proofs.Try.f43.results.toList (codeOf Go.Proofs.Try.f43) (argsV [.dat .bool, .dat (.int .i64)] x) [.dat (.int .i64)] = f43F k x := by kernel_rfl
theorem f43Ok (k : Nat) (x : Bool × Int) (y : Int) (h : f43F k x = some y) : FnOk P 43 [.dat .bool, .dat (.int .i64)] [.dat (.int .i64)] x y :=
  evFS_sound tabOk (f43TS k) mixed Go.Proofs.Try.func43 (c := codeOf Go.Proofs.Try.f43) (by kernel_rfl) (f43LS k) ((f43E k x).trans h)
/-! ## midrange/numeric.first -/
noncomputable def f42T (k : Nat) : Table := []
theorem f42TS (k : Nat) : Sound P (f42T k) := Sound.nil
theorem f42B : HasBody P 42 := ⟨Go.Proofs.Try.f42, Go.Proofs.Try.func42, by kernel_rfl, by kernel_rfl⟩
noncomputable def f42l0H : Shape := ⟨[(5, .one (.ro (.int .i64))), (6, .one (.int .i64)), (7, .one (.int .i64))], [], 0⟩
noncomputable def f42l0X0 : Shape := ⟨[(2, .one (.int .i64))], [], 0⟩
noncomputable def f42l0X1 : Shape := ⟨[], [], 0⟩
noncomputable def f42l0N : NoteR := ⟨[5, 6, 7], [], []⟩
noncomputable def f42l0M : NoteR := ⟨[2], [], []⟩
noncomputable def f42l0C : Code := firstC (codesAt 26 (codeOf Go.Proofs.Try.f42) 1)
noncomputable def f42l0s {R : Type} (k : Nat) (rec : List Int × Int × Int × Unit → Option R) (k0 : Int × Unit → Option R) (k1 : Unit → Option R) (v : List Int × Int × Int × Unit) : Option R :=
  bif (decide (v.2.2.1 < v.2.1)) then
    bif ((decide ((0 : Int) ≤ v.2.2.1)) && (decide (v.2.2.1 < (v.1.length : Int)))) then
    bif ((v.1.getD (Int.toNat v.2.2.1) (0 : Int)) != (0 : Int)) then
      k0 ((v.1.getD (Int.toNat v.2.2.1) (0 : Int)), ())
    else
    rec (v.1, v.2.1, (IntKind.i64.wrap (v.2.2.1 + (1 : Int))), ())
    else none
  else
  k1 (())
noncomputable def f42l0 {R : Type} (k : Nat) (k0 : Int × Unit → Option R) (k1 : Unit → Option R) (v : List Int × Int × Int × Unit) : Option R := iterS (fun rec v => f42l0s k rec k0 k1 v) k v
noncomputable def f42l0S (k : Nat) : Sum1 := loopSum f42l0H f42l0N k (fun R rec K v => f42l0s k rec (fun w => K .ret (encSt f42l0X0 w)) (fun w => K (.exit 0) (encSt f42l0X1 w)) v)
theorem f42l0E (k : Nat) (R : Type) (rec : St → Option R) (K : X → St → Option R) (v : f42l0H.Den) : evS tab (f42T k) Go.Proofs.Try.f42.ntmps [] (bodyOf f42l0C) 52 (bodyK f42l0N f42l0M rec K) (encSt f42l0H v) = f42l0s k (fun v => rec (encSt f42l0H v)) (fun w => K .ret (encSt f42l0X0 w)) (fun w => K (.exit 0) (encSt f42l0X1 w)) v := by kernel_rfl
theorem f42l0I (k : Nat) : SumsOk P Go.Proofs.Try.f42.ntmps [] (bodyOf f42l0C) 52 := SumsOk.nil
theorem f42l0O (k : Nat) : SumOk P Go.Proofs.Try.f42.ntmps f42l0C (f42l0S k) := (show f42l0C = .loop (bodyOf f42l0C) by kernel_rfl) ▸ sum_loop tabOk (f42TS k) mixed (f42l0I k) (f42l0E k)
noncomputable def f42F (k : Nat) (x : (List Int)) : Option (Int) :=
  f42l0 k
    (fun (w1 : Int × Unit) =>
      some w1.1)
    (fun (w2 : Unit) =>
      some (0 : Int))
    (x, (x.length : Int), (0 : Int), ())
noncomputable def f42L (k : Nat) : Sums := [(26, f42l0S k)]
theorem f42LS (k : Nat) : SumsOk P Go.Proofs.Try.f42.ntmps (f42L k) (codeOf Go.Proofs.Try.f42) 1 := (SumsOk.nil).cons (c := f42l0C) (by kernel_rfl) (f42l0O k)
theorem f42E (k : Nat) (x : (List Int)) : evFS tab (f42T k) (f42L k) Go.Proofs.Try.f42.ntmps Go.Proofs.Try.f42.results.toList (codeOf Go.Proofs.Try.f42) (argsV [.dat (.slice (.int .i64))] x) [.dat (.int .i64)] = f42F k x := by kernel_rfl
theorem f42Ok (k : Nat) (x : (List Int)) (y : Int) (h : f42F k x = some y) : FnOk P 42 [.dat (.slice (.int .i64))] [.dat (.int .i64)] x y :=
  evFS_sound tabOk (f42TS k) mixed Go.Proofs.Try.func42 (c := codeOf Go.Proofs.Try.f42) (by kernel_rfl) (f42LS k) ((f42E k x).trans h)
/-! ## midrange/numeric.CheckType -/
noncomputable def f28T (k : Nat) : Table := [(42, entFn [.dat (.slice (.int .i64))] [.dat (.int .i64)] (f42F k)), (43, entFn [.dat .bool, .dat (.int .i64)] [.dat (.int .i64)] (f43F k)), (70, entFn [.dat (.int .i64), .dat (.int .i64), .dat (.int .i64)] [.dat .bool] (f70F k))]
theorem f28TS (k : Nat) : Sound P (f28T k) := (((Sound.nil).cons f70B (f70Ok k)).cons f43B (f43Ok k)).cons f42B (f42Ok k)
theorem f28B : HasBody P 28 := ⟨Go.Proofs.Try.f28, Go.Proofs.Try.func28, by kernel_rfl, by kernel_rfl⟩
noncomputable def f28p0H : Shape := ⟨[(1, .one (.ptr 0 0)), (4, .one (.bool)), (9, .one (.int .i64))], [(0, .var [.int .i64, .int .i64, .int .i64])], 1⟩
noncomputable def f28p0X0 : Shape := ⟨[(1, .one (.ptr 0 0)), (4, .one (.bool)), (9, .one (.int .i64)), (15, .one (.bool))], [(0, .var [.int .i64, .int .i64, .int .i64])], 1⟩
noncomputable def f28p0N : NoteR := ⟨[1, 4, 9], [], []⟩
noncomputable def f28p0M : NoteR := ⟨[1, 2, 4, 9, 15], [], []⟩
noncomputable def f28p0C : Code := firstC (codesAt 470 (codeOf Go.Proofs.Try.f28) 1)
noncomputable def f28p0 {R : Type} (k : Nat) (k0 : Bool × Int × Bool × Int × Int × Int × Unit → Option R) (v : Bool × Int × Int × Int × Int × Unit) : Option R :=
  bif (v.2.1 == (1 : Int)) then
    k0 (v.1, v.2.1, (v.2.1 == (1 : Int)), v.2.2.1, v.2.2.2.1, v.2.2.2.2.1, ())
  else
  k0 (v.1, v.2.1, (v.2.1 == (2 : Int)), v.2.2.1, v.2.2.2.1, v.2.2.2.2.1, ())
noncomputable def f28p0S (k : Nat) : Sum1 := partSum f28p0H f28p0N (fun R K v => f28p0 k (fun w => K .normal (encSt f28p0X0 w)) v)
theorem f28p0E (k : Nat) (R : Type) (K : X → St → Option R) (v : f28p0H.Den) : evS tab (f28T k) Go.Proofs.Try.f28.ntmps [] f28p0C 470 (partK f28p0M K) (encSt f28p0H v) = f28p0 k (fun w => K .normal (encSt f28p0X0 w)) v := by kernel_rfl
theorem f28p0I (k : Nat) : SumsOk P Go.Proofs.Try.f28.ntmps [] f28p0C 470 := SumsOk.nil
theorem f28p0O (k : Nat) : SumOk P Go.Proofs.Try.f28.ntmps f28p0C (f28p0S k) := sum_part tabOk (f28TS k) mixed (f28p0I k) (f28p0E k)
noncomputable def f28p1H : Shape := ⟨[(1, .one (.ptr 0 0)), (4, .one (.bool))], [(0, .var [.int .i64, .int .i64, .int .i64])], 1⟩
noncomputable def f28p1X0 : Shape := ⟨[(3, .one (.bool)), (4, .one (.bool))], [], 0⟩
noncomputable def f28p1X1 : Shape := ⟨[(2, .one (.int .i64)), (4, .one (.bool))], [], 0⟩
noncomputable def f28p1N : NoteR := ⟨[1, 4], [], []⟩
noncomputable def f28p1M : NoteR := ⟨[2, 3, 4], [], []⟩
noncomputable def f28p1C : Code := firstC (codesAt 14 (codeOf Go.Proofs.Try.f28) 1)
noncomputable def f28p1 {R : Type} (k : Nat) (k0 : Bool × Bool × Unit → Option R) (k1 : Int × Bool × Unit → Option R) (v : Bool × Int × Int × Int × Unit) : Option R :=
  bif (v.2.1 == (0 : Int)) then
    Option.bind (f70F k (v.2.2.1, (1 : Int), (256 : Int))) fun y1 =>
    k0 (y1, v.1, ())
  else
  f28p0 k
    (fun (w2 : Bool × Int × Bool × Int × Int × Int × Unit) =>
      bif w2.2.2.1 then
        Option.bind (f70F k (w2.2.2.2.2.1, (1 : Int), (15 : Int))) fun y3 =>
        Option.bind (f70F k (w2.2.2.2.2.2.1, (0 : Int), w2.2.2.2.2.1)) fun y4 =>
        k0 (y3, y4, ())
      else
      bif (w2.2.1 == (3 : Int)) then
        bif (w2.2.2.2.2.1 == (4 : Int)) then
          Option.bind (f70F k (w2.2.2.2.2.2.1, (0 : Int), w2.2.2.2.2.1)) fun y5 =>
          k0 (true, y5, ())
        else
        Option.bind (f70F k (w2.2.2.2.2.2.1, (0 : Int), w2.2.2.2.2.1)) fun y6 =>
        k0 ((w2.2.2.2.2.1 == (9 : Int)), y6, ())
      else
      bif (w2.2.1 == (4 : Int)) then
        k0 ((w2.2.2.2.2.1 == (0 : Int)), w2.1, ())
      else
      k1 ((4 : Int), w2.1, ()))
    (v.1, v.2.1, v.2.1, v.2.2.1, v.2.2.2.1, ())
noncomputable def f28p1S (k : Nat) : Sum1 := partSum f28p1H f28p1N (fun R K v => f28p1 k (fun w => K .normal (encSt f28p1X0 w)) (fun w => K .ret (encSt f28p1X1 w)) v)
theorem f28p1E (k : Nat) (R : Type) (K : X → St → Option R) (v : f28p1H.Den) : evS tab (f28T k) Go.Proofs.Try.f28.ntmps [(470, f28p0S k)] f28p1C 14 (partK f28p1M K) (encSt f28p1H v) = f28p1 k (fun w => K .normal (encSt f28p1X0 w)) (fun w => K .ret (encSt f28p1X1 w)) v := by kernel_rfl
theorem f28p1I (k : Nat) : SumsOk P Go.Proofs.Try.f28.ntmps [(470, f28p0S k)] f28p1C 14 := (SumsOk.nil).cons (c := f28p0C) (by kernel_rfl) (f28p0O k)
theorem f28p1O (k : Nat) : SumOk P Go.Proofs.Try.f28.ntmps f28p1C (f28p1S k) := sum_part tabOk (f28TS k) mixed (f28p1I k) (f28p1E k)
noncomputable def f28F (k : Nat) (x : (Int × (Int × Int))) : Option (Int) :=
  f28p1 k
    (fun (w7 : Bool × Bool × Unit) =>
      Option.bind (f43F k ((!w7.1), (18 : Int))) fun y8 =>
      Option.bind (f43F k ((!w7.2.1), (3 : Int))) fun y9 =>
      Option.bind (f42F k [y8, y9]) fun y10 =>
      some y10)
    (fun (w11 : Int × Bool × Unit) =>
      some w11.1)
    ((x.2.2 == (0 : Int)), x.1, x.2.1, x.2.2, ())
noncomputable def f28L (k : Nat) : Sums := [(470, f28p0S k), (14, f28p1S k)]
theorem f28LS (k : Nat) : SumsOk P Go.Proofs.Try.f28.ntmps (f28L k) (codeOf Go.Proofs.Try.f28) 1 := ((SumsOk.nil).cons (c := f28p1C) (by kernel_rfl) (f28p1O k)).cons (c := f28p0C) (by kernel_rfl) (f28p0O k)
theorem f28E (k : Nat) (x : (Int × (Int × Int))) : evFS tab (f28T k) (f28L k) Go.Proofs.Try.f28.ntmps Go.Proofs.Try.f28.results.toList (codeOf Go.Proofs.Try.f28) (argsV [.agg (.pair (.int .i64) (.pair (.int .i64) (.int .i64)))] x) [.dat (.int .i64)] = f28F k x := by kernel_rfl
theorem f28Ok (k : Nat) (x : (Int × (Int × Int))) (y : Int) (h : f28F k x = some y) : FnOk P 28 [.agg (.pair (.int .i64) (.pair (.int .i64) (.int .i64)))] [.dat (.int .i64)] x y :=
  evFS_sound tabOk (f28TS k) mixed Go.Proofs.Try.func28 (c := codeOf Go.Proofs.Try.f28) (by kernel_rfl) (f28LS k) ((f28E k x).trans h)
/-! ## midrange/numeric.power -/
noncomputable def f71T (k : Nat) : Table := []
theorem f71TS (k : Nat) : Sound P (f71T k) := Sound.nil
theorem f71B : HasBody P 71 := ⟨Go.Proofs.Try.f71, Go.Proofs.Try.func71, by kernel_rfl, by kernel_rfl⟩
noncomputable def f71l0H : Shape := ⟨[(3, .one (.int .i64)), (5, .one (.int .i64)), (6, .one (.int .i64))], [], 0⟩
noncomputable def f71l0X0 : Shape := ⟨[(3, .one (.int .i64))], [], 0⟩
noncomputable def f71l0N : NoteR := ⟨[3, 5, 6], [], []⟩
noncomputable def f71l0M : NoteR := ⟨[2, 3], [], []⟩
noncomputable def f71l0C : Code := firstC (codesAt 58 (codeOf Go.Proofs.Try.f71) 1)
noncomputable def f71l0s {R : Type} (k : Nat) (rec : Int × Int × Int × Unit → Option R) (k0 : Int × Unit → Option R) (v : Int × Int × Int × Unit) : Option R :=
  bif (decide (v.2.2.1 < v.2.1)) then
    rec ((IntKind.i64.wrap (v.1 * (10 : Int))), v.2.1, (IntKind.i64.wrap (v.2.2.1 + (1 : Int))), ())
  else
  k0 (v.1, ())
noncomputable def f71l0 {R : Type} (k : Nat) (k0 : Int × Unit → Option R) (v : Int × Int × Int × Unit) : Option R := iterS (fun rec v => f71l0s k rec k0 v) k v
noncomputable def f71l0S (k : Nat) : Sum1 := loopSum f71l0H f71l0N k (fun R rec K v => f71l0s k rec (fun w => K (.exit 0) (encSt f71l0X0 w)) v)
theorem f71l0E (k : Nat) (R : Type) (rec : St → Option R) (K : X → St → Option R) (v : f71l0H.Den) : evS tab (f71T k) Go.Proofs.Try.f71.ntmps [] (bodyOf f71l0C) 116 (bodyK f71l0N f71l0M rec K) (encSt f71l0H v) = f71l0s k (fun v => rec (encSt f71l0H v)) (fun w => K (.exit 0) (encSt f71l0X0 w)) v := by kernel_rfl
theorem f71l0I (k : Nat) : SumsOk P Go.Proofs.Try.f71.ntmps [] (bodyOf f71l0C) 116 := SumsOk.nil
theorem f71l0O (k : Nat) : SumOk P Go.Proofs.Try.f71.ntmps f71l0C (f71l0S k) := (show f71l0C = .loop (bodyOf f71l0C) by kernel_rfl) ▸ sum_loop tabOk (f71TS k) mixed (f71l0I k) (f71l0E k)
noncomputable def f71F (k : Nat) (x : Int) : Option (Int) :=
  f71l0 k
    (fun (w1 : Int × Unit) =>
      some w1.1)
    ((1 : Int), (mnI x (18 : Int)), (0 : Int), ())
noncomputable def f71L (k : Nat) : Sums := [(58, f71l0S k)]
theorem f71LS (k : Nat) : SumsOk P Go.Proofs.Try.f71.ntmps (f71L k) (codeOf Go.Proofs.Try.f71) 1 := (SumsOk.nil).cons (c := f71l0C) (by kernel_rfl) (f71l0O k)
theorem f71E (k : Nat) (x : Int) : evFS tab (f71T k) (f71L k) Go.Proofs.Try.f71.ntmps Go.Proofs.Try.f71.results.toList (codeOf Go.Proofs.Try.f71) (argsV [.dat (.int .i64)] x) [.dat (.int .i64)] = f71F k x := by kernel_rfl
theorem f71Ok (k : Nat) (x : Int) (y : Int) (h : f71F k x = some y) : FnOk P 71 [.dat (.int .i64)] [.dat (.int .i64)] x y :=
  evFS_sound tabOk (f71TS k) mixed Go.Proofs.Try.func71 (c := codeOf Go.Proofs.Try.f71) (by kernel_rfl) (f71LS k) ((f71E k x).trans h)
/-! ## midrange/numeric.CheckValue -/
noncomputable def f29T (k : Nat) : Table := [(28, entFn [.agg (.pair (.int .i64) (.pair (.int .i64) (.int .i64)))] [.dat (.int .i64)] (f28F k)), (42, entFn [.dat (.slice (.int .i64))] [.dat (.int .i64)] (f42F k)), (43, entFn [.dat .bool, .dat (.int .i64)] [.dat (.int .i64)] (f43F k)), (70, entFn [.dat (.int .i64), .dat (.int .i64), .dat (.int .i64)] [.dat .bool] (f70F k)), (71, entFn [.dat (.int .i64)] [.dat (.int .i64)] (f71F k))]
theorem f29TS (k : Nat) : Sound P (f29T k) := (((((Sound.nil).cons f71B (f71Ok k)).cons f70B (f70Ok k)).cons f43B (f43Ok k)).cons f42B (f42Ok k)).cons f28B (f28Ok k)
theorem f29B : HasBody P 29 := ⟨Go.Proofs.Try.f29, Go.Proofs.Try.func29, by kernel_rfl, by kernel_rfl⟩
noncomputable def f29F (k : Nat) (x : (Int × (Int × Int)) × (Int × ByteArray)) : Option (Int) :=
  Option.bind (f28F k (x.1.1, (x.1.2.1, x.1.2.2))) fun y1 =>
  Option.bind (f43F k ((x.1.1 == (4 : Int)), (17 : Int))) fun y2 =>
  Option.bind (f42F k [y1, y2]) fun y3 =>
  bif (y3 != (0 : Int)) then
    some y3
  else
  bif (x.1.1 == (0 : Int)) then
    Option.bind (f43F k ((x.2.1 != (0 : Int)), (5 : Int))) fun y4 =>
    Option.bind (f43F k (((x.2.2.size : Int) != x.1.2.1), (18 : Int))) fun y5 =>
    Option.bind (f42F k [y4, y5]) fun y6 =>
    some y6
  else
  Option.bind (f71F k x.1.2.1) fun y7 =>
  Option.bind (f43F k ((!strEq x.2.2 ByteArray.empty), (5 : Int))) fun y8 =>
  Option.bind (f70F k (x.2.1, (IntKind.i64.wrap (0 - (IntKind.i64.wrap (y7 - (1 : Int))))), (IntKind.i64.wrap (y7 - (1 : Int))))) fun y9 =>
  Option.bind (f43F k ((!y9), (19 : Int))) fun y10 =>
  Option.bind (f42F k [y8, y10]) fun y11 =>
  some y11
noncomputable def f29L (k : Nat) : Sums := []
theorem f29LS (k : Nat) : SumsOk P Go.Proofs.Try.f29.ntmps (f29L k) (codeOf Go.Proofs.Try.f29) 1 := SumsOk.nil
theorem f29E (k : Nat) (x : (Int × (Int × Int)) × (Int × ByteArray)) : evFS tab (f29T k) (f29L k) Go.Proofs.Try.f29.ntmps Go.Proofs.Try.f29.results.toList (codeOf Go.Proofs.Try.f29) (argsV [.agg (.pair (.int .i64) (.pair (.int .i64) (.int .i64))), .agg (.pair (.int .i64) .str)] x) [.dat (.int .i64)] = f29F k x := by kernel_rfl
theorem f29Ok (k : Nat) (x : (Int × (Int × Int)) × (Int × ByteArray)) (y : Int) (h : f29F k x = some y) : FnOk P 29 [.agg (.pair (.int .i64) (.pair (.int .i64) (.int .i64))), .agg (.pair (.int .i64) .str)] [.dat (.int .i64)] x y :=
  evFS_sound tabOk (f29TS k) mixed Go.Proofs.Try.func29 (c := codeOf Go.Proofs.Try.f29) (by kernel_rfl) (f29LS k) ((f29E k x).trans h)
/-! ## midrange/numeric.digits -/
noncomputable def f75T (k : Nat) : Table := []
theorem f75TS (k : Nat) : Sound P (f75T k) := Sound.nil
theorem f75B : HasBody P 75 := ⟨Go.Proofs.Try.f75, Go.Proofs.Try.func75, by kernel_rfl, by kernel_rfl⟩
noncomputable def f75l0H : Shape := ⟨[(0, .one (.int .i64)), (5, .one (.own 0)), (6, .one (.int .i64))], [(0, .row 5 (.int .u8) .plain)], 1⟩
noncomputable def f75l0X0 : Shape := ⟨[(5, .one (.own 0))], [(0, .row 5 (.int .u8) .plain)], 1⟩
noncomputable def f75l0N : NoteR := ⟨[0, 5, 6], [], []⟩
noncomputable def f75l0M : NoteR := ⟨[4, 5], [], []⟩
noncomputable def f75l0C : Code := firstC (codesAt 58 (codeOf Go.Proofs.Try.f75) 1)
noncomputable def f75l0s {R : Type} (k : Nat) (rec : Int × Int × List Int × Unit → Option R) (k0 : List Int × Unit → Option R) (v : Int × Int × List Int × Unit) : Option R :=
  bif (decide (v.2.1 ≥ (0 : Int))) then
    bif ((decide ((0 : Int) ≤ v.2.1)) && (decide (v.2.1 < (v.2.2.1.length : Int)))) then
    let t1 := (v.2.2.1.set (Int.toNat v.2.1) (IntKind.u8.wrap (Int.tmod v.1 (10 : Int))))
    rec ((IntKind.i64.wrap (Int.tdiv v.1 (10 : Int))), (IntKind.i64.wrap (v.2.1 - (1 : Int))), t1, ())
    else none
  else
  k0 (v.2.2.1, ())
noncomputable def f75l0 {R : Type} (k : Nat) (k0 : List Int × Unit → Option R) (v : Int × Int × List Int × Unit) : Option R := iterS (fun rec v => f75l0s k rec k0 v) k v
noncomputable def f75l0S (k : Nat) : Sum1 := loopSum f75l0H f75l0N k (fun R rec K v => f75l0s k rec (fun w => K (.exit 0) (encSt f75l0X0 w)) v)
theorem f75l0E (k : Nat) (R : Type) (rec : St → Option R) (K : X → St → Option R) (v : f75l0H.Den) : evS tab (f75T k) Go.Proofs.Try.f75.ntmps [] (bodyOf f75l0C) 116 (bodyK f75l0N f75l0M rec K) (encSt f75l0H v) = f75l0s k (fun v => rec (encSt f75l0H v)) (fun w => K (.exit 0) (encSt f75l0X0 w)) v := by kernel_rfl
theorem f75l0I (k : Nat) : SumsOk P Go.Proofs.Try.f75.ntmps [] (bodyOf f75l0C) 116 := SumsOk.nil
theorem f75l0O (k : Nat) : SumOk P Go.Proofs.Try.f75.ntmps f75l0C (f75l0S k) := (show f75l0C = .loop (bodyOf f75l0C) by kernel_rfl) ▸ sum_loop tabOk (f75TS k) mixed (f75l0I k) (f75l0E k)
noncomputable def f75F (k : Nat) (x : Int × Int) : Option (List Int) :=
  bif (((decide ((0 : Int) ≤ x.2)) && (decide ((x.2 * 1) ≤ (140737488355328 : Int)))) && (decide (x.2 ≤ (281474976710656 : Int)))) then
  f75l0 k
    (fun (w2 : List Int × Unit) =>
      some w2.1)
    (x.1, (IntKind.i64.wrap (x.2 - (1 : Int))), (List.replicate (Int.toNat x.2) (0 : Int)), ())
  else none
noncomputable def f75L (k : Nat) : Sums := [(58, f75l0S k)]
theorem f75LS (k : Nat) : SumsOk P Go.Proofs.Try.f75.ntmps (f75L k) (codeOf Go.Proofs.Try.f75) 1 := (SumsOk.nil).cons (c := f75l0C) (by kernel_rfl) (f75l0O k)
theorem f75E (k : Nat) (x : Int × Int) : evFS tab (f75T k) (f75L k) Go.Proofs.Try.f75.ntmps Go.Proofs.Try.f75.results.toList (codeOf Go.Proofs.Try.f75) (argsV [.dat (.int .i64), .dat (.int .i64)] x) [.own 5 (.int .u8)] = f75F k x := by kernel_rfl
theorem f75Ok (k : Nat) (x : Int × Int) (y : List Int) (h : f75F k x = some y) : FnOk P 75 [.dat (.int .i64), .dat (.int .i64)] [.own 5 (.int .u8)] x y :=
  evFS_sound tabOk (f75TS k) mixed Go.Proofs.Try.func75 (c := codeOf Go.Proofs.Try.f75) (by kernel_rfl) (f75LS k) ((f75E k x).trans h)
/-! ## midrange/numeric.packed -/
noncomputable def f76T (k : Nat) : Table := []
theorem f76TS (k : Nat) : Sound P (f76T k) := Sound.nil
theorem f76B : HasBody P 76 := ⟨Go.Proofs.Try.f76, Go.Proofs.Try.func76, by kernel_rfl, by kernel_rfl⟩
noncomputable def f76l0H : Shape := ⟨[(0, .one (.ro (.int .u8))), (3, .one (.own 0)), (4, .one (.int .i64))], [(0, .row 5 (.int .u8) .plain)], 1⟩
noncomputable def f76l0X0 : Shape := ⟨[(3, .one (.own 0))], [(0, .row 5 (.int .u8) .plain)], 1⟩
noncomputable def f76l0N : NoteR := ⟨[0, 3, 4], [(3, 5, (.int .u8))], []⟩
noncomputable def f76l0M : NoteR := ⟨[2, 3], [], []⟩
noncomputable def f76l0C : Code := firstC (codesAt 58 (codeOf Go.Proofs.Try.f76) 1)
noncomputable def f76l0s {R : Type} (k : Nat) (rec : List Int × Int × List Int × Unit → Option R) (k0 : List Int × Unit → Option R) (v : List Int × Int × List Int × Unit) : Option R :=
  bif (decide (v.2.1 < (v.1.length : Int))) then
    bif ((decide ((0 : Int) ≤ v.2.1)) && (decide (v.2.1 < (v.1.length : Int)))) then
    bif ((decide ((0 : Int) ≤ (IntKind.i64.wrap (v.2.1 + (1 : Int))))) && (decide ((IntKind.i64.wrap (v.2.1 + (1 : Int))) < (v.1.length : Int)))) then
    let t1 := (v.1.getD (Int.toNat (IntKind.i64.wrap (v.2.1 + (1 : Int)))) (0 : Int))
    let t2 := (bits .or .u8 (shlI .u8 (v.1.getD (Int.toNat v.2.1) (0 : Int)) (4 : Int)) t1)
    bif (decide ((v.2.2.1.length + [t2].length) * 1 ≤ 140737488355328) && decide (v.2.2.1.length + [t2].length ≤ 9223372036854775807)) then
    rec (v.1, (IntKind.i64.wrap (v.2.1 + (2 : Int))), (v.2.2.1 ++ [t2]), ())
    else none
    else none
    else none
  else
  k0 (v.2.2.1, ())
noncomputable def f76l0 {R : Type} (k : Nat) (k0 : List Int × Unit → Option R) (v : List Int × Int × List Int × Unit) : Option R := iterS (fun rec v => f76l0s k rec k0 v) k v
noncomputable def f76l0S (k : Nat) : Sum1 := loopSum f76l0H f76l0N k (fun R rec K v => f76l0s k rec (fun w => K (.exit 0) (encSt f76l0X0 w)) v)
theorem f76l0E (k : Nat) (R : Type) (rec : St → Option R) (K : X → St → Option R) (v : f76l0H.Den) : evS tab (f76T k) Go.Proofs.Try.f76.ntmps [] (bodyOf f76l0C) 116 (bodyK f76l0N f76l0M rec K) (encSt f76l0H v) = f76l0s k (fun v => rec (encSt f76l0H v)) (fun w => K (.exit 0) (encSt f76l0X0 w)) v := by kernel_rfl
theorem f76l0I (k : Nat) : SumsOk P Go.Proofs.Try.f76.ntmps [] (bodyOf f76l0C) 116 := SumsOk.nil
theorem f76l0O (k : Nat) : SumOk P Go.Proofs.Try.f76.ntmps f76l0C (f76l0S k) := (show f76l0C = .loop (bodyOf f76l0C) by kernel_rfl) ▸ sum_loop tabOk (f76TS k) mixed (f76l0I k) (f76l0E k)
noncomputable def f76F (k : Nat) (x : (List Int)) : Option (ByteArray) :=
  f76l0 k
    (fun (w3 : List Int × Unit) =>
      some (strOfNums w3.1))
    (x, (0 : Int), [], ())
noncomputable def f76L (k : Nat) : Sums := [(58, f76l0S k)]
theorem f76LS (k : Nat) : SumsOk P Go.Proofs.Try.f76.ntmps (f76L k) (codeOf Go.Proofs.Try.f76) 1 := (SumsOk.nil).cons (c := f76l0C) (by kernel_rfl) (f76l0O k)
theorem f76E (k : Nat) (x : (List Int)) : evFS tab (f76T k) (f76L k) Go.Proofs.Try.f76.ntmps Go.Proofs.Try.f76.results.toList (codeOf Go.Proofs.Try.f76) (argsV [.dat (.slice (.int .u8))] x) [.dat .str] = f76F k x := by kernel_rfl
theorem f76Ok (k : Nat) (x : (List Int)) (y : ByteArray) (h : f76F k x = some y) : FnOk P 76 [.dat (.slice (.int .u8))] [.dat .str] x y :=
  evFS_sound tabOk (f76TS k) mixed Go.Proofs.Try.func76 (c := codeOf Go.Proofs.Try.f76) (by kernel_rfl) (f76LS k) ((f76E k x).trans h)
/-! ## midrange/numeric.size -/
noncomputable def f44T (k : Nat) : Table := []
theorem f44TS (k : Nat) : Sound P (f44T k) := Sound.nil
theorem f44B : HasBody P 44 := ⟨Go.Proofs.Try.f44, Go.Proofs.Try.func44, by kernel_rfl, by kernel_rfl⟩
noncomputable def f44F (k : Nat) (x : (Int × (Int × Int))) : Option (Int) :=
  bif (x.1 == (1 : Int)) then
    let t1 := (IntKind.i64.wrap ((IntKind.i64.wrap (Int.tdiv x.2.1 (2 : Int))) + (1 : Int)))
    some t1
  else
  bif (x.1 == (3 : Int)) then
    let t2 := (IntKind.i64.wrap ((IntKind.i64.wrap (Int.tdiv x.2.1 (9 : Int))) * (2 : Int)))
    some (IntKind.i64.wrap ((2 : Int) + t2))
  else
  bif (x.1 == (4 : Int)) then
    some (16 : Int)
  else
  some x.2.1
noncomputable def f44L (k : Nat) : Sums := []
theorem f44LS (k : Nat) : SumsOk P Go.Proofs.Try.f44.ntmps (f44L k) (codeOf Go.Proofs.Try.f44) 1 := SumsOk.nil
theorem f44E (k : Nat) (x : (Int × (Int × Int))) : evFS tab (f44T k) (f44L k) Go.Proofs.Try.f44.ntmps Go.Proofs.Try.f44.results.toList (codeOf Go.Proofs.Try.f44) (argsV [.agg (.pair (.int .i64) (.pair (.int .i64) (.int .i64)))] x) [.dat (.int .i64)] = f44F k x := by kernel_rfl
theorem f44Ok (k : Nat) (x : (Int × (Int × Int))) (y : Int) (h : f44F k x = some y) : FnOk P 44 [.agg (.pair (.int .i64) (.pair (.int .i64) (.int .i64)))] [.dat (.int .i64)] x y :=
  evFS_sound tabOk (f44TS k) mixed Go.Proofs.Try.func44 (c := codeOf Go.Proofs.Try.f44) (by kernel_rfl) (f44LS k) ((f44E k x).trans h)
/-! ## midrange/numeric.encoded -/
noncomputable def f40T (k : Nat) : Table := [(44, entFn [.agg (.pair (.int .i64) (.pair (.int .i64) (.int .i64)))] [.dat (.int .i64)] (f44F k)), (75, entFn [.dat (.int .i64), .dat (.int .i64)] [.own 5 (.int .u8)] (f75F k)), (76, entFn [.dat (.slice (.int .u8))] [.dat .str] (f76F k))]
theorem f40TS (k : Nat) : Sound P (f40T k) := (((Sound.nil).cons f76B (f76Ok k)).cons f75B (f75Ok k)).cons f44B (f44Ok k)
theorem f40B : HasBody P 40 := ⟨Go.Proofs.Try.f40, Go.Proofs.Try.func40, by kernel_rfl, by kernel_rfl⟩
noncomputable def f40l0H : Shape := ⟨[(3, .one (.ptr 0 0)), (5, .one (.own 1)), (25, .one (.int .i64)), (26, .one (.int .i64))], [(0, .var [.int .i64, .str]), (1, .row 5 (.int .u8) .plain)], 2⟩
noncomputable def f40l0X0 : Shape := ⟨[(3, .one (.ptr 0 0)), (5, .one (.own 1))], [(0, .var [.int .i64, .str]), (1, .row 5 (.int .u8) .plain)], 2⟩
noncomputable def f40l0N : NoteR := ⟨[3, 5, 25, 26], [], []⟩
noncomputable def f40l0M : NoteR := ⟨[3, 4, 5], [], []⟩
noncomputable def f40l0C : Code := firstC (codesAt 1874 (codeOf Go.Proofs.Try.f40) 1)
noncomputable def f40l0s {R : Type} (k : Nat) (rec : Int × Int × Int × ByteArray × List Int × Unit → Option R) (k0 : Int × ByteArray × List Int × Unit → Option R) (v : Int × Int × Int × ByteArray × List Int × Unit) : Option R :=
  bif (decide (v.2.1 < v.1)) then
    bif ((decide ((0 : Int) ≤ v.2.1)) && (decide (v.2.1 < (v.2.2.2.2.1.length : Int)))) then
    let t2 := (IntKind.u8.wrap ((v.2.2.2.2.1.getD (Int.toNat v.2.1) (0 : Int)) + (240 : Int)))
    bif ((decide ((0 : Int) ≤ v.2.1)) && (decide (v.2.1 < (v.2.2.2.2.1.length : Int)))) then
    rec (v.1, (IntKind.i64.wrap (v.2.1 + (1 : Int))), v.2.2.1, v.2.2.2.1, (v.2.2.2.2.1.set (Int.toNat v.2.1) t2), ())
    else none
    else none
  else
  k0 (v.2.2.1, v.2.2.2.1, v.2.2.2.2.1, ())
noncomputable def f40l0 {R : Type} (k : Nat) (k0 : Int × ByteArray × List Int × Unit → Option R) (v : Int × Int × Int × ByteArray × List Int × Unit) : Option R := iterS (fun rec v => f40l0s k rec k0 v) k v
noncomputable def f40l0S (k : Nat) : Sum1 := loopSum f40l0H f40l0N k (fun R rec K v => f40l0s k rec (fun w => K (.exit 1) (encSt f40l0X0 w)) v)
theorem f40l0E (k : Nat) (R : Type) (rec : St → Option R) (K : X → St → Option R) (v : f40l0H.Den) : evS tab (f40T k) Go.Proofs.Try.f40.ntmps [] (bodyOf f40l0C) 3748 (bodyK f40l0N f40l0M rec K) (encSt f40l0H v) = f40l0s k (fun v => rec (encSt f40l0H v)) (fun w => K (.exit 1) (encSt f40l0X0 w)) v := by kernel_rfl
theorem f40l0I (k : Nat) : SumsOk P Go.Proofs.Try.f40.ntmps [] (bodyOf f40l0C) 3748 := SumsOk.nil
theorem f40l0O (k : Nat) : SumOk P Go.Proofs.Try.f40.ntmps f40l0C (f40l0S k) := (show f40l0C = .loop (bodyOf f40l0C) by kernel_rfl) ▸ sum_loop tabOk (f40TS k) mixed (f40l0I k) (f40l0E k)
noncomputable def f40p1H : Shape := ⟨[(3, .one (.ptr 0 0)), (5, .one (.own 1))], [(0, .var [.int .i64, .str]), (1, .row 5 (.int .u8) .plain)], 2⟩
noncomputable def f40p1X0 : Shape := ⟨[(3, .one (.ptr 0 0)), (5, .one (.own 1))], [(0, .var [.int .i64, .str]), (1, .row 5 (.int .u8) .plain)], 2⟩
noncomputable def f40p1N : NoteR := ⟨[3, 5], [], []⟩
noncomputable def f40p1M : NoteR := ⟨[3, 4, 5, 8], [], []⟩
noncomputable def f40p1C : Code := firstC (codesAt 938 (codeOf Go.Proofs.Try.f40) 1)
noncomputable def f40p1 {R : Type} (k : Nat) (k0 : Int × ByteArray × List Int × Unit → Option R) (v : Int × ByteArray × List Int × Unit) : Option R :=
  bif (decide (v.1 < (0 : Int))) then
    bif ((decide ((0 : Int) ≤ (IntKind.i64.wrap ((v.2.2.1.length : Int) - (1 : Int))))) && (decide ((IntKind.i64.wrap ((v.2.2.1.length : Int) - (1 : Int))) < (v.2.2.1.length : Int)))) then
    let t4 := (v.2.2.1.getD (Int.toNat (IntKind.i64.wrap ((v.2.2.1.length : Int) - (1 : Int)))) (0 : Int))
    bif ((decide ((0 : Int) ≤ (IntKind.i64.wrap ((v.2.2.1.length : Int) - (1 : Int))))) && (decide ((IntKind.i64.wrap ((v.2.2.1.length : Int) - (1 : Int))) < (v.2.2.1.length : Int)))) then
    let t5 := (v.2.2.1.set (Int.toNat (IntKind.i64.wrap ((v.2.2.1.length : Int) - (1 : Int)))) (IntKind.u8.wrap (t4 - (32 : Int))))
    k0 (v.1, v.2.1, t5, ())
    else none
    else none
  else
  k0 (v.1, v.2.1, v.2.2.1, ())
noncomputable def f40p1S (k : Nat) : Sum1 := partSum f40p1H f40p1N (fun R K v => f40p1 k (fun w => K .normal (encSt f40p1X0 w)) v)
theorem f40p1E (k : Nat) (R : Type) (K : X → St → Option R) (v : f40p1H.Den) : evS tab (f40T k) Go.Proofs.Try.f40.ntmps [] f40p1C 938 (partK f40p1M K) (encSt f40p1H v) = f40p1 k (fun w => K .normal (encSt f40p1X0 w)) v := by kernel_rfl
theorem f40p1I (k : Nat) : SumsOk P Go.Proofs.Try.f40.ntmps [] f40p1C 938 := SumsOk.nil
theorem f40p1O (k : Nat) : SumOk P Go.Proofs.Try.f40.ntmps f40p1C (f40p1S k) := sum_part tabOk (f40TS k) mixed (f40p1I k) (f40p1E k)
noncomputable def f40p2H : Shape := ⟨[(3, .one (.ptr 0 0)), (5, .one (.own 1)), (7, .one (.int .u8))], [(0, .var [.int .i64, .str]), (1, .row 5 (.int .u8) .plain)], 2⟩
noncomputable def f40p2X0 : Shape := ⟨[(3, .one (.ptr 0 0)), (5, .one (.own 1)), (7, .one (.int .u8))], [(0, .var [.int .i64, .str]), (1, .row 5 (.int .u8) .plain)], 2⟩
noncomputable def f40p2N : NoteR := ⟨[3, 5, 7], [], []⟩
noncomputable def f40p2M : NoteR := ⟨[3, 4, 5, 7, 8], [], []⟩
noncomputable def f40p2C : Code := firstC (codesAt 3770 (codeOf Go.Proofs.Try.f40) 1)
noncomputable def f40p2 {R : Type} (k : Nat) (k0 : Int × Int × ByteArray × List Int × Unit → Option R) (v : Int × Int × ByteArray × List Int × Unit) : Option R :=
  bif (decide (v.2.1 < (0 : Int))) then
    k0 ((13 : Int), v.2.1, v.2.2.1, v.2.2.2.1, ())
  else
  k0 (v.1, v.2.1, v.2.2.1, v.2.2.2.1, ())
noncomputable def f40p2S (k : Nat) : Sum1 := partSum f40p2H f40p2N (fun R K v => f40p2 k (fun w => K .normal (encSt f40p2X0 w)) v)
theorem f40p2E (k : Nat) (R : Type) (K : X → St → Option R) (v : f40p2H.Den) : evS tab (f40T k) Go.Proofs.Try.f40.ntmps [] f40p2C 3770 (partK f40p2M K) (encSt f40p2H v) = f40p2 k (fun w => K .normal (encSt f40p2X0 w)) v := by kernel_rfl
theorem f40p2I (k : Nat) : SumsOk P Go.Proofs.Try.f40.ntmps [] f40p2C 3770 := SumsOk.nil
theorem f40p2O (k : Nat) : SumOk P Go.Proofs.Try.f40.ntmps f40p2C (f40p2S k) := sum_part tabOk (f40TS k) mixed (f40p2I k) (f40p2E k)
noncomputable def f40p3H : Shape := ⟨[(5, .one (.own 0)), (7, .one (.int .u8))], [(0, .row 5 (.int .u8) .plain)], 1⟩
noncomputable def f40p3X0 : Shape := ⟨[(5, .one (.own 0)), (7, .one (.int .u8))], [(0, .row 5 (.int .u8) .plain)], 1⟩
noncomputable def f40p3N : NoteR := ⟨[5, 7], [], []⟩
noncomputable def f40p3M : NoteR := ⟨[3, 4, 5, 7, 8], [], []⟩
noncomputable def f40p3C : Code := firstC (codesAt 7542 (codeOf Go.Proofs.Try.f40) 1)
noncomputable def f40p3 {R : Type} (k : Nat) (k0 : Int × List Int × Unit → Option R) (v : Int × List Int × Unit) : Option R :=
  bif ((Int.tmod (v.2.1.length : Int) (2 : Int)) == (0 : Int)) then
    bif (decide (([(0 : Int)].length + v.2.1.length) * 1 ≤ 140737488355328) && decide ([(0 : Int)].length + v.2.1.length ≤ 9223372036854775807)) then
    k0 (v.1, ([(0 : Int)] ++ v.2.1), ())
    else none
  else
  k0 (v.1, v.2.1, ())
noncomputable def f40p3S (k : Nat) : Sum1 := partSum f40p3H f40p3N (fun R K v => f40p3 k (fun w => K .normal (encSt f40p3X0 w)) v)
theorem f40p3E (k : Nat) (R : Type) (K : X → St → Option R) (v : f40p3H.Den) : evS tab (f40T k) Go.Proofs.Try.f40.ntmps [] f40p3C 7542 (partK f40p3M K) (encSt f40p3H v) = f40p3 k (fun w => K .normal (encSt f40p3X0 w)) v := by kernel_rfl
theorem f40p3I (k : Nat) : SumsOk P Go.Proofs.Try.f40.ntmps [] f40p3C 7542 := SumsOk.nil
theorem f40p3O (k : Nat) : SumOk P Go.Proofs.Try.f40.ntmps f40p3C (f40p3S k) := sum_part tabOk (f40TS k) mixed (f40p3I k) (f40p3E k)
noncomputable def f40l4H : Shape := ⟨[(8, .one (.own 0)), (9, .one (.int .i64)), (10, .one (.int .i64))], [(0, .row 5 (.int .u8) .plain)], 1⟩
noncomputable def f40l4X0 : Shape := ⟨[(8, .one (.own 0))], [(0, .row 5 (.int .u8) .plain)], 1⟩
noncomputable def f40l4N : NoteR := ⟨[8, 9, 10], [], []⟩
noncomputable def f40l4M : NoteR := ⟨[3, 4, 8], [], []⟩
noncomputable def f40l4C : Code := firstC (codesAt 60394 (codeOf Go.Proofs.Try.f40) 1)
noncomputable def f40l4s {R : Type} (k : Nat) (rec : Int × Int × List Int × Unit → Option R) (k0 : List Int × Unit → Option R) (v : Int × Int × List Int × Unit) : Option R :=
  bif (decide (v.1 ≥ (0 : Int))) then
    bif ((decide ((0 : Int) ≤ v.1)) && (decide (v.1 < (v.2.2.1.length : Int)))) then
    rec ((IntKind.i64.wrap (v.1 - (1 : Int))), (shrI .i64 v.2.1 (8 : Int)), (v.2.2.1.set (Int.toNat v.1) (IntKind.u8.wrap v.2.1)), ())
    else none
  else
  k0 (v.2.2.1, ())
noncomputable def f40l4 {R : Type} (k : Nat) (k0 : List Int × Unit → Option R) (v : Int × Int × List Int × Unit) : Option R := iterS (fun rec v => f40l4s k rec k0 v) k v
noncomputable def f40l4S (k : Nat) : Sum1 := loopSum f40l4H f40l4N k (fun R rec K v => f40l4s k rec (fun w => K (.exit 3) (encSt f40l4X0 w)) v)
theorem f40l4E (k : Nat) (R : Type) (rec : St → Option R) (K : X → St → Option R) (v : f40l4H.Den) : evS tab (f40T k) Go.Proofs.Try.f40.ntmps [] (bodyOf f40l4C) 120788 (bodyK f40l4N f40l4M rec K) (encSt f40l4H v) = f40l4s k (fun v => rec (encSt f40l4H v)) (fun w => K (.exit 3) (encSt f40l4X0 w)) v := by kernel_rfl
theorem f40l4I (k : Nat) : SumsOk P Go.Proofs.Try.f40.ntmps [] (bodyOf f40l4C) 120788 := SumsOk.nil
theorem f40l4O (k : Nat) : SumOk P Go.Proofs.Try.f40.ntmps f40l4C (f40l4S k) := (show f40l4C = .loop (bodyOf f40l4C) by kernel_rfl) ▸ sum_loop tabOk (f40TS k) mixed (f40l4I k) (f40l4E k)
noncomputable def f40F (k : Nat) (x : (Int × (Int × Int)) × (Int × ByteArray)) : Option (ByteArray) :=
  Option.bind (f75F k ((mxI x.2.1 (IntKind.i64.wrap (0 - x.2.1))), x.1.2.1)) fun y1 =>
  bif (x.1.1 == (2 : Int)) then
    f40l0 k
      (fun (w3 : Int × ByteArray × List Int × Unit) =>
        f40p1 k
          (fun (w6 : Int × ByteArray × List Int × Unit) =>
            some (strOfNums w6.2.2.1))
          (w3.1, w3.2.1, w3.2.2.1, ()))
      ((y1.length : Int), (0 : Int), x.2.1, x.2.2, y1, ())
  else
  bif (x.1.1 == (1 : Int)) then
    f40p2 k
      (fun (w7 : Int × Int × ByteArray × List Int × Unit) =>
        f40p3 k
          (fun (w8 : Int × List Int × Unit) =>
            bif (decide ((w8.2.1.length + [w8.1].length) * 1 ≤ 140737488355328) && decide (w8.2.1.length + [w8.1].length ≤ 9223372036854775807)) then
            Option.bind (f76F k (w8.2.1 ++ [w8.1])) fun y9 =>
            some y9
            else none)
          (w7.1, w7.2.2.2.1, ()))
      ((15 : Int), x.2.1, x.2.2, y1, ())
  else
  bif (x.1.1 == (3 : Int)) then
    Option.bind (f44F k (x.1.1, (x.1.2.1, x.1.2.2))) fun y10 =>
    bif (((decide ((0 : Int) ≤ y10)) && (decide ((y10 * 1) ≤ (140737488355328 : Int)))) && (decide (y10 ≤ (281474976710656 : Int)))) then
    let t11 := (IntKind.i64.wrap (((List.replicate (Int.toNat y10) (0 : Int)).length : Int) - (1 : Int)))
    f40l4 k
      (fun (w12 : List Int × Unit) =>
        some (strOfNums w12.1))
      (t11, x.2.1, (List.replicate (Int.toNat y10) (0 : Int)), ())
    else none
  else
  some x.2.2
noncomputable def f40L (k : Nat) : Sums := [(1874, f40l0S k), (938, f40p1S k), (3770, f40p2S k), (7542, f40p3S k), (60394, f40l4S k)]
theorem f40LS (k : Nat) : SumsOk P Go.Proofs.Try.f40.ntmps (f40L k) (codeOf Go.Proofs.Try.f40) 1 := (((((SumsOk.nil).cons (c := f40l4C) (by kernel_rfl) (f40l4O k)).cons (c := f40p3C) (by kernel_rfl) (f40p3O k)).cons (c := f40p2C) (by kernel_rfl) (f40p2O k)).cons (c := f40p1C) (by kernel_rfl) (f40p1O k)).cons (c := f40l0C) (by kernel_rfl) (f40l0O k)
theorem f40E (k : Nat) (x : (Int × (Int × Int)) × (Int × ByteArray)) : evFS tab (f40T k) (f40L k) Go.Proofs.Try.f40.ntmps Go.Proofs.Try.f40.results.toList (codeOf Go.Proofs.Try.f40) (argsV [.agg (.pair (.int .i64) (.pair (.int .i64) (.int .i64))), .agg (.pair (.int .i64) .str)] x) [.dat .str] = f40F k x := by kernel_rfl
theorem f40Ok (k : Nat) (x : (Int × (Int × Int)) × (Int × ByteArray)) (y : ByteArray) (h : f40F k x = some y) : FnOk P 40 [.agg (.pair (.int .i64) (.pair (.int .i64) (.int .i64))), .agg (.pair (.int .i64) .str)] [.dat .str] x y :=
  evFS_sound tabOk (f40TS k) mixed Go.Proofs.Try.func40 (c := codeOf Go.Proofs.Try.f40) (by kernel_rfl) (f40LS k) ((f40E k x).trans h)
/-! ## midrange/numeric.Encode -/
noncomputable def f14T (k : Nat) : Table := [(29, entFn [.agg (.pair (.int .i64) (.pair (.int .i64) (.int .i64))), .agg (.pair (.int .i64) .str)] [.dat (.int .i64)] (f29F k)), (40, entFn [.agg (.pair (.int .i64) (.pair (.int .i64) (.int .i64))), .agg (.pair (.int .i64) .str)] [.dat .str] (f40F k))]
theorem f14TS (k : Nat) : Sound P (f14T k) := ((Sound.nil).cons f40B (f40Ok k)).cons f29B (f29Ok k)
theorem f14B : HasBody P 14 := ⟨Go.Proofs.Try.f14, Go.Proofs.Try.func14, by kernel_rfl, by kernel_rfl⟩
noncomputable def f14F (k : Nat) (x : (Int × (Int × Int)) × (Int × ByteArray)) : Option (ByteArray × Int) :=
  Option.bind (f29F k ((x.1.1, (x.1.2.1, x.1.2.2)), (x.2.1, x.2.2))) fun y1 =>
  bif (y1 != (0 : Int)) then
    some (ByteArray.empty, y1)
  else
  Option.bind (f40F k ((x.1.1, (x.1.2.1, x.1.2.2)), (x.2.1, x.2.2))) fun y2 =>
  some (y2, (0 : Int))
noncomputable def f14L (k : Nat) : Sums := []
theorem f14LS (k : Nat) : SumsOk P Go.Proofs.Try.f14.ntmps (f14L k) (codeOf Go.Proofs.Try.f14) 1 := SumsOk.nil
theorem f14E (k : Nat) (x : (Int × (Int × Int)) × (Int × ByteArray)) : evFS tab (f14T k) (f14L k) Go.Proofs.Try.f14.ntmps Go.Proofs.Try.f14.results.toList (codeOf Go.Proofs.Try.f14) (argsV [.agg (.pair (.int .i64) (.pair (.int .i64) (.int .i64))), .agg (.pair (.int .i64) .str)] x) [.dat .str, .dat (.int .i64)] = f14F k x := by kernel_rfl
theorem f14Ok (k : Nat) (x : (Int × (Int × Int)) × (Int × ByteArray)) (y : ByteArray × Int) (h : f14F k x = some y) : FnOk P 14 [.agg (.pair (.int .i64) (.pair (.int .i64) (.int .i64))), .agg (.pair (.int .i64) .str)] [.dat .str, .dat (.int .i64)] x y :=
  evFS_sound tabOk (f14TS k) mixed Go.Proofs.Try.func14 (c := codeOf Go.Proofs.Try.f14) (by kernel_rfl) (f14LS k) ((f14E k x).trans h)
/-! ## midrange/numeric.binary -/
noncomputable def f45T (k : Nat) : Table := []
theorem f45TS (k : Nat) : Sound P (f45T k) := Sound.nil
theorem f45B : HasBody P 45 := ⟨Go.Proofs.Try.f45, Go.Proofs.Try.func45, by kernel_rfl, by kernel_rfl⟩
noncomputable def f45l0H : Shape := ⟨[(3, .one (.int .i64)), (12, .one (.own 0)), (13, .one (.int .i64)), (14, .one (.int .i64))], [(0, .row 5 (.int .u8) .mark)], 1⟩
noncomputable def f45l0X0 : Shape := ⟨[(3, .one (.int .i64))], [], 0⟩
noncomputable def f45l0N : NoteR := ⟨[3, 12, 13, 14], [], []⟩
noncomputable def f45l0M : NoteR := ⟨[2, 3], [], []⟩
noncomputable def f45l0C : Code := firstC (codesAt 58 (codeOf Go.Proofs.Try.f45) 1)
noncomputable def f45l0s {R : Type} (k : Nat) (rec : Int × Int × Int × List Int × Unit → Option R) (k0 : Int × Unit → Option R) (v : Int × Int × Int × List Int × Unit) : Option R :=
  bif (decide (v.2.2.1 < v.2.1)) then
    bif ((decide ((0 : Int) ≤ v.2.2.1)) && (decide (v.2.2.1 < (v.2.2.2.1.length : Int)))) then
    let t1 := (bits .or .i64 (shlI .i64 v.1 (8 : Int)) (IntKind.i64.wrap (v.2.2.2.1.getD (Int.toNat v.2.2.1) (0 : Int))))
    rec (t1, v.2.1, (IntKind.i64.wrap (v.2.2.1 + (1 : Int))), v.2.2.2.1, ())
    else none
  else
  k0 (v.1, ())
noncomputable def f45l0 {R : Type} (k : Nat) (k0 : Int × Unit → Option R) (v : Int × Int × Int × List Int × Unit) : Option R := iterS (fun rec v => f45l0s k rec k0 v) k v
noncomputable def f45l0S (k : Nat) : Sum1 := loopSum f45l0H f45l0N k (fun R rec K v => f45l0s k rec (fun w => K (.exit 0) (encSt f45l0X0 w)) v)
theorem f45l0E (k : Nat) (R : Type) (rec : St → Option R) (K : X → St → Option R) (v : f45l0H.Den) : evS tab (f45T k) Go.Proofs.Try.f45.ntmps [] (bodyOf f45l0C) 116 (bodyK f45l0N f45l0M rec K) (encSt f45l0H v) = f45l0s k (fun v => rec (encSt f45l0H v)) (fun w => K (.exit 0) (encSt f45l0X0 w)) v := by kernel_rfl
theorem f45l0I (k : Nat) : SumsOk P Go.Proofs.Try.f45.ntmps [] (bodyOf f45l0C) 116 := SumsOk.nil
theorem f45l0O (k : Nat) : SumOk P Go.Proofs.Try.f45.ntmps f45l0C (f45l0S k) := (show f45l0C = .loop (bodyOf f45l0C) by kernel_rfl) ▸ sum_loop tabOk (f45TS k) mixed (f45l0I k) (f45l0E k)
noncomputable def f45F (k : Nat) (x : ByteArray) : Option (Int) :=
  bif (decide ((0 : Int) < (x.size : Int))) then
  bif (sliceBds (1 : Int) (x.size : Int) (x.size : Int)) then
  bif (decide ((x.extract 1 (Int.toNat (x.size : Int))).size ≤ 9223372036854775807)) then
  f45l0 k
    (fun (w2 : Int × Unit) =>
      some w2.1)
    ((IntKind.i64.wrap (IntKind.i8.wrap (bt x (0 : Int)))), ((bytesOf (x.extract 1 (Int.toNat (x.size : Int)))).length : Int), (0 : Int), (bytesOf (x.extract 1 (Int.toNat (x.size : Int)))), ())
  else none
  else none
  else none
noncomputable def f45L (k : Nat) : Sums := [(58, f45l0S k)]
theorem f45LS (k : Nat) : SumsOk P Go.Proofs.Try.f45.ntmps (f45L k) (codeOf Go.Proofs.Try.f45) 1 := (SumsOk.nil).cons (c := f45l0C) (by kernel_rfl) (f45l0O k)
theorem f45E (k : Nat) (x : ByteArray) : evFS tab (f45T k) (f45L k) Go.Proofs.Try.f45.ntmps Go.Proofs.Try.f45.results.toList (codeOf Go.Proofs.Try.f45) (argsV [.dat .str] x) [.dat (.int .i64)] = f45F k x := by kernel_rfl
theorem f45Ok (k : Nat) (x : ByteArray) (y : Int) (h : f45F k x = some y) : FnOk P 45 [.dat .str] [.dat (.int .i64)] x y :=
  evFS_sound tabOk (f45TS k) mixed Go.Proofs.Try.func45 (c := codeOf Go.Proofs.Try.f45) (by kernel_rfl) (f45LS k) ((f45E k x).trans h)
/-! ## midrange/numeric.halves -/
noncomputable def f80T (k : Nat) : Table := []
theorem f80TS (k : Nat) : Sound P (f80T k) := Sound.nil
theorem f80B : HasBody P 80 := ⟨Go.Proofs.Try.f80, Go.Proofs.Try.func80, by kernel_rfl, by kernel_rfl⟩
noncomputable def f80p0H : Shape := ⟨[(1, .one (.str)), (2, .one (.ptr 0 0)), (4, .one (.own 1)), (5, .one (.own 2)), (10, .one (.int .i64)), (11, .one (.int .i64))], [(0, .var [.int .i64, .int .i64, .int .i64]), (1, .row 5 (.int .u8) .plain), (2, .row 3 (.int .i64) .plain)], 3⟩
noncomputable def f80p0X0 : Shape := ⟨[(1, .one (.str)), (2, .one (.ptr 0 0)), (4, .one (.own 1)), (5, .one (.own 2)), (10, .one (.int .i64)), (11, .one (.int .i64))], [(0, .var [.int .i64, .int .i64, .int .i64]), (1, .row 5 (.int .u8) .plain), (2, .row 3 (.int .i64) .plain)], 3⟩
noncomputable def f80p0N : NoteR := ⟨[1, 2, 4, 5, 10, 11], [], []⟩
noncomputable def f80p0M : NoteR := ⟨[1, 2, 4, 5, 10, 11], [], []⟩
noncomputable def f80p0C : Code := firstC (codesAt 422 (codeOf Go.Proofs.Try.f80) 1)
noncomputable def f80p0 {R : Type} (k : Nat) (k0 : ByteArray × Int × Int × Int × Int × Int × List Int × List Int × Unit → Option R) (v : ByteArray × Int × Int × Int × Int × Int × List Int × List Int × Unit) : Option R :=
  bif ((decide ((0 : Int) ≤ v.2.2.1)) && (decide (v.2.2.1 < (v.1.size : Int)))) then
  bif ((decide ((0 : Int) ≤ v.2.2.1)) && (decide (v.2.2.1 < (v.1.size : Int)))) then
  bif (v.2.2.2.1 == (1 : Int)) then
    let t1 := [(shrI .u8 (bt v.1 v.2.2.1) (4 : Int)), (bits .and .u8 (bt v.1 v.2.2.1) (15 : Int))]
    bif (decide ((v.2.2.2.2.2.2.1.length + t1.length) * 1 ≤ 140737488355328) && decide (v.2.2.2.2.2.2.1.length + t1.length ≤ 9223372036854775807)) then
    bif (decide ((v.2.2.2.2.2.2.2.1.length + [v.2.2.1, v.2.2.1].length) * 8 ≤ 140737488355328) && decide (v.2.2.2.2.2.2.2.1.length + [v.2.2.1, v.2.2.1].length ≤ 9223372036854775807)) then
    k0 (v.1, v.2.1, v.2.2.1, v.2.2.2.1, v.2.2.2.2.1, v.2.2.2.2.2.1, (v.2.2.2.2.2.2.1 ++ t1), (v.2.2.2.2.2.2.2.1 ++ [v.2.2.1, v.2.2.1]), ())
    else none
    else none
  else
  bif (decide ((v.2.2.2.2.2.2.1.length + [(bits .and .u8 (bt v.1 v.2.2.1) (15 : Int))].length) * 1 ≤ 140737488355328) && decide (v.2.2.2.2.2.2.1.length + [(bits .and .u8 (bt v.1 v.2.2.1) (15 : Int))].length ≤ 9223372036854775807)) then
  bif (decide ((v.2.2.2.2.2.2.2.1.length + [v.2.2.1].length) * 8 ≤ 140737488355328) && decide (v.2.2.2.2.2.2.2.1.length + [v.2.2.1].length ≤ 9223372036854775807)) then
  k0 (v.1, v.2.1, v.2.2.1, v.2.2.2.1, v.2.2.2.2.1, v.2.2.2.2.2.1, (v.2.2.2.2.2.2.1 ++ [(bits .and .u8 (bt v.1 v.2.2.1) (15 : Int))]), (v.2.2.2.2.2.2.2.1 ++ [v.2.2.1]), ())
  else none
  else none
  else none
  else none
noncomputable def f80p0S (k : Nat) : Sum1 := partSum f80p0H f80p0N (fun R K v => f80p0 k (fun w => K .normal (encSt f80p0X0 w)) v)
theorem f80p0E (k : Nat) (R : Type) (K : X → St → Option R) (v : f80p0H.Den) : evS tab (f80T k) Go.Proofs.Try.f80.ntmps [] f80p0C 422 (partK f80p0M K) (encSt f80p0H v) = f80p0 k (fun w => K .normal (encSt f80p0X0 w)) v := by kernel_rfl
theorem f80p0I (k : Nat) : SumsOk P Go.Proofs.Try.f80.ntmps [] f80p0C 422 := SumsOk.nil
theorem f80p0O (k : Nat) : SumOk P Go.Proofs.Try.f80.ntmps f80p0C (f80p0S k) := sum_part tabOk (f80TS k) mixed (f80p0I k) (f80p0E k)
noncomputable def f80l1H : Shape := ⟨[(1, .one (.str)), (2, .one (.ptr 0 0)), (4, .one (.own 1)), (5, .one (.own 2)), (10, .one (.int .i64)), (11, .one (.int .i64))], [(0, .var [.int .i64, .int .i64, .int .i64]), (1, .row 5 (.int .u8) .plain), (2, .row 3 (.int .i64) .plain)], 3⟩
noncomputable def f80l1X0 : Shape := ⟨[(1, .one (.str)), (2, .one (.ptr 0 0)), (4, .one (.own 1)), (5, .one (.own 2))], [(0, .var [.int .i64, .int .i64, .int .i64]), (1, .row 5 (.int .u8) .plain), (2, .row 3 (.int .i64) .plain)], 3⟩
noncomputable def f80l1N : NoteR := ⟨[1, 2, 4, 5, 10, 11], [(4, 5, (.int .u8)), (5, 3, (.int .i64))], []⟩
noncomputable def f80l1M : NoteR := ⟨[1, 2, 4, 5], [], []⟩
noncomputable def f80l1C : Code := firstC (codesAt 26 (codeOf Go.Proofs.Try.f80) 1)
noncomputable def f80l1s {R : Type} (k : Nat) (rec : ByteArray × Int × Int × Int × Int × Int × List Int × List Int × Unit → Option R) (k0 : ByteArray × Int × Int × Int × List Int × List Int × Unit → Option R) (v : ByteArray × Int × Int × Int × Int × Int × List Int × List Int × Unit) : Option R :=
  bif (decide (v.2.2.1 < v.2.1)) then
    f80p0 k
      (fun (w2 : ByteArray × Int × Int × Int × Int × Int × List Int × List Int × Unit) =>
        rec (w2.1, w2.2.1, (IntKind.i64.wrap (w2.2.2.1 + (1 : Int))), w2.2.2.2.1, w2.2.2.2.2.1, w2.2.2.2.2.2.1, w2.2.2.2.2.2.2.1, w2.2.2.2.2.2.2.2.1, ()))
      (v.1, v.2.1, v.2.2.1, v.2.2.2.1, v.2.2.2.2.1, v.2.2.2.2.2.1, v.2.2.2.2.2.2.1, v.2.2.2.2.2.2.2.1, ())
  else
  k0 (v.1, v.2.2.2.1, v.2.2.2.2.1, v.2.2.2.2.2.1, v.2.2.2.2.2.2.1, v.2.2.2.2.2.2.2.1, ())
noncomputable def f80l1 {R : Type} (k : Nat) (k0 : ByteArray × Int × Int × Int × List Int × List Int × Unit → Option R) (v : ByteArray × Int × Int × Int × Int × Int × List Int × List Int × Unit) : Option R := iterS (fun rec v => f80l1s k rec k0 v) k v
noncomputable def f80l1S (k : Nat) : Sum1 := loopSum f80l1H f80l1N k (fun R rec K v => f80l1s k rec (fun w => K (.exit 0) (encSt f80l1X0 w)) v)
theorem f80l1E (k : Nat) (R : Type) (rec : St → Option R) (K : X → St → Option R) (v : f80l1H.Den) : evS tab (f80T k) Go.Proofs.Try.f80.ntmps [(422, f80p0S k)] (bodyOf f80l1C) 52 (bodyK f80l1N f80l1M rec K) (encSt f80l1H v) = f80l1s k (fun v => rec (encSt f80l1H v)) (fun w => K (.exit 0) (encSt f80l1X0 w)) v := by kernel_rfl
theorem f80l1I (k : Nat) : SumsOk P Go.Proofs.Try.f80.ntmps [(422, f80p0S k)] (bodyOf f80l1C) 52 := (SumsOk.nil).cons (c := f80p0C) (by kernel_rfl) (f80p0O k)
theorem f80l1O (k : Nat) : SumOk P Go.Proofs.Try.f80.ntmps f80l1C (f80l1S k) := (show f80l1C = .loop (bodyOf f80l1C) by kernel_rfl) ▸ sum_loop tabOk (f80TS k) mixed (f80l1I k) (f80l1E k)
noncomputable def f80p2H : Shape := ⟨[(1, .one (.str)), (2, .one (.ptr 0 0)), (4, .one (.own 1)), (5, .one (.own 2))], [(0, .var [.int .i64, .int .i64, .int .i64]), (1, .row 5 (.int .u8) .plain), (2, .row 3 (.int .i64) .plain)], 3⟩
noncomputable def f80p2X0 : Shape := ⟨[(1, .one (.str)), (2, .one (.ptr 0 0)), (4, .one (.own 1)), (5, .one (.own 2))], [(0, .var [.int .i64, .int .i64, .int .i64]), (1, .row 5 (.int .u8) .plain), (2, .row 3 (.int .i64) .plain)], 3⟩
noncomputable def f80p2N : NoteR := ⟨[1, 2, 4, 5], [], []⟩
noncomputable def f80p2M : NoteR := ⟨[1, 2, 4, 5], [], []⟩
noncomputable def f80p2C : Code := firstC (codesAt 14 (codeOf Go.Proofs.Try.f80) 1)
noncomputable def f80p2 {R : Type} (k : Nat) (k0 : ByteArray × Int × Int × Int × List Int × List Int × Unit → Option R) (v : ByteArray × Int × Int × Int × List Int × List Int × Unit) : Option R :=
  bif (v.2.1 == (2 : Int)) then
    bif ((decide ((0 : Int) ≤ (IntKind.i64.wrap ((v.1.size : Int) - (1 : Int))))) && (decide ((IntKind.i64.wrap ((v.1.size : Int) - (1 : Int))) < (v.1.size : Int)))) then
    let t4 := (shrI .u8 (bt v.1 (IntKind.i64.wrap ((v.1.size : Int) - (1 : Int)))) (4 : Int))
    bif (decide ((v.2.2.2.2.1.length + [t4].length) * 1 ≤ 140737488355328) && decide (v.2.2.2.2.1.length + [t4].length ≤ 9223372036854775807)) then
    bif (decide ((v.2.2.2.2.2.1.length + [(IntKind.i64.wrap ((v.1.size : Int) - (1 : Int)))].length) * 8 ≤ 140737488355328) && decide (v.2.2.2.2.2.1.length + [(IntKind.i64.wrap ((v.1.size : Int) - (1 : Int)))].length ≤ 9223372036854775807)) then
    k0 (v.1, v.2.1, v.2.2.1, v.2.2.2.1, (v.2.2.2.2.1 ++ [t4]), (v.2.2.2.2.2.1 ++ [(IntKind.i64.wrap ((v.1.size : Int) - (1 : Int)))]), ())
    else none
    else none
    else none
  else
  k0 (v.1, v.2.1, v.2.2.1, v.2.2.2.1, v.2.2.2.2.1, v.2.2.2.2.2.1, ())
noncomputable def f80p2S (k : Nat) : Sum1 := partSum f80p2H f80p2N (fun R K v => f80p2 k (fun w => K .normal (encSt f80p2X0 w)) v)
theorem f80p2E (k : Nat) (R : Type) (K : X → St → Option R) (v : f80p2H.Den) : evS tab (f80T k) Go.Proofs.Try.f80.ntmps [] f80p2C 14 (partK f80p2M K) (encSt f80p2H v) = f80p2 k (fun w => K .normal (encSt f80p2X0 w)) v := by kernel_rfl
theorem f80p2I (k : Nat) : SumsOk P Go.Proofs.Try.f80.ntmps [] f80p2C 14 := SumsOk.nil
theorem f80p2O (k : Nat) : SumOk P Go.Proofs.Try.f80.ntmps f80p2C (f80p2S k) := sum_part tabOk (f80TS k) mixed (f80p2I k) (f80p2E k)
noncomputable def f80F (k : Nat) (x : (Int × (Int × Int)) × ByteArray) : Option (List Int × List Int) :=
  f80l1 k
    (fun (w3 : ByteArray × Int × Int × Int × List Int × List Int × Unit) =>
      f80p2 k
        (fun (w5 : ByteArray × Int × Int × Int × List Int × List Int × Unit) =>
          some (w5.2.2.2.2.1, w5.2.2.2.2.2.1))
        (w3.1, w3.2.1, w3.2.2.1, w3.2.2.2.1, w3.2.2.2.2.1, w3.2.2.2.2.2.1, ()))
    (x.2, (x.2.size : Int), (0 : Int), x.1.1, x.1.2.1, x.1.2.2, [], [], ())
noncomputable def f80L (k : Nat) : Sums := [(422, f80p0S k), (26, f80l1S k), (14, f80p2S k)]
theorem f80LS (k : Nat) : SumsOk P Go.Proofs.Try.f80.ntmps (f80L k) (codeOf Go.Proofs.Try.f80) 1 := (((SumsOk.nil).cons (c := f80p2C) (by kernel_rfl) (f80p2O k)).cons (c := f80l1C) (by kernel_rfl) (f80l1O k)).cons (c := f80p0C) (by kernel_rfl) (f80p0O k)
theorem f80E (k : Nat) (x : (Int × (Int × Int)) × ByteArray) : evFS tab (f80T k) (f80L k) Go.Proofs.Try.f80.ntmps Go.Proofs.Try.f80.results.toList (codeOf Go.Proofs.Try.f80) (argsV [.agg (.pair (.int .i64) (.pair (.int .i64) (.int .i64))), .dat .str] x) [.own 5 (.int .u8), .own 3 (.int .i64)] = f80F k x := by kernel_rfl
theorem f80Ok (k : Nat) (x : (Int × (Int × Int)) × ByteArray) (y : List Int × List Int) (h : f80F k x = some y) : FnOk P 80 [.agg (.pair (.int .i64) (.pair (.int .i64) (.int .i64))), .dat .str] [.own 5 (.int .u8), .own 3 (.int .i64)] x y :=
  evFS_sound tabOk (f80TS k) mixed Go.Proofs.Try.func80 (c := codeOf Go.Proofs.Try.f80) (by kernel_rfl) (f80LS k) ((f80E k x).trans h)
/-! ## midrange/numeric.decimal -/
noncomputable def f46T (k : Nat) : Table := [(80, entFn [.agg (.pair (.int .i64) (.pair (.int .i64) (.int .i64))), .dat .str] [.own 5 (.int .u8), .own 3 (.int .i64)] (f80F k))]
theorem f46TS (k : Nat) : Sound P (f46T k) := (Sound.nil).cons f80B (f80Ok k)
theorem f46B : HasBody P 46 := ⟨Go.Proofs.Try.f46, Go.Proofs.Try.func46, by kernel_rfl, by kernel_rfl⟩
noncomputable def f46p0H : Shape := ⟨[(2, .one (.ptr 0 0)), (7, .one (.own 1)), (8, .one (.own 2)), (9, .one (.int .i64)), (10, .one (.int .i64)), (11, .one (.int .i64)), (12, .one (.int .u8)), (24, .one (.ro (.int .u8))), (25, .one (.int .i64)), (26, .one (.int .i64))], [(0, .var [.int .i64, .int .i64, .int .i64]), (1, .row 5 (.int .u8) .frz), (2, .row 3 (.int .i64) .plain)], 3⟩
noncomputable def f46p0X0 : Shape := ⟨[(2, .one (.ptr 0 0)), (4, .one (.int .i64)), (5, .one (.int .i64)), (6, .one (.int .i64)), (7, .one (.own 1)), (8, .one (.own 2)), (9, .one (.int .i64)), (10, .one (.int .i64)), (12, .one (.int .u8)), (24, .one (.ro (.int .u8))), (25, .one (.int .i64)), (26, .one (.int .i64))], [(0, .var [.int .i64, .int .i64, .int .i64]), (1, .row 5 (.int .u8) .frz), (2, .row 3 (.int .i64) .plain)], 3⟩
noncomputable def f46p0X1 : Shape := ⟨[(2, .one (.ptr 0 0)), (7, .one (.own 1)), (8, .one (.own 2)), (9, .one (.int .i64)), (10, .one (.int .i64)), (12, .one (.int .u8)), (24, .one (.ro (.int .u8))), (25, .one (.int .i64)), (26, .one (.int .i64))], [(0, .var [.int .i64, .int .i64, .int .i64]), (1, .row 5 (.int .u8) .frz), (2, .row 3 (.int .i64) .plain)], 3⟩
noncomputable def f46p0N : NoteR := ⟨[2, 7, 8, 9, 10, 11, 12, 24, 25, 26], [], []⟩
noncomputable def f46p0M : NoteR := ⟨[2, 4, 5, 6, 7, 8, 9, 10, 12, 24, 25, 26], [], []⟩
noncomputable def f46p0C : Code := firstC (codesAt 32050 (codeOf Go.Proofs.Try.f46) 1)
noncomputable def f46p0 {R : Type} (k : Nat) (k0 : Int × Int × Int × Int × Int × Int × List Int × Int × Int × Int × Int × Int × List Int × List Int × Unit → Option R) (k1 : Int × Int × Int × List Int × Int × Int × Int × Int × Int × List Int × List Int × Unit → Option R) (v : Int × Int × Int × Int × List Int × Int × Int × Int × Int × Int × List Int × List Int × Unit) : Option R :=
  bif (decide (v.2.2.2.1 > (9 : Int))) then
    bif ((decide ((0 : Int) ≤ v.2.2.1)) && (decide (v.2.2.1 < (v.2.2.2.2.2.2.2.2.2.2.2.1.length : Int)))) then
    k0 ((0 : Int), (v.2.2.2.2.2.2.2.2.2.2.2.1.getD (Int.toNat v.2.2.1) (0 : Int)), (21 : Int), v.1, v.2.1, v.2.2.2.1, v.2.2.2.2.1, v.2.2.2.2.2.1, v.2.2.2.2.2.2.1, v.2.2.2.2.2.2.2.1, v.2.2.2.2.2.2.2.2.1, v.2.2.2.2.2.2.2.2.2.1, v.2.2.2.2.2.2.2.2.2.2.1, v.2.2.2.2.2.2.2.2.2.2.2.1, ())
    else none
  else
  bif (decide (v.2.2.2.1 > (0 : Int))) then
    bif (decide (v.2.2.1 < (IntKind.i64.wrap (v.1 - v.2.2.2.2.2.2.2.2.1)))) then
      bif ((decide ((0 : Int) ≤ v.2.2.1)) && (decide (v.2.2.1 < (v.2.2.2.2.2.2.2.2.2.2.2.1.length : Int)))) then
      k0 ((0 : Int), (v.2.2.2.2.2.2.2.2.2.2.2.1.getD (Int.toNat v.2.2.1) (0 : Int)), (21 : Int), v.1, v.2.1, v.2.2.2.1, v.2.2.2.2.1, v.2.2.2.2.2.1, v.2.2.2.2.2.2.1, v.2.2.2.2.2.2.2.1, v.2.2.2.2.2.2.2.2.1, v.2.2.2.2.2.2.2.2.2.1, v.2.2.2.2.2.2.2.2.2.2.1, v.2.2.2.2.2.2.2.2.2.2.2.1, ())
      else none
    else
    k1 (v.1, v.2.1, v.2.2.2.1, v.2.2.2.2.1, v.2.2.2.2.2.1, v.2.2.2.2.2.2.1, v.2.2.2.2.2.2.2.1, v.2.2.2.2.2.2.2.2.1, v.2.2.2.2.2.2.2.2.2.1, v.2.2.2.2.2.2.2.2.2.2.1, v.2.2.2.2.2.2.2.2.2.2.2.1, ())
  else
  k1 (v.1, v.2.1, v.2.2.2.1, v.2.2.2.2.1, v.2.2.2.2.2.1, v.2.2.2.2.2.2.1, v.2.2.2.2.2.2.2.1, v.2.2.2.2.2.2.2.2.1, v.2.2.2.2.2.2.2.2.2.1, v.2.2.2.2.2.2.2.2.2.2.1, v.2.2.2.2.2.2.2.2.2.2.2.1, ())
noncomputable def f46p0S (k : Nat) : Sum1 := partSum f46p0H f46p0N (fun R K v => f46p0 k (fun w => K .ret (encSt f46p0X0 w)) (fun w => K .normal (encSt f46p0X1 w)) v)
theorem f46p0E (k : Nat) (R : Type) (K : X → St → Option R) (v : f46p0H.Den) : evS tab (f46T k) Go.Proofs.Try.f46.ntmps [] f46p0C 32050 (partK f46p0M K) (encSt f46p0H v) = f46p0 k (fun w => K .ret (encSt f46p0X0 w)) (fun w => K .normal (encSt f46p0X1 w)) v := by kernel_rfl
theorem f46p0I (k : Nat) : SumsOk P Go.Proofs.Try.f46.ntmps [] f46p0C 32050 := SumsOk.nil
theorem f46p0O (k : Nat) : SumOk P Go.Proofs.Try.f46.ntmps f46p0C (f46p0S k) := sum_part tabOk (f46TS k) mixed (f46p0I k) (f46p0E k)
noncomputable def f46l1H : Shape := ⟨[(2, .one (.ptr 0 0)), (7, .one (.own 1)), (8, .one (.own 2)), (9, .one (.int .i64)), (10, .one (.int .i64)), (24, .one (.ro (.int .u8))), (25, .one (.int .i64)), (26, .one (.int .i64))], [(0, .var [.int .i64, .int .i64, .int .i64]), (1, .row 5 (.int .u8) .frz), (2, .row 3 (.int .i64) .plain)], 3⟩
noncomputable def f46l1X0 : Shape := ⟨[(4, .one (.int .i64)), (5, .one (.int .i64)), (6, .one (.int .i64)), (7, .one (.own 0)), (8, .one (.own 1)), (9, .one (.int .i64)), (10, .one (.int .i64))], [(0, .row 5 (.int .u8) .frz), (1, .row 3 (.int .i64) .plain)], 2⟩
noncomputable def f46l1X1 : Shape := ⟨[(7, .one (.own 0)), (8, .one (.own 1)), (9, .one (.int .i64)), (10, .one (.int .i64))], [(0, .row 5 (.int .u8) .frz), (1, .row 3 (.int .i64) .plain)], 2⟩
noncomputable def f46l1N : NoteR := ⟨[2, 7, 8, 9, 10, 24, 25, 26], [], []⟩
noncomputable def f46l1M : NoteR := ⟨[4, 5, 6, 7, 8, 9, 10], [], []⟩
noncomputable def f46l1C : Code := firstC (codesAt 250 (codeOf Go.Proofs.Try.f46) 1)
noncomputable def f46l1s {R : Type} (k : Nat) (rec : Int × Int × List Int × Int × Int × Int × Int × Int × List Int × List Int × Unit → Option R) (k0 : Int × Int × Int × Int × Int × List Int × List Int × Unit → Option R) (k1 : Int × Int × List Int × List Int × Unit → Option R) (v : Int × Int × List Int × Int × Int × Int × Int × Int × List Int × List Int × Unit) : Option R :=
  bif (decide (v.2.2.2.2.1 < v.2.2.2.1)) then
    bif ((decide ((0 : Int) ≤ v.2.2.2.2.1)) && (decide (v.2.2.2.2.1 < (v.2.2.1.length : Int)))) then
    f46p0 k
      (fun (w3 : Int × Int × Int × Int × Int × Int × List Int × Int × Int × Int × Int × Int × List Int × List Int × Unit) =>
        k0 (w3.1, w3.2.1, w3.2.2.1, w3.2.2.2.1, w3.2.2.2.2.1, w3.2.2.2.2.2.2.2.2.2.2.2.2.1, w3.2.2.2.2.2.2.2.2.2.2.2.2.2.1, ()))
      (fun (w4 : Int × Int × Int × List Int × Int × Int × Int × Int × Int × List Int × List Int × Unit) =>
        let t5 := (IntKind.i64.wrap ((IntKind.i64.wrap (w4.2.1 * (10 : Int))) + (IntKind.i64.wrap w4.2.2.1)))
        rec (w4.1, t5, w4.2.2.2.1, w4.2.2.2.2.1, (IntKind.i64.wrap (w4.2.2.2.2.2.1 + (1 : Int))), w4.2.2.2.2.2.2.1, w4.2.2.2.2.2.2.2.1, w4.2.2.2.2.2.2.2.2.1, w4.2.2.2.2.2.2.2.2.2.1, w4.2.2.2.2.2.2.2.2.2.2.1, ()))
      (v.1, v.2.1, v.2.2.2.2.1, (v.2.2.1.getD (Int.toNat v.2.2.2.2.1) (0 : Int)), v.2.2.1, v.2.2.2.1, v.2.2.2.2.1, v.2.2.2.2.2.1, v.2.2.2.2.2.2.1, v.2.2.2.2.2.2.2.1, v.2.2.2.2.2.2.2.2.1, v.2.2.2.2.2.2.2.2.2.1, ())
    else none
  else
  k1 (v.1, v.2.1, v.2.2.2.2.2.2.2.2.1, v.2.2.2.2.2.2.2.2.2.1, ())
noncomputable def f46l1 {R : Type} (k : Nat) (k0 : Int × Int × Int × Int × Int × List Int × List Int × Unit → Option R) (k1 : Int × Int × List Int × List Int × Unit → Option R) (v : Int × Int × List Int × Int × Int × Int × Int × Int × List Int × List Int × Unit) : Option R := iterS (fun rec v => f46l1s k rec k0 k1 v) k v
noncomputable def f46l1S (k : Nat) : Sum1 := loopSum f46l1H f46l1N k (fun R rec K v => f46l1s k rec (fun w => K .ret (encSt f46l1X0 w)) (fun w => K (.exit 0) (encSt f46l1X1 w)) v)
theorem f46l1E (k : Nat) (R : Type) (rec : St → Option R) (K : X → St → Option R) (v : f46l1H.Den) : evS tab (f46T k) Go.Proofs.Try.f46.ntmps [(32050, f46p0S k)] (bodyOf f46l1C) 500 (bodyK f46l1N f46l1M rec K) (encSt f46l1H v) = f46l1s k (fun v => rec (encSt f46l1H v)) (fun w => K .ret (encSt f46l1X0 w)) (fun w => K (.exit 0) (encSt f46l1X1 w)) v := by kernel_rfl
theorem f46l1I (k : Nat) : SumsOk P Go.Proofs.Try.f46.ntmps [(32050, f46p0S k)] (bodyOf f46l1C) 500 := (SumsOk.nil).cons (c := f46p0C) (by kernel_rfl) (f46p0O k)
theorem f46l1O (k : Nat) : SumOk P Go.Proofs.Try.f46.ntmps f46l1C (f46l1S k) := (show f46l1C = .loop (bodyOf f46l1C) by kernel_rfl) ▸ sum_loop tabOk (f46TS k) mixed (f46l1I k) (f46l1E k)
noncomputable def f46p2H : Shape := ⟨[(7, .one (.own 0)), (8, .one (.own 1)), (9, .one (.int .i64)), (10, .one (.int .i64))], [(0, .row 5 (.int .u8) .frz), (1, .row 3 (.int .i64) .plain)], 2⟩
noncomputable def f46p2X0 : Shape := ⟨[(4, .one (.int .i64)), (5, .one (.int .i64)), (6, .one (.int .i64)), (7, .one (.own 0)), (8, .one (.own 1)), (9, .one (.int .i64)), (10, .one (.int .i64))], [(0, .row 5 (.int .u8) .frz), (1, .row 3 (.int .i64) .plain)], 2⟩
noncomputable def f46p2X1 : Shape := ⟨[(7, .one (.own 0)), (8, .one (.own 1)), (9, .one (.int .i64)), (10, .one (.int .i64))], [(0, .row 5 (.int .u8) .frz), (1, .row 3 (.int .i64) .plain)], 2⟩
noncomputable def f46p2N : NoteR := ⟨[7, 8, 9, 10], [], []⟩
noncomputable def f46p2M : NoteR := ⟨[4, 5, 6, 7, 8, 9, 10], [], []⟩
noncomputable def f46p2C : Code := firstC (codesAt 126 (codeOf Go.Proofs.Try.f46) 1)
noncomputable def f46p2 {R : Type} (k : Nat) (k0 : Int × Int × Int × Int × Int × List Int × List Int × Unit → Option R) (k1 : Int × Int × List Int × List Int × Unit → Option R) (v : Int × Int × List Int × List Int × Unit) : Option R :=
  bif ((decide ((0 : Int) ≤ v.1)) && (decide (v.1 < (v.2.2.1.length : Int)))) then
  bif (decide ((v.2.2.1.getD (Int.toNat v.1) (0 : Int)) < (10 : Int))) then
    bif ((decide ((0 : Int) ≤ v.1)) && (decide (v.1 < (v.2.2.2.1.length : Int)))) then
    k0 ((0 : Int), (v.2.2.2.1.getD (Int.toNat v.1) (0 : Int)), (21 : Int), v.1, v.2.1, v.2.2.1, v.2.2.2.1, ())
    else none
  else
  bif ((decide ((0 : Int) ≤ v.1)) && (decide (v.1 < (v.2.2.1.length : Int)))) then
  bif ((v.2.2.1.getD (Int.toNat v.1) (0 : Int)) == (11 : Int)) then
    k1 (v.1, (IntKind.i64.wrap (0 - v.2.1)), v.2.2.1, v.2.2.2.1, ())
  else
  bif ((decide ((0 : Int) ≤ v.1)) && (decide (v.1 < (v.2.2.1.length : Int)))) then
  bif ((v.2.2.1.getD (Int.toNat v.1) (0 : Int)) == (13 : Int)) then
    k1 (v.1, (IntKind.i64.wrap (0 - v.2.1)), v.2.2.1, v.2.2.2.1, ())
  else
  k1 (v.1, v.2.1, v.2.2.1, v.2.2.2.1, ())
  else none
  else none
  else none
noncomputable def f46p2S (k : Nat) : Sum1 := partSum f46p2H f46p2N (fun R K v => f46p2 k (fun w => K .ret (encSt f46p2X0 w)) (fun w => K .normal (encSt f46p2X1 w)) v)
theorem f46p2E (k : Nat) (R : Type) (K : X → St → Option R) (v : f46p2H.Den) : evS tab (f46T k) Go.Proofs.Try.f46.ntmps [] f46p2C 126 (partK f46p2M K) (encSt f46p2H v) = f46p2 k (fun w => K .ret (encSt f46p2X0 w)) (fun w => K .normal (encSt f46p2X1 w)) v := by kernel_rfl
theorem f46p2I (k : Nat) : SumsOk P Go.Proofs.Try.f46.ntmps [] f46p2C 126 := SumsOk.nil
theorem f46p2O (k : Nat) : SumOk P Go.Proofs.Try.f46.ntmps f46p2C (f46p2S k) := sum_part tabOk (f46TS k) mixed (f46p2I k) (f46p2E k)
noncomputable def f46F (k : Nat) (x : (Int × (Int × Int)) × ByteArray) : Option (Int × Int × Int) :=
  Option.bind (f80F k ((x.1.1, (x.1.2.1, x.1.2.2)), x.2)) fun y1 =>
  bif (sliceBds (0 : Int) (IntKind.i64.wrap ((y1.1.length : Int) - (1 : Int))) (y1.1.length : Int)) then
  let t2 := ((y1.1.take (Int.toNat (IntKind.i64.wrap ((y1.1.length : Int) - (1 : Int))))).drop 0)
  f46l1 k
    (fun (w6 : Int × Int × Int × Int × Int × List Int × List Int × Unit) =>
      some (w6.1, w6.2.1, w6.2.2.1))
    (fun (w7 : Int × Int × List Int × List Int × Unit) =>
      f46p2 k
        (fun (w8 : Int × Int × Int × Int × Int × List Int × List Int × Unit) =>
          some (w8.1, w8.2.1, w8.2.2.1))
        (fun (w9 : Int × Int × List Int × List Int × Unit) =>
          some (w9.2.1, (0 : Int), (0 : Int)))
        (w7.1, w7.2.1, w7.2.2.1, w7.2.2.2.1, ()))
    ((IntKind.i64.wrap ((y1.1.length : Int) - (1 : Int))), (0 : Int), t2, (t2.length : Int), (0 : Int), x.1.1, x.1.2.1, x.1.2.2, y1.1, y1.2, ())
  else none
noncomputable def f46L (k : Nat) : Sums := [(32050, f46p0S k), (250, f46l1S k), (126, f46p2S k)]
theorem f46LS (k : Nat) : SumsOk P Go.Proofs.Try.f46.ntmps (f46L k) (codeOf Go.Proofs.Try.f46) 1 := (((SumsOk.nil).cons (c := f46p2C) (by kernel_rfl) (f46p2O k)).cons (c := f46l1C) (by kernel_rfl) (f46l1O k)).cons (c := f46p0C) (by kernel_rfl) (f46p0O k)
theorem f46E (k : Nat) (x : (Int × (Int × Int)) × ByteArray) : evFS tab (f46T k) (f46L k) Go.Proofs.Try.f46.ntmps Go.Proofs.Try.f46.results.toList (codeOf Go.Proofs.Try.f46) (argsV [.agg (.pair (.int .i64) (.pair (.int .i64) (.int .i64))), .dat .str] x) [.dat (.int .i64), .dat (.int .i64), .dat (.int .i64)] = f46F k x := by kernel_rfl
theorem f46Ok (k : Nat) (x : (Int × (Int × Int)) × ByteArray) (y : Int × Int × Int) (h : f46F k x = some y) : FnOk P 46 [.agg (.pair (.int .i64) (.pair (.int .i64) (.int .i64))), .dat .str] [.dat (.int .i64), .dat (.int .i64), .dat (.int .i64)] x y :=
  evFS_sound tabOk (f46TS k) mixed Go.Proofs.Try.func46 (c := codeOf Go.Proofs.Try.f46) (by kernel_rfl) (f46LS k) ((f46E k x).trans h)
/-! ## midrange/numeric.Decode -/
noncomputable def f16T (k : Nat) : Table := [(28, entFn [.agg (.pair (.int .i64) (.pair (.int .i64) (.int .i64)))] [.dat (.int .i64)] (f28F k)), (29, entFn [.agg (.pair (.int .i64) (.pair (.int .i64) (.int .i64))), .agg (.pair (.int .i64) .str)] [.dat (.int .i64)] (f29F k)), (42, entFn [.dat (.slice (.int .i64))] [.dat (.int .i64)] (f42F k)), (43, entFn [.dat .bool, .dat (.int .i64)] [.dat (.int .i64)] (f43F k)), (44, entFn [.agg (.pair (.int .i64) (.pair (.int .i64) (.int .i64)))] [.dat (.int .i64)] (f44F k)), (45, entFn [.dat .str] [.dat (.int .i64)] (f45F k)), (46, entFn [.agg (.pair (.int .i64) (.pair (.int .i64) (.int .i64))), .dat .str] [.dat (.int .i64), .dat (.int .i64), .dat (.int .i64)] (f46F k))]
theorem f16TS (k : Nat) : Sound P (f16T k) := (((((((Sound.nil).cons f46B (f46Ok k)).cons f45B (f45Ok k)).cons f44B (f44Ok k)).cons f43B (f43Ok k)).cons f42B (f42Ok k)).cons f29B (f29Ok k)).cons f28B (f28Ok k)
theorem f16B : HasBody P 16 := ⟨Go.Proofs.Try.f16, Go.Proofs.Try.func16, by kernel_rfl, by kernel_rfl⟩
noncomputable def f16p0H : Shape := ⟨[(1, .one (.str)), (2, .one (.ptr 0 0)), (4, .one (.ptr 1 0)), (7, .one (.int .i64))], [(0, .var [.int .i64, .int .i64, .int .i64]), (1, .var [.int .i64, .str])], 2⟩
noncomputable def f16p0X0 : Shape := ⟨[(1, .one (.str)), (2, .one (.ptr 0 0)), (4, .one (.ptr 1 0)), (7, .one (.int .i64))], [(0, .var [.int .i64, .int .i64, .int .i64]), (1, .var [.int .i64, .str])], 2⟩
noncomputable def f16p0N : NoteR := ⟨[1, 2, 4, 7], [], []⟩
noncomputable def f16p0M : NoteR := ⟨[1, 2, 4, 5, 6, 7], [], []⟩
noncomputable def f16p0C : Code := firstC (codesAt 14 (codeOf Go.Proofs.Try.f16) 1)
noncomputable def f16p0 {R : Type} (k : Nat) (k0 : ByteArray × Int × Int × Int × Int × Int × ByteArray × Unit → Option R) (v : ByteArray × Int × Int × Int × Int × Int × ByteArray × Unit) : Option R :=
  bif (v.2.1 == (0 : Int)) then
    Option.bind (f44F k (v.2.2.1, (v.2.2.2.1, v.2.2.2.2.1))) fun y4 =>
    Option.bind (f43F k (((v.1.size : Int) != y4), (18 : Int))) fun y5 =>
    k0 (v.1, y5, v.2.2.1, v.2.2.2.1, v.2.2.2.2.1, v.2.2.2.2.2.1, v.2.2.2.2.2.2.1, ())
  else
  k0 (v.1, v.2.1, v.2.2.1, v.2.2.2.1, v.2.2.2.2.1, v.2.2.2.2.2.1, v.2.2.2.2.2.2.1, ())
noncomputable def f16p0S (k : Nat) : Sum1 := partSum f16p0H f16p0N (fun R K v => f16p0 k (fun w => K .normal (encSt f16p0X0 w)) v)
theorem f16p0E (k : Nat) (R : Type) (K : X → St → Option R) (v : f16p0H.Den) : evS tab (f16T k) Go.Proofs.Try.f16.ntmps [] f16p0C 14 (partK f16p0M K) (encSt f16p0H v) = f16p0 k (fun w => K .normal (encSt f16p0X0 w)) v := by kernel_rfl
theorem f16p0I (k : Nat) : SumsOk P Go.Proofs.Try.f16.ntmps [] f16p0C 14 := SumsOk.nil
theorem f16p0O (k : Nat) : SumOk P Go.Proofs.Try.f16.ntmps f16p0C (f16p0S k) := sum_part tabOk (f16TS k) mixed (f16p0I k) (f16p0E k)
noncomputable def f16F (k : Nat) (x : (Int × (Int × Int)) × ByteArray) : Option ((Int × ByteArray) × Int × Int) :=
  Option.bind (f28F k (x.1.1, (x.1.2.1, x.1.2.2))) fun y1 =>
  Option.bind (f43F k ((x.1.1 == (4 : Int)), (17 : Int))) fun y2 =>
  Option.bind (f42F k [y1, y2]) fun y3 =>
  f16p0 k
    (fun (w6 : ByteArray × Int × Int × Int × Int × Int × ByteArray × Unit) =>
      bif (w6.2.1 != (0 : Int)) then
        some (((0 : Int), ByteArray.empty), (0 : Int), w6.2.1)
      else
      bif (w6.2.2.1 == (0 : Int)) then
        some (((0 : Int), w6.1), (0 : Int), (0 : Int))
      else
      bif (w6.2.2.1 == (3 : Int)) then
        Option.bind (f45F k w6.1) fun y7 =>
        Option.bind (f29F k ((w6.2.2.1, (w6.2.2.2.1, w6.2.2.2.2.1)), (y7, ByteArray.empty))) fun y8 =>
        bif (y8 != (0 : Int)) then
          some (((0 : Int), ByteArray.empty), (0 : Int), y8)
        else
        some ((y7, ByteArray.empty), (0 : Int), (0 : Int))
      else
      Option.bind (f46F k ((w6.2.2.1, (w6.2.2.2.1, w6.2.2.2.2.1)), w6.1)) fun y9 =>
      some ((y9.1, ByteArray.empty), y9.2.1, y9.2.2))
    (x.2, y3, x.1.1, x.1.2.1, x.1.2.2, (0 : Int), ByteArray.empty, ())
noncomputable def f16L (k : Nat) : Sums := [(14, f16p0S k)]
theorem f16LS (k : Nat) : SumsOk P Go.Proofs.Try.f16.ntmps (f16L k) (codeOf Go.Proofs.Try.f16) 1 := (SumsOk.nil).cons (c := f16p0C) (by kernel_rfl) (f16p0O k)
theorem f16E (k : Nat) (x : (Int × (Int × Int)) × ByteArray) : evFS tab (f16T k) (f16L k) Go.Proofs.Try.f16.ntmps Go.Proofs.Try.f16.results.toList (codeOf Go.Proofs.Try.f16) (argsV [.agg (.pair (.int .i64) (.pair (.int .i64) (.int .i64))), .dat .str] x) [.agg (.pair (.int .i64) .str), .dat (.int .i64), .dat (.int .i64)] = f16F k x := by kernel_rfl
theorem f16Ok (k : Nat) (x : (Int × (Int × Int)) × ByteArray) (y : (Int × ByteArray) × Int × Int) (h : f16F k x = some y) : FnOk P 16 [.agg (.pair (.int .i64) (.pair (.int .i64) (.int .i64))), .dat .str] [.agg (.pair (.int .i64) .str), .dat (.int .i64), .dat (.int .i64)] x y :=
  evFS_sound tabOk (f16TS k) mixed Go.Proofs.Try.func16 (c := codeOf Go.Proofs.Try.f16) (by kernel_rfl) (f16LS k) ((f16E k x).trans h)
/-! ## midrange/midrangelaw01.awake -/
noncomputable def f13T (k : Nat) : Table := [(14, entFn [.agg (.pair (.int .i64) (.pair (.int .i64) (.int .i64))), .agg (.pair (.int .i64) .str)] [.dat .str, .dat (.int .i64)] (f14F k)), (16, entFn [.agg (.pair (.int .i64) (.pair (.int .i64) (.int .i64))), .dat .str] [.agg (.pair (.int .i64) .str), .dat (.int .i64), .dat (.int .i64)] (f16F k)), (39, entFn [] [.agg (.pair (.int .i64) (.pair (.int .i64) (.int .i64)))] (f39F k))]
theorem f13TS (k : Nat) : Sound P (f13T k) := (((Sound.nil).cons f39B (f39Ok k)).cons f16B (f16Ok k)).cons f14B (f14Ok k)
theorem f13B : HasBody P 13 := ⟨Go.Proofs.Try.f13, Go.Proofs.Try.func13, by kernel_rfl, by kernel_rfl⟩
noncomputable def f13F (k : Nat) (x : Unit) : Option (Bool) :=
  Option.bind (f39F k ()) fun y1 =>
  Option.bind (f14F k ((y1.1, (y1.2.1, y1.2.2)), ((-12345 : Int), ByteArray.empty))) fun y2 =>
  Option.bind (f39F k ()) fun y3 =>
  Option.bind (f16F k ((y3.1, (y3.2.1, y3.2.2)), (⟨#[18, 52, 93]⟩ : ByteArray))) fun y4 =>
  bif (y2.2 == (0 : Int)) then
    bif (strEq y2.1 (⟨#[18, 52, 93]⟩ : ByteArray)) then
      bif (y4.2.2 == (0 : Int)) then
        bif (y4.2.1 == (0 : Int)) then
          let t5 := ((y4.1.1 == (-12345 : Int)) && ((strEq y4.1.2 ByteArray.empty) && true))
          some t5
        else
        some false
      else
      some false
    else
    some false
  else
  some false
noncomputable def f13L (k : Nat) : Sums := []
theorem f13LS (k : Nat) : SumsOk P Go.Proofs.Try.f13.ntmps (f13L k) (codeOf Go.Proofs.Try.f13) 1 := SumsOk.nil
theorem f13E (k : Nat) (x : Unit) : evFS tab (f13T k) (f13L k) Go.Proofs.Try.f13.ntmps Go.Proofs.Try.f13.results.toList (codeOf Go.Proofs.Try.f13) (argsV [] x) [.dat .bool] = f13F k x := by kernel_rfl
theorem f13Ok (k : Nat) (x : Unit) (y : Bool) (h : f13F k x = some y) : FnOk P 13 [] [.dat .bool] x y :=
  evFS_sound tabOk (f13TS k) mixed Go.Proofs.Try.func13 (c := codeOf Go.Proofs.Try.f13) (by kernel_rfl) (f13LS k) ((f13E k x).trans h)
/-! ## midrange/midrangebase.Within -/
noncomputable def f48T (k : Nat) : Table := []
theorem f48TS (k : Nat) : Sound P (f48T k) := Sound.nil
theorem f48B : HasBody P 48 := ⟨Go.Proofs.Try.f48, Go.Proofs.Try.func48, by kernel_rfl, by kernel_rfl⟩
noncomputable def f48F (k : Nat) (x : Int × Int × Int) : Option (Bool) :=
  bif (decide (x.2.1 ≤ x.1)) then
    some (decide (x.1 ≤ x.2.2))
  else
  some false
noncomputable def f48L (k : Nat) : Sums := []
theorem f48LS (k : Nat) : SumsOk P Go.Proofs.Try.f48.ntmps (f48L k) (codeOf Go.Proofs.Try.f48) 1 := SumsOk.nil
theorem f48E (k : Nat) (x : Int × Int × Int) : evFS tab (f48T k) (f48L k) Go.Proofs.Try.f48.ntmps Go.Proofs.Try.f48.results.toList (codeOf Go.Proofs.Try.f48) (argsV [.dat (.int .i64), .dat (.int .i64), .dat (.int .i64)] x) [.dat .bool] = f48F k x := by kernel_rfl
theorem f48Ok (k : Nat) (x : Int × Int × Int) (y : Bool) (h : f48F k x = some y) : FnOk P 48 [.dat (.int .i64), .dat (.int .i64), .dat (.int .i64)] [.dat .bool] x y :=
  evFS_sound tabOk (f48TS k) mixed Go.Proofs.Try.func48 (c := codeOf Go.Proofs.Try.f48) (by kernel_rfl) (f48LS k) ((f48E k x).trans h)
/-! ## midrange/midrangeref01.IsNumeric -/
noncomputable def f68T (k : Nat) : Table := [(48, entFn [.dat (.int .i64), .dat (.int .i64), .dat (.int .i64)] [.dat .bool] (f48F k))]
theorem f68TS (k : Nat) : Sound P (f68T k) := (Sound.nil).cons f48B (f48Ok k)
theorem f68B : HasBody P 68 := ⟨Go.Proofs.Try.f68, Go.Proofs.Try.func68, by kernel_rfl, by kernel_rfl⟩
noncomputable def f68F (k : Nat) (x : Int) : Option (Bool) :=
  Option.bind (f48F k (x, (1 : Int), (3 : Int))) fun y1 =>
  some y1
noncomputable def f68L (k : Nat) : Sums := []
theorem f68LS (k : Nat) : SumsOk P Go.Proofs.Try.f68.ntmps (f68L k) (codeOf Go.Proofs.Try.f68) 1 := SumsOk.nil
theorem f68E (k : Nat) (x : Int) : evFS tab (f68T k) (f68L k) Go.Proofs.Try.f68.ntmps Go.Proofs.Try.f68.results.toList (codeOf Go.Proofs.Try.f68) (argsV [.dat (.int .i64)] x) [.dat .bool] = f68F k x := by kernel_rfl
theorem f68Ok (k : Nat) (x : Int) (y : Bool) (h : f68F k x = some y) : FnOk P 68 [.dat (.int .i64)] [.dat .bool] x y :=
  evFS_sound tabOk (f68TS k) mixed Go.Proofs.Try.func68 (c := codeOf Go.Proofs.Try.f68) (by kernel_rfl) (f68LS k) ((f68E k x).trans h)
/-! ## midrange/midrangebase.Count -/
noncomputable def f69T (k : Nat) : Table := []
theorem f69TS (k : Nat) : Sound P (f69T k) := Sound.nil
theorem f69B : HasBody P 69 := ⟨Go.Proofs.Try.f69, Go.Proofs.Try.func69, by kernel_rfl, by kernel_rfl⟩
noncomputable def f69F (k : Nat) (x : Bool) : Option (Int) :=
  bif x then
    some (1 : Int)
  else
  some (0 : Int)
noncomputable def f69L (k : Nat) : Sums := []
theorem f69LS (k : Nat) : SumsOk P Go.Proofs.Try.f69.ntmps (f69L k) (codeOf Go.Proofs.Try.f69) 1 := SumsOk.nil
theorem f69E (k : Nat) (x : Bool) : evFS tab (f69T k) (f69L k) Go.Proofs.Try.f69.ntmps Go.Proofs.Try.f69.results.toList (codeOf Go.Proofs.Try.f69) (argsV [.dat .bool] x) [.dat (.int .i64)] = f69F k x := by kernel_rfl
theorem f69Ok (k : Nat) (x : Bool) (y : Int) (h : f69F k x = some y) : FnOk P 69 [.dat .bool] [.dat (.int .i64)] x y :=
  evFS_sound tabOk (f69TS k) mixed Go.Proofs.Try.func69 (c := codeOf Go.Proofs.Try.f69) (by kernel_rfl) (f69LS k) ((f69E k x).trans h)
/-! ## midrange/midrangeref01.TypeErr -/
noncomputable def f27T (k : Nat) : Table := [(48, entFn [.dat (.int .i64), .dat (.int .i64), .dat (.int .i64)] [.dat .bool] (f48F k)), (68, entFn [.dat (.int .i64)] [.dat .bool] (f68F k)), (69, entFn [.dat .bool] [.dat (.int .i64)] (f69F k))]
theorem f27TS (k : Nat) : Sound P (f27T k) := (((Sound.nil).cons f69B (f69Ok k)).cons f68B (f68Ok k)).cons f48B (f48Ok k)
theorem f27B : HasBody P 27 := ⟨Go.Proofs.Try.f27, Go.Proofs.Try.func27, by kernel_rfl, by kernel_rfl⟩
noncomputable def f27p0H : Shape := ⟨[(1, .one (.ptr 0 0)), (3, .one (.bool)), (13, .one (.int .i64))], [(0, .var [.int .i64, .int .i64, .int .i64])], 1⟩
noncomputable def f27p0X0 : Shape := ⟨[(1, .one (.ptr 0 0)), (3, .one (.bool)), (13, .one (.int .i64)), (19, .one (.bool))], [(0, .var [.int .i64, .int .i64, .int .i64])], 1⟩
noncomputable def f27p0N : NoteR := ⟨[1, 3, 13], [], []⟩
noncomputable def f27p0M : NoteR := ⟨[1, 2, 3, 13, 19], [], []⟩
noncomputable def f27p0C : Code := firstC (codesAt 982 (codeOf Go.Proofs.Try.f27) 1)
noncomputable def f27p0 {R : Type} (k : Nat) (k0 : Bool × Int × Bool × Int × Int × Int × Unit → Option R) (v : Bool × Int × Int × Int × Int × Unit) : Option R :=
  bif (v.2.1 == (1 : Int)) then
    k0 (v.1, v.2.1, (v.2.1 == (1 : Int)), v.2.2.1, v.2.2.2.1, v.2.2.2.2.1, ())
  else
  k0 (v.1, v.2.1, (v.2.1 == (2 : Int)), v.2.2.1, v.2.2.2.1, v.2.2.2.2.1, ())
noncomputable def f27p0S (k : Nat) : Sum1 := partSum f27p0H f27p0N (fun R K v => f27p0 k (fun w => K .normal (encSt f27p0X0 w)) v)
theorem f27p0E (k : Nat) (R : Type) (K : X → St → Option R) (v : f27p0H.Den) : evS tab (f27T k) Go.Proofs.Try.f27.ntmps [] f27p0C 982 (partK f27p0M K) (encSt f27p0H v) = f27p0 k (fun w => K .normal (encSt f27p0X0 w)) v := by kernel_rfl
theorem f27p0I (k : Nat) : SumsOk P Go.Proofs.Try.f27.ntmps [] f27p0C 982 := SumsOk.nil
theorem f27p0O (k : Nat) : SumOk P Go.Proofs.Try.f27.ntmps f27p0C (f27p0S k) := sum_part tabOk (f27TS k) mixed (f27p0I k) (f27p0E k)
noncomputable def f27p1H : Shape := ⟨[(1, .one (.ptr 0 0)), (3, .one (.bool))], [(0, .var [.int .i64, .int .i64, .int .i64])], 1⟩
noncomputable def f27p1X0 : Shape := ⟨[(1, .one (.ptr 0 0)), (3, .one (.bool))], [(0, .var [.int .i64, .int .i64, .int .i64])], 1⟩
noncomputable def f27p1N : NoteR := ⟨[1, 3], [], []⟩
noncomputable def f27p1M : NoteR := ⟨[1, 2, 3], [], []⟩
noncomputable def f27p1C : Code := firstC (codesAt 30 (codeOf Go.Proofs.Try.f27) 1)
noncomputable def f27p1 {R : Type} (k : Nat) (k0 : Bool × Int × Int × Int × Unit → Option R) (v : Bool × Int × Int × Int × Unit) : Option R :=
  bif (v.2.1 == (0 : Int)) then
    Option.bind (f48F k (v.2.2.1, (1 : Int), (256 : Int))) fun y2 =>
    k0 (y2, v.2.1, v.2.2.1, v.2.2.2.1, ())
  else
  f27p0 k
    (fun (w3 : Bool × Int × Bool × Int × Int × Int × Unit) =>
      bif w3.2.2.1 then
        Option.bind (f48F k (w3.2.2.2.2.1, (1 : Int), (15 : Int))) fun y4 =>
        k0 (y4, w3.2.2.2.1, w3.2.2.2.2.1, w3.2.2.2.2.2.1, ())
      else
      bif (w3.2.1 == (3 : Int)) then
        bif (w3.2.2.2.2.1 == (4 : Int)) then
          k0 (true, w3.2.2.2.1, w3.2.2.2.2.1, w3.2.2.2.2.2.1, ())
        else
        k0 ((w3.2.2.2.2.1 == (9 : Int)), w3.2.2.2.1, w3.2.2.2.2.1, w3.2.2.2.2.2.1, ())
      else
      k0 (w3.1, w3.2.2.2.1, w3.2.2.2.2.1, w3.2.2.2.2.2.1, ()))
    (v.1, v.2.1, v.2.1, v.2.2.1, v.2.2.2.1, ())
noncomputable def f27p1S (k : Nat) : Sum1 := partSum f27p1H f27p1N (fun R K v => f27p1 k (fun w => K .normal (encSt f27p1X0 w)) v)
theorem f27p1E (k : Nat) (R : Type) (K : X → St → Option R) (v : f27p1H.Den) : evS tab (f27T k) Go.Proofs.Try.f27.ntmps [(982, f27p0S k)] f27p1C 30 (partK f27p1M K) (encSt f27p1H v) = f27p1 k (fun w => K .normal (encSt f27p1X0 w)) v := by kernel_rfl
theorem f27p1I (k : Nat) : SumsOk P Go.Proofs.Try.f27.ntmps [(982, f27p0S k)] f27p1C 30 := (SumsOk.nil).cons (c := f27p0C) (by kernel_rfl) (f27p0O k)
theorem f27p1O (k : Nat) : SumOk P Go.Proofs.Try.f27.ntmps f27p1C (f27p1S k) := sum_part tabOk (f27TS k) mixed (f27p1I k) (f27p1E k)
noncomputable def f27p2H : Shape := ⟨[(1, .one (.ptr 0 0)), (4, .one (.int .i64))], [(0, .var [.int .i64, .int .i64, .int .i64])], 1⟩
noncomputable def f27p2X0 : Shape := ⟨[(1, .one (.ptr 0 0)), (4, .one (.int .i64))], [(0, .var [.int .i64, .int .i64, .int .i64])], 1⟩
noncomputable def f27p2N : NoteR := ⟨[1, 4], [], []⟩
noncomputable def f27p2M : NoteR := ⟨[1, 2, 4], [], []⟩
noncomputable def f27p2C : Code := firstC (codesAt 254 (codeOf Go.Proofs.Try.f27) 1)
noncomputable def f27p2 {R : Type} (k : Nat) (k0 : Int × Int × Int × Int × Unit → Option R) (v : Int × Int × Int × Int × Unit) : Option R :=
  Option.bind (f68F k v.2.1) fun y6 =>
  bif y6 then
    k0 (v.2.2.1, v.2.1, v.2.2.1, v.2.2.2.1, ())
  else
  k0 (v.1, v.2.1, v.2.2.1, v.2.2.2.1, ())
noncomputable def f27p2S (k : Nat) : Sum1 := partSum f27p2H f27p2N (fun R K v => f27p2 k (fun w => K .normal (encSt f27p2X0 w)) v)
theorem f27p2E (k : Nat) (R : Type) (K : X → St → Option R) (v : f27p2H.Den) : evS tab (f27T k) Go.Proofs.Try.f27.ntmps [] f27p2C 254 (partK f27p2M K) (encSt f27p2H v) = f27p2 k (fun w => K .normal (encSt f27p2X0 w)) v := by kernel_rfl
theorem f27p2I (k : Nat) : SumsOk P Go.Proofs.Try.f27.ntmps [] f27p2C 254 := SumsOk.nil
theorem f27p2O (k : Nat) : SumOk P Go.Proofs.Try.f27.ntmps f27p2C (f27p2S k) := sum_part tabOk (f27TS k) mixed (f27p2I k) (f27p2E k)
noncomputable def f27F (k : Nat) (x : (Int × (Int × Int))) : Option (Int) :=
  Option.bind (f48F k (x.1, (0 : Int), (4 : Int))) fun y1 =>
  bif (!y1) then
    some (4 : Int)
  else
  f27p1 k
    (fun (w5 : Bool × Int × Int × Int × Unit) =>
      bif (!w5.1) then
        some (18 : Int)
      else
      f27p2 k
        (fun (w7 : Int × Int × Int × Int × Unit) =>
          Option.bind (f48F k (w7.2.2.2.1, (0 : Int), w7.1)) fun y8 =>
          Option.bind (f69F k (!y8)) fun y9 =>
          some (IntKind.i64.wrap ((3 : Int) * y9)))
        ((0 : Int), w5.2.1, w5.2.2.1, w5.2.2.2.1, ()))
    ((x.2.1 == (0 : Int)), x.1, x.2.1, x.2.2, ())
noncomputable def f27L (k : Nat) : Sums := [(982, f27p0S k), (30, f27p1S k), (254, f27p2S k)]
theorem f27LS (k : Nat) : SumsOk P Go.Proofs.Try.f27.ntmps (f27L k) (codeOf Go.Proofs.Try.f27) 1 := (((SumsOk.nil).cons (c := f27p2C) (by kernel_rfl) (f27p2O k)).cons (c := f27p1C) (by kernel_rfl) (f27p1O k)).cons (c := f27p0C) (by kernel_rfl) (f27p0O k)
theorem f27E (k : Nat) (x : (Int × (Int × Int))) : evFS tab (f27T k) (f27L k) Go.Proofs.Try.f27.ntmps Go.Proofs.Try.f27.results.toList (codeOf Go.Proofs.Try.f27) (argsV [.agg (.pair (.int .i64) (.pair (.int .i64) (.int .i64)))] x) [.dat (.int .i64)] = f27F k x := by kernel_rfl
theorem f27Ok (k : Nat) (x : (Int × (Int × Int))) (y : Int) (h : f27F k x = some y) : FnOk P 27 [.agg (.pair (.int .i64) (.pair (.int .i64) (.int .i64)))] [.dat (.int .i64)] x y :=
  evFS_sound tabOk (f27TS k) mixed Go.Proofs.Try.func27 (c := codeOf Go.Proofs.Try.f27) (by kernel_rfl) (f27LS k) ((f27E k x).trans h)
/-! ## midrange/midrangebase.Power -/
noncomputable def f81T (k : Nat) : Table := []
theorem f81TS (k : Nat) : Sound P (f81T k) := Sound.nil
theorem f81B : HasBody P 81 := ⟨Go.Proofs.Try.f81, Go.Proofs.Try.func81, by kernel_rfl, by kernel_rfl⟩
noncomputable def f81l0H : Shape := ⟨[(0, .one (.int .i64)), (3, .one (.int .i64)), (4, .one (.int .i64))], [], 0⟩
noncomputable def f81l0X0 : Shape := ⟨[(3, .one (.int .i64))], [], 0⟩
noncomputable def f81l0N : NoteR := ⟨[0, 3, 4], [], []⟩
noncomputable def f81l0M : NoteR := ⟨[2, 3], [], []⟩
noncomputable def f81l0C : Code := firstC (codesAt 58 (codeOf Go.Proofs.Try.f81) 1)
noncomputable def f81l0s {R : Type} (k : Nat) (rec : Int × Int × Int × Unit → Option R) (k0 : Int × Unit → Option R) (v : Int × Int × Int × Unit) : Option R :=
  bif (decide (v.2.2.1 < v.1)) then
    rec (v.1, (IntKind.i64.wrap (v.2.1 * (10 : Int))), (IntKind.i64.wrap (v.2.2.1 + (1 : Int))), ())
  else
  k0 (v.2.1, ())
noncomputable def f81l0 {R : Type} (k : Nat) (k0 : Int × Unit → Option R) (v : Int × Int × Int × Unit) : Option R := iterS (fun rec v => f81l0s k rec k0 v) k v
noncomputable def f81l0S (k : Nat) : Sum1 := loopSum f81l0H f81l0N k (fun R rec K v => f81l0s k rec (fun w => K (.exit 0) (encSt f81l0X0 w)) v)
theorem f81l0E (k : Nat) (R : Type) (rec : St → Option R) (K : X → St → Option R) (v : f81l0H.Den) : evS tab (f81T k) Go.Proofs.Try.f81.ntmps [] (bodyOf f81l0C) 116 (bodyK f81l0N f81l0M rec K) (encSt f81l0H v) = f81l0s k (fun v => rec (encSt f81l0H v)) (fun w => K (.exit 0) (encSt f81l0X0 w)) v := by kernel_rfl
theorem f81l0I (k : Nat) : SumsOk P Go.Proofs.Try.f81.ntmps [] (bodyOf f81l0C) 116 := SumsOk.nil
theorem f81l0O (k : Nat) : SumOk P Go.Proofs.Try.f81.ntmps f81l0C (f81l0S k) := (show f81l0C = .loop (bodyOf f81l0C) by kernel_rfl) ▸ sum_loop tabOk (f81TS k) mixed (f81l0I k) (f81l0E k)
noncomputable def f81F (k : Nat) (x : Int) : Option (Int) :=
  f81l0 k
    (fun (w1 : Int × Unit) =>
      some w1.1)
    (x, (1 : Int), (0 : Int), ())
noncomputable def f81L (k : Nat) : Sums := [(58, f81l0S k)]
theorem f81LS (k : Nat) : SumsOk P Go.Proofs.Try.f81.ntmps (f81L k) (codeOf Go.Proofs.Try.f81) 1 := (SumsOk.nil).cons (c := f81l0C) (by kernel_rfl) (f81l0O k)
theorem f81E (k : Nat) (x : Int) : evFS tab (f81T k) (f81L k) Go.Proofs.Try.f81.ntmps Go.Proofs.Try.f81.results.toList (codeOf Go.Proofs.Try.f81) (argsV [.dat (.int .i64)] x) [.dat (.int .i64)] = f81F k x := by kernel_rfl
theorem f81Ok (k : Nat) (x : Int) (y : Int) (h : f81F k x = some y) : FnOk P 81 [.dat (.int .i64)] [.dat (.int .i64)] x y :=
  evFS_sound tabOk (f81TS k) mixed Go.Proofs.Try.func81 (c := codeOf Go.Proofs.Try.f81) (by kernel_rfl) (f81LS k) ((f81E k x).trans h)
/-! ## midrange/midrangeref01.Most -/
noncomputable def f49T (k : Nat) : Table := [(81, entFn [.dat (.int .i64)] [.dat (.int .i64)] (f81F k))]
theorem f49TS (k : Nat) : Sound P (f49T k) := (Sound.nil).cons f81B (f81Ok k)
theorem f49B : HasBody P 49 := ⟨Go.Proofs.Try.f49, Go.Proofs.Try.func49, by kernel_rfl, by kernel_rfl⟩
noncomputable def f49F (k : Nat) (x : (Int × (Int × Int))) : Option (Int) :=
  Option.bind (f81F k x.2.1) fun y1 =>
  some (IntKind.i64.wrap (y1 - (1 : Int)))
noncomputable def f49L (k : Nat) : Sums := []
theorem f49LS (k : Nat) : SumsOk P Go.Proofs.Try.f49.ntmps (f49L k) (codeOf Go.Proofs.Try.f49) 1 := SumsOk.nil
theorem f49E (k : Nat) (x : (Int × (Int × Int))) : evFS tab (f49T k) (f49L k) Go.Proofs.Try.f49.ntmps Go.Proofs.Try.f49.results.toList (codeOf Go.Proofs.Try.f49) (argsV [.agg (.pair (.int .i64) (.pair (.int .i64) (.int .i64)))] x) [.dat (.int .i64)] = f49F k x := by kernel_rfl
theorem f49Ok (k : Nat) (x : (Int × (Int × Int))) (y : Int) (h : f49F k x = some y) : FnOk P 49 [.agg (.pair (.int .i64) (.pair (.int .i64) (.int .i64)))] [.dat (.int .i64)] x y :=
  evFS_sound tabOk (f49TS k) mixed Go.Proofs.Try.func49 (c := codeOf Go.Proofs.Try.f49) (by kernel_rfl) (f49LS k) ((f49E k x).trans h)
/-! ## midrange/midrangeref01.ValueErr -/
noncomputable def f30T (k : Nat) : Table := [(27, entFn [.agg (.pair (.int .i64) (.pair (.int .i64) (.int .i64)))] [.dat (.int .i64)] (f27F k)), (48, entFn [.dat (.int .i64), .dat (.int .i64), .dat (.int .i64)] [.dat .bool] (f48F k)), (49, entFn [.agg (.pair (.int .i64) (.pair (.int .i64) (.int .i64)))] [.dat (.int .i64)] (f49F k)), (69, entFn [.dat .bool] [.dat (.int .i64)] (f69F k))]
theorem f30TS (k : Nat) : Sound P (f30T k) := ((((Sound.nil).cons f69B (f69Ok k)).cons f49B (f49Ok k)).cons f48B (f48Ok k)).cons f27B (f27Ok k)
theorem f30B : HasBody P 30 := ⟨Go.Proofs.Try.f30, Go.Proofs.Try.func30, by kernel_rfl, by kernel_rfl⟩
noncomputable def f30p0H : Shape := ⟨[(2, .one (.ptr 0 0)), (3, .one (.ptr 1 0))], [(0, .var [.int .i64, .int .i64, .int .i64]), (1, .var [.int .i64, .str])], 2⟩
noncomputable def f30p0X0 : Shape := ⟨[(2, .one (.ptr 0 0)), (3, .one (.ptr 1 0)), (4, .one (.int .i64))], [(0, .var [.int .i64, .int .i64, .int .i64]), (1, .var [.int .i64, .str])], 2⟩
noncomputable def f30p0X1 : Shape := ⟨[(2, .one (.ptr 0 0)), (3, .one (.ptr 1 0))], [(0, .var [.int .i64, .int .i64, .int .i64]), (1, .var [.int .i64, .str])], 2⟩
noncomputable def f30p0N : NoteR := ⟨[2, 3], [], []⟩
noncomputable def f30p0M : NoteR := ⟨[2, 3, 4], [], []⟩
noncomputable def f30p0C : Code := firstC (codesAt 30 (codeOf Go.Proofs.Try.f30) 1)
noncomputable def f30p0 {R : Type} (k : Nat) (k0 : Int × Int × Int × Int × Int × ByteArray × Unit → Option R) (k1 : Int × Int × Int × Int × ByteArray × Unit → Option R) (v : Int × Int × Int × Int × ByteArray × Unit) : Option R :=
  bif (v.1 == (0 : Int)) then
    bif (v.2.2.2.1 != (0 : Int)) then
      k0 ((5 : Int), v.1, v.2.1, v.2.2.1, v.2.2.2.1, v.2.2.2.2.1, ())
    else
    bif (v.1 != (0 : Int)) then
      bif (!strEq v.2.2.2.2.1 ByteArray.empty) then
        k0 ((5 : Int), v.1, v.2.1, v.2.2.1, v.2.2.2.1, v.2.2.2.2.1, ())
      else
      k1 (v.1, v.2.1, v.2.2.1, v.2.2.2.1, v.2.2.2.2.1, ())
    else
    k1 (v.1, v.2.1, v.2.2.1, v.2.2.2.1, v.2.2.2.2.1, ())
  else
  bif (v.1 != (0 : Int)) then
    bif (!strEq v.2.2.2.2.1 ByteArray.empty) then
      k0 ((5 : Int), v.1, v.2.1, v.2.2.1, v.2.2.2.1, v.2.2.2.2.1, ())
    else
    k1 (v.1, v.2.1, v.2.2.1, v.2.2.2.1, v.2.2.2.2.1, ())
  else
  k1 (v.1, v.2.1, v.2.2.1, v.2.2.2.1, v.2.2.2.2.1, ())
noncomputable def f30p0S (k : Nat) : Sum1 := partSum f30p0H f30p0N (fun R K v => f30p0 k (fun w => K .ret (encSt f30p0X0 w)) (fun w => K .normal (encSt f30p0X1 w)) v)
theorem f30p0E (k : Nat) (R : Type) (K : X → St → Option R) (v : f30p0H.Den) : evS tab (f30T k) Go.Proofs.Try.f30.ntmps [] f30p0C 30 (partK f30p0M K) (encSt f30p0H v) = f30p0 k (fun w => K .ret (encSt f30p0X0 w)) (fun w => K .normal (encSt f30p0X1 w)) v := by kernel_rfl
theorem f30p0I (k : Nat) : SumsOk P Go.Proofs.Try.f30.ntmps [] f30p0C 30 := SumsOk.nil
theorem f30p0O (k : Nat) : SumOk P Go.Proofs.Try.f30.ntmps f30p0C (f30p0S k) := sum_part tabOk (f30TS k) mixed (f30p0I k) (f30p0E k)
noncomputable def f30F (k : Nat) (x : (Int × (Int × Int)) × (Int × ByteArray)) : Option (Int) :=
  Option.bind (f27F k (x.1.1, (x.1.2.1, x.1.2.2))) fun y1 =>
  bif (y1 != (0 : Int)) then
    some y1
  else
  bif (x.1.1 == (4 : Int)) then
    some (17 : Int)
  else
  f30p0 k
    (fun (w2 : Int × Int × Int × Int × Int × ByteArray × Unit) =>
      some w2.1)
    (fun (w3 : Int × Int × Int × Int × ByteArray × Unit) =>
      bif (w3.1 == (0 : Int)) then
        Option.bind (f69F k ((w3.2.2.2.2.1.size : Int) != w3.2.1)) fun y4 =>
        some (IntKind.i64.wrap ((18 : Int) * y4))
      else
      Option.bind (f49F k (w3.1, (w3.2.1, w3.2.2.1))) fun y5 =>
      Option.bind (f49F k (w3.1, (w3.2.1, w3.2.2.1))) fun y6 =>
      Option.bind (f48F k (w3.2.2.2.1, (IntKind.i64.wrap (0 - y5)), y6)) fun y7 =>
      Option.bind (f69F k (!y7)) fun y8 =>
      some (IntKind.i64.wrap ((19 : Int) * y8)))
    (x.1.1, x.1.2.1, x.1.2.2, x.2.1, x.2.2, ())
noncomputable def f30L (k : Nat) : Sums := [(30, f30p0S k)]
theorem f30LS (k : Nat) : SumsOk P Go.Proofs.Try.f30.ntmps (f30L k) (codeOf Go.Proofs.Try.f30) 1 := (SumsOk.nil).cons (c := f30p0C) (by kernel_rfl) (f30p0O k)
theorem f30E (k : Nat) (x : (Int × (Int × Int)) × (Int × ByteArray)) : evFS tab (f30T k) (f30L k) Go.Proofs.Try.f30.ntmps Go.Proofs.Try.f30.results.toList (codeOf Go.Proofs.Try.f30) (argsV [.agg (.pair (.int .i64) (.pair (.int .i64) (.int .i64))), .agg (.pair (.int .i64) .str)] x) [.dat (.int .i64)] = f30F k x := by kernel_rfl
theorem f30Ok (k : Nat) (x : (Int × (Int × Int)) × (Int × ByteArray)) (y : Int) (h : f30F k x = some y) : FnOk P 30 [.agg (.pair (.int .i64) (.pair (.int .i64) (.int .i64))), .agg (.pair (.int .i64) .str)] [.dat (.int .i64)] x y :=
  evFS_sound tabOk (f30TS k) mixed Go.Proofs.Try.func30 (c := codeOf Go.Proofs.Try.f30) (by kernel_rfl) (f30LS k) ((f30E k x).trans h)
/-! ## midrange/midrangebase.Size -/
noncomputable def f31T (k : Nat) : Table := [(69, entFn [.dat .bool] [.dat (.int .i64)] (f69F k))]
theorem f31TS (k : Nat) : Sound P (f31T k) := (Sound.nil).cons f69B (f69Ok k)
theorem f31B : HasBody P 31 := ⟨Go.Proofs.Try.f31, Go.Proofs.Try.func31, by kernel_rfl, by kernel_rfl⟩
noncomputable def f31F (k : Nat) (x : (Int × (Int × Int))) : Option (Int) :=
  bif (x.1 == (1 : Int)) then
    let t1 := (IntKind.i64.wrap ((IntKind.i64.wrap (Int.tdiv x.2.1 (2 : Int))) + (1 : Int)))
    some t1
  else
  bif (x.1 == (3 : Int)) then
    Option.bind (f69F k (x.2.1 == (9 : Int))) fun y2 =>
    some (IntKind.i64.wrap ((2 : Int) + (IntKind.i64.wrap ((2 : Int) * y2))))
  else
  bif (x.1 == (4 : Int)) then
    some (16 : Int)
  else
  some x.2.1
noncomputable def f31L (k : Nat) : Sums := []
theorem f31LS (k : Nat) : SumsOk P Go.Proofs.Try.f31.ntmps (f31L k) (codeOf Go.Proofs.Try.f31) 1 := SumsOk.nil
theorem f31E (k : Nat) (x : (Int × (Int × Int))) : evFS tab (f31T k) (f31L k) Go.Proofs.Try.f31.ntmps Go.Proofs.Try.f31.results.toList (codeOf Go.Proofs.Try.f31) (argsV [.agg (.pair (.int .i64) (.pair (.int .i64) (.int .i64)))] x) [.dat (.int .i64)] = f31F k x := by kernel_rfl
theorem f31Ok (k : Nat) (x : (Int × (Int × Int))) (y : Int) (h : f31F k x = some y) : FnOk P 31 [.agg (.pair (.int .i64) (.pair (.int .i64) (.int .i64)))] [.dat (.int .i64)] x y :=
  evFS_sound tabOk (f31TS k) mixed Go.Proofs.Try.func31 (c := codeOf Go.Proofs.Try.f31) (by kernel_rfl) (f31LS k) ((f31E k x).trans h)
/-! ## midrange/midrangebase.BigBytes -/
noncomputable def f77T (k : Nat) : Table := []
theorem f77TS (k : Nat) : Sound P (f77T k) := Sound.nil
theorem f77B : HasBody P 77 := ⟨Go.Proofs.Try.f77, Go.Proofs.Try.func77, by kernel_rfl, by kernel_rfl⟩
noncomputable def f77l0H : Shape := ⟨[(0, .one (.int .i64)), (1, .one (.int .i64)), (5, .one (.own 0)), (6, .one (.int .i64))], [(0, .row 5 (.int .u8) .plain)], 1⟩
noncomputable def f77l0X0 : Shape := ⟨[(5, .one (.own 0))], [(0, .row 5 (.int .u8) .plain)], 1⟩
noncomputable def f77l0N : NoteR := ⟨[0, 1, 5, 6], [], []⟩
noncomputable def f77l0M : NoteR := ⟨[4, 5], [], []⟩
noncomputable def f77l0C : Code := firstC (codesAt 58 (codeOf Go.Proofs.Try.f77) 1)
noncomputable def f77l0s {R : Type} (k : Nat) (rec : Int × Int × Int × List Int × Unit → Option R) (k0 : List Int × Unit → Option R) (v : Int × Int × Int × List Int × Unit) : Option R :=
  bif (decide (v.2.2.1 < v.2.1)) then
    bif ((decide ((0 : Int) ≤ (IntKind.i64.wrap ((IntKind.i64.wrap (v.2.1 - (1 : Int))) - v.2.2.1)))) && (decide ((IntKind.i64.wrap ((IntKind.i64.wrap (v.2.1 - (1 : Int))) - v.2.2.1)) < (v.2.2.2.1.length : Int)))) then
    let t1 := (v.2.2.2.1.set (Int.toNat (IntKind.i64.wrap ((IntKind.i64.wrap (v.2.1 - (1 : Int))) - v.2.2.1))) (IntKind.u8.wrap (Int.tmod v.1 (256 : Int))))
    rec ((IntKind.i64.wrap (Int.tdiv v.1 (256 : Int))), v.2.1, (IntKind.i64.wrap (v.2.2.1 + (1 : Int))), t1, ())
    else none
  else
  k0 (v.2.2.2.1, ())
noncomputable def f77l0 {R : Type} (k : Nat) (k0 : List Int × Unit → Option R) (v : Int × Int × Int × List Int × Unit) : Option R := iterS (fun rec v => f77l0s k rec k0 v) k v
noncomputable def f77l0S (k : Nat) : Sum1 := loopSum f77l0H f77l0N k (fun R rec K v => f77l0s k rec (fun w => K (.exit 0) (encSt f77l0X0 w)) v)
theorem f77l0E (k : Nat) (R : Type) (rec : St → Option R) (K : X → St → Option R) (v : f77l0H.Den) : evS tab (f77T k) Go.Proofs.Try.f77.ntmps [] (bodyOf f77l0C) 116 (bodyK f77l0N f77l0M rec K) (encSt f77l0H v) = f77l0s k (fun v => rec (encSt f77l0H v)) (fun w => K (.exit 0) (encSt f77l0X0 w)) v := by kernel_rfl
theorem f77l0I (k : Nat) : SumsOk P Go.Proofs.Try.f77.ntmps [] (bodyOf f77l0C) 116 := SumsOk.nil
theorem f77l0O (k : Nat) : SumOk P Go.Proofs.Try.f77.ntmps f77l0C (f77l0S k) := (show f77l0C = .loop (bodyOf f77l0C) by kernel_rfl) ▸ sum_loop tabOk (f77TS k) mixed (f77l0I k) (f77l0E k)
noncomputable def f77F (k : Nat) (x : Int × Int) : Option (ByteArray) :=
  bif (((decide ((0 : Int) ≤ x.2)) && (decide ((x.2 * 1) ≤ (140737488355328 : Int)))) && (decide (x.2 ≤ (281474976710656 : Int)))) then
  f77l0 k
    (fun (w2 : List Int × Unit) =>
      some (strOfNums w2.1))
    (x.1, x.2, (0 : Int), (List.replicate (Int.toNat x.2) (0 : Int)), ())
  else none
noncomputable def f77L (k : Nat) : Sums := [(58, f77l0S k)]
theorem f77LS (k : Nat) : SumsOk P Go.Proofs.Try.f77.ntmps (f77L k) (codeOf Go.Proofs.Try.f77) 1 := (SumsOk.nil).cons (c := f77l0C) (by kernel_rfl) (f77l0O k)
theorem f77E (k : Nat) (x : Int × Int) : evFS tab (f77T k) (f77L k) Go.Proofs.Try.f77.ntmps Go.Proofs.Try.f77.results.toList (codeOf Go.Proofs.Try.f77) (argsV [.dat (.int .i64), .dat (.int .i64)] x) [.dat .str] = f77F k x := by kernel_rfl
theorem f77Ok (k : Nat) (x : Int × Int) (y : ByteArray) (h : f77F k x = some y) : FnOk P 77 [.dat (.int .i64), .dat (.int .i64)] [.dat .str] x y :=
  evFS_sound tabOk (f77TS k) mixed Go.Proofs.Try.func77 (c := codeOf Go.Proofs.Try.f77) (by kernel_rfl) (f77LS k) ((f77E k x).trans h)
/-! ## midrange/midrangeref01.Amount -/
noncomputable def f79T (k : Nat) : Table := []
theorem f79TS (k : Nat) : Sound P (f79T k) := Sound.nil
theorem f79B : HasBody P 79 := ⟨Go.Proofs.Try.f79, Go.Proofs.Try.func79, by kernel_rfl, by kernel_rfl⟩
noncomputable def f79F (k : Nat) (x : Int) : Option (Int) :=
  some (mxI x (IntKind.i64.wrap (0 - x)))
noncomputable def f79L (k : Nat) : Sums := []
theorem f79LS (k : Nat) : SumsOk P Go.Proofs.Try.f79.ntmps (f79L k) (codeOf Go.Proofs.Try.f79) 1 := SumsOk.nil
theorem f79E (k : Nat) (x : Int) : evFS tab (f79T k) (f79L k) Go.Proofs.Try.f79.ntmps Go.Proofs.Try.f79.results.toList (codeOf Go.Proofs.Try.f79) (argsV [.dat (.int .i64)] x) [.dat (.int .i64)] = f79F k x := by kernel_rfl
theorem f79Ok (k : Nat) (x : Int) (y : Int) (h : f79F k x = some y) : FnOk P 79 [.dat (.int .i64)] [.dat (.int .i64)] x y :=
  evFS_sound tabOk (f79TS k) mixed Go.Proofs.Try.func79 (c := codeOf Go.Proofs.Try.f79) (by kernel_rfl) (f79LS k) ((f79E k x).trans h)
/-! ## midrange/midrangeref01.digits -/
noncomputable def f78T (k : Nat) : Table := []
theorem f78TS (k : Nat) : Sound P (f78T k) := Sound.nil
theorem f78B : HasBody P 78 := ⟨Go.Proofs.Try.f78, Go.Proofs.Try.func78, by kernel_rfl, by kernel_rfl⟩
noncomputable def f78l0H : Shape := ⟨[(0, .one (.int .i64)), (5, .one (.own 0)), (6, .one (.int .i64))], [(0, .row 3 (.int .i64) .plain)], 1⟩
noncomputable def f78l0X0 : Shape := ⟨[(5, .one (.own 0))], [(0, .row 3 (.int .i64) .plain)], 1⟩
noncomputable def f78l0N : NoteR := ⟨[0, 5, 6], [], []⟩
noncomputable def f78l0M : NoteR := ⟨[4, 5], [], []⟩
noncomputable def f78l0C : Code := firstC (codesAt 58 (codeOf Go.Proofs.Try.f78) 1)
noncomputable def f78l0s {R : Type} (k : Nat) (rec : Int × Int × List Int × Unit → Option R) (k0 : List Int × Unit → Option R) (v : Int × Int × List Int × Unit) : Option R :=
  bif (decide (v.2.1 ≥ (0 : Int))) then
    bif ((decide ((0 : Int) ≤ v.2.1)) && (decide (v.2.1 < (v.2.2.1.length : Int)))) then
    rec ((IntKind.i64.wrap (Int.tdiv v.1 (10 : Int))), (IntKind.i64.wrap (v.2.1 - (1 : Int))), (v.2.2.1.set (Int.toNat v.2.1) (Int.tmod v.1 (10 : Int))), ())
    else none
  else
  k0 (v.2.2.1, ())
noncomputable def f78l0 {R : Type} (k : Nat) (k0 : List Int × Unit → Option R) (v : Int × Int × List Int × Unit) : Option R := iterS (fun rec v => f78l0s k rec k0 v) k v
noncomputable def f78l0S (k : Nat) : Sum1 := loopSum f78l0H f78l0N k (fun R rec K v => f78l0s k rec (fun w => K (.exit 0) (encSt f78l0X0 w)) v)
theorem f78l0E (k : Nat) (R : Type) (rec : St → Option R) (K : X → St → Option R) (v : f78l0H.Den) : evS tab (f78T k) Go.Proofs.Try.f78.ntmps [] (bodyOf f78l0C) 116 (bodyK f78l0N f78l0M rec K) (encSt f78l0H v) = f78l0s k (fun v => rec (encSt f78l0H v)) (fun w => K (.exit 0) (encSt f78l0X0 w)) v := by kernel_rfl
theorem f78l0I (k : Nat) : SumsOk P Go.Proofs.Try.f78.ntmps [] (bodyOf f78l0C) 116 := SumsOk.nil
theorem f78l0O (k : Nat) : SumOk P Go.Proofs.Try.f78.ntmps f78l0C (f78l0S k) := (show f78l0C = .loop (bodyOf f78l0C) by kernel_rfl) ▸ sum_loop tabOk (f78TS k) mixed (f78l0I k) (f78l0E k)
noncomputable def f78F (k : Nat) (x : Int × Int) : Option (List Int) :=
  bif (((decide ((0 : Int) ≤ x.2)) && (decide ((x.2 * 8) ≤ (140737488355328 : Int)))) && (decide (x.2 ≤ (281474976710656 : Int)))) then
  f78l0 k
    (fun (w1 : List Int × Unit) =>
      some w1.1)
    (x.1, (IntKind.i64.wrap (x.2 - (1 : Int))), (List.replicate (Int.toNat x.2) (0 : Int)), ())
  else none
noncomputable def f78L (k : Nat) : Sums := [(58, f78l0S k)]
theorem f78LS (k : Nat) : SumsOk P Go.Proofs.Try.f78.ntmps (f78L k) (codeOf Go.Proofs.Try.f78) 1 := (SumsOk.nil).cons (c := f78l0C) (by kernel_rfl) (f78l0O k)
theorem f78E (k : Nat) (x : Int × Int) : evFS tab (f78T k) (f78L k) Go.Proofs.Try.f78.ntmps Go.Proofs.Try.f78.results.toList (codeOf Go.Proofs.Try.f78) (argsV [.dat (.int .i64), .dat (.int .i64)] x) [.own 3 (.int .i64)] = f78F k x := by kernel_rfl
theorem f78Ok (k : Nat) (x : Int × Int) (y : List Int) (h : f78F k x = some y) : FnOk P 78 [.dat (.int .i64), .dat (.int .i64)] [.own 3 (.int .i64)] x y :=
  evFS_sound tabOk (f78TS k) mixed Go.Proofs.Try.func78 (c := codeOf Go.Proofs.Try.f78) (by kernel_rfl) (f78LS k) ((f78E k x).trans h)
/-! ## midrange/midrangeref01.Bytes -/
noncomputable def f41T (k : Nat) : Table := [(31, entFn [.agg (.pair (.int .i64) (.pair (.int .i64) (.int .i64)))] [.dat (.int .i64)] (f31F k)), (69, entFn [.dat .bool] [.dat (.int .i64)] (f69F k)), (77, entFn [.dat (.int .i64), .dat (.int .i64)] [.dat .str] (f77F k)), (78, entFn [.dat (.int .i64), .dat (.int .i64)] [.own 3 (.int .i64)] (f78F k)), (79, entFn [.dat (.int .i64)] [.dat (.int .i64)] (f79F k))]
theorem f41TS (k : Nat) : Sound P (f41T k) := (((((Sound.nil).cons f79B (f79Ok k)).cons f78B (f78Ok k)).cons f77B (f77Ok k)).cons f69B (f69Ok k)).cons f31B (f31Ok k)
theorem f41B : HasBody P 41 := ⟨Go.Proofs.Try.f41, Go.Proofs.Try.func41, by kernel_rfl, by kernel_rfl⟩
noncomputable def f41p0H : Shape := ⟨[(2, .one (.ptr 0 0)), (5, .one (.int .i64))], [(0, .var [.int .i64, .int .i64, .int .i64])], 1⟩
noncomputable def f41p0X0 : Shape := ⟨[(2, .one (.ptr 0 0)), (5, .one (.int .i64))], [(0, .var [.int .i64, .int .i64, .int .i64])], 1⟩
noncomputable def f41p0N : NoteR := ⟨[2, 5], [], []⟩
noncomputable def f41p0M : NoteR := ⟨[2, 3, 4, 5, 6, 7, 9], [], []⟩
noncomputable def f41p0C : Code := firstC (codesAt 1722 (codeOf Go.Proofs.Try.f41) 1)
noncomputable def f41p0 {R : Type} (k : Nat) (k0 : Int × Int × Int × Int × Unit → Option R) (v : Int × Int × Int × Int × Unit) : Option R :=
  bif (decide (v.1 < (0 : Int))) then
    Option.bind (f31F k (v.2.1, (v.2.2.1, v.2.2.2.1))) fun y1 =>
    bif (decide ((0 : Int) ≤ (IntKind.i64.wrap ((8 : Int) * y1)))) then
    let t2 := (IntKind.i64.wrap (v.1 + (shlI .i64 (1 : Int) (IntKind.i64.wrap ((8 : Int) * y1)))))
    k0 (t2, v.2.1, v.2.2.1, v.2.2.2.1, ())
    else none
  else
  k0 (v.1, v.2.1, v.2.2.1, v.2.2.2.1, ())
noncomputable def f41p0S (k : Nat) : Sum1 := partSum f41p0H f41p0N (fun R K v => f41p0 k (fun w => K .normal (encSt f41p0X0 w)) v)
theorem f41p0E (k : Nat) (R : Type) (K : X → St → Option R) (v : f41p0H.Den) : evS tab (f41T k) Go.Proofs.Try.f41.ntmps [] f41p0C 1722 (partK f41p0M K) (encSt f41p0H v) = f41p0 k (fun w => K .normal (encSt f41p0X0 w)) v := by kernel_rfl
theorem f41p0I (k : Nat) : SumsOk P Go.Proofs.Try.f41.ntmps [] f41p0C 1722 := SumsOk.nil
theorem f41p0O (k : Nat) : SumOk P Go.Proofs.Try.f41.ntmps f41p0C (f41p0S k) := sum_part tabOk (f41TS k) mixed (f41p0I k) (f41p0E k)
noncomputable def f41l1H : Shape := ⟨[(2, .one (.ptr 0 0)), (3, .one (.ptr 1 0)), (6, .one (.own 2)), (7, .one (.own 3)), (8, .one (.int .i64))], [(0, .var [.int .i64, .int .i64, .int .i64]), (1, .var [.int .i64, .str]), (2, .row 3 (.int .i64) .plain), (3, .row 5 (.int .u8) .plain)], 4⟩
noncomputable def f41l1X0 : Shape := ⟨[(2, .one (.ptr 0 0)), (3, .one (.ptr 1 0)), (6, .one (.own 2)), (7, .one (.own 3))], [(0, .var [.int .i64, .int .i64, .int .i64]), (1, .var [.int .i64, .str]), (2, .row 3 (.int .i64) .plain), (3, .row 5 (.int .u8) .plain)], 4⟩
noncomputable def f41l1N : NoteR := ⟨[2, 3, 6, 7, 8], [], []⟩
noncomputable def f41l1M : NoteR := ⟨[2, 3, 4, 6, 7], [], []⟩
noncomputable def f41l1C : Code := firstC (codesAt 1962 (codeOf Go.Proofs.Try.f41) 1)
noncomputable def f41l1s {R : Type} (k : Nat) (rec : Int × Int × Int × Int × Int × ByteArray × List Int × List Int × Unit → Option R) (k0 : Int × Int × Int × Int × ByteArray × List Int × List Int × Unit → Option R) (v : Int × Int × Int × Int × Int × ByteArray × List Int × List Int × Unit) : Option R :=
  bif (decide (v.1 < v.2.2.1)) then
    bif ((decide ((0 : Int) ≤ v.1)) && (decide (v.1 < (v.2.2.2.2.2.2.1.length : Int)))) then
    let t8 := (IntKind.i64.wrap ((240 : Int) + (v.2.2.2.2.2.2.1.getD (Int.toNat v.1) (0 : Int))))
    bif ((decide ((0 : Int) ≤ v.1)) && (decide (v.1 < (v.2.2.2.2.2.2.2.1.length : Int)))) then
    rec ((IntKind.i64.wrap (v.1 + (1 : Int))), v.2.1, v.2.2.1, v.2.2.2.1, v.2.2.2.2.1, v.2.2.2.2.2.1, v.2.2.2.2.2.2.1, (v.2.2.2.2.2.2.2.1.set (Int.toNat v.1) (IntKind.u8.wrap t8)), ())
    else none
    else none
  else
  k0 (v.2.1, v.2.2.1, v.2.2.2.1, v.2.2.2.2.1, v.2.2.2.2.2.1, v.2.2.2.2.2.2.1, v.2.2.2.2.2.2.2.1, ())
noncomputable def f41l1 {R : Type} (k : Nat) (k0 : Int × Int × Int × Int × ByteArray × List Int × List Int × Unit → Option R) (v : Int × Int × Int × Int × Int × ByteArray × List Int × List Int × Unit) : Option R := iterS (fun rec v => f41l1s k rec k0 v) k v
noncomputable def f41l1S (k : Nat) : Sum1 := loopSum f41l1H f41l1N k (fun R rec K v => f41l1s k rec (fun w => K (.exit 1) (encSt f41l1X0 w)) v)
theorem f41l1E (k : Nat) (R : Type) (rec : St → Option R) (K : X → St → Option R) (v : f41l1H.Den) : evS tab (f41T k) Go.Proofs.Try.f41.ntmps [] (bodyOf f41l1C) 3924 (bodyK f41l1N f41l1M rec K) (encSt f41l1H v) = f41l1s k (fun v => rec (encSt f41l1H v)) (fun w => K (.exit 1) (encSt f41l1X0 w)) v := by kernel_rfl
theorem f41l1I (k : Nat) : SumsOk P Go.Proofs.Try.f41.ntmps [] (bodyOf f41l1C) 3924 := SumsOk.nil
theorem f41l1O (k : Nat) : SumOk P Go.Proofs.Try.f41.ntmps f41l1C (f41l1S k) := (show f41l1C = .loop (bodyOf f41l1C) by kernel_rfl) ▸ sum_loop tabOk (f41TS k) mixed (f41l1I k) (f41l1E k)
noncomputable def f41p2H : Shape := ⟨[(2, .one (.ptr 0 0)), (3, .one (.ptr 1 0)), (6, .one (.own 2)), (7, .one (.own 3))], [(0, .var [.int .i64, .int .i64, .int .i64]), (1, .var [.int .i64, .str]), (2, .row 3 (.int .i64) .plain), (3, .row 5 (.int .u8) .plain)], 4⟩
noncomputable def f41p2X0 : Shape := ⟨[(2, .one (.ptr 0 0)), (3, .one (.ptr 1 0)), (6, .one (.own 2)), (7, .one (.own 3))], [(0, .var [.int .i64, .int .i64, .int .i64]), (1, .var [.int .i64, .str]), (2, .row 3 (.int .i64) .plain), (3, .row 5 (.int .u8) .plain)], 4⟩
noncomputable def f41p2N : NoteR := ⟨[2, 3, 6, 7], [], []⟩
noncomputable def f41p2M : NoteR := ⟨[2, 3, 4, 6, 7, 9], [], []⟩
noncomputable def f41p2C : Code := firstC (codesAt 982 (codeOf Go.Proofs.Try.f41) 1)
noncomputable def f41p2 {R : Type} (k : Nat) (k0 : Int × Int × Int × Int × ByteArray × List Int × List Int × Unit → Option R) (v : Int × Int × Int × Int × ByteArray × List Int × List Int × Unit) : Option R :=
  bif (decide (v.2.2.2.1 < (0 : Int))) then
    bif ((decide ((0 : Int) ≤ (IntKind.i64.wrap (v.2.1 - (1 : Int))))) && (decide ((IntKind.i64.wrap (v.2.1 - (1 : Int))) < (v.2.2.2.2.2.1.length : Int)))) then
    let t10 := (v.2.2.2.2.2.1.getD (Int.toNat (IntKind.i64.wrap (v.2.1 - (1 : Int)))) (0 : Int))
    bif ((decide ((0 : Int) ≤ (IntKind.i64.wrap (v.2.1 - (1 : Int))))) && (decide ((IntKind.i64.wrap (v.2.1 - (1 : Int))) < (v.2.2.2.2.2.2.1.length : Int)))) then
    let t11 := (v.2.2.2.2.2.2.1.set (Int.toNat (IntKind.i64.wrap (v.2.1 - (1 : Int)))) (IntKind.u8.wrap (IntKind.i64.wrap ((208 : Int) + t10))))
    k0 (v.1, v.2.1, v.2.2.1, v.2.2.2.1, v.2.2.2.2.1, v.2.2.2.2.2.1, t11, ())
    else none
    else none
  else
  k0 (v.1, v.2.1, v.2.2.1, v.2.2.2.1, v.2.2.2.2.1, v.2.2.2.2.2.1, v.2.2.2.2.2.2.1, ())
noncomputable def f41p2S (k : Nat) : Sum1 := partSum f41p2H f41p2N (fun R K v => f41p2 k (fun w => K .normal (encSt f41p2X0 w)) v)
theorem f41p2E (k : Nat) (R : Type) (K : X → St → Option R) (v : f41p2H.Den) : evS tab (f41T k) Go.Proofs.Try.f41.ntmps [] f41p2C 982 (partK f41p2M K) (encSt f41p2H v) = f41p2 k (fun w => K .normal (encSt f41p2X0 w)) v := by kernel_rfl
theorem f41p2I (k : Nat) : SumsOk P Go.Proofs.Try.f41.ntmps [] f41p2C 982 := SumsOk.nil
theorem f41p2O (k : Nat) : SumOk P Go.Proofs.Try.f41.ntmps f41p2C (f41p2S k) := sum_part tabOk (f41TS k) mixed (f41p2I k) (f41p2E k)
noncomputable def f41p3H : Shape := ⟨[(2, .one (.ptr 0 0)), (3, .one (.ptr 1 0)), (6, .one (.own 2))], [(0, .var [.int .i64, .int .i64, .int .i64]), (1, .var [.int .i64, .str]), (2, .row 3 (.int .i64) .plain)], 3⟩
noncomputable def f41p3X0 : Shape := ⟨[(2, .one (.ptr 0 0)), (3, .one (.ptr 1 0)), (6, .one (.own 2))], [(0, .var [.int .i64, .int .i64, .int .i64]), (1, .var [.int .i64, .str]), (2, .row 3 (.int .i64) .plain)], 3⟩
noncomputable def f41p3N : NoteR := ⟨[2, 3, 6], [], []⟩
noncomputable def f41p3M : NoteR := ⟨[2, 3, 4, 6, 7, 9], [], []⟩
noncomputable def f41p3C : Code := firstC (codesAt 62 (codeOf Go.Proofs.Try.f41) 1)
noncomputable def f41p3 {R : Type} (k : Nat) (k0 : Int × Int × Int × Int × ByteArray × List Int × Unit → Option R) (v : Int × Int × Int × Int × ByteArray × List Int × Unit) : Option R :=
  bif ((Int.tmod v.2.1 (2 : Int)) == (0 : Int)) then
    bif (decide (([(0 : Int)].length + v.2.2.2.2.2.1.length) * 8 ≤ 140737488355328) && decide ([(0 : Int)].length + v.2.2.2.2.2.1.length ≤ 9223372036854775807)) then
    k0 (v.1, v.2.1, v.2.2.1, v.2.2.2.1, v.2.2.2.2.1, ([(0 : Int)] ++ v.2.2.2.2.2.1), ())
    else none
  else
  k0 (v.1, v.2.1, v.2.2.1, v.2.2.2.1, v.2.2.2.2.1, v.2.2.2.2.2.1, ())
noncomputable def f41p3S (k : Nat) : Sum1 := partSum f41p3H f41p3N (fun R K v => f41p3 k (fun w => K .normal (encSt f41p3X0 w)) v)
theorem f41p3E (k : Nat) (R : Type) (K : X → St → Option R) (v : f41p3H.Den) : evS tab (f41T k) Go.Proofs.Try.f41.ntmps [] f41p3C 62 (partK f41p3M K) (encSt f41p3H v) = f41p3 k (fun w => K .normal (encSt f41p3X0 w)) v := by kernel_rfl
theorem f41p3I (k : Nat) : SumsOk P Go.Proofs.Try.f41.ntmps [] f41p3C 62 := SumsOk.nil
theorem f41p3O (k : Nat) : SumOk P Go.Proofs.Try.f41.ntmps f41p3C (f41p3S k) := sum_part tabOk (f41TS k) mixed (f41p3I k) (f41p3E k)
noncomputable def f41l4H : Shape := ⟨[(6, .one (.own 0)), (9, .one (.own 1)), (10, .one (.int .i64))], [(0, .row 3 (.int .i64) .plain), (1, .row 5 (.int .u8) .plain)], 2⟩
noncomputable def f41l4X0 : Shape := ⟨[(9, .one (.own 0))], [(0, .row 5 (.int .u8) .plain)], 1⟩
noncomputable def f41l4N : NoteR := ⟨[6, 9, 10], [], []⟩
noncomputable def f41l4M : NoteR := ⟨[4, 9], [], []⟩
noncomputable def f41l4C : Code := firstC (codesAt 2042 (codeOf Go.Proofs.Try.f41) 1)
noncomputable def f41l4s {R : Type} (k : Nat) (rec : Int × List Int × List Int × Unit → Option R) (k0 : List Int × Unit → Option R) (v : Int × List Int × List Int × Unit) : Option R :=
  bif (decide (v.1 < (v.2.2.1.length : Int))) then
    bif ((decide ((0 : Int) ≤ (IntKind.i64.wrap ((2 : Int) * v.1)))) && (decide ((IntKind.i64.wrap ((2 : Int) * v.1)) < (v.2.1.length : Int)))) then
    let t17 := (v.2.1.getD (Int.toNat (IntKind.i64.wrap ((2 : Int) * v.1))) (0 : Int))
    bif ((decide ((0 : Int) ≤ (IntKind.i64.wrap ((IntKind.i64.wrap ((2 : Int) * v.1)) + (1 : Int))))) && (decide ((IntKind.i64.wrap ((IntKind.i64.wrap ((2 : Int) * v.1)) + (1 : Int))) < (v.2.1.length : Int)))) then
    let t18 := (v.2.1.getD (Int.toNat (IntKind.i64.wrap ((IntKind.i64.wrap ((2 : Int) * v.1)) + (1 : Int)))) (0 : Int))
    let t19 := (IntKind.u8.wrap (IntKind.i64.wrap ((IntKind.i64.wrap ((16 : Int) * t17)) + t18)))
    bif ((decide ((0 : Int) ≤ v.1)) && (decide (v.1 < (v.2.2.1.length : Int)))) then
    rec ((IntKind.i64.wrap (v.1 + (1 : Int))), v.2.1, (v.2.2.1.set (Int.toNat v.1) t19), ())
    else none
    else none
    else none
  else
  k0 (v.2.2.1, ())
noncomputable def f41l4 {R : Type} (k : Nat) (k0 : List Int × Unit → Option R) (v : Int × List Int × List Int × Unit) : Option R := iterS (fun rec v => f41l4s k rec k0 v) k v
noncomputable def f41l4S (k : Nat) : Sum1 := loopSum f41l4H f41l4N k (fun R rec K v => f41l4s k rec (fun w => K (.exit 3) (encSt f41l4X0 w)) v)
theorem f41l4E (k : Nat) (R : Type) (rec : St → Option R) (K : X → St → Option R) (v : f41l4H.Den) : evS tab (f41T k) Go.Proofs.Try.f41.ntmps [] (bodyOf f41l4C) 4084 (bodyK f41l4N f41l4M rec K) (encSt f41l4H v) = f41l4s k (fun v => rec (encSt f41l4H v)) (fun w => K (.exit 3) (encSt f41l4X0 w)) v := by kernel_rfl
theorem f41l4I (k : Nat) : SumsOk P Go.Proofs.Try.f41.ntmps [] (bodyOf f41l4C) 4084 := SumsOk.nil
theorem f41l4O (k : Nat) : SumOk P Go.Proofs.Try.f41.ntmps f41l4C (f41l4S k) := (show f41l4C = .loop (bodyOf f41l4C) by kernel_rfl) ▸ sum_loop tabOk (f41TS k) mixed (f41l4I k) (f41l4E k)
noncomputable def f41F (k : Nat) (x : (Int × (Int × Int)) × (Int × ByteArray)) : Option (ByteArray) :=
  bif (x.1.1 == (0 : Int)) then
    some x.2.2
  else
  bif (x.1.1 == (3 : Int)) then
    f41p0 k
      (fun (w3 : Int × Int × Int × Int × Unit) =>
        Option.bind (f31F k (w3.2.1, (w3.2.2.1, w3.2.2.2.1))) fun y4 =>
        Option.bind (f77F k (w3.1, y4)) fun y5 =>
        some y5)
      (x.2.1, x.1.1, x.1.2.1, x.1.2.2, ())
  else
  Option.bind (f79F k x.2.1) fun y6 =>
  Option.bind (f78F k (y6, x.1.2.1)) fun y7 =>
  bif (x.1.1 == (2 : Int)) then
    bif (((decide ((0 : Int) ≤ x.1.2.1)) && (decide ((x.1.2.1 * 1) ≤ (140737488355328 : Int)))) && (decide (x.1.2.1 ≤ (281474976710656 : Int)))) then
    f41l1 k
      (fun (w9 : Int × Int × Int × Int × ByteArray × List Int × List Int × Unit) =>
        f41p2 k
          (fun (w12 : Int × Int × Int × Int × ByteArray × List Int × List Int × Unit) =>
            some (strOfNums w12.2.2.2.2.2.2.1))
          (w9.1, w9.2.1, w9.2.2.1, w9.2.2.2.1, w9.2.2.2.2.1, w9.2.2.2.2.2.1, w9.2.2.2.2.2.2.1, ()))
      ((0 : Int), x.1.1, x.1.2.1, x.1.2.2, x.2.1, x.2.2, y7, (List.replicate (Int.toNat x.1.2.1) (0 : Int)), ())
    else none
  else
  f41p3 k
    (fun (w13 : Int × Int × Int × Int × ByteArray × List Int × Unit) =>
      Option.bind (f69F k (decide (w13.2.2.2.1 < (0 : Int)))) fun y14 =>
      let t15 := [(IntKind.i64.wrap ((15 : Int) - (IntKind.i64.wrap ((2 : Int) * y14))))]
      bif (decide ((w13.2.2.2.2.2.1.length + t15.length) * 8 ≤ 140737488355328) && decide (w13.2.2.2.2.2.1.length + t15.length ≤ 9223372036854775807)) then
      let t16 := (IntKind.i64.wrap (Int.tdiv ((w13.2.2.2.2.2.1 ++ t15).length : Int) (2 : Int)))
      bif (((decide ((0 : Int) ≤ t16)) && (decide ((t16 * 1) ≤ (140737488355328 : Int)))) && (decide (t16 ≤ (281474976710656 : Int)))) then
      f41l4 k
        (fun (w20 : List Int × Unit) =>
          some (strOfNums w20.1))
        ((0 : Int), (w13.2.2.2.2.2.1 ++ t15), (List.replicate (Int.toNat t16) (0 : Int)), ())
      else none
      else none)
    (x.1.1, x.1.2.1, x.1.2.2, x.2.1, x.2.2, y7, ())
noncomputable def f41L (k : Nat) : Sums := [(1722, f41p0S k), (1962, f41l1S k), (982, f41p2S k), (62, f41p3S k), (2042, f41l4S k)]
theorem f41LS (k : Nat) : SumsOk P Go.Proofs.Try.f41.ntmps (f41L k) (codeOf Go.Proofs.Try.f41) 1 := (((((SumsOk.nil).cons (c := f41l4C) (by kernel_rfl) (f41l4O k)).cons (c := f41p3C) (by kernel_rfl) (f41p3O k)).cons (c := f41p2C) (by kernel_rfl) (f41p2O k)).cons (c := f41l1C) (by kernel_rfl) (f41l1O k)).cons (c := f41p0C) (by kernel_rfl) (f41p0O k)
theorem f41E (k : Nat) (x : (Int × (Int × Int)) × (Int × ByteArray)) : evFS tab (f41T k) (f41L k) Go.Proofs.Try.f41.ntmps Go.Proofs.Try.f41.results.toList (codeOf Go.Proofs.Try.f41) (argsV [.agg (.pair (.int .i64) (.pair (.int .i64) (.int .i64))), .agg (.pair (.int .i64) .str)] x) [.dat .str] = f41F k x := by kernel_rfl
theorem f41Ok (k : Nat) (x : (Int × (Int × Int)) × (Int × ByteArray)) (y : ByteArray) (h : f41F k x = some y) : FnOk P 41 [.agg (.pair (.int .i64) (.pair (.int .i64) (.int .i64))), .agg (.pair (.int .i64) .str)] [.dat .str] x y :=
  evFS_sound tabOk (f41TS k) mixed Go.Proofs.Try.func41 (c := codeOf Go.Proofs.Try.f41) (by kernel_rfl) (f41LS k) ((f41E k x).trans h)
/-! ## midrange/midrangeref01.Encode -/
noncomputable def f15T (k : Nat) : Table := [(30, entFn [.agg (.pair (.int .i64) (.pair (.int .i64) (.int .i64))), .agg (.pair (.int .i64) .str)] [.dat (.int .i64)] (f30F k)), (41, entFn [.agg (.pair (.int .i64) (.pair (.int .i64) (.int .i64))), .agg (.pair (.int .i64) .str)] [.dat .str] (f41F k))]
theorem f15TS (k : Nat) : Sound P (f15T k) := ((Sound.nil).cons f41B (f41Ok k)).cons f30B (f30Ok k)
theorem f15B : HasBody P 15 := ⟨Go.Proofs.Try.f15, Go.Proofs.Try.func15, by kernel_rfl, by kernel_rfl⟩
noncomputable def f15F (k : Nat) (x : (Int × (Int × Int)) × (Int × ByteArray)) : Option (ByteArray × Int) :=
  Option.bind (f30F k ((x.1.1, (x.1.2.1, x.1.2.2)), (x.2.1, x.2.2))) fun y1 =>
  bif (y1 != (0 : Int)) then
    some (ByteArray.empty, y1)
  else
  Option.bind (f41F k ((x.1.1, (x.1.2.1, x.1.2.2)), (x.2.1, x.2.2))) fun y2 =>
  some (y2, (0 : Int))
noncomputable def f15L (k : Nat) : Sums := []
theorem f15LS (k : Nat) : SumsOk P Go.Proofs.Try.f15.ntmps (f15L k) (codeOf Go.Proofs.Try.f15) 1 := SumsOk.nil
theorem f15E (k : Nat) (x : (Int × (Int × Int)) × (Int × ByteArray)) : evFS tab (f15T k) (f15L k) Go.Proofs.Try.f15.ntmps Go.Proofs.Try.f15.results.toList (codeOf Go.Proofs.Try.f15) (argsV [.agg (.pair (.int .i64) (.pair (.int .i64) (.int .i64))), .agg (.pair (.int .i64) .str)] x) [.dat .str, .dat (.int .i64)] = f15F k x := by kernel_rfl
theorem f15Ok (k : Nat) (x : (Int × (Int × Int)) × (Int × ByteArray)) (y : ByteArray × Int) (h : f15F k x = some y) : FnOk P 15 [.agg (.pair (.int .i64) (.pair (.int .i64) (.int .i64))), .agg (.pair (.int .i64) .str)] [.dat .str, .dat (.int .i64)] x y :=
  evFS_sound tabOk (f15TS k) mixed Go.Proofs.Try.func15 (c := codeOf Go.Proofs.Try.f15) (by kernel_rfl) (f15LS k) ((f15E k x).trans h)
/-! ## midrange/midrangelaw01.NumericEncodes -/
noncomputable def f3T (k : Nat) : Table := [(13, entFn [] [.dat .bool] (f13F k)), (14, entFn [.agg (.pair (.int .i64) (.pair (.int .i64) (.int .i64))), .agg (.pair (.int .i64) .str)] [.dat .str, .dat (.int .i64)] (f14F k)), (15, entFn [.agg (.pair (.int .i64) (.pair (.int .i64) (.int .i64))), .agg (.pair (.int .i64) .str)] [.dat .str, .dat (.int .i64)] (f15F k))]
theorem f3TS (k : Nat) : Sound P (f3T k) := (((Sound.nil).cons f15B (f15Ok k)).cons f14B (f14Ok k)).cons f13B (f13Ok k)
theorem f3B : HasBody P 3 := ⟨Go.Proofs.Try.f3, Go.Proofs.Try.func3, by kernel_rfl, by kernel_rfl⟩
noncomputable def f3F (k : Nat) (x : (Int × (Int × Int)) × (Int × ByteArray)) : Option (Bool) :=
  Option.bind (f13F k ()) fun y1 =>
  bif (!y1) then
    some false
  else
  bif (decide ((x.2.2.size : Int) > (700 : Int))) then
    some true
  else
  Option.bind (f14F k ((x.1.1, (x.1.2.1, x.1.2.2)), (x.2.1, x.2.2))) fun y2 =>
  Option.bind (f15F k ((x.1.1, (x.1.2.1, x.1.2.2)), (x.2.1, x.2.2))) fun y3 =>
  bif (y2.2 == y3.2) then
    some (strEq y2.1 y3.1)
  else
  some false
noncomputable def f3L (k : Nat) : Sums := []
theorem f3LS (k : Nat) : SumsOk P Go.Proofs.Try.f3.ntmps (f3L k) (codeOf Go.Proofs.Try.f3) 1 := SumsOk.nil
theorem f3E (k : Nat) (x : (Int × (Int × Int)) × (Int × ByteArray)) : evFS tab (f3T k) (f3L k) Go.Proofs.Try.f3.ntmps Go.Proofs.Try.f3.results.toList (codeOf Go.Proofs.Try.f3) (argsV [.agg (.pair (.int .i64) (.pair (.int .i64) (.int .i64))), .agg (.pair (.int .i64) .str)] x) [.dat .bool] = f3F k x := by kernel_rfl
theorem f3Ok (k : Nat) (x : (Int × (Int × Int)) × (Int × ByteArray)) (y : Bool) (h : f3F k x = some y) : FnOk P 3 [.agg (.pair (.int .i64) (.pair (.int .i64) (.int .i64))), .agg (.pair (.int .i64) .str)] [.dat .bool] x y :=
  evFS_sound tabOk (f3TS k) mixed Go.Proofs.Try.func3 (c := codeOf Go.Proofs.Try.f3) (by kernel_rfl) (f3LS k) ((f3E k x).trans h)
/-! ## midrange/midrangebase.Big -/
noncomputable def f47T (k : Nat) : Table := []
theorem f47TS (k : Nat) : Sound P (f47T k) := Sound.nil
theorem f47B : HasBody P 47 := ⟨Go.Proofs.Try.f47, Go.Proofs.Try.func47, by kernel_rfl, by kernel_rfl⟩
noncomputable def f47l0H : Shape := ⟨[(0, .one (.str)), (1, .one (.int .i64)), (2, .one (.int .i64)), (7, .one (.int .i64)), (8, .one (.int .i64))], [], 0⟩
noncomputable def f47l0X0 : Shape := ⟨[(7, .one (.int .i64))], [], 0⟩
noncomputable def f47l0N : NoteR := ⟨[0, 1, 2, 7, 8], [], []⟩
noncomputable def f47l0M : NoteR := ⟨[6, 7], [], []⟩
noncomputable def f47l0C : Code := firstC (codesAt 58 (codeOf Go.Proofs.Try.f47) 1)
noncomputable def f47l0s {R : Type} (k : Nat) (rec : ByteArray × Int × Int × Int × Int × Unit → Option R) (k0 : Int × Unit → Option R) (v : ByteArray × Int × Int × Int × Int × Unit) : Option R :=
  bif (decide (v.2.2.2.2.1 < v.2.2.1)) then
    bif ((decide ((0 : Int) ≤ (IntKind.i64.wrap (v.2.1 + v.2.2.2.2.1)))) && (decide ((IntKind.i64.wrap (v.2.1 + v.2.2.2.2.1)) < (v.1.size : Int)))) then
    let t1 := (IntKind.i64.wrap ((IntKind.i64.wrap (v.2.2.2.1 * (256 : Int))) + (IntKind.i64.wrap (bt v.1 (IntKind.i64.wrap (v.2.1 + v.2.2.2.2.1))))))
    rec (v.1, v.2.1, v.2.2.1, t1, (IntKind.i64.wrap (v.2.2.2.2.1 + (1 : Int))), ())
    else none
  else
  k0 (v.2.2.2.1, ())
noncomputable def f47l0 {R : Type} (k : Nat) (k0 : Int × Unit → Option R) (v : ByteArray × Int × Int × Int × Int × Unit) : Option R := iterS (fun rec v => f47l0s k rec k0 v) k v
noncomputable def f47l0S (k : Nat) : Sum1 := loopSum f47l0H f47l0N k (fun R rec K v => f47l0s k rec (fun w => K (.exit 0) (encSt f47l0X0 w)) v)
theorem f47l0E (k : Nat) (R : Type) (rec : St → Option R) (K : X → St → Option R) (v : f47l0H.Den) : evS tab (f47T k) Go.Proofs.Try.f47.ntmps [] (bodyOf f47l0C) 116 (bodyK f47l0N f47l0M rec K) (encSt f47l0H v) = f47l0s k (fun v => rec (encSt f47l0H v)) (fun w => K (.exit 0) (encSt f47l0X0 w)) v := by kernel_rfl
theorem f47l0I (k : Nat) : SumsOk P Go.Proofs.Try.f47.ntmps [] (bodyOf f47l0C) 116 := SumsOk.nil
theorem f47l0O (k : Nat) : SumOk P Go.Proofs.Try.f47.ntmps f47l0C (f47l0S k) := (show f47l0C = .loop (bodyOf f47l0C) by kernel_rfl) ▸ sum_loop tabOk (f47TS k) mixed (f47l0I k) (f47l0E k)
noncomputable def f47F (k : Nat) (x : ByteArray × Int × Int) : Option (Int) :=
  f47l0 k
    (fun (w2 : Int × Unit) =>
      some w2.1)
    (x.1, x.2.1, x.2.2, (0 : Int), (0 : Int), ())
noncomputable def f47L (k : Nat) : Sums := [(58, f47l0S k)]
theorem f47LS (k : Nat) : SumsOk P Go.Proofs.Try.f47.ntmps (f47L k) (codeOf Go.Proofs.Try.f47) 1 := (SumsOk.nil).cons (c := f47l0C) (by kernel_rfl) (f47l0O k)
theorem f47E (k : Nat) (x : ByteArray × Int × Int) : evFS tab (f47T k) (f47L k) Go.Proofs.Try.f47.ntmps Go.Proofs.Try.f47.results.toList (codeOf Go.Proofs.Try.f47) (argsV [.dat .str, .dat (.int .i64), .dat (.int .i64)] x) [.dat (.int .i64)] = f47F k x := by kernel_rfl
theorem f47Ok (k : Nat) (x : ByteArray × Int × Int) (y : Int) (h : f47F k x = some y) : FnOk P 47 [.dat .str, .dat (.int .i64), .dat (.int .i64)] [.dat (.int .i64)] x y :=
  evFS_sound tabOk (f47TS k) mixed Go.Proofs.Try.func47 (c := codeOf Go.Proofs.Try.f47) (by kernel_rfl) (f47LS k) ((f47E k x).trans h)
/-! ## midrange/midrangeref01.signed -/
noncomputable def f82T (k : Nat) : Table := []
theorem f82TS (k : Nat) : Sound P (f82T k) := Sound.nil
theorem f82B : HasBody P 82 := ⟨Go.Proofs.Try.f82, Go.Proofs.Try.func82, by kernel_rfl, by kernel_rfl⟩
noncomputable def f82p0H : Shape := ⟨[(0, .one (.int .i64)), (1, .one (.int .i64))], [], 0⟩
noncomputable def f82p0X0 : Shape := ⟨[(0, .one (.int .i64)), (1, .one (.int .i64))], [], 0⟩
noncomputable def f82p0N : NoteR := ⟨[0, 1], [], []⟩
noncomputable def f82p0M : NoteR := ⟨[0, 1, 4, 5], [], []⟩
noncomputable def f82p0C : Code := firstC (codesAt 6 (codeOf Go.Proofs.Try.f82) 1)
noncomputable def f82p0 {R : Type} (k : Nat) (k0 : Int × Int × Unit → Option R) (v : Int × Int × Unit) : Option R :=
  bif (v.2.1 == (11 : Int)) then
    k0 ((IntKind.i64.wrap (0 - v.1)), v.2.1, ())
  else
  bif (v.2.1 == (13 : Int)) then
    k0 ((IntKind.i64.wrap (0 - v.1)), v.2.1, ())
  else
  k0 (v.1, v.2.1, ())
noncomputable def f82p0S (k : Nat) : Sum1 := partSum f82p0H f82p0N (fun R K v => f82p0 k (fun w => K .normal (encSt f82p0X0 w)) v)
theorem f82p0E (k : Nat) (R : Type) (K : X → St → Option R) (v : f82p0H.Den) : evS tab (f82T k) Go.Proofs.Try.f82.ntmps [] f82p0C 6 (partK f82p0M K) (encSt f82p0H v) = f82p0 k (fun w => K .normal (encSt f82p0X0 w)) v := by kernel_rfl
theorem f82p0I (k : Nat) : SumsOk P Go.Proofs.Try.f82.ntmps [] f82p0C 6 := SumsOk.nil
theorem f82p0O (k : Nat) : SumOk P Go.Proofs.Try.f82.ntmps f82p0C (f82p0S k) := sum_part tabOk (f82TS k) mixed (f82p0I k) (f82p0E k)
noncomputable def f82F (k : Nat) (x : Int × Int) : Option (Int × Bool) :=
  f82p0 k
    (fun (w1 : Int × Int × Unit) =>
      some (w1.1, (decide (w1.2.1 ≥ (10 : Int)))))
    (x.1, x.2, ())
noncomputable def f82L (k : Nat) : Sums := [(6, f82p0S k)]
theorem f82LS (k : Nat) : SumsOk P Go.Proofs.Try.f82.ntmps (f82L k) (codeOf Go.Proofs.Try.f82) 1 := (SumsOk.nil).cons (c := f82p0C) (by kernel_rfl) (f82p0O k)
theorem f82E (k : Nat) (x : Int × Int) : evFS tab (f82T k) (f82L k) Go.Proofs.Try.f82.ntmps Go.Proofs.Try.f82.results.toList (codeOf Go.Proofs.Try.f82) (argsV [.dat (.int .i64), .dat (.int .i64)] x) [.dat (.int .i64), .dat .bool] = f82F k x := by kernel_rfl
theorem f82Ok (k : Nat) (x : Int × Int) (y : Int × Bool) (h : f82F k x = some y) : FnOk P 82 [.dat (.int .i64), .dat (.int .i64)] [.dat (.int .i64), .dat .bool] x y :=
  evFS_sound tabOk (f82TS k) mixed Go.Proofs.Try.func82 (c := codeOf Go.Proofs.Try.f82) (by kernel_rfl) (f82LS k) ((f82E k x).trans h)
/-! ## midrange/midrangeref01.decodeZoned -/
noncomputable def f50T (k : Nat) : Table := [(82, entFn [.dat (.int .i64), .dat (.int .i64)] [.dat (.int .i64), .dat .bool] (f82F k))]
theorem f50TS (k : Nat) : Sound P (f50T k) := (Sound.nil).cons f82B (f82Ok k)
theorem f50B : HasBody P 50 := ⟨Go.Proofs.Try.f50, Go.Proofs.Try.func50, by kernel_rfl, by kernel_rfl⟩
noncomputable def f50p0H : Shape := ⟨[(0, .one (.str)), (2, .one (.ptr 0 0)), (5, .one (.int .i64)), (6, .one (.int .i64)), (7, .one (.int .i64))], [(0, .var [.int .i64, .str])], 1⟩
noncomputable def f50p0X0 : Shape := ⟨[(0, .one (.str)), (2, .one (.ptr 0 0)), (5, .one (.int .i64)), (6, .one (.int .i64)), (7, .one (.int .i64))], [(0, .var [.int .i64, .str])], 1⟩
noncomputable def f50p0N : NoteR := ⟨[0, 2, 5, 6, 7], [], []⟩
noncomputable def f50p0M : NoteR := ⟨[0, 2, 3, 4, 5, 6, 7], [], []⟩
noncomputable def f50p0C : Code := firstC (codesAt 1864 (codeOf Go.Proofs.Try.f50) 1)
noncomputable def f50p0 {R : Type} (k : Nat) (k0 : ByteArray × Int × Int × Int × Int × ByteArray × Unit → Option R) (v : ByteArray × Int × Int × Int × Int × ByteArray × Unit) : Option R :=
  bif (v.2.2.2.1 == (IntKind.i64.wrap ((v.1.size : Int) - (1 : Int)))) then
    bif ((decide ((0 : Int) ≤ v.2.2.2.1)) && (decide (v.2.2.2.1 < (v.1.size : Int)))) then
    let t1 := (IntKind.i64.wrap (Int.tdiv (IntKind.i64.wrap (bt v.1 v.2.2.2.1)) (16 : Int)))
    k0 (v.1, v.2.1, t1, v.2.2.2.1, v.2.2.2.2.1, v.2.2.2.2.2.1, ())
    else none
  else
  k0 (v.1, v.2.1, v.2.2.1, v.2.2.2.1, v.2.2.2.2.1, v.2.2.2.2.2.1, ())
noncomputable def f50p0S (k : Nat) : Sum1 := partSum f50p0H f50p0N (fun R K v => f50p0 k (fun w => K .normal (encSt f50p0X0 w)) v)
theorem f50p0E (k : Nat) (R : Type) (K : X → St → Option R) (v : f50p0H.Den) : evS tab (f50T k) Go.Proofs.Try.f50.ntmps [] f50p0C 1864 (partK f50p0M K) (encSt f50p0H v) = f50p0 k (fun w => K .normal (encSt f50p0X0 w)) v := by kernel_rfl
theorem f50p0I (k : Nat) : SumsOk P Go.Proofs.Try.f50.ntmps [] f50p0C 1864 := SumsOk.nil
theorem f50p0O (k : Nat) : SumOk P Go.Proofs.Try.f50.ntmps f50p0C (f50p0S k) := sum_part tabOk (f50TS k) mixed (f50p0I k) (f50p0E k)
noncomputable def f50l1H : Shape := ⟨[(0, .one (.str)), (2, .one (.ptr 0 0)), (5, .one (.int .i64)), (6, .one (.int .i64)), (7, .one (.int .i64))], [(0, .var [.int .i64, .str])], 1⟩
noncomputable def f50l1X0 : Shape := ⟨[(2, .one (.ptr 0 0)), (3, .one (.int .i64)), (4, .one (.int .i64)), (5, .one (.int .i64)), (6, .one (.int .i64))], [(0, .var [.int .i64, .str])], 1⟩
noncomputable def f50l1X1 : Shape := ⟨[(2, .one (.ptr 0 0)), (5, .one (.int .i64)), (6, .one (.int .i64))], [(0, .var [.int .i64, .str])], 1⟩
noncomputable def f50l1N : NoteR := ⟨[0, 2, 5, 6, 7], [], []⟩
noncomputable def f50l1M : NoteR := ⟨[2, 3, 4, 5, 6], [], []⟩
noncomputable def f50l1C : Code := firstC (codesAt 58 (codeOf Go.Proofs.Try.f50) 1)
noncomputable def f50l1s {R : Type} (k : Nat) (rec : ByteArray × Int × Int × Int × Int × ByteArray × Unit → Option R) (k0 : Int × Int × Int × Int × Int × ByteArray × Unit → Option R) (k1 : Int × Int × Int × ByteArray × Unit → Option R) (v : ByteArray × Int × Int × Int × Int × ByteArray × Unit) : Option R :=
  bif (decide (v.2.2.2.1 < (v.1.size : Int))) then
    f50p0 k
      (fun (w2 : ByteArray × Int × Int × Int × Int × ByteArray × Unit) =>
        bif (decide (w2.2.2.1 < (10 : Int))) then
          k0 (w2.2.2.2.1, (21 : Int), w2.2.1, w2.2.2.1, (0 : Int), ByteArray.empty, ())
        else
        bif ((decide ((0 : Int) ≤ w2.2.2.2.1)) && (decide (w2.2.2.2.1 < (w2.1.size : Int)))) then
        bif (decide ((Int.tmod (bt w2.1 w2.2.2.2.1) (16 : Int)) > (9 : Int))) then
          k0 (w2.2.2.2.1, (21 : Int), w2.2.1, w2.2.2.1, (0 : Int), ByteArray.empty, ())
        else
        bif ((decide ((0 : Int) ≤ w2.2.2.2.1)) && (decide (w2.2.2.2.1 < (w2.1.size : Int)))) then
        let t3 := (IntKind.i64.wrap ((IntKind.i64.wrap ((10 : Int) * w2.2.1)) + (Int.tmod (IntKind.i64.wrap (bt w2.1 w2.2.2.2.1)) (16 : Int))))
        rec (w2.1, t3, w2.2.2.1, (IntKind.i64.wrap (w2.2.2.2.1 + (1 : Int))), w2.2.2.2.2.1, w2.2.2.2.2.2.1, ())
        else none
        else none)
      (v.1, v.2.1, v.2.2.1, v.2.2.2.1, v.2.2.2.2.1, v.2.2.2.2.2.1, ())
  else
  k1 (v.2.1, v.2.2.1, v.2.2.2.2.1, v.2.2.2.2.2.1, ())
noncomputable def f50l1 {R : Type} (k : Nat) (k0 : Int × Int × Int × Int × Int × ByteArray × Unit → Option R) (k1 : Int × Int × Int × ByteArray × Unit → Option R) (v : ByteArray × Int × Int × Int × Int × ByteArray × Unit) : Option R := iterS (fun rec v => f50l1s k rec k0 k1 v) k v
noncomputable def f50l1S (k : Nat) : Sum1 := loopSum f50l1H f50l1N k (fun R rec K v => f50l1s k rec (fun w => K .ret (encSt f50l1X0 w)) (fun w => K (.exit 0) (encSt f50l1X1 w)) v)
theorem f50l1E (k : Nat) (R : Type) (rec : St → Option R) (K : X → St → Option R) (v : f50l1H.Den) : evS tab (f50T k) Go.Proofs.Try.f50.ntmps [(1864, f50p0S k)] (bodyOf f50l1C) 116 (bodyK f50l1N f50l1M rec K) (encSt f50l1H v) = f50l1s k (fun v => rec (encSt f50l1H v)) (fun w => K .ret (encSt f50l1X0 w)) (fun w => K (.exit 0) (encSt f50l1X1 w)) v := by kernel_rfl
theorem f50l1I (k : Nat) : SumsOk P Go.Proofs.Try.f50.ntmps [(1864, f50p0S k)] (bodyOf f50l1C) 116 := (SumsOk.nil).cons (c := f50p0C) (by kernel_rfl) (f50p0O k)
theorem f50l1O (k : Nat) : SumOk P Go.Proofs.Try.f50.ntmps f50l1C (f50l1S k) := (show f50l1C = .loop (bodyOf f50l1C) by kernel_rfl) ▸ sum_loop tabOk (f50TS k) mixed (f50l1I k) (f50l1E k)
noncomputable def f50F (k : Nat) (x : ByteArray) : Option ((Int × ByteArray) × Int × Int) :=
  f50l1 k
    (fun (w4 : Int × Int × Int × Int × Int × ByteArray × Unit) =>
      some ((w4.2.2.2.2.1, w4.2.2.2.2.2.1), w4.1, w4.2.1))
    (fun (w5 : Int × Int × Int × ByteArray × Unit) =>
      Option.bind (f82F k (w5.1, w5.2.1)) fun y6 =>
      some ((y6.1, ByteArray.empty), (0 : Int), (0 : Int)))
    (x, (0 : Int), (15 : Int), (0 : Int), (0 : Int), ByteArray.empty, ())
noncomputable def f50L (k : Nat) : Sums := [(1864, f50p0S k), (58, f50l1S k)]
theorem f50LS (k : Nat) : SumsOk P Go.Proofs.Try.f50.ntmps (f50L k) (codeOf Go.Proofs.Try.f50) 1 := ((SumsOk.nil).cons (c := f50l1C) (by kernel_rfl) (f50l1O k)).cons (c := f50p0C) (by kernel_rfl) (f50p0O k)
theorem f50E (k : Nat) (x : ByteArray) : evFS tab (f50T k) (f50L k) Go.Proofs.Try.f50.ntmps Go.Proofs.Try.f50.results.toList (codeOf Go.Proofs.Try.f50) (argsV [.dat .str] x) [.agg (.pair (.int .i64) .str), .dat (.int .i64), .dat (.int .i64)] = f50F k x := by kernel_rfl
theorem f50Ok (k : Nat) (x : ByteArray) (y : (Int × ByteArray) × Int × Int) (h : f50F k x = some y) : FnOk P 50 [.dat .str] [.agg (.pair (.int .i64) .str), .dat (.int .i64), .dat (.int .i64)] x y :=
  evFS_sound tabOk (f50TS k) mixed Go.Proofs.Try.func50 (c := codeOf Go.Proofs.Try.f50) (by kernel_rfl) (f50LS k) ((f50E k x).trans h)
/-! ## midrange/midrangeref01.decodePacked -/
noncomputable def f51T (k : Nat) : Table := [(82, entFn [.dat (.int .i64), .dat (.int .i64)] [.dat (.int .i64), .dat .bool] (f82F k))]
theorem f51TS (k : Nat) : Sound P (f51T k) := (Sound.nil).cons f82B (f82Ok k)
theorem f51B : HasBody P 51 := ⟨Go.Proofs.Try.f51, Go.Proofs.Try.func51, by kernel_rfl, by kernel_rfl⟩
noncomputable def f51p0H : Shape := ⟨[(1, .one (.str)), (2, .one (.ptr 0 0)), (4, .one (.ptr 1 0)), (7, .one (.int .i64)), (8, .one (.int .i64)), (9, .one (.int .i64))], [(0, .var [.int .i64, .int .i64, .int .i64]), (1, .var [.int .i64, .str])], 2⟩
noncomputable def f51p0X0 : Shape := ⟨[(1, .one (.str)), (2, .one (.ptr 0 0)), (4, .one (.ptr 1 0)), (7, .one (.int .i64)), (8, .one (.int .i64)), (9, .one (.int .i64))], [(0, .var [.int .i64, .int .i64, .int .i64]), (1, .var [.int .i64, .str])], 2⟩
noncomputable def f51p0N : NoteR := ⟨[1, 2, 4, 7, 8, 9], [], []⟩
noncomputable def f51p0M : NoteR := ⟨[1, 2, 4, 5, 6, 7, 8, 9], [], []⟩
noncomputable def f51p0C : Code := firstC (codesAt 3730 (codeOf Go.Proofs.Try.f51) 1)
noncomputable def f51p0 {R : Type} (k : Nat) (k0 : ByteArray × Int × Int × Int × Int × Int × Int × Int × ByteArray × Unit → Option R) (v : ByteArray × Int × Int × Int × Int × Int × Int × Int × ByteArray × Unit) : Option R :=
  bif ((Int.tmod v.2.2.1 (2 : Int)) == (1 : Int)) then
    bif ((decide ((0 : Int) ≤ (IntKind.i64.wrap (Int.tdiv v.2.2.1 (2 : Int))))) && (decide ((IntKind.i64.wrap (Int.tdiv v.2.2.1 (2 : Int))) < (v.1.size : Int)))) then
    let t2 := (IntKind.i64.wrap (bt v.1 (IntKind.i64.wrap (Int.tdiv v.2.2.1 (2 : Int)))))
    k0 (v.1, v.2.1, v.2.2.1, (Int.tmod t2 (16 : Int)), v.2.2.2.2.1, v.2.2.2.2.2.1, v.2.2.2.2.2.2.1, v.2.2.2.2.2.2.2.1, v.2.2.2.2.2.2.2.2.1, ())
    else none
  else
  k0 (v.1, v.2.1, v.2.2.1, v.2.2.2.1, v.2.2.2.2.1, v.2.2.2.2.2.1, v.2.2.2.2.2.2.1, v.2.2.2.2.2.2.2.1, v.2.2.2.2.2.2.2.2.1, ())
noncomputable def f51p0S (k : Nat) : Sum1 := partSum f51p0H f51p0N (fun R K v => f51p0 k (fun w => K .normal (encSt f51p0X0 w)) v)
theorem f51p0E (k : Nat) (R : Type) (K : X → St → Option R) (v : f51p0H.Den) : evS tab (f51T k) Go.Proofs.Try.f51.ntmps [] f51p0C 3730 (partK f51p0M K) (encSt f51p0H v) = f51p0 k (fun w => K .normal (encSt f51p0X0 w)) v := by kernel_rfl
theorem f51p0I (k : Nat) : SumsOk P Go.Proofs.Try.f51.ntmps [] f51p0C 3730 := SumsOk.nil
theorem f51p0O (k : Nat) : SumOk P Go.Proofs.Try.f51.ntmps f51p0C (f51p0S k) := sum_part tabOk (f51TS k) mixed (f51p0I k) (f51p0E k)
noncomputable def f51p1H : Shape := ⟨[(1, .one (.str)), (2, .one (.ptr 0 0)), (4, .one (.ptr 1 0)), (7, .one (.int .i64)), (8, .one (.int .i64)), (9, .one (.int .i64)), (10, .one (.bool))], [(0, .var [.int .i64, .int .i64, .int .i64]), (1, .var [.int .i64, .str])], 2⟩
noncomputable def f51p1X0 : Shape := ⟨[(1, .one (.str)), (2, .one (.ptr 0 0)), (4, .one (.ptr 1 0)), (7, .one (.int .i64)), (8, .one (.int .i64)), (9, .one (.int .i64)), (10, .one (.bool))], [(0, .var [.int .i64, .int .i64, .int .i64]), (1, .var [.int .i64, .str])], 2⟩
noncomputable def f51p1N : NoteR := ⟨[1, 2, 4, 7, 8, 9, 10], [], []⟩
noncomputable def f51p1M : NoteR := ⟨[1, 2, 4, 5, 6, 7, 8, 9, 10], [], []⟩
noncomputable def f51p1C : Code := firstC (codesAt 14926 (codeOf Go.Proofs.Try.f51) 1)
noncomputable def f51p1 {R : Type} (k : Nat) (k0 : ByteArray × Int × Int × Int × Bool × Int × Int × Int × Int × ByteArray × Unit → Option R) (v : ByteArray × Int × Int × Int × Bool × Int × Int × Int × Int × ByteArray × Unit) : Option R :=
  let t4 := (IntKind.i64.wrap ((IntKind.i64.wrap ((2 : Int) * (v.1.size : Int))) - (1 : Int)))
  bif (v.2.2.1 == t4) then
    k0 (v.1, v.2.1, v.2.2.1, v.2.2.2.1, (decide (v.2.2.2.1 < (10 : Int))), v.2.2.2.2.2.1, v.2.2.2.2.2.2.1, v.2.2.2.2.2.2.2.1, v.2.2.2.2.2.2.2.2.1, v.2.2.2.2.2.2.2.2.2.1, ())
  else
  k0 (v.1, v.2.1, v.2.2.1, v.2.2.2.1, v.2.2.2.2.1, v.2.2.2.2.2.1, v.2.2.2.2.2.2.1, v.2.2.2.2.2.2.2.1, v.2.2.2.2.2.2.2.2.1, v.2.2.2.2.2.2.2.2.2.1, ())
noncomputable def f51p1S (k : Nat) : Sum1 := partSum f51p1H f51p1N (fun R K v => f51p1 k (fun w => K .normal (encSt f51p1X0 w)) v)
theorem f51p1E (k : Nat) (R : Type) (K : X → St → Option R) (v : f51p1H.Den) : evS tab (f51T k) Go.Proofs.Try.f51.ntmps [] f51p1C 14926 (partK f51p1M K) (encSt f51p1H v) = f51p1 k (fun w => K .normal (encSt f51p1X0 w)) v := by kernel_rfl
theorem f51p1I (k : Nat) : SumsOk P Go.Proofs.Try.f51.ntmps [] f51p1C 14926 := SumsOk.nil
theorem f51p1O (k : Nat) : SumOk P Go.Proofs.Try.f51.ntmps f51p1C (f51p1S k) := sum_part tabOk (f51TS k) mixed (f51p1I k) (f51p1E k)
noncomputable def f51p2H : Shape := ⟨[(1, .one (.str)), (2, .one (.ptr 0 0)), (4, .one (.ptr 1 0)), (7, .one (.int .i64)), (8, .one (.int .i64)), (9, .one (.int .i64)), (10, .one (.bool))], [(0, .var [.int .i64, .int .i64, .int .i64]), (1, .var [.int .i64, .str])], 2⟩
noncomputable def f51p2X0 : Shape := ⟨[(1, .one (.str)), (2, .one (.ptr 0 0)), (4, .one (.ptr 1 0)), (5, .one (.int .i64)), (6, .one (.int .i64)), (7, .one (.int .i64)), (8, .one (.int .i64)), (9, .one (.int .i64))], [(0, .var [.int .i64, .int .i64, .int .i64]), (1, .var [.int .i64, .str])], 2⟩
noncomputable def f51p2X1 : Shape := ⟨[(1, .one (.str)), (2, .one (.ptr 0 0)), (4, .one (.ptr 1 0)), (7, .one (.int .i64)), (8, .one (.int .i64)), (9, .one (.int .i64))], [(0, .var [.int .i64, .int .i64, .int .i64]), (1, .var [.int .i64, .str])], 2⟩
noncomputable def f51p2N : NoteR := ⟨[1, 2, 4, 7, 8, 9, 10], [], []⟩
noncomputable def f51p2M : NoteR := ⟨[1, 2, 4, 5, 6, 7, 8, 9], [], []⟩
noncomputable def f51p2C : Code := firstC (codesAt 29854 (codeOf Go.Proofs.Try.f51) 1)
noncomputable def f51p2 {R : Type} (k : Nat) (k0 : ByteArray × Int × Int × Int × Int × Int × Int × Int × Int × Int × ByteArray × Unit → Option R) (k1 : ByteArray × Int × Int × Int × Int × Int × Int × Int × ByteArray × Unit → Option R) (v : ByteArray × Int × Int × Int × Bool × Int × Int × Int × Int × ByteArray × Unit) : Option R :=
  bif v.2.2.2.2.1 then
    k0 (v.1, (IntKind.i64.wrap (Int.tdiv v.2.2.1 (2 : Int))), (21 : Int), v.2.1, v.2.2.1, v.2.2.2.1, v.2.2.2.2.2.1, v.2.2.2.2.2.2.1, v.2.2.2.2.2.2.2.1, (0 : Int), ByteArray.empty, ())
  else
  bif (v.2.2.1 == (0 : Int)) then
    bif ((Int.tmod v.2.2.2.2.2.2.1 (2 : Int)) == (0 : Int)) then
      bif (v.2.2.2.1 != (0 : Int)) then
        k0 (v.1, (IntKind.i64.wrap (Int.tdiv v.2.2.1 (2 : Int))), (21 : Int), v.2.1, v.2.2.1, v.2.2.2.1, v.2.2.2.2.2.1, v.2.2.2.2.2.2.1, v.2.2.2.2.2.2.2.1, (0 : Int), ByteArray.empty, ())
      else
      k1 (v.1, v.2.1, v.2.2.1, v.2.2.2.1, v.2.2.2.2.2.1, v.2.2.2.2.2.2.1, v.2.2.2.2.2.2.2.1, v.2.2.2.2.2.2.2.2.1, v.2.2.2.2.2.2.2.2.2.1, ())
    else
    k1 (v.1, v.2.1, v.2.2.1, v.2.2.2.1, v.2.2.2.2.2.1, v.2.2.2.2.2.2.1, v.2.2.2.2.2.2.2.1, v.2.2.2.2.2.2.2.2.1, v.2.2.2.2.2.2.2.2.2.1, ())
  else
  k1 (v.1, v.2.1, v.2.2.1, v.2.2.2.1, v.2.2.2.2.2.1, v.2.2.2.2.2.2.1, v.2.2.2.2.2.2.2.1, v.2.2.2.2.2.2.2.2.1, v.2.2.2.2.2.2.2.2.2.1, ())
noncomputable def f51p2S (k : Nat) : Sum1 := partSum f51p2H f51p2N (fun R K v => f51p2 k (fun w => K .ret (encSt f51p2X0 w)) (fun w => K .normal (encSt f51p2X1 w)) v)
theorem f51p2E (k : Nat) (R : Type) (K : X → St → Option R) (v : f51p2H.Den) : evS tab (f51T k) Go.Proofs.Try.f51.ntmps [] f51p2C 29854 (partK f51p2M K) (encSt f51p2H v) = f51p2 k (fun w => K .ret (encSt f51p2X0 w)) (fun w => K .normal (encSt f51p2X1 w)) v := by kernel_rfl
theorem f51p2I (k : Nat) : SumsOk P Go.Proofs.Try.f51.ntmps [] f51p2C 29854 := SumsOk.nil
theorem f51p2O (k : Nat) : SumOk P Go.Proofs.Try.f51.ntmps f51p2C (f51p2S k) := sum_part tabOk (f51TS k) mixed (f51p2I k) (f51p2E k)
noncomputable def f51p3H : Shape := ⟨[(1, .one (.str)), (2, .one (.ptr 0 0)), (4, .one (.ptr 1 0)), (7, .one (.int .i64)), (8, .one (.int .i64))], [(0, .var [.int .i64, .int .i64, .int .i64]), (1, .var [.int .i64, .str])], 2⟩
noncomputable def f51p3X0 : Shape := ⟨[(1, .one (.str)), (2, .one (.ptr 0 0)), (4, .one (.ptr 1 0)), (5, .one (.int .i64)), (6, .one (.int .i64)), (7, .one (.int .i64)), (8, .one (.int .i64))], [(0, .var [.int .i64, .int .i64, .int .i64]), (1, .var [.int .i64, .str])], 2⟩
noncomputable def f51p3X1 : Shape := ⟨[(1, .one (.str)), (2, .one (.ptr 0 0)), (4, .one (.ptr 1 0)), (7, .one (.int .i64)), (8, .one (.int .i64))], [(0, .var [.int .i64, .int .i64, .int .i64]), (1, .var [.int .i64, .str])], 2⟩
noncomputable def f51p3N : NoteR := ⟨[1, 2, 4, 7, 8], [], []⟩
noncomputable def f51p3M : NoteR := ⟨[1, 2, 4, 5, 6, 7, 8], [], []⟩
noncomputable def f51p3C : Code := firstC (codesAt 466 (codeOf Go.Proofs.Try.f51) 1)
noncomputable def f51p3 {R : Type} (k : Nat) (k0 : ByteArray × Int × Int × Int × Int × Int × Int × Int × Int × ByteArray × Unit → Option R) (k1 : ByteArray × Int × Int × Int × Int × Int × Int × ByteArray × Unit → Option R) (v : ByteArray × Int × Int × Int × Int × Int × Int × ByteArray × Unit) : Option R :=
  bif ((decide ((0 : Int) ≤ (IntKind.i64.wrap (Int.tdiv v.2.2.1 (2 : Int))))) && (decide ((IntKind.i64.wrap (Int.tdiv v.2.2.1 (2 : Int))) < (v.1.size : Int)))) then
  let t1 := (IntKind.i64.wrap (bt v.1 (IntKind.i64.wrap (Int.tdiv v.2.2.1 (2 : Int)))))
  f51p0 k
    (fun (w3 : ByteArray × Int × Int × Int × Int × Int × Int × Int × ByteArray × Unit) =>
      f51p1 k
        (fun (w5 : ByteArray × Int × Int × Int × Bool × Int × Int × Int × Int × ByteArray × Unit) =>
          f51p2 k
            (fun (w6 : ByteArray × Int × Int × Int × Int × Int × Int × Int × Int × Int × ByteArray × Unit) =>
              k0 (w6.1, w6.2.1, w6.2.2.1, w6.2.2.2.1, w6.2.2.2.2.1, w6.2.2.2.2.2.2.1, w6.2.2.2.2.2.2.2.1, w6.2.2.2.2.2.2.2.2.1, w6.2.2.2.2.2.2.2.2.2.1, w6.2.2.2.2.2.2.2.2.2.2.1, ()))
            (fun (w7 : ByteArray × Int × Int × Int × Int × Int × Int × Int × ByteArray × Unit) =>
              let t8 := (IntKind.i64.wrap ((IntKind.i64.wrap ((2 : Int) * (w7.1.size : Int))) - (1 : Int)))
              bif (w7.2.2.1 == t8) then
                Option.bind (f82F k (w7.2.1, w7.2.2.2.1)) fun y9 =>
                k1 (w7.1, y9.1, w7.2.2.1, w7.2.2.2.2.1, w7.2.2.2.2.2.1, w7.2.2.2.2.2.2.1, w7.2.2.2.2.2.2.2.1, w7.2.2.2.2.2.2.2.2.1, ())
              else
              let t10 := (IntKind.i64.wrap ((IntKind.i64.wrap ((10 : Int) * w7.2.1)) + w7.2.2.2.1))
              k1 (w7.1, t10, w7.2.2.1, w7.2.2.2.2.1, w7.2.2.2.2.2.1, w7.2.2.2.2.2.2.1, w7.2.2.2.2.2.2.2.1, w7.2.2.2.2.2.2.2.2.1, ()))
            (w5.1, w5.2.1, w5.2.2.1, w5.2.2.2.1, w5.2.2.2.2.1, w5.2.2.2.2.2.1, w5.2.2.2.2.2.2.1, w5.2.2.2.2.2.2.2.1, w5.2.2.2.2.2.2.2.2.1, w5.2.2.2.2.2.2.2.2.2.1, ()))
        (w3.1, w3.2.1, w3.2.2.1, w3.2.2.2.1, (decide (w3.2.2.2.1 > (9 : Int))), w3.2.2.2.2.1, w3.2.2.2.2.2.1, w3.2.2.2.2.2.2.1, w3.2.2.2.2.2.2.2.1, w3.2.2.2.2.2.2.2.2.1, ()))
    (v.1, v.2.1, v.2.2.1, (IntKind.i64.wrap (Int.tdiv t1 (16 : Int))), v.2.2.2.1, v.2.2.2.2.1, v.2.2.2.2.2.1, v.2.2.2.2.2.2.1, v.2.2.2.2.2.2.2.1, ())
  else none
noncomputable def f51p3S (k : Nat) : Sum1 := partSum f51p3H f51p3N (fun R K v => f51p3 k (fun w => K .ret (encSt f51p3X0 w)) (fun w => K .normal (encSt f51p3X1 w)) v)
theorem f51p3E (k : Nat) (R : Type) (K : X → St → Option R) (v : f51p3H.Den) : evS tab (f51T k) Go.Proofs.Try.f51.ntmps [(3730, f51p0S k), (14926, f51p1S k), (29854, f51p2S k)] f51p3C 466 (partK f51p3M K) (encSt f51p3H v) = f51p3 k (fun w => K .ret (encSt f51p3X0 w)) (fun w => K .normal (encSt f51p3X1 w)) v := by kernel_rfl
theorem f51p3I (k : Nat) : SumsOk P Go.Proofs.Try.f51.ntmps [(3730, f51p0S k), (14926, f51p1S k), (29854, f51p2S k)] f51p3C 466 := (((SumsOk.nil).cons (c := f51p2C) (by kernel_rfl) (f51p2O k)).cons (c := f51p1C) (by kernel_rfl) (f51p1O k)).cons (c := f51p0C) (by kernel_rfl) (f51p0O k)
theorem f51p3O (k : Nat) : SumOk P Go.Proofs.Try.f51.ntmps f51p3C (f51p3S k) := sum_part tabOk (f51TS k) mixed (f51p3I k) (f51p3E k)
noncomputable def f51l4H : Shape := ⟨[(1, .one (.str)), (2, .one (.ptr 0 0)), (4, .one (.ptr 1 0)), (7, .one (.int .i64)), (8, .one (.int .i64))], [(0, .var [.int .i64, .int .i64, .int .i64]), (1, .var [.int .i64, .str])], 2⟩
noncomputable def f51l4X0 : Shape := ⟨[(4, .one (.ptr 0 0)), (5, .one (.int .i64)), (6, .one (.int .i64)), (7, .one (.int .i64))], [(0, .var [.int .i64, .str])], 1⟩
noncomputable def f51l4X1 : Shape := ⟨[(4, .one (.ptr 0 0)), (7, .one (.int .i64))], [(0, .var [.int .i64, .str])], 1⟩
noncomputable def f51l4N : NoteR := ⟨[1, 2, 4, 7, 8], [], []⟩
noncomputable def f51l4M : NoteR := ⟨[4, 5, 6, 7], [], []⟩
noncomputable def f51l4C : Code := firstC (codesAt 58 (codeOf Go.Proofs.Try.f51) 1)
noncomputable def f51l4s {R : Type} (k : Nat) (rec : ByteArray × Int × Int × Int × Int × Int × Int × ByteArray × Unit → Option R) (k0 : Int × Int × Int × Int × ByteArray × Unit → Option R) (k1 : Int × Int × ByteArray × Unit → Option R) (v : ByteArray × Int × Int × Int × Int × Int × Int × ByteArray × Unit) : Option R :=
  bif (decide (v.2.2.1 < (IntKind.i64.wrap ((2 : Int) * (v.1.size : Int))))) then
    f51p3 k
      (fun (w11 : ByteArray × Int × Int × Int × Int × Int × Int × Int × Int × ByteArray × Unit) =>
        k0 (w11.2.1, w11.2.2.1, w11.2.2.2.1, w11.2.2.2.2.2.2.2.2.1, w11.2.2.2.2.2.2.2.2.2.1, ()))
      (fun (w12 : ByteArray × Int × Int × Int × Int × Int × Int × ByteArray × Unit) =>
        rec (w12.1, w12.2.1, (IntKind.i64.wrap (w12.2.2.1 + (1 : Int))), w12.2.2.2.1, w12.2.2.2.2.1, w12.2.2.2.2.2.1, w12.2.2.2.2.2.2.1, w12.2.2.2.2.2.2.2.1, ()))
      (v.1, v.2.1, v.2.2.1, v.2.2.2.1, v.2.2.2.2.1, v.2.2.2.2.2.1, v.2.2.2.2.2.2.1, v.2.2.2.2.2.2.2.1, ())
  else
  k1 (v.2.1, v.2.2.2.2.2.2.1, v.2.2.2.2.2.2.2.1, ())
noncomputable def f51l4 {R : Type} (k : Nat) (k0 : Int × Int × Int × Int × ByteArray × Unit → Option R) (k1 : Int × Int × ByteArray × Unit → Option R) (v : ByteArray × Int × Int × Int × Int × Int × Int × ByteArray × Unit) : Option R := iterS (fun rec v => f51l4s k rec k0 k1 v) k v
noncomputable def f51l4S (k : Nat) : Sum1 := loopSum f51l4H f51l4N k (fun R rec K v => f51l4s k rec (fun w => K .ret (encSt f51l4X0 w)) (fun w => K (.exit 0) (encSt f51l4X1 w)) v)
theorem f51l4E (k : Nat) (R : Type) (rec : St → Option R) (K : X → St → Option R) (v : f51l4H.Den) : evS tab (f51T k) Go.Proofs.Try.f51.ntmps [(3730, f51p0S k), (14926, f51p1S k), (29854, f51p2S k), (466, f51p3S k)] (bodyOf f51l4C) 116 (bodyK f51l4N f51l4M rec K) (encSt f51l4H v) = f51l4s k (fun v => rec (encSt f51l4H v)) (fun w => K .ret (encSt f51l4X0 w)) (fun w => K (.exit 0) (encSt f51l4X1 w)) v := by kernel_rfl
theorem f51l4I (k : Nat) : SumsOk P Go.Proofs.Try.f51.ntmps [(3730, f51p0S k), (14926, f51p1S k), (29854, f51p2S k), (466, f51p3S k)] (bodyOf f51l4C) 116 := ((((SumsOk.nil).cons (c := f51p3C) (by kernel_rfl) (f51p3O k)).cons (c := f51p2C) (by kernel_rfl) (f51p2O k)).cons (c := f51p1C) (by kernel_rfl) (f51p1O k)).cons (c := f51p0C) (by kernel_rfl) (f51p0O k)
theorem f51l4O (k : Nat) : SumOk P Go.Proofs.Try.f51.ntmps f51l4C (f51l4S k) := (show f51l4C = .loop (bodyOf f51l4C) by kernel_rfl) ▸ sum_loop tabOk (f51TS k) mixed (f51l4I k) (f51l4E k)
noncomputable def f51F (k : Nat) (x : (Int × (Int × Int)) × ByteArray) : Option ((Int × ByteArray) × Int × Int) :=
  f51l4 k
    (fun (w13 : Int × Int × Int × Int × ByteArray × Unit) =>
      some ((w13.2.2.2.1, w13.2.2.2.2.1), w13.1, w13.2.1))
    (fun (w14 : Int × Int × ByteArray × Unit) =>
      some ((w14.1, ByteArray.empty), (0 : Int), (0 : Int)))
    (x.2, (0 : Int), (0 : Int), x.1.1, x.1.2.1, x.1.2.2, (0 : Int), ByteArray.empty, ())
noncomputable def f51L (k : Nat) : Sums := [(3730, f51p0S k), (14926, f51p1S k), (29854, f51p2S k), (466, f51p3S k), (58, f51l4S k)]
theorem f51LS (k : Nat) : SumsOk P Go.Proofs.Try.f51.ntmps (f51L k) (codeOf Go.Proofs.Try.f51) 1 := (((((SumsOk.nil).cons (c := f51l4C) (by kernel_rfl) (f51l4O k)).cons (c := f51p3C) (by kernel_rfl) (f51p3O k)).cons (c := f51p2C) (by kernel_rfl) (f51p2O k)).cons (c := f51p1C) (by kernel_rfl) (f51p1O k)).cons (c := f51p0C) (by kernel_rfl) (f51p0O k)
theorem f51E (k : Nat) (x : (Int × (Int × Int)) × ByteArray) : evFS tab (f51T k) (f51L k) Go.Proofs.Try.f51.ntmps Go.Proofs.Try.f51.results.toList (codeOf Go.Proofs.Try.f51) (argsV [.agg (.pair (.int .i64) (.pair (.int .i64) (.int .i64))), .dat .str] x) [.agg (.pair (.int .i64) .str), .dat (.int .i64), .dat (.int .i64)] = f51F k x := by kernel_rfl
theorem f51Ok (k : Nat) (x : (Int × (Int × Int)) × ByteArray) (y : (Int × ByteArray) × Int × Int) (h : f51F k x = some y) : FnOk P 51 [.agg (.pair (.int .i64) (.pair (.int .i64) (.int .i64))), .dat .str] [.agg (.pair (.int .i64) .str), .dat (.int .i64), .dat (.int .i64)] x y :=
  evFS_sound tabOk (f51TS k) mixed Go.Proofs.Try.func51 (c := codeOf Go.Proofs.Try.f51) (by kernel_rfl) (f51LS k) ((f51E k x).trans h)
/-! ## midrange/midrangeref01.Decode -/
noncomputable def f17T (k : Nat) : Table := [(27, entFn [.agg (.pair (.int .i64) (.pair (.int .i64) (.int .i64)))] [.dat (.int .i64)] (f27F k)), (31, entFn [.agg (.pair (.int .i64) (.pair (.int .i64) (.int .i64)))] [.dat (.int .i64)] (f31F k)), (47, entFn [.dat .str, .dat (.int .i64), .dat (.int .i64)] [.dat (.int .i64)] (f47F k)), (48, entFn [.dat (.int .i64), .dat (.int .i64), .dat (.int .i64)] [.dat .bool] (f48F k)), (49, entFn [.agg (.pair (.int .i64) (.pair (.int .i64) (.int .i64)))] [.dat (.int .i64)] (f49F k)), (50, entFn [.dat .str] [.agg (.pair (.int .i64) .str), .dat (.int .i64), .dat (.int .i64)] (f50F k)), (51, entFn [.agg (.pair (.int .i64) (.pair (.int .i64) (.int .i64))), .dat .str] [.agg (.pair (.int .i64) .str), .dat (.int .i64), .dat (.int .i64)] (f51F k))]
theorem f17TS (k : Nat) : Sound P (f17T k) := (((((((Sound.nil).cons f51B (f51Ok k)).cons f50B (f50Ok k)).cons f49B (f49Ok k)).cons f48B (f48Ok k)).cons f47B (f47Ok k)).cons f31B (f31Ok k)).cons f27B (f27Ok k)
theorem f17B : HasBody P 17 := ⟨Go.Proofs.Try.f17, Go.Proofs.Try.func17, by kernel_rfl, by kernel_rfl⟩
noncomputable def f17p0H : Shape := ⟨[(1, .one (.str)), (2, .one (.ptr 0 0)), (4, .one (.ptr 1 0)), (8, .one (.int .i64))], [(0, .var [.int .i64, .int .i64, .int .i64]), (1, .var [.int .i64, .str])], 2⟩
noncomputable def f17p0X0 : Shape := ⟨[(2, .one (.ptr 0 0)), (4, .one (.ptr 1 0)), (8, .one (.int .i64))], [(0, .var [.int .i64, .int .i64, .int .i64]), (1, .var [.int .i64, .str])], 2⟩
noncomputable def f17p0N : NoteR := ⟨[1, 2, 4, 8], [], []⟩
noncomputable def f17p0M : NoteR := ⟨[2, 4, 5, 6, 8], [], []⟩
noncomputable def f17p0C : Code := firstC (codesAt 16058 (codeOf Go.Proofs.Try.f17) 1)
noncomputable def f17p0 {R : Type} (k : Nat) (k0 : Int × Int × Int × Int × Int × ByteArray × Unit → Option R) (v : ByteArray × Int × Int × Int × Int × Int × ByteArray × Unit) : Option R :=
  bif (decide ((0 : Int) < (v.1.size : Int))) then
  bif (decide ((bt v.1 (0 : Int)) ≥ (128 : Int))) then
    bif (decide ((0 : Int) ≤ (IntKind.i64.wrap ((8 : Int) * (v.1.size : Int))))) then
    let t4 := (shlI .i64 (1 : Int) (IntKind.i64.wrap ((8 : Int) * (v.1.size : Int))))
    k0 ((IntKind.i64.wrap (v.2.1 - t4)), v.2.2.1, v.2.2.2.1, v.2.2.2.2.1, v.2.2.2.2.2.1, v.2.2.2.2.2.2.1, ())
    else none
  else
  k0 (v.2.1, v.2.2.1, v.2.2.2.1, v.2.2.2.2.1, v.2.2.2.2.2.1, v.2.2.2.2.2.2.1, ())
  else none
noncomputable def f17p0S (k : Nat) : Sum1 := partSum f17p0H f17p0N (fun R K v => f17p0 k (fun w => K .normal (encSt f17p0X0 w)) v)
theorem f17p0E (k : Nat) (R : Type) (K : X → St → Option R) (v : f17p0H.Den) : evS tab (f17T k) Go.Proofs.Try.f17.ntmps [] f17p0C 16058 (partK f17p0M K) (encSt f17p0H v) = f17p0 k (fun w => K .normal (encSt f17p0X0 w)) v := by kernel_rfl
theorem f17p0I (k : Nat) : SumsOk P Go.Proofs.Try.f17.ntmps [] f17p0C 16058 := SumsOk.nil
theorem f17p0O (k : Nat) : SumOk P Go.Proofs.Try.f17.ntmps f17p0C (f17p0S k) := sum_part tabOk (f17TS k) mixed (f17p0I k) (f17p0E k)
noncomputable def f17F (k : Nat) (x : (Int × (Int × Int)) × ByteArray) : Option ((Int × ByteArray) × Int × Int) :=
  Option.bind (f27F k (x.1.1, (x.1.2.1, x.1.2.2))) fun y1 =>
  bif (y1 != (0 : Int)) then
    some (((0 : Int), ByteArray.empty), (0 : Int), y1)
  else
  bif (x.1.1 == (4 : Int)) then
    some (((0 : Int), ByteArray.empty), (0 : Int), (17 : Int))
  else
  Option.bind (f31F k (x.1.1, (x.1.2.1, x.1.2.2))) fun y2 =>
  bif ((x.2.size : Int) != y2) then
    some (((0 : Int), ByteArray.empty), (0 : Int), (18 : Int))
  else
  bif (x.1.1 == (0 : Int)) then
    some (((0 : Int), x.2), (0 : Int), (0 : Int))
  else
  bif (x.1.1 == (3 : Int)) then
    Option.bind (f47F k (x.2, (0 : Int), (x.2.size : Int))) fun y3 =>
    f17p0 k
      (fun (w5 : Int × Int × Int × Int × Int × ByteArray × Unit) =>
        Option.bind (f49F k (w5.2.1, (w5.2.2.1, w5.2.2.2.1))) fun y6 =>
        Option.bind (f49F k (w5.2.1, (w5.2.2.1, w5.2.2.2.1))) fun y7 =>
        Option.bind (f48F k (w5.1, (IntKind.i64.wrap (0 - y6)), y7)) fun y8 =>
        bif (!y8) then
          some (((0 : Int), ByteArray.empty), (0 : Int), (19 : Int))
        else
        some ((w5.1, ByteArray.empty), (0 : Int), (0 : Int)))
      (x.2, y3, x.1.1, x.1.2.1, x.1.2.2, (0 : Int), ByteArray.empty, ())
  else
  bif (x.1.1 == (2 : Int)) then
    Option.bind (f50F k x.2) fun y9 =>
    some ((y9.1.1, y9.1.2), y9.2.1, y9.2.2)
  else
  Option.bind (f51F k ((x.1.1, (x.1.2.1, x.1.2.2)), x.2)) fun y10 =>
  some ((y10.1.1, y10.1.2), y10.2.1, y10.2.2)
noncomputable def f17L (k : Nat) : Sums := [(16058, f17p0S k)]
theorem f17LS (k : Nat) : SumsOk P Go.Proofs.Try.f17.ntmps (f17L k) (codeOf Go.Proofs.Try.f17) 1 := (SumsOk.nil).cons (c := f17p0C) (by kernel_rfl) (f17p0O k)
theorem f17E (k : Nat) (x : (Int × (Int × Int)) × ByteArray) : evFS tab (f17T k) (f17L k) Go.Proofs.Try.f17.ntmps Go.Proofs.Try.f17.results.toList (codeOf Go.Proofs.Try.f17) (argsV [.agg (.pair (.int .i64) (.pair (.int .i64) (.int .i64))), .dat .str] x) [.agg (.pair (.int .i64) .str), .dat (.int .i64), .dat (.int .i64)] = f17F k x := by kernel_rfl
theorem f17Ok (k : Nat) (x : (Int × (Int × Int)) × ByteArray) (y : (Int × ByteArray) × Int × Int) (h : f17F k x = some y) : FnOk P 17 [.agg (.pair (.int .i64) (.pair (.int .i64) (.int .i64))), .dat .str] [.agg (.pair (.int .i64) .str), .dat (.int .i64), .dat (.int .i64)] x y :=
  evFS_sound tabOk (f17TS k) mixed Go.Proofs.Try.func17 (c := codeOf Go.Proofs.Try.f17) (by kernel_rfl) (f17LS k) ((f17E k x).trans h)
/-! ## midrange/midrangelaw01.NumericDecodes -/
noncomputable def f4T (k : Nat) : Table := [(13, entFn [] [.dat .bool] (f13F k)), (16, entFn [.agg (.pair (.int .i64) (.pair (.int .i64) (.int .i64))), .dat .str] [.agg (.pair (.int .i64) .str), .dat (.int .i64), .dat (.int .i64)] (f16F k)), (17, entFn [.agg (.pair (.int .i64) (.pair (.int .i64) (.int .i64))), .dat .str] [.agg (.pair (.int .i64) .str), .dat (.int .i64), .dat (.int .i64)] (f17F k))]
theorem f4TS (k : Nat) : Sound P (f4T k) := (((Sound.nil).cons f17B (f17Ok k)).cons f16B (f16Ok k)).cons f13B (f13Ok k)
theorem f4B : HasBody P 4 := ⟨Go.Proofs.Try.f4, Go.Proofs.Try.func4, by kernel_rfl, by kernel_rfl⟩
noncomputable def f4F (k : Nat) (x : (Int × (Int × Int)) × ByteArray) : Option (Bool) :=
  Option.bind (f13F k ()) fun y1 =>
  bif (!y1) then
    some false
  else
  bif (decide ((x.2.size : Int) > (700 : Int))) then
    some true
  else
  Option.bind (f16F k ((x.1.1, (x.1.2.1, x.1.2.2)), x.2)) fun y2 =>
  Option.bind (f17F k ((x.1.1, (x.1.2.1, x.1.2.2)), x.2)) fun y3 =>
  bif (y2.2.2 == y3.2.2) then
    bif (y2.2.1 == y3.2.1) then
      some ((y2.1.1 == y3.1.1) && ((strEq y2.1.2 y3.1.2) && true))
    else
    some false
  else
  some false
noncomputable def f4L (k : Nat) : Sums := []
theorem f4LS (k : Nat) : SumsOk P Go.Proofs.Try.f4.ntmps (f4L k) (codeOf Go.Proofs.Try.f4) 1 := SumsOk.nil
theorem f4E (k : Nat) (x : (Int × (Int × Int)) × ByteArray) : evFS tab (f4T k) (f4L k) Go.Proofs.Try.f4.ntmps Go.Proofs.Try.f4.results.toList (codeOf Go.Proofs.Try.f4) (argsV [.agg (.pair (.int .i64) (.pair (.int .i64) (.int .i64))), .dat .str] x) [.dat .bool] = f4F k x := by kernel_rfl
theorem f4Ok (k : Nat) (x : (Int × (Int × Int)) × ByteArray) (y : Bool) (h : f4F k x = some y) : FnOk P 4 [.agg (.pair (.int .i64) (.pair (.int .i64) (.int .i64))), .dat .str] [.dat .bool] x y :=
  evFS_sound tabOk (f4TS k) mixed Go.Proofs.Try.func4 (c := codeOf Go.Proofs.Try.f4) (by kernel_rfl) (f4LS k) ((f4E k x).trans h)
/-! ## midrange/numeric.CheckNumber -/
noncomputable def f52T (k : Nat) : Table := [(43, entFn [.dat .bool, .dat (.int .i64)] [.dat (.int .i64)] (f43F k)), (70, entFn [.dat (.int .i64), .dat (.int .i64), .dat (.int .i64)] [.dat .bool] (f70F k))]
theorem f52TS (k : Nat) : Sound P (f52T k) := ((Sound.nil).cons f70B (f70Ok k)).cons f43B (f43Ok k)
theorem f52B : HasBody P 52 := ⟨Go.Proofs.Try.f52, Go.Proofs.Try.func52, by kernel_rfl, by kernel_rfl⟩
noncomputable def f52F (k : Nat) (x : (Int × Int)) : Option (Int) :=
  Option.bind (f70F k (x.1, (-999999999999999 : Int), (999999999999999 : Int))) fun y1 =>
  bif (!y1) then
    Option.bind (f43F k (true, (3 : Int))) fun y2 =>
    some y2
  else
  Option.bind (f70F k (x.2, (0 : Int), (15 : Int))) fun y3 =>
  Option.bind (f43F k ((!y3), (3 : Int))) fun y4 =>
  some y4
noncomputable def f52L (k : Nat) : Sums := []
theorem f52LS (k : Nat) : SumsOk P Go.Proofs.Try.f52.ntmps (f52L k) (codeOf Go.Proofs.Try.f52) 1 := SumsOk.nil
theorem f52E (k : Nat) (x : (Int × Int)) : evFS tab (f52T k) (f52L k) Go.Proofs.Try.f52.ntmps Go.Proofs.Try.f52.results.toList (codeOf Go.Proofs.Try.f52) (argsV [.agg (.pair (.int .i64) (.int .i64))] x) [.dat (.int .i64)] = f52F k x := by kernel_rfl
theorem f52Ok (k : Nat) (x : (Int × Int)) (y : Int) (h : f52F k x = some y) : FnOk P 52 [.agg (.pair (.int .i64) (.int .i64))] [.dat (.int .i64)] x y :=
  evFS_sound tabOk (f52TS k) mixed Go.Proofs.Try.func52 (c := codeOf Go.Proofs.Try.f52) (by kernel_rfl) (f52LS k) ((f52E k x).trans h)
/-! ## midrange/numeric.isNumeric -/
noncomputable def f53T (k : Nat) : Table := []
theorem f53TS (k : Nat) : Sound P (f53T k) := Sound.nil
theorem f53B : HasBody P 53 := ⟨Go.Proofs.Try.f53, Go.Proofs.Try.func53, by kernel_rfl, by kernel_rfl⟩
noncomputable def f53F (k : Nat) (x : (Int × (Int × Int))) : Option (Bool) :=
  bif (x.1 == (1 : Int)) then
    some true
  else
  bif (x.1 == (2 : Int)) then
    some true
  else
  some (x.1 == (3 : Int))
noncomputable def f53L (k : Nat) : Sums := []
theorem f53LS (k : Nat) : SumsOk P Go.Proofs.Try.f53.ntmps (f53L k) (codeOf Go.Proofs.Try.f53) 1 := SumsOk.nil
theorem f53E (k : Nat) (x : (Int × (Int × Int))) : evFS tab (f53T k) (f53L k) Go.Proofs.Try.f53.ntmps Go.Proofs.Try.f53.results.toList (codeOf Go.Proofs.Try.f53) (argsV [.agg (.pair (.int .i64) (.pair (.int .i64) (.int .i64)))] x) [.dat .bool] = f53F k x := by kernel_rfl
theorem f53Ok (k : Nat) (x : (Int × (Int × Int))) (y : Bool) (h : f53F k x = some y) : FnOk P 53 [.agg (.pair (.int .i64) (.pair (.int .i64) (.int .i64)))] [.dat .bool] x y :=
  evFS_sound tabOk (f53TS k) mixed Go.Proofs.Try.func53 (c := codeOf Go.Proofs.Try.f53) (by kernel_rfl) (f53LS k) ((f53E k x).trans h)
/-! ## midrange/numeric.wideOf -/
noncomputable def f84T (k : Nat) : Table := []
theorem f84TS (k : Nat) : Sound P (f84T k) := Sound.nil
theorem f84B : HasBody P 84 := ⟨Go.Proofs.Try.f84, Go.Proofs.Try.func84, by kernel_rfl, by kernel_rfl⟩
noncomputable def f84F (k : Nat) (x : Int) : Option ((Int × (Int × (Int × Int)))) :=
  some (x, ((0 : Int), ((0 : Int), (0 : Int))))
noncomputable def f84L (k : Nat) : Sums := []
theorem f84LS (k : Nat) : SumsOk P Go.Proofs.Try.f84.ntmps (f84L k) (codeOf Go.Proofs.Try.f84) 1 := SumsOk.nil
theorem f84E (k : Nat) (x : Int) : evFS tab (f84T k) (f84L k) Go.Proofs.Try.f84.ntmps Go.Proofs.Try.f84.results.toList (codeOf Go.Proofs.Try.f84) (argsV [.dat (.int .u64)] x) [.agg (.pair (.int .u64) (.pair (.int .u64) (.pair (.int .u64) (.int .u64))))] = f84F k x := by kernel_rfl
theorem f84Ok (k : Nat) (x : Int) (y : (Int × (Int × (Int × Int)))) (h : f84F k x = some y) : FnOk P 84 [.dat (.int .u64)] [.agg (.pair (.int .u64) (.pair (.int .u64) (.pair (.int .u64) (.int .u64))))] x y :=
  evFS_sound tabOk (f84TS k) mixed Go.Proofs.Try.func84 (c := codeOf Go.Proofs.Try.f84) (by kernel_rfl) (f84LS k) ((f84E k x).trans h)
/-! ## math/bits.Mul64 -/
noncomputable def f111T (k : Nat) : Table := []
theorem f111TS (k : Nat) : Sound P (f111T k) := Sound.nil
theorem f111B : HasBody P 111 := ⟨Go.Proofs.Try.f111, Go.Proofs.Try.func111, by kernel_rfl, by kernel_rfl⟩
noncomputable def f111F (k : Nat) (x : Int × Int) : Option (Int × Int) :=
  let t1 := (IntKind.u64.wrap ((bits .and .u64 x.1 (4294967295 : Int)) * (bits .and .u64 x.2 (4294967295 : Int))))
  let t2 := (IntKind.u64.wrap ((shrI .u64 x.1 (32 : Int)) * (bits .and .u64 x.2 (4294967295 : Int))))
  let t3 := (bits .and .u64 (IntKind.u64.wrap (t2 + (shrI .u64 t1 (32 : Int)))) (4294967295 : Int))
  let t4 := (shrI .u64 (IntKind.u64.wrap (t2 + (shrI .u64 t1 (32 : Int)))) (32 : Int))
  let t5 := (IntKind.u64.wrap ((bits .and .u64 x.1 (4294967295 : Int)) * (shrI .u64 x.2 (32 : Int))))
  let t6 := (IntKind.u64.wrap ((shrI .u64 x.1 (32 : Int)) * (shrI .u64 x.2 (32 : Int))))
  let t7 := (IntKind.u64.wrap ((IntKind.u64.wrap (t6 + t4)) + (shrI .u64 (IntKind.u64.wrap (t3 + t5)) (32 : Int))))
  some (t7, (IntKind.u64.wrap (x.1 * x.2)))
noncomputable def f111L (k : Nat) : Sums := []
theorem f111LS (k : Nat) : SumsOk P Go.Proofs.Try.f111.ntmps (f111L k) (codeOf Go.Proofs.Try.f111) 1 := SumsOk.nil
theorem f111E (k : Nat) (x : Int × Int) : evFS tab (f111T k) (f111L k) Go.Proofs.Try.f111.ntmps Go.Proofs.Try.f111.results.toList (codeOf Go.Proofs.Try.f111) (argsV [.dat (.int .u64), .dat (.int .u64)] x) [.dat (.int .u64), .dat (.int .u64)] = f111F k x := by kernel_rfl
theorem f111Ok (k : Nat) (x : Int × Int) (y : Int × Int) (h : f111F k x = some y) : FnOk P 111 [.dat (.int .u64), .dat (.int .u64)] [.dat (.int .u64), .dat (.int .u64)] x y :=
  evFS_sound tabOk (f111TS k) mixed Go.Proofs.Try.func111 (c := codeOf Go.Proofs.Try.f111) (by kernel_rfl) (f111LS k) ((f111E k x).trans h)
/-! ## (midrange/numeric.wide).times -/
noncomputable def f106T (k : Nat) : Table := [(108, add64E), (111, entFn [.dat (.int .u64), .dat (.int .u64)] [.dat (.int .u64), .dat (.int .u64)] (f111F k))]
theorem f106TS (k : Nat) : Sound P (f106T k) := ((Sound.nil).cons f111B (f111Ok k)).ext (add64_ok Go.Proofs.Try.func108 (by kernel_rfl) (by kernel_rfl) (by kernel_rfl) (by kernel_rfl))
theorem f106B : HasBody P 106 := ⟨Go.Proofs.Try.f106, Go.Proofs.Try.func106, by kernel_rfl, by kernel_rfl⟩
noncomputable def f106F (k : Nat) (x : (Int × (Int × (Int × Int))) × Int) : Option ((Int × (Int × (Int × Int)))) :=
  Option.bind (f111F k (x.1.1, x.2)) fun y1 =>
  bif (decide ((0 : Int) ≤ y1.2) && (decide ((0 : Int) ≤ (0 : Int)) && (decide ((0 : Int) ≤ (0 : Int)) && decide ((0 : Int) ≤ 1)))) then
  let t2 := (IntKind.u64.wrap (y1.1 + ((y1.2 + (0 : Int) + (0 : Int)) / 18446744073709551616)))
  Option.bind (f111F k (x.1.2.1, x.2)) fun y3 =>
  bif (decide ((0 : Int) ≤ y3.2) && (decide ((0 : Int) ≤ t2) && (decide ((0 : Int) ≤ (0 : Int)) && decide ((0 : Int) ≤ 1)))) then
  let t4 := (IntKind.u64.wrap (y3.1 + ((y3.2 + t2 + (0 : Int)) / 18446744073709551616)))
  Option.bind (f111F k (x.1.2.2.1, x.2)) fun y5 =>
  bif (decide ((0 : Int) ≤ y5.2) && (decide ((0 : Int) ≤ t4) && (decide ((0 : Int) ≤ (0 : Int)) && decide ((0 : Int) ≤ 1)))) then
  let t6 := (IntKind.u64.wrap (y5.1 + ((y5.2 + t4 + (0 : Int)) / 18446744073709551616)))
  Option.bind (f111F k (x.1.2.2.2, x.2)) fun y7 =>
  bif (decide ((0 : Int) ≤ y7.2) && (decide ((0 : Int) ≤ t6) && (decide ((0 : Int) ≤ (0 : Int)) && decide ((0 : Int) ≤ 1)))) then
  let t8 := (IntKind.u64.wrap (y7.1 + ((y7.2 + t6 + (0 : Int)) / 18446744073709551616)))
  some (((y1.2 + (0 : Int) + (0 : Int)) % 18446744073709551616), (((y3.2 + t2 + (0 : Int)) % 18446744073709551616), (((y5.2 + t4 + (0 : Int)) % 18446744073709551616), ((y7.2 + t6 + (0 : Int)) % 18446744073709551616))))
  else none
  else none
  else none
  else none
noncomputable def f106L (k : Nat) : Sums := []
theorem f106LS (k : Nat) : SumsOk P Go.Proofs.Try.f106.ntmps (f106L k) (codeOf Go.Proofs.Try.f106) 1 := SumsOk.nil
theorem f106E (k : Nat) (x : (Int × (Int × (Int × Int))) × Int) : evFS tab (f106T k) (f106L k) Go.Proofs.Try.f106.ntmps Go.Proofs.Try.f106.results.toList (codeOf Go.Proofs.Try.f106) (argsV [.agg (.pair (.int .u64) (.pair (.int .u64) (.pair (.int .u64) (.int .u64)))), .dat (.int .u64)] x) [.agg (.pair (.int .u64) (.pair (.int .u64) (.pair (.int .u64) (.int .u64))))] = f106F k x := by kernel_rfl
theorem f106Ok (k : Nat) (x : (Int × (Int × (Int × Int))) × Int) (y : (Int × (Int × (Int × Int)))) (h : f106F k x = some y) : FnOk P 106 [.agg (.pair (.int .u64) (.pair (.int .u64) (.pair (.int .u64) (.int .u64)))), .dat (.int .u64)] [.agg (.pair (.int .u64) (.pair (.int .u64) (.pair (.int .u64) (.int .u64))))] x y :=
  evFS_sound tabOk (f106TS k) mixed Go.Proofs.Try.func106 (c := codeOf Go.Proofs.Try.f106) (by kernel_rfl) (f106LS k) ((f106E k x).trans h)
/-! ## (midrange/numeric.wide).shifted -/
noncomputable def f85T (k : Nat) : Table := [(106, entFn [.agg (.pair (.int .u64) (.pair (.int .u64) (.pair (.int .u64) (.int .u64)))), .dat (.int .u64)] [.agg (.pair (.int .u64) (.pair (.int .u64) (.pair (.int .u64) (.int .u64))))] (f106F k))]
theorem f85TS (k : Nat) : Sound P (f85T k) := (Sound.nil).cons f106B (f106Ok k)
theorem f85B : HasBody P 85 := ⟨Go.Proofs.Try.f85, Go.Proofs.Try.func85, by kernel_rfl, by kernel_rfl⟩
noncomputable def f85l0H : Shape := ⟨[(2, .one (.ptr 0 0)), (4, .one (.ptr 1 0)), (5, .one (.int .i64)), (6, .one (.int .i64))], [(0, .var [.int .u64, .int .u64, .int .u64, .int .u64]), (1, .var [.int .u64, .int .u64, .int .u64, .int .u64])], 2⟩
noncomputable def f85l0X0 : Shape := ⟨[(2, .one (.ptr 0 0)), (4, .one (.ptr 1 0))], [(0, .var [.int .u64, .int .u64, .int .u64, .int .u64]), (1, .var [.int .u64, .int .u64, .int .u64, .int .u64])], 2⟩
noncomputable def f85l0N : NoteR := ⟨[2, 4, 5, 6], [], []⟩
noncomputable def f85l0M : NoteR := ⟨[2, 4], [], []⟩
noncomputable def f85l0C : Code := firstC (codesAt 26 (codeOf Go.Proofs.Try.f85) 1)
noncomputable def f85l0s {R : Type} (k : Nat) (rec : Int × Int × Int × Int × Int × Int × Int × Int × Int × Int × Unit → Option R) (k0 : Int × Int × Int × Int × Int × Int × Int × Int × Unit → Option R) (v : Int × Int × Int × Int × Int × Int × Int × Int × Int × Int × Unit) : Option R :=
  bif (decide (v.2.1 < v.1)) then
    Option.bind (f106F k ((v.2.2.1, (v.2.2.2.1, (v.2.2.2.2.1, v.2.2.2.2.2.1))), (10 : Int))) fun y1 =>
    rec (v.1, (IntKind.i64.wrap (v.2.1 + (1 : Int))), y1.1, y1.2.1, y1.2.2.1, y1.2.2.2, v.2.2.2.2.2.2.1, v.2.2.2.2.2.2.2.1, v.2.2.2.2.2.2.2.2.1, v.2.2.2.2.2.2.2.2.2.1, ())
  else
  k0 (v.2.2.1, v.2.2.2.1, v.2.2.2.2.1, v.2.2.2.2.2.1, v.2.2.2.2.2.2.1, v.2.2.2.2.2.2.2.1, v.2.2.2.2.2.2.2.2.1, v.2.2.2.2.2.2.2.2.2.1, ())
noncomputable def f85l0 {R : Type} (k : Nat) (k0 : Int × Int × Int × Int × Int × Int × Int × Int × Unit → Option R) (v : Int × Int × Int × Int × Int × Int × Int × Int × Int × Int × Unit) : Option R := iterS (fun rec v => f85l0s k rec k0 v) k v
noncomputable def f85l0S (k : Nat) : Sum1 := loopSum f85l0H f85l0N k (fun R rec K v => f85l0s k rec (fun w => K (.exit 0) (encSt f85l0X0 w)) v)
theorem f85l0E (k : Nat) (R : Type) (rec : St → Option R) (K : X → St → Option R) (v : f85l0H.Den) : evS tab (f85T k) Go.Proofs.Try.f85.ntmps [] (bodyOf f85l0C) 52 (bodyK f85l0N f85l0M rec K) (encSt f85l0H v) = f85l0s k (fun v => rec (encSt f85l0H v)) (fun w => K (.exit 0) (encSt f85l0X0 w)) v := by kernel_rfl
theorem f85l0I (k : Nat) : SumsOk P Go.Proofs.Try.f85.ntmps [] (bodyOf f85l0C) 52 := SumsOk.nil
theorem f85l0O (k : Nat) : SumOk P Go.Proofs.Try.f85.ntmps f85l0C (f85l0S k) := (show f85l0C = .loop (bodyOf f85l0C) by kernel_rfl) ▸ sum_loop tabOk (f85TS k) mixed (f85l0I k) (f85l0E k)
noncomputable def f85F (k : Nat) (x : (Int × (Int × (Int × Int))) × Int) : Option ((Int × (Int × (Int × Int)))) :=
  f85l0 k
    (fun (w2 : Int × Int × Int × Int × Int × Int × Int × Int × Unit) =>
      some (w2.1, (w2.2.1, (w2.2.2.1, w2.2.2.2.1))))
    (x.2, (0 : Int), x.1.1, x.1.2.1, x.1.2.2.1, x.1.2.2.2, (0 : Int), (0 : Int), (0 : Int), (0 : Int), ())
noncomputable def f85L (k : Nat) : Sums := [(26, f85l0S k)]
theorem f85LS (k : Nat) : SumsOk P Go.Proofs.Try.f85.ntmps (f85L k) (codeOf Go.Proofs.Try.f85) 1 := (SumsOk.nil).cons (c := f85l0C) (by kernel_rfl) (f85l0O k)
theorem f85E (k : Nat) (x : (Int × (Int × (Int × Int))) × Int) : evFS tab (f85T k) (f85L k) Go.Proofs.Try.f85.ntmps Go.Proofs.Try.f85.results.toList (codeOf Go.Proofs.Try.f85) (argsV [.agg (.pair (.int .u64) (.pair (.int .u64) (.pair (.int .u64) (.int .u64)))), .dat (.int .i64)] x) [.agg (.pair (.int .u64) (.pair (.int .u64) (.pair (.int .u64) (.int .u64))))] = f85F k x := by kernel_rfl
theorem f85Ok (k : Nat) (x : (Int × (Int × (Int × Int))) × Int) (y : (Int × (Int × (Int × Int)))) (h : f85F k x = some y) : FnOk P 85 [.agg (.pair (.int .u64) (.pair (.int .u64) (.pair (.int .u64) (.int .u64)))), .dat (.int .i64)] [.agg (.pair (.int .u64) (.pair (.int .u64) (.pair (.int .u64) (.int .u64))))] x y :=
  evFS_sound tabOk (f85TS k) mixed Go.Proofs.Try.func85 (c := codeOf Go.Proofs.Try.f85) (by kernel_rfl) (f85LS k) ((f85E k x).trans h)
/-! ## midrange/numeric.amount -/
noncomputable def f83T (k : Nat) : Table := [(84, entFn [.dat (.int .u64)] [.agg (.pair (.int .u64) (.pair (.int .u64) (.pair (.int .u64) (.int .u64))))] (f84F k)), (85, entFn [.agg (.pair (.int .u64) (.pair (.int .u64) (.pair (.int .u64) (.int .u64)))), .dat (.int .i64)] [.agg (.pair (.int .u64) (.pair (.int .u64) (.pair (.int .u64) (.int .u64))))] (f85F k))]
theorem f83TS (k : Nat) : Sound P (f83T k) := ((Sound.nil).cons f85B (f85Ok k)).cons f84B (f84Ok k)
theorem f83B : HasBody P 83 := ⟨Go.Proofs.Try.f83, Go.Proofs.Try.func83, by kernel_rfl, by kernel_rfl⟩
noncomputable def f83F (k : Nat) (x : (Int × Int) × Int) : Option ((Int × (Int × (Int × Int)))) :=
  Option.bind (f84F k (IntKind.u64.wrap (mxI x.1.1 (IntKind.i64.wrap (0 - x.1.1))))) fun y1 =>
  Option.bind (f85F k ((y1.1, (y1.2.1, (y1.2.2.1, y1.2.2.2))), x.2)) fun y2 =>
  some (y2.1, (y2.2.1, (y2.2.2.1, y2.2.2.2)))
noncomputable def f83L (k : Nat) : Sums := []
theorem f83LS (k : Nat) : SumsOk P Go.Proofs.Try.f83.ntmps (f83L k) (codeOf Go.Proofs.Try.f83) 1 := SumsOk.nil
theorem f83E (k : Nat) (x : (Int × Int) × Int) : evFS tab (f83T k) (f83L k) Go.Proofs.Try.f83.ntmps Go.Proofs.Try.f83.results.toList (codeOf Go.Proofs.Try.f83) (argsV [.agg (.pair (.int .i64) (.int .i64)), .dat (.int .i64)] x) [.agg (.pair (.int .u64) (.pair (.int .u64) (.pair (.int .u64) (.int .u64))))] = f83F k x := by kernel_rfl
theorem f83Ok (k : Nat) (x : (Int × Int) × Int) (y : (Int × (Int × (Int × Int)))) (h : f83F k x = some y) : FnOk P 83 [.agg (.pair (.int .i64) (.int .i64)), .dat (.int .i64)] [.agg (.pair (.int .u64) (.pair (.int .u64) (.pair (.int .u64) (.int .u64))))] x y :=
  evFS_sound tabOk (f83TS k) mixed Go.Proofs.Try.func83 (c := codeOf Go.Proofs.Try.f83) (by kernel_rfl) (f83LS k) ((f83E k x).trans h)
/-! ## midrange/numeric.of -/
noncomputable def f54T (k : Nat) : Table := [(83, entFn [.agg (.pair (.int .i64) (.int .i64)), .dat (.int .i64)] [.agg (.pair (.int .u64) (.pair (.int .u64) (.pair (.int .u64) (.int .u64))))] (f83F k)), (84, entFn [.dat (.int .u64)] [.agg (.pair (.int .u64) (.pair (.int .u64) (.pair (.int .u64) (.int .u64))))] (f84F k)), (85, entFn [.agg (.pair (.int .u64) (.pair (.int .u64) (.pair (.int .u64) (.int .u64)))), .dat (.int .i64)] [.agg (.pair (.int .u64) (.pair (.int .u64) (.pair (.int .u64) (.int .u64))))] (f85F k))]
theorem f54TS (k : Nat) : Sound P (f54T k) := (((Sound.nil).cons f85B (f85Ok k)).cons f84B (f84Ok k)).cons f83B (f83Ok k)
theorem f54B : HasBody P 54 := ⟨Go.Proofs.Try.f54, Go.Proofs.Try.func54, by kernel_rfl, by kernel_rfl⟩
noncomputable def f54F (k : Nat) (x : (Int × Int)) : Option ((Bool × ((Int × (Int × (Int × Int))) × (Int × (Int × (Int × Int)))))) :=
  Option.bind (f83F k ((x.1, x.2), (0 : Int))) fun y1 =>
  Option.bind (f84F k (1 : Int)) fun y2 =>
  Option.bind (f85F k ((y2.1, (y2.2.1, (y2.2.2.1, y2.2.2.2))), x.2)) fun y3 =>
  some ((decide (x.1 < (0 : Int))), ((y1.1, (y1.2.1, (y1.2.2.1, y1.2.2.2))), (y3.1, (y3.2.1, (y3.2.2.1, y3.2.2.2)))))
noncomputable def f54L (k : Nat) : Sums := []
theorem f54LS (k : Nat) : SumsOk P Go.Proofs.Try.f54.ntmps (f54L k) (codeOf Go.Proofs.Try.f54) 1 := SumsOk.nil
theorem f54E (k : Nat) (x : (Int × Int)) : evFS tab (f54T k) (f54L k) Go.Proofs.Try.f54.ntmps Go.Proofs.Try.f54.results.toList (codeOf Go.Proofs.Try.f54) (argsV [.agg (.pair (.int .i64) (.int .i64))] x) [.agg (.pair .bool (.pair (.pair (.int .u64) (.pair (.int .u64) (.pair (.int .u64) (.int .u64)))) (.pair (.int .u64) (.pair (.int .u64) (.pair (.int .u64) (.int .u64))))))] = f54F k x := by kernel_rfl
theorem f54Ok (k : Nat) (x : (Int × Int)) (y : (Bool × ((Int × (Int × (Int × Int))) × (Int × (Int × (Int × Int)))))) (h : f54F k x = some y) : FnOk P 54 [.agg (.pair (.int .i64) (.int .i64))] [.agg (.pair .bool (.pair (.pair (.int .u64) (.pair (.int .u64) (.pair (.int .u64) (.int .u64)))) (.pair (.int .u64) (.pair (.int .u64) (.pair (.int .u64) (.int .u64))))))] x y :=
  evFS_sound tabOk (f54TS k) mixed Go.Proofs.Try.func54 (c := codeOf Go.Proofs.Try.f54) (by kernel_rfl) (f54LS k) ((f54E k x).trans h)
/-! ## (midrange/numeric.wide).plus -/
noncomputable def f87T (k : Nat) : Table := [(108, add64E)]
theorem f87TS (k : Nat) : Sound P (f87T k) := (Sound.nil).ext (add64_ok Go.Proofs.Try.func108 (by kernel_rfl) (by kernel_rfl) (by kernel_rfl) (by kernel_rfl))
theorem f87B : HasBody P 87 := ⟨Go.Proofs.Try.f87, Go.Proofs.Try.func87, by kernel_rfl, by kernel_rfl⟩
noncomputable def f87F (k : Nat) (x : (Int × (Int × (Int × Int))) × (Int × (Int × (Int × Int)))) : Option ((Int × (Int × (Int × Int)))) :=
  bif (decide ((0 : Int) ≤ x.1.1) && (decide ((0 : Int) ≤ x.2.1) && (decide ((0 : Int) ≤ (0 : Int)) && decide ((0 : Int) ≤ 1)))) then
  bif (decide ((0 : Int) ≤ x.1.2.1) && (decide ((0 : Int) ≤ x.2.2.1) && (decide ((0 : Int) ≤ ((x.1.1 + x.2.1 + (0 : Int)) / 18446744073709551616)) && decide (((x.1.1 + x.2.1 + (0 : Int)) / 18446744073709551616) ≤ 1)))) then
  let t1 := ((x.1.2.1 + x.2.2.1 + ((x.1.1 + x.2.1 + (0 : Int)) / 18446744073709551616)) % 18446744073709551616)
  let t2 := ((x.1.2.1 + x.2.2.1 + ((x.1.1 + x.2.1 + (0 : Int)) / 18446744073709551616)) / 18446744073709551616)
  bif (decide ((0 : Int) ≤ x.1.2.2.1) && (decide ((0 : Int) ≤ x.2.2.2.1) && (decide ((0 : Int) ≤ t2) && decide (t2 ≤ 1)))) then
  bif (decide ((0 : Int) ≤ x.1.2.2.2) && (decide ((0 : Int) ≤ x.2.2.2.2) && (decide ((0 : Int) ≤ ((x.1.2.2.1 + x.2.2.2.1 + t2) / 18446744073709551616)) && decide (((x.1.2.2.1 + x.2.2.2.1 + t2) / 18446744073709551616) ≤ 1)))) then
  let t3 := ((x.1.2.2.2 + x.2.2.2.2 + ((x.1.2.2.1 + x.2.2.2.1 + t2) / 18446744073709551616)) % 18446744073709551616)
  let t4 := ((x.1.2.2.2 + x.2.2.2.2 + ((x.1.2.2.1 + x.2.2.2.1 + t2) / 18446744073709551616)) / 18446744073709551616)
  some (((x.1.1 + x.2.1 + (0 : Int)) % 18446744073709551616), (t1, (((x.1.2.2.1 + x.2.2.2.1 + t2) % 18446744073709551616), t3)))
  else none
  else none
  else none
  else none
noncomputable def f87L (k : Nat) : Sums := []
theorem f87LS (k : Nat) : SumsOk P Go.Proofs.Try.f87.ntmps (f87L k) (codeOf Go.Proofs.Try.f87) 1 := SumsOk.nil
theorem f87E (k : Nat) (x : (Int × (Int × (Int × Int))) × (Int × (Int × (Int × Int)))) : evFS tab (f87T k) (f87L k) Go.Proofs.Try.f87.ntmps Go.Proofs.Try.f87.results.toList (codeOf Go.Proofs.Try.f87) (argsV [.agg (.pair (.int .u64) (.pair (.int .u64) (.pair (.int .u64) (.int .u64)))), .agg (.pair (.int .u64) (.pair (.int .u64) (.pair (.int .u64) (.int .u64))))] x) [.agg (.pair (.int .u64) (.pair (.int .u64) (.pair (.int .u64) (.int .u64))))] = f87F k x := by kernel_rfl
theorem f87Ok (k : Nat) (x : (Int × (Int × (Int × Int))) × (Int × (Int × (Int × Int)))) (y : (Int × (Int × (Int × Int)))) (h : f87F k x = some y) : FnOk P 87 [.agg (.pair (.int .u64) (.pair (.int .u64) (.pair (.int .u64) (.int .u64)))), .agg (.pair (.int .u64) (.pair (.int .u64) (.pair (.int .u64) (.int .u64))))] [.agg (.pair (.int .u64) (.pair (.int .u64) (.pair (.int .u64) (.int .u64))))] x y :=
  evFS_sound tabOk (f87TS k) mixed Go.Proofs.Try.func87 (c := codeOf Go.Proofs.Try.f87) (by kernel_rfl) (f87LS k) ((f87E k x).trans h)
/-! ## (midrange/numeric.wide).compare -/
noncomputable def f63T (k : Nat) : Table := []
theorem f63TS (k : Nat) : Sound P (f63T k) := Sound.nil
theorem f63B : HasBody P 63 := ⟨Go.Proofs.Try.f63, Go.Proofs.Try.func63, by kernel_rfl, by kernel_rfl⟩
noncomputable def f63F (k : Nat) (x : (Int × (Int × (Int × Int))) × (Int × (Int × (Int × Int)))) : Option (Int) :=
  bif (decide (x.1.2.2.2 < x.2.2.2.2)) then
    some (-1 : Int)
  else
  bif (decide (x.1.2.2.2 > x.2.2.2.2)) then
    some (1 : Int)
  else
  bif (decide (x.1.2.2.1 < x.2.2.2.1)) then
    some (-1 : Int)
  else
  bif (decide (x.1.2.2.1 > x.2.2.2.1)) then
    some (1 : Int)
  else
  bif (decide (x.1.2.1 < x.2.2.1)) then
    some (-1 : Int)
  else
  bif (decide (x.1.2.1 > x.2.2.1)) then
    some (1 : Int)
  else
  bif (decide (x.1.1 < x.2.1)) then
    some (-1 : Int)
  else
  bif (decide (x.1.1 > x.2.1)) then
    some (1 : Int)
  else
  some (0 : Int)
noncomputable def f63L (k : Nat) : Sums := []
theorem f63LS (k : Nat) : SumsOk P Go.Proofs.Try.f63.ntmps (f63L k) (codeOf Go.Proofs.Try.f63) 1 := SumsOk.nil
theorem f63E (k : Nat) (x : (Int × (Int × (Int × Int))) × (Int × (Int × (Int × Int)))) : evFS tab (f63T k) (f63L k) Go.Proofs.Try.f63.ntmps Go.Proofs.Try.f63.results.toList (codeOf Go.Proofs.Try.f63) (argsV [.agg (.pair (.int .u64) (.pair (.int .u64) (.pair (.int .u64) (.int .u64)))), .agg (.pair (.int .u64) (.pair (.int .u64) (.pair (.int .u64) (.int .u64))))] x) [.dat (.int .i64)] = f63F k x := by kernel_rfl
theorem f63Ok (k : Nat) (x : (Int × (Int × (Int × Int))) × (Int × (Int × (Int × Int)))) (y : Int) (h : f63F k x = some y) : FnOk P 63 [.agg (.pair (.int .u64) (.pair (.int .u64) (.pair (.int .u64) (.int .u64)))), .agg (.pair (.int .u64) (.pair (.int .u64) (.pair (.int .u64) (.int .u64))))] [.dat (.int .i64)] x y :=
  evFS_sound tabOk (f63TS k) mixed Go.Proofs.Try.func63 (c := codeOf Go.Proofs.Try.f63) (by kernel_rfl) (f63LS k) ((f63E k x).trans h)
/-! ## (midrange/numeric.wide).minus -/
noncomputable def f107T (k : Nat) : Table := [(115, sub64E)]
theorem f107TS (k : Nat) : Sound P (f107T k) := (Sound.nil).ext (sub64_ok Go.Proofs.Try.func115 (by kernel_rfl) (by kernel_rfl) (by kernel_rfl) (by kernel_rfl))
theorem f107B : HasBody P 107 := ⟨Go.Proofs.Try.f107, Go.Proofs.Try.func107, by kernel_rfl, by kernel_rfl⟩
noncomputable def f107F (k : Nat) (x : (Int × (Int × (Int × Int))) × (Int × (Int × (Int × Int)))) : Option ((Int × (Int × (Int × Int)))) :=
  bif (decide ((0 : Int) ≤ x.1.1) && (decide ((0 : Int) ≤ x.2.1) && (decide (x.2.1 ≤ 18446744073709551615) && (decide ((0 : Int) ≤ (0 : Int)) && decide ((0 : Int) ≤ 1))))) then
  bif (decide ((0 : Int) ≤ x.1.2.1) && (decide ((0 : Int) ≤ x.2.2.1) && (decide (x.2.2.1 ≤ 18446744073709551615) && (decide ((0 : Int) ≤ (if x.1.1 < x.2.1 + (0 : Int) then (1 : Int) else 0)) && decide ((if x.1.1 < x.2.1 + (0 : Int) then (1 : Int) else 0) ≤ 1))))) then
  let t1 := ((x.1.2.1 - x.2.2.1 - (if x.1.1 < x.2.1 + (0 : Int) then (1 : Int) else 0)) % 18446744073709551616)
  let t2 := (if x.1.2.1 < x.2.2.1 + (if x.1.1 < x.2.1 + (0 : Int) then (1 : Int) else 0) then (1 : Int) else 0)
  bif (decide ((0 : Int) ≤ x.1.2.2.1) && (decide ((0 : Int) ≤ x.2.2.2.1) && (decide (x.2.2.2.1 ≤ 18446744073709551615) && (decide ((0 : Int) ≤ t2) && decide (t2 ≤ 1))))) then
  bif (decide ((0 : Int) ≤ x.1.2.2.2) && (decide ((0 : Int) ≤ x.2.2.2.2) && (decide (x.2.2.2.2 ≤ 18446744073709551615) && (decide ((0 : Int) ≤ (if x.1.2.2.1 < x.2.2.2.1 + t2 then (1 : Int) else 0)) && decide ((if x.1.2.2.1 < x.2.2.2.1 + t2 then (1 : Int) else 0) ≤ 1))))) then
  let t3 := ((x.1.2.2.2 - x.2.2.2.2 - (if x.1.2.2.1 < x.2.2.2.1 + t2 then (1 : Int) else 0)) % 18446744073709551616)
  let t4 := (if x.1.2.2.2 < x.2.2.2.2 + (if x.1.2.2.1 < x.2.2.2.1 + t2 then (1 : Int) else 0) then (1 : Int) else 0)
  some (((x.1.1 - x.2.1 - (0 : Int)) % 18446744073709551616), (t1, (((x.1.2.2.1 - x.2.2.2.1 - t2) % 18446744073709551616), t3)))
  else none
  else none
  else none
  else none
noncomputable def f107L (k : Nat) : Sums := []
theorem f107LS (k : Nat) : SumsOk P Go.Proofs.Try.f107.ntmps (f107L k) (codeOf Go.Proofs.Try.f107) 1 := SumsOk.nil
theorem f107E (k : Nat) (x : (Int × (Int × (Int × Int))) × (Int × (Int × (Int × Int)))) : evFS tab (f107T k) (f107L k) Go.Proofs.Try.f107.ntmps Go.Proofs.Try.f107.results.toList (codeOf Go.Proofs.Try.f107) (argsV [.agg (.pair (.int .u64) (.pair (.int .u64) (.pair (.int .u64) (.int .u64)))), .agg (.pair (.int .u64) (.pair (.int .u64) (.pair (.int .u64) (.int .u64))))] x) [.agg (.pair (.int .u64) (.pair (.int .u64) (.pair (.int .u64) (.int .u64))))] = f107F k x := by kernel_rfl
theorem f107Ok (k : Nat) (x : (Int × (Int × (Int × Int))) × (Int × (Int × (Int × Int)))) (y : (Int × (Int × (Int × Int)))) (h : f107F k x = some y) : FnOk P 107 [.agg (.pair (.int .u64) (.pair (.int .u64) (.pair (.int .u64) (.int .u64)))), .agg (.pair (.int .u64) (.pair (.int .u64) (.pair (.int .u64) (.int .u64))))] [.agg (.pair (.int .u64) (.pair (.int .u64) (.pair (.int .u64) (.int .u64))))] x y :=
  evFS_sound tabOk (f107TS k) mixed Go.Proofs.Try.func107 (c := codeOf Go.Proofs.Try.f107) (by kernel_rfl) (f107LS k) ((f107E k x).trans h)
/-! ## (midrange/numeric.wide).divided -/
noncomputable def f86T (k : Nat) : Table := [(63, entFn [.agg (.pair (.int .u64) (.pair (.int .u64) (.pair (.int .u64) (.int .u64)))), .agg (.pair (.int .u64) (.pair (.int .u64) (.pair (.int .u64) (.int .u64))))] [.dat (.int .i64)] (f63F k)), (87, entFn [.agg (.pair (.int .u64) (.pair (.int .u64) (.pair (.int .u64) (.int .u64)))), .agg (.pair (.int .u64) (.pair (.int .u64) (.pair (.int .u64) (.int .u64))))] [.agg (.pair (.int .u64) (.pair (.int .u64) (.pair (.int .u64) (.int .u64))))] (f87F k)), (107, entFn [.agg (.pair (.int .u64) (.pair (.int .u64) (.pair (.int .u64) (.int .u64)))), .agg (.pair (.int .u64) (.pair (.int .u64) (.pair (.int .u64) (.int .u64))))] [.agg (.pair (.int .u64) (.pair (.int .u64) (.pair (.int .u64) (.int .u64))))] (f107F k))]
theorem f86TS (k : Nat) : Sound P (f86T k) := (((Sound.nil).cons f107B (f107Ok k)).cons f87B (f87Ok k)).cons f63B (f63Ok k)
theorem f86B : HasBody P 86 := ⟨Go.Proofs.Try.f86, Go.Proofs.Try.func86, by kernel_rfl, by kernel_rfl⟩
noncomputable def f86p0H : Shape := ⟨[(2, .one (.ptr 0 0)), (3, .one (.ptr 1 0)), (4, .one (.ptr 2 0)), (5, .one (.ptr 3 0)), (6, .one (.int .i64))], [(0, .var [.int .u64, .int .u64, .int .u64, .int .u64]), (1, .var [.int .u64, .int .u64, .int .u64, .int .u64]), (2, .var [.int .u64, .int .u64, .int .u64, .int .u64]), (3, .var [.int .u64, .int .u64, .int .u64, .int .u64])], 4⟩
noncomputable def f86p0X0 : Shape := ⟨[(2, .one (.ptr 0 0)), (3, .one (.ptr 1 0)), (4, .one (.ptr 2 0)), (5, .one (.ptr 3 0)), (6, .one (.int .i64))], [(0, .var [.int .u64, .int .u64, .int .u64, .int .u64]), (1, .var [.int .u64, .int .u64, .int .u64, .int .u64]), (2, .var [.int .u64, .int .u64, .int .u64, .int .u64]), (3, .var [.int .u64, .int .u64, .int .u64, .int .u64])], 4⟩
noncomputable def f86p0N : NoteR := ⟨[2, 3, 4, 5, 6], [], []⟩
noncomputable def f86p0M : NoteR := ⟨[2, 3, 4, 5, 6], [], []⟩
noncomputable def f86p0C : Code := firstC (codesAt 210 (codeOf Go.Proofs.Try.f86) 1)
noncomputable def f86p0 {R : Type} (k : Nat) (k0 : Int × Int × Int × Int × Int × Int × Int × Int × Int × Int × Int × Int × Int × Int × Int × Int × Int × Unit → Option R) (v : Int × Int × Int × Int × Int × Int × Int × Int × Int × Int × Int × Int × Int × Int × Int × Int × Int × Unit) : Option R :=
  Option.bind (f87F k ((v.2.2.2.2.2.2.2.2.2.2.2.2.2.1, (v.2.2.2.2.2.2.2.2.2.2.2.2.2.2.1, (v.2.2.2.2.2.2.2.2.2.2.2.2.2.2.2.1, v.2.2.2.2.2.2.2.2.2.2.2.2.2.2.2.2.1))), (v.2.2.2.2.2.2.2.2.2.2.2.2.2.1, (v.2.2.2.2.2.2.2.2.2.2.2.2.2.2.1, (v.2.2.2.2.2.2.2.2.2.2.2.2.2.2.2.1, v.2.2.2.2.2.2.2.2.2.2.2.2.2.2.2.2.1))))) fun y1 =>
  bif ((decide ((0 : Int) ≤ (IntKind.i64.wrap (Int.tdiv v.1 (64 : Int))))) && (decide ((IntKind.i64.wrap (Int.tdiv v.1 (64 : Int))) < (4 : Int)))) then
  let t2 := (List.getD [v.2.1, v.2.2.1, v.2.2.2.1, v.2.2.2.2.1] (Int.toNat (IntKind.i64.wrap (Int.tdiv v.1 (64 : Int)))) 0)
  bif (decide ((0 : Int) ≤ (Int.tmod v.1 (64 : Int)))) then
  let t3 := (bits .or .u64 y1.1 (bits .and .u64 (shrI .u64 t2 (Int.tmod v.1 (64 : Int))) (1 : Int)))
  Option.bind (f63F k ((t3, (y1.2.1, (y1.2.2.1, y1.2.2.2))), (v.2.2.2.2.2.1, (v.2.2.2.2.2.2.1, (v.2.2.2.2.2.2.2.1, v.2.2.2.2.2.2.2.2.1))))) fun y4 =>
  bif (decide (y4 ≥ (0 : Int))) then
    Option.bind (f107F k ((t3, (y1.2.1, (y1.2.2.1, y1.2.2.2))), (v.2.2.2.2.2.1, (v.2.2.2.2.2.2.1, (v.2.2.2.2.2.2.2.1, v.2.2.2.2.2.2.2.2.1))))) fun y5 =>
    bif ((decide ((0 : Int) ≤ (IntKind.i64.wrap (Int.tdiv v.1 (64 : Int))))) && (decide ((IntKind.i64.wrap (Int.tdiv v.1 (64 : Int))) < (4 : Int)))) then
    let t6 := (List.getD [v.2.2.2.2.2.2.2.2.2.1, v.2.2.2.2.2.2.2.2.2.2.1, v.2.2.2.2.2.2.2.2.2.2.2.1, v.2.2.2.2.2.2.2.2.2.2.2.2.1] (Int.toNat (IntKind.i64.wrap (Int.tdiv v.1 (64 : Int)))) 0)
    bif (decide ((0 : Int) ≤ (Int.tmod v.1 (64 : Int)))) then
    bif ((decide ((0 : Int) ≤ (IntKind.i64.wrap (Int.tdiv v.1 (64 : Int))))) && (decide ((IntKind.i64.wrap (Int.tdiv v.1 (64 : Int))) < (4 : Int)))) then
    let t7 := (bif Nat.beq (Int.toNat (IntKind.i64.wrap (Int.tdiv v.1 (64 : Int)))) 0 then (bits .or .u64 t6 (shlI .u64 (1 : Int) (Int.tmod v.1 (64 : Int)))) else v.2.2.2.2.2.2.2.2.2.1)
    let t8 := (bif Nat.beq (Int.toNat (IntKind.i64.wrap (Int.tdiv v.1 (64 : Int)))) 1 then (bits .or .u64 t6 (shlI .u64 (1 : Int) (Int.tmod v.1 (64 : Int)))) else v.2.2.2.2.2.2.2.2.2.2.1)
    let t9 := (bif Nat.beq (Int.toNat (IntKind.i64.wrap (Int.tdiv v.1 (64 : Int)))) 2 then (bits .or .u64 t6 (shlI .u64 (1 : Int) (Int.tmod v.1 (64 : Int)))) else v.2.2.2.2.2.2.2.2.2.2.2.1)
    let t10 := (bif Nat.beq (Int.toNat (IntKind.i64.wrap (Int.tdiv v.1 (64 : Int)))) 3 then (bits .or .u64 t6 (shlI .u64 (1 : Int) (Int.tmod v.1 (64 : Int)))) else v.2.2.2.2.2.2.2.2.2.2.2.2.1)
    k0 (v.1, v.2.1, v.2.2.1, v.2.2.2.1, v.2.2.2.2.1, v.2.2.2.2.2.1, v.2.2.2.2.2.2.1, v.2.2.2.2.2.2.2.1, v.2.2.2.2.2.2.2.2.1, t7, t8, t9, t10, y5.1, y5.2.1, y5.2.2.1, y5.2.2.2, ())
    else none
    else none
    else none
  else
  k0 (v.1, v.2.1, v.2.2.1, v.2.2.2.1, v.2.2.2.2.1, v.2.2.2.2.2.1, v.2.2.2.2.2.2.1, v.2.2.2.2.2.2.2.1, v.2.2.2.2.2.2.2.2.1, v.2.2.2.2.2.2.2.2.2.1, v.2.2.2.2.2.2.2.2.2.2.1, v.2.2.2.2.2.2.2.2.2.2.2.1, v.2.2.2.2.2.2.2.2.2.2.2.2.1, t3, y1.2.1, y1.2.2.1, y1.2.2.2, ())
  else none
  else none
noncomputable def f86p0S (k : Nat) : Sum1 := partSum f86p0H f86p0N (fun R K v => f86p0 k (fun w => K .normal (encSt f86p0X0 w)) v)
theorem f86p0E (k : Nat) (R : Type) (K : X → St → Option R) (v : f86p0H.Den) : evS tab (f86T k) Go.Proofs.Try.f86.ntmps [] f86p0C 210 (partK f86p0M K) (encSt f86p0H v) = f86p0 k (fun w => K .normal (encSt f86p0X0 w)) v := by kernel_rfl
theorem f86p0I (k : Nat) : SumsOk P Go.Proofs.Try.f86.ntmps [] f86p0C 210 := SumsOk.nil
theorem f86p0O (k : Nat) : SumOk P Go.Proofs.Try.f86.ntmps f86p0C (f86p0S k) := sum_part tabOk (f86TS k) mixed (f86p0I k) (f86p0E k)
noncomputable def f86l1H : Shape := ⟨[(2, .one (.ptr 0 0)), (3, .one (.ptr 1 0)), (4, .one (.ptr 2 0)), (5, .one (.ptr 3 0)), (6, .one (.int .i64))], [(0, .var [.int .u64, .int .u64, .int .u64, .int .u64]), (1, .var [.int .u64, .int .u64, .int .u64, .int .u64]), (2, .var [.int .u64, .int .u64, .int .u64, .int .u64]), (3, .var [.int .u64, .int .u64, .int .u64, .int .u64])], 4⟩
noncomputable def f86l1X0 : Shape := ⟨[(4, .one (.ptr 0 0)), (5, .one (.ptr 1 0))], [(0, .var [.int .u64, .int .u64, .int .u64, .int .u64]), (1, .var [.int .u64, .int .u64, .int .u64, .int .u64])], 2⟩
noncomputable def f86l1N : NoteR := ⟨[2, 3, 4, 5, 6], [], []⟩
noncomputable def f86l1M : NoteR := ⟨[4, 5], [], []⟩
noncomputable def f86l1C : Code := firstC (codesAt 26 (codeOf Go.Proofs.Try.f86) 1)
noncomputable def f86l1s {R : Type} (k : Nat) (rec : Int × Int × Int × Int × Int × Int × Int × Int × Int × Int × Int × Int × Int × Int × Int × Int × Int × Unit → Option R) (k0 : Int × Int × Int × Int × Int × Int × Int × Int × Unit → Option R) (v : Int × Int × Int × Int × Int × Int × Int × Int × Int × Int × Int × Int × Int × Int × Int × Int × Int × Unit) : Option R :=
  bif (decide (v.1 ≥ (0 : Int))) then
    f86p0 k
      (fun (w11 : Int × Int × Int × Int × Int × Int × Int × Int × Int × Int × Int × Int × Int × Int × Int × Int × Int × Unit) =>
        rec ((IntKind.i64.wrap (w11.1 - (1 : Int))), w11.2.1, w11.2.2.1, w11.2.2.2.1, w11.2.2.2.2.1, w11.2.2.2.2.2.1, w11.2.2.2.2.2.2.1, w11.2.2.2.2.2.2.2.1, w11.2.2.2.2.2.2.2.2.1, w11.2.2.2.2.2.2.2.2.2.1, w11.2.2.2.2.2.2.2.2.2.2.1, w11.2.2.2.2.2.2.2.2.2.2.2.1, w11.2.2.2.2.2.2.2.2.2.2.2.2.1, w11.2.2.2.2.2.2.2.2.2.2.2.2.2.1, w11.2.2.2.2.2.2.2.2.2.2.2.2.2.2.1, w11.2.2.2.2.2.2.2.2.2.2.2.2.2.2.2.1, w11.2.2.2.2.2.2.2.2.2.2.2.2.2.2.2.2.1, ()))
      (v.1, v.2.1, v.2.2.1, v.2.2.2.1, v.2.2.2.2.1, v.2.2.2.2.2.1, v.2.2.2.2.2.2.1, v.2.2.2.2.2.2.2.1, v.2.2.2.2.2.2.2.2.1, v.2.2.2.2.2.2.2.2.2.1, v.2.2.2.2.2.2.2.2.2.2.1, v.2.2.2.2.2.2.2.2.2.2.2.1, v.2.2.2.2.2.2.2.2.2.2.2.2.1, v.2.2.2.2.2.2.2.2.2.2.2.2.2.1, v.2.2.2.2.2.2.2.2.2.2.2.2.2.2.1, v.2.2.2.2.2.2.2.2.2.2.2.2.2.2.2.1, v.2.2.2.2.2.2.2.2.2.2.2.2.2.2.2.2.1, ())
  else
  k0 (v.2.2.2.2.2.2.2.2.2.1, v.2.2.2.2.2.2.2.2.2.2.1, v.2.2.2.2.2.2.2.2.2.2.2.1, v.2.2.2.2.2.2.2.2.2.2.2.2.1, v.2.2.2.2.2.2.2.2.2.2.2.2.2.1, v.2.2.2.2.2.2.2.2.2.2.2.2.2.2.1, v.2.2.2.2.2.2.2.2.2.2.2.2.2.2.2.1, v.2.2.2.2.2.2.2.2.2.2.2.2.2.2.2.2.1, ())
noncomputable def f86l1 {R : Type} (k : Nat) (k0 : Int × Int × Int × Int × Int × Int × Int × Int × Unit → Option R) (v : Int × Int × Int × Int × Int × Int × Int × Int × Int × Int × Int × Int × Int × Int × Int × Int × Int × Unit) : Option R := iterS (fun rec v => f86l1s k rec k0 v) k v
noncomputable def f86l1S (k : Nat) : Sum1 := loopSum f86l1H f86l1N k (fun R rec K v => f86l1s k rec (fun w => K (.exit 0) (encSt f86l1X0 w)) v)
theorem f86l1E (k : Nat) (R : Type) (rec : St → Option R) (K : X → St → Option R) (v : f86l1H.Den) : evS tab (f86T k) Go.Proofs.Try.f86.ntmps [(210, f86p0S k)] (bodyOf f86l1C) 52 (bodyK f86l1N f86l1M rec K) (encSt f86l1H v) = f86l1s k (fun v => rec (encSt f86l1H v)) (fun w => K (.exit 0) (encSt f86l1X0 w)) v := by kernel_rfl
theorem f86l1I (k : Nat) : SumsOk P Go.Proofs.Try.f86.ntmps [(210, f86p0S k)] (bodyOf f86l1C) 52 := (SumsOk.nil).cons (c := f86p0C) (by kernel_rfl) (f86p0O k)
theorem f86l1O (k : Nat) : SumOk P Go.Proofs.Try.f86.ntmps f86l1C (f86l1S k) := (show f86l1C = .loop (bodyOf f86l1C) by kernel_rfl) ▸ sum_loop tabOk (f86TS k) mixed (f86l1I k) (f86l1E k)
noncomputable def f86F (k : Nat) (x : (Int × (Int × (Int × Int))) × (Int × (Int × (Int × Int)))) : Option ((Int × (Int × (Int × Int))) × (Int × (Int × (Int × Int)))) :=
  f86l1 k
    (fun (w12 : Int × Int × Int × Int × Int × Int × Int × Int × Unit) =>
      some ((w12.1, (w12.2.1, (w12.2.2.1, w12.2.2.2.1))), (w12.2.2.2.2.1, (w12.2.2.2.2.2.1, (w12.2.2.2.2.2.2.1, w12.2.2.2.2.2.2.2.1)))))
    ((255 : Int), x.1.1, x.1.2.1, x.1.2.2.1, x.1.2.2.2, x.2.1, x.2.2.1, x.2.2.2.1, x.2.2.2.2, (0 : Int), (0 : Int), (0 : Int), (0 : Int), (0 : Int), (0 : Int), (0 : Int), (0 : Int), ())
noncomputable def f86L (k : Nat) : Sums := [(210, f86p0S k), (26, f86l1S k)]
theorem f86LS (k : Nat) : SumsOk P Go.Proofs.Try.f86.ntmps (f86L k) (codeOf Go.Proofs.Try.f86) 1 := ((SumsOk.nil).cons (c := f86l1C) (by kernel_rfl) (f86l1O k)).cons (c := f86p0C) (by kernel_rfl) (f86p0O k)
theorem f86E (k : Nat) (x : (Int × (Int × (Int × Int))) × (Int × (Int × (Int × Int)))) : evFS tab (f86T k) (f86L k) Go.Proofs.Try.f86.ntmps Go.Proofs.Try.f86.results.toList (codeOf Go.Proofs.Try.f86) (argsV [.agg (.pair (.int .u64) (.pair (.int .u64) (.pair (.int .u64) (.int .u64)))), .agg (.pair (.int .u64) (.pair (.int .u64) (.pair (.int .u64) (.int .u64))))] x) [.agg (.pair (.int .u64) (.pair (.int .u64) (.pair (.int .u64) (.int .u64)))), .agg (.pair (.int .u64) (.pair (.int .u64) (.pair (.int .u64) (.int .u64))))] = f86F k x := by kernel_rfl
theorem f86Ok (k : Nat) (x : (Int × (Int × (Int × Int))) × (Int × (Int × (Int × Int)))) (y : (Int × (Int × (Int × Int))) × (Int × (Int × (Int × Int)))) (h : f86F k x = some y) : FnOk P 86 [.agg (.pair (.int .u64) (.pair (.int .u64) (.pair (.int .u64) (.int .u64)))), .agg (.pair (.int .u64) (.pair (.int .u64) (.pair (.int .u64) (.int .u64))))] [.agg (.pair (.int .u64) (.pair (.int .u64) (.pair (.int .u64) (.int .u64)))), .agg (.pair (.int .u64) (.pair (.int .u64) (.pair (.int .u64) (.int .u64))))] x y :=
  evFS_sound tabOk (f86TS k) mixed Go.Proofs.Try.func86 (c := codeOf Go.Proofs.Try.f86) (by kernel_rfl) (f86LS k) ((f86E k x).trans h)
/-! ## (midrange/numeric.fraction).put -/
noncomputable def f55T (k : Nat) : Table := [(63, entFn [.agg (.pair (.int .u64) (.pair (.int .u64) (.pair (.int .u64) (.int .u64)))), .agg (.pair (.int .u64) (.pair (.int .u64) (.pair (.int .u64) (.int .u64))))] [.dat (.int .i64)] (f63F k)), (84, entFn [.dat (.int .u64)] [.agg (.pair (.int .u64) (.pair (.int .u64) (.pair (.int .u64) (.int .u64))))] (f84F k)), (85, entFn [.agg (.pair (.int .u64) (.pair (.int .u64) (.pair (.int .u64) (.int .u64)))), .dat (.int .i64)] [.agg (.pair (.int .u64) (.pair (.int .u64) (.pair (.int .u64) (.int .u64))))] (f85F k)), (86, entFn [.agg (.pair (.int .u64) (.pair (.int .u64) (.pair (.int .u64) (.int .u64)))), .agg (.pair (.int .u64) (.pair (.int .u64) (.pair (.int .u64) (.int .u64))))] [.agg (.pair (.int .u64) (.pair (.int .u64) (.pair (.int .u64) (.int .u64)))), .agg (.pair (.int .u64) (.pair (.int .u64) (.pair (.int .u64) (.int .u64))))] (f86F k)), (87, entFn [.agg (.pair (.int .u64) (.pair (.int .u64) (.pair (.int .u64) (.int .u64)))), .agg (.pair (.int .u64) (.pair (.int .u64) (.pair (.int .u64) (.int .u64))))] [.agg (.pair (.int .u64) (.pair (.int .u64) (.pair (.int .u64) (.int .u64))))] (f87F k))]
theorem f55TS (k : Nat) : Sound P (f55T k) := (((((Sound.nil).cons f87B (f87Ok k)).cons f86B (f86Ok k)).cons f85B (f85Ok k)).cons f84B (f84Ok k)).cons f63B (f63Ok k)
theorem f55B : HasBody P 55 := ⟨Go.Proofs.Try.f55, Go.Proofs.Try.func55, by kernel_rfl, by kernel_rfl⟩
noncomputable def f55p0H : Shape := ⟨[(2, .one (.bool)), (3, .one (.ptr 0 0)), (4, .one (.ptr 1 0)), (6, .one (.ptr 2 0)), (8, .one (.ptr 3 0)), (9, .one (.ptr 4 0))], [(0, .var [.bool, .int .u64, .int .u64, .int .u64, .int .u64, .int .u64, .int .u64, .int .u64, .int .u64]), (1, .var [.int .i64, .int .i64, .int .i64]), (2, .var [.int .i64, .str]), (3, .var [.int .u64, .int .u64, .int .u64, .int .u64]), (4, .var [.int .u64, .int .u64, .int .u64, .int .u64])], 5⟩
noncomputable def f55p0X0 : Shape := ⟨[(3, .one (.ptr 0 0)), (4, .one (.ptr 1 0)), (6, .one (.ptr 2 0)), (8, .one (.ptr 3 0))], [(0, .var [.bool, .int .u64, .int .u64, .int .u64, .int .u64, .int .u64, .int .u64, .int .u64, .int .u64]), (1, .var [.int .i64, .int .i64, .int .i64]), (2, .var [.int .i64, .str]), (3, .var [.int .u64, .int .u64, .int .u64, .int .u64])], 4⟩
noncomputable def f55p0N : NoteR := ⟨[2, 3, 4, 6, 8, 9], [], []⟩
noncomputable def f55p0M : NoteR := ⟨[3, 4, 6, 7, 8], [], []⟩
noncomputable def f55p0C : Code := firstC (codesAt 14 (codeOf Go.Proofs.Try.f55) 1)
noncomputable def f55p0 {R : Type} (k : Nat) (k0 : Bool × Int × Int × Int × Int × Int × Int × Int × Int × Int × Int × Int × Int × ByteArray × Int × Int × Int × Int × Unit → Option R) (v : Bool × Bool × Int × Int × Int × Int × Int × Int × Int × Int × Int × Int × Int × Int × ByteArray × Int × Int × Int × Int × Int × Int × Int × Int × Unit) : Option R :=
  bif v.1 then
    Option.bind (f87F k ((v.2.2.2.2.2.2.2.2.2.2.2.2.2.2.2.2.2.2.2.1, (v.2.2.2.2.2.2.2.2.2.2.2.2.2.2.2.2.2.2.2.2.1, (v.2.2.2.2.2.2.2.2.2.2.2.2.2.2.2.2.2.2.2.2.2.1, v.2.2.2.2.2.2.2.2.2.2.2.2.2.2.2.2.2.2.2.2.2.2.1))), (v.2.2.2.2.2.2.2.2.2.2.2.2.2.2.2.2.2.2.2.1, (v.2.2.2.2.2.2.2.2.2.2.2.2.2.2.2.2.2.2.2.2.1, (v.2.2.2.2.2.2.2.2.2.2.2.2.2.2.2.2.2.2.2.2.2.1, v.2.2.2.2.2.2.2.2.2.2.2.2.2.2.2.2.2.2.2.2.2.2.1))))) fun y3 =>
    Option.bind (f63F k ((y3.1, (y3.2.1, (y3.2.2.1, y3.2.2.2))), (v.2.2.2.2.2.2.1, (v.2.2.2.2.2.2.2.1, (v.2.2.2.2.2.2.2.2.1, v.2.2.2.2.2.2.2.2.2.1))))) fun y4 =>
    bif (decide (y4 ≥ (0 : Int))) then
      Option.bind (f84F k (1 : Int)) fun y5 =>
      Option.bind (f87F k ((v.2.2.2.2.2.2.2.2.2.2.2.2.2.2.2.1, (v.2.2.2.2.2.2.2.2.2.2.2.2.2.2.2.2.1, (v.2.2.2.2.2.2.2.2.2.2.2.2.2.2.2.2.2.1, v.2.2.2.2.2.2.2.2.2.2.2.2.2.2.2.2.2.2.1))), (y5.1, (y5.2.1, (y5.2.2.1, y5.2.2.2))))) fun y6 =>
      k0 (v.2.1, v.2.2.1, v.2.2.2.1, v.2.2.2.2.1, v.2.2.2.2.2.1, v.2.2.2.2.2.2.1, v.2.2.2.2.2.2.2.1, v.2.2.2.2.2.2.2.2.1, v.2.2.2.2.2.2.2.2.2.1, v.2.2.2.2.2.2.2.2.2.2.1, v.2.2.2.2.2.2.2.2.2.2.2.1, v.2.2.2.2.2.2.2.2.2.2.2.2.1, v.2.2.2.2.2.2.2.2.2.2.2.2.2.1, v.2.2.2.2.2.2.2.2.2.2.2.2.2.2.1, y6.1, y6.2.1, y6.2.2.1, y6.2.2.2, ())
    else
    k0 (v.2.1, v.2.2.1, v.2.2.2.1, v.2.2.2.2.1, v.2.2.2.2.2.1, v.2.2.2.2.2.2.1, v.2.2.2.2.2.2.2.1, v.2.2.2.2.2.2.2.2.1, v.2.2.2.2.2.2.2.2.2.1, v.2.2.2.2.2.2.2.2.2.2.1, v.2.2.2.2.2.2.2.2.2.2.2.1, v.2.2.2.2.2.2.2.2.2.2.2.2.1, v.2.2.2.2.2.2.2.2.2.2.2.2.2.1, v.2.2.2.2.2.2.2.2.2.2.2.2.2.2.1, v.2.2.2.2.2.2.2.2.2.2.2.2.2.2.2.1, v.2.2.2.2.2.2.2.2.2.2.2.2.2.2.2.2.1, v.2.2.2.2.2.2.2.2.2.2.2.2.2.2.2.2.2.1, v.2.2.2.2.2.2.2.2.2.2.2.2.2.2.2.2.2.2.1, ())
  else
  k0 (v.2.1, v.2.2.1, v.2.2.2.1, v.2.2.2.2.1, v.2.2.2.2.2.1, v.2.2.2.2.2.2.1, v.2.2.2.2.2.2.2.1, v.2.2.2.2.2.2.2.2.1, v.2.2.2.2.2.2.2.2.2.1, v.2.2.2.2.2.2.2.2.2.2.1, v.2.2.2.2.2.2.2.2.2.2.2.1, v.2.2.2.2.2.2.2.2.2.2.2.2.1, v.2.2.2.2.2.2.2.2.2.2.2.2.2.1, v.2.2.2.2.2.2.2.2.2.2.2.2.2.2.1, v.2.2.2.2.2.2.2.2.2.2.2.2.2.2.2.1, v.2.2.2.2.2.2.2.2.2.2.2.2.2.2.2.2.1, v.2.2.2.2.2.2.2.2.2.2.2.2.2.2.2.2.2.1, v.2.2.2.2.2.2.2.2.2.2.2.2.2.2.2.2.2.2.1, ())
noncomputable def f55p0S (k : Nat) : Sum1 := partSum f55p0H f55p0N (fun R K v => f55p0 k (fun w => K .normal (encSt f55p0X0 w)) v)
theorem f55p0E (k : Nat) (R : Type) (K : X → St → Option R) (v : f55p0H.Den) : evS tab (f55T k) Go.Proofs.Try.f55.ntmps [] f55p0C 14 (partK f55p0M K) (encSt f55p0H v) = f55p0 k (fun w => K .normal (encSt f55p0X0 w)) v := by kernel_rfl
theorem f55p0I (k : Nat) : SumsOk P Go.Proofs.Try.f55.ntmps [] f55p0C 14 := SumsOk.nil
theorem f55p0O (k : Nat) : SumOk P Go.Proofs.Try.f55.ntmps f55p0C (f55p0S k) := sum_part tabOk (f55TS k) mixed (f55p0I k) (f55p0E k)
noncomputable def f55p1H : Shape := ⟨[(3, .one (.ptr 0 0)), (6, .one (.ptr 1 0)), (10, .one (.int .i64))], [(0, .var [.bool, .int .u64, .int .u64, .int .u64, .int .u64, .int .u64, .int .u64, .int .u64, .int .u64]), (1, .var [.int .i64, .str])], 2⟩
noncomputable def f55p1X0 : Shape := ⟨[(6, .one (.ptr 0 0)), (10, .one (.int .i64))], [(0, .var [.int .i64, .str])], 1⟩
noncomputable def f55p1N : NoteR := ⟨[3, 6, 10], [], []⟩
noncomputable def f55p1M : NoteR := ⟨[6, 7, 10], [], []⟩
noncomputable def f55p1C : Code := firstC (codesAt 126 (codeOf Go.Proofs.Try.f55) 1)
noncomputable def f55p1 {R : Type} (k : Nat) (k0 : Int × Int × ByteArray × Unit → Option R) (v : Int × Bool × Int × Int × Int × Int × Int × Int × Int × Int × Int × ByteArray × Unit) : Option R :=
  bif v.2.1 then
    k0 ((IntKind.i64.wrap (0 - v.1)), v.2.2.2.2.2.2.2.2.2.2.1, v.2.2.2.2.2.2.2.2.2.2.2.1, ())
  else
  k0 (v.1, v.2.2.2.2.2.2.2.2.2.2.1, v.2.2.2.2.2.2.2.2.2.2.2.1, ())
noncomputable def f55p1S (k : Nat) : Sum1 := partSum f55p1H f55p1N (fun R K v => f55p1 k (fun w => K .normal (encSt f55p1X0 w)) v)
theorem f55p1E (k : Nat) (R : Type) (K : X → St → Option R) (v : f55p1H.Den) : evS tab (f55T k) Go.Proofs.Try.f55.ntmps [] f55p1C 126 (partK f55p1M K) (encSt f55p1H v) = f55p1 k (fun w => K .normal (encSt f55p1X0 w)) v := by kernel_rfl
theorem f55p1I (k : Nat) : SumsOk P Go.Proofs.Try.f55.ntmps [] f55p1C 126 := SumsOk.nil
theorem f55p1O (k : Nat) : SumOk P Go.Proofs.Try.f55.ntmps f55p1C (f55p1S k) := sum_part tabOk (f55TS k) mixed (f55p1I k) (f55p1E k)
noncomputable def f55F (k : Nat) (x : (Bool × ((Int × (Int × (Int × Int))) × (Int × (Int × (Int × Int))))) × (Int × (Int × Int)) × Bool) : Option ((Int × ByteArray) × Int) :=
  Option.bind (f85F k ((x.1.2.1.1, (x.1.2.1.2.1, (x.1.2.1.2.2.1, x.1.2.1.2.2.2))), x.2.1.2.2)) fun y1 =>
  Option.bind (f86F k ((y1.1, (y1.2.1, (y1.2.2.1, y1.2.2.2))), (x.1.2.2.1, (x.1.2.2.2.1, (x.1.2.2.2.2.1, x.1.2.2.2.2.2))))) fun y2 =>
  f55p0 k
    (fun (w7 : Bool × Int × Int × Int × Int × Int × Int × Int × Int × Int × Int × Int × Int × ByteArray × Int × Int × Int × Int × Unit) =>
      Option.bind (f84F k (1 : Int)) fun y8 =>
      Option.bind (f85F k ((y8.1, (y8.2.1, (y8.2.2.1, y8.2.2.2))), w7.2.2.2.2.2.2.2.2.2.2.1)) fun y9 =>
      Option.bind (f63F k ((w7.2.2.2.2.2.2.2.2.2.2.2.2.2.2.1, (w7.2.2.2.2.2.2.2.2.2.2.2.2.2.2.2.1, (w7.2.2.2.2.2.2.2.2.2.2.2.2.2.2.2.2.1, w7.2.2.2.2.2.2.2.2.2.2.2.2.2.2.2.2.2.1))), (y9.1, (y9.2.1, (y9.2.2.1, y9.2.2.2))))) fun y10 =>
      bif (decide (y10 ≥ (0 : Int))) then
        some (((0 : Int), ByteArray.empty), (19 : Int))
      else
      f55p1 k
        (fun (w11 : Int × Int × ByteArray × Unit) =>
          some ((w11.1, ByteArray.empty), (0 : Int)))
        ((IntKind.i64.wrap w7.2.2.2.2.2.2.2.2.2.2.2.2.2.2.1), w7.1, w7.2.1, w7.2.2.1, w7.2.2.2.1, w7.2.2.2.2.1, w7.2.2.2.2.2.1, w7.2.2.2.2.2.2.1, w7.2.2.2.2.2.2.2.1, w7.2.2.2.2.2.2.2.2.1, w7.2.2.2.2.2.2.2.2.2.2.2.2.1, w7.2.2.2.2.2.2.2.2.2.2.2.2.2.1, ()))
    (x.2.2, x.1.1, x.1.2.1.1, x.1.2.1.2.1, x.1.2.1.2.2.1, x.1.2.1.2.2.2, x.1.2.2.1, x.1.2.2.2.1, x.1.2.2.2.2.1, x.1.2.2.2.2.2, x.2.1.1, x.2.1.2.1, x.2.1.2.2, (0 : Int), ByteArray.empty, y2.1.1, y2.1.2.1, y2.1.2.2.1, y2.1.2.2.2, y2.2.1, y2.2.2.1, y2.2.2.2.1, y2.2.2.2.2, ())
noncomputable def f55L (k : Nat) : Sums := [(14, f55p0S k), (126, f55p1S k)]
theorem f55LS (k : Nat) : SumsOk P Go.Proofs.Try.f55.ntmps (f55L k) (codeOf Go.Proofs.Try.f55) 1 := ((SumsOk.nil).cons (c := f55p1C) (by kernel_rfl) (f55p1O k)).cons (c := f55p0C) (by kernel_rfl) (f55p0O k)
theorem f55E (k : Nat) (x : (Bool × ((Int × (Int × (Int × Int))) × (Int × (Int × (Int × Int))))) × (Int × (Int × Int)) × Bool) : evFS tab (f55T k) (f55L k) Go.Proofs.Try.f55.ntmps Go.Proofs.Try.f55.results.toList (codeOf Go.Proofs.Try.f55) (argsV [.agg (.pair .bool (.pair (.pair (.int .u64) (.pair (.int .u64) (.pair (.int .u64) (.int .u64)))) (.pair (.int .u64) (.pair (.int .u64) (.pair (.int .u64) (.int .u64)))))), .agg (.pair (.int .i64) (.pair (.int .i64) (.int .i64))), .dat .bool] x) [.agg (.pair (.int .i64) .str), .dat (.int .i64)] = f55F k x := by kernel_rfl
theorem f55Ok (k : Nat) (x : (Bool × ((Int × (Int × (Int × Int))) × (Int × (Int × (Int × Int))))) × (Int × (Int × Int)) × Bool) (y : (Int × ByteArray) × Int) (h : f55F k x = some y) : FnOk P 55 [.agg (.pair .bool (.pair (.pair (.int .u64) (.pair (.int .u64) (.pair (.int .u64) (.int .u64)))) (.pair (.int .u64) (.pair (.int .u64) (.pair (.int .u64) (.int .u64)))))), .agg (.pair (.int .i64) (.pair (.int .i64) (.int .i64))), .dat .bool] [.agg (.pair (.int .i64) .str), .dat (.int .i64)] x y :=
  evFS_sound tabOk (f55TS k) mixed Go.Proofs.Try.func55 (c := codeOf Go.Proofs.Try.f55) (by kernel_rfl) (f55LS k) ((f55E k x).trans h)
/-! ## midrange/numeric.Converted -/
noncomputable def f18T (k : Nat) : Table := [(28, entFn [.agg (.pair (.int .i64) (.pair (.int .i64) (.int .i64)))] [.dat (.int .i64)] (f28F k)), (42, entFn [.dat (.slice (.int .i64))] [.dat (.int .i64)] (f42F k)), (43, entFn [.dat .bool, .dat (.int .i64)] [.dat (.int .i64)] (f43F k)), (52, entFn [.agg (.pair (.int .i64) (.int .i64))] [.dat (.int .i64)] (f52F k)), (53, entFn [.agg (.pair (.int .i64) (.pair (.int .i64) (.int .i64)))] [.dat .bool] (f53F k)), (54, entFn [.agg (.pair (.int .i64) (.int .i64))] [.agg (.pair .bool (.pair (.pair (.int .u64) (.pair (.int .u64) (.pair (.int .u64) (.int .u64)))) (.pair (.int .u64) (.pair (.int .u64) (.pair (.int .u64) (.int .u64))))))] (f54F k)), (55, entFn [.agg (.pair .bool (.pair (.pair (.int .u64) (.pair (.int .u64) (.pair (.int .u64) (.int .u64)))) (.pair (.int .u64) (.pair (.int .u64) (.pair (.int .u64) (.int .u64)))))), .agg (.pair (.int .i64) (.pair (.int .i64) (.int .i64))), .dat .bool] [.agg (.pair (.int .i64) .str), .dat (.int .i64)] (f55F k))]
theorem f18TS (k : Nat) : Sound P (f18T k) := (((((((Sound.nil).cons f55B (f55Ok k)).cons f54B (f54Ok k)).cons f53B (f53Ok k)).cons f52B (f52Ok k)).cons f43B (f43Ok k)).cons f42B (f42Ok k)).cons f28B (f28Ok k)
theorem f18B : HasBody P 18 := ⟨Go.Proofs.Try.f18, Go.Proofs.Try.func18, by kernel_rfl, by kernel_rfl⟩
noncomputable def f18F (k : Nat) (x : (Int × Int) × (Int × (Int × Int)) × Bool) : Option ((Int × ByteArray) × Int) :=
  Option.bind (f52F k (x.1.1, x.1.2)) fun y1 =>
  Option.bind (f28F k (x.2.1.1, (x.2.1.2.1, x.2.1.2.2))) fun y2 =>
  Option.bind (f53F k (x.2.1.1, (x.2.1.2.1, x.2.1.2.2))) fun y3 =>
  Option.bind (f43F k ((!y3), (17 : Int))) fun y4 =>
  Option.bind (f42F k [y1, y2, y4]) fun y5 =>
  bif (y5 != (0 : Int)) then
    some (((0 : Int), ByteArray.empty), y5)
  else
  Option.bind (f54F k (x.1.1, x.1.2)) fun y6 =>
  Option.bind (f55F k ((y6.1, ((y6.2.1.1, (y6.2.1.2.1, (y6.2.1.2.2.1, y6.2.1.2.2.2))), (y6.2.2.1, (y6.2.2.2.1, (y6.2.2.2.2.1, y6.2.2.2.2.2))))), (x.2.1.1, (x.2.1.2.1, x.2.1.2.2)), x.2.2)) fun y7 =>
  some ((y7.1.1, y7.1.2), y7.2)
noncomputable def f18L (k : Nat) : Sums := []
theorem f18LS (k : Nat) : SumsOk P Go.Proofs.Try.f18.ntmps (f18L k) (codeOf Go.Proofs.Try.f18) 1 := SumsOk.nil
theorem f18E (k : Nat) (x : (Int × Int) × (Int × (Int × Int)) × Bool) : evFS tab (f18T k) (f18L k) Go.Proofs.Try.f18.ntmps Go.Proofs.Try.f18.results.toList (codeOf Go.Proofs.Try.f18) (argsV [.agg (.pair (.int .i64) (.int .i64)), .agg (.pair (.int .i64) (.pair (.int .i64) (.int .i64))), .dat .bool] x) [.agg (.pair (.int .i64) .str), .dat (.int .i64)] = f18F k x := by kernel_rfl
theorem f18Ok (k : Nat) (x : (Int × Int) × (Int × (Int × Int)) × Bool) (y : (Int × ByteArray) × Int) (h : f18F k x = some y) : FnOk P 18 [.agg (.pair (.int .i64) (.int .i64)), .agg (.pair (.int .i64) (.pair (.int .i64) (.int .i64))), .dat .bool] [.agg (.pair (.int .i64) .str), .dat (.int .i64)] x y :=
  evFS_sound tabOk (f18TS k) mixed Go.Proofs.Try.func18 (c := codeOf Go.Proofs.Try.f18) (by kernel_rfl) (f18LS k) ((f18E k x).trans h)
/-! ## midrange/midrangeref01.NumberErr -/
noncomputable def f34T (k : Nat) : Table := [(48, entFn [.dat (.int .i64), .dat (.int .i64), .dat (.int .i64)] [.dat .bool] (f48F k)), (69, entFn [.dat .bool] [.dat (.int .i64)] (f69F k))]
theorem f34TS (k : Nat) : Sound P (f34T k) := ((Sound.nil).cons f69B (f69Ok k)).cons f48B (f48Ok k)
theorem f34B : HasBody P 34 := ⟨Go.Proofs.Try.f34, Go.Proofs.Try.func34, by kernel_rfl, by kernel_rfl⟩
noncomputable def f34F (k : Nat) (x : (Int × Int)) : Option (Int) :=
  Option.bind (f48F k (x.1, (-999999999999999 : Int), (999999999999999 : Int))) fun y1 =>
  bif y1 then
    Option.bind (f48F k (x.2, (0 : Int), (15 : Int))) fun y2 =>
    Option.bind (f69F k (!y2)) fun y3 =>
    some (IntKind.i64.wrap ((3 : Int) * y3))
  else
  Option.bind (f69F k true) fun y4 =>
  some (IntKind.i64.wrap ((3 : Int) * y4))
noncomputable def f34L (k : Nat) : Sums := []
theorem f34LS (k : Nat) : SumsOk P Go.Proofs.Try.f34.ntmps (f34L k) (codeOf Go.Proofs.Try.f34) 1 := SumsOk.nil
theorem f34E (k : Nat) (x : (Int × Int)) : evFS tab (f34T k) (f34L k) Go.Proofs.Try.f34.ntmps Go.Proofs.Try.f34.results.toList (codeOf Go.Proofs.Try.f34) (argsV [.agg (.pair (.int .i64) (.int .i64))] x) [.dat (.int .i64)] = f34F k x := by kernel_rfl
theorem f34Ok (k : Nat) (x : (Int × Int)) (y : Int) (h : f34F k x = some y) : FnOk P 34 [.agg (.pair (.int .i64) (.int .i64))] [.dat (.int .i64)] x y :=
  evFS_sound tabOk (f34TS k) mixed Go.Proofs.Try.func34 (c := codeOf Go.Proofs.Try.f34) (by kernel_rfl) (f34LS k) ((f34E k x).trans h)
/-! ## midrange/midrangeref01.numericErr -/
noncomputable def f56T (k : Nat) : Table := [(27, entFn [.agg (.pair (.int .i64) (.pair (.int .i64) (.int .i64)))] [.dat (.int .i64)] (f27F k)), (68, entFn [.dat (.int .i64)] [.dat .bool] (f68F k)), (69, entFn [.dat .bool] [.dat (.int .i64)] (f69F k))]
theorem f56TS (k : Nat) : Sound P (f56T k) := (((Sound.nil).cons f69B (f69Ok k)).cons f68B (f68Ok k)).cons f27B (f27Ok k)
theorem f56B : HasBody P 56 := ⟨Go.Proofs.Try.f56, Go.Proofs.Try.func56, by kernel_rfl, by kernel_rfl⟩
noncomputable def f56F (k : Nat) (x : (Int × (Int × Int))) : Option (Int) :=
  Option.bind (f27F k (x.1, (x.2.1, x.2.2))) fun y1 =>
  bif (y1 != (0 : Int)) then
    some y1
  else
  Option.bind (f68F k x.1) fun y2 =>
  Option.bind (f69F k (!y2)) fun y3 =>
  some (IntKind.i64.wrap ((17 : Int) * y3))
noncomputable def f56L (k : Nat) : Sums := []
theorem f56LS (k : Nat) : SumsOk P Go.Proofs.Try.f56.ntmps (f56L k) (codeOf Go.Proofs.Try.f56) 1 := SumsOk.nil
theorem f56E (k : Nat) (x : (Int × (Int × Int))) : evFS tab (f56T k) (f56L k) Go.Proofs.Try.f56.ntmps Go.Proofs.Try.f56.results.toList (codeOf Go.Proofs.Try.f56) (argsV [.agg (.pair (.int .i64) (.pair (.int .i64) (.int .i64)))] x) [.dat (.int .i64)] = f56F k x := by kernel_rfl
theorem f56Ok (k : Nat) (x : (Int × (Int × Int))) (y : Int) (h : f56F k x = some y) : FnOk P 56 [.agg (.pair (.int .i64) (.pair (.int .i64) (.int .i64)))] [.dat (.int .i64)] x y :=
  evFS_sound tabOk (f56TS k) mixed Go.Proofs.Try.func56 (c := codeOf Go.Proofs.Try.f56) (by kernel_rfl) (f56LS k) ((f56E k x).trans h)
/-! ## midrange/midrangeref01.trim -/
noncomputable def f95T (k : Nat) : Table := []
theorem f95TS (k : Nat) : Sound P (f95T k) := Sound.nil
theorem f95B : HasBody P 95 := ⟨Go.Proofs.Try.f95, Go.Proofs.Try.func95, by kernel_rfl, by kernel_rfl⟩
noncomputable def f95l0H : Shape := ⟨[(0, .one (.ro (.int .i64)))], [], 0⟩
noncomputable def f95l0X0 : Shape := ⟨[(0, .one (.ro (.int .i64)))], [], 0⟩
noncomputable def f95l0N : NoteR := ⟨[0], [], []⟩
noncomputable def f95l0M : NoteR := ⟨[0, 2], [], []⟩
noncomputable def f95l0C : Code := firstC (codesAt 12 (codeOf Go.Proofs.Try.f95) 1)
noncomputable def f95l0s {R : Type} (k : Nat) (rec : List Int × Unit → Option R) (k0 : List Int × Unit → Option R) (v : List Int × Unit) : Option R :=
  bif (decide ((v.1.length : Int) > (0 : Int))) then
    bif ((decide ((0 : Int) ≤ (IntKind.i64.wrap ((v.1.length : Int) - (1 : Int))))) && (decide ((IntKind.i64.wrap ((v.1.length : Int) - (1 : Int))) < (v.1.length : Int)))) then
    let t1 := (v.1.getD (Int.toNat (IntKind.i64.wrap ((v.1.length : Int) - (1 : Int)))) (0 : Int))
    bif (t1 == (0 : Int)) then
      bif (sliceBds (0 : Int) (IntKind.i64.wrap ((v.1.length : Int) - (1 : Int))) (v.1.length : Int)) then
      let t2 := ((v.1.take (Int.toNat (IntKind.i64.wrap ((v.1.length : Int) - (1 : Int))))).drop 0)
      rec (t2, ())
      else none
    else
    k0 (v.1, ())
    else none
  else
  k0 (v.1, ())
noncomputable def f95l0 {R : Type} (k : Nat) (k0 : List Int × Unit → Option R) (v : List Int × Unit) : Option R := iterS (fun rec v => f95l0s k rec k0 v) k v
noncomputable def f95l0S (k : Nat) : Sum1 := loopSum f95l0H f95l0N k (fun R rec K v => f95l0s k rec (fun w => K (.exit 0) (encSt f95l0X0 w)) v)
theorem f95l0E (k : Nat) (R : Type) (rec : St → Option R) (K : X → St → Option R) (v : f95l0H.Den) : evS tab (f95T k) Go.Proofs.Try.f95.ntmps [] (bodyOf f95l0C) 24 (bodyK f95l0N f95l0M rec K) (encSt f95l0H v) = f95l0s k (fun v => rec (encSt f95l0H v)) (fun w => K (.exit 0) (encSt f95l0X0 w)) v := by kernel_rfl
theorem f95l0I (k : Nat) : SumsOk P Go.Proofs.Try.f95.ntmps [] (bodyOf f95l0C) 24 := SumsOk.nil
theorem f95l0O (k : Nat) : SumOk P Go.Proofs.Try.f95.ntmps f95l0C (f95l0S k) := (show f95l0C = .loop (bodyOf f95l0C) by kernel_rfl) ▸ sum_loop tabOk (f95TS k) mixed (f95l0I k) (f95l0E k)
noncomputable def f95F (k : Nat) (x : (List Int)) : Option ((List Int)) :=
  f95l0 k
    (fun (w3 : List Int × Unit) =>
      some w3.1)
    (x, ())
noncomputable def f95L (k : Nat) : Sums := [(12, f95l0S k)]
theorem f95LS (k : Nat) : SumsOk P Go.Proofs.Try.f95.ntmps (f95L k) (codeOf Go.Proofs.Try.f95) 1 := (SumsOk.nil).cons (c := f95l0C) (by kernel_rfl) (f95l0O k)
theorem f95E (k : Nat) (x : (List Int)) : evFS tab (f95T k) (f95L k) Go.Proofs.Try.f95.ntmps Go.Proofs.Try.f95.results.toList (codeOf Go.Proofs.Try.f95) (argsV [.dat (.slice (.int .i64))] x) [.dat (.slice (.int .i64))] = f95F k x := by kernel_rfl
theorem f95Ok (k : Nat) (x : (List Int)) (y : (List Int)) (h : f95F k x = some y) : FnOk P 95 [.dat (.slice (.int .i64))] [.dat (.slice (.int .i64))] x y :=
  evFS_sound tabOk (f95TS k) mixed Go.Proofs.Try.func95 (c := codeOf Go.Proofs.Try.f95) (by kernel_rfl) (f95LS k) ((f95E k x).trans h)
/-! ## midrange/midrangeref01.LongOf -/
noncomputable def f61T (k : Nat) : Table := [(79, entFn [.dat (.int .i64)] [.dat (.int .i64)] (f79F k)), (95, entFn [.dat (.slice (.int .i64))] [.dat (.slice (.int .i64))] (f95F k))]
theorem f61TS (k : Nat) : Sound P (f61T k) := ((Sound.nil).cons f95B (f95Ok k)).cons f79B (f79Ok k)
theorem f61B : HasBody P 61 := ⟨Go.Proofs.Try.f61, Go.Proofs.Try.func61, by kernel_rfl, by kernel_rfl⟩
noncomputable def f61l0H : Shape := ⟨[(0, .one (.int .i64)), (4, .one (.ptr 0 0)), (5, .one (.own 1)), (6, .one (.int .i64))], [(0, .var [.bool, .emp]), (1, .row 3 (.int .i64) .plain)], 2⟩
noncomputable def f61l0X0 : Shape := ⟨[(0, .one (.int .i64)), (4, .one (.ptr 0 0)), (5, .one (.own 1))], [(0, .var [.bool, .emp]), (1, .row 3 (.int .i64) .plain)], 2⟩
noncomputable def f61l0N : NoteR := ⟨[0, 4, 5, 6], [], []⟩
noncomputable def f61l0M : NoteR := ⟨[0, 4, 5], [], []⟩
noncomputable def f61l0C : Code := firstC (codesAt 58 (codeOf Go.Proofs.Try.f61) 1)
noncomputable def f61l0s {R : Type} (k : Nat) (rec : Int × Int × Bool × List Int × Unit → Option R) (k0 : Int × Bool × List Int × Unit → Option R) (v : Int × Int × Bool × List Int × Unit) : Option R :=
  bif (decide (v.2.1 > (0 : Int))) then
    bif (decide ((v.2.2.2.1.length + [(Int.tmod v.2.1 (10 : Int))].length) * 8 ≤ 140737488355328) && decide (v.2.2.2.1.length + [(Int.tmod v.2.1 (10 : Int))].length ≤ 9223372036854775807)) then
    rec (v.1, (IntKind.i64.wrap (Int.tdiv v.2.1 (10 : Int))), v.2.2.1, (v.2.2.2.1 ++ [(Int.tmod v.2.1 (10 : Int))]), ())
    else none
  else
  k0 (v.1, v.2.2.1, v.2.2.2.1, ())
noncomputable def f61l0 {R : Type} (k : Nat) (k0 : Int × Bool × List Int × Unit → Option R) (v : Int × Int × Bool × List Int × Unit) : Option R := iterS (fun rec v => f61l0s k rec k0 v) k v
noncomputable def f61l0S (k : Nat) : Sum1 := loopSum f61l0H f61l0N k (fun R rec K v => f61l0s k rec (fun w => K (.exit 0) (encSt f61l0X0 w)) v)
theorem f61l0E (k : Nat) (R : Type) (rec : St → Option R) (K : X → St → Option R) (v : f61l0H.Den) : evS tab (f61T k) Go.Proofs.Try.f61.ntmps [] (bodyOf f61l0C) 116 (bodyK f61l0N f61l0M rec K) (encSt f61l0H v) = f61l0s k (fun v => rec (encSt f61l0H v)) (fun w => K (.exit 0) (encSt f61l0X0 w)) v := by kernel_rfl
theorem f61l0I (k : Nat) : SumsOk P Go.Proofs.Try.f61.ntmps [] (bodyOf f61l0C) 116 := SumsOk.nil
theorem f61l0O (k : Nat) : SumOk P Go.Proofs.Try.f61.ntmps f61l0C (f61l0S k) := (show f61l0C = .loop (bodyOf f61l0C) by kernel_rfl) ▸ sum_loop tabOk (f61TS k) mixed (f61l0I k) (f61l0E k)
noncomputable def f61F (k : Nat) (x : Int × Int) : Option ((Bool × (List Int))) :=
  bif (((decide ((0 : Int) ≤ x.2)) && (decide ((x.2 * 8) ≤ (140737488355328 : Int)))) && (decide (x.2 ≤ (281474976710656 : Int)))) then
  Option.bind (f79F k x.1) fun y1 =>
  f61l0 k
    (fun (w2 : Int × Bool × List Int × Unit) =>
      Option.bind (f95F k w2.2.2.1) fun y3 =>
      some ((decide (w2.1 < (0 : Int))), y3))
    (x.1, y1, false, (List.replicate (Int.toNat x.2) (0 : Int)), ())
  else none
noncomputable def f61L (k : Nat) : Sums := [(58, f61l0S k)]
theorem f61LS (k : Nat) : SumsOk P Go.Proofs.Try.f61.ntmps (f61L k) (codeOf Go.Proofs.Try.f61) 1 := (SumsOk.nil).cons (c := f61l0C) (by kernel_rfl) (f61l0O k)
theorem f61E (k : Nat) (x : Int × Int) : evFS tab (f61T k) (f61L k) Go.Proofs.Try.f61.ntmps Go.Proofs.Try.f61.results.toList (codeOf Go.Proofs.Try.f61) (argsV [.dat (.int .i64), .dat (.int .i64)] x) [.agg (.pair .bool (.slice (.int .i64)))] = f61F k x := by kernel_rfl
theorem f61Ok (k : Nat) (x : Int × Int) (y : (Bool × (List Int))) (h : f61F k x = some y) : FnOk P 61 [.dat (.int .i64), .dat (.int .i64)] [.agg (.pair .bool (.slice (.int .i64)))] x y :=
  evFS_sound tabOk (f61TS k) mixed Go.Proofs.Try.func61 (c := codeOf Go.Proofs.Try.f61) (by kernel_rfl) (f61LS k) ((f61E k x).trans h)
/-! ## midrange/midrangeref01.power -/
noncomputable def f90T (k : Nat) : Table := []
theorem f90TS (k : Nat) : Sound P (f90T k) := Sound.nil
theorem f90B : HasBody P 90 := ⟨Go.Proofs.Try.f90, Go.Proofs.Try.func90, by kernel_rfl, by kernel_rfl⟩
noncomputable def f90F (k : Nat) (x : Int) : Option (List Int) :=
  bif (((decide ((0 : Int) ≤ x)) && (decide ((x * 8) ≤ (140737488355328 : Int)))) && (decide (x ≤ (281474976710656 : Int)))) then
  bif (decide (((List.replicate (Int.toNat x) (0 : Int)).length + [(1 : Int)].length) * 8 ≤ 140737488355328) && decide ((List.replicate (Int.toNat x) (0 : Int)).length + [(1 : Int)].length ≤ 9223372036854775807)) then
  some ((List.replicate (Int.toNat x) (0 : Int)) ++ [(1 : Int)])
  else none
  else none
noncomputable def f90L (k : Nat) : Sums := []
theorem f90LS (k : Nat) : SumsOk P Go.Proofs.Try.f90.ntmps (f90L k) (codeOf Go.Proofs.Try.f90) 1 := SumsOk.nil
theorem f90E (k : Nat) (x : Int) : evFS tab (f90T k) (f90L k) Go.Proofs.Try.f90.ntmps Go.Proofs.Try.f90.results.toList (codeOf Go.Proofs.Try.f90) (argsV [.dat (.int .i64)] x) [.own 3 (.int .i64)] = f90F k x := by kernel_rfl
theorem f90Ok (k : Nat) (x : Int) (y : List Int) (h : f90F k x = some y) : FnOk P 90 [.dat (.int .i64)] [.own 3 (.int .i64)] x y :=
  evFS_sound tabOk (f90TS k) mixed Go.Proofs.Try.func90 (c := codeOf Go.Proofs.Try.f90) (by kernel_rfl) (f90LS k) ((f90E k x).trans h)
/-! ## midrange/midrangeref01.FractionOf -/
noncomputable def f58T (k : Nat) : Table := [(61, entFn [.dat (.int .i64), .dat (.int .i64)] [.agg (.pair .bool (.slice (.int .i64)))] (f61F k)), (90, entFn [.dat (.int .i64)] [.own 3 (.int .i64)] (f90F k))]
theorem f58TS (k : Nat) : Sound P (f58T k) := ((Sound.nil).cons f90B (f90Ok k)).cons f61B (f61Ok k)
theorem f58B : HasBody P 58 := ⟨Go.Proofs.Try.f58, Go.Proofs.Try.func58, by kernel_rfl, by kernel_rfl⟩
noncomputable def f58F (k : Nat) (x : (Int × Int)) : Option (((Bool × (List Int)) × (List Int))) :=
  Option.bind (f61F k (x.1, (0 : Int))) fun y1 =>
  Option.bind (f90F k x.2) fun y2 =>
  some ((y1.1, y1.2), y2)
noncomputable def f58L (k : Nat) : Sums := []
theorem f58LS (k : Nat) : SumsOk P Go.Proofs.Try.f58.ntmps (f58L k) (codeOf Go.Proofs.Try.f58) 1 := SumsOk.nil
theorem f58E (k : Nat) (x : (Int × Int)) : evFS tab (f58T k) (f58L k) Go.Proofs.Try.f58.ntmps Go.Proofs.Try.f58.results.toList (codeOf Go.Proofs.Try.f58) (argsV [.agg (.pair (.int .i64) (.int .i64))] x) [.agg (.pair (.pair .bool (.slice (.int .i64))) (.slice (.int .i64)))] = f58F k x := by kernel_rfl
theorem f58Ok (k : Nat) (x : (Int × Int)) (y : ((Bool × (List Int)) × (List Int))) (h : f58F k x = some y) : FnOk P 58 [.agg (.pair (.int .i64) (.int .i64))] [.agg (.pair (.pair .bool (.slice (.int .i64))) (.slice (.int .i64)))] x y :=
  evFS_sound tabOk (f58TS k) mixed Go.Proofs.Try.func58 (c := codeOf Go.Proofs.Try.f58) (by kernel_rfl) (f58LS k) ((f58E k x).trans h)
/-! ## midrange/midrangeref01.order -/
noncomputable def f93T (k : Nat) : Table := [(69, entFn [.dat .bool] [.dat (.int .i64)] (f69F k))]
theorem f93TS (k : Nat) : Sound P (f93T k) := (Sound.nil).cons f69B (f69Ok k)
theorem f93B : HasBody P 93 := ⟨Go.Proofs.Try.f93, Go.Proofs.Try.func93, by kernel_rfl, by kernel_rfl⟩
noncomputable def f93l0H : Shape := ⟨[(0, .one (.ro (.int .i64))), (1, .one (.ro (.int .i64))), (5, .one (.int .i64))], [], 0⟩
noncomputable def f93l0X0 : Shape := ⟨[(4, .one (.int .i64))], [], 0⟩
noncomputable def f93l0X1 : Shape := ⟨[], [], 0⟩
noncomputable def f93l0N : NoteR := ⟨[0, 1, 5], [], []⟩
noncomputable def f93l0M : NoteR := ⟨[4], [], []⟩
noncomputable def f93l0C : Code := firstC (codesAt 58 (codeOf Go.Proofs.Try.f93) 1)
noncomputable def f93l0s {R : Type} (k : Nat) (rec : List Int × List Int × Int × Unit → Option R) (k0 : Int × Unit → Option R) (k1 : Unit → Option R) (v : List Int × List Int × Int × Unit) : Option R :=
  bif (decide (v.2.2.1 ≥ (0 : Int))) then
    bif ((decide ((0 : Int) ≤ v.2.2.1)) && (decide (v.2.2.1 < (v.1.length : Int)))) then
    bif ((decide ((0 : Int) ≤ v.2.2.1)) && (decide (v.2.2.1 < (v.2.1.length : Int)))) then
    let t2 := ((v.1.getD (Int.toNat v.2.2.1) (0 : Int)) != (v.2.1.getD (Int.toNat v.2.2.1) (0 : Int)))
    bif t2 then
      bif ((decide ((0 : Int) ≤ v.2.2.1)) && (decide (v.2.2.1 < (v.1.length : Int)))) then
      bif ((decide ((0 : Int) ≤ v.2.2.1)) && (decide (v.2.2.1 < (v.2.1.length : Int)))) then
      let t3 := (decide ((v.1.getD (Int.toNat v.2.2.1) (0 : Int)) > (v.2.1.getD (Int.toNat v.2.2.1) (0 : Int))))
      Option.bind (f69F k t3) fun y4 =>
      k0 ((IntKind.i64.wrap ((IntKind.i64.wrap ((2 : Int) * y4)) - (1 : Int))), ())
      else none
      else none
    else
    rec (v.1, v.2.1, (IntKind.i64.wrap (v.2.2.1 - (1 : Int))), ())
    else none
    else none
  else
  k1 (())
noncomputable def f93l0 {R : Type} (k : Nat) (k0 : Int × Unit → Option R) (k1 : Unit → Option R) (v : List Int × List Int × Int × Unit) : Option R := iterS (fun rec v => f93l0s k rec k0 k1 v) k v
noncomputable def f93l0S (k : Nat) : Sum1 := loopSum f93l0H f93l0N k (fun R rec K v => f93l0s k rec (fun w => K .ret (encSt f93l0X0 w)) (fun w => K (.exit 0) (encSt f93l0X1 w)) v)
theorem f93l0E (k : Nat) (R : Type) (rec : St → Option R) (K : X → St → Option R) (v : f93l0H.Den) : evS tab (f93T k) Go.Proofs.Try.f93.ntmps [] (bodyOf f93l0C) 116 (bodyK f93l0N f93l0M rec K) (encSt f93l0H v) = f93l0s k (fun v => rec (encSt f93l0H v)) (fun w => K .ret (encSt f93l0X0 w)) (fun w => K (.exit 0) (encSt f93l0X1 w)) v := by kernel_rfl
theorem f93l0I (k : Nat) : SumsOk P Go.Proofs.Try.f93.ntmps [] (bodyOf f93l0C) 116 := SumsOk.nil
theorem f93l0O (k : Nat) : SumOk P Go.Proofs.Try.f93.ntmps f93l0C (f93l0S k) := (show f93l0C = .loop (bodyOf f93l0C) by kernel_rfl) ▸ sum_loop tabOk (f93TS k) mixed (f93l0I k) (f93l0E k)
noncomputable def f93F (k : Nat) (x : (List Int) × (List Int)) : Option (Int) :=
  bif ((x.1.length : Int) != (x.2.length : Int)) then
    Option.bind (f69F k (decide ((x.1.length : Int) > (x.2.length : Int)))) fun y1 =>
    some (IntKind.i64.wrap ((IntKind.i64.wrap ((2 : Int) * y1)) - (1 : Int)))
  else
  f93l0 k
    (fun (w5 : Int × Unit) =>
      some w5.1)
    (fun (w6 : Unit) =>
      some (0 : Int))
    (x.1, x.2, (IntKind.i64.wrap ((x.1.length : Int) - (1 : Int))), ())
noncomputable def f93L (k : Nat) : Sums := [(58, f93l0S k)]
theorem f93LS (k : Nat) : SumsOk P Go.Proofs.Try.f93.ntmps (f93L k) (codeOf Go.Proofs.Try.f93) 1 := (SumsOk.nil).cons (c := f93l0C) (by kernel_rfl) (f93l0O k)
theorem f93E (k : Nat) (x : (List Int) × (List Int)) : evFS tab (f93T k) (f93L k) Go.Proofs.Try.f93.ntmps Go.Proofs.Try.f93.results.toList (codeOf Go.Proofs.Try.f93) (argsV [.dat (.slice (.int .i64)), .dat (.slice (.int .i64))] x) [.dat (.int .i64)] = f93F k x := by kernel_rfl
theorem f93Ok (k : Nat) (x : (List Int) × (List Int)) (y : Int) (h : f93F k x = some y) : FnOk P 93 [.dat (.slice (.int .i64)), .dat (.slice (.int .i64))] [.dat (.int .i64)] x y :=
  evFS_sound tabOk (f93TS k) mixed Go.Proofs.Try.func93 (c := codeOf Go.Proofs.Try.f93) (by kernel_rfl) (f93LS k) ((f93E k x).trans h)
/-! ## midrange/midrangeref01.minus -/
noncomputable def f94T (k : Nat) : Table := [(69, entFn [.dat .bool] [.dat (.int .i64)] (f69F k)), (95, entFn [.dat (.slice (.int .i64))] [.dat (.slice (.int .i64))] (f95F k))]
theorem f94TS (k : Nat) : Sound P (f94T k) := ((Sound.nil).cons f95B (f95Ok k)).cons f69B (f69Ok k)
theorem f94B : HasBody P 94 := ⟨Go.Proofs.Try.f94, Go.Proofs.Try.func94, by kernel_rfl, by kernel_rfl⟩
noncomputable def f94p0H : Shape := ⟨[(0, .one (.ro (.int .i64))), (1, .one (.ro (.int .i64))), (5, .one (.own 0)), (7, .one (.int .i64)), (8, .one (.int .i64))], [(0, .row 3 (.int .i64) .plain)], 1⟩
noncomputable def f94p0X0 : Shape := ⟨[(0, .one (.ro (.int .i64))), (1, .one (.ro (.int .i64))), (5, .one (.own 0)), (7, .one (.int .i64)), (8, .one (.int .i64))], [(0, .row 3 (.int .i64) .plain)], 1⟩
noncomputable def f94p0N : NoteR := ⟨[0, 1, 5, 7, 8], [], []⟩
noncomputable def f94p0M : NoteR := ⟨[0, 1, 4, 5, 7, 8], [], []⟩
noncomputable def f94p0C : Code := firstC (codesAt 7826 (codeOf Go.Proofs.Try.f94) 1)
noncomputable def f94p0 {R : Type} (k : Nat) (k0 : List Int × List Int × Int × Int × List Int × Unit → Option R) (v : List Int × List Int × Int × Int × List Int × Unit) : Option R :=
  bif (decide (v.2.2.1 < (v.2.1.length : Int))) then
    bif ((decide ((0 : Int) ≤ v.2.2.1)) && (decide (v.2.2.1 < (v.2.1.length : Int)))) then
    let t2 := (IntKind.i64.wrap (v.2.2.2.1 - (v.2.1.getD (Int.toNat v.2.2.1) (0 : Int))))
    k0 (v.1, v.2.1, v.2.2.1, t2, v.2.2.2.2.1, ())
    else none
  else
  k0 (v.1, v.2.1, v.2.2.1, v.2.2.2.1, v.2.2.2.2.1, ())
noncomputable def f94p0S (k : Nat) : Sum1 := partSum f94p0H f94p0N (fun R K v => f94p0 k (fun w => K .normal (encSt f94p0X0 w)) v)
theorem f94p0E (k : Nat) (R : Type) (K : X → St → Option R) (v : f94p0H.Den) : evS tab (f94T k) Go.Proofs.Try.f94.ntmps [] f94p0C 7826 (partK f94p0M K) (encSt f94p0H v) = f94p0 k (fun w => K .normal (encSt f94p0X0 w)) v := by kernel_rfl
theorem f94p0I (k : Nat) : SumsOk P Go.Proofs.Try.f94.ntmps [] f94p0C 7826 := SumsOk.nil
theorem f94p0O (k : Nat) : SumOk P Go.Proofs.Try.f94.ntmps f94p0C (f94p0S k) := sum_part tabOk (f94TS k) mixed (f94p0I k) (f94p0E k)
noncomputable def f94l1H : Shape := ⟨[(0, .one (.ro (.int .i64))), (1, .one (.ro (.int .i64))), (5, .one (.own 0)), (6, .one (.int .i64)), (7, .one (.int .i64))], [(0, .row 3 (.int .i64) .plain)], 1⟩
noncomputable def f94l1X0 : Shape := ⟨[(5, .one (.own 0))], [(0, .row 3 (.int .i64) .plain)], 1⟩
noncomputable def f94l1N : NoteR := ⟨[0, 1, 5, 6, 7], [(5, 3, (.int .i64))], []⟩
noncomputable def f94l1M : NoteR := ⟨[4, 5], [], []⟩
noncomputable def f94l1C : Code := firstC (codesAt 122 (codeOf Go.Proofs.Try.f94) 1)
noncomputable def f94l1s {R : Type} (k : Nat) (rec : List Int × List Int × Int × Int × List Int × Unit → Option R) (k0 : List Int × Unit → Option R) (v : List Int × List Int × Int × Int × List Int × Unit) : Option R :=
  bif (decide (v.2.2.2.1 < (v.1.length : Int))) then
    bif ((decide ((0 : Int) ≤ v.2.2.2.1)) && (decide (v.2.2.2.1 < (v.1.length : Int)))) then
    let t1 := (IntKind.i64.wrap ((v.1.getD (Int.toNat v.2.2.2.1) (0 : Int)) - v.2.2.1))
    f94p0 k
      (fun (w3 : List Int × List Int × Int × Int × List Int × Unit) =>
        Option.bind (f69F k (decide (w3.2.2.2.1 < (0 : Int)))) fun y4 =>
        let t5 := [(IntKind.i64.wrap (w3.2.2.2.1 + (IntKind.i64.wrap ((10 : Int) * y4))))]
        bif (decide ((w3.2.2.2.2.1.length + t5.length) * 8 ≤ 140737488355328) && decide (w3.2.2.2.2.1.length + t5.length ≤ 9223372036854775807)) then
        rec (w3.1, w3.2.1, y4, (IntKind.i64.wrap (w3.2.2.1 + (1 : Int))), (w3.2.2.2.2.1 ++ t5), ())
        else none)
      (v.1, v.2.1, v.2.2.2.1, t1, v.2.2.2.2.1, ())
    else none
  else
  k0 (v.2.2.2.2.1, ())
noncomputable def f94l1 {R : Type} (k : Nat) (k0 : List Int × Unit → Option R) (v : List Int × List Int × Int × Int × List Int × Unit) : Option R := iterS (fun rec v => f94l1s k rec k0 v) k v
noncomputable def f94l1S (k : Nat) : Sum1 := loopSum f94l1H f94l1N k (fun R rec K v => f94l1s k rec (fun w => K (.exit 0) (encSt f94l1X0 w)) v)
theorem f94l1E (k : Nat) (R : Type) (rec : St → Option R) (K : X → St → Option R) (v : f94l1H.Den) : evS tab (f94T k) Go.Proofs.Try.f94.ntmps [(7826, f94p0S k)] (bodyOf f94l1C) 244 (bodyK f94l1N f94l1M rec K) (encSt f94l1H v) = f94l1s k (fun v => rec (encSt f94l1H v)) (fun w => K (.exit 0) (encSt f94l1X0 w)) v := by kernel_rfl
theorem f94l1I (k : Nat) : SumsOk P Go.Proofs.Try.f94.ntmps [(7826, f94p0S k)] (bodyOf f94l1C) 244 := (SumsOk.nil).cons (c := f94p0C) (by kernel_rfl) (f94p0O k)
theorem f94l1O (k : Nat) : SumOk P Go.Proofs.Try.f94.ntmps f94l1C (f94l1S k) := (show f94l1C = .loop (bodyOf f94l1C) by kernel_rfl) ▸ sum_loop tabOk (f94TS k) mixed (f94l1I k) (f94l1E k)
noncomputable def f94F (k : Nat) (x : (List Int) × (List Int)) : Option ((List Int)) :=
  f94l1 k
    (fun (w6 : List Int × Unit) =>
      Option.bind (f95F k w6.1) fun y7 =>
      some y7)
    (x.1, x.2, (0 : Int), (0 : Int), [], ())
noncomputable def f94L (k : Nat) : Sums := [(7826, f94p0S k), (122, f94l1S k)]
theorem f94LS (k : Nat) : SumsOk P Go.Proofs.Try.f94.ntmps (f94L k) (codeOf Go.Proofs.Try.f94) 1 := ((SumsOk.nil).cons (c := f94l1C) (by kernel_rfl) (f94l1O k)).cons (c := f94p0C) (by kernel_rfl) (f94p0O k)
theorem f94E (k : Nat) (x : (List Int) × (List Int)) : evFS tab (f94T k) (f94L k) Go.Proofs.Try.f94.ntmps Go.Proofs.Try.f94.results.toList (codeOf Go.Proofs.Try.f94) (argsV [.dat (.slice (.int .i64)), .dat (.slice (.int .i64))] x) [.dat (.slice (.int .i64))] = f94F k x := by kernel_rfl
theorem f94Ok (k : Nat) (x : (List Int) × (List Int)) (y : (List Int)) (h : f94F k x = some y) : FnOk P 94 [.dat (.slice (.int .i64)), .dat (.slice (.int .i64))] [.dat (.slice (.int .i64))] x y :=
  evFS_sound tabOk (f94TS k) mixed Go.Proofs.Try.func94 (c := codeOf Go.Proofs.Try.f94) (by kernel_rfl) (f94LS k) ((f94E k x).trans h)
/-! ## midrange/midrangeref01.Divided -/
noncomputable def f99T (k : Nat) : Table := [(93, entFn [.dat (.slice (.int .i64)), .dat (.slice (.int .i64))] [.dat (.int .i64)] (f93F k)), (94, entFn [.dat (.slice (.int .i64)), .dat (.slice (.int .i64))] [.dat (.slice (.int .i64))] (f94F k)), (95, entFn [.dat (.slice (.int .i64))] [.dat (.slice (.int .i64))] (f95F k))]
theorem f99TS (k : Nat) : Sound P (f99T k) := (((Sound.nil).cons f95B (f95Ok k)).cons f94B (f94Ok k)).cons f93B (f93Ok k)
theorem f99B : HasBody P 99 := ⟨Go.Proofs.Try.f99, Go.Proofs.Try.func99, by kernel_rfl, by kernel_rfl⟩
noncomputable def f99l0H : Shape := ⟨[(0, .one (.ro (.int .i64))), (1, .one (.ro (.int .i64))), (6, .one (.own 0)), (7, .one (.ro (.int .i64))), (8, .one (.int .i64))], [(0, .row 3 (.int .i64) .plain)], 1⟩
noncomputable def f99l0X0 : Shape := ⟨[(0, .one (.ro (.int .i64))), (1, .one (.ro (.int .i64))), (6, .one (.own 0)), (7, .one (.ro (.int .i64))), (8, .one (.int .i64))], [(0, .row 3 (.int .i64) .plain)], 1⟩
noncomputable def f99l0N : NoteR := ⟨[0, 1, 6, 7, 8], [], []⟩
noncomputable def f99l0M : NoteR := ⟨[0, 1, 4, 5, 6, 7, 8], [], []⟩
noncomputable def f99l0C : Code := firstC (codesAt 7826 (codeOf Go.Proofs.Try.f99) 1)
noncomputable def f99l0s {R : Type} (k : Nat) (rec : List Int × List Int × List Int × Int × List Int × Unit → Option R) (k0 : List Int × List Int × List Int × Int × List Int × Unit → Option R) (v : List Int × List Int × List Int × Int × List Int × Unit) : Option R :=
  Option.bind (f93F k (v.2.2.1, v.2.1)) fun y2 =>
  bif (decide (y2 ≥ (0 : Int))) then
    Option.bind (f94F k (v.2.2.1, v.2.1)) fun y3 =>
    bif ((decide ((0 : Int) ≤ v.2.2.2.1)) && (decide (v.2.2.2.1 < (v.2.2.2.2.1.length : Int)))) then
    let t4 := (IntKind.i64.wrap ((v.2.2.2.2.1.getD (Int.toNat v.2.2.2.1) (0 : Int)) + (1 : Int)))
    bif ((decide ((0 : Int) ≤ v.2.2.2.1)) && (decide (v.2.2.2.1 < (v.2.2.2.2.1.length : Int)))) then
    rec (v.1, v.2.1, y3, v.2.2.2.1, (v.2.2.2.2.1.set (Int.toNat v.2.2.2.1) t4), ())
    else none
    else none
  else
  k0 (v.1, v.2.1, v.2.2.1, v.2.2.2.1, v.2.2.2.2.1, ())
noncomputable def f99l0 {R : Type} (k : Nat) (k0 : List Int × List Int × List Int × Int × List Int × Unit → Option R) (v : List Int × List Int × List Int × Int × List Int × Unit) : Option R := iterS (fun rec v => f99l0s k rec k0 v) k v
noncomputable def f99l0S (k : Nat) : Sum1 := loopSum f99l0H f99l0N k (fun R rec K v => f99l0s k rec (fun w => K (.exit 2) (encSt f99l0X0 w)) v)
theorem f99l0E (k : Nat) (R : Type) (rec : St → Option R) (K : X → St → Option R) (v : f99l0H.Den) : evS tab (f99T k) Go.Proofs.Try.f99.ntmps [] (bodyOf f99l0C) 15652 (bodyK f99l0N f99l0M rec K) (encSt f99l0H v) = f99l0s k (fun v => rec (encSt f99l0H v)) (fun w => K (.exit 2) (encSt f99l0X0 w)) v := by kernel_rfl
theorem f99l0I (k : Nat) : SumsOk P Go.Proofs.Try.f99.ntmps [] (bodyOf f99l0C) 15652 := SumsOk.nil
theorem f99l0O (k : Nat) : SumOk P Go.Proofs.Try.f99.ntmps f99l0C (f99l0S k) := (show f99l0C = .loop (bodyOf f99l0C) by kernel_rfl) ▸ sum_loop tabOk (f99TS k) mixed (f99l0I k) (f99l0E k)
noncomputable def f99l1H : Shape := ⟨[(0, .one (.ro (.int .i64))), (1, .one (.ro (.int .i64))), (6, .one (.own 0)), (7, .one (.ro (.int .i64))), (8, .one (.int .i64))], [(0, .row 3 (.int .i64) .plain)], 1⟩
noncomputable def f99l1X0 : Shape := ⟨[(6, .one (.own 0)), (7, .one (.ro (.int .i64)))], [(0, .row 3 (.int .i64) .plain)], 1⟩
noncomputable def f99l1N : NoteR := ⟨[0, 1, 6, 7, 8], [], [(7, (.int .i64))]⟩
noncomputable def f99l1M : NoteR := ⟨[4, 5, 6, 7], [], []⟩
noncomputable def f99l1C : Code := firstC (codesAt 122 (codeOf Go.Proofs.Try.f99) 1)
noncomputable def f99l1s {R : Type} (k : Nat) (rec : List Int × List Int × List Int × Int × List Int × Unit → Option R) (k0 : List Int × List Int × Unit → Option R) (v : List Int × List Int × List Int × Int × List Int × Unit) : Option R :=
  bif (decide (v.2.2.2.1 ≥ (0 : Int))) then
    bif ((decide ((0 : Int) ≤ v.2.2.2.1)) && (decide (v.2.2.2.1 < (v.1.length : Int)))) then
    bif (decide (([(v.1.getD (Int.toNat v.2.2.2.1) (0 : Int))].length + v.2.2.1.length) * 8 ≤ 140737488355328) && decide ([(v.1.getD (Int.toNat v.2.2.2.1) (0 : Int))].length + v.2.2.1.length ≤ 9223372036854775807)) then
    Option.bind (f95F k ([(v.1.getD (Int.toNat v.2.2.2.1) (0 : Int))] ++ v.2.2.1)) fun y1 =>
    f99l0 k
      (fun (w5 : List Int × List Int × List Int × Int × List Int × Unit) =>
        rec (w5.1, w5.2.1, w5.2.2.1, (IntKind.i64.wrap (w5.2.2.2.1 - (1 : Int))), w5.2.2.2.2.1, ()))
      (v.1, v.2.1, y1, v.2.2.2.1, v.2.2.2.2.1, ())
    else none
    else none
  else
  k0 (v.2.2.1, v.2.2.2.2.1, ())
noncomputable def f99l1 {R : Type} (k : Nat) (k0 : List Int × List Int × Unit → Option R) (v : List Int × List Int × List Int × Int × List Int × Unit) : Option R := iterS (fun rec v => f99l1s k rec k0 v) k v
noncomputable def f99l1S (k : Nat) : Sum1 := loopSum f99l1H f99l1N k (fun R rec K v => f99l1s k rec (fun w => K (.exit 0) (encSt f99l1X0 w)) v)
theorem f99l1E (k : Nat) (R : Type) (rec : St → Option R) (K : X → St → Option R) (v : f99l1H.Den) : evS tab (f99T k) Go.Proofs.Try.f99.ntmps [(7826, f99l0S k)] (bodyOf f99l1C) 244 (bodyK f99l1N f99l1M rec K) (encSt f99l1H v) = f99l1s k (fun v => rec (encSt f99l1H v)) (fun w => K (.exit 0) (encSt f99l1X0 w)) v := by kernel_rfl
theorem f99l1I (k : Nat) : SumsOk P Go.Proofs.Try.f99.ntmps [(7826, f99l0S k)] (bodyOf f99l1C) 244 := (SumsOk.nil).cons (c := f99l0C) (by kernel_rfl) (f99l0O k)
theorem f99l1O (k : Nat) : SumOk P Go.Proofs.Try.f99.ntmps f99l1C (f99l1S k) := (show f99l1C = .loop (bodyOf f99l1C) by kernel_rfl) ▸ sum_loop tabOk (f99TS k) mixed (f99l1I k) (f99l1E k)
noncomputable def f99F (k : Nat) (x : (List Int) × (List Int)) : Option ((List Int) × (List Int)) :=
  bif (((decide ((0 : Int) ≤ (x.1.length : Int))) && (decide (((x.1.length : Int) * 8) ≤ (140737488355328 : Int)))) && (decide ((x.1.length : Int) ≤ (281474976710656 : Int)))) then
  f99l1 k
    (fun (w6 : List Int × List Int × Unit) =>
      Option.bind (f95F k w6.2.1) fun y7 =>
      some (y7, w6.1))
    (x.1, x.2, [], (IntKind.i64.wrap ((x.1.length : Int) - (1 : Int))), (List.replicate (Int.toNat (x.1.length : Int)) (0 : Int)), ())
  else none
noncomputable def f99L (k : Nat) : Sums := [(7826, f99l0S k), (122, f99l1S k)]
theorem f99LS (k : Nat) : SumsOk P Go.Proofs.Try.f99.ntmps (f99L k) (codeOf Go.Proofs.Try.f99) 1 := ((SumsOk.nil).cons (c := f99l1C) (by kernel_rfl) (f99l1O k)).cons (c := f99l0C) (by kernel_rfl) (f99l0O k)
theorem f99E (k : Nat) (x : (List Int) × (List Int)) : evFS tab (f99T k) (f99L k) Go.Proofs.Try.f99.ntmps Go.Proofs.Try.f99.results.toList (codeOf Go.Proofs.Try.f99) (argsV [.dat (.slice (.int .i64)), .dat (.slice (.int .i64))] x) [.dat (.slice (.int .i64)), .dat (.slice (.int .i64))] = f99F k x := by kernel_rfl
theorem f99Ok (k : Nat) (x : (List Int) × (List Int)) (y : (List Int) × (List Int)) (h : f99F k x = some y) : FnOk P 99 [.dat (.slice (.int .i64)), .dat (.slice (.int .i64))] [.dat (.slice (.int .i64)), .dat (.slice (.int .i64))] x y :=
  evFS_sound tabOk (f99TS k) mixed Go.Proofs.Try.func99 (c := codeOf Go.Proofs.Try.f99) (by kernel_rfl) (f99LS k) ((f99E k x).trans h)
/-! ## midrange/midrangeref01.plus -/
noncomputable def f92T (k : Nat) : Table := []
theorem f92TS (k : Nat) : Sound P (f92T k) := Sound.nil
theorem f92B : HasBody P 92 := ⟨Go.Proofs.Try.f92, Go.Proofs.Try.func92, by kernel_rfl, by kernel_rfl⟩
noncomputable def f92p0H : Shape := ⟨[(0, .one (.ro (.int .i64))), (1, .one (.ro (.int .i64))), (5, .one (.own 0)), (6, .one (.int .i64)), (7, .one (.int .i64))], [(0, .row 3 (.int .i64) .plain)], 1⟩
noncomputable def f92p0X0 : Shape := ⟨[(0, .one (.ro (.int .i64))), (1, .one (.ro (.int .i64))), (5, .one (.own 0)), (6, .one (.int .i64)), (7, .one (.int .i64))], [(0, .row 3 (.int .i64) .plain)], 1⟩
noncomputable def f92p0X1 : Shape := ⟨[(0, .one (.ro (.int .i64))), (1, .one (.ro (.int .i64))), (5, .one (.own 0)), (6, .one (.int .i64)), (7, .one (.int .i64))], [(0, .row 3 (.int .i64) .plain)], 1⟩
noncomputable def f92p0N : NoteR := ⟨[0, 1, 5, 6, 7], [], []⟩
noncomputable def f92p0M : NoteR := ⟨[0, 1, 4, 5, 6, 7], [], []⟩
noncomputable def f92p0C : Code := firstC (codesAt 488 (codeOf Go.Proofs.Try.f92) 1)
noncomputable def f92p0 {R : Type} (k : Nat) (k0 : List Int × List Int × Int × Int × List Int × Unit → Option R) (k1 : List Int × List Int × Int × Int × List Int × Unit → Option R) (v : List Int × List Int × Int × Int × List Int × Unit) : Option R :=
  bif (decide (v.2.2.2.1 < (v.1.length : Int))) then
    k0 (v.1, v.2.1, v.2.2.1, v.2.2.2.1, v.2.2.2.2.1, ())
  else
  bif (decide (v.2.2.2.1 < (v.2.1.length : Int))) then
    k0 (v.1, v.2.1, v.2.2.1, v.2.2.2.1, v.2.2.2.2.1, ())
  else
  bif (decide (v.2.2.1 > (0 : Int))) then
    k0 (v.1, v.2.1, v.2.2.1, v.2.2.2.1, v.2.2.2.2.1, ())
  else
  k1 (v.1, v.2.1, v.2.2.1, v.2.2.2.1, v.2.2.2.2.1, ())
noncomputable def f92p0S (k : Nat) : Sum1 := partSum f92p0H f92p0N (fun R K v => f92p0 k (fun w => K .normal (encSt f92p0X0 w)) (fun w => K (.exit 0) (encSt f92p0X1 w)) v)
theorem f92p0E (k : Nat) (R : Type) (K : X → St → Option R) (v : f92p0H.Den) : evS tab (f92T k) Go.Proofs.Try.f92.ntmps [] f92p0C 488 (partK f92p0M K) (encSt f92p0H v) = f92p0 k (fun w => K .normal (encSt f92p0X0 w)) (fun w => K (.exit 0) (encSt f92p0X1 w)) v := by kernel_rfl
theorem f92p0I (k : Nat) : SumsOk P Go.Proofs.Try.f92.ntmps [] f92p0C 488 := SumsOk.nil
theorem f92p0O (k : Nat) : SumOk P Go.Proofs.Try.f92.ntmps f92p0C (f92p0S k) := sum_part tabOk (f92TS k) mixed (f92p0I k) (f92p0E k)
noncomputable def f92p1H : Shape := ⟨[(0, .one (.ro (.int .i64))), (1, .one (.ro (.int .i64))), (5, .one (.own 0)), (7, .one (.int .i64)), (8, .one (.int .i64))], [(0, .row 3 (.int .i64) .plain)], 1⟩
noncomputable def f92p1X0 : Shape := ⟨[(0, .one (.ro (.int .i64))), (1, .one (.ro (.int .i64))), (5, .one (.own 0)), (7, .one (.int .i64)), (8, .one (.int .i64))], [(0, .row 3 (.int .i64) .plain)], 1⟩
noncomputable def f92p1N : NoteR := ⟨[0, 1, 5, 7, 8], [], []⟩
noncomputable def f92p1M : NoteR := ⟨[0, 1, 4, 5, 7, 8], [], []⟩
noncomputable def f92p1C : Code := firstC (codesAt 7826 (codeOf Go.Proofs.Try.f92) 1)
noncomputable def f92p1 {R : Type} (k : Nat) (k0 : List Int × List Int × Int × Int × List Int × Unit → Option R) (v : List Int × List Int × Int × Int × List Int × Unit) : Option R :=
  bif (decide (v.2.2.1 < (v.1.length : Int))) then
    bif ((decide ((0 : Int) ≤ v.2.2.1)) && (decide (v.2.2.1 < (v.1.length : Int)))) then
    let t2 := (IntKind.i64.wrap (v.2.2.2.1 + (v.1.getD (Int.toNat v.2.2.1) (0 : Int))))
    k0 (v.1, v.2.1, v.2.2.1, t2, v.2.2.2.2.1, ())
    else none
  else
  k0 (v.1, v.2.1, v.2.2.1, v.2.2.2.1, v.2.2.2.2.1, ())
noncomputable def f92p1S (k : Nat) : Sum1 := partSum f92p1H f92p1N (fun R K v => f92p1 k (fun w => K .normal (encSt f92p1X0 w)) v)
theorem f92p1E (k : Nat) (R : Type) (K : X → St → Option R) (v : f92p1H.Den) : evS tab (f92T k) Go.Proofs.Try.f92.ntmps [] f92p1C 7826 (partK f92p1M K) (encSt f92p1H v) = f92p1 k (fun w => K .normal (encSt f92p1X0 w)) v := by kernel_rfl
theorem f92p1I (k : Nat) : SumsOk P Go.Proofs.Try.f92.ntmps [] f92p1C 7826 := SumsOk.nil
theorem f92p1O (k : Nat) : SumOk P Go.Proofs.Try.f92.ntmps f92p1C (f92p1S k) := sum_part tabOk (f92TS k) mixed (f92p1I k) (f92p1E k)
noncomputable def f92p2H : Shape := ⟨[(0, .one (.ro (.int .i64))), (1, .one (.ro (.int .i64))), (5, .one (.own 0)), (7, .one (.int .i64)), (8, .one (.int .i64))], [(0, .row 3 (.int .i64) .plain)], 1⟩
noncomputable def f92p2X0 : Shape := ⟨[(0, .one (.ro (.int .i64))), (1, .one (.ro (.int .i64))), (5, .one (.own 0)), (7, .one (.int .i64)), (8, .one (.int .i64))], [(0, .row 3 (.int .i64) .plain)], 1⟩
noncomputable def f92p2N : NoteR := ⟨[0, 1, 5, 7, 8], [], []⟩
noncomputable def f92p2M : NoteR := ⟨[0, 1, 4, 5, 7, 8], [], []⟩
noncomputable def f92p2C : Code := firstC (codesAt 15654 (codeOf Go.Proofs.Try.f92) 1)
noncomputable def f92p2 {R : Type} (k : Nat) (k0 : List Int × List Int × Int × Int × List Int × Unit → Option R) (v : List Int × List Int × Int × Int × List Int × Unit) : Option R :=
  bif (decide (v.2.2.1 < (v.2.1.length : Int))) then
    bif ((decide ((0 : Int) ≤ v.2.2.1)) && (decide (v.2.2.1 < (v.2.1.length : Int)))) then
    let t4 := (IntKind.i64.wrap (v.2.2.2.1 + (v.2.1.getD (Int.toNat v.2.2.1) (0 : Int))))
    k0 (v.1, v.2.1, v.2.2.1, t4, v.2.2.2.2.1, ())
    else none
  else
  k0 (v.1, v.2.1, v.2.2.1, v.2.2.2.1, v.2.2.2.2.1, ())
noncomputable def f92p2S (k : Nat) : Sum1 := partSum f92p2H f92p2N (fun R K v => f92p2 k (fun w => K .normal (encSt f92p2X0 w)) v)
theorem f92p2E (k : Nat) (R : Type) (K : X → St → Option R) (v : f92p2H.Den) : evS tab (f92T k) Go.Proofs.Try.f92.ntmps [] f92p2C 15654 (partK f92p2M K) (encSt f92p2H v) = f92p2 k (fun w => K .normal (encSt f92p2X0 w)) v := by kernel_rfl
theorem f92p2I (k : Nat) : SumsOk P Go.Proofs.Try.f92.ntmps [] f92p2C 15654 := SumsOk.nil
theorem f92p2O (k : Nat) : SumOk P Go.Proofs.Try.f92.ntmps f92p2C (f92p2S k) := sum_part tabOk (f92TS k) mixed (f92p2I k) (f92p2E k)
noncomputable def f92l3H : Shape := ⟨[(0, .one (.ro (.int .i64))), (1, .one (.ro (.int .i64))), (5, .one (.own 0)), (6, .one (.int .i64)), (7, .one (.int .i64))], [(0, .row 3 (.int .i64) .plain)], 1⟩
noncomputable def f92l3X0 : Shape := ⟨[(5, .one (.own 0))], [(0, .row 3 (.int .i64) .plain)], 1⟩
noncomputable def f92l3N : NoteR := ⟨[0, 1, 5, 6, 7], [(5, 3, (.int .i64))], []⟩
noncomputable def f92l3M : NoteR := ⟨[4, 5], [], []⟩
noncomputable def f92l3C : Code := firstC (codesAt 122 (codeOf Go.Proofs.Try.f92) 1)
noncomputable def f92l3s {R : Type} (k : Nat) (rec : List Int × List Int × Int × Int × List Int × Unit → Option R) (k0 : List Int × Unit → Option R) (v : List Int × List Int × Int × Int × List Int × Unit) : Option R :=
  f92p0 k
    (fun (w1 : List Int × List Int × Int × Int × List Int × Unit) =>
      f92p1 k
        (fun (w3 : List Int × List Int × Int × Int × List Int × Unit) =>
          f92p2 k
            (fun (w5 : List Int × List Int × Int × Int × List Int × Unit) =>
              bif (decide ((w5.2.2.2.2.1.length + [(Int.tmod w5.2.2.2.1 (10 : Int))].length) * 8 ≤ 140737488355328) && decide (w5.2.2.2.2.1.length + [(Int.tmod w5.2.2.2.1 (10 : Int))].length ≤ 9223372036854775807)) then
              rec (w5.1, w5.2.1, (IntKind.i64.wrap (Int.tdiv w5.2.2.2.1 (10 : Int))), (IntKind.i64.wrap (w5.2.2.1 + (1 : Int))), (w5.2.2.2.2.1 ++ [(Int.tmod w5.2.2.2.1 (10 : Int))]), ())
              else none)
            (w3.1, w3.2.1, w3.2.2.1, w3.2.2.2.1, w3.2.2.2.2.1, ()))
        (w1.1, w1.2.1, w1.2.2.2.1, w1.2.2.1, w1.2.2.2.2.1, ()))
    (fun (w6 : List Int × List Int × Int × Int × List Int × Unit) =>
      k0 (w6.2.2.2.2.1, ()))
    (v.1, v.2.1, v.2.2.1, v.2.2.2.1, v.2.2.2.2.1, ())
noncomputable def f92l3 {R : Type} (k : Nat) (k0 : List Int × Unit → Option R) (v : List Int × List Int × Int × Int × List Int × Unit) : Option R := iterS (fun rec v => f92l3s k rec k0 v) k v
noncomputable def f92l3S (k : Nat) : Sum1 := loopSum f92l3H f92l3N k (fun R rec K v => f92l3s k rec (fun w => K (.exit 0) (encSt f92l3X0 w)) v)
theorem f92l3E (k : Nat) (R : Type) (rec : St → Option R) (K : X → St → Option R) (v : f92l3H.Den) : evS tab (f92T k) Go.Proofs.Try.f92.ntmps [(488, f92p0S k), (7826, f92p1S k), (15654, f92p2S k)] (bodyOf f92l3C) 244 (bodyK f92l3N f92l3M rec K) (encSt f92l3H v) = f92l3s k (fun v => rec (encSt f92l3H v)) (fun w => K (.exit 0) (encSt f92l3X0 w)) v := by kernel_rfl
theorem f92l3I (k : Nat) : SumsOk P Go.Proofs.Try.f92.ntmps [(488, f92p0S k), (7826, f92p1S k), (15654, f92p2S k)] (bodyOf f92l3C) 244 := (((SumsOk.nil).cons (c := f92p2C) (by kernel_rfl) (f92p2O k)).cons (c := f92p1C) (by kernel_rfl) (f92p1O k)).cons (c := f92p0C) (by kernel_rfl) (f92p0O k)
theorem f92l3O (k : Nat) : SumOk P Go.Proofs.Try.f92.ntmps f92l3C (f92l3S k) := (show f92l3C = .loop (bodyOf f92l3C) by kernel_rfl) ▸ sum_loop tabOk (f92TS k) mixed (f92l3I k) (f92l3E k)
noncomputable def f92F (k : Nat) (x : (List Int) × (List Int)) : Option (List Int) :=
  f92l3 k
    (fun (w7 : List Int × Unit) =>
      some w7.1)
    (x.1, x.2, (0 : Int), (0 : Int), [], ())
noncomputable def f92L (k : Nat) : Sums := [(488, f92p0S k), (7826, f92p1S k), (15654, f92p2S k), (122, f92l3S k)]
theorem f92LS (k : Nat) : SumsOk P Go.Proofs.Try.f92.ntmps (f92L k) (codeOf Go.Proofs.Try.f92) 1 := ((((SumsOk.nil).cons (c := f92l3C) (by kernel_rfl) (f92l3O k)).cons (c := f92p2C) (by kernel_rfl) (f92p2O k)).cons (c := f92p1C) (by kernel_rfl) (f92p1O k)).cons (c := f92p0C) (by kernel_rfl) (f92p0O k)
theorem f92E (k : Nat) (x : (List Int) × (List Int)) : evFS tab (f92T k) (f92L k) Go.Proofs.Try.f92.ntmps Go.Proofs.Try.f92.results.toList (codeOf Go.Proofs.Try.f92) (argsV [.dat (.slice (.int .i64)), .dat (.slice (.int .i64))] x) [.own 3 (.int .i64)] = f92F k x := by kernel_rfl
theorem f92Ok (k : Nat) (x : (List Int) × (List Int)) (y : List Int) (h : f92F k x = some y) : FnOk P 92 [.dat (.slice (.int .i64)), .dat (.slice (.int .i64))] [.own 3 (.int .i64)] x y :=
  evFS_sound tabOk (f92TS k) mixed Go.Proofs.Try.func92 (c := codeOf Go.Proofs.Try.f92) (by kernel_rfl) (f92LS k) ((f92E k x).trans h)
/-! ## midrange/midrangeref01.Whole -/
noncomputable def f88T (k : Nat) : Table := [(92, entFn [.dat (.slice (.int .i64)), .dat (.slice (.int .i64))] [.own 3 (.int .i64)] (f92F k)), (93, entFn [.dat (.slice (.int .i64)), .dat (.slice (.int .i64))] [.dat (.int .i64)] (f93F k)), (95, entFn [.dat (.slice (.int .i64))] [.dat (.slice (.int .i64))] (f95F k)), (99, entFn [.dat (.slice (.int .i64)), .dat (.slice (.int .i64))] [.dat (.slice (.int .i64)), .dat (.slice (.int .i64))] (f99F k))]
theorem f88TS (k : Nat) : Sound P (f88T k) := ((((Sound.nil).cons f99B (f99Ok k)).cons f95B (f95Ok k)).cons f93B (f93Ok k)).cons f92B (f92Ok k)
theorem f88B : HasBody P 88 := ⟨Go.Proofs.Try.f88, Go.Proofs.Try.func88, by kernel_rfl, by kernel_rfl⟩
noncomputable def f88p0H : Shape := ⟨[(2, .one (.bool)), (3, .one (.ptr 0 0)), (6, .one (.ptr 1 0)), (8, .one (.ro (.int .i64))), (9, .one (.ro (.int .i64)))], [(0, .var [.bool, .ro (.int .i64), .ro (.int .i64)]), (1, .var [.bool, .emp])], 2⟩
noncomputable def f88p0X0 : Shape := ⟨[(3, .one (.ptr 0 0)), (6, .one (.ptr 1 0)), (8, .one (.own 2))], [(0, .var [.bool, .ro (.int .i64), .ro (.int .i64)]), (1, .var [.bool, .emp]), (2, .row 3 (.int .i64) .plain)], 3⟩
noncomputable def f88p0X1 : Shape := ⟨[(3, .one (.ptr 0 0)), (6, .one (.ptr 1 0)), (8, .one (.ro (.int .i64)))], [(0, .var [.bool, .ro (.int .i64), .ro (.int .i64)]), (1, .var [.bool, .emp])], 2⟩
noncomputable def f88p0N : NoteR := ⟨[2, 3, 6, 8, 9], [], []⟩
noncomputable def f88p0M : NoteR := ⟨[3, 6, 8], [], []⟩
noncomputable def f88p0C : Code := firstC (codesAt 30 (codeOf Go.Proofs.Try.f88) 1)
noncomputable def f88p0 {R : Type} (k : Nat) (k0 : Bool × List Int × List Int × Bool × List Int × Unit → Option R) (k1 : List Int × Bool × List Int × List Int × Bool × Unit → Option R) (v : Bool × List Int × List Int × Bool × List Int × List Int × Bool × Unit) : Option R :=
  bif v.1 then
    Option.bind (f92F k (v.2.2.1, v.2.2.1)) fun y3 =>
    Option.bind (f93F k (y3, v.2.2.2.2.2.1)) fun y4 =>
    bif (decide (y4 ≥ (0 : Int))) then
      Option.bind (f92F k (v.2.1, [(1 : Int)])) fun y5 =>
      k0 (v.2.2.2.1, v.2.2.2.2.1, v.2.2.2.2.2.1, v.2.2.2.2.2.2.1, y5, ())
    else
    k1 (v.2.1, v.2.2.2.1, v.2.2.2.2.1, v.2.2.2.2.2.1, v.2.2.2.2.2.2.1, ())
  else
  k1 (v.2.1, v.2.2.2.1, v.2.2.2.2.1, v.2.2.2.2.2.1, v.2.2.2.2.2.2.1, ())
noncomputable def f88p0S (k : Nat) : Sum1 := partSum f88p0H f88p0N (fun R K v => f88p0 k (fun w => K .normal (encSt f88p0X0 w)) (fun w => K .normal (encSt f88p0X1 w)) v)
theorem f88p0E (k : Nat) (R : Type) (K : X → St → Option R) (v : f88p0H.Den) : evS tab (f88T k) Go.Proofs.Try.f88.ntmps [] f88p0C 30 (partK f88p0M K) (encSt f88p0H v) = f88p0 k (fun w => K .normal (encSt f88p0X0 w)) (fun w => K .normal (encSt f88p0X1 w)) v := by kernel_rfl
theorem f88p0I (k : Nat) : SumsOk P Go.Proofs.Try.f88.ntmps [] f88p0C 30 := SumsOk.nil
theorem f88p0O (k : Nat) : SumOk P Go.Proofs.Try.f88.ntmps f88p0C (f88p0S k) := sum_part tabOk (f88TS k) mixed (f88p0I k) (f88p0E k)
noncomputable def f88F (k : Nat) (x : ((Bool × (List Int)) × (List Int)) × Int × Bool) : Option ((Bool × (List Int))) :=
  bif (((decide ((0 : Int) ≤ x.2.1)) && (decide ((x.2.1 * 8) ≤ (140737488355328 : Int)))) && (decide (x.2.1 ≤ (281474976710656 : Int)))) then
  bif (decide (((List.replicate (Int.toNat x.2.1) (0 : Int)).length + x.1.1.2.length) * 8 ≤ 140737488355328) && decide ((List.replicate (Int.toNat x.2.1) (0 : Int)).length + x.1.1.2.length ≤ 9223372036854775807)) then
  Option.bind (f95F k ((List.replicate (Int.toNat x.2.1) (0 : Int)) ++ x.1.1.2)) fun y1 =>
  Option.bind (f99F k (y1, x.1.2)) fun y2 =>
  f88p0 k
    (fun (w6 : Bool × List Int × List Int × Bool × List Int × Unit) =>
      bif w6.1 then
        some ((decide ((w6.2.2.2.2.1.length : Int) > (0 : Int))), w6.2.2.2.2.1)
      else
      some (false, w6.2.2.2.2.1))
    (fun (w7 : List Int × Bool × List Int × List Int × Bool × Unit) =>
      bif w7.2.1 then
        some ((decide ((w7.1.length : Int) > (0 : Int))), w7.1)
      else
      some (false, w7.1))
    (x.2.2, y2.1, y2.2, x.1.1.1, x.1.1.2, x.1.2, false, ())
  else none
  else none
noncomputable def f88L (k : Nat) : Sums := [(30, f88p0S k)]
theorem f88LS (k : Nat) : SumsOk P Go.Proofs.Try.f88.ntmps (f88L k) (codeOf Go.Proofs.Try.f88) 1 := (SumsOk.nil).cons (c := f88p0C) (by kernel_rfl) (f88p0O k)
theorem f88E (k : Nat) (x : ((Bool × (List Int)) × (List Int)) × Int × Bool) : evFS tab (f88T k) (f88L k) Go.Proofs.Try.f88.ntmps Go.Proofs.Try.f88.results.toList (codeOf Go.Proofs.Try.f88) (argsV [.agg (.pair (.pair .bool (.slice (.int .i64))) (.slice (.int .i64))), .dat (.int .i64), .dat .bool] x) [.agg (.pair .bool (.slice (.int .i64)))] = f88F k x := by kernel_rfl
theorem f88Ok (k : Nat) (x : ((Bool × (List Int)) × (List Int)) × Int × Bool) (y : (Bool × (List Int))) (h : f88F k x = some y) : FnOk P 88 [.agg (.pair (.pair .bool (.slice (.int .i64))) (.slice (.int .i64))), .dat (.int .i64), .dat .bool] [.agg (.pair .bool (.slice (.int .i64)))] x y :=
  evFS_sound tabOk (f88TS k) mixed Go.Proofs.Try.func88 (c := codeOf Go.Proofs.Try.f88) (by kernel_rfl) (f88LS k) ((f88E k x).trans h)
/-! ## midrange/midrangeref01.Small -/
noncomputable def f89T (k : Nat) : Table := []
theorem f89TS (k : Nat) : Sound P (f89T k) := Sound.nil
theorem f89B : HasBody P 89 := ⟨Go.Proofs.Try.f89, Go.Proofs.Try.func89, by kernel_rfl, by kernel_rfl⟩
noncomputable def f89l0H : Shape := ⟨[(1, .one (.ptr 0 0)), (3, .one (.int .i64)), (4, .one (.int .i64))], [(0, .var [.bool, .ro (.int .i64)])], 1⟩
noncomputable def f89l0X0 : Shape := ⟨[(1, .one (.ptr 0 0)), (3, .one (.int .i64))], [(0, .var [.bool, .ro (.int .i64)])], 1⟩
noncomputable def f89l0N : NoteR := ⟨[1, 3, 4], [], []⟩
noncomputable def f89l0M : NoteR := ⟨[1, 2, 3], [], []⟩
noncomputable def f89l0C : Code := firstC (codesAt 58 (codeOf Go.Proofs.Try.f89) 1)
noncomputable def f89l0s {R : Type} (k : Nat) (rec : Int × Int × Bool × List Int × Unit → Option R) (k0 : Int × Bool × List Int × Unit → Option R) (v : Int × Int × Bool × List Int × Unit) : Option R :=
  bif (decide (v.2.1 ≥ (0 : Int))) then
    bif ((decide ((0 : Int) ≤ v.2.1)) && (decide (v.2.1 < (v.2.2.2.1.length : Int)))) then
    let t1 := (IntKind.i64.wrap ((IntKind.i64.wrap ((10 : Int) * v.1)) + (v.2.2.2.1.getD (Int.toNat v.2.1) (0 : Int))))
    rec (t1, (IntKind.i64.wrap (v.2.1 - (1 : Int))), v.2.2.1, v.2.2.2.1, ())
    else none
  else
  k0 (v.1, v.2.2.1, v.2.2.2.1, ())
noncomputable def f89l0 {R : Type} (k : Nat) (k0 : Int × Bool × List Int × Unit → Option R) (v : Int × Int × Bool × List Int × Unit) : Option R := iterS (fun rec v => f89l0s k rec k0 v) k v
noncomputable def f89l0S (k : Nat) : Sum1 := loopSum f89l0H f89l0N k (fun R rec K v => f89l0s k rec (fun w => K (.exit 0) (encSt f89l0X0 w)) v)
theorem f89l0E (k : Nat) (R : Type) (rec : St → Option R) (K : X → St → Option R) (v : f89l0H.Den) : evS tab (f89T k) Go.Proofs.Try.f89.ntmps [] (bodyOf f89l0C) 116 (bodyK f89l0N f89l0M rec K) (encSt f89l0H v) = f89l0s k (fun v => rec (encSt f89l0H v)) (fun w => K (.exit 0) (encSt f89l0X0 w)) v := by kernel_rfl
theorem f89l0I (k : Nat) : SumsOk P Go.Proofs.Try.f89.ntmps [] (bodyOf f89l0C) 116 := SumsOk.nil
theorem f89l0O (k : Nat) : SumOk P Go.Proofs.Try.f89.ntmps f89l0C (f89l0S k) := (show f89l0C = .loop (bodyOf f89l0C) by kernel_rfl) ▸ sum_loop tabOk (f89TS k) mixed (f89l0I k) (f89l0E k)
noncomputable def f89F (k : Nat) (x : (Bool × (List Int))) : Option (Int) :=
  f89l0 k
    (fun (w2 : Int × Bool × List Int × Unit) =>
      bif w2.2.1 then
        some (IntKind.i64.wrap (0 - w2.1))
      else
      some w2.1)
    ((0 : Int), (IntKind.i64.wrap ((x.2.length : Int) - (1 : Int))), x.1, x.2, ())
noncomputable def f89L (k : Nat) : Sums := [(58, f89l0S k)]
theorem f89LS (k : Nat) : SumsOk P Go.Proofs.Try.f89.ntmps (f89L k) (codeOf Go.Proofs.Try.f89) 1 := (SumsOk.nil).cons (c := f89l0C) (by kernel_rfl) (f89l0O k)
theorem f89E (k : Nat) (x : (Bool × (List Int))) : evFS tab (f89T k) (f89L k) Go.Proofs.Try.f89.ntmps Go.Proofs.Try.f89.results.toList (codeOf Go.Proofs.Try.f89) (argsV [.agg (.pair .bool (.slice (.int .i64)))] x) [.dat (.int .i64)] = f89F k x := by kernel_rfl
theorem f89Ok (k : Nat) (x : (Bool × (List Int))) (y : Int) (h : f89F k x = some y) : FnOk P 89 [.agg (.pair .bool (.slice (.int .i64)))] [.dat (.int .i64)] x y :=
  evFS_sound tabOk (f89TS k) mixed Go.Proofs.Try.func89 (c := codeOf Go.Proofs.Try.f89) (by kernel_rfl) (f89LS k) ((f89E k x).trans h)
/-! ## midrange/midrangeref01.Put -/
noncomputable def f57T (k : Nat) : Table := [(88, entFn [.agg (.pair (.pair .bool (.slice (.int .i64))) (.slice (.int .i64))), .dat (.int .i64), .dat .bool] [.agg (.pair .bool (.slice (.int .i64)))] (f88F k)), (89, entFn [.agg (.pair .bool (.slice (.int .i64)))] [.dat (.int .i64)] (f89F k))]
theorem f57TS (k : Nat) : Sound P (f57T k) := ((Sound.nil).cons f89B (f89Ok k)).cons f88B (f88Ok k)
theorem f57B : HasBody P 57 := ⟨Go.Proofs.Try.f57, Go.Proofs.Try.func57, by kernel_rfl, by kernel_rfl⟩
noncomputable def f57F (k : Nat) (x : ((Bool × (List Int)) × (List Int)) × (Int × (Int × Int)) × Bool) : Option (Int × Int) :=
  Option.bind (f88F k (((x.1.1.1, x.1.1.2), x.1.2), x.2.1.2.2, x.2.2)) fun y1 =>
  bif (decide ((y1.2.length : Int) > x.2.1.2.1)) then
    some ((0 : Int), (19 : Int))
  else
  Option.bind (f89F k (y1.1, y1.2)) fun y2 =>
  some (y2, (0 : Int))
noncomputable def f57L (k : Nat) : Sums := []
theorem f57LS (k : Nat) : SumsOk P Go.Proofs.Try.f57.ntmps (f57L k) (codeOf Go.Proofs.Try.f57) 1 := SumsOk.nil
theorem f57E (k : Nat) (x : ((Bool × (List Int)) × (List Int)) × (Int × (Int × Int)) × Bool) : evFS tab (f57T k) (f57L k) Go.Proofs.Try.f57.ntmps Go.Proofs.Try.f57.results.toList (codeOf Go.Proofs.Try.f57) (argsV [.agg (.pair (.pair .bool (.slice (.int .i64))) (.slice (.int .i64))), .agg (.pair (.int .i64) (.pair (.int .i64) (.int .i64))), .dat .bool] x) [.dat (.int .i64), .dat (.int .i64)] = f57F k x := by kernel_rfl
theorem f57Ok (k : Nat) (x : ((Bool × (List Int)) × (List Int)) × (Int × (Int × Int)) × Bool) (y : Int × Int) (h : f57F k x = some y) : FnOk P 57 [.agg (.pair (.pair .bool (.slice (.int .i64))) (.slice (.int .i64))), .agg (.pair (.int .i64) (.pair (.int .i64) (.int .i64))), .dat .bool] [.dat (.int .i64), .dat (.int .i64)] x y :=
  evFS_sound tabOk (f57TS k) mixed Go.Proofs.Try.func57 (c := codeOf Go.Proofs.Try.f57) (by kernel_rfl) (f57LS k) ((f57E k x).trans h)
/-! ## midrange/midrangeref01.Converted -/
noncomputable def f19T (k : Nat) : Table := [(34, entFn [.agg (.pair (.int .i64) (.int .i64))] [.dat (.int .i64)] (f34F k)), (56, entFn [.agg (.pair (.int .i64) (.pair (.int .i64) (.int .i64)))] [.dat (.int .i64)] (f56F k)), (57, entFn [.agg (.pair (.pair .bool (.slice (.int .i64))) (.slice (.int .i64))), .agg (.pair (.int .i64) (.pair (.int .i64) (.int .i64))), .dat .bool] [.dat (.int .i64), .dat (.int .i64)] (f57F k)), (58, entFn [.agg (.pair (.int .i64) (.int .i64))] [.agg (.pair (.pair .bool (.slice (.int .i64))) (.slice (.int .i64)))] (f58F k))]
theorem f19TS (k : Nat) : Sound P (f19T k) := ((((Sound.nil).cons f58B (f58Ok k)).cons f57B (f57Ok k)).cons f56B (f56Ok k)).cons f34B (f34Ok k)
theorem f19B : HasBody P 19 := ⟨Go.Proofs.Try.f19, Go.Proofs.Try.func19, by kernel_rfl, by kernel_rfl⟩
noncomputable def f19F (k : Nat) (x : (Int × Int) × (Int × (Int × Int)) × Bool) : Option ((Int × ByteArray) × Int) :=
  Option.bind (f34F k (x.1.1, x.1.2)) fun y1 =>
  bif (y1 != (0 : Int)) then
    some (((0 : Int), ByteArray.empty), y1)
  else
  Option.bind (f56F k (x.2.1.1, (x.2.1.2.1, x.2.1.2.2))) fun y2 =>
  bif (y2 != (0 : Int)) then
    some (((0 : Int), ByteArray.empty), y2)
  else
  Option.bind (f58F k (x.1.1, x.1.2)) fun y3 =>
  Option.bind (f57F k (((y3.1.1, y3.1.2), y3.2), (x.2.1.1, (x.2.1.2.1, x.2.1.2.2)), x.2.2)) fun y4 =>
  some ((y4.1, ByteArray.empty), y4.2)
noncomputable def f19L (k : Nat) : Sums := []
theorem f19LS (k : Nat) : SumsOk P Go.Proofs.Try.f19.ntmps (f19L k) (codeOf Go.Proofs.Try.f19) 1 := SumsOk.nil
theorem f19E (k : Nat) (x : (Int × Int) × (Int × (Int × Int)) × Bool) : evFS tab (f19T k) (f19L k) Go.Proofs.Try.f19.ntmps Go.Proofs.Try.f19.results.toList (codeOf Go.Proofs.Try.f19) (argsV [.agg (.pair (.int .i64) (.int .i64)), .agg (.pair (.int .i64) (.pair (.int .i64) (.int .i64))), .dat .bool] x) [.agg (.pair (.int .i64) .str), .dat (.int .i64)] = f19F k x := by kernel_rfl
theorem f19Ok (k : Nat) (x : (Int × Int) × (Int × (Int × Int)) × Bool) (y : (Int × ByteArray) × Int) (h : f19F k x = some y) : FnOk P 19 [.agg (.pair (.int .i64) (.int .i64)), .agg (.pair (.int .i64) (.pair (.int .i64) (.int .i64))), .dat .bool] [.agg (.pair (.int .i64) .str), .dat (.int .i64)] x y :=
  evFS_sound tabOk (f19TS k) mixed Go.Proofs.Try.func19 (c := codeOf Go.Proofs.Try.f19) (by kernel_rfl) (f19LS k) ((f19E k x).trans h)
/-! ## midrange/midrangelaw01.NumericConverts -/
noncomputable def f5T (k : Nat) : Table := [(13, entFn [] [.dat .bool] (f13F k)), (18, entFn [.agg (.pair (.int .i64) (.int .i64)), .agg (.pair (.int .i64) (.pair (.int .i64) (.int .i64))), .dat .bool] [.agg (.pair (.int .i64) .str), .dat (.int .i64)] (f18F k)), (19, entFn [.agg (.pair (.int .i64) (.int .i64)), .agg (.pair (.int .i64) (.pair (.int .i64) (.int .i64))), .dat .bool] [.agg (.pair (.int .i64) .str), .dat (.int .i64)] (f19F k))]
theorem f5TS (k : Nat) : Sound P (f5T k) := (((Sound.nil).cons f19B (f19Ok k)).cons f18B (f18Ok k)).cons f13B (f13Ok k)
theorem f5B : HasBody P 5 := ⟨Go.Proofs.Try.f5, Go.Proofs.Try.func5, by kernel_rfl, by kernel_rfl⟩
noncomputable def f5F (k : Nat) (x : (Int × Int) × (Int × (Int × Int)) × Bool) : Option (Bool) :=
  Option.bind (f13F k ()) fun y1 =>
  bif (!y1) then
    some false
  else
  Option.bind (f18F k ((x.1.1, x.1.2), (x.2.1.1, (x.2.1.2.1, x.2.1.2.2)), x.2.2)) fun y2 =>
  Option.bind (f19F k ((x.1.1, x.1.2), (x.2.1.1, (x.2.1.2.1, x.2.1.2.2)), x.2.2)) fun y3 =>
  bif (y2.2 == y3.2) then
    bif (y3.2 != (0 : Int)) then
      bif ((y2.1.1 == (0 : Int)) && ((strEq y2.1.2 ByteArray.empty) && true)) then
        some true
      else
      bif (y3.2 == (0 : Int)) then
        some ((y2.1.1 == y3.1.1) && ((strEq y2.1.2 y3.1.2) && true))
      else
      some false
    else
    bif (y3.2 == (0 : Int)) then
      some ((y2.1.1 == y3.1.1) && ((strEq y2.1.2 y3.1.2) && true))
    else
    some false
  else
  some false
noncomputable def f5L (k : Nat) : Sums := []
theorem f5LS (k : Nat) : SumsOk P Go.Proofs.Try.f5.ntmps (f5L k) (codeOf Go.Proofs.Try.f5) 1 := SumsOk.nil
theorem f5E (k : Nat) (x : (Int × Int) × (Int × (Int × Int)) × Bool) : evFS tab (f5T k) (f5L k) Go.Proofs.Try.f5.ntmps Go.Proofs.Try.f5.results.toList (codeOf Go.Proofs.Try.f5) (argsV [.agg (.pair (.int .i64) (.int .i64)), .agg (.pair (.int .i64) (.pair (.int .i64) (.int .i64))), .dat .bool] x) [.dat .bool] = f5F k x := by kernel_rfl
theorem f5Ok (k : Nat) (x : (Int × Int) × (Int × (Int × Int)) × Bool) (y : Bool) (h : f5F k x = some y) : FnOk P 5 [.agg (.pair (.int .i64) (.int .i64)), .agg (.pair (.int .i64) (.pair (.int .i64) (.int .i64))), .dat .bool] [.dat .bool] x y :=
  evFS_sound tabOk (f5TS k) mixed Go.Proofs.Try.func5 (c := codeOf Go.Proofs.Try.f5) (by kernel_rfl) (f5LS k) ((f5E k x).trans h)
end Go.Proofs.Ytioagofpofamiaa
