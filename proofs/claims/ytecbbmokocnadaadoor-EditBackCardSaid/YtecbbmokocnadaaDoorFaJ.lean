/- What functions of the program compute: each as a plain Lean function, and that the code comes to it. Printed by gen.py. -/
import Derived.Test.YtecbbmokocnadaaDoorAB
import Derived.Test.YtecbbmokocnadaaDoorProg
import Derived.Test.YtecbbmokocnadaaDoorSJ
/-! Printed by gen.py: what functions compute. -/
set_option linter.unusedVariables false
set_option maxRecDepth 100000
namespace Go.Proofs.YtecbbmokocnadaaDoor
open Go.Ab
@[reducible] noncomputable def P : Program := Go.Proofs.Tryd.prog
def tab : Tab := [
  (3, ⟨.int .i64, 1, 8, false, some [.int .i64 0], false⟩),
  (4, ⟨.bool, 1, 1, false, some [.bool false], false⟩),
  (5, ⟨.int .u8, 1, 1, false, some [.int .u8 0], false⟩),
  (9, ⟨.str, 1, 16, false, some [.str ByteArray.empty], false⟩),
  (23, ⟨.struct [(3, 0, 1), (3, 1, 1), (3, 2, 1)], 3, 24, true, some [.int .i64 0, .int .i64 0, .int .i64 0], true⟩),
  (25, ⟨.struct [(3, 0, 1), (9, 1, 1)], 2, 24, true, some [.int .i64 0, .str ByteArray.empty], true⟩),
  (27, ⟨.struct [(5, 0, 1), (3, 1, 1)], 2, 16, true, some [.int .u8 0, .int .i64 0], true⟩),
  (29, ⟨.int .i64, 1, 8, false, some [.int .i64 0], false⟩),
  (36, ⟨.struct [(3, 0, 1), (3, 1, 1), (3, 2, 1), (4, 3, 1)], 4, 32, true, some [.int .i64 0, .int .i64 0, .int .i64 0, .bool false], true⟩),
  (81, ⟨.struct [(3, 0, 1), (4, 1, 1), (4, 2, 1)], 3, 16, true, some [.int .i64 0, .bool false, .bool false], true⟩),
  (83, ⟨.slice 5 (.int .u8), 1, 24, false, some [.emp], false⟩),
  (86, ⟨.slice 9 .str, 1, 24, false, some [.emp], false⟩),
  (91, ⟨.slice 3 (.int .i64), 1, 24, false, some [.emp], false⟩),
  (96, ⟨.slice 29 (.int .i64), 1, 24, false, some [.emp], false⟩),
  (110, ⟨.struct [(36, 0, 4), (9, 4, 1), (4, 5, 1), (83, 6, 1)], 7, 80, true, some [.int .i64 0, .int .i64 0, .int .i64 0, .bool false, .str ByteArray.empty, .bool false, .emp], false⟩),
  (115, ⟨.struct [(113, 0, 1), (83, 1, 1)], 2, 32, true, some [.nil .ptr, .emp], false⟩),
  (120, ⟨.slice 25 (.pair (.int .i64) .str), 1, 24, false, some [.emp], false⟩)]
theorem tabOk : tabIs P tab = true := by kernel_rfl
theorem mixed : P.follows .mixedOrders = true := by kernel_rfl
/-! ## midrange/numeric.in -/
noncomputable def f70T (k : Nat) : Table := []
theorem f70TS (k : Nat) : Sound P (f70T k) := Sound.nil
theorem f70B : HasBody P 51 := ⟨Go.Proofs.Tryd.f51, Go.Proofs.Tryd.func51, by kernel_rfl, by kernel_rfl⟩
noncomputable def f70F (k : Nat) (x : Int × Int × Int) : Option (Bool) :=
  bif (decide (x.2.1 ≤ x.1)) then
    some (decide (x.1 ≤ x.2.2))
  else
  some false
noncomputable def f70L (k : Nat) : Sums := []
theorem f70LS (k : Nat) : SumsOk P Go.Proofs.Tryd.f51.ntmps (f70L k) (codeOf Go.Proofs.Tryd.f51) 1 := SumsOk.nil
theorem f70E (k : Nat) (x : Int × Int × Int) : evFS tab (f70T k) (f70L k) Go.Proofs.Tryd.f51.ntmps Go.Proofs.Tryd.f51.results.toList (codeOf Go.Proofs.Tryd.f51) (argsV [.dat (.int .i64), .dat (.int .i64), .dat (.int .i64)] x) [.dat .bool] = f70F k x := by kernel_rfl
theorem f70Ok (k : Nat) (x : Int × Int × Int) (y : Bool) (h : f70F k x = some y) : FnOk P 51 [.dat (.int .i64), .dat (.int .i64), .dat (.int .i64)] [.dat .bool] x y :=
  evFS_sound tabOk (f70TS k) mixed Go.Proofs.Tryd.func51 (c := codeOf Go.Proofs.Tryd.f51) (by kernel_rfl) (f70LS k) ((f70E k x).trans h)
/-! ## midrange/numeric.cond -/
noncomputable def f43T (k : Nat) : Table := []
theorem f43TS (k : Nat) : Sound P (f43T k) := Sound.nil
theorem f43B : HasBody P 49 := ⟨Go.Proofs.Tryd.f49, Go.Proofs.Tryd.func49, by kernel_rfl, by kernel_rfl⟩
noncomputable def f43F (k : Nat) (x : Bool × Int) : Option (Int) :=
  bif x.1 then
    some x.2
  else
  some (0 : Int)
noncomputable def f43L (k : Nat) : Sums := []
theorem f43LS (k : Nat) : SumsOk P Go.Proofs.Tryd.f49.ntmps (f43L k) (codeOf Go.Proofs.Tryd.f49) 1 := SumsOk.nil
theorem f43E (k : Nat) (x : Bool × Int) : evFS tab (f43T k) (f43L k) Go.Proofs.Tryd.f49.ntmps Go.Proofs.Tryd.f49.results.toList (codeOf Go.Proofs.Tryd.f49) (argsV [.dat .bool, .dat (.int .i64)] x) [.dat (.int .i64)] = f43F k x := by kernel_rfl
theorem f43Ok (k : Nat) (x : Bool × Int) (y : Int) (h : f43F k x = some y) : FnOk P 49 [.dat .bool, .dat (.int .i64)] [.dat (.int .i64)] x y :=
  evFS_sound tabOk (f43TS k) mixed Go.Proofs.Tryd.func49 (c := codeOf Go.Proofs.Tryd.f49) (by kernel_rfl) (f43LS k) ((f43E k x).trans h)
/-! ## midrange/numeric.first -/
noncomputable def f42T (k : Nat) : Table := []
theorem f42TS (k : Nat) : Sound P (f42T k) := Sound.nil
theorem f42B : HasBody P 47 := ⟨Go.Proofs.Tryd.f47, Go.Proofs.Tryd.func47, by kernel_rfl, by kernel_rfl⟩
noncomputable def f42l0H : Shape := ⟨[(5, .one (.ro (.int .i64))), (6, .one (.int .i64)), (7, .one (.int .i64))], [], 0, []⟩
noncomputable def f42l0X0 : Shape := ⟨[(2, .one (.int .i64))], [], 0, []⟩
noncomputable def f42l0X1 : Shape := ⟨[], [], 0, []⟩
noncomputable def f42l0N : NoteR := ⟨[5, 6, 7], [], []⟩
noncomputable def f42l0M : NoteR := ⟨[2], [], []⟩
noncomputable def f42l0C : Code := firstC (codesAt 26 (codeOf Go.Proofs.Tryd.f47) 1)
noncomputable def f42l0s {R : Type} (k : Nat) (rec : List Int × Int × Int × Unit → Option R) (k0 : Int × Unit → Option R) (k1 : Unit → Option R) (v : List Int × Int × Int × Unit) : Option R :=
  bif (decide (v.2.2.1 < v.2.1)) then
    bif ((decide ((0 : Int) ≤ v.2.2.1)) && (decide (v.2.2.1 < (v.1.length : Int)))) then
    bif ((v.1.getD (Int.toNat v.2.2.1) (0 : Int)) != (0 : Int)) then
      k0 ((v.1.getD (Int.toNat v.2.2.1) (0 : Int)), ())
    else
    rec (v.1, v.2.1, (IntKind.i64.wrap (v.2.2.1 + (1 : Int))), ())
    else none
  else
  k1 (())
noncomputable def f42l0 {R : Type} (k : Nat) (k0 : Int × Unit → Option R) (k1 : Unit → Option R) (v : List Int × Int × Int × Unit) : Option R := iterS (fun rec v => f42l0s k rec k0 k1 v) k v
noncomputable def f42l0S (k : Nat) : Sum1 := loopSum f42l0H f42l0N k (fun R rec K v => f42l0s k rec (fun w => K .ret (encSt f42l0X0 w)) (fun w => K (.exit 0) (encSt f42l0X1 w)) v)
theorem f42l0E (k : Nat) (R : Type) (rec : St → Option R) (K : X → St → Option R) (v : f42l0H.Den) : evS tab (f42T k) Go.Proofs.Tryd.f47.ntmps [] (bodyOf f42l0C) 52 (bodyK f42l0N f42l0M rec K) (encSt f42l0H v) = f42l0s k (fun v => rec (encSt f42l0H v)) (fun w => K .ret (encSt f42l0X0 w)) (fun w => K (.exit 0) (encSt f42l0X1 w)) v := by kernel_rfl
theorem f42l0I (k : Nat) : SumsOk P Go.Proofs.Tryd.f47.ntmps [] (bodyOf f42l0C) 52 := SumsOk.nil
theorem f42l0O (k : Nat) : SumOk P Go.Proofs.Tryd.f47.ntmps f42l0C (f42l0S k) := (show f42l0C = .loop (bodyOf f42l0C) by kernel_rfl) ▸ sum_loop tabOk (f42TS k) mixed (f42l0I k) (f42l0E k)
noncomputable def f42F (k : Nat) (x : (List Int)) : Option (Int) :=
  f42l0 k
    (fun (w1 : Int × Unit) =>
      some w1.1)
    (fun (w2 : Unit) =>
      some (0 : Int))
    (x, (x.length : Int), (0 : Int), ())
noncomputable def f42L (k : Nat) : Sums := [(26, f42l0S k)]
theorem f42LS (k : Nat) : SumsOk P Go.Proofs.Tryd.f47.ntmps (f42L k) (codeOf Go.Proofs.Tryd.f47) 1 := (SumsOk.nil).cons (c := f42l0C) (by kernel_rfl) (f42l0O k)
theorem f42E (k : Nat) (x : (List Int)) : evFS tab (f42T k) (f42L k) Go.Proofs.Tryd.f47.ntmps Go.Proofs.Tryd.f47.results.toList (codeOf Go.Proofs.Tryd.f47) (argsV [.dat (.slice (.int .i64))] x) [.dat (.int .i64)] = f42F k x := by kernel_rfl
theorem f42Ok (k : Nat) (x : (List Int)) (y : Int) (h : f42F k x = some y) : FnOk P 47 [.dat (.slice (.int .i64))] [.dat (.int .i64)] x y :=
  evFS_sound tabOk (f42TS k) mixed Go.Proofs.Tryd.func47 (c := codeOf Go.Proofs.Tryd.f47) (by kernel_rfl) (f42LS k) ((f42E k x).trans h)
/-! ## midrange/numeric.CheckType -/
noncomputable def f28T (k : Nat) : Table := [(47, entFn [.dat (.slice (.int .i64))] [.dat (.int .i64)] (f42F k)), (49, entFn [.dat .bool, .dat (.int .i64)] [.dat (.int .i64)] (f43F k)), (51, entFn [.dat (.int .i64), .dat (.int .i64), .dat (.int .i64)] [.dat .bool] (f70F k))]
theorem f28TS (k : Nat) : Sound P (f28T k) := (((Sound.nil).cons f70B (f70Ok k)).cons f43B (f43Ok k)).cons f42B (f42Ok k)
theorem f28B : HasBody P 48 := ⟨Go.Proofs.Tryd.f48, Go.Proofs.Tryd.func48, by kernel_rfl, by kernel_rfl⟩
noncomputable def f28p0H : Shape := ⟨[(1, .one (.ptr 0 0)), (4, .one (.bool)), (9, .one (.int .i64))], [(0, .var 23 [.int .i64, .int .i64, .int .i64])], 1, []⟩
noncomputable def f28p0X0 : Shape := ⟨[(1, .one (.ptr 0 0)), (4, .one (.bool)), (9, .one (.int .i64)), (15, .one (.bool))], [(0, .var 23 [.int .i64, .int .i64, .int .i64])], 1, []⟩
noncomputable def f28p0N : NoteR := ⟨[1, 4, 9], [], []⟩
noncomputable def f28p0M : NoteR := ⟨[1, 2, 4, 9, 15], [], []⟩
noncomputable def f28p0C : Code := firstC (codesAt 470 (codeOf Go.Proofs.Tryd.f48) 1)
noncomputable def f28p0 {R : Type} (k : Nat) (k0 : Bool × Int × Bool × Int × Int × Int × Unit → Option R) (v : Bool × Int × Int × Int × Int × Unit) : Option R :=
  bif (v.2.1 == (1 : Int)) then
    k0 (v.1, v.2.1, (v.2.1 == (1 : Int)), v.2.2.1, v.2.2.2.1, v.2.2.2.2.1, ())
  else
  k0 (v.1, v.2.1, (v.2.1 == (2 : Int)), v.2.2.1, v.2.2.2.1, v.2.2.2.2.1, ())
noncomputable def f28p0S (k : Nat) : Sum1 := partSum f28p0H f28p0N (fun R K v => f28p0 k (fun w => K .normal (encSt f28p0X0 w)) v)
theorem f28p0E (k : Nat) (R : Type) (K : X → St → Option R) (v : f28p0H.Den) : evS tab (f28T k) Go.Proofs.Tryd.f48.ntmps [] f28p0C 470 (partK f28p0M K) (encSt f28p0H v) = f28p0 k (fun w => K .normal (encSt f28p0X0 w)) v := by kernel_rfl
theorem f28p0I (k : Nat) : SumsOk P Go.Proofs.Tryd.f48.ntmps [] f28p0C 470 := SumsOk.nil
theorem f28p0O (k : Nat) : SumOk P Go.Proofs.Tryd.f48.ntmps f28p0C (f28p0S k) := sum_part tabOk (f28TS k) mixed (f28p0I k) (f28p0E k)
noncomputable def f28p1H : Shape := ⟨[(1, .one (.ptr 0 0)), (4, .one (.bool))], [(0, .var 23 [.int .i64, .int .i64, .int .i64])], 1, []⟩
noncomputable def f28p1X0 : Shape := ⟨[(3, .one (.bool)), (4, .one (.bool))], [], 0, []⟩
noncomputable def f28p1X1 : Shape := ⟨[(2, .one (.int .i64)), (4, .one (.bool))], [], 0, []⟩
noncomputable def f28p1N : NoteR := ⟨[1, 4], [], []⟩
noncomputable def f28p1M : NoteR := ⟨[2, 3, 4], [], []⟩
noncomputable def f28p1C : Code := firstC (codesAt 14 (codeOf Go.Proofs.Tryd.f48) 1)
noncomputable def f28p1 {R : Type} (k : Nat) (k0 : Bool × Bool × Unit → Option R) (k1 : Int × Bool × Unit → Option R) (v : Bool × Int × Int × Int × Unit) : Option R :=
  bif (v.2.1 == (0 : Int)) then
    Option.bind (f70F k (v.2.2.1, (1 : Int), (256 : Int))) fun y1 =>
    k0 (y1, v.1, ())
  else
  f28p0 k
    (fun (w2 : Bool × Int × Bool × Int × Int × Int × Unit) =>
      bif w2.2.2.1 then
        Option.bind (f70F k (w2.2.2.2.2.1, (1 : Int), (15 : Int))) fun y3 =>
        Option.bind (f70F k (w2.2.2.2.2.2.1, (0 : Int), w2.2.2.2.2.1)) fun y4 =>
        k0 (y3, y4, ())
      else
      bif (w2.2.1 == (3 : Int)) then
        bif (w2.2.2.2.2.1 == (4 : Int)) then
          Option.bind (f70F k (w2.2.2.2.2.2.1, (0 : Int), w2.2.2.2.2.1)) fun y5 =>
          k0 (true, y5, ())
        else
        Option.bind (f70F k (w2.2.2.2.2.2.1, (0 : Int), w2.2.2.2.2.1)) fun y6 =>
        k0 ((w2.2.2.2.2.1 == (9 : Int)), y6, ())
      else
      bif (w2.2.1 == (4 : Int)) then
        k0 ((w2.2.2.2.2.1 == (0 : Int)), w2.1, ())
      else
      k1 ((4 : Int), w2.1, ()))
    (v.1, v.2.1, v.2.1, v.2.2.1, v.2.2.2.1, ())
noncomputable def f28p1S (k : Nat) : Sum1 := partSum f28p1H f28p1N (fun R K v => f28p1 k (fun w => K .normal (encSt f28p1X0 w)) (fun w => K .ret (encSt f28p1X1 w)) v)
theorem f28p1E (k : Nat) (R : Type) (K : X → St → Option R) (v : f28p1H.Den) : evS tab (f28T k) Go.Proofs.Tryd.f48.ntmps [(470, f28p0S k)] f28p1C 14 (partK f28p1M K) (encSt f28p1H v) = f28p1 k (fun w => K .normal (encSt f28p1X0 w)) (fun w => K .ret (encSt f28p1X1 w)) v := by kernel_rfl
theorem f28p1I (k : Nat) : SumsOk P Go.Proofs.Tryd.f48.ntmps [(470, f28p0S k)] f28p1C 14 := (SumsOk.nil).cons (c := f28p0C) (by kernel_rfl) (f28p0O k)
theorem f28p1O (k : Nat) : SumOk P Go.Proofs.Tryd.f48.ntmps f28p1C (f28p1S k) := sum_part tabOk (f28TS k) mixed (f28p1I k) (f28p1E k)
noncomputable def f28F (k : Nat) (x : (Int × (Int × Int))) : Option (Int) :=
  f28p1 k
    (fun (w7 : Bool × Bool × Unit) =>
      Option.bind (f43F k ((!w7.1), (18 : Int))) fun y8 =>
      Option.bind (f43F k ((!w7.2.1), (3 : Int))) fun y9 =>
      Option.bind (f42F k [y8, y9]) fun y10 =>
      some y10)
    (fun (w11 : Int × Bool × Unit) =>
      some w11.1)
    ((x.2.2 == (0 : Int)), x.1, x.2.1, x.2.2, ())
noncomputable def f28L (k : Nat) : Sums := [(470, f28p0S k), (14, f28p1S k)]
theorem f28LS (k : Nat) : SumsOk P Go.Proofs.Tryd.f48.ntmps (f28L k) (codeOf Go.Proofs.Tryd.f48) 1 := ((SumsOk.nil).cons (c := f28p1C) (by kernel_rfl) (f28p1O k)).cons (c := f28p0C) (by kernel_rfl) (f28p0O k)
theorem f28E (k : Nat) (x : (Int × (Int × Int))) : evFS tab (f28T k) (f28L k) Go.Proofs.Tryd.f48.ntmps Go.Proofs.Tryd.f48.results.toList (codeOf Go.Proofs.Tryd.f48) (argsV [.agg (.pair (.int .i64) (.pair (.int .i64) (.int .i64)))] x) [.dat (.int .i64)] = f28F k x := by kernel_rfl
theorem f28Ok (k : Nat) (x : (Int × (Int × Int))) (y : Int) (h : f28F k x = some y) : FnOk P 48 [.agg (.pair (.int .i64) (.pair (.int .i64) (.int .i64)))] [.dat (.int .i64)] x y :=
  evFS_sound tabOk (f28TS k) mixed Go.Proofs.Tryd.func48 (c := codeOf Go.Proofs.Tryd.f48) (by kernel_rfl) (f28LS k) ((f28E k x).trans h)
/-! ## midrange/edit.cond -/
noncomputable def f338T (k : Nat) : Table := []
theorem f338TS (k : Nat) : Sound P (f338T k) := Sound.nil
theorem f338B : HasBody P 38 := ⟨Go.Proofs.Tryd.f38, Go.Proofs.Tryd.func38, by kernel_rfl, by kernel_rfl⟩
noncomputable def f338F (k : Nat) (x : Bool × Int) : Option (Int) :=
  bif x.1 then
    some x.2
  else
  some (0 : Int)
noncomputable def f338L (k : Nat) : Sums := []
theorem f338LS (k : Nat) : SumsOk P Go.Proofs.Tryd.f38.ntmps (f338L k) (codeOf Go.Proofs.Tryd.f38) 1 := SumsOk.nil
theorem f338E (k : Nat) (x : Bool × Int) : evFS tab (f338T k) (f338L k) Go.Proofs.Tryd.f38.ntmps Go.Proofs.Tryd.f38.results.toList (codeOf Go.Proofs.Tryd.f38) (argsV [.dat .bool, .dat (.int .i64)] x) [.dat (.int .i64)] = f338F k x := by kernel_rfl
theorem f338Ok (k : Nat) (x : Bool × Int) (y : Int) (h : f338F k x = some y) : FnOk P 38 [.dat .bool, .dat (.int .i64)] [.dat (.int .i64)] x y :=
  evFS_sound tabOk (f338TS k) mixed Go.Proofs.Tryd.func38 (c := codeOf Go.Proofs.Tryd.f38) (by kernel_rfl) (f338LS k) ((f338E k x).trans h)
/-! ## midrange/edit.first -/
noncomputable def f334T (k : Nat) : Table := []
theorem f334TS (k : Nat) : Sound P (f334T k) := Sound.nil
theorem f334B : HasBody P 34 := ⟨Go.Proofs.Tryd.f34, Go.Proofs.Tryd.func34, by kernel_rfl, by kernel_rfl⟩
noncomputable def f334l0H : Shape := ⟨[(5, .one (.ro (.int .i64))), (6, .one (.int .i64)), (7, .one (.int .i64))], [], 0, []⟩
noncomputable def f334l0X0 : Shape := ⟨[(2, .one (.int .i64))], [], 0, []⟩
noncomputable def f334l0X1 : Shape := ⟨[], [], 0, []⟩
noncomputable def f334l0N : NoteR := ⟨[5, 6, 7], [], []⟩
noncomputable def f334l0M : NoteR := ⟨[2], [], []⟩
noncomputable def f334l0C : Code := firstC (codesAt 26 (codeOf Go.Proofs.Tryd.f34) 1)
noncomputable def f334l0s {R : Type} (k : Nat) (rec : List Int × Int × Int × Unit → Option R) (k0 : Int × Unit → Option R) (k1 : Unit → Option R) (v : List Int × Int × Int × Unit) : Option R :=
  bif (decide (v.2.2.1 < v.2.1)) then
    bif ((decide ((0 : Int) ≤ v.2.2.1)) && (decide (v.2.2.1 < (v.1.length : Int)))) then
    bif ((v.1.getD (Int.toNat v.2.2.1) (0 : Int)) != (0 : Int)) then
      k0 ((v.1.getD (Int.toNat v.2.2.1) (0 : Int)), ())
    else
    rec (v.1, v.2.1, (IntKind.i64.wrap (v.2.2.1 + (1 : Int))), ())
    else none
  else
  k1 (())
noncomputable def f334l0 {R : Type} (k : Nat) (k0 : Int × Unit → Option R) (k1 : Unit → Option R) (v : List Int × Int × Int × Unit) : Option R := iterS (fun rec v => f334l0s k rec k0 k1 v) k v
noncomputable def f334l0S (k : Nat) : Sum1 := loopSum f334l0H f334l0N k (fun R rec K v => f334l0s k rec (fun w => K .ret (encSt f334l0X0 w)) (fun w => K (.exit 0) (encSt f334l0X1 w)) v)
theorem f334l0E (k : Nat) (R : Type) (rec : St → Option R) (K : X → St → Option R) (v : f334l0H.Den) : evS tab (f334T k) Go.Proofs.Tryd.f34.ntmps [] (bodyOf f334l0C) 52 (bodyK f334l0N f334l0M rec K) (encSt f334l0H v) = f334l0s k (fun v => rec (encSt f334l0H v)) (fun w => K .ret (encSt f334l0X0 w)) (fun w => K (.exit 0) (encSt f334l0X1 w)) v := by kernel_rfl
theorem f334l0I (k : Nat) : SumsOk P Go.Proofs.Tryd.f34.ntmps [] (bodyOf f334l0C) 52 := SumsOk.nil
theorem f334l0O (k : Nat) : SumOk P Go.Proofs.Tryd.f34.ntmps f334l0C (f334l0S k) := (show f334l0C = .loop (bodyOf f334l0C) by kernel_rfl) ▸ sum_loop tabOk (f334TS k) mixed (f334l0I k) (f334l0E k)
noncomputable def f334F (k : Nat) (x : (List Int)) : Option (Int) :=
  f334l0 k
    (fun (w1 : Int × Unit) =>
      some w1.1)
    (fun (w2 : Unit) =>
      some (0 : Int))
    (x, (x.length : Int), (0 : Int), ())
noncomputable def f334L (k : Nat) : Sums := [(26, f334l0S k)]
theorem f334LS (k : Nat) : SumsOk P Go.Proofs.Tryd.f34.ntmps (f334L k) (codeOf Go.Proofs.Tryd.f34) 1 := (SumsOk.nil).cons (c := f334l0C) (by kernel_rfl) (f334l0O k)
theorem f334E (k : Nat) (x : (List Int)) : evFS tab (f334T k) (f334L k) Go.Proofs.Tryd.f34.ntmps Go.Proofs.Tryd.f34.results.toList (codeOf Go.Proofs.Tryd.f34) (argsV [.dat (.slice (.int .i64))] x) [.dat (.int .i64)] = f334F k x := by kernel_rfl
theorem f334Ok (k : Nat) (x : (List Int)) (y : Int) (h : f334F k x = some y) : FnOk P 34 [.dat (.slice (.int .i64))] [.dat (.int .i64)] x y :=
  evFS_sound tabOk (f334TS k) mixed Go.Proofs.Tryd.func34 (c := codeOf Go.Proofs.Tryd.f34) (by kernel_rfl) (f334LS k) ((f334E k x).trans h)
/-! ## midrange/edit.typeErr -/
noncomputable def f365T (k : Nat) : Table := [(34, entFn [.dat (.slice (.int .i64))] [.dat (.int .i64)] (f334F k)), (38, entFn [.dat .bool, .dat (.int .i64)] [.dat (.int .i64)] (f338F k)), (48, entFn [.agg (.pair (.int .i64) (.pair (.int .i64) (.int .i64)))] [.dat (.int .i64)] (f28F k))]
theorem f365TS (k : Nat) : Sound P (f365T k) := (((Sound.nil).cons f28B (f28Ok k)).cons f338B (f338Ok k)).cons f334B (f334Ok k)
theorem f365B : HasBody P 65 := ⟨Go.Proofs.Tryd.f65, Go.Proofs.Tryd.func65, by kernel_rfl, by kernel_rfl⟩
noncomputable def f365F (k : Nat) (x : (Int × (Int × Int))) : Option (Int) :=
  Option.bind (f28F k (x.1, (x.2.1, x.2.2))) fun y1 =>
  bif (x.1 == (0 : Int)) then
    Option.bind (f338F k (true, (17 : Int))) fun y2 =>
    Option.bind (f334F k [y1, y2]) fun y3 =>
    some y3
  else
  Option.bind (f338F k ((x.1 == (4 : Int)), (17 : Int))) fun y4 =>
  Option.bind (f334F k [y1, y4]) fun y5 =>
  some y5
noncomputable def f365L (k : Nat) : Sums := []
theorem f365LS (k : Nat) : SumsOk P Go.Proofs.Tryd.f65.ntmps (f365L k) (codeOf Go.Proofs.Tryd.f65) 1 := SumsOk.nil
theorem f365E (k : Nat) (x : (Int × (Int × Int))) : evFS tab (f365T k) (f365L k) Go.Proofs.Tryd.f65.ntmps Go.Proofs.Tryd.f65.results.toList (codeOf Go.Proofs.Tryd.f65) (argsV [.agg (.pair (.int .i64) (.pair (.int .i64) (.int .i64)))] x) [.dat (.int .i64)] = f365F k x := by kernel_rfl
theorem f365Ok (k : Nat) (x : (Int × (Int × Int))) (y : Int) (h : f365F k x = some y) : FnOk P 65 [.agg (.pair (.int .i64) (.pair (.int .i64) (.int .i64)))] [.dat (.int .i64)] x y :=
  evFS_sound tabOk (f365TS k) mixed Go.Proofs.Tryd.func65 (c := codeOf Go.Proofs.Tryd.f65) (by kernel_rfl) (f365LS k) ((f365E k x).trans h)
/-! ## midrange/edit.isOther -/
noncomputable def f353T (k : Nat) : Table := []
theorem f353TS (k : Nat) : Sound P (f353T k) := Sound.nil
theorem f353B : HasBody P 53 := ⟨Go.Proofs.Tryd.f53, Go.Proofs.Tryd.func53, by kernel_rfl, by kernel_rfl⟩
noncomputable def f353F (k : Nat) (x : Int) : Option (Bool) :=
  bif (x == (88 : Int)) then
    some true
  else
  bif (x == (89 : Int)) then
    some true
  else
  some (x == (90 : Int))
noncomputable def f353L (k : Nat) : Sums := []
theorem f353LS (k : Nat) : SumsOk P Go.Proofs.Tryd.f53.ntmps (f353L k) (codeOf Go.Proofs.Tryd.f53) 1 := SumsOk.nil
theorem f353E (k : Nat) (x : Int) : evFS tab (f353T k) (f353L k) Go.Proofs.Tryd.f53.ntmps Go.Proofs.Tryd.f53.results.toList (codeOf Go.Proofs.Tryd.f53) (argsV [.dat (.int .u8)] x) [.dat .bool] = f353F k x := by kernel_rfl
theorem f353Ok (k : Nat) (x : Int) (y : Bool) (h : f353F k x = some y) : FnOk P 53 [.dat (.int .u8)] [.dat .bool] x y :=
  evFS_sound tabOk (f353TS k) mixed Go.Proofs.Tryd.func53 (c := codeOf Go.Proofs.Tryd.f53) (by kernel_rfl) (f353LS k) ((f353E k x).trans h)
/-! ## midrange/edit.styleOf -/
noncomputable def f352T (k : Nat) : Table := [(66, entFn [.dat .str, .dat (.int .u8)] [.dat (.int .i64)] (f366F k))]
theorem f352TS (k : Nat) : Sound P (f352T k) := (Sound.nil).cons f366B (f366Ok k)
theorem f352B : HasBody P 52 := ⟨Go.Proofs.Tryd.f52, Go.Proofs.Tryd.func52, by kernel_rfl, by kernel_rfl⟩
noncomputable def f352F (k : Nat) (x : Int) : Option ((Int × (Bool × Bool))) :=
  Option.bind (f366F k ((⟨#[49, 50, 51, 52, 65, 66, 67, 68, 74, 75, 76, 77, 78, 79, 80, 81]⟩ : ByteArray), x)) fun y1 =>
  some ((IntKind.i64.wrap (Int.tdiv y1 (4 : Int))), ((decide ((Int.tmod y1 (4 : Int)) < (2 : Int))), ((Int.tmod y1 (2 : Int)) == (1 : Int))))
noncomputable def f352L (k : Nat) : Sums := []
theorem f352LS (k : Nat) : SumsOk P Go.Proofs.Tryd.f52.ntmps (f352L k) (codeOf Go.Proofs.Tryd.f52) 1 := SumsOk.nil
theorem f352E (k : Nat) (x : Int) : evFS tab (f352T k) (f352L k) Go.Proofs.Tryd.f52.ntmps Go.Proofs.Tryd.f52.results.toList (codeOf Go.Proofs.Tryd.f52) (argsV [.dat (.int .u8)] x) [.agg (.pair (.int .i64) (.pair .bool .bool))] = f352F k x := by kernel_rfl
theorem f352Ok (k : Nat) (x : Int) (y : (Int × (Bool × Bool))) (h : f352F k x = some y) : FnOk P 52 [.dat (.int .u8)] [.agg (.pair (.int .i64) (.pair .bool .bool))] x y :=
  evFS_sound tabOk (f352TS k) mixed Go.Proofs.Tryd.func52 (c := codeOf Go.Proofs.Tryd.f52) (by kernel_rfl) (f352LS k) ((f352E k x).trans h)
/-! ## midrange/edit.codeErr -/
noncomputable def f335T (k : Nat) : Table := [(34, entFn [.dat (.slice (.int .i64))] [.dat (.int .i64)] (f334F k)), (38, entFn [.dat .bool, .dat (.int .i64)] [.dat (.int .i64)] (f338F k)), (52, entFn [.dat (.int .u8)] [.agg (.pair (.int .i64) (.pair .bool .bool))] (f352F k)), (53, entFn [.dat (.int .u8)] [.dat .bool] (f353F k)), (65, entFn [.agg (.pair (.int .i64) (.pair (.int .i64) (.int .i64)))] [.dat (.int .i64)] (f365F k)), (66, entFn [.dat .str, .dat (.int .u8)] [.dat (.int .i64)] (f366F k))]
theorem f335TS (k : Nat) : Sound P (f335T k) := ((((((Sound.nil).cons f366B (f366Ok k)).cons f365B (f365Ok k)).cons f353B (f353Ok k)).cons f352B (f352Ok k)).cons f338B (f338Ok k)).cons f334B (f334Ok k)
theorem f335B : HasBody P 35 := ⟨Go.Proofs.Tryd.f35, Go.Proofs.Tryd.func35, by kernel_rfl, by kernel_rfl⟩
noncomputable def f335p0H : Shape := ⟨[(2, .one (.ptr 0 0)), (3, .one (.ptr 1 0)), (6, .one (.bool))], [(0, .var 23 [.int .i64, .int .i64, .int .i64]), (1, .var 27 [.int .u8, .int .i64])], 2, []⟩
noncomputable def f335p0X0 : Shape := ⟨[(2, .one (.ptr 0 0)), (3, .one (.ptr 1 0)), (4, .one (.int .i64)), (6, .one (.bool))], [(0, .var 23 [.int .i64, .int .i64, .int .i64]), (1, .var 27 [.int .u8, .int .i64])], 2, []⟩
noncomputable def f335p0X1 : Shape := ⟨[(2, .one (.ptr 0 0)), (3, .one (.ptr 1 0)), (6, .one (.bool))], [(0, .var 23 [.int .i64, .int .i64, .int .i64]), (1, .var 27 [.int .u8, .int .i64])], 2, []⟩
noncomputable def f335p0N : NoteR := ⟨[2, 3, 6], [], []⟩
noncomputable def f335p0M : NoteR := ⟨[2, 3, 4, 6], [], []⟩
noncomputable def f335p0C : Code := firstC (codesAt 30 (codeOf Go.Proofs.Tryd.f35) 1)
noncomputable def f335p0 {R : Type} (k : Nat) (k0 : Int × Bool × Int × Int × Int × Int × Int × Unit → Option R) (k1 : Bool × Int × Int × Int × Int × Int × Unit → Option R) (v : Bool × Int × Int × Int × Int × Int × Unit) : Option R :=
  bif (!v.1) then
    Option.bind (f353F k v.2.2.2.2.1) fun y3 =>
    bif (!y3) then
      k0 ((4 : Int), v.1, v.2.1, v.2.2.1, v.2.2.2.1, v.2.2.2.2.1, v.2.2.2.2.2.1, ())
    else
    k1 (v.1, v.2.1, v.2.2.1, v.2.2.2.1, v.2.2.2.2.1, v.2.2.2.2.2.1, ())
  else
  k1 (v.1, v.2.1, v.2.2.1, v.2.2.2.1, v.2.2.2.2.1, v.2.2.2.2.2.1, ())
noncomputable def f335p0S (k : Nat) : Sum1 := partSum f335p0H f335p0N (fun R K v => f335p0 k (fun w => K .ret (encSt f335p0X0 w)) (fun w => K .normal (encSt f335p0X1 w)) v)
theorem f335p0E (k : Nat) (R : Type) (K : X → St → Option R) (v : f335p0H.Den) : evS tab (f335T k) Go.Proofs.Tryd.f35.ntmps [] f335p0C 30 (partK f335p0M K) (encSt f335p0H v) = f335p0 k (fun w => K .ret (encSt f335p0X0 w)) (fun w => K .normal (encSt f335p0X1 w)) v := by kernel_rfl
theorem f335p0I (k : Nat) : SumsOk P Go.Proofs.Tryd.f35.ntmps [] f335p0C 30 := SumsOk.nil
theorem f335p0O (k : Nat) : SumOk P Go.Proofs.Tryd.f35.ntmps f335p0C (f335p0S k) := sum_part tabOk (f335TS k) mixed (f335p0I k) (f335p0E k)
noncomputable def f335F (k : Nat) (x : (Int × (Int × Int)) × (Int × Int)) : Option (Int) :=
  Option.bind (f365F k (x.1.1, (x.1.2.1, x.1.2.2))) fun y1 =>
  bif (y1 != (0 : Int)) then
    some y1
  else
  Option.bind (f366F k ((⟨#[49, 50, 51, 52, 65, 66, 67, 68, 74, 75, 76, 77, 78, 79, 80, 81]⟩ : ByteArray), x.2.1)) fun y2 =>
  f335p0 k
    (fun (w4 : Int × Bool × Int × Int × Int × Int × Int × Unit) =>
      some w4.1)
    (fun (w5 : Bool × Int × Int × Int × Int × Int × Unit) =>
      bif w5.1 then
        Option.bind (f352F k w5.2.2.2.2.1) fun y6 =>
        bif (decide (w5.2.2.2.2.2.1 < (0 : Int))) then
          Option.bind (f338F k (true, (3 : Int))) fun y7 =>
          bif (w5.2.2.2.2.2.1 != (0 : Int)) then
            Option.bind (f338F k ((!(y6.1 != (3 : Int))), (15 : Int))) fun y8 =>
            Option.bind (f334F k [y7, y8]) fun y9 =>
            bif (y9 != (0 : Int)) then
              some y9
            else
            bif (w5.2.2.2.2.1 != (89 : Int)) then
              some y9
            else
            bif (w5.2.2.1 != (4 : Int)) then
              bif (w5.2.2.1 != (6 : Int)) then
                Option.bind (f338F k ((w5.2.2.1 != (8 : Int)), (18 : Int))) fun y10 =>
                Option.bind (f338F k ((decide (w5.2.2.2.1 > (0 : Int))), (5 : Int))) fun y11 =>
                Option.bind (f334F k [y10, y11]) fun y12 =>
                some y12
              else
              Option.bind (f338F k (false, (18 : Int))) fun y13 =>
              Option.bind (f338F k ((decide (w5.2.2.2.1 > (0 : Int))), (5 : Int))) fun y14 =>
              Option.bind (f334F k [y13, y14]) fun y15 =>
              some y15
            else
            Option.bind (f338F k (false, (18 : Int))) fun y16 =>
            Option.bind (f338F k ((decide (w5.2.2.2.1 > (0 : Int))), (5 : Int))) fun y17 =>
            Option.bind (f334F k [y16, y17]) fun y18 =>
            some y18
          else
          Option.bind (f338F k (false, (15 : Int))) fun y19 =>
          Option.bind (f334F k [y7, y19]) fun y20 =>
          bif (y20 != (0 : Int)) then
            some y20
          else
          bif (w5.2.2.2.2.1 != (89 : Int)) then
            some y20
          else
          bif (w5.2.2.1 != (4 : Int)) then
            bif (w5.2.2.1 != (6 : Int)) then
              Option.bind (f338F k ((w5.2.2.1 != (8 : Int)), (18 : Int))) fun y21 =>
              Option.bind (f338F k ((decide (w5.2.2.2.1 > (0 : Int))), (5 : Int))) fun y22 =>
              Option.bind (f334F k [y21, y22]) fun y23 =>
              some y23
            else
            Option.bind (f338F k (false, (18 : Int))) fun y24 =>
            Option.bind (f338F k ((decide (w5.2.2.2.1 > (0 : Int))), (5 : Int))) fun y25 =>
            Option.bind (f334F k [y24, y25]) fun y26 =>
            some y26
          else
          Option.bind (f338F k (false, (18 : Int))) fun y27 =>
          Option.bind (f338F k ((decide (w5.2.2.2.1 > (0 : Int))), (5 : Int))) fun y28 =>
          Option.bind (f334F k [y27, y28]) fun y29 =>
          some y29
        else
        Option.bind (f338F k ((decide (w5.2.2.2.2.2.1 ≥ (3 : Int))), (3 : Int))) fun y30 =>
        bif (w5.2.2.2.2.2.1 != (0 : Int)) then
          Option.bind (f338F k ((!(y6.1 != (3 : Int))), (15 : Int))) fun y31 =>
          Option.bind (f334F k [y30, y31]) fun y32 =>
          bif (y32 != (0 : Int)) then
            some y32
          else
          bif (w5.2.2.2.2.1 != (89 : Int)) then
            some y32
          else
          bif (w5.2.2.1 != (4 : Int)) then
            bif (w5.2.2.1 != (6 : Int)) then
              Option.bind (f338F k ((w5.2.2.1 != (8 : Int)), (18 : Int))) fun y33 =>
              Option.bind (f338F k ((decide (w5.2.2.2.1 > (0 : Int))), (5 : Int))) fun y34 =>
              Option.bind (f334F k [y33, y34]) fun y35 =>
              some y35
            else
            Option.bind (f338F k (false, (18 : Int))) fun y36 =>
            Option.bind (f338F k ((decide (w5.2.2.2.1 > (0 : Int))), (5 : Int))) fun y37 =>
            Option.bind (f334F k [y36, y37]) fun y38 =>
            some y38
          else
          Option.bind (f338F k (false, (18 : Int))) fun y39 =>
          Option.bind (f338F k ((decide (w5.2.2.2.1 > (0 : Int))), (5 : Int))) fun y40 =>
          Option.bind (f334F k [y39, y40]) fun y41 =>
          some y41
        else
        Option.bind (f338F k (false, (15 : Int))) fun y42 =>
        Option.bind (f334F k [y30, y42]) fun y43 =>
        bif (y43 != (0 : Int)) then
          some y43
        else
        bif (w5.2.2.2.2.1 != (89 : Int)) then
          some y43
        else
        bif (w5.2.2.1 != (4 : Int)) then
          bif (w5.2.2.1 != (6 : Int)) then
            Option.bind (f338F k ((w5.2.2.1 != (8 : Int)), (18 : Int))) fun y44 =>
            Option.bind (f338F k ((decide (w5.2.2.2.1 > (0 : Int))), (5 : Int))) fun y45 =>
            Option.bind (f334F k [y44, y45]) fun y46 =>
            some y46
          else
          Option.bind (f338F k (false, (18 : Int))) fun y47 =>
          Option.bind (f338F k ((decide (w5.2.2.2.1 > (0 : Int))), (5 : Int))) fun y48 =>
          Option.bind (f334F k [y47, y48]) fun y49 =>
          some y49
        else
        Option.bind (f338F k (false, (18 : Int))) fun y50 =>
        Option.bind (f338F k ((decide (w5.2.2.2.1 > (0 : Int))), (5 : Int))) fun y51 =>
        Option.bind (f334F k [y50, y51]) fun y52 =>
        some y52
      else
      bif (decide (w5.2.2.2.2.2.1 < (0 : Int))) then
        Option.bind (f338F k (true, (3 : Int))) fun y53 =>
        bif (w5.2.2.2.2.2.1 != (0 : Int)) then
          Option.bind (f338F k (true, (15 : Int))) fun y54 =>
          Option.bind (f334F k [y53, y54]) fun y55 =>
          bif (y55 != (0 : Int)) then
            some y55
          else
          bif (w5.2.2.2.2.1 != (89 : Int)) then
            some y55
          else
          bif (w5.2.2.1 != (4 : Int)) then
            bif (w5.2.2.1 != (6 : Int)) then
              Option.bind (f338F k ((w5.2.2.1 != (8 : Int)), (18 : Int))) fun y56 =>
              Option.bind (f338F k ((decide (w5.2.2.2.1 > (0 : Int))), (5 : Int))) fun y57 =>
              Option.bind (f334F k [y56, y57]) fun y58 =>
              some y58
            else
            Option.bind (f338F k (false, (18 : Int))) fun y59 =>
            Option.bind (f338F k ((decide (w5.2.2.2.1 > (0 : Int))), (5 : Int))) fun y60 =>
            Option.bind (f334F k [y59, y60]) fun y61 =>
            some y61
          else
          Option.bind (f338F k (false, (18 : Int))) fun y62 =>
          Option.bind (f338F k ((decide (w5.2.2.2.1 > (0 : Int))), (5 : Int))) fun y63 =>
          Option.bind (f334F k [y62, y63]) fun y64 =>
          some y64
        else
        Option.bind (f338F k (false, (15 : Int))) fun y65 =>
        Option.bind (f334F k [y53, y65]) fun y66 =>
        bif (y66 != (0 : Int)) then
          some y66
        else
        bif (w5.2.2.2.2.1 != (89 : Int)) then
          some y66
        else
        bif (w5.2.2.1 != (4 : Int)) then
          bif (w5.2.2.1 != (6 : Int)) then
            Option.bind (f338F k ((w5.2.2.1 != (8 : Int)), (18 : Int))) fun y67 =>
            Option.bind (f338F k ((decide (w5.2.2.2.1 > (0 : Int))), (5 : Int))) fun y68 =>
            Option.bind (f334F k [y67, y68]) fun y69 =>
            some y69
          else
          Option.bind (f338F k (false, (18 : Int))) fun y70 =>
          Option.bind (f338F k ((decide (w5.2.2.2.1 > (0 : Int))), (5 : Int))) fun y71 =>
          Option.bind (f334F k [y70, y71]) fun y72 =>
          some y72
        else
        Option.bind (f338F k (false, (18 : Int))) fun y73 =>
        Option.bind (f338F k ((decide (w5.2.2.2.1 > (0 : Int))), (5 : Int))) fun y74 =>
        Option.bind (f334F k [y73, y74]) fun y75 =>
        some y75
      else
      Option.bind (f338F k ((decide (w5.2.2.2.2.2.1 ≥ (3 : Int))), (3 : Int))) fun y76 =>
      bif (w5.2.2.2.2.2.1 != (0 : Int)) then
        Option.bind (f338F k (true, (15 : Int))) fun y77 =>
        Option.bind (f334F k [y76, y77]) fun y78 =>
        bif (y78 != (0 : Int)) then
          some y78
        else
        bif (w5.2.2.2.2.1 != (89 : Int)) then
          some y78
        else
        bif (w5.2.2.1 != (4 : Int)) then
          bif (w5.2.2.1 != (6 : Int)) then
            Option.bind (f338F k ((w5.2.2.1 != (8 : Int)), (18 : Int))) fun y79 =>
            Option.bind (f338F k ((decide (w5.2.2.2.1 > (0 : Int))), (5 : Int))) fun y80 =>
            Option.bind (f334F k [y79, y80]) fun y81 =>
            some y81
          else
          Option.bind (f338F k (false, (18 : Int))) fun y82 =>
          Option.bind (f338F k ((decide (w5.2.2.2.1 > (0 : Int))), (5 : Int))) fun y83 =>
          Option.bind (f334F k [y82, y83]) fun y84 =>
          some y84
        else
        Option.bind (f338F k (false, (18 : Int))) fun y85 =>
        Option.bind (f338F k ((decide (w5.2.2.2.1 > (0 : Int))), (5 : Int))) fun y86 =>
        Option.bind (f334F k [y85, y86]) fun y87 =>
        some y87
      else
      Option.bind (f338F k (false, (15 : Int))) fun y88 =>
      Option.bind (f334F k [y76, y88]) fun y89 =>
      bif (y89 != (0 : Int)) then
        some y89
      else
      bif (w5.2.2.2.2.1 != (89 : Int)) then
        some y89
      else
      bif (w5.2.2.1 != (4 : Int)) then
        bif (w5.2.2.1 != (6 : Int)) then
          Option.bind (f338F k ((w5.2.2.1 != (8 : Int)), (18 : Int))) fun y90 =>
          Option.bind (f338F k ((decide (w5.2.2.2.1 > (0 : Int))), (5 : Int))) fun y91 =>
          Option.bind (f334F k [y90, y91]) fun y92 =>
          some y92
        else
        Option.bind (f338F k (false, (18 : Int))) fun y93 =>
        Option.bind (f338F k ((decide (w5.2.2.2.1 > (0 : Int))), (5 : Int))) fun y94 =>
        Option.bind (f334F k [y93, y94]) fun y95 =>
        some y95
      else
      Option.bind (f338F k (false, (18 : Int))) fun y96 =>
      Option.bind (f338F k ((decide (w5.2.2.2.1 > (0 : Int))), (5 : Int))) fun y97 =>
      Option.bind (f334F k [y96, y97]) fun y98 =>
      some y98)
    ((decide (y2 ≥ (0 : Int))), x.1.1, x.1.2.1, x.1.2.2, x.2.1, x.2.2, ())
noncomputable def f335L (k : Nat) : Sums := [(30, f335p0S k)]
theorem f335LS (k : Nat) : SumsOk P Go.Proofs.Tryd.f35.ntmps (f335L k) (codeOf Go.Proofs.Tryd.f35) 1 := (SumsOk.nil).cons (c := f335p0C) (by kernel_rfl) (f335p0O k)
theorem f335E (k : Nat) (x : (Int × (Int × Int)) × (Int × Int)) : evFS tab (f335T k) (f335L k) Go.Proofs.Tryd.f35.ntmps Go.Proofs.Tryd.f35.results.toList (codeOf Go.Proofs.Tryd.f35) (argsV [.agg (.pair (.int .i64) (.pair (.int .i64) (.int .i64))), .agg (.pair (.int .u8) (.int .i64))] x) [.dat (.int .i64)] = f335F k x := by kernel_rfl
theorem f335Ok (k : Nat) (x : (Int × (Int × Int)) × (Int × Int)) (y : Int) (h : f335F k x = some y) : FnOk P 35 [.agg (.pair (.int .i64) (.pair (.int .i64) (.int .i64))), .agg (.pair (.int .u8) (.int .i64))] [.dat (.int .i64)] x y :=
  evFS_sound tabOk (f335TS k) mixed Go.Proofs.Tryd.func35 (c := codeOf Go.Proofs.Tryd.f35) (by kernel_rfl) (f335LS k) ((f335E k x).trans h)
/-! ## midrange/numeric.power -/
noncomputable def f71T (k : Nat) : Table := []
theorem f71TS (k : Nat) : Sound P (f71T k) := Sound.nil
theorem f71B : HasBody P 50 := ⟨Go.Proofs.Tryd.f50, Go.Proofs.Tryd.func50, by kernel_rfl, by kernel_rfl⟩
noncomputable def f71l0H : Shape := ⟨[(3, .one (.int .i64)), (5, .one (.int .i64)), (6, .one (.int .i64))], [], 0, []⟩
noncomputable def f71l0X0 : Shape := ⟨[(3, .one (.int .i64))], [], 0, []⟩
noncomputable def f71l0N : NoteR := ⟨[3, 5, 6], [], []⟩
noncomputable def f71l0M : NoteR := ⟨[2, 3], [], []⟩
noncomputable def f71l0C : Code := firstC (codesAt 58 (codeOf Go.Proofs.Tryd.f50) 1)
noncomputable def f71l0s {R : Type} (k : Nat) (rec : Int × Int × Int × Unit → Option R) (k0 : Int × Unit → Option R) (v : Int × Int × Int × Unit) : Option R :=
  bif (decide (v.2.2.1 < v.2.1)) then
    rec ((IntKind.i64.wrap (v.1 * (10 : Int))), v.2.1, (IntKind.i64.wrap (v.2.2.1 + (1 : Int))), ())
  else
  k0 (v.1, ())
noncomputable def f71l0 {R : Type} (k : Nat) (k0 : Int × Unit → Option R) (v : Int × Int × Int × Unit) : Option R := iterS (fun rec v => f71l0s k rec k0 v) k v
noncomputable def f71l0S (k : Nat) : Sum1 := loopSum f71l0H f71l0N k (fun R rec K v => f71l0s k rec (fun w => K (.exit 0) (encSt f71l0X0 w)) v)
theorem f71l0E (k : Nat) (R : Type) (rec : St → Option R) (K : X → St → Option R) (v : f71l0H.Den) : evS tab (f71T k) Go.Proofs.Tryd.f50.ntmps [] (bodyOf f71l0C) 116 (bodyK f71l0N f71l0M rec K) (encSt f71l0H v) = f71l0s k (fun v => rec (encSt f71l0H v)) (fun w => K (.exit 0) (encSt f71l0X0 w)) v := by kernel_rfl
theorem f71l0I (k : Nat) : SumsOk P Go.Proofs.Tryd.f50.ntmps [] (bodyOf f71l0C) 116 := SumsOk.nil
theorem f71l0O (k : Nat) : SumOk P Go.Proofs.Tryd.f50.ntmps f71l0C (f71l0S k) := (show f71l0C = .loop (bodyOf f71l0C) by kernel_rfl) ▸ sum_loop tabOk (f71TS k) mixed (f71l0I k) (f71l0E k)
noncomputable def f71F (k : Nat) (x : Int) : Option (Int) :=
  f71l0 k
    (fun (w1 : Int × Unit) =>
      some w1.1)
    ((1 : Int), (mnI x (18 : Int)), (0 : Int), ())
noncomputable def f71L (k : Nat) : Sums := [(58, f71l0S k)]
theorem f71LS (k : Nat) : SumsOk P Go.Proofs.Tryd.f50.ntmps (f71L k) (codeOf Go.Proofs.Tryd.f50) 1 := (SumsOk.nil).cons (c := f71l0C) (by kernel_rfl) (f71l0O k)
theorem f71E (k : Nat) (x : Int) : evFS tab (f71T k) (f71L k) Go.Proofs.Tryd.f50.ntmps Go.Proofs.Tryd.f50.results.toList (codeOf Go.Proofs.Tryd.f50) (argsV [.dat (.int .i64)] x) [.dat (.int .i64)] = f71F k x := by kernel_rfl
theorem f71Ok (k : Nat) (x : Int) (y : Int) (h : f71F k x = some y) : FnOk P 50 [.dat (.int .i64)] [.dat (.int .i64)] x y :=
  evFS_sound tabOk (f71TS k) mixed Go.Proofs.Tryd.func50 (c := codeOf Go.Proofs.Tryd.f50) (by kernel_rfl) (f71LS k) ((f71E k x).trans h)
/-! ## midrange/numeric.CheckValue -/
noncomputable def f29T (k : Nat) : Table := [(47, entFn [.dat (.slice (.int .i64))] [.dat (.int .i64)] (f42F k)), (48, entFn [.agg (.pair (.int .i64) (.pair (.int .i64) (.int .i64)))] [.dat (.int .i64)] (f28F k)), (49, entFn [.dat .bool, .dat (.int .i64)] [.dat (.int .i64)] (f43F k)), (50, entFn [.dat (.int .i64)] [.dat (.int .i64)] (f71F k)), (51, entFn [.dat (.int .i64), .dat (.int .i64), .dat (.int .i64)] [.dat .bool] (f70F k))]
theorem f29TS (k : Nat) : Sound P (f29T k) := (((((Sound.nil).cons f70B (f70Ok k)).cons f71B (f71Ok k)).cons f43B (f43Ok k)).cons f28B (f28Ok k)).cons f42B (f42Ok k)
theorem f29B : HasBody P 25 := ⟨Go.Proofs.Tryd.f25, Go.Proofs.Tryd.func25, by kernel_rfl, by kernel_rfl⟩
noncomputable def f29F (k : Nat) (x : (Int × (Int × Int)) × (Int × ByteArray)) : Option (Int) :=
  Option.bind (f28F k (x.1.1, (x.1.2.1, x.1.2.2))) fun y1 =>
  Option.bind (f43F k ((x.1.1 == (4 : Int)), (17 : Int))) fun y2 =>
  Option.bind (f42F k [y1, y2]) fun y3 =>
  bif (y3 != (0 : Int)) then
    some y3
  else
  bif (x.1.1 == (0 : Int)) then
    Option.bind (f43F k ((x.2.1 != (0 : Int)), (5 : Int))) fun y4 =>
    Option.bind (f43F k (((x.2.2.size : Int) != x.1.2.1), (18 : Int))) fun y5 =>
    Option.bind (f42F k [y4, y5]) fun y6 =>
    some y6
  else
  Option.bind (f71F k x.1.2.1) fun y7 =>
  Option.bind (f43F k ((!strEq x.2.2 ByteArray.empty), (5 : Int))) fun y8 =>
  Option.bind (f70F k (x.2.1, (IntKind.i64.wrap (0 - (IntKind.i64.wrap (y7 - (1 : Int))))), (IntKind.i64.wrap (y7 - (1 : Int))))) fun y9 =>
  Option.bind (f43F k ((!y9), (19 : Int))) fun y10 =>
  Option.bind (f42F k [y8, y10]) fun y11 =>
  some y11
noncomputable def f29L (k : Nat) : Sums := []
theorem f29LS (k : Nat) : SumsOk P Go.Proofs.Tryd.f25.ntmps (f29L k) (codeOf Go.Proofs.Tryd.f25) 1 := SumsOk.nil
theorem f29E (k : Nat) (x : (Int × (Int × Int)) × (Int × ByteArray)) : evFS tab (f29T k) (f29L k) Go.Proofs.Tryd.f25.ntmps Go.Proofs.Tryd.f25.results.toList (codeOf Go.Proofs.Tryd.f25) (argsV [.agg (.pair (.int .i64) (.pair (.int .i64) (.int .i64))), .agg (.pair (.int .i64) .str)] x) [.dat (.int .i64)] = f29F k x := by kernel_rfl
theorem f29Ok (k : Nat) (x : (Int × (Int × Int)) × (Int × ByteArray)) (y : Int) (h : f29F k x = some y) : FnOk P 25 [.agg (.pair (.int .i64) (.pair (.int .i64) (.int .i64))), .agg (.pair (.int .i64) .str)] [.dat (.int .i64)] x y :=
  evFS_sound tabOk (f29TS k) mixed Go.Proofs.Tryd.func25 (c := codeOf Go.Proofs.Tryd.f25) (by kernel_rfl) (f29LS k) ((f29E k x).trans h)
/-! ## midrange/edit.digitsOf -/
noncomputable def f367T (k : Nat) : Table := []
theorem f367TS (k : Nat) : Sound P (f367T k) := Sound.nil
theorem f367B : HasBody P 67 := ⟨Go.Proofs.Tryd.f67, Go.Proofs.Tryd.func67, by kernel_rfl, by kernel_rfl⟩
noncomputable def f367l0H : Shape := ⟨[(5, .one (.own 0)), (6, .one (.int .i64)), (7, .one (.int .i64))], [(0, .row 5 (.int .u8) .plain)], 1, []⟩
noncomputable def f367l0X0 : Shape := ⟨[(5, .one (.own 0))], [(0, .row 5 (.int .u8) .plain)], 1, []⟩
noncomputable def f367l0N : NoteR := ⟨[5, 6, 7], [], []⟩
noncomputable def f367l0M : NoteR := ⟨[4, 5], [], []⟩
noncomputable def f367l0C : Code := firstC (codesAt 122 (codeOf Go.Proofs.Tryd.f67) 1)
noncomputable def f367l0s {R : Type} (k : Nat) (rec : Int × Int × List Int × Unit → Option R) (k0 : List Int × Unit → Option R) (v : Int × Int × List Int × Unit) : Option R :=
  bif (decide (v.2.1 ≥ (0 : Int))) then
    let t1 := (IntKind.u8.wrap (IntKind.i64.wrap ((48 : Int) + (Int.tmod v.1 (10 : Int)))))
    bif ((decide ((0 : Int) ≤ v.2.1)) && (decide (v.2.1 < (v.2.2.1.length : Int)))) then
    rec ((IntKind.i64.wrap (Int.tdiv v.1 (10 : Int))), (IntKind.i64.wrap (v.2.1 - (1 : Int))), (v.2.2.1.set (Int.toNat v.2.1) t1), ())
    else none
  else
  k0 (v.2.2.1, ())
noncomputable def f367l0 {R : Type} (k : Nat) (k0 : List Int × Unit → Option R) (v : Int × Int × List Int × Unit) : Option R := iterS (fun rec v => f367l0s k rec k0 v) k v
noncomputable def f367l0S (k : Nat) : Sum1 := loopSum f367l0H f367l0N k (fun R rec K v => f367l0s k rec (fun w => K (.exit 0) (encSt f367l0X0 w)) v)
theorem f367l0E (k : Nat) (R : Type) (rec : St → Option R) (K : X → St → Option R) (v : f367l0H.Den) : evS tab (f367T k) Go.Proofs.Tryd.f67.ntmps [] (bodyOf f367l0C) 244 (bodyK f367l0N f367l0M rec K) (encSt f367l0H v) = f367l0s k (fun v => rec (encSt f367l0H v)) (fun w => K (.exit 0) (encSt f367l0X0 w)) v := by kernel_rfl
theorem f367l0I (k : Nat) : SumsOk P Go.Proofs.Tryd.f67.ntmps [] (bodyOf f367l0C) 244 := SumsOk.nil
theorem f367l0O (k : Nat) : SumOk P Go.Proofs.Tryd.f67.ntmps f367l0C (f367l0S k) := (show f367l0C = .loop (bodyOf f367l0C) by kernel_rfl) ▸ sum_loop tabOk (f367TS k) mixed (f367l0I k) (f367l0E k)
noncomputable def f367F (k : Nat) (x : (Int × (Int × Int)) × (Int × ByteArray)) : Option (ByteArray) :=
  bif (((decide ((0 : Int) ≤ x.1.2.1)) && (decide ((x.1.2.1 * 1) ≤ (140737488355328 : Int)))) && (decide (x.1.2.1 ≤ (281474976710656 : Int)))) then
  f367l0 k
    (fun (w2 : List Int × Unit) =>
      some (strOfNums w2.1))
    ((mxI x.2.1 (IntKind.i64.wrap (0 - x.2.1))), (IntKind.i64.wrap (x.1.2.1 - (1 : Int))), (List.replicate (Int.toNat x.1.2.1) (0 : Int)), ())
  else none
noncomputable def f367L (k : Nat) : Sums := [(122, f367l0S k)]
theorem f367LS (k : Nat) : SumsOk P Go.Proofs.Tryd.f67.ntmps (f367L k) (codeOf Go.Proofs.Tryd.f67) 1 := (SumsOk.nil).cons (c := f367l0C) (by kernel_rfl) (f367l0O k)
theorem f367E (k : Nat) (x : (Int × (Int × Int)) × (Int × ByteArray)) : evFS tab (f367T k) (f367L k) Go.Proofs.Tryd.f67.ntmps Go.Proofs.Tryd.f67.results.toList (codeOf Go.Proofs.Tryd.f67) (argsV [.agg (.pair (.int .i64) (.pair (.int .i64) (.int .i64))), .agg (.pair (.int .i64) .str)] x) [.dat .str] = f367F k x := by kernel_rfl
theorem f367Ok (k : Nat) (x : (Int × (Int × Int)) × (Int × ByteArray)) (y : ByteArray) (h : f367F k x = some y) : FnOk P 67 [.agg (.pair (.int .i64) (.pair (.int .i64) (.int .i64))), .agg (.pair (.int .i64) .str)] [.dat .str] x y :=
  evFS_sound tabOk (f367TS k) mixed Go.Proofs.Tryd.func67 (c := codeOf Go.Proofs.Tryd.f67) (by kernel_rfl) (f367LS k) ((f367E k x).trans h)
/-! ## midrange/edit.date -/
noncomputable def f368T (k : Nat) : Table := []
theorem f368TS (k : Nat) : Sound P (f368T k) := Sound.nil
theorem f368B : HasBody P 68 := ⟨Go.Proofs.Tryd.f68, Go.Proofs.Tryd.func68, by kernel_rfl, by kernel_rfl⟩
noncomputable def f368p0H : Shape := ⟨[(0, .one (.str)), (3, .one (.str))], [], 0, []⟩
noncomputable def f368p0X0 : Shape := ⟨[(3, .one (.str))], [], 0, []⟩
noncomputable def f368p0N : NoteR := ⟨[0, 3], [], []⟩
noncomputable def f368p0M : NoteR := ⟨[2, 3], [], []⟩
noncomputable def f368p0C : Code := firstC (codesAt 14 (codeOf Go.Proofs.Tryd.f68) 1)
noncomputable def f368p0 {R : Type} (k : Nat) (k0 : ByteArray × Unit → Option R) (v : ByteArray × ByteArray × Unit) : Option R :=
  bif (decide ((v.1.size : Int) > (4 : Int))) then
    bif (sliceBds (0 : Int) (5 : Int) (v.2.1.size : Int)) then
    bif (decide ((v.2.1.extract 0 5).size + (⟨#[47]⟩ : ByteArray).size ≤ 9223372036854775807)) then
    bif (sliceBds (5 : Int) (v.2.1.size : Int) (v.2.1.size : Int)) then
    bif (decide (((v.2.1.extract 0 5) ++ (⟨#[47]⟩ : ByteArray)).size + (v.2.1.extract 5 (Int.toNat (v.2.1.size : Int))).size ≤ 9223372036854775807)) then
    let t2 := (((v.2.1.extract 0 5) ++ (⟨#[47]⟩ : ByteArray)) ++ (v.2.1.extract 5 (Int.toNat (v.2.1.size : Int))))
    k0 (t2, ())
    else none
    else none
    else none
    else none
  else
  k0 (v.2.1, ())
noncomputable def f368p0S (k : Nat) : Sum1 := partSum f368p0H f368p0N (fun R K v => f368p0 k (fun w => K .normal (encSt f368p0X0 w)) v)
theorem f368p0E (k : Nat) (R : Type) (K : X → St → Option R) (v : f368p0H.Den) : evS tab (f368T k) Go.Proofs.Tryd.f68.ntmps [] f368p0C 14 (partK f368p0M K) (encSt f368p0H v) = f368p0 k (fun w => K .normal (encSt f368p0X0 w)) v := by kernel_rfl
theorem f368p0I (k : Nat) : SumsOk P Go.Proofs.Tryd.f68.ntmps [] f368p0C 14 := SumsOk.nil
theorem f368p0O (k : Nat) : SumOk P Go.Proofs.Tryd.f68.ntmps f368p0C (f368p0S k) := sum_part tabOk (f368TS k) mixed (f368p0I k) (f368p0E k)
noncomputable def f368p1H : Shape := ⟨[(3, .one (.str))], [], 0, []⟩
noncomputable def f368p1X0 : Shape := ⟨[(3, .one (.str))], [], 0, []⟩
noncomputable def f368p1N : NoteR := ⟨[3], [], []⟩
noncomputable def f368p1M : NoteR := ⟨[2, 3], [], []⟩
noncomputable def f368p1C : Code := firstC (codesAt 30 (codeOf Go.Proofs.Tryd.f68) 1)
noncomputable def f368p1 {R : Type} (k : Nat) (k0 : ByteArray × Unit → Option R) (v : ByteArray × Unit) : Option R :=
  bif (decide ((0 : Int) < (v.1.size : Int))) then
  bif ((bt v.1 (0 : Int)) == (48 : Int)) then
    bif (sliceBds (1 : Int) (v.1.size : Int) (v.1.size : Int)) then
    bif (decide ((⟨#[32]⟩ : ByteArray).size + (v.1.extract 1 (Int.toNat (v.1.size : Int))).size ≤ 9223372036854775807)) then
    let t4 := ((⟨#[32]⟩ : ByteArray) ++ (v.1.extract 1 (Int.toNat (v.1.size : Int))))
    k0 (t4, ())
    else none
    else none
  else
  k0 (v.1, ())
  else none
noncomputable def f368p1S (k : Nat) : Sum1 := partSum f368p1H f368p1N (fun R K v => f368p1 k (fun w => K .normal (encSt f368p1X0 w)) v)
theorem f368p1E (k : Nat) (R : Type) (K : X → St → Option R) (v : f368p1H.Den) : evS tab (f368T k) Go.Proofs.Tryd.f68.ntmps [] f368p1C 30 (partK f368p1M K) (encSt f368p1H v) = f368p1 k (fun w => K .normal (encSt f368p1X0 w)) v := by kernel_rfl
theorem f368p1I (k : Nat) : SumsOk P Go.Proofs.Tryd.f68.ntmps [] f368p1C 30 := SumsOk.nil
theorem f368p1O (k : Nat) : SumOk P Go.Proofs.Tryd.f68.ntmps f368p1C (f368p1S k) := sum_part tabOk (f368TS k) mixed (f368p1I k) (f368p1E k)
noncomputable def f368F (k : Nat) (x : ByteArray) : Option (ByteArray) :=
  bif (sliceBds (0 : Int) (2 : Int) (x.size : Int)) then
  bif (decide ((x.extract 0 2).size + (⟨#[47]⟩ : ByteArray).size ≤ 9223372036854775807)) then
  bif (sliceBds (2 : Int) (x.size : Int) (x.size : Int)) then
  bif (decide (((x.extract 0 2) ++ (⟨#[47]⟩ : ByteArray)).size + (x.extract 2 (Int.toNat (x.size : Int))).size ≤ 9223372036854775807)) then
  let t1 := (((x.extract 0 2) ++ (⟨#[47]⟩ : ByteArray)) ++ (x.extract 2 (Int.toNat (x.size : Int))))
  f368p0 k
    (fun (w3 : ByteArray × Unit) =>
      f368p1 k
        (fun (w5 : ByteArray × Unit) =>
          some w5.1)
        (w3.1, ()))
    (x, t1, ())
  else none
  else none
  else none
  else none
noncomputable def f368L (k : Nat) : Sums := [(14, f368p0S k), (30, f368p1S k)]
theorem f368LS (k : Nat) : SumsOk P Go.Proofs.Tryd.f68.ntmps (f368L k) (codeOf Go.Proofs.Tryd.f68) 1 := ((SumsOk.nil).cons (c := f368p1C) (by kernel_rfl) (f368p1O k)).cons (c := f368p0C) (by kernel_rfl) (f368p0O k)
theorem f368E (k : Nat) (x : ByteArray) : evFS tab (f368T k) (f368L k) Go.Proofs.Tryd.f68.ntmps Go.Proofs.Tryd.f68.results.toList (codeOf Go.Proofs.Tryd.f68) (argsV [.dat .str] x) [.dat .str] = f368F k x := by kernel_rfl
theorem f368Ok (k : Nat) (x : ByteArray) (y : ByteArray) (h : f368F k x = some y) : FnOk P 68 [.dat .str] [.dat .str] x y :=
  evFS_sound tabOk (f368TS k) mixed Go.Proofs.Tryd.func68 (c := codeOf Go.Proofs.Tryd.f68) (by kernel_rfl) (f368LS k) ((f368E k x).trans h)
/-! ## midrange/edit.blanks -/
noncomputable def f354T (k : Nat) : Table := [(74, entFn [.dat .str, .dat (.int .i64)] [.dat .str] (f73F k))]
theorem f354TS (k : Nat) : Sound P (f354T k) := (Sound.nil).cons f73B (f73Ok k)
theorem f354B : HasBody P 54 := ⟨Go.Proofs.Tryd.f54, Go.Proofs.Tryd.func54, by kernel_rfl, by kernel_rfl⟩
noncomputable def f354F (k : Nat) (x : Int) : Option (ByteArray) :=
  Option.bind (f73F k ((⟨#[32]⟩ : ByteArray), x)) fun y1 =>
  some y1
noncomputable def f354L (k : Nat) : Sums := []
theorem f354LS (k : Nat) : SumsOk P Go.Proofs.Tryd.f54.ntmps (f354L k) (codeOf Go.Proofs.Tryd.f54) 1 := SumsOk.nil
theorem f354E (k : Nat) (x : Int) : evFS tab (f354T k) (f354L k) Go.Proofs.Tryd.f54.ntmps Go.Proofs.Tryd.f54.results.toList (codeOf Go.Proofs.Tryd.f54) (argsV [.dat (.int .i64)] x) [.dat .str] = f354F k x := by kernel_rfl
theorem f354Ok (k : Nat) (x : Int) (y : ByteArray) (h : f354F k x = some y) : FnOk P 54 [.dat (.int .i64)] [.dat .str] x y :=
  evFS_sound tabOk (f354TS k) mixed Go.Proofs.Tryd.func54 (c := codeOf Go.Proofs.Tryd.f54) (by kernel_rfl) (f354LS k) ((f354E k x).trans h)
/-! ## midrange/edit.suppressed -/
noncomputable def f369T (k : Nat) : Table := [(54, entFn [.dat (.int .i64)] [.dat .str] (f354F k)), (80, entFn [.dat .str, .dat .str] [.dat (.int .i64)] (f380F k))]
theorem f369TS (k : Nat) : Sound P (f369T k) := ((Sound.nil).cons f380B (f380Ok k)).cons f354B (f354Ok k)
theorem f369B : HasBody P 69 := ⟨Go.Proofs.Tryd.f69, Go.Proofs.Tryd.func69, by kernel_rfl, by kernel_rfl⟩
noncomputable def f369p0H : Shape := ⟨[(0, .one (.str)), (1, .one (.int .i64)), (5, .one (.int .i64))], [], 0, []⟩
noncomputable def f369p0X0 : Shape := ⟨[(0, .one (.str)), (5, .one (.int .i64))], [], 0, []⟩
noncomputable def f369p0N : NoteR := ⟨[0, 1, 5], [], []⟩
noncomputable def f369p0M : NoteR := ⟨[0, 4, 5], [], []⟩
noncomputable def f369p0C : Code := firstC (codesAt 14 (codeOf Go.Proofs.Tryd.f69) 1)
noncomputable def f369p0 {R : Type} (k : Nat) (k0 : ByteArray × Int × Unit → Option R) (v : ByteArray × Int × Int × Unit) : Option R :=
  bif (decide (v.2.2.1 < (0 : Int))) then
    k0 (v.1, v.2.1, ())
  else
  bif (decide (v.2.2.1 > v.2.1)) then
    k0 (v.1, v.2.1, ())
  else
  k0 (v.1, v.2.2.1, ())
noncomputable def f369p0S (k : Nat) : Sum1 := partSum f369p0H f369p0N (fun R K v => f369p0 k (fun w => K .normal (encSt f369p0X0 w)) v)
theorem f369p0E (k : Nat) (R : Type) (K : X → St → Option R) (v : f369p0H.Den) : evS tab (f369T k) Go.Proofs.Tryd.f69.ntmps [] f369p0C 14 (partK f369p0M K) (encSt f369p0H v) = f369p0 k (fun w => K .normal (encSt f369p0X0 w)) v := by kernel_rfl
theorem f369p0I (k : Nat) : SumsOk P Go.Proofs.Tryd.f69.ntmps [] f369p0C 14 := SumsOk.nil
theorem f369p0O (k : Nat) : SumOk P Go.Proofs.Tryd.f69.ntmps f369p0C (f369p0S k) := sum_part tabOk (f369TS k) mixed (f369p0I k) (f369p0E k)
noncomputable def f369F (k : Nat) (x : ByteArray × Int) : Option (ByteArray) :=
  Option.bind (f380F k (x.1, (⟨#[49, 50, 51, 52, 53, 54, 55, 56, 57]⟩ : ByteArray))) fun y1 =>
  f369p0 k
    (fun (w2 : ByteArray × Int × Unit) =>
      Option.bind (f354F k w2.2.1) fun y3 =>
      bif (sliceBds w2.2.1 (w2.1.size : Int) (w2.1.size : Int)) then
      bif (decide (y3.size + (w2.1.extract (Int.toNat w2.2.1) (Int.toNat (w2.1.size : Int))).size ≤ 9223372036854775807)) then
      let t4 := (y3 ++ (w2.1.extract (Int.toNat w2.2.1) (Int.toNat (w2.1.size : Int))))
      some t4
      else none
      else none)
    (x.1, x.2, y1, ())
noncomputable def f369L (k : Nat) : Sums := [(14, f369p0S k)]
theorem f369LS (k : Nat) : SumsOk P Go.Proofs.Tryd.f69.ntmps (f369L k) (codeOf Go.Proofs.Tryd.f69) 1 := (SumsOk.nil).cons (c := f369p0C) (by kernel_rfl) (f369p0O k)
theorem f369E (k : Nat) (x : ByteArray × Int) : evFS tab (f369T k) (f369L k) Go.Proofs.Tryd.f69.ntmps Go.Proofs.Tryd.f69.results.toList (codeOf Go.Proofs.Tryd.f69) (argsV [.dat .str, .dat (.int .i64)] x) [.dat .str] = f369F k x := by kernel_rfl
theorem f369Ok (k : Nat) (x : ByteArray × Int) (y : ByteArray) (h : f369F k x = some y) : FnOk P 69 [.dat .str, .dat (.int .i64)] [.dat .str] x y :=
  evFS_sound tabOk (f369TS k) mixed Go.Proofs.Tryd.func69 (c := codeOf Go.Proofs.Tryd.f69) (by kernel_rfl) (f369LS k) ((f369E k x).trans h)
/-! ## (*strings.Builder).WriteByte, handed what it may write -/
noncomputable def f386v0I : Shape := ⟨[(0, .one (.ptr 0 0)), (1, .one (.int .u8))], [(0, .var 115 [.nil .ptr, .emp])], 1, []⟩
noncomputable def f386v0U : Shape := ⟨[(0, .one (.nil .iface))], [(0, .var 115 [.ptr 0 0, .own 1]), (1, .row 5 (.int .u8) .plain)], 2, []⟩
noncomputable def f386v0T (k : Nat) : Table := [(107, bcE)]
theorem f386v0TS (k : Nat) : Sound P (f386v0T k) := (Sound.nil).consE f113B bc_ok
theorem f386B : HasBody P 86 := ⟨Go.Proofs.Tryd.f86, Go.Proofs.Tryd.func86, by kernel_rfl, by kernel_rfl⟩
noncomputable def f386v0F (k : Nat) (x : Int × Unit) : Option (List Int × Unit) :=
  bif (decide ((([] : List Int).length + [x.1].length) * 1 ≤ 140737488355328) && decide (([] : List Int).length + [x.1].length ≤ 9223372036854775807)) then
  some (([] ++ [x.1]), ())
  else none
noncomputable def f386v0L (k : Nat) : Sums := []
theorem f386v0LS (k : Nat) : SumsOk P Go.Proofs.Tryd.f86.ntmps (f386v0L k) (codeOf Go.Proofs.Tryd.f86) 1 := SumsOk.nil
theorem f386v0E (k : Nat) (x : f386v0I.Den) : evG tab (f386v0T k) (f386v0L k) Go.Proofs.Tryd.f86.ntmps Go.Proofs.Tryd.f86.results.toList (codeOf Go.Proofs.Tryd.f86) f386v0I x [.dat .bool] f386v0U = f386v0F k x := by kernel_rfl
theorem f386v0Ok (k : Nat) (x : f386v0I.Den) (y : f386v0U.Den) (h : f386v0F k x = some y) : GnOk P 86 f386v0I f386v0U x y :=
  evG_sound tabOk (f386v0TS k) mixed Go.Proofs.Tryd.func86 (c := codeOf Go.Proofs.Tryd.f86) (by kernel_rfl) (f386v0LS k) ((f386v0E k x).trans h)
/-! ## (*strings.Builder).WriteByte, handed what it may write -/
noncomputable def f386v1I : Shape := ⟨[(0, .one (.ptr 0 0)), (1, .one (.int .u8))], [(0, .var 115 [.ptr 0 0, .own 1]), (1, .row 5 (.int .u8) .plain)], 2, []⟩
noncomputable def f386v1U : Shape := ⟨[(0, .one (.nil .iface))], [(0, .var 115 [.ptr 0 0, .own 2]), (2, .row 5 (.int .u8) .plain)], 3, []⟩
noncomputable def f386v1T (k : Nat) : Table := [(107, bcE)]
theorem f386v1TS (k : Nat) : Sound P (f386v1T k) := (Sound.nil).consE f113B bc_ok
noncomputable def f386v1F (k : Nat) (x : Int × List Int × Unit) : Option (List Int × Unit) :=
  bif (decide ((x.2.1.length + [x.1].length) * 1 ≤ 140737488355328) && decide (x.2.1.length + [x.1].length ≤ 9223372036854775807)) then
  some ((x.2.1 ++ [x.1]), ())
  else none
noncomputable def f386v1L (k : Nat) : Sums := []
theorem f386v1LS (k : Nat) : SumsOk P Go.Proofs.Tryd.f86.ntmps (f386v1L k) (codeOf Go.Proofs.Tryd.f86) 1 := SumsOk.nil
theorem f386v1E (k : Nat) (x : f386v1I.Den) : evG tab (f386v1T k) (f386v1L k) Go.Proofs.Tryd.f86.ntmps Go.Proofs.Tryd.f86.results.toList (codeOf Go.Proofs.Tryd.f86) f386v1I x [.dat .bool] f386v1U = f386v1F k x := by kernel_rfl
theorem f386v1Ok (k : Nat) (x : f386v1I.Den) (y : f386v1U.Den) (h : f386v1F k x = some y) : GnOk P 86 f386v1I f386v1U x y :=
  evG_sound tabOk (f386v1TS k) mixed Go.Proofs.Tryd.func86 (c := codeOf Go.Proofs.Tryd.f86) (by kernel_rfl) (f386v1LS k) ((f386v1E k x).trans h)
/-! ## midrange/edit.whole -/
noncomputable def f355T (k : Nat) : Table := [(86, entOr (entG f386v1I f386v1U (f386v1F k)) (entG f386v0I f386v0U (f386v0F k))), (87, bsE)]
theorem f355TS (k : Nat) : Sound P (f355T k) := ((Sound.nil).consE f105B bs_ok).consE f386B (entOr_ok (entG_ok (f386v1Ok k)) (entG_ok (f386v0Ok k)))
theorem f355B : HasBody P 55 := ⟨Go.Proofs.Tryd.f55, Go.Proofs.Tryd.func55, by kernel_rfl, by kernel_rfl⟩
noncomputable def f355p0H : Shape := ⟨[(0, .one (.str)), (1, .one (.bool)), (5, .one (.ptr 0 0)), (6, .one (.int .i64)), (8, .one (.int .i64)), (9, .one (.int .i64))], [(0, .var 115 [.nil .ptr, .emp])], 1, []⟩
noncomputable def f355p0X0 : Shape := ⟨[(0, .one (.str)), (1, .one (.bool)), (5, .one (.ptr 0 0)), (6, .one (.int .i64)), (8, .one (.int .i64)), (9, .one (.int .i64))], [(0, .var 115 [.ptr 0 0, .own 1]), (1, .row 5 (.int .u8) .plain)], 2, []⟩
noncomputable def f355p0X1 : Shape := ⟨[(0, .one (.str)), (1, .one (.bool)), (5, .one (.ptr 0 0)), (6, .one (.int .i64)), (8, .one (.int .i64)), (9, .one (.int .i64))], [(0, .var 115 [.nil .ptr, .emp])], 1, []⟩
noncomputable def f355p0N : NoteR := ⟨[0, 1, 5, 6, 8, 9], [], []⟩
noncomputable def f355p0M : NoteR := ⟨[0, 1, 4, 5, 6, 8, 9], [], []⟩
noncomputable def f355p0C : Code := firstC (codesAt 7474 (codeOf Go.Proofs.Tryd.f55) 1)
noncomputable def f355p0 {R : Type} (k : Nat) (k0 : ByteArray × Bool × Int × Int × Int × List Int × Unit → Option R) (k1 : ByteArray × Bool × Int × Int × Int × Unit → Option R) (v : ByteArray × Bool × Int × Int × Int × Unit) : Option R :=
  bif v.2.1 then
    bif (decide (v.2.2.1 > (0 : Int))) then
      let t1 := ((Int.tmod (IntKind.i64.wrap ((v.1.size : Int) - v.2.2.1)) (3 : Int)) == (0 : Int))
      bif t1 then
        Option.bind (f386v0F k ((44 : Int), ())) fun y2 =>
        k0 (v.1, v.2.1, v.2.2.1, v.2.2.2.1, v.2.2.2.2.1, y2.1, ())
      else
      k1 (v.1, v.2.1, v.2.2.1, v.2.2.2.1, v.2.2.2.2.1, ())
    else
    k1 (v.1, v.2.1, v.2.2.1, v.2.2.2.1, v.2.2.2.2.1, ())
  else
  k1 (v.1, v.2.1, v.2.2.1, v.2.2.2.1, v.2.2.2.2.1, ())
noncomputable def f355p0S (k : Nat) : Sum1 := partSum f355p0H f355p0N (fun R K v => f355p0 k (fun w => K .normal (encSt f355p0X0 w)) (fun w => K .normal (encSt f355p0X1 w)) v)
theorem f355p0E (k : Nat) (R : Type) (K : X → St → Option R) (v : f355p0H.Den) : evS tab (f355T k) Go.Proofs.Tryd.f55.ntmps [] f355p0C 7474 (partK f355p0M K) (encSt f355p0H v) = f355p0 k (fun w => K .normal (encSt f355p0X0 w)) (fun w => K .normal (encSt f355p0X1 w)) v := by kernel_rfl
theorem f355p0I (k : Nat) : SumsOk P Go.Proofs.Tryd.f55.ntmps [] f355p0C 7474 := SumsOk.nil
theorem f355p0O (k : Nat) : SumOk P Go.Proofs.Tryd.f55.ntmps f355p0C (f355p0S k) := sum_part tabOk (f355TS k) mixed (f355p0I k) (f355p0E k)
noncomputable def f355p1H : Shape := ⟨[(0, .one (.str)), (1, .one (.bool)), (5, .one (.ptr 0 0)), (8, .one (.int .i64)), (9, .one (.int .i64))], [(0, .var 115 [.nil .ptr, .emp])], 1, []⟩
noncomputable def f355p1X0 : Shape := ⟨[(0, .one (.str)), (1, .one (.bool)), (5, .one (.ptr 0 0)), (8, .one (.int .i64)), (9, .one (.int .i64))], [(0, .var 115 [.ptr 0 0, .own 1]), (1, .row 5 (.int .u8) .plain)], 2, []⟩
noncomputable def f355p1N : NoteR := ⟨[0, 1, 5, 8, 9], [], []⟩
noncomputable def f355p1M : NoteR := ⟨[0, 1, 4, 5, 8, 9], [], []⟩
noncomputable def f355p1C : Code := firstC (codesAt 934 (codeOf Go.Proofs.Tryd.f55) 1)
noncomputable def f355p1 {R : Type} (k : Nat) (k0 : ByteArray × Bool × Int × Int × List Int × Unit → Option R) (v : ByteArray × Bool × Int × Int × Unit) : Option R :=
  f355p0 k
    (fun (w3 : ByteArray × Bool × Int × Int × Int × List Int × Unit) =>
      bif ((decide ((0 : Int) ≤ w3.2.2.1)) && (decide (w3.2.2.1 < (w3.1.size : Int)))) then
      Option.bind (f386v1F k ((bt w3.1 w3.2.2.1), w3.2.2.2.2.2.1, ())) fun y4 =>
      k0 (w3.1, w3.2.1, w3.2.2.2.1, w3.2.2.2.2.1, y4.1, ())
      else none)
    (fun (w5 : ByteArray × Bool × Int × Int × Int × Unit) =>
      bif ((decide ((0 : Int) ≤ w5.2.2.1)) && (decide (w5.2.2.1 < (w5.1.size : Int)))) then
      Option.bind (f386v0F k ((bt w5.1 w5.2.2.1), ())) fun y6 =>
      k0 (w5.1, w5.2.1, w5.2.2.2.1, w5.2.2.2.2.1, y6.1, ())
      else none)
    (v.1, v.2.1, v.2.2.2.1, v.2.2.1, v.2.2.2.1, ())
noncomputable def f355p1S (k : Nat) : Sum1 := partSum f355p1H f355p1N (fun R K v => f355p1 k (fun w => K .normal (encSt f355p1X0 w)) v)
theorem f355p1E (k : Nat) (R : Type) (K : X → St → Option R) (v : f355p1H.Den) : evS tab (f355T k) Go.Proofs.Tryd.f55.ntmps [(7474, f355p0S k)] f355p1C 934 (partK f355p1M K) (encSt f355p1H v) = f355p1 k (fun w => K .normal (encSt f355p1X0 w)) v := by kernel_rfl
theorem f355p1I (k : Nat) : SumsOk P Go.Proofs.Tryd.f55.ntmps [(7474, f355p0S k)] f355p1C 934 := (SumsOk.nil).cons (c := f355p0C) (by kernel_rfl) (f355p0O k)
theorem f355p1O (k : Nat) : SumOk P Go.Proofs.Tryd.f55.ntmps f355p1C (f355p1S k) := sum_part tabOk (f355TS k) mixed (f355p1I k) (f355p1E k)
noncomputable def f355p2H : Shape := ⟨[(0, .one (.str)), (1, .one (.bool)), (5, .one (.ptr 0 0)), (6, .one (.int .i64)), (8, .one (.int .i64)), (9, .one (.int .i64))], [(0, .var 115 [.ptr 0 0, .own 1]), (1, .row 5 (.int .u8) .plain)], 2, []⟩
noncomputable def f355p2X0 : Shape := ⟨[(0, .one (.str)), (1, .one (.bool)), (5, .one (.ptr 0 0)), (6, .one (.int .i64)), (8, .one (.int .i64)), (9, .one (.int .i64))], [(0, .var 115 [.ptr 0 0, .own 1]), (1, .row 5 (.int .u8) .plain)], 2, []⟩
noncomputable def f355p2N : NoteR := ⟨[0, 1, 5, 6, 8, 9], [], []⟩
noncomputable def f355p2M : NoteR := ⟨[0, 1, 4, 5, 6, 8, 9], [], []⟩
noncomputable def f355p2C : Code := firstC (codesAt 7474 (codeOf Go.Proofs.Tryd.f55) 1)
noncomputable def f355p2 {R : Type} (k : Nat) (k0 : ByteArray × Bool × Int × Int × Int × List Int × Unit → Option R) (v : ByteArray × Bool × Int × Int × Int × List Int × Unit) : Option R :=
  bif v.2.1 then
    bif (decide (v.2.2.1 > (0 : Int))) then
      let t8 := ((Int.tmod (IntKind.i64.wrap ((v.1.size : Int) - v.2.2.1)) (3 : Int)) == (0 : Int))
      bif t8 then
        Option.bind (f386v1F k ((44 : Int), v.2.2.2.2.2.1, ())) fun y9 =>
        k0 (v.1, v.2.1, v.2.2.1, v.2.2.2.1, v.2.2.2.2.1, y9.1, ())
      else
      k0 (v.1, v.2.1, v.2.2.1, v.2.2.2.1, v.2.2.2.2.1, v.2.2.2.2.2.1, ())
    else
    k0 (v.1, v.2.1, v.2.2.1, v.2.2.2.1, v.2.2.2.2.1, v.2.2.2.2.2.1, ())
  else
  k0 (v.1, v.2.1, v.2.2.1, v.2.2.2.1, v.2.2.2.2.1, v.2.2.2.2.2.1, ())
noncomputable def f355p2S (k : Nat) : Sum1 := part2Sum f355p2H f355p2N (f355p0S k) (fun R K v => f355p2 k (fun w => K .normal (encSt f355p2X0 w)) v)
theorem f355p2E (k : Nat) (R : Type) (K : X → St → Option R) (v : f355p2H.Den) : evS tab (f355T k) Go.Proofs.Tryd.f55.ntmps [] f355p2C 7474 (partK f355p2M K) (encSt f355p2H v) = f355p2 k (fun w => K .normal (encSt f355p2X0 w)) v := by kernel_rfl
theorem f355p2I (k : Nat) : SumsOk P Go.Proofs.Tryd.f55.ntmps [] f355p2C 7474 := SumsOk.nil
theorem f355p2O (k : Nat) : SumOk P Go.Proofs.Tryd.f55.ntmps f355p2C (f355p2S k) := part2_ok tabOk (f355TS k) mixed (f355p2I k) ((show f355p0C = f355p2C by kernel_rfl) ▸ f355p0O k) (f355p2E k)
noncomputable def f355p3H : Shape := ⟨[(0, .one (.str)), (1, .one (.bool)), (5, .one (.ptr 0 0)), (8, .one (.int .i64)), (9, .one (.int .i64))], [(0, .var 115 [.ptr 0 0, .own 1]), (1, .row 5 (.int .u8) .plain)], 2, []⟩
noncomputable def f355p3X0 : Shape := ⟨[(0, .one (.str)), (1, .one (.bool)), (5, .one (.ptr 0 0)), (8, .one (.int .i64)), (9, .one (.int .i64))], [(0, .var 115 [.ptr 0 0, .own 1]), (1, .row 5 (.int .u8) .plain)], 2, []⟩
noncomputable def f355p3N : NoteR := ⟨[0, 1, 5, 8, 9], [], []⟩
noncomputable def f355p3M : NoteR := ⟨[0, 1, 4, 5, 8, 9], [], []⟩
noncomputable def f355p3C : Code := firstC (codesAt 934 (codeOf Go.Proofs.Tryd.f55) 1)
noncomputable def f355p3 {R : Type} (k : Nat) (k0 : ByteArray × Bool × Int × Int × List Int × Unit → Option R) (v : ByteArray × Bool × Int × Int × List Int × Unit) : Option R :=
  f355p2 k
    (fun (w10 : ByteArray × Bool × Int × Int × Int × List Int × Unit) =>
      bif ((decide ((0 : Int) ≤ w10.2.2.1)) && (decide (w10.2.2.1 < (w10.1.size : Int)))) then
      Option.bind (f386v1F k ((bt w10.1 w10.2.2.1), w10.2.2.2.2.2.1, ())) fun y11 =>
      k0 (w10.1, w10.2.1, w10.2.2.2.1, w10.2.2.2.2.1, y11.1, ())
      else none)
    (v.1, v.2.1, v.2.2.2.1, v.2.2.1, v.2.2.2.1, v.2.2.2.2.1, ())
noncomputable def f355p3S (k : Nat) : Sum1 := part2Sum f355p3H f355p3N (f355p1S k) (fun R K v => f355p3 k (fun w => K .normal (encSt f355p3X0 w)) v)
theorem f355p3E (k : Nat) (R : Type) (K : X → St → Option R) (v : f355p3H.Den) : evS tab (f355T k) Go.Proofs.Tryd.f55.ntmps [(7474, f355p2S k)] f355p3C 934 (partK f355p3M K) (encSt f355p3H v) = f355p3 k (fun w => K .normal (encSt f355p3X0 w)) v := by kernel_rfl
theorem f355p3I (k : Nat) : SumsOk P Go.Proofs.Tryd.f55.ntmps [(7474, f355p2S k)] f355p3C 934 := (SumsOk.nil).cons (c := f355p2C) (by kernel_rfl) (f355p2O k)
theorem f355p3O (k : Nat) : SumOk P Go.Proofs.Tryd.f55.ntmps f355p3C (f355p3S k) := part2_ok tabOk (f355TS k) mixed (f355p3I k) ((show f355p1C = f355p3C by kernel_rfl) ▸ f355p1O k) (f355p3E k)
noncomputable def f355l4H : Shape := ⟨[(0, .one (.str)), (1, .one (.bool)), (5, .one (.ptr 0 0)), (8, .one (.int .i64)), (9, .one (.int .i64))], [(0, .var 115 [.ptr 0 0, .own 1]), (1, .row 5 (.int .u8) .plain)], 2, []⟩
noncomputable def f355l4X0 : Shape := ⟨[(5, .one (.ptr 0 0))], [(0, .var 115 [.ptr 0 0, .own 1]), (1, .row 5 (.int .u8) .plain)], 2, []⟩
noncomputable def f355l4N : NoteR := ⟨[0, 1, 5, 8, 9], [], []⟩
noncomputable def f355l4M : NoteR := ⟨[4, 5], [], []⟩
noncomputable def f355l4C : Code := firstC (codesAt 58 (codeOf Go.Proofs.Tryd.f55) 1)
noncomputable def f355l4s {R : Type} (k : Nat) (rec : ByteArray × Bool × Int × Int × List Int × Unit → Option R) (k0 : List Int × Unit → Option R) (v : ByteArray × Bool × Int × Int × List Int × Unit) : Option R :=
  bif (decide (v.2.2.2.1 < v.2.2.1)) then
    f355p3 k
      (fun (w12 : ByteArray × Bool × Int × Int × List Int × Unit) =>
        rec (w12.1, w12.2.1, w12.2.2.1, (IntKind.i64.wrap (w12.2.2.2.1 + (1 : Int))), w12.2.2.2.2.1, ()))
      (v.1, v.2.1, v.2.2.1, v.2.2.2.1, v.2.2.2.2.1, ())
  else
  k0 (v.2.2.2.2.1, ())
noncomputable def f355l4 {R : Type} (k : Nat) (k0 : List Int × Unit → Option R) (v : ByteArray × Bool × Int × Int × List Int × Unit) : Option R := iterS (fun rec v => f355l4s k rec k0 v) k v
noncomputable def f355l4S (k : Nat) : Sum1 := loopSum f355l4H f355l4N k (fun R rec K v => f355l4s k rec (fun w => K (.exit 0) (encSt f355l4X0 w)) v)
theorem f355l4E (k : Nat) (R : Type) (rec : St → Option R) (K : X → St → Option R) (v : f355l4H.Den) : evS tab (f355T k) Go.Proofs.Tryd.f55.ntmps [(7474, f355p2S k), (934, f355p3S k)] (bodyOf f355l4C) 116 (bodyK f355l4N f355l4M rec K) (encSt f355l4H v) = f355l4s k (fun v => rec (encSt f355l4H v)) (fun w => K (.exit 0) (encSt f355l4X0 w)) v := by kernel_rfl
theorem f355l4I (k : Nat) : SumsOk P Go.Proofs.Tryd.f55.ntmps [(7474, f355p2S k), (934, f355p3S k)] (bodyOf f355l4C) 116 := ((SumsOk.nil).cons (c := f355p3C) (by kernel_rfl) (f355p3O k)).cons (c := f355p2C) (by kernel_rfl) (f355p2O k)
theorem f355l4O (k : Nat) : SumOk P Go.Proofs.Tryd.f55.ntmps f355l4C (f355l4S k) := (show f355l4C = .loop (bodyOf f355l4C) by kernel_rfl) ▸ sum_loop tabOk (f355TS k) mixed (f355l4I k) (f355l4E k)
noncomputable def f355l5H : Shape := ⟨[(0, .one (.str)), (1, .one (.bool)), (5, .one (.ptr 0 0)), (8, .one (.int .i64)), (9, .one (.int .i64))], [(0, .var 115 [.nil .ptr, .emp])], 1, []⟩
noncomputable def f355l5X0 : Shape := ⟨[(5, .one (.ptr 0 0))], [(0, .var 115 [.ptr 0 0, .own 1]), (1, .row 5 (.int .u8) .plain)], 2, []⟩
noncomputable def f355l5X1 : Shape := ⟨[(5, .one (.ptr 0 0))], [(0, .var 115 [.nil .ptr, .emp])], 1, []⟩
noncomputable def f355l5N : NoteR := ⟨[0, 1, 5, 8, 9], [], []⟩
noncomputable def f355l5M : NoteR := ⟨[4, 5], [], []⟩
noncomputable def f355l5C : Code := firstC (codesAt 58 (codeOf Go.Proofs.Tryd.f55) 1)
noncomputable def f355l5s {R : Type} (k : Nat) (rec : ByteArray × Bool × Int × Int × Unit → Option R) (k0 : List Int × Unit → Option R) (k1 : Unit → Option R) (v : ByteArray × Bool × Int × Int × Unit) : Option R :=
  bif (decide (v.2.2.2.1 < v.2.2.1)) then
    f355p1 k
      (fun (w7 : ByteArray × Bool × Int × Int × List Int × Unit) =>
        f355l4 k
          (fun (w13 : List Int × Unit) =>
            k0 (w13.1, ()))
          (w7.1, w7.2.1, w7.2.2.1, (IntKind.i64.wrap (w7.2.2.2.1 + (1 : Int))), w7.2.2.2.2.1, ()))
      (v.1, v.2.1, v.2.2.1, v.2.2.2.1, ())
  else
  k1 (())
noncomputable def f355l5 {R : Type} (k : Nat) (k0 : List Int × Unit → Option R) (k1 : Unit → Option R) (v : ByteArray × Bool × Int × Int × Unit) : Option R := iterS (fun rec v => f355l5s k rec k0 k1 v) k v
theorem f355l4Rd (k : Nat) : SumRd P Go.Proofs.Tryd.f55.ntmps (bodyOf f355l4C) (f355l4S k) k := loop_rd tabOk (f355TS k) mixed (f355l4I k) (f355l4E k)
noncomputable def f355l5S (k : Nat) : Sum1 := loop2Sum f355l5H f355l5N (f355l4S k) k (fun R rec K v => f355l5s k rec (fun w => K (.exit 0) (encSt f355l5X0 w)) (fun w => K (.exit 0) (encSt f355l5X1 w)) v)
theorem f355l5E (k : Nat) (R : Type) (rec : f355l5H.Den → Option R) (K : X → St → Option R) (v : f355l5H.Den) : evS tab (f355T k) Go.Proofs.Tryd.f55.ntmps [(7474, f355p2S k), (934, f355p3S k)] (bodyOf f355l5C) 116 (step2K f355l5H f355l5N f355l5M (f355l4S k) rec K) (encSt f355l5H v) = f355l5s k rec (fun w => K (.exit 0) (encSt f355l5X0 w)) (fun w => K (.exit 0) (encSt f355l5X1 w)) v := by kernel_rfl
theorem f355l5I (k : Nat) : SumsOk P Go.Proofs.Tryd.f55.ntmps [(7474, f355p2S k), (934, f355p3S k)] (bodyOf f355l5C) 116 := ((SumsOk.nil).cons (c := f355p3C) (by kernel_rfl) (f355p3O k)).cons (c := f355p2C) (by kernel_rfl) (f355p2O k)
theorem f355l5Rd (k : Nat) : SumRd P Go.Proofs.Tryd.f55.ntmps (bodyOf f355l5C) (f355l5S k) (k + (k)) := loop2_rd tabOk (f355TS k) mixed (f355l5I k) ((show bodyOf f355l4C = bodyOf f355l5C by kernel_rfl) ▸ f355l4Rd k) (f355l5E k)
theorem f355l5O (k : Nat) : SumOk P Go.Proofs.Tryd.f55.ntmps f355l5C (f355l5S k) := (show f355l5C = .loop (bodyOf f355l5C) by kernel_rfl) ▸ (f355l5Rd k).ok
noncomputable def f355p6H : Shape := ⟨[(0, .one (.str)), (1, .one (.bool)), (5, .one (.ptr 0 0))], [(0, .var 115 [.nil .ptr, .emp])], 1, []⟩
noncomputable def f355p6X0 : Shape := ⟨[(5, .one (.ptr 0 0))], [(0, .var 115 [.ptr 0 0, .own 1]), (1, .row 5 (.int .u8) .plain)], 2, []⟩
noncomputable def f355p6X1 : Shape := ⟨[(5, .one (.ptr 0 0))], [(0, .var 115 [.nil .ptr, .emp])], 1, []⟩
noncomputable def f355p6N : NoteR := ⟨[0, 1, 5], [], []⟩
noncomputable def f355p6M : NoteR := ⟨[4, 5], [], []⟩
noncomputable def f355p6C : Code := firstC (codesAt 14 (codeOf Go.Proofs.Tryd.f55) 1)
noncomputable def f355p6 {R : Type} (k : Nat) (k0 : List Int × Unit → Option R) (k1 : Unit → Option R) (v : ByteArray × Bool × Unit) : Option R :=
  f355l5 k
    (fun (w14 : List Int × Unit) =>
      k0 (w14.1, ()))
    (fun (w15 : Unit) =>
      k1 (()))
    (v.1, v.2.1, (v.1.size : Int), (0 : Int), ())
noncomputable def f355p6S (k : Nat) : Sum1 := partSum f355p6H f355p6N (fun R K v => f355p6 k (fun w => K .normal (encSt f355p6X0 w)) (fun w => K .normal (encSt f355p6X1 w)) v)
theorem f355p6E (k : Nat) (R : Type) (K : X → St → Option R) (v : f355p6H.Den) : evS tab (f355T k) Go.Proofs.Tryd.f55.ntmps [(7474, f355p2S k), (934, f355p3S k), (58, f355l5S k)] f355p6C 14 (partK f355p6M K) (encSt f355p6H v) = f355p6 k (fun w => K .normal (encSt f355p6X0 w)) (fun w => K .normal (encSt f355p6X1 w)) v := by kernel_rfl
theorem f355p6I (k : Nat) : SumsOk P Go.Proofs.Tryd.f55.ntmps [(7474, f355p2S k), (934, f355p3S k), (58, f355l5S k)] f355p6C 14 := (((SumsOk.nil).cons (c := f355l5C) (by kernel_rfl) (f355l5O k)).cons (c := f355p3C) (by kernel_rfl) (f355p3O k)).cons (c := f355p2C) (by kernel_rfl) (f355p2O k)
theorem f355p6O (k : Nat) : SumOk P Go.Proofs.Tryd.f55.ntmps f355p6C (f355p6S k) := sum_part tabOk (f355TS k) mixed (f355p6I k) (f355p6E k)
noncomputable def f355F (k : Nat) (x : ByteArray × Bool) : Option (ByteArray) :=
  f355p6 k
    (fun (w16 : List Int × Unit) =>
      bif (!(List.isEmpty w16.1) && (List.all w16.1 fun x => decide ((0 : Int) ≤ x) && decide (x ≤ 255))) then
      some (strOfNums w16.1)
      else none)
    (fun (w17 : Unit) =>
      some ByteArray.empty)
    (x.1, x.2, ())
noncomputable def f355L (k : Nat) : Sums := [(7474, f355p2S k), (934, f355p3S k), (58, f355l5S k), (14, f355p6S k)]
theorem f355LS (k : Nat) : SumsOk P Go.Proofs.Tryd.f55.ntmps (f355L k) (codeOf Go.Proofs.Tryd.f55) 1 := ((((SumsOk.nil).cons (c := f355p6C) (by kernel_rfl) (f355p6O k)).cons (c := f355l5C) (by kernel_rfl) (f355l5O k)).cons (c := f355p3C) (by kernel_rfl) (f355p3O k)).cons (c := f355p2C) (by kernel_rfl) (f355p2O k)
theorem f355E (k : Nat) (x : ByteArray × Bool) : evFS tab (f355T k) (f355L k) Go.Proofs.Tryd.f55.ntmps Go.Proofs.Tryd.f55.results.toList (codeOf Go.Proofs.Tryd.f55) (argsV [.dat .str, .dat .bool] x) [.dat .str] = f355F k x := by kernel_rfl
theorem f355Ok (k : Nat) (x : ByteArray × Bool) (y : ByteArray) (h : f355F k x = some y) : FnOk P 55 [.dat .str, .dat .bool] [.dat .str] x y :=
  evFS_sound tabOk (f355TS k) mixed Go.Proofs.Tryd.func55 (c := codeOf Go.Proofs.Tryd.f55) (by kernel_rfl) (f355LS k) ((f355E k x).trans h)
/-! ## midrange/edit.number -/
noncomputable def f370T (k : Nat) : Table := [(55, entFn [.dat .str, .dat .bool] [.dat .str] (f355F k)), (69, entFn [.dat .str, .dat (.int .i64)] [.dat .str] (f369F k))]
theorem f370TS (k : Nat) : Sound P (f370T k) := ((Sound.nil).cons f369B (f369Ok k)).cons f355B (f355Ok k)
theorem f370B : HasBody P 70 := ⟨Go.Proofs.Tryd.f70, Go.Proofs.Tryd.func70, by kernel_rfl, by kernel_rfl⟩
noncomputable def f370F (k : Nat) (x : (Int × (Int × Int)) × ByteArray × Bool) : Option (ByteArray) :=
  bif (sliceBds (0 : Int) (IntKind.i64.wrap (x.1.2.1 - x.1.2.2)) (x.2.1.size : Int)) then
  Option.bind (f355F k ((x.2.1.extract 0 (Int.toNat (IntKind.i64.wrap (x.1.2.1 - x.1.2.2)))), x.2.2)) fun y1 =>
  bif (decide (x.1.2.2 > (0 : Int))) then
    Option.bind (f369F k (y1, (y1.size : Int))) fun y2 =>
    bif (decide (y2.size + (⟨#[46]⟩ : ByteArray).size ≤ 9223372036854775807)) then
    bif (sliceBds (IntKind.i64.wrap (x.1.2.1 - x.1.2.2)) (x.2.1.size : Int) (x.2.1.size : Int)) then
    let t3 := (x.2.1.extract (Int.toNat (IntKind.i64.wrap (x.1.2.1 - x.1.2.2))) (Int.toNat (x.2.1.size : Int)))
    bif (decide ((y2 ++ (⟨#[46]⟩ : ByteArray)).size + t3.size ≤ 9223372036854775807)) then
    some ((y2 ++ (⟨#[46]⟩ : ByteArray)) ++ t3)
    else none
    else none
    else none
  else
  Option.bind (f369F k (y1, (IntKind.i64.wrap ((y1.size : Int) - (1 : Int))))) fun y4 =>
  some y4
  else none
noncomputable def f370L (k : Nat) : Sums := []
theorem f370LS (k : Nat) : SumsOk P Go.Proofs.Tryd.f70.ntmps (f370L k) (codeOf Go.Proofs.Tryd.f70) 1 := SumsOk.nil
theorem f370E (k : Nat) (x : (Int × (Int × Int)) × ByteArray × Bool) : evFS tab (f370T k) (f370L k) Go.Proofs.Tryd.f70.ntmps Go.Proofs.Tryd.f70.results.toList (codeOf Go.Proofs.Tryd.f70) (argsV [.agg (.pair (.int .i64) (.pair (.int .i64) (.int .i64))), .dat .str, .dat .bool] x) [.dat .str] = f370F k x := by kernel_rfl
theorem f370Ok (k : Nat) (x : (Int × (Int × Int)) × ByteArray × Bool) (y : ByteArray) (h : f370F k x = some y) : FnOk P 70 [.agg (.pair (.int .i64) (.pair (.int .i64) (.int .i64))), .dat .str, .dat .bool] [.dat .str] x y :=
  evFS_sound tabOk (f370TS k) mixed Go.Proofs.Tryd.func70 (c := codeOf Go.Proofs.Tryd.f70) (by kernel_rfl) (f370LS k) ((f370E k x).trans h)
/-! ## midrange/edit.status -/
noncomputable def f371T (k : Nat) : Table := [(54, entFn [.dat (.int .i64)] [.dat .str] (f354F k))]
theorem f371TS (k : Nat) : Sound P (f371T k) := (Sound.nil).cons f354B (f354Ok k)
theorem f371B : HasBody P 71 := ⟨Go.Proofs.Tryd.f71, Go.Proofs.Tryd.func71, by kernel_rfl, by kernel_rfl⟩
noncomputable def f371F (k : Nat) (x : ByteArray × Bool) : Option (ByteArray) :=
  bif x.2 then
    some x.1
  else
  Option.bind (f354F k (x.1.size : Int)) fun y1 =>
  some y1
noncomputable def f371L (k : Nat) : Sums := []
theorem f371LS (k : Nat) : SumsOk P Go.Proofs.Tryd.f71.ntmps (f371L k) (codeOf Go.Proofs.Tryd.f71) 1 := SumsOk.nil
theorem f371E (k : Nat) (x : ByteArray × Bool) : evFS tab (f371T k) (f371L k) Go.Proofs.Tryd.f71.ntmps Go.Proofs.Tryd.f71.results.toList (codeOf Go.Proofs.Tryd.f71) (argsV [.dat .str, .dat .bool] x) [.dat .str] = f371F k x := by kernel_rfl
theorem f371Ok (k : Nat) (x : ByteArray × Bool) (y : ByteArray) (h : f371F k x = some y) : FnOk P 71 [.dat .str, .dat .bool] [.dat .str] x y :=
  evFS_sound tabOk (f371TS k) mixed Go.Proofs.Tryd.func71 (c := codeOf Go.Proofs.Tryd.f71) (by kernel_rfl) (f371LS k) ((f371E k x).trans h)
/-! ## midrange/edit.afloat -/
noncomputable def f372T (k : Nat) : Table := [(73, entFn [.dat .str, .dat .str] [.dat .str] (f373F k))]
theorem f372TS (k : Nat) : Sound P (f372T k) := (Sound.nil).cons f373B (f373Ok k)
theorem f372B : HasBody P 72 := ⟨Go.Proofs.Tryd.f72, Go.Proofs.Tryd.func72, by kernel_rfl, by kernel_rfl⟩
noncomputable def f372F (k : Nat) (x : ByteArray × ByteArray) : Option (ByteArray) :=
  bif (decide ((⟨#[32]⟩ : ByteArray).size + x.1.size ≤ 9223372036854775807)) then
  Option.bind (f373F k (((⟨#[32]⟩ : ByteArray) ++ x.1), (⟨#[32]⟩ : ByteArray))) fun y1 =>
  bif (strEq y1 ByteArray.empty) then
    some ((⟨#[32]⟩ : ByteArray) ++ x.1)
  else
  let t2 := (IntKind.i64.wrap ((((⟨#[32]⟩ : ByteArray) ++ x.1).size : Int) - (y1.size : Int)))
  bif (sliceBds (0 : Int) (IntKind.i64.wrap (t2 - (1 : Int))) (((⟨#[32]⟩ : ByteArray) ++ x.1).size : Int)) then
  let t3 := (((⟨#[32]⟩ : ByteArray) ++ x.1).extract 0 (Int.toNat (IntKind.i64.wrap (t2 - (1 : Int)))))
  bif (decide (t3.size + x.2.size ≤ 9223372036854775807)) then
  bif (decide ((t3 ++ x.2).size + y1.size ≤ 9223372036854775807)) then
  some ((t3 ++ x.2) ++ y1)
  else none
  else none
  else none
  else none
noncomputable def f372L (k : Nat) : Sums := []
theorem f372LS (k : Nat) : SumsOk P Go.Proofs.Tryd.f72.ntmps (f372L k) (codeOf Go.Proofs.Tryd.f72) 1 := SumsOk.nil
theorem f372E (k : Nat) (x : ByteArray × ByteArray) : evFS tab (f372T k) (f372L k) Go.Proofs.Tryd.f72.ntmps Go.Proofs.Tryd.f72.results.toList (codeOf Go.Proofs.Tryd.f72) (argsV [.dat .str, .dat .str] x) [.dat .str] = f372F k x := by kernel_rfl
theorem f372Ok (k : Nat) (x : ByteArray × ByteArray) (y : ByteArray) (h : f372F k x = some y) : FnOk P 72 [.dat .str, .dat .str] [.dat .str] x y :=
  evFS_sound tabOk (f372TS k) mixed Go.Proofs.Tryd.func72 (c := codeOf Go.Proofs.Tryd.f72) (by kernel_rfl) (f372LS k) ((f372E k x).trans h)
/-! ## midrange/edit.text -/
noncomputable def f336T (k : Nat) : Table := [(52, entFn [.dat (.int .u8)] [.agg (.pair (.int .i64) (.pair .bool .bool))] (f352F k)), (54, entFn [.dat (.int .i64)] [.dat .str] (f354F k)), (67, entFn [.agg (.pair (.int .i64) (.pair (.int .i64) (.int .i64))), .agg (.pair (.int .i64) .str)] [.dat .str] (f367F k)), (68, entFn [.dat .str] [.dat .str] (f368F k)), (69, entFn [.dat .str, .dat (.int .i64)] [.dat .str] (f369F k)), (70, entFn [.agg (.pair (.int .i64) (.pair (.int .i64) (.int .i64))), .dat .str, .dat .bool] [.dat .str] (f370F k)), (71, entFn [.dat .str, .dat .bool] [.dat .str] (f371F k)), (72, entFn [.dat .str, .dat .str] [.dat .str] (f372F k)), (73, entFn [.dat .str, .dat .str] [.dat .str] (f373F k)), (74, entFn [.dat .str, .dat (.int .i64)] [.dat .str] (f73F k))]
theorem f336TS (k : Nat) : Sound P (f336T k) := ((((((((((Sound.nil).cons f73B (f73Ok k)).cons f373B (f373Ok k)).cons f372B (f372Ok k)).cons f371B (f371Ok k)).cons f370B (f370Ok k)).cons f369B (f369Ok k)).cons f368B (f368Ok k)).cons f367B (f367Ok k)).cons f354B (f354Ok k)).cons f352B (f352Ok k)
theorem f336B : HasBody P 36 := ⟨Go.Proofs.Tryd.f36, Go.Proofs.Tryd.func36, by kernel_rfl, by kernel_rfl⟩
noncomputable def f336p0H : Shape := ⟨[(4, .one (.ptr 0 0)), (5, .one (.ptr 1 0)), (8, .one (.ptr 2 0)), (9, .one (.str))], [(0, .var 25 [.int .i64, .str]), (1, .var 27 [.int .u8, .int .i64]), (2, .var 81 [.int .i64, .bool, .bool])], 3, []⟩
noncomputable def f336p0X0 : Shape := ⟨[(4, .one (.ptr 0 0)), (5, .one (.ptr 1 0)), (8, .one (.ptr 2 0)), (9, .one (.str))], [(0, .var 25 [.int .i64, .str]), (1, .var 27 [.int .u8, .int .i64]), (2, .var 81 [.int .i64, .bool, .bool])], 3, []⟩
noncomputable def f336p0N : NoteR := ⟨[4, 5, 8, 9], [], []⟩
noncomputable def f336p0M : NoteR := ⟨[4, 5, 6, 8, 9], [], []⟩
noncomputable def f336p0C : Code := firstC (codesAt 126 (codeOf Go.Proofs.Tryd.f36) 1)
noncomputable def f336p0 {R : Type} (k : Nat) (k0 : ByteArray × Int × ByteArray × Int × Int × Int × Bool × Bool × Unit → Option R) (v : ByteArray × Int × ByteArray × Int × Int × Int × Bool × Bool × Unit) : Option R :=
  bif (v.2.2.2.2.2.1 == (1 : Int)) then
    Option.bind (f371F k ((⟨#[67, 82]⟩ : ByteArray), (decide (v.2.1 < (0 : Int))))) fun y6 =>
    bif (decide (v.1.size + y6.size ≤ 9223372036854775807)) then
    k0 ((v.1 ++ y6), v.2.1, v.2.2.1, v.2.2.2.1, v.2.2.2.2.1, v.2.2.2.2.2.1, v.2.2.2.2.2.2.1, v.2.2.2.2.2.2.2.1, ())
    else none
  else
  bif (v.2.2.2.2.2.1 == (2 : Int)) then
    Option.bind (f371F k ((⟨#[45]⟩ : ByteArray), (decide (v.2.1 < (0 : Int))))) fun y7 =>
    bif (decide (v.1.size + y7.size ≤ 9223372036854775807)) then
    k0 ((v.1 ++ y7), v.2.1, v.2.2.1, v.2.2.2.1, v.2.2.2.2.1, v.2.2.2.2.2.1, v.2.2.2.2.2.2.1, v.2.2.2.2.2.2.2.1, ())
    else none
  else
  bif (v.2.2.2.2.2.1 == (3 : Int)) then
    Option.bind (f371F k ((⟨#[45]⟩ : ByteArray), (decide (v.2.1 < (0 : Int))))) fun y8 =>
    Option.bind (f372F k (v.1, y8)) fun y9 =>
    k0 (y9, v.2.1, v.2.2.1, v.2.2.2.1, v.2.2.2.2.1, v.2.2.2.2.2.1, v.2.2.2.2.2.2.1, v.2.2.2.2.2.2.2.1, ())
  else
  k0 (v.1, v.2.1, v.2.2.1, v.2.2.2.1, v.2.2.2.2.1, v.2.2.2.2.2.1, v.2.2.2.2.2.2.1, v.2.2.2.2.2.2.2.1, ())
noncomputable def f336p0S (k : Nat) : Sum1 := partSum f336p0H f336p0N (fun R K v => f336p0 k (fun w => K .normal (encSt f336p0X0 w)) v)
theorem f336p0E (k : Nat) (R : Type) (K : X → St → Option R) (v : f336p0H.Den) : evS tab (f336T k) Go.Proofs.Tryd.f36.ntmps [] f336p0C 126 (partK f336p0M K) (encSt f336p0H v) = f336p0 k (fun w => K .normal (encSt f336p0X0 w)) v := by kernel_rfl
theorem f336p0I (k : Nat) : SumsOk P Go.Proofs.Tryd.f36.ntmps [] f336p0C 126 := SumsOk.nil
theorem f336p0O (k : Nat) : SumOk P Go.Proofs.Tryd.f36.ntmps f336p0C (f336p0S k) := sum_part tabOk (f336TS k) mixed (f336p0I k) (f336p0E k)
noncomputable def f336p1H : Shape := ⟨[(4, .one (.ptr 0 0)), (5, .one (.ptr 1 0)), (8, .one (.ptr 2 0)), (9, .one (.str))], [(0, .var 25 [.int .i64, .str]), (1, .var 27 [.int .u8, .int .i64]), (2, .var 81 [.int .i64, .bool, .bool])], 3, []⟩
noncomputable def f336p1X0 : Shape := ⟨[(4, .one (.ptr 0 0)), (5, .one (.ptr 1 0)), (8, .one (.ptr 2 0)), (9, .one (.str))], [(0, .var 25 [.int .i64, .str]), (1, .var 27 [.int .u8, .int .i64]), (2, .var 81 [.int .i64, .bool, .bool])], 3, []⟩
noncomputable def f336p1N : NoteR := ⟨[4, 5, 8, 9], [], []⟩
noncomputable def f336p1M : NoteR := ⟨[4, 5, 6, 8, 9], [], []⟩
noncomputable def f336p1C : Code := firstC (codesAt 254 (codeOf Go.Proofs.Tryd.f36) 1)
noncomputable def f336p1 {R : Type} (k : Nat) (k0 : ByteArray × Int × ByteArray × Int × Int × Int × Bool × Bool × Unit → Option R) (v : ByteArray × Int × ByteArray × Int × Int × Int × Bool × Bool × Unit) : Option R :=
  bif (v.2.2.2.2.1 == (2 : Int)) then
    Option.bind (f372F k (v.1, (⟨#[36]⟩ : ByteArray))) fun y11 =>
    k0 (y11, v.2.1, v.2.2.1, v.2.2.2.1, v.2.2.2.2.1, v.2.2.2.2.2.1, v.2.2.2.2.2.2.1, v.2.2.2.2.2.2.2.1, ())
  else
  k0 (v.1, v.2.1, v.2.2.1, v.2.2.2.1, v.2.2.2.2.1, v.2.2.2.2.2.1, v.2.2.2.2.2.2.1, v.2.2.2.2.2.2.2.1, ())
noncomputable def f336p1S (k : Nat) : Sum1 := partSum f336p1H f336p1N (fun R K v => f336p1 k (fun w => K .normal (encSt f336p1X0 w)) v)
theorem f336p1E (k : Nat) (R : Type) (K : X → St → Option R) (v : f336p1H.Den) : evS tab (f336T k) Go.Proofs.Tryd.f36.ntmps [] f336p1C 254 (partK f336p1M K) (encSt f336p1H v) = f336p1 k (fun w => K .normal (encSt f336p1X0 w)) v := by kernel_rfl
theorem f336p1I (k : Nat) : SumsOk P Go.Proofs.Tryd.f36.ntmps [] f336p1C 254 := SumsOk.nil
theorem f336p1O (k : Nat) : SumOk P Go.Proofs.Tryd.f36.ntmps f336p1C (f336p1S k) := sum_part tabOk (f336TS k) mixed (f336p1I k) (f336p1E k)
noncomputable def f336p2H : Shape := ⟨[(4, .one (.ptr 0 0)), (5, .one (.ptr 1 0)), (8, .one (.ptr 2 0)), (9, .one (.str))], [(0, .var 25 [.int .i64, .str]), (1, .var 27 [.int .u8, .int .i64]), (2, .var 81 [.int .i64, .bool, .bool])], 3, []⟩
noncomputable def f336p2X0 : Shape := ⟨[(6, .one (.str)), (9, .one (.str))], [], 0, []⟩
noncomputable def f336p2X1 : Shape := ⟨[(9, .one (.str))], [], 0, []⟩
noncomputable def f336p2N : NoteR := ⟨[4, 5, 8, 9], [], []⟩
noncomputable def f336p2M : NoteR := ⟨[6, 9], [], []⟩
noncomputable def f336p2C : Code := firstC (codesAt 510 (codeOf Go.Proofs.Tryd.f36) 1)
noncomputable def f336p2 {R : Type} (k : Nat) (k0 : ByteArray × ByteArray × Unit → Option R) (k1 : ByteArray × Unit → Option R) (v : ByteArray × Int × ByteArray × Int × Int × Int × Bool × Bool × Unit) : Option R :=
  bif (v.2.1 == (0 : Int)) then
    bif v.2.2.2.2.2.2.2.1 then
      Option.bind (f354F k (v.1.size : Int)) fun y13 =>
      k0 (y13, v.1, ())
    else
    bif (v.2.2.2.2.1 == (1 : Int)) then
      Option.bind (f373F k (v.1, (⟨#[32]⟩ : ByteArray))) fun y14 =>
      Option.bind (f73F k ((⟨#[42]⟩ : ByteArray), (IntKind.i64.wrap ((v.1.size : Int) - (y14.size : Int))))) fun y15 =>
      bif (decide (y15.size + y14.size ≤ 9223372036854775807)) then
      k0 ((y15 ++ y14), v.1, ())
      else none
    else
    k1 (v.1, ())
  else
  bif (v.2.2.2.2.1 == (1 : Int)) then
    Option.bind (f373F k (v.1, (⟨#[32]⟩ : ByteArray))) fun y16 =>
    Option.bind (f73F k ((⟨#[42]⟩ : ByteArray), (IntKind.i64.wrap ((v.1.size : Int) - (y16.size : Int))))) fun y17 =>
    bif (decide (y17.size + y16.size ≤ 9223372036854775807)) then
    k0 ((y17 ++ y16), v.1, ())
    else none
  else
  k1 (v.1, ())
noncomputable def f336p2S (k : Nat) : Sum1 := partSum f336p2H f336p2N (fun R K v => f336p2 k (fun w => K .ret (encSt f336p2X0 w)) (fun w => K .normal (encSt f336p2X1 w)) v)
theorem f336p2E (k : Nat) (R : Type) (K : X → St → Option R) (v : f336p2H.Den) : evS tab (f336T k) Go.Proofs.Tryd.f36.ntmps [] f336p2C 510 (partK f336p2M K) (encSt f336p2H v) = f336p2 k (fun w => K .ret (encSt f336p2X0 w)) (fun w => K .normal (encSt f336p2X1 w)) v := by kernel_rfl
theorem f336p2I (k : Nat) : SumsOk P Go.Proofs.Tryd.f36.ntmps [] f336p2C 510 := SumsOk.nil
theorem f336p2O (k : Nat) : SumOk P Go.Proofs.Tryd.f36.ntmps f336p2C (f336p2S k) := sum_part tabOk (f336TS k) mixed (f336p2I k) (f336p2E k)
noncomputable def f336F (k : Nat) (x : (Int × (Int × Int)) × (Int × ByteArray) × (Int × Int)) : Option (ByteArray) :=
  Option.bind (f367F k ((x.1.1, (x.1.2.1, x.1.2.2)), (x.2.1.1, x.2.1.2))) fun y1 =>
  bif (x.2.2.1 == (88 : Int)) then
    some y1
  else
  bif (x.2.2.1 == (89 : Int)) then
    Option.bind (f368F k y1) fun y2 =>
    some y2
  else
  bif (x.2.2.1 == (90 : Int)) then
    Option.bind (f369F k (y1, (y1.size : Int))) fun y3 =>
    some y3
  else
  Option.bind (f352F k x.2.2.1) fun y4 =>
  Option.bind (f370F k ((x.1.1, (x.1.2.1, x.1.2.2)), y1, y4.2.1)) fun y5 =>
  f336p0 k
    (fun (w10 : ByteArray × Int × ByteArray × Int × Int × Int × Bool × Bool × Unit) =>
      f336p1 k
        (fun (w12 : ByteArray × Int × ByteArray × Int × Int × Int × Bool × Bool × Unit) =>
          f336p2 k
            (fun (w18 : ByteArray × ByteArray × Unit) =>
              some w18.1)
            (fun (w19 : ByteArray × Unit) =>
              some w19.1)
            (w12.1, w12.2.1, w12.2.2.1, w12.2.2.2.1, w12.2.2.2.2.1, w12.2.2.2.2.2.1, w12.2.2.2.2.2.2.1, w12.2.2.2.2.2.2.2.1, ()))
        (w10.1, w10.2.1, w10.2.2.1, w10.2.2.2.1, w10.2.2.2.2.1, w10.2.2.2.2.2.1, w10.2.2.2.2.2.2.1, w10.2.2.2.2.2.2.2.1, ()))
    (y5, x.2.1.1, x.2.1.2, x.2.2.1, x.2.2.2, y4.1, y4.2.1, y4.2.2, ())
noncomputable def f336L (k : Nat) : Sums := [(126, f336p0S k), (254, f336p1S k), (510, f336p2S k)]
theorem f336LS (k : Nat) : SumsOk P Go.Proofs.Tryd.f36.ntmps (f336L k) (codeOf Go.Proofs.Tryd.f36) 1 := (((SumsOk.nil).cons (c := f336p2C) (by kernel_rfl) (f336p2O k)).cons (c := f336p1C) (by kernel_rfl) (f336p1O k)).cons (c := f336p0C) (by kernel_rfl) (f336p0O k)
theorem f336E (k : Nat) (x : (Int × (Int × Int)) × (Int × ByteArray) × (Int × Int)) : evFS tab (f336T k) (f336L k) Go.Proofs.Tryd.f36.ntmps Go.Proofs.Tryd.f36.results.toList (codeOf Go.Proofs.Tryd.f36) (argsV [.agg (.pair (.int .i64) (.pair (.int .i64) (.int .i64))), .agg (.pair (.int .i64) .str), .agg (.pair (.int .u8) (.int .i64))] x) [.dat .str] = f336F k x := by kernel_rfl
theorem f336Ok (k : Nat) (x : (Int × (Int × Int)) × (Int × ByteArray) × (Int × Int)) (y : ByteArray) (h : f336F k x = some y) : FnOk P 36 [.agg (.pair (.int .i64) (.pair (.int .i64) (.int .i64))), .agg (.pair (.int .i64) .str), .agg (.pair (.int .u8) (.int .i64))] [.dat .str] x y :=
  evFS_sound tabOk (f336TS k) mixed Go.Proofs.Tryd.func36 (c := codeOf Go.Proofs.Tryd.f36) (by kernel_rfl) (f336LS k) ((f336E k x).trans h)
/-! ## midrange/edit.Edited -/
noncomputable def f314T (k : Nat) : Table := [(25, entFn [.agg (.pair (.int .i64) (.pair (.int .i64) (.int .i64))), .agg (.pair (.int .i64) .str)] [.dat (.int .i64)] (f29F k)), (34, entFn [.dat (.slice (.int .i64))] [.dat (.int .i64)] (f334F k)), (35, entFn [.agg (.pair (.int .i64) (.pair (.int .i64) (.int .i64))), .agg (.pair (.int .u8) (.int .i64))] [.dat (.int .i64)] (f335F k)), (36, entFn [.agg (.pair (.int .i64) (.pair (.int .i64) (.int .i64))), .agg (.pair (.int .i64) .str), .agg (.pair (.int .u8) (.int .i64))] [.dat .str] (f336F k))]
theorem f314TS (k : Nat) : Sound P (f314T k) := ((((Sound.nil).cons f336B (f336Ok k)).cons f335B (f335Ok k)).cons f334B (f334Ok k)).cons f29B (f29Ok k)
theorem f314B : HasBody P 14 := ⟨Go.Proofs.Tryd.f14, Go.Proofs.Tryd.func14, by kernel_rfl, by kernel_rfl⟩
noncomputable def f314F (k : Nat) (x : (Int × (Int × Int)) × (Int × ByteArray) × (Int × Int)) : Option (ByteArray × Int) :=
  Option.bind (f335F k ((x.1.1, (x.1.2.1, x.1.2.2)), (x.2.2.1, x.2.2.2))) fun y1 =>
  Option.bind (f29F k ((x.1.1, (x.1.2.1, x.1.2.2)), (x.2.1.1, x.2.1.2))) fun y2 =>
  Option.bind (f334F k [y1, y2]) fun y3 =>
  bif (y3 != (0 : Int)) then
    some (ByteArray.empty, y3)
  else
  Option.bind (f336F k ((x.1.1, (x.1.2.1, x.1.2.2)), (x.2.1.1, x.2.1.2), (x.2.2.1, x.2.2.2))) fun y4 =>
  some (y4, (0 : Int))
noncomputable def f314L (k : Nat) : Sums := []
theorem f314LS (k : Nat) : SumsOk P Go.Proofs.Tryd.f14.ntmps (f314L k) (codeOf Go.Proofs.Tryd.f14) 1 := SumsOk.nil
theorem f314E (k : Nat) (x : (Int × (Int × Int)) × (Int × ByteArray) × (Int × Int)) : evFS tab (f314T k) (f314L k) Go.Proofs.Tryd.f14.ntmps Go.Proofs.Tryd.f14.results.toList (codeOf Go.Proofs.Tryd.f14) (argsV [.agg (.pair (.int .i64) (.pair (.int .i64) (.int .i64))), .agg (.pair (.int .i64) .str), .agg (.pair (.int .u8) (.int .i64))] x) [.dat .str, .dat (.int .i64)] = f314F k x := by kernel_rfl
theorem f314Ok (k : Nat) (x : (Int × (Int × Int)) × (Int × ByteArray) × (Int × Int)) (y : ByteArray × Int) (h : f314F k x = some y) : FnOk P 14 [.agg (.pair (.int .i64) (.pair (.int .i64) (.int .i64))), .agg (.pair (.int .i64) .str), .agg (.pair (.int .u8) (.int .i64))] [.dat .str, .dat (.int .i64)] x y :=
  evFS_sound tabOk (f314TS k) mixed Go.Proofs.Tryd.func14 (c := codeOf Go.Proofs.Tryd.f14) (by kernel_rfl) (f314LS k) ((f314E k x).trans h)
/-! ## internal/bytealg.LastIndexByteString -/
noncomputable def f402T (k : Nat) : Table := []
theorem f402TS (k : Nat) : Sound P (f402T k) := Sound.nil
theorem f402B : HasBody P 102 := ⟨Go.Proofs.Tryd.f102, Go.Proofs.Tryd.func102, by kernel_rfl, by kernel_rfl⟩
noncomputable def f402l0H : Shape := ⟨[(0, .one (.str)), (1, .one (.int .u8)), (5, .one (.int .i64))], [], 0, []⟩
noncomputable def f402l0X0 : Shape := ⟨[(4, .one (.int .i64))], [], 0, []⟩
noncomputable def f402l0X1 : Shape := ⟨[], [], 0, []⟩
noncomputable def f402l0N : NoteR := ⟨[0, 1, 5], [], []⟩
noncomputable def f402l0M : NoteR := ⟨[4], [], []⟩
noncomputable def f402l0C : Code := firstC (codesAt 26 (codeOf Go.Proofs.Tryd.f102) 1)
noncomputable def f402l0s {R : Type} (k : Nat) (rec : ByteArray × Int × Int × Unit → Option R) (k0 : Int × Unit → Option R) (k1 : Unit → Option R) (v : ByteArray × Int × Int × Unit) : Option R :=
  bif (decide (v.2.2.1 ≥ (0 : Int))) then
    bif ((decide ((0 : Int) ≤ v.2.2.1)) && (decide (v.2.2.1 < (v.1.size : Int)))) then
    bif ((bt v.1 v.2.2.1) == v.2.1) then
      k0 (v.2.2.1, ())
    else
    rec (v.1, v.2.1, (IntKind.i64.wrap (v.2.2.1 - (1 : Int))), ())
    else none
  else
  k1 (())
noncomputable def f402l0 {R : Type} (k : Nat) (k0 : Int × Unit → Option R) (k1 : Unit → Option R) (v : ByteArray × Int × Int × Unit) : Option R := iterS (fun rec v => f402l0s k rec k0 k1 v) k v
noncomputable def f402l0S (k : Nat) : Sum1 := loopSum f402l0H f402l0N k (fun R rec K v => f402l0s k rec (fun w => K .ret (encSt f402l0X0 w)) (fun w => K (.exit 0) (encSt f402l0X1 w)) v)
theorem f402l0E (k : Nat) (R : Type) (rec : St → Option R) (K : X → St → Option R) (v : f402l0H.Den) : evS tab (f402T k) Go.Proofs.Tryd.f102.ntmps [] (bodyOf f402l0C) 52 (bodyK f402l0N f402l0M rec K) (encSt f402l0H v) = f402l0s k (fun v => rec (encSt f402l0H v)) (fun w => K .ret (encSt f402l0X0 w)) (fun w => K (.exit 0) (encSt f402l0X1 w)) v := by kernel_rfl
theorem f402l0I (k : Nat) : SumsOk P Go.Proofs.Tryd.f102.ntmps [] (bodyOf f402l0C) 52 := SumsOk.nil
theorem f402l0O (k : Nat) : SumOk P Go.Proofs.Tryd.f102.ntmps f402l0C (f402l0S k) := (show f402l0C = .loop (bodyOf f402l0C) by kernel_rfl) ▸ sum_loop tabOk (f402TS k) mixed (f402l0I k) (f402l0E k)
noncomputable def f402F (k : Nat) (x : ByteArray × Int) : Option (Int) :=
  f402l0 k
    (fun (w1 : Int × Unit) =>
      some w1.1)
    (fun (w2 : Unit) =>
      some (-1 : Int))
    (x.1, x.2, (IntKind.i64.wrap ((x.1.size : Int) - (1 : Int))), ())
noncomputable def f402L (k : Nat) : Sums := [(26, f402l0S k)]
theorem f402LS (k : Nat) : SumsOk P Go.Proofs.Tryd.f102.ntmps (f402L k) (codeOf Go.Proofs.Tryd.f102) 1 := (SumsOk.nil).cons (c := f402l0C) (by kernel_rfl) (f402l0O k)
theorem f402E (k : Nat) (x : ByteArray × Int) : evFS tab (f402T k) (f402L k) Go.Proofs.Tryd.f102.ntmps Go.Proofs.Tryd.f102.results.toList (codeOf Go.Proofs.Tryd.f102) (argsV [.dat .str, .dat (.int .u8)] x) [.dat (.int .i64)] = f402F k x := by kernel_rfl
theorem f402Ok (k : Nat) (x : ByteArray × Int) (y : Int) (h : f402F k x = some y) : FnOk P 102 [.dat .str, .dat (.int .u8)] [.dat (.int .i64)] x y :=
  evFS_sound tabOk (f402TS k) mixed Go.Proofs.Tryd.func102 (c := codeOf Go.Proofs.Tryd.f102) (by kernel_rfl) (f402LS k) ((f402E k x).trans h)
/-! ## strings.LastIndexByte -/
noncomputable def f381T (k : Nat) : Table := [(102, entFn [.dat .str, .dat (.int .u8)] [.dat (.int .i64)] (f402F k))]
theorem f381TS (k : Nat) : Sound P (f381T k) := (Sound.nil).cons f402B (f402Ok k)
theorem f381B : HasBody P 81 := ⟨Go.Proofs.Tryd.f81, Go.Proofs.Tryd.func81, by kernel_rfl, by kernel_rfl⟩
noncomputable def f381F (k : Nat) (x : ByteArray × Int) : Option (Int) :=
  Option.bind (f402F k (x.1, x.2)) fun y1 =>
  some y1
noncomputable def f381L (k : Nat) : Sums := []
theorem f381LS (k : Nat) : SumsOk P Go.Proofs.Tryd.f81.ntmps (f381L k) (codeOf Go.Proofs.Tryd.f81) 1 := SumsOk.nil
theorem f381E (k : Nat) (x : ByteArray × Int) : evFS tab (f381T k) (f381L k) Go.Proofs.Tryd.f81.ntmps Go.Proofs.Tryd.f81.results.toList (codeOf Go.Proofs.Tryd.f81) (argsV [.dat .str, .dat (.int .u8)] x) [.dat (.int .i64)] = f381F k x := by kernel_rfl
theorem f381Ok (k : Nat) (x : ByteArray × Int) (y : Int) (h : f381F k x = some y) : FnOk P 81 [.dat .str, .dat (.int .u8)] [.dat (.int .i64)] x y :=
  evFS_sound tabOk (f381TS k) mixed Go.Proofs.Tryd.func81 (c := codeOf Go.Proofs.Tryd.f81) (by kernel_rfl) (f381LS k) ((f381E k x).trans h)
/-! ## internal/stringslite.HasPrefix -/
noncomputable def f403T (k : Nat) : Table := []
theorem f403TS (k : Nat) : Sound P (f403T k) := Sound.nil
theorem f403B : HasBody P 103 := ⟨Go.Proofs.Tryd.f103, Go.Proofs.Tryd.func103, by kernel_rfl, by kernel_rfl⟩
noncomputable def f403F (k : Nat) (x : ByteArray × ByteArray) : Option (Bool) :=
  bif (decide ((x.1.size : Int) ≥ (x.2.size : Int))) then
    bif (sliceBds (0 : Int) (x.2.size : Int) (x.1.size : Int)) then
    some (strEq (x.1.extract 0 (Int.toNat (x.2.size : Int))) x.2)
    else none
  else
  some false
noncomputable def f403L (k : Nat) : Sums := []
theorem f403LS (k : Nat) : SumsOk P Go.Proofs.Tryd.f103.ntmps (f403L k) (codeOf Go.Proofs.Tryd.f103) 1 := SumsOk.nil
theorem f403E (k : Nat) (x : ByteArray × ByteArray) : evFS tab (f403T k) (f403L k) Go.Proofs.Tryd.f103.ntmps Go.Proofs.Tryd.f103.results.toList (codeOf Go.Proofs.Tryd.f103) (argsV [.dat .str, .dat .str] x) [.dat .bool] = f403F k x := by kernel_rfl
theorem f403Ok (k : Nat) (x : ByteArray × ByteArray) (y : Bool) (h : f403F k x = some y) : FnOk P 103 [.dat .str, .dat .str] [.dat .bool] x y :=
  evFS_sound tabOk (f403TS k) mixed Go.Proofs.Tryd.func103 (c := codeOf Go.Proofs.Tryd.f103) (by kernel_rfl) (f403LS k) ((f403E k x).trans h)
/-! ## strings.HasPrefix -/
noncomputable def f382T (k : Nat) : Table := [(103, entFn [.dat .str, .dat .str] [.dat .bool] (f403F k))]
theorem f382TS (k : Nat) : Sound P (f382T k) := (Sound.nil).cons f403B (f403Ok k)
theorem f382B : HasBody P 82 := ⟨Go.Proofs.Tryd.f82, Go.Proofs.Tryd.func82, by kernel_rfl, by kernel_rfl⟩
noncomputable def f382F (k : Nat) (x : ByteArray × ByteArray) : Option (Bool) :=
  Option.bind (f403F k (x.1, x.2)) fun y1 =>
  some y1
noncomputable def f382L (k : Nat) : Sums := []
theorem f382LS (k : Nat) : SumsOk P Go.Proofs.Tryd.f82.ntmps (f382L k) (codeOf Go.Proofs.Tryd.f82) 1 := SumsOk.nil
theorem f382E (k : Nat) (x : ByteArray × ByteArray) : evFS tab (f382T k) (f382L k) Go.Proofs.Tryd.f82.ntmps Go.Proofs.Tryd.f82.results.toList (codeOf Go.Proofs.Tryd.f82) (argsV [.dat .str, .dat .str] x) [.dat .bool] = f382F k x := by kernel_rfl
theorem f382Ok (k : Nat) (x : ByteArray × ByteArray) (y : Bool) (h : f382F k x = some y) : FnOk P 82 [.dat .str, .dat .str] [.dat .bool] x y :=
  evFS_sound tabOk (f382TS k) mixed Go.Proofs.Tryd.func82 (c := codeOf Go.Proofs.Tryd.f82) (by kernel_rfl) (f382LS k) ((f382E k x).trans h)
/-! ## midrange/edit.partsOf -/
noncomputable def f339T (k : Nat) : Table := [(80, entFn [.dat .str, .dat .str] [.dat (.int .i64)] (f380F k)), (81, entFn [.dat .str, .dat (.int .u8)] [.dat (.int .i64)] (f381F k)), (82, entFn [.dat .str, .dat .str] [.dat .bool] (f382F k))]
theorem f339TS (k : Nat) : Sound P (f339T k) := (((Sound.nil).cons f382B (f382Ok k)).cons f381B (f381Ok k)).cons f380B (f380Ok k)
theorem f339B : HasBody P 39 := ⟨Go.Proofs.Tryd.f39, Go.Proofs.Tryd.func39, by kernel_rfl, by kernel_rfl⟩
noncomputable def f339l0H : Shape := ⟨[(0, .one (.str)), (2, .one (.ptr 0 0)), (4, .one (.ptr 1 0)), (5, .one (.int .i64))], [(0, .var 36 [.int .i64, .int .i64, .int .i64, .bool]), (1, .var 36 [.int .i64, .int .i64, .int .i64, .bool])], 2, []⟩
noncomputable def f339l0X0 : Shape := ⟨[(2, .one (.ptr 0 0)), (4, .one (.ptr 1 0))], [(0, .var 36 [.int .i64, .int .i64, .int .i64, .bool]), (1, .var 36 [.int .i64, .int .i64, .int .i64, .bool])], 2, []⟩
noncomputable def f339l0N : NoteR := ⟨[0, 2, 4, 5], [], []⟩
noncomputable def f339l0M : NoteR := ⟨[2, 3, 4], [], []⟩
noncomputable def f339l0C : Code := firstC (codesAt 250 (codeOf Go.Proofs.Tryd.f39) 1)
noncomputable def f339l0s {R : Type} (k : Nat) (rec : ByteArray × Int × Int × Int × Int × Bool × Int × Int × Int × Bool × Unit → Option R) (k0 : Int × Int × Int × Bool × Int × Int × Int × Bool × Unit → Option R) (v : ByteArray × Int × Int × Int × Int × Bool × Int × Int × Int × Bool × Unit) : Option R :=
  bif (decide (v.2.1 < (v.1.size : Int))) then
    bif ((decide ((0 : Int) ≤ v.2.1)) && (decide (v.2.1 < (v.1.size : Int)))) then
    bif ((bt v.1 v.2.1) == (45 : Int)) then
      k0 (v.2.2.1, v.2.2.2.1, v.2.2.2.2.1, v.2.2.2.2.2.1, v.2.2.2.2.2.2.1, v.2.1, v.2.2.2.2.2.2.2.2.1, v.2.2.2.2.2.2.2.2.2.1, ())
    else
    bif (sliceBds v.2.1 (v.1.size : Int) (v.1.size : Int)) then
    Option.bind (f382F k ((v.1.extract (Int.toNat v.2.1) (Int.toNat (v.1.size : Int))), (⟨#[67, 82]⟩ : ByteArray))) fun y3 =>
    bif y3 then
      k0 (v.2.2.1, v.2.2.2.1, v.2.2.2.2.1, v.2.2.2.2.2.1, v.2.2.2.2.2.2.1, v.2.1, v.2.2.2.2.2.2.2.2.1, v.2.2.2.2.2.2.2.2.2.1, ())
    else
    rec (v.1, (IntKind.i64.wrap (v.2.1 + (1 : Int))), v.2.2.1, v.2.2.2.1, v.2.2.2.2.1, v.2.2.2.2.2.1, v.2.2.2.2.2.2.1, v.2.2.2.2.2.2.2.1, v.2.2.2.2.2.2.2.2.1, v.2.2.2.2.2.2.2.2.2.1, ())
    else none
    else none
  else
  k0 (v.2.2.1, v.2.2.2.1, v.2.2.2.2.1, v.2.2.2.2.2.1, v.2.2.2.2.2.2.1, v.2.2.2.2.2.2.2.1, v.2.2.2.2.2.2.2.2.1, v.2.2.2.2.2.2.2.2.2.1, ())
noncomputable def f339l0 {R : Type} (k : Nat) (k0 : Int × Int × Int × Bool × Int × Int × Int × Bool × Unit → Option R) (v : ByteArray × Int × Int × Int × Int × Bool × Int × Int × Int × Bool × Unit) : Option R := iterS (fun rec v => f339l0s k rec k0 v) k v
noncomputable def f339l0S (k : Nat) : Sum1 := loopSum f339l0H f339l0N k (fun R rec K v => f339l0s k rec (fun w => K (.exit 0) (encSt f339l0X0 w)) v)
theorem f339l0E (k : Nat) (R : Type) (rec : St → Option R) (K : X → St → Option R) (v : f339l0H.Den) : evS tab (f339T k) Go.Proofs.Tryd.f39.ntmps [] (bodyOf f339l0C) 500 (bodyK f339l0N f339l0M rec K) (encSt f339l0H v) = f339l0s k (fun v => rec (encSt f339l0H v)) (fun w => K (.exit 0) (encSt f339l0X0 w)) v := by kernel_rfl
theorem f339l0I (k : Nat) : SumsOk P Go.Proofs.Tryd.f39.ntmps [] (bodyOf f339l0C) 500 := SumsOk.nil
theorem f339l0O (k : Nat) : SumOk P Go.Proofs.Tryd.f39.ntmps f339l0C (f339l0S k) := (show f339l0C = .loop (bodyOf f339l0C) by kernel_rfl) ▸ sum_loop tabOk (f339TS k) mixed (f339l0I k) (f339l0E k)
noncomputable def f339F (k : Nat) (x : ByteArray) : Option ((Int × (Int × (Int × Bool))) × Bool) :=
  Option.bind (f380F k (x, (⟨#[48, 42]⟩ : ByteArray))) fun y1 =>
  bif (decide (y1 ≥ (0 : Int))) then
    bif ((decide ((0 : Int) ≤ y1)) && (decide (y1 < (x.size : Int)))) then
    Option.bind (f381F k (x, (32 : Int))) fun y2 =>
    f339l0 k
      (fun (w4 : Int × Int × Int × Bool × Int × Int × Int × Bool × Unit) =>
        some ((w4.2.2.2.2.1, (w4.2.2.2.2.2.1, (w4.2.2.2.2.2.2.1, w4.2.2.2.2.2.2.2.1))), (decide (w4.2.2.2.2.1 > (0 : Int)))))
      (x, (IntKind.i64.wrap ((mxI y2 y1) + (1 : Int))), (0 : Int), (0 : Int), (0 : Int), false, (IntKind.i64.wrap ((mxI y2 y1) + (1 : Int))), (-1 : Int), y1, ((bt x y1) == (42 : Int)), ())
    else none
  else
  Option.bind (f381F k (x, (32 : Int))) fun y5 =>
  f339l0 k
    (fun (w6 : Int × Int × Int × Bool × Int × Int × Int × Bool × Unit) =>
      some ((w6.2.2.2.2.1, (w6.2.2.2.2.2.1, (w6.2.2.2.2.2.2.1, w6.2.2.2.2.2.2.2.1))), (decide (w6.2.2.2.2.1 > (0 : Int)))))
    (x, (IntKind.i64.wrap ((mxI y5 y1) + (1 : Int))), (0 : Int), (0 : Int), (0 : Int), false, (IntKind.i64.wrap ((mxI y5 y1) + (1 : Int))), (-1 : Int), y1, false, ())
noncomputable def f339L (k : Nat) : Sums := [(250, f339l0S k)]
theorem f339LS (k : Nat) : SumsOk P Go.Proofs.Tryd.f39.ntmps (f339L k) (codeOf Go.Proofs.Tryd.f39) 1 := (SumsOk.nil).cons (c := f339l0C) (by kernel_rfl) (f339l0O k)
theorem f339E (k : Nat) (x : ByteArray) : evFS tab (f339T k) (f339L k) Go.Proofs.Tryd.f39.ntmps Go.Proofs.Tryd.f39.results.toList (codeOf Go.Proofs.Tryd.f39) (argsV [.dat .str] x) [.agg (.pair (.int .i64) (.pair (.int .i64) (.pair (.int .i64) .bool))), .dat .bool] = f339F k x := by kernel_rfl
theorem f339Ok (k : Nat) (x : ByteArray) (y : (Int × (Int × (Int × Bool))) × Bool) (h : f339F k x = some y) : FnOk P 39 [.dat .str] [.agg (.pair (.int .i64) (.pair (.int .i64) (.pair (.int .i64) .bool))), .dat .bool] x y :=
  evFS_sound tabOk (f339TS k) mixed Go.Proofs.Tryd.func39 (c := codeOf Go.Proofs.Tryd.f39) (by kernel_rfl) (f339LS k) ((f339E k x).trans h)
/-! ## midrange/edit.PartsOf -/
noncomputable def f316T (k : Nat) : Table := [(34, entFn [.dat (.slice (.int .i64))] [.dat (.int .i64)] (f334F k)), (38, entFn [.dat .bool, .dat (.int .i64)] [.dat (.int .i64)] (f338F k)), (39, entFn [.dat .str] [.agg (.pair (.int .i64) (.pair (.int .i64) (.pair (.int .i64) .bool))), .dat .bool] (f339F k))]
theorem f316TS (k : Nat) : Sound P (f316T k) := (((Sound.nil).cons f339B (f339Ok k)).cons f338B (f338Ok k)).cons f334B (f334Ok k)
theorem f316B : HasBody P 16 := ⟨Go.Proofs.Tryd.f16, Go.Proofs.Tryd.func16, by kernel_rfl, by kernel_rfl⟩
noncomputable def f316l0H : Shape := ⟨[(0, .one (.str)), (2, .one (.ptr 0 0)), (23, .one (.int .i64)), (24, .one (.int .i64))], [(0, .var 36 [.int .i64, .int .i64, .int .i64, .bool])], 1, []⟩
noncomputable def f316l0X0 : Shape := ⟨[(0, .one (.str)), (2, .one (.ptr 0 0)), (3, .one (.int .i64)), (4, .one (.int .i64))], [(0, .var 36 [.int .i64, .int .i64, .int .i64, .bool])], 1, []⟩
noncomputable def f316l0X1 : Shape := ⟨[(0, .one (.str)), (2, .one (.ptr 0 0))], [(0, .var 36 [.int .i64, .int .i64, .int .i64, .bool])], 1, []⟩
noncomputable def f316l0N : NoteR := ⟨[0, 2, 23, 24], [], []⟩
noncomputable def f316l0M : NoteR := ⟨[0, 2, 3, 4], [], []⟩
noncomputable def f316l0C : Code := firstC (codesAt 58 (codeOf Go.Proofs.Tryd.f16) 1)
noncomputable def f316l0s {R : Type} (k : Nat) (rec : ByteArray × Int × Int × Int × Int × Int × Bool × Unit → Option R) (k0 : ByteArray × Int × Int × Int × Int × Int × Bool × Unit → Option R) (k1 : ByteArray × Int × Int × Int × Bool × Unit → Option R) (v : ByteArray × Int × Int × Int × Int × Int × Bool × Unit) : Option R :=
  bif (decide (v.2.2.1 < v.2.1)) then
    bif ((decide ((0 : Int) ≤ v.2.2.1)) && (decide (v.2.2.1 < (v.1.size : Int)))) then
    bif (decide ((bt v.1 v.2.2.1) < (32 : Int))) then
      k0 (v.1, v.2.2.1, (8 : Int), (0 : Int), (0 : Int), (0 : Int), false, ())
    else
    bif ((decide ((0 : Int) ≤ v.2.2.1)) && (decide (v.2.2.1 < (v.1.size : Int)))) then
    bif (decide ((bt v.1 v.2.2.1) > (126 : Int))) then
      k0 (v.1, v.2.2.1, (8 : Int), (0 : Int), (0 : Int), (0 : Int), false, ())
    else
    rec (v.1, v.2.1, (IntKind.i64.wrap (v.2.2.1 + (1 : Int))), v.2.2.2.1, v.2.2.2.2.1, v.2.2.2.2.2.1, v.2.2.2.2.2.2.1, ())
    else none
    else none
  else
  k1 (v.1, v.2.2.2.1, v.2.2.2.2.1, v.2.2.2.2.2.1, v.2.2.2.2.2.2.1, ())
noncomputable def f316l0 {R : Type} (k : Nat) (k0 : ByteArray × Int × Int × Int × Int × Int × Bool × Unit → Option R) (k1 : ByteArray × Int × Int × Int × Bool × Unit → Option R) (v : ByteArray × Int × Int × Int × Int × Int × Bool × Unit) : Option R := iterS (fun rec v => f316l0s k rec k0 k1 v) k v
noncomputable def f316l0S (k : Nat) : Sum1 := loopSum f316l0H f316l0N k (fun R rec K v => f316l0s k rec (fun w => K .ret (encSt f316l0X0 w)) (fun w => K (.exit 0) (encSt f316l0X1 w)) v)
theorem f316l0E (k : Nat) (R : Type) (rec : St → Option R) (K : X → St → Option R) (v : f316l0H.Den) : evS tab (f316T k) Go.Proofs.Tryd.f16.ntmps [] (bodyOf f316l0C) 116 (bodyK f316l0N f316l0M rec K) (encSt f316l0H v) = f316l0s k (fun v => rec (encSt f316l0H v)) (fun w => K .ret (encSt f316l0X0 w)) (fun w => K (.exit 0) (encSt f316l0X1 w)) v := by kernel_rfl
theorem f316l0I (k : Nat) : SumsOk P Go.Proofs.Tryd.f16.ntmps [] (bodyOf f316l0C) 116 := SumsOk.nil
theorem f316l0O (k : Nat) : SumOk P Go.Proofs.Tryd.f16.ntmps f316l0C (f316l0S k) := (show f316l0C = .loop (bodyOf f316l0C) by kernel_rfl) ▸ sum_loop tabOk (f316TS k) mixed (f316l0I k) (f316l0E k)
noncomputable def f316F (k : Nat) (x : ByteArray) : Option ((Int × (Int × (Int × Bool))) × Int × Int) :=
  Option.bind (f338F k ((strEq x ByteArray.empty), (1 : Int))) fun y1 =>
  Option.bind (f338F k ((decide ((x.size : Int) > (40 : Int))), (2 : Int))) fun y2 =>
  Option.bind (f334F k [y1, y2]) fun y3 =>
  bif (y3 != (0 : Int)) then
    some (((0 : Int), ((0 : Int), ((0 : Int), false))), (0 : Int), y3)
  else
  f316l0 k
    (fun (w4 : ByteArray × Int × Int × Int × Int × Int × Bool × Unit) =>
      some ((w4.2.2.2.1, (w4.2.2.2.2.1, (w4.2.2.2.2.2.1, w4.2.2.2.2.2.2.1))), w4.2.1, w4.2.2.1))
    (fun (w5 : ByteArray × Int × Int × Int × Bool × Unit) =>
      Option.bind (f339F k w5.1) fun y6 =>
      bif (!y6.2) then
        some (((0 : Int), ((0 : Int), ((0 : Int), false))), (0 : Int), (6 : Int))
      else
      some ((y6.1.1, (y6.1.2.1, (y6.1.2.2.1, y6.1.2.2.2))), (0 : Int), (0 : Int)))
    (x, (x.size : Int), (0 : Int), (0 : Int), (0 : Int), (0 : Int), false, ())
noncomputable def f316L (k : Nat) : Sums := [(58, f316l0S k)]
theorem f316LS (k : Nat) : SumsOk P Go.Proofs.Tryd.f16.ntmps (f316L k) (codeOf Go.Proofs.Tryd.f16) 1 := (SumsOk.nil).cons (c := f316l0C) (by kernel_rfl) (f316l0O k)
theorem f316E (k : Nat) (x : ByteArray) : evFS tab (f316T k) (f316L k) Go.Proofs.Tryd.f16.ntmps Go.Proofs.Tryd.f16.results.toList (codeOf Go.Proofs.Tryd.f16) (argsV [.dat .str] x) [.agg (.pair (.int .i64) (.pair (.int .i64) (.pair (.int .i64) .bool))), .dat (.int .i64), .dat (.int .i64)] = f316F k x := by kernel_rfl
theorem f316Ok (k : Nat) (x : ByteArray) (y : (Int × (Int × (Int × Bool))) × Int × Int) (h : f316F k x = some y) : FnOk P 16 [.dat .str] [.agg (.pair (.int .i64) (.pair (.int .i64) (.pair (.int .i64) .bool))), .dat (.int .i64), .dat (.int .i64)] x y :=
  evFS_sound tabOk (f316TS k) mixed Go.Proofs.Tryd.func16 (c := codeOf Go.Proofs.Tryd.f16) (by kernel_rfl) (f316LS k) ((f316E k x).trans h)
/-! ## midrange/edit.positions -/
noncomputable def f383T (k : Nat) : Table := [(104, entFn [.dat .str, .dat .str] [.dat (.int .i64)] (f404F k))]
theorem f383TS (k : Nat) : Sound P (f383T k) := (Sound.nil).cons f404B (f404Ok k)
theorem f383B : HasBody P 83 := ⟨Go.Proofs.Tryd.f83, Go.Proofs.Tryd.func83, by kernel_rfl, by kernel_rfl⟩
noncomputable def f383p0H : Shape := ⟨[(3, .one (.ptr 0 0)), (5, .one (.int .i64))], [(0, .var 36 [.int .i64, .int .i64, .int .i64, .bool])], 1, []⟩
noncomputable def f383p0X0 : Shape := ⟨[(5, .one (.int .i64))], [], 0, []⟩
noncomputable def f383p0N : NoteR := ⟨[3, 5], [], []⟩
noncomputable def f383p0M : NoteR := ⟨[4, 5], [], []⟩
noncomputable def f383p0C : Code := firstC (codesAt 14 (codeOf Go.Proofs.Tryd.f83) 1)
noncomputable def f383p0 {R : Type} (k : Nat) (k0 : Int × Unit → Option R) (v : Int × Int × Int × Int × Bool × Unit) : Option R :=
  bif (decide (v.2.2.2.1 ≥ (0 : Int))) then
    k0 ((IntKind.i64.wrap (v.1 + (1 : Int))), ())
  else
  k0 (v.1, ())
noncomputable def f383p0S (k : Nat) : Sum1 := partSum f383p0H f383p0N (fun R K v => f383p0 k (fun w => K .normal (encSt f383p0X0 w)) v)
theorem f383p0E (k : Nat) (R : Type) (K : X → St → Option R) (v : f383p0H.Den) : evS tab (f383T k) Go.Proofs.Tryd.f83.ntmps [] f383p0C 14 (partK f383p0M K) (encSt f383p0H v) = f383p0 k (fun w => K .normal (encSt f383p0X0 w)) v := by kernel_rfl
theorem f383p0I (k : Nat) : SumsOk P Go.Proofs.Tryd.f83.ntmps [] f383p0C 14 := SumsOk.nil
theorem f383p0O (k : Nat) : SumOk P Go.Proofs.Tryd.f83.ntmps f383p0C (f383p0S k) := sum_part tabOk (f383TS k) mixed (f383p0I k) (f383p0E k)
noncomputable def f383F (k : Nat) (x : ByteArray × (Int × (Int × (Int × Bool)))) : Option (Int) :=
  Option.bind (f404F k (x.1, (⟨#[32]⟩ : ByteArray))) fun y1 =>
  f383p0 k
    (fun (w2 : Int × Unit) =>
      some w2.1)
    (y1, x.2.1, x.2.2.1, x.2.2.2.1, x.2.2.2.2, ())
noncomputable def f383L (k : Nat) : Sums := [(14, f383p0S k)]
theorem f383LS (k : Nat) : SumsOk P Go.Proofs.Tryd.f83.ntmps (f383L k) (codeOf Go.Proofs.Tryd.f83) 1 := (SumsOk.nil).cons (c := f383p0C) (by kernel_rfl) (f383p0O k)
theorem f383E (k : Nat) (x : ByteArray × (Int × (Int × (Int × Bool)))) : evFS tab (f383T k) (f383L k) Go.Proofs.Tryd.f83.ntmps Go.Proofs.Tryd.f83.results.toList (codeOf Go.Proofs.Tryd.f83) (argsV [.dat .str, .agg (.pair (.int .i64) (.pair (.int .i64) (.pair (.int .i64) .bool)))] x) [.dat (.int .i64)] = f383F k x := by kernel_rfl
theorem f383Ok (k : Nat) (x : ByteArray × (Int × (Int × (Int × Bool)))) (y : Int) (h : f383F k x = some y) : FnOk P 83 [.dat .str, .agg (.pair (.int .i64) (.pair (.int .i64) (.pair (.int .i64) .bool)))] [.dat (.int .i64)] x y :=
  evFS_sound tabOk (f383TS k) mixed Go.Proofs.Tryd.func83 (c := codeOf Go.Proofs.Tryd.f83) (by kernel_rfl) (f383LS k) ((f383E k x).trans h)
/-! ## midrange/edit.wordErr -/
noncomputable def f340T (k : Nat) : Table := [(16, entFn [.dat .str] [.agg (.pair (.int .i64) (.pair (.int .i64) (.pair (.int .i64) .bool))), .dat (.int .i64), .dat (.int .i64)] (f316F k)), (38, entFn [.dat .bool, .dat (.int .i64)] [.dat (.int .i64)] (f338F k)), (65, entFn [.agg (.pair (.int .i64) (.pair (.int .i64) (.int .i64)))] [.dat (.int .i64)] (f365F k)), (83, entFn [.dat .str, .agg (.pair (.int .i64) (.pair (.int .i64) (.pair (.int .i64) .bool)))] [.dat (.int .i64)] (f383F k))]
theorem f340TS (k : Nat) : Sound P (f340T k) := ((((Sound.nil).cons f383B (f383Ok k)).cons f365B (f365Ok k)).cons f338B (f338Ok k)).cons f316B (f316Ok k)
theorem f340B : HasBody P 40 := ⟨Go.Proofs.Tryd.f40, Go.Proofs.Tryd.func40, by kernel_rfl, by kernel_rfl⟩
noncomputable def f340F (k : Nat) (x : (Int × (Int × Int)) × ByteArray) : Option ((Int × (Int × (Int × Bool))) × Int) :=
  Option.bind (f365F k (x.1.1, (x.1.2.1, x.1.2.2))) fun y1 =>
  bif (y1 != (0 : Int)) then
    some (((0 : Int), ((0 : Int), ((0 : Int), false))), y1)
  else
  Option.bind (f316F k x.2) fun y2 =>
  bif (y2.2.2 != (0 : Int)) then
    some (((0 : Int), ((0 : Int), ((0 : Int), false))), y2.2.2)
  else
  Option.bind (f383F k (x.2, (y2.1.1, (y2.1.2.1, (y2.1.2.2.1, y2.1.2.2.2))))) fun y3 =>
  Option.bind (f338F k ((y3 != x.1.2.1), (18 : Int))) fun y4 =>
  some ((y2.1.1, (y2.1.2.1, (y2.1.2.2.1, y2.1.2.2.2))), y4)
noncomputable def f340L (k : Nat) : Sums := []
theorem f340LS (k : Nat) : SumsOk P Go.Proofs.Tryd.f40.ntmps (f340L k) (codeOf Go.Proofs.Tryd.f40) 1 := SumsOk.nil
theorem f340E (k : Nat) (x : (Int × (Int × Int)) × ByteArray) : evFS tab (f340T k) (f340L k) Go.Proofs.Tryd.f40.ntmps Go.Proofs.Tryd.f40.results.toList (codeOf Go.Proofs.Tryd.f40) (argsV [.agg (.pair (.int .i64) (.pair (.int .i64) (.int .i64))), .dat .str] x) [.agg (.pair (.int .i64) (.pair (.int .i64) (.pair (.int .i64) .bool))), .dat (.int .i64)] = f340F k x := by kernel_rfl
theorem f340Ok (k : Nat) (x : (Int × (Int × Int)) × ByteArray) (y : (Int × (Int × (Int × Bool))) × Int) (h : f340F k x = some y) : FnOk P 40 [.agg (.pair (.int .i64) (.pair (.int .i64) (.int .i64))), .dat .str] [.agg (.pair (.int .i64) (.pair (.int .i64) (.pair (.int .i64) .bool))), .dat (.int .i64)] x y :=
  evFS_sound tabOk (f340TS k) mixed Go.Proofs.Tryd.func40 (c := codeOf Go.Proofs.Tryd.f40) (by kernel_rfl) (f340LS k) ((f340E k x).trans h)
/-! ## (*midrange/edit.printer).fill, handed what it may write -/
noncomputable def f405v0I : Shape := ⟨[(0, .one (.ptr 0 0))], [(0, .var 110 [.int .i64, .int .i64, .int .i64, .bool, .str, .bool, .emp])], 1, []⟩
noncomputable def f405v0U : Shape := ⟨[(0, .one (.int .u8))], [(0, .var 110 [.int .i64, .int .i64, .int .i64, .bool, .str, .bool, .emp])], 1, []⟩
noncomputable def f405v0T (k : Nat) : Table := []
theorem f405v0TS (k : Nat) : Sound P (f405v0T k) := Sound.nil
theorem f405B : HasBody P 105 := ⟨Go.Proofs.Tryd.f105, Go.Proofs.Tryd.func105, by kernel_rfl, by kernel_rfl⟩
noncomputable def f405v0F (k : Nat) (x : Int × Int × Int × Bool × ByteArray × Bool × Unit) : Option (Int × Int × Int × Int × Bool × ByteArray × Bool × Unit) :=
  bif x.2.2.2.1 then
    some ((42 : Int), x.1, x.2.1, x.2.2.1, x.2.2.2.1, x.2.2.2.2.1, x.2.2.2.2.2.1, ())
  else
  some ((32 : Int), x.1, x.2.1, x.2.2.1, x.2.2.2.1, x.2.2.2.2.1, x.2.2.2.2.2.1, ())
noncomputable def f405v0L (k : Nat) : Sums := []
theorem f405v0LS (k : Nat) : SumsOk P Go.Proofs.Tryd.f105.ntmps (f405v0L k) (codeOf Go.Proofs.Tryd.f105) 1 := SumsOk.nil
theorem f405v0E (k : Nat) (x : f405v0I.Den) : evG tab (f405v0T k) (f405v0L k) Go.Proofs.Tryd.f105.ntmps Go.Proofs.Tryd.f105.results.toList (codeOf Go.Proofs.Tryd.f105) f405v0I x [.dat .bool] f405v0U = f405v0F k x := by kernel_rfl
theorem f405v0Ok (k : Nat) (x : f405v0I.Den) (y : f405v0U.Den) (h : f405v0F k x = some y) : GnOk P 105 f405v0I f405v0U x y :=
  evG_sound tabOk (f405v0TS k) mixed Go.Proofs.Tryd.func105 (c := codeOf Go.Proofs.Tryd.f105) (by kernel_rfl) (f405v0LS k) ((f405v0E k x).trans h)
/-! ## (*midrange/edit.printer).print, handed what it may write -/
noncomputable def f384v0I : Shape := ⟨[(0, .one (.ptr 0 0)), (1, .one (.int .u8)), (2, .one (.int .i64))], [(0, .var 110 [.int .i64, .int .i64, .int .i64, .bool, .str, .bool, .emp])], 1, []⟩
noncomputable def f384v0U : Shape := ⟨[], [(0, .var 110 [.int .i64, .int .i64, .int .i64, .bool, .str, .bool, .own 1]), (1, .row 5 (.int .u8) .plain)], 2, []⟩
noncomputable def f384v0T (k : Nat) : Table := [(105, entG f405v0I f405v0U (f405v0F k))]
theorem f384v0TS (k : Nat) : Sound P (f384v0T k) := (Sound.nil).consE f405B (entG_ok (f405v0Ok k))
theorem f384B : HasBody P 84 := ⟨Go.Proofs.Tryd.f84, Go.Proofs.Tryd.func84, by kernel_rfl, by kernel_rfl⟩
noncomputable def f384v0p0H : Shape := ⟨[(0, .one (.ptr 0 0)), (1, .one (.int .u8)), (2, .one (.int .i64)), (6, .one (.bool))], [(0, .var 110 [.int .i64, .int .i64, .int .i64, .bool, .str, .bool, .emp])], 1, [some 0]⟩
noncomputable def f384v0p0X0 : Shape := ⟨[(0, .one (.ptr 0 0)), (1, .one (.int .u8)), (2, .one (.int .i64)), (6, .one (.bool))], [(0, .var 110 [.int .i64, .int .i64, .int .i64, .bool, .str, .bool, .emp])], 1, [some 0]⟩
noncomputable def f384v0p0N : NoteR := ⟨[0, 1, 2, 6], [], []⟩
noncomputable def f384v0p0M : NoteR := ⟨[0, 1, 2, 6], [], []⟩
noncomputable def f384v0p0C : Code := firstC (codesAt 6 (codeOf Go.Proofs.Tryd.f84) 1)
noncomputable def f384v0p0 {R : Type} (k : Nat) (k0 : Int × Int × Bool × Int × Int × Int × Bool × ByteArray × Bool × Unit → Option R) (v : Int × Int × Bool × Int × Int × Int × Bool × ByteArray × Bool × Unit) : Option R :=
  bif v.2.2.1 then
    bif (decide ((0 : Int) < (v.2.2.2.2.2.2.2.1.size : Int))) then
    bif (sliceBds (1 : Int) (v.2.2.2.2.2.2.2.1.size : Int) (v.2.2.2.2.2.2.2.1.size : Int)) then
    let t1 := (v.2.2.2.2.2.2.2.1.extract 1 (Int.toNat (v.2.2.2.2.2.2.2.1.size : Int)))
    bif v.2.2.2.2.2.2.2.2.1 then
      k0 ((bt v.2.2.2.2.2.2.2.1 (0 : Int)), v.2.1, v.2.2.1, v.2.2.2.1, v.2.2.2.2.1, v.2.2.2.2.2.1, v.2.2.2.2.2.2.1, t1, true, ())
    else
    k0 ((bt v.2.2.2.2.2.2.2.1 (0 : Int)), v.2.1, v.2.2.1, v.2.2.2.1, v.2.2.2.2.1, v.2.2.2.2.2.1, v.2.2.2.2.2.2.1, t1, ((bt v.2.2.2.2.2.2.2.1 (0 : Int)) != (48 : Int)), ())
    else none
    else none
  else
  k0 (v.1, v.2.1, v.2.2.1, v.2.2.2.1, v.2.2.2.2.1, v.2.2.2.2.2.1, v.2.2.2.2.2.2.1, v.2.2.2.2.2.2.2.1, v.2.2.2.2.2.2.2.2.1, ())
noncomputable def f384v0p0S (k : Nat) : Sum1 := partSum f384v0p0H f384v0p0N (fun R K v => f384v0p0 k (fun w => K .normal (encSt f384v0p0X0 w)) v)
theorem f384v0p0E (k : Nat) (R : Type) (K : X → St → Option R) (v : f384v0p0H.Den) : evS tab (f384v0T k) Go.Proofs.Tryd.f84.ntmps [] f384v0p0C 6 (partK f384v0p0M K) (encSt f384v0p0H v) = f384v0p0 k (fun w => K .normal (encSt f384v0p0X0 w)) v := by kernel_rfl
theorem f384v0p0I (k : Nat) : SumsOk P Go.Proofs.Tryd.f84.ntmps [] f384v0p0C 6 := SumsOk.nil
theorem f384v0p0O (k : Nat) : SumOk P Go.Proofs.Tryd.f84.ntmps f384v0p0C (f384v0p0S k) := sum_part tabOk (f384v0TS k) mixed (f384v0p0I k) (f384v0p0E k)
noncomputable def f384v0p1H : Shape := ⟨[(0, .one (.ptr 0 0)), (1, .one (.int .u8)), (2, .one (.int .i64)), (6, .one (.bool))], [(0, .var 110 [.int .i64, .int .i64, .int .i64, .bool, .str, .bool, .emp])], 1, [some 0]⟩
noncomputable def f384v0p1X0 : Shape := ⟨[(0, .one (.ptr 0 0)), (1, .one (.int .u8)), (2, .one (.int .i64))], [(0, .var 110 [.int .i64, .int .i64, .int .i64, .bool, .str, .bool, .emp])], 1, [some 0]⟩
noncomputable def f384v0p1N : NoteR := ⟨[0, 1, 2, 6], [], []⟩
noncomputable def f384v0p1M : NoteR := ⟨[0, 1, 2], [], []⟩
noncomputable def f384v0p1C : Code := firstC (codesAt 14 (codeOf Go.Proofs.Tryd.f84) 1)
noncomputable def f384v0p1 {R : Type} (k : Nat) (k0 : Int × Int × Int × Int × Int × Bool × ByteArray × Bool × Unit → Option R) (v : Int × Int × Bool × Int × Int × Int × Bool × ByteArray × Bool × Unit) : Option R :=
  bif (!v.2.2.1) then
    bif (v.1 == (38 : Int)) then
      k0 ((32 : Int), v.2.1, v.2.2.2.1, v.2.2.2.2.1, v.2.2.2.2.2.1, v.2.2.2.2.2.2.1, v.2.2.2.2.2.2.2.1, v.2.2.2.2.2.2.2.2.1, ())
    else
    bif (!v.2.2.2.2.2.2.2.2.1) then
      Option.bind (f405v0F k (v.2.2.2.1, v.2.2.2.2.1, v.2.2.2.2.2.1, v.2.2.2.2.2.2.1, v.2.2.2.2.2.2.2.1, v.2.2.2.2.2.2.2.2.1, ())) fun y3 =>
      k0 (y3.1, v.2.1, y3.2.1, y3.2.2.1, y3.2.2.2.1, y3.2.2.2.2.1, y3.2.2.2.2.2.1, y3.2.2.2.2.2.2.1, ())
    else
    k0 (v.1, v.2.1, v.2.2.2.1, v.2.2.2.2.1, v.2.2.2.2.2.1, v.2.2.2.2.2.2.1, v.2.2.2.2.2.2.2.1, v.2.2.2.2.2.2.2.2.1, ())
  else
  bif (!v.2.2.2.2.2.2.2.2.1) then
    Option.bind (f405v0F k (v.2.2.2.1, v.2.2.2.2.1, v.2.2.2.2.2.1, v.2.2.2.2.2.2.1, v.2.2.2.2.2.2.2.1, v.2.2.2.2.2.2.2.2.1, ())) fun y4 =>
    k0 (y4.1, v.2.1, y4.2.1, y4.2.2.1, y4.2.2.2.1, y4.2.2.2.2.1, y4.2.2.2.2.2.1, y4.2.2.2.2.2.2.1, ())
  else
  k0 (v.1, v.2.1, v.2.2.2.1, v.2.2.2.2.1, v.2.2.2.2.2.1, v.2.2.2.2.2.2.1, v.2.2.2.2.2.2.2.1, v.2.2.2.2.2.2.2.2.1, ())
noncomputable def f384v0p1S (k : Nat) : Sum1 := partSum f384v0p1H f384v0p1N (fun R K v => f384v0p1 k (fun w => K .normal (encSt f384v0p1X0 w)) v)
theorem f384v0p1E (k : Nat) (R : Type) (K : X → St → Option R) (v : f384v0p1H.Den) : evS tab (f384v0T k) Go.Proofs.Tryd.f84.ntmps [] f384v0p1C 14 (partK f384v0p1M K) (encSt f384v0p1H v) = f384v0p1 k (fun w => K .normal (encSt f384v0p1X0 w)) v := by kernel_rfl
theorem f384v0p1I (k : Nat) : SumsOk P Go.Proofs.Tryd.f84.ntmps [] f384v0p1C 14 := SumsOk.nil
theorem f384v0p1O (k : Nat) : SumOk P Go.Proofs.Tryd.f84.ntmps f384v0p1C (f384v0p1S k) := sum_part tabOk (f384v0TS k) mixed (f384v0p1I k) (f384v0p1E k)
noncomputable def f384v0F (k : Nat) (x : Int × Int × Int × Int × Int × Bool × ByteArray × Bool × Unit) : Option (Int × Int × Int × Bool × ByteArray × Bool × List Int × Unit) :=
  bif (x.1 == (32 : Int)) then
    f384v0p0 k
      (fun (w2 : Int × Int × Bool × Int × Int × Int × Bool × ByteArray × Bool × Unit) =>
        f384v0p1 k
          (fun (w5 : Int × Int × Int × Int × Int × Bool × ByteArray × Bool × Unit) =>
            bif (decide ((([] : List Int).length + [w5.1].length) * 1 ≤ 140737488355328) && decide (([] : List Int).length + [w5.1].length ≤ 9223372036854775807)) then
            bif w5.2.2.2.2.2.2.2.1 then
              some (w5.2.2.1, w5.2.2.2.1, w5.2.2.2.2.1, w5.2.2.2.2.2.1, w5.2.2.2.2.2.2.1, true, ([] ++ [w5.1]), ())
            else
            some (w5.2.2.1, w5.2.2.2.1, w5.2.2.2.2.1, w5.2.2.2.2.2.1, w5.2.2.2.2.2.2.1, (w5.2.1 == w5.2.2.2.2.1), ([] ++ [w5.1]), ())
            else none)
          (w2.1, w2.2.1, w2.2.2.1, w2.2.2.2.1, w2.2.2.2.2.1, w2.2.2.2.2.2.1, w2.2.2.2.2.2.2.1, w2.2.2.2.2.2.2.2.1, w2.2.2.2.2.2.2.2.2.1, ()))
      (x.1, x.2.1, true, x.2.2.1, x.2.2.2.1, x.2.2.2.2.1, x.2.2.2.2.2.1, x.2.2.2.2.2.2.1, x.2.2.2.2.2.2.2.1, ())
  else
  f384v0p0 k
    (fun (w6 : Int × Int × Bool × Int × Int × Int × Bool × ByteArray × Bool × Unit) =>
      f384v0p1 k
        (fun (w7 : Int × Int × Int × Int × Int × Bool × ByteArray × Bool × Unit) =>
          bif (decide ((([] : List Int).length + [w7.1].length) * 1 ≤ 140737488355328) && decide (([] : List Int).length + [w7.1].length ≤ 9223372036854775807)) then
          bif w7.2.2.2.2.2.2.2.1 then
            some (w7.2.2.1, w7.2.2.2.1, w7.2.2.2.2.1, w7.2.2.2.2.2.1, w7.2.2.2.2.2.2.1, true, ([] ++ [w7.1]), ())
          else
          some (w7.2.2.1, w7.2.2.2.1, w7.2.2.2.2.1, w7.2.2.2.2.2.1, w7.2.2.2.2.2.2.1, (w7.2.1 == w7.2.2.2.2.1), ([] ++ [w7.1]), ())
          else none)
        (w6.1, w6.2.1, w6.2.2.1, w6.2.2.2.1, w6.2.2.2.2.1, w6.2.2.2.2.2.1, w6.2.2.2.2.2.2.1, w6.2.2.2.2.2.2.2.1, w6.2.2.2.2.2.2.2.2.1, ()))
    (x.1, x.2.1, (x.2.1 == x.2.2.2.2.1), x.2.2.1, x.2.2.2.1, x.2.2.2.2.1, x.2.2.2.2.2.1, x.2.2.2.2.2.2.1, x.2.2.2.2.2.2.2.1, ())
noncomputable def f384v0L (k : Nat) : Sums := [(6, f384v0p0S k), (14, f384v0p1S k)]
theorem f384v0LS (k : Nat) : SumsOk P Go.Proofs.Tryd.f84.ntmps (f384v0L k) (codeOf Go.Proofs.Tryd.f84) 1 := ((SumsOk.nil).cons (c := f384v0p1C) (by kernel_rfl) (f384v0p1O k)).cons (c := f384v0p0C) (by kernel_rfl) (f384v0p0O k)
theorem f384v0E (k : Nat) (x : f384v0I.Den) : evG tab (f384v0T k) (f384v0L k) Go.Proofs.Tryd.f84.ntmps Go.Proofs.Tryd.f84.results.toList (codeOf Go.Proofs.Tryd.f84) f384v0I x [] f384v0U = f384v0F k x := by kernel_rfl
theorem f384v0Ok (k : Nat) (x : f384v0I.Den) (y : f384v0U.Den) (h : f384v0F k x = some y) : GnOk P 84 f384v0I f384v0U x y :=
  evG_sound tabOk (f384v0TS k) mixed Go.Proofs.Tryd.func84 (c := codeOf Go.Proofs.Tryd.f84) (by kernel_rfl) (f384v0LS k) ((f384v0E k x).trans h)
/-! ## (*midrange/edit.printer).fill, handed what it may write -/
noncomputable def f405v1I : Shape := ⟨[(0, .one (.ptr 0 0))], [(0, .var 110 [.int .i64, .int .i64, .int .i64, .bool, .str, .bool, .own 1]), (1, .row 5 (.int .u8) .plain)], 2, []⟩
noncomputable def f405v1U : Shape := ⟨[(0, .one (.int .u8))], [(0, .var 110 [.int .i64, .int .i64, .int .i64, .bool, .str, .bool, .own 1]), (1, .row 5 (.int .u8) .plain)], 2, []⟩
noncomputable def f405v1T (k : Nat) : Table := []
theorem f405v1TS (k : Nat) : Sound P (f405v1T k) := Sound.nil
noncomputable def f405v1F (k : Nat) (x : Int × Int × Int × Bool × ByteArray × Bool × List Int × Unit) : Option (Int × Int × Int × Int × Bool × ByteArray × Bool × List Int × Unit) :=
  bif x.2.2.2.1 then
    some ((42 : Int), x.1, x.2.1, x.2.2.1, x.2.2.2.1, x.2.2.2.2.1, x.2.2.2.2.2.1, x.2.2.2.2.2.2.1, ())
  else
  some ((32 : Int), x.1, x.2.1, x.2.2.1, x.2.2.2.1, x.2.2.2.2.1, x.2.2.2.2.2.1, x.2.2.2.2.2.2.1, ())
noncomputable def f405v1L (k : Nat) : Sums := []
theorem f405v1LS (k : Nat) : SumsOk P Go.Proofs.Tryd.f105.ntmps (f405v1L k) (codeOf Go.Proofs.Tryd.f105) 1 := SumsOk.nil
theorem f405v1E (k : Nat) (x : f405v1I.Den) : evG tab (f405v1T k) (f405v1L k) Go.Proofs.Tryd.f105.ntmps Go.Proofs.Tryd.f105.results.toList (codeOf Go.Proofs.Tryd.f105) f405v1I x [.dat .bool] f405v1U = f405v1F k x := by kernel_rfl
theorem f405v1Ok (k : Nat) (x : f405v1I.Den) (y : f405v1U.Den) (h : f405v1F k x = some y) : GnOk P 105 f405v1I f405v1U x y :=
  evG_sound tabOk (f405v1TS k) mixed Go.Proofs.Tryd.func105 (c := codeOf Go.Proofs.Tryd.f105) (by kernel_rfl) (f405v1LS k) ((f405v1E k x).trans h)
/-! ## (*midrange/edit.printer).print, handed what it may write -/
noncomputable def f384v1I : Shape := ⟨[(0, .one (.ptr 0 0)), (1, .one (.int .u8)), (2, .one (.int .i64))], [(0, .var 110 [.int .i64, .int .i64, .int .i64, .bool, .str, .bool, .own 1]), (1, .row 5 (.int .u8) .plain)], 2, []⟩
noncomputable def f384v1U : Shape := ⟨[], [(0, .var 110 [.int .i64, .int .i64, .int .i64, .bool, .str, .bool, .own 2]), (2, .row 5 (.int .u8) .plain)], 3, []⟩
noncomputable def f384v1T (k : Nat) : Table := [(105, entG f405v1I f405v1U (f405v1F k))]
theorem f384v1TS (k : Nat) : Sound P (f384v1T k) := (Sound.nil).consE f405B (entG_ok (f405v1Ok k))
noncomputable def f384v1p0H : Shape := ⟨[(0, .one (.ptr 0 0)), (1, .one (.int .u8)), (2, .one (.int .i64)), (6, .one (.bool))], [(0, .var 110 [.int .i64, .int .i64, .int .i64, .bool, .str, .bool, .own 1]), (1, .row 5 (.int .u8) .plain)], 2, [some 0, some 1]⟩
noncomputable def f384v1p0X0 : Shape := ⟨[(0, .one (.ptr 0 0)), (1, .one (.int .u8)), (2, .one (.int .i64)), (6, .one (.bool))], [(0, .var 110 [.int .i64, .int .i64, .int .i64, .bool, .str, .bool, .own 1]), (1, .row 5 (.int .u8) .plain)], 2, [some 0, some 1]⟩
noncomputable def f384v1p0N : NoteR := ⟨[0, 1, 2, 6], [], []⟩
noncomputable def f384v1p0M : NoteR := ⟨[0, 1, 2, 6], [], []⟩
noncomputable def f384v1p0C : Code := firstC (codesAt 6 (codeOf Go.Proofs.Tryd.f84) 1)
noncomputable def f384v1p0 {R : Type} (k : Nat) (k0 : Int × Int × Bool × Int × Int × Int × Bool × ByteArray × Bool × List Int × Unit → Option R) (v : Int × Int × Bool × Int × Int × Int × Bool × ByteArray × Bool × List Int × Unit) : Option R :=
  bif v.2.2.1 then
    bif (decide ((0 : Int) < (v.2.2.2.2.2.2.2.1.size : Int))) then
    bif (sliceBds (1 : Int) (v.2.2.2.2.2.2.2.1.size : Int) (v.2.2.2.2.2.2.2.1.size : Int)) then
    let t1 := (v.2.2.2.2.2.2.2.1.extract 1 (Int.toNat (v.2.2.2.2.2.2.2.1.size : Int)))
    bif v.2.2.2.2.2.2.2.2.1 then
      k0 ((bt v.2.2.2.2.2.2.2.1 (0 : Int)), v.2.1, v.2.2.1, v.2.2.2.1, v.2.2.2.2.1, v.2.2.2.2.2.1, v.2.2.2.2.2.2.1, t1, true, v.2.2.2.2.2.2.2.2.2.1, ())
    else
    k0 ((bt v.2.2.2.2.2.2.2.1 (0 : Int)), v.2.1, v.2.2.1, v.2.2.2.1, v.2.2.2.2.1, v.2.2.2.2.2.1, v.2.2.2.2.2.2.1, t1, ((bt v.2.2.2.2.2.2.2.1 (0 : Int)) != (48 : Int)), v.2.2.2.2.2.2.2.2.2.1, ())
    else none
    else none
  else
  k0 (v.1, v.2.1, v.2.2.1, v.2.2.2.1, v.2.2.2.2.1, v.2.2.2.2.2.1, v.2.2.2.2.2.2.1, v.2.2.2.2.2.2.2.1, v.2.2.2.2.2.2.2.2.1, v.2.2.2.2.2.2.2.2.2.1, ())
noncomputable def f384v1p0S (k : Nat) : Sum1 := partSum f384v1p0H f384v1p0N (fun R K v => f384v1p0 k (fun w => K .normal (encSt f384v1p0X0 w)) v)
theorem f384v1p0E (k : Nat) (R : Type) (K : X → St → Option R) (v : f384v1p0H.Den) : evS tab (f384v1T k) Go.Proofs.Tryd.f84.ntmps [] f384v1p0C 6 (partK f384v1p0M K) (encSt f384v1p0H v) = f384v1p0 k (fun w => K .normal (encSt f384v1p0X0 w)) v := by kernel_rfl
theorem f384v1p0I (k : Nat) : SumsOk P Go.Proofs.Tryd.f84.ntmps [] f384v1p0C 6 := SumsOk.nil
theorem f384v1p0O (k : Nat) : SumOk P Go.Proofs.Tryd.f84.ntmps f384v1p0C (f384v1p0S k) := sum_part tabOk (f384v1TS k) mixed (f384v1p0I k) (f384v1p0E k)
noncomputable def f384v1p1H : Shape := ⟨[(0, .one (.ptr 0 0)), (1, .one (.int .u8)), (2, .one (.int .i64)), (6, .one (.bool))], [(0, .var 110 [.int .i64, .int .i64, .int .i64, .bool, .str, .bool, .own 1]), (1, .row 5 (.int .u8) .plain)], 2, [some 0, some 1]⟩
noncomputable def f384v1p1X0 : Shape := ⟨[(0, .one (.ptr 0 0)), (1, .one (.int .u8)), (2, .one (.int .i64))], [(0, .var 110 [.int .i64, .int .i64, .int .i64, .bool, .str, .bool, .own 1]), (1, .row 5 (.int .u8) .plain)], 2, [some 0, some 1]⟩
noncomputable def f384v1p1N : NoteR := ⟨[0, 1, 2, 6], [], []⟩
noncomputable def f384v1p1M : NoteR := ⟨[0, 1, 2], [], []⟩
noncomputable def f384v1p1C : Code := firstC (codesAt 14 (codeOf Go.Proofs.Tryd.f84) 1)
noncomputable def f384v1p1 {R : Type} (k : Nat) (k0 : Int × Int × Int × Int × Int × Bool × ByteArray × Bool × List Int × Unit → Option R) (v : Int × Int × Bool × Int × Int × Int × Bool × ByteArray × Bool × List Int × Unit) : Option R :=
  bif (!v.2.2.1) then
    bif (v.1 == (38 : Int)) then
      k0 ((32 : Int), v.2.1, v.2.2.2.1, v.2.2.2.2.1, v.2.2.2.2.2.1, v.2.2.2.2.2.2.1, v.2.2.2.2.2.2.2.1, v.2.2.2.2.2.2.2.2.1, v.2.2.2.2.2.2.2.2.2.1, ())
    else
    bif (!v.2.2.2.2.2.2.2.2.1) then
      Option.bind (f405v1F k (v.2.2.2.1, v.2.2.2.2.1, v.2.2.2.2.2.1, v.2.2.2.2.2.2.1, v.2.2.2.2.2.2.2.1, v.2.2.2.2.2.2.2.2.1, v.2.2.2.2.2.2.2.2.2.1, ())) fun y3 =>
      k0 (y3.1, v.2.1, y3.2.1, y3.2.2.1, y3.2.2.2.1, y3.2.2.2.2.1, y3.2.2.2.2.2.1, y3.2.2.2.2.2.2.1, y3.2.2.2.2.2.2.2.1, ())
    else
    k0 (v.1, v.2.1, v.2.2.2.1, v.2.2.2.2.1, v.2.2.2.2.2.1, v.2.2.2.2.2.2.1, v.2.2.2.2.2.2.2.1, v.2.2.2.2.2.2.2.2.1, v.2.2.2.2.2.2.2.2.2.1, ())
  else
  bif (!v.2.2.2.2.2.2.2.2.1) then
    Option.bind (f405v1F k (v.2.2.2.1, v.2.2.2.2.1, v.2.2.2.2.2.1, v.2.2.2.2.2.2.1, v.2.2.2.2.2.2.2.1, v.2.2.2.2.2.2.2.2.1, v.2.2.2.2.2.2.2.2.2.1, ())) fun y4 =>
    k0 (y4.1, v.2.1, y4.2.1, y4.2.2.1, y4.2.2.2.1, y4.2.2.2.2.1, y4.2.2.2.2.2.1, y4.2.2.2.2.2.2.1, y4.2.2.2.2.2.2.2.1, ())
  else
  k0 (v.1, v.2.1, v.2.2.2.1, v.2.2.2.2.1, v.2.2.2.2.2.1, v.2.2.2.2.2.2.1, v.2.2.2.2.2.2.2.1, v.2.2.2.2.2.2.2.2.1, v.2.2.2.2.2.2.2.2.2.1, ())
noncomputable def f384v1p1S (k : Nat) : Sum1 := partSum f384v1p1H f384v1p1N (fun R K v => f384v1p1 k (fun w => K .normal (encSt f384v1p1X0 w)) v)
theorem f384v1p1E (k : Nat) (R : Type) (K : X → St → Option R) (v : f384v1p1H.Den) : evS tab (f384v1T k) Go.Proofs.Tryd.f84.ntmps [] f384v1p1C 14 (partK f384v1p1M K) (encSt f384v1p1H v) = f384v1p1 k (fun w => K .normal (encSt f384v1p1X0 w)) v := by kernel_rfl
theorem f384v1p1I (k : Nat) : SumsOk P Go.Proofs.Tryd.f84.ntmps [] f384v1p1C 14 := SumsOk.nil
theorem f384v1p1O (k : Nat) : SumOk P Go.Proofs.Tryd.f84.ntmps f384v1p1C (f384v1p1S k) := sum_part tabOk (f384v1TS k) mixed (f384v1p1I k) (f384v1p1E k)
noncomputable def f384v1F (k : Nat) (x : Int × Int × Int × Int × Int × Bool × ByteArray × Bool × List Int × Unit) : Option (Int × Int × Int × Bool × ByteArray × Bool × List Int × Unit) :=
  bif (x.1 == (32 : Int)) then
    f384v1p0 k
      (fun (w2 : Int × Int × Bool × Int × Int × Int × Bool × ByteArray × Bool × List Int × Unit) =>
        f384v1p1 k
          (fun (w5 : Int × Int × Int × Int × Int × Bool × ByteArray × Bool × List Int × Unit) =>
            bif (decide ((w5.2.2.2.2.2.2.2.2.1.length + [w5.1].length) * 1 ≤ 140737488355328) && decide (w5.2.2.2.2.2.2.2.2.1.length + [w5.1].length ≤ 9223372036854775807)) then
            bif w5.2.2.2.2.2.2.2.1 then
              some (w5.2.2.1, w5.2.2.2.1, w5.2.2.2.2.1, w5.2.2.2.2.2.1, w5.2.2.2.2.2.2.1, true, (w5.2.2.2.2.2.2.2.2.1 ++ [w5.1]), ())
            else
            some (w5.2.2.1, w5.2.2.2.1, w5.2.2.2.2.1, w5.2.2.2.2.2.1, w5.2.2.2.2.2.2.1, (w5.2.1 == w5.2.2.2.2.1), (w5.2.2.2.2.2.2.2.2.1 ++ [w5.1]), ())
            else none)
          (w2.1, w2.2.1, w2.2.2.1, w2.2.2.2.1, w2.2.2.2.2.1, w2.2.2.2.2.2.1, w2.2.2.2.2.2.2.1, w2.2.2.2.2.2.2.2.1, w2.2.2.2.2.2.2.2.2.1, w2.2.2.2.2.2.2.2.2.2.1, ()))
      (x.1, x.2.1, true, x.2.2.1, x.2.2.2.1, x.2.2.2.2.1, x.2.2.2.2.2.1, x.2.2.2.2.2.2.1, x.2.2.2.2.2.2.2.1, x.2.2.2.2.2.2.2.2.1, ())
  else
  f384v1p0 k
    (fun (w6 : Int × Int × Bool × Int × Int × Int × Bool × ByteArray × Bool × List Int × Unit) =>
      f384v1p1 k
        (fun (w7 : Int × Int × Int × Int × Int × Bool × ByteArray × Bool × List Int × Unit) =>
          bif (decide ((w7.2.2.2.2.2.2.2.2.1.length + [w7.1].length) * 1 ≤ 140737488355328) && decide (w7.2.2.2.2.2.2.2.2.1.length + [w7.1].length ≤ 9223372036854775807)) then
          bif w7.2.2.2.2.2.2.2.1 then
            some (w7.2.2.1, w7.2.2.2.1, w7.2.2.2.2.1, w7.2.2.2.2.2.1, w7.2.2.2.2.2.2.1, true, (w7.2.2.2.2.2.2.2.2.1 ++ [w7.1]), ())
          else
          some (w7.2.2.1, w7.2.2.2.1, w7.2.2.2.2.1, w7.2.2.2.2.2.1, w7.2.2.2.2.2.2.1, (w7.2.1 == w7.2.2.2.2.1), (w7.2.2.2.2.2.2.2.2.1 ++ [w7.1]), ())
          else none)
        (w6.1, w6.2.1, w6.2.2.1, w6.2.2.2.1, w6.2.2.2.2.1, w6.2.2.2.2.2.1, w6.2.2.2.2.2.2.1, w6.2.2.2.2.2.2.2.1, w6.2.2.2.2.2.2.2.2.1, w6.2.2.2.2.2.2.2.2.2.1, ()))
    (x.1, x.2.1, (x.2.1 == x.2.2.2.2.1), x.2.2.1, x.2.2.2.1, x.2.2.2.2.1, x.2.2.2.2.2.1, x.2.2.2.2.2.2.1, x.2.2.2.2.2.2.2.1, x.2.2.2.2.2.2.2.2.1, ())
noncomputable def f384v1L (k : Nat) : Sums := [(6, f384v1p0S k), (14, f384v1p1S k)]
theorem f384v1LS (k : Nat) : SumsOk P Go.Proofs.Tryd.f84.ntmps (f384v1L k) (codeOf Go.Proofs.Tryd.f84) 1 := ((SumsOk.nil).cons (c := f384v1p1C) (by kernel_rfl) (f384v1p1O k)).cons (c := f384v1p0C) (by kernel_rfl) (f384v1p0O k)
theorem f384v1E (k : Nat) (x : f384v1I.Den) : evG tab (f384v1T k) (f384v1L k) Go.Proofs.Tryd.f84.ntmps Go.Proofs.Tryd.f84.results.toList (codeOf Go.Proofs.Tryd.f84) f384v1I x [] f384v1U = f384v1F k x := by kernel_rfl
theorem f384v1Ok (k : Nat) (x : f384v1I.Den) (y : f384v1U.Den) (h : f384v1F k x = some y) : GnOk P 84 f384v1I f384v1U x y :=
  evG_sound tabOk (f384v1TS k) mixed Go.Proofs.Tryd.func84 (c := codeOf Go.Proofs.Tryd.f84) (by kernel_rfl) (f384v1LS k) ((f384v1E k x).trans h)
/-! ## midrange/edit.by -/
noncomputable def f341T (k : Nat) : Table := [(67, entFn [.agg (.pair (.int .i64) (.pair (.int .i64) (.int .i64))), .agg (.pair (.int .i64) .str)] [.dat .str] (f367F k)), (84, entOr (entG f384v1I f384v1U (f384v1F k)) (entG f384v0I f384v0U (f384v0F k))), (85, entFn [.dat .str, .dat .str, .dat .str] [.dat .str] (f385F k))]
theorem f341TS (k : Nat) : Sound P (f341T k) := (((Sound.nil).cons f385B (f385Ok k)).consE f384B (entOr_ok (entG_ok (f384v1Ok k)) (entG_ok (f384v0Ok k)))).cons f367B (f367Ok k)
theorem f341B : HasBody P 41 := ⟨Go.Proofs.Tryd.f41, Go.Proofs.Tryd.func41, by kernel_rfl, by kernel_rfl⟩
noncomputable def f341l0H : Shape := ⟨[(2, .one (.str)), (5, .one (.ptr 0 0)), (7, .one (.ptr 1 0)), (9, .one (.ptr 2 0)), (20, .one (.int .i64)), (21, .one (.int .i64))], [(0, .var 25 [.int .i64, .str]), (1, .var 36 [.int .i64, .int .i64, .int .i64, .bool]), (2, .var 110 [.int .i64, .int .i64, .int .i64, .bool, .str, .bool, .own 3]), (3, .row 5 (.int .u8) .plain)], 4, []⟩
noncomputable def f341l0X0 : Shape := ⟨[(2, .one (.str)), (5, .one (.ptr 0 0)), (7, .one (.ptr 1 0)), (9, .one (.ptr 2 0))], [(0, .var 25 [.int .i64, .str]), (1, .var 36 [.int .i64, .int .i64, .int .i64, .bool]), (2, .var 110 [.int .i64, .int .i64, .int .i64, .bool, .str, .bool, .own 3]), (3, .row 5 (.int .u8) .plain)], 4, []⟩
noncomputable def f341l0N : NoteR := ⟨[2, 5, 7, 9, 20, 21], [], []⟩
noncomputable def f341l0M : NoteR := ⟨[2, 5, 7, 8, 9], [], []⟩
noncomputable def f341l0C : Code := firstC (codesAt 58 (codeOf Go.Proofs.Tryd.f41) 1)
noncomputable def f341l0s {R : Type} (k : Nat) (rec : ByteArray × Int × Int × Int × ByteArray × Int × Int × Int × Bool × Int × Int × Int × Bool × ByteArray × Bool × List Int × Unit → Option R) (k0 : ByteArray × Int × ByteArray × Int × Int × Int × Bool × Int × Int × Int × Bool × ByteArray × Bool × List Int × Unit → Option R) (v : ByteArray × Int × Int × Int × ByteArray × Int × Int × Int × Bool × Int × Int × Int × Bool × ByteArray × Bool × List Int × Unit) : Option R :=
  bif (decide (v.2.2.1 < v.2.1)) then
    bif ((decide ((0 : Int) ≤ v.2.2.1)) && (decide (v.2.2.1 < (v.1.size : Int)))) then
    Option.bind (f384v1F k ((bt v.1 v.2.2.1), v.2.2.1, v.2.2.2.2.2.2.2.2.2.1, v.2.2.2.2.2.2.2.2.2.2.1, v.2.2.2.2.2.2.2.2.2.2.2.1, v.2.2.2.2.2.2.2.2.2.2.2.2.1, v.2.2.2.2.2.2.2.2.2.2.2.2.2.1, v.2.2.2.2.2.2.2.2.2.2.2.2.2.2.1, v.2.2.2.2.2.2.2.2.2.2.2.2.2.2.2.1, ())) fun y3 =>
    rec (v.1, v.2.1, (IntKind.i64.wrap (v.2.2.1 + (1 : Int))), v.2.2.2.1, v.2.2.2.2.1, v.2.2.2.2.2.1, v.2.2.2.2.2.2.1, v.2.2.2.2.2.2.2.1, v.2.2.2.2.2.2.2.2.1, y3.1, y3.2.1, y3.2.2.1, y3.2.2.2.1, y3.2.2.2.2.1, y3.2.2.2.2.2.1, y3.2.2.2.2.2.2.1, ())
    else none
  else
  k0 (v.1, v.2.2.2.1, v.2.2.2.2.1, v.2.2.2.2.2.1, v.2.2.2.2.2.2.1, v.2.2.2.2.2.2.2.1, v.2.2.2.2.2.2.2.2.1, v.2.2.2.2.2.2.2.2.2.1, v.2.2.2.2.2.2.2.2.2.2.1, v.2.2.2.2.2.2.2.2.2.2.2.1, v.2.2.2.2.2.2.2.2.2.2.2.2.1, v.2.2.2.2.2.2.2.2.2.2.2.2.2.1, v.2.2.2.2.2.2.2.2.2.2.2.2.2.2.1, v.2.2.2.2.2.2.2.2.2.2.2.2.2.2.2.1, ())
noncomputable def f341l0 {R : Type} (k : Nat) (k0 : ByteArray × Int × ByteArray × Int × Int × Int × Bool × Int × Int × Int × Bool × ByteArray × Bool × List Int × Unit → Option R) (v : ByteArray × Int × Int × Int × ByteArray × Int × Int × Int × Bool × Int × Int × Int × Bool × ByteArray × Bool × List Int × Unit) : Option R := iterS (fun rec v => f341l0s k rec k0 v) k v
noncomputable def f341l0S (k : Nat) : Sum1 := loopSum f341l0H f341l0N k (fun R rec K v => f341l0s k rec (fun w => K (.exit 0) (encSt f341l0X0 w)) v)
theorem f341l0E (k : Nat) (R : Type) (rec : St → Option R) (K : X → St → Option R) (v : f341l0H.Den) : evS tab (f341T k) Go.Proofs.Tryd.f41.ntmps [] (bodyOf f341l0C) 116 (bodyK f341l0N f341l0M rec K) (encSt f341l0H v) = f341l0s k (fun v => rec (encSt f341l0H v)) (fun w => K (.exit 0) (encSt f341l0X0 w)) v := by kernel_rfl
theorem f341l0I (k : Nat) : SumsOk P Go.Proofs.Tryd.f41.ntmps [] (bodyOf f341l0C) 116 := SumsOk.nil
theorem f341l0O (k : Nat) : SumOk P Go.Proofs.Tryd.f41.ntmps f341l0C (f341l0S k) := (show f341l0C = .loop (bodyOf f341l0C) by kernel_rfl) ▸ sum_loop tabOk (f341TS k) mixed (f341l0I k) (f341l0E k)
noncomputable def f341l1H : Shape := ⟨[(2, .one (.str)), (5, .one (.ptr 0 0)), (7, .one (.ptr 1 0)), (9, .one (.ptr 2 0)), (20, .one (.int .i64)), (21, .one (.int .i64))], [(0, .var 25 [.int .i64, .str]), (1, .var 36 [.int .i64, .int .i64, .int .i64, .bool]), (2, .var 110 [.int .i64, .int .i64, .int .i64, .bool, .str, .bool, .emp])], 3, []⟩
noncomputable def f341l1X0 : Shape := ⟨[(2, .one (.str)), (5, .one (.ptr 0 0)), (7, .one (.ptr 1 0)), (9, .one (.ptr 2 0))], [(0, .var 25 [.int .i64, .str]), (1, .var 36 [.int .i64, .int .i64, .int .i64, .bool]), (2, .var 110 [.int .i64, .int .i64, .int .i64, .bool, .str, .bool, .own 3]), (3, .row 5 (.int .u8) .plain)], 4, []⟩
noncomputable def f341l1X1 : Shape := ⟨[(2, .one (.str)), (5, .one (.ptr 0 0)), (7, .one (.ptr 1 0)), (9, .one (.ptr 2 0))], [(0, .var 25 [.int .i64, .str]), (1, .var 36 [.int .i64, .int .i64, .int .i64, .bool]), (2, .var 110 [.int .i64, .int .i64, .int .i64, .bool, .str, .bool, .emp])], 3, []⟩
noncomputable def f341l1N : NoteR := ⟨[2, 5, 7, 9, 20, 21], [], []⟩
noncomputable def f341l1M : NoteR := ⟨[2, 5, 7, 8, 9], [], []⟩
noncomputable def f341l1C : Code := firstC (codesAt 58 (codeOf Go.Proofs.Tryd.f41) 1)
noncomputable def f341l1s {R : Type} (k : Nat) (rec : ByteArray × Int × Int × Int × ByteArray × Int × Int × Int × Bool × Int × Int × Int × Bool × ByteArray × Bool × Unit → Option R) (k0 : ByteArray × Int × ByteArray × Int × Int × Int × Bool × Int × Int × Int × Bool × ByteArray × Bool × List Int × Unit → Option R) (k1 : ByteArray × Int × ByteArray × Int × Int × Int × Bool × Int × Int × Int × Bool × ByteArray × Bool × Unit → Option R) (v : ByteArray × Int × Int × Int × ByteArray × Int × Int × Int × Bool × Int × Int × Int × Bool × ByteArray × Bool × Unit) : Option R :=
  bif (decide (v.2.2.1 < v.2.1)) then
    bif ((decide ((0 : Int) ≤ v.2.2.1)) && (decide (v.2.2.1 < (v.1.size : Int)))) then
    Option.bind (f384v0F k ((bt v.1 v.2.2.1), v.2.2.1, v.2.2.2.2.2.2.2.2.2.1, v.2.2.2.2.2.2.2.2.2.2.1, v.2.2.2.2.2.2.2.2.2.2.2.1, v.2.2.2.2.2.2.2.2.2.2.2.2.1, v.2.2.2.2.2.2.2.2.2.2.2.2.2.1, v.2.2.2.2.2.2.2.2.2.2.2.2.2.2.1, ())) fun y2 =>
    f341l0 k
      (fun (w4 : ByteArray × Int × ByteArray × Int × Int × Int × Bool × Int × Int × Int × Bool × ByteArray × Bool × List Int × Unit) =>
        k0 (w4.1, w4.2.1, w4.2.2.1, w4.2.2.2.1, w4.2.2.2.2.1, w4.2.2.2.2.2.1, w4.2.2.2.2.2.2.1, w4.2.2.2.2.2.2.2.1, w4.2.2.2.2.2.2.2.2.1, w4.2.2.2.2.2.2.2.2.2.1, w4.2.2.2.2.2.2.2.2.2.2.1, w4.2.2.2.2.2.2.2.2.2.2.2.1, w4.2.2.2.2.2.2.2.2.2.2.2.2.1, w4.2.2.2.2.2.2.2.2.2.2.2.2.2.1, ()))
      (v.1, v.2.1, (IntKind.i64.wrap (v.2.2.1 + (1 : Int))), v.2.2.2.1, v.2.2.2.2.1, v.2.2.2.2.2.1, v.2.2.2.2.2.2.1, v.2.2.2.2.2.2.2.1, v.2.2.2.2.2.2.2.2.1, y2.1, y2.2.1, y2.2.2.1, y2.2.2.2.1, y2.2.2.2.2.1, y2.2.2.2.2.2.1, y2.2.2.2.2.2.2.1, ())
    else none
  else
  k1 (v.1, v.2.2.2.1, v.2.2.2.2.1, v.2.2.2.2.2.1, v.2.2.2.2.2.2.1, v.2.2.2.2.2.2.2.1, v.2.2.2.2.2.2.2.2.1, v.2.2.2.2.2.2.2.2.2.1, v.2.2.2.2.2.2.2.2.2.2.1, v.2.2.2.2.2.2.2.2.2.2.2.1, v.2.2.2.2.2.2.2.2.2.2.2.2.1, v.2.2.2.2.2.2.2.2.2.2.2.2.2.1, v.2.2.2.2.2.2.2.2.2.2.2.2.2.2.1, ())
noncomputable def f341l1 {R : Type} (k : Nat) (k0 : ByteArray × Int × ByteArray × Int × Int × Int × Bool × Int × Int × Int × Bool × ByteArray × Bool × List Int × Unit → Option R) (k1 : ByteArray × Int × ByteArray × Int × Int × Int × Bool × Int × Int × Int × Bool × ByteArray × Bool × Unit → Option R) (v : ByteArray × Int × Int × Int × ByteArray × Int × Int × Int × Bool × Int × Int × Int × Bool × ByteArray × Bool × Unit) : Option R := iterS (fun rec v => f341l1s k rec k0 k1 v) k v
theorem f341l0Rd (k : Nat) : SumRd P Go.Proofs.Tryd.f41.ntmps (bodyOf f341l0C) (f341l0S k) k := loop_rd tabOk (f341TS k) mixed (f341l0I k) (f341l0E k)
noncomputable def f341l1S (k : Nat) : Sum1 := loop2Sum f341l1H f341l1N (f341l0S k) k (fun R rec K v => f341l1s k rec (fun w => K (.exit 0) (encSt f341l1X0 w)) (fun w => K (.exit 0) (encSt f341l1X1 w)) v)
theorem f341l1E (k : Nat) (R : Type) (rec : f341l1H.Den → Option R) (K : X → St → Option R) (v : f341l1H.Den) : evS tab (f341T k) Go.Proofs.Tryd.f41.ntmps [] (bodyOf f341l1C) 116 (step2K f341l1H f341l1N f341l1M (f341l0S k) rec K) (encSt f341l1H v) = f341l1s k rec (fun w => K (.exit 0) (encSt f341l1X0 w)) (fun w => K (.exit 0) (encSt f341l1X1 w)) v := by kernel_rfl
theorem f341l1I (k : Nat) : SumsOk P Go.Proofs.Tryd.f41.ntmps [] (bodyOf f341l1C) 116 := SumsOk.nil
theorem f341l1Rd (k : Nat) : SumRd P Go.Proofs.Tryd.f41.ntmps (bodyOf f341l1C) (f341l1S k) (k + (k)) := loop2_rd tabOk (f341TS k) mixed (f341l1I k) ((show bodyOf f341l0C = bodyOf f341l1C by kernel_rfl) ▸ f341l0Rd k) (f341l1E k)
theorem f341l1O (k : Nat) : SumOk P Go.Proofs.Tryd.f41.ntmps f341l1C (f341l1S k) := (show f341l1C = .loop (bodyOf f341l1C) by kernel_rfl) ▸ (f341l1Rd k).ok
noncomputable def f341p2H : Shape := ⟨[(2, .one (.str)), (5, .one (.ptr 0 0)), (7, .one (.ptr 1 0)), (9, .one (.ptr 2 0))], [(0, .var 25 [.int .i64, .str]), (1, .var 36 [.int .i64, .int .i64, .int .i64, .bool]), (2, .var 110 [.int .i64, .int .i64, .int .i64, .bool, .str, .bool, .emp])], 3, []⟩
noncomputable def f341p2X0 : Shape := ⟨[(2, .one (.str)), (5, .one (.ptr 0 0)), (7, .one (.ptr 1 0)), (9, .one (.ptr 2 0))], [(0, .var 25 [.int .i64, .str]), (1, .var 36 [.int .i64, .int .i64, .int .i64, .bool]), (2, .var 110 [.int .i64, .int .i64, .int .i64, .bool, .str, .bool, .own 3]), (3, .row 5 (.int .u8) .plain)], 4, []⟩
noncomputable def f341p2X1 : Shape := ⟨[(2, .one (.str)), (5, .one (.ptr 0 0)), (7, .one (.ptr 1 0)), (9, .one (.ptr 2 0))], [(0, .var 25 [.int .i64, .str]), (1, .var 36 [.int .i64, .int .i64, .int .i64, .bool]), (2, .var 110 [.int .i64, .int .i64, .int .i64, .bool, .str, .bool, .emp])], 3, []⟩
noncomputable def f341p2N : NoteR := ⟨[2, 5, 7, 9], [], []⟩
noncomputable def f341p2M : NoteR := ⟨[2, 5, 7, 8, 9], [], []⟩
noncomputable def f341p2C : Code := firstC (codesAt 14 (codeOf Go.Proofs.Tryd.f41) 1)
noncomputable def f341p2 {R : Type} (k : Nat) (k0 : ByteArray × Int × ByteArray × Int × Int × Int × Bool × Int × Int × Int × Bool × ByteArray × Bool × List Int × Unit → Option R) (k1 : ByteArray × Int × ByteArray × Int × Int × Int × Bool × Int × Int × Int × Bool × ByteArray × Bool × Unit → Option R) (v : ByteArray × Int × ByteArray × Int × Int × Int × Bool × Int × Int × Int × Bool × ByteArray × Bool × Unit) : Option R :=
  f341l1 k
    (fun (w5 : ByteArray × Int × ByteArray × Int × Int × Int × Bool × Int × Int × Int × Bool × ByteArray × Bool × List Int × Unit) =>
      k0 (w5.1, w5.2.1, w5.2.2.1, w5.2.2.2.1, w5.2.2.2.2.1, w5.2.2.2.2.2.1, w5.2.2.2.2.2.2.1, w5.2.2.2.2.2.2.2.1, w5.2.2.2.2.2.2.2.2.1, w5.2.2.2.2.2.2.2.2.2.1, w5.2.2.2.2.2.2.2.2.2.2.1, w5.2.2.2.2.2.2.2.2.2.2.2.1, w5.2.2.2.2.2.2.2.2.2.2.2.2.1, w5.2.2.2.2.2.2.2.2.2.2.2.2.2.1, ()))
    (fun (w6 : ByteArray × Int × ByteArray × Int × Int × Int × Bool × Int × Int × Int × Bool × ByteArray × Bool × Unit) =>
      k1 (w6.1, w6.2.1, w6.2.2.1, w6.2.2.2.1, w6.2.2.2.2.1, w6.2.2.2.2.2.1, w6.2.2.2.2.2.2.1, w6.2.2.2.2.2.2.2.1, w6.2.2.2.2.2.2.2.2.1, w6.2.2.2.2.2.2.2.2.2.1, w6.2.2.2.2.2.2.2.2.2.2.1, w6.2.2.2.2.2.2.2.2.2.2.2.1, w6.2.2.2.2.2.2.2.2.2.2.2.2.1, ()))
    (v.1, v.2.2.2.1, (0 : Int), v.2.1, v.2.2.1, v.2.2.2.1, v.2.2.2.2.1, v.2.2.2.2.2.1, v.2.2.2.2.2.2.1, v.2.2.2.2.2.2.2.1, v.2.2.2.2.2.2.2.2.1, v.2.2.2.2.2.2.2.2.2.1, v.2.2.2.2.2.2.2.2.2.2.1, v.2.2.2.2.2.2.2.2.2.2.2.1, v.2.2.2.2.2.2.2.2.2.2.2.2.1, ())
noncomputable def f341p2S (k : Nat) : Sum1 := partSum f341p2H f341p2N (fun R K v => f341p2 k (fun w => K .normal (encSt f341p2X0 w)) (fun w => K .normal (encSt f341p2X1 w)) v)
theorem f341p2E (k : Nat) (R : Type) (K : X → St → Option R) (v : f341p2H.Den) : evS tab (f341T k) Go.Proofs.Tryd.f41.ntmps [(58, f341l1S k)] f341p2C 14 (partK f341p2M K) (encSt f341p2H v) = f341p2 k (fun w => K .normal (encSt f341p2X0 w)) (fun w => K .normal (encSt f341p2X1 w)) v := by kernel_rfl
theorem f341p2I (k : Nat) : SumsOk P Go.Proofs.Tryd.f41.ntmps [(58, f341l1S k)] f341p2C 14 := (SumsOk.nil).cons (c := f341l1C) (by kernel_rfl) (f341l1O k)
theorem f341p2O (k : Nat) : SumOk P Go.Proofs.Tryd.f41.ntmps f341p2C (f341p2S k) := sum_part tabOk (f341TS k) mixed (f341p2I k) (f341p2E k)
noncomputable def f341p3H : Shape := ⟨[(9, .one (.ptr 0 0)), (11, .one (.own 1)), (12, .one (.int .i64))], [(0, .var 110 [.int .i64, .int .i64, .int .i64, .bool, .str, .bool, .own 2]), (1, .row 5 (.int .u8) .mark), (2, .row 5 (.int .u8) .plain)], 3, []⟩
noncomputable def f341p3X0 : Shape := ⟨[(9, .one (.ptr 0 0)), (11, .one (.own 1)), (12, .one (.int .i64))], [(0, .var 110 [.int .i64, .int .i64, .int .i64, .bool, .str, .bool, .own 2]), (1, .row 5 (.int .u8) .mark), (2, .row 5 (.int .u8) .plain)], 3, []⟩
noncomputable def f341p3N : NoteR := ⟨[9, 11, 12], [], []⟩
noncomputable def f341p3M : NoteR := ⟨[2, 5, 7, 8, 9, 11, 12], [], []⟩
noncomputable def f341p3C : Code := firstC (codesAt 1002 (codeOf Go.Proofs.Tryd.f41) 1)
noncomputable def f341p3 {R : Type} (k : Nat) (k0 : Int × Int × Int × Int × Bool × ByteArray × Bool × List Int × List Int × Unit → Option R) (v : Int × Int × Int × Int × Bool × ByteArray × Bool × List Int × List Int × Unit) : Option R :=
  bif ((decide ((0 : Int) ≤ v.1)) && (decide (v.1 < (v.2.2.2.2.2.2.2.1.length : Int)))) then
  bif ((v.2.2.2.2.2.2.2.1.getD (Int.toNat v.1) (0 : Int)) == (67 : Int)) then
    bif ((decide ((0 : Int) ≤ (IntKind.i64.wrap (v.1 + (1 : Int))))) && (decide ((IntKind.i64.wrap (v.1 + (1 : Int))) < (v.2.2.2.2.2.2.2.1.length : Int)))) then
    let t9 := (v.2.2.2.2.2.2.2.1.set (Int.toNat (IntKind.i64.wrap (v.1 + (1 : Int)))) (32 : Int))
    k0 (v.1, v.2.1, v.2.2.1, v.2.2.2.1, v.2.2.2.2.1, v.2.2.2.2.2.1, v.2.2.2.2.2.2.1, t9, v.2.2.2.2.2.2.2.2.1, ())
    else none
  else
  k0 (v.1, v.2.1, v.2.2.1, v.2.2.2.1, v.2.2.2.2.1, v.2.2.2.2.2.1, v.2.2.2.2.2.2.1, v.2.2.2.2.2.2.2.1, v.2.2.2.2.2.2.2.2.1, ())
  else none
noncomputable def f341p3S (k : Nat) : Sum1 := partSum f341p3H f341p3N (fun R K v => f341p3 k (fun w => K .normal (encSt f341p3X0 w)) v)
theorem f341p3E (k : Nat) (R : Type) (K : X → St → Option R) (v : f341p3H.Den) : evS tab (f341T k) Go.Proofs.Tryd.f41.ntmps [] f341p3C 1002 (partK f341p3M K) (encSt f341p3H v) = f341p3 k (fun w => K .normal (encSt f341p3X0 w)) v := by kernel_rfl
theorem f341p3I (k : Nat) : SumsOk P Go.Proofs.Tryd.f41.ntmps [] f341p3C 1002 := SumsOk.nil
theorem f341p3O (k : Nat) : SumOk P Go.Proofs.Tryd.f41.ntmps f341p3C (f341p3S k) := sum_part tabOk (f341TS k) mixed (f341p3I k) (f341p3E k)
noncomputable def f341p4H : Shape := ⟨[(5, .one (.ptr 0 0)), (7, .one (.ptr 1 0)), (9, .one (.ptr 2 0)), (11, .one (.own 3))], [(0, .var 25 [.int .i64, .str]), (1, .var 36 [.int .i64, .int .i64, .int .i64, .bool]), (2, .var 110 [.int .i64, .int .i64, .int .i64, .bool, .str, .bool, .own 4]), (3, .row 5 (.int .u8) .mark), (4, .row 5 (.int .u8) .plain)], 5, []⟩
noncomputable def f341p4X0 : Shape := ⟨[(9, .one (.ptr 0 0)), (11, .one (.own 1))], [(0, .var 110 [.int .i64, .int .i64, .int .i64, .bool, .str, .bool, .own 2]), (1, .row 5 (.int .u8) .mark), (2, .row 5 (.int .u8) .plain)], 3, []⟩
noncomputable def f341p4X1 : Shape := ⟨[(5, .one (.ptr 0 0)), (7, .one (.ptr 1 0)), (9, .one (.ptr 2 0)), (11, .one (.own 3))], [(0, .var 25 [.int .i64, .str]), (1, .var 36 [.int .i64, .int .i64, .int .i64, .bool]), (2, .var 110 [.int .i64, .int .i64, .int .i64, .bool, .str, .bool, .own 4]), (3, .row 5 (.int .u8) .mark), (4, .row 5 (.int .u8) .plain)], 5, []⟩
noncomputable def f341p4N : NoteR := ⟨[5, 7, 9, 11], [], []⟩
noncomputable def f341p4M : NoteR := ⟨[2, 5, 7, 8, 9, 11], [], []⟩
noncomputable def f341p4C : Code := firstC (codesAt 62 (codeOf Go.Proofs.Tryd.f41) 1)
noncomputable def f341p4 {R : Type} (k : Nat) (k0 : Int × Int × Int × Bool × ByteArray × Bool × List Int × List Int × Unit → Option R) (k1 : Int × ByteArray × Int × Int × Int × Bool × Int × Int × Int × Bool × ByteArray × Bool × List Int × List Int × Unit → Option R) (v : Int × ByteArray × Int × Int × Int × Bool × Int × Int × Int × Bool × ByteArray × Bool × List Int × List Int × Unit) : Option R :=
  bif (decide (v.2.2.2.1 ≥ (0 : Int))) then
    bif (decide (v.1 ≥ (0 : Int))) then
      f341p3 k
        (fun (w10 : Int × Int × Int × Int × Bool × ByteArray × Bool × List Int × List Int × Unit) =>
          bif ((decide ((0 : Int) ≤ w10.1)) && (decide (w10.1 < (w10.2.2.2.2.2.2.2.1.length : Int)))) then
          k0 (w10.2.1, w10.2.2.1, w10.2.2.2.1, w10.2.2.2.2.1, w10.2.2.2.2.2.1, w10.2.2.2.2.2.2.1, (w10.2.2.2.2.2.2.2.1.set (Int.toNat w10.1) (32 : Int)), w10.2.2.2.2.2.2.2.2.1, ())
          else none)
        ((IntKind.i64.wrap (v.2.2.2.1 - v.2.2.1)), v.2.2.2.2.2.2.1, v.2.2.2.2.2.2.2.1, v.2.2.2.2.2.2.2.2.1, v.2.2.2.2.2.2.2.2.2.1, v.2.2.2.2.2.2.2.2.2.2.1, v.2.2.2.2.2.2.2.2.2.2.2.1, v.2.2.2.2.2.2.2.2.2.2.2.2.1, v.2.2.2.2.2.2.2.2.2.2.2.2.2.1, ())
    else
    k1 (v.1, v.2.1, v.2.2.1, v.2.2.2.1, v.2.2.2.2.1, v.2.2.2.2.2.1, v.2.2.2.2.2.2.1, v.2.2.2.2.2.2.2.1, v.2.2.2.2.2.2.2.2.1, v.2.2.2.2.2.2.2.2.2.1, v.2.2.2.2.2.2.2.2.2.2.1, v.2.2.2.2.2.2.2.2.2.2.2.1, v.2.2.2.2.2.2.2.2.2.2.2.2.1, v.2.2.2.2.2.2.2.2.2.2.2.2.2.1, ())
  else
  k1 (v.1, v.2.1, v.2.2.1, v.2.2.2.1, v.2.2.2.2.1, v.2.2.2.2.2.1, v.2.2.2.2.2.2.1, v.2.2.2.2.2.2.2.1, v.2.2.2.2.2.2.2.2.1, v.2.2.2.2.2.2.2.2.2.1, v.2.2.2.2.2.2.2.2.2.2.1, v.2.2.2.2.2.2.2.2.2.2.2.1, v.2.2.2.2.2.2.2.2.2.2.2.2.1, v.2.2.2.2.2.2.2.2.2.2.2.2.2.1, ())
noncomputable def f341p4S (k : Nat) : Sum1 := partSum f341p4H f341p4N (fun R K v => f341p4 k (fun w => K .normal (encSt f341p4X0 w)) (fun w => K .normal (encSt f341p4X1 w)) v)
theorem f341p4E (k : Nat) (R : Type) (K : X → St → Option R) (v : f341p4H.Den) : evS tab (f341T k) Go.Proofs.Tryd.f41.ntmps [(1002, f341p3S k)] f341p4C 62 (partK f341p4M K) (encSt f341p4H v) = f341p4 k (fun w => K .normal (encSt f341p4X0 w)) (fun w => K .normal (encSt f341p4X1 w)) v := by kernel_rfl
theorem f341p4I (k : Nat) : SumsOk P Go.Proofs.Tryd.f41.ntmps [(1002, f341p3S k)] f341p4C 62 := (SumsOk.nil).cons (c := f341p3C) (by kernel_rfl) (f341p3O k)
theorem f341p4O (k : Nat) : SumOk P Go.Proofs.Tryd.f41.ntmps f341p4C (f341p4S k) := sum_part tabOk (f341TS k) mixed (f341p4I k) (f341p4E k)
noncomputable def f341p5H : Shape := ⟨[(9, .one (.ptr 0 0)), (11, .one (.own 1)), (12, .one (.int .i64))], [(0, .var 110 [.int .i64, .int .i64, .int .i64, .bool, .str, .bool, .emp]), (1, .row 5 (.int .u8) .mark)], 2, []⟩
noncomputable def f341p5X0 : Shape := ⟨[(9, .one (.ptr 0 0)), (11, .one (.own 1)), (12, .one (.int .i64))], [(0, .var 110 [.int .i64, .int .i64, .int .i64, .bool, .str, .bool, .emp]), (1, .row 5 (.int .u8) .mark)], 2, []⟩
noncomputable def f341p5N : NoteR := ⟨[9, 11, 12], [], []⟩
noncomputable def f341p5M : NoteR := ⟨[2, 5, 7, 8, 9, 11, 12], [], []⟩
noncomputable def f341p5C : Code := firstC (codesAt 1002 (codeOf Go.Proofs.Tryd.f41) 1)
noncomputable def f341p5 {R : Type} (k : Nat) (k0 : Int × Int × Int × Int × Bool × ByteArray × Bool × List Int × Unit → Option R) (v : Int × Int × Int × Int × Bool × ByteArray × Bool × List Int × Unit) : Option R :=
  bif ((decide ((0 : Int) ≤ v.1)) && (decide (v.1 < (v.2.2.2.2.2.2.2.1.length : Int)))) then
  bif ((v.2.2.2.2.2.2.2.1.getD (Int.toNat v.1) (0 : Int)) == (67 : Int)) then
    bif ((decide ((0 : Int) ≤ (IntKind.i64.wrap (v.1 + (1 : Int))))) && (decide ((IntKind.i64.wrap (v.1 + (1 : Int))) < (v.2.2.2.2.2.2.2.1.length : Int)))) then
    let t16 := (v.2.2.2.2.2.2.2.1.set (Int.toNat (IntKind.i64.wrap (v.1 + (1 : Int)))) (32 : Int))
    k0 (v.1, v.2.1, v.2.2.1, v.2.2.2.1, v.2.2.2.2.1, v.2.2.2.2.2.1, v.2.2.2.2.2.2.1, t16, ())
    else none
  else
  k0 (v.1, v.2.1, v.2.2.1, v.2.2.2.1, v.2.2.2.2.1, v.2.2.2.2.2.1, v.2.2.2.2.2.2.1, v.2.2.2.2.2.2.2.1, ())
  else none
noncomputable def f341p5S (k : Nat) : Sum1 := part2Sum f341p5H f341p5N (f341p3S k) (fun R K v => f341p5 k (fun w => K .normal (encSt f341p5X0 w)) v)
theorem f341p5E (k : Nat) (R : Type) (K : X → St → Option R) (v : f341p5H.Den) : evS tab (f341T k) Go.Proofs.Tryd.f41.ntmps [] f341p5C 1002 (partK f341p5M K) (encSt f341p5H v) = f341p5 k (fun w => K .normal (encSt f341p5X0 w)) v := by kernel_rfl
theorem f341p5I (k : Nat) : SumsOk P Go.Proofs.Tryd.f41.ntmps [] f341p5C 1002 := SumsOk.nil
theorem f341p5O (k : Nat) : SumOk P Go.Proofs.Tryd.f41.ntmps f341p5C (f341p5S k) := part2_ok tabOk (f341TS k) mixed (f341p5I k) ((show f341p3C = f341p5C by kernel_rfl) ▸ f341p3O k) (f341p5E k)
noncomputable def f341p6H : Shape := ⟨[(5, .one (.ptr 0 0)), (7, .one (.ptr 1 0)), (9, .one (.ptr 2 0)), (11, .one (.own 3))], [(0, .var 25 [.int .i64, .str]), (1, .var 36 [.int .i64, .int .i64, .int .i64, .bool]), (2, .var 110 [.int .i64, .int .i64, .int .i64, .bool, .str, .bool, .emp]), (3, .row 5 (.int .u8) .mark)], 4, []⟩
noncomputable def f341p6X0 : Shape := ⟨[(9, .one (.ptr 0 0)), (11, .one (.own 1))], [(0, .var 110 [.int .i64, .int .i64, .int .i64, .bool, .str, .bool, .emp]), (1, .row 5 (.int .u8) .mark)], 2, []⟩
noncomputable def f341p6X1 : Shape := ⟨[(5, .one (.ptr 0 0)), (7, .one (.ptr 1 0)), (9, .one (.ptr 2 0)), (11, .one (.own 3))], [(0, .var 25 [.int .i64, .str]), (1, .var 36 [.int .i64, .int .i64, .int .i64, .bool]), (2, .var 110 [.int .i64, .int .i64, .int .i64, .bool, .str, .bool, .emp]), (3, .row 5 (.int .u8) .mark)], 4, []⟩
noncomputable def f341p6N : NoteR := ⟨[5, 7, 9, 11], [], []⟩
noncomputable def f341p6M : NoteR := ⟨[2, 5, 7, 8, 9, 11], [], []⟩
noncomputable def f341p6C : Code := firstC (codesAt 62 (codeOf Go.Proofs.Tryd.f41) 1)
noncomputable def f341p6 {R : Type} (k : Nat) (k0 : Int × Int × Int × Bool × ByteArray × Bool × List Int × Unit → Option R) (k1 : Int × ByteArray × Int × Int × Int × Bool × Int × Int × Int × Bool × ByteArray × Bool × List Int × Unit → Option R) (v : Int × ByteArray × Int × Int × Int × Bool × Int × Int × Int × Bool × ByteArray × Bool × List Int × Unit) : Option R :=
  bif (decide (v.2.2.2.1 ≥ (0 : Int))) then
    bif (decide (v.1 ≥ (0 : Int))) then
      f341p5 k
        (fun (w17 : Int × Int × Int × Int × Bool × ByteArray × Bool × List Int × Unit) =>
          bif ((decide ((0 : Int) ≤ w17.1)) && (decide (w17.1 < (w17.2.2.2.2.2.2.2.1.length : Int)))) then
          k0 (w17.2.1, w17.2.2.1, w17.2.2.2.1, w17.2.2.2.2.1, w17.2.2.2.2.2.1, w17.2.2.2.2.2.2.1, (w17.2.2.2.2.2.2.2.1.set (Int.toNat w17.1) (32 : Int)), ())
          else none)
        ((IntKind.i64.wrap (v.2.2.2.1 - v.2.2.1)), v.2.2.2.2.2.2.1, v.2.2.2.2.2.2.2.1, v.2.2.2.2.2.2.2.2.1, v.2.2.2.2.2.2.2.2.2.1, v.2.2.2.2.2.2.2.2.2.2.1, v.2.2.2.2.2.2.2.2.2.2.2.1, v.2.2.2.2.2.2.2.2.2.2.2.2.1, ())
    else
    k1 (v.1, v.2.1, v.2.2.1, v.2.2.2.1, v.2.2.2.2.1, v.2.2.2.2.2.1, v.2.2.2.2.2.2.1, v.2.2.2.2.2.2.2.1, v.2.2.2.2.2.2.2.2.1, v.2.2.2.2.2.2.2.2.2.1, v.2.2.2.2.2.2.2.2.2.2.1, v.2.2.2.2.2.2.2.2.2.2.2.1, v.2.2.2.2.2.2.2.2.2.2.2.2.1, ())
  else
  k1 (v.1, v.2.1, v.2.2.1, v.2.2.2.1, v.2.2.2.2.1, v.2.2.2.2.2.1, v.2.2.2.2.2.2.1, v.2.2.2.2.2.2.2.1, v.2.2.2.2.2.2.2.2.1, v.2.2.2.2.2.2.2.2.2.1, v.2.2.2.2.2.2.2.2.2.2.1, v.2.2.2.2.2.2.2.2.2.2.2.1, v.2.2.2.2.2.2.2.2.2.2.2.2.1, ())
noncomputable def f341p6S (k : Nat) : Sum1 := part2Sum f341p6H f341p6N (f341p4S k) (fun R K v => f341p6 k (fun w => K .normal (encSt f341p6X0 w)) (fun w => K .normal (encSt f341p6X1 w)) v)
theorem f341p6E (k : Nat) (R : Type) (K : X → St → Option R) (v : f341p6H.Den) : evS tab (f341T k) Go.Proofs.Tryd.f41.ntmps [(1002, f341p5S k)] f341p6C 62 (partK f341p6M K) (encSt f341p6H v) = f341p6 k (fun w => K .normal (encSt f341p6X0 w)) (fun w => K .normal (encSt f341p6X1 w)) v := by kernel_rfl
theorem f341p6I (k : Nat) : SumsOk P Go.Proofs.Tryd.f41.ntmps [(1002, f341p5S k)] f341p6C 62 := (SumsOk.nil).cons (c := f341p5C) (by kernel_rfl) (f341p5O k)
theorem f341p6O (k : Nat) : SumOk P Go.Proofs.Tryd.f41.ntmps f341p6C (f341p6S k) := part2_ok tabOk (f341TS k) mixed (f341p6I k) ((show f341p4C = f341p6C by kernel_rfl) ▸ f341p4O k) (f341p6E k)
noncomputable def f341F (k : Nat) (x : (Int × (Int × Int)) × (Int × ByteArray) × ByteArray × (Int × (Int × (Int × Bool)))) : Option (ByteArray) :=
  Option.bind (f367F k ((x.1.1, (x.1.2.1, x.1.2.2)), (x.2.1.1, x.2.1.2))) fun y1 =>
  f341p2 k
    (fun (w7 : ByteArray × Int × ByteArray × Int × Int × Int × Bool × Int × Int × Int × Bool × ByteArray × Bool × List Int × Unit) =>
      bif (sliceBds w7.2.2.2.1 (w7.1.size : Int) (w7.1.size : Int)) then
      Option.bind (f385F k ((w7.1.extract (Int.toNat w7.2.2.2.1) (Int.toNat (w7.1.size : Int))), (⟨#[38]⟩ : ByteArray), (⟨#[32]⟩ : ByteArray))) fun y8 =>
      bif (decide (y8.size ≤ 9223372036854775807)) then
      f341p4 k
        (fun (w11 : Int × Int × Int × Bool × ByteArray × Bool × List Int × List Int × Unit) =>
          bif (decide ((w11.2.2.2.2.2.2.2.1.length + w11.2.2.2.2.2.2.1.length) * 1 ≤ 140737488355328) && decide (w11.2.2.2.2.2.2.2.1.length + w11.2.2.2.2.2.2.1.length ≤ 9223372036854775807)) then
          some (strOfNums (w11.2.2.2.2.2.2.2.1 ++ w11.2.2.2.2.2.2.1))
          else none)
        (fun (w12 : Int × ByteArray × Int × Int × Int × Bool × Int × Int × Int × Bool × ByteArray × Bool × List Int × List Int × Unit) =>
          bif (decide ((w12.2.2.2.2.2.2.2.2.2.2.2.2.2.1.length + w12.2.2.2.2.2.2.2.2.2.2.2.2.1.length) * 1 ≤ 140737488355328) && decide (w12.2.2.2.2.2.2.2.2.2.2.2.2.2.1.length + w12.2.2.2.2.2.2.2.2.2.2.2.2.1.length ≤ 9223372036854775807)) then
          let t13 := (strOfNums (w12.2.2.2.2.2.2.2.2.2.2.2.2.2.1 ++ w12.2.2.2.2.2.2.2.2.2.2.2.2.1))
          some t13
          else none)
        (w7.2.1, w7.2.2.1, w7.2.2.2.1, w7.2.2.2.2.1, w7.2.2.2.2.2.1, w7.2.2.2.2.2.2.1, w7.2.2.2.2.2.2.2.1, w7.2.2.2.2.2.2.2.2.1, w7.2.2.2.2.2.2.2.2.2.1, w7.2.2.2.2.2.2.2.2.2.2.1, w7.2.2.2.2.2.2.2.2.2.2.2.1, w7.2.2.2.2.2.2.2.2.2.2.2.2.1, (bytesOf y8), w7.2.2.2.2.2.2.2.2.2.2.2.2.2.1, ())
      else none
      else none)
    (fun (w14 : ByteArray × Int × ByteArray × Int × Int × Int × Bool × Int × Int × Int × Bool × ByteArray × Bool × Unit) =>
      bif (sliceBds w14.2.2.2.1 (w14.1.size : Int) (w14.1.size : Int)) then
      Option.bind (f385F k ((w14.1.extract (Int.toNat w14.2.2.2.1) (Int.toNat (w14.1.size : Int))), (⟨#[38]⟩ : ByteArray), (⟨#[32]⟩ : ByteArray))) fun y15 =>
      bif (decide (y15.size ≤ 9223372036854775807)) then
      f341p6 k
        (fun (w18 : Int × Int × Int × Bool × ByteArray × Bool × List Int × Unit) =>
          bif (decide ((([] : List Int).length + w18.2.2.2.2.2.2.1.length) * 1 ≤ 140737488355328) && decide (([] : List Int).length + w18.2.2.2.2.2.2.1.length ≤ 9223372036854775807)) then
          some (strOfNums ([] ++ w18.2.2.2.2.2.2.1))
          else none)
        (fun (w19 : Int × ByteArray × Int × Int × Int × Bool × Int × Int × Int × Bool × ByteArray × Bool × List Int × Unit) =>
          bif (decide ((([] : List Int).length + w19.2.2.2.2.2.2.2.2.2.2.2.2.1.length) * 1 ≤ 140737488355328) && decide (([] : List Int).length + w19.2.2.2.2.2.2.2.2.2.2.2.2.1.length ≤ 9223372036854775807)) then
          some (strOfNums ([] ++ w19.2.2.2.2.2.2.2.2.2.2.2.2.1))
          else none)
        (w14.2.1, w14.2.2.1, w14.2.2.2.1, w14.2.2.2.2.1, w14.2.2.2.2.2.1, w14.2.2.2.2.2.2.1, w14.2.2.2.2.2.2.2.1, w14.2.2.2.2.2.2.2.2.1, w14.2.2.2.2.2.2.2.2.2.1, w14.2.2.2.2.2.2.2.2.2.2.1, w14.2.2.2.2.2.2.2.2.2.2.2.1, w14.2.2.2.2.2.2.2.2.2.2.2.2.1, (bytesOf y15), ())
      else none
      else none)
    (x.2.2.1, x.2.1.1, x.2.1.2, x.2.2.2.1, x.2.2.2.2.1, x.2.2.2.2.2.1, x.2.2.2.2.2.2, x.2.2.2.1, x.2.2.2.2.1, x.2.2.2.2.2.1, x.2.2.2.2.2.2, y1, false, ())
noncomputable def f341L (k : Nat) : Sums := [(58, f341l1S k), (14, f341p2S k), (1002, f341p5S k), (62, f341p6S k)]
theorem f341LS (k : Nat) : SumsOk P Go.Proofs.Tryd.f41.ntmps (f341L k) (codeOf Go.Proofs.Tryd.f41) 1 := ((((SumsOk.nil).cons (c := f341p6C) (by kernel_rfl) (f341p6O k)).cons (c := f341p5C) (by kernel_rfl) (f341p5O k)).cons (c := f341p2C) (by kernel_rfl) (f341p2O k)).cons (c := f341l1C) (by kernel_rfl) (f341l1O k)
theorem f341E (k : Nat) (x : (Int × (Int × Int)) × (Int × ByteArray) × ByteArray × (Int × (Int × (Int × Bool)))) : evFS tab (f341T k) (f341L k) Go.Proofs.Tryd.f41.ntmps Go.Proofs.Tryd.f41.results.toList (codeOf Go.Proofs.Tryd.f41) (argsV [.agg (.pair (.int .i64) (.pair (.int .i64) (.int .i64))), .agg (.pair (.int .i64) .str), .dat .str, .agg (.pair (.int .i64) (.pair (.int .i64) (.pair (.int .i64) .bool)))] x) [.dat .str] = f341F k x := by kernel_rfl
theorem f341Ok (k : Nat) (x : (Int × (Int × Int)) × (Int × ByteArray) × ByteArray × (Int × (Int × (Int × Bool)))) (y : ByteArray) (h : f341F k x = some y) : FnOk P 41 [.agg (.pair (.int .i64) (.pair (.int .i64) (.int .i64))), .agg (.pair (.int .i64) .str), .dat .str, .agg (.pair (.int .i64) (.pair (.int .i64) (.pair (.int .i64) .bool)))] [.dat .str] x y :=
  evFS_sound tabOk (f341TS k) mixed Go.Proofs.Tryd.func41 (c := codeOf Go.Proofs.Tryd.f41) (by kernel_rfl) (f341LS k) ((f341E k x).trans h)
/-! ## midrange/edit.EditedBy -/
noncomputable def f318T (k : Nat) : Table := [(25, entFn [.agg (.pair (.int .i64) (.pair (.int .i64) (.int .i64))), .agg (.pair (.int .i64) .str)] [.dat (.int .i64)] (f29F k)), (34, entFn [.dat (.slice (.int .i64))] [.dat (.int .i64)] (f334F k)), (40, entFn [.agg (.pair (.int .i64) (.pair (.int .i64) (.int .i64))), .dat .str] [.agg (.pair (.int .i64) (.pair (.int .i64) (.pair (.int .i64) .bool))), .dat (.int .i64)] (f340F k)), (41, entFn [.agg (.pair (.int .i64) (.pair (.int .i64) (.int .i64))), .agg (.pair (.int .i64) .str), .dat .str, .agg (.pair (.int .i64) (.pair (.int .i64) (.pair (.int .i64) .bool)))] [.dat .str] (f341F k))]
theorem f318TS (k : Nat) : Sound P (f318T k) := ((((Sound.nil).cons f341B (f341Ok k)).cons f340B (f340Ok k)).cons f334B (f334Ok k)).cons f29B (f29Ok k)
theorem f318B : HasBody P 18 := ⟨Go.Proofs.Tryd.f18, Go.Proofs.Tryd.func18, by kernel_rfl, by kernel_rfl⟩
noncomputable def f318F (k : Nat) (x : (Int × (Int × Int)) × (Int × ByteArray) × ByteArray) : Option (ByteArray × Int) :=
  Option.bind (f340F k ((x.1.1, (x.1.2.1, x.1.2.2)), x.2.2)) fun y1 =>
  Option.bind (f29F k ((x.1.1, (x.1.2.1, x.1.2.2)), (x.2.1.1, x.2.1.2))) fun y2 =>
  Option.bind (f334F k [y1.2, y2]) fun y3 =>
  bif (y3 != (0 : Int)) then
    some (ByteArray.empty, y3)
  else
  Option.bind (f341F k ((x.1.1, (x.1.2.1, x.1.2.2)), (x.2.1.1, x.2.1.2), x.2.2, (y1.1.1, (y1.1.2.1, (y1.1.2.2.1, y1.1.2.2.2))))) fun y4 =>
  some (y4, (0 : Int))
noncomputable def f318L (k : Nat) : Sums := []
theorem f318LS (k : Nat) : SumsOk P Go.Proofs.Tryd.f18.ntmps (f318L k) (codeOf Go.Proofs.Tryd.f18) 1 := SumsOk.nil
theorem f318E (k : Nat) (x : (Int × (Int × Int)) × (Int × ByteArray) × ByteArray) : evFS tab (f318T k) (f318L k) Go.Proofs.Tryd.f18.ntmps Go.Proofs.Tryd.f18.results.toList (codeOf Go.Proofs.Tryd.f18) (argsV [.agg (.pair (.int .i64) (.pair (.int .i64) (.int .i64))), .agg (.pair (.int .i64) .str), .dat .str] x) [.dat .str, .dat (.int .i64)] = f318F k x := by kernel_rfl
theorem f318Ok (k : Nat) (x : (Int × (Int × Int)) × (Int × ByteArray) × ByteArray) (y : ByteArray × Int) (h : f318F k x = some y) : FnOk P 18 [.agg (.pair (.int .i64) (.pair (.int .i64) (.int .i64))), .agg (.pair (.int .i64) .str), .dat .str] [.dat .str, .dat (.int .i64)] x y :=
  evFS_sound tabOk (f318TS k) mixed Go.Proofs.Tryd.func18 (c := codeOf Go.Proofs.Tryd.f18) (by kernel_rfl) (f318LS k) ((f318E k x).trans h)
/-! ## midrange/midrangelaw02.awake -/
noncomputable def f313T (k : Nat) : Table := [(14, entFn [.agg (.pair (.int .i64) (.pair (.int .i64) (.int .i64))), .agg (.pair (.int .i64) .str), .agg (.pair (.int .u8) (.int .i64))] [.dat .str, .dat (.int .i64)] (f314F k)), (18, entFn [.agg (.pair (.int .i64) (.pair (.int .i64) (.int .i64))), .agg (.pair (.int .i64) .str), .dat .str] [.dat .str, .dat (.int .i64)] (f318F k))]
theorem f313TS (k : Nat) : Sound P (f313T k) := ((Sound.nil).cons f318B (f318Ok k)).cons f314B (f314Ok k)
theorem f313B : HasBody P 13 := ⟨Go.Proofs.Tryd.f13, Go.Proofs.Tryd.func13, by kernel_rfl, by kernel_rfl⟩
noncomputable def f313F (k : Nat) (x : Unit) : Option (Bool) :=
  Option.bind (f314F k (((2 : Int), ((7 : Int), (2 : Int))), ((-123450 : Int), ByteArray.empty), ((74 : Int), (0 : Int)))) fun y1 =>
  Option.bind (f318F k (((2 : Int), ((5 : Int), (0 : Int))), ((-12345 : Int), ByteArray.empty), (⟨#[32, 32, 48, 46, 32, 32, 67, 82]⟩ : ByteArray))) fun y2 =>
  bif (y1.2 == (0 : Int)) then
    bif (strEq y1.1 (⟨#[32, 49, 44, 50, 51, 52, 46, 53, 48, 45]⟩ : ByteArray)) then
      bif (y2.2 == (0 : Int)) then
        some (strEq y2.1 (⟨#[49, 50, 51, 46, 52, 53, 67, 82]⟩ : ByteArray))
      else
      some false
    else
    some false
  else
  some false
noncomputable def f313L (k : Nat) : Sums := []
theorem f313LS (k : Nat) : SumsOk P Go.Proofs.Tryd.f13.ntmps (f313L k) (codeOf Go.Proofs.Tryd.f13) 1 := SumsOk.nil
theorem f313E (k : Nat) (x : Unit) : evFS tab (f313T k) (f313L k) Go.Proofs.Tryd.f13.ntmps Go.Proofs.Tryd.f13.results.toList (codeOf Go.Proofs.Tryd.f13) (argsV [] x) [.dat .bool] = f313F k x := by kernel_rfl
theorem f313Ok (k : Nat) (x : Unit) (y : Bool) (h : f313F k x = some y) : FnOk P 13 [] [.dat .bool] x y :=
  evFS_sound tabOk (f313TS k) mixed Go.Proofs.Tryd.func13 (c := codeOf Go.Proofs.Tryd.f13) (by kernel_rfl) (f313LS k) ((f313E k x).trans h)
/-! ## midrange/midrangebase.Within -/
noncomputable def f48T (k : Nat) : Table := []
theorem f48TS (k : Nat) : Sound P (f48T k) := Sound.nil
theorem f48B : HasBody P 33 := ⟨Go.Proofs.Tryd.f33, Go.Proofs.Tryd.func33, by kernel_rfl, by kernel_rfl⟩
noncomputable def f48F (k : Nat) (x : Int × Int × Int) : Option (Bool) :=
  bif (decide (x.2.1 ≤ x.1)) then
    some (decide (x.1 ≤ x.2.2))
  else
  some false
noncomputable def f48L (k : Nat) : Sums := []
theorem f48LS (k : Nat) : SumsOk P Go.Proofs.Tryd.f33.ntmps (f48L k) (codeOf Go.Proofs.Tryd.f33) 1 := SumsOk.nil
theorem f48E (k : Nat) (x : Int × Int × Int) : evFS tab (f48T k) (f48L k) Go.Proofs.Tryd.f33.ntmps Go.Proofs.Tryd.f33.results.toList (codeOf Go.Proofs.Tryd.f33) (argsV [.dat (.int .i64), .dat (.int .i64), .dat (.int .i64)] x) [.dat .bool] = f48F k x := by kernel_rfl
theorem f48Ok (k : Nat) (x : Int × Int × Int) (y : Bool) (h : f48F k x = some y) : FnOk P 33 [.dat (.int .i64), .dat (.int .i64), .dat (.int .i64)] [.dat .bool] x y :=
  evFS_sound tabOk (f48TS k) mixed Go.Proofs.Tryd.func33 (c := codeOf Go.Proofs.Tryd.f33) (by kernel_rfl) (f48LS k) ((f48E k x).trans h)
/-! ## midrange/midrangeref01.IsNumeric -/
noncomputable def f68T (k : Nat) : Table := [(33, entFn [.dat (.int .i64), .dat (.int .i64), .dat (.int .i64)] [.dat .bool] (f48F k))]
theorem f68TS (k : Nat) : Sound P (f68T k) := (Sound.nil).cons f48B (f48Ok k)
theorem f68B : HasBody P 45 := ⟨Go.Proofs.Tryd.f45, Go.Proofs.Tryd.func45, by kernel_rfl, by kernel_rfl⟩
noncomputable def f68F (k : Nat) (x : Int) : Option (Bool) :=
  Option.bind (f48F k (x, (1 : Int), (3 : Int))) fun y1 =>
  some y1
noncomputable def f68L (k : Nat) : Sums := []
theorem f68LS (k : Nat) : SumsOk P Go.Proofs.Tryd.f45.ntmps (f68L k) (codeOf Go.Proofs.Tryd.f45) 1 := SumsOk.nil
theorem f68E (k : Nat) (x : Int) : evFS tab (f68T k) (f68L k) Go.Proofs.Tryd.f45.ntmps Go.Proofs.Tryd.f45.results.toList (codeOf Go.Proofs.Tryd.f45) (argsV [.dat (.int .i64)] x) [.dat .bool] = f68F k x := by kernel_rfl
theorem f68Ok (k : Nat) (x : Int) (y : Bool) (h : f68F k x = some y) : FnOk P 45 [.dat (.int .i64)] [.dat .bool] x y :=
  evFS_sound tabOk (f68TS k) mixed Go.Proofs.Tryd.func45 (c := codeOf Go.Proofs.Tryd.f45) (by kernel_rfl) (f68LS k) ((f68E k x).trans h)
/-! ## midrange/midrangebase.Count -/
noncomputable def f69T (k : Nat) : Table := []
theorem f69TS (k : Nat) : Sound P (f69T k) := Sound.nil
theorem f69B : HasBody P 56 := ⟨Go.Proofs.Tryd.f56, Go.Proofs.Tryd.func56, by kernel_rfl, by kernel_rfl⟩
noncomputable def f69F (k : Nat) (x : Bool) : Option (Int) :=
  bif x then
    some (1 : Int)
  else
  some (0 : Int)
noncomputable def f69L (k : Nat) : Sums := []
theorem f69LS (k : Nat) : SumsOk P Go.Proofs.Tryd.f56.ntmps (f69L k) (codeOf Go.Proofs.Tryd.f56) 1 := SumsOk.nil
theorem f69E (k : Nat) (x : Bool) : evFS tab (f69T k) (f69L k) Go.Proofs.Tryd.f56.ntmps Go.Proofs.Tryd.f56.results.toList (codeOf Go.Proofs.Tryd.f56) (argsV [.dat .bool] x) [.dat (.int .i64)] = f69F k x := by kernel_rfl
theorem f69Ok (k : Nat) (x : Bool) (y : Int) (h : f69F k x = some y) : FnOk P 56 [.dat .bool] [.dat (.int .i64)] x y :=
  evFS_sound tabOk (f69TS k) mixed Go.Proofs.Tryd.func56 (c := codeOf Go.Proofs.Tryd.f56) (by kernel_rfl) (f69LS k) ((f69E k x).trans h)
/-! ## midrange/midrangeref01.TypeErr -/
noncomputable def f27T (k : Nat) : Table := [(33, entFn [.dat (.int .i64), .dat (.int .i64), .dat (.int .i64)] [.dat .bool] (f48F k)), (45, entFn [.dat (.int .i64)] [.dat .bool] (f68F k)), (56, entFn [.dat .bool] [.dat (.int .i64)] (f69F k))]
theorem f27TS (k : Nat) : Sound P (f27T k) := (((Sound.nil).cons f69B (f69Ok k)).cons f68B (f68Ok k)).cons f48B (f48Ok k)
theorem f27B : HasBody P 44 := ⟨Go.Proofs.Tryd.f44, Go.Proofs.Tryd.func44, by kernel_rfl, by kernel_rfl⟩
noncomputable def f27p0H : Shape := ⟨[(1, .one (.ptr 0 0)), (3, .one (.bool)), (13, .one (.int .i64))], [(0, .var 23 [.int .i64, .int .i64, .int .i64])], 1, []⟩
noncomputable def f27p0X0 : Shape := ⟨[(1, .one (.ptr 0 0)), (3, .one (.bool)), (13, .one (.int .i64)), (19, .one (.bool))], [(0, .var 23 [.int .i64, .int .i64, .int .i64])], 1, []⟩
noncomputable def f27p0N : NoteR := ⟨[1, 3, 13], [], []⟩
noncomputable def f27p0M : NoteR := ⟨[1, 2, 3, 13, 19], [], []⟩
noncomputable def f27p0C : Code := firstC (codesAt 982 (codeOf Go.Proofs.Tryd.f44) 1)
noncomputable def f27p0 {R : Type} (k : Nat) (k0 : Bool × Int × Bool × Int × Int × Int × Unit → Option R) (v : Bool × Int × Int × Int × Int × Unit) : Option R :=
  bif (v.2.1 == (1 : Int)) then
    k0 (v.1, v.2.1, (v.2.1 == (1 : Int)), v.2.2.1, v.2.2.2.1, v.2.2.2.2.1, ())
  else
  k0 (v.1, v.2.1, (v.2.1 == (2 : Int)), v.2.2.1, v.2.2.2.1, v.2.2.2.2.1, ())
noncomputable def f27p0S (k : Nat) : Sum1 := partSum f27p0H f27p0N (fun R K v => f27p0 k (fun w => K .normal (encSt f27p0X0 w)) v)
theorem f27p0E (k : Nat) (R : Type) (K : X → St → Option R) (v : f27p0H.Den) : evS tab (f27T k) Go.Proofs.Tryd.f44.ntmps [] f27p0C 982 (partK f27p0M K) (encSt f27p0H v) = f27p0 k (fun w => K .normal (encSt f27p0X0 w)) v := by kernel_rfl
theorem f27p0I (k : Nat) : SumsOk P Go.Proofs.Tryd.f44.ntmps [] f27p0C 982 := SumsOk.nil
theorem f27p0O (k : Nat) : SumOk P Go.Proofs.Tryd.f44.ntmps f27p0C (f27p0S k) := sum_part tabOk (f27TS k) mixed (f27p0I k) (f27p0E k)
noncomputable def f27p1H : Shape := ⟨[(1, .one (.ptr 0 0)), (3, .one (.bool))], [(0, .var 23 [.int .i64, .int .i64, .int .i64])], 1, []⟩
noncomputable def f27p1X0 : Shape := ⟨[(1, .one (.ptr 0 0)), (3, .one (.bool))], [(0, .var 23 [.int .i64, .int .i64, .int .i64])], 1, []⟩
noncomputable def f27p1N : NoteR := ⟨[1, 3], [], []⟩
noncomputable def f27p1M : NoteR := ⟨[1, 2, 3], [], []⟩
noncomputable def f27p1C : Code := firstC (codesAt 30 (codeOf Go.Proofs.Tryd.f44) 1)
noncomputable def f27p1 {R : Type} (k : Nat) (k0 : Bool × Int × Int × Int × Unit → Option R) (v : Bool × Int × Int × Int × Unit) : Option R :=
  bif (v.2.1 == (0 : Int)) then
    Option.bind (f48F k (v.2.2.1, (1 : Int), (256 : Int))) fun y2 =>
    k0 (y2, v.2.1, v.2.2.1, v.2.2.2.1, ())
  else
  f27p0 k
    (fun (w3 : Bool × Int × Bool × Int × Int × Int × Unit) =>
      bif w3.2.2.1 then
        Option.bind (f48F k (w3.2.2.2.2.1, (1 : Int), (15 : Int))) fun y4 =>
        k0 (y4, w3.2.2.2.1, w3.2.2.2.2.1, w3.2.2.2.2.2.1, ())
      else
      bif (w3.2.1 == (3 : Int)) then
        bif (w3.2.2.2.2.1 == (4 : Int)) then
          k0 (true, w3.2.2.2.1, w3.2.2.2.2.1, w3.2.2.2.2.2.1, ())
        else
        k0 ((w3.2.2.2.2.1 == (9 : Int)), w3.2.2.2.1, w3.2.2.2.2.1, w3.2.2.2.2.2.1, ())
      else
      k0 (w3.1, w3.2.2.2.1, w3.2.2.2.2.1, w3.2.2.2.2.2.1, ()))
    (v.1, v.2.1, v.2.1, v.2.2.1, v.2.2.2.1, ())
noncomputable def f27p1S (k : Nat) : Sum1 := partSum f27p1H f27p1N (fun R K v => f27p1 k (fun w => K .normal (encSt f27p1X0 w)) v)
theorem f27p1E (k : Nat) (R : Type) (K : X → St → Option R) (v : f27p1H.Den) : evS tab (f27T k) Go.Proofs.Tryd.f44.ntmps [(982, f27p0S k)] f27p1C 30 (partK f27p1M K) (encSt f27p1H v) = f27p1 k (fun w => K .normal (encSt f27p1X0 w)) v := by kernel_rfl
theorem f27p1I (k : Nat) : SumsOk P Go.Proofs.Tryd.f44.ntmps [(982, f27p0S k)] f27p1C 30 := (SumsOk.nil).cons (c := f27p0C) (by kernel_rfl) (f27p0O k)
theorem f27p1O (k : Nat) : SumOk P Go.Proofs.Tryd.f44.ntmps f27p1C (f27p1S k) := sum_part tabOk (f27TS k) mixed (f27p1I k) (f27p1E k)
noncomputable def f27p2H : Shape := ⟨[(1, .one (.ptr 0 0)), (4, .one (.int .i64))], [(0, .var 23 [.int .i64, .int .i64, .int .i64])], 1, []⟩
noncomputable def f27p2X0 : Shape := ⟨[(1, .one (.ptr 0 0)), (4, .one (.int .i64))], [(0, .var 23 [.int .i64, .int .i64, .int .i64])], 1, []⟩
noncomputable def f27p2N : NoteR := ⟨[1, 4], [], []⟩
noncomputable def f27p2M : NoteR := ⟨[1, 2, 4], [], []⟩
noncomputable def f27p2C : Code := firstC (codesAt 254 (codeOf Go.Proofs.Tryd.f44) 1)
noncomputable def f27p2 {R : Type} (k : Nat) (k0 : Int × Int × Int × Int × Unit → Option R) (v : Int × Int × Int × Int × Unit) : Option R :=
  Option.bind (f68F k v.2.1) fun y6 =>
  bif y6 then
    k0 (v.2.2.1, v.2.1, v.2.2.1, v.2.2.2.1, ())
  else
  k0 (v.1, v.2.1, v.2.2.1, v.2.2.2.1, ())
noncomputable def f27p2S (k : Nat) : Sum1 := partSum f27p2H f27p2N (fun R K v => f27p2 k (fun w => K .normal (encSt f27p2X0 w)) v)
theorem f27p2E (k : Nat) (R : Type) (K : X → St → Option R) (v : f27p2H.Den) : evS tab (f27T k) Go.Proofs.Tryd.f44.ntmps [] f27p2C 254 (partK f27p2M K) (encSt f27p2H v) = f27p2 k (fun w => K .normal (encSt f27p2X0 w)) v := by kernel_rfl
theorem f27p2I (k : Nat) : SumsOk P Go.Proofs.Tryd.f44.ntmps [] f27p2C 254 := SumsOk.nil
theorem f27p2O (k : Nat) : SumOk P Go.Proofs.Tryd.f44.ntmps f27p2C (f27p2S k) := sum_part tabOk (f27TS k) mixed (f27p2I k) (f27p2E k)
noncomputable def f27F (k : Nat) (x : (Int × (Int × Int))) : Option (Int) :=
  Option.bind (f48F k (x.1, (0 : Int), (4 : Int))) fun y1 =>
  bif (!y1) then
    some (4 : Int)
  else
  f27p1 k
    (fun (w5 : Bool × Int × Int × Int × Unit) =>
      bif (!w5.1) then
        some (18 : Int)
      else
      f27p2 k
        (fun (w7 : Int × Int × Int × Int × Unit) =>
          Option.bind (f48F k (w7.2.2.2.1, (0 : Int), w7.1)) fun y8 =>
          Option.bind (f69F k (!y8)) fun y9 =>
          some (IntKind.i64.wrap ((3 : Int) * y9)))
        ((0 : Int), w5.2.1, w5.2.2.1, w5.2.2.2.1, ()))
    ((x.2.1 == (0 : Int)), x.1, x.2.1, x.2.2, ())
noncomputable def f27L (k : Nat) : Sums := [(982, f27p0S k), (30, f27p1S k), (254, f27p2S k)]
theorem f27LS (k : Nat) : SumsOk P Go.Proofs.Tryd.f44.ntmps (f27L k) (codeOf Go.Proofs.Tryd.f44) 1 := (((SumsOk.nil).cons (c := f27p2C) (by kernel_rfl) (f27p2O k)).cons (c := f27p1C) (by kernel_rfl) (f27p1O k)).cons (c := f27p0C) (by kernel_rfl) (f27p0O k)
theorem f27E (k : Nat) (x : (Int × (Int × Int))) : evFS tab (f27T k) (f27L k) Go.Proofs.Tryd.f44.ntmps Go.Proofs.Tryd.f44.results.toList (codeOf Go.Proofs.Tryd.f44) (argsV [.agg (.pair (.int .i64) (.pair (.int .i64) (.int .i64)))] x) [.dat (.int .i64)] = f27F k x := by kernel_rfl
theorem f27Ok (k : Nat) (x : (Int × (Int × Int))) (y : Int) (h : f27F k x = some y) : FnOk P 44 [.agg (.pair (.int .i64) (.pair (.int .i64) (.int .i64)))] [.dat (.int .i64)] x y :=
  evFS_sound tabOk (f27TS k) mixed Go.Proofs.Tryd.func44 (c := codeOf Go.Proofs.Tryd.f44) (by kernel_rfl) (f27LS k) ((f27E k x).trans h)
/-! ## midrange/midrangeref02.in -/
noncomputable def f346T (k : Nat) : Table := []
theorem f346TS (k : Nat) : Sound P (f346T k) := Sound.nil
theorem f346B : HasBody P 46 := ⟨Go.Proofs.Tryd.f46, Go.Proofs.Tryd.func46, by kernel_rfl, by kernel_rfl⟩
noncomputable def f346l0H : Shape := ⟨[(0, .one (.int .u8)), (1, .one (.str)), (5, .one (.int .i64))], [], 0, []⟩
noncomputable def f346l0X0 : Shape := ⟨[(4, .one (.bool))], [], 0, []⟩
noncomputable def f346l0X1 : Shape := ⟨[], [], 0, []⟩
noncomputable def f346l0N : NoteR := ⟨[0, 1, 5], [], []⟩
noncomputable def f346l0M : NoteR := ⟨[4], [], []⟩
noncomputable def f346l0C : Code := firstC (codesAt 26 (codeOf Go.Proofs.Tryd.f46) 1)
noncomputable def f346l0s {R : Type} (k : Nat) (rec : Int × ByteArray × Int × Unit → Option R) (k0 : Bool × Unit → Option R) (k1 : Unit → Option R) (v : Int × ByteArray × Int × Unit) : Option R :=
  bif (decide (v.2.2.1 < (v.2.1.size : Int))) then
    bif ((decide ((0 : Int) ≤ v.2.2.1)) && (decide (v.2.2.1 < (v.2.1.size : Int)))) then
    bif ((bt v.2.1 v.2.2.1) == v.1) then
      k0 (true, ())
    else
    rec (v.1, v.2.1, (IntKind.i64.wrap (v.2.2.1 + (1 : Int))), ())
    else none
  else
  k1 (())
noncomputable def f346l0 {R : Type} (k : Nat) (k0 : Bool × Unit → Option R) (k1 : Unit → Option R) (v : Int × ByteArray × Int × Unit) : Option R := iterS (fun rec v => f346l0s k rec k0 k1 v) k v
noncomputable def f346l0S (k : Nat) : Sum1 := loopSum f346l0H f346l0N k (fun R rec K v => f346l0s k rec (fun w => K .ret (encSt f346l0X0 w)) (fun w => K (.exit 0) (encSt f346l0X1 w)) v)
theorem f346l0E (k : Nat) (R : Type) (rec : St → Option R) (K : X → St → Option R) (v : f346l0H.Den) : evS tab (f346T k) Go.Proofs.Tryd.f46.ntmps [] (bodyOf f346l0C) 52 (bodyK f346l0N f346l0M rec K) (encSt f346l0H v) = f346l0s k (fun v => rec (encSt f346l0H v)) (fun w => K .ret (encSt f346l0X0 w)) (fun w => K (.exit 0) (encSt f346l0X1 w)) v := by kernel_rfl
theorem f346l0I (k : Nat) : SumsOk P Go.Proofs.Tryd.f46.ntmps [] (bodyOf f346l0C) 52 := SumsOk.nil
theorem f346l0O (k : Nat) : SumOk P Go.Proofs.Tryd.f46.ntmps f346l0C (f346l0S k) := (show f346l0C = .loop (bodyOf f346l0C) by kernel_rfl) ▸ sum_loop tabOk (f346TS k) mixed (f346l0I k) (f346l0E k)
noncomputable def f346F (k : Nat) (x : Int × ByteArray) : Option (Bool) :=
  f346l0 k
    (fun (w1 : Bool × Unit) =>
      some w1.1)
    (fun (w2 : Unit) =>
      some false)
    (x.1, x.2, (0 : Int), ())
noncomputable def f346L (k : Nat) : Sums := [(26, f346l0S k)]
theorem f346LS (k : Nat) : SumsOk P Go.Proofs.Tryd.f46.ntmps (f346L k) (codeOf Go.Proofs.Tryd.f46) 1 := (SumsOk.nil).cons (c := f346l0C) (by kernel_rfl) (f346l0O k)
theorem f346E (k : Nat) (x : Int × ByteArray) : evFS tab (f346T k) (f346L k) Go.Proofs.Tryd.f46.ntmps Go.Proofs.Tryd.f46.results.toList (codeOf Go.Proofs.Tryd.f46) (argsV [.dat (.int .u8), .dat .str] x) [.dat .bool] = f346F k x := by kernel_rfl
theorem f346Ok (k : Nat) (x : Int × ByteArray) (y : Bool) (h : f346F k x = some y) : FnOk P 46 [.dat (.int .u8), .dat .str] [.dat .bool] x y :=
  evFS_sound tabOk (f346TS k) mixed Go.Proofs.Tryd.func46 (c := codeOf Go.Proofs.Tryd.f46) (by kernel_rfl) (f346LS k) ((f346E k x).trans h)
/-! ## midrange/midrangeref02.Err -/
noncomputable def f321T (k : Nat) : Table := [(33, entFn [.dat (.int .i64), .dat (.int .i64), .dat (.int .i64)] [.dat .bool] (f48F k)), (44, entFn [.agg (.pair (.int .i64) (.pair (.int .i64) (.int .i64)))] [.dat (.int .i64)] (f27F k)), (45, entFn [.dat (.int .i64)] [.dat .bool] (f68F k)), (46, entFn [.dat (.int .u8), .dat .str] [.dat .bool] (f346F k))]
theorem f321TS (k : Nat) : Sound P (f321T k) := ((((Sound.nil).cons f346B (f346Ok k)).cons f68B (f68Ok k)).cons f27B (f27Ok k)).cons f48B (f48Ok k)
theorem f321B : HasBody P 21 := ⟨Go.Proofs.Tryd.f21, Go.Proofs.Tryd.func21, by kernel_rfl, by kernel_rfl⟩
noncomputable def f321p0H : Shape := ⟨[(2, .one (.ptr 0 0)), (3, .one (.ptr 1 0))], [(0, .var 23 [.int .i64, .int .i64, .int .i64]), (1, .var 27 [.int .u8, .int .i64])], 2, []⟩
noncomputable def f321p0X0 : Shape := ⟨[(2, .one (.ptr 0 0)), (3, .one (.ptr 1 0)), (4, .one (.int .i64))], [(0, .var 23 [.int .i64, .int .i64, .int .i64]), (1, .var 27 [.int .u8, .int .i64])], 2, []⟩
noncomputable def f321p0X1 : Shape := ⟨[(2, .one (.ptr 0 0)), (3, .one (.ptr 1 0))], [(0, .var 23 [.int .i64, .int .i64, .int .i64]), (1, .var 27 [.int .u8, .int .i64])], 2, []⟩
noncomputable def f321p0N : NoteR := ⟨[2, 3], [], []⟩
noncomputable def f321p0M : NoteR := ⟨[2, 3, 4], [], []⟩
noncomputable def f321p0C : Code := firstC (codesAt 126 (codeOf Go.Proofs.Tryd.f21) 1)
noncomputable def f321p0 {R : Type} (k : Nat) (k0 : Int × Int × Int × Int × Int × Int × Unit → Option R) (k1 : Int × Int × Int × Int × Int × Unit → Option R) (v : Int × Int × Int × Int × Int × Unit) : Option R :=
  bif (v.2.2.2.2.1 != (0 : Int)) then
    Option.bind (f346F k (v.2.2.2.1, (⟨#[49, 50, 51, 52, 65, 66, 67, 68, 74, 75, 76, 77]⟩ : ByteArray))) fun y5 =>
    bif (!y5) then
      k0 ((15 : Int), v.1, v.2.1, v.2.2.1, v.2.2.2.1, v.2.2.2.2.1, ())
    else
    k1 (v.1, v.2.1, v.2.2.1, v.2.2.2.1, v.2.2.2.2.1, ())
  else
  k1 (v.1, v.2.1, v.2.2.1, v.2.2.2.1, v.2.2.2.2.1, ())
noncomputable def f321p0S (k : Nat) : Sum1 := partSum f321p0H f321p0N (fun R K v => f321p0 k (fun w => K .ret (encSt f321p0X0 w)) (fun w => K .normal (encSt f321p0X1 w)) v)
theorem f321p0E (k : Nat) (R : Type) (K : X → St → Option R) (v : f321p0H.Den) : evS tab (f321T k) Go.Proofs.Tryd.f21.ntmps [] f321p0C 126 (partK f321p0M K) (encSt f321p0H v) = f321p0 k (fun w => K .ret (encSt f321p0X0 w)) (fun w => K .normal (encSt f321p0X1 w)) v := by kernel_rfl
theorem f321p0I (k : Nat) : SumsOk P Go.Proofs.Tryd.f21.ntmps [] f321p0C 126 := SumsOk.nil
theorem f321p0O (k : Nat) : SumOk P Go.Proofs.Tryd.f21.ntmps f321p0C (f321p0S k) := sum_part tabOk (f321TS k) mixed (f321p0I k) (f321p0E k)
noncomputable def f321p1H : Shape := ⟨[(2, .one (.ptr 0 0)), (3, .one (.ptr 1 0))], [(0, .var 23 [.int .i64, .int .i64, .int .i64]), (1, .var 27 [.int .u8, .int .i64])], 2, []⟩
noncomputable def f321p1X0 : Shape := ⟨[(2, .one (.ptr 0 0)), (3, .one (.ptr 1 0)), (4, .one (.int .i64))], [(0, .var 23 [.int .i64, .int .i64, .int .i64]), (1, .var 27 [.int .u8, .int .i64])], 2, []⟩
noncomputable def f321p1X1 : Shape := ⟨[(2, .one (.ptr 0 0)), (3, .one (.ptr 1 0))], [(0, .var 23 [.int .i64, .int .i64, .int .i64]), (1, .var 27 [.int .u8, .int .i64])], 2, []⟩
noncomputable def f321p1N : NoteR := ⟨[2, 3], [], []⟩
noncomputable def f321p1M : NoteR := ⟨[2, 3, 4], [], []⟩
noncomputable def f321p1C : Code := firstC (codesAt 254 (codeOf Go.Proofs.Tryd.f21) 1)
noncomputable def f321p1 {R : Type} (k : Nat) (k0 : Int × Int × Int × Int × Int × Int × Unit → Option R) (k1 : Int × Int × Int × Int × Int × Unit → Option R) (v : Int × Int × Int × Int × Int × Unit) : Option R :=
  bif (v.2.2.2.1 == (89 : Int)) then
    bif (v.2.1 != (4 : Int)) then
      bif (v.2.1 != (6 : Int)) then
        bif (v.2.1 != (8 : Int)) then
          k0 ((18 : Int), v.1, v.2.1, v.2.2.1, v.2.2.2.1, v.2.2.2.2.1, ())
        else
        k1 (v.1, v.2.1, v.2.2.1, v.2.2.2.1, v.2.2.2.2.1, ())
      else
      k1 (v.1, v.2.1, v.2.2.1, v.2.2.2.1, v.2.2.2.2.1, ())
    else
    k1 (v.1, v.2.1, v.2.2.1, v.2.2.2.1, v.2.2.2.2.1, ())
  else
  k1 (v.1, v.2.1, v.2.2.1, v.2.2.2.1, v.2.2.2.2.1, ())
noncomputable def f321p1S (k : Nat) : Sum1 := partSum f321p1H f321p1N (fun R K v => f321p1 k (fun w => K .ret (encSt f321p1X0 w)) (fun w => K .normal (encSt f321p1X1 w)) v)
theorem f321p1E (k : Nat) (R : Type) (K : X → St → Option R) (v : f321p1H.Den) : evS tab (f321T k) Go.Proofs.Tryd.f21.ntmps [] f321p1C 254 (partK f321p1M K) (encSt f321p1H v) = f321p1 k (fun w => K .ret (encSt f321p1X0 w)) (fun w => K .normal (encSt f321p1X1 w)) v := by kernel_rfl
theorem f321p1I (k : Nat) : SumsOk P Go.Proofs.Tryd.f21.ntmps [] f321p1C 254 := SumsOk.nil
theorem f321p1O (k : Nat) : SumOk P Go.Proofs.Tryd.f21.ntmps f321p1C (f321p1S k) := sum_part tabOk (f321TS k) mixed (f321p1I k) (f321p1E k)
noncomputable def f321p2H : Shape := ⟨[(2, .one (.ptr 0 0)), (3, .one (.ptr 1 0))], [(0, .var 23 [.int .i64, .int .i64, .int .i64]), (1, .var 27 [.int .u8, .int .i64])], 2, []⟩
noncomputable def f321p2X0 : Shape := ⟨[(4, .one (.int .i64))], [], 0, []⟩
noncomputable def f321p2X1 : Shape := ⟨[], [], 0, []⟩
noncomputable def f321p2N : NoteR := ⟨[2, 3], [], []⟩
noncomputable def f321p2M : NoteR := ⟨[4], [], []⟩
noncomputable def f321p2C : Code := firstC (codesAt 510 (codeOf Go.Proofs.Tryd.f21) 1)
noncomputable def f321p2 {R : Type} (k : Nat) (k0 : Int × Unit → Option R) (k1 : Unit → Option R) (v : Int × Int × Int × Int × Int × Unit) : Option R :=
  bif (v.2.2.2.1 == (89 : Int)) then
    bif (decide (v.2.2.1 > (0 : Int))) then
      k0 ((5 : Int), ())
    else
    k1 (())
  else
  k1 (())
noncomputable def f321p2S (k : Nat) : Sum1 := partSum f321p2H f321p2N (fun R K v => f321p2 k (fun w => K .ret (encSt f321p2X0 w)) (fun w => K .normal (encSt f321p2X1 w)) v)
theorem f321p2E (k : Nat) (R : Type) (K : X → St → Option R) (v : f321p2H.Den) : evS tab (f321T k) Go.Proofs.Tryd.f21.ntmps [] f321p2C 510 (partK f321p2M K) (encSt f321p2H v) = f321p2 k (fun w => K .ret (encSt f321p2X0 w)) (fun w => K .normal (encSt f321p2X1 w)) v := by kernel_rfl
theorem f321p2I (k : Nat) : SumsOk P Go.Proofs.Tryd.f21.ntmps [] f321p2C 510 := SumsOk.nil
theorem f321p2O (k : Nat) : SumOk P Go.Proofs.Tryd.f21.ntmps f321p2C (f321p2S k) := sum_part tabOk (f321TS k) mixed (f321p2I k) (f321p2E k)
noncomputable def f321F (k : Nat) (x : (Int × (Int × Int)) × (Int × Int)) : Option (Int) :=
  Option.bind (f27F k (x.1.1, (x.1.2.1, x.1.2.2))) fun y1 =>
  bif (y1 != (0 : Int)) then
    some y1
  else
  Option.bind (f68F k x.1.1) fun y2 =>
  bif (!y2) then
    some (17 : Int)
  else
  Option.bind (f346F k (x.2.1, (⟨#[49, 50, 51, 52, 65, 66, 67, 68, 74, 75, 76, 77, 78, 79, 80, 81, 88, 89, 90]⟩ : ByteArray))) fun y3 =>
  bif (!y3) then
    some (4 : Int)
  else
  Option.bind (f48F k (x.2.2, (0 : Int), (2 : Int))) fun y4 =>
  bif (!y4) then
    some (3 : Int)
  else
  f321p0 k
    (fun (w6 : Int × Int × Int × Int × Int × Int × Unit) =>
      some w6.1)
    (fun (w7 : Int × Int × Int × Int × Int × Unit) =>
      f321p1 k
        (fun (w8 : Int × Int × Int × Int × Int × Int × Unit) =>
          some w8.1)
        (fun (w9 : Int × Int × Int × Int × Int × Unit) =>
          f321p2 k
            (fun (w10 : Int × Unit) =>
              some w10.1)
            (fun (w11 : Unit) =>
              some (0 : Int))
            (w9.1, w9.2.1, w9.2.2.1, w9.2.2.2.1, w9.2.2.2.2.1, ()))
        (w7.1, w7.2.1, w7.2.2.1, w7.2.2.2.1, w7.2.2.2.2.1, ()))
    (x.1.1, x.1.2.1, x.1.2.2, x.2.1, x.2.2, ())
noncomputable def f321L (k : Nat) : Sums := [(126, f321p0S k), (254, f321p1S k), (510, f321p2S k)]
theorem f321LS (k : Nat) : SumsOk P Go.Proofs.Tryd.f21.ntmps (f321L k) (codeOf Go.Proofs.Tryd.f21) 1 := (((SumsOk.nil).cons (c := f321p2C) (by kernel_rfl) (f321p2O k)).cons (c := f321p1C) (by kernel_rfl) (f321p1O k)).cons (c := f321p0C) (by kernel_rfl) (f321p0O k)
theorem f321E (k : Nat) (x : (Int × (Int × Int)) × (Int × Int)) : evFS tab (f321T k) (f321L k) Go.Proofs.Tryd.f21.ntmps Go.Proofs.Tryd.f21.results.toList (codeOf Go.Proofs.Tryd.f21) (argsV [.agg (.pair (.int .i64) (.pair (.int .i64) (.int .i64))), .agg (.pair (.int .u8) (.int .i64))] x) [.dat (.int .i64)] = f321F k x := by kernel_rfl
theorem f321Ok (k : Nat) (x : (Int × (Int × Int)) × (Int × Int)) (y : Int) (h : f321F k x = some y) : FnOk P 21 [.agg (.pair (.int .i64) (.pair (.int .i64) (.int .i64))), .agg (.pair (.int .u8) (.int .i64))] [.dat (.int .i64)] x y :=
  evFS_sound tabOk (f321TS k) mixed Go.Proofs.Tryd.func21 (c := codeOf Go.Proofs.Tryd.f21) (by kernel_rfl) (f321LS k) ((f321E k x).trans h)
/-! ## midrange/midrangebase.Power -/
noncomputable def f81T (k : Nat) : Table := []
theorem f81TS (k : Nat) : Sound P (f81T k) := Sound.nil
theorem f81B : HasBody P 88 := ⟨Go.Proofs.Tryd.f88, Go.Proofs.Tryd.func88, by kernel_rfl, by kernel_rfl⟩
noncomputable def f81l0H : Shape := ⟨[(0, .one (.int .i64)), (3, .one (.int .i64)), (4, .one (.int .i64))], [], 0, []⟩
noncomputable def f81l0X0 : Shape := ⟨[(3, .one (.int .i64))], [], 0, []⟩
noncomputable def f81l0N : NoteR := ⟨[0, 3, 4], [], []⟩
noncomputable def f81l0M : NoteR := ⟨[2, 3], [], []⟩
noncomputable def f81l0C : Code := firstC (codesAt 58 (codeOf Go.Proofs.Tryd.f88) 1)
noncomputable def f81l0s {R : Type} (k : Nat) (rec : Int × Int × Int × Unit → Option R) (k0 : Int × Unit → Option R) (v : Int × Int × Int × Unit) : Option R :=
  bif (decide (v.2.2.1 < v.1)) then
    rec (v.1, (IntKind.i64.wrap (v.2.1 * (10 : Int))), (IntKind.i64.wrap (v.2.2.1 + (1 : Int))), ())
  else
  k0 (v.2.1, ())
noncomputable def f81l0 {R : Type} (k : Nat) (k0 : Int × Unit → Option R) (v : Int × Int × Int × Unit) : Option R := iterS (fun rec v => f81l0s k rec k0 v) k v
noncomputable def f81l0S (k : Nat) : Sum1 := loopSum f81l0H f81l0N k (fun R rec K v => f81l0s k rec (fun w => K (.exit 0) (encSt f81l0X0 w)) v)
theorem f81l0E (k : Nat) (R : Type) (rec : St → Option R) (K : X → St → Option R) (v : f81l0H.Den) : evS tab (f81T k) Go.Proofs.Tryd.f88.ntmps [] (bodyOf f81l0C) 116 (bodyK f81l0N f81l0M rec K) (encSt f81l0H v) = f81l0s k (fun v => rec (encSt f81l0H v)) (fun w => K (.exit 0) (encSt f81l0X0 w)) v := by kernel_rfl
theorem f81l0I (k : Nat) : SumsOk P Go.Proofs.Tryd.f88.ntmps [] (bodyOf f81l0C) 116 := SumsOk.nil
theorem f81l0O (k : Nat) : SumOk P Go.Proofs.Tryd.f88.ntmps f81l0C (f81l0S k) := (show f81l0C = .loop (bodyOf f81l0C) by kernel_rfl) ▸ sum_loop tabOk (f81TS k) mixed (f81l0I k) (f81l0E k)
noncomputable def f81F (k : Nat) (x : Int) : Option (Int) :=
  f81l0 k
    (fun (w1 : Int × Unit) =>
      some w1.1)
    (x, (1 : Int), (0 : Int), ())
noncomputable def f81L (k : Nat) : Sums := [(58, f81l0S k)]
theorem f81LS (k : Nat) : SumsOk P Go.Proofs.Tryd.f88.ntmps (f81L k) (codeOf Go.Proofs.Tryd.f88) 1 := (SumsOk.nil).cons (c := f81l0C) (by kernel_rfl) (f81l0O k)
theorem f81E (k : Nat) (x : Int) : evFS tab (f81T k) (f81L k) Go.Proofs.Tryd.f88.ntmps Go.Proofs.Tryd.f88.results.toList (codeOf Go.Proofs.Tryd.f88) (argsV [.dat (.int .i64)] x) [.dat (.int .i64)] = f81F k x := by kernel_rfl
theorem f81Ok (k : Nat) (x : Int) (y : Int) (h : f81F k x = some y) : FnOk P 88 [.dat (.int .i64)] [.dat (.int .i64)] x y :=
  evFS_sound tabOk (f81TS k) mixed Go.Proofs.Tryd.func88 (c := codeOf Go.Proofs.Tryd.f88) (by kernel_rfl) (f81LS k) ((f81E k x).trans h)
/-! ## midrange/midrangeref01.Most -/
noncomputable def f49T (k : Nat) : Table := [(88, entFn [.dat (.int .i64)] [.dat (.int .i64)] (f81F k))]
theorem f49TS (k : Nat) : Sound P (f49T k) := (Sound.nil).cons f81B (f81Ok k)
theorem f49B : HasBody P 58 := ⟨Go.Proofs.Tryd.f58, Go.Proofs.Tryd.func58, by kernel_rfl, by kernel_rfl⟩
noncomputable def f49F (k : Nat) (x : (Int × (Int × Int))) : Option (Int) :=
  Option.bind (f81F k x.2.1) fun y1 =>
  some (IntKind.i64.wrap (y1 - (1 : Int)))
noncomputable def f49L (k : Nat) : Sums := []
theorem f49LS (k : Nat) : SumsOk P Go.Proofs.Tryd.f58.ntmps (f49L k) (codeOf Go.Proofs.Tryd.f58) 1 := SumsOk.nil
theorem f49E (k : Nat) (x : (Int × (Int × Int))) : evFS tab (f49T k) (f49L k) Go.Proofs.Tryd.f58.ntmps Go.Proofs.Tryd.f58.results.toList (codeOf Go.Proofs.Tryd.f58) (argsV [.agg (.pair (.int .i64) (.pair (.int .i64) (.int .i64)))] x) [.dat (.int .i64)] = f49F k x := by kernel_rfl
theorem f49Ok (k : Nat) (x : (Int × (Int × Int))) (y : Int) (h : f49F k x = some y) : FnOk P 58 [.agg (.pair (.int .i64) (.pair (.int .i64) (.int .i64)))] [.dat (.int .i64)] x y :=
  evFS_sound tabOk (f49TS k) mixed Go.Proofs.Tryd.func58 (c := codeOf Go.Proofs.Tryd.f58) (by kernel_rfl) (f49LS k) ((f49E k x).trans h)
/-! ## midrange/midrangeref01.ValueErr -/
noncomputable def f30T (k : Nat) : Table := [(33, entFn [.dat (.int .i64), .dat (.int .i64), .dat (.int .i64)] [.dat .bool] (f48F k)), (44, entFn [.agg (.pair (.int .i64) (.pair (.int .i64) (.int .i64)))] [.dat (.int .i64)] (f27F k)), (56, entFn [.dat .bool] [.dat (.int .i64)] (f69F k)), (58, entFn [.agg (.pair (.int .i64) (.pair (.int .i64) (.int .i64)))] [.dat (.int .i64)] (f49F k))]
theorem f30TS (k : Nat) : Sound P (f30T k) := ((((Sound.nil).cons f49B (f49Ok k)).cons f69B (f69Ok k)).cons f27B (f27Ok k)).cons f48B (f48Ok k)
theorem f30B : HasBody P 28 := ⟨Go.Proofs.Tryd.f28, Go.Proofs.Tryd.func28, by kernel_rfl, by kernel_rfl⟩
noncomputable def f30p0H : Shape := ⟨[(2, .one (.ptr 0 0)), (3, .one (.ptr 1 0))], [(0, .var 23 [.int .i64, .int .i64, .int .i64]), (1, .var 25 [.int .i64, .str])], 2, []⟩
noncomputable def f30p0X0 : Shape := ⟨[(2, .one (.ptr 0 0)), (3, .one (.ptr 1 0)), (4, .one (.int .i64))], [(0, .var 23 [.int .i64, .int .i64, .int .i64]), (1, .var 25 [.int .i64, .str])], 2, []⟩
noncomputable def f30p0X1 : Shape := ⟨[(2, .one (.ptr 0 0)), (3, .one (.ptr 1 0))], [(0, .var 23 [.int .i64, .int .i64, .int .i64]), (1, .var 25 [.int .i64, .str])], 2, []⟩
noncomputable def f30p0N : NoteR := ⟨[2, 3], [], []⟩
noncomputable def f30p0M : NoteR := ⟨[2, 3, 4], [], []⟩
noncomputable def f30p0C : Code := firstC (codesAt 30 (codeOf Go.Proofs.Tryd.f28) 1)
noncomputable def f30p0 {R : Type} (k : Nat) (k0 : Int × Int × Int × Int × Int × ByteArray × Unit → Option R) (k1 : Int × Int × Int × Int × ByteArray × Unit → Option R) (v : Int × Int × Int × Int × ByteArray × Unit) : Option R :=
  bif (v.1 == (0 : Int)) then
    bif (v.2.2.2.1 != (0 : Int)) then
      k0 ((5 : Int), v.1, v.2.1, v.2.2.1, v.2.2.2.1, v.2.2.2.2.1, ())
    else
    bif (v.1 != (0 : Int)) then
      bif (!strEq v.2.2.2.2.1 ByteArray.empty) then
        k0 ((5 : Int), v.1, v.2.1, v.2.2.1, v.2.2.2.1, v.2.2.2.2.1, ())
      else
      k1 (v.1, v.2.1, v.2.2.1, v.2.2.2.1, v.2.2.2.2.1, ())
    else
    k1 (v.1, v.2.1, v.2.2.1, v.2.2.2.1, v.2.2.2.2.1, ())
  else
  bif (v.1 != (0 : Int)) then
    bif (!strEq v.2.2.2.2.1 ByteArray.empty) then
      k0 ((5 : Int), v.1, v.2.1, v.2.2.1, v.2.2.2.1, v.2.2.2.2.1, ())
    else
    k1 (v.1, v.2.1, v.2.2.1, v.2.2.2.1, v.2.2.2.2.1, ())
  else
  k1 (v.1, v.2.1, v.2.2.1, v.2.2.2.1, v.2.2.2.2.1, ())
noncomputable def f30p0S (k : Nat) : Sum1 := partSum f30p0H f30p0N (fun R K v => f30p0 k (fun w => K .ret (encSt f30p0X0 w)) (fun w => K .normal (encSt f30p0X1 w)) v)
theorem f30p0E (k : Nat) (R : Type) (K : X → St → Option R) (v : f30p0H.Den) : evS tab (f30T k) Go.Proofs.Tryd.f28.ntmps [] f30p0C 30 (partK f30p0M K) (encSt f30p0H v) = f30p0 k (fun w => K .ret (encSt f30p0X0 w)) (fun w => K .normal (encSt f30p0X1 w)) v := by kernel_rfl
theorem f30p0I (k : Nat) : SumsOk P Go.Proofs.Tryd.f28.ntmps [] f30p0C 30 := SumsOk.nil
theorem f30p0O (k : Nat) : SumOk P Go.Proofs.Tryd.f28.ntmps f30p0C (f30p0S k) := sum_part tabOk (f30TS k) mixed (f30p0I k) (f30p0E k)
noncomputable def f30F (k : Nat) (x : (Int × (Int × Int)) × (Int × ByteArray)) : Option (Int) :=
  Option.bind (f27F k (x.1.1, (x.1.2.1, x.1.2.2))) fun y1 =>
  bif (y1 != (0 : Int)) then
    some y1
  else
  bif (x.1.1 == (4 : Int)) then
    some (17 : Int)
  else
  f30p0 k
    (fun (w2 : Int × Int × Int × Int × Int × ByteArray × Unit) =>
      some w2.1)
    (fun (w3 : Int × Int × Int × Int × ByteArray × Unit) =>
      bif (w3.1 == (0 : Int)) then
        Option.bind (f69F k ((w3.2.2.2.2.1.size : Int) != w3.2.1)) fun y4 =>
        some (IntKind.i64.wrap ((18 : Int) * y4))
      else
      Option.bind (f49F k (w3.1, (w3.2.1, w3.2.2.1))) fun y5 =>
      Option.bind (f49F k (w3.1, (w3.2.1, w3.2.2.1))) fun y6 =>
      Option.bind (f48F k (w3.2.2.2.1, (IntKind.i64.wrap (0 - y5)), y6)) fun y7 =>
      Option.bind (f69F k (!y7)) fun y8 =>
      some (IntKind.i64.wrap ((19 : Int) * y8)))
    (x.1.1, x.1.2.1, x.1.2.2, x.2.1, x.2.2, ())
noncomputable def f30L (k : Nat) : Sums := [(30, f30p0S k)]
theorem f30LS (k : Nat) : SumsOk P Go.Proofs.Tryd.f28.ntmps (f30L k) (codeOf Go.Proofs.Tryd.f28) 1 := (SumsOk.nil).cons (c := f30p0C) (by kernel_rfl) (f30p0O k)
theorem f30E (k : Nat) (x : (Int × (Int × Int)) × (Int × ByteArray)) : evFS tab (f30T k) (f30L k) Go.Proofs.Tryd.f28.ntmps Go.Proofs.Tryd.f28.results.toList (codeOf Go.Proofs.Tryd.f28) (argsV [.agg (.pair (.int .i64) (.pair (.int .i64) (.int .i64))), .agg (.pair (.int .i64) .str)] x) [.dat (.int .i64)] = f30F k x := by kernel_rfl
theorem f30Ok (k : Nat) (x : (Int × (Int × Int)) × (Int × ByteArray)) (y : Int) (h : f30F k x = some y) : FnOk P 28 [.agg (.pair (.int .i64) (.pair (.int .i64) (.int .i64))), .agg (.pair (.int .i64) .str)] [.dat (.int .i64)] x y :=
  evFS_sound tabOk (f30TS k) mixed Go.Proofs.Tryd.func28 (c := codeOf Go.Proofs.Tryd.f28) (by kernel_rfl) (f30LS k) ((f30E k x).trans h)
/-! ## midrange/midrangeref01.Amount -/
noncomputable def f79T (k : Nat) : Table := []
theorem f79TS (k : Nat) : Sound P (f79T k) := Sound.nil
theorem f79B : HasBody P 24 := ⟨Go.Proofs.Tryd.f24, Go.Proofs.Tryd.func24, by kernel_rfl, by kernel_rfl⟩
noncomputable def f79F (k : Nat) (x : Int) : Option (Int) :=
  some (mxI x (IntKind.i64.wrap (0 - x)))
noncomputable def f79L (k : Nat) : Sums := []
theorem f79LS (k : Nat) : SumsOk P Go.Proofs.Tryd.f24.ntmps (f79L k) (codeOf Go.Proofs.Tryd.f24) 1 := SumsOk.nil
theorem f79E (k : Nat) (x : Int) : evFS tab (f79T k) (f79L k) Go.Proofs.Tryd.f24.ntmps Go.Proofs.Tryd.f24.results.toList (codeOf Go.Proofs.Tryd.f24) (argsV [.dat (.int .i64)] x) [.dat (.int .i64)] = f79F k x := by kernel_rfl
theorem f79Ok (k : Nat) (x : Int) (y : Int) (h : f79F k x = some y) : FnOk P 24 [.dat (.int .i64)] [.dat (.int .i64)] x y :=
  evFS_sound tabOk (f79TS k) mixed Go.Proofs.Tryd.func24 (c := codeOf Go.Proofs.Tryd.f24) (by kernel_rfl) (f79LS k) ((f79E k x).trans h)
/-! ## midrange/midrangebase.Digits -/
noncomputable def f398T (k : Nat) (r : Int → Option (ByteArray)) : Table := [(98, entFn [.dat (.int .i64)] [.dat .str] r)]
theorem f398B : HasBody P 98 := ⟨Go.Proofs.Tryd.f98, Go.Proofs.Tryd.func98, by kernel_rfl, by kernel_rfl⟩
theorem f398TS (k : Nat) (r : Int → Option (ByteArray)) (hr : ∀ x y, r x = some y → FnOk P 98 [.dat (.int .i64)] [.dat .str] x y) : Sound P (f398T k r) := (Sound.nil).cons f398B hr
noncomputable def f398G (k : Nat) (r : Int → Option (ByteArray)) (x : Int) : Option (ByteArray) :=
  bif (decide (x < (-9 : Int))) then
    Option.bind (r (IntKind.i64.wrap (0 - (IntKind.i64.wrap (Int.tdiv x (10 : Int)))))) fun y1 =>
    bif (decide ((⟨#[45]⟩ : ByteArray).size + y1.size ≤ 9223372036854775807)) then
    Option.bind (r (IntKind.i64.wrap (0 - (Int.tmod x (10 : Int))))) fun y2 =>
    bif (decide (((⟨#[45]⟩ : ByteArray) ++ y1).size + y2.size ≤ 9223372036854775807)) then
    some (((⟨#[45]⟩ : ByteArray) ++ y1) ++ y2)
    else none
    else none
  else
  bif (decide (x < (0 : Int))) then
    Option.bind (r (IntKind.i64.wrap (0 - x))) fun y3 =>
    bif (decide ((⟨#[45]⟩ : ByteArray).size + y3.size ≤ 9223372036854775807)) then
    some ((⟨#[45]⟩ : ByteArray) ++ y3)
    else none
  else
  bif (decide (x < (10 : Int))) then
    some (strOfNums [(IntKind.u8.wrap (IntKind.i64.wrap ((48 : Int) + x)))])
  else
  Option.bind (r (IntKind.i64.wrap (Int.tdiv x (10 : Int)))) fun y4 =>
  let t5 := (IntKind.u8.wrap (IntKind.i64.wrap ((48 : Int) + (Int.tmod x (10 : Int)))))
  bif (decide (y4.size + (strOfNums [t5]).size ≤ 9223372036854775807)) then
  some (y4 ++ (strOfNums [t5]))
  else none
theorem f398E (k : Nat) (r : Int → Option (ByteArray)) (x : Int) : evFS tab (f398T k r) [] Go.Proofs.Tryd.f98.ntmps Go.Proofs.Tryd.f98.results.toList (codeOf Go.Proofs.Tryd.f98) (argsV [.dat (.int .i64)] x) [.dat .str] = f398G k r x := by kernel_rfl
noncomputable def f398R (k : Nat) : Nat → Int → Option (ByteArray)
  | 0, _ => none
  | n + 1, x => f398G k (f398R k n) x
theorem f398Rk (k : Nat) : ∀ (n : Nat) (x : Int) (y : ByteArray), f398R k n x = some y → FnOk P 98 [.dat (.int .i64)] [.dat .str] x y
  | 0, _, _, h => by cases h
  | n + 1, x, y, h => evFS_sound tabOk (f398TS k _ (f398Rk k n)) mixed Go.Proofs.Tryd.func98 (c := codeOf Go.Proofs.Tryd.f98) (by kernel_rfl) (SumsOk.nil) ((f398E k _ x).trans h)
noncomputable def f398F (k : Nat) (x : Int) : Option (ByteArray) := f398R k k x
theorem f398Ok (k : Nat) (x : Int) (y : ByteArray) (h : f398F k x = some y) : FnOk P 98 [.dat (.int .i64)] [.dat .str] x y := f398Rk k k x y h
/-! ## midrange/midrangebase.Repeat -/
noncomputable def f72T (k : Nat) : Table := []
theorem f72TS (k : Nat) : Sound P (f72T k) := Sound.nil
theorem f72B : HasBody P 57 := ⟨Go.Proofs.Tryd.f57, Go.Proofs.Tryd.func57, by kernel_rfl, by kernel_rfl⟩
noncomputable def f72l0H : Shape := ⟨[(0, .one (.int .u8)), (1, .one (.int .i64)), (5, .one (.own 0)), (6, .one (.int .i64))], [(0, .row 5 (.int .u8) .plain)], 1, []⟩
noncomputable def f72l0X0 : Shape := ⟨[(5, .one (.own 0))], [(0, .row 5 (.int .u8) .plain)], 1, []⟩
noncomputable def f72l0N : NoteR := ⟨[0, 1, 5, 6], [(5, 5, (.int .u8))], []⟩
noncomputable def f72l0M : NoteR := ⟨[4, 5], [], []⟩
noncomputable def f72l0C : Code := firstC (codesAt 58 (codeOf Go.Proofs.Tryd.f57) 1)
noncomputable def f72l0s {R : Type} (k : Nat) (rec : Int × Int × Int × List Int × Unit → Option R) (k0 : List Int × Unit → Option R) (v : Int × Int × Int × List Int × Unit) : Option R :=
  bif (decide (v.2.2.1 < v.2.1)) then
    bif (decide ((v.2.2.2.1.length + [v.1].length) * 1 ≤ 140737488355328) && decide (v.2.2.2.1.length + [v.1].length ≤ 9223372036854775807)) then
    rec (v.1, v.2.1, (IntKind.i64.wrap (v.2.2.1 + (1 : Int))), (v.2.2.2.1 ++ [v.1]), ())
    else none
  else
  k0 (v.2.2.2.1, ())
noncomputable def f72l0 {R : Type} (k : Nat) (k0 : List Int × Unit → Option R) (v : Int × Int × Int × List Int × Unit) : Option R := iterS (fun rec v => f72l0s k rec k0 v) k v
noncomputable def f72l0S (k : Nat) : Sum1 := loopSum f72l0H f72l0N k (fun R rec K v => f72l0s k rec (fun w => K (.exit 0) (encSt f72l0X0 w)) v)
theorem f72l0E (k : Nat) (R : Type) (rec : St → Option R) (K : X → St → Option R) (v : f72l0H.Den) : evS tab (f72T k) Go.Proofs.Tryd.f57.ntmps [] (bodyOf f72l0C) 116 (bodyK f72l0N f72l0M rec K) (encSt f72l0H v) = f72l0s k (fun v => rec (encSt f72l0H v)) (fun w => K (.exit 0) (encSt f72l0X0 w)) v := by kernel_rfl
theorem f72l0I (k : Nat) : SumsOk P Go.Proofs.Tryd.f57.ntmps [] (bodyOf f72l0C) 116 := SumsOk.nil
theorem f72l0O (k : Nat) : SumOk P Go.Proofs.Tryd.f57.ntmps f72l0C (f72l0S k) := (show f72l0C = .loop (bodyOf f72l0C) by kernel_rfl) ▸ sum_loop tabOk (f72TS k) mixed (f72l0I k) (f72l0E k)
noncomputable def f72F (k : Nat) (x : Int × Int) : Option (ByteArray) :=
  f72l0 k
    (fun (w1 : List Int × Unit) =>
      some (strOfNums w1.1))
    (x.1, x.2, (0 : Int), [], ())
noncomputable def f72L (k : Nat) : Sums := [(58, f72l0S k)]
theorem f72LS (k : Nat) : SumsOk P Go.Proofs.Tryd.f57.ntmps (f72L k) (codeOf Go.Proofs.Tryd.f57) 1 := (SumsOk.nil).cons (c := f72l0C) (by kernel_rfl) (f72l0O k)
theorem f72E (k : Nat) (x : Int × Int) : evFS tab (f72T k) (f72L k) Go.Proofs.Tryd.f57.ntmps Go.Proofs.Tryd.f57.results.toList (codeOf Go.Proofs.Tryd.f57) (argsV [.dat (.int .u8), .dat (.int .i64)] x) [.dat .str] = f72F k x := by kernel_rfl
theorem f72Ok (k : Nat) (x : Int × Int) (y : ByteArray) (h : f72F k x = some y) : FnOk P 57 [.dat (.int .u8), .dat (.int .i64)] [.dat .str] x y :=
  evFS_sound tabOk (f72TS k) mixed Go.Proofs.Tryd.func57 (c := codeOf Go.Proofs.Tryd.f57) (by kernel_rfl) (f72LS k) ((f72E k x).trans h)
/-! ## midrange/midrangeref02.digits -/
noncomputable def f375T (k : Nat) : Table := [(24, entFn [.dat (.int .i64)] [.dat (.int .i64)] (f79F k)), (57, entFn [.dat (.int .u8), .dat (.int .i64)] [.dat .str] (f72F k)), (98, entFn [.dat (.int .i64)] [.dat .str] (f398F k))]
theorem f375TS (k : Nat) : Sound P (f375T k) := (((Sound.nil).cons f398B (f398Ok k)).cons f72B (f72Ok k)).cons f79B (f79Ok k)
theorem f375B : HasBody P 75 := ⟨Go.Proofs.Tryd.f75, Go.Proofs.Tryd.func75, by kernel_rfl, by kernel_rfl⟩
noncomputable def f375F (k : Nat) (x : (Int × (Int × Int)) × Int) : Option (ByteArray) :=
  Option.bind (f79F k x.2) fun y1 =>
  Option.bind (f398F k y1) fun y2 =>
  Option.bind (f72F k ((48 : Int), (IntKind.i64.wrap (x.1.2.1 - (y2.size : Int))))) fun y3 =>
  bif (decide (y3.size + y2.size ≤ 9223372036854775807)) then
  some (y3 ++ y2)
  else none
noncomputable def f375L (k : Nat) : Sums := []
theorem f375LS (k : Nat) : SumsOk P Go.Proofs.Tryd.f75.ntmps (f375L k) (codeOf Go.Proofs.Tryd.f75) 1 := SumsOk.nil
theorem f375E (k : Nat) (x : (Int × (Int × Int)) × Int) : evFS tab (f375T k) (f375L k) Go.Proofs.Tryd.f75.ntmps Go.Proofs.Tryd.f75.results.toList (codeOf Go.Proofs.Tryd.f75) (argsV [.agg (.pair (.int .i64) (.pair (.int .i64) (.int .i64))), .dat (.int .i64)] x) [.dat .str] = f375F k x := by kernel_rfl
theorem f375Ok (k : Nat) (x : (Int × (Int × Int)) × Int) (y : ByteArray) (h : f375F k x = some y) : FnOk P 75 [.agg (.pair (.int .i64) (.pair (.int .i64) (.int .i64))), .dat (.int .i64)] [.dat .str] x y :=
  evFS_sound tabOk (f375TS k) mixed Go.Proofs.Tryd.func75 (c := codeOf Go.Proofs.Tryd.f75) (by kernel_rfl) (f375LS k) ((f375E k x).trans h)
/-! ## midrange/midrangeref02.date -/
noncomputable def f376T (k : Nat) : Table := []
theorem f376TS (k : Nat) : Sound P (f376T k) := Sound.nil
theorem f376B : HasBody P 76 := ⟨Go.Proofs.Tryd.f76, Go.Proofs.Tryd.func76, by kernel_rfl, by kernel_rfl⟩
noncomputable def f376p0H : Shape := ⟨[(0, .one (.str)), (3, .one (.str)), (4, .one (.int .i64))], [], 0, []⟩
noncomputable def f376p0X0 : Shape := ⟨[(0, .one (.str)), (3, .one (.str)), (4, .one (.int .i64))], [], 0, []⟩
noncomputable def f376p0N : NoteR := ⟨[0, 3, 4], [], []⟩
noncomputable def f376p0M : NoteR := ⟨[0, 2, 3, 4], [], []⟩
noncomputable def f376p0C : Code := firstC (codesAt 1864 (codeOf Go.Proofs.Tryd.f76) 1)
noncomputable def f376p0 {R : Type} (k : Nat) (k0 : ByteArray × ByteArray × Int × Unit → Option R) (v : ByteArray × ByteArray × Int × Unit) : Option R :=
  bif (v.2.2.1 == (2 : Int)) then
    bif (decide (v.2.1.size + (⟨#[47]⟩ : ByteArray).size ≤ 9223372036854775807)) then
    k0 (v.1, (v.2.1 ++ (⟨#[47]⟩ : ByteArray)), v.2.2.1, ())
    else none
  else
  bif (v.2.2.1 == (4 : Int)) then
    bif (decide ((v.1.size : Int) > (4 : Int))) then
      bif (decide (v.2.1.size + (⟨#[47]⟩ : ByteArray).size ≤ 9223372036854775807)) then
      k0 (v.1, (v.2.1 ++ (⟨#[47]⟩ : ByteArray)), v.2.2.1, ())
      else none
    else
    k0 (v.1, v.2.1, v.2.2.1, ())
  else
  k0 (v.1, v.2.1, v.2.2.1, ())
noncomputable def f376p0S (k : Nat) : Sum1 := partSum f376p0H f376p0N (fun R K v => f376p0 k (fun w => K .normal (encSt f376p0X0 w)) v)
theorem f376p0E (k : Nat) (R : Type) (K : X → St → Option R) (v : f376p0H.Den) : evS tab (f376T k) Go.Proofs.Tryd.f76.ntmps [] f376p0C 1864 (partK f376p0M K) (encSt f376p0H v) = f376p0 k (fun w => K .normal (encSt f376p0X0 w)) v := by kernel_rfl
theorem f376p0I (k : Nat) : SumsOk P Go.Proofs.Tryd.f76.ntmps [] f376p0C 1864 := SumsOk.nil
theorem f376p0O (k : Nat) : SumOk P Go.Proofs.Tryd.f76.ntmps f376p0C (f376p0S k) := sum_part tabOk (f376TS k) mixed (f376p0I k) (f376p0E k)
noncomputable def f376p1H : Shape := ⟨[(0, .one (.str)), (3, .one (.str)), (4, .one (.int .i64))], [], 0, []⟩
noncomputable def f376p1X0 : Shape := ⟨[(0, .one (.str)), (3, .one (.str)), (4, .one (.int .i64))], [], 0, []⟩
noncomputable def f376p1N : NoteR := ⟨[0, 3, 4], [], []⟩
noncomputable def f376p1M : NoteR := ⟨[0, 2, 3, 4], [], []⟩
noncomputable def f376p1C : Code := firstC (codesAt 466 (codeOf Go.Proofs.Tryd.f76) 1)
noncomputable def f376p1 {R : Type} (k : Nat) (k0 : ByteArray × ByteArray × Int × Unit → Option R) (v : ByteArray × ByteArray × Int × Unit) : Option R :=
  f376p0 k
    (fun (w1 : ByteArray × ByteArray × Int × Unit) =>
      bif (w1.2.2.1 == (0 : Int)) then
        bif (decide ((0 : Int) < (w1.1.size : Int))) then
        bif ((bt w1.1 (0 : Int)) == (48 : Int)) then
          bif (decide (w1.2.1.size + (⟨#[32]⟩ : ByteArray).size ≤ 9223372036854775807)) then
          k0 (w1.1, (w1.2.1 ++ (⟨#[32]⟩ : ByteArray)), w1.2.2.1, ())
          else none
        else
        bif (sliceBds w1.2.2.1 (IntKind.i64.wrap (w1.2.2.1 + (1 : Int))) (w1.1.size : Int)) then
        let t2 := (w1.1.extract (Int.toNat w1.2.2.1) (Int.toNat (IntKind.i64.wrap (w1.2.2.1 + (1 : Int)))))
        bif (decide (w1.2.1.size + t2.size ≤ 9223372036854775807)) then
        k0 (w1.1, (w1.2.1 ++ t2), w1.2.2.1, ())
        else none
        else none
        else none
      else
      bif (sliceBds w1.2.2.1 (IntKind.i64.wrap (w1.2.2.1 + (1 : Int))) (w1.1.size : Int)) then
      let t3 := (w1.1.extract (Int.toNat w1.2.2.1) (Int.toNat (IntKind.i64.wrap (w1.2.2.1 + (1 : Int)))))
      bif (decide (w1.2.1.size + t3.size ≤ 9223372036854775807)) then
      k0 (w1.1, (w1.2.1 ++ t3), w1.2.2.1, ())
      else none
      else none)
    (v.1, v.2.1, v.2.2.1, ())
noncomputable def f376p1S (k : Nat) : Sum1 := partSum f376p1H f376p1N (fun R K v => f376p1 k (fun w => K .normal (encSt f376p1X0 w)) v)
theorem f376p1E (k : Nat) (R : Type) (K : X → St → Option R) (v : f376p1H.Den) : evS tab (f376T k) Go.Proofs.Tryd.f76.ntmps [(1864, f376p0S k)] f376p1C 466 (partK f376p1M K) (encSt f376p1H v) = f376p1 k (fun w => K .normal (encSt f376p1X0 w)) v := by kernel_rfl
theorem f376p1I (k : Nat) : SumsOk P Go.Proofs.Tryd.f76.ntmps [(1864, f376p0S k)] f376p1C 466 := (SumsOk.nil).cons (c := f376p0C) (by kernel_rfl) (f376p0O k)
theorem f376p1O (k : Nat) : SumOk P Go.Proofs.Tryd.f76.ntmps f376p1C (f376p1S k) := sum_part tabOk (f376TS k) mixed (f376p1I k) (f376p1E k)
noncomputable def f376l2H : Shape := ⟨[(0, .one (.str)), (3, .one (.str)), (4, .one (.int .i64))], [], 0, []⟩
noncomputable def f376l2X0 : Shape := ⟨[(3, .one (.str))], [], 0, []⟩
noncomputable def f376l2N : NoteR := ⟨[0, 3, 4], [], []⟩
noncomputable def f376l2M : NoteR := ⟨[2, 3], [], []⟩
noncomputable def f376l2C : Code := firstC (codesAt 58 (codeOf Go.Proofs.Tryd.f76) 1)
noncomputable def f376l2s {R : Type} (k : Nat) (rec : ByteArray × ByteArray × Int × Unit → Option R) (k0 : ByteArray × Unit → Option R) (v : ByteArray × ByteArray × Int × Unit) : Option R :=
  bif (decide (v.2.2.1 < (v.1.size : Int))) then
    f376p1 k
      (fun (w4 : ByteArray × ByteArray × Int × Unit) =>
        rec (w4.1, w4.2.1, (IntKind.i64.wrap (w4.2.2.1 + (1 : Int))), ()))
      (v.1, v.2.1, v.2.2.1, ())
  else
  k0 (v.2.1, ())
noncomputable def f376l2 {R : Type} (k : Nat) (k0 : ByteArray × Unit → Option R) (v : ByteArray × ByteArray × Int × Unit) : Option R := iterS (fun rec v => f376l2s k rec k0 v) k v
noncomputable def f376l2S (k : Nat) : Sum1 := loopSum f376l2H f376l2N k (fun R rec K v => f376l2s k rec (fun w => K (.exit 0) (encSt f376l2X0 w)) v)
theorem f376l2E (k : Nat) (R : Type) (rec : St → Option R) (K : X → St → Option R) (v : f376l2H.Den) : evS tab (f376T k) Go.Proofs.Tryd.f76.ntmps [(1864, f376p0S k), (466, f376p1S k)] (bodyOf f376l2C) 116 (bodyK f376l2N f376l2M rec K) (encSt f376l2H v) = f376l2s k (fun v => rec (encSt f376l2H v)) (fun w => K (.exit 0) (encSt f376l2X0 w)) v := by kernel_rfl
theorem f376l2I (k : Nat) : SumsOk P Go.Proofs.Tryd.f76.ntmps [(1864, f376p0S k), (466, f376p1S k)] (bodyOf f376l2C) 116 := ((SumsOk.nil).cons (c := f376p1C) (by kernel_rfl) (f376p1O k)).cons (c := f376p0C) (by kernel_rfl) (f376p0O k)
theorem f376l2O (k : Nat) : SumOk P Go.Proofs.Tryd.f76.ntmps f376l2C (f376l2S k) := (show f376l2C = .loop (bodyOf f376l2C) by kernel_rfl) ▸ sum_loop tabOk (f376TS k) mixed (f376l2I k) (f376l2E k)
noncomputable def f376F (k : Nat) (x : ByteArray) : Option (ByteArray) :=
  f376l2 k
    (fun (w5 : ByteArray × Unit) =>
      some w5.1)
    (x, ByteArray.empty, (0 : Int), ())
noncomputable def f376L (k : Nat) : Sums := [(1864, f376p0S k), (466, f376p1S k), (58, f376l2S k)]
theorem f376LS (k : Nat) : SumsOk P Go.Proofs.Tryd.f76.ntmps (f376L k) (codeOf Go.Proofs.Tryd.f76) 1 := (((SumsOk.nil).cons (c := f376l2C) (by kernel_rfl) (f376l2O k)).cons (c := f376p1C) (by kernel_rfl) (f376p1O k)).cons (c := f376p0C) (by kernel_rfl) (f376p0O k)
theorem f376E (k : Nat) (x : ByteArray) : evFS tab (f376T k) (f376L k) Go.Proofs.Tryd.f76.ntmps Go.Proofs.Tryd.f76.results.toList (codeOf Go.Proofs.Tryd.f76) (argsV [.dat .str] x) [.dat .str] = f376F k x := by kernel_rfl
theorem f376Ok (k : Nat) (x : ByteArray) (y : ByteArray) (h : f376F k x = some y) : FnOk P 76 [.dat .str] [.dat .str] x y :=
  evFS_sound tabOk (f376TS k) mixed Go.Proofs.Tryd.func76 (c := codeOf Go.Proofs.Tryd.f76) (by kernel_rfl) (f376LS k) ((f376E k x).trans h)
/-! ## midrange/midrangeref02.whole -/
noncomputable def f377T (k : Nat) : Table := []
theorem f377TS (k : Nat) : Sound P (f377T k) := Sound.nil
theorem f377B : HasBody P 77 := ⟨Go.Proofs.Tryd.f77, Go.Proofs.Tryd.func77, by kernel_rfl, by kernel_rfl⟩
noncomputable def f377p0H : Shape := ⟨[(0, .one (.str)), (1, .one (.bool)), (2, .one (.bool)), (7, .one (.str)), (8, .one (.bool)), (9, .one (.int .i64))], [], 0, []⟩
noncomputable def f377p0X0 : Shape := ⟨[(0, .one (.str)), (1, .one (.bool)), (2, .one (.bool)), (7, .one (.str)), (8, .one (.bool)), (9, .one (.int .i64))], [], 0, []⟩
noncomputable def f377p0N : NoteR := ⟨[0, 1, 2, 7, 8, 9], [], []⟩
noncomputable def f377p0M : NoteR := ⟨[0, 1, 2, 6, 7, 8, 9], [], []⟩
noncomputable def f377p0C : Code := firstC (codesAt 3912 (codeOf Go.Proofs.Tryd.f77) 1)
noncomputable def f377p0 {R : Type} (k : Nat) (k0 : ByteArray × Bool × Bool × ByteArray × Bool × Int × Unit → Option R) (v : ByteArray × Bool × Bool × ByteArray × Bool × Int × Unit) : Option R :=
  bif v.2.1 then
    bif (decide (v.2.2.2.2.2.1 > (0 : Int))) then
      let t1 := (Int.tmod (IntKind.i64.wrap ((v.1.size : Int) - v.2.2.2.2.2.1)) (3 : Int))
      bif (t1 == (0 : Int)) then
        bif v.2.2.2.2.1 then
          bif (decide (v.2.2.2.1.size + (⟨#[44]⟩ : ByteArray).size ≤ 9223372036854775807)) then
          k0 (v.1, v.2.1, v.2.2.1, (v.2.2.2.1 ++ (⟨#[44]⟩ : ByteArray)), v.2.2.2.2.1, v.2.2.2.2.2.1, ())
          else none
        else
        bif (decide (v.2.2.2.1.size + (⟨#[32]⟩ : ByteArray).size ≤ 9223372036854775807)) then
        k0 (v.1, v.2.1, v.2.2.1, (v.2.2.2.1 ++ (⟨#[32]⟩ : ByteArray)), v.2.2.2.2.1, v.2.2.2.2.2.1, ())
        else none
      else
      k0 (v.1, v.2.1, v.2.2.1, v.2.2.2.1, v.2.2.2.2.1, v.2.2.2.2.2.1, ())
    else
    k0 (v.1, v.2.1, v.2.2.1, v.2.2.2.1, v.2.2.2.2.1, v.2.2.2.2.2.1, ())
  else
  k0 (v.1, v.2.1, v.2.2.1, v.2.2.2.1, v.2.2.2.2.1, v.2.2.2.2.2.1, ())
noncomputable def f377p0S (k : Nat) : Sum1 := partSum f377p0H f377p0N (fun R K v => f377p0 k (fun w => K .normal (encSt f377p0X0 w)) v)
theorem f377p0E (k : Nat) (R : Type) (K : X → St → Option R) (v : f377p0H.Den) : evS tab (f377T k) Go.Proofs.Tryd.f77.ntmps [] f377p0C 3912 (partK f377p0M K) (encSt f377p0H v) = f377p0 k (fun w => K .normal (encSt f377p0X0 w)) v := by kernel_rfl
theorem f377p0I (k : Nat) : SumsOk P Go.Proofs.Tryd.f77.ntmps [] f377p0C 3912 := SumsOk.nil
theorem f377p0O (k : Nat) : SumOk P Go.Proofs.Tryd.f77.ntmps f377p0C (f377p0S k) := sum_part tabOk (f377TS k) mixed (f377p0I k) (f377p0E k)
noncomputable def f377p1H : Shape := ⟨[(0, .one (.str)), (1, .one (.bool)), (2, .one (.bool)), (7, .one (.str)), (8, .one (.bool)), (9, .one (.int .i64))], [], 0, []⟩
noncomputable def f377p1X0 : Shape := ⟨[(0, .one (.str)), (1, .one (.bool)), (2, .one (.bool)), (7, .one (.str)), (8, .one (.bool)), (9, .one (.int .i64))], [], 0, []⟩
noncomputable def f377p1N : NoteR := ⟨[0, 1, 2, 7, 8, 9], [], []⟩
noncomputable def f377p1M : NoteR := ⟨[0, 1, 2, 6, 7, 8, 9], [], []⟩
noncomputable def f377p1C : Code := firstC (codesAt 978 (codeOf Go.Proofs.Tryd.f77) 1)
noncomputable def f377p1 {R : Type} (k : Nat) (k0 : ByteArray × Bool × Bool × ByteArray × Bool × Int × Unit → Option R) (v : ByteArray × Bool × Bool × ByteArray × Bool × Int × Unit) : Option R :=
  f377p0 k
    (fun (w2 : ByteArray × Bool × Bool × ByteArray × Bool × Int × Unit) =>
      bif w2.2.2.2.2.1 then
        bif (sliceBds w2.2.2.2.2.2.1 (IntKind.i64.wrap (w2.2.2.2.2.2.1 + (1 : Int))) (w2.1.size : Int)) then
        let t3 := (w2.1.extract (Int.toNat w2.2.2.2.2.2.1) (Int.toNat (IntKind.i64.wrap (w2.2.2.2.2.2.1 + (1 : Int)))))
        bif (decide (w2.2.2.2.1.size + t3.size ≤ 9223372036854775807)) then
        k0 (w2.1, w2.2.1, w2.2.2.1, (w2.2.2.2.1 ++ t3), true, w2.2.2.2.2.2.1, ())
        else none
        else none
      else
      bif ((decide ((0 : Int) ≤ w2.2.2.2.2.2.1)) && (decide (w2.2.2.2.2.2.1 < (w2.1.size : Int)))) then
      bif ((bt w2.1 w2.2.2.2.2.2.1) != (48 : Int)) then
        bif (sliceBds w2.2.2.2.2.2.1 (IntKind.i64.wrap (w2.2.2.2.2.2.1 + (1 : Int))) (w2.1.size : Int)) then
        let t4 := (w2.1.extract (Int.toNat w2.2.2.2.2.2.1) (Int.toNat (IntKind.i64.wrap (w2.2.2.2.2.2.1 + (1 : Int)))))
        bif (decide (w2.2.2.2.1.size + t4.size ≤ 9223372036854775807)) then
        k0 (w2.1, w2.2.1, w2.2.2.1, (w2.2.2.2.1 ++ t4), true, w2.2.2.2.2.2.1, ())
        else none
        else none
      else
      bif w2.2.2.1 then
        bif (w2.2.2.2.2.2.1 == (IntKind.i64.wrap ((w2.1.size : Int) - (1 : Int)))) then
          bif (sliceBds w2.2.2.2.2.2.1 (IntKind.i64.wrap (w2.2.2.2.2.2.1 + (1 : Int))) (w2.1.size : Int)) then
          let t5 := (w2.1.extract (Int.toNat w2.2.2.2.2.2.1) (Int.toNat (IntKind.i64.wrap (w2.2.2.2.2.2.1 + (1 : Int)))))
          bif (decide (w2.2.2.2.1.size + t5.size ≤ 9223372036854775807)) then
          k0 (w2.1, w2.2.1, w2.2.2.1, (w2.2.2.2.1 ++ t5), (w2.2.2.2.2.2.1 == (IntKind.i64.wrap ((w2.1.size : Int) - (1 : Int)))), w2.2.2.2.2.2.1, ())
          else none
          else none
        else
        bif (decide (w2.2.2.2.1.size + (⟨#[32]⟩ : ByteArray).size ≤ 9223372036854775807)) then
        k0 (w2.1, w2.2.1, w2.2.2.1, (w2.2.2.2.1 ++ (⟨#[32]⟩ : ByteArray)), (w2.2.2.2.2.2.1 == (IntKind.i64.wrap ((w2.1.size : Int) - (1 : Int)))), w2.2.2.2.2.2.1, ())
        else none
      else
      bif (decide (w2.2.2.2.1.size + (⟨#[32]⟩ : ByteArray).size ≤ 9223372036854775807)) then
      k0 (w2.1, w2.2.1, w2.2.2.1, (w2.2.2.2.1 ++ (⟨#[32]⟩ : ByteArray)), false, w2.2.2.2.2.2.1, ())
      else none
      else none)
    (v.1, v.2.1, v.2.2.1, v.2.2.2.1, v.2.2.2.2.1, v.2.2.2.2.2.1, ())
noncomputable def f377p1S (k : Nat) : Sum1 := partSum f377p1H f377p1N (fun R K v => f377p1 k (fun w => K .normal (encSt f377p1X0 w)) v)
theorem f377p1E (k : Nat) (R : Type) (K : X → St → Option R) (v : f377p1H.Den) : evS tab (f377T k) Go.Proofs.Tryd.f77.ntmps [(3912, f377p0S k)] f377p1C 978 (partK f377p1M K) (encSt f377p1H v) = f377p1 k (fun w => K .normal (encSt f377p1X0 w)) v := by kernel_rfl
theorem f377p1I (k : Nat) : SumsOk P Go.Proofs.Tryd.f77.ntmps [(3912, f377p0S k)] f377p1C 978 := (SumsOk.nil).cons (c := f377p0C) (by kernel_rfl) (f377p0O k)
theorem f377p1O (k : Nat) : SumOk P Go.Proofs.Tryd.f77.ntmps f377p1C (f377p1S k) := sum_part tabOk (f377TS k) mixed (f377p1I k) (f377p1E k)
noncomputable def f377l2H : Shape := ⟨[(0, .one (.str)), (1, .one (.bool)), (2, .one (.bool)), (7, .one (.str)), (8, .one (.bool)), (9, .one (.int .i64))], [], 0, []⟩
noncomputable def f377l2X0 : Shape := ⟨[(7, .one (.str))], [], 0, []⟩
noncomputable def f377l2N : NoteR := ⟨[0, 1, 2, 7, 8, 9], [], []⟩
noncomputable def f377l2M : NoteR := ⟨[6, 7], [], []⟩
noncomputable def f377l2C : Code := firstC (codesAt 122 (codeOf Go.Proofs.Tryd.f77) 1)
noncomputable def f377l2s {R : Type} (k : Nat) (rec : ByteArray × Bool × Bool × ByteArray × Bool × Int × Unit → Option R) (k0 : ByteArray × Unit → Option R) (v : ByteArray × Bool × Bool × ByteArray × Bool × Int × Unit) : Option R :=
  bif (decide (v.2.2.2.2.2.1 < (v.1.size : Int))) then
    f377p1 k
      (fun (w6 : ByteArray × Bool × Bool × ByteArray × Bool × Int × Unit) =>
        rec (w6.1, w6.2.1, w6.2.2.1, w6.2.2.2.1, w6.2.2.2.2.1, (IntKind.i64.wrap (w6.2.2.2.2.2.1 + (1 : Int))), ()))
      (v.1, v.2.1, v.2.2.1, v.2.2.2.1, v.2.2.2.2.1, v.2.2.2.2.2.1, ())
  else
  k0 (v.2.2.2.1, ())
noncomputable def f377l2 {R : Type} (k : Nat) (k0 : ByteArray × Unit → Option R) (v : ByteArray × Bool × Bool × ByteArray × Bool × Int × Unit) : Option R := iterS (fun rec v => f377l2s k rec k0 v) k v
noncomputable def f377l2S (k : Nat) : Sum1 := loopSum f377l2H f377l2N k (fun R rec K v => f377l2s k rec (fun w => K (.exit 0) (encSt f377l2X0 w)) v)
theorem f377l2E (k : Nat) (R : Type) (rec : St → Option R) (K : X → St → Option R) (v : f377l2H.Den) : evS tab (f377T k) Go.Proofs.Tryd.f77.ntmps [(3912, f377p0S k), (978, f377p1S k)] (bodyOf f377l2C) 244 (bodyK f377l2N f377l2M rec K) (encSt f377l2H v) = f377l2s k (fun v => rec (encSt f377l2H v)) (fun w => K (.exit 0) (encSt f377l2X0 w)) v := by kernel_rfl
theorem f377l2I (k : Nat) : SumsOk P Go.Proofs.Tryd.f77.ntmps [(3912, f377p0S k), (978, f377p1S k)] (bodyOf f377l2C) 244 := ((SumsOk.nil).cons (c := f377p1C) (by kernel_rfl) (f377p1O k)).cons (c := f377p0C) (by kernel_rfl) (f377p0O k)
theorem f377l2O (k : Nat) : SumOk P Go.Proofs.Tryd.f77.ntmps f377l2C (f377l2S k) := (show f377l2C = .loop (bodyOf f377l2C) by kernel_rfl) ▸ sum_loop tabOk (f377TS k) mixed (f377l2I k) (f377l2E k)
noncomputable def f377F (k : Nat) (x : ByteArray × Bool × Bool) : Option (ByteArray) :=
  f377l2 k
    (fun (w7 : ByteArray × Unit) =>
      some w7.1)
    (x.1, x.2.1, x.2.2, ByteArray.empty, false, (0 : Int), ())
noncomputable def f377L (k : Nat) : Sums := [(3912, f377p0S k), (978, f377p1S k), (122, f377l2S k)]
theorem f377LS (k : Nat) : SumsOk P Go.Proofs.Tryd.f77.ntmps (f377L k) (codeOf Go.Proofs.Tryd.f77) 1 := (((SumsOk.nil).cons (c := f377l2C) (by kernel_rfl) (f377l2O k)).cons (c := f377p1C) (by kernel_rfl) (f377p1O k)).cons (c := f377p0C) (by kernel_rfl) (f377p0O k)
theorem f377E (k : Nat) (x : ByteArray × Bool × Bool) : evFS tab (f377T k) (f377L k) Go.Proofs.Tryd.f77.ntmps Go.Proofs.Tryd.f77.results.toList (codeOf Go.Proofs.Tryd.f77) (argsV [.dat .str, .dat .bool, .dat .bool] x) [.dat .str] = f377F k x := by kernel_rfl
theorem f377Ok (k : Nat) (x : ByteArray × Bool × Bool) (y : ByteArray) (h : f377F k x = some y) : FnOk P 77 [.dat .str, .dat .bool, .dat .bool] [.dat .str] x y :=
  evFS_sound tabOk (f377TS k) mixed Go.Proofs.Tryd.func77 (c := codeOf Go.Proofs.Tryd.f77) (by kernel_rfl) (f377LS k) ((f377E k x).trans h)
/-! ## midrange/midrangeref02.floated -/
noncomputable def f378T (k : Nat) : Table := []
theorem f378TS (k : Nat) : Sound P (f378T k) := Sound.nil
theorem f378B : HasBody P 78 := ⟨Go.Proofs.Tryd.f78, Go.Proofs.Tryd.func78, by kernel_rfl, by kernel_rfl⟩
noncomputable def f378l0H : Shape := ⟨[(0, .one (.str)), (1, .one (.int .u8)), (5, .one (.int .i64))], [], 0, []⟩
noncomputable def f378l0X0 : Shape := ⟨[(0, .one (.str)), (4, .one (.str))], [], 0, []⟩
noncomputable def f378l0X1 : Shape := ⟨[(0, .one (.str))], [], 0, []⟩
noncomputable def f378l0N : NoteR := ⟨[0, 1, 5], [], []⟩
noncomputable def f378l0M : NoteR := ⟨[0, 4], [], []⟩
noncomputable def f378l0C : Code := firstC (codesAt 58 (codeOf Go.Proofs.Tryd.f78) 1)
noncomputable def f378l0s {R : Type} (k : Nat) (rec : ByteArray × Int × Int × Unit → Option R) (k0 : ByteArray × ByteArray × Unit → Option R) (k1 : ByteArray × Unit → Option R) (v : ByteArray × Int × Int × Unit) : Option R :=
  bif (decide (v.2.2.1 < (v.1.size : Int))) then
    bif ((decide ((0 : Int) ≤ v.2.2.1)) && (decide (v.2.2.1 < (v.1.size : Int)))) then
    bif ((bt v.1 v.2.2.1) != (32 : Int)) then
      bif (sliceBds (0 : Int) (IntKind.i64.wrap (v.2.2.1 - (1 : Int))) (v.1.size : Int)) then
      bif (decide ((v.1.extract 0 (Int.toNat (IntKind.i64.wrap (v.2.2.1 - (1 : Int))))).size + (strOfNums [v.2.1]).size ≤ 9223372036854775807)) then
      let t1 := ((v.1.extract 0 (Int.toNat (IntKind.i64.wrap (v.2.2.1 - (1 : Int))))) ++ (strOfNums [v.2.1]))
      bif (sliceBds v.2.2.1 (v.1.size : Int) (v.1.size : Int)) then
      bif (decide (t1.size + (v.1.extract (Int.toNat v.2.2.1) (Int.toNat (v.1.size : Int))).size ≤ 9223372036854775807)) then
      k0 (v.1, (t1 ++ (v.1.extract (Int.toNat v.2.2.1) (Int.toNat (v.1.size : Int)))), ())
      else none
      else none
      else none
      else none
    else
    rec (v.1, v.2.1, (IntKind.i64.wrap (v.2.2.1 + (1 : Int))), ())
    else none
  else
  k1 (v.1, ())
noncomputable def f378l0 {R : Type} (k : Nat) (k0 : ByteArray × ByteArray × Unit → Option R) (k1 : ByteArray × Unit → Option R) (v : ByteArray × Int × Int × Unit) : Option R := iterS (fun rec v => f378l0s k rec k0 k1 v) k v
noncomputable def f378l0S (k : Nat) : Sum1 := loopSum f378l0H f378l0N k (fun R rec K v => f378l0s k rec (fun w => K .ret (encSt f378l0X0 w)) (fun w => K (.exit 0) (encSt f378l0X1 w)) v)
theorem f378l0E (k : Nat) (R : Type) (rec : St → Option R) (K : X → St → Option R) (v : f378l0H.Den) : evS tab (f378T k) Go.Proofs.Tryd.f78.ntmps [] (bodyOf f378l0C) 116 (bodyK f378l0N f378l0M rec K) (encSt f378l0H v) = f378l0s k (fun v => rec (encSt f378l0H v)) (fun w => K .ret (encSt f378l0X0 w)) (fun w => K (.exit 0) (encSt f378l0X1 w)) v := by kernel_rfl
theorem f378l0I (k : Nat) : SumsOk P Go.Proofs.Tryd.f78.ntmps [] (bodyOf f378l0C) 116 := SumsOk.nil
theorem f378l0O (k : Nat) : SumOk P Go.Proofs.Tryd.f78.ntmps f378l0C (f378l0S k) := (show f378l0C = .loop (bodyOf f378l0C) by kernel_rfl) ▸ sum_loop tabOk (f378TS k) mixed (f378l0I k) (f378l0E k)
noncomputable def f378F (k : Nat) (x : ByteArray × Int) : Option (ByteArray) :=
  bif (decide ((⟨#[32]⟩ : ByteArray).size + x.1.size ≤ 9223372036854775807)) then
  f378l0 k
    (fun (w2 : ByteArray × ByteArray × Unit) =>
      some w2.2.1)
    (fun (w3 : ByteArray × Unit) =>
      some w3.1)
    (((⟨#[32]⟩ : ByteArray) ++ x.1), x.2, (1 : Int), ())
  else none
noncomputable def f378L (k : Nat) : Sums := [(58, f378l0S k)]
theorem f378LS (k : Nat) : SumsOk P Go.Proofs.Tryd.f78.ntmps (f378L k) (codeOf Go.Proofs.Tryd.f78) 1 := (SumsOk.nil).cons (c := f378l0C) (by kernel_rfl) (f378l0O k)
theorem f378E (k : Nat) (x : ByteArray × Int) : evFS tab (f378T k) (f378L k) Go.Proofs.Tryd.f78.ntmps Go.Proofs.Tryd.f78.results.toList (codeOf Go.Proofs.Tryd.f78) (argsV [.dat .str, .dat (.int .u8)] x) [.dat .str] = f378F k x := by kernel_rfl
theorem f378Ok (k : Nat) (x : ByteArray × Int) (y : ByteArray) (h : f378F k x = some y) : FnOk P 78 [.dat .str, .dat (.int .u8)] [.dat .str] x y :=
  evFS_sound tabOk (f378TS k) mixed Go.Proofs.Tryd.func78 (c := codeOf Go.Proofs.Tryd.f78) (by kernel_rfl) (f378LS k) ((f378E k x).trans h)
/-! ## midrange/midrangeref02.starred -/
noncomputable def f379T (k : Nat) : Table := [(57, entFn [.dat (.int .u8), .dat (.int .i64)] [.dat .str] (f72F k))]
theorem f379TS (k : Nat) : Sound P (f379T k) := (Sound.nil).cons f72B (f72Ok k)
theorem f379B : HasBody P 79 := ⟨Go.Proofs.Tryd.f79, Go.Proofs.Tryd.func79, by kernel_rfl, by kernel_rfl⟩
noncomputable def f379l0H : Shape := ⟨[(0, .one (.str)), (3, .one (.int .i64))], [], 0, []⟩
noncomputable def f379l0X0 : Shape := ⟨[(0, .one (.str)), (2, .one (.str))], [], 0, []⟩
noncomputable def f379l0X1 : Shape := ⟨[(0, .one (.str))], [], 0, []⟩
noncomputable def f379l0N : NoteR := ⟨[0, 3], [], []⟩
noncomputable def f379l0M : NoteR := ⟨[0, 2], [], []⟩
noncomputable def f379l0C : Code := firstC (codesAt 26 (codeOf Go.Proofs.Tryd.f79) 1)
noncomputable def f379l0s {R : Type} (k : Nat) (rec : ByteArray × Int × Unit → Option R) (k0 : ByteArray × ByteArray × Unit → Option R) (k1 : ByteArray × Unit → Option R) (v : ByteArray × Int × Unit) : Option R :=
  bif (decide (v.2.1 < (v.1.size : Int))) then
    bif ((decide ((0 : Int) ≤ v.2.1)) && (decide (v.2.1 < (v.1.size : Int)))) then
    bif ((bt v.1 v.2.1) != (32 : Int)) then
      Option.bind (f72F k ((42 : Int), v.2.1)) fun y1 =>
      bif (sliceBds v.2.1 (v.1.size : Int) (v.1.size : Int)) then
      bif (decide (y1.size + (v.1.extract (Int.toNat v.2.1) (Int.toNat (v.1.size : Int))).size ≤ 9223372036854775807)) then
      k0 (v.1, (y1 ++ (v.1.extract (Int.toNat v.2.1) (Int.toNat (v.1.size : Int)))), ())
      else none
      else none
    else
    rec (v.1, (IntKind.i64.wrap (v.2.1 + (1 : Int))), ())
    else none
  else
  k1 (v.1, ())
noncomputable def f379l0 {R : Type} (k : Nat) (k0 : ByteArray × ByteArray × Unit → Option R) (k1 : ByteArray × Unit → Option R) (v : ByteArray × Int × Unit) : Option R := iterS (fun rec v => f379l0s k rec k0 k1 v) k v
noncomputable def f379l0S (k : Nat) : Sum1 := loopSum f379l0H f379l0N k (fun R rec K v => f379l0s k rec (fun w => K .ret (encSt f379l0X0 w)) (fun w => K (.exit 0) (encSt f379l0X1 w)) v)
theorem f379l0E (k : Nat) (R : Type) (rec : St → Option R) (K : X → St → Option R) (v : f379l0H.Den) : evS tab (f379T k) Go.Proofs.Tryd.f79.ntmps [] (bodyOf f379l0C) 52 (bodyK f379l0N f379l0M rec K) (encSt f379l0H v) = f379l0s k (fun v => rec (encSt f379l0H v)) (fun w => K .ret (encSt f379l0X0 w)) (fun w => K (.exit 0) (encSt f379l0X1 w)) v := by kernel_rfl
theorem f379l0I (k : Nat) : SumsOk P Go.Proofs.Tryd.f79.ntmps [] (bodyOf f379l0C) 52 := SumsOk.nil
theorem f379l0O (k : Nat) : SumOk P Go.Proofs.Tryd.f79.ntmps f379l0C (f379l0S k) := (show f379l0C = .loop (bodyOf f379l0C) by kernel_rfl) ▸ sum_loop tabOk (f379TS k) mixed (f379l0I k) (f379l0E k)
noncomputable def f379F (k : Nat) (x : ByteArray) : Option (ByteArray) :=
  f379l0 k
    (fun (w2 : ByteArray × ByteArray × Unit) =>
      some w2.2.1)
    (fun (w3 : ByteArray × Unit) =>
      some w3.1)
    (x, (0 : Int), ())
noncomputable def f379L (k : Nat) : Sums := [(26, f379l0S k)]
theorem f379LS (k : Nat) : SumsOk P Go.Proofs.Tryd.f79.ntmps (f379L k) (codeOf Go.Proofs.Tryd.f79) 1 := (SumsOk.nil).cons (c := f379l0C) (by kernel_rfl) (f379l0O k)
theorem f379E (k : Nat) (x : ByteArray) : evFS tab (f379T k) (f379L k) Go.Proofs.Tryd.f79.ntmps Go.Proofs.Tryd.f79.results.toList (codeOf Go.Proofs.Tryd.f79) (argsV [.dat .str] x) [.dat .str] = f379F k x := by kernel_rfl
theorem f379Ok (k : Nat) (x : ByteArray) (y : ByteArray) (h : f379F k x = some y) : FnOk P 79 [.dat .str] [.dat .str] x y :=
  evFS_sound tabOk (f379TS k) mixed Go.Proofs.Tryd.func79 (c := codeOf Go.Proofs.Tryd.f79) (by kernel_rfl) (f379LS k) ((f379E k x).trans h)
/-! ## midrange/midrangeref02.Text -/
noncomputable def f337T (k : Nat) : Table := [(46, entFn [.dat (.int .u8), .dat .str] [.dat .bool] (f346F k)), (57, entFn [.dat (.int .u8), .dat (.int .i64)] [.dat .str] (f72F k)), (75, entFn [.agg (.pair (.int .i64) (.pair (.int .i64) (.int .i64))), .dat (.int .i64)] [.dat .str] (f375F k)), (76, entFn [.dat .str] [.dat .str] (f376F k)), (77, entFn [.dat .str, .dat .bool, .dat .bool] [.dat .str] (f377F k)), (78, entFn [.dat .str, .dat (.int .u8)] [.dat .str] (f378F k)), (79, entFn [.dat .str] [.dat .str] (f379F k))]
theorem f337TS (k : Nat) : Sound P (f337T k) := (((((((Sound.nil).cons f379B (f379Ok k)).cons f378B (f378Ok k)).cons f377B (f377Ok k)).cons f376B (f376Ok k)).cons f375B (f375Ok k)).cons f72B (f72Ok k)).cons f346B (f346Ok k)
theorem f337B : HasBody P 37 := ⟨Go.Proofs.Tryd.f37, Go.Proofs.Tryd.func37, by kernel_rfl, by kernel_rfl⟩
noncomputable def f337p0H : Shape := ⟨[(1, .one (.int .i64)), (3, .one (.ptr 0 0)), (5, .one (.ptr 1 0)), (7, .one (.str)), (8, .one (.int .i64)), (9, .one (.str))], [(0, .var 23 [.int .i64, .int .i64, .int .i64]), (1, .var 27 [.int .u8, .int .i64])], 2, []⟩
noncomputable def f337p0X0 : Shape := ⟨[(1, .one (.int .i64)), (5, .one (.ptr 0 0)), (9, .one (.str))], [(0, .var 27 [.int .u8, .int .i64])], 1, []⟩
noncomputable def f337p0N : NoteR := ⟨[1, 3, 5, 7, 8, 9], [], []⟩
noncomputable def f337p0M : NoteR := ⟨[1, 5, 6, 9], [], []⟩
noncomputable def f337p0C : Code := firstC (codesAt 126 (codeOf Go.Proofs.Tryd.f37) 1)
noncomputable def f337p0 {R : Type} (k : Nat) (k0 : Int × ByteArray × Int × Int × Unit → Option R) (v : Int × ByteArray × Int × ByteArray × Int × Int × Int × Int × Int × Unit) : Option R :=
  bif (decide (v.2.2.2.2.2.2.1 > (0 : Int))) then
    bif (decide (v.2.2.2.1.size + (⟨#[46]⟩ : ByteArray).size ≤ 9223372036854775807)) then
    bif (sliceBds v.2.2.1 (v.2.1.size : Int) (v.2.1.size : Int)) then
    bif (decide ((v.2.2.2.1 ++ (⟨#[46]⟩ : ByteArray)).size + (v.2.1.extract (Int.toNat v.2.2.1) (Int.toNat (v.2.1.size : Int))).size ≤ 9223372036854775807)) then
    let t6 := ((v.2.2.2.1 ++ (⟨#[46]⟩ : ByteArray)) ++ (v.2.1.extract (Int.toNat v.2.2.1) (Int.toNat (v.2.1.size : Int))))
    k0 (v.1, t6, v.2.2.2.2.2.2.2.1, v.2.2.2.2.2.2.2.2.1, ())
    else none
    else none
    else none
  else
  k0 (v.1, v.2.2.2.1, v.2.2.2.2.2.2.2.1, v.2.2.2.2.2.2.2.2.1, ())
noncomputable def f337p0S (k : Nat) : Sum1 := partSum f337p0H f337p0N (fun R K v => f337p0 k (fun w => K .normal (encSt f337p0X0 w)) v)
theorem f337p0E (k : Nat) (R : Type) (K : X → St → Option R) (v : f337p0H.Den) : evS tab (f337T k) Go.Proofs.Tryd.f37.ntmps [] f337p0C 126 (partK f337p0M K) (encSt f337p0H v) = f337p0 k (fun w => K .normal (encSt f337p0X0 w)) v := by kernel_rfl
theorem f337p0I (k : Nat) : SumsOk P Go.Proofs.Tryd.f37.ntmps [] f337p0C 126 := SumsOk.nil
theorem f337p0O (k : Nat) : SumOk P Go.Proofs.Tryd.f37.ntmps f337p0C (f337p0S k) := sum_part tabOk (f337TS k) mixed (f337p0I k) (f337p0E k)
noncomputable def f337p1H : Shape := ⟨[(1, .one (.int .i64)), (5, .one (.ptr 0 0)), (9, .one (.str))], [(0, .var 27 [.int .u8, .int .i64])], 1, []⟩
noncomputable def f337p1X0 : Shape := ⟨[(1, .one (.int .i64)), (5, .one (.ptr 0 0)), (9, .one (.str))], [(0, .var 27 [.int .u8, .int .i64])], 1, []⟩
noncomputable def f337p1N : NoteR := ⟨[1, 5, 9], [], []⟩
noncomputable def f337p1M : NoteR := ⟨[1, 5, 6, 9], [], []⟩
noncomputable def f337p1C : Code := firstC (codesAt 254 (codeOf Go.Proofs.Tryd.f37) 1)
noncomputable def f337p1 {R : Type} (k : Nat) (k0 : Int × ByteArray × Int × Int × Unit → Option R) (v : Int × ByteArray × Int × Int × Unit) : Option R :=
  Option.bind (f346F k (v.2.2.1, (⟨#[65, 66, 67, 68]⟩ : ByteArray))) fun y8 =>
  bif y8 then
    bif (decide (v.1 < (0 : Int))) then
      bif (decide (v.2.1.size + (⟨#[67, 82]⟩ : ByteArray).size ≤ 9223372036854775807)) then
      k0 (v.1, (v.2.1 ++ (⟨#[67, 82]⟩ : ByteArray)), v.2.2.1, v.2.2.2.1, ())
      else none
    else
    bif (decide (v.2.1.size + (⟨#[32, 32]⟩ : ByteArray).size ≤ 9223372036854775807)) then
    k0 (v.1, (v.2.1 ++ (⟨#[32, 32]⟩ : ByteArray)), v.2.2.1, v.2.2.2.1, ())
    else none
  else
  k0 (v.1, v.2.1, v.2.2.1, v.2.2.2.1, ())
noncomputable def f337p1S (k : Nat) : Sum1 := partSum f337p1H f337p1N (fun R K v => f337p1 k (fun w => K .normal (encSt f337p1X0 w)) v)
theorem f337p1E (k : Nat) (R : Type) (K : X → St → Option R) (v : f337p1H.Den) : evS tab (f337T k) Go.Proofs.Tryd.f37.ntmps [] f337p1C 254 (partK f337p1M K) (encSt f337p1H v) = f337p1 k (fun w => K .normal (encSt f337p1X0 w)) v := by kernel_rfl
theorem f337p1I (k : Nat) : SumsOk P Go.Proofs.Tryd.f37.ntmps [] f337p1C 254 := SumsOk.nil
theorem f337p1O (k : Nat) : SumOk P Go.Proofs.Tryd.f37.ntmps f337p1C (f337p1S k) := sum_part tabOk (f337TS k) mixed (f337p1I k) (f337p1E k)
noncomputable def f337p2H : Shape := ⟨[(1, .one (.int .i64)), (5, .one (.ptr 0 0)), (9, .one (.str))], [(0, .var 27 [.int .u8, .int .i64])], 1, []⟩
noncomputable def f337p2X0 : Shape := ⟨[(1, .one (.int .i64)), (5, .one (.ptr 0 0)), (9, .one (.str))], [(0, .var 27 [.int .u8, .int .i64])], 1, []⟩
noncomputable def f337p2N : NoteR := ⟨[1, 5, 9], [], []⟩
noncomputable def f337p2M : NoteR := ⟨[1, 5, 6, 9], [], []⟩
noncomputable def f337p2C : Code := firstC (codesAt 510 (codeOf Go.Proofs.Tryd.f37) 1)
noncomputable def f337p2 {R : Type} (k : Nat) (k0 : Int × ByteArray × Int × Int × Unit → Option R) (v : Int × ByteArray × Int × Int × Unit) : Option R :=
  Option.bind (f346F k (v.2.2.1, (⟨#[74, 75, 76, 77]⟩ : ByteArray))) fun y10 =>
  bif y10 then
    bif (decide (v.1 < (0 : Int))) then
      bif (decide (v.2.1.size + (⟨#[45]⟩ : ByteArray).size ≤ 9223372036854775807)) then
      k0 (v.1, (v.2.1 ++ (⟨#[45]⟩ : ByteArray)), v.2.2.1, v.2.2.2.1, ())
      else none
    else
    bif (decide (v.2.1.size + (⟨#[32]⟩ : ByteArray).size ≤ 9223372036854775807)) then
    k0 (v.1, (v.2.1 ++ (⟨#[32]⟩ : ByteArray)), v.2.2.1, v.2.2.2.1, ())
    else none
  else
  k0 (v.1, v.2.1, v.2.2.1, v.2.2.2.1, ())
noncomputable def f337p2S (k : Nat) : Sum1 := partSum f337p2H f337p2N (fun R K v => f337p2 k (fun w => K .normal (encSt f337p2X0 w)) v)
theorem f337p2E (k : Nat) (R : Type) (K : X → St → Option R) (v : f337p2H.Den) : evS tab (f337T k) Go.Proofs.Tryd.f37.ntmps [] f337p2C 510 (partK f337p2M K) (encSt f337p2H v) = f337p2 k (fun w => K .normal (encSt f337p2X0 w)) v := by kernel_rfl
theorem f337p2I (k : Nat) : SumsOk P Go.Proofs.Tryd.f37.ntmps [] f337p2C 510 := SumsOk.nil
theorem f337p2O (k : Nat) : SumOk P Go.Proofs.Tryd.f37.ntmps f337p2C (f337p2S k) := sum_part tabOk (f337TS k) mixed (f337p2I k) (f337p2E k)
noncomputable def f337p3H : Shape := ⟨[(1, .one (.int .i64)), (5, .one (.ptr 0 0)), (9, .one (.str))], [(0, .var 27 [.int .u8, .int .i64])], 1, []⟩
noncomputable def f337p3X0 : Shape := ⟨[(1, .one (.int .i64)), (5, .one (.ptr 0 0)), (9, .one (.str))], [(0, .var 27 [.int .u8, .int .i64])], 1, []⟩
noncomputable def f337p3N : NoteR := ⟨[1, 5, 9], [], []⟩
noncomputable def f337p3M : NoteR := ⟨[1, 5, 6, 9], [], []⟩
noncomputable def f337p3C : Code := firstC (codesAt 1022 (codeOf Go.Proofs.Tryd.f37) 1)
noncomputable def f337p3 {R : Type} (k : Nat) (k0 : Int × ByteArray × Int × Int × Unit → Option R) (v : Int × ByteArray × Int × Int × Unit) : Option R :=
  bif (v.1 == (0 : Int)) then
    Option.bind (f346F k (v.2.2.1, (⟨#[50, 52, 66, 68, 75, 77, 79, 81]⟩ : ByteArray))) fun y12 =>
    bif y12 then
      Option.bind (f72F k ((32 : Int), (v.2.1.size : Int))) fun y13 =>
      k0 (v.1, y13, v.2.2.1, v.2.2.2.1, ())
    else
    k0 (v.1, v.2.1, v.2.2.1, v.2.2.2.1, ())
  else
  k0 (v.1, v.2.1, v.2.2.1, v.2.2.2.1, ())
noncomputable def f337p3S (k : Nat) : Sum1 := partSum f337p3H f337p3N (fun R K v => f337p3 k (fun w => K .normal (encSt f337p3X0 w)) v)
theorem f337p3E (k : Nat) (R : Type) (K : X → St → Option R) (v : f337p3H.Den) : evS tab (f337T k) Go.Proofs.Tryd.f37.ntmps [] f337p3C 1022 (partK f337p3M K) (encSt f337p3H v) = f337p3 k (fun w => K .normal (encSt f337p3X0 w)) v := by kernel_rfl
theorem f337p3I (k : Nat) : SumsOk P Go.Proofs.Tryd.f37.ntmps [] f337p3C 1022 := SumsOk.nil
theorem f337p3O (k : Nat) : SumOk P Go.Proofs.Tryd.f37.ntmps f337p3C (f337p3S k) := sum_part tabOk (f337TS k) mixed (f337p3I k) (f337p3E k)
noncomputable def f337p4H : Shape := ⟨[(1, .one (.int .i64)), (5, .one (.ptr 0 0)), (9, .one (.str))], [(0, .var 27 [.int .u8, .int .i64])], 1, []⟩
noncomputable def f337p4X0 : Shape := ⟨[(6, .one (.str)), (9, .one (.str))], [], 0, []⟩
noncomputable def f337p4X1 : Shape := ⟨[(9, .one (.str))], [], 0, []⟩
noncomputable def f337p4N : NoteR := ⟨[1, 5, 9], [], []⟩
noncomputable def f337p4M : NoteR := ⟨[6, 9], [], []⟩
noncomputable def f337p4C : Code := firstC (codesAt 2046 (codeOf Go.Proofs.Tryd.f37) 1)
noncomputable def f337p4 {R : Type} (k : Nat) (k0 : ByteArray × ByteArray × Unit → Option R) (k1 : ByteArray × Unit → Option R) (v : Int × ByteArray × Int × Int × Unit) : Option R :=
  bif (v.2.2.2.1 == (2 : Int)) then
    Option.bind (f378F k (v.2.1, (36 : Int))) fun y15 =>
    k0 (y15, v.2.1, ())
  else
  bif (v.2.2.2.1 == (1 : Int)) then
    Option.bind (f379F k v.2.1) fun y16 =>
    k0 (y16, v.2.1, ())
  else
  Option.bind (f346F k (v.2.2.1, (⟨#[78, 79, 80, 81]⟩ : ByteArray))) fun y17 =>
  bif y17 then
    bif (decide (v.1 < (0 : Int))) then
      Option.bind (f378F k (v.2.1, (45 : Int))) fun y18 =>
      k0 (y18, v.2.1, ())
    else
    Option.bind (f346F k (v.2.2.1, (⟨#[78, 79, 80, 81]⟩ : ByteArray))) fun y19 =>
    bif y19 then
      bif (decide ((⟨#[32]⟩ : ByteArray).size + v.2.1.size ≤ 9223372036854775807)) then
      k0 (((⟨#[32]⟩ : ByteArray) ++ v.2.1), v.2.1, ())
      else none
    else
    k1 (v.2.1, ())
  else
  Option.bind (f346F k (v.2.2.1, (⟨#[78, 79, 80, 81]⟩ : ByteArray))) fun y20 =>
  bif y20 then
    bif (decide ((⟨#[32]⟩ : ByteArray).size + v.2.1.size ≤ 9223372036854775807)) then
    k0 (((⟨#[32]⟩ : ByteArray) ++ v.2.1), v.2.1, ())
    else none
  else
  k1 (v.2.1, ())
noncomputable def f337p4S (k : Nat) : Sum1 := partSum f337p4H f337p4N (fun R K v => f337p4 k (fun w => K .ret (encSt f337p4X0 w)) (fun w => K .normal (encSt f337p4X1 w)) v)
theorem f337p4E (k : Nat) (R : Type) (K : X → St → Option R) (v : f337p4H.Den) : evS tab (f337T k) Go.Proofs.Tryd.f37.ntmps [] f337p4C 2046 (partK f337p4M K) (encSt f337p4H v) = f337p4 k (fun w => K .ret (encSt f337p4X0 w)) (fun w => K .normal (encSt f337p4X1 w)) v := by kernel_rfl
theorem f337p4I (k : Nat) : SumsOk P Go.Proofs.Tryd.f37.ntmps [] f337p4C 2046 := SumsOk.nil
theorem f337p4O (k : Nat) : SumOk P Go.Proofs.Tryd.f37.ntmps f337p4C (f337p4S k) := sum_part tabOk (f337TS k) mixed (f337p4I k) (f337p4E k)
noncomputable def f337F (k : Nat) (x : (Int × (Int × Int)) × Int × (Int × Int)) : Option (ByteArray) :=
  Option.bind (f375F k ((x.1.1, (x.1.2.1, x.1.2.2)), x.2.1)) fun y1 =>
  bif (x.2.2.1 == (88 : Int)) then
    some y1
  else
  bif (x.2.2.1 == (89 : Int)) then
    Option.bind (f376F k y1) fun y2 =>
    some y2
  else
  bif (x.2.2.1 == (90 : Int)) then
    Option.bind (f377F k (y1, false, false)) fun y3 =>
    some y3
  else
  bif (sliceBds (0 : Int) (IntKind.i64.wrap (x.1.2.1 - x.1.2.2)) (y1.size : Int)) then
  Option.bind (f346F k (x.2.2.1, (⟨#[49, 50, 65, 66, 74, 75, 78, 79]⟩ : ByteArray))) fun y4 =>
  Option.bind (f377F k ((y1.extract 0 (Int.toNat (IntKind.i64.wrap (x.1.2.1 - x.1.2.2)))), y4, (x.1.2.2 == (0 : Int)))) fun y5 =>
  f337p0 k
    (fun (w7 : Int × ByteArray × Int × Int × Unit) =>
      f337p1 k
        (fun (w9 : Int × ByteArray × Int × Int × Unit) =>
          f337p2 k
            (fun (w11 : Int × ByteArray × Int × Int × Unit) =>
              f337p3 k
                (fun (w14 : Int × ByteArray × Int × Int × Unit) =>
                  f337p4 k
                    (fun (w21 : ByteArray × ByteArray × Unit) =>
                      some w21.1)
                    (fun (w22 : ByteArray × Unit) =>
                      some w22.1)
                    (w14.1, w14.2.1, w14.2.2.1, w14.2.2.2.1, ()))
                (w11.1, w11.2.1, w11.2.2.1, w11.2.2.2.1, ()))
            (w9.1, w9.2.1, w9.2.2.1, w9.2.2.2.1, ()))
        (w7.1, w7.2.1, w7.2.2.1, w7.2.2.2.1, ()))
    (x.2.1, y1, (IntKind.i64.wrap (x.1.2.1 - x.1.2.2)), y5, x.1.1, x.1.2.1, x.1.2.2, x.2.2.1, x.2.2.2, ())
  else none
noncomputable def f337L (k : Nat) : Sums := [(126, f337p0S k), (254, f337p1S k), (510, f337p2S k), (1022, f337p3S k), (2046, f337p4S k)]
theorem f337LS (k : Nat) : SumsOk P Go.Proofs.Tryd.f37.ntmps (f337L k) (codeOf Go.Proofs.Tryd.f37) 1 := (((((SumsOk.nil).cons (c := f337p4C) (by kernel_rfl) (f337p4O k)).cons (c := f337p3C) (by kernel_rfl) (f337p3O k)).cons (c := f337p2C) (by kernel_rfl) (f337p2O k)).cons (c := f337p1C) (by kernel_rfl) (f337p1O k)).cons (c := f337p0C) (by kernel_rfl) (f337p0O k)
theorem f337E (k : Nat) (x : (Int × (Int × Int)) × Int × (Int × Int)) : evFS tab (f337T k) (f337L k) Go.Proofs.Tryd.f37.ntmps Go.Proofs.Tryd.f37.results.toList (codeOf Go.Proofs.Tryd.f37) (argsV [.agg (.pair (.int .i64) (.pair (.int .i64) (.int .i64))), .dat (.int .i64), .agg (.pair (.int .u8) (.int .i64))] x) [.dat .str] = f337F k x := by kernel_rfl
theorem f337Ok (k : Nat) (x : (Int × (Int × Int)) × Int × (Int × Int)) (y : ByteArray) (h : f337F k x = some y) : FnOk P 37 [.agg (.pair (.int .i64) (.pair (.int .i64) (.int .i64))), .dat (.int .i64), .agg (.pair (.int .u8) (.int .i64))] [.dat .str] x y :=
  evFS_sound tabOk (f337TS k) mixed Go.Proofs.Tryd.func37 (c := codeOf Go.Proofs.Tryd.f37) (by kernel_rfl) (f337LS k) ((f337E k x).trans h)
/-! ## midrange/midrangeref02.Edited -/
noncomputable def f315T (k : Nat) : Table := [(21, entFn [.agg (.pair (.int .i64) (.pair (.int .i64) (.int .i64))), .agg (.pair (.int .u8) (.int .i64))] [.dat (.int .i64)] (f321F k)), (28, entFn [.agg (.pair (.int .i64) (.pair (.int .i64) (.int .i64))), .agg (.pair (.int .i64) .str)] [.dat (.int .i64)] (f30F k)), (37, entFn [.agg (.pair (.int .i64) (.pair (.int .i64) (.int .i64))), .dat (.int .i64), .agg (.pair (.int .u8) (.int .i64))] [.dat .str] (f337F k))]
theorem f315TS (k : Nat) : Sound P (f315T k) := (((Sound.nil).cons f337B (f337Ok k)).cons f30B (f30Ok k)).cons f321B (f321Ok k)
theorem f315B : HasBody P 15 := ⟨Go.Proofs.Tryd.f15, Go.Proofs.Tryd.func15, by kernel_rfl, by kernel_rfl⟩
noncomputable def f315F (k : Nat) (x : (Int × (Int × Int)) × (Int × ByteArray) × (Int × Int)) : Option (ByteArray × Int) :=
  Option.bind (f321F k ((x.1.1, (x.1.2.1, x.1.2.2)), (x.2.2.1, x.2.2.2))) fun y1 =>
  bif (y1 != (0 : Int)) then
    some (ByteArray.empty, y1)
  else
  Option.bind (f30F k ((x.1.1, (x.1.2.1, x.1.2.2)), (x.2.1.1, x.2.1.2))) fun y2 =>
  bif (y2 != (0 : Int)) then
    some (ByteArray.empty, y2)
  else
  Option.bind (f337F k ((x.1.1, (x.1.2.1, x.1.2.2)), x.2.1.1, (x.2.2.1, x.2.2.2))) fun y3 =>
  some (y3, (0 : Int))
noncomputable def f315L (k : Nat) : Sums := []
theorem f315LS (k : Nat) : SumsOk P Go.Proofs.Tryd.f15.ntmps (f315L k) (codeOf Go.Proofs.Tryd.f15) 1 := SumsOk.nil
theorem f315E (k : Nat) (x : (Int × (Int × Int)) × (Int × ByteArray) × (Int × Int)) : evFS tab (f315T k) (f315L k) Go.Proofs.Tryd.f15.ntmps Go.Proofs.Tryd.f15.results.toList (codeOf Go.Proofs.Tryd.f15) (argsV [.agg (.pair (.int .i64) (.pair (.int .i64) (.int .i64))), .agg (.pair (.int .i64) .str), .agg (.pair (.int .u8) (.int .i64))] x) [.dat .str, .dat (.int .i64)] = f315F k x := by kernel_rfl
theorem f315Ok (k : Nat) (x : (Int × (Int × Int)) × (Int × ByteArray) × (Int × Int)) (y : ByteArray × Int) (h : f315F k x = some y) : FnOk P 15 [.agg (.pair (.int .i64) (.pair (.int .i64) (.int .i64))), .agg (.pair (.int .i64) .str), .agg (.pair (.int .u8) (.int .i64))] [.dat .str, .dat (.int .i64)] x y :=
  evFS_sound tabOk (f315TS k) mixed Go.Proofs.Tryd.func15 (c := codeOf Go.Proofs.Tryd.f15) (by kernel_rfl) (f315LS k) ((f315E k x).trans h)
/-! ## midrange/midrangelaw02.EditTexts -/
noncomputable def f303T (k : Nat) : Table := [(13, entFn [] [.dat .bool] (f313F k)), (14, entFn [.agg (.pair (.int .i64) (.pair (.int .i64) (.int .i64))), .agg (.pair (.int .i64) .str), .agg (.pair (.int .u8) (.int .i64))] [.dat .str, .dat (.int .i64)] (f314F k)), (15, entFn [.agg (.pair (.int .i64) (.pair (.int .i64) (.int .i64))), .agg (.pair (.int .i64) .str), .agg (.pair (.int .u8) (.int .i64))] [.dat .str, .dat (.int .i64)] (f315F k))]
theorem f303TS (k : Nat) : Sound P (f303T k) := (((Sound.nil).cons f315B (f315Ok k)).cons f314B (f314Ok k)).cons f313B (f313Ok k)
theorem f303B : HasBody P 3 := ⟨Go.Proofs.Tryd.f3, Go.Proofs.Tryd.func3, by kernel_rfl, by kernel_rfl⟩
noncomputable def f303F (k : Nat) (x : (Int × (Int × Int)) × (Int × ByteArray) × (Int × Int)) : Option (Bool) :=
  Option.bind (f313F k ()) fun y1 =>
  bif (!y1) then
    some false
  else
  bif (decide ((x.2.1.2.size : Int) > (300 : Int))) then
    some true
  else
  Option.bind (f314F k ((x.1.1, (x.1.2.1, x.1.2.2)), (x.2.1.1, x.2.1.2), (x.2.2.1, x.2.2.2))) fun y2 =>
  Option.bind (f315F k ((x.1.1, (x.1.2.1, x.1.2.2)), (x.2.1.1, x.2.1.2), (x.2.2.1, x.2.2.2))) fun y3 =>
  bif (y2.2 == y3.2) then
    some (strEq y2.1 y3.1)
  else
  some false
noncomputable def f303L (k : Nat) : Sums := []
theorem f303LS (k : Nat) : SumsOk P Go.Proofs.Tryd.f3.ntmps (f303L k) (codeOf Go.Proofs.Tryd.f3) 1 := SumsOk.nil
theorem f303E (k : Nat) (x : (Int × (Int × Int)) × (Int × ByteArray) × (Int × Int)) : evFS tab (f303T k) (f303L k) Go.Proofs.Tryd.f3.ntmps Go.Proofs.Tryd.f3.results.toList (codeOf Go.Proofs.Tryd.f3) (argsV [.agg (.pair (.int .i64) (.pair (.int .i64) (.int .i64))), .agg (.pair (.int .i64) .str), .agg (.pair (.int .u8) (.int .i64))] x) [.dat .bool] = f303F k x := by kernel_rfl
theorem f303Ok (k : Nat) (x : (Int × (Int × Int)) × (Int × ByteArray) × (Int × Int)) (y : Bool) (h : f303F k x = some y) : FnOk P 3 [.agg (.pair (.int .i64) (.pair (.int .i64) (.int .i64))), .agg (.pair (.int .i64) .str), .agg (.pair (.int .u8) (.int .i64))] [.dat .bool] x y :=
  evFS_sound tabOk (f303TS k) mixed Go.Proofs.Tryd.func3 (c := codeOf Go.Proofs.Tryd.f3) (by kernel_rfl) (f303LS k) ((f303E k x).trans h)
end Go.Proofs.YtecbbmokocnadaaDoor
