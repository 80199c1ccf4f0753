/- What functions of the program compute: each as a plain Lean function, and that the code comes to it. Printed by gen.py. -/
import Derived.Test.YtecbbmokocnadaaDoorFbJ
import Derived.Test.YtecbbmokocnadaaDoorProg
/-! Printed by gen.py: what functions compute. -/
set_option linter.unusedVariables false
set_option maxRecDepth 100000
namespace Go.Proofs.YtecbbmokocnadaaDoor
open Go.Ab
/-! ## midrange/edit.UneditedBy$1 -/
noncomputable def f360T (k : Nat) : Table := []
theorem f360TS (k : Nat) : Sound P (f360T k) := Sound.nil
theorem f360B : HasBody P 60 := ⟨Go.Proofs.Tryd.f60, Go.Proofs.Tryd.func60, by kernel_rfl, by kernel_rfl⟩
noncomputable def f360F (k : Nat) (x : (Int × ByteArray)) : Option (ByteArray) :=
  none
noncomputable def f360L (k : Nat) : Sums := []
theorem f360LS (k : Nat) : SumsOk P Go.Proofs.Tryd.f60.ntmps (f360L k) (codeOf Go.Proofs.Tryd.f60) 1 := SumsOk.nil
theorem f360E (k : Nat) (x : (Int × ByteArray)) : evFS tab (f360T k) (f360L k) Go.Proofs.Tryd.f60.ntmps Go.Proofs.Tryd.f60.results.toList (codeOf Go.Proofs.Tryd.f60) (argsV [.agg (.pair (.int .i64) .str)] x) [.dat .str] = f360F k x := by kernel_rfl
theorem f360Ok (k : Nat) (x : (Int × ByteArray)) (y : ByteArray) (h : f360F k x = some y) : FnOk P 60 [.agg (.pair (.int .i64) .str)] [.dat .str] x y :=
  evFS_sound tabOk (f360TS k) mixed Go.Proofs.Tryd.func60 (c := codeOf Go.Proofs.Tryd.f60) (by kernel_rfl) (f360LS k) ((f360E k x).trans h)
/-! ## midrange/edit.UneditedBy$1, handed what it may write -/
noncomputable def f360v0I : Shape := ⟨[(0, .agg [.int .i64, .str]), (1, .one (.ptr 0 0)), (2, .one (.ptr 1 0)), (3, .one (.ptr 2 0))], [(0, .var 23 [.int .i64, .int .i64, .int .i64]), (1, .var 9 [.str]), (2, .var 36 [.int .i64, .int .i64, .int .i64, .bool])], 3, []⟩
noncomputable def f360v0U : Shape := ⟨[(0, .one (.str))], [(0, .var 23 [.int .i64, .int .i64, .int .i64]), (1, .var 9 [.str]), (2, .var 36 [.int .i64, .int .i64, .int .i64, .bool])], 3, []⟩
noncomputable def f360v0T (k : Nat) : Table := [(41, entFn [.agg (.pair (.int .i64) (.pair (.int .i64) (.int .i64))), .agg (.pair (.int .i64) .str), .dat .str, .agg (.pair (.int .i64) (.pair (.int .i64) (.pair (.int .i64) .bool)))] [.dat .str] (f341F k))]
theorem f360v0TS (k : Nat) : Sound P (f360v0T k) := (Sound.nil).cons f341B (f341Ok k)
noncomputable def f360v0F (k : Nat) (x : Int × ByteArray × Int × Int × Int × ByteArray × Int × Int × Int × Bool × Unit) : Option (ByteArray × Int × Int × Int × ByteArray × Int × Int × Int × Bool × Unit) :=
  Option.bind (f341F k ((x.2.2.1, (x.2.2.2.1, x.2.2.2.2.1)), (x.1, x.2.1), x.2.2.2.2.2.1, (x.2.2.2.2.2.2.1, (x.2.2.2.2.2.2.2.1, (x.2.2.2.2.2.2.2.2.1, x.2.2.2.2.2.2.2.2.2.1))))) fun y1 =>
  some (y1, x.2.2.1, x.2.2.2.1, x.2.2.2.2.1, x.2.2.2.2.2.1, x.2.2.2.2.2.2.1, x.2.2.2.2.2.2.2.1, x.2.2.2.2.2.2.2.2.1, x.2.2.2.2.2.2.2.2.2.1, ())
noncomputable def f360v0L (k : Nat) : Sums := []
theorem f360v0LS (k : Nat) : SumsOk P Go.Proofs.Tryd.f60.ntmps (f360v0L k) (codeOf Go.Proofs.Tryd.f60) 1 := SumsOk.nil
theorem f360v0E (k : Nat) (x : f360v0I.Den) : evG tab (f360v0T k) (f360v0L k) Go.Proofs.Tryd.f60.ntmps Go.Proofs.Tryd.f60.results.toList (codeOf Go.Proofs.Tryd.f60) f360v0I x [.dat .bool] f360v0U = f360v0F k x := by kernel_rfl
theorem f360v0Ok (k : Nat) (x : f360v0I.Den) (y : f360v0U.Den) (h : f360v0F k x = some y) : GnOk P 60 f360v0I f360v0U x y :=
  evG_sound tabOk (f360v0TS k) mixed Go.Proofs.Tryd.func60 (c := codeOf Go.Proofs.Tryd.f60) (by kernel_rfl) (f360v0LS k) ((f360v0E k x).trans h)
/-! ## midrange/edit.read, handed what it may write -/
noncomputable def f359v0I : Shape := ⟨[(0, .agg [.int .i64, .int .i64, .int .i64]), (1, .one (.str)), (2, .one (.str)), (3, .one (.fn 60 [0, 1, 2]))], [(0, .var 23 [.int .i64, .int .i64, .int .i64]), (1, .var 9 [.str]), (2, .var 36 [.int .i64, .int .i64, .int .i64, .bool])], 3, []⟩
noncomputable def f359v0U : Shape := ⟨[(0, .agg [.int .i64, .str]), (1, .one (.int .i64))], [(0, .var 23 [.int .i64, .int .i64, .int .i64]), (1, .var 9 [.str]), (2, .var 36 [.int .i64, .int .i64, .int .i64, .bool])], 3, []⟩
noncomputable def f359v0T (k : Nat) : Table := [(25, entFn [.agg (.pair (.int .i64) (.pair (.int .i64) (.int .i64))), .agg (.pair (.int .i64) .str)] [.dat (.int .i64)] (f29F k)), (60, entG f360v0I f360v0U (f360v0F k))]
theorem f359v0TS (k : Nat) : Sound P (f359v0T k) := ((Sound.nil).consE f360B (entG_ok (f360v0Ok k))).cons f29B (f29Ok k)
theorem f359B : HasBody P 59 := ⟨Go.Proofs.Tryd.f59, Go.Proofs.Tryd.func59, by kernel_rfl, by kernel_rfl⟩
noncomputable def f359v0l0H : Shape := ⟨[(1, .one (.str)), (3, .one (.fn 60 [0, 1, 2])), (4, .one (.ptr 3 0)), (8, .one (.ptr 4 0)), (10, .one (.int .i64)), (22, .one (.own 5)), (23, .one (.int .i64)), (24, .one (.int .i64))], [(0, .var 23 [.int .i64, .int .i64, .int .i64]), (1, .var 9 [.str]), (2, .var 36 [.int .i64, .int .i64, .int .i64, .bool]), (3, .var 23 [.int .i64, .int .i64, .int .i64]), (4, .var 25 [.int .i64, .str]), (5, .row 5 (.int .u8) .mark)], 6, [some 0, some 1, some 2]⟩
noncomputable def f359v0l0X0 : Shape := ⟨[(1, .one (.str)), (3, .one (.fn 60 [0, 1, 2])), (4, .one (.ptr 3 0)), (8, .one (.ptr 4 0)), (10, .one (.int .i64))], [(0, .var 23 [.int .i64, .int .i64, .int .i64]), (1, .var 9 [.str]), (2, .var 36 [.int .i64, .int .i64, .int .i64, .bool]), (3, .var 23 [.int .i64, .int .i64, .int .i64]), (4, .var 25 [.int .i64, .str])], 5, [some 0, some 1, some 2]⟩
noncomputable def f359v0l0N : NoteR := ⟨[1, 3, 4, 8, 10, 22, 23, 24], [], []⟩
noncomputable def f359v0l0M : NoteR := ⟨[1, 3, 4, 8, 9, 10], [], []⟩
noncomputable def f359v0l0C : Code := firstC (codesAt 122 (codeOf Go.Proofs.Tryd.f59) 1)
noncomputable def f359v0l0s {R : Type} (k : Nat) (rec : ByteArray × Int × Int × Int × Int × Int × Int × ByteArray × Int × Int × Int × Bool × Int × Int × Int × Int × ByteArray × List Int × Unit → Option R) (k0 : ByteArray × Int × Int × Int × Int × ByteArray × Int × Int × Int × Bool × Int × Int × Int × Int × ByteArray × Unit → Option R) (v : ByteArray × Int × Int × Int × Int × Int × Int × ByteArray × Int × Int × Int × Bool × Int × Int × Int × Int × ByteArray × List Int × Unit) : Option R :=
  bif (decide (v.2.2.2.1 < v.2.2.1)) then
    bif ((decide ((0 : Int) ≤ v.2.2.2.1)) && (decide (v.2.2.2.1 < (v.2.2.2.2.2.2.2.2.2.2.2.2.2.2.2.2.2.1.length : Int)))) then
    let t1 := (v.2.2.2.2.2.2.2.2.2.2.2.2.2.2.2.2.2.1.getD (Int.toNat v.2.2.2.1) (0 : Int))
    let t2 := (IntKind.i64.wrap ((IntKind.i64.wrap (v.2.1 * (10 : Int))) + (IntKind.i64.wrap (IntKind.u8.wrap (t1 - (48 : Int))))))
    rec (v.1, t2, v.2.2.1, (IntKind.i64.wrap (v.2.2.2.1 + (1 : Int))), v.2.2.2.2.1, v.2.2.2.2.2.1, v.2.2.2.2.2.2.1, v.2.2.2.2.2.2.2.1, v.2.2.2.2.2.2.2.2.1, v.2.2.2.2.2.2.2.2.2.1, v.2.2.2.2.2.2.2.2.2.2.1, v.2.2.2.2.2.2.2.2.2.2.2.1, v.2.2.2.2.2.2.2.2.2.2.2.2.1, v.2.2.2.2.2.2.2.2.2.2.2.2.2.1, v.2.2.2.2.2.2.2.2.2.2.2.2.2.2.1, v.2.2.2.2.2.2.2.2.2.2.2.2.2.2.2.1, v.2.2.2.2.2.2.2.2.2.2.2.2.2.2.2.2.1, v.2.2.2.2.2.2.2.2.2.2.2.2.2.2.2.2.2.1, ())
    else none
  else
  k0 (v.1, v.2.1, v.2.2.2.2.1, v.2.2.2.2.2.1, v.2.2.2.2.2.2.1, v.2.2.2.2.2.2.2.1, v.2.2.2.2.2.2.2.2.1, v.2.2.2.2.2.2.2.2.2.1, v.2.2.2.2.2.2.2.2.2.2.1, v.2.2.2.2.2.2.2.2.2.2.2.1, v.2.2.2.2.2.2.2.2.2.2.2.2.1, v.2.2.2.2.2.2.2.2.2.2.2.2.2.1, v.2.2.2.2.2.2.2.2.2.2.2.2.2.2.1, v.2.2.2.2.2.2.2.2.2.2.2.2.2.2.2.1, v.2.2.2.2.2.2.2.2.2.2.2.2.2.2.2.2.1, ())
noncomputable def f359v0l0 {R : Type} (k : Nat) (k0 : ByteArray × Int × Int × Int × Int × ByteArray × Int × Int × Int × Bool × Int × Int × Int × Int × ByteArray × Unit → Option R) (v : ByteArray × Int × Int × Int × Int × Int × Int × ByteArray × Int × Int × Int × Bool × Int × Int × Int × Int × ByteArray × List Int × Unit) : Option R := iterS (fun rec v => f359v0l0s k rec k0 v) k v
noncomputable def f359v0l0S (k : Nat) : Sum1 := loopSum f359v0l0H f359v0l0N k (fun R rec K v => f359v0l0s k rec (fun w => K (.exit 0) (encSt f359v0l0X0 w)) v)
theorem f359v0l0E (k : Nat) (R : Type) (rec : St → Option R) (K : X → St → Option R) (v : f359v0l0H.Den) : evS tab (f359v0T k) Go.Proofs.Tryd.f59.ntmps [] (bodyOf f359v0l0C) 244 (bodyK f359v0l0N f359v0l0M rec K) (encSt f359v0l0H v) = f359v0l0s k (fun v => rec (encSt f359v0l0H v)) (fun w => K (.exit 0) (encSt f359v0l0X0 w)) v := by kernel_rfl
theorem f359v0l0I (k : Nat) : SumsOk P Go.Proofs.Tryd.f59.ntmps [] (bodyOf f359v0l0C) 244 := SumsOk.nil
theorem f359v0l0O (k : Nat) : SumOk P Go.Proofs.Tryd.f59.ntmps f359v0l0C (f359v0l0S k) := (show f359v0l0C = .loop (bodyOf f359v0l0C) by kernel_rfl) ▸ sum_loop tabOk (f359v0TS k) mixed (f359v0l0I k) (f359v0l0E k)
noncomputable def f359v0p1H : Shape := ⟨[(1, .one (.str)), (3, .one (.fn 60 [0, 1, 2])), (4, .one (.ptr 3 0)), (8, .one (.ptr 4 0)), (40, .one (.own 5)), (41, .one (.int .i64)), (42, .one (.int .i64))], [(0, .var 23 [.int .i64, .int .i64, .int .i64]), (1, .var 9 [.str]), (2, .var 36 [.int .i64, .int .i64, .int .i64, .bool]), (3, .var 23 [.int .i64, .int .i64, .int .i64]), (4, .var 25 [.int .i64, .str]), (5, .row 25 (.pair (.int .i64) .str) .plain)], 6, [some 0, some 1, some 2]⟩
noncomputable def f359v0p1X0 : Shape := ⟨[(1, .one (.str)), (3, .one (.fn 60 [0, 1, 2])), (4, .one (.ptr 3 0)), (8, .one (.ptr 4 0)), (9, .one (.int .i64)), (40, .one (.own 5)), (41, .one (.int .i64)), (42, .one (.int .i64))], [(0, .var 23 [.int .i64, .int .i64, .int .i64]), (1, .var 9 [.str]), (2, .var 36 [.int .i64, .int .i64, .int .i64, .bool]), (3, .var 23 [.int .i64, .int .i64, .int .i64]), (4, .var 25 [.int .i64, .str]), (5, .row 25 (.pair (.int .i64) .str) .plain)], 6, [some 0, some 1, some 2]⟩
noncomputable def f359v0p1X1 : Shape := ⟨[(1, .one (.str)), (3, .one (.fn 60 [0, 1, 2])), (4, .one (.ptr 3 0)), (8, .one (.ptr 4 0)), (40, .one (.own 5)), (41, .one (.int .i64)), (42, .one (.int .i64))], [(0, .var 23 [.int .i64, .int .i64, .int .i64]), (1, .var 9 [.str]), (2, .var 36 [.int .i64, .int .i64, .int .i64, .bool]), (3, .var 23 [.int .i64, .int .i64, .int .i64]), (4, .var 25 [.int .i64, .str]), (5, .row 25 (.pair (.int .i64) .str) .plain)], 6, [some 0, some 1, some 2]⟩
noncomputable def f359v0p1N : NoteR := ⟨[1, 3, 4, 8, 40, 41, 42], [], []⟩
noncomputable def f359v0p1M : NoteR := ⟨[1, 3, 4, 8, 9, 10, 40, 41, 42], [], []⟩
noncomputable def f359v0p1C : Code := firstC (codesAt 4006 (codeOf Go.Proofs.Tryd.f59) 1)
noncomputable def f359v0p1 {R : Type} (k : Nat) (k0 : ByteArray × Int × Int × Int × Int × Int × Int × ByteArray × Int × Int × Int × Bool × Int × Int × Int × Int × ByteArray × List (Int × ByteArray) × Unit → Option R) (k1 : ByteArray × Int × Int × Int × Int × Int × ByteArray × Int × Int × Int × Bool × Int × Int × Int × Int × ByteArray × List (Int × ByteArray) × Unit → Option R) (v : ByteArray × Int × Int × Int × Int × Int × ByteArray × Int × Int × Int × Bool × Int × Int × Int × Int × ByteArray × List (Int × ByteArray) × Unit) : Option R :=
  bif ((decide ((0 : Int) ≤ v.2.2.1)) && (decide (v.2.2.1 < (v.2.2.2.2.2.2.2.2.2.2.2.2.2.2.2.2.1.length : Int)))) then
  let t5 := (v.2.2.2.2.2.2.2.2.2.2.2.2.2.2.2.2.1.getD (Int.toNat v.2.2.1) ((0 : Int), ByteArray.empty)).1
  let t6 := (v.2.2.2.2.2.2.2.2.2.2.2.2.2.2.2.2.1.getD (Int.toNat v.2.2.1) ((0 : Int), ByteArray.empty)).2
  Option.bind (f29F k ((v.2.2.2.2.2.2.2.2.2.2.2.1, (v.2.2.2.2.2.2.2.2.2.2.2.2.1, v.2.2.2.2.2.2.2.2.2.2.2.2.2.1)), (t5, t6))) fun y7 =>
  bif (y7 == (0 : Int)) then
    Option.bind (f360v0F k (t5, t6, v.2.2.2.1, v.2.2.2.2.1, v.2.2.2.2.2.1, v.2.2.2.2.2.2.1, v.2.2.2.2.2.2.2.1, v.2.2.2.2.2.2.2.2.1, v.2.2.2.2.2.2.2.2.2.1, v.2.2.2.2.2.2.2.2.2.2.1, ())) fun y8 =>
    bif (strEq y8.1 v.1) then
      k0 (v.1, (0 : Int), v.2.1, v.2.2.1, y8.2.1, y8.2.2.1, y8.2.2.2.1, y8.2.2.2.2.1, y8.2.2.2.2.2.1, y8.2.2.2.2.2.2.1, y8.2.2.2.2.2.2.2.1, y8.2.2.2.2.2.2.2.2.1, v.2.2.2.2.2.2.2.2.2.2.2.1, v.2.2.2.2.2.2.2.2.2.2.2.2.1, v.2.2.2.2.2.2.2.2.2.2.2.2.2.1, t5, t6, v.2.2.2.2.2.2.2.2.2.2.2.2.2.2.2.2.1, ())
    else
    k1 (v.1, v.2.1, v.2.2.1, y8.2.1, y8.2.2.1, y8.2.2.2.1, y8.2.2.2.2.1, y8.2.2.2.2.2.1, y8.2.2.2.2.2.2.1, y8.2.2.2.2.2.2.2.1, y8.2.2.2.2.2.2.2.2.1, v.2.2.2.2.2.2.2.2.2.2.2.1, v.2.2.2.2.2.2.2.2.2.2.2.2.1, v.2.2.2.2.2.2.2.2.2.2.2.2.2.1, v.2.2.2.2.2.2.2.2.2.2.2.2.2.2.1, v.2.2.2.2.2.2.2.2.2.2.2.2.2.2.2.1, v.2.2.2.2.2.2.2.2.2.2.2.2.2.2.2.2.1, ())
  else
  k1 (v.1, v.2.1, v.2.2.1, v.2.2.2.1, v.2.2.2.2.1, v.2.2.2.2.2.1, v.2.2.2.2.2.2.1, v.2.2.2.2.2.2.2.1, v.2.2.2.2.2.2.2.2.1, v.2.2.2.2.2.2.2.2.2.1, v.2.2.2.2.2.2.2.2.2.2.1, v.2.2.2.2.2.2.2.2.2.2.2.1, v.2.2.2.2.2.2.2.2.2.2.2.2.1, v.2.2.2.2.2.2.2.2.2.2.2.2.2.1, v.2.2.2.2.2.2.2.2.2.2.2.2.2.2.1, v.2.2.2.2.2.2.2.2.2.2.2.2.2.2.2.1, v.2.2.2.2.2.2.2.2.2.2.2.2.2.2.2.2.1, ())
  else none
noncomputable def f359v0p1S (k : Nat) : Sum1 := partSum f359v0p1H f359v0p1N (fun R K v => f359v0p1 k (fun w => K .ret (encSt f359v0p1X0 w)) (fun w => K .normal (encSt f359v0p1X1 w)) v)
theorem f359v0p1E (k : Nat) (R : Type) (K : X → St → Option R) (v : f359v0p1H.Den) : evS tab (f359v0T k) Go.Proofs.Tryd.f59.ntmps [] f359v0p1C 4006 (partK f359v0p1M K) (encSt f359v0p1H v) = f359v0p1 k (fun w => K .ret (encSt f359v0p1X0 w)) (fun w => K .normal (encSt f359v0p1X1 w)) v := by kernel_rfl
theorem f359v0p1I (k : Nat) : SumsOk P Go.Proofs.Tryd.f59.ntmps [] f359v0p1C 4006 := SumsOk.nil
theorem f359v0p1O (k : Nat) : SumOk P Go.Proofs.Tryd.f59.ntmps f359v0p1C (f359v0p1S k) := sum_part tabOk (f359v0TS k) mixed (f359v0p1I k) (f359v0p1E k)
noncomputable def f359v0l2H : Shape := ⟨[(1, .one (.str)), (3, .one (.fn 60 [0, 1, 2])), (4, .one (.ptr 3 0)), (8, .one (.ptr 4 0)), (40, .one (.own 5)), (41, .one (.int .i64)), (42, .one (.int .i64))], [(0, .var 23 [.int .i64, .int .i64, .int .i64]), (1, .var 9 [.str]), (2, .var 36 [.int .i64, .int .i64, .int .i64, .bool]), (3, .var 23 [.int .i64, .int .i64, .int .i64]), (4, .var 25 [.int .i64, .str]), (5, .row 25 (.pair (.int .i64) .str) .plain)], 6, [some 0, some 1, some 2]⟩
noncomputable def f359v0l2X0 : Shape := ⟨[(8, .one (.ptr 3 0)), (9, .one (.int .i64))], [(0, .var 23 [.int .i64, .int .i64, .int .i64]), (1, .var 9 [.str]), (2, .var 36 [.int .i64, .int .i64, .int .i64, .bool]), (3, .var 25 [.int .i64, .str])], 4, [some 0, some 1, some 2]⟩
noncomputable def f359v0l2X1 : Shape := ⟨[(8, .one (.ptr 3 0))], [(0, .var 23 [.int .i64, .int .i64, .int .i64]), (1, .var 9 [.str]), (2, .var 36 [.int .i64, .int .i64, .int .i64, .bool]), (3, .var 25 [.int .i64, .str])], 4, [some 0, some 1, some 2]⟩
noncomputable def f359v0l2N : NoteR := ⟨[1, 3, 4, 8, 40, 41, 42], [], []⟩
noncomputable def f359v0l2M : NoteR := ⟨[8, 9], [], []⟩
noncomputable def f359v0l2C : Code := firstC (codesAt 250 (codeOf Go.Proofs.Tryd.f59) 1)
noncomputable def f359v0l2s {R : Type} (k : Nat) (rec : ByteArray × Int × Int × Int × Int × Int × ByteArray × Int × Int × Int × Bool × Int × Int × Int × Int × ByteArray × List (Int × ByteArray) × Unit → Option R) (k0 : Int × Int × Int × Int × ByteArray × Int × Int × Int × Bool × Int × ByteArray × Unit → Option R) (k1 : Int × Int × Int × ByteArray × Int × Int × Int × Bool × Int × ByteArray × Unit → Option R) (v : ByteArray × Int × Int × Int × Int × Int × ByteArray × Int × Int × Int × Bool × Int × Int × Int × Int × ByteArray × List (Int × ByteArray) × Unit) : Option R :=
  bif (decide (v.2.2.1 < v.2.1)) then
    f359v0p1 k
      (fun (w9 : ByteArray × Int × Int × Int × Int × Int × Int × ByteArray × Int × Int × Int × Bool × Int × Int × Int × Int × ByteArray × List (Int × ByteArray) × Unit) =>
        k0 (w9.2.1, w9.2.2.2.2.1, w9.2.2.2.2.2.1, w9.2.2.2.2.2.2.1, w9.2.2.2.2.2.2.2.1, w9.2.2.2.2.2.2.2.2.1, w9.2.2.2.2.2.2.2.2.2.1, w9.2.2.2.2.2.2.2.2.2.2.1, w9.2.2.2.2.2.2.2.2.2.2.2.1, w9.2.2.2.2.2.2.2.2.2.2.2.2.2.2.2.1, w9.2.2.2.2.2.2.2.2.2.2.2.2.2.2.2.2.1, ()))
      (fun (w10 : ByteArray × Int × Int × Int × Int × Int × ByteArray × Int × Int × Int × Bool × Int × Int × Int × Int × ByteArray × List (Int × ByteArray) × Unit) =>
        rec (w10.1, w10.2.1, (IntKind.i64.wrap (w10.2.2.1 + (1 : Int))), w10.2.2.2.1, w10.2.2.2.2.1, w10.2.2.2.2.2.1, w10.2.2.2.2.2.2.1, w10.2.2.2.2.2.2.2.1, w10.2.2.2.2.2.2.2.2.1, w10.2.2.2.2.2.2.2.2.2.1, w10.2.2.2.2.2.2.2.2.2.2.1, w10.2.2.2.2.2.2.2.2.2.2.2.1, w10.2.2.2.2.2.2.2.2.2.2.2.2.1, w10.2.2.2.2.2.2.2.2.2.2.2.2.2.1, w10.2.2.2.2.2.2.2.2.2.2.2.2.2.2.1, w10.2.2.2.2.2.2.2.2.2.2.2.2.2.2.2.1, w10.2.2.2.2.2.2.2.2.2.2.2.2.2.2.2.2.1, ()))
      (v.1, v.2.1, v.2.2.1, v.2.2.2.1, v.2.2.2.2.1, v.2.2.2.2.2.1, v.2.2.2.2.2.2.1, v.2.2.2.2.2.2.2.1, v.2.2.2.2.2.2.2.2.1, v.2.2.2.2.2.2.2.2.2.1, v.2.2.2.2.2.2.2.2.2.2.1, v.2.2.2.2.2.2.2.2.2.2.2.1, v.2.2.2.2.2.2.2.2.2.2.2.2.1, v.2.2.2.2.2.2.2.2.2.2.2.2.2.1, v.2.2.2.2.2.2.2.2.2.2.2.2.2.2.1, v.2.2.2.2.2.2.2.2.2.2.2.2.2.2.2.1, v.2.2.2.2.2.2.2.2.2.2.2.2.2.2.2.2.1, ())
  else
  k1 (v.2.2.2.1, v.2.2.2.2.1, v.2.2.2.2.2.1, v.2.2.2.2.2.2.1, v.2.2.2.2.2.2.2.1, v.2.2.2.2.2.2.2.2.1, v.2.2.2.2.2.2.2.2.2.1, v.2.2.2.2.2.2.2.2.2.2.1, v.2.2.2.2.2.2.2.2.2.2.2.2.2.2.1, v.2.2.2.2.2.2.2.2.2.2.2.2.2.2.2.1, ())
noncomputable def f359v0l2 {R : Type} (k : Nat) (k0 : Int × Int × Int × Int × ByteArray × Int × Int × Int × Bool × Int × ByteArray × Unit → Option R) (k1 : Int × Int × Int × ByteArray × Int × Int × Int × Bool × Int × ByteArray × Unit → Option R) (v : ByteArray × Int × Int × Int × Int × Int × ByteArray × Int × Int × Int × Bool × Int × Int × Int × Int × ByteArray × List (Int × ByteArray) × Unit) : Option R := iterS (fun rec v => f359v0l2s k rec k0 k1 v) k v
noncomputable def f359v0l2S (k : Nat) : Sum1 := loopSum f359v0l2H f359v0l2N k (fun R rec K v => f359v0l2s k rec (fun w => K .ret (encSt f359v0l2X0 w)) (fun w => K (.exit 2) (encSt f359v0l2X1 w)) v)
theorem f359v0l2E (k : Nat) (R : Type) (rec : St → Option R) (K : X → St → Option R) (v : f359v0l2H.Den) : evS tab (f359v0T k) Go.Proofs.Tryd.f59.ntmps [(4006, f359v0p1S k)] (bodyOf f359v0l2C) 500 (bodyK f359v0l2N f359v0l2M rec K) (encSt f359v0l2H v) = f359v0l2s k (fun v => rec (encSt f359v0l2H v)) (fun w => K .ret (encSt f359v0l2X0 w)) (fun w => K (.exit 2) (encSt f359v0l2X1 w)) v := by kernel_rfl
theorem f359v0l2I (k : Nat) : SumsOk P Go.Proofs.Tryd.f59.ntmps [(4006, f359v0p1S k)] (bodyOf f359v0l2C) 500 := (SumsOk.nil).cons (c := f359v0p1C) (by kernel_rfl) (f359v0p1O k)
theorem f359v0l2O (k : Nat) : SumOk P Go.Proofs.Tryd.f59.ntmps f359v0l2C (f359v0l2S k) := (show f359v0l2C = .loop (bodyOf f359v0l2C) by kernel_rfl) ▸ sum_loop tabOk (f359v0TS k) mixed (f359v0l2I k) (f359v0l2E k)
noncomputable def f359v0F (k : Nat) (x : Int × Int × Int × ByteArray × ByteArray × Int × Int × Int × ByteArray × Int × Int × Int × Bool × Unit) : Option (Int × ByteArray × Int × Int × Int × Int × ByteArray × Int × Int × Int × Bool × Unit) :=
  bif (decide ((x.2.2.2.2.1.size : Int) > x.2.1)) then
    some ((0 : Int), ByteArray.empty, (8 : Int), x.2.2.2.2.2.1, x.2.2.2.2.2.2.1, x.2.2.2.2.2.2.2.1, x.2.2.2.2.2.2.2.2.1, x.2.2.2.2.2.2.2.2.2.1, x.2.2.2.2.2.2.2.2.2.2.1, x.2.2.2.2.2.2.2.2.2.2.2.1, x.2.2.2.2.2.2.2.2.2.2.2.2.1, ())
  else
  bif (decide (x.2.2.2.2.1.size ≤ 9223372036854775807)) then
  f359v0l0 k
    (fun (w3 : ByteArray × Int × Int × Int × Int × ByteArray × Int × Int × Int × Bool × Int × Int × Int × Int × ByteArray × Unit) =>
      let t4 := [(w3.2.1, ByteArray.empty), ((IntKind.i64.wrap (0 - w3.2.1)), ByteArray.empty)]
      f359v0l2 k
        (fun (w11 : Int × Int × Int × Int × ByteArray × Int × Int × Int × Bool × Int × ByteArray × Unit) =>
          some (w11.2.2.2.2.2.2.2.2.2.1, w11.2.2.2.2.2.2.2.2.2.2.1, w11.1, w11.2.1, w11.2.2.1, w11.2.2.2.1, w11.2.2.2.2.1, w11.2.2.2.2.2.1, w11.2.2.2.2.2.2.1, w11.2.2.2.2.2.2.2.1, w11.2.2.2.2.2.2.2.2.1, ()))
        (fun (w12 : Int × Int × Int × ByteArray × Int × Int × Int × Bool × Int × ByteArray × Unit) =>
          some ((0 : Int), ByteArray.empty, (8 : Int), w12.1, w12.2.1, w12.2.2.1, w12.2.2.2.1, w12.2.2.2.2.1, w12.2.2.2.2.2.1, w12.2.2.2.2.2.2.1, w12.2.2.2.2.2.2.2.1, ()))
        (w3.1, (t4.length : Int), (0 : Int), w3.2.2.1, w3.2.2.2.1, w3.2.2.2.2.1, w3.2.2.2.2.2.1, w3.2.2.2.2.2.2.1, w3.2.2.2.2.2.2.2.1, w3.2.2.2.2.2.2.2.2.1, w3.2.2.2.2.2.2.2.2.2.1, w3.2.2.2.2.2.2.2.2.2.2.1, w3.2.2.2.2.2.2.2.2.2.2.2.1, w3.2.2.2.2.2.2.2.2.2.2.2.2.1, w3.2.2.2.2.2.2.2.2.2.2.2.2.2.1, w3.2.2.2.2.2.2.2.2.2.2.2.2.2.2.1, t4, ()))
    (x.2.2.2.1, (0 : Int), ((bytesOf x.2.2.2.2.1).length : Int), (0 : Int), x.2.2.2.2.2.1, x.2.2.2.2.2.2.1, x.2.2.2.2.2.2.2.1, x.2.2.2.2.2.2.2.2.1, x.2.2.2.2.2.2.2.2.2.1, x.2.2.2.2.2.2.2.2.2.2.1, x.2.2.2.2.2.2.2.2.2.2.2.1, x.2.2.2.2.2.2.2.2.2.2.2.2.1, x.1, x.2.1, x.2.2.1, (0 : Int), ByteArray.empty, (bytesOf x.2.2.2.2.1), ())
  else none
noncomputable def f359v0L (k : Nat) : Sums := [(122, f359v0l0S k), (4006, f359v0p1S k), (250, f359v0l2S k)]
theorem f359v0LS (k : Nat) : SumsOk P Go.Proofs.Tryd.f59.ntmps (f359v0L k) (codeOf Go.Proofs.Tryd.f59) 1 := (((SumsOk.nil).cons (c := f359v0l2C) (by kernel_rfl) (f359v0l2O k)).cons (c := f359v0p1C) (by kernel_rfl) (f359v0p1O k)).cons (c := f359v0l0C) (by kernel_rfl) (f359v0l0O k)
theorem f359v0E (k : Nat) (x : f359v0I.Den) : evG tab (f359v0T k) (f359v0L k) Go.Proofs.Tryd.f59.ntmps Go.Proofs.Tryd.f59.results.toList (codeOf Go.Proofs.Tryd.f59) f359v0I x [.agg .bool, .dat .bool] f359v0U = f359v0F k x := by kernel_rfl
theorem f359v0Ok (k : Nat) (x : f359v0I.Den) (y : f359v0U.Den) (h : f359v0F k x = some y) : GnOk P 59 f359v0I f359v0U x y :=
  evG_sound tabOk (f359v0TS k) mixed Go.Proofs.Tryd.func59 (c := codeOf Go.Proofs.Tryd.f59) (by kernel_rfl) (f359v0LS k) ((f359v0E k x).trans h)
/-! ## midrange/edit.UneditedBy -/
noncomputable def f329T (k : Nat) : Table := [(40, entFn [.agg (.pair (.int .i64) (.pair (.int .i64) (.int .i64))), .dat .str] [.agg (.pair (.int .i64) (.pair (.int .i64) (.pair (.int .i64) .bool))), .dat (.int .i64)] (f340F k)), (59, entG f359v0I f359v0U (f359v0F k))]
theorem f329TS (k : Nat) : Sound P (f329T k) := ((Sound.nil).consE f359B (entG_ok (f359v0Ok k))).cons f340B (f340Ok k)
theorem f329B : HasBody P 29 := ⟨Go.Proofs.Tryd.f29, Go.Proofs.Tryd.func29, by kernel_rfl, by kernel_rfl⟩
noncomputable def f329l0H : Shape := ⟨[(1, .one (.str)), (3, .one (.ptr 0 0)), (5, .one (.ptr 1 0)), (6, .one (.ptr 2 0)), (8, .one (.ptr 3 0)), (10, .one (.own 4)), (30, .one (.int .i64)), (31, .one (.int .i64))], [(0, .var 23 [.int .i64, .int .i64, .int .i64]), (1, .var 9 [.str]), (2, .var 25 [.int .i64, .str]), (3, .var 36 [.int .i64, .int .i64, .int .i64, .bool]), (4, .row 5 (.int .u8) .plain)], 5, []⟩
noncomputable def f329l0X0 : Shape := ⟨[(1, .one (.str)), (3, .one (.ptr 0 0)), (5, .one (.ptr 1 0)), (6, .one (.ptr 2 0)), (8, .one (.ptr 3 0)), (10, .one (.own 4))], [(0, .var 23 [.int .i64, .int .i64, .int .i64]), (1, .var 9 [.str]), (2, .var 25 [.int .i64, .str]), (3, .var 36 [.int .i64, .int .i64, .int .i64, .bool]), (4, .row 5 (.int .u8) .plain)], 5, []⟩
noncomputable def f329l0N : NoteR := ⟨[1, 3, 5, 6, 8, 10, 30, 31], [(10, 5, (.int .u8))], []⟩
noncomputable def f329l0M : NoteR := ⟨[1, 3, 5, 6, 7, 8, 10], [], []⟩
noncomputable def f329l0C : Code := firstC (codesAt 506 (codeOf Go.Proofs.Tryd.f29) 1)
noncomputable def f329l0s {R : Type} (k : Nat) (rec : ByteArray × Int × Int × Int × Int × Int × ByteArray × Int × ByteArray × Int × Int × Int × Bool × List Int × Unit → Option R) (k0 : ByteArray × Int × Int × Int × ByteArray × Int × ByteArray × Int × Int × Int × Bool × List Int × Unit → Option R) (v : ByteArray × Int × Int × Int × Int × Int × ByteArray × Int × ByteArray × Int × Int × Int × Bool × List Int × Unit) : Option R :=
  bif (decide (v.2.2.1 < v.2.1)) then
    bif ((decide ((0 : Int) ≤ v.2.2.1)) && (decide (v.2.2.1 < (v.2.2.2.2.2.2.1.size : Int)))) then
    bif ((bt v.2.2.2.2.2.2.1 v.2.2.1) != (32 : Int)) then
      bif (v.2.2.1 != v.2.2.2.2.2.2.2.2.2.2.2.1) then
        rec (v.1, v.2.1, (IntKind.i64.wrap (v.2.2.1 + (1 : Int))), v.2.2.2.1, v.2.2.2.2.1, v.2.2.2.2.2.1, v.2.2.2.2.2.2.1, v.2.2.2.2.2.2.2.1, v.2.2.2.2.2.2.2.2.1, v.2.2.2.2.2.2.2.2.2.1, v.2.2.2.2.2.2.2.2.2.2.1, v.2.2.2.2.2.2.2.2.2.2.2.1, v.2.2.2.2.2.2.2.2.2.2.2.2.1, v.2.2.2.2.2.2.2.2.2.2.2.2.2.1, ())
      else
      bif ((decide ((0 : Int) ≤ v.2.2.1)) && (decide (v.2.2.1 < (v.1.size : Int)))) then
      bif (decide ((bt v.1 v.2.2.1) < (48 : Int))) then
        bif (decide ((v.2.2.2.2.2.2.2.2.2.2.2.2.2.1.length + [(48 : Int)].length) * 1 ≤ 140737488355328) && decide (v.2.2.2.2.2.2.2.2.2.2.2.2.2.1.length + [(48 : Int)].length ≤ 9223372036854775807)) then
        rec (v.1, v.2.1, (IntKind.i64.wrap (v.2.2.1 + (1 : Int))), v.2.2.2.1, v.2.2.2.2.1, v.2.2.2.2.2.1, v.2.2.2.2.2.2.1, v.2.2.2.2.2.2.2.1, v.2.2.2.2.2.2.2.2.1, v.2.2.2.2.2.2.2.2.2.1, v.2.2.2.2.2.2.2.2.2.2.1, v.2.2.2.2.2.2.2.2.2.2.2.1, v.2.2.2.2.2.2.2.2.2.2.2.2.1, (v.2.2.2.2.2.2.2.2.2.2.2.2.2.1 ++ [(48 : Int)]), ())
        else none
      else
      bif (decide ((bt v.1 v.2.2.1) > (57 : Int))) then
        bif (decide ((v.2.2.2.2.2.2.2.2.2.2.2.2.2.1.length + [(48 : Int)].length) * 1 ≤ 140737488355328) && decide (v.2.2.2.2.2.2.2.2.2.2.2.2.2.1.length + [(48 : Int)].length ≤ 9223372036854775807)) then
        rec (v.1, v.2.1, (IntKind.i64.wrap (v.2.2.1 + (1 : Int))), v.2.2.2.1, v.2.2.2.2.1, v.2.2.2.2.2.1, v.2.2.2.2.2.2.1, v.2.2.2.2.2.2.2.1, v.2.2.2.2.2.2.2.2.1, v.2.2.2.2.2.2.2.2.2.1, v.2.2.2.2.2.2.2.2.2.2.1, v.2.2.2.2.2.2.2.2.2.2.2.1, v.2.2.2.2.2.2.2.2.2.2.2.2.1, (v.2.2.2.2.2.2.2.2.2.2.2.2.2.1 ++ [(48 : Int)]), ())
        else none
      else
      bif (decide ((v.2.2.2.2.2.2.2.2.2.2.2.2.2.1.length + [(bt v.1 v.2.2.1)].length) * 1 ≤ 140737488355328) && decide (v.2.2.2.2.2.2.2.2.2.2.2.2.2.1.length + [(bt v.1 v.2.2.1)].length ≤ 9223372036854775807)) then
      rec (v.1, v.2.1, (IntKind.i64.wrap (v.2.2.1 + (1 : Int))), v.2.2.2.1, v.2.2.2.2.1, v.2.2.2.2.2.1, v.2.2.2.2.2.2.1, v.2.2.2.2.2.2.2.1, v.2.2.2.2.2.2.2.2.1, v.2.2.2.2.2.2.2.2.2.1, v.2.2.2.2.2.2.2.2.2.2.1, v.2.2.2.2.2.2.2.2.2.2.2.1, v.2.2.2.2.2.2.2.2.2.2.2.2.1, (v.2.2.2.2.2.2.2.2.2.2.2.2.2.1 ++ [(bt v.1 v.2.2.1)]), ())
      else none
      else none
    else
    bif ((decide ((0 : Int) ≤ v.2.2.1)) && (decide (v.2.2.1 < (v.1.size : Int)))) then
    bif (decide ((bt v.1 v.2.2.1) < (48 : Int))) then
      bif (decide ((v.2.2.2.2.2.2.2.2.2.2.2.2.2.1.length + [(48 : Int)].length) * 1 ≤ 140737488355328) && decide (v.2.2.2.2.2.2.2.2.2.2.2.2.2.1.length + [(48 : Int)].length ≤ 9223372036854775807)) then
      rec (v.1, v.2.1, (IntKind.i64.wrap (v.2.2.1 + (1 : Int))), v.2.2.2.1, v.2.2.2.2.1, v.2.2.2.2.2.1, v.2.2.2.2.2.2.1, v.2.2.2.2.2.2.2.1, v.2.2.2.2.2.2.2.2.1, v.2.2.2.2.2.2.2.2.2.1, v.2.2.2.2.2.2.2.2.2.2.1, v.2.2.2.2.2.2.2.2.2.2.2.1, v.2.2.2.2.2.2.2.2.2.2.2.2.1, (v.2.2.2.2.2.2.2.2.2.2.2.2.2.1 ++ [(48 : Int)]), ())
      else none
    else
    bif (decide ((bt v.1 v.2.2.1) > (57 : Int))) then
      bif (decide ((v.2.2.2.2.2.2.2.2.2.2.2.2.2.1.length + [(48 : Int)].length) * 1 ≤ 140737488355328) && decide (v.2.2.2.2.2.2.2.2.2.2.2.2.2.1.length + [(48 : Int)].length ≤ 9223372036854775807)) then
      rec (v.1, v.2.1, (IntKind.i64.wrap (v.2.2.1 + (1 : Int))), v.2.2.2.1, v.2.2.2.2.1, v.2.2.2.2.2.1, v.2.2.2.2.2.2.1, v.2.2.2.2.2.2.2.1, v.2.2.2.2.2.2.2.2.1, v.2.2.2.2.2.2.2.2.2.1, v.2.2.2.2.2.2.2.2.2.2.1, v.2.2.2.2.2.2.2.2.2.2.2.1, v.2.2.2.2.2.2.2.2.2.2.2.2.1, (v.2.2.2.2.2.2.2.2.2.2.2.2.2.1 ++ [(48 : Int)]), ())
      else none
    else
    bif (decide ((v.2.2.2.2.2.2.2.2.2.2.2.2.2.1.length + [(bt v.1 v.2.2.1)].length) * 1 ≤ 140737488355328) && decide (v.2.2.2.2.2.2.2.2.2.2.2.2.2.1.length + [(bt v.1 v.2.2.1)].length ≤ 9223372036854775807)) then
    rec (v.1, v.2.1, (IntKind.i64.wrap (v.2.2.1 + (1 : Int))), v.2.2.2.1, v.2.2.2.2.1, v.2.2.2.2.2.1, v.2.2.2.2.2.2.1, v.2.2.2.2.2.2.2.1, v.2.2.2.2.2.2.2.2.1, v.2.2.2.2.2.2.2.2.2.1, v.2.2.2.2.2.2.2.2.2.2.1, v.2.2.2.2.2.2.2.2.2.2.2.1, v.2.2.2.2.2.2.2.2.2.2.2.2.1, (v.2.2.2.2.2.2.2.2.2.2.2.2.2.1 ++ [(bt v.1 v.2.2.1)]), ())
    else none
    else none
    else none
  else
  k0 (v.1, v.2.2.2.1, v.2.2.2.2.1, v.2.2.2.2.2.1, v.2.2.2.2.2.2.1, v.2.2.2.2.2.2.2.1, v.2.2.2.2.2.2.2.2.1, v.2.2.2.2.2.2.2.2.2.1, v.2.2.2.2.2.2.2.2.2.2.1, v.2.2.2.2.2.2.2.2.2.2.2.1, v.2.2.2.2.2.2.2.2.2.2.2.2.1, v.2.2.2.2.2.2.2.2.2.2.2.2.2.1, ())
noncomputable def f329l0 {R : Type} (k : Nat) (k0 : ByteArray × Int × Int × Int × ByteArray × Int × ByteArray × Int × Int × Int × Bool × List Int × Unit → Option R) (v : ByteArray × Int × Int × Int × Int × Int × ByteArray × Int × ByteArray × Int × Int × Int × Bool × List Int × Unit) : Option R := iterS (fun rec v => f329l0s k rec k0 v) k v
noncomputable def f329l0S (k : Nat) : Sum1 := loopSum f329l0H f329l0N k (fun R rec K v => f329l0s k rec (fun w => K (.exit 0) (encSt f329l0X0 w)) v)
theorem f329l0E (k : Nat) (R : Type) (rec : St → Option R) (K : X → St → Option R) (v : f329l0H.Den) : evS tab (f329T k) Go.Proofs.Tryd.f29.ntmps [] (bodyOf f329l0C) 1012 (bodyK f329l0N f329l0M rec K) (encSt f329l0H v) = f329l0s k (fun v => rec (encSt f329l0H v)) (fun w => K (.exit 0) (encSt f329l0X0 w)) v := by kernel_rfl
theorem f329l0I (k : Nat) : SumsOk P Go.Proofs.Tryd.f29.ntmps [] (bodyOf f329l0C) 1012 := SumsOk.nil
theorem f329l0O (k : Nat) : SumOk P Go.Proofs.Tryd.f29.ntmps f329l0C (f329l0S k) := (show f329l0C = .loop (bodyOf f329l0C) by kernel_rfl) ▸ sum_loop tabOk (f329TS k) mixed (f329l0I k) (f329l0E k)
noncomputable def f329F (k : Nat) (x : (Int × (Int × Int)) × ByteArray × ByteArray) : Option ((Int × ByteArray) × Int) :=
  Option.bind (f340F k ((x.1.1, (x.1.2.1, x.1.2.2)), x.2.2)) fun y1 =>
  bif (y1.2 != (0 : Int)) then
    some (((0 : Int), ByteArray.empty), y1.2)
  else
  bif ((x.2.1.size : Int) != (x.2.2.size : Int)) then
    some (((0 : Int), ByteArray.empty), (8 : Int))
  else
  f329l0 k
    (fun (w2 : ByteArray × Int × Int × Int × ByteArray × Int × ByteArray × Int × Int × Int × Bool × List Int × Unit) =>
      Option.bind (f359v0F k (w2.2.1, w2.2.2.1, w2.2.2.2.1, w2.1, (strOfNums w2.2.2.2.2.2.2.2.2.2.2.2.1), w2.2.1, w2.2.2.1, w2.2.2.2.1, w2.2.2.2.2.1, w2.2.2.2.2.2.2.2.1, w2.2.2.2.2.2.2.2.2.1, w2.2.2.2.2.2.2.2.2.2.1, w2.2.2.2.2.2.2.2.2.2.2.1, ())) fun y3 =>
      some ((y3.1, y3.2.1), y3.2.2.1))
    (x.2.1, y1.1.1, (0 : Int), x.1.1, x.1.2.1, x.1.2.2, x.2.2, (0 : Int), ByteArray.empty, y1.1.1, y1.1.2.1, y1.1.2.2.1, y1.1.2.2.2, [], ())
noncomputable def f329L (k : Nat) : Sums := [(506, f329l0S k)]
theorem f329LS (k : Nat) : SumsOk P Go.Proofs.Tryd.f29.ntmps (f329L k) (codeOf Go.Proofs.Tryd.f29) 1 := (SumsOk.nil).cons (c := f329l0C) (by kernel_rfl) (f329l0O k)
theorem f329E (k : Nat) (x : (Int × (Int × Int)) × ByteArray × ByteArray) : evFS tab (f329T k) (f329L k) Go.Proofs.Tryd.f29.ntmps Go.Proofs.Tryd.f29.results.toList (codeOf Go.Proofs.Tryd.f29) (argsV [.agg (.pair (.int .i64) (.pair (.int .i64) (.int .i64))), .dat .str, .dat .str] x) [.agg (.pair (.int .i64) .str), .dat (.int .i64)] = f329F k x := by kernel_rfl
theorem f329Ok (k : Nat) (x : (Int × (Int × Int)) × ByteArray × ByteArray) (y : (Int × ByteArray) × Int) (h : f329F k x = some y) : FnOk P 29 [.agg (.pair (.int .i64) (.pair (.int .i64) (.int .i64))), .dat .str, .dat .str] [.agg (.pair (.int .i64) .str), .dat (.int .i64)] x y :=
  evFS_sound tabOk (f329TS k) mixed Go.Proofs.Tryd.func29 (c := codeOf Go.Proofs.Tryd.f29) (by kernel_rfl) (f329LS k) ((f329E k x).trans h)
/-! ## midrange/midrangeref02.UneditedBy -/
noncomputable def f330T (k : Nat) : Table := [(17, entFn [.dat .str] [.agg (.pair (.int .i64) (.pair (.int .i64) (.pair (.int .i64) .bool))), .dat (.int .i64), .dat (.int .i64)] (f317F k)), (23, entFn [.dat (.int .u8)] [.dat .bool] (f323F k)), (42, entFn [.agg (.pair (.int .i64) (.pair (.int .i64) (.int .i64))), .dat .str] [.dat (.int .i64)] (f342F k)), (43, entFn [.agg (.pair (.int .i64) (.pair (.int .i64) (.int .i64))), .dat (.int .i64), .dat .str] [.dat .str] (f343F k)), (61, entFn [.dat .str, .agg (.pair (.int .i64) (.pair (.int .i64) (.pair (.int .i64) .bool)))] [.own 3 (.int .i64)] (f361F k))]
theorem f330TS (k : Nat) : Sound P (f330T k) := (((((Sound.nil).cons f361B (f361Ok k)).cons f343B (f343Ok k)).cons f342B (f342Ok k)).cons f323B (f323Ok k)).cons f317B (f317Ok k)
theorem f330B : HasBody P 30 := ⟨Go.Proofs.Tryd.f30, Go.Proofs.Tryd.func30, by kernel_rfl, by kernel_rfl⟩
noncomputable def f330p0H : Shape := ⟨[(1, .one (.str)), (2, .one (.str)), (3, .one (.ptr 0 0)), (6, .one (.ptr 1 0)), (12, .one (.own 2)), (13, .one (.int .i64)), (14, .one (.int .i64))], [(0, .var 23 [.int .i64, .int .i64, .int .i64]), (1, .var 25 [.int .i64, .str]), (2, .row 3 (.int .i64) .plain)], 3, []⟩
noncomputable def f330p0X0 : Shape := ⟨[(1, .one (.str)), (2, .one (.str)), (3, .one (.ptr 0 0)), (6, .one (.ptr 1 0)), (12, .one (.own 2)), (13, .one (.int .i64)), (14, .one (.int .i64))], [(0, .var 23 [.int .i64, .int .i64, .int .i64]), (1, .var 25 [.int .i64, .str]), (2, .row 3 (.int .i64) .plain)], 3, []⟩
noncomputable def f330p0N : NoteR := ⟨[1, 2, 3, 6, 12, 13, 14], [], []⟩
noncomputable def f330p0M : NoteR := ⟨[1, 2, 3, 6, 7, 12, 13, 14], [], []⟩
noncomputable def f330p0C : Code := firstC (codesAt 8146 (codeOf Go.Proofs.Tryd.f30) 1)
noncomputable def f330p0 {R : Type} (k : Nat) (k0 : ByteArray × ByteArray × Int × Int × Int × Int × Int × Int × ByteArray × List Int × Unit → Option R) (v : ByteArray × ByteArray × Int × Int × Int × Int × Int × Int × ByteArray × List Int × Unit) : Option R :=
  bif ((decide ((0 : Int) ≤ v.2.2.2.1)) && (decide (v.2.2.2.1 < (v.2.2.2.2.2.2.2.2.2.1.length : Int)))) then
  bif ((decide ((0 : Int) ≤ (v.2.2.2.2.2.2.2.2.2.1.getD (Int.toNat v.2.2.2.1) (0 : Int)))) && (decide ((v.2.2.2.2.2.2.2.2.2.1.getD (Int.toNat v.2.2.2.1) (0 : Int)) < (v.1.size : Int)))) then
  Option.bind (f323F k (bt v.1 (v.2.2.2.2.2.2.2.2.2.1.getD (Int.toNat v.2.2.2.1) (0 : Int)))) fun y4 =>
  bif y4 then
    bif ((decide ((0 : Int) ≤ v.2.2.2.1)) && (decide (v.2.2.2.1 < (v.2.2.2.2.2.2.2.2.2.1.length : Int)))) then
    bif ((decide ((0 : Int) ≤ (v.2.2.2.2.2.2.2.2.2.1.getD (Int.toNat v.2.2.2.1) (0 : Int)))) && (decide ((v.2.2.2.2.2.2.2.2.2.1.getD (Int.toNat v.2.2.2.1) (0 : Int)) < (v.1.size : Int)))) then
    let t5 := (IntKind.u8.wrap ((bt v.1 (v.2.2.2.2.2.2.2.2.2.1.getD (Int.toNat v.2.2.2.1) (0 : Int))) - (48 : Int)))
    let t6 := (IntKind.i64.wrap ((IntKind.i64.wrap ((10 : Int) * v.2.2.1)) + (IntKind.i64.wrap t5)))
    k0 (v.1, v.2.1, t6, v.2.2.2.1, v.2.2.2.2.1, v.2.2.2.2.2.1, v.2.2.2.2.2.2.1, v.2.2.2.2.2.2.2.1, v.2.2.2.2.2.2.2.2.1, v.2.2.2.2.2.2.2.2.2.1, ())
    else none
    else none
  else
  k0 (v.1, v.2.1, (IntKind.i64.wrap ((10 : Int) * v.2.2.1)), v.2.2.2.1, v.2.2.2.2.1, v.2.2.2.2.2.1, v.2.2.2.2.2.2.1, v.2.2.2.2.2.2.2.1, v.2.2.2.2.2.2.2.2.1, v.2.2.2.2.2.2.2.2.2.1, ())
  else none
  else none
noncomputable def f330p0S (k : Nat) : Sum1 := partSum f330p0H f330p0N (fun R K v => f330p0 k (fun w => K .normal (encSt f330p0X0 w)) v)
theorem f330p0E (k : Nat) (R : Type) (K : X → St → Option R) (v : f330p0H.Den) : evS tab (f330T k) Go.Proofs.Tryd.f30.ntmps [] f330p0C 8146 (partK f330p0M K) (encSt f330p0H v) = f330p0 k (fun w => K .normal (encSt f330p0X0 w)) v := by kernel_rfl
theorem f330p0I (k : Nat) : SumsOk P Go.Proofs.Tryd.f30.ntmps [] f330p0C 8146 := SumsOk.nil
theorem f330p0O (k : Nat) : SumOk P Go.Proofs.Tryd.f30.ntmps f330p0C (f330p0S k) := sum_part tabOk (f330TS k) mixed (f330p0I k) (f330p0E k)
noncomputable def f330l1H : Shape := ⟨[(1, .one (.str)), (2, .one (.str)), (3, .one (.ptr 0 0)), (6, .one (.ptr 1 0)), (12, .one (.own 2)), (13, .one (.int .i64)), (14, .one (.int .i64))], [(0, .var 23 [.int .i64, .int .i64, .int .i64]), (1, .var 25 [.int .i64, .str]), (2, .row 3 (.int .i64) .plain)], 3, []⟩
noncomputable def f330l1X0 : Shape := ⟨[(1, .one (.str)), (2, .one (.str)), (3, .one (.ptr 0 0)), (6, .one (.ptr 1 0)), (13, .one (.int .i64))], [(0, .var 23 [.int .i64, .int .i64, .int .i64]), (1, .var 25 [.int .i64, .str])], 2, []⟩
noncomputable def f330l1N : NoteR := ⟨[1, 2, 3, 6, 12, 13, 14], [], []⟩
noncomputable def f330l1M : NoteR := ⟨[1, 2, 3, 6, 7, 13], [], []⟩
noncomputable def f330l1C : Code := firstC (codesAt 1018 (codeOf Go.Proofs.Tryd.f30) 1)
noncomputable def f330l1s {R : Type} (k : Nat) (rec : ByteArray × ByteArray × Int × Int × Int × Int × Int × Int × ByteArray × List Int × Unit → Option R) (k0 : ByteArray × ByteArray × Int × Int × Int × Int × Int × ByteArray × Unit → Option R) (v : ByteArray × ByteArray × Int × Int × Int × Int × Int × Int × ByteArray × List Int × Unit) : Option R :=
  bif (decide (v.2.2.2.1 < (v.2.2.2.2.2.2.2.2.2.1.length : Int))) then
    f330p0 k
      (fun (w7 : ByteArray × ByteArray × Int × Int × Int × Int × Int × Int × ByteArray × List Int × Unit) =>
        rec (w7.1, w7.2.1, w7.2.2.1, (IntKind.i64.wrap (w7.2.2.2.1 + (1 : Int))), w7.2.2.2.2.1, w7.2.2.2.2.2.1, w7.2.2.2.2.2.2.1, w7.2.2.2.2.2.2.2.1, w7.2.2.2.2.2.2.2.2.1, w7.2.2.2.2.2.2.2.2.2.1, ()))
      (v.1, v.2.1, v.2.2.1, v.2.2.2.1, v.2.2.2.2.1, v.2.2.2.2.2.1, v.2.2.2.2.2.2.1, v.2.2.2.2.2.2.2.1, v.2.2.2.2.2.2.2.2.1, v.2.2.2.2.2.2.2.2.2.1, ())
  else
  k0 (v.1, v.2.1, v.2.2.1, v.2.2.2.2.1, v.2.2.2.2.2.1, v.2.2.2.2.2.2.1, v.2.2.2.2.2.2.2.1, v.2.2.2.2.2.2.2.2.1, ())
noncomputable def f330l1 {R : Type} (k : Nat) (k0 : ByteArray × ByteArray × Int × Int × Int × Int × Int × ByteArray × Unit → Option R) (v : ByteArray × ByteArray × Int × Int × Int × Int × Int × Int × ByteArray × List Int × Unit) : Option R := iterS (fun rec v => f330l1s k rec k0 v) k v
noncomputable def f330l1S (k : Nat) : Sum1 := loopSum f330l1H f330l1N k (fun R rec K v => f330l1s k rec (fun w => K (.exit 0) (encSt f330l1X0 w)) v)
theorem f330l1E (k : Nat) (R : Type) (rec : St → Option R) (K : X → St → Option R) (v : f330l1H.Den) : evS tab (f330T k) Go.Proofs.Tryd.f30.ntmps [(8146, f330p0S k)] (bodyOf f330l1C) 2036 (bodyK f330l1N f330l1M rec K) (encSt f330l1H v) = f330l1s k (fun v => rec (encSt f330l1H v)) (fun w => K (.exit 0) (encSt f330l1X0 w)) v := by kernel_rfl
theorem f330l1I (k : Nat) : SumsOk P Go.Proofs.Tryd.f30.ntmps [(8146, f330p0S k)] (bodyOf f330l1C) 2036 := (SumsOk.nil).cons (c := f330p0C) (by kernel_rfl) (f330p0O k)
theorem f330l1O (k : Nat) : SumOk P Go.Proofs.Tryd.f30.ntmps f330l1C (f330l1S k) := (show f330l1C = .loop (bodyOf f330l1C) by kernel_rfl) ▸ sum_loop tabOk (f330TS k) mixed (f330l1I k) (f330l1E k)
noncomputable def f330F (k : Nat) (x : (Int × (Int × Int)) × ByteArray × ByteArray) : Option ((Int × ByteArray) × Int) :=
  Option.bind (f342F k ((x.1.1, (x.1.2.1, x.1.2.2)), x.2.2)) fun y1 =>
  bif (y1 != (0 : Int)) then
    some (((0 : Int), ByteArray.empty), y1)
  else
  bif ((x.2.1.size : Int) != (x.2.2.size : Int)) then
    some (((0 : Int), ByteArray.empty), (8 : Int))
  else
  Option.bind (f317F k x.2.2) fun y2 =>
  Option.bind (f361F k (x.2.2, (y2.1.1, (y2.1.2.1, (y2.1.2.2.1, y2.1.2.2.2))))) fun y3 =>
  f330l1 k
    (fun (w8 : ByteArray × ByteArray × Int × Int × Int × Int × Int × ByteArray × Unit) =>
      Option.bind (f343F k ((w8.2.2.2.1, (w8.2.2.2.2.1, w8.2.2.2.2.2.1)), w8.2.2.1, w8.2.1)) fun y9 =>
      bif (strEq y9 w8.1) then
        some ((w8.2.2.1, ByteArray.empty), (0 : Int))
      else
      Option.bind (f343F k ((w8.2.2.2.1, (w8.2.2.2.2.1, w8.2.2.2.2.2.1)), (IntKind.i64.wrap (0 - w8.2.2.1)), w8.2.1)) fun y10 =>
      bif (strEq y10 w8.1) then
        some (((IntKind.i64.wrap (0 - w8.2.2.1)), ByteArray.empty), (0 : Int))
      else
      some (((0 : Int), ByteArray.empty), (8 : Int)))
    (x.2.1, x.2.2, (0 : Int), (0 : Int), x.1.1, x.1.2.1, x.1.2.2, (0 : Int), ByteArray.empty, y3, ())
noncomputable def f330L (k : Nat) : Sums := [(8146, f330p0S k), (1018, f330l1S k)]
theorem f330LS (k : Nat) : SumsOk P Go.Proofs.Tryd.f30.ntmps (f330L k) (codeOf Go.Proofs.Tryd.f30) 1 := ((SumsOk.nil).cons (c := f330l1C) (by kernel_rfl) (f330l1O k)).cons (c := f330p0C) (by kernel_rfl) (f330p0O k)
theorem f330E (k : Nat) (x : (Int × (Int × Int)) × ByteArray × ByteArray) : evFS tab (f330T k) (f330L k) Go.Proofs.Tryd.f30.ntmps Go.Proofs.Tryd.f30.results.toList (codeOf Go.Proofs.Tryd.f30) (argsV [.agg (.pair (.int .i64) (.pair (.int .i64) (.int .i64))), .dat .str, .dat .str] x) [.agg (.pair (.int .i64) .str), .dat (.int .i64)] = f330F k x := by kernel_rfl
theorem f330Ok (k : Nat) (x : (Int × (Int × Int)) × ByteArray × ByteArray) (y : (Int × ByteArray) × Int) (h : f330F k x = some y) : FnOk P 30 [.agg (.pair (.int .i64) (.pair (.int .i64) (.int .i64))), .dat .str, .dat .str] [.agg (.pair (.int .i64) .str), .dat (.int .i64)] x y :=
  evFS_sound tabOk (f330TS k) mixed Go.Proofs.Tryd.func30 (c := codeOf Go.Proofs.Tryd.f30) (by kernel_rfl) (f330LS k) ((f330E k x).trans h)
/-! ## midrange/midrangelaw02.EditWordReads -/
noncomputable def f310T (k : Nat) : Table := [(13, entFn [] [.dat .bool] (f313F k)), (29, entFn [.agg (.pair (.int .i64) (.pair (.int .i64) (.int .i64))), .dat .str, .dat .str] [.agg (.pair (.int .i64) .str), .dat (.int .i64)] (f329F k)), (30, entFn [.agg (.pair (.int .i64) (.pair (.int .i64) (.int .i64))), .dat .str, .dat .str] [.agg (.pair (.int .i64) .str), .dat (.int .i64)] (f330F k))]
theorem f310TS (k : Nat) : Sound P (f310T k) := (((Sound.nil).cons f330B (f330Ok k)).cons f329B (f329Ok k)).cons f313B (f313Ok k)
theorem f310B : HasBody P 10 := ⟨Go.Proofs.Tryd.f10, Go.Proofs.Tryd.func10, by kernel_rfl, by kernel_rfl⟩
noncomputable def f310F (k : Nat) (x : (Int × (Int × Int)) × ByteArray × ByteArray) : Option (Bool) :=
  Option.bind (f313F k ()) fun y1 =>
  bif (!y1) then
    some false
  else
  bif (decide ((x.2.1.size : Int) > (100 : Int))) then
    some true
  else
  bif (decide ((x.2.2.size : Int) > (100 : Int))) then
    some true
  else
  Option.bind (f329F k ((x.1.1, (x.1.2.1, x.1.2.2)), x.2.1, x.2.2)) fun y2 =>
  Option.bind (f330F k ((x.1.1, (x.1.2.1, x.1.2.2)), x.2.1, x.2.2)) fun y3 =>
  bif (y2.2 == y3.2) then
    some ((y2.1.1 == y3.1.1) && ((strEq y2.1.2 y3.1.2) && true))
  else
  some false
noncomputable def f310L (k : Nat) : Sums := []
theorem f310LS (k : Nat) : SumsOk P Go.Proofs.Tryd.f10.ntmps (f310L k) (codeOf Go.Proofs.Tryd.f10) 1 := SumsOk.nil
theorem f310E (k : Nat) (x : (Int × (Int × Int)) × ByteArray × ByteArray) : evFS tab (f310T k) (f310L k) Go.Proofs.Tryd.f10.ntmps Go.Proofs.Tryd.f10.results.toList (codeOf Go.Proofs.Tryd.f10) (argsV [.agg (.pair (.int .i64) (.pair (.int .i64) (.int .i64))), .dat .str, .dat .str] x) [.dat .bool] = f310F k x := by kernel_rfl
theorem f310Ok (k : Nat) (x : (Int × (Int × Int)) × ByteArray × ByteArray) (y : Bool) (h : f310F k x = some y) : FnOk P 10 [.agg (.pair (.int .i64) (.pair (.int .i64) (.int .i64))), .dat .str, .dat .str] [.dat .bool] x y :=
  evFS_sound tabOk (f310TS k) mixed Go.Proofs.Tryd.func10 (c := codeOf Go.Proofs.Tryd.f10) (by kernel_rfl) (f310LS k) ((f310E k x).trans h)
/-! ## midrange/edit.digitsIn -/
noncomputable def f362T (k : Nat) : Table := []
theorem f362TS (k : Nat) : Sound P (f362T k) := Sound.nil
theorem f362B : HasBody P 62 := ⟨Go.Proofs.Tryd.f62, Go.Proofs.Tryd.func62, by kernel_rfl, by kernel_rfl⟩
noncomputable def f362p0H : Shape := ⟨[(3, .one (.own 0)), (7, .one (.ro (.int .u8))), (8, .one (.int .i64)), (9, .one (.int .i64))], [(0, .row 5 (.int .u8) .plain)], 1, []⟩
noncomputable def f362p0X0 : Shape := ⟨[(3, .one (.own 0)), (7, .one (.ro (.int .u8))), (8, .one (.int .i64)), (9, .one (.int .i64))], [(0, .row 5 (.int .u8) .plain)], 1, []⟩
noncomputable def f362p0N : NoteR := ⟨[3, 7, 8, 9], [], []⟩
noncomputable def f362p0M : NoteR := ⟨[2, 3, 7, 8, 9], [], []⟩
noncomputable def f362p0C : Code := firstC (codesAt 934 (codeOf Go.Proofs.Tryd.f62) 1)
noncomputable def f362p0 {R : Type} (k : Nat) (k0 : List Int × Int × Int × List Int × Unit → Option R) (v : List Int × Int × Int × List Int × Unit) : Option R :=
  bif ((decide ((0 : Int) ≤ v.2.2.1)) && (decide (v.2.2.1 < (v.1.length : Int)))) then
  bif (decide ((48 : Int) ≤ (v.1.getD (Int.toNat v.2.2.1) (0 : Int)))) then
    bif (decide ((v.1.getD (Int.toNat v.2.2.1) (0 : Int)) ≤ (57 : Int))) then
      bif (decide ((v.2.2.2.1.length + [(v.1.getD (Int.toNat v.2.2.1) (0 : Int))].length) * 1 ≤ 140737488355328) && decide (v.2.2.2.1.length + [(v.1.getD (Int.toNat v.2.2.1) (0 : Int))].length ≤ 9223372036854775807)) then
      k0 (v.1, v.2.1, v.2.2.1, (v.2.2.2.1 ++ [(v.1.getD (Int.toNat v.2.2.1) (0 : Int))]), ())
      else none
    else
    k0 (v.1, v.2.1, v.2.2.1, v.2.2.2.1, ())
  else
  k0 (v.1, v.2.1, v.2.2.1, v.2.2.2.1, ())
  else none
noncomputable def f362p0S (k : Nat) : Sum1 := partSum f362p0H f362p0N (fun R K v => f362p0 k (fun w => K .normal (encSt f362p0X0 w)) v)
theorem f362p0E (k : Nat) (R : Type) (K : X → St → Option R) (v : f362p0H.Den) : evS tab (f362T k) Go.Proofs.Tryd.f62.ntmps [] f362p0C 934 (partK f362p0M K) (encSt f362p0H v) = f362p0 k (fun w => K .normal (encSt f362p0X0 w)) v := by kernel_rfl
theorem f362p0I (k : Nat) : SumsOk P Go.Proofs.Tryd.f62.ntmps [] f362p0C 934 := SumsOk.nil
theorem f362p0O (k : Nat) : SumOk P Go.Proofs.Tryd.f62.ntmps f362p0C (f362p0S k) := sum_part tabOk (f362TS k) mixed (f362p0I k) (f362p0E k)
noncomputable def f362l1H : Shape := ⟨[(3, .one (.own 0)), (7, .one (.ro (.int .u8))), (8, .one (.int .i64)), (9, .one (.int .i64))], [(0, .row 5 (.int .u8) .plain)], 1, []⟩
noncomputable def f362l1X0 : Shape := ⟨[(3, .one (.own 0))], [(0, .row 5 (.int .u8) .plain)], 1, []⟩
noncomputable def f362l1N : NoteR := ⟨[3, 7, 8, 9], [(3, 5, (.int .u8))], [(7, (.int .u8))]⟩
noncomputable def f362l1M : NoteR := ⟨[2, 3], [], []⟩
noncomputable def f362l1C : Code := firstC (codesAt 58 (codeOf Go.Proofs.Tryd.f62) 1)
noncomputable def f362l1s {R : Type} (k : Nat) (rec : List Int × Int × Int × List Int × Unit → Option R) (k0 : List Int × Unit → Option R) (v : List Int × Int × Int × List Int × Unit) : Option R :=
  bif (decide (v.2.2.1 < v.2.1)) then
    f362p0 k
      (fun (w1 : List Int × Int × Int × List Int × Unit) =>
        rec (w1.1, w1.2.1, (IntKind.i64.wrap (w1.2.2.1 + (1 : Int))), w1.2.2.2.1, ()))
      (v.1, v.2.1, v.2.2.1, v.2.2.2.1, ())
  else
  k0 (v.2.2.2.1, ())
noncomputable def f362l1 {R : Type} (k : Nat) (k0 : List Int × Unit → Option R) (v : List Int × Int × Int × List Int × Unit) : Option R := iterS (fun rec v => f362l1s k rec k0 v) k v
noncomputable def f362l1S (k : Nat) : Sum1 := loopSum f362l1H f362l1N k (fun R rec K v => f362l1s k rec (fun w => K (.exit 0) (encSt f362l1X0 w)) v)
theorem f362l1E (k : Nat) (R : Type) (rec : St → Option R) (K : X → St → Option R) (v : f362l1H.Den) : evS tab (f362T k) Go.Proofs.Tryd.f62.ntmps [(934, f362p0S k)] (bodyOf f362l1C) 116 (bodyK f362l1N f362l1M rec K) (encSt f362l1H v) = f362l1s k (fun v => rec (encSt f362l1H v)) (fun w => K (.exit 0) (encSt f362l1X0 w)) v := by kernel_rfl
theorem f362l1I (k : Nat) : SumsOk P Go.Proofs.Tryd.f62.ntmps [(934, f362p0S k)] (bodyOf f362l1C) 116 := (SumsOk.nil).cons (c := f362p0C) (by kernel_rfl) (f362p0O k)
theorem f362l1O (k : Nat) : SumOk P Go.Proofs.Tryd.f62.ntmps f362l1C (f362l1S k) := (show f362l1C = .loop (bodyOf f362l1C) by kernel_rfl) ▸ sum_loop tabOk (f362TS k) mixed (f362l1I k) (f362l1E k)
noncomputable def f362F (k : Nat) (x : ByteArray) : Option (ByteArray) :=
  bif (decide (x.size ≤ 9223372036854775807)) then
  f362l1 k
    (fun (w2 : List Int × Unit) =>
      some (strOfNums w2.1))
    ((bytesOf x), ((bytesOf x).length : Int), (0 : Int), [], ())
  else none
noncomputable def f362L (k : Nat) : Sums := [(934, f362p0S k), (58, f362l1S k)]
theorem f362LS (k : Nat) : SumsOk P Go.Proofs.Tryd.f62.ntmps (f362L k) (codeOf Go.Proofs.Tryd.f62) 1 := ((SumsOk.nil).cons (c := f362l1C) (by kernel_rfl) (f362l1O k)).cons (c := f362p0C) (by kernel_rfl) (f362p0O k)
theorem f362E (k : Nat) (x : ByteArray) : evFS tab (f362T k) (f362L k) Go.Proofs.Tryd.f62.ntmps Go.Proofs.Tryd.f62.results.toList (codeOf Go.Proofs.Tryd.f62) (argsV [.dat .str] x) [.dat .str] = f362F k x := by kernel_rfl
theorem f362Ok (k : Nat) (x : ByteArray) (y : ByteArray) (h : f362F k x = some y) : FnOk P 62 [.dat .str] [.dat .str] x y :=
  evFS_sound tabOk (f362TS k) mixed Go.Proofs.Tryd.func62 (c := codeOf Go.Proofs.Tryd.f62) (by kernel_rfl) (f362LS k) ((f362E k x).trans h)
/-! ## midrange/edit.Unedited$1 -/
noncomputable def f363T (k : Nat) : Table := []
theorem f363TS (k : Nat) : Sound P (f363T k) := Sound.nil
theorem f363B : HasBody P 63 := ⟨Go.Proofs.Tryd.f63, Go.Proofs.Tryd.func63, by kernel_rfl, by kernel_rfl⟩
noncomputable def f363F (k : Nat) (x : (Int × ByteArray)) : Option (ByteArray) :=
  none
noncomputable def f363L (k : Nat) : Sums := []
theorem f363LS (k : Nat) : SumsOk P Go.Proofs.Tryd.f63.ntmps (f363L k) (codeOf Go.Proofs.Tryd.f63) 1 := SumsOk.nil
theorem f363E (k : Nat) (x : (Int × ByteArray)) : evFS tab (f363T k) (f363L k) Go.Proofs.Tryd.f63.ntmps Go.Proofs.Tryd.f63.results.toList (codeOf Go.Proofs.Tryd.f63) (argsV [.agg (.pair (.int .i64) .str)] x) [.dat .str] = f363F k x := by kernel_rfl
theorem f363Ok (k : Nat) (x : (Int × ByteArray)) (y : ByteArray) (h : f363F k x = some y) : FnOk P 63 [.agg (.pair (.int .i64) .str)] [.dat .str] x y :=
  evFS_sound tabOk (f363TS k) mixed Go.Proofs.Tryd.func63 (c := codeOf Go.Proofs.Tryd.f63) (by kernel_rfl) (f363LS k) ((f363E k x).trans h)
/-! ## midrange/edit.Unedited$1, handed what it may write -/
noncomputable def f363v0I : Shape := ⟨[(0, .agg [.int .i64, .str]), (1, .one (.ptr 0 0)), (2, .one (.ptr 1 0))], [(0, .var 23 [.int .i64, .int .i64, .int .i64]), (1, .var 27 [.int .u8, .int .i64])], 2, []⟩
noncomputable def f363v0U : Shape := ⟨[(0, .one (.str))], [(0, .var 23 [.int .i64, .int .i64, .int .i64]), (1, .var 27 [.int .u8, .int .i64])], 2, []⟩
noncomputable def f363v0T (k : Nat) : Table := [(36, entFn [.agg (.pair (.int .i64) (.pair (.int .i64) (.int .i64))), .agg (.pair (.int .i64) .str), .agg (.pair (.int .u8) (.int .i64))] [.dat .str] (f336F k))]
theorem f363v0TS (k : Nat) : Sound P (f363v0T k) := (Sound.nil).cons f336B (f336Ok k)
noncomputable def f363v0F (k : Nat) (x : Int × ByteArray × Int × Int × Int × Int × Int × Unit) : Option (ByteArray × Int × Int × Int × Int × Int × Unit) :=
  Option.bind (f336F k ((x.2.2.1, (x.2.2.2.1, x.2.2.2.2.1)), (x.1, x.2.1), (x.2.2.2.2.2.1, x.2.2.2.2.2.2.1))) fun y1 =>
  some (y1, x.2.2.1, x.2.2.2.1, x.2.2.2.2.1, x.2.2.2.2.2.1, x.2.2.2.2.2.2.1, ())
noncomputable def f363v0L (k : Nat) : Sums := []
theorem f363v0LS (k : Nat) : SumsOk P Go.Proofs.Tryd.f63.ntmps (f363v0L k) (codeOf Go.Proofs.Tryd.f63) 1 := SumsOk.nil
theorem f363v0E (k : Nat) (x : f363v0I.Den) : evG tab (f363v0T k) (f363v0L k) Go.Proofs.Tryd.f63.ntmps Go.Proofs.Tryd.f63.results.toList (codeOf Go.Proofs.Tryd.f63) f363v0I x [.dat .bool] f363v0U = f363v0F k x := by kernel_rfl
theorem f363v0Ok (k : Nat) (x : f363v0I.Den) (y : f363v0U.Den) (h : f363v0F k x = some y) : GnOk P 63 f363v0I f363v0U x y :=
  evG_sound tabOk (f363v0TS k) mixed Go.Proofs.Tryd.func63 (c := codeOf Go.Proofs.Tryd.f63) (by kernel_rfl) (f363v0LS k) ((f363v0E k x).trans h)
/-! ## midrange/edit.read, handed what it may write -/
noncomputable def f359v1I : Shape := ⟨[(0, .agg [.int .i64, .int .i64, .int .i64]), (1, .one (.str)), (2, .one (.str)), (3, .one (.fn 63 [0, 1]))], [(0, .var 23 [.int .i64, .int .i64, .int .i64]), (1, .var 27 [.int .u8, .int .i64])], 2, []⟩
noncomputable def f359v1U : Shape := ⟨[(0, .agg [.int .i64, .str]), (1, .one (.int .i64))], [(0, .var 23 [.int .i64, .int .i64, .int .i64]), (1, .var 27 [.int .u8, .int .i64])], 2, []⟩
noncomputable def f359v1T (k : Nat) : Table := [(25, entFn [.agg (.pair (.int .i64) (.pair (.int .i64) (.int .i64))), .agg (.pair (.int .i64) .str)] [.dat (.int .i64)] (f29F k)), (63, entG f363v0I f363v0U (f363v0F k))]
theorem f359v1TS (k : Nat) : Sound P (f359v1T k) := ((Sound.nil).consE f363B (entG_ok (f363v0Ok k))).cons f29B (f29Ok k)
noncomputable def f359v1l0H : Shape := ⟨[(1, .one (.str)), (3, .one (.fn 63 [0, 1])), (4, .one (.ptr 2 0)), (8, .one (.ptr 3 0)), (10, .one (.int .i64)), (22, .one (.own 4)), (23, .one (.int .i64)), (24, .one (.int .i64))], [(0, .var 23 [.int .i64, .int .i64, .int .i64]), (1, .var 27 [.int .u8, .int .i64]), (2, .var 23 [.int .i64, .int .i64, .int .i64]), (3, .var 25 [.int .i64, .str]), (4, .row 5 (.int .u8) .mark)], 5, [some 0, some 1]⟩
noncomputable def f359v1l0X0 : Shape := ⟨[(1, .one (.str)), (3, .one (.fn 63 [0, 1])), (4, .one (.ptr 2 0)), (8, .one (.ptr 3 0)), (10, .one (.int .i64))], [(0, .var 23 [.int .i64, .int .i64, .int .i64]), (1, .var 27 [.int .u8, .int .i64]), (2, .var 23 [.int .i64, .int .i64, .int .i64]), (3, .var 25 [.int .i64, .str])], 4, [some 0, some 1]⟩
noncomputable def f359v1l0N : NoteR := ⟨[1, 3, 4, 8, 10, 22, 23, 24], [], []⟩
noncomputable def f359v1l0M : NoteR := ⟨[1, 3, 4, 8, 9, 10], [], []⟩
noncomputable def f359v1l0C : Code := firstC (codesAt 122 (codeOf Go.Proofs.Tryd.f59) 1)
noncomputable def f359v1l0s {R : Type} (k : Nat) (rec : ByteArray × Int × Int × Int × Int × Int × Int × Int × Int × Int × Int × Int × Int × ByteArray × List Int × Unit → Option R) (k0 : ByteArray × Int × Int × Int × Int × Int × Int × Int × Int × Int × Int × ByteArray × Unit → Option R) (v : ByteArray × Int × Int × Int × Int × Int × Int × Int × Int × Int × Int × Int × Int × ByteArray × List Int × Unit) : Option R :=
  bif (decide (v.2.2.2.1 < v.2.2.1)) then
    bif ((decide ((0 : Int) ≤ v.2.2.2.1)) && (decide (v.2.2.2.1 < (v.2.2.2.2.2.2.2.2.2.2.2.2.2.2.1.length : Int)))) then
    let t1 := (IntKind.u8.wrap ((v.2.2.2.2.2.2.2.2.2.2.2.2.2.2.1.getD (Int.toNat v.2.2.2.1) (0 : Int)) - (48 : Int)))
    let t2 := (IntKind.i64.wrap ((IntKind.i64.wrap (v.2.1 * (10 : Int))) + (IntKind.i64.wrap t1)))
    rec (v.1, t2, v.2.2.1, (IntKind.i64.wrap (v.2.2.2.1 + (1 : Int))), v.2.2.2.2.1, v.2.2.2.2.2.1, v.2.2.2.2.2.2.1, v.2.2.2.2.2.2.2.1, v.2.2.2.2.2.2.2.2.1, v.2.2.2.2.2.2.2.2.2.1, v.2.2.2.2.2.2.2.2.2.2.1, v.2.2.2.2.2.2.2.2.2.2.2.1, v.2.2.2.2.2.2.2.2.2.2.2.2.1, v.2.2.2.2.2.2.2.2.2.2.2.2.2.1, v.2.2.2.2.2.2.2.2.2.2.2.2.2.2.1, ())
    else none
  else
  k0 (v.1, v.2.1, v.2.2.2.2.1, v.2.2.2.2.2.1, v.2.2.2.2.2.2.1, v.2.2.2.2.2.2.2.1, v.2.2.2.2.2.2.2.2.1, v.2.2.2.2.2.2.2.2.2.1, v.2.2.2.2.2.2.2.2.2.2.1, v.2.2.2.2.2.2.2.2.2.2.2.1, v.2.2.2.2.2.2.2.2.2.2.2.2.1, v.2.2.2.2.2.2.2.2.2.2.2.2.2.1, ())
noncomputable def f359v1l0 {R : Type} (k : Nat) (k0 : ByteArray × Int × Int × Int × Int × Int × Int × Int × Int × Int × Int × ByteArray × Unit → Option R) (v : ByteArray × Int × Int × Int × Int × Int × Int × Int × Int × Int × Int × Int × Int × ByteArray × List Int × Unit) : Option R := iterS (fun rec v => f359v1l0s k rec k0 v) k v
noncomputable def f359v1l0S (k : Nat) : Sum1 := loopSum f359v1l0H f359v1l0N k (fun R rec K v => f359v1l0s k rec (fun w => K (.exit 0) (encSt f359v1l0X0 w)) v)
theorem f359v1l0E (k : Nat) (R : Type) (rec : St → Option R) (K : X → St → Option R) (v : f359v1l0H.Den) : evS tab (f359v1T k) Go.Proofs.Tryd.f59.ntmps [] (bodyOf f359v1l0C) 244 (bodyK f359v1l0N f359v1l0M rec K) (encSt f359v1l0H v) = f359v1l0s k (fun v => rec (encSt f359v1l0H v)) (fun w => K (.exit 0) (encSt f359v1l0X0 w)) v := by kernel_rfl
theorem f359v1l0I (k : Nat) : SumsOk P Go.Proofs.Tryd.f59.ntmps [] (bodyOf f359v1l0C) 244 := SumsOk.nil
theorem f359v1l0O (k : Nat) : SumOk P Go.Proofs.Tryd.f59.ntmps f359v1l0C (f359v1l0S k) := (show f359v1l0C = .loop (bodyOf f359v1l0C) by kernel_rfl) ▸ sum_loop tabOk (f359v1TS k) mixed (f359v1l0I k) (f359v1l0E k)
noncomputable def f359v1p1H : Shape := ⟨[(1, .one (.str)), (3, .one (.fn 63 [0, 1])), (4, .one (.ptr 2 0)), (8, .one (.ptr 3 0)), (40, .one (.own 4)), (41, .one (.int .i64)), (42, .one (.int .i64))], [(0, .var 23 [.int .i64, .int .i64, .int .i64]), (1, .var 27 [.int .u8, .int .i64]), (2, .var 23 [.int .i64, .int .i64, .int .i64]), (3, .var 25 [.int .i64, .str]), (4, .row 25 (.pair (.int .i64) .str) .plain)], 5, [some 0, some 1]⟩
noncomputable def f359v1p1X0 : Shape := ⟨[(1, .one (.str)), (3, .one (.fn 63 [0, 1])), (4, .one (.ptr 2 0)), (8, .one (.ptr 3 0)), (9, .one (.int .i64)), (40, .one (.own 4)), (41, .one (.int .i64)), (42, .one (.int .i64))], [(0, .var 23 [.int .i64, .int .i64, .int .i64]), (1, .var 27 [.int .u8, .int .i64]), (2, .var 23 [.int .i64, .int .i64, .int .i64]), (3, .var 25 [.int .i64, .str]), (4, .row 25 (.pair (.int .i64) .str) .plain)], 5, [some 0, some 1]⟩
noncomputable def f359v1p1X1 : Shape := ⟨[(1, .one (.str)), (3, .one (.fn 63 [0, 1])), (4, .one (.ptr 2 0)), (8, .one (.ptr 3 0)), (40, .one (.own 4)), (41, .one (.int .i64)), (42, .one (.int .i64))], [(0, .var 23 [.int .i64, .int .i64, .int .i64]), (1, .var 27 [.int .u8, .int .i64]), (2, .var 23 [.int .i64, .int .i64, .int .i64]), (3, .var 25 [.int .i64, .str]), (4, .row 25 (.pair (.int .i64) .str) .plain)], 5, [some 0, some 1]⟩
noncomputable def f359v1p1N : NoteR := ⟨[1, 3, 4, 8, 40, 41, 42], [], []⟩
noncomputable def f359v1p1M : NoteR := ⟨[1, 3, 4, 8, 9, 10, 40, 41, 42], [], []⟩
noncomputable def f359v1p1C : Code := firstC (codesAt 4006 (codeOf Go.Proofs.Tryd.f59) 1)
noncomputable def f359v1p1 {R : Type} (k : Nat) (k0 : ByteArray × Int × Int × Int × Int × Int × Int × Int × Int × Int × Int × Int × Int × ByteArray × List (Int × ByteArray) × Unit → Option R) (k1 : ByteArray × Int × Int × Int × Int × Int × Int × Int × Int × Int × Int × Int × ByteArray × List (Int × ByteArray) × Unit → Option R) (v : ByteArray × Int × Int × Int × Int × Int × Int × Int × Int × Int × Int × Int × ByteArray × List (Int × ByteArray) × Unit) : Option R :=
  bif ((decide ((0 : Int) ≤ v.2.2.1)) && (decide (v.2.2.1 < (v.2.2.2.2.2.2.2.2.2.2.2.2.2.1.length : Int)))) then
  let t5 := (v.2.2.2.2.2.2.2.2.2.2.2.2.2.1.getD (Int.toNat v.2.2.1) ((0 : Int), ByteArray.empty)).1
  let t6 := (v.2.2.2.2.2.2.2.2.2.2.2.2.2.1.getD (Int.toNat v.2.2.1) ((0 : Int), ByteArray.empty)).2
  Option.bind (f29F k ((v.2.2.2.2.2.2.2.2.1, (v.2.2.2.2.2.2.2.2.2.1, v.2.2.2.2.2.2.2.2.2.2.1)), (t5, t6))) fun y7 =>
  bif (y7 == (0 : Int)) then
    Option.bind (f363v0F k (t5, t6, v.2.2.2.1, v.2.2.2.2.1, v.2.2.2.2.2.1, v.2.2.2.2.2.2.1, v.2.2.2.2.2.2.2.1, ())) fun y8 =>
    bif (strEq y8.1 v.1) then
      k0 (v.1, (0 : Int), v.2.1, v.2.2.1, y8.2.1, y8.2.2.1, y8.2.2.2.1, y8.2.2.2.2.1, y8.2.2.2.2.2.1, v.2.2.2.2.2.2.2.2.1, v.2.2.2.2.2.2.2.2.2.1, v.2.2.2.2.2.2.2.2.2.2.1, t5, t6, v.2.2.2.2.2.2.2.2.2.2.2.2.2.1, ())
    else
    k1 (v.1, v.2.1, v.2.2.1, y8.2.1, y8.2.2.1, y8.2.2.2.1, y8.2.2.2.2.1, y8.2.2.2.2.2.1, v.2.2.2.2.2.2.2.2.1, v.2.2.2.2.2.2.2.2.2.1, v.2.2.2.2.2.2.2.2.2.2.1, v.2.2.2.2.2.2.2.2.2.2.2.1, v.2.2.2.2.2.2.2.2.2.2.2.2.1, v.2.2.2.2.2.2.2.2.2.2.2.2.2.1, ())
  else
  k1 (v.1, v.2.1, v.2.2.1, v.2.2.2.1, v.2.2.2.2.1, v.2.2.2.2.2.1, v.2.2.2.2.2.2.1, v.2.2.2.2.2.2.2.1, v.2.2.2.2.2.2.2.2.1, v.2.2.2.2.2.2.2.2.2.1, v.2.2.2.2.2.2.2.2.2.2.1, v.2.2.2.2.2.2.2.2.2.2.2.1, v.2.2.2.2.2.2.2.2.2.2.2.2.1, v.2.2.2.2.2.2.2.2.2.2.2.2.2.1, ())
  else none
noncomputable def f359v1p1S (k : Nat) : Sum1 := partSum f359v1p1H f359v1p1N (fun R K v => f359v1p1 k (fun w => K .ret (encSt f359v1p1X0 w)) (fun w => K .normal (encSt f359v1p1X1 w)) v)
theorem f359v1p1E (k : Nat) (R : Type) (K : X → St → Option R) (v : f359v1p1H.Den) : evS tab (f359v1T k) Go.Proofs.Tryd.f59.ntmps [] f359v1p1C 4006 (partK f359v1p1M K) (encSt f359v1p1H v) = f359v1p1 k (fun w => K .ret (encSt f359v1p1X0 w)) (fun w => K .normal (encSt f359v1p1X1 w)) v := by kernel_rfl
theorem f359v1p1I (k : Nat) : SumsOk P Go.Proofs.Tryd.f59.ntmps [] f359v1p1C 4006 := SumsOk.nil
theorem f359v1p1O (k : Nat) : SumOk P Go.Proofs.Tryd.f59.ntmps f359v1p1C (f359v1p1S k) := sum_part tabOk (f359v1TS k) mixed (f359v1p1I k) (f359v1p1E k)
noncomputable def f359v1l2H : Shape := ⟨[(1, .one (.str)), (3, .one (.fn 63 [0, 1])), (4, .one (.ptr 2 0)), (8, .one (.ptr 3 0)), (40, .one (.own 4)), (41, .one (.int .i64)), (42, .one (.int .i64))], [(0, .var 23 [.int .i64, .int .i64, .int .i64]), (1, .var 27 [.int .u8, .int .i64]), (2, .var 23 [.int .i64, .int .i64, .int .i64]), (3, .var 25 [.int .i64, .str]), (4, .row 25 (.pair (.int .i64) .str) .plain)], 5, [some 0, some 1]⟩
noncomputable def f359v1l2X0 : Shape := ⟨[(8, .one (.ptr 2 0)), (9, .one (.int .i64))], [(0, .var 23 [.int .i64, .int .i64, .int .i64]), (1, .var 27 [.int .u8, .int .i64]), (2, .var 25 [.int .i64, .str])], 3, [some 0, some 1]⟩
noncomputable def f359v1l2X1 : Shape := ⟨[(8, .one (.ptr 2 0))], [(0, .var 23 [.int .i64, .int .i64, .int .i64]), (1, .var 27 [.int .u8, .int .i64]), (2, .var 25 [.int .i64, .str])], 3, [some 0, some 1]⟩
noncomputable def f359v1l2N : NoteR := ⟨[1, 3, 4, 8, 40, 41, 42], [], []⟩
noncomputable def f359v1l2M : NoteR := ⟨[8, 9], [], []⟩
noncomputable def f359v1l2C : Code := firstC (codesAt 250 (codeOf Go.Proofs.Tryd.f59) 1)
noncomputable def f359v1l2s {R : Type} (k : Nat) (rec : ByteArray × Int × Int × Int × Int × Int × Int × Int × Int × Int × Int × Int × ByteArray × List (Int × ByteArray) × Unit → Option R) (k0 : Int × Int × Int × Int × Int × Int × Int × ByteArray × Unit → Option R) (k1 : Int × Int × Int × Int × Int × Int × ByteArray × Unit → Option R) (v : ByteArray × Int × Int × Int × Int × Int × Int × Int × Int × Int × Int × Int × ByteArray × List (Int × ByteArray) × Unit) : Option R :=
  bif (decide (v.2.2.1 < v.2.1)) then
    f359v1p1 k
      (fun (w9 : ByteArray × Int × Int × Int × Int × Int × Int × Int × Int × Int × Int × Int × Int × ByteArray × List (Int × ByteArray) × Unit) =>
        k0 (w9.2.1, w9.2.2.2.2.1, w9.2.2.2.2.2.1, w9.2.2.2.2.2.2.1, w9.2.2.2.2.2.2.2.1, w9.2.2.2.2.2.2.2.2.1, w9.2.2.2.2.2.2.2.2.2.2.2.2.1, w9.2.2.2.2.2.2.2.2.2.2.2.2.2.1, ()))
      (fun (w10 : ByteArray × Int × Int × Int × Int × Int × Int × Int × Int × Int × Int × Int × ByteArray × List (Int × ByteArray) × Unit) =>
        rec (w10.1, w10.2.1, (IntKind.i64.wrap (w10.2.2.1 + (1 : Int))), w10.2.2.2.1, w10.2.2.2.2.1, w10.2.2.2.2.2.1, w10.2.2.2.2.2.2.1, w10.2.2.2.2.2.2.2.1, w10.2.2.2.2.2.2.2.2.1, w10.2.2.2.2.2.2.2.2.2.1, w10.2.2.2.2.2.2.2.2.2.2.1, w10.2.2.2.2.2.2.2.2.2.2.2.1, w10.2.2.2.2.2.2.2.2.2.2.2.2.1, w10.2.2.2.2.2.2.2.2.2.2.2.2.2.1, ()))
      (v.1, v.2.1, v.2.2.1, v.2.2.2.1, v.2.2.2.2.1, v.2.2.2.2.2.1, v.2.2.2.2.2.2.1, v.2.2.2.2.2.2.2.1, v.2.2.2.2.2.2.2.2.1, v.2.2.2.2.2.2.2.2.2.1, v.2.2.2.2.2.2.2.2.2.2.1, v.2.2.2.2.2.2.2.2.2.2.2.1, v.2.2.2.2.2.2.2.2.2.2.2.2.1, v.2.2.2.2.2.2.2.2.2.2.2.2.2.1, ())
  else
  k1 (v.2.2.2.1, v.2.2.2.2.1, v.2.2.2.2.2.1, v.2.2.2.2.2.2.1, v.2.2.2.2.2.2.2.1, v.2.2.2.2.2.2.2.2.2.2.2.1, v.2.2.2.2.2.2.2.2.2.2.2.2.1, ())
noncomputable def f359v1l2 {R : Type} (k : Nat) (k0 : Int × Int × Int × Int × Int × Int × Int × ByteArray × Unit → Option R) (k1 : Int × Int × Int × Int × Int × Int × ByteArray × Unit → Option R) (v : ByteArray × Int × Int × Int × Int × Int × Int × Int × Int × Int × Int × Int × ByteArray × List (Int × ByteArray) × Unit) : Option R := iterS (fun rec v => f359v1l2s k rec k0 k1 v) k v
noncomputable def f359v1l2S (k : Nat) : Sum1 := loopSum f359v1l2H f359v1l2N k (fun R rec K v => f359v1l2s k rec (fun w => K .ret (encSt f359v1l2X0 w)) (fun w => K (.exit 2) (encSt f359v1l2X1 w)) v)
theorem f359v1l2E (k : Nat) (R : Type) (rec : St → Option R) (K : X → St → Option R) (v : f359v1l2H.Den) : evS tab (f359v1T k) Go.Proofs.Tryd.f59.ntmps [(4006, f359v1p1S k)] (bodyOf f359v1l2C) 500 (bodyK f359v1l2N f359v1l2M rec K) (encSt f359v1l2H v) = f359v1l2s k (fun v => rec (encSt f359v1l2H v)) (fun w => K .ret (encSt f359v1l2X0 w)) (fun w => K (.exit 2) (encSt f359v1l2X1 w)) v := by kernel_rfl
theorem f359v1l2I (k : Nat) : SumsOk P Go.Proofs.Tryd.f59.ntmps [(4006, f359v1p1S k)] (bodyOf f359v1l2C) 500 := (SumsOk.nil).cons (c := f359v1p1C) (by kernel_rfl) (f359v1p1O k)
theorem f359v1l2O (k : Nat) : SumOk P Go.Proofs.Tryd.f59.ntmps f359v1l2C (f359v1l2S k) := (show f359v1l2C = .loop (bodyOf f359v1l2C) by kernel_rfl) ▸ sum_loop tabOk (f359v1TS k) mixed (f359v1l2I k) (f359v1l2E k)
noncomputable def f359v1F (k : Nat) (x : Int × Int × Int × ByteArray × ByteArray × Int × Int × Int × Int × Int × Unit) : Option (Int × ByteArray × Int × Int × Int × Int × Int × Int × Unit) :=
  bif (decide ((x.2.2.2.2.1.size : Int) > x.2.1)) then
    some ((0 : Int), ByteArray.empty, (8 : Int), x.2.2.2.2.2.1, x.2.2.2.2.2.2.1, x.2.2.2.2.2.2.2.1, x.2.2.2.2.2.2.2.2.1, x.2.2.2.2.2.2.2.2.2.1, ())
  else
  bif (decide (x.2.2.2.2.1.size ≤ 9223372036854775807)) then
  f359v1l0 k
    (fun (w3 : ByteArray × Int × Int × Int × Int × Int × Int × Int × Int × Int × Int × ByteArray × Unit) =>
      let t4 := [(w3.2.1, ByteArray.empty), ((IntKind.i64.wrap (0 - w3.2.1)), ByteArray.empty)]
      f359v1l2 k
        (fun (w11 : Int × Int × Int × Int × Int × Int × Int × ByteArray × Unit) =>
          some (w11.2.2.2.2.2.2.1, w11.2.2.2.2.2.2.2.1, w11.1, w11.2.1, w11.2.2.1, w11.2.2.2.1, w11.2.2.2.2.1, w11.2.2.2.2.2.1, ()))
        (fun (w12 : Int × Int × Int × Int × Int × Int × ByteArray × Unit) =>
          some ((0 : Int), ByteArray.empty, (8 : Int), w12.1, w12.2.1, w12.2.2.1, w12.2.2.2.1, w12.2.2.2.2.1, ()))
        (w3.1, (t4.length : Int), (0 : Int), w3.2.2.1, w3.2.2.2.1, w3.2.2.2.2.1, w3.2.2.2.2.2.1, w3.2.2.2.2.2.2.1, w3.2.2.2.2.2.2.2.1, w3.2.2.2.2.2.2.2.2.1, w3.2.2.2.2.2.2.2.2.2.1, w3.2.2.2.2.2.2.2.2.2.2.1, w3.2.2.2.2.2.2.2.2.2.2.2.1, t4, ()))
    (x.2.2.2.1, (0 : Int), ((bytesOf x.2.2.2.2.1).length : Int), (0 : Int), x.2.2.2.2.2.1, x.2.2.2.2.2.2.1, x.2.2.2.2.2.2.2.1, x.2.2.2.2.2.2.2.2.1, x.2.2.2.2.2.2.2.2.2.1, x.1, x.2.1, x.2.2.1, (0 : Int), ByteArray.empty, (bytesOf x.2.2.2.2.1), ())
  else none
noncomputable def f359v1L (k : Nat) : Sums := [(122, f359v1l0S k), (4006, f359v1p1S k), (250, f359v1l2S k)]
theorem f359v1LS (k : Nat) : SumsOk P Go.Proofs.Tryd.f59.ntmps (f359v1L k) (codeOf Go.Proofs.Tryd.f59) 1 := (((SumsOk.nil).cons (c := f359v1l2C) (by kernel_rfl) (f359v1l2O k)).cons (c := f359v1p1C) (by kernel_rfl) (f359v1p1O k)).cons (c := f359v1l0C) (by kernel_rfl) (f359v1l0O k)
theorem f359v1E (k : Nat) (x : f359v1I.Den) : evG tab (f359v1T k) (f359v1L k) Go.Proofs.Tryd.f59.ntmps Go.Proofs.Tryd.f59.results.toList (codeOf Go.Proofs.Tryd.f59) f359v1I x [.agg .bool, .dat .bool] f359v1U = f359v1F k x := by kernel_rfl
theorem f359v1Ok (k : Nat) (x : f359v1I.Den) (y : f359v1U.Den) (h : f359v1F k x = some y) : GnOk P 59 f359v1I f359v1U x y :=
  evG_sound tabOk (f359v1TS k) mixed Go.Proofs.Tryd.func59 (c := codeOf Go.Proofs.Tryd.f59) (by kernel_rfl) (f359v1LS k) ((f359v1E k x).trans h)
/-! ## midrange/edit.Unedited -/
noncomputable def f331T (k : Nat) : Table := [(20, entFn [.agg (.pair (.int .i64) (.pair (.int .i64) (.int .i64))), .agg (.pair (.int .u8) (.int .i64))] [.dat (.int .i64), .dat (.int .i64)] (f320F k)), (59, entG f359v1I f359v1U (f359v1F k)), (62, entFn [.dat .str] [.dat .str] (f362F k))]
theorem f331TS (k : Nat) : Sound P (f331T k) := (((Sound.nil).cons f362B (f362Ok k)).consE f359B (entG_ok (f359v1Ok k))).cons f320B (f320Ok k)
theorem f331B : HasBody P 31 := ⟨Go.Proofs.Tryd.f31, Go.Proofs.Tryd.func31, by kernel_rfl, by kernel_rfl⟩
noncomputable def f331F (k : Nat) (x : (Int × (Int × Int)) × ByteArray × (Int × Int)) : Option ((Int × ByteArray) × Int) :=
  Option.bind (f320F k ((x.1.1, (x.1.2.1, x.1.2.2)), (x.2.2.1, x.2.2.2))) fun y1 =>
  bif (y1.2 != (0 : Int)) then
    some (((0 : Int), ByteArray.empty), y1.2)
  else
  bif ((x.2.1.size : Int) != y1.1) then
    some (((0 : Int), ByteArray.empty), (8 : Int))
  else
  Option.bind (f362F k x.2.1) fun y2 =>
  Option.bind (f359v1F k (x.1.1, x.1.2.1, x.1.2.2, x.2.1, y2, x.1.1, x.1.2.1, x.1.2.2, x.2.2.1, x.2.2.2, ())) fun y3 =>
  some ((y3.1, y3.2.1), y3.2.2.1)
noncomputable def f331L (k : Nat) : Sums := []
theorem f331LS (k : Nat) : SumsOk P Go.Proofs.Tryd.f31.ntmps (f331L k) (codeOf Go.Proofs.Tryd.f31) 1 := SumsOk.nil
theorem f331E (k : Nat) (x : (Int × (Int × Int)) × ByteArray × (Int × Int)) : evFS tab (f331T k) (f331L k) Go.Proofs.Tryd.f31.ntmps Go.Proofs.Tryd.f31.results.toList (codeOf Go.Proofs.Tryd.f31) (argsV [.agg (.pair (.int .i64) (.pair (.int .i64) (.int .i64))), .dat .str, .agg (.pair (.int .u8) (.int .i64))] x) [.agg (.pair (.int .i64) .str), .dat (.int .i64)] = f331F k x := by kernel_rfl
theorem f331Ok (k : Nat) (x : (Int × (Int × Int)) × ByteArray × (Int × Int)) (y : (Int × ByteArray) × Int) (h : f331F k x = some y) : FnOk P 31 [.agg (.pair (.int .i64) (.pair (.int .i64) (.int .i64))), .dat .str, .agg (.pair (.int .u8) (.int .i64))] [.agg (.pair (.int .i64) .str), .dat (.int .i64)] x y :=
  evFS_sound tabOk (f331TS k) mixed Go.Proofs.Tryd.func31 (c := codeOf Go.Proofs.Tryd.f31) (by kernel_rfl) (f331LS k) ((f331E k x).trans h)
/-! ## midrange/midrangeref02.number -/
noncomputable def f364T (k : Nat) : Table := [(23, entFn [.dat (.int .u8)] [.dat .bool] (f323F k))]
theorem f364TS (k : Nat) : Sound P (f364T k) := (Sound.nil).cons f323B (f323Ok k)
theorem f364B : HasBody P 64 := ⟨Go.Proofs.Tryd.f64, Go.Proofs.Tryd.func64, by kernel_rfl, by kernel_rfl⟩
noncomputable def f364p0H : Shape := ⟨[(0, .one (.str)), (1, .one (.int .i64)), (6, .one (.int .i64)), (7, .one (.int .i64)), (8, .one (.int .i64))], [], 0, []⟩
noncomputable def f364p0X0 : Shape := ⟨[(0, .one (.str)), (1, .one (.int .i64)), (4, .one (.int .i64)), (5, .one (.bool)), (6, .one (.int .i64)), (7, .one (.int .i64)), (8, .one (.int .i64))], [], 0, []⟩
noncomputable def f364p0X1 : Shape := ⟨[(0, .one (.str)), (1, .one (.int .i64)), (6, .one (.int .i64)), (7, .one (.int .i64)), (8, .one (.int .i64))], [], 0, []⟩
noncomputable def f364p0N : NoteR := ⟨[0, 1, 6, 7, 8], [], []⟩
noncomputable def f364p0M : NoteR := ⟨[0, 1, 4, 5, 6, 7, 8], [], []⟩
noncomputable def f364p0C : Code := firstC (codesAt 466 (codeOf Go.Proofs.Tryd.f64) 1)
noncomputable def f364p0 {R : Type} (k : Nat) (k0 : ByteArray × Int × Int × Bool × Int × Int × Int × Unit → Option R) (k1 : ByteArray × Int × Int × Int × Int × Unit → Option R) (v : ByteArray × Int × Int × Int × Int × Unit) : Option R :=
  bif ((decide ((0 : Int) ≤ v.2.2.2.2.1)) && (decide (v.2.2.2.2.1 < (v.1.size : Int)))) then
  Option.bind (f323F k (bt v.1 v.2.2.2.2.1)) fun y1 =>
  bif y1 then
    bif (decide ((IntKind.i64.wrap (v.2.2.2.1 + (1 : Int))) > v.2.1)) then
      k0 (v.1, v.2.1, (0 : Int), false, v.2.2.1, (IntKind.i64.wrap (v.2.2.2.1 + (1 : Int))), v.2.2.2.2.1, ())
    else
    bif ((decide ((0 : Int) ≤ v.2.2.2.2.1)) && (decide (v.2.2.2.2.1 < (v.1.size : Int)))) then
    let t2 := (IntKind.i64.wrap (IntKind.u8.wrap ((bt v.1 v.2.2.2.2.1) - (48 : Int))))
    k1 (v.1, v.2.1, (IntKind.i64.wrap ((IntKind.i64.wrap ((10 : Int) * v.2.2.1)) + t2)), (IntKind.i64.wrap (v.2.2.2.1 + (1 : Int))), v.2.2.2.2.1, ())
    else none
  else
  k1 (v.1, v.2.1, v.2.2.1, v.2.2.2.1, v.2.2.2.2.1, ())
  else none
noncomputable def f364p0S (k : Nat) : Sum1 := partSum f364p0H f364p0N (fun R K v => f364p0 k (fun w => K .ret (encSt f364p0X0 w)) (fun w => K .normal (encSt f364p0X1 w)) v)
theorem f364p0E (k : Nat) (R : Type) (K : X → St → Option R) (v : f364p0H.Den) : evS tab (f364T k) Go.Proofs.Tryd.f64.ntmps [] f364p0C 466 (partK f364p0M K) (encSt f364p0H v) = f364p0 k (fun w => K .ret (encSt f364p0X0 w)) (fun w => K .normal (encSt f364p0X1 w)) v := by kernel_rfl
theorem f364p0I (k : Nat) : SumsOk P Go.Proofs.Tryd.f64.ntmps [] f364p0C 466 := SumsOk.nil
theorem f364p0O (k : Nat) : SumOk P Go.Proofs.Tryd.f64.ntmps f364p0C (f364p0S k) := sum_part tabOk (f364TS k) mixed (f364p0I k) (f364p0E k)
noncomputable def f364l1H : Shape := ⟨[(0, .one (.str)), (1, .one (.int .i64)), (6, .one (.int .i64)), (7, .one (.int .i64)), (8, .one (.int .i64))], [], 0, []⟩
noncomputable def f364l1X0 : Shape := ⟨[(4, .one (.int .i64)), (5, .one (.bool)), (6, .one (.int .i64))], [], 0, []⟩
noncomputable def f364l1X1 : Shape := ⟨[(6, .one (.int .i64))], [], 0, []⟩
noncomputable def f364l1N : NoteR := ⟨[0, 1, 6, 7, 8], [], []⟩
noncomputable def f364l1M : NoteR := ⟨[4, 5, 6], [], []⟩
noncomputable def f364l1C : Code := firstC (codesAt 58 (codeOf Go.Proofs.Tryd.f64) 1)
noncomputable def f364l1s {R : Type} (k : Nat) (rec : ByteArray × Int × Int × Int × Int × Unit → Option R) (k0 : Int × Bool × Int × Unit → Option R) (k1 : Int × Unit → Option R) (v : ByteArray × Int × Int × Int × Int × Unit) : Option R :=
  bif (decide (v.2.2.2.2.1 < (v.1.size : Int))) then
    f364p0 k
      (fun (w3 : ByteArray × Int × Int × Bool × Int × Int × Int × Unit) =>
        k0 (w3.2.2.1, w3.2.2.2.1, w3.2.2.2.2.1, ()))
      (fun (w4 : ByteArray × Int × Int × Int × Int × Unit) =>
        rec (w4.1, w4.2.1, w4.2.2.1, w4.2.2.2.1, (IntKind.i64.wrap (w4.2.2.2.2.1 + (1 : Int))), ()))
      (v.1, v.2.1, v.2.2.1, v.2.2.2.1, v.2.2.2.2.1, ())
  else
  k1 (v.2.2.1, ())
noncomputable def f364l1 {R : Type} (k : Nat) (k0 : Int × Bool × Int × Unit → Option R) (k1 : Int × Unit → Option R) (v : ByteArray × Int × Int × Int × Int × Unit) : Option R := iterS (fun rec v => f364l1s k rec k0 k1 v) k v
noncomputable def f364l1S (k : Nat) : Sum1 := loopSum f364l1H f364l1N k (fun R rec K v => f364l1s k rec (fun w => K .ret (encSt f364l1X0 w)) (fun w => K (.exit 0) (encSt f364l1X1 w)) v)
theorem f364l1E (k : Nat) (R : Type) (rec : St → Option R) (K : X → St → Option R) (v : f364l1H.Den) : evS tab (f364T k) Go.Proofs.Tryd.f64.ntmps [(466, f364p0S k)] (bodyOf f364l1C) 116 (bodyK f364l1N f364l1M rec K) (encSt f364l1H v) = f364l1s k (fun v => rec (encSt f364l1H v)) (fun w => K .ret (encSt f364l1X0 w)) (fun w => K (.exit 0) (encSt f364l1X1 w)) v := by kernel_rfl
theorem f364l1I (k : Nat) : SumsOk P Go.Proofs.Tryd.f64.ntmps [(466, f364p0S k)] (bodyOf f364l1C) 116 := (SumsOk.nil).cons (c := f364p0C) (by kernel_rfl) (f364p0O k)
theorem f364l1O (k : Nat) : SumOk P Go.Proofs.Tryd.f64.ntmps f364l1C (f364l1S k) := (show f364l1C = .loop (bodyOf f364l1C) by kernel_rfl) ▸ sum_loop tabOk (f364TS k) mixed (f364l1I k) (f364l1E k)
noncomputable def f364F (k : Nat) (x : ByteArray × Int) : Option (Int × Bool) :=
  f364l1 k
    (fun (w5 : Int × Bool × Int × Unit) =>
      some (w5.1, w5.2.1))
    (fun (w6 : Int × Unit) =>
      some (w6.1, true))
    (x.1, x.2, (0 : Int), (0 : Int), (0 : Int), ())
noncomputable def f364L (k : Nat) : Sums := [(466, f364p0S k), (58, f364l1S k)]
theorem f364LS (k : Nat) : SumsOk P Go.Proofs.Tryd.f64.ntmps (f364L k) (codeOf Go.Proofs.Tryd.f64) 1 := ((SumsOk.nil).cons (c := f364l1C) (by kernel_rfl) (f364l1O k)).cons (c := f364p0C) (by kernel_rfl) (f364p0O k)
theorem f364E (k : Nat) (x : ByteArray × Int) : evFS tab (f364T k) (f364L k) Go.Proofs.Tryd.f64.ntmps Go.Proofs.Tryd.f64.results.toList (codeOf Go.Proofs.Tryd.f64) (argsV [.dat .str, .dat (.int .i64)] x) [.dat (.int .i64), .dat .bool] = f364F k x := by kernel_rfl
theorem f364Ok (k : Nat) (x : ByteArray × Int) (y : Int × Bool) (h : f364F k x = some y) : FnOk P 64 [.dat .str, .dat (.int .i64)] [.dat (.int .i64), .dat .bool] x y :=
  evFS_sound tabOk (f364TS k) mixed Go.Proofs.Tryd.func64 (c := codeOf Go.Proofs.Tryd.f64) (by kernel_rfl) (f364LS k) ((f364E k x).trans h)
/-! ## midrange/midrangeref02.Unedited -/
noncomputable def f332T (k : Nat) : Table := [(21, entFn [.agg (.pair (.int .i64) (.pair (.int .i64) (.int .i64))), .agg (.pair (.int .u8) (.int .i64))] [.dat (.int .i64)] (f321F k)), (37, entFn [.agg (.pair (.int .i64) (.pair (.int .i64) (.int .i64))), .dat (.int .i64), .agg (.pair (.int .u8) (.int .i64))] [.dat .str] (f337F k)), (64, entFn [.dat .str, .dat (.int .i64)] [.dat (.int .i64), .dat .bool] (f364F k))]
theorem f332TS (k : Nat) : Sound P (f332T k) := (((Sound.nil).cons f364B (f364Ok k)).cons f337B (f337Ok k)).cons f321B (f321Ok k)
theorem f332B : HasBody P 32 := ⟨Go.Proofs.Tryd.f32, Go.Proofs.Tryd.func32, by kernel_rfl, by kernel_rfl⟩
noncomputable def f332p0H : Shape := ⟨[(1, .one (.str)), (3, .one (.ptr 0 0)), (5, .one (.ptr 1 0)), (6, .one (.ptr 2 0)), (9, .one (.int .i64)), (10, .one (.bool))], [(0, .var 23 [.int .i64, .int .i64, .int .i64]), (1, .var 27 [.int .u8, .int .i64]), (2, .var 25 [.int .i64, .str])], 3, []⟩
noncomputable def f332p0X0 : Shape := ⟨[(1, .one (.str)), (3, .one (.ptr 0 0)), (5, .one (.ptr 1 0)), (6, .one (.ptr 2 0)), (7, .one (.int .i64)), (9, .one (.int .i64)), (10, .one (.bool))], [(0, .var 23 [.int .i64, .int .i64, .int .i64]), (1, .var 27 [.int .u8, .int .i64]), (2, .var 25 [.int .i64, .str])], 3, []⟩
noncomputable def f332p0X1 : Shape := ⟨[(1, .one (.str)), (3, .one (.ptr 0 0)), (5, .one (.ptr 1 0)), (6, .one (.ptr 2 0)), (9, .one (.int .i64)), (10, .one (.bool))], [(0, .var 23 [.int .i64, .int .i64, .int .i64]), (1, .var 27 [.int .u8, .int .i64]), (2, .var 25 [.int .i64, .str])], 3, []⟩
noncomputable def f332p0N : NoteR := ⟨[1, 3, 5, 6, 9, 10], [], []⟩
noncomputable def f332p0M : NoteR := ⟨[1, 3, 5, 6, 7, 9, 10], [], []⟩
noncomputable def f332p0C : Code := firstC (codesAt 30 (codeOf Go.Proofs.Tryd.f32) 1)
noncomputable def f332p0 {R : Type} (k : Nat) (k0 : ByteArray × Int × Int × Bool × Int × Int × Int × Int × Int × Int × ByteArray × Unit → Option R) (k1 : ByteArray × Int × Bool × Int × Int × Int × Int × Int × Int × ByteArray × Unit → Option R) (v : ByteArray × Int × Bool × Int × Int × Int × Int × Int × Int × ByteArray × Unit) : Option R :=
  bif v.2.2.1 then
    Option.bind (f337F k ((v.2.2.2.1, (v.2.2.2.2.1, v.2.2.2.2.2.1)), v.2.1, (v.2.2.2.2.2.2.1, v.2.2.2.2.2.2.2.1))) fun y3 =>
    bif (strEq y3 v.1) then
      k0 (v.1, (0 : Int), v.2.1, v.2.2.1, v.2.2.2.1, v.2.2.2.2.1, v.2.2.2.2.2.1, v.2.2.2.2.2.2.1, v.2.2.2.2.2.2.2.1, v.2.1, ByteArray.empty, ())
    else
    k1 (v.1, v.2.1, v.2.2.1, v.2.2.2.1, v.2.2.2.2.1, v.2.2.2.2.2.1, v.2.2.2.2.2.2.1, v.2.2.2.2.2.2.2.1, v.2.2.2.2.2.2.2.2.1, v.2.2.2.2.2.2.2.2.2.1, ())
  else
  k1 (v.1, v.2.1, v.2.2.1, v.2.2.2.1, v.2.2.2.2.1, v.2.2.2.2.2.1, v.2.2.2.2.2.2.1, v.2.2.2.2.2.2.2.1, v.2.2.2.2.2.2.2.2.1, v.2.2.2.2.2.2.2.2.2.1, ())
noncomputable def f332p0S (k : Nat) : Sum1 := partSum f332p0H f332p0N (fun R K v => f332p0 k (fun w => K .ret (encSt f332p0X0 w)) (fun w => K .normal (encSt f332p0X1 w)) v)
theorem f332p0E (k : Nat) (R : Type) (K : X → St → Option R) (v : f332p0H.Den) : evS tab (f332T k) Go.Proofs.Tryd.f32.ntmps [] f332p0C 30 (partK f332p0M K) (encSt f332p0H v) = f332p0 k (fun w => K .ret (encSt f332p0X0 w)) (fun w => K .normal (encSt f332p0X1 w)) v := by kernel_rfl
theorem f332p0I (k : Nat) : SumsOk P Go.Proofs.Tryd.f32.ntmps [] f332p0C 30 := SumsOk.nil
theorem f332p0O (k : Nat) : SumOk P Go.Proofs.Tryd.f32.ntmps f332p0C (f332p0S k) := sum_part tabOk (f332TS k) mixed (f332p0I k) (f332p0E k)
noncomputable def f332p1H : Shape := ⟨[(1, .one (.str)), (3, .one (.ptr 0 0)), (5, .one (.ptr 1 0)), (6, .one (.ptr 2 0)), (9, .one (.int .i64)), (10, .one (.bool))], [(0, .var 23 [.int .i64, .int .i64, .int .i64]), (1, .var 27 [.int .u8, .int .i64]), (2, .var 25 [.int .i64, .str])], 3, []⟩
noncomputable def f332p1X0 : Shape := ⟨[(6, .one (.ptr 0 0)), (7, .one (.int .i64))], [(0, .var 25 [.int .i64, .str])], 1, []⟩
noncomputable def f332p1X1 : Shape := ⟨[(6, .one (.ptr 0 0))], [(0, .var 25 [.int .i64, .str])], 1, []⟩
noncomputable def f332p1N : NoteR := ⟨[1, 3, 5, 6, 9, 10], [], []⟩
noncomputable def f332p1M : NoteR := ⟨[6, 7], [], []⟩
noncomputable def f332p1C : Code := firstC (codesAt 62 (codeOf Go.Proofs.Tryd.f32) 1)
noncomputable def f332p1 {R : Type} (k : Nat) (k0 : Int × Int × ByteArray × Unit → Option R) (k1 : Int × ByteArray × Unit → Option R) (v : ByteArray × Int × Bool × Int × Int × Int × Int × Int × Int × ByteArray × Unit) : Option R :=
  bif v.2.2.1 then
    Option.bind (f337F k ((v.2.2.2.1, (v.2.2.2.2.1, v.2.2.2.2.2.1)), (IntKind.i64.wrap (0 - v.2.1)), (v.2.2.2.2.2.2.1, v.2.2.2.2.2.2.2.1))) fun y6 =>
    bif (strEq y6 v.1) then
      k0 ((0 : Int), (IntKind.i64.wrap (0 - v.2.1)), ByteArray.empty, ())
    else
    k1 (v.2.2.2.2.2.2.2.2.1, v.2.2.2.2.2.2.2.2.2.1, ())
  else
  k1 (v.2.2.2.2.2.2.2.2.1, v.2.2.2.2.2.2.2.2.2.1, ())
noncomputable def f332p1S (k : Nat) : Sum1 := partSum f332p1H f332p1N (fun R K v => f332p1 k (fun w => K .ret (encSt f332p1X0 w)) (fun w => K .normal (encSt f332p1X1 w)) v)
theorem f332p1E (k : Nat) (R : Type) (K : X → St → Option R) (v : f332p1H.Den) : evS tab (f332T k) Go.Proofs.Tryd.f32.ntmps [] f332p1C 62 (partK f332p1M K) (encSt f332p1H v) = f332p1 k (fun w => K .ret (encSt f332p1X0 w)) (fun w => K .normal (encSt f332p1X1 w)) v := by kernel_rfl
theorem f332p1I (k : Nat) : SumsOk P Go.Proofs.Tryd.f32.ntmps [] f332p1C 62 := SumsOk.nil
theorem f332p1O (k : Nat) : SumOk P Go.Proofs.Tryd.f32.ntmps f332p1C (f332p1S k) := sum_part tabOk (f332TS k) mixed (f332p1I k) (f332p1E k)
noncomputable def f332F (k : Nat) (x : (Int × (Int × Int)) × ByteArray × (Int × Int)) : Option ((Int × ByteArray) × Int) :=
  Option.bind (f321F k ((x.1.1, (x.1.2.1, x.1.2.2)), (x.2.2.1, x.2.2.2))) fun y1 =>
  bif (y1 != (0 : Int)) then
    some (((0 : Int), ByteArray.empty), y1)
  else
  Option.bind (f364F k (x.2.1, x.1.2.1)) fun y2 =>
  f332p0 k
    (fun (w4 : ByteArray × Int × Int × Bool × Int × Int × Int × Int × Int × Int × ByteArray × Unit) =>
      some ((w4.2.2.2.2.2.2.2.2.2.1, w4.2.2.2.2.2.2.2.2.2.2.1), w4.2.1))
    (fun (w5 : ByteArray × Int × Bool × Int × Int × Int × Int × Int × Int × ByteArray × Unit) =>
      f332p1 k
        (fun (w7 : Int × Int × ByteArray × Unit) =>
          some ((w7.2.1, w7.2.2.1), w7.1))
        (fun (w8 : Int × ByteArray × Unit) =>
          some (((0 : Int), ByteArray.empty), (8 : Int)))
        (w5.1, w5.2.1, w5.2.2.1, w5.2.2.2.1, w5.2.2.2.2.1, w5.2.2.2.2.2.1, w5.2.2.2.2.2.2.1, w5.2.2.2.2.2.2.2.1, w5.2.2.2.2.2.2.2.2.1, w5.2.2.2.2.2.2.2.2.2.1, ()))
    (x.2.1, y2.1, y2.2, x.1.1, x.1.2.1, x.1.2.2, x.2.2.1, x.2.2.2, (0 : Int), ByteArray.empty, ())
noncomputable def f332L (k : Nat) : Sums := [(30, f332p0S k), (62, f332p1S k)]
theorem f332LS (k : Nat) : SumsOk P Go.Proofs.Tryd.f32.ntmps (f332L k) (codeOf Go.Proofs.Tryd.f32) 1 := ((SumsOk.nil).cons (c := f332p1C) (by kernel_rfl) (f332p1O k)).cons (c := f332p0C) (by kernel_rfl) (f332p0O k)
theorem f332E (k : Nat) (x : (Int × (Int × Int)) × ByteArray × (Int × Int)) : evFS tab (f332T k) (f332L k) Go.Proofs.Tryd.f32.ntmps Go.Proofs.Tryd.f32.results.toList (codeOf Go.Proofs.Tryd.f32) (argsV [.agg (.pair (.int .i64) (.pair (.int .i64) (.int .i64))), .dat .str, .agg (.pair (.int .u8) (.int .i64))] x) [.agg (.pair (.int .i64) .str), .dat (.int .i64)] = f332F k x := by kernel_rfl
theorem f332Ok (k : Nat) (x : (Int × (Int × Int)) × ByteArray × (Int × Int)) (y : (Int × ByteArray) × Int) (h : f332F k x = some y) : FnOk P 32 [.agg (.pair (.int .i64) (.pair (.int .i64) (.int .i64))), .dat .str, .agg (.pair (.int .u8) (.int .i64))] [.agg (.pair (.int .i64) .str), .dat (.int .i64)] x y :=
  evFS_sound tabOk (f332TS k) mixed Go.Proofs.Tryd.func32 (c := codeOf Go.Proofs.Tryd.f32) (by kernel_rfl) (f332LS k) ((f332E k x).trans h)
/-! ## midrange/midrangelaw02.EditReads -/
noncomputable def f311T (k : Nat) : Table := [(13, entFn [] [.dat .bool] (f313F k)), (31, entFn [.agg (.pair (.int .i64) (.pair (.int .i64) (.int .i64))), .dat .str, .agg (.pair (.int .u8) (.int .i64))] [.agg (.pair (.int .i64) .str), .dat (.int .i64)] (f331F k)), (32, entFn [.agg (.pair (.int .i64) (.pair (.int .i64) (.int .i64))), .dat .str, .agg (.pair (.int .u8) (.int .i64))] [.agg (.pair (.int .i64) .str), .dat (.int .i64)] (f332F k))]
theorem f311TS (k : Nat) : Sound P (f311T k) := (((Sound.nil).cons f332B (f332Ok k)).cons f331B (f331Ok k)).cons f313B (f313Ok k)
theorem f311B : HasBody P 11 := ⟨Go.Proofs.Tryd.f11, Go.Proofs.Tryd.func11, by kernel_rfl, by kernel_rfl⟩
noncomputable def f311F (k : Nat) (x : (Int × (Int × Int)) × ByteArray × (Int × Int)) : Option (Bool) :=
  Option.bind (f313F k ()) fun y1 =>
  bif (!y1) then
    some false
  else
  bif (decide ((x.2.1.size : Int) > (100 : Int))) then
    some true
  else
  Option.bind (f331F k ((x.1.1, (x.1.2.1, x.1.2.2)), x.2.1, (x.2.2.1, x.2.2.2))) fun y2 =>
  Option.bind (f332F k ((x.1.1, (x.1.2.1, x.1.2.2)), x.2.1, (x.2.2.1, x.2.2.2))) fun y3 =>
  bif (y2.2 == y3.2) then
    some ((y2.1.1 == y3.1.1) && ((strEq y2.1.2 y3.1.2) && true))
  else
  some false
noncomputable def f311L (k : Nat) : Sums := []
theorem f311LS (k : Nat) : SumsOk P Go.Proofs.Tryd.f11.ntmps (f311L k) (codeOf Go.Proofs.Tryd.f11) 1 := SumsOk.nil
theorem f311E (k : Nat) (x : (Int × (Int × Int)) × ByteArray × (Int × Int)) : evFS tab (f311T k) (f311L k) Go.Proofs.Tryd.f11.ntmps Go.Proofs.Tryd.f11.results.toList (codeOf Go.Proofs.Tryd.f11) (argsV [.agg (.pair (.int .i64) (.pair (.int .i64) (.int .i64))), .dat .str, .agg (.pair (.int .u8) (.int .i64))] x) [.dat .bool] = f311F k x := by kernel_rfl
theorem f311Ok (k : Nat) (x : (Int × (Int × Int)) × ByteArray × (Int × Int)) (y : Bool) (h : f311F k x = some y) : FnOk P 11 [.agg (.pair (.int .i64) (.pair (.int .i64) (.int .i64))), .dat .str, .agg (.pair (.int .u8) (.int .i64))] [.dat .bool] x y :=
  evFS_sound tabOk (f311TS k) mixed Go.Proofs.Tryd.func11 (c := codeOf Go.Proofs.Tryd.f11) (by kernel_rfl) (f311LS k) ((f311E k x).trans h)
/-! ## midrange/midrangelaw02.EditBack -/
noncomputable def f312T (k : Nat) : Table := [(13, entFn [] [.dat .bool] (f313F k)), (14, entFn [.agg (.pair (.int .i64) (.pair (.int .i64) (.int .i64))), .agg (.pair (.int .i64) .str), .agg (.pair (.int .u8) (.int .i64))] [.dat .str, .dat (.int .i64)] (f314F k)), (31, entFn [.agg (.pair (.int .i64) (.pair (.int .i64) (.int .i64))), .dat .str, .agg (.pair (.int .u8) (.int .i64))] [.agg (.pair (.int .i64) .str), .dat (.int .i64)] (f331F k)), (33, entFn [.dat (.int .i64), .dat (.int .i64), .dat (.int .i64)] [.dat .bool] (f48F k))]
theorem f312TS (k : Nat) : Sound P (f312T k) := ((((Sound.nil).cons f48B (f48Ok k)).cons f331B (f331Ok k)).cons f314B (f314Ok k)).cons f313B (f313Ok k)
theorem f312B : HasBody P 12 := ⟨Go.Proofs.Tryd.f12, Go.Proofs.Tryd.func12, by kernel_rfl, by kernel_rfl⟩
noncomputable def f312p0H : Shape := ⟨[(3, .one (.ptr 0 0)), (4, .one (.ptr 1 0)), (5, .one (.ptr 2 0)), (7, .one (.str)), (8, .one (.int .i64))], [(0, .var 23 [.int .i64, .int .i64, .int .i64]), (1, .var 25 [.int .i64, .str]), (2, .var 27 [.int .u8, .int .i64])], 3, []⟩
noncomputable def f312p0X0 : Shape := ⟨[(3, .one (.ptr 0 0)), (4, .one (.ptr 1 0)), (5, .one (.ptr 2 0)), (6, .one (.bool)), (7, .one (.str))], [(0, .var 23 [.int .i64, .int .i64, .int .i64]), (1, .var 25 [.int .i64, .str]), (2, .var 27 [.int .u8, .int .i64])], 3, []⟩
noncomputable def f312p0X1 : Shape := ⟨[(3, .one (.ptr 0 0)), (4, .one (.ptr 1 0)), (5, .one (.ptr 2 0)), (7, .one (.str))], [(0, .var 23 [.int .i64, .int .i64, .int .i64]), (1, .var 25 [.int .i64, .str]), (2, .var 27 [.int .u8, .int .i64])], 3, []⟩
noncomputable def f312p0N : NoteR := ⟨[3, 4, 5, 7, 8], [], []⟩
noncomputable def f312p0M : NoteR := ⟨[3, 4, 5, 6, 7], [], []⟩
noncomputable def f312p0C : Code := firstC (codesAt 62 (codeOf Go.Proofs.Tryd.f12) 1)
noncomputable def f312p0 {R : Type} (k : Nat) (k0 : Bool × ByteArray × Int × Int × Int × Int × ByteArray × Int × Int × Unit → Option R) (k1 : ByteArray × Int × Int × Int × Int × ByteArray × Int × Int × Unit → Option R) (v : ByteArray × Int × Int × Int × Int × Int × ByteArray × Int × Int × Unit) : Option R :=
  bif (v.2.1 != (0 : Int)) then
    k0 (true, v.1, v.2.2.1, v.2.2.2.1, v.2.2.2.2.1, v.2.2.2.2.2.1, v.2.2.2.2.2.2.1, v.2.2.2.2.2.2.2.1, v.2.2.2.2.2.2.2.2.1, ())
  else
  bif (decide (v.2.2.2.2.2.1 < (0 : Int))) then
    Option.bind (f48F k ((IntKind.i64.wrap v.2.2.2.2.2.2.2.1), (49 : Int), (52 : Int))) fun y3 =>
    bif y3 then
      k0 (true, v.1, v.2.2.1, v.2.2.2.1, v.2.2.2.2.1, v.2.2.2.2.2.1, v.2.2.2.2.2.2.1, v.2.2.2.2.2.2.2.1, v.2.2.2.2.2.2.2.2.1, ())
    else
    Option.bind (f48F k ((IntKind.i64.wrap v.2.2.2.2.2.2.2.1), (88 : Int), (90 : Int))) fun y4 =>
    bif y4 then
      k0 (true, v.1, v.2.2.1, v.2.2.2.1, v.2.2.2.2.1, v.2.2.2.2.2.1, v.2.2.2.2.2.2.1, v.2.2.2.2.2.2.2.1, v.2.2.2.2.2.2.2.2.1, ())
    else
    k1 (v.1, v.2.2.1, v.2.2.2.1, v.2.2.2.2.1, v.2.2.2.2.2.1, v.2.2.2.2.2.2.1, v.2.2.2.2.2.2.2.1, v.2.2.2.2.2.2.2.2.1, ())
  else
  k1 (v.1, v.2.2.1, v.2.2.2.1, v.2.2.2.2.1, v.2.2.2.2.2.1, v.2.2.2.2.2.2.1, v.2.2.2.2.2.2.2.1, v.2.2.2.2.2.2.2.2.1, ())
noncomputable def f312p0S (k : Nat) : Sum1 := partSum f312p0H f312p0N (fun R K v => f312p0 k (fun w => K .ret (encSt f312p0X0 w)) (fun w => K .normal (encSt f312p0X1 w)) v)
theorem f312p0E (k : Nat) (R : Type) (K : X → St → Option R) (v : f312p0H.Den) : evS tab (f312T k) Go.Proofs.Tryd.f12.ntmps [] f312p0C 62 (partK f312p0M K) (encSt f312p0H v) = f312p0 k (fun w => K .ret (encSt f312p0X0 w)) (fun w => K .normal (encSt f312p0X1 w)) v := by kernel_rfl
theorem f312p0I (k : Nat) : SumsOk P Go.Proofs.Tryd.f12.ntmps [] f312p0C 62 := SumsOk.nil
theorem f312p0O (k : Nat) : SumOk P Go.Proofs.Tryd.f12.ntmps f312p0C (f312p0S k) := sum_part tabOk (f312TS k) mixed (f312p0I k) (f312p0E k)
noncomputable def f312F (k : Nat) (x : (Int × (Int × Int)) × (Int × ByteArray) × (Int × Int)) : Option (Bool) :=
  Option.bind (f313F k ()) fun y1 =>
  bif (!y1) then
    some false
  else
  bif (decide ((x.2.1.2.size : Int) > (300 : Int))) then
    some true
  else
  Option.bind (f314F k ((x.1.1, (x.1.2.1, x.1.2.2)), (x.2.1.1, x.2.1.2), (x.2.2.1, x.2.2.2))) fun y2 =>
  f312p0 k
    (fun (w5 : Bool × ByteArray × Int × Int × Int × Int × ByteArray × Int × Int × Unit) =>
      some w5.1)
    (fun (w6 : ByteArray × Int × Int × Int × Int × ByteArray × Int × Int × Unit) =>
      Option.bind (f331F k ((w6.2.1, (w6.2.2.1, w6.2.2.2.1)), w6.1, (w6.2.2.2.2.2.2.1, w6.2.2.2.2.2.2.2.1))) fun y7 =>
      bif (y7.2 == (0 : Int)) then
        some ((w6.2.2.2.2.1 == y7.1.1) && ((strEq w6.2.2.2.2.2.1 y7.1.2) && true))
      else
      some false)
    (y2.1, y2.2, x.1.1, x.1.2.1, x.1.2.2, x.2.1.1, x.2.1.2, x.2.2.1, x.2.2.2, ())
noncomputable def f312L (k : Nat) : Sums := [(62, f312p0S k)]
theorem f312LS (k : Nat) : SumsOk P Go.Proofs.Tryd.f12.ntmps (f312L k) (codeOf Go.Proofs.Tryd.f12) 1 := (SumsOk.nil).cons (c := f312p0C) (by kernel_rfl) (f312p0O k)
theorem f312E (k : Nat) (x : (Int × (Int × Int)) × (Int × ByteArray) × (Int × Int)) : evFS tab (f312T k) (f312L k) Go.Proofs.Tryd.f12.ntmps Go.Proofs.Tryd.f12.results.toList (codeOf Go.Proofs.Tryd.f12) (argsV [.agg (.pair (.int .i64) (.pair (.int .i64) (.int .i64))), .agg (.pair (.int .i64) .str), .agg (.pair (.int .u8) (.int .i64))] x) [.dat .bool] = f312F k x := by kernel_rfl
theorem f312Ok (k : Nat) (x : (Int × (Int × Int)) × (Int × ByteArray) × (Int × Int)) (y : Bool) (h : f312F k x = some y) : FnOk P 12 [.agg (.pair (.int .i64) (.pair (.int .i64) (.int .i64))), .agg (.pair (.int .i64) .str), .agg (.pair (.int .u8) (.int .i64))] [.dat .bool] x y :=
  evFS_sound tabOk (f312TS k) mixed Go.Proofs.Tryd.func12 (c := codeOf Go.Proofs.Tryd.f12) (by kernel_rfl) (f312LS k) ((f312E k x).trans h)
end Go.Proofs.YtecbbmokocnadaaDoor
