/- What functions of the program compute: each as a plain Lean function, and that the code comes to it. Printed by gen.py. -/
import Derived.Test.YtobgkcamonlnkaaGreatDoorFcJ
import Derived.Test.YtobgkcamonlnkaaGreatDoorProg
/-! Printed by gen.py: what functions compute. -/
set_option linter.unusedVariables false
set_option maxRecDepth 100000
namespace Go.Proofs.YtobgkcamonlnkaaGreatDoor
open Go.Ab
/-! ## slices.Equal[[]midrange/api.Record,midrange/api.Record] -/
noncomputable def f574T (k : Nat) : Table := []
theorem f574TS (k : Nat) : Sound P (f574T k) := Sound.nil
theorem f574B : HasBody P 74 := ⟨Tryz.f74, Tryz.func74, by kernel_rfl, by kernel_rfl⟩
noncomputable def f574l0H : Shape := ⟨[(0, .one (.ro (.pair .bool .str))), (1, .one (.ro (.pair .bool .str))), (12, .one (.int .i64)), (13, .one (.int .i64))], [], 0, []⟩
noncomputable def f574l0X0 : Shape := ⟨[(4, .one (.bool))], [], 0, []⟩
noncomputable def f574l0X1 : Shape := ⟨[], [], 0, []⟩
noncomputable def f574l0N : NoteR := ⟨[0, 1, 12, 13], [], []⟩
noncomputable def f574l0M : NoteR := ⟨[4], [], []⟩
noncomputable def f574l0C : Code := firstC (codesAt 58 (codeOf Tryz.f74) 1)
noncomputable def f574l0s {R : Type} (k : Nat) (rec : D116 → Option R) (k0 : Bool × Unit → Option R) (k1 : Unit → Option R) (v : D116) : Option R :=
  bif (decide (v.2.2.2.1 < v.2.2.1)) then
    bif ((decide ((0 : Int) ≤ v.2.2.2.1)) && (decide (v.2.2.2.1 < (v.1.length : Int)))) then
    bif ((decide ((0 : Int) ≤ v.2.2.2.1)) && (decide (v.2.2.2.1 < (v.2.1.length : Int)))) then
    let t1 := (!(((v.1.getD (Int.toNat v.2.2.2.1) (false, ByteArray.empty)).1 == (v.2.1.getD (Int.toNat v.2.2.2.1) (false, ByteArray.empty)).1) && ((strEq (v.1.getD (Int.toNat v.2.2.2.1) (false, ByteArray.empty)).2 (v.2.1.getD (Int.toNat v.2.2.2.1) (false, ByteArray.empty)).2) && true)))
    bif t1 then
      k0 (false, ())
    else
    rec (v.1, v.2.1, v.2.2.1, (IntKind.i64.wrap (v.2.2.2.1 + (1 : Int))), ())
    else none
    else none
  else
  k1 (())
noncomputable def f574l0 {R : Type} (k : Nat) (k0 : Bool × Unit → Option R) (k1 : Unit → Option R) (v : D116) : Option R := iterS (fun rec v => f574l0s k rec k0 k1 v) k v
noncomputable def f574l0S (k : Nat) : Sum1 := loopSum f574l0H f574l0N k (fun R rec K v => f574l0s k rec (fun w => K .ret (encSt f574l0X0 w)) (fun w => K (.exit 0) (encSt f574l0X1 w)) v)
theorem f574l0E (k : Nat) (R : Type) (rec : St → Option R) (K : X → St → Option R) (v : f574l0H.Den) : evS tab (f574T k) Tryz.f74.ntmps [] (bodyOf f574l0C) 116 (bodyK f574l0N f574l0M rec K) (encSt f574l0H v) = f574l0s k (fun v => rec (encSt f574l0H v)) (fun w => K .ret (encSt f574l0X0 w)) (fun w => K (.exit 0) (encSt f574l0X1 w)) v := by kernel_rfl
theorem f574l0I (k : Nat) : SumsOk P Tryz.f74.ntmps [] (bodyOf f574l0C) 116 := SumsOk.nil
theorem f574l0O (k : Nat) : SumOk P Tryz.f74.ntmps f574l0C (f574l0S k) := (show f574l0C = .loop (bodyOf f574l0C) by kernel_rfl) ▸ sum_loop tabOk (f574TS k) mixed (f574l0I k) (f574l0E k)
noncomputable def f574F (k : Nat) (x : D117) : Option (Bool) :=
  bif ((x.1.length : Int) != (x.2.length : Int)) then
    some false
  else
  f574l0 k
    (fun (w2 : Bool × Unit) =>
      some w2.1)
    (fun (w3 : Unit) =>
      some true)
    (x.1, x.2, (x.1.length : Int), (0 : Int), ())
noncomputable def f574L (k : Nat) : Sums := [(58, f574l0S k)]
theorem f574LS (k : Nat) : SumsOk P Tryz.f74.ntmps (f574L k) (codeOf Tryz.f74) 1 := (SumsOk.nil).cons (c := f574l0C) (by kernel_rfl) (f574l0O k)
theorem f574E (k : Nat) (x : D117) : evFS tab (f574T k) (f574L k) Tryz.f74.ntmps Tryz.f74.results.toList (codeOf Tryz.f74) (argsV [.dat (.slice (.pair .bool .str)), .dat (.slice (.pair .bool .str))] x) [.dat .bool] none = f574F k x := by kernel_rfl
theorem f574Ok (k : Nat) (x : D117) (y : Bool) (h : f574F k x = some y) : FnOk P 74 [.dat (.slice (.pair .bool .str)), .dat (.slice (.pair .bool .str))] [.dat .bool] x y :=
  evFS_sound tabOk (f574TS k) mixed Tryz.func74 (c := codeOf Tryz.f74) (by kernel_rfl) (f574LS k) ((f574E k x).trans h)
noncomputable def f574A (k : Nat) := entFnB [.dat (.slice (.pair .bool .str)), .dat (.slice (.pair .bool .str))] [.dat .bool] (f574F k)
theorem f574Ao (k : Nat) : EntOk P 74 (f574A k) := entFnB_ok (f574Ok k)
/-! ## midrange/save.DifferencesOf -/
noncomputable def f529T (k : Nat) : Table := [(15, f515A k), (50, f550A k), (70, f570A k), (74, f574A k)]
theorem f529TS (k : Nat) : Sound P (f529T k) := ((((Sound.nil).consE f574B (f574Ao k)).consE f570B (f570Ao k)).consE f550B (f550Ao k)).consE f515B (f515Ao k)
theorem f529B : HasBody P 29 := ⟨Tryz.f29, Tryz.func29, by kernel_rfl, by kernel_rfl⟩
noncomputable def f529p0H : Shape := ⟨[(0, .one (.ro Y6)), (1, .one (.ro Y6)), (10, .one (.own 0)), (32, .one (.ro Y6)), (33, .one (.int .i64)), (34, .one (.int .i64))], [(0, .row 94 Y11 .plain)], 1, []⟩
noncomputable def f529p0X0 : Shape := ⟨[(0, .one (.ro Y6)), (1, .one (.ro Y6)), (10, .one (.own 0)), (32, .one (.ro Y6)), (33, .one (.int .i64)), (34, .one (.int .i64))], [(0, .row 94 Y11 .plain)], 1, []⟩
noncomputable def f529p0N : NoteR := ⟨[0, 1, 10, 32, 33, 34], [], []⟩
noncomputable def f529p0M : NoteR := ⟨[0, 1, 4, 5, 10, 32, 33, 34], [], []⟩
noncomputable def f529p0C : Code := firstC (codesAt 4006 (codeOf Tryz.f29) 1)
noncomputable def f529p0 {R : Type} (k : Nat) (k0 : D118 → Option R) (v : D118) : Option R :=
  bif ((decide ((0 : Int) ≤ v.2.2.2.2.1)) && (decide (v.2.2.2.2.1 < (v.2.2.1.length : Int)))) then
  let t3 := (v.2.2.1.getD (Int.toNat v.2.2.2.2.1) ((ByteArray.empty, ((ByteArray.empty, []), ([], false))), []))
  Option.bind (f550F k (v.2.1, t3.1.1)) fun y4 =>
  bif (decide (y4 < (0 : Int))) then
    bif (decide ((v.2.2.2.2.2.1.length + [(t3.1.1, (0 : Int))].length) * 24 ≤ 140737488355328) && decide (v.2.2.2.2.2.1.length + [(t3.1.1, (0 : Int))].length ≤ 9223372036854775807)) then
    k0 (v.1, v.2.1, v.2.2.1, v.2.2.2.1, v.2.2.2.2.1, (v.2.2.2.2.2.1 ++ [(t3.1.1, (0 : Int))]), ())
    else none
  else
  Option.bind (f570F k (t3.1.1, ((t3.1.2.1.1, t3.1.2.1.2), (t3.1.2.2.1, t3.1.2.2.2)))) fun y5 =>
  bif ((decide ((0 : Int) ≤ y4)) && (decide (y4 < (v.2.1.length : Int)))) then
  let t6 := (v.2.1.getD (Int.toNat y4) ((ByteArray.empty, ((ByteArray.empty, []), ([], false))), []))
  Option.bind (f570F k (t6.1.1, ((t6.1.2.1.1, t6.1.2.1.2), (t6.1.2.2.1, t6.1.2.2.2)))) fun y7 =>
  bif (y5 != y7) then
    bif (decide ((v.2.2.2.2.2.1.length + [(t3.1.1, (2 : Int))].length) * 24 ≤ 140737488355328) && decide (v.2.2.2.2.2.1.length + [(t3.1.1, (2 : Int))].length ≤ 9223372036854775807)) then
    k0 (v.1, v.2.1, v.2.2.1, v.2.2.2.1, v.2.2.2.2.1, (v.2.2.2.2.2.1 ++ [(t3.1.1, (2 : Int))]), ())
    else none
  else
  bif ((decide ((0 : Int) ≤ y4)) && (decide (y4 < (v.2.1.length : Int)))) then
  let t8 := (v.2.1.getD (Int.toNat y4) ((ByteArray.empty, ((ByteArray.empty, []), ([], false))), []))
  Option.bind (f574F k (t3.2, t8.2)) fun y9 =>
  bif (!y9) then
    bif (decide ((v.2.2.2.2.2.1.length + [(t3.1.1, (3 : Int))].length) * 24 ≤ 140737488355328) && decide (v.2.2.2.2.2.1.length + [(t3.1.1, (3 : Int))].length ≤ 9223372036854775807)) then
    k0 (v.1, v.2.1, v.2.2.1, v.2.2.2.1, v.2.2.2.2.1, (v.2.2.2.2.2.1 ++ [(t3.1.1, (3 : Int))]), ())
    else none
  else
  k0 (v.1, v.2.1, v.2.2.1, v.2.2.2.1, v.2.2.2.2.1, v.2.2.2.2.2.1, ())
  else none
  else none
  else none
noncomputable def f529p0S (k : Nat) : Sum1 := partSum f529p0H f529p0N (fun R K v => f529p0 k (fun w => K .normal (encSt f529p0X0 w)) v)
theorem f529p0E (k : Nat) (R : Type) (K : X → St → Option R) (v : f529p0H.Den) : evS tab (f529T k) Tryz.f29.ntmps [] f529p0C 4006 (partK f529p0M K) (encSt f529p0H v) = f529p0 k (fun w => K .normal (encSt f529p0X0 w)) v := by kernel_rfl
theorem f529p0I (k : Nat) : SumsOk P Tryz.f29.ntmps [] f529p0C 4006 := SumsOk.nil
theorem f529p0O (k : Nat) : SumOk P Tryz.f29.ntmps f529p0C (f529p0S k) := sum_part tabOk (f529TS k) mixed (f529p0I k) (f529p0E k)
noncomputable def f529l1H : Shape := ⟨[(0, .one (.ro Y6)), (1, .one (.ro Y6)), (10, .one (.own 0)), (32, .one (.ro Y6)), (33, .one (.int .i64)), (34, .one (.int .i64))], [(0, .row 94 Y11 .plain)], 1, []⟩
noncomputable def f529l1X0 : Shape := ⟨[(0, .one (.ro Y6)), (1, .one (.ro Y6)), (10, .one (.own 0))], [(0, .row 94 Y11 .plain)], 1, []⟩
noncomputable def f529l1N : NoteR := ⟨[0, 1, 10, 32, 33, 34], [(10, 94, Y11)], []⟩
noncomputable def f529l1M : NoteR := ⟨[0, 1, 4, 5, 10], [], []⟩
noncomputable def f529l1C : Code := firstC (codesAt 250 (codeOf Tryz.f29) 1)
noncomputable def f529l1s {R : Type} (k : Nat) (rec : D118 → Option R) (k0 : D119 → Option R) (v : D118) : Option R :=
  bif (decide (v.2.2.2.2.1 < v.2.2.2.1)) then
    f529p0 k
      (fun (w10 : D118) =>
        rec (w10.1, w10.2.1, w10.2.2.1, w10.2.2.2.1, (IntKind.i64.wrap (w10.2.2.2.2.1 + (1 : Int))), w10.2.2.2.2.2.1, ()))
      (v.1, v.2.1, v.2.2.1, v.2.2.2.1, v.2.2.2.2.1, v.2.2.2.2.2.1, ())
  else
  k0 (v.1, v.2.1, v.2.2.2.2.2.1, ())
noncomputable def f529l1 {R : Type} (k : Nat) (k0 : D119 → Option R) (v : D118) : Option R := iterS (fun rec v => f529l1s k rec k0 v) k v
noncomputable def f529l1S (k : Nat) : Sum1 := loopSum f529l1H f529l1N k (fun R rec K v => f529l1s k rec (fun w => K (.exit 0) (encSt f529l1X0 w)) v)
theorem f529l1E (k : Nat) (R : Type) (rec : St → Option R) (K : X → St → Option R) (v : f529l1H.Den) : evS tab (f529T k) Tryz.f29.ntmps [(4006, f529p0S k)] (bodyOf f529l1C) 500 (bodyK f529l1N f529l1M rec K) (encSt f529l1H v) = f529l1s k (fun v => rec (encSt f529l1H v)) (fun w => K (.exit 0) (encSt f529l1X0 w)) v := by kernel_rfl
theorem f529l1I (k : Nat) : SumsOk P Tryz.f29.ntmps [(4006, f529p0S k)] (bodyOf f529l1C) 500 := (SumsOk.nil).cons (c := f529p0C) (by kernel_rfl) (f529p0O k)
theorem f529l1O (k : Nat) : SumOk P Tryz.f29.ntmps f529l1C (f529l1S k) := (show f529l1C = .loop (bodyOf f529l1C) by kernel_rfl) ▸ sum_loop tabOk (f529TS k) mixed (f529l1I k) (f529l1E k)
noncomputable def f529p2H : Shape := ⟨[(0, .one (.ro Y6)), (10, .one (.own 0)), (89, .one (.ro Y6)), (90, .one (.int .i64)), (91, .one (.int .i64))], [(0, .row 94 Y11 .plain)], 1, []⟩
noncomputable def f529p2X0 : Shape := ⟨[(0, .one (.ro Y6)), (10, .one (.own 0)), (89, .one (.ro Y6)), (90, .one (.int .i64)), (91, .one (.int .i64))], [(0, .row 94 Y11 .plain)], 1, []⟩
noncomputable def f529p2N : NoteR := ⟨[0, 10, 89, 90, 91], [], []⟩
noncomputable def f529p2M : NoteR := ⟨[0, 1, 4, 5, 10, 89, 90, 91], [], []⟩
noncomputable def f529p2C : Code := firstC (codesAt 8102 (codeOf Tryz.f29) 1)
noncomputable def f529p2 {R : Type} (k : Nat) (k0 : D120 → Option R) (v : D120) : Option R :=
  bif ((decide ((0 : Int) ≤ v.2.2.2.1)) && (decide (v.2.2.2.1 < (v.2.1.length : Int)))) then
  let t12 := (v.2.1.getD (Int.toNat v.2.2.2.1) ((ByteArray.empty, ((ByteArray.empty, []), ([], false))), []))
  Option.bind (f550F k (v.1, t12.1.1)) fun y13 =>
  bif (decide (y13 < (0 : Int))) then
    bif (decide ((v.2.2.2.2.1.length + [(t12.1.1, (1 : Int))].length) * 24 ≤ 140737488355328) && decide (v.2.2.2.2.1.length + [(t12.1.1, (1 : Int))].length ≤ 9223372036854775807)) then
    k0 (v.1, v.2.1, v.2.2.1, v.2.2.2.1, (v.2.2.2.2.1 ++ [(t12.1.1, (1 : Int))]), ())
    else none
  else
  k0 (v.1, v.2.1, v.2.2.1, v.2.2.2.1, v.2.2.2.2.1, ())
  else none
noncomputable def f529p2S (k : Nat) : Sum1 := partSum f529p2H f529p2N (fun R K v => f529p2 k (fun w => K .normal (encSt f529p2X0 w)) v)
theorem f529p2E (k : Nat) (R : Type) (K : X → St → Option R) (v : f529p2H.Den) : evS tab (f529T k) Tryz.f29.ntmps [] f529p2C 8102 (partK f529p2M K) (encSt f529p2H v) = f529p2 k (fun w => K .normal (encSt f529p2X0 w)) v := by kernel_rfl
theorem f529p2I (k : Nat) : SumsOk P Tryz.f29.ntmps [] f529p2C 8102 := SumsOk.nil
theorem f529p2O (k : Nat) : SumOk P Tryz.f29.ntmps f529p2C (f529p2S k) := sum_part tabOk (f529TS k) mixed (f529p2I k) (f529p2E k)
noncomputable def f529l3H : Shape := ⟨[(0, .one (.ro Y6)), (10, .one (.own 0)), (89, .one (.ro Y6)), (90, .one (.int .i64)), (91, .one (.int .i64))], [(0, .row 94 Y11 .plain)], 1, []⟩
noncomputable def f529l3X0 : Shape := ⟨[(10, .one (.own 0))], [(0, .row 94 Y11 .plain)], 1, []⟩
noncomputable def f529l3N : NoteR := ⟨[0, 10, 89, 90, 91], [], []⟩
noncomputable def f529l3M : NoteR := ⟨[4, 5, 10], [], []⟩
noncomputable def f529l3C : Code := firstC (codesAt 506 (codeOf Tryz.f29) 1)
noncomputable def f529l3s {R : Type} (k : Nat) (rec : D120 → Option R) (k0 : D121 → Option R) (v : D120) : Option R :=
  bif (decide (v.2.2.2.1 < v.2.2.1)) then
    f529p2 k
      (fun (w14 : D120) =>
        rec (w14.1, w14.2.1, w14.2.2.1, (IntKind.i64.wrap (w14.2.2.2.1 + (1 : Int))), w14.2.2.2.2.1, ()))
      (v.1, v.2.1, v.2.2.1, v.2.2.2.1, v.2.2.2.2.1, ())
  else
  k0 (v.2.2.2.2.1, ())
noncomputable def f529l3 {R : Type} (k : Nat) (k0 : D121 → Option R) (v : D120) : Option R := iterS (fun rec v => f529l3s k rec k0 v) k v
noncomputable def f529l3S (k : Nat) : Sum1 := loopSum f529l3H f529l3N k (fun R rec K v => f529l3s k rec (fun w => K (.exit 3) (encSt f529l3X0 w)) v)
theorem f529l3E (k : Nat) (R : Type) (rec : St → Option R) (K : X → St → Option R) (v : f529l3H.Den) : evS tab (f529T k) Tryz.f29.ntmps [(8102, f529p2S k)] (bodyOf f529l3C) 1012 (bodyK f529l3N f529l3M rec K) (encSt f529l3H v) = f529l3s k (fun v => rec (encSt f529l3H v)) (fun w => K (.exit 3) (encSt f529l3X0 w)) v := by kernel_rfl
theorem f529l3I (k : Nat) : SumsOk P Tryz.f29.ntmps [(8102, f529p2S k)] (bodyOf f529l3C) 1012 := (SumsOk.nil).cons (c := f529p2C) (by kernel_rfl) (f529p2O k)
theorem f529l3O (k : Nat) : SumOk P Tryz.f29.ntmps f529l3C (f529l3S k) := (show f529l3C = .loop (bodyOf f529l3C) by kernel_rfl) ▸ sum_loop tabOk (f529TS k) mixed (f529l3I k) (f529l3E k)
noncomputable def f529F (k : Nat) (x : (List D34) × (List D34)) : Option (D122) :=
  Option.bind (f515F k x.1) fun y1 =>
  bif (y1.2 != (0 : Int)) then
    some ([], y1.2)
  else
  Option.bind (f515F k x.2) fun y2 =>
  bif (y2.2 != (0 : Int)) then
    some ([], y2.2)
  else
  f529l1 k
    (fun (w11 : D119) =>
      f529l3 k
        (fun (w15 : D121) =>
          some (w15.1, (0 : Int)))
        (w11.1, w11.2.1, (w11.2.1.length : Int), (0 : Int), w11.2.2.1, ()))
    (x.1, x.2, x.1, (x.1.length : Int), (0 : Int), [], ())
noncomputable def f529L (k : Nat) : Sums := [(4006, f529p0S k), (250, f529l1S k), (8102, f529p2S k), (506, f529l3S k)]
theorem f529LS (k : Nat) : SumsOk P Tryz.f29.ntmps (f529L k) (codeOf Tryz.f29) 1 := ((((SumsOk.nil).cons (c := f529l3C) (by kernel_rfl) (f529l3O k)).cons (c := f529p2C) (by kernel_rfl) (f529p2O k)).cons (c := f529l1C) (by kernel_rfl) (f529l1O k)).cons (c := f529p0C) (by kernel_rfl) (f529p0O k)
theorem f529E (k : Nat) (x : (List D34) × (List D34)) : evFS tab (f529T k) (f529L k) Tryz.f29.ntmps Tryz.f29.results.toList (codeOf Tryz.f29) (argsV [.dat (.slice Y6), .dat (.slice Y6)] x) [.own 94 Y11, .dat (.int .i64)] none = f529F k x := by kernel_rfl
theorem f529Ok (k : Nat) (x : (List D34) × (List D34)) (y : D122) (h : f529F k x = some y) : FnOk P 29 [.dat (.slice Y6), .dat (.slice Y6)] [.own 94 Y11, .dat (.int .i64)] x y :=
  evFS_sound tabOk (f529TS k) mixed Tryz.func29 (c := codeOf Tryz.f29) (by kernel_rfl) (f529LS k) ((f529E k x).trans h)
noncomputable def f529A (k : Nat) := entFnB [.dat (.slice Y6), .dat (.slice Y6)] [.own 94 Y11, .dat (.int .i64)] (f529F k)
theorem f529Ao (k : Nat) : EntOk P 29 (f529A k) := entFnB_ok (f529Ok k)
/-! ## midrange/midrangebase.SameRecords -/
noncomputable def f575T (k : Nat) : Table := []
theorem f575TS (k : Nat) : Sound P (f575T k) := Sound.nil
theorem f575B : HasBody P 75 := ⟨Tryz.f75, Tryz.func75, by kernel_rfl, by kernel_rfl⟩
noncomputable def f575l0H : Shape := ⟨[(0, .one (.ro (.pair .bool .str))), (1, .one (.ro (.pair .bool .str))), (5, .one (.int .i64))], [], 0, []⟩
noncomputable def f575l0X0 : Shape := ⟨[(4, .one (.bool))], [], 0, []⟩
noncomputable def f575l0X1 : Shape := ⟨[], [], 0, []⟩
noncomputable def f575l0N : NoteR := ⟨[0, 1, 5], [], []⟩
noncomputable def f575l0M : NoteR := ⟨[4], [], []⟩
noncomputable def f575l0C : Code := firstC (codesAt 58 (codeOf Tryz.f75) 1)
noncomputable def f575l0s {R : Type} (k : Nat) (rec : D123 → Option R) (k0 : Bool × Unit → Option R) (k1 : Unit → Option R) (v : D123) : Option R :=
  bif (decide (v.2.2.1 < (v.1.length : Int))) then
    bif ((decide ((0 : Int) ≤ v.2.2.1)) && (decide (v.2.2.1 < (v.1.length : Int)))) then
    bif ((decide ((0 : Int) ≤ v.2.2.1)) && (decide (v.2.2.1 < (v.2.1.length : Int)))) then
    let t1 := (!(((v.1.getD (Int.toNat v.2.2.1) (false, ByteArray.empty)).1 == (v.2.1.getD (Int.toNat v.2.2.1) (false, ByteArray.empty)).1) && ((strEq (v.1.getD (Int.toNat v.2.2.1) (false, ByteArray.empty)).2 (v.2.1.getD (Int.toNat v.2.2.1) (false, ByteArray.empty)).2) && true)))
    bif t1 then
      k0 (false, ())
    else
    rec (v.1, v.2.1, (IntKind.i64.wrap (v.2.2.1 + (1 : Int))), ())
    else none
    else none
  else
  k1 (())
noncomputable def f575l0 {R : Type} (k : Nat) (k0 : Bool × Unit → Option R) (k1 : Unit → Option R) (v : D123) : Option R := iterS (fun rec v => f575l0s k rec k0 k1 v) k v
noncomputable def f575l0S (k : Nat) : Sum1 := loopSum f575l0H f575l0N k (fun R rec K v => f575l0s k rec (fun w => K .ret (encSt f575l0X0 w)) (fun w => K (.exit 0) (encSt f575l0X1 w)) v)
theorem f575l0E (k : Nat) (R : Type) (rec : St → Option R) (K : X → St → Option R) (v : f575l0H.Den) : evS tab (f575T k) Tryz.f75.ntmps [] (bodyOf f575l0C) 116 (bodyK f575l0N f575l0M rec K) (encSt f575l0H v) = f575l0s k (fun v => rec (encSt f575l0H v)) (fun w => K .ret (encSt f575l0X0 w)) (fun w => K (.exit 0) (encSt f575l0X1 w)) v := by kernel_rfl
theorem f575l0I (k : Nat) : SumsOk P Tryz.f75.ntmps [] (bodyOf f575l0C) 116 := SumsOk.nil
theorem f575l0O (k : Nat) : SumOk P Tryz.f75.ntmps f575l0C (f575l0S k) := (show f575l0C = .loop (bodyOf f575l0C) by kernel_rfl) ▸ sum_loop tabOk (f575TS k) mixed (f575l0I k) (f575l0E k)
noncomputable def f575F (k : Nat) (x : D117) : Option (Bool) :=
  bif ((x.1.length : Int) != (x.2.length : Int)) then
    some false
  else
  f575l0 k
    (fun (w2 : Bool × Unit) =>
      some w2.1)
    (fun (w3 : Unit) =>
      some true)
    (x.1, x.2, (0 : Int), ())
noncomputable def f575L (k : Nat) : Sums := [(58, f575l0S k)]
theorem f575LS (k : Nat) : SumsOk P Tryz.f75.ntmps (f575L k) (codeOf Tryz.f75) 1 := (SumsOk.nil).cons (c := f575l0C) (by kernel_rfl) (f575l0O k)
theorem f575E (k : Nat) (x : D117) : evFS tab (f575T k) (f575L k) Tryz.f75.ntmps Tryz.f75.results.toList (codeOf Tryz.f75) (argsV [.dat (.slice (.pair .bool .str)), .dat (.slice (.pair .bool .str))] x) [.dat .bool] none = f575F k x := by kernel_rfl
theorem f575Ok (k : Nat) (x : D117) (y : Bool) (h : f575F k x = some y) : FnOk P 75 [.dat (.slice (.pair .bool .str)), .dat (.slice (.pair .bool .str))] [.dat .bool] x y :=
  evFS_sound tabOk (f575TS k) mixed Tryz.func75 (c := codeOf Tryz.f75) (by kernel_rfl) (f575LS k) ((f575E k x).trans h)
noncomputable def f575A (k : Nat) := entFnB [.dat (.slice (.pair .bool .str)), .dat (.slice (.pair .bool .str))] [.dat .bool] (f575F k)
theorem f575Ao (k : Nat) : EntOk P 75 (f575A k) := entFnB_ok (f575Ok k)
/-! ## midrange/midrangeref34.Differences -/
noncomputable def f530T (k : Nat) : Table := [(28, f528A k), (45, f545A k), (63, f563A k), (75, f575A k)]
theorem f530TS (k : Nat) : Sound P (f530T k) := ((((Sound.nil).consE f575B (f575Ao k)).consE f563B (f563Ao k)).consE f545B (f545Ao k)).consE f528B (f528Ao k)
theorem f530B : HasBody P 30 := ⟨Tryz.f30, Tryz.func30, by kernel_rfl, by kernel_rfl⟩
noncomputable def f530p0H : Shape := ⟨[(0, .one (.ro Y6)), (1, .one (.ro Y6)), (8, .one (.own 0)), (9, .one (.int .i64)), (10, .one (.int .i64)), (11, .one (.ptr 1 0))], [(0, .row 94 Y11 .plain), (1, .var 94 [.str, .int .i64])], 2, []⟩
noncomputable def f530p0X0 : Shape := ⟨[(0, .one (.ro Y6)), (1, .one (.ro Y6)), (8, .one (.own 0)), (9, .one (.int .i64)), (11, .one (.ptr 1 0))], [(0, .row 94 Y11 .plain), (1, .var 94 [.str, .int .i64])], 2, []⟩
noncomputable def f530p0X1 : Shape := ⟨[(0, .one (.ro Y6)), (1, .one (.ro Y6)), (8, .one (.own 0)), (9, .one (.int .i64)), (11, .one (.ptr 1 0))], [(0, .row 94 Y11 .plain), (1, .var 94 [.str, .int .i64])], 2, []⟩
noncomputable def f530p0N : NoteR := ⟨[0, 1, 8, 9, 10, 11], [], []⟩
noncomputable def f530p0M : NoteR := ⟨[0, 1, 4, 5, 8, 9, 11], [], []⟩
noncomputable def f530p0C : Code := firstC (codesAt 32038 (codeOf Tryz.f30) 1)
noncomputable def f530p0 {R : Type} (k : Nat) (k0 : D126 → Option R) (k1 : D126 → Option R) (v : D127) : Option R :=
  bif (v.2.2.2.1 == (-1 : Int)) then
    k0 (v.1, v.2.1, v.2.2.1, v.2.2.2.2.1, v.2.2.2.2.2.1, (0 : Int), ())
  else
  bif ((decide ((0 : Int) ≤ v.2.2.1)) && (decide (v.2.2.1 < (v.1.length : Int)))) then
  let t6 := (v.1.getD (Int.toNat v.2.2.1) ((ByteArray.empty, ((ByteArray.empty, []), ([], false))), []))
  Option.bind (f528F k (t6.1.1, ((t6.1.2.1.1, t6.1.2.1.2), (t6.1.2.2.1, t6.1.2.2.2)))) fun y7 =>
  bif ((decide ((0 : Int) ≤ v.2.2.2.1)) && (decide (v.2.2.2.1 < (v.2.1.length : Int)))) then
  let t8 := (v.2.1.getD (Int.toNat v.2.2.2.1) ((ByteArray.empty, ((ByteArray.empty, []), ([], false))), []))
  Option.bind (f528F k (t8.1.1, ((t8.1.2.1.1, t8.1.2.1.2), (t8.1.2.2.1, t8.1.2.2.2)))) fun y9 =>
  bif (y7 != y9) then
    k0 (v.1, v.2.1, v.2.2.1, v.2.2.2.2.1, v.2.2.2.2.2.1, (2 : Int), ())
  else
  bif ((decide ((0 : Int) ≤ v.2.2.1)) && (decide (v.2.2.1 < (v.1.length : Int)))) then
  let t10 := (v.1.getD (Int.toNat v.2.2.1) ((ByteArray.empty, ((ByteArray.empty, []), ([], false))), []))
  bif ((decide ((0 : Int) ≤ v.2.2.2.1)) && (decide (v.2.2.2.1 < (v.2.1.length : Int)))) then
  let t11 := (v.2.1.getD (Int.toNat v.2.2.2.1) ((ByteArray.empty, ((ByteArray.empty, []), ([], false))), []))
  Option.bind (f575F k (t10.2, t11.2)) fun y12 =>
  bif (!y12) then
    k0 (v.1, v.2.1, v.2.2.1, v.2.2.2.2.1, v.2.2.2.2.2.1, (3 : Int), ())
  else
  k1 (v.1, v.2.1, v.2.2.1, v.2.2.2.2.1, v.2.2.2.2.2.1, v.2.2.2.2.2.2.1, ())
  else none
  else none
  else none
  else none
noncomputable def f530p0S (k : Nat) : Sum1 := partSum f530p0H f530p0N (fun R K v => f530p0 k (fun w => K .normal (encSt f530p0X0 w)) (fun w => K (.exit 1) (encSt f530p0X1 w)) v)
theorem f530p0E (k : Nat) (R : Type) (K : X → St → Option R) (v : f530p0H.Den) : evS tab (f530T k) Tryz.f30.ntmps [] f530p0C 32038 (partK f530p0M K) (encSt f530p0H v) = f530p0 k (fun w => K .normal (encSt f530p0X0 w)) (fun w => K (.exit 1) (encSt f530p0X1 w)) v := by kernel_rfl
theorem f530p0I (k : Nat) : SumsOk P Tryz.f30.ntmps [] f530p0C 32038 := SumsOk.nil
theorem f530p0O (k : Nat) : SumOk P Tryz.f30.ntmps f530p0C (f530p0S k) := sum_part tabOk (f530TS k) mixed (f530p0I k) (f530p0E k)
noncomputable def f530p1H : Shape := ⟨[(0, .one (.ro Y6)), (1, .one (.ro Y6)), (8, .one (.own 0)), (9, .one (.int .i64))], [(0, .row 94 Y11 .plain)], 1, []⟩
noncomputable def f530p1X0 : Shape := ⟨[(0, .one (.ro Y6)), (1, .one (.ro Y6)), (8, .one (.own 0)), (9, .one (.int .i64))], [(0, .row 94 Y11 .plain)], 1, []⟩
noncomputable def f530p1N : NoteR := ⟨[0, 1, 8, 9], [], []⟩
noncomputable def f530p1M : NoteR := ⟨[0, 1, 4, 5, 8, 9], [], []⟩
noncomputable def f530p1C : Code := firstC (codesAt 2002 (codeOf Tryz.f30) 1)
noncomputable def f530p1 {R : Type} (k : Nat) (k0 : D125 → Option R) (v : D125) : Option R :=
  bif ((decide ((0 : Int) ≤ v.2.2.1)) && (decide (v.2.2.1 < (v.1.length : Int)))) then
  let t3 := (v.1.getD (Int.toNat v.2.2.1) ((ByteArray.empty, ((ByteArray.empty, []), ([], false))), []))
  Option.bind (f545F k (v.2.1, t3.1.1)) fun y4 =>
  bif ((decide ((0 : Int) ≤ v.2.2.1)) && (decide (v.2.2.1 < (v.1.length : Int)))) then
  let t5 := (v.1.getD (Int.toNat v.2.2.1) ((ByteArray.empty, ((ByteArray.empty, []), ([], false))), []))
  f530p0 k
    (fun (w13 : D126) =>
      bif (decide ((w13.2.2.2.1.length + [(w13.2.2.2.2.1, w13.2.2.2.2.2.1)].length) * 24 ≤ 140737488355328) && decide (w13.2.2.2.1.length + [(w13.2.2.2.2.1, w13.2.2.2.2.2.1)].length ≤ 9223372036854775807)) then
      k0 (w13.1, w13.2.1, w13.2.2.1, (w13.2.2.2.1 ++ [(w13.2.2.2.2.1, w13.2.2.2.2.2.1)]), ())
      else none)
    (fun (w14 : D126) =>
      k0 (w14.1, w14.2.1, w14.2.2.1, w14.2.2.2.1, ()))
    (v.1, v.2.1, v.2.2.1, y4, v.2.2.2.1, t5.1.1, (0 : Int), ())
  else none
  else none
noncomputable def f530p1S (k : Nat) : Sum1 := partSum f530p1H f530p1N (fun R K v => f530p1 k (fun w => K .normal (encSt f530p1X0 w)) v)
theorem f530p1E (k : Nat) (R : Type) (K : X → St → Option R) (v : f530p1H.Den) : evS tab (f530T k) Tryz.f30.ntmps [(32038, f530p0S k)] f530p1C 2002 (partK f530p1M K) (encSt f530p1H v) = f530p1 k (fun w => K .normal (encSt f530p1X0 w)) v := by kernel_rfl
theorem f530p1I (k : Nat) : SumsOk P Tryz.f30.ntmps [(32038, f530p0S k)] f530p1C 2002 := (SumsOk.nil).cons (c := f530p0C) (by kernel_rfl) (f530p0O k)
theorem f530p1O (k : Nat) : SumOk P Tryz.f30.ntmps f530p1C (f530p1S k) := sum_part tabOk (f530TS k) mixed (f530p1I k) (f530p1E k)
noncomputable def f530l2H : Shape := ⟨[(0, .one (.ro Y6)), (1, .one (.ro Y6)), (8, .one (.own 0)), (9, .one (.int .i64))], [(0, .row 94 Y11 .plain)], 1, []⟩
noncomputable def f530l2X0 : Shape := ⟨[(0, .one (.ro Y6)), (1, .one (.ro Y6)), (8, .one (.own 0))], [(0, .row 94 Y11 .plain)], 1, []⟩
noncomputable def f530l2N : NoteR := ⟨[0, 1, 8, 9], [(8, 94, Y11)], []⟩
noncomputable def f530l2M : NoteR := ⟨[0, 1, 4, 5, 8], [], []⟩
noncomputable def f530l2C : Code := firstC (codesAt 250 (codeOf Tryz.f30) 1)
noncomputable def f530l2s {R : Type} (k : Nat) (rec : D125 → Option R) (k0 : D119 → Option R) (v : D125) : Option R :=
  bif (decide (v.2.2.1 < (v.1.length : Int))) then
    f530p1 k
      (fun (w15 : D125) =>
        rec (w15.1, w15.2.1, (IntKind.i64.wrap (w15.2.2.1 + (1 : Int))), w15.2.2.2.1, ()))
      (v.1, v.2.1, v.2.2.1, v.2.2.2.1, ())
  else
  k0 (v.1, v.2.1, v.2.2.2.1, ())
noncomputable def f530l2 {R : Type} (k : Nat) (k0 : D119 → Option R) (v : D125) : Option R := iterS (fun rec v => f530l2s k rec k0 v) k v
noncomputable def f530l2S (k : Nat) : Sum1 := loopSum f530l2H f530l2N k (fun R rec K v => f530l2s k rec (fun w => K (.exit 0) (encSt f530l2X0 w)) v)
theorem f530l2E (k : Nat) (R : Type) (rec : St → Option R) (K : X → St → Option R) (v : f530l2H.Den) : evS tab (f530T k) Tryz.f30.ntmps [(32038, f530p0S k), (2002, f530p1S k)] (bodyOf f530l2C) 500 (bodyK f530l2N f530l2M rec K) (encSt f530l2H v) = f530l2s k (fun v => rec (encSt f530l2H v)) (fun w => K (.exit 0) (encSt f530l2X0 w)) v := by kernel_rfl
theorem f530l2I (k : Nat) : SumsOk P Tryz.f30.ntmps [(32038, f530p0S k), (2002, f530p1S k)] (bodyOf f530l2C) 500 := ((SumsOk.nil).cons (c := f530p1C) (by kernel_rfl) (f530p1O k)).cons (c := f530p0C) (by kernel_rfl) (f530p0O k)
theorem f530l2O (k : Nat) : SumOk P Tryz.f30.ntmps f530l2C (f530l2S k) := (show f530l2C = .loop (bodyOf f530l2C) by kernel_rfl) ▸ sum_loop tabOk (f530TS k) mixed (f530l2I k) (f530l2E k)
noncomputable def f530p3H : Shape := ⟨[(0, .one (.ro Y6)), (1, .one (.ro Y6)), (8, .one (.own 0)), (12, .one (.int .i64))], [(0, .row 94 Y11 .plain)], 1, []⟩
noncomputable def f530p3X0 : Shape := ⟨[(0, .one (.ro Y6)), (1, .one (.ro Y6)), (8, .one (.own 0)), (12, .one (.int .i64))], [(0, .row 94 Y11 .plain)], 1, []⟩
noncomputable def f530p3N : NoteR := ⟨[0, 1, 8, 12], [], []⟩
noncomputable def f530p3M : NoteR := ⟨[0, 1, 4, 5, 8, 12], [], []⟩
noncomputable def f530p3C : Code := firstC (codesAt 4050 (codeOf Tryz.f30) 1)
noncomputable def f530p3 {R : Type} (k : Nat) (k0 : D125 → Option R) (v : D125) : Option R :=
  bif ((decide ((0 : Int) ≤ v.2.2.1)) && (decide (v.2.2.1 < (v.2.1.length : Int)))) then
  let t17 := (v.2.1.getD (Int.toNat v.2.2.1) ((ByteArray.empty, ((ByteArray.empty, []), ([], false))), []))
  Option.bind (f545F k (v.1, t17.1.1)) fun y18 =>
  bif (y18 == (-1 : Int)) then
    bif ((decide ((0 : Int) ≤ v.2.2.1)) && (decide (v.2.2.1 < (v.2.1.length : Int)))) then
    let t19 := (v.2.1.getD (Int.toNat v.2.2.1) ((ByteArray.empty, ((ByteArray.empty, []), ([], false))), []))
    bif (decide ((v.2.2.2.1.length + [(t19.1.1, (1 : Int))].length) * 24 ≤ 140737488355328) && decide (v.2.2.2.1.length + [(t19.1.1, (1 : Int))].length ≤ 9223372036854775807)) then
    k0 (v.1, v.2.1, v.2.2.1, (v.2.2.2.1 ++ [(t19.1.1, (1 : Int))]), ())
    else none
    else none
  else
  k0 (v.1, v.2.1, v.2.2.1, v.2.2.2.1, ())
  else none
noncomputable def f530p3S (k : Nat) : Sum1 := partSum f530p3H f530p3N (fun R K v => f530p3 k (fun w => K .normal (encSt f530p3X0 w)) v)
theorem f530p3E (k : Nat) (R : Type) (K : X → St → Option R) (v : f530p3H.Den) : evS tab (f530T k) Tryz.f30.ntmps [] f530p3C 4050 (partK f530p3M K) (encSt f530p3H v) = f530p3 k (fun w => K .normal (encSt f530p3X0 w)) v := by kernel_rfl
theorem f530p3I (k : Nat) : SumsOk P Tryz.f30.ntmps [] f530p3C 4050 := SumsOk.nil
theorem f530p3O (k : Nat) : SumOk P Tryz.f30.ntmps f530p3C (f530p3S k) := sum_part tabOk (f530TS k) mixed (f530p3I k) (f530p3E k)
noncomputable def f530l4H : Shape := ⟨[(0, .one (.ro Y6)), (1, .one (.ro Y6)), (8, .one (.own 0)), (12, .one (.int .i64))], [(0, .row 94 Y11 .plain)], 1, []⟩
noncomputable def f530l4X0 : Shape := ⟨[(8, .one (.own 0))], [(0, .row 94 Y11 .plain)], 1, []⟩
noncomputable def f530l4N : NoteR := ⟨[0, 1, 8, 12], [], []⟩
noncomputable def f530l4M : NoteR := ⟨[4, 5, 8], [], []⟩
noncomputable def f530l4C : Code := firstC (codesAt 506 (codeOf Tryz.f30) 1)
noncomputable def f530l4s {R : Type} (k : Nat) (rec : D125 → Option R) (k0 : D121 → Option R) (v : D125) : Option R :=
  bif (decide (v.2.2.1 < (v.2.1.length : Int))) then
    f530p3 k
      (fun (w20 : D125) =>
        rec (w20.1, w20.2.1, (IntKind.i64.wrap (w20.2.2.1 + (1 : Int))), w20.2.2.2.1, ()))
      (v.1, v.2.1, v.2.2.1, v.2.2.2.1, ())
  else
  k0 (v.2.2.2.1, ())
noncomputable def f530l4 {R : Type} (k : Nat) (k0 : D121 → Option R) (v : D125) : Option R := iterS (fun rec v => f530l4s k rec k0 v) k v
noncomputable def f530l4S (k : Nat) : Sum1 := loopSum f530l4H f530l4N k (fun R rec K v => f530l4s k rec (fun w => K (.exit 3) (encSt f530l4X0 w)) v)
theorem f530l4E (k : Nat) (R : Type) (rec : St → Option R) (K : X → St → Option R) (v : f530l4H.Den) : evS tab (f530T k) Tryz.f30.ntmps [(4050, f530p3S k)] (bodyOf f530l4C) 1012 (bodyK f530l4N f530l4M rec K) (encSt f530l4H v) = f530l4s k (fun v => rec (encSt f530l4H v)) (fun w => K (.exit 3) (encSt f530l4X0 w)) v := by kernel_rfl
theorem f530l4I (k : Nat) : SumsOk P Tryz.f30.ntmps [(4050, f530p3S k)] (bodyOf f530l4C) 1012 := (SumsOk.nil).cons (c := f530p3C) (by kernel_rfl) (f530p3O k)
theorem f530l4O (k : Nat) : SumOk P Tryz.f30.ntmps f530l4C (f530l4S k) := (show f530l4C = .loop (bodyOf f530l4C) by kernel_rfl) ▸ sum_loop tabOk (f530TS k) mixed (f530l4I k) (f530l4E k)
noncomputable def f530F (k : Nat) (x : (List D34) × (List D34)) : Option (D122) :=
  Option.bind (f563F k x.1) fun y1 =>
  bif (y1 != (0 : Int)) then
    some ([], y1)
  else
  Option.bind (f563F k x.2) fun y2 =>
  bif (y2 != (0 : Int)) then
    some ([], y2)
  else
  f530l2 k
    (fun (w16 : D119) =>
      f530l4 k
        (fun (w21 : D121) =>
          some (w21.1, (0 : Int)))
        (w16.1, w16.2.1, (0 : Int), w16.2.2.1, ()))
    (x.1, x.2, (0 : Int), [], ())
noncomputable def f530L (k : Nat) : Sums := [(32038, f530p0S k), (2002, f530p1S k), (250, f530l2S k), (4050, f530p3S k), (506, f530l4S k)]
theorem f530LS (k : Nat) : SumsOk P Tryz.f30.ntmps (f530L k) (codeOf Tryz.f30) 1 := (((((SumsOk.nil).cons (c := f530l4C) (by kernel_rfl) (f530l4O k)).cons (c := f530p3C) (by kernel_rfl) (f530p3O k)).cons (c := f530l2C) (by kernel_rfl) (f530l2O k)).cons (c := f530p1C) (by kernel_rfl) (f530p1O k)).cons (c := f530p0C) (by kernel_rfl) (f530p0O k)
theorem f530E (k : Nat) (x : (List D34) × (List D34)) : evFS tab (f530T k) (f530L k) Tryz.f30.ntmps Tryz.f30.results.toList (codeOf Tryz.f30) (argsV [.dat (.slice Y6), .dat (.slice Y6)] x) [.own 94 Y11, .dat (.int .i64)] none = f530F k x := by kernel_rfl
theorem f530Ok (k : Nat) (x : (List D34) × (List D34)) (y : D122) (h : f530F k x = some y) : FnOk P 30 [.dat (.slice Y6), .dat (.slice Y6)] [.own 94 Y11, .dat (.int .i64)] x y :=
  evFS_sound tabOk (f530TS k) mixed Tryz.func30 (c := codeOf Tryz.f30) (by kernel_rfl) (f530LS k) ((f530E k x).trans h)
noncomputable def f530A (k : Nat) := entFnB [.dat (.slice Y6), .dat (.slice Y6)] [.own 94 Y11, .dat (.int .i64)] (f530F k)
theorem f530Ao (k : Nat) : EntOk P 30 (f530A k) := entFnB_ok (f530Ok k)
/-! ## midrange/midrangeref34.SameDifferences -/
noncomputable def f531T (k : Nat) : Table := []
theorem f531TS (k : Nat) : Sound P (f531T k) := Sound.nil
theorem f531B : HasBody P 31 := ⟨Tryz.f31, Tryz.func31, by kernel_rfl, by kernel_rfl⟩
noncomputable def f531l0H : Shape := ⟨[(0, .one (.ro Y11)), (1, .one (.ro Y11)), (5, .one (.int .i64))], [], 0, []⟩
noncomputable def f531l0X0 : Shape := ⟨[(4, .one (.bool))], [], 0, []⟩
noncomputable def f531l0X1 : Shape := ⟨[], [], 0, []⟩
noncomputable def f531l0N : NoteR := ⟨[0, 1, 5], [], []⟩
noncomputable def f531l0M : NoteR := ⟨[4], [], []⟩
noncomputable def f531l0C : Code := firstC (codesAt 58 (codeOf Tryz.f31) 1)
noncomputable def f531l0s {R : Type} (k : Nat) (rec : D128 → Option R) (k0 : Bool × Unit → Option R) (k1 : Unit → Option R) (v : D128) : Option R :=
  bif (decide (v.2.2.1 < (v.1.length : Int))) then
    bif ((decide ((0 : Int) ≤ v.2.2.1)) && (decide (v.2.2.1 < (v.1.length : Int)))) then
    bif ((decide ((0 : Int) ≤ v.2.2.1)) && (decide (v.2.2.1 < (v.2.1.length : Int)))) then
    let t1 := (!((strEq (v.1.getD (Int.toNat v.2.2.1) (ByteArray.empty, (0 : Int))).1 (v.2.1.getD (Int.toNat v.2.2.1) (ByteArray.empty, (0 : Int))).1) && (((v.1.getD (Int.toNat v.2.2.1) (ByteArray.empty, (0 : Int))).2 == (v.2.1.getD (Int.toNat v.2.2.1) (ByteArray.empty, (0 : Int))).2) && true)))
    bif t1 then
      k0 (false, ())
    else
    rec (v.1, v.2.1, (IntKind.i64.wrap (v.2.2.1 + (1 : Int))), ())
    else none
    else none
  else
  k1 (())
noncomputable def f531l0 {R : Type} (k : Nat) (k0 : Bool × Unit → Option R) (k1 : Unit → Option R) (v : D128) : Option R := iterS (fun rec v => f531l0s k rec k0 k1 v) k v
noncomputable def f531l0S (k : Nat) : Sum1 := loopSum f531l0H f531l0N k (fun R rec K v => f531l0s k rec (fun w => K .ret (encSt f531l0X0 w)) (fun w => K (.exit 0) (encSt f531l0X1 w)) v)
theorem f531l0E (k : Nat) (R : Type) (rec : St → Option R) (K : X → St → Option R) (v : f531l0H.Den) : evS tab (f531T k) Tryz.f31.ntmps [] (bodyOf f531l0C) 116 (bodyK f531l0N f531l0M rec K) (encSt f531l0H v) = f531l0s k (fun v => rec (encSt f531l0H v)) (fun w => K .ret (encSt f531l0X0 w)) (fun w => K (.exit 0) (encSt f531l0X1 w)) v := by kernel_rfl
theorem f531l0I (k : Nat) : SumsOk P Tryz.f31.ntmps [] (bodyOf f531l0C) 116 := SumsOk.nil
theorem f531l0O (k : Nat) : SumOk P Tryz.f31.ntmps f531l0C (f531l0S k) := (show f531l0C = .loop (bodyOf f531l0C) by kernel_rfl) ▸ sum_loop tabOk (f531TS k) mixed (f531l0I k) (f531l0E k)
noncomputable def f531F (k : Nat) (x : D129) : Option (Bool) :=
  bif ((x.1.length : Int) != (x.2.length : Int)) then
    some false
  else
  f531l0 k
    (fun (w2 : Bool × Unit) =>
      some w2.1)
    (fun (w3 : Unit) =>
      some true)
    (x.1, x.2, (0 : Int), ())
noncomputable def f531L (k : Nat) : Sums := [(58, f531l0S k)]
theorem f531LS (k : Nat) : SumsOk P Tryz.f31.ntmps (f531L k) (codeOf Tryz.f31) 1 := (SumsOk.nil).cons (c := f531l0C) (by kernel_rfl) (f531l0O k)
theorem f531E (k : Nat) (x : D129) : evFS tab (f531T k) (f531L k) Tryz.f31.ntmps Tryz.f31.results.toList (codeOf Tryz.f31) (argsV [.dat (.slice Y11), .dat (.slice Y11)] x) [.dat .bool] none = f531F k x := by kernel_rfl
theorem f531Ok (k : Nat) (x : D129) (y : Bool) (h : f531F k x = some y) : FnOk P 31 [.dat (.slice Y11), .dat (.slice Y11)] [.dat .bool] x y :=
  evFS_sound tabOk (f531TS k) mixed Tryz.func31 (c := codeOf Tryz.f31) (by kernel_rfl) (f531LS k) ((f531E k x).trans h)
noncomputable def f531A (k : Nat) := entFnB [.dat (.slice Y11), .dat (.slice Y11)] [.dat .bool] (f531F k)
theorem f531Ao (k : Nat) : EntOk P 31 (f531A k) := entFnB_ok (f531Ok k)
/-! ## midrange/midrangelaw34.SaveDiffers -/
noncomputable def f506T (k : Nat) : Table := [(13, f513A k), (14, f514A k), (16, f516A k), (29, f529A k), (30, f530A k), (31, f531A k)]
theorem f506TS (k : Nat) : Sound P (f506T k) := ((((((Sound.nil).consE f531B (f531Ao k)).consE f530B (f530Ao k)).consE f529B (f529Ao k)).consE f516B (f516Ao k)).consE f514B (f514Ao k)).consE f513B (f513Ao k)
theorem f506B : HasBody P 6 := ⟨Tryz.f6, Tryz.func6, by kernel_rfl, by kernel_rfl⟩
noncomputable def f506F (k : Nat) (x : (List D34) × (List D34)) : Option (Bool) :=
  Option.bind (f513F k ()) fun y1 =>
  bif (!y1) then
    some false
  else
  Option.bind (f514F k x.1) fun y2 =>
  bif (!y2) then
    some true
  else
  Option.bind (f514F k x.2) fun y3 =>
  bif (!y3) then
    some true
  else
  Option.bind (f516F k x.1) fun y4 =>
  Option.bind (f516F k x.2) fun y5 =>
  Option.bind (f529F k (y4, y5)) fun y6 =>
  Option.bind (f530F k (x.1, x.2)) fun y7 =>
  bif (y6.2 == y7.2) then
    Option.bind (f531F k (y6.1, y7.1)) fun y8 =>
    some y8
  else
  some false
noncomputable def f506L (k : Nat) : Sums := []
theorem f506LS (k : Nat) : SumsOk P Tryz.f6.ntmps (f506L k) (codeOf Tryz.f6) 1 := SumsOk.nil
theorem f506E (k : Nat) (x : (List D34) × (List D34)) : evFS tab (f506T k) (f506L k) Tryz.f6.ntmps Tryz.f6.results.toList (codeOf Tryz.f6) (argsV [.dat (.slice Y6), .dat (.slice Y6)] x) [.dat .bool] none = f506F k x := by kernel_rfl
theorem f506Ok (k : Nat) (x : (List D34) × (List D34)) (y : Bool) (h : f506F k x = some y) : FnOk P 6 [.dat (.slice Y6), .dat (.slice Y6)] [.dat .bool] x y :=
  evFS_sound tabOk (f506TS k) mixed Tryz.func6 (c := codeOf Tryz.f6) (by kernel_rfl) (f506LS k) ((f506E k x).trans h)
noncomputable def f506A (k : Nat) := entFnB [.dat (.slice Y6), .dat (.slice Y6)] [.dat .bool] (f506F k)
theorem f506Ao (k : Nat) : EntOk P 6 (f506A k) := entFnB_ok (f506Ok k)
/-! ## midrange/midrangelaw34.fewNames -/
noncomputable def f520T (k : Nat) : Table := []
theorem f520TS (k : Nat) : Sound P (f520T k) := Sound.nil
theorem f520B : HasBody P 20 := ⟨Tryz.f20, Tryz.func20, by kernel_rfl, by kernel_rfl⟩
noncomputable def f520l0H : Shape := ⟨[(0, .one (.ro .str)), (3, .one (.int .i64))], [], 0, []⟩
noncomputable def f520l0X0 : Shape := ⟨[(2, .one (.bool))], [], 0, []⟩
noncomputable def f520l0X1 : Shape := ⟨[], [], 0, []⟩
noncomputable def f520l0N : NoteR := ⟨[0, 3], [], []⟩
noncomputable def f520l0M : NoteR := ⟨[2], [], []⟩
noncomputable def f520l0C : Code := firstC (codesAt 26 (codeOf Tryz.f20) 1)
noncomputable def f520l0s {R : Type} (k : Nat) (rec : D86 → Option R) (k0 : Bool × Unit → Option R) (k1 : Unit → Option R) (v : D86) : Option R :=
  bif (decide (v.2.1 < (v.1.length : Int))) then
    bif (decide (v.2.1 > (9 : Int))) then
      k0 (false, ())
    else
    bif ((decide ((0 : Int) ≤ v.2.1)) && (decide (v.2.1 < (v.1.length : Int)))) then
    let t1 := (decide (((v.1.getD (Int.toNat v.2.1) ByteArray.empty).size : Int) > (30 : Int)))
    bif t1 then
      k0 (false, ())
    else
    rec (v.1, (IntKind.i64.wrap (v.2.1 + (1 : Int))), ())
    else none
  else
  k1 (())
noncomputable def f520l0 {R : Type} (k : Nat) (k0 : Bool × Unit → Option R) (k1 : Unit → Option R) (v : D86) : Option R := iterS (fun rec v => f520l0s k rec k0 k1 v) k v
noncomputable def f520l0S (k : Nat) : Sum1 := loopSum f520l0H f520l0N k (fun R rec K v => f520l0s k rec (fun w => K .ret (encSt f520l0X0 w)) (fun w => K (.exit 0) (encSt f520l0X1 w)) v)
theorem f520l0E (k : Nat) (R : Type) (rec : St → Option R) (K : X → St → Option R) (v : f520l0H.Den) : evS tab (f520T k) Tryz.f20.ntmps [] (bodyOf f520l0C) 52 (bodyK f520l0N f520l0M rec K) (encSt f520l0H v) = f520l0s k (fun v => rec (encSt f520l0H v)) (fun w => K .ret (encSt f520l0X0 w)) (fun w => K (.exit 0) (encSt f520l0X1 w)) v := by kernel_rfl
theorem f520l0I (k : Nat) : SumsOk P Tryz.f20.ntmps [] (bodyOf f520l0C) 52 := SumsOk.nil
theorem f520l0O (k : Nat) : SumOk P Tryz.f20.ntmps f520l0C (f520l0S k) := (show f520l0C = .loop (bodyOf f520l0C) by kernel_rfl) ▸ sum_loop tabOk (f520TS k) mixed (f520l0I k) (f520l0E k)
noncomputable def f520F (k : Nat) (x : (List ByteArray)) : Option (Bool) :=
  f520l0 k
    (fun (w2 : Bool × Unit) =>
      some w2.1)
    (fun (w3 : Unit) =>
      some true)
    (x, (0 : Int), ())
noncomputable def f520L (k : Nat) : Sums := [(26, f520l0S k)]
theorem f520LS (k : Nat) : SumsOk P Tryz.f20.ntmps (f520L k) (codeOf Tryz.f20) 1 := (SumsOk.nil).cons (c := f520l0C) (by kernel_rfl) (f520l0O k)
theorem f520E (k : Nat) (x : (List ByteArray)) : evFS tab (f520T k) (f520L k) Tryz.f20.ntmps Tryz.f20.results.toList (codeOf Tryz.f20) (argsV [.dat (.slice .str)] x) [.dat .bool] none = f520F k x := by kernel_rfl
theorem f520Ok (k : Nat) (x : (List ByteArray)) (y : Bool) (h : f520F k x = some y) : FnOk P 20 [.dat (.slice .str)] [.dat .bool] x y :=
  evFS_sound tabOk (f520TS k) mixed Tryz.func20 (c := codeOf Tryz.f20) (by kernel_rfl) (f520LS k) ((f520E k x).trans h)
noncomputable def f520A (k : Nat) := entFnB [.dat (.slice .str)] [.dat .bool] (f520F k)
theorem f520Ao (k : Nat) : EntOk P 20 (f520A k) := entFnB_ok (f520Ok k)
/-! ## midrange/midrangebase.CopyStrings -/
noncomputable def f522T (k : Nat) : Table := []
theorem f522TS (k : Nat) : Sound P (f522T k) := Sound.nil
theorem f522B : HasBody P 22 := ⟨Tryz.f22, Tryz.func22, by kernel_rfl, by kernel_rfl⟩
noncomputable def f522F (k : Nat) (x : (List ByteArray)) : Option (List ByteArray) :=
  bif (decide ((([] : List ByteArray).length + x.length) * 16 ≤ 140737488355328) && decide (([] : List ByteArray).length + x.length ≤ 9223372036854775807)) then
  some ([] ++ x)
  else none
noncomputable def f522L (k : Nat) : Sums := []
theorem f522LS (k : Nat) : SumsOk P Tryz.f22.ntmps (f522L k) (codeOf Tryz.f22) 1 := SumsOk.nil
theorem f522E (k : Nat) (x : (List ByteArray)) : evFS tab (f522T k) (f522L k) Tryz.f22.ntmps Tryz.f22.results.toList (codeOf Tryz.f22) (argsV [.dat (.slice .str)] x) [.own 9 .str] none = f522F k x := by kernel_rfl
theorem f522Ok (k : Nat) (x : (List ByteArray)) (y : List ByteArray) (h : f522F k x = some y) : FnOk P 22 [.dat (.slice .str)] [.own 9 .str] x y :=
  evFS_sound tabOk (f522TS k) mixed Tryz.func22 (c := codeOf Tryz.f22) (by kernel_rfl) (f522LS k) ((f522E k x).trans h)
noncomputable def f522A (k : Nat) := entFnB [.dat (.slice .str)] [.own 9 .str] (f522F k)
theorem f522Ao (k : Nat) : EntOk P 22 (f522A k) := entFnB_ok (f522Ok k)
/-! ## midrange/midrangebase.Strings -/
noncomputable def f568T (k : Nat) : Table := []
theorem f568TS (k : Nat) : Sound P (f568T k) := Sound.nil
theorem f568B : HasBody P 68 := ⟨Tryz.f68, Tryz.func68, by kernel_rfl, by kernel_rfl⟩
noncomputable def f568l0H : Shape := ⟨[(0, .one (.ro .str)), (1, .one (.ro .str)), (5, .one (.int .i64))], [], 0, []⟩
noncomputable def f568l0X0 : Shape := ⟨[(4, .one (.bool))], [], 0, []⟩
noncomputable def f568l0X1 : Shape := ⟨[], [], 0, []⟩
noncomputable def f568l0N : NoteR := ⟨[0, 1, 5], [], []⟩
noncomputable def f568l0M : NoteR := ⟨[4], [], []⟩
noncomputable def f568l0C : Code := firstC (codesAt 58 (codeOf Tryz.f68) 1)
noncomputable def f568l0s {R : Type} (k : Nat) (rec : D130 → Option R) (k0 : Bool × Unit → Option R) (k1 : Unit → Option R) (v : D130) : Option R :=
  bif (decide (v.2.2.1 < (v.1.length : Int))) then
    bif ((decide ((0 : Int) ≤ v.2.2.1)) && (decide (v.2.2.1 < (v.1.length : Int)))) then
    bif ((decide ((0 : Int) ≤ v.2.2.1)) && (decide (v.2.2.1 < (v.2.1.length : Int)))) then
    let t1 := (!strEq (v.1.getD (Int.toNat v.2.2.1) ByteArray.empty) (v.2.1.getD (Int.toNat v.2.2.1) ByteArray.empty))
    bif t1 then
      k0 (false, ())
    else
    rec (v.1, v.2.1, (IntKind.i64.wrap (v.2.2.1 + (1 : Int))), ())
    else none
    else none
  else
  k1 (())
noncomputable def f568l0 {R : Type} (k : Nat) (k0 : Bool × Unit → Option R) (k1 : Unit → Option R) (v : D130) : Option R := iterS (fun rec v => f568l0s k rec k0 k1 v) k v
noncomputable def f568l0S (k : Nat) : Sum1 := loopSum f568l0H f568l0N k (fun R rec K v => f568l0s k rec (fun w => K .ret (encSt f568l0X0 w)) (fun w => K (.exit 0) (encSt f568l0X1 w)) v)
theorem f568l0E (k : Nat) (R : Type) (rec : St → Option R) (K : X → St → Option R) (v : f568l0H.Den) : evS tab (f568T k) Tryz.f68.ntmps [] (bodyOf f568l0C) 116 (bodyK f568l0N f568l0M rec K) (encSt f568l0H v) = f568l0s k (fun v => rec (encSt f568l0H v)) (fun w => K .ret (encSt f568l0X0 w)) (fun w => K (.exit 0) (encSt f568l0X1 w)) v := by kernel_rfl
theorem f568l0I (k : Nat) : SumsOk P Tryz.f68.ntmps [] (bodyOf f568l0C) 116 := SumsOk.nil
theorem f568l0O (k : Nat) : SumOk P Tryz.f68.ntmps f568l0C (f568l0S k) := (show f568l0C = .loop (bodyOf f568l0C) by kernel_rfl) ▸ sum_loop tabOk (f568TS k) mixed (f568l0I k) (f568l0E k)
noncomputable def f568F (k : Nat) (x : D131) : Option (Bool) :=
  bif ((x.1.length : Int) != (x.2.length : Int)) then
    some false
  else
  f568l0 k
    (fun (w2 : Bool × Unit) =>
      some w2.1)
    (fun (w3 : Unit) =>
      some true)
    (x.1, x.2, (0 : Int), ())
noncomputable def f568L (k : Nat) : Sums := [(58, f568l0S k)]
theorem f568LS (k : Nat) : SumsOk P Tryz.f68.ntmps (f568L k) (codeOf Tryz.f68) 1 := (SumsOk.nil).cons (c := f568l0C) (by kernel_rfl) (f568l0O k)
theorem f568E (k : Nat) (x : D131) : evFS tab (f568T k) (f568L k) Tryz.f68.ntmps Tryz.f68.results.toList (codeOf Tryz.f68) (argsV [.dat (.slice .str), .dat (.slice .str)] x) [.dat .bool] none = f568F k x := by kernel_rfl
theorem f568Ok (k : Nat) (x : D131) (y : Bool) (h : f568F k x = some y) : FnOk P 68 [.dat (.slice .str), .dat (.slice .str)] [.dat .bool] x y :=
  evFS_sound tabOk (f568TS k) mixed Tryz.func68 (c := codeOf Tryz.f68) (by kernel_rfl) (f568LS k) ((f568E k x).trans h)
noncomputable def f568A (k : Nat) := entFnB [.dat (.slice .str), .dat (.slice .str)] [.dat .bool] (f568F k)
theorem f568Ao (k : Nat) : EntOk P 68 (f568A k) := entFnB_ok (f568Ok k)
/-! ## midrange/midrangeref34.Same -/
noncomputable def f524T (k : Nat) : Table := [(68, f568A k)]
theorem f524TS (k : Nat) : Sound P (f524T k) := (Sound.nil).consE f568B (f568Ao k)
theorem f524B : HasBody P 24 := ⟨Tryz.f24, Tryz.func24, by kernel_rfl, by kernel_rfl⟩
noncomputable def f524l0H : Shape := ⟨[(0, .one (.ro Y8)), (1, .one (.ro Y8)), (5, .one (.int .i64))], [], 0, []⟩
noncomputable def f524l0X0 : Shape := ⟨[(4, .one (.bool))], [], 0, []⟩
noncomputable def f524l0X1 : Shape := ⟨[], [], 0, []⟩
noncomputable def f524l0N : NoteR := ⟨[0, 1, 5], [], []⟩
noncomputable def f524l0M : NoteR := ⟨[4], [], []⟩
noncomputable def f524l0C : Code := firstC (codesAt 58 (codeOf Tryz.f24) 1)
noncomputable def f524l0s {R : Type} (k : Nat) (rec : D132 → Option R) (k0 : Bool × Unit → Option R) (k1 : Unit → Option R) (v : D132) : Option R :=
  bif (decide (v.2.2.1 < (v.1.length : Int))) then
    bif ((decide ((0 : Int) ≤ v.2.2.1)) && (decide (v.2.2.1 < (v.1.length : Int)))) then
    bif ((decide ((0 : Int) ≤ v.2.2.1)) && (decide (v.2.2.1 < (v.2.1.length : Int)))) then
    let t1 := (!strEq (v.1.getD (Int.toNat v.2.2.1) (ByteArray.empty, [])).1 (v.2.1.getD (Int.toNat v.2.2.1) (ByteArray.empty, [])).1)
    bif t1 then
      k0 (false, ())
    else
    bif ((decide ((0 : Int) ≤ v.2.2.1)) && (decide (v.2.2.1 < (v.1.length : Int)))) then
    bif ((decide ((0 : Int) ≤ v.2.2.1)) && (decide (v.2.2.1 < (v.2.1.length : Int)))) then
    Option.bind (f568F k ((v.1.getD (Int.toNat v.2.2.1) (ByteArray.empty, [])).2, (v.2.1.getD (Int.toNat v.2.2.1) (ByteArray.empty, [])).2)) fun y2 =>
    bif (!y2) then
      k0 (false, ())
    else
    rec (v.1, v.2.1, (IntKind.i64.wrap (v.2.2.1 + (1 : Int))), ())
    else none
    else none
    else none
    else none
  else
  k1 (())
noncomputable def f524l0 {R : Type} (k : Nat) (k0 : Bool × Unit → Option R) (k1 : Unit → Option R) (v : D132) : Option R := iterS (fun rec v => f524l0s k rec k0 k1 v) k v
noncomputable def f524l0S (k : Nat) : Sum1 := loopSum f524l0H f524l0N k (fun R rec K v => f524l0s k rec (fun w => K .ret (encSt f524l0X0 w)) (fun w => K (.exit 0) (encSt f524l0X1 w)) v)
theorem f524l0E (k : Nat) (R : Type) (rec : St → Option R) (K : X → St → Option R) (v : f524l0H.Den) : evS tab (f524T k) Tryz.f24.ntmps [] (bodyOf f524l0C) 116 (bodyK f524l0N f524l0M rec K) (encSt f524l0H v) = f524l0s k (fun v => rec (encSt f524l0H v)) (fun w => K .ret (encSt f524l0X0 w)) (fun w => K (.exit 0) (encSt f524l0X1 w)) v := by kernel_rfl
theorem f524l0I (k : Nat) : SumsOk P Tryz.f24.ntmps [] (bodyOf f524l0C) 116 := SumsOk.nil
theorem f524l0O (k : Nat) : SumOk P Tryz.f24.ntmps f524l0C (f524l0S k) := (show f524l0C = .loop (bodyOf f524l0C) by kernel_rfl) ▸ sum_loop tabOk (f524TS k) mixed (f524l0I k) (f524l0E k)
noncomputable def f524F (k : Nat) (x : (List D56) × (List D56)) : Option (Bool) :=
  bif ((x.1.length : Int) != (x.2.length : Int)) then
    some false
  else
  f524l0 k
    (fun (w3 : Bool × Unit) =>
      some w3.1)
    (fun (w4 : Unit) =>
      some true)
    (x.1, x.2, (0 : Int), ())
noncomputable def f524L (k : Nat) : Sums := [(58, f524l0S k)]
theorem f524LS (k : Nat) : SumsOk P Tryz.f24.ntmps (f524L k) (codeOf Tryz.f24) 1 := (SumsOk.nil).cons (c := f524l0C) (by kernel_rfl) (f524l0O k)
theorem f524E (k : Nat) (x : (List D56) × (List D56)) : evFS tab (f524T k) (f524L k) Tryz.f24.ntmps Tryz.f24.results.toList (codeOf Tryz.f24) (argsV [.dat (.slice Y8), .dat (.slice Y8)] x) [.dat .bool] none = f524F k x := by kernel_rfl
theorem f524Ok (k : Nat) (x : (List D56) × (List D56)) (y : Bool) (h : f524F k x = some y) : FnOk P 24 [.dat (.slice Y8), .dat (.slice Y8)] [.dat .bool] x y :=
  evFS_sound tabOk (f524TS k) mixed Tryz.func24 (c := codeOf Tryz.f24) (by kernel_rfl) (f524LS k) ((f524E k x).trans h)
noncomputable def f524A (k : Nat) := entFnB [.dat (.slice Y8), .dat (.slice Y8)] [.dat .bool] (f524F k)
theorem f524Ao (k : Nat) : EntOk P 24 (f524A k) := entFnB_ok (f524Ok k)
/-! ## midrange/midrangelaw34.SaveVolumes -/
noncomputable def f504T (k : Nat) : Table := [(13, f513A k), (14, f514A k), (16, f516A k), (20, f520A k), (21, f521A k), (22, f522A k), (23, f523A k), (24, f524A k)]
theorem f504TS (k : Nat) : Sound P (f504T k) := ((((((((Sound.nil).consE f524B (f524Ao k)).consE f523B (f523Ao k)).consE f522B (f522Ao k)).consE f521B (f521Ao k)).consE f520B (f520Ao k)).consE f516B (f516Ao k)).consE f514B (f514Ao k)).consE f513B (f513Ao k)
theorem f504B : HasBody P 4 := ⟨Tryz.f4, Tryz.func4, by kernel_rfl, by kernel_rfl⟩
noncomputable def f504F (k : Nat) (x : D55) : Option (Bool) :=
  Option.bind (f513F k ()) fun y1 =>
  bif (!y1) then
    some false
  else
  Option.bind (f514F k x.1) fun y2 =>
  bif (!y2) then
    some true
  else
  Option.bind (f520F k x.2.1) fun y3 =>
  bif (!y3) then
    some true
  else
  Option.bind (f516F k x.1) fun y4 =>
  Option.bind (f522F k x.2.1) fun y5 =>
  Option.bind (f521F k (y4, y5, x.2.2)) fun y6 =>
  Option.bind (f523F k (x.1, x.2.1, x.2.2)) fun y7 =>
  bif (y6.2 == y7.2) then
    Option.bind (f524F k (y6.1, y7.1)) fun y8 =>
    some y8
  else
  some false
noncomputable def f504L (k : Nat) : Sums := []
theorem f504LS (k : Nat) : SumsOk P Tryz.f4.ntmps (f504L k) (codeOf Tryz.f4) 1 := SumsOk.nil
theorem f504E (k : Nat) (x : D55) : evFS tab (f504T k) (f504L k) Tryz.f4.ntmps Tryz.f4.results.toList (codeOf Tryz.f4) (argsV [.dat (.slice Y6), .dat (.slice .str), .dat (.int .i64)] x) [.dat .bool] none = f504F k x := by kernel_rfl
theorem f504Ok (k : Nat) (x : D55) (y : Bool) (h : f504F k x = some y) : FnOk P 4 [.dat (.slice Y6), .dat (.slice .str), .dat (.int .i64)] [.dat .bool] x y :=
  evFS_sound tabOk (f504TS k) mixed Tryz.func4 (c := codeOf Tryz.f4) (by kernel_rfl) (f504LS k) ((f504E k x).trans h)
noncomputable def f504A (k : Nat) := entFnB [.dat (.slice Y6), .dat (.slice .str), .dat (.int .i64)] [.dat .bool] (f504F k)
theorem f504Ao (k : Nat) : EntOk P 4 (f504A k) := entFnB_ok (f504Ok k)
end Go.Proofs.YtobgkcamonlnkaaGreatDoor
