/- What functions of the program compute: each as a plain Lean function, and that the code comes to it. Printed by gen.py. -/
import Derived.Test.YtobgkcamonlnkaaGreatDoorFbJ
import Derived.Test.YtobgkcamonlnkaaGreatDoorProg
import Derived.Test.YtobgkcamonlnkaaGreatDoorSJ
/-! Printed by gen.py: what functions compute. -/
set_option linter.unusedVariables false
set_option maxRecDepth 100000
namespace Go.Proofs.YtobgkcamonlnkaaGreatDoor
open Go.Ab
/-! ## midrange/save.read$1 -/
noncomputable def f620T (k : Nat) : Table := []
theorem f620TS (k : Nat) : Sound P (f620T k) := Sound.nil
theorem f620B : HasBody P 120 := ⟨Tryz.f120, Tryz.func120, by kernel_rfl, by kernel_rfl⟩
noncomputable def f620F (k : Nat) (x : D56) : Option (Bool) :=
  none
noncomputable def f620L (k : Nat) : Sums := []
theorem f620LS (k : Nat) : SumsOk P Tryz.f120.ntmps (f620L k) (codeOf Tryz.f120) 1 := SumsOk.nil
theorem f620E (k : Nat) (x : D56) : evFS tab (f620T k) (f620L k) Tryz.f120.ntmps Tryz.f120.results.toList (codeOf Tryz.f120) (argsV [.agg Y8] x) [.dat .bool] none = f620F k x := by kernel_rfl
theorem f620Ok (k : Nat) (x : D56) (y : Bool) (h : f620F k x = some y) : FnOk P 120 [.agg Y8] [.dat .bool] x y :=
  evFS_sound tabOk (f620TS k) mixed Tryz.func120 (c := codeOf Tryz.f120) (by kernel_rfl) (f620LS k) ((f620E k x).trans h)
noncomputable def f620A (k : Nat) := entFnB [.agg Y8] [.dat .bool] (f620F k)
theorem f620Ao (k : Nat) : EntOk P 120 (f620A k) := entFnB_ok (f620Ok k)
noncomputable def f667A (k : Nat) := entFnB [.dat .str, .dat .str] [.dat .str] (f667F k)
theorem f667Ao (k : Nat) : EntOk P 167 (f667A k) := entFnB_ok (f667Ok k)
/-! ## midrange/save.zeros -/
noncomputable def f648T (k : Nat) : Table := [(167, f667A k)]
theorem f648TS (k : Nat) : Sound P (f648T k) := (Sound.nil).consE f667B (f667Ao k)
theorem f648B : HasBody P 148 := ⟨Tryz.f148, Tryz.func148, by kernel_rfl, by kernel_rfl⟩
noncomputable def f648F (k : Nat) (x : ByteArray) : Option (Bool) :=
  Option.bind (f667F k (x, (⟨#[0]⟩ : ByteArray))) fun y1 =>
  some (strEq y1 ByteArray.empty)
noncomputable def f648L (k : Nat) : Sums := []
theorem f648LS (k : Nat) : SumsOk P Tryz.f148.ntmps (f648L k) (codeOf Tryz.f148) 1 := SumsOk.nil
theorem f648E (k : Nat) (x : ByteArray) : evFS tab (f648T k) (f648L k) Tryz.f148.ntmps Tryz.f148.results.toList (codeOf Tryz.f148) (argsV [.dat .str] x) [.dat .bool] none = f648F k x := by kernel_rfl
theorem f648Ok (k : Nat) (x : ByteArray) (y : Bool) (h : f648F k x = some y) : FnOk P 148 [.dat .str] [.dat .bool] x y :=
  evFS_sound tabOk (f648TS k) mixed Tryz.func148 (c := codeOf Tryz.f148) (by kernel_rfl) (f648LS k) ((f648E k x).trans h)
noncomputable def f648A (k : Nat) := entFnB [.dat .str] [.dat .bool] (f648F k)
theorem f648Ao (k : Nat) : EntOk P 148 (f648A k) := entFnB_ok (f648Ok k)
/-! ## midrange/save.blockError -/
noncomputable def f621T (k : Nat) : Table := [(61, f561A k), (62, f562A k), (148, f648A k)]
theorem f621TS (k : Nat) : Sound P (f621T k) := (((Sound.nil).consE f648B (f648Ao k)).consE f562B (f562Ao k)).consE f561B (f561Ao k)
theorem f621B : HasBody P 121 := ⟨Tryz.f121, Tryz.func121, by kernel_rfl, by kernel_rfl⟩
noncomputable def f621p0H : Shape := ⟨[(0, .one (.str)), (1, .one (.int .i64)), (2, .one (.int .i64)), (3, .one (.int .i64)), (4, .one (.bool)), (12, .one (.str)), (13, .one (.int .i64)), (14, .one (.bool))], [], 0, []⟩
noncomputable def f621p0X0 : Shape := ⟨[(0, .one (.str)), (1, .one (.int .i64)), (2, .one (.int .i64)), (3, .one (.int .i64)), (4, .one (.bool)), (10, .one (.int .i64)), (11, .one (.int .i64)), (13, .one (.int .i64)), (14, .one (.bool))], [], 0, []⟩
noncomputable def f621p0X1 : Shape := ⟨[(0, .one (.str)), (1, .one (.int .i64)), (2, .one (.int .i64)), (3, .one (.int .i64)), (4, .one (.bool)), (13, .one (.int .i64)), (14, .one (.bool))], [], 0, []⟩
noncomputable def f621p0N : NoteR := ⟨[0, 1, 2, 3, 4, 12, 13, 14], [], []⟩
noncomputable def f621p0M : NoteR := ⟨[0, 1, 2, 3, 4, 10, 11, 13, 14], [], []⟩
noncomputable def f621p0C : Code := firstC (codesAt 126 (codeOf Tryz.f121) 1)
noncomputable def f621p0 {R : Type} (k : Nat) (k0 : D93 → Option R) (k1 : D94 → Option R) (v : D95) : Option R :=
  bif (decide (v.2.2.2.2.2.2.1 < (1 : Int))) then
    k0 (v.1, v.2.1, v.2.2.1, v.2.2.2.1, v.2.2.2.2.1, (0 : Int), (5 : Int), v.2.2.2.2.2.2.1, v.2.2.2.2.2.2.2.1, ())
  else
  bif (decide (v.2.2.2.2.2.2.1 > (52 : Int))) then
    k0 (v.1, v.2.1, v.2.2.1, v.2.2.2.1, v.2.2.2.2.1, (0 : Int), (5 : Int), v.2.2.2.2.2.2.1, v.2.2.2.2.2.2.2.1, ())
  else
  bif (decide (v.2.2.2.2.2.2.1 < (52 : Int))) then
    bif (!v.2.2.2.2.1) then
      k0 (v.1, v.2.1, v.2.2.1, v.2.2.2.1, v.2.2.2.2.1, (0 : Int), (5 : Int), v.2.2.2.2.2.2.1, v.2.2.2.2.2.2.2.1, ())
    else
    bif (sliceBds (IntKind.i64.wrap ((4 : Int) + v.2.2.2.2.2.2.1)) (56 : Int) (v.1.size : Int)) then
    let t4 := (v.1.extract (Int.toNat (IntKind.i64.wrap ((4 : Int) + v.2.2.2.2.2.2.1))) 56)
    Option.bind (f648F k t4) fun y5 =>
    bif (!y5) then
      k0 (v.1, v.2.1, v.2.2.1, v.2.2.2.1, v.2.2.2.2.1, (0 : Int), (5 : Int), v.2.2.2.2.2.2.1, v.2.2.2.2.2.2.2.1, ())
    else
    bif (sliceBds (57 : Int) (v.2.2.2.2.2.1.size : Int) (v.1.size : Int)) then
    Option.bind (f648F k (v.1.extract 57 (Int.toNat (v.2.2.2.2.2.1.size : Int)))) fun y6 =>
    bif (!y6) then
      k0 (v.1, v.2.1, v.2.2.1, v.2.2.2.1, v.2.2.2.2.1, (0 : Int), (5 : Int), v.2.2.2.2.2.2.1, v.2.2.2.2.2.2.2.1, ())
    else
    k1 (v.1, v.2.1, v.2.2.1, v.2.2.2.1, v.2.2.2.2.1, v.2.2.2.2.2.2.1, v.2.2.2.2.2.2.2.1, ())
    else none
    else none
  else
  bif (sliceBds (IntKind.i64.wrap ((4 : Int) + v.2.2.2.2.2.2.1)) (56 : Int) (v.1.size : Int)) then
  let t7 := (v.1.extract (Int.toNat (IntKind.i64.wrap ((4 : Int) + v.2.2.2.2.2.2.1))) 56)
  Option.bind (f648F k t7) fun y8 =>
  bif (!y8) then
    k0 (v.1, v.2.1, v.2.2.1, v.2.2.2.1, v.2.2.2.2.1, (0 : Int), (5 : Int), v.2.2.2.2.2.2.1, v.2.2.2.2.2.2.2.1, ())
  else
  bif (sliceBds (57 : Int) (v.2.2.2.2.2.1.size : Int) (v.1.size : Int)) then
  Option.bind (f648F k (v.1.extract 57 (Int.toNat (v.2.2.2.2.2.1.size : Int)))) fun y9 =>
  bif (!y9) then
    k0 (v.1, v.2.1, v.2.2.1, v.2.2.2.1, v.2.2.2.2.1, (0 : Int), (5 : Int), v.2.2.2.2.2.2.1, v.2.2.2.2.2.2.2.1, ())
  else
  k1 (v.1, v.2.1, v.2.2.1, v.2.2.2.1, v.2.2.2.2.1, v.2.2.2.2.2.2.1, v.2.2.2.2.2.2.2.1, ())
  else none
  else none
noncomputable def f621p0S (k : Nat) : Sum1 := partSum f621p0H f621p0N (fun R K v => f621p0 k (fun w => K .ret (encSt f621p0X0 w)) (fun w => K .normal (encSt f621p0X1 w)) v)
theorem f621p0E (k : Nat) (R : Type) (K : X → St → Option R) (v : f621p0H.Den) : evS tab (f621T k) Tryz.f121.ntmps [] f621p0C 126 (partK f621p0M K) (encSt f621p0H v) = f621p0 k (fun w => K .ret (encSt f621p0X0 w)) (fun w => K .normal (encSt f621p0X1 w)) v := by kernel_rfl
theorem f621p0I (k : Nat) : SumsOk P Tryz.f121.ntmps [] f621p0C 126 := SumsOk.nil
theorem f621p0O (k : Nat) : SumOk P Tryz.f121.ntmps f621p0C (f621p0S k) := sum_part tabOk (f621TS k) mixed (f621p0I k) (f621p0E k)
noncomputable def f621p1H : Shape := ⟨[(0, .one (.str)), (1, .one (.int .i64)), (2, .one (.int .i64)), (3, .one (.int .i64)), (4, .one (.bool)), (13, .one (.int .i64)), (14, .one (.bool))], [], 0, []⟩
noncomputable def f621p1X0 : Shape := ⟨[(10, .one (.int .i64)), (11, .one (.int .i64)), (13, .one (.int .i64))], [], 0, []⟩
noncomputable def f621p1X1 : Shape := ⟨[(13, .one (.int .i64))], [], 0, []⟩
noncomputable def f621p1N : NoteR := ⟨[0, 1, 2, 3, 4, 13, 14], [], []⟩
noncomputable def f621p1M : NoteR := ⟨[10, 11, 13], [], []⟩
noncomputable def f621p1C : Code := firstC (codesAt 254 (codeOf Tryz.f121) 1)
noncomputable def f621p1 {R : Type} (k : Nat) (k0 : Int × Int × Int × Unit → Option R) (k1 : Int × Unit → Option R) (v : D94) : Option R :=
  bif (decide ((0 : Int) < (v.1.size : Int))) then
  bif ((IntKind.i64.wrap (bt v.1 (0 : Int))) != v.2.1) then
    k0 ((0 : Int), (14 : Int), v.2.2.2.2.2.1, ())
  else
  bif (sliceBds (1 : Int) (3 : Int) (v.1.size : Int)) then
  Option.bind (f561F k (v.2.2.1, (2 : Int))) fun y12 =>
  bif (!strEq (v.1.extract 1 3) (strOfNums y12)) then
    k0 ((0 : Int), (14 : Int), v.2.2.2.2.2.1, ())
  else
  bif (decide ((56 : Int) < (v.1.size : Int))) then
  bif ((IntKind.i64.wrap (bt v.1 (56 : Int))) != v.2.2.2.1) then
    k0 ((0 : Int), (6 : Int), v.2.2.2.2.2.1, ())
  else
  bif v.2.2.2.2.2.2.1 then
    bif (!v.2.2.2.2.1) then
      k0 ((0 : Int), (10 : Int), v.2.2.2.2.2.1, ())
    else
    bif (!v.2.2.2.2.2.2.1) then
      bif v.2.2.2.2.1 then
        k0 ((0 : Int), (9 : Int), v.2.2.2.2.2.1, ())
      else
      k1 (v.2.2.2.2.2.1, ())
    else
    k1 (v.2.2.2.2.2.1, ())
  else
  bif (!v.2.2.2.2.2.2.1) then
    bif v.2.2.2.2.1 then
      k0 ((0 : Int), (9 : Int), v.2.2.2.2.2.1, ())
    else
    k1 (v.2.2.2.2.2.1, ())
  else
  k1 (v.2.2.2.2.2.1, ())
  else none
  else none
  else none
noncomputable def f621p1S (k : Nat) : Sum1 := partSum f621p1H f621p1N (fun R K v => f621p1 k (fun w => K .ret (encSt f621p1X0 w)) (fun w => K .normal (encSt f621p1X1 w)) v)
theorem f621p1E (k : Nat) (R : Type) (K : X → St → Option R) (v : f621p1H.Den) : evS tab (f621T k) Tryz.f121.ntmps [] f621p1C 254 (partK f621p1M K) (encSt f621p1H v) = f621p1 k (fun w => K .ret (encSt f621p1X0 w)) (fun w => K .normal (encSt f621p1X1 w)) v := by kernel_rfl
theorem f621p1I (k : Nat) : SumsOk P Tryz.f121.ntmps [] f621p1C 254 := SumsOk.nil
theorem f621p1O (k : Nat) : SumOk P Tryz.f121.ntmps f621p1C (f621p1S k) := sum_part tabOk (f621TS k) mixed (f621p1I k) (f621p1E k)
noncomputable def f621F (k : Nat) (x : D96) : Option (Int × Int) :=
  bif ((x.1.size : Int) != (64 : Int)) then
    some ((0 : Int), (18 : Int))
  else
  bif (sliceBds (0 : Int) (60 : Int) (x.1.size : Int)) then
  Option.bind (f562F k (x.1.extract 0 60)) fun y1 =>
  Option.bind (f561F k (y1, (4 : Int))) fun y2 =>
  bif (sliceBds ((x.1.extract 0 60).size : Int) (x.1.size : Int) (x.1.size : Int)) then
  let t3 := (x.1.extract (Int.toNat ((x.1.extract 0 60).size : Int)) (Int.toNat (x.1.size : Int)))
  bif (!strEq (strOfNums y2) t3) then
    some ((0 : Int), (33 : Int))
  else
  bif (decide ((3 : Int) < (x.1.size : Int))) then
  bif (decide ((3 : Int) < (x.1.size : Int))) then
  f621p0 k
    (fun (w10 : D93) =>
      some (w10.2.2.2.2.2.1, w10.2.2.2.2.2.2.1))
    (fun (w11 : D94) =>
      f621p1 k
        (fun (w13 : Int × Int × Int × Unit) =>
          some (w13.1, w13.2.1))
        (fun (w14 : Int × Unit) =>
          some (w14.1, (0 : Int)))
        (w11.1, w11.2.1, w11.2.2.1, w11.2.2.2.1, w11.2.2.2.2.1, w11.2.2.2.2.2.1, w11.2.2.2.2.2.2.1, ()))
    (x.1, x.2.1, x.2.2.1, x.2.2.2.1, x.2.2.2.2, (x.1.extract 0 60), (IntKind.i64.wrap (bits .and .u8 (bt x.1 (3 : Int)) (127 : Int))), (decide ((bt x.1 (3 : Int)) ≥ (128 : Int))), ())
  else none
  else none
  else none
  else none
noncomputable def f621L (k : Nat) : Sums := [(126, f621p0S k), (254, f621p1S k)]
theorem f621LS (k : Nat) : SumsOk P Tryz.f121.ntmps (f621L k) (codeOf Tryz.f121) 1 := ((SumsOk.nil).cons (c := f621p1C) (by kernel_rfl) (f621p1O k)).cons (c := f621p0C) (by kernel_rfl) (f621p0O k)
theorem f621E (k : Nat) (x : D96) : evFS tab (f621T k) (f621L k) Tryz.f121.ntmps Tryz.f121.results.toList (codeOf Tryz.f121) (argsV [.dat .str, .dat (.int .i64), .dat (.int .i64), .dat (.int .i64), .dat .bool] x) [.dat (.int .i64), .dat (.int .i64)] none = f621F k x := by kernel_rfl
theorem f621Ok (k : Nat) (x : D96) (y : Int × Int) (h : f621F k x = some y) : FnOk P 121 [.dat .str, .dat (.int .i64), .dat (.int .i64), .dat (.int .i64), .dat .bool] [.dat (.int .i64), .dat (.int .i64)] x y :=
  evFS_sound tabOk (f621TS k) mixed Tryz.func121 (c := codeOf Tryz.f121) (by kernel_rfl) (f621LS k) ((f621E k x).trans h)
noncomputable def f621A (k : Nat) := entFnB [.dat .str, .dat (.int .i64), .dat (.int .i64), .dat (.int .i64), .dat .bool] [.dat (.int .i64), .dat (.int .i64)] (f621F k)
theorem f621Ao (k : Nat) : EntOk P 121 (f621A k) := entFnB_ok (f621Ok k)
/-! ## midrange/save.read$1, handed what it may write -/
noncomputable def f620v0I : Shape := ⟨[(0, .agg [.str, .ro .str]), (1, .one (.ptr 0 0))], [(0, .var 81 [.str, .ro .str])], 1, []⟩
noncomputable def f620v0U : Shape := ⟨[(0, .one (.bool))], [(0, .var 81 [.str, .ro .str])], 1, []⟩
noncomputable def f620v0T (k : Nat) : Table := []
theorem f620v0TS (k : Nat) : Sound P (f620v0T k) := Sound.nil
noncomputable def f620v0F (k : Nat) (x : D97) : Option (D98) :=
  some ((strEq x.1 x.2.2.1), x.2.2.1, x.2.2.2.1, ())
noncomputable def f620v0L (k : Nat) : Sums := []
theorem f620v0LS (k : Nat) : SumsOk P Tryz.f120.ntmps (f620v0L k) (codeOf Tryz.f120) 1 := SumsOk.nil
theorem f620v0E (k : Nat) (x : f620v0I.Den) : evG tab (f620v0T k) (f620v0L k) Tryz.f120.ntmps Tryz.f120.results.toList (codeOf Tryz.f120) f620v0I x [.dat .bool] [] f620v0U none = f620v0F k x := by kernel_rfl
theorem f620v0Ok (k : Nat) (x : f620v0I.Den) (y : f620v0U.Den) (h : f620v0F k x = some y) : GnOk P 120 f620v0I f620v0U x y :=
  evG_sound tabOk (f620v0TS k) mixed Tryz.func120 (c := codeOf Tryz.f120) (by kernel_rfl) (f620v0LS k) ((f620v0E k x).trans h)
/-! ## slices.IndexFunc[[]midrange/api.Volume,midrange/api.Volume], handed what it may write -/
noncomputable def f647v0I : Shape := ⟨[(0, .one (.ro Y8)), (1, .one (.fn 120 [0]))], [(0, .var 81 [.str, .ro .str])], 1, []⟩
noncomputable def f647v0U : Shape := ⟨[(0, .one (.int .i64))], [(0, .var 81 [.str, .ro .str])], 1, []⟩
noncomputable def f647v0T (k : Nat) : Table := [(120, entG f620v0I f620v0U (f620v0F k))]
theorem f647v0TS (k : Nat) : Sound P (f647v0T k) := (Sound.nil).consE f620B (entG_ok (f620v0Ok k))
theorem f647B : HasBody P 147 := ⟨Tryz.f147, Tryz.func147, by kernel_rfl, by kernel_rfl⟩
noncomputable def f647v0l0H : Shape := ⟨[(0, .one (.ro Y8)), (1, .one (.fn 120 [0])), (7, .one (.int .i64)), (8, .one (.int .i64))], [(0, .var 81 [.str, .ro .str])], 1, [some 0]⟩
noncomputable def f647v0l0X0 : Shape := ⟨[(4, .one (.int .i64))], [(0, .var 81 [.str, .ro .str])], 1, [some 0]⟩
noncomputable def f647v0l0X1 : Shape := ⟨[], [(0, .var 81 [.str, .ro .str])], 1, [some 0]⟩
noncomputable def f647v0l0N : NoteR := ⟨[0, 1, 7, 8], [], []⟩
noncomputable def f647v0l0M : NoteR := ⟨[4], [], []⟩
noncomputable def f647v0l0C : Code := firstC (codesAt 26 (codeOf Tryz.f147) 1)
noncomputable def f647v0l0s {R : Type} (k : Nat) (rec : D101 → Option R) (k0 : D99 → Option R) (k1 : D100 → Option R) (v : D101) : Option R :=
  bif (decide (v.2.2.1 < v.2.1)) then
    bif ((decide ((0 : Int) ≤ v.2.2.1)) && (decide (v.2.2.1 < (v.1.length : Int)))) then
    Option.bind (f620v0F k ((v.1.getD (Int.toNat v.2.2.1) (ByteArray.empty, [])).1, (v.1.getD (Int.toNat v.2.2.1) (ByteArray.empty, [])).2, v.2.2.2.1, v.2.2.2.2.1, ())) fun y1 =>
    bif y1.1 then
      k0 (v.2.2.1, y1.2.1, y1.2.2.1, ())
    else
    rec (v.1, v.2.1, (IntKind.i64.wrap (v.2.2.1 + (1 : Int))), y1.2.1, y1.2.2.1, ())
    else none
  else
  k1 (v.2.2.2.1, v.2.2.2.2.1, ())
noncomputable def f647v0l0 {R : Type} (k : Nat) (k0 : D99 → Option R) (k1 : D100 → Option R) (v : D101) : Option R := iterS (fun rec v => f647v0l0s k rec k0 k1 v) k v
noncomputable def f647v0l0S (k : Nat) : Sum1 := loopSum f647v0l0H f647v0l0N k (fun R rec K v => f647v0l0s k rec (fun w => K .ret (encSt f647v0l0X0 w)) (fun w => K (.exit 0) (encSt f647v0l0X1 w)) v)
theorem f647v0l0E (k : Nat) (R : Type) (rec : St → Option R) (K : X → St → Option R) (v : f647v0l0H.Den) : evS tab (f647v0T k) Tryz.f147.ntmps [] (bodyOf f647v0l0C) 52 (bodyK f647v0l0N f647v0l0M rec K) (encSt f647v0l0H v) = f647v0l0s k (fun v => rec (encSt f647v0l0H v)) (fun w => K .ret (encSt f647v0l0X0 w)) (fun w => K (.exit 0) (encSt f647v0l0X1 w)) v := by kernel_rfl
theorem f647v0l0I (k : Nat) : SumsOk P Tryz.f147.ntmps [] (bodyOf f647v0l0C) 52 := SumsOk.nil
theorem f647v0l0O (k : Nat) : SumOk P Tryz.f147.ntmps f647v0l0C (f647v0l0S k) := (show f647v0l0C = .loop (bodyOf f647v0l0C) by kernel_rfl) ▸ sum_loop tabOk (f647v0TS k) mixed (f647v0l0I k) (f647v0l0E k)
noncomputable def f647v0F (k : Nat) (x : D102) : Option (D99) :=
  f647v0l0 k
    (fun (w2 : D99) =>
      some (w2.1, w2.2.1, w2.2.2.1, ()))
    (fun (w3 : D100) =>
      some ((-1 : Int), w3.1, w3.2.1, ()))
    (x.1, (x.1.length : Int), (0 : Int), x.2.1, x.2.2.1, ())
noncomputable def f647v0L (k : Nat) : Sums := [(26, f647v0l0S k)]
theorem f647v0LS (k : Nat) : SumsOk P Tryz.f147.ntmps (f647v0L k) (codeOf Tryz.f147) 1 := (SumsOk.nil).cons (c := f647v0l0C) (by kernel_rfl) (f647v0l0O k)
theorem f647v0E (k : Nat) (x : f647v0I.Den) : evG tab (f647v0T k) (f647v0L k) Tryz.f147.ntmps Tryz.f147.results.toList (codeOf Tryz.f147) f647v0I x [.dat .bool] [] f647v0U none = f647v0F k x := by kernel_rfl
theorem f647v0Ok (k : Nat) (x : f647v0I.Den) (y : f647v0U.Den) (h : f647v0F k x = some y) : GnOk P 147 f647v0I f647v0U x y :=
  evG_sound tabOk (f647v0TS k) mixed Tryz.func147 (c := codeOf Tryz.f147) (by kernel_rfl) (f647v0LS k) ((f647v0E k x).trans h)
/-! ## slices.ContainsFunc[[]midrange/api.Volume,midrange/api.Volume], handed what it may write -/
noncomputable def f619v0I : Shape := ⟨[(0, .one (.ro Y8)), (1, .one (.fn 120 [0]))], [(0, .var 81 [.str, .ro .str])], 1, []⟩
noncomputable def f619v0U : Shape := ⟨[(0, .one (.bool))], [(0, .var 81 [.str, .ro .str])], 1, []⟩
noncomputable def f619v0T (k : Nat) : Table := [(147, entG f647v0I f647v0U (f647v0F k))]
theorem f619v0TS (k : Nat) : Sound P (f619v0T k) := (Sound.nil).consE f647B (entG_ok (f647v0Ok k))
theorem f619B : HasBody P 119 := ⟨Tryz.f119, Tryz.func119, by kernel_rfl, by kernel_rfl⟩
noncomputable def f619v0F (k : Nat) (x : D102) : Option (D98) :=
  Option.bind (f647v0F k (x.1, x.2.1, x.2.2.1, ())) fun y1 =>
  some ((decide (y1.1 ≥ (0 : Int))), y1.2.1, y1.2.2.1, ())
noncomputable def f619v0L (k : Nat) : Sums := []
theorem f619v0LS (k : Nat) : SumsOk P Tryz.f119.ntmps (f619v0L k) (codeOf Tryz.f119) 1 := SumsOk.nil
theorem f619v0E (k : Nat) (x : f619v0I.Den) : evG tab (f619v0T k) (f619v0L k) Tryz.f119.ntmps Tryz.f119.results.toList (codeOf Tryz.f119) f619v0I x [.dat .bool] [] f619v0U none = f619v0F k x := by kernel_rfl
theorem f619v0Ok (k : Nat) (x : f619v0I.Den) (y : f619v0U.Den) (h : f619v0F k x = some y) : GnOk P 119 f619v0I f619v0U x y :=
  evG_sound tabOk (f619v0TS k) mixed Tryz.func119 (c := codeOf Tryz.f119) (by kernel_rfl) (f619v0LS k) ((f619v0E k x).trans h)
/-! ## (*strings.Builder).WriteString, handed what it may write -/
noncomputable def f622v0I : Shape := ⟨[(0, .one (.ptr 0 0)), (1, .one (.str))], [(0, .var 174 [.nil .ptr, .emp])], 1, []⟩
noncomputable def f622v0U : Shape := ⟨[(0, .one (.int .i64)), (1, .one (.nil .iface))], [(0, .var 174 [.ptr 0 0, .own 1]), (1, .row 5 (.int .u8) .plain)], 2, []⟩
noncomputable def f622v0T (k : Nat) : Table := [(149, bcE)]
theorem f622v0TS (k : Nat) : Sound P (f622v0T k) := (Sound.nil).consE f113B bc_ok
theorem f622B : HasBody P 122 := ⟨Tryz.f122, Tryz.func122, by kernel_rfl, by kernel_rfl⟩
noncomputable def f622v0F (k : Nat) (x : ByteArray × Unit) : Option (Int × List Int × Unit) :=
  bif (decide ((([] : List Int).length + (bytesOf x.1).length) * 1 ≤ 140737488355328) && decide (([] : List Int).length + (bytesOf x.1).length ≤ 9223372036854775807)) then
  some ((x.1.size : Int), ([] ++ (bytesOf x.1)), ())
  else none
noncomputable def f622v0L (k : Nat) : Sums := []
theorem f622v0LS (k : Nat) : SumsOk P Tryz.f122.ntmps (f622v0L k) (codeOf Tryz.f122) 1 := SumsOk.nil
theorem f622v0E (k : Nat) (x : f622v0I.Den) : evG tab (f622v0T k) (f622v0L k) Tryz.f122.ntmps Tryz.f122.results.toList (codeOf Tryz.f122) f622v0I x [.dat .bool, .dat .bool] [] f622v0U none = f622v0F k x := by kernel_rfl
theorem f622v0Ok (k : Nat) (x : f622v0I.Den) (y : f622v0U.Den) (h : f622v0F k x = some y) : GnOk P 122 f622v0I f622v0U x y :=
  evG_sound tabOk (f622v0TS k) mixed Tryz.func122 (c := codeOf Tryz.f122) (by kernel_rfl) (f622v0LS k) ((f622v0E k x).trans h)
/-! ## (*strings.Builder).WriteString, handed what it may write -/
noncomputable def f622v1I : Shape := ⟨[(0, .one (.ptr 0 0)), (1, .one (.str))], [(0, .var 174 [.ptr 0 0, .own 1]), (1, .row 5 (.int .u8) .plain)], 2, []⟩
noncomputable def f622v1U : Shape := ⟨[(0, .one (.int .i64)), (1, .one (.nil .iface))], [(0, .var 174 [.ptr 0 0, .own 2]), (2, .row 5 (.int .u8) .plain)], 3, []⟩
noncomputable def f622v1T (k : Nat) : Table := [(149, bcE)]
theorem f622v1TS (k : Nat) : Sound P (f622v1T k) := (Sound.nil).consE f113B bc_ok
noncomputable def f622v1F (k : Nat) (x : D40) : Option (Int × List Int × Unit) :=
  bif (decide ((x.2.1.length + (bytesOf x.1).length) * 1 ≤ 140737488355328) && decide (x.2.1.length + (bytesOf x.1).length ≤ 9223372036854775807)) then
  some ((x.1.size : Int), (x.2.1 ++ (bytesOf x.1)), ())
  else none
noncomputable def f622v1L (k : Nat) : Sums := []
theorem f622v1LS (k : Nat) : SumsOk P Tryz.f122.ntmps (f622v1L k) (codeOf Tryz.f122) 1 := SumsOk.nil
theorem f622v1E (k : Nat) (x : f622v1I.Den) : evG tab (f622v1T k) (f622v1L k) Tryz.f122.ntmps Tryz.f122.results.toList (codeOf Tryz.f122) f622v1I x [.dat .bool, .dat .bool] [1] f622v1U none = f622v1F k x := by kernel_rfl
theorem f622v1Ok (k : Nat) (x : f622v1I.Den) (y : f622v1U.Den) (h : f622v1F k x = some y) : GnOk P 122 f622v1I f622v1U x y :=
  evG_sound tabOk (f622v1TS k) mixed Tryz.func122 (c := codeOf Tryz.f122) (by kernel_rfl) (f622v1LS k) ((f622v1E k x).trans h)
/-! ## midrange/save.read -/
noncomputable def f581T (k : Nat) : Table := [(102, f602A k), (119, entG f619v0I f619v0U (f619v0F k)), (121, f621A k), (122, entOr (entG f622v1I f622v1U (f622v1F k)) (entG f622v0I f622v0U (f622v0F k))), (123, bsE)]
theorem f581TS (k : Nat) : Sound P (f581T k) := (((((Sound.nil).consE f105B bs_ok).consE f622B (entOr_ok (entG_ok (f622v1Ok k)) (entG_ok (f622v0Ok k)))).consE f621B (f621Ao k)).consE f619B (entG_ok (f619v0Ok k))).consE f602B (f602Ao k)
theorem f581B : HasBody P 81 := ⟨Tryz.f81, Tryz.func81, by kernel_rfl, by kernel_rfl⟩
noncomputable def f581p0H : Shape := ⟨[(0, .one (.ro Y8)), (6, .one (.ptr 0 0)), (7, .one (.int .i64)), (8, .one (.int .i64)), (9, .one (.ptr 1 0)), (20, .one (.ro Y8)), (21, .one (.int .i64)), (22, .one (.int .i64)), (53, .one (.ro .str)), (54, .one (.int .i64)), (55, .one (.int .i64))], [(0, .var 174 [.nil .ptr, .emp]), (1, .var 81 [.str, .ro .str])], 2, []⟩
noncomputable def f581p0X0 : Shape := ⟨[(0, .one (.ro Y8)), (2, .one (.str)), (3, .one (.int .i64)), (4, .one (.int .i64)), (5, .one (.int .i64)), (6, .one (.ptr 0 0)), (7, .one (.int .i64)), (8, .one (.int .i64)), (9, .one (.ptr 1 0)), (20, .one (.ro Y8)), (21, .one (.int .i64)), (22, .one (.int .i64)), (53, .one (.ro .str)), (54, .one (.int .i64)), (55, .one (.int .i64))], [(0, .var 174 [.nil .ptr, .emp]), (1, .var 81 [.str, .ro .str])], 2, []⟩
noncomputable def f581p0X1 : Shape := ⟨[(0, .one (.ro Y8)), (6, .one (.ptr 0 0)), (7, .one (.int .i64)), (8, .one (.int .i64)), (9, .one (.ptr 1 0)), (20, .one (.ro Y8)), (21, .one (.int .i64)), (22, .one (.int .i64)), (53, .one (.ro .str)), (54, .one (.int .i64)), (55, .one (.int .i64))], [(0, .var 174 [.ptr 0 0, .own 2]), (1, .var 81 [.str, .ro .str]), (2, .row 5 (.int .u8) .plain)], 3, []⟩
noncomputable def f581p0N : NoteR := ⟨[0, 6, 7, 8, 9, 20, 21, 22, 53, 54, 55], [], []⟩
noncomputable def f581p0M : NoteR := ⟨[0, 2, 3, 4, 5, 6, 7, 8, 9, 20, 21, 22, 53, 54, 55], [], []⟩
noncomputable def f581p0C : Code := firstC (codesAt 4148454 (codeOf Tryz.f81) 1)
noncomputable def f581p0 {R : Type} (k : Nat) (k0 : D103 → Option R) (k1 : D104 → Option R) (v : D111) : Option R :=
  bif ((decide ((0 : Int) ≤ v.2.2.2.2.2.2.2.2.1)) && (decide (v.2.2.2.2.2.2.2.2.1 < (v.2.2.2.2.2.2.1.length : Int)))) then
  bif (v.2.2.1 == (IntKind.i64.wrap ((v.1.length : Int) - (1 : Int)))) then
    let t3 := (IntKind.i64.wrap ((v.2.2.2.2.2.2.2.2.2.2.1.length : Int) - (1 : Int)))
    Option.bind (f621F k ((v.2.2.2.2.2.2.1.getD (Int.toNat v.2.2.2.2.2.2.2.2.1) ByteArray.empty), (IntKind.i64.wrap (v.2.2.1 + (1 : Int))), (IntKind.i64.wrap (v.2.1 + (1 : Int))), (v.1.length : Int), (v.2.2.2.2.2.2.2.2.1 == t3))) fun y4 =>
    bif (y4.2 != (0 : Int)) then
      k0 (v.1, ByteArray.empty, v.2.2.1, v.2.2.2.2.2.2.2.2.1, y4.2, (IntKind.i64.wrap (v.2.1 + (1 : Int))), v.2.2.1, v.2.2.2.1, v.2.2.2.2.1, v.2.2.2.2.2.1, v.2.2.2.2.2.2.1, v.2.2.2.2.2.2.2.1, v.2.2.2.2.2.2.2.2.1, v.2.2.2.2.2.2.2.2.2.1, v.2.2.2.2.2.2.2.2.2.2.1, ())
    else
    bif (sliceBds (4 : Int) (IntKind.i64.wrap ((4 : Int) + y4.1)) ((v.2.2.2.2.2.2.1.getD (Int.toNat v.2.2.2.2.2.2.2.2.1) ByteArray.empty).size : Int)) then
    let t5 := ((v.2.2.2.2.2.2.1.getD (Int.toNat v.2.2.2.2.2.2.2.2.1) ByteArray.empty).extract 4 (Int.toNat (IntKind.i64.wrap ((4 : Int) + y4.1))))
    Option.bind (f622v0F k (t5, ())) fun y6 =>
    k1 (v.1, (IntKind.i64.wrap (v.2.1 + (1 : Int))), v.2.2.1, v.2.2.2.1, v.2.2.2.2.1, v.2.2.2.2.2.1, v.2.2.2.2.2.2.1, v.2.2.2.2.2.2.2.1, v.2.2.2.2.2.2.2.2.1, v.2.2.2.2.2.2.2.2.2.1, v.2.2.2.2.2.2.2.2.2.2.1, y6.2.1, ())
    else none
  else
  Option.bind (f621F k ((v.2.2.2.2.2.2.1.getD (Int.toNat v.2.2.2.2.2.2.2.2.1) ByteArray.empty), (IntKind.i64.wrap (v.2.2.1 + (1 : Int))), (IntKind.i64.wrap (v.2.1 + (1 : Int))), (v.1.length : Int), false)) fun y7 =>
  bif (y7.2 != (0 : Int)) then
    k0 (v.1, ByteArray.empty, v.2.2.1, v.2.2.2.2.2.2.2.2.1, y7.2, (IntKind.i64.wrap (v.2.1 + (1 : Int))), v.2.2.1, v.2.2.2.1, v.2.2.2.2.1, v.2.2.2.2.2.1, v.2.2.2.2.2.2.1, v.2.2.2.2.2.2.2.1, v.2.2.2.2.2.2.2.2.1, v.2.2.2.2.2.2.2.2.2.1, v.2.2.2.2.2.2.2.2.2.2.1, ())
  else
  bif (sliceBds (4 : Int) (IntKind.i64.wrap ((4 : Int) + y7.1)) ((v.2.2.2.2.2.2.1.getD (Int.toNat v.2.2.2.2.2.2.2.2.1) ByteArray.empty).size : Int)) then
  let t8 := ((v.2.2.2.2.2.2.1.getD (Int.toNat v.2.2.2.2.2.2.2.2.1) ByteArray.empty).extract 4 (Int.toNat (IntKind.i64.wrap ((4 : Int) + y7.1))))
  Option.bind (f622v0F k (t8, ())) fun y9 =>
  k1 (v.1, (IntKind.i64.wrap (v.2.1 + (1 : Int))), v.2.2.1, v.2.2.2.1, v.2.2.2.2.1, v.2.2.2.2.2.1, v.2.2.2.2.2.2.1, v.2.2.2.2.2.2.2.1, v.2.2.2.2.2.2.2.2.1, v.2.2.2.2.2.2.2.2.2.1, v.2.2.2.2.2.2.2.2.2.2.1, y9.2.1, ())
  else none
  else none
noncomputable def f581p0S (k : Nat) : Sum1 := partSum f581p0H f581p0N (fun R K v => f581p0 k (fun w => K .ret (encSt f581p0X0 w)) (fun w => K .normal (encSt f581p0X1 w)) v)
theorem f581p0E (k : Nat) (R : Type) (K : X → St → Option R) (v : f581p0H.Den) : evS tab (f581T k) Tryz.f81.ntmps [] f581p0C 4148454 (partK f581p0M K) (encSt f581p0H v) = f581p0 k (fun w => K .ret (encSt f581p0X0 w)) (fun w => K .normal (encSt f581p0X1 w)) v := by kernel_rfl
theorem f581p0I (k : Nat) : SumsOk P Tryz.f81.ntmps [] f581p0C 4148454 := SumsOk.nil
theorem f581p0O (k : Nat) : SumOk P Tryz.f81.ntmps f581p0C (f581p0S k) := sum_part tabOk (f581TS k) mixed (f581p0I k) (f581p0E k)
noncomputable def f581p1H : Shape := ⟨[(0, .one (.ro Y8)), (6, .one (.ptr 0 0)), (7, .one (.int .i64)), (8, .one (.int .i64)), (9, .one (.ptr 1 0)), (20, .one (.ro Y8)), (21, .one (.int .i64)), (22, .one (.int .i64)), (53, .one (.ro .str)), (54, .one (.int .i64)), (55, .one (.int .i64))], [(0, .var 174 [.ptr 0 0, .own 2]), (1, .var 81 [.str, .ro .str]), (2, .row 5 (.int .u8) .plain)], 3, []⟩
noncomputable def f581p1X0 : Shape := ⟨[(0, .one (.ro Y8)), (2, .one (.str)), (3, .one (.int .i64)), (4, .one (.int .i64)), (5, .one (.int .i64)), (6, .one (.ptr 0 0)), (7, .one (.int .i64)), (8, .one (.int .i64)), (9, .one (.ptr 1 0)), (20, .one (.ro Y8)), (21, .one (.int .i64)), (22, .one (.int .i64)), (53, .one (.ro .str)), (54, .one (.int .i64)), (55, .one (.int .i64))], [(0, .var 174 [.ptr 0 0, .own 2]), (1, .var 81 [.str, .ro .str]), (2, .row 5 (.int .u8) .plain)], 3, []⟩
noncomputable def f581p1X1 : Shape := ⟨[(0, .one (.ro Y8)), (6, .one (.ptr 0 0)), (7, .one (.int .i64)), (8, .one (.int .i64)), (9, .one (.ptr 1 0)), (20, .one (.ro Y8)), (21, .one (.int .i64)), (22, .one (.int .i64)), (53, .one (.ro .str)), (54, .one (.int .i64)), (55, .one (.int .i64))], [(0, .var 174 [.ptr 0 0, .own 2]), (1, .var 81 [.str, .ro .str]), (2, .row 5 (.int .u8) .plain)], 3, []⟩
noncomputable def f581p1N : NoteR := ⟨[0, 6, 7, 8, 9, 20, 21, 22, 53, 54, 55], [], []⟩
noncomputable def f581p1M : NoteR := ⟨[0, 2, 3, 4, 5, 6, 7, 8, 9, 20, 21, 22, 53, 54, 55], [], []⟩
noncomputable def f581p1C : Code := firstC (codesAt 4148454 (codeOf Tryz.f81) 1)
noncomputable def f581p1 {R : Type} (k : Nat) (k0 : D105 → Option R) (k1 : D104 → Option R) (v : D104) : Option R :=
  bif ((decide ((0 : Int) ≤ v.2.2.2.2.2.2.2.2.1)) && (decide (v.2.2.2.2.2.2.2.2.1 < (v.2.2.2.2.2.2.1.length : Int)))) then
  bif (v.2.2.1 == (IntKind.i64.wrap ((v.1.length : Int) - (1 : Int)))) then
    let t12 := (IntKind.i64.wrap ((v.2.2.2.2.2.2.2.2.2.2.1.length : Int) - (1 : Int)))
    Option.bind (f621F k ((v.2.2.2.2.2.2.1.getD (Int.toNat v.2.2.2.2.2.2.2.2.1) ByteArray.empty), (IntKind.i64.wrap (v.2.2.1 + (1 : Int))), (IntKind.i64.wrap (v.2.1 + (1 : Int))), (v.1.length : Int), (v.2.2.2.2.2.2.2.2.1 == t12))) fun y13 =>
    bif (y13.2 != (0 : Int)) then
      k0 (v.1, ByteArray.empty, v.2.2.1, v.2.2.2.2.2.2.2.2.1, y13.2, (IntKind.i64.wrap (v.2.1 + (1 : Int))), v.2.2.1, v.2.2.2.1, v.2.2.2.2.1, v.2.2.2.2.2.1, v.2.2.2.2.2.2.1, v.2.2.2.2.2.2.2.1, v.2.2.2.2.2.2.2.2.1, v.2.2.2.2.2.2.2.2.2.1, v.2.2.2.2.2.2.2.2.2.2.1, v.2.2.2.2.2.2.2.2.2.2.2.1, ())
    else
    bif (sliceBds (4 : Int) (IntKind.i64.wrap ((4 : Int) + y13.1)) ((v.2.2.2.2.2.2.1.getD (Int.toNat v.2.2.2.2.2.2.2.2.1) ByteArray.empty).size : Int)) then
    let t14 := ((v.2.2.2.2.2.2.1.getD (Int.toNat v.2.2.2.2.2.2.2.2.1) ByteArray.empty).extract 4 (Int.toNat (IntKind.i64.wrap ((4 : Int) + y13.1))))
    Option.bind (f622v1F k (t14, v.2.2.2.2.2.2.2.2.2.2.2.1, ())) fun y15 =>
    k1 (v.1, (IntKind.i64.wrap (v.2.1 + (1 : Int))), v.2.2.1, v.2.2.2.1, v.2.2.2.2.1, v.2.2.2.2.2.1, v.2.2.2.2.2.2.1, v.2.2.2.2.2.2.2.1, v.2.2.2.2.2.2.2.2.1, v.2.2.2.2.2.2.2.2.2.1, v.2.2.2.2.2.2.2.2.2.2.1, y15.2.1, ())
    else none
  else
  Option.bind (f621F k ((v.2.2.2.2.2.2.1.getD (Int.toNat v.2.2.2.2.2.2.2.2.1) ByteArray.empty), (IntKind.i64.wrap (v.2.2.1 + (1 : Int))), (IntKind.i64.wrap (v.2.1 + (1 : Int))), (v.1.length : Int), false)) fun y16 =>
  bif (y16.2 != (0 : Int)) then
    k0 (v.1, ByteArray.empty, v.2.2.1, v.2.2.2.2.2.2.2.2.1, y16.2, (IntKind.i64.wrap (v.2.1 + (1 : Int))), v.2.2.1, v.2.2.2.1, v.2.2.2.2.1, v.2.2.2.2.2.1, v.2.2.2.2.2.2.1, v.2.2.2.2.2.2.2.1, v.2.2.2.2.2.2.2.2.1, v.2.2.2.2.2.2.2.2.2.1, v.2.2.2.2.2.2.2.2.2.2.1, v.2.2.2.2.2.2.2.2.2.2.2.1, ())
  else
  bif (sliceBds (4 : Int) (IntKind.i64.wrap ((4 : Int) + y16.1)) ((v.2.2.2.2.2.2.1.getD (Int.toNat v.2.2.2.2.2.2.2.2.1) ByteArray.empty).size : Int)) then
  let t17 := ((v.2.2.2.2.2.2.1.getD (Int.toNat v.2.2.2.2.2.2.2.2.1) ByteArray.empty).extract 4 (Int.toNat (IntKind.i64.wrap ((4 : Int) + y16.1))))
  Option.bind (f622v1F k (t17, v.2.2.2.2.2.2.2.2.2.2.2.1, ())) fun y18 =>
  k1 (v.1, (IntKind.i64.wrap (v.2.1 + (1 : Int))), v.2.2.1, v.2.2.2.1, v.2.2.2.2.1, v.2.2.2.2.2.1, v.2.2.2.2.2.2.1, v.2.2.2.2.2.2.2.1, v.2.2.2.2.2.2.2.2.1, v.2.2.2.2.2.2.2.2.2.1, v.2.2.2.2.2.2.2.2.2.2.1, y18.2.1, ())
  else none
  else none
noncomputable def f581p1S (k : Nat) : Sum1 := part2Sum f581p1H f581p1N (f581p0S k) (fun R K v => f581p1 k (fun w => K .ret (encSt f581p1X0 w)) (fun w => K .normal (encSt f581p1X1 w)) v)
theorem f581p1E (k : Nat) (R : Type) (K : X → St → Option R) (v : f581p1H.Den) : evS tab (f581T k) Tryz.f81.ntmps [] f581p1C 4148454 (partK f581p1M K) (encSt f581p1H v) = f581p1 k (fun w => K .ret (encSt f581p1X0 w)) (fun w => K .normal (encSt f581p1X1 w)) v := by kernel_rfl
theorem f581p1I (k : Nat) : SumsOk P Tryz.f81.ntmps [] f581p1C 4148454 := SumsOk.nil
theorem f581p1O (k : Nat) : SumOk P Tryz.f81.ntmps f581p1C (f581p1S k) := part2_ok tabOk (f581TS k) mixed (f581p1I k) ((show f581p0C = f581p1C by kernel_rfl) ▸ f581p0O k) (f581p1E k)
noncomputable def f581l2H : Shape := ⟨[(0, .one (.ro Y8)), (6, .one (.ptr 0 0)), (7, .one (.int .i64)), (8, .one (.int .i64)), (9, .one (.ptr 1 0)), (20, .one (.ro Y8)), (21, .one (.int .i64)), (22, .one (.int .i64)), (53, .one (.ro .str)), (54, .one (.int .i64)), (55, .one (.int .i64))], [(0, .var 174 [.ptr 0 0, .own 2]), (1, .var 81 [.str, .ro .str]), (2, .row 5 (.int .u8) .plain)], 3, []⟩
noncomputable def f581l2X0 : Shape := ⟨[(0, .one (.ro Y8)), (2, .one (.str)), (3, .one (.int .i64)), (4, .one (.int .i64)), (5, .one (.int .i64)), (6, .one (.ptr 0 0)), (7, .one (.int .i64)), (20, .one (.ro Y8)), (21, .one (.int .i64)), (22, .one (.int .i64))], [(0, .var 174 [.ptr 0 0, .own 1]), (1, .row 5 (.int .u8) .plain)], 2, []⟩
noncomputable def f581l2X1 : Shape := ⟨[(0, .one (.ro Y8)), (6, .one (.ptr 0 0)), (7, .one (.int .i64)), (20, .one (.ro Y8)), (21, .one (.int .i64)), (22, .one (.int .i64))], [(0, .var 174 [.ptr 0 0, .own 1]), (1, .row 5 (.int .u8) .plain)], 2, []⟩
noncomputable def f581l2N : NoteR := ⟨[0, 6, 7, 8, 9, 20, 21, 22, 53, 54, 55], [], []⟩
noncomputable def f581l2M : NoteR := ⟨[0, 2, 3, 4, 5, 6, 7, 20, 21, 22], [], []⟩
noncomputable def f581l2C : Code := firstC (codesAt 259278 (codeOf Tryz.f81) 1)
noncomputable def f581l2s {R : Type} (k : Nat) (rec : D104 → Option R) (k0 : D106 → Option R) (k1 : D107 → Option R) (v : D104) : Option R :=
  bif (decide (v.2.2.2.2.2.2.2.2.1 < v.2.2.2.2.2.2.2.1)) then
    f581p1 k
      (fun (w19 : D105) =>
        k0 (w19.1, w19.2.1, w19.2.2.1, w19.2.2.2.1, w19.2.2.2.2.1, w19.2.2.2.2.2.1, w19.2.2.2.2.2.2.2.1, w19.2.2.2.2.2.2.2.2.1, w19.2.2.2.2.2.2.2.2.2.1, w19.2.2.2.2.2.2.2.2.2.2.2.2.2.2.2.1, ()))
      (fun (w20 : D104) =>
        rec (w20.1, w20.2.1, w20.2.2.1, w20.2.2.2.1, w20.2.2.2.2.1, w20.2.2.2.2.2.1, w20.2.2.2.2.2.2.1, w20.2.2.2.2.2.2.2.1, (IntKind.i64.wrap (w20.2.2.2.2.2.2.2.2.1 + (1 : Int))), w20.2.2.2.2.2.2.2.2.2.1, w20.2.2.2.2.2.2.2.2.2.2.1, w20.2.2.2.2.2.2.2.2.2.2.2.1, ()))
      (v.1, v.2.1, v.2.2.1, v.2.2.2.1, v.2.2.2.2.1, v.2.2.2.2.2.1, v.2.2.2.2.2.2.1, v.2.2.2.2.2.2.2.1, v.2.2.2.2.2.2.2.2.1, v.2.2.2.2.2.2.2.2.2.1, v.2.2.2.2.2.2.2.2.2.2.1, v.2.2.2.2.2.2.2.2.2.2.2.1, ())
  else
  k1 (v.1, v.2.1, v.2.2.2.1, v.2.2.2.2.1, v.2.2.2.2.2.1, v.2.2.2.2.2.2.2.2.2.2.2.1, ())
noncomputable def f581l2 {R : Type} (k : Nat) (k0 : D106 → Option R) (k1 : D107 → Option R) (v : D104) : Option R := iterS (fun rec v => f581l2s k rec k0 k1 v) k v
noncomputable def f581l2S (k : Nat) : Sum1 := loopSum f581l2H f581l2N k (fun R rec K v => f581l2s k rec (fun w => K .ret (encSt f581l2X0 w)) (fun w => K (.exit 3) (encSt f581l2X1 w)) v)
theorem f581l2E (k : Nat) (R : Type) (rec : St → Option R) (K : X → St → Option R) (v : f581l2H.Den) : evS tab (f581T k) Tryz.f81.ntmps [(4148454, f581p1S k)] (bodyOf f581l2C) 518556 (bodyK f581l2N f581l2M rec K) (encSt f581l2H v) = f581l2s k (fun v => rec (encSt f581l2H v)) (fun w => K .ret (encSt f581l2X0 w)) (fun w => K (.exit 3) (encSt f581l2X1 w)) v := by kernel_rfl
theorem f581l2I (k : Nat) : SumsOk P Tryz.f81.ntmps [(4148454, f581p1S k)] (bodyOf f581l2C) 518556 := (SumsOk.nil).cons (c := f581p1C) (by kernel_rfl) (f581p1O k)
theorem f581l2O (k : Nat) : SumOk P Tryz.f81.ntmps f581l2C (f581l2S k) := (show f581l2C = .loop (bodyOf f581l2C) by kernel_rfl) ▸ sum_loop tabOk (f581TS k) mixed (f581l2I k) (f581l2E k)
noncomputable def f581l3H : Shape := ⟨[(0, .one (.ro Y8)), (6, .one (.ptr 0 0)), (7, .one (.int .i64)), (8, .one (.int .i64)), (9, .one (.ptr 1 0)), (20, .one (.ro Y8)), (21, .one (.int .i64)), (22, .one (.int .i64)), (53, .one (.ro .str)), (54, .one (.int .i64)), (55, .one (.int .i64))], [(0, .var 174 [.nil .ptr, .emp]), (1, .var 81 [.str, .ro .str])], 2, []⟩
noncomputable def f581l3X0 : Shape := ⟨[(0, .one (.ro Y8)), (2, .one (.str)), (3, .one (.int .i64)), (4, .one (.int .i64)), (5, .one (.int .i64)), (6, .one (.ptr 0 0)), (7, .one (.int .i64)), (20, .one (.ro Y8)), (21, .one (.int .i64)), (22, .one (.int .i64))], [(0, .var 174 [.nil .ptr, .emp])], 1, []⟩
noncomputable def f581l3X1 : Shape := ⟨[(0, .one (.ro Y8)), (2, .one (.str)), (3, .one (.int .i64)), (4, .one (.int .i64)), (5, .one (.int .i64)), (6, .one (.ptr 0 0)), (7, .one (.int .i64)), (20, .one (.ro Y8)), (21, .one (.int .i64)), (22, .one (.int .i64))], [(0, .var 174 [.ptr 0 0, .own 1]), (1, .row 5 (.int .u8) .plain)], 2, []⟩
noncomputable def f581l3X2 : Shape := ⟨[(0, .one (.ro Y8)), (6, .one (.ptr 0 0)), (7, .one (.int .i64)), (20, .one (.ro Y8)), (21, .one (.int .i64)), (22, .one (.int .i64))], [(0, .var 174 [.ptr 0 0, .own 1]), (1, .row 5 (.int .u8) .plain)], 2, []⟩
noncomputable def f581l3X3 : Shape := ⟨[(0, .one (.ro Y8)), (6, .one (.ptr 0 0)), (7, .one (.int .i64)), (20, .one (.ro Y8)), (21, .one (.int .i64)), (22, .one (.int .i64))], [(0, .var 174 [.nil .ptr, .emp])], 1, []⟩
noncomputable def f581l3N : NoteR := ⟨[0, 6, 7, 8, 9, 20, 21, 22, 53, 54, 55], [], []⟩
noncomputable def f581l3M : NoteR := ⟨[0, 2, 3, 4, 5, 6, 7, 20, 21, 22], [], []⟩
noncomputable def f581l3C : Code := firstC (codesAt 259278 (codeOf Tryz.f81) 1)
noncomputable def f581l3s {R : Type} (k : Nat) (rec : D111 → Option R) (k0 : D108 → Option R) (k1 : D106 → Option R) (k2 : D107 → Option R) (k3 : D109 → Option R) (v : D111) : Option R :=
  bif (decide (v.2.2.2.2.2.2.2.2.1 < v.2.2.2.2.2.2.2.1)) then
    f581p0 k
      (fun (w10 : D103) =>
        k0 (w10.1, w10.2.1, w10.2.2.1, w10.2.2.2.1, w10.2.2.2.2.1, w10.2.2.2.2.2.1, w10.2.2.2.2.2.2.2.1, w10.2.2.2.2.2.2.2.2.1, w10.2.2.2.2.2.2.2.2.2.1, ()))
      (fun (w11 : D104) =>
        f581l2 k
          (fun (w21 : D106) =>
            k1 (w21.1, w21.2.1, w21.2.2.1, w21.2.2.2.1, w21.2.2.2.2.1, w21.2.2.2.2.2.1, w21.2.2.2.2.2.2.1, w21.2.2.2.2.2.2.2.1, w21.2.2.2.2.2.2.2.2.1, w21.2.2.2.2.2.2.2.2.2.1, ()))
          (fun (w22 : D107) =>
            k2 (w22.1, w22.2.1, w22.2.2.1, w22.2.2.2.1, w22.2.2.2.2.1, w22.2.2.2.2.2.1, ()))
          (w11.1, w11.2.1, w11.2.2.1, w11.2.2.2.1, w11.2.2.2.2.1, w11.2.2.2.2.2.1, w11.2.2.2.2.2.2.1, w11.2.2.2.2.2.2.2.1, (IntKind.i64.wrap (w11.2.2.2.2.2.2.2.2.1 + (1 : Int))), w11.2.2.2.2.2.2.2.2.2.1, w11.2.2.2.2.2.2.2.2.2.2.1, w11.2.2.2.2.2.2.2.2.2.2.2.1, ()))
      (v.1, v.2.1, v.2.2.1, v.2.2.2.1, v.2.2.2.2.1, v.2.2.2.2.2.1, v.2.2.2.2.2.2.1, v.2.2.2.2.2.2.2.1, v.2.2.2.2.2.2.2.2.1, v.2.2.2.2.2.2.2.2.2.1, v.2.2.2.2.2.2.2.2.2.2.1, ())
  else
  k3 (v.1, v.2.1, v.2.2.2.1, v.2.2.2.2.1, v.2.2.2.2.2.1, ())
noncomputable def f581l3 {R : Type} (k : Nat) (k0 : D108 → Option R) (k1 : D106 → Option R) (k2 : D107 → Option R) (k3 : D109 → Option R) (v : D111) : Option R := iterS (fun rec v => f581l3s k rec k0 k1 k2 k3 v) k v
theorem f581l2Rd (k : Nat) : SumRd P Tryz.f81.ntmps (bodyOf f581l2C) (f581l2S k) k := loop_rd tabOk (f581TS k) mixed (f581l2I k) (f581l2E k)
noncomputable def f581l3S (k : Nat) : Sum1 := loop2Sum f581l3H f581l3N (f581l2S k) k (fun R rec K v => f581l3s k rec (fun w => K .ret (encSt f581l3X0 w)) (fun w => K .ret (encSt f581l3X1 w)) (fun w => K (.exit 3) (encSt f581l3X2 w)) (fun w => K (.exit 3) (encSt f581l3X3 w)) v)
theorem f581l3E (k : Nat) (R : Type) (rec : f581l3H.Den → Option R) (K : X → St → Option R) (v : f581l3H.Den) : evS tab (f581T k) Tryz.f81.ntmps [(4148454, f581p1S k)] (bodyOf f581l3C) 518556 (step2K f581l3H f581l3N f581l3M (f581l2S k) rec K) (encSt f581l3H v) = f581l3s k rec (fun w => K .ret (encSt f581l3X0 w)) (fun w => K .ret (encSt f581l3X1 w)) (fun w => K (.exit 3) (encSt f581l3X2 w)) (fun w => K (.exit 3) (encSt f581l3X3 w)) v := by kernel_rfl
theorem f581l3I (k : Nat) : SumsOk P Tryz.f81.ntmps [(4148454, f581p1S k)] (bodyOf f581l3C) 518556 := (SumsOk.nil).cons (c := f581p1C) (by kernel_rfl) (f581p1O k)
theorem f581l3Rd (k : Nat) : SumRd P Tryz.f81.ntmps (bodyOf f581l3C) (f581l3S k) (k + (k)) := loop2_rd tabOk (f581TS k) mixed (f581l3I k) ((show bodyOf f581l2C = bodyOf f581l3C by kernel_rfl) ▸ f581l2Rd k) (f581l3E k)
theorem f581l3O (k : Nat) : SumOk P Tryz.f81.ntmps f581l3C (f581l3S k) := (show f581l3C = .loop (bodyOf f581l3C) by kernel_rfl) ▸ (f581l3Rd k).ok
noncomputable def f581p4H : Shape := ⟨[(0, .one (.ro Y8)), (6, .one (.ptr 0 0)), (7, .one (.int .i64)), (20, .one (.ro Y8)), (21, .one (.int .i64)), (22, .one (.int .i64))], [(0, .var 174 [.nil .ptr, .emp])], 1, []⟩
noncomputable def f581p4X0 : Shape := ⟨[(0, .one (.ro Y8)), (2, .one (.str)), (3, .one (.int .i64)), (4, .one (.int .i64)), (5, .one (.int .i64)), (6, .one (.ptr 0 0)), (7, .one (.int .i64)), (20, .one (.ro Y8)), (21, .one (.int .i64)), (22, .one (.int .i64))], [(0, .var 174 [.nil .ptr, .emp])], 1, []⟩
noncomputable def f581p4X1 : Shape := ⟨[(0, .one (.ro Y8)), (2, .one (.str)), (3, .one (.int .i64)), (4, .one (.int .i64)), (5, .one (.int .i64)), (6, .one (.ptr 0 0)), (7, .one (.int .i64)), (20, .one (.ro Y8)), (21, .one (.int .i64)), (22, .one (.int .i64))], [(0, .var 174 [.ptr 0 0, .own 1]), (1, .row 5 (.int .u8) .plain)], 2, []⟩
noncomputable def f581p4X2 : Shape := ⟨[(0, .one (.ro Y8)), (6, .one (.ptr 0 0)), (7, .one (.int .i64)), (20, .one (.ro Y8)), (21, .one (.int .i64)), (22, .one (.int .i64))], [(0, .var 174 [.ptr 0 0, .own 1]), (1, .row 5 (.int .u8) .plain)], 2, []⟩
noncomputable def f581p4X3 : Shape := ⟨[(0, .one (.ro Y8)), (6, .one (.ptr 0 0)), (7, .one (.int .i64)), (20, .one (.ro Y8)), (21, .one (.int .i64)), (22, .one (.int .i64))], [(0, .var 174 [.nil .ptr, .emp])], 1, []⟩
noncomputable def f581p4N : NoteR := ⟨[0, 6, 7, 20, 21, 22], [], []⟩
noncomputable def f581p4M : NoteR := ⟨[0, 2, 3, 4, 5, 6, 7, 20, 21, 22], [], []⟩
noncomputable def f581p4C : Code := firstC (codesAt 8102 (codeOf Tryz.f81) 1)
noncomputable def f581p4 {R : Type} (k : Nat) (k0 : D108 → Option R) (k1 : D106 → Option R) (k2 : D107 → Option R) (k3 : D109 → Option R) (v : D109) : Option R :=
  bif ((decide ((0 : Int) ≤ v.2.2.2.2.1)) && (decide (v.2.2.2.2.1 < (v.2.2.1.length : Int)))) then
  Option.bind (f602F k (v.2.2.1.getD (Int.toNat v.2.2.2.2.1) (ByteArray.empty, [])).1) fun y1 =>
  bif (!y1) then
    k0 (v.1, ByteArray.empty, v.2.2.2.2.1, (0 : Int), (7 : Int), v.2.1, v.2.2.1, v.2.2.2.1, v.2.2.2.2.1, ())
  else
  bif (sliceBds (0 : Int) v.2.2.2.2.1 (v.1.length : Int)) then
  Option.bind (f619v0F k (((v.1.take (Int.toNat v.2.2.2.2.1)).drop 0), (v.2.2.1.getD (Int.toNat v.2.2.2.2.1) (ByteArray.empty, [])).1, (v.2.2.1.getD (Int.toNat v.2.2.2.2.1) (ByteArray.empty, [])).2, ())) fun y2 =>
  bif y2.1 then
    k0 (v.1, ByteArray.empty, v.2.2.2.2.1, (0 : Int), (13 : Int), v.2.1, v.2.2.1, v.2.2.2.1, v.2.2.2.2.1, ())
  else
  bif (decide ((y2.2.2.1.length : Int) > (60 : Int))) then
    k0 (v.1, ByteArray.empty, v.2.2.2.2.1, (0 : Int), (2 : Int), v.2.1, v.2.2.1, v.2.2.2.1, v.2.2.2.2.1, ())
  else
  bif ((y2.2.2.1.length : Int) == (0 : Int)) then
    k0 (v.1, ByteArray.empty, v.2.2.2.2.1, (0 : Int), (1 : Int), v.2.1, v.2.2.1, v.2.2.2.1, v.2.2.2.2.1, ())
  else
  f581l3 k
    (fun (w23 : D108) =>
      k0 (w23.1, w23.2.1, w23.2.2.1, w23.2.2.2.1, w23.2.2.2.2.1, w23.2.2.2.2.2.1, w23.2.2.2.2.2.2.1, w23.2.2.2.2.2.2.2.1, w23.2.2.2.2.2.2.2.2.1, ()))
    (fun (w24 : D106) =>
      k1 (w24.1, w24.2.1, w24.2.2.1, w24.2.2.2.1, w24.2.2.2.2.1, w24.2.2.2.2.2.1, w24.2.2.2.2.2.2.1, w24.2.2.2.2.2.2.2.1, w24.2.2.2.2.2.2.2.2.1, w24.2.2.2.2.2.2.2.2.2.1, ()))
    (fun (w25 : D107) =>
      k2 (w25.1, w25.2.1, w25.2.2.1, w25.2.2.2.1, w25.2.2.2.2.1, w25.2.2.2.2.2.1, ()))
    (fun (w26 : D109) =>
      k3 (w26.1, w26.2.1, w26.2.2.1, w26.2.2.2.1, w26.2.2.2.2.1, ()))
    (v.1, v.2.1, v.2.2.2.2.1, v.2.2.1, v.2.2.2.1, v.2.2.2.2.1, y2.2.2.1, (y2.2.2.1.length : Int), (0 : Int), y2.2.1, y2.2.2.1, ())
  else none
  else none
noncomputable def f581p4S (k : Nat) : Sum1 := partSum f581p4H f581p4N (fun R K v => f581p4 k (fun w => K .ret (encSt f581p4X0 w)) (fun w => K .ret (encSt f581p4X1 w)) (fun w => K .normal (encSt f581p4X2 w)) (fun w => K .normal (encSt f581p4X3 w)) v)
theorem f581p4E (k : Nat) (R : Type) (K : X → St → Option R) (v : f581p4H.Den) : evS tab (f581T k) Tryz.f81.ntmps [(4148454, f581p1S k), (259278, f581l3S k)] f581p4C 8102 (partK f581p4M K) (encSt f581p4H v) = f581p4 k (fun w => K .ret (encSt f581p4X0 w)) (fun w => K .ret (encSt f581p4X1 w)) (fun w => K .normal (encSt f581p4X2 w)) (fun w => K .normal (encSt f581p4X3 w)) v := by kernel_rfl
theorem f581p4I (k : Nat) : SumsOk P Tryz.f81.ntmps [(4148454, f581p1S k), (259278, f581l3S k)] f581p4C 8102 := ((SumsOk.nil).cons (c := f581l3C) (by kernel_rfl) (f581l3O k)).cons (c := f581p1C) (by kernel_rfl) (f581p1O k)
theorem f581p4O (k : Nat) : SumOk P Tryz.f81.ntmps f581p4C (f581p4S k) := sum_part tabOk (f581TS k) mixed (f581p4I k) (f581p4E k)
noncomputable def f581p5H : Shape := ⟨[(0, .one (.ro Y8)), (6, .one (.ptr 0 0)), (7, .one (.int .i64)), (20, .one (.ro Y8)), (21, .one (.int .i64)), (22, .one (.int .i64))], [(0, .var 174 [.ptr 0 0, .own 1]), (1, .row 5 (.int .u8) .plain)], 2, []⟩
noncomputable def f581p5X0 : Shape := ⟨[(0, .one (.ro Y8)), (2, .one (.str)), (3, .one (.int .i64)), (4, .one (.int .i64)), (5, .one (.int .i64)), (6, .one (.ptr 0 0)), (7, .one (.int .i64)), (20, .one (.ro Y8)), (21, .one (.int .i64)), (22, .one (.int .i64))], [(0, .var 174 [.ptr 0 0, .own 1]), (1, .row 5 (.int .u8) .plain)], 2, []⟩
noncomputable def f581p5X1 : Shape := ⟨[(0, .one (.ro Y8)), (6, .one (.ptr 0 0)), (7, .one (.int .i64)), (20, .one (.ro Y8)), (21, .one (.int .i64)), (22, .one (.int .i64))], [(0, .var 174 [.ptr 0 0, .own 1]), (1, .row 5 (.int .u8) .plain)], 2, []⟩
noncomputable def f581p5N : NoteR := ⟨[0, 6, 7, 20, 21, 22], [], []⟩
noncomputable def f581p5M : NoteR := ⟨[0, 2, 3, 4, 5, 6, 7, 20, 21, 22], [], []⟩
noncomputable def f581p5C : Code := firstC (codesAt 8102 (codeOf Tryz.f81) 1)
noncomputable def f581p5 {R : Type} (k : Nat) (k0 : D106 → Option R) (k1 : D107 → Option R) (v : D107) : Option R :=
  bif ((decide ((0 : Int) ≤ v.2.2.2.2.1)) && (decide (v.2.2.2.2.1 < (v.2.2.1.length : Int)))) then
  Option.bind (f602F k (v.2.2.1.getD (Int.toNat v.2.2.2.2.1) (ByteArray.empty, [])).1) fun y30 =>
  bif (!y30) then
    k0 (v.1, ByteArray.empty, v.2.2.2.2.1, (0 : Int), (7 : Int), v.2.1, v.2.2.1, v.2.2.2.1, v.2.2.2.2.1, v.2.2.2.2.2.1, ())
  else
  bif (sliceBds (0 : Int) v.2.2.2.2.1 (v.1.length : Int)) then
  Option.bind (f619v0F k (((v.1.take (Int.toNat v.2.2.2.2.1)).drop 0), (v.2.2.1.getD (Int.toNat v.2.2.2.2.1) (ByteArray.empty, [])).1, (v.2.2.1.getD (Int.toNat v.2.2.2.2.1) (ByteArray.empty, [])).2, ())) fun y31 =>
  bif y31.1 then
    k0 (v.1, ByteArray.empty, v.2.2.2.2.1, (0 : Int), (13 : Int), v.2.1, v.2.2.1, v.2.2.2.1, v.2.2.2.2.1, v.2.2.2.2.2.1, ())
  else
  bif (decide ((y31.2.2.1.length : Int) > (60 : Int))) then
    k0 (v.1, ByteArray.empty, v.2.2.2.2.1, (0 : Int), (2 : Int), v.2.1, v.2.2.1, v.2.2.2.1, v.2.2.2.2.1, v.2.2.2.2.2.1, ())
  else
  bif ((y31.2.2.1.length : Int) == (0 : Int)) then
    k0 (v.1, ByteArray.empty, v.2.2.2.2.1, (0 : Int), (1 : Int), v.2.1, v.2.2.1, v.2.2.2.1, v.2.2.2.2.1, v.2.2.2.2.2.1, ())
  else
  f581l2 k
    (fun (w32 : D106) =>
      k0 (w32.1, w32.2.1, w32.2.2.1, w32.2.2.2.1, w32.2.2.2.2.1, w32.2.2.2.2.2.1, w32.2.2.2.2.2.2.1, w32.2.2.2.2.2.2.2.1, w32.2.2.2.2.2.2.2.2.1, w32.2.2.2.2.2.2.2.2.2.1, ()))
    (fun (w33 : D107) =>
      k1 (w33.1, w33.2.1, w33.2.2.1, w33.2.2.2.1, w33.2.2.2.2.1, w33.2.2.2.2.2.1, ()))
    (v.1, v.2.1, v.2.2.2.2.1, v.2.2.1, v.2.2.2.1, v.2.2.2.2.1, y31.2.2.1, (y31.2.2.1.length : Int), (0 : Int), y31.2.1, y31.2.2.1, v.2.2.2.2.2.1, ())
  else none
  else none
noncomputable def f581p5S (k : Nat) : Sum1 := part2Sum f581p5H f581p5N (f581p4S k) (fun R K v => f581p5 k (fun w => K .ret (encSt f581p5X0 w)) (fun w => K .normal (encSt f581p5X1 w)) v)
theorem f581p5E (k : Nat) (R : Type) (K : X → St → Option R) (v : f581p5H.Den) : evS tab (f581T k) Tryz.f81.ntmps [(4148454, f581p1S k), (259278, f581l3S k)] f581p5C 8102 (partK f581p5M K) (encSt f581p5H v) = f581p5 k (fun w => K .ret (encSt f581p5X0 w)) (fun w => K .normal (encSt f581p5X1 w)) v := by kernel_rfl
theorem f581p5I (k : Nat) : SumsOk P Tryz.f81.ntmps [(4148454, f581p1S k), (259278, f581l3S k)] f581p5C 8102 := ((SumsOk.nil).cons (c := f581l3C) (by kernel_rfl) (f581l3O k)).cons (c := f581p1C) (by kernel_rfl) (f581p1O k)
theorem f581p5O (k : Nat) : SumOk P Tryz.f81.ntmps f581p5C (f581p5S k) := part2_ok tabOk (f581TS k) mixed (f581p5I k) ((show f581p4C = f581p5C by kernel_rfl) ▸ f581p4O k) (f581p5E k)
noncomputable def f581l6H : Shape := ⟨[(0, .one (.ro Y8)), (6, .one (.ptr 0 0)), (7, .one (.int .i64)), (20, .one (.ro Y8)), (21, .one (.int .i64)), (22, .one (.int .i64))], [(0, .var 174 [.ptr 0 0, .own 1]), (1, .row 5 (.int .u8) .plain)], 2, []⟩
noncomputable def f581l6X0 : Shape := ⟨[(2, .one (.str)), (3, .one (.int .i64)), (4, .one (.int .i64)), (5, .one (.int .i64)), (6, .one (.ptr 0 0))], [(0, .var 174 [.ptr 0 0, .own 1]), (1, .row 5 (.int .u8) .plain)], 2, []⟩
noncomputable def f581l6X1 : Shape := ⟨[(6, .one (.ptr 0 0))], [(0, .var 174 [.ptr 0 0, .own 1]), (1, .row 5 (.int .u8) .plain)], 2, []⟩
noncomputable def f581l6N : NoteR := ⟨[0, 6, 7, 20, 21, 22], [], []⟩
noncomputable def f581l6M : NoteR := ⟨[2, 3, 4, 5, 6], [], []⟩
noncomputable def f581l6C : Code := firstC (codesAt 506 (codeOf Tryz.f81) 1)
noncomputable def f581l6s {R : Type} (k : Nat) (rec : D107 → Option R) (k0 : D110 → Option R) (k1 : List Int × Unit → Option R) (v : D107) : Option R :=
  bif (decide (v.2.2.2.2.1 < v.2.2.2.1)) then
    f581p5 k
      (fun (w34 : D106) =>
        k0 (w34.2.1, w34.2.2.1, w34.2.2.2.1, w34.2.2.2.2.1, w34.2.2.2.2.2.2.2.2.2.1, ()))
      (fun (w35 : D107) =>
        rec (w35.1, w35.2.1, w35.2.2.1, w35.2.2.2.1, (IntKind.i64.wrap (w35.2.2.2.2.1 + (1 : Int))), w35.2.2.2.2.2.1, ()))
      (v.1, v.2.1, v.2.2.1, v.2.2.2.1, v.2.2.2.2.1, v.2.2.2.2.2.1, ())
  else
  k1 (v.2.2.2.2.2.1, ())
noncomputable def f581l6 {R : Type} (k : Nat) (k0 : D110 → Option R) (k1 : List Int × Unit → Option R) (v : D107) : Option R := iterS (fun rec v => f581l6s k rec k0 k1 v) k v
noncomputable def f581l6S (k : Nat) : Sum1 := loopSum f581l6H f581l6N k (fun R rec K v => f581l6s k rec (fun w => K .ret (encSt f581l6X0 w)) (fun w => K (.exit 0) (encSt f581l6X1 w)) v)
theorem f581l6E (k : Nat) (R : Type) (rec : St → Option R) (K : X → St → Option R) (v : f581l6H.Den) : evS tab (f581T k) Tryz.f81.ntmps [(4148454, f581p1S k), (259278, f581l3S k), (8102, f581p5S k)] (bodyOf f581l6C) 1012 (bodyK f581l6N f581l6M rec K) (encSt f581l6H v) = f581l6s k (fun v => rec (encSt f581l6H v)) (fun w => K .ret (encSt f581l6X0 w)) (fun w => K (.exit 0) (encSt f581l6X1 w)) v := by kernel_rfl
theorem f581l6I (k : Nat) : SumsOk P Tryz.f81.ntmps [(4148454, f581p1S k), (259278, f581l3S k), (8102, f581p5S k)] (bodyOf f581l6C) 1012 := (((SumsOk.nil).cons (c := f581p5C) (by kernel_rfl) (f581p5O k)).cons (c := f581l3C) (by kernel_rfl) (f581l3O k)).cons (c := f581p1C) (by kernel_rfl) (f581p1O k)
theorem f581l6O (k : Nat) : SumOk P Tryz.f81.ntmps f581l6C (f581l6S k) := (show f581l6C = .loop (bodyOf f581l6C) by kernel_rfl) ▸ sum_loop tabOk (f581TS k) mixed (f581l6I k) (f581l6E k)
noncomputable def f581l7H : Shape := ⟨[(0, .one (.ro Y8)), (6, .one (.ptr 0 0)), (7, .one (.int .i64)), (20, .one (.ro Y8)), (21, .one (.int .i64)), (22, .one (.int .i64))], [(0, .var 174 [.nil .ptr, .emp])], 1, []⟩
noncomputable def f581l7X0 : Shape := ⟨[(2, .one (.str)), (3, .one (.int .i64)), (4, .one (.int .i64)), (5, .one (.int .i64)), (6, .one (.ptr 0 0))], [(0, .var 174 [.nil .ptr, .emp])], 1, []⟩
noncomputable def f581l7X1 : Shape := ⟨[(2, .one (.str)), (3, .one (.int .i64)), (4, .one (.int .i64)), (5, .one (.int .i64)), (6, .one (.ptr 0 0))], [(0, .var 174 [.ptr 0 0, .own 1]), (1, .row 5 (.int .u8) .plain)], 2, []⟩
noncomputable def f581l7X2 : Shape := ⟨[(6, .one (.ptr 0 0))], [(0, .var 174 [.ptr 0 0, .own 1]), (1, .row 5 (.int .u8) .plain)], 2, []⟩
noncomputable def f581l7X3 : Shape := ⟨[(6, .one (.ptr 0 0))], [(0, .var 174 [.nil .ptr, .emp])], 1, []⟩
noncomputable def f581l7N : NoteR := ⟨[0, 6, 7, 20, 21, 22], [], []⟩
noncomputable def f581l7M : NoteR := ⟨[2, 3, 4, 5, 6], [], []⟩
noncomputable def f581l7C : Code := firstC (codesAt 506 (codeOf Tryz.f81) 1)
noncomputable def f581l7s {R : Type} (k : Nat) (rec : D109 → Option R) (k0 : D51 → Option R) (k1 : D110 → Option R) (k2 : List Int × Unit → Option R) (k3 : Unit → Option R) (v : D109) : Option R :=
  bif (decide (v.2.2.2.2.1 < v.2.2.2.1)) then
    f581p4 k
      (fun (w27 : D108) =>
        k0 (w27.2.1, w27.2.2.1, w27.2.2.2.1, w27.2.2.2.2.1, ()))
      (fun (w28 : D106) =>
        k1 (w28.2.1, w28.2.2.1, w28.2.2.2.1, w28.2.2.2.2.1, w28.2.2.2.2.2.2.2.2.2.1, ()))
      (fun (w29 : D107) =>
        f581l6 k
          (fun (w36 : D110) =>
            k1 (w36.1, w36.2.1, w36.2.2.1, w36.2.2.2.1, w36.2.2.2.2.1, ()))
          (fun (w37 : List Int × Unit) =>
            k2 (w37.1, ()))
          (w29.1, w29.2.1, w29.2.2.1, w29.2.2.2.1, (IntKind.i64.wrap (w29.2.2.2.2.1 + (1 : Int))), w29.2.2.2.2.2.1, ()))
      (fun (w38 : D109) =>
        rec (w38.1, w38.2.1, w38.2.2.1, w38.2.2.2.1, (IntKind.i64.wrap (w38.2.2.2.2.1 + (1 : Int))), ()))
      (v.1, v.2.1, v.2.2.1, v.2.2.2.1, v.2.2.2.2.1, ())
  else
  k3 (())
noncomputable def f581l7 {R : Type} (k : Nat) (k0 : D51 → Option R) (k1 : D110 → Option R) (k2 : List Int × Unit → Option R) (k3 : Unit → Option R) (v : D109) : Option R := iterS (fun rec v => f581l7s k rec k0 k1 k2 k3 v) k v
theorem f581l6Rd (k : Nat) : SumRd P Tryz.f81.ntmps (bodyOf f581l6C) (f581l6S k) k := loop_rd tabOk (f581TS k) mixed (f581l6I k) (f581l6E k)
noncomputable def f581l7S (k : Nat) : Sum1 := loop2Sum f581l7H f581l7N (f581l6S k) k (fun R rec K v => f581l7s k rec (fun w => K .ret (encSt f581l7X0 w)) (fun w => K .ret (encSt f581l7X1 w)) (fun w => K (.exit 0) (encSt f581l7X2 w)) (fun w => K (.exit 0) (encSt f581l7X3 w)) v)
theorem f581l7E (k : Nat) (R : Type) (rec : f581l7H.Den → Option R) (K : X → St → Option R) (v : f581l7H.Den) : evS tab (f581T k) Tryz.f81.ntmps [(4148454, f581p1S k), (259278, f581l3S k), (8102, f581p5S k)] (bodyOf f581l7C) 1012 (step2K f581l7H f581l7N f581l7M (f581l6S k) rec K) (encSt f581l7H v) = f581l7s k rec (fun w => K .ret (encSt f581l7X0 w)) (fun w => K .ret (encSt f581l7X1 w)) (fun w => K (.exit 0) (encSt f581l7X2 w)) (fun w => K (.exit 0) (encSt f581l7X3 w)) v := by kernel_rfl
theorem f581l7I (k : Nat) : SumsOk P Tryz.f81.ntmps [(4148454, f581p1S k), (259278, f581l3S k), (8102, f581p5S k)] (bodyOf f581l7C) 1012 := (((SumsOk.nil).cons (c := f581p5C) (by kernel_rfl) (f581p5O k)).cons (c := f581l3C) (by kernel_rfl) (f581l3O k)).cons (c := f581p1C) (by kernel_rfl) (f581p1O k)
theorem f581l7Rd (k : Nat) : SumRd P Tryz.f81.ntmps (bodyOf f581l7C) (f581l7S k) (k + (k)) := loop2_rd tabOk (f581TS k) mixed (f581l7I k) ((show bodyOf f581l6C = bodyOf f581l7C by kernel_rfl) ▸ f581l6Rd k) (f581l7E k)
theorem f581l7O (k : Nat) : SumOk P Tryz.f81.ntmps f581l7C (f581l7S k) := (show f581l7C = .loop (bodyOf f581l7C) by kernel_rfl) ▸ (f581l7Rd k).ok
noncomputable def f581p8H : Shape := ⟨[(0, .one (.ro Y8)), (6, .one (.ptr 0 0)), (7, .one (.int .i64))], [(0, .var 174 [.nil .ptr, .emp])], 1, []⟩
noncomputable def f581p8X0 : Shape := ⟨[(2, .one (.str)), (3, .one (.int .i64)), (4, .one (.int .i64)), (5, .one (.int .i64)), (6, .one (.ptr 0 0))], [(0, .var 174 [.nil .ptr, .emp])], 1, []⟩
noncomputable def f581p8X1 : Shape := ⟨[(2, .one (.str)), (3, .one (.int .i64)), (4, .one (.int .i64)), (5, .one (.int .i64)), (6, .one (.ptr 0 0))], [(0, .var 174 [.ptr 0 0, .own 1]), (1, .row 5 (.int .u8) .plain)], 2, []⟩
noncomputable def f581p8X2 : Shape := ⟨[(6, .one (.ptr 0 0))], [(0, .var 174 [.ptr 0 0, .own 1]), (1, .row 5 (.int .u8) .plain)], 2, []⟩
noncomputable def f581p8X3 : Shape := ⟨[(6, .one (.ptr 0 0))], [(0, .var 174 [.nil .ptr, .emp])], 1, []⟩
noncomputable def f581p8N : NoteR := ⟨[0, 6, 7], [], []⟩
noncomputable def f581p8M : NoteR := ⟨[0, 2, 3, 4, 5, 6, 7, 20, 21, 22], [], []⟩
noncomputable def f581p8C : Code := firstC (codesAt 126 (codeOf Tryz.f81) 1)
noncomputable def f581p8 {R : Type} (k : Nat) (k0 : D51 → Option R) (k1 : D110 → Option R) (k2 : List Int × Unit → Option R) (k3 : Unit → Option R) (v : List D56 × Int × Unit) : Option R :=
  f581l7 k
    (fun (w39 : D51) =>
      k0 (w39.1, w39.2.1, w39.2.2.1, w39.2.2.2.1, ()))
    (fun (w40 : D110) =>
      k1 (w40.1, w40.2.1, w40.2.2.1, w40.2.2.2.1, w40.2.2.2.2.1, ()))
    (fun (w41 : List Int × Unit) =>
      k2 (w41.1, ()))
    (fun (w42 : Unit) =>
      k3 (()))
    (v.1, v.2.1, v.1, (v.1.length : Int), (0 : Int), ())
noncomputable def f581p8S (k : Nat) : Sum1 := partSum f581p8H f581p8N (fun R K v => f581p8 k (fun w => K .ret (encSt f581p8X0 w)) (fun w => K .ret (encSt f581p8X1 w)) (fun w => K .normal (encSt f581p8X2 w)) (fun w => K .normal (encSt f581p8X3 w)) v)
theorem f581p8E (k : Nat) (R : Type) (K : X → St → Option R) (v : f581p8H.Den) : evS tab (f581T k) Tryz.f81.ntmps [(4148454, f581p1S k), (259278, f581l3S k), (8102, f581p5S k), (506, f581l7S k)] f581p8C 126 (partK f581p8M K) (encSt f581p8H v) = f581p8 k (fun w => K .ret (encSt f581p8X0 w)) (fun w => K .ret (encSt f581p8X1 w)) (fun w => K .normal (encSt f581p8X2 w)) (fun w => K .normal (encSt f581p8X3 w)) v := by kernel_rfl
theorem f581p8I (k : Nat) : SumsOk P Tryz.f81.ntmps [(4148454, f581p1S k), (259278, f581l3S k), (8102, f581p5S k), (506, f581l7S k)] f581p8C 126 := ((((SumsOk.nil).cons (c := f581l7C) (by kernel_rfl) (f581l7O k)).cons (c := f581p5C) (by kernel_rfl) (f581p5O k)).cons (c := f581l3C) (by kernel_rfl) (f581l3O k)).cons (c := f581p1C) (by kernel_rfl) (f581p1O k)
theorem f581p8O (k : Nat) : SumOk P Tryz.f81.ntmps f581p8C (f581p8S k) := sum_part tabOk (f581TS k) mixed (f581p8I k) (f581p8E k)
noncomputable def f581F (k : Nat) (x : (List D56)) : Option (D112) :=
  bif ((x.length : Int) == (0 : Int)) then
    some (ByteArray.empty, (0 : Int), (0 : Int), (1 : Int))
  else
  bif (decide ((x.length : Int) > (6 : Int))) then
    some (ByteArray.empty, (0 : Int), (0 : Int), (2 : Int))
  else
  f581p8 k
    (fun (w43 : D51) =>
      some (w43.1, w43.2.1, w43.2.2.1, w43.2.2.2.1))
    (fun (w44 : D110) =>
      some (w44.1, w44.2.1, w44.2.2.1, w44.2.2.2.1))
    (fun (w45 : List Int × Unit) =>
      bif (!(List.isEmpty w45.1) && (List.all w45.1 fun x => decide ((0 : Int) ≤ x) && decide (x ≤ 255))) then
      some ((strOfNums w45.1), (0 : Int), (0 : Int), (0 : Int))
      else none)
    (fun (w46 : Unit) =>
      some (ByteArray.empty, (0 : Int), (0 : Int), (0 : Int)))
    (x, (0 : Int), ())
noncomputable def f581L (k : Nat) : Sums := [(4148454, f581p1S k), (259278, f581l3S k), (8102, f581p5S k), (506, f581l7S k), (126, f581p8S k)]
theorem f581LS (k : Nat) : SumsOk P Tryz.f81.ntmps (f581L k) (codeOf Tryz.f81) 1 := (((((SumsOk.nil).cons (c := f581p8C) (by kernel_rfl) (f581p8O k)).cons (c := f581l7C) (by kernel_rfl) (f581l7O k)).cons (c := f581p5C) (by kernel_rfl) (f581p5O k)).cons (c := f581l3C) (by kernel_rfl) (f581l3O k)).cons (c := f581p1C) (by kernel_rfl) (f581p1O k)
theorem f581E (k : Nat) (x : (List D56)) : evFS tab (f581T k) (f581L k) Tryz.f81.ntmps Tryz.f81.results.toList (codeOf Tryz.f81) (argsV [.dat (.slice Y8)] x) [.dat .str, .dat (.int .i64), .dat (.int .i64), .dat (.int .i64)] none = f581F k x := by kernel_rfl
theorem f581Ok (k : Nat) (x : (List D56)) (y : D112) (h : f581F k x = some y) : FnOk P 81 [.dat (.slice Y8)] [.dat .str, .dat (.int .i64), .dat (.int .i64), .dat (.int .i64)] x y :=
  evFS_sound tabOk (f581TS k) mixed Tryz.func81 (c := codeOf Tryz.f81) (by kernel_rfl) (f581LS k) ((f581E k x).trans h)
noncomputable def f581A (k : Nat) := entFnB [.dat (.slice Y8)] [.dat .str, .dat (.int .i64), .dat (.int .i64), .dat (.int .i64)] (f581F k)
theorem f581Ao (k : Nat) : EntOk P 81 (f581A k) := entFnB_ok (f581Ok k)
/-! ## midrange/save.CheckVolumes -/
noncomputable def f536T (k : Nat) : Table := [(81, f581A k)]
theorem f536TS (k : Nat) : Sound P (f536T k) := (Sound.nil).consE f581B (f581Ao k)
theorem f536B : HasBody P 36 := ⟨Tryz.f36, Tryz.func36, by kernel_rfl, by kernel_rfl⟩
noncomputable def f536F (k : Nat) (x : (List D56)) : Option (Int × Int × Int) :=
  Option.bind (f581F k x) fun y1 =>
  bif (y1.2.2.2 != (0 : Int)) then
    some (y1.2.1, y1.2.2.1, y1.2.2.2)
  else
  some ((y1.1.size : Int), (0 : Int), (0 : Int))
noncomputable def f536L (k : Nat) : Sums := []
theorem f536LS (k : Nat) : SumsOk P Tryz.f36.ntmps (f536L k) (codeOf Tryz.f36) 1 := SumsOk.nil
theorem f536E (k : Nat) (x : (List D56)) : evFS tab (f536T k) (f536L k) Tryz.f36.ntmps Tryz.f36.results.toList (codeOf Tryz.f36) (argsV [.dat (.slice Y8)] x) [.dat (.int .i64), .dat (.int .i64), .dat (.int .i64)] none = f536F k x := by kernel_rfl
theorem f536Ok (k : Nat) (x : (List D56)) (y : Int × Int × Int) (h : f536F k x = some y) : FnOk P 36 [.dat (.slice Y8)] [.dat (.int .i64), .dat (.int .i64), .dat (.int .i64)] x y :=
  evFS_sound tabOk (f536TS k) mixed Tryz.func36 (c := codeOf Tryz.f36) (by kernel_rfl) (f536LS k) ((f536E k x).trans h)
noncomputable def f536A (k : Nat) := entFnB [.dat (.slice Y8)] [.dat (.int .i64), .dat (.int .i64), .dat (.int .i64)] (f536F k)
theorem f536Ao (k : Nat) : EntOk P 36 (f536A k) := entFnB_ok (f536Ok k)
/-! ## midrange/midrangelaw34.awake -/
noncomputable def f513T (k : Nat) : Table := [(21, f521A k), (36, f536A k)]
theorem f513TS (k : Nat) : Sound P (f513T k) := ((Sound.nil).consE f536B (f536Ao k)).consE f521B (f521Ao k)
theorem f513B : HasBody P 13 := ⟨Tryz.f13, Tryz.func13, by kernel_rfl, by kernel_rfl⟩
noncomputable def f513F (k : Nat) (x : Unit) : Option (Bool) :=
  Option.bind (f521F k ([], [(⟨#[65]⟩ : ByteArray)], (1 : Int))) fun y1 =>
  bif (y1.2 != (0 : Int)) then
    some false
  else
  bif ((y1.1.length : Int) != (1 : Int)) then
    some false
  else
  bif (decide ((0 : Int) < (y1.1.length : Int))) then
  bif (((y1.1.getD 0 (ByteArray.empty, [])).2.length : Int) != (1 : Int)) then
    some false
  else
  bif (decide ((0 : Int) < (y1.1.length : Int))) then
  bif (decide ((0 : Int) < ((y1.1.getD 0 (ByteArray.empty, [])).2.length : Int))) then
  let t2 := (((y1.1.getD 0 (ByteArray.empty, [])).2.getD 0 ByteArray.empty).size : Int)
  bif (t2 != (64 : Int)) then
    some false
  else
  Option.bind (f536F k y1.1) fun y3 =>
  bif (y3.2.2 == (0 : Int)) then
    bif (y3.1 == (1 : Int)) then
      bif (decide ((0 : Int) < (y1.1.length : Int))) then
      bif (decide ((0 : Int) < ((y1.1.getD 0 (ByteArray.empty, [])).2.length : Int))) then
      bif (sliceBds (0 : Int) (4 : Int) (((y1.1.getD 0 (ByteArray.empty, [])).2.getD 0 ByteArray.empty).size : Int)) then
      let t4 := (((y1.1.getD 0 (ByteArray.empty, [])).2.getD 0 ByteArray.empty).extract 0 4)
      some (strEq t4 (⟨#[1, 0, 1, 129]⟩ : ByteArray))
      else none
      else none
      else none
    else
    some false
  else
  some false
  else none
  else none
  else none
noncomputable def f513L (k : Nat) : Sums := []
theorem f513LS (k : Nat) : SumsOk P Tryz.f13.ntmps (f513L k) (codeOf Tryz.f13) 1 := SumsOk.nil
theorem f513E (k : Nat) (x : Unit) : evFS tab (f513T k) (f513L k) Tryz.f13.ntmps Tryz.f13.results.toList (codeOf Tryz.f13) (argsV [] x) [.dat .bool] none = f513F k x := by kernel_rfl
theorem f513Ok (k : Nat) (x : Unit) (y : Bool) (h : f513F k x = some y) : FnOk P 13 [] [.dat .bool] x y :=
  evFS_sound tabOk (f513TS k) mixed Tryz.func13 (c := codeOf Tryz.f13) (by kernel_rfl) (f513LS k) ((f513E k x).trans h)
noncomputable def f513A (k : Nat) := entFnB [] [.dat .bool] (f513F k)
theorem f513Ao (k : Nat) : EntOk P 13 (f513A k) := entFnB_ok (f513Ok k)
noncomputable def f643A (k : Nat) := entFnB [.dat .str, .dat .str] [.dat .str] (f643F k)
theorem f643Ao (k : Nat) : EntOk P 143 (f643A k) := entFnB_ok (f643Ok k)
noncomputable def f644A (k : Nat) := entFnB [.dat .str, .dat .str] [.dat .bool] (f644F k)
theorem f644Ao (k : Nat) : EntOk P 144 (f644A k) := entFnB_ok (f644Ok k)
/-! ## midrange/records.SizeOf -/
noncomputable def f613T (k : Nat) : Table := [(107, f607A k), (145, f645A k)]
theorem f613TS (k : Nat) : Sound P (f613T k) := ((Sound.nil).consE f645B (f645Ao k)).consE f607B (f607Ao k)
theorem f613B : HasBody P 113 := ⟨Tryz.f113, Tryz.func113, by kernel_rfl, by kernel_rfl⟩
noncomputable def f613F (k : Nat) (x : (ByteArray × (List D6))) : Option (Int × Int) :=
  Option.bind (f607F k (x.1, x.2)) fun y1 =>
  bif (y1 != (0 : Int)) then
    some ((0 : Int), y1)
  else
  Option.bind (f645F k (x.1, x.2)) fun y2 =>
  some (y2, (0 : Int))
noncomputable def f613L (k : Nat) : Sums := []
theorem f613LS (k : Nat) : SumsOk P Tryz.f113.ntmps (f613L k) (codeOf Tryz.f113) 1 := SumsOk.nil
theorem f613E (k : Nat) (x : (ByteArray × (List D6))) : evFS tab (f613T k) (f613L k) Tryz.f113.ntmps Tryz.f113.results.toList (codeOf Tryz.f113) (argsV [.agg Y2] x) [.dat (.int .i64), .dat (.int .i64)] none = f613F k x := by kernel_rfl
theorem f613Ok (k : Nat) (x : (ByteArray × (List D6))) (y : Int × Int) (h : f613F k x = some y) : FnOk P 113 [.agg Y2] [.dat (.int .i64), .dat (.int .i64)] x y :=
  evFS_sound tabOk (f613TS k) mixed Tryz.func113 (c := codeOf Tryz.f113) (by kernel_rfl) (f613LS k) ((f613E k x).trans h)
noncomputable def f613A (k : Nat) := entFnB [.agg Y2] [.dat (.int .i64), .dat (.int .i64)] (f613F k)
theorem f613Ao (k : Nat) : EntOk P 113 (f613A k) := entFnB_ok (f613Ok k)
/-! ## (*midrange/save.reader).fail, handed what it may write -/
noncomputable def f578v0I : Shape := ⟨[(0, .one (.ptr 0 0)), (1, .one (.int .i64))], [(0, .var 128 [.str, .int .i64])], 1, []⟩
noncomputable def f578v0U : Shape := ⟨[], [(0, .var 128 [.str, .int .i64])], 1, []⟩
noncomputable def f578v0T (k : Nat) : Table := []
theorem f578v0TS (k : Nat) : Sound P (f578v0T k) := Sound.nil
theorem f578B : HasBody P 78 := ⟨Tryz.f78, Tryz.func78, by kernel_rfl, by kernel_rfl⟩
noncomputable def f578v0F (k : Nat) (x : D113) : Option (ByteArray × Int × Unit) :=
  bif (x.2.2.1 == (0 : Int)) then
    some (x.2.1, x.1, ())
  else
  some (x.2.1, x.2.2.1, ())
noncomputable def f578v0L (k : Nat) : Sums := []
theorem f578v0LS (k : Nat) : SumsOk P Tryz.f78.ntmps (f578v0L k) (codeOf Tryz.f78) 1 := SumsOk.nil
theorem f578v0E (k : Nat) (x : f578v0I.Den) : evG tab (f578v0T k) (f578v0L k) Tryz.f78.ntmps Tryz.f78.results.toList (codeOf Tryz.f78) f578v0I x [] [] f578v0U none = f578v0F k x := by kernel_rfl
theorem f578v0Ok (k : Nat) (x : f578v0I.Den) (y : f578v0U.Den) (h : f578v0F k x = some y) : GnOk P 78 f578v0I f578v0U x y :=
  evG_sound tabOk (f578v0TS k) mixed Tryz.func78 (c := codeOf Tryz.f78) (by kernel_rfl) (f578v0LS k) ((f578v0E k x).trans h)
/-! ## (*midrange/save.reader).take, handed what it may write -/
noncomputable def f610v0I : Shape := ⟨[(0, .one (.ptr 0 0)), (1, .one (.int .i64))], [(0, .var 128 [.str, .int .i64])], 1, []⟩
noncomputable def f610v0U : Shape := ⟨[(0, .one (.str))], [(0, .var 128 [.str, .int .i64])], 1, []⟩
noncomputable def f610v0T (k : Nat) : Table := [(78, entG f578v0I f578v0U (f578v0F k))]
theorem f610v0TS (k : Nat) : Sound P (f610v0T k) := (Sound.nil).consE f578B (entG_ok (f578v0Ok k))
theorem f610B : HasBody P 110 := ⟨Tryz.f110, Tryz.func110, by kernel_rfl, by kernel_rfl⟩
noncomputable def f610v0F (k : Nat) (x : D113) : Option (D114) :=
  bif (x.2.2.1 != (0 : Int)) then
    some (ByteArray.empty, x.2.1, x.2.2.1, ())
  else
  bif (decide (x.1 > (x.2.1.size : Int))) then
    Option.bind (f578v0F k ((9 : Int), x.2.1, x.2.2.1, ())) fun y1 =>
    some (ByteArray.empty, y1.1, y1.2.1, ())
  else
  bif (sliceBds (0 : Int) x.1 (x.2.1.size : Int)) then
  bif (sliceBds x.1 (x.2.1.size : Int) (x.2.1.size : Int)) then
  some ((x.2.1.extract 0 (Int.toNat x.1)), (x.2.1.extract (Int.toNat x.1) (Int.toNat (x.2.1.size : Int))), x.2.2.1, ())
  else none
  else none
noncomputable def f610v0L (k : Nat) : Sums := []
theorem f610v0LS (k : Nat) : SumsOk P Tryz.f110.ntmps (f610v0L k) (codeOf Tryz.f110) 1 := SumsOk.nil
theorem f610v0E (k : Nat) (x : f610v0I.Den) : evG tab (f610v0T k) (f610v0L k) Tryz.f110.ntmps Tryz.f110.results.toList (codeOf Tryz.f110) f610v0I x [.dat .bool] [] f610v0U none = f610v0F k x := by kernel_rfl
theorem f610v0Ok (k : Nat) (x : f610v0I.Den) (y : f610v0U.Den) (h : f610v0F k x = some y) : GnOk P 110 f610v0I f610v0U x y :=
  evG_sound tabOk (f610v0TS k) mixed Tryz.func110 (c := codeOf Tryz.f110) (by kernel_rfl) (f610v0LS k) ((f610v0E k x).trans h)
/-! ## (*midrange/save.reader).number, handed what it may write -/
noncomputable def f576v0I : Shape := ⟨[(0, .one (.ptr 0 0)), (1, .one (.int .i64))], [(0, .var 128 [.str, .int .i64])], 1, []⟩
noncomputable def f576v0U : Shape := ⟨[(0, .one (.int .i64))], [(0, .var 128 [.str, .int .i64])], 1, []⟩
noncomputable def f576v0T (k : Nat) : Table := [(78, entG f578v0I f578v0U (f578v0F k)), (110, entG f610v0I f610v0U (f610v0F k))]
theorem f576v0TS (k : Nat) : Sound P (f576v0T k) := ((Sound.nil).consE f610B (entG_ok (f610v0Ok k))).consE f578B (entG_ok (f578v0Ok k))
theorem f576B : HasBody P 76 := ⟨Tryz.f76, Tryz.func76, by kernel_rfl, by kernel_rfl⟩
noncomputable def f576v0F (k : Nat) (x : D113) : Option (D113) :=
  Option.bind (f610v0F k ((1 : Int), x.2.1, x.2.2.1, ())) fun y1 =>
  bif (strEq y1.1 ByteArray.empty) then
    some ((0 : Int), y1.2.1, y1.2.2.1, ())
  else
  bif (decide ((0 : Int) < (y1.1.size : Int))) then
  bif (decide ((IntKind.i64.wrap (bt y1.1 (0 : Int))) > x.1)) then
    Option.bind (f578v0F k ((5 : Int), y1.2.1, y1.2.2.1, ())) fun y2 =>
    some ((0 : Int), y2.1, y2.2.1, ())
  else
  bif (decide ((0 : Int) < (y1.1.size : Int))) then
  some ((IntKind.i64.wrap (bt y1.1 (0 : Int))), y1.2.1, y1.2.2.1, ())
  else none
  else none
noncomputable def f576v0L (k : Nat) : Sums := []
theorem f576v0LS (k : Nat) : SumsOk P Tryz.f76.ntmps (f576v0L k) (codeOf Tryz.f76) 1 := SumsOk.nil
theorem f576v0E (k : Nat) (x : f576v0I.Den) : evG tab (f576v0T k) (f576v0L k) Tryz.f76.ntmps Tryz.f76.results.toList (codeOf Tryz.f76) f576v0I x [.dat .bool] [] f576v0U none = f576v0F k x := by kernel_rfl
theorem f576v0Ok (k : Nat) (x : f576v0I.Den) (y : f576v0U.Den) (h : f576v0F k x = some y) : GnOk P 76 f576v0I f576v0U x y :=
  evG_sound tabOk (f576v0TS k) mixed Tryz.func76 (c := codeOf Tryz.f76) (by kernel_rfl) (f576v0LS k) ((f576v0E k x).trans h)
/-! ## (*midrange/save.reader).name, handed what it may write -/
noncomputable def f611v0I : Shape := ⟨[(0, .one (.ptr 0 0))], [(0, .var 128 [.str, .int .i64])], 1, []⟩
noncomputable def f611v0U : Shape := ⟨[(0, .one (.str))], [(0, .var 128 [.str, .int .i64])], 1, []⟩
noncomputable def f611v0T (k : Nat) : Table := [(78, entG f578v0I f578v0U (f578v0F k)), (110, entG f610v0I f610v0U (f610v0F k)), (143, f643A k), (144, f644A k)]
theorem f611v0TS (k : Nat) : Sound P (f611v0T k) := ((((Sound.nil).consE f644B (f644Ao k)).consE f643B (f643Ao k)).consE f610B (entG_ok (f610v0Ok k))).consE f578B (entG_ok (f578v0Ok k))
theorem f611B : HasBody P 111 := ⟨Tryz.f111, Tryz.func111, by kernel_rfl, by kernel_rfl⟩
noncomputable def f611v0p0H : Shape := ⟨[(0, .one (.ptr 0 0)), (3, .one (.str))], [(0, .var 128 [.str, .int .i64])], 1, [some 0]⟩
noncomputable def f611v0p0X0 : Shape := ⟨[(3, .one (.str))], [(0, .var 128 [.str, .int .i64])], 1, [some 0]⟩
noncomputable def f611v0p0N : NoteR := ⟨[0, 3], [], []⟩
noncomputable def f611v0p0M : NoteR := ⟨[2, 3], [], []⟩
noncomputable def f611v0p0C : Code := firstC (codesAt 14 (codeOf Tryz.f111) 1)
noncomputable def f611v0p0 {R : Type} (k : Nat) (k0 : D114 → Option R) (v : D114) : Option R :=
  Option.bind (f644F k (v.1, (⟨#[32]⟩ : ByteArray))) fun y3 =>
  bif y3 then
    Option.bind (f578v0F k ((5 : Int), v.2.1, v.2.2.1, ())) fun y4 =>
    k0 (v.1, y4.1, y4.2.1, ())
  else
  k0 (v.1, v.2.1, v.2.2.1, ())
noncomputable def f611v0p0S (k : Nat) : Sum1 := partSum f611v0p0H f611v0p0N (fun R K v => f611v0p0 k (fun w => K .normal (encSt f611v0p0X0 w)) v)
theorem f611v0p0E (k : Nat) (R : Type) (K : X → St → Option R) (v : f611v0p0H.Den) : evS tab (f611v0T k) Tryz.f111.ntmps [] f611v0p0C 14 (partK f611v0p0M K) (encSt f611v0p0H v) = f611v0p0 k (fun w => K .normal (encSt f611v0p0X0 w)) v := by kernel_rfl
theorem f611v0p0I (k : Nat) : SumsOk P Tryz.f111.ntmps [] f611v0p0C 14 := SumsOk.nil
theorem f611v0p0O (k : Nat) : SumOk P Tryz.f111.ntmps f611v0p0C (f611v0p0S k) := sum_part tabOk (f611v0TS k) mixed (f611v0p0I k) (f611v0p0E k)
noncomputable def f611v0F (k : Nat) (x : ByteArray × Int × Unit) : Option (D114) :=
  Option.bind (f610v0F k ((10 : Int), x.1, x.2.1, ())) fun y1 =>
  Option.bind (f643F k (y1.1, (⟨#[32]⟩ : ByteArray))) fun y2 =>
  f611v0p0 k
    (fun (w5 : D114) =>
      some (w5.1, w5.2.1, w5.2.2.1, ()))
    (y2, y1.2.1, y1.2.2.1, ())
noncomputable def f611v0L (k : Nat) : Sums := [(14, f611v0p0S k)]
theorem f611v0LS (k : Nat) : SumsOk P Tryz.f111.ntmps (f611v0L k) (codeOf Tryz.f111) 1 := (SumsOk.nil).cons (c := f611v0p0C) (by kernel_rfl) (f611v0p0O k)
theorem f611v0E (k : Nat) (x : f611v0I.Den) : evG tab (f611v0T k) (f611v0L k) Tryz.f111.ntmps Tryz.f111.results.toList (codeOf Tryz.f111) f611v0I x [.dat .bool] [] f611v0U none = f611v0F k x := by kernel_rfl
theorem f611v0Ok (k : Nat) (x : f611v0I.Den) (y : f611v0U.Den) (h : f611v0F k x = some y) : GnOk P 111 f611v0I f611v0U x y :=
  evG_sound tabOk (f611v0TS k) mixed Tryz.func111 (c := codeOf Tryz.f111) (by kernel_rfl) (f611v0LS k) ((f611v0E k x).trans h)
/-! ## (*midrange/save.reader).flag, handed what it may write -/
noncomputable def f612v0I : Shape := ⟨[(0, .one (.ptr 0 0))], [(0, .var 128 [.str, .int .i64])], 1, []⟩
noncomputable def f612v0U : Shape := ⟨[(0, .one (.bool))], [(0, .var 128 [.str, .int .i64])], 1, []⟩
noncomputable def f612v0T (k : Nat) : Table := [(76, entG f576v0I f576v0U (f576v0F k))]
theorem f612v0TS (k : Nat) : Sound P (f612v0T k) := (Sound.nil).consE f576B (entG_ok (f576v0Ok k))
theorem f612B : HasBody P 112 := ⟨Tryz.f112, Tryz.func112, by kernel_rfl, by kernel_rfl⟩
noncomputable def f612v0F (k : Nat) (x : ByteArray × Int × Unit) : Option (D116) :=
  Option.bind (f576v0F k ((1 : Int), x.1, x.2.1, ())) fun y1 =>
  some ((y1.1 == (1 : Int)), y1.2.1, y1.2.2.1, ())
noncomputable def f612v0L (k : Nat) : Sums := []
theorem f612v0LS (k : Nat) : SumsOk P Tryz.f112.ntmps (f612v0L k) (codeOf Tryz.f112) 1 := SumsOk.nil
theorem f612v0E (k : Nat) (x : f612v0I.Den) : evG tab (f612v0T k) (f612v0L k) Tryz.f112.ntmps Tryz.f112.results.toList (codeOf Tryz.f112) f612v0I x [.dat .bool] [] f612v0U none = f612v0F k x := by kernel_rfl
theorem f612v0Ok (k : Nat) (x : f612v0I.Den) (y : f612v0U.Den) (h : f612v0F k x = some y) : GnOk P 112 f612v0I f612v0U x y :=
  evG_sound tabOk (f612v0TS k) mixed Tryz.func112 (c := codeOf Tryz.f112) (by kernel_rfl) (f612v0LS k) ((f612v0E k x).trans h)
/-! ## (*midrange/save.reader).table, handed what it may write -/
noncomputable def f577v0I : Shape := ⟨[(0, .one (.ptr 0 0))], [(0, .var 128 [.str, .int .i64])], 1, []⟩
noncomputable def f577v0U : Shape := ⟨[(0, .agg [.str, .str, .ro Y1, .ro (.pair .str .bool), .bool, .ro (.pair .bool .str)])], [(0, .var 128 [.str, .int .i64])], 1, []⟩
noncomputable def f577v0T (k : Nat) : Table := [(69, f569A k), (76, entG f576v0I f576v0U (f576v0F k)), (78, entG f578v0I f578v0U (f578v0F k)), (110, entG f610v0I f610v0U (f610v0F k)), (111, entG f611v0I f611v0U (f611v0F k)), (112, entG f612v0I f612v0U (f612v0F k)), (113, f613A k)]
theorem f577v0TS (k : Nat) : Sound P (f577v0T k) := (((((((Sound.nil).consE f613B (f613Ao k)).consE f612B (entG_ok (f612v0Ok k))).consE f611B (entG_ok (f611v0Ok k))).consE f610B (entG_ok (f610v0Ok k))).consE f578B (entG_ok (f578v0Ok k))).consE f576B (entG_ok (f576v0Ok k))).consE f569B (f569Ao k)
theorem f577B : HasBody P 77 := ⟨Tryz.f77, Tryz.func77, by kernel_rfl, by kernel_rfl⟩
noncomputable def f577v0l0H : Shape := ⟨[(0, .one (.ptr 0 0)), (2, .one (.ptr 1 0)), (3, .one (.ptr 2 0)), (4, .one (.int .i64))], [(0, .var 128 [.str, .int .i64]), (1, .var 52 [.str, .str, .own 3, .own 4, .bool, .own 5]), (2, .var 52 [.str, .str, .own 6, .own 7, .bool, .own 8]), (3, .row 156 Y1 .plain), (4, .row 158 (.pair .str .bool) .plain), (5, .row 100 (.pair .bool .str) .plain), (6, .row 156 Y1 .plain), (7, .row 158 (.pair .str .bool) .plain), (8, .row 100 (.pair .bool .str) .plain)], 9, [some 0]⟩
noncomputable def f577v0l0X0 : Shape := ⟨[(0, .one (.ptr 0 0)), (2, .one (.ptr 1 0)), (3, .one (.ptr 2 0))], [(0, .var 128 [.str, .int .i64]), (1, .var 52 [.str, .str, .own 3, .own 4, .bool, .own 5]), (2, .var 52 [.str, .str, .own 6, .own 7, .bool, .own 8]), (3, .row 156 Y1 .plain), (4, .row 158 (.pair .str .bool) .plain), (5, .row 100 (.pair .bool .str) .plain), (6, .row 156 Y1 .plain), (7, .row 158 (.pair .str .bool) .plain), (8, .row 100 (.pair .bool .str) .plain)], 9, [some 0]⟩
noncomputable def f577v0l0N : NoteR := ⟨[0, 2, 3, 4], [], []⟩
noncomputable def f577v0l0M : NoteR := ⟨[0, 2, 3], [], []⟩
noncomputable def f577v0l0C : Code := firstC (codesAt 250 (codeOf Tryz.f77) 1)
noncomputable def f577v0l0s {R : Type} (k : Nat) (rec : D118 → Option R) (k0 : D115 → Option R) (v : D118) : Option R :=
  bif (decide (v.1 > (0 : Int))) then
    bif (v.2.2.1 == (0 : Int)) then
      Option.bind (f611v0F k (v.2.1, v.2.2.1, ())) fun y4 =>
      Option.bind (f576v0F k ((255 : Int), y4.2.1, y4.2.2.1, ())) fun y5 =>
      Option.bind (f576v0F k ((255 : Int), y5.2.1, y5.2.2.1, ())) fun y6 =>
      Option.bind (f576v0F k ((255 : Int), y6.2.1, y6.2.2.1, ())) fun y7 =>
      bif (decide ((v.2.2.2.2.2.2.2.2.2.2.2.2.1.length + [(y4.1, (y5.1, (y6.1, y7.1)))].length) * 40 ≤ 140737488355328) && decide (v.2.2.2.2.2.2.2.2.2.2.2.2.1.length + [(y4.1, (y5.1, (y6.1, y7.1)))].length ≤ 9223372036854775807)) then
      rec ((IntKind.i64.wrap (v.1 - (1 : Int))), y7.2.1, y7.2.2.1, v.2.2.2.1, v.2.2.2.2.1, v.2.2.2.2.2.1, v.2.2.2.2.2.2.1, v.2.2.2.2.2.2.2.1, v.2.2.2.2.2.2.2.2.1, v.2.2.2.2.2.2.2.2.2.1, v.2.2.2.2.2.2.2.2.2.2.1, v.2.2.2.2.2.2.2.2.2.2.2.1, (v.2.2.2.2.2.2.2.2.2.2.2.2.1 ++ [(y4.1, (y5.1, (y6.1, y7.1)))]), v.2.2.2.2.2.2.2.2.2.2.2.2.2.1, v.2.2.2.2.2.2.2.2.2.2.2.2.2.2.1, ())
      else none
    else
    k0 (v.2.1, v.2.2.1, v.2.2.2.1, v.2.2.2.2.1, v.2.2.2.2.2.1, v.2.2.2.2.2.2.1, v.2.2.2.2.2.2.2.1, v.2.2.2.2.2.2.2.2.1, v.2.2.2.2.2.2.2.2.2.1, v.2.2.2.2.2.2.2.2.2.2.1, v.2.2.2.2.2.2.2.2.2.2.2.1, v.2.2.2.2.2.2.2.2.2.2.2.2.1, v.2.2.2.2.2.2.2.2.2.2.2.2.2.1, v.2.2.2.2.2.2.2.2.2.2.2.2.2.2.1, ())
  else
  k0 (v.2.1, v.2.2.1, v.2.2.2.1, v.2.2.2.2.1, v.2.2.2.2.2.1, v.2.2.2.2.2.2.1, v.2.2.2.2.2.2.2.1, v.2.2.2.2.2.2.2.2.1, v.2.2.2.2.2.2.2.2.2.1, v.2.2.2.2.2.2.2.2.2.2.1, v.2.2.2.2.2.2.2.2.2.2.2.1, v.2.2.2.2.2.2.2.2.2.2.2.2.1, v.2.2.2.2.2.2.2.2.2.2.2.2.2.1, v.2.2.2.2.2.2.2.2.2.2.2.2.2.2.1, ())
noncomputable def f577v0l0 {R : Type} (k : Nat) (k0 : D115 → Option R) (v : D118) : Option R := iterS (fun rec v => f577v0l0s k rec k0 v) k v
noncomputable def f577v0l0S (k : Nat) : Sum1 := loopSum f577v0l0H f577v0l0N k (fun R rec K v => f577v0l0s k rec (fun w => K (.exit 0) (encSt f577v0l0X0 w)) v)
theorem f577v0l0E (k : Nat) (R : Type) (rec : St → Option R) (K : X → St → Option R) (v : f577v0l0H.Den) : evS tab (f577v0T k) Tryz.f77.ntmps [] (bodyOf f577v0l0C) 500 (bodyK f577v0l0N f577v0l0M rec K) (encSt f577v0l0H v) = f577v0l0s k (fun v => rec (encSt f577v0l0H v)) (fun w => K (.exit 0) (encSt f577v0l0X0 w)) v := by kernel_rfl
theorem f577v0l0I (k : Nat) : SumsOk P Tryz.f77.ntmps [] (bodyOf f577v0l0C) 500 := SumsOk.nil
theorem f577v0l0O (k : Nat) : SumOk P Tryz.f77.ntmps f577v0l0C (f577v0l0S k) := (show f577v0l0C = .loop (bodyOf f577v0l0C) by kernel_rfl) ▸ sum_loop tabOk (f577v0TS k) mixed (f577v0l0I k) (f577v0l0E k)
noncomputable def f577v0l1H : Shape := ⟨[(0, .one (.ptr 0 0)), (2, .one (.ptr 1 0)), (3, .one (.ptr 2 0)), (6, .one (.int .i64))], [(0, .var 128 [.str, .int .i64]), (1, .var 52 [.str, .str, .own 3, .own 4, .bool, .own 5]), (2, .var 52 [.str, .str, .own 6, .own 7, .bool, .own 8]), (3, .row 156 Y1 .plain), (4, .row 158 (.pair .str .bool) .plain), (5, .row 100 (.pair .bool .str) .plain), (6, .row 156 Y1 .plain), (7, .row 158 (.pair .str .bool) .plain), (8, .row 100 (.pair .bool .str) .plain)], 9, [some 0]⟩
noncomputable def f577v0l1X0 : Shape := ⟨[(0, .one (.ptr 0 0)), (2, .one (.ptr 1 0)), (3, .one (.ptr 2 0))], [(0, .var 128 [.str, .int .i64]), (1, .var 52 [.str, .str, .own 3, .own 4, .bool, .own 5]), (2, .var 52 [.str, .str, .own 6, .own 7, .bool, .own 8]), (3, .row 156 Y1 .plain), (4, .row 158 (.pair .str .bool) .plain), (5, .row 100 (.pair .bool .str) .plain), (6, .row 156 Y1 .plain), (7, .row 158 (.pair .str .bool) .plain), (8, .row 100 (.pair .bool .str) .plain)], 9, [some 0]⟩
noncomputable def f577v0l1N : NoteR := ⟨[0, 2, 3, 6], [], []⟩
noncomputable def f577v0l1M : NoteR := ⟨[0, 2, 3], [], []⟩
noncomputable def f577v0l1C : Code := firstC (codesAt 506 (codeOf Tryz.f77) 1)
noncomputable def f577v0l1s {R : Type} (k : Nat) (rec : D118 → Option R) (k0 : D115 → Option R) (v : D118) : Option R :=
  bif (decide (v.1 > (0 : Int))) then
    bif (v.2.2.1 == (0 : Int)) then
      Option.bind (f611v0F k (v.2.1, v.2.2.1, ())) fun y10 =>
      Option.bind (f612v0F k (y10.2.1, y10.2.2.1, ())) fun y11 =>
      bif (decide ((v.2.2.2.2.2.2.2.2.2.2.2.2.2.1.length + [(y10.1, y11.1)].length) * 24 ≤ 140737488355328) && decide (v.2.2.2.2.2.2.2.2.2.2.2.2.2.1.length + [(y10.1, y11.1)].length ≤ 9223372036854775807)) then
      rec ((IntKind.i64.wrap (v.1 - (1 : Int))), y11.2.1, y11.2.2.1, v.2.2.2.1, v.2.2.2.2.1, v.2.2.2.2.2.1, v.2.2.2.2.2.2.1, v.2.2.2.2.2.2.2.1, v.2.2.2.2.2.2.2.2.1, v.2.2.2.2.2.2.2.2.2.1, v.2.2.2.2.2.2.2.2.2.2.1, v.2.2.2.2.2.2.2.2.2.2.2.1, v.2.2.2.2.2.2.2.2.2.2.2.2.1, (v.2.2.2.2.2.2.2.2.2.2.2.2.2.1 ++ [(y10.1, y11.1)]), v.2.2.2.2.2.2.2.2.2.2.2.2.2.2.1, ())
      else none
    else
    k0 (v.2.1, v.2.2.1, v.2.2.2.1, v.2.2.2.2.1, v.2.2.2.2.2.1, v.2.2.2.2.2.2.1, v.2.2.2.2.2.2.2.1, v.2.2.2.2.2.2.2.2.1, v.2.2.2.2.2.2.2.2.2.1, v.2.2.2.2.2.2.2.2.2.2.1, v.2.2.2.2.2.2.2.2.2.2.2.1, v.2.2.2.2.2.2.2.2.2.2.2.2.1, v.2.2.2.2.2.2.2.2.2.2.2.2.2.1, v.2.2.2.2.2.2.2.2.2.2.2.2.2.2.1, ())
  else
  k0 (v.2.1, v.2.2.1, v.2.2.2.1, v.2.2.2.2.1, v.2.2.2.2.2.1, v.2.2.2.2.2.2.1, v.2.2.2.2.2.2.2.1, v.2.2.2.2.2.2.2.2.1, v.2.2.2.2.2.2.2.2.2.1, v.2.2.2.2.2.2.2.2.2.2.1, v.2.2.2.2.2.2.2.2.2.2.2.1, v.2.2.2.2.2.2.2.2.2.2.2.2.1, v.2.2.2.2.2.2.2.2.2.2.2.2.2.1, v.2.2.2.2.2.2.2.2.2.2.2.2.2.2.1, ())
noncomputable def f577v0l1 {R : Type} (k : Nat) (k0 : D115 → Option R) (v : D118) : Option R := iterS (fun rec v => f577v0l1s k rec k0 v) k v
noncomputable def f577v0l1S (k : Nat) : Sum1 := loopSum f577v0l1H f577v0l1N k (fun R rec K v => f577v0l1s k rec (fun w => K (.exit 2) (encSt f577v0l1X0 w)) v)
theorem f577v0l1E (k : Nat) (R : Type) (rec : St → Option R) (K : X → St → Option R) (v : f577v0l1H.Den) : evS tab (f577v0T k) Tryz.f77.ntmps [] (bodyOf f577v0l1C) 1012 (bodyK f577v0l1N f577v0l1M rec K) (encSt f577v0l1H v) = f577v0l1s k (fun v => rec (encSt f577v0l1H v)) (fun w => K (.exit 2) (encSt f577v0l1X0 w)) v := by kernel_rfl
theorem f577v0l1I (k : Nat) : SumsOk P Tryz.f77.ntmps [] (bodyOf f577v0l1C) 1012 := SumsOk.nil
theorem f577v0l1O (k : Nat) : SumOk P Tryz.f77.ntmps f577v0l1C (f577v0l1S k) := (show f577v0l1C = .loop (bodyOf f577v0l1C) by kernel_rfl) ▸ sum_loop tabOk (f577v0TS k) mixed (f577v0l1I k) (f577v0l1E k)
noncomputable def f577v0p2H : Shape := ⟨[(0, .one (.ptr 0 0)), (2, .one (.ptr 1 0)), (3, .one (.ptr 2 0)), (10, .one (.int .i64)), (12, .one (.int .i64)), (13, .one (.ptr 3 0))], [(0, .var 128 [.str, .int .i64]), (1, .var 52 [.str, .str, .own 4, .own 5, .bool, .own 6]), (2, .var 52 [.str, .str, .own 7, .own 8, .bool, .own 9]), (3, .var 100 [.bool, .str]), (4, .row 156 Y1 .plain), (5, .row 158 (.pair .str .bool) .plain), (6, .row 100 (.pair .bool .str) .plain), (7, .row 156 Y1 .plain), (8, .row 158 (.pair .str .bool) .plain), (9, .row 100 (.pair .bool .str) .plain)], 10, [some 0]⟩
noncomputable def f577v0p2X0 : Shape := ⟨[(0, .one (.ptr 0 0)), (2, .one (.ptr 1 0)), (3, .one (.ptr 2 0)), (10, .one (.int .i64)), (12, .one (.int .i64)), (13, .one (.ptr 3 0))], [(0, .var 128 [.str, .int .i64]), (1, .var 52 [.str, .str, .own 4, .own 5, .bool, .own 6]), (2, .var 52 [.str, .str, .own 7, .own 8, .bool, .own 9]), (3, .var 100 [.bool, .str]), (4, .row 156 Y1 .plain), (5, .row 158 (.pair .str .bool) .plain), (6, .row 100 (.pair .bool .str) .plain), (7, .row 156 Y1 .plain), (8, .row 158 (.pair .str .bool) .plain), (9, .row 100 (.pair .bool .str) .plain)], 10, [some 0]⟩
noncomputable def f577v0p2N : NoteR := ⟨[0, 2, 3, 10, 12, 13], [], []⟩
noncomputable def f577v0p2M : NoteR := ⟨[0, 2, 3, 10, 12, 13], [], []⟩
noncomputable def f577v0p2C : Code := firstC (codesAt 1048210 (codeOf Tryz.f77) 1)
noncomputable def f577v0p2 {R : Type} (k : Nat) (k0 : D117 → Option R) (v : D117) : Option R :=
  bif (!v.2.2.2.2.2.2.2.2.2.2.1) then
    Option.bind (f610v0F k (v.1, v.2.2.1, v.2.2.2.1, ())) fun y19 =>
    k0 (v.1, v.2.1, y19.2.1, y19.2.2.1, v.2.2.2.2.1, v.2.2.2.2.2.1, v.2.2.2.2.2.2.1, v.2.2.2.2.2.2.2.1, v.2.2.2.2.2.2.2.2.1, v.2.2.2.2.2.2.2.2.2.1, v.2.2.2.2.2.2.2.2.2.2.1, y19.1, v.2.2.2.2.2.2.2.2.2.2.2.2.1, v.2.2.2.2.2.2.2.2.2.2.2.2.2.1, v.2.2.2.2.2.2.2.2.2.2.2.2.2.2.1, v.2.2.2.2.2.2.2.2.2.2.2.2.2.2.2.1, v.2.2.2.2.2.2.2.2.2.2.2.2.2.2.2.2.1, v.2.2.2.2.2.2.2.2.2.2.2.2.2.2.2.2.2.1, ())
  else
  k0 (v.1, v.2.1, v.2.2.1, v.2.2.2.1, v.2.2.2.2.1, v.2.2.2.2.2.1, v.2.2.2.2.2.2.1, v.2.2.2.2.2.2.2.1, v.2.2.2.2.2.2.2.2.1, v.2.2.2.2.2.2.2.2.2.1, v.2.2.2.2.2.2.2.2.2.2.1, v.2.2.2.2.2.2.2.2.2.2.2.1, v.2.2.2.2.2.2.2.2.2.2.2.2.1, v.2.2.2.2.2.2.2.2.2.2.2.2.2.1, v.2.2.2.2.2.2.2.2.2.2.2.2.2.2.1, v.2.2.2.2.2.2.2.2.2.2.2.2.2.2.2.1, v.2.2.2.2.2.2.2.2.2.2.2.2.2.2.2.2.1, v.2.2.2.2.2.2.2.2.2.2.2.2.2.2.2.2.2.1, ())
noncomputable def f577v0p2S (k : Nat) : Sum1 := partSum f577v0p2H f577v0p2N (fun R K v => f577v0p2 k (fun w => K .normal (encSt f577v0p2X0 w)) v)
theorem f577v0p2E (k : Nat) (R : Type) (K : X → St → Option R) (v : f577v0p2H.Den) : evS tab (f577v0T k) Tryz.f77.ntmps [] f577v0p2C 1048210 (partK f577v0p2M K) (encSt f577v0p2H v) = f577v0p2 k (fun w => K .normal (encSt f577v0p2X0 w)) v := by kernel_rfl
theorem f577v0p2I (k : Nat) : SumsOk P Tryz.f77.ntmps [] f577v0p2C 1048210 := SumsOk.nil
theorem f577v0p2O (k : Nat) : SumOk P Tryz.f77.ntmps f577v0p2C (f577v0p2S k) := sum_part tabOk (f577v0TS k) mixed (f577v0p2I k) (f577v0p2E k)
noncomputable def f577v0l3H : Shape := ⟨[(0, .one (.ptr 0 0)), (2, .one (.ptr 1 0)), (3, .one (.ptr 2 0)), (10, .one (.int .i64)), (12, .one (.int .i64))], [(0, .var 128 [.str, .int .i64]), (1, .var 52 [.str, .str, .own 3, .own 4, .bool, .own 5]), (2, .var 52 [.str, .str, .own 6, .own 7, .bool, .own 8]), (3, .row 156 Y1 .plain), (4, .row 158 (.pair .str .bool) .plain), (5, .row 100 (.pair .bool .str) .plain), (6, .row 156 Y1 .plain), (7, .row 158 (.pair .str .bool) .plain), (8, .row 100 (.pair .bool .str) .plain)], 9, [some 0]⟩
noncomputable def f577v0l3X0 : Shape := ⟨[(2, .one (.ptr 1 0)), (3, .one (.ptr 2 0))], [(0, .var 128 [.str, .int .i64]), (1, .var 52 [.str, .str, .own 3, .own 4, .bool, .own 5]), (2, .var 52 [.str, .str, .own 6, .own 7, .bool, .own 8]), (3, .row 156 Y1 .plain), (4, .row 158 (.pair .str .bool) .plain), (5, .row 100 (.pair .bool .str) .plain), (6, .row 156 Y1 .plain), (7, .row 158 (.pair .str .bool) .plain), (8, .row 100 (.pair .bool .str) .plain)], 9, [some 0]⟩
noncomputable def f577v0l3N : NoteR := ⟨[0, 2, 3, 10, 12], [], []⟩
noncomputable def f577v0l3M : NoteR := ⟨[2, 3], [], []⟩
noncomputable def f577v0l3C : Code := firstC (codesAt 16378 (codeOf Tryz.f77) 1)
noncomputable def f577v0l3s {R : Type} (k : Nat) (rec : D119 → Option R) (k0 : D115 → Option R) (v : D119) : Option R :=
  bif (decide (v.2.1 > (0 : Int))) then
    bif (v.2.2.2.1 == (0 : Int)) then
      Option.bind (f612v0F k (v.2.2.1, v.2.2.2.1, ())) fun y18 =>
      f577v0p2 k
        (fun (w20 : D117) =>
          bif (decide ((w20.2.2.2.2.2.2.2.2.2.2.2.2.2.2.2.2.2.1.length + [(w20.2.2.2.2.2.2.2.2.2.2.1, w20.2.2.2.2.2.2.2.2.2.2.2.1)].length) * 24 ≤ 140737488355328) && decide (w20.2.2.2.2.2.2.2.2.2.2.2.2.2.2.2.2.2.1.length + [(w20.2.2.2.2.2.2.2.2.2.2.1, w20.2.2.2.2.2.2.2.2.2.2.2.1)].length ≤ 9223372036854775807)) then
          let t21 := (w20.2.2.2.2.2.2.2.2.2.2.2.2.2.2.2.2.2.1 ++ [(w20.2.2.2.2.2.2.2.2.2.2.1, w20.2.2.2.2.2.2.2.2.2.2.2.1)])
          rec (w20.1, (IntKind.i64.wrap (w20.2.1 - (1 : Int))), w20.2.2.1, w20.2.2.2.1, w20.2.2.2.2.1, w20.2.2.2.2.2.1, w20.2.2.2.2.2.2.1, w20.2.2.2.2.2.2.2.1, w20.2.2.2.2.2.2.2.2.1, w20.2.2.2.2.2.2.2.2.2.1, w20.2.2.2.2.2.2.2.2.2.2.2.2.1, w20.2.2.2.2.2.2.2.2.2.2.2.2.2.1, w20.2.2.2.2.2.2.2.2.2.2.2.2.2.2.1, w20.2.2.2.2.2.2.2.2.2.2.2.2.2.2.2.1, w20.2.2.2.2.2.2.2.2.2.2.2.2.2.2.2.2.1, t21, ())
          else none)
        (v.1, v.2.1, y18.2.1, y18.2.2.1, v.2.2.2.2.1, v.2.2.2.2.2.1, v.2.2.2.2.2.2.1, v.2.2.2.2.2.2.2.1, v.2.2.2.2.2.2.2.2.1, v.2.2.2.2.2.2.2.2.2.1, (!y18.1), ByteArray.empty, v.2.2.2.2.2.2.2.2.2.2.1, v.2.2.2.2.2.2.2.2.2.2.2.1, v.2.2.2.2.2.2.2.2.2.2.2.2.1, v.2.2.2.2.2.2.2.2.2.2.2.2.2.1, v.2.2.2.2.2.2.2.2.2.2.2.2.2.2.1, v.2.2.2.2.2.2.2.2.2.2.2.2.2.2.2.1, ())
    else
    k0 (v.2.2.1, v.2.2.2.1, v.2.2.2.2.1, v.2.2.2.2.2.1, v.2.2.2.2.2.2.1, v.2.2.2.2.2.2.2.1, v.2.2.2.2.2.2.2.2.1, v.2.2.2.2.2.2.2.2.2.1, v.2.2.2.2.2.2.2.2.2.2.1, v.2.2.2.2.2.2.2.2.2.2.2.1, v.2.2.2.2.2.2.2.2.2.2.2.2.1, v.2.2.2.2.2.2.2.2.2.2.2.2.2.1, v.2.2.2.2.2.2.2.2.2.2.2.2.2.2.1, v.2.2.2.2.2.2.2.2.2.2.2.2.2.2.2.1, ())
  else
  k0 (v.2.2.1, v.2.2.2.1, v.2.2.2.2.1, v.2.2.2.2.2.1, v.2.2.2.2.2.2.1, v.2.2.2.2.2.2.2.1, v.2.2.2.2.2.2.2.2.1, v.2.2.2.2.2.2.2.2.2.1, v.2.2.2.2.2.2.2.2.2.2.1, v.2.2.2.2.2.2.2.2.2.2.2.1, v.2.2.2.2.2.2.2.2.2.2.2.2.1, v.2.2.2.2.2.2.2.2.2.2.2.2.2.1, v.2.2.2.2.2.2.2.2.2.2.2.2.2.2.1, v.2.2.2.2.2.2.2.2.2.2.2.2.2.2.2.1, ())
noncomputable def f577v0l3 {R : Type} (k : Nat) (k0 : D115 → Option R) (v : D119) : Option R := iterS (fun rec v => f577v0l3s k rec k0 v) k v
noncomputable def f577v0l3S (k : Nat) : Sum1 := loopSum f577v0l3H f577v0l3N k (fun R rec K v => f577v0l3s k rec (fun w => K (.exit 4) (encSt f577v0l3X0 w)) v)
theorem f577v0l3E (k : Nat) (R : Type) (rec : St → Option R) (K : X → St → Option R) (v : f577v0l3H.Den) : evS tab (f577v0T k) Tryz.f77.ntmps [(1048210, f577v0p2S k)] (bodyOf f577v0l3C) 32756 (bodyK f577v0l3N f577v0l3M rec K) (encSt f577v0l3H v) = f577v0l3s k (fun v => rec (encSt f577v0l3H v)) (fun w => K (.exit 4) (encSt f577v0l3X0 w)) v := by kernel_rfl
theorem f577v0l3I (k : Nat) : SumsOk P Tryz.f77.ntmps [(1048210, f577v0p2S k)] (bodyOf f577v0l3C) 32756 := (SumsOk.nil).cons (c := f577v0p2C) (by kernel_rfl) (f577v0p2O k)
theorem f577v0l3O (k : Nat) : SumOk P Tryz.f77.ntmps f577v0l3C (f577v0l3S k) := (show f577v0l3C = .loop (bodyOf f577v0l3C) by kernel_rfl) ▸ sum_loop tabOk (f577v0TS k) mixed (f577v0l3I k) (f577v0l3E k)
noncomputable def f577v0F (k : Nat) (x : ByteArray × Int × Unit) : Option (D120) :=
  Option.bind (f611v0F k (x.1, x.2.1, ())) fun y1 =>
  Option.bind (f611v0F k (y1.2.1, y1.2.2.1, ())) fun y2 =>
  Option.bind (f576v0F k ((20 : Int), y2.2.1, y2.2.2.1, ())) fun y3 =>
  f577v0l0 k
    (fun (w8 : D115) =>
      Option.bind (f576v0F k ((4 : Int), w8.1, w8.2.1, ())) fun y9 =>
      f577v0l1 k
        (fun (w12 : D115) =>
          Option.bind (f612v0F k (w12.1, w12.2.1, ())) fun y13 =>
          bif (y13.2.2.1 != (0 : Int)) then
            some (w12.2.2.2.2.2.1, w12.2.2.2.2.2.2.1, w12.2.2.2.2.2.2.2.2.2.2.2.1, w12.2.2.2.2.2.2.2.2.2.2.2.2.1, y13.1, w12.2.2.2.2.2.2.2.2.2.2.2.2.2.1, y13.2.1, y13.2.2.1, ())
          else
          Option.bind (f569F k (w12.2.2.2.2.2.1, ((w12.2.2.2.2.2.2.1, w12.2.2.2.2.2.2.2.2.2.2.2.1), (w12.2.2.2.2.2.2.2.2.2.2.2.2.1, y13.1)))) fun y14 =>
          bif (y14.2 != (0 : Int)) then
            Option.bind (f578v0F k (y14.2, y13.2.1, y13.2.2.1, ())) fun y15 =>
            some (w12.2.2.2.2.2.1, w12.2.2.2.2.2.2.1, w12.2.2.2.2.2.2.2.2.2.2.2.1, w12.2.2.2.2.2.2.2.2.2.2.2.2.1, y13.1, w12.2.2.2.2.2.2.2.2.2.2.2.2.2.1, y15.1, y15.2.1, ())
          else
          Option.bind (f613F k (w12.2.2.2.2.2.2.1, w12.2.2.2.2.2.2.2.2.2.2.2.1)) fun y16 =>
          Option.bind (f576v0F k ((60 : Int), y13.2.1, y13.2.2.1, ())) fun y17 =>
          f577v0l3 k
            (fun (w22 : D115) =>
              some (w22.2.2.2.2.2.1, w22.2.2.2.2.2.2.1, w22.2.2.2.2.2.2.2.2.2.2.2.1, w22.2.2.2.2.2.2.2.2.2.2.2.2.1, w22.2.2.2.2.2.2.2.1, w22.2.2.2.2.2.2.2.2.2.2.2.2.2.1, w22.1, w22.2.1, ()))
            (y16.1, y17.1, y17.2.1, y17.2.2.1, w12.2.2.1, w12.2.2.2.1, w12.2.2.2.2.1, w12.2.2.2.2.2.1, w12.2.2.2.2.2.2.1, y13.1, w12.2.2.2.2.2.2.2.2.1, w12.2.2.2.2.2.2.2.2.2.1, w12.2.2.2.2.2.2.2.2.2.2.1, w12.2.2.2.2.2.2.2.2.2.2.2.1, w12.2.2.2.2.2.2.2.2.2.2.2.2.1, w12.2.2.2.2.2.2.2.2.2.2.2.2.2.1, ()))
        (y9.1, y9.2.1, y9.2.2.1, w8.2.2.1, w8.2.2.2.1, w8.2.2.2.2.1, w8.2.2.2.2.2.1, w8.2.2.2.2.2.2.1, w8.2.2.2.2.2.2.2.1, w8.2.2.2.2.2.2.2.2.1, w8.2.2.2.2.2.2.2.2.2.1, w8.2.2.2.2.2.2.2.2.2.2.1, w8.2.2.2.2.2.2.2.2.2.2.2.1, w8.2.2.2.2.2.2.2.2.2.2.2.2.1, w8.2.2.2.2.2.2.2.2.2.2.2.2.2.1, ()))
    (y3.1, y3.2.1, y3.2.2.1, ByteArray.empty, ByteArray.empty, false, y1.1, y2.1, false, [], [], [], [], [], [], ())
noncomputable def f577v0L (k : Nat) : Sums := [(250, f577v0l0S k), (506, f577v0l1S k), (1048210, f577v0p2S k), (16378, f577v0l3S k)]
theorem f577v0LS (k : Nat) : SumsOk P Tryz.f77.ntmps (f577v0L k) (codeOf Tryz.f77) 1 := ((((SumsOk.nil).cons (c := f577v0l3C) (by kernel_rfl) (f577v0l3O k)).cons (c := f577v0p2C) (by kernel_rfl) (f577v0p2O k)).cons (c := f577v0l1C) (by kernel_rfl) (f577v0l1O k)).cons (c := f577v0l0C) (by kernel_rfl) (f577v0l0O k)
theorem f577v0E (k : Nat) (x : f577v0I.Den) : evG tab (f577v0T k) (f577v0L k) Tryz.f77.ntmps Tryz.f77.results.toList (codeOf Tryz.f77) f577v0I x [.agg .bool] [] f577v0U none = f577v0F k x := by kernel_rfl
theorem f577v0Ok (k : Nat) (x : f577v0I.Den) (y : f577v0U.Den) (h : f577v0F k x = some y) : GnOk P 77 f577v0I f577v0U x y :=
  evG_sound tabOk (f577v0TS k) mixed Tryz.func77 (c := codeOf Tryz.f77) (by kernel_rfl) (f577v0LS k) ((f577v0E k x).trans h)
/-! ## midrange/save.TablesIn -/
noncomputable def f532T (k : Nat) : Table := [(15, f515A k), (76, entG f576v0I f576v0U (f576v0F k)), (77, entG f577v0I f577v0U (f577v0F k)), (78, entG f578v0I f578v0U (f578v0F k))]
theorem f532TS (k : Nat) : Sound P (f532T k) := ((((Sound.nil).consE f578B (entG_ok (f578v0Ok k))).consE f577B (entG_ok (f577v0Ok k))).consE f576B (entG_ok (f576v0Ok k))).consE f515B (f515Ao k)
theorem f532B : HasBody P 32 := ⟨Tryz.f32, Tryz.func32, by kernel_rfl, by kernel_rfl⟩
noncomputable def f532l0H : Shape := ⟨[(4, .one (.ptr 0 0)), (5, .one (.own 1)), (6, .one (.int .i64))], [(0, .var 128 [.str, .int .i64]), (1, .row 52 Y6 .plain)], 2, []⟩
noncomputable def f532l0X0 : Shape := ⟨[(4, .one (.ptr 0 0)), (5, .one (.own 1))], [(0, .var 128 [.str, .int .i64]), (1, .row 52 Y6 .plain)], 2, []⟩
noncomputable def f532l0N : NoteR := ⟨[4, 5, 6], [(5, 52, Y6)], []⟩
noncomputable def f532l0M : NoteR := ⟨[2, 3, 4, 5], [], []⟩
noncomputable def f532l0C : Code := firstC (codesAt 122 (codeOf Tryz.f32) 1)
noncomputable def f532l0s {R : Type} (k : Nat) (rec : D122 → Option R) (k0 : D121 → Option R) (v : D122) : Option R :=
  bif (decide (v.1 > (0 : Int))) then
    bif (v.2.2.1 == (0 : Int)) then
      Option.bind (f577v0F k (v.2.1, v.2.2.1, ())) fun y2 =>
      let t3 := [((y2.1, ((y2.2.1, y2.2.2.1), (y2.2.2.2.1, y2.2.2.2.2.1))), y2.2.2.2.2.2.1)]
      bif (decide ((v.2.2.2.1.length + t3.length) * 112 ≤ 140737488355328) && decide (v.2.2.2.1.length + t3.length ≤ 9223372036854775807)) then
      rec ((IntKind.i64.wrap (v.1 - (1 : Int))), y2.2.2.2.2.2.2.1, y2.2.2.2.2.2.2.2.1, (v.2.2.2.1 ++ t3), ())
      else none
    else
    k0 (v.2.1, v.2.2.1, v.2.2.2.1, ())
  else
  k0 (v.2.1, v.2.2.1, v.2.2.2.1, ())
noncomputable def f532l0 {R : Type} (k : Nat) (k0 : D121 → Option R) (v : D122) : Option R := iterS (fun rec v => f532l0s k rec k0 v) k v
noncomputable def f532l0S (k : Nat) : Sum1 := loopSum f532l0H f532l0N k (fun R rec K v => f532l0s k rec (fun w => K (.exit 0) (encSt f532l0X0 w)) v)
theorem f532l0E (k : Nat) (R : Type) (rec : St → Option R) (K : X → St → Option R) (v : f532l0H.Den) : evS tab (f532T k) Tryz.f32.ntmps [] (bodyOf f532l0C) 244 (bodyK f532l0N f532l0M rec K) (encSt f532l0H v) = f532l0s k (fun v => rec (encSt f532l0H v)) (fun w => K (.exit 0) (encSt f532l0X0 w)) v := by kernel_rfl
theorem f532l0I (k : Nat) : SumsOk P Tryz.f32.ntmps [] (bodyOf f532l0C) 244 := SumsOk.nil
theorem f532l0O (k : Nat) : SumOk P Tryz.f32.ntmps f532l0C (f532l0S k) := (show f532l0C = .loop (bodyOf f532l0C) by kernel_rfl) ▸ sum_loop tabOk (f532TS k) mixed (f532l0I k) (f532l0E k)
noncomputable def f532p1H : Shape := ⟨[(4, .one (.ptr 0 0)), (5, .one (.own 1))], [(0, .var 128 [.str, .int .i64]), (1, .row 52 Y6 .plain)], 2, []⟩
noncomputable def f532p1X0 : Shape := ⟨[(4, .one (.ptr 0 0)), (5, .one (.own 1))], [(0, .var 128 [.str, .int .i64]), (1, .row 52 Y6 .plain)], 2, []⟩
noncomputable def f532p1N : NoteR := ⟨[4, 5], [], []⟩
noncomputable def f532p1M : NoteR := ⟨[2, 3, 4, 5], [], []⟩
noncomputable def f532p1C : Code := firstC (codesAt 62 (codeOf Tryz.f32) 1)
noncomputable def f532p1 {R : Type} (k : Nat) (k0 : D121 → Option R) (v : D121) : Option R :=
  bif (v.2.1 == (0 : Int)) then
    bif (!strEq v.1 ByteArray.empty) then
      Option.bind (f578v0F k ((10 : Int), v.1, v.2.1, ())) fun y5 =>
      k0 (y5.1, y5.2.1, v.2.2.1, ())
    else
    k0 (v.1, v.2.1, v.2.2.1, ())
  else
  k0 (v.1, v.2.1, v.2.2.1, ())
noncomputable def f532p1S (k : Nat) : Sum1 := partSum f532p1H f532p1N (fun R K v => f532p1 k (fun w => K .normal (encSt f532p1X0 w)) v)
theorem f532p1E (k : Nat) (R : Type) (K : X → St → Option R) (v : f532p1H.Den) : evS tab (f532T k) Tryz.f32.ntmps [] f532p1C 62 (partK f532p1M K) (encSt f532p1H v) = f532p1 k (fun w => K .normal (encSt f532p1X0 w)) v := by kernel_rfl
theorem f532p1I (k : Nat) : SumsOk P Tryz.f32.ntmps [] f532p1C 62 := SumsOk.nil
theorem f532p1O (k : Nat) : SumOk P Tryz.f32.ntmps f532p1C (f532p1S k) := sum_part tabOk (f532TS k) mixed (f532p1I k) (f532p1E k)
noncomputable def f532F (k : Nat) (x : ByteArray) : Option (List D34 × Int) :=
  Option.bind (f576v0F k ((8 : Int), x, (0 : Int), ())) fun y1 =>
  f532l0 k
    (fun (w4 : D121) =>
      f532p1 k
        (fun (w6 : D121) =>
          bif (w6.2.1 != (0 : Int)) then
            some ([], w6.2.1)
          else
          Option.bind (f515F k w6.2.2.1) fun y7 =>
          bif (y7.2 != (0 : Int)) then
            some ([], y7.2)
          else
          some (w6.2.2.1, (0 : Int)))
        (w4.1, w4.2.1, w4.2.2.1, ()))
    (y1.1, y1.2.1, y1.2.2.1, [], ())
noncomputable def f532L (k : Nat) : Sums := [(122, f532l0S k), (62, f532p1S k)]
theorem f532LS (k : Nat) : SumsOk P Tryz.f32.ntmps (f532L k) (codeOf Tryz.f32) 1 := ((SumsOk.nil).cons (c := f532p1C) (by kernel_rfl) (f532p1O k)).cons (c := f532l0C) (by kernel_rfl) (f532l0O k)
theorem f532E (k : Nat) (x : ByteArray) : evFS tab (f532T k) (f532L k) Tryz.f32.ntmps Tryz.f32.results.toList (codeOf Tryz.f32) (argsV [.dat .str] x) [.own 52 Y6, .dat (.int .i64)] none = f532F k x := by kernel_rfl
theorem f532Ok (k : Nat) (x : ByteArray) (y : List D34 × Int) (h : f532F k x = some y) : FnOk P 32 [.dat .str] [.own 52 Y6, .dat (.int .i64)] x y :=
  evFS_sound tabOk (f532TS k) mixed Tryz.func32 (c := codeOf Tryz.f32) (by kernel_rfl) (f532LS k) ((f532E k x).trans h)
noncomputable def f532A (k : Nat) := entFn [.dat .str] [.own 52 Y6, .dat (.int .i64)] (f532F k)
theorem f532Ao (k : Nat) : EntOk P 32 (f532A k) := entFn_ok (f532Ok k)
/-! ## (*midrange/midrangeref34.reader).take, handed what it may write -/
noncomputable def f614v0I : Shape := ⟨[(0, .one (.ptr 0 0)), (1, .one (.int .i64))], [(0, .var 134 [.str, .int .i64, .int .i64])], 1, []⟩
noncomputable def f614v0U : Shape := ⟨[(0, .one (.str))], [(0, .var 134 [.str, .int .i64, .int .i64])], 1, []⟩
noncomputable def f614v0T (k : Nat) : Table := [(104, f72A k)]
theorem f614v0TS (k : Nat) : Sound P (f614v0T k) := (Sound.nil).consE f72B (f72Ao k)
theorem f614B : HasBody P 114 := ⟨Tryz.f114, Tryz.func114, by kernel_rfl, by kernel_rfl⟩
noncomputable def f614v0F (k : Nat) (x : D123) : Option (D124) :=
  bif (x.2.2.2.1 != (0 : Int)) then
    Option.bind (f72F k ((0 : Int), x.1)) fun y1 =>
    some (y1, x.2.1, x.2.2.1, x.2.2.2.1, ())
  else
  bif (decide ((IntKind.i64.wrap ((x.2.1.size : Int) - x.2.2.1)) < x.1)) then
    Option.bind (f72F k ((0 : Int), x.1)) fun y2 =>
    some (y2, x.2.1, x.2.2.1, (9 : Int), ())
  else
  bif (sliceBds (IntKind.i64.wrap ((IntKind.i64.wrap (x.2.2.1 + x.1)) - x.1)) (IntKind.i64.wrap (x.2.2.1 + x.1)) (x.2.1.size : Int)) then
  let t3 := (x.2.1.extract (Int.toNat (IntKind.i64.wrap ((IntKind.i64.wrap (x.2.2.1 + x.1)) - x.1))) (Int.toNat (IntKind.i64.wrap (x.2.2.1 + x.1))))
  some (t3, x.2.1, (IntKind.i64.wrap (x.2.2.1 + x.1)), x.2.2.2.1, ())
  else none
noncomputable def f614v0L (k : Nat) : Sums := []
theorem f614v0LS (k : Nat) : SumsOk P Tryz.f114.ntmps (f614v0L k) (codeOf Tryz.f114) 1 := SumsOk.nil
theorem f614v0E (k : Nat) (x : f614v0I.Den) : evG tab (f614v0T k) (f614v0L k) Tryz.f114.ntmps Tryz.f114.results.toList (codeOf Tryz.f114) f614v0I x [.dat .bool] [] f614v0U none = f614v0F k x := by kernel_rfl
theorem f614v0Ok (k : Nat) (x : f614v0I.Den) (y : f614v0U.Den) (h : f614v0F k x = some y) : GnOk P 114 f614v0I f614v0U x y :=
  evG_sound tabOk (f614v0TS k) mixed Tryz.func114 (c := codeOf Tryz.f114) (by kernel_rfl) (f614v0LS k) ((f614v0E k x).trans h)
/-! ## (*midrange/midrangeref34.reader).fail, handed what it may write -/
noncomputable def f615v0I : Shape := ⟨[(0, .one (.ptr 0 0)), (1, .one (.bool))], [(0, .var 134 [.str, .int .i64, .int .i64])], 1, []⟩
noncomputable def f615v0U : Shape := ⟨[], [(0, .var 134 [.str, .int .i64, .int .i64])], 1, []⟩
noncomputable def f615v0T (k : Nat) : Table := []
theorem f615v0TS (k : Nat) : Sound P (f615v0T k) := Sound.nil
theorem f615B : HasBody P 115 := ⟨Tryz.f115, Tryz.func115, by kernel_rfl, by kernel_rfl⟩
noncomputable def f615v0F (k : Nat) (x : D125) : Option (D46) :=
  bif x.1 then
    bif (x.2.2.2.1 == (0 : Int)) then
      some (x.2.1, x.2.2.1, (5 : Int), ())
    else
    some (x.2.1, x.2.2.1, x.2.2.2.1, ())
  else
  some (x.2.1, x.2.2.1, x.2.2.2.1, ())
noncomputable def f615v0L (k : Nat) : Sums := []
theorem f615v0LS (k : Nat) : SumsOk P Tryz.f115.ntmps (f615v0L k) (codeOf Tryz.f115) 1 := SumsOk.nil
theorem f615v0E (k : Nat) (x : f615v0I.Den) : evG tab (f615v0T k) (f615v0L k) Tryz.f115.ntmps Tryz.f115.results.toList (codeOf Tryz.f115) f615v0I x [] [] f615v0U none = f615v0F k x := by kernel_rfl
theorem f615v0Ok (k : Nat) (x : f615v0I.Den) (y : f615v0U.Den) (h : f615v0F k x = some y) : GnOk P 115 f615v0I f615v0U x y :=
  evG_sound tabOk (f615v0TS k) mixed Tryz.func115 (c := codeOf Tryz.f115) (by kernel_rfl) (f615v0LS k) ((f615v0E k x).trans h)
/-! ## (*midrange/midrangeref34.reader).number, handed what it may write -/
noncomputable def f579v0I : Shape := ⟨[(0, .one (.ptr 0 0)), (1, .one (.int .i64))], [(0, .var 134 [.str, .int .i64, .int .i64])], 1, []⟩
noncomputable def f579v0U : Shape := ⟨[(0, .one (.int .i64))], [(0, .var 134 [.str, .int .i64, .int .i64])], 1, []⟩
noncomputable def f579v0T (k : Nat) : Table := [(47, f69A k), (114, entG f614v0I f614v0U (f614v0F k)), (115, entG f615v0I f615v0U (f615v0F k))]
theorem f579v0TS (k : Nat) : Sound P (f579v0T k) := (((Sound.nil).consE f615B (entG_ok (f615v0Ok k))).consE f614B (entG_ok (f614v0Ok k))).consE f69B (f69Ao k)
theorem f579B : HasBody P 79 := ⟨Tryz.f79, Tryz.func79, by kernel_rfl, by kernel_rfl⟩
noncomputable def f579v0F (k : Nat) (x : D123) : Option (D123) :=
  Option.bind (f614v0F k ((1 : Int), x.2.1, x.2.2.1, x.2.2.2.1, ())) fun y1 =>
  bif (decide ((0 : Int) < (y1.1.size : Int))) then
  Option.bind (f615v0F k ((decide ((IntKind.i64.wrap (bt y1.1 (0 : Int))) > x.1)), y1.2.1, y1.2.2.1, y1.2.2.2.1, ())) fun y2 =>
  Option.bind (f69F k (y2.2.2.1 == (0 : Int))) fun y3 =>
  some ((IntKind.i64.wrap ((IntKind.i64.wrap (bt y1.1 (0 : Int))) * y3)), y2.1, y2.2.1, y2.2.2.1, ())
  else none
noncomputable def f579v0L (k : Nat) : Sums := []
theorem f579v0LS (k : Nat) : SumsOk P Tryz.f79.ntmps (f579v0L k) (codeOf Tryz.f79) 1 := SumsOk.nil
theorem f579v0E (k : Nat) (x : f579v0I.Den) : evG tab (f579v0T k) (f579v0L k) Tryz.f79.ntmps Tryz.f79.results.toList (codeOf Tryz.f79) f579v0I x [.dat .bool] [] f579v0U none = f579v0F k x := by kernel_rfl
theorem f579v0Ok (k : Nat) (x : f579v0I.Den) (y : f579v0U.Den) (h : f579v0F k x = some y) : GnOk P 79 f579v0I f579v0U x y :=
  evG_sound tabOk (f579v0TS k) mixed Tryz.func79 (c := codeOf Tryz.f79) (by kernel_rfl) (f579v0LS k) ((f579v0E k x).trans h)
/-! ## (*midrange/midrangeref34.reader).name, handed what it may write -/
noncomputable def f616v0I : Shape := ⟨[(0, .one (.ptr 0 0))], [(0, .var 134 [.str, .int .i64, .int .i64])], 1, []⟩
noncomputable def f616v0U : Shape := ⟨[(0, .one (.str))], [(0, .var 134 [.str, .int .i64, .int .i64])], 1, []⟩
noncomputable def f616v0T (k : Nat) : Table := [(114, entG f614v0I f614v0U (f614v0F k)), (115, entG f615v0I f615v0U (f615v0F k))]
theorem f616v0TS (k : Nat) : Sound P (f616v0T k) := ((Sound.nil).consE f615B (entG_ok (f615v0Ok k))).consE f614B (entG_ok (f614v0Ok k))
theorem f616B : HasBody P 116 := ⟨Tryz.f116, Tryz.func116, by kernel_rfl, by kernel_rfl⟩
noncomputable def f616v0l0H : Shape := ⟨[(0, .one (.ptr 0 0)), (3, .one (.str)), (4, .one (.int .i64))], [(0, .var 134 [.str, .int .i64, .int .i64])], 1, [some 0]⟩
noncomputable def f616v0l0X0 : Shape := ⟨[(0, .one (.ptr 0 0)), (3, .one (.str)), (4, .one (.int .i64))], [(0, .var 134 [.str, .int .i64, .int .i64])], 1, [some 0]⟩
noncomputable def f616v0l0N : NoteR := ⟨[0, 3, 4], [], []⟩
noncomputable def f616v0l0M : NoteR := ⟨[0, 2, 3, 4], [], []⟩
noncomputable def f616v0l0C : Code := firstC (codesAt 60 (codeOf Tryz.f116) 1)
noncomputable def f616v0l0s {R : Type} (k : Nat) (rec : D126 → Option R) (k0 : D126 → Option R) (v : D126) : Option R :=
  bif (decide (v.2.1 > (0 : Int))) then
    bif ((decide ((0 : Int) ≤ (IntKind.i64.wrap (v.2.1 - (1 : Int))))) && (decide ((IntKind.i64.wrap (v.2.1 - (1 : Int))) < (v.1.size : Int)))) then
    bif ((bt v.1 (IntKind.i64.wrap (v.2.1 - (1 : Int)))) == (32 : Int)) then
      rec (v.1, (IntKind.i64.wrap (v.2.1 - (1 : Int))), v.2.2.1, v.2.2.2.1, v.2.2.2.2.1, ())
    else
    k0 (v.1, v.2.1, v.2.2.1, v.2.2.2.1, v.2.2.2.2.1, ())
    else none
  else
  k0 (v.1, v.2.1, v.2.2.1, v.2.2.2.1, v.2.2.2.2.1, ())
noncomputable def f616v0l0 {R : Type} (k : Nat) (k0 : D126 → Option R) (v : D126) : Option R := iterS (fun rec v => f616v0l0s k rec k0 v) k v
noncomputable def f616v0l0S (k : Nat) : Sum1 := loopSum f616v0l0H f616v0l0N k (fun R rec K v => f616v0l0s k rec (fun w => K (.exit 0) (encSt f616v0l0X0 w)) v)
theorem f616v0l0E (k : Nat) (R : Type) (rec : St → Option R) (K : X → St → Option R) (v : f616v0l0H.Den) : evS tab (f616v0T k) Tryz.f116.ntmps [] (bodyOf f616v0l0C) 120 (bodyK f616v0l0N f616v0l0M rec K) (encSt f616v0l0H v) = f616v0l0s k (fun v => rec (encSt f616v0l0H v)) (fun w => K (.exit 0) (encSt f616v0l0X0 w)) v := by kernel_rfl
theorem f616v0l0I (k : Nat) : SumsOk P Tryz.f116.ntmps [] (bodyOf f616v0l0C) 120 := SumsOk.nil
theorem f616v0l0O (k : Nat) : SumOk P Tryz.f116.ntmps f616v0l0C (f616v0l0S k) := (show f616v0l0C = .loop (bodyOf f616v0l0C) by kernel_rfl) ▸ sum_loop tabOk (f616v0TS k) mixed (f616v0l0I k) (f616v0l0E k)
noncomputable def f616v0l1H : Shape := ⟨[(0, .one (.ptr 0 0)), (3, .one (.str)), (4, .one (.int .i64)), (5, .one (.int .i64))], [(0, .var 134 [.str, .int .i64, .int .i64])], 1, [some 0]⟩
noncomputable def f616v0l1X0 : Shape := ⟨[(3, .one (.str)), (4, .one (.int .i64))], [(0, .var 134 [.str, .int .i64, .int .i64])], 1, [some 0]⟩
noncomputable def f616v0l1N : NoteR := ⟨[0, 3, 4, 5], [], []⟩
noncomputable def f616v0l1M : NoteR := ⟨[2, 3, 4], [], []⟩
noncomputable def f616v0l1C : Code := firstC (codesAt 250 (codeOf Tryz.f116) 1)
noncomputable def f616v0l1s {R : Type} (k : Nat) (rec : D127 → Option R) (k0 : D126 → Option R) (v : D127) : Option R :=
  bif (decide (v.2.2.1 < v.2.1)) then
    bif ((decide ((0 : Int) ≤ v.2.2.1)) && (decide (v.2.2.1 < (v.1.size : Int)))) then
    Option.bind (f615v0F k (((bt v.1 v.2.2.1) == (32 : Int)), v.2.2.2.1, v.2.2.2.2.1, v.2.2.2.2.2.1, ())) fun y3 =>
    rec (v.1, v.2.1, (IntKind.i64.wrap (v.2.2.1 + (1 : Int))), y3.1, y3.2.1, y3.2.2.1, ())
    else none
  else
  k0 (v.1, v.2.1, v.2.2.2.1, v.2.2.2.2.1, v.2.2.2.2.2.1, ())
noncomputable def f616v0l1 {R : Type} (k : Nat) (k0 : D126 → Option R) (v : D127) : Option R := iterS (fun rec v => f616v0l1s k rec k0 v) k v
noncomputable def f616v0l1S (k : Nat) : Sum1 := loopSum f616v0l1H f616v0l1N k (fun R rec K v => f616v0l1s k rec (fun w => K (.exit 2) (encSt f616v0l1X0 w)) v)
theorem f616v0l1E (k : Nat) (R : Type) (rec : St → Option R) (K : X → St → Option R) (v : f616v0l1H.Den) : evS tab (f616v0T k) Tryz.f116.ntmps [] (bodyOf f616v0l1C) 500 (bodyK f616v0l1N f616v0l1M rec K) (encSt f616v0l1H v) = f616v0l1s k (fun v => rec (encSt f616v0l1H v)) (fun w => K (.exit 2) (encSt f616v0l1X0 w)) v := by kernel_rfl
theorem f616v0l1I (k : Nat) : SumsOk P Tryz.f116.ntmps [] (bodyOf f616v0l1C) 500 := SumsOk.nil
theorem f616v0l1O (k : Nat) : SumOk P Tryz.f116.ntmps f616v0l1C (f616v0l1S k) := (show f616v0l1C = .loop (bodyOf f616v0l1C) by kernel_rfl) ▸ sum_loop tabOk (f616v0TS k) mixed (f616v0l1I k) (f616v0l1E k)
noncomputable def f616v0F (k : Nat) (x : D46) : Option (D124) :=
  Option.bind (f614v0F k ((10 : Int), x.1, x.2.1, x.2.2.1, ())) fun y1 =>
  f616v0l0 k
    (fun (w2 : D126) =>
      f616v0l1 k
        (fun (w4 : D126) =>
          bif (sliceBds (0 : Int) w4.2.1 (w4.1.size : Int)) then
          some ((w4.1.extract 0 (Int.toNat w4.2.1)), w4.2.2.1, w4.2.2.2.1, w4.2.2.2.2.1, ())
          else none)
        (w2.1, w2.2.1, (0 : Int), w2.2.2.1, w2.2.2.2.1, w2.2.2.2.2.1, ()))
    (y1.1, (10 : Int), y1.2.1, y1.2.2.1, y1.2.2.2.1, ())
noncomputable def f616v0L (k : Nat) : Sums := [(60, f616v0l0S k), (250, f616v0l1S k)]
theorem f616v0LS (k : Nat) : SumsOk P Tryz.f116.ntmps (f616v0L k) (codeOf Tryz.f116) 1 := ((SumsOk.nil).cons (c := f616v0l1C) (by kernel_rfl) (f616v0l1O k)).cons (c := f616v0l0C) (by kernel_rfl) (f616v0l0O k)
theorem f616v0E (k : Nat) (x : f616v0I.Den) : evG tab (f616v0T k) (f616v0L k) Tryz.f116.ntmps Tryz.f116.results.toList (codeOf Tryz.f116) f616v0I x [.dat .bool] [] f616v0U none = f616v0F k x := by kernel_rfl
theorem f616v0Ok (k : Nat) (x : f616v0I.Den) (y : f616v0U.Den) (h : f616v0F k x = some y) : GnOk P 116 f616v0I f616v0U x y :=
  evG_sound tabOk (f616v0TS k) mixed Tryz.func116 (c := codeOf Tryz.f116) (by kernel_rfl) (f616v0LS k) ((f616v0E k x).trans h)
/-! ## (*midrange/midrangeref34.reader).field, handed what it may write -/
noncomputable def f617v0I : Shape := ⟨[(0, .one (.ptr 0 0))], [(0, .var 134 [.str, .int .i64, .int .i64])], 1, []⟩
noncomputable def f617v0U : Shape := ⟨[(0, .agg [.str, .int .i64, .int .i64, .int .i64])], [(0, .var 134 [.str, .int .i64, .int .i64])], 1, []⟩
noncomputable def f617v0T (k : Nat) : Table := [(79, entG f579v0I f579v0U (f579v0F k)), (116, entG f616v0I f616v0U (f616v0F k))]
theorem f617v0TS (k : Nat) : Sound P (f617v0T k) := ((Sound.nil).consE f616B (entG_ok (f616v0Ok k))).consE f579B (entG_ok (f579v0Ok k))
theorem f617B : HasBody P 117 := ⟨Tryz.f117, Tryz.func117, by kernel_rfl, by kernel_rfl⟩
noncomputable def f617v0F (k : Nat) (x : D46) : Option (D128) :=
  Option.bind (f616v0F k (x.1, x.2.1, x.2.2.1, ())) fun y1 =>
  Option.bind (f579v0F k ((255 : Int), y1.2.1, y1.2.2.1, y1.2.2.2.1, ())) fun y2 =>
  Option.bind (f579v0F k ((255 : Int), y2.2.1, y2.2.2.1, y2.2.2.2.1, ())) fun y3 =>
  Option.bind (f579v0F k ((255 : Int), y3.2.1, y3.2.2.1, y3.2.2.2.1, ())) fun y4 =>
  some (y1.1, y2.1, y3.1, y4.1, y4.2.1, y4.2.2.1, y4.2.2.2.1, ())
noncomputable def f617v0L (k : Nat) : Sums := []
theorem f617v0LS (k : Nat) : SumsOk P Tryz.f117.ntmps (f617v0L k) (codeOf Tryz.f117) 1 := SumsOk.nil
theorem f617v0E (k : Nat) (x : f617v0I.Den) : evG tab (f617v0T k) (f617v0L k) Tryz.f117.ntmps Tryz.f117.results.toList (codeOf Tryz.f117) f617v0I x [.agg .bool] [] f617v0U none = f617v0F k x := by kernel_rfl
theorem f617v0Ok (k : Nat) (x : f617v0I.Den) (y : f617v0U.Den) (h : f617v0F k x = some y) : GnOk P 117 f617v0I f617v0U x y :=
  evG_sound tabOk (f617v0TS k) mixed Tryz.func117 (c := codeOf Tryz.f117) (by kernel_rfl) (f617v0LS k) ((f617v0E k x).trans h)
/-! ## (*midrange/midrangeref34.reader).table, handed what it may write -/
noncomputable def f580v0I : Shape := ⟨[(0, .one (.ptr 0 0))], [(0, .var 134 [.str, .int .i64, .int .i64])], 1, []⟩
noncomputable def f580v0U : Shape := ⟨[(0, .agg [.str, .str, .ro Y1, .ro (.pair .str .bool), .bool, .ro (.pair .bool .str)])], [(0, .var 134 [.str, .int .i64, .int .i64])], 1, []⟩
noncomputable def f580v0T (k : Nat) : Table := [(27, f527A k), (79, entG f579v0I f579v0U (f579v0F k)), (114, entG f614v0I f614v0U (f614v0F k)), (116, entG f616v0I f616v0U (f616v0F k)), (117, entG f617v0I f617v0U (f617v0F k)), (118, f618A k)]
theorem f580v0TS (k : Nat) : Sound P (f580v0T k) := ((((((Sound.nil).consE f618B (f618Ao k)).consE f617B (entG_ok (f617v0Ok k))).consE f616B (entG_ok (f616v0Ok k))).consE f614B (entG_ok (f614v0Ok k))).consE f579B (entG_ok (f579v0Ok k))).consE f527B (f527Ao k)
theorem f580B : HasBody P 80 := ⟨Tryz.f80, Tryz.func80, by kernel_rfl, by kernel_rfl⟩
noncomputable def f580v0l0H : Shape := ⟨[(0, .one (.ptr 0 0)), (2, .one (.ptr 1 0)), (3, .one (.ptr 2 0)), (4, .one (.int .i64)), (5, .one (.int .i64))], [(0, .var 134 [.str, .int .i64, .int .i64]), (1, .var 52 [.str, .str, .own 3, .own 4, .bool, .own 5]), (2, .var 52 [.str, .str, .own 6, .own 7, .bool, .own 8]), (3, .row 156 Y1 .plain), (4, .row 158 (.pair .str .bool) .plain), (5, .row 100 (.pair .bool .str) .plain), (6, .row 156 Y1 .plain), (7, .row 158 (.pair .str .bool) .plain), (8, .row 100 (.pair .bool .str) .plain)], 9, [some 0]⟩
noncomputable def f580v0l0X0 : Shape := ⟨[(0, .one (.ptr 0 0)), (2, .one (.ptr 1 0)), (3, .one (.ptr 2 0))], [(0, .var 134 [.str, .int .i64, .int .i64]), (1, .var 52 [.str, .str, .own 3, .own 4, .bool, .own 5]), (2, .var 52 [.str, .str, .own 6, .own 7, .bool, .own 8]), (3, .row 156 Y1 .plain), (4, .row 158 (.pair .str .bool) .plain), (5, .row 100 (.pair .bool .str) .plain), (6, .row 156 Y1 .plain), (7, .row 158 (.pair .str .bool) .plain), (8, .row 100 (.pair .bool .str) .plain)], 9, [some 0]⟩
noncomputable def f580v0l0N : NoteR := ⟨[0, 2, 3, 4, 5], [], []⟩
noncomputable def f580v0l0M : NoteR := ⟨[0, 2, 3], [], []⟩
noncomputable def f580v0l0C : Code := firstC (codesAt 506 (codeOf Tryz.f80) 1)
noncomputable def f580v0l0s {R : Type} (k : Nat) (rec : D131 → Option R) (k0 : D129 → Option R) (v : D131) : Option R :=
  bif (decide (v.2.1 < v.1)) then
    Option.bind (f617v0F k (v.2.2.1, v.2.2.2.1, v.2.2.2.2.1, ())) fun y4 =>
    bif (decide ((v.2.2.2.2.2.2.2.2.2.2.2.2.2.2.1.length + [(y4.1, (y4.2.1, (y4.2.2.1, y4.2.2.2.1)))].length) * 40 ≤ 140737488355328) && decide (v.2.2.2.2.2.2.2.2.2.2.2.2.2.2.1.length + [(y4.1, (y4.2.1, (y4.2.2.1, y4.2.2.2.1)))].length ≤ 9223372036854775807)) then
    let t5 := (v.2.2.2.2.2.2.2.2.2.2.2.2.2.2.1 ++ [(y4.1, (y4.2.1, (y4.2.2.1, y4.2.2.2.1)))])
    rec (v.1, (IntKind.i64.wrap (v.2.1 + (1 : Int))), y4.2.2.2.2.1, y4.2.2.2.2.2.1, y4.2.2.2.2.2.2.1, v.2.2.2.2.2.1, v.2.2.2.2.2.2.1, v.2.2.2.2.2.2.2.1, v.2.2.2.2.2.2.2.2.1, v.2.2.2.2.2.2.2.2.2.1, v.2.2.2.2.2.2.2.2.2.2.1, v.2.2.2.2.2.2.2.2.2.2.2.1, v.2.2.2.2.2.2.2.2.2.2.2.2.1, v.2.2.2.2.2.2.2.2.2.2.2.2.2.1, t5, v.2.2.2.2.2.2.2.2.2.2.2.2.2.2.2.1, v.2.2.2.2.2.2.2.2.2.2.2.2.2.2.2.2.1, ())
    else none
  else
  k0 (v.2.2.1, v.2.2.2.1, v.2.2.2.2.1, v.2.2.2.2.2.1, v.2.2.2.2.2.2.1, v.2.2.2.2.2.2.2.1, v.2.2.2.2.2.2.2.2.1, v.2.2.2.2.2.2.2.2.2.1, v.2.2.2.2.2.2.2.2.2.2.1, v.2.2.2.2.2.2.2.2.2.2.2.1, v.2.2.2.2.2.2.2.2.2.2.2.2.1, v.2.2.2.2.2.2.2.2.2.2.2.2.2.1, v.2.2.2.2.2.2.2.2.2.2.2.2.2.2.1, v.2.2.2.2.2.2.2.2.2.2.2.2.2.2.2.1, v.2.2.2.2.2.2.2.2.2.2.2.2.2.2.2.2.1, ())
noncomputable def f580v0l0 {R : Type} (k : Nat) (k0 : D129 → Option R) (v : D131) : Option R := iterS (fun rec v => f580v0l0s k rec k0 v) k v
noncomputable def f580v0l0S (k : Nat) : Sum1 := loopSum f580v0l0H f580v0l0N k (fun R rec K v => f580v0l0s k rec (fun w => K (.exit 0) (encSt f580v0l0X0 w)) v)
theorem f580v0l0E (k : Nat) (R : Type) (rec : St → Option R) (K : X → St → Option R) (v : f580v0l0H.Den) : evS tab (f580v0T k) Tryz.f80.ntmps [] (bodyOf f580v0l0C) 1012 (bodyK f580v0l0N f580v0l0M rec K) (encSt f580v0l0H v) = f580v0l0s k (fun v => rec (encSt f580v0l0H v)) (fun w => K (.exit 0) (encSt f580v0l0X0 w)) v := by kernel_rfl
theorem f580v0l0I (k : Nat) : SumsOk P Tryz.f80.ntmps [] (bodyOf f580v0l0C) 1012 := SumsOk.nil
theorem f580v0l0O (k : Nat) : SumOk P Tryz.f80.ntmps f580v0l0C (f580v0l0S k) := (show f580v0l0C = .loop (bodyOf f580v0l0C) by kernel_rfl) ▸ sum_loop tabOk (f580v0TS k) mixed (f580v0l0I k) (f580v0l0E k)
noncomputable def f580v0l1H : Shape := ⟨[(0, .one (.ptr 0 0)), (2, .one (.ptr 1 0)), (3, .one (.ptr 2 0)), (6, .one (.int .i64)), (7, .one (.int .i64))], [(0, .var 134 [.str, .int .i64, .int .i64]), (1, .var 52 [.str, .str, .own 3, .own 4, .bool, .own 5]), (2, .var 52 [.str, .str, .own 6, .own 7, .bool, .own 8]), (3, .row 156 Y1 .plain), (4, .row 158 (.pair .str .bool) .plain), (5, .row 100 (.pair .bool .str) .plain), (6, .row 156 Y1 .plain), (7, .row 158 (.pair .str .bool) .plain), (8, .row 100 (.pair .bool .str) .plain)], 9, [some 0]⟩
noncomputable def f580v0l1X0 : Shape := ⟨[(0, .one (.ptr 0 0)), (2, .one (.ptr 1 0)), (3, .one (.ptr 2 0))], [(0, .var 134 [.str, .int .i64, .int .i64]), (1, .var 52 [.str, .str, .own 3, .own 4, .bool, .own 5]), (2, .var 52 [.str, .str, .own 6, .own 7, .bool, .own 8]), (3, .row 156 Y1 .plain), (4, .row 158 (.pair .str .bool) .plain), (5, .row 100 (.pair .bool .str) .plain), (6, .row 156 Y1 .plain), (7, .row 158 (.pair .str .bool) .plain), (8, .row 100 (.pair .bool .str) .plain)], 9, [some 0]⟩
noncomputable def f580v0l1N : NoteR := ⟨[0, 2, 3, 6, 7], [], []⟩
noncomputable def f580v0l1M : NoteR := ⟨[0, 2, 3], [], []⟩
noncomputable def f580v0l1C : Code := firstC (codesAt 2042 (codeOf Tryz.f80) 1)
noncomputable def f580v0l1s {R : Type} (k : Nat) (rec : D131 → Option R) (k0 : D129 → Option R) (v : D131) : Option R :=
  bif (decide (v.2.1 < v.1)) then
    Option.bind (f616v0F k (v.2.2.1, v.2.2.2.1, v.2.2.2.2.1, ())) fun y8 =>
    Option.bind (f579v0F k ((1 : Int), y8.2.1, y8.2.2.1, y8.2.2.2.1, ())) fun y9 =>
    bif (decide ((v.2.2.2.2.2.2.2.2.2.2.2.2.2.2.2.1.length + [(y8.1, (y9.1 == (1 : Int)))].length) * 24 ≤ 140737488355328) && decide (v.2.2.2.2.2.2.2.2.2.2.2.2.2.2.2.1.length + [(y8.1, (y9.1 == (1 : Int)))].length ≤ 9223372036854775807)) then
    rec (v.1, (IntKind.i64.wrap (v.2.1 + (1 : Int))), y9.2.1, y9.2.2.1, y9.2.2.2.1, v.2.2.2.2.2.1, v.2.2.2.2.2.2.1, v.2.2.2.2.2.2.2.1, v.2.2.2.2.2.2.2.2.1, v.2.2.2.2.2.2.2.2.2.1, v.2.2.2.2.2.2.2.2.2.2.1, v.2.2.2.2.2.2.2.2.2.2.2.1, v.2.2.2.2.2.2.2.2.2.2.2.2.1, v.2.2.2.2.2.2.2.2.2.2.2.2.2.1, v.2.2.2.2.2.2.2.2.2.2.2.2.2.2.1, (v.2.2.2.2.2.2.2.2.2.2.2.2.2.2.2.1 ++ [(y8.1, (y9.1 == (1 : Int)))]), v.2.2.2.2.2.2.2.2.2.2.2.2.2.2.2.2.1, ())
    else none
  else
  k0 (v.2.2.1, v.2.2.2.1, v.2.2.2.2.1, v.2.2.2.2.2.1, v.2.2.2.2.2.2.1, v.2.2.2.2.2.2.2.1, v.2.2.2.2.2.2.2.2.1, v.2.2.2.2.2.2.2.2.2.1, v.2.2.2.2.2.2.2.2.2.2.1, v.2.2.2.2.2.2.2.2.2.2.2.1, v.2.2.2.2.2.2.2.2.2.2.2.2.1, v.2.2.2.2.2.2.2.2.2.2.2.2.2.1, v.2.2.2.2.2.2.2.2.2.2.2.2.2.2.1, v.2.2.2.2.2.2.2.2.2.2.2.2.2.2.2.1, v.2.2.2.2.2.2.2.2.2.2.2.2.2.2.2.2.1, ())
noncomputable def f580v0l1 {R : Type} (k : Nat) (k0 : D129 → Option R) (v : D131) : Option R := iterS (fun rec v => f580v0l1s k rec k0 v) k v
noncomputable def f580v0l1S (k : Nat) : Sum1 := loopSum f580v0l1H f580v0l1N k (fun R rec K v => f580v0l1s k rec (fun w => K (.exit 2) (encSt f580v0l1X0 w)) v)
theorem f580v0l1E (k : Nat) (R : Type) (rec : St → Option R) (K : X → St → Option R) (v : f580v0l1H.Den) : evS tab (f580v0T k) Tryz.f80.ntmps [] (bodyOf f580v0l1C) 4084 (bodyK f580v0l1N f580v0l1M rec K) (encSt f580v0l1H v) = f580v0l1s k (fun v => rec (encSt f580v0l1H v)) (fun w => K (.exit 2) (encSt f580v0l1X0 w)) v := by kernel_rfl
theorem f580v0l1I (k : Nat) : SumsOk P Tryz.f80.ntmps [] (bodyOf f580v0l1C) 4084 := SumsOk.nil
theorem f580v0l1O (k : Nat) : SumOk P Tryz.f80.ntmps f580v0l1C (f580v0l1S k) := (show f580v0l1C = .loop (bodyOf f580v0l1C) by kernel_rfl) ▸ sum_loop tabOk (f580v0TS k) mixed (f580v0l1I k) (f580v0l1E k)
noncomputable def f580v0p2H : Shape := ⟨[(0, .one (.ptr 0 0)), (2, .one (.ptr 1 0)), (3, .one (.ptr 2 0))], [(0, .var 134 [.str, .int .i64, .int .i64]), (1, .var 52 [.str, .str, .own 3, .own 4, .bool, .own 5]), (2, .var 52 [.str, .str, .own 6, .own 7, .bool, .own 8]), (3, .row 156 Y1 .plain), (4, .row 158 (.pair .str .bool) .plain), (5, .row 100 (.pair .bool .str) .plain), (6, .row 156 Y1 .plain), (7, .row 158 (.pair .str .bool) .plain), (8, .row 100 (.pair .bool .str) .plain)], 9, [some 0]⟩
noncomputable def f580v0p2X0 : Shape := ⟨[(0, .one (.ptr 0 0)), (2, .one (.ptr 1 0)), (3, .one (.ptr 2 0))], [(0, .var 134 [.str, .int .i64, .int .i64]), (1, .var 52 [.str, .str, .own 3, .own 4, .bool, .own 5]), (2, .var 52 [.str, .str, .own 6, .own 7, .bool, .own 8]), (3, .row 156 Y1 .plain), (4, .row 158 (.pair .str .bool) .plain), (5, .row 100 (.pair .bool .str) .plain), (6, .row 156 Y1 .plain), (7, .row 158 (.pair .str .bool) .plain), (8, .row 100 (.pair .bool .str) .plain)], 9, [some 0]⟩
noncomputable def f580v0p2N : NoteR := ⟨[0, 2, 3], [], []⟩
noncomputable def f580v0p2M : NoteR := ⟨[0, 2, 3], [], []⟩
noncomputable def f580v0p2C : Code := firstC (codesAt 2046 (codeOf Tryz.f80) 1)
noncomputable def f580v0p2 {R : Type} (k : Nat) (k0 : D129 → Option R) (v : D129) : Option R :=
  bif (v.2.2.1 == (0 : Int)) then
    Option.bind (f527F k (v.2.2.2.2.2.2.1, ((v.2.2.2.2.2.2.2.1, v.2.2.2.2.2.2.2.2.2.2.2.2.1), (v.2.2.2.2.2.2.2.2.2.2.2.2.2.1, v.2.2.2.2.2.2.2.2.1)))) fun y12 =>
    k0 (v.1, v.2.1, y12, v.2.2.2.1, v.2.2.2.2.1, v.2.2.2.2.2.1, v.2.2.2.2.2.2.1, v.2.2.2.2.2.2.2.1, v.2.2.2.2.2.2.2.2.1, v.2.2.2.2.2.2.2.2.2.1, v.2.2.2.2.2.2.2.2.2.2.1, v.2.2.2.2.2.2.2.2.2.2.2.1, v.2.2.2.2.2.2.2.2.2.2.2.2.1, v.2.2.2.2.2.2.2.2.2.2.2.2.2.1, v.2.2.2.2.2.2.2.2.2.2.2.2.2.2.1, ())
  else
  k0 (v.1, v.2.1, v.2.2.1, v.2.2.2.1, v.2.2.2.2.1, v.2.2.2.2.2.1, v.2.2.2.2.2.2.1, v.2.2.2.2.2.2.2.1, v.2.2.2.2.2.2.2.2.1, v.2.2.2.2.2.2.2.2.2.1, v.2.2.2.2.2.2.2.2.2.2.1, v.2.2.2.2.2.2.2.2.2.2.2.1, v.2.2.2.2.2.2.2.2.2.2.2.2.1, v.2.2.2.2.2.2.2.2.2.2.2.2.2.1, v.2.2.2.2.2.2.2.2.2.2.2.2.2.2.1, ())
noncomputable def f580v0p2S (k : Nat) : Sum1 := partSum f580v0p2H f580v0p2N (fun R K v => f580v0p2 k (fun w => K .normal (encSt f580v0p2X0 w)) v)
theorem f580v0p2E (k : Nat) (R : Type) (K : X → St → Option R) (v : f580v0p2H.Den) : evS tab (f580v0T k) Tryz.f80.ntmps [] f580v0p2C 2046 (partK f580v0p2M K) (encSt f580v0p2H v) = f580v0p2 k (fun w => K .normal (encSt f580v0p2X0 w)) v := by kernel_rfl
theorem f580v0p2I (k : Nat) : SumsOk P Tryz.f80.ntmps [] f580v0p2C 2046 := SumsOk.nil
theorem f580v0p2O (k : Nat) : SumOk P Tryz.f80.ntmps f580v0p2C (f580v0p2S k) := sum_part tabOk (f580v0TS k) mixed (f580v0p2I k) (f580v0p2E k)
noncomputable def f580v0p3H : Shape := ⟨[(0, .one (.ptr 0 0)), (2, .one (.ptr 1 0)), (3, .one (.ptr 2 0)), (9, .one (.int .i64)), (10, .one (.int .i64)), (11, .one (.int .i64)), (12, .one (.ptr 3 0))], [(0, .var 134 [.str, .int .i64, .int .i64]), (1, .var 52 [.str, .str, .own 4, .own 5, .bool, .own 6]), (2, .var 52 [.str, .str, .own 7, .own 8, .bool, .own 9]), (3, .var 100 [.bool, .str]), (4, .row 156 Y1 .plain), (5, .row 158 (.pair .str .bool) .plain), (6, .row 100 (.pair .bool .str) .plain), (7, .row 156 Y1 .plain), (8, .row 158 (.pair .str .bool) .plain), (9, .row 100 (.pair .bool .str) .plain)], 10, [some 0]⟩
noncomputable def f580v0p3X0 : Shape := ⟨[(0, .one (.ptr 0 0)), (2, .one (.ptr 1 0)), (3, .one (.ptr 2 0)), (9, .one (.int .i64)), (10, .one (.int .i64)), (11, .one (.int .i64)), (12, .one (.ptr 3 0))], [(0, .var 134 [.str, .int .i64, .int .i64]), (1, .var 52 [.str, .str, .own 4, .own 5, .bool, .own 6]), (2, .var 52 [.str, .str, .own 7, .own 8, .bool, .own 9]), (3, .var 100 [.bool, .str]), (4, .row 156 Y1 .plain), (5, .row 158 (.pair .str .bool) .plain), (6, .row 100 (.pair .bool .str) .plain), (7, .row 156 Y1 .plain), (8, .row 158 (.pair .str .bool) .plain), (9, .row 100 (.pair .bool .str) .plain)], 10, [some 0]⟩
noncomputable def f580v0p3N : NoteR := ⟨[0, 2, 3, 9, 10, 11, 12], [], []⟩
noncomputable def f580v0p3M : NoteR := ⟨[0, 2, 3, 9, 10, 11, 12], [], []⟩
noncomputable def f580v0p3C : Code := firstC (codesAt 8388242 (codeOf Tryz.f80) 1)
noncomputable def f580v0p3 {R : Type} (k : Nat) (k0 : D130 → Option R) (v : D130) : Option R :=
  bif (!v.2.2.2.2.2.2.2.2.2.2.2.2.1) then
    Option.bind (f614v0F k (v.1, v.2.2.2.1, v.2.2.2.2.1, v.2.2.2.2.2.1, ())) fun y17 =>
    k0 (v.1, v.2.1, v.2.2.1, y17.2.1, y17.2.2.1, y17.2.2.2.1, v.2.2.2.2.2.2.1, v.2.2.2.2.2.2.2.1, v.2.2.2.2.2.2.2.2.1, v.2.2.2.2.2.2.2.2.2.1, v.2.2.2.2.2.2.2.2.2.2.1, v.2.2.2.2.2.2.2.2.2.2.2.1, v.2.2.2.2.2.2.2.2.2.2.2.2.1, y17.1, v.2.2.2.2.2.2.2.2.2.2.2.2.2.2.1, v.2.2.2.2.2.2.2.2.2.2.2.2.2.2.2.1, v.2.2.2.2.2.2.2.2.2.2.2.2.2.2.2.2.1, v.2.2.2.2.2.2.2.2.2.2.2.2.2.2.2.2.2.1, v.2.2.2.2.2.2.2.2.2.2.2.2.2.2.2.2.2.2.1, v.2.2.2.2.2.2.2.2.2.2.2.2.2.2.2.2.2.2.2.1, ())
  else
  k0 (v.1, v.2.1, v.2.2.1, v.2.2.2.1, v.2.2.2.2.1, v.2.2.2.2.2.1, v.2.2.2.2.2.2.1, v.2.2.2.2.2.2.2.1, v.2.2.2.2.2.2.2.2.1, v.2.2.2.2.2.2.2.2.2.1, v.2.2.2.2.2.2.2.2.2.2.1, v.2.2.2.2.2.2.2.2.2.2.2.1, v.2.2.2.2.2.2.2.2.2.2.2.2.1, v.2.2.2.2.2.2.2.2.2.2.2.2.2.1, v.2.2.2.2.2.2.2.2.2.2.2.2.2.2.1, v.2.2.2.2.2.2.2.2.2.2.2.2.2.2.2.1, v.2.2.2.2.2.2.2.2.2.2.2.2.2.2.2.2.1, v.2.2.2.2.2.2.2.2.2.2.2.2.2.2.2.2.2.1, v.2.2.2.2.2.2.2.2.2.2.2.2.2.2.2.2.2.2.1, v.2.2.2.2.2.2.2.2.2.2.2.2.2.2.2.2.2.2.2.1, ())
noncomputable def f580v0p3S (k : Nat) : Sum1 := partSum f580v0p3H f580v0p3N (fun R K v => f580v0p3 k (fun w => K .normal (encSt f580v0p3X0 w)) v)
theorem f580v0p3E (k : Nat) (R : Type) (K : X → St → Option R) (v : f580v0p3H.Den) : evS tab (f580v0T k) Tryz.f80.ntmps [] f580v0p3C 8388242 (partK f580v0p3M K) (encSt f580v0p3H v) = f580v0p3 k (fun w => K .normal (encSt f580v0p3X0 w)) v := by kernel_rfl
theorem f580v0p3I (k : Nat) : SumsOk P Tryz.f80.ntmps [] f580v0p3C 8388242 := SumsOk.nil
theorem f580v0p3O (k : Nat) : SumOk P Tryz.f80.ntmps f580v0p3C (f580v0p3S k) := sum_part tabOk (f580v0TS k) mixed (f580v0p3I k) (f580v0p3E k)
noncomputable def f580v0l4H : Shape := ⟨[(0, .one (.ptr 0 0)), (2, .one (.ptr 1 0)), (3, .one (.ptr 2 0)), (9, .one (.int .i64)), (10, .one (.int .i64)), (11, .one (.int .i64))], [(0, .var 134 [.str, .int .i64, .int .i64]), (1, .var 52 [.str, .str, .own 3, .own 4, .bool, .own 5]), (2, .var 52 [.str, .str, .own 6, .own 7, .bool, .own 8]), (3, .row 156 Y1 .plain), (4, .row 158 (.pair .str .bool) .plain), (5, .row 100 (.pair .bool .str) .plain), (6, .row 156 Y1 .plain), (7, .row 158 (.pair .str .bool) .plain), (8, .row 100 (.pair .bool .str) .plain)], 9, [some 0]⟩
noncomputable def f580v0l4X0 : Shape := ⟨[(2, .one (.ptr 1 0)), (3, .one (.ptr 2 0))], [(0, .var 134 [.str, .int .i64, .int .i64]), (1, .var 52 [.str, .str, .own 3, .own 4, .bool, .own 5]), (2, .var 52 [.str, .str, .own 6, .own 7, .bool, .own 8]), (3, .row 156 Y1 .plain), (4, .row 158 (.pair .str .bool) .plain), (5, .row 100 (.pair .bool .str) .plain), (6, .row 156 Y1 .plain), (7, .row 158 (.pair .str .bool) .plain), (8, .row 100 (.pair .bool .str) .plain)], 9, [some 0]⟩
noncomputable def f580v0l4N : NoteR := ⟨[0, 2, 3, 9, 10, 11], [], []⟩
noncomputable def f580v0l4M : NoteR := ⟨[2, 3], [], []⟩
noncomputable def f580v0l4C : Code := firstC (codesAt 131066 (codeOf Tryz.f80) 1)
noncomputable def f580v0l4s {R : Type} (k : Nat) (rec : D132 → Option R) (k0 : D129 → Option R) (v : D132) : Option R :=
  bif (decide (v.2.2.1 < v.2.1)) then
    Option.bind (f579v0F k ((1 : Int), v.2.2.2.1, v.2.2.2.2.1, v.2.2.2.2.2.1, ())) fun y16 =>
    f580v0p3 k
      (fun (w18 : D130) =>
        bif (decide ((w18.2.2.2.2.2.2.2.2.2.2.2.2.2.2.2.2.2.2.2.1.length + [(w18.2.2.2.2.2.2.2.2.2.2.2.2.1, w18.2.2.2.2.2.2.2.2.2.2.2.2.2.1)].length) * 24 ≤ 140737488355328) && decide (w18.2.2.2.2.2.2.2.2.2.2.2.2.2.2.2.2.2.2.2.1.length + [(w18.2.2.2.2.2.2.2.2.2.2.2.2.1, w18.2.2.2.2.2.2.2.2.2.2.2.2.2.1)].length ≤ 9223372036854775807)) then
        let t19 := (w18.2.2.2.2.2.2.2.2.2.2.2.2.2.2.2.2.2.2.2.1 ++ [(w18.2.2.2.2.2.2.2.2.2.2.2.2.1, w18.2.2.2.2.2.2.2.2.2.2.2.2.2.1)])
        rec (w18.1, w18.2.1, (IntKind.i64.wrap (w18.2.2.1 + (1 : Int))), w18.2.2.2.1, w18.2.2.2.2.1, w18.2.2.2.2.2.1, w18.2.2.2.2.2.2.1, w18.2.2.2.2.2.2.2.1, w18.2.2.2.2.2.2.2.2.1, w18.2.2.2.2.2.2.2.2.2.1, w18.2.2.2.2.2.2.2.2.2.2.1, w18.2.2.2.2.2.2.2.2.2.2.2.1, w18.2.2.2.2.2.2.2.2.2.2.2.2.2.2.1, w18.2.2.2.2.2.2.2.2.2.2.2.2.2.2.2.1, w18.2.2.2.2.2.2.2.2.2.2.2.2.2.2.2.2.1, w18.2.2.2.2.2.2.2.2.2.2.2.2.2.2.2.2.2.1, w18.2.2.2.2.2.2.2.2.2.2.2.2.2.2.2.2.2.2.1, t19, ())
        else none)
      (v.1, v.2.1, v.2.2.1, y16.2.1, y16.2.2.1, y16.2.2.2.1, v.2.2.2.2.2.2.1, v.2.2.2.2.2.2.2.1, v.2.2.2.2.2.2.2.2.1, v.2.2.2.2.2.2.2.2.2.1, v.2.2.2.2.2.2.2.2.2.2.1, v.2.2.2.2.2.2.2.2.2.2.2.1, (y16.1 == (0 : Int)), ByteArray.empty, v.2.2.2.2.2.2.2.2.2.2.2.2.1, v.2.2.2.2.2.2.2.2.2.2.2.2.2.1, v.2.2.2.2.2.2.2.2.2.2.2.2.2.2.1, v.2.2.2.2.2.2.2.2.2.2.2.2.2.2.2.1, v.2.2.2.2.2.2.2.2.2.2.2.2.2.2.2.2.1, v.2.2.2.2.2.2.2.2.2.2.2.2.2.2.2.2.2.1, ())
  else
  k0 (v.2.2.2.1, v.2.2.2.2.1, v.2.2.2.2.2.1, v.2.2.2.2.2.2.1, v.2.2.2.2.2.2.2.1, v.2.2.2.2.2.2.2.2.1, v.2.2.2.2.2.2.2.2.2.1, v.2.2.2.2.2.2.2.2.2.2.1, v.2.2.2.2.2.2.2.2.2.2.2.1, v.2.2.2.2.2.2.2.2.2.2.2.2.1, v.2.2.2.2.2.2.2.2.2.2.2.2.2.1, v.2.2.2.2.2.2.2.2.2.2.2.2.2.2.1, v.2.2.2.2.2.2.2.2.2.2.2.2.2.2.2.1, v.2.2.2.2.2.2.2.2.2.2.2.2.2.2.2.2.1, v.2.2.2.2.2.2.2.2.2.2.2.2.2.2.2.2.2.1, ())
noncomputable def f580v0l4 {R : Type} (k : Nat) (k0 : D129 → Option R) (v : D132) : Option R := iterS (fun rec v => f580v0l4s k rec k0 v) k v
noncomputable def f580v0l4S (k : Nat) : Sum1 := loopSum f580v0l4H f580v0l4N k (fun R rec K v => f580v0l4s k rec (fun w => K (.exit 4) (encSt f580v0l4X0 w)) v)
theorem f580v0l4E (k : Nat) (R : Type) (rec : St → Option R) (K : X → St → Option R) (v : f580v0l4H.Den) : evS tab (f580v0T k) Tryz.f80.ntmps [(8388242, f580v0p3S k)] (bodyOf f580v0l4C) 262132 (bodyK f580v0l4N f580v0l4M rec K) (encSt f580v0l4H v) = f580v0l4s k (fun v => rec (encSt f580v0l4H v)) (fun w => K (.exit 4) (encSt f580v0l4X0 w)) v := by kernel_rfl
theorem f580v0l4I (k : Nat) : SumsOk P Tryz.f80.ntmps [(8388242, f580v0p3S k)] (bodyOf f580v0l4C) 262132 := (SumsOk.nil).cons (c := f580v0p3C) (by kernel_rfl) (f580v0p3O k)
theorem f580v0l4O (k : Nat) : SumOk P Tryz.f80.ntmps f580v0l4C (f580v0l4S k) := (show f580v0l4C = .loop (bodyOf f580v0l4C) by kernel_rfl) ▸ sum_loop tabOk (f580v0TS k) mixed (f580v0l4I k) (f580v0l4E k)
noncomputable def f580v0F (k : Nat) (x : D46) : Option (D133) :=
  Option.bind (f616v0F k (x.1, x.2.1, x.2.2.1, ())) fun y1 =>
  Option.bind (f616v0F k (y1.2.1, y1.2.2.1, y1.2.2.2.1, ())) fun y2 =>
  Option.bind (f579v0F k ((20 : Int), y2.2.1, y2.2.2.1, y2.2.2.2.1, ())) fun y3 =>
  f580v0l0 k
    (fun (w6 : D129) =>
      Option.bind (f579v0F k ((4 : Int), w6.1, w6.2.1, w6.2.2.1, ())) fun y7 =>
      f580v0l1 k
        (fun (w10 : D129) =>
          Option.bind (f579v0F k ((1 : Int), w10.1, w10.2.1, w10.2.2.1, ())) fun y11 =>
          f580v0p2 k
            (fun (w13 : D129) =>
              bif (w13.2.2.1 != (0 : Int)) then
                some (w13.2.2.2.2.2.2.1, w13.2.2.2.2.2.2.2.1, w13.2.2.2.2.2.2.2.2.2.2.2.2.1, w13.2.2.2.2.2.2.2.2.2.2.2.2.2.1, w13.2.2.2.2.2.2.2.2.1, w13.2.2.2.2.2.2.2.2.2.2.2.2.2.2.1, w13.1, w13.2.1, w13.2.2.1, ())
              else
              Option.bind (f618F k (w13.2.2.2.2.2.2.2.1, w13.2.2.2.2.2.2.2.2.2.2.2.2.1)) fun y14 =>
              Option.bind (f579v0F k ((60 : Int), w13.1, w13.2.1, w13.2.2.1, ())) fun y15 =>
              f580v0l4 k
                (fun (w20 : D129) =>
                  some (w20.2.2.2.2.2.2.1, w20.2.2.2.2.2.2.2.1, w20.2.2.2.2.2.2.2.2.2.2.2.2.1, w20.2.2.2.2.2.2.2.2.2.2.2.2.2.1, w20.2.2.2.2.2.2.2.2.1, w20.2.2.2.2.2.2.2.2.2.2.2.2.2.2.1, w20.1, w20.2.1, w20.2.2.1, ()))
                (y14, y15.1, (0 : Int), y15.2.1, y15.2.2.1, y15.2.2.2.1, w13.2.2.2.1, w13.2.2.2.2.1, w13.2.2.2.2.2.1, w13.2.2.2.2.2.2.1, w13.2.2.2.2.2.2.2.1, w13.2.2.2.2.2.2.2.2.1, w13.2.2.2.2.2.2.2.2.2.1, w13.2.2.2.2.2.2.2.2.2.2.1, w13.2.2.2.2.2.2.2.2.2.2.2.1, w13.2.2.2.2.2.2.2.2.2.2.2.2.1, w13.2.2.2.2.2.2.2.2.2.2.2.2.2.1, w13.2.2.2.2.2.2.2.2.2.2.2.2.2.2.1, ()))
            (y11.2.1, y11.2.2.1, y11.2.2.2.1, w10.2.2.2.1, w10.2.2.2.2.1, w10.2.2.2.2.2.1, w10.2.2.2.2.2.2.1, w10.2.2.2.2.2.2.2.1, (y11.1 == (1 : Int)), w10.2.2.2.2.2.2.2.2.2.1, w10.2.2.2.2.2.2.2.2.2.2.1, w10.2.2.2.2.2.2.2.2.2.2.2.1, w10.2.2.2.2.2.2.2.2.2.2.2.2.1, w10.2.2.2.2.2.2.2.2.2.2.2.2.2.1, w10.2.2.2.2.2.2.2.2.2.2.2.2.2.2.1, ()))
        (y7.1, (0 : Int), y7.2.1, y7.2.2.1, y7.2.2.2.1, w6.2.2.2.1, w6.2.2.2.2.1, w6.2.2.2.2.2.1, w6.2.2.2.2.2.2.1, w6.2.2.2.2.2.2.2.1, w6.2.2.2.2.2.2.2.2.1, w6.2.2.2.2.2.2.2.2.2.1, w6.2.2.2.2.2.2.2.2.2.2.1, w6.2.2.2.2.2.2.2.2.2.2.2.1, w6.2.2.2.2.2.2.2.2.2.2.2.2.1, w6.2.2.2.2.2.2.2.2.2.2.2.2.2.1, w6.2.2.2.2.2.2.2.2.2.2.2.2.2.2.1, ()))
    (y3.1, (0 : Int), y3.2.1, y3.2.2.1, y3.2.2.2.1, ByteArray.empty, ByteArray.empty, false, y1.1, y2.1, false, [], [], [], [], [], [], ())
noncomputable def f580v0L (k : Nat) : Sums := [(506, f580v0l0S k), (2042, f580v0l1S k), (2046, f580v0p2S k), (8388242, f580v0p3S k), (131066, f580v0l4S k)]
theorem f580v0LS (k : Nat) : SumsOk P Tryz.f80.ntmps (f580v0L k) (codeOf Tryz.f80) 1 := (((((SumsOk.nil).cons (c := f580v0l4C) (by kernel_rfl) (f580v0l4O k)).cons (c := f580v0p3C) (by kernel_rfl) (f580v0p3O k)).cons (c := f580v0p2C) (by kernel_rfl) (f580v0p2O k)).cons (c := f580v0l1C) (by kernel_rfl) (f580v0l1O k)).cons (c := f580v0l0C) (by kernel_rfl) (f580v0l0O k)
theorem f580v0E (k : Nat) (x : f580v0I.Den) : evG tab (f580v0T k) (f580v0L k) Tryz.f80.ntmps Tryz.f80.results.toList (codeOf Tryz.f80) f580v0I x [.agg .bool] [] f580v0U none = f580v0F k x := by kernel_rfl
theorem f580v0Ok (k : Nat) (x : f580v0I.Den) (y : f580v0U.Den) (h : f580v0F k x = some y) : GnOk P 80 f580v0I f580v0U x y :=
  evG_sound tabOk (f580v0TS k) mixed Tryz.func80 (c := codeOf Tryz.f80) (by kernel_rfl) (f580v0LS k) ((f580v0E k x).trans h)
/-! ## midrange/midrangeref34.TablesIn -/
noncomputable def f533T (k : Nat) : Table := [(63, f563A k), (79, entG f579v0I f579v0U (f579v0F k)), (80, entG f580v0I f580v0U (f580v0F k))]
theorem f533TS (k : Nat) : Sound P (f533T k) := (((Sound.nil).consE f580B (entG_ok (f580v0Ok k))).consE f579B (entG_ok (f579v0Ok k))).consE f563B (f563Ao k)
theorem f533B : HasBody P 33 := ⟨Tryz.f33, Tryz.func33, by kernel_rfl, by kernel_rfl⟩
noncomputable def f533l0H : Shape := ⟨[(0, .one (.str)), (4, .one (.ptr 0 0)), (5, .one (.int .i64)), (6, .one (.own 1)), (7, .one (.int .i64))], [(0, .var 134 [.str, .int .i64, .int .i64]), (1, .row 52 Y6 .plain)], 2, []⟩
noncomputable def f533l0X0 : Shape := ⟨[(0, .one (.str)), (4, .one (.ptr 0 0)), (6, .one (.own 1))], [(0, .var 134 [.str, .int .i64, .int .i64]), (1, .row 52 Y6 .plain)], 2, []⟩
noncomputable def f533l0N : NoteR := ⟨[0, 4, 5, 6, 7], [(6, 52, Y6)], []⟩
noncomputable def f533l0M : NoteR := ⟨[0, 2, 3, 4, 6], [], []⟩
noncomputable def f533l0C : Code := firstC (codesAt 250 (codeOf Tryz.f33) 1)
noncomputable def f533l0s {R : Type} (k : Nat) (rec : D135 → Option R) (k0 : D134 → Option R) (v : D135) : Option R :=
  bif (decide (v.2.2.1 < v.2.1)) then
    bif (v.2.2.2.2.2.1 == (0 : Int)) then
      Option.bind (f580v0F k (v.2.2.2.1, v.2.2.2.2.1, v.2.2.2.2.2.1, ())) fun y2 =>
      let t3 := [((y2.1, ((y2.2.1, y2.2.2.1), (y2.2.2.2.1, y2.2.2.2.2.1))), y2.2.2.2.2.2.1)]
      bif (decide ((v.2.2.2.2.2.2.1.length + t3.length) * 112 ≤ 140737488355328) && decide (v.2.2.2.2.2.2.1.length + t3.length ≤ 9223372036854775807)) then
      rec (v.1, v.2.1, (IntKind.i64.wrap (v.2.2.1 + (1 : Int))), y2.2.2.2.2.2.2.1, y2.2.2.2.2.2.2.2.1, y2.2.2.2.2.2.2.2.2.1, (v.2.2.2.2.2.2.1 ++ t3), ())
      else none
    else
    k0 (v.1, v.2.2.2.1, v.2.2.2.2.1, v.2.2.2.2.2.1, v.2.2.2.2.2.2.1, ())
  else
  k0 (v.1, v.2.2.2.1, v.2.2.2.2.1, v.2.2.2.2.2.1, v.2.2.2.2.2.2.1, ())
noncomputable def f533l0 {R : Type} (k : Nat) (k0 : D134 → Option R) (v : D135) : Option R := iterS (fun rec v => f533l0s k rec k0 v) k v
noncomputable def f533l0S (k : Nat) : Sum1 := loopSum f533l0H f533l0N k (fun R rec K v => f533l0s k rec (fun w => K (.exit 0) (encSt f533l0X0 w)) v)
theorem f533l0E (k : Nat) (R : Type) (rec : St → Option R) (K : X → St → Option R) (v : f533l0H.Den) : evS tab (f533T k) Tryz.f33.ntmps [] (bodyOf f533l0C) 500 (bodyK f533l0N f533l0M rec K) (encSt f533l0H v) = f533l0s k (fun v => rec (encSt f533l0H v)) (fun w => K (.exit 0) (encSt f533l0X0 w)) v := by kernel_rfl
theorem f533l0I (k : Nat) : SumsOk P Tryz.f33.ntmps [] (bodyOf f533l0C) 500 := SumsOk.nil
theorem f533l0O (k : Nat) : SumOk P Tryz.f33.ntmps f533l0C (f533l0S k) := (show f533l0C = .loop (bodyOf f533l0C) by kernel_rfl) ▸ sum_loop tabOk (f533TS k) mixed (f533l0I k) (f533l0E k)
noncomputable def f533F (k : Nat) (x : ByteArray) : Option (List D34 × Int) :=
  Option.bind (f579v0F k ((8 : Int), x, (0 : Int), (0 : Int), ())) fun y1 =>
  f533l0 k
    (fun (w4 : D134) =>
      bif (w4.2.2.2.1 != (0 : Int)) then
        some ([], w4.2.2.2.1)
      else
      bif (decide (w4.2.2.1 < (w4.1.size : Int))) then
        some ([], (10 : Int))
      else
      Option.bind (f563F k w4.2.2.2.2.1) fun y5 =>
      bif (y5 != (0 : Int)) then
        some ([], y5)
      else
      some (w4.2.2.2.2.1, (0 : Int)))
    (x, y1.1, (0 : Int), y1.2.1, y1.2.2.1, y1.2.2.2.1, [], ())
noncomputable def f533L (k : Nat) : Sums := [(250, f533l0S k)]
theorem f533LS (k : Nat) : SumsOk P Tryz.f33.ntmps (f533L k) (codeOf Tryz.f33) 1 := (SumsOk.nil).cons (c := f533l0C) (by kernel_rfl) (f533l0O k)
theorem f533E (k : Nat) (x : ByteArray) : evFS tab (f533T k) (f533L k) Tryz.f33.ntmps Tryz.f33.results.toList (codeOf Tryz.f33) (argsV [.dat .str] x) [.own 52 Y6, .dat (.int .i64)] none = f533F k x := by kernel_rfl
theorem f533Ok (k : Nat) (x : ByteArray) (y : List D34 × Int) (h : f533F k x = some y) : FnOk P 33 [.dat .str] [.own 52 Y6, .dat (.int .i64)] x y :=
  evFS_sound tabOk (f533TS k) mixed Tryz.func33 (c := codeOf Tryz.f33) (by kernel_rfl) (f533LS k) ((f533E k x).trans h)
noncomputable def f533A (k : Nat) := entFn [.dat .str] [.own 52 Y6, .dat (.int .i64)] (f533F k)
theorem f533Ao (k : Nat) : EntOk P 33 (f533A k) := entFn_ok (f533Ok k)
/-! ## midrange/midrangebase.SameFormat -/
noncomputable def f629T (k : Nat) : Table := []
theorem f629TS (k : Nat) : Sound P (f629T k) := Sound.nil
theorem f629B : HasBody P 129 := ⟨Tryz.f129, Tryz.func129, by kernel_rfl, by kernel_rfl⟩
noncomputable def f629l0H : Shape := ⟨[(2, .one (.ptr 0 0)), (3, .one (.ptr 1 0)), (5, .one (.int .i64))], [(0, .var 46 [.str, .ro Y1]), (1, .var 46 [.str, .ro Y1])], 2, []⟩
noncomputable def f629l0X0 : Shape := ⟨[(4, .one (.bool))], [], 0, []⟩
noncomputable def f629l0X1 : Shape := ⟨[], [], 0, []⟩
noncomputable def f629l0N : NoteR := ⟨[2, 3, 5], [], []⟩
noncomputable def f629l0M : NoteR := ⟨[4], [], []⟩
noncomputable def f629l0C : Code := firstC (codesAt 58 (codeOf Tryz.f129) 1)
noncomputable def f629l0s {R : Type} (k : Nat) (rec : D136 → Option R) (k0 : Bool × Unit → Option R) (k1 : Unit → Option R) (v : D136) : Option R :=
  bif (decide (v.1 < (v.2.2.1.length : Int))) then
    bif ((decide ((0 : Int) ≤ v.1)) && (decide (v.1 < (v.2.2.1.length : Int)))) then
    let t1 := (v.2.2.1.getD (Int.toNat v.1) (ByteArray.empty, ((0 : Int), ((0 : Int), (0 : Int)))))
    bif ((decide ((0 : Int) ≤ v.1)) && (decide (v.1 < (v.2.2.2.2.1.length : Int)))) then
    let t2 := (v.2.2.2.2.1.getD (Int.toNat v.1) (ByteArray.empty, ((0 : Int), ((0 : Int), (0 : Int)))))
    let t3 := (!((strEq t1.1 t2.1) && (((t1.2.1 == t2.2.1) && ((t1.2.2.1 == t2.2.2.1) && ((t1.2.2.2 == t2.2.2.2) && true))) && true)))
    bif t3 then
      k0 (false, ())
    else
    rec ((IntKind.i64.wrap (v.1 + (1 : Int))), v.2.1, v.2.2.1, v.2.2.2.1, v.2.2.2.2.1, ())
    else none
    else none
  else
  k1 (())
noncomputable def f629l0 {R : Type} (k : Nat) (k0 : Bool × Unit → Option R) (k1 : Unit → Option R) (v : D136) : Option R := iterS (fun rec v => f629l0s k rec k0 k1 v) k v
noncomputable def f629l0S (k : Nat) : Sum1 := loopSum f629l0H f629l0N k (fun R rec K v => f629l0s k rec (fun w => K .ret (encSt f629l0X0 w)) (fun w => K (.exit 0) (encSt f629l0X1 w)) v)
theorem f629l0E (k : Nat) (R : Type) (rec : St → Option R) (K : X → St → Option R) (v : f629l0H.Den) : evS tab (f629T k) Tryz.f129.ntmps [] (bodyOf f629l0C) 116 (bodyK f629l0N f629l0M rec K) (encSt f629l0H v) = f629l0s k (fun v => rec (encSt f629l0H v)) (fun w => K .ret (encSt f629l0X0 w)) (fun w => K (.exit 0) (encSt f629l0X1 w)) v := by kernel_rfl
theorem f629l0I (k : Nat) : SumsOk P Tryz.f129.ntmps [] (bodyOf f629l0C) 116 := SumsOk.nil
theorem f629l0O (k : Nat) : SumOk P Tryz.f129.ntmps f629l0C (f629l0S k) := (show f629l0C = .loop (bodyOf f629l0C) by kernel_rfl) ▸ sum_loop tabOk (f629TS k) mixed (f629l0I k) (f629l0E k)
noncomputable def f629F (k : Nat) (x : D137) : Option (Bool) :=
  bif (!strEq x.1.1 x.2.1) then
    some false
  else
  bif ((x.1.2.length : Int) != (x.2.2.length : Int)) then
    some false
  else
  f629l0 k
    (fun (w4 : Bool × Unit) =>
      some w4.1)
    (fun (w5 : Unit) =>
      some true)
    ((0 : Int), x.1.1, x.1.2, x.2.1, x.2.2, ())
noncomputable def f629L (k : Nat) : Sums := [(58, f629l0S k)]
theorem f629LS (k : Nat) : SumsOk P Tryz.f129.ntmps (f629L k) (codeOf Tryz.f129) 1 := (SumsOk.nil).cons (c := f629l0C) (by kernel_rfl) (f629l0O k)
theorem f629E (k : Nat) (x : D137) : evFS tab (f629T k) (f629L k) Tryz.f129.ntmps Tryz.f129.results.toList (codeOf Tryz.f129) (argsV [.agg Y2, .agg Y2] x) [.dat .bool] none = f629F k x := by kernel_rfl
theorem f629Ok (k : Nat) (x : D137) (y : Bool) (h : f629F k x = some y) : FnOk P 129 [.agg Y2, .agg Y2] [.dat .bool] x y :=
  evFS_sound tabOk (f629TS k) mixed Tryz.func129 (c := codeOf Tryz.f129) (by kernel_rfl) (f629LS k) ((f629E k x).trans h)
noncomputable def f629A (k : Nat) := entFnB [.agg Y2, .agg Y2] [.dat .bool] (f629F k)
theorem f629Ao (k : Nat) : EntOk P 129 (f629A k) := entFnB_ok (f629Ok k)
/-! ## midrange/midrangebase.SameFile -/
noncomputable def f591T (k : Nat) : Table := [(129, f629A k)]
theorem f591TS (k : Nat) : Sound P (f591T k) := (Sound.nil).consE f629B (f629Ao k)
theorem f591B : HasBody P 91 := ⟨Tryz.f91, Tryz.func91, by kernel_rfl, by kernel_rfl⟩
noncomputable def f591l0H : Shape := ⟨[(2, .one (.ptr 0 0)), (3, .one (.ptr 1 0)), (5, .one (.int .i64))], [(0, .var 49 [.str, .str, .ro Y1, .ro (.pair .str .bool), .bool]), (1, .var 49 [.str, .str, .ro Y1, .ro (.pair .str .bool), .bool])], 2, []⟩
noncomputable def f591l0X0 : Shape := ⟨[(4, .one (.bool))], [], 0, []⟩
noncomputable def f591l0X1 : Shape := ⟨[], [], 0, []⟩
noncomputable def f591l0N : NoteR := ⟨[2, 3, 5], [], []⟩
noncomputable def f591l0M : NoteR := ⟨[4], [], []⟩
noncomputable def f591l0C : Code := firstC (codesAt 58 (codeOf Tryz.f91) 1)
noncomputable def f591l0s {R : Type} (k : Nat) (rec : D138 → Option R) (k0 : Bool × Unit → Option R) (k1 : Unit → Option R) (v : D138) : Option R :=
  bif (decide (v.1 < (v.2.2.2.2.1.length : Int))) then
    bif ((decide ((0 : Int) ≤ v.1)) && (decide (v.1 < (v.2.2.2.2.1.length : Int)))) then
    bif ((decide ((0 : Int) ≤ v.1)) && (decide (v.1 < (v.2.2.2.2.2.2.2.2.2.1.length : Int)))) then
    let t2 := (v.2.2.2.2.2.2.2.2.2.1.getD (Int.toNat v.1) (ByteArray.empty, false)).1
    let t3 := (v.2.2.2.2.2.2.2.2.2.1.getD (Int.toNat v.1) (ByteArray.empty, false)).2
    let t4 := (!((strEq (v.2.2.2.2.1.getD (Int.toNat v.1) (ByteArray.empty, false)).1 t2) && (((v.2.2.2.2.1.getD (Int.toNat v.1) (ByteArray.empty, false)).2 == t3) && true)))
    bif t4 then
      k0 (false, ())
    else
    rec ((IntKind.i64.wrap (v.1 + (1 : Int))), v.2.1, v.2.2.1, v.2.2.2.1, v.2.2.2.2.1, v.2.2.2.2.2.1, v.2.2.2.2.2.2.1, v.2.2.2.2.2.2.2.1, v.2.2.2.2.2.2.2.2.1, v.2.2.2.2.2.2.2.2.2.1, v.2.2.2.2.2.2.2.2.2.2.1, ())
    else none
    else none
  else
  k1 (())
noncomputable def f591l0 {R : Type} (k : Nat) (k0 : Bool × Unit → Option R) (k1 : Unit → Option R) (v : D138) : Option R := iterS (fun rec v => f591l0s k rec k0 k1 v) k v
noncomputable def f591l0S (k : Nat) : Sum1 := loopSum f591l0H f591l0N k (fun R rec K v => f591l0s k rec (fun w => K .ret (encSt f591l0X0 w)) (fun w => K (.exit 0) (encSt f591l0X1 w)) v)
theorem f591l0E (k : Nat) (R : Type) (rec : St → Option R) (K : X → St → Option R) (v : f591l0H.Den) : evS tab (f591T k) Tryz.f91.ntmps [] (bodyOf f591l0C) 116 (bodyK f591l0N f591l0M rec K) (encSt f591l0H v) = f591l0s k (fun v => rec (encSt f591l0H v)) (fun w => K .ret (encSt f591l0X0 w)) (fun w => K (.exit 0) (encSt f591l0X1 w)) v := by kernel_rfl
theorem f591l0I (k : Nat) : SumsOk P Tryz.f91.ntmps [] (bodyOf f591l0C) 116 := SumsOk.nil
theorem f591l0O (k : Nat) : SumOk P Tryz.f91.ntmps f591l0C (f591l0S k) := (show f591l0C = .loop (bodyOf f591l0C) by kernel_rfl) ▸ sum_loop tabOk (f591TS k) mixed (f591l0I k) (f591l0E k)
noncomputable def f591F (k : Nat) (x : D139) : Option (Bool) :=
  bif (!strEq x.1.1 x.2.1) then
    some false
  else
  bif (!(x.1.2.2.2 == x.2.2.2.2)) then
    some false
  else
  Option.bind (f629F k ((x.1.2.1.1, x.1.2.1.2), (x.2.2.1.1, x.2.2.1.2))) fun y1 =>
  bif (!y1) then
    some false
  else
  bif ((x.1.2.2.1.length : Int) != (x.2.2.2.1.length : Int)) then
    some false
  else
  f591l0 k
    (fun (w5 : Bool × Unit) =>
      some w5.1)
    (fun (w6 : Unit) =>
      some true)
    ((0 : Int), x.1.1, x.1.2.1.1, x.1.2.1.2, x.1.2.2.1, x.1.2.2.2, x.2.1, x.2.2.1.1, x.2.2.1.2, x.2.2.2.1, x.2.2.2.2, ())
noncomputable def f591L (k : Nat) : Sums := [(58, f591l0S k)]
theorem f591LS (k : Nat) : SumsOk P Tryz.f91.ntmps (f591L k) (codeOf Tryz.f91) 1 := (SumsOk.nil).cons (c := f591l0C) (by kernel_rfl) (f591l0O k)
theorem f591E (k : Nat) (x : D139) : evFS tab (f591T k) (f591L k) Tryz.f91.ntmps Tryz.f91.results.toList (codeOf Tryz.f91) (argsV [.agg Y4, .agg Y4] x) [.dat .bool] none = f591F k x := by kernel_rfl
theorem f591Ok (k : Nat) (x : D139) (y : Bool) (h : f591F k x = some y) : FnOk P 91 [.agg Y4, .agg Y4] [.dat .bool] x y :=
  evFS_sound tabOk (f591TS k) mixed Tryz.func91 (c := codeOf Tryz.f91) (by kernel_rfl) (f591LS k) ((f591E k x).trans h)
noncomputable def f591A (k : Nat) := entFnB [.agg Y4, .agg Y4] [.dat .bool] (f591F k)
theorem f591Ao (k : Nat) : EntOk P 91 (f591A k) := entFnB_ok (f591Ok k)
/-! ## midrange/midrangebase.SameRecords -/
noncomputable def f575T (k : Nat) : Table := []
theorem f575TS (k : Nat) : Sound P (f575T k) := Sound.nil
theorem f575B : HasBody P 75 := ⟨Tryz.f75, Tryz.func75, by kernel_rfl, by kernel_rfl⟩
noncomputable def f575l0H : Shape := ⟨[(0, .one (.ro (.pair .bool .str))), (1, .one (.ro (.pair .bool .str))), (5, .one (.int .i64))], [], 0, []⟩
noncomputable def f575l0X0 : Shape := ⟨[(4, .one (.bool))], [], 0, []⟩
noncomputable def f575l0X1 : Shape := ⟨[], [], 0, []⟩
noncomputable def f575l0N : NoteR := ⟨[0, 1, 5], [], []⟩
noncomputable def f575l0M : NoteR := ⟨[4], [], []⟩
noncomputable def f575l0C : Code := firstC (codesAt 58 (codeOf Tryz.f75) 1)
noncomputable def f575l0s {R : Type} (k : Nat) (rec : D140 → Option R) (k0 : Bool × Unit → Option R) (k1 : Unit → Option R) (v : D140) : Option R :=
  bif (decide (v.2.2.1 < (v.1.length : Int))) then
    bif ((decide ((0 : Int) ≤ v.2.2.1)) && (decide (v.2.2.1 < (v.1.length : Int)))) then
    bif ((decide ((0 : Int) ≤ v.2.2.1)) && (decide (v.2.2.1 < (v.2.1.length : Int)))) then
    let t1 := (!(((v.1.getD (Int.toNat v.2.2.1) (false, ByteArray.empty)).1 == (v.2.1.getD (Int.toNat v.2.2.1) (false, ByteArray.empty)).1) && ((strEq (v.1.getD (Int.toNat v.2.2.1) (false, ByteArray.empty)).2 (v.2.1.getD (Int.toNat v.2.2.1) (false, ByteArray.empty)).2) && true)))
    bif t1 then
      k0 (false, ())
    else
    rec (v.1, v.2.1, (IntKind.i64.wrap (v.2.2.1 + (1 : Int))), ())
    else none
    else none
  else
  k1 (())
noncomputable def f575l0 {R : Type} (k : Nat) (k0 : Bool × Unit → Option R) (k1 : Unit → Option R) (v : D140) : Option R := iterS (fun rec v => f575l0s k rec k0 k1 v) k v
noncomputable def f575l0S (k : Nat) : Sum1 := loopSum f575l0H f575l0N k (fun R rec K v => f575l0s k rec (fun w => K .ret (encSt f575l0X0 w)) (fun w => K (.exit 0) (encSt f575l0X1 w)) v)
theorem f575l0E (k : Nat) (R : Type) (rec : St → Option R) (K : X → St → Option R) (v : f575l0H.Den) : evS tab (f575T k) Tryz.f75.ntmps [] (bodyOf f575l0C) 116 (bodyK f575l0N f575l0M rec K) (encSt f575l0H v) = f575l0s k (fun v => rec (encSt f575l0H v)) (fun w => K .ret (encSt f575l0X0 w)) (fun w => K (.exit 0) (encSt f575l0X1 w)) v := by kernel_rfl
theorem f575l0I (k : Nat) : SumsOk P Tryz.f75.ntmps [] (bodyOf f575l0C) 116 := SumsOk.nil
theorem f575l0O (k : Nat) : SumOk P Tryz.f75.ntmps f575l0C (f575l0S k) := (show f575l0C = .loop (bodyOf f575l0C) by kernel_rfl) ▸ sum_loop tabOk (f575TS k) mixed (f575l0I k) (f575l0E k)
noncomputable def f575F (k : Nat) (x : D141) : Option (Bool) :=
  bif ((x.1.length : Int) != (x.2.length : Int)) then
    some false
  else
  f575l0 k
    (fun (w2 : Bool × Unit) =>
      some w2.1)
    (fun (w3 : Unit) =>
      some true)
    (x.1, x.2, (0 : Int), ())
noncomputable def f575L (k : Nat) : Sums := [(58, f575l0S k)]
theorem f575LS (k : Nat) : SumsOk P Tryz.f75.ntmps (f575L k) (codeOf Tryz.f75) 1 := (SumsOk.nil).cons (c := f575l0C) (by kernel_rfl) (f575l0O k)
theorem f575E (k : Nat) (x : D141) : evFS tab (f575T k) (f575L k) Tryz.f75.ntmps Tryz.f75.results.toList (codeOf Tryz.f75) (argsV [.dat (.slice (.pair .bool .str)), .dat (.slice (.pair .bool .str))] x) [.dat .bool] none = f575F k x := by kernel_rfl
theorem f575Ok (k : Nat) (x : D141) (y : Bool) (h : f575F k x = some y) : FnOk P 75 [.dat (.slice (.pair .bool .str)), .dat (.slice (.pair .bool .str))] [.dat .bool] x y :=
  evFS_sound tabOk (f575TS k) mixed Tryz.func75 (c := codeOf Tryz.f75) (by kernel_rfl) (f575LS k) ((f575E k x).trans h)
noncomputable def f575A (k : Nat) := entFnB [.dat (.slice (.pair .bool .str)), .dat (.slice (.pair .bool .str))] [.dat .bool] (f575F k)
theorem f575Ao (k : Nat) : EntOk P 75 (f575A k) := entFnB_ok (f575Ok k)
/-! ## midrange/midrangebase.SameTable -/
noncomputable def f546T (k : Nat) : Table := [(75, f575A k), (91, f591A k)]
theorem f546TS (k : Nat) : Sound P (f546T k) := ((Sound.nil).consE f591B (f591Ao k)).consE f575B (f575Ao k)
theorem f546B : HasBody P 46 := ⟨Tryz.f46, Tryz.func46, by kernel_rfl, by kernel_rfl⟩
noncomputable def f546F (k : Nat) (x : D34 × D34) : Option (Bool) :=
  Option.bind (f591F k ((x.1.1.1, ((x.1.1.2.1.1, x.1.1.2.1.2), (x.1.1.2.2.1, x.1.1.2.2.2))), (x.2.1.1, ((x.2.1.2.1.1, x.2.1.2.1.2), (x.2.1.2.2.1, x.2.1.2.2.2))))) fun y1 =>
  bif y1 then
    Option.bind (f575F k (x.1.2, x.2.2)) fun y2 =>
    some y2
  else
  some false
noncomputable def f546L (k : Nat) : Sums := []
theorem f546LS (k : Nat) : SumsOk P Tryz.f46.ntmps (f546L k) (codeOf Tryz.f46) 1 := SumsOk.nil
theorem f546E (k : Nat) (x : D34 × D34) : evFS tab (f546T k) (f546L k) Tryz.f46.ntmps Tryz.f46.results.toList (codeOf Tryz.f46) (argsV [.agg Y6, .agg Y6] x) [.dat .bool] none = f546F k x := by kernel_rfl
theorem f546Ok (k : Nat) (x : D34 × D34) (y : Bool) (h : f546F k x = some y) : FnOk P 46 [.agg Y6, .agg Y6] [.dat .bool] x y :=
  evFS_sound tabOk (f546TS k) mixed Tryz.func46 (c := codeOf Tryz.f46) (by kernel_rfl) (f546LS k) ((f546E k x).trans h)
noncomputable def f546A (k : Nat) := entFnB [.agg Y6, .agg Y6] [.dat .bool] (f546F k)
theorem f546Ao (k : Nat) : EntOk P 46 (f546A k) := entFnB_ok (f546Ok k)
/-! ## midrange/midrangebase.SameTables -/
noncomputable def f534T (k : Nat) : Table := [(46, f546A k)]
theorem f534TS (k : Nat) : Sound P (f534T k) := (Sound.nil).consE f546B (f546Ao k)
theorem f534B : HasBody P 34 := ⟨Tryz.f34, Tryz.func34, by kernel_rfl, by kernel_rfl⟩
noncomputable def f534l0H : Shape := ⟨[(0, .one (.ro Y6)), (1, .one (.ro Y6)), (5, .one (.int .i64))], [], 0, []⟩
noncomputable def f534l0X0 : Shape := ⟨[(4, .one (.bool))], [], 0, []⟩
noncomputable def f534l0X1 : Shape := ⟨[], [], 0, []⟩
noncomputable def f534l0N : NoteR := ⟨[0, 1, 5], [], []⟩
noncomputable def f534l0M : NoteR := ⟨[4], [], []⟩
noncomputable def f534l0C : Code := firstC (codesAt 58 (codeOf Tryz.f34) 1)
noncomputable def f534l0s {R : Type} (k : Nat) (rec : D142 → Option R) (k0 : Bool × Unit → Option R) (k1 : Unit → Option R) (v : D142) : Option R :=
  bif (decide (v.2.2.1 < (v.1.length : Int))) then
    bif ((decide ((0 : Int) ≤ v.2.2.1)) && (decide (v.2.2.1 < (v.1.length : Int)))) then
    let t1 := (v.1.getD (Int.toNat v.2.2.1) ((ByteArray.empty, ((ByteArray.empty, []), ([], false))), []))
    bif ((decide ((0 : Int) ≤ v.2.2.1)) && (decide (v.2.2.1 < (v.2.1.length : Int)))) then
    let t2 := (v.2.1.getD (Int.toNat v.2.2.1) ((ByteArray.empty, ((ByteArray.empty, []), ([], false))), []))
    Option.bind (f546F k (((t1.1.1, ((t1.1.2.1.1, t1.1.2.1.2), (t1.1.2.2.1, t1.1.2.2.2))), t1.2), ((t2.1.1, ((t2.1.2.1.1, t2.1.2.1.2), (t2.1.2.2.1, t2.1.2.2.2))), t2.2))) fun y3 =>
    bif (!y3) then
      k0 (false, ())
    else
    rec (v.1, v.2.1, (IntKind.i64.wrap (v.2.2.1 + (1 : Int))), ())
    else none
    else none
  else
  k1 (())
noncomputable def f534l0 {R : Type} (k : Nat) (k0 : Bool × Unit → Option R) (k1 : Unit → Option R) (v : D142) : Option R := iterS (fun rec v => f534l0s k rec k0 k1 v) k v
noncomputable def f534l0S (k : Nat) : Sum1 := loopSum f534l0H f534l0N k (fun R rec K v => f534l0s k rec (fun w => K .ret (encSt f534l0X0 w)) (fun w => K (.exit 0) (encSt f534l0X1 w)) v)
theorem f534l0E (k : Nat) (R : Type) (rec : St → Option R) (K : X → St → Option R) (v : f534l0H.Den) : evS tab (f534T k) Tryz.f34.ntmps [] (bodyOf f534l0C) 116 (bodyK f534l0N f534l0M rec K) (encSt f534l0H v) = f534l0s k (fun v => rec (encSt f534l0H v)) (fun w => K .ret (encSt f534l0X0 w)) (fun w => K (.exit 0) (encSt f534l0X1 w)) v := by kernel_rfl
theorem f534l0I (k : Nat) : SumsOk P Tryz.f34.ntmps [] (bodyOf f534l0C) 116 := SumsOk.nil
theorem f534l0O (k : Nat) : SumOk P Tryz.f34.ntmps f534l0C (f534l0S k) := (show f534l0C = .loop (bodyOf f534l0C) by kernel_rfl) ▸ sum_loop tabOk (f534TS k) mixed (f534l0I k) (f534l0E k)
noncomputable def f534F (k : Nat) (x : (List D34) × (List D34)) : Option (Bool) :=
  bif ((x.1.length : Int) != (x.2.length : Int)) then
    some false
  else
  f534l0 k
    (fun (w4 : Bool × Unit) =>
      some w4.1)
    (fun (w5 : Unit) =>
      some true)
    (x.1, x.2, (0 : Int), ())
noncomputable def f534L (k : Nat) : Sums := [(58, f534l0S k)]
theorem f534LS (k : Nat) : SumsOk P Tryz.f34.ntmps (f534L k) (codeOf Tryz.f34) 1 := (SumsOk.nil).cons (c := f534l0C) (by kernel_rfl) (f534l0O k)
theorem f534E (k : Nat) (x : (List D34) × (List D34)) : evFS tab (f534T k) (f534L k) Tryz.f34.ntmps Tryz.f34.results.toList (codeOf Tryz.f34) (argsV [.dat (.slice Y6), .dat (.slice Y6)] x) [.dat .bool] none = f534F k x := by kernel_rfl
theorem f534Ok (k : Nat) (x : (List D34) × (List D34)) (y : Bool) (h : f534F k x = some y) : FnOk P 34 [.dat (.slice Y6), .dat (.slice Y6)] [.dat .bool] x y :=
  evFS_sound tabOk (f534TS k) mixed Tryz.func34 (c := codeOf Tryz.f34) (by kernel_rfl) (f534LS k) ((f534E k x).trans h)
noncomputable def f534A (k : Nat) := entFnB [.dat (.slice Y6), .dat (.slice Y6)] [.dat .bool] (f534F k)
theorem f534Ao (k : Nat) : EntOk P 34 (f534A k) := entFnB_ok (f534Ok k)
/-! ## midrange/midrangelaw34.SaveReads -/
noncomputable def f507T (k : Nat) : Table := [(13, f513A k), (32, f532A k), (33, f533A k), (34, f534A k)]
theorem f507TS (k : Nat) : Sound P (f507T k) := ((((Sound.nil).consE f534B (f534Ao k)).consE f533B (f533Ao k)).consE f532B (f532Ao k)).consE f513B (f513Ao k)
theorem f507B : HasBody P 7 := ⟨Tryz.f7, Tryz.func7, by kernel_rfl, by kernel_rfl⟩
noncomputable def f507F (k : Nat) (x : ByteArray) : Option (Bool) :=
  Option.bind (f513F k ()) fun y1 =>
  bif (!y1) then
    some false
  else
  bif (decide ((x.size : Int) > (20000 : Int))) then
    some true
  else
  Option.bind (f532F k x) fun y2 =>
  Option.bind (f533F k x) fun y3 =>
  bif (y2.2 == y3.2) then
    Option.bind (f534F k (y2.1, y3.1)) fun y4 =>
    some y4
  else
  some false
noncomputable def f507L (k : Nat) : Sums := []
theorem f507LS (k : Nat) : SumsOk P Tryz.f7.ntmps (f507L k) (codeOf Tryz.f7) 1 := SumsOk.nil
theorem f507E (k : Nat) (x : ByteArray) : evFS tab (f507T k) (f507L k) Tryz.f7.ntmps Tryz.f7.results.toList (codeOf Tryz.f7) (argsV [.dat .str] x) [.dat .bool] none = f507F k x := by kernel_rfl
theorem f507Ok (k : Nat) (x : ByteArray) (y : Bool) (h : f507F k x = some y) : FnOk P 7 [.dat .str] [.dat .bool] x y :=
  evFS_sound tabOk (f507TS k) mixed Tryz.func7 (c := codeOf Tryz.f7) (by kernel_rfl) (f507LS k) ((f507E k x).trans h)
noncomputable def f507A (k : Nat) := entFnB [.dat .str] [.dat .bool] (f507F k)
theorem f507Ao (k : Nat) : EntOk P 7 (f507A k) := entFnB_ok (f507Ok k)
end Go.Proofs.YtobgkcamonlnkaaGreatDoor
