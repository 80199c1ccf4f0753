/- What functions of the program compute: each as a plain Lean function, and that the code comes to it. Printed by gen.py. -/
import Derived.Test.YtobgkcamonlnkaaGreatDoorFbJ
import Derived.Test.YtobgkcamonlnkaaGreatDoorProg
import Derived.Test.YtobgkcamonlnkaaGreatDoorSJ
/-! Printed by gen.py: what functions compute. -/
set_option linter.unusedVariables false
set_option maxRecDepth 100000
namespace Go.Proofs.YtobgkcamonlnkaaGreatDoor
open Go.Ab
/-! ## midrange/save.read$1 -/
noncomputable def f620T (k : Nat) : Table := []
theorem f620TS (k : Nat) : Sound P (f620T k) := Sound.nil
theorem f620B : HasBody P 120 := ⟨Tryz.f120, Tryz.func120, by kernel_rfl, by kernel_rfl⟩
noncomputable def f620F (k : Nat) (x : D56) : Option (Bool) :=
  none
noncomputable def f620L (k : Nat) : Sums := []
theorem f620LS (k : Nat) : SumsOk P Tryz.f120.ntmps (f620L k) (codeOf Tryz.f120) 1 := SumsOk.nil
theorem f620E (k : Nat) (x : D56) : evFS tab (f620T k) (f620L k) Tryz.f120.ntmps Tryz.f120.results.toList (codeOf Tryz.f120) (argsV [.agg Y8] x) [.dat .bool] none = f620F k x := by kernel_rfl
theorem f620Ok (k : Nat) (x : D56) (y : Bool) (h : f620F k x = some y) : FnOk P 120 [.agg Y8] [.dat .bool] x y :=
  evFS_sound tabOk (f620TS k) mixed Tryz.func120 (c := codeOf Tryz.f120) (by kernel_rfl) (f620LS k) ((f620E k x).trans h)
noncomputable def f620A (k : Nat) := entFnB [.agg Y8] [.dat .bool] (f620F k)
theorem f620Ao (k : Nat) : EntOk P 120 (f620A k) := entFnB_ok (f620Ok k)
noncomputable def f667A (k : Nat) := entFnB [.dat .str, .dat .str] [.dat .str] (f667F k)
theorem f667Ao (k : Nat) : EntOk P 167 (f667A k) := entFnB_ok (f667Ok k)
/-! ## midrange/save.zeros -/
noncomputable def f648T (k : Nat) : Table := [(167, f667A k)]
theorem f648TS (k : Nat) : Sound P (f648T k) := (Sound.nil).consE f667B (f667Ao k)
theorem f648B : HasBody P 148 := ⟨Tryz.f148, Tryz.func148, by kernel_rfl, by kernel_rfl⟩
noncomputable def f648F (k : Nat) (x : ByteArray) : Option (Bool) :=
  Option.bind (f667F k (x, (⟨#[0]⟩ : ByteArray))) fun y1 =>
  some (strEq y1 ByteArray.empty)
noncomputable def f648L (k : Nat) : Sums := []
theorem f648LS (k : Nat) : SumsOk P Tryz.f148.ntmps (f648L k) (codeOf Tryz.f148) 1 := SumsOk.nil
theorem f648E (k : Nat) (x : ByteArray) : evFS tab (f648T k) (f648L k) Tryz.f148.ntmps Tryz.f148.results.toList (codeOf Tryz.f148) (argsV [.dat .str] x) [.dat .bool] none = f648F k x := by kernel_rfl
theorem f648Ok (k : Nat) (x : ByteArray) (y : Bool) (h : f648F k x = some y) : FnOk P 148 [.dat .str] [.dat .bool] x y :=
  evFS_sound tabOk (f648TS k) mixed Tryz.func148 (c := codeOf Tryz.f148) (by kernel_rfl) (f648LS k) ((f648E k x).trans h)
noncomputable def f648A (k : Nat) := entFnB [.dat .str] [.dat .bool] (f648F k)
theorem f648Ao (k : Nat) : EntOk P 148 (f648A k) := entFnB_ok (f648Ok k)
/-! ## midrange/save.blockError -/
noncomputable def f621T (k : Nat) : Table := [(61, f561A k), (62, f562A k), (148, f648A k)]
theorem f621TS (k : Nat) : Sound P (f621T k) := (((Sound.nil).consE f648B (f648Ao k)).consE f562B (f562Ao k)).consE f561B (f561Ao k)
theorem f621B : HasBody P 121 := ⟨Tryz.f121, Tryz.func121, by kernel_rfl, by kernel_rfl⟩
noncomputable def f621p0H : Shape := ⟨[(0, .one (.str)), (1, .one (.int .i64)), (2, .one (.int .i64)), (3, .one (.int .i64)), (4, .one (.bool)), (12, .one (.str)), (13, .one (.int .i64)), (14, .one (.bool))], [], 0, []⟩
noncomputable def f621p0X0 : Shape := ⟨[(0, .one (.str)), (1, .one (.int .i64)), (2, .one (.int .i64)), (3, .one (.int .i64)), (4, .one (.bool)), (10, .one (.int .i64)), (11, .one (.int .i64)), (13, .one (.int .i64)), (14, .one (.bool))], [], 0, []⟩
noncomputable def f621p0X1 : Shape := ⟨[(0, .one (.str)), (1, .one (.int .i64)), (2, .one (.int .i64)), (3, .one (.int .i64)), (4, .one (.bool)), (13, .one (.int .i64)), (14, .one (.bool))], [], 0, []⟩
noncomputable def f621p0N : NoteR := ⟨[0, 1, 2, 3, 4, 12, 13, 14], [], []⟩
noncomputable def f621p0M : NoteR := ⟨[0, 1, 2, 3, 4, 10, 11, 13, 14], [], []⟩
noncomputable def f621p0C : Code := firstC (codesAt 126 (codeOf Tryz.f121) 1)
noncomputable def f621p0 {R : Type} (k : Nat) (k0 : D93 → Option R) (k1 : D94 → Option R) (v : D95) : Option R :=
  bif (decide (v.2.2.2.2.2.2.1 < (1 : Int))) then
    k0 (v.1, v.2.1, v.2.2.1, v.2.2.2.1, v.2.2.2.2.1, (0 : Int), (5 : Int), v.2.2.2.2.2.2.1, v.2.2.2.2.2.2.2.1, ())
  else
  bif (decide (v.2.2.2.2.2.2.1 > (52 : Int))) then
    k0 (v.1, v.2.1, v.2.2.1, v.2.2.2.1, v.2.2.2.2.1, (0 : Int), (5 : Int), v.2.2.2.2.2.2.1, v.2.2.2.2.2.2.2.1, ())
  else
  bif (decide (v.2.2.2.2.2.2.1 < (52 : Int))) then
    bif (!v.2.2.2.2.1) then
      k0 (v.1, v.2.1, v.2.2.1, v.2.2.2.1, v.2.2.2.2.1, (0 : Int), (5 : Int), v.2.2.2.2.2.2.1, v.2.2.2.2.2.2.2.1, ())
    else
    bif (sliceBds (IntKind.i64.wrap ((4 : Int) + v.2.2.2.2.2.2.1)) (56 : Int) (v.1.size : Int)) then
    let t4 := (v.1.extract (Int.toNat (IntKind.i64.wrap ((4 : Int) + v.2.2.2.2.2.2.1))) 56)
    Option.bind (f648F k t4) fun y5 =>
    bif (!y5) then
      k0 (v.1, v.2.1, v.2.2.1, v.2.2.2.1, v.2.2.2.2.1, (0 : Int), (5 : Int), v.2.2.2.2.2.2.1, v.2.2.2.2.2.2.2.1, ())
    else
    bif (sliceBds (57 : Int) (v.2.2.2.2.2.1.size : Int) (v.1.size : Int)) then
    Option.bind (f648F k (v.1.extract 57 (Int.toNat (v.2.2.2.2.2.1.size : Int)))) fun y6 =>
    bif (!y6) then
      k0 (v.1, v.2.1, v.2.2.1, v.2.2.2.1, v.2.2.2.2.1, (0 : Int), (5 : Int), v.2.2.2.2.2.2.1, v.2.2.2.2.2.2.2.1, ())
    else
    k1 (v.1, v.2.1, v.2.2.1, v.2.2.2.1, v.2.2.2.2.1, v.2.2.2.2.2.2.1, v.2.2.2.2.2.2.2.1, ())
    else none
    else none
  else
  bif (sliceBds (IntKind.i64.wrap ((4 : Int) + v.2.2.2.2.2.2.1)) (56 : Int) (v.1.size : Int)) then
  let t7 := (v.1.extract (Int.toNat (IntKind.i64.wrap ((4 : Int) + v.2.2.2.2.2.2.1))) 56)
  Option.bind (f648F k t7) fun y8 =>
  bif (!y8) then
    k0 (v.1, v.2.1, v.2.2.1, v.2.2.2.1, v.2.2.2.2.1, (0 : Int), (5 : Int), v.2.2.2.2.2.2.1, v.2.2.2.2.2.2.2.1, ())
  else
  bif (sliceBds (57 : Int) (v.2.2.2.2.2.1.size : Int) (v.1.size : Int)) then
  Option.bind (f648F k (v.1.extract 57 (Int.toNat (v.2.2.2.2.2.1.size : Int)))) fun y9 =>
  bif (!y9) then
    k0 (v.1, v.2.1, v.2.2.1, v.2.2.2.1, v.2.2.2.2.1, (0 : Int), (5 : Int), v.2.2.2.2.2.2.1, v.2.2.2.2.2.2.2.1, ())
  else
  k1 (v.1, v.2.1, v.2.2.1, v.2.2.2.1, v.2.2.2.2.1, v.2.2.2.2.2.2.1, v.2.2.2.2.2.2.2.1, ())
  else none
  else none
noncomputable def f621p0S (k : Nat) : Sum1 := partSum f621p0H f621p0N (fun R K v => f621p0 k (fun w => K .ret (encSt f621p0X0 w)) (fun w => K .normal (encSt f621p0X1 w)) v)
theorem f621p0E (k : Nat) (R : Type) (K : X → St → Option R) (v : f621p0H.Den) : evS tab (f621T k) Tryz.f121.ntmps [] f621p0C 126 (partK f621p0M K) (encSt f621p0H v) = f621p0 k (fun w => K .ret (encSt f621p0X0 w)) (fun w => K .normal (encSt f621p0X1 w)) v := by kernel_rfl
theorem f621p0I (k : Nat) : SumsOk P Tryz.f121.ntmps [] f621p0C 126 := SumsOk.nil
theorem f621p0O (k : Nat) : SumOk P Tryz.f121.ntmps f621p0C (f621p0S k) := sum_part tabOk (f621TS k) mixed (f621p0I k) (f621p0E k)
noncomputable def f621p1H : Shape := ⟨[(0, .one (.str)), (1, .one (.int .i64)), (2, .one (.int .i64)), (3, .one (.int .i64)), (4, .one (.bool)), (13, .one (.int .i64)), (14, .one (.bool))], [], 0, []⟩
noncomputable def f621p1X0 : Shape := ⟨[(10, .one (.int .i64)), (11, .one (.int .i64)), (13, .one (.int .i64))], [], 0, []⟩
noncomputable def f621p1X1 : Shape := ⟨[(13, .one (.int .i64))], [], 0, []⟩
noncomputable def f621p1N : NoteR := ⟨[0, 1, 2, 3, 4, 13, 14], [], []⟩
noncomputable def f621p1M : NoteR := ⟨[10, 11, 13], [], []⟩
noncomputable def f621p1C : Code := firstC (codesAt 254 (codeOf Tryz.f121) 1)
noncomputable def f621p1 {R : Type} (k : Nat) (k0 : Int × Int × Int × Unit → Option R) (k1 : Int × Unit → Option R) (v : D94) : Option R :=
  bif (decide ((0 : Int) < (v.1.size : Int))) then
  bif ((IntKind.i64.wrap (bt v.1 (0 : Int))) != v.2.1) then
    k0 ((0 : Int), (14 : Int), v.2.2.2.2.2.1, ())
  else
  bif (sliceBds (1 : Int) (3 : Int) (v.1.size : Int)) then
  Option.bind (f561F k (v.2.2.1, (2 : Int))) fun y12 =>
  bif (!strEq (v.1.extract 1 3) (strOfNums y12)) then
    k0 ((0 : Int), (14 : Int), v.2.2.2.2.2.1, ())
  else
  bif (decide ((56 : Int) < (v.1.size : Int))) then
  bif ((IntKind.i64.wrap (bt v.1 (56 : Int))) != v.2.2.2.1) then
    k0 ((0 : Int), (6 : Int), v.2.2.2.2.2.1, ())
  else
  bif v.2.2.2.2.2.2.1 then
    bif (!v.2.2.2.2.1) then
      k0 ((0 : Int), (10 : Int), v.2.2.2.2.2.1, ())
    else
    bif (!v.2.2.2.2.2.2.1) then
      bif v.2.2.2.2.1 then
        k0 ((0 : Int), (9 : Int), v.2.2.2.2.2.1, ())
      else
      k1 (v.2.2.2.2.2.1, ())
    else
    k1 (v.2.2.2.2.2.1, ())
  else
  bif (!v.2.2.2.2.2.2.1) then
    bif v.2.2.2.2.1 then
      k0 ((0 : Int), (9 : Int), v.2.2.2.2.2.1, ())
    else
    k1 (v.2.2.2.2.2.1, ())
  else
  k1 (v.2.2.2.2.2.1, ())
  else none
  else none
  else none
noncomputable def f621p1S (k : Nat) : Sum1 := partSum f621p1H f621p1N (fun R K v => f621p1 k (fun w => K .ret (encSt f621p1X0 w)) (fun w => K .normal (encSt f621p1X1 w)) v)
theorem f621p1E (k : Nat) (R : Type) (K : X → St → Option R) (v : f621p1H.Den) : evS tab (f621T k) Tryz.f121.ntmps [] f621p1C 254 (partK f621p1M K) (encSt f621p1H v) = f621p1 k (fun w => K .ret (encSt f621p1X0 w)) (fun w => K .normal (encSt f621p1X1 w)) v := by kernel_rfl
theorem f621p1I (k : Nat) : SumsOk P Tryz.f121.ntmps [] f621p1C 254 := SumsOk.nil
theorem f621p1O (k : Nat) : SumOk P Tryz.f121.ntmps f621p1C (f621p1S k) := sum_part tabOk (f621TS k) mixed (f621p1I k) (f621p1E k)
noncomputable def f621F (k : Nat) (x : D96) : Option (Int × Int) :=
  bif ((x.1.size : Int) != (64 : Int)) then
    some ((0 : Int), (18 : Int))
  else
  bif (sliceBds (0 : Int) (60 : Int) (x.1.size : Int)) then
  Option.bind (f562F k (x.1.extract 0 60)) fun y1 =>
  Option.bind (f561F k (y1, (4 : Int))) fun y2 =>
  bif (sliceBds ((x.1.extract 0 60).size : Int) (x.1.size : Int) (x.1.size : Int)) then
  let t3 := (x.1.extract (Int.toNat ((x.1.extract 0 60).size : Int)) (Int.toNat (x.1.size : Int)))
  bif (!strEq (strOfNums y2) t3) then
    some ((0 : Int), (33 : Int))
  else
  bif (decide ((3 : Int) < (x.1.size : Int))) then
  bif (decide ((3 : Int) < (x.1.size : Int))) then
  f621p0 k
    (fun (w10 : D93) =>
      some (w10.2.2.2.2.2.1, w10.2.2.2.2.2.2.1))
    (fun (w11 : D94) =>
      f621p1 k
        (fun (w13 : Int × Int × Int × Unit) =>
          some (w13.1, w13.2.1))
        (fun (w14 : Int × Unit) =>
          some (w14.1, (0 : Int)))
        (w11.1, w11.2.1, w11.2.2.1, w11.2.2.2.1, w11.2.2.2.2.1, w11.2.2.2.2.2.1, w11.2.2.2.2.2.2.1, ()))
    (x.1, x.2.1, x.2.2.1, x.2.2.2.1, x.2.2.2.2, (x.1.extract 0 60), (IntKind.i64.wrap (bits .and .u8 (bt x.1 (3 : Int)) (127 : Int))), (decide ((bt x.1 (3 : Int)) ≥ (128 : Int))), ())
  else none
  else none
  else none
  else none
noncomputable def f621L (k : Nat) : Sums := [(126, f621p0S k), (254, f621p1S k)]
theorem f621LS (k : Nat) : SumsOk P Tryz.f121.ntmps (f621L k) (codeOf Tryz.f121) 1 := ((SumsOk.nil).cons (c := f621p1C) (by kernel_rfl) (f621p1O k)).cons (c := f621p0C) (by kernel_rfl) (f621p0O k)
theorem f621E (k : Nat) (x : D96) : evFS tab (f621T k) (f621L k) Tryz.f121.ntmps Tryz.f121.results.toList (codeOf Tryz.f121) (argsV [.dat .str, .dat (.int .i64), .dat (.int .i64), .dat (.int .i64), .dat .bool] x) [.dat (.int .i64), .dat (.int .i64)] none = f621F k x := by kernel_rfl
theorem f621Ok (k : Nat) (x : D96) (y : Int × Int) (h : f621F k x = some y) : FnOk P 121 [.dat .str, .dat (.int .i64), .dat (.int .i64), .dat (.int .i64), .dat .bool] [.dat (.int .i64), .dat (.int .i64)] x y :=
  evFS_sound tabOk (f621TS k) mixed Tryz.func121 (c := codeOf Tryz.f121) (by kernel_rfl) (f621LS k) ((f621E k x).trans h)
noncomputable def f621A (k : Nat) := entFnB [.dat .str, .dat (.int .i64), .dat (.int .i64), .dat (.int .i64), .dat .bool] [.dat (.int .i64), .dat (.int .i64)] (f621F k)
theorem f621Ao (k : Nat) : EntOk P 121 (f621A k) := entFnB_ok (f621Ok k)
/-! ## midrange/save.read$1, handed what it may write -/
noncomputable def f620v0I : Shape := ⟨[(0, .agg [.str, .ro .str]), (1, .one (.ptr 0 0))], [(0, .var 81 [.str, .ro .str])], 1, []⟩
noncomputable def f620v0U : Shape := ⟨[(0, .one (.bool))], [(0, .var 81 [.str, .ro .str])], 1, []⟩
noncomputable def f620v0T (k : Nat) : Table := []
theorem f620v0TS (k : Nat) : Sound P (f620v0T k) := Sound.nil
noncomputable def f620v0F (k : Nat) (x : D97) : Option (D98) :=
  some ((strEq x.1 x.2.2.1), x.2.2.1, x.2.2.2.1, ())
noncomputable def f620v0L (k : Nat) : Sums := []
theorem f620v0LS (k : Nat) : SumsOk P Tryz.f120.ntmps (f620v0L k) (codeOf Tryz.f120) 1 := SumsOk.nil
theorem f620v0E (k : Nat) (x : f620v0I.Den) : evG tab (f620v0T k) (f620v0L k) Tryz.f120.ntmps Tryz.f120.results.toList (codeOf Tryz.f120) f620v0I x [.dat .bool] [] f620v0U none = f620v0F k x := by kernel_rfl
theorem f620v0Ok (k : Nat) (x : f620v0I.Den) (y : f620v0U.Den) (h : f620v0F k x = some y) : GnOk P 120 f620v0I f620v0U x y :=
  evG_sound tabOk (f620v0TS k) mixed Tryz.func120 (c := codeOf Tryz.f120) (by kernel_rfl) (f620v0LS k) ((f620v0E k x).trans h)
/-! ## slices.IndexFunc[[]midrange/api.Volume,midrange/api.Volume], handed what it may write -/
noncomputable def f647v0I : Shape := ⟨[(0, .one (.ro Y8)), (1, .one (.fn 120 [0]))], [(0, .var 81 [.str, .ro .str])], 1, []⟩
noncomputable def f647v0U : Shape := ⟨[(0, .one (.int .i64))], [(0, .var 81 [.str, .ro .str])], 1, []⟩
noncomputable def f647v0T (k : Nat) : Table := [(120, entG f620v0I f620v0U (f620v0F k))]
theorem f647v0TS (k : Nat) : Sound P (f647v0T k) := (Sound.nil).consE f620B (entG_ok (f620v0Ok k))
theorem f647B : HasBody P 147 := ⟨Tryz.f147, Tryz.func147, by kernel_rfl, by kernel_rfl⟩
noncomputable def f647v0l0H : Shape := ⟨[(0, .one (.ro Y8)), (1, .one (.fn 120 [0])), (7, .one (.int .i64)), (8, .one (.int .i64))], [(0, .var 81 [.str, .ro .str])], 1, [some 0]⟩
noncomputable def f647v0l0X0 : Shape := ⟨[(4, .one (.int .i64))], [(0, .var 81 [.str, .ro .str])], 1, [some 0]⟩
noncomputable def f647v0l0X1 : Shape := ⟨[], [(0, .var 81 [.str, .ro .str])], 1, [some 0]⟩
noncomputable def f647v0l0N : NoteR := ⟨[0, 1, 7, 8], [], []⟩
noncomputable def f647v0l0M : NoteR := ⟨[4], [], []⟩
noncomputable def f647v0l0C : Code := firstC (codesAt 26 (codeOf Tryz.f147) 1)
noncomputable def f647v0l0s {R : Type} (k : Nat) (rec : D101 → Option R) (k0 : D99 → Option R) (k1 : D100 → Option R) (v : D101) : Option R :=
  bif (decide (v.2.2.1 < v.2.1)) then
    bif ((decide ((0 : Int) ≤ v.2.2.1)) && (decide (v.2.2.1 < (v.1.length : Int)))) then
    Option.bind (f620v0F k ((v.1.getD (Int.toNat v.2.2.1) (ByteArray.empty, [])).1, (v.1.getD (Int.toNat v.2.2.1) (ByteArray.empty, [])).2, v.2.2.2.1, v.2.2.2.2.1, ())) fun y1 =>
    bif y1.1 then
      k0 (v.2.2.1, y1.2.1, y1.2.2.1, ())
    else
    rec (v.1, v.2.1, (IntKind.i64.wrap (v.2.2.1 + (1 : Int))), y1.2.1, y1.2.2.1, ())
    else none
  else
  k1 (v.2.2.2.1, v.2.2.2.2.1, ())
noncomputable def f647v0l0 {R : Type} (k : Nat) (k0 : D99 → Option R) (k1 : D100 → Option R) (v : D101) : Option R := iterS (fun rec v => f647v0l0s k rec k0 k1 v) k v
noncomputable def f647v0l0S (k : Nat) : Sum1 := loopSum f647v0l0H f647v0l0N k (fun R rec K v => f647v0l0s k rec (fun w => K .ret (encSt f647v0l0X0 w)) (fun w => K (.exit 0) (encSt f647v0l0X1 w)) v)
theorem f647v0l0E (k : Nat) (R : Type) (rec : St → Option R) (K : X → St → Option R) (v : f647v0l0H.Den) : evS tab (f647v0T k) Tryz.f147.ntmps [] (bodyOf f647v0l0C) 52 (bodyK f647v0l0N f647v0l0M rec K) (encSt f647v0l0H v) = f647v0l0s k (fun v => rec (encSt f647v0l0H v)) (fun w => K .ret (encSt f647v0l0X0 w)) (fun w => K (.exit 0) (encSt f647v0l0X1 w)) v := by kernel_rfl
theorem f647v0l0I (k : Nat) : SumsOk P Tryz.f147.ntmps [] (bodyOf f647v0l0C) 52 := SumsOk.nil
theorem f647v0l0O (k : Nat) : SumOk P Tryz.f147.ntmps f647v0l0C (f647v0l0S k) := (show f647v0l0C = .loop (bodyOf f647v0l0C) by kernel_rfl) ▸ sum_loop tabOk (f647v0TS k) mixed (f647v0l0I k) (f647v0l0E k)
noncomputable def f647v0F (k : Nat) (x : D102) : Option (D99) :=
  f647v0l0 k
    (fun (w2 : D99) =>
      some (w2.1, w2.2.1, w2.2.2.1, ()))
    (fun (w3 : D100) =>
      some ((-1 : Int), w3.1, w3.2.1, ()))
    (x.1, (x.1.length : Int), (0 : Int), x.2.1, x.2.2.1, ())
noncomputable def f647v0L (k : Nat) : Sums := [(26, f647v0l0S k)]
theorem f647v0LS (k : Nat) : SumsOk P Tryz.f147.ntmps (f647v0L k) (codeOf Tryz.f147) 1 := (SumsOk.nil).cons (c := f647v0l0C) (by kernel_rfl) (f647v0l0O k)
theorem f647v0E (k : Nat) (x : f647v0I.Den) : evG tab (f647v0T k) (f647v0L k) Tryz.f147.ntmps Tryz.f147.results.toList (codeOf Tryz.f147) f647v0I x [.dat .bool] [] f647v0U none = f647v0F k x := by kernel_rfl
theorem f647v0Ok (k : Nat) (x : f647v0I.Den) (y : f647v0U.Den) (h : f647v0F k x = some y) : GnOk P 147 f647v0I f647v0U x y :=
  evG_sound tabOk (f647v0TS k) mixed Tryz.func147 (c := codeOf Tryz.f147) (by kernel_rfl) (f647v0LS k) ((f647v0E k x).trans h)
/-! ## slices.ContainsFunc[[]midrange/api.Volume,midrange/api.Volume], handed what it may write -/
noncomputable def f619v0I : Shape := ⟨[(0, .one (.ro Y8)), (1, .one (.fn 120 [0]))], [(0, .var 81 [.str, .ro .str])], 1, []⟩
noncomputable def f619v0U : Shape := ⟨[(0, .one (.bool))], [(0, .var 81 [.str, .ro .str])], 1, []⟩
noncomputable def f619v0T (k : Nat) : Table := [(147, entG f647v0I f647v0U (f647v0F k))]
theorem f619v0TS (k : Nat) : Sound P (f619v0T k) := (Sound.nil).consE f647B (entG_ok (f647v0Ok k))
theorem f619B : HasBody P 119 := ⟨Tryz.f119, Tryz.func119, by kernel_rfl, by kernel_rfl⟩
noncomputable def f619v0F (k : Nat) (x : D102) : Option (D98) :=
  Option.bind (f647v0F k (x.1, x.2.1, x.2.2.1, ())) fun y1 =>
  some ((decide (y1.1 ≥ (0 : Int))), y1.2.1, y1.2.2.1, ())
noncomputable def f619v0L (k : Nat) : Sums := []
theorem f619v0LS (k : Nat) : SumsOk P Tryz.f119.ntmps (f619v0L k) (codeOf Tryz.f119) 1 := SumsOk.nil
theorem f619v0E (k : Nat) (x : f619v0I.Den) : evG tab (f619v0T k) (f619v0L k) Tryz.f119.ntmps Tryz.f119.results.toList (codeOf Tryz.f119) f619v0I x [.dat .bool] [] f619v0U none = f619v0F k x := by kernel_rfl
theorem f619v0Ok (k : Nat) (x : f619v0I.Den) (y : f619v0U.Den) (h : f619v0F k x = some y) : GnOk P 119 f619v0I f619v0U x y :=
  evG_sound tabOk (f619v0TS k) mixed Tryz.func119 (c := codeOf Tryz.f119) (by kernel_rfl) (f619v0LS k) ((f619v0E k x).trans h)
/-! ## (*strings.Builder).WriteString, handed what it may write -/
noncomputable def f622v0I : Shape := ⟨[(0, .one (.ptr 0 0)), (1, .one (.str))], [(0, .var 174 [.nil .ptr, .emp])], 1, []⟩
noncomputable def f622v0U : Shape := ⟨[(0, .one (.int .i64)), (1, .one (.nil .iface))], [(0, .var 174 [.ptr 0 0, .own 1]), (1, .row 5 (.int .u8) .plain)], 2, []⟩
noncomputable def f622v0T (k : Nat) : Table := [(149, bcE)]
theorem f622v0TS (k : Nat) : Sound P (f622v0T k) := (Sound.nil).consE f113B bc_ok
theorem f622B : HasBody P 122 := ⟨Tryz.f122, Tryz.func122, by kernel_rfl, by kernel_rfl⟩
noncomputable def f622v0F (k : Nat) (x : ByteArray × Unit) : Option (Int × List Int × Unit) :=
  bif (decide ((([] : List Int).length + (bytesOf x.1).length) * 1 ≤ 140737488355328) && decide (([] : List Int).length + (bytesOf x.1).length ≤ 9223372036854775807)) then
  some ((x.1.size : Int), ([] ++ (bytesOf x.1)), ())
  else none
noncomputable def f622v0L (k : Nat) : Sums := []
theorem f622v0LS (k : Nat) : SumsOk P Tryz.f122.ntmps (f622v0L k) (codeOf Tryz.f122) 1 := SumsOk.nil
theorem f622v0E (k : Nat) (x : f622v0I.Den) : evG tab (f622v0T k) (f622v0L k) Tryz.f122.ntmps Tryz.f122.results.toList (codeOf Tryz.f122) f622v0I x [.dat .bool, .dat .bool] [] f622v0U none = f622v0F k x := by kernel_rfl
theorem f622v0Ok (k : Nat) (x : f622v0I.Den) (y : f622v0U.Den) (h : f622v0F k x = some y) : GnOk P 122 f622v0I f622v0U x y :=
  evG_sound tabOk (f622v0TS k) mixed Tryz.func122 (c := codeOf Tryz.f122) (by kernel_rfl) (f622v0LS k) ((f622v0E k x).trans h)
/-! ## (*strings.Builder).WriteString, handed what it may write -/
noncomputable def f622v1I : Shape := ⟨[(0, .one (.ptr 0 0)), (1, .one (.str))], [(0, .var 174 [.ptr 0 0, .own 1]), (1, .row 5 (.int .u8) .plain)], 2, []⟩
noncomputable def f622v1U : Shape := ⟨[(0, .one (.int .i64)), (1, .one (.nil .iface))], [(0, .var 174 [.ptr 0 0, .own 2]), (2, .row 5 (.int .u8) .plain)], 3, []⟩
noncomputable def f622v1T (k : Nat) : Table := [(149, bcE)]
theorem f622v1TS (k : Nat) : Sound P (f622v1T k) := (Sound.nil).consE f113B bc_ok
noncomputable def f622v1F (k : Nat) (x : D40) : Option (Int × List Int × Unit) :=
  bif (decide ((x.2.1.length + (bytesOf x.1).length) * 1 ≤ 140737488355328) && decide (x.2.1.length + (bytesOf x.1).length ≤ 9223372036854775807)) then
  some ((x.1.size : Int), (x.2.1 ++ (bytesOf x.1)), ())
  else none
noncomputable def f622v1L (k : Nat) : Sums := []
theorem f622v1LS (k : Nat) : SumsOk P Tryz.f122.ntmps (f622v1L k) (codeOf Tryz.f122) 1 := SumsOk.nil
theorem f622v1E (k : Nat) (x : f622v1I.Den) : evG tab (f622v1T k) (f622v1L k) Tryz.f122.ntmps Tryz.f122.results.toList (codeOf Tryz.f122) f622v1I x [.dat .bool, .dat .bool] [1] f622v1U none = f622v1F k x := by kernel_rfl
theorem f622v1Ok (k : Nat) (x : f622v1I.Den) (y : f622v1U.Den) (h : f622v1F k x = some y) : GnOk P 122 f622v1I f622v1U x y :=
  evG_sound tabOk (f622v1TS k) mixed Tryz.func122 (c := codeOf Tryz.f122) (by kernel_rfl) (f622v1LS k) ((f622v1E k x).trans h)
/-! ## midrange/save.read -/
noncomputable def f581T (k : Nat) : Table := [(102, f602A k), (119, entG f619v0I f619v0U (f619v0F k)), (121, f621A k), (122, entOr (entG f622v1I f622v1U (f622v1F k)) (entG f622v0I f622v0U (f622v0F k))), (123, bsE)]
theorem f581TS (k : Nat) : Sound P (f581T k) := (((((Sound.nil).consE f105B bs_ok).consE f622B (entOr_ok (entG_ok (f622v1Ok k)) (entG_ok (f622v0Ok k)))).consE f621B (f621Ao k)).consE f619B (entG_ok (f619v0Ok k))).consE f602B (f602Ao k)
theorem f581B : HasBody P 81 := ⟨Tryz.f81, Tryz.func81, by kernel_rfl, by kernel_rfl⟩
noncomputable def f581p0H : Shape := ⟨[(0, .one (.ro Y8)), (6, .one (.ptr 0 0)), (7, .one (.int .i64)), (8, .one (.int .i64)), (9, .one (.ptr 1 0)), (20, .one (.ro Y8)), (21, .one (.int .i64)), (22, .one (.int .i64)), (53, .one (.ro .str)), (54, .one (.int .i64)), (55, .one (.int .i64))], [(0, .var 174 [.nil .ptr, .emp]), (1, .var 81 [.str, .ro .str])], 2, []⟩
noncomputable def f581p0X0 : Shape := ⟨[(0, .one (.ro Y8)), (2, .one (.str)), (3, .one (.int .i64)), (4, .one (.int .i64)), (5, .one (.int .i64)), (6, .one (.ptr 0 0)), (7, .one (.int .i64)), (8, .one (.int .i64)), (9, .one (.ptr 1 0)), (20, .one (.ro Y8)), (21, .one (.int .i64)), (22, .one (.int .i64)), (53, .one (.ro .str)), (54, .one (.int .i64)), (55, .one (.int .i64))], [(0, .var 174 [.nil .ptr, .emp]), (1, .var 81 [.str, .ro .str])], 2, []⟩
noncomputable def f581p0X1 : Shape := ⟨[(0, .one (.ro Y8)), (6, .one (.ptr 0 0)), (7, .one (.int .i64)), (8, .one (.int .i64)), (9, .one (.ptr 1 0)), (20, .one (.ro Y8)), (21, .one (.int .i64)), (22, .one (.int .i64)), (53, .one (.ro .str)), (54, .one (.int .i64)), (55, .one (.int .i64))], [(0, .var 174 [.ptr 0 0, .own 2]), (1, .var 81 [.str, .ro .str]), (2, .row 5 (.int .u8) .plain)], 3, []⟩
noncomputable def f581p0N : NoteR := ⟨[0, 6, 7, 8, 9, 20, 21, 22, 53, 54, 55], [], []⟩
noncomputable def f581p0M : NoteR := ⟨[0, 2, 3, 4, 5, 6, 7, 8, 9, 20, 21, 22, 53, 54, 55], [], []⟩
noncomputable def f581p0C : Code := firstC (codesAt 4148454 (codeOf Tryz.f81) 1)
noncomputable def f581p0 {R : Type} (k : Nat) (k0 : D103 → Option R) (k1 : D104 → Option R) (v : D111) : Option R :=
  bif ((decide ((0 : Int) ≤ v.2.2.2.2.2.2.2.2.1)) && (decide (v.2.2.2.2.2.2.2.2.1 < (v.2.2.2.2.2.2.1.length : Int)))) then
  bif (v.2.2.1 == (IntKind.i64.wrap ((v.1.length : Int) - (1 : Int)))) then
    let t3 := (IntKind.i64.wrap ((v.2.2.2.2.2.2.2.2.2.2.1.length : Int) - (1 : Int)))
    Option.bind (f621F k ((v.2.2.2.2.2.2.1.getD (Int.toNat v.2.2.2.2.2.2.2.2.1) ByteArray.empty), (IntKind.i64.wrap (v.2.2.1 + (1 : Int))), (IntKind.i64.wrap (v.2.1 + (1 : Int))), (v.1.length : Int), (v.2.2.2.2.2.2.2.2.1 == t3))) fun y4 =>
    bif (y4.2 != (0 : Int)) then
      k0 (v.1, ByteArray.empty, v.2.2.1, v.2.2.2.2.2.2.2.2.1, y4.2, (IntKind.i64.wrap (v.2.1 + (1 : Int))), v.2.2.1, v.2.2.2.1, v.2.2.2.2.1, v.2.2.2.2.2.1, v.2.2.2.2.2.2.1, v.2.2.2.2.2.2.2.1, v.2.2.2.2.2.2.2.2.1, v.2.2.2.2.2.2.2.2.2.1, v.2.2.2.2.2.2.2.2.2.2.1, ())
    else
    bif (sliceBds (4 : Int) (IntKind.i64.wrap ((4 : Int) + y4.1)) ((v.2.2.2.2.2.2.1.getD (Int.toNat v.2.2.2.2.2.2.2.2.1) ByteArray.empty).size : Int)) then
    let t5 := ((v.2.2.2.2.2.2.1.getD (Int.toNat v.2.2.2.2.2.2.2.2.1) ByteArray.empty).extract 4 (Int.toNat (IntKind.i64.wrap ((4 : Int) + y4.1))))
    Option.bind (f622v0F k (t5, ())) fun y6 =>
    k1 (v.1, (IntKind.i64.wrap (v.2.1 + (1 : Int))), v.2.2.1, v.2.2.2.1, v.2.2.2.2.1, v.2.2.2.2.2.1, v.2.2.2.2.2.2.1, v.2.2.2.2.2.2.2.1, v.2.2.2.2.2.2.2.2.1, v.2.2.2.2.2.2.2.2.2.1, v.2.2.2.2.2.2.2.2.2.2.1, y6.2.1, ())
    else none
  else
  Option.bind (f621F k ((v.2.2.2.2.2.2.1.getD (Int.toNat v.2.2.2.2.2.2.2.2.1) ByteArray.empty), (IntKind.i64.wrap (v.2.2.1 + (1 : Int))), (IntKind.i64.wrap (v.2.1 + (1 : Int))), (v.1.length : Int), false)) fun y7 =>
  bif (y7.2 != (0 : Int)) then
    k0 (v.1, ByteArray.empty, v.2.2.1, v.2.2.2.2.2.2.2.2.1, y7.2, (IntKind.i64.wrap (v.2.1 + (1 : Int))), v.2.2.1, v.2.2.2.1, v.2.2.2.2.1, v.2.2.2.2.2.1, v.2.2.2.2.2.2.1, v.2.2.2.2.2.2.2.1, v.2.2.2.2.2.2.2.2.1, v.2.2.2.2.2.2.2.2.2.1, v.2.2.2.2.2.2.2.2.2.2.1, ())
  else
  bif (sliceBds (4 : Int) (IntKind.i64.wrap ((4 : Int) + y7.1)) ((v.2.2.2.2.2.2.1.getD (Int.toNat v.2.2.2.2.2.2.2.2.1) ByteArray.empty).size : Int)) then
  let t8 := ((v.2.2.2.2.2.2.1.getD (Int.toNat v.2.2.2.2.2.2.2.2.1) ByteArray.empty).extract 4 (Int.toNat (IntKind.i64.wrap ((4 : Int) + y7.1))))
  Option.bind (f622v0F k (t8, ())) fun y9 =>
  k1 (v.1, (IntKind.i64.wrap (v.2.1 + (1 : Int))), v.2.2.1, v.2.2.2.1, v.2.2.2.2.1, v.2.2.2.2.2.1, v.2.2.2.2.2.2.1, v.2.2.2.2.2.2.2.1, v.2.2.2.2.2.2.2.2.1, v.2.2.2.2.2.2.2.2.2.1, v.2.2.2.2.2.2.2.2.2.2.1, y9.2.1, ())
  else none
  else none
noncomputable def f581p0S (k : Nat) : Sum1 := partSum f581p0H f581p0N (fun R K v => f581p0 k (fun w => K .ret (encSt f581p0X0 w)) (fun w => K .normal (encSt f581p0X1 w)) v)
theorem f581p0E (k : Nat) (R : Type) (K : X → St → Option R) (v : f581p0H.Den) : evS tab (f581T k) Tryz.f81.ntmps [] f581p0C 4148454 (partK f581p0M K) (encSt f581p0H v) = f581p0 k (fun w => K .ret (encSt f581p0X0 w)) (fun w => K .normal (encSt f581p0X1 w)) v := by kernel_rfl
theorem f581p0I (k : Nat) : SumsOk P Tryz.f81.ntmps [] f581p0C 4148454 := SumsOk.nil
theorem f581p0O (k : Nat) : SumOk P Tryz.f81.ntmps f581p0C (f581p0S k) := sum_part tabOk (f581TS k) mixed (f581p0I k) (f581p0E k)
noncomputable def f581p1H : Shape := ⟨[(0, .one (.ro Y8)), (6, .one (.ptr 0 0)), (7, .one (.int .i64)), (8, .one (.int .i64)), (9, .one (.ptr 1 0)), (20, .one (.ro Y8)), (21, .one (.int .i64)), (22, .one (.int .i64)), (53, .one (.ro .str)), (54, .one (.int .i64)), (55, .one (.int .i64))], [(0, .var 174 [.ptr 0 0, .own 2]), (1, .var 81 [.str, .ro .str]), (2, .row 5 (.int .u8) .plain)], 3, []⟩
noncomputable def f581p1X0 : Shape := ⟨[(0, .one (.ro Y8)), (2, .one (.str)), (3, .one (.int .i64)), (4, .one (.int .i64)), (5, .one (.int .i64)), (6, .one (.ptr 0 0)), (7, .one (.int .i64)), (8, .one (.int .i64)), (9, .one (.ptr 1 0)), (20, .one (.ro Y8)), (21, .one (.int .i64)), (22, .one (.int .i64)), (53, .one (.ro .str)), (54, .one (.int .i64)), (55, .one (.int .i64))], [(0, .var 174 [.ptr 0 0, .own 2]), (1, .var 81 [.str, .ro .str]), (2, .row 5 (.int .u8) .plain)], 3, []⟩
noncomputable def f581p1X1 : Shape := ⟨[(0, .one (.ro Y8)), (6, .one (.ptr 0 0)), (7, .one (.int .i64)), (8, .one (.int .i64)), (9, .one (.ptr 1 0)), (20, .one (.ro Y8)), (21, .one (.int .i64)), (22, .one (.int .i64)), (53, .one (.ro .str)), (54, .one (.int .i64)), (55, .one (.int .i64))], [(0, .var 174 [.ptr 0 0, .own 2]), (1, .var 81 [.str, .ro .str]), (2, .row 5 (.int .u8) .plain)], 3, []⟩
noncomputable def f581p1N : NoteR := ⟨[0, 6, 7, 8, 9, 20, 21, 22, 53, 54, 55], [], []⟩
noncomputable def f581p1M : NoteR := ⟨[0, 2, 3, 4, 5, 6, 7, 8, 9, 20, 21, 22, 53, 54, 55], [], []⟩
noncomputable def f581p1C : Code := firstC (codesAt 4148454 (codeOf Tryz.f81) 1)
noncomputable def f581p1 {R : Type} (k : Nat) (k0 : D105 → Option R) (k1 : D104 → Option R) (v : D104) : Option R :=
  bif ((decide ((0 : Int) ≤ v.2.2.2.2.2.2.2.2.1)) && (decide (v.2.2.2.2.2.2.2.2.1 < (v.2.2.2.2.2.2.1.length : Int)))) then
  bif (v.2.2.1 == (IntKind.i64.wrap ((v.1.length : Int) - (1 : Int)))) then
    let t12 := (IntKind.i64.wrap ((v.2.2.2.2.2.2.2.2.2.2.1.length : Int) - (1 : Int)))
    Option.bind (f621F k ((v.2.2.2.2.2.2.1.getD (Int.toNat v.2.2.2.2.2.2.2.2.1) ByteArray.empty), (IntKind.i64.wrap (v.2.2.1 + (1 : Int))), (IntKind.i64.wrap (v.2.1 + (1 : Int))), (v.1.length : Int), (v.2.2.2.2.2.2.2.2.1 == t12))) fun y13 =>
    bif (y13.2 != (0 : Int)) then
      k0 (v.1, ByteArray.empty, v.2.2.1, v.2.2.2.2.2.2.2.2.1, y13.2, (IntKind.i64.wrap (v.2.1 + (1 : Int))), v.2.2.1, v.2.2.2.1, v.2.2.2.2.1, v.2.2.2.2.2.1, v.2.2.2.2.2.2.1, v.2.2.2.2.2.2.2.1, v.2.2.2.2.2.2.2.2.1, v.2.2.2.2.2.2.2.2.2.1, v.2.2.2.2.2.2.2.2.2.2.1, v.2.2.2.2.2.2.2.2.2.2.2.1, ())
    else
    bif (sliceBds (4 : Int) (IntKind.i64.wrap ((4 : Int) + y13.1)) ((v.2.2.2.2.2.2.1.getD (Int.toNat v.2.2.2.2.2.2.2.2.1) ByteArray.empty).size : Int)) then
    let t14 := ((v.2.2.2.2.2.2.1.getD (Int.toNat v.2.2.2.2.2.2.2.2.1) ByteArray.empty).extract 4 (Int.toNat (IntKind.i64.wrap ((4 : Int) + y13.1))))
    Option.bind (f622v1F k (t14, v.2.2.2.2.2.2.2.2.2.2.2.1, ())) fun y15 =>
    k1 (v.1, (IntKind.i64.wrap (v.2.1 + (1 : Int))), v.2.2.1, v.2.2.2.1, v.2.2.2.2.1, v.2.2.2.2.2.1, v.2.2.2.2.2.2.1, v.2.2.2.2.2.2.2.1, v.2.2.2.2.2.2.2.2.1, v.2.2.2.2.2.2.2.2.2.1, v.2.2.2.2.2.2.2.2.2.2.1, y15.2.1, ())
    else none
  else
  Option.bind (f621F k ((v.2.2.2.2.2.2.1.getD (Int.toNat v.2.2.2.2.2.2.2.2.1) ByteArray.empty), (IntKind.i64.wrap (v.2.2.1 + (1 : Int))), (IntKind.i64.wrap (v.2.1 + (1 : Int))), (v.1.length : Int), false)) fun y16 =>
  bif (y16.2 != (0 : Int)) then
    k0 (v.1, ByteArray.empty, v.2.2.1, v.2.2.2.2.2.2.2.2.1, y16.2, (IntKind.i64.wrap (v.2.1 + (1 : Int))), v.2.2.1, v.2.2.2.1, v.2.2.2.2.1, v.2.2.2.2.2.1, v.2.2.2.2.2.2.1, v.2.2.2.2.2.2.2.1, v.2.2.2.2.2.2.2.2.1, v.2.2.2.2.2.2.2.2.2.1, v.2.2.2.2.2.2.2.2.2.2.1, v.2.2.2.2.2.2.2.2.2.2.2.1, ())
  else
  bif (sliceBds (4 : Int) (IntKind.i64.wrap ((4 : Int) + y16.1)) ((v.2.2.2.2.2.2.1.getD (Int.toNat v.2.2.2.2.2.2.2.2.1) ByteArray.empty).size : Int)) then
  let t17 := ((v.2.2.2.2.2.2.1.getD (Int.toNat v.2.2.2.2.2.2.2.2.1) ByteArray.empty).extract 4 (Int.toNat (IntKind.i64.wrap ((4 : Int) + y16.1))))
  Option.bind (f622v1F k (t17, v.2.2.2.2.2.2.2.2.2.2.2.1, ())) fun y18 =>
  k1 (v.1, (IntKind.i64.wrap (v.2.1 + (1 : Int))), v.2.2.1, v.2.2.2.1, v.2.2.2.2.1, v.2.2.2.2.2.1, v.2.2.2.2.2.2.1, v.2.2.2.2.2.2.2.1, v.2.2.2.2.2.2.2.2.1, v.2.2.2.2.2.2.2.2.2.1, v.2.2.2.2.2.2.2.2.2.2.1, y18.2.1, ())
  else none
  else none
noncomputable def f581p1S (k : Nat) : Sum1 := part2Sum f581p1H f581p1N (f581p0S k) (fun R K v => f581p1 k (fun w => K .ret (encSt f581p1X0 w)) (fun w => K .normal (encSt f581p1X1 w)) v)
theorem f581p1E (k : Nat) (R : Type) (K : X → St → Option R) (v : f581p1H.Den) : evS tab (f581T k) Tryz.f81.ntmps [] f581p1C 4148454 (partK f581p1M K) (encSt f581p1H v) = f581p1 k (fun w => K .ret (encSt f581p1X0 w)) (fun w => K .normal (encSt f581p1X1 w)) v := by kernel_rfl
theorem f581p1I (k : Nat) : SumsOk P Tryz.f81.ntmps [] f581p1C 4148454 := SumsOk.nil
theorem f581p1O (k : Nat) : SumOk P Tryz.f81.ntmps f581p1C (f581p1S k) := part2_ok tabOk (f581TS k) mixed (f581p1I k) ((show f581p0C = f581p1C by kernel_rfl) ▸ f581p0O k) (f581p1E k)
noncomputable def f581l2H : Shape := ⟨[(0, .one (.ro Y8)), (6, .one (.ptr 0 0)), (7, .one (.int .i64)), (8, .one (.int .i64)), (9, .one (.ptr 1 0)), (20, .one (.ro Y8)), (21, .one (.int .i64)), (22, .one (.int .i64)), (53, .one (.ro .str)), (54, .one (.int .i64)), (55, .one (.int .i64))], [(0, .var 174 [.ptr 0 0, .own 2]), (1, .var 81 [.str, .ro .str]), (2, .row 5 (.int .u8) .plain)], 3, []⟩
noncomputable def f581l2X0 : Shape := ⟨[(0, .one (.ro Y8)), (2, .one (.str)), (3, .one (.int .i64)), (4, .one (.int .i64)), (5, .one (.int .i64)), (6, .one (.ptr 0 0)), (7, .one (.int .i64)), (20, .one (.ro Y8)), (21, .one (.int .i64)), (22, .one (.int .i64))], [(0, .var 174 [.ptr 0 0, .own 1]), (1, .row 5 (.int .u8) .plain)], 2, []⟩
noncomputable def f581l2X1 : Shape := ⟨[(0, .one (.ro Y8)), (6, .one (.ptr 0 0)), (7, .one (.int .i64)), (20, .one (.ro Y8)), (21, .one (.int .i64)), (22, .one (.int .i64))], [(0, .var 174 [.ptr 0 0, .own 1]), (1, .row 5 (.int .u8) .plain)], 2, []⟩
noncomputable def f581l2N : NoteR := ⟨[0, 6, 7, 8, 9, 20, 21, 22, 53, 54, 55], [], []⟩
noncomputable def f581l2M : NoteR := ⟨[0, 2, 3, 4, 5, 6, 7, 20, 21, 22], [], []⟩
noncomputable def f581l2C : Code := firstC (codesAt 259278 (codeOf Tryz.f81) 1)
noncomputable def f581l2s {R : Type} (k : Nat) (rec : D104 → Option R) (k0 : D106 → Option R) (k1 : D107 → Option R) (v : D104) : Option R :=
  bif (decide (v.2.2.2.2.2.2.2.2.1 < v.2.2.2.2.2.2.2.1)) then
    f581p1 k
      (fun (w19 : D105) =>
        k0 (w19.1, w19.2.1, w19.2.2.1, w19.2.2.2.1, w19.2.2.2.2.1, w19.2.2.2.2.2.1, w19.2.2.2.2.2.2.2.1, w19.2.2.2.2.2.2.2.2.1, w19.2.2.2.2.2.2.2.2.2.1, w19.2.2.2.2.2.2.2.2.2.2.2.2.2.2.2.1, ()))
      (fun (w20 : D104) =>
        rec (w20.1, w20.2.1, w20.2.2.1, w20.2.2.2.1, w20.2.2.2.2.1, w20.2.2.2.2.2.1, w20.2.2.2.2.2.2.1, w20.2.2.2.2.2.2.2.1, (IntKind.i64.wrap (w20.2.2.2.2.2.2.2.2.1 + (1 : Int))), w20.2.2.2.2.2.2.2.2.2.1, w20.2.2.2.2.2.2.2.2.2.2.1, w20.2.2.2.2.2.2.2.2.2.2.2.1, ()))
      (v.1, v.2.1, v.2.2.1, v.2.2.2.1, v.2.2.2.2.1, v.2.2.2.2.2.1, v.2.2.2.2.2.2.1, v.2.2.2.2.2.2.2.1, v.2.2.2.2.2.2.2.2.1, v.2.2.2.2.2.2.2.2.2.1, v.2.2.2.2.2.2.2.2.2.2.1, v.2.2.2.2.2.2.2.2.2.2.2.1, ())
  else
  k1 (v.1, v.2.1, v.2.2.2.1, v.2.2.2.2.1, v.2.2.2.2.2.1, v.2.2.2.2.2.2.2.2.2.2.2.1, ())
noncomputable def f581l2 {R : Type} (k : Nat) (k0 : D106 → Option R) (k1 : D107 → Option R) (v : D104) : Option R := iterS (fun rec v => f581l2s k rec k0 k1 v) k v
noncomputable def f581l2S (k : Nat) : Sum1 := loopSum f581l2H f581l2N k (fun R rec K v => f581l2s k rec (fun w => K .ret (encSt f581l2X0 w)) (fun w => K (.exit 3) (encSt f581l2X1 w)) v)
theorem f581l2E (k : Nat) (R : Type) (rec : St → Option R) (K : X → St → Option R) (v : f581l2H.Den) : evS tab (f581T k) Tryz.f81.ntmps [(4148454, f581p1S k)] (bodyOf f581l2C) 518556 (bodyK f581l2N f581l2M rec K) (encSt f581l2H v) = f581l2s k (fun v => rec (encSt f581l2H v)) (fun w => K .ret (encSt f581l2X0 w)) (fun w => K (.exit 3) (encSt f581l2X1 w)) v := by kernel_rfl
theorem f581l2I (k : Nat) : SumsOk P Tryz.f81.ntmps [(4148454, f581p1S k)] (bodyOf f581l2C) 518556 := (SumsOk.nil).cons (c := f581p1C) (by kernel_rfl) (f581p1O k)
theorem f581l2O (k : Nat) : SumOk P Tryz.f81.ntmps f581l2C (f581l2S k) := (show f581l2C = .loop (bodyOf f581l2C) by kernel_rfl) ▸ sum_loop tabOk (f581TS k) mixed (f581l2I k) (f581l2E k)
noncomputable def f581l3H : Shape := ⟨[(0, .one (.ro Y8)), (6, .one (.ptr 0 0)), (7, .one (.int .i64)), (8, .one (.int .i64)), (9, .one (.ptr 1 0)), (20, .one (.ro Y8)), (21, .one (.int .i64)), (22, .one (.int .i64)), (53, .one (.ro .str)), (54, .one (.int .i64)), (55, .one (.int .i64))], [(0, .var 174 [.nil .ptr, .emp]), (1, .var 81 [.str, .ro .str])], 2, []⟩
noncomputable def f581l3X0 : Shape := ⟨[(0, .one (.ro Y8)), (2, .one (.str)), (3, .one (.int .i64)), (4, .one (.int .i64)), (5, .one (.int .i64)), (6, .one (.ptr 0 0)), (7, .one (.int .i64)), (20, .one (.ro Y8)), (21, .one (.int .i64)), (22, .one (.int .i64))], [(0, .var 174 [.nil .ptr, .emp])], 1, []⟩
noncomputable def f581l3X1 : Shape := ⟨[(0, .one (.ro Y8)), (2, .one (.str)), (3, .one (.int .i64)), (4, .one (.int .i64)), (5, .one (.int .i64)), (6, .one (.ptr 0 0)), (7, .one (.int .i64)), (20, .one (.ro Y8)), (21, .one (.int .i64)), (22, .one (.int .i64))], [(0, .var 174 [.ptr 0 0, .own 1]), (1, .row 5 (.int .u8) .plain)], 2, []⟩
noncomputable def f581l3X2 : Shape := ⟨[(0, .one (.ro Y8)), (6, .one (.ptr 0 0)), (7, .one (.int .i64)), (20, .one (.ro Y8)), (21, .one (.int .i64)), (22, .one (.int .i64))], [(0, .var 174 [.ptr 0 0, .own 1]), (1, .row 5 (.int .u8) .plain)], 2, []⟩
noncomputable def f581l3X3 : Shape := ⟨[(0, .one (.ro Y8)), (6, .one (.ptr 0 0)), (7, .one (.int .i64)), (20, .one (.ro Y8)), (21, .one (.int .i64)), (22, .one (.int .i64))], [(0, .var 174 [.nil .ptr, .emp])], 1, []⟩
noncomputable def f581l3N : NoteR := ⟨[0, 6, 7, 8, 9, 20, 21, 22, 53, 54, 55], [], []⟩
noncomputable def f581l3M : NoteR := ⟨[0, 2, 3, 4, 5, 6, 7, 20, 21, 22], [], []⟩
noncomputable def f581l3C : Code := firstC (codesAt 259278 (codeOf Tryz.f81) 1)
noncomputable def f581l3s {R : Type} (k : Nat) (rec : D111 → Option R) (k0 : D108 → Option R) (k1 : D106 → Option R) (k2 : D107 → Option R) (k3 : D109 → Option R) (v : D111) : Option R :=
  bif (decide (v.2.2.2.2.2.2.2.2.1 < v.2.2.2.2.2.2.2.1)) then
    f581p0 k
      (fun (w10 : D103) =>
        k0 (w10.1, w10.2.1, w10.2.2.1, w10.2.2.2.1, w10.2.2.2.2.1, w10.2.2.2.2.2.1, w10.2.2.2.2.2.2.2.1, w10.2.2.2.2.2.2.2.2.1, w10.2.2.2.2.2.2.2.2.2.1, ()))
      (fun (w11 : D104) =>
        f581l2 k
          (fun (w21 : D106) =>
            k1 (w21.1, w21.2.1, w21.2.2.1, w21.2.2.2.1, w21.2.2.2.2.1, w21.2.2.2.2.2.1, w21.2.2.2.2.2.2.1, w21.2.2.2.2.2.2.2.1, w21.2.2.2.2.2.2.2.2.1, w21.2.2.2.2.2.2.2.2.2.1, ()))
          (fun (w22 : D107) =>
            k2 (w22.1, w22.2.1, w22.2.2.1, w22.2.2.2.1, w22.2.2.2.2.1, w22.2.2.2.2.2.1, ()))
          (w11.1, w11.2.1, w11.2.2.1, w11.2.2.2.1, w11.2.2.2.2.1, w11.2.2.2.2.2.1, w11.2.2.2.2.2.2.1, w11.2.2.2.2.2.2.2.1, (IntKind.i64.wrap (w11.2.2.2.2.2.2.2.2.1 + (1 : Int))), w11.2.2.2.2.2.2.2.2.2.1, w11.2.2.2.2.2.2.2.2.2.2.1, w11.2.2.2.2.2.2.2.2.2.2.2.1, ()))
      (v.1, v.2.1, v.2.2.1, v.2.2.2.1, v.2.2.2.2.1, v.2.2.2.2.2.1, v.2.2.2.2.2.2.1, v.2.2.2.2.2.2.2.1, v.2.2.2.2.2.2.2.2.1, v.2.2.2.2.2.2.2.2.2.1, v.2.2.2.2.2.2.2.2.2.2.1, ())
  else
  k3 (v.1, v.2.1, v.2.2.2.1, v.2.2.2.2.1, v.2.2.2.2.2.1, ())
noncomputable def f581l3 {R : Type} (k : Nat) (k0 : D108 → Option R) (k1 : D106 → Option R) (k2 : D107 → Option R) (k3 : D109 → Option R) (v : D111) : Option R := iterS (fun rec v => f581l3s k rec k0 k1 k2 k3 v) k v
theorem f581l2Rd (k : Nat) : SumRd P Tryz.f81.ntmps (bodyOf f581l2C) (f581l2S k) k := loop_rd tabOk (f581TS k) mixed (f581l2I k) (f581l2E k)
noncomputable def f581l3S (k : Nat) : Sum1 := loop2Sum f581l3H f581l3N (f581l2S k) k (fun R rec K v => f581l3s k rec (fun w => K .ret (encSt f581l3X0 w)) (fun w => K .ret (encSt f581l3X1 w)) (fun w => K (.exit 3) (encSt f581l3X2 w)) (fun w => K (.exit 3) (encSt f581l3X3 w)) v)
theorem f581l3E (k : Nat) (R : Type) (rec : f581l3H.Den → Option R) (K : X → St → Option R) (v : f581l3H.Den) : evS tab (f581T k) Tryz.f81.ntmps [(4148454, f581p1S k)] (bodyOf f581l3C) 518556 (step2K f581l3H f581l3N f581l3M (f581l2S k) rec K) (encSt f581l3H v) = f581l3s k rec (fun w => K .ret (encSt f581l3X0 w)) (fun w => K .ret (encSt f581l3X1 w)) (fun w => K (.exit 3) (encSt f581l3X2 w)) (fun w => K (.exit 3) (encSt f581l3X3 w)) v := by kernel_rfl
theorem f581l3I (k : Nat) : SumsOk P Tryz.f81.ntmps [(4148454, f581p1S k)] (bodyOf f581l3C) 518556 := (SumsOk.nil).cons (c := f581p1C) (by kernel_rfl) (f581p1O k)
theorem f581l3Rd (k : Nat) : SumRd P Tryz.f81.ntmps (bodyOf f581l3C) (f581l3S k) (k + (k)) := loop2_rd tabOk (f581TS k) mixed (f581l3I k) ((show bodyOf f581l2C = bodyOf f581l3C by kernel_rfl) ▸ f581l2Rd k) (f581l3E k)
theorem f581l3O (k : Nat) : SumOk P Tryz.f81.ntmps f581l3C (f581l3S k) := (show f581l3C = .loop (bodyOf f581l3C) by kernel_rfl) ▸ (f581l3Rd k).ok
noncomputable def f581p4H : Shape := ⟨[(0, .one (.ro Y8)), (6, .one (.ptr 0 0)), (7, .one (.int .i64)), (20, .one (.ro Y8)), (21, .one (.int .i64)), (22, .one (.int .i64))], [(0, .var 174 [.nil .ptr, .emp])], 1, []⟩
noncomputable def f581p4X0 : Shape := ⟨[(0, .one (.ro Y8)), (2, .one (.str)), (3, .one (.int .i64)), (4, .one (.int .i64)), (5, .one (.int .i64)), (6, .one (.ptr 0 0)), (7, .one (.int .i64)), (20, .one (.ro Y8)), (21, .one (.int .i64)), (22, .one (.int .i64))], [(0, .var 174 [.nil .ptr, .emp])], 1, []⟩
noncomputable def f581p4X1 : Shape := ⟨[(0, .one (.ro Y8)), (2, .one (.str)), (3, .one (.int .i64)), (4, .one (.int .i64)), (5, .one (.int .i64)), (6, .one (.ptr 0 0)), (7, .one (.int .i64)), (20, .one (.ro Y8)), (21, .one (.int .i64)), (22, .one (.int .i64))], [(0, .var 174 [.ptr 0 0, .own 1]), (1, .row 5 (.int .u8) .plain)], 2, []⟩
noncomputable def f581p4X2 : Shape := ⟨[(0, .one (.ro Y8)), (6, .one (.ptr 0 0)), (7, .one (.int .i64)), (20, .one (.ro Y8)), (21, .one (.int .i64)), (22, .one (.int .i64))], [(0, .var 174 [.ptr 0 0, .own 1]), (1, .row 5 (.int .u8) .plain)], 2, []⟩
noncomputable def f581p4X3 : Shape := ⟨[(0, .one (.ro Y8)), (6, .one (.ptr 0 0)), (7, .one (.int .i64)), (20, .one (.ro Y8)), (21, .one (.int .i64)), (22, .one (.int .i64))], [(0, .var 174 [.nil .ptr, .emp])], 1, []⟩
noncomputable def f581p4N : NoteR := ⟨[0, 6, 7, 20, 21, 22], [], []⟩
noncomputable def f581p4M : NoteR := ⟨[0, 2, 3, 4, 5, 6, 7, 20, 21, 22], [], []⟩
noncomputable def f581p4C : Code := firstC (codesAt 8102 (codeOf Tryz.f81) 1)
noncomputable def f581p4 {R : Type} (k : Nat) (k0 : D108 → Option R) (k1 : D106 → Option R) (k2 : D107 → Option R) (k3 : D109 → Option R) (v : D109) : Option R :=
  bif ((decide ((0 : Int) ≤ v.2.2.2.2.1)) && (decide (v.2.2.2.2.1 < (v.2.2.1.length : Int)))) then
  Option.bind (f602F k (v.2.2.1.getD (Int.toNat v.2.2.2.2.1) (ByteArray.empty, [])).1) fun y1 =>
  bif (!y1) then
    k0 (v.1, ByteArray.empty, v.2.2.2.2.1, (0 : Int), (7 : Int), v.2.1, v.2.2.1, v.2.2.2.1, v.2.2.2.2.1, ())
  else
  bif (sliceBds (0 : Int) v.2.2.2.2.1 (v.1.length : Int)) then
  Option.bind (f619v0F k (((v.1.take (Int.toNat v.2.2.2.2.1)).drop 0), (v.2.2.1.getD (Int.toNat v.2.2.2.2.1) (ByteArray.empty, [])).1, (v.2.2.1.getD (Int.toNat v.2.2.2.2.1) (ByteArray.empty, [])).2, ())) fun y2 =>
  bif y2.1 then
    k0 (v.1, ByteArray.empty, v.2.2.2.2.1, (0 : Int), (13 : Int), v.2.1, v.2.2.1, v.2.2.2.1, v.2.2.2.2.1, ())
  else
  bif (decide ((y2.2.2.1.length : Int) > (60 : Int))) then
    k0 (v.1, ByteArray.empty, v.2.2.2.2.1, (0 : Int), (2 : Int), v.2.1, v.2.2.1, v.2.2.2.1, v.2.2.2.2.1, ())
  else
  bif ((y2.2.2.1.length : Int) == (0 : Int)) then
    k0 (v.1, ByteArray.empty, v.2.2.2.2.1, (0 : Int), (1 : Int), v.2.1, v.2.2.1, v.2.2.2.1, v.2.2.2.2.1, ())
  else
  f581l3 k
    (fun (w23 : D108) =>
      k0 (w23.1, w23.2.1, w23.2.2.1, w23.2.2.2.1, w23.2.2.2.2.1, w23.2.2.2.2.2.1, w23.2.2.2.2.2.2.1, w23.2.2.2.2.2.2.2.1, w23.2.2.2.2.2.2.2.2.1, ()))
    (fun (w24 : D106) =>
      k1 (w24.1, w24.2.1, w24.2.2.1, w24.2.2.2.1, w24.2.2.2.2.1, w24.2.2.2.2.2.1, w24.2.2.2.2.2.2.1, w24.2.2.2.2.2.2.2.1, w24.2.2.2.2.2.2.2.2.1, w24.2.2.2.2.2.2.2.2.2.1, ()))
    (fun (w25 : D107) =>
      k2 (w25.1, w25.2.1, w25.2.2.1, w25.2.2.2.1, w25.2.2.2.2.1, w25.2.2.2.2.2.1, ()))
    (fun (w26 : D109) =>
      k3 (w26.1, w26.2.1, w26.2.2.1, w26.2.2.2.1, w26.2.2.2.2.1, ()))
    (v.1, v.2.1, v.2.2.2.2.1, v.2.2.1, v.2.2.2.1, v.2.2.2.2.1, y2.2.2.1, (y2.2.2.1.length : Int), (0 : Int), y2.2.1, y2.2.2.1, ())
  else none
  else none
noncomputable def f581p4S (k : Nat) : Sum1 := partSum f581p4H f581p4N (fun R K v => f581p4 k (fun w => K .ret (encSt f581p4X0 w)) (fun w => K .ret (encSt f581p4X1 w)) (fun w => K .normal (encSt f581p4X2 w)) (fun w => K .normal (encSt f581p4X3 w)) v)
theorem f581p4E (k : Nat) (R : Type) (K : X → St → Option R) (v : f581p4H.Den) : evS tab (f581T k) Tryz.f81.ntmps [(4148454, f581p1S k), (259278, f581l3S k)] f581p4C 8102 (partK f581p4M K) (encSt f581p4H v) = f581p4 k (fun w => K .ret (encSt f581p4X0 w)) (fun w => K .ret (encSt f581p4X1 w)) (fun w => K .normal (encSt f581p4X2 w)) (fun w => K .normal (encSt f581p4X3 w)) v := by kernel_rfl
theorem f581p4I (k : Nat) : SumsOk P Tryz.f81.ntmps [(4148454, f581p1S k), (259278, f581l3S k)] f581p4C 8102 := ((SumsOk.nil).cons (c := f581l3C) (by kernel_rfl) (f581l3O k)).cons (c := f581p1C) (by kernel_rfl) (f581p1O k)
theorem f581p4O (k : Nat) : SumOk P Tryz.f81.ntmps f581p4C (f581p4S k) := sum_part tabOk (f581TS k) mixed (f581p4I k) (f581p4E k)
noncomputable def f581p5H : Shape := ⟨[(0, .one (.ro Y8)), (6, .one (.ptr 0 0)), (7, .one (.int .i64)), (20, .one (.ro Y8)), (21, .one (.int .i64)), (22, .one (.int .i64))], [(0, .var 174 [.ptr 0 0, .own 1]), (1, .row 5 (.int .u8) .plain)], 2, []⟩
noncomputable def f581p5X0 : Shape := ⟨[(0, .one (.ro Y8)), (2, .one (.str)), (3, .one (.int .i64)), (4, .one (.int .i64)), (5, .one (.int .i64)), (6, .one (.ptr 0 0)), (7, .one (.int .i64)), (20, .one (.ro Y8)), (21, .one (.int .i64)), (22, .one (.int .i64))], [(0, .var 174 [.ptr 0 0, .own 1]), (1, .row 5 (.int .u8) .plain)], 2, []⟩
noncomputable def f581p5X1 : Shape := ⟨[(0, .one (.ro Y8)), (6, .one (.ptr 0 0)), (7, .one (.int .i64)), (20, .one (.ro Y8)), (21, .one (.int .i64)), (22, .one (.int .i64))], [(0, .var 174 [.ptr 0 0, .own 1]), (1, .row 5 (.int .u8) .plain)], 2, []⟩
noncomputable def f581p5N : NoteR := ⟨[0, 6, 7, 20, 21, 22], [], []⟩
noncomputable def f581p5M : NoteR := ⟨[0, 2, 3, 4, 5, 6, 7, 20, 21, 22], [], []⟩
noncomputable def f581p5C : Code := firstC (codesAt 8102 (codeOf Tryz.f81) 1)
noncomputable def f581p5 {R : Type} (k : Nat) (k0 : D106 → Option R) (k1 : D107 → Option R) (v : D107) : Option R :=
  bif ((decide ((0 : Int) ≤ v.2.2.2.2.1)) && (decide (v.2.2.2.2.1 < (v.2.2.1.length : Int)))) then
  Option.bind (f602F k (v.2.2.1.getD (Int.toNat v.2.2.2.2.1) (ByteArray.empty, [])).1) fun y30 =>
  bif (!y30) then
    k0 (v.1, ByteArray.empty, v.2.2.2.2.1, (0 : Int), (7 : Int), v.2.1, v.2.2.1, v.2.2.2.1, v.2.2.2.2.1, v.2.2.2.2.2.1, ())
  else
  bif (sliceBds (0 : Int) v.2.2.2.2.1 (v.1.length : Int)) then
  Option.bind (f619v0F k (((v.1.take (Int.toNat v.2.2.2.2.1)).drop 0), (v.2.2.1.getD (Int.toNat v.2.2.2.2.1) (ByteArray.empty, [])).1, (v.2.2.1.getD (Int.toNat v.2.2.2.2.1) (ByteArray.empty, [])).2, ())) fun y31 =>
  bif y31.1 then
    k0 (v.1, ByteArray.empty, v.2.2.2.2.1, (0 : Int), (13 : Int), v.2.1, v.2.2.1, v.2.2.2.1, v.2.2.2.2.1, v.2.2.2.2.2.1, ())
  else
  bif (decide ((y31.2.2.1.length : Int) > (60 : Int))) then
    k0 (v.1, ByteArray.empty, v.2.2.2.2.1, (0 : Int), (2 : Int), v.2.1, v.2.2.1, v.2.2.2.1, v.2.2.2.2.1, v.2.2.2.2.2.1, ())
  else
  bif ((y31.2.2.1.length : Int) == (0 : Int)) then
    k0 (v.1, ByteArray.empty, v.2.2.2.2.1, (0 : Int), (1 : Int), v.2.1, v.2.2.1, v.2.2.2.1, v.2.2.2.2.1, v.2.2.2.2.2.1, ())
  else
  f581l2 k
    (fun (w32 : D106) =>
      k0 (w32.1, w32.2.1, w32.2.2.1, w32.2.2.2.1, w32.2.2.2.2.1, w32.2.2.2.2.2.1, w32.2.2.2.2.2.2.1, w32.2.2.2.2.2.2.2.1, w32.2.2.2.2.2.2.2.2.1, w32.2.2.2.2.2.2.2.2.2.1, ()))
    (fun (w33 : D107) =>
      k1 (w33.1, w33.2.1, w33.2.2.1, w33.2.2.2.1, w33.2.2.2.2.1, w33.2.2.2.2.2.1, ()))
    (v.1, v.2.1, v.2.2.2.2.1, v.2.2.1, v.2.2.2.1, v.2.2.2.2.1, y31.2.2.1, (y31.2.2.1.length : Int), (0 : Int), y31.2.1, y31.2.2.1, v.2.2.2.2.2.1, ())
  else none
  else none
noncomputable def f581p5S (k : Nat) : Sum1 := part2Sum f581p5H f581p5N (f581p4S k) (fun R K v => f581p5 k (fun w => K .ret (encSt f581p5X0 w)) (fun w => K .normal (encSt f581p5X1 w)) v)
theorem f581p5E (k : Nat) (R : Type) (K : X → St → Option R) (v : f581p5H.Den) : evS tab (f581T k) Tryz.f81.ntmps [(4148454, f581p1S k), (259278, f581l3S k)] f581p5C 8102 (partK f581p5M K) (encSt f581p5H v) = f581p5 k (fun w => K .ret (encSt f581p5X0 w)) (fun w => K .normal (encSt f581p5X1 w)) v := by kernel_rfl
theorem f581p5I (k : Nat) : SumsOk P Tryz.f81.ntmps [(4148454, f581p1S k), (259278, f581l3S k)] f581p5C 8102 := ((SumsOk.nil).cons (c := f581l3C) (by kernel_rfl) (f581l3O k)).cons (c := f581p1C) (by kernel_rfl) (f581p1O k)
theorem f581p5O (k : Nat) : SumOk P Tryz.f81.ntmps f581p5C (f581p5S k) := part2_ok tabOk (f581TS k) mixed (f581p5I k) ((show f581p4C = f581p5C by kernel_rfl) ▸ f581p4O k) (f581p5E k)
noncomputable def f581l6H : Shape := ⟨[(0, .one (.ro Y8)), (6, .one (.ptr 0 0)), (7, .one (.int .i64)), (20, .one (.ro Y8)), (21, .one (.int .i64)), (22, .one (.int .i64))], [(0, .var 174 [.ptr 0 0, .own 1]), (1, .row 5 (.int .u8) .plain)], 2, []⟩
noncomputable def f581l6X0 : Shape := ⟨[(2, .one (.str)), (3, .one (.int .i64)), (4, .one (.int .i64)), (5, .one (.int .i64)), (6, .one (.ptr 0 0))], [(0, .var 174 [.ptr 0 0, .own 1]), (1, .row 5 (.int .u8) .plain)], 2, []⟩
noncomputable def f581l6X1 : Shape := ⟨[(6, .one (.ptr 0 0))], [(0, .var 174 [.ptr 0 0, .own 1]), (1, .row 5 (.int .u8) .plain)], 2, []⟩
noncomputable def f581l6N : NoteR := ⟨[0, 6, 7, 20, 21, 22], [], []⟩
noncomputable def f581l6M : NoteR := ⟨[2, 3, 4, 5, 6], [], []⟩
noncomputable def f581l6C : Code := firstC (codesAt 506 (codeOf Tryz.f81) 1)
noncomputable def f581l6s {R : Type} (k : Nat) (rec : D107 → Option R) (k0 : D110 → Option R) (k1 : List Int × Unit → Option R) (v : D107) : Option R :=
  bif (decide (v.2.2.2.2.1 < v.2.2.2.1)) then
    f581p5 k
      (fun (w34 : D106) =>
        k0 (w34.2.1, w34.2.2.1, w34.2.2.2.1, w34.2.2.2.2.1, w34.2.2.2.2.2.2.2.2.2.1, ()))
      (fun (w35 : D107) =>
        rec (w35.1, w35.2.1, w35.2.2.1, w35.2.2.2.1, (IntKind.i64.wrap (w35.2.2.2.2.1 + (1 : Int))), w35.2.2.2.2.2.1, ()))
      (v.1, v.2.1, v.2.2.1, v.2.2.2.1, v.2.2.2.2.1, v.2.2.2.2.2.1, ())
  else
  k1 (v.2.2.2.2.2.1, ())
noncomputable def f581l6 {R : Type} (k : Nat) (k0 : D110 → Option R) (k1 : List Int × Unit → Option R) (v : D107) : Option R := iterS (fun rec v => f581l6s k rec k0 k1 v) k v
noncomputable def f581l6S (k : Nat) : Sum1 := loopSum f581l6H f581l6N k (fun R rec K v => f581l6s k rec (fun w => K .ret (encSt f581l6X0 w)) (fun w => K (.exit 0) (encSt f581l6X1 w)) v)
theorem f581l6E (k : Nat) (R : Type) (rec : St → Option R) (K : X → St → Option R) (v : f581l6H.Den) : evS tab (f581T k) Tryz.f81.ntmps [(4148454, f581p1S k), (259278, f581l3S k), (8102, f581p5S k)] (bodyOf f581l6C) 1012 (bodyK f581l6N f581l6M rec K) (encSt f581l6H v) = f581l6s k (fun v => rec (encSt f581l6H v)) (fun w => K .ret (encSt f581l6X0 w)) (fun w => K (.exit 0) (encSt f581l6X1 w)) v := by kernel_rfl
theorem f581l6I (k : Nat) : SumsOk P Tryz.f81.ntmps [(4148454, f581p1S k), (259278, f581l3S k), (8102, f581p5S k)] (bodyOf f581l6C) 1012 := (((SumsOk.nil).cons (c := f581p5C) (by kernel_rfl) (f581p5O k)).cons (c := f581l3C) (by kernel_rfl) (f581l3O k)).cons (c := f581p1C) (by kernel_rfl) (f581p1O k)
theorem f581l6O (k : Nat) : SumOk P Tryz.f81.ntmps f581l6C (f581l6S k) := (show f581l6C = .loop (bodyOf f581l6C) by kernel_rfl) ▸ sum_loop tabOk (f581TS k) mixed (f581l6I k) (f581l6E k)
noncomputable def f581l7H : Shape := ⟨[(0, .one (.ro Y8)), (6, .one (.ptr 0 0)), (7, .one (.int .i64)), (20, .one (.ro Y8)), (21, .one (.int .i64)), (22, .one (.int .i64))], [(0, .var 174 [.nil .ptr, .emp])], 1, []⟩
noncomputable def f581l7X0 : Shape := ⟨[(2, .one (.str)), (3, .one (.int .i64)), (4, .one (.int .i64)), (5, .one (.int .i64)), (6, .one (.ptr 0 0))], [(0, .var 174 [.nil .ptr, .emp])], 1, []⟩
noncomputable def f581l7X1 : Shape := ⟨[(2, .one (.str)), (3, .one (.int .i64)), (4, .one (.int .i64)), (5, .one (.int .i64)), (6, .one (.ptr 0 0))], [(0, .var 174 [.ptr 0 0, .own 1]), (1, .row 5 (.int .u8) .plain)], 2, []⟩
noncomputable def f581l7X2 : Shape := ⟨[(6, .one (.ptr 0 0))], [(0, .var 174 [.ptr 0 0, .own 1]), (1, .row 5 (.int .u8) .plain)], 2, []⟩
noncomputable def f581l7X3 : Shape := ⟨[(6, .one (.ptr 0 0))], [(0, .var 174 [.nil .ptr, .emp])], 1, []⟩
noncomputable def f581l7N : NoteR := ⟨[0, 6, 7, 20, 21, 22], [], []⟩
noncomputable def f581l7M : NoteR := ⟨[2, 3, 4, 5, 6], [], []⟩
noncomputable def f581l7C : Code := firstC (codesAt 506 (codeOf Tryz.f81) 1)
noncomputable def f581l7s {R : Type} (k : Nat) (rec : D109 → Option R) (k0 : D51 → Option R) (k1 : D110 → Option R) (k2 : List Int × Unit → Option R) (k3 : Unit → Option R) (v : D109) : Option R :=
  bif (decide (v.2.2.2.2.1 < v.2.2.2.1)) then
    f581p4 k
      (fun (w27 : D108) =>
        k0 (w27.2.1, w27.2.2.1, w27.2.2.2.1, w27.2.2.2.2.1, ()))
      (fun (w28 : D106) =>
        k1 (w28.2.1, w28.2.2.1, w28.2.2.2.1, w28.2.2.2.2.1, w28.2.2.2.2.2.2.2.2.2.1, ()))
      (fun (w29 : D107) =>
        f581l6 k
          (fun (w36 : D110) =>
            k1 (w36.1, w36.2.1, w36.2.2.1, w36.2.2.2.1, w36.2.2.2.2.1, ()))
          (fun (w37 : List Int × Unit) =>
            k2 (w37.1, ()))
          (w29.1, w29.2.1, w29.2.2.1, w29.2.2.2.1, (IntKind.i64.wrap (w29.2.2.2.2.1 + (1 : Int))), w29.2.2.2.2.2.1, ()))
      (fun (w38 : D109) =>
        rec (w38.1, w38.2.1, w38.2.2.1, w38.2.2.2.1, (IntKind.i64.wrap (w38.2.2.2.2.1 + (1 : Int))), ()))
      (v.1, v.2.1, v.2.2.1, v.2.2.2.1, v.2.2.2.2.1, ())
  else
  k3 (())
noncomputable def f581l7 {R : Type} (k : Nat) (k0 : D51 → Option R) (k1 : D110 → Option R) (k2 : List Int × Unit → Option R) (k3 : Unit → Option R) (v : D109) : Option R := iterS (fun rec v => f581l7s k rec k0 k1 k2 k3 v) k v
theorem f581l6Rd (k : Nat) : SumRd P Tryz.f81.ntmps (bodyOf f581l6C) (f581l6S k) k := loop_rd tabOk (f581TS k) mixed (f581l6I k) (f581l6E k)
noncomputable def f581l7S (k : Nat) : Sum1 := loop2Sum f581l7H f581l7N (f581l6S k) k (fun R rec K v => f581l7s k rec (fun w => K .ret (encSt f581l7X0 w)) (fun w => K .ret (encSt f581l7X1 w)) (fun w => K (.exit 0) (encSt f581l7X2 w)) (fun w => K (.exit 0) (encSt f581l7X3 w)) v)
theorem f581l7E (k : Nat) (R : Type) (rec : f581l7H.Den → Option R) (K : X → St → Option R) (v : f581l7H.Den) : evS tab (f581T k) Tryz.f81.ntmps [(4148454, f581p1S k), (259278, f581l3S k), (8102, f581p5S k)] (bodyOf f581l7C) 1012 (step2K f581l7H f581l7N f581l7M (f581l6S k) rec K) (encSt f581l7H v) = f581l7s k rec (fun w => K .ret (encSt f581l7X0 w)) (fun w => K .ret (encSt f581l7X1 w)) (fun w => K (.exit 0) (encSt f581l7X2 w)) (fun w => K (.exit 0) (encSt f581l7X3 w)) v := by kernel_rfl
theorem f581l7I (k : Nat) : SumsOk P Tryz.f81.ntmps [(4148454, f581p1S k), (259278, f581l3S k), (8102, f581p5S k)] (bodyOf f581l7C) 1012 := (((SumsOk.nil).cons (c := f581p5C) (by kernel_rfl) (f581p5O k)).cons (c := f581l3C) (by kernel_rfl) (f581l3O k)).cons (c := f581p1C) (by kernel_rfl) (f581p1O k)
theorem f581l7Rd (k : Nat) : SumRd P Tryz.f81.ntmps (bodyOf f581l7C) (f581l7S k) (k + (k)) := loop2_rd tabOk (f581TS k) mixed (f581l7I k) ((show bodyOf f581l6C = bodyOf f581l7C by kernel_rfl) ▸ f581l6Rd k) (f581l7E k)
theorem f581l7O (k : Nat) : SumOk P Tryz.f81.ntmps f581l7C (f581l7S k) := (show f581l7C = .loop (bodyOf f581l7C) by kernel_rfl) ▸ (f581l7Rd k).ok
noncomputable def f581p8H : Shape := ⟨[(0, .one (.ro Y8)), (6, .one (.ptr 0 0)), (7, .one (.int .i64))], [(0, .var 174 [.nil .ptr, .emp])], 1, []⟩
noncomputable def f581p8X0 : Shape := ⟨[(2, .one (.str)), (3, .one (.int .i64)), (4, .one (.int .i64)), (5, .one (.int .i64)), (6, .one (.ptr 0 0))], [(0, .var 174 [.nil .ptr, .emp])], 1, []⟩
noncomputable def f581p8X1 : Shape := ⟨[(2, .one (.str)), (3, .one (.int .i64)), (4, .one (.int .i64)), (5, .one (.int .i64)), (6, .one (.ptr 0 0))], [(0, .var 174 [.ptr 0 0, .own 1]), (1, .row 5 (.int .u8) .plain)], 2, []⟩
noncomputable def f581p8X2 : Shape := ⟨[(6, .one (.ptr 0 0))], [(0, .var 174 [.ptr 0 0, .own 1]), (1, .row 5 (.int .u8) .plain)], 2, []⟩
noncomputable def f581p8X3 : Shape := ⟨[(6, .one (.ptr 0 0))], [(0, .var 174 [.nil .ptr, .emp])], 1, []⟩
noncomputable def f581p8N : NoteR := ⟨[0, 6, 7], [], []⟩
noncomputable def f581p8M : NoteR := ⟨[0, 2, 3, 4, 5, 6, 7, 20, 21, 22], [], []⟩
noncomputable def f581p8C : Code := firstC (codesAt 126 (codeOf Tryz.f81) 1)
noncomputable def f581p8 {R : Type} (k : Nat) (k0 : D51 → Option R) (k1 : D110 → Option R) (k2 : List Int × Unit → Option R) (k3 : Unit → Option R) (v : List D56 × Int × Unit) : Option R :=
  f581l7 k
    (fun (w39 : D51) =>
      k0 (w39.1, w39.2.1, w39.2.2.1, w39.2.2.2.1, ()))
    (fun (w40 : D110) =>
      k1 (w40.1, w40.2.1, w40.2.2.1, w40.2.2.2.1, w40.2.2.2.2.1, ()))
    (fun (w41 : List Int × Unit) =>
      k2 (w41.1, ()))
    (fun (w42 : Unit) =>
      k3 (()))
    (v.1, v.2.1, v.1, (v.1.length : Int), (0 : Int), ())
noncomputable def f581p8S (k : Nat) : Sum1 := partSum f581p8H f581p8N (fun R K v => f581p8 k (fun w => K .ret (encSt f581p8X0 w)) (fun w => K .ret (encSt f581p8X1 w)) (fun w => K .normal (encSt f581p8X2 w)) (fun w => K .normal (encSt f581p8X3 w)) v)
theorem f581p8E (k : Nat) (R : Type) (K : X → St → Option R) (v : f581p8H.Den) : evS tab (f581T k) Tryz.f81.ntmps [(4148454, f581p1S k), (259278, f581l3S k), (8102, f581p5S k), (506, f581l7S k)] f581p8C 126 (partK f581p8M K) (encSt f581p8H v) = f581p8 k (fun w => K .ret (encSt f581p8X0 w)) (fun w => K .ret (encSt f581p8X1 w)) (fun w => K .normal (encSt f581p8X2 w)) (fun w => K .normal (encSt f581p8X3 w)) v := by kernel_rfl
theorem f581p8I (k : Nat) : SumsOk P Tryz.f81.ntmps [(4148454, f581p1S k), (259278, f581l3S k), (8102, f581p5S k), (506, f581l7S k)] f581p8C 126 := ((((SumsOk.nil).cons (c := f581l7C) (by kernel_rfl) (f581l7O k)).cons (c := f581p5C) (by kernel_rfl) (f581p5O k)).cons (c := f581l3C) (by kernel_rfl) (f581l3O k)).cons (c := f581p1C) (by kernel_rfl) (f581p1O k)
theorem f581p8O (k : Nat) : SumOk P Tryz.f81.ntmps f581p8C (f581p8S k) := sum_part tabOk (f581TS k) mixed (f581p8I k) (f581p8E k)
noncomputable def f581F (k : Nat) (x : (List D56)) : Option (D112) :=
  bif ((x.length : Int) == (0 : Int)) then
    some (ByteArray.empty, (0 : Int), (0 : Int), (1 : Int))
  else
  bif (decide ((x.length : Int) > (6 : Int))) then
    some (ByteArray.empty, (0 : Int), (0 : Int), (2 : Int))
  else
  f581p8 k
    (fun (w43 : D51) =>
      some (w43.1, w43.2.1, w43.2.2.1, w43.2.2.2.1))
    (fun (w44 : D110) =>
      some (w44.1, w44.2.1, w44.2.2.1, w44.2.2.2.1))
    (fun (w45 : List Int × Unit) =>
      bif (!(List.isEmpty w45.1) && (List.all w45.1 fun x => decide ((0 : Int) ≤ x) && decide (x ≤ 255))) then
      some ((strOfNums w45.1), (0 : Int), (0 : Int), (0 : Int))
      else none)
    (fun (w46 : Unit) =>
      some (ByteArray.empty, (0 : Int), (0 : Int), (0 : Int)))
    (x, (0 : Int), ())
noncomputable def f581L (k : Nat) : Sums := [(4148454, f581p1S k), (259278, f581l3S k), (8102, f581p5S k), (506, f581l7S k), (126, f581p8S k)]
theorem f581LS (k : Nat) : SumsOk P Tryz.f81.ntmps (f581L k) (codeOf Tryz.f81) 1 := (((((SumsOk.nil).cons (c := f581p8C) (by kernel_rfl) (f581p8O k)).cons (c := f581l7C) (by kernel_rfl) (f581l7O k)).cons (c := f581p5C) (by kernel_rfl) (f581p5O k)).cons (c := f581l3C) (by kernel_rfl) (f581l3O k)).cons (c := f581p1C) (by kernel_rfl) (f581p1O k)
theorem f581E (k : Nat) (x : (List D56)) : evFS tab (f581T k) (f581L k) Tryz.f81.ntmps Tryz.f81.results.toList (codeOf Tryz.f81) (argsV [.dat (.slice Y8)] x) [.dat .str, .dat (.int .i64), .dat (.int .i64), .dat (.int .i64)] none = f581F k x := by kernel_rfl
theorem f581Ok (k : Nat) (x : (List D56)) (y : D112) (h : f581F k x = some y) : FnOk P 81 [.dat (.slice Y8)] [.dat .str, .dat (.int .i64), .dat (.int .i64), .dat (.int .i64)] x y :=
  evFS_sound tabOk (f581TS k) mixed Tryz.func81 (c := codeOf Tryz.f81) (by kernel_rfl) (f581LS k) ((f581E k x).trans h)
noncomputable def f581A (k : Nat) := entFnB [.dat (.slice Y8)] [.dat .str, .dat (.int .i64), .dat (.int .i64), .dat (.int .i64)] (f581F k)
theorem f581Ao (k : Nat) : EntOk P 81 (f581A k) := entFnB_ok (f581Ok k)
/-! ## midrange/save.CheckVolumes -/
noncomputable def f536T (k : Nat) : Table := [(81, f581A k)]
theorem f536TS (k : Nat) : Sound P (f536T k) := (Sound.nil).consE f581B (f581Ao k)
theorem f536B : HasBody P 36 := ⟨Tryz.f36, Tryz.func36, by kernel_rfl, by kernel_rfl⟩
noncomputable def f536F (k : Nat) (x : (List D56)) : Option (Int × Int × Int) :=
  Option.bind (f581F k x) fun y1 =>
  bif (y1.2.2.2 != (0 : Int)) then
    some (y1.2.1, y1.2.2.1, y1.2.2.2)
  else
  some ((y1.1.size : Int), (0 : Int), (0 : Int))
noncomputable def f536L (k : Nat) : Sums := []
theorem f536LS (k : Nat) : SumsOk P Tryz.f36.ntmps (f536L k) (codeOf Tryz.f36) 1 := SumsOk.nil
theorem f536E (k : Nat) (x : (List D56)) : evFS tab (f536T k) (f536L k) Tryz.f36.ntmps Tryz.f36.results.toList (codeOf Tryz.f36) (argsV [.dat (.slice Y8)] x) [.dat (.int .i64), .dat (.int .i64), .dat (.int .i64)] none = f536F k x := by kernel_rfl
theorem f536Ok (k : Nat) (x : (List D56)) (y : Int × Int × Int) (h : f536F k x = some y) : FnOk P 36 [.dat (.slice Y8)] [.dat (.int .i64), .dat (.int .i64), .dat (.int .i64)] x y :=
  evFS_sound tabOk (f536TS k) mixed Tryz.func36 (c := codeOf Tryz.f36) (by kernel_rfl) (f536LS k) ((f536E k x).trans h)
noncomputable def f536A (k : Nat) := entFnB [.dat (.slice Y8)] [.dat (.int .i64), .dat (.int .i64), .dat (.int .i64)] (f536F k)
theorem f536Ao (k : Nat) : EntOk P 36 (f536A k) := entFnB_ok (f536Ok k)
/-! ## midrange/midrangelaw34.awake -/
noncomputable def f513T (k : Nat) : Table := [(21, f521A k), (36, f536A k)]
theorem f513TS (k : Nat) : Sound P (f513T k) := ((Sound.nil).consE f536B (f536Ao k)).consE f521B (f521Ao k)
theorem f513B : HasBody P 13 := ⟨Tryz.f13, Tryz.func13, by kernel_rfl, by kernel_rfl⟩
noncomputable def f513F (k : Nat) (x : Unit) : Option (Bool) :=
  Option.bind (f521F k ([], [(⟨#[65]⟩ : ByteArray)], (1 : Int))) fun y1 =>
  bif (y1.2 != (0 : Int)) then
    some false
  else
  bif ((y1.1.length : Int) != (1 : Int)) then
    some false
  else
  bif (decide ((0 : Int) < (y1.1.length : Int))) then
  bif (((y1.1.getD 0 (ByteArray.empty, [])).2.length : Int) != (1 : Int)) then
    some false
  else
  bif (decide ((0 : Int) < (y1.1.length : Int))) then
  bif (decide ((0 : Int) < ((y1.1.getD 0 (ByteArray.empty, [])).2.length : Int))) then
  let t2 := (((y1.1.getD 0 (ByteArray.empty, [])).2.getD 0 ByteArray.empty).size : Int)
  bif (t2 != (64 : Int)) then
    some false
  else
  Option.bind (f536F k y1.1) fun y3 =>
  bif (y3.2.2 == (0 : Int)) then
    bif (y3.1 == (1 : Int)) then
      bif (decide ((0 : Int) < (y1.1.length : Int))) then
      bif (decide ((0 : Int) < ((y1.1.getD 0 (ByteArray.empty, [])).2.length : Int))) then
      bif (sliceBds (0 : Int) (4 : Int) (((y1.1.getD 0 (ByteArray.empty, [])).2.getD 0 ByteArray.empty).size : Int)) then
      let t4 := (((y1.1.getD 0 (ByteArray.empty, [])).2.getD 0 ByteArray.empty).extract 0 4)
      some (strEq t4 (⟨#[1, 0, 1, 129]⟩ : ByteArray))
      else none
      else none
      else none
    else
    some false
  else
  some false
  else none
  else none
  else none
noncomputable def f513L (k : Nat) : Sums := []
theorem f513LS (k : Nat) : SumsOk P Tryz.f13.ntmps (f513L k) (codeOf Tryz.f13) 1 := SumsOk.nil
theorem f513E (k : Nat) (x : Unit) : evFS tab (f513T k) (f513L k) Tryz.f13.ntmps Tryz.f13.results.toList (codeOf Tryz.f13) (argsV [] x) [.dat .bool] none = f513F k x := by kernel_rfl
theorem f513Ok (k : Nat) (x : Unit) (y : Bool) (h : f513F k x = some y) : FnOk P 13 [] [.dat .bool] x y :=
  evFS_sound tabOk (f513TS k) mixed Tryz.func13 (c := codeOf Tryz.f13) (by kernel_rfl) (f513LS k) ((f513E k x).trans h)
noncomputable def f513A (k : Nat) := entFnB [] [.dat .bool] (f513F k)
theorem f513Ao (k : Nat) : EntOk P 13 (f513A k) := entFnB_ok (f513Ok k)
/-! ## midrange/midrangeref29.FewFormat -/
noncomputable def f548T (k : Nat) : Table := []
theorem f548TS (k : Nat) : Sound P (f548T k) := Sound.nil
theorem f548B : HasBody P 48 := ⟨Tryz.f48, Tryz.func48, by kernel_rfl, by kernel_rfl⟩
noncomputable def f548F (k : Nat) (x : (ByteArray × (List D6))) : Option (Bool) :=
  some (decide ((x.2.length : Int) ≤ (22 : Int)))
noncomputable def f548L (k : Nat) : Sums := []
theorem f548LS (k : Nat) : SumsOk P Tryz.f48.ntmps (f548L k) (codeOf Tryz.f48) 1 := SumsOk.nil
theorem f548E (k : Nat) (x : (ByteArray × (List D6))) : evFS tab (f548T k) (f548L k) Tryz.f48.ntmps Tryz.f48.results.toList (codeOf Tryz.f48) (argsV [.agg Y2] x) [.dat .bool] none = f548F k x := by kernel_rfl
theorem f548Ok (k : Nat) (x : (ByteArray × (List D6))) (y : Bool) (h : f548F k x = some y) : FnOk P 48 [.agg Y2] [.dat .bool] x y :=
  evFS_sound tabOk (f548TS k) mixed Tryz.func48 (c := codeOf Tryz.f48) (by kernel_rfl) (f548LS k) ((f548E k x).trans h)
noncomputable def f548A (k : Nat) := entFnB [.agg Y2] [.dat .bool] (f548F k)
theorem f548Ao (k : Nat) : EntOk P 48 (f548A k) := entFnB_ok (f548Ok k)
/-! ## midrange/midrangeref29.FewTables -/
noncomputable def f514T (k : Nat) : Table := [(48, f548A k)]
theorem f514TS (k : Nat) : Sound P (f514T k) := (Sound.nil).consE f548B (f548Ao k)
theorem f514B : HasBody P 14 := ⟨Tryz.f14, Tryz.func14, by kernel_rfl, by kernel_rfl⟩
noncomputable def f514l0H : Shape := ⟨[(0, .one (.ro Y6)), (3, .one (.int .i64)), (4, .one (.int .i64))], [], 0, []⟩
noncomputable def f514l0X0 : Shape := ⟨[(0, .one (.ro Y6)), (2, .one (.bool)), (3, .one (.int .i64))], [], 0, []⟩
noncomputable def f514l0X1 : Shape := ⟨[(0, .one (.ro Y6)), (3, .one (.int .i64))], [], 0, []⟩
noncomputable def f514l0N : NoteR := ⟨[0, 3, 4], [], []⟩
noncomputable def f514l0M : NoteR := ⟨[0, 2, 3], [], []⟩
noncomputable def f514l0C : Code := firstC (codesAt 7462 (codeOf Tryz.f14) 1)
noncomputable def f514l0s {R : Type} (k : Nat) (rec : D114 → Option R) (k0 : D113 → Option R) (k1 : List D34 × Int × Unit → Option R) (v : D114) : Option R :=
  bif ((decide ((0 : Int) ≤ v.2.1)) && (decide (v.2.1 < (v.1.length : Int)))) then
  let t5 := (v.1.getD (Int.toNat v.2.1) ((ByteArray.empty, ((ByteArray.empty, []), ([], false))), []))
  bif (decide (v.2.2.1 < (t5.2.length : Int))) then
    bif ((decide ((0 : Int) ≤ v.2.1)) && (decide (v.2.1 < (v.1.length : Int)))) then
    let t6 := (v.1.getD (Int.toNat v.2.1) ((ByteArray.empty, ((ByteArray.empty, []), ([], false))), []))
    bif ((decide ((0 : Int) ≤ v.2.2.1)) && (decide (v.2.2.1 < (t6.2.length : Int)))) then
    let t7 := ((t6.2.getD (Int.toNat v.2.2.1) (false, ByteArray.empty)).2.size : Int)
    bif (decide (t7 > (220 : Int))) then
      k0 (v.1, false, v.2.1, ())
    else
    rec (v.1, v.2.1, (IntKind.i64.wrap (v.2.2.1 + (1 : Int))), ())
    else none
    else none
  else
  k1 (v.1, v.2.1, ())
  else none
noncomputable def f514l0 {R : Type} (k : Nat) (k0 : D113 → Option R) (k1 : List D34 × Int × Unit → Option R) (v : D114) : Option R := iterS (fun rec v => f514l0s k rec k0 k1 v) k v
noncomputable def f514l0S (k : Nat) : Sum1 := loopSum f514l0H f514l0N k (fun R rec K v => f514l0s k rec (fun w => K .ret (encSt f514l0X0 w)) (fun w => K (.exit 2) (encSt f514l0X1 w)) v)
theorem f514l0E (k : Nat) (R : Type) (rec : St → Option R) (K : X → St → Option R) (v : f514l0H.Den) : evS tab (f514T k) Tryz.f14.ntmps [] (bodyOf f514l0C) 14924 (bodyK f514l0N f514l0M rec K) (encSt f514l0H v) = f514l0s k (fun v => rec (encSt f514l0H v)) (fun w => K .ret (encSt f514l0X0 w)) (fun w => K (.exit 2) (encSt f514l0X1 w)) v := by kernel_rfl
theorem f514l0I (k : Nat) : SumsOk P Tryz.f14.ntmps [] (bodyOf f514l0C) 14924 := SumsOk.nil
theorem f514l0O (k : Nat) : SumOk P Tryz.f14.ntmps f514l0C (f514l0S k) := (show f514l0C = .loop (bodyOf f514l0C) by kernel_rfl) ▸ sum_loop tabOk (f514TS k) mixed (f514l0I k) (f514l0E k)
noncomputable def f514l1H : Shape := ⟨[(0, .one (.ro Y6)), (3, .one (.int .i64))], [], 0, []⟩
noncomputable def f514l1X0 : Shape := ⟨[(2, .one (.bool))], [], 0, []⟩
noncomputable def f514l1X1 : Shape := ⟨[], [], 0, []⟩
noncomputable def f514l1N : NoteR := ⟨[0, 3], [], []⟩
noncomputable def f514l1M : NoteR := ⟨[2], [], []⟩
noncomputable def f514l1C : Code := firstC (codesAt 58 (codeOf Tryz.f14) 1)
noncomputable def f514l1s {R : Type} (k : Nat) (rec : List D34 × Int × Unit → Option R) (k0 : Bool × Unit → Option R) (k1 : Unit → Option R) (v : List D34 × Int × Unit) : Option R :=
  bif (decide (v.2.1 < (v.1.length : Int))) then
    bif ((decide ((0 : Int) ≤ v.2.1)) && (decide (v.2.1 < (v.1.length : Int)))) then
    let t1 := (v.1.getD (Int.toNat v.2.1) ((ByteArray.empty, ((ByteArray.empty, []), ([], false))), []))
    Option.bind (f548F k (t1.1.2.1.1, t1.1.2.1.2)) fun y2 =>
    bif (!y2) then
      k0 (false, ())
    else
    bif ((decide ((0 : Int) ≤ v.2.1)) && (decide (v.2.1 < (v.1.length : Int)))) then
    let t3 := (v.1.getD (Int.toNat v.2.1) ((ByteArray.empty, ((ByteArray.empty, []), ([], false))), []))
    bif (decide ((t3.1.2.2.1.length : Int) > (6 : Int))) then
      k0 (false, ())
    else
    bif ((decide ((0 : Int) ≤ v.2.1)) && (decide (v.2.1 < (v.1.length : Int)))) then
    let t4 := (v.1.getD (Int.toNat v.2.1) ((ByteArray.empty, ((ByteArray.empty, []), ([], false))), []))
    bif (decide ((t4.2.length : Int) > (62 : Int))) then
      k0 (false, ())
    else
    f514l0 k
      (fun (w8 : D113) =>
        k0 (w8.2.1, ()))
      (fun (w9 : List D34 × Int × Unit) =>
        rec (w9.1, (IntKind.i64.wrap (w9.2.1 + (1 : Int))), ()))
      (v.1, v.2.1, (0 : Int), ())
    else none
    else none
    else none
  else
  k1 (())
noncomputable def f514l1 {R : Type} (k : Nat) (k0 : Bool × Unit → Option R) (k1 : Unit → Option R) (v : List D34 × Int × Unit) : Option R := iterS (fun rec v => f514l1s k rec k0 k1 v) k v
noncomputable def f514l1S (k : Nat) : Sum1 := loopSum f514l1H f514l1N k (fun R rec K v => f514l1s k rec (fun w => K .ret (encSt f514l1X0 w)) (fun w => K (.exit 0) (encSt f514l1X1 w)) v)
theorem f514l1E (k : Nat) (R : Type) (rec : St → Option R) (K : X → St → Option R) (v : f514l1H.Den) : evS tab (f514T k) Tryz.f14.ntmps [(7462, f514l0S k)] (bodyOf f514l1C) 116 (bodyK f514l1N f514l1M rec K) (encSt f514l1H v) = f514l1s k (fun v => rec (encSt f514l1H v)) (fun w => K .ret (encSt f514l1X0 w)) (fun w => K (.exit 0) (encSt f514l1X1 w)) v := by kernel_rfl
theorem f514l1I (k : Nat) : SumsOk P Tryz.f14.ntmps [(7462, f514l0S k)] (bodyOf f514l1C) 116 := (SumsOk.nil).cons (c := f514l0C) (by kernel_rfl) (f514l0O k)
theorem f514l1O (k : Nat) : SumOk P Tryz.f14.ntmps f514l1C (f514l1S k) := (show f514l1C = .loop (bodyOf f514l1C) by kernel_rfl) ▸ sum_loop tabOk (f514TS k) mixed (f514l1I k) (f514l1E k)
noncomputable def f514F (k : Nat) (x : (List D34)) : Option (Bool) :=
  bif (decide ((x.length : Int) > (10 : Int))) then
    some false
  else
  f514l1 k
    (fun (w10 : Bool × Unit) =>
      some w10.1)
    (fun (w11 : Unit) =>
      some true)
    (x, (0 : Int), ())
noncomputable def f514L (k : Nat) : Sums := [(7462, f514l0S k), (58, f514l1S k)]
theorem f514LS (k : Nat) : SumsOk P Tryz.f14.ntmps (f514L k) (codeOf Tryz.f14) 1 := ((SumsOk.nil).cons (c := f514l1C) (by kernel_rfl) (f514l1O k)).cons (c := f514l0C) (by kernel_rfl) (f514l0O k)
theorem f514E (k : Nat) (x : (List D34)) : evFS tab (f514T k) (f514L k) Tryz.f14.ntmps Tryz.f14.results.toList (codeOf Tryz.f14) (argsV [.dat (.slice Y6)] x) [.dat .bool] none = f514F k x := by kernel_rfl
theorem f514Ok (k : Nat) (x : (List D34)) (y : Bool) (h : f514F k x = some y) : FnOk P 14 [.dat (.slice Y6)] [.dat .bool] x y :=
  evFS_sound tabOk (f514TS k) mixed Tryz.func14 (c := codeOf Tryz.f14) (by kernel_rfl) (f514LS k) ((f514E k x).trans h)
noncomputable def f514A (k : Nat) := entFnB [.dat (.slice Y6)] [.dat .bool] (f514F k)
theorem f514Ao (k : Nat) : EntOk P 14 (f514A k) := entFnB_ok (f514Ok k)
/-! ## midrange/midrangebase.OwnFormat -/
noncomputable def f571T (k : Nat) : Table := []
theorem f571TS (k : Nat) : Sound P (f571T k) := Sound.nil
theorem f571B : HasBody P 71 := ⟨Tryz.f71, Tryz.func71, by kernel_rfl, by kernel_rfl⟩
noncomputable def f571F (k : Nat) (x : (ByteArray × (List D6))) : Option ((ByteArray × (List D6))) :=
  bif (decide ((([] : List D6).length + x.2.length) * 40 ≤ 140737488355328) && decide (([] : List D6).length + x.2.length ≤ 9223372036854775807)) then
  some (x.1, ([] ++ x.2))
  else none
noncomputable def f571L (k : Nat) : Sums := []
theorem f571LS (k : Nat) : SumsOk P Tryz.f71.ntmps (f571L k) (codeOf Tryz.f71) 1 := SumsOk.nil
theorem f571E (k : Nat) (x : (ByteArray × (List D6))) : evFS tab (f571T k) (f571L k) Tryz.f71.ntmps Tryz.f71.results.toList (codeOf Tryz.f71) (argsV [.agg Y2] x) [.agg Y2] none = f571F k x := by kernel_rfl
theorem f571Ok (k : Nat) (x : (ByteArray × (List D6))) (y : (ByteArray × (List D6))) (h : f571F k x = some y) : FnOk P 71 [.agg Y2] [.agg Y2] x y :=
  evFS_sound tabOk (f571TS k) mixed Tryz.func71 (c := codeOf Tryz.f71) (by kernel_rfl) (f571LS k) ((f571E k x).trans h)
noncomputable def f571A (k : Nat) := entFn [.agg Y2] [.agg Y2] (f571F k)
theorem f571Ao (k : Nat) : EntOk P 71 (f571A k) := entFn_ok (f571Ok k)
/-! ## midrange/midrangebase.OwnFile -/
noncomputable def f526T (k : Nat) : Table := [(71, f571A k)]
theorem f526TS (k : Nat) : Sound P (f526T k) := (Sound.nil).consE f571B (f571Ao k)
theorem f526B : HasBody P 26 := ⟨Tryz.f26, Tryz.func26, by kernel_rfl, by kernel_rfl⟩
noncomputable def f526F (k : Nat) (x : (ByteArray × D12)) : Option ((ByteArray × D12)) :=
  Option.bind (f571F k (x.2.1.1, x.2.1.2)) fun y1 =>
  bif (decide ((([] : List (ByteArray × Bool)).length + x.2.2.1.length) * 24 ≤ 140737488355328) && decide (([] : List (ByteArray × Bool)).length + x.2.2.1.length ≤ 9223372036854775807)) then
  some (x.1, ((y1.1, y1.2), (([] ++ x.2.2.1), x.2.2.2)))
  else none
noncomputable def f526L (k : Nat) : Sums := []
theorem f526LS (k : Nat) : SumsOk P Tryz.f26.ntmps (f526L k) (codeOf Tryz.f26) 1 := SumsOk.nil
theorem f526E (k : Nat) (x : (ByteArray × D12)) : evFS tab (f526T k) (f526L k) Tryz.f26.ntmps Tryz.f26.results.toList (codeOf Tryz.f26) (argsV [.agg Y4] x) [.agg Y4] none = f526F k x := by kernel_rfl
theorem f526Ok (k : Nat) (x : (ByteArray × D12)) (y : (ByteArray × D12)) (h : f526F k x = some y) : FnOk P 26 [.agg Y4] [.agg Y4] x y :=
  evFS_sound tabOk (f526TS k) mixed Tryz.func26 (c := codeOf Tryz.f26) (by kernel_rfl) (f526LS k) ((f526E k x).trans h)
noncomputable def f526A (k : Nat) := entFn [.agg Y4] [.agg Y4] (f526F k)
theorem f526Ao (k : Nat) : EntOk P 26 (f526A k) := entFn_ok (f526Ok k)
/-! ## midrange/save.level -/
noncomputable def f570T (k : Nat) : Table := [(54, entG f554v0I f554v0U (f554v0F k)), (62, f562A k)]
theorem f570TS (k : Nat) : Sound P (f570T k) := ((Sound.nil).consE f562B (f562Ao k)).consE f554B (entG_ok (f554v0Ok k))
theorem f570B : HasBody P 70 := ⟨Tryz.f70, Tryz.func70, by kernel_rfl, by kernel_rfl⟩
noncomputable def f570F (k : Nat) (x : (ByteArray × D12)) : Option (Int) :=
  Option.bind (f554v0F k (x.1, x.2.1.1, x.2.1.2, x.2.2.1, x.2.2.2, [], ())) fun y1 =>
  Option.bind (f562F k (strOfNums y1.1)) fun y2 =>
  some y2
noncomputable def f570L (k : Nat) : Sums := []
theorem f570LS (k : Nat) : SumsOk P Tryz.f70.ntmps (f570L k) (codeOf Tryz.f70) 1 := SumsOk.nil
theorem f570E (k : Nat) (x : (ByteArray × D12)) : evFS tab (f570T k) (f570L k) Tryz.f70.ntmps Tryz.f70.results.toList (codeOf Tryz.f70) (argsV [.agg Y4] x) [.dat (.int .i64)] none = f570F k x := by kernel_rfl
theorem f570Ok (k : Nat) (x : (ByteArray × D12)) (y : Int) (h : f570F k x = some y) : FnOk P 70 [.agg Y4] [.dat (.int .i64)] x y :=
  evFS_sound tabOk (f570TS k) mixed Tryz.func70 (c := codeOf Tryz.f70) (by kernel_rfl) (f570LS k) ((f570E k x).trans h)
noncomputable def f570A (k : Nat) := entFnB [.agg Y4] [.dat (.int .i64)] (f570F k)
theorem f570Ao (k : Nat) : EntOk P 70 (f570A k) := entFnB_ok (f570Ok k)
/-! ## midrange/save.LevelOf -/
noncomputable def f525T (k : Nat) : Table := [(69, f569A k), (70, f570A k)]
theorem f525TS (k : Nat) : Sound P (f525T k) := ((Sound.nil).consE f570B (f570Ao k)).consE f569B (f569Ao k)
theorem f525B : HasBody P 25 := ⟨Tryz.f25, Tryz.func25, by kernel_rfl, by kernel_rfl⟩
noncomputable def f525F (k : Nat) (x : (ByteArray × D12)) : Option (Int × Int) :=
  Option.bind (f569F k (x.1, ((x.2.1.1, x.2.1.2), (x.2.2.1, x.2.2.2)))) fun y1 =>
  bif (y1.2 != (0 : Int)) then
    some ((0 : Int), y1.2)
  else
  Option.bind (f570F k (x.1, ((x.2.1.1, x.2.1.2), (x.2.2.1, x.2.2.2)))) fun y2 =>
  some (y2, (0 : Int))
noncomputable def f525L (k : Nat) : Sums := []
theorem f525LS (k : Nat) : SumsOk P Tryz.f25.ntmps (f525L k) (codeOf Tryz.f25) 1 := SumsOk.nil
theorem f525E (k : Nat) (x : (ByteArray × D12)) : evFS tab (f525T k) (f525L k) Tryz.f25.ntmps Tryz.f25.results.toList (codeOf Tryz.f25) (argsV [.agg Y4] x) [.dat (.int .i64), .dat (.int .i64)] none = f525F k x := by kernel_rfl
theorem f525Ok (k : Nat) (x : (ByteArray × D12)) (y : Int × Int) (h : f525F k x = some y) : FnOk P 25 [.agg Y4] [.dat (.int .i64), .dat (.int .i64)] x y :=
  evFS_sound tabOk (f525TS k) mixed Tryz.func25 (c := codeOf Tryz.f25) (by kernel_rfl) (f525LS k) ((f525E k x).trans h)
noncomputable def f525A (k : Nat) := entFnB [.agg Y4] [.dat (.int .i64), .dat (.int .i64)] (f525F k)
theorem f525Ao (k : Nat) : EntOk P 25 (f525A k) := entFnB_ok (f525Ok k)
/-! ## midrange/midrangeref34.Level -/
noncomputable def f528T (k : Nat) : Table := [(59, f559A k), (73, f573A k)]
theorem f528TS (k : Nat) : Sound P (f528T k) := ((Sound.nil).consE f573B (f573Ao k)).consE f559B (f559Ao k)
theorem f528B : HasBody P 28 := ⟨Tryz.f28, Tryz.func28, by kernel_rfl, by kernel_rfl⟩
noncomputable def f528F (k : Nat) (x : (ByteArray × D12)) : Option (Int) :=
  Option.bind (f559F k (x.1, ((x.2.1.1, x.2.1.2), (x.2.2.1, x.2.2.2)))) fun y1 =>
  Option.bind (f573F k y1) fun y2 =>
  some y2
noncomputable def f528L (k : Nat) : Sums := []
theorem f528LS (k : Nat) : SumsOk P Tryz.f28.ntmps (f528L k) (codeOf Tryz.f28) 1 := SumsOk.nil
theorem f528E (k : Nat) (x : (ByteArray × D12)) : evFS tab (f528T k) (f528L k) Tryz.f28.ntmps Tryz.f28.results.toList (codeOf Tryz.f28) (argsV [.agg Y4] x) [.dat (.int .i64)] none = f528F k x := by kernel_rfl
theorem f528Ok (k : Nat) (x : (ByteArray × D12)) (y : Int) (h : f528F k x = some y) : FnOk P 28 [.agg Y4] [.dat (.int .i64)] x y :=
  evFS_sound tabOk (f528TS k) mixed Tryz.func28 (c := codeOf Tryz.f28) (by kernel_rfl) (f528LS k) ((f528E k x).trans h)
noncomputable def f528A (k : Nat) := entFnB [.agg Y4] [.dat (.int .i64)] (f528F k)
theorem f528Ao (k : Nat) : EntOk P 28 (f528A k) := entFnB_ok (f528Ok k)
/-! ## midrange/midrangelaw34.SaveLevels -/
noncomputable def f505T (k : Nat) : Table := [(13, f513A k), (14, f514A k), (25, f525A k), (26, f526A k), (27, f527A k), (28, f528A k)]
theorem f505TS (k : Nat) : Sound P (f505T k) := ((((((Sound.nil).consE f528B (f528Ao k)).consE f527B (f527Ao k)).consE f526B (f526Ao k)).consE f525B (f525Ao k)).consE f514B (f514Ao k)).consE f513B (f513Ao k)
theorem f505B : HasBody P 5 := ⟨Tryz.f5, Tryz.func5, by kernel_rfl, by kernel_rfl⟩
noncomputable def f505F (k : Nat) (x : (ByteArray × D12)) : Option (Bool) :=
  Option.bind (f513F k ()) fun y1 =>
  bif (!y1) then
    some false
  else
  Option.bind (f514F k [((x.1, ((x.2.1.1, x.2.1.2), (x.2.2.1, x.2.2.2))), [])]) fun y2 =>
  bif (!y2) then
    some true
  else
  Option.bind (f526F k (x.1, ((x.2.1.1, x.2.1.2), (x.2.2.1, x.2.2.2)))) fun y3 =>
  Option.bind (f525F k (y3.1, ((y3.2.1.1, y3.2.1.2), (y3.2.2.1, y3.2.2.2)))) fun y4 =>
  Option.bind (f527F k (x.1, ((x.2.1.1, x.2.1.2), (x.2.2.1, x.2.2.2)))) fun y5 =>
  bif (y5 != (0 : Int)) then
    bif (y4.2 == y5) then
      some (y4.1 == (0 : Int))
    else
    some false
  else
  bif (y4.2 == (0 : Int)) then
    Option.bind (f528F k (x.1, ((x.2.1.1, x.2.1.2), (x.2.2.1, x.2.2.2)))) fun y6 =>
    some (y4.1 == y6)
  else
  some false
noncomputable def f505L (k : Nat) : Sums := []
theorem f505LS (k : Nat) : SumsOk P Tryz.f5.ntmps (f505L k) (codeOf Tryz.f5) 1 := SumsOk.nil
theorem f505E (k : Nat) (x : (ByteArray × D12)) : evFS tab (f505T k) (f505L k) Tryz.f5.ntmps Tryz.f5.results.toList (codeOf Tryz.f5) (argsV [.agg Y4] x) [.dat .bool] none = f505F k x := by kernel_rfl
theorem f505Ok (k : Nat) (x : (ByteArray × D12)) (y : Bool) (h : f505F k x = some y) : FnOk P 5 [.agg Y4] [.dat .bool] x y :=
  evFS_sound tabOk (f505TS k) mixed Tryz.func5 (c := codeOf Tryz.f5) (by kernel_rfl) (f505LS k) ((f505E k x).trans h)
noncomputable def f505A (k : Nat) := entFnB [.agg Y4] [.dat .bool] (f505F k)
theorem f505Ao (k : Nat) : EntOk P 5 (f505A k) := entFnB_ok (f505Ok k)
/-! ## midrange/midrangebase.OwnTable -/
noncomputable def f551T (k : Nat) : Table := [(26, f526A k)]
theorem f551TS (k : Nat) : Sound P (f551T k) := (Sound.nil).consE f526B (f526Ao k)
theorem f551B : HasBody P 51 := ⟨Tryz.f51, Tryz.func51, by kernel_rfl, by kernel_rfl⟩
noncomputable def f551F (k : Nat) (x : D34) : Option (D34) :=
  Option.bind (f526F k (x.1.1, ((x.1.2.1.1, x.1.2.1.2), (x.1.2.2.1, x.1.2.2.2)))) fun y1 =>
  bif (decide ((([] : List (Bool × ByteArray)).length + x.2.length) * 24 ≤ 140737488355328) && decide (([] : List (Bool × ByteArray)).length + x.2.length ≤ 9223372036854775807)) then
  some ((y1.1, ((y1.2.1.1, y1.2.1.2), (y1.2.2.1, y1.2.2.2))), ([] ++ x.2))
  else none
noncomputable def f551L (k : Nat) : Sums := []
theorem f551LS (k : Nat) : SumsOk P Tryz.f51.ntmps (f551L k) (codeOf Tryz.f51) 1 := SumsOk.nil
theorem f551E (k : Nat) (x : D34) : evFS tab (f551T k) (f551L k) Tryz.f51.ntmps Tryz.f51.results.toList (codeOf Tryz.f51) (argsV [.agg Y6] x) [.agg Y6] none = f551F k x := by kernel_rfl
theorem f551Ok (k : Nat) (x : D34) (y : D34) (h : f551F k x = some y) : FnOk P 51 [.agg Y6] [.agg Y6] x y :=
  evFS_sound tabOk (f551TS k) mixed Tryz.func51 (c := codeOf Tryz.f51) (by kernel_rfl) (f551LS k) ((f551E k x).trans h)
noncomputable def f551A (k : Nat) := entFn [.agg Y6] [.agg Y6] (f551F k)
theorem f551Ao (k : Nat) : EntOk P 51 (f551A k) := entFn_ok (f551Ok k)
/-! ## midrange/midrangebase.OwnTables -/
noncomputable def f516T (k : Nat) : Table := [(51, f551A k)]
theorem f516TS (k : Nat) : Sound P (f516T k) := (Sound.nil).consE f551B (f551Ao k)
theorem f516B : HasBody P 16 := ⟨Tryz.f16, Tryz.func16, by kernel_rfl, by kernel_rfl⟩
noncomputable def f516l0H : Shape := ⟨[(0, .one (.ro Y6)), (3, .one (.own 0)), (4, .one (.int .i64))], [(0, .row 52 Y6 .plain)], 1, []⟩
noncomputable def f516l0X0 : Shape := ⟨[(3, .one (.own 0))], [(0, .row 52 Y6 .plain)], 1, []⟩
noncomputable def f516l0N : NoteR := ⟨[0, 3, 4], [(3, 52, Y6)], []⟩
noncomputable def f516l0M : NoteR := ⟨[2, 3], [], []⟩
noncomputable def f516l0C : Code := firstC (codesAt 58 (codeOf Tryz.f16) 1)
noncomputable def f516l0s {R : Type} (k : Nat) (rec : D115 → Option R) (k0 : List D34 × Unit → Option R) (v : D115) : Option R :=
  bif (decide (v.2.1 < (v.1.length : Int))) then
    bif ((decide ((0 : Int) ≤ v.2.1)) && (decide (v.2.1 < (v.1.length : Int)))) then
    let t1 := (v.1.getD (Int.toNat v.2.1) ((ByteArray.empty, ((ByteArray.empty, []), ([], false))), []))
    Option.bind (f551F k ((t1.1.1, ((t1.1.2.1.1, t1.1.2.1.2), (t1.1.2.2.1, t1.1.2.2.2))), t1.2)) fun y2 =>
    let t3 := [((y2.1.1, ((y2.1.2.1.1, y2.1.2.1.2), (y2.1.2.2.1, y2.1.2.2.2))), y2.2)]
    bif (decide ((v.2.2.1.length + t3.length) * 112 ≤ 140737488355328) && decide (v.2.2.1.length + t3.length ≤ 9223372036854775807)) then
    rec (v.1, (IntKind.i64.wrap (v.2.1 + (1 : Int))), (v.2.2.1 ++ t3), ())
    else none
    else none
  else
  k0 (v.2.2.1, ())
noncomputable def f516l0 {R : Type} (k : Nat) (k0 : List D34 × Unit → Option R) (v : D115) : Option R := iterS (fun rec v => f516l0s k rec k0 v) k v
noncomputable def f516l0S (k : Nat) : Sum1 := loopSum f516l0H f516l0N k (fun R rec K v => f516l0s k rec (fun w => K (.exit 0) (encSt f516l0X0 w)) v)
theorem f516l0E (k : Nat) (R : Type) (rec : St → Option R) (K : X → St → Option R) (v : f516l0H.Den) : evS tab (f516T k) Tryz.f16.ntmps [] (bodyOf f516l0C) 116 (bodyK f516l0N f516l0M rec K) (encSt f516l0H v) = f516l0s k (fun v => rec (encSt f516l0H v)) (fun w => K (.exit 0) (encSt f516l0X0 w)) v := by kernel_rfl
theorem f516l0I (k : Nat) : SumsOk P Tryz.f16.ntmps [] (bodyOf f516l0C) 116 := SumsOk.nil
theorem f516l0O (k : Nat) : SumOk P Tryz.f16.ntmps f516l0C (f516l0S k) := (show f516l0C = .loop (bodyOf f516l0C) by kernel_rfl) ▸ sum_loop tabOk (f516TS k) mixed (f516l0I k) (f516l0E k)
noncomputable def f516F (k : Nat) (x : (List D34)) : Option (List D34) :=
  f516l0 k
    (fun (w4 : List D34 × Unit) =>
      some w4.1)
    (x, (0 : Int), [], ())
noncomputable def f516L (k : Nat) : Sums := [(58, f516l0S k)]
theorem f516LS (k : Nat) : SumsOk P Tryz.f16.ntmps (f516L k) (codeOf Tryz.f16) 1 := (SumsOk.nil).cons (c := f516l0C) (by kernel_rfl) (f516l0O k)
theorem f516E (k : Nat) (x : (List D34)) : evFS tab (f516T k) (f516L k) Tryz.f16.ntmps Tryz.f16.results.toList (codeOf Tryz.f16) (argsV [.dat (.slice Y6)] x) [.own 52 Y6] none = f516F k x := by kernel_rfl
theorem f516Ok (k : Nat) (x : (List D34)) (y : List D34) (h : f516F k x = some y) : FnOk P 16 [.dat (.slice Y6)] [.own 52 Y6] x y :=
  evFS_sound tabOk (f516TS k) mixed Tryz.func16 (c := codeOf Tryz.f16) (by kernel_rfl) (f516LS k) ((f516E k x).trans h)
noncomputable def f516A (k : Nat) := entFn [.dat (.slice Y6)] [.own 52 Y6] (f516F k)
theorem f516Ao (k : Nat) : EntOk P 16 (f516A k) := entFn_ok (f516Ok k)
/-! ## midrange/midrangelaw34.SaveStreams -/
noncomputable def f503T (k : Nat) : Table := [(13, f513A k), (14, f514A k), (15, f515A k), (16, f516A k), (17, f517A k), (18, f518A k), (19, f519A k)]
theorem f503TS (k : Nat) : Sound P (f503T k) := (((((((Sound.nil).consE f519B (f519Ao k)).consE f518B (f518Ao k)).consE f517B (f517Ao k)).consE f516B (f516Ao k)).consE f515B (f515Ao k)).consE f514B (f514Ao k)).consE f513B (f513Ao k)
theorem f503B : HasBody P 3 := ⟨Tryz.f3, Tryz.func3, by kernel_rfl, by kernel_rfl⟩
noncomputable def f503F (k : Nat) (x : (List D34)) : Option (Bool) :=
  Option.bind (f513F k ()) fun y1 =>
  bif (!y1) then
    some false
  else
  Option.bind (f514F k x) fun y2 =>
  bif (!y2) then
    some true
  else
  Option.bind (f516F k x) fun y3 =>
  Option.bind (f515F k y3) fun y4 =>
  Option.bind (f516F k x) fun y5 =>
  Option.bind (f517F k y5) fun y6 =>
  Option.bind (f518F k x) fun y7 =>
  bif (y7.2 != (0 : Int)) then
    bif (y4.2 == y7.2) then
      bif (y4.1 == y7.1) then
        bif (y6.2 == y7.2) then
          some (strEq y6.1 ByteArray.empty)
        else
        some false
      else
      some false
    else
    some false
  else
  bif (y4.2 == (0 : Int)) then
    bif (y4.1 == (0 : Int)) then
      bif (y6.2 == (0 : Int)) then
        Option.bind (f519F k x) fun y8 =>
        some (strEq y6.1 y8)
      else
      some false
    else
    some false
  else
  some false
noncomputable def f503L (k : Nat) : Sums := []
theorem f503LS (k : Nat) : SumsOk P Tryz.f3.ntmps (f503L k) (codeOf Tryz.f3) 1 := SumsOk.nil
theorem f503E (k : Nat) (x : (List D34)) : evFS tab (f503T k) (f503L k) Tryz.f3.ntmps Tryz.f3.results.toList (codeOf Tryz.f3) (argsV [.dat (.slice Y6)] x) [.dat .bool] none = f503F k x := by kernel_rfl
theorem f503Ok (k : Nat) (x : (List D34)) (y : Bool) (h : f503F k x = some y) : FnOk P 3 [.dat (.slice Y6)] [.dat .bool] x y :=
  evFS_sound tabOk (f503TS k) mixed Tryz.func3 (c := codeOf Tryz.f3) (by kernel_rfl) (f503LS k) ((f503E k x).trans h)
noncomputable def f503A (k : Nat) := entFnB [.dat (.slice Y6)] [.dat .bool] (f503F k)
theorem f503Ao (k : Nat) : EntOk P 3 (f503A k) := entFnB_ok (f503Ok k)
end Go.Proofs.YtobgkcamonlnkaaGreatDoor
