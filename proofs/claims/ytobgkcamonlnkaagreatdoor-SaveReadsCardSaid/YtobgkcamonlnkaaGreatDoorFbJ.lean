/- What functions of the program compute: each as a plain Lean function, and that the code comes to it. Printed by gen.py. -/
import Derived.Test.YtobgkcamonlnkaaGreatDoorFaJ
import Derived.Test.YtobgkcamonlnkaaGreatDoorProg
/-! Printed by gen.py: what functions compute. -/
set_option linter.unusedVariables false
set_option maxRecDepth 100000
namespace Go.Proofs.YtobgkcamonlnkaaGreatDoor
open Go.Ab
/-! ## midrange/midrangebase.Within -/
noncomputable def f48T (k : Nat) : Table := []
theorem f48TS (k : Nat) : Sound P (f48T k) := Sound.nil
theorem f48B : HasBody P 64 := ⟨Tryz.f64, Tryz.func64, by kernel_rfl, by kernel_rfl⟩
noncomputable def f48F (k : Nat) (x : Int × Int × Int) : Option (Bool) :=
  bif (decide (x.2.1 ≤ x.1)) then
    some (decide (x.1 ≤ x.2.2))
  else
  some false
noncomputable def f48L (k : Nat) : Sums := []
theorem f48LS (k : Nat) : SumsOk P Tryz.f64.ntmps (f48L k) (codeOf Tryz.f64) 1 := SumsOk.nil
theorem f48E (k : Nat) (x : Int × Int × Int) : evFS tab (f48T k) (f48L k) Tryz.f64.ntmps Tryz.f64.results.toList (codeOf Tryz.f64) (argsV [.dat (.int .i64), .dat (.int .i64), .dat (.int .i64)] x) [.dat .bool] none = f48F k x := by kernel_rfl
theorem f48Ok (k : Nat) (x : Int × Int × Int) (y : Bool) (h : f48F k x = some y) : FnOk P 64 [.dat (.int .i64), .dat (.int .i64), .dat (.int .i64)] [.dat .bool] x y :=
  evFS_sound tabOk (f48TS k) mixed Tryz.func64 (c := codeOf Tryz.f64) (by kernel_rfl) (f48LS k) ((f48E k x).trans h)
noncomputable def f48A (k : Nat) := entFnB [.dat (.int .i64), .dat (.int .i64), .dat (.int .i64)] [.dat .bool] (f48F k)
theorem f48Ao (k : Nat) : EntOk P 64 (f48A k) := entFnB_ok (f48Ok k)
/-! ## midrange/midrangebase.IsUpper -/
noncomputable def f637T (k : Nat) : Table := []
theorem f637TS (k : Nat) : Sound P (f637T k) := Sound.nil
theorem f637B : HasBody P 137 := ⟨Tryz.f137, Tryz.func137, by kernel_rfl, by kernel_rfl⟩
noncomputable def f637F (k : Nat) (x : Int) : Option (Bool) :=
  bif (decide ((65 : Int) ≤ x)) then
    some (decide (x ≤ (90 : Int)))
  else
  some false
noncomputable def f637L (k : Nat) : Sums := []
theorem f637LS (k : Nat) : SumsOk P Tryz.f137.ntmps (f637L k) (codeOf Tryz.f137) 1 := SumsOk.nil
theorem f637E (k : Nat) (x : Int) : evFS tab (f637T k) (f637L k) Tryz.f137.ntmps Tryz.f137.results.toList (codeOf Tryz.f137) (argsV [.dat (.int .u8)] x) [.dat .bool] none = f637F k x := by kernel_rfl
theorem f637Ok (k : Nat) (x : Int) (y : Bool) (h : f637F k x = some y) : FnOk P 137 [.dat (.int .u8)] [.dat .bool] x y :=
  evFS_sound tabOk (f637TS k) mixed Tryz.func137 (c := codeOf Tryz.f137) (by kernel_rfl) (f637LS k) ((f637E k x).trans h)
noncomputable def f637A (k : Nat) := entFnB [.dat (.int .u8)] [.dat .bool] (f637F k)
theorem f637Ao (k : Nat) : EntOk P 137 (f637A k) := entFnB_ok (f637Ok k)
/-! ## midrange/midrangebase.IsDigit -/
noncomputable def f638T (k : Nat) : Table := []
theorem f638TS (k : Nat) : Sound P (f638T k) := Sound.nil
theorem f638B : HasBody P 138 := ⟨Tryz.f138, Tryz.func138, by kernel_rfl, by kernel_rfl⟩
noncomputable def f638F (k : Nat) (x : Int) : Option (Bool) :=
  bif (decide ((48 : Int) ≤ x)) then
    some (decide (x ≤ (57 : Int)))
  else
  some false
noncomputable def f638L (k : Nat) : Sums := []
theorem f638LS (k : Nat) : SumsOk P Tryz.f138.ntmps (f638L k) (codeOf Tryz.f138) 1 := SumsOk.nil
theorem f638E (k : Nat) (x : Int) : evFS tab (f638T k) (f638L k) Tryz.f138.ntmps Tryz.f138.results.toList (codeOf Tryz.f138) (argsV [.dat (.int .u8)] x) [.dat .bool] none = f638F k x := by kernel_rfl
theorem f638Ok (k : Nat) (x : Int) (y : Bool) (h : f638F k x = some y) : FnOk P 138 [.dat (.int .u8)] [.dat .bool] x y :=
  evFS_sound tabOk (f638TS k) mixed Tryz.func138 (c := codeOf Tryz.f138) (by kernel_rfl) (f638LS k) ((f638E k x).trans h)
noncomputable def f638A (k : Nat) := entFnB [.dat (.int .u8)] [.dat .bool] (f638F k)
theorem f638Ao (k : Nat) : EntOk P 138 (f638A k) := entFnB_ok (f638Ok k)
/-! ## midrange/midrangebase.IsName -/
noncomputable def f603T (k : Nat) : Table := [(64, f48A k), (137, f637A k), (138, f638A k)]
theorem f603TS (k : Nat) : Sound P (f603T k) := (((Sound.nil).consE f638B (f638Ao k)).consE f637B (f637Ao k)).consE f48B (f48Ao k)
theorem f603B : HasBody P 103 := ⟨Tryz.f103, Tryz.func103, by kernel_rfl, by kernel_rfl⟩
noncomputable def f603p0H : Shape := ⟨[(0, .one (.str)), (3, .one (.int .i64))], [], 0, []⟩
noncomputable def f603p0X0 : Shape := ⟨[(0, .one (.str)), (3, .one (.int .i64))], [], 0, []⟩
noncomputable def f603p0X1 : Shape := ⟨[(0, .one (.str)), (2, .one (.bool)), (3, .one (.int .i64))], [], 0, []⟩
noncomputable def f603p0N : NoteR := ⟨[0, 3], [], []⟩
noncomputable def f603p0M : NoteR := ⟨[0, 2, 3], [], []⟩
noncomputable def f603p0C : Code := firstC (codesAt 466 (codeOf Tryz.f103) 1)
noncomputable def f603p0 {R : Type} (k : Nat) (k0 : ByteArray × Int × Unit → Option R) (k1 : D57 → Option R) (v : ByteArray × Int × Unit) : Option R :=
  bif ((decide ((0 : Int) ≤ v.2.1)) && (decide (v.2.1 < (v.1.size : Int)))) then
  Option.bind (f637F k (bt v.1 v.2.1)) fun y2 =>
  bif y2 then
    k0 (v.1, v.2.1, ())
  else
  bif ((bt v.1 v.2.1) == (36 : Int)) then
    k0 (v.1, v.2.1, ())
  else
  bif ((bt v.1 v.2.1) == (35 : Int)) then
    k0 (v.1, v.2.1, ())
  else
  bif (!((bt v.1 v.2.1) == (64 : Int))) then
    bif (v.2.1 == (0 : Int)) then
      k1 (v.1, false, v.2.1, ())
    else
    Option.bind (f638F k (bt v.1 v.2.1)) fun y3 =>
    bif (!y3) then
      bif ((bt v.1 v.2.1) != (95 : Int)) then
        bif ((bt v.1 v.2.1) != (46 : Int)) then
          k1 (v.1, false, v.2.1, ())
        else
        k0 (v.1, v.2.1, ())
      else
      k0 (v.1, v.2.1, ())
    else
    k0 (v.1, v.2.1, ())
  else
  k0 (v.1, v.2.1, ())
  else none
noncomputable def f603p0S (k : Nat) : Sum1 := partSum f603p0H f603p0N (fun R K v => f603p0 k (fun w => K .normal (encSt f603p0X0 w)) (fun w => K .ret (encSt f603p0X1 w)) v)
theorem f603p0E (k : Nat) (R : Type) (K : X → St → Option R) (v : f603p0H.Den) : evS tab (f603T k) Tryz.f103.ntmps [] f603p0C 466 (partK f603p0M K) (encSt f603p0H v) = f603p0 k (fun w => K .normal (encSt f603p0X0 w)) (fun w => K .ret (encSt f603p0X1 w)) v := by kernel_rfl
theorem f603p0I (k : Nat) : SumsOk P Tryz.f103.ntmps [] f603p0C 466 := SumsOk.nil
theorem f603p0O (k : Nat) : SumOk P Tryz.f103.ntmps f603p0C (f603p0S k) := sum_part tabOk (f603TS k) mixed (f603p0I k) (f603p0E k)
noncomputable def f603l1H : Shape := ⟨[(0, .one (.str)), (3, .one (.int .i64))], [], 0, []⟩
noncomputable def f603l1X0 : Shape := ⟨[(2, .one (.bool))], [], 0, []⟩
noncomputable def f603l1X1 : Shape := ⟨[], [], 0, []⟩
noncomputable def f603l1N : NoteR := ⟨[0, 3], [], []⟩
noncomputable def f603l1M : NoteR := ⟨[2], [], []⟩
noncomputable def f603l1C : Code := firstC (codesAt 58 (codeOf Tryz.f103) 1)
noncomputable def f603l1s {R : Type} (k : Nat) (rec : ByteArray × Int × Unit → Option R) (k0 : Bool × Unit → Option R) (k1 : Unit → Option R) (v : ByteArray × Int × Unit) : Option R :=
  bif (decide (v.2.1 < (v.1.size : Int))) then
    f603p0 k
      (fun (w4 : ByteArray × Int × Unit) =>
        rec (w4.1, (IntKind.i64.wrap (w4.2.1 + (1 : Int))), ()))
      (fun (w5 : D57) =>
        k0 (w5.2.1, ()))
      (v.1, v.2.1, ())
  else
  k1 (())
noncomputable def f603l1 {R : Type} (k : Nat) (k0 : Bool × Unit → Option R) (k1 : Unit → Option R) (v : ByteArray × Int × Unit) : Option R := iterS (fun rec v => f603l1s k rec k0 k1 v) k v
noncomputable def f603l1S (k : Nat) : Sum1 := loopSum f603l1H f603l1N k (fun R rec K v => f603l1s k rec (fun w => K .ret (encSt f603l1X0 w)) (fun w => K (.exit 0) (encSt f603l1X1 w)) v)
theorem f603l1E (k : Nat) (R : Type) (rec : St → Option R) (K : X → St → Option R) (v : f603l1H.Den) : evS tab (f603T k) Tryz.f103.ntmps [(466, f603p0S k)] (bodyOf f603l1C) 116 (bodyK f603l1N f603l1M rec K) (encSt f603l1H v) = f603l1s k (fun v => rec (encSt f603l1H v)) (fun w => K .ret (encSt f603l1X0 w)) (fun w => K (.exit 0) (encSt f603l1X1 w)) v := by kernel_rfl
theorem f603l1I (k : Nat) : SumsOk P Tryz.f103.ntmps [(466, f603p0S k)] (bodyOf f603l1C) 116 := (SumsOk.nil).cons (c := f603p0C) (by kernel_rfl) (f603p0O k)
theorem f603l1O (k : Nat) : SumOk P Tryz.f103.ntmps f603l1C (f603l1S k) := (show f603l1C = .loop (bodyOf f603l1C) by kernel_rfl) ▸ sum_loop tabOk (f603TS k) mixed (f603l1I k) (f603l1E k)
noncomputable def f603F (k : Nat) (x : ByteArray) : Option (Bool) :=
  Option.bind (f48F k ((x.size : Int), (1 : Int), (10 : Int))) fun y1 =>
  bif (!y1) then
    some false
  else
  f603l1 k
    (fun (w6 : Bool × Unit) =>
      some w6.1)
    (fun (w7 : Unit) =>
      some true)
    (x, (0 : Int), ())
noncomputable def f603L (k : Nat) : Sums := [(466, f603p0S k), (58, f603l1S k)]
theorem f603LS (k : Nat) : SumsOk P Tryz.f103.ntmps (f603L k) (codeOf Tryz.f103) 1 := ((SumsOk.nil).cons (c := f603l1C) (by kernel_rfl) (f603l1O k)).cons (c := f603p0C) (by kernel_rfl) (f603p0O k)
theorem f603E (k : Nat) (x : ByteArray) : evFS tab (f603T k) (f603L k) Tryz.f103.ntmps Tryz.f103.results.toList (codeOf Tryz.f103) (argsV [.dat .str] x) [.dat .bool] none = f603F k x := by kernel_rfl
theorem f603Ok (k : Nat) (x : ByteArray) (y : Bool) (h : f603F k x = some y) : FnOk P 103 [.dat .str] [.dat .bool] x y :=
  evFS_sound tabOk (f603TS k) mixed Tryz.func103 (c := codeOf Tryz.f103) (by kernel_rfl) (f603LS k) ((f603E k x).trans h)
noncomputable def f603A (k : Nat) := entFnB [.dat .str] [.dat .bool] (f603F k)
theorem f603Ao (k : Nat) : EntOk P 103 (f603A k) := entFnB_ok (f603Ok k)
/-! ## midrange/midrangefiles.FieldAt -/
noncomputable def f660T (k : Nat) : Table := []
theorem f660TS (k : Nat) : Sound P (f660T k) := Sound.nil
theorem f660B : HasBody P 160 := ⟨Tryz.f160, Tryz.func160, by kernel_rfl, by kernel_rfl⟩
noncomputable def f660l0H : Shape := ⟨[(1, .one (.str)), (2, .one (.ptr 0 0)), (5, .one (.int .i64))], [(0, .var 46 [.str, .ro Y1])], 1, []⟩
noncomputable def f660l0X0 : Shape := ⟨[(4, .one (.int .i64))], [], 0, []⟩
noncomputable def f660l0X1 : Shape := ⟨[], [], 0, []⟩
noncomputable def f660l0N : NoteR := ⟨[1, 2, 5], [], []⟩
noncomputable def f660l0M : NoteR := ⟨[4], [], []⟩
noncomputable def f660l0C : Code := firstC (codesAt 26 (codeOf Tryz.f160) 1)
noncomputable def f660l0s {R : Type} (k : Nat) (rec : D58 → Option R) (k0 : Int × Unit → Option R) (k1 : Unit → Option R) (v : D58) : Option R :=
  bif (decide (v.2.1 < (v.2.2.2.1.length : Int))) then
    bif ((decide ((0 : Int) ≤ v.2.1)) && (decide (v.2.1 < (v.2.2.2.1.length : Int)))) then
    let t1 := (v.2.2.2.1.getD (Int.toNat v.2.1) (ByteArray.empty, ((0 : Int), ((0 : Int), (0 : Int)))))
    bif (strEq t1.1 v.1) then
      k0 (v.2.1, ())
    else
    rec (v.1, (IntKind.i64.wrap (v.2.1 + (1 : Int))), v.2.2.1, v.2.2.2.1, ())
    else none
  else
  k1 (())
noncomputable def f660l0 {R : Type} (k : Nat) (k0 : Int × Unit → Option R) (k1 : Unit → Option R) (v : D58) : Option R := iterS (fun rec v => f660l0s k rec k0 k1 v) k v
noncomputable def f660l0S (k : Nat) : Sum1 := loopSum f660l0H f660l0N k (fun R rec K v => f660l0s k rec (fun w => K .ret (encSt f660l0X0 w)) (fun w => K (.exit 0) (encSt f660l0X1 w)) v)
theorem f660l0E (k : Nat) (R : Type) (rec : St → Option R) (K : X → St → Option R) (v : f660l0H.Den) : evS tab (f660T k) Tryz.f160.ntmps [] (bodyOf f660l0C) 52 (bodyK f660l0N f660l0M rec K) (encSt f660l0H v) = f660l0s k (fun v => rec (encSt f660l0H v)) (fun w => K .ret (encSt f660l0X0 w)) (fun w => K (.exit 0) (encSt f660l0X1 w)) v := by kernel_rfl
theorem f660l0I (k : Nat) : SumsOk P Tryz.f160.ntmps [] (bodyOf f660l0C) 52 := SumsOk.nil
theorem f660l0O (k : Nat) : SumOk P Tryz.f160.ntmps f660l0C (f660l0S k) := (show f660l0C = .loop (bodyOf f660l0C) by kernel_rfl) ▸ sum_loop tabOk (f660TS k) mixed (f660l0I k) (f660l0E k)
noncomputable def f660F (k : Nat) (x : D8) : Option (Int) :=
  f660l0 k
    (fun (w2 : Int × Unit) =>
      some w2.1)
    (fun (w3 : Unit) =>
      some (-1 : Int))
    (x.2, (0 : Int), x.1.1, x.1.2, ())
noncomputable def f660L (k : Nat) : Sums := [(26, f660l0S k)]
theorem f660LS (k : Nat) : SumsOk P Tryz.f160.ntmps (f660L k) (codeOf Tryz.f160) 1 := (SumsOk.nil).cons (c := f660l0C) (by kernel_rfl) (f660l0O k)
theorem f660E (k : Nat) (x : D8) : evFS tab (f660T k) (f660L k) Tryz.f160.ntmps Tryz.f160.results.toList (codeOf Tryz.f160) (argsV [.agg Y2, .dat .str] x) [.dat (.int .i64)] none = f660F k x := by kernel_rfl
theorem f660Ok (k : Nat) (x : D8) (y : Int) (h : f660F k x = some y) : FnOk P 160 [.agg Y2, .dat .str] [.dat (.int .i64)] x y :=
  evFS_sound tabOk (f660TS k) mixed Tryz.func160 (c := codeOf Tryz.f160) (by kernel_rfl) (f660LS k) ((f660E k x).trans h)
noncomputable def f660A (k : Nat) := entFnB [.agg Y2, .dat .str] [.dat (.int .i64)] (f660F k)
theorem f660Ao (k : Nat) : EntOk P 160 (f660A k) := entFnB_ok (f660Ok k)
/-! ## midrange/midrangeref01.IsNumeric -/
noncomputable def f68T (k : Nat) : Table := [(64, f48A k)]
theorem f68TS (k : Nat) : Sound P (f68T k) := (Sound.nil).consE f48B (f48Ao k)
theorem f68B : HasBody P 189 := ⟨Tryz.f189, Tryz.func189, by kernel_rfl, by kernel_rfl⟩
noncomputable def f68F (k : Nat) (x : Int) : Option (Bool) :=
  Option.bind (f48F k (x, (1 : Int), (3 : Int))) fun y1 =>
  some y1
noncomputable def f68L (k : Nat) : Sums := []
theorem f68LS (k : Nat) : SumsOk P Tryz.f189.ntmps (f68L k) (codeOf Tryz.f189) 1 := SumsOk.nil
theorem f68E (k : Nat) (x : Int) : evFS tab (f68T k) (f68L k) Tryz.f189.ntmps Tryz.f189.results.toList (codeOf Tryz.f189) (argsV [.dat (.int .i64)] x) [.dat .bool] none = f68F k x := by kernel_rfl
theorem f68Ok (k : Nat) (x : Int) (y : Bool) (h : f68F k x = some y) : FnOk P 189 [.dat (.int .i64)] [.dat .bool] x y :=
  evFS_sound tabOk (f68TS k) mixed Tryz.func189 (c := codeOf Tryz.f189) (by kernel_rfl) (f68LS k) ((f68E k x).trans h)
noncomputable def f68A (k : Nat) := entFnB [.dat (.int .i64)] [.dat .bool] (f68F k)
theorem f68Ao (k : Nat) : EntOk P 189 (f68A k) := entFnB_ok (f68Ok k)
/-! ## midrange/midrangebase.Count -/
noncomputable def f69T (k : Nat) : Table := []
theorem f69TS (k : Nat) : Sound P (f69T k) := Sound.nil
theorem f69B : HasBody P 47 := ⟨Tryz.f47, Tryz.func47, by kernel_rfl, by kernel_rfl⟩
noncomputable def f69F (k : Nat) (x : Bool) : Option (Int) :=
  bif x then
    some (1 : Int)
  else
  some (0 : Int)
noncomputable def f69L (k : Nat) : Sums := []
theorem f69LS (k : Nat) : SumsOk P Tryz.f47.ntmps (f69L k) (codeOf Tryz.f47) 1 := SumsOk.nil
theorem f69E (k : Nat) (x : Bool) : evFS tab (f69T k) (f69L k) Tryz.f47.ntmps Tryz.f47.results.toList (codeOf Tryz.f47) (argsV [.dat .bool] x) [.dat (.int .i64)] none = f69F k x := by kernel_rfl
theorem f69Ok (k : Nat) (x : Bool) (y : Int) (h : f69F k x = some y) : FnOk P 47 [.dat .bool] [.dat (.int .i64)] x y :=
  evFS_sound tabOk (f69TS k) mixed Tryz.func47 (c := codeOf Tryz.f47) (by kernel_rfl) (f69LS k) ((f69E k x).trans h)
noncomputable def f69A (k : Nat) := entFnB [.dat .bool] [.dat (.int .i64)] (f69F k)
theorem f69Ao (k : Nat) : EntOk P 47 (f69A k) := entFnB_ok (f69Ok k)
/-! ## midrange/midrangeref01.TypeErr -/
noncomputable def f27T (k : Nat) : Table := [(47, f69A k), (64, f48A k), (189, f68A k)]
theorem f27TS (k : Nat) : Sound P (f27T k) := (((Sound.nil).consE f68B (f68Ao k)).consE f48B (f48Ao k)).consE f69B (f69Ao k)
theorem f27B : HasBody P 177 := ⟨Tryz.f177, Tryz.func177, by kernel_rfl, by kernel_rfl⟩
noncomputable def f27p0H : Shape := ⟨[(1, .one (.ptr 0 0)), (3, .one (.bool)), (13, .one (.int .i64))], [(0, .var 154 [.int .i64, .int .i64, .int .i64])], 1, []⟩
noncomputable def f27p0X0 : Shape := ⟨[(1, .one (.ptr 0 0)), (3, .one (.bool)), (13, .one (.int .i64)), (19, .one (.bool))], [(0, .var 154 [.int .i64, .int .i64, .int .i64])], 1, []⟩
noncomputable def f27p0N : NoteR := ⟨[1, 3, 13], [], []⟩
noncomputable def f27p0M : NoteR := ⟨[1, 2, 3, 13, 19], [], []⟩
noncomputable def f27p0C : Code := firstC (codesAt 982 (codeOf Tryz.f177) 1)
noncomputable def f27p0 {R : Type} (k : Nat) (k0 : D3 → Option R) (v : D4) : Option R :=
  bif (v.2.1 == (1 : Int)) then
    k0 (v.1, v.2.1, (v.2.1 == (1 : Int)), v.2.2.1, v.2.2.2.1, v.2.2.2.2.1, ())
  else
  k0 (v.1, v.2.1, (v.2.1 == (2 : Int)), v.2.2.1, v.2.2.2.1, v.2.2.2.2.1, ())
noncomputable def f27p0S (k : Nat) : Sum1 := partSum f27p0H f27p0N (fun R K v => f27p0 k (fun w => K .normal (encSt f27p0X0 w)) v)
theorem f27p0E (k : Nat) (R : Type) (K : X → St → Option R) (v : f27p0H.Den) : evS tab (f27T k) Tryz.f177.ntmps [] f27p0C 982 (partK f27p0M K) (encSt f27p0H v) = f27p0 k (fun w => K .normal (encSt f27p0X0 w)) v := by kernel_rfl
theorem f27p0I (k : Nat) : SumsOk P Tryz.f177.ntmps [] f27p0C 982 := SumsOk.nil
theorem f27p0O (k : Nat) : SumOk P Tryz.f177.ntmps f27p0C (f27p0S k) := sum_part tabOk (f27TS k) mixed (f27p0I k) (f27p0E k)
noncomputable def f27p1H : Shape := ⟨[(1, .one (.ptr 0 0)), (3, .one (.bool))], [(0, .var 154 [.int .i64, .int .i64, .int .i64])], 1, []⟩
noncomputable def f27p1X0 : Shape := ⟨[(1, .one (.ptr 0 0)), (3, .one (.bool))], [(0, .var 154 [.int .i64, .int .i64, .int .i64])], 1, []⟩
noncomputable def f27p1N : NoteR := ⟨[1, 3], [], []⟩
noncomputable def f27p1M : NoteR := ⟨[1, 2, 3], [], []⟩
noncomputable def f27p1C : Code := firstC (codesAt 30 (codeOf Tryz.f177) 1)
noncomputable def f27p1 {R : Type} (k : Nat) (k0 : D5 → Option R) (v : D5) : Option R :=
  bif (v.2.1 == (0 : Int)) then
    Option.bind (f48F k (v.2.2.1, (1 : Int), (256 : Int))) fun y2 =>
    k0 (y2, v.2.1, v.2.2.1, v.2.2.2.1, ())
  else
  f27p0 k
    (fun (w3 : D3) =>
      bif w3.2.2.1 then
        Option.bind (f48F k (w3.2.2.2.2.1, (1 : Int), (15 : Int))) fun y4 =>
        k0 (y4, w3.2.2.2.1, w3.2.2.2.2.1, w3.2.2.2.2.2.1, ())
      else
      bif (w3.2.1 == (3 : Int)) then
        bif (w3.2.2.2.2.1 == (4 : Int)) then
          k0 (true, w3.2.2.2.1, w3.2.2.2.2.1, w3.2.2.2.2.2.1, ())
        else
        k0 ((w3.2.2.2.2.1 == (9 : Int)), w3.2.2.2.1, w3.2.2.2.2.1, w3.2.2.2.2.2.1, ())
      else
      k0 (w3.1, w3.2.2.2.1, w3.2.2.2.2.1, w3.2.2.2.2.2.1, ()))
    (v.1, v.2.1, v.2.1, v.2.2.1, v.2.2.2.1, ())
noncomputable def f27p1S (k : Nat) : Sum1 := partSum f27p1H f27p1N (fun R K v => f27p1 k (fun w => K .normal (encSt f27p1X0 w)) v)
theorem f27p1E (k : Nat) (R : Type) (K : X → St → Option R) (v : f27p1H.Den) : evS tab (f27T k) Tryz.f177.ntmps [(982, f27p0S k)] f27p1C 30 (partK f27p1M K) (encSt f27p1H v) = f27p1 k (fun w => K .normal (encSt f27p1X0 w)) v := by kernel_rfl
theorem f27p1I (k : Nat) : SumsOk P Tryz.f177.ntmps [(982, f27p0S k)] f27p1C 30 := (SumsOk.nil).cons (c := f27p0C) (by kernel_rfl) (f27p0O k)
theorem f27p1O (k : Nat) : SumOk P Tryz.f177.ntmps f27p1C (f27p1S k) := sum_part tabOk (f27TS k) mixed (f27p1I k) (f27p1E k)
noncomputable def f27p2H : Shape := ⟨[(1, .one (.ptr 0 0)), (4, .one (.int .i64))], [(0, .var 154 [.int .i64, .int .i64, .int .i64])], 1, []⟩
noncomputable def f27p2X0 : Shape := ⟨[(1, .one (.ptr 0 0)), (4, .one (.int .i64))], [(0, .var 154 [.int .i64, .int .i64, .int .i64])], 1, []⟩
noncomputable def f27p2N : NoteR := ⟨[1, 4], [], []⟩
noncomputable def f27p2M : NoteR := ⟨[1, 2, 4], [], []⟩
noncomputable def f27p2C : Code := firstC (codesAt 254 (codeOf Tryz.f177) 1)
noncomputable def f27p2 {R : Type} (k : Nat) (k0 : D59 → Option R) (v : D59) : Option R :=
  Option.bind (f68F k v.2.1) fun y6 =>
  bif y6 then
    k0 (v.2.2.1, v.2.1, v.2.2.1, v.2.2.2.1, ())
  else
  k0 (v.1, v.2.1, v.2.2.1, v.2.2.2.1, ())
noncomputable def f27p2S (k : Nat) : Sum1 := partSum f27p2H f27p2N (fun R K v => f27p2 k (fun w => K .normal (encSt f27p2X0 w)) v)
theorem f27p2E (k : Nat) (R : Type) (K : X → St → Option R) (v : f27p2H.Den) : evS tab (f27T k) Tryz.f177.ntmps [] f27p2C 254 (partK f27p2M K) (encSt f27p2H v) = f27p2 k (fun w => K .normal (encSt f27p2X0 w)) v := by kernel_rfl
theorem f27p2I (k : Nat) : SumsOk P Tryz.f177.ntmps [] f27p2C 254 := SumsOk.nil
theorem f27p2O (k : Nat) : SumOk P Tryz.f177.ntmps f27p2C (f27p2S k) := sum_part tabOk (f27TS k) mixed (f27p2I k) (f27p2E k)
noncomputable def f27F (k : Nat) (x : (Int × (Int × Int))) : Option (Int) :=
  Option.bind (f48F k (x.1, (0 : Int), (4 : Int))) fun y1 =>
  bif (!y1) then
    some (4 : Int)
  else
  f27p1 k
    (fun (w5 : D5) =>
      bif (!w5.1) then
        some (18 : Int)
      else
      f27p2 k
        (fun (w7 : D59) =>
          Option.bind (f48F k (w7.2.2.2.1, (0 : Int), w7.1)) fun y8 =>
          Option.bind (f69F k (!y8)) fun y9 =>
          some (IntKind.i64.wrap ((3 : Int) * y9)))
        ((0 : Int), w5.2.1, w5.2.2.1, w5.2.2.2.1, ()))
    ((x.2.1 == (0 : Int)), x.1, x.2.1, x.2.2, ())
noncomputable def f27L (k : Nat) : Sums := [(982, f27p0S k), (30, f27p1S k), (254, f27p2S k)]
theorem f27LS (k : Nat) : SumsOk P Tryz.f177.ntmps (f27L k) (codeOf Tryz.f177) 1 := (((SumsOk.nil).cons (c := f27p2C) (by kernel_rfl) (f27p2O k)).cons (c := f27p1C) (by kernel_rfl) (f27p1O k)).cons (c := f27p0C) (by kernel_rfl) (f27p0O k)
theorem f27E (k : Nat) (x : (Int × (Int × Int))) : evFS tab (f27T k) (f27L k) Tryz.f177.ntmps Tryz.f177.results.toList (codeOf Tryz.f177) (argsV [.agg (.pair (.int .i64) Y0)] x) [.dat (.int .i64)] none = f27F k x := by kernel_rfl
theorem f27Ok (k : Nat) (x : (Int × (Int × Int))) (y : Int) (h : f27F k x = some y) : FnOk P 177 [.agg (.pair (.int .i64) Y0)] [.dat (.int .i64)] x y :=
  evFS_sound tabOk (f27TS k) mixed Tryz.func177 (c := codeOf Tryz.f177) (by kernel_rfl) (f27LS k) ((f27E k x).trans h)
noncomputable def f27A (k : Nat) := entFnB [.agg (.pair (.int .i64) Y0)] [.dat (.int .i64)] (f27F k)
theorem f27Ao (k : Nat) : EntOk P 177 (f27A k) := entFnB_ok (f27Ok k)
/-! ## midrange/midrangebase.Size -/
noncomputable def f31T (k : Nat) : Table := [(47, f69A k)]
theorem f31TS (k : Nat) : Sound P (f31T k) := (Sound.nil).consE f69B (f69Ao k)
theorem f31B : HasBody P 166 := ⟨Tryz.f166, Tryz.func166, by kernel_rfl, by kernel_rfl⟩
noncomputable def f31F (k : Nat) (x : (Int × (Int × Int))) : Option (Int) :=
  bif (x.1 == (1 : Int)) then
    let t1 := (IntKind.i64.wrap ((IntKind.i64.wrap (Int.tdiv x.2.1 (2 : Int))) + (1 : Int)))
    some t1
  else
  bif (x.1 == (3 : Int)) then
    Option.bind (f69F k (x.2.1 == (9 : Int))) fun y2 =>
    some (IntKind.i64.wrap ((2 : Int) + (IntKind.i64.wrap ((2 : Int) * y2))))
  else
  bif (x.1 == (4 : Int)) then
    some (16 : Int)
  else
  some x.2.1
noncomputable def f31L (k : Nat) : Sums := []
theorem f31LS (k : Nat) : SumsOk P Tryz.f166.ntmps (f31L k) (codeOf Tryz.f166) 1 := SumsOk.nil
theorem f31E (k : Nat) (x : (Int × (Int × Int))) : evFS tab (f31T k) (f31L k) Tryz.f166.ntmps Tryz.f166.results.toList (codeOf Tryz.f166) (argsV [.agg (.pair (.int .i64) Y0)] x) [.dat (.int .i64)] none = f31F k x := by kernel_rfl
theorem f31Ok (k : Nat) (x : (Int × (Int × Int))) (y : Int) (h : f31F k x = some y) : FnOk P 166 [.agg (.pair (.int .i64) Y0)] [.dat (.int .i64)] x y :=
  evFS_sound tabOk (f31TS k) mixed Tryz.func166 (c := codeOf Tryz.f166) (by kernel_rfl) (f31LS k) ((f31E k x).trans h)
noncomputable def f31A (k : Nat) := entFnB [.agg (.pair (.int .i64) Y0)] [.dat (.int .i64)] (f31F k)
theorem f31Ao (k : Nat) : EntOk P 166 (f31A k) := entFnB_ok (f31Ok k)
/-! ## midrange/midrangefiles.Size -/
noncomputable def f646T (k : Nat) : Table := [(166, f31A k)]
theorem f646TS (k : Nat) : Sound P (f646T k) := (Sound.nil).consE f31B (f31Ao k)
theorem f646B : HasBody P 146 := ⟨Tryz.f146, Tryz.func146, by kernel_rfl, by kernel_rfl⟩
noncomputable def f646l0H : Shape := ⟨[(1, .one (.ptr 0 0)), (3, .one (.int .i64)), (4, .one (.int .i64))], [(0, .var 46 [.str, .ro Y1])], 1, []⟩
noncomputable def f646l0X0 : Shape := ⟨[(3, .one (.int .i64))], [], 0, []⟩
noncomputable def f646l0N : NoteR := ⟨[1, 3, 4], [], []⟩
noncomputable def f646l0M : NoteR := ⟨[2, 3], [], []⟩
noncomputable def f646l0C : Code := firstC (codesAt 58 (codeOf Tryz.f146) 1)
noncomputable def f646l0s {R : Type} (k : Nat) (rec : D60 → Option R) (k0 : Int × Unit → Option R) (v : D60) : Option R :=
  bif (decide (v.2.1 < (v.2.2.2.1.length : Int))) then
    bif ((decide ((0 : Int) ≤ v.2.1)) && (decide (v.2.1 < (v.2.2.2.1.length : Int)))) then
    let t1 := (v.2.2.2.1.getD (Int.toNat v.2.1) (ByteArray.empty, ((0 : Int), ((0 : Int), (0 : Int)))))
    Option.bind (f31F k (t1.2.1, (t1.2.2.1, t1.2.2.2))) fun y2 =>
    rec ((IntKind.i64.wrap (v.1 + y2)), (IntKind.i64.wrap (v.2.1 + (1 : Int))), v.2.2.1, v.2.2.2.1, ())
    else none
  else
  k0 (v.1, ())
noncomputable def f646l0 {R : Type} (k : Nat) (k0 : Int × Unit → Option R) (v : D60) : Option R := iterS (fun rec v => f646l0s k rec k0 v) k v
noncomputable def f646l0S (k : Nat) : Sum1 := loopSum f646l0H f646l0N k (fun R rec K v => f646l0s k rec (fun w => K (.exit 0) (encSt f646l0X0 w)) v)
theorem f646l0E (k : Nat) (R : Type) (rec : St → Option R) (K : X → St → Option R) (v : f646l0H.Den) : evS tab (f646T k) Tryz.f146.ntmps [] (bodyOf f646l0C) 116 (bodyK f646l0N f646l0M rec K) (encSt f646l0H v) = f646l0s k (fun v => rec (encSt f646l0H v)) (fun w => K (.exit 0) (encSt f646l0X0 w)) v := by kernel_rfl
theorem f646l0I (k : Nat) : SumsOk P Tryz.f146.ntmps [] (bodyOf f646l0C) 116 := SumsOk.nil
theorem f646l0O (k : Nat) : SumOk P Tryz.f146.ntmps f646l0C (f646l0S k) := (show f646l0C = .loop (bodyOf f646l0C) by kernel_rfl) ▸ sum_loop tabOk (f646TS k) mixed (f646l0I k) (f646l0E k)
noncomputable def f646F (k : Nat) (x : (ByteArray × (List D6))) : Option (Int) :=
  f646l0 k
    (fun (w3 : Int × Unit) =>
      some w3.1)
    ((0 : Int), (0 : Int), x.1, x.2, ())
noncomputable def f646L (k : Nat) : Sums := [(58, f646l0S k)]
theorem f646LS (k : Nat) : SumsOk P Tryz.f146.ntmps (f646L k) (codeOf Tryz.f146) 1 := (SumsOk.nil).cons (c := f646l0C) (by kernel_rfl) (f646l0O k)
theorem f646E (k : Nat) (x : (ByteArray × (List D6))) : evFS tab (f646T k) (f646L k) Tryz.f146.ntmps Tryz.f146.results.toList (codeOf Tryz.f146) (argsV [.agg Y2] x) [.dat (.int .i64)] none = f646F k x := by kernel_rfl
theorem f646Ok (k : Nat) (x : (ByteArray × (List D6))) (y : Int) (h : f646F k x = some y) : FnOk P 146 [.agg Y2] [.dat (.int .i64)] x y :=
  evFS_sound tabOk (f646TS k) mixed Tryz.func146 (c := codeOf Tryz.f146) (by kernel_rfl) (f646LS k) ((f646E k x).trans h)
noncomputable def f646A (k : Nat) := entFnB [.agg Y2] [.dat (.int .i64)] (f646F k)
theorem f646Ao (k : Nat) : EntOk P 146 (f646A k) := entFnB_ok (f646Ok k)
/-! ## midrange/midrangefiles.FieldsErr -/
noncomputable def f659T (k : Nat) : Table := [(47, f69A k), (103, f603A k), (146, f646A k), (160, f660A k), (177, f27A k)]
theorem f659TS (k : Nat) : Sound P (f659T k) := (((((Sound.nil).consE f27B (f27Ao k)).consE f660B (f660Ao k)).consE f646B (f646Ao k)).consE f603B (f603Ao k)).consE f69B (f69Ao k)
theorem f659B : HasBody P 159 := ⟨Tryz.f159, Tryz.func159, by kernel_rfl, by kernel_rfl⟩
noncomputable def f659l0H : Shape := ⟨[(1, .one (.ptr 0 0)), (4, .one (.int .i64))], [(0, .var 46 [.str, .ro Y1])], 1, []⟩
noncomputable def f659l0X0 : Shape := ⟨[(1, .one (.ptr 0 0)), (2, .one (.int .i64)), (3, .one (.int .i64))], [(0, .var 46 [.str, .ro Y1])], 1, []⟩
noncomputable def f659l0X1 : Shape := ⟨[(1, .one (.ptr 0 0))], [(0, .var 46 [.str, .ro Y1])], 1, []⟩
noncomputable def f659l0N : NoteR := ⟨[1, 4], [], []⟩
noncomputable def f659l0M : NoteR := ⟨[1, 2, 3], [], []⟩
noncomputable def f659l0C : Code := firstC (codesAt 122 (codeOf Tryz.f159) 1)
noncomputable def f659l0s {R : Type} (k : Nat) (rec : D62 → Option R) (k0 : D60 → Option R) (k1 : D61 → Option R) (v : D62) : Option R :=
  bif (decide (v.1 < (v.2.2.1.length : Int))) then
    bif ((decide ((0 : Int) ≤ v.1)) && (decide (v.1 < (v.2.2.1.length : Int)))) then
    let t1 := (v.2.2.1.getD (Int.toNat v.1) (ByteArray.empty, ((0 : Int), ((0 : Int), (0 : Int)))))
    Option.bind (f603F k t1.1) fun y2 =>
    bif (!y2) then
      k0 (v.1, (7 : Int), v.2.1, v.2.2.1, ())
    else
    bif ((decide ((0 : Int) ≤ v.1)) && (decide (v.1 < (v.2.2.1.length : Int)))) then
    let t3 := (v.2.2.1.getD (Int.toNat v.1) (ByteArray.empty, ((0 : Int), ((0 : Int), (0 : Int)))))
    Option.bind (f660F k ((v.2.1, v.2.2.1), t3.1)) fun y4 =>
    bif (decide (y4 < v.1)) then
      k0 (v.1, (13 : Int), v.2.1, v.2.2.1, ())
    else
    bif ((decide ((0 : Int) ≤ v.1)) && (decide (v.1 < (v.2.2.1.length : Int)))) then
    let t5 := (v.2.2.1.getD (Int.toNat v.1) (ByteArray.empty, ((0 : Int), ((0 : Int), (0 : Int)))))
    Option.bind (f27F k (t5.2.1, (t5.2.2.1, t5.2.2.2))) fun y6 =>
    bif (y6 != (0 : Int)) then
      k0 (v.1, y6, v.2.1, v.2.2.1, ())
    else
    bif ((decide ((0 : Int) ≤ v.1)) && (decide (v.1 < (v.2.2.1.length : Int)))) then
    let t7 := (v.2.2.1.getD (Int.toNat v.1) (ByteArray.empty, ((0 : Int), ((0 : Int), (0 : Int)))))
    bif (t7.2.1 == (4 : Int)) then
      k0 (v.1, (17 : Int), v.2.1, v.2.2.1, ())
    else
    rec ((IntKind.i64.wrap (v.1 + (1 : Int))), v.2.1, v.2.2.1, ())
    else none
    else none
    else none
    else none
  else
  k1 (v.2.1, v.2.2.1, ())
noncomputable def f659l0 {R : Type} (k : Nat) (k0 : D60 → Option R) (k1 : D61 → Option R) (v : D62) : Option R := iterS (fun rec v => f659l0s k rec k0 k1 v) k v
noncomputable def f659l0S (k : Nat) : Sum1 := loopSum f659l0H f659l0N k (fun R rec K v => f659l0s k rec (fun w => K .ret (encSt f659l0X0 w)) (fun w => K (.exit 0) (encSt f659l0X1 w)) v)
theorem f659l0E (k : Nat) (R : Type) (rec : St → Option R) (K : X → St → Option R) (v : f659l0H.Den) : evS tab (f659T k) Tryz.f159.ntmps [] (bodyOf f659l0C) 244 (bodyK f659l0N f659l0M rec K) (encSt f659l0H v) = f659l0s k (fun v => rec (encSt f659l0H v)) (fun w => K .ret (encSt f659l0X0 w)) (fun w => K (.exit 0) (encSt f659l0X1 w)) v := by kernel_rfl
theorem f659l0I (k : Nat) : SumsOk P Tryz.f159.ntmps [] (bodyOf f659l0C) 244 := SumsOk.nil
theorem f659l0O (k : Nat) : SumOk P Tryz.f159.ntmps f659l0C (f659l0S k) := (show f659l0C = .loop (bodyOf f659l0C) by kernel_rfl) ▸ sum_loop tabOk (f659TS k) mixed (f659l0I k) (f659l0E k)
noncomputable def f659F (k : Nat) (x : (ByteArray × (List D6))) : Option (Int × Int) :=
  bif ((x.2.length : Int) == (0 : Int)) then
    some ((0 : Int), (1 : Int))
  else
  bif (decide ((x.2.length : Int) > (20 : Int))) then
    some ((0 : Int), (2 : Int))
  else
  f659l0 k
    (fun (w8 : D60) =>
      some (w8.1, w8.2.1))
    (fun (w9 : D61) =>
      Option.bind (f646F k (w9.1, w9.2.1)) fun y10 =>
      Option.bind (f69F k (decide (y10 > (200 : Int)))) fun y11 =>
      some ((0 : Int), (IntKind.i64.wrap ((18 : Int) * y11))))
    ((0 : Int), x.1, x.2, ())
noncomputable def f659L (k : Nat) : Sums := [(122, f659l0S k)]
theorem f659LS (k : Nat) : SumsOk P Tryz.f159.ntmps (f659L k) (codeOf Tryz.f159) 1 := (SumsOk.nil).cons (c := f659l0C) (by kernel_rfl) (f659l0O k)
theorem f659E (k : Nat) (x : (ByteArray × (List D6))) : evFS tab (f659T k) (f659L k) Tryz.f159.ntmps Tryz.f159.results.toList (codeOf Tryz.f159) (argsV [.agg Y2] x) [.dat (.int .i64), .dat (.int .i64)] none = f659F k x := by kernel_rfl
theorem f659Ok (k : Nat) (x : (ByteArray × (List D6))) (y : Int × Int) (h : f659F k x = some y) : FnOk P 159 [.agg Y2] [.dat (.int .i64), .dat (.int .i64)] x y :=
  evFS_sound tabOk (f659TS k) mixed Tryz.func159 (c := codeOf Tryz.f159) (by kernel_rfl) (f659LS k) ((f659E k x).trans h)
noncomputable def f659A (k : Nat) := entFnB [.agg Y2] [.dat (.int .i64), .dat (.int .i64)] (f659F k)
theorem f659Ao (k : Nat) : EntOk P 159 (f659A k) := entFnB_ok (f659Ok k)
/-! ## midrange/midrangefiles.FormatErr -/
noncomputable def f641T (k : Nat) : Table := [(103, f603A k), (159, f659A k)]
theorem f641TS (k : Nat) : Sound P (f641T k) := ((Sound.nil).consE f659B (f659Ao k)).consE f603B (f603Ao k)
theorem f641B : HasBody P 141 := ⟨Tryz.f141, Tryz.func141, by kernel_rfl, by kernel_rfl⟩
noncomputable def f641F (k : Nat) (x : (ByteArray × (List D6))) : Option (Int × Int) :=
  Option.bind (f603F k x.1) fun y1 =>
  bif (!y1) then
    some ((0 : Int), (7 : Int))
  else
  Option.bind (f659F k (x.1, x.2)) fun y2 =>
  some (y2.1, y2.2)
noncomputable def f641L (k : Nat) : Sums := []
theorem f641LS (k : Nat) : SumsOk P Tryz.f141.ntmps (f641L k) (codeOf Tryz.f141) 1 := SumsOk.nil
theorem f641E (k : Nat) (x : (ByteArray × (List D6))) : evFS tab (f641T k) (f641L k) Tryz.f141.ntmps Tryz.f141.results.toList (codeOf Tryz.f141) (argsV [.agg Y2] x) [.dat (.int .i64), .dat (.int .i64)] none = f641F k x := by kernel_rfl
theorem f641Ok (k : Nat) (x : (ByteArray × (List D6))) (y : Int × Int) (h : f641F k x = some y) : FnOk P 141 [.agg Y2] [.dat (.int .i64), .dat (.int .i64)] x y :=
  evFS_sound tabOk (f641TS k) mixed Tryz.func141 (c := codeOf Tryz.f141) (by kernel_rfl) (f641LS k) ((f641E k x).trans h)
noncomputable def f641A (k : Nat) := entFnB [.agg Y2] [.dat (.int .i64), .dat (.int .i64)] (f641F k)
theorem f641Ao (k : Nat) : EntOk P 141 (f641A k) := entFnB_ok (f641Ok k)
/-! ## midrange/midrangefiles.KeysErr -/
noncomputable def f642T (k : Nat) : Table := [(160, f660A k)]
theorem f642TS (k : Nat) : Sound P (f642T k) := (Sound.nil).consE f660B (f660Ao k)
theorem f642B : HasBody P 142 := ⟨Tryz.f142, Tryz.func142, by kernel_rfl, by kernel_rfl⟩
noncomputable def f642l0H : Shape := ⟨[(1, .one (.ptr 0 0)), (4, .one (.int .i64)), (5, .one (.int .i64))], [(0, .var 49 [.str, .str, .ro Y1, .ro (.pair .str .bool), .bool])], 1, []⟩
noncomputable def f642l0X0 : Shape := ⟨[(1, .one (.ptr 0 0)), (2, .one (.int .i64)), (3, .one (.int .i64)), (4, .one (.int .i64))], [(0, .var 49 [.str, .str, .ro Y1, .ro (.pair .str .bool), .bool])], 1, []⟩
noncomputable def f642l0X1 : Shape := ⟨[(1, .one (.ptr 0 0)), (4, .one (.int .i64))], [(0, .var 49 [.str, .str, .ro Y1, .ro (.pair .str .bool), .bool])], 1, []⟩
noncomputable def f642l0N : NoteR := ⟨[1, 4, 5], [], []⟩
noncomputable def f642l0M : NoteR := ⟨[1, 2, 3, 4], [], []⟩
noncomputable def f642l0C : Code := firstC (codesAt 7462 (codeOf Tryz.f142) 1)
noncomputable def f642l0s {R : Type} (k : Nat) (rec : D65 → Option R) (k0 : D63 → Option R) (k1 : D64 → Option R) (v : D65) : Option R :=
  bif (decide (v.2.1 < v.1)) then
    bif ((decide ((0 : Int) ≤ v.2.1)) && (decide (v.2.1 < (v.2.2.2.2.2.1.length : Int)))) then
    bif ((decide ((0 : Int) ≤ v.1)) && (decide (v.1 < (v.2.2.2.2.2.1.length : Int)))) then
    let t2 := (strEq (v.2.2.2.2.2.1.getD (Int.toNat v.2.1) (ByteArray.empty, false)).1 (v.2.2.2.2.2.1.getD (Int.toNat v.1) (ByteArray.empty, false)).1)
    bif t2 then
      k0 (v.1, (13 : Int), v.1, v.2.2.1, v.2.2.2.1, v.2.2.2.2.1, v.2.2.2.2.2.1, v.2.2.2.2.2.2.1, ())
    else
    rec (v.1, (IntKind.i64.wrap (v.2.1 + (1 : Int))), v.2.2.1, v.2.2.2.1, v.2.2.2.2.1, v.2.2.2.2.2.1, v.2.2.2.2.2.2.1, ())
    else none
    else none
  else
  k1 (v.1, v.2.2.1, v.2.2.2.1, v.2.2.2.2.1, v.2.2.2.2.2.1, v.2.2.2.2.2.2.1, ())
noncomputable def f642l0 {R : Type} (k : Nat) (k0 : D63 → Option R) (k1 : D64 → Option R) (v : D65) : Option R := iterS (fun rec v => f642l0s k rec k0 k1 v) k v
noncomputable def f642l0S (k : Nat) : Sum1 := loopSum f642l0H f642l0N k (fun R rec K v => f642l0s k rec (fun w => K .ret (encSt f642l0X0 w)) (fun w => K (.exit 2) (encSt f642l0X1 w)) v)
theorem f642l0E (k : Nat) (R : Type) (rec : St → Option R) (K : X → St → Option R) (v : f642l0H.Den) : evS tab (f642T k) Tryz.f142.ntmps [] (bodyOf f642l0C) 14924 (bodyK f642l0N f642l0M rec K) (encSt f642l0H v) = f642l0s k (fun v => rec (encSt f642l0H v)) (fun w => K .ret (encSt f642l0X0 w)) (fun w => K (.exit 2) (encSt f642l0X1 w)) v := by kernel_rfl
theorem f642l0I (k : Nat) : SumsOk P Tryz.f142.ntmps [] (bodyOf f642l0C) 14924 := SumsOk.nil
theorem f642l0O (k : Nat) : SumOk P Tryz.f142.ntmps f642l0C (f642l0S k) := (show f642l0C = .loop (bodyOf f642l0C) by kernel_rfl) ▸ sum_loop tabOk (f642TS k) mixed (f642l0I k) (f642l0E k)
noncomputable def f642l1H : Shape := ⟨[(1, .one (.ptr 0 0)), (4, .one (.int .i64))], [(0, .var 49 [.str, .str, .ro Y1, .ro (.pair .str .bool), .bool])], 1, []⟩
noncomputable def f642l1X0 : Shape := ⟨[(2, .one (.int .i64)), (3, .one (.int .i64))], [], 0, []⟩
noncomputable def f642l1X1 : Shape := ⟨[], [], 0, []⟩
noncomputable def f642l1N : NoteR := ⟨[1, 4], [], []⟩
noncomputable def f642l1M : NoteR := ⟨[2, 3], [], []⟩
noncomputable def f642l1C : Code := firstC (codesAt 58 (codeOf Tryz.f142) 1)
noncomputable def f642l1s {R : Type} (k : Nat) (rec : D64 → Option R) (k0 : Int × Int × Unit → Option R) (k1 : Unit → Option R) (v : D64) : Option R :=
  bif (decide (v.1 < (v.2.2.2.2.1.length : Int))) then
    bif ((decide ((0 : Int) ≤ v.1)) && (decide (v.1 < (v.2.2.2.2.1.length : Int)))) then
    Option.bind (f660F k ((v.2.2.1, v.2.2.2.1), (v.2.2.2.2.1.getD (Int.toNat v.1) (ByteArray.empty, false)).1)) fun y1 =>
    bif (y1 == (-1 : Int)) then
      k0 (v.1, (11 : Int), ())
    else
    f642l0 k
      (fun (w3 : D63) =>
        k0 (w3.1, w3.2.1, ()))
      (fun (w4 : D64) =>
        rec ((IntKind.i64.wrap (w4.1 + (1 : Int))), w4.2.1, w4.2.2.1, w4.2.2.2.1, w4.2.2.2.2.1, w4.2.2.2.2.2.1, ()))
      (v.1, (0 : Int), v.2.1, v.2.2.1, v.2.2.2.1, v.2.2.2.2.1, v.2.2.2.2.2.1, ())
    else none
  else
  k1 (())
noncomputable def f642l1 {R : Type} (k : Nat) (k0 : Int × Int × Unit → Option R) (k1 : Unit → Option R) (v : D64) : Option R := iterS (fun rec v => f642l1s k rec k0 k1 v) k v
noncomputable def f642l1S (k : Nat) : Sum1 := loopSum f642l1H f642l1N k (fun R rec K v => f642l1s k rec (fun w => K .ret (encSt f642l1X0 w)) (fun w => K (.exit 0) (encSt f642l1X1 w)) v)
theorem f642l1E (k : Nat) (R : Type) (rec : St → Option R) (K : X → St → Option R) (v : f642l1H.Den) : evS tab (f642T k) Tryz.f142.ntmps [(7462, f642l0S k)] (bodyOf f642l1C) 116 (bodyK f642l1N f642l1M rec K) (encSt f642l1H v) = f642l1s k (fun v => rec (encSt f642l1H v)) (fun w => K .ret (encSt f642l1X0 w)) (fun w => K (.exit 0) (encSt f642l1X1 w)) v := by kernel_rfl
theorem f642l1I (k : Nat) : SumsOk P Tryz.f142.ntmps [(7462, f642l0S k)] (bodyOf f642l1C) 116 := (SumsOk.nil).cons (c := f642l0C) (by kernel_rfl) (f642l0O k)
theorem f642l1O (k : Nat) : SumOk P Tryz.f142.ntmps f642l1C (f642l1S k) := (show f642l1C = .loop (bodyOf f642l1C) by kernel_rfl) ▸ sum_loop tabOk (f642TS k) mixed (f642l1I k) (f642l1E k)
noncomputable def f642F (k : Nat) (x : (ByteArray × D12)) : Option (Int × Int) :=
  bif (decide ((x.2.2.1.length : Int) > (4 : Int))) then
    some ((0 : Int), (2 : Int))
  else
  f642l1 k
    (fun (w5 : Int × Int × Unit) =>
      some (w5.1, w5.2.1))
    (fun (w6 : Unit) =>
      some ((0 : Int), (0 : Int)))
    ((0 : Int), x.1, x.2.1.1, x.2.1.2, x.2.2.1, x.2.2.2, ())
noncomputable def f642L (k : Nat) : Sums := [(7462, f642l0S k), (58, f642l1S k)]
theorem f642LS (k : Nat) : SumsOk P Tryz.f142.ntmps (f642L k) (codeOf Tryz.f142) 1 := ((SumsOk.nil).cons (c := f642l1C) (by kernel_rfl) (f642l1O k)).cons (c := f642l0C) (by kernel_rfl) (f642l0O k)
theorem f642E (k : Nat) (x : (ByteArray × D12)) : evFS tab (f642T k) (f642L k) Tryz.f142.ntmps Tryz.f142.results.toList (codeOf Tryz.f142) (argsV [.agg Y4] x) [.dat (.int .i64), .dat (.int .i64)] none = f642F k x := by kernel_rfl
theorem f642Ok (k : Nat) (x : (ByteArray × D12)) (y : Int × Int) (h : f642F k x = some y) : FnOk P 142 [.agg Y4] [.dat (.int .i64), .dat (.int .i64)] x y :=
  evFS_sound tabOk (f642TS k) mixed Tryz.func142 (c := codeOf Tryz.f142) (by kernel_rfl) (f642LS k) ((f642E k x).trans h)
noncomputable def f642A (k : Nat) := entFnB [.agg Y4] [.dat (.int .i64), .dat (.int .i64)] (f642F k)
theorem f642Ao (k : Nat) : EntOk P 142 (f642A k) := entFnB_ok (f642Ok k)
/-! ## midrange/midrangefiles.FileErr -/
noncomputable def f609T (k : Nat) : Table := [(103, f603A k), (141, f641A k), (142, f642A k)]
theorem f609TS (k : Nat) : Sound P (f609T k) := (((Sound.nil).consE f642B (f642Ao k)).consE f641B (f641Ao k)).consE f603B (f603Ao k)
theorem f609B : HasBody P 109 := ⟨Tryz.f109, Tryz.func109, by kernel_rfl, by kernel_rfl⟩
noncomputable def f609F (k : Nat) (x : (ByteArray × D12)) : Option (Int × Int) :=
  Option.bind (f603F k x.1) fun y1 =>
  bif (!y1) then
    some ((0 : Int), (7 : Int))
  else
  Option.bind (f641F k (x.2.1.1, x.2.1.2)) fun y2 =>
  bif (y2.2 != (0 : Int)) then
    some ((0 : Int), y2.2)
  else
  Option.bind (f642F k (x.1, ((x.2.1.1, x.2.1.2), (x.2.2.1, x.2.2.2)))) fun y3 =>
  some (y3.1, y3.2)
noncomputable def f609L (k : Nat) : Sums := []
theorem f609LS (k : Nat) : SumsOk P Tryz.f109.ntmps (f609L k) (codeOf Tryz.f109) 1 := SumsOk.nil
theorem f609E (k : Nat) (x : (ByteArray × D12)) : evFS tab (f609T k) (f609L k) Tryz.f109.ntmps Tryz.f109.results.toList (codeOf Tryz.f109) (argsV [.agg Y4] x) [.dat (.int .i64), .dat (.int .i64)] none = f609F k x := by kernel_rfl
theorem f609Ok (k : Nat) (x : (ByteArray × D12)) (y : Int × Int) (h : f609F k x = some y) : FnOk P 109 [.agg Y4] [.dat (.int .i64), .dat (.int .i64)] x y :=
  evFS_sound tabOk (f609TS k) mixed Tryz.func109 (c := codeOf Tryz.f109) (by kernel_rfl) (f609LS k) ((f609E k x).trans h)
noncomputable def f609A (k : Nat) := entFnB [.agg Y4] [.dat (.int .i64), .dat (.int .i64)] (f609F k)
theorem f609Ao (k : Nat) : EntOk P 109 (f609A k) := entFnB_ok (f609Ok k)
/-! ## midrange/midrangefiles.Err -/
noncomputable def f572T (k : Nat) : Table := [(109, f609A k)]
theorem f572TS (k : Nat) : Sound P (f572T k) := (Sound.nil).consE f609B (f609Ao k)
theorem f572B : HasBody P 72 := ⟨Tryz.f72, Tryz.func72, by kernel_rfl, by kernel_rfl⟩
noncomputable def f572F (k : Nat) (x : (ByteArray × D12)) : Option (Int) :=
  Option.bind (f609F k (x.1, ((x.2.1.1, x.2.1.2), (x.2.2.1, x.2.2.2)))) fun y1 =>
  some y1.2
noncomputable def f572L (k : Nat) : Sums := []
theorem f572LS (k : Nat) : SumsOk P Tryz.f72.ntmps (f572L k) (codeOf Tryz.f72) 1 := SumsOk.nil
theorem f572E (k : Nat) (x : (ByteArray × D12)) : evFS tab (f572T k) (f572L k) Tryz.f72.ntmps Tryz.f72.results.toList (codeOf Tryz.f72) (argsV [.agg Y4] x) [.dat (.int .i64)] none = f572F k x := by kernel_rfl
theorem f572Ok (k : Nat) (x : (ByteArray × D12)) (y : Int) (h : f572F k x = some y) : FnOk P 72 [.agg Y4] [.dat (.int .i64)] x y :=
  evFS_sound tabOk (f572TS k) mixed Tryz.func72 (c := codeOf Tryz.f72) (by kernel_rfl) (f572LS k) ((f572E k x).trans h)
noncomputable def f572A (k : Nat) := entFnB [.agg Y4] [.dat (.int .i64)] (f572F k)
theorem f572Ao (k : Nat) : EntOk P 72 (f572A k) := entFnB_ok (f572Ok k)
/-! ## midrange/midrangeref26.FileErr -/
noncomputable def f527T (k : Nat) : Table := [(72, f572A k)]
theorem f527TS (k : Nat) : Sound P (f527T k) := (Sound.nil).consE f572B (f572Ao k)
theorem f527B : HasBody P 27 := ⟨Tryz.f27, Tryz.func27, by kernel_rfl, by kernel_rfl⟩
noncomputable def f527F (k : Nat) (x : (ByteArray × D12)) : Option (Int) :=
  Option.bind (f572F k (x.1, ((x.2.1.1, x.2.1.2), (x.2.2.1, x.2.2.2)))) fun y1 =>
  some y1
noncomputable def f527L (k : Nat) : Sums := []
theorem f527LS (k : Nat) : SumsOk P Tryz.f27.ntmps (f527L k) (codeOf Tryz.f27) 1 := SumsOk.nil
theorem f527E (k : Nat) (x : (ByteArray × D12)) : evFS tab (f527T k) (f527L k) Tryz.f27.ntmps Tryz.f27.results.toList (codeOf Tryz.f27) (argsV [.agg Y4] x) [.dat (.int .i64)] none = f527F k x := by kernel_rfl
theorem f527Ok (k : Nat) (x : (ByteArray × D12)) (y : Int) (h : f527F k x = some y) : FnOk P 27 [.agg Y4] [.dat (.int .i64)] x y :=
  evFS_sound tabOk (f527TS k) mixed Tryz.func27 (c := codeOf Tryz.f27) (by kernel_rfl) (f527LS k) ((f527E k x).trans h)
noncomputable def f527A (k : Nat) := entFnB [.agg Y4] [.dat (.int .i64)] (f527F k)
theorem f527Ao (k : Nat) : EntOk P 27 (f527A k) := entFnB_ok (f527Ok k)
/-! ## midrange/midrangeref26.FormatErr -/
noncomputable def f686T (k : Nat) : Table := [(141, f641A k)]
theorem f686TS (k : Nat) : Sound P (f686T k) := (Sound.nil).consE f641B (f641Ao k)
theorem f686B : HasBody P 186 := ⟨Tryz.f186, Tryz.func186, by kernel_rfl, by kernel_rfl⟩
noncomputable def f686F (k : Nat) (x : (ByteArray × (List D6))) : Option (Int) :=
  Option.bind (f641F k (x.1, x.2)) fun y1 =>
  some y1.2
noncomputable def f686L (k : Nat) : Sums := []
theorem f686LS (k : Nat) : SumsOk P Tryz.f186.ntmps (f686L k) (codeOf Tryz.f186) 1 := SumsOk.nil
theorem f686E (k : Nat) (x : (ByteArray × (List D6))) : evFS tab (f686T k) (f686L k) Tryz.f186.ntmps Tryz.f186.results.toList (codeOf Tryz.f186) (argsV [.agg Y2] x) [.dat (.int .i64)] none = f686F k x := by kernel_rfl
theorem f686Ok (k : Nat) (x : (ByteArray × (List D6))) (y : Int) (h : f686F k x = some y) : FnOk P 186 [.agg Y2] [.dat (.int .i64)] x y :=
  evFS_sound tabOk (f686TS k) mixed Tryz.func186 (c := codeOf Tryz.f186) (by kernel_rfl) (f686LS k) ((f686E k x).trans h)
noncomputable def f686A (k : Nat) := entFnB [.agg Y2] [.dat (.int .i64)] (f686F k)
theorem f686Ao (k : Nat) : EntOk P 186 (f686A k) := entFnB_ok (f686Ok k)
/-! ## midrange/midrangeref26.Size -/
noncomputable def f618T (k : Nat) : Table := [(146, f646A k)]
theorem f618TS (k : Nat) : Sound P (f618T k) := (Sound.nil).consE f646B (f646Ao k)
theorem f618B : HasBody P 118 := ⟨Tryz.f118, Tryz.func118, by kernel_rfl, by kernel_rfl⟩
noncomputable def f618F (k : Nat) (x : (ByteArray × (List D6))) : Option (Int) :=
  Option.bind (f646F k (x.1, x.2)) fun y1 =>
  some y1
noncomputable def f618L (k : Nat) : Sums := []
theorem f618LS (k : Nat) : SumsOk P Tryz.f118.ntmps (f618L k) (codeOf Tryz.f118) 1 := SumsOk.nil
theorem f618E (k : Nat) (x : (ByteArray × (List D6))) : evFS tab (f618T k) (f618L k) Tryz.f118.ntmps Tryz.f118.results.toList (codeOf Tryz.f118) (argsV [.agg Y2] x) [.dat (.int .i64)] none = f618F k x := by kernel_rfl
theorem f618Ok (k : Nat) (x : (ByteArray × (List D6))) (y : Int) (h : f618F k x = some y) : FnOk P 118 [.agg Y2] [.dat (.int .i64)] x y :=
  evFS_sound tabOk (f618TS k) mixed Tryz.func118 (c := codeOf Tryz.f118) (by kernel_rfl) (f618LS k) ((f618E k x).trans h)
noncomputable def f618A (k : Nat) := entFnB [.agg Y2] [.dat (.int .i64)] (f618F k)
theorem f618Ao (k : Nat) : EntOk P 118 (f618A k) := entFnB_ok (f618Ok k)
/-! ## midrange/midrangeref26.Offset -/
noncomputable def f702T (k : Nat) : Table := [(166, f31A k)]
theorem f702TS (k : Nat) : Sound P (f702T k) := (Sound.nil).consE f31B (f31Ao k)
theorem f702B : HasBody P 202 := ⟨Tryz.f202, Tryz.func202, by kernel_rfl, by kernel_rfl⟩
noncomputable def f702l0H : Shape := ⟨[(1, .one (.int .i64)), (2, .one (.ptr 0 0)), (5, .one (.int .i64)), (6, .one (.int .i64))], [(0, .var 46 [.str, .ro Y1])], 1, []⟩
noncomputable def f702l0X0 : Shape := ⟨[(5, .one (.int .i64))], [], 0, []⟩
noncomputable def f702l0N : NoteR := ⟨[1, 2, 5, 6], [], []⟩
noncomputable def f702l0M : NoteR := ⟨[4, 5], [], []⟩
noncomputable def f702l0C : Code := firstC (codesAt 58 (codeOf Tryz.f202) 1)
noncomputable def f702l0s {R : Type} (k : Nat) (rec : D66 → Option R) (k0 : Int × Unit → Option R) (v : D66) : Option R :=
  bif (decide (v.2.2.1 < v.1)) then
    bif ((decide ((0 : Int) ≤ v.2.2.1)) && (decide (v.2.2.1 < (v.2.2.2.2.1.length : Int)))) then
    let t1 := (v.2.2.2.2.1.getD (Int.toNat v.2.2.1) (ByteArray.empty, ((0 : Int), ((0 : Int), (0 : Int)))))
    Option.bind (f31F k (t1.2.1, (t1.2.2.1, t1.2.2.2))) fun y2 =>
    rec (v.1, (IntKind.i64.wrap (v.2.1 + y2)), (IntKind.i64.wrap (v.2.2.1 + (1 : Int))), v.2.2.2.1, v.2.2.2.2.1, ())
    else none
  else
  k0 (v.2.1, ())
noncomputable def f702l0 {R : Type} (k : Nat) (k0 : Int × Unit → Option R) (v : D66) : Option R := iterS (fun rec v => f702l0s k rec k0 v) k v
noncomputable def f702l0S (k : Nat) : Sum1 := loopSum f702l0H f702l0N k (fun R rec K v => f702l0s k rec (fun w => K (.exit 0) (encSt f702l0X0 w)) v)
theorem f702l0E (k : Nat) (R : Type) (rec : St → Option R) (K : X → St → Option R) (v : f702l0H.Den) : evS tab (f702T k) Tryz.f202.ntmps [] (bodyOf f702l0C) 116 (bodyK f702l0N f702l0M rec K) (encSt f702l0H v) = f702l0s k (fun v => rec (encSt f702l0H v)) (fun w => K (.exit 0) (encSt f702l0X0 w)) v := by kernel_rfl
theorem f702l0I (k : Nat) : SumsOk P Tryz.f202.ntmps [] (bodyOf f702l0C) 116 := SumsOk.nil
theorem f702l0O (k : Nat) : SumOk P Tryz.f202.ntmps f702l0C (f702l0S k) := (show f702l0C = .loop (bodyOf f702l0C) by kernel_rfl) ▸ sum_loop tabOk (f702TS k) mixed (f702l0I k) (f702l0E k)
noncomputable def f702F (k : Nat) (x : D67) : Option (Int) :=
  f702l0 k
    (fun (w3 : Int × Unit) =>
      some w3.1)
    (x.2, (0 : Int), (0 : Int), x.1.1, x.1.2, ())
noncomputable def f702L (k : Nat) : Sums := [(58, f702l0S k)]
theorem f702LS (k : Nat) : SumsOk P Tryz.f202.ntmps (f702L k) (codeOf Tryz.f202) 1 := (SumsOk.nil).cons (c := f702l0C) (by kernel_rfl) (f702l0O k)
theorem f702E (k : Nat) (x : D67) : evFS tab (f702T k) (f702L k) Tryz.f202.ntmps Tryz.f202.results.toList (codeOf Tryz.f202) (argsV [.agg Y2, .dat (.int .i64)] x) [.dat (.int .i64)] none = f702F k x := by kernel_rfl
theorem f702Ok (k : Nat) (x : D67) (y : Int) (h : f702F k x = some y) : FnOk P 202 [.agg Y2, .dat (.int .i64)] [.dat (.int .i64)] x y :=
  evFS_sound tabOk (f702TS k) mixed Tryz.func202 (c := codeOf Tryz.f202) (by kernel_rfl) (f702LS k) ((f702E k x).trans h)
noncomputable def f702A (k : Nat) := entFnB [.agg Y2, .dat (.int .i64)] [.dat (.int .i64)] (f702F k)
theorem f702Ao (k : Nat) : EntOk P 202 (f702A k) := entFnB_ok (f702Ok k)
/-! ## midrange/midrangeref26.Part -/
noncomputable def f688T (k : Nat) : Table := [(166, f31A k), (202, f702A k)]
theorem f688TS (k : Nat) : Sound P (f688T k) := ((Sound.nil).consE f702B (f702Ao k)).consE f31B (f31Ao k)
theorem f688B : HasBody P 188 := ⟨Tryz.f188, Tryz.func188, by kernel_rfl, by kernel_rfl⟩
noncomputable def f688F (k : Nat) (x : D68) : Option (ByteArray) :=
  Option.bind (f702F k ((x.1.1, x.1.2), x.2.2)) fun y1 =>
  bif ((decide ((0 : Int) ≤ x.2.2)) && (decide (x.2.2 < (x.1.2.length : Int)))) then
  let t2 := (x.1.2.getD (Int.toNat x.2.2) (ByteArray.empty, ((0 : Int), ((0 : Int), (0 : Int)))))
  Option.bind (f31F k (t2.2.1, (t2.2.2.1, t2.2.2.2))) fun y3 =>
  bif (sliceBds y1 (IntKind.i64.wrap (y1 + y3)) (x.2.1.size : Int)) then
  let t4 := (x.2.1.extract (Int.toNat y1) (Int.toNat (IntKind.i64.wrap (y1 + y3))))
  some t4
  else none
  else none
noncomputable def f688L (k : Nat) : Sums := []
theorem f688LS (k : Nat) : SumsOk P Tryz.f188.ntmps (f688L k) (codeOf Tryz.f188) 1 := SumsOk.nil
theorem f688E (k : Nat) (x : D68) : evFS tab (f688T k) (f688L k) Tryz.f188.ntmps Tryz.f188.results.toList (codeOf Tryz.f188) (argsV [.agg Y2, .dat .str, .dat (.int .i64)] x) [.dat .str] none = f688F k x := by kernel_rfl
theorem f688Ok (k : Nat) (x : D68) (y : ByteArray) (h : f688F k x = some y) : FnOk P 188 [.agg Y2, .dat .str, .dat (.int .i64)] [.dat .str] x y :=
  evFS_sound tabOk (f688TS k) mixed Tryz.func188 (c := codeOf Tryz.f188) (by kernel_rfl) (f688LS k) ((f688E k x).trans h)
noncomputable def f688A (k : Nat) := entFnB [.agg Y2, .dat .str, .dat (.int .i64)] [.dat .str] (f688F k)
theorem f688Ao (k : Nat) : EntOk P 188 (f688A k) := entFnB_ok (f688Ok k)
/-! ## midrange/midrangebase.Big -/
noncomputable def f47T (k : Nat) : Table := []
theorem f47TS (k : Nat) : Sound P (f47T k) := Sound.nil
theorem f47B : HasBody P 124 := ⟨Tryz.f124, Tryz.func124, by kernel_rfl, by kernel_rfl⟩
noncomputable def f47l0H : Shape := ⟨[(0, .one (.str)), (1, .one (.int .i64)), (2, .one (.int .i64)), (7, .one (.int .i64)), (8, .one (.int .i64))], [], 0, []⟩
noncomputable def f47l0X0 : Shape := ⟨[(7, .one (.int .i64))], [], 0, []⟩
noncomputable def f47l0N : NoteR := ⟨[0, 1, 2, 7, 8], [], []⟩
noncomputable def f47l0M : NoteR := ⟨[6, 7], [], []⟩
noncomputable def f47l0C : Code := firstC (codesAt 58 (codeOf Tryz.f124) 1)
noncomputable def f47l0s {R : Type} (k : Nat) (rec : D69 → Option R) (k0 : Int × Unit → Option R) (v : D69) : Option R :=
  bif (decide (v.2.2.2.2.1 < v.2.2.1)) then
    bif ((decide ((0 : Int) ≤ (IntKind.i64.wrap (v.2.1 + v.2.2.2.2.1)))) && (decide ((IntKind.i64.wrap (v.2.1 + v.2.2.2.2.1)) < (v.1.size : Int)))) then
    let t1 := (IntKind.i64.wrap ((IntKind.i64.wrap (v.2.2.2.1 * (256 : Int))) + (IntKind.i64.wrap (bt v.1 (IntKind.i64.wrap (v.2.1 + v.2.2.2.2.1))))))
    rec (v.1, v.2.1, v.2.2.1, t1, (IntKind.i64.wrap (v.2.2.2.2.1 + (1 : Int))), ())
    else none
  else
  k0 (v.2.2.2.1, ())
noncomputable def f47l0 {R : Type} (k : Nat) (k0 : Int × Unit → Option R) (v : D69) : Option R := iterS (fun rec v => f47l0s k rec k0 v) k v
noncomputable def f47l0S (k : Nat) : Sum1 := loopSum f47l0H f47l0N k (fun R rec K v => f47l0s k rec (fun w => K (.exit 0) (encSt f47l0X0 w)) v)
theorem f47l0E (k : Nat) (R : Type) (rec : St → Option R) (K : X → St → Option R) (v : f47l0H.Den) : evS tab (f47T k) Tryz.f124.ntmps [] (bodyOf f47l0C) 116 (bodyK f47l0N f47l0M rec K) (encSt f47l0H v) = f47l0s k (fun v => rec (encSt f47l0H v)) (fun w => K (.exit 0) (encSt f47l0X0 w)) v := by kernel_rfl
theorem f47l0I (k : Nat) : SumsOk P Tryz.f124.ntmps [] (bodyOf f47l0C) 116 := SumsOk.nil
theorem f47l0O (k : Nat) : SumOk P Tryz.f124.ntmps f47l0C (f47l0S k) := (show f47l0C = .loop (bodyOf f47l0C) by kernel_rfl) ▸ sum_loop tabOk (f47TS k) mixed (f47l0I k) (f47l0E k)
noncomputable def f47F (k : Nat) (x : ByteArray × Int × Int) : Option (Int) :=
  f47l0 k
    (fun (w2 : Int × Unit) =>
      some w2.1)
    (x.1, x.2.1, x.2.2, (0 : Int), (0 : Int), ())
noncomputable def f47L (k : Nat) : Sums := [(58, f47l0S k)]
theorem f47LS (k : Nat) : SumsOk P Tryz.f124.ntmps (f47L k) (codeOf Tryz.f124) 1 := (SumsOk.nil).cons (c := f47l0C) (by kernel_rfl) (f47l0O k)
theorem f47E (k : Nat) (x : ByteArray × Int × Int) : evFS tab (f47T k) (f47L k) Tryz.f124.ntmps Tryz.f124.results.toList (codeOf Tryz.f124) (argsV [.dat .str, .dat (.int .i64), .dat (.int .i64)] x) [.dat (.int .i64)] none = f47F k x := by kernel_rfl
theorem f47Ok (k : Nat) (x : ByteArray × Int × Int) (y : Int) (h : f47F k x = some y) : FnOk P 124 [.dat .str, .dat (.int .i64), .dat (.int .i64)] [.dat (.int .i64)] x y :=
  evFS_sound tabOk (f47TS k) mixed Tryz.func124 (c := codeOf Tryz.f124) (by kernel_rfl) (f47LS k) ((f47E k x).trans h)
noncomputable def f47A (k : Nat) := entFnB [.dat .str, .dat (.int .i64), .dat (.int .i64)] [.dat (.int .i64)] (f47F k)
theorem f47Ao (k : Nat) : EntOk P 124 (f47A k) := entFnB_ok (f47Ok k)
/-! ## midrange/midrangebase.Power -/
noncomputable def f81T (k : Nat) : Table := []
theorem f81TS (k : Nat) : Sound P (f81T k) := Sound.nil
theorem f81B : HasBody P 208 := ⟨Tryz.f208, Tryz.func208, by kernel_rfl, by kernel_rfl⟩
noncomputable def f81l0H : Shape := ⟨[(0, .one (.int .i64)), (3, .one (.int .i64)), (4, .one (.int .i64))], [], 0, []⟩
noncomputable def f81l0X0 : Shape := ⟨[(3, .one (.int .i64))], [], 0, []⟩
noncomputable def f81l0N : NoteR := ⟨[0, 3, 4], [], []⟩
noncomputable def f81l0M : NoteR := ⟨[2, 3], [], []⟩
noncomputable def f81l0C : Code := firstC (codesAt 58 (codeOf Tryz.f208) 1)
noncomputable def f81l0s {R : Type} (k : Nat) (rec : Int × Int × Int × Unit → Option R) (k0 : Int × Unit → Option R) (v : Int × Int × Int × Unit) : Option R :=
  bif (decide (v.2.2.1 < v.1)) then
    rec (v.1, (IntKind.i64.wrap (v.2.1 * (10 : Int))), (IntKind.i64.wrap (v.2.2.1 + (1 : Int))), ())
  else
  k0 (v.2.1, ())
noncomputable def f81l0 {R : Type} (k : Nat) (k0 : Int × Unit → Option R) (v : Int × Int × Int × Unit) : Option R := iterS (fun rec v => f81l0s k rec k0 v) k v
noncomputable def f81l0S (k : Nat) : Sum1 := loopSum f81l0H f81l0N k (fun R rec K v => f81l0s k rec (fun w => K (.exit 0) (encSt f81l0X0 w)) v)
theorem f81l0E (k : Nat) (R : Type) (rec : St → Option R) (K : X → St → Option R) (v : f81l0H.Den) : evS tab (f81T k) Tryz.f208.ntmps [] (bodyOf f81l0C) 116 (bodyK f81l0N f81l0M rec K) (encSt f81l0H v) = f81l0s k (fun v => rec (encSt f81l0H v)) (fun w => K (.exit 0) (encSt f81l0X0 w)) v := by kernel_rfl
theorem f81l0I (k : Nat) : SumsOk P Tryz.f208.ntmps [] (bodyOf f81l0C) 116 := SumsOk.nil
theorem f81l0O (k : Nat) : SumOk P Tryz.f208.ntmps f81l0C (f81l0S k) := (show f81l0C = .loop (bodyOf f81l0C) by kernel_rfl) ▸ sum_loop tabOk (f81TS k) mixed (f81l0I k) (f81l0E k)
noncomputable def f81F (k : Nat) (x : Int) : Option (Int) :=
  f81l0 k
    (fun (w1 : Int × Unit) =>
      some w1.1)
    (x, (1 : Int), (0 : Int), ())
noncomputable def f81L (k : Nat) : Sums := [(58, f81l0S k)]
theorem f81LS (k : Nat) : SumsOk P Tryz.f208.ntmps (f81L k) (codeOf Tryz.f208) 1 := (SumsOk.nil).cons (c := f81l0C) (by kernel_rfl) (f81l0O k)
theorem f81E (k : Nat) (x : Int) : evFS tab (f81T k) (f81L k) Tryz.f208.ntmps Tryz.f208.results.toList (codeOf Tryz.f208) (argsV [.dat (.int .i64)] x) [.dat (.int .i64)] none = f81F k x := by kernel_rfl
theorem f81Ok (k : Nat) (x : Int) (y : Int) (h : f81F k x = some y) : FnOk P 208 [.dat (.int .i64)] [.dat (.int .i64)] x y :=
  evFS_sound tabOk (f81TS k) mixed Tryz.func208 (c := codeOf Tryz.f208) (by kernel_rfl) (f81LS k) ((f81E k x).trans h)
noncomputable def f81A (k : Nat) := entFnB [.dat (.int .i64)] [.dat (.int .i64)] (f81F k)
theorem f81Ao (k : Nat) : EntOk P 208 (f81A k) := entFnB_ok (f81Ok k)
/-! ## midrange/midrangeref01.Most -/
noncomputable def f49T (k : Nat) : Table := [(208, f81A k)]
theorem f49TS (k : Nat) : Sound P (f49T k) := (Sound.nil).consE f81B (f81Ao k)
theorem f49B : HasBody P 199 := ⟨Tryz.f199, Tryz.func199, by kernel_rfl, by kernel_rfl⟩
noncomputable def f49F (k : Nat) (x : (Int × (Int × Int))) : Option (Int) :=
  Option.bind (f81F k x.2.1) fun y1 =>
  some (IntKind.i64.wrap (y1 - (1 : Int)))
noncomputable def f49L (k : Nat) : Sums := []
theorem f49LS (k : Nat) : SumsOk P Tryz.f199.ntmps (f49L k) (codeOf Tryz.f199) 1 := SumsOk.nil
theorem f49E (k : Nat) (x : (Int × (Int × Int))) : evFS tab (f49T k) (f49L k) Tryz.f199.ntmps Tryz.f199.results.toList (codeOf Tryz.f199) (argsV [.agg (.pair (.int .i64) Y0)] x) [.dat (.int .i64)] none = f49F k x := by kernel_rfl
theorem f49Ok (k : Nat) (x : (Int × (Int × Int))) (y : Int) (h : f49F k x = some y) : FnOk P 199 [.agg (.pair (.int .i64) Y0)] [.dat (.int .i64)] x y :=
  evFS_sound tabOk (f49TS k) mixed Tryz.func199 (c := codeOf Tryz.f199) (by kernel_rfl) (f49LS k) ((f49E k x).trans h)
noncomputable def f49A (k : Nat) := entFnB [.agg (.pair (.int .i64) Y0)] [.dat (.int .i64)] (f49F k)
theorem f49Ao (k : Nat) : EntOk P 199 (f49A k) := entFnB_ok (f49Ok k)
/-! ## midrange/midrangeref01.signed -/
noncomputable def f82T (k : Nat) : Table := []
theorem f82TS (k : Nat) : Sound P (f82T k) := Sound.nil
theorem f82B : HasBody P 209 := ⟨Tryz.f209, Tryz.func209, by kernel_rfl, by kernel_rfl⟩
noncomputable def f82p0H : Shape := ⟨[(0, .one (.int .i64)), (1, .one (.int .i64))], [], 0, []⟩
noncomputable def f82p0X0 : Shape := ⟨[(0, .one (.int .i64)), (1, .one (.int .i64))], [], 0, []⟩
noncomputable def f82p0N : NoteR := ⟨[0, 1], [], []⟩
noncomputable def f82p0M : NoteR := ⟨[0, 1, 4, 5], [], []⟩
noncomputable def f82p0C : Code := firstC (codesAt 6 (codeOf Tryz.f209) 1)
noncomputable def f82p0 {R : Type} (k : Nat) (k0 : Int × Int × Unit → Option R) (v : Int × Int × Unit) : Option R :=
  bif (v.2.1 == (11 : Int)) then
    k0 ((IntKind.i64.wrap (0 - v.1)), v.2.1, ())
  else
  bif (v.2.1 == (13 : Int)) then
    k0 ((IntKind.i64.wrap (0 - v.1)), v.2.1, ())
  else
  k0 (v.1, v.2.1, ())
noncomputable def f82p0S (k : Nat) : Sum1 := partSum f82p0H f82p0N (fun R K v => f82p0 k (fun w => K .normal (encSt f82p0X0 w)) v)
theorem f82p0E (k : Nat) (R : Type) (K : X → St → Option R) (v : f82p0H.Den) : evS tab (f82T k) Tryz.f209.ntmps [] f82p0C 6 (partK f82p0M K) (encSt f82p0H v) = f82p0 k (fun w => K .normal (encSt f82p0X0 w)) v := by kernel_rfl
theorem f82p0I (k : Nat) : SumsOk P Tryz.f209.ntmps [] f82p0C 6 := SumsOk.nil
theorem f82p0O (k : Nat) : SumOk P Tryz.f209.ntmps f82p0C (f82p0S k) := sum_part tabOk (f82TS k) mixed (f82p0I k) (f82p0E k)
noncomputable def f82F (k : Nat) (x : Int × Int) : Option (Int × Bool) :=
  f82p0 k
    (fun (w1 : Int × Int × Unit) =>
      some (w1.1, (decide (w1.2.1 ≥ (10 : Int)))))
    (x.1, x.2, ())
noncomputable def f82L (k : Nat) : Sums := [(6, f82p0S k)]
theorem f82LS (k : Nat) : SumsOk P Tryz.f209.ntmps (f82L k) (codeOf Tryz.f209) 1 := (SumsOk.nil).cons (c := f82p0C) (by kernel_rfl) (f82p0O k)
theorem f82E (k : Nat) (x : Int × Int) : evFS tab (f82T k) (f82L k) Tryz.f209.ntmps Tryz.f209.results.toList (codeOf Tryz.f209) (argsV [.dat (.int .i64), .dat (.int .i64)] x) [.dat (.int .i64), .dat .bool] none = f82F k x := by kernel_rfl
theorem f82Ok (k : Nat) (x : Int × Int) (y : Int × Bool) (h : f82F k x = some y) : FnOk P 209 [.dat (.int .i64), .dat (.int .i64)] [.dat (.int .i64), .dat .bool] x y :=
  evFS_sound tabOk (f82TS k) mixed Tryz.func209 (c := codeOf Tryz.f209) (by kernel_rfl) (f82LS k) ((f82E k x).trans h)
noncomputable def f82A (k : Nat) := entFnB [.dat (.int .i64), .dat (.int .i64)] [.dat (.int .i64), .dat .bool] (f82F k)
theorem f82Ao (k : Nat) : EntOk P 209 (f82A k) := entFnB_ok (f82Ok k)
/-! ## midrange/midrangeref01.decodeZoned -/
noncomputable def f50T (k : Nat) : Table := [(209, f82A k)]
theorem f50TS (k : Nat) : Sound P (f50T k) := (Sound.nil).consE f82B (f82Ao k)
theorem f50B : HasBody P 200 := ⟨Tryz.f200, Tryz.func200, by kernel_rfl, by kernel_rfl⟩
noncomputable def f50p0H : Shape := ⟨[(0, .one (.str)), (2, .one (.ptr 0 0)), (5, .one (.int .i64)), (6, .one (.int .i64)), (7, .one (.int .i64))], [(0, .var 231 [.int .i64, .str])], 1, []⟩
noncomputable def f50p0X0 : Shape := ⟨[(0, .one (.str)), (2, .one (.ptr 0 0)), (5, .one (.int .i64)), (6, .one (.int .i64)), (7, .one (.int .i64))], [(0, .var 231 [.int .i64, .str])], 1, []⟩
noncomputable def f50p0N : NoteR := ⟨[0, 2, 5, 6, 7], [], []⟩
noncomputable def f50p0M : NoteR := ⟨[0, 2, 3, 4, 5, 6, 7], [], []⟩
noncomputable def f50p0C : Code := firstC (codesAt 1864 (codeOf Tryz.f200) 1)
noncomputable def f50p0 {R : Type} (k : Nat) (k0 : D70 → Option R) (v : D70) : Option R :=
  bif (v.2.2.2.1 == (IntKind.i64.wrap ((v.1.size : Int) - (1 : Int)))) then
    bif ((decide ((0 : Int) ≤ v.2.2.2.1)) && (decide (v.2.2.2.1 < (v.1.size : Int)))) then
    let t1 := (IntKind.i64.wrap (Int.tdiv (IntKind.i64.wrap (bt v.1 v.2.2.2.1)) (16 : Int)))
    k0 (v.1, v.2.1, t1, v.2.2.2.1, v.2.2.2.2.1, v.2.2.2.2.2.1, ())
    else none
  else
  k0 (v.1, v.2.1, v.2.2.1, v.2.2.2.1, v.2.2.2.2.1, v.2.2.2.2.2.1, ())
noncomputable def f50p0S (k : Nat) : Sum1 := partSum f50p0H f50p0N (fun R K v => f50p0 k (fun w => K .normal (encSt f50p0X0 w)) v)
theorem f50p0E (k : Nat) (R : Type) (K : X → St → Option R) (v : f50p0H.Den) : evS tab (f50T k) Tryz.f200.ntmps [] f50p0C 1864 (partK f50p0M K) (encSt f50p0H v) = f50p0 k (fun w => K .normal (encSt f50p0X0 w)) v := by kernel_rfl
theorem f50p0I (k : Nat) : SumsOk P Tryz.f200.ntmps [] f50p0C 1864 := SumsOk.nil
theorem f50p0O (k : Nat) : SumOk P Tryz.f200.ntmps f50p0C (f50p0S k) := sum_part tabOk (f50TS k) mixed (f50p0I k) (f50p0E k)
noncomputable def f50l1H : Shape := ⟨[(0, .one (.str)), (2, .one (.ptr 0 0)), (5, .one (.int .i64)), (6, .one (.int .i64)), (7, .one (.int .i64))], [(0, .var 231 [.int .i64, .str])], 1, []⟩
noncomputable def f50l1X0 : Shape := ⟨[(2, .one (.ptr 0 0)), (3, .one (.int .i64)), (4, .one (.int .i64)), (5, .one (.int .i64)), (6, .one (.int .i64))], [(0, .var 231 [.int .i64, .str])], 1, []⟩
noncomputable def f50l1X1 : Shape := ⟨[(2, .one (.ptr 0 0)), (5, .one (.int .i64)), (6, .one (.int .i64))], [(0, .var 231 [.int .i64, .str])], 1, []⟩
noncomputable def f50l1N : NoteR := ⟨[0, 2, 5, 6, 7], [], []⟩
noncomputable def f50l1M : NoteR := ⟨[2, 3, 4, 5, 6], [], []⟩
noncomputable def f50l1C : Code := firstC (codesAt 58 (codeOf Tryz.f200) 1)
noncomputable def f50l1s {R : Type} (k : Nat) (rec : D70 → Option R) (k0 : D71 → Option R) (k1 : D72 → Option R) (v : D70) : Option R :=
  bif (decide (v.2.2.2.1 < (v.1.size : Int))) then
    f50p0 k
      (fun (w2 : D70) =>
        bif (decide (w2.2.2.1 < (10 : Int))) then
          k0 (w2.2.2.2.1, (21 : Int), w2.2.1, w2.2.2.1, (0 : Int), ByteArray.empty, ())
        else
        bif ((decide ((0 : Int) ≤ w2.2.2.2.1)) && (decide (w2.2.2.2.1 < (w2.1.size : Int)))) then
        bif (decide ((Int.tmod (bt w2.1 w2.2.2.2.1) (16 : Int)) > (9 : Int))) then
          k0 (w2.2.2.2.1, (21 : Int), w2.2.1, w2.2.2.1, (0 : Int), ByteArray.empty, ())
        else
        bif ((decide ((0 : Int) ≤ w2.2.2.2.1)) && (decide (w2.2.2.2.1 < (w2.1.size : Int)))) then
        let t3 := (IntKind.i64.wrap ((IntKind.i64.wrap ((10 : Int) * w2.2.1)) + (Int.tmod (IntKind.i64.wrap (bt w2.1 w2.2.2.2.1)) (16 : Int))))
        rec (w2.1, t3, w2.2.2.1, (IntKind.i64.wrap (w2.2.2.2.1 + (1 : Int))), w2.2.2.2.2.1, w2.2.2.2.2.2.1, ())
        else none
        else none)
      (v.1, v.2.1, v.2.2.1, v.2.2.2.1, v.2.2.2.2.1, v.2.2.2.2.2.1, ())
  else
  k1 (v.2.1, v.2.2.1, v.2.2.2.2.1, v.2.2.2.2.2.1, ())
noncomputable def f50l1 {R : Type} (k : Nat) (k0 : D71 → Option R) (k1 : D72 → Option R) (v : D70) : Option R := iterS (fun rec v => f50l1s k rec k0 k1 v) k v
noncomputable def f50l1S (k : Nat) : Sum1 := loopSum f50l1H f50l1N k (fun R rec K v => f50l1s k rec (fun w => K .ret (encSt f50l1X0 w)) (fun w => K (.exit 0) (encSt f50l1X1 w)) v)
theorem f50l1E (k : Nat) (R : Type) (rec : St → Option R) (K : X → St → Option R) (v : f50l1H.Den) : evS tab (f50T k) Tryz.f200.ntmps [(1864, f50p0S k)] (bodyOf f50l1C) 116 (bodyK f50l1N f50l1M rec K) (encSt f50l1H v) = f50l1s k (fun v => rec (encSt f50l1H v)) (fun w => K .ret (encSt f50l1X0 w)) (fun w => K (.exit 0) (encSt f50l1X1 w)) v := by kernel_rfl
theorem f50l1I (k : Nat) : SumsOk P Tryz.f200.ntmps [(1864, f50p0S k)] (bodyOf f50l1C) 116 := (SumsOk.nil).cons (c := f50p0C) (by kernel_rfl) (f50p0O k)
theorem f50l1O (k : Nat) : SumOk P Tryz.f200.ntmps f50l1C (f50l1S k) := (show f50l1C = .loop (bodyOf f50l1C) by kernel_rfl) ▸ sum_loop tabOk (f50TS k) mixed (f50l1I k) (f50l1E k)
noncomputable def f50F (k : Nat) (x : ByteArray) : Option (D26) :=
  f50l1 k
    (fun (w4 : D71) =>
      some ((w4.2.2.2.2.1, w4.2.2.2.2.2.1), w4.1, w4.2.1))
    (fun (w5 : D72) =>
      Option.bind (f82F k (w5.1, w5.2.1)) fun y6 =>
      some ((y6.1, ByteArray.empty), (0 : Int), (0 : Int)))
    (x, (0 : Int), (15 : Int), (0 : Int), (0 : Int), ByteArray.empty, ())
noncomputable def f50L (k : Nat) : Sums := [(1864, f50p0S k), (58, f50l1S k)]
theorem f50LS (k : Nat) : SumsOk P Tryz.f200.ntmps (f50L k) (codeOf Tryz.f200) 1 := ((SumsOk.nil).cons (c := f50l1C) (by kernel_rfl) (f50l1O k)).cons (c := f50p0C) (by kernel_rfl) (f50p0O k)
theorem f50E (k : Nat) (x : ByteArray) : evFS tab (f50T k) (f50L k) Tryz.f200.ntmps Tryz.f200.results.toList (codeOf Tryz.f200) (argsV [.dat .str] x) [.agg Y5, .dat (.int .i64), .dat (.int .i64)] none = f50F k x := by kernel_rfl
theorem f50Ok (k : Nat) (x : ByteArray) (y : D26) (h : f50F k x = some y) : FnOk P 200 [.dat .str] [.agg Y5, .dat (.int .i64), .dat (.int .i64)] x y :=
  evFS_sound tabOk (f50TS k) mixed Tryz.func200 (c := codeOf Tryz.f200) (by kernel_rfl) (f50LS k) ((f50E k x).trans h)
noncomputable def f50A (k : Nat) := entFnB [.dat .str] [.agg Y5, .dat (.int .i64), .dat (.int .i64)] (f50F k)
theorem f50Ao (k : Nat) : EntOk P 200 (f50A k) := entFnB_ok (f50Ok k)
/-! ## midrange/midrangeref01.decodePacked -/
noncomputable def f51T (k : Nat) : Table := [(209, f82A k)]
theorem f51TS (k : Nat) : Sound P (f51T k) := (Sound.nil).consE f82B (f82Ao k)
theorem f51B : HasBody P 201 := ⟨Tryz.f201, Tryz.func201, by kernel_rfl, by kernel_rfl⟩
noncomputable def f51p0H : Shape := ⟨[(1, .one (.str)), (2, .one (.ptr 0 0)), (4, .one (.ptr 1 0)), (7, .one (.int .i64)), (8, .one (.int .i64)), (9, .one (.int .i64))], [(0, .var 154 [.int .i64, .int .i64, .int .i64]), (1, .var 231 [.int .i64, .str])], 2, []⟩
noncomputable def f51p0X0 : Shape := ⟨[(1, .one (.str)), (2, .one (.ptr 0 0)), (4, .one (.ptr 1 0)), (7, .one (.int .i64)), (8, .one (.int .i64)), (9, .one (.int .i64))], [(0, .var 154 [.int .i64, .int .i64, .int .i64]), (1, .var 231 [.int .i64, .str])], 2, []⟩
noncomputable def f51p0N : NoteR := ⟨[1, 2, 4, 7, 8, 9], [], []⟩
noncomputable def f51p0M : NoteR := ⟨[1, 2, 4, 5, 6, 7, 8, 9], [], []⟩
noncomputable def f51p0C : Code := firstC (codesAt 3730 (codeOf Tryz.f201) 1)
noncomputable def f51p0 {R : Type} (k : Nat) (k0 : D73 → Option R) (v : D73) : Option R :=
  bif ((Int.tmod v.2.2.1 (2 : Int)) == (1 : Int)) then
    bif ((decide ((0 : Int) ≤ (IntKind.i64.wrap (Int.tdiv v.2.2.1 (2 : Int))))) && (decide ((IntKind.i64.wrap (Int.tdiv v.2.2.1 (2 : Int))) < (v.1.size : Int)))) then
    let t2 := (IntKind.i64.wrap (bt v.1 (IntKind.i64.wrap (Int.tdiv v.2.2.1 (2 : Int)))))
    k0 (v.1, v.2.1, v.2.2.1, (Int.tmod t2 (16 : Int)), v.2.2.2.2.1, v.2.2.2.2.2.1, v.2.2.2.2.2.2.1, v.2.2.2.2.2.2.2.1, v.2.2.2.2.2.2.2.2.1, ())
    else none
  else
  k0 (v.1, v.2.1, v.2.2.1, v.2.2.2.1, v.2.2.2.2.1, v.2.2.2.2.2.1, v.2.2.2.2.2.2.1, v.2.2.2.2.2.2.2.1, v.2.2.2.2.2.2.2.2.1, ())
noncomputable def f51p0S (k : Nat) : Sum1 := partSum f51p0H f51p0N (fun R K v => f51p0 k (fun w => K .normal (encSt f51p0X0 w)) v)
theorem f51p0E (k : Nat) (R : Type) (K : X → St → Option R) (v : f51p0H.Den) : evS tab (f51T k) Tryz.f201.ntmps [] f51p0C 3730 (partK f51p0M K) (encSt f51p0H v) = f51p0 k (fun w => K .normal (encSt f51p0X0 w)) v := by kernel_rfl
theorem f51p0I (k : Nat) : SumsOk P Tryz.f201.ntmps [] f51p0C 3730 := SumsOk.nil
theorem f51p0O (k : Nat) : SumOk P Tryz.f201.ntmps f51p0C (f51p0S k) := sum_part tabOk (f51TS k) mixed (f51p0I k) (f51p0E k)
noncomputable def f51p1H : Shape := ⟨[(1, .one (.str)), (2, .one (.ptr 0 0)), (4, .one (.ptr 1 0)), (7, .one (.int .i64)), (8, .one (.int .i64)), (9, .one (.int .i64)), (10, .one (.bool))], [(0, .var 154 [.int .i64, .int .i64, .int .i64]), (1, .var 231 [.int .i64, .str])], 2, []⟩
noncomputable def f51p1X0 : Shape := ⟨[(1, .one (.str)), (2, .one (.ptr 0 0)), (4, .one (.ptr 1 0)), (7, .one (.int .i64)), (8, .one (.int .i64)), (9, .one (.int .i64)), (10, .one (.bool))], [(0, .var 154 [.int .i64, .int .i64, .int .i64]), (1, .var 231 [.int .i64, .str])], 2, []⟩
noncomputable def f51p1N : NoteR := ⟨[1, 2, 4, 7, 8, 9, 10], [], []⟩
noncomputable def f51p1M : NoteR := ⟨[1, 2, 4, 5, 6, 7, 8, 9, 10], [], []⟩
noncomputable def f51p1C : Code := firstC (codesAt 14926 (codeOf Tryz.f201) 1)
noncomputable def f51p1 {R : Type} (k : Nat) (k0 : D74 → Option R) (v : D74) : Option R :=
  let t4 := (IntKind.i64.wrap ((IntKind.i64.wrap ((2 : Int) * (v.1.size : Int))) - (1 : Int)))
  bif (v.2.2.1 == t4) then
    k0 (v.1, v.2.1, v.2.2.1, v.2.2.2.1, (decide (v.2.2.2.1 < (10 : Int))), v.2.2.2.2.2.1, v.2.2.2.2.2.2.1, v.2.2.2.2.2.2.2.1, v.2.2.2.2.2.2.2.2.1, v.2.2.2.2.2.2.2.2.2.1, ())
  else
  k0 (v.1, v.2.1, v.2.2.1, v.2.2.2.1, v.2.2.2.2.1, v.2.2.2.2.2.1, v.2.2.2.2.2.2.1, v.2.2.2.2.2.2.2.1, v.2.2.2.2.2.2.2.2.1, v.2.2.2.2.2.2.2.2.2.1, ())
noncomputable def f51p1S (k : Nat) : Sum1 := partSum f51p1H f51p1N (fun R K v => f51p1 k (fun w => K .normal (encSt f51p1X0 w)) v)
theorem f51p1E (k : Nat) (R : Type) (K : X → St → Option R) (v : f51p1H.Den) : evS tab (f51T k) Tryz.f201.ntmps [] f51p1C 14926 (partK f51p1M K) (encSt f51p1H v) = f51p1 k (fun w => K .normal (encSt f51p1X0 w)) v := by kernel_rfl
theorem f51p1I (k : Nat) : SumsOk P Tryz.f201.ntmps [] f51p1C 14926 := SumsOk.nil
theorem f51p1O (k : Nat) : SumOk P Tryz.f201.ntmps f51p1C (f51p1S k) := sum_part tabOk (f51TS k) mixed (f51p1I k) (f51p1E k)
noncomputable def f51p2H : Shape := ⟨[(1, .one (.str)), (2, .one (.ptr 0 0)), (4, .one (.ptr 1 0)), (7, .one (.int .i64)), (8, .one (.int .i64)), (9, .one (.int .i64)), (10, .one (.bool))], [(0, .var 154 [.int .i64, .int .i64, .int .i64]), (1, .var 231 [.int .i64, .str])], 2, []⟩
noncomputable def f51p2X0 : Shape := ⟨[(1, .one (.str)), (2, .one (.ptr 0 0)), (4, .one (.ptr 1 0)), (5, .one (.int .i64)), (6, .one (.int .i64)), (7, .one (.int .i64)), (8, .one (.int .i64)), (9, .one (.int .i64))], [(0, .var 154 [.int .i64, .int .i64, .int .i64]), (1, .var 231 [.int .i64, .str])], 2, []⟩
noncomputable def f51p2X1 : Shape := ⟨[(1, .one (.str)), (2, .one (.ptr 0 0)), (4, .one (.ptr 1 0)), (7, .one (.int .i64)), (8, .one (.int .i64)), (9, .one (.int .i64))], [(0, .var 154 [.int .i64, .int .i64, .int .i64]), (1, .var 231 [.int .i64, .str])], 2, []⟩
noncomputable def f51p2N : NoteR := ⟨[1, 2, 4, 7, 8, 9, 10], [], []⟩
noncomputable def f51p2M : NoteR := ⟨[1, 2, 4, 5, 6, 7, 8, 9], [], []⟩
noncomputable def f51p2C : Code := firstC (codesAt 29854 (codeOf Tryz.f201) 1)
noncomputable def f51p2 {R : Type} (k : Nat) (k0 : D75 → Option R) (k1 : D73 → Option R) (v : D74) : Option R :=
  bif v.2.2.2.2.1 then
    k0 (v.1, (IntKind.i64.wrap (Int.tdiv v.2.2.1 (2 : Int))), (21 : Int), v.2.1, v.2.2.1, v.2.2.2.1, v.2.2.2.2.2.1, v.2.2.2.2.2.2.1, v.2.2.2.2.2.2.2.1, (0 : Int), ByteArray.empty, ())
  else
  bif (v.2.2.1 == (0 : Int)) then
    bif ((Int.tmod v.2.2.2.2.2.2.1 (2 : Int)) == (0 : Int)) then
      bif (v.2.2.2.1 != (0 : Int)) then
        k0 (v.1, (IntKind.i64.wrap (Int.tdiv v.2.2.1 (2 : Int))), (21 : Int), v.2.1, v.2.2.1, v.2.2.2.1, v.2.2.2.2.2.1, v.2.2.2.2.2.2.1, v.2.2.2.2.2.2.2.1, (0 : Int), ByteArray.empty, ())
      else
      k1 (v.1, v.2.1, v.2.2.1, v.2.2.2.1, v.2.2.2.2.2.1, v.2.2.2.2.2.2.1, v.2.2.2.2.2.2.2.1, v.2.2.2.2.2.2.2.2.1, v.2.2.2.2.2.2.2.2.2.1, ())
    else
    k1 (v.1, v.2.1, v.2.2.1, v.2.2.2.1, v.2.2.2.2.2.1, v.2.2.2.2.2.2.1, v.2.2.2.2.2.2.2.1, v.2.2.2.2.2.2.2.2.1, v.2.2.2.2.2.2.2.2.2.1, ())
  else
  k1 (v.1, v.2.1, v.2.2.1, v.2.2.2.1, v.2.2.2.2.2.1, v.2.2.2.2.2.2.1, v.2.2.2.2.2.2.2.1, v.2.2.2.2.2.2.2.2.1, v.2.2.2.2.2.2.2.2.2.1, ())
noncomputable def f51p2S (k : Nat) : Sum1 := partSum f51p2H f51p2N (fun R K v => f51p2 k (fun w => K .ret (encSt f51p2X0 w)) (fun w => K .normal (encSt f51p2X1 w)) v)
theorem f51p2E (k : Nat) (R : Type) (K : X → St → Option R) (v : f51p2H.Den) : evS tab (f51T k) Tryz.f201.ntmps [] f51p2C 29854 (partK f51p2M K) (encSt f51p2H v) = f51p2 k (fun w => K .ret (encSt f51p2X0 w)) (fun w => K .normal (encSt f51p2X1 w)) v := by kernel_rfl
theorem f51p2I (k : Nat) : SumsOk P Tryz.f201.ntmps [] f51p2C 29854 := SumsOk.nil
theorem f51p2O (k : Nat) : SumOk P Tryz.f201.ntmps f51p2C (f51p2S k) := sum_part tabOk (f51TS k) mixed (f51p2I k) (f51p2E k)
noncomputable def f51p3H : Shape := ⟨[(1, .one (.str)), (2, .one (.ptr 0 0)), (4, .one (.ptr 1 0)), (7, .one (.int .i64)), (8, .one (.int .i64))], [(0, .var 154 [.int .i64, .int .i64, .int .i64]), (1, .var 231 [.int .i64, .str])], 2, []⟩
noncomputable def f51p3X0 : Shape := ⟨[(1, .one (.str)), (2, .one (.ptr 0 0)), (4, .one (.ptr 1 0)), (5, .one (.int .i64)), (6, .one (.int .i64)), (7, .one (.int .i64)), (8, .one (.int .i64))], [(0, .var 154 [.int .i64, .int .i64, .int .i64]), (1, .var 231 [.int .i64, .str])], 2, []⟩
noncomputable def f51p3X1 : Shape := ⟨[(1, .one (.str)), (2, .one (.ptr 0 0)), (4, .one (.ptr 1 0)), (7, .one (.int .i64)), (8, .one (.int .i64))], [(0, .var 154 [.int .i64, .int .i64, .int .i64]), (1, .var 231 [.int .i64, .str])], 2, []⟩
noncomputable def f51p3N : NoteR := ⟨[1, 2, 4, 7, 8], [], []⟩
noncomputable def f51p3M : NoteR := ⟨[1, 2, 4, 5, 6, 7, 8], [], []⟩
noncomputable def f51p3C : Code := firstC (codesAt 466 (codeOf Tryz.f201) 1)
noncomputable def f51p3 {R : Type} (k : Nat) (k0 : D76 → Option R) (k1 : D77 → Option R) (v : D77) : Option R :=
  bif ((decide ((0 : Int) ≤ (IntKind.i64.wrap (Int.tdiv v.2.2.1 (2 : Int))))) && (decide ((IntKind.i64.wrap (Int.tdiv v.2.2.1 (2 : Int))) < (v.1.size : Int)))) then
  let t1 := (IntKind.i64.wrap (bt v.1 (IntKind.i64.wrap (Int.tdiv v.2.2.1 (2 : Int)))))
  f51p0 k
    (fun (w3 : D73) =>
      f51p1 k
        (fun (w5 : D74) =>
          f51p2 k
            (fun (w6 : D75) =>
              k0 (w6.1, w6.2.1, w6.2.2.1, w6.2.2.2.1, w6.2.2.2.2.1, w6.2.2.2.2.2.2.1, w6.2.2.2.2.2.2.2.1, w6.2.2.2.2.2.2.2.2.1, w6.2.2.2.2.2.2.2.2.2.1, w6.2.2.2.2.2.2.2.2.2.2.1, ()))
            (fun (w7 : D73) =>
              let t8 := (IntKind.i64.wrap ((IntKind.i64.wrap ((2 : Int) * (w7.1.size : Int))) - (1 : Int)))
              bif (w7.2.2.1 == t8) then
                Option.bind (f82F k (w7.2.1, w7.2.2.2.1)) fun y9 =>
                k1 (w7.1, y9.1, w7.2.2.1, w7.2.2.2.2.1, w7.2.2.2.2.2.1, w7.2.2.2.2.2.2.1, w7.2.2.2.2.2.2.2.1, w7.2.2.2.2.2.2.2.2.1, ())
              else
              let t10 := (IntKind.i64.wrap ((IntKind.i64.wrap ((10 : Int) * w7.2.1)) + w7.2.2.2.1))
              k1 (w7.1, t10, w7.2.2.1, w7.2.2.2.2.1, w7.2.2.2.2.2.1, w7.2.2.2.2.2.2.1, w7.2.2.2.2.2.2.2.1, w7.2.2.2.2.2.2.2.2.1, ()))
            (w5.1, w5.2.1, w5.2.2.1, w5.2.2.2.1, w5.2.2.2.2.1, w5.2.2.2.2.2.1, w5.2.2.2.2.2.2.1, w5.2.2.2.2.2.2.2.1, w5.2.2.2.2.2.2.2.2.1, w5.2.2.2.2.2.2.2.2.2.1, ()))
        (w3.1, w3.2.1, w3.2.2.1, w3.2.2.2.1, (decide (w3.2.2.2.1 > (9 : Int))), w3.2.2.2.2.1, w3.2.2.2.2.2.1, w3.2.2.2.2.2.2.1, w3.2.2.2.2.2.2.2.1, w3.2.2.2.2.2.2.2.2.1, ()))
    (v.1, v.2.1, v.2.2.1, (IntKind.i64.wrap (Int.tdiv t1 (16 : Int))), v.2.2.2.1, v.2.2.2.2.1, v.2.2.2.2.2.1, v.2.2.2.2.2.2.1, v.2.2.2.2.2.2.2.1, ())
  else none
noncomputable def f51p3S (k : Nat) : Sum1 := partSum f51p3H f51p3N (fun R K v => f51p3 k (fun w => K .ret (encSt f51p3X0 w)) (fun w => K .normal (encSt f51p3X1 w)) v)
theorem f51p3E (k : Nat) (R : Type) (K : X → St → Option R) (v : f51p3H.Den) : evS tab (f51T k) Tryz.f201.ntmps [(3730, f51p0S k), (14926, f51p1S k), (29854, f51p2S k)] f51p3C 466 (partK f51p3M K) (encSt f51p3H v) = f51p3 k (fun w => K .ret (encSt f51p3X0 w)) (fun w => K .normal (encSt f51p3X1 w)) v := by kernel_rfl
theorem f51p3I (k : Nat) : SumsOk P Tryz.f201.ntmps [(3730, f51p0S k), (14926, f51p1S k), (29854, f51p2S k)] f51p3C 466 := (((SumsOk.nil).cons (c := f51p2C) (by kernel_rfl) (f51p2O k)).cons (c := f51p1C) (by kernel_rfl) (f51p1O k)).cons (c := f51p0C) (by kernel_rfl) (f51p0O k)
theorem f51p3O (k : Nat) : SumOk P Tryz.f201.ntmps f51p3C (f51p3S k) := sum_part tabOk (f51TS k) mixed (f51p3I k) (f51p3E k)
noncomputable def f51l4H : Shape := ⟨[(1, .one (.str)), (2, .one (.ptr 0 0)), (4, .one (.ptr 1 0)), (7, .one (.int .i64)), (8, .one (.int .i64))], [(0, .var 154 [.int .i64, .int .i64, .int .i64]), (1, .var 231 [.int .i64, .str])], 2, []⟩
noncomputable def f51l4X0 : Shape := ⟨[(4, .one (.ptr 0 0)), (5, .one (.int .i64)), (6, .one (.int .i64)), (7, .one (.int .i64))], [(0, .var 231 [.int .i64, .str])], 1, []⟩
noncomputable def f51l4X1 : Shape := ⟨[(4, .one (.ptr 0 0)), (7, .one (.int .i64))], [(0, .var 231 [.int .i64, .str])], 1, []⟩
noncomputable def f51l4N : NoteR := ⟨[1, 2, 4, 7, 8], [], []⟩
noncomputable def f51l4M : NoteR := ⟨[4, 5, 6, 7], [], []⟩
noncomputable def f51l4C : Code := firstC (codesAt 58 (codeOf Tryz.f201) 1)
noncomputable def f51l4s {R : Type} (k : Nat) (rec : D77 → Option R) (k0 : D78 → Option R) (k1 : D79 → Option R) (v : D77) : Option R :=
  bif (decide (v.2.2.1 < (IntKind.i64.wrap ((2 : Int) * (v.1.size : Int))))) then
    f51p3 k
      (fun (w11 : D76) =>
        k0 (w11.2.1, w11.2.2.1, w11.2.2.2.1, w11.2.2.2.2.2.2.2.2.1, w11.2.2.2.2.2.2.2.2.2.1, ()))
      (fun (w12 : D77) =>
        rec (w12.1, w12.2.1, (IntKind.i64.wrap (w12.2.2.1 + (1 : Int))), w12.2.2.2.1, w12.2.2.2.2.1, w12.2.2.2.2.2.1, w12.2.2.2.2.2.2.1, w12.2.2.2.2.2.2.2.1, ()))
      (v.1, v.2.1, v.2.2.1, v.2.2.2.1, v.2.2.2.2.1, v.2.2.2.2.2.1, v.2.2.2.2.2.2.1, v.2.2.2.2.2.2.2.1, ())
  else
  k1 (v.2.1, v.2.2.2.2.2.2.1, v.2.2.2.2.2.2.2.1, ())
noncomputable def f51l4 {R : Type} (k : Nat) (k0 : D78 → Option R) (k1 : D79 → Option R) (v : D77) : Option R := iterS (fun rec v => f51l4s k rec k0 k1 v) k v
noncomputable def f51l4S (k : Nat) : Sum1 := loopSum f51l4H f51l4N k (fun R rec K v => f51l4s k rec (fun w => K .ret (encSt f51l4X0 w)) (fun w => K (.exit 0) (encSt f51l4X1 w)) v)
theorem f51l4E (k : Nat) (R : Type) (rec : St → Option R) (K : X → St → Option R) (v : f51l4H.Den) : evS tab (f51T k) Tryz.f201.ntmps [(3730, f51p0S k), (14926, f51p1S k), (29854, f51p2S k), (466, f51p3S k)] (bodyOf f51l4C) 116 (bodyK f51l4N f51l4M rec K) (encSt f51l4H v) = f51l4s k (fun v => rec (encSt f51l4H v)) (fun w => K .ret (encSt f51l4X0 w)) (fun w => K (.exit 0) (encSt f51l4X1 w)) v := by kernel_rfl
theorem f51l4I (k : Nat) : SumsOk P Tryz.f201.ntmps [(3730, f51p0S k), (14926, f51p1S k), (29854, f51p2S k), (466, f51p3S k)] (bodyOf f51l4C) 116 := ((((SumsOk.nil).cons (c := f51p3C) (by kernel_rfl) (f51p3O k)).cons (c := f51p2C) (by kernel_rfl) (f51p2O k)).cons (c := f51p1C) (by kernel_rfl) (f51p1O k)).cons (c := f51p0C) (by kernel_rfl) (f51p0O k)
theorem f51l4O (k : Nat) : SumOk P Tryz.f201.ntmps f51l4C (f51l4S k) := (show f51l4C = .loop (bodyOf f51l4C) by kernel_rfl) ▸ sum_loop tabOk (f51TS k) mixed (f51l4I k) (f51l4E k)
noncomputable def f51F (k : Nat) (x : D18) : Option (D26) :=
  f51l4 k
    (fun (w13 : D78) =>
      some ((w13.2.2.2.1, w13.2.2.2.2.1), w13.1, w13.2.1))
    (fun (w14 : D79) =>
      some ((w14.1, ByteArray.empty), (0 : Int), (0 : Int)))
    (x.2, (0 : Int), (0 : Int), x.1.1, x.1.2.1, x.1.2.2, (0 : Int), ByteArray.empty, ())
noncomputable def f51L (k : Nat) : Sums := [(3730, f51p0S k), (14926, f51p1S k), (29854, f51p2S k), (466, f51p3S k), (58, f51l4S k)]
theorem f51LS (k : Nat) : SumsOk P Tryz.f201.ntmps (f51L k) (codeOf Tryz.f201) 1 := (((((SumsOk.nil).cons (c := f51l4C) (by kernel_rfl) (f51l4O k)).cons (c := f51p3C) (by kernel_rfl) (f51p3O k)).cons (c := f51p2C) (by kernel_rfl) (f51p2O k)).cons (c := f51p1C) (by kernel_rfl) (f51p1O k)).cons (c := f51p0C) (by kernel_rfl) (f51p0O k)
theorem f51E (k : Nat) (x : D18) : evFS tab (f51T k) (f51L k) Tryz.f201.ntmps Tryz.f201.results.toList (codeOf Tryz.f201) (argsV [.agg (.pair (.int .i64) Y0), .dat .str] x) [.agg Y5, .dat (.int .i64), .dat (.int .i64)] none = f51F k x := by kernel_rfl
theorem f51Ok (k : Nat) (x : D18) (y : D26) (h : f51F k x = some y) : FnOk P 201 [.agg (.pair (.int .i64) Y0), .dat .str] [.agg Y5, .dat (.int .i64), .dat (.int .i64)] x y :=
  evFS_sound tabOk (f51TS k) mixed Tryz.func201 (c := codeOf Tryz.f201) (by kernel_rfl) (f51LS k) ((f51E k x).trans h)
noncomputable def f51A (k : Nat) := entFnB [.agg (.pair (.int .i64) Y0), .dat .str] [.agg Y5, .dat (.int .i64), .dat (.int .i64)] (f51F k)
theorem f51Ao (k : Nat) : EntOk P 201 (f51A k) := entFnB_ok (f51Ok k)
/-! ## midrange/midrangeref01.Decode -/
noncomputable def f17T (k : Nat) : Table := [(64, f48A k), (124, f47A k), (166, f31A k), (177, f27A k), (199, f49A k), (200, f50A k), (201, f51A k)]
theorem f17TS (k : Nat) : Sound P (f17T k) := (((((((Sound.nil).consE f51B (f51Ao k)).consE f50B (f50Ao k)).consE f49B (f49Ao k)).consE f27B (f27Ao k)).consE f31B (f31Ao k)).consE f47B (f47Ao k)).consE f48B (f48Ao k)
theorem f17B : HasBody P 187 := ⟨Tryz.f187, Tryz.func187, by kernel_rfl, by kernel_rfl⟩
noncomputable def f17p0H : Shape := ⟨[(1, .one (.str)), (2, .one (.ptr 0 0)), (4, .one (.ptr 1 0)), (8, .one (.int .i64))], [(0, .var 154 [.int .i64, .int .i64, .int .i64]), (1, .var 231 [.int .i64, .str])], 2, []⟩
noncomputable def f17p0X0 : Shape := ⟨[(2, .one (.ptr 0 0)), (4, .one (.ptr 1 0)), (8, .one (.int .i64))], [(0, .var 154 [.int .i64, .int .i64, .int .i64]), (1, .var 231 [.int .i64, .str])], 2, []⟩
noncomputable def f17p0N : NoteR := ⟨[1, 2, 4, 8], [], []⟩
noncomputable def f17p0M : NoteR := ⟨[2, 4, 5, 6, 8], [], []⟩
noncomputable def f17p0C : Code := firstC (codesAt 16058 (codeOf Tryz.f187) 1)
noncomputable def f17p0 {R : Type} (k : Nat) (k0 : D71 → Option R) (v : D25) : Option R :=
  bif (decide ((0 : Int) < (v.1.size : Int))) then
  bif (decide ((bt v.1 (0 : Int)) ≥ (128 : Int))) then
    bif (decide ((0 : Int) ≤ (IntKind.i64.wrap ((8 : Int) * (v.1.size : Int))))) then
    let t4 := (shlI .i64 (1 : Int) (IntKind.i64.wrap ((8 : Int) * (v.1.size : Int))))
    k0 ((IntKind.i64.wrap (v.2.1 - t4)), v.2.2.1, v.2.2.2.1, v.2.2.2.2.1, v.2.2.2.2.2.1, v.2.2.2.2.2.2.1, ())
    else none
  else
  k0 (v.2.1, v.2.2.1, v.2.2.2.1, v.2.2.2.2.1, v.2.2.2.2.2.1, v.2.2.2.2.2.2.1, ())
  else none
noncomputable def f17p0S (k : Nat) : Sum1 := partSum f17p0H f17p0N (fun R K v => f17p0 k (fun w => K .normal (encSt f17p0X0 w)) v)
theorem f17p0E (k : Nat) (R : Type) (K : X → St → Option R) (v : f17p0H.Den) : evS tab (f17T k) Tryz.f187.ntmps [] f17p0C 16058 (partK f17p0M K) (encSt f17p0H v) = f17p0 k (fun w => K .normal (encSt f17p0X0 w)) v := by kernel_rfl
theorem f17p0I (k : Nat) : SumsOk P Tryz.f187.ntmps [] f17p0C 16058 := SumsOk.nil
theorem f17p0O (k : Nat) : SumOk P Tryz.f187.ntmps f17p0C (f17p0S k) := sum_part tabOk (f17TS k) mixed (f17p0I k) (f17p0E k)
noncomputable def f17F (k : Nat) (x : D18) : Option (D26) :=
  Option.bind (f27F k (x.1.1, (x.1.2.1, x.1.2.2))) fun y1 =>
  bif (y1 != (0 : Int)) then
    some (((0 : Int), ByteArray.empty), (0 : Int), y1)
  else
  bif (x.1.1 == (4 : Int)) then
    some (((0 : Int), ByteArray.empty), (0 : Int), (17 : Int))
  else
  Option.bind (f31F k (x.1.1, (x.1.2.1, x.1.2.2))) fun y2 =>
  bif ((x.2.size : Int) != y2) then
    some (((0 : Int), ByteArray.empty), (0 : Int), (18 : Int))
  else
  bif (x.1.1 == (0 : Int)) then
    some (((0 : Int), x.2), (0 : Int), (0 : Int))
  else
  bif (x.1.1 == (3 : Int)) then
    Option.bind (f47F k (x.2, (0 : Int), (x.2.size : Int))) fun y3 =>
    f17p0 k
      (fun (w5 : D71) =>
        Option.bind (f49F k (w5.2.1, (w5.2.2.1, w5.2.2.2.1))) fun y6 =>
        Option.bind (f49F k (w5.2.1, (w5.2.2.1, w5.2.2.2.1))) fun y7 =>
        Option.bind (f48F k (w5.1, (IntKind.i64.wrap (0 - y6)), y7)) fun y8 =>
        bif (!y8) then
          some (((0 : Int), ByteArray.empty), (0 : Int), (19 : Int))
        else
        some ((w5.1, ByteArray.empty), (0 : Int), (0 : Int)))
      (x.2, y3, x.1.1, x.1.2.1, x.1.2.2, (0 : Int), ByteArray.empty, ())
  else
  bif (x.1.1 == (2 : Int)) then
    Option.bind (f50F k x.2) fun y9 =>
    some ((y9.1.1, y9.1.2), y9.2.1, y9.2.2)
  else
  Option.bind (f51F k ((x.1.1, (x.1.2.1, x.1.2.2)), x.2)) fun y10 =>
  some ((y10.1.1, y10.1.2), y10.2.1, y10.2.2)
noncomputable def f17L (k : Nat) : Sums := [(16058, f17p0S k)]
theorem f17LS (k : Nat) : SumsOk P Tryz.f187.ntmps (f17L k) (codeOf Tryz.f187) 1 := (SumsOk.nil).cons (c := f17p0C) (by kernel_rfl) (f17p0O k)
theorem f17E (k : Nat) (x : D18) : evFS tab (f17T k) (f17L k) Tryz.f187.ntmps Tryz.f187.results.toList (codeOf Tryz.f187) (argsV [.agg (.pair (.int .i64) Y0), .dat .str] x) [.agg Y5, .dat (.int .i64), .dat (.int .i64)] none = f17F k x := by kernel_rfl
theorem f17Ok (k : Nat) (x : D18) (y : D26) (h : f17F k x = some y) : FnOk P 187 [.agg (.pair (.int .i64) Y0), .dat .str] [.agg Y5, .dat (.int .i64), .dat (.int .i64)] x y :=
  evFS_sound tabOk (f17TS k) mixed Tryz.func187 (c := codeOf Tryz.f187) (by kernel_rfl) (f17LS k) ((f17E k x).trans h)
noncomputable def f17A (k : Nat) := entFnB [.agg (.pair (.int .i64) Y0), .dat .str] [.agg Y5, .dat (.int .i64), .dat (.int .i64)] (f17F k)
theorem f17Ao (k : Nat) : EntOk P 187 (f17A k) := entFnB_ok (f17Ok k)
/-! ## midrange/midrangeref26.BytesErr -/
noncomputable def f671T (k : Nat) : Table := [(118, f618A k), (186, f686A k), (187, f17A k), (188, f688A k)]
theorem f671TS (k : Nat) : Sound P (f671T k) := ((((Sound.nil).consE f688B (f688Ao k)).consE f17B (f17Ao k)).consE f686B (f686Ao k)).consE f618B (f618Ao k)
theorem f671B : HasBody P 171 := ⟨Tryz.f171, Tryz.func171, by kernel_rfl, by kernel_rfl⟩
noncomputable def f671l0H : Shape := ⟨[(1, .one (.str)), (2, .one (.ptr 0 0)), (7, .one (.int .i64))], [(0, .var 46 [.str, .ro Y1])], 1, []⟩
noncomputable def f671l0X0 : Shape := ⟨[(4, .one (.int .i64)), (5, .one (.int .i64))], [], 0, []⟩
noncomputable def f671l0X1 : Shape := ⟨[], [], 0, []⟩
noncomputable def f671l0N : NoteR := ⟨[1, 2, 7], [], []⟩
noncomputable def f671l0M : NoteR := ⟨[4, 5], [], []⟩
noncomputable def f671l0C : Code := firstC (codesAt 122 (codeOf Tryz.f171) 1)
noncomputable def f671l0s {R : Type} (k : Nat) (rec : D58 → Option R) (k0 : Int × Int × Unit → Option R) (k1 : Unit → Option R) (v : D58) : Option R :=
  bif (decide (v.2.1 < (v.2.2.2.1.length : Int))) then
    bif ((decide ((0 : Int) ≤ v.2.1)) && (decide (v.2.1 < (v.2.2.2.1.length : Int)))) then
    let t3 := (v.2.2.2.1.getD (Int.toNat v.2.1) (ByteArray.empty, ((0 : Int), ((0 : Int), (0 : Int)))))
    Option.bind (f688F k ((v.2.2.1, v.2.2.2.1), v.1, v.2.1)) fun y4 =>
    Option.bind (f17F k ((t3.2.1, (t3.2.2.1, t3.2.2.2)), y4)) fun y5 =>
    bif (y5.2.2 != (0 : Int)) then
      k0 (v.2.1, y5.2.2, ())
    else
    rec (v.1, (IntKind.i64.wrap (v.2.1 + (1 : Int))), v.2.2.1, v.2.2.2.1, ())
    else none
  else
  k1 (())
noncomputable def f671l0 {R : Type} (k : Nat) (k0 : Int × Int × Unit → Option R) (k1 : Unit → Option R) (v : D58) : Option R := iterS (fun rec v => f671l0s k rec k0 k1 v) k v
noncomputable def f671l0S (k : Nat) : Sum1 := loopSum f671l0H f671l0N k (fun R rec K v => f671l0s k rec (fun w => K .ret (encSt f671l0X0 w)) (fun w => K (.exit 0) (encSt f671l0X1 w)) v)
theorem f671l0E (k : Nat) (R : Type) (rec : St → Option R) (K : X → St → Option R) (v : f671l0H.Den) : evS tab (f671T k) Tryz.f171.ntmps [] (bodyOf f671l0C) 244 (bodyK f671l0N f671l0M rec K) (encSt f671l0H v) = f671l0s k (fun v => rec (encSt f671l0H v)) (fun w => K .ret (encSt f671l0X0 w)) (fun w => K (.exit 0) (encSt f671l0X1 w)) v := by kernel_rfl
theorem f671l0I (k : Nat) : SumsOk P Tryz.f171.ntmps [] (bodyOf f671l0C) 244 := SumsOk.nil
theorem f671l0O (k : Nat) : SumOk P Tryz.f171.ntmps f671l0C (f671l0S k) := (show f671l0C = .loop (bodyOf f671l0C) by kernel_rfl) ▸ sum_loop tabOk (f671TS k) mixed (f671l0I k) (f671l0E k)
noncomputable def f671F (k : Nat) (x : D8) : Option (Int × Int) :=
  Option.bind (f686F k (x.1.1, x.1.2)) fun y1 =>
  bif (y1 != (0 : Int)) then
    some ((0 : Int), y1)
  else
  Option.bind (f618F k (x.1.1, x.1.2)) fun y2 =>
  bif ((x.2.size : Int) != y2) then
    some ((0 : Int), (18 : Int))
  else
  f671l0 k
    (fun (w6 : Int × Int × Unit) =>
      some (w6.1, w6.2.1))
    (fun (w7 : Unit) =>
      some ((0 : Int), (0 : Int)))
    (x.2, (0 : Int), x.1.1, x.1.2, ())
noncomputable def f671L (k : Nat) : Sums := [(122, f671l0S k)]
theorem f671LS (k : Nat) : SumsOk P Tryz.f171.ntmps (f671L k) (codeOf Tryz.f171) 1 := (SumsOk.nil).cons (c := f671l0C) (by kernel_rfl) (f671l0O k)
theorem f671E (k : Nat) (x : D8) : evFS tab (f671T k) (f671L k) Tryz.f171.ntmps Tryz.f171.results.toList (codeOf Tryz.f171) (argsV [.agg Y2, .dat .str] x) [.dat (.int .i64), .dat (.int .i64)] none = f671F k x := by kernel_rfl
theorem f671Ok (k : Nat) (x : D8) (y : Int × Int) (h : f671F k x = some y) : FnOk P 171 [.agg Y2, .dat .str] [.dat (.int .i64), .dat (.int .i64)] x y :=
  evFS_sound tabOk (f671TS k) mixed Tryz.func171 (c := codeOf Tryz.f171) (by kernel_rfl) (f671LS k) ((f671E k x).trans h)
noncomputable def f671A (k : Nat) := entFnB [.agg Y2, .dat .str] [.dat (.int .i64), .dat (.int .i64)] (f671F k)
theorem f671Ao (k : Nat) : EntOk P 171 (f671A k) := entFnB_ok (f671Ok k)
/-! ## midrange/midrangeref26.Err -/
noncomputable def f655T (k : Nat) : Table := [(171, f671A k)]
theorem f655TS (k : Nat) : Sound P (f655T k) := (Sound.nil).consE f671B (f671Ao k)
theorem f655B : HasBody P 155 := ⟨Tryz.f155, Tryz.func155, by kernel_rfl, by kernel_rfl⟩
noncomputable def f655F (k : Nat) (x : D8) : Option (Int) :=
  Option.bind (f671F k ((x.1.1, x.1.2), x.2)) fun y1 =>
  some y1.2
noncomputable def f655L (k : Nat) : Sums := []
theorem f655LS (k : Nat) : SumsOk P Tryz.f155.ntmps (f655L k) (codeOf Tryz.f155) 1 := SumsOk.nil
theorem f655E (k : Nat) (x : D8) : evFS tab (f655T k) (f655L k) Tryz.f155.ntmps Tryz.f155.results.toList (codeOf Tryz.f155) (argsV [.agg Y2, .dat .str] x) [.dat (.int .i64)] none = f655F k x := by kernel_rfl
theorem f655Ok (k : Nat) (x : D8) (y : Int) (h : f655F k x = some y) : FnOk P 155 [.agg Y2, .dat .str] [.dat (.int .i64)] x y :=
  evFS_sound tabOk (f655TS k) mixed Tryz.func155 (c := codeOf Tryz.f155) (by kernel_rfl) (f655LS k) ((f655E k x).trans h)
noncomputable def f655A (k : Nat) := entFnB [.agg Y2, .dat .str] [.dat (.int .i64)] (f655F k)
theorem f655Ao (k : Nat) : EntOk P 155 (f655A k) := entFnB_ok (f655Ok k)
/-! ## midrange/midrangeref26.Check -/
noncomputable def f635T (k : Nat) : Table := [(27, f527A k), (155, f655A k)]
theorem f635TS (k : Nat) : Sound P (f635T k) := ((Sound.nil).consE f655B (f655Ao k)).consE f527B (f527Ao k)
theorem f635B : HasBody P 135 := ⟨Tryz.f135, Tryz.func135, by kernel_rfl, by kernel_rfl⟩
noncomputable def f635p0H : Shape := ⟨[(1, .one (.ptr 0 0)), (5, .one (.int .i64)), (6, .one (.ptr 1 0))], [(0, .var 52 [.str, .str, .ro Y1, .ro (.pair .str .bool), .bool, .ro (.pair .bool .str)]), (1, .var 100 [.bool, .str])], 2, []⟩
noncomputable def f635p0X0 : Shape := ⟨[(1, .one (.ptr 0 0)), (2, .one (.int .i64)), (3, .one (.int .i64)), (5, .one (.int .i64)), (6, .one (.ptr 1 0))], [(0, .var 52 [.str, .str, .ro Y1, .ro (.pair .str .bool), .bool, .ro (.pair .bool .str)]), (1, .var 100 [.bool, .str])], 2, []⟩
noncomputable def f635p0X1 : Shape := ⟨[(1, .one (.ptr 0 0)), (5, .one (.int .i64)), (6, .one (.ptr 1 0))], [(0, .var 52 [.str, .str, .ro Y1, .ro (.pair .str .bool), .bool, .ro (.pair .bool .str)]), (1, .var 100 [.bool, .str])], 2, []⟩
noncomputable def f635p0N : NoteR := ⟨[1, 5, 6], [], []⟩
noncomputable def f635p0M : NoteR := ⟨[1, 2, 3, 5, 6], [], []⟩
noncomputable def f635p0C : Code := firstC (codesAt 7826 (codeOf Tryz.f135) 1)
noncomputable def f635p0 {R : Type} (k : Nat) (k0 : D80 → Option R) (k1 : D81 → Option R) (v : D81) : Option R :=
  bif v.2.2.2.2.2.2.2.1 then
    bif (!strEq v.2.2.2.2.2.2.2.2.1 ByteArray.empty) then
      k0 (v.1, (5 : Int), v.1, v.2.1, v.2.2.1, v.2.2.2.1, v.2.2.2.2.1, v.2.2.2.2.2.1, v.2.2.2.2.2.2.1, v.2.2.2.2.2.2.2.1, v.2.2.2.2.2.2.2.2.1, ())
    else
    k1 (v.1, v.2.1, v.2.2.1, v.2.2.2.1, v.2.2.2.2.1, v.2.2.2.2.2.1, v.2.2.2.2.2.2.1, v.2.2.2.2.2.2.2.1, v.2.2.2.2.2.2.2.2.1, ())
  else
  k1 (v.1, v.2.1, v.2.2.1, v.2.2.2.1, v.2.2.2.2.1, v.2.2.2.2.2.1, v.2.2.2.2.2.2.1, v.2.2.2.2.2.2.2.1, v.2.2.2.2.2.2.2.2.1, ())
noncomputable def f635p0S (k : Nat) : Sum1 := partSum f635p0H f635p0N (fun R K v => f635p0 k (fun w => K .ret (encSt f635p0X0 w)) (fun w => K .normal (encSt f635p0X1 w)) v)
theorem f635p0E (k : Nat) (R : Type) (K : X → St → Option R) (v : f635p0H.Den) : evS tab (f635T k) Tryz.f135.ntmps [] f635p0C 7826 (partK f635p0M K) (encSt f635p0H v) = f635p0 k (fun w => K .ret (encSt f635p0X0 w)) (fun w => K .normal (encSt f635p0X1 w)) v := by kernel_rfl
theorem f635p0I (k : Nat) : SumsOk P Tryz.f135.ntmps [] f635p0C 7826 := SumsOk.nil
theorem f635p0O (k : Nat) : SumOk P Tryz.f135.ntmps f635p0C (f635p0S k) := sum_part tabOk (f635TS k) mixed (f635p0I k) (f635p0E k)
noncomputable def f635p1H : Shape := ⟨[(1, .one (.ptr 0 0)), (5, .one (.int .i64))], [(0, .var 52 [.str, .str, .ro Y1, .ro (.pair .str .bool), .bool, .ro (.pair .bool .str)])], 1, []⟩
noncomputable def f635p1X0 : Shape := ⟨[(1, .one (.ptr 0 0)), (2, .one (.int .i64)), (3, .one (.int .i64)), (5, .one (.int .i64))], [(0, .var 52 [.str, .str, .ro Y1, .ro (.pair .str .bool), .bool, .ro (.pair .bool .str)])], 1, []⟩
noncomputable def f635p1X1 : Shape := ⟨[(1, .one (.ptr 0 0)), (5, .one (.int .i64))], [(0, .var 52 [.str, .str, .ro Y1, .ro (.pair .str .bool), .bool, .ro (.pair .bool .str)])], 1, []⟩
noncomputable def f635p1N : NoteR := ⟨[1, 5], [], []⟩
noncomputable def f635p1M : NoteR := ⟨[1, 2, 3, 5], [], []⟩
noncomputable def f635p1C : Code := firstC (codesAt 978 (codeOf Tryz.f135) 1)
noncomputable def f635p1 {R : Type} (k : Nat) (k0 : D82 → Option R) (k1 : D83 → Option R) (v : D83) : Option R :=
  bif ((decide ((0 : Int) ≤ v.1)) && (decide (v.1 < (v.2.2.2.2.2.2.1.length : Int)))) then
  f635p0 k
    (fun (w2 : D80) =>
      k0 (w2.1, w2.2.1, w2.2.2.1, w2.2.2.2.1, w2.2.2.2.2.1, w2.2.2.2.2.2.1, w2.2.2.2.2.2.2.1, w2.2.2.2.2.2.2.2.1, w2.2.2.2.2.2.2.2.2.1, ()))
    (fun (w3 : D81) =>
      bif (!w3.2.2.2.2.2.2.2.1) then
        Option.bind (f655F k ((w3.2.2.1, w3.2.2.2.1), w3.2.2.2.2.2.2.2.2.1)) fun y4 =>
        bif (y4 != (0 : Int)) then
          k0 (w3.1, y4, w3.1, w3.2.1, w3.2.2.1, w3.2.2.2.1, w3.2.2.2.2.1, w3.2.2.2.2.2.1, w3.2.2.2.2.2.2.1, ())
        else
        k1 (w3.1, w3.2.1, w3.2.2.1, w3.2.2.2.1, w3.2.2.2.2.1, w3.2.2.2.2.2.1, w3.2.2.2.2.2.2.1, ())
      else
      k1 (w3.1, w3.2.1, w3.2.2.1, w3.2.2.2.1, w3.2.2.2.2.1, w3.2.2.2.2.2.1, w3.2.2.2.2.2.2.1, ()))
    (v.1, v.2.1, v.2.2.1, v.2.2.2.1, v.2.2.2.2.1, v.2.2.2.2.2.1, v.2.2.2.2.2.2.1, (v.2.2.2.2.2.2.1.getD (Int.toNat v.1) (false, ByteArray.empty)).1, (v.2.2.2.2.2.2.1.getD (Int.toNat v.1) (false, ByteArray.empty)).2, ())
  else none
noncomputable def f635p1S (k : Nat) : Sum1 := partSum f635p1H f635p1N (fun R K v => f635p1 k (fun w => K .ret (encSt f635p1X0 w)) (fun w => K .normal (encSt f635p1X1 w)) v)
theorem f635p1E (k : Nat) (R : Type) (K : X → St → Option R) (v : f635p1H.Den) : evS tab (f635T k) Tryz.f135.ntmps [(7826, f635p0S k)] f635p1C 978 (partK f635p1M K) (encSt f635p1H v) = f635p1 k (fun w => K .ret (encSt f635p1X0 w)) (fun w => K .normal (encSt f635p1X1 w)) v := by kernel_rfl
theorem f635p1I (k : Nat) : SumsOk P Tryz.f135.ntmps [(7826, f635p0S k)] f635p1C 978 := (SumsOk.nil).cons (c := f635p0C) (by kernel_rfl) (f635p0O k)
theorem f635p1O (k : Nat) : SumOk P Tryz.f135.ntmps f635p1C (f635p1S k) := sum_part tabOk (f635TS k) mixed (f635p1I k) (f635p1E k)
noncomputable def f635l2H : Shape := ⟨[(1, .one (.ptr 0 0)), (5, .one (.int .i64))], [(0, .var 52 [.str, .str, .ro Y1, .ro (.pair .str .bool), .bool, .ro (.pair .bool .str)])], 1, []⟩
noncomputable def f635l2X0 : Shape := ⟨[(2, .one (.int .i64)), (3, .one (.int .i64))], [], 0, []⟩
noncomputable def f635l2X1 : Shape := ⟨[], [], 0, []⟩
noncomputable def f635l2N : NoteR := ⟨[1, 5], [], []⟩
noncomputable def f635l2M : NoteR := ⟨[2, 3], [], []⟩
noncomputable def f635l2C : Code := firstC (codesAt 122 (codeOf Tryz.f135) 1)
noncomputable def f635l2s {R : Type} (k : Nat) (rec : D83 → Option R) (k0 : Int × Int × Unit → Option R) (k1 : Unit → Option R) (v : D83) : Option R :=
  bif (decide (v.1 < (v.2.2.2.2.2.2.1.length : Int))) then
    f635p1 k
      (fun (w5 : D82) =>
        k0 (w5.1, w5.2.1, ()))
      (fun (w6 : D83) =>
        rec ((IntKind.i64.wrap (w6.1 + (1 : Int))), w6.2.1, w6.2.2.1, w6.2.2.2.1, w6.2.2.2.2.1, w6.2.2.2.2.2.1, w6.2.2.2.2.2.2.1, ()))
      (v.1, v.2.1, v.2.2.1, v.2.2.2.1, v.2.2.2.2.1, v.2.2.2.2.2.1, v.2.2.2.2.2.2.1, ())
  else
  k1 (())
noncomputable def f635l2 {R : Type} (k : Nat) (k0 : Int × Int × Unit → Option R) (k1 : Unit → Option R) (v : D83) : Option R := iterS (fun rec v => f635l2s k rec k0 k1 v) k v
noncomputable def f635l2S (k : Nat) : Sum1 := loopSum f635l2H f635l2N k (fun R rec K v => f635l2s k rec (fun w => K .ret (encSt f635l2X0 w)) (fun w => K (.exit 0) (encSt f635l2X1 w)) v)
theorem f635l2E (k : Nat) (R : Type) (rec : St → Option R) (K : X → St → Option R) (v : f635l2H.Den) : evS tab (f635T k) Tryz.f135.ntmps [(7826, f635p0S k), (978, f635p1S k)] (bodyOf f635l2C) 244 (bodyK f635l2N f635l2M rec K) (encSt f635l2H v) = f635l2s k (fun v => rec (encSt f635l2H v)) (fun w => K .ret (encSt f635l2X0 w)) (fun w => K (.exit 0) (encSt f635l2X1 w)) v := by kernel_rfl
theorem f635l2I (k : Nat) : SumsOk P Tryz.f135.ntmps [(7826, f635p0S k), (978, f635p1S k)] (bodyOf f635l2C) 244 := ((SumsOk.nil).cons (c := f635p1C) (by kernel_rfl) (f635p1O k)).cons (c := f635p0C) (by kernel_rfl) (f635p0O k)
theorem f635l2O (k : Nat) : SumOk P Tryz.f135.ntmps f635l2C (f635l2S k) := (show f635l2C = .loop (bodyOf f635l2C) by kernel_rfl) ▸ sum_loop tabOk (f635TS k) mixed (f635l2I k) (f635l2E k)
noncomputable def f635F (k : Nat) (x : D34) : Option (Int × Int) :=
  Option.bind (f527F k (x.1.1, ((x.1.2.1.1, x.1.2.1.2), (x.1.2.2.1, x.1.2.2.2)))) fun y1 =>
  bif (y1 != (0 : Int)) then
    some ((0 : Int), y1)
  else
  bif (decide ((x.2.length : Int) > (60 : Int))) then
    some ((0 : Int), (2 : Int))
  else
  f635l2 k
    (fun (w7 : Int × Int × Unit) =>
      some (w7.1, w7.2.1))
    (fun (w8 : Unit) =>
      some ((0 : Int), (0 : Int)))
    ((0 : Int), x.1.1, x.1.2.1.1, x.1.2.1.2, x.1.2.2.1, x.1.2.2.2, x.2, ())
noncomputable def f635L (k : Nat) : Sums := [(7826, f635p0S k), (978, f635p1S k), (122, f635l2S k)]
theorem f635LS (k : Nat) : SumsOk P Tryz.f135.ntmps (f635L k) (codeOf Tryz.f135) 1 := (((SumsOk.nil).cons (c := f635l2C) (by kernel_rfl) (f635l2O k)).cons (c := f635p1C) (by kernel_rfl) (f635p1O k)).cons (c := f635p0C) (by kernel_rfl) (f635p0O k)
theorem f635E (k : Nat) (x : D34) : evFS tab (f635T k) (f635L k) Tryz.f135.ntmps Tryz.f135.results.toList (codeOf Tryz.f135) (argsV [.agg Y6] x) [.dat (.int .i64), .dat (.int .i64)] none = f635F k x := by kernel_rfl
theorem f635Ok (k : Nat) (x : D34) (y : Int × Int) (h : f635F k x = some y) : FnOk P 135 [.agg Y6] [.dat (.int .i64), .dat (.int .i64)] x y :=
  evFS_sound tabOk (f635TS k) mixed Tryz.func135 (c := codeOf Tryz.f135) (by kernel_rfl) (f635LS k) ((f635E k x).trans h)
noncomputable def f635A (k : Nat) := entFnB [.agg Y6] [.dat (.int .i64), .dat (.int .i64)] (f635F k)
theorem f635Ao (k : Nat) : EntOk P 135 (f635A k) := entFnB_ok (f635Ok k)
/-! ## midrange/midrangeref26.TableErr -/
noncomputable def f599T (k : Nat) : Table := [(135, f635A k)]
theorem f599TS (k : Nat) : Sound P (f599T k) := (Sound.nil).consE f635B (f635Ao k)
theorem f599B : HasBody P 99 := ⟨Tryz.f99, Tryz.func99, by kernel_rfl, by kernel_rfl⟩
noncomputable def f599F (k : Nat) (x : D34) : Option (Int) :=
  Option.bind (f635F k ((x.1.1, ((x.1.2.1.1, x.1.2.1.2), (x.1.2.2.1, x.1.2.2.2))), x.2)) fun y1 =>
  some y1.2
noncomputable def f599L (k : Nat) : Sums := []
theorem f599LS (k : Nat) : SumsOk P Tryz.f99.ntmps (f599L k) (codeOf Tryz.f99) 1 := SumsOk.nil
theorem f599E (k : Nat) (x : D34) : evFS tab (f599T k) (f599L k) Tryz.f99.ntmps Tryz.f99.results.toList (codeOf Tryz.f99) (argsV [.agg Y6] x) [.dat (.int .i64)] none = f599F k x := by kernel_rfl
theorem f599Ok (k : Nat) (x : D34) (y : Int) (h : f599F k x = some y) : FnOk P 99 [.agg Y6] [.dat (.int .i64)] x y :=
  evFS_sound tabOk (f599TS k) mixed Tryz.func99 (c := codeOf Tryz.f99) (by kernel_rfl) (f599LS k) ((f599E k x).trans h)
noncomputable def f599A (k : Nat) := entFnB [.agg Y6] [.dat (.int .i64)] (f599F k)
theorem f599Ao (k : Nat) : EntOk P 99 (f599A k) := entFnB_ok (f599Ok k)
/-! ## midrange/midrangeref26.TableAt -/
noncomputable def f545T (k : Nat) : Table := []
theorem f545TS (k : Nat) : Sound P (f545T k) := Sound.nil
theorem f545B : HasBody P 45 := ⟨Tryz.f45, Tryz.func45, by kernel_rfl, by kernel_rfl⟩
noncomputable def f545l0H : Shape := ⟨[(0, .one (.ro Y6)), (1, .one (.str)), (5, .one (.int .i64))], [], 0, []⟩
noncomputable def f545l0X0 : Shape := ⟨[(4, .one (.int .i64))], [], 0, []⟩
noncomputable def f545l0X1 : Shape := ⟨[], [], 0, []⟩
noncomputable def f545l0N : NoteR := ⟨[0, 1, 5], [], []⟩
noncomputable def f545l0M : NoteR := ⟨[4], [], []⟩
noncomputable def f545l0C : Code := firstC (codesAt 26 (codeOf Tryz.f45) 1)
noncomputable def f545l0s {R : Type} (k : Nat) (rec : D84 → Option R) (k0 : Int × Unit → Option R) (k1 : Unit → Option R) (v : D84) : Option R :=
  bif (decide (v.2.2.1 < (v.1.length : Int))) then
    bif ((decide ((0 : Int) ≤ v.2.2.1)) && (decide (v.2.2.1 < (v.1.length : Int)))) then
    let t1 := (v.1.getD (Int.toNat v.2.2.1) ((ByteArray.empty, ((ByteArray.empty, []), ([], false))), []))
    bif (strEq t1.1.1 v.2.1) then
      k0 (v.2.2.1, ())
    else
    rec (v.1, v.2.1, (IntKind.i64.wrap (v.2.2.1 + (1 : Int))), ())
    else none
  else
  k1 (())
noncomputable def f545l0 {R : Type} (k : Nat) (k0 : Int × Unit → Option R) (k1 : Unit → Option R) (v : D84) : Option R := iterS (fun rec v => f545l0s k rec k0 k1 v) k v
noncomputable def f545l0S (k : Nat) : Sum1 := loopSum f545l0H f545l0N k (fun R rec K v => f545l0s k rec (fun w => K .ret (encSt f545l0X0 w)) (fun w => K (.exit 0) (encSt f545l0X1 w)) v)
theorem f545l0E (k : Nat) (R : Type) (rec : St → Option R) (K : X → St → Option R) (v : f545l0H.Den) : evS tab (f545T k) Tryz.f45.ntmps [] (bodyOf f545l0C) 52 (bodyK f545l0N f545l0M rec K) (encSt f545l0H v) = f545l0s k (fun v => rec (encSt f545l0H v)) (fun w => K .ret (encSt f545l0X0 w)) (fun w => K (.exit 0) (encSt f545l0X1 w)) v := by kernel_rfl
theorem f545l0I (k : Nat) : SumsOk P Tryz.f45.ntmps [] (bodyOf f545l0C) 52 := SumsOk.nil
theorem f545l0O (k : Nat) : SumOk P Tryz.f45.ntmps f545l0C (f545l0S k) := (show f545l0C = .loop (bodyOf f545l0C) by kernel_rfl) ▸ sum_loop tabOk (f545TS k) mixed (f545l0I k) (f545l0E k)
noncomputable def f545F (k : Nat) (x : (List D34) × ByteArray) : Option (Int) :=
  f545l0 k
    (fun (w2 : Int × Unit) =>
      some w2.1)
    (fun (w3 : Unit) =>
      some (-1 : Int))
    (x.1, x.2, (0 : Int), ())
noncomputable def f545L (k : Nat) : Sums := [(26, f545l0S k)]
theorem f545LS (k : Nat) : SumsOk P Tryz.f45.ntmps (f545L k) (codeOf Tryz.f45) 1 := (SumsOk.nil).cons (c := f545l0C) (by kernel_rfl) (f545l0O k)
theorem f545E (k : Nat) (x : (List D34) × ByteArray) : evFS tab (f545T k) (f545L k) Tryz.f45.ntmps Tryz.f45.results.toList (codeOf Tryz.f45) (argsV [.dat (.slice Y6), .dat .str] x) [.dat (.int .i64)] none = f545F k x := by kernel_rfl
theorem f545Ok (k : Nat) (x : (List D34) × ByteArray) (y : Int) (h : f545F k x = some y) : FnOk P 45 [.dat (.slice Y6), .dat .str] [.dat (.int .i64)] x y :=
  evFS_sound tabOk (f545TS k) mixed Tryz.func45 (c := codeOf Tryz.f45) (by kernel_rfl) (f545LS k) ((f545E k x).trans h)
noncomputable def f545A (k : Nat) := entFnB [.dat (.slice Y6), .dat .str] [.dat (.int .i64)] (f545F k)
theorem f545Ao (k : Nat) : EntOk P 45 (f545A k) := entFnB_ok (f545Ok k)
/-! ## midrange/midrangeref26.DatabaseErr -/
noncomputable def f556T (k : Nat) : Table := [(45, f545A k), (99, f599A k)]
theorem f556TS (k : Nat) : Sound P (f556T k) := ((Sound.nil).consE f599B (f599Ao k)).consE f545B (f545Ao k)
theorem f556B : HasBody P 56 := ⟨Tryz.f56, Tryz.func56, by kernel_rfl, by kernel_rfl⟩
noncomputable def f556l0H : Shape := ⟨[(0, .one (.ro Y6)), (4, .one (.int .i64))], [], 0, []⟩
noncomputable def f556l0X0 : Shape := ⟨[(2, .one (.int .i64)), (3, .one (.int .i64))], [], 0, []⟩
noncomputable def f556l0X1 : Shape := ⟨[], [], 0, []⟩
noncomputable def f556l0N : NoteR := ⟨[0, 4], [], []⟩
noncomputable def f556l0M : NoteR := ⟨[2, 3], [], []⟩
noncomputable def f556l0C : Code := firstC (codesAt 58 (codeOf Tryz.f56) 1)
noncomputable def f556l0s {R : Type} (k : Nat) (rec : List D34 × Int × Unit → Option R) (k0 : Int × Int × Unit → Option R) (k1 : Unit → Option R) (v : List D34 × Int × Unit) : Option R :=
  bif (decide (v.2.1 < (v.1.length : Int))) then
    bif ((decide ((0 : Int) ≤ v.2.1)) && (decide (v.2.1 < (v.1.length : Int)))) then
    let t1 := (v.1.getD (Int.toNat v.2.1) ((ByteArray.empty, ((ByteArray.empty, []), ([], false))), []))
    Option.bind (f599F k ((t1.1.1, ((t1.1.2.1.1, t1.1.2.1.2), (t1.1.2.2.1, t1.1.2.2.2))), t1.2)) fun y2 =>
    bif (y2 != (0 : Int)) then
      k0 (v.2.1, y2, ())
    else
    bif ((decide ((0 : Int) ≤ v.2.1)) && (decide (v.2.1 < (v.1.length : Int)))) then
    let t3 := (v.1.getD (Int.toNat v.2.1) ((ByteArray.empty, ((ByteArray.empty, []), ([], false))), []))
    Option.bind (f545F k (v.1, t3.1.1)) fun y4 =>
    bif (decide (y4 < v.2.1)) then
      k0 (v.2.1, (13 : Int), ())
    else
    rec (v.1, (IntKind.i64.wrap (v.2.1 + (1 : Int))), ())
    else none
    else none
  else
  k1 (())
noncomputable def f556l0 {R : Type} (k : Nat) (k0 : Int × Int × Unit → Option R) (k1 : Unit → Option R) (v : List D34 × Int × Unit) : Option R := iterS (fun rec v => f556l0s k rec k0 k1 v) k v
noncomputable def f556l0S (k : Nat) : Sum1 := loopSum f556l0H f556l0N k (fun R rec K v => f556l0s k rec (fun w => K .ret (encSt f556l0X0 w)) (fun w => K (.exit 0) (encSt f556l0X1 w)) v)
theorem f556l0E (k : Nat) (R : Type) (rec : St → Option R) (K : X → St → Option R) (v : f556l0H.Den) : evS tab (f556T k) Tryz.f56.ntmps [] (bodyOf f556l0C) 116 (bodyK f556l0N f556l0M rec K) (encSt f556l0H v) = f556l0s k (fun v => rec (encSt f556l0H v)) (fun w => K .ret (encSt f556l0X0 w)) (fun w => K (.exit 0) (encSt f556l0X1 w)) v := by kernel_rfl
theorem f556l0I (k : Nat) : SumsOk P Tryz.f56.ntmps [] (bodyOf f556l0C) 116 := SumsOk.nil
theorem f556l0O (k : Nat) : SumOk P Tryz.f56.ntmps f556l0C (f556l0S k) := (show f556l0C = .loop (bodyOf f556l0C) by kernel_rfl) ▸ sum_loop tabOk (f556TS k) mixed (f556l0I k) (f556l0E k)
noncomputable def f556F (k : Nat) (x : (List D34)) : Option (Int × Int) :=
  bif (decide ((x.length : Int) > (8 : Int))) then
    some ((0 : Int), (2 : Int))
  else
  f556l0 k
    (fun (w5 : Int × Int × Unit) =>
      some (w5.1, w5.2.1))
    (fun (w6 : Unit) =>
      some ((0 : Int), (0 : Int)))
    (x, (0 : Int), ())
noncomputable def f556L (k : Nat) : Sums := [(58, f556l0S k)]
theorem f556LS (k : Nat) : SumsOk P Tryz.f56.ntmps (f556L k) (codeOf Tryz.f56) 1 := (SumsOk.nil).cons (c := f556l0C) (by kernel_rfl) (f556l0O k)
theorem f556E (k : Nat) (x : (List D34)) : evFS tab (f556T k) (f556L k) Tryz.f56.ntmps Tryz.f56.results.toList (codeOf Tryz.f56) (argsV [.dat (.slice Y6)] x) [.dat (.int .i64), .dat (.int .i64)] none = f556F k x := by kernel_rfl
theorem f556Ok (k : Nat) (x : (List D34)) (y : Int × Int) (h : f556F k x = some y) : FnOk P 56 [.dat (.slice Y6)] [.dat (.int .i64), .dat (.int .i64)] x y :=
  evFS_sound tabOk (f556TS k) mixed Tryz.func56 (c := codeOf Tryz.f56) (by kernel_rfl) (f556LS k) ((f556E k x).trans h)
noncomputable def f556A (k : Nat) := entFnB [.dat (.slice Y6)] [.dat (.int .i64), .dat (.int .i64)] (f556F k)
theorem f556Ao (k : Nat) : EntOk P 56 (f556A k) := entFnB_ok (f556Ok k)
/-! ## midrange/midrangeref34.Check -/
noncomputable def f518T (k : Nat) : Table := [(56, f556A k)]
theorem f518TS (k : Nat) : Sound P (f518T k) := (Sound.nil).consE f556B (f556Ao k)
theorem f518B : HasBody P 18 := ⟨Tryz.f18, Tryz.func18, by kernel_rfl, by kernel_rfl⟩
noncomputable def f518F (k : Nat) (x : (List D34)) : Option (Int × Int) :=
  Option.bind (f556F k x) fun y1 =>
  some (y1.1, y1.2)
noncomputable def f518L (k : Nat) : Sums := []
theorem f518LS (k : Nat) : SumsOk P Tryz.f18.ntmps (f518L k) (codeOf Tryz.f18) 1 := SumsOk.nil
theorem f518E (k : Nat) (x : (List D34)) : evFS tab (f518T k) (f518L k) Tryz.f18.ntmps Tryz.f18.results.toList (codeOf Tryz.f18) (argsV [.dat (.slice Y6)] x) [.dat (.int .i64), .dat (.int .i64)] none = f518F k x := by kernel_rfl
theorem f518Ok (k : Nat) (x : (List D34)) (y : Int × Int) (h : f518F k x = some y) : FnOk P 18 [.dat (.slice Y6)] [.dat (.int .i64), .dat (.int .i64)] x y :=
  evFS_sound tabOk (f518TS k) mixed Tryz.func18 (c := codeOf Tryz.f18) (by kernel_rfl) (f518LS k) ((f518E k x).trans h)
noncomputable def f518A (k : Nat) := entFnB [.dat (.slice Y6)] [.dat (.int .i64), .dat (.int .i64)] (f518F k)
theorem f518Ao (k : Nat) : EntOk P 18 (f518A k) := entFnB_ok (f518Ok k)
/-! ## midrange/midrangeref34.Err -/
noncomputable def f563T (k : Nat) : Table := [(18, f518A k)]
theorem f563TS (k : Nat) : Sound P (f563T k) := (Sound.nil).consE f518B (f518Ao k)
theorem f563B : HasBody P 63 := ⟨Tryz.f63, Tryz.func63, by kernel_rfl, by kernel_rfl⟩
noncomputable def f563F (k : Nat) (x : (List D34)) : Option (Int) :=
  Option.bind (f518F k x) fun y1 =>
  some y1.2
noncomputable def f563L (k : Nat) : Sums := []
theorem f563LS (k : Nat) : SumsOk P Tryz.f63.ntmps (f563L k) (codeOf Tryz.f63) 1 := SumsOk.nil
theorem f563E (k : Nat) (x : (List D34)) : evFS tab (f563T k) (f563L k) Tryz.f63.ntmps Tryz.f63.results.toList (codeOf Tryz.f63) (argsV [.dat (.slice Y6)] x) [.dat (.int .i64)] none = f563F k x := by kernel_rfl
theorem f563Ok (k : Nat) (x : (List D34)) (y : Int) (h : f563F k x = some y) : FnOk P 63 [.dat (.slice Y6)] [.dat (.int .i64)] x y :=
  evFS_sound tabOk (f563TS k) mixed Tryz.func63 (c := codeOf Tryz.f63) (by kernel_rfl) (f563LS k) ((f563E k x).trans h)
noncomputable def f563A (k : Nat) := entFnB [.dat (.slice Y6)] [.dat (.int .i64)] (f563F k)
theorem f563Ao (k : Nat) : EntOk P 63 (f563A k) := entFnB_ok (f563Ok k)
/-! ## midrange/midrangebase.IndexOfString -/
noncomputable def f590T (k : Nat) : Table := []
theorem f590TS (k : Nat) : Sound P (f590T k) := Sound.nil
theorem f590B : HasBody P 90 := ⟨Tryz.f90, Tryz.func90, by kernel_rfl, by kernel_rfl⟩
noncomputable def f590l0H : Shape := ⟨[(0, .one (.ro .str)), (1, .one (.str)), (5, .one (.int .i64))], [], 0, []⟩
noncomputable def f590l0X0 : Shape := ⟨[(4, .one (.int .i64))], [], 0, []⟩
noncomputable def f590l0X1 : Shape := ⟨[], [], 0, []⟩
noncomputable def f590l0N : NoteR := ⟨[0, 1, 5], [], []⟩
noncomputable def f590l0M : NoteR := ⟨[4], [], []⟩
noncomputable def f590l0C : Code := firstC (codesAt 26 (codeOf Tryz.f90) 1)
noncomputable def f590l0s {R : Type} (k : Nat) (rec : D85 → Option R) (k0 : Int × Unit → Option R) (k1 : Unit → Option R) (v : D85) : Option R :=
  bif (decide (v.2.2.1 < (v.1.length : Int))) then
    bif ((decide ((0 : Int) ≤ v.2.2.1)) && (decide (v.2.2.1 < (v.1.length : Int)))) then
    bif (strEq (v.1.getD (Int.toNat v.2.2.1) ByteArray.empty) v.2.1) then
      k0 (v.2.2.1, ())
    else
    rec (v.1, v.2.1, (IntKind.i64.wrap (v.2.2.1 + (1 : Int))), ())
    else none
  else
  k1 (())
noncomputable def f590l0 {R : Type} (k : Nat) (k0 : Int × Unit → Option R) (k1 : Unit → Option R) (v : D85) : Option R := iterS (fun rec v => f590l0s k rec k0 k1 v) k v
noncomputable def f590l0S (k : Nat) : Sum1 := loopSum f590l0H f590l0N k (fun R rec K v => f590l0s k rec (fun w => K .ret (encSt f590l0X0 w)) (fun w => K (.exit 0) (encSt f590l0X1 w)) v)
theorem f590l0E (k : Nat) (R : Type) (rec : St → Option R) (K : X → St → Option R) (v : f590l0H.Den) : evS tab (f590T k) Tryz.f90.ntmps [] (bodyOf f590l0C) 52 (bodyK f590l0N f590l0M rec K) (encSt f590l0H v) = f590l0s k (fun v => rec (encSt f590l0H v)) (fun w => K .ret (encSt f590l0X0 w)) (fun w => K (.exit 0) (encSt f590l0X1 w)) v := by kernel_rfl
theorem f590l0I (k : Nat) : SumsOk P Tryz.f90.ntmps [] (bodyOf f590l0C) 52 := SumsOk.nil
theorem f590l0O (k : Nat) : SumOk P Tryz.f90.ntmps f590l0C (f590l0S k) := (show f590l0C = .loop (bodyOf f590l0C) by kernel_rfl) ▸ sum_loop tabOk (f590TS k) mixed (f590l0I k) (f590l0E k)
noncomputable def f590F (k : Nat) (x : D49) : Option (Int) :=
  f590l0 k
    (fun (w1 : Int × Unit) =>
      some w1.1)
    (fun (w2 : Unit) =>
      some (-1 : Int))
    (x.1, x.2, (0 : Int), ())
noncomputable def f590L (k : Nat) : Sums := [(26, f590l0S k)]
theorem f590LS (k : Nat) : SumsOk P Tryz.f90.ntmps (f590L k) (codeOf Tryz.f90) 1 := (SumsOk.nil).cons (c := f590l0C) (by kernel_rfl) (f590l0O k)
theorem f590E (k : Nat) (x : D49) : evFS tab (f590T k) (f590L k) Tryz.f90.ntmps Tryz.f90.results.toList (codeOf Tryz.f90) (argsV [.dat (.slice .str), .dat .str] x) [.dat (.int .i64)] none = f590F k x := by kernel_rfl
theorem f590Ok (k : Nat) (x : D49) (y : Int) (h : f590F k x = some y) : FnOk P 90 [.dat (.slice .str), .dat .str] [.dat (.int .i64)] x y :=
  evFS_sound tabOk (f590TS k) mixed Tryz.func90 (c := codeOf Tryz.f90) (by kernel_rfl) (f590LS k) ((f590E k x).trans h)
noncomputable def f590A (k : Nat) := entFnB [.dat (.slice .str), .dat .str] [.dat (.int .i64)] (f590F k)
theorem f590Ao (k : Nat) : EntOk P 90 (f590A k) := entFnB_ok (f590Ok k)
/-! ## midrange/midrangeref34.namesErr -/
noncomputable def f565T (k : Nat) : Table := [(90, f590A k), (103, f603A k)]
theorem f565TS (k : Nat) : Sound P (f565T k) := ((Sound.nil).consE f603B (f603Ao k)).consE f590B (f590Ao k)
theorem f565B : HasBody P 65 := ⟨Tryz.f65, Tryz.func65, by kernel_rfl, by kernel_rfl⟩
noncomputable def f565l0H : Shape := ⟨[(0, .one (.ro .str)), (3, .one (.int .i64))], [], 0, []⟩
noncomputable def f565l0X0 : Shape := ⟨[(2, .one (.int .i64))], [], 0, []⟩
noncomputable def f565l0X1 : Shape := ⟨[], [], 0, []⟩
noncomputable def f565l0N : NoteR := ⟨[0, 3], [], []⟩
noncomputable def f565l0M : NoteR := ⟨[2], [], []⟩
noncomputable def f565l0C : Code := firstC (codesAt 58 (codeOf Tryz.f65) 1)
noncomputable def f565l0s {R : Type} (k : Nat) (rec : D86 → Option R) (k0 : Int × Unit → Option R) (k1 : Unit → Option R) (v : D86) : Option R :=
  bif (decide (v.2.1 < (v.1.length : Int))) then
    bif ((decide ((0 : Int) ≤ v.2.1)) && (decide (v.2.1 < (v.1.length : Int)))) then
    Option.bind (f603F k (v.1.getD (Int.toNat v.2.1) ByteArray.empty)) fun y1 =>
    bif (!y1) then
      k0 ((7 : Int), ())
    else
    bif ((decide ((0 : Int) ≤ v.2.1)) && (decide (v.2.1 < (v.1.length : Int)))) then
    Option.bind (f590F k (v.1, (v.1.getD (Int.toNat v.2.1) ByteArray.empty))) fun y2 =>
    bif (decide (y2 < v.2.1)) then
      k0 ((13 : Int), ())
    else
    rec (v.1, (IntKind.i64.wrap (v.2.1 + (1 : Int))), ())
    else none
    else none
  else
  k1 (())
noncomputable def f565l0 {R : Type} (k : Nat) (k0 : Int × Unit → Option R) (k1 : Unit → Option R) (v : D86) : Option R := iterS (fun rec v => f565l0s k rec k0 k1 v) k v
noncomputable def f565l0S (k : Nat) : Sum1 := loopSum f565l0H f565l0N k (fun R rec K v => f565l0s k rec (fun w => K .ret (encSt f565l0X0 w)) (fun w => K (.exit 0) (encSt f565l0X1 w)) v)
theorem f565l0E (k : Nat) (R : Type) (rec : St → Option R) (K : X → St → Option R) (v : f565l0H.Den) : evS tab (f565T k) Tryz.f65.ntmps [] (bodyOf f565l0C) 116 (bodyK f565l0N f565l0M rec K) (encSt f565l0H v) = f565l0s k (fun v => rec (encSt f565l0H v)) (fun w => K .ret (encSt f565l0X0 w)) (fun w => K (.exit 0) (encSt f565l0X1 w)) v := by kernel_rfl
theorem f565l0I (k : Nat) : SumsOk P Tryz.f65.ntmps [] (bodyOf f565l0C) 116 := SumsOk.nil
theorem f565l0O (k : Nat) : SumOk P Tryz.f65.ntmps f565l0C (f565l0S k) := (show f565l0C = .loop (bodyOf f565l0C) by kernel_rfl) ▸ sum_loop tabOk (f565TS k) mixed (f565l0I k) (f565l0E k)
noncomputable def f565F (k : Nat) (x : (List ByteArray)) : Option (Int) :=
  bif (decide ((x.length : Int) > (6 : Int))) then
    some (2 : Int)
  else
  f565l0 k
    (fun (w3 : Int × Unit) =>
      some w3.1)
    (fun (w4 : Unit) =>
      some (0 : Int))
    (x, (0 : Int), ())
noncomputable def f565L (k : Nat) : Sums := [(58, f565l0S k)]
theorem f565LS (k : Nat) : SumsOk P Tryz.f65.ntmps (f565L k) (codeOf Tryz.f65) 1 := (SumsOk.nil).cons (c := f565l0C) (by kernel_rfl) (f565l0O k)
theorem f565E (k : Nat) (x : (List ByteArray)) : evFS tab (f565T k) (f565L k) Tryz.f65.ntmps Tryz.f65.results.toList (codeOf Tryz.f65) (argsV [.dat (.slice .str)] x) [.dat (.int .i64)] none = f565F k x := by kernel_rfl
theorem f565Ok (k : Nat) (x : (List ByteArray)) (y : Int) (h : f565F k x = some y) : FnOk P 65 [.dat (.slice .str)] [.dat (.int .i64)] x y :=
  evFS_sound tabOk (f565TS k) mixed Tryz.func65 (c := codeOf Tryz.f65) (by kernel_rfl) (f565LS k) ((f565E k x).trans h)
noncomputable def f565A (k : Nat) := entFnB [.dat (.slice .str)] [.dat (.int .i64)] (f565F k)
theorem f565Ao (k : Nat) : EntOk P 65 (f565A k) := entFnB_ok (f565Ok k)
/-! ## midrange/midrangebase.BigBytes -/
noncomputable def f77T (k : Nat) : Table := []
theorem f77TS (k : Nat) : Sound P (f77T k) := Sound.nil
theorem f77B : HasBody P 100 := ⟨Tryz.f100, Tryz.func100, by kernel_rfl, by kernel_rfl⟩
noncomputable def f77l0H : Shape := ⟨[(0, .one (.int .i64)), (1, .one (.int .i64)), (5, .one (.own 0)), (6, .one (.int .i64))], [(0, .row 5 (.int .u8) .plain)], 1, []⟩
noncomputable def f77l0X0 : Shape := ⟨[(5, .one (.own 0))], [(0, .row 5 (.int .u8) .plain)], 1, []⟩
noncomputable def f77l0N : NoteR := ⟨[0, 1, 5, 6], [], []⟩
noncomputable def f77l0M : NoteR := ⟨[4, 5], [], []⟩
noncomputable def f77l0C : Code := firstC (codesAt 58 (codeOf Tryz.f100) 1)
noncomputable def f77l0s {R : Type} (k : Nat) (rec : D14 → Option R) (k0 : List Int × Unit → Option R) (v : D14) : Option R :=
  bif (decide (v.2.2.1 < v.2.1)) then
    bif ((decide ((0 : Int) ≤ (IntKind.i64.wrap ((IntKind.i64.wrap (v.2.1 - (1 : Int))) - v.2.2.1)))) && (decide ((IntKind.i64.wrap ((IntKind.i64.wrap (v.2.1 - (1 : Int))) - v.2.2.1)) < (v.2.2.2.1.length : Int)))) then
    let t1 := (v.2.2.2.1.set (Int.toNat (IntKind.i64.wrap ((IntKind.i64.wrap (v.2.1 - (1 : Int))) - v.2.2.1))) (IntKind.u8.wrap (Int.tmod v.1 (256 : Int))))
    rec ((IntKind.i64.wrap (Int.tdiv v.1 (256 : Int))), v.2.1, (IntKind.i64.wrap (v.2.2.1 + (1 : Int))), t1, ())
    else none
  else
  k0 (v.2.2.2.1, ())
noncomputable def f77l0 {R : Type} (k : Nat) (k0 : List Int × Unit → Option R) (v : D14) : Option R := iterS (fun rec v => f77l0s k rec k0 v) k v
noncomputable def f77l0S (k : Nat) : Sum1 := loopSum f77l0H f77l0N k (fun R rec K v => f77l0s k rec (fun w => K (.exit 0) (encSt f77l0X0 w)) v)
theorem f77l0E (k : Nat) (R : Type) (rec : St → Option R) (K : X → St → Option R) (v : f77l0H.Den) : evS tab (f77T k) Tryz.f100.ntmps [] (bodyOf f77l0C) 116 (bodyK f77l0N f77l0M rec K) (encSt f77l0H v) = f77l0s k (fun v => rec (encSt f77l0H v)) (fun w => K (.exit 0) (encSt f77l0X0 w)) v := by kernel_rfl
theorem f77l0I (k : Nat) : SumsOk P Tryz.f100.ntmps [] (bodyOf f77l0C) 116 := SumsOk.nil
theorem f77l0O (k : Nat) : SumOk P Tryz.f100.ntmps f77l0C (f77l0S k) := (show f77l0C = .loop (bodyOf f77l0C) by kernel_rfl) ▸ sum_loop tabOk (f77TS k) mixed (f77l0I k) (f77l0E k)
noncomputable def f77F (k : Nat) (x : Int × Int) : Option (ByteArray) :=
  bif (((decide ((0 : Int) ≤ x.2)) && (decide ((x.2 * 1) ≤ (140737488355328 : Int)))) && (decide (x.2 ≤ (281474976710656 : Int)))) then
  f77l0 k
    (fun (w2 : List Int × Unit) =>
      some (strOfNums w2.1))
    (x.1, x.2, (0 : Int), (List.replicate (Int.toNat x.2) (0 : Int)), ())
  else none
noncomputable def f77L (k : Nat) : Sums := [(58, f77l0S k)]
theorem f77LS (k : Nat) : SumsOk P Tryz.f100.ntmps (f77L k) (codeOf Tryz.f100) 1 := (SumsOk.nil).cons (c := f77l0C) (by kernel_rfl) (f77l0O k)
theorem f77E (k : Nat) (x : Int × Int) : evFS tab (f77T k) (f77L k) Tryz.f100.ntmps Tryz.f100.results.toList (codeOf Tryz.f100) (argsV [.dat (.int .i64), .dat (.int .i64)] x) [.dat .str] none = f77F k x := by kernel_rfl
theorem f77Ok (k : Nat) (x : Int × Int) (y : ByteArray) (h : f77F k x = some y) : FnOk P 100 [.dat (.int .i64), .dat (.int .i64)] [.dat .str] x y :=
  evFS_sound tabOk (f77TS k) mixed Tryz.func100 (c := codeOf Tryz.f100) (by kernel_rfl) (f77LS k) ((f77E k x).trans h)
noncomputable def f77A (k : Nat) := entFnB [.dat (.int .i64), .dat (.int .i64)] [.dat .str] (f77F k)
theorem f77Ao (k : Nat) : EntOk P 100 (f77A k) := entFnB_ok (f77Ok k)
/-! ## midrange/midrangeref34.one -/
noncomputable def f557T (k : Nat) : Table := [(100, f77A k)]
theorem f557TS (k : Nat) : Sound P (f557T k) := (Sound.nil).consE f77B (f77Ao k)
theorem f557B : HasBody P 57 := ⟨Tryz.f57, Tryz.func57, by kernel_rfl, by kernel_rfl⟩
noncomputable def f557F (k : Nat) (x : Int) : Option (ByteArray) :=
  Option.bind (f77F k (x, (1 : Int))) fun y1 =>
  some y1
noncomputable def f557L (k : Nat) : Sums := []
theorem f557LS (k : Nat) : SumsOk P Tryz.f57.ntmps (f557L k) (codeOf Tryz.f57) 1 := SumsOk.nil
theorem f557E (k : Nat) (x : Int) : evFS tab (f557T k) (f557L k) Tryz.f57.ntmps Tryz.f57.results.toList (codeOf Tryz.f57) (argsV [.dat (.int .i64)] x) [.dat .str] none = f557F k x := by kernel_rfl
theorem f557Ok (k : Nat) (x : Int) (y : ByteArray) (h : f557F k x = some y) : FnOk P 57 [.dat (.int .i64)] [.dat .str] x y :=
  evFS_sound tabOk (f557TS k) mixed Tryz.func57 (c := codeOf Tryz.f57) (by kernel_rfl) (f557LS k) ((f557E k x).trans h)
noncomputable def f557A (k : Nat) := entFnB [.dat (.int .i64)] [.dat .str] (f557F k)
theorem f557Ao (k : Nat) : EntOk P 57 (f557A k) := entFnB_ok (f557Ok k)
/-! ## midrange/midrangebase.Repeat -/
noncomputable def f72T (k : Nat) : Table := []
theorem f72TS (k : Nat) : Sound P (f72T k) := Sound.nil
theorem f72B : HasBody P 104 := ⟨Tryz.f104, Tryz.func104, by kernel_rfl, by kernel_rfl⟩
noncomputable def f72l0H : Shape := ⟨[(0, .one (.int .u8)), (1, .one (.int .i64)), (5, .one (.own 0)), (6, .one (.int .i64))], [(0, .row 5 (.int .u8) .plain)], 1, []⟩
noncomputable def f72l0X0 : Shape := ⟨[(5, .one (.own 0))], [(0, .row 5 (.int .u8) .plain)], 1, []⟩
noncomputable def f72l0N : NoteR := ⟨[0, 1, 5, 6], [(5, 5, (.int .u8))], []⟩
noncomputable def f72l0M : NoteR := ⟨[4, 5], [], []⟩
noncomputable def f72l0C : Code := firstC (codesAt 58 (codeOf Tryz.f104) 1)
noncomputable def f72l0s {R : Type} (k : Nat) (rec : D14 → Option R) (k0 : List Int × Unit → Option R) (v : D14) : Option R :=
  bif (decide (v.2.2.1 < v.2.1)) then
    bif (decide ((v.2.2.2.1.length + [v.1].length) * 1 ≤ 140737488355328) && decide (v.2.2.2.1.length + [v.1].length ≤ 9223372036854775807)) then
    rec (v.1, v.2.1, (IntKind.i64.wrap (v.2.2.1 + (1 : Int))), (v.2.2.2.1 ++ [v.1]), ())
    else none
  else
  k0 (v.2.2.2.1, ())
noncomputable def f72l0 {R : Type} (k : Nat) (k0 : List Int × Unit → Option R) (v : D14) : Option R := iterS (fun rec v => f72l0s k rec k0 v) k v
noncomputable def f72l0S (k : Nat) : Sum1 := loopSum f72l0H f72l0N k (fun R rec K v => f72l0s k rec (fun w => K (.exit 0) (encSt f72l0X0 w)) v)
theorem f72l0E (k : Nat) (R : Type) (rec : St → Option R) (K : X → St → Option R) (v : f72l0H.Den) : evS tab (f72T k) Tryz.f104.ntmps [] (bodyOf f72l0C) 116 (bodyK f72l0N f72l0M rec K) (encSt f72l0H v) = f72l0s k (fun v => rec (encSt f72l0H v)) (fun w => K (.exit 0) (encSt f72l0X0 w)) v := by kernel_rfl
theorem f72l0I (k : Nat) : SumsOk P Tryz.f104.ntmps [] (bodyOf f72l0C) 116 := SumsOk.nil
theorem f72l0O (k : Nat) : SumOk P Tryz.f104.ntmps f72l0C (f72l0S k) := (show f72l0C = .loop (bodyOf f72l0C) by kernel_rfl) ▸ sum_loop tabOk (f72TS k) mixed (f72l0I k) (f72l0E k)
noncomputable def f72F (k : Nat) (x : Int × Int) : Option (ByteArray) :=
  f72l0 k
    (fun (w1 : List Int × Unit) =>
      some (strOfNums w1.1))
    (x.1, x.2, (0 : Int), [], ())
noncomputable def f72L (k : Nat) : Sums := [(58, f72l0S k)]
theorem f72LS (k : Nat) : SumsOk P Tryz.f104.ntmps (f72L k) (codeOf Tryz.f104) 1 := (SumsOk.nil).cons (c := f72l0C) (by kernel_rfl) (f72l0O k)
theorem f72E (k : Nat) (x : Int × Int) : evFS tab (f72T k) (f72L k) Tryz.f104.ntmps Tryz.f104.results.toList (codeOf Tryz.f104) (argsV [.dat (.int .u8), .dat (.int .i64)] x) [.dat .str] none = f72F k x := by kernel_rfl
theorem f72Ok (k : Nat) (x : Int × Int) (y : ByteArray) (h : f72F k x = some y) : FnOk P 104 [.dat (.int .u8), .dat (.int .i64)] [.dat .str] x y :=
  evFS_sound tabOk (f72TS k) mixed Tryz.func104 (c := codeOf Tryz.f104) (by kernel_rfl) (f72LS k) ((f72E k x).trans h)
noncomputable def f72A (k : Nat) := entFnB [.dat (.int .u8), .dat (.int .i64)] [.dat .str] (f72F k)
theorem f72Ao (k : Nat) : EntOk P 104 (f72A k) := entFnB_ok (f72Ok k)
/-! ## midrange/midrangebase.Padded -/
noncomputable def f74T (k : Nat) : Table := [(104, f72A k)]
theorem f74TS (k : Nat) : Sound P (f74T k) := (Sound.nil).consE f72B (f72Ao k)
theorem f74B : HasBody P 101 := ⟨Tryz.f101, Tryz.func101, by kernel_rfl, by kernel_rfl⟩
noncomputable def f74F (k : Nat) (x : ByteArray × Int) : Option (ByteArray) :=
  bif (decide ((x.1.size : Int) ≥ x.2)) then
    bif (sliceBds (0 : Int) x.2 (x.1.size : Int)) then
    some (x.1.extract 0 (Int.toNat x.2))
    else none
  else
  Option.bind (f72F k ((32 : Int), (IntKind.i64.wrap (x.2 - (x.1.size : Int))))) fun y1 =>
  bif (decide (x.1.size + y1.size ≤ 9223372036854775807)) then
  some (x.1 ++ y1)
  else none
noncomputable def f74L (k : Nat) : Sums := []
theorem f74LS (k : Nat) : SumsOk P Tryz.f101.ntmps (f74L k) (codeOf Tryz.f101) 1 := SumsOk.nil
theorem f74E (k : Nat) (x : ByteArray × Int) : evFS tab (f74T k) (f74L k) Tryz.f101.ntmps Tryz.f101.results.toList (codeOf Tryz.f101) (argsV [.dat .str, .dat (.int .i64)] x) [.dat .str] none = f74F k x := by kernel_rfl
theorem f74Ok (k : Nat) (x : ByteArray × Int) (y : ByteArray) (h : f74F k x = some y) : FnOk P 101 [.dat .str, .dat (.int .i64)] [.dat .str] x y :=
  evFS_sound tabOk (f74TS k) mixed Tryz.func101 (c := codeOf Tryz.f101) (by kernel_rfl) (f74LS k) ((f74E k x).trans h)
noncomputable def f74A (k : Nat) := entFnB [.dat .str, .dat (.int .i64)] [.dat .str] (f74F k)
theorem f74Ao (k : Nat) : EntOk P 101 (f74A k) := entFnB_ok (f74Ok k)
/-! ## midrange/midrangeref34.name -/
noncomputable def f558T (k : Nat) : Table := [(101, f74A k)]
theorem f558TS (k : Nat) : Sound P (f558T k) := (Sound.nil).consE f74B (f74Ao k)
theorem f558B : HasBody P 58 := ⟨Tryz.f58, Tryz.func58, by kernel_rfl, by kernel_rfl⟩
noncomputable def f558F (k : Nat) (x : ByteArray) : Option (ByteArray) :=
  Option.bind (f74F k (x, (10 : Int))) fun y1 =>
  some y1
noncomputable def f558L (k : Nat) : Sums := []
theorem f558LS (k : Nat) : SumsOk P Tryz.f58.ntmps (f558L k) (codeOf Tryz.f58) 1 := SumsOk.nil
theorem f558E (k : Nat) (x : ByteArray) : evFS tab (f558T k) (f558L k) Tryz.f58.ntmps Tryz.f58.results.toList (codeOf Tryz.f58) (argsV [.dat .str] x) [.dat .str] none = f558F k x := by kernel_rfl
theorem f558Ok (k : Nat) (x : ByteArray) (y : ByteArray) (h : f558F k x = some y) : FnOk P 58 [.dat .str] [.dat .str] x y :=
  evFS_sound tabOk (f558TS k) mixed Tryz.func58 (c := codeOf Tryz.f58) (by kernel_rfl) (f558LS k) ((f558E k x).trans h)
noncomputable def f558A (k : Nat) := entFnB [.dat .str] [.dat .str] (f558F k)
theorem f558Ao (k : Nat) : EntOk P 58 (f558A k) := entFnB_ok (f558Ok k)
/-! ## midrange/midrangeref34.shape -/
noncomputable def f559T (k : Nat) : Table := [(47, f69A k), (57, f557A k), (58, f558A k)]
theorem f559TS (k : Nat) : Sound P (f559T k) := (((Sound.nil).consE f558B (f558Ao k)).consE f557B (f557Ao k)).consE f69B (f69Ao k)
theorem f559B : HasBody P 59 := ⟨Tryz.f59, Tryz.func59, by kernel_rfl, by kernel_rfl⟩
noncomputable def f559l0H : Shape := ⟨[(1, .one (.ptr 0 0)), (3, .one (.str)), (4, .one (.int .i64))], [(0, .var 49 [.str, .str, .ro Y1, .ro (.pair .str .bool), .bool])], 1, []⟩
noncomputable def f559l0X0 : Shape := ⟨[(1, .one (.ptr 0 0)), (3, .one (.str))], [(0, .var 49 [.str, .str, .ro Y1, .ro (.pair .str .bool), .bool])], 1, []⟩
noncomputable def f559l0N : NoteR := ⟨[1, 3, 4], [], []⟩
noncomputable def f559l0M : NoteR := ⟨[1, 2, 3], [], []⟩
noncomputable def f559l0C : Code := firstC (codesAt 58 (codeOf Tryz.f59) 1)
noncomputable def f559l0s {R : Type} (k : Nat) (rec : D88 → Option R) (k0 : D87 → Option R) (v : D88) : Option R :=
  bif (decide (v.2.1 < (v.2.2.2.2.1.length : Int))) then
    bif ((decide ((0 : Int) ≤ v.2.1)) && (decide (v.2.1 < (v.2.2.2.2.1.length : Int)))) then
    let t2 := (v.2.2.2.2.1.getD (Int.toNat v.2.1) (ByteArray.empty, ((0 : Int), ((0 : Int), (0 : Int)))))
    Option.bind (f558F k t2.1) fun y3 =>
    bif (decide (v.1.size + y3.size ≤ 9223372036854775807)) then
    Option.bind (f557F k t2.2.1) fun y4 =>
    bif (decide ((v.1 ++ y3).size + y4.size ≤ 9223372036854775807)) then
    Option.bind (f557F k t2.2.2.1) fun y5 =>
    bif (decide (((v.1 ++ y3) ++ y4).size + y5.size ≤ 9223372036854775807)) then
    Option.bind (f557F k t2.2.2.2) fun y6 =>
    bif (decide ((((v.1 ++ y3) ++ y4) ++ y5).size + y6.size ≤ 9223372036854775807)) then
    rec (((((v.1 ++ y3) ++ y4) ++ y5) ++ y6), (IntKind.i64.wrap (v.2.1 + (1 : Int))), v.2.2.1, v.2.2.2.1, v.2.2.2.2.1, v.2.2.2.2.2.1, v.2.2.2.2.2.2.1, ())
    else none
    else none
    else none
    else none
    else none
  else
  k0 (v.1, v.2.2.1, v.2.2.2.1, v.2.2.2.2.1, v.2.2.2.2.2.1, v.2.2.2.2.2.2.1, ())
noncomputable def f559l0 {R : Type} (k : Nat) (k0 : D87 → Option R) (v : D88) : Option R := iterS (fun rec v => f559l0s k rec k0 v) k v
noncomputable def f559l0S (k : Nat) : Sum1 := loopSum f559l0H f559l0N k (fun R rec K v => f559l0s k rec (fun w => K (.exit 0) (encSt f559l0X0 w)) v)
theorem f559l0E (k : Nat) (R : Type) (rec : St → Option R) (K : X → St → Option R) (v : f559l0H.Den) : evS tab (f559T k) Tryz.f59.ntmps [] (bodyOf f559l0C) 116 (bodyK f559l0N f559l0M rec K) (encSt f559l0H v) = f559l0s k (fun v => rec (encSt f559l0H v)) (fun w => K (.exit 0) (encSt f559l0X0 w)) v := by kernel_rfl
theorem f559l0I (k : Nat) : SumsOk P Tryz.f59.ntmps [] (bodyOf f559l0C) 116 := SumsOk.nil
theorem f559l0O (k : Nat) : SumOk P Tryz.f59.ntmps f559l0C (f559l0S k) := (show f559l0C = .loop (bodyOf f559l0C) by kernel_rfl) ▸ sum_loop tabOk (f559TS k) mixed (f559l0I k) (f559l0E k)
noncomputable def f559l1H : Shape := ⟨[(1, .one (.ptr 0 0)), (3, .one (.str)), (6, .one (.int .i64))], [(0, .var 49 [.str, .str, .ro Y1, .ro (.pair .str .bool), .bool])], 1, []⟩
noncomputable def f559l1X0 : Shape := ⟨[(3, .one (.str))], [], 0, []⟩
noncomputable def f559l1N : NoteR := ⟨[1, 3, 6], [], []⟩
noncomputable def f559l1M : NoteR := ⟨[2, 3], [], []⟩
noncomputable def f559l1C : Code := firstC (codesAt 250 (codeOf Tryz.f59) 1)
noncomputable def f559l1s {R : Type} (k : Nat) (rec : D88 → Option R) (k0 : ByteArray × Unit → Option R) (v : D88) : Option R :=
  bif (decide (v.2.1 < (v.2.2.2.2.2.1.length : Int))) then
    bif ((decide ((0 : Int) ≤ v.2.1)) && (decide (v.2.1 < (v.2.2.2.2.2.1.length : Int)))) then
    Option.bind (f558F k (v.2.2.2.2.2.1.getD (Int.toNat v.2.1) (ByteArray.empty, false)).1) fun y9 =>
    bif (decide (v.1.size + y9.size ≤ 9223372036854775807)) then
    bif ((decide ((0 : Int) ≤ v.2.1)) && (decide (v.2.1 < (v.2.2.2.2.2.1.length : Int)))) then
    Option.bind (f69F k (v.2.2.2.2.2.1.getD (Int.toNat v.2.1) (ByteArray.empty, false)).2) fun y10 =>
    Option.bind (f557F k y10) fun y11 =>
    bif (decide ((v.1 ++ y9).size + y11.size ≤ 9223372036854775807)) then
    rec (((v.1 ++ y9) ++ y11), (IntKind.i64.wrap (v.2.1 + (1 : Int))), v.2.2.1, v.2.2.2.1, v.2.2.2.2.1, v.2.2.2.2.2.1, v.2.2.2.2.2.2.1, ())
    else none
    else none
    else none
    else none
  else
  k0 (v.1, ())
noncomputable def f559l1 {R : Type} (k : Nat) (k0 : ByteArray × Unit → Option R) (v : D88) : Option R := iterS (fun rec v => f559l1s k rec k0 v) k v
noncomputable def f559l1S (k : Nat) : Sum1 := loopSum f559l1H f559l1N k (fun R rec K v => f559l1s k rec (fun w => K (.exit 2) (encSt f559l1X0 w)) v)
theorem f559l1E (k : Nat) (R : Type) (rec : St → Option R) (K : X → St → Option R) (v : f559l1H.Den) : evS tab (f559T k) Tryz.f59.ntmps [] (bodyOf f559l1C) 500 (bodyK f559l1N f559l1M rec K) (encSt f559l1H v) = f559l1s k (fun v => rec (encSt f559l1H v)) (fun w => K (.exit 2) (encSt f559l1X0 w)) v := by kernel_rfl
theorem f559l1I (k : Nat) : SumsOk P Tryz.f59.ntmps [] (bodyOf f559l1C) 500 := SumsOk.nil
theorem f559l1O (k : Nat) : SumOk P Tryz.f59.ntmps f559l1C (f559l1S k) := (show f559l1C = .loop (bodyOf f559l1C) by kernel_rfl) ▸ sum_loop tabOk (f559TS k) mixed (f559l1I k) (f559l1E k)
noncomputable def f559F (k : Nat) (x : (ByteArray × D12)) : Option (ByteArray) :=
  Option.bind (f557F k (x.2.1.2.length : Int)) fun y1 =>
  f559l0 k
    (fun (w7 : D87) =>
      Option.bind (f557F k (w7.2.2.2.2.1.length : Int)) fun y8 =>
      bif (decide (w7.1.size + y8.size ≤ 9223372036854775807)) then
      f559l1 k
        (fun (w12 : ByteArray × Unit) =>
          some w12.1)
        ((w7.1 ++ y8), (0 : Int), w7.2.1, w7.2.2.1, w7.2.2.2.1, w7.2.2.2.2.1, w7.2.2.2.2.2.1, ())
      else none)
    (y1, (0 : Int), x.1, x.2.1.1, x.2.1.2, x.2.2.1, x.2.2.2, ())
noncomputable def f559L (k : Nat) : Sums := [(58, f559l0S k), (250, f559l1S k)]
theorem f559LS (k : Nat) : SumsOk P Tryz.f59.ntmps (f559L k) (codeOf Tryz.f59) 1 := ((SumsOk.nil).cons (c := f559l1C) (by kernel_rfl) (f559l1O k)).cons (c := f559l0C) (by kernel_rfl) (f559l0O k)
theorem f559E (k : Nat) (x : (ByteArray × D12)) : evFS tab (f559T k) (f559L k) Tryz.f59.ntmps Tryz.f59.results.toList (codeOf Tryz.f59) (argsV [.agg Y4] x) [.dat .str] none = f559F k x := by kernel_rfl
theorem f559Ok (k : Nat) (x : (ByteArray × D12)) (y : ByteArray) (h : f559F k x = some y) : FnOk P 59 [.agg Y4] [.dat .str] x y :=
  evFS_sound tabOk (f559TS k) mixed Tryz.func59 (c := codeOf Tryz.f59) (by kernel_rfl) (f559LS k) ((f559E k x).trans h)
noncomputable def f559A (k : Nat) := entFnB [.agg Y4] [.dat .str] (f559F k)
theorem f559Ao (k : Nat) : EntOk P 59 (f559A k) := entFnB_ok (f559Ok k)
/-! ## midrange/midrangeref34.Stream -/
noncomputable def f519T (k : Nat) : Table := [(47, f69A k), (57, f557A k), (58, f558A k), (59, f559A k)]
theorem f519TS (k : Nat) : Sound P (f519T k) := ((((Sound.nil).consE f559B (f559Ao k)).consE f558B (f558Ao k)).consE f557B (f557Ao k)).consE f69B (f69Ao k)
theorem f519B : HasBody P 19 := ⟨Tryz.f19, Tryz.func19, by kernel_rfl, by kernel_rfl⟩
noncomputable def f519l0H : Shape := ⟨[(0, .one (.ro Y6)), (3, .one (.str)), (4, .one (.int .i64)), (6, .one (.int .i64))], [], 0, []⟩
noncomputable def f519l0X0 : Shape := ⟨[(0, .one (.ro Y6)), (3, .one (.str)), (4, .one (.int .i64))], [], 0, []⟩
noncomputable def f519l0N : NoteR := ⟨[0, 3, 4, 6], [], []⟩
noncomputable def f519l0M : NoteR := ⟨[0, 2, 3, 4], [], []⟩
noncomputable def f519l0C : Code := firstC (codesAt 14926 (codeOf Tryz.f19) 1)
noncomputable def f519l0s {R : Type} (k : Nat) (rec : D89 → Option R) (k0 : D84 → Option R) (v : D89) : Option R :=
  bif ((decide ((0 : Int) ≤ v.2.2.1)) && (decide (v.2.2.1 < (v.1.length : Int)))) then
  let t10 := (v.1.getD (Int.toNat v.2.2.1) ((ByteArray.empty, ((ByteArray.empty, []), ([], false))), []))
  bif (decide (v.2.2.2.1 < (t10.2.length : Int))) then
    bif ((decide ((0 : Int) ≤ v.2.2.1)) && (decide (v.2.2.1 < (v.1.length : Int)))) then
    let t11 := (v.1.getD (Int.toNat v.2.2.1) ((ByteArray.empty, ((ByteArray.empty, []), ([], false))), []))
    bif ((decide ((0 : Int) ≤ v.2.2.2.1)) && (decide (v.2.2.2.1 < (t11.2.length : Int)))) then
    Option.bind (f69F k (!(t11.2.getD (Int.toNat v.2.2.2.1) (false, ByteArray.empty)).1)) fun y12 =>
    Option.bind (f557F k y12) fun y13 =>
    bif (decide (v.2.1.size + y13.size ≤ 9223372036854775807)) then
    bif (decide ((v.2.1 ++ y13).size + (t11.2.getD (Int.toNat v.2.2.2.1) (false, ByteArray.empty)).2.size ≤ 9223372036854775807)) then
    let t14 := ((v.2.1 ++ y13) ++ (t11.2.getD (Int.toNat v.2.2.2.1) (false, ByteArray.empty)).2)
    rec (v.1, t14, v.2.2.1, (IntKind.i64.wrap (v.2.2.2.1 + (1 : Int))), ())
    else none
    else none
    else none
    else none
  else
  k0 (v.1, v.2.1, v.2.2.1, ())
  else none
noncomputable def f519l0 {R : Type} (k : Nat) (k0 : D84 → Option R) (v : D89) : Option R := iterS (fun rec v => f519l0s k rec k0 v) k v
noncomputable def f519l0S (k : Nat) : Sum1 := loopSum f519l0H f519l0N k (fun R rec K v => f519l0s k rec (fun w => K (.exit 2) (encSt f519l0X0 w)) v)
theorem f519l0E (k : Nat) (R : Type) (rec : St → Option R) (K : X → St → Option R) (v : f519l0H.Den) : evS tab (f519T k) Tryz.f19.ntmps [] (bodyOf f519l0C) 29852 (bodyK f519l0N f519l0M rec K) (encSt f519l0H v) = f519l0s k (fun v => rec (encSt f519l0H v)) (fun w => K (.exit 2) (encSt f519l0X0 w)) v := by kernel_rfl
theorem f519l0I (k : Nat) : SumsOk P Tryz.f19.ntmps [] (bodyOf f519l0C) 29852 := SumsOk.nil
theorem f519l0O (k : Nat) : SumOk P Tryz.f19.ntmps f519l0C (f519l0S k) := (show f519l0C = .loop (bodyOf f519l0C) by kernel_rfl) ▸ sum_loop tabOk (f519TS k) mixed (f519l0I k) (f519l0E k)
noncomputable def f519l1H : Shape := ⟨[(0, .one (.ro Y6)), (3, .one (.str)), (4, .one (.int .i64))], [], 0, []⟩
noncomputable def f519l1X0 : Shape := ⟨[(3, .one (.str))], [], 0, []⟩
noncomputable def f519l1N : NoteR := ⟨[0, 3, 4], [], []⟩
noncomputable def f519l1M : NoteR := ⟨[2, 3], [], []⟩
noncomputable def f519l1C : Code := firstC (codesAt 58 (codeOf Tryz.f19) 1)
noncomputable def f519l1s {R : Type} (k : Nat) (rec : D84 → Option R) (k0 : ByteArray × Unit → Option R) (v : D84) : Option R :=
  bif (decide (v.2.2.1 < (v.1.length : Int))) then
    bif ((decide ((0 : Int) ≤ v.2.2.1)) && (decide (v.2.2.1 < (v.1.length : Int)))) then
    let t2 := (v.1.getD (Int.toNat v.2.2.1) ((ByteArray.empty, ((ByteArray.empty, []), ([], false))), []))
    Option.bind (f558F k t2.1.1) fun y3 =>
    bif (decide (v.2.1.size + y3.size ≤ 9223372036854775807)) then
    Option.bind (f558F k t2.1.2.1.1) fun y4 =>
    bif (decide ((v.2.1 ++ y3).size + y4.size ≤ 9223372036854775807)) then
    Option.bind (f559F k (t2.1.1, ((t2.1.2.1.1, t2.1.2.1.2), (t2.1.2.2.1, t2.1.2.2.2)))) fun y5 =>
    bif (decide (((v.2.1 ++ y3) ++ y4).size + y5.size ≤ 9223372036854775807)) then
    Option.bind (f69F k t2.1.2.2.2) fun y6 =>
    Option.bind (f557F k y6) fun y7 =>
    bif (decide ((((v.2.1 ++ y3) ++ y4) ++ y5).size + y7.size ≤ 9223372036854775807)) then
    bif ((decide ((0 : Int) ≤ v.2.2.1)) && (decide (v.2.2.1 < (v.1.length : Int)))) then
    let t8 := (v.1.getD (Int.toNat v.2.2.1) ((ByteArray.empty, ((ByteArray.empty, []), ([], false))), []))
    Option.bind (f557F k (t8.2.length : Int)) fun y9 =>
    bif (decide (((((v.2.1 ++ y3) ++ y4) ++ y5) ++ y7).size + y9.size ≤ 9223372036854775807)) then
    f519l0 k
      (fun (w15 : D84) =>
        rec (w15.1, w15.2.1, (IntKind.i64.wrap (w15.2.2.1 + (1 : Int))), ()))
      (v.1, (((((v.2.1 ++ y3) ++ y4) ++ y5) ++ y7) ++ y9), v.2.2.1, (0 : Int), ())
    else none
    else none
    else none
    else none
    else none
    else none
    else none
  else
  k0 (v.2.1, ())
noncomputable def f519l1 {R : Type} (k : Nat) (k0 : ByteArray × Unit → Option R) (v : D84) : Option R := iterS (fun rec v => f519l1s k rec k0 v) k v
noncomputable def f519l1S (k : Nat) : Sum1 := loopSum f519l1H f519l1N k (fun R rec K v => f519l1s k rec (fun w => K (.exit 0) (encSt f519l1X0 w)) v)
theorem f519l1E (k : Nat) (R : Type) (rec : St → Option R) (K : X → St → Option R) (v : f519l1H.Den) : evS tab (f519T k) Tryz.f19.ntmps [(14926, f519l0S k)] (bodyOf f519l1C) 116 (bodyK f519l1N f519l1M rec K) (encSt f519l1H v) = f519l1s k (fun v => rec (encSt f519l1H v)) (fun w => K (.exit 0) (encSt f519l1X0 w)) v := by kernel_rfl
theorem f519l1I (k : Nat) : SumsOk P Tryz.f19.ntmps [(14926, f519l0S k)] (bodyOf f519l1C) 116 := (SumsOk.nil).cons (c := f519l0C) (by kernel_rfl) (f519l0O k)
theorem f519l1O (k : Nat) : SumOk P Tryz.f19.ntmps f519l1C (f519l1S k) := (show f519l1C = .loop (bodyOf f519l1C) by kernel_rfl) ▸ sum_loop tabOk (f519TS k) mixed (f519l1I k) (f519l1E k)
noncomputable def f519F (k : Nat) (x : (List D34)) : Option (ByteArray) :=
  Option.bind (f557F k (x.length : Int)) fun y1 =>
  f519l1 k
    (fun (w16 : ByteArray × Unit) =>
      some w16.1)
    (x, y1, (0 : Int), ())
noncomputable def f519L (k : Nat) : Sums := [(14926, f519l0S k), (58, f519l1S k)]
theorem f519LS (k : Nat) : SumsOk P Tryz.f19.ntmps (f519L k) (codeOf Tryz.f19) 1 := ((SumsOk.nil).cons (c := f519l1C) (by kernel_rfl) (f519l1O k)).cons (c := f519l0C) (by kernel_rfl) (f519l0O k)
theorem f519E (k : Nat) (x : (List D34)) : evFS tab (f519T k) (f519L k) Tryz.f19.ntmps Tryz.f19.results.toList (codeOf Tryz.f19) (argsV [.dat (.slice Y6)] x) [.dat .str] none = f519F k x := by kernel_rfl
theorem f519Ok (k : Nat) (x : (List D34)) (y : ByteArray) (h : f519F k x = some y) : FnOk P 19 [.dat (.slice Y6)] [.dat .str] x y :=
  evFS_sound tabOk (f519TS k) mixed Tryz.func19 (c := codeOf Tryz.f19) (by kernel_rfl) (f519LS k) ((f519E k x).trans h)
noncomputable def f519A (k : Nat) := entFnB [.dat (.slice Y6)] [.dat .str] (f519F k)
theorem f519Ao (k : Nat) : EntOk P 19 (f519A k) := entFnB_ok (f519Ok k)
/-! ## midrange/midrangeref34.blocks -/
noncomputable def f566T (k : Nat) : Table := []
theorem f566TS (k : Nat) : Sound P (f566T k) := Sound.nil
theorem f566B : HasBody P 66 := ⟨Tryz.f66, Tryz.func66, by kernel_rfl, by kernel_rfl⟩
noncomputable def f566F (k : Nat) (x : ByteArray) : Option (Int) :=
  let t1 := (IntKind.i64.wrap ((IntKind.i64.wrap ((x.size : Int) + (52 : Int))) - (1 : Int)))
  some (IntKind.i64.wrap (Int.tdiv t1 (52 : Int)))
noncomputable def f566L (k : Nat) : Sums := []
theorem f566LS (k : Nat) : SumsOk P Tryz.f66.ntmps (f566L k) (codeOf Tryz.f66) 1 := SumsOk.nil
theorem f566E (k : Nat) (x : ByteArray) : evFS tab (f566T k) (f566L k) Tryz.f66.ntmps Tryz.f66.results.toList (codeOf Tryz.f66) (argsV [.dat .str] x) [.dat (.int .i64)] none = f566F k x := by kernel_rfl
theorem f566Ok (k : Nat) (x : ByteArray) (y : Int) (h : f566F k x = some y) : FnOk P 66 [.dat .str] [.dat (.int .i64)] x y :=
  evFS_sound tabOk (f566TS k) mixed Tryz.func66 (c := codeOf Tryz.f66) (by kernel_rfl) (f566LS k) ((f566E k x).trans h)
noncomputable def f566A (k : Nat) := entFnB [.dat .str] [.dat (.int .i64)] (f566F k)
theorem f566Ao (k : Nat) : EntOk P 66 (f566A k) := entFnB_ok (f566Ok k)
/-! ## midrange/midrangeref07.Sum -/
noncomputable def f573T (k : Nat) : Table := []
theorem f573TS (k : Nat) : Sound P (f573T k) := Sound.nil
theorem f573B : HasBody P 73 := ⟨Tryz.f73, Tryz.func73, by kernel_rfl, by kernel_rfl⟩
noncomputable def f573l0H : Shape := ⟨[(0, .one (.str)), (3, .one (.int .i64)), (4, .one (.int .i64))], [], 0, []⟩
noncomputable def f573l0X0 : Shape := ⟨[(3, .one (.int .i64))], [], 0, []⟩
noncomputable def f573l0N : NoteR := ⟨[0, 3, 4], [], []⟩
noncomputable def f573l0M : NoteR := ⟨[2, 3], [], []⟩
noncomputable def f573l0C : Code := firstC (codesAt 58 (codeOf Tryz.f73) 1)
noncomputable def f573l0s {R : Type} (k : Nat) (rec : D46 → Option R) (k0 : Int × Unit → Option R) (v : D46) : Option R :=
  bif (decide (v.2.2.1 < (v.1.size : Int))) then
    bif ((decide ((0 : Int) ≤ v.2.2.1)) && (decide (v.2.2.1 < (v.1.size : Int)))) then
    let t1 := (IntKind.i64.wrap ((IntKind.i64.wrap ((257 : Int) * v.2.1)) + (IntKind.i64.wrap (bt v.1 v.2.2.1))))
    rec (v.1, (Int.tmod (IntKind.i64.wrap (t1 + (1 : Int))) (4294967291 : Int)), (IntKind.i64.wrap (v.2.2.1 + (1 : Int))), ())
    else none
  else
  k0 (v.2.1, ())
noncomputable def f573l0 {R : Type} (k : Nat) (k0 : Int × Unit → Option R) (v : D46) : Option R := iterS (fun rec v => f573l0s k rec k0 v) k v
noncomputable def f573l0S (k : Nat) : Sum1 := loopSum f573l0H f573l0N k (fun R rec K v => f573l0s k rec (fun w => K (.exit 0) (encSt f573l0X0 w)) v)
theorem f573l0E (k : Nat) (R : Type) (rec : St → Option R) (K : X → St → Option R) (v : f573l0H.Den) : evS tab (f573T k) Tryz.f73.ntmps [] (bodyOf f573l0C) 116 (bodyK f573l0N f573l0M rec K) (encSt f573l0H v) = f573l0s k (fun v => rec (encSt f573l0H v)) (fun w => K (.exit 0) (encSt f573l0X0 w)) v := by kernel_rfl
theorem f573l0I (k : Nat) : SumsOk P Tryz.f73.ntmps [] (bodyOf f573l0C) 116 := SumsOk.nil
theorem f573l0O (k : Nat) : SumOk P Tryz.f73.ntmps f573l0C (f573l0S k) := (show f573l0C = .loop (bodyOf f573l0C) by kernel_rfl) ▸ sum_loop tabOk (f573TS k) mixed (f573l0I k) (f573l0E k)
noncomputable def f573F (k : Nat) (x : ByteArray) : Option (Int) :=
  f573l0 k
    (fun (w2 : Int × Unit) =>
      some w2.1)
    (x, (1 : Int), (0 : Int), ())
noncomputable def f573L (k : Nat) : Sums := [(58, f573l0S k)]
theorem f573LS (k : Nat) : SumsOk P Tryz.f73.ntmps (f573L k) (codeOf Tryz.f73) 1 := (SumsOk.nil).cons (c := f573l0C) (by kernel_rfl) (f573l0O k)
theorem f573E (k : Nat) (x : ByteArray) : evFS tab (f573T k) (f573L k) Tryz.f73.ntmps Tryz.f73.results.toList (codeOf Tryz.f73) (argsV [.dat .str] x) [.dat (.int .i64)] none = f573F k x := by kernel_rfl
theorem f573Ok (k : Nat) (x : ByteArray) (y : Int) (h : f573F k x = some y) : FnOk P 73 [.dat .str] [.dat (.int .i64)] x y :=
  evFS_sound tabOk (f573TS k) mixed Tryz.func73 (c := codeOf Tryz.f73) (by kernel_rfl) (f573LS k) ((f573E k x).trans h)
noncomputable def f573A (k : Nat) := entFnB [.dat .str] [.dat (.int .i64)] (f573F k)
theorem f573Ao (k : Nat) : EntOk P 73 (f573A k) := entFnB_ok (f573Ok k)
/-! ## midrange/midrangeref34.Summed -/
noncomputable def f605T (k : Nat) : Table := [(73, f573A k), (100, f77A k)]
theorem f605TS (k : Nat) : Sound P (f605T k) := ((Sound.nil).consE f77B (f77Ao k)).consE f573B (f573Ao k)
theorem f605B : HasBody P 105 := ⟨Tryz.f105, Tryz.func105, by kernel_rfl, by kernel_rfl⟩
noncomputable def f605F (k : Nat) (x : ByteArray) : Option (ByteArray) :=
  Option.bind (f573F k x) fun y1 =>
  Option.bind (f77F k (y1, (4 : Int))) fun y2 =>
  bif (decide (x.size + y2.size ≤ 9223372036854775807)) then
  some (x ++ y2)
  else none
noncomputable def f605L (k : Nat) : Sums := []
theorem f605LS (k : Nat) : SumsOk P Tryz.f105.ntmps (f605L k) (codeOf Tryz.f105) 1 := SumsOk.nil
theorem f605E (k : Nat) (x : ByteArray) : evFS tab (f605T k) (f605L k) Tryz.f105.ntmps Tryz.f105.results.toList (codeOf Tryz.f105) (argsV [.dat .str] x) [.dat .str] none = f605F k x := by kernel_rfl
theorem f605Ok (k : Nat) (x : ByteArray) (y : ByteArray) (h : f605F k x = some y) : FnOk P 105 [.dat .str] [.dat .str] x y :=
  evFS_sound tabOk (f605TS k) mixed Tryz.func105 (c := codeOf Tryz.f105) (by kernel_rfl) (f605LS k) ((f605E k x).trans h)
noncomputable def f605A (k : Nat) := entFnB [.dat .str] [.dat .str] (f605F k)
theorem f605Ao (k : Nat) : EntOk P 105 (f605A k) := entFnB_ok (f605Ok k)
/-! ## midrange/midrangeref34.blockOf -/
noncomputable def f567T (k : Nat) : Table := [(47, f69A k), (57, f557A k), (100, f77A k), (104, f72A k), (105, f605A k)]
theorem f567TS (k : Nat) : Sound P (f567T k) := (((((Sound.nil).consE f605B (f605Ao k)).consE f72B (f72Ao k)).consE f77B (f77Ao k)).consE f557B (f557Ao k)).consE f69B (f69Ao k)
theorem f567B : HasBody P 67 := ⟨Tryz.f67, Tryz.func67, by kernel_rfl, by kernel_rfl⟩
noncomputable def f567F (k : Nat) (x : (Int × (Int × D90))) : Option (ByteArray) :=
  Option.bind (f557F k x.1) fun y1 =>
  Option.bind (f77F k (x.2.1, (2 : Int))) fun y2 =>
  bif (decide (y1.size + y2.size ≤ 9223372036854775807)) then
  Option.bind (f69F k x.2.2.2.1) fun y3 =>
  let t4 := (IntKind.i64.wrap ((x.2.2.1.size : Int) + (IntKind.i64.wrap ((128 : Int) * y3))))
  Option.bind (f557F k t4) fun y5 =>
  bif (decide ((y1 ++ y2).size + y5.size ≤ 9223372036854775807)) then
  bif (decide (((y1 ++ y2) ++ y5).size + x.2.2.1.size ≤ 9223372036854775807)) then
  Option.bind (f72F k ((0 : Int), (IntKind.i64.wrap ((52 : Int) - (x.2.2.1.size : Int))))) fun y6 =>
  bif (decide ((((y1 ++ y2) ++ y5) ++ x.2.2.1).size + y6.size ≤ 9223372036854775807)) then
  Option.bind (f557F k x.2.2.2.2) fun y7 =>
  bif (decide (((((y1 ++ y2) ++ y5) ++ x.2.2.1) ++ y6).size + y7.size ≤ 9223372036854775807)) then
  Option.bind (f72F k ((0 : Int), (3 : Int))) fun y8 =>
  bif (decide ((((((y1 ++ y2) ++ y5) ++ x.2.2.1) ++ y6) ++ y7).size + y8.size ≤ 9223372036854775807)) then
  Option.bind (f605F k ((((((y1 ++ y2) ++ y5) ++ x.2.2.1) ++ y6) ++ y7) ++ y8)) fun y9 =>
  some y9
  else none
  else none
  else none
  else none
  else none
  else none
noncomputable def f567L (k : Nat) : Sums := []
theorem f567LS (k : Nat) : SumsOk P Tryz.f67.ntmps (f567L k) (codeOf Tryz.f67) 1 := SumsOk.nil
theorem f567E (k : Nat) (x : (Int × (Int × D90))) : evFS tab (f567T k) (f567L k) Tryz.f67.ntmps Tryz.f67.results.toList (codeOf Tryz.f67) (argsV [.agg (.pair (.int .i64) Y10)] x) [.dat .str] none = f567F k x := by kernel_rfl
theorem f567Ok (k : Nat) (x : (Int × (Int × D90))) (y : ByteArray) (h : f567F k x = some y) : FnOk P 67 [.agg (.pair (.int .i64) Y10)] [.dat .str] x y :=
  evFS_sound tabOk (f567TS k) mixed Tryz.func67 (c := codeOf Tryz.f67) (by kernel_rfl) (f567LS k) ((f567E k x).trans h)
noncomputable def f567A (k : Nat) := entFnB [.agg (.pair (.int .i64) Y10)] [.dat .str] (f567F k)
theorem f567Ao (k : Nat) : EntOk P 67 (f567A k) := entFnB_ok (f567Ok k)
def f523tab : Tab := [
  (9, ⟨[], .str, 1, 16, false, some [.str ByteArray.empty], false⟩),
  (34, ⟨[], .slice 9 .str, 1, 24, false, some [.emp], false⟩),
  (36, ⟨[], .slice 81 Y7, 1, 24, false, some [.emp], false⟩),
  (81, ⟨[], .struct [(9, 0, 1), (34, 1, 1)], 2, 40, true, some [.str ByteArray.empty, .emp], false⟩),
  (122, ⟨[], .struct [(3, 0, 1), (3, 1, 1), (9, 2, 1), (4, 3, 1), (3, 4, 1)], 5, 48, true, some [.int .i64 0, .int .i64 0, .str ByteArray.empty, .bool false, .int .i64 0], true⟩)]
theorem f523tabOk : tabIs P f523tab = true := by kernel_rfl
/-! ## midrange/midrangeref34.Saved -/
noncomputable def f523T (k : Nat) : Table := [(19, f519A k), (63, f563A k), (64, f48A k), (65, f565A k), (66, f566A k), (67, f567A k)]
theorem f523TS (k : Nat) : Sound P (f523T k) := ((((((Sound.nil).consE f567B (f567Ao k)).consE f566B (f566Ao k)).consE f565B (f565Ao k)).consE f48B (f48Ao k)).consE f563B (f563Ao k)).consE f519B (f519Ao k)
theorem f523B : HasBody P 23 := ⟨Tryz.f23, Tryz.func23, by kernel_rfl, by kernel_rfl⟩
noncomputable def f523p0H : Shape := ⟨[(1, .one (.ro .str)), (2, .one (.int .i64)), (10, .one (.str)), (11, .one (.int .i64)), (12, .one (.int .i64)), (13, .one (.own 0)), (14, .one (.int .i64))], [(0, .row 81 Y7 .plain), (1, .heap 9 .str)], 2, []⟩
noncomputable def f523p0X0 : Shape := ⟨[(1, .one (.ro .str)), (2, .one (.int .i64)), (10, .one (.str)), (11, .one (.int .i64)), (12, .one (.int .i64)), (13, .one (.own 0)), (14, .one (.int .i64))], [(0, .row 81 Y7 .plain), (1, .heap 9 .str)], 2, []⟩
noncomputable def f523p0N : NoteR := ⟨[1, 2, 10, 11, 12, 13, 14], [], []⟩
noncomputable def f523p0M : NoteR := ⟨[1, 2, 6, 7, 10, 11, 12, 13, 14], [], []⟩
noncomputable def f523p0C : Code := firstC (codesAt 261960 (codeOf Tryz.f23) 1)
noncomputable def f523p0 {R : Type} (k : Nat) (k0 : D91 → Option R) (v : D91) : Option R :=
  bif (!(decide (v.2.1 = (0 : Int)))) then
  bif ((Int.tmod v.2.2.2.2.2.1 v.2.1) == (0 : Int)) then
    bif ((decide ((0 : Int) ≤ (v.2.2.2.2.2.2.1.length : Int))) && (decide ((v.2.2.2.2.2.2.1.length : Int) < (v.1.length : Int)))) then
    let t7 := [((v.1.getD (Int.toNat (v.2.2.2.2.2.2.1.length : Int)) ByteArray.empty), (0 : Nat))]
    bif (decide ((v.2.2.2.2.2.2.1.length + t7.length) * 40 ≤ 140737488355328) && decide (v.2.2.2.2.2.2.1.length + t7.length ≤ 9223372036854775807)) then
    k0 (v.1, v.2.1, v.2.2.1, v.2.2.2.1, v.2.2.2.2.1, v.2.2.2.2.2.1, (v.2.2.2.2.2.2.1 ++ t7), v.2.2.2.2.2.2.2.1, ())
    else none
    else none
  else
  k0 (v.1, v.2.1, v.2.2.1, v.2.2.2.1, v.2.2.2.2.1, v.2.2.2.2.2.1, v.2.2.2.2.2.2.1, v.2.2.2.2.2.2.2.1, ())
  else none
noncomputable def f523p0S (k : Nat) : Sum1 := partSum f523p0H f523p0N (fun R K v => f523p0 k (fun w => K .normal (encSt f523p0X0 w)) v)
theorem f523p0E (k : Nat) (R : Type) (K : X → St → Option R) (v : f523p0H.Den) : evS f523tab (f523T k) Tryz.f23.ntmps [] f523p0C 261960 (partK f523p0M K) (encSt f523p0H v) = f523p0 k (fun w => K .normal (encSt f523p0X0 w)) v := by kernel_rfl
theorem f523p0I (k : Nat) : SumsOk P Tryz.f23.ntmps [] f523p0C 261960 := SumsOk.nil
theorem f523p0O (k : Nat) : SumOk P Tryz.f23.ntmps f523p0C (f523p0S k) := sum_part f523tabOk (f523TS k) mixed (f523p0I k) (f523p0E k)
noncomputable def f523l1H : Shape := ⟨[(1, .one (.ro .str)), (2, .one (.int .i64)), (10, .one (.str)), (11, .one (.int .i64)), (12, .one (.int .i64)), (13, .one (.own 0)), (14, .one (.int .i64))], [(0, .row 81 Y7 .plain), (1, .heap 9 .str)], 2, []⟩
noncomputable def f523l1X0 : Shape := ⟨[(13, .one (.own 0))], [(0, .row 81 Y7 .plain), (1, .heap 9 .str)], 2, []⟩
noncomputable def f523l1N : NoteR := ⟨[1, 2, 10, 11, 12, 13, 14], [(13, 81, Y7)], []⟩
noncomputable def f523l1M : NoteR := ⟨[6, 7, 13], [], []⟩
noncomputable def f523l1C : Code := firstC (codesAt 8186 (codeOf Tryz.f23) 1)
noncomputable def f523l1s {R : Type} (k : Nat) (rec : D91 → Option R) (k0 : D53 → Option R) (v : D91) : Option R :=
  bif (decide (v.2.2.2.2.2.1 < v.2.2.2.1)) then
    f523p0 k
      (fun (w8 : D91) =>
        let t9 := (IntKind.i64.wrap ((IntKind.i64.wrap (w8.2.2.2.2.2.1 + (1 : Int))) * (52 : Int)))
        bif (sliceBds (IntKind.i64.wrap (w8.2.2.2.2.2.1 * (52 : Int))) (mnI (w8.2.2.1.size : Int) t9) (w8.2.2.1.size : Int)) then
        let t10 := (w8.2.2.1.extract (Int.toNat (IntKind.i64.wrap (w8.2.2.2.2.2.1 * (52 : Int)))) (Int.toNat (mnI (w8.2.2.1.size : Int) t9)))
        Option.bind (f567F k ((w8.2.2.2.2.2.2.1.length : Int), ((IntKind.i64.wrap (w8.2.2.2.2.2.1 + (1 : Int))), (t10, ((w8.2.2.2.2.2.1 == (IntKind.i64.wrap (w8.2.2.2.1 - (1 : Int)))), w8.2.2.2.2.1))))) fun y11 =>
        bif ((decide ((0 : Int) ≤ (IntKind.i64.wrap ((w8.2.2.2.2.2.2.1.length : Int) - (1 : Int))))) && (decide ((IntKind.i64.wrap ((w8.2.2.2.2.2.2.1.length : Int) - (1 : Int))) < (w8.2.2.2.2.2.2.1.length : Int)))) then
        let t12 := (w8.2.2.2.2.2.2.1.getD (Int.toNat (IntKind.i64.wrap ((w8.2.2.2.2.2.2.1.length : Int) - (1 : Int)))) (ByteArray.empty, (0 : Nat))).2
        bif (kown w8.2.2.2.2.2.2.2.1 t12 && (decide (((kget w8.2.2.2.2.2.2.2.1 t12).length + [y11].length) * 16 ≤ 140737488355328) && decide ((kget w8.2.2.2.2.2.2.2.1 t12).length + [y11].length ≤ 9223372036854775807))) then
        let t13 := (kapp w8.2.2.2.2.2.2.2.1 t12 (kget w8.2.2.2.2.2.2.2.1 t12).length [y11])
        bif ((decide ((0 : Int) ≤ (IntKind.i64.wrap ((w8.2.2.2.2.2.2.1.length : Int) - (1 : Int))))) && (decide ((IntKind.i64.wrap ((w8.2.2.2.2.2.2.1.length : Int) - (1 : Int))) < (w8.2.2.2.2.2.2.1.length : Int)))) then
        let t14 := (w8.2.2.2.2.2.2.1.set (Int.toNat (IntKind.i64.wrap ((w8.2.2.2.2.2.2.1.length : Int) - (1 : Int)))) ((w8.2.2.2.2.2.2.1.getD (Int.toNat (IntKind.i64.wrap ((w8.2.2.2.2.2.2.1.length : Int) - (1 : Int)))) (ByteArray.empty, (0 : Nat))).1, (w8.2.2.2.2.2.2.2.1.length + 1)))
        rec (w8.1, w8.2.1, w8.2.2.1, w8.2.2.2.1, w8.2.2.2.2.1, (IntKind.i64.wrap (w8.2.2.2.2.2.1 + (1 : Int))), t14, t13, ())
        else none
        else none
        else none
        else none)
      (v.1, v.2.1, v.2.2.1, v.2.2.2.1, v.2.2.2.2.1, v.2.2.2.2.2.1, v.2.2.2.2.2.2.1, v.2.2.2.2.2.2.2.1, ())
  else
  k0 (v.2.2.2.2.2.2.1, v.2.2.2.2.2.2.2.1, ())
noncomputable def f523l1 {R : Type} (k : Nat) (k0 : D53 → Option R) (v : D91) : Option R := iterS (fun rec v => f523l1s k rec k0 v) k v
noncomputable def f523l1S (k : Nat) : Sum1 := loopSum f523l1H f523l1N k (fun R rec K v => f523l1s k rec (fun w => K (.exit 0) (encSt f523l1X0 w)) v)
theorem f523l1E (k : Nat) (R : Type) (rec : St → Option R) (K : X → St → Option R) (v : f523l1H.Den) : evS f523tab (f523T k) Tryz.f23.ntmps [(261960, f523p0S k)] (bodyOf f523l1C) 16372 (bodyK f523l1N f523l1M rec K) (encSt f523l1H v) = f523l1s k (fun v => rec (encSt f523l1H v)) (fun w => K (.exit 0) (encSt f523l1X0 w)) v := by kernel_rfl
theorem f523l1I (k : Nat) : SumsOk P Tryz.f23.ntmps [(261960, f523p0S k)] (bodyOf f523l1C) 16372 := (SumsOk.nil).cons (c := f523p0C) (by kernel_rfl) (f523p0O k)
theorem f523l1O (k : Nat) : SumOk P Tryz.f23.ntmps f523l1C (f523l1S k) := (show f523l1C = .loop (bodyOf f523l1C) by kernel_rfl) ▸ sum_loop f523tabOk (f523TS k) mixed (f523l1I k) (f523l1E k)
noncomputable def f523F (k : Nat) (x : D55) : Option ((List D56) × Int) :=
  Option.bind (f563F k x.1) fun y1 =>
  bif (y1 != (0 : Int)) then
    some ([], y1)
  else
  Option.bind (f48F k (x.2.2, (1 : Int), (60 : Int))) fun y2 =>
  bif (!y2) then
    some ([], (3 : Int))
  else
  Option.bind (f565F k x.2.1) fun y3 =>
  bif (y3 != (0 : Int)) then
    some ([], y3)
  else
  Option.bind (f519F k x.1) fun y4 =>
  Option.bind (f566F k y4) fun y5 =>
  bif (!(decide (x.2.2 = (0 : Int)))) then
  let t6 := (IntKind.i64.wrap (Int.tdiv (IntKind.i64.wrap ((IntKind.i64.wrap (y5 + x.2.2)) - (1 : Int))) x.2.2))
  bif (decide (t6 > (x.2.1.length : Int))) then
    some ([], (30 : Int))
  else
  f523l1 k
    (fun (w15 : D53) =>
      bif ((w15.1.all fun q => (true && (kro (List.map Kid.frz w15.2.1) q.2))) && true) then
      some ((w15.1.map fun q => (q.1, (kget (List.map Kid.frz w15.2.1) q.2))), (0 : Int))
      else none)
    (x.2.1, x.2.2, y4, y5, t6, (0 : Int), [], [], ())
  else none
noncomputable def f523L (k : Nat) : Sums := [(261960, f523p0S k), (8186, f523l1S k)]
theorem f523LS (k : Nat) : SumsOk P Tryz.f23.ntmps (f523L k) (codeOf Tryz.f23) 1 := ((SumsOk.nil).cons (c := f523l1C) (by kernel_rfl) (f523l1O k)).cons (c := f523p0C) (by kernel_rfl) (f523p0O k)
theorem f523E (k : Nat) (x : D55) : evFS f523tab (f523T k) (f523L k) Tryz.f23.ntmps Tryz.f23.results.toList (codeOf Tryz.f23) (argsV [.dat (.slice Y6), .dat (.slice .str), .dat (.int .i64)] x) [.dat (.slice Y8), .dat (.int .i64)] (some (9, .str)) = f523F k x := by kernel_rfl
theorem f523Ok (k : Nat) (x : D55) (y : (List D56) × Int) (h : f523F k x = some y) : FnOk P 23 [.dat (.slice Y6), .dat (.slice .str), .dat (.int .i64)] [.dat (.slice Y8), .dat (.int .i64)] x y :=
  evFS_sound f523tabOk (f523TS k) mixed Tryz.func23 (c := codeOf Tryz.f23) (by kernel_rfl) (f523LS k) ((f523E k x).trans h)
noncomputable def f523A (k : Nat) := entFn [.dat (.slice Y6), .dat (.slice .str), .dat (.int .i64)] [.dat (.slice Y8), .dat (.int .i64)] (f523F k)
theorem f523Ao (k : Nat) : EntOk P 23 (f523A k) := entFn_ok (f523Ok k)
end Go.Proofs.YtobgkcamonlnkaaGreatDoor
