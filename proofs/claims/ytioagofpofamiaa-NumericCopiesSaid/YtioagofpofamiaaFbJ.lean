/- What functions of the program compute: each as a plain Lean function, and that the code comes to it. Printed by gen.py. -/
import Derived.Test.YtioagofpofamiaaFaJ
import Derived.Test.YtioagofpofamiaaProg
/-! Printed by gen.py: what functions compute. -/
set_option linter.unusedVariables false
set_option maxRecDepth 100000
namespace Go.Proofs.Ytioagofpofamiaa
open Go.Ab
/-! ## midrange/midrangeref01.aligned -/
noncomputable def f91T (k : Nat) : Table := [(61, entFn [.dat (.int .i64), .dat (.int .i64)] [.agg (.pair .bool (.slice (.int .i64)))] (f61F k))]
theorem f91TS (k : Nat) : Sound P (f91T k) := (Sound.nil).cons f61B (f61Ok k)
theorem f91B : HasBody P 91 := ⟨Go.Proofs.Try.f91, Go.Proofs.Try.func91, by kernel_rfl, by kernel_rfl⟩
noncomputable def f91F (k : Nat) (x : (Int × Int) × (Int × Int)) : Option ((Bool × (List Int)) × (Bool × (List Int)) × Int) :=
  Option.bind (f61F k (x.1.1, (IntKind.i64.wrap ((mxI x.1.2 x.2.2) - x.1.2)))) fun y1 =>
  Option.bind (f61F k (x.2.1, (IntKind.i64.wrap ((mxI x.1.2 x.2.2) - x.2.2)))) fun y2 =>
  some ((y1.1, y1.2), (y2.1, y2.2), (mxI x.1.2 x.2.2))
noncomputable def f91L (k : Nat) : Sums := []
theorem f91LS (k : Nat) : SumsOk P Go.Proofs.Try.f91.ntmps (f91L k) (codeOf Go.Proofs.Try.f91) 1 := SumsOk.nil
theorem f91E (k : Nat) (x : (Int × Int) × (Int × Int)) : evFS tab (f91T k) (f91L k) Go.Proofs.Try.f91.ntmps Go.Proofs.Try.f91.results.toList (codeOf Go.Proofs.Try.f91) (argsV [.agg (.pair (.int .i64) (.int .i64)), .agg (.pair (.int .i64) (.int .i64))] x) [.agg (.pair .bool (.slice (.int .i64))), .agg (.pair .bool (.slice (.int .i64))), .dat (.int .i64)] = f91F k x := by kernel_rfl
theorem f91Ok (k : Nat) (x : (Int × Int) × (Int × Int)) (y : (Bool × (List Int)) × (Bool × (List Int)) × Int) (h : f91F k x = some y) : FnOk P 91 [.agg (.pair (.int .i64) (.int .i64)), .agg (.pair (.int .i64) (.int .i64))] [.agg (.pair .bool (.slice (.int .i64))), .agg (.pair .bool (.slice (.int .i64))), .dat (.int .i64)] x y :=
  evFS_sound tabOk (f91TS k) mixed Go.Proofs.Try.func91 (c := codeOf Go.Proofs.Try.f91) (by kernel_rfl) (f91LS k) ((f91E k x).trans h)
/-! ## midrange/midrangeref01.Sum -/
noncomputable def f60T (k : Nat) : Table := [(92, entFn [.dat (.slice (.int .i64)), .dat (.slice (.int .i64))] [.own 3 (.int .i64)] (f92F k)), (93, entFn [.dat (.slice (.int .i64)), .dat (.slice (.int .i64))] [.dat (.int .i64)] (f93F k)), (94, entFn [.dat (.slice (.int .i64)), .dat (.slice (.int .i64))] [.dat (.slice (.int .i64))] (f94F k))]
theorem f60TS (k : Nat) : Sound P (f60T k) := (((Sound.nil).cons f94B (f94Ok k)).cons f93B (f93Ok k)).cons f92B (f92Ok k)
theorem f60B : HasBody P 60 := ⟨Go.Proofs.Try.f60, Go.Proofs.Try.func60, by kernel_rfl, by kernel_rfl⟩
noncomputable def f60p0H : Shape := ⟨[(2, .one (.ptr 0 0)), (3, .one (.ptr 1 0)), (4, .one (.ptr 2 0))], [(0, .var [.bool, .ro (.int .i64)]), (1, .var [.bool, .ro (.int .i64)]), (2, .var [.bool, .emp])], 3⟩
noncomputable def f60p0X0 : Shape := ⟨[(2, .one (.ptr 0 0)), (3, .one (.ptr 1 0)), (4, .one (.ptr 2 0))], [(0, .var [.bool, .ro (.int .i64)]), (1, .var [.bool, .ro (.int .i64)]), (2, .var [.bool, .emp])], 3⟩
noncomputable def f60p0N : NoteR := ⟨[2, 3, 4], [], []⟩
noncomputable def f60p0M : NoteR := ⟨[2, 3, 4], [], []⟩
noncomputable def f60p0C : Code := firstC (codesAt 14 (codeOf Go.Proofs.Try.f60) 1)
noncomputable def f60p0 {R : Type} (k : Nat) (k0 : Bool × List Int × Bool × List Int × Bool × Unit → Option R) (v : Bool × List Int × Bool × List Int × Bool × Unit) : Option R :=
  Option.bind (f93F k (v.2.1, v.2.2.2.1)) fun y2 =>
  bif (decide (y2 < (0 : Int))) then
    k0 (v.2.2.1, v.2.2.2.1, v.1, v.2.1, v.2.2.2.2.1, ())
  else
  k0 (v.1, v.2.1, v.2.2.1, v.2.2.2.1, v.2.2.2.2.1, ())
noncomputable def f60p0S (k : Nat) : Sum1 := partSum f60p0H f60p0N (fun R K v => f60p0 k (fun w => K .normal (encSt f60p0X0 w)) v)
theorem f60p0E (k : Nat) (R : Type) (K : X → St → Option R) (v : f60p0H.Den) : evS tab (f60T k) Go.Proofs.Try.f60.ntmps [] f60p0C 14 (partK f60p0M K) (encSt f60p0H v) = f60p0 k (fun w => K .normal (encSt f60p0X0 w)) v := by kernel_rfl
theorem f60p0I (k : Nat) : SumsOk P Go.Proofs.Try.f60.ntmps [] f60p0C 14 := SumsOk.nil
theorem f60p0O (k : Nat) : SumOk P Go.Proofs.Try.f60.ntmps f60p0C (f60p0S k) := sum_part tabOk (f60TS k) mixed (f60p0I k) (f60p0E k)
noncomputable def f60F (k : Nat) (x : (Bool × (List Int)) × (Bool × (List Int))) : Option ((Bool × (List Int))) :=
  bif (x.1.1 == x.2.1) then
    Option.bind (f92F k (x.1.2, x.2.2)) fun y1 =>
    some (x.1.1, y1)
  else
  f60p0 k
    (fun (w3 : Bool × List Int × Bool × List Int × Bool × Unit) =>
      Option.bind (f94F k (w3.2.1, w3.2.2.2.1)) fun y4 =>
      bif w3.1 then
        some ((decide ((y4.length : Int) > (0 : Int))), y4)
      else
      some (false, y4))
    (x.1.1, x.1.2, x.2.1, x.2.2, false, ())
noncomputable def f60L (k : Nat) : Sums := [(14, f60p0S k)]
theorem f60LS (k : Nat) : SumsOk P Go.Proofs.Try.f60.ntmps (f60L k) (codeOf Go.Proofs.Try.f60) 1 := (SumsOk.nil).cons (c := f60p0C) (by kernel_rfl) (f60p0O k)
theorem f60E (k : Nat) (x : (Bool × (List Int)) × (Bool × (List Int))) : evFS tab (f60T k) (f60L k) Go.Proofs.Try.f60.ntmps Go.Proofs.Try.f60.results.toList (codeOf Go.Proofs.Try.f60) (argsV [.agg (.pair .bool (.slice (.int .i64))), .agg (.pair .bool (.slice (.int .i64)))] x) [.agg (.pair .bool (.slice (.int .i64)))] = f60F k x := by kernel_rfl
theorem f60Ok (k : Nat) (x : (Bool × (List Int)) × (Bool × (List Int))) (y : (Bool × (List Int))) (h : f60F k x = some y) : FnOk P 60 [.agg (.pair .bool (.slice (.int .i64))), .agg (.pair .bool (.slice (.int .i64)))] [.agg (.pair .bool (.slice (.int .i64)))] x y :=
  evFS_sound tabOk (f60TS k) mixed Go.Proofs.Try.func60 (c := codeOf Go.Proofs.Try.f60) (by kernel_rfl) (f60LS k) ((f60E k x).trans h)
/-! ## midrange/midrangeref01.Order -/
noncomputable def f59T (k : Nat) : Table := [(60, entFn [.agg (.pair .bool (.slice (.int .i64))), .agg (.pair .bool (.slice (.int .i64)))] [.agg (.pair .bool (.slice (.int .i64)))] (f60F k)), (69, entFn [.dat .bool] [.dat (.int .i64)] (f69F k)), (91, entFn [.agg (.pair (.int .i64) (.int .i64)), .agg (.pair (.int .i64) (.int .i64))] [.agg (.pair .bool (.slice (.int .i64))), .agg (.pair .bool (.slice (.int .i64))), .dat (.int .i64)] (f91F k))]
theorem f59TS (k : Nat) : Sound P (f59T k) := (((Sound.nil).cons f91B (f91Ok k)).cons f69B (f69Ok k)).cons f60B (f60Ok k)
theorem f59B : HasBody P 59 := ⟨Go.Proofs.Try.f59, Go.Proofs.Try.func59, by kernel_rfl, by kernel_rfl⟩
noncomputable def f59F (k : Nat) (x : (Int × Int) × (Int × Int)) : Option (Int) :=
  Option.bind (f91F k ((x.1.1, x.1.2), (x.2.1, x.2.2))) fun y1 =>
  Option.bind (f60F k ((y1.1.1, y1.1.2), ((!y1.2.1.1), y1.2.1.2))) fun y2 =>
  bif ((y2.2.length : Int) == (0 : Int)) then
    some (0 : Int)
  else
  Option.bind (f69F k y2.1) fun y3 =>
  some (IntKind.i64.wrap ((1 : Int) - (IntKind.i64.wrap ((2 : Int) * y3))))
noncomputable def f59L (k : Nat) : Sums := []
theorem f59LS (k : Nat) : SumsOk P Go.Proofs.Try.f59.ntmps (f59L k) (codeOf Go.Proofs.Try.f59) 1 := SumsOk.nil
theorem f59E (k : Nat) (x : (Int × Int) × (Int × Int)) : evFS tab (f59T k) (f59L k) Go.Proofs.Try.f59.ntmps Go.Proofs.Try.f59.results.toList (codeOf Go.Proofs.Try.f59) (argsV [.agg (.pair (.int .i64) (.int .i64)), .agg (.pair (.int .i64) (.int .i64))] x) [.dat (.int .i64)] = f59F k x := by kernel_rfl
theorem f59Ok (k : Nat) (x : (Int × Int) × (Int × Int)) (y : Int) (h : f59F k x = some y) : FnOk P 59 [.agg (.pair (.int .i64) (.int .i64)), .agg (.pair (.int .i64) (.int .i64))] [.dat (.int .i64)] x y :=
  evFS_sound tabOk (f59TS k) mixed Go.Proofs.Try.func59 (c := codeOf Go.Proofs.Try.f59) (by kernel_rfl) (f59LS k) ((f59E k x).trans h)
/-! ## midrange/midrangelaw01.near -/
noncomputable def f20T (k : Nat) : Table := [(59, entFn [.agg (.pair (.int .i64) (.int .i64)), .agg (.pair (.int .i64) (.int .i64))] [.dat (.int .i64)] (f59F k)), (60, entFn [.agg (.pair .bool (.slice (.int .i64))), .agg (.pair .bool (.slice (.int .i64)))] [.agg (.pair .bool (.slice (.int .i64)))] (f60F k)), (61, entFn [.dat (.int .i64), .dat (.int .i64)] [.agg (.pair .bool (.slice (.int .i64)))] (f61F k))]
theorem f20TS (k : Nat) : Sound P (f20T k) := (((Sound.nil).cons f61B (f61Ok k)).cons f60B (f60Ok k)).cons f59B (f59Ok k)
theorem f20B : HasBody P 20 := ⟨Go.Proofs.Try.f20, Go.Proofs.Try.func20, by kernel_rfl, by kernel_rfl⟩
noncomputable def f20F (k : Nat) (x : (Int × Int) × (Int × Int) × Bool) : Option (Bool) :=
  bif (decide (x.1.2 ≤ x.2.1.2)) then
    Option.bind (f59F k ((x.1.1, x.1.2), (x.2.1.1, x.2.1.2))) fun y1 =>
    some (y1 == (0 : Int))
  else
  Option.bind (f61F k (x.1.1, (0 : Int))) fun y2 =>
  Option.bind (f61F k ((IntKind.i64.wrap (0 - x.2.1.1)), (IntKind.i64.wrap (x.1.2 - x.2.1.2)))) fun y3 =>
  Option.bind (f60F k ((y2.1, y2.2), (y3.1, y3.2))) fun y4 =>
  Option.bind (f61F k ((-1 : Int), (IntKind.i64.wrap (x.1.2 - x.2.1.2)))) fun y5 =>
  bif x.2.2 then
    Option.bind (f60F k ((false, y4.2), (false, y4.2))) fun y6 =>
    Option.bind (f60F k ((y6.1, y6.2), (y5.1, y5.2))) fun y7 =>
    bif y7.1 then
      some true
    else
    some ((y7.2.length : Int) == (0 : Int))
  else
  Option.bind (f60F k ((false, y4.2), (y5.1, y5.2))) fun y8 =>
  some y8.1
noncomputable def f20L (k : Nat) : Sums := []
theorem f20LS (k : Nat) : SumsOk P Go.Proofs.Try.f20.ntmps (f20L k) (codeOf Go.Proofs.Try.f20) 1 := SumsOk.nil
theorem f20E (k : Nat) (x : (Int × Int) × (Int × Int) × Bool) : evFS tab (f20T k) (f20L k) Go.Proofs.Try.f20.ntmps Go.Proofs.Try.f20.results.toList (codeOf Go.Proofs.Try.f20) (argsV [.agg (.pair (.int .i64) (.int .i64)), .agg (.pair (.int .i64) (.int .i64)), .dat .bool] x) [.dat .bool] = f20F k x := by kernel_rfl
theorem f20Ok (k : Nat) (x : (Int × Int) × (Int × Int) × Bool) (y : Bool) (h : f20F k x = some y) : FnOk P 20 [.agg (.pair (.int .i64) (.int .i64)), .agg (.pair (.int .i64) (.int .i64)), .dat .bool] [.dat .bool] x y :=
  evFS_sound tabOk (f20TS k) mixed Go.Proofs.Try.func20 (c := codeOf Go.Proofs.Try.f20) (by kernel_rfl) (f20LS k) ((f20E k x).trans h)
/-! ## midrange/midrangelaw01.NumericNear -/
noncomputable def f6T (k : Nat) : Table := [(13, entFn [] [.dat .bool] (f13F k)), (18, entFn [.agg (.pair (.int .i64) (.int .i64)), .agg (.pair (.int .i64) (.pair (.int .i64) (.int .i64))), .dat .bool] [.agg (.pair (.int .i64) .str), .dat (.int .i64)] (f18F k)), (20, entFn [.agg (.pair (.int .i64) (.int .i64)), .agg (.pair (.int .i64) (.int .i64)), .dat .bool] [.dat .bool] (f20F k))]
theorem f6TS (k : Nat) : Sound P (f6T k) := (((Sound.nil).cons f20B (f20Ok k)).cons f18B (f18Ok k)).cons f13B (f13Ok k)
theorem f6B : HasBody P 6 := ⟨Go.Proofs.Try.f6, Go.Proofs.Try.func6, by kernel_rfl, by kernel_rfl⟩
noncomputable def f6p0H : Shape := ⟨[(2, .one (.ptr 0 0)), (3, .one (.ptr 1 0)), (5, .one (.ptr 2 0)), (6, .one (.int .i64)), (7, .one (.ptr 3 0)), (8, .one (.int .i64))], [(0, .var [.int .i64, .int .i64]), (1, .var [.int .i64, .int .i64, .int .i64]), (2, .var [.int .i64, .str]), (3, .var [.int .i64, .str])], 4⟩
noncomputable def f6p0X0 : Shape := ⟨[(2, .one (.ptr 0 0)), (3, .one (.ptr 1 0)), (4, .one (.bool)), (7, .one (.ptr 2 0)), (8, .one (.int .i64))], [(0, .var [.int .i64, .int .i64]), (1, .var [.int .i64, .int .i64, .int .i64]), (2, .var [.int .i64, .str])], 3⟩
noncomputable def f6p0X1 : Shape := ⟨[(2, .one (.ptr 0 0)), (3, .one (.ptr 1 0)), (7, .one (.ptr 2 0)), (8, .one (.int .i64))], [(0, .var [.int .i64, .int .i64]), (1, .var [.int .i64, .int .i64, .int .i64]), (2, .var [.int .i64, .str])], 3⟩
noncomputable def f6p0N : NoteR := ⟨[2, 3, 5, 6, 7, 8], [], []⟩
noncomputable def f6p0M : NoteR := ⟨[2, 3, 4, 7, 8], [], []⟩
noncomputable def f6p0C : Code := firstC (codesAt 62 (codeOf Go.Proofs.Try.f6) 1)
noncomputable def f6p0 {R : Type} (k : Nat) (k0 : Bool × Int × Int × Int × Int × Int × Int × Int × ByteArray × Unit → Option R) (k1 : Int × Int × Int × Int × Int × Int × Int × ByteArray × Unit → Option R) (v : Int × Int × Int × Int × Int × Int × Int × Int × ByteArray × Int × ByteArray × Unit) : Option R :=
  bif (v.1 == (0 : Int)) then
    Option.bind (f20F k ((v.2.2.1, v.2.2.2.1), (v.2.2.2.2.2.2.2.1, v.2.2.2.2.2.2.1), false)) fun y4 =>
    bif (!y4) then
      k0 (false, v.2.1, v.2.2.1, v.2.2.2.1, v.2.2.2.2.1, v.2.2.2.2.2.1, v.2.2.2.2.2.2.1, v.2.2.2.2.2.2.2.2.2.1, v.2.2.2.2.2.2.2.2.2.2.1, ())
    else
    k1 (v.2.1, v.2.2.1, v.2.2.2.1, v.2.2.2.2.1, v.2.2.2.2.2.1, v.2.2.2.2.2.2.1, v.2.2.2.2.2.2.2.2.2.1, v.2.2.2.2.2.2.2.2.2.2.1, ())
  else
  k1 (v.2.1, v.2.2.1, v.2.2.2.1, v.2.2.2.2.1, v.2.2.2.2.2.1, v.2.2.2.2.2.2.1, v.2.2.2.2.2.2.2.2.2.1, v.2.2.2.2.2.2.2.2.2.2.1, ())
noncomputable def f6p0S (k : Nat) : Sum1 := partSum f6p0H f6p0N (fun R K v => f6p0 k (fun w => K .ret (encSt f6p0X0 w)) (fun w => K .normal (encSt f6p0X1 w)) v)
theorem f6p0E (k : Nat) (R : Type) (K : X → St → Option R) (v : f6p0H.Den) : evS tab (f6T k) Go.Proofs.Try.f6.ntmps [] f6p0C 62 (partK f6p0M K) (encSt f6p0H v) = f6p0 k (fun w => K .ret (encSt f6p0X0 w)) (fun w => K .normal (encSt f6p0X1 w)) v := by kernel_rfl
theorem f6p0I (k : Nat) : SumsOk P Go.Proofs.Try.f6.ntmps [] f6p0C 62 := SumsOk.nil
theorem f6p0O (k : Nat) : SumOk P Go.Proofs.Try.f6.ntmps f6p0C (f6p0S k) := sum_part tabOk (f6TS k) mixed (f6p0I k) (f6p0E k)
noncomputable def f6F (k : Nat) (x : (Int × Int) × (Int × (Int × Int))) : Option (Bool) :=
  Option.bind (f13F k ()) fun y1 =>
  bif (!y1) then
    some false
  else
  Option.bind (f18F k ((x.1.1, x.1.2), (x.2.1, (x.2.2.1, x.2.2.2)), false)) fun y2 =>
  Option.bind (f18F k ((x.1.1, x.1.2), (x.2.1, (x.2.2.1, x.2.2.2)), true)) fun y3 =>
  f6p0 k
    (fun (w5 : Bool × Int × Int × Int × Int × Int × Int × Int × ByteArray × Unit) =>
      some w5.1)
    (fun (w6 : Int × Int × Int × Int × Int × Int × Int × ByteArray × Unit) =>
      bif (w6.1 != (0 : Int)) then
        some true
      else
      Option.bind (f20F k ((w6.2.1, w6.2.2.1), (w6.2.2.2.2.2.2.1, w6.2.2.2.2.2.1), true)) fun y7 =>
      some y7)
    (y2.2, y3.2, x.1.1, x.1.2, x.2.1, x.2.2.1, x.2.2.2, y2.1.1, y2.1.2, y3.1.1, y3.1.2, ())
noncomputable def f6L (k : Nat) : Sums := [(62, f6p0S k)]
theorem f6LS (k : Nat) : SumsOk P Go.Proofs.Try.f6.ntmps (f6L k) (codeOf Go.Proofs.Try.f6) 1 := (SumsOk.nil).cons (c := f6p0C) (by kernel_rfl) (f6p0O k)
theorem f6E (k : Nat) (x : (Int × Int) × (Int × (Int × Int))) : evFS tab (f6T k) (f6L k) Go.Proofs.Try.f6.ntmps Go.Proofs.Try.f6.results.toList (codeOf Go.Proofs.Try.f6) (argsV [.agg (.pair (.int .i64) (.int .i64)), .agg (.pair (.int .i64) (.pair (.int .i64) (.int .i64)))] x) [.dat .bool] = f6F k x := by kernel_rfl
theorem f6Ok (k : Nat) (x : (Int × Int) × (Int × (Int × Int))) (y : Bool) (h : f6F k x = some y) : FnOk P 6 [.agg (.pair (.int .i64) (.int .i64)), .agg (.pair (.int .i64) (.pair (.int .i64) (.int .i64)))] [.dat .bool] x y :=
  evFS_sound tabOk (f6TS k) mixed Go.Proofs.Try.func6 (c := codeOf Go.Proofs.Try.f6) (by kernel_rfl) (f6LS k) ((f6E k x).trans h)
/-! ## midrange/numeric.aligned -/
noncomputable def f62T (k : Nat) : Table := [(83, entFn [.agg (.pair (.int .i64) (.int .i64)), .dat (.int .i64)] [.agg (.pair (.int .u64) (.pair (.int .u64) (.pair (.int .u64) (.int .u64))))] (f83F k))]
theorem f62TS (k : Nat) : Sound P (f62T k) := (Sound.nil).cons f83B (f83Ok k)
theorem f62B : HasBody P 62 := ⟨Go.Proofs.Try.f62, Go.Proofs.Try.func62, by kernel_rfl, by kernel_rfl⟩
noncomputable def f62F (k : Nat) (x : (Int × Int) × (Int × Int)) : Option ((Int × (Int × (Int × Int))) × (Int × (Int × (Int × Int))) × Int) :=
  Option.bind (f83F k ((x.1.1, x.1.2), (IntKind.i64.wrap ((mxI x.1.2 x.2.2) - x.1.2)))) fun y1 =>
  Option.bind (f83F k ((x.2.1, x.2.2), (IntKind.i64.wrap ((mxI x.1.2 x.2.2) - x.2.2)))) fun y2 =>
  some ((y1.1, (y1.2.1, (y1.2.2.1, y1.2.2.2))), (y2.1, (y2.2.1, (y2.2.2.1, y2.2.2.2))), (mxI x.1.2 x.2.2))
noncomputable def f62L (k : Nat) : Sums := []
theorem f62LS (k : Nat) : SumsOk P Go.Proofs.Try.f62.ntmps (f62L k) (codeOf Go.Proofs.Try.f62) 1 := SumsOk.nil
theorem f62E (k : Nat) (x : (Int × Int) × (Int × Int)) : evFS tab (f62T k) (f62L k) Go.Proofs.Try.f62.ntmps Go.Proofs.Try.f62.results.toList (codeOf Go.Proofs.Try.f62) (argsV [.agg (.pair (.int .i64) (.int .i64)), .agg (.pair (.int .i64) (.int .i64))] x) [.agg (.pair (.int .u64) (.pair (.int .u64) (.pair (.int .u64) (.int .u64)))), .agg (.pair (.int .u64) (.pair (.int .u64) (.pair (.int .u64) (.int .u64)))), .dat (.int .i64)] = f62F k x := by kernel_rfl
theorem f62Ok (k : Nat) (x : (Int × Int) × (Int × Int)) (y : (Int × (Int × (Int × Int))) × (Int × (Int × (Int × Int))) × Int) (h : f62F k x = some y) : FnOk P 62 [.agg (.pair (.int .i64) (.int .i64)), .agg (.pair (.int .i64) (.int .i64))] [.agg (.pair (.int .u64) (.pair (.int .u64) (.pair (.int .u64) (.int .u64)))), .agg (.pair (.int .u64) (.pair (.int .u64) (.pair (.int .u64) (.int .u64)))), .dat (.int .i64)] x y :=
  evFS_sound tabOk (f62TS k) mixed Go.Proofs.Try.func62 (c := codeOf Go.Proofs.Try.f62) (by kernel_rfl) (f62LS k) ((f62E k x).trans h)
/-! ## midrange/numeric.Compared -/
noncomputable def f21T (k : Nat) : Table := [(42, entFn [.dat (.slice (.int .i64))] [.dat (.int .i64)] (f42F k)), (52, entFn [.agg (.pair (.int .i64) (.int .i64))] [.dat (.int .i64)] (f52F k)), (62, entFn [.agg (.pair (.int .i64) (.int .i64)), .agg (.pair (.int .i64) (.int .i64))] [.agg (.pair (.int .u64) (.pair (.int .u64) (.pair (.int .u64) (.int .u64)))), .agg (.pair (.int .u64) (.pair (.int .u64) (.pair (.int .u64) (.int .u64)))), .dat (.int .i64)] (f62F k)), (63, entFn [.agg (.pair (.int .u64) (.pair (.int .u64) (.pair (.int .u64) (.int .u64)))), .agg (.pair (.int .u64) (.pair (.int .u64) (.pair (.int .u64) (.int .u64))))] [.dat (.int .i64)] (f63F k))]
theorem f21TS (k : Nat) : Sound P (f21T k) := ((((Sound.nil).cons f63B (f63Ok k)).cons f62B (f62Ok k)).cons f52B (f52Ok k)).cons f42B (f42Ok k)
theorem f21B : HasBody P 21 := ⟨Go.Proofs.Try.f21, Go.Proofs.Try.func21, by kernel_rfl, by kernel_rfl⟩
noncomputable def f21p0H : Shape := ⟨[(2, .one (.ptr 0 0)), (3, .one (.ptr 1 0)), (7, .one (.ptr 2 0)), (8, .one (.ptr 3 0))], [(0, .var [.int .i64, .int .i64]), (1, .var [.int .i64, .int .i64]), (2, .var [.int .u64, .int .u64, .int .u64, .int .u64]), (3, .var [.int .u64, .int .u64, .int .u64, .int .u64])], 4⟩
noncomputable def f21p0X0 : Shape := ⟨[(4, .one (.int .i64)), (5, .one (.int .i64)), (7, .one (.ptr 0 0)), (8, .one (.ptr 1 0))], [(0, .var [.int .u64, .int .u64, .int .u64, .int .u64]), (1, .var [.int .u64, .int .u64, .int .u64, .int .u64])], 2⟩
noncomputable def f21p0X1 : Shape := ⟨[(7, .one (.ptr 0 0)), (8, .one (.ptr 1 0))], [(0, .var [.int .u64, .int .u64, .int .u64, .int .u64]), (1, .var [.int .u64, .int .u64, .int .u64, .int .u64])], 2⟩
noncomputable def f21p0N : NoteR := ⟨[2, 3, 7, 8], [], []⟩
noncomputable def f21p0M : NoteR := ⟨[4, 5, 7, 8], [], []⟩
noncomputable def f21p0C : Code := firstC (codesAt 30 (codeOf Go.Proofs.Try.f21) 1)
noncomputable def f21p0 {R : Type} (k : Nat) (k0 : Int × Int × Int × Int × Int × Int × Int × Int × Int × Int × Unit → Option R) (k1 : Int × Int × Int × Int × Int × Int × Int × Int × Unit → Option R) (v : Int × Int × Int × Int × Int × Int × Int × Int × Int × Int × Int × Int × Unit) : Option R :=
  bif (decide (v.1 < (0 : Int))) then
    bif (decide (v.2.2.1 < (0 : Int))) then
      Option.bind (f63F k ((v.2.2.2.2.2.2.2.2.1, (v.2.2.2.2.2.2.2.2.2.1, (v.2.2.2.2.2.2.2.2.2.2.1, v.2.2.2.2.2.2.2.2.2.2.2.1))), (v.2.2.2.2.1, (v.2.2.2.2.2.1, (v.2.2.2.2.2.2.1, v.2.2.2.2.2.2.2.1))))) fun y5 =>
      k0 (y5, (0 : Int), v.2.2.2.2.1, v.2.2.2.2.2.1, v.2.2.2.2.2.2.1, v.2.2.2.2.2.2.2.1, v.2.2.2.2.2.2.2.2.1, v.2.2.2.2.2.2.2.2.2.1, v.2.2.2.2.2.2.2.2.2.2.1, v.2.2.2.2.2.2.2.2.2.2.2.1, ())
    else
    bif (decide (v.1 < (0 : Int))) then
      k0 ((-1 : Int), (0 : Int), v.2.2.2.2.1, v.2.2.2.2.2.1, v.2.2.2.2.2.2.1, v.2.2.2.2.2.2.2.1, v.2.2.2.2.2.2.2.2.1, v.2.2.2.2.2.2.2.2.2.1, v.2.2.2.2.2.2.2.2.2.2.1, v.2.2.2.2.2.2.2.2.2.2.2.1, ())
    else
    bif (decide (v.2.2.1 < (0 : Int))) then
      k0 ((1 : Int), (0 : Int), v.2.2.2.2.1, v.2.2.2.2.2.1, v.2.2.2.2.2.2.1, v.2.2.2.2.2.2.2.1, v.2.2.2.2.2.2.2.2.1, v.2.2.2.2.2.2.2.2.2.1, v.2.2.2.2.2.2.2.2.2.2.1, v.2.2.2.2.2.2.2.2.2.2.2.1, ())
    else
    k1 (v.2.2.2.2.1, v.2.2.2.2.2.1, v.2.2.2.2.2.2.1, v.2.2.2.2.2.2.2.1, v.2.2.2.2.2.2.2.2.1, v.2.2.2.2.2.2.2.2.2.1, v.2.2.2.2.2.2.2.2.2.2.1, v.2.2.2.2.2.2.2.2.2.2.2.1, ())
  else
  bif (decide (v.1 < (0 : Int))) then
    k0 ((-1 : Int), (0 : Int), v.2.2.2.2.1, v.2.2.2.2.2.1, v.2.2.2.2.2.2.1, v.2.2.2.2.2.2.2.1, v.2.2.2.2.2.2.2.2.1, v.2.2.2.2.2.2.2.2.2.1, v.2.2.2.2.2.2.2.2.2.2.1, v.2.2.2.2.2.2.2.2.2.2.2.1, ())
  else
  bif (decide (v.2.2.1 < (0 : Int))) then
    k0 ((1 : Int), (0 : Int), v.2.2.2.2.1, v.2.2.2.2.2.1, v.2.2.2.2.2.2.1, v.2.2.2.2.2.2.2.1, v.2.2.2.2.2.2.2.2.1, v.2.2.2.2.2.2.2.2.2.1, v.2.2.2.2.2.2.2.2.2.2.1, v.2.2.2.2.2.2.2.2.2.2.2.1, ())
  else
  k1 (v.2.2.2.2.1, v.2.2.2.2.2.1, v.2.2.2.2.2.2.1, v.2.2.2.2.2.2.2.1, v.2.2.2.2.2.2.2.2.1, v.2.2.2.2.2.2.2.2.2.1, v.2.2.2.2.2.2.2.2.2.2.1, v.2.2.2.2.2.2.2.2.2.2.2.1, ())
noncomputable def f21p0S (k : Nat) : Sum1 := partSum f21p0H f21p0N (fun R K v => f21p0 k (fun w => K .ret (encSt f21p0X0 w)) (fun w => K .normal (encSt f21p0X1 w)) v)
theorem f21p0E (k : Nat) (R : Type) (K : X → St → Option R) (v : f21p0H.Den) : evS tab (f21T k) Go.Proofs.Try.f21.ntmps [] f21p0C 30 (partK f21p0M K) (encSt f21p0H v) = f21p0 k (fun w => K .ret (encSt f21p0X0 w)) (fun w => K .normal (encSt f21p0X1 w)) v := by kernel_rfl
theorem f21p0I (k : Nat) : SumsOk P Go.Proofs.Try.f21.ntmps [] f21p0C 30 := SumsOk.nil
theorem f21p0O (k : Nat) : SumOk P Go.Proofs.Try.f21.ntmps f21p0C (f21p0S k) := sum_part tabOk (f21TS k) mixed (f21p0I k) (f21p0E k)
noncomputable def f21F (k : Nat) (x : (Int × Int) × (Int × Int)) : Option (Int × Int) :=
  Option.bind (f52F k (x.1.1, x.1.2)) fun y1 =>
  Option.bind (f52F k (x.2.1, x.2.2)) fun y2 =>
  Option.bind (f42F k [y1, y2]) fun y3 =>
  bif (y3 != (0 : Int)) then
    some ((0 : Int), y3)
  else
  Option.bind (f62F k ((x.1.1, x.1.2), (x.2.1, x.2.2))) fun y4 =>
  f21p0 k
    (fun (w6 : Int × Int × Int × Int × Int × Int × Int × Int × Int × Int × Unit) =>
      some (w6.1, w6.2.1))
    (fun (w7 : Int × Int × Int × Int × Int × Int × Int × Int × Unit) =>
      Option.bind (f63F k ((w7.1, (w7.2.1, (w7.2.2.1, w7.2.2.2.1))), (w7.2.2.2.2.1, (w7.2.2.2.2.2.1, (w7.2.2.2.2.2.2.1, w7.2.2.2.2.2.2.2.1))))) fun y8 =>
      some (y8, (0 : Int)))
    (x.1.1, x.1.2, x.2.1, x.2.2, y4.1.1, y4.1.2.1, y4.1.2.2.1, y4.1.2.2.2, y4.2.1.1, y4.2.1.2.1, y4.2.1.2.2.1, y4.2.1.2.2.2, ())
noncomputable def f21L (k : Nat) : Sums := [(30, f21p0S k)]
theorem f21LS (k : Nat) : SumsOk P Go.Proofs.Try.f21.ntmps (f21L k) (codeOf Go.Proofs.Try.f21) 1 := (SumsOk.nil).cons (c := f21p0C) (by kernel_rfl) (f21p0O k)
theorem f21E (k : Nat) (x : (Int × Int) × (Int × Int)) : evFS tab (f21T k) (f21L k) Go.Proofs.Try.f21.ntmps Go.Proofs.Try.f21.results.toList (codeOf Go.Proofs.Try.f21) (argsV [.agg (.pair (.int .i64) (.int .i64)), .agg (.pair (.int .i64) (.int .i64))] x) [.dat (.int .i64), .dat (.int .i64)] = f21F k x := by kernel_rfl
theorem f21Ok (k : Nat) (x : (Int × Int) × (Int × Int)) (y : Int × Int) (h : f21F k x = some y) : FnOk P 21 [.agg (.pair (.int .i64) (.int .i64)), .agg (.pair (.int .i64) (.int .i64))] [.dat (.int .i64), .dat (.int .i64)] x y :=
  evFS_sound tabOk (f21TS k) mixed Go.Proofs.Try.func21 (c := codeOf Go.Proofs.Try.f21) (by kernel_rfl) (f21LS k) ((f21E k x).trans h)
/-! ## midrange/midrangelaw01.NumericOrders -/
noncomputable def f7T (k : Nat) : Table := [(13, entFn [] [.dat .bool] (f13F k)), (14, entFn [.agg (.pair (.int .i64) (.pair (.int .i64) (.int .i64))), .agg (.pair (.int .i64) .str)] [.dat .str, .dat (.int .i64)] (f14F k)), (18, entFn [.agg (.pair (.int .i64) (.int .i64)), .agg (.pair (.int .i64) (.pair (.int .i64) (.int .i64))), .dat .bool] [.agg (.pair (.int .i64) .str), .dat (.int .i64)] (f18F k)), (21, entFn [.agg (.pair (.int .i64) (.int .i64)), .agg (.pair (.int .i64) (.int .i64))] [.dat (.int .i64), .dat (.int .i64)] (f21F k))]
theorem f7TS (k : Nat) : Sound P (f7T k) := ((((Sound.nil).cons f21B (f21Ok k)).cons f18B (f18Ok k)).cons f14B (f14Ok k)).cons f13B (f13Ok k)
theorem f7B : HasBody P 7 := ⟨Go.Proofs.Try.f7, Go.Proofs.Try.func7, by kernel_rfl, by kernel_rfl⟩
noncomputable def f7p0H : Shape := ⟨[(3, .one (.ptr 0 0)), (7, .one (.ptr 1 0)), (9, .one (.ptr 2 0)), (11, .one (.int .i64)), (12, .one (.int .i64))], [(0, .var [.int .i64, .int .i64, .int .i64]), (1, .var [.int .i64, .str]), (2, .var [.int .i64, .str])], 3⟩
noncomputable def f7p0X0 : Shape := ⟨[(3, .one (.ptr 0 0)), (6, .one (.bool)), (7, .one (.ptr 1 0)), (9, .one (.ptr 2 0))], [(0, .var [.int .i64, .int .i64, .int .i64]), (1, .var [.int .i64, .str]), (2, .var [.int .i64, .str])], 3⟩
noncomputable def f7p0X1 : Shape := ⟨[(3, .one (.ptr 0 0)), (7, .one (.ptr 1 0)), (9, .one (.ptr 2 0))], [(0, .var [.int .i64, .int .i64, .int .i64]), (1, .var [.int .i64, .str]), (2, .var [.int .i64, .str])], 3⟩
noncomputable def f7p0N : NoteR := ⟨[3, 7, 9, 11, 12], [], []⟩
noncomputable def f7p0M : NoteR := ⟨[3, 6, 7, 9], [], []⟩
noncomputable def f7p0C : Code := firstC (codesAt 254 (codeOf Go.Proofs.Try.f7) 1)
noncomputable def f7p0 {R : Type} (k : Nat) (k0 : Bool × Int × Int × Int × Int × ByteArray × Int × ByteArray × Unit → Option R) (k1 : Int × Int × Int × Int × ByteArray × Int × ByteArray × Unit → Option R) (v : Int × Int × Int × Int × Int × Int × ByteArray × Int × ByteArray × Unit) : Option R :=
  bif (v.2.1 != (0 : Int)) then
    k0 (false, v.2.2.1, v.2.2.2.1, v.2.2.2.2.1, v.2.2.2.2.2.1, v.2.2.2.2.2.2.1, v.2.2.2.2.2.2.2.1, v.2.2.2.2.2.2.2.2.1, ())
  else
  bif (decide (v.1 < (0 : Int))) then
    bif (decide (v.2.2.2.2.2.1 > v.2.2.2.2.2.2.2.1)) then
      k0 (false, v.2.2.1, v.2.2.2.1, v.2.2.2.2.1, v.2.2.2.2.2.1, v.2.2.2.2.2.2.1, v.2.2.2.2.2.2.2.1, v.2.2.2.2.2.2.2.2.1, ())
    else
    bif (v.1 == (0 : Int)) then
      bif (v.2.2.2.2.2.1 != v.2.2.2.2.2.2.2.1) then
        k0 (false, v.2.2.1, v.2.2.2.1, v.2.2.2.2.1, v.2.2.2.2.2.1, v.2.2.2.2.2.2.1, v.2.2.2.2.2.2.2.1, v.2.2.2.2.2.2.2.2.1, ())
      else
      bif (decide (v.1 > (0 : Int))) then
        bif (decide (v.2.2.2.2.2.1 < v.2.2.2.2.2.2.2.1)) then
          k0 (false, v.2.2.1, v.2.2.2.1, v.2.2.2.2.1, v.2.2.2.2.2.1, v.2.2.2.2.2.2.1, v.2.2.2.2.2.2.2.1, v.2.2.2.2.2.2.2.2.1, ())
        else
        k1 (v.2.2.1, v.2.2.2.1, v.2.2.2.2.1, v.2.2.2.2.2.1, v.2.2.2.2.2.2.1, v.2.2.2.2.2.2.2.1, v.2.2.2.2.2.2.2.2.1, ())
      else
      k1 (v.2.2.1, v.2.2.2.1, v.2.2.2.2.1, v.2.2.2.2.2.1, v.2.2.2.2.2.2.1, v.2.2.2.2.2.2.2.1, v.2.2.2.2.2.2.2.2.1, ())
    else
    bif (decide (v.1 > (0 : Int))) then
      bif (decide (v.2.2.2.2.2.1 < v.2.2.2.2.2.2.2.1)) then
        k0 (false, v.2.2.1, v.2.2.2.1, v.2.2.2.2.1, v.2.2.2.2.2.1, v.2.2.2.2.2.2.1, v.2.2.2.2.2.2.2.1, v.2.2.2.2.2.2.2.2.1, ())
      else
      k1 (v.2.2.1, v.2.2.2.1, v.2.2.2.2.1, v.2.2.2.2.2.1, v.2.2.2.2.2.2.1, v.2.2.2.2.2.2.2.1, v.2.2.2.2.2.2.2.2.1, ())
    else
    k1 (v.2.2.1, v.2.2.2.1, v.2.2.2.2.1, v.2.2.2.2.2.1, v.2.2.2.2.2.2.1, v.2.2.2.2.2.2.2.1, v.2.2.2.2.2.2.2.2.1, ())
  else
  bif (v.1 == (0 : Int)) then
    bif (v.2.2.2.2.2.1 != v.2.2.2.2.2.2.2.1) then
      k0 (false, v.2.2.1, v.2.2.2.1, v.2.2.2.2.1, v.2.2.2.2.2.1, v.2.2.2.2.2.2.1, v.2.2.2.2.2.2.2.1, v.2.2.2.2.2.2.2.2.1, ())
    else
    bif (decide (v.1 > (0 : Int))) then
      bif (decide (v.2.2.2.2.2.1 < v.2.2.2.2.2.2.2.1)) then
        k0 (false, v.2.2.1, v.2.2.2.1, v.2.2.2.2.1, v.2.2.2.2.2.1, v.2.2.2.2.2.2.1, v.2.2.2.2.2.2.2.1, v.2.2.2.2.2.2.2.2.1, ())
      else
      k1 (v.2.2.1, v.2.2.2.1, v.2.2.2.2.1, v.2.2.2.2.2.1, v.2.2.2.2.2.2.1, v.2.2.2.2.2.2.2.1, v.2.2.2.2.2.2.2.2.1, ())
    else
    k1 (v.2.2.1, v.2.2.2.1, v.2.2.2.2.1, v.2.2.2.2.2.1, v.2.2.2.2.2.2.1, v.2.2.2.2.2.2.2.1, v.2.2.2.2.2.2.2.2.1, ())
  else
  bif (decide (v.1 > (0 : Int))) then
    bif (decide (v.2.2.2.2.2.1 < v.2.2.2.2.2.2.2.1)) then
      k0 (false, v.2.2.1, v.2.2.2.1, v.2.2.2.2.1, v.2.2.2.2.2.1, v.2.2.2.2.2.2.1, v.2.2.2.2.2.2.2.1, v.2.2.2.2.2.2.2.2.1, ())
    else
    k1 (v.2.2.1, v.2.2.2.1, v.2.2.2.2.1, v.2.2.2.2.2.1, v.2.2.2.2.2.2.1, v.2.2.2.2.2.2.2.1, v.2.2.2.2.2.2.2.2.1, ())
  else
  k1 (v.2.2.1, v.2.2.2.1, v.2.2.2.2.1, v.2.2.2.2.2.1, v.2.2.2.2.2.2.1, v.2.2.2.2.2.2.2.1, v.2.2.2.2.2.2.2.2.1, ())
noncomputable def f7p0S (k : Nat) : Sum1 := partSum f7p0H f7p0N (fun R K v => f7p0 k (fun w => K .ret (encSt f7p0X0 w)) (fun w => K .normal (encSt f7p0X1 w)) v)
theorem f7p0E (k : Nat) (R : Type) (K : X → St → Option R) (v : f7p0H.Den) : evS tab (f7T k) Go.Proofs.Try.f7.ntmps [] f7p0C 254 (partK f7p0M K) (encSt f7p0H v) = f7p0 k (fun w => K .ret (encSt f7p0X0 w)) (fun w => K .normal (encSt f7p0X1 w)) v := by kernel_rfl
theorem f7p0I (k : Nat) : SumsOk P Go.Proofs.Try.f7.ntmps [] f7p0C 254 := SumsOk.nil
theorem f7p0O (k : Nat) : SumOk P Go.Proofs.Try.f7.ntmps f7p0C (f7p0S k) := sum_part tabOk (f7TS k) mixed (f7p0I k) (f7p0E k)
noncomputable def f7F (k : Nat) (x : (Int × (Int × Int)) × ((Int × Int) × (Int × Int)) × Bool) : Option (Bool) :=
  Option.bind (f13F k ()) fun y1 =>
  bif (!y1) then
    some false
  else
  Option.bind (f18F k ((x.2.1.1.1, x.2.1.1.2), (x.1.1, (x.1.2.1, x.1.2.2)), x.2.2)) fun y2 =>
  Option.bind (f18F k ((x.2.1.2.1, x.2.1.2.2), (x.1.1, (x.1.2.1, x.1.2.2)), x.2.2)) fun y3 =>
  Option.bind (f21F k ((x.2.1.1.1, x.2.1.1.2), (x.2.1.2.1, x.2.1.2.2))) fun y4 =>
  bif (y2.2 != (0 : Int)) then
    some true
  else
  bif (y3.2 != (0 : Int)) then
    some true
  else
  f7p0 k
    (fun (w5 : Bool × Int × Int × Int × Int × ByteArray × Int × ByteArray × Unit) =>
      some w5.1)
    (fun (w6 : Int × Int × Int × Int × ByteArray × Int × ByteArray × Unit) =>
      bif (w6.1 != (2 : Int)) then
        some true
      else
      bif (decide (w6.2.2.2.1 < (0 : Int))) then
        some true
      else
      bif (decide (w6.2.2.2.2.2.1 < (0 : Int))) then
        some true
      else
      Option.bind (f14F k ((w6.1, (w6.2.1, w6.2.2.1)), (w6.2.2.2.1, w6.2.2.2.2.1))) fun y7 =>
      Option.bind (f14F k ((w6.1, (w6.2.1, w6.2.2.1)), (w6.2.2.2.2.2.1, w6.2.2.2.2.2.2.1))) fun y8 =>
      bif (y7.2 == (0 : Int)) then
        bif (y8.2 == (0 : Int)) then
          some ((strLt y7.1 y8.1) == (decide (w6.2.2.2.1 < w6.2.2.2.2.2.1)))
        else
        some false
      else
      some false)
    (y4.1, y4.2, x.1.1, x.1.2.1, x.1.2.2, y2.1.1, y2.1.2, y3.1.1, y3.1.2, ())
noncomputable def f7L (k : Nat) : Sums := [(254, f7p0S k)]
theorem f7LS (k : Nat) : SumsOk P Go.Proofs.Try.f7.ntmps (f7L k) (codeOf Go.Proofs.Try.f7) 1 := (SumsOk.nil).cons (c := f7p0C) (by kernel_rfl) (f7p0O k)
theorem f7E (k : Nat) (x : (Int × (Int × Int)) × ((Int × Int) × (Int × Int)) × Bool) : evFS tab (f7T k) (f7L k) Go.Proofs.Try.f7.ntmps Go.Proofs.Try.f7.results.toList (codeOf Go.Proofs.Try.f7) (argsV [.agg (.pair (.int .i64) (.pair (.int .i64) (.int .i64))), .agg (.pair (.pair (.int .i64) (.int .i64)) (.pair (.int .i64) (.int .i64))), .dat .bool] x) [.dat .bool] = f7F k x := by kernel_rfl
theorem f7Ok (k : Nat) (x : (Int × (Int × Int)) × ((Int × Int) × (Int × Int)) × Bool) (y : Bool) (h : f7F k x = some y) : FnOk P 7 [.agg (.pair (.int .i64) (.pair (.int .i64) (.int .i64))), .agg (.pair (.pair (.int .i64) (.int .i64)) (.pair (.int .i64) (.int .i64))), .dat .bool] [.dat .bool] x y :=
  evFS_sound tabOk (f7TS k) mixed Go.Proofs.Try.func7 (c := codeOf Go.Proofs.Try.f7) (by kernel_rfl) (f7LS k) ((f7E k x).trans h)
/-! ## midrange/numeric.isOp -/
noncomputable def f64T (k : Nat) : Table := [(70, entFn [.dat (.int .i64), .dat (.int .i64), .dat (.int .i64)] [.dat .bool] (f70F k))]
theorem f64TS (k : Nat) : Sound P (f64T k) := (Sound.nil).cons f70B (f70Ok k)
theorem f64B : HasBody P 64 := ⟨Go.Proofs.Try.f64, Go.Proofs.Try.func64, by kernel_rfl, by kernel_rfl⟩
noncomputable def f64F (k : Nat) (x : Int) : Option (Bool) :=
  Option.bind (f70F k (x, (0 : Int), (4 : Int))) fun y1 =>
  some y1
noncomputable def f64L (k : Nat) : Sums := []
theorem f64LS (k : Nat) : SumsOk P Go.Proofs.Try.f64.ntmps (f64L k) (codeOf Go.Proofs.Try.f64) 1 := SumsOk.nil
theorem f64E (k : Nat) (x : Int) : evFS tab (f64T k) (f64L k) Go.Proofs.Try.f64.ntmps Go.Proofs.Try.f64.results.toList (codeOf Go.Proofs.Try.f64) (argsV [.dat (.int .i64)] x) [.dat .bool] = f64F k x := by kernel_rfl
theorem f64Ok (k : Nat) (x : Int) (y : Bool) (h : f64F k x = some y) : FnOk P 64 [.dat (.int .i64)] [.dat .bool] x y :=
  evFS_sound tabOk (f64TS k) mixed Go.Proofs.Try.func64 (c := codeOf Go.Proofs.Try.f64) (by kernel_rfl) (f64LS k) ((f64E k x).trans h)
/-! ## midrange/numeric.divides -/
noncomputable def f96T (k : Nat) : Table := []
theorem f96TS (k : Nat) : Sound P (f96T k) := Sound.nil
theorem f96B : HasBody P 96 := ⟨Go.Proofs.Try.f96, Go.Proofs.Try.func96, by kernel_rfl, by kernel_rfl⟩
noncomputable def f96F (k : Nat) (x : Int) : Option (Bool) :=
  bif (x == (3 : Int)) then
    some true
  else
  some (x == (4 : Int))
noncomputable def f96L (k : Nat) : Sums := []
theorem f96LS (k : Nat) : SumsOk P Go.Proofs.Try.f96.ntmps (f96L k) (codeOf Go.Proofs.Try.f96) 1 := SumsOk.nil
theorem f96E (k : Nat) (x : Int) : evFS tab (f96T k) (f96L k) Go.Proofs.Try.f96.ntmps Go.Proofs.Try.f96.results.toList (codeOf Go.Proofs.Try.f96) (argsV [.dat (.int .i64)] x) [.dat .bool] = f96F k x := by kernel_rfl
theorem f96Ok (k : Nat) (x : Int) (y : Bool) (h : f96F k x = some y) : FnOk P 96 [.dat (.int .i64)] [.dat .bool] x y :=
  evFS_sound tabOk (f96TS k) mixed Go.Proofs.Try.func96 (c := codeOf Go.Proofs.Try.f96) (by kernel_rfl) (f96LS k) ((f96E k x).trans h)
/-! ## midrange/numeric.sum -/
noncomputable def f109T (k : Nat) : Table := [(62, entFn [.agg (.pair (.int .i64) (.int .i64)), .agg (.pair (.int .i64) (.int .i64))] [.agg (.pair (.int .u64) (.pair (.int .u64) (.pair (.int .u64) (.int .u64)))), .agg (.pair (.int .u64) (.pair (.int .u64) (.pair (.int .u64) (.int .u64)))), .dat (.int .i64)] (f62F k)), (63, entFn [.agg (.pair (.int .u64) (.pair (.int .u64) (.pair (.int .u64) (.int .u64)))), .agg (.pair (.int .u64) (.pair (.int .u64) (.pair (.int .u64) (.int .u64))))] [.dat (.int .i64)] (f63F k)), (84, entFn [.dat (.int .u64)] [.agg (.pair (.int .u64) (.pair (.int .u64) (.pair (.int .u64) (.int .u64))))] (f84F k)), (85, entFn [.agg (.pair (.int .u64) (.pair (.int .u64) (.pair (.int .u64) (.int .u64)))), .dat (.int .i64)] [.agg (.pair (.int .u64) (.pair (.int .u64) (.pair (.int .u64) (.int .u64))))] (f85F k)), (87, entFn [.agg (.pair (.int .u64) (.pair (.int .u64) (.pair (.int .u64) (.int .u64)))), .agg (.pair (.int .u64) (.pair (.int .u64) (.pair (.int .u64) (.int .u64))))] [.agg (.pair (.int .u64) (.pair (.int .u64) (.pair (.int .u64) (.int .u64))))] (f87F k)), (107, entFn [.agg (.pair (.int .u64) (.pair (.int .u64) (.pair (.int .u64) (.int .u64)))), .agg (.pair (.int .u64) (.pair (.int .u64) (.pair (.int .u64) (.int .u64))))] [.agg (.pair (.int .u64) (.pair (.int .u64) (.pair (.int .u64) (.int .u64))))] (f107F k))]
theorem f109TS (k : Nat) : Sound P (f109T k) := ((((((Sound.nil).cons f107B (f107Ok k)).cons f87B (f87Ok k)).cons f85B (f85Ok k)).cons f84B (f84Ok k)).cons f63B (f63Ok k)).cons f62B (f62Ok k)
theorem f109B : HasBody P 109 := ⟨Go.Proofs.Try.f109, Go.Proofs.Try.func109, by kernel_rfl, by kernel_rfl⟩
noncomputable def f109p0H : Shape := ⟨[(2, .one (.ptr 0 0)), (3, .one (.ptr 1 0)), (4, .one (.ptr 2 0)), (5, .one (.ptr 3 0)), (6, .one (.ptr 4 0)), (8, .one (.ptr 5 0))], [(0, .var [.int .i64, .int .i64]), (1, .var [.int .i64, .int .i64]), (2, .var [.bool, .int .u64, .int .u64, .int .u64, .int .u64, .int .u64, .int .u64, .int .u64, .int .u64]), (3, .var [.int .u64, .int .u64, .int .u64, .int .u64]), (4, .var [.int .u64, .int .u64, .int .u64, .int .u64]), (5, .var [.bool, .int .u64, .int .u64, .int .u64, .int .u64, .int .u64, .int .u64, .int .u64, .int .u64])], 6⟩
noncomputable def f109p0X0 : Shape := ⟨[(4, .one (.ptr 0 0)), (8, .one (.ptr 1 0))], [(0, .var [.bool, .int .u64, .int .u64, .int .u64, .int .u64, .int .u64, .int .u64, .int .u64, .int .u64]), (1, .var [.bool, .int .u64, .int .u64, .int .u64, .int .u64, .int .u64, .int .u64, .int .u64, .int .u64])], 2⟩
noncomputable def f109p0N : NoteR := ⟨[2, 3, 4, 5, 6, 8], [], []⟩
noncomputable def f109p0M : NoteR := ⟨[4, 8], [], []⟩
noncomputable def f109p0C : Code := firstC (codesAt 30 (codeOf Go.Proofs.Try.f109) 1)
noncomputable def f109p0 {R : Type} (k : Nat) (k0 : Bool × Int × Int × Int × Int × Int × Int × Int × Int × Bool × Int × Int × Int × Int × Int × Int × Int × Int × Unit → Option R) (v : Int × Int × Int × Int × Bool × Int × Int × Int × Int × Int × Int × Int × Int × Int × Int × Int × Int × Int × Int × Int × Int × Bool × Int × Int × Int × Int × Int × Int × Int × Int × Unit) : Option R :=
  bif (!((decide (v.1 < (0 : Int))) == (decide (v.2.2.1 < (0 : Int))))) then
    Option.bind (f107F k ((v.2.2.2.2.2.2.2.2.2.2.2.2.2.1, (v.2.2.2.2.2.2.2.2.2.2.2.2.2.2.1, (v.2.2.2.2.2.2.2.2.2.2.2.2.2.2.2.1, v.2.2.2.2.2.2.2.2.2.2.2.2.2.2.2.2.1))), (v.2.2.2.2.2.2.2.2.2.2.2.2.2.2.2.2.2.1, (v.2.2.2.2.2.2.2.2.2.2.2.2.2.2.2.2.2.2.1, (v.2.2.2.2.2.2.2.2.2.2.2.2.2.2.2.2.2.2.2.1, v.2.2.2.2.2.2.2.2.2.2.2.2.2.2.2.2.2.2.2.2.1))))) fun y5 =>
    Option.bind (f63F k ((v.2.2.2.2.2.2.2.2.2.2.2.2.2.1, (v.2.2.2.2.2.2.2.2.2.2.2.2.2.2.1, (v.2.2.2.2.2.2.2.2.2.2.2.2.2.2.2.1, v.2.2.2.2.2.2.2.2.2.2.2.2.2.2.2.2.1))), (v.2.2.2.2.2.2.2.2.2.2.2.2.2.2.2.2.2.1, (v.2.2.2.2.2.2.2.2.2.2.2.2.2.2.2.2.2.2.1, (v.2.2.2.2.2.2.2.2.2.2.2.2.2.2.2.2.2.2.2.1, v.2.2.2.2.2.2.2.2.2.2.2.2.2.2.2.2.2.2.2.2.1))))) fun y6 =>
    bif (decide (y6 < (0 : Int))) then
      Option.bind (f107F k ((v.2.2.2.2.2.2.2.2.2.2.2.2.2.2.2.2.2.1, (v.2.2.2.2.2.2.2.2.2.2.2.2.2.2.2.2.2.2.1, (v.2.2.2.2.2.2.2.2.2.2.2.2.2.2.2.2.2.2.2.1, v.2.2.2.2.2.2.2.2.2.2.2.2.2.2.2.2.2.2.2.2.1))), (v.2.2.2.2.2.2.2.2.2.2.2.2.2.1, (v.2.2.2.2.2.2.2.2.2.2.2.2.2.2.1, (v.2.2.2.2.2.2.2.2.2.2.2.2.2.2.2.1, v.2.2.2.2.2.2.2.2.2.2.2.2.2.2.2.2.1))))) fun y7 =>
      k0 (v.2.2.2.2.1, v.2.2.2.2.2.1, v.2.2.2.2.2.2.1, v.2.2.2.2.2.2.2.1, v.2.2.2.2.2.2.2.2.1, v.2.2.2.2.2.2.2.2.2.1, v.2.2.2.2.2.2.2.2.2.2.1, v.2.2.2.2.2.2.2.2.2.2.2.1, v.2.2.2.2.2.2.2.2.2.2.2.2.1, (decide (v.2.2.1 < (0 : Int))), y7.1, y7.2.1, y7.2.2.1, y7.2.2.2, v.2.2.2.2.2.2.2.2.2.2.2.2.2.2.2.2.2.2.2.2.2.2.2.2.2.2.1, v.2.2.2.2.2.2.2.2.2.2.2.2.2.2.2.2.2.2.2.2.2.2.2.2.2.2.2.1, v.2.2.2.2.2.2.2.2.2.2.2.2.2.2.2.2.2.2.2.2.2.2.2.2.2.2.2.2.1, v.2.2.2.2.2.2.2.2.2.2.2.2.2.2.2.2.2.2.2.2.2.2.2.2.2.2.2.2.2.1, ())
    else
    k0 (v.2.2.2.2.1, v.2.2.2.2.2.1, v.2.2.2.2.2.2.1, v.2.2.2.2.2.2.2.1, v.2.2.2.2.2.2.2.2.1, v.2.2.2.2.2.2.2.2.2.1, v.2.2.2.2.2.2.2.2.2.2.1, v.2.2.2.2.2.2.2.2.2.2.2.1, v.2.2.2.2.2.2.2.2.2.2.2.2.1, v.2.2.2.2.2.2.2.2.2.2.2.2.2.2.2.2.2.2.2.2.2.1, y5.1, y5.2.1, y5.2.2.1, y5.2.2.2, v.2.2.2.2.2.2.2.2.2.2.2.2.2.2.2.2.2.2.2.2.2.2.2.2.2.2.1, v.2.2.2.2.2.2.2.2.2.2.2.2.2.2.2.2.2.2.2.2.2.2.2.2.2.2.2.1, v.2.2.2.2.2.2.2.2.2.2.2.2.2.2.2.2.2.2.2.2.2.2.2.2.2.2.2.2.1, v.2.2.2.2.2.2.2.2.2.2.2.2.2.2.2.2.2.2.2.2.2.2.2.2.2.2.2.2.2.1, ())
  else
  k0 (v.2.2.2.2.1, v.2.2.2.2.2.1, v.2.2.2.2.2.2.1, v.2.2.2.2.2.2.2.1, v.2.2.2.2.2.2.2.2.1, v.2.2.2.2.2.2.2.2.2.1, v.2.2.2.2.2.2.2.2.2.2.1, v.2.2.2.2.2.2.2.2.2.2.2.1, v.2.2.2.2.2.2.2.2.2.2.2.2.1, v.2.2.2.2.2.2.2.2.2.2.2.2.2.2.2.2.2.2.2.2.2.1, v.2.2.2.2.2.2.2.2.2.2.2.2.2.2.2.2.2.2.2.2.2.2.1, v.2.2.2.2.2.2.2.2.2.2.2.2.2.2.2.2.2.2.2.2.2.2.2.1, v.2.2.2.2.2.2.2.2.2.2.2.2.2.2.2.2.2.2.2.2.2.2.2.2.1, v.2.2.2.2.2.2.2.2.2.2.2.2.2.2.2.2.2.2.2.2.2.2.2.2.2.1, v.2.2.2.2.2.2.2.2.2.2.2.2.2.2.2.2.2.2.2.2.2.2.2.2.2.2.1, v.2.2.2.2.2.2.2.2.2.2.2.2.2.2.2.2.2.2.2.2.2.2.2.2.2.2.2.1, v.2.2.2.2.2.2.2.2.2.2.2.2.2.2.2.2.2.2.2.2.2.2.2.2.2.2.2.2.1, v.2.2.2.2.2.2.2.2.2.2.2.2.2.2.2.2.2.2.2.2.2.2.2.2.2.2.2.2.2.1, ())
noncomputable def f109p0S (k : Nat) : Sum1 := partSum f109p0H f109p0N (fun R K v => f109p0 k (fun w => K .normal (encSt f109p0X0 w)) v)
theorem f109p0E (k : Nat) (R : Type) (K : X → St → Option R) (v : f109p0H.Den) : evS tab (f109T k) Go.Proofs.Try.f109.ntmps [] f109p0C 30 (partK f109p0M K) (encSt f109p0H v) = f109p0 k (fun w => K .normal (encSt f109p0X0 w)) v := by kernel_rfl
theorem f109p0I (k : Nat) : SumsOk P Go.Proofs.Try.f109.ntmps [] f109p0C 30 := SumsOk.nil
theorem f109p0O (k : Nat) : SumOk P Go.Proofs.Try.f109.ntmps f109p0C (f109p0S k) := sum_part tabOk (f109TS k) mixed (f109p0I k) (f109p0E k)
noncomputable def f109F (k : Nat) (x : (Int × Int) × (Int × Int)) : Option ((Bool × ((Int × (Int × (Int × Int))) × (Int × (Int × (Int × Int)))))) :=
  Option.bind (f62F k ((x.1.1, x.1.2), (x.2.1, x.2.2))) fun y1 =>
  Option.bind (f87F k ((y1.1.1, (y1.1.2.1, (y1.1.2.2.1, y1.1.2.2.2))), (y1.2.1.1, (y1.2.1.2.1, (y1.2.1.2.2.1, y1.2.1.2.2.2))))) fun y2 =>
  Option.bind (f84F k (1 : Int)) fun y3 =>
  Option.bind (f85F k ((y3.1, (y3.2.1, (y3.2.2.1, y3.2.2.2))), y1.2.2)) fun y4 =>
  f109p0 k
    (fun (w8 : Bool × Int × Int × Int × Int × Int × Int × Int × Int × Bool × Int × Int × Int × Int × Int × Int × Int × Int × Unit) =>
      some (w8.2.2.2.2.2.2.2.2.2.1, ((w8.2.2.2.2.2.2.2.2.2.2.1, (w8.2.2.2.2.2.2.2.2.2.2.2.1, (w8.2.2.2.2.2.2.2.2.2.2.2.2.1, w8.2.2.2.2.2.2.2.2.2.2.2.2.2.1))), (w8.2.2.2.2.2.2.2.2.2.2.2.2.2.2.1, (w8.2.2.2.2.2.2.2.2.2.2.2.2.2.2.2.1, (w8.2.2.2.2.2.2.2.2.2.2.2.2.2.2.2.2.1, w8.2.2.2.2.2.2.2.2.2.2.2.2.2.2.2.2.2.1))))))
    (x.1.1, x.1.2, x.2.1, x.2.2, false, (0 : Int), (0 : Int), (0 : Int), (0 : Int), (0 : Int), (0 : Int), (0 : Int), (0 : Int), y1.1.1, y1.1.2.1, y1.1.2.2.1, y1.1.2.2.2, y1.2.1.1, y1.2.1.2.1, y1.2.1.2.2.1, y1.2.1.2.2.2, (decide (x.1.1 < (0 : Int))), y2.1, y2.2.1, y2.2.2.1, y2.2.2.2, y4.1, y4.2.1, y4.2.2.1, y4.2.2.2, ())
noncomputable def f109L (k : Nat) : Sums := [(30, f109p0S k)]
theorem f109LS (k : Nat) : SumsOk P Go.Proofs.Try.f109.ntmps (f109L k) (codeOf Go.Proofs.Try.f109) 1 := (SumsOk.nil).cons (c := f109p0C) (by kernel_rfl) (f109p0O k)
theorem f109E (k : Nat) (x : (Int × Int) × (Int × Int)) : evFS tab (f109T k) (f109L k) Go.Proofs.Try.f109.ntmps Go.Proofs.Try.f109.results.toList (codeOf Go.Proofs.Try.f109) (argsV [.agg (.pair (.int .i64) (.int .i64)), .agg (.pair (.int .i64) (.int .i64))] x) [.agg (.pair .bool (.pair (.pair (.int .u64) (.pair (.int .u64) (.pair (.int .u64) (.int .u64)))) (.pair (.int .u64) (.pair (.int .u64) (.pair (.int .u64) (.int .u64))))))] = f109F k x := by kernel_rfl
theorem f109Ok (k : Nat) (x : (Int × Int) × (Int × Int)) (y : (Bool × ((Int × (Int × (Int × Int))) × (Int × (Int × (Int × Int)))))) (h : f109F k x = some y) : FnOk P 109 [.agg (.pair (.int .i64) (.int .i64)), .agg (.pair (.int .i64) (.int .i64))] [.agg (.pair .bool (.pair (.pair (.int .u64) (.pair (.int .u64) (.pair (.int .u64) (.int .u64)))) (.pair (.int .u64) (.pair (.int .u64) (.pair (.int .u64) (.int .u64))))))] x y :=
  evFS_sound tabOk (f109TS k) mixed Go.Proofs.Try.func109 (c := codeOf Go.Proofs.Try.f109) (by kernel_rfl) (f109LS k) ((f109E k x).trans h)
/-! ## midrange/numeric.result -/
noncomputable def f97T (k : Nat) : Table := [(62, entFn [.agg (.pair (.int .i64) (.int .i64)), .agg (.pair (.int .i64) (.int .i64))] [.agg (.pair (.int .u64) (.pair (.int .u64) (.pair (.int .u64) (.int .u64)))), .agg (.pair (.int .u64) (.pair (.int .u64) (.pair (.int .u64) (.int .u64)))), .dat (.int .i64)] (f62F k)), (83, entFn [.agg (.pair (.int .i64) (.int .i64)), .dat (.int .i64)] [.agg (.pair (.int .u64) (.pair (.int .u64) (.pair (.int .u64) (.int .u64))))] (f83F k)), (84, entFn [.dat (.int .u64)] [.agg (.pair (.int .u64) (.pair (.int .u64) (.pair (.int .u64) (.int .u64))))] (f84F k)), (85, entFn [.agg (.pair (.int .u64) (.pair (.int .u64) (.pair (.int .u64) (.int .u64)))), .dat (.int .i64)] [.agg (.pair (.int .u64) (.pair (.int .u64) (.pair (.int .u64) (.int .u64))))] (f85F k)), (86, entFn [.agg (.pair (.int .u64) (.pair (.int .u64) (.pair (.int .u64) (.int .u64)))), .agg (.pair (.int .u64) (.pair (.int .u64) (.pair (.int .u64) (.int .u64))))] [.agg (.pair (.int .u64) (.pair (.int .u64) (.pair (.int .u64) (.int .u64)))), .agg (.pair (.int .u64) (.pair (.int .u64) (.pair (.int .u64) (.int .u64))))] (f86F k)), (106, entFn [.agg (.pair (.int .u64) (.pair (.int .u64) (.pair (.int .u64) (.int .u64)))), .dat (.int .u64)] [.agg (.pair (.int .u64) (.pair (.int .u64) (.pair (.int .u64) (.int .u64))))] (f106F k)), (109, entFn [.agg (.pair (.int .i64) (.int .i64)), .agg (.pair (.int .i64) (.int .i64))] [.agg (.pair .bool (.pair (.pair (.int .u64) (.pair (.int .u64) (.pair (.int .u64) (.int .u64)))) (.pair (.int .u64) (.pair (.int .u64) (.pair (.int .u64) (.int .u64))))))] (f109F k))]
theorem f97TS (k : Nat) : Sound P (f97T k) := (((((((Sound.nil).cons f109B (f109Ok k)).cons f106B (f106Ok k)).cons f86B (f86Ok k)).cons f85B (f85Ok k)).cons f84B (f84Ok k)).cons f83B (f83Ok k)).cons f62B (f62Ok k)
theorem f97B : HasBody P 97 := ⟨Go.Proofs.Try.f97, Go.Proofs.Try.func97, by kernel_rfl, by kernel_rfl⟩
noncomputable def f97F (k : Nat) (x : Int × (Int × Int) × (Int × Int)) : Option ((Bool × ((Int × (Int × (Int × Int))) × (Int × (Int × (Int × Int)))))) :=
  bif (x.1 == (0 : Int)) then
    Option.bind (f109F k ((x.2.1.1, x.2.1.2), (x.2.2.1, x.2.2.2))) fun y1 =>
    some (y1.1, ((y1.2.1.1, (y1.2.1.2.1, (y1.2.1.2.2.1, y1.2.1.2.2.2))), (y1.2.2.1, (y1.2.2.2.1, (y1.2.2.2.2.1, y1.2.2.2.2.2)))))
  else
  bif (x.1 == (1 : Int)) then
    Option.bind (f109F k ((x.2.1.1, x.2.1.2), ((IntKind.i64.wrap (0 - x.2.2.1)), x.2.2.2))) fun y2 =>
    some (y2.1, ((y2.2.1.1, (y2.2.1.2.1, (y2.2.1.2.2.1, y2.2.1.2.2.2))), (y2.2.2.1, (y2.2.2.2.1, (y2.2.2.2.2.1, y2.2.2.2.2.2)))))
  else
  bif (x.1 == (2 : Int)) then
    Option.bind (f83F k ((x.2.1.1, x.2.1.2), (0 : Int))) fun y3 =>
    Option.bind (f106F k ((y3.1, (y3.2.1, (y3.2.2.1, y3.2.2.2))), (IntKind.u64.wrap (mxI x.2.2.1 (IntKind.i64.wrap (0 - x.2.2.1)))))) fun y4 =>
    Option.bind (f84F k (1 : Int)) fun y5 =>
    Option.bind (f85F k ((y5.1, (y5.2.1, (y5.2.2.1, y5.2.2.2))), (IntKind.i64.wrap (x.2.1.2 + x.2.2.2)))) fun y6 =>
    some ((!((decide (x.2.1.1 < (0 : Int))) == (decide (x.2.2.1 < (0 : Int))))), ((y4.1, (y4.2.1, (y4.2.2.1, y4.2.2.2))), (y6.1, (y6.2.1, (y6.2.2.1, y6.2.2.2)))))
  else
  bif (x.1 == (3 : Int)) then
    Option.bind (f83F k ((x.2.1.1, x.2.1.2), x.2.2.2)) fun y7 =>
    Option.bind (f83F k ((x.2.2.1, x.2.2.2), x.2.1.2)) fun y8 =>
    some ((!((decide (x.2.1.1 < (0 : Int))) == (decide (x.2.2.1 < (0 : Int))))), ((y7.1, (y7.2.1, (y7.2.2.1, y7.2.2.2))), (y8.1, (y8.2.1, (y8.2.2.1, y8.2.2.2)))))
  else
  Option.bind (f62F k ((x.2.1.1, x.2.1.2), (x.2.2.1, x.2.2.2))) fun y9 =>
  Option.bind (f86F k ((y9.1.1, (y9.1.2.1, (y9.1.2.2.1, y9.1.2.2.2))), (y9.2.1.1, (y9.2.1.2.1, (y9.2.1.2.2.1, y9.2.1.2.2.2))))) fun y10 =>
  Option.bind (f84F k (1 : Int)) fun y11 =>
  Option.bind (f85F k ((y11.1, (y11.2.1, (y11.2.2.1, y11.2.2.2))), y9.2.2)) fun y12 =>
  some ((decide (x.2.1.1 < (0 : Int))), ((y10.2.1, (y10.2.2.1, (y10.2.2.2.1, y10.2.2.2.2))), (y12.1, (y12.2.1, (y12.2.2.1, y12.2.2.2)))))
noncomputable def f97L (k : Nat) : Sums := []
theorem f97LS (k : Nat) : SumsOk P Go.Proofs.Try.f97.ntmps (f97L k) (codeOf Go.Proofs.Try.f97) 1 := SumsOk.nil
theorem f97E (k : Nat) (x : Int × (Int × Int) × (Int × Int)) : evFS tab (f97T k) (f97L k) Go.Proofs.Try.f97.ntmps Go.Proofs.Try.f97.results.toList (codeOf Go.Proofs.Try.f97) (argsV [.dat (.int .i64), .agg (.pair (.int .i64) (.int .i64)), .agg (.pair (.int .i64) (.int .i64))] x) [.agg (.pair .bool (.pair (.pair (.int .u64) (.pair (.int .u64) (.pair (.int .u64) (.int .u64)))) (.pair (.int .u64) (.pair (.int .u64) (.pair (.int .u64) (.int .u64))))))] = f97F k x := by kernel_rfl
theorem f97Ok (k : Nat) (x : Int × (Int × Int) × (Int × Int)) (y : (Bool × ((Int × (Int × (Int × Int))) × (Int × (Int × (Int × Int)))))) (h : f97F k x = some y) : FnOk P 97 [.dat (.int .i64), .agg (.pair (.int .i64) (.int .i64)), .agg (.pair (.int .i64) (.int .i64))] [.agg (.pair .bool (.pair (.pair (.int .u64) (.pair (.int .u64) (.pair (.int .u64) (.int .u64)))) (.pair (.int .u64) (.pair (.int .u64) (.pair (.int .u64) (.int .u64))))))] x y :=
  evFS_sound tabOk (f97TS k) mixed Go.Proofs.Try.func97 (c := codeOf Go.Proofs.Try.f97) (by kernel_rfl) (f97LS k) ((f97E k x).trans h)
/-! ## midrange/numeric.calculated -/
noncomputable def f65T (k : Nat) : Table := [(55, entFn [.agg (.pair .bool (.pair (.pair (.int .u64) (.pair (.int .u64) (.pair (.int .u64) (.int .u64)))) (.pair (.int .u64) (.pair (.int .u64) (.pair (.int .u64) (.int .u64)))))), .agg (.pair (.int .i64) (.pair (.int .i64) (.int .i64))), .dat .bool] [.agg (.pair (.int .i64) .str), .dat (.int .i64)] (f55F k)), (96, entFn [.dat (.int .i64)] [.dat .bool] (f96F k)), (97, entFn [.dat (.int .i64), .agg (.pair (.int .i64) (.int .i64)), .agg (.pair (.int .i64) (.int .i64))] [.agg (.pair .bool (.pair (.pair (.int .u64) (.pair (.int .u64) (.pair (.int .u64) (.int .u64)))) (.pair (.int .u64) (.pair (.int .u64) (.pair (.int .u64) (.int .u64))))))] (f97F k))]
theorem f65TS (k : Nat) : Sound P (f65T k) := (((Sound.nil).cons f97B (f97Ok k)).cons f96B (f96Ok k)).cons f55B (f55Ok k)
theorem f65B : HasBody P 65 := ⟨Go.Proofs.Try.f65, Go.Proofs.Try.func65, by kernel_rfl, by kernel_rfl⟩
noncomputable def f65p0H : Shape := ⟨[(0, .one (.int .i64)), (4, .one (.bool)), (6, .one (.ptr 0 0)), (7, .one (.ptr 1 0)), (8, .one (.ptr 2 0)), (10, .one (.ptr 3 0))], [(0, .var [.int .i64, .int .i64]), (1, .var [.int .i64, .int .i64]), (2, .var [.int .i64, .int .i64, .int .i64]), (3, .var [.int .i64, .str])], 4⟩
noncomputable def f65p0X0 : Shape := ⟨[(0, .one (.int .i64)), (4, .one (.bool)), (6, .one (.ptr 0 0)), (7, .one (.ptr 1 0)), (8, .one (.ptr 2 0)), (10, .one (.ptr 3 0)), (11, .one (.int .i64))], [(0, .var [.int .i64, .int .i64]), (1, .var [.int .i64, .int .i64]), (2, .var [.int .i64, .int .i64, .int .i64]), (3, .var [.int .i64, .str])], 4⟩
noncomputable def f65p0X1 : Shape := ⟨[(0, .one (.int .i64)), (4, .one (.bool)), (6, .one (.ptr 0 0)), (7, .one (.ptr 1 0)), (8, .one (.ptr 2 0)), (10, .one (.ptr 3 0))], [(0, .var [.int .i64, .int .i64]), (1, .var [.int .i64, .int .i64]), (2, .var [.int .i64, .int .i64, .int .i64]), (3, .var [.int .i64, .str])], 4⟩
noncomputable def f65p0N : NoteR := ⟨[0, 4, 6, 7, 8, 10], [], []⟩
noncomputable def f65p0M : NoteR := ⟨[0, 4, 6, 7, 8, 10, 11], [], []⟩
noncomputable def f65p0C : Code := firstC (codesAt 6 (codeOf Go.Proofs.Try.f65) 1)
noncomputable def f65p0 {R : Type} (k : Nat) (k0 : Int × Bool × Int × Int × Int × Int × Int × Int × Int × Int × Int × ByteArray × Unit → Option R) (k1 : Int × Bool × Int × Int × Int × Int × Int × Int × Int × Int × ByteArray × Unit → Option R) (v : Int × Bool × Int × Int × Int × Int × Int × Int × Int × Int × ByteArray × Unit) : Option R :=
  Option.bind (f96F k v.1) fun y1 =>
  bif y1 then
    bif (v.2.2.2.2.1 == (0 : Int)) then
      k0 (v.1, v.2.1, (20 : Int), v.2.2.1, v.2.2.2.1, v.2.2.2.2.1, v.2.2.2.2.2.1, v.2.2.2.2.2.2.1, v.2.2.2.2.2.2.2.1, v.2.2.2.2.2.2.2.2.1, (0 : Int), ByteArray.empty, ())
    else
    k1 (v.1, v.2.1, v.2.2.1, v.2.2.2.1, v.2.2.2.2.1, v.2.2.2.2.2.1, v.2.2.2.2.2.2.1, v.2.2.2.2.2.2.2.1, v.2.2.2.2.2.2.2.2.1, v.2.2.2.2.2.2.2.2.2.1, v.2.2.2.2.2.2.2.2.2.2.1, ())
  else
  k1 (v.1, v.2.1, v.2.2.1, v.2.2.2.1, v.2.2.2.2.1, v.2.2.2.2.2.1, v.2.2.2.2.2.2.1, v.2.2.2.2.2.2.2.1, v.2.2.2.2.2.2.2.2.1, v.2.2.2.2.2.2.2.2.2.1, v.2.2.2.2.2.2.2.2.2.2.1, ())
noncomputable def f65p0S (k : Nat) : Sum1 := partSum f65p0H f65p0N (fun R K v => f65p0 k (fun w => K .ret (encSt f65p0X0 w)) (fun w => K .normal (encSt f65p0X1 w)) v)
theorem f65p0E (k : Nat) (R : Type) (K : X → St → Option R) (v : f65p0H.Den) : evS tab (f65T k) Go.Proofs.Try.f65.ntmps [] f65p0C 6 (partK f65p0M K) (encSt f65p0H v) = f65p0 k (fun w => K .ret (encSt f65p0X0 w)) (fun w => K .normal (encSt f65p0X1 w)) v := by kernel_rfl
theorem f65p0I (k : Nat) : SumsOk P Go.Proofs.Try.f65.ntmps [] f65p0C 6 := SumsOk.nil
theorem f65p0O (k : Nat) : SumOk P Go.Proofs.Try.f65.ntmps f65p0C (f65p0S k) := sum_part tabOk (f65TS k) mixed (f65p0I k) (f65p0E k)
noncomputable def f65F (k : Nat) (x : Int × (Int × Int) × (Int × Int) × (Int × (Int × Int)) × Bool) : Option ((Int × ByteArray) × Int) :=
  f65p0 k
    (fun (w2 : Int × Bool × Int × Int × Int × Int × Int × Int × Int × Int × Int × ByteArray × Unit) =>
      some ((w2.2.2.2.2.2.2.2.2.2.2.1, w2.2.2.2.2.2.2.2.2.2.2.2.1), w2.2.2.1))
    (fun (w3 : Int × Bool × Int × Int × Int × Int × Int × Int × Int × Int × ByteArray × Unit) =>
      Option.bind (f97F k (w3.1, (w3.2.2.1, w3.2.2.2.1), (w3.2.2.2.2.1, w3.2.2.2.2.2.1))) fun y4 =>
      Option.bind (f55F k ((y4.1, ((y4.2.1.1, (y4.2.1.2.1, (y4.2.1.2.2.1, y4.2.1.2.2.2))), (y4.2.2.1, (y4.2.2.2.1, (y4.2.2.2.2.1, y4.2.2.2.2.2))))), (w3.2.2.2.2.2.2.1, (w3.2.2.2.2.2.2.2.1, w3.2.2.2.2.2.2.2.2.1)), w3.2.1)) fun y5 =>
      some ((y5.1.1, y5.1.2), y5.2))
    (x.1, x.2.2.2.2, x.2.1.1, x.2.1.2, x.2.2.1.1, x.2.2.1.2, x.2.2.2.1.1, x.2.2.2.1.2.1, x.2.2.2.1.2.2, (0 : Int), ByteArray.empty, ())
noncomputable def f65L (k : Nat) : Sums := [(6, f65p0S k)]
theorem f65LS (k : Nat) : SumsOk P Go.Proofs.Try.f65.ntmps (f65L k) (codeOf Go.Proofs.Try.f65) 1 := (SumsOk.nil).cons (c := f65p0C) (by kernel_rfl) (f65p0O k)
theorem f65E (k : Nat) (x : Int × (Int × Int) × (Int × Int) × (Int × (Int × Int)) × Bool) : evFS tab (f65T k) (f65L k) Go.Proofs.Try.f65.ntmps Go.Proofs.Try.f65.results.toList (codeOf Go.Proofs.Try.f65) (argsV [.dat (.int .i64), .agg (.pair (.int .i64) (.int .i64)), .agg (.pair (.int .i64) (.int .i64)), .agg (.pair (.int .i64) (.pair (.int .i64) (.int .i64))), .dat .bool] x) [.agg (.pair (.int .i64) .str), .dat (.int .i64)] = f65F k x := by kernel_rfl
theorem f65Ok (k : Nat) (x : Int × (Int × Int) × (Int × Int) × (Int × (Int × Int)) × Bool) (y : (Int × ByteArray) × Int) (h : f65F k x = some y) : FnOk P 65 [.dat (.int .i64), .agg (.pair (.int .i64) (.int .i64)), .agg (.pair (.int .i64) (.int .i64)), .agg (.pair (.int .i64) (.pair (.int .i64) (.int .i64))), .dat .bool] [.agg (.pair (.int .i64) .str), .dat (.int .i64)] x y :=
  evFS_sound tabOk (f65TS k) mixed Go.Proofs.Try.func65 (c := codeOf Go.Proofs.Try.f65) (by kernel_rfl) (f65LS k) ((f65E k x).trans h)
/-! ## midrange/numeric.Calculated -/
noncomputable def f22T (k : Nat) : Table := [(28, entFn [.agg (.pair (.int .i64) (.pair (.int .i64) (.int .i64)))] [.dat (.int .i64)] (f28F k)), (42, entFn [.dat (.slice (.int .i64))] [.dat (.int .i64)] (f42F k)), (43, entFn [.dat .bool, .dat (.int .i64)] [.dat (.int .i64)] (f43F k)), (52, entFn [.agg (.pair (.int .i64) (.int .i64))] [.dat (.int .i64)] (f52F k)), (53, entFn [.agg (.pair (.int .i64) (.pair (.int .i64) (.int .i64)))] [.dat .bool] (f53F k)), (64, entFn [.dat (.int .i64)] [.dat .bool] (f64F k)), (65, entFn [.dat (.int .i64), .agg (.pair (.int .i64) (.int .i64)), .agg (.pair (.int .i64) (.int .i64)), .agg (.pair (.int .i64) (.pair (.int .i64) (.int .i64))), .dat .bool] [.agg (.pair (.int .i64) .str), .dat (.int .i64)] (f65F k))]
theorem f22TS (k : Nat) : Sound P (f22T k) := (((((((Sound.nil).cons f65B (f65Ok k)).cons f64B (f64Ok k)).cons f53B (f53Ok k)).cons f52B (f52Ok k)).cons f43B (f43Ok k)).cons f42B (f42Ok k)).cons f28B (f28Ok k)
theorem f22B : HasBody P 22 := ⟨Go.Proofs.Try.f22, Go.Proofs.Try.func22, by kernel_rfl, by kernel_rfl⟩
noncomputable def f22F (k : Nat) (x : Int × (Int × Int) × (Int × Int) × (Int × (Int × Int)) × Bool) : Option ((Int × ByteArray) × Int) :=
  Option.bind (f64F k x.1) fun y1 =>
  Option.bind (f43F k ((!y1), (4 : Int))) fun y2 =>
  Option.bind (f52F k (x.2.1.1, x.2.1.2)) fun y3 =>
  Option.bind (f52F k (x.2.2.1.1, x.2.2.1.2)) fun y4 =>
  Option.bind (f28F k (x.2.2.2.1.1, (x.2.2.2.1.2.1, x.2.2.2.1.2.2))) fun y5 =>
  Option.bind (f53F k (x.2.2.2.1.1, (x.2.2.2.1.2.1, x.2.2.2.1.2.2))) fun y6 =>
  Option.bind (f43F k ((!y6), (17 : Int))) fun y7 =>
  Option.bind (f42F k [y2, y3, y4, y5, y7]) fun y8 =>
  bif (y8 != (0 : Int)) then
    some (((0 : Int), ByteArray.empty), y8)
  else
  Option.bind (f65F k (x.1, (x.2.1.1, x.2.1.2), (x.2.2.1.1, x.2.2.1.2), (x.2.2.2.1.1, (x.2.2.2.1.2.1, x.2.2.2.1.2.2)), x.2.2.2.2)) fun y9 =>
  some ((y9.1.1, y9.1.2), y9.2)
noncomputable def f22L (k : Nat) : Sums := []
theorem f22LS (k : Nat) : SumsOk P Go.Proofs.Try.f22.ntmps (f22L k) (codeOf Go.Proofs.Try.f22) 1 := SumsOk.nil
theorem f22E (k : Nat) (x : Int × (Int × Int) × (Int × Int) × (Int × (Int × Int)) × Bool) : evFS tab (f22T k) (f22L k) Go.Proofs.Try.f22.ntmps Go.Proofs.Try.f22.results.toList (codeOf Go.Proofs.Try.f22) (argsV [.dat (.int .i64), .agg (.pair (.int .i64) (.int .i64)), .agg (.pair (.int .i64) (.int .i64)), .agg (.pair (.int .i64) (.pair (.int .i64) (.int .i64))), .dat .bool] x) [.agg (.pair (.int .i64) .str), .dat (.int .i64)] = f22F k x := by kernel_rfl
theorem f22Ok (k : Nat) (x : Int × (Int × Int) × (Int × Int) × (Int × (Int × Int)) × Bool) (y : (Int × ByteArray) × Int) (h : f22F k x = some y) : FnOk P 22 [.dat (.int .i64), .agg (.pair (.int .i64) (.int .i64)), .agg (.pair (.int .i64) (.int .i64)), .agg (.pair (.int .i64) (.pair (.int .i64) (.int .i64))), .dat .bool] [.agg (.pair (.int .i64) .str), .dat (.int .i64)] x y :=
  evFS_sound tabOk (f22TS k) mixed Go.Proofs.Try.func22 (c := codeOf Go.Proofs.Try.f22) (by kernel_rfl) (f22LS k) ((f22E k x).trans h)
/-! ## midrange/midrangeref01.Product -/
noncomputable def f98T (k : Nat) : Table := [(92, entFn [.dat (.slice (.int .i64)), .dat (.slice (.int .i64))] [.own 3 (.int .i64)] (f92F k)), (95, entFn [.dat (.slice (.int .i64))] [.dat (.slice (.int .i64))] (f95F k))]
theorem f98TS (k : Nat) : Sound P (f98T k) := ((Sound.nil).cons f95B (f95Ok k)).cons f92B (f92Ok k)
theorem f98B : HasBody P 98 := ⟨Go.Proofs.Try.f98, Go.Proofs.Try.func98, by kernel_rfl, by kernel_rfl⟩
noncomputable def f98p0H : Shape := ⟨[(2, .one (.ptr 0 0)), (3, .one (.ptr 1 0)), (4, .one (.ptr 2 0)), (5, .one (.own 3)), (6, .one (.int .i64)), (7, .one (.own 4)), (8, .one (.int .i64)), (9, .one (.int .i64))], [(0, .var [.bool, .ro (.int .i64)]), (1, .var [.bool, .ro (.int .i64)]), (2, .var [.bool, .emp]), (3, .row 3 (.int .i64) .plain), (4, .row 3 (.int .i64) .plain)], 5⟩
noncomputable def f98p0X0 : Shape := ⟨[(2, .one (.ptr 0 0)), (3, .one (.ptr 1 0)), (4, .one (.ptr 2 0)), (5, .one (.own 3)), (6, .one (.int .i64)), (7, .one (.own 4)), (8, .one (.int .i64)), (9, .one (.int .i64))], [(0, .var [.bool, .ro (.int .i64)]), (1, .var [.bool, .ro (.int .i64)]), (2, .var [.bool, .emp]), (3, .row 3 (.int .i64) .plain), (4, .row 3 (.int .i64) .plain)], 5⟩
noncomputable def f98p0X1 : Shape := ⟨[(2, .one (.ptr 0 0)), (3, .one (.ptr 1 0)), (4, .one (.ptr 2 0)), (5, .one (.own 3)), (6, .one (.int .i64)), (7, .one (.own 4)), (8, .one (.int .i64)), (9, .one (.int .i64))], [(0, .var [.bool, .ro (.int .i64)]), (1, .var [.bool, .ro (.int .i64)]), (2, .var [.bool, .emp]), (3, .row 3 (.int .i64) .plain), (4, .row 3 (.int .i64) .plain)], 5⟩
noncomputable def f98p0N : NoteR := ⟨[2, 3, 4, 5, 6, 7, 8, 9], [], []⟩
noncomputable def f98p0M : NoteR := ⟨[2, 3, 4, 5, 6, 7, 8, 9], [], []⟩
noncomputable def f98p0C : Code := firstC (codesAt 119400 (codeOf Go.Proofs.Try.f98) 1)
noncomputable def f98p0 {R : Type} (k : Nat) (k0 : Int × Int × Int × Bool × List Int × Bool × List Int × Bool × List Int × List Int × Unit → Option R) (k1 : Int × Int × Int × Bool × List Int × Bool × List Int × Bool × List Int × List Int × Unit → Option R) (v : Int × Int × Int × Bool × List Int × Bool × List Int × Bool × List Int × List Int × Unit) : Option R :=
  bif (decide (v.2.2.1 < (v.2.2.2.2.1.length : Int))) then
    k0 (v.1, v.2.1, v.2.2.1, v.2.2.2.1, v.2.2.2.2.1, v.2.2.2.2.2.1, v.2.2.2.2.2.2.1, v.2.2.2.2.2.2.2.1, v.2.2.2.2.2.2.2.2.1, v.2.2.2.2.2.2.2.2.2.1, ())
  else
  bif (decide (v.2.1 > (0 : Int))) then
    k0 (v.1, v.2.1, v.2.2.1, v.2.2.2.1, v.2.2.2.2.1, v.2.2.2.2.2.1, v.2.2.2.2.2.2.1, v.2.2.2.2.2.2.2.1, v.2.2.2.2.2.2.2.2.1, v.2.2.2.2.2.2.2.2.2.1, ())
  else
  k1 (v.1, v.2.1, v.2.2.1, v.2.2.2.1, v.2.2.2.2.1, v.2.2.2.2.2.1, v.2.2.2.2.2.2.1, v.2.2.2.2.2.2.2.1, v.2.2.2.2.2.2.2.2.1, v.2.2.2.2.2.2.2.2.2.1, ())
noncomputable def f98p0S (k : Nat) : Sum1 := partSum f98p0H f98p0N (fun R K v => f98p0 k (fun w => K .normal (encSt f98p0X0 w)) (fun w => K (.exit 2) (encSt f98p0X1 w)) v)
theorem f98p0E (k : Nat) (R : Type) (K : X → St → Option R) (v : f98p0H.Den) : evS tab (f98T k) Go.Proofs.Try.f98.ntmps [] f98p0C 119400 (partK f98p0M K) (encSt f98p0H v) = f98p0 k (fun w => K .normal (encSt f98p0X0 w)) (fun w => K (.exit 2) (encSt f98p0X1 w)) v := by kernel_rfl
theorem f98p0I (k : Nat) : SumsOk P Go.Proofs.Try.f98.ntmps [] f98p0C 119400 := SumsOk.nil
theorem f98p0O (k : Nat) : SumOk P Go.Proofs.Try.f98.ntmps f98p0C (f98p0S k) := sum_part tabOk (f98TS k) mixed (f98p0I k) (f98p0E k)
noncomputable def f98p1H : Shape := ⟨[(2, .one (.ptr 0 0)), (3, .one (.ptr 1 0)), (4, .one (.ptr 2 0)), (5, .one (.own 3)), (6, .one (.int .i64)), (7, .one (.own 4)), (9, .one (.int .i64)), (10, .one (.int .i64))], [(0, .var [.bool, .ro (.int .i64)]), (1, .var [.bool, .ro (.int .i64)]), (2, .var [.bool, .emp]), (3, .row 3 (.int .i64) .plain), (4, .row 3 (.int .i64) .plain)], 5⟩
noncomputable def f98p1X0 : Shape := ⟨[(2, .one (.ptr 0 0)), (3, .one (.ptr 1 0)), (4, .one (.ptr 2 0)), (5, .one (.own 3)), (6, .one (.int .i64)), (7, .one (.own 4)), (9, .one (.int .i64)), (10, .one (.int .i64))], [(0, .var [.bool, .ro (.int .i64)]), (1, .var [.bool, .ro (.int .i64)]), (2, .var [.bool, .emp]), (3, .row 3 (.int .i64) .plain), (4, .row 3 (.int .i64) .plain)], 5⟩
noncomputable def f98p1N : NoteR := ⟨[2, 3, 4, 5, 6, 7, 9, 10], [], []⟩
noncomputable def f98p1M : NoteR := ⟨[2, 3, 4, 5, 6, 7, 9, 10], [], []⟩
noncomputable def f98p1C : Code := firstC (codesAt 1910418 (codeOf Go.Proofs.Try.f98) 1)
noncomputable def f98p1 {R : Type} (k : Nat) (k0 : Int × Int × Int × Bool × List Int × Bool × List Int × Bool × List Int × List Int × Unit → Option R) (v : Int × Int × Int × Bool × List Int × Bool × List Int × Bool × List Int × List Int × Unit) : Option R :=
  bif (decide (v.2.1 < (v.2.2.2.2.1.length : Int))) then
    bif ((decide ((0 : Int) ≤ v.2.1)) && (decide (v.2.1 < (v.2.2.2.2.1.length : Int)))) then
    bif ((decide ((0 : Int) ≤ v.1)) && (decide (v.1 < (v.2.2.2.2.2.2.1.length : Int)))) then
    let t2 := (IntKind.i64.wrap ((v.2.2.2.2.1.getD (Int.toNat v.2.1) (0 : Int)) * (v.2.2.2.2.2.2.1.getD (Int.toNat v.1) (0 : Int))))
    k0 (v.1, v.2.1, (IntKind.i64.wrap (v.2.2.1 + t2)), v.2.2.2.1, v.2.2.2.2.1, v.2.2.2.2.2.1, v.2.2.2.2.2.2.1, v.2.2.2.2.2.2.2.1, v.2.2.2.2.2.2.2.2.1, v.2.2.2.2.2.2.2.2.2.1, ())
    else none
    else none
  else
  k0 (v.1, v.2.1, v.2.2.1, v.2.2.2.1, v.2.2.2.2.1, v.2.2.2.2.2.1, v.2.2.2.2.2.2.1, v.2.2.2.2.2.2.2.1, v.2.2.2.2.2.2.2.2.1, v.2.2.2.2.2.2.2.2.2.1, ())
noncomputable def f98p1S (k : Nat) : Sum1 := partSum f98p1H f98p1N (fun R K v => f98p1 k (fun w => K .normal (encSt f98p1X0 w)) v)
theorem f98p1E (k : Nat) (R : Type) (K : X → St → Option R) (v : f98p1H.Den) : evS tab (f98T k) Go.Proofs.Try.f98.ntmps [] f98p1C 1910418 (partK f98p1M K) (encSt f98p1H v) = f98p1 k (fun w => K .normal (encSt f98p1X0 w)) v := by kernel_rfl
theorem f98p1I (k : Nat) : SumsOk P Go.Proofs.Try.f98.ntmps [] f98p1C 1910418 := SumsOk.nil
theorem f98p1O (k : Nat) : SumOk P Go.Proofs.Try.f98.ntmps f98p1C (f98p1S k) := sum_part tabOk (f98TS k) mixed (f98p1I k) (f98p1E k)
noncomputable def f98l2H : Shape := ⟨[(2, .one (.ptr 0 0)), (3, .one (.ptr 1 0)), (4, .one (.ptr 2 0)), (5, .one (.own 3)), (6, .one (.int .i64)), (7, .one (.own 4)), (8, .one (.int .i64)), (9, .one (.int .i64))], [(0, .var [.bool, .ro (.int .i64)]), (1, .var [.bool, .ro (.int .i64)]), (2, .var [.bool, .emp]), (3, .row 3 (.int .i64) .plain), (4, .row 3 (.int .i64) .plain)], 5⟩
noncomputable def f98l2X0 : Shape := ⟨[(2, .one (.ptr 0 0)), (3, .one (.ptr 1 0)), (4, .one (.ptr 2 0)), (5, .one (.own 3)), (6, .one (.int .i64)), (7, .one (.own 4))], [(0, .var [.bool, .ro (.int .i64)]), (1, .var [.bool, .ro (.int .i64)]), (2, .var [.bool, .emp]), (3, .row 3 (.int .i64) .plain), (4, .row 3 (.int .i64) .plain)], 5⟩
noncomputable def f98l2N : NoteR := ⟨[2, 3, 4, 5, 6, 7, 8, 9], [], []⟩
noncomputable def f98l2M : NoteR := ⟨[2, 3, 4, 5, 6, 7], [], []⟩
noncomputable def f98l2C : Code := firstC (codesAt 29850 (codeOf Go.Proofs.Try.f98) 1)
noncomputable def f98l2s {R : Type} (k : Nat) (rec : Int × Int × Int × Bool × List Int × Bool × List Int × Bool × List Int × List Int × Unit → Option R) (k0 : Int × Bool × List Int × Bool × List Int × Bool × List Int × List Int × Unit → Option R) (v : Int × Int × Int × Bool × List Int × Bool × List Int × Bool × List Int × List Int × Unit) : Option R :=
  f98p0 k
    (fun (w1 : Int × Int × Int × Bool × List Int × Bool × List Int × Bool × List Int × List Int × Unit) =>
      f98p1 k
        (fun (w3 : Int × Int × Int × Bool × List Int × Bool × List Int × Bool × List Int × List Int × Unit) =>
          bif (decide ((w3.2.2.2.2.2.2.2.2.2.1.length + [(Int.tmod w3.2.2.1 (10 : Int))].length) * 8 ≤ 140737488355328) && decide (w3.2.2.2.2.2.2.2.2.2.1.length + [(Int.tmod w3.2.2.1 (10 : Int))].length ≤ 9223372036854775807)) then
          rec (w3.1, (IntKind.i64.wrap (Int.tdiv w3.2.2.1 (10 : Int))), (IntKind.i64.wrap (w3.2.1 + (1 : Int))), w3.2.2.2.1, w3.2.2.2.2.1, w3.2.2.2.2.2.1, w3.2.2.2.2.2.2.1, w3.2.2.2.2.2.2.2.1, w3.2.2.2.2.2.2.2.2.1, (w3.2.2.2.2.2.2.2.2.2.1 ++ [(Int.tmod w3.2.2.1 (10 : Int))]), ())
          else none)
        (w1.1, w1.2.2.1, w1.2.1, w1.2.2.2.1, w1.2.2.2.2.1, w1.2.2.2.2.2.1, w1.2.2.2.2.2.2.1, w1.2.2.2.2.2.2.2.1, w1.2.2.2.2.2.2.2.2.1, w1.2.2.2.2.2.2.2.2.2.1, ()))
    (fun (w4 : Int × Int × Int × Bool × List Int × Bool × List Int × Bool × List Int × List Int × Unit) =>
      k0 (w4.1, w4.2.2.2.1, w4.2.2.2.2.1, w4.2.2.2.2.2.1, w4.2.2.2.2.2.2.1, w4.2.2.2.2.2.2.2.1, w4.2.2.2.2.2.2.2.2.1, w4.2.2.2.2.2.2.2.2.2.1, ()))
    (v.1, v.2.1, v.2.2.1, v.2.2.2.1, v.2.2.2.2.1, v.2.2.2.2.2.1, v.2.2.2.2.2.2.1, v.2.2.2.2.2.2.2.1, v.2.2.2.2.2.2.2.2.1, v.2.2.2.2.2.2.2.2.2.1, ())
noncomputable def f98l2 {R : Type} (k : Nat) (k0 : Int × Bool × List Int × Bool × List Int × Bool × List Int × List Int × Unit → Option R) (v : Int × Int × Int × Bool × List Int × Bool × List Int × Bool × List Int × List Int × Unit) : Option R := iterS (fun rec v => f98l2s k rec k0 v) k v
noncomputable def f98l2S (k : Nat) : Sum1 := loopSum f98l2H f98l2N k (fun R rec K v => f98l2s k rec (fun w => K (.exit 2) (encSt f98l2X0 w)) v)
theorem f98l2E (k : Nat) (R : Type) (rec : St → Option R) (K : X → St → Option R) (v : f98l2H.Den) : evS tab (f98T k) Go.Proofs.Try.f98.ntmps [(119400, f98p0S k), (1910418, f98p1S k)] (bodyOf f98l2C) 59700 (bodyK f98l2N f98l2M rec K) (encSt f98l2H v) = f98l2s k (fun v => rec (encSt f98l2H v)) (fun w => K (.exit 2) (encSt f98l2X0 w)) v := by kernel_rfl
theorem f98l2I (k : Nat) : SumsOk P Go.Proofs.Try.f98.ntmps [(119400, f98p0S k), (1910418, f98p1S k)] (bodyOf f98l2C) 59700 := ((SumsOk.nil).cons (c := f98p1C) (by kernel_rfl) (f98p1O k)).cons (c := f98p0C) (by kernel_rfl) (f98p0O k)
theorem f98l2O (k : Nat) : SumOk P Go.Proofs.Try.f98.ntmps f98l2C (f98l2S k) := (show f98l2C = .loop (bodyOf f98l2C) by kernel_rfl) ▸ sum_loop tabOk (f98TS k) mixed (f98l2I k) (f98l2E k)
noncomputable def f98l3H : Shape := ⟨[(2, .one (.ptr 0 0)), (3, .one (.ptr 1 0)), (4, .one (.ptr 2 0)), (5, .one (.own 3)), (6, .one (.int .i64))], [(0, .var [.bool, .ro (.int .i64)]), (1, .var [.bool, .ro (.int .i64)]), (2, .var [.bool, .emp]), (3, .row 3 (.int .i64) .plain)], 4⟩
noncomputable def f98l3X0 : Shape := ⟨[(2, .one (.ptr 0 0)), (3, .one (.ptr 1 0)), (4, .one (.ptr 2 0)), (5, .one (.own 3))], [(0, .var [.bool, .ro (.int .i64)]), (1, .var [.bool, .ro (.int .i64)]), (2, .var [.bool, .emp]), (3, .row 3 (.int .i64) .plain)], 4⟩
noncomputable def f98l3N : NoteR := ⟨[2, 3, 4, 5, 6], [(5, 3, (.int .i64))], []⟩
noncomputable def f98l3M : NoteR := ⟨[2, 3, 4, 5], [], []⟩
noncomputable def f98l3C : Code := firstC (codesAt 58 (codeOf Go.Proofs.Try.f98) 1)
noncomputable def f98l3s {R : Type} (k : Nat) (rec : Int × Bool × List Int × Bool × List Int × Bool × List Int × Unit → Option R) (k0 : Bool × List Int × Bool × List Int × Bool × List Int × Unit → Option R) (v : Int × Bool × List Int × Bool × List Int × Bool × List Int × Unit) : Option R :=
  bif (decide (v.1 < (v.2.2.2.2.1.length : Int))) then
    bif (((decide ((0 : Int) ≤ v.1)) && (decide ((v.1 * 8) ≤ (140737488355328 : Int)))) && (decide (v.1 ≤ (281474976710656 : Int)))) then
    f98l2 k
      (fun (w5 : Int × Bool × List Int × Bool × List Int × Bool × List Int × List Int × Unit) =>
        Option.bind (f92F k (w5.2.2.2.2.2.2.1, w5.2.2.2.2.2.2.2.1)) fun y6 =>
        rec ((IntKind.i64.wrap (w5.1 + (1 : Int))), w5.2.1, w5.2.2.1, w5.2.2.2.1, w5.2.2.2.2.1, w5.2.2.2.2.2.1, y6, ()))
      (v.1, (0 : Int), (0 : Int), v.2.1, v.2.2.1, v.2.2.2.1, v.2.2.2.2.1, v.2.2.2.2.2.1, v.2.2.2.2.2.2.1, (List.replicate (Int.toNat v.1) (0 : Int)), ())
    else none
  else
  k0 (v.2.1, v.2.2.1, v.2.2.2.1, v.2.2.2.2.1, v.2.2.2.2.2.1, v.2.2.2.2.2.2.1, ())
noncomputable def f98l3 {R : Type} (k : Nat) (k0 : Bool × List Int × Bool × List Int × Bool × List Int × Unit → Option R) (v : Int × Bool × List Int × Bool × List Int × Bool × List Int × Unit) : Option R := iterS (fun rec v => f98l3s k rec k0 v) k v
noncomputable def f98l3S (k : Nat) : Sum1 := loopSum f98l3H f98l3N k (fun R rec K v => f98l3s k rec (fun w => K (.exit 0) (encSt f98l3X0 w)) v)
theorem f98l3E (k : Nat) (R : Type) (rec : St → Option R) (K : X → St → Option R) (v : f98l3H.Den) : evS tab (f98T k) Go.Proofs.Try.f98.ntmps [(119400, f98p0S k), (1910418, f98p1S k), (29850, f98l2S k)] (bodyOf f98l3C) 116 (bodyK f98l3N f98l3M rec K) (encSt f98l3H v) = f98l3s k (fun v => rec (encSt f98l3H v)) (fun w => K (.exit 0) (encSt f98l3X0 w)) v := by kernel_rfl
theorem f98l3I (k : Nat) : SumsOk P Go.Proofs.Try.f98.ntmps [(119400, f98p0S k), (1910418, f98p1S k), (29850, f98l2S k)] (bodyOf f98l3C) 116 := (((SumsOk.nil).cons (c := f98l2C) (by kernel_rfl) (f98l2O k)).cons (c := f98p1C) (by kernel_rfl) (f98p1O k)).cons (c := f98p0C) (by kernel_rfl) (f98p0O k)
theorem f98l3O (k : Nat) : SumOk P Go.Proofs.Try.f98.ntmps f98l3C (f98l3S k) := (show f98l3C = .loop (bodyOf f98l3C) by kernel_rfl) ▸ sum_loop tabOk (f98TS k) mixed (f98l3I k) (f98l3E k)
noncomputable def f98F (k : Nat) (x : (Bool × (List Int)) × (Bool × (List Int))) : Option ((Bool × (List Int))) :=
  f98l3 k
    (fun (w7 : Bool × List Int × Bool × List Int × Bool × List Int × Unit) =>
      Option.bind (f95F k w7.2.2.2.2.2.1) fun y8 =>
      bif (!(w7.1 == w7.2.2.1)) then
        some ((decide ((y8.length : Int) > (0 : Int))), y8)
      else
      some (false, y8))
    ((0 : Int), x.1.1, x.1.2, x.2.1, x.2.2, false, [], ())
noncomputable def f98L (k : Nat) : Sums := [(119400, f98p0S k), (1910418, f98p1S k), (29850, f98l2S k), (58, f98l3S k)]
theorem f98LS (k : Nat) : SumsOk P Go.Proofs.Try.f98.ntmps (f98L k) (codeOf Go.Proofs.Try.f98) 1 := ((((SumsOk.nil).cons (c := f98l3C) (by kernel_rfl) (f98l3O k)).cons (c := f98l2C) (by kernel_rfl) (f98l2O k)).cons (c := f98p1C) (by kernel_rfl) (f98p1O k)).cons (c := f98p0C) (by kernel_rfl) (f98p0O k)
theorem f98E (k : Nat) (x : (Bool × (List Int)) × (Bool × (List Int))) : evFS tab (f98T k) (f98L k) Go.Proofs.Try.f98.ntmps Go.Proofs.Try.f98.results.toList (codeOf Go.Proofs.Try.f98) (argsV [.agg (.pair .bool (.slice (.int .i64))), .agg (.pair .bool (.slice (.int .i64)))] x) [.agg (.pair .bool (.slice (.int .i64)))] = f98F k x := by kernel_rfl
theorem f98Ok (k : Nat) (x : (Bool × (List Int)) × (Bool × (List Int))) (y : (Bool × (List Int))) (h : f98F k x = some y) : FnOk P 98 [.agg (.pair .bool (.slice (.int .i64))), .agg (.pair .bool (.slice (.int .i64)))] [.agg (.pair .bool (.slice (.int .i64)))] x y :=
  evFS_sound tabOk (f98TS k) mixed Go.Proofs.Try.func98 (c := codeOf Go.Proofs.Try.f98) (by kernel_rfl) (f98LS k) ((f98E k x).trans h)
/-! ## midrange/midrangeref01.Result -/
noncomputable def f66T (k : Nat) : Table := [(60, entFn [.agg (.pair .bool (.slice (.int .i64))), .agg (.pair .bool (.slice (.int .i64)))] [.agg (.pair .bool (.slice (.int .i64)))] (f60F k)), (90, entFn [.dat (.int .i64)] [.own 3 (.int .i64)] (f90F k)), (91, entFn [.agg (.pair (.int .i64) (.int .i64)), .agg (.pair (.int .i64) (.int .i64))] [.agg (.pair .bool (.slice (.int .i64))), .agg (.pair .bool (.slice (.int .i64))), .dat (.int .i64)] (f91F k)), (98, entFn [.agg (.pair .bool (.slice (.int .i64))), .agg (.pair .bool (.slice (.int .i64)))] [.agg (.pair .bool (.slice (.int .i64)))] (f98F k)), (99, entFn [.dat (.slice (.int .i64)), .dat (.slice (.int .i64))] [.dat (.slice (.int .i64)), .dat (.slice (.int .i64))] (f99F k))]
theorem f66TS (k : Nat) : Sound P (f66T k) := (((((Sound.nil).cons f99B (f99Ok k)).cons f98B (f98Ok k)).cons f91B (f91Ok k)).cons f90B (f90Ok k)).cons f60B (f60Ok k)
theorem f66B : HasBody P 66 := ⟨Go.Proofs.Try.f66, Go.Proofs.Try.func66, by kernel_rfl, by kernel_rfl⟩
noncomputable def f66p0H : Shape := ⟨[(0, .one (.int .i64)), (6, .one (.ptr 0 0)), (8, .one (.ptr 1 0)), (9, .one (.ptr 2 0)), (10, .one (.int .i64))], [(0, .var [.bool, .emp, .emp]), (1, .var [.bool, .ro (.int .i64)]), (2, .var [.bool, .ro (.int .i64)])], 3⟩
noncomputable def f66p0X0 : Shape := ⟨[(0, .one (.int .i64)), (6, .one (.ptr 0 0)), (7, .one (.int .i64)), (8, .one (.ptr 1 0)), (9, .one (.ptr 2 0)), (10, .one (.int .i64))], [(0, .var [.bool, .emp, .emp]), (1, .var [.bool, .ro (.int .i64)]), (2, .var [.bool, .ro (.int .i64)])], 3⟩
noncomputable def f66p0X1 : Shape := ⟨[(0, .one (.int .i64)), (6, .one (.ptr 0 0)), (8, .one (.ptr 1 0)), (9, .one (.ptr 2 0)), (10, .one (.int .i64))], [(0, .var [.bool, .emp, .emp]), (1, .var [.bool, .ro (.int .i64)]), (2, .var [.bool, .ro (.int .i64)])], 3⟩
noncomputable def f66p0N : NoteR := ⟨[0, 6, 8, 9, 10], [], []⟩
noncomputable def f66p0M : NoteR := ⟨[0, 6, 7, 8, 9, 10], [], []⟩
noncomputable def f66p0C : Code := firstC (codesAt 14 (codeOf Go.Proofs.Try.f66) 1)
noncomputable def f66p0 {R : Type} (k : Nat) (k0 : Int × Int × Int × Bool × Bool × List Int × Bool × List Int × Unit → Option R) (k1 : Int × Int × Bool × Bool × List Int × Bool × List Int × Unit → Option R) (v : Int × Int × Bool × Bool × List Int × Bool × List Int × Unit) : Option R :=
  bif (v.1 == (3 : Int)) then
    bif ((v.2.2.2.2.2.2.1.length : Int) == (0 : Int)) then
      k0 (v.1, (20 : Int), v.2.1, false, v.2.2.2.1, v.2.2.2.2.1, v.2.2.2.2.2.1, v.2.2.2.2.2.2.1, ())
    else
    k1 (v.1, v.2.1, v.2.2.1, v.2.2.2.1, v.2.2.2.2.1, v.2.2.2.2.2.1, v.2.2.2.2.2.2.1, ())
  else
  bif (v.1 == (4 : Int)) then
    bif ((v.2.2.2.2.2.2.1.length : Int) == (0 : Int)) then
      k0 (v.1, (20 : Int), v.2.1, false, v.2.2.2.1, v.2.2.2.2.1, v.2.2.2.2.2.1, v.2.2.2.2.2.2.1, ())
    else
    k1 (v.1, v.2.1, v.2.2.1, v.2.2.2.1, v.2.2.2.2.1, v.2.2.2.2.2.1, v.2.2.2.2.2.2.1, ())
  else
  k1 (v.1, v.2.1, v.2.2.1, v.2.2.2.1, v.2.2.2.2.1, v.2.2.2.2.2.1, v.2.2.2.2.2.2.1, ())
noncomputable def f66p0S (k : Nat) : Sum1 := partSum f66p0H f66p0N (fun R K v => f66p0 k (fun w => K .ret (encSt f66p0X0 w)) (fun w => K .normal (encSt f66p0X1 w)) v)
theorem f66p0E (k : Nat) (R : Type) (K : X → St → Option R) (v : f66p0H.Den) : evS tab (f66T k) Go.Proofs.Try.f66.ntmps [] f66p0C 14 (partK f66p0M K) (encSt f66p0H v) = f66p0 k (fun w => K .ret (encSt f66p0X0 w)) (fun w => K .normal (encSt f66p0X1 w)) v := by kernel_rfl
theorem f66p0I (k : Nat) : SumsOk P Go.Proofs.Try.f66.ntmps [] f66p0C 14 := SumsOk.nil
theorem f66p0O (k : Nat) : SumOk P Go.Proofs.Try.f66.ntmps f66p0C (f66p0S k) := sum_part tabOk (f66TS k) mixed (f66p0I k) (f66p0E k)
noncomputable def f66F (k : Nat) (x : Int × (Int × Int) × (Int × Int)) : Option (((Bool × (List Int)) × (List Int)) × Int) :=
  Option.bind (f91F k ((x.2.1.1, x.2.1.2), (x.2.2.1, x.2.2.2))) fun y1 =>
  f66p0 k
    (fun (w2 : Int × Int × Int × Bool × Bool × List Int × Bool × List Int × Unit) =>
      some (((w2.2.2.2.1, []), []), w2.2.1))
    (fun (w3 : Int × Int × Bool × Bool × List Int × Bool × List Int × Unit) =>
      bif (w3.1 == (1 : Int)) then
        bif (!w3.2.2.2.2.2.1) then
          Option.bind (f60F k ((w3.2.2.2.1, w3.2.2.2.2.1), ((decide ((w3.2.2.2.2.2.2.1.length : Int) > (0 : Int))), w3.2.2.2.2.2.2.1))) fun y4 =>
          Option.bind (f90F k w3.2.1) fun y5 =>
          some (((y4.1, y4.2), y5), (0 : Int))
        else
        Option.bind (f60F k ((w3.2.2.2.1, w3.2.2.2.2.1), (false, w3.2.2.2.2.2.2.1))) fun y6 =>
        Option.bind (f90F k w3.2.1) fun y7 =>
        some (((y6.1, y6.2), y7), (0 : Int))
      else
      bif (w3.1 == (2 : Int)) then
        Option.bind (f98F k ((w3.2.2.2.1, w3.2.2.2.2.1), (w3.2.2.2.2.2.1, w3.2.2.2.2.2.2.1))) fun y8 =>
        Option.bind (f90F k (IntKind.i64.wrap ((2 : Int) * w3.2.1))) fun y9 =>
        some (((y8.1, y8.2), y9), (0 : Int))
      else
      bif (w3.1 == (3 : Int)) then
        some ((((!(w3.2.2.2.1 == w3.2.2.2.2.2.1)), w3.2.2.2.2.1), w3.2.2.2.2.2.2.1), (0 : Int))
      else
      bif (w3.1 == (4 : Int)) then
        Option.bind (f99F k (w3.2.2.2.2.1, w3.2.2.2.2.2.2.1)) fun y10 =>
        Option.bind (f90F k w3.2.1) fun y11 =>
        some (((w3.2.2.2.1, y10.2), y11), (0 : Int))
      else
      Option.bind (f60F k ((w3.2.2.2.1, w3.2.2.2.2.1), (w3.2.2.2.2.2.1, w3.2.2.2.2.2.2.1))) fun y12 =>
      Option.bind (f90F k w3.2.1) fun y13 =>
      some (((y12.1, y12.2), y13), (0 : Int)))
    (x.1, y1.2.2, false, y1.1.1, y1.1.2, y1.2.1.1, y1.2.1.2, ())
noncomputable def f66L (k : Nat) : Sums := [(14, f66p0S k)]
theorem f66LS (k : Nat) : SumsOk P Go.Proofs.Try.f66.ntmps (f66L k) (codeOf Go.Proofs.Try.f66) 1 := (SumsOk.nil).cons (c := f66p0C) (by kernel_rfl) (f66p0O k)
theorem f66E (k : Nat) (x : Int × (Int × Int) × (Int × Int)) : evFS tab (f66T k) (f66L k) Go.Proofs.Try.f66.ntmps Go.Proofs.Try.f66.results.toList (codeOf Go.Proofs.Try.f66) (argsV [.dat (.int .i64), .agg (.pair (.int .i64) (.int .i64)), .agg (.pair (.int .i64) (.int .i64))] x) [.agg (.pair (.pair .bool (.slice (.int .i64))) (.slice (.int .i64))), .dat (.int .i64)] = f66F k x := by kernel_rfl
theorem f66Ok (k : Nat) (x : Int × (Int × Int) × (Int × Int)) (y : ((Bool × (List Int)) × (List Int)) × Int) (h : f66F k x = some y) : FnOk P 66 [.dat (.int .i64), .agg (.pair (.int .i64) (.int .i64)), .agg (.pair (.int .i64) (.int .i64))] [.agg (.pair (.pair .bool (.slice (.int .i64))) (.slice (.int .i64))), .dat (.int .i64)] x y :=
  evFS_sound tabOk (f66TS k) mixed Go.Proofs.Try.func66 (c := codeOf Go.Proofs.Try.f66) (by kernel_rfl) (f66LS k) ((f66E k x).trans h)
/-! ## midrange/midrangeref01.Calculated -/
noncomputable def f23T (k : Nat) : Table := [(34, entFn [.agg (.pair (.int .i64) (.int .i64))] [.dat (.int .i64)] (f34F k)), (48, entFn [.dat (.int .i64), .dat (.int .i64), .dat (.int .i64)] [.dat .bool] (f48F k)), (56, entFn [.agg (.pair (.int .i64) (.pair (.int .i64) (.int .i64)))] [.dat (.int .i64)] (f56F k)), (57, entFn [.agg (.pair (.pair .bool (.slice (.int .i64))) (.slice (.int .i64))), .agg (.pair (.int .i64) (.pair (.int .i64) (.int .i64))), .dat .bool] [.dat (.int .i64), .dat (.int .i64)] (f57F k)), (66, entFn [.dat (.int .i64), .agg (.pair (.int .i64) (.int .i64)), .agg (.pair (.int .i64) (.int .i64))] [.agg (.pair (.pair .bool (.slice (.int .i64))) (.slice (.int .i64))), .dat (.int .i64)] (f66F k))]
theorem f23TS (k : Nat) : Sound P (f23T k) := (((((Sound.nil).cons f66B (f66Ok k)).cons f57B (f57Ok k)).cons f56B (f56Ok k)).cons f48B (f48Ok k)).cons f34B (f34Ok k)
theorem f23B : HasBody P 23 := ⟨Go.Proofs.Try.f23, Go.Proofs.Try.func23, by kernel_rfl, by kernel_rfl⟩
noncomputable def f23F (k : Nat) (x : (Int × ((Int × (Int × Int)) × Bool)) × (Int × Int) × (Int × Int)) : Option ((Int × ByteArray) × Int) :=
  Option.bind (f48F k (x.1.1, (0 : Int), (4 : Int))) fun y1 =>
  bif (!y1) then
    some (((0 : Int), ByteArray.empty), (4 : Int))
  else
  Option.bind (f34F k (x.2.1.1, x.2.1.2)) fun y2 =>
  bif (y2 != (0 : Int)) then
    some (((0 : Int), ByteArray.empty), y2)
  else
  Option.bind (f34F k (x.2.2.1, x.2.2.2)) fun y3 =>
  bif (y3 != (0 : Int)) then
    some (((0 : Int), ByteArray.empty), y3)
  else
  Option.bind (f56F k (x.1.2.1.1, (x.1.2.1.2.1, x.1.2.1.2.2))) fun y4 =>
  bif (y4 != (0 : Int)) then
    some (((0 : Int), ByteArray.empty), y4)
  else
  Option.bind (f66F k (x.1.1, (x.2.1.1, x.2.1.2), (x.2.2.1, x.2.2.2))) fun y5 =>
  bif (y5.2 != (0 : Int)) then
    some (((0 : Int), ByteArray.empty), y5.2)
  else
  Option.bind (f57F k (((y5.1.1.1, y5.1.1.2), y5.1.2), (x.1.2.1.1, (x.1.2.1.2.1, x.1.2.1.2.2)), x.1.2.2)) fun y6 =>
  some ((y6.1, ByteArray.empty), y6.2)
noncomputable def f23L (k : Nat) : Sums := []
theorem f23LS (k : Nat) : SumsOk P Go.Proofs.Try.f23.ntmps (f23L k) (codeOf Go.Proofs.Try.f23) 1 := SumsOk.nil
theorem f23E (k : Nat) (x : (Int × ((Int × (Int × Int)) × Bool)) × (Int × Int) × (Int × Int)) : evFS tab (f23T k) (f23L k) Go.Proofs.Try.f23.ntmps Go.Proofs.Try.f23.results.toList (codeOf Go.Proofs.Try.f23) (argsV [.agg (.pair (.int .i64) (.pair (.pair (.int .i64) (.pair (.int .i64) (.int .i64))) .bool)), .agg (.pair (.int .i64) (.int .i64)), .agg (.pair (.int .i64) (.int .i64))] x) [.agg (.pair (.int .i64) .str), .dat (.int .i64)] = f23F k x := by kernel_rfl
theorem f23Ok (k : Nat) (x : (Int × ((Int × (Int × Int)) × Bool)) × (Int × Int) × (Int × Int)) (y : (Int × ByteArray) × Int) (h : f23F k x = some y) : FnOk P 23 [.agg (.pair (.int .i64) (.pair (.pair (.int .i64) (.pair (.int .i64) (.int .i64))) .bool)), .agg (.pair (.int .i64) (.int .i64)), .agg (.pair (.int .i64) (.int .i64))] [.agg (.pair (.int .i64) .str), .dat (.int .i64)] x y :=
  evFS_sound tabOk (f23TS k) mixed Go.Proofs.Try.func23 (c := codeOf Go.Proofs.Try.f23) (by kernel_rfl) (f23LS k) ((f23E k x).trans h)
/-! ## midrange/midrangelaw01.NumericCalculates -/
noncomputable def f8T (k : Nat) : Table := [(13, entFn [] [.dat .bool] (f13F k)), (22, entFn [.dat (.int .i64), .agg (.pair (.int .i64) (.int .i64)), .agg (.pair (.int .i64) (.int .i64)), .agg (.pair (.int .i64) (.pair (.int .i64) (.int .i64))), .dat .bool] [.agg (.pair (.int .i64) .str), .dat (.int .i64)] (f22F k)), (23, entFn [.agg (.pair (.int .i64) (.pair (.pair (.int .i64) (.pair (.int .i64) (.int .i64))) .bool)), .agg (.pair (.int .i64) (.int .i64)), .agg (.pair (.int .i64) (.int .i64))] [.agg (.pair (.int .i64) .str), .dat (.int .i64)] (f23F k))]
theorem f8TS (k : Nat) : Sound P (f8T k) := (((Sound.nil).cons f23B (f23Ok k)).cons f22B (f22Ok k)).cons f13B (f13Ok k)
theorem f8B : HasBody P 8 := ⟨Go.Proofs.Try.f8, Go.Proofs.Try.func8, by kernel_rfl, by kernel_rfl⟩
noncomputable def f8F (k : Nat) (x : (Int × ((Int × (Int × Int)) × Bool)) × ((Int × Int) × (Int × Int))) : Option (Bool) :=
  Option.bind (f13F k ()) fun y1 =>
  bif (!y1) then
    some false
  else
  Option.bind (f22F k (x.1.1, (x.2.1.1, x.2.1.2), (x.2.2.1, x.2.2.2), (x.1.2.1.1, (x.1.2.1.2.1, x.1.2.1.2.2)), x.1.2.2)) fun y2 =>
  Option.bind (f23F k ((x.1.1, ((x.1.2.1.1, (x.1.2.1.2.1, x.1.2.1.2.2)), x.1.2.2)), (x.2.1.1, x.2.1.2), (x.2.2.1, x.2.2.2))) fun y3 =>
  bif (y2.2 == y3.2) then
    bif (y3.2 != (0 : Int)) then
      bif ((y2.1.1 == (0 : Int)) && ((strEq y2.1.2 ByteArray.empty) && true)) then
        some true
      else
      bif (y3.2 == (0 : Int)) then
        some ((y2.1.1 == y3.1.1) && ((strEq y2.1.2 y3.1.2) && true))
      else
      some false
    else
    bif (y3.2 == (0 : Int)) then
      some ((y2.1.1 == y3.1.1) && ((strEq y2.1.2 y3.1.2) && true))
    else
    some false
  else
  some false
noncomputable def f8L (k : Nat) : Sums := []
theorem f8LS (k : Nat) : SumsOk P Go.Proofs.Try.f8.ntmps (f8L k) (codeOf Go.Proofs.Try.f8) 1 := SumsOk.nil
theorem f8E (k : Nat) (x : (Int × ((Int × (Int × Int)) × Bool)) × ((Int × Int) × (Int × Int))) : evFS tab (f8T k) (f8L k) Go.Proofs.Try.f8.ntmps Go.Proofs.Try.f8.results.toList (codeOf Go.Proofs.Try.f8) (argsV [.agg (.pair (.int .i64) (.pair (.pair (.int .i64) (.pair (.int .i64) (.int .i64))) .bool)), .agg (.pair (.pair (.int .i64) (.int .i64)) (.pair (.int .i64) (.int .i64)))] x) [.dat .bool] = f8F k x := by kernel_rfl
theorem f8Ok (k : Nat) (x : (Int × ((Int × (Int × Int)) × Bool)) × ((Int × Int) × (Int × Int))) (y : Bool) (h : f8F k x = some y) : FnOk P 8 [.agg (.pair (.int .i64) (.pair (.pair (.int .i64) (.pair (.int .i64) (.int .i64))) .bool)), .agg (.pair (.pair (.int .i64) (.int .i64)) (.pair (.int .i64) (.int .i64)))] [.dat .bool] x y :=
  evFS_sound tabOk (f8TS k) mixed Go.Proofs.Try.func8 (c := codeOf Go.Proofs.Try.f8) (by kernel_rfl) (f8LS k) ((f8E k x).trans h)
/-! ## midrange/midrangelaw01.NumericLaws -/
noncomputable def f10T (k : Nat) : Table := [(13, entFn [] [.dat .bool] (f13F k)), (18, entFn [.agg (.pair (.int .i64) (.int .i64)), .agg (.pair (.int .i64) (.pair (.int .i64) (.int .i64))), .dat .bool] [.agg (.pair (.int .i64) .str), .dat (.int .i64)] (f18F k)), (22, entFn [.dat (.int .i64), .agg (.pair (.int .i64) (.int .i64)), .agg (.pair (.int .i64) (.int .i64)), .agg (.pair (.int .i64) (.pair (.int .i64) (.int .i64))), .dat .bool] [.agg (.pair (.int .i64) .str), .dat (.int .i64)] (f22F k)), (34, entFn [.agg (.pair (.int .i64) (.int .i64))] [.dat (.int .i64)] (f34F k))]
theorem f10TS (k : Nat) : Sound P (f10T k) := ((((Sound.nil).cons f34B (f34Ok k)).cons f22B (f22Ok k)).cons f18B (f18Ok k)).cons f13B (f13Ok k)
theorem f10B : HasBody P 10 := ⟨Go.Proofs.Try.f10, Go.Proofs.Try.func10, by kernel_rfl, by kernel_rfl⟩
noncomputable def f10l0H : Shape := ⟨[(1, .one (.ptr 0 0)), (3, .one (.int .i64)), (4, .one (.ptr 1 0)), (5, .one (.int .i64))], [(0, .var [.int .i64, .int .i64, .int .i64, .int .i64]), (1, .var [.int .i64, .int .i64, .int .i64])], 2⟩
noncomputable def f10l0X0 : Shape := ⟨[(1, .one (.ptr 0 0)), (2, .one (.bool)), (3, .one (.int .i64)), (4, .one (.ptr 1 0))], [(0, .var [.int .i64, .int .i64, .int .i64, .int .i64]), (1, .var [.int .i64, .int .i64, .int .i64])], 2⟩
noncomputable def f10l0X1 : Shape := ⟨[(1, .one (.ptr 0 0)), (3, .one (.int .i64)), (4, .one (.ptr 1 0))], [(0, .var [.int .i64, .int .i64, .int .i64, .int .i64]), (1, .var [.int .i64, .int .i64, .int .i64])], 2⟩
noncomputable def f10l0N : NoteR := ⟨[1, 3, 4, 5], [], []⟩
noncomputable def f10l0M : NoteR := ⟨[1, 2, 3, 4], [], []⟩
noncomputable def f10l0C : Code := firstC (codesAt 506 (codeOf Go.Proofs.Try.f10) 1)
noncomputable def f10l0s {R : Type} (k : Nat) (rec : Int × Int × Int × Int × Int × Int × Int × Int × Int × Unit → Option R) (k0 : Bool × Int × Int × Int × Int × Int × Int × Int × Int × Unit → Option R) (k1 : Int × Int × Int × Int × Int × Int × Int × Int × Unit → Option R) (v : Int × Int × Int × Int × Int × Int × Int × Int × Int × Unit) : Option R :=
  bif (decide (v.2.1 ≤ (2 : Int))) then
    Option.bind (f22F k (v.2.1, (v.2.2.1, v.2.2.2.1), (v.2.2.2.2.1, v.2.2.2.2.2.1), (v.2.2.2.2.2.2.1, (v.2.2.2.2.2.2.2.1, v.2.2.2.2.2.2.2.2.1)), false)) fun y4 =>
    Option.bind (f22F k (v.2.1, (v.2.2.2.2.1, v.2.2.2.2.2.1), (v.2.2.1, v.2.2.2.1), (v.2.2.2.2.2.2.1, (v.2.2.2.2.2.2.2.1, v.2.2.2.2.2.2.2.2.1)), false)) fun y5 =>
    bif (y4.2 != y5.2) then
      k0 (false, v.1, v.2.2.1, v.2.2.2.1, v.2.2.2.2.1, v.2.2.2.2.2.1, v.2.2.2.2.2.2.1, v.2.2.2.2.2.2.2.1, v.2.2.2.2.2.2.2.2.1, ())
    else
    bif (!((y4.1.1 == y5.1.1) && ((strEq y4.1.2 y5.1.2) && true))) then
      k0 (false, v.1, v.2.2.1, v.2.2.2.1, v.2.2.2.2.1, v.2.2.2.2.2.1, v.2.2.2.2.2.2.1, v.2.2.2.2.2.2.2.1, v.2.2.2.2.2.2.2.2.1, ())
    else
    rec (v.1, (IntKind.i64.wrap (v.2.1 + (2 : Int))), v.2.2.1, v.2.2.2.1, v.2.2.2.2.1, v.2.2.2.2.2.1, v.2.2.2.2.2.2.1, v.2.2.2.2.2.2.2.1, v.2.2.2.2.2.2.2.2.1, ())
  else
  k1 (v.1, v.2.2.1, v.2.2.2.1, v.2.2.2.2.1, v.2.2.2.2.2.1, v.2.2.2.2.2.2.1, v.2.2.2.2.2.2.2.1, v.2.2.2.2.2.2.2.2.1, ())
noncomputable def f10l0 {R : Type} (k : Nat) (k0 : Bool × Int × Int × Int × Int × Int × Int × Int × Int × Unit → Option R) (k1 : Int × Int × Int × Int × Int × Int × Int × Int × Unit → Option R) (v : Int × Int × Int × Int × Int × Int × Int × Int × Int × Unit) : Option R := iterS (fun rec v => f10l0s k rec k0 k1 v) k v
noncomputable def f10l0S (k : Nat) : Sum1 := loopSum f10l0H f10l0N k (fun R rec K v => f10l0s k rec (fun w => K .ret (encSt f10l0X0 w)) (fun w => K (.exit 0) (encSt f10l0X1 w)) v)
theorem f10l0E (k : Nat) (R : Type) (rec : St → Option R) (K : X → St → Option R) (v : f10l0H.Den) : evS tab (f10T k) Go.Proofs.Try.f10.ntmps [] (bodyOf f10l0C) 1012 (bodyK f10l0N f10l0M rec K) (encSt f10l0H v) = f10l0s k (fun v => rec (encSt f10l0H v)) (fun w => K .ret (encSt f10l0X0 w)) (fun w => K (.exit 0) (encSt f10l0X1 w)) v := by kernel_rfl
theorem f10l0I (k : Nat) : SumsOk P Go.Proofs.Try.f10.ntmps [] (bodyOf f10l0C) 1012 := SumsOk.nil
theorem f10l0O (k : Nat) : SumOk P Go.Proofs.Try.f10.ntmps f10l0C (f10l0S k) := (show f10l0C = .loop (bodyOf f10l0C) by kernel_rfl) ▸ sum_loop tabOk (f10TS k) mixed (f10l0I k) (f10l0E k)
noncomputable def f10p1H : Shape := ⟨[(1, .one (.ptr 0 0)), (3, .one (.int .i64)), (4, .one (.ptr 1 0))], [(0, .var [.int .i64, .int .i64, .int .i64, .int .i64]), (1, .var [.int .i64, .int .i64, .int .i64])], 2⟩
noncomputable def f10p1X0 : Shape := ⟨[(1, .one (.ptr 0 0)), (2, .one (.bool)), (3, .one (.int .i64)), (4, .one (.ptr 1 0))], [(0, .var [.int .i64, .int .i64, .int .i64, .int .i64]), (1, .var [.int .i64, .int .i64, .int .i64])], 2⟩
noncomputable def f10p1X1 : Shape := ⟨[(1, .one (.ptr 0 0)), (3, .one (.int .i64)), (4, .one (.ptr 1 0))], [(0, .var [.int .i64, .int .i64, .int .i64, .int .i64]), (1, .var [.int .i64, .int .i64, .int .i64])], 2⟩
noncomputable def f10p1N : NoteR := ⟨[1, 3, 4], [], []⟩
noncomputable def f10p1M : NoteR := ⟨[1, 2, 3, 4], [], []⟩
noncomputable def f10p1C : Code := firstC (codesAt 254 (codeOf Go.Proofs.Try.f10) 1)
noncomputable def f10p1 {R : Type} (k : Nat) (k0 : Bool × Int × Int × Int × Int × Int × Int × Int × Int × Unit → Option R) (k1 : Int × Int × Int × Int × Int × Int × Int × Int × Unit → Option R) (v : Int × Int × Int × Int × Int × Int × Int × Int × Unit) : Option R :=
  Option.bind (f22F k ((0 : Int), (v.2.1, v.2.2.1), (v.2.2.2.1, v.2.2.2.2.1), (v.2.2.2.2.2.1, (v.2.2.2.2.2.2.1, v.2.2.2.2.2.2.2.1)), false)) fun y8 =>
  bif (y8.2 == (0 : Int)) then
    Option.bind (f22F k ((1 : Int), (y8.1.1, v.1), (v.2.1, v.2.2.1), (v.2.2.2.2.2.1, (v.2.2.2.2.2.2.1, v.2.2.2.2.2.2.2.1)), false)) fun y9 =>
    Option.bind (f18F k ((v.2.2.2.1, v.2.2.2.2.1), (v.2.2.2.2.2.1, (v.2.2.2.2.2.2.1, v.2.2.2.2.2.2.2.1)), false)) fun y10 =>
    bif (y9.2 != y10.2) then
      k0 (false, v.1, v.2.1, v.2.2.1, v.2.2.2.1, v.2.2.2.2.1, v.2.2.2.2.2.1, v.2.2.2.2.2.2.1, v.2.2.2.2.2.2.2.1, ())
    else
    bif (!((y9.1.1 == y10.1.1) && ((strEq y9.1.2 y10.1.2) && true))) then
      k0 (false, v.1, v.2.1, v.2.2.1, v.2.2.2.1, v.2.2.2.2.1, v.2.2.2.2.2.1, v.2.2.2.2.2.2.1, v.2.2.2.2.2.2.2.1, ())
    else
    k1 (v.1, v.2.1, v.2.2.1, v.2.2.2.1, v.2.2.2.2.1, v.2.2.2.2.2.1, v.2.2.2.2.2.2.1, v.2.2.2.2.2.2.2.1, ())
  else
  k1 (v.1, v.2.1, v.2.2.1, v.2.2.2.1, v.2.2.2.2.1, v.2.2.2.2.2.1, v.2.2.2.2.2.2.1, v.2.2.2.2.2.2.2.1, ())
noncomputable def f10p1S (k : Nat) : Sum1 := partSum f10p1H f10p1N (fun R K v => f10p1 k (fun w => K .ret (encSt f10p1X0 w)) (fun w => K .normal (encSt f10p1X1 w)) v)
theorem f10p1E (k : Nat) (R : Type) (K : X → St → Option R) (v : f10p1H.Den) : evS tab (f10T k) Go.Proofs.Try.f10.ntmps [] f10p1C 254 (partK f10p1M K) (encSt f10p1H v) = f10p1 k (fun w => K .ret (encSt f10p1X0 w)) (fun w => K .normal (encSt f10p1X1 w)) v := by kernel_rfl
theorem f10p1I (k : Nat) : SumsOk P Go.Proofs.Try.f10.ntmps [] f10p1C 254 := SumsOk.nil
theorem f10p1O (k : Nat) : SumOk P Go.Proofs.Try.f10.ntmps f10p1C (f10p1S k) := sum_part tabOk (f10TS k) mixed (f10p1I k) (f10p1E k)
noncomputable def f10F (k : Nat) (x : ((Int × Int) × (Int × Int))) : Option (Bool) :=
  Option.bind (f13F k ()) fun y1 =>
  bif (!y1) then
    some false
  else
  Option.bind (f34F k (x.1.1, x.1.2)) fun y2 =>
  bif (y2 != (0 : Int)) then
    some true
  else
  Option.bind (f34F k (x.2.1, x.2.2)) fun y3 =>
  bif (y3 != (0 : Int)) then
    some true
  else
  f10l0 k
    (fun (w6 : Bool × Int × Int × Int × Int × Int × Int × Int × Int × Unit) =>
      some w6.1)
    (fun (w7 : Int × Int × Int × Int × Int × Int × Int × Int × Unit) =>
      f10p1 k
        (fun (w11 : Bool × Int × Int × Int × Int × Int × Int × Int × Int × Unit) =>
          some w11.1)
        (fun (w12 : Int × Int × Int × Int × Int × Int × Int × Int × Unit) =>
          Option.bind (f22F k ((3 : Int), (w12.2.1, w12.2.2.1), (w12.2.2.2.1, w12.2.2.2.2.1), ((1 : Int), ((15 : Int), (0 : Int))), false)) fun y13 =>
          Option.bind (f22F k ((4 : Int), (w12.2.1, w12.2.2.1), (w12.2.2.2.1, w12.2.2.2.2.1), (w12.2.2.2.2.2.1, (w12.2.2.2.2.2.2.1, w12.2.2.2.2.2.2.2.1)), false)) fun y14 =>
          bif (y13.2 != (0 : Int)) then
            bif (y13.2 != (20 : Int)) then
              bif (y14.2 != (20 : Int)) then
                some true
              else
              bif (w12.2.2.2.1 == (0 : Int)) then
                some (y13.2 == y14.2)
              else
              some false
            else
            bif (w12.2.2.2.1 == (0 : Int)) then
              some (y13.2 == y14.2)
            else
            some false
          else
          bif (y14.2 != (0 : Int)) then
            bif (y13.2 != (20 : Int)) then
              bif (y14.2 != (20 : Int)) then
                some true
              else
              bif (w12.2.2.2.1 == (0 : Int)) then
                some (y13.2 == y14.2)
              else
              some false
            else
            bif (w12.2.2.2.1 == (0 : Int)) then
              some (y13.2 == y14.2)
            else
            some false
          else
          Option.bind (f22F k ((2 : Int), (y13.1.1, (0 : Int)), (w12.2.2.2.1, w12.2.2.2.2.1), (w12.2.2.2.2.2.1, (w12.2.2.2.2.2.2.1, w12.2.2.2.2.2.2.2.1)), false)) fun y15 =>
          bif (y15.2 != (0 : Int)) then
            some (y15.2 == (19 : Int))
          else
          Option.bind (f22F k ((0 : Int), (y15.1.1, w12.1), (y14.1.1, w12.1), (w12.2.2.2.2.2.1, (w12.2.2.2.2.2.2.1, w12.2.2.2.2.2.2.2.1)), false)) fun y16 =>
          Option.bind (f18F k ((w12.2.1, w12.2.2.1), (w12.2.2.2.2.2.1, (w12.2.2.2.2.2.2.1, w12.2.2.2.2.2.2.2.1)), false)) fun y17 =>
          bif (y16.2 == y17.2) then
            some ((y16.1.1 == y17.1.1) && ((strEq y16.1.2 y17.1.2) && true))
          else
          some false)
        (w7.1, w7.2.1, w7.2.2.1, w7.2.2.2.1, w7.2.2.2.2.1, w7.2.2.2.2.2.1, w7.2.2.2.2.2.2.1, w7.2.2.2.2.2.2.2.1, ()))
    ((mxI x.1.2 x.2.2), (0 : Int), x.1.1, x.1.2, x.2.1, x.2.2, (1 : Int), (15 : Int), (mxI x.1.2 x.2.2), ())
noncomputable def f10L (k : Nat) : Sums := [(506, f10l0S k), (254, f10p1S k)]
theorem f10LS (k : Nat) : SumsOk P Go.Proofs.Try.f10.ntmps (f10L k) (codeOf Go.Proofs.Try.f10) 1 := ((SumsOk.nil).cons (c := f10p1C) (by kernel_rfl) (f10p1O k)).cons (c := f10l0C) (by kernel_rfl) (f10l0O k)
theorem f10E (k : Nat) (x : ((Int × Int) × (Int × Int))) : evFS tab (f10T k) (f10L k) Go.Proofs.Try.f10.ntmps Go.Proofs.Try.f10.results.toList (codeOf Go.Proofs.Try.f10) (argsV [.agg (.pair (.pair (.int .i64) (.int .i64)) (.pair (.int .i64) (.int .i64)))] x) [.dat .bool] = f10F k x := by kernel_rfl
theorem f10Ok (k : Nat) (x : ((Int × Int) × (Int × Int))) (y : Bool) (h : f10F k x = some y) : FnOk P 10 [.agg (.pair (.pair (.int .i64) (.int .i64)) (.pair (.int .i64) (.int .i64)))] [.dat .bool] x y :=
  evFS_sound tabOk (f10TS k) mixed Go.Proofs.Try.func10 (c := codeOf Go.Proofs.Try.f10) (by kernel_rfl) (f10LS k) ((f10E k x).trans h)
/-! ## midrange/numeric.CalculatedBytes -/
noncomputable def f35T (k : Nat) : Table := [(16, entFn [.agg (.pair (.int .i64) (.pair (.int .i64) (.int .i64))), .dat .str] [.agg (.pair (.int .i64) .str), .dat (.int .i64), .dat (.int .i64)] (f16F k)), (28, entFn [.agg (.pair (.int .i64) (.pair (.int .i64) (.int .i64)))] [.dat (.int .i64)] (f28F k)), (40, entFn [.agg (.pair (.int .i64) (.pair (.int .i64) (.int .i64))), .agg (.pair (.int .i64) .str)] [.dat .str] (f40F k)), (42, entFn [.dat (.slice (.int .i64))] [.dat (.int .i64)] (f42F k)), (43, entFn [.dat .bool, .dat (.int .i64)] [.dat (.int .i64)] (f43F k)), (53, entFn [.agg (.pair (.int .i64) (.pair (.int .i64) (.int .i64)))] [.dat .bool] (f53F k)), (64, entFn [.dat (.int .i64)] [.dat .bool] (f64F k)), (65, entFn [.dat (.int .i64), .agg (.pair (.int .i64) (.int .i64)), .agg (.pair (.int .i64) (.int .i64)), .agg (.pair (.int .i64) (.pair (.int .i64) (.int .i64))), .dat .bool] [.agg (.pair (.int .i64) .str), .dat (.int .i64)] (f65F k))]
theorem f35TS (k : Nat) : Sound P (f35T k) := ((((((((Sound.nil).cons f65B (f65Ok k)).cons f64B (f64Ok k)).cons f53B (f53Ok k)).cons f43B (f43Ok k)).cons f42B (f42Ok k)).cons f40B (f40Ok k)).cons f28B (f28Ok k)).cons f16B (f16Ok k)
theorem f35B : HasBody P 35 := ⟨Go.Proofs.Try.f35, Go.Proofs.Try.func35, by kernel_rfl, by kernel_rfl⟩
noncomputable def f35F (k : Nat) (x : Int × ((Int × (Int × Int)) × ByteArray) × ((Int × (Int × Int)) × ByteArray) × (Int × (Int × Int)) × Bool) : Option (ByteArray × Int × Int) :=
  Option.bind (f53F k (x.2.1.1.1, (x.2.1.1.2.1, x.2.1.1.2.2))) fun y1 =>
  bif y1 then
    Option.bind (f53F k (x.2.2.1.1.1, (x.2.2.1.1.2.1, x.2.2.1.1.2.2))) fun y2 =>
    bif y2 then
      Option.bind (f53F k (x.2.2.2.1.1, (x.2.2.2.1.2.1, x.2.2.2.1.2.2))) fun y3 =>
      Option.bind (f64F k x.1) fun y4 =>
      Option.bind (f43F k ((!y4), (4 : Int))) fun y5 =>
      Option.bind (f28F k (x.2.1.1.1, (x.2.1.1.2.1, x.2.1.1.2.2))) fun y6 =>
      Option.bind (f28F k (x.2.2.1.1.1, (x.2.2.1.1.2.1, x.2.2.1.1.2.2))) fun y7 =>
      Option.bind (f28F k (x.2.2.2.1.1, (x.2.2.2.1.2.1, x.2.2.2.1.2.2))) fun y8 =>
      Option.bind (f43F k ((!y3), (17 : Int))) fun y9 =>
      Option.bind (f42F k [y5, y6, y7, y8, y9]) fun y10 =>
      bif (y10 != (0 : Int)) then
        some (ByteArray.empty, (0 : Int), y10)
      else
      Option.bind (f16F k ((x.2.1.1.1, (x.2.1.1.2.1, x.2.1.1.2.2)), x.2.1.2)) fun y11 =>
      bif (y11.2.2 != (0 : Int)) then
        some (ByteArray.empty, y11.2.1, y11.2.2)
      else
      Option.bind (f16F k ((x.2.2.1.1.1, (x.2.2.1.1.2.1, x.2.2.1.1.2.2)), x.2.2.1.2)) fun y12 =>
      bif (y12.2.2 != (0 : Int)) then
        some (ByteArray.empty, y12.2.1, y12.2.2)
      else
      Option.bind (f65F k (x.1, (y11.1.1, x.2.1.1.2.2), (y12.1.1, x.2.2.1.1.2.2), (x.2.2.2.1.1, (x.2.2.2.1.2.1, x.2.2.2.1.2.2)), x.2.2.2.2)) fun y13 =>
      bif (y13.2 != (0 : Int)) then
        some (ByteArray.empty, (0 : Int), y13.2)
      else
      Option.bind (f40F k ((x.2.2.2.1.1, (x.2.2.2.1.2.1, x.2.2.2.1.2.2)), (y13.1.1, y13.1.2))) fun y14 =>
      some (y14, (0 : Int), (0 : Int))
    else
    Option.bind (f64F k x.1) fun y15 =>
    Option.bind (f43F k ((!y15), (4 : Int))) fun y16 =>
    Option.bind (f28F k (x.2.1.1.1, (x.2.1.1.2.1, x.2.1.1.2.2))) fun y17 =>
    Option.bind (f28F k (x.2.2.1.1.1, (x.2.2.1.1.2.1, x.2.2.1.1.2.2))) fun y18 =>
    Option.bind (f28F k (x.2.2.2.1.1, (x.2.2.2.1.2.1, x.2.2.2.1.2.2))) fun y19 =>
    Option.bind (f43F k (true, (17 : Int))) fun y20 =>
    Option.bind (f42F k [y16, y17, y18, y19, y20]) fun y21 =>
    bif (y21 != (0 : Int)) then
      some (ByteArray.empty, (0 : Int), y21)
    else
    Option.bind (f16F k ((x.2.1.1.1, (x.2.1.1.2.1, x.2.1.1.2.2)), x.2.1.2)) fun y22 =>
    bif (y22.2.2 != (0 : Int)) then
      some (ByteArray.empty, y22.2.1, y22.2.2)
    else
    Option.bind (f16F k ((x.2.2.1.1.1, (x.2.2.1.1.2.1, x.2.2.1.1.2.2)), x.2.2.1.2)) fun y23 =>
    bif (y23.2.2 != (0 : Int)) then
      some (ByteArray.empty, y23.2.1, y23.2.2)
    else
    Option.bind (f65F k (x.1, (y22.1.1, x.2.1.1.2.2), (y23.1.1, x.2.2.1.1.2.2), (x.2.2.2.1.1, (x.2.2.2.1.2.1, x.2.2.2.1.2.2)), x.2.2.2.2)) fun y24 =>
    bif (y24.2 != (0 : Int)) then
      some (ByteArray.empty, (0 : Int), y24.2)
    else
    Option.bind (f40F k ((x.2.2.2.1.1, (x.2.2.2.1.2.1, x.2.2.2.1.2.2)), (y24.1.1, y24.1.2))) fun y25 =>
    some (y25, (0 : Int), (0 : Int))
  else
  Option.bind (f64F k x.1) fun y26 =>
  Option.bind (f43F k ((!y26), (4 : Int))) fun y27 =>
  Option.bind (f28F k (x.2.1.1.1, (x.2.1.1.2.1, x.2.1.1.2.2))) fun y28 =>
  Option.bind (f28F k (x.2.2.1.1.1, (x.2.2.1.1.2.1, x.2.2.1.1.2.2))) fun y29 =>
  Option.bind (f28F k (x.2.2.2.1.1, (x.2.2.2.1.2.1, x.2.2.2.1.2.2))) fun y30 =>
  Option.bind (f43F k (true, (17 : Int))) fun y31 =>
  Option.bind (f42F k [y27, y28, y29, y30, y31]) fun y32 =>
  bif (y32 != (0 : Int)) then
    some (ByteArray.empty, (0 : Int), y32)
  else
  Option.bind (f16F k ((x.2.1.1.1, (x.2.1.1.2.1, x.2.1.1.2.2)), x.2.1.2)) fun y33 =>
  bif (y33.2.2 != (0 : Int)) then
    some (ByteArray.empty, y33.2.1, y33.2.2)
  else
  Option.bind (f16F k ((x.2.2.1.1.1, (x.2.2.1.1.2.1, x.2.2.1.1.2.2)), x.2.2.1.2)) fun y34 =>
  bif (y34.2.2 != (0 : Int)) then
    some (ByteArray.empty, y34.2.1, y34.2.2)
  else
  Option.bind (f65F k (x.1, (y33.1.1, x.2.1.1.2.2), (y34.1.1, x.2.2.1.1.2.2), (x.2.2.2.1.1, (x.2.2.2.1.2.1, x.2.2.2.1.2.2)), x.2.2.2.2)) fun y35 =>
  bif (y35.2 != (0 : Int)) then
    some (ByteArray.empty, (0 : Int), y35.2)
  else
  Option.bind (f40F k ((x.2.2.2.1.1, (x.2.2.2.1.2.1, x.2.2.2.1.2.2)), (y35.1.1, y35.1.2))) fun y36 =>
  some (y36, (0 : Int), (0 : Int))
noncomputable def f35L (k : Nat) : Sums := []
theorem f35LS (k : Nat) : SumsOk P Go.Proofs.Try.f35.ntmps (f35L k) (codeOf Go.Proofs.Try.f35) 1 := SumsOk.nil
theorem f35E (k : Nat) (x : Int × ((Int × (Int × Int)) × ByteArray) × ((Int × (Int × Int)) × ByteArray) × (Int × (Int × Int)) × Bool) : evFS tab (f35T k) (f35L k) Go.Proofs.Try.f35.ntmps Go.Proofs.Try.f35.results.toList (codeOf Go.Proofs.Try.f35) (argsV [.dat (.int .i64), .agg (.pair (.pair (.int .i64) (.pair (.int .i64) (.int .i64))) .str), .agg (.pair (.pair (.int .i64) (.pair (.int .i64) (.int .i64))) .str), .agg (.pair (.int .i64) (.pair (.int .i64) (.int .i64))), .dat .bool] x) [.dat .str, .dat (.int .i64), .dat (.int .i64)] = f35F k x := by kernel_rfl
theorem f35Ok (k : Nat) (x : Int × ((Int × (Int × Int)) × ByteArray) × ((Int × (Int × Int)) × ByteArray) × (Int × (Int × Int)) × Bool) (y : ByteArray × Int × Int) (h : f35F k x = some y) : FnOk P 35 [.dat (.int .i64), .agg (.pair (.pair (.int .i64) (.pair (.int .i64) (.int .i64))) .str), .agg (.pair (.pair (.int .i64) (.pair (.int .i64) (.int .i64))) .str), .agg (.pair (.int .i64) (.pair (.int .i64) (.int .i64))), .dat .bool] [.dat .str, .dat (.int .i64), .dat (.int .i64)] x y :=
  evFS_sound tabOk (f35TS k) mixed Go.Proofs.Try.func35 (c := codeOf Go.Proofs.Try.f35) (by kernel_rfl) (f35LS k) ((f35E k x).trans h)
/-! ## midrange/midrangeref01.CalculatedBytes -/
noncomputable def f36T (k : Nat) : Table := [(17, entFn [.agg (.pair (.int .i64) (.pair (.int .i64) (.int .i64))), .dat .str] [.agg (.pair (.int .i64) .str), .dat (.int .i64), .dat (.int .i64)] (f17F k)), (23, entFn [.agg (.pair (.int .i64) (.pair (.pair (.int .i64) (.pair (.int .i64) (.int .i64))) .bool)), .agg (.pair (.int .i64) (.int .i64)), .agg (.pair (.int .i64) (.int .i64))] [.agg (.pair (.int .i64) .str), .dat (.int .i64)] (f23F k)), (27, entFn [.agg (.pair (.int .i64) (.pair (.int .i64) (.int .i64)))] [.dat (.int .i64)] (f27F k)), (41, entFn [.agg (.pair (.int .i64) (.pair (.int .i64) (.int .i64))), .agg (.pair (.int .i64) .str)] [.dat .str] (f41F k)), (48, entFn [.dat (.int .i64), .dat (.int .i64), .dat (.int .i64)] [.dat .bool] (f48F k)), (68, entFn [.dat (.int .i64)] [.dat .bool] (f68F k))]
theorem f36TS (k : Nat) : Sound P (f36T k) := ((((((Sound.nil).cons f68B (f68Ok k)).cons f48B (f48Ok k)).cons f41B (f41Ok k)).cons f27B (f27Ok k)).cons f23B (f23Ok k)).cons f17B (f17Ok k)
theorem f36B : HasBody P 36 := ⟨Go.Proofs.Try.f36, Go.Proofs.Try.func36, by kernel_rfl, by kernel_rfl⟩
noncomputable def f36l0H : Shape := ⟨[(3, .one (.ptr 0 0)), (4, .one (.ptr 1 0)), (5, .one (.ptr 2 0)), (6, .one (.ptr 3 0)), (7, .one (.own 4)), (8, .one (.int .i64))], [(0, .var [.int .i64, .int .i64, .int .i64, .int .i64, .bool]), (1, .var [.int .i64, .int .i64, .int .i64, .str]), (2, .var [.int .i64, .int .i64, .int .i64, .str]), (3, .var [.str, .int .i64, .int .i64]), (4, .row 23 (.pair (.int .i64) (.pair (.int .i64) (.int .i64))) .plain)], 5⟩
noncomputable def f36l0X0 : Shape := ⟨[(3, .one (.ptr 0 0)), (4, .one (.ptr 1 0)), (5, .one (.ptr 2 0)), (6, .one (.ptr 3 0)), (7, .one (.own 4))], [(0, .var [.int .i64, .int .i64, .int .i64, .int .i64, .bool]), (1, .var [.int .i64, .int .i64, .int .i64, .str]), (2, .var [.int .i64, .int .i64, .int .i64, .str]), (3, .var [.str, .int .i64, .int .i64]), (4, .row 23 (.pair (.int .i64) (.pair (.int .i64) (.int .i64))) .plain)], 5⟩
noncomputable def f36l0X1 : Shape := ⟨[(3, .one (.ptr 0 0)), (4, .one (.ptr 1 0)), (5, .one (.ptr 2 0)), (6, .one (.ptr 3 0)), (7, .one (.own 4))], [(0, .var [.int .i64, .int .i64, .int .i64, .int .i64, .bool]), (1, .var [.int .i64, .int .i64, .int .i64, .str]), (2, .var [.int .i64, .int .i64, .int .i64, .str]), (3, .var [.str, .int .i64, .int .i64]), (4, .row 23 (.pair (.int .i64) (.pair (.int .i64) (.int .i64))) .plain)], 5⟩
noncomputable def f36l0N : NoteR := ⟨[3, 4, 5, 6, 7, 8], [], []⟩
noncomputable def f36l0M : NoteR := ⟨[3, 4, 5, 6, 7], [], []⟩
noncomputable def f36l0C : Code := firstC (codesAt 122 (codeOf Go.Proofs.Try.f36) 1)
noncomputable def f36l0s {R : Type} (k : Nat) (rec : Int × Int × Int × Int × Int × Bool × Int × Int × Int × ByteArray × Int × Int × Int × ByteArray × ByteArray × Int × Int × List (Int × (Int × Int)) × Unit → Option R) (k0 : Int × Int × Int × Int × Bool × Int × Int × Int × ByteArray × Int × Int × Int × ByteArray × ByteArray × Int × Int × List (Int × (Int × Int)) × Unit → Option R) (k1 : Int × Int × Int × Int × Bool × Int × Int × Int × ByteArray × Int × Int × Int × ByteArray × ByteArray × Int × Int × List (Int × (Int × Int)) × Unit → Option R) (v : Int × Int × Int × Int × Int × Bool × Int × Int × Int × ByteArray × Int × Int × Int × ByteArray × ByteArray × Int × Int × List (Int × (Int × Int)) × Unit) : Option R :=
  bif (decide (v.1 < (v.2.2.2.2.2.2.2.2.2.2.2.2.2.2.2.2.2.1.length : Int))) then
    bif ((decide ((0 : Int) ≤ v.1)) && (decide (v.1 < (v.2.2.2.2.2.2.2.2.2.2.2.2.2.2.2.2.2.1.length : Int)))) then
    let t3 := (v.2.2.2.2.2.2.2.2.2.2.2.2.2.2.2.2.2.1.getD (Int.toNat v.1) ((0 : Int), ((0 : Int), (0 : Int)))).1
    let t4 := (v.2.2.2.2.2.2.2.2.2.2.2.2.2.2.2.2.2.1.getD (Int.toNat v.1) ((0 : Int), ((0 : Int), (0 : Int)))).2.1
    let t5 := (v.2.2.2.2.2.2.2.2.2.2.2.2.2.2.2.2.2.1.getD (Int.toNat v.1) ((0 : Int), ((0 : Int), (0 : Int)))).2.2
    Option.bind (f27F k (t3, (t4, t5))) fun y6 =>
    bif (y6 != (0 : Int)) then
      k0 (v.2.1, v.2.2.1, v.2.2.2.1, v.2.2.2.2.1, v.2.2.2.2.2.1, v.2.2.2.2.2.2.1, v.2.2.2.2.2.2.2.1, v.2.2.2.2.2.2.2.2.1, v.2.2.2.2.2.2.2.2.2.1, v.2.2.2.2.2.2.2.2.2.2.1, v.2.2.2.2.2.2.2.2.2.2.2.1, v.2.2.2.2.2.2.2.2.2.2.2.2.1, v.2.2.2.2.2.2.2.2.2.2.2.2.2.1, ByteArray.empty, (0 : Int), y6, v.2.2.2.2.2.2.2.2.2.2.2.2.2.2.2.2.2.1, ())
    else
    rec ((IntKind.i64.wrap (v.1 + (1 : Int))), v.2.1, v.2.2.1, v.2.2.2.1, v.2.2.2.2.1, v.2.2.2.2.2.1, v.2.2.2.2.2.2.1, v.2.2.2.2.2.2.2.1, v.2.2.2.2.2.2.2.2.1, v.2.2.2.2.2.2.2.2.2.1, v.2.2.2.2.2.2.2.2.2.2.1, v.2.2.2.2.2.2.2.2.2.2.2.1, v.2.2.2.2.2.2.2.2.2.2.2.2.1, v.2.2.2.2.2.2.2.2.2.2.2.2.2.1, v.2.2.2.2.2.2.2.2.2.2.2.2.2.2.1, v.2.2.2.2.2.2.2.2.2.2.2.2.2.2.2.1, v.2.2.2.2.2.2.2.2.2.2.2.2.2.2.2.2.1, v.2.2.2.2.2.2.2.2.2.2.2.2.2.2.2.2.2.1, ())
    else none
  else
  k1 (v.2.1, v.2.2.1, v.2.2.2.1, v.2.2.2.2.1, v.2.2.2.2.2.1, v.2.2.2.2.2.2.1, v.2.2.2.2.2.2.2.1, v.2.2.2.2.2.2.2.2.1, v.2.2.2.2.2.2.2.2.2.1, v.2.2.2.2.2.2.2.2.2.2.1, v.2.2.2.2.2.2.2.2.2.2.2.1, v.2.2.2.2.2.2.2.2.2.2.2.2.1, v.2.2.2.2.2.2.2.2.2.2.2.2.2.1, v.2.2.2.2.2.2.2.2.2.2.2.2.2.2.1, v.2.2.2.2.2.2.2.2.2.2.2.2.2.2.2.1, v.2.2.2.2.2.2.2.2.2.2.2.2.2.2.2.2.1, v.2.2.2.2.2.2.2.2.2.2.2.2.2.2.2.2.2.1, ())
noncomputable def f36l0 {R : Type} (k : Nat) (k0 : Int × Int × Int × Int × Bool × Int × Int × Int × ByteArray × Int × Int × Int × ByteArray × ByteArray × Int × Int × List (Int × (Int × Int)) × Unit → Option R) (k1 : Int × Int × Int × Int × Bool × Int × Int × Int × ByteArray × Int × Int × Int × ByteArray × ByteArray × Int × Int × List (Int × (Int × Int)) × Unit → Option R) (v : Int × Int × Int × Int × Int × Bool × Int × Int × Int × ByteArray × Int × Int × Int × ByteArray × ByteArray × Int × Int × List (Int × (Int × Int)) × Unit) : Option R := iterS (fun rec v => f36l0s k rec k0 k1 v) k v
noncomputable def f36l0S (k : Nat) : Sum1 := loopSum f36l0H f36l0N k (fun R rec K v => f36l0s k rec (fun w => K .ret (encSt f36l0X0 w)) (fun w => K (.exit 0) (encSt f36l0X1 w)) v)
theorem f36l0E (k : Nat) (R : Type) (rec : St → Option R) (K : X → St → Option R) (v : f36l0H.Den) : evS tab (f36T k) Go.Proofs.Try.f36.ntmps [] (bodyOf f36l0C) 244 (bodyK f36l0N f36l0M rec K) (encSt f36l0H v) = f36l0s k (fun v => rec (encSt f36l0H v)) (fun w => K .ret (encSt f36l0X0 w)) (fun w => K (.exit 0) (encSt f36l0X1 w)) v := by kernel_rfl
theorem f36l0I (k : Nat) : SumsOk P Go.Proofs.Try.f36.ntmps [] (bodyOf f36l0C) 244 := SumsOk.nil
theorem f36l0O (k : Nat) : SumOk P Go.Proofs.Try.f36.ntmps f36l0C (f36l0S k) := (show f36l0C = .loop (bodyOf f36l0C) by kernel_rfl) ▸ sum_loop tabOk (f36TS k) mixed (f36l0I k) (f36l0E k)
noncomputable def f36l1H : Shape := ⟨[(3, .one (.ptr 0 0)), (4, .one (.ptr 1 0)), (5, .one (.ptr 2 0)), (6, .one (.ptr 3 0)), (7, .one (.own 4)), (10, .one (.int .i64))], [(0, .var [.int .i64, .int .i64, .int .i64, .int .i64, .bool]), (1, .var [.int .i64, .int .i64, .int .i64, .str]), (2, .var [.int .i64, .int .i64, .int .i64, .str]), (3, .var [.str, .int .i64, .int .i64]), (4, .row 23 (.pair (.int .i64) (.pair (.int .i64) (.int .i64))) .plain)], 5⟩
noncomputable def f36l1X0 : Shape := ⟨[(3, .one (.ptr 0 0)), (4, .one (.ptr 1 0)), (5, .one (.ptr 2 0)), (6, .one (.ptr 3 0))], [(0, .var [.int .i64, .int .i64, .int .i64, .int .i64, .bool]), (1, .var [.int .i64, .int .i64, .int .i64, .str]), (2, .var [.int .i64, .int .i64, .int .i64, .str]), (3, .var [.str, .int .i64, .int .i64])], 4⟩
noncomputable def f36l1X1 : Shape := ⟨[(3, .one (.ptr 0 0)), (4, .one (.ptr 1 0)), (5, .one (.ptr 2 0)), (6, .one (.ptr 3 0))], [(0, .var [.int .i64, .int .i64, .int .i64, .int .i64, .bool]), (1, .var [.int .i64, .int .i64, .int .i64, .str]), (2, .var [.int .i64, .int .i64, .int .i64, .str]), (3, .var [.str, .int .i64, .int .i64])], 4⟩
noncomputable def f36l1N : NoteR := ⟨[3, 4, 5, 6, 7, 10], [], []⟩
noncomputable def f36l1M : NoteR := ⟨[3, 4, 5, 6], [], []⟩
noncomputable def f36l1C : Code := firstC (codesAt 250 (codeOf Go.Proofs.Try.f36) 1)
noncomputable def f36l1s {R : Type} (k : Nat) (rec : Int × Int × Int × Int × Int × Bool × Int × Int × Int × ByteArray × Int × Int × Int × ByteArray × ByteArray × Int × Int × List (Int × (Int × Int)) × Unit → Option R) (k0 : Int × Int × Int × Int × Bool × Int × Int × Int × ByteArray × Int × Int × Int × ByteArray × ByteArray × Int × Int × Unit → Option R) (k1 : Int × Int × Int × Int × Bool × Int × Int × Int × ByteArray × Int × Int × Int × ByteArray × ByteArray × Int × Int × Unit → Option R) (v : Int × Int × Int × Int × Int × Bool × Int × Int × Int × ByteArray × Int × Int × Int × ByteArray × ByteArray × Int × Int × List (Int × (Int × Int)) × Unit) : Option R :=
  bif (decide (v.1 < (v.2.2.2.2.2.2.2.2.2.2.2.2.2.2.2.2.2.1.length : Int))) then
    bif ((decide ((0 : Int) ≤ v.1)) && (decide (v.1 < (v.2.2.2.2.2.2.2.2.2.2.2.2.2.2.2.2.2.1.length : Int)))) then
    let t9 := (v.2.2.2.2.2.2.2.2.2.2.2.2.2.2.2.2.2.1.getD (Int.toNat v.1) ((0 : Int), ((0 : Int), (0 : Int)))).1
    Option.bind (f68F k t9) fun y10 =>
    bif (!y10) then
      k0 (v.2.1, v.2.2.1, v.2.2.2.1, v.2.2.2.2.1, v.2.2.2.2.2.1, v.2.2.2.2.2.2.1, v.2.2.2.2.2.2.2.1, v.2.2.2.2.2.2.2.2.1, v.2.2.2.2.2.2.2.2.2.1, v.2.2.2.2.2.2.2.2.2.2.1, v.2.2.2.2.2.2.2.2.2.2.2.1, v.2.2.2.2.2.2.2.2.2.2.2.2.1, v.2.2.2.2.2.2.2.2.2.2.2.2.2.1, ByteArray.empty, (0 : Int), (17 : Int), ())
    else
    rec ((IntKind.i64.wrap (v.1 + (1 : Int))), v.2.1, v.2.2.1, v.2.2.2.1, v.2.2.2.2.1, v.2.2.2.2.2.1, v.2.2.2.2.2.2.1, v.2.2.2.2.2.2.2.1, v.2.2.2.2.2.2.2.2.1, v.2.2.2.2.2.2.2.2.2.1, v.2.2.2.2.2.2.2.2.2.2.1, v.2.2.2.2.2.2.2.2.2.2.2.1, v.2.2.2.2.2.2.2.2.2.2.2.2.1, v.2.2.2.2.2.2.2.2.2.2.2.2.2.1, v.2.2.2.2.2.2.2.2.2.2.2.2.2.2.1, v.2.2.2.2.2.2.2.2.2.2.2.2.2.2.2.1, v.2.2.2.2.2.2.2.2.2.2.2.2.2.2.2.2.1, v.2.2.2.2.2.2.2.2.2.2.2.2.2.2.2.2.2.1, ())
    else none
  else
  k1 (v.2.1, v.2.2.1, v.2.2.2.1, v.2.2.2.2.1, v.2.2.2.2.2.1, v.2.2.2.2.2.2.1, v.2.2.2.2.2.2.2.1, v.2.2.2.2.2.2.2.2.1, v.2.2.2.2.2.2.2.2.2.1, v.2.2.2.2.2.2.2.2.2.2.1, v.2.2.2.2.2.2.2.2.2.2.2.1, v.2.2.2.2.2.2.2.2.2.2.2.2.1, v.2.2.2.2.2.2.2.2.2.2.2.2.2.1, v.2.2.2.2.2.2.2.2.2.2.2.2.2.2.1, v.2.2.2.2.2.2.2.2.2.2.2.2.2.2.2.1, v.2.2.2.2.2.2.2.2.2.2.2.2.2.2.2.2.1, ())
noncomputable def f36l1 {R : Type} (k : Nat) (k0 : Int × Int × Int × Int × Bool × Int × Int × Int × ByteArray × Int × Int × Int × ByteArray × ByteArray × Int × Int × Unit → Option R) (k1 : Int × Int × Int × Int × Bool × Int × Int × Int × ByteArray × Int × Int × Int × ByteArray × ByteArray × Int × Int × Unit → Option R) (v : Int × Int × Int × Int × Int × Bool × Int × Int × Int × ByteArray × Int × Int × Int × ByteArray × ByteArray × Int × Int × List (Int × (Int × Int)) × Unit) : Option R := iterS (fun rec v => f36l1s k rec k0 k1 v) k v
noncomputable def f36l1S (k : Nat) : Sum1 := loopSum f36l1H f36l1N k (fun R rec K v => f36l1s k rec (fun w => K .ret (encSt f36l1X0 w)) (fun w => K (.exit 2) (encSt f36l1X1 w)) v)
theorem f36l1E (k : Nat) (R : Type) (rec : St → Option R) (K : X → St → Option R) (v : f36l1H.Den) : evS tab (f36T k) Go.Proofs.Try.f36.ntmps [] (bodyOf f36l1C) 500 (bodyK f36l1N f36l1M rec K) (encSt f36l1H v) = f36l1s k (fun v => rec (encSt f36l1H v)) (fun w => K .ret (encSt f36l1X0 w)) (fun w => K (.exit 2) (encSt f36l1X1 w)) v := by kernel_rfl
theorem f36l1I (k : Nat) : SumsOk P Go.Proofs.Try.f36.ntmps [] (bodyOf f36l1C) 500 := SumsOk.nil
theorem f36l1O (k : Nat) : SumOk P Go.Proofs.Try.f36.ntmps f36l1C (f36l1S k) := (show f36l1C = .loop (bodyOf f36l1C) by kernel_rfl) ▸ sum_loop tabOk (f36TS k) mixed (f36l1I k) (f36l1E k)
noncomputable def f36F (k : Nat) (x : (Int × ((Int × (Int × Int)) × Bool)) × ((Int × (Int × Int)) × ByteArray) × ((Int × (Int × Int)) × ByteArray)) : Option ((ByteArray × (Int × Int))) :=
  Option.bind (f48F k (x.1.1, (0 : Int), (4 : Int))) fun y1 =>
  bif (!y1) then
    some (ByteArray.empty, ((0 : Int), (4 : Int)))
  else
  let t2 := [(x.2.1.1.1, (x.2.1.1.2.1, x.2.1.1.2.2)), (x.2.2.1.1, (x.2.2.1.2.1, x.2.2.1.2.2)), (x.1.2.1.1, (x.1.2.1.2.1, x.1.2.1.2.2))]
  f36l0 k
    (fun (w7 : Int × Int × Int × Int × Bool × Int × Int × Int × ByteArray × Int × Int × Int × ByteArray × ByteArray × Int × Int × List (Int × (Int × Int)) × Unit) =>
      some (w7.2.2.2.2.2.2.2.2.2.2.2.2.2.1, (w7.2.2.2.2.2.2.2.2.2.2.2.2.2.2.1, w7.2.2.2.2.2.2.2.2.2.2.2.2.2.2.2.1)))
    (fun (w8 : Int × Int × Int × Int × Bool × Int × Int × Int × ByteArray × Int × Int × Int × ByteArray × ByteArray × Int × Int × List (Int × (Int × Int)) × Unit) =>
      f36l1 k
        (fun (w11 : Int × Int × Int × Int × Bool × Int × Int × Int × ByteArray × Int × Int × Int × ByteArray × ByteArray × Int × Int × Unit) =>
          some (w11.2.2.2.2.2.2.2.2.2.2.2.2.2.1, (w11.2.2.2.2.2.2.2.2.2.2.2.2.2.2.1, w11.2.2.2.2.2.2.2.2.2.2.2.2.2.2.2.1)))
        (fun (w12 : Int × Int × Int × Int × Bool × Int × Int × Int × ByteArray × Int × Int × Int × ByteArray × ByteArray × Int × Int × Unit) =>
          Option.bind (f17F k ((w12.2.2.2.2.2.1, (w12.2.2.2.2.2.2.1, w12.2.2.2.2.2.2.2.1)), w12.2.2.2.2.2.2.2.2.1)) fun y13 =>
          bif (y13.2.2 != (0 : Int)) then
            some (ByteArray.empty, (y13.2.1, y13.2.2))
          else
          Option.bind (f17F k ((w12.2.2.2.2.2.2.2.2.2.1, (w12.2.2.2.2.2.2.2.2.2.2.1, w12.2.2.2.2.2.2.2.2.2.2.2.1)), w12.2.2.2.2.2.2.2.2.2.2.2.2.1)) fun y14 =>
          bif (y14.2.2 != (0 : Int)) then
            some (ByteArray.empty, (y14.2.1, y14.2.2))
          else
          Option.bind (f23F k ((w12.1, ((w12.2.1, (w12.2.2.1, w12.2.2.2.1)), w12.2.2.2.2.1)), (y13.1.1, w12.2.2.2.2.2.2.2.1), (y14.1.1, w12.2.2.2.2.2.2.2.2.2.2.2.1))) fun y15 =>
          bif (y15.2 != (0 : Int)) then
            some (ByteArray.empty, ((0 : Int), y15.2))
          else
          Option.bind (f41F k ((w12.2.1, (w12.2.2.1, w12.2.2.2.1)), (y15.1.1, y15.1.2))) fun y16 =>
          some (y16, ((0 : Int), (0 : Int))))
        ((0 : Int), w8.1, w8.2.1, w8.2.2.1, w8.2.2.2.1, w8.2.2.2.2.1, w8.2.2.2.2.2.1, w8.2.2.2.2.2.2.1, w8.2.2.2.2.2.2.2.1, w8.2.2.2.2.2.2.2.2.1, w8.2.2.2.2.2.2.2.2.2.1, w8.2.2.2.2.2.2.2.2.2.2.1, w8.2.2.2.2.2.2.2.2.2.2.2.1, w8.2.2.2.2.2.2.2.2.2.2.2.2.1, w8.2.2.2.2.2.2.2.2.2.2.2.2.2.1, w8.2.2.2.2.2.2.2.2.2.2.2.2.2.2.1, w8.2.2.2.2.2.2.2.2.2.2.2.2.2.2.2.1, w8.2.2.2.2.2.2.2.2.2.2.2.2.2.2.2.2.1, ()))
    ((0 : Int), x.1.1, x.1.2.1.1, x.1.2.1.2.1, x.1.2.1.2.2, x.1.2.2, x.2.1.1.1, x.2.1.1.2.1, x.2.1.1.2.2, x.2.1.2, x.2.2.1.1, x.2.2.1.2.1, x.2.2.1.2.2, x.2.2.2, ByteArray.empty, (0 : Int), (0 : Int), t2, ())
noncomputable def f36L (k : Nat) : Sums := [(122, f36l0S k), (250, f36l1S k)]
theorem f36LS (k : Nat) : SumsOk P Go.Proofs.Try.f36.ntmps (f36L k) (codeOf Go.Proofs.Try.f36) 1 := ((SumsOk.nil).cons (c := f36l1C) (by kernel_rfl) (f36l1O k)).cons (c := f36l0C) (by kernel_rfl) (f36l0O k)
theorem f36E (k : Nat) (x : (Int × ((Int × (Int × Int)) × Bool)) × ((Int × (Int × Int)) × ByteArray) × ((Int × (Int × Int)) × ByteArray)) : evFS tab (f36T k) (f36L k) Go.Proofs.Try.f36.ntmps Go.Proofs.Try.f36.results.toList (codeOf Go.Proofs.Try.f36) (argsV [.agg (.pair (.int .i64) (.pair (.pair (.int .i64) (.pair (.int .i64) (.int .i64))) .bool)), .agg (.pair (.pair (.int .i64) (.pair (.int .i64) (.int .i64))) .str), .agg (.pair (.pair (.int .i64) (.pair (.int .i64) (.int .i64))) .str)] x) [.agg (.pair .str (.pair (.int .i64) (.int .i64)))] = f36F k x := by kernel_rfl
theorem f36Ok (k : Nat) (x : (Int × ((Int × (Int × Int)) × Bool)) × ((Int × (Int × Int)) × ByteArray) × ((Int × (Int × Int)) × ByteArray)) (y : (ByteArray × (Int × Int))) (h : f36F k x = some y) : FnOk P 36 [.agg (.pair (.int .i64) (.pair (.pair (.int .i64) (.pair (.int .i64) (.int .i64))) .bool)), .agg (.pair (.pair (.int .i64) (.pair (.int .i64) (.int .i64))) .str), .agg (.pair (.pair (.int .i64) (.pair (.int .i64) (.int .i64))) .str)] [.agg (.pair .str (.pair (.int .i64) (.int .i64)))] x y :=
  evFS_sound tabOk (f36TS k) mixed Go.Proofs.Try.func36 (c := codeOf Go.Proofs.Try.f36) (by kernel_rfl) (f36LS k) ((f36E k x).trans h)
/-! ## midrange/midrangelaw01.NumericBytes -/
noncomputable def f11T (k : Nat) : Table := [(13, entFn [] [.dat .bool] (f13F k)), (35, entFn [.dat (.int .i64), .agg (.pair (.pair (.int .i64) (.pair (.int .i64) (.int .i64))) .str), .agg (.pair (.pair (.int .i64) (.pair (.int .i64) (.int .i64))) .str), .agg (.pair (.int .i64) (.pair (.int .i64) (.int .i64))), .dat .bool] [.dat .str, .dat (.int .i64), .dat (.int .i64)] (f35F k)), (36, entFn [.agg (.pair (.int .i64) (.pair (.pair (.int .i64) (.pair (.int .i64) (.int .i64))) .bool)), .agg (.pair (.pair (.int .i64) (.pair (.int .i64) (.int .i64))) .str), .agg (.pair (.pair (.int .i64) (.pair (.int .i64) (.int .i64))) .str)] [.agg (.pair .str (.pair (.int .i64) (.int .i64)))] (f36F k))]
theorem f11TS (k : Nat) : Sound P (f11T k) := (((Sound.nil).cons f36B (f36Ok k)).cons f35B (f35Ok k)).cons f13B (f13Ok k)
theorem f11B : HasBody P 11 := ⟨Go.Proofs.Try.f11, Go.Proofs.Try.func11, by kernel_rfl, by kernel_rfl⟩
noncomputable def f11F (k : Nat) (x : (Int × ((Int × (Int × Int)) × Bool)) × ((Int × (Int × Int)) × ByteArray) × ((Int × (Int × Int)) × ByteArray)) : Option (Bool) :=
  Option.bind (f13F k ()) fun y1 =>
  bif (!y1) then
    some false
  else
  bif (decide ((x.2.1.2.size : Int) > (700 : Int))) then
    some true
  else
  bif (decide ((x.2.2.2.size : Int) > (700 : Int))) then
    some true
  else
  Option.bind (f35F k (x.1.1, ((x.2.1.1.1, (x.2.1.1.2.1, x.2.1.1.2.2)), x.2.1.2), ((x.2.2.1.1, (x.2.2.1.2.1, x.2.2.1.2.2)), x.2.2.2), (x.1.2.1.1, (x.1.2.1.2.1, x.1.2.1.2.2)), x.1.2.2)) fun y2 =>
  Option.bind (f36F k ((x.1.1, ((x.1.2.1.1, (x.1.2.1.2.1, x.1.2.1.2.2)), x.1.2.2)), ((x.2.1.1.1, (x.2.1.1.2.1, x.2.1.1.2.2)), x.2.1.2), ((x.2.2.1.1, (x.2.2.1.2.1, x.2.2.1.2.2)), x.2.2.2))) fun y3 =>
  bif (y2.2.2 == y3.2.2) then
    bif (y2.2.1 == y3.2.1) then
      some (strEq y2.1 y3.1)
    else
    some false
  else
  some false
noncomputable def f11L (k : Nat) : Sums := []
theorem f11LS (k : Nat) : SumsOk P Go.Proofs.Try.f11.ntmps (f11L k) (codeOf Go.Proofs.Try.f11) 1 := SumsOk.nil
theorem f11E (k : Nat) (x : (Int × ((Int × (Int × Int)) × Bool)) × ((Int × (Int × Int)) × ByteArray) × ((Int × (Int × Int)) × ByteArray)) : evFS tab (f11T k) (f11L k) Go.Proofs.Try.f11.ntmps Go.Proofs.Try.f11.results.toList (codeOf Go.Proofs.Try.f11) (argsV [.agg (.pair (.int .i64) (.pair (.pair (.int .i64) (.pair (.int .i64) (.int .i64))) .bool)), .agg (.pair (.pair (.int .i64) (.pair (.int .i64) (.int .i64))) .str), .agg (.pair (.pair (.int .i64) (.pair (.int .i64) (.int .i64))) .str)] x) [.dat .bool] = f11F k x := by kernel_rfl
theorem f11Ok (k : Nat) (x : (Int × ((Int × (Int × Int)) × Bool)) × ((Int × (Int × Int)) × ByteArray) × ((Int × (Int × Int)) × ByteArray)) (y : Bool) (h : f11F k x = some y) : FnOk P 11 [.agg (.pair (.int .i64) (.pair (.pair (.int .i64) (.pair (.int .i64) (.int .i64))) .bool)), .agg (.pair (.pair (.int .i64) (.pair (.int .i64) (.int .i64))) .str), .agg (.pair (.pair (.int .i64) (.pair (.int .i64) (.int .i64))) .str)] [.dat .bool] x y :=
  evFS_sound tabOk (f11TS k) mixed Go.Proofs.Try.func11 (c := codeOf Go.Proofs.Try.f11) (by kernel_rfl) (f11LS k) ((f11E k x).trans h)
end Go.Proofs.Ytioagofpofamiaa
