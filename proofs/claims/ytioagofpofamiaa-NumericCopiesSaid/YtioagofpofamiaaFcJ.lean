/- What functions of the program compute: each as a plain Lean function, and that the code comes to it. Printed by gen.py. -/
import Derived.Test.YtioagofpofamiaaFbJ
import Derived.Test.YtioagofpofamiaaProg
import Derived.Test.YtioagofpofamiaaSJ
/-! Printed by gen.py: what functions compute. -/
set_option linter.unusedVariables false
set_option maxRecDepth 100000
namespace Go.Proofs.Ytioagofpofamiaa
open Go.Ab
/-! ## midrange/numeric.SizeOf -/
noncomputable def f24T (k : Nat) : Table := [(28, entFn [.agg (.pair (.int .i64) (.pair (.int .i64) (.int .i64)))] [.dat (.int .i64)] (f28F k)), (44, entFn [.agg (.pair (.int .i64) (.pair (.int .i64) (.int .i64)))] [.dat (.int .i64)] (f44F k))]
theorem f24TS (k : Nat) : Sound P (f24T k) := ((Sound.nil).cons f44B (f44Ok k)).cons f28B (f28Ok k)
theorem f24B : HasBody P 24 := ⟨Go.Proofs.Try.f24, Go.Proofs.Try.func24, by kernel_rfl, by kernel_rfl⟩
noncomputable def f24F (k : Nat) (x : (Int × (Int × Int))) : Option (Int × Int) :=
  Option.bind (f28F k (x.1, (x.2.1, x.2.2))) fun y1 =>
  bif (y1 != (0 : Int)) then
    some ((0 : Int), y1)
  else
  Option.bind (f44F k (x.1, (x.2.1, x.2.2))) fun y2 =>
  some (y2, (0 : Int))
noncomputable def f24L (k : Nat) : Sums := []
theorem f24LS (k : Nat) : SumsOk P Go.Proofs.Try.f24.ntmps (f24L k) (codeOf Go.Proofs.Try.f24) 1 := SumsOk.nil
theorem f24E (k : Nat) (x : (Int × (Int × Int))) : evFS tab (f24T k) (f24L k) Go.Proofs.Try.f24.ntmps Go.Proofs.Try.f24.results.toList (codeOf Go.Proofs.Try.f24) (argsV [.agg (.pair (.int .i64) (.pair (.int .i64) (.int .i64)))] x) [.dat (.int .i64), .dat (.int .i64)] = f24F k x := by kernel_rfl
theorem f24Ok (k : Nat) (x : (Int × (Int × Int))) (y : Int × Int) (h : f24F k x = some y) : FnOk P 24 [.agg (.pair (.int .i64) (.pair (.int .i64) (.int .i64)))] [.dat (.int .i64), .dat (.int .i64)] x y :=
  evFS_sound tabOk (f24TS k) mixed Go.Proofs.Try.func24 (c := codeOf Go.Proofs.Try.f24) (by kernel_rfl) (f24LS k) ((f24E k x).trans h)
/-! ## midrange/numeric.bound -/
noncomputable def f67T (k : Nat) : Table := [(28, entFn [.agg (.pair (.int .i64) (.pair (.int .i64) (.int .i64)))] [.dat (.int .i64)] (f28F k)), (42, entFn [.dat (.slice (.int .i64))] [.dat (.int .i64)] (f42F k)), (43, entFn [.dat .bool, .dat (.int .i64)] [.dat (.int .i64)] (f43F k)), (71, entFn [.dat (.int .i64)] [.dat (.int .i64)] (f71F k)), (73, entFn [.dat .str, .dat (.int .i64)] [.dat .str] (f73F k))]
theorem f67TS (k : Nat) : Sound P (f67T k) := (((((Sound.nil).cons f73B (f73Ok k)).cons f71B (f71Ok k)).cons f43B (f43Ok k)).cons f42B (f42Ok k)).cons f28B (f28Ok k)
theorem f67B : HasBody P 67 := ⟨Go.Proofs.Try.f67, Go.Proofs.Try.func67, by kernel_rfl, by kernel_rfl⟩
noncomputable def f67F (k : Nat) (x : (Int × (Int × Int)) × ByteArray × Int) : Option ((Int × ByteArray) × Int) :=
  Option.bind (f28F k (x.1.1, (x.1.2.1, x.1.2.2))) fun y1 =>
  Option.bind (f43F k ((x.1.1 == (4 : Int)), (17 : Int))) fun y2 =>
  Option.bind (f42F k [y1, y2]) fun y3 =>
  bif (y3 != (0 : Int)) then
    some (((0 : Int), ByteArray.empty), y3)
  else
  bif (x.1.1 == (0 : Int)) then
    Option.bind (f73F k (x.2.1, x.1.2.1)) fun y4 =>
    some (((0 : Int), y4), (0 : Int))
  else
  Option.bind (f71F k x.1.2.1) fun y5 =>
  some (((IntKind.i64.wrap (x.2.2 * (IntKind.i64.wrap (y5 - (1 : Int))))), ByteArray.empty), (0 : Int))
noncomputable def f67L (k : Nat) : Sums := []
theorem f67LS (k : Nat) : SumsOk P Go.Proofs.Try.f67.ntmps (f67L k) (codeOf Go.Proofs.Try.f67) 1 := SumsOk.nil
theorem f67E (k : Nat) (x : (Int × (Int × Int)) × ByteArray × Int) : evFS tab (f67T k) (f67L k) Go.Proofs.Try.f67.ntmps Go.Proofs.Try.f67.results.toList (codeOf Go.Proofs.Try.f67) (argsV [.agg (.pair (.int .i64) (.pair (.int .i64) (.int .i64))), .dat .str, .dat (.int .i64)] x) [.agg (.pair (.int .i64) .str), .dat (.int .i64)] = f67F k x := by kernel_rfl
theorem f67Ok (k : Nat) (x : (Int × (Int × Int)) × ByteArray × Int) (y : (Int × ByteArray) × Int) (h : f67F k x = some y) : FnOk P 67 [.agg (.pair (.int .i64) (.pair (.int .i64) (.int .i64))), .dat .str, .dat (.int .i64)] [.agg (.pair (.int .i64) .str), .dat (.int .i64)] x y :=
  evFS_sound tabOk (f67TS k) mixed Go.Proofs.Try.func67 (c := codeOf Go.Proofs.Try.f67) (by kernel_rfl) (f67LS k) ((f67E k x).trans h)
/-! ## midrange/numeric.LeastOf -/
noncomputable def f25T (k : Nat) : Table := [(67, entFn [.agg (.pair (.int .i64) (.pair (.int .i64) (.int .i64))), .dat .str, .dat (.int .i64)] [.agg (.pair (.int .i64) .str), .dat (.int .i64)] (f67F k))]
theorem f25TS (k : Nat) : Sound P (f25T k) := (Sound.nil).cons f67B (f67Ok k)
theorem f25B : HasBody P 25 := ⟨Go.Proofs.Try.f25, Go.Proofs.Try.func25, by kernel_rfl, by kernel_rfl⟩
noncomputable def f25F (k : Nat) (x : (Int × (Int × Int))) : Option ((Int × ByteArray) × Int) :=
  Option.bind (f67F k ((x.1, (x.2.1, x.2.2)), (⟨#[0]⟩ : ByteArray), (-1 : Int))) fun y1 =>
  some ((y1.1.1, y1.1.2), y1.2)
noncomputable def f25L (k : Nat) : Sums := []
theorem f25LS (k : Nat) : SumsOk P Go.Proofs.Try.f25.ntmps (f25L k) (codeOf Go.Proofs.Try.f25) 1 := SumsOk.nil
theorem f25E (k : Nat) (x : (Int × (Int × Int))) : evFS tab (f25T k) (f25L k) Go.Proofs.Try.f25.ntmps Go.Proofs.Try.f25.results.toList (codeOf Go.Proofs.Try.f25) (argsV [.agg (.pair (.int .i64) (.pair (.int .i64) (.int .i64)))] x) [.agg (.pair (.int .i64) .str), .dat (.int .i64)] = f25F k x := by kernel_rfl
theorem f25Ok (k : Nat) (x : (Int × (Int × Int))) (y : (Int × ByteArray) × Int) (h : f25F k x = some y) : FnOk P 25 [.agg (.pair (.int .i64) (.pair (.int .i64) (.int .i64)))] [.agg (.pair (.int .i64) .str), .dat (.int .i64)] x y :=
  evFS_sound tabOk (f25TS k) mixed Go.Proofs.Try.func25 (c := codeOf Go.Proofs.Try.f25) (by kernel_rfl) (f25LS k) ((f25E k x).trans h)
/-! ## midrange/numeric.GreatestOf -/
noncomputable def f26T (k : Nat) : Table := [(67, entFn [.agg (.pair (.int .i64) (.pair (.int .i64) (.int .i64))), .dat .str, .dat (.int .i64)] [.agg (.pair (.int .i64) .str), .dat (.int .i64)] (f67F k))]
theorem f26TS (k : Nat) : Sound P (f26T k) := (Sound.nil).cons f67B (f67Ok k)
theorem f26B : HasBody P 26 := ⟨Go.Proofs.Try.f26, Go.Proofs.Try.func26, by kernel_rfl, by kernel_rfl⟩
noncomputable def f26F (k : Nat) (x : (Int × (Int × Int))) : Option ((Int × ByteArray) × Int) :=
  Option.bind (f67F k ((x.1, (x.2.1, x.2.2)), (⟨#[255]⟩ : ByteArray), (1 : Int))) fun y1 =>
  some ((y1.1.1, y1.1.2), y1.2)
noncomputable def f26L (k : Nat) : Sums := []
theorem f26LS (k : Nat) : SumsOk P Go.Proofs.Try.f26.ntmps (f26L k) (codeOf Go.Proofs.Try.f26) 1 := SumsOk.nil
theorem f26E (k : Nat) (x : (Int × (Int × Int))) : evFS tab (f26T k) (f26L k) Go.Proofs.Try.f26.ntmps Go.Proofs.Try.f26.results.toList (codeOf Go.Proofs.Try.f26) (argsV [.agg (.pair (.int .i64) (.pair (.int .i64) (.int .i64)))] x) [.agg (.pair (.int .i64) .str), .dat (.int .i64)] = f26F k x := by kernel_rfl
theorem f26Ok (k : Nat) (x : (Int × (Int × Int))) (y : (Int × ByteArray) × Int) (h : f26F k x = some y) : FnOk P 26 [.agg (.pair (.int .i64) (.pair (.int .i64) (.int .i64)))] [.agg (.pair (.int .i64) .str), .dat (.int .i64)] x y :=
  evFS_sound tabOk (f26TS k) mixed Go.Proofs.Try.func26 (c := codeOf Go.Proofs.Try.f26) (by kernel_rfl) (f26LS k) ((f26E k x).trans h)
/-! ## midrange/midrangebase.Repeat -/
noncomputable def f72T (k : Nat) : Table := []
theorem f72TS (k : Nat) : Sound P (f72T k) := Sound.nil
theorem f72B : HasBody P 72 := ⟨Go.Proofs.Try.f72, Go.Proofs.Try.func72, by kernel_rfl, by kernel_rfl⟩
noncomputable def f72l0H : Shape := ⟨[(0, .one (.int .u8)), (1, .one (.int .i64)), (5, .one (.own 0)), (6, .one (.int .i64))], [(0, .row 5 (.int .u8) .plain)], 1⟩
noncomputable def f72l0X0 : Shape := ⟨[(5, .one (.own 0))], [(0, .row 5 (.int .u8) .plain)], 1⟩
noncomputable def f72l0N : NoteR := ⟨[0, 1, 5, 6], [(5, 5, (.int .u8))], []⟩
noncomputable def f72l0M : NoteR := ⟨[4, 5], [], []⟩
noncomputable def f72l0C : Code := firstC (codesAt 58 (codeOf Go.Proofs.Try.f72) 1)
noncomputable def f72l0s {R : Type} (k : Nat) (rec : Int × Int × Int × List Int × Unit → Option R) (k0 : List Int × Unit → Option R) (v : Int × Int × Int × List Int × Unit) : Option R :=
  bif (decide (v.2.2.1 < v.2.1)) then
    bif (decide ((v.2.2.2.1.length + [v.1].length) * 1 ≤ 140737488355328) && decide (v.2.2.2.1.length + [v.1].length ≤ 9223372036854775807)) then
    rec (v.1, v.2.1, (IntKind.i64.wrap (v.2.2.1 + (1 : Int))), (v.2.2.2.1 ++ [v.1]), ())
    else none
  else
  k0 (v.2.2.2.1, ())
noncomputable def f72l0 {R : Type} (k : Nat) (k0 : List Int × Unit → Option R) (v : Int × Int × Int × List Int × Unit) : Option R := iterS (fun rec v => f72l0s k rec k0 v) k v
noncomputable def f72l0S (k : Nat) : Sum1 := loopSum f72l0H f72l0N k (fun R rec K v => f72l0s k rec (fun w => K (.exit 0) (encSt f72l0X0 w)) v)
theorem f72l0E (k : Nat) (R : Type) (rec : St → Option R) (K : X → St → Option R) (v : f72l0H.Den) : evS tab (f72T k) Go.Proofs.Try.f72.ntmps [] (bodyOf f72l0C) 116 (bodyK f72l0N f72l0M rec K) (encSt f72l0H v) = f72l0s k (fun v => rec (encSt f72l0H v)) (fun w => K (.exit 0) (encSt f72l0X0 w)) v := by kernel_rfl
theorem f72l0I (k : Nat) : SumsOk P Go.Proofs.Try.f72.ntmps [] (bodyOf f72l0C) 116 := SumsOk.nil
theorem f72l0O (k : Nat) : SumOk P Go.Proofs.Try.f72.ntmps f72l0C (f72l0S k) := (show f72l0C = .loop (bodyOf f72l0C) by kernel_rfl) ▸ sum_loop tabOk (f72TS k) mixed (f72l0I k) (f72l0E k)
noncomputable def f72F (k : Nat) (x : Int × Int) : Option (ByteArray) :=
  f72l0 k
    (fun (w1 : List Int × Unit) =>
      some (strOfNums w1.1))
    (x.1, x.2, (0 : Int), [], ())
noncomputable def f72L (k : Nat) : Sums := [(58, f72l0S k)]
theorem f72LS (k : Nat) : SumsOk P Go.Proofs.Try.f72.ntmps (f72L k) (codeOf Go.Proofs.Try.f72) 1 := (SumsOk.nil).cons (c := f72l0C) (by kernel_rfl) (f72l0O k)
theorem f72E (k : Nat) (x : Int × Int) : evFS tab (f72T k) (f72L k) Go.Proofs.Try.f72.ntmps Go.Proofs.Try.f72.results.toList (codeOf Go.Proofs.Try.f72) (argsV [.dat (.int .u8), .dat (.int .i64)] x) [.dat .str] = f72F k x := by kernel_rfl
theorem f72Ok (k : Nat) (x : Int × Int) (y : ByteArray) (h : f72F k x = some y) : FnOk P 72 [.dat (.int .u8), .dat (.int .i64)] [.dat .str] x y :=
  evFS_sound tabOk (f72TS k) mixed Go.Proofs.Try.func72 (c := codeOf Go.Proofs.Try.f72) (by kernel_rfl) (f72LS k) ((f72E k x).trans h)
/-! ## midrange/midrangeref01.Least -/
noncomputable def f32T (k : Nat) : Table := [(49, entFn [.agg (.pair (.int .i64) (.pair (.int .i64) (.int .i64)))] [.dat (.int .i64)] (f49F k)), (72, entFn [.dat (.int .u8), .dat (.int .i64)] [.dat .str] (f72F k))]
theorem f32TS (k : Nat) : Sound P (f32T k) := ((Sound.nil).cons f72B (f72Ok k)).cons f49B (f49Ok k)
theorem f32B : HasBody P 32 := ⟨Go.Proofs.Try.f32, Go.Proofs.Try.func32, by kernel_rfl, by kernel_rfl⟩
noncomputable def f32F (k : Nat) (x : (Int × (Int × Int))) : Option ((Int × ByteArray)) :=
  bif (x.1 == (0 : Int)) then
    Option.bind (f72F k ((0 : Int), x.2.1)) fun y1 =>
    some ((0 : Int), y1)
  else
  Option.bind (f49F k (x.1, (x.2.1, x.2.2))) fun y2 =>
  some ((IntKind.i64.wrap (0 - y2)), ByteArray.empty)
noncomputable def f32L (k : Nat) : Sums := []
theorem f32LS (k : Nat) : SumsOk P Go.Proofs.Try.f32.ntmps (f32L k) (codeOf Go.Proofs.Try.f32) 1 := SumsOk.nil
theorem f32E (k : Nat) (x : (Int × (Int × Int))) : evFS tab (f32T k) (f32L k) Go.Proofs.Try.f32.ntmps Go.Proofs.Try.f32.results.toList (codeOf Go.Proofs.Try.f32) (argsV [.agg (.pair (.int .i64) (.pair (.int .i64) (.int .i64)))] x) [.agg (.pair (.int .i64) .str)] = f32F k x := by kernel_rfl
theorem f32Ok (k : Nat) (x : (Int × (Int × Int))) (y : (Int × ByteArray)) (h : f32F k x = some y) : FnOk P 32 [.agg (.pair (.int .i64) (.pair (.int .i64) (.int .i64)))] [.agg (.pair (.int .i64) .str)] x y :=
  evFS_sound tabOk (f32TS k) mixed Go.Proofs.Try.func32 (c := codeOf Go.Proofs.Try.f32) (by kernel_rfl) (f32LS k) ((f32E k x).trans h)
/-! ## midrange/midrangeref01.Greatest -/
noncomputable def f33T (k : Nat) : Table := [(49, entFn [.agg (.pair (.int .i64) (.pair (.int .i64) (.int .i64)))] [.dat (.int .i64)] (f49F k)), (72, entFn [.dat (.int .u8), .dat (.int .i64)] [.dat .str] (f72F k))]
theorem f33TS (k : Nat) : Sound P (f33T k) := ((Sound.nil).cons f72B (f72Ok k)).cons f49B (f49Ok k)
theorem f33B : HasBody P 33 := ⟨Go.Proofs.Try.f33, Go.Proofs.Try.func33, by kernel_rfl, by kernel_rfl⟩
noncomputable def f33F (k : Nat) (x : (Int × (Int × Int))) : Option ((Int × ByteArray)) :=
  bif (x.1 == (0 : Int)) then
    Option.bind (f72F k ((255 : Int), x.2.1)) fun y1 =>
    some ((0 : Int), y1)
  else
  Option.bind (f49F k (x.1, (x.2.1, x.2.2))) fun y2 =>
  some (y2, ByteArray.empty)
noncomputable def f33L (k : Nat) : Sums := []
theorem f33LS (k : Nat) : SumsOk P Go.Proofs.Try.f33.ntmps (f33L k) (codeOf Go.Proofs.Try.f33) 1 := SumsOk.nil
theorem f33E (k : Nat) (x : (Int × (Int × Int))) : evFS tab (f33T k) (f33L k) Go.Proofs.Try.f33.ntmps Go.Proofs.Try.f33.results.toList (codeOf Go.Proofs.Try.f33) (argsV [.agg (.pair (.int .i64) (.pair (.int .i64) (.int .i64)))] x) [.agg (.pair (.int .i64) .str)] = f33F k x := by kernel_rfl
theorem f33Ok (k : Nat) (x : (Int × (Int × Int))) (y : (Int × ByteArray)) (h : f33F k x = some y) : FnOk P 33 [.agg (.pair (.int .i64) (.pair (.int .i64) (.int .i64)))] [.agg (.pair (.int .i64) .str)] x y :=
  evFS_sound tabOk (f33TS k) mixed Go.Proofs.Try.func33 (c := codeOf Go.Proofs.Try.f33) (by kernel_rfl) (f33LS k) ((f33E k x).trans h)
/-! ## midrange/midrangelaw01.NumericTypes -/
noncomputable def f9T (k : Nat) : Table := [(13, entFn [] [.dat .bool] (f13F k)), (24, entFn [.agg (.pair (.int .i64) (.pair (.int .i64) (.int .i64)))] [.dat (.int .i64), .dat (.int .i64)] (f24F k)), (25, entFn [.agg (.pair (.int .i64) (.pair (.int .i64) (.int .i64)))] [.agg (.pair (.int .i64) .str), .dat (.int .i64)] (f25F k)), (26, entFn [.agg (.pair (.int .i64) (.pair (.int .i64) (.int .i64)))] [.agg (.pair (.int .i64) .str), .dat (.int .i64)] (f26F k)), (27, entFn [.agg (.pair (.int .i64) (.pair (.int .i64) (.int .i64)))] [.dat (.int .i64)] (f27F k)), (28, entFn [.agg (.pair (.int .i64) (.pair (.int .i64) (.int .i64)))] [.dat (.int .i64)] (f28F k)), (29, entFn [.agg (.pair (.int .i64) (.pair (.int .i64) (.int .i64))), .agg (.pair (.int .i64) .str)] [.dat (.int .i64)] (f29F k)), (30, entFn [.agg (.pair (.int .i64) (.pair (.int .i64) (.int .i64))), .agg (.pair (.int .i64) .str)] [.dat (.int .i64)] (f30F k)), (31, entFn [.agg (.pair (.int .i64) (.pair (.int .i64) (.int .i64)))] [.dat (.int .i64)] (f31F k)), (32, entFn [.agg (.pair (.int .i64) (.pair (.int .i64) (.int .i64)))] [.agg (.pair (.int .i64) .str)] (f32F k)), (33, entFn [.agg (.pair (.int .i64) (.pair (.int .i64) (.int .i64)))] [.agg (.pair (.int .i64) .str)] (f33F k))]
theorem f9TS (k : Nat) : Sound P (f9T k) := (((((((((((Sound.nil).cons f33B (f33Ok k)).cons f32B (f32Ok k)).cons f31B (f31Ok k)).cons f30B (f30Ok k)).cons f29B (f29Ok k)).cons f28B (f28Ok k)).cons f27B (f27Ok k)).cons f26B (f26Ok k)).cons f25B (f25Ok k)).cons f24B (f24Ok k)).cons f13B (f13Ok k)
theorem f9B : HasBody P 9 := ⟨Go.Proofs.Try.f9, Go.Proofs.Try.func9, by kernel_rfl, by kernel_rfl⟩
noncomputable def f9p0H : Shape := ⟨[(2, .one (.ptr 0 0)), (5, .one (.int .i64)), (7, .one (.ptr 1 0)), (8, .one (.int .i64)), (9, .one (.ptr 2 0)), (10, .one (.int .i64)), (11, .one (.int .i64))], [(0, .var [.int .i64, .int .i64, .int .i64]), (1, .var [.int .i64, .str]), (2, .var [.int .i64, .str])], 3⟩
noncomputable def f9p0X0 : Shape := ⟨[(2, .one (.ptr 0 0)), (4, .one (.bool)), (7, .one (.ptr 1 0)), (8, .one (.int .i64)), (9, .one (.ptr 2 0)), (10, .one (.int .i64)), (11, .one (.int .i64))], [(0, .var [.int .i64, .int .i64, .int .i64]), (1, .var [.int .i64, .str]), (2, .var [.int .i64, .str])], 3⟩
noncomputable def f9p0X1 : Shape := ⟨[(2, .one (.ptr 0 0)), (7, .one (.ptr 1 0)), (8, .one (.int .i64)), (9, .one (.ptr 2 0)), (10, .one (.int .i64)), (11, .one (.int .i64))], [(0, .var [.int .i64, .int .i64, .int .i64]), (1, .var [.int .i64, .str]), (2, .var [.int .i64, .str])], 3⟩
noncomputable def f9p0N : NoteR := ⟨[2, 5, 7, 8, 9, 10, 11], [], []⟩
noncomputable def f9p0M : NoteR := ⟨[2, 4, 7, 8, 9, 10, 11], [], []⟩
noncomputable def f9p0C : Code := firstC (codesAt 1022 (codeOf Go.Proofs.Try.f9) 1)
noncomputable def f9p0 {R : Type} (k : Nat) (k0 : Bool × Int × Int × Int × Int × Int × Int × Int × ByteArray × Int × ByteArray × Unit → Option R) (k1 : Int × Int × Int × Int × Int × Int × Int × ByteArray × Int × ByteArray × Unit → Option R) (v : Int × Int × Int × Int × Int × Int × Int × Int × ByteArray × Int × ByteArray × Unit) : Option R :=
  bif (v.2.2.2.1 == (0 : Int)) then
    Option.bind (f31F k (v.2.2.2.2.1, (v.2.2.2.2.2.1, v.2.2.2.2.2.2.1))) fun y9 =>
    bif (v.1 != y9) then
      k0 (false, v.2.1, v.2.2.1, v.2.2.2.1, v.2.2.2.2.1, v.2.2.2.2.2.1, v.2.2.2.2.2.2.1, v.2.2.2.2.2.2.2.1, v.2.2.2.2.2.2.2.2.1, v.2.2.2.2.2.2.2.2.2.1, v.2.2.2.2.2.2.2.2.2.2.1, ())
    else
    bif (v.2.2.2.1 != (0 : Int)) then
      bif (v.1 != (0 : Int)) then
        k0 (false, v.2.1, v.2.2.1, v.2.2.2.1, v.2.2.2.2.1, v.2.2.2.2.2.1, v.2.2.2.2.2.2.1, v.2.2.2.2.2.2.2.1, v.2.2.2.2.2.2.2.2.1, v.2.2.2.2.2.2.2.2.2.1, v.2.2.2.2.2.2.2.2.2.2.1, ())
      else
      k1 (v.2.1, v.2.2.1, v.2.2.2.1, v.2.2.2.2.1, v.2.2.2.2.2.1, v.2.2.2.2.2.2.1, v.2.2.2.2.2.2.2.1, v.2.2.2.2.2.2.2.2.1, v.2.2.2.2.2.2.2.2.2.1, v.2.2.2.2.2.2.2.2.2.2.1, ())
    else
    k1 (v.2.1, v.2.2.1, v.2.2.2.1, v.2.2.2.2.1, v.2.2.2.2.2.1, v.2.2.2.2.2.2.1, v.2.2.2.2.2.2.2.1, v.2.2.2.2.2.2.2.2.1, v.2.2.2.2.2.2.2.2.2.1, v.2.2.2.2.2.2.2.2.2.2.1, ())
  else
  bif (v.2.2.2.1 != (0 : Int)) then
    bif (v.1 != (0 : Int)) then
      k0 (false, v.2.1, v.2.2.1, v.2.2.2.1, v.2.2.2.2.1, v.2.2.2.2.2.1, v.2.2.2.2.2.2.1, v.2.2.2.2.2.2.2.1, v.2.2.2.2.2.2.2.2.1, v.2.2.2.2.2.2.2.2.2.1, v.2.2.2.2.2.2.2.2.2.2.1, ())
    else
    k1 (v.2.1, v.2.2.1, v.2.2.2.1, v.2.2.2.2.1, v.2.2.2.2.2.1, v.2.2.2.2.2.2.1, v.2.2.2.2.2.2.2.1, v.2.2.2.2.2.2.2.2.1, v.2.2.2.2.2.2.2.2.2.1, v.2.2.2.2.2.2.2.2.2.2.1, ())
  else
  k1 (v.2.1, v.2.2.1, v.2.2.2.1, v.2.2.2.2.1, v.2.2.2.2.2.1, v.2.2.2.2.2.2.1, v.2.2.2.2.2.2.2.1, v.2.2.2.2.2.2.2.2.1, v.2.2.2.2.2.2.2.2.2.1, v.2.2.2.2.2.2.2.2.2.2.1, ())
noncomputable def f9p0S (k : Nat) : Sum1 := partSum f9p0H f9p0N (fun R K v => f9p0 k (fun w => K .ret (encSt f9p0X0 w)) (fun w => K .normal (encSt f9p0X1 w)) v)
theorem f9p0E (k : Nat) (R : Type) (K : X → St → Option R) (v : f9p0H.Den) : evS tab (f9T k) Go.Proofs.Try.f9.ntmps [] f9p0C 1022 (partK f9p0M K) (encSt f9p0H v) = f9p0 k (fun w => K .ret (encSt f9p0X0 w)) (fun w => K .normal (encSt f9p0X1 w)) v := by kernel_rfl
theorem f9p0I (k : Nat) : SumsOk P Go.Proofs.Try.f9.ntmps [] f9p0C 1022 := SumsOk.nil
theorem f9p0O (k : Nat) : SumOk P Go.Proofs.Try.f9.ntmps f9p0C (f9p0S k) := sum_part tabOk (f9TS k) mixed (f9p0I k) (f9p0E k)
noncomputable def f9p1H : Shape := ⟨[(2, .one (.ptr 0 0)), (7, .one (.ptr 1 0)), (8, .one (.int .i64)), (9, .one (.ptr 2 0)), (10, .one (.int .i64)), (11, .one (.int .i64))], [(0, .var [.int .i64, .int .i64, .int .i64]), (1, .var [.int .i64, .str]), (2, .var [.int .i64, .str])], 3⟩
noncomputable def f9p1X0 : Shape := ⟨[(2, .one (.ptr 0 0)), (7, .one (.ptr 1 0)), (8, .one (.int .i64)), (9, .one (.ptr 2 0)), (10, .one (.int .i64)), (11, .one (.int .i64))], [(0, .var [.int .i64, .int .i64, .int .i64]), (1, .var [.int .i64, .str]), (2, .var [.int .i64, .str])], 3⟩
noncomputable def f9p1N : NoteR := ⟨[2, 7, 8, 9, 10, 11], [], []⟩
noncomputable def f9p1M : NoteR := ⟨[2, 4, 7, 8, 9, 10, 11], [], []⟩
noncomputable def f9p1C : Code := firstC (codesAt 2046 (codeOf Go.Proofs.Try.f9) 1)
noncomputable def f9p1 {R : Type} (k : Nat) (k0 : Int × Int × Int × Int × Int × Int × Int × ByteArray × Int × ByteArray × Unit → Option R) (v : Int × Int × Int × Int × Int × Int × Int × ByteArray × Int × ByteArray × Unit) : Option R :=
  bif (v.2.2.1 == (0 : Int)) then
    bif (v.2.2.2.1 == (4 : Int)) then
      k0 (v.1, v.2.1, (17 : Int), v.2.2.2.1, v.2.2.2.2.1, v.2.2.2.2.2.1, v.2.2.2.2.2.2.1, v.2.2.2.2.2.2.2.1, v.2.2.2.2.2.2.2.2.1, v.2.2.2.2.2.2.2.2.2.1, ())
    else
    k0 (v.1, v.2.1, v.2.2.1, v.2.2.2.1, v.2.2.2.2.1, v.2.2.2.2.2.1, v.2.2.2.2.2.2.1, v.2.2.2.2.2.2.2.1, v.2.2.2.2.2.2.2.2.1, v.2.2.2.2.2.2.2.2.2.1, ())
  else
  k0 (v.1, v.2.1, v.2.2.1, v.2.2.2.1, v.2.2.2.2.1, v.2.2.2.2.2.1, v.2.2.2.2.2.2.1, v.2.2.2.2.2.2.2.1, v.2.2.2.2.2.2.2.2.1, v.2.2.2.2.2.2.2.2.2.1, ())
noncomputable def f9p1S (k : Nat) : Sum1 := partSum f9p1H f9p1N (fun R K v => f9p1 k (fun w => K .normal (encSt f9p1X0 w)) v)
theorem f9p1E (k : Nat) (R : Type) (K : X → St → Option R) (v : f9p1H.Den) : evS tab (f9T k) Go.Proofs.Try.f9.ntmps [] f9p1C 2046 (partK f9p1M K) (encSt f9p1H v) = f9p1 k (fun w => K .normal (encSt f9p1X0 w)) v := by kernel_rfl
theorem f9p1I (k : Nat) : SumsOk P Go.Proofs.Try.f9.ntmps [] f9p1C 2046 := SumsOk.nil
theorem f9p1O (k : Nat) : SumOk P Go.Proofs.Try.f9.ntmps f9p1C (f9p1S k) := sum_part tabOk (f9TS k) mixed (f9p1I k) (f9p1E k)
noncomputable def f9F (k : Nat) (x : (Int × (Int × Int)) × (Int × ByteArray)) : Option (Bool) :=
  Option.bind (f13F k ()) fun y1 =>
  bif (!y1) then
    some false
  else
  bif (decide ((x.2.2.size : Int) > (700 : Int))) then
    some true
  else
  Option.bind (f24F k (x.1.1, (x.1.2.1, x.1.2.2))) fun y2 =>
  Option.bind (f25F k (x.1.1, (x.1.2.1, x.1.2.2))) fun y3 =>
  Option.bind (f26F k (x.1.1, (x.1.2.1, x.1.2.2))) fun y4 =>
  Option.bind (f27F k (x.1.1, (x.1.2.1, x.1.2.2))) fun y5 =>
  Option.bind (f28F k (x.1.1, (x.1.2.1, x.1.2.2))) fun y6 =>
  bif (y6 != y5) then
    some false
  else
  Option.bind (f29F k ((x.1.1, (x.1.2.1, x.1.2.2)), (x.2.1, x.2.2))) fun y7 =>
  Option.bind (f30F k ((x.1.1, (x.1.2.1, x.1.2.2)), (x.2.1, x.2.2))) fun y8 =>
  bif (y7 != y8) then
    some false
  else
  bif (y2.2 != y5) then
    some false
  else
  f9p0 k
    (fun (w10 : Bool × Int × Int × Int × Int × Int × Int × Int × ByteArray × Int × ByteArray × Unit) =>
      some w10.1)
    (fun (w11 : Int × Int × Int × Int × Int × Int × Int × ByteArray × Int × ByteArray × Unit) =>
      f9p1 k
        (fun (w12 : Int × Int × Int × Int × Int × Int × Int × ByteArray × Int × ByteArray × Unit) =>
          bif (w12.2.2.1 != (0 : Int)) then
            bif (w12.1 == w12.2.2.1) then
              bif (w12.2.1 == w12.2.2.1) then
                let t13 := ((w12.2.2.2.2.2.2.1 == (0 : Int)) && ((strEq w12.2.2.2.2.2.2.2.1 ByteArray.empty) && true))
                bif t13 then
                  let t14 := ((w12.2.2.2.2.2.2.2.2.1 == (0 : Int)) && ((strEq w12.2.2.2.2.2.2.2.2.2.1 ByteArray.empty) && true))
                  some t14
                else
                some false
              else
              some false
            else
            some false
          else
          bif (w12.1 == (0 : Int)) then
            bif (w12.2.1 == (0 : Int)) then
              Option.bind (f32F k (w12.2.2.2.1, (w12.2.2.2.2.1, w12.2.2.2.2.2.1))) fun y15 =>
              let t16 := ((w12.2.2.2.2.2.2.1 == y15.1) && ((strEq w12.2.2.2.2.2.2.2.1 y15.2) && true))
              bif t16 then
                Option.bind (f33F k (w12.2.2.2.1, (w12.2.2.2.2.1, w12.2.2.2.2.2.1))) fun y17 =>
                let t18 := ((w12.2.2.2.2.2.2.2.2.1 == y17.1) && ((strEq w12.2.2.2.2.2.2.2.2.2.1 y17.2) && true))
                some t18
              else
              some false
            else
            some false
          else
          some false)
        (w11.1, w11.2.1, w11.2.2.1, w11.2.2.2.1, w11.2.2.2.2.1, w11.2.2.2.2.2.1, w11.2.2.2.2.2.2.1, w11.2.2.2.2.2.2.2.1, w11.2.2.2.2.2.2.2.2.1, w11.2.2.2.2.2.2.2.2.2.1, ()))
    (y2.1, y3.2, y4.2, y5, x.1.1, x.1.2.1, x.1.2.2, y3.1.1, y3.1.2, y4.1.1, y4.1.2, ())
noncomputable def f9L (k : Nat) : Sums := [(1022, f9p0S k), (2046, f9p1S k)]
theorem f9LS (k : Nat) : SumsOk P Go.Proofs.Try.f9.ntmps (f9L k) (codeOf Go.Proofs.Try.f9) 1 := ((SumsOk.nil).cons (c := f9p1C) (by kernel_rfl) (f9p1O k)).cons (c := f9p0C) (by kernel_rfl) (f9p0O k)
theorem f9E (k : Nat) (x : (Int × (Int × Int)) × (Int × ByteArray)) : evFS tab (f9T k) (f9L k) Go.Proofs.Try.f9.ntmps Go.Proofs.Try.f9.results.toList (codeOf Go.Proofs.Try.f9) (argsV [.agg (.pair (.int .i64) (.pair (.int .i64) (.int .i64))), .agg (.pair (.int .i64) .str)] x) [.dat .bool] = f9F k x := by kernel_rfl
theorem f9Ok (k : Nat) (x : (Int × (Int × Int)) × (Int × ByteArray)) (y : Bool) (h : f9F k x = some y) : FnOk P 9 [.agg (.pair (.int .i64) (.pair (.int .i64) (.int .i64))), .agg (.pair (.int .i64) .str)] [.dat .bool] x y :=
  evFS_sound tabOk (f9TS k) mixed Go.Proofs.Try.func9 (c := codeOf Go.Proofs.Try.f9) (by kernel_rfl) (f9LS k) ((f9E k x).trans h)
/-! ## midrange/numeric.Copied -/
noncomputable def f37T (k : Nat) : Table := [(16, entFn [.agg (.pair (.int .i64) (.pair (.int .i64) (.int .i64))), .dat .str] [.agg (.pair (.int .i64) .str), .dat (.int .i64), .dat (.int .i64)] (f16F k)), (28, entFn [.agg (.pair (.int .i64) (.pair (.int .i64) (.int .i64)))] [.dat (.int .i64)] (f28F k)), (40, entFn [.agg (.pair (.int .i64) (.pair (.int .i64) (.int .i64))), .agg (.pair (.int .i64) .str)] [.dat .str] (f40F k)), (42, entFn [.dat (.slice (.int .i64))] [.dat (.int .i64)] (f42F k)), (43, entFn [.dat .bool, .dat (.int .i64)] [.dat (.int .i64)] (f43F k)), (53, entFn [.agg (.pair (.int .i64) (.pair (.int .i64) (.int .i64)))] [.dat .bool] (f53F k)), (54, entFn [.agg (.pair (.int .i64) (.int .i64))] [.agg (.pair .bool (.pair (.pair (.int .u64) (.pair (.int .u64) (.pair (.int .u64) (.int .u64)))) (.pair (.int .u64) (.pair (.int .u64) (.pair (.int .u64) (.int .u64))))))] (f54F k)), (55, entFn [.agg (.pair .bool (.pair (.pair (.int .u64) (.pair (.int .u64) (.pair (.int .u64) (.int .u64)))) (.pair (.int .u64) (.pair (.int .u64) (.pair (.int .u64) (.int .u64)))))), .agg (.pair (.int .i64) (.pair (.int .i64) (.int .i64))), .dat .bool] [.agg (.pair (.int .i64) .str), .dat (.int .i64)] (f55F k)), (73, entFn [.dat .str, .dat (.int .i64)] [.dat .str] (f73F k))]
theorem f37TS (k : Nat) : Sound P (f37T k) := (((((((((Sound.nil).cons f73B (f73Ok k)).cons f55B (f55Ok k)).cons f54B (f54Ok k)).cons f53B (f53Ok k)).cons f43B (f43Ok k)).cons f42B (f42Ok k)).cons f40B (f40Ok k)).cons f28B (f28Ok k)).cons f16B (f16Ok k)
theorem f37B : HasBody P 37 := ⟨Go.Proofs.Try.f37, Go.Proofs.Try.func37, by kernel_rfl, by kernel_rfl⟩
noncomputable def f37F (k : Nat) (x : ((Int × (Int × Int)) × ByteArray) × (Int × (Int × Int)) × Bool) : Option (ByteArray × Int × Int) :=
  bif (x.1.1.1 == (4 : Int)) then
    Option.bind (f28F k (x.1.1.1, (x.1.1.2.1, x.1.1.2.2))) fun y1 =>
    Option.bind (f28F k (x.2.1.1, (x.2.1.2.1, x.2.1.2.2))) fun y2 =>
    Option.bind (f43F k (true, (17 : Int))) fun y3 =>
    Option.bind (f42F k [y1, y2, y3]) fun y4 =>
    bif (y4 != (0 : Int)) then
      some (ByteArray.empty, (0 : Int), y4)
    else
    Option.bind (f16F k ((x.1.1.1, (x.1.1.2.1, x.1.1.2.2)), x.1.2)) fun y5 =>
    bif (y5.2.2 != (0 : Int)) then
      some (ByteArray.empty, y5.2.1, y5.2.2)
    else
    bif (x.2.1.1 == (0 : Int)) then
      Option.bind (f73F k ((⟨#[32]⟩ : ByteArray), x.2.1.2.1)) fun y6 =>
      bif (decide (y5.1.2.size + y6.size ≤ 9223372036854775807)) then
      bif (sliceBds (0 : Int) x.2.1.2.1 ((y5.1.2 ++ y6).size : Int)) then
      some (((y5.1.2 ++ y6).extract 0 (Int.toNat x.2.1.2.1)), (0 : Int), (0 : Int))
      else none
      else none
    else
    Option.bind (f54F k (y5.1.1, x.1.1.2.2)) fun y7 =>
    Option.bind (f55F k ((y7.1, ((y7.2.1.1, (y7.2.1.2.1, (y7.2.1.2.2.1, y7.2.1.2.2.2))), (y7.2.2.1, (y7.2.2.2.1, (y7.2.2.2.2.1, y7.2.2.2.2.2))))), (x.2.1.1, (x.2.1.2.1, x.2.1.2.2)), x.2.2)) fun y8 =>
    bif (y8.2 != (0 : Int)) then
      some (ByteArray.empty, (0 : Int), y8.2)
    else
    Option.bind (f40F k ((x.2.1.1, (x.2.1.2.1, x.2.1.2.2)), (y8.1.1, y8.1.2))) fun y9 =>
    some (y9, (0 : Int), (0 : Int))
  else
  Option.bind (f28F k (x.1.1.1, (x.1.1.2.1, x.1.1.2.2))) fun y10 =>
  Option.bind (f28F k (x.2.1.1, (x.2.1.2.1, x.2.1.2.2))) fun y11 =>
  bif (x.2.1.1 == (4 : Int)) then
    Option.bind (f43F k (true, (17 : Int))) fun y12 =>
    Option.bind (f42F k [y10, y11, y12]) fun y13 =>
    bif (y13 != (0 : Int)) then
      some (ByteArray.empty, (0 : Int), y13)
    else
    Option.bind (f16F k ((x.1.1.1, (x.1.1.2.1, x.1.1.2.2)), x.1.2)) fun y14 =>
    bif (y14.2.2 != (0 : Int)) then
      some (ByteArray.empty, y14.2.1, y14.2.2)
    else
    bif (x.2.1.1 == (0 : Int)) then
      Option.bind (f73F k ((⟨#[32]⟩ : ByteArray), x.2.1.2.1)) fun y15 =>
      bif (decide (y14.1.2.size + y15.size ≤ 9223372036854775807)) then
      bif (sliceBds (0 : Int) x.2.1.2.1 ((y14.1.2 ++ y15).size : Int)) then
      some (((y14.1.2 ++ y15).extract 0 (Int.toNat x.2.1.2.1)), (0 : Int), (0 : Int))
      else none
      else none
    else
    Option.bind (f54F k (y14.1.1, x.1.1.2.2)) fun y16 =>
    Option.bind (f55F k ((y16.1, ((y16.2.1.1, (y16.2.1.2.1, (y16.2.1.2.2.1, y16.2.1.2.2.2))), (y16.2.2.1, (y16.2.2.2.1, (y16.2.2.2.2.1, y16.2.2.2.2.2))))), (x.2.1.1, (x.2.1.2.1, x.2.1.2.2)), x.2.2)) fun y17 =>
    bif (y17.2 != (0 : Int)) then
      some (ByteArray.empty, (0 : Int), y17.2)
    else
    Option.bind (f40F k ((x.2.1.1, (x.2.1.2.1, x.2.1.2.2)), (y17.1.1, y17.1.2))) fun y18 =>
    some (y18, (0 : Int), (0 : Int))
  else
  Option.bind (f53F k (x.1.1.1, (x.1.1.2.1, x.1.1.2.2))) fun y19 =>
  Option.bind (f53F k (x.2.1.1, (x.2.1.2.1, x.2.1.2.2))) fun y20 =>
  Option.bind (f43F k ((!(y19 == y20)), (17 : Int))) fun y21 =>
  Option.bind (f42F k [y10, y11, y21]) fun y22 =>
  bif (y22 != (0 : Int)) then
    some (ByteArray.empty, (0 : Int), y22)
  else
  Option.bind (f16F k ((x.1.1.1, (x.1.1.2.1, x.1.1.2.2)), x.1.2)) fun y23 =>
  bif (y23.2.2 != (0 : Int)) then
    some (ByteArray.empty, y23.2.1, y23.2.2)
  else
  bif (x.2.1.1 == (0 : Int)) then
    Option.bind (f73F k ((⟨#[32]⟩ : ByteArray), x.2.1.2.1)) fun y24 =>
    bif (decide (y23.1.2.size + y24.size ≤ 9223372036854775807)) then
    bif (sliceBds (0 : Int) x.2.1.2.1 ((y23.1.2 ++ y24).size : Int)) then
    some (((y23.1.2 ++ y24).extract 0 (Int.toNat x.2.1.2.1)), (0 : Int), (0 : Int))
    else none
    else none
  else
  Option.bind (f54F k (y23.1.1, x.1.1.2.2)) fun y25 =>
  Option.bind (f55F k ((y25.1, ((y25.2.1.1, (y25.2.1.2.1, (y25.2.1.2.2.1, y25.2.1.2.2.2))), (y25.2.2.1, (y25.2.2.2.1, (y25.2.2.2.2.1, y25.2.2.2.2.2))))), (x.2.1.1, (x.2.1.2.1, x.2.1.2.2)), x.2.2)) fun y26 =>
  bif (y26.2 != (0 : Int)) then
    some (ByteArray.empty, (0 : Int), y26.2)
  else
  Option.bind (f40F k ((x.2.1.1, (x.2.1.2.1, x.2.1.2.2)), (y26.1.1, y26.1.2))) fun y27 =>
  some (y27, (0 : Int), (0 : Int))
noncomputable def f37L (k : Nat) : Sums := []
theorem f37LS (k : Nat) : SumsOk P Go.Proofs.Try.f37.ntmps (f37L k) (codeOf Go.Proofs.Try.f37) 1 := SumsOk.nil
theorem f37E (k : Nat) (x : ((Int × (Int × Int)) × ByteArray) × (Int × (Int × Int)) × Bool) : evFS tab (f37T k) (f37L k) Go.Proofs.Try.f37.ntmps Go.Proofs.Try.f37.results.toList (codeOf Go.Proofs.Try.f37) (argsV [.agg (.pair (.pair (.int .i64) (.pair (.int .i64) (.int .i64))) .str), .agg (.pair (.int .i64) (.pair (.int .i64) (.int .i64))), .dat .bool] x) [.dat .str, .dat (.int .i64), .dat (.int .i64)] = f37F k x := by kernel_rfl
theorem f37Ok (k : Nat) (x : ((Int × (Int × Int)) × ByteArray) × (Int × (Int × Int)) × Bool) (y : ByteArray × Int × Int) (h : f37F k x = some y) : FnOk P 37 [.agg (.pair (.pair (.int .i64) (.pair (.int .i64) (.int .i64))) .str), .agg (.pair (.int .i64) (.pair (.int .i64) (.int .i64))), .dat .bool] [.dat .str, .dat (.int .i64), .dat (.int .i64)] x y :=
  evFS_sound tabOk (f37TS k) mixed Go.Proofs.Try.func37 (c := codeOf Go.Proofs.Try.f37) (by kernel_rfl) (f37LS k) ((f37E k x).trans h)
/-! ## midrange/midrangebase.Padded -/
noncomputable def f74T (k : Nat) : Table := [(72, entFn [.dat (.int .u8), .dat (.int .i64)] [.dat .str] (f72F k))]
theorem f74TS (k : Nat) : Sound P (f74T k) := (Sound.nil).cons f72B (f72Ok k)
theorem f74B : HasBody P 74 := ⟨Go.Proofs.Try.f74, Go.Proofs.Try.func74, by kernel_rfl, by kernel_rfl⟩
noncomputable def f74F (k : Nat) (x : ByteArray × Int) : Option (ByteArray) :=
  bif (decide ((x.1.size : Int) ≥ x.2)) then
    bif (sliceBds (0 : Int) x.2 (x.1.size : Int)) then
    some (x.1.extract 0 (Int.toNat x.2))
    else none
  else
  Option.bind (f72F k ((32 : Int), (IntKind.i64.wrap (x.2 - (x.1.size : Int))))) fun y1 =>
  bif (decide (x.1.size + y1.size ≤ 9223372036854775807)) then
  some (x.1 ++ y1)
  else none
noncomputable def f74L (k : Nat) : Sums := []
theorem f74LS (k : Nat) : SumsOk P Go.Proofs.Try.f74.ntmps (f74L k) (codeOf Go.Proofs.Try.f74) 1 := SumsOk.nil
theorem f74E (k : Nat) (x : ByteArray × Int) : evFS tab (f74T k) (f74L k) Go.Proofs.Try.f74.ntmps Go.Proofs.Try.f74.results.toList (codeOf Go.Proofs.Try.f74) (argsV [.dat .str, .dat (.int .i64)] x) [.dat .str] = f74F k x := by kernel_rfl
theorem f74Ok (k : Nat) (x : ByteArray × Int) (y : ByteArray) (h : f74F k x = some y) : FnOk P 74 [.dat .str, .dat (.int .i64)] [.dat .str] x y :=
  evFS_sound tabOk (f74TS k) mixed Go.Proofs.Try.func74 (c := codeOf Go.Proofs.Try.f74) (by kernel_rfl) (f74LS k) ((f74E k x).trans h)
/-! ## midrange/midrangeref01.Copied -/
noncomputable def f38T (k : Nat) : Table := [(17, entFn [.agg (.pair (.int .i64) (.pair (.int .i64) (.int .i64))), .dat .str] [.agg (.pair (.int .i64) .str), .dat (.int .i64), .dat (.int .i64)] (f17F k)), (19, entFn [.agg (.pair (.int .i64) (.int .i64)), .agg (.pair (.int .i64) (.pair (.int .i64) (.int .i64))), .dat .bool] [.agg (.pair (.int .i64) .str), .dat (.int .i64)] (f19F k)), (27, entFn [.agg (.pair (.int .i64) (.pair (.int .i64) (.int .i64)))] [.dat (.int .i64)] (f27F k)), (41, entFn [.agg (.pair (.int .i64) (.pair (.int .i64) (.int .i64))), .agg (.pair (.int .i64) .str)] [.dat .str] (f41F k)), (74, entFn [.dat .str, .dat (.int .i64)] [.dat .str] (f74F k))]
theorem f38TS (k : Nat) : Sound P (f38T k) := (((((Sound.nil).cons f74B (f74Ok k)).cons f41B (f41Ok k)).cons f27B (f27Ok k)).cons f19B (f19Ok k)).cons f17B (f17Ok k)
theorem f38B : HasBody P 38 := ⟨Go.Proofs.Try.f38, Go.Proofs.Try.func38, by kernel_rfl, by kernel_rfl⟩
noncomputable def f38F (k : Nat) (x : ((Int × (Int × Int)) × ByteArray) × (Int × (Int × Int)) × Bool) : Option ((ByteArray × (Int × Int))) :=
  Option.bind (f27F k (x.1.1.1, (x.1.1.2.1, x.1.1.2.2))) fun y1 =>
  bif (y1 != (0 : Int)) then
    some (ByteArray.empty, ((0 : Int), y1))
  else
  Option.bind (f27F k (x.2.1.1, (x.2.1.2.1, x.2.1.2.2))) fun y2 =>
  bif (y2 != (0 : Int)) then
    some (ByteArray.empty, ((0 : Int), y2))
  else
  bif (x.1.1.1 == (4 : Int)) then
    some (ByteArray.empty, ((0 : Int), (17 : Int)))
  else
  bif (x.2.1.1 == (4 : Int)) then
    some (ByteArray.empty, ((0 : Int), (17 : Int)))
  else
  bif (!((x.1.1.1 == (0 : Int)) == (x.2.1.1 == (0 : Int)))) then
    some (ByteArray.empty, ((0 : Int), (17 : Int)))
  else
  Option.bind (f17F k ((x.1.1.1, (x.1.1.2.1, x.1.1.2.2)), x.1.2)) fun y3 =>
  bif (y3.2.2 != (0 : Int)) then
    some (ByteArray.empty, (y3.2.1, y3.2.2))
  else
  bif (x.2.1.1 == (0 : Int)) then
    Option.bind (f74F k (y3.1.2, x.2.1.2.1)) fun y4 =>
    some (y4, ((0 : Int), (0 : Int)))
  else
  Option.bind (f19F k ((y3.1.1, x.1.1.2.2), (x.2.1.1, (x.2.1.2.1, x.2.1.2.2)), x.2.2)) fun y5 =>
  bif (y5.2 != (0 : Int)) then
    some (ByteArray.empty, ((0 : Int), y5.2))
  else
  Option.bind (f41F k ((x.2.1.1, (x.2.1.2.1, x.2.1.2.2)), (y5.1.1, y5.1.2))) fun y6 =>
  some (y6, ((0 : Int), (0 : Int)))
noncomputable def f38L (k : Nat) : Sums := []
theorem f38LS (k : Nat) : SumsOk P Go.Proofs.Try.f38.ntmps (f38L k) (codeOf Go.Proofs.Try.f38) 1 := SumsOk.nil
theorem f38E (k : Nat) (x : ((Int × (Int × Int)) × ByteArray) × (Int × (Int × Int)) × Bool) : evFS tab (f38T k) (f38L k) Go.Proofs.Try.f38.ntmps Go.Proofs.Try.f38.results.toList (codeOf Go.Proofs.Try.f38) (argsV [.agg (.pair (.pair (.int .i64) (.pair (.int .i64) (.int .i64))) .str), .agg (.pair (.int .i64) (.pair (.int .i64) (.int .i64))), .dat .bool] x) [.agg (.pair .str (.pair (.int .i64) (.int .i64)))] = f38F k x := by kernel_rfl
theorem f38Ok (k : Nat) (x : ((Int × (Int × Int)) × ByteArray) × (Int × (Int × Int)) × Bool) (y : (ByteArray × (Int × Int))) (h : f38F k x = some y) : FnOk P 38 [.agg (.pair (.pair (.int .i64) (.pair (.int .i64) (.int .i64))) .str), .agg (.pair (.int .i64) (.pair (.int .i64) (.int .i64))), .dat .bool] [.agg (.pair .str (.pair (.int .i64) (.int .i64)))] x y :=
  evFS_sound tabOk (f38TS k) mixed Go.Proofs.Try.func38 (c := codeOf Go.Proofs.Try.f38) (by kernel_rfl) (f38LS k) ((f38E k x).trans h)
/-! ## midrange/midrangelaw01.NumericCopies -/
noncomputable def f12T (k : Nat) : Table := [(13, entFn [] [.dat .bool] (f13F k)), (37, entFn [.agg (.pair (.pair (.int .i64) (.pair (.int .i64) (.int .i64))) .str), .agg (.pair (.int .i64) (.pair (.int .i64) (.int .i64))), .dat .bool] [.dat .str, .dat (.int .i64), .dat (.int .i64)] (f37F k)), (38, entFn [.agg (.pair (.pair (.int .i64) (.pair (.int .i64) (.int .i64))) .str), .agg (.pair (.int .i64) (.pair (.int .i64) (.int .i64))), .dat .bool] [.agg (.pair .str (.pair (.int .i64) (.int .i64)))] (f38F k))]
theorem f12TS (k : Nat) : Sound P (f12T k) := (((Sound.nil).cons f38B (f38Ok k)).cons f37B (f37Ok k)).cons f13B (f13Ok k)
theorem f12B : HasBody P 12 := ⟨Go.Proofs.Try.f12, Go.Proofs.Try.func12, by kernel_rfl, by kernel_rfl⟩
noncomputable def f12F (k : Nat) (x : ((Int × (Int × Int)) × ByteArray) × (Int × (Int × Int)) × Bool) : Option (Bool) :=
  Option.bind (f13F k ()) fun y1 =>
  bif (!y1) then
    some false
  else
  bif (decide ((x.1.2.size : Int) > (700 : Int))) then
    some true
  else
  Option.bind (f37F k (((x.1.1.1, (x.1.1.2.1, x.1.1.2.2)), x.1.2), (x.2.1.1, (x.2.1.2.1, x.2.1.2.2)), x.2.2)) fun y2 =>
  Option.bind (f38F k (((x.1.1.1, (x.1.1.2.1, x.1.1.2.2)), x.1.2), (x.2.1.1, (x.2.1.2.1, x.2.1.2.2)), x.2.2)) fun y3 =>
  bif (y2.2.2 == y3.2.2) then
    bif (y2.2.1 == y3.2.1) then
      some (strEq y2.1 y3.1)
    else
    some false
  else
  some false
noncomputable def f12L (k : Nat) : Sums := []
theorem f12LS (k : Nat) : SumsOk P Go.Proofs.Try.f12.ntmps (f12L k) (codeOf Go.Proofs.Try.f12) 1 := SumsOk.nil
theorem f12E (k : Nat) (x : ((Int × (Int × Int)) × ByteArray) × (Int × (Int × Int)) × Bool) : evFS tab (f12T k) (f12L k) Go.Proofs.Try.f12.ntmps Go.Proofs.Try.f12.results.toList (codeOf Go.Proofs.Try.f12) (argsV [.agg (.pair (.pair (.int .i64) (.pair (.int .i64) (.int .i64))) .str), .agg (.pair (.int .i64) (.pair (.int .i64) (.int .i64))), .dat .bool] x) [.dat .bool] = f12F k x := by kernel_rfl
theorem f12Ok (k : Nat) (x : ((Int × (Int × Int)) × ByteArray) × (Int × (Int × Int)) × Bool) (y : Bool) (h : f12F k x = some y) : FnOk P 12 [.agg (.pair (.pair (.int .i64) (.pair (.int .i64) (.int .i64))) .str), .agg (.pair (.int .i64) (.pair (.int .i64) (.int .i64))), .dat .bool] [.dat .bool] x y :=
  evFS_sound tabOk (f12TS k) mixed Go.Proofs.Try.func12 (c := codeOf Go.Proofs.Try.f12) (by kernel_rfl) (f12LS k) ((f12E k x).trans h)
end Go.Proofs.Ytioagofpofamiaa
