/- What functions of the program compute: each as a plain Lean function, and that the code comes to it. Printed by gen.py. -/
import Derived.Test.YtioagofpofamiaaDoorAB
import Derived.Test.YtioagofpofamiaaDoorProg
import Derived.Test.YtioagofpofamiaaDoorSJ
/-! Printed by gen.py: what functions compute. -/
set_option linter.unusedVariables false
set_option maxRecDepth 100000
namespace Go.Proofs.YtioagofpofamiaaDoor
open Go.Ab
@[reducible] noncomputable def P : Program := Go.Proofs.Tryd.prog
def tab : Tab := [
  (3, ⟨.int .i64, 1, 8, false, some [.int .i64 0], false⟩),
  (4, ⟨.bool, 1, 1, false, some [.bool false], false⟩),
  (5, ⟨.int .u8, 1, 1, false, some [.int .u8 0], false⟩),
  (9, ⟨.str, 1, 16, false, some [.str ByteArray.empty], false⟩),
  (24, ⟨.struct [(3, 0, 1), (3, 1, 1)], 2, 16, true, some [.int .i64 0, .int .i64 0], true⟩),
  (25, ⟨.int .i64, 1, 8, false, some [.int .i64 0], false⟩),
  (29, ⟨.struct [(24, 0, 2), (3, 2, 1), (3, 3, 1)], 4, 32, true, some [.int .i64 0, .int .i64 0, .int .i64 0, .int .i64 0], true⟩),
  (43, ⟨.struct [(3, 0, 1), (3, 1, 1), (3, 2, 1)], 3, 24, true, some [.int .i64 0, .int .i64 0, .int .i64 0], true⟩),
  (45, ⟨.struct [(3, 0, 1), (9, 1, 1)], 2, 24, true, some [.int .i64 0, .str ByteArray.empty], true⟩),
  (59, ⟨.slice 5 (.int .u8), 1, 24, false, some [.emp], false⟩),
  (62, ⟨.int .u64, 1, 8, false, some [.int .u64 0], false⟩),
  (64, ⟨.array 4 62, 4, 32, true, some [.int .u64 0, .int .u64 0, .int .u64 0, .int .u64 0], false⟩),
  (78, ⟨.slice 25 (.int .i64), 1, 24, false, some [.emp], false⟩),
  (102, ⟨.slice 3 (.int .i64), 1, 24, false, some [.emp], false⟩),
  (104, ⟨.struct [(4, 0, 1), (102, 1, 1)], 2, 32, true, some [.bool false, .emp], false⟩),
  (108, ⟨.int .i8, 1, 1, false, some [.int .i8 0], false⟩)]
theorem tabOk : tabIs P tab = true := by kernel_rfl
theorem mixed : P.follows .mixedOrders = true := by kernel_rfl
/-! ## midrange/midrangebase.Digits -/
noncomputable def f233T (k : Nat) (r : Int → Option (ByteArray)) : Table := [(33, entFn [.dat (.int .i64)] [.dat .str] r)]
theorem f233B : HasBody P 33 := ⟨Go.Proofs.Tryd.f33, Go.Proofs.Tryd.func33, by kernel_rfl, by kernel_rfl⟩
theorem f233TS (k : Nat) (r : Int → Option (ByteArray)) (hr : ∀ x y, r x = some y → FnOk P 33 [.dat (.int .i64)] [.dat .str] x y) : Sound P (f233T k r) := (Sound.nil).cons f233B hr
noncomputable def f233G (k : Nat) (r : Int → Option (ByteArray)) (x : Int) : Option (ByteArray) :=
  bif (decide (x < (-9 : Int))) then
    Option.bind (r (IntKind.i64.wrap (0 - (IntKind.i64.wrap (Int.tdiv x (10 : Int)))))) fun y1 =>
    bif (decide ((⟨#[45]⟩ : ByteArray).size + y1.size ≤ 9223372036854775807)) then
    Option.bind (r (IntKind.i64.wrap (0 - (Int.tmod x (10 : Int))))) fun y2 =>
    bif (decide (((⟨#[45]⟩ : ByteArray) ++ y1).size + y2.size ≤ 9223372036854775807)) then
    some (((⟨#[45]⟩ : ByteArray) ++ y1) ++ y2)
    else none
    else none
  else
  bif (decide (x < (0 : Int))) then
    Option.bind (r (IntKind.i64.wrap (0 - x))) fun y3 =>
    bif (decide ((⟨#[45]⟩ : ByteArray).size + y3.size ≤ 9223372036854775807)) then
    some ((⟨#[45]⟩ : ByteArray) ++ y3)
    else none
  else
  bif (decide (x < (10 : Int))) then
    some (strOfNums [(IntKind.u8.wrap (IntKind.i64.wrap ((48 : Int) + x)))])
  else
  Option.bind (r (IntKind.i64.wrap (Int.tdiv x (10 : Int)))) fun y4 =>
  let t5 := (IntKind.u8.wrap (IntKind.i64.wrap ((48 : Int) + (Int.tmod x (10 : Int)))))
  bif (decide (y4.size + (strOfNums [t5]).size ≤ 9223372036854775807)) then
  some (y4 ++ (strOfNums [t5]))
  else none
theorem f233E (k : Nat) (r : Int → Option (ByteArray)) (x : Int) : evFS tab (f233T k r) [] Go.Proofs.Tryd.f33.ntmps Go.Proofs.Tryd.f33.results.toList (codeOf Go.Proofs.Tryd.f33) (argsV [.dat (.int .i64)] x) [.dat .str] = f233G k r x := by kernel_rfl
noncomputable def f233R (k : Nat) : Nat → Int → Option (ByteArray)
  | 0, _ => none
  | n + 1, x => f233G k (f233R k n) x
theorem f233Rk (k : Nat) : ∀ (n : Nat) (x : Int) (y : ByteArray), f233R k n x = some y → FnOk P 33 [.dat (.int .i64)] [.dat .str] x y
  | 0, _, _, h => by cases h
  | n + 1, x, y, h => evFS_sound tabOk (f233TS k _ (f233Rk k n)) mixed Go.Proofs.Tryd.func33 (c := codeOf Go.Proofs.Tryd.f33) (by kernel_rfl) (SumsOk.nil) ((f233E k _ x).trans h)
noncomputable def f233F (k : Nat) (x : Int) : Option (ByteArray) := f233R k k x
theorem f233Ok (k : Nat) (x : Int) (y : ByteArray) (h : f233F k x = some y) : FnOk P 33 [.dat (.int .i64)] [.dat .str] x y := f233Rk k k x y h
/-! ## math/bits.Mul64 -/
noncomputable def f111T (k : Nat) : Table := []
theorem f111TS (k : Nat) : Sound P (f111T k) := Sound.nil
theorem f111B : HasBody P 69 := ⟨Go.Proofs.Tryd.f69, Go.Proofs.Tryd.func69, by kernel_rfl, by kernel_rfl⟩
noncomputable def f111F (k : Nat) (x : Int × Int) : Option (Int × Int) :=
  let t1 := (IntKind.u64.wrap ((bits .and .u64 x.1 (4294967295 : Int)) * (bits .and .u64 x.2 (4294967295 : Int))))
  let t2 := (IntKind.u64.wrap ((shrI .u64 x.1 (32 : Int)) * (bits .and .u64 x.2 (4294967295 : Int))))
  let t3 := (bits .and .u64 (IntKind.u64.wrap (t2 + (shrI .u64 t1 (32 : Int)))) (4294967295 : Int))
  let t4 := (shrI .u64 (IntKind.u64.wrap (t2 + (shrI .u64 t1 (32 : Int)))) (32 : Int))
  let t5 := (IntKind.u64.wrap ((bits .and .u64 x.1 (4294967295 : Int)) * (shrI .u64 x.2 (32 : Int))))
  let t6 := (IntKind.u64.wrap ((shrI .u64 x.1 (32 : Int)) * (shrI .u64 x.2 (32 : Int))))
  let t7 := (IntKind.u64.wrap ((IntKind.u64.wrap (t6 + t4)) + (shrI .u64 (IntKind.u64.wrap (t3 + t5)) (32 : Int))))
  some (t7, (IntKind.u64.wrap (x.1 * x.2)))
noncomputable def f111L (k : Nat) : Sums := []
theorem f111LS (k : Nat) : SumsOk P Go.Proofs.Tryd.f69.ntmps (f111L k) (codeOf Go.Proofs.Tryd.f69) 1 := SumsOk.nil
theorem f111E (k : Nat) (x : Int × Int) : evFS tab (f111T k) (f111L k) Go.Proofs.Tryd.f69.ntmps Go.Proofs.Tryd.f69.results.toList (codeOf Go.Proofs.Tryd.f69) (argsV [.dat (.int .u64), .dat (.int .u64)] x) [.dat (.int .u64), .dat (.int .u64)] = f111F k x := by kernel_rfl
theorem f111Ok (k : Nat) (x : Int × Int) (y : Int × Int) (h : f111F k x = some y) : FnOk P 69 [.dat (.int .u64), .dat (.int .u64)] [.dat (.int .u64), .dat (.int .u64)] x y :=
  evFS_sound tabOk (f111TS k) mixed Go.Proofs.Tryd.func69 (c := codeOf Go.Proofs.Tryd.f69) (by kernel_rfl) (f111LS k) ((f111E k x).trans h)
/-! ## (midrange/numeric.wide).times -/
noncomputable def f106T (k : Nat) : Table := [(69, entFn [.dat (.int .u64), .dat (.int .u64)] [.dat (.int .u64), .dat (.int .u64)] (f111F k)), (95, add64E)]
theorem f106TS (k : Nat) : Sound P (f106T k) := ((Sound.nil).ext (add64_ok Go.Proofs.Tryd.func95 (by kernel_rfl) (by kernel_rfl) (by kernel_rfl) (by kernel_rfl))).cons f111B (f111Ok k)
theorem f106B : HasBody P 83 := ⟨Go.Proofs.Tryd.f83, Go.Proofs.Tryd.func83, by kernel_rfl, by kernel_rfl⟩
noncomputable def f106F (k : Nat) (x : (Int × (Int × (Int × Int))) × Int) : Option ((Int × (Int × (Int × Int)))) :=
  Option.bind (f111F k (x.1.1, x.2)) fun y1 =>
  bif (decide ((0 : Int) ≤ y1.2) && (decide ((0 : Int) ≤ (0 : Int)) && (decide ((0 : Int) ≤ (0 : Int)) && decide ((0 : Int) ≤ 1)))) then
  let t2 := (IntKind.u64.wrap (y1.1 + ((y1.2 + (0 : Int) + (0 : Int)) / 18446744073709551616)))
  Option.bind (f111F k (x.1.2.1, x.2)) fun y3 =>
  bif (decide ((0 : Int) ≤ y3.2) && (decide ((0 : Int) ≤ t2) && (decide ((0 : Int) ≤ (0 : Int)) && decide ((0 : Int) ≤ 1)))) then
  let t4 := (IntKind.u64.wrap (y3.1 + ((y3.2 + t2 + (0 : Int)) / 18446744073709551616)))
  Option.bind (f111F k (x.1.2.2.1, x.2)) fun y5 =>
  bif (decide ((0 : Int) ≤ y5.2) && (decide ((0 : Int) ≤ t4) && (decide ((0 : Int) ≤ (0 : Int)) && decide ((0 : Int) ≤ 1)))) then
  let t6 := (IntKind.u64.wrap (y5.1 + ((y5.2 + t4 + (0 : Int)) / 18446744073709551616)))
  Option.bind (f111F k (x.1.2.2.2, x.2)) fun y7 =>
  bif (decide ((0 : Int) ≤ y7.2) && (decide ((0 : Int) ≤ t6) && (decide ((0 : Int) ≤ (0 : Int)) && decide ((0 : Int) ≤ 1)))) then
  let t8 := (IntKind.u64.wrap (y7.1 + ((y7.2 + t6 + (0 : Int)) / 18446744073709551616)))
  some (((y1.2 + (0 : Int) + (0 : Int)) % 18446744073709551616), (((y3.2 + t2 + (0 : Int)) % 18446744073709551616), (((y5.2 + t4 + (0 : Int)) % 18446744073709551616), ((y7.2 + t6 + (0 : Int)) % 18446744073709551616))))
  else none
  else none
  else none
  else none
noncomputable def f106L (k : Nat) : Sums := []
theorem f106LS (k : Nat) : SumsOk P Go.Proofs.Tryd.f83.ntmps (f106L k) (codeOf Go.Proofs.Tryd.f83) 1 := SumsOk.nil
theorem f106E (k : Nat) (x : (Int × (Int × (Int × Int))) × Int) : evFS tab (f106T k) (f106L k) Go.Proofs.Tryd.f83.ntmps Go.Proofs.Tryd.f83.results.toList (codeOf Go.Proofs.Tryd.f83) (argsV [.agg (.pair (.int .u64) (.pair (.int .u64) (.pair (.int .u64) (.int .u64)))), .dat (.int .u64)] x) [.agg (.pair (.int .u64) (.pair (.int .u64) (.pair (.int .u64) (.int .u64))))] = f106F k x := by kernel_rfl
theorem f106Ok (k : Nat) (x : (Int × (Int × (Int × Int))) × Int) (y : (Int × (Int × (Int × Int)))) (h : f106F k x = some y) : FnOk P 83 [.agg (.pair (.int .u64) (.pair (.int .u64) (.pair (.int .u64) (.int .u64)))), .dat (.int .u64)] [.agg (.pair (.int .u64) (.pair (.int .u64) (.pair (.int .u64) (.int .u64))))] x y :=
  evFS_sound tabOk (f106TS k) mixed Go.Proofs.Tryd.func83 (c := codeOf Go.Proofs.Tryd.f83) (by kernel_rfl) (f106LS k) ((f106E k x).trans h)
/-! ## (midrange/numeric.wide).compare -/
noncomputable def f63T (k : Nat) : Table := []
theorem f63TS (k : Nat) : Sound P (f63T k) := Sound.nil
theorem f63B : HasBody P 27 := ⟨Go.Proofs.Tryd.f27, Go.Proofs.Tryd.func27, by kernel_rfl, by kernel_rfl⟩
noncomputable def f63F (k : Nat) (x : (Int × (Int × (Int × Int))) × (Int × (Int × (Int × Int)))) : Option (Int) :=
  bif (decide (x.1.2.2.2 < x.2.2.2.2)) then
    some (-1 : Int)
  else
  bif (decide (x.1.2.2.2 > x.2.2.2.2)) then
    some (1 : Int)
  else
  bif (decide (x.1.2.2.1 < x.2.2.2.1)) then
    some (-1 : Int)
  else
  bif (decide (x.1.2.2.1 > x.2.2.2.1)) then
    some (1 : Int)
  else
  bif (decide (x.1.2.1 < x.2.2.1)) then
    some (-1 : Int)
  else
  bif (decide (x.1.2.1 > x.2.2.1)) then
    some (1 : Int)
  else
  bif (decide (x.1.1 < x.2.1)) then
    some (-1 : Int)
  else
  bif (decide (x.1.1 > x.2.1)) then
    some (1 : Int)
  else
  some (0 : Int)
noncomputable def f63L (k : Nat) : Sums := []
theorem f63LS (k : Nat) : SumsOk P Go.Proofs.Tryd.f27.ntmps (f63L k) (codeOf Go.Proofs.Tryd.f27) 1 := SumsOk.nil
theorem f63E (k : Nat) (x : (Int × (Int × (Int × Int))) × (Int × (Int × (Int × Int)))) : evFS tab (f63T k) (f63L k) Go.Proofs.Tryd.f27.ntmps Go.Proofs.Tryd.f27.results.toList (codeOf Go.Proofs.Tryd.f27) (argsV [.agg (.pair (.int .u64) (.pair (.int .u64) (.pair (.int .u64) (.int .u64)))), .agg (.pair (.int .u64) (.pair (.int .u64) (.pair (.int .u64) (.int .u64))))] x) [.dat (.int .i64)] = f63F k x := by kernel_rfl
theorem f63Ok (k : Nat) (x : (Int × (Int × (Int × Int))) × (Int × (Int × (Int × Int)))) (y : Int) (h : f63F k x = some y) : FnOk P 27 [.agg (.pair (.int .u64) (.pair (.int .u64) (.pair (.int .u64) (.int .u64)))), .agg (.pair (.int .u64) (.pair (.int .u64) (.pair (.int .u64) (.int .u64))))] [.dat (.int .i64)] x y :=
  evFS_sound tabOk (f63TS k) mixed Go.Proofs.Tryd.func27 (c := codeOf Go.Proofs.Tryd.f27) (by kernel_rfl) (f63LS k) ((f63E k x).trans h)
/-! ## midrange/midrangelaw01.packed -/
noncomputable def f39T (k : Nat) : Table := []
theorem f39TS (k : Nat) : Sound P (f39T k) := Sound.nil
theorem f39B : HasBody P 18 := ⟨Go.Proofs.Tryd.f18, Go.Proofs.Tryd.func18, by kernel_rfl, by kernel_rfl⟩
noncomputable def f39F (k : Nat) (x : Unit) : Option ((Int × (Int × Int))) :=
  some ((1 : Int), ((5 : Int), (2 : Int)))
noncomputable def f39L (k : Nat) : Sums := []
theorem f39LS (k : Nat) : SumsOk P Go.Proofs.Tryd.f18.ntmps (f39L k) (codeOf Go.Proofs.Tryd.f18) 1 := SumsOk.nil
theorem f39E (k : Nat) (x : Unit) : evFS tab (f39T k) (f39L k) Go.Proofs.Tryd.f18.ntmps Go.Proofs.Tryd.f18.results.toList (codeOf Go.Proofs.Tryd.f18) (argsV [] x) [.agg (.pair (.int .i64) (.pair (.int .i64) (.int .i64)))] = f39F k x := by kernel_rfl
theorem f39Ok (k : Nat) (x : Unit) (y : (Int × (Int × Int))) (h : f39F k x = some y) : FnOk P 18 [] [.agg (.pair (.int .i64) (.pair (.int .i64) (.int .i64)))] x y :=
  evFS_sound tabOk (f39TS k) mixed Go.Proofs.Tryd.func18 (c := codeOf Go.Proofs.Tryd.f18) (by kernel_rfl) (f39LS k) ((f39E k x).trans h)
/-! ## midrange/numeric.in -/
noncomputable def f70T (k : Nat) : Table := []
theorem f70TS (k : Nat) : Sound P (f70T k) := Sound.nil
theorem f70B : HasBody P 31 := ⟨Go.Proofs.Tryd.f31, Go.Proofs.Tryd.func31, by kernel_rfl, by kernel_rfl⟩
noncomputable def f70F (k : Nat) (x : Int × Int × Int) : Option (Bool) :=
  bif (decide (x.2.1 ≤ x.1)) then
    some (decide (x.1 ≤ x.2.2))
  else
  some false
noncomputable def f70L (k : Nat) : Sums := []
theorem f70LS (k : Nat) : SumsOk P Go.Proofs.Tryd.f31.ntmps (f70L k) (codeOf Go.Proofs.Tryd.f31) 1 := SumsOk.nil
theorem f70E (k : Nat) (x : Int × Int × Int) : evFS tab (f70T k) (f70L k) Go.Proofs.Tryd.f31.ntmps Go.Proofs.Tryd.f31.results.toList (codeOf Go.Proofs.Tryd.f31) (argsV [.dat (.int .i64), .dat (.int .i64), .dat (.int .i64)] x) [.dat .bool] = f70F k x := by kernel_rfl
theorem f70Ok (k : Nat) (x : Int × Int × Int) (y : Bool) (h : f70F k x = some y) : FnOk P 31 [.dat (.int .i64), .dat (.int .i64), .dat (.int .i64)] [.dat .bool] x y :=
  evFS_sound tabOk (f70TS k) mixed Go.Proofs.Tryd.func31 (c := codeOf Go.Proofs.Tryd.f31) (by kernel_rfl) (f70LS k) ((f70E k x).trans h)
/-! ## midrange/numeric.cond -/
noncomputable def f43T (k : Nat) : Table := []
theorem f43TS (k : Nat) : Sound P (f43T k) := Sound.nil
theorem f43B : HasBody P 20 := ⟨Go.Proofs.Tryd.f20, Go.Proofs.Tryd.func20, by kernel_rfl, by kernel_rfl⟩
noncomputable def f43F (k : Nat) (x : Bool × Int) : Option (Int) :=
  bif x.1 then
    some x.2
  else
  some (0 : Int)
noncomputable def f43L (k : Nat) : Sums := []
theorem f43LS (k : Nat) : SumsOk P Go.Proofs.Tryd.f20.ntmps (f43L k) (codeOf Go.Proofs.Tryd.f20) 1 := SumsOk.nil
theorem f43E (k : Nat) (x : Bool × Int) : evFS tab (f43T k) (f43L k) Go.Proofs.Tryd.f20.ntmps Go.Proofs.Tryd.f20.results.toList (codeOf Go.Proofs.Tryd.f20) (argsV [.dat .bool, .dat (.int .i64)] x) [.dat (.int .i64)] = f43F k x := by kernel_rfl
theorem f43Ok (k : Nat) (x : Bool × Int) (y : Int) (h : f43F k x = some y) : FnOk P 20 [.dat .bool, .dat (.int .i64)] [.dat (.int .i64)] x y :=
  evFS_sound tabOk (f43TS k) mixed Go.Proofs.Tryd.func20 (c := codeOf Go.Proofs.Tryd.f20) (by kernel_rfl) (f43LS k) ((f43E k x).trans h)
/-! ## midrange/numeric.first -/
noncomputable def f42T (k : Nat) : Table := []
theorem f42TS (k : Nat) : Sound P (f42T k) := Sound.nil
theorem f42B : HasBody P 19 := ⟨Go.Proofs.Tryd.f19, Go.Proofs.Tryd.func19, by kernel_rfl, by kernel_rfl⟩
noncomputable def f42l0H : Shape := ⟨[(5, .one (.ro (.int .i64))), (6, .one (.int .i64)), (7, .one (.int .i64))], [], 0⟩
noncomputable def f42l0X0 : Shape := ⟨[(2, .one (.int .i64))], [], 0⟩
noncomputable def f42l0X1 : Shape := ⟨[], [], 0⟩
noncomputable def f42l0N : NoteR := ⟨[5, 6, 7], [], []⟩
noncomputable def f42l0M : NoteR := ⟨[2], [], []⟩
noncomputable def f42l0C : Code := firstC (codesAt 26 (codeOf Go.Proofs.Tryd.f19) 1)
noncomputable def f42l0s {R : Type} (k : Nat) (rec : List Int × Int × Int × Unit → Option R) (k0 : Int × Unit → Option R) (k1 : Unit → Option R) (v : List Int × Int × Int × Unit) : Option R :=
  bif (decide (v.2.2.1 < v.2.1)) then
    bif ((decide ((0 : Int) ≤ v.2.2.1)) && (decide (v.2.2.1 < (v.1.length : Int)))) then
    bif ((v.1.getD (Int.toNat v.2.2.1) (0 : Int)) != (0 : Int)) then
      k0 ((v.1.getD (Int.toNat v.2.2.1) (0 : Int)), ())
    else
    rec (v.1, v.2.1, (IntKind.i64.wrap (v.2.2.1 + (1 : Int))), ())
    else none
  else
  k1 (())
noncomputable def f42l0 {R : Type} (k : Nat) (k0 : Int × Unit → Option R) (k1 : Unit → Option R) (v : List Int × Int × Int × Unit) : Option R := iterS (fun rec v => f42l0s k rec k0 k1 v) k v
noncomputable def f42l0S (k : Nat) : Sum1 := loopSum f42l0H f42l0N k (fun R rec K v => f42l0s k rec (fun w => K .ret (encSt f42l0X0 w)) (fun w => K (.exit 0) (encSt f42l0X1 w)) v)
theorem f42l0E (k : Nat) (R : Type) (rec : St → Option R) (K : X → St → Option R) (v : f42l0H.Den) : evS tab (f42T k) Go.Proofs.Tryd.f19.ntmps [] (bodyOf f42l0C) 52 (bodyK f42l0N f42l0M rec K) (encSt f42l0H v) = f42l0s k (fun v => rec (encSt f42l0H v)) (fun w => K .ret (encSt f42l0X0 w)) (fun w => K (.exit 0) (encSt f42l0X1 w)) v := by kernel_rfl
theorem f42l0I (k : Nat) : SumsOk P Go.Proofs.Tryd.f19.ntmps [] (bodyOf f42l0C) 52 := SumsOk.nil
theorem f42l0O (k : Nat) : SumOk P Go.Proofs.Tryd.f19.ntmps f42l0C (f42l0S k) := (show f42l0C = .loop (bodyOf f42l0C) by kernel_rfl) ▸ sum_loop tabOk (f42TS k) mixed (f42l0I k) (f42l0E k)
noncomputable def f42F (k : Nat) (x : (List Int)) : Option (Int) :=
  f42l0 k
    (fun (w1 : Int × Unit) =>
      some w1.1)
    (fun (w2 : Unit) =>
      some (0 : Int))
    (x, (x.length : Int), (0 : Int), ())
noncomputable def f42L (k : Nat) : Sums := [(26, f42l0S k)]
theorem f42LS (k : Nat) : SumsOk P Go.Proofs.Tryd.f19.ntmps (f42L k) (codeOf Go.Proofs.Tryd.f19) 1 := (SumsOk.nil).cons (c := f42l0C) (by kernel_rfl) (f42l0O k)
theorem f42E (k : Nat) (x : (List Int)) : evFS tab (f42T k) (f42L k) Go.Proofs.Tryd.f19.ntmps Go.Proofs.Tryd.f19.results.toList (codeOf Go.Proofs.Tryd.f19) (argsV [.dat (.slice (.int .i64))] x) [.dat (.int .i64)] = f42F k x := by kernel_rfl
theorem f42Ok (k : Nat) (x : (List Int)) (y : Int) (h : f42F k x = some y) : FnOk P 19 [.dat (.slice (.int .i64))] [.dat (.int .i64)] x y :=
  evFS_sound tabOk (f42TS k) mixed Go.Proofs.Tryd.func19 (c := codeOf Go.Proofs.Tryd.f19) (by kernel_rfl) (f42LS k) ((f42E k x).trans h)
/-! ## midrange/numeric.CheckType -/
noncomputable def f28T (k : Nat) : Table := [(19, entFn [.dat (.slice (.int .i64))] [.dat (.int .i64)] (f42F k)), (20, entFn [.dat .bool, .dat (.int .i64)] [.dat (.int .i64)] (f43F k)), (31, entFn [.dat (.int .i64), .dat (.int .i64), .dat (.int .i64)] [.dat .bool] (f70F k))]
theorem f28TS (k : Nat) : Sound P (f28T k) := (((Sound.nil).cons f70B (f70Ok k)).cons f43B (f43Ok k)).cons f42B (f42Ok k)
theorem f28B : HasBody P 35 := ⟨Go.Proofs.Tryd.f35, Go.Proofs.Tryd.func35, by kernel_rfl, by kernel_rfl⟩
noncomputable def f28p0H : Shape := ⟨[(1, .one (.ptr 0 0)), (4, .one (.bool)), (9, .one (.int .i64))], [(0, .var [.int .i64, .int .i64, .int .i64])], 1⟩
noncomputable def f28p0X0 : Shape := ⟨[(1, .one (.ptr 0 0)), (4, .one (.bool)), (9, .one (.int .i64)), (15, .one (.bool))], [(0, .var [.int .i64, .int .i64, .int .i64])], 1⟩
noncomputable def f28p0N : NoteR := ⟨[1, 4, 9], [], []⟩
noncomputable def f28p0M : NoteR := ⟨[1, 2, 4, 9, 15], [], []⟩
noncomputable def f28p0C : Code := firstC (codesAt 470 (codeOf Go.Proofs.Tryd.f35) 1)
noncomputable def f28p0 {R : Type} (k : Nat) (k0 : Bool × Int × Bool × Int × Int × Int × Unit → Option R) (v : Bool × Int × Int × Int × Int × Unit) : Option R :=
  bif (v.2.1 == (1 : Int)) then
    k0 (v.1, v.2.1, (v.2.1 == (1 : Int)), v.2.2.1, v.2.2.2.1, v.2.2.2.2.1, ())
  else
  k0 (v.1, v.2.1, (v.2.1 == (2 : Int)), v.2.2.1, v.2.2.2.1, v.2.2.2.2.1, ())
noncomputable def f28p0S (k : Nat) : Sum1 := partSum f28p0H f28p0N (fun R K v => f28p0 k (fun w => K .normal (encSt f28p0X0 w)) v)
theorem f28p0E (k : Nat) (R : Type) (K : X → St → Option R) (v : f28p0H.Den) : evS tab (f28T k) Go.Proofs.Tryd.f35.ntmps [] f28p0C 470 (partK f28p0M K) (encSt f28p0H v) = f28p0 k (fun w => K .normal (encSt f28p0X0 w)) v := by kernel_rfl
theorem f28p0I (k : Nat) : SumsOk P Go.Proofs.Tryd.f35.ntmps [] f28p0C 470 := SumsOk.nil
theorem f28p0O (k : Nat) : SumOk P Go.Proofs.Tryd.f35.ntmps f28p0C (f28p0S k) := sum_part tabOk (f28TS k) mixed (f28p0I k) (f28p0E k)
noncomputable def f28p1H : Shape := ⟨[(1, .one (.ptr 0 0)), (4, .one (.bool))], [(0, .var [.int .i64, .int .i64, .int .i64])], 1⟩
noncomputable def f28p1X0 : Shape := ⟨[(3, .one (.bool)), (4, .one (.bool))], [], 0⟩
noncomputable def f28p1X1 : Shape := ⟨[(2, .one (.int .i64)), (4, .one (.bool))], [], 0⟩
noncomputable def f28p1N : NoteR := ⟨[1, 4], [], []⟩
noncomputable def f28p1M : NoteR := ⟨[2, 3, 4], [], []⟩
noncomputable def f28p1C : Code := firstC (codesAt 14 (codeOf Go.Proofs.Tryd.f35) 1)
noncomputable def f28p1 {R : Type} (k : Nat) (k0 : Bool × Bool × Unit → Option R) (k1 : Int × Bool × Unit → Option R) (v : Bool × Int × Int × Int × Unit) : Option R :=
  bif (v.2.1 == (0 : Int)) then
    Option.bind (f70F k (v.2.2.1, (1 : Int), (256 : Int))) fun y1 =>
    k0 (y1, v.1, ())
  else
  f28p0 k
    (fun (w2 : Bool × Int × Bool × Int × Int × Int × Unit) =>
      bif w2.2.2.1 then
        Option.bind (f70F k (w2.2.2.2.2.1, (1 : Int), (15 : Int))) fun y3 =>
        Option.bind (f70F k (w2.2.2.2.2.2.1, (0 : Int), w2.2.2.2.2.1)) fun y4 =>
        k0 (y3, y4, ())
      else
      bif (w2.2.1 == (3 : Int)) then
        bif (w2.2.2.2.2.1 == (4 : Int)) then
          Option.bind (f70F k (w2.2.2.2.2.2.1, (0 : Int), w2.2.2.2.2.1)) fun y5 =>
          k0 (true, y5, ())
        else
        Option.bind (f70F k (w2.2.2.2.2.2.1, (0 : Int), w2.2.2.2.2.1)) fun y6 =>
        k0 ((w2.2.2.2.2.1 == (9 : Int)), y6, ())
      else
      bif (w2.2.1 == (4 : Int)) then
        k0 ((w2.2.2.2.2.1 == (0 : Int)), w2.1, ())
      else
      k1 ((4 : Int), w2.1, ()))
    (v.1, v.2.1, v.2.1, v.2.2.1, v.2.2.2.1, ())
noncomputable def f28p1S (k : Nat) : Sum1 := partSum f28p1H f28p1N (fun R K v => f28p1 k (fun w => K .normal (encSt f28p1X0 w)) (fun w => K .ret (encSt f28p1X1 w)) v)
theorem f28p1E (k : Nat) (R : Type) (K : X → St → Option R) (v : f28p1H.Den) : evS tab (f28T k) Go.Proofs.Tryd.f35.ntmps [(470, f28p0S k)] f28p1C 14 (partK f28p1M K) (encSt f28p1H v) = f28p1 k (fun w => K .normal (encSt f28p1X0 w)) (fun w => K .ret (encSt f28p1X1 w)) v := by kernel_rfl
theorem f28p1I (k : Nat) : SumsOk P Go.Proofs.Tryd.f35.ntmps [(470, f28p0S k)] f28p1C 14 := (SumsOk.nil).cons (c := f28p0C) (by kernel_rfl) (f28p0O k)
theorem f28p1O (k : Nat) : SumOk P Go.Proofs.Tryd.f35.ntmps f28p1C (f28p1S k) := sum_part tabOk (f28TS k) mixed (f28p1I k) (f28p1E k)
noncomputable def f28F (k : Nat) (x : (Int × (Int × Int))) : Option (Int) :=
  f28p1 k
    (fun (w7 : Bool × Bool × Unit) =>
      Option.bind (f43F k ((!w7.1), (18 : Int))) fun y8 =>
      Option.bind (f43F k ((!w7.2.1), (3 : Int))) fun y9 =>
      Option.bind (f42F k [y8, y9]) fun y10 =>
      some y10)
    (fun (w11 : Int × Bool × Unit) =>
      some w11.1)
    ((x.2.2 == (0 : Int)), x.1, x.2.1, x.2.2, ())
noncomputable def f28L (k : Nat) : Sums := [(470, f28p0S k), (14, f28p1S k)]
theorem f28LS (k : Nat) : SumsOk P Go.Proofs.Tryd.f35.ntmps (f28L k) (codeOf Go.Proofs.Tryd.f35) 1 := ((SumsOk.nil).cons (c := f28p1C) (by kernel_rfl) (f28p1O k)).cons (c := f28p0C) (by kernel_rfl) (f28p0O k)
theorem f28E (k : Nat) (x : (Int × (Int × Int))) : evFS tab (f28T k) (f28L k) Go.Proofs.Tryd.f35.ntmps Go.Proofs.Tryd.f35.results.toList (codeOf Go.Proofs.Tryd.f35) (argsV [.agg (.pair (.int .i64) (.pair (.int .i64) (.int .i64)))] x) [.dat (.int .i64)] = f28F k x := by kernel_rfl
theorem f28Ok (k : Nat) (x : (Int × (Int × Int))) (y : Int) (h : f28F k x = some y) : FnOk P 35 [.agg (.pair (.int .i64) (.pair (.int .i64) (.int .i64)))] [.dat (.int .i64)] x y :=
  evFS_sound tabOk (f28TS k) mixed Go.Proofs.Tryd.func35 (c := codeOf Go.Proofs.Tryd.f35) (by kernel_rfl) (f28LS k) ((f28E k x).trans h)
/-! ## midrange/numeric.power -/
noncomputable def f71T (k : Nat) : Table := []
theorem f71TS (k : Nat) : Sound P (f71T k) := Sound.nil
theorem f71B : HasBody P 40 := ⟨Go.Proofs.Tryd.f40, Go.Proofs.Tryd.func40, by kernel_rfl, by kernel_rfl⟩
noncomputable def f71l0H : Shape := ⟨[(3, .one (.int .i64)), (5, .one (.int .i64)), (6, .one (.int .i64))], [], 0⟩
noncomputable def f71l0X0 : Shape := ⟨[(3, .one (.int .i64))], [], 0⟩
noncomputable def f71l0N : NoteR := ⟨[3, 5, 6], [], []⟩
noncomputable def f71l0M : NoteR := ⟨[2, 3], [], []⟩
noncomputable def f71l0C : Code := firstC (codesAt 58 (codeOf Go.Proofs.Tryd.f40) 1)
noncomputable def f71l0s {R : Type} (k : Nat) (rec : Int × Int × Int × Unit → Option R) (k0 : Int × Unit → Option R) (v : Int × Int × Int × Unit) : Option R :=
  bif (decide (v.2.2.1 < v.2.1)) then
    rec ((IntKind.i64.wrap (v.1 * (10 : Int))), v.2.1, (IntKind.i64.wrap (v.2.2.1 + (1 : Int))), ())
  else
  k0 (v.1, ())
noncomputable def f71l0 {R : Type} (k : Nat) (k0 : Int × Unit → Option R) (v : Int × Int × Int × Unit) : Option R := iterS (fun rec v => f71l0s k rec k0 v) k v
noncomputable def f71l0S (k : Nat) : Sum1 := loopSum f71l0H f71l0N k (fun R rec K v => f71l0s k rec (fun w => K (.exit 0) (encSt f71l0X0 w)) v)
theorem f71l0E (k : Nat) (R : Type) (rec : St → Option R) (K : X → St → Option R) (v : f71l0H.Den) : evS tab (f71T k) Go.Proofs.Tryd.f40.ntmps [] (bodyOf f71l0C) 116 (bodyK f71l0N f71l0M rec K) (encSt f71l0H v) = f71l0s k (fun v => rec (encSt f71l0H v)) (fun w => K (.exit 0) (encSt f71l0X0 w)) v := by kernel_rfl
theorem f71l0I (k : Nat) : SumsOk P Go.Proofs.Tryd.f40.ntmps [] (bodyOf f71l0C) 116 := SumsOk.nil
theorem f71l0O (k : Nat) : SumOk P Go.Proofs.Tryd.f40.ntmps f71l0C (f71l0S k) := (show f71l0C = .loop (bodyOf f71l0C) by kernel_rfl) ▸ sum_loop tabOk (f71TS k) mixed (f71l0I k) (f71l0E k)
noncomputable def f71F (k : Nat) (x : Int) : Option (Int) :=
  f71l0 k
    (fun (w1 : Int × Unit) =>
      some w1.1)
    ((1 : Int), (mnI x (18 : Int)), (0 : Int), ())
noncomputable def f71L (k : Nat) : Sums := [(58, f71l0S k)]
theorem f71LS (k : Nat) : SumsOk P Go.Proofs.Tryd.f40.ntmps (f71L k) (codeOf Go.Proofs.Tryd.f40) 1 := (SumsOk.nil).cons (c := f71l0C) (by kernel_rfl) (f71l0O k)
theorem f71E (k : Nat) (x : Int) : evFS tab (f71T k) (f71L k) Go.Proofs.Tryd.f40.ntmps Go.Proofs.Tryd.f40.results.toList (codeOf Go.Proofs.Tryd.f40) (argsV [.dat (.int .i64)] x) [.dat (.int .i64)] = f71F k x := by kernel_rfl
theorem f71Ok (k : Nat) (x : Int) (y : Int) (h : f71F k x = some y) : FnOk P 40 [.dat (.int .i64)] [.dat (.int .i64)] x y :=
  evFS_sound tabOk (f71TS k) mixed Go.Proofs.Tryd.func40 (c := codeOf Go.Proofs.Tryd.f40) (by kernel_rfl) (f71LS k) ((f71E k x).trans h)
/-! ## midrange/numeric.CheckValue -/
noncomputable def f29T (k : Nat) : Table := [(19, entFn [.dat (.slice (.int .i64))] [.dat (.int .i64)] (f42F k)), (20, entFn [.dat .bool, .dat (.int .i64)] [.dat (.int .i64)] (f43F k)), (31, entFn [.dat (.int .i64), .dat (.int .i64), .dat (.int .i64)] [.dat .bool] (f70F k)), (35, entFn [.agg (.pair (.int .i64) (.pair (.int .i64) (.int .i64)))] [.dat (.int .i64)] (f28F k)), (40, entFn [.dat (.int .i64)] [.dat (.int .i64)] (f71F k))]
theorem f29TS (k : Nat) : Sound P (f29T k) := (((((Sound.nil).cons f71B (f71Ok k)).cons f28B (f28Ok k)).cons f70B (f70Ok k)).cons f43B (f43Ok k)).cons f42B (f42Ok k)
theorem f29B : HasBody P 17 := ⟨Go.Proofs.Tryd.f17, Go.Proofs.Tryd.func17, by kernel_rfl, by kernel_rfl⟩
noncomputable def f29F (k : Nat) (x : (Int × (Int × Int)) × (Int × ByteArray)) : Option (Int) :=
  Option.bind (f28F k (x.1.1, (x.1.2.1, x.1.2.2))) fun y1 =>
  Option.bind (f43F k ((x.1.1 == (4 : Int)), (17 : Int))) fun y2 =>
  Option.bind (f42F k [y1, y2]) fun y3 =>
  bif (y3 != (0 : Int)) then
    some y3
  else
  bif (x.1.1 == (0 : Int)) then
    Option.bind (f43F k ((x.2.1 != (0 : Int)), (5 : Int))) fun y4 =>
    Option.bind (f43F k (((x.2.2.size : Int) != x.1.2.1), (18 : Int))) fun y5 =>
    Option.bind (f42F k [y4, y5]) fun y6 =>
    some y6
  else
  Option.bind (f71F k x.1.2.1) fun y7 =>
  Option.bind (f43F k ((!strEq x.2.2 ByteArray.empty), (5 : Int))) fun y8 =>
  Option.bind (f70F k (x.2.1, (IntKind.i64.wrap (0 - (IntKind.i64.wrap (y7 - (1 : Int))))), (IntKind.i64.wrap (y7 - (1 : Int))))) fun y9 =>
  Option.bind (f43F k ((!y9), (19 : Int))) fun y10 =>
  Option.bind (f42F k [y8, y10]) fun y11 =>
  some y11
noncomputable def f29L (k : Nat) : Sums := []
theorem f29LS (k : Nat) : SumsOk P Go.Proofs.Tryd.f17.ntmps (f29L k) (codeOf Go.Proofs.Tryd.f17) 1 := SumsOk.nil
theorem f29E (k : Nat) (x : (Int × (Int × Int)) × (Int × ByteArray)) : evFS tab (f29T k) (f29L k) Go.Proofs.Tryd.f17.ntmps Go.Proofs.Tryd.f17.results.toList (codeOf Go.Proofs.Tryd.f17) (argsV [.agg (.pair (.int .i64) (.pair (.int .i64) (.int .i64))), .agg (.pair (.int .i64) .str)] x) [.dat (.int .i64)] = f29F k x := by kernel_rfl
theorem f29Ok (k : Nat) (x : (Int × (Int × Int)) × (Int × ByteArray)) (y : Int) (h : f29F k x = some y) : FnOk P 17 [.agg (.pair (.int .i64) (.pair (.int .i64) (.int .i64))), .agg (.pair (.int .i64) .str)] [.dat (.int .i64)] x y :=
  evFS_sound tabOk (f29TS k) mixed Go.Proofs.Tryd.func17 (c := codeOf Go.Proofs.Tryd.f17) (by kernel_rfl) (f29LS k) ((f29E k x).trans h)
/-! ## midrange/numeric.digits -/
noncomputable def f75T (k : Nat) : Table := []
theorem f75TS (k : Nat) : Sound P (f75T k) := Sound.nil
theorem f75B : HasBody P 58 := ⟨Go.Proofs.Tryd.f58, Go.Proofs.Tryd.func58, by kernel_rfl, by kernel_rfl⟩
noncomputable def f75l0H : Shape := ⟨[(0, .one (.int .i64)), (5, .one (.own 0)), (6, .one (.int .i64))], [(0, .row 5 (.int .u8) .plain)], 1⟩
noncomputable def f75l0X0 : Shape := ⟨[(5, .one (.own 0))], [(0, .row 5 (.int .u8) .plain)], 1⟩
noncomputable def f75l0N : NoteR := ⟨[0, 5, 6], [], []⟩
noncomputable def f75l0M : NoteR := ⟨[4, 5], [], []⟩
noncomputable def f75l0C : Code := firstC (codesAt 58 (codeOf Go.Proofs.Tryd.f58) 1)
noncomputable def f75l0s {R : Type} (k : Nat) (rec : Int × Int × List Int × Unit → Option R) (k0 : List Int × Unit → Option R) (v : Int × Int × List Int × Unit) : Option R :=
  bif (decide (v.2.1 ≥ (0 : Int))) then
    bif ((decide ((0 : Int) ≤ v.2.1)) && (decide (v.2.1 < (v.2.2.1.length : Int)))) then
    let t1 := (v.2.2.1.set (Int.toNat v.2.1) (IntKind.u8.wrap (Int.tmod v.1 (10 : Int))))
    rec ((IntKind.i64.wrap (Int.tdiv v.1 (10 : Int))), (IntKind.i64.wrap (v.2.1 - (1 : Int))), t1, ())
    else none
  else
  k0 (v.2.2.1, ())
noncomputable def f75l0 {R : Type} (k : Nat) (k0 : List Int × Unit → Option R) (v : Int × Int × List Int × Unit) : Option R := iterS (fun rec v => f75l0s k rec k0 v) k v
noncomputable def f75l0S (k : Nat) : Sum1 := loopSum f75l0H f75l0N k (fun R rec K v => f75l0s k rec (fun w => K (.exit 0) (encSt f75l0X0 w)) v)
theorem f75l0E (k : Nat) (R : Type) (rec : St → Option R) (K : X → St → Option R) (v : f75l0H.Den) : evS tab (f75T k) Go.Proofs.Tryd.f58.ntmps [] (bodyOf f75l0C) 116 (bodyK f75l0N f75l0M rec K) (encSt f75l0H v) = f75l0s k (fun v => rec (encSt f75l0H v)) (fun w => K (.exit 0) (encSt f75l0X0 w)) v := by kernel_rfl
theorem f75l0I (k : Nat) : SumsOk P Go.Proofs.Tryd.f58.ntmps [] (bodyOf f75l0C) 116 := SumsOk.nil
theorem f75l0O (k : Nat) : SumOk P Go.Proofs.Tryd.f58.ntmps f75l0C (f75l0S k) := (show f75l0C = .loop (bodyOf f75l0C) by kernel_rfl) ▸ sum_loop tabOk (f75TS k) mixed (f75l0I k) (f75l0E k)
noncomputable def f75F (k : Nat) (x : Int × Int) : Option (List Int) :=
  bif (((decide ((0 : Int) ≤ x.2)) && (decide ((x.2 * 1) ≤ (140737488355328 : Int)))) && (decide (x.2 ≤ (281474976710656 : Int)))) then
  f75l0 k
    (fun (w2 : List Int × Unit) =>
      some w2.1)
    (x.1, (IntKind.i64.wrap (x.2 - (1 : Int))), (List.replicate (Int.toNat x.2) (0 : Int)), ())
  else none
noncomputable def f75L (k : Nat) : Sums := [(58, f75l0S k)]
theorem f75LS (k : Nat) : SumsOk P Go.Proofs.Tryd.f58.ntmps (f75L k) (codeOf Go.Proofs.Tryd.f58) 1 := (SumsOk.nil).cons (c := f75l0C) (by kernel_rfl) (f75l0O k)
theorem f75E (k : Nat) (x : Int × Int) : evFS tab (f75T k) (f75L k) Go.Proofs.Tryd.f58.ntmps Go.Proofs.Tryd.f58.results.toList (codeOf Go.Proofs.Tryd.f58) (argsV [.dat (.int .i64), .dat (.int .i64)] x) [.own 5 (.int .u8)] = f75F k x := by kernel_rfl
theorem f75Ok (k : Nat) (x : Int × Int) (y : List Int) (h : f75F k x = some y) : FnOk P 58 [.dat (.int .i64), .dat (.int .i64)] [.own 5 (.int .u8)] x y :=
  evFS_sound tabOk (f75TS k) mixed Go.Proofs.Tryd.func58 (c := codeOf Go.Proofs.Tryd.f58) (by kernel_rfl) (f75LS k) ((f75E k x).trans h)
/-! ## midrange/numeric.packed -/
noncomputable def f76T (k : Nat) : Table := []
theorem f76TS (k : Nat) : Sound P (f76T k) := Sound.nil
theorem f76B : HasBody P 59 := ⟨Go.Proofs.Tryd.f59, Go.Proofs.Tryd.func59, by kernel_rfl, by kernel_rfl⟩
noncomputable def f76l0H : Shape := ⟨[(0, .one (.ro (.int .u8))), (3, .one (.own 0)), (4, .one (.int .i64))], [(0, .row 5 (.int .u8) .plain)], 1⟩
noncomputable def f76l0X0 : Shape := ⟨[(3, .one (.own 0))], [(0, .row 5 (.int .u8) .plain)], 1⟩
noncomputable def f76l0N : NoteR := ⟨[0, 3, 4], [(3, 5, (.int .u8))], []⟩
noncomputable def f76l0M : NoteR := ⟨[2, 3], [], []⟩
noncomputable def f76l0C : Code := firstC (codesAt 58 (codeOf Go.Proofs.Tryd.f59) 1)
noncomputable def f76l0s {R : Type} (k : Nat) (rec : List Int × Int × List Int × Unit → Option R) (k0 : List Int × Unit → Option R) (v : List Int × Int × List Int × Unit) : Option R :=
  bif (decide (v.2.1 < (v.1.length : Int))) then
    bif ((decide ((0 : Int) ≤ v.2.1)) && (decide (v.2.1 < (v.1.length : Int)))) then
    bif ((decide ((0 : Int) ≤ (IntKind.i64.wrap (v.2.1 + (1 : Int))))) && (decide ((IntKind.i64.wrap (v.2.1 + (1 : Int))) < (v.1.length : Int)))) then
    let t1 := (v.1.getD (Int.toNat (IntKind.i64.wrap (v.2.1 + (1 : Int)))) (0 : Int))
    let t2 := (bits .or .u8 (shlI .u8 (v.1.getD (Int.toNat v.2.1) (0 : Int)) (4 : Int)) t1)
    bif (decide ((v.2.2.1.length + [t2].length) * 1 ≤ 140737488355328) && decide (v.2.2.1.length + [t2].length ≤ 9223372036854775807)) then
    rec (v.1, (IntKind.i64.wrap (v.2.1 + (2 : Int))), (v.2.2.1 ++ [t2]), ())
    else none
    else none
    else none
  else
  k0 (v.2.2.1, ())
noncomputable def f76l0 {R : Type} (k : Nat) (k0 : List Int × Unit → Option R) (v : List Int × Int × List Int × Unit) : Option R := iterS (fun rec v => f76l0s k rec k0 v) k v
noncomputable def f76l0S (k : Nat) : Sum1 := loopSum f76l0H f76l0N k (fun R rec K v => f76l0s k rec (fun w => K (.exit 0) (encSt f76l0X0 w)) v)
theorem f76l0E (k : Nat) (R : Type) (rec : St → Option R) (K : X → St → Option R) (v : f76l0H.Den) : evS tab (f76T k) Go.Proofs.Tryd.f59.ntmps [] (bodyOf f76l0C) 116 (bodyK f76l0N f76l0M rec K) (encSt f76l0H v) = f76l0s k (fun v => rec (encSt f76l0H v)) (fun w => K (.exit 0) (encSt f76l0X0 w)) v := by kernel_rfl
theorem f76l0I (k : Nat) : SumsOk P Go.Proofs.Tryd.f59.ntmps [] (bodyOf f76l0C) 116 := SumsOk.nil
theorem f76l0O (k : Nat) : SumOk P Go.Proofs.Tryd.f59.ntmps f76l0C (f76l0S k) := (show f76l0C = .loop (bodyOf f76l0C) by kernel_rfl) ▸ sum_loop tabOk (f76TS k) mixed (f76l0I k) (f76l0E k)
noncomputable def f76F (k : Nat) (x : (List Int)) : Option (ByteArray) :=
  f76l0 k
    (fun (w3 : List Int × Unit) =>
      some (strOfNums w3.1))
    (x, (0 : Int), [], ())
noncomputable def f76L (k : Nat) : Sums := [(58, f76l0S k)]
theorem f76LS (k : Nat) : SumsOk P Go.Proofs.Tryd.f59.ntmps (f76L k) (codeOf Go.Proofs.Tryd.f59) 1 := (SumsOk.nil).cons (c := f76l0C) (by kernel_rfl) (f76l0O k)
theorem f76E (k : Nat) (x : (List Int)) : evFS tab (f76T k) (f76L k) Go.Proofs.Tryd.f59.ntmps Go.Proofs.Tryd.f59.results.toList (codeOf Go.Proofs.Tryd.f59) (argsV [.dat (.slice (.int .u8))] x) [.dat .str] = f76F k x := by kernel_rfl
theorem f76Ok (k : Nat) (x : (List Int)) (y : ByteArray) (h : f76F k x = some y) : FnOk P 59 [.dat (.slice (.int .u8))] [.dat .str] x y :=
  evFS_sound tabOk (f76TS k) mixed Go.Proofs.Tryd.func59 (c := codeOf Go.Proofs.Tryd.f59) (by kernel_rfl) (f76LS k) ((f76E k x).trans h)
/-! ## midrange/numeric.size -/
noncomputable def f44T (k : Nat) : Table := []
theorem f44TS (k : Nat) : Sound P (f44T k) := Sound.nil
theorem f44B : HasBody P 36 := ⟨Go.Proofs.Tryd.f36, Go.Proofs.Tryd.func36, by kernel_rfl, by kernel_rfl⟩
noncomputable def f44F (k : Nat) (x : (Int × (Int × Int))) : Option (Int) :=
  bif (x.1 == (1 : Int)) then
    let t1 := (IntKind.i64.wrap ((IntKind.i64.wrap (Int.tdiv x.2.1 (2 : Int))) + (1 : Int)))
    some t1
  else
  bif (x.1 == (3 : Int)) then
    let t2 := (IntKind.i64.wrap ((IntKind.i64.wrap (Int.tdiv x.2.1 (9 : Int))) * (2 : Int)))
    some (IntKind.i64.wrap ((2 : Int) + t2))
  else
  bif (x.1 == (4 : Int)) then
    some (16 : Int)
  else
  some x.2.1
noncomputable def f44L (k : Nat) : Sums := []
theorem f44LS (k : Nat) : SumsOk P Go.Proofs.Tryd.f36.ntmps (f44L k) (codeOf Go.Proofs.Tryd.f36) 1 := SumsOk.nil
theorem f44E (k : Nat) (x : (Int × (Int × Int))) : evFS tab (f44T k) (f44L k) Go.Proofs.Tryd.f36.ntmps Go.Proofs.Tryd.f36.results.toList (codeOf Go.Proofs.Tryd.f36) (argsV [.agg (.pair (.int .i64) (.pair (.int .i64) (.int .i64)))] x) [.dat (.int .i64)] = f44F k x := by kernel_rfl
theorem f44Ok (k : Nat) (x : (Int × (Int × Int))) (y : Int) (h : f44F k x = some y) : FnOk P 36 [.agg (.pair (.int .i64) (.pair (.int .i64) (.int .i64)))] [.dat (.int .i64)] x y :=
  evFS_sound tabOk (f44TS k) mixed Go.Proofs.Tryd.func36 (c := codeOf Go.Proofs.Tryd.f36) (by kernel_rfl) (f44LS k) ((f44E k x).trans h)
/-! ## midrange/numeric.encoded -/
noncomputable def f40T (k : Nat) : Table := [(36, entFn [.agg (.pair (.int .i64) (.pair (.int .i64) (.int .i64)))] [.dat (.int .i64)] (f44F k)), (58, entFn [.dat (.int .i64), .dat (.int .i64)] [.own 5 (.int .u8)] (f75F k)), (59, entFn [.dat (.slice (.int .u8))] [.dat .str] (f76F k))]
theorem f40TS (k : Nat) : Sound P (f40T k) := (((Sound.nil).cons f76B (f76Ok k)).cons f75B (f75Ok k)).cons f44B (f44Ok k)
theorem f40B : HasBody P 39 := ⟨Go.Proofs.Tryd.f39, Go.Proofs.Tryd.func39, by kernel_rfl, by kernel_rfl⟩
noncomputable def f40l0H : Shape := ⟨[(3, .one (.ptr 0 0)), (5, .one (.own 1)), (25, .one (.int .i64)), (26, .one (.int .i64))], [(0, .var [.int .i64, .str]), (1, .row 5 (.int .u8) .plain)], 2⟩
noncomputable def f40l0X0 : Shape := ⟨[(3, .one (.ptr 0 0)), (5, .one (.own 1))], [(0, .var [.int .i64, .str]), (1, .row 5 (.int .u8) .plain)], 2⟩
noncomputable def f40l0N : NoteR := ⟨[3, 5, 25, 26], [], []⟩
noncomputable def f40l0M : NoteR := ⟨[3, 4, 5], [], []⟩
noncomputable def f40l0C : Code := firstC (codesAt 1874 (codeOf Go.Proofs.Tryd.f39) 1)
noncomputable def f40l0s {R : Type} (k : Nat) (rec : Int × Int × Int × ByteArray × List Int × Unit → Option R) (k0 : Int × ByteArray × List Int × Unit → Option R) (v : Int × Int × Int × ByteArray × List Int × Unit) : Option R :=
  bif (decide (v.2.1 < v.1)) then
    bif ((decide ((0 : Int) ≤ v.2.1)) && (decide (v.2.1 < (v.2.2.2.2.1.length : Int)))) then
    let t2 := (IntKind.u8.wrap ((v.2.2.2.2.1.getD (Int.toNat v.2.1) (0 : Int)) + (240 : Int)))
    bif ((decide ((0 : Int) ≤ v.2.1)) && (decide (v.2.1 < (v.2.2.2.2.1.length : Int)))) then
    rec (v.1, (IntKind.i64.wrap (v.2.1 + (1 : Int))), v.2.2.1, v.2.2.2.1, (v.2.2.2.2.1.set (Int.toNat v.2.1) t2), ())
    else none
    else none
  else
  k0 (v.2.2.1, v.2.2.2.1, v.2.2.2.2.1, ())
noncomputable def f40l0 {R : Type} (k : Nat) (k0 : Int × ByteArray × List Int × Unit → Option R) (v : Int × Int × Int × ByteArray × List Int × Unit) : Option R := iterS (fun rec v => f40l0s k rec k0 v) k v
noncomputable def f40l0S (k : Nat) : Sum1 := loopSum f40l0H f40l0N k (fun R rec K v => f40l0s k rec (fun w => K (.exit 1) (encSt f40l0X0 w)) v)
theorem f40l0E (k : Nat) (R : Type) (rec : St → Option R) (K : X → St → Option R) (v : f40l0H.Den) : evS tab (f40T k) Go.Proofs.Tryd.f39.ntmps [] (bodyOf f40l0C) 3748 (bodyK f40l0N f40l0M rec K) (encSt f40l0H v) = f40l0s k (fun v => rec (encSt f40l0H v)) (fun w => K (.exit 1) (encSt f40l0X0 w)) v := by kernel_rfl
theorem f40l0I (k : Nat) : SumsOk P Go.Proofs.Tryd.f39.ntmps [] (bodyOf f40l0C) 3748 := SumsOk.nil
theorem f40l0O (k : Nat) : SumOk P Go.Proofs.Tryd.f39.ntmps f40l0C (f40l0S k) := (show f40l0C = .loop (bodyOf f40l0C) by kernel_rfl) ▸ sum_loop tabOk (f40TS k) mixed (f40l0I k) (f40l0E k)
noncomputable def f40p1H : Shape := ⟨[(3, .one (.ptr 0 0)), (5, .one (.own 1))], [(0, .var [.int .i64, .str]), (1, .row 5 (.int .u8) .plain)], 2⟩
noncomputable def f40p1X0 : Shape := ⟨[(3, .one (.ptr 0 0)), (5, .one (.own 1))], [(0, .var [.int .i64, .str]), (1, .row 5 (.int .u8) .plain)], 2⟩
noncomputable def f40p1N : NoteR := ⟨[3, 5], [], []⟩
noncomputable def f40p1M : NoteR := ⟨[3, 4, 5, 8], [], []⟩
noncomputable def f40p1C : Code := firstC (codesAt 938 (codeOf Go.Proofs.Tryd.f39) 1)
noncomputable def f40p1 {R : Type} (k : Nat) (k0 : Int × ByteArray × List Int × Unit → Option R) (v : Int × ByteArray × List Int × Unit) : Option R :=
  bif (decide (v.1 < (0 : Int))) then
    bif ((decide ((0 : Int) ≤ (IntKind.i64.wrap ((v.2.2.1.length : Int) - (1 : Int))))) && (decide ((IntKind.i64.wrap ((v.2.2.1.length : Int) - (1 : Int))) < (v.2.2.1.length : Int)))) then
    let t4 := (v.2.2.1.getD (Int.toNat (IntKind.i64.wrap ((v.2.2.1.length : Int) - (1 : Int)))) (0 : Int))
    bif ((decide ((0 : Int) ≤ (IntKind.i64.wrap ((v.2.2.1.length : Int) - (1 : Int))))) && (decide ((IntKind.i64.wrap ((v.2.2.1.length : Int) - (1 : Int))) < (v.2.2.1.length : Int)))) then
    let t5 := (v.2.2.1.set (Int.toNat (IntKind.i64.wrap ((v.2.2.1.length : Int) - (1 : Int)))) (IntKind.u8.wrap (t4 - (32 : Int))))
    k0 (v.1, v.2.1, t5, ())
    else none
    else none
  else
  k0 (v.1, v.2.1, v.2.2.1, ())
noncomputable def f40p1S (k : Nat) : Sum1 := partSum f40p1H f40p1N (fun R K v => f40p1 k (fun w => K .normal (encSt f40p1X0 w)) v)
theorem f40p1E (k : Nat) (R : Type) (K : X → St → Option R) (v : f40p1H.Den) : evS tab (f40T k) Go.Proofs.Tryd.f39.ntmps [] f40p1C 938 (partK f40p1M K) (encSt f40p1H v) = f40p1 k (fun w => K .normal (encSt f40p1X0 w)) v := by kernel_rfl
theorem f40p1I (k : Nat) : SumsOk P Go.Proofs.Tryd.f39.ntmps [] f40p1C 938 := SumsOk.nil
theorem f40p1O (k : Nat) : SumOk P Go.Proofs.Tryd.f39.ntmps f40p1C (f40p1S k) := sum_part tabOk (f40TS k) mixed (f40p1I k) (f40p1E k)
noncomputable def f40p2H : Shape := ⟨[(3, .one (.ptr 0 0)), (5, .one (.own 1)), (7, .one (.int .u8))], [(0, .var [.int .i64, .str]), (1, .row 5 (.int .u8) .plain)], 2⟩
noncomputable def f40p2X0 : Shape := ⟨[(3, .one (.ptr 0 0)), (5, .one (.own 1)), (7, .one (.int .u8))], [(0, .var [.int .i64, .str]), (1, .row 5 (.int .u8) .plain)], 2⟩
noncomputable def f40p2N : NoteR := ⟨[3, 5, 7], [], []⟩
noncomputable def f40p2M : NoteR := ⟨[3, 4, 5, 7, 8], [], []⟩
noncomputable def f40p2C : Code := firstC (codesAt 3770 (codeOf Go.Proofs.Tryd.f39) 1)
noncomputable def f40p2 {R : Type} (k : Nat) (k0 : Int × Int × ByteArray × List Int × Unit → Option R) (v : Int × Int × ByteArray × List Int × Unit) : Option R :=
  bif (decide (v.2.1 < (0 : Int))) then
    k0 ((13 : Int), v.2.1, v.2.2.1, v.2.2.2.1, ())
  else
  k0 (v.1, v.2.1, v.2.2.1, v.2.2.2.1, ())
noncomputable def f40p2S (k : Nat) : Sum1 := partSum f40p2H f40p2N (fun R K v => f40p2 k (fun w => K .normal (encSt f40p2X0 w)) v)
theorem f40p2E (k : Nat) (R : Type) (K : X → St → Option R) (v : f40p2H.Den) : evS tab (f40T k) Go.Proofs.Tryd.f39.ntmps [] f40p2C 3770 (partK f40p2M K) (encSt f40p2H v) = f40p2 k (fun w => K .normal (encSt f40p2X0 w)) v := by kernel_rfl
theorem f40p2I (k : Nat) : SumsOk P Go.Proofs.Tryd.f39.ntmps [] f40p2C 3770 := SumsOk.nil
theorem f40p2O (k : Nat) : SumOk P Go.Proofs.Tryd.f39.ntmps f40p2C (f40p2S k) := sum_part tabOk (f40TS k) mixed (f40p2I k) (f40p2E k)
noncomputable def f40p3H : Shape := ⟨[(5, .one (.own 0)), (7, .one (.int .u8))], [(0, .row 5 (.int .u8) .plain)], 1⟩
noncomputable def f40p3X0 : Shape := ⟨[(5, .one (.own 0)), (7, .one (.int .u8))], [(0, .row 5 (.int .u8) .plain)], 1⟩
noncomputable def f40p3N : NoteR := ⟨[5, 7], [], []⟩
noncomputable def f40p3M : NoteR := ⟨[3, 4, 5, 7, 8], [], []⟩
noncomputable def f40p3C : Code := firstC (codesAt 7542 (codeOf Go.Proofs.Tryd.f39) 1)
noncomputable def f40p3 {R : Type} (k : Nat) (k0 : Int × List Int × Unit → Option R) (v : Int × List Int × Unit) : Option R :=
  bif ((Int.tmod (v.2.1.length : Int) (2 : Int)) == (0 : Int)) then
    bif (decide (([(0 : Int)].length + v.2.1.length) * 1 ≤ 140737488355328) && decide ([(0 : Int)].length + v.2.1.length ≤ 9223372036854775807)) then
    k0 (v.1, ([(0 : Int)] ++ v.2.1), ())
    else none
  else
  k0 (v.1, v.2.1, ())
noncomputable def f40p3S (k : Nat) : Sum1 := partSum f40p3H f40p3N (fun R K v => f40p3 k (fun w => K .normal (encSt f40p3X0 w)) v)
theorem f40p3E (k : Nat) (R : Type) (K : X → St → Option R) (v : f40p3H.Den) : evS tab (f40T k) Go.Proofs.Tryd.f39.ntmps [] f40p3C 7542 (partK f40p3M K) (encSt f40p3H v) = f40p3 k (fun w => K .normal (encSt f40p3X0 w)) v := by kernel_rfl
theorem f40p3I (k : Nat) : SumsOk P Go.Proofs.Tryd.f39.ntmps [] f40p3C 7542 := SumsOk.nil
theorem f40p3O (k : Nat) : SumOk P Go.Proofs.Tryd.f39.ntmps f40p3C (f40p3S k) := sum_part tabOk (f40TS k) mixed (f40p3I k) (f40p3E k)
noncomputable def f40l4H : Shape := ⟨[(8, .one (.own 0)), (9, .one (.int .i64)), (10, .one (.int .i64))], [(0, .row 5 (.int .u8) .plain)], 1⟩
noncomputable def f40l4X0 : Shape := ⟨[(8, .one (.own 0))], [(0, .row 5 (.int .u8) .plain)], 1⟩
noncomputable def f40l4N : NoteR := ⟨[8, 9, 10], [], []⟩
noncomputable def f40l4M : NoteR := ⟨[3, 4, 8], [], []⟩
noncomputable def f40l4C : Code := firstC (codesAt 60394 (codeOf Go.Proofs.Tryd.f39) 1)
noncomputable def f40l4s {R : Type} (k : Nat) (rec : Int × Int × List Int × Unit → Option R) (k0 : List Int × Unit → Option R) (v : Int × Int × List Int × Unit) : Option R :=
  bif (decide (v.1 ≥ (0 : Int))) then
    bif ((decide ((0 : Int) ≤ v.1)) && (decide (v.1 < (v.2.2.1.length : Int)))) then
    rec ((IntKind.i64.wrap (v.1 - (1 : Int))), (shrI .i64 v.2.1 (8 : Int)), (v.2.2.1.set (Int.toNat v.1) (IntKind.u8.wrap v.2.1)), ())
    else none
  else
  k0 (v.2.2.1, ())
noncomputable def f40l4 {R : Type} (k : Nat) (k0 : List Int × Unit → Option R) (v : Int × Int × List Int × Unit) : Option R := iterS (fun rec v => f40l4s k rec k0 v) k v
noncomputable def f40l4S (k : Nat) : Sum1 := loopSum f40l4H f40l4N k (fun R rec K v => f40l4s k rec (fun w => K (.exit 3) (encSt f40l4X0 w)) v)
theorem f40l4E (k : Nat) (R : Type) (rec : St → Option R) (K : X → St → Option R) (v : f40l4H.Den) : evS tab (f40T k) Go.Proofs.Tryd.f39.ntmps [] (bodyOf f40l4C) 120788 (bodyK f40l4N f40l4M rec K) (encSt f40l4H v) = f40l4s k (fun v => rec (encSt f40l4H v)) (fun w => K (.exit 3) (encSt f40l4X0 w)) v := by kernel_rfl
theorem f40l4I (k : Nat) : SumsOk P Go.Proofs.Tryd.f39.ntmps [] (bodyOf f40l4C) 120788 := SumsOk.nil
theorem f40l4O (k : Nat) : SumOk P Go.Proofs.Tryd.f39.ntmps f40l4C (f40l4S k) := (show f40l4C = .loop (bodyOf f40l4C) by kernel_rfl) ▸ sum_loop tabOk (f40TS k) mixed (f40l4I k) (f40l4E k)
noncomputable def f40F (k : Nat) (x : (Int × (Int × Int)) × (Int × ByteArray)) : Option (ByteArray) :=
  Option.bind (f75F k ((mxI x.2.1 (IntKind.i64.wrap (0 - x.2.1))), x.1.2.1)) fun y1 =>
  bif (x.1.1 == (2 : Int)) then
    f40l0 k
      (fun (w3 : Int × ByteArray × List Int × Unit) =>
        f40p1 k
          (fun (w6 : Int × ByteArray × List Int × Unit) =>
            some (strOfNums w6.2.2.1))
          (w3.1, w3.2.1, w3.2.2.1, ()))
      ((y1.length : Int), (0 : Int), x.2.1, x.2.2, y1, ())
  else
  bif (x.1.1 == (1 : Int)) then
    f40p2 k
      (fun (w7 : Int × Int × ByteArray × List Int × Unit) =>
        f40p3 k
          (fun (w8 : Int × List Int × Unit) =>
            bif (decide ((w8.2.1.length + [w8.1].length) * 1 ≤ 140737488355328) && decide (w8.2.1.length + [w8.1].length ≤ 9223372036854775807)) then
            Option.bind (f76F k (w8.2.1 ++ [w8.1])) fun y9 =>
            some y9
            else none)
          (w7.1, w7.2.2.2.1, ()))
      ((15 : Int), x.2.1, x.2.2, y1, ())
  else
  bif (x.1.1 == (3 : Int)) then
    Option.bind (f44F k (x.1.1, (x.1.2.1, x.1.2.2))) fun y10 =>
    bif (((decide ((0 : Int) ≤ y10)) && (decide ((y10 * 1) ≤ (140737488355328 : Int)))) && (decide (y10 ≤ (281474976710656 : Int)))) then
    let t11 := (IntKind.i64.wrap (((List.replicate (Int.toNat y10) (0 : Int)).length : Int) - (1 : Int)))
    f40l4 k
      (fun (w12 : List Int × Unit) =>
        some (strOfNums w12.1))
      (t11, x.2.1, (List.replicate (Int.toNat y10) (0 : Int)), ())
    else none
  else
  some x.2.2
noncomputable def f40L (k : Nat) : Sums := [(1874, f40l0S k), (938, f40p1S k), (3770, f40p2S k), (7542, f40p3S k), (60394, f40l4S k)]
theorem f40LS (k : Nat) : SumsOk P Go.Proofs.Tryd.f39.ntmps (f40L k) (codeOf Go.Proofs.Tryd.f39) 1 := (((((SumsOk.nil).cons (c := f40l4C) (by kernel_rfl) (f40l4O k)).cons (c := f40p3C) (by kernel_rfl) (f40p3O k)).cons (c := f40p2C) (by kernel_rfl) (f40p2O k)).cons (c := f40p1C) (by kernel_rfl) (f40p1O k)).cons (c := f40l0C) (by kernel_rfl) (f40l0O k)
theorem f40E (k : Nat) (x : (Int × (Int × Int)) × (Int × ByteArray)) : evFS tab (f40T k) (f40L k) Go.Proofs.Tryd.f39.ntmps Go.Proofs.Tryd.f39.results.toList (codeOf Go.Proofs.Tryd.f39) (argsV [.agg (.pair (.int .i64) (.pair (.int .i64) (.int .i64))), .agg (.pair (.int .i64) .str)] x) [.dat .str] = f40F k x := by kernel_rfl
theorem f40Ok (k : Nat) (x : (Int × (Int × Int)) × (Int × ByteArray)) (y : ByteArray) (h : f40F k x = some y) : FnOk P 39 [.agg (.pair (.int .i64) (.pair (.int .i64) (.int .i64))), .agg (.pair (.int .i64) .str)] [.dat .str] x y :=
  evFS_sound tabOk (f40TS k) mixed Go.Proofs.Tryd.func39 (c := codeOf Go.Proofs.Tryd.f39) (by kernel_rfl) (f40LS k) ((f40E k x).trans h)
/-! ## midrange/numeric.Encode -/
noncomputable def f14T (k : Nat) : Table := [(17, entFn [.agg (.pair (.int .i64) (.pair (.int .i64) (.int .i64))), .agg (.pair (.int .i64) .str)] [.dat (.int .i64)] (f29F k)), (39, entFn [.agg (.pair (.int .i64) (.pair (.int .i64) (.int .i64))), .agg (.pair (.int .i64) .str)] [.dat .str] (f40F k))]
theorem f14TS (k : Nat) : Sound P (f14T k) := ((Sound.nil).cons f40B (f40Ok k)).cons f29B (f29Ok k)
theorem f14B : HasBody P 16 := ⟨Go.Proofs.Tryd.f16, Go.Proofs.Tryd.func16, by kernel_rfl, by kernel_rfl⟩
noncomputable def f14F (k : Nat) (x : (Int × (Int × Int)) × (Int × ByteArray)) : Option (ByteArray × Int) :=
  Option.bind (f29F k ((x.1.1, (x.1.2.1, x.1.2.2)), (x.2.1, x.2.2))) fun y1 =>
  bif (y1 != (0 : Int)) then
    some (ByteArray.empty, y1)
  else
  Option.bind (f40F k ((x.1.1, (x.1.2.1, x.1.2.2)), (x.2.1, x.2.2))) fun y2 =>
  some (y2, (0 : Int))
noncomputable def f14L (k : Nat) : Sums := []
theorem f14LS (k : Nat) : SumsOk P Go.Proofs.Tryd.f16.ntmps (f14L k) (codeOf Go.Proofs.Tryd.f16) 1 := SumsOk.nil
theorem f14E (k : Nat) (x : (Int × (Int × Int)) × (Int × ByteArray)) : evFS tab (f14T k) (f14L k) Go.Proofs.Tryd.f16.ntmps Go.Proofs.Tryd.f16.results.toList (codeOf Go.Proofs.Tryd.f16) (argsV [.agg (.pair (.int .i64) (.pair (.int .i64) (.int .i64))), .agg (.pair (.int .i64) .str)] x) [.dat .str, .dat (.int .i64)] = f14F k x := by kernel_rfl
theorem f14Ok (k : Nat) (x : (Int × (Int × Int)) × (Int × ByteArray)) (y : ByteArray × Int) (h : f14F k x = some y) : FnOk P 16 [.agg (.pair (.int .i64) (.pair (.int .i64) (.int .i64))), .agg (.pair (.int .i64) .str)] [.dat .str, .dat (.int .i64)] x y :=
  evFS_sound tabOk (f14TS k) mixed Go.Proofs.Tryd.func16 (c := codeOf Go.Proofs.Tryd.f16) (by kernel_rfl) (f14LS k) ((f14E k x).trans h)
/-! ## midrange/numeric.binary -/
noncomputable def f45T (k : Nat) : Table := []
theorem f45TS (k : Nat) : Sound P (f45T k) := Sound.nil
theorem f45B : HasBody P 37 := ⟨Go.Proofs.Tryd.f37, Go.Proofs.Tryd.func37, by kernel_rfl, by kernel_rfl⟩
noncomputable def f45l0H : Shape := ⟨[(3, .one (.int .i64)), (12, .one (.own 0)), (13, .one (.int .i64)), (14, .one (.int .i64))], [(0, .row 5 (.int .u8) .mark)], 1⟩
noncomputable def f45l0X0 : Shape := ⟨[(3, .one (.int .i64))], [], 0⟩
noncomputable def f45l0N : NoteR := ⟨[3, 12, 13, 14], [], []⟩
noncomputable def f45l0M : NoteR := ⟨[2, 3], [], []⟩
noncomputable def f45l0C : Code := firstC (codesAt 58 (codeOf Go.Proofs.Tryd.f37) 1)
noncomputable def f45l0s {R : Type} (k : Nat) (rec : Int × Int × Int × List Int × Unit → Option R) (k0 : Int × Unit → Option R) (v : Int × Int × Int × List Int × Unit) : Option R :=
  bif (decide (v.2.2.1 < v.2.1)) then
    bif ((decide ((0 : Int) ≤ v.2.2.1)) && (decide (v.2.2.1 < (v.2.2.2.1.length : Int)))) then
    let t1 := (bits .or .i64 (shlI .i64 v.1 (8 : Int)) (IntKind.i64.wrap (v.2.2.2.1.getD (Int.toNat v.2.2.1) (0 : Int))))
    rec (t1, v.2.1, (IntKind.i64.wrap (v.2.2.1 + (1 : Int))), v.2.2.2.1, ())
    else none
  else
  k0 (v.1, ())
noncomputable def f45l0 {R : Type} (k : Nat) (k0 : Int × Unit → Option R) (v : Int × Int × Int × List Int × Unit) : Option R := iterS (fun rec v => f45l0s k rec k0 v) k v
noncomputable def f45l0S (k : Nat) : Sum1 := loopSum f45l0H f45l0N k (fun R rec K v => f45l0s k rec (fun w => K (.exit 0) (encSt f45l0X0 w)) v)
theorem f45l0E (k : Nat) (R : Type) (rec : St → Option R) (K : X → St → Option R) (v : f45l0H.Den) : evS tab (f45T k) Go.Proofs.Tryd.f37.ntmps [] (bodyOf f45l0C) 116 (bodyK f45l0N f45l0M rec K) (encSt f45l0H v) = f45l0s k (fun v => rec (encSt f45l0H v)) (fun w => K (.exit 0) (encSt f45l0X0 w)) v := by kernel_rfl
theorem f45l0I (k : Nat) : SumsOk P Go.Proofs.Tryd.f37.ntmps [] (bodyOf f45l0C) 116 := SumsOk.nil
theorem f45l0O (k : Nat) : SumOk P Go.Proofs.Tryd.f37.ntmps f45l0C (f45l0S k) := (show f45l0C = .loop (bodyOf f45l0C) by kernel_rfl) ▸ sum_loop tabOk (f45TS k) mixed (f45l0I k) (f45l0E k)
noncomputable def f45F (k : Nat) (x : ByteArray) : Option (Int) :=
  bif (decide ((0 : Int) < (x.size : Int))) then
  bif (sliceBds (1 : Int) (x.size : Int) (x.size : Int)) then
  bif (decide ((x.extract 1 (Int.toNat (x.size : Int))).size ≤ 9223372036854775807)) then
  f45l0 k
    (fun (w2 : Int × Unit) =>
      some w2.1)
    ((IntKind.i64.wrap (IntKind.i8.wrap (bt x (0 : Int)))), ((bytesOf (x.extract 1 (Int.toNat (x.size : Int)))).length : Int), (0 : Int), (bytesOf (x.extract 1 (Int.toNat (x.size : Int)))), ())
  else none
  else none
  else none
noncomputable def f45L (k : Nat) : Sums := [(58, f45l0S k)]
theorem f45LS (k : Nat) : SumsOk P Go.Proofs.Tryd.f37.ntmps (f45L k) (codeOf Go.Proofs.Tryd.f37) 1 := (SumsOk.nil).cons (c := f45l0C) (by kernel_rfl) (f45l0O k)
theorem f45E (k : Nat) (x : ByteArray) : evFS tab (f45T k) (f45L k) Go.Proofs.Tryd.f37.ntmps Go.Proofs.Tryd.f37.results.toList (codeOf Go.Proofs.Tryd.f37) (argsV [.dat .str] x) [.dat (.int .i64)] = f45F k x := by kernel_rfl
theorem f45Ok (k : Nat) (x : ByteArray) (y : Int) (h : f45F k x = some y) : FnOk P 37 [.dat .str] [.dat (.int .i64)] x y :=
  evFS_sound tabOk (f45TS k) mixed Go.Proofs.Tryd.func37 (c := codeOf Go.Proofs.Tryd.f37) (by kernel_rfl) (f45LS k) ((f45E k x).trans h)
/-! ## midrange/numeric.halves -/
noncomputable def f80T (k : Nat) : Table := []
theorem f80TS (k : Nat) : Sound P (f80T k) := Sound.nil
theorem f80B : HasBody P 57 := ⟨Go.Proofs.Tryd.f57, Go.Proofs.Tryd.func57, by kernel_rfl, by kernel_rfl⟩
noncomputable def f80p0H : Shape := ⟨[(1, .one (.str)), (2, .one (.ptr 0 0)), (4, .one (.own 1)), (5, .one (.own 2)), (10, .one (.int .i64)), (11, .one (.int .i64))], [(0, .var [.int .i64, .int .i64, .int .i64]), (1, .row 5 (.int .u8) .plain), (2, .row 3 (.int .i64) .plain)], 3⟩
noncomputable def f80p0X0 : Shape := ⟨[(1, .one (.str)), (2, .one (.ptr 0 0)), (4, .one (.own 1)), (5, .one (.own 2)), (10, .one (.int .i64)), (11, .one (.int .i64))], [(0, .var [.int .i64, .int .i64, .int .i64]), (1, .row 5 (.int .u8) .plain), (2, .row 3 (.int .i64) .plain)], 3⟩
noncomputable def f80p0N : NoteR := ⟨[1, 2, 4, 5, 10, 11], [], []⟩
noncomputable def f80p0M : NoteR := ⟨[1, 2, 4, 5, 10, 11], [], []⟩
noncomputable def f80p0C : Code := firstC (codesAt 422 (codeOf Go.Proofs.Tryd.f57) 1)
noncomputable def f80p0 {R : Type} (k : Nat) (k0 : ByteArray × Int × Int × Int × Int × Int × List Int × List Int × Unit → Option R) (v : ByteArray × Int × Int × Int × Int × Int × List Int × List Int × Unit) : Option R :=
  bif ((decide ((0 : Int) ≤ v.2.2.1)) && (decide (v.2.2.1 < (v.1.size : Int)))) then
  bif ((decide ((0 : Int) ≤ v.2.2.1)) && (decide (v.2.2.1 < (v.1.size : Int)))) then
  bif (v.2.2.2.1 == (1 : Int)) then
    let t1 := [(shrI .u8 (bt v.1 v.2.2.1) (4 : Int)), (bits .and .u8 (bt v.1 v.2.2.1) (15 : Int))]
    bif (decide ((v.2.2.2.2.2.2.1.length + t1.length) * 1 ≤ 140737488355328) && decide (v.2.2.2.2.2.2.1.length + t1.length ≤ 9223372036854775807)) then
    bif (decide ((v.2.2.2.2.2.2.2.1.length + [v.2.2.1, v.2.2.1].length) * 8 ≤ 140737488355328) && decide (v.2.2.2.2.2.2.2.1.length + [v.2.2.1, v.2.2.1].length ≤ 9223372036854775807)) then
    k0 (v.1, v.2.1, v.2.2.1, v.2.2.2.1, v.2.2.2.2.1, v.2.2.2.2.2.1, (v.2.2.2.2.2.2.1 ++ t1), (v.2.2.2.2.2.2.2.1 ++ [v.2.2.1, v.2.2.1]), ())
    else none
    else none
  else
  bif (decide ((v.2.2.2.2.2.2.1.length + [(bits .and .u8 (bt v.1 v.2.2.1) (15 : Int))].length) * 1 ≤ 140737488355328) && decide (v.2.2.2.2.2.2.1.length + [(bits .and .u8 (bt v.1 v.2.2.1) (15 : Int))].length ≤ 9223372036854775807)) then
  bif (decide ((v.2.2.2.2.2.2.2.1.length + [v.2.2.1].length) * 8 ≤ 140737488355328) && decide (v.2.2.2.2.2.2.2.1.length + [v.2.2.1].length ≤ 9223372036854775807)) then
  k0 (v.1, v.2.1, v.2.2.1, v.2.2.2.1, v.2.2.2.2.1, v.2.2.2.2.2.1, (v.2.2.2.2.2.2.1 ++ [(bits .and .u8 (bt v.1 v.2.2.1) (15 : Int))]), (v.2.2.2.2.2.2.2.1 ++ [v.2.2.1]), ())
  else none
  else none
  else none
  else none
noncomputable def f80p0S (k : Nat) : Sum1 := partSum f80p0H f80p0N (fun R K v => f80p0 k (fun w => K .normal (encSt f80p0X0 w)) v)
theorem f80p0E (k : Nat) (R : Type) (K : X → St → Option R) (v : f80p0H.Den) : evS tab (f80T k) Go.Proofs.Tryd.f57.ntmps [] f80p0C 422 (partK f80p0M K) (encSt f80p0H v) = f80p0 k (fun w => K .normal (encSt f80p0X0 w)) v := by kernel_rfl
theorem f80p0I (k : Nat) : SumsOk P Go.Proofs.Tryd.f57.ntmps [] f80p0C 422 := SumsOk.nil
theorem f80p0O (k : Nat) : SumOk P Go.Proofs.Tryd.f57.ntmps f80p0C (f80p0S k) := sum_part tabOk (f80TS k) mixed (f80p0I k) (f80p0E k)
noncomputable def f80l1H : Shape := ⟨[(1, .one (.str)), (2, .one (.ptr 0 0)), (4, .one (.own 1)), (5, .one (.own 2)), (10, .one (.int .i64)), (11, .one (.int .i64))], [(0, .var [.int .i64, .int .i64, .int .i64]), (1, .row 5 (.int .u8) .plain), (2, .row 3 (.int .i64) .plain)], 3⟩
noncomputable def f80l1X0 : Shape := ⟨[(1, .one (.str)), (2, .one (.ptr 0 0)), (4, .one (.own 1)), (5, .one (.own 2))], [(0, .var [.int .i64, .int .i64, .int .i64]), (1, .row 5 (.int .u8) .plain), (2, .row 3 (.int .i64) .plain)], 3⟩
noncomputable def f80l1N : NoteR := ⟨[1, 2, 4, 5, 10, 11], [(4, 5, (.int .u8)), (5, 3, (.int .i64))], []⟩
noncomputable def f80l1M : NoteR := ⟨[1, 2, 4, 5], [], []⟩
noncomputable def f80l1C : Code := firstC (codesAt 26 (codeOf Go.Proofs.Tryd.f57) 1)
noncomputable def f80l1s {R : Type} (k : Nat) (rec : ByteArray × Int × Int × Int × Int × Int × List Int × List Int × Unit → Option R) (k0 : ByteArray × Int × Int × Int × List Int × List Int × Unit → Option R) (v : ByteArray × Int × Int × Int × Int × Int × List Int × List Int × Unit) : Option R :=
  bif (decide (v.2.2.1 < v.2.1)) then
    f80p0 k
      (fun (w2 : ByteArray × Int × Int × Int × Int × Int × List Int × List Int × Unit) =>
        rec (w2.1, w2.2.1, (IntKind.i64.wrap (w2.2.2.1 + (1 : Int))), w2.2.2.2.1, w2.2.2.2.2.1, w2.2.2.2.2.2.1, w2.2.2.2.2.2.2.1, w2.2.2.2.2.2.2.2.1, ()))
      (v.1, v.2.1, v.2.2.1, v.2.2.2.1, v.2.2.2.2.1, v.2.2.2.2.2.1, v.2.2.2.2.2.2.1, v.2.2.2.2.2.2.2.1, ())
  else
  k0 (v.1, v.2.2.2.1, v.2.2.2.2.1, v.2.2.2.2.2.1, v.2.2.2.2.2.2.1, v.2.2.2.2.2.2.2.1, ())
noncomputable def f80l1 {R : Type} (k : Nat) (k0 : ByteArray × Int × Int × Int × List Int × List Int × Unit → Option R) (v : ByteArray × Int × Int × Int × Int × Int × List Int × List Int × Unit) : Option R := iterS (fun rec v => f80l1s k rec k0 v) k v
noncomputable def f80l1S (k : Nat) : Sum1 := loopSum f80l1H f80l1N k (fun R rec K v => f80l1s k rec (fun w => K (.exit 0) (encSt f80l1X0 w)) v)
theorem f80l1E (k : Nat) (R : Type) (rec : St → Option R) (K : X → St → Option R) (v : f80l1H.Den) : evS tab (f80T k) Go.Proofs.Tryd.f57.ntmps [(422, f80p0S k)] (bodyOf f80l1C) 52 (bodyK f80l1N f80l1M rec K) (encSt f80l1H v) = f80l1s k (fun v => rec (encSt f80l1H v)) (fun w => K (.exit 0) (encSt f80l1X0 w)) v := by kernel_rfl
theorem f80l1I (k : Nat) : SumsOk P Go.Proofs.Tryd.f57.ntmps [(422, f80p0S k)] (bodyOf f80l1C) 52 := (SumsOk.nil).cons (c := f80p0C) (by kernel_rfl) (f80p0O k)
theorem f80l1O (k : Nat) : SumOk P Go.Proofs.Tryd.f57.ntmps f80l1C (f80l1S k) := (show f80l1C = .loop (bodyOf f80l1C) by kernel_rfl) ▸ sum_loop tabOk (f80TS k) mixed (f80l1I k) (f80l1E k)
noncomputable def f80p2H : Shape := ⟨[(1, .one (.str)), (2, .one (.ptr 0 0)), (4, .one (.own 1)), (5, .one (.own 2))], [(0, .var [.int .i64, .int .i64, .int .i64]), (1, .row 5 (.int .u8) .plain), (2, .row 3 (.int .i64) .plain)], 3⟩
noncomputable def f80p2X0 : Shape := ⟨[(1, .one (.str)), (2, .one (.ptr 0 0)), (4, .one (.own 1)), (5, .one (.own 2))], [(0, .var [.int .i64, .int .i64, .int .i64]), (1, .row 5 (.int .u8) .plain), (2, .row 3 (.int .i64) .plain)], 3⟩
noncomputable def f80p2N : NoteR := ⟨[1, 2, 4, 5], [], []⟩
noncomputable def f80p2M : NoteR := ⟨[1, 2, 4, 5], [], []⟩
noncomputable def f80p2C : Code := firstC (codesAt 14 (codeOf Go.Proofs.Tryd.f57) 1)
noncomputable def f80p2 {R : Type} (k : Nat) (k0 : ByteArray × Int × Int × Int × List Int × List Int × Unit → Option R) (v : ByteArray × Int × Int × Int × List Int × List Int × Unit) : Option R :=
  bif (v.2.1 == (2 : Int)) then
    bif ((decide ((0 : Int) ≤ (IntKind.i64.wrap ((v.1.size : Int) - (1 : Int))))) && (decide ((IntKind.i64.wrap ((v.1.size : Int) - (1 : Int))) < (v.1.size : Int)))) then
    let t4 := (shrI .u8 (bt v.1 (IntKind.i64.wrap ((v.1.size : Int) - (1 : Int)))) (4 : Int))
    bif (decide ((v.2.2.2.2.1.length + [t4].length) * 1 ≤ 140737488355328) && decide (v.2.2.2.2.1.length + [t4].length ≤ 9223372036854775807)) then
    bif (decide ((v.2.2.2.2.2.1.length + [(IntKind.i64.wrap ((v.1.size : Int) - (1 : Int)))].length) * 8 ≤ 140737488355328) && decide (v.2.2.2.2.2.1.length + [(IntKind.i64.wrap ((v.1.size : Int) - (1 : Int)))].length ≤ 9223372036854775807)) then
    k0 (v.1, v.2.1, v.2.2.1, v.2.2.2.1, (v.2.2.2.2.1 ++ [t4]), (v.2.2.2.2.2.1 ++ [(IntKind.i64.wrap ((v.1.size : Int) - (1 : Int)))]), ())
    else none
    else none
    else none
  else
  k0 (v.1, v.2.1, v.2.2.1, v.2.2.2.1, v.2.2.2.2.1, v.2.2.2.2.2.1, ())
noncomputable def f80p2S (k : Nat) : Sum1 := partSum f80p2H f80p2N (fun R K v => f80p2 k (fun w => K .normal (encSt f80p2X0 w)) v)
theorem f80p2E (k : Nat) (R : Type) (K : X → St → Option R) (v : f80p2H.Den) : evS tab (f80T k) Go.Proofs.Tryd.f57.ntmps [] f80p2C 14 (partK f80p2M K) (encSt f80p2H v) = f80p2 k (fun w => K .normal (encSt f80p2X0 w)) v := by kernel_rfl
theorem f80p2I (k : Nat) : SumsOk P Go.Proofs.Tryd.f57.ntmps [] f80p2C 14 := SumsOk.nil
theorem f80p2O (k : Nat) : SumOk P Go.Proofs.Tryd.f57.ntmps f80p2C (f80p2S k) := sum_part tabOk (f80TS k) mixed (f80p2I k) (f80p2E k)
noncomputable def f80F (k : Nat) (x : (Int × (Int × Int)) × ByteArray) : Option (List Int × List Int) :=
  f80l1 k
    (fun (w3 : ByteArray × Int × Int × Int × List Int × List Int × Unit) =>
      f80p2 k
        (fun (w5 : ByteArray × Int × Int × Int × List Int × List Int × Unit) =>
          some (w5.2.2.2.2.1, w5.2.2.2.2.2.1))
        (w3.1, w3.2.1, w3.2.2.1, w3.2.2.2.1, w3.2.2.2.2.1, w3.2.2.2.2.2.1, ()))
    (x.2, (x.2.size : Int), (0 : Int), x.1.1, x.1.2.1, x.1.2.2, [], [], ())
noncomputable def f80L (k : Nat) : Sums := [(422, f80p0S k), (26, f80l1S k), (14, f80p2S k)]
theorem f80LS (k : Nat) : SumsOk P Go.Proofs.Tryd.f57.ntmps (f80L k) (codeOf Go.Proofs.Tryd.f57) 1 := (((SumsOk.nil).cons (c := f80p2C) (by kernel_rfl) (f80p2O k)).cons (c := f80l1C) (by kernel_rfl) (f80l1O k)).cons (c := f80p0C) (by kernel_rfl) (f80p0O k)
theorem f80E (k : Nat) (x : (Int × (Int × Int)) × ByteArray) : evFS tab (f80T k) (f80L k) Go.Proofs.Tryd.f57.ntmps Go.Proofs.Tryd.f57.results.toList (codeOf Go.Proofs.Tryd.f57) (argsV [.agg (.pair (.int .i64) (.pair (.int .i64) (.int .i64))), .dat .str] x) [.own 5 (.int .u8), .own 3 (.int .i64)] = f80F k x := by kernel_rfl
theorem f80Ok (k : Nat) (x : (Int × (Int × Int)) × ByteArray) (y : List Int × List Int) (h : f80F k x = some y) : FnOk P 57 [.agg (.pair (.int .i64) (.pair (.int .i64) (.int .i64))), .dat .str] [.own 5 (.int .u8), .own 3 (.int .i64)] x y :=
  evFS_sound tabOk (f80TS k) mixed Go.Proofs.Tryd.func57 (c := codeOf Go.Proofs.Tryd.f57) (by kernel_rfl) (f80LS k) ((f80E k x).trans h)
/-! ## midrange/numeric.decimal -/
noncomputable def f46T (k : Nat) : Table := [(57, entFn [.agg (.pair (.int .i64) (.pair (.int .i64) (.int .i64))), .dat .str] [.own 5 (.int .u8), .own 3 (.int .i64)] (f80F k))]
theorem f46TS (k : Nat) : Sound P (f46T k) := (Sound.nil).cons f80B (f80Ok k)
theorem f46B : HasBody P 38 := ⟨Go.Proofs.Tryd.f38, Go.Proofs.Tryd.func38, by kernel_rfl, by kernel_rfl⟩
noncomputable def f46p0H : Shape := ⟨[(2, .one (.ptr 0 0)), (7, .one (.own 1)), (8, .one (.own 2)), (9, .one (.int .i64)), (10, .one (.int .i64)), (11, .one (.int .i64)), (12, .one (.int .u8)), (24, .one (.ro (.int .u8))), (25, .one (.int .i64)), (26, .one (.int .i64))], [(0, .var [.int .i64, .int .i64, .int .i64]), (1, .row 5 (.int .u8) .frz), (2, .row 3 (.int .i64) .plain)], 3⟩
noncomputable def f46p0X0 : Shape := ⟨[(2, .one (.ptr 0 0)), (4, .one (.int .i64)), (5, .one (.int .i64)), (6, .one (.int .i64)), (7, .one (.own 1)), (8, .one (.own 2)), (9, .one (.int .i64)), (10, .one (.int .i64)), (12, .one (.int .u8)), (24, .one (.ro (.int .u8))), (25, .one (.int .i64)), (26, .one (.int .i64))], [(0, .var [.int .i64, .int .i64, .int .i64]), (1, .row 5 (.int .u8) .frz), (2, .row 3 (.int .i64) .plain)], 3⟩
noncomputable def f46p0X1 : Shape := ⟨[(2, .one (.ptr 0 0)), (7, .one (.own 1)), (8, .one (.own 2)), (9, .one (.int .i64)), (10, .one (.int .i64)), (12, .one (.int .u8)), (24, .one (.ro (.int .u8))), (25, .one (.int .i64)), (26, .one (.int .i64))], [(0, .var [.int .i64, .int .i64, .int .i64]), (1, .row 5 (.int .u8) .frz), (2, .row 3 (.int .i64) .plain)], 3⟩
noncomputable def f46p0N : NoteR := ⟨[2, 7, 8, 9, 10, 11, 12, 24, 25, 26], [], []⟩
noncomputable def f46p0M : NoteR := ⟨[2, 4, 5, 6, 7, 8, 9, 10, 12, 24, 25, 26], [], []⟩
noncomputable def f46p0C : Code := firstC (codesAt 32050 (codeOf Go.Proofs.Tryd.f38) 1)
noncomputable def f46p0 {R : Type} (k : Nat) (k0 : Int × Int × Int × Int × Int × Int × List Int × Int × Int × Int × Int × Int × List Int × List Int × Unit → Option R) (k1 : Int × Int × Int × List Int × Int × Int × Int × Int × Int × List Int × List Int × Unit → Option R) (v : Int × Int × Int × Int × List Int × Int × Int × Int × Int × Int × List Int × List Int × Unit) : Option R :=
  bif (decide (v.2.2.2.1 > (9 : Int))) then
    bif ((decide ((0 : Int) ≤ v.2.2.1)) && (decide (v.2.2.1 < (v.2.2.2.2.2.2.2.2.2.2.2.1.length : Int)))) then
    k0 ((0 : Int), (v.2.2.2.2.2.2.2.2.2.2.2.1.getD (Int.toNat v.2.2.1) (0 : Int)), (21 : Int), v.1, v.2.1, v.2.2.2.1, v.2.2.2.2.1, v.2.2.2.2.2.1, v.2.2.2.2.2.2.1, v.2.2.2.2.2.2.2.1, v.2.2.2.2.2.2.2.2.1, v.2.2.2.2.2.2.2.2.2.1, v.2.2.2.2.2.2.2.2.2.2.1, v.2.2.2.2.2.2.2.2.2.2.2.1, ())
    else none
  else
  bif (decide (v.2.2.2.1 > (0 : Int))) then
    bif (decide (v.2.2.1 < (IntKind.i64.wrap (v.1 - v.2.2.2.2.2.2.2.2.1)))) then
      bif ((decide ((0 : Int) ≤ v.2.2.1)) && (decide (v.2.2.1 < (v.2.2.2.2.2.2.2.2.2.2.2.1.length : Int)))) then
      k0 ((0 : Int), (v.2.2.2.2.2.2.2.2.2.2.2.1.getD (Int.toNat v.2.2.1) (0 : Int)), (21 : Int), v.1, v.2.1, v.2.2.2.1, v.2.2.2.2.1, v.2.2.2.2.2.1, v.2.2.2.2.2.2.1, v.2.2.2.2.2.2.2.1, v.2.2.2.2.2.2.2.2.1, v.2.2.2.2.2.2.2.2.2.1, v.2.2.2.2.2.2.2.2.2.2.1, v.2.2.2.2.2.2.2.2.2.2.2.1, ())
      else none
    else
    k1 (v.1, v.2.1, v.2.2.2.1, v.2.2.2.2.1, v.2.2.2.2.2.1, v.2.2.2.2.2.2.1, v.2.2.2.2.2.2.2.1, v.2.2.2.2.2.2.2.2.1, v.2.2.2.2.2.2.2.2.2.1, v.2.2.2.2.2.2.2.2.2.2.1, v.2.2.2.2.2.2.2.2.2.2.2.1, ())
  else
  k1 (v.1, v.2.1, v.2.2.2.1, v.2.2.2.2.1, v.2.2.2.2.2.1, v.2.2.2.2.2.2.1, v.2.2.2.2.2.2.2.1, v.2.2.2.2.2.2.2.2.1, v.2.2.2.2.2.2.2.2.2.1, v.2.2.2.2.2.2.2.2.2.2.1, v.2.2.2.2.2.2.2.2.2.2.2.1, ())
noncomputable def f46p0S (k : Nat) : Sum1 := partSum f46p0H f46p0N (fun R K v => f46p0 k (fun w => K .ret (encSt f46p0X0 w)) (fun w => K .normal (encSt f46p0X1 w)) v)
theorem f46p0E (k : Nat) (R : Type) (K : X → St → Option R) (v : f46p0H.Den) : evS tab (f46T k) Go.Proofs.Tryd.f38.ntmps [] f46p0C 32050 (partK f46p0M K) (encSt f46p0H v) = f46p0 k (fun w => K .ret (encSt f46p0X0 w)) (fun w => K .normal (encSt f46p0X1 w)) v := by kernel_rfl
theorem f46p0I (k : Nat) : SumsOk P Go.Proofs.Tryd.f38.ntmps [] f46p0C 32050 := SumsOk.nil
theorem f46p0O (k : Nat) : SumOk P Go.Proofs.Tryd.f38.ntmps f46p0C (f46p0S k) := sum_part tabOk (f46TS k) mixed (f46p0I k) (f46p0E k)
noncomputable def f46l1H : Shape := ⟨[(2, .one (.ptr 0 0)), (7, .one (.own 1)), (8, .one (.own 2)), (9, .one (.int .i64)), (10, .one (.int .i64)), (24, .one (.ro (.int .u8))), (25, .one (.int .i64)), (26, .one (.int .i64))], [(0, .var [.int .i64, .int .i64, .int .i64]), (1, .row 5 (.int .u8) .frz), (2, .row 3 (.int .i64) .plain)], 3⟩
noncomputable def f46l1X0 : Shape := ⟨[(4, .one (.int .i64)), (5, .one (.int .i64)), (6, .one (.int .i64)), (7, .one (.own 0)), (8, .one (.own 1)), (9, .one (.int .i64)), (10, .one (.int .i64))], [(0, .row 5 (.int .u8) .frz), (1, .row 3 (.int .i64) .plain)], 2⟩
noncomputable def f46l1X1 : Shape := ⟨[(7, .one (.own 0)), (8, .one (.own 1)), (9, .one (.int .i64)), (10, .one (.int .i64))], [(0, .row 5 (.int .u8) .frz), (1, .row 3 (.int .i64) .plain)], 2⟩
noncomputable def f46l1N : NoteR := ⟨[2, 7, 8, 9, 10, 24, 25, 26], [], []⟩
noncomputable def f46l1M : NoteR := ⟨[4, 5, 6, 7, 8, 9, 10], [], []⟩
noncomputable def f46l1C : Code := firstC (codesAt 250 (codeOf Go.Proofs.Tryd.f38) 1)
noncomputable def f46l1s {R : Type} (k : Nat) (rec : Int × Int × List Int × Int × Int × Int × Int × Int × List Int × List Int × Unit → Option R) (k0 : Int × Int × Int × Int × Int × List Int × List Int × Unit → Option R) (k1 : Int × Int × List Int × List Int × Unit → Option R) (v : Int × Int × List Int × Int × Int × Int × Int × Int × List Int × List Int × Unit) : Option R :=
  bif (decide (v.2.2.2.2.1 < v.2.2.2.1)) then
    bif ((decide ((0 : Int) ≤ v.2.2.2.2.1)) && (decide (v.2.2.2.2.1 < (v.2.2.1.length : Int)))) then
    f46p0 k
      (fun (w3 : Int × Int × Int × Int × Int × Int × List Int × Int × Int × Int × Int × Int × List Int × List Int × Unit) =>
        k0 (w3.1, w3.2.1, w3.2.2.1, w3.2.2.2.1, w3.2.2.2.2.1, w3.2.2.2.2.2.2.2.2.2.2.2.2.1, w3.2.2.2.2.2.2.2.2.2.2.2.2.2.1, ()))
      (fun (w4 : Int × Int × Int × List Int × Int × Int × Int × Int × Int × List Int × List Int × Unit) =>
        let t5 := (IntKind.i64.wrap ((IntKind.i64.wrap (w4.2.1 * (10 : Int))) + (IntKind.i64.wrap w4.2.2.1)))
        rec (w4.1, t5, w4.2.2.2.1, w4.2.2.2.2.1, (IntKind.i64.wrap (w4.2.2.2.2.2.1 + (1 : Int))), w4.2.2.2.2.2.2.1, w4.2.2.2.2.2.2.2.1, w4.2.2.2.2.2.2.2.2.1, w4.2.2.2.2.2.2.2.2.2.1, w4.2.2.2.2.2.2.2.2.2.2.1, ()))
      (v.1, v.2.1, v.2.2.2.2.1, (v.2.2.1.getD (Int.toNat v.2.2.2.2.1) (0 : Int)), v.2.2.1, v.2.2.2.1, v.2.2.2.2.1, v.2.2.2.2.2.1, v.2.2.2.2.2.2.1, v.2.2.2.2.2.2.2.1, v.2.2.2.2.2.2.2.2.1, v.2.2.2.2.2.2.2.2.2.1, ())
    else none
  else
  k1 (v.1, v.2.1, v.2.2.2.2.2.2.2.2.1, v.2.2.2.2.2.2.2.2.2.1, ())
noncomputable def f46l1 {R : Type} (k : Nat) (k0 : Int × Int × Int × Int × Int × List Int × List Int × Unit → Option R) (k1 : Int × Int × List Int × List Int × Unit → Option R) (v : Int × Int × List Int × Int × Int × Int × Int × Int × List Int × List Int × Unit) : Option R := iterS (fun rec v => f46l1s k rec k0 k1 v) k v
noncomputable def f46l1S (k : Nat) : Sum1 := loopSum f46l1H f46l1N k (fun R rec K v => f46l1s k rec (fun w => K .ret (encSt f46l1X0 w)) (fun w => K (.exit 0) (encSt f46l1X1 w)) v)
theorem f46l1E (k : Nat) (R : Type) (rec : St → Option R) (K : X → St → Option R) (v : f46l1H.Den) : evS tab (f46T k) Go.Proofs.Tryd.f38.ntmps [(32050, f46p0S k)] (bodyOf f46l1C) 500 (bodyK f46l1N f46l1M rec K) (encSt f46l1H v) = f46l1s k (fun v => rec (encSt f46l1H v)) (fun w => K .ret (encSt f46l1X0 w)) (fun w => K (.exit 0) (encSt f46l1X1 w)) v := by kernel_rfl
theorem f46l1I (k : Nat) : SumsOk P Go.Proofs.Tryd.f38.ntmps [(32050, f46p0S k)] (bodyOf f46l1C) 500 := (SumsOk.nil).cons (c := f46p0C) (by kernel_rfl) (f46p0O k)
theorem f46l1O (k : Nat) : SumOk P Go.Proofs.Tryd.f38.ntmps f46l1C (f46l1S k) := (show f46l1C = .loop (bodyOf f46l1C) by kernel_rfl) ▸ sum_loop tabOk (f46TS k) mixed (f46l1I k) (f46l1E k)
noncomputable def f46p2H : Shape := ⟨[(7, .one (.own 0)), (8, .one (.own 1)), (9, .one (.int .i64)), (10, .one (.int .i64))], [(0, .row 5 (.int .u8) .frz), (1, .row 3 (.int .i64) .plain)], 2⟩
noncomputable def f46p2X0 : Shape := ⟨[(4, .one (.int .i64)), (5, .one (.int .i64)), (6, .one (.int .i64)), (7, .one (.own 0)), (8, .one (.own 1)), (9, .one (.int .i64)), (10, .one (.int .i64))], [(0, .row 5 (.int .u8) .frz), (1, .row 3 (.int .i64) .plain)], 2⟩
noncomputable def f46p2X1 : Shape := ⟨[(7, .one (.own 0)), (8, .one (.own 1)), (9, .one (.int .i64)), (10, .one (.int .i64))], [(0, .row 5 (.int .u8) .frz), (1, .row 3 (.int .i64) .plain)], 2⟩
noncomputable def f46p2N : NoteR := ⟨[7, 8, 9, 10], [], []⟩
noncomputable def f46p2M : NoteR := ⟨[4, 5, 6, 7, 8, 9, 10], [], []⟩
noncomputable def f46p2C : Code := firstC (codesAt 126 (codeOf Go.Proofs.Tryd.f38) 1)
noncomputable def f46p2 {R : Type} (k : Nat) (k0 : Int × Int × Int × Int × Int × List Int × List Int × Unit → Option R) (k1 : Int × Int × List Int × List Int × Unit → Option R) (v : Int × Int × List Int × List Int × Unit) : Option R :=
  bif ((decide ((0 : Int) ≤ v.1)) && (decide (v.1 < (v.2.2.1.length : Int)))) then
  bif (decide ((v.2.2.1.getD (Int.toNat v.1) (0 : Int)) < (10 : Int))) then
    bif ((decide ((0 : Int) ≤ v.1)) && (decide (v.1 < (v.2.2.2.1.length : Int)))) then
    k0 ((0 : Int), (v.2.2.2.1.getD (Int.toNat v.1) (0 : Int)), (21 : Int), v.1, v.2.1, v.2.2.1, v.2.2.2.1, ())
    else none
  else
  bif ((decide ((0 : Int) ≤ v.1)) && (decide (v.1 < (v.2.2.1.length : Int)))) then
  bif ((v.2.2.1.getD (Int.toNat v.1) (0 : Int)) == (11 : Int)) then
    k1 (v.1, (IntKind.i64.wrap (0 - v.2.1)), v.2.2.1, v.2.2.2.1, ())
  else
  bif ((decide ((0 : Int) ≤ v.1)) && (decide (v.1 < (v.2.2.1.length : Int)))) then
  bif ((v.2.2.1.getD (Int.toNat v.1) (0 : Int)) == (13 : Int)) then
    k1 (v.1, (IntKind.i64.wrap (0 - v.2.1)), v.2.2.1, v.2.2.2.1, ())
  else
  k1 (v.1, v.2.1, v.2.2.1, v.2.2.2.1, ())
  else none
  else none
  else none
noncomputable def f46p2S (k : Nat) : Sum1 := partSum f46p2H f46p2N (fun R K v => f46p2 k (fun w => K .ret (encSt f46p2X0 w)) (fun w => K .normal (encSt f46p2X1 w)) v)
theorem f46p2E (k : Nat) (R : Type) (K : X → St → Option R) (v : f46p2H.Den) : evS tab (f46T k) Go.Proofs.Tryd.f38.ntmps [] f46p2C 126 (partK f46p2M K) (encSt f46p2H v) = f46p2 k (fun w => K .ret (encSt f46p2X0 w)) (fun w => K .normal (encSt f46p2X1 w)) v := by kernel_rfl
theorem f46p2I (k : Nat) : SumsOk P Go.Proofs.Tryd.f38.ntmps [] f46p2C 126 := SumsOk.nil
theorem f46p2O (k : Nat) : SumOk P Go.Proofs.Tryd.f38.ntmps f46p2C (f46p2S k) := sum_part tabOk (f46TS k) mixed (f46p2I k) (f46p2E k)
noncomputable def f46F (k : Nat) (x : (Int × (Int × Int)) × ByteArray) : Option (Int × Int × Int) :=
  Option.bind (f80F k ((x.1.1, (x.1.2.1, x.1.2.2)), x.2)) fun y1 =>
  bif (sliceBds (0 : Int) (IntKind.i64.wrap ((y1.1.length : Int) - (1 : Int))) (y1.1.length : Int)) then
  let t2 := ((y1.1.take (Int.toNat (IntKind.i64.wrap ((y1.1.length : Int) - (1 : Int))))).drop 0)
  f46l1 k
    (fun (w6 : Int × Int × Int × Int × Int × List Int × List Int × Unit) =>
      some (w6.1, w6.2.1, w6.2.2.1))
    (fun (w7 : Int × Int × List Int × List Int × Unit) =>
      f46p2 k
        (fun (w8 : Int × Int × Int × Int × Int × List Int × List Int × Unit) =>
          some (w8.1, w8.2.1, w8.2.2.1))
        (fun (w9 : Int × Int × List Int × List Int × Unit) =>
          some (w9.2.1, (0 : Int), (0 : Int)))
        (w7.1, w7.2.1, w7.2.2.1, w7.2.2.2.1, ()))
    ((IntKind.i64.wrap ((y1.1.length : Int) - (1 : Int))), (0 : Int), t2, (t2.length : Int), (0 : Int), x.1.1, x.1.2.1, x.1.2.2, y1.1, y1.2, ())
  else none
noncomputable def f46L (k : Nat) : Sums := [(32050, f46p0S k), (250, f46l1S k), (126, f46p2S k)]
theorem f46LS (k : Nat) : SumsOk P Go.Proofs.Tryd.f38.ntmps (f46L k) (codeOf Go.Proofs.Tryd.f38) 1 := (((SumsOk.nil).cons (c := f46p2C) (by kernel_rfl) (f46p2O k)).cons (c := f46l1C) (by kernel_rfl) (f46l1O k)).cons (c := f46p0C) (by kernel_rfl) (f46p0O k)
theorem f46E (k : Nat) (x : (Int × (Int × Int)) × ByteArray) : evFS tab (f46T k) (f46L k) Go.Proofs.Tryd.f38.ntmps Go.Proofs.Tryd.f38.results.toList (codeOf Go.Proofs.Tryd.f38) (argsV [.agg (.pair (.int .i64) (.pair (.int .i64) (.int .i64))), .dat .str] x) [.dat (.int .i64), .dat (.int .i64), .dat (.int .i64)] = f46F k x := by kernel_rfl
theorem f46Ok (k : Nat) (x : (Int × (Int × Int)) × ByteArray) (y : Int × Int × Int) (h : f46F k x = some y) : FnOk P 38 [.agg (.pair (.int .i64) (.pair (.int .i64) (.int .i64))), .dat .str] [.dat (.int .i64), .dat (.int .i64), .dat (.int .i64)] x y :=
  evFS_sound tabOk (f46TS k) mixed Go.Proofs.Tryd.func38 (c := codeOf Go.Proofs.Tryd.f38) (by kernel_rfl) (f46LS k) ((f46E k x).trans h)
/-! ## midrange/numeric.Decode -/
noncomputable def f16T (k : Nat) : Table := [(17, entFn [.agg (.pair (.int .i64) (.pair (.int .i64) (.int .i64))), .agg (.pair (.int .i64) .str)] [.dat (.int .i64)] (f29F k)), (19, entFn [.dat (.slice (.int .i64))] [.dat (.int .i64)] (f42F k)), (20, entFn [.dat .bool, .dat (.int .i64)] [.dat (.int .i64)] (f43F k)), (35, entFn [.agg (.pair (.int .i64) (.pair (.int .i64) (.int .i64)))] [.dat (.int .i64)] (f28F k)), (36, entFn [.agg (.pair (.int .i64) (.pair (.int .i64) (.int .i64)))] [.dat (.int .i64)] (f44F k)), (37, entFn [.dat .str] [.dat (.int .i64)] (f45F k)), (38, entFn [.agg (.pair (.int .i64) (.pair (.int .i64) (.int .i64))), .dat .str] [.dat (.int .i64), .dat (.int .i64), .dat (.int .i64)] (f46F k))]
theorem f16TS (k : Nat) : Sound P (f16T k) := (((((((Sound.nil).cons f46B (f46Ok k)).cons f45B (f45Ok k)).cons f44B (f44Ok k)).cons f28B (f28Ok k)).cons f43B (f43Ok k)).cons f42B (f42Ok k)).cons f29B (f29Ok k)
theorem f16B : HasBody P 15 := ⟨Go.Proofs.Tryd.f15, Go.Proofs.Tryd.func15, by kernel_rfl, by kernel_rfl⟩
noncomputable def f16p0H : Shape := ⟨[(1, .one (.str)), (2, .one (.ptr 0 0)), (4, .one (.ptr 1 0)), (7, .one (.int .i64))], [(0, .var [.int .i64, .int .i64, .int .i64]), (1, .var [.int .i64, .str])], 2⟩
noncomputable def f16p0X0 : Shape := ⟨[(1, .one (.str)), (2, .one (.ptr 0 0)), (4, .one (.ptr 1 0)), (7, .one (.int .i64))], [(0, .var [.int .i64, .int .i64, .int .i64]), (1, .var [.int .i64, .str])], 2⟩
noncomputable def f16p0N : NoteR := ⟨[1, 2, 4, 7], [], []⟩
noncomputable def f16p0M : NoteR := ⟨[1, 2, 4, 5, 6, 7], [], []⟩
noncomputable def f16p0C : Code := firstC (codesAt 14 (codeOf Go.Proofs.Tryd.f15) 1)
noncomputable def f16p0 {R : Type} (k : Nat) (k0 : ByteArray × Int × Int × Int × Int × Int × ByteArray × Unit → Option R) (v : ByteArray × Int × Int × Int × Int × Int × ByteArray × Unit) : Option R :=
  bif (v.2.1 == (0 : Int)) then
    Option.bind (f44F k (v.2.2.1, (v.2.2.2.1, v.2.2.2.2.1))) fun y4 =>
    Option.bind (f43F k (((v.1.size : Int) != y4), (18 : Int))) fun y5 =>
    k0 (v.1, y5, v.2.2.1, v.2.2.2.1, v.2.2.2.2.1, v.2.2.2.2.2.1, v.2.2.2.2.2.2.1, ())
  else
  k0 (v.1, v.2.1, v.2.2.1, v.2.2.2.1, v.2.2.2.2.1, v.2.2.2.2.2.1, v.2.2.2.2.2.2.1, ())
noncomputable def f16p0S (k : Nat) : Sum1 := partSum f16p0H f16p0N (fun R K v => f16p0 k (fun w => K .normal (encSt f16p0X0 w)) v)
theorem f16p0E (k : Nat) (R : Type) (K : X → St → Option R) (v : f16p0H.Den) : evS tab (f16T k) Go.Proofs.Tryd.f15.ntmps [] f16p0C 14 (partK f16p0M K) (encSt f16p0H v) = f16p0 k (fun w => K .normal (encSt f16p0X0 w)) v := by kernel_rfl
theorem f16p0I (k : Nat) : SumsOk P Go.Proofs.Tryd.f15.ntmps [] f16p0C 14 := SumsOk.nil
theorem f16p0O (k : Nat) : SumOk P Go.Proofs.Tryd.f15.ntmps f16p0C (f16p0S k) := sum_part tabOk (f16TS k) mixed (f16p0I k) (f16p0E k)
noncomputable def f16F (k : Nat) (x : (Int × (Int × Int)) × ByteArray) : Option ((Int × ByteArray) × Int × Int) :=
  Option.bind (f28F k (x.1.1, (x.1.2.1, x.1.2.2))) fun y1 =>
  Option.bind (f43F k ((x.1.1 == (4 : Int)), (17 : Int))) fun y2 =>
  Option.bind (f42F k [y1, y2]) fun y3 =>
  f16p0 k
    (fun (w6 : ByteArray × Int × Int × Int × Int × Int × ByteArray × Unit) =>
      bif (w6.2.1 != (0 : Int)) then
        some (((0 : Int), ByteArray.empty), (0 : Int), w6.2.1)
      else
      bif (w6.2.2.1 == (0 : Int)) then
        some (((0 : Int), w6.1), (0 : Int), (0 : Int))
      else
      bif (w6.2.2.1 == (3 : Int)) then
        Option.bind (f45F k w6.1) fun y7 =>
        Option.bind (f29F k ((w6.2.2.1, (w6.2.2.2.1, w6.2.2.2.2.1)), (y7, ByteArray.empty))) fun y8 =>
        bif (y8 != (0 : Int)) then
          some (((0 : Int), ByteArray.empty), (0 : Int), y8)
        else
        some ((y7, ByteArray.empty), (0 : Int), (0 : Int))
      else
      Option.bind (f46F k ((w6.2.2.1, (w6.2.2.2.1, w6.2.2.2.2.1)), w6.1)) fun y9 =>
      some ((y9.1, ByteArray.empty), y9.2.1, y9.2.2))
    (x.2, y3, x.1.1, x.1.2.1, x.1.2.2, (0 : Int), ByteArray.empty, ())
noncomputable def f16L (k : Nat) : Sums := [(14, f16p0S k)]
theorem f16LS (k : Nat) : SumsOk P Go.Proofs.Tryd.f15.ntmps (f16L k) (codeOf Go.Proofs.Tryd.f15) 1 := (SumsOk.nil).cons (c := f16p0C) (by kernel_rfl) (f16p0O k)
theorem f16E (k : Nat) (x : (Int × (Int × Int)) × ByteArray) : evFS tab (f16T k) (f16L k) Go.Proofs.Tryd.f15.ntmps Go.Proofs.Tryd.f15.results.toList (codeOf Go.Proofs.Tryd.f15) (argsV [.agg (.pair (.int .i64) (.pair (.int .i64) (.int .i64))), .dat .str] x) [.agg (.pair (.int .i64) .str), .dat (.int .i64), .dat (.int .i64)] = f16F k x := by kernel_rfl
theorem f16Ok (k : Nat) (x : (Int × (Int × Int)) × ByteArray) (y : (Int × ByteArray) × Int × Int) (h : f16F k x = some y) : FnOk P 15 [.agg (.pair (.int .i64) (.pair (.int .i64) (.int .i64))), .dat .str] [.agg (.pair (.int .i64) .str), .dat (.int .i64), .dat (.int .i64)] x y :=
  evFS_sound tabOk (f16TS k) mixed Go.Proofs.Tryd.func15 (c := codeOf Go.Proofs.Tryd.f15) (by kernel_rfl) (f16LS k) ((f16E k x).trans h)
/-! ## midrange/midrangelaw01.awake -/
noncomputable def f13T (k : Nat) : Table := [(15, entFn [.agg (.pair (.int .i64) (.pair (.int .i64) (.int .i64))), .dat .str] [.agg (.pair (.int .i64) .str), .dat (.int .i64), .dat (.int .i64)] (f16F k)), (16, entFn [.agg (.pair (.int .i64) (.pair (.int .i64) (.int .i64))), .agg (.pair (.int .i64) .str)] [.dat .str, .dat (.int .i64)] (f14F k)), (18, entFn [] [.agg (.pair (.int .i64) (.pair (.int .i64) (.int .i64)))] (f39F k))]
theorem f13TS (k : Nat) : Sound P (f13T k) := (((Sound.nil).cons f39B (f39Ok k)).cons f14B (f14Ok k)).cons f16B (f16Ok k)
theorem f13B : HasBody P 6 := ⟨Go.Proofs.Tryd.f6, Go.Proofs.Tryd.func6, by kernel_rfl, by kernel_rfl⟩
noncomputable def f13F (k : Nat) (x : Unit) : Option (Bool) :=
  Option.bind (f39F k ()) fun y1 =>
  Option.bind (f14F k ((y1.1, (y1.2.1, y1.2.2)), ((-12345 : Int), ByteArray.empty))) fun y2 =>
  Option.bind (f39F k ()) fun y3 =>
  Option.bind (f16F k ((y3.1, (y3.2.1, y3.2.2)), (⟨#[18, 52, 93]⟩ : ByteArray))) fun y4 =>
  bif (y2.2 == (0 : Int)) then
    bif (strEq y2.1 (⟨#[18, 52, 93]⟩ : ByteArray)) then
      bif (y4.2.2 == (0 : Int)) then
        bif (y4.2.1 == (0 : Int)) then
          let t5 := ((y4.1.1 == (-12345 : Int)) && ((strEq y4.1.2 ByteArray.empty) && true))
          some t5
        else
        some false
      else
      some false
    else
    some false
  else
  some false
noncomputable def f13L (k : Nat) : Sums := []
theorem f13LS (k : Nat) : SumsOk P Go.Proofs.Tryd.f6.ntmps (f13L k) (codeOf Go.Proofs.Tryd.f6) 1 := SumsOk.nil
theorem f13E (k : Nat) (x : Unit) : evFS tab (f13T k) (f13L k) Go.Proofs.Tryd.f6.ntmps Go.Proofs.Tryd.f6.results.toList (codeOf Go.Proofs.Tryd.f6) (argsV [] x) [.dat .bool] = f13F k x := by kernel_rfl
theorem f13Ok (k : Nat) (x : Unit) (y : Bool) (h : f13F k x = some y) : FnOk P 6 [] [.dat .bool] x y :=
  evFS_sound tabOk (f13TS k) mixed Go.Proofs.Tryd.func6 (c := codeOf Go.Proofs.Tryd.f6) (by kernel_rfl) (f13LS k) ((f13E k x).trans h)
/-! ## midrange/numeric.isDigit -/
noncomputable def f260T (k : Nat) : Table := []
theorem f260TS (k : Nat) : Sound P (f260T k) := Sound.nil
theorem f260B : HasBody P 60 := ⟨Go.Proofs.Tryd.f60, Go.Proofs.Tryd.func60, by kernel_rfl, by kernel_rfl⟩
noncomputable def f260F (k : Nat) (x : ByteArray × Int) : Option (Bool) :=
  bif (decide (x.2 < (x.1.size : Int))) then
    bif ((decide ((0 : Int) ≤ x.2)) && (decide (x.2 < (x.1.size : Int)))) then
    bif (decide ((48 : Int) ≤ (bt x.1 x.2))) then
      bif ((decide ((0 : Int) ≤ x.2)) && (decide (x.2 < (x.1.size : Int)))) then
      some (decide ((bt x.1 x.2) ≤ (57 : Int)))
      else none
    else
    some false
    else none
  else
  some false
noncomputable def f260L (k : Nat) : Sums := []
theorem f260LS (k : Nat) : SumsOk P Go.Proofs.Tryd.f60.ntmps (f260L k) (codeOf Go.Proofs.Tryd.f60) 1 := SumsOk.nil
theorem f260E (k : Nat) (x : ByteArray × Int) : evFS tab (f260T k) (f260L k) Go.Proofs.Tryd.f60.ntmps Go.Proofs.Tryd.f60.results.toList (codeOf Go.Proofs.Tryd.f60) (argsV [.dat .str, .dat (.int .i64)] x) [.dat .bool] = f260F k x := by kernel_rfl
theorem f260Ok (k : Nat) (x : ByteArray × Int) (y : Bool) (h : f260F k x = some y) : FnOk P 60 [.dat .str, .dat (.int .i64)] [.dat .bool] x y :=
  evFS_sound tabOk (f260TS k) mixed Go.Proofs.Tryd.func60 (c := codeOf Go.Proofs.Tryd.f60) (by kernel_rfl) (f260LS k) ((f260E k x).trans h)
/-! ## midrange/numeric.run -/
noncomputable def f241T (k : Nat) : Table := [(60, entFn [.dat .str, .dat (.int .i64)] [.dat .bool] (f260F k))]
theorem f241TS (k : Nat) : Sound P (f241T k) := (Sound.nil).cons f260B (f260Ok k)
theorem f241B : HasBody P 41 := ⟨Go.Proofs.Tryd.f41, Go.Proofs.Tryd.func41, by kernel_rfl, by kernel_rfl⟩
noncomputable def f241l0H : Shape := ⟨[(0, .one (.str)), (1, .one (.int .i64))], [], 0⟩
noncomputable def f241l0X0 : Shape := ⟨[(1, .one (.int .i64))], [], 0⟩
noncomputable def f241l0N : NoteR := ⟨[0, 1], [], []⟩
noncomputable def f241l0M : NoteR := ⟨[1, 4, 5], [], []⟩
noncomputable def f241l0C : Code := firstC (codesAt 28 (codeOf Go.Proofs.Tryd.f41) 1)
noncomputable def f241l0s {R : Type} (k : Nat) (rec : ByteArray × Int × Unit → Option R) (k0 : Int × Unit → Option R) (v : ByteArray × Int × Unit) : Option R :=
  Option.bind (f260F k (v.1, v.2.1)) fun y2 =>
  bif y2 then
    rec (v.1, (IntKind.i64.wrap (v.2.1 + (1 : Int))), ())
  else
  k0 (v.2.1, ())
noncomputable def f241l0 {R : Type} (k : Nat) (k0 : Int × Unit → Option R) (v : ByteArray × Int × Unit) : Option R := iterS (fun rec v => f241l0s k rec k0 v) k v
noncomputable def f241l0S (k : Nat) : Sum1 := loopSum f241l0H f241l0N k (fun R rec K v => f241l0s k rec (fun w => K (.exit 0) (encSt f241l0X0 w)) v)
theorem f241l0E (k : Nat) (R : Type) (rec : St → Option R) (K : X → St → Option R) (v : f241l0H.Den) : evS tab (f241T k) Go.Proofs.Tryd.f41.ntmps [] (bodyOf f241l0C) 56 (bodyK f241l0N f241l0M rec K) (encSt f241l0H v) = f241l0s k (fun v => rec (encSt f241l0H v)) (fun w => K (.exit 0) (encSt f241l0X0 w)) v := by kernel_rfl
theorem f241l0I (k : Nat) : SumsOk P Go.Proofs.Tryd.f41.ntmps [] (bodyOf f241l0C) 56 := SumsOk.nil
theorem f241l0O (k : Nat) : SumOk P Go.Proofs.Tryd.f41.ntmps f241l0C (f241l0S k) := (show f241l0C = .loop (bodyOf f241l0C) by kernel_rfl) ▸ sum_loop tabOk (f241TS k) mixed (f241l0I k) (f241l0E k)
noncomputable def f241F (k : Nat) (x : ByteArray × Int) : Option (Int × Int) :=
  Option.bind (f260F k (x.1, x.2)) fun y1 =>
  bif (!y1) then
    bif (decide (x.2 < (x.1.size : Int))) then
      some (x.2, (8 : Int))
    else
    some (x.2, (9 : Int))
  else
  f241l0 k
    (fun (w3 : Int × Unit) =>
      some (w3.1, (0 : Int)))
    (x.1, x.2, ())
noncomputable def f241L (k : Nat) : Sums := [(28, f241l0S k)]
theorem f241LS (k : Nat) : SumsOk P Go.Proofs.Tryd.f41.ntmps (f241L k) (codeOf Go.Proofs.Tryd.f41) 1 := (SumsOk.nil).cons (c := f241l0C) (by kernel_rfl) (f241l0O k)
theorem f241E (k : Nat) (x : ByteArray × Int) : evFS tab (f241T k) (f241L k) Go.Proofs.Tryd.f41.ntmps Go.Proofs.Tryd.f41.results.toList (codeOf Go.Proofs.Tryd.f41) (argsV [.dat .str, .dat (.int .i64)] x) [.dat (.int .i64), .dat (.int .i64)] = f241F k x := by kernel_rfl
theorem f241Ok (k : Nat) (x : ByteArray × Int) (y : Int × Int) (h : f241F k x = some y) : FnOk P 41 [.dat .str, .dat (.int .i64)] [.dat (.int .i64), .dat (.int .i64)] x y :=
  evFS_sound tabOk (f241TS k) mixed Go.Proofs.Tryd.func41 (c := codeOf Go.Proofs.Tryd.f41) (by kernel_rfl) (f241LS k) ((f241E k x).trans h)
/-! ## midrange/numeric.layout -/
noncomputable def f221T (k : Nat) : Table := [(41, entFn [.dat .str, .dat (.int .i64)] [.dat (.int .i64), .dat (.int .i64)] (f241F k))]
theorem f221TS (k : Nat) : Sound P (f221T k) := (Sound.nil).cons f241B (f241Ok k)
theorem f221B : HasBody P 21 := ⟨Go.Proofs.Tryd.f21, Go.Proofs.Tryd.func21, by kernel_rfl, by kernel_rfl⟩
noncomputable def f221p0H : Shape := ⟨[(0, .one (.str)), (2, .one (.int .i64))], [], 0⟩
noncomputable def f221p0X0 : Shape := ⟨[(0, .one (.str)), (2, .one (.int .i64))], [], 0⟩
noncomputable def f221p0N : NoteR := ⟨[0, 2], [], []⟩
noncomputable def f221p0M : NoteR := ⟨[0, 2, 3, 4], [], []⟩
noncomputable def f221p0C : Code := firstC (codesAt 6 (codeOf Go.Proofs.Tryd.f21) 1)
noncomputable def f221p0 {R : Type} (k : Nat) (k0 : ByteArray × Int × Unit → Option R) (v : ByteArray × Int × Unit) : Option R :=
  bif (decide ((0 : Int) < (v.1.size : Int))) then
  bif ((bt v.1 (0 : Int)) == (45 : Int)) then
    k0 (v.1, (1 : Int), ())
  else
  k0 (v.1, v.2.1, ())
  else none
noncomputable def f221p0S (k : Nat) : Sum1 := partSum f221p0H f221p0N (fun R K v => f221p0 k (fun w => K .normal (encSt f221p0X0 w)) v)
theorem f221p0E (k : Nat) (R : Type) (K : X → St → Option R) (v : f221p0H.Den) : evS tab (f221T k) Go.Proofs.Tryd.f21.ntmps [] f221p0C 6 (partK f221p0M K) (encSt f221p0H v) = f221p0 k (fun w => K .normal (encSt f221p0X0 w)) v := by kernel_rfl
theorem f221p0I (k : Nat) : SumsOk P Go.Proofs.Tryd.f21.ntmps [] f221p0C 6 := SumsOk.nil
theorem f221p0O (k : Nat) : SumOk P Go.Proofs.Tryd.f21.ntmps f221p0C (f221p0S k) := sum_part tabOk (f221TS k) mixed (f221p0I k) (f221p0E k)
noncomputable def f221p1H : Shape := ⟨[(0, .one (.str)), (2, .one (.int .i64)), (3, .one (.int .i64))], [], 0⟩
noncomputable def f221p1X0 : Shape := ⟨[(0, .one (.str)), (2, .one (.int .i64)), (3, .one (.int .i64)), (4, .one (.int .i64))], [], 0⟩
noncomputable def f221p1X1 : Shape := ⟨[(0, .one (.str)), (2, .one (.int .i64)), (3, .one (.int .i64))], [], 0⟩
noncomputable def f221p1N : NoteR := ⟨[0, 2, 3], [], []⟩
noncomputable def f221p1M : NoteR := ⟨[0, 2, 3, 4], [], []⟩
noncomputable def f221p1C : Code := firstC (codesAt 62 (codeOf Go.Proofs.Tryd.f21) 1)
noncomputable def f221p1 {R : Type} (k : Nat) (k0 : ByteArray × Int × Int × Int × Unit → Option R) (k1 : ByteArray × Int × Int × Unit → Option R) (v : ByteArray × Int × Int × Unit) : Option R :=
  bif ((decide ((0 : Int) ≤ v.2.1)) && (decide (v.2.1 < (v.1.size : Int)))) then
  bif ((bt v.1 v.2.1) == (48 : Int)) then
    bif (decide (v.2.2.1 > (IntKind.i64.wrap (v.2.1 + (1 : Int))))) then
      k0 (v.1, (0 : Int), (IntKind.i64.wrap (v.2.1 + (1 : Int))), (8 : Int), ())
    else
    k1 (v.1, v.2.1, v.2.2.1, ())
  else
  k1 (v.1, v.2.1, v.2.2.1, ())
  else none
noncomputable def f221p1S (k : Nat) : Sum1 := partSum f221p1H f221p1N (fun R K v => f221p1 k (fun w => K .ret (encSt f221p1X0 w)) (fun w => K .normal (encSt f221p1X1 w)) v)
theorem f221p1E (k : Nat) (R : Type) (K : X → St → Option R) (v : f221p1H.Den) : evS tab (f221T k) Go.Proofs.Tryd.f21.ntmps [] f221p1C 62 (partK f221p1M K) (encSt f221p1H v) = f221p1 k (fun w => K .ret (encSt f221p1X0 w)) (fun w => K .normal (encSt f221p1X1 w)) v := by kernel_rfl
theorem f221p1I (k : Nat) : SumsOk P Go.Proofs.Tryd.f21.ntmps [] f221p1C 62 := SumsOk.nil
theorem f221p1O (k : Nat) : SumOk P Go.Proofs.Tryd.f21.ntmps f221p1C (f221p1S k) := sum_part tabOk (f221TS k) mixed (f221p1I k) (f221p1E k)
noncomputable def f221p2H : Shape := ⟨[(0, .one (.str)), (2, .one (.int .i64)), (3, .one (.int .i64)), (4, .one (.int .i64)), (5, .one (.int .i64))], [], 0⟩
noncomputable def f221p2X0 : Shape := ⟨[(2, .one (.int .i64)), (3, .one (.int .i64)), (4, .one (.int .i64)), (5, .one (.int .i64))], [], 0⟩
noncomputable def f221p2N : NoteR := ⟨[0, 2, 3, 4, 5], [], []⟩
noncomputable def f221p2M : NoteR := ⟨[2, 3, 4, 5], [], []⟩
noncomputable def f221p2C : Code := firstC (codesAt 1022 (codeOf Go.Proofs.Tryd.f21) 1)
noncomputable def f221p2 {R : Type} (k : Nat) (k0 : Int × Int × Int × Int × Unit → Option R) (v : ByteArray × Int × Int × Int × Int × Unit) : Option R :=
  bif (v.2.2.2.1 == (0 : Int)) then
    bif (decide (v.2.2.2.2.1 < (v.1.size : Int))) then
      k0 (v.2.1, v.2.2.1, (8 : Int), v.2.2.2.2.1, ())
    else
    k0 (v.2.1, v.2.2.1, v.2.2.2.1, v.2.2.2.2.1, ())
  else
  k0 (v.2.1, v.2.2.1, v.2.2.2.1, v.2.2.2.2.1, ())
noncomputable def f221p2S (k : Nat) : Sum1 := partSum f221p2H f221p2N (fun R K v => f221p2 k (fun w => K .normal (encSt f221p2X0 w)) v)
theorem f221p2E (k : Nat) (R : Type) (K : X → St → Option R) (v : f221p2H.Den) : evS tab (f221T k) Go.Proofs.Tryd.f21.ntmps [] f221p2C 1022 (partK f221p2M K) (encSt f221p2H v) = f221p2 k (fun w => K .normal (encSt f221p2X0 w)) v := by kernel_rfl
theorem f221p2I (k : Nat) : SumsOk P Go.Proofs.Tryd.f21.ntmps [] f221p2C 1022 := SumsOk.nil
theorem f221p2O (k : Nat) : SumOk P Go.Proofs.Tryd.f21.ntmps f221p2C (f221p2S k) := sum_part tabOk (f221TS k) mixed (f221p2I k) (f221p2E k)
noncomputable def f221F (k : Nat) (x : ByteArray) : Option (Int × Int × Int) :=
  f221p0 k
    (fun (w1 : ByteArray × Int × Unit) =>
      Option.bind (f241F k (w1.1, w1.2.1)) fun y2 =>
      bif (y2.2 != (0 : Int)) then
        some ((0 : Int), y2.1, y2.2)
      else
      f221p1 k
        (fun (w3 : ByteArray × Int × Int × Int × Unit) =>
          some (w3.2.1, w3.2.2.1, w3.2.2.2.1))
        (fun (w4 : ByteArray × Int × Int × Unit) =>
          bif (w4.2.2.1 == (w4.1.size : Int)) then
            some (w4.2.1, w4.2.2.1, (0 : Int))
          else
          bif ((decide ((0 : Int) ≤ w4.2.2.1)) && (decide (w4.2.2.1 < (w4.1.size : Int)))) then
          bif ((bt w4.1 w4.2.2.1) != (46 : Int)) then
            some ((0 : Int), w4.2.2.1, (8 : Int))
          else
          Option.bind (f241F k (w4.1, (IntKind.i64.wrap (w4.2.2.1 + (1 : Int))))) fun y5 =>
          f221p2 k
            (fun (w6 : Int × Int × Int × Int × Unit) =>
              bif (w6.2.2.1 != (0 : Int)) then
                some ((0 : Int), w6.2.2.2.1, w6.2.2.1)
              else
              some (w6.1, w6.2.1, (0 : Int)))
            (w4.1, w4.2.1, w4.2.2.1, y5.2, y5.1, ())
          else none)
        (w1.1, w1.2.1, y2.1, ()))
    (x, (0 : Int), ())
noncomputable def f221L (k : Nat) : Sums := [(6, f221p0S k), (62, f221p1S k), (1022, f221p2S k)]
theorem f221LS (k : Nat) : SumsOk P Go.Proofs.Tryd.f21.ntmps (f221L k) (codeOf Go.Proofs.Tryd.f21) 1 := (((SumsOk.nil).cons (c := f221p2C) (by kernel_rfl) (f221p2O k)).cons (c := f221p1C) (by kernel_rfl) (f221p1O k)).cons (c := f221p0C) (by kernel_rfl) (f221p0O k)
theorem f221E (k : Nat) (x : ByteArray) : evFS tab (f221T k) (f221L k) Go.Proofs.Tryd.f21.ntmps Go.Proofs.Tryd.f21.results.toList (codeOf Go.Proofs.Tryd.f21) (argsV [.dat .str] x) [.dat (.int .i64), .dat (.int .i64), .dat (.int .i64)] = f221F k x := by kernel_rfl
theorem f221Ok (k : Nat) (x : ByteArray) (y : Int × Int × Int) (h : f221F k x = some y) : FnOk P 21 [.dat .str] [.dat (.int .i64), .dat (.int .i64), .dat (.int .i64)] x y :=
  evFS_sound tabOk (f221TS k) mixed Go.Proofs.Tryd.func21 (c := codeOf Go.Proofs.Tryd.f21) (by kernel_rfl) (f221LS k) ((f221E k x).trans h)
/-! ## internal/stringslite.Cut -/
noncomputable def f242T (k : Nat) : Table := [(61, entFn [.dat .str, .dat .str] [.dat (.int .i64)] (f261F k))]
theorem f242TS (k : Nat) : Sound P (f242T k) := (Sound.nil).cons f261B (f261Ok k)
theorem f242B : HasBody P 42 := ⟨Go.Proofs.Tryd.f42, Go.Proofs.Tryd.func42, by kernel_rfl, by kernel_rfl⟩
noncomputable def f242F (k : Nat) (x : ByteArray × ByteArray) : Option (ByteArray × ByteArray × Bool) :=
  Option.bind (f261F k (x.1, x.2)) fun y1 =>
  bif (decide (y1 ≥ (0 : Int))) then
    bif (sliceBds (0 : Int) y1 (x.1.size : Int)) then
    bif (sliceBds (IntKind.i64.wrap (y1 + (x.2.size : Int))) (x.1.size : Int) (x.1.size : Int)) then
    let t2 := (x.1.extract (Int.toNat (IntKind.i64.wrap (y1 + (x.2.size : Int)))) (Int.toNat (x.1.size : Int)))
    some ((x.1.extract 0 (Int.toNat y1)), t2, true)
    else none
    else none
  else
  some (x.1, ByteArray.empty, false)
noncomputable def f242L (k : Nat) : Sums := []
theorem f242LS (k : Nat) : SumsOk P Go.Proofs.Tryd.f42.ntmps (f242L k) (codeOf Go.Proofs.Tryd.f42) 1 := SumsOk.nil
theorem f242E (k : Nat) (x : ByteArray × ByteArray) : evFS tab (f242T k) (f242L k) Go.Proofs.Tryd.f42.ntmps Go.Proofs.Tryd.f42.results.toList (codeOf Go.Proofs.Tryd.f42) (argsV [.dat .str, .dat .str] x) [.dat .str, .dat .str, .dat .bool] = f242F k x := by kernel_rfl
theorem f242Ok (k : Nat) (x : ByteArray × ByteArray) (y : ByteArray × ByteArray × Bool) (h : f242F k x = some y) : FnOk P 42 [.dat .str, .dat .str] [.dat .str, .dat .str, .dat .bool] x y :=
  evFS_sound tabOk (f242TS k) mixed Go.Proofs.Tryd.func42 (c := codeOf Go.Proofs.Tryd.f42) (by kernel_rfl) (f242LS k) ((f242E k x).trans h)
/-! ## strings.Cut -/
noncomputable def f222T (k : Nat) : Table := [(42, entFn [.dat .str, .dat .str] [.dat .str, .dat .str, .dat .bool] (f242F k))]
theorem f222TS (k : Nat) : Sound P (f222T k) := (Sound.nil).cons f242B (f242Ok k)
theorem f222B : HasBody P 22 := ⟨Go.Proofs.Tryd.f22, Go.Proofs.Tryd.func22, by kernel_rfl, by kernel_rfl⟩
noncomputable def f222F (k : Nat) (x : ByteArray × ByteArray) : Option (ByteArray × ByteArray × Bool) :=
  Option.bind (f242F k (x.1, x.2)) fun y1 =>
  some (y1.1, y1.2.1, y1.2.2)
noncomputable def f222L (k : Nat) : Sums := []
theorem f222LS (k : Nat) : SumsOk P Go.Proofs.Tryd.f22.ntmps (f222L k) (codeOf Go.Proofs.Tryd.f22) 1 := SumsOk.nil
theorem f222E (k : Nat) (x : ByteArray × ByteArray) : evFS tab (f222T k) (f222L k) Go.Proofs.Tryd.f22.ntmps Go.Proofs.Tryd.f22.results.toList (codeOf Go.Proofs.Tryd.f22) (argsV [.dat .str, .dat .str] x) [.dat .str, .dat .str, .dat .bool] = f222F k x := by kernel_rfl
theorem f222Ok (k : Nat) (x : ByteArray × ByteArray) (y : ByteArray × ByteArray × Bool) (h : f222F k x = some y) : FnOk P 22 [.dat .str, .dat .str] [.dat .str, .dat .str, .dat .bool] x y :=
  evFS_sound tabOk (f222TS k) mixed Go.Proofs.Tryd.func22 (c := codeOf Go.Proofs.Tryd.f22) (by kernel_rfl) (f222LS k) ((f222E k x).trans h)
/-! ## midrange/numeric.ParseNumber -/
noncomputable def f207T (k : Nat) : Table := [(19, entFn [.dat (.slice (.int .i64))] [.dat (.int .i64)] (f42F k)), (20, entFn [.dat .bool, .dat (.int .i64)] [.dat (.int .i64)] (f43F k)), (21, entFn [.dat .str] [.dat (.int .i64), .dat (.int .i64), .dat (.int .i64)] (f221F k)), (22, entFn [.dat .str, .dat .str] [.dat .str, .dat .str, .dat .bool] (f222F k)), (23, entFn [.dat .str, .dat .str] [.dat .str] (f223F k))]
theorem f207TS (k : Nat) : Sound P (f207T k) := (((((Sound.nil).cons f223B (f223Ok k)).cons f222B (f222Ok k)).cons f221B (f221Ok k)).cons f43B (f43Ok k)).cons f42B (f42Ok k)
theorem f207B : HasBody P 7 := ⟨Go.Proofs.Tryd.f7, Go.Proofs.Tryd.func7, by kernel_rfl, by kernel_rfl⟩
noncomputable def f207l0H : Shape := ⟨[(0, .one (.str)), (2, .one (.ptr 0 0)), (6, .one (.int .i64)), (10, .one (.str)), (13, .one (.int .i64)), (57, .one (.own 1)), (58, .one (.int .i64)), (59, .one (.int .i64))], [(0, .var [.int .i64, .int .i64]), (1, .row 5 (.int .u8) .mark)], 2⟩
noncomputable def f207l0X0 : Shape := ⟨[(0, .one (.str)), (2, .one (.ptr 0 0)), (6, .one (.int .i64)), (10, .one (.str)), (13, .one (.int .i64))], [(0, .var [.int .i64, .int .i64])], 1⟩
noncomputable def f207l0N : NoteR := ⟨[0, 2, 6, 10, 13, 57, 58, 59], [], []⟩
noncomputable def f207l0M : NoteR := ⟨[0, 2, 3, 4, 6, 10, 13], [], []⟩
noncomputable def f207l0C : Code := firstC (codesAt 4090 (codeOf Go.Proofs.Tryd.f7) 1)
noncomputable def f207l0s {R : Type} (k : Nat) (rec : ByteArray × Int × ByteArray × Int × Int × Int × Int × Int × List Int × Unit → Option R) (k0 : ByteArray × Int × ByteArray × Int × Int × Int × Unit → Option R) (v : ByteArray × Int × ByteArray × Int × Int × Int × Int × Int × List Int × Unit) : Option R :=
  bif (decide (v.2.2.2.2.2.1 < v.2.2.2.2.1)) then
    bif ((decide ((0 : Int) ≤ v.2.2.2.2.2.1)) && (decide (v.2.2.2.2.2.1 < (v.2.2.2.2.2.2.2.2.1.length : Int)))) then
    let t7 := (IntKind.u8.wrap ((v.2.2.2.2.2.2.2.2.1.getD (Int.toNat v.2.2.2.2.2.1) (0 : Int)) - (48 : Int)))
    let t8 := (IntKind.i64.wrap ((IntKind.i64.wrap (v.2.2.2.1 * (10 : Int))) + (IntKind.i64.wrap t7)))
    rec (v.1, v.2.1, v.2.2.1, t8, v.2.2.2.2.1, (IntKind.i64.wrap (v.2.2.2.2.2.1 + (1 : Int))), v.2.2.2.2.2.2.1, v.2.2.2.2.2.2.2.1, v.2.2.2.2.2.2.2.2.1, ())
    else none
  else
  k0 (v.1, v.2.1, v.2.2.1, v.2.2.2.1, v.2.2.2.2.2.2.1, v.2.2.2.2.2.2.2.1, ())
noncomputable def f207l0 {R : Type} (k : Nat) (k0 : ByteArray × Int × ByteArray × Int × Int × Int × Unit → Option R) (v : ByteArray × Int × ByteArray × Int × Int × Int × Int × Int × List Int × Unit) : Option R := iterS (fun rec v => f207l0s k rec k0 v) k v
noncomputable def f207l0S (k : Nat) : Sum1 := loopSum f207l0H f207l0N k (fun R rec K v => f207l0s k rec (fun w => K (.exit 0) (encSt f207l0X0 w)) v)
theorem f207l0E (k : Nat) (R : Type) (rec : St → Option R) (K : X → St → Option R) (v : f207l0H.Den) : evS tab (f207T k) Go.Proofs.Tryd.f7.ntmps [] (bodyOf f207l0C) 8180 (bodyK f207l0N f207l0M rec K) (encSt f207l0H v) = f207l0s k (fun v => rec (encSt f207l0H v)) (fun w => K (.exit 0) (encSt f207l0X0 w)) v := by kernel_rfl
theorem f207l0I (k : Nat) : SumsOk P Go.Proofs.Tryd.f7.ntmps [] (bodyOf f207l0C) 8180 := SumsOk.nil
theorem f207l0O (k : Nat) : SumOk P Go.Proofs.Tryd.f7.ntmps f207l0C (f207l0S k) := (show f207l0C = .loop (bodyOf f207l0C) by kernel_rfl) ▸ sum_loop tabOk (f207TS k) mixed (f207l0I k) (f207l0E k)
noncomputable def f207p1H : Shape := ⟨[(0, .one (.str)), (2, .one (.ptr 0 0)), (6, .one (.int .i64)), (10, .one (.str)), (13, .one (.int .i64))], [(0, .var [.int .i64, .int .i64])], 1⟩
noncomputable def f207p1X0 : Shape := ⟨[(0, .one (.str)), (2, .one (.ptr 0 0)), (6, .one (.int .i64)), (10, .one (.str)), (13, .one (.int .i64))], [(0, .var [.int .i64, .int .i64])], 1⟩
noncomputable def f207p1N : NoteR := ⟨[0, 2, 6, 10, 13], [], []⟩
noncomputable def f207p1M : NoteR := ⟨[0, 2, 3, 4, 6, 10, 13], [], []⟩
noncomputable def f207p1C : Code := firstC (codesAt 2046 (codeOf Go.Proofs.Tryd.f7) 1)
noncomputable def f207p1 {R : Type} (k : Nat) (k0 : ByteArray × Int × ByteArray × Int × Int × Int × Unit → Option R) (v : ByteArray × Int × ByteArray × Int × Int × Int × Unit) : Option R :=
  bif (v.2.1 == (1 : Int)) then
    k0 (v.1, v.2.1, v.2.2.1, (IntKind.i64.wrap (0 - v.2.2.2.1)), v.2.2.2.2.1, v.2.2.2.2.2.1, ())
  else
  k0 (v.1, v.2.1, v.2.2.1, v.2.2.2.1, v.2.2.2.2.1, v.2.2.2.2.2.1, ())
noncomputable def f207p1S (k : Nat) : Sum1 := partSum f207p1H f207p1N (fun R K v => f207p1 k (fun w => K .normal (encSt f207p1X0 w)) v)
theorem f207p1E (k : Nat) (R : Type) (K : X → St → Option R) (v : f207p1H.Den) : evS tab (f207T k) Go.Proofs.Tryd.f7.ntmps [] f207p1C 2046 (partK f207p1M K) (encSt f207p1H v) = f207p1 k (fun w => K .normal (encSt f207p1X0 w)) v := by kernel_rfl
theorem f207p1I (k : Nat) : SumsOk P Go.Proofs.Tryd.f7.ntmps [] f207p1C 2046 := SumsOk.nil
theorem f207p1O (k : Nat) : SumOk P Go.Proofs.Tryd.f7.ntmps f207p1C (f207p1S k) := sum_part tabOk (f207TS k) mixed (f207p1I k) (f207p1E k)
noncomputable def f207F (k : Nat) (x : ByteArray) : Option ((Int × Int) × Int × Int) :=
  Option.bind (f43F k ((decide ((x.size : Int) > (40 : Int))), (2 : Int))) fun y1 =>
  Option.bind (f43F k ((strEq x ByteArray.empty), (1 : Int))) fun y2 =>
  Option.bind (f42F k [y1, y2]) fun y3 =>
  bif (y3 != (0 : Int)) then
    some (((0 : Int), (0 : Int)), (0 : Int), y3)
  else
  Option.bind (f221F k x) fun y4 =>
  bif (y4.2.2 != (0 : Int)) then
    some (((0 : Int), (0 : Int)), y4.2.1, y4.2.2)
  else
  bif (sliceBds y4.1 (x.size : Int) (x.size : Int)) then
  Option.bind (f222F k ((x.extract (Int.toNat y4.1) (Int.toNat (x.size : Int))), (⟨#[46]⟩ : ByteArray))) fun y5 =>
  Option.bind (f223F k (y5.1, (⟨#[48]⟩ : ByteArray))) fun y6 =>
  bif (decide (y6.size + y5.2.1.size ≤ 9223372036854775807)) then
  bif (decide (((y6 ++ y5.2.1).size : Int) > (15 : Int))) then
    some (((0 : Int), (0 : Int)), (0 : Int), (19 : Int))
  else
  bif (decide ((y6 ++ y5.2.1).size ≤ 9223372036854775807)) then
  f207l0 k
    (fun (w9 : ByteArray × Int × ByteArray × Int × Int × Int × Unit) =>
      f207p1 k
        (fun (w10 : ByteArray × Int × ByteArray × Int × Int × Int × Unit) =>
          some ((w10.2.2.2.1, (w10.2.2.1.size : Int)), (w10.1.size : Int), (0 : Int)))
        (w9.1, w9.2.1, w9.2.2.1, w9.2.2.2.1, w9.2.2.2.2.1, w9.2.2.2.2.2.1, ()))
    (x, y4.1, y5.2.1, (0 : Int), ((bytesOf (y6 ++ y5.2.1)).length : Int), (0 : Int), (0 : Int), (0 : Int), (bytesOf (y6 ++ y5.2.1)), ())
  else none
  else none
  else none
noncomputable def f207L (k : Nat) : Sums := [(4090, f207l0S k), (2046, f207p1S k)]
theorem f207LS (k : Nat) : SumsOk P Go.Proofs.Tryd.f7.ntmps (f207L k) (codeOf Go.Proofs.Tryd.f7) 1 := ((SumsOk.nil).cons (c := f207p1C) (by kernel_rfl) (f207p1O k)).cons (c := f207l0C) (by kernel_rfl) (f207l0O k)
theorem f207E (k : Nat) (x : ByteArray) : evFS tab (f207T k) (f207L k) Go.Proofs.Tryd.f7.ntmps Go.Proofs.Tryd.f7.results.toList (codeOf Go.Proofs.Tryd.f7) (argsV [.dat .str] x) [.agg (.pair (.int .i64) (.int .i64)), .dat (.int .i64), .dat (.int .i64)] = f207F k x := by kernel_rfl
theorem f207Ok (k : Nat) (x : ByteArray) (y : (Int × Int) × Int × Int) (h : f207F k x = some y) : FnOk P 7 [.dat .str] [.agg (.pair (.int .i64) (.int .i64)), .dat (.int .i64), .dat (.int .i64)] x y :=
  evFS_sound tabOk (f207TS k) mixed Go.Proofs.Tryd.func7 (c := codeOf Go.Proofs.Tryd.f7) (by kernel_rfl) (f207LS k) ((f207E k x).trans h)
/-! ## midrange/midrangebase.Count -/
noncomputable def f69T (k : Nat) : Table := []
theorem f69TS (k : Nat) : Sound P (f69T k) := Sound.nil
theorem f69B : HasBody P 24 := ⟨Go.Proofs.Tryd.f24, Go.Proofs.Tryd.func24, by kernel_rfl, by kernel_rfl⟩
noncomputable def f69F (k : Nat) (x : Bool) : Option (Int) :=
  bif x then
    some (1 : Int)
  else
  some (0 : Int)
noncomputable def f69L (k : Nat) : Sums := []
theorem f69LS (k : Nat) : SumsOk P Go.Proofs.Tryd.f24.ntmps (f69L k) (codeOf Go.Proofs.Tryd.f24) 1 := SumsOk.nil
theorem f69E (k : Nat) (x : Bool) : evFS tab (f69T k) (f69L k) Go.Proofs.Tryd.f24.ntmps Go.Proofs.Tryd.f24.results.toList (codeOf Go.Proofs.Tryd.f24) (argsV [.dat .bool] x) [.dat (.int .i64)] = f69F k x := by kernel_rfl
theorem f69Ok (k : Nat) (x : Bool) (y : Int) (h : f69F k x = some y) : FnOk P 24 [.dat .bool] [.dat (.int .i64)] x y :=
  evFS_sound tabOk (f69TS k) mixed Go.Proofs.Tryd.func24 (c := codeOf Go.Proofs.Tryd.f24) (by kernel_rfl) (f69LS k) ((f69E k x).trans h)
/-! ## midrange/midrangebase.IsDigit -/
noncomputable def f225T (k : Nat) : Table := []
theorem f225TS (k : Nat) : Sound P (f225T k) := Sound.nil
theorem f225B : HasBody P 25 := ⟨Go.Proofs.Tryd.f25, Go.Proofs.Tryd.func25, by kernel_rfl, by kernel_rfl⟩
noncomputable def f225F (k : Nat) (x : Int) : Option (Bool) :=
  bif (decide ((48 : Int) ≤ x)) then
    some (decide (x ≤ (57 : Int)))
  else
  some false
noncomputable def f225L (k : Nat) : Sums := []
theorem f225LS (k : Nat) : SumsOk P Go.Proofs.Tryd.f25.ntmps (f225L k) (codeOf Go.Proofs.Tryd.f25) 1 := SumsOk.nil
theorem f225E (k : Nat) (x : Int) : evFS tab (f225T k) (f225L k) Go.Proofs.Tryd.f25.ntmps Go.Proofs.Tryd.f25.results.toList (codeOf Go.Proofs.Tryd.f25) (argsV [.dat (.int .u8)] x) [.dat .bool] = f225F k x := by kernel_rfl
theorem f225Ok (k : Nat) (x : Int) (y : Bool) (h : f225F k x = some y) : FnOk P 25 [.dat (.int .u8)] [.dat .bool] x y :=
  evFS_sound tabOk (f225TS k) mixed Go.Proofs.Tryd.func25 (c := codeOf Go.Proofs.Tryd.f25) (by kernel_rfl) (f225LS k) ((f225E k x).trans h)
/-! ## midrange/midrangeref01.Parse -/
noncomputable def f208T (k : Nat) : Table := [(24, entFn [.dat .bool] [.dat (.int .i64)] (f69F k)), (25, entFn [.dat (.int .u8)] [.dat .bool] (f225F k))]
theorem f208TS (k : Nat) : Sound P (f208T k) := ((Sound.nil).cons f225B (f225Ok k)).cons f69B (f69Ok k)
theorem f208B : HasBody P 8 := ⟨Go.Proofs.Tryd.f8, Go.Proofs.Tryd.func8, by kernel_rfl, by kernel_rfl⟩
noncomputable def f208p0H : Shape := ⟨[(0, .one (.str)), (2, .one (.ptr 0 0)), (3, .one (.int .i64)), (4, .one (.int .i64)), (5, .one (.int .i64))], [(0, .var [.int .i64, .int .i64, .int .i64, .int .i64])], 1⟩
noncomputable def f208p0X0 : Shape := ⟨[(0, .one (.str)), (2, .one (.ptr 0 0)), (3, .one (.int .i64)), (4, .one (.int .i64)), (5, .one (.int .i64))], [(0, .var [.int .i64, .int .i64, .int .i64, .int .i64])], 1⟩
noncomputable def f208p0X1 : Shape := ⟨[(0, .one (.str)), (2, .one (.ptr 0 0)), (3, .one (.int .i64)), (4, .one (.int .i64)), (5, .one (.int .i64))], [(0, .var [.int .i64, .int .i64, .int .i64, .int .i64])], 1⟩
noncomputable def f208p0N : NoteR := ⟨[0, 2, 3, 4, 5], [], []⟩
noncomputable def f208p0M : NoteR := ⟨[0, 2, 3, 4, 5, 7, 8, 9], [], []⟩
noncomputable def f208p0C : Code := firstC (codesAt 2018 (codeOf Go.Proofs.Tryd.f8) 1)
noncomputable def f208p0 {R : Type} (k : Nat) (k0 : ByteArray × Int × Int × Int × Int × Int × Int × Int × Unit → Option R) (k1 : ByteArray × Int × Int × Int × Int × Int × Int × Int × Unit → Option R) (v : ByteArray × Int × Int × Int × Int × Int × Int × Int × Unit) : Option R :=
  bif ((decide ((0 : Int) ≤ v.2.1)) && (decide (v.2.1 < (v.1.size : Int)))) then
  bif ((bt v.1 v.2.1) == (46 : Int)) then
    bif (v.2.2.2.1 == (-1 : Int)) then
      bif (decide (v.2.1 > v.2.2.1)) then
        k0 (v.1, v.2.1, v.2.2.1, v.2.1, v.2.2.2.2.1, v.2.2.2.2.2.1, v.2.2.2.2.2.2.1, v.2.2.2.2.2.2.2.1, ())
      else
      Option.bind (f225F k (bt v.1 v.2.1)) fun y2 =>
      bif y2 then
        bif (v.2.2.2.1 == (-1 : Int)) then
          bif (v.2.1 == (IntKind.i64.wrap (v.2.2.1 + (1 : Int)))) then
            bif ((decide ((0 : Int) ≤ v.2.2.1)) && (decide (v.2.2.1 < (v.1.size : Int)))) then
            bif (!((bt v.1 v.2.2.1) == (48 : Int))) then
              k0 (v.1, v.2.1, v.2.2.1, v.2.2.2.1, v.2.2.2.2.1, v.2.2.2.2.2.1, v.2.2.2.2.2.2.1, v.2.2.2.2.2.2.2.1, ())
            else
            k1 (v.1, v.2.1, v.2.2.1, v.2.2.2.1, (0 : Int), (0 : Int), v.2.1, (8 : Int), ())
            else none
          else
          k0 (v.1, v.2.1, v.2.2.1, v.2.2.2.1, v.2.2.2.2.1, v.2.2.2.2.2.1, v.2.2.2.2.2.2.1, v.2.2.2.2.2.2.2.1, ())
        else
        k0 (v.1, v.2.1, v.2.2.1, v.2.2.2.1, v.2.2.2.2.1, v.2.2.2.2.2.1, v.2.2.2.2.2.2.1, v.2.2.2.2.2.2.2.1, ())
      else
      k1 (v.1, v.2.1, v.2.2.1, v.2.2.2.1, (0 : Int), (0 : Int), v.2.1, (8 : Int), ())
    else
    Option.bind (f225F k (bt v.1 v.2.1)) fun y3 =>
    bif y3 then
      bif (v.2.2.2.1 == (-1 : Int)) then
        bif (v.2.1 == (IntKind.i64.wrap (v.2.2.1 + (1 : Int)))) then
          bif ((decide ((0 : Int) ≤ v.2.2.1)) && (decide (v.2.2.1 < (v.1.size : Int)))) then
          bif (!((bt v.1 v.2.2.1) == (48 : Int))) then
            k0 (v.1, v.2.1, v.2.2.1, v.2.2.2.1, v.2.2.2.2.1, v.2.2.2.2.2.1, v.2.2.2.2.2.2.1, v.2.2.2.2.2.2.2.1, ())
          else
          k1 (v.1, v.2.1, v.2.2.1, v.2.2.2.1, (0 : Int), (0 : Int), v.2.1, (8 : Int), ())
          else none
        else
        k0 (v.1, v.2.1, v.2.2.1, v.2.2.2.1, v.2.2.2.2.1, v.2.2.2.2.2.1, v.2.2.2.2.2.2.1, v.2.2.2.2.2.2.2.1, ())
      else
      k0 (v.1, v.2.1, v.2.2.1, v.2.2.2.1, v.2.2.2.2.1, v.2.2.2.2.2.1, v.2.2.2.2.2.2.1, v.2.2.2.2.2.2.2.1, ())
    else
    k1 (v.1, v.2.1, v.2.2.1, v.2.2.2.1, (0 : Int), (0 : Int), v.2.1, (8 : Int), ())
  else
  Option.bind (f225F k (bt v.1 v.2.1)) fun y4 =>
  bif y4 then
    bif (v.2.2.2.1 == (-1 : Int)) then
      bif (v.2.1 == (IntKind.i64.wrap (v.2.2.1 + (1 : Int)))) then
        bif ((decide ((0 : Int) ≤ v.2.2.1)) && (decide (v.2.2.1 < (v.1.size : Int)))) then
        bif (!((bt v.1 v.2.2.1) == (48 : Int))) then
          k0 (v.1, v.2.1, v.2.2.1, v.2.2.2.1, v.2.2.2.2.1, v.2.2.2.2.2.1, v.2.2.2.2.2.2.1, v.2.2.2.2.2.2.2.1, ())
        else
        k1 (v.1, v.2.1, v.2.2.1, v.2.2.2.1, (0 : Int), (0 : Int), v.2.1, (8 : Int), ())
        else none
      else
      k0 (v.1, v.2.1, v.2.2.1, v.2.2.2.1, v.2.2.2.2.1, v.2.2.2.2.2.1, v.2.2.2.2.2.2.1, v.2.2.2.2.2.2.2.1, ())
    else
    k0 (v.1, v.2.1, v.2.2.1, v.2.2.2.1, v.2.2.2.2.1, v.2.2.2.2.2.1, v.2.2.2.2.2.2.1, v.2.2.2.2.2.2.2.1, ())
  else
  k1 (v.1, v.2.1, v.2.2.1, v.2.2.2.1, (0 : Int), (0 : Int), v.2.1, (8 : Int), ())
  else none
noncomputable def f208p0S (k : Nat) : Sum1 := partSum f208p0H f208p0N (fun R K v => f208p0 k (fun w => K .normal (encSt f208p0X0 w)) (fun w => K .ret (encSt f208p0X1 w)) v)
theorem f208p0E (k : Nat) (R : Type) (K : X → St → Option R) (v : f208p0H.Den) : evS tab (f208T k) Go.Proofs.Tryd.f8.ntmps [] f208p0C 2018 (partK f208p0M K) (encSt f208p0H v) = f208p0 k (fun w => K .normal (encSt f208p0X0 w)) (fun w => K .ret (encSt f208p0X1 w)) v := by kernel_rfl
theorem f208p0I (k : Nat) : SumsOk P Go.Proofs.Tryd.f8.ntmps [] f208p0C 2018 := SumsOk.nil
theorem f208p0O (k : Nat) : SumOk P Go.Proofs.Tryd.f8.ntmps f208p0C (f208p0S k) := sum_part tabOk (f208TS k) mixed (f208p0I k) (f208p0E k)
noncomputable def f208l1H : Shape := ⟨[(0, .one (.str)), (2, .one (.ptr 0 0)), (3, .one (.int .i64)), (4, .one (.int .i64)), (5, .one (.int .i64))], [(0, .var [.int .i64, .int .i64, .int .i64, .int .i64])], 1⟩
noncomputable def f208l1X0 : Shape := ⟨[(0, .one (.str)), (2, .one (.ptr 0 0)), (3, .one (.int .i64)), (4, .one (.int .i64)), (5, .one (.int .i64))], [(0, .var [.int .i64, .int .i64, .int .i64, .int .i64])], 1⟩
noncomputable def f208l1X1 : Shape := ⟨[(0, .one (.str)), (2, .one (.ptr 0 0)), (3, .one (.int .i64)), (4, .one (.int .i64)), (5, .one (.int .i64))], [(0, .var [.int .i64, .int .i64, .int .i64, .int .i64])], 1⟩
noncomputable def f208l1N : NoteR := ⟨[0, 2, 3, 4, 5], [], []⟩
noncomputable def f208l1M : NoteR := ⟨[0, 2, 3, 4, 5], [], []⟩
noncomputable def f208l1C : Code := firstC (codesAt 252 (codeOf Go.Proofs.Tryd.f8) 1)
noncomputable def f208l1s {R : Type} (k : Nat) (rec : ByteArray × Int × Int × Int × Int × Int × Int × Int × Unit → Option R) (k0 : ByteArray × Int × Int × Int × Int × Int × Int × Int × Unit → Option R) (k1 : ByteArray × Int × Int × Int × Int × Int × Int × Int × Unit → Option R) (v : ByteArray × Int × Int × Int × Int × Int × Int × Int × Unit) : Option R :=
  bif (decide (v.2.1 < (v.1.size : Int))) then
    f208p0 k
      (fun (w5 : ByteArray × Int × Int × Int × Int × Int × Int × Int × Unit) =>
        rec (w5.1, (IntKind.i64.wrap (w5.2.1 + (1 : Int))), w5.2.2.1, w5.2.2.2.1, w5.2.2.2.2.1, w5.2.2.2.2.2.1, w5.2.2.2.2.2.2.1, w5.2.2.2.2.2.2.2.1, ()))
      (fun (w6 : ByteArray × Int × Int × Int × Int × Int × Int × Int × Unit) =>
        k0 (w6.1, w6.2.1, w6.2.2.1, w6.2.2.2.1, w6.2.2.2.2.1, w6.2.2.2.2.2.1, w6.2.2.2.2.2.2.1, w6.2.2.2.2.2.2.2.1, ()))
      (v.1, v.2.1, v.2.2.1, v.2.2.2.1, v.2.2.2.2.1, v.2.2.2.2.2.1, v.2.2.2.2.2.2.1, v.2.2.2.2.2.2.2.1, ())
  else
  k1 (v.1, v.2.1, v.2.2.1, v.2.2.2.1, v.2.2.2.2.1, v.2.2.2.2.2.1, v.2.2.2.2.2.2.1, v.2.2.2.2.2.2.2.1, ())
noncomputable def f208l1 {R : Type} (k : Nat) (k0 : ByteArray × Int × Int × Int × Int × Int × Int × Int × Unit → Option R) (k1 : ByteArray × Int × Int × Int × Int × Int × Int × Int × Unit → Option R) (v : ByteArray × Int × Int × Int × Int × Int × Int × Int × Unit) : Option R := iterS (fun rec v => f208l1s k rec k0 k1 v) k v
noncomputable def f208l1S (k : Nat) : Sum1 := loopSum f208l1H f208l1N k (fun R rec K v => f208l1s k rec (fun w => K .ret (encSt f208l1X0 w)) (fun w => K (.exit 0) (encSt f208l1X1 w)) v)
theorem f208l1E (k : Nat) (R : Type) (rec : St → Option R) (K : X → St → Option R) (v : f208l1H.Den) : evS tab (f208T k) Go.Proofs.Tryd.f8.ntmps [(2018, f208p0S k)] (bodyOf f208l1C) 504 (bodyK f208l1N f208l1M rec K) (encSt f208l1H v) = f208l1s k (fun v => rec (encSt f208l1H v)) (fun w => K .ret (encSt f208l1X0 w)) (fun w => K (.exit 0) (encSt f208l1X1 w)) v := by kernel_rfl
theorem f208l1I (k : Nat) : SumsOk P Go.Proofs.Tryd.f8.ntmps [(2018, f208p0S k)] (bodyOf f208l1C) 504 := (SumsOk.nil).cons (c := f208p0C) (by kernel_rfl) (f208p0O k)
theorem f208l1O (k : Nat) : SumOk P Go.Proofs.Tryd.f8.ntmps f208l1C (f208l1S k) := (show f208l1C = .loop (bodyOf f208l1C) by kernel_rfl) ▸ sum_loop tabOk (f208TS k) mixed (f208l1I k) (f208l1E k)
noncomputable def f208p2H : Shape := ⟨[(0, .one (.str)), (2, .one (.ptr 0 0)), (4, .one (.int .i64)), (5, .one (.int .i64)), (7, .one (.int .i64)), (8, .one (.int .i64)), (9, .one (.int .i64)), (10, .one (.int .i64)), (11, .one (.bool))], [(0, .var [.int .i64, .int .i64, .int .i64, .int .i64])], 1⟩
noncomputable def f208p2X0 : Shape := ⟨[(0, .one (.str)), (2, .one (.ptr 0 0)), (4, .one (.int .i64)), (5, .one (.int .i64)), (7, .one (.int .i64)), (8, .one (.int .i64)), (9, .one (.int .i64)), (10, .one (.int .i64)), (11, .one (.bool))], [(0, .var [.int .i64, .int .i64, .int .i64, .int .i64])], 1⟩
noncomputable def f208p2N : NoteR := ⟨[0, 2, 4, 5, 7, 8, 9, 10, 11], [], []⟩
noncomputable def f208p2M : NoteR := ⟨[0, 2, 3, 4, 5, 7, 8, 9, 10, 11], [], []⟩
noncomputable def f208p2C : Code := firstC (codesAt 523558 (codeOf Go.Proofs.Tryd.f8) 1)
noncomputable def f208p2 {R : Type} (k : Nat) (k0 : ByteArray × Int × Int × Int × Int × Int × Int × Bool × Int × Int × Int × Int × Unit → Option R) (v : ByteArray × Int × Int × Int × Int × Int × Int × Bool × Int × Int × Int × Int × Unit) : Option R :=
  bif v.2.2.2.2.2.2.2.1 then
    k0 (v.1, v.2.1, v.2.2.1, v.2.2.2.1, v.2.2.2.2.1, (IntKind.i64.wrap (v.2.2.2.2.2.1 + (1 : Int))), v.2.2.2.2.2.2.1, v.2.2.2.2.2.2.2.1, v.2.2.2.2.2.2.2.2.1, v.2.2.2.2.2.2.2.2.2.1, v.2.2.2.2.2.2.2.2.2.2.1, v.2.2.2.2.2.2.2.2.2.2.2.1, ())
  else
  k0 (v.1, v.2.1, v.2.2.1, v.2.2.2.1, v.2.2.2.2.1, v.2.2.2.2.2.1, v.2.2.2.2.2.2.1, v.2.2.2.2.2.2.2.1, v.2.2.2.2.2.2.2.2.1, v.2.2.2.2.2.2.2.2.2.1, v.2.2.2.2.2.2.2.2.2.2.1, v.2.2.2.2.2.2.2.2.2.2.2.1, ())
noncomputable def f208p2S (k : Nat) : Sum1 := partSum f208p2H f208p2N (fun R K v => f208p2 k (fun w => K .normal (encSt f208p2X0 w)) v)
theorem f208p2E (k : Nat) (R : Type) (K : X → St → Option R) (v : f208p2H.Den) : evS tab (f208T k) Go.Proofs.Tryd.f8.ntmps [] f208p2C 523558 (partK f208p2M K) (encSt f208p2H v) = f208p2 k (fun w => K .normal (encSt f208p2X0 w)) v := by kernel_rfl
theorem f208p2I (k : Nat) : SumsOk P Go.Proofs.Tryd.f8.ntmps [] f208p2C 523558 := SumsOk.nil
theorem f208p2O (k : Nat) : SumOk P Go.Proofs.Tryd.f8.ntmps f208p2C (f208p2S k) := sum_part tabOk (f208TS k) mixed (f208p2I k) (f208p2E k)
noncomputable def f208p3H : Shape := ⟨[(0, .one (.str)), (2, .one (.ptr 0 0)), (4, .one (.int .i64)), (5, .one (.int .i64)), (7, .one (.int .i64)), (8, .one (.int .i64)), (9, .one (.int .i64)), (10, .one (.int .i64)), (11, .one (.bool))], [(0, .var [.int .i64, .int .i64, .int .i64, .int .i64])], 1⟩
noncomputable def f208p3X0 : Shape := ⟨[(0, .one (.str)), (2, .one (.ptr 0 0)), (4, .one (.int .i64)), (5, .one (.int .i64)), (7, .one (.int .i64)), (8, .one (.int .i64)), (9, .one (.int .i64)), (10, .one (.int .i64))], [(0, .var [.int .i64, .int .i64, .int .i64, .int .i64])], 1⟩
noncomputable def f208p3N : NoteR := ⟨[0, 2, 4, 5, 7, 8, 9, 10, 11], [], []⟩
noncomputable def f208p3M : NoteR := ⟨[0, 2, 3, 4, 5, 7, 8, 9, 10], [], []⟩
noncomputable def f208p3C : Code := firstC (codesAt 1047118 (codeOf Go.Proofs.Tryd.f8) 1)
noncomputable def f208p3 {R : Type} (k : Nat) (k0 : ByteArray × Int × Int × Int × Int × Int × Int × Int × Int × Int × Int × Unit → Option R) (v : ByteArray × Int × Int × Int × Int × Int × Int × Bool × Int × Int × Int × Int × Unit) : Option R :=
  bif v.2.2.2.2.2.2.2.1 then
    k0 (v.1, v.2.1, v.2.2.1, v.2.2.2.1, (IntKind.i64.wrap (v.2.2.2.2.1 + (1 : Int))), v.2.2.2.2.2.1, v.2.2.2.2.2.2.1, v.2.2.2.2.2.2.2.2.1, v.2.2.2.2.2.2.2.2.2.1, v.2.2.2.2.2.2.2.2.2.2.1, v.2.2.2.2.2.2.2.2.2.2.2.1, ())
  else
  bif (decide (v.2.2.2.2.1 > (0 : Int))) then
    k0 (v.1, v.2.1, v.2.2.1, v.2.2.2.1, (IntKind.i64.wrap (v.2.2.2.2.1 + (1 : Int))), v.2.2.2.2.2.1, v.2.2.2.2.2.2.1, v.2.2.2.2.2.2.2.2.1, v.2.2.2.2.2.2.2.2.2.1, v.2.2.2.2.2.2.2.2.2.2.1, v.2.2.2.2.2.2.2.2.2.2.2.1, ())
  else
  bif ((decide ((0 : Int) ≤ v.2.2.2.2.2.2.1)) && (decide (v.2.2.2.2.2.2.1 < (v.1.size : Int)))) then
  bif ((bt v.1 v.2.2.2.2.2.2.1) != (48 : Int)) then
    k0 (v.1, v.2.1, v.2.2.1, v.2.2.2.1, (IntKind.i64.wrap (v.2.2.2.2.1 + (1 : Int))), v.2.2.2.2.2.1, v.2.2.2.2.2.2.1, v.2.2.2.2.2.2.2.2.1, v.2.2.2.2.2.2.2.2.2.1, v.2.2.2.2.2.2.2.2.2.2.1, v.2.2.2.2.2.2.2.2.2.2.2.1, ())
  else
  k0 (v.1, v.2.1, v.2.2.1, v.2.2.2.1, v.2.2.2.2.1, v.2.2.2.2.2.1, v.2.2.2.2.2.2.1, v.2.2.2.2.2.2.2.2.1, v.2.2.2.2.2.2.2.2.2.1, v.2.2.2.2.2.2.2.2.2.2.1, v.2.2.2.2.2.2.2.2.2.2.2.1, ())
  else none
noncomputable def f208p3S (k : Nat) : Sum1 := partSum f208p3H f208p3N (fun R K v => f208p3 k (fun w => K .normal (encSt f208p3X0 w)) v)
theorem f208p3E (k : Nat) (R : Type) (K : X → St → Option R) (v : f208p3H.Den) : evS tab (f208T k) Go.Proofs.Tryd.f8.ntmps [] f208p3C 1047118 (partK f208p3M K) (encSt f208p3H v) = f208p3 k (fun w => K .normal (encSt f208p3X0 w)) v := by kernel_rfl
theorem f208p3I (k : Nat) : SumsOk P Go.Proofs.Tryd.f8.ntmps [] f208p3C 1047118 := SumsOk.nil
theorem f208p3O (k : Nat) : SumOk P Go.Proofs.Tryd.f8.ntmps f208p3C (f208p3S k) := sum_part tabOk (f208TS k) mixed (f208p3I k) (f208p3E k)
noncomputable def f208p4H : Shape := ⟨[(0, .one (.str)), (2, .one (.ptr 0 0)), (4, .one (.int .i64)), (5, .one (.int .i64)), (7, .one (.int .i64)), (8, .one (.int .i64)), (9, .one (.int .i64)), (10, .one (.int .i64))], [(0, .var [.int .i64, .int .i64, .int .i64, .int .i64])], 1⟩
noncomputable def f208p4X0 : Shape := ⟨[(0, .one (.str)), (2, .one (.ptr 0 0)), (4, .one (.int .i64)), (5, .one (.int .i64)), (7, .one (.int .i64)), (8, .one (.int .i64)), (9, .one (.int .i64)), (10, .one (.int .i64))], [(0, .var [.int .i64, .int .i64, .int .i64, .int .i64])], 1⟩
noncomputable def f208p4N : NoteR := ⟨[0, 2, 4, 5, 7, 8, 9, 10], [], []⟩
noncomputable def f208p4M : NoteR := ⟨[0, 2, 3, 4, 5, 7, 8, 9, 10], [], []⟩
noncomputable def f208p4C : Code := firstC (codesAt 32722 (codeOf Go.Proofs.Tryd.f8) 1)
noncomputable def f208p4 {R : Type} (k : Nat) (k0 : ByteArray × Int × Int × Int × Int × Int × Int × Int × Int × Int × Int × Unit → Option R) (v : ByteArray × Int × Int × Int × Int × Int × Int × Int × Int × Int × Int × Unit) : Option R :=
  bif (v.2.2.2.2.2.2.1 == v.2.2.1) then
    k0 (v.1, v.2.1, v.2.2.1, v.2.2.2.1, v.2.2.2.2.1, v.2.2.2.2.2.1, v.2.2.2.2.2.2.1, v.2.2.2.2.2.2.2.1, v.2.2.2.2.2.2.2.2.1, v.2.2.2.2.2.2.2.2.2.1, v.2.2.2.2.2.2.2.2.2.2.1, ())
  else
  bif (v.2.2.1 != (-1 : Int)) then
    f208p2 k
      (fun (w9 : ByteArray × Int × Int × Int × Int × Int × Int × Bool × Int × Int × Int × Int × Unit) =>
        f208p3 k
          (fun (w10 : ByteArray × Int × Int × Int × Int × Int × Int × Int × Int × Int × Int × Unit) =>
            bif (decide (w10.2.2.2.2.1 ≤ (15 : Int))) then
              bif ((decide ((0 : Int) ≤ w10.2.2.2.2.2.2.1)) && (decide (w10.2.2.2.2.2.2.1 < (w10.1.size : Int)))) then
              let t11 := (IntKind.i64.wrap (IntKind.u8.wrap ((bt w10.1 w10.2.2.2.2.2.2.1) - (48 : Int))))
              let t12 := (IntKind.i64.wrap ((IntKind.i64.wrap ((10 : Int) * w10.2.2.2.1)) + t11))
              k0 (w10.1, w10.2.1, w10.2.2.1, t12, w10.2.2.2.2.1, w10.2.2.2.2.2.1, w10.2.2.2.2.2.2.1, w10.2.2.2.2.2.2.2.1, w10.2.2.2.2.2.2.2.2.1, w10.2.2.2.2.2.2.2.2.2.1, w10.2.2.2.2.2.2.2.2.2.2.1, ())
              else none
            else
            k0 (w10.1, w10.2.1, w10.2.2.1, w10.2.2.2.1, w10.2.2.2.2.1, w10.2.2.2.2.2.1, w10.2.2.2.2.2.2.1, w10.2.2.2.2.2.2.2.1, w10.2.2.2.2.2.2.2.2.1, w10.2.2.2.2.2.2.2.2.2.1, w10.2.2.2.2.2.2.2.2.2.2.1, ()))
          (w9.1, w9.2.1, w9.2.2.1, w9.2.2.2.1, w9.2.2.2.2.1, w9.2.2.2.2.2.1, w9.2.2.2.2.2.2.1, w9.2.2.2.2.2.2.2.1, w9.2.2.2.2.2.2.2.2.1, w9.2.2.2.2.2.2.2.2.2.1, w9.2.2.2.2.2.2.2.2.2.2.1, w9.2.2.2.2.2.2.2.2.2.2.2.1, ()))
      (v.1, v.2.1, v.2.2.1, v.2.2.2.1, v.2.2.2.2.1, v.2.2.2.2.2.1, v.2.2.2.2.2.2.1, (decide (v.2.2.2.2.2.2.1 > v.2.2.1)), v.2.2.2.2.2.2.2.1, v.2.2.2.2.2.2.2.2.1, v.2.2.2.2.2.2.2.2.2.1, v.2.2.2.2.2.2.2.2.2.2.1, ())
  else
  f208p2 k
    (fun (w13 : ByteArray × Int × Int × Int × Int × Int × Int × Bool × Int × Int × Int × Int × Unit) =>
      f208p3 k
        (fun (w14 : ByteArray × Int × Int × Int × Int × Int × Int × Int × Int × Int × Int × Unit) =>
          bif (decide (w14.2.2.2.2.1 ≤ (15 : Int))) then
            bif ((decide ((0 : Int) ≤ w14.2.2.2.2.2.2.1)) && (decide (w14.2.2.2.2.2.2.1 < (w14.1.size : Int)))) then
            let t15 := (IntKind.i64.wrap (IntKind.u8.wrap ((bt w14.1 w14.2.2.2.2.2.2.1) - (48 : Int))))
            let t16 := (IntKind.i64.wrap ((IntKind.i64.wrap ((10 : Int) * w14.2.2.2.1)) + t15))
            k0 (w14.1, w14.2.1, w14.2.2.1, t16, w14.2.2.2.2.1, w14.2.2.2.2.2.1, w14.2.2.2.2.2.2.1, w14.2.2.2.2.2.2.2.1, w14.2.2.2.2.2.2.2.2.1, w14.2.2.2.2.2.2.2.2.2.1, w14.2.2.2.2.2.2.2.2.2.2.1, ())
            else none
          else
          k0 (w14.1, w14.2.1, w14.2.2.1, w14.2.2.2.1, w14.2.2.2.2.1, w14.2.2.2.2.2.1, w14.2.2.2.2.2.2.1, w14.2.2.2.2.2.2.2.1, w14.2.2.2.2.2.2.2.2.1, w14.2.2.2.2.2.2.2.2.2.1, w14.2.2.2.2.2.2.2.2.2.2.1, ()))
        (w13.1, w13.2.1, w13.2.2.1, w13.2.2.2.1, w13.2.2.2.2.1, w13.2.2.2.2.2.1, w13.2.2.2.2.2.2.1, w13.2.2.2.2.2.2.2.1, w13.2.2.2.2.2.2.2.2.1, w13.2.2.2.2.2.2.2.2.2.1, w13.2.2.2.2.2.2.2.2.2.2.1, w13.2.2.2.2.2.2.2.2.2.2.2.1, ()))
    (v.1, v.2.1, v.2.2.1, v.2.2.2.1, v.2.2.2.2.1, v.2.2.2.2.2.1, v.2.2.2.2.2.2.1, false, v.2.2.2.2.2.2.2.1, v.2.2.2.2.2.2.2.2.1, v.2.2.2.2.2.2.2.2.2.1, v.2.2.2.2.2.2.2.2.2.2.1, ())
noncomputable def f208p4S (k : Nat) : Sum1 := partSum f208p4H f208p4N (fun R K v => f208p4 k (fun w => K .normal (encSt f208p4X0 w)) v)
theorem f208p4E (k : Nat) (R : Type) (K : X → St → Option R) (v : f208p4H.Den) : evS tab (f208T k) Go.Proofs.Tryd.f8.ntmps [(523558, f208p2S k), (1047118, f208p3S k)] f208p4C 32722 (partK f208p4M K) (encSt f208p4H v) = f208p4 k (fun w => K .normal (encSt f208p4X0 w)) v := by kernel_rfl
theorem f208p4I (k : Nat) : SumsOk P Go.Proofs.Tryd.f8.ntmps [(523558, f208p2S k), (1047118, f208p3S k)] f208p4C 32722 := ((SumsOk.nil).cons (c := f208p3C) (by kernel_rfl) (f208p3O k)).cons (c := f208p2C) (by kernel_rfl) (f208p2O k)
theorem f208p4O (k : Nat) : SumOk P Go.Proofs.Tryd.f8.ntmps f208p4C (f208p4S k) := sum_part tabOk (f208TS k) mixed (f208p4I k) (f208p4E k)
noncomputable def f208l5H : Shape := ⟨[(0, .one (.str)), (2, .one (.ptr 0 0)), (4, .one (.int .i64)), (5, .one (.int .i64)), (7, .one (.int .i64)), (8, .one (.int .i64)), (9, .one (.int .i64)), (10, .one (.int .i64))], [(0, .var [.int .i64, .int .i64, .int .i64, .int .i64])], 1⟩
noncomputable def f208l5X0 : Shape := ⟨[(0, .one (.str)), (2, .one (.ptr 0 0)), (4, .one (.int .i64)), (7, .one (.int .i64)), (8, .one (.int .i64)), (9, .one (.int .i64))], [(0, .var [.int .i64, .int .i64, .int .i64, .int .i64])], 1⟩
noncomputable def f208l5N : NoteR := ⟨[0, 2, 4, 5, 7, 8, 9, 10], [], []⟩
noncomputable def f208l5M : NoteR := ⟨[0, 2, 4, 7, 8, 9], [], []⟩
noncomputable def f208l5C : Code := firstC (codesAt 4090 (codeOf Go.Proofs.Tryd.f8) 1)
noncomputable def f208l5s {R : Type} (k : Nat) (rec : ByteArray × Int × Int × Int × Int × Int × Int × Int × Int × Int × Int × Unit → Option R) (k0 : ByteArray × Int × Int × Int × Int × Int × Int × Int × Int × Unit → Option R) (v : ByteArray × Int × Int × Int × Int × Int × Int × Int × Int × Int × Int × Unit) : Option R :=
  bif (decide (v.2.2.2.2.2.2.1 < (v.1.size : Int))) then
    f208p4 k
      (fun (w17 : ByteArray × Int × Int × Int × Int × Int × Int × Int × Int × Int × Int × Unit) =>
        rec (w17.1, w17.2.1, w17.2.2.1, w17.2.2.2.1, w17.2.2.2.2.1, w17.2.2.2.2.2.1, (IntKind.i64.wrap (w17.2.2.2.2.2.2.1 + (1 : Int))), w17.2.2.2.2.2.2.2.1, w17.2.2.2.2.2.2.2.2.1, w17.2.2.2.2.2.2.2.2.2.1, w17.2.2.2.2.2.2.2.2.2.2.1, ()))
      (v.1, v.2.1, v.2.2.1, v.2.2.2.1, v.2.2.2.2.1, v.2.2.2.2.2.1, v.2.2.2.2.2.2.1, v.2.2.2.2.2.2.2.1, v.2.2.2.2.2.2.2.2.1, v.2.2.2.2.2.2.2.2.2.1, v.2.2.2.2.2.2.2.2.2.2.1, ())
  else
  k0 (v.1, v.2.1, v.2.2.2.1, v.2.2.2.2.1, v.2.2.2.2.2.1, v.2.2.2.2.2.2.2.1, v.2.2.2.2.2.2.2.2.1, v.2.2.2.2.2.2.2.2.2.1, v.2.2.2.2.2.2.2.2.2.2.1, ())
noncomputable def f208l5 {R : Type} (k : Nat) (k0 : ByteArray × Int × Int × Int × Int × Int × Int × Int × Int × Unit → Option R) (v : ByteArray × Int × Int × Int × Int × Int × Int × Int × Int × Int × Int × Unit) : Option R := iterS (fun rec v => f208l5s k rec k0 v) k v
noncomputable def f208l5S (k : Nat) : Sum1 := loopSum f208l5H f208l5N k (fun R rec K v => f208l5s k rec (fun w => K (.exit 3) (encSt f208l5X0 w)) v)
theorem f208l5E (k : Nat) (R : Type) (rec : St → Option R) (K : X → St → Option R) (v : f208l5H.Den) : evS tab (f208T k) Go.Proofs.Tryd.f8.ntmps [(523558, f208p2S k), (1047118, f208p3S k), (32722, f208p4S k)] (bodyOf f208l5C) 8180 (bodyK f208l5N f208l5M rec K) (encSt f208l5H v) = f208l5s k (fun v => rec (encSt f208l5H v)) (fun w => K (.exit 3) (encSt f208l5X0 w)) v := by kernel_rfl
theorem f208l5I (k : Nat) : SumsOk P Go.Proofs.Tryd.f8.ntmps [(523558, f208p2S k), (1047118, f208p3S k), (32722, f208p4S k)] (bodyOf f208l5C) 8180 := (((SumsOk.nil).cons (c := f208p4C) (by kernel_rfl) (f208p4O k)).cons (c := f208p3C) (by kernel_rfl) (f208p3O k)).cons (c := f208p2C) (by kernel_rfl) (f208p2O k)
theorem f208l5O (k : Nat) : SumOk P Go.Proofs.Tryd.f8.ntmps f208l5C (f208l5S k) := (show f208l5C = .loop (bodyOf f208l5C) by kernel_rfl) ▸ sum_loop tabOk (f208TS k) mixed (f208l5I k) (f208l5E k)
noncomputable def f208p6H : Shape := ⟨[(0, .one (.str)), (2, .one (.ptr 0 0)), (4, .one (.int .i64)), (7, .one (.int .i64)), (9, .one (.int .i64))], [(0, .var [.int .i64, .int .i64, .int .i64, .int .i64])], 1⟩
noncomputable def f208p6X0 : Shape := ⟨[(0, .one (.str)), (2, .one (.ptr 0 0)), (4, .one (.int .i64)), (7, .one (.int .i64)), (9, .one (.int .i64))], [(0, .var [.int .i64, .int .i64, .int .i64, .int .i64])], 1⟩
noncomputable def f208p6N : NoteR := ⟨[0, 2, 4, 7, 9], [], []⟩
noncomputable def f208p6M : NoteR := ⟨[0, 2, 3, 4, 5, 7, 8, 9], [], []⟩
noncomputable def f208p6C : Code := firstC (codesAt 4094 (codeOf Go.Proofs.Tryd.f8) 1)
noncomputable def f208p6 {R : Type} (k : Nat) (k0 : ByteArray × Int × Int × Int × Int × Int × Int × Int × Unit → Option R) (v : ByteArray × Int × Int × Int × Int × Int × Int × Int × Unit) : Option R :=
  bif (v.2.1 == (1 : Int)) then
    k0 (v.1, v.2.1, (IntKind.i64.wrap (0 - v.2.2.1)), v.2.2.2.1, v.2.2.2.2.1, v.2.2.2.2.2.1, v.2.2.2.2.2.2.1, v.2.2.2.2.2.2.2.1, ())
  else
  k0 (v.1, v.2.1, v.2.2.1, v.2.2.2.1, v.2.2.2.2.1, v.2.2.2.2.2.1, v.2.2.2.2.2.2.1, v.2.2.2.2.2.2.2.1, ())
noncomputable def f208p6S (k : Nat) : Sum1 := partSum f208p6H f208p6N (fun R K v => f208p6 k (fun w => K .normal (encSt f208p6X0 w)) v)
theorem f208p6E (k : Nat) (R : Type) (K : X → St → Option R) (v : f208p6H.Den) : evS tab (f208T k) Go.Proofs.Tryd.f8.ntmps [] f208p6C 4094 (partK f208p6M K) (encSt f208p6H v) = f208p6 k (fun w => K .normal (encSt f208p6X0 w)) v := by kernel_rfl
theorem f208p6I (k : Nat) : SumsOk P Go.Proofs.Tryd.f8.ntmps [] f208p6C 4094 := SumsOk.nil
theorem f208p6O (k : Nat) : SumOk P Go.Proofs.Tryd.f8.ntmps f208p6C (f208p6S k) := sum_part tabOk (f208TS k) mixed (f208p6I k) (f208p6E k)
noncomputable def f208F (k : Nat) (x : ByteArray) : Option (((Int × Int) × (Int × Int))) :=
  bif (decide ((x.size : Int) > (40 : Int))) then
    some (((0 : Int), (0 : Int)), ((0 : Int), (2 : Int)))
  else
  bif (strEq x ByteArray.empty) then
    some (((0 : Int), (0 : Int)), ((0 : Int), (1 : Int)))
  else
  bif (decide ((0 : Int) < (x.size : Int))) then
  Option.bind (f69F k ((bt x (0 : Int)) == (45 : Int))) fun y1 =>
  f208l1 k
    (fun (w7 : ByteArray × Int × Int × Int × Int × Int × Int × Int × Unit) =>
      some ((w7.2.2.2.2.1, w7.2.2.2.2.2.1), (w7.2.2.2.2.2.2.1, w7.2.2.2.2.2.2.2.1)))
    (fun (w8 : ByteArray × Int × Int × Int × Int × Int × Int × Int × Unit) =>
      bif (w8.2.1 == w8.2.2.1) then
        some (((0 : Int), (0 : Int)), ((w8.1.size : Int), (9 : Int)))
      else
      bif (w8.2.2.2.1 == (IntKind.i64.wrap (w8.2.1 - (1 : Int)))) then
        some (((0 : Int), (0 : Int)), ((w8.1.size : Int), (9 : Int)))
      else
      f208l5 k
        (fun (w18 : ByteArray × Int × Int × Int × Int × Int × Int × Int × Int × Unit) =>
          bif (decide (w18.2.2.2.1 > (15 : Int))) then
            some (((0 : Int), (0 : Int)), ((0 : Int), (19 : Int)))
          else
          f208p6 k
            (fun (w19 : ByteArray × Int × Int × Int × Int × Int × Int × Int × Unit) =>
              some ((w19.2.2.1, w19.2.2.2.1), ((w19.1.size : Int), (0 : Int))))
            (w18.1, w18.2.1, w18.2.2.1, w18.2.2.2.2.1, w18.2.2.2.2.2.1, w18.2.2.2.2.2.2.1, w18.2.2.2.2.2.2.2.1, w18.2.2.2.2.2.2.2.2.1, ()))
        (w8.1, w8.2.2.1, w8.2.2.2.1, (0 : Int), (0 : Int), (0 : Int), w8.2.2.1, w8.2.2.2.2.1, w8.2.2.2.2.2.1, w8.2.2.2.2.2.2.1, w8.2.2.2.2.2.2.2.1, ()))
    (x, y1, y1, (-1 : Int), (0 : Int), (0 : Int), (0 : Int), (0 : Int), ())
  else none
noncomputable def f208L (k : Nat) : Sums := [(2018, f208p0S k), (252, f208l1S k), (523558, f208p2S k), (1047118, f208p3S k), (32722, f208p4S k), (4090, f208l5S k), (4094, f208p6S k)]
theorem f208LS (k : Nat) : SumsOk P Go.Proofs.Tryd.f8.ntmps (f208L k) (codeOf Go.Proofs.Tryd.f8) 1 := (((((((SumsOk.nil).cons (c := f208p6C) (by kernel_rfl) (f208p6O k)).cons (c := f208l5C) (by kernel_rfl) (f208l5O k)).cons (c := f208p4C) (by kernel_rfl) (f208p4O k)).cons (c := f208p3C) (by kernel_rfl) (f208p3O k)).cons (c := f208p2C) (by kernel_rfl) (f208p2O k)).cons (c := f208l1C) (by kernel_rfl) (f208l1O k)).cons (c := f208p0C) (by kernel_rfl) (f208p0O k)
theorem f208E (k : Nat) (x : ByteArray) : evFS tab (f208T k) (f208L k) Go.Proofs.Tryd.f8.ntmps Go.Proofs.Tryd.f8.results.toList (codeOf Go.Proofs.Tryd.f8) (argsV [.dat .str] x) [.agg (.pair (.pair (.int .i64) (.int .i64)) (.pair (.int .i64) (.int .i64)))] = f208F k x := by kernel_rfl
theorem f208Ok (k : Nat) (x : ByteArray) (y : ((Int × Int) × (Int × Int))) (h : f208F k x = some y) : FnOk P 8 [.dat .str] [.agg (.pair (.pair (.int .i64) (.int .i64)) (.pair (.int .i64) (.int .i64)))] x y :=
  evFS_sound tabOk (f208TS k) mixed Go.Proofs.Tryd.func8 (c := codeOf Go.Proofs.Tryd.f8) (by kernel_rfl) (f208LS k) ((f208E k x).trans h)
/-! ## midrange/midrangelaw01.NumericTexts -/
noncomputable def f203T (k : Nat) : Table := [(6, entFn [] [.dat .bool] (f13F k)), (7, entFn [.dat .str] [.agg (.pair (.int .i64) (.int .i64)), .dat (.int .i64), .dat (.int .i64)] (f207F k)), (8, entFn [.dat .str] [.agg (.pair (.pair (.int .i64) (.int .i64)) (.pair (.int .i64) (.int .i64)))] (f208F k))]
theorem f203TS (k : Nat) : Sound P (f203T k) := (((Sound.nil).cons f208B (f208Ok k)).cons f207B (f207Ok k)).cons f13B (f13Ok k)
theorem f203B : HasBody P 3 := ⟨Go.Proofs.Tryd.f3, Go.Proofs.Tryd.func3, by kernel_rfl, by kernel_rfl⟩
noncomputable def f203F (k : Nat) (x : ByteArray) : Option (Bool) :=
  Option.bind (f13F k ()) fun y1 =>
  bif (!y1) then
    some false
  else
  bif (decide ((x.size : Int) > (100 : Int))) then
    some true
  else
  Option.bind (f207F k x) fun y2 =>
  Option.bind (f208F k x) fun y3 =>
  bif (y2.2.2 == y3.2.2) then
    bif (y2.2.1 == y3.2.1) then
      some ((y2.1.1 == y3.1.1) && ((y2.1.2 == y3.1.2) && true))
    else
    some false
  else
  some false
noncomputable def f203L (k : Nat) : Sums := []
theorem f203LS (k : Nat) : SumsOk P Go.Proofs.Tryd.f3.ntmps (f203L k) (codeOf Go.Proofs.Tryd.f3) 1 := SumsOk.nil
theorem f203E (k : Nat) (x : ByteArray) : evFS tab (f203T k) (f203L k) Go.Proofs.Tryd.f3.ntmps Go.Proofs.Tryd.f3.results.toList (codeOf Go.Proofs.Tryd.f3) (argsV [.dat .str] x) [.dat .bool] = f203F k x := by kernel_rfl
theorem f203Ok (k : Nat) (x : ByteArray) (y : Bool) (h : f203F k x = some y) : FnOk P 3 [.dat .str] [.dat .bool] x y :=
  evFS_sound tabOk (f203TS k) mixed Go.Proofs.Tryd.func3 (c := codeOf Go.Proofs.Tryd.f3) (by kernel_rfl) (f203LS k) ((f203E k x).trans h)
/-! ## midrange/numeric.CheckNumber -/
noncomputable def f52T (k : Nat) : Table := [(20, entFn [.dat .bool, .dat (.int .i64)] [.dat (.int .i64)] (f43F k)), (31, entFn [.dat (.int .i64), .dat (.int .i64), .dat (.int .i64)] [.dat .bool] (f70F k))]
theorem f52TS (k : Nat) : Sound P (f52T k) := ((Sound.nil).cons f70B (f70Ok k)).cons f43B (f43Ok k)
theorem f52B : HasBody P 12 := ⟨Go.Proofs.Tryd.f12, Go.Proofs.Tryd.func12, by kernel_rfl, by kernel_rfl⟩
noncomputable def f52F (k : Nat) (x : (Int × Int)) : Option (Int) :=
  Option.bind (f70F k (x.1, (-999999999999999 : Int), (999999999999999 : Int))) fun y1 =>
  bif (!y1) then
    Option.bind (f43F k (true, (3 : Int))) fun y2 =>
    some y2
  else
  Option.bind (f70F k (x.2, (0 : Int), (15 : Int))) fun y3 =>
  Option.bind (f43F k ((!y3), (3 : Int))) fun y4 =>
  some y4
noncomputable def f52L (k : Nat) : Sums := []
theorem f52LS (k : Nat) : SumsOk P Go.Proofs.Tryd.f12.ntmps (f52L k) (codeOf Go.Proofs.Tryd.f12) 1 := SumsOk.nil
theorem f52E (k : Nat) (x : (Int × Int)) : evFS tab (f52T k) (f52L k) Go.Proofs.Tryd.f12.ntmps Go.Proofs.Tryd.f12.results.toList (codeOf Go.Proofs.Tryd.f12) (argsV [.agg (.pair (.int .i64) (.int .i64))] x) [.dat (.int .i64)] = f52F k x := by kernel_rfl
theorem f52Ok (k : Nat) (x : (Int × Int)) (y : Int) (h : f52F k x = some y) : FnOk P 12 [.agg (.pair (.int .i64) (.int .i64))] [.dat (.int .i64)] x y :=
  evFS_sound tabOk (f52TS k) mixed Go.Proofs.Tryd.func12 (c := codeOf Go.Proofs.Tryd.f12) (by kernel_rfl) (f52LS k) ((f52E k x).trans h)
/-! ## midrange/numeric.wideOf -/
noncomputable def f84T (k : Nat) : Table := []
theorem f84TS (k : Nat) : Sound P (f84T k) := Sound.nil
theorem f84B : HasBody P 65 := ⟨Go.Proofs.Tryd.f65, Go.Proofs.Tryd.func65, by kernel_rfl, by kernel_rfl⟩
noncomputable def f84F (k : Nat) (x : Int) : Option ((Int × (Int × (Int × Int)))) :=
  some (x, ((0 : Int), ((0 : Int), (0 : Int))))
noncomputable def f84L (k : Nat) : Sums := []
theorem f84LS (k : Nat) : SumsOk P Go.Proofs.Tryd.f65.ntmps (f84L k) (codeOf Go.Proofs.Tryd.f65) 1 := SumsOk.nil
theorem f84E (k : Nat) (x : Int) : evFS tab (f84T k) (f84L k) Go.Proofs.Tryd.f65.ntmps Go.Proofs.Tryd.f65.results.toList (codeOf Go.Proofs.Tryd.f65) (argsV [.dat (.int .u64)] x) [.agg (.pair (.int .u64) (.pair (.int .u64) (.pair (.int .u64) (.int .u64))))] = f84F k x := by kernel_rfl
theorem f84Ok (k : Nat) (x : Int) (y : (Int × (Int × (Int × Int)))) (h : f84F k x = some y) : FnOk P 65 [.dat (.int .u64)] [.agg (.pair (.int .u64) (.pair (.int .u64) (.pair (.int .u64) (.int .u64))))] x y :=
  evFS_sound tabOk (f84TS k) mixed Go.Proofs.Tryd.func65 (c := codeOf Go.Proofs.Tryd.f65) (by kernel_rfl) (f84LS k) ((f84E k x).trans h)
/-! ## (midrange/numeric.wide).shifted -/
noncomputable def f85T (k : Nat) : Table := [(83, entFn [.agg (.pair (.int .u64) (.pair (.int .u64) (.pair (.int .u64) (.int .u64)))), .dat (.int .u64)] [.agg (.pair (.int .u64) (.pair (.int .u64) (.pair (.int .u64) (.int .u64))))] (f106F k))]
theorem f85TS (k : Nat) : Sound P (f85T k) := (Sound.nil).cons f106B (f106Ok k)
theorem f85B : HasBody P 66 := ⟨Go.Proofs.Tryd.f66, Go.Proofs.Tryd.func66, by kernel_rfl, by kernel_rfl⟩
noncomputable def f85l0H : Shape := ⟨[(2, .one (.ptr 0 0)), (4, .one (.ptr 1 0)), (5, .one (.int .i64)), (6, .one (.int .i64))], [(0, .var [.int .u64, .int .u64, .int .u64, .int .u64]), (1, .var [.int .u64, .int .u64, .int .u64, .int .u64])], 2⟩
noncomputable def f85l0X0 : Shape := ⟨[(2, .one (.ptr 0 0)), (4, .one (.ptr 1 0))], [(0, .var [.int .u64, .int .u64, .int .u64, .int .u64]), (1, .var [.int .u64, .int .u64, .int .u64, .int .u64])], 2⟩
noncomputable def f85l0N : NoteR := ⟨[2, 4, 5, 6], [], []⟩
noncomputable def f85l0M : NoteR := ⟨[2, 4], [], []⟩
noncomputable def f85l0C : Code := firstC (codesAt 26 (codeOf Go.Proofs.Tryd.f66) 1)
noncomputable def f85l0s {R : Type} (k : Nat) (rec : Int × Int × Int × Int × Int × Int × Int × Int × Int × Int × Unit → Option R) (k0 : Int × Int × Int × Int × Int × Int × Int × Int × Unit → Option R) (v : Int × Int × Int × Int × Int × Int × Int × Int × Int × Int × Unit) : Option R :=
  bif (decide (v.2.1 < v.1)) then
    Option.bind (f106F k ((v.2.2.1, (v.2.2.2.1, (v.2.2.2.2.1, v.2.2.2.2.2.1))), (10 : Int))) fun y1 =>
    rec (v.1, (IntKind.i64.wrap (v.2.1 + (1 : Int))), y1.1, y1.2.1, y1.2.2.1, y1.2.2.2, v.2.2.2.2.2.2.1, v.2.2.2.2.2.2.2.1, v.2.2.2.2.2.2.2.2.1, v.2.2.2.2.2.2.2.2.2.1, ())
  else
  k0 (v.2.2.1, v.2.2.2.1, v.2.2.2.2.1, v.2.2.2.2.2.1, v.2.2.2.2.2.2.1, v.2.2.2.2.2.2.2.1, v.2.2.2.2.2.2.2.2.1, v.2.2.2.2.2.2.2.2.2.1, ())
noncomputable def f85l0 {R : Type} (k : Nat) (k0 : Int × Int × Int × Int × Int × Int × Int × Int × Unit → Option R) (v : Int × Int × Int × Int × Int × Int × Int × Int × Int × Int × Unit) : Option R := iterS (fun rec v => f85l0s k rec k0 v) k v
noncomputable def f85l0S (k : Nat) : Sum1 := loopSum f85l0H f85l0N k (fun R rec K v => f85l0s k rec (fun w => K (.exit 0) (encSt f85l0X0 w)) v)
theorem f85l0E (k : Nat) (R : Type) (rec : St → Option R) (K : X → St → Option R) (v : f85l0H.Den) : evS tab (f85T k) Go.Proofs.Tryd.f66.ntmps [] (bodyOf f85l0C) 52 (bodyK f85l0N f85l0M rec K) (encSt f85l0H v) = f85l0s k (fun v => rec (encSt f85l0H v)) (fun w => K (.exit 0) (encSt f85l0X0 w)) v := by kernel_rfl
theorem f85l0I (k : Nat) : SumsOk P Go.Proofs.Tryd.f66.ntmps [] (bodyOf f85l0C) 52 := SumsOk.nil
theorem f85l0O (k : Nat) : SumOk P Go.Proofs.Tryd.f66.ntmps f85l0C (f85l0S k) := (show f85l0C = .loop (bodyOf f85l0C) by kernel_rfl) ▸ sum_loop tabOk (f85TS k) mixed (f85l0I k) (f85l0E k)
noncomputable def f85F (k : Nat) (x : (Int × (Int × (Int × Int))) × Int) : Option ((Int × (Int × (Int × Int)))) :=
  f85l0 k
    (fun (w2 : Int × Int × Int × Int × Int × Int × Int × Int × Unit) =>
      some (w2.1, (w2.2.1, (w2.2.2.1, w2.2.2.2.1))))
    (x.2, (0 : Int), x.1.1, x.1.2.1, x.1.2.2.1, x.1.2.2.2, (0 : Int), (0 : Int), (0 : Int), (0 : Int), ())
noncomputable def f85L (k : Nat) : Sums := [(26, f85l0S k)]
theorem f85LS (k : Nat) : SumsOk P Go.Proofs.Tryd.f66.ntmps (f85L k) (codeOf Go.Proofs.Tryd.f66) 1 := (SumsOk.nil).cons (c := f85l0C) (by kernel_rfl) (f85l0O k)
theorem f85E (k : Nat) (x : (Int × (Int × (Int × Int))) × Int) : evFS tab (f85T k) (f85L k) Go.Proofs.Tryd.f66.ntmps Go.Proofs.Tryd.f66.results.toList (codeOf Go.Proofs.Tryd.f66) (argsV [.agg (.pair (.int .u64) (.pair (.int .u64) (.pair (.int .u64) (.int .u64)))), .dat (.int .i64)] x) [.agg (.pair (.int .u64) (.pair (.int .u64) (.pair (.int .u64) (.int .u64))))] = f85F k x := by kernel_rfl
theorem f85Ok (k : Nat) (x : (Int × (Int × (Int × Int))) × Int) (y : (Int × (Int × (Int × Int)))) (h : f85F k x = some y) : FnOk P 66 [.agg (.pair (.int .u64) (.pair (.int .u64) (.pair (.int .u64) (.int .u64)))), .dat (.int .i64)] [.agg (.pair (.int .u64) (.pair (.int .u64) (.pair (.int .u64) (.int .u64))))] x y :=
  evFS_sound tabOk (f85TS k) mixed Go.Proofs.Tryd.func66 (c := codeOf Go.Proofs.Tryd.f66) (by kernel_rfl) (f85LS k) ((f85E k x).trans h)
/-! ## midrange/numeric.amount -/
noncomputable def f83T (k : Nat) : Table := [(65, entFn [.dat (.int .u64)] [.agg (.pair (.int .u64) (.pair (.int .u64) (.pair (.int .u64) (.int .u64))))] (f84F k)), (66, entFn [.agg (.pair (.int .u64) (.pair (.int .u64) (.pair (.int .u64) (.int .u64)))), .dat (.int .i64)] [.agg (.pair (.int .u64) (.pair (.int .u64) (.pair (.int .u64) (.int .u64))))] (f85F k))]
theorem f83TS (k : Nat) : Sound P (f83T k) := ((Sound.nil).cons f85B (f85Ok k)).cons f84B (f84Ok k)
theorem f83B : HasBody P 47 := ⟨Go.Proofs.Tryd.f47, Go.Proofs.Tryd.func47, by kernel_rfl, by kernel_rfl⟩
noncomputable def f83F (k : Nat) (x : (Int × Int) × Int) : Option ((Int × (Int × (Int × Int)))) :=
  Option.bind (f84F k (IntKind.u64.wrap (mxI x.1.1 (IntKind.i64.wrap (0 - x.1.1))))) fun y1 =>
  Option.bind (f85F k ((y1.1, (y1.2.1, (y1.2.2.1, y1.2.2.2))), x.2)) fun y2 =>
  some (y2.1, (y2.2.1, (y2.2.2.1, y2.2.2.2)))
noncomputable def f83L (k : Nat) : Sums := []
theorem f83LS (k : Nat) : SumsOk P Go.Proofs.Tryd.f47.ntmps (f83L k) (codeOf Go.Proofs.Tryd.f47) 1 := SumsOk.nil
theorem f83E (k : Nat) (x : (Int × Int) × Int) : evFS tab (f83T k) (f83L k) Go.Proofs.Tryd.f47.ntmps Go.Proofs.Tryd.f47.results.toList (codeOf Go.Proofs.Tryd.f47) (argsV [.agg (.pair (.int .i64) (.int .i64)), .dat (.int .i64)] x) [.agg (.pair (.int .u64) (.pair (.int .u64) (.pair (.int .u64) (.int .u64))))] = f83F k x := by kernel_rfl
theorem f83Ok (k : Nat) (x : (Int × Int) × Int) (y : (Int × (Int × (Int × Int)))) (h : f83F k x = some y) : FnOk P 47 [.agg (.pair (.int .i64) (.int .i64)), .dat (.int .i64)] [.agg (.pair (.int .u64) (.pair (.int .u64) (.pair (.int .u64) (.int .u64))))] x y :=
  evFS_sound tabOk (f83TS k) mixed Go.Proofs.Tryd.func47 (c := codeOf Go.Proofs.Tryd.f47) (by kernel_rfl) (f83LS k) ((f83E k x).trans h)
/-! ## midrange/numeric.aligned -/
noncomputable def f62T (k : Nat) : Table := [(47, entFn [.agg (.pair (.int .i64) (.int .i64)), .dat (.int .i64)] [.agg (.pair (.int .u64) (.pair (.int .u64) (.pair (.int .u64) (.int .u64))))] (f83F k))]
theorem f62TS (k : Nat) : Sound P (f62T k) := (Sound.nil).cons f83B (f83Ok k)
theorem f62B : HasBody P 26 := ⟨Go.Proofs.Tryd.f26, Go.Proofs.Tryd.func26, by kernel_rfl, by kernel_rfl⟩
noncomputable def f62F (k : Nat) (x : (Int × Int) × (Int × Int)) : Option ((Int × (Int × (Int × Int))) × (Int × (Int × (Int × Int))) × Int) :=
  Option.bind (f83F k ((x.1.1, x.1.2), (IntKind.i64.wrap ((mxI x.1.2 x.2.2) - x.1.2)))) fun y1 =>
  Option.bind (f83F k ((x.2.1, x.2.2), (IntKind.i64.wrap ((mxI x.1.2 x.2.2) - x.2.2)))) fun y2 =>
  some ((y1.1, (y1.2.1, (y1.2.2.1, y1.2.2.2))), (y2.1, (y2.2.1, (y2.2.2.1, y2.2.2.2))), (mxI x.1.2 x.2.2))
noncomputable def f62L (k : Nat) : Sums := []
theorem f62LS (k : Nat) : SumsOk P Go.Proofs.Tryd.f26.ntmps (f62L k) (codeOf Go.Proofs.Tryd.f26) 1 := SumsOk.nil
theorem f62E (k : Nat) (x : (Int × Int) × (Int × Int)) : evFS tab (f62T k) (f62L k) Go.Proofs.Tryd.f26.ntmps Go.Proofs.Tryd.f26.results.toList (codeOf Go.Proofs.Tryd.f26) (argsV [.agg (.pair (.int .i64) (.int .i64)), .agg (.pair (.int .i64) (.int .i64))] x) [.agg (.pair (.int .u64) (.pair (.int .u64) (.pair (.int .u64) (.int .u64)))), .agg (.pair (.int .u64) (.pair (.int .u64) (.pair (.int .u64) (.int .u64)))), .dat (.int .i64)] = f62F k x := by kernel_rfl
theorem f62Ok (k : Nat) (x : (Int × Int) × (Int × Int)) (y : (Int × (Int × (Int × Int))) × (Int × (Int × (Int × Int))) × Int) (h : f62F k x = some y) : FnOk P 26 [.agg (.pair (.int .i64) (.int .i64)), .agg (.pair (.int .i64) (.int .i64))] [.agg (.pair (.int .u64) (.pair (.int .u64) (.pair (.int .u64) (.int .u64)))), .agg (.pair (.int .u64) (.pair (.int .u64) (.pair (.int .u64) (.int .u64)))), .dat (.int .i64)] x y :=
  evFS_sound tabOk (f62TS k) mixed Go.Proofs.Tryd.func26 (c := codeOf Go.Proofs.Tryd.f26) (by kernel_rfl) (f62LS k) ((f62E k x).trans h)
/-! ## midrange/numeric.Compared -/
noncomputable def f21T (k : Nat) : Table := [(12, entFn [.agg (.pair (.int .i64) (.int .i64))] [.dat (.int .i64)] (f52F k)), (19, entFn [.dat (.slice (.int .i64))] [.dat (.int .i64)] (f42F k)), (26, entFn [.agg (.pair (.int .i64) (.int .i64)), .agg (.pair (.int .i64) (.int .i64))] [.agg (.pair (.int .u64) (.pair (.int .u64) (.pair (.int .u64) (.int .u64)))), .agg (.pair (.int .u64) (.pair (.int .u64) (.pair (.int .u64) (.int .u64)))), .dat (.int .i64)] (f62F k)), (27, entFn [.agg (.pair (.int .u64) (.pair (.int .u64) (.pair (.int .u64) (.int .u64)))), .agg (.pair (.int .u64) (.pair (.int .u64) (.pair (.int .u64) (.int .u64))))] [.dat (.int .i64)] (f63F k))]
theorem f21TS (k : Nat) : Sound P (f21T k) := ((((Sound.nil).cons f63B (f63Ok k)).cons f62B (f62Ok k)).cons f42B (f42Ok k)).cons f52B (f52Ok k)
theorem f21B : HasBody P 9 := ⟨Go.Proofs.Tryd.f9, Go.Proofs.Tryd.func9, by kernel_rfl, by kernel_rfl⟩
noncomputable def f21p0H : Shape := ⟨[(2, .one (.ptr 0 0)), (3, .one (.ptr 1 0)), (7, .one (.ptr 2 0)), (8, .one (.ptr 3 0))], [(0, .var [.int .i64, .int .i64]), (1, .var [.int .i64, .int .i64]), (2, .var [.int .u64, .int .u64, .int .u64, .int .u64]), (3, .var [.int .u64, .int .u64, .int .u64, .int .u64])], 4⟩
noncomputable def f21p0X0 : Shape := ⟨[(4, .one (.int .i64)), (5, .one (.int .i64)), (7, .one (.ptr 0 0)), (8, .one (.ptr 1 0))], [(0, .var [.int .u64, .int .u64, .int .u64, .int .u64]), (1, .var [.int .u64, .int .u64, .int .u64, .int .u64])], 2⟩
noncomputable def f21p0X1 : Shape := ⟨[(7, .one (.ptr 0 0)), (8, .one (.ptr 1 0))], [(0, .var [.int .u64, .int .u64, .int .u64, .int .u64]), (1, .var [.int .u64, .int .u64, .int .u64, .int .u64])], 2⟩
noncomputable def f21p0N : NoteR := ⟨[2, 3, 7, 8], [], []⟩
noncomputable def f21p0M : NoteR := ⟨[4, 5, 7, 8], [], []⟩
noncomputable def f21p0C : Code := firstC (codesAt 30 (codeOf Go.Proofs.Tryd.f9) 1)
noncomputable def f21p0 {R : Type} (k : Nat) (k0 : Int × Int × Int × Int × Int × Int × Int × Int × Int × Int × Unit → Option R) (k1 : Int × Int × Int × Int × Int × Int × Int × Int × Unit → Option R) (v : Int × Int × Int × Int × Int × Int × Int × Int × Int × Int × Int × Int × Unit) : Option R :=
  bif (decide (v.1 < (0 : Int))) then
    bif (decide (v.2.2.1 < (0 : Int))) then
      Option.bind (f63F k ((v.2.2.2.2.2.2.2.2.1, (v.2.2.2.2.2.2.2.2.2.1, (v.2.2.2.2.2.2.2.2.2.2.1, v.2.2.2.2.2.2.2.2.2.2.2.1))), (v.2.2.2.2.1, (v.2.2.2.2.2.1, (v.2.2.2.2.2.2.1, v.2.2.2.2.2.2.2.1))))) fun y5 =>
      k0 (y5, (0 : Int), v.2.2.2.2.1, v.2.2.2.2.2.1, v.2.2.2.2.2.2.1, v.2.2.2.2.2.2.2.1, v.2.2.2.2.2.2.2.2.1, v.2.2.2.2.2.2.2.2.2.1, v.2.2.2.2.2.2.2.2.2.2.1, v.2.2.2.2.2.2.2.2.2.2.2.1, ())
    else
    bif (decide (v.1 < (0 : Int))) then
      k0 ((-1 : Int), (0 : Int), v.2.2.2.2.1, v.2.2.2.2.2.1, v.2.2.2.2.2.2.1, v.2.2.2.2.2.2.2.1, v.2.2.2.2.2.2.2.2.1, v.2.2.2.2.2.2.2.2.2.1, v.2.2.2.2.2.2.2.2.2.2.1, v.2.2.2.2.2.2.2.2.2.2.2.1, ())
    else
    bif (decide (v.2.2.1 < (0 : Int))) then
      k0 ((1 : Int), (0 : Int), v.2.2.2.2.1, v.2.2.2.2.2.1, v.2.2.2.2.2.2.1, v.2.2.2.2.2.2.2.1, v.2.2.2.2.2.2.2.2.1, v.2.2.2.2.2.2.2.2.2.1, v.2.2.2.2.2.2.2.2.2.2.1, v.2.2.2.2.2.2.2.2.2.2.2.1, ())
    else
    k1 (v.2.2.2.2.1, v.2.2.2.2.2.1, v.2.2.2.2.2.2.1, v.2.2.2.2.2.2.2.1, v.2.2.2.2.2.2.2.2.1, v.2.2.2.2.2.2.2.2.2.1, v.2.2.2.2.2.2.2.2.2.2.1, v.2.2.2.2.2.2.2.2.2.2.2.1, ())
  else
  bif (decide (v.1 < (0 : Int))) then
    k0 ((-1 : Int), (0 : Int), v.2.2.2.2.1, v.2.2.2.2.2.1, v.2.2.2.2.2.2.1, v.2.2.2.2.2.2.2.1, v.2.2.2.2.2.2.2.2.1, v.2.2.2.2.2.2.2.2.2.1, v.2.2.2.2.2.2.2.2.2.2.1, v.2.2.2.2.2.2.2.2.2.2.2.1, ())
  else
  bif (decide (v.2.2.1 < (0 : Int))) then
    k0 ((1 : Int), (0 : Int), v.2.2.2.2.1, v.2.2.2.2.2.1, v.2.2.2.2.2.2.1, v.2.2.2.2.2.2.2.1, v.2.2.2.2.2.2.2.2.1, v.2.2.2.2.2.2.2.2.2.1, v.2.2.2.2.2.2.2.2.2.2.1, v.2.2.2.2.2.2.2.2.2.2.2.1, ())
  else
  k1 (v.2.2.2.2.1, v.2.2.2.2.2.1, v.2.2.2.2.2.2.1, v.2.2.2.2.2.2.2.1, v.2.2.2.2.2.2.2.2.1, v.2.2.2.2.2.2.2.2.2.1, v.2.2.2.2.2.2.2.2.2.2.1, v.2.2.2.2.2.2.2.2.2.2.2.1, ())
noncomputable def f21p0S (k : Nat) : Sum1 := partSum f21p0H f21p0N (fun R K v => f21p0 k (fun w => K .ret (encSt f21p0X0 w)) (fun w => K .normal (encSt f21p0X1 w)) v)
theorem f21p0E (k : Nat) (R : Type) (K : X → St → Option R) (v : f21p0H.Den) : evS tab (f21T k) Go.Proofs.Tryd.f9.ntmps [] f21p0C 30 (partK f21p0M K) (encSt f21p0H v) = f21p0 k (fun w => K .ret (encSt f21p0X0 w)) (fun w => K .normal (encSt f21p0X1 w)) v := by kernel_rfl
theorem f21p0I (k : Nat) : SumsOk P Go.Proofs.Tryd.f9.ntmps [] f21p0C 30 := SumsOk.nil
theorem f21p0O (k : Nat) : SumOk P Go.Proofs.Tryd.f9.ntmps f21p0C (f21p0S k) := sum_part tabOk (f21TS k) mixed (f21p0I k) (f21p0E k)
noncomputable def f21F (k : Nat) (x : (Int × Int) × (Int × Int)) : Option (Int × Int) :=
  Option.bind (f52F k (x.1.1, x.1.2)) fun y1 =>
  Option.bind (f52F k (x.2.1, x.2.2)) fun y2 =>
  Option.bind (f42F k [y1, y2]) fun y3 =>
  bif (y3 != (0 : Int)) then
    some ((0 : Int), y3)
  else
  Option.bind (f62F k ((x.1.1, x.1.2), (x.2.1, x.2.2))) fun y4 =>
  f21p0 k
    (fun (w6 : Int × Int × Int × Int × Int × Int × Int × Int × Int × Int × Unit) =>
      some (w6.1, w6.2.1))
    (fun (w7 : Int × Int × Int × Int × Int × Int × Int × Int × Unit) =>
      Option.bind (f63F k ((w7.1, (w7.2.1, (w7.2.2.1, w7.2.2.2.1))), (w7.2.2.2.2.1, (w7.2.2.2.2.2.1, (w7.2.2.2.2.2.2.1, w7.2.2.2.2.2.2.2.1))))) fun y8 =>
      some (y8, (0 : Int)))
    (x.1.1, x.1.2, x.2.1, x.2.2, y4.1.1, y4.1.2.1, y4.1.2.2.1, y4.1.2.2.2, y4.2.1.1, y4.2.1.2.1, y4.2.1.2.2.1, y4.2.1.2.2.2, ())
noncomputable def f21L (k : Nat) : Sums := [(30, f21p0S k)]
theorem f21LS (k : Nat) : SumsOk P Go.Proofs.Tryd.f9.ntmps (f21L k) (codeOf Go.Proofs.Tryd.f9) 1 := (SumsOk.nil).cons (c := f21p0C) (by kernel_rfl) (f21p0O k)
theorem f21E (k : Nat) (x : (Int × Int) × (Int × Int)) : evFS tab (f21T k) (f21L k) Go.Proofs.Tryd.f9.ntmps Go.Proofs.Tryd.f9.results.toList (codeOf Go.Proofs.Tryd.f9) (argsV [.agg (.pair (.int .i64) (.int .i64)), .agg (.pair (.int .i64) (.int .i64))] x) [.dat (.int .i64), .dat (.int .i64)] = f21F k x := by kernel_rfl
theorem f21Ok (k : Nat) (x : (Int × Int) × (Int × Int)) (y : Int × Int) (h : f21F k x = some y) : FnOk P 9 [.agg (.pair (.int .i64) (.int .i64)), .agg (.pair (.int .i64) (.int .i64))] [.dat (.int .i64), .dat (.int .i64)] x y :=
  evFS_sound tabOk (f21TS k) mixed Go.Proofs.Tryd.func9 (c := codeOf Go.Proofs.Tryd.f9) (by kernel_rfl) (f21LS k) ((f21E k x).trans h)
/-! ## midrange/numeric.FormatNumber -/
noncomputable def f210T (k : Nat) : Table := [(12, entFn [.agg (.pair (.int .i64) (.int .i64))] [.dat (.int .i64)] (f52F k)), (28, entFn [.dat (.int .i64)] [.dat .str] (f228F k)), (29, entFn [.dat .str, .dat (.int .i64)] [.dat .str] (f73F k))]
theorem f210TS (k : Nat) : Sound P (f210T k) := (((Sound.nil).cons f73B (f73Ok k)).cons f228B (f228Ok k)).cons f52B (f52Ok k)
theorem f210B : HasBody P 10 := ⟨Go.Proofs.Tryd.f10, Go.Proofs.Tryd.func10, by kernel_rfl, by kernel_rfl⟩
noncomputable def f210p0H : Shape := ⟨[(1, .one (.ptr 0 0)), (5, .one (.str))], [(0, .var [.int .i64, .int .i64])], 1⟩
noncomputable def f210p0X0 : Shape := ⟨[(1, .one (.ptr 0 0)), (5, .one (.str))], [(0, .var [.int .i64, .int .i64])], 1⟩
noncomputable def f210p0N : NoteR := ⟨[1, 5], [], []⟩
noncomputable def f210p0M : NoteR := ⟨[1, 2, 3, 5], [], []⟩
noncomputable def f210p0C : Code := firstC (codesAt 30 (codeOf Go.Proofs.Tryd.f10) 1)
noncomputable def f210p0 {R : Type} (k : Nat) (k0 : ByteArray × Int × Int × Unit → Option R) (v : ByteArray × Int × Int × Unit) : Option R :=
  bif (decide ((v.1.size : Int) ≤ v.2.2.1)) then
    let t3 := (IntKind.i64.wrap ((IntKind.i64.wrap (v.2.2.1 + (1 : Int))) - (v.1.size : Int)))
    Option.bind (f73F k ((⟨#[48]⟩ : ByteArray), t3)) fun y4 =>
    bif (decide (y4.size + v.1.size ≤ 9223372036854775807)) then
    k0 ((y4 ++ v.1), v.2.1, v.2.2.1, ())
    else none
  else
  k0 (v.1, v.2.1, v.2.2.1, ())
noncomputable def f210p0S (k : Nat) : Sum1 := partSum f210p0H f210p0N (fun R K v => f210p0 k (fun w => K .normal (encSt f210p0X0 w)) v)
theorem f210p0E (k : Nat) (R : Type) (K : X → St → Option R) (v : f210p0H.Den) : evS tab (f210T k) Go.Proofs.Tryd.f10.ntmps [] f210p0C 30 (partK f210p0M K) (encSt f210p0H v) = f210p0 k (fun w => K .normal (encSt f210p0X0 w)) v := by kernel_rfl
theorem f210p0I (k : Nat) : SumsOk P Go.Proofs.Tryd.f10.ntmps [] f210p0C 30 := SumsOk.nil
theorem f210p0O (k : Nat) : SumOk P Go.Proofs.Tryd.f10.ntmps f210p0C (f210p0S k) := sum_part tabOk (f210TS k) mixed (f210p0I k) (f210p0E k)
noncomputable def f210p1H : Shape := ⟨[(1, .one (.ptr 0 0)), (5, .one (.str))], [(0, .var [.int .i64, .int .i64])], 1⟩
noncomputable def f210p1X0 : Shape := ⟨[(1, .one (.ptr 0 0)), (5, .one (.str))], [(0, .var [.int .i64, .int .i64])], 1⟩
noncomputable def f210p1N : NoteR := ⟨[1, 5], [], []⟩
noncomputable def f210p1M : NoteR := ⟨[1, 2, 3, 5], [], []⟩
noncomputable def f210p1C : Code := firstC (codesAt 62 (codeOf Go.Proofs.Tryd.f10) 1)
noncomputable def f210p1 {R : Type} (k : Nat) (k0 : ByteArray × Int × Int × Unit → Option R) (v : ByteArray × Int × Int × Unit) : Option R :=
  bif (decide (v.2.2.1 > (0 : Int))) then
    bif (sliceBds (0 : Int) (IntKind.i64.wrap ((v.1.size : Int) - v.2.2.1)) (v.1.size : Int)) then
    let t6 := (v.1.extract 0 (Int.toNat (IntKind.i64.wrap ((v.1.size : Int) - v.2.2.1))))
    bif (decide (t6.size + (⟨#[46]⟩ : ByteArray).size ≤ 9223372036854775807)) then
    bif (sliceBds (IntKind.i64.wrap ((v.1.size : Int) - v.2.2.1)) (v.1.size : Int) (v.1.size : Int)) then
    let t7 := (v.1.extract (Int.toNat (IntKind.i64.wrap ((v.1.size : Int) - v.2.2.1))) (Int.toNat (v.1.size : Int)))
    bif (decide ((t6 ++ (⟨#[46]⟩ : ByteArray)).size + t7.size ≤ 9223372036854775807)) then
    k0 (((t6 ++ (⟨#[46]⟩ : ByteArray)) ++ t7), v.2.1, v.2.2.1, ())
    else none
    else none
    else none
    else none
  else
  k0 (v.1, v.2.1, v.2.2.1, ())
noncomputable def f210p1S (k : Nat) : Sum1 := partSum f210p1H f210p1N (fun R K v => f210p1 k (fun w => K .normal (encSt f210p1X0 w)) v)
theorem f210p1E (k : Nat) (R : Type) (K : X → St → Option R) (v : f210p1H.Den) : evS tab (f210T k) Go.Proofs.Tryd.f10.ntmps [] f210p1C 62 (partK f210p1M K) (encSt f210p1H v) = f210p1 k (fun w => K .normal (encSt f210p1X0 w)) v := by kernel_rfl
theorem f210p1I (k : Nat) : SumsOk P Go.Proofs.Tryd.f10.ntmps [] f210p1C 62 := SumsOk.nil
theorem f210p1O (k : Nat) : SumOk P Go.Proofs.Tryd.f10.ntmps f210p1C (f210p1S k) := sum_part tabOk (f210TS k) mixed (f210p1I k) (f210p1E k)
noncomputable def f210p2H : Shape := ⟨[(1, .one (.ptr 0 0)), (5, .one (.str))], [(0, .var [.int .i64, .int .i64])], 1⟩
noncomputable def f210p2X0 : Shape := ⟨[(5, .one (.str))], [], 0⟩
noncomputable def f210p2N : NoteR := ⟨[1, 5], [], []⟩
noncomputable def f210p2M : NoteR := ⟨[2, 3, 5], [], []⟩
noncomputable def f210p2C : Code := firstC (codesAt 126 (codeOf Go.Proofs.Tryd.f10) 1)
noncomputable def f210p2 {R : Type} (k : Nat) (k0 : ByteArray × Unit → Option R) (v : ByteArray × Int × Int × Unit) : Option R :=
  bif (decide (v.2.1 < (0 : Int))) then
    bif (decide ((⟨#[45]⟩ : ByteArray).size + v.1.size ≤ 9223372036854775807)) then
    k0 (((⟨#[45]⟩ : ByteArray) ++ v.1), ())
    else none
  else
  k0 (v.1, ())
noncomputable def f210p2S (k : Nat) : Sum1 := partSum f210p2H f210p2N (fun R K v => f210p2 k (fun w => K .normal (encSt f210p2X0 w)) v)
theorem f210p2E (k : Nat) (R : Type) (K : X → St → Option R) (v : f210p2H.Den) : evS tab (f210T k) Go.Proofs.Tryd.f10.ntmps [] f210p2C 126 (partK f210p2M K) (encSt f210p2H v) = f210p2 k (fun w => K .normal (encSt f210p2X0 w)) v := by kernel_rfl
theorem f210p2I (k : Nat) : SumsOk P Go.Proofs.Tryd.f10.ntmps [] f210p2C 126 := SumsOk.nil
theorem f210p2O (k : Nat) : SumOk P Go.Proofs.Tryd.f10.ntmps f210p2C (f210p2S k) := sum_part tabOk (f210TS k) mixed (f210p2I k) (f210p2E k)
noncomputable def f210F (k : Nat) (x : (Int × Int)) : Option (ByteArray × Int) :=
  Option.bind (f52F k (x.1, x.2)) fun y1 =>
  bif (y1 != (0 : Int)) then
    some (ByteArray.empty, y1)
  else
  Option.bind (f228F k (mxI x.1 (IntKind.i64.wrap (0 - x.1)))) fun y2 =>
  f210p0 k
    (fun (w5 : ByteArray × Int × Int × Unit) =>
      f210p1 k
        (fun (w8 : ByteArray × Int × Int × Unit) =>
          f210p2 k
            (fun (w9 : ByteArray × Unit) =>
              some (w9.1, (0 : Int)))
            (w8.1, w8.2.1, w8.2.2.1, ()))
        (w5.1, w5.2.1, w5.2.2.1, ()))
    (y2, x.1, x.2, ())
noncomputable def f210L (k : Nat) : Sums := [(30, f210p0S k), (62, f210p1S k), (126, f210p2S k)]
theorem f210LS (k : Nat) : SumsOk P Go.Proofs.Tryd.f10.ntmps (f210L k) (codeOf Go.Proofs.Tryd.f10) 1 := (((SumsOk.nil).cons (c := f210p2C) (by kernel_rfl) (f210p2O k)).cons (c := f210p1C) (by kernel_rfl) (f210p1O k)).cons (c := f210p0C) (by kernel_rfl) (f210p0O k)
theorem f210E (k : Nat) (x : (Int × Int)) : evFS tab (f210T k) (f210L k) Go.Proofs.Tryd.f10.ntmps Go.Proofs.Tryd.f10.results.toList (codeOf Go.Proofs.Tryd.f10) (argsV [.agg (.pair (.int .i64) (.int .i64))] x) [.dat .str, .dat (.int .i64)] = f210F k x := by kernel_rfl
theorem f210Ok (k : Nat) (x : (Int × Int)) (y : ByteArray × Int) (h : f210F k x = some y) : FnOk P 10 [.agg (.pair (.int .i64) (.int .i64))] [.dat .str, .dat (.int .i64)] x y :=
  evFS_sound tabOk (f210TS k) mixed Go.Proofs.Tryd.func10 (c := codeOf Go.Proofs.Tryd.f10) (by kernel_rfl) (f210LS k) ((f210E k x).trans h)
/-! ## midrange/midrangebase.Within -/
noncomputable def f48T (k : Nat) : Table := []
theorem f48TS (k : Nat) : Sound P (f48T k) := Sound.nil
theorem f48B : HasBody P 32 := ⟨Go.Proofs.Tryd.f32, Go.Proofs.Tryd.func32, by kernel_rfl, by kernel_rfl⟩
noncomputable def f48F (k : Nat) (x : Int × Int × Int) : Option (Bool) :=
  bif (decide (x.2.1 ≤ x.1)) then
    some (decide (x.1 ≤ x.2.2))
  else
  some false
noncomputable def f48L (k : Nat) : Sums := []
theorem f48LS (k : Nat) : SumsOk P Go.Proofs.Tryd.f32.ntmps (f48L k) (codeOf Go.Proofs.Tryd.f32) 1 := SumsOk.nil
theorem f48E (k : Nat) (x : Int × Int × Int) : evFS tab (f48T k) (f48L k) Go.Proofs.Tryd.f32.ntmps Go.Proofs.Tryd.f32.results.toList (codeOf Go.Proofs.Tryd.f32) (argsV [.dat (.int .i64), .dat (.int .i64), .dat (.int .i64)] x) [.dat .bool] = f48F k x := by kernel_rfl
theorem f48Ok (k : Nat) (x : Int × Int × Int) (y : Bool) (h : f48F k x = some y) : FnOk P 32 [.dat (.int .i64), .dat (.int .i64), .dat (.int .i64)] [.dat .bool] x y :=
  evFS_sound tabOk (f48TS k) mixed Go.Proofs.Tryd.func32 (c := codeOf Go.Proofs.Tryd.f32) (by kernel_rfl) (f48LS k) ((f48E k x).trans h)
/-! ## midrange/midrangeref01.NumberErr -/
noncomputable def f34T (k : Nat) : Table := [(24, entFn [.dat .bool] [.dat (.int .i64)] (f69F k)), (32, entFn [.dat (.int .i64), .dat (.int .i64), .dat (.int .i64)] [.dat .bool] (f48F k))]
theorem f34TS (k : Nat) : Sound P (f34T k) := ((Sound.nil).cons f48B (f48Ok k)).cons f69B (f69Ok k)
theorem f34B : HasBody P 13 := ⟨Go.Proofs.Tryd.f13, Go.Proofs.Tryd.func13, by kernel_rfl, by kernel_rfl⟩
noncomputable def f34F (k : Nat) (x : (Int × Int)) : Option (Int) :=
  Option.bind (f48F k (x.1, (-999999999999999 : Int), (999999999999999 : Int))) fun y1 =>
  bif y1 then
    Option.bind (f48F k (x.2, (0 : Int), (15 : Int))) fun y2 =>
    Option.bind (f69F k (!y2)) fun y3 =>
    some (IntKind.i64.wrap ((3 : Int) * y3))
  else
  Option.bind (f69F k true) fun y4 =>
  some (IntKind.i64.wrap ((3 : Int) * y4))
noncomputable def f34L (k : Nat) : Sums := []
theorem f34LS (k : Nat) : SumsOk P Go.Proofs.Tryd.f13.ntmps (f34L k) (codeOf Go.Proofs.Tryd.f13) 1 := SumsOk.nil
theorem f34E (k : Nat) (x : (Int × Int)) : evFS tab (f34T k) (f34L k) Go.Proofs.Tryd.f13.ntmps Go.Proofs.Tryd.f13.results.toList (codeOf Go.Proofs.Tryd.f13) (argsV [.agg (.pair (.int .i64) (.int .i64))] x) [.dat (.int .i64)] = f34F k x := by kernel_rfl
theorem f34Ok (k : Nat) (x : (Int × Int)) (y : Int) (h : f34F k x = some y) : FnOk P 13 [.agg (.pair (.int .i64) (.int .i64))] [.dat (.int .i64)] x y :=
  evFS_sound tabOk (f34TS k) mixed Go.Proofs.Tryd.func13 (c := codeOf Go.Proofs.Tryd.f13) (by kernel_rfl) (f34LS k) ((f34E k x).trans h)
/-! ## midrange/midrangeref01.Amount -/
noncomputable def f79T (k : Nat) : Table := []
theorem f79TS (k : Nat) : Sound P (f79T k) := Sound.nil
theorem f79B : HasBody P 34 := ⟨Go.Proofs.Tryd.f34, Go.Proofs.Tryd.func34, by kernel_rfl, by kernel_rfl⟩
noncomputable def f79F (k : Nat) (x : Int) : Option (Int) :=
  some (mxI x (IntKind.i64.wrap (0 - x)))
noncomputable def f79L (k : Nat) : Sums := []
theorem f79LS (k : Nat) : SumsOk P Go.Proofs.Tryd.f34.ntmps (f79L k) (codeOf Go.Proofs.Tryd.f34) 1 := SumsOk.nil
theorem f79E (k : Nat) (x : Int) : evFS tab (f79T k) (f79L k) Go.Proofs.Tryd.f34.ntmps Go.Proofs.Tryd.f34.results.toList (codeOf Go.Proofs.Tryd.f34) (argsV [.dat (.int .i64)] x) [.dat (.int .i64)] = f79F k x := by kernel_rfl
theorem f79Ok (k : Nat) (x : Int) (y : Int) (h : f79F k x = some y) : FnOk P 34 [.dat (.int .i64)] [.dat (.int .i64)] x y :=
  evFS_sound tabOk (f79TS k) mixed Go.Proofs.Tryd.func34 (c := codeOf Go.Proofs.Tryd.f34) (by kernel_rfl) (f79LS k) ((f79E k x).trans h)
/-! ## midrange/midrangeref01.trim -/
noncomputable def f95T (k : Nat) : Table := []
theorem f95TS (k : Nat) : Sound P (f95T k) := Sound.nil
theorem f95B : HasBody P 90 := ⟨Go.Proofs.Tryd.f90, Go.Proofs.Tryd.func90, by kernel_rfl, by kernel_rfl⟩
noncomputable def f95l0H : Shape := ⟨[(0, .one (.ro (.int .i64)))], [], 0⟩
noncomputable def f95l0X0 : Shape := ⟨[(0, .one (.ro (.int .i64)))], [], 0⟩
noncomputable def f95l0N : NoteR := ⟨[0], [], []⟩
noncomputable def f95l0M : NoteR := ⟨[0, 2], [], []⟩
noncomputable def f95l0C : Code := firstC (codesAt 12 (codeOf Go.Proofs.Tryd.f90) 1)
noncomputable def f95l0s {R : Type} (k : Nat) (rec : List Int × Unit → Option R) (k0 : List Int × Unit → Option R) (v : List Int × Unit) : Option R :=
  bif (decide ((v.1.length : Int) > (0 : Int))) then
    bif ((decide ((0 : Int) ≤ (IntKind.i64.wrap ((v.1.length : Int) - (1 : Int))))) && (decide ((IntKind.i64.wrap ((v.1.length : Int) - (1 : Int))) < (v.1.length : Int)))) then
    let t1 := (v.1.getD (Int.toNat (IntKind.i64.wrap ((v.1.length : Int) - (1 : Int)))) (0 : Int))
    bif (t1 == (0 : Int)) then
      bif (sliceBds (0 : Int) (IntKind.i64.wrap ((v.1.length : Int) - (1 : Int))) (v.1.length : Int)) then
      let t2 := ((v.1.take (Int.toNat (IntKind.i64.wrap ((v.1.length : Int) - (1 : Int))))).drop 0)
      rec (t2, ())
      else none
    else
    k0 (v.1, ())
    else none
  else
  k0 (v.1, ())
noncomputable def f95l0 {R : Type} (k : Nat) (k0 : List Int × Unit → Option R) (v : List Int × Unit) : Option R := iterS (fun rec v => f95l0s k rec k0 v) k v
noncomputable def f95l0S (k : Nat) : Sum1 := loopSum f95l0H f95l0N k (fun R rec K v => f95l0s k rec (fun w => K (.exit 0) (encSt f95l0X0 w)) v)
theorem f95l0E (k : Nat) (R : Type) (rec : St → Option R) (K : X → St → Option R) (v : f95l0H.Den) : evS tab (f95T k) Go.Proofs.Tryd.f90.ntmps [] (bodyOf f95l0C) 24 (bodyK f95l0N f95l0M rec K) (encSt f95l0H v) = f95l0s k (fun v => rec (encSt f95l0H v)) (fun w => K (.exit 0) (encSt f95l0X0 w)) v := by kernel_rfl
theorem f95l0I (k : Nat) : SumsOk P Go.Proofs.Tryd.f90.ntmps [] (bodyOf f95l0C) 24 := SumsOk.nil
theorem f95l0O (k : Nat) : SumOk P Go.Proofs.Tryd.f90.ntmps f95l0C (f95l0S k) := (show f95l0C = .loop (bodyOf f95l0C) by kernel_rfl) ▸ sum_loop tabOk (f95TS k) mixed (f95l0I k) (f95l0E k)
noncomputable def f95F (k : Nat) (x : (List Int)) : Option ((List Int)) :=
  f95l0 k
    (fun (w3 : List Int × Unit) =>
      some w3.1)
    (x, ())
noncomputable def f95L (k : Nat) : Sums := [(12, f95l0S k)]
theorem f95LS (k : Nat) : SumsOk P Go.Proofs.Tryd.f90.ntmps (f95L k) (codeOf Go.Proofs.Tryd.f90) 1 := (SumsOk.nil).cons (c := f95l0C) (by kernel_rfl) (f95l0O k)
theorem f95E (k : Nat) (x : (List Int)) : evFS tab (f95T k) (f95L k) Go.Proofs.Tryd.f90.ntmps Go.Proofs.Tryd.f90.results.toList (codeOf Go.Proofs.Tryd.f90) (argsV [.dat (.slice (.int .i64))] x) [.dat (.slice (.int .i64))] = f95F k x := by kernel_rfl
theorem f95Ok (k : Nat) (x : (List Int)) (y : (List Int)) (h : f95F k x = some y) : FnOk P 90 [.dat (.slice (.int .i64))] [.dat (.slice (.int .i64))] x y :=
  evFS_sound tabOk (f95TS k) mixed Go.Proofs.Tryd.func90 (c := codeOf Go.Proofs.Tryd.f90) (by kernel_rfl) (f95LS k) ((f95E k x).trans h)
/-! ## midrange/midrangeref01.LongOf -/
noncomputable def f61T (k : Nat) : Table := [(34, entFn [.dat (.int .i64)] [.dat (.int .i64)] (f79F k)), (90, entFn [.dat (.slice (.int .i64))] [.dat (.slice (.int .i64))] (f95F k))]
theorem f61TS (k : Nat) : Sound P (f61T k) := ((Sound.nil).cons f95B (f95Ok k)).cons f79B (f79Ok k)
theorem f61B : HasBody P 73 := ⟨Go.Proofs.Tryd.f73, Go.Proofs.Tryd.func73, by kernel_rfl, by kernel_rfl⟩
noncomputable def f61l0H : Shape := ⟨[(0, .one (.int .i64)), (4, .one (.ptr 0 0)), (5, .one (.own 1)), (6, .one (.int .i64))], [(0, .var [.bool, .emp]), (1, .row 3 (.int .i64) .plain)], 2⟩
noncomputable def f61l0X0 : Shape := ⟨[(0, .one (.int .i64)), (4, .one (.ptr 0 0)), (5, .one (.own 1))], [(0, .var [.bool, .emp]), (1, .row 3 (.int .i64) .plain)], 2⟩
noncomputable def f61l0N : NoteR := ⟨[0, 4, 5, 6], [], []⟩
noncomputable def f61l0M : NoteR := ⟨[0, 4, 5], [], []⟩
noncomputable def f61l0C : Code := firstC (codesAt 58 (codeOf Go.Proofs.Tryd.f73) 1)
noncomputable def f61l0s {R : Type} (k : Nat) (rec : Int × Int × Bool × List Int × Unit → Option R) (k0 : Int × Bool × List Int × Unit → Option R) (v : Int × Int × Bool × List Int × Unit) : Option R :=
  bif (decide (v.2.1 > (0 : Int))) then
    bif (decide ((v.2.2.2.1.length + [(Int.tmod v.2.1 (10 : Int))].length) * 8 ≤ 140737488355328) && decide (v.2.2.2.1.length + [(Int.tmod v.2.1 (10 : Int))].length ≤ 9223372036854775807)) then
    rec (v.1, (IntKind.i64.wrap (Int.tdiv v.2.1 (10 : Int))), v.2.2.1, (v.2.2.2.1 ++ [(Int.tmod v.2.1 (10 : Int))]), ())
    else none
  else
  k0 (v.1, v.2.2.1, v.2.2.2.1, ())
noncomputable def f61l0 {R : Type} (k : Nat) (k0 : Int × Bool × List Int × Unit → Option R) (v : Int × Int × Bool × List Int × Unit) : Option R := iterS (fun rec v => f61l0s k rec k0 v) k v
noncomputable def f61l0S (k : Nat) : Sum1 := loopSum f61l0H f61l0N k (fun R rec K v => f61l0s k rec (fun w => K (.exit 0) (encSt f61l0X0 w)) v)
theorem f61l0E (k : Nat) (R : Type) (rec : St → Option R) (K : X → St → Option R) (v : f61l0H.Den) : evS tab (f61T k) Go.Proofs.Tryd.f73.ntmps [] (bodyOf f61l0C) 116 (bodyK f61l0N f61l0M rec K) (encSt f61l0H v) = f61l0s k (fun v => rec (encSt f61l0H v)) (fun w => K (.exit 0) (encSt f61l0X0 w)) v := by kernel_rfl
theorem f61l0I (k : Nat) : SumsOk P Go.Proofs.Tryd.f73.ntmps [] (bodyOf f61l0C) 116 := SumsOk.nil
theorem f61l0O (k : Nat) : SumOk P Go.Proofs.Tryd.f73.ntmps f61l0C (f61l0S k) := (show f61l0C = .loop (bodyOf f61l0C) by kernel_rfl) ▸ sum_loop tabOk (f61TS k) mixed (f61l0I k) (f61l0E k)
noncomputable def f61F (k : Nat) (x : Int × Int) : Option ((Bool × (List Int))) :=
  bif (((decide ((0 : Int) ≤ x.2)) && (decide ((x.2 * 8) ≤ (140737488355328 : Int)))) && (decide (x.2 ≤ (281474976710656 : Int)))) then
  Option.bind (f79F k x.1) fun y1 =>
  f61l0 k
    (fun (w2 : Int × Bool × List Int × Unit) =>
      Option.bind (f95F k w2.2.2.1) fun y3 =>
      some ((decide (w2.1 < (0 : Int))), y3))
    (x.1, y1, false, (List.replicate (Int.toNat x.2) (0 : Int)), ())
  else none
noncomputable def f61L (k : Nat) : Sums := [(58, f61l0S k)]
theorem f61LS (k : Nat) : SumsOk P Go.Proofs.Tryd.f73.ntmps (f61L k) (codeOf Go.Proofs.Tryd.f73) 1 := (SumsOk.nil).cons (c := f61l0C) (by kernel_rfl) (f61l0O k)
theorem f61E (k : Nat) (x : Int × Int) : evFS tab (f61T k) (f61L k) Go.Proofs.Tryd.f73.ntmps Go.Proofs.Tryd.f73.results.toList (codeOf Go.Proofs.Tryd.f73) (argsV [.dat (.int .i64), .dat (.int .i64)] x) [.agg (.pair .bool (.slice (.int .i64)))] = f61F k x := by kernel_rfl
theorem f61Ok (k : Nat) (x : Int × Int) (y : (Bool × (List Int))) (h : f61F k x = some y) : FnOk P 73 [.dat (.int .i64), .dat (.int .i64)] [.agg (.pair .bool (.slice (.int .i64)))] x y :=
  evFS_sound tabOk (f61TS k) mixed Go.Proofs.Tryd.func73 (c := codeOf Go.Proofs.Tryd.f73) (by kernel_rfl) (f61LS k) ((f61E k x).trans h)
/-! ## midrange/midrangeref01.aligned -/
noncomputable def f91T (k : Nat) : Table := [(73, entFn [.dat (.int .i64), .dat (.int .i64)] [.agg (.pair .bool (.slice (.int .i64)))] (f61F k))]
theorem f91TS (k : Nat) : Sound P (f91T k) := (Sound.nil).cons f61B (f61Ok k)
theorem f91B : HasBody P 55 := ⟨Go.Proofs.Tryd.f55, Go.Proofs.Tryd.func55, by kernel_rfl, by kernel_rfl⟩
noncomputable def f91F (k : Nat) (x : (Int × Int) × (Int × Int)) : Option ((Bool × (List Int)) × (Bool × (List Int)) × Int) :=
  Option.bind (f61F k (x.1.1, (IntKind.i64.wrap ((mxI x.1.2 x.2.2) - x.1.2)))) fun y1 =>
  Option.bind (f61F k (x.2.1, (IntKind.i64.wrap ((mxI x.1.2 x.2.2) - x.2.2)))) fun y2 =>
  some ((y1.1, y1.2), (y2.1, y2.2), (mxI x.1.2 x.2.2))
noncomputable def f91L (k : Nat) : Sums := []
theorem f91LS (k : Nat) : SumsOk P Go.Proofs.Tryd.f55.ntmps (f91L k) (codeOf Go.Proofs.Tryd.f55) 1 := SumsOk.nil
theorem f91E (k : Nat) (x : (Int × Int) × (Int × Int)) : evFS tab (f91T k) (f91L k) Go.Proofs.Tryd.f55.ntmps Go.Proofs.Tryd.f55.results.toList (codeOf Go.Proofs.Tryd.f55) (argsV [.agg (.pair (.int .i64) (.int .i64)), .agg (.pair (.int .i64) (.int .i64))] x) [.agg (.pair .bool (.slice (.int .i64))), .agg (.pair .bool (.slice (.int .i64))), .dat (.int .i64)] = f91F k x := by kernel_rfl
theorem f91Ok (k : Nat) (x : (Int × Int) × (Int × Int)) (y : (Bool × (List Int)) × (Bool × (List Int)) × Int) (h : f91F k x = some y) : FnOk P 55 [.agg (.pair (.int .i64) (.int .i64)), .agg (.pair (.int .i64) (.int .i64))] [.agg (.pair .bool (.slice (.int .i64))), .agg (.pair .bool (.slice (.int .i64))), .dat (.int .i64)] x y :=
  evFS_sound tabOk (f91TS k) mixed Go.Proofs.Tryd.func55 (c := codeOf Go.Proofs.Tryd.f55) (by kernel_rfl) (f91LS k) ((f91E k x).trans h)
/-! ## midrange/midrangeref01.plus -/
noncomputable def f92T (k : Nat) : Table := []
theorem f92TS (k : Nat) : Sound P (f92T k) := Sound.nil
theorem f92B : HasBody P 74 := ⟨Go.Proofs.Tryd.f74, Go.Proofs.Tryd.func74, by kernel_rfl, by kernel_rfl⟩
noncomputable def f92p0H : Shape := ⟨[(0, .one (.ro (.int .i64))), (1, .one (.ro (.int .i64))), (5, .one (.own 0)), (6, .one (.int .i64)), (7, .one (.int .i64))], [(0, .row 3 (.int .i64) .plain)], 1⟩
noncomputable def f92p0X0 : Shape := ⟨[(0, .one (.ro (.int .i64))), (1, .one (.ro (.int .i64))), (5, .one (.own 0)), (6, .one (.int .i64)), (7, .one (.int .i64))], [(0, .row 3 (.int .i64) .plain)], 1⟩
noncomputable def f92p0X1 : Shape := ⟨[(0, .one (.ro (.int .i64))), (1, .one (.ro (.int .i64))), (5, .one (.own 0)), (6, .one (.int .i64)), (7, .one (.int .i64))], [(0, .row 3 (.int .i64) .plain)], 1⟩
noncomputable def f92p0N : NoteR := ⟨[0, 1, 5, 6, 7], [], []⟩
noncomputable def f92p0M : NoteR := ⟨[0, 1, 4, 5, 6, 7], [], []⟩
noncomputable def f92p0C : Code := firstC (codesAt 488 (codeOf Go.Proofs.Tryd.f74) 1)
noncomputable def f92p0 {R : Type} (k : Nat) (k0 : List Int × List Int × Int × Int × List Int × Unit → Option R) (k1 : List Int × List Int × Int × Int × List Int × Unit → Option R) (v : List Int × List Int × Int × Int × List Int × Unit) : Option R :=
  bif (decide (v.2.2.2.1 < (v.1.length : Int))) then
    k0 (v.1, v.2.1, v.2.2.1, v.2.2.2.1, v.2.2.2.2.1, ())
  else
  bif (decide (v.2.2.2.1 < (v.2.1.length : Int))) then
    k0 (v.1, v.2.1, v.2.2.1, v.2.2.2.1, v.2.2.2.2.1, ())
  else
  bif (decide (v.2.2.1 > (0 : Int))) then
    k0 (v.1, v.2.1, v.2.2.1, v.2.2.2.1, v.2.2.2.2.1, ())
  else
  k1 (v.1, v.2.1, v.2.2.1, v.2.2.2.1, v.2.2.2.2.1, ())
noncomputable def f92p0S (k : Nat) : Sum1 := partSum f92p0H f92p0N (fun R K v => f92p0 k (fun w => K .normal (encSt f92p0X0 w)) (fun w => K (.exit 0) (encSt f92p0X1 w)) v)
theorem f92p0E (k : Nat) (R : Type) (K : X → St → Option R) (v : f92p0H.Den) : evS tab (f92T k) Go.Proofs.Tryd.f74.ntmps [] f92p0C 488 (partK f92p0M K) (encSt f92p0H v) = f92p0 k (fun w => K .normal (encSt f92p0X0 w)) (fun w => K (.exit 0) (encSt f92p0X1 w)) v := by kernel_rfl
theorem f92p0I (k : Nat) : SumsOk P Go.Proofs.Tryd.f74.ntmps [] f92p0C 488 := SumsOk.nil
theorem f92p0O (k : Nat) : SumOk P Go.Proofs.Tryd.f74.ntmps f92p0C (f92p0S k) := sum_part tabOk (f92TS k) mixed (f92p0I k) (f92p0E k)
noncomputable def f92p1H : Shape := ⟨[(0, .one (.ro (.int .i64))), (1, .one (.ro (.int .i64))), (5, .one (.own 0)), (7, .one (.int .i64)), (8, .one (.int .i64))], [(0, .row 3 (.int .i64) .plain)], 1⟩
noncomputable def f92p1X0 : Shape := ⟨[(0, .one (.ro (.int .i64))), (1, .one (.ro (.int .i64))), (5, .one (.own 0)), (7, .one (.int .i64)), (8, .one (.int .i64))], [(0, .row 3 (.int .i64) .plain)], 1⟩
noncomputable def f92p1N : NoteR := ⟨[0, 1, 5, 7, 8], [], []⟩
noncomputable def f92p1M : NoteR := ⟨[0, 1, 4, 5, 7, 8], [], []⟩
noncomputable def f92p1C : Code := firstC (codesAt 7826 (codeOf Go.Proofs.Tryd.f74) 1)
noncomputable def f92p1 {R : Type} (k : Nat) (k0 : List Int × List Int × Int × Int × List Int × Unit → Option R) (v : List Int × List Int × Int × Int × List Int × Unit) : Option R :=
  bif (decide (v.2.2.1 < (v.1.length : Int))) then
    bif ((decide ((0 : Int) ≤ v.2.2.1)) && (decide (v.2.2.1 < (v.1.length : Int)))) then
    let t2 := (IntKind.i64.wrap (v.2.2.2.1 + (v.1.getD (Int.toNat v.2.2.1) (0 : Int))))
    k0 (v.1, v.2.1, v.2.2.1, t2, v.2.2.2.2.1, ())
    else none
  else
  k0 (v.1, v.2.1, v.2.2.1, v.2.2.2.1, v.2.2.2.2.1, ())
noncomputable def f92p1S (k : Nat) : Sum1 := partSum f92p1H f92p1N (fun R K v => f92p1 k (fun w => K .normal (encSt f92p1X0 w)) v)
theorem f92p1E (k : Nat) (R : Type) (K : X → St → Option R) (v : f92p1H.Den) : evS tab (f92T k) Go.Proofs.Tryd.f74.ntmps [] f92p1C 7826 (partK f92p1M K) (encSt f92p1H v) = f92p1 k (fun w => K .normal (encSt f92p1X0 w)) v := by kernel_rfl
theorem f92p1I (k : Nat) : SumsOk P Go.Proofs.Tryd.f74.ntmps [] f92p1C 7826 := SumsOk.nil
theorem f92p1O (k : Nat) : SumOk P Go.Proofs.Tryd.f74.ntmps f92p1C (f92p1S k) := sum_part tabOk (f92TS k) mixed (f92p1I k) (f92p1E k)
noncomputable def f92p2H : Shape := ⟨[(0, .one (.ro (.int .i64))), (1, .one (.ro (.int .i64))), (5, .one (.own 0)), (7, .one (.int .i64)), (8, .one (.int .i64))], [(0, .row 3 (.int .i64) .plain)], 1⟩
noncomputable def f92p2X0 : Shape := ⟨[(0, .one (.ro (.int .i64))), (1, .one (.ro (.int .i64))), (5, .one (.own 0)), (7, .one (.int .i64)), (8, .one (.int .i64))], [(0, .row 3 (.int .i64) .plain)], 1⟩
noncomputable def f92p2N : NoteR := ⟨[0, 1, 5, 7, 8], [], []⟩
noncomputable def f92p2M : NoteR := ⟨[0, 1, 4, 5, 7, 8], [], []⟩
noncomputable def f92p2C : Code := firstC (codesAt 15654 (codeOf Go.Proofs.Tryd.f74) 1)
noncomputable def f92p2 {R : Type} (k : Nat) (k0 : List Int × List Int × Int × Int × List Int × Unit → Option R) (v : List Int × List Int × Int × Int × List Int × Unit) : Option R :=
  bif (decide (v.2.2.1 < (v.2.1.length : Int))) then
    bif ((decide ((0 : Int) ≤ v.2.2.1)) && (decide (v.2.2.1 < (v.2.1.length : Int)))) then
    let t4 := (IntKind.i64.wrap (v.2.2.2.1 + (v.2.1.getD (Int.toNat v.2.2.1) (0 : Int))))
    k0 (v.1, v.2.1, v.2.2.1, t4, v.2.2.2.2.1, ())
    else none
  else
  k0 (v.1, v.2.1, v.2.2.1, v.2.2.2.1, v.2.2.2.2.1, ())
noncomputable def f92p2S (k : Nat) : Sum1 := partSum f92p2H f92p2N (fun R K v => f92p2 k (fun w => K .normal (encSt f92p2X0 w)) v)
theorem f92p2E (k : Nat) (R : Type) (K : X → St → Option R) (v : f92p2H.Den) : evS tab (f92T k) Go.Proofs.Tryd.f74.ntmps [] f92p2C 15654 (partK f92p2M K) (encSt f92p2H v) = f92p2 k (fun w => K .normal (encSt f92p2X0 w)) v := by kernel_rfl
theorem f92p2I (k : Nat) : SumsOk P Go.Proofs.Tryd.f74.ntmps [] f92p2C 15654 := SumsOk.nil
theorem f92p2O (k : Nat) : SumOk P Go.Proofs.Tryd.f74.ntmps f92p2C (f92p2S k) := sum_part tabOk (f92TS k) mixed (f92p2I k) (f92p2E k)
noncomputable def f92l3H : Shape := ⟨[(0, .one (.ro (.int .i64))), (1, .one (.ro (.int .i64))), (5, .one (.own 0)), (6, .one (.int .i64)), (7, .one (.int .i64))], [(0, .row 3 (.int .i64) .plain)], 1⟩
noncomputable def f92l3X0 : Shape := ⟨[(5, .one (.own 0))], [(0, .row 3 (.int .i64) .plain)], 1⟩
noncomputable def f92l3N : NoteR := ⟨[0, 1, 5, 6, 7], [(5, 3, (.int .i64))], []⟩
noncomputable def f92l3M : NoteR := ⟨[4, 5], [], []⟩
noncomputable def f92l3C : Code := firstC (codesAt 122 (codeOf Go.Proofs.Tryd.f74) 1)
noncomputable def f92l3s {R : Type} (k : Nat) (rec : List Int × List Int × Int × Int × List Int × Unit → Option R) (k0 : List Int × Unit → Option R) (v : List Int × List Int × Int × Int × List Int × Unit) : Option R :=
  f92p0 k
    (fun (w1 : List Int × List Int × Int × Int × List Int × Unit) =>
      f92p1 k
        (fun (w3 : List Int × List Int × Int × Int × List Int × Unit) =>
          f92p2 k
            (fun (w5 : List Int × List Int × Int × Int × List Int × Unit) =>
              bif (decide ((w5.2.2.2.2.1.length + [(Int.tmod w5.2.2.2.1 (10 : Int))].length) * 8 ≤ 140737488355328) && decide (w5.2.2.2.2.1.length + [(Int.tmod w5.2.2.2.1 (10 : Int))].length ≤ 9223372036854775807)) then
              rec (w5.1, w5.2.1, (IntKind.i64.wrap (Int.tdiv w5.2.2.2.1 (10 : Int))), (IntKind.i64.wrap (w5.2.2.1 + (1 : Int))), (w5.2.2.2.2.1 ++ [(Int.tmod w5.2.2.2.1 (10 : Int))]), ())
              else none)
            (w3.1, w3.2.1, w3.2.2.1, w3.2.2.2.1, w3.2.2.2.2.1, ()))
        (w1.1, w1.2.1, w1.2.2.2.1, w1.2.2.1, w1.2.2.2.2.1, ()))
    (fun (w6 : List Int × List Int × Int × Int × List Int × Unit) =>
      k0 (w6.2.2.2.2.1, ()))
    (v.1, v.2.1, v.2.2.1, v.2.2.2.1, v.2.2.2.2.1, ())
noncomputable def f92l3 {R : Type} (k : Nat) (k0 : List Int × Unit → Option R) (v : List Int × List Int × Int × Int × List Int × Unit) : Option R := iterS (fun rec v => f92l3s k rec k0 v) k v
noncomputable def f92l3S (k : Nat) : Sum1 := loopSum f92l3H f92l3N k (fun R rec K v => f92l3s k rec (fun w => K (.exit 0) (encSt f92l3X0 w)) v)
theorem f92l3E (k : Nat) (R : Type) (rec : St → Option R) (K : X → St → Option R) (v : f92l3H.Den) : evS tab (f92T k) Go.Proofs.Tryd.f74.ntmps [(488, f92p0S k), (7826, f92p1S k), (15654, f92p2S k)] (bodyOf f92l3C) 244 (bodyK f92l3N f92l3M rec K) (encSt f92l3H v) = f92l3s k (fun v => rec (encSt f92l3H v)) (fun w => K (.exit 0) (encSt f92l3X0 w)) v := by kernel_rfl
theorem f92l3I (k : Nat) : SumsOk P Go.Proofs.Tryd.f74.ntmps [(488, f92p0S k), (7826, f92p1S k), (15654, f92p2S k)] (bodyOf f92l3C) 244 := (((SumsOk.nil).cons (c := f92p2C) (by kernel_rfl) (f92p2O k)).cons (c := f92p1C) (by kernel_rfl) (f92p1O k)).cons (c := f92p0C) (by kernel_rfl) (f92p0O k)
theorem f92l3O (k : Nat) : SumOk P Go.Proofs.Tryd.f74.ntmps f92l3C (f92l3S k) := (show f92l3C = .loop (bodyOf f92l3C) by kernel_rfl) ▸ sum_loop tabOk (f92TS k) mixed (f92l3I k) (f92l3E k)
noncomputable def f92F (k : Nat) (x : (List Int) × (List Int)) : Option (List Int) :=
  f92l3 k
    (fun (w7 : List Int × Unit) =>
      some w7.1)
    (x.1, x.2, (0 : Int), (0 : Int), [], ())
noncomputable def f92L (k : Nat) : Sums := [(488, f92p0S k), (7826, f92p1S k), (15654, f92p2S k), (122, f92l3S k)]
theorem f92LS (k : Nat) : SumsOk P Go.Proofs.Tryd.f74.ntmps (f92L k) (codeOf Go.Proofs.Tryd.f74) 1 := ((((SumsOk.nil).cons (c := f92l3C) (by kernel_rfl) (f92l3O k)).cons (c := f92p2C) (by kernel_rfl) (f92p2O k)).cons (c := f92p1C) (by kernel_rfl) (f92p1O k)).cons (c := f92p0C) (by kernel_rfl) (f92p0O k)
theorem f92E (k : Nat) (x : (List Int) × (List Int)) : evFS tab (f92T k) (f92L k) Go.Proofs.Tryd.f74.ntmps Go.Proofs.Tryd.f74.results.toList (codeOf Go.Proofs.Tryd.f74) (argsV [.dat (.slice (.int .i64)), .dat (.slice (.int .i64))] x) [.own 3 (.int .i64)] = f92F k x := by kernel_rfl
theorem f92Ok (k : Nat) (x : (List Int) × (List Int)) (y : List Int) (h : f92F k x = some y) : FnOk P 74 [.dat (.slice (.int .i64)), .dat (.slice (.int .i64))] [.own 3 (.int .i64)] x y :=
  evFS_sound tabOk (f92TS k) mixed Go.Proofs.Tryd.func74 (c := codeOf Go.Proofs.Tryd.f74) (by kernel_rfl) (f92LS k) ((f92E k x).trans h)
/-! ## midrange/midrangeref01.order -/
noncomputable def f93T (k : Nat) : Table := [(24, entFn [.dat .bool] [.dat (.int .i64)] (f69F k))]
theorem f93TS (k : Nat) : Sound P (f93T k) := (Sound.nil).cons f69B (f69Ok k)
theorem f93B : HasBody P 75 := ⟨Go.Proofs.Tryd.f75, Go.Proofs.Tryd.func75, by kernel_rfl, by kernel_rfl⟩
noncomputable def f93l0H : Shape := ⟨[(0, .one (.ro (.int .i64))), (1, .one (.ro (.int .i64))), (5, .one (.int .i64))], [], 0⟩
noncomputable def f93l0X0 : Shape := ⟨[(4, .one (.int .i64))], [], 0⟩
noncomputable def f93l0X1 : Shape := ⟨[], [], 0⟩
noncomputable def f93l0N : NoteR := ⟨[0, 1, 5], [], []⟩
noncomputable def f93l0M : NoteR := ⟨[4], [], []⟩
noncomputable def f93l0C : Code := firstC (codesAt 58 (codeOf Go.Proofs.Tryd.f75) 1)
noncomputable def f93l0s {R : Type} (k : Nat) (rec : List Int × List Int × Int × Unit → Option R) (k0 : Int × Unit → Option R) (k1 : Unit → Option R) (v : List Int × List Int × Int × Unit) : Option R :=
  bif (decide (v.2.2.1 ≥ (0 : Int))) then
    bif ((decide ((0 : Int) ≤ v.2.2.1)) && (decide (v.2.2.1 < (v.1.length : Int)))) then
    bif ((decide ((0 : Int) ≤ v.2.2.1)) && (decide (v.2.2.1 < (v.2.1.length : Int)))) then
    let t2 := ((v.1.getD (Int.toNat v.2.2.1) (0 : Int)) != (v.2.1.getD (Int.toNat v.2.2.1) (0 : Int)))
    bif t2 then
      bif ((decide ((0 : Int) ≤ v.2.2.1)) && (decide (v.2.2.1 < (v.1.length : Int)))) then
      bif ((decide ((0 : Int) ≤ v.2.2.1)) && (decide (v.2.2.1 < (v.2.1.length : Int)))) then
      let t3 := (decide ((v.1.getD (Int.toNat v.2.2.1) (0 : Int)) > (v.2.1.getD (Int.toNat v.2.2.1) (0 : Int))))
      Option.bind (f69F k t3) fun y4 =>
      k0 ((IntKind.i64.wrap ((IntKind.i64.wrap ((2 : Int) * y4)) - (1 : Int))), ())
      else none
      else none
    else
    rec (v.1, v.2.1, (IntKind.i64.wrap (v.2.2.1 - (1 : Int))), ())
    else none
    else none
  else
  k1 (())
noncomputable def f93l0 {R : Type} (k : Nat) (k0 : Int × Unit → Option R) (k1 : Unit → Option R) (v : List Int × List Int × Int × Unit) : Option R := iterS (fun rec v => f93l0s k rec k0 k1 v) k v
noncomputable def f93l0S (k : Nat) : Sum1 := loopSum f93l0H f93l0N k (fun R rec K v => f93l0s k rec (fun w => K .ret (encSt f93l0X0 w)) (fun w => K (.exit 0) (encSt f93l0X1 w)) v)
theorem f93l0E (k : Nat) (R : Type) (rec : St → Option R) (K : X → St → Option R) (v : f93l0H.Den) : evS tab (f93T k) Go.Proofs.Tryd.f75.ntmps [] (bodyOf f93l0C) 116 (bodyK f93l0N f93l0M rec K) (encSt f93l0H v) = f93l0s k (fun v => rec (encSt f93l0H v)) (fun w => K .ret (encSt f93l0X0 w)) (fun w => K (.exit 0) (encSt f93l0X1 w)) v := by kernel_rfl
theorem f93l0I (k : Nat) : SumsOk P Go.Proofs.Tryd.f75.ntmps [] (bodyOf f93l0C) 116 := SumsOk.nil
theorem f93l0O (k : Nat) : SumOk P Go.Proofs.Tryd.f75.ntmps f93l0C (f93l0S k) := (show f93l0C = .loop (bodyOf f93l0C) by kernel_rfl) ▸ sum_loop tabOk (f93TS k) mixed (f93l0I k) (f93l0E k)
noncomputable def f93F (k : Nat) (x : (List Int) × (List Int)) : Option (Int) :=
  bif ((x.1.length : Int) != (x.2.length : Int)) then
    Option.bind (f69F k (decide ((x.1.length : Int) > (x.2.length : Int)))) fun y1 =>
    some (IntKind.i64.wrap ((IntKind.i64.wrap ((2 : Int) * y1)) - (1 : Int)))
  else
  f93l0 k
    (fun (w5 : Int × Unit) =>
      some w5.1)
    (fun (w6 : Unit) =>
      some (0 : Int))
    (x.1, x.2, (IntKind.i64.wrap ((x.1.length : Int) - (1 : Int))), ())
noncomputable def f93L (k : Nat) : Sums := [(58, f93l0S k)]
theorem f93LS (k : Nat) : SumsOk P Go.Proofs.Tryd.f75.ntmps (f93L k) (codeOf Go.Proofs.Tryd.f75) 1 := (SumsOk.nil).cons (c := f93l0C) (by kernel_rfl) (f93l0O k)
theorem f93E (k : Nat) (x : (List Int) × (List Int)) : evFS tab (f93T k) (f93L k) Go.Proofs.Tryd.f75.ntmps Go.Proofs.Tryd.f75.results.toList (codeOf Go.Proofs.Tryd.f75) (argsV [.dat (.slice (.int .i64)), .dat (.slice (.int .i64))] x) [.dat (.int .i64)] = f93F k x := by kernel_rfl
theorem f93Ok (k : Nat) (x : (List Int) × (List Int)) (y : Int) (h : f93F k x = some y) : FnOk P 75 [.dat (.slice (.int .i64)), .dat (.slice (.int .i64))] [.dat (.int .i64)] x y :=
  evFS_sound tabOk (f93TS k) mixed Go.Proofs.Tryd.func75 (c := codeOf Go.Proofs.Tryd.f75) (by kernel_rfl) (f93LS k) ((f93E k x).trans h)
/-! ## midrange/midrangeref01.minus -/
noncomputable def f94T (k : Nat) : Table := [(24, entFn [.dat .bool] [.dat (.int .i64)] (f69F k)), (90, entFn [.dat (.slice (.int .i64))] [.dat (.slice (.int .i64))] (f95F k))]
theorem f94TS (k : Nat) : Sound P (f94T k) := ((Sound.nil).cons f95B (f95Ok k)).cons f69B (f69Ok k)
theorem f94B : HasBody P 76 := ⟨Go.Proofs.Tryd.f76, Go.Proofs.Tryd.func76, by kernel_rfl, by kernel_rfl⟩
noncomputable def f94p0H : Shape := ⟨[(0, .one (.ro (.int .i64))), (1, .one (.ro (.int .i64))), (5, .one (.own 0)), (7, .one (.int .i64)), (8, .one (.int .i64))], [(0, .row 3 (.int .i64) .plain)], 1⟩
noncomputable def f94p0X0 : Shape := ⟨[(0, .one (.ro (.int .i64))), (1, .one (.ro (.int .i64))), (5, .one (.own 0)), (7, .one (.int .i64)), (8, .one (.int .i64))], [(0, .row 3 (.int .i64) .plain)], 1⟩
noncomputable def f94p0N : NoteR := ⟨[0, 1, 5, 7, 8], [], []⟩
noncomputable def f94p0M : NoteR := ⟨[0, 1, 4, 5, 7, 8], [], []⟩
noncomputable def f94p0C : Code := firstC (codesAt 7826 (codeOf Go.Proofs.Tryd.f76) 1)
noncomputable def f94p0 {R : Type} (k : Nat) (k0 : List Int × List Int × Int × Int × List Int × Unit → Option R) (v : List Int × List Int × Int × Int × List Int × Unit) : Option R :=
  bif (decide (v.2.2.1 < (v.2.1.length : Int))) then
    bif ((decide ((0 : Int) ≤ v.2.2.1)) && (decide (v.2.2.1 < (v.2.1.length : Int)))) then
    let t2 := (IntKind.i64.wrap (v.2.2.2.1 - (v.2.1.getD (Int.toNat v.2.2.1) (0 : Int))))
    k0 (v.1, v.2.1, v.2.2.1, t2, v.2.2.2.2.1, ())
    else none
  else
  k0 (v.1, v.2.1, v.2.2.1, v.2.2.2.1, v.2.2.2.2.1, ())
noncomputable def f94p0S (k : Nat) : Sum1 := partSum f94p0H f94p0N (fun R K v => f94p0 k (fun w => K .normal (encSt f94p0X0 w)) v)
theorem f94p0E (k : Nat) (R : Type) (K : X → St → Option R) (v : f94p0H.Den) : evS tab (f94T k) Go.Proofs.Tryd.f76.ntmps [] f94p0C 7826 (partK f94p0M K) (encSt f94p0H v) = f94p0 k (fun w => K .normal (encSt f94p0X0 w)) v := by kernel_rfl
theorem f94p0I (k : Nat) : SumsOk P Go.Proofs.Tryd.f76.ntmps [] f94p0C 7826 := SumsOk.nil
theorem f94p0O (k : Nat) : SumOk P Go.Proofs.Tryd.f76.ntmps f94p0C (f94p0S k) := sum_part tabOk (f94TS k) mixed (f94p0I k) (f94p0E k)
noncomputable def f94l1H : Shape := ⟨[(0, .one (.ro (.int .i64))), (1, .one (.ro (.int .i64))), (5, .one (.own 0)), (6, .one (.int .i64)), (7, .one (.int .i64))], [(0, .row 3 (.int .i64) .plain)], 1⟩
noncomputable def f94l1X0 : Shape := ⟨[(5, .one (.own 0))], [(0, .row 3 (.int .i64) .plain)], 1⟩
noncomputable def f94l1N : NoteR := ⟨[0, 1, 5, 6, 7], [(5, 3, (.int .i64))], []⟩
noncomputable def f94l1M : NoteR := ⟨[4, 5], [], []⟩
noncomputable def f94l1C : Code := firstC (codesAt 122 (codeOf Go.Proofs.Tryd.f76) 1)
noncomputable def f94l1s {R : Type} (k : Nat) (rec : List Int × List Int × Int × Int × List Int × Unit → Option R) (k0 : List Int × Unit → Option R) (v : List Int × List Int × Int × Int × List Int × Unit) : Option R :=
  bif (decide (v.2.2.2.1 < (v.1.length : Int))) then
    bif ((decide ((0 : Int) ≤ v.2.2.2.1)) && (decide (v.2.2.2.1 < (v.1.length : Int)))) then
    let t1 := (IntKind.i64.wrap ((v.1.getD (Int.toNat v.2.2.2.1) (0 : Int)) - v.2.2.1))
    f94p0 k
      (fun (w3 : List Int × List Int × Int × Int × List Int × Unit) =>
        Option.bind (f69F k (decide (w3.2.2.2.1 < (0 : Int)))) fun y4 =>
        let t5 := [(IntKind.i64.wrap (w3.2.2.2.1 + (IntKind.i64.wrap ((10 : Int) * y4))))]
        bif (decide ((w3.2.2.2.2.1.length + t5.length) * 8 ≤ 140737488355328) && decide (w3.2.2.2.2.1.length + t5.length ≤ 9223372036854775807)) then
        rec (w3.1, w3.2.1, y4, (IntKind.i64.wrap (w3.2.2.1 + (1 : Int))), (w3.2.2.2.2.1 ++ t5), ())
        else none)
      (v.1, v.2.1, v.2.2.2.1, t1, v.2.2.2.2.1, ())
    else none
  else
  k0 (v.2.2.2.2.1, ())
noncomputable def f94l1 {R : Type} (k : Nat) (k0 : List Int × Unit → Option R) (v : List Int × List Int × Int × Int × List Int × Unit) : Option R := iterS (fun rec v => f94l1s k rec k0 v) k v
noncomputable def f94l1S (k : Nat) : Sum1 := loopSum f94l1H f94l1N k (fun R rec K v => f94l1s k rec (fun w => K (.exit 0) (encSt f94l1X0 w)) v)
theorem f94l1E (k : Nat) (R : Type) (rec : St → Option R) (K : X → St → Option R) (v : f94l1H.Den) : evS tab (f94T k) Go.Proofs.Tryd.f76.ntmps [(7826, f94p0S k)] (bodyOf f94l1C) 244 (bodyK f94l1N f94l1M rec K) (encSt f94l1H v) = f94l1s k (fun v => rec (encSt f94l1H v)) (fun w => K (.exit 0) (encSt f94l1X0 w)) v := by kernel_rfl
theorem f94l1I (k : Nat) : SumsOk P Go.Proofs.Tryd.f76.ntmps [(7826, f94p0S k)] (bodyOf f94l1C) 244 := (SumsOk.nil).cons (c := f94p0C) (by kernel_rfl) (f94p0O k)
theorem f94l1O (k : Nat) : SumOk P Go.Proofs.Tryd.f76.ntmps f94l1C (f94l1S k) := (show f94l1C = .loop (bodyOf f94l1C) by kernel_rfl) ▸ sum_loop tabOk (f94TS k) mixed (f94l1I k) (f94l1E k)
noncomputable def f94F (k : Nat) (x : (List Int) × (List Int)) : Option ((List Int)) :=
  f94l1 k
    (fun (w6 : List Int × Unit) =>
      Option.bind (f95F k w6.1) fun y7 =>
      some y7)
    (x.1, x.2, (0 : Int), (0 : Int), [], ())
noncomputable def f94L (k : Nat) : Sums := [(7826, f94p0S k), (122, f94l1S k)]
theorem f94LS (k : Nat) : SumsOk P Go.Proofs.Tryd.f76.ntmps (f94L k) (codeOf Go.Proofs.Tryd.f76) 1 := ((SumsOk.nil).cons (c := f94l1C) (by kernel_rfl) (f94l1O k)).cons (c := f94p0C) (by kernel_rfl) (f94p0O k)
theorem f94E (k : Nat) (x : (List Int) × (List Int)) : evFS tab (f94T k) (f94L k) Go.Proofs.Tryd.f76.ntmps Go.Proofs.Tryd.f76.results.toList (codeOf Go.Proofs.Tryd.f76) (argsV [.dat (.slice (.int .i64)), .dat (.slice (.int .i64))] x) [.dat (.slice (.int .i64))] = f94F k x := by kernel_rfl
theorem f94Ok (k : Nat) (x : (List Int) × (List Int)) (y : (List Int)) (h : f94F k x = some y) : FnOk P 76 [.dat (.slice (.int .i64)), .dat (.slice (.int .i64))] [.dat (.slice (.int .i64))] x y :=
  evFS_sound tabOk (f94TS k) mixed Go.Proofs.Tryd.func76 (c := codeOf Go.Proofs.Tryd.f76) (by kernel_rfl) (f94LS k) ((f94E k x).trans h)
/-! ## midrange/midrangeref01.Sum -/
noncomputable def f60T (k : Nat) : Table := [(74, entFn [.dat (.slice (.int .i64)), .dat (.slice (.int .i64))] [.own 3 (.int .i64)] (f92F k)), (75, entFn [.dat (.slice (.int .i64)), .dat (.slice (.int .i64))] [.dat (.int .i64)] (f93F k)), (76, entFn [.dat (.slice (.int .i64)), .dat (.slice (.int .i64))] [.dat (.slice (.int .i64))] (f94F k))]
theorem f60TS (k : Nat) : Sound P (f60T k) := (((Sound.nil).cons f94B (f94Ok k)).cons f93B (f93Ok k)).cons f92B (f92Ok k)
theorem f60B : HasBody P 56 := ⟨Go.Proofs.Tryd.f56, Go.Proofs.Tryd.func56, by kernel_rfl, by kernel_rfl⟩
noncomputable def f60p0H : Shape := ⟨[(2, .one (.ptr 0 0)), (3, .one (.ptr 1 0)), (4, .one (.ptr 2 0))], [(0, .var [.bool, .ro (.int .i64)]), (1, .var [.bool, .ro (.int .i64)]), (2, .var [.bool, .emp])], 3⟩
noncomputable def f60p0X0 : Shape := ⟨[(2, .one (.ptr 0 0)), (3, .one (.ptr 1 0)), (4, .one (.ptr 2 0))], [(0, .var [.bool, .ro (.int .i64)]), (1, .var [.bool, .ro (.int .i64)]), (2, .var [.bool, .emp])], 3⟩
noncomputable def f60p0N : NoteR := ⟨[2, 3, 4], [], []⟩
noncomputable def f60p0M : NoteR := ⟨[2, 3, 4], [], []⟩
noncomputable def f60p0C : Code := firstC (codesAt 14 (codeOf Go.Proofs.Tryd.f56) 1)
noncomputable def f60p0 {R : Type} (k : Nat) (k0 : Bool × List Int × Bool × List Int × Bool × Unit → Option R) (v : Bool × List Int × Bool × List Int × Bool × Unit) : Option R :=
  Option.bind (f93F k (v.2.1, v.2.2.2.1)) fun y2 =>
  bif (decide (y2 < (0 : Int))) then
    k0 (v.2.2.1, v.2.2.2.1, v.1, v.2.1, v.2.2.2.2.1, ())
  else
  k0 (v.1, v.2.1, v.2.2.1, v.2.2.2.1, v.2.2.2.2.1, ())
noncomputable def f60p0S (k : Nat) : Sum1 := partSum f60p0H f60p0N (fun R K v => f60p0 k (fun w => K .normal (encSt f60p0X0 w)) v)
theorem f60p0E (k : Nat) (R : Type) (K : X → St → Option R) (v : f60p0H.Den) : evS tab (f60T k) Go.Proofs.Tryd.f56.ntmps [] f60p0C 14 (partK f60p0M K) (encSt f60p0H v) = f60p0 k (fun w => K .normal (encSt f60p0X0 w)) v := by kernel_rfl
theorem f60p0I (k : Nat) : SumsOk P Go.Proofs.Tryd.f56.ntmps [] f60p0C 14 := SumsOk.nil
theorem f60p0O (k : Nat) : SumOk P Go.Proofs.Tryd.f56.ntmps f60p0C (f60p0S k) := sum_part tabOk (f60TS k) mixed (f60p0I k) (f60p0E k)
noncomputable def f60F (k : Nat) (x : (Bool × (List Int)) × (Bool × (List Int))) : Option ((Bool × (List Int))) :=
  bif (x.1.1 == x.2.1) then
    Option.bind (f92F k (x.1.2, x.2.2)) fun y1 =>
    some (x.1.1, y1)
  else
  f60p0 k
    (fun (w3 : Bool × List Int × Bool × List Int × Bool × Unit) =>
      Option.bind (f94F k (w3.2.1, w3.2.2.2.1)) fun y4 =>
      bif w3.1 then
        some ((decide ((y4.length : Int) > (0 : Int))), y4)
      else
      some (false, y4))
    (x.1.1, x.1.2, x.2.1, x.2.2, false, ())
noncomputable def f60L (k : Nat) : Sums := [(14, f60p0S k)]
theorem f60LS (k : Nat) : SumsOk P Go.Proofs.Tryd.f56.ntmps (f60L k) (codeOf Go.Proofs.Tryd.f56) 1 := (SumsOk.nil).cons (c := f60p0C) (by kernel_rfl) (f60p0O k)
theorem f60E (k : Nat) (x : (Bool × (List Int)) × (Bool × (List Int))) : evFS tab (f60T k) (f60L k) Go.Proofs.Tryd.f56.ntmps Go.Proofs.Tryd.f56.results.toList (codeOf Go.Proofs.Tryd.f56) (argsV [.agg (.pair .bool (.slice (.int .i64))), .agg (.pair .bool (.slice (.int .i64)))] x) [.agg (.pair .bool (.slice (.int .i64)))] = f60F k x := by kernel_rfl
theorem f60Ok (k : Nat) (x : (Bool × (List Int)) × (Bool × (List Int))) (y : (Bool × (List Int))) (h : f60F k x = some y) : FnOk P 56 [.agg (.pair .bool (.slice (.int .i64))), .agg (.pair .bool (.slice (.int .i64)))] [.agg (.pair .bool (.slice (.int .i64)))] x y :=
  evFS_sound tabOk (f60TS k) mixed Go.Proofs.Tryd.func56 (c := codeOf Go.Proofs.Tryd.f56) (by kernel_rfl) (f60LS k) ((f60E k x).trans h)
/-! ## midrange/midrangeref01.Order -/
noncomputable def f59T (k : Nat) : Table := [(24, entFn [.dat .bool] [.dat (.int .i64)] (f69F k)), (55, entFn [.agg (.pair (.int .i64) (.int .i64)), .agg (.pair (.int .i64) (.int .i64))] [.agg (.pair .bool (.slice (.int .i64))), .agg (.pair .bool (.slice (.int .i64))), .dat (.int .i64)] (f91F k)), (56, entFn [.agg (.pair .bool (.slice (.int .i64))), .agg (.pair .bool (.slice (.int .i64)))] [.agg (.pair .bool (.slice (.int .i64)))] (f60F k))]
theorem f59TS (k : Nat) : Sound P (f59T k) := (((Sound.nil).cons f60B (f60Ok k)).cons f91B (f91Ok k)).cons f69B (f69Ok k)
theorem f59B : HasBody P 30 := ⟨Go.Proofs.Tryd.f30, Go.Proofs.Tryd.func30, by kernel_rfl, by kernel_rfl⟩
noncomputable def f59F (k : Nat) (x : (Int × Int) × (Int × Int)) : Option (Int) :=
  Option.bind (f91F k ((x.1.1, x.1.2), (x.2.1, x.2.2))) fun y1 =>
  Option.bind (f60F k ((y1.1.1, y1.1.2), ((!y1.2.1.1), y1.2.1.2))) fun y2 =>
  bif ((y2.2.length : Int) == (0 : Int)) then
    some (0 : Int)
  else
  Option.bind (f69F k y2.1) fun y3 =>
  some (IntKind.i64.wrap ((1 : Int) - (IntKind.i64.wrap ((2 : Int) * y3))))
noncomputable def f59L (k : Nat) : Sums := []
theorem f59LS (k : Nat) : SumsOk P Go.Proofs.Tryd.f30.ntmps (f59L k) (codeOf Go.Proofs.Tryd.f30) 1 := SumsOk.nil
theorem f59E (k : Nat) (x : (Int × Int) × (Int × Int)) : evFS tab (f59T k) (f59L k) Go.Proofs.Tryd.f30.ntmps Go.Proofs.Tryd.f30.results.toList (codeOf Go.Proofs.Tryd.f30) (argsV [.agg (.pair (.int .i64) (.int .i64)), .agg (.pair (.int .i64) (.int .i64))] x) [.dat (.int .i64)] = f59F k x := by kernel_rfl
theorem f59Ok (k : Nat) (x : (Int × Int) × (Int × Int)) (y : Int) (h : f59F k x = some y) : FnOk P 30 [.agg (.pair (.int .i64) (.int .i64)), .agg (.pair (.int .i64) (.int .i64))] [.dat (.int .i64)] x y :=
  evFS_sound tabOk (f59TS k) mixed Go.Proofs.Tryd.func30 (c := codeOf Go.Proofs.Tryd.f30) (by kernel_rfl) (f59LS k) ((f59E k x).trans h)
/-! ## midrange/midrangeref01.Compared -/
noncomputable def f211T (k : Nat) : Table := [(13, entFn [.agg (.pair (.int .i64) (.int .i64))] [.dat (.int .i64)] (f34F k)), (30, entFn [.agg (.pair (.int .i64) (.int .i64)), .agg (.pair (.int .i64) (.int .i64))] [.dat (.int .i64)] (f59F k))]
theorem f211TS (k : Nat) : Sound P (f211T k) := ((Sound.nil).cons f59B (f59Ok k)).cons f34B (f34Ok k)
theorem f211B : HasBody P 11 := ⟨Go.Proofs.Tryd.f11, Go.Proofs.Tryd.func11, by kernel_rfl, by kernel_rfl⟩
noncomputable def f211F (k : Nat) (x : (Int × Int) × (Int × Int)) : Option (Int × Int) :=
  Option.bind (f34F k (x.1.1, x.1.2)) fun y1 =>
  bif (y1 != (0 : Int)) then
    some ((0 : Int), y1)
  else
  Option.bind (f34F k (x.2.1, x.2.2)) fun y2 =>
  bif (y2 != (0 : Int)) then
    some ((0 : Int), y2)
  else
  Option.bind (f59F k ((x.1.1, x.1.2), (x.2.1, x.2.2))) fun y3 =>
  some (y3, (0 : Int))
noncomputable def f211L (k : Nat) : Sums := []
theorem f211LS (k : Nat) : SumsOk P Go.Proofs.Tryd.f11.ntmps (f211L k) (codeOf Go.Proofs.Tryd.f11) 1 := SumsOk.nil
theorem f211E (k : Nat) (x : (Int × Int) × (Int × Int)) : evFS tab (f211T k) (f211L k) Go.Proofs.Tryd.f11.ntmps Go.Proofs.Tryd.f11.results.toList (codeOf Go.Proofs.Tryd.f11) (argsV [.agg (.pair (.int .i64) (.int .i64)), .agg (.pair (.int .i64) (.int .i64))] x) [.dat (.int .i64), .dat (.int .i64)] = f211F k x := by kernel_rfl
theorem f211Ok (k : Nat) (x : (Int × Int) × (Int × Int)) (y : Int × Int) (h : f211F k x = some y) : FnOk P 11 [.agg (.pair (.int .i64) (.int .i64)), .agg (.pair (.int .i64) (.int .i64))] [.dat (.int .i64), .dat (.int .i64)] x y :=
  evFS_sound tabOk (f211TS k) mixed Go.Proofs.Tryd.func11 (c := codeOf Go.Proofs.Tryd.f11) (by kernel_rfl) (f211LS k) ((f211E k x).trans h)
/-! ## midrange/midrangeref01.Text -/
noncomputable def f214T (k : Nat) : Table := [(33, entFn [.dat (.int .i64)] [.dat .str] (f233F k)), (34, entFn [.dat (.int .i64)] [.dat (.int .i64)] (f79F k))]
theorem f214TS (k : Nat) : Sound P (f214T k) := ((Sound.nil).cons f79B (f79Ok k)).cons f233B (f233Ok k)
theorem f214B : HasBody P 14 := ⟨Go.Proofs.Tryd.f14, Go.Proofs.Tryd.func14, by kernel_rfl, by kernel_rfl⟩
noncomputable def f214l0H : Shape := ⟨[(1, .one (.ptr 0 0)), (3, .one (.str))], [(0, .var [.int .i64, .int .i64])], 1⟩
noncomputable def f214l0X0 : Shape := ⟨[(1, .one (.ptr 0 0)), (3, .one (.str))], [(0, .var [.int .i64, .int .i64])], 1⟩
noncomputable def f214l0N : NoteR := ⟨[1, 3], [], []⟩
noncomputable def f214l0M : NoteR := ⟨[1, 2, 3], [], []⟩
noncomputable def f214l0C : Code := firstC (codesAt 28 (codeOf Go.Proofs.Tryd.f14) 1)
noncomputable def f214l0s {R : Type} (k : Nat) (rec : ByteArray × Int × Int × Unit → Option R) (k0 : ByteArray × Int × Int × Unit → Option R) (v : ByteArray × Int × Int × Unit) : Option R :=
  bif (decide ((v.1.size : Int) ≤ v.2.2.1)) then
    bif (decide ((⟨#[48]⟩ : ByteArray).size + v.1.size ≤ 9223372036854775807)) then
    rec (((⟨#[48]⟩ : ByteArray) ++ v.1), v.2.1, v.2.2.1, ())
    else none
  else
  k0 (v.1, v.2.1, v.2.2.1, ())
noncomputable def f214l0 {R : Type} (k : Nat) (k0 : ByteArray × Int × Int × Unit → Option R) (v : ByteArray × Int × Int × Unit) : Option R := iterS (fun rec v => f214l0s k rec k0 v) k v
noncomputable def f214l0S (k : Nat) : Sum1 := loopSum f214l0H f214l0N k (fun R rec K v => f214l0s k rec (fun w => K (.exit 0) (encSt f214l0X0 w)) v)
theorem f214l0E (k : Nat) (R : Type) (rec : St → Option R) (K : X → St → Option R) (v : f214l0H.Den) : evS tab (f214T k) Go.Proofs.Tryd.f14.ntmps [] (bodyOf f214l0C) 56 (bodyK f214l0N f214l0M rec K) (encSt f214l0H v) = f214l0s k (fun v => rec (encSt f214l0H v)) (fun w => K (.exit 0) (encSt f214l0X0 w)) v := by kernel_rfl
theorem f214l0I (k : Nat) : SumsOk P Go.Proofs.Tryd.f14.ntmps [] (bodyOf f214l0C) 56 := SumsOk.nil
theorem f214l0O (k : Nat) : SumOk P Go.Proofs.Tryd.f14.ntmps f214l0C (f214l0S k) := (show f214l0C = .loop (bodyOf f214l0C) by kernel_rfl) ▸ sum_loop tabOk (f214TS k) mixed (f214l0I k) (f214l0E k)
noncomputable def f214p1H : Shape := ⟨[(1, .one (.ptr 0 0)), (3, .one (.str))], [(0, .var [.int .i64, .int .i64])], 1⟩
noncomputable def f214p1X0 : Shape := ⟨[(1, .one (.ptr 0 0)), (3, .one (.str))], [(0, .var [.int .i64, .int .i64])], 1⟩
noncomputable def f214p1N : NoteR := ⟨[1, 3], [], []⟩
noncomputable def f214p1M : NoteR := ⟨[1, 2, 3], [], []⟩
noncomputable def f214p1C : Code := firstC (codesAt 30 (codeOf Go.Proofs.Tryd.f14) 1)
noncomputable def f214p1 {R : Type} (k : Nat) (k0 : ByteArray × Int × Int × Unit → Option R) (v : ByteArray × Int × Int × Unit) : Option R :=
  bif (decide (v.2.2.1 > (0 : Int))) then
    bif (sliceBds (0 : Int) (IntKind.i64.wrap ((v.1.size : Int) - v.2.2.1)) (v.1.size : Int)) then
    let t4 := (v.1.extract 0 (Int.toNat (IntKind.i64.wrap ((v.1.size : Int) - v.2.2.1))))
    bif (decide (t4.size + (⟨#[46]⟩ : ByteArray).size ≤ 9223372036854775807)) then
    bif (sliceBds (IntKind.i64.wrap ((v.1.size : Int) - v.2.2.1)) (v.1.size : Int) (v.1.size : Int)) then
    let t5 := (v.1.extract (Int.toNat (IntKind.i64.wrap ((v.1.size : Int) - v.2.2.1))) (Int.toNat (v.1.size : Int)))
    bif (decide ((t4 ++ (⟨#[46]⟩ : ByteArray)).size + t5.size ≤ 9223372036854775807)) then
    k0 (((t4 ++ (⟨#[46]⟩ : ByteArray)) ++ t5), v.2.1, v.2.2.1, ())
    else none
    else none
    else none
    else none
  else
  k0 (v.1, v.2.1, v.2.2.1, ())
noncomputable def f214p1S (k : Nat) : Sum1 := partSum f214p1H f214p1N (fun R K v => f214p1 k (fun w => K .normal (encSt f214p1X0 w)) v)
theorem f214p1E (k : Nat) (R : Type) (K : X → St → Option R) (v : f214p1H.Den) : evS tab (f214T k) Go.Proofs.Tryd.f14.ntmps [] f214p1C 30 (partK f214p1M K) (encSt f214p1H v) = f214p1 k (fun w => K .normal (encSt f214p1X0 w)) v := by kernel_rfl
theorem f214p1I (k : Nat) : SumsOk P Go.Proofs.Tryd.f14.ntmps [] f214p1C 30 := SumsOk.nil
theorem f214p1O (k : Nat) : SumOk P Go.Proofs.Tryd.f14.ntmps f214p1C (f214p1S k) := sum_part tabOk (f214TS k) mixed (f214p1I k) (f214p1E k)
noncomputable def f214p2H : Shape := ⟨[(1, .one (.ptr 0 0)), (3, .one (.str))], [(0, .var [.int .i64, .int .i64])], 1⟩
noncomputable def f214p2X0 : Shape := ⟨[(1, .one (.ptr 0 0)), (3, .one (.str))], [(0, .var [.int .i64, .int .i64])], 1⟩
noncomputable def f214p2N : NoteR := ⟨[1, 3], [], []⟩
noncomputable def f214p2M : NoteR := ⟨[1, 2, 3], [], []⟩
noncomputable def f214p2C : Code := firstC (codesAt 62 (codeOf Go.Proofs.Tryd.f14) 1)
noncomputable def f214p2 {R : Type} (k : Nat) (k0 : ByteArray × Int × Int × Unit → Option R) (v : ByteArray × Int × Int × Unit) : Option R :=
  bif (decide (v.2.1 < (0 : Int))) then
    bif (decide ((⟨#[45]⟩ : ByteArray).size + v.1.size ≤ 9223372036854775807)) then
    k0 (((⟨#[45]⟩ : ByteArray) ++ v.1), v.2.1, v.2.2.1, ())
    else none
  else
  k0 (v.1, v.2.1, v.2.2.1, ())
noncomputable def f214p2S (k : Nat) : Sum1 := partSum f214p2H f214p2N (fun R K v => f214p2 k (fun w => K .normal (encSt f214p2X0 w)) v)
theorem f214p2E (k : Nat) (R : Type) (K : X → St → Option R) (v : f214p2H.Den) : evS tab (f214T k) Go.Proofs.Tryd.f14.ntmps [] f214p2C 62 (partK f214p2M K) (encSt f214p2H v) = f214p2 k (fun w => K .normal (encSt f214p2X0 w)) v := by kernel_rfl
theorem f214p2I (k : Nat) : SumsOk P Go.Proofs.Tryd.f14.ntmps [] f214p2C 62 := SumsOk.nil
theorem f214p2O (k : Nat) : SumOk P Go.Proofs.Tryd.f14.ntmps f214p2C (f214p2S k) := sum_part tabOk (f214TS k) mixed (f214p2I k) (f214p2E k)
noncomputable def f214F (k : Nat) (x : (Int × Int)) : Option (ByteArray) :=
  Option.bind (f79F k x.1) fun y1 =>
  Option.bind (f233F k y1) fun y2 =>
  f214l0 k
    (fun (w3 : ByteArray × Int × Int × Unit) =>
      f214p1 k
        (fun (w6 : ByteArray × Int × Int × Unit) =>
          f214p2 k
            (fun (w7 : ByteArray × Int × Int × Unit) =>
              some w7.1)
            (w6.1, w6.2.1, w6.2.2.1, ()))
        (w3.1, w3.2.1, w3.2.2.1, ()))
    (y2, x.1, x.2, ())
noncomputable def f214L (k : Nat) : Sums := [(28, f214l0S k), (30, f214p1S k), (62, f214p2S k)]
theorem f214LS (k : Nat) : SumsOk P Go.Proofs.Tryd.f14.ntmps (f214L k) (codeOf Go.Proofs.Tryd.f14) 1 := (((SumsOk.nil).cons (c := f214p2C) (by kernel_rfl) (f214p2O k)).cons (c := f214p1C) (by kernel_rfl) (f214p1O k)).cons (c := f214l0C) (by kernel_rfl) (f214l0O k)
theorem f214E (k : Nat) (x : (Int × Int)) : evFS tab (f214T k) (f214L k) Go.Proofs.Tryd.f14.ntmps Go.Proofs.Tryd.f14.results.toList (codeOf Go.Proofs.Tryd.f14) (argsV [.agg (.pair (.int .i64) (.int .i64))] x) [.dat .str] = f214F k x := by kernel_rfl
theorem f214Ok (k : Nat) (x : (Int × Int)) (y : ByteArray) (h : f214F k x = some y) : FnOk P 14 [.agg (.pair (.int .i64) (.int .i64))] [.dat .str] x y :=
  evFS_sound tabOk (f214TS k) mixed Go.Proofs.Tryd.func14 (c := codeOf Go.Proofs.Tryd.f14) (by kernel_rfl) (f214LS k) ((f214E k x).trans h)
/-! ## midrange/midrangelaw01.NumericNumbers -/
noncomputable def f204T (k : Nat) : Table := [(6, entFn [] [.dat .bool] (f13F k)), (9, entFn [.agg (.pair (.int .i64) (.int .i64)), .agg (.pair (.int .i64) (.int .i64))] [.dat (.int .i64), .dat (.int .i64)] (f21F k)), (10, entFn [.agg (.pair (.int .i64) (.int .i64))] [.dat .str, .dat (.int .i64)] (f210F k)), (11, entFn [.agg (.pair (.int .i64) (.int .i64)), .agg (.pair (.int .i64) (.int .i64))] [.dat (.int .i64), .dat (.int .i64)] (f211F k)), (12, entFn [.agg (.pair (.int .i64) (.int .i64))] [.dat (.int .i64)] (f52F k)), (13, entFn [.agg (.pair (.int .i64) (.int .i64))] [.dat (.int .i64)] (f34F k)), (14, entFn [.agg (.pair (.int .i64) (.int .i64))] [.dat .str] (f214F k))]
theorem f204TS (k : Nat) : Sound P (f204T k) := (((((((Sound.nil).cons f214B (f214Ok k)).cons f34B (f34Ok k)).cons f52B (f52Ok k)).cons f211B (f211Ok k)).cons f210B (f210Ok k)).cons f21B (f21Ok k)).cons f13B (f13Ok k)
theorem f204B : HasBody P 4 := ⟨Go.Proofs.Tryd.f4, Go.Proofs.Tryd.func4, by kernel_rfl, by kernel_rfl⟩
noncomputable def f204F (k : Nat) (x : (Int × Int) × (Int × Int)) : Option (Bool) :=
  Option.bind (f13F k ()) fun y1 =>
  bif (!y1) then
    some false
  else
  Option.bind (f21F k ((x.1.1, x.1.2), (x.2.1, x.2.2))) fun y2 =>
  Option.bind (f210F k (x.1.1, x.1.2)) fun y3 =>
  Option.bind (f211F k ((x.1.1, x.1.2), (x.2.1, x.2.2))) fun y4 =>
  Option.bind (f52F k (x.1.1, x.1.2)) fun y5 =>
  Option.bind (f34F k (x.1.1, x.1.2)) fun y6 =>
  bif (y5 != y6) then
    some false
  else
  bif (y2.2 != y4.2) then
    some false
  else
  bif (y2.1 != y4.1) then
    some false
  else
  Option.bind (f34F k (x.1.1, x.1.2)) fun y7 =>
  bif (y7 != (0 : Int)) then
    bif (y3.2 == y7) then
      some (strEq y3.1 ByteArray.empty)
    else
    some false
  else
  bif (y3.2 == (0 : Int)) then
    Option.bind (f214F k (x.1.1, x.1.2)) fun y8 =>
    some (strEq y3.1 y8)
  else
  some false
noncomputable def f204L (k : Nat) : Sums := []
theorem f204LS (k : Nat) : SumsOk P Go.Proofs.Tryd.f4.ntmps (f204L k) (codeOf Go.Proofs.Tryd.f4) 1 := SumsOk.nil
theorem f204E (k : Nat) (x : (Int × Int) × (Int × Int)) : evFS tab (f204T k) (f204L k) Go.Proofs.Tryd.f4.ntmps Go.Proofs.Tryd.f4.results.toList (codeOf Go.Proofs.Tryd.f4) (argsV [.agg (.pair (.int .i64) (.int .i64)), .agg (.pair (.int .i64) (.int .i64))] x) [.dat .bool] = f204F k x := by kernel_rfl
theorem f204Ok (k : Nat) (x : (Int × Int) × (Int × Int)) (y : Bool) (h : f204F k x = some y) : FnOk P 4 [.agg (.pair (.int .i64) (.int .i64)), .agg (.pair (.int .i64) (.int .i64))] [.dat .bool] x y :=
  evFS_sound tabOk (f204TS k) mixed Go.Proofs.Tryd.func4 (c := codeOf Go.Proofs.Tryd.f4) (by kernel_rfl) (f204LS k) ((f204E k x).trans h)
/-! ## midrange/midrangelaw01.NumericBack -/
noncomputable def f205T (k : Nat) : Table := [(6, entFn [] [.dat .bool] (f13F k)), (7, entFn [.dat .str] [.agg (.pair (.int .i64) (.int .i64)), .dat (.int .i64), .dat (.int .i64)] (f207F k)), (10, entFn [.agg (.pair (.int .i64) (.int .i64))] [.dat .str, .dat (.int .i64)] (f210F k)), (13, entFn [.agg (.pair (.int .i64) (.int .i64))] [.dat (.int .i64)] (f34F k)), (15, entFn [.agg (.pair (.int .i64) (.pair (.int .i64) (.int .i64))), .dat .str] [.agg (.pair (.int .i64) .str), .dat (.int .i64), .dat (.int .i64)] (f16F k)), (16, entFn [.agg (.pair (.int .i64) (.pair (.int .i64) (.int .i64))), .agg (.pair (.int .i64) .str)] [.dat .str, .dat (.int .i64)] (f14F k)), (17, entFn [.agg (.pair (.int .i64) (.pair (.int .i64) (.int .i64))), .agg (.pair (.int .i64) .str)] [.dat (.int .i64)] (f29F k))]
theorem f205TS (k : Nat) : Sound P (f205T k) := (((((((Sound.nil).cons f29B (f29Ok k)).cons f14B (f14Ok k)).cons f16B (f16Ok k)).cons f34B (f34Ok k)).cons f210B (f210Ok k)).cons f207B (f207Ok k)).cons f13B (f13Ok k)
theorem f205B : HasBody P 5 := ⟨Go.Proofs.Tryd.f5, Go.Proofs.Tryd.func5, by kernel_rfl, by kernel_rfl⟩
noncomputable def f205p0H : Shape := ⟨[(1, .one (.str)), (3, .one (.ptr 0 0)), (5, .one (.ptr 1 0))], [(0, .var [.int .i64, .int .i64, .int .i64]), (1, .var [.int .i64, .int .i64])], 2⟩
noncomputable def f205p0X0 : Shape := ⟨[(1, .one (.str)), (3, .one (.ptr 0 0)), (6, .one (.bool))], [(0, .var [.int .i64, .int .i64, .int .i64])], 1⟩
noncomputable def f205p0X1 : Shape := ⟨[(1, .one (.str)), (3, .one (.ptr 0 0))], [(0, .var [.int .i64, .int .i64, .int .i64])], 1⟩
noncomputable def f205p0N : NoteR := ⟨[1, 3, 5], [], []⟩
noncomputable def f205p0M : NoteR := ⟨[1, 3, 6], [], []⟩
noncomputable def f205p0C : Code := firstC (codesAt 30 (codeOf Go.Proofs.Tryd.f5) 1)
noncomputable def f205p0 {R : Type} (k : Nat) (k0 : ByteArray × Bool × Int × Int × Int × Unit → Option R) (k1 : ByteArray × Int × Int × Int × Unit → Option R) (v : ByteArray × Int × Int × Int × Int × Int × Unit) : Option R :=
  Option.bind (f34F k (v.2.2.2.2.1, v.2.2.2.2.2.1)) fun y2 =>
  bif (y2 == (0 : Int)) then
    Option.bind (f210F k (v.2.2.2.2.1, v.2.2.2.2.2.1)) fun y3 =>
    Option.bind (f207F k y3.1) fun y4 =>
    bif (y3.2 != (0 : Int)) then
      k0 (v.1, false, v.2.1, v.2.2.1, v.2.2.2.1, ())
    else
    bif (y4.2.2 != (0 : Int)) then
      k0 (v.1, false, v.2.1, v.2.2.1, v.2.2.2.1, ())
    else
    bif (y4.2.1 != (y3.1.size : Int)) then
      k0 (v.1, false, v.2.1, v.2.2.1, v.2.2.2.1, ())
    else
    bif (!((y4.1.1 == v.2.2.2.2.1) && ((y4.1.2 == v.2.2.2.2.2.1) && true))) then
      k0 (v.1, false, v.2.1, v.2.2.1, v.2.2.2.1, ())
    else
    k1 (v.1, v.2.1, v.2.2.1, v.2.2.2.1, ())
  else
  k1 (v.1, v.2.1, v.2.2.1, v.2.2.2.1, ())
noncomputable def f205p0S (k : Nat) : Sum1 := partSum f205p0H f205p0N (fun R K v => f205p0 k (fun w => K .ret (encSt f205p0X0 w)) (fun w => K .normal (encSt f205p0X1 w)) v)
theorem f205p0E (k : Nat) (R : Type) (K : X → St → Option R) (v : f205p0H.Den) : evS tab (f205T k) Go.Proofs.Tryd.f5.ntmps [] f205p0C 30 (partK f205p0M K) (encSt f205p0H v) = f205p0 k (fun w => K .ret (encSt f205p0X0 w)) (fun w => K .normal (encSt f205p0X1 w)) v := by kernel_rfl
theorem f205p0I (k : Nat) : SumsOk P Go.Proofs.Tryd.f5.ntmps [] f205p0C 30 := SumsOk.nil
theorem f205p0O (k : Nat) : SumOk P Go.Proofs.Tryd.f5.ntmps f205p0C (f205p0S k) := sum_part tabOk (f205TS k) mixed (f205p0I k) (f205p0E k)
noncomputable def f205F (k : Nat) (x : (Int × (Int × Int)) × ByteArray × (Int × Int)) : Option (Bool) :=
  Option.bind (f13F k ()) fun y1 =>
  bif (!y1) then
    some false
  else
  bif (decide ((x.2.1.size : Int) > (700 : Int))) then
    some true
  else
  f205p0 k
    (fun (w5 : ByteArray × Bool × Int × Int × Int × Unit) =>
      some w5.2.1)
    (fun (w6 : ByteArray × Int × Int × Int × Unit) =>
      Option.bind (f16F k ((w6.2.1, (w6.2.2.1, w6.2.2.2.1)), w6.1)) fun y7 =>
      bif (y7.2.2 != (0 : Int)) then
        some true
      else
      Option.bind (f14F k ((w6.2.1, (w6.2.2.1, w6.2.2.2.1)), (y7.1.1, y7.1.2))) fun y8 =>
      Option.bind (f16F k ((w6.2.1, (w6.2.2.1, w6.2.2.2.1)), y8.1)) fun y9 =>
      Option.bind (f29F k ((w6.2.1, (w6.2.2.1, w6.2.2.2.1)), (y7.1.1, y7.1.2))) fun y10 =>
      bif (y10 == (0 : Int)) then
        bif (y8.2 == (0 : Int)) then
          bif (y9.2.2 == (0 : Int)) then
            some ((y7.1.1 == y9.1.1) && ((strEq y7.1.2 y9.1.2) && true))
          else
          some false
        else
        some false
      else
      some false)
    (x.2.1, x.1.1, x.1.2.1, x.1.2.2, x.2.2.1, x.2.2.2, ())
noncomputable def f205L (k : Nat) : Sums := [(30, f205p0S k)]
theorem f205LS (k : Nat) : SumsOk P Go.Proofs.Tryd.f5.ntmps (f205L k) (codeOf Go.Proofs.Tryd.f5) 1 := (SumsOk.nil).cons (c := f205p0C) (by kernel_rfl) (f205p0O k)
theorem f205E (k : Nat) (x : (Int × (Int × Int)) × ByteArray × (Int × Int)) : evFS tab (f205T k) (f205L k) Go.Proofs.Tryd.f5.ntmps Go.Proofs.Tryd.f5.results.toList (codeOf Go.Proofs.Tryd.f5) (argsV [.agg (.pair (.int .i64) (.pair (.int .i64) (.int .i64))), .dat .str, .agg (.pair (.int .i64) (.int .i64))] x) [.dat .bool] = f205F k x := by kernel_rfl
theorem f205Ok (k : Nat) (x : (Int × (Int × Int)) × ByteArray × (Int × Int)) (y : Bool) (h : f205F k x = some y) : FnOk P 5 [.agg (.pair (.int .i64) (.pair (.int .i64) (.int .i64))), .dat .str, .agg (.pair (.int .i64) (.int .i64))] [.dat .bool] x y :=
  evFS_sound tabOk (f205TS k) mixed Go.Proofs.Tryd.func5 (c := codeOf Go.Proofs.Tryd.f5) (by kernel_rfl) (f205LS k) ((f205E k x).trans h)
end Go.Proofs.YtioagofpofamiaaDoor
