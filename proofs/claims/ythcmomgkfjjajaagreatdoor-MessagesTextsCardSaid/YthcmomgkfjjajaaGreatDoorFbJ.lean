/- What functions of the program compute: each as a plain Lean function, and that the code comes to it. Printed by gen.py. -/
import Derived.Test.YthcmomgkfjjajaaGreatDoorFaJ
import Derived.Test.YthcmomgkfjjajaaGreatDoorProg
import Derived.Test.YthcmomgkfjjajaaGreatDoorSJ
/-! Printed by gen.py: what functions compute. -/
set_option linter.unusedVariables false
set_option maxRecDepth 100000
namespace Go.Proofs.YthcmomgkfjjajaaGreatDoor
open Go.Ab
/-! ## midrange/messages.find$1 -/
noncomputable def f819F (k : Nat) (x : D13) : Option (Bool) :=
  none
theorem f819Ok (k : Nat) : FnV P 119 [.agg Y10] [.dat .bool] (f819F k) :=
  fs tm TB.nil Tryz.func119 (by kernel_rfl) SumsOk.nil none fun _ => by kernel_rfl
/-! ## midrange/messages.find$1, handed what it may write -/
noncomputable def f819v0I : Shape := ⟨[(0, .agg [.str, .int .i64, .str, .str, .ro (.pair (.int .i64) Y6), .str, .ro .str]), (1, .one (.ptr 0 0))], [(0, .var 9 [.str])], 1, []⟩
noncomputable def f819v0U : Shape := ⟨[(0, .one (.bool))], [(0, .var 9 [.str])], 1, []⟩
noncomputable def f819v0F (k : Nat) (x : D33) : Option (Bool × ByteArray × Unit) :=
  some ((strEq x.1 x.2.2.2.2.2.2.2.1), x.2.2.2.2.2.2.2.1, ())
theorem f819v0Ok (k : Nat) : GnV P 119 f819v0I f819v0U (f819v0F k) :=
  gs tm TB.nil Tryz.func119 (by kernel_rfl) SumsOk.nil [.dat .bool] [] none fun _ => by kernel_rfl
/-! ## slices.IndexFunc[[]midrange/api.MessageDesc,midrange/api.MessageDesc], handed what it may write -/
noncomputable def f818v0I : Shape := ⟨[(0, .one (.ro Y10)), (1, .one (.fn 119 [0]))], [(0, .var 9 [.str])], 1, []⟩
noncomputable def f818v0U : Shape := ⟨[(0, .one (.int .i64))], [(0, .var 9 [.str])], 1, []⟩
noncomputable def f818v0T (k : Nat) : TB P := TB.nil |>.g (f819v0Ok k)
noncomputable def f818v0l0s {R : Type} (k : Nat) (rec : D34 → Option R) (k0 : Int × ByteArray × Unit → Option R) (k1 : ByteArray × Unit → Option R) (v : D34) : Option R :=
  bif (decide (v.2.2.1 < v.2.1)) then
    bif ((decide ((0 : Int) ≤ v.2.2.1)) && (decide (v.2.2.1 < (v.1.length : Int)))) then
    let t1 := (v.1.getD (Int.toNat v.2.2.1) (ByteArray.empty, ((0 : Int), (ByteArray.empty, (ByteArray.empty, ([], (ByteArray.empty, [])))))))
    Option.bind (f819v0F k (t1.1, t1.2.1, t1.2.2.1, t1.2.2.2.1, t1.2.2.2.2.1, t1.2.2.2.2.2.1, t1.2.2.2.2.2.2, v.2.2.2.1, ())) fun y2 =>
    bif y2.1 then
      k0 (v.2.2.1, y2.2.1, ())
    else
    rec (v.1, v.2.1, (IntKind.i64.wrap (v.2.2.1 + (1 : Int))), y2.2.1, ())
    else none
  else
  k1 (v.2.2.2.1, ())
noncomputable def f818v0l0 {R : Type} (k : Nat) (k0 : Int × ByteArray × Unit → Option R) (k1 : ByteArray × Unit → Option R) (v : D34) : Option R := iterS (fun rec v => f818v0l0s k rec k0 k1 v) k v
noncomputable def f818v0l0S (k : Nat) := loopSum ⟨[(0, .one (.ro Y10)), (1, .one (.fn 119 [0])), (7, .one (.int .i64)), (8, .one (.int .i64))], [(0, .var 9 [.str])], 1, [some 0]⟩ ⟨[0, 1, 7, 8], [], []⟩ k fun R rec K v => f818v0l0s k rec (fun w => K .ret (encSt ⟨[(4, .one (.int .i64))], [(0, .var 9 [.str])], 1, [some 0]⟩ w)) (fun w => K (.exit 0) (encSt ⟨[], [(0, .var 9 [.str])], 1, [some 0]⟩ w)) v
theorem f818v0l0O (k : Nat) : SumO P Tryz.f118 26 (f818v0l0S k) := lp tm (f818v0T k) ⟨[4], [], []⟩ SumsOk.nil (by kernel_rfl) fun _ _ _ _ => by kernel_rfl
noncomputable def f818v0F (k : Nat) (x : D35) : Option (Int × ByteArray × Unit) :=
  f818v0l0 k
    (fun (w3 : Int × ByteArray × Unit) =>
      some (w3.1, w3.2.1, ()))
    (fun (w4 : ByteArray × Unit) =>
      some ((-1 : Int), w4.1, ()))
    (x.1, (x.1.length : Int), (0 : Int), x.2.1, ())
theorem f818v0Ok (k : Nat) : GnV P 118 f818v0I f818v0U (f818v0F k) :=
  gs tm (f818v0T k) Tryz.func118 (by kernel_rfl) (SumsOk.nil |>.s (f818v0l0O k) (by kernel_rfl)) [.dat .bool] [] none fun _ => by kernel_rfl
/-! ## midrange/messages.find -/
noncomputable def f790T (k : Nat) : TB P := TB.nil |>.g (f818v0Ok k)
noncomputable def f790F (k : Nat) (x : (List D13) × ByteArray) : Option (Int) :=
  Option.bind (f818v0F k (x.1, x.2, ())) fun y1 =>
  some y1.1
theorem f790Ok (k : Nat) : FnV P 90 [.dat (.slice Y10), .dat .str] [.dat (.int .i64)] (f790F k) :=
  fs tm (f790T k) Tryz.func90 (by kernel_rfl) SumsOk.nil none fun _ => by kernel_rfl
/-! ## midrange/numeric.size -/
noncomputable def f44F (k : Nat) (x : (Int × (Int × Int))) : Option (Int) :=
  bif (x.1 == (1 : Int)) then
    let t1 := (IntKind.i64.wrap ((IntKind.i64.wrap (Int.tdiv x.2.1 (2 : Int))) + (1 : Int)))
    some t1
  else
  bif (x.1 == (3 : Int)) then
    let t2 := (IntKind.i64.wrap ((IntKind.i64.wrap (Int.tdiv x.2.1 (9 : Int))) * (2 : Int)))
    some (IntKind.i64.wrap ((2 : Int) + t2))
  else
  bif (x.1 == (4 : Int)) then
    some (16 : Int)
  else
  some x.2.1
theorem f44Ok (k : Nat) : FnV P 136 [.agg (.pair (.int .i64) Y6)] [.dat (.int .i64)] (f44F k) :=
  fs tm TB.nil Tryz.func136 (by kernel_rfl) SumsOk.nil none fun _ => by kernel_rfl
/-! ## midrange/numeric.SizeOf -/
noncomputable def f24T (k : Nat) : TB P := TB.nil |>.u (f44Ok k) |>.u (f28Ok k)
noncomputable def f24F (k : Nat) (x : (Int × (Int × Int))) : Option (Int × Int) :=
  Option.bind (f28F k (x.1, (x.2.1, x.2.2))) fun y1 =>
  bif (y1 != (0 : Int)) then
    some ((0 : Int), y1)
  else
  Option.bind (f44F k (x.1, (x.2.1, x.2.2))) fun y2 =>
  some (y2, (0 : Int))
theorem f24Ok (k : Nat) : FnV P 123 [.agg (.pair (.int .i64) Y6)] [.dat (.int .i64), .dat (.int .i64)] (f24F k) :=
  fs tm (f24T k) Tryz.func123 (by kernel_rfl) SumsOk.nil none fun _ => by kernel_rfl
/-! ## midrange/numeric.binary -/
noncomputable def f45l0s {R : Type} (k : Nat) (rec : D36 → Option R) (k0 : Int × Unit → Option R) (v : D36) : Option R :=
  bif (decide (v.2.2.1 < v.2.1)) then
    bif ((decide ((0 : Int) ≤ v.2.2.1)) && (decide (v.2.2.1 < (v.2.2.2.1.length : Int)))) then
    let t1 := (bits .or .i64 (shlI .i64 v.1 (8 : Int)) (IntKind.i64.wrap (v.2.2.2.1.getD (Int.toNat v.2.2.1) (0 : Int))))
    rec (t1, v.2.1, (IntKind.i64.wrap (v.2.2.1 + (1 : Int))), v.2.2.2.1, ())
    else none
  else
  k0 (v.1, ())
noncomputable def f45l0 {R : Type} (k : Nat) (k0 : Int × Unit → Option R) (v : D36) : Option R := iterS (fun rec v => f45l0s k rec k0 v) k v
noncomputable def f45l0S (k : Nat) := loopSum ⟨[(3, .one (.int .i64)), (12, .one (.own 0)), (13, .one (.int .i64)), (14, .one (.int .i64))], [(0, .row 5 (.int .u8) .mark)], 1, []⟩ ⟨[3, 12, 13, 14], [], []⟩ k fun R rec K v => f45l0s k rec (fun w => K (.exit 0) (encSt ⟨[(3, .one (.int .i64))], [], 0, []⟩ w)) v
theorem f45l0O (k : Nat) : SumO P Tryz.f154 58 (f45l0S k) := lp tm TB.nil ⟨[2, 3], [], []⟩ SumsOk.nil (by kernel_rfl) fun _ _ _ _ => by kernel_rfl
noncomputable def f45F (k : Nat) (x : ByteArray) : Option (Int) :=
  bif (decide ((0 : Int) < (x.size : Int))) then
  bif (sliceBds (1 : Int) (x.size : Int) (x.size : Int)) then
  bif (decide ((x.extract 1 (Int.toNat (x.size : Int))).size ≤ 9223372036854775807)) then
  f45l0 k
    (fun (w2 : Int × Unit) =>
      some w2.1)
    ((IntKind.i64.wrap (IntKind.i8.wrap (bt x (0 : Int)))), ((bytesOf (x.extract 1 (Int.toNat (x.size : Int)))).length : Int), (0 : Int), (bytesOf (x.extract 1 (Int.toNat (x.size : Int)))), ())
  else none
  else none
  else none
theorem f45Ok (k : Nat) : FnV P 154 [.dat .str] [.dat (.int .i64)] (f45F k) :=
  fs tm TB.nil Tryz.func154 (by kernel_rfl) (SumsOk.nil |>.s (f45l0O k) (by kernel_rfl)) none fun _ => by kernel_rfl
/-! ## midrange/numeric.power -/
noncomputable def f71l0s {R : Type} (k : Nat) (rec : Int × Int × Int × Unit → Option R) (k0 : Int × Unit → Option R) (v : Int × Int × Int × Unit) : Option R :=
  bif (decide (v.2.2.1 < v.2.1)) then
    rec ((IntKind.i64.wrap (v.1 * (10 : Int))), v.2.1, (IntKind.i64.wrap (v.2.2.1 + (1 : Int))), ())
  else
  k0 (v.1, ())
noncomputable def f71l0 {R : Type} (k : Nat) (k0 : Int × Unit → Option R) (v : Int × Int × Int × Unit) : Option R := iterS (fun rec v => f71l0s k rec k0 v) k v
noncomputable def f71l0S (k : Nat) := loopSum ⟨[(3, .one (.int .i64)), (5, .one (.int .i64)), (6, .one (.int .i64))], [], 0, []⟩ ⟨[3, 5, 6], [], []⟩ k fun R rec K v => f71l0s k rec (fun w => K (.exit 0) (encSt ⟨[(3, .one (.int .i64))], [], 0, []⟩ w)) v
theorem f71l0O (k : Nat) : SumO P Tryz.f168 58 (f71l0S k) := lp tm TB.nil ⟨[2, 3], [], []⟩ SumsOk.nil (by kernel_rfl) fun _ _ _ _ => by kernel_rfl
noncomputable def f71F (k : Nat) (x : Int) : Option (Int) :=
  f71l0 k
    (fun (w1 : Int × Unit) =>
      some w1.1)
    ((1 : Int), (mnI x (18 : Int)), (0 : Int), ())
theorem f71Ok (k : Nat) : FnV P 168 [.dat (.int .i64)] [.dat (.int .i64)] (f71F k) :=
  fs tm TB.nil Tryz.func168 (by kernel_rfl) (SumsOk.nil |>.s (f71l0O k) (by kernel_rfl)) none fun _ => by kernel_rfl
/-! ## midrange/numeric.CheckValue -/
noncomputable def f29T (k : Nat) : TB P := TB.nil |>.u (f71Ok k) |>.u (f43Ok k) |>.u (f42Ok k) |>.u (f70Ok k) |>.u (f28Ok k)
noncomputable def f29F (k : Nat) (x : D37) : Option (Int) :=
  Option.bind (f28F k (x.1.1, (x.1.2.1, x.1.2.2))) fun y1 =>
  Option.bind (f43F k ((x.1.1 == (4 : Int)), (17 : Int))) fun y2 =>
  Option.bind (f42F k [y1, y2]) fun y3 =>
  bif (y3 != (0 : Int)) then
    some y3
  else
  bif (x.1.1 == (0 : Int)) then
    Option.bind (f43F k ((x.2.1 != (0 : Int)), (5 : Int))) fun y4 =>
    Option.bind (f43F k (((x.2.2.size : Int) != x.1.2.1), (18 : Int))) fun y5 =>
    Option.bind (f42F k [y4, y5]) fun y6 =>
    some y6
  else
  Option.bind (f71F k x.1.2.1) fun y7 =>
  Option.bind (f43F k ((!strEq x.2.2 ByteArray.empty), (5 : Int))) fun y8 =>
  Option.bind (f70F k (x.2.1, (IntKind.i64.wrap (0 - (IntKind.i64.wrap (y7 - (1 : Int))))), (IntKind.i64.wrap (y7 - (1 : Int))))) fun y9 =>
  Option.bind (f43F k ((!y9), (19 : Int))) fun y10 =>
  Option.bind (f42F k [y8, y10]) fun y11 =>
  some y11
theorem f29Ok (k : Nat) : FnV P 155 [.agg (.pair (.int .i64) Y6), .agg Y12] [.dat (.int .i64)] (f29F k) :=
  fs tm (f29T k) Tryz.func155 (by kernel_rfl) SumsOk.nil none fun _ => by kernel_rfl
/-! ## midrange/numeric.halves -/
noncomputable def f80p0 {R : Type} (k : Nat) (k0 : D38 → Option R) (v : D38) : Option R :=
  bif ((decide ((0 : Int) ≤ v.2.2.1)) && (decide (v.2.2.1 < (v.1.size : Int)))) then
  bif ((decide ((0 : Int) ≤ v.2.2.1)) && (decide (v.2.2.1 < (v.1.size : Int)))) then
  bif (v.2.2.2.1 == (1 : Int)) then
    let t1 := [(shrI .u8 (bt v.1 v.2.2.1) (4 : Int)), (bits .and .u8 (bt v.1 v.2.2.1) (15 : Int))]
    bif (decide ((v.2.2.2.2.2.2.1.length + t1.length) * 1 ≤ 140737488355328) && decide (v.2.2.2.2.2.2.1.length + t1.length ≤ 9223372036854775807)) then
    bif (decide ((v.2.2.2.2.2.2.2.1.length + [v.2.2.1, v.2.2.1].length) * 8 ≤ 140737488355328) && decide (v.2.2.2.2.2.2.2.1.length + [v.2.2.1, v.2.2.1].length ≤ 9223372036854775807)) then
    k0 (v.1, v.2.1, v.2.2.1, v.2.2.2.1, v.2.2.2.2.1, v.2.2.2.2.2.1, (v.2.2.2.2.2.2.1 ++ t1), (v.2.2.2.2.2.2.2.1 ++ [v.2.2.1, v.2.2.1]), ())
    else none
    else none
  else
  bif (decide ((v.2.2.2.2.2.2.1.length + [(bits .and .u8 (bt v.1 v.2.2.1) (15 : Int))].length) * 1 ≤ 140737488355328) && decide (v.2.2.2.2.2.2.1.length + [(bits .and .u8 (bt v.1 v.2.2.1) (15 : Int))].length ≤ 9223372036854775807)) then
  bif (decide ((v.2.2.2.2.2.2.2.1.length + [v.2.2.1].length) * 8 ≤ 140737488355328) && decide (v.2.2.2.2.2.2.2.1.length + [v.2.2.1].length ≤ 9223372036854775807)) then
  k0 (v.1, v.2.1, v.2.2.1, v.2.2.2.1, v.2.2.2.2.1, v.2.2.2.2.2.1, (v.2.2.2.2.2.2.1 ++ [(bits .and .u8 (bt v.1 v.2.2.1) (15 : Int))]), (v.2.2.2.2.2.2.2.1 ++ [v.2.2.1]), ())
  else none
  else none
  else none
  else none
noncomputable def f80p0S (k : Nat) := partSum ⟨[(1, .one (.str)), (2, .one (.ptr 0 0)), (4, .one (.own 1)), (5, .one (.own 2)), (10, .one (.int .i64)), (11, .one (.int .i64))], [(0, .var 115 [.int .i64, .int .i64, .int .i64]), (1, .row 5 (.int .u8) .plain), (2, .row 3 (.int .i64) .plain)], 3, []⟩ ⟨[1, 2, 4, 5, 10, 11], [], []⟩ fun R K v => f80p0 k (fun w => K .normal (encSt ⟨[(1, .one (.str)), (2, .one (.ptr 0 0)), (4, .one (.own 1)), (5, .one (.own 2)), (10, .one (.int .i64)), (11, .one (.int .i64))], [(0, .var 115 [.int .i64, .int .i64, .int .i64]), (1, .row 5 (.int .u8) .plain), (2, .row 3 (.int .i64) .plain)], 3, []⟩ w)) v
theorem f80p0O (k : Nat) : SumO P Tryz.f169 422 (f80p0S k) := pt tm TB.nil ⟨[1, 2, 4, 5, 10, 11], [], []⟩ SumsOk.nil fun _ _ _ => by kernel_rfl
noncomputable def f80l1s {R : Type} (k : Nat) (rec : D38 → Option R) (k0 : D39 → Option R) (v : D38) : Option R :=
  bif (decide (v.2.2.1 < v.2.1)) then
    f80p0 k
      (fun (w2 : D38) =>
        rec (w2.1, w2.2.1, (IntKind.i64.wrap (w2.2.2.1 + (1 : Int))), w2.2.2.2.1, w2.2.2.2.2.1, w2.2.2.2.2.2.1, w2.2.2.2.2.2.2.1, w2.2.2.2.2.2.2.2.1, ()))
      (v.1, v.2.1, v.2.2.1, v.2.2.2.1, v.2.2.2.2.1, v.2.2.2.2.2.1, v.2.2.2.2.2.2.1, v.2.2.2.2.2.2.2.1, ())
  else
  k0 (v.1, v.2.2.2.1, v.2.2.2.2.1, v.2.2.2.2.2.1, v.2.2.2.2.2.2.1, v.2.2.2.2.2.2.2.1, ())
noncomputable def f80l1 {R : Type} (k : Nat) (k0 : D39 → Option R) (v : D38) : Option R := iterS (fun rec v => f80l1s k rec k0 v) k v
noncomputable def f80l1S (k : Nat) := loopSum ⟨[(1, .one (.str)), (2, .one (.ptr 0 0)), (4, .one (.own 1)), (5, .one (.own 2)), (10, .one (.int .i64)), (11, .one (.int .i64))], [(0, .var 115 [.int .i64, .int .i64, .int .i64]), (1, .row 5 (.int .u8) .plain), (2, .row 3 (.int .i64) .plain)], 3, []⟩ ⟨[1, 2, 4, 5, 10, 11], [(4, 5, (.int .u8)), (5, 3, (.int .i64))], []⟩ k fun R rec K v => f80l1s k rec (fun w => K (.exit 0) (encSt ⟨[(1, .one (.str)), (2, .one (.ptr 0 0)), (4, .one (.own 1)), (5, .one (.own 2))], [(0, .var 115 [.int .i64, .int .i64, .int .i64]), (1, .row 5 (.int .u8) .plain), (2, .row 3 (.int .i64) .plain)], 3, []⟩ w)) v
theorem f80l1O (k : Nat) : SumO P Tryz.f169 26 (f80l1S k) := lp tm TB.nil ⟨[1, 2, 4, 5], [], []⟩ (SumsOk.nil |>.s (f80p0O k) (by kernel_rfl)) (by kernel_rfl) fun _ _ _ _ => by kernel_rfl
noncomputable def f80p2 {R : Type} (k : Nat) (k0 : D39 → Option R) (v : D39) : Option R :=
  bif (v.2.1 == (2 : Int)) then
    bif ((decide ((0 : Int) ≤ (IntKind.i64.wrap ((v.1.size : Int) - (1 : Int))))) && (decide ((IntKind.i64.wrap ((v.1.size : Int) - (1 : Int))) < (v.1.size : Int)))) then
    let t4 := (shrI .u8 (bt v.1 (IntKind.i64.wrap ((v.1.size : Int) - (1 : Int)))) (4 : Int))
    bif (decide ((v.2.2.2.2.1.length + [t4].length) * 1 ≤ 140737488355328) && decide (v.2.2.2.2.1.length + [t4].length ≤ 9223372036854775807)) then
    bif (decide ((v.2.2.2.2.2.1.length + [(IntKind.i64.wrap ((v.1.size : Int) - (1 : Int)))].length) * 8 ≤ 140737488355328) && decide (v.2.2.2.2.2.1.length + [(IntKind.i64.wrap ((v.1.size : Int) - (1 : Int)))].length ≤ 9223372036854775807)) then
    k0 (v.1, v.2.1, v.2.2.1, v.2.2.2.1, (v.2.2.2.2.1 ++ [t4]), (v.2.2.2.2.2.1 ++ [(IntKind.i64.wrap ((v.1.size : Int) - (1 : Int)))]), ())
    else none
    else none
    else none
  else
  k0 (v.1, v.2.1, v.2.2.1, v.2.2.2.1, v.2.2.2.2.1, v.2.2.2.2.2.1, ())
noncomputable def f80p2S (k : Nat) := partSum ⟨[(1, .one (.str)), (2, .one (.ptr 0 0)), (4, .one (.own 1)), (5, .one (.own 2))], [(0, .var 115 [.int .i64, .int .i64, .int .i64]), (1, .row 5 (.int .u8) .plain), (2, .row 3 (.int .i64) .plain)], 3, []⟩ ⟨[1, 2, 4, 5], [], []⟩ fun R K v => f80p2 k (fun w => K .normal (encSt ⟨[(1, .one (.str)), (2, .one (.ptr 0 0)), (4, .one (.own 1)), (5, .one (.own 2))], [(0, .var 115 [.int .i64, .int .i64, .int .i64]), (1, .row 5 (.int .u8) .plain), (2, .row 3 (.int .i64) .plain)], 3, []⟩ w)) v
theorem f80p2O (k : Nat) : SumO P Tryz.f169 14 (f80p2S k) := pt tm TB.nil ⟨[1, 2, 4, 5], [], []⟩ SumsOk.nil fun _ _ _ => by kernel_rfl
noncomputable def f80F (k : Nat) (x : D40) : Option (List Int × List Int) :=
  f80l1 k
    (fun (w3 : D39) =>
      f80p2 k
        (fun (w5 : D39) =>
          some (w5.2.2.2.2.1, w5.2.2.2.2.2.1))
        (w3.1, w3.2.1, w3.2.2.1, w3.2.2.2.1, w3.2.2.2.2.1, w3.2.2.2.2.2.1, ()))
    (x.2, (x.2.size : Int), (0 : Int), x.1.1, x.1.2.1, x.1.2.2, [], [], ())
theorem f80Ok (k : Nat) : FnV P 169 [.agg (.pair (.int .i64) Y6), .dat .str] [.own 5 (.int .u8), .own 3 (.int .i64)] (f80F k) :=
  fs tm TB.nil Tryz.func169 (by kernel_rfl) (SumsOk.nil |>.s (f80p2O k) (by kernel_rfl) |>.s (f80l1O k) (by kernel_rfl) |>.s (f80p0O k) (by kernel_rfl)) none fun _ => by kernel_rfl
/-! ## midrange/numeric.decimal -/
noncomputable def f46T (k : Nat) : TB P := TB.nil |>.u (f80Ok k)
noncomputable def f46p0 {R : Type} (k : Nat) (k0 : D41 → Option R) (k1 : D42 → Option R) (v : D45) : Option R :=
  bif (decide (v.2.2.2.1 > (9 : Int))) then
    bif ((decide ((0 : Int) ≤ v.2.2.1)) && (decide (v.2.2.1 < (v.2.2.2.2.2.2.2.2.2.2.2.1.length : Int)))) then
    k0 ((0 : Int), (v.2.2.2.2.2.2.2.2.2.2.2.1.getD (Int.toNat v.2.2.1) (0 : Int)), (21 : Int), v.1, v.2.1, v.2.2.2.1, v.2.2.2.2.1, v.2.2.2.2.2.1, v.2.2.2.2.2.2.1, v.2.2.2.2.2.2.2.1, v.2.2.2.2.2.2.2.2.1, v.2.2.2.2.2.2.2.2.2.1, v.2.2.2.2.2.2.2.2.2.2.1, v.2.2.2.2.2.2.2.2.2.2.2.1, ())
    else none
  else
  bif (decide (v.2.2.2.1 > (0 : Int))) then
    bif (decide (v.2.2.1 < (IntKind.i64.wrap (v.1 - v.2.2.2.2.2.2.2.2.1)))) then
      bif ((decide ((0 : Int) ≤ v.2.2.1)) && (decide (v.2.2.1 < (v.2.2.2.2.2.2.2.2.2.2.2.1.length : Int)))) then
      k0 ((0 : Int), (v.2.2.2.2.2.2.2.2.2.2.2.1.getD (Int.toNat v.2.2.1) (0 : Int)), (21 : Int), v.1, v.2.1, v.2.2.2.1, v.2.2.2.2.1, v.2.2.2.2.2.1, v.2.2.2.2.2.2.1, v.2.2.2.2.2.2.2.1, v.2.2.2.2.2.2.2.2.1, v.2.2.2.2.2.2.2.2.2.1, v.2.2.2.2.2.2.2.2.2.2.1, v.2.2.2.2.2.2.2.2.2.2.2.1, ())
      else none
    else
    k1 (v.1, v.2.1, v.2.2.2.1, v.2.2.2.2.1, v.2.2.2.2.2.1, v.2.2.2.2.2.2.1, v.2.2.2.2.2.2.2.1, v.2.2.2.2.2.2.2.2.1, v.2.2.2.2.2.2.2.2.2.1, v.2.2.2.2.2.2.2.2.2.2.1, v.2.2.2.2.2.2.2.2.2.2.2.1, ())
  else
  k1 (v.1, v.2.1, v.2.2.2.1, v.2.2.2.2.1, v.2.2.2.2.2.1, v.2.2.2.2.2.2.1, v.2.2.2.2.2.2.2.1, v.2.2.2.2.2.2.2.2.1, v.2.2.2.2.2.2.2.2.2.1, v.2.2.2.2.2.2.2.2.2.2.1, v.2.2.2.2.2.2.2.2.2.2.2.1, ())
noncomputable def f46p0S (k : Nat) := partSum ⟨[(2, .one (.ptr 0 0)), (7, .one (.own 1)), (8, .one (.own 2)), (9, .one (.int .i64)), (10, .one (.int .i64)), (11, .one (.int .i64)), (12, .one (.int .u8)), (24, .one (.ro (.int .u8))), (25, .one (.int .i64)), (26, .one (.int .i64))], [(0, .var 115 [.int .i64, .int .i64, .int .i64]), (1, .row 5 (.int .u8) .frz), (2, .row 3 (.int .i64) .plain)], 3, []⟩ ⟨[2, 7, 8, 9, 10, 11, 12, 24, 25, 26], [], []⟩ fun R K v => f46p0 k (fun w => K .ret (encSt ⟨[(2, .one (.ptr 0 0)), (4, .one (.int .i64)), (5, .one (.int .i64)), (6, .one (.int .i64)), (7, .one (.own 1)), (8, .one (.own 2)), (9, .one (.int .i64)), (10, .one (.int .i64)), (12, .one (.int .u8)), (24, .one (.ro (.int .u8))), (25, .one (.int .i64)), (26, .one (.int .i64))], [(0, .var 115 [.int .i64, .int .i64, .int .i64]), (1, .row 5 (.int .u8) .frz), (2, .row 3 (.int .i64) .plain)], 3, []⟩ w)) (fun w => K .normal (encSt ⟨[(2, .one (.ptr 0 0)), (7, .one (.own 1)), (8, .one (.own 2)), (9, .one (.int .i64)), (10, .one (.int .i64)), (12, .one (.int .u8)), (24, .one (.ro (.int .u8))), (25, .one (.int .i64)), (26, .one (.int .i64))], [(0, .var 115 [.int .i64, .int .i64, .int .i64]), (1, .row 5 (.int .u8) .frz), (2, .row 3 (.int .i64) .plain)], 3, []⟩ w)) v
theorem f46p0O (k : Nat) : SumO P Tryz.f156 32050 (f46p0S k) := pt tm (f46T k) ⟨[2, 4, 5, 6, 7, 8, 9, 10, 12, 24, 25, 26], [], []⟩ SumsOk.nil fun _ _ _ => by kernel_rfl
noncomputable def f46l1s {R : Type} (k : Nat) (rec : D46 → Option R) (k0 : D43 → Option R) (k1 : D44 → Option R) (v : D46) : Option R :=
  bif (decide (v.2.2.2.2.1 < v.2.2.2.1)) then
    bif ((decide ((0 : Int) ≤ v.2.2.2.2.1)) && (decide (v.2.2.2.2.1 < (v.2.2.1.length : Int)))) then
    f46p0 k
      (fun (w3 : D41) =>
        k0 (w3.1, w3.2.1, w3.2.2.1, w3.2.2.2.1, w3.2.2.2.2.1, w3.2.2.2.2.2.2.2.2.2.2.2.2.1, w3.2.2.2.2.2.2.2.2.2.2.2.2.2.1, ()))
      (fun (w4 : D42) =>
        let t5 := (IntKind.i64.wrap ((IntKind.i64.wrap (w4.2.1 * (10 : Int))) + (IntKind.i64.wrap w4.2.2.1)))
        rec (w4.1, t5, w4.2.2.2.1, w4.2.2.2.2.1, (IntKind.i64.wrap (w4.2.2.2.2.2.1 + (1 : Int))), w4.2.2.2.2.2.2.1, w4.2.2.2.2.2.2.2.1, w4.2.2.2.2.2.2.2.2.1, w4.2.2.2.2.2.2.2.2.2.1, w4.2.2.2.2.2.2.2.2.2.2.1, ()))
      (v.1, v.2.1, v.2.2.2.2.1, (v.2.2.1.getD (Int.toNat v.2.2.2.2.1) (0 : Int)), v.2.2.1, v.2.2.2.1, v.2.2.2.2.1, v.2.2.2.2.2.1, v.2.2.2.2.2.2.1, v.2.2.2.2.2.2.2.1, v.2.2.2.2.2.2.2.2.1, v.2.2.2.2.2.2.2.2.2.1, ())
    else none
  else
  k1 (v.1, v.2.1, v.2.2.2.2.2.2.2.2.1, v.2.2.2.2.2.2.2.2.2.1, ())
noncomputable def f46l1 {R : Type} (k : Nat) (k0 : D43 → Option R) (k1 : D44 → Option R) (v : D46) : Option R := iterS (fun rec v => f46l1s k rec k0 k1 v) k v
noncomputable def f46l1S (k : Nat) := loopSum ⟨[(2, .one (.ptr 0 0)), (7, .one (.own 1)), (8, .one (.own 2)), (9, .one (.int .i64)), (10, .one (.int .i64)), (24, .one (.ro (.int .u8))), (25, .one (.int .i64)), (26, .one (.int .i64))], [(0, .var 115 [.int .i64, .int .i64, .int .i64]), (1, .row 5 (.int .u8) .frz), (2, .row 3 (.int .i64) .plain)], 3, []⟩ ⟨[2, 7, 8, 9, 10, 24, 25, 26], [], []⟩ k fun R rec K v => f46l1s k rec (fun w => K .ret (encSt ⟨[(4, .one (.int .i64)), (5, .one (.int .i64)), (6, .one (.int .i64)), (7, .one (.own 0)), (8, .one (.own 1)), (9, .one (.int .i64)), (10, .one (.int .i64))], [(0, .row 5 (.int .u8) .frz), (1, .row 3 (.int .i64) .plain)], 2, []⟩ w)) (fun w => K (.exit 0) (encSt ⟨[(7, .one (.own 0)), (8, .one (.own 1)), (9, .one (.int .i64)), (10, .one (.int .i64))], [(0, .row 5 (.int .u8) .frz), (1, .row 3 (.int .i64) .plain)], 2, []⟩ w)) v
theorem f46l1O (k : Nat) : SumO P Tryz.f156 250 (f46l1S k) := lp tm (f46T k) ⟨[4, 5, 6, 7, 8, 9, 10], [], []⟩ (SumsOk.nil |>.s (f46p0O k) (by kernel_rfl)) (by kernel_rfl) fun _ _ _ _ => by kernel_rfl
noncomputable def f46p2 {R : Type} (k : Nat) (k0 : D43 → Option R) (k1 : D44 → Option R) (v : D44) : Option R :=
  bif ((decide ((0 : Int) ≤ v.1)) && (decide (v.1 < (v.2.2.1.length : Int)))) then
  bif (decide ((v.2.2.1.getD (Int.toNat v.1) (0 : Int)) < (10 : Int))) then
    bif ((decide ((0 : Int) ≤ v.1)) && (decide (v.1 < (v.2.2.2.1.length : Int)))) then
    k0 ((0 : Int), (v.2.2.2.1.getD (Int.toNat v.1) (0 : Int)), (21 : Int), v.1, v.2.1, v.2.2.1, v.2.2.2.1, ())
    else none
  else
  bif ((decide ((0 : Int) ≤ v.1)) && (decide (v.1 < (v.2.2.1.length : Int)))) then
  bif ((v.2.2.1.getD (Int.toNat v.1) (0 : Int)) == (11 : Int)) then
    k1 (v.1, (IntKind.i64.wrap (0 - v.2.1)), v.2.2.1, v.2.2.2.1, ())
  else
  bif ((decide ((0 : Int) ≤ v.1)) && (decide (v.1 < (v.2.2.1.length : Int)))) then
  bif ((v.2.2.1.getD (Int.toNat v.1) (0 : Int)) == (13 : Int)) then
    k1 (v.1, (IntKind.i64.wrap (0 - v.2.1)), v.2.2.1, v.2.2.2.1, ())
  else
  k1 (v.1, v.2.1, v.2.2.1, v.2.2.2.1, ())
  else none
  else none
  else none
noncomputable def f46p2S (k : Nat) := partSum ⟨[(7, .one (.own 0)), (8, .one (.own 1)), (9, .one (.int .i64)), (10, .one (.int .i64))], [(0, .row 5 (.int .u8) .frz), (1, .row 3 (.int .i64) .plain)], 2, []⟩ ⟨[7, 8, 9, 10], [], []⟩ fun R K v => f46p2 k (fun w => K .ret (encSt ⟨[(4, .one (.int .i64)), (5, .one (.int .i64)), (6, .one (.int .i64)), (7, .one (.own 0)), (8, .one (.own 1)), (9, .one (.int .i64)), (10, .one (.int .i64))], [(0, .row 5 (.int .u8) .frz), (1, .row 3 (.int .i64) .plain)], 2, []⟩ w)) (fun w => K .normal (encSt ⟨[(7, .one (.own 0)), (8, .one (.own 1)), (9, .one (.int .i64)), (10, .one (.int .i64))], [(0, .row 5 (.int .u8) .frz), (1, .row 3 (.int .i64) .plain)], 2, []⟩ w)) v
theorem f46p2O (k : Nat) : SumO P Tryz.f156 126 (f46p2S k) := pt tm (f46T k) ⟨[4, 5, 6, 7, 8, 9, 10], [], []⟩ SumsOk.nil fun _ _ _ => by kernel_rfl
noncomputable def f46F (k : Nat) (x : D40) : Option (Int × Int × Int) :=
  Option.bind (f80F k ((x.1.1, (x.1.2.1, x.1.2.2)), x.2)) fun y1 =>
  bif (sliceBds (0 : Int) (IntKind.i64.wrap ((y1.1.length : Int) - (1 : Int))) (y1.1.length : Int)) then
  let t2 := ((y1.1.take (Int.toNat (IntKind.i64.wrap ((y1.1.length : Int) - (1 : Int))))).drop 0)
  f46l1 k
    (fun (w6 : D43) =>
      some (w6.1, w6.2.1, w6.2.2.1))
    (fun (w7 : D44) =>
      f46p2 k
        (fun (w8 : D43) =>
          some (w8.1, w8.2.1, w8.2.2.1))
        (fun (w9 : D44) =>
          some (w9.2.1, (0 : Int), (0 : Int)))
        (w7.1, w7.2.1, w7.2.2.1, w7.2.2.2.1, ()))
    ((IntKind.i64.wrap ((y1.1.length : Int) - (1 : Int))), (0 : Int), t2, (t2.length : Int), (0 : Int), x.1.1, x.1.2.1, x.1.2.2, y1.1, y1.2, ())
  else none
theorem f46Ok (k : Nat) : FnV P 156 [.agg (.pair (.int .i64) Y6), .dat .str] [.dat (.int .i64), .dat (.int .i64), .dat (.int .i64)] (f46F k) :=
  fs tm (f46T k) Tryz.func156 (by kernel_rfl) (SumsOk.nil |>.s (f46p2O k) (by kernel_rfl) |>.s (f46l1O k) (by kernel_rfl) |>.s (f46p0O k) (by kernel_rfl)) none fun _ => by kernel_rfl
/-! ## midrange/numeric.Decode -/
noncomputable def f16T (k : Nat) : TB P := TB.nil |>.u (f46Ok k) |>.u (f29Ok k) |>.u (f45Ok k) |>.u (f43Ok k) |>.u (f42Ok k) |>.u (f44Ok k) |>.u (f28Ok k)
noncomputable def f16p0 {R : Type} (k : Nat) (k0 : D47 → Option R) (v : D47) : Option R :=
  bif (v.2.1 == (0 : Int)) then
    Option.bind (f44F k (v.2.2.1, (v.2.2.2.1, v.2.2.2.2.1))) fun y4 =>
    Option.bind (f43F k (((v.1.size : Int) != y4), (18 : Int))) fun y5 =>
    k0 (v.1, y5, v.2.2.1, v.2.2.2.1, v.2.2.2.2.1, v.2.2.2.2.2.1, v.2.2.2.2.2.2.1, ())
  else
  k0 (v.1, v.2.1, v.2.2.1, v.2.2.2.1, v.2.2.2.2.1, v.2.2.2.2.2.1, v.2.2.2.2.2.2.1, ())
noncomputable def f16p0S (k : Nat) := partSum ⟨[(1, .one (.str)), (2, .one (.ptr 0 0)), (4, .one (.ptr 1 0)), (7, .one (.int .i64))], [(0, .var 115 [.int .i64, .int .i64, .int .i64]), (1, .var 176 [.int .i64, .str])], 2, []⟩ ⟨[1, 2, 4, 7], [], []⟩ fun R K v => f16p0 k (fun w => K .normal (encSt ⟨[(1, .one (.str)), (2, .one (.ptr 0 0)), (4, .one (.ptr 1 0)), (7, .one (.int .i64))], [(0, .var 115 [.int .i64, .int .i64, .int .i64]), (1, .var 176 [.int .i64, .str])], 2, []⟩ w)) v
theorem f16p0O (k : Nat) : SumO P Tryz.f137 14 (f16p0S k) := pt tm (f16T k) ⟨[1, 2, 4, 5, 6, 7], [], []⟩ SumsOk.nil fun _ _ _ => by kernel_rfl
noncomputable def f16F (k : Nat) (x : D40) : Option (D48) :=
  Option.bind (f28F k (x.1.1, (x.1.2.1, x.1.2.2))) fun y1 =>
  Option.bind (f43F k ((x.1.1 == (4 : Int)), (17 : Int))) fun y2 =>
  Option.bind (f42F k [y1, y2]) fun y3 =>
  f16p0 k
    (fun (w6 : D47) =>
      bif (w6.2.1 != (0 : Int)) then
        some (((0 : Int), ByteArray.empty), (0 : Int), w6.2.1)
      else
      bif (w6.2.2.1 == (0 : Int)) then
        some (((0 : Int), w6.1), (0 : Int), (0 : Int))
      else
      bif (w6.2.2.1 == (3 : Int)) then
        Option.bind (f45F k w6.1) fun y7 =>
        Option.bind (f29F k ((w6.2.2.1, (w6.2.2.2.1, w6.2.2.2.2.1)), (y7, ByteArray.empty))) fun y8 =>
        bif (y8 != (0 : Int)) then
          some (((0 : Int), ByteArray.empty), (0 : Int), y8)
        else
        some ((y7, ByteArray.empty), (0 : Int), (0 : Int))
      else
      Option.bind (f46F k ((w6.2.2.1, (w6.2.2.2.1, w6.2.2.2.2.1)), w6.1)) fun y9 =>
      some ((y9.1, ByteArray.empty), y9.2.1, y9.2.2))
    (x.2, y3, x.1.1, x.1.2.1, x.1.2.2, (0 : Int), ByteArray.empty, ())
theorem f16Ok (k : Nat) : FnV P 137 [.agg (.pair (.int .i64) Y6), .dat .str] [.agg Y12, .dat (.int .i64), .dat (.int .i64)] (f16F k) :=
  fs tm (f16T k) Tryz.func137 (by kernel_rfl) (SumsOk.nil |>.s (f16p0O k) (by kernel_rfl)) none fun _ => by kernel_rfl
theorem f839V (k : Nat) : FnV P 139 [.dat .str, .dat .str] [.dat .str] (f839F k) := ⟨f839B, f839Ok k⟩
/-! ## midrange/messages.shown -/
noncomputable def f838p0 {R : Type} (k : Nat) (k0 : D1 → Option R) (v : D1) : Option R :=
  bif ((decide ((0 : Int) ≤ v.2.1)) && (decide (v.2.1 < (v.2.2.1.length : Int)))) then
  bif (decide ((v.2.2.1.getD (Int.toNat v.2.1) (0 : Int)) < (32 : Int))) then
    bif ((decide ((0 : Int) ≤ v.2.1)) && (decide (v.2.1 < (v.2.2.1.length : Int)))) then
    k0 (v.1, v.2.1, (v.2.2.1.set (Int.toNat v.2.1) (63 : Int)), ())
    else none
  else
  bif (decide ((v.2.2.1.getD (Int.toNat v.2.1) (0 : Int)) > (126 : Int))) then
    bif ((decide ((0 : Int) ≤ v.2.1)) && (decide (v.2.1 < (v.2.2.1.length : Int)))) then
    k0 (v.1, v.2.1, (v.2.2.1.set (Int.toNat v.2.1) (63 : Int)), ())
    else none
  else
  k0 (v.1, v.2.1, v.2.2.1, ())
  else none
noncomputable def f838p0S (k : Nat) := partSum ⟨[(3, .one (.own 0)), (8, .one (.own 0)), (9, .one (.int .i64)), (10, .one (.int .i64))], [(0, .row 5 (.int .u8) .mark)], 1, []⟩ ⟨[3, 8, 9, 10], [], []⟩ fun R K v => f838p0 k (fun w => K .normal (encSt ⟨[(3, .one (.own 0)), (8, .one (.own 0)), (9, .one (.int .i64)), (10, .one (.int .i64))], [(0, .row 5 (.int .u8) .mark)], 1, []⟩ w)) v
theorem f838p0O (k : Nat) : SumO P Tryz.f138 934 (f838p0S k) := pt tm TB.nil ⟨[2, 3, 8, 9, 10], [], []⟩ SumsOk.nil fun _ _ _ => by kernel_rfl
noncomputable def f838l1s {R : Type} (k : Nat) (rec : D1 → Option R) (k0 : List Int × Unit → Option R) (v : D1) : Option R :=
  bif (decide (v.2.1 < v.1)) then
    f838p0 k
      (fun (w1 : D1) =>
        rec (w1.1, (IntKind.i64.wrap (w1.2.1 + (1 : Int))), w1.2.2.1, ()))
      (v.1, v.2.1, v.2.2.1, ())
  else
  k0 (v.2.2.1, ())
noncomputable def f838l1 {R : Type} (k : Nat) (k0 : List Int × Unit → Option R) (v : D1) : Option R := iterS (fun rec v => f838l1s k rec k0 v) k v
noncomputable def f838l1S (k : Nat) := loopSum ⟨[(3, .one (.own 0)), (8, .one (.own 0)), (9, .one (.int .i64)), (10, .one (.int .i64))], [(0, .row 5 (.int .u8) .mark)], 1, []⟩ ⟨[3, 8, 9, 10], [], []⟩ k fun R rec K v => f838l1s k rec (fun w => K (.exit 0) (encSt ⟨[(3, .one (.own 0))], [(0, .row 5 (.int .u8) .mark)], 1, []⟩ w)) v
theorem f838l1O (k : Nat) : SumO P Tryz.f138 58 (f838l1S k) := lp tm TB.nil ⟨[2, 3], [], []⟩ (SumsOk.nil |>.s (f838p0O k) (by kernel_rfl)) (by kernel_rfl) fun _ _ _ _ => by kernel_rfl
noncomputable def f838F (k : Nat) (x : ByteArray) : Option (ByteArray) :=
  bif (decide (x.size ≤ 9223372036854775807)) then
  f838l1 k
    (fun (w2 : List Int × Unit) =>
      some (strOfNums w2.1))
    (((bytesOf x).length : Int), (0 : Int), (bytesOf x), ())
  else none
theorem f838Ok (k : Nat) : FnV P 138 [.dat .str] [.dat .str] (f838F k) :=
  fs tm TB.nil Tryz.func138 (by kernel_rfl) (SumsOk.nil |>.s (f838l1O k) (by kernel_rfl) |>.s (f838p0O k) (by kernel_rfl)) none fun _ => by kernel_rfl
/-! ## midrange/numeric.CheckNumber -/
noncomputable def f52T (k : Nat) : TB P := TB.nil |>.u (f43Ok k) |>.u (f70Ok k)
noncomputable def f52F (k : Nat) (x : (Int × Int)) : Option (Int) :=
  Option.bind (f70F k (x.1, (-999999999999999 : Int), (999999999999999 : Int))) fun y1 =>
  bif (!y1) then
    Option.bind (f43F k (true, (3 : Int))) fun y2 =>
    some y2
  else
  Option.bind (f70F k (x.2, (0 : Int), (15 : Int))) fun y3 =>
  Option.bind (f43F k ((!y3), (3 : Int))) fun y4 =>
  some y4
theorem f52Ok (k : Nat) : FnV P 161 [.agg Y6] [.dat (.int .i64)] (f52F k) :=
  fs tm (f52T k) Tryz.func161 (by kernel_rfl) SumsOk.nil none fun _ => by kernel_rfl
theorem f862V (k : Nat) : FnV P 162 [.dat (.int .i64)] [.dat .str] (f862F k) := ⟨f862B, f862Ok k⟩
theorem f73V (k : Nat) : FnV P 163 [.dat .str, .dat (.int .i64)] [.dat .str] (f73F k) := ⟨f73B, f73Ok k⟩
/-! ## midrange/numeric.FormatNumber -/
noncomputable def f840T (k : Nat) : TB P := TB.nil |>.u (f73V k) |>.u (f862V k) |>.u (f52Ok k)
noncomputable def f840p0 {R : Type} (k : Nat) (k0 : D49 → Option R) (v : D49) : Option R :=
  bif (decide ((v.1.size : Int) ≤ v.2.2.1)) then
    let t3 := (IntKind.i64.wrap ((IntKind.i64.wrap (v.2.2.1 + (1 : Int))) - (v.1.size : Int)))
    Option.bind (f73F k ((⟨#[48]⟩ : ByteArray), t3)) fun y4 =>
    bif (decide (y4.size + v.1.size ≤ 9223372036854775807)) then
    k0 ((y4 ++ v.1), v.2.1, v.2.2.1, ())
    else none
  else
  k0 (v.1, v.2.1, v.2.2.1, ())
noncomputable def f840p0S (k : Nat) := partSum ⟨[(1, .one (.ptr 0 0)), (5, .one (.str))], [(0, .var 181 [.int .i64, .int .i64])], 1, []⟩ ⟨[1, 5], [], []⟩ fun R K v => f840p0 k (fun w => K .normal (encSt ⟨[(1, .one (.ptr 0 0)), (5, .one (.str))], [(0, .var 181 [.int .i64, .int .i64])], 1, []⟩ w)) v
theorem f840p0O (k : Nat) : SumO P Tryz.f140 30 (f840p0S k) := pt tm (f840T k) ⟨[1, 2, 3, 5], [], []⟩ SumsOk.nil fun _ _ _ => by kernel_rfl
noncomputable def f840p1 {R : Type} (k : Nat) (k0 : D49 → Option R) (v : D49) : Option R :=
  bif (decide (v.2.2.1 > (0 : Int))) then
    bif (sliceBds (0 : Int) (IntKind.i64.wrap ((v.1.size : Int) - v.2.2.1)) (v.1.size : Int)) then
    let t6 := (v.1.extract 0 (Int.toNat (IntKind.i64.wrap ((v.1.size : Int) - v.2.2.1))))
    bif (decide (t6.size + (⟨#[46]⟩ : ByteArray).size ≤ 9223372036854775807)) then
    bif (sliceBds (IntKind.i64.wrap ((v.1.size : Int) - v.2.2.1)) (v.1.size : Int) (v.1.size : Int)) then
    let t7 := (v.1.extract (Int.toNat (IntKind.i64.wrap ((v.1.size : Int) - v.2.2.1))) (Int.toNat (v.1.size : Int)))
    bif (decide ((t6 ++ (⟨#[46]⟩ : ByteArray)).size + t7.size ≤ 9223372036854775807)) then
    k0 (((t6 ++ (⟨#[46]⟩ : ByteArray)) ++ t7), v.2.1, v.2.2.1, ())
    else none
    else none
    else none
    else none
  else
  k0 (v.1, v.2.1, v.2.2.1, ())
noncomputable def f840p1S (k : Nat) := partSum ⟨[(1, .one (.ptr 0 0)), (5, .one (.str))], [(0, .var 181 [.int .i64, .int .i64])], 1, []⟩ ⟨[1, 5], [], []⟩ fun R K v => f840p1 k (fun w => K .normal (encSt ⟨[(1, .one (.ptr 0 0)), (5, .one (.str))], [(0, .var 181 [.int .i64, .int .i64])], 1, []⟩ w)) v
theorem f840p1O (k : Nat) : SumO P Tryz.f140 62 (f840p1S k) := pt tm (f840T k) ⟨[1, 2, 3, 5], [], []⟩ SumsOk.nil fun _ _ _ => by kernel_rfl
noncomputable def f840p2 {R : Type} (k : Nat) (k0 : ByteArray × Unit → Option R) (v : D49) : Option R :=
  bif (decide (v.2.1 < (0 : Int))) then
    bif (decide ((⟨#[45]⟩ : ByteArray).size + v.1.size ≤ 9223372036854775807)) then
    k0 (((⟨#[45]⟩ : ByteArray) ++ v.1), ())
    else none
  else
  k0 (v.1, ())
noncomputable def f840p2S (k : Nat) := partSum ⟨[(1, .one (.ptr 0 0)), (5, .one (.str))], [(0, .var 181 [.int .i64, .int .i64])], 1, []⟩ ⟨[1, 5], [], []⟩ fun R K v => f840p2 k (fun w => K .normal (encSt ⟨[(5, .one (.str))], [], 0, []⟩ w)) v
theorem f840p2O (k : Nat) : SumO P Tryz.f140 126 (f840p2S k) := pt tm (f840T k) ⟨[2, 3, 5], [], []⟩ SumsOk.nil fun _ _ _ => by kernel_rfl
noncomputable def f840F (k : Nat) (x : (Int × Int)) : Option (ByteArray × Int) :=
  Option.bind (f52F k (x.1, x.2)) fun y1 =>
  bif (y1 != (0 : Int)) then
    some (ByteArray.empty, y1)
  else
  Option.bind (f862F k (mxI x.1 (IntKind.i64.wrap (0 - x.1)))) fun y2 =>
  f840p0 k
    (fun (w5 : D49) =>
      f840p1 k
        (fun (w8 : D49) =>
          f840p2 k
            (fun (w9 : ByteArray × Unit) =>
              some (w9.1, (0 : Int)))
            (w8.1, w8.2.1, w8.2.2.1, ()))
        (w5.1, w5.2.1, w5.2.2.1, ()))
    (y2, x.1, x.2, ())
theorem f840Ok (k : Nat) : FnV P 140 [.agg Y6] [.dat .str, .dat (.int .i64)] (f840F k) :=
  fs tm (f840T k) Tryz.func140 (by kernel_rfl) (SumsOk.nil |>.s (f840p2O k) (by kernel_rfl) |>.s (f840p1O k) (by kernel_rfl) |>.s (f840p0O k) (by kernel_rfl)) none fun _ => by kernel_rfl
/-! ## midrange/messages.fieldText -/
noncomputable def f824T (k : Nat) : TB P := TB.nil |>.u (f840Ok k) |>.u (f839V k) |>.u (f838Ok k) |>.u (f16Ok k)
noncomputable def f824F (k : Nat) (x : D40) : Option (ByteArray) :=
  Option.bind (f16F k ((x.1.1, (x.1.2.1, x.1.2.2)), x.2)) fun y1 =>
  bif (y1.2.2 != (0 : Int)) then
    some (⟨#[42, 78]⟩ : ByteArray)
  else
  bif (x.1.1 == (0 : Int)) then
    Option.bind (f839F k (y1.1.2, (⟨#[32]⟩ : ByteArray))) fun y2 =>
    Option.bind (f838F k y2) fun y3 =>
    some y3
  else
  Option.bind (f840F k (y1.1.1, x.1.2.2)) fun y4 =>
  some y4.1
theorem f824Ok (k : Nat) : FnV P 124 [.agg (.pair (.int .i64) Y6), .dat .str] [.dat .str] (f824F k) :=
  fs tm (f824T k) Tryz.func124 (by kernel_rfl) SumsOk.nil none fun _ => by kernel_rfl
/-! ## midrange/messages.fields -/
noncomputable def f807T (k : Nat) : TB P := TB.nil |>.u (f824Ok k) |>.u (f24Ok k)
noncomputable def f807p0 {R : Type} (k : Nat) (k0 : D51 → Option R) (v : D52) : Option R :=
  bif (decide ((IntKind.i64.wrap (v.2.1 + v.2.2.1)) ≤ (v.1.size : Int))) then
    bif (sliceBds v.2.1 (IntKind.i64.wrap (v.2.1 + v.2.2.1)) (v.1.size : Int)) then
    let t3 := (v.1.extract (Int.toNat v.2.1) (Int.toNat (IntKind.i64.wrap (v.2.1 + v.2.2.1))))
    Option.bind (f824F k ((v.2.2.2.2.2.2.2.2.1, (v.2.2.2.2.2.2.2.2.2.1, v.2.2.2.2.2.2.2.2.2.2.1)), t3)) fun y4 =>
    k0 (v.1, v.2.1, v.2.2.1, y4, v.2.2.2.2.1, v.2.2.2.2.2.1, v.2.2.2.2.2.2.1, v.2.2.2.2.2.2.2.1, ())
    else none
  else
  k0 (v.1, v.2.1, v.2.2.1, v.2.2.2.1, v.2.2.2.2.1, v.2.2.2.2.2.1, v.2.2.2.2.2.2.1, v.2.2.2.2.2.2.2.1, ())
noncomputable def f807p0S (k : Nat) := partSum ⟨[(1, .one (.str)), (5, .one (.own 0)), (6, .one (.int .i64)), (8, .one (.ptr 1 0)), (9, .one (.int .i64)), (11, .one (.str)), (12, .one (.ro (.pair (.int .i64) Y6))), (13, .one (.int .i64)), (14, .one (.int .i64))], [(0, .row 9 .str .plain), (1, .var 115 [.int .i64, .int .i64, .int .i64])], 2, []⟩ ⟨[1, 5, 6, 8, 9, 11, 12, 13, 14], [], []⟩ fun R K v => f807p0 k (fun w => K .normal (encSt ⟨[(1, .one (.str)), (5, .one (.own 0)), (6, .one (.int .i64)), (9, .one (.int .i64)), (11, .one (.str)), (12, .one (.ro (.pair (.int .i64) Y6))), (13, .one (.int .i64)), (14, .one (.int .i64))], [(0, .row 9 .str .plain)], 1, []⟩ w)) v
theorem f807p0O (k : Nat) : SumO P Tryz.f107 62670 (f807p0S k) := pt tm (f807T k) ⟨[1, 4, 5, 6, 9, 11, 12, 13, 14], [], []⟩ SumsOk.nil fun _ _ _ => by kernel_rfl
noncomputable def f807l1s {R : Type} (k : Nat) (rec : D53 → Option R) (k0 : List ByteArray × Unit → Option R) (v : D53) : Option R :=
  bif (decide (v.2.2.2.2.1 < v.2.2.2.1)) then
    bif ((decide ((0 : Int) ≤ v.2.2.2.2.1)) && (decide (v.2.2.2.2.1 < (v.2.2.1.length : Int)))) then
    let t1 := (v.2.2.1.getD (Int.toNat v.2.2.2.2.1) ((0 : Int), ((0 : Int), (0 : Int))))
    Option.bind (f24F k (t1.1, (t1.2.1, t1.2.2))) fun y2 =>
    f807p0 k
      (fun (w5 : D51) =>
        bif (decide ((w5.2.2.2.2.2.2.2.1.length + [w5.2.2.2.1].length) * 16 ≤ 140737488355328) && decide (w5.2.2.2.2.2.2.2.1.length + [w5.2.2.2.1].length ≤ 9223372036854775807)) then
        rec (w5.1, (IntKind.i64.wrap (w5.2.1 + w5.2.2.1)), w5.2.2.2.2.1, w5.2.2.2.2.2.1, (IntKind.i64.wrap (w5.2.2.2.2.2.2.1 + (1 : Int))), (w5.2.2.2.2.2.2.2.1 ++ [w5.2.2.2.1]), ())
        else none)
      (v.1, v.2.1, y2.1, (⟨#[42, 78]⟩ : ByteArray), v.2.2.1, v.2.2.2.1, v.2.2.2.2.1, v.2.2.2.2.2.1, t1.1, t1.2.1, t1.2.2, ())
    else none
  else
  k0 (v.2.2.2.2.2.1, ())
noncomputable def f807l1 {R : Type} (k : Nat) (k0 : List ByteArray × Unit → Option R) (v : D53) : Option R := iterS (fun rec v => f807l1s k rec k0 v) k v
noncomputable def f807l1S (k : Nat) := loopSum ⟨[(1, .one (.str)), (5, .one (.own 0)), (6, .one (.int .i64)), (12, .one (.ro (.pair (.int .i64) Y6))), (13, .one (.int .i64)), (14, .one (.int .i64))], [(0, .row 9 .str .plain)], 1, []⟩ ⟨[1, 5, 6, 12, 13, 14], [(5, 9, .str)], []⟩ k fun R rec K v => f807l1s k rec (fun w => K (.exit 0) (encSt ⟨[(5, .one (.own 0))], [(0, .row 9 .str .plain)], 1, []⟩ w)) v
theorem f807l1O (k : Nat) : SumO P Tryz.f107 122 (f807l1S k) := lp tm (f807T k) ⟨[4, 5], [], []⟩ (SumsOk.nil |>.s (f807p0O k) (by kernel_rfl)) (by kernel_rfl) fun _ _ _ _ => by kernel_rfl
noncomputable def f807F (k : Nat) (x : D54) : Option (List ByteArray) :=
  f807l1 k
    (fun (w6 : List ByteArray × Unit) =>
      some w6.1)
    (x.2, (0 : Int), x.1, (x.1.length : Int), (0 : Int), [], ())
theorem f807Ok (k : Nat) : FnV P 107 [.dat (.slice (.pair (.int .i64) Y6)), .dat .str] [.own 9 .str] (f807F k) :=
  fs tm (f807T k) Tryz.func107 (by kernel_rfl) (SumsOk.nil |>.s (f807l1O k) (by kernel_rfl) |>.s (f807p0O k) (by kernel_rfl)) none fun _ => by kernel_rfl
/-! ## (*strings.Builder).WriteString, handed what it may write -/
noncomputable def f825v0I : Shape := ⟨[(0, .one (.ptr 0 0)), (1, .one (.str))], [(0, .var 167 [.nil .ptr, .emp])], 1, []⟩
noncomputable def f825v0U : Shape := ⟨[(0, .one (.int .i64)), (1, .one (.nil .iface))], [(0, .var 167 [.ptr 0 0, .own 1]), (1, .row 5 (.int .u8) .plain)], 2, []⟩
noncomputable def f825v0T (k : Nat) : TB P := TB.nil |>.h Tryz.func141 (by kernel_rfl) bc_ok
noncomputable def f825v0F (k : Nat) (x : ByteArray × Unit) : Option (Int × List Int × Unit) :=
  bif (decide ((([] : List Int).length + (bytesOf x.1).length) * 1 ≤ 140737488355328) && decide (([] : List Int).length + (bytesOf x.1).length ≤ 9223372036854775807)) then
  some ((x.1.size : Int), ([] ++ (bytesOf x.1)), ())
  else none
theorem f825v0Ok (k : Nat) : GnV P 125 f825v0I f825v0U (f825v0F k) :=
  gs tm (f825v0T k) Tryz.func125 (by kernel_rfl) SumsOk.nil [.dat .bool, .dat .bool] [] none fun _ => by kernel_rfl
/-! ## (*strings.Builder).WriteByte, handed what it may write -/
noncomputable def f826v0I : Shape := ⟨[(0, .one (.ptr 0 0)), (1, .one (.int .u8))], [(0, .var 167 [.nil .ptr, .emp])], 1, []⟩
noncomputable def f826v0U : Shape := ⟨[(0, .one (.nil .iface))], [(0, .var 167 [.ptr 0 0, .own 1]), (1, .row 5 (.int .u8) .plain)], 2, []⟩
noncomputable def f826v0T (k : Nat) : TB P := TB.nil |>.h Tryz.func141 (by kernel_rfl) bc_ok
noncomputable def f826v0F (k : Nat) (x : Int × Unit) : Option (List Int × Unit) :=
  bif (decide ((([] : List Int).length + [x.1].length) * 1 ≤ 140737488355328) && decide (([] : List Int).length + [x.1].length ≤ 9223372036854775807)) then
  some (([] ++ [x.1]), ())
  else none
theorem f826v0Ok (k : Nat) : GnV P 126 f826v0I f826v0U (f826v0F k) :=
  gs tm (f826v0T k) Tryz.func126 (by kernel_rfl) SumsOk.nil [.dat .bool] [] none fun _ => by kernel_rfl
/-! ## (*strings.Builder).WriteString, handed what it may write -/
noncomputable def f825v1I : Shape := ⟨[(0, .one (.ptr 0 0)), (1, .one (.str))], [(0, .var 167 [.ptr 0 0, .own 1]), (1, .row 5 (.int .u8) .plain)], 2, []⟩
noncomputable def f825v1U : Shape := ⟨[(0, .one (.int .i64)), (1, .one (.nil .iface))], [(0, .var 167 [.ptr 0 0, .own 2]), (2, .row 5 (.int .u8) .plain)], 3, []⟩
noncomputable def f825v1T (k : Nat) : TB P := TB.nil |>.h Tryz.func141 (by kernel_rfl) bc_ok
noncomputable def f825v1F (k : Nat) (x : D57) : Option (Int × List Int × Unit) :=
  bif (decide ((x.2.1.length + (bytesOf x.1).length) * 1 ≤ 140737488355328) && decide (x.2.1.length + (bytesOf x.1).length ≤ 9223372036854775807)) then
  some ((x.1.size : Int), (x.2.1 ++ (bytesOf x.1)), ())
  else none
theorem f825v1Ok (k : Nat) : GnV P 125 f825v1I f825v1U (f825v1F k) :=
  gs tm (f825v1T k) Tryz.func125 (by kernel_rfl) SumsOk.nil [.dat .bool, .dat .bool] [1] none fun _ => by kernel_rfl
/-! ## (*strings.Builder).WriteByte, handed what it may write -/
noncomputable def f826v1I : Shape := ⟨[(0, .one (.ptr 0 0)), (1, .one (.int .u8))], [(0, .var 167 [.ptr 0 0, .own 1]), (1, .row 5 (.int .u8) .plain)], 2, []⟩
noncomputable def f826v1U : Shape := ⟨[(0, .one (.nil .iface))], [(0, .var 167 [.ptr 0 0, .own 2]), (2, .row 5 (.int .u8) .plain)], 3, []⟩
noncomputable def f826v1T (k : Nat) : TB P := TB.nil |>.h Tryz.func141 (by kernel_rfl) bc_ok
noncomputable def f826v1F (k : Nat) (x : Int × List Int × Unit) : Option (List Int × Unit) :=
  bif (decide ((x.2.1.length + [x.1].length) * 1 ≤ 140737488355328) && decide (x.2.1.length + [x.1].length ≤ 9223372036854775807)) then
  some ((x.2.1 ++ [x.1]), ())
  else none
theorem f826v1Ok (k : Nat) : GnV P 126 f826v1I f826v1U (f826v1F k) :=
  gs tm (f826v1T k) Tryz.func126 (by kernel_rfl) SumsOk.nil [.dat .bool] [1] none fun _ => by kernel_rfl
/-! ## midrange/messages.substituted -/
noncomputable def f808T (k : Nat) : TB P := TB.nil |>.h Tryz.func127 (by kernel_rfl) bs_ok |>.c ((f826v1Ok k).e.or (f826v0Ok k).e) |>.c ((f825v1Ok k).e.or (f825v0Ok k).e)
noncomputable def f808p0H : Shape := ⟨[(0, .one (.str)), (1, .one (.ro .str)), (5, .one (.ptr 0 0)), (6, .one (.int .i64))], [(0, .var 167 [.nil .ptr, .emp])], 1, []⟩
noncomputable def f808p0X0 : Shape := ⟨[(0, .one (.str)), (1, .one (.ro .str)), (5, .one (.ptr 0 0)), (6, .one (.int .i64))], [(0, .var 167 [.ptr 0 0, .own 1]), (1, .row 5 (.int .u8) .plain)], 2, []⟩
noncomputable def f808p0X1 : Shape := ⟨[(0, .one (.str)), (1, .one (.ro .str)), (5, .one (.ptr 0 0)), (6, .one (.int .i64))], [(0, .var 167 [.nil .ptr, .emp])], 1, []⟩
noncomputable def f808p0N : NoteR := ⟨[0, 1, 5, 6], [], []⟩
noncomputable def f808p0M : NoteR := ⟨[0, 1, 4, 5, 6], [], []⟩
noncomputable def f808p0C : Code := firstC (codesAt 1864 (codeOf Tryz.f108) 1)
noncomputable def f808p0 {R : Type} (k : Nat) (k0 : D55 → Option R) (k1 : D56 → Option R) (v : D56) : Option R :=
  bif ((decide ((0 : Int) ≤ v.2.2.1)) && (decide (v.2.2.1 < (v.1.size : Int)))) then
  bif ((bt v.1 v.2.2.1) == (38 : Int)) then
    bif (decide ((IntKind.i64.wrap (v.2.2.1 + (1 : Int))) < (v.1.size : Int))) then
      bif ((decide ((0 : Int) ≤ (IntKind.i64.wrap (v.2.2.1 + (1 : Int))))) && (decide ((IntKind.i64.wrap (v.2.2.1 + (1 : Int))) < (v.1.size : Int)))) then
      let t1 := (decide ((bt v.1 (IntKind.i64.wrap (v.2.2.1 + (1 : Int)))) ≥ (49 : Int)))
      bif t1 then
        bif ((decide ((0 : Int) ≤ (IntKind.i64.wrap (v.2.2.1 + (1 : Int))))) && (decide ((IntKind.i64.wrap (v.2.2.1 + (1 : Int))) < (v.1.size : Int)))) then
        let t2 := (IntKind.u8.wrap ((bt v.1 (IntKind.i64.wrap (v.2.2.1 + (1 : Int)))) - (48 : Int)))
        bif (decide ((IntKind.i64.wrap t2) ≤ (v.2.1.length : Int))) then
          bif ((decide ((0 : Int) ≤ (IntKind.i64.wrap (v.2.2.1 + (1 : Int))))) && (decide ((IntKind.i64.wrap (v.2.2.1 + (1 : Int))) < (v.1.size : Int)))) then
          let t3 := (IntKind.u8.wrap ((bt v.1 (IntKind.i64.wrap (v.2.2.1 + (1 : Int)))) - (49 : Int)))
          bif ((decide ((0 : Int) ≤ t3)) && (decide (t3 < (v.2.1.length : Int)))) then
          Option.bind (f825v0F k ((v.2.1.getD (Int.toNat t3) ByteArray.empty), ())) fun y4 =>
          k0 (v.1, v.2.1, (IntKind.i64.wrap (v.2.2.1 + (1 : Int))), y4.2.1, ())
          else none
          else none
        else
        k1 (v.1, v.2.1, v.2.2.1, ())
        else none
      else
      k1 (v.1, v.2.1, v.2.2.1, ())
      else none
    else
    k1 (v.1, v.2.1, v.2.2.1, ())
  else
  k1 (v.1, v.2.1, v.2.2.1, ())
  else none
noncomputable def f808p0S (k : Nat) : Sum1 := partSum f808p0H f808p0N (fun R K v => f808p0 k (fun w => K (.exit 1) (encSt f808p0X0 w)) (fun w => K .normal (encSt f808p0X1 w)) v)
theorem f808p0E (k : Nat) (R : Type) (K : X → St → Option R) (v : f808p0H.Den) : evS tab (f808T k).t Tryz.f108.ntmps [] f808p0C 1864 (partK f808p0M K) (encSt f808p0H v) = f808p0 k (fun w => K (.exit 1) (encSt f808p0X0 w)) (fun w => K .normal (encSt f808p0X1 w)) v := by kernel_rfl
theorem f808p0I (k : Nat) : SumsOk P Tryz.f108.ntmps [] f808p0C 1864 := SumsOk.nil
theorem f808p0O (k : Nat) : SumO P Tryz.f108 1864 (f808p0S k) := sum_part tm.1 (f808T k).ok tm.2 (f808p0I k) (f808p0E k)
noncomputable def f808p1H : Shape := ⟨[(0, .one (.str)), (1, .one (.ro .str)), (5, .one (.ptr 0 0)), (6, .one (.int .i64))], [(0, .var 167 [.nil .ptr, .emp])], 1, []⟩
noncomputable def f808p1X0 : Shape := ⟨[(0, .one (.str)), (1, .one (.ro .str)), (5, .one (.ptr 0 0)), (6, .one (.int .i64))], [(0, .var 167 [.ptr 0 0, .own 1]), (1, .row 5 (.int .u8) .plain)], 2, []⟩
noncomputable def f808p1N : NoteR := ⟨[0, 1, 5, 6], [], []⟩
noncomputable def f808p1M : NoteR := ⟨[0, 1, 4, 5, 6], [], []⟩
noncomputable def f808p1C : Code := firstC (codesAt 466 (codeOf Tryz.f108) 1)
noncomputable def f808p1 {R : Type} (k : Nat) (k0 : D55 → Option R) (v : D56) : Option R :=
  f808p0 k
    (fun (w5 : D55) =>
      k0 (w5.1, w5.2.1, w5.2.2.1, w5.2.2.2.1, ()))
    (fun (w6 : D56) =>
      bif ((decide ((0 : Int) ≤ w6.2.2.1)) && (decide (w6.2.2.1 < (w6.1.size : Int)))) then
      Option.bind (f826v0F k ((bt w6.1 w6.2.2.1), ())) fun y7 =>
      k0 (w6.1, w6.2.1, w6.2.2.1, y7.1, ())
      else none)
    (v.1, v.2.1, v.2.2.1, ())
noncomputable def f808p1S (k : Nat) : Sum1 := partSum f808p1H f808p1N (fun R K v => f808p1 k (fun w => K .normal (encSt f808p1X0 w)) v)
theorem f808p1E (k : Nat) (R : Type) (K : X → St → Option R) (v : f808p1H.Den) : evS tab (f808T k).t Tryz.f108.ntmps [(1864, f808p0S k)] f808p1C 466 (partK f808p1M K) (encSt f808p1H v) = f808p1 k (fun w => K .normal (encSt f808p1X0 w)) v := by kernel_rfl
theorem f808p1I (k : Nat) : SumsOk P Tryz.f108.ntmps [(1864, f808p0S k)] f808p1C 466 := (SumsOk.nil).s (f808p0O k) (by kernel_rfl)
theorem f808p1O (k : Nat) : SumO P Tryz.f108 466 (f808p1S k) := sum_part tm.1 (f808T k).ok tm.2 (f808p1I k) (f808p1E k)
noncomputable def f808p2H : Shape := ⟨[(0, .one (.str)), (1, .one (.ro .str)), (5, .one (.ptr 0 0)), (6, .one (.int .i64))], [(0, .var 167 [.ptr 0 0, .own 1]), (1, .row 5 (.int .u8) .plain)], 2, []⟩
noncomputable def f808p2X0 : Shape := ⟨[(0, .one (.str)), (1, .one (.ro .str)), (5, .one (.ptr 0 0)), (6, .one (.int .i64))], [(0, .var 167 [.ptr 0 0, .own 1]), (1, .row 5 (.int .u8) .plain)], 2, []⟩
noncomputable def f808p2X1 : Shape := ⟨[(0, .one (.str)), (1, .one (.ro .str)), (5, .one (.ptr 0 0)), (6, .one (.int .i64))], [(0, .var 167 [.ptr 0 0, .own 1]), (1, .row 5 (.int .u8) .plain)], 2, []⟩
noncomputable def f808p2N : NoteR := ⟨[0, 1, 5, 6], [], []⟩
noncomputable def f808p2M : NoteR := ⟨[0, 1, 4, 5, 6], [], []⟩
noncomputable def f808p2C : Code := firstC (codesAt 1864 (codeOf Tryz.f108) 1)
noncomputable def f808p2 {R : Type} (k : Nat) (k0 : D55 → Option R) (k1 : D55 → Option R) (v : D55) : Option R :=
  bif ((decide ((0 : Int) ≤ v.2.2.1)) && (decide (v.2.2.1 < (v.1.size : Int)))) then
  bif ((bt v.1 v.2.2.1) == (38 : Int)) then
    bif (decide ((IntKind.i64.wrap (v.2.2.1 + (1 : Int))) < (v.1.size : Int))) then
      bif ((decide ((0 : Int) ≤ (IntKind.i64.wrap (v.2.2.1 + (1 : Int))))) && (decide ((IntKind.i64.wrap (v.2.2.1 + (1 : Int))) < (v.1.size : Int)))) then
      let t9 := (decide ((bt v.1 (IntKind.i64.wrap (v.2.2.1 + (1 : Int)))) ≥ (49 : Int)))
      bif t9 then
        bif ((decide ((0 : Int) ≤ (IntKind.i64.wrap (v.2.2.1 + (1 : Int))))) && (decide ((IntKind.i64.wrap (v.2.2.1 + (1 : Int))) < (v.1.size : Int)))) then
        let t10 := (IntKind.u8.wrap ((bt v.1 (IntKind.i64.wrap (v.2.2.1 + (1 : Int)))) - (48 : Int)))
        bif (decide ((IntKind.i64.wrap t10) ≤ (v.2.1.length : Int))) then
          bif ((decide ((0 : Int) ≤ (IntKind.i64.wrap (v.2.2.1 + (1 : Int))))) && (decide ((IntKind.i64.wrap (v.2.2.1 + (1 : Int))) < (v.1.size : Int)))) then
          let t11 := (IntKind.u8.wrap ((bt v.1 (IntKind.i64.wrap (v.2.2.1 + (1 : Int)))) - (49 : Int)))
          bif ((decide ((0 : Int) ≤ t11)) && (decide (t11 < (v.2.1.length : Int)))) then
          Option.bind (f825v1F k ((v.2.1.getD (Int.toNat t11) ByteArray.empty), v.2.2.2.1, ())) fun y12 =>
          k0 (v.1, v.2.1, (IntKind.i64.wrap (v.2.2.1 + (1 : Int))), y12.2.1, ())
          else none
          else none
        else
        k1 (v.1, v.2.1, v.2.2.1, v.2.2.2.1, ())
        else none
      else
      k1 (v.1, v.2.1, v.2.2.1, v.2.2.2.1, ())
      else none
    else
    k1 (v.1, v.2.1, v.2.2.1, v.2.2.2.1, ())
  else
  k1 (v.1, v.2.1, v.2.2.1, v.2.2.2.1, ())
  else none
noncomputable def f808p2S (k : Nat) : Sum1 := part2Sum f808p2H f808p2N (f808p0S k) (fun R K v => f808p2 k (fun w => K (.exit 1) (encSt f808p2X0 w)) (fun w => K .normal (encSt f808p2X1 w)) v)
theorem f808p2E (k : Nat) (R : Type) (K : X → St → Option R) (v : f808p2H.Den) : evS tab (f808T k).t Tryz.f108.ntmps [] f808p2C 1864 (partK f808p2M K) (encSt f808p2H v) = f808p2 k (fun w => K (.exit 1) (encSt f808p2X0 w)) (fun w => K .normal (encSt f808p2X1 w)) v := by kernel_rfl
theorem f808p2I (k : Nat) : SumsOk P Tryz.f108.ntmps [] f808p2C 1864 := SumsOk.nil
theorem f808p2O (k : Nat) : SumO P Tryz.f108 1864 (f808p2S k) := part2_ok tm.1 (f808T k).ok tm.2 (f808p2I k) (f808p0O k) (f808p2E k)
noncomputable def f808p3H : Shape := ⟨[(0, .one (.str)), (1, .one (.ro .str)), (5, .one (.ptr 0 0)), (6, .one (.int .i64))], [(0, .var 167 [.ptr 0 0, .own 1]), (1, .row 5 (.int .u8) .plain)], 2, []⟩
noncomputable def f808p3X0 : Shape := ⟨[(0, .one (.str)), (1, .one (.ro .str)), (5, .one (.ptr 0 0)), (6, .one (.int .i64))], [(0, .var 167 [.ptr 0 0, .own 1]), (1, .row 5 (.int .u8) .plain)], 2, []⟩
noncomputable def f808p3N : NoteR := ⟨[0, 1, 5, 6], [], []⟩
noncomputable def f808p3M : NoteR := ⟨[0, 1, 4, 5, 6], [], []⟩
noncomputable def f808p3C : Code := firstC (codesAt 466 (codeOf Tryz.f108) 1)
noncomputable def f808p3 {R : Type} (k : Nat) (k0 : D55 → Option R) (v : D55) : Option R :=
  f808p2 k
    (fun (w13 : D55) =>
      k0 (w13.1, w13.2.1, w13.2.2.1, w13.2.2.2.1, ()))
    (fun (w14 : D55) =>
      bif ((decide ((0 : Int) ≤ w14.2.2.1)) && (decide (w14.2.2.1 < (w14.1.size : Int)))) then
      Option.bind (f826v1F k ((bt w14.1 w14.2.2.1), w14.2.2.2.1, ())) fun y15 =>
      k0 (w14.1, w14.2.1, w14.2.2.1, y15.1, ())
      else none)
    (v.1, v.2.1, v.2.2.1, v.2.2.2.1, ())
noncomputable def f808p3S (k : Nat) : Sum1 := part2Sum f808p3H f808p3N (f808p1S k) (fun R K v => f808p3 k (fun w => K .normal (encSt f808p3X0 w)) v)
theorem f808p3E (k : Nat) (R : Type) (K : X → St → Option R) (v : f808p3H.Den) : evS tab (f808T k).t Tryz.f108.ntmps [(1864, f808p2S k)] f808p3C 466 (partK f808p3M K) (encSt f808p3H v) = f808p3 k (fun w => K .normal (encSt f808p3X0 w)) v := by kernel_rfl
theorem f808p3I (k : Nat) : SumsOk P Tryz.f108.ntmps [(1864, f808p2S k)] f808p3C 466 := (SumsOk.nil).s (f808p2O k) (by kernel_rfl)
theorem f808p3O (k : Nat) : SumO P Tryz.f108 466 (f808p3S k) := part2_ok tm.1 (f808T k).ok tm.2 (f808p3I k) (f808p1O k) (f808p3E k)
noncomputable def f808l4H : Shape := ⟨[(0, .one (.str)), (1, .one (.ro .str)), (5, .one (.ptr 0 0)), (6, .one (.int .i64))], [(0, .var 167 [.ptr 0 0, .own 1]), (1, .row 5 (.int .u8) .plain)], 2, []⟩
noncomputable def f808l4X0 : Shape := ⟨[(5, .one (.ptr 0 0))], [(0, .var 167 [.ptr 0 0, .own 1]), (1, .row 5 (.int .u8) .plain)], 2, []⟩
noncomputable def f808l4N : NoteR := ⟨[0, 1, 5, 6], [], []⟩
noncomputable def f808l4M : NoteR := ⟨[4, 5], [], []⟩
noncomputable def f808l4C : Code := firstC (codesAt 58 (codeOf Tryz.f108) 1)
noncomputable def f808l4s {R : Type} (k : Nat) (rec : D55 → Option R) (k0 : List Int × Unit → Option R) (v : D55) : Option R :=
  bif (decide (v.2.2.1 < (v.1.size : Int))) then
    f808p3 k
      (fun (w16 : D55) =>
        rec (w16.1, w16.2.1, (IntKind.i64.wrap (w16.2.2.1 + (1 : Int))), w16.2.2.2.1, ()))
      (v.1, v.2.1, v.2.2.1, v.2.2.2.1, ())
  else
  k0 (v.2.2.2.1, ())
noncomputable def f808l4 {R : Type} (k : Nat) (k0 : List Int × Unit → Option R) (v : D55) : Option R := iterS (fun rec v => f808l4s k rec k0 v) k v
noncomputable def f808l4S (k : Nat) : Sum1 := loopSum f808l4H f808l4N k (fun R rec K v => f808l4s k rec (fun w => K (.exit 0) (encSt f808l4X0 w)) v)
theorem f808l4E (k : Nat) (R : Type) (rec : St → Option R) (K : X → St → Option R) (v : f808l4H.Den) : evS tab (f808T k).t Tryz.f108.ntmps [(1864, f808p2S k), (466, f808p3S k)] (bodyOf f808l4C) 116 (bodyK f808l4N f808l4M rec K) (encSt f808l4H v) = f808l4s k (fun v => rec (encSt f808l4H v)) (fun w => K (.exit 0) (encSt f808l4X0 w)) v := by kernel_rfl
theorem f808l4I (k : Nat) : SumsOk P Tryz.f108.ntmps [(1864, f808p2S k), (466, f808p3S k)] (bodyOf f808l4C) 116 := ((SumsOk.nil).s (f808p3O k) (by kernel_rfl)).s (f808p2O k) (by kernel_rfl)
theorem f808l4O (k : Nat) : SumO P Tryz.f108 58 (f808l4S k) := (show SumOk P Tryz.f108.ntmps f808l4C (f808l4S k) from (show f808l4C = .loop (bodyOf f808l4C) by kernel_rfl) ▸ sum_loop tm.1 (f808T k).ok tm.2 (f808l4I k) (f808l4E k))
noncomputable def f808l5H : Shape := ⟨[(0, .one (.str)), (1, .one (.ro .str)), (5, .one (.ptr 0 0)), (6, .one (.int .i64))], [(0, .var 167 [.nil .ptr, .emp])], 1, []⟩
noncomputable def f808l5X0 : Shape := ⟨[(5, .one (.ptr 0 0))], [(0, .var 167 [.ptr 0 0, .own 1]), (1, .row 5 (.int .u8) .plain)], 2, []⟩
noncomputable def f808l5X1 : Shape := ⟨[(5, .one (.ptr 0 0))], [(0, .var 167 [.nil .ptr, .emp])], 1, []⟩
noncomputable def f808l5N : NoteR := ⟨[0, 1, 5, 6], [], []⟩
noncomputable def f808l5M : NoteR := ⟨[4, 5], [], []⟩
noncomputable def f808l5C : Code := firstC (codesAt 58 (codeOf Tryz.f108) 1)
noncomputable def f808l5s {R : Type} (k : Nat) (rec : D56 → Option R) (k0 : List Int × Unit → Option R) (k1 : Unit → Option R) (v : D56) : Option R :=
  bif (decide (v.2.2.1 < (v.1.size : Int))) then
    f808p1 k
      (fun (w8 : D55) =>
        f808l4 k
          (fun (w17 : List Int × Unit) =>
            k0 (w17.1, ()))
          (w8.1, w8.2.1, (IntKind.i64.wrap (w8.2.2.1 + (1 : Int))), w8.2.2.2.1, ()))
      (v.1, v.2.1, v.2.2.1, ())
  else
  k1 (())
noncomputable def f808l5 {R : Type} (k : Nat) (k0 : List Int × Unit → Option R) (k1 : Unit → Option R) (v : D56) : Option R := iterS (fun rec v => f808l5s k rec k0 k1 v) k v
theorem f808l4Rd (k : Nat) : SumRd P Tryz.f108.ntmps (bodyOf f808l4C) (f808l4S k) k := loop_rd tm.1 (f808T k).ok tm.2 (f808l4I k) (f808l4E k)
noncomputable def f808l5S (k : Nat) : Sum1 := loop2Sum f808l5H f808l5N (f808l4S k) k (fun R rec K v => f808l5s k rec (fun w => K (.exit 0) (encSt f808l5X0 w)) (fun w => K (.exit 0) (encSt f808l5X1 w)) v)
theorem f808l5E (k : Nat) (R : Type) (rec : f808l5H.Den → Option R) (K : X → St → Option R) (v : f808l5H.Den) : evS tab (f808T k).t Tryz.f108.ntmps [(1864, f808p2S k), (466, f808p3S k)] (bodyOf f808l5C) 116 (step2K f808l5H f808l5N f808l5M (f808l4S k) rec K) (encSt f808l5H v) = f808l5s k rec (fun w => K (.exit 0) (encSt f808l5X0 w)) (fun w => K (.exit 0) (encSt f808l5X1 w)) v := by kernel_rfl
theorem f808l5I (k : Nat) : SumsOk P Tryz.f108.ntmps [(1864, f808p2S k), (466, f808p3S k)] (bodyOf f808l5C) 116 := ((SumsOk.nil).s (f808p3O k) (by kernel_rfl)).s (f808p2O k) (by kernel_rfl)
theorem f808l5Rd (k : Nat) : SumRd P Tryz.f108.ntmps (bodyOf f808l5C) (f808l5S k) (k + (k)) := loop2_rd tm.1 (f808T k).ok tm.2 (f808l5I k) ((show bodyOf f808l4C = bodyOf f808l5C by kernel_rfl) ▸ f808l4Rd k) (f808l5E k)
theorem f808l5O (k : Nat) : SumO P Tryz.f108 58 (f808l5S k) := (show SumOk P Tryz.f108.ntmps f808l5C (f808l5S k) from (show f808l5C = .loop (bodyOf f808l5C) by kernel_rfl) ▸ (f808l5Rd k).ok)
noncomputable def f808p6 {R : Type} (k : Nat) (k0 : List Int × Unit → Option R) (k1 : Unit → Option R) (v : D58) : Option R :=
  f808l5 k
    (fun (w18 : List Int × Unit) =>
      k0 (w18.1, ()))
    (fun (w19 : Unit) =>
      k1 (()))
    (v.1, v.2.1, (0 : Int), ())
noncomputable def f808p6S (k : Nat) := partSum ⟨[(0, .one (.str)), (1, .one (.ro .str)), (5, .one (.ptr 0 0))], [(0, .var 167 [.nil .ptr, .emp])], 1, []⟩ ⟨[0, 1, 5], [], []⟩ fun R K v => f808p6 k (fun w => K .normal (encSt ⟨[(5, .one (.ptr 0 0))], [(0, .var 167 [.ptr 0 0, .own 1]), (1, .row 5 (.int .u8) .plain)], 2, []⟩ w)) (fun w => K .normal (encSt ⟨[(5, .one (.ptr 0 0))], [(0, .var 167 [.nil .ptr, .emp])], 1, []⟩ w)) v
theorem f808p6O (k : Nat) : SumO P Tryz.f108 14 (f808p6S k) := pt tm (f808T k) ⟨[4, 5], [], []⟩ (SumsOk.nil |>.s (f808l5O k) (by kernel_rfl) |>.s (f808p3O k) (by kernel_rfl) |>.s (f808p2O k) (by kernel_rfl)) fun _ _ _ => by kernel_rfl
noncomputable def f808F (k : Nat) (x : D59) : Option (ByteArray) :=
  f808p6 k
    (fun (w20 : List Int × Unit) =>
      bif (List.all w20.1 fun x => decide ((0 : Int) ≤ x) && decide (x ≤ 255)) then
      some (strOfNums w20.1)
      else none)
    (fun (w21 : Unit) =>
      some ByteArray.empty)
    (x.1, x.2, ())
theorem f808Ok (k : Nat) : FnV P 108 [.dat .str, .dat (.slice .str)] [.dat .str] (f808F k) :=
  fs tm (f808T k) Tryz.func108 (by kernel_rfl) (SumsOk.nil |>.s (f808p6O k) (by kernel_rfl) |>.s (f808l5O k) (by kernel_rfl) |>.s (f808p3O k) (by kernel_rfl) |>.s (f808p2O k) (by kernel_rfl)) none fun _ => by kernel_rfl
/-! ## midrange/messages.texts -/
noncomputable def f779T (k : Nat) : TB P := TB.nil |>.u (f808Ok k) |>.u (f807Ok k)
noncomputable def f779F (k : Nat) (x : D13 × ByteArray) : Option (D60) :=
  bif (decide ((x.2.size : Int) > (512 : Int))) then
    some (ByteArray.empty, ByteArray.empty, (2 : Int))
  else
  Option.bind (f807F k (x.1.2.2.2.2.1, x.2)) fun y1 =>
  Option.bind (f808F k (x.1.2.2.1, y1)) fun y2 =>
  Option.bind (f808F k (x.1.2.2.2.1, y1)) fun y3 =>
  bif (decide ((y2.size : Int) > (256 : Int))) then
    some (ByteArray.empty, ByteArray.empty, (2 : Int))
  else
  bif (decide ((y3.size : Int) > (256 : Int))) then
    some (ByteArray.empty, ByteArray.empty, (2 : Int))
  else
  some (y2, y3, (0 : Int))
theorem f779Ok (k : Nat) : FnV P 79 [.agg Y10, .dat .str] [.dat .str, .dat .str, .dat (.int .i64)] (f779F k) :=
  fs tm (f779T k) Tryz.func79 (by kernel_rfl) SumsOk.nil none fun _ => by kernel_rfl
/-! ## midrange/messages.textOf -/
noncomputable def f753T (k : Nat) : TB P := TB.nil |>.u (f797Ok k) |>.u (f790Ok k) |>.u (f779Ok k) |>.u (f761Ok k) |>.u (f760Ok k)
noncomputable def f753p0 {R : Type} (k : Nat) (k0 : D61 → Option R) (k1 : D62 → Option R) (v : D62) : Option R :=
  bif (strEq v.2.2.2.2.1 ByteArray.empty) then
    Option.bind (f761F k ((strEq v.2.2.2.2.2.2.1 ByteArray.empty), (1 : Int))) fun y1 =>
    bif (!strEq v.2.2.2.2.1 ByteArray.empty) then
      bif (!strEq v.2.2.2.2.2.2.1 ByteArray.empty) then
        Option.bind (f761F k (true, (5 : Int))) fun y2 =>
        Option.bind (f760F k [y1, y2]) fun y3 =>
        bif (y3 != (0 : Int)) then
          k0 (ByteArray.empty, y3, v.1, v.2.1, v.2.2.1, v.2.2.2.1, v.2.2.2.2.1, v.2.2.2.2.2.1, v.2.2.2.2.2.2.1, v.2.2.2.2.2.2.2.1, ())
        else
        k1 (v.1, v.2.1, v.2.2.1, v.2.2.2.1, v.2.2.2.2.1, v.2.2.2.2.2.1, v.2.2.2.2.2.2.1, v.2.2.2.2.2.2.2.1, ())
      else
      bif (strEq v.2.2.2.2.1 ByteArray.empty) then
        Option.bind (f761F k ((!strEq v.2.2.2.2.2.1 ByteArray.empty), (5 : Int))) fun y4 =>
        Option.bind (f760F k [y1, y4]) fun y5 =>
        bif (y5 != (0 : Int)) then
          k0 (ByteArray.empty, y5, v.1, v.2.1, v.2.2.1, v.2.2.2.1, v.2.2.2.2.1, v.2.2.2.2.2.1, v.2.2.2.2.2.2.1, v.2.2.2.2.2.2.2.1, ())
        else
        k1 (v.1, v.2.1, v.2.2.1, v.2.2.2.1, v.2.2.2.2.1, v.2.2.2.2.2.1, v.2.2.2.2.2.2.1, v.2.2.2.2.2.2.2.1, ())
      else
      Option.bind (f761F k (false, (5 : Int))) fun y6 =>
      Option.bind (f760F k [y1, y6]) fun y7 =>
      bif (y7 != (0 : Int)) then
        k0 (ByteArray.empty, y7, v.1, v.2.1, v.2.2.1, v.2.2.2.1, v.2.2.2.2.1, v.2.2.2.2.2.1, v.2.2.2.2.2.2.1, v.2.2.2.2.2.2.2.1, ())
      else
      k1 (v.1, v.2.1, v.2.2.1, v.2.2.2.1, v.2.2.2.2.1, v.2.2.2.2.2.1, v.2.2.2.2.2.2.1, v.2.2.2.2.2.2.2.1, ())
    else
    bif (strEq v.2.2.2.2.1 ByteArray.empty) then
      Option.bind (f761F k ((!strEq v.2.2.2.2.2.1 ByteArray.empty), (5 : Int))) fun y8 =>
      Option.bind (f760F k [y1, y8]) fun y9 =>
      bif (y9 != (0 : Int)) then
        k0 (ByteArray.empty, y9, v.1, v.2.1, v.2.2.1, v.2.2.2.1, v.2.2.2.2.1, v.2.2.2.2.2.1, v.2.2.2.2.2.2.1, v.2.2.2.2.2.2.2.1, ())
      else
      k1 (v.1, v.2.1, v.2.2.1, v.2.2.2.1, v.2.2.2.2.1, v.2.2.2.2.2.1, v.2.2.2.2.2.2.1, v.2.2.2.2.2.2.2.1, ())
    else
    Option.bind (f761F k (false, (5 : Int))) fun y10 =>
    Option.bind (f760F k [y1, y10]) fun y11 =>
    bif (y11 != (0 : Int)) then
      k0 (ByteArray.empty, y11, v.1, v.2.1, v.2.2.1, v.2.2.2.1, v.2.2.2.2.1, v.2.2.2.2.2.1, v.2.2.2.2.2.2.1, v.2.2.2.2.2.2.2.1, ())
    else
    k1 (v.1, v.2.1, v.2.2.1, v.2.2.2.1, v.2.2.2.2.1, v.2.2.2.2.2.1, v.2.2.2.2.2.2.1, v.2.2.2.2.2.2.2.1, ())
  else
  Option.bind (f761F k (false, (1 : Int))) fun y12 =>
  bif (!strEq v.2.2.2.2.1 ByteArray.empty) then
    bif (!strEq v.2.2.2.2.2.2.1 ByteArray.empty) then
      Option.bind (f761F k (true, (5 : Int))) fun y13 =>
      Option.bind (f760F k [y12, y13]) fun y14 =>
      bif (y14 != (0 : Int)) then
        k0 (ByteArray.empty, y14, v.1, v.2.1, v.2.2.1, v.2.2.2.1, v.2.2.2.2.1, v.2.2.2.2.2.1, v.2.2.2.2.2.2.1, v.2.2.2.2.2.2.2.1, ())
      else
      k1 (v.1, v.2.1, v.2.2.1, v.2.2.2.1, v.2.2.2.2.1, v.2.2.2.2.2.1, v.2.2.2.2.2.2.1, v.2.2.2.2.2.2.2.1, ())
    else
    bif (strEq v.2.2.2.2.1 ByteArray.empty) then
      Option.bind (f761F k ((!strEq v.2.2.2.2.2.1 ByteArray.empty), (5 : Int))) fun y15 =>
      Option.bind (f760F k [y12, y15]) fun y16 =>
      bif (y16 != (0 : Int)) then
        k0 (ByteArray.empty, y16, v.1, v.2.1, v.2.2.1, v.2.2.2.1, v.2.2.2.2.1, v.2.2.2.2.2.1, v.2.2.2.2.2.2.1, v.2.2.2.2.2.2.2.1, ())
      else
      k1 (v.1, v.2.1, v.2.2.1, v.2.2.2.1, v.2.2.2.2.1, v.2.2.2.2.2.1, v.2.2.2.2.2.2.1, v.2.2.2.2.2.2.2.1, ())
    else
    Option.bind (f761F k (false, (5 : Int))) fun y17 =>
    Option.bind (f760F k [y12, y17]) fun y18 =>
    bif (y18 != (0 : Int)) then
      k0 (ByteArray.empty, y18, v.1, v.2.1, v.2.2.1, v.2.2.2.1, v.2.2.2.2.1, v.2.2.2.2.2.1, v.2.2.2.2.2.2.1, v.2.2.2.2.2.2.2.1, ())
    else
    k1 (v.1, v.2.1, v.2.2.1, v.2.2.2.1, v.2.2.2.2.1, v.2.2.2.2.2.1, v.2.2.2.2.2.2.1, v.2.2.2.2.2.2.2.1, ())
  else
  bif (strEq v.2.2.2.2.1 ByteArray.empty) then
    Option.bind (f761F k ((!strEq v.2.2.2.2.2.1 ByteArray.empty), (5 : Int))) fun y19 =>
    Option.bind (f760F k [y12, y19]) fun y20 =>
    bif (y20 != (0 : Int)) then
      k0 (ByteArray.empty, y20, v.1, v.2.1, v.2.2.1, v.2.2.2.1, v.2.2.2.2.1, v.2.2.2.2.2.1, v.2.2.2.2.2.2.1, v.2.2.2.2.2.2.2.1, ())
    else
    k1 (v.1, v.2.1, v.2.2.1, v.2.2.2.1, v.2.2.2.2.1, v.2.2.2.2.2.1, v.2.2.2.2.2.2.1, v.2.2.2.2.2.2.2.1, ())
  else
  Option.bind (f761F k (false, (5 : Int))) fun y21 =>
  Option.bind (f760F k [y12, y21]) fun y22 =>
  bif (y22 != (0 : Int)) then
    k0 (ByteArray.empty, y22, v.1, v.2.1, v.2.2.1, v.2.2.2.1, v.2.2.2.2.1, v.2.2.2.2.2.1, v.2.2.2.2.2.2.1, v.2.2.2.2.2.2.2.1, ())
  else
  k1 (v.1, v.2.1, v.2.2.1, v.2.2.2.1, v.2.2.2.2.1, v.2.2.2.2.2.1, v.2.2.2.2.2.2.1, v.2.2.2.2.2.2.2.1, ())
noncomputable def f753p0S (k : Nat) := partSum ⟨[(2, .one (.ptr 0 0)), (3, .one (.ptr 1 0))], [(0, .var 25 [.ro Y10, .ro (.pair .str Y5)]), (1, .var 27 [.str, .str, .str, .str, .str, .bool])], 2, []⟩ ⟨[2, 3], [], []⟩ fun R K v => f753p0 k (fun w => K .ret (encSt ⟨[(2, .one (.ptr 0 0)), (3, .one (.ptr 1 0)), (4, .one (.str)), (5, .one (.int .i64))], [(0, .var 25 [.ro Y10, .ro (.pair .str Y5)]), (1, .var 27 [.str, .str, .str, .str, .str, .bool])], 2, []⟩ w)) (fun w => K .normal (encSt ⟨[(2, .one (.ptr 0 0)), (3, .one (.ptr 1 0))], [(0, .var 25 [.ro Y10, .ro (.pair .str Y5)]), (1, .var 27 [.str, .str, .str, .str, .str, .bool])], 2, []⟩ w)) v
theorem f753p0O (k : Nat) : SumO P Tryz.f53 6 (f753p0S k) := pt tm (f753T k) ⟨[2, 3, 4, 5], [], []⟩ SumsOk.nil fun _ _ _ => by kernel_rfl
noncomputable def f753F (k : Nat) (x : D14 × (ByteArray × D64)) : Option (ByteArray × Int) :=
  f753p0 k
    (fun (w23 : D61) =>
      some (w23.1, w23.2.1))
    (fun (w24 : D62) =>
      bif (strEq w24.2.2.2.2.1 ByteArray.empty) then
        Option.bind (f797F k (w24.2.2.2.2.2.2.1, (256 : Int))) fun y25 =>
        some (w24.2.2.2.2.2.2.1, y25)
      else
      Option.bind (f790F k (w24.1, w24.2.2.2.2.1)) fun y26 =>
      bif (decide (y26 < (0 : Int))) then
        some (ByteArray.empty, (11 : Int))
      else
      bif ((decide ((0 : Int) ≤ y26)) && (decide (y26 < (w24.1.length : Int)))) then
      let t27 := (w24.1.getD (Int.toNat y26) (ByteArray.empty, ((0 : Int), (ByteArray.empty, (ByteArray.empty, ([], (ByteArray.empty, [])))))))
      Option.bind (f779F k ((t27.1, (t27.2.1, (t27.2.2.1, (t27.2.2.2.1, (t27.2.2.2.2.1, (t27.2.2.2.2.2.1, t27.2.2.2.2.2.2)))))), w24.2.2.2.2.2.1)) fun y28 =>
      Option.bind (f761F k ((strEq y28.1 ByteArray.empty), (1 : Int))) fun y29 =>
      Option.bind (f760F k [y28.2.2, y29]) fun y30 =>
      some (y28.1, y30)
      else none)
    (x.1.1, x.1.2, x.2.1, x.2.2.1, x.2.2.2.1, x.2.2.2.2.1, x.2.2.2.2.2.1, x.2.2.2.2.2.2, ())
theorem f753Ok (k : Nat) : FnV P 53 [.agg Y11, .agg (.pair .str Y14)] [.dat .str, .dat (.int .i64)] (f753F k) :=
  fs tm (f753T k) Tryz.func53 (by kernel_rfl) (SumsOk.nil |>.s (f753p0O k) (by kernel_rfl)) none fun _ => by kernel_rfl
/-! ## slices.Delete[[]midrange/api.QueuedMessage,midrange/api.QueuedMessage] -/
noncomputable def f802F (k : Nat) (x : D65) : Option (List (Int × (Int × D4))) :=
  none
theorem f802Ok (k : Nat) : FnV P 102 [.dat (.slice Y3), .dat (.int .i64), .dat (.int .i64)] [.own 42 Y3] (f802F k) :=
  fs tm TB.nil Tryz.func102 (by kernel_rfl) SumsOk.nil none fun _ => by kernel_rfl
theorem f798V (k : Nat) : FnV P 98 [.dat (.slice (.pair .str Y5))] [.own 69 (.pair .str Y5)] (f798F k) := ⟨f798B, f798Ok k⟩
theorem f799V (k : Nat) : FnV P 99 [.dat (.slice Y3)] [.own 42 Y3] (f799F k) := ⟨f799B, f799Ok k⟩
/-! ## midrange/messages.own -/
noncomputable def f754T (k : Nat) : TB P := TB.nil |>.u (f799V k) |>.p (f798V k)
noncomputable def f754l0s {R : Type} (k : Nat) (rec : D67 → Option R) (k0 : D66 → Option R) (v : D67) : Option R :=
  bif (decide (v.2.1 < v.1)) then
    bif ((decide ((0 : Int) ≤ v.2.1)) && (decide (v.2.1 < (v.2.2.2.1.length : Int)))) then
    let t2 := (v.2.2.2.1.getD (Int.toNat v.2.1) (ByteArray.empty, ((0 : Int), (false, ((0 : Int), []))))).2.2.2.2
    Option.bind (f799F k t2) fun y3 =>
    bif ((decide ((0 : Int) ≤ v.2.1)) && (decide (v.2.1 < (v.2.2.2.1.length : Int)))) then
    let t4 := (v.2.2.2.1.set (Int.toNat v.2.1) ((v.2.2.2.1.getD (Int.toNat v.2.1) (ByteArray.empty, ((0 : Int), (false, ((0 : Int), []))))).1, ((v.2.2.2.1.getD (Int.toNat v.2.1) (ByteArray.empty, ((0 : Int), (false, ((0 : Int), []))))).2.1, ((v.2.2.2.1.getD (Int.toNat v.2.1) (ByteArray.empty, ((0 : Int), (false, ((0 : Int), []))))).2.2.1, ((v.2.2.2.1.getD (Int.toNat v.2.1) (ByteArray.empty, ((0 : Int), (false, ((0 : Int), []))))).2.2.2.1, y3)))))
    rec (v.1, (IntKind.i64.wrap (v.2.1 + (1 : Int))), v.2.2.1, t4, v.2.2.2.2.1, v.2.2.2.2.2.1, ())
    else none
    else none
  else
  k0 (v.2.2.1, v.2.2.2.1, v.2.2.2.2.1, v.2.2.2.2.2.1, ())
noncomputable def f754l0 {R : Type} (k : Nat) (k0 : D66 → Option R) (v : D67) : Option R := iterS (fun rec v => f754l0s k rec k0 v) k v
noncomputable def f754l0S (k : Nat) := loopSum ⟨[(1, .one (.ptr 0 0)), (2, .one (.ptr 1 0)), (10, .one (.int .i64)), (11, .one (.int .i64))], [(0, .var 25 [.ro Y10, .own 2]), (1, .var 25 [.own 3, .own 4]), (2, .row 69 (.pair .str Y5) .plain), (3, .row 82 Y10 .plain), (4, .row 69 (.pair .str Y5) .plain)], 5, []⟩ ⟨[1, 2, 10, 11], [], []⟩ k fun R rec K v => f754l0s k rec (fun w => K (.exit 0) (encSt ⟨[(1, .one (.ptr 0 0)), (2, .one (.ptr 1 0))], [(0, .var 25 [.ro Y10, .own 2]), (1, .var 25 [.own 3, .own 4]), (2, .row 69 (.pair .str Y5) .plain), (3, .row 82 Y10 .plain), (4, .row 69 (.pair .str Y5) .plain)], 5, []⟩ w)) v
theorem f754l0O (k : Nat) : SumO P Tryz.f54 58 (f754l0S k) := lp tm (f754T k) ⟨[1, 2], [], []⟩ SumsOk.nil (by kernel_rfl) fun _ _ _ _ => by kernel_rfl
noncomputable def f754F (k : Nat) (x : D14) : Option (D14) :=
  Option.bind (f798F k x.2) fun y1 =>
  f754l0 k
    (fun (w5 : D66) =>
      some (w5.1, w5.2.1))
    ((y1.length : Int), (0 : Int), x.1, y1, [], [], ())
theorem f754Ok (k : Nat) : FnV P 54 [.agg Y11] [.agg Y11] (f754F k) :=
  fs tm (f754T k) Tryz.func54 (by kernel_rfl) (SumsOk.nil |>.s (f754l0O k) (by kernel_rfl)) none fun _ => by kernel_rfl
/-! ## midrange/messages.isOpen -/
noncomputable def f784F (k : Nat) (x : (Int × (Int × D4))) : Option (Bool) :=
  bif (x.2.1 == (1 : Int)) then
    some (!x.2.2.2.2.2.2.1)
  else
  some false
theorem f784Ok (k : Nat) : FnV P 84 [.agg Y3] [.dat .bool] (f784F k) :=
  fs tm TB.nil Tryz.func84 (by kernel_rfl) SumsOk.nil none fun _ => by kernel_rfl
/-! ## midrange/messages.put$1 -/
noncomputable def f801T (k : Nat) : TB P := TB.nil |>.u (f784Ok k)
noncomputable def f801F (k : Nat) (x : (Int × (Int × D4))) : Option (Bool) :=
  Option.bind (f784F k (x.1, (x.2.1, (x.2.2.1, (x.2.2.2.1, (x.2.2.2.2.1, (x.2.2.2.2.2.1, (x.2.2.2.2.2.2.1, x.2.2.2.2.2.2.2)))))))) fun y1 =>
  some (!y1)
theorem f801Ok (k : Nat) : FnV P 101 [.agg Y3] [.dat .bool] (f801F k) :=
  fs tm (f801T k) Tryz.func101 (by kernel_rfl) SumsOk.nil none fun _ => by kernel_rfl
/-! ## slices.IndexFunc[[]midrange/api.QueuedMessage,midrange/api.QueuedMessage], handed what it may write -/
noncomputable def f800v0I : Shape := ⟨[(0, .one (.ro Y3)), (1, .one (.fn 101 []))], [], 0, []⟩
noncomputable def f800v0U : Shape := ⟨[(0, .one (.int .i64))], [], 0, []⟩
noncomputable def f800v0T (k : Nat) : TB P := TB.nil |>.u (f801Ok k)
noncomputable def f800v0l0s {R : Type} (k : Nat) (rec : D68 → Option R) (k0 : Int × Unit → Option R) (k1 : Unit → Option R) (v : D68) : Option R :=
  bif (decide (v.2.2.1 < v.2.1)) then
    bif ((decide ((0 : Int) ≤ v.2.2.1)) && (decide (v.2.2.1 < (v.1.length : Int)))) then
    let t1 := (v.1.getD (Int.toNat v.2.2.1) ((0 : Int), ((0 : Int), (ByteArray.empty, (ByteArray.empty, (ByteArray.empty, (false, (false, (0 : Int)))))))))
    Option.bind (f801F k (t1.1, (t1.2.1, (t1.2.2.1, (t1.2.2.2.1, (t1.2.2.2.2.1, (t1.2.2.2.2.2.1, (t1.2.2.2.2.2.2.1, t1.2.2.2.2.2.2.2)))))))) fun y2 =>
    bif y2 then
      k0 (v.2.2.1, ())
    else
    rec (v.1, v.2.1, (IntKind.i64.wrap (v.2.2.1 + (1 : Int))), ())
    else none
  else
  k1 (())
noncomputable def f800v0l0 {R : Type} (k : Nat) (k0 : Int × Unit → Option R) (k1 : Unit → Option R) (v : D68) : Option R := iterS (fun rec v => f800v0l0s k rec k0 k1 v) k v
noncomputable def f800v0l0S (k : Nat) := loopSum ⟨[(0, .one (.ro Y3)), (1, .one (.fn 101 [])), (7, .one (.int .i64)), (8, .one (.int .i64))], [], 0, []⟩ ⟨[0, 1, 7, 8], [], []⟩ k fun R rec K v => f800v0l0s k rec (fun w => K .ret (encSt ⟨[(4, .one (.int .i64))], [], 0, []⟩ w)) (fun w => K (.exit 0) (encSt ⟨[], [], 0, []⟩ w)) v
theorem f800v0l0O (k : Nat) : SumO P Tryz.f100 26 (f800v0l0S k) := lp tm (f800v0T k) ⟨[4], [], []⟩ SumsOk.nil (by kernel_rfl) fun _ _ _ _ => by kernel_rfl
noncomputable def f800v0F (k : Nat) (x : D69) : Option (Int × Unit) :=
  f800v0l0 k
    (fun (w3 : Int × Unit) =>
      some (w3.1, ()))
    (fun (w4 : Unit) =>
      some ((-1 : Int), ()))
    (x.1, (x.1.length : Int), (0 : Int), ())
theorem f800v0Ok (k : Nat) : GnV P 100 f800v0I f800v0U (f800v0F k) :=
  gs tm (f800v0T k) Tryz.func100 (by kernel_rfl) (SumsOk.nil |>.s (f800v0l0O k) (by kernel_rfl)) [.dat .bool] [] none fun _ => by kernel_rfl
/-! ## midrange/messages.put -/
noncomputable def f755T (k : Nat) : TB P := TB.nil |>.u (f802Ok k) |>.g (f800v0Ok k) |>.u (f752Ok k)
noncomputable def f755F (k : Nat) (x : D70) : Option (Int × Int) :=
  Option.bind (f752F k ((x.1.1, x.1.2), x.2.1)) fun y1 =>
  bif ((decide ((0 : Int) ≤ y1)) && (decide (y1 < (x.1.2.length : Int)))) then
  let t2 := (x.1.2.getD (Int.toNat y1) (ByteArray.empty, ((0 : Int), (false, ((0 : Int), [])))))
  bif (t2.2.2.2.1 == (1000000 : Int)) then
    some ((0 : Int), (3 : Int))
  else
  bif ((t2.2.2.2.2.length : Int) == t2.2.1) then
    Option.bind (f800v0F k (t2.2.2.2.2, ())) fun y3 =>
    bif (!t2.2.2.1) then
      some ((0 : Int), (30 : Int))
    else
    bif (decide (y3.1 < (0 : Int))) then
      some ((0 : Int), (30 : Int))
    else
    Option.bind (f802F k (t2.2.2.2.2, y3.1, (IntKind.i64.wrap (y3.1 + (1 : Int))))) fun y4 =>
    none
  else
  none
  else none
theorem f755Ok (k : Nat) : FnV P 55 [.agg Y11, .dat .str, .agg Y3] [.dat (.int .i64), .dat (.int .i64)] (f755F k) :=
  fs tm (f755T k) Tryz.func55 (by kernel_rfl) SumsOk.nil none fun _ => by kernel_rfl
/-! ## midrange/messages.place$1 -/
noncomputable def f805F (k : Nat) (x : (Int × (Int × D4))) : Option (Bool) :=
  none
theorem f805Ok (k : Nat) : FnV P 105 [.agg Y3] [.dat .bool] (f805F k) :=
  fs tm TB.nil Tryz.func105 (by kernel_rfl) SumsOk.nil none fun _ => by kernel_rfl
/-! ## midrange/messages.place$1, handed what it may write -/
noncomputable def f805v0I : Shape := ⟨[(0, .agg [.int .i64, .int .i64, .str, .str, .str, .bool, .bool, .int .i64]), (1, .one (.ptr 0 0))], [(0, .var 3 [.int .i64])], 1, []⟩
noncomputable def f805v0U : Shape := ⟨[(0, .one (.bool))], [(0, .var 3 [.int .i64])], 1, []⟩
noncomputable def f805v0F (k : Nat) (x : D71) : Option (Bool × Int × Unit) :=
  some ((x.1 == x.2.2.2.2.2.2.2.2.1), x.2.2.2.2.2.2.2.2.1, ())
theorem f805v0Ok (k : Nat) : GnV P 105 f805v0I f805v0U (f805v0F k) :=
  gs tm TB.nil Tryz.func105 (by kernel_rfl) SumsOk.nil [.dat .bool] [] none fun _ => by kernel_rfl
/-! ## slices.IndexFunc[[]midrange/api.QueuedMessage,midrange/api.QueuedMessage], handed what it may write -/
noncomputable def f800v1I : Shape := ⟨[(0, .one (.ro Y3)), (1, .one (.fn 105 [0]))], [(0, .var 3 [.int .i64])], 1, []⟩
noncomputable def f800v1U : Shape := ⟨[(0, .one (.int .i64))], [(0, .var 3 [.int .i64])], 1, []⟩
noncomputable def f800v1T (k : Nat) : TB P := TB.nil |>.g (f805v0Ok k)
noncomputable def f800v1l0s {R : Type} (k : Nat) (rec : D72 → Option R) (k0 : Int × Int × Unit → Option R) (k1 : Int × Unit → Option R) (v : D72) : Option R :=
  bif (decide (v.2.2.1 < v.2.1)) then
    bif ((decide ((0 : Int) ≤ v.2.2.1)) && (decide (v.2.2.1 < (v.1.length : Int)))) then
    let t1 := (v.1.getD (Int.toNat v.2.2.1) ((0 : Int), ((0 : Int), (ByteArray.empty, (ByteArray.empty, (ByteArray.empty, (false, (false, (0 : Int)))))))))
    Option.bind (f805v0F k (t1.1, t1.2.1, t1.2.2.1, t1.2.2.2.1, t1.2.2.2.2.1, t1.2.2.2.2.2.1, t1.2.2.2.2.2.2.1, t1.2.2.2.2.2.2.2, v.2.2.2.1, ())) fun y2 =>
    bif y2.1 then
      k0 (v.2.2.1, y2.2.1, ())
    else
    rec (v.1, v.2.1, (IntKind.i64.wrap (v.2.2.1 + (1 : Int))), y2.2.1, ())
    else none
  else
  k1 (v.2.2.2.1, ())
noncomputable def f800v1l0 {R : Type} (k : Nat) (k0 : Int × Int × Unit → Option R) (k1 : Int × Unit → Option R) (v : D72) : Option R := iterS (fun rec v => f800v1l0s k rec k0 k1 v) k v
noncomputable def f800v1l0S (k : Nat) := loopSum ⟨[(0, .one (.ro Y3)), (1, .one (.fn 105 [0])), (7, .one (.int .i64)), (8, .one (.int .i64))], [(0, .var 3 [.int .i64])], 1, [some 0]⟩ ⟨[0, 1, 7, 8], [], []⟩ k fun R rec K v => f800v1l0s k rec (fun w => K .ret (encSt ⟨[(4, .one (.int .i64))], [(0, .var 3 [.int .i64])], 1, [some 0]⟩ w)) (fun w => K (.exit 0) (encSt ⟨[], [(0, .var 3 [.int .i64])], 1, [some 0]⟩ w)) v
theorem f800v1l0O (k : Nat) : SumO P Tryz.f100 26 (f800v1l0S k) := lp tm (f800v1T k) ⟨[4], [], []⟩ SumsOk.nil (by kernel_rfl) fun _ _ _ _ => by kernel_rfl
noncomputable def f800v1F (k : Nat) (x : D73) : Option (Int × Int × Unit) :=
  f800v1l0 k
    (fun (w3 : Int × Int × Unit) =>
      some (w3.1, w3.2.1, ()))
    (fun (w4 : Int × Unit) =>
      some ((-1 : Int), w4.1, ()))
    (x.1, (x.1.length : Int), (0 : Int), x.2.1, ())
theorem f800v1Ok (k : Nat) : GnV P 100 f800v1I f800v1U (f800v1F k) :=
  gs tm (f800v1T k) Tryz.func100 (by kernel_rfl) (SumsOk.nil |>.s (f800v1l0O k) (by kernel_rfl)) [.dat .bool] [] none fun _ => by kernel_rfl
/-! ## midrange/messages.place -/
noncomputable def f768T (k : Nat) : TB P := TB.nil |>.g (f800v1Ok k)
noncomputable def f768F (k : Nat) (x : D6 × Int) : Option (Int) :=
  Option.bind (f800v1F k (x.1.2.2.2.2, x.2, ())) fun y1 =>
  some y1.1
theorem f768Ok (k : Nat) : FnV P 68 [.agg (.pair .str Y5), .dat (.int .i64)] [.dat (.int .i64)] (f768F k) :=
  fs tm (f768T k) Tryz.func68 (by kernel_rfl) SumsOk.nil none fun _ => by kernel_rfl
/-! ## midrange/messages.answer -/
noncomputable def f771T (k : Nat) : TB P := TB.nil |>.u (f768Ok k) |>.u (f755Ok k) |>.u (f752Ok k)
noncomputable def f771F (k : Nat) (x : D74) : Option (Int) :=
  Option.bind (f755F k ((x.1.1, x.1.2), x.2.2.1.2.2.2.2.1, ((0 : Int), ((2 : Int), (ByteArray.empty, (x.2.2.2, (x.2.1, (false, (false, x.2.2.1.1))))))))) fun y1 =>
  bif (y1.2 != (0 : Int)) then
    some y1.2
  else
  Option.bind (f752F k ((x.1.1, x.1.2), x.2.1)) fun y2 =>
  bif ((decide ((0 : Int) ≤ y2)) && (decide (y2 < (x.1.2.length : Int)))) then
  let t3 := (x.1.2.getD (Int.toNat y2) (ByteArray.empty, ((0 : Int), (false, ((0 : Int), [])))))
  Option.bind (f768F k ((t3.1, (t3.2.1, (t3.2.2.1, (t3.2.2.2.1, t3.2.2.2.2)))), x.2.2.1.1)) fun y4 =>
  bif ((decide ((0 : Int) ≤ y4)) && (decide (y4 < (t3.2.2.2.2.length : Int)))) then
  let t5 := (t3.2.2.2.2.getD (Int.toNat y4) ((0 : Int), ((0 : Int), (ByteArray.empty, (ByteArray.empty, (ByteArray.empty, (false, (false, (0 : Int)))))))))
  none
  else none
  else none
theorem f771Ok (k : Nat) : FnV P 71 [.agg Y11, .dat .str, .agg Y3, .dat .str] [.dat (.int .i64)] (f771F k) :=
  fs tm (f771T k) Tryz.func71 (by kernel_rfl) SumsOk.nil none fun _ => by kernel_rfl
/-! ## midrange/messages.defaultReply -/
noncomputable def f770T (k : Nat) : TB P := TB.nil |>.u (f790Ok k)
noncomputable def f770p0 {R : Type} (k : Nat) (k0 : ByteArray × Unit → Option R) (k1 : Unit → Option R) (v : D75) : Option R :=
  Option.bind (f790F k (v.1, v.2.2.2.2.1)) fun y1 =>
  bif (decide (y1 ≥ (0 : Int))) then
    bif ((decide ((0 : Int) ≤ y1)) && (decide (y1 < (v.1.length : Int)))) then
    let t2 := (v.1.getD (Int.toNat y1) (ByteArray.empty, ((0 : Int), (ByteArray.empty, (ByteArray.empty, ([], (ByteArray.empty, [])))))))
    bif (!strEq t2.2.2.2.2.2.1 ByteArray.empty) then
      bif ((decide ((0 : Int) ≤ y1)) && (decide (y1 < (v.1.length : Int)))) then
      let t3 := (v.1.getD (Int.toNat y1) (ByteArray.empty, ((0 : Int), (ByteArray.empty, (ByteArray.empty, ([], (ByteArray.empty, [])))))))
      k0 (t3.2.2.2.2.2.1, ())
      else none
    else
    k1 (())
    else none
  else
  k1 (())
noncomputable def f770p0S (k : Nat) := partSum ⟨[(2, .one (.ptr 0 0)), (3, .one (.ptr 1 0))], [(0, .var 25 [.ro Y10, .ro (.pair .str Y5)]), (1, .var 42 [.int .i64, .int .i64, .str, .str, .str, .bool, .bool, .int .i64])], 2, []⟩ ⟨[2, 3], [], []⟩ fun R K v => f770p0 k (fun w => K .ret (encSt ⟨[(4, .one (.str))], [], 0, []⟩ w)) (fun w => K .normal (encSt ⟨[], [], 0, []⟩ w)) v
theorem f770p0O (k : Nat) : SumO P Tryz.f70 6 (f770p0S k) := pt tm (f770T k) ⟨[4], [], []⟩ SumsOk.nil fun _ _ _ => by kernel_rfl
noncomputable def f770F (k : Nat) (x : D76) : Option (ByteArray) :=
  f770p0 k
    (fun (w4 : ByteArray × Unit) =>
      some w4.1)
    (fun (w5 : Unit) =>
      some (⟨#[42, 78]⟩ : ByteArray))
    (x.1.1, x.1.2, x.2.1, x.2.2.1, x.2.2.2.1, x.2.2.2.2.1, x.2.2.2.2.2.1, x.2.2.2.2.2.2.1, x.2.2.2.2.2.2.2.1, x.2.2.2.2.2.2.2.2, ())
theorem f770Ok (k : Nat) : FnV P 70 [.agg Y11, .agg Y3] [.dat .str] (f770F k) :=
  fs tm (f770T k) Tryz.func70 (by kernel_rfl) (SumsOk.nil |>.s (f770p0O k) (by kernel_rfl)) none fun _ => by kernel_rfl
/-! ## midrange/messages.remove -/
noncomputable def f764T (k : Nat) : TB P := TB.nil |>.u (f802Ok k) |>.u (f784Ok k) |>.u (f771Ok k) |>.u (f770Ok k) |>.u (f768Ok k) |>.u (f752Ok k)
noncomputable def f764F (k : Nat) (x : D14 × ByteArray × Int) : Option (Int) :=
  Option.bind (f752F k ((x.1.1, x.1.2), x.2.1)) fun y1 =>
  bif ((decide ((0 : Int) ≤ y1)) && (decide (y1 < (x.1.2.length : Int)))) then
  let t2 := (x.1.2.getD (Int.toNat y1) (ByteArray.empty, ((0 : Int), (false, ((0 : Int), [])))))
  Option.bind (f768F k ((t2.1, (t2.2.1, (t2.2.2.1, (t2.2.2.2.1, t2.2.2.2.2)))), x.2.2)) fun y3 =>
  bif (decide (y3 < (0 : Int))) then
    some (0 : Int)
  else
  bif ((decide ((0 : Int) ≤ y3)) && (decide (y3 < (t2.2.2.2.2.length : Int)))) then
  let t4 := (t2.2.2.2.2.getD (Int.toNat y3) ((0 : Int), ((0 : Int), (ByteArray.empty, (ByteArray.empty, (ByteArray.empty, (false, (false, (0 : Int)))))))))
  Option.bind (f784F k (t4.1, (t4.2.1, (t4.2.2.1, (t4.2.2.2.1, (t4.2.2.2.2.1, (t4.2.2.2.2.2.1, (t4.2.2.2.2.2.2.1, t4.2.2.2.2.2.2.2)))))))) fun y5 =>
  bif y5 then
    Option.bind (f770F k ((x.1.1, x.1.2), (t4.1, (t4.2.1, (t4.2.2.1, (t4.2.2.2.1, (t4.2.2.2.2.1, (t4.2.2.2.2.2.1, (t4.2.2.2.2.2.2.1, t4.2.2.2.2.2.2.2))))))))) fun y6 =>
    Option.bind (f771F k ((x.1.1, x.1.2), x.2.1, (t4.1, (t4.2.1, (t4.2.2.1, (t4.2.2.2.1, (t4.2.2.2.2.1, (t4.2.2.2.2.2.1, (t4.2.2.2.2.2.2.1, t4.2.2.2.2.2.2.2))))))), y6)) fun y7 =>
    bif (y7 != (0 : Int)) then
      some y7
    else
    Option.bind (f768F k ((t2.1, (t2.2.1, (t2.2.2.1, (t2.2.2.2.1, t2.2.2.2.2)))), x.2.2)) fun y8 =>
    Option.bind (f802F k (t2.2.2.2.2, y8, (IntKind.i64.wrap (y8 + (1 : Int))))) fun y9 =>
    none
  else
  Option.bind (f802F k (t2.2.2.2.2, y3, (IntKind.i64.wrap (y3 + (1 : Int))))) fun y10 =>
  none
  else none
  else none
theorem f764Ok (k : Nat) : FnV P 64 [.agg Y11, .dat .str, .dat (.int .i64)] [.dat (.int .i64)] (f764F k) :=
  fs tm (f764T k) Tryz.func64 (by kernel_rfl) SumsOk.nil none fun _ => by kernel_rfl
/-! ## midrange/messages.check$1 -/
noncomputable def f794F (k : Nat) (x : ByteArray) : Option (Bool) :=
  none
theorem f794Ok (k : Nat) : FnV P 94 [.dat .str] [.dat .bool] (f794F k) :=
  fs tm TB.nil Tryz.func94 (by kernel_rfl) SumsOk.nil none fun _ => by kernel_rfl
/-! ## midrange/messages.check$1, handed what it may write -/
noncomputable def f794v0I : Shape := ⟨[(0, .one (.str)), (1, .one (.ptr 0 0))], [(0, .var 25 [.ro Y10, .ro (.pair .str Y5)])], 1, []⟩
noncomputable def f794v0U : Shape := ⟨[(0, .one (.bool))], [(0, .var 25 [.ro Y10, .ro (.pair .str Y5)])], 1, []⟩
noncomputable def f794v0T (k : Nat) : TB P := TB.nil |>.u (f752Ok k)
noncomputable def f794v0F (k : Nat) (x : D77) : Option (D78) :=
  Option.bind (f752F k ((x.2.1, x.2.2.1), x.1)) fun y1 =>
  some ((decide (y1 < (0 : Int))), x.2.1, x.2.2.1, ())
theorem f794v0Ok (k : Nat) : GnV P 94 f794v0I f794v0U (f794v0F k) :=
  gs tm (f794v0T k) Tryz.func94 (by kernel_rfl) SumsOk.nil [.dat .bool] [] none fun _ => by kernel_rfl
/-! ## slices.IndexFunc[[]string,string], handed what it may write -/
noncomputable def f821v0I : Shape := ⟨[(0, .one (.ro .str)), (1, .one (.fn 94 [0]))], [(0, .var 25 [.ro Y10, .ro (.pair .str Y5)])], 1, []⟩
noncomputable def f821v0U : Shape := ⟨[(0, .one (.int .i64))], [(0, .var 25 [.ro Y10, .ro (.pair .str Y5)])], 1, []⟩
noncomputable def f821v0T (k : Nat) : TB P := TB.nil |>.g (f794v0Ok k)
noncomputable def f821v0l0s {R : Type} (k : Nat) (rec : D81 → Option R) (k0 : D79 → Option R) (k1 : D80 → Option R) (v : D81) : Option R :=
  bif (decide (v.2.2.1 < v.2.1)) then
    bif ((decide ((0 : Int) ≤ v.2.2.1)) && (decide (v.2.2.1 < (v.1.length : Int)))) then
    Option.bind (f794v0F k ((v.1.getD (Int.toNat v.2.2.1) ByteArray.empty), v.2.2.2.1, v.2.2.2.2.1, ())) fun y1 =>
    bif y1.1 then
      k0 (v.2.2.1, y1.2.1, y1.2.2.1, ())
    else
    rec (v.1, v.2.1, (IntKind.i64.wrap (v.2.2.1 + (1 : Int))), y1.2.1, y1.2.2.1, ())
    else none
  else
  k1 (v.2.2.2.1, v.2.2.2.2.1, ())
noncomputable def f821v0l0 {R : Type} (k : Nat) (k0 : D79 → Option R) (k1 : D80 → Option R) (v : D81) : Option R := iterS (fun rec v => f821v0l0s k rec k0 k1 v) k v
noncomputable def f821v0l0S (k : Nat) := loopSum ⟨[(0, .one (.ro .str)), (1, .one (.fn 94 [0])), (7, .one (.int .i64)), (8, .one (.int .i64))], [(0, .var 25 [.ro Y10, .ro (.pair .str Y5)])], 1, [some 0]⟩ ⟨[0, 1, 7, 8], [], []⟩ k fun R rec K v => f821v0l0s k rec (fun w => K .ret (encSt ⟨[(4, .one (.int .i64))], [(0, .var 25 [.ro Y10, .ro (.pair .str Y5)])], 1, [some 0]⟩ w)) (fun w => K (.exit 0) (encSt ⟨[], [(0, .var 25 [.ro Y10, .ro (.pair .str Y5)])], 1, [some 0]⟩ w)) v
theorem f821v0l0O (k : Nat) : SumO P Tryz.f121 26 (f821v0l0S k) := lp tm (f821v0T k) ⟨[4], [], []⟩ SumsOk.nil (by kernel_rfl) fun _ _ _ _ => by kernel_rfl
noncomputable def f821v0F (k : Nat) (x : D82) : Option (D79) :=
  f821v0l0 k
    (fun (w2 : D79) =>
      some (w2.1, w2.2.1, w2.2.2.1, ()))
    (fun (w3 : D80) =>
      some ((-1 : Int), w3.1, w3.2.1, ()))
    (x.1, (x.1.length : Int), (0 : Int), x.2.1, x.2.2.1, ())
theorem f821v0Ok (k : Nat) : GnV P 121 f821v0I f821v0U (f821v0F k) :=
  gs tm (f821v0T k) Tryz.func121 (by kernel_rfl) (SumsOk.nil |>.s (f821v0l0O k) (by kernel_rfl)) [.dat .bool] [] none fun _ => by kernel_rfl
/-! ## slices.ContainsFunc[[]string,string], handed what it may write -/
noncomputable def f793v0I : Shape := ⟨[(0, .one (.ro .str)), (1, .one (.fn 94 [0]))], [(0, .var 25 [.ro Y10, .ro (.pair .str Y5)])], 1, []⟩
noncomputable def f793v0U : Shape := ⟨[(0, .one (.bool))], [(0, .var 25 [.ro Y10, .ro (.pair .str Y5)])], 1, []⟩
noncomputable def f793v0T (k : Nat) : TB P := TB.nil |>.g (f821v0Ok k)
noncomputable def f793v0F (k : Nat) (x : D82) : Option (D78) :=
  Option.bind (f821v0F k (x.1, x.2.1, x.2.2.1, ())) fun y1 =>
  some ((decide (y1.1 ≥ (0 : Int))), y1.2.1, y1.2.2.1, ())
theorem f793v0Ok (k : Nat) : GnV P 93 f793v0I f793v0U (f793v0F k) :=
  gs tm (f793v0T k) Tryz.func93 (by kernel_rfl) SumsOk.nil [.dat .bool] [] none fun _ => by kernel_rfl
/-! ## midrange/messages.check -/
noncomputable def f751T (k : Nat) : TB P := TB.nil |>.g (f793v0Ok k) |>.u (f761Ok k) |>.u (f739Ok k)
noncomputable def f751F (k : Nat) (x : D14 × (List ByteArray)) : Option (Int) :=
  Option.bind (f739F k (x.1.1, x.1.2)) fun y1 =>
  bif (y1.2 != (0 : Int)) then
    some y1.2
  else
  Option.bind (f793v0F k (x.2, x.1.1, x.1.2, ())) fun y2 =>
  Option.bind (f761F k (y2.1, (11 : Int))) fun y3 =>
  some y3
theorem f751Ok (k : Nat) : FnV P 51 [.agg Y11, .dat (.slice .str)] [.dat (.int .i64)] (f751F k) :=
  fs tm (f751T k) Tryz.func51 (by kernel_rfl) SumsOk.nil none fun _ => by kernel_rfl
/-! ## midrange/messages.own, handed what it may write -/
noncomputable def f754v0I : Shape := ⟨[(0, .agg [.ro Y10, .ro (.pair .str Y5)])], [(0, .heap 42 Y3)], 1, []⟩
noncomputable def f754v0U : Shape := ⟨[(0, .agg [.ro Y10, .own 1])], [(0, .heap 42 Y3), (1, .row 69 (.pair .str Y16) .plain)], 2, []⟩
noncomputable def f754v0T (k : Nat) : TB P := TB.nil |>.u (f799V k) |>.p (f798V k)
noncomputable def f754v0l0s {R : Type} (k : Nat) (rec : D88 → Option R) (k0 : D87 → Option R) (v : D88) : Option R :=
  bif (decide (v.2.1 < v.1)) then
    bif ((decide ((0 : Int) ≤ v.2.1)) && (decide (v.2.1 < (v.2.2.2.2.1.length : Int)))) then
    let t2 := (v.2.2.2.2.1.getD (Int.toNat v.2.1) (ByteArray.empty, ((0 : Int), (false, ((0 : Int), (0 : Nat)))))).2.2.2.2
    Option.bind (bif ((kalive v.2.2.1 t2 && true) && true) then f799F k (kget v.2.2.1 t2) else none) fun y3 =>
    bif ((decide ((0 : Int) ≤ v.2.1)) && (decide (v.2.1 < (v.2.2.2.2.1.length : Int)))) then
    let t4 := (v.2.2.2.2.1.set (Int.toNat v.2.1) ((v.2.2.2.2.1.getD (Int.toNat v.2.1) (ByteArray.empty, ((0 : Int), (false, ((0 : Int), (0 : Nat)))))).1, ((v.2.2.2.2.1.getD (Int.toNat v.2.1) (ByteArray.empty, ((0 : Int), (false, ((0 : Int), (0 : Nat)))))).2.1, ((v.2.2.2.2.1.getD (Int.toNat v.2.1) (ByteArray.empty, ((0 : Int), (false, ((0 : Int), (0 : Nat)))))).2.2.1, ((v.2.2.2.2.1.getD (Int.toNat v.2.1) (ByteArray.empty, ((0 : Int), (false, ((0 : Int), (0 : Nat)))))).2.2.2.1, (v.2.2.1.length + 1))))))
    rec (v.1, (IntKind.i64.wrap (v.2.1 + (1 : Int))), (v.2.2.1 ++ [kidOf y3]), v.2.2.2.1, t4, v.2.2.2.2.2.1, v.2.2.2.2.2.2.1, ())
    else none
    else none
  else
  k0 (v.2.2.1, v.2.2.2.1, v.2.2.2.2.1, v.2.2.2.2.2.1, v.2.2.2.2.2.2.1, ())
noncomputable def f754v0l0 {R : Type} (k : Nat) (k0 : D87 → Option R) (v : D88) : Option R := iterS (fun rec v => f754v0l0s k rec k0 v) k v
noncomputable def f754v0l0S (k : Nat) := loopSum ⟨[(1, .one (.ptr 1 0)), (2, .one (.ptr 2 0)), (10, .one (.int .i64)), (11, .one (.int .i64))], [(0, .heap 42 Y3), (1, .var 25 [.ro Y10, .own 3]), (2, .var 25 [.own 4, .own 5]), (3, .row 69 (.pair .str Y16) .plain), (4, .row 82 Y10 .plain), (5, .row 69 (.pair .str Y16) .plain)], 6, [some 0]⟩ ⟨[1, 2, 10, 11], [], []⟩ k fun R rec K v => f754v0l0s k rec (fun w => K (.exit 0) (encSt ⟨[(1, .one (.ptr 1 0)), (2, .one (.ptr 2 0))], [(0, .heap 42 Y3), (1, .var 25 [.ro Y10, .own 3]), (2, .var 25 [.own 4, .own 5]), (3, .row 69 (.pair .str Y16) .plain), (4, .row 82 Y10 .plain), (5, .row 69 (.pair .str Y16) .plain)], 6, [some 0]⟩ w)) v
theorem f754v0l0O (k : Nat) : SumO P Tryz.f54 58 (f754v0l0S k) := lp htm0 (f754v0T k) ⟨[1, 2], [], []⟩ SumsOk.nil (by kernel_rfl) fun _ _ _ _ => by kernel_rfl
noncomputable def f754v0F (k : Nat) (x : D89) : Option (D90) :=
  Option.bind (f798F k x.2.1) fun y1 =>
  f754v0l0 k
    (fun (w5 : D87) =>
      some (w5.2.1, w5.1, w5.2.2.1, ()))
    (((deepL Y3 (.pair .str Y16) y1 x.2.2.1.length).1.length : Int), (0 : Int), (x.2.2.1 ++ (deepL Y3 (.pair .str Y16) y1 x.2.2.1.length).2), x.1, (deepL Y3 (.pair .str Y16) y1 x.2.2.1.length).1, [], [], ())
theorem f754v0Ok (k : Nat) : GnV P 54 f754v0I f754v0U (f754v0F k) :=
  gs htm0 (f754v0T k) Tryz.func54 (by kernel_rfl) (SumsOk.nil |>.s (f754v0l0O k) (by kernel_rfl)) [.own 0 .bool] [] none fun _ => by kernel_rfl
/-! ## slices.IndexFunc[[]midrange/api.QueuedMessage,midrange/api.QueuedMessage], handed what it may write -/
noncomputable def f800v2I : Shape := ⟨[(0, .one (.ref Y3)), (1, .one (.fn 101 []))], [(0, .heap 42 Y3)], 1, []⟩
noncomputable def f800v2U : Shape := ⟨[(0, .one (.int .i64))], [(0, .heap 42 Y3)], 1, []⟩
noncomputable def f800v2T (k : Nat) : TB P := TB.nil |>.u (f801Ok k)
noncomputable def f800v2l0s {R : Type} (k : Nat) (rec : D93 → Option R) (k0 : D91 → Option R) (k1 : D92 → Option R) (v : D93) : Option R :=
  bif (decide (v.2.2.1 < v.2.1)) then
    bif ((kalive v.2.2.2.1 v.1) && ((decide ((0 : Int) ≤ v.2.2.1)) && (decide (v.2.2.1 < ((kget v.2.2.2.1 v.1).length : Int))))) then
    bif (kalive v.2.2.2.1 v.1) then
    let t1 := ((kget v.2.2.2.1 v.1).getD (Int.toNat v.2.2.1) ((0 : Int), ((0 : Int), (ByteArray.empty, (ByteArray.empty, (ByteArray.empty, (false, (false, (0 : Int))))))))).1
    let t2 := ((kget v.2.2.2.1 v.1).getD (Int.toNat v.2.2.1) ((0 : Int), ((0 : Int), (ByteArray.empty, (ByteArray.empty, (ByteArray.empty, (false, (false, (0 : Int))))))))).2.1
    let t3 := ((kget v.2.2.2.1 v.1).getD (Int.toNat v.2.2.1) ((0 : Int), ((0 : Int), (ByteArray.empty, (ByteArray.empty, (ByteArray.empty, (false, (false, (0 : Int))))))))).2.2.1
    let t4 := ((kget v.2.2.2.1 v.1).getD (Int.toNat v.2.2.1) ((0 : Int), ((0 : Int), (ByteArray.empty, (ByteArray.empty, (ByteArray.empty, (false, (false, (0 : Int))))))))).2.2.2.1
    let t5 := ((kget v.2.2.2.1 v.1).getD (Int.toNat v.2.2.1) ((0 : Int), ((0 : Int), (ByteArray.empty, (ByteArray.empty, (ByteArray.empty, (false, (false, (0 : Int))))))))).2.2.2.2.1
    let t6 := ((kget v.2.2.2.1 v.1).getD (Int.toNat v.2.2.1) ((0 : Int), ((0 : Int), (ByteArray.empty, (ByteArray.empty, (ByteArray.empty, (false, (false, (0 : Int))))))))).2.2.2.2.2.1
    let t7 := ((kget v.2.2.2.1 v.1).getD (Int.toNat v.2.2.1) ((0 : Int), ((0 : Int), (ByteArray.empty, (ByteArray.empty, (ByteArray.empty, (false, (false, (0 : Int))))))))).2.2.2.2.2.2.1
    let t8 := ((kget v.2.2.2.1 v.1).getD (Int.toNat v.2.2.1) ((0 : Int), ((0 : Int), (ByteArray.empty, (ByteArray.empty, (ByteArray.empty, (false, (false, (0 : Int))))))))).2.2.2.2.2.2.2
    Option.bind (f801F k (t1, (t2, (t3, (t4, (t5, (t6, (t7, t8)))))))) fun y9 =>
    bif y9 then
      k0 (v.2.2.1, v.2.2.2.1, ())
    else
    rec (v.1, v.2.1, (IntKind.i64.wrap (v.2.2.1 + (1 : Int))), v.2.2.2.1, ())
    else none
    else none
  else
  k1 (v.2.2.2.1, ())
noncomputable def f800v2l0 {R : Type} (k : Nat) (k0 : D91 → Option R) (k1 : D92 → Option R) (v : D93) : Option R := iterS (fun rec v => f800v2l0s k rec k0 k1 v) k v
noncomputable def f800v2l0S (k : Nat) := loopSum ⟨[(0, .one (.ref Y3)), (1, .one (.fn 101 [])), (7, .one (.int .i64)), (8, .one (.int .i64))], [(0, .heap 42 Y3)], 1, [some 0]⟩ ⟨[0, 1, 7, 8], [], []⟩ k fun R rec K v => f800v2l0s k rec (fun w => K .ret (encSt ⟨[(4, .one (.int .i64))], [(0, .heap 42 Y3)], 1, [some 0]⟩ w)) (fun w => K (.exit 0) (encSt ⟨[], [(0, .heap 42 Y3)], 1, [some 0]⟩ w)) v
theorem f800v2l0O (k : Nat) : SumO P Tryz.f100 26 (f800v2l0S k) := lp htm0 (f800v2T k) ⟨[4], [], []⟩ SumsOk.nil (by kernel_rfl) fun _ _ _ _ => by kernel_rfl
noncomputable def f800v2F (k : Nat) (x : D94) : Option (D91) :=
  bif (kalive x.2.1 x.1) then
  f800v2l0 k
    (fun (w10 : D91) =>
      some (w10.1, w10.2.1, ()))
    (fun (w11 : D92) =>
      some ((-1 : Int), w11.1, ()))
    (x.1, ((kget x.2.1 x.1).length : Int), (0 : Int), x.2.1, ())
  else none
theorem f800v2Ok (k : Nat) : GnV P 100 f800v2I f800v2U (f800v2F k) :=
  gs htm0 (f800v2T k) Tryz.func100 (by kernel_rfl) (SumsOk.nil |>.s (f800v2l0O k) (by kernel_rfl)) [.dat .bool] [] none fun _ => by kernel_rfl
/-! ## slices.Delete[[]midrange/api.QueuedMessage,midrange/api.QueuedMessage], handed what it may write -/
noncomputable def f802v0I : Shape := ⟨[(0, .one (.ref Y3)), (1, .one (.int .i64)), (2, .one (.int .i64))], [(0, .heap 42 Y3)], 1, []⟩
noncomputable def f802v0U : Shape := ⟨[(0, .one (.ref Y3))], [(0, .heap 42 Y3)], 1, []⟩
noncomputable def f802v0F (k : Nat) (x : D93) : Option (D94) :=
  bif (kalive x.2.2.2.1 x.1) then
  bif ((kalive x.2.2.2.1 x.1) && (((decide ((0 : Int) ≤ x.2.1)) && (decide (x.2.1 ≤ x.2.2.1))) && ((decide (x.2.2.1 ≤ ((kget x.2.2.2.1 x.1).length : Int))) && (decide (((kget x.2.2.2.1 x.1).length : Int) ≤ (kcap x.2.2.2.1 x.1 : Int)))))) then
  bif (x.2.1 == x.2.2.1) then
    some (x.1, x.2.2.2.1, ())
  else
  bif (kalive x.2.2.2.1 x.1) then
  bif ((kalive x.2.2.2.1 x.1) && (sliceBds (0 : Int) x.2.1 (kcap x.2.2.2.1 x.1 : Int))) then
  bif ((kalive x.2.2.2.1 x.1) && (sliceBds x.2.2.1 ((kget x.2.2.2.1 x.1).length : Int) (kcap x.2.2.2.1 x.1 : Int))) then
  bif (((kalive x.2.2.2.1 x.1) && (decide (((kget x.2.2.2.1 x.1).length : Int) ≤ ((kget x.2.2.2.1 x.1).length : Int)))) && ((decide (x.2.1 ≤ ((kget x.2.2.2.1 x.1).length : Int))) && (kown x.2.2.2.1 x.1 && (decide (((Int.toNat x.2.1) + (((kget x.2.2.2.1 x.1).take (Int.toNat ((kget x.2.2.2.1 x.1).length : Int))).drop (Int.toNat x.2.2.1)).length) * 80 ≤ 140737488355328) && decide ((Int.toNat x.2.1) + (((kget x.2.2.2.1 x.1).take (Int.toNat ((kget x.2.2.2.1 x.1).length : Int))).drop (Int.toNat x.2.2.1)).length ≤ 9223372036854775807))))) then
  let t1 := (kapp x.2.2.2.1 x.1 (Int.toNat x.2.1) (((kget x.2.2.2.1 x.1).take (Int.toNat ((kget x.2.2.2.1 x.1).length : Int))).drop (Int.toNat x.2.2.1)))
  bif (kalive t1 (x.2.2.2.1.length + 1)) then
  bif ((kalive t1 (x.2.2.2.1.length + 1)) && (sliceBds ((kget t1 (x.2.2.2.1.length + 1)).length : Int) ((kget x.2.2.2.1 x.1).length : Int) (kcap t1 (x.2.2.2.1.length + 1) : Int))) then
  bif (kown t1 (x.2.2.2.1.length + 1)) then
  let t2 := (kwrt t1 (x.2.2.2.1.length + 1) (Int.toNat ((kget t1 (x.2.2.2.1.length + 1)).length : Int)) (List.replicate (Int.toNat (((kget x.2.2.2.1 x.1).length : Int) - ((kget t1 (x.2.2.2.1.length + 1)).length : Int))) ((0 : Int), ((0 : Int), (ByteArray.empty, (ByteArray.empty, (ByteArray.empty, (false, (false, (0 : Int))))))))))
  some ((x.2.2.2.1.length + 1), t2, ())
  else none
  else none
  else none
  else none
  else none
  else none
  else none
  else none
  else none
theorem f802v0Ok (k : Nat) : GnV P 102 f802v0I f802v0U (f802v0F k) :=
  gs htm0 TB.nil Tryz.func102 (by kernel_rfl) SumsOk.nil [.dat .bool] [] none fun _ => by kernel_rfl
/-! ## midrange/messages.put, handed what it may write -/
noncomputable def f755v0I : Shape := ⟨[(0, .agg [.ro Y10, .own 0]), (1, .one (.str)), (2, .agg [.int .i64, .int .i64, .str, .str, .str, .bool, .bool, .int .i64])], [(0, .row 69 (.pair .str Y16) .plain), (1, .heap 42 Y3)], 2, []⟩
noncomputable def f755v0U : Shape := ⟨[(0, .one (.int .i64)), (1, .one (.int .i64))], [(0, .row 69 (.pair .str Y16) .plain), (1, .heap 42 Y3)], 2, []⟩
noncomputable def f755v0T (k : Nat) : TB P := TB.nil |>.g (f802v0Ok k) |>.g (f800v2Ok k) |>.u (f752Ok k)
noncomputable def f755v0F (k : Nat) (x : D95) : Option (D96) :=
  Option.bind (bif (((x.2.2.2.2.2.2.2.2.2.2.1.all fun q => (true && (true && (true && (true && (kalive x.2.2.2.2.2.2.2.2.2.2.2.1 q.2.2.2.2)))))) && true) && true) then f752F k ((x.1, (x.2.2.2.2.2.2.2.2.2.2.1.map fun q => (q.1, (q.2.1, (q.2.2.1, (q.2.2.2.1, (kget x.2.2.2.2.2.2.2.2.2.2.2.1 q.2.2.2.2))))))), x.2.1) else none) fun y1 =>
  bif ((decide ((0 : Int) ≤ y1)) && (decide (y1 < (x.2.2.2.2.2.2.2.2.2.2.1.length : Int)))) then
  let t2 := (x.2.2.2.2.2.2.2.2.2.2.1.getD (Int.toNat y1) (ByteArray.empty, ((0 : Int), (false, ((0 : Int), (0 : Nat)))))).2.2.2.1
  bif (t2 == (1000000 : Int)) then
    some ((0 : Int), (3 : Int), x.2.2.2.2.2.2.2.2.2.2.1, x.2.2.2.2.2.2.2.2.2.2.2.1, ())
  else
  let t3 := (x.2.2.2.2.2.2.2.2.2.2.1.getD (Int.toNat y1) (ByteArray.empty, ((0 : Int), (false, ((0 : Int), (0 : Nat)))))).2.2.2.2
  bif (kalive x.2.2.2.2.2.2.2.2.2.2.2.1 t3) then
  let t4 := (x.2.2.2.2.2.2.2.2.2.2.1.getD (Int.toNat y1) (ByteArray.empty, ((0 : Int), (false, ((0 : Int), (0 : Nat)))))).2.1
  bif (((kget x.2.2.2.2.2.2.2.2.2.2.2.1 t3).length : Int) == t4) then
    let t5 := (x.2.2.2.2.2.2.2.2.2.2.1.getD (Int.toNat y1) (ByteArray.empty, ((0 : Int), (false, ((0 : Int), (0 : Nat)))))).2.2.2.2
    Option.bind (f800v2F k (t5, x.2.2.2.2.2.2.2.2.2.2.2.1, ())) fun y6 =>
    let t7 := (x.2.2.2.2.2.2.2.2.2.2.1.getD (Int.toNat y1) (ByteArray.empty, ((0 : Int), (false, ((0 : Int), (0 : Nat)))))).2.2.1
    bif (!t7) then
      some ((0 : Int), (30 : Int), x.2.2.2.2.2.2.2.2.2.2.1, y6.2.1, ())
    else
    bif (decide (y6.1 < (0 : Int))) then
      some ((0 : Int), (30 : Int), x.2.2.2.2.2.2.2.2.2.2.1, y6.2.1, ())
    else
    let t8 := (x.2.2.2.2.2.2.2.2.2.2.1.getD (Int.toNat y1) (ByteArray.empty, ((0 : Int), (false, ((0 : Int), (0 : Nat)))))).2.2.2.2
    Option.bind (f802v0F k (t8, y6.1, (IntKind.i64.wrap (y6.1 + (1 : Int))), y6.2.1, ())) fun y9 =>
    let t10 := (x.2.2.2.2.2.2.2.2.2.2.1.set (Int.toNat y1) ((x.2.2.2.2.2.2.2.2.2.2.1.getD (Int.toNat y1) (ByteArray.empty, ((0 : Int), (false, ((0 : Int), (0 : Nat)))))).1, ((x.2.2.2.2.2.2.2.2.2.2.1.getD (Int.toNat y1) (ByteArray.empty, ((0 : Int), (false, ((0 : Int), (0 : Nat)))))).2.1, ((x.2.2.2.2.2.2.2.2.2.2.1.getD (Int.toNat y1) (ByteArray.empty, ((0 : Int), (false, ((0 : Int), (0 : Nat)))))).2.2.1, ((x.2.2.2.2.2.2.2.2.2.2.1.getD (Int.toNat y1) (ByteArray.empty, ((0 : Int), (false, ((0 : Int), (0 : Nat)))))).2.2.2.1, y9.1)))))
    let t11 := (t10.getD (Int.toNat y1) (ByteArray.empty, ((0 : Int), (false, ((0 : Int), (0 : Nat)))))).2.2.2.1
    let t12 := (t10.getD (Int.toNat y1) (ByteArray.empty, ((0 : Int), (false, ((0 : Int), (0 : Nat)))))).2.2.2.1
    let t13 := (t10.set (Int.toNat y1) ((t10.getD (Int.toNat y1) (ByteArray.empty, ((0 : Int), (false, ((0 : Int), (0 : Nat)))))).1, ((t10.getD (Int.toNat y1) (ByteArray.empty, ((0 : Int), (false, ((0 : Int), (0 : Nat)))))).2.1, ((t10.getD (Int.toNat y1) (ByteArray.empty, ((0 : Int), (false, ((0 : Int), (0 : Nat)))))).2.2.1, ((IntKind.i64.wrap (t12 + (1 : Int))), (t10.getD (Int.toNat y1) (ByteArray.empty, ((0 : Int), (false, ((0 : Int), (0 : Nat)))))).2.2.2.2)))))
    let t14 := (t13.getD (Int.toNat y1) (ByteArray.empty, ((0 : Int), (false, ((0 : Int), (0 : Nat)))))).2.2.2.2
    let t15 := [(t11, (x.2.2.2.1, (x.2.2.2.2.1, (x.2.2.2.2.2.1, (x.2.2.2.2.2.2.1, (x.2.2.2.2.2.2.2.1, (x.2.2.2.2.2.2.2.2.1, x.2.2.2.2.2.2.2.2.2.1)))))))]
    bif (kown y9.2.1 t14 && (decide (((kget y9.2.1 t14).length + t15.length) * 80 ≤ 140737488355328) && decide ((kget y9.2.1 t14).length + t15.length ≤ 9223372036854775807))) then
    let t16 := (t13.set (Int.toNat y1) ((t13.getD (Int.toNat y1) (ByteArray.empty, ((0 : Int), (false, ((0 : Int), (0 : Nat)))))).1, ((t13.getD (Int.toNat y1) (ByteArray.empty, ((0 : Int), (false, ((0 : Int), (0 : Nat)))))).2.1, ((t13.getD (Int.toNat y1) (ByteArray.empty, ((0 : Int), (false, ((0 : Int), (0 : Nat)))))).2.2.1, ((t13.getD (Int.toNat y1) (ByteArray.empty, ((0 : Int), (false, ((0 : Int), (0 : Nat)))))).2.2.2.1, (y9.2.1.length + 1))))))
    some (t11, (0 : Int), t16, (kapp y9.2.1 t14 (kget y9.2.1 t14).length t15), ())
    else none
  else
  let t17 := (x.2.2.2.2.2.2.2.2.2.2.1.getD (Int.toNat y1) (ByteArray.empty, ((0 : Int), (false, ((0 : Int), (0 : Nat)))))).2.2.2.1
  let t18 := (x.2.2.2.2.2.2.2.2.2.2.1.getD (Int.toNat y1) (ByteArray.empty, ((0 : Int), (false, ((0 : Int), (0 : Nat)))))).2.2.2.1
  let t19 := (x.2.2.2.2.2.2.2.2.2.2.1.set (Int.toNat y1) ((x.2.2.2.2.2.2.2.2.2.2.1.getD (Int.toNat y1) (ByteArray.empty, ((0 : Int), (false, ((0 : Int), (0 : Nat)))))).1, ((x.2.2.2.2.2.2.2.2.2.2.1.getD (Int.toNat y1) (ByteArray.empty, ((0 : Int), (false, ((0 : Int), (0 : Nat)))))).2.1, ((x.2.2.2.2.2.2.2.2.2.2.1.getD (Int.toNat y1) (ByteArray.empty, ((0 : Int), (false, ((0 : Int), (0 : Nat)))))).2.2.1, ((IntKind.i64.wrap (t18 + (1 : Int))), (x.2.2.2.2.2.2.2.2.2.2.1.getD (Int.toNat y1) (ByteArray.empty, ((0 : Int), (false, ((0 : Int), (0 : Nat)))))).2.2.2.2)))))
  let t20 := (t19.getD (Int.toNat y1) (ByteArray.empty, ((0 : Int), (false, ((0 : Int), (0 : Nat)))))).2.2.2.2
  let t21 := [(t17, (x.2.2.2.1, (x.2.2.2.2.1, (x.2.2.2.2.2.1, (x.2.2.2.2.2.2.1, (x.2.2.2.2.2.2.2.1, (x.2.2.2.2.2.2.2.2.1, x.2.2.2.2.2.2.2.2.2.1)))))))]
  bif (kown x.2.2.2.2.2.2.2.2.2.2.2.1 t20 && (decide (((kget x.2.2.2.2.2.2.2.2.2.2.2.1 t20).length + t21.length) * 80 ≤ 140737488355328) && decide ((kget x.2.2.2.2.2.2.2.2.2.2.2.1 t20).length + t21.length ≤ 9223372036854775807))) then
  let t22 := (kapp x.2.2.2.2.2.2.2.2.2.2.2.1 t20 (kget x.2.2.2.2.2.2.2.2.2.2.2.1 t20).length t21)
  let t23 := (t19.set (Int.toNat y1) ((t19.getD (Int.toNat y1) (ByteArray.empty, ((0 : Int), (false, ((0 : Int), (0 : Nat)))))).1, ((t19.getD (Int.toNat y1) (ByteArray.empty, ((0 : Int), (false, ((0 : Int), (0 : Nat)))))).2.1, ((t19.getD (Int.toNat y1) (ByteArray.empty, ((0 : Int), (false, ((0 : Int), (0 : Nat)))))).2.2.1, ((t19.getD (Int.toNat y1) (ByteArray.empty, ((0 : Int), (false, ((0 : Int), (0 : Nat)))))).2.2.2.1, (x.2.2.2.2.2.2.2.2.2.2.2.1.length + 1))))))
  some (t17, (0 : Int), t23, t22, ())
  else none
  else none
  else none
theorem f755v0Ok (k : Nat) : GnV P 55 f755v0I f755v0U (f755v0F k) :=
  gs htm0 (f755v0T k) Tryz.func55 (by kernel_rfl) SumsOk.nil [.dat .bool, .dat .bool] [] none fun _ => by kernel_rfl
/-! ## midrange/messages.Sent -/
noncomputable def f715T (k : Nat) : TB P := TB.nil |>.g (f755v0Ok k) |>.g (f754v0Ok k) |>.u (f753Ok k) |>.u (f752Ok k) |>.u (f751Ok k)
noncomputable def f715p0 {R : Type} (k : Nat) (k0 : D83 → Option R) (k1 : D85 → Option R) (v : D85) : Option R :=
  bif (!strEq v.2.2.1 ByteArray.empty) then
    Option.bind (f752F k ((v.1, v.2.1), v.2.2.1)) fun y2 =>
    bif (decide (y2 < (0 : Int))) then
      k0 ((0 : Int), (11 : Int), v.1, v.2.1, v.2.2.1, v.2.2.2.1, v.2.2.2.2.1, v.2.2.2.2.2.1, v.2.2.2.2.2.2.1, v.2.2.2.2.2.2.2.1, v.2.2.2.2.2.2.2.2.2.2.1, ())
    else
    k1 (v.1, v.2.1, v.2.2.1, v.2.2.2.1, v.2.2.2.2.1, v.2.2.2.2.2.1, v.2.2.2.2.2.2.1, v.2.2.2.2.2.2.2.1, v.2.2.2.2.2.2.2.2.1, v.2.2.2.2.2.2.2.2.2.1, v.2.2.2.2.2.2.2.2.2.2.1, ())
  else
  bif v.2.2.2.2.2.2.2.1 then
    Option.bind (f752F k ((v.1, v.2.1), v.2.2.1)) fun y3 =>
    bif (decide (y3 < (0 : Int))) then
      k0 ((0 : Int), (11 : Int), v.1, v.2.1, v.2.2.1, v.2.2.2.1, v.2.2.2.2.1, v.2.2.2.2.2.1, v.2.2.2.2.2.2.1, v.2.2.2.2.2.2.2.1, v.2.2.2.2.2.2.2.2.2.2.1, ())
    else
    k1 (v.1, v.2.1, v.2.2.1, v.2.2.2.1, v.2.2.2.2.1, v.2.2.2.2.2.1, v.2.2.2.2.2.2.1, v.2.2.2.2.2.2.2.1, v.2.2.2.2.2.2.2.2.1, v.2.2.2.2.2.2.2.2.2.1, v.2.2.2.2.2.2.2.2.2.2.1, ())
  else
  k1 (v.1, v.2.1, v.2.2.1, v.2.2.2.1, v.2.2.2.2.1, v.2.2.2.2.2.1, v.2.2.2.2.2.2.1, v.2.2.2.2.2.2.2.1, v.2.2.2.2.2.2.2.2.1, v.2.2.2.2.2.2.2.2.2.1, v.2.2.2.2.2.2.2.2.2.2.1, ())
noncomputable def f715p0S (k : Nat) := partSum ⟨[(2, .one (.ptr 0 0)), (3, .one (.ptr 1 0)), (4, .one (.ptr 2 0))], [(0, .var 25 [.ro Y10, .ro (.pair .str Y5)]), (1, .var 27 [.str, .str, .str, .str, .str, .bool]), (2, .var 25 [.own 3, .own 4]), (3, .row 82 Y10 .plain), (4, .row 69 (.pair .str Y16) .plain), (5, .heap 42 Y3)], 6, []⟩ ⟨[2, 3, 4], [], []⟩ fun R K v => f715p0 k (fun w => K .ret (encSt ⟨[(2, .one (.ptr 0 0)), (3, .one (.ptr 1 0)), (4, .one (.ptr 2 0)), (5, .one (.int .i64)), (6, .one (.int .i64))], [(0, .var 25 [.ro Y10, .ro (.pair .str Y5)]), (1, .var 27 [.str, .str, .str, .str, .str, .bool]), (2, .var 25 [.emp, .emp]), (3, .heap 42 Y3)], 4, []⟩ w)) (fun w => K .normal (encSt ⟨[(2, .one (.ptr 0 0)), (3, .one (.ptr 1 0)), (4, .one (.ptr 2 0))], [(0, .var 25 [.ro Y10, .ro (.pair .str Y5)]), (1, .var 27 [.str, .str, .str, .str, .str, .bool]), (2, .var 25 [.own 3, .own 4]), (3, .row 82 Y10 .plain), (4, .row 69 (.pair .str Y16) .plain), (5, .heap 42 Y3)], 6, []⟩ w)) v
theorem f715p0O (k : Nat) : SumO P Tryz.f15 14 (f715p0S k) := pt htm0 (f715T k) ⟨[2, 3, 4, 5, 6], [], []⟩ SumsOk.nil fun _ _ _ => by kernel_rfl
noncomputable def f715p1 {R : Type} (k : Nat) (k0 : D86 → Option R) (v : D86) : Option R :=
  bif v.2.2.2.2.2.2.2.1 then
    k0 (v.1, v.2.1, v.2.2.1, v.2.2.2.1, v.2.2.2.2.1, v.2.2.2.2.2.1, v.2.2.2.2.2.2.1, v.2.2.2.2.2.2.2.1, v.2.2.2.2.2.2.2.2.1, (1 : Int), v.2.2.2.2.2.2.2.2.2.2.1, v.2.2.2.2.2.2.2.2.2.2.2.1, v.2.2.2.2.2.2.2.2.2.2.2.2.1, v.2.2.2.2.2.2.2.2.2.2.2.2.2.1, v.2.2.2.2.2.2.2.2.2.2.2.2.2.2.1, v.2.2.2.2.2.2.2.2.2.2.2.2.2.2.2.1, v.2.2.2.2.2.2.2.2.2.2.2.2.2.2.2.2.1, v.2.2.2.2.2.2.2.2.2.2.2.2.2.2.2.2.2.1, v.2.2.2.2.2.2.2.2.2.2.2.2.2.2.2.2.2.2.1, ())
  else
  k0 (v.1, v.2.1, v.2.2.1, v.2.2.2.1, v.2.2.2.2.1, v.2.2.2.2.2.1, v.2.2.2.2.2.2.1, v.2.2.2.2.2.2.2.1, v.2.2.2.2.2.2.2.2.1, v.2.2.2.2.2.2.2.2.2.1, v.2.2.2.2.2.2.2.2.2.2.1, v.2.2.2.2.2.2.2.2.2.2.2.1, v.2.2.2.2.2.2.2.2.2.2.2.2.1, v.2.2.2.2.2.2.2.2.2.2.2.2.2.1, v.2.2.2.2.2.2.2.2.2.2.2.2.2.2.1, v.2.2.2.2.2.2.2.2.2.2.2.2.2.2.2.1, v.2.2.2.2.2.2.2.2.2.2.2.2.2.2.2.2.1, v.2.2.2.2.2.2.2.2.2.2.2.2.2.2.2.2.2.1, v.2.2.2.2.2.2.2.2.2.2.2.2.2.2.2.2.2.2.1, ())
noncomputable def f715p1S (k : Nat) := partSum ⟨[(2, .one (.ptr 0 0)), (3, .one (.ptr 1 0)), (4, .one (.ptr 2 0)), (10, .one (.ptr 3 0))], [(0, .var 25 [.ro Y10, .ro (.pair .str Y5)]), (1, .var 27 [.str, .str, .str, .str, .str, .bool]), (2, .var 25 [.own 4, .own 5]), (3, .var 42 [.int .i64, .int .i64, .str, .str, .str, .bool, .bool, .int .i64]), (4, .row 82 Y10 .plain), (5, .row 69 (.pair .str Y16) .plain), (6, .heap 42 Y3)], 7, []⟩ ⟨[2, 3, 4, 10], [], []⟩ fun R K v => f715p1 k (fun w => K .normal (encSt ⟨[(2, .one (.ptr 0 0)), (3, .one (.ptr 1 0)), (4, .one (.ptr 2 0)), (10, .one (.ptr 3 0))], [(0, .var 25 [.ro Y10, .ro (.pair .str Y5)]), (1, .var 27 [.str, .str, .str, .str, .str, .bool]), (2, .var 25 [.own 4, .own 5]), (3, .var 42 [.int .i64, .int .i64, .str, .str, .str, .bool, .bool, .int .i64]), (4, .row 82 Y10 .plain), (5, .row 69 (.pair .str Y16) .plain), (6, .heap 42 Y3)], 7, []⟩ w)) v
theorem f715p1O (k : Nat) : SumO P Tryz.f15 254 (f715p1S k) := pt htm0 (f715T k) ⟨[2, 3, 4, 5, 6, 10], [], []⟩ SumsOk.nil fun _ _ _ => by kernel_rfl
noncomputable def f715F (k : Nat) (x : D14 × (ByteArray × D64)) : Option (D14 × Int × Int) :=
  Option.bind (f751F k ((x.1.1, x.1.2), [x.2.2.1])) fun y1 =>
  bif (y1 != (0 : Int)) then
    some (([], []), (0 : Int), y1)
  else
  f715p0 k
    (fun (w4 : D83) =>
      some (([], []), w4.1, w4.2.1))
    (fun (w5 : D85) =>
      Option.bind (f753F k ((w5.1, w5.2.1), (w5.2.2.1, (w5.2.2.2.1, (w5.2.2.2.2.1, (w5.2.2.2.2.2.1, (w5.2.2.2.2.2.2.1, w5.2.2.2.2.2.2.2.1))))))) fun y6 =>
      bif (y6.2 != (0 : Int)) then
        some (([], []), (0 : Int), y6.2)
      else
      f715p1 k
        (fun (w7 : D86) =>
          Option.bind (f754v0F k (w7.1, w7.2.1, w7.2.2.2.2.2.2.2.2.2.2.2.2.2.2.2.2.2.2.1, ())) fun y8 =>
          Option.bind (f755v0F k (y8.1, w7.2.2.2.1, w7.2.2.2.2.2.2.2.2.1, w7.2.2.2.2.2.2.2.2.2.1, w7.2.2.2.2.2.2.2.2.2.2.1, w7.2.2.2.2.2.2.2.2.2.2.2.1, w7.2.2.2.2.2.2.2.2.2.2.2.2.1, w7.2.2.2.2.2.2.2.2.2.2.2.2.2.1, w7.2.2.2.2.2.2.2.2.2.2.2.2.2.2.1, w7.2.2.2.2.2.2.2.2.2.2.2.2.2.2.2.1, y8.2.2.1, y8.2.1, ())) fun y9 =>
          bif (y9.2.1 != (0 : Int)) then
            some (([], []), (0 : Int), y9.2.1)
          else
          bif (((y9.2.2.1.all fun q => (true && (true && (true && (true && (kro (List.map Kid.frz y9.2.2.2.1) q.2.2.2.2)))))) && true) && true) then
          some ((y8.1, (y9.2.2.1.map fun q => (q.1, (q.2.1, (q.2.2.1, (q.2.2.2.1, (kget (List.map Kid.frz y9.2.2.2.1) q.2.2.2.2))))))), y9.1, (0 : Int))
          else none)
        (w5.1, w5.2.1, w5.2.2.1, w5.2.2.2.1, w5.2.2.2.2.1, w5.2.2.2.2.2.1, w5.2.2.2.2.2.2.1, w5.2.2.2.2.2.2.2.1, (0 : Int), (0 : Int), w5.2.2.2.2.1, y6.1, w5.2.2.1, false, false, (0 : Int), w5.2.2.2.2.2.2.2.2.1, w5.2.2.2.2.2.2.2.2.2.1, w5.2.2.2.2.2.2.2.2.2.2.1, ()))
    (x.1.1, x.1.2, x.2.1, x.2.2.1, x.2.2.2.1, x.2.2.2.2.1, x.2.2.2.2.2.1, x.2.2.2.2.2.2, [], [], [], ())
theorem f715Ok (k : Nat) : FnV P 15 [.agg Y11, .agg (.pair .str Y14)] [.agg Y11, .dat (.int .i64), .dat (.int .i64)] (f715F k) :=
  fs htm0 (f715T k) Tryz.func15 (by kernel_rfl) (SumsOk.nil |>.s (f715p1O k) (by kernel_rfl) |>.s (f715p0O k) (by kernel_rfl)) (some (42, Y3)) fun _ => by kernel_rfl
/-! ## midrange/messages.chosen$1 -/
noncomputable def f803F (k : Nat) (x : (Int × (Int × D4))) : Option (Bool) :=
  some (!x.2.2.2.2.2.1)
theorem f803Ok (k : Nat) : FnV P 103 [.agg Y3] [.dat .bool] (f803F k) :=
  fs tm TB.nil Tryz.func103 (by kernel_rfl) SumsOk.nil none fun _ => by kernel_rfl
/-! ## midrange/messages.chosen$2 -/
noncomputable def f804F (k : Nat) (x : (Int × (Int × D4))) : Option (Bool) :=
  none
theorem f804Ok (k : Nat) : FnV P 104 [.agg Y3] [.dat .bool] (f804F k) :=
  fs tm TB.nil Tryz.func104 (by kernel_rfl) SumsOk.nil none fun _ => by kernel_rfl
/-! ## slices.IndexFunc[[]midrange/api.QueuedMessage,midrange/api.QueuedMessage], handed what it may write -/
noncomputable def f800v3I : Shape := ⟨[(0, .one (.ro Y3)), (1, .one (.fn 103 []))], [], 0, []⟩
noncomputable def f800v3U : Shape := ⟨[(0, .one (.int .i64))], [], 0, []⟩
noncomputable def f800v3T (k : Nat) : TB P := TB.nil |>.u (f803Ok k)
noncomputable def f800v3l0s {R : Type} (k : Nat) (rec : D68 → Option R) (k0 : Int × Unit → Option R) (k1 : Unit → Option R) (v : D68) : Option R :=
  bif (decide (v.2.2.1 < v.2.1)) then
    bif ((decide ((0 : Int) ≤ v.2.2.1)) && (decide (v.2.2.1 < (v.1.length : Int)))) then
    let t1 := (v.1.getD (Int.toNat v.2.2.1) ((0 : Int), ((0 : Int), (ByteArray.empty, (ByteArray.empty, (ByteArray.empty, (false, (false, (0 : Int)))))))))
    Option.bind (f803F k (t1.1, (t1.2.1, (t1.2.2.1, (t1.2.2.2.1, (t1.2.2.2.2.1, (t1.2.2.2.2.2.1, (t1.2.2.2.2.2.2.1, t1.2.2.2.2.2.2.2)))))))) fun y2 =>
    bif y2 then
      k0 (v.2.2.1, ())
    else
    rec (v.1, v.2.1, (IntKind.i64.wrap (v.2.2.1 + (1 : Int))), ())
    else none
  else
  k1 (())
noncomputable def f800v3l0 {R : Type} (k : Nat) (k0 : Int × Unit → Option R) (k1 : Unit → Option R) (v : D68) : Option R := iterS (fun rec v => f800v3l0s k rec k0 k1 v) k v
noncomputable def f800v3l0S (k : Nat) := loopSum ⟨[(0, .one (.ro Y3)), (1, .one (.fn 103 [])), (7, .one (.int .i64)), (8, .one (.int .i64))], [], 0, []⟩ ⟨[0, 1, 7, 8], [], []⟩ k fun R rec K v => f800v3l0s k rec (fun w => K .ret (encSt ⟨[(4, .one (.int .i64))], [], 0, []⟩ w)) (fun w => K (.exit 0) (encSt ⟨[], [], 0, []⟩ w)) v
theorem f800v3l0O (k : Nat) : SumO P Tryz.f100 26 (f800v3l0S k) := lp tm (f800v3T k) ⟨[4], [], []⟩ SumsOk.nil (by kernel_rfl) fun _ _ _ _ => by kernel_rfl
noncomputable def f800v3F (k : Nat) (x : D69) : Option (Int × Unit) :=
  f800v3l0 k
    (fun (w3 : Int × Unit) =>
      some (w3.1, ()))
    (fun (w4 : Unit) =>
      some ((-1 : Int), ()))
    (x.1, (x.1.length : Int), (0 : Int), ())
theorem f800v3Ok (k : Nat) : GnV P 100 f800v3I f800v3U (f800v3F k) :=
  gs tm (f800v3T k) Tryz.func100 (by kernel_rfl) (SumsOk.nil |>.s (f800v3l0O k) (by kernel_rfl)) [.dat .bool] [] none fun _ => by kernel_rfl
/-! ## midrange/messages.chosen$2, handed what it may write -/
noncomputable def f804v0I : Shape := ⟨[(0, .agg [.int .i64, .int .i64, .str, .str, .str, .bool, .bool, .int .i64]), (1, .one (.ptr 0 0))], [(0, .var 40 [.str, .int .i64, .int .i64, .bool])], 1, []⟩
noncomputable def f804v0U : Shape := ⟨[(0, .one (.bool))], [(0, .var 40 [.str, .int .i64, .int .i64, .bool])], 1, []⟩
noncomputable def f804v0F (k : Nat) (x : D97) : Option (D98) :=
  some ((decide (x.1 > x.2.2.2.2.2.2.2.2.2.2.1)), x.2.2.2.2.2.2.2.2.1, x.2.2.2.2.2.2.2.2.2.1, x.2.2.2.2.2.2.2.2.2.2.1, x.2.2.2.2.2.2.2.2.2.2.2.1, ())
theorem f804v0Ok (k : Nat) : GnV P 104 f804v0I f804v0U (f804v0F k) :=
  gs tm TB.nil Tryz.func104 (by kernel_rfl) SumsOk.nil [.dat .bool] [] none fun _ => by kernel_rfl
/-! ## slices.IndexFunc[[]midrange/api.QueuedMessage,midrange/api.QueuedMessage], handed what it may write -/
noncomputable def f800v4I : Shape := ⟨[(0, .one (.ro Y3)), (1, .one (.fn 104 [0]))], [(0, .var 40 [.str, .int .i64, .int .i64, .bool])], 1, []⟩
noncomputable def f800v4U : Shape := ⟨[(0, .one (.int .i64))], [(0, .var 40 [.str, .int .i64, .int .i64, .bool])], 1, []⟩
noncomputable def f800v4T (k : Nat) : TB P := TB.nil |>.g (f804v0Ok k)
noncomputable def f800v4l0s {R : Type} (k : Nat) (rec : D101 → Option R) (k0 : D99 → Option R) (k1 : D100 → Option R) (v : D101) : Option R :=
  bif (decide (v.2.2.1 < v.2.1)) then
    bif ((decide ((0 : Int) ≤ v.2.2.1)) && (decide (v.2.2.1 < (v.1.length : Int)))) then
    let t1 := (v.1.getD (Int.toNat v.2.2.1) ((0 : Int), ((0 : Int), (ByteArray.empty, (ByteArray.empty, (ByteArray.empty, (false, (false, (0 : Int)))))))))
    Option.bind (f804v0F k (t1.1, t1.2.1, t1.2.2.1, t1.2.2.2.1, t1.2.2.2.2.1, t1.2.2.2.2.2.1, t1.2.2.2.2.2.2.1, t1.2.2.2.2.2.2.2, v.2.2.2.1, v.2.2.2.2.1, v.2.2.2.2.2.1, v.2.2.2.2.2.2.1, ())) fun y2 =>
    bif y2.1 then
      k0 (v.2.2.1, y2.2.1, y2.2.2.1, y2.2.2.2.1, y2.2.2.2.2.1, ())
    else
    rec (v.1, v.2.1, (IntKind.i64.wrap (v.2.2.1 + (1 : Int))), y2.2.1, y2.2.2.1, y2.2.2.2.1, y2.2.2.2.2.1, ())
    else none
  else
  k1 (v.2.2.2.1, v.2.2.2.2.1, v.2.2.2.2.2.1, v.2.2.2.2.2.2.1, ())
noncomputable def f800v4l0 {R : Type} (k : Nat) (k0 : D99 → Option R) (k1 : D100 → Option R) (v : D101) : Option R := iterS (fun rec v => f800v4l0s k rec k0 k1 v) k v
noncomputable def f800v4l0S (k : Nat) := loopSum ⟨[(0, .one (.ro Y3)), (1, .one (.fn 104 [0])), (7, .one (.int .i64)), (8, .one (.int .i64))], [(0, .var 40 [.str, .int .i64, .int .i64, .bool])], 1, [some 0]⟩ ⟨[0, 1, 7, 8], [], []⟩ k fun R rec K v => f800v4l0s k rec (fun w => K .ret (encSt ⟨[(4, .one (.int .i64))], [(0, .var 40 [.str, .int .i64, .int .i64, .bool])], 1, [some 0]⟩ w)) (fun w => K (.exit 0) (encSt ⟨[], [(0, .var 40 [.str, .int .i64, .int .i64, .bool])], 1, [some 0]⟩ w)) v
theorem f800v4l0O (k : Nat) : SumO P Tryz.f100 26 (f800v4l0S k) := lp tm (f800v4T k) ⟨[4], [], []⟩ SumsOk.nil (by kernel_rfl) fun _ _ _ _ => by kernel_rfl
noncomputable def f800v4F (k : Nat) (x : D102) : Option (D99) :=
  f800v4l0 k
    (fun (w3 : D99) =>
      some (w3.1, w3.2.1, w3.2.2.1, w3.2.2.2.1, w3.2.2.2.2.1, ()))
    (fun (w4 : D100) =>
      some ((-1 : Int), w4.1, w4.2.1, w4.2.2.1, w4.2.2.2.1, ()))
    (x.1, (x.1.length : Int), (0 : Int), x.2.1, x.2.2.1, x.2.2.2.1, x.2.2.2.2.1, ())
theorem f800v4Ok (k : Nat) : GnV P 100 f800v4I f800v4U (f800v4F k) :=
  gs tm (f800v4T k) Tryz.func100 (by kernel_rfl) (SumsOk.nil |>.s (f800v4l0O k) (by kernel_rfl)) [.dat .bool] [] none fun _ => by kernel_rfl
/-! ## midrange/messages.chosen -/
noncomputable def f763T (k : Nat) : TB P := TB.nil |>.c ((f800v4Ok k).e.or (f800v3Ok k).e) |>.u (f768Ok k)
noncomputable def f763F (k : Nat) (x : D6 × D103) : Option (Int) :=
  bif (x.2.2.1 == (0 : Int)) then
    let t1 := (IntKind.i64.wrap ((mnI (x.1.2.2.2.2.length : Int) (1 : Int)) - (1 : Int)))
    some t1
  else
  bif (x.2.2.1 == (1 : Int)) then
    some (IntKind.i64.wrap ((x.1.2.2.2.2.length : Int) - (1 : Int)))
  else
  bif (x.2.2.1 == (2 : Int)) then
    Option.bind (f800v3F k (x.1.2.2.2.2, ())) fun y2 =>
    some y2.1
  else
  bif (x.2.2.1 == (3 : Int)) then
    Option.bind (f800v4F k (x.1.2.2.2.2, x.2.1, x.2.2.1, x.2.2.2.1, x.2.2.2.2, ())) fun y3 =>
    some y3.1
  else
  Option.bind (f768F k ((x.1.1, (x.1.2.1, (x.1.2.2.1, (x.1.2.2.2.1, x.1.2.2.2.2)))), x.2.2.2.1)) fun y4 =>
  some y4
theorem f763Ok (k : Nat) : FnV P 63 [.agg (.pair .str Y5), .agg Y18] [.dat (.int .i64)] (f763F k) :=
  fs tm (f763T k) Tryz.func63 (by kernel_rfl) SumsOk.nil none fun _ => by kernel_rfl
/-! ## midrange/messages.answer, handed what it may write -/
noncomputable def f771v0I : Shape := ⟨[(0, .agg [.ro Y10, .own 0]), (1, .one (.str)), (2, .agg [.int .i64, .int .i64, .str, .str, .str, .bool, .bool, .int .i64]), (3, .one (.str))], [(0, .row 69 (.pair .str Y16) .plain), (1, .heap 42 Y3)], 2, []⟩
noncomputable def f771v0U : Shape := ⟨[(0, .one (.int .i64))], [(0, .row 69 (.pair .str Y16) .plain), (1, .heap 42 Y3)], 2, []⟩
noncomputable def f771v0T (k : Nat) : TB P := TB.nil |>.u (f768Ok k) |>.g (f755v0Ok k) |>.u (f752Ok k)
noncomputable def f771v0F (k : Nat) (x : D104) : Option (D105) :=
  Option.bind (f755v0F k (x.1, x.2.2.2.2.2.2.1, (0 : Int), (2 : Int), ByteArray.empty, x.2.2.2.2.2.2.2.2.2.2.1, x.2.1, false, false, x.2.2.1, x.2.2.2.2.2.2.2.2.2.2.2.1, x.2.2.2.2.2.2.2.2.2.2.2.2.1, ())) fun y1 =>
  bif (y1.2.1 != (0 : Int)) then
    some (y1.2.1, y1.2.2.1, y1.2.2.2.1, ())
  else
  Option.bind (bif (((y1.2.2.1.all fun q => (true && (true && (true && (true && (kalive y1.2.2.2.1 q.2.2.2.2)))))) && true) && true) then f752F k ((x.1, (y1.2.2.1.map fun q => (q.1, (q.2.1, (q.2.2.1, (q.2.2.2.1, (kget y1.2.2.2.1 q.2.2.2.2))))))), x.2.1) else none) fun y2 =>
  bif ((decide ((0 : Int) ≤ y2)) && (decide (y2 < (y1.2.2.1.length : Int)))) then
  let t3 := (y1.2.2.1.getD (Int.toNat y2) (ByteArray.empty, ((0 : Int), (false, ((0 : Int), (0 : Nat)))))).2.2.2.2
  let t4 := (y1.2.2.1.getD (Int.toNat y2) (ByteArray.empty, ((0 : Int), (false, ((0 : Int), (0 : Nat)))))).1
  let t5 := (y1.2.2.1.getD (Int.toNat y2) (ByteArray.empty, ((0 : Int), (false, ((0 : Int), (0 : Nat)))))).2.1
  let t6 := (y1.2.2.1.getD (Int.toNat y2) (ByteArray.empty, ((0 : Int), (false, ((0 : Int), (0 : Nat)))))).2.2.1
  let t7 := (y1.2.2.1.getD (Int.toNat y2) (ByteArray.empty, ((0 : Int), (false, ((0 : Int), (0 : Nat)))))).2.2.2.1
  let t8 := (y1.2.2.1.getD (Int.toNat y2) (ByteArray.empty, ((0 : Int), (false, ((0 : Int), (0 : Nat)))))).2.2.2.2
  Option.bind (bif (((kalive y1.2.2.2.1 t8 && true) && true) && true) then f768F k ((t4, (t5, (t6, (t7, (kget y1.2.2.2.1 t8))))), x.2.2.1) else none) fun y9 =>
  bif ((kalive y1.2.2.2.1 t3) && ((decide ((0 : Int) ≤ y9)) && (decide (y9 < ((kget y1.2.2.2.1 t3).length : Int))))) then
  bif (kown y1.2.2.2.1 t3) then
  let t10 := (kset y1.2.2.2.1 t3 (Int.toNat y9) (((kget y1.2.2.2.1 t3).getD (Int.toNat y9) ((0 : Int), ((0 : Int), (ByteArray.empty, (ByteArray.empty, (ByteArray.empty, (false, (false, (0 : Int))))))))).1, (((kget y1.2.2.2.1 t3).getD (Int.toNat y9) ((0 : Int), ((0 : Int), (ByteArray.empty, (ByteArray.empty, (ByteArray.empty, (false, (false, (0 : Int))))))))).2.1, (((kget y1.2.2.2.1 t3).getD (Int.toNat y9) ((0 : Int), ((0 : Int), (ByteArray.empty, (ByteArray.empty, (ByteArray.empty, (false, (false, (0 : Int))))))))).2.2.1, (((kget y1.2.2.2.1 t3).getD (Int.toNat y9) ((0 : Int), ((0 : Int), (ByteArray.empty, (ByteArray.empty, (ByteArray.empty, (false, (false, (0 : Int))))))))).2.2.2.1, (((kget y1.2.2.2.1 t3).getD (Int.toNat y9) ((0 : Int), ((0 : Int), (ByteArray.empty, (ByteArray.empty, (ByteArray.empty, (false, (false, (0 : Int))))))))).2.2.2.2.1, (((kget y1.2.2.2.1 t3).getD (Int.toNat y9) ((0 : Int), ((0 : Int), (ByteArray.empty, (ByteArray.empty, (ByteArray.empty, (false, (false, (0 : Int))))))))).2.2.2.2.2.1, (true, ((kget y1.2.2.2.1 t3).getD (Int.toNat y9) ((0 : Int), ((0 : Int), (ByteArray.empty, (ByteArray.empty, (ByteArray.empty, (false, (false, (0 : Int))))))))).2.2.2.2.2.2.2))))))))
  some ((0 : Int), y1.2.2.1, t10, ())
  else none
  else none
  else none
theorem f771v0Ok (k : Nat) : GnV P 71 f771v0I f771v0U (f771v0F k) :=
  gs htm0 (f771v0T k) Tryz.func71 (by kernel_rfl) SumsOk.nil [.dat .bool] [] none fun _ => by kernel_rfl
/-! ## midrange/messages.remove, handed what it may write -/
noncomputable def f764v0I : Shape := ⟨[(0, .agg [.ro Y10, .own 0]), (1, .one (.str)), (2, .one (.int .i64))], [(0, .row 69 (.pair .str Y16) .plain), (1, .heap 42 Y3)], 2, []⟩
noncomputable def f764v0U : Shape := ⟨[(0, .one (.int .i64))], [(0, .row 69 (.pair .str Y16) .plain), (1, .heap 42 Y3)], 2, []⟩
noncomputable def f764v0T (k : Nat) : TB P := TB.nil |>.g (f802v0Ok k) |>.u (f784Ok k) |>.g (f771v0Ok k) |>.u (f770Ok k) |>.u (f768Ok k) |>.u (f752Ok k)
noncomputable def f764v0F (k : Nat) (x : D106) : Option (D105) :=
  Option.bind (bif (((x.2.2.2.1.all fun q => (true && (true && (true && (true && (kalive x.2.2.2.2.1 q.2.2.2.2)))))) && true) && true) then f752F k ((x.1, (x.2.2.2.1.map fun q => (q.1, (q.2.1, (q.2.2.1, (q.2.2.2.1, (kget x.2.2.2.2.1 q.2.2.2.2))))))), x.2.1) else none) fun y1 =>
  bif ((decide ((0 : Int) ≤ y1)) && (decide (y1 < (x.2.2.2.1.length : Int)))) then
  let t2 := (x.2.2.2.1.getD (Int.toNat y1) (ByteArray.empty, ((0 : Int), (false, ((0 : Int), (0 : Nat)))))).1
  let t3 := (x.2.2.2.1.getD (Int.toNat y1) (ByteArray.empty, ((0 : Int), (false, ((0 : Int), (0 : Nat)))))).2.1
  let t4 := (x.2.2.2.1.getD (Int.toNat y1) (ByteArray.empty, ((0 : Int), (false, ((0 : Int), (0 : Nat)))))).2.2.1
  let t5 := (x.2.2.2.1.getD (Int.toNat y1) (ByteArray.empty, ((0 : Int), (false, ((0 : Int), (0 : Nat)))))).2.2.2.1
  let t6 := (x.2.2.2.1.getD (Int.toNat y1) (ByteArray.empty, ((0 : Int), (false, ((0 : Int), (0 : Nat)))))).2.2.2.2
  Option.bind (bif (((kalive x.2.2.2.2.1 t6 && true) && true) && true) then f768F k ((t2, (t3, (t4, (t5, (kget x.2.2.2.2.1 t6))))), x.2.2.1) else none) fun y7 =>
  bif (decide (y7 < (0 : Int))) then
    some ((0 : Int), x.2.2.2.1, x.2.2.2.2.1, ())
  else
  let t8 := (x.2.2.2.1.getD (Int.toNat y1) (ByteArray.empty, ((0 : Int), (false, ((0 : Int), (0 : Nat)))))).2.2.2.2
  bif ((kalive x.2.2.2.2.1 t8) && ((decide ((0 : Int) ≤ y7)) && (decide (y7 < ((kget x.2.2.2.2.1 t8).length : Int))))) then
  bif (kalive x.2.2.2.2.1 t8) then
  let t9 := ((kget x.2.2.2.2.1 t8).getD (Int.toNat y7) ((0 : Int), ((0 : Int), (ByteArray.empty, (ByteArray.empty, (ByteArray.empty, (false, (false, (0 : Int))))))))).1
  let t10 := ((kget x.2.2.2.2.1 t8).getD (Int.toNat y7) ((0 : Int), ((0 : Int), (ByteArray.empty, (ByteArray.empty, (ByteArray.empty, (false, (false, (0 : Int))))))))).2.1
  let t11 := ((kget x.2.2.2.2.1 t8).getD (Int.toNat y7) ((0 : Int), ((0 : Int), (ByteArray.empty, (ByteArray.empty, (ByteArray.empty, (false, (false, (0 : Int))))))))).2.2.1
  let t12 := ((kget x.2.2.2.2.1 t8).getD (Int.toNat y7) ((0 : Int), ((0 : Int), (ByteArray.empty, (ByteArray.empty, (ByteArray.empty, (false, (false, (0 : Int))))))))).2.2.2.1
  let t13 := ((kget x.2.2.2.2.1 t8).getD (Int.toNat y7) ((0 : Int), ((0 : Int), (ByteArray.empty, (ByteArray.empty, (ByteArray.empty, (false, (false, (0 : Int))))))))).2.2.2.2.1
  let t14 := ((kget x.2.2.2.2.1 t8).getD (Int.toNat y7) ((0 : Int), ((0 : Int), (ByteArray.empty, (ByteArray.empty, (ByteArray.empty, (false, (false, (0 : Int))))))))).2.2.2.2.2.1
  let t15 := ((kget x.2.2.2.2.1 t8).getD (Int.toNat y7) ((0 : Int), ((0 : Int), (ByteArray.empty, (ByteArray.empty, (ByteArray.empty, (false, (false, (0 : Int))))))))).2.2.2.2.2.2.1
  let t16 := ((kget x.2.2.2.2.1 t8).getD (Int.toNat y7) ((0 : Int), ((0 : Int), (ByteArray.empty, (ByteArray.empty, (ByteArray.empty, (false, (false, (0 : Int))))))))).2.2.2.2.2.2.2
  Option.bind (f784F k (t9, (t10, (t11, (t12, (t13, (t14, (t15, t16)))))))) fun y17 =>
  bif y17 then
    Option.bind (bif (((x.2.2.2.1.all fun q => (true && (true && (true && (true && (kalive x.2.2.2.2.1 q.2.2.2.2)))))) && true) && true) then f770F k ((x.1, (x.2.2.2.1.map fun q => (q.1, (q.2.1, (q.2.2.1, (q.2.2.2.1, (kget x.2.2.2.2.1 q.2.2.2.2))))))), (t9, (t10, (t11, (t12, (t13, (t14, (t15, t16)))))))) else none) fun y18 =>
    Option.bind (f771v0F k (x.1, x.2.1, t9, t10, t11, t12, t13, t14, t15, t16, y18, x.2.2.2.1, x.2.2.2.2.1, ())) fun y19 =>
    bif (y19.1 != (0 : Int)) then
      some (y19.1, y19.2.1, y19.2.2.1, ())
    else
    let t20 := (y19.2.1.getD (Int.toNat y1) (ByteArray.empty, ((0 : Int), (false, ((0 : Int), (0 : Nat)))))).1
    let t21 := (y19.2.1.getD (Int.toNat y1) (ByteArray.empty, ((0 : Int), (false, ((0 : Int), (0 : Nat)))))).2.1
    let t22 := (y19.2.1.getD (Int.toNat y1) (ByteArray.empty, ((0 : Int), (false, ((0 : Int), (0 : Nat)))))).2.2.1
    let t23 := (y19.2.1.getD (Int.toNat y1) (ByteArray.empty, ((0 : Int), (false, ((0 : Int), (0 : Nat)))))).2.2.2.1
    let t24 := (y19.2.1.getD (Int.toNat y1) (ByteArray.empty, ((0 : Int), (false, ((0 : Int), (0 : Nat)))))).2.2.2.2
    Option.bind (bif (((kalive y19.2.2.1 t24 && true) && true) && true) then f768F k ((t20, (t21, (t22, (t23, (kget y19.2.2.1 t24))))), x.2.2.1) else none) fun y25 =>
    let t26 := (y19.2.1.getD (Int.toNat y1) (ByteArray.empty, ((0 : Int), (false, ((0 : Int), (0 : Nat)))))).2.2.2.2
    Option.bind (f802v0F k (t26, y25, (IntKind.i64.wrap (y25 + (1 : Int))), y19.2.2.1, ())) fun y27 =>
    let t28 := (y19.2.1.set (Int.toNat y1) ((y19.2.1.getD (Int.toNat y1) (ByteArray.empty, ((0 : Int), (false, ((0 : Int), (0 : Nat)))))).1, ((y19.2.1.getD (Int.toNat y1) (ByteArray.empty, ((0 : Int), (false, ((0 : Int), (0 : Nat)))))).2.1, ((y19.2.1.getD (Int.toNat y1) (ByteArray.empty, ((0 : Int), (false, ((0 : Int), (0 : Nat)))))).2.2.1, ((y19.2.1.getD (Int.toNat y1) (ByteArray.empty, ((0 : Int), (false, ((0 : Int), (0 : Nat)))))).2.2.2.1, y27.1)))))
    some ((0 : Int), t28, y27.2.1, ())
  else
  let t29 := (x.2.2.2.1.getD (Int.toNat y1) (ByteArray.empty, ((0 : Int), (false, ((0 : Int), (0 : Nat)))))).2.2.2.2
  Option.bind (f802v0F k (t29, y7, (IntKind.i64.wrap (y7 + (1 : Int))), x.2.2.2.2.1, ())) fun y30 =>
  let t31 := (x.2.2.2.1.set (Int.toNat y1) ((x.2.2.2.1.getD (Int.toNat y1) (ByteArray.empty, ((0 : Int), (false, ((0 : Int), (0 : Nat)))))).1, ((x.2.2.2.1.getD (Int.toNat y1) (ByteArray.empty, ((0 : Int), (false, ((0 : Int), (0 : Nat)))))).2.1, ((x.2.2.2.1.getD (Int.toNat y1) (ByteArray.empty, ((0 : Int), (false, ((0 : Int), (0 : Nat)))))).2.2.1, ((x.2.2.2.1.getD (Int.toNat y1) (ByteArray.empty, ((0 : Int), (false, ((0 : Int), (0 : Nat)))))).2.2.2.1, y30.1)))))
  some ((0 : Int), t31, y30.2.1, ())
  else none
  else none
  else none
theorem f764v0Ok (k : Nat) : GnV P 64 f764v0I f764v0U (f764v0F k) :=
  gs htm0 (f764v0T k) Tryz.func64 (by kernel_rfl) SumsOk.nil [.dat .bool] [] none fun _ => by kernel_rfl
/-! ## midrange/messages.Received -/
noncomputable def f719T (k : Nat) : TB P := TB.nil |>.g (f764v0Ok k) |>.u (f763Ok k) |>.u (f762Ok k) |>.u (f761Ok k) |>.u (f760Ok k) |>.g (f754v0Ok k) |>.u (f752Ok k) |>.u (f751Ok k)
noncomputable def f719F (k : Nat) (x : D14 × D103) : Option (D107) :=
  Option.bind (f751F k ((x.1.1, x.1.2), [x.2.1])) fun y1 =>
  Option.bind (f762F k (x.2.2.1, (0 : Int), (4 : Int))) fun y2 =>
  Option.bind (f761F k ((!y2), (4 : Int))) fun y3 =>
  Option.bind (f760F k [y1, y3]) fun y4 =>
  bif (y4 != (0 : Int)) then
    some (([], []), ((0 : Int), ((0 : Int), (ByteArray.empty, (ByteArray.empty, (ByteArray.empty, (false, (false, (0 : Int)))))))), y4)
  else
  Option.bind (f752F k ((x.1.1, x.1.2), x.2.1)) fun y5 =>
  bif ((decide ((0 : Int) ≤ y5)) && (decide (y5 < (x.1.2.length : Int)))) then
  let t6 := (x.1.2.getD (Int.toNat y5) (ByteArray.empty, ((0 : Int), (false, ((0 : Int), [])))))
  Option.bind (f763F k ((t6.1, (t6.2.1, (t6.2.2.1, (t6.2.2.2.1, t6.2.2.2.2)))), (x.2.1, (x.2.2.1, (x.2.2.2.1, x.2.2.2.2))))) fun y7 =>
  bif (decide (y7 < (0 : Int))) then
    some (([], []), ((0 : Int), ((0 : Int), (ByteArray.empty, (ByteArray.empty, (ByteArray.empty, (false, (false, (0 : Int)))))))), (40 : Int))
  else
  bif ((decide ((0 : Int) ≤ y5)) && (decide (y5 < (x.1.2.length : Int)))) then
  let t8 := (x.1.2.getD (Int.toNat y5) (ByteArray.empty, ((0 : Int), (false, ((0 : Int), [])))))
  bif ((decide ((0 : Int) ≤ y7)) && (decide (y7 < (t8.2.2.2.2.length : Int)))) then
  let t9 := (t8.2.2.2.2.getD (Int.toNat y7) ((0 : Int), ((0 : Int), (ByteArray.empty, (ByteArray.empty, (ByteArray.empty, (false, (false, (0 : Int)))))))))
  Option.bind (f754v0F k (x.1.1, x.1.2, [], ())) fun y10 =>
  bif (!x.2.2.2.2) then
    bif ((decide ((0 : Int) ≤ y5)) && (decide (y5 < (y10.2.2.1.length : Int)))) then
    let t11 := (y10.2.2.1.getD (Int.toNat y5) (ByteArray.empty, ((0 : Int), (false, ((0 : Int), (0 : Nat)))))).2.2.2.2
    bif ((kalive y10.2.1 t11) && ((decide ((0 : Int) ≤ y7)) && (decide (y7 < ((kget y10.2.1 t11).length : Int))))) then
    bif (kown y10.2.1 t11) then
    let t12 := (kset y10.2.1 t11 (Int.toNat y7) (((kget y10.2.1 t11).getD (Int.toNat y7) ((0 : Int), ((0 : Int), (ByteArray.empty, (ByteArray.empty, (ByteArray.empty, (false, (false, (0 : Int))))))))).1, (((kget y10.2.1 t11).getD (Int.toNat y7) ((0 : Int), ((0 : Int), (ByteArray.empty, (ByteArray.empty, (ByteArray.empty, (false, (false, (0 : Int))))))))).2.1, (((kget y10.2.1 t11).getD (Int.toNat y7) ((0 : Int), ((0 : Int), (ByteArray.empty, (ByteArray.empty, (ByteArray.empty, (false, (false, (0 : Int))))))))).2.2.1, (((kget y10.2.1 t11).getD (Int.toNat y7) ((0 : Int), ((0 : Int), (ByteArray.empty, (ByteArray.empty, (ByteArray.empty, (false, (false, (0 : Int))))))))).2.2.2.1, (((kget y10.2.1 t11).getD (Int.toNat y7) ((0 : Int), ((0 : Int), (ByteArray.empty, (ByteArray.empty, (ByteArray.empty, (false, (false, (0 : Int))))))))).2.2.2.2.1, (true, (((kget y10.2.1 t11).getD (Int.toNat y7) ((0 : Int), ((0 : Int), (ByteArray.empty, (ByteArray.empty, (ByteArray.empty, (false, (false, (0 : Int))))))))).2.2.2.2.2.2.1, ((kget y10.2.1 t11).getD (Int.toNat y7) ((0 : Int), ((0 : Int), (ByteArray.empty, (ByteArray.empty, (ByteArray.empty, (false, (false, (0 : Int))))))))).2.2.2.2.2.2.2))))))))
    bif (((y10.2.2.1.all fun q => (true && (true && (true && (true && (kro (List.map Kid.frz t12) q.2.2.2.2)))))) && true) && true) then
    some ((y10.1, (y10.2.2.1.map fun q => (q.1, (q.2.1, (q.2.2.1, (q.2.2.2.1, (kget (List.map Kid.frz t12) q.2.2.2.2))))))), (t9.1, (t9.2.1, (t9.2.2.1, (t9.2.2.2.1, (t9.2.2.2.2.1, (t9.2.2.2.2.2.1, (t9.2.2.2.2.2.2.1, t9.2.2.2.2.2.2.2))))))), (0 : Int))
    else none
    else none
    else none
    else none
  else
  Option.bind (f764v0F k (y10.1, x.2.1, t9.1, y10.2.2.1, y10.2.1, ())) fun y13 =>
  bif (y13.1 != (0 : Int)) then
    some (([], []), ((0 : Int), ((0 : Int), (ByteArray.empty, (ByteArray.empty, (ByteArray.empty, (false, (false, (0 : Int)))))))), y13.1)
  else
  bif (((y13.2.1.all fun q => (true && (true && (true && (true && (kro (List.map Kid.frz y13.2.2.1) q.2.2.2.2)))))) && true) && true) then
  some ((y10.1, (y13.2.1.map fun q => (q.1, (q.2.1, (q.2.2.1, (q.2.2.2.1, (kget (List.map Kid.frz y13.2.2.1) q.2.2.2.2))))))), (t9.1, (t9.2.1, (t9.2.2.1, (t9.2.2.2.1, (t9.2.2.2.2.1, (t9.2.2.2.2.2.1, (t9.2.2.2.2.2.2.1, t9.2.2.2.2.2.2.2))))))), (0 : Int))
  else none
  else none
  else none
  else none
theorem f719Ok (k : Nat) : FnV P 19 [.agg Y11, .agg Y18] [.agg Y11, .agg Y3, .dat (.int .i64)] (f719F k) :=
  fs htm0 (f719T k) Tryz.func19 (by kernel_rfl) SumsOk.nil (some (42, Y3)) fun _ => by kernel_rfl
/-! ## midrange/messages.replyErr -/
noncomputable def f769T (k : Nat) : TB P := TB.nil |>.u (f806Ok k) |>.u (f797Ok k) |>.u (f790Ok k) |>.u (f770Ok k) |>.u (f761Ok k)
noncomputable def f769F (k : Nat) (x : D108) : Option (Int) :=
  Option.bind (f797F k (x.2.2, (32 : Int))) fun y1 =>
  bif (y1 != (0 : Int)) then
    some y1
  else
  bif (strEq x.2.2 ByteArray.empty) then
    some y1
  else
  Option.bind (f770F k ((x.1.1, x.1.2), (x.2.1.1, (x.2.1.2.1, (x.2.1.2.2.1, (x.2.1.2.2.2.1, (x.2.1.2.2.2.2.1, (x.2.1.2.2.2.2.2.1, (x.2.1.2.2.2.2.2.2.1, x.2.1.2.2.2.2.2.2.2))))))))) fun y2 =>
  bif (strEq x.2.2 y2) then
    some y1
  else
  Option.bind (f790F k (x.1.1, x.2.1.2.2.1)) fun y3 =>
  bif (decide (y3 ≥ (0 : Int))) then
    bif ((decide ((0 : Int) ≤ (mxI y3 (0 : Int)))) && (decide ((mxI y3 (0 : Int)) < (x.1.1.length : Int)))) then
    let t4 := (x.1.1.getD (Int.toNat (mxI y3 (0 : Int))) (ByteArray.empty, ((0 : Int), (ByteArray.empty, (ByteArray.empty, ([], (ByteArray.empty, [])))))))
    bif (decide ((t4.2.2.2.2.2.2.length : Int) > (0 : Int))) then
      bif ((decide ((0 : Int) ≤ (mxI y3 (0 : Int)))) && (decide ((mxI y3 (0 : Int)) < (x.1.1.length : Int)))) then
      let t5 := (x.1.1.getD (Int.toNat (mxI y3 (0 : Int))) (ByteArray.empty, ((0 : Int), (ByteArray.empty, (ByteArray.empty, ([], (ByteArray.empty, [])))))))
      Option.bind (f806F k (t5.2.2.2.2.2.2, x.2.2)) fun y6 =>
      Option.bind (f761F k ((!y6), (39 : Int))) fun y7 =>
      some y7
      else none
    else
    Option.bind (f761F k (false, (39 : Int))) fun y8 =>
    some y8
    else none
  else
  Option.bind (f761F k (false, (39 : Int))) fun y9 =>
  some y9
theorem f769Ok (k : Nat) : FnV P 69 [.agg Y11, .agg Y3, .dat .str] [.dat (.int .i64)] (f769F k) :=
  fs tm (f769T k) Tryz.func69 (by kernel_rfl) SumsOk.nil none fun _ => by kernel_rfl
/-! ## midrange/messages.Replied -/
noncomputable def f721T (k : Nat) : TB P := TB.nil |>.g (f771v0Ok k) |>.u (f770Ok k) |>.u (f769Ok k) |>.u (f768Ok k) |>.u (f761Ok k) |>.u (f760Ok k) |>.g (f754v0Ok k) |>.u (f752Ok k) |>.u (f751Ok k)
noncomputable def f721p0 {R : Type} (k : Nat) (k0 : D109 → Option R) (v : D109) : Option R :=
  bif (strEq v.2.1 ByteArray.empty) then
    Option.bind (f770F k ((v.2.2.1, v.2.2.2.1), (v.2.2.2.2.1, (v.2.2.2.2.2.1, (v.2.2.2.2.2.2.1, (v.2.2.2.2.2.2.2.1, (v.2.2.2.2.2.2.2.2.1, (v.2.2.2.2.2.2.2.2.2.1, (v.2.2.2.2.2.2.2.2.2.2.1, v.2.2.2.2.2.2.2.2.2.2.2.1))))))))) fun y10 =>
    k0 (v.1, y10, v.2.2.1, v.2.2.2.1, v.2.2.2.2.1, v.2.2.2.2.2.1, v.2.2.2.2.2.2.1, v.2.2.2.2.2.2.2.1, v.2.2.2.2.2.2.2.2.1, v.2.2.2.2.2.2.2.2.2.1, v.2.2.2.2.2.2.2.2.2.2.1, v.2.2.2.2.2.2.2.2.2.2.2.1, v.2.2.2.2.2.2.2.2.2.2.2.2.1, v.2.2.2.2.2.2.2.2.2.2.2.2.2.1, v.2.2.2.2.2.2.2.2.2.2.2.2.2.2.1, ())
  else
  k0 (v.1, v.2.1, v.2.2.1, v.2.2.2.1, v.2.2.2.2.1, v.2.2.2.2.2.1, v.2.2.2.2.2.2.1, v.2.2.2.2.2.2.2.1, v.2.2.2.2.2.2.2.2.1, v.2.2.2.2.2.2.2.2.2.1, v.2.2.2.2.2.2.2.2.2.2.1, v.2.2.2.2.2.2.2.2.2.2.2.1, v.2.2.2.2.2.2.2.2.2.2.2.2.1, v.2.2.2.2.2.2.2.2.2.2.2.2.2.1, v.2.2.2.2.2.2.2.2.2.2.2.2.2.2.1, ())
noncomputable def f721p0S (k : Nat) := partSum ⟨[(1, .one (.str)), (3, .one (.str)), (4, .one (.ptr 0 0)), (8, .one (.ptr 1 0)), (13, .one (.ptr 2 0))], [(0, .var 25 [.ro Y10, .ro (.pair .str Y5)]), (1, .var 25 [.own 3, .own 4]), (2, .var 42 [.int .i64, .int .i64, .str, .str, .str, .bool, .bool, .int .i64]), (3, .row 82 Y10 .plain), (4, .row 69 (.pair .str Y16) .plain), (5, .heap 42 Y3)], 6, []⟩ ⟨[1, 3, 4, 8, 13], [], []⟩ fun R K v => f721p0 k (fun w => K .normal (encSt ⟨[(1, .one (.str)), (3, .one (.str)), (4, .one (.ptr 0 0)), (8, .one (.ptr 1 0)), (13, .one (.ptr 2 0))], [(0, .var 25 [.ro Y10, .ro (.pair .str Y5)]), (1, .var 25 [.own 3, .own 4]), (2, .var 42 [.int .i64, .int .i64, .str, .str, .str, .bool, .bool, .int .i64]), (3, .row 82 Y10 .plain), (4, .row 69 (.pair .str Y16) .plain), (5, .heap 42 Y3)], 6, []⟩ w)) v
theorem f721p0O (k : Nat) : SumO P Tryz.f21 1022 (f721p0S k) := pt htm0 (f721T k) ⟨[1, 3, 4, 8, 9, 13], [], []⟩ SumsOk.nil fun _ _ _ => by kernel_rfl
noncomputable def f721F (k : Nat) (x : D110) : Option (D14 × Int) :=
  Option.bind (f751F k ((x.1.1, x.1.2), [x.2.1])) fun y1 =>
  bif (y1 != (0 : Int)) then
    some (([], []), y1)
  else
  Option.bind (f752F k ((x.1.1, x.1.2), x.2.1)) fun y2 =>
  bif ((decide ((0 : Int) ≤ y2)) && (decide (y2 < (x.1.2.length : Int)))) then
  let t3 := (x.1.2.getD (Int.toNat y2) (ByteArray.empty, ((0 : Int), (false, ((0 : Int), [])))))
  Option.bind (f768F k ((t3.1, (t3.2.1, (t3.2.2.1, (t3.2.2.2.1, t3.2.2.2.2)))), x.2.2.1)) fun y4 =>
  bif (decide (y4 < (0 : Int))) then
    some (([], []), (11 : Int))
  else
  bif ((decide ((0 : Int) ≤ y4)) && (decide (y4 < (t3.2.2.2.2.length : Int)))) then
  let t5 := (t3.2.2.2.2.getD (Int.toNat y4) ((0 : Int), ((0 : Int), (ByteArray.empty, (ByteArray.empty, (ByteArray.empty, (false, (false, (0 : Int)))))))))
  Option.bind (f761F k ((t5.2.1 != (1 : Int)), (4 : Int))) fun y6 =>
  Option.bind (f761F k (t5.2.2.2.2.2.2.1, (26 : Int))) fun y7 =>
  Option.bind (f760F k [y6, y7]) fun y8 =>
  bif (y8 != (0 : Int)) then
    some (([], []), y8)
  else
  Option.bind (f769F k ((x.1.1, x.1.2), (t5.1, (t5.2.1, (t5.2.2.1, (t5.2.2.2.1, (t5.2.2.2.2.1, (t5.2.2.2.2.2.1, (t5.2.2.2.2.2.2.1, t5.2.2.2.2.2.2.2))))))), x.2.2.2)) fun y9 =>
  bif (y9 != (0 : Int)) then
    some (([], []), y9)
  else
  f721p0 k
    (fun (w11 : D109) =>
      Option.bind (f754v0F k (w11.2.2.1, w11.2.2.2.1, w11.2.2.2.2.2.2.2.2.2.2.2.2.2.2.1, ())) fun y12 =>
      Option.bind (f771v0F k (y12.1, w11.1, w11.2.2.2.2.1, w11.2.2.2.2.2.1, w11.2.2.2.2.2.2.1, w11.2.2.2.2.2.2.2.1, w11.2.2.2.2.2.2.2.2.1, w11.2.2.2.2.2.2.2.2.2.1, w11.2.2.2.2.2.2.2.2.2.2.1, w11.2.2.2.2.2.2.2.2.2.2.2.1, w11.2.1, y12.2.2.1, y12.2.1, ())) fun y13 =>
      bif (y13.1 != (0 : Int)) then
        some (([], []), y13.1)
      else
      bif (((y13.2.1.all fun q => (true && (true && (true && (true && (kro (List.map Kid.frz y13.2.2.1) q.2.2.2.2)))))) && true) && true) then
      some ((y12.1, (y13.2.1.map fun q => (q.1, (q.2.1, (q.2.2.1, (q.2.2.2.1, (kget (List.map Kid.frz y13.2.2.1) q.2.2.2.2))))))), (0 : Int))
      else none)
    (x.2.1, x.2.2.2, x.1.1, x.1.2, t5.1, t5.2.1, t5.2.2.1, t5.2.2.2.1, t5.2.2.2.2.1, t5.2.2.2.2.2.1, t5.2.2.2.2.2.2.1, t5.2.2.2.2.2.2.2, [], [], [], ())
  else none
  else none
theorem f721Ok (k : Nat) : FnV P 21 [.agg Y11, .dat .str, .dat (.int .i64), .dat .str] [.agg Y11, .dat (.int .i64)] (f721F k) :=
  fs htm0 (f721T k) Tryz.func21 (by kernel_rfl) (SumsOk.nil |>.s (f721p0O k) (by kernel_rfl)) (some (42, Y3)) fun _ => by kernel_rfl
/-! ## midrange/messages.Removed -/
noncomputable def f723T (k : Nat) : TB P := TB.nil |>.u (f768Ok k) |>.g (f764v0Ok k) |>.g (f754v0Ok k) |>.u (f752Ok k) |>.u (f751Ok k)
noncomputable def f723l0s {R : Type} (k : Nat) (rec : D115 → Option R) (k0 : D111 → Option R) (v : D115) : Option R :=
  bif (decide (v.2.2.2.1 < v.2.2.1)) then
    bif ((decide ((0 : Int) ≤ v.2.2.2.1)) && (decide (v.2.2.2.1 < (v.2.1.length : Int)))) then
    let t4 := (v.2.1.getD (Int.toNat v.2.2.2.1) ((0 : Int), ((0 : Int), (ByteArray.empty, (ByteArray.empty, (ByteArray.empty, (false, (false, (0 : Int)))))))))
    bif (decide ((v.2.2.2.2.2.2.1.length + [t4.1].length) * 8 ≤ 140737488355328) && decide (v.2.2.2.2.2.2.1.length + [t4.1].length ≤ 9223372036854775807)) then
    rec (v.1, v.2.1, v.2.2.1, (IntKind.i64.wrap (v.2.2.2.1 + (1 : Int))), v.2.2.2.2.1, v.2.2.2.2.2.1, (v.2.2.2.2.2.2.1 ++ [t4.1]), v.2.2.2.2.2.2.2.1, v.2.2.2.2.2.2.2.2.1, v.2.2.2.2.2.2.2.2.2.1, ())
    else none
    else none
  else
  k0 (v.1, v.2.2.2.2.1, v.2.2.2.2.2.1, v.2.2.2.2.2.2.1, v.2.2.2.2.2.2.2.1, v.2.2.2.2.2.2.2.2.1, v.2.2.2.2.2.2.2.2.2.1, ())
noncomputable def f723l0 {R : Type} (k : Nat) (k0 : D111 → Option R) (v : D115) : Option R := iterS (fun rec v => f723l0s k rec k0 v) k v
noncomputable def f723l0S (k : Nat) := loopSum ⟨[(1, .one (.str)), (3, .one (.ptr 0 0)), (6, .one (.ptr 1 0)), (10, .one (.own 2)), (37, .one (.ro Y3)), (38, .one (.int .i64)), (39, .one (.int .i64))], [(0, .var 25 [.ro Y10, .ro (.pair .str Y5)]), (1, .var 25 [.own 3, .own 4]), (2, .row 3 (.int .i64) .plain), (3, .row 82 Y10 .plain), (4, .row 69 (.pair .str Y16) .plain), (5, .heap 42 Y3)], 6, []⟩ ⟨[1, 3, 6, 10, 37, 38, 39], [(10, 3, (.int .i64))], []⟩ k fun R rec K v => f723l0s k rec (fun w => K (.exit 0) (encSt ⟨[(1, .one (.str)), (3, .one (.ptr 0 0)), (6, .one (.ptr 1 0)), (10, .one (.own 2))], [(0, .var 25 [.ro Y10, .ro (.pair .str Y5)]), (1, .var 25 [.own 3, .own 4]), (2, .row 3 (.int .i64) .plain), (3, .row 82 Y10 .plain), (4, .row 69 (.pair .str Y16) .plain), (5, .heap 42 Y3)], 6, []⟩ w)) v
theorem f723l0O (k : Nat) : SumO P Tryz.f23 2006 (f723l0S k) := lp htm0 (f723T k) ⟨[1, 3, 6, 7, 10], [], []⟩ SumsOk.nil (by kernel_rfl) fun _ _ _ _ => by kernel_rfl
noncomputable def f723p1 {R : Type} (k : Nat) (k0 : D111 → Option R) (k1 : D114 → Option R) (v : D116) : Option R :=
  bif (v.2.1 == (-1 : Int)) then
    f723l0 k
      (fun (w5 : D111) =>
        k0 (w5.1, w5.2.1, w5.2.2.1, w5.2.2.2.1, w5.2.2.2.2.1, w5.2.2.2.2.2.1, w5.2.2.2.2.2.2.1, ()))
      (v.1, v.2.2.2.2.2.2.2.2.1, (v.2.2.2.2.2.2.2.2.1.length : Int), (0 : Int), v.2.2.1, v.2.2.2.1, [], v.2.2.2.2.2.2.2.2.2.2.1, v.2.2.2.2.2.2.2.2.2.2.2.1, v.2.2.2.2.2.2.2.2.2.2.2.2.1, ())
  else
  Option.bind (f768F k ((v.2.2.2.2.1, (v.2.2.2.2.2.1, (v.2.2.2.2.2.2.1, (v.2.2.2.2.2.2.2.1, v.2.2.2.2.2.2.2.2.1)))), v.2.1)) fun y6 =>
  bif (decide (y6 < (0 : Int))) then
    k1 (v.1, (11 : Int), v.2.2.1, v.2.2.2.1, v.2.2.2.2.2.2.2.2.2.1, v.2.2.2.2.2.2.2.2.2.2.2.2.1, ())
  else
  k0 (v.1, v.2.2.1, v.2.2.2.1, v.2.2.2.2.2.2.2.2.2.1, v.2.2.2.2.2.2.2.2.2.2.1, v.2.2.2.2.2.2.2.2.2.2.2.1, v.2.2.2.2.2.2.2.2.2.2.2.2.1, ())
noncomputable def f723p1S (k : Nat) := partSum ⟨[(1, .one (.str)), (2, .one (.int .i64)), (3, .one (.ptr 0 0)), (6, .one (.ptr 1 0)), (9, .one (.ptr 2 0)), (10, .one (.own 3))], [(0, .var 25 [.ro Y10, .ro (.pair .str Y5)]), (1, .var 25 [.own 4, .own 5]), (2, .var 69 [.str, .int .i64, .bool, .int .i64, .ro Y3]), (3, .row 3 (.int .i64) .plain), (4, .row 82 Y10 .plain), (5, .row 69 (.pair .str Y16) .plain), (6, .heap 42 Y3)], 7, []⟩ ⟨[1, 2, 3, 6, 9, 10], [], []⟩ fun R K v => f723p1 k (fun w => K .normal (encSt ⟨[(1, .one (.str)), (3, .one (.ptr 0 0)), (6, .one (.ptr 1 0)), (10, .one (.own 2))], [(0, .var 25 [.ro Y10, .ro (.pair .str Y5)]), (1, .var 25 [.own 3, .own 4]), (2, .row 3 (.int .i64) .plain), (3, .row 82 Y10 .plain), (4, .row 69 (.pair .str Y16) .plain), (5, .heap 42 Y3)], 6, []⟩ w)) (fun w => K .ret (encSt ⟨[(1, .one (.str)), (3, .one (.ptr 0 0)), (6, .one (.ptr 1 0)), (7, .one (.int .i64)), (10, .one (.own 2))], [(0, .var 25 [.ro Y10, .ro (.pair .str Y5)]), (1, .var 25 [.emp, .emp]), (2, .row 3 (.int .i64) .plain), (3, .heap 42 Y3)], 4, []⟩ w)) v
theorem f723p1O (k : Nat) : SumO P Tryz.f23 62 (f723p1S k) := pt htm0 (f723T k) ⟨[1, 3, 6, 7, 10, 13], [], []⟩ (SumsOk.nil |>.s (f723l0O k) (by kernel_rfl)) fun _ _ _ => by kernel_rfl
noncomputable def f723l2s {R : Type} (k : Nat) (rec : D117 → Option R) (k0 : D112 → Option R) (k1 : D113 → Option R) (v : D117) : Option R :=
  bif (decide (v.2.2.1 < v.2.1)) then
    bif ((decide ((0 : Int) ≤ v.2.2.1)) && (decide (v.2.2.1 < (v.2.2.2.2.1.length : Int)))) then
    Option.bind (f764v0F k (v.2.2.2.1, v.1, (v.2.2.2.2.1.getD (Int.toNat v.2.2.1) (0 : Int)), v.2.2.2.2.2.2.2.1, v.2.2.2.2.2.2.2.2.1, ())) fun y9 =>
    bif (y9.1 != (0 : Int)) then
      k0 (y9.1, v.2.2.2.1, y9.2.1, y9.2.2.1, ())
    else
    rec (v.1, v.2.1, (IntKind.i64.wrap (v.2.2.1 + (1 : Int))), v.2.2.2.1, v.2.2.2.2.1, v.2.2.2.2.2.1, v.2.2.2.2.2.2.1, y9.2.1, y9.2.2.1, ())
    else none
  else
  k1 (v.2.2.2.1, v.2.2.2.2.2.1, v.2.2.2.2.2.2.1, v.2.2.2.2.2.2.2.1, v.2.2.2.2.2.2.2.2.1, ())
noncomputable def f723l2 {R : Type} (k : Nat) (k0 : D112 → Option R) (k1 : D113 → Option R) (v : D117) : Option R := iterS (fun rec v => f723l2s k rec k0 k1 v) k v
noncomputable def f723l2S (k : Nat) := loopSum ⟨[(1, .one (.str)), (6, .one (.ptr 0 0)), (13, .one (.ptr 1 0)), (56, .one (.own 2)), (57, .one (.int .i64)), (58, .one (.int .i64))], [(0, .var 25 [.own 3, .own 4]), (1, .var 25 [.ro Y10, .own 5]), (2, .row 3 (.int .i64) .plain), (3, .row 82 Y10 .plain), (4, .row 69 (.pair .str Y16) .plain), (5, .row 69 (.pair .str Y16) .plain), (6, .heap 42 Y3)], 7, []⟩ ⟨[1, 6, 13, 56, 57, 58], [], []⟩ k fun R rec K v => f723l2s k rec (fun w => K .ret (encSt ⟨[(6, .one (.ptr 0 0)), (7, .one (.int .i64)), (13, .one (.ptr 1 0))], [(0, .var 25 [.emp, .emp]), (1, .var 25 [.ro Y10, .own 2]), (2, .row 69 (.pair .str Y16) .plain), (3, .heap 42 Y3)], 4, []⟩ w)) (fun w => K (.exit 2) (encSt ⟨[(6, .one (.ptr 0 0)), (13, .one (.ptr 1 0))], [(0, .var 25 [.own 2, .own 3]), (1, .var 25 [.ro Y10, .own 4]), (2, .row 82 Y10 .plain), (3, .row 69 (.pair .str Y16) .plain), (4, .row 69 (.pair .str Y16) .plain), (5, .heap 42 Y3)], 6, []⟩ w)) v
theorem f723l2O (k : Nat) : SumO P Tryz.f23 1018 (f723l2S k) := lp htm0 (f723T k) ⟨[6, 7, 13], [], []⟩ SumsOk.nil (by kernel_rfl) fun _ _ _ _ => by kernel_rfl
noncomputable def f723F (k : Nat) (x : D14 × ByteArray × Int) : Option (D14 × Int) :=
  Option.bind (f751F k ((x.1.1, x.1.2), [x.2.1])) fun y1 =>
  bif (y1 != (0 : Int)) then
    some (([], []), y1)
  else
  Option.bind (f752F k ((x.1.1, x.1.2), x.2.1)) fun y2 =>
  bif ((decide ((0 : Int) ≤ y2)) && (decide (y2 < (x.1.2.length : Int)))) then
  let t3 := (x.1.2.getD (Int.toNat y2) (ByteArray.empty, ((0 : Int), (false, ((0 : Int), [])))))
  f723p1 k
    (fun (w7 : D111) =>
      Option.bind (f754v0F k (w7.2.1, w7.2.2.1, w7.2.2.2.2.2.2.1, ())) fun y8 =>
      f723l2 k
        (fun (w10 : D112) =>
          some (([], []), w10.1))
        (fun (w11 : D113) =>
          bif (((w11.2.2.2.1.all fun q => (true && (true && (true && (true && (kro (List.map Kid.frz w11.2.2.2.2.1) q.2.2.2.2)))))) && true) && true) then
          some ((w11.1, (w11.2.2.2.1.map fun q => (q.1, (q.2.1, (q.2.2.1, (q.2.2.2.1, (kget (List.map Kid.frz w11.2.2.2.2.1) q.2.2.2.2))))))), (0 : Int))
          else none)
        (w7.1, (w7.2.2.2.1.length : Int), (0 : Int), y8.1, w7.2.2.2.1, w7.2.2.2.2.1, w7.2.2.2.2.2.1, y8.2.2.1, y8.2.1, ()))
    (fun (w12 : D114) =>
      some (([], []), w12.2.1))
    (x.2.1, x.2.2, x.1.1, x.1.2, t3.1, t3.2.1, t3.2.2.1, t3.2.2.2.1, t3.2.2.2.2, [x.2.2], [], [], [], ())
  else none
theorem f723Ok (k : Nat) : FnV P 23 [.agg Y11, .dat .str, .dat (.int .i64)] [.agg Y11, .dat (.int .i64)] (f723F k) :=
  fs htm0 (f723T k) Tryz.func23 (by kernel_rfl) (SumsOk.nil |>.s (f723l2O k) (by kernel_rfl) |>.s (f723p1O k) (by kernel_rfl) |>.s (f723l0O k) (by kernel_rfl)) (some (42, Y3)) fun _ => by kernel_rfl
end Go.Proofs.YthcmomgkfjjajaaGreatDoor
