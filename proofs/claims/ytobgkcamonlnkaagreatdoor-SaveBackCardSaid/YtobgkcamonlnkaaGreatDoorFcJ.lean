/- What functions of the program compute: each as a plain Lean function, and that the code comes to it. Printed by gen.py. -/
import Derived.Test.YtobgkcamonlnkaaGreatDoorFbJ
import Derived.Test.YtobgkcamonlnkaaGreatDoorProg
import Derived.Test.YtobgkcamonlnkaaGreatDoorSJ
/-! Printed by gen.py: what functions compute. -/
set_option linter.unusedVariables false
set_option maxRecDepth 100000
namespace Go.Proofs.YtobgkcamonlnkaaGreatDoor
open Go.Ab
/-! ## midrange/save.read$1 -/
noncomputable def f620F (k : Nat) (x : D56) : Option (Bool) :=
  none
theorem f620Ok (k : Nat) : FnV P 120 [.agg Y8] [.dat .bool] (f620F k) :=
  fs tm TB.nil Tryz.func120 (by kernel_rfl) SumsOk.nil none fun _ => by kernel_rfl
theorem f667V (k : Nat) : FnV P 167 [.dat .str, .dat .str] [.dat .str] (f667F k) := ⟨f667B, f667Ok k⟩
/-! ## midrange/save.zeros -/
noncomputable def f648T (k : Nat) : TB P := TB.nil |>.u (f667V k)
noncomputable def f648F (k : Nat) (x : ByteArray) : Option (Bool) :=
  Option.bind (f667F k (x, (⟨#[0]⟩ : ByteArray))) fun y1 =>
  some (strEq y1 ByteArray.empty)
theorem f648Ok (k : Nat) : FnV P 148 [.dat .str] [.dat .bool] (f648F k) :=
  fs tm (f648T k) Tryz.func148 (by kernel_rfl) SumsOk.nil none fun _ => by kernel_rfl
/-! ## midrange/save.blockError -/
noncomputable def f621T (k : Nat) : TB P := TB.nil |>.u (f648Ok k) |>.u (f562Ok k) |>.u (f561Ok k)
noncomputable def f621p0 {R : Type} (k : Nat) (k0 : D93 → Option R) (k1 : D94 → Option R) (v : D95) : Option R :=
  bif (decide (v.2.2.2.2.2.2.1 < (1 : Int))) then
    k0 (v.1, v.2.1, v.2.2.1, v.2.2.2.1, v.2.2.2.2.1, (0 : Int), (5 : Int), v.2.2.2.2.2.2.1, v.2.2.2.2.2.2.2.1, ())
  else
  bif (decide (v.2.2.2.2.2.2.1 > (52 : Int))) then
    k0 (v.1, v.2.1, v.2.2.1, v.2.2.2.1, v.2.2.2.2.1, (0 : Int), (5 : Int), v.2.2.2.2.2.2.1, v.2.2.2.2.2.2.2.1, ())
  else
  bif (decide (v.2.2.2.2.2.2.1 < (52 : Int))) then
    bif (!v.2.2.2.2.1) then
      k0 (v.1, v.2.1, v.2.2.1, v.2.2.2.1, v.2.2.2.2.1, (0 : Int), (5 : Int), v.2.2.2.2.2.2.1, v.2.2.2.2.2.2.2.1, ())
    else
    bif (sliceBds (IntKind.i64.wrap ((4 : Int) + v.2.2.2.2.2.2.1)) (56 : Int) (v.1.size : Int)) then
    let t4 := (v.1.extract (Int.toNat (IntKind.i64.wrap ((4 : Int) + v.2.2.2.2.2.2.1))) 56)
    Option.bind (f648F k t4) fun y5 =>
    bif (!y5) then
      k0 (v.1, v.2.1, v.2.2.1, v.2.2.2.1, v.2.2.2.2.1, (0 : Int), (5 : Int), v.2.2.2.2.2.2.1, v.2.2.2.2.2.2.2.1, ())
    else
    bif (sliceBds (57 : Int) (v.2.2.2.2.2.1.size : Int) (v.1.size : Int)) then
    Option.bind (f648F k (v.1.extract 57 (Int.toNat (v.2.2.2.2.2.1.size : Int)))) fun y6 =>
    bif (!y6) then
      k0 (v.1, v.2.1, v.2.2.1, v.2.2.2.1, v.2.2.2.2.1, (0 : Int), (5 : Int), v.2.2.2.2.2.2.1, v.2.2.2.2.2.2.2.1, ())
    else
    k1 (v.1, v.2.1, v.2.2.1, v.2.2.2.1, v.2.2.2.2.1, v.2.2.2.2.2.2.1, v.2.2.2.2.2.2.2.1, ())
    else none
    else none
  else
  bif (sliceBds (IntKind.i64.wrap ((4 : Int) + v.2.2.2.2.2.2.1)) (56 : Int) (v.1.size : Int)) then
  let t7 := (v.1.extract (Int.toNat (IntKind.i64.wrap ((4 : Int) + v.2.2.2.2.2.2.1))) 56)
  Option.bind (f648F k t7) fun y8 =>
  bif (!y8) then
    k0 (v.1, v.2.1, v.2.2.1, v.2.2.2.1, v.2.2.2.2.1, (0 : Int), (5 : Int), v.2.2.2.2.2.2.1, v.2.2.2.2.2.2.2.1, ())
  else
  bif (sliceBds (57 : Int) (v.2.2.2.2.2.1.size : Int) (v.1.size : Int)) then
  Option.bind (f648F k (v.1.extract 57 (Int.toNat (v.2.2.2.2.2.1.size : Int)))) fun y9 =>
  bif (!y9) then
    k0 (v.1, v.2.1, v.2.2.1, v.2.2.2.1, v.2.2.2.2.1, (0 : Int), (5 : Int), v.2.2.2.2.2.2.1, v.2.2.2.2.2.2.2.1, ())
  else
  k1 (v.1, v.2.1, v.2.2.1, v.2.2.2.1, v.2.2.2.2.1, v.2.2.2.2.2.2.1, v.2.2.2.2.2.2.2.1, ())
  else none
  else none
noncomputable def f621p0S (k : Nat) := partSum ⟨[(0, .one (.str)), (1, .one (.int .i64)), (2, .one (.int .i64)), (3, .one (.int .i64)), (4, .one (.bool)), (12, .one (.str)), (13, .one (.int .i64)), (14, .one (.bool))], [], 0, []⟩ ⟨[0, 1, 2, 3, 4, 12, 13, 14], [], []⟩ fun R K v => f621p0 k (fun w => K .ret (encSt ⟨[(0, .one (.str)), (1, .one (.int .i64)), (2, .one (.int .i64)), (3, .one (.int .i64)), (4, .one (.bool)), (10, .one (.int .i64)), (11, .one (.int .i64)), (13, .one (.int .i64)), (14, .one (.bool))], [], 0, []⟩ w)) (fun w => K .normal (encSt ⟨[(0, .one (.str)), (1, .one (.int .i64)), (2, .one (.int .i64)), (3, .one (.int .i64)), (4, .one (.bool)), (13, .one (.int .i64)), (14, .one (.bool))], [], 0, []⟩ w)) v
theorem f621p0O (k : Nat) : SumO P Tryz.f121 126 (f621p0S k) := pt tm (f621T k) ⟨[0, 1, 2, 3, 4, 10, 11, 13, 14], [], []⟩ SumsOk.nil fun _ _ _ => by kernel_rfl
noncomputable def f621p1 {R : Type} (k : Nat) (k0 : Int × Int × Int × Unit → Option R) (k1 : Int × Unit → Option R) (v : D94) : Option R :=
  bif (decide ((0 : Int) < (v.1.size : Int))) then
  bif ((IntKind.i64.wrap (bt v.1 (0 : Int))) != v.2.1) then
    k0 ((0 : Int), (14 : Int), v.2.2.2.2.2.1, ())
  else
  bif (sliceBds (1 : Int) (3 : Int) (v.1.size : Int)) then
  Option.bind (f561F k (v.2.2.1, (2 : Int))) fun y12 =>
  bif (!strEq (v.1.extract 1 3) (strOfNums y12)) then
    k0 ((0 : Int), (14 : Int), v.2.2.2.2.2.1, ())
  else
  bif (decide ((56 : Int) < (v.1.size : Int))) then
  bif ((IntKind.i64.wrap (bt v.1 (56 : Int))) != v.2.2.2.1) then
    k0 ((0 : Int), (6 : Int), v.2.2.2.2.2.1, ())
  else
  bif v.2.2.2.2.2.2.1 then
    bif (!v.2.2.2.2.1) then
      k0 ((0 : Int), (10 : Int), v.2.2.2.2.2.1, ())
    else
    bif (!v.2.2.2.2.2.2.1) then
      bif v.2.2.2.2.1 then
        k0 ((0 : Int), (9 : Int), v.2.2.2.2.2.1, ())
      else
      k1 (v.2.2.2.2.2.1, ())
    else
    k1 (v.2.2.2.2.2.1, ())
  else
  bif (!v.2.2.2.2.2.2.1) then
    bif v.2.2.2.2.1 then
      k0 ((0 : Int), (9 : Int), v.2.2.2.2.2.1, ())
    else
    k1 (v.2.2.2.2.2.1, ())
  else
  k1 (v.2.2.2.2.2.1, ())
  else none
  else none
  else none
noncomputable def f621p1S (k : Nat) := partSum ⟨[(0, .one (.str)), (1, .one (.int .i64)), (2, .one (.int .i64)), (3, .one (.int .i64)), (4, .one (.bool)), (13, .one (.int .i64)), (14, .one (.bool))], [], 0, []⟩ ⟨[0, 1, 2, 3, 4, 13, 14], [], []⟩ fun R K v => f621p1 k (fun w => K .ret (encSt ⟨[(10, .one (.int .i64)), (11, .one (.int .i64)), (13, .one (.int .i64))], [], 0, []⟩ w)) (fun w => K .normal (encSt ⟨[(13, .one (.int .i64))], [], 0, []⟩ w)) v
theorem f621p1O (k : Nat) : SumO P Tryz.f121 254 (f621p1S k) := pt tm (f621T k) ⟨[10, 11, 13], [], []⟩ SumsOk.nil fun _ _ _ => by kernel_rfl
noncomputable def f621F (k : Nat) (x : D96) : Option (Int × Int) :=
  bif ((x.1.size : Int) != (64 : Int)) then
    some ((0 : Int), (18 : Int))
  else
  bif (sliceBds (0 : Int) (60 : Int) (x.1.size : Int)) then
  Option.bind (f562F k (x.1.extract 0 60)) fun y1 =>
  Option.bind (f561F k (y1, (4 : Int))) fun y2 =>
  bif (sliceBds ((x.1.extract 0 60).size : Int) (x.1.size : Int) (x.1.size : Int)) then
  let t3 := (x.1.extract (Int.toNat ((x.1.extract 0 60).size : Int)) (Int.toNat (x.1.size : Int)))
  bif (!strEq (strOfNums y2) t3) then
    some ((0 : Int), (33 : Int))
  else
  bif (decide ((3 : Int) < (x.1.size : Int))) then
  bif (decide ((3 : Int) < (x.1.size : Int))) then
  f621p0 k
    (fun (w10 : D93) =>
      some (w10.2.2.2.2.2.1, w10.2.2.2.2.2.2.1))
    (fun (w11 : D94) =>
      f621p1 k
        (fun (w13 : Int × Int × Int × Unit) =>
          some (w13.1, w13.2.1))
        (fun (w14 : Int × Unit) =>
          some (w14.1, (0 : Int)))
        (w11.1, w11.2.1, w11.2.2.1, w11.2.2.2.1, w11.2.2.2.2.1, w11.2.2.2.2.2.1, w11.2.2.2.2.2.2.1, ()))
    (x.1, x.2.1, x.2.2.1, x.2.2.2.1, x.2.2.2.2, (x.1.extract 0 60), (IntKind.i64.wrap (bits .and .u8 (bt x.1 (3 : Int)) (127 : Int))), (decide ((bt x.1 (3 : Int)) ≥ (128 : Int))), ())
  else none
  else none
  else none
  else none
theorem f621Ok (k : Nat) : FnV P 121 [.dat .str, .dat (.int .i64), .dat (.int .i64), .dat (.int .i64), .dat .bool] [.dat (.int .i64), .dat (.int .i64)] (f621F k) :=
  fs tm (f621T k) Tryz.func121 (by kernel_rfl) (SumsOk.nil |>.s (f621p1O k) (by kernel_rfl) |>.s (f621p0O k) (by kernel_rfl)) none fun _ => by kernel_rfl
/-! ## midrange/save.read$1, handed what it may write -/
noncomputable def f620v0I : Shape := ⟨[(0, .agg [.str, .ro .str]), (1, .one (.ptr 0 0))], [(0, .var 81 [.str, .ro .str])], 1, []⟩
noncomputable def f620v0U : Shape := ⟨[(0, .one (.bool))], [(0, .var 81 [.str, .ro .str])], 1, []⟩
noncomputable def f620v0F (k : Nat) (x : D97) : Option (D98) :=
  some ((strEq x.1 x.2.2.1), x.2.2.1, x.2.2.2.1, ())
theorem f620v0Ok (k : Nat) : GnV P 120 f620v0I f620v0U (f620v0F k) :=
  gs tm TB.nil Tryz.func120 (by kernel_rfl) SumsOk.nil [.dat .bool] [] fun _ => by kernel_rfl
/-! ## slices.IndexFunc[[]midrange/api.Volume,midrange/api.Volume], handed what it may write -/
noncomputable def f647v0I : Shape := ⟨[(0, .one (.ro Y8)), (1, .one (.fn 120 [0]))], [(0, .var 81 [.str, .ro .str])], 1, []⟩
noncomputable def f647v0U : Shape := ⟨[(0, .one (.int .i64))], [(0, .var 81 [.str, .ro .str])], 1, []⟩
noncomputable def f647v0T (k : Nat) : TB P := TB.nil |>.g (f620v0Ok k)
noncomputable def f647v0l0s {R : Type} (k : Nat) (rec : D101 → Option R) (k0 : D99 → Option R) (k1 : D100 → Option R) (v : D101) : Option R :=
  bif (decide (v.2.2.1 < v.2.1)) then
    bif ((decide ((0 : Int) ≤ v.2.2.1)) && (decide (v.2.2.1 < (v.1.length : Int)))) then
    Option.bind (f620v0F k ((v.1.getD (Int.toNat v.2.2.1) (ByteArray.empty, [])).1, (v.1.getD (Int.toNat v.2.2.1) (ByteArray.empty, [])).2, v.2.2.2.1, v.2.2.2.2.1, ())) fun y1 =>
    bif y1.1 then
      k0 (v.2.2.1, y1.2.1, y1.2.2.1, ())
    else
    rec (v.1, v.2.1, (IntKind.i64.wrap (v.2.2.1 + (1 : Int))), y1.2.1, y1.2.2.1, ())
    else none
  else
  k1 (v.2.2.2.1, v.2.2.2.2.1, ())
noncomputable def f647v0l0 {R : Type} (k : Nat) (k0 : D99 → Option R) (k1 : D100 → Option R) (v : D101) : Option R := iterS (fun rec v => f647v0l0s k rec k0 k1 v) k v
noncomputable def f647v0l0S (k : Nat) := loopSum ⟨[(0, .one (.ro Y8)), (1, .one (.fn 120 [0])), (7, .one (.int .i64)), (8, .one (.int .i64))], [(0, .var 81 [.str, .ro .str])], 1, [some 0]⟩ ⟨[0, 1, 7, 8], [], []⟩ k fun R rec K v => f647v0l0s k rec (fun w => K .ret (encSt ⟨[(4, .one (.int .i64))], [(0, .var 81 [.str, .ro .str])], 1, [some 0]⟩ w)) (fun w => K (.exit 0) (encSt ⟨[], [(0, .var 81 [.str, .ro .str])], 1, [some 0]⟩ w)) v
theorem f647v0l0O (k : Nat) : SumO P Tryz.f147 26 (f647v0l0S k) := lp tm (f647v0T k) ⟨[4], [], []⟩ SumsOk.nil (by kernel_rfl) fun _ _ _ _ => by kernel_rfl
noncomputable def f647v0F (k : Nat) (x : D102) : Option (D99) :=
  f647v0l0 k
    (fun (w2 : D99) =>
      some (w2.1, w2.2.1, w2.2.2.1, ()))
    (fun (w3 : D100) =>
      some ((-1 : Int), w3.1, w3.2.1, ()))
    (x.1, (x.1.length : Int), (0 : Int), x.2.1, x.2.2.1, ())
theorem f647v0Ok (k : Nat) : GnV P 147 f647v0I f647v0U (f647v0F k) :=
  gs tm (f647v0T k) Tryz.func147 (by kernel_rfl) (SumsOk.nil |>.s (f647v0l0O k) (by kernel_rfl)) [.dat .bool] [] fun _ => by kernel_rfl
/-! ## slices.ContainsFunc[[]midrange/api.Volume,midrange/api.Volume], handed what it may write -/
noncomputable def f619v0I : Shape := ⟨[(0, .one (.ro Y8)), (1, .one (.fn 120 [0]))], [(0, .var 81 [.str, .ro .str])], 1, []⟩
noncomputable def f619v0U : Shape := ⟨[(0, .one (.bool))], [(0, .var 81 [.str, .ro .str])], 1, []⟩
noncomputable def f619v0T (k : Nat) : TB P := TB.nil |>.g (f647v0Ok k)
noncomputable def f619v0F (k : Nat) (x : D102) : Option (D98) :=
  Option.bind (f647v0F k (x.1, x.2.1, x.2.2.1, ())) fun y1 =>
  some ((decide (y1.1 ≥ (0 : Int))), y1.2.1, y1.2.2.1, ())
theorem f619v0Ok (k : Nat) : GnV P 119 f619v0I f619v0U (f619v0F k) :=
  gs tm (f619v0T k) Tryz.func119 (by kernel_rfl) SumsOk.nil [.dat .bool] [] fun _ => by kernel_rfl
/-! ## (*strings.Builder).WriteString, handed what it may write -/
noncomputable def f622v0I : Shape := ⟨[(0, .one (.ptr 0 0)), (1, .one (.str))], [(0, .var 174 [.nil .ptr, .emp])], 1, []⟩
noncomputable def f622v0U : Shape := ⟨[(0, .one (.int .i64)), (1, .one (.nil .iface))], [(0, .var 174 [.ptr 0 0, .own 1]), (1, .row 5 (.int .u8) .plain)], 2, []⟩
noncomputable def f622v0T (k : Nat) : TB P := TB.nil |>.h Tryz.func149 (by kernel_rfl) bc_ok
noncomputable def f622v0F (k : Nat) (x : ByteArray × Unit) : Option (Int × List Int × Unit) :=
  bif (decide ((([] : List Int).length + (bytesOf x.1).length) * 1 ≤ 140737488355328) && decide (([] : List Int).length + (bytesOf x.1).length ≤ 9223372036854775807)) then
  some ((x.1.size : Int), ([] ++ (bytesOf x.1)), ())
  else none
theorem f622v0Ok (k : Nat) : GnV P 122 f622v0I f622v0U (f622v0F k) :=
  gs tm (f622v0T k) Tryz.func122 (by kernel_rfl) SumsOk.nil [.dat .bool, .dat .bool] [] fun _ => by kernel_rfl
/-! ## (*strings.Builder).WriteString, handed what it may write -/
noncomputable def f622v1I : Shape := ⟨[(0, .one (.ptr 0 0)), (1, .one (.str))], [(0, .var 174 [.ptr 0 0, .own 1]), (1, .row 5 (.int .u8) .plain)], 2, []⟩
noncomputable def f622v1U : Shape := ⟨[(0, .one (.int .i64)), (1, .one (.nil .iface))], [(0, .var 174 [.ptr 0 0, .own 2]), (2, .row 5 (.int .u8) .plain)], 3, []⟩
noncomputable def f622v1T (k : Nat) : TB P := TB.nil |>.h Tryz.func149 (by kernel_rfl) bc_ok
noncomputable def f622v1F (k : Nat) (x : D40) : Option (Int × List Int × Unit) :=
  bif (decide ((x.2.1.length + (bytesOf x.1).length) * 1 ≤ 140737488355328) && decide (x.2.1.length + (bytesOf x.1).length ≤ 9223372036854775807)) then
  some ((x.1.size : Int), (x.2.1 ++ (bytesOf x.1)), ())
  else none
theorem f622v1Ok (k : Nat) : GnV P 122 f622v1I f622v1U (f622v1F k) :=
  gs tm (f622v1T k) Tryz.func122 (by kernel_rfl) SumsOk.nil [.dat .bool, .dat .bool] [1] fun _ => by kernel_rfl
/-! ## midrange/save.read -/
noncomputable def f581T (k : Nat) : TB P := TB.nil |>.h Tryz.func123 (by kernel_rfl) bs_ok |>.c ((f622v1Ok k).e.or (f622v0Ok k).e) |>.u (f621Ok k) |>.g (f619v0Ok k) |>.u (f602Ok k)
noncomputable def f581p0H : Shape := ⟨[(0, .one (.ro Y8)), (6, .one (.ptr 0 0)), (7, .one (.int .i64)), (8, .one (.int .i64)), (9, .one (.ptr 1 0)), (20, .one (.ro Y8)), (21, .one (.int .i64)), (22, .one (.int .i64)), (53, .one (.ro .str)), (54, .one (.int .i64)), (55, .one (.int .i64))], [(0, .var 174 [.nil .ptr, .emp]), (1, .var 81 [.str, .ro .str])], 2, []⟩
noncomputable def f581p0X0 : Shape := ⟨[(0, .one (.ro Y8)), (2, .one (.str)), (3, .one (.int .i64)), (4, .one (.int .i64)), (5, .one (.int .i64)), (6, .one (.ptr 0 0)), (7, .one (.int .i64)), (8, .one (.int .i64)), (9, .one (.ptr 1 0)), (20, .one (.ro Y8)), (21, .one (.int .i64)), (22, .one (.int .i64)), (53, .one (.ro .str)), (54, .one (.int .i64)), (55, .one (.int .i64))], [(0, .var 174 [.nil .ptr, .emp]), (1, .var 81 [.str, .ro .str])], 2, []⟩
noncomputable def f581p0X1 : Shape := ⟨[(0, .one (.ro Y8)), (6, .one (.ptr 0 0)), (7, .one (.int .i64)), (8, .one (.int .i64)), (9, .one (.ptr 1 0)), (20, .one (.ro Y8)), (21, .one (.int .i64)), (22, .one (.int .i64)), (53, .one (.ro .str)), (54, .one (.int .i64)), (55, .one (.int .i64))], [(0, .var 174 [.ptr 0 0, .own 2]), (1, .var 81 [.str, .ro .str]), (2, .row 5 (.int .u8) .plain)], 3, []⟩
noncomputable def f581p0N : NoteR := ⟨[0, 6, 7, 8, 9, 20, 21, 22, 53, 54, 55], [], []⟩
noncomputable def f581p0M : NoteR := ⟨[0, 2, 3, 4, 5, 6, 7, 8, 9, 20, 21, 22, 53, 54, 55], [], []⟩
noncomputable def f581p0C : Code := firstC (codesAt 4148454 (codeOf Tryz.f81) 1)
noncomputable def f581p0 {R : Type} (k : Nat) (k0 : D103 → Option R) (k1 : D104 → Option R) (v : D111) : Option R :=
  bif ((decide ((0 : Int) ≤ v.2.2.2.2.2.2.2.2.1)) && (decide (v.2.2.2.2.2.2.2.2.1 < (v.2.2.2.2.2.2.1.length : Int)))) then
  bif (v.2.2.1 == (IntKind.i64.wrap ((v.1.length : Int) - (1 : Int)))) then
    let t3 := (IntKind.i64.wrap ((v.2.2.2.2.2.2.2.2.2.2.1.length : Int) - (1 : Int)))
    Option.bind (f621F k ((v.2.2.2.2.2.2.1.getD (Int.toNat v.2.2.2.2.2.2.2.2.1) ByteArray.empty), (IntKind.i64.wrap (v.2.2.1 + (1 : Int))), (IntKind.i64.wrap (v.2.1 + (1 : Int))), (v.1.length : Int), (v.2.2.2.2.2.2.2.2.1 == t3))) fun y4 =>
    bif (y4.2 != (0 : Int)) then
      k0 (v.1, ByteArray.empty, v.2.2.1, v.2.2.2.2.2.2.2.2.1, y4.2, (IntKind.i64.wrap (v.2.1 + (1 : Int))), v.2.2.1, v.2.2.2.1, v.2.2.2.2.1, v.2.2.2.2.2.1, v.2.2.2.2.2.2.1, v.2.2.2.2.2.2.2.1, v.2.2.2.2.2.2.2.2.1, v.2.2.2.2.2.2.2.2.2.1, v.2.2.2.2.2.2.2.2.2.2.1, ())
    else
    bif (sliceBds (4 : Int) (IntKind.i64.wrap ((4 : Int) + y4.1)) ((v.2.2.2.2.2.2.1.getD (Int.toNat v.2.2.2.2.2.2.2.2.1) ByteArray.empty).size : Int)) then
    let t5 := ((v.2.2.2.2.2.2.1.getD (Int.toNat v.2.2.2.2.2.2.2.2.1) ByteArray.empty).extract 4 (Int.toNat (IntKind.i64.wrap ((4 : Int) + y4.1))))
    Option.bind (f622v0F k (t5, ())) fun y6 =>
    k1 (v.1, (IntKind.i64.wrap (v.2.1 + (1 : Int))), v.2.2.1, v.2.2.2.1, v.2.2.2.2.1, v.2.2.2.2.2.1, v.2.2.2.2.2.2.1, v.2.2.2.2.2.2.2.1, v.2.2.2.2.2.2.2.2.1, v.2.2.2.2.2.2.2.2.2.1, v.2.2.2.2.2.2.2.2.2.2.1, y6.2.1, ())
    else none
  else
  Option.bind (f621F k ((v.2.2.2.2.2.2.1.getD (Int.toNat v.2.2.2.2.2.2.2.2.1) ByteArray.empty), (IntKind.i64.wrap (v.2.2.1 + (1 : Int))), (IntKind.i64.wrap (v.2.1 + (1 : Int))), (v.1.length : Int), false)) fun y7 =>
  bif (y7.2 != (0 : Int)) then
    k0 (v.1, ByteArray.empty, v.2.2.1, v.2.2.2.2.2.2.2.2.1, y7.2, (IntKind.i64.wrap (v.2.1 + (1 : Int))), v.2.2.1, v.2.2.2.1, v.2.2.2.2.1, v.2.2.2.2.2.1, v.2.2.2.2.2.2.1, v.2.2.2.2.2.2.2.1, v.2.2.2.2.2.2.2.2.1, v.2.2.2.2.2.2.2.2.2.1, v.2.2.2.2.2.2.2.2.2.2.1, ())
  else
  bif (sliceBds (4 : Int) (IntKind.i64.wrap ((4 : Int) + y7.1)) ((v.2.2.2.2.2.2.1.getD (Int.toNat v.2.2.2.2.2.2.2.2.1) ByteArray.empty).size : Int)) then
  let t8 := ((v.2.2.2.2.2.2.1.getD (Int.toNat v.2.2.2.2.2.2.2.2.1) ByteArray.empty).extract 4 (Int.toNat (IntKind.i64.wrap ((4 : Int) + y7.1))))
  Option.bind (f622v0F k (t8, ())) fun y9 =>
  k1 (v.1, (IntKind.i64.wrap (v.2.1 + (1 : Int))), v.2.2.1, v.2.2.2.1, v.2.2.2.2.1, v.2.2.2.2.2.1, v.2.2.2.2.2.2.1, v.2.2.2.2.2.2.2.1, v.2.2.2.2.2.2.2.2.1, v.2.2.2.2.2.2.2.2.2.1, v.2.2.2.2.2.2.2.2.2.2.1, y9.2.1, ())
  else none
  else none
noncomputable def f581p0S (k : Nat) : Sum1 := partSum f581p0H f581p0N (fun R K v => f581p0 k (fun w => K .ret (encSt f581p0X0 w)) (fun w => K .normal (encSt f581p0X1 w)) v)
theorem f581p0E (k : Nat) (R : Type) (K : X → St → Option R) (v : f581p0H.Den) : evS tab (f581T k).t Tryz.f81.ntmps [] f581p0C 4148454 (partK f581p0M K) (encSt f581p0H v) = f581p0 k (fun w => K .ret (encSt f581p0X0 w)) (fun w => K .normal (encSt f581p0X1 w)) v := by kernel_rfl
theorem f581p0I (k : Nat) : SumsOk P Tryz.f81.ntmps [] f581p0C 4148454 := SumsOk.nil
theorem f581p0O (k : Nat) : SumO P Tryz.f81 4148454 (f581p0S k) := sum_part tm.1 (f581T k).ok tm.2 (f581p0I k) (f581p0E k)
noncomputable def f581p1H : Shape := ⟨[(0, .one (.ro Y8)), (6, .one (.ptr 0 0)), (7, .one (.int .i64)), (8, .one (.int .i64)), (9, .one (.ptr 1 0)), (20, .one (.ro Y8)), (21, .one (.int .i64)), (22, .one (.int .i64)), (53, .one (.ro .str)), (54, .one (.int .i64)), (55, .one (.int .i64))], [(0, .var 174 [.ptr 0 0, .own 2]), (1, .var 81 [.str, .ro .str]), (2, .row 5 (.int .u8) .plain)], 3, []⟩
noncomputable def f581p1X0 : Shape := ⟨[(0, .one (.ro Y8)), (2, .one (.str)), (3, .one (.int .i64)), (4, .one (.int .i64)), (5, .one (.int .i64)), (6, .one (.ptr 0 0)), (7, .one (.int .i64)), (8, .one (.int .i64)), (9, .one (.ptr 1 0)), (20, .one (.ro Y8)), (21, .one (.int .i64)), (22, .one (.int .i64)), (53, .one (.ro .str)), (54, .one (.int .i64)), (55, .one (.int .i64))], [(0, .var 174 [.ptr 0 0, .own 2]), (1, .var 81 [.str, .ro .str]), (2, .row 5 (.int .u8) .plain)], 3, []⟩
noncomputable def f581p1X1 : Shape := ⟨[(0, .one (.ro Y8)), (6, .one (.ptr 0 0)), (7, .one (.int .i64)), (8, .one (.int .i64)), (9, .one (.ptr 1 0)), (20, .one (.ro Y8)), (21, .one (.int .i64)), (22, .one (.int .i64)), (53, .one (.ro .str)), (54, .one (.int .i64)), (55, .one (.int .i64))], [(0, .var 174 [.ptr 0 0, .own 2]), (1, .var 81 [.str, .ro .str]), (2, .row 5 (.int .u8) .plain)], 3, []⟩
noncomputable def f581p1N : NoteR := ⟨[0, 6, 7, 8, 9, 20, 21, 22, 53, 54, 55], [], []⟩
noncomputable def f581p1M : NoteR := ⟨[0, 2, 3, 4, 5, 6, 7, 8, 9, 20, 21, 22, 53, 54, 55], [], []⟩
noncomputable def f581p1C : Code := firstC (codesAt 4148454 (codeOf Tryz.f81) 1)
noncomputable def f581p1 {R : Type} (k : Nat) (k0 : D105 → Option R) (k1 : D104 → Option R) (v : D104) : Option R :=
  bif ((decide ((0 : Int) ≤ v.2.2.2.2.2.2.2.2.1)) && (decide (v.2.2.2.2.2.2.2.2.1 < (v.2.2.2.2.2.2.1.length : Int)))) then
  bif (v.2.2.1 == (IntKind.i64.wrap ((v.1.length : Int) - (1 : Int)))) then
    let t12 := (IntKind.i64.wrap ((v.2.2.2.2.2.2.2.2.2.2.1.length : Int) - (1 : Int)))
    Option.bind (f621F k ((v.2.2.2.2.2.2.1.getD (Int.toNat v.2.2.2.2.2.2.2.2.1) ByteArray.empty), (IntKind.i64.wrap (v.2.2.1 + (1 : Int))), (IntKind.i64.wrap (v.2.1 + (1 : Int))), (v.1.length : Int), (v.2.2.2.2.2.2.2.2.1 == t12))) fun y13 =>
    bif (y13.2 != (0 : Int)) then
      k0 (v.1, ByteArray.empty, v.2.2.1, v.2.2.2.2.2.2.2.2.1, y13.2, (IntKind.i64.wrap (v.2.1 + (1 : Int))), v.2.2.1, v.2.2.2.1, v.2.2.2.2.1, v.2.2.2.2.2.1, v.2.2.2.2.2.2.1, v.2.2.2.2.2.2.2.1, v.2.2.2.2.2.2.2.2.1, v.2.2.2.2.2.2.2.2.2.1, v.2.2.2.2.2.2.2.2.2.2.1, v.2.2.2.2.2.2.2.2.2.2.2.1, ())
    else
    bif (sliceBds (4 : Int) (IntKind.i64.wrap ((4 : Int) + y13.1)) ((v.2.2.2.2.2.2.1.getD (Int.toNat v.2.2.2.2.2.2.2.2.1) ByteArray.empty).size : Int)) then
    let t14 := ((v.2.2.2.2.2.2.1.getD (Int.toNat v.2.2.2.2.2.2.2.2.1) ByteArray.empty).extract 4 (Int.toNat (IntKind.i64.wrap ((4 : Int) + y13.1))))
    Option.bind (f622v1F k (t14, v.2.2.2.2.2.2.2.2.2.2.2.1, ())) fun y15 =>
    k1 (v.1, (IntKind.i64.wrap (v.2.1 + (1 : Int))), v.2.2.1, v.2.2.2.1, v.2.2.2.2.1, v.2.2.2.2.2.1, v.2.2.2.2.2.2.1, v.2.2.2.2.2.2.2.1, v.2.2.2.2.2.2.2.2.1, v.2.2.2.2.2.2.2.2.2.1, v.2.2.2.2.2.2.2.2.2.2.1, y15.2.1, ())
    else none
  else
  Option.bind (f621F k ((v.2.2.2.2.2.2.1.getD (Int.toNat v.2.2.2.2.2.2.2.2.1) ByteArray.empty), (IntKind.i64.wrap (v.2.2.1 + (1 : Int))), (IntKind.i64.wrap (v.2.1 + (1 : Int))), (v.1.length : Int), false)) fun y16 =>
  bif (y16.2 != (0 : Int)) then
    k0 (v.1, ByteArray.empty, v.2.2.1, v.2.2.2.2.2.2.2.2.1, y16.2, (IntKind.i64.wrap (v.2.1 + (1 : Int))), v.2.2.1, v.2.2.2.1, v.2.2.2.2.1, v.2.2.2.2.2.1, v.2.2.2.2.2.2.1, v.2.2.2.2.2.2.2.1, v.2.2.2.2.2.2.2.2.1, v.2.2.2.2.2.2.2.2.2.1, v.2.2.2.2.2.2.2.2.2.2.1, v.2.2.2.2.2.2.2.2.2.2.2.1, ())
  else
  bif (sliceBds (4 : Int) (IntKind.i64.wrap ((4 : Int) + y16.1)) ((v.2.2.2.2.2.2.1.getD (Int.toNat v.2.2.2.2.2.2.2.2.1) ByteArray.empty).size : Int)) then
  let t17 := ((v.2.2.2.2.2.2.1.getD (Int.toNat v.2.2.2.2.2.2.2.2.1) ByteArray.empty).extract 4 (Int.toNat (IntKind.i64.wrap ((4 : Int) + y16.1))))
  Option.bind (f622v1F k (t17, v.2.2.2.2.2.2.2.2.2.2.2.1, ())) fun y18 =>
  k1 (v.1, (IntKind.i64.wrap (v.2.1 + (1 : Int))), v.2.2.1, v.2.2.2.1, v.2.2.2.2.1, v.2.2.2.2.2.1, v.2.2.2.2.2.2.1, v.2.2.2.2.2.2.2.1, v.2.2.2.2.2.2.2.2.1, v.2.2.2.2.2.2.2.2.2.1, v.2.2.2.2.2.2.2.2.2.2.1, y18.2.1, ())
  else none
  else none
noncomputable def f581p1S (k : Nat) : Sum1 := part2Sum f581p1H f581p1N (f581p0S k) (fun R K v => f581p1 k (fun w => K .ret (encSt f581p1X0 w)) (fun w => K .normal (encSt f581p1X1 w)) v)
theorem f581p1E (k : Nat) (R : Type) (K : X → St → Option R) (v : f581p1H.Den) : evS tab (f581T k).t Tryz.f81.ntmps [] f581p1C 4148454 (partK f581p1M K) (encSt f581p1H v) = f581p1 k (fun w => K .ret (encSt f581p1X0 w)) (fun w => K .normal (encSt f581p1X1 w)) v := by kernel_rfl
theorem f581p1I (k : Nat) : SumsOk P Tryz.f81.ntmps [] f581p1C 4148454 := SumsOk.nil
theorem f581p1O (k : Nat) : SumO P Tryz.f81 4148454 (f581p1S k) := part2_ok tm.1 (f581T k).ok tm.2 (f581p1I k) (f581p0O k) (f581p1E k)
noncomputable def f581l2H : Shape := ⟨[(0, .one (.ro Y8)), (6, .one (.ptr 0 0)), (7, .one (.int .i64)), (8, .one (.int .i64)), (9, .one (.ptr 1 0)), (20, .one (.ro Y8)), (21, .one (.int .i64)), (22, .one (.int .i64)), (53, .one (.ro .str)), (54, .one (.int .i64)), (55, .one (.int .i64))], [(0, .var 174 [.ptr 0 0, .own 2]), (1, .var 81 [.str, .ro .str]), (2, .row 5 (.int .u8) .plain)], 3, []⟩
noncomputable def f581l2X0 : Shape := ⟨[(0, .one (.ro Y8)), (2, .one (.str)), (3, .one (.int .i64)), (4, .one (.int .i64)), (5, .one (.int .i64)), (6, .one (.ptr 0 0)), (7, .one (.int .i64)), (20, .one (.ro Y8)), (21, .one (.int .i64)), (22, .one (.int .i64))], [(0, .var 174 [.ptr 0 0, .own 1]), (1, .row 5 (.int .u8) .plain)], 2, []⟩
noncomputable def f581l2X1 : Shape := ⟨[(0, .one (.ro Y8)), (6, .one (.ptr 0 0)), (7, .one (.int .i64)), (20, .one (.ro Y8)), (21, .one (.int .i64)), (22, .one (.int .i64))], [(0, .var 174 [.ptr 0 0, .own 1]), (1, .row 5 (.int .u8) .plain)], 2, []⟩
noncomputable def f581l2N : NoteR := ⟨[0, 6, 7, 8, 9, 20, 21, 22, 53, 54, 55], [], []⟩
noncomputable def f581l2M : NoteR := ⟨[0, 2, 3, 4, 5, 6, 7, 20, 21, 22], [], []⟩
noncomputable def f581l2C : Code := firstC (codesAt 259278 (codeOf Tryz.f81) 1)
noncomputable def f581l2s {R : Type} (k : Nat) (rec : D104 → Option R) (k0 : D106 → Option R) (k1 : D107 → Option R) (v : D104) : Option R :=
  bif (decide (v.2.2.2.2.2.2.2.2.1 < v.2.2.2.2.2.2.2.1)) then
    f581p1 k
      (fun (w19 : D105) =>
        k0 (w19.1, w19.2.1, w19.2.2.1, w19.2.2.2.1, w19.2.2.2.2.1, w19.2.2.2.2.2.1, w19.2.2.2.2.2.2.2.1, w19.2.2.2.2.2.2.2.2.1, w19.2.2.2.2.2.2.2.2.2.1, w19.2.2.2.2.2.2.2.2.2.2.2.2.2.2.2.1, ()))
      (fun (w20 : D104) =>
        rec (w20.1, w20.2.1, w20.2.2.1, w20.2.2.2.1, w20.2.2.2.2.1, w20.2.2.2.2.2.1, w20.2.2.2.2.2.2.1, w20.2.2.2.2.2.2.2.1, (IntKind.i64.wrap (w20.2.2.2.2.2.2.2.2.1 + (1 : Int))), w20.2.2.2.2.2.2.2.2.2.1, w20.2.2.2.2.2.2.2.2.2.2.1, w20.2.2.2.2.2.2.2.2.2.2.2.1, ()))
      (v.1, v.2.1, v.2.2.1, v.2.2.2.1, v.2.2.2.2.1, v.2.2.2.2.2.1, v.2.2.2.2.2.2.1, v.2.2.2.2.2.2.2.1, v.2.2.2.2.2.2.2.2.1, v.2.2.2.2.2.2.2.2.2.1, v.2.2.2.2.2.2.2.2.2.2.1, v.2.2.2.2.2.2.2.2.2.2.2.1, ())
  else
  k1 (v.1, v.2.1, v.2.2.2.1, v.2.2.2.2.1, v.2.2.2.2.2.1, v.2.2.2.2.2.2.2.2.2.2.2.1, ())
noncomputable def f581l2 {R : Type} (k : Nat) (k0 : D106 → Option R) (k1 : D107 → Option R) (v : D104) : Option R := iterS (fun rec v => f581l2s k rec k0 k1 v) k v
noncomputable def f581l2S (k : Nat) : Sum1 := loopSum f581l2H f581l2N k (fun R rec K v => f581l2s k rec (fun w => K .ret (encSt f581l2X0 w)) (fun w => K (.exit 3) (encSt f581l2X1 w)) v)
theorem f581l2E (k : Nat) (R : Type) (rec : St → Option R) (K : X → St → Option R) (v : f581l2H.Den) : evS tab (f581T k).t Tryz.f81.ntmps [(4148454, f581p1S k)] (bodyOf f581l2C) 518556 (bodyK f581l2N f581l2M rec K) (encSt f581l2H v) = f581l2s k (fun v => rec (encSt f581l2H v)) (fun w => K .ret (encSt f581l2X0 w)) (fun w => K (.exit 3) (encSt f581l2X1 w)) v := by kernel_rfl
theorem f581l2I (k : Nat) : SumsOk P Tryz.f81.ntmps [(4148454, f581p1S k)] (bodyOf f581l2C) 518556 := (SumsOk.nil).s (f581p1O k) (by kernel_rfl)
theorem f581l2O (k : Nat) : SumO P Tryz.f81 259278 (f581l2S k) := (show SumOk P Tryz.f81.ntmps f581l2C (f581l2S k) from (show f581l2C = .loop (bodyOf f581l2C) by kernel_rfl) ▸ sum_loop tm.1 (f581T k).ok tm.2 (f581l2I k) (f581l2E k))
noncomputable def f581l3H : Shape := ⟨[(0, .one (.ro Y8)), (6, .one (.ptr 0 0)), (7, .one (.int .i64)), (8, .one (.int .i64)), (9, .one (.ptr 1 0)), (20, .one (.ro Y8)), (21, .one (.int .i64)), (22, .one (.int .i64)), (53, .one (.ro .str)), (54, .one (.int .i64)), (55, .one (.int .i64))], [(0, .var 174 [.nil .ptr, .emp]), (1, .var 81 [.str, .ro .str])], 2, []⟩
noncomputable def f581l3X0 : Shape := ⟨[(0, .one (.ro Y8)), (2, .one (.str)), (3, .one (.int .i64)), (4, .one (.int .i64)), (5, .one (.int .i64)), (6, .one (.ptr 0 0)), (7, .one (.int .i64)), (20, .one (.ro Y8)), (21, .one (.int .i64)), (22, .one (.int .i64))], [(0, .var 174 [.nil .ptr, .emp])], 1, []⟩
noncomputable def f581l3X1 : Shape := ⟨[(0, .one (.ro Y8)), (2, .one (.str)), (3, .one (.int .i64)), (4, .one (.int .i64)), (5, .one (.int .i64)), (6, .one (.ptr 0 0)), (7, .one (.int .i64)), (20, .one (.ro Y8)), (21, .one (.int .i64)), (22, .one (.int .i64))], [(0, .var 174 [.ptr 0 0, .own 1]), (1, .row 5 (.int .u8) .plain)], 2, []⟩
noncomputable def f581l3X2 : Shape := ⟨[(0, .one (.ro Y8)), (6, .one (.ptr 0 0)), (7, .one (.int .i64)), (20, .one (.ro Y8)), (21, .one (.int .i64)), (22, .one (.int .i64))], [(0, .var 174 [.ptr 0 0, .own 1]), (1, .row 5 (.int .u8) .plain)], 2, []⟩
noncomputable def f581l3X3 : Shape := ⟨[(0, .one (.ro Y8)), (6, .one (.ptr 0 0)), (7, .one (.int .i64)), (20, .one (.ro Y8)), (21, .one (.int .i64)), (22, .one (.int .i64))], [(0, .var 174 [.nil .ptr, .emp])], 1, []⟩
noncomputable def f581l3N : NoteR := ⟨[0, 6, 7, 8, 9, 20, 21, 22, 53, 54, 55], [], []⟩
noncomputable def f581l3M : NoteR := ⟨[0, 2, 3, 4, 5, 6, 7, 20, 21, 22], [], []⟩
noncomputable def f581l3C : Code := firstC (codesAt 259278 (codeOf Tryz.f81) 1)
noncomputable def f581l3s {R : Type} (k : Nat) (rec : D111 → Option R) (k0 : D108 → Option R) (k1 : D106 → Option R) (k2 : D107 → Option R) (k3 : D109 → Option R) (v : D111) : Option R :=
  bif (decide (v.2.2.2.2.2.2.2.2.1 < v.2.2.2.2.2.2.2.1)) then
    f581p0 k
      (fun (w10 : D103) =>
        k0 (w10.1, w10.2.1, w10.2.2.1, w10.2.2.2.1, w10.2.2.2.2.1, w10.2.2.2.2.2.1, w10.2.2.2.2.2.2.2.1, w10.2.2.2.2.2.2.2.2.1, w10.2.2.2.2.2.2.2.2.2.1, ()))
      (fun (w11 : D104) =>
        f581l2 k
          (fun (w21 : D106) =>
            k1 (w21.1, w21.2.1, w21.2.2.1, w21.2.2.2.1, w21.2.2.2.2.1, w21.2.2.2.2.2.1, w21.2.2.2.2.2.2.1, w21.2.2.2.2.2.2.2.1, w21.2.2.2.2.2.2.2.2.1, w21.2.2.2.2.2.2.2.2.2.1, ()))
          (fun (w22 : D107) =>
            k2 (w22.1, w22.2.1, w22.2.2.1, w22.2.2.2.1, w22.2.2.2.2.1, w22.2.2.2.2.2.1, ()))
          (w11.1, w11.2.1, w11.2.2.1, w11.2.2.2.1, w11.2.2.2.2.1, w11.2.2.2.2.2.1, w11.2.2.2.2.2.2.1, w11.2.2.2.2.2.2.2.1, (IntKind.i64.wrap (w11.2.2.2.2.2.2.2.2.1 + (1 : Int))), w11.2.2.2.2.2.2.2.2.2.1, w11.2.2.2.2.2.2.2.2.2.2.1, w11.2.2.2.2.2.2.2.2.2.2.2.1, ()))
      (v.1, v.2.1, v.2.2.1, v.2.2.2.1, v.2.2.2.2.1, v.2.2.2.2.2.1, v.2.2.2.2.2.2.1, v.2.2.2.2.2.2.2.1, v.2.2.2.2.2.2.2.2.1, v.2.2.2.2.2.2.2.2.2.1, v.2.2.2.2.2.2.2.2.2.2.1, ())
  else
  k3 (v.1, v.2.1, v.2.2.2.1, v.2.2.2.2.1, v.2.2.2.2.2.1, ())
noncomputable def f581l3 {R : Type} (k : Nat) (k0 : D108 → Option R) (k1 : D106 → Option R) (k2 : D107 → Option R) (k3 : D109 → Option R) (v : D111) : Option R := iterS (fun rec v => f581l3s k rec k0 k1 k2 k3 v) k v
theorem f581l2Rd (k : Nat) : SumRd P Tryz.f81.ntmps (bodyOf f581l2C) (f581l2S k) k := loop_rd tm.1 (f581T k).ok tm.2 (f581l2I k) (f581l2E k)
noncomputable def f581l3S (k : Nat) : Sum1 := loop2Sum f581l3H f581l3N (f581l2S k) k (fun R rec K v => f581l3s k rec (fun w => K .ret (encSt f581l3X0 w)) (fun w => K .ret (encSt f581l3X1 w)) (fun w => K (.exit 3) (encSt f581l3X2 w)) (fun w => K (.exit 3) (encSt f581l3X3 w)) v)
theorem f581l3E (k : Nat) (R : Type) (rec : f581l3H.Den → Option R) (K : X → St → Option R) (v : f581l3H.Den) : evS tab (f581T k).t Tryz.f81.ntmps [(4148454, f581p1S k)] (bodyOf f581l3C) 518556 (step2K f581l3H f581l3N f581l3M (f581l2S k) rec K) (encSt f581l3H v) = f581l3s k rec (fun w => K .ret (encSt f581l3X0 w)) (fun w => K .ret (encSt f581l3X1 w)) (fun w => K (.exit 3) (encSt f581l3X2 w)) (fun w => K (.exit 3) (encSt f581l3X3 w)) v := by kernel_rfl
theorem f581l3I (k : Nat) : SumsOk P Tryz.f81.ntmps [(4148454, f581p1S k)] (bodyOf f581l3C) 518556 := (SumsOk.nil).s (f581p1O k) (by kernel_rfl)
theorem f581l3Rd (k : Nat) : SumRd P Tryz.f81.ntmps (bodyOf f581l3C) (f581l3S k) (k + (k)) := loop2_rd tm.1 (f581T k).ok tm.2 (f581l3I k) ((show bodyOf f581l2C = bodyOf f581l3C by kernel_rfl) ▸ f581l2Rd k) (f581l3E k)
theorem f581l3O (k : Nat) : SumO P Tryz.f81 259278 (f581l3S k) := (show SumOk P Tryz.f81.ntmps f581l3C (f581l3S k) from (show f581l3C = .loop (bodyOf f581l3C) by kernel_rfl) ▸ (f581l3Rd k).ok)
noncomputable def f581p4H : Shape := ⟨[(0, .one (.ro Y8)), (6, .one (.ptr 0 0)), (7, .one (.int .i64)), (20, .one (.ro Y8)), (21, .one (.int .i64)), (22, .one (.int .i64))], [(0, .var 174 [.nil .ptr, .emp])], 1, []⟩
noncomputable def f581p4X0 : Shape := ⟨[(0, .one (.ro Y8)), (2, .one (.str)), (3, .one (.int .i64)), (4, .one (.int .i64)), (5, .one (.int .i64)), (6, .one (.ptr 0 0)), (7, .one (.int .i64)), (20, .one (.ro Y8)), (21, .one (.int .i64)), (22, .one (.int .i64))], [(0, .var 174 [.nil .ptr, .emp])], 1, []⟩
noncomputable def f581p4X1 : Shape := ⟨[(0, .one (.ro Y8)), (2, .one (.str)), (3, .one (.int .i64)), (4, .one (.int .i64)), (5, .one (.int .i64)), (6, .one (.ptr 0 0)), (7, .one (.int .i64)), (20, .one (.ro Y8)), (21, .one (.int .i64)), (22, .one (.int .i64))], [(0, .var 174 [.ptr 0 0, .own 1]), (1, .row 5 (.int .u8) .plain)], 2, []⟩
noncomputable def f581p4X2 : Shape := ⟨[(0, .one (.ro Y8)), (6, .one (.ptr 0 0)), (7, .one (.int .i64)), (20, .one (.ro Y8)), (21, .one (.int .i64)), (22, .one (.int .i64))], [(0, .var 174 [.ptr 0 0, .own 1]), (1, .row 5 (.int .u8) .plain)], 2, []⟩
noncomputable def f581p4X3 : Shape := ⟨[(0, .one (.ro Y8)), (6, .one (.ptr 0 0)), (7, .one (.int .i64)), (20, .one (.ro Y8)), (21, .one (.int .i64)), (22, .one (.int .i64))], [(0, .var 174 [.nil .ptr, .emp])], 1, []⟩
noncomputable def f581p4N : NoteR := ⟨[0, 6, 7, 20, 21, 22], [], []⟩
noncomputable def f581p4M : NoteR := ⟨[0, 2, 3, 4, 5, 6, 7, 20, 21, 22], [], []⟩
noncomputable def f581p4C : Code := firstC (codesAt 8102 (codeOf Tryz.f81) 1)
noncomputable def f581p4 {R : Type} (k : Nat) (k0 : D108 → Option R) (k1 : D106 → Option R) (k2 : D107 → Option R) (k3 : D109 → Option R) (v : D109) : Option R :=
  bif ((decide ((0 : Int) ≤ v.2.2.2.2.1)) && (decide (v.2.2.2.2.1 < (v.2.2.1.length : Int)))) then
  Option.bind (f602F k (v.2.2.1.getD (Int.toNat v.2.2.2.2.1) (ByteArray.empty, [])).1) fun y1 =>
  bif (!y1) then
    k0 (v.1, ByteArray.empty, v.2.2.2.2.1, (0 : Int), (7 : Int), v.2.1, v.2.2.1, v.2.2.2.1, v.2.2.2.2.1, ())
  else
  bif (sliceBds (0 : Int) v.2.2.2.2.1 (v.1.length : Int)) then
  Option.bind (f619v0F k (((v.1.take (Int.toNat v.2.2.2.2.1)).drop 0), (v.2.2.1.getD (Int.toNat v.2.2.2.2.1) (ByteArray.empty, [])).1, (v.2.2.1.getD (Int.toNat v.2.2.2.2.1) (ByteArray.empty, [])).2, ())) fun y2 =>
  bif y2.1 then
    k0 (v.1, ByteArray.empty, v.2.2.2.2.1, (0 : Int), (13 : Int), v.2.1, v.2.2.1, v.2.2.2.1, v.2.2.2.2.1, ())
  else
  bif (decide ((y2.2.2.1.length : Int) > (60 : Int))) then
    k0 (v.1, ByteArray.empty, v.2.2.2.2.1, (0 : Int), (2 : Int), v.2.1, v.2.2.1, v.2.2.2.1, v.2.2.2.2.1, ())
  else
  bif ((y2.2.2.1.length : Int) == (0 : Int)) then
    k0 (v.1, ByteArray.empty, v.2.2.2.2.1, (0 : Int), (1 : Int), v.2.1, v.2.2.1, v.2.2.2.1, v.2.2.2.2.1, ())
  else
  f581l3 k
    (fun (w23 : D108) =>
      k0 (w23.1, w23.2.1, w23.2.2.1, w23.2.2.2.1, w23.2.2.2.2.1, w23.2.2.2.2.2.1, w23.2.2.2.2.2.2.1, w23.2.2.2.2.2.2.2.1, w23.2.2.2.2.2.2.2.2.1, ()))
    (fun (w24 : D106) =>
      k1 (w24.1, w24.2.1, w24.2.2.1, w24.2.2.2.1, w24.2.2.2.2.1, w24.2.2.2.2.2.1, w24.2.2.2.2.2.2.1, w24.2.2.2.2.2.2.2.1, w24.2.2.2.2.2.2.2.2.1, w24.2.2.2.2.2.2.2.2.2.1, ()))
    (fun (w25 : D107) =>
      k2 (w25.1, w25.2.1, w25.2.2.1, w25.2.2.2.1, w25.2.2.2.2.1, w25.2.2.2.2.2.1, ()))
    (fun (w26 : D109) =>
      k3 (w26.1, w26.2.1, w26.2.2.1, w26.2.2.2.1, w26.2.2.2.2.1, ()))
    (v.1, v.2.1, v.2.2.2.2.1, v.2.2.1, v.2.2.2.1, v.2.2.2.2.1, y2.2.2.1, (y2.2.2.1.length : Int), (0 : Int), y2.2.1, y2.2.2.1, ())
  else none
  else none
noncomputable def f581p4S (k : Nat) : Sum1 := partSum f581p4H f581p4N (fun R K v => f581p4 k (fun w => K .ret (encSt f581p4X0 w)) (fun w => K .ret (encSt f581p4X1 w)) (fun w => K .normal (encSt f581p4X2 w)) (fun w => K .normal (encSt f581p4X3 w)) v)
theorem f581p4E (k : Nat) (R : Type) (K : X → St → Option R) (v : f581p4H.Den) : evS tab (f581T k).t Tryz.f81.ntmps [(4148454, f581p1S k), (259278, f581l3S k)] f581p4C 8102 (partK f581p4M K) (encSt f581p4H v) = f581p4 k (fun w => K .ret (encSt f581p4X0 w)) (fun w => K .ret (encSt f581p4X1 w)) (fun w => K .normal (encSt f581p4X2 w)) (fun w => K .normal (encSt f581p4X3 w)) v := by kernel_rfl
theorem f581p4I (k : Nat) : SumsOk P Tryz.f81.ntmps [(4148454, f581p1S k), (259278, f581l3S k)] f581p4C 8102 := ((SumsOk.nil).s (f581l3O k) (by kernel_rfl)).s (f581p1O k) (by kernel_rfl)
theorem f581p4O (k : Nat) : SumO P Tryz.f81 8102 (f581p4S k) := sum_part tm.1 (f581T k).ok tm.2 (f581p4I k) (f581p4E k)
noncomputable def f581p5H : Shape := ⟨[(0, .one (.ro Y8)), (6, .one (.ptr 0 0)), (7, .one (.int .i64)), (20, .one (.ro Y8)), (21, .one (.int .i64)), (22, .one (.int .i64))], [(0, .var 174 [.ptr 0 0, .own 1]), (1, .row 5 (.int .u8) .plain)], 2, []⟩
noncomputable def f581p5X0 : Shape := ⟨[(0, .one (.ro Y8)), (2, .one (.str)), (3, .one (.int .i64)), (4, .one (.int .i64)), (5, .one (.int .i64)), (6, .one (.ptr 0 0)), (7, .one (.int .i64)), (20, .one (.ro Y8)), (21, .one (.int .i64)), (22, .one (.int .i64))], [(0, .var 174 [.ptr 0 0, .own 1]), (1, .row 5 (.int .u8) .plain)], 2, []⟩
noncomputable def f581p5X1 : Shape := ⟨[(0, .one (.ro Y8)), (6, .one (.ptr 0 0)), (7, .one (.int .i64)), (20, .one (.ro Y8)), (21, .one (.int .i64)), (22, .one (.int .i64))], [(0, .var 174 [.ptr 0 0, .own 1]), (1, .row 5 (.int .u8) .plain)], 2, []⟩
noncomputable def f581p5N : NoteR := ⟨[0, 6, 7, 20, 21, 22], [], []⟩
noncomputable def f581p5M : NoteR := ⟨[0, 2, 3, 4, 5, 6, 7, 20, 21, 22], [], []⟩
noncomputable def f581p5C : Code := firstC (codesAt 8102 (codeOf Tryz.f81) 1)
noncomputable def f581p5 {R : Type} (k : Nat) (k0 : D106 → Option R) (k1 : D107 → Option R) (v : D107) : Option R :=
  bif ((decide ((0 : Int) ≤ v.2.2.2.2.1)) && (decide (v.2.2.2.2.1 < (v.2.2.1.length : Int)))) then
  Option.bind (f602F k (v.2.2.1.getD (Int.toNat v.2.2.2.2.1) (ByteArray.empty, [])).1) fun y30 =>
  bif (!y30) then
    k0 (v.1, ByteArray.empty, v.2.2.2.2.1, (0 : Int), (7 : Int), v.2.1, v.2.2.1, v.2.2.2.1, v.2.2.2.2.1, v.2.2.2.2.2.1, ())
  else
  bif (sliceBds (0 : Int) v.2.2.2.2.1 (v.1.length : Int)) then
  Option.bind (f619v0F k (((v.1.take (Int.toNat v.2.2.2.2.1)).drop 0), (v.2.2.1.getD (Int.toNat v.2.2.2.2.1) (ByteArray.empty, [])).1, (v.2.2.1.getD (Int.toNat v.2.2.2.2.1) (ByteArray.empty, [])).2, ())) fun y31 =>
  bif y31.1 then
    k0 (v.1, ByteArray.empty, v.2.2.2.2.1, (0 : Int), (13 : Int), v.2.1, v.2.2.1, v.2.2.2.1, v.2.2.2.2.1, v.2.2.2.2.2.1, ())
  else
  bif (decide ((y31.2.2.1.length : Int) > (60 : Int))) then
    k0 (v.1, ByteArray.empty, v.2.2.2.2.1, (0 : Int), (2 : Int), v.2.1, v.2.2.1, v.2.2.2.1, v.2.2.2.2.1, v.2.2.2.2.2.1, ())
  else
  bif ((y31.2.2.1.length : Int) == (0 : Int)) then
    k0 (v.1, ByteArray.empty, v.2.2.2.2.1, (0 : Int), (1 : Int), v.2.1, v.2.2.1, v.2.2.2.1, v.2.2.2.2.1, v.2.2.2.2.2.1, ())
  else
  f581l2 k
    (fun (w32 : D106) =>
      k0 (w32.1, w32.2.1, w32.2.2.1, w32.2.2.2.1, w32.2.2.2.2.1, w32.2.2.2.2.2.1, w32.2.2.2.2.2.2.1, w32.2.2.2.2.2.2.2.1, w32.2.2.2.2.2.2.2.2.1, w32.2.2.2.2.2.2.2.2.2.1, ()))
    (fun (w33 : D107) =>
      k1 (w33.1, w33.2.1, w33.2.2.1, w33.2.2.2.1, w33.2.2.2.2.1, w33.2.2.2.2.2.1, ()))
    (v.1, v.2.1, v.2.2.2.2.1, v.2.2.1, v.2.2.2.1, v.2.2.2.2.1, y31.2.2.1, (y31.2.2.1.length : Int), (0 : Int), y31.2.1, y31.2.2.1, v.2.2.2.2.2.1, ())
  else none
  else none
noncomputable def f581p5S (k : Nat) : Sum1 := part2Sum f581p5H f581p5N (f581p4S k) (fun R K v => f581p5 k (fun w => K .ret (encSt f581p5X0 w)) (fun w => K .normal (encSt f581p5X1 w)) v)
theorem f581p5E (k : Nat) (R : Type) (K : X → St → Option R) (v : f581p5H.Den) : evS tab (f581T k).t Tryz.f81.ntmps [(4148454, f581p1S k), (259278, f581l3S k)] f581p5C 8102 (partK f581p5M K) (encSt f581p5H v) = f581p5 k (fun w => K .ret (encSt f581p5X0 w)) (fun w => K .normal (encSt f581p5X1 w)) v := by kernel_rfl
theorem f581p5I (k : Nat) : SumsOk P Tryz.f81.ntmps [(4148454, f581p1S k), (259278, f581l3S k)] f581p5C 8102 := ((SumsOk.nil).s (f581l3O k) (by kernel_rfl)).s (f581p1O k) (by kernel_rfl)
theorem f581p5O (k : Nat) : SumO P Tryz.f81 8102 (f581p5S k) := part2_ok tm.1 (f581T k).ok tm.2 (f581p5I k) (f581p4O k) (f581p5E k)
noncomputable def f581l6H : Shape := ⟨[(0, .one (.ro Y8)), (6, .one (.ptr 0 0)), (7, .one (.int .i64)), (20, .one (.ro Y8)), (21, .one (.int .i64)), (22, .one (.int .i64))], [(0, .var 174 [.ptr 0 0, .own 1]), (1, .row 5 (.int .u8) .plain)], 2, []⟩
noncomputable def f581l6X0 : Shape := ⟨[(2, .one (.str)), (3, .one (.int .i64)), (4, .one (.int .i64)), (5, .one (.int .i64)), (6, .one (.ptr 0 0))], [(0, .var 174 [.ptr 0 0, .own 1]), (1, .row 5 (.int .u8) .plain)], 2, []⟩
noncomputable def f581l6X1 : Shape := ⟨[(6, .one (.ptr 0 0))], [(0, .var 174 [.ptr 0 0, .own 1]), (1, .row 5 (.int .u8) .plain)], 2, []⟩
noncomputable def f581l6N : NoteR := ⟨[0, 6, 7, 20, 21, 22], [], []⟩
noncomputable def f581l6M : NoteR := ⟨[2, 3, 4, 5, 6], [], []⟩
noncomputable def f581l6C : Code := firstC (codesAt 506 (codeOf Tryz.f81) 1)
noncomputable def f581l6s {R : Type} (k : Nat) (rec : D107 → Option R) (k0 : D110 → Option R) (k1 : List Int × Unit → Option R) (v : D107) : Option R :=
  bif (decide (v.2.2.2.2.1 < v.2.2.2.1)) then
    f581p5 k
      (fun (w34 : D106) =>
        k0 (w34.2.1, w34.2.2.1, w34.2.2.2.1, w34.2.2.2.2.1, w34.2.2.2.2.2.2.2.2.2.1, ()))
      (fun (w35 : D107) =>
        rec (w35.1, w35.2.1, w35.2.2.1, w35.2.2.2.1, (IntKind.i64.wrap (w35.2.2.2.2.1 + (1 : Int))), w35.2.2.2.2.2.1, ()))
      (v.1, v.2.1, v.2.2.1, v.2.2.2.1, v.2.2.2.2.1, v.2.2.2.2.2.1, ())
  else
  k1 (v.2.2.2.2.2.1, ())
noncomputable def f581l6 {R : Type} (k : Nat) (k0 : D110 → Option R) (k1 : List Int × Unit → Option R) (v : D107) : Option R := iterS (fun rec v => f581l6s k rec k0 k1 v) k v
noncomputable def f581l6S (k : Nat) : Sum1 := loopSum f581l6H f581l6N k (fun R rec K v => f581l6s k rec (fun w => K .ret (encSt f581l6X0 w)) (fun w => K (.exit 0) (encSt f581l6X1 w)) v)
theorem f581l6E (k : Nat) (R : Type) (rec : St → Option R) (K : X → St → Option R) (v : f581l6H.Den) : evS tab (f581T k).t Tryz.f81.ntmps [(4148454, f581p1S k), (259278, f581l3S k), (8102, f581p5S k)] (bodyOf f581l6C) 1012 (bodyK f581l6N f581l6M rec K) (encSt f581l6H v) = f581l6s k (fun v => rec (encSt f581l6H v)) (fun w => K .ret (encSt f581l6X0 w)) (fun w => K (.exit 0) (encSt f581l6X1 w)) v := by kernel_rfl
theorem f581l6I (k : Nat) : SumsOk P Tryz.f81.ntmps [(4148454, f581p1S k), (259278, f581l3S k), (8102, f581p5S k)] (bodyOf f581l6C) 1012 := (((SumsOk.nil).s (f581p5O k) (by kernel_rfl)).s (f581l3O k) (by kernel_rfl)).s (f581p1O k) (by kernel_rfl)
theorem f581l6O (k : Nat) : SumO P Tryz.f81 506 (f581l6S k) := (show SumOk P Tryz.f81.ntmps f581l6C (f581l6S k) from (show f581l6C = .loop (bodyOf f581l6C) by kernel_rfl) ▸ sum_loop tm.1 (f581T k).ok tm.2 (f581l6I k) (f581l6E k))
noncomputable def f581l7H : Shape := ⟨[(0, .one (.ro Y8)), (6, .one (.ptr 0 0)), (7, .one (.int .i64)), (20, .one (.ro Y8)), (21, .one (.int .i64)), (22, .one (.int .i64))], [(0, .var 174 [.nil .ptr, .emp])], 1, []⟩
noncomputable def f581l7X0 : Shape := ⟨[(2, .one (.str)), (3, .one (.int .i64)), (4, .one (.int .i64)), (5, .one (.int .i64)), (6, .one (.ptr 0 0))], [(0, .var 174 [.nil .ptr, .emp])], 1, []⟩
noncomputable def f581l7X1 : Shape := ⟨[(2, .one (.str)), (3, .one (.int .i64)), (4, .one (.int .i64)), (5, .one (.int .i64)), (6, .one (.ptr 0 0))], [(0, .var 174 [.ptr 0 0, .own 1]), (1, .row 5 (.int .u8) .plain)], 2, []⟩
noncomputable def f581l7X2 : Shape := ⟨[(6, .one (.ptr 0 0))], [(0, .var 174 [.ptr 0 0, .own 1]), (1, .row 5 (.int .u8) .plain)], 2, []⟩
noncomputable def f581l7X3 : Shape := ⟨[(6, .one (.ptr 0 0))], [(0, .var 174 [.nil .ptr, .emp])], 1, []⟩
noncomputable def f581l7N : NoteR := ⟨[0, 6, 7, 20, 21, 22], [], []⟩
noncomputable def f581l7M : NoteR := ⟨[2, 3, 4, 5, 6], [], []⟩
noncomputable def f581l7C : Code := firstC (codesAt 506 (codeOf Tryz.f81) 1)
noncomputable def f581l7s {R : Type} (k : Nat) (rec : D109 → Option R) (k0 : D51 → Option R) (k1 : D110 → Option R) (k2 : List Int × Unit → Option R) (k3 : Unit → Option R) (v : D109) : Option R :=
  bif (decide (v.2.2.2.2.1 < v.2.2.2.1)) then
    f581p4 k
      (fun (w27 : D108) =>
        k0 (w27.2.1, w27.2.2.1, w27.2.2.2.1, w27.2.2.2.2.1, ()))
      (fun (w28 : D106) =>
        k1 (w28.2.1, w28.2.2.1, w28.2.2.2.1, w28.2.2.2.2.1, w28.2.2.2.2.2.2.2.2.2.1, ()))
      (fun (w29 : D107) =>
        f581l6 k
          (fun (w36 : D110) =>
            k1 (w36.1, w36.2.1, w36.2.2.1, w36.2.2.2.1, w36.2.2.2.2.1, ()))
          (fun (w37 : List Int × Unit) =>
            k2 (w37.1, ()))
          (w29.1, w29.2.1, w29.2.2.1, w29.2.2.2.1, (IntKind.i64.wrap (w29.2.2.2.2.1 + (1 : Int))), w29.2.2.2.2.2.1, ()))
      (fun (w38 : D109) =>
        rec (w38.1, w38.2.1, w38.2.2.1, w38.2.2.2.1, (IntKind.i64.wrap (w38.2.2.2.2.1 + (1 : Int))), ()))
      (v.1, v.2.1, v.2.2.1, v.2.2.2.1, v.2.2.2.2.1, ())
  else
  k3 (())
noncomputable def f581l7 {R : Type} (k : Nat) (k0 : D51 → Option R) (k1 : D110 → Option R) (k2 : List Int × Unit → Option R) (k3 : Unit → Option R) (v : D109) : Option R := iterS (fun rec v => f581l7s k rec k0 k1 k2 k3 v) k v
theorem f581l6Rd (k : Nat) : SumRd P Tryz.f81.ntmps (bodyOf f581l6C) (f581l6S k) k := loop_rd tm.1 (f581T k).ok tm.2 (f581l6I k) (f581l6E k)
noncomputable def f581l7S (k : Nat) : Sum1 := loop2Sum f581l7H f581l7N (f581l6S k) k (fun R rec K v => f581l7s k rec (fun w => K .ret (encSt f581l7X0 w)) (fun w => K .ret (encSt f581l7X1 w)) (fun w => K (.exit 0) (encSt f581l7X2 w)) (fun w => K (.exit 0) (encSt f581l7X3 w)) v)
theorem f581l7E (k : Nat) (R : Type) (rec : f581l7H.Den → Option R) (K : X → St → Option R) (v : f581l7H.Den) : evS tab (f581T k).t Tryz.f81.ntmps [(4148454, f581p1S k), (259278, f581l3S k), (8102, f581p5S k)] (bodyOf f581l7C) 1012 (step2K f581l7H f581l7N f581l7M (f581l6S k) rec K) (encSt f581l7H v) = f581l7s k rec (fun w => K .ret (encSt f581l7X0 w)) (fun w => K .ret (encSt f581l7X1 w)) (fun w => K (.exit 0) (encSt f581l7X2 w)) (fun w => K (.exit 0) (encSt f581l7X3 w)) v := by kernel_rfl
theorem f581l7I (k : Nat) : SumsOk P Tryz.f81.ntmps [(4148454, f581p1S k), (259278, f581l3S k), (8102, f581p5S k)] (bodyOf f581l7C) 1012 := (((SumsOk.nil).s (f581p5O k) (by kernel_rfl)).s (f581l3O k) (by kernel_rfl)).s (f581p1O k) (by kernel_rfl)
theorem f581l7Rd (k : Nat) : SumRd P Tryz.f81.ntmps (bodyOf f581l7C) (f581l7S k) (k + (k)) := loop2_rd tm.1 (f581T k).ok tm.2 (f581l7I k) ((show bodyOf f581l6C = bodyOf f581l7C by kernel_rfl) ▸ f581l6Rd k) (f581l7E k)
theorem f581l7O (k : Nat) : SumO P Tryz.f81 506 (f581l7S k) := (show SumOk P Tryz.f81.ntmps f581l7C (f581l7S k) from (show f581l7C = .loop (bodyOf f581l7C) by kernel_rfl) ▸ (f581l7Rd k).ok)
noncomputable def f581p8 {R : Type} (k : Nat) (k0 : D51 → Option R) (k1 : D110 → Option R) (k2 : List Int × Unit → Option R) (k3 : Unit → Option R) (v : List D56 × Int × Unit) : Option R :=
  f581l7 k
    (fun (w39 : D51) =>
      k0 (w39.1, w39.2.1, w39.2.2.1, w39.2.2.2.1, ()))
    (fun (w40 : D110) =>
      k1 (w40.1, w40.2.1, w40.2.2.1, w40.2.2.2.1, w40.2.2.2.2.1, ()))
    (fun (w41 : List Int × Unit) =>
      k2 (w41.1, ()))
    (fun (w42 : Unit) =>
      k3 (()))
    (v.1, v.2.1, v.1, (v.1.length : Int), (0 : Int), ())
noncomputable def f581p8S (k : Nat) := partSum ⟨[(0, .one (.ro Y8)), (6, .one (.ptr 0 0)), (7, .one (.int .i64))], [(0, .var 174 [.nil .ptr, .emp])], 1, []⟩ ⟨[0, 6, 7], [], []⟩ fun R K v => f581p8 k (fun w => K .ret (encSt ⟨[(2, .one (.str)), (3, .one (.int .i64)), (4, .one (.int .i64)), (5, .one (.int .i64)), (6, .one (.ptr 0 0))], [(0, .var 174 [.nil .ptr, .emp])], 1, []⟩ w)) (fun w => K .ret (encSt ⟨[(2, .one (.str)), (3, .one (.int .i64)), (4, .one (.int .i64)), (5, .one (.int .i64)), (6, .one (.ptr 0 0))], [(0, .var 174 [.ptr 0 0, .own 1]), (1, .row 5 (.int .u8) .plain)], 2, []⟩ w)) (fun w => K .normal (encSt ⟨[(6, .one (.ptr 0 0))], [(0, .var 174 [.ptr 0 0, .own 1]), (1, .row 5 (.int .u8) .plain)], 2, []⟩ w)) (fun w => K .normal (encSt ⟨[(6, .one (.ptr 0 0))], [(0, .var 174 [.nil .ptr, .emp])], 1, []⟩ w)) v
theorem f581p8O (k : Nat) : SumO P Tryz.f81 126 (f581p8S k) := pt tm (f581T k) ⟨[0, 2, 3, 4, 5, 6, 7, 20, 21, 22], [], []⟩ (SumsOk.nil |>.s (f581l7O k) (by kernel_rfl) |>.s (f581p5O k) (by kernel_rfl) |>.s (f581l3O k) (by kernel_rfl) |>.s (f581p1O k) (by kernel_rfl)) fun _ _ _ => by kernel_rfl
noncomputable def f581F (k : Nat) (x : (List D56)) : Option (D112) :=
  bif ((x.length : Int) == (0 : Int)) then
    some (ByteArray.empty, (0 : Int), (0 : Int), (1 : Int))
  else
  bif (decide ((x.length : Int) > (6 : Int))) then
    some (ByteArray.empty, (0 : Int), (0 : Int), (2 : Int))
  else
  f581p8 k
    (fun (w43 : D51) =>
      some (w43.1, w43.2.1, w43.2.2.1, w43.2.2.2.1))
    (fun (w44 : D110) =>
      some (w44.1, w44.2.1, w44.2.2.1, w44.2.2.2.1))
    (fun (w45 : List Int × Unit) =>
      bif (!(List.isEmpty w45.1) && (List.all w45.1 fun x => decide ((0 : Int) ≤ x) && decide (x ≤ 255))) then
      some ((strOfNums w45.1), (0 : Int), (0 : Int), (0 : Int))
      else none)
    (fun (w46 : Unit) =>
      some (ByteArray.empty, (0 : Int), (0 : Int), (0 : Int)))
    (x, (0 : Int), ())
theorem f581Ok (k : Nat) : FnV P 81 [.dat (.slice Y8)] [.dat .str, .dat (.int .i64), .dat (.int .i64), .dat (.int .i64)] (f581F k) :=
  fs tm (f581T k) Tryz.func81 (by kernel_rfl) (SumsOk.nil |>.s (f581p8O k) (by kernel_rfl) |>.s (f581l7O k) (by kernel_rfl) |>.s (f581p5O k) (by kernel_rfl) |>.s (f581l3O k) (by kernel_rfl) |>.s (f581p1O k) (by kernel_rfl)) none fun _ => by kernel_rfl
/-! ## midrange/save.CheckVolumes -/
noncomputable def f536T (k : Nat) : TB P := TB.nil |>.u (f581Ok k)
noncomputable def f536F (k : Nat) (x : (List D56)) : Option (Int × Int × Int) :=
  Option.bind (f581F k x) fun y1 =>
  bif (y1.2.2.2 != (0 : Int)) then
    some (y1.2.1, y1.2.2.1, y1.2.2.2)
  else
  some ((y1.1.size : Int), (0 : Int), (0 : Int))
theorem f536Ok (k : Nat) : FnV P 36 [.dat (.slice Y8)] [.dat (.int .i64), .dat (.int .i64), .dat (.int .i64)] (f536F k) :=
  fs tm (f536T k) Tryz.func36 (by kernel_rfl) SumsOk.nil none fun _ => by kernel_rfl
/-! ## midrange/midrangelaw34.awake -/
noncomputable def f513T (k : Nat) : TB P := TB.nil |>.u (f536Ok k) |>.p (f521Ok k)
noncomputable def f513F (k : Nat) (x : Unit) : Option (Bool) :=
  Option.bind (f521F k ([], [(⟨#[65]⟩ : ByteArray)], (1 : Int))) fun y1 =>
  bif (y1.2 != (0 : Int)) then
    some false
  else
  bif ((y1.1.length : Int) != (1 : Int)) then
    some false
  else
  bif (decide ((0 : Int) < (y1.1.length : Int))) then
  bif (((y1.1.getD 0 (ByteArray.empty, [])).2.length : Int) != (1 : Int)) then
    some false
  else
  bif (decide ((0 : Int) < (y1.1.length : Int))) then
  bif (decide ((0 : Int) < ((y1.1.getD 0 (ByteArray.empty, [])).2.length : Int))) then
  let t2 := (((y1.1.getD 0 (ByteArray.empty, [])).2.getD 0 ByteArray.empty).size : Int)
  bif (t2 != (64 : Int)) then
    some false
  else
  Option.bind (f536F k y1.1) fun y3 =>
  bif (y3.2.2 == (0 : Int)) then
    bif (y3.1 == (1 : Int)) then
      bif (decide ((0 : Int) < (y1.1.length : Int))) then
      bif (decide ((0 : Int) < ((y1.1.getD 0 (ByteArray.empty, [])).2.length : Int))) then
      bif (sliceBds (0 : Int) (4 : Int) (((y1.1.getD 0 (ByteArray.empty, [])).2.getD 0 ByteArray.empty).size : Int)) then
      let t4 := (((y1.1.getD 0 (ByteArray.empty, [])).2.getD 0 ByteArray.empty).extract 0 4)
      some (strEq t4 (⟨#[1, 0, 1, 129]⟩ : ByteArray))
      else none
      else none
      else none
    else
    some false
  else
  some false
  else none
  else none
  else none
theorem f513Ok (k : Nat) : FnV P 13 [] [.dat .bool] (f513F k) :=
  fs tm (f513T k) Tryz.func13 (by kernel_rfl) SumsOk.nil none fun _ => by kernel_rfl
/-! ## midrange/midrangeref29.FewFormat -/
noncomputable def f548F (k : Nat) (x : (ByteArray × (List D6))) : Option (Bool) :=
  some (decide ((x.2.length : Int) ≤ (22 : Int)))
theorem f548Ok (k : Nat) : FnV P 48 [.agg Y2] [.dat .bool] (f548F k) :=
  fs tm TB.nil Tryz.func48 (by kernel_rfl) SumsOk.nil none fun _ => by kernel_rfl
/-! ## midrange/midrangeref29.FewTables -/
noncomputable def f514T (k : Nat) : TB P := TB.nil |>.u (f548Ok k)
noncomputable def f514l0s {R : Type} (k : Nat) (rec : D114 → Option R) (k0 : D113 → Option R) (k1 : List D34 × Int × Unit → Option R) (v : D114) : Option R :=
  bif ((decide ((0 : Int) ≤ v.2.1)) && (decide (v.2.1 < (v.1.length : Int)))) then
  let t5 := (v.1.getD (Int.toNat v.2.1) ((ByteArray.empty, ((ByteArray.empty, []), ([], false))), []))
  bif (decide (v.2.2.1 < (t5.2.length : Int))) then
    bif ((decide ((0 : Int) ≤ v.2.1)) && (decide (v.2.1 < (v.1.length : Int)))) then
    let t6 := (v.1.getD (Int.toNat v.2.1) ((ByteArray.empty, ((ByteArray.empty, []), ([], false))), []))
    bif ((decide ((0 : Int) ≤ v.2.2.1)) && (decide (v.2.2.1 < (t6.2.length : Int)))) then
    let t7 := ((t6.2.getD (Int.toNat v.2.2.1) (false, ByteArray.empty)).2.size : Int)
    bif (decide (t7 > (220 : Int))) then
      k0 (v.1, false, v.2.1, ())
    else
    rec (v.1, v.2.1, (IntKind.i64.wrap (v.2.2.1 + (1 : Int))), ())
    else none
    else none
  else
  k1 (v.1, v.2.1, ())
  else none
noncomputable def f514l0 {R : Type} (k : Nat) (k0 : D113 → Option R) (k1 : List D34 × Int × Unit → Option R) (v : D114) : Option R := iterS (fun rec v => f514l0s k rec k0 k1 v) k v
noncomputable def f514l0S (k : Nat) := loopSum ⟨[(0, .one (.ro Y6)), (3, .one (.int .i64)), (4, .one (.int .i64))], [], 0, []⟩ ⟨[0, 3, 4], [], []⟩ k fun R rec K v => f514l0s k rec (fun w => K .ret (encSt ⟨[(0, .one (.ro Y6)), (2, .one (.bool)), (3, .one (.int .i64))], [], 0, []⟩ w)) (fun w => K (.exit 2) (encSt ⟨[(0, .one (.ro Y6)), (3, .one (.int .i64))], [], 0, []⟩ w)) v
theorem f514l0O (k : Nat) : SumO P Tryz.f14 7462 (f514l0S k) := lp tm (f514T k) ⟨[0, 2, 3], [], []⟩ SumsOk.nil (by kernel_rfl) fun _ _ _ _ => by kernel_rfl
noncomputable def f514l1s {R : Type} (k : Nat) (rec : List D34 × Int × Unit → Option R) (k0 : Bool × Unit → Option R) (k1 : Unit → Option R) (v : List D34 × Int × Unit) : Option R :=
  bif (decide (v.2.1 < (v.1.length : Int))) then
    bif ((decide ((0 : Int) ≤ v.2.1)) && (decide (v.2.1 < (v.1.length : Int)))) then
    let t1 := (v.1.getD (Int.toNat v.2.1) ((ByteArray.empty, ((ByteArray.empty, []), ([], false))), []))
    Option.bind (f548F k (t1.1.2.1.1, t1.1.2.1.2)) fun y2 =>
    bif (!y2) then
      k0 (false, ())
    else
    bif ((decide ((0 : Int) ≤ v.2.1)) && (decide (v.2.1 < (v.1.length : Int)))) then
    let t3 := (v.1.getD (Int.toNat v.2.1) ((ByteArray.empty, ((ByteArray.empty, []), ([], false))), []))
    bif (decide ((t3.1.2.2.1.length : Int) > (6 : Int))) then
      k0 (false, ())
    else
    bif ((decide ((0 : Int) ≤ v.2.1)) && (decide (v.2.1 < (v.1.length : Int)))) then
    let t4 := (v.1.getD (Int.toNat v.2.1) ((ByteArray.empty, ((ByteArray.empty, []), ([], false))), []))
    bif (decide ((t4.2.length : Int) > (62 : Int))) then
      k0 (false, ())
    else
    f514l0 k
      (fun (w8 : D113) =>
        k0 (w8.2.1, ()))
      (fun (w9 : List D34 × Int × Unit) =>
        rec (w9.1, (IntKind.i64.wrap (w9.2.1 + (1 : Int))), ()))
      (v.1, v.2.1, (0 : Int), ())
    else none
    else none
    else none
  else
  k1 (())
noncomputable def f514l1 {R : Type} (k : Nat) (k0 : Bool × Unit → Option R) (k1 : Unit → Option R) (v : List D34 × Int × Unit) : Option R := iterS (fun rec v => f514l1s k rec k0 k1 v) k v
noncomputable def f514l1S (k : Nat) := loopSum ⟨[(0, .one (.ro Y6)), (3, .one (.int .i64))], [], 0, []⟩ ⟨[0, 3], [], []⟩ k fun R rec K v => f514l1s k rec (fun w => K .ret (encSt ⟨[(2, .one (.bool))], [], 0, []⟩ w)) (fun w => K (.exit 0) (encSt ⟨[], [], 0, []⟩ w)) v
theorem f514l1O (k : Nat) : SumO P Tryz.f14 58 (f514l1S k) := lp tm (f514T k) ⟨[2], [], []⟩ (SumsOk.nil |>.s (f514l0O k) (by kernel_rfl)) (by kernel_rfl) fun _ _ _ _ => by kernel_rfl
noncomputable def f514F (k : Nat) (x : (List D34)) : Option (Bool) :=
  bif (decide ((x.length : Int) > (10 : Int))) then
    some false
  else
  f514l1 k
    (fun (w10 : Bool × Unit) =>
      some w10.1)
    (fun (w11 : Unit) =>
      some true)
    (x, (0 : Int), ())
theorem f514Ok (k : Nat) : FnV P 14 [.dat (.slice Y6)] [.dat .bool] (f514F k) :=
  fs tm (f514T k) Tryz.func14 (by kernel_rfl) (SumsOk.nil |>.s (f514l1O k) (by kernel_rfl) |>.s (f514l0O k) (by kernel_rfl)) none fun _ => by kernel_rfl
/-! ## midrange/midrangelaw34.fewNames -/
noncomputable def f520l0s {R : Type} (k : Nat) (rec : D86 → Option R) (k0 : Bool × Unit → Option R) (k1 : Unit → Option R) (v : D86) : Option R :=
  bif (decide (v.2.1 < (v.1.length : Int))) then
    bif (decide (v.2.1 > (9 : Int))) then
      k0 (false, ())
    else
    bif ((decide ((0 : Int) ≤ v.2.1)) && (decide (v.2.1 < (v.1.length : Int)))) then
    let t1 := (decide (((v.1.getD (Int.toNat v.2.1) ByteArray.empty).size : Int) > (30 : Int)))
    bif t1 then
      k0 (false, ())
    else
    rec (v.1, (IntKind.i64.wrap (v.2.1 + (1 : Int))), ())
    else none
  else
  k1 (())
noncomputable def f520l0 {R : Type} (k : Nat) (k0 : Bool × Unit → Option R) (k1 : Unit → Option R) (v : D86) : Option R := iterS (fun rec v => f520l0s k rec k0 k1 v) k v
noncomputable def f520l0S (k : Nat) := loopSum ⟨[(0, .one (.ro .str)), (3, .one (.int .i64))], [], 0, []⟩ ⟨[0, 3], [], []⟩ k fun R rec K v => f520l0s k rec (fun w => K .ret (encSt ⟨[(2, .one (.bool))], [], 0, []⟩ w)) (fun w => K (.exit 0) (encSt ⟨[], [], 0, []⟩ w)) v
theorem f520l0O (k : Nat) : SumO P Tryz.f20 26 (f520l0S k) := lp tm TB.nil ⟨[2], [], []⟩ SumsOk.nil (by kernel_rfl) fun _ _ _ _ => by kernel_rfl
noncomputable def f520F (k : Nat) (x : (List ByteArray)) : Option (Bool) :=
  f520l0 k
    (fun (w2 : Bool × Unit) =>
      some w2.1)
    (fun (w3 : Unit) =>
      some true)
    (x, (0 : Int), ())
theorem f520Ok (k : Nat) : FnV P 20 [.dat (.slice .str)] [.dat .bool] (f520F k) :=
  fs tm TB.nil Tryz.func20 (by kernel_rfl) (SumsOk.nil |>.s (f520l0O k) (by kernel_rfl)) none fun _ => by kernel_rfl
/-! ## midrange/midrangebase.OwnFormat -/
noncomputable def f571F (k : Nat) (x : (ByteArray × (List D6))) : Option ((ByteArray × (List D6))) :=
  bif (decide ((([] : List D6).length + x.2.length) * 40 ≤ 140737488355328) && decide (([] : List D6).length + x.2.length ≤ 9223372036854775807)) then
  some (x.1, ([] ++ x.2))
  else none
theorem f571Ok (k : Nat) : FnV P 71 [.agg Y2] [.agg Y2] (f571F k) :=
  fs tm TB.nil Tryz.func71 (by kernel_rfl) SumsOk.nil none fun _ => by kernel_rfl
/-! ## midrange/midrangebase.OwnFile -/
noncomputable def f526T (k : Nat) : TB P := TB.nil |>.p (f571Ok k)
noncomputable def f526F (k : Nat) (x : (ByteArray × D12)) : Option ((ByteArray × D12)) :=
  Option.bind (f571F k (x.2.1.1, x.2.1.2)) fun y1 =>
  bif (decide ((([] : List (ByteArray × Bool)).length + x.2.2.1.length) * 24 ≤ 140737488355328) && decide (([] : List (ByteArray × Bool)).length + x.2.2.1.length ≤ 9223372036854775807)) then
  some (x.1, ((y1.1, y1.2), (([] ++ x.2.2.1), x.2.2.2)))
  else none
theorem f526Ok (k : Nat) : FnV P 26 [.agg Y4] [.agg Y4] (f526F k) :=
  fs tm (f526T k) Tryz.func26 (by kernel_rfl) SumsOk.nil none fun _ => by kernel_rfl
/-! ## midrange/midrangebase.OwnTable -/
noncomputable def f551T (k : Nat) : TB P := TB.nil |>.p (f526Ok k)
noncomputable def f551F (k : Nat) (x : D34) : Option (D34) :=
  Option.bind (f526F k (x.1.1, ((x.1.2.1.1, x.1.2.1.2), (x.1.2.2.1, x.1.2.2.2)))) fun y1 =>
  bif (decide ((([] : List (Bool × ByteArray)).length + x.2.length) * 24 ≤ 140737488355328) && decide (([] : List (Bool × ByteArray)).length + x.2.length ≤ 9223372036854775807)) then
  some ((y1.1, ((y1.2.1.1, y1.2.1.2), (y1.2.2.1, y1.2.2.2))), ([] ++ x.2))
  else none
theorem f551Ok (k : Nat) : FnV P 51 [.agg Y6] [.agg Y6] (f551F k) :=
  fs tm (f551T k) Tryz.func51 (by kernel_rfl) SumsOk.nil none fun _ => by kernel_rfl
/-! ## midrange/midrangebase.OwnTables -/
noncomputable def f516T (k : Nat) : TB P := TB.nil |>.p (f551Ok k)
noncomputable def f516l0s {R : Type} (k : Nat) (rec : D115 → Option R) (k0 : List D34 × Unit → Option R) (v : D115) : Option R :=
  bif (decide (v.2.1 < (v.1.length : Int))) then
    bif ((decide ((0 : Int) ≤ v.2.1)) && (decide (v.2.1 < (v.1.length : Int)))) then
    let t1 := (v.1.getD (Int.toNat v.2.1) ((ByteArray.empty, ((ByteArray.empty, []), ([], false))), []))
    Option.bind (f551F k ((t1.1.1, ((t1.1.2.1.1, t1.1.2.1.2), (t1.1.2.2.1, t1.1.2.2.2))), t1.2)) fun y2 =>
    let t3 := [((y2.1.1, ((y2.1.2.1.1, y2.1.2.1.2), (y2.1.2.2.1, y2.1.2.2.2))), y2.2)]
    bif (decide ((v.2.2.1.length + t3.length) * 112 ≤ 140737488355328) && decide (v.2.2.1.length + t3.length ≤ 9223372036854775807)) then
    rec (v.1, (IntKind.i64.wrap (v.2.1 + (1 : Int))), (v.2.2.1 ++ t3), ())
    else none
    else none
  else
  k0 (v.2.2.1, ())
noncomputable def f516l0 {R : Type} (k : Nat) (k0 : List D34 × Unit → Option R) (v : D115) : Option R := iterS (fun rec v => f516l0s k rec k0 v) k v
noncomputable def f516l0S (k : Nat) := loopSum ⟨[(0, .one (.ro Y6)), (3, .one (.own 0)), (4, .one (.int .i64))], [(0, .row 52 Y6 .plain)], 1, []⟩ ⟨[0, 3, 4], [(3, 52, Y6)], []⟩ k fun R rec K v => f516l0s k rec (fun w => K (.exit 0) (encSt ⟨[(3, .one (.own 0))], [(0, .row 52 Y6 .plain)], 1, []⟩ w)) v
theorem f516l0O (k : Nat) : SumO P Tryz.f16 58 (f516l0S k) := lp tm (f516T k) ⟨[2, 3], [], []⟩ SumsOk.nil (by kernel_rfl) fun _ _ _ _ => by kernel_rfl
noncomputable def f516F (k : Nat) (x : (List D34)) : Option (List D34) :=
  f516l0 k
    (fun (w4 : List D34 × Unit) =>
      some w4.1)
    (x, (0 : Int), [], ())
theorem f516Ok (k : Nat) : FnV P 16 [.dat (.slice Y6)] [.own 52 Y6] (f516F k) :=
  fs tm (f516T k) Tryz.func16 (by kernel_rfl) (SumsOk.nil |>.s (f516l0O k) (by kernel_rfl)) none fun _ => by kernel_rfl
theorem f643V (k : Nat) : FnV P 143 [.dat .str, .dat .str] [.dat .str] (f643F k) := ⟨f643B, f643Ok k⟩
theorem f644V (k : Nat) : FnV P 144 [.dat .str, .dat .str] [.dat .bool] (f644F k) := ⟨f644B, f644Ok k⟩
/-! ## midrange/records.SizeOf -/
noncomputable def f613T (k : Nat) : TB P := TB.nil |>.u (f645Ok k) |>.u (f607Ok k)
noncomputable def f613F (k : Nat) (x : (ByteArray × (List D6))) : Option (Int × Int) :=
  Option.bind (f607F k (x.1, x.2)) fun y1 =>
  bif (y1 != (0 : Int)) then
    some ((0 : Int), y1)
  else
  Option.bind (f645F k (x.1, x.2)) fun y2 =>
  some (y2, (0 : Int))
theorem f613Ok (k : Nat) : FnV P 113 [.agg Y2] [.dat (.int .i64), .dat (.int .i64)] (f613F k) :=
  fs tm (f613T k) Tryz.func113 (by kernel_rfl) SumsOk.nil none fun _ => by kernel_rfl
/-! ## (*midrange/save.reader).fail, handed what it may write -/
noncomputable def f578v0I : Shape := ⟨[(0, .one (.ptr 0 0)), (1, .one (.int .i64))], [(0, .var 128 [.str, .int .i64])], 1, []⟩
noncomputable def f578v0U : Shape := ⟨[], [(0, .var 128 [.str, .int .i64])], 1, []⟩
noncomputable def f578v0F (k : Nat) (x : D116) : Option (ByteArray × Int × Unit) :=
  bif (x.2.2.1 == (0 : Int)) then
    some (x.2.1, x.1, ())
  else
  some (x.2.1, x.2.2.1, ())
theorem f578v0Ok (k : Nat) : GnV P 78 f578v0I f578v0U (f578v0F k) :=
  gs tm TB.nil Tryz.func78 (by kernel_rfl) SumsOk.nil [] [] fun _ => by kernel_rfl
/-! ## (*midrange/save.reader).take, handed what it may write -/
noncomputable def f610v0I : Shape := ⟨[(0, .one (.ptr 0 0)), (1, .one (.int .i64))], [(0, .var 128 [.str, .int .i64])], 1, []⟩
noncomputable def f610v0U : Shape := ⟨[(0, .one (.str))], [(0, .var 128 [.str, .int .i64])], 1, []⟩
noncomputable def f610v0T (k : Nat) : TB P := TB.nil |>.g (f578v0Ok k)
noncomputable def f610v0F (k : Nat) (x : D116) : Option (D117) :=
  bif (x.2.2.1 != (0 : Int)) then
    some (ByteArray.empty, x.2.1, x.2.2.1, ())
  else
  bif (decide (x.1 > (x.2.1.size : Int))) then
    Option.bind (f578v0F k ((9 : Int), x.2.1, x.2.2.1, ())) fun y1 =>
    some (ByteArray.empty, y1.1, y1.2.1, ())
  else
  bif (sliceBds (0 : Int) x.1 (x.2.1.size : Int)) then
  bif (sliceBds x.1 (x.2.1.size : Int) (x.2.1.size : Int)) then
  some ((x.2.1.extract 0 (Int.toNat x.1)), (x.2.1.extract (Int.toNat x.1) (Int.toNat (x.2.1.size : Int))), x.2.2.1, ())
  else none
  else none
theorem f610v0Ok (k : Nat) : GnV P 110 f610v0I f610v0U (f610v0F k) :=
  gs tm (f610v0T k) Tryz.func110 (by kernel_rfl) SumsOk.nil [.dat .bool] [] fun _ => by kernel_rfl
/-! ## (*midrange/save.reader).number, handed what it may write -/
noncomputable def f576v0I : Shape := ⟨[(0, .one (.ptr 0 0)), (1, .one (.int .i64))], [(0, .var 128 [.str, .int .i64])], 1, []⟩
noncomputable def f576v0U : Shape := ⟨[(0, .one (.int .i64))], [(0, .var 128 [.str, .int .i64])], 1, []⟩
noncomputable def f576v0T (k : Nat) : TB P := TB.nil |>.g (f610v0Ok k) |>.g (f578v0Ok k)
noncomputable def f576v0F (k : Nat) (x : D116) : Option (D116) :=
  Option.bind (f610v0F k ((1 : Int), x.2.1, x.2.2.1, ())) fun y1 =>
  bif (strEq y1.1 ByteArray.empty) then
    some ((0 : Int), y1.2.1, y1.2.2.1, ())
  else
  bif (decide ((0 : Int) < (y1.1.size : Int))) then
  bif (decide ((IntKind.i64.wrap (bt y1.1 (0 : Int))) > x.1)) then
    Option.bind (f578v0F k ((5 : Int), y1.2.1, y1.2.2.1, ())) fun y2 =>
    some ((0 : Int), y2.1, y2.2.1, ())
  else
  bif (decide ((0 : Int) < (y1.1.size : Int))) then
  some ((IntKind.i64.wrap (bt y1.1 (0 : Int))), y1.2.1, y1.2.2.1, ())
  else none
  else none
theorem f576v0Ok (k : Nat) : GnV P 76 f576v0I f576v0U (f576v0F k) :=
  gs tm (f576v0T k) Tryz.func76 (by kernel_rfl) SumsOk.nil [.dat .bool] [] fun _ => by kernel_rfl
/-! ## (*midrange/save.reader).name, handed what it may write -/
noncomputable def f611v0I : Shape := ⟨[(0, .one (.ptr 0 0))], [(0, .var 128 [.str, .int .i64])], 1, []⟩
noncomputable def f611v0U : Shape := ⟨[(0, .one (.str))], [(0, .var 128 [.str, .int .i64])], 1, []⟩
noncomputable def f611v0T (k : Nat) : TB P := TB.nil |>.u (f644V k) |>.u (f643V k) |>.g (f610v0Ok k) |>.g (f578v0Ok k)
noncomputable def f611v0p0 {R : Type} (k : Nat) (k0 : D117 → Option R) (v : D117) : Option R :=
  Option.bind (f644F k (v.1, (⟨#[32]⟩ : ByteArray))) fun y3 =>
  bif y3 then
    Option.bind (f578v0F k ((5 : Int), v.2.1, v.2.2.1, ())) fun y4 =>
    k0 (v.1, y4.1, y4.2.1, ())
  else
  k0 (v.1, v.2.1, v.2.2.1, ())
noncomputable def f611v0p0S (k : Nat) := partSum ⟨[(0, .one (.ptr 0 0)), (3, .one (.str))], [(0, .var 128 [.str, .int .i64])], 1, [some 0]⟩ ⟨[0, 3], [], []⟩ fun R K v => f611v0p0 k (fun w => K .normal (encSt ⟨[(3, .one (.str))], [(0, .var 128 [.str, .int .i64])], 1, [some 0]⟩ w)) v
theorem f611v0p0O (k : Nat) : SumO P Tryz.f111 14 (f611v0p0S k) := pt tm (f611v0T k) ⟨[2, 3], [], []⟩ SumsOk.nil fun _ _ _ => by kernel_rfl
noncomputable def f611v0F (k : Nat) (x : ByteArray × Int × Unit) : Option (D117) :=
  Option.bind (f610v0F k ((10 : Int), x.1, x.2.1, ())) fun y1 =>
  Option.bind (f643F k (y1.1, (⟨#[32]⟩ : ByteArray))) fun y2 =>
  f611v0p0 k
    (fun (w5 : D117) =>
      some (w5.1, w5.2.1, w5.2.2.1, ()))
    (y2, y1.2.1, y1.2.2.1, ())
theorem f611v0Ok (k : Nat) : GnV P 111 f611v0I f611v0U (f611v0F k) :=
  gs tm (f611v0T k) Tryz.func111 (by kernel_rfl) (SumsOk.nil |>.s (f611v0p0O k) (by kernel_rfl)) [.dat .bool] [] fun _ => by kernel_rfl
/-! ## (*midrange/save.reader).flag, handed what it may write -/
noncomputable def f612v0I : Shape := ⟨[(0, .one (.ptr 0 0))], [(0, .var 128 [.str, .int .i64])], 1, []⟩
noncomputable def f612v0U : Shape := ⟨[(0, .one (.bool))], [(0, .var 128 [.str, .int .i64])], 1, []⟩
noncomputable def f612v0T (k : Nat) : TB P := TB.nil |>.g (f576v0Ok k)
noncomputable def f612v0F (k : Nat) (x : ByteArray × Int × Unit) : Option (D119) :=
  Option.bind (f576v0F k ((1 : Int), x.1, x.2.1, ())) fun y1 =>
  some ((y1.1 == (1 : Int)), y1.2.1, y1.2.2.1, ())
theorem f612v0Ok (k : Nat) : GnV P 112 f612v0I f612v0U (f612v0F k) :=
  gs tm (f612v0T k) Tryz.func112 (by kernel_rfl) SumsOk.nil [.dat .bool] [] fun _ => by kernel_rfl
/-! ## (*midrange/save.reader).table, handed what it may write -/
noncomputable def f577v0I : Shape := ⟨[(0, .one (.ptr 0 0))], [(0, .var 128 [.str, .int .i64])], 1, []⟩
noncomputable def f577v0U : Shape := ⟨[(0, .agg [.str, .str, .ro Y1, .ro (.pair .str .bool), .bool, .ro (.pair .bool .str)])], [(0, .var 128 [.str, .int .i64])], 1, []⟩
noncomputable def f577v0T (k : Nat) : TB P := TB.nil |>.u (f613Ok k) |>.g (f612v0Ok k) |>.g (f611v0Ok k) |>.g (f610v0Ok k) |>.g (f578v0Ok k) |>.g (f576v0Ok k) |>.u (f569Ok k)
noncomputable def f577v0l0s {R : Type} (k : Nat) (rec : D121 → Option R) (k0 : D118 → Option R) (v : D121) : Option R :=
  bif (decide (v.1 > (0 : Int))) then
    bif (v.2.2.1 == (0 : Int)) then
      Option.bind (f611v0F k (v.2.1, v.2.2.1, ())) fun y4 =>
      Option.bind (f576v0F k ((255 : Int), y4.2.1, y4.2.2.1, ())) fun y5 =>
      Option.bind (f576v0F k ((255 : Int), y5.2.1, y5.2.2.1, ())) fun y6 =>
      Option.bind (f576v0F k ((255 : Int), y6.2.1, y6.2.2.1, ())) fun y7 =>
      bif (decide ((v.2.2.2.2.2.2.2.2.2.2.2.2.1.length + [(y4.1, (y5.1, (y6.1, y7.1)))].length) * 40 ≤ 140737488355328) && decide (v.2.2.2.2.2.2.2.2.2.2.2.2.1.length + [(y4.1, (y5.1, (y6.1, y7.1)))].length ≤ 9223372036854775807)) then
      rec ((IntKind.i64.wrap (v.1 - (1 : Int))), y7.2.1, y7.2.2.1, v.2.2.2.1, v.2.2.2.2.1, v.2.2.2.2.2.1, v.2.2.2.2.2.2.1, v.2.2.2.2.2.2.2.1, v.2.2.2.2.2.2.2.2.1, v.2.2.2.2.2.2.2.2.2.1, v.2.2.2.2.2.2.2.2.2.2.1, v.2.2.2.2.2.2.2.2.2.2.2.1, (v.2.2.2.2.2.2.2.2.2.2.2.2.1 ++ [(y4.1, (y5.1, (y6.1, y7.1)))]), v.2.2.2.2.2.2.2.2.2.2.2.2.2.1, v.2.2.2.2.2.2.2.2.2.2.2.2.2.2.1, ())
      else none
    else
    k0 (v.2.1, v.2.2.1, v.2.2.2.1, v.2.2.2.2.1, v.2.2.2.2.2.1, v.2.2.2.2.2.2.1, v.2.2.2.2.2.2.2.1, v.2.2.2.2.2.2.2.2.1, v.2.2.2.2.2.2.2.2.2.1, v.2.2.2.2.2.2.2.2.2.2.1, v.2.2.2.2.2.2.2.2.2.2.2.1, v.2.2.2.2.2.2.2.2.2.2.2.2.1, v.2.2.2.2.2.2.2.2.2.2.2.2.2.1, v.2.2.2.2.2.2.2.2.2.2.2.2.2.2.1, ())
  else
  k0 (v.2.1, v.2.2.1, v.2.2.2.1, v.2.2.2.2.1, v.2.2.2.2.2.1, v.2.2.2.2.2.2.1, v.2.2.2.2.2.2.2.1, v.2.2.2.2.2.2.2.2.1, v.2.2.2.2.2.2.2.2.2.1, v.2.2.2.2.2.2.2.2.2.2.1, v.2.2.2.2.2.2.2.2.2.2.2.1, v.2.2.2.2.2.2.2.2.2.2.2.2.1, v.2.2.2.2.2.2.2.2.2.2.2.2.2.1, v.2.2.2.2.2.2.2.2.2.2.2.2.2.2.1, ())
noncomputable def f577v0l0 {R : Type} (k : Nat) (k0 : D118 → Option R) (v : D121) : Option R := iterS (fun rec v => f577v0l0s k rec k0 v) k v
noncomputable def f577v0l0S (k : Nat) := loopSum ⟨[(0, .one (.ptr 0 0)), (2, .one (.ptr 1 0)), (3, .one (.ptr 2 0)), (4, .one (.int .i64))], [(0, .var 128 [.str, .int .i64]), (1, .var 52 [.str, .str, .own 3, .own 4, .bool, .own 5]), (2, .var 52 [.str, .str, .own 6, .own 7, .bool, .own 8]), (3, .row 156 Y1 .plain), (4, .row 158 (.pair .str .bool) .plain), (5, .row 100 (.pair .bool .str) .plain), (6, .row 156 Y1 .plain), (7, .row 158 (.pair .str .bool) .plain), (8, .row 100 (.pair .bool .str) .plain)], 9, [some 0]⟩ ⟨[0, 2, 3, 4], [], []⟩ k fun R rec K v => f577v0l0s k rec (fun w => K (.exit 0) (encSt ⟨[(0, .one (.ptr 0 0)), (2, .one (.ptr 1 0)), (3, .one (.ptr 2 0))], [(0, .var 128 [.str, .int .i64]), (1, .var 52 [.str, .str, .own 3, .own 4, .bool, .own 5]), (2, .var 52 [.str, .str, .own 6, .own 7, .bool, .own 8]), (3, .row 156 Y1 .plain), (4, .row 158 (.pair .str .bool) .plain), (5, .row 100 (.pair .bool .str) .plain), (6, .row 156 Y1 .plain), (7, .row 158 (.pair .str .bool) .plain), (8, .row 100 (.pair .bool .str) .plain)], 9, [some 0]⟩ w)) v
theorem f577v0l0O (k : Nat) : SumO P Tryz.f77 250 (f577v0l0S k) := lp tm (f577v0T k) ⟨[0, 2, 3], [], []⟩ SumsOk.nil (by kernel_rfl) fun _ _ _ _ => by kernel_rfl
noncomputable def f577v0l1s {R : Type} (k : Nat) (rec : D121 → Option R) (k0 : D118 → Option R) (v : D121) : Option R :=
  bif (decide (v.1 > (0 : Int))) then
    bif (v.2.2.1 == (0 : Int)) then
      Option.bind (f611v0F k (v.2.1, v.2.2.1, ())) fun y10 =>
      Option.bind (f612v0F k (y10.2.1, y10.2.2.1, ())) fun y11 =>
      bif (decide ((v.2.2.2.2.2.2.2.2.2.2.2.2.2.1.length + [(y10.1, y11.1)].length) * 24 ≤ 140737488355328) && decide (v.2.2.2.2.2.2.2.2.2.2.2.2.2.1.length + [(y10.1, y11.1)].length ≤ 9223372036854775807)) then
      rec ((IntKind.i64.wrap (v.1 - (1 : Int))), y11.2.1, y11.2.2.1, v.2.2.2.1, v.2.2.2.2.1, v.2.2.2.2.2.1, v.2.2.2.2.2.2.1, v.2.2.2.2.2.2.2.1, v.2.2.2.2.2.2.2.2.1, v.2.2.2.2.2.2.2.2.2.1, v.2.2.2.2.2.2.2.2.2.2.1, v.2.2.2.2.2.2.2.2.2.2.2.1, v.2.2.2.2.2.2.2.2.2.2.2.2.1, (v.2.2.2.2.2.2.2.2.2.2.2.2.2.1 ++ [(y10.1, y11.1)]), v.2.2.2.2.2.2.2.2.2.2.2.2.2.2.1, ())
      else none
    else
    k0 (v.2.1, v.2.2.1, v.2.2.2.1, v.2.2.2.2.1, v.2.2.2.2.2.1, v.2.2.2.2.2.2.1, v.2.2.2.2.2.2.2.1, v.2.2.2.2.2.2.2.2.1, v.2.2.2.2.2.2.2.2.2.1, v.2.2.2.2.2.2.2.2.2.2.1, v.2.2.2.2.2.2.2.2.2.2.2.1, v.2.2.2.2.2.2.2.2.2.2.2.2.1, v.2.2.2.2.2.2.2.2.2.2.2.2.2.1, v.2.2.2.2.2.2.2.2.2.2.2.2.2.2.1, ())
  else
  k0 (v.2.1, v.2.2.1, v.2.2.2.1, v.2.2.2.2.1, v.2.2.2.2.2.1, v.2.2.2.2.2.2.1, v.2.2.2.2.2.2.2.1, v.2.2.2.2.2.2.2.2.1, v.2.2.2.2.2.2.2.2.2.1, v.2.2.2.2.2.2.2.2.2.2.1, v.2.2.2.2.2.2.2.2.2.2.2.1, v.2.2.2.2.2.2.2.2.2.2.2.2.1, v.2.2.2.2.2.2.2.2.2.2.2.2.2.1, v.2.2.2.2.2.2.2.2.2.2.2.2.2.2.1, ())
noncomputable def f577v0l1 {R : Type} (k : Nat) (k0 : D118 → Option R) (v : D121) : Option R := iterS (fun rec v => f577v0l1s k rec k0 v) k v
noncomputable def f577v0l1S (k : Nat) := loopSum ⟨[(0, .one (.ptr 0 0)), (2, .one (.ptr 1 0)), (3, .one (.ptr 2 0)), (6, .one (.int .i64))], [(0, .var 128 [.str, .int .i64]), (1, .var 52 [.str, .str, .own 3, .own 4, .bool, .own 5]), (2, .var 52 [.str, .str, .own 6, .own 7, .bool, .own 8]), (3, .row 156 Y1 .plain), (4, .row 158 (.pair .str .bool) .plain), (5, .row 100 (.pair .bool .str) .plain), (6, .row 156 Y1 .plain), (7, .row 158 (.pair .str .bool) .plain), (8, .row 100 (.pair .bool .str) .plain)], 9, [some 0]⟩ ⟨[0, 2, 3, 6], [], []⟩ k fun R rec K v => f577v0l1s k rec (fun w => K (.exit 2) (encSt ⟨[(0, .one (.ptr 0 0)), (2, .one (.ptr 1 0)), (3, .one (.ptr 2 0))], [(0, .var 128 [.str, .int .i64]), (1, .var 52 [.str, .str, .own 3, .own 4, .bool, .own 5]), (2, .var 52 [.str, .str, .own 6, .own 7, .bool, .own 8]), (3, .row 156 Y1 .plain), (4, .row 158 (.pair .str .bool) .plain), (5, .row 100 (.pair .bool .str) .plain), (6, .row 156 Y1 .plain), (7, .row 158 (.pair .str .bool) .plain), (8, .row 100 (.pair .bool .str) .plain)], 9, [some 0]⟩ w)) v
theorem f577v0l1O (k : Nat) : SumO P Tryz.f77 506 (f577v0l1S k) := lp tm (f577v0T k) ⟨[0, 2, 3], [], []⟩ SumsOk.nil (by kernel_rfl) fun _ _ _ _ => by kernel_rfl
noncomputable def f577v0p2 {R : Type} (k : Nat) (k0 : D120 → Option R) (v : D120) : Option R :=
  bif (!v.2.2.2.2.2.2.2.2.2.2.1) then
    Option.bind (f610v0F k (v.1, v.2.2.1, v.2.2.2.1, ())) fun y19 =>
    k0 (v.1, v.2.1, y19.2.1, y19.2.2.1, v.2.2.2.2.1, v.2.2.2.2.2.1, v.2.2.2.2.2.2.1, v.2.2.2.2.2.2.2.1, v.2.2.2.2.2.2.2.2.1, v.2.2.2.2.2.2.2.2.2.1, v.2.2.2.2.2.2.2.2.2.2.1, y19.1, v.2.2.2.2.2.2.2.2.2.2.2.2.1, v.2.2.2.2.2.2.2.2.2.2.2.2.2.1, v.2.2.2.2.2.2.2.2.2.2.2.2.2.2.1, v.2.2.2.2.2.2.2.2.2.2.2.2.2.2.2.1, v.2.2.2.2.2.2.2.2.2.2.2.2.2.2.2.2.1, v.2.2.2.2.2.2.2.2.2.2.2.2.2.2.2.2.2.1, ())
  else
  k0 (v.1, v.2.1, v.2.2.1, v.2.2.2.1, v.2.2.2.2.1, v.2.2.2.2.2.1, v.2.2.2.2.2.2.1, v.2.2.2.2.2.2.2.1, v.2.2.2.2.2.2.2.2.1, v.2.2.2.2.2.2.2.2.2.1, v.2.2.2.2.2.2.2.2.2.2.1, v.2.2.2.2.2.2.2.2.2.2.2.1, v.2.2.2.2.2.2.2.2.2.2.2.2.1, v.2.2.2.2.2.2.2.2.2.2.2.2.2.1, v.2.2.2.2.2.2.2.2.2.2.2.2.2.2.1, v.2.2.2.2.2.2.2.2.2.2.2.2.2.2.2.1, v.2.2.2.2.2.2.2.2.2.2.2.2.2.2.2.2.1, v.2.2.2.2.2.2.2.2.2.2.2.2.2.2.2.2.2.1, ())
noncomputable def f577v0p2S (k : Nat) := partSum ⟨[(0, .one (.ptr 0 0)), (2, .one (.ptr 1 0)), (3, .one (.ptr 2 0)), (10, .one (.int .i64)), (12, .one (.int .i64)), (13, .one (.ptr 3 0))], [(0, .var 128 [.str, .int .i64]), (1, .var 52 [.str, .str, .own 4, .own 5, .bool, .own 6]), (2, .var 52 [.str, .str, .own 7, .own 8, .bool, .own 9]), (3, .var 100 [.bool, .str]), (4, .row 156 Y1 .plain), (5, .row 158 (.pair .str .bool) .plain), (6, .row 100 (.pair .bool .str) .plain), (7, .row 156 Y1 .plain), (8, .row 158 (.pair .str .bool) .plain), (9, .row 100 (.pair .bool .str) .plain)], 10, [some 0]⟩ ⟨[0, 2, 3, 10, 12, 13], [], []⟩ fun R K v => f577v0p2 k (fun w => K .normal (encSt ⟨[(0, .one (.ptr 0 0)), (2, .one (.ptr 1 0)), (3, .one (.ptr 2 0)), (10, .one (.int .i64)), (12, .one (.int .i64)), (13, .one (.ptr 3 0))], [(0, .var 128 [.str, .int .i64]), (1, .var 52 [.str, .str, .own 4, .own 5, .bool, .own 6]), (2, .var 52 [.str, .str, .own 7, .own 8, .bool, .own 9]), (3, .var 100 [.bool, .str]), (4, .row 156 Y1 .plain), (5, .row 158 (.pair .str .bool) .plain), (6, .row 100 (.pair .bool .str) .plain), (7, .row 156 Y1 .plain), (8, .row 158 (.pair .str .bool) .plain), (9, .row 100 (.pair .bool .str) .plain)], 10, [some 0]⟩ w)) v
theorem f577v0p2O (k : Nat) : SumO P Tryz.f77 1048210 (f577v0p2S k) := pt tm (f577v0T k) ⟨[0, 2, 3, 10, 12, 13], [], []⟩ SumsOk.nil fun _ _ _ => by kernel_rfl
noncomputable def f577v0l3s {R : Type} (k : Nat) (rec : D122 → Option R) (k0 : D118 → Option R) (v : D122) : Option R :=
  bif (decide (v.2.1 > (0 : Int))) then
    bif (v.2.2.2.1 == (0 : Int)) then
      Option.bind (f612v0F k (v.2.2.1, v.2.2.2.1, ())) fun y18 =>
      f577v0p2 k
        (fun (w20 : D120) =>
          bif (decide ((w20.2.2.2.2.2.2.2.2.2.2.2.2.2.2.2.2.2.1.length + [(w20.2.2.2.2.2.2.2.2.2.2.1, w20.2.2.2.2.2.2.2.2.2.2.2.1)].length) * 24 ≤ 140737488355328) && decide (w20.2.2.2.2.2.2.2.2.2.2.2.2.2.2.2.2.2.1.length + [(w20.2.2.2.2.2.2.2.2.2.2.1, w20.2.2.2.2.2.2.2.2.2.2.2.1)].length ≤ 9223372036854775807)) then
          let t21 := (w20.2.2.2.2.2.2.2.2.2.2.2.2.2.2.2.2.2.1 ++ [(w20.2.2.2.2.2.2.2.2.2.2.1, w20.2.2.2.2.2.2.2.2.2.2.2.1)])
          rec (w20.1, (IntKind.i64.wrap (w20.2.1 - (1 : Int))), w20.2.2.1, w20.2.2.2.1, w20.2.2.2.2.1, w20.2.2.2.2.2.1, w20.2.2.2.2.2.2.1, w20.2.2.2.2.2.2.2.1, w20.2.2.2.2.2.2.2.2.1, w20.2.2.2.2.2.2.2.2.2.1, w20.2.2.2.2.2.2.2.2.2.2.2.2.1, w20.2.2.2.2.2.2.2.2.2.2.2.2.2.1, w20.2.2.2.2.2.2.2.2.2.2.2.2.2.2.1, w20.2.2.2.2.2.2.2.2.2.2.2.2.2.2.2.1, w20.2.2.2.2.2.2.2.2.2.2.2.2.2.2.2.2.1, t21, ())
          else none)
        (v.1, v.2.1, y18.2.1, y18.2.2.1, v.2.2.2.2.1, v.2.2.2.2.2.1, v.2.2.2.2.2.2.1, v.2.2.2.2.2.2.2.1, v.2.2.2.2.2.2.2.2.1, v.2.2.2.2.2.2.2.2.2.1, (!y18.1), ByteArray.empty, v.2.2.2.2.2.2.2.2.2.2.1, v.2.2.2.2.2.2.2.2.2.2.2.1, v.2.2.2.2.2.2.2.2.2.2.2.2.1, v.2.2.2.2.2.2.2.2.2.2.2.2.2.1, v.2.2.2.2.2.2.2.2.2.2.2.2.2.2.1, v.2.2.2.2.2.2.2.2.2.2.2.2.2.2.2.1, ())
    else
    k0 (v.2.2.1, v.2.2.2.1, v.2.2.2.2.1, v.2.2.2.2.2.1, v.2.2.2.2.2.2.1, v.2.2.2.2.2.2.2.1, v.2.2.2.2.2.2.2.2.1, v.2.2.2.2.2.2.2.2.2.1, v.2.2.2.2.2.2.2.2.2.2.1, v.2.2.2.2.2.2.2.2.2.2.2.1, v.2.2.2.2.2.2.2.2.2.2.2.2.1, v.2.2.2.2.2.2.2.2.2.2.2.2.2.1, v.2.2.2.2.2.2.2.2.2.2.2.2.2.2.1, v.2.2.2.2.2.2.2.2.2.2.2.2.2.2.2.1, ())
  else
  k0 (v.2.2.1, v.2.2.2.1, v.2.2.2.2.1, v.2.2.2.2.2.1, v.2.2.2.2.2.2.1, v.2.2.2.2.2.2.2.1, v.2.2.2.2.2.2.2.2.1, v.2.2.2.2.2.2.2.2.2.1, v.2.2.2.2.2.2.2.2.2.2.1, v.2.2.2.2.2.2.2.2.2.2.2.1, v.2.2.2.2.2.2.2.2.2.2.2.2.1, v.2.2.2.2.2.2.2.2.2.2.2.2.2.1, v.2.2.2.2.2.2.2.2.2.2.2.2.2.2.1, v.2.2.2.2.2.2.2.2.2.2.2.2.2.2.2.1, ())
noncomputable def f577v0l3 {R : Type} (k : Nat) (k0 : D118 → Option R) (v : D122) : Option R := iterS (fun rec v => f577v0l3s k rec k0 v) k v
noncomputable def f577v0l3S (k : Nat) := loopSum ⟨[(0, .one (.ptr 0 0)), (2, .one (.ptr 1 0)), (3, .one (.ptr 2 0)), (10, .one (.int .i64)), (12, .one (.int .i64))], [(0, .var 128 [.str, .int .i64]), (1, .var 52 [.str, .str, .own 3, .own 4, .bool, .own 5]), (2, .var 52 [.str, .str, .own 6, .own 7, .bool, .own 8]), (3, .row 156 Y1 .plain), (4, .row 158 (.pair .str .bool) .plain), (5, .row 100 (.pair .bool .str) .plain), (6, .row 156 Y1 .plain), (7, .row 158 (.pair .str .bool) .plain), (8, .row 100 (.pair .bool .str) .plain)], 9, [some 0]⟩ ⟨[0, 2, 3, 10, 12], [], []⟩ k fun R rec K v => f577v0l3s k rec (fun w => K (.exit 4) (encSt ⟨[(2, .one (.ptr 1 0)), (3, .one (.ptr 2 0))], [(0, .var 128 [.str, .int .i64]), (1, .var 52 [.str, .str, .own 3, .own 4, .bool, .own 5]), (2, .var 52 [.str, .str, .own 6, .own 7, .bool, .own 8]), (3, .row 156 Y1 .plain), (4, .row 158 (.pair .str .bool) .plain), (5, .row 100 (.pair .bool .str) .plain), (6, .row 156 Y1 .plain), (7, .row 158 (.pair .str .bool) .plain), (8, .row 100 (.pair .bool .str) .plain)], 9, [some 0]⟩ w)) v
theorem f577v0l3O (k : Nat) : SumO P Tryz.f77 16378 (f577v0l3S k) := lp tm (f577v0T k) ⟨[2, 3], [], []⟩ (SumsOk.nil |>.s (f577v0p2O k) (by kernel_rfl)) (by kernel_rfl) fun _ _ _ _ => by kernel_rfl
noncomputable def f577v0F (k : Nat) (x : ByteArray × Int × Unit) : Option (D123) :=
  Option.bind (f611v0F k (x.1, x.2.1, ())) fun y1 =>
  Option.bind (f611v0F k (y1.2.1, y1.2.2.1, ())) fun y2 =>
  Option.bind (f576v0F k ((20 : Int), y2.2.1, y2.2.2.1, ())) fun y3 =>
  f577v0l0 k
    (fun (w8 : D118) =>
      Option.bind (f576v0F k ((4 : Int), w8.1, w8.2.1, ())) fun y9 =>
      f577v0l1 k
        (fun (w12 : D118) =>
          Option.bind (f612v0F k (w12.1, w12.2.1, ())) fun y13 =>
          bif (y13.2.2.1 != (0 : Int)) then
            some (w12.2.2.2.2.2.1, w12.2.2.2.2.2.2.1, w12.2.2.2.2.2.2.2.2.2.2.2.1, w12.2.2.2.2.2.2.2.2.2.2.2.2.1, y13.1, w12.2.2.2.2.2.2.2.2.2.2.2.2.2.1, y13.2.1, y13.2.2.1, ())
          else
          Option.bind (f569F k (w12.2.2.2.2.2.1, ((w12.2.2.2.2.2.2.1, w12.2.2.2.2.2.2.2.2.2.2.2.1), (w12.2.2.2.2.2.2.2.2.2.2.2.2.1, y13.1)))) fun y14 =>
          bif (y14.2 != (0 : Int)) then
            Option.bind (f578v0F k (y14.2, y13.2.1, y13.2.2.1, ())) fun y15 =>
            some (w12.2.2.2.2.2.1, w12.2.2.2.2.2.2.1, w12.2.2.2.2.2.2.2.2.2.2.2.1, w12.2.2.2.2.2.2.2.2.2.2.2.2.1, y13.1, w12.2.2.2.2.2.2.2.2.2.2.2.2.2.1, y15.1, y15.2.1, ())
          else
          Option.bind (f613F k (w12.2.2.2.2.2.2.1, w12.2.2.2.2.2.2.2.2.2.2.2.1)) fun y16 =>
          Option.bind (f576v0F k ((60 : Int), y13.2.1, y13.2.2.1, ())) fun y17 =>
          f577v0l3 k
            (fun (w22 : D118) =>
              some (w22.2.2.2.2.2.1, w22.2.2.2.2.2.2.1, w22.2.2.2.2.2.2.2.2.2.2.2.1, w22.2.2.2.2.2.2.2.2.2.2.2.2.1, w22.2.2.2.2.2.2.2.1, w22.2.2.2.2.2.2.2.2.2.2.2.2.2.1, w22.1, w22.2.1, ()))
            (y16.1, y17.1, y17.2.1, y17.2.2.1, w12.2.2.1, w12.2.2.2.1, w12.2.2.2.2.1, w12.2.2.2.2.2.1, w12.2.2.2.2.2.2.1, y13.1, w12.2.2.2.2.2.2.2.2.1, w12.2.2.2.2.2.2.2.2.2.1, w12.2.2.2.2.2.2.2.2.2.2.1, w12.2.2.2.2.2.2.2.2.2.2.2.1, w12.2.2.2.2.2.2.2.2.2.2.2.2.1, w12.2.2.2.2.2.2.2.2.2.2.2.2.2.1, ()))
        (y9.1, y9.2.1, y9.2.2.1, w8.2.2.1, w8.2.2.2.1, w8.2.2.2.2.1, w8.2.2.2.2.2.1, w8.2.2.2.2.2.2.1, w8.2.2.2.2.2.2.2.1, w8.2.2.2.2.2.2.2.2.1, w8.2.2.2.2.2.2.2.2.2.1, w8.2.2.2.2.2.2.2.2.2.2.1, w8.2.2.2.2.2.2.2.2.2.2.2.1, w8.2.2.2.2.2.2.2.2.2.2.2.2.1, w8.2.2.2.2.2.2.2.2.2.2.2.2.2.1, ()))
    (y3.1, y3.2.1, y3.2.2.1, ByteArray.empty, ByteArray.empty, false, y1.1, y2.1, false, [], [], [], [], [], [], ())
theorem f577v0Ok (k : Nat) : GnV P 77 f577v0I f577v0U (f577v0F k) :=
  gs tm (f577v0T k) Tryz.func77 (by kernel_rfl) (SumsOk.nil |>.s (f577v0l3O k) (by kernel_rfl) |>.s (f577v0p2O k) (by kernel_rfl) |>.s (f577v0l1O k) (by kernel_rfl) |>.s (f577v0l0O k) (by kernel_rfl)) [.agg .bool] [] fun _ => by kernel_rfl
/-! ## midrange/save.TablesIn -/
noncomputable def f532T (k : Nat) : TB P := TB.nil |>.g (f578v0Ok k) |>.g (f577v0Ok k) |>.g (f576v0Ok k) |>.u (f515Ok k)
noncomputable def f532l0s {R : Type} (k : Nat) (rec : D125 → Option R) (k0 : D124 → Option R) (v : D125) : Option R :=
  bif (decide (v.1 > (0 : Int))) then
    bif (v.2.2.1 == (0 : Int)) then
      Option.bind (f577v0F k (v.2.1, v.2.2.1, ())) fun y2 =>
      let t3 := [((y2.1, ((y2.2.1, y2.2.2.1), (y2.2.2.2.1, y2.2.2.2.2.1))), y2.2.2.2.2.2.1)]
      bif (decide ((v.2.2.2.1.length + t3.length) * 112 ≤ 140737488355328) && decide (v.2.2.2.1.length + t3.length ≤ 9223372036854775807)) then
      rec ((IntKind.i64.wrap (v.1 - (1 : Int))), y2.2.2.2.2.2.2.1, y2.2.2.2.2.2.2.2.1, (v.2.2.2.1 ++ t3), ())
      else none
    else
    k0 (v.2.1, v.2.2.1, v.2.2.2.1, ())
  else
  k0 (v.2.1, v.2.2.1, v.2.2.2.1, ())
noncomputable def f532l0 {R : Type} (k : Nat) (k0 : D124 → Option R) (v : D125) : Option R := iterS (fun rec v => f532l0s k rec k0 v) k v
noncomputable def f532l0S (k : Nat) := loopSum ⟨[(4, .one (.ptr 0 0)), (5, .one (.own 1)), (6, .one (.int .i64))], [(0, .var 128 [.str, .int .i64]), (1, .row 52 Y6 .plain)], 2, []⟩ ⟨[4, 5, 6], [(5, 52, Y6)], []⟩ k fun R rec K v => f532l0s k rec (fun w => K (.exit 0) (encSt ⟨[(4, .one (.ptr 0 0)), (5, .one (.own 1))], [(0, .var 128 [.str, .int .i64]), (1, .row 52 Y6 .plain)], 2, []⟩ w)) v
theorem f532l0O (k : Nat) : SumO P Tryz.f32 122 (f532l0S k) := lp tm (f532T k) ⟨[2, 3, 4, 5], [], []⟩ SumsOk.nil (by kernel_rfl) fun _ _ _ _ => by kernel_rfl
noncomputable def f532p1 {R : Type} (k : Nat) (k0 : D124 → Option R) (v : D124) : Option R :=
  bif (v.2.1 == (0 : Int)) then
    bif (!strEq v.1 ByteArray.empty) then
      Option.bind (f578v0F k ((10 : Int), v.1, v.2.1, ())) fun y5 =>
      k0 (y5.1, y5.2.1, v.2.2.1, ())
    else
    k0 (v.1, v.2.1, v.2.2.1, ())
  else
  k0 (v.1, v.2.1, v.2.2.1, ())
noncomputable def f532p1S (k : Nat) := partSum ⟨[(4, .one (.ptr 0 0)), (5, .one (.own 1))], [(0, .var 128 [.str, .int .i64]), (1, .row 52 Y6 .plain)], 2, []⟩ ⟨[4, 5], [], []⟩ fun R K v => f532p1 k (fun w => K .normal (encSt ⟨[(4, .one (.ptr 0 0)), (5, .one (.own 1))], [(0, .var 128 [.str, .int .i64]), (1, .row 52 Y6 .plain)], 2, []⟩ w)) v
theorem f532p1O (k : Nat) : SumO P Tryz.f32 62 (f532p1S k) := pt tm (f532T k) ⟨[2, 3, 4, 5], [], []⟩ SumsOk.nil fun _ _ _ => by kernel_rfl
noncomputable def f532F (k : Nat) (x : ByteArray) : Option (List D34 × Int) :=
  Option.bind (f576v0F k ((8 : Int), x, (0 : Int), ())) fun y1 =>
  f532l0 k
    (fun (w4 : D124) =>
      f532p1 k
        (fun (w6 : D124) =>
          bif (w6.2.1 != (0 : Int)) then
            some ([], w6.2.1)
          else
          Option.bind (f515F k w6.2.2.1) fun y7 =>
          bif (y7.2 != (0 : Int)) then
            some ([], y7.2)
          else
          some (w6.2.2.1, (0 : Int)))
        (w4.1, w4.2.1, w4.2.2.1, ()))
    (y1.1, y1.2.1, y1.2.2.1, [], ())
theorem f532Ok (k : Nat) : FnV P 32 [.dat .str] [.own 52 Y6, .dat (.int .i64)] (f532F k) :=
  fs tm (f532T k) Tryz.func32 (by kernel_rfl) (SumsOk.nil |>.s (f532p1O k) (by kernel_rfl) |>.s (f532l0O k) (by kernel_rfl)) none fun _ => by kernel_rfl
/-! ## midrange/midrangebase.SameFormat -/
noncomputable def f629l0s {R : Type} (k : Nat) (rec : D126 → Option R) (k0 : Bool × Unit → Option R) (k1 : Unit → Option R) (v : D126) : Option R :=
  bif (decide (v.1 < (v.2.2.1.length : Int))) then
    bif ((decide ((0 : Int) ≤ v.1)) && (decide (v.1 < (v.2.2.1.length : Int)))) then
    let t1 := (v.2.2.1.getD (Int.toNat v.1) (ByteArray.empty, ((0 : Int), ((0 : Int), (0 : Int)))))
    bif ((decide ((0 : Int) ≤ v.1)) && (decide (v.1 < (v.2.2.2.2.1.length : Int)))) then
    let t2 := (v.2.2.2.2.1.getD (Int.toNat v.1) (ByteArray.empty, ((0 : Int), ((0 : Int), (0 : Int)))))
    let t3 := (!((strEq t1.1 t2.1) && (((t1.2.1 == t2.2.1) && ((t1.2.2.1 == t2.2.2.1) && ((t1.2.2.2 == t2.2.2.2) && true))) && true)))
    bif t3 then
      k0 (false, ())
    else
    rec ((IntKind.i64.wrap (v.1 + (1 : Int))), v.2.1, v.2.2.1, v.2.2.2.1, v.2.2.2.2.1, ())
    else none
    else none
  else
  k1 (())
noncomputable def f629l0 {R : Type} (k : Nat) (k0 : Bool × Unit → Option R) (k1 : Unit → Option R) (v : D126) : Option R := iterS (fun rec v => f629l0s k rec k0 k1 v) k v
noncomputable def f629l0S (k : Nat) := loopSum ⟨[(2, .one (.ptr 0 0)), (3, .one (.ptr 1 0)), (5, .one (.int .i64))], [(0, .var 46 [.str, .ro Y1]), (1, .var 46 [.str, .ro Y1])], 2, []⟩ ⟨[2, 3, 5], [], []⟩ k fun R rec K v => f629l0s k rec (fun w => K .ret (encSt ⟨[(4, .one (.bool))], [], 0, []⟩ w)) (fun w => K (.exit 0) (encSt ⟨[], [], 0, []⟩ w)) v
theorem f629l0O (k : Nat) : SumO P Tryz.f129 58 (f629l0S k) := lp tm TB.nil ⟨[4], [], []⟩ SumsOk.nil (by kernel_rfl) fun _ _ _ _ => by kernel_rfl
noncomputable def f629F (k : Nat) (x : D127) : Option (Bool) :=
  bif (!strEq x.1.1 x.2.1) then
    some false
  else
  bif ((x.1.2.length : Int) != (x.2.2.length : Int)) then
    some false
  else
  f629l0 k
    (fun (w4 : Bool × Unit) =>
      some w4.1)
    (fun (w5 : Unit) =>
      some true)
    ((0 : Int), x.1.1, x.1.2, x.2.1, x.2.2, ())
theorem f629Ok (k : Nat) : FnV P 129 [.agg Y2, .agg Y2] [.dat .bool] (f629F k) :=
  fs tm TB.nil Tryz.func129 (by kernel_rfl) (SumsOk.nil |>.s (f629l0O k) (by kernel_rfl)) none fun _ => by kernel_rfl
/-! ## midrange/midrangebase.SameFile -/
noncomputable def f591T (k : Nat) : TB P := TB.nil |>.u (f629Ok k)
noncomputable def f591l0s {R : Type} (k : Nat) (rec : D128 → Option R) (k0 : Bool × Unit → Option R) (k1 : Unit → Option R) (v : D128) : Option R :=
  bif (decide (v.1 < (v.2.2.2.2.1.length : Int))) then
    bif ((decide ((0 : Int) ≤ v.1)) && (decide (v.1 < (v.2.2.2.2.1.length : Int)))) then
    bif ((decide ((0 : Int) ≤ v.1)) && (decide (v.1 < (v.2.2.2.2.2.2.2.2.2.1.length : Int)))) then
    let t2 := (v.2.2.2.2.2.2.2.2.2.1.getD (Int.toNat v.1) (ByteArray.empty, false)).1
    let t3 := (v.2.2.2.2.2.2.2.2.2.1.getD (Int.toNat v.1) (ByteArray.empty, false)).2
    let t4 := (!((strEq (v.2.2.2.2.1.getD (Int.toNat v.1) (ByteArray.empty, false)).1 t2) && (((v.2.2.2.2.1.getD (Int.toNat v.1) (ByteArray.empty, false)).2 == t3) && true)))
    bif t4 then
      k0 (false, ())
    else
    rec ((IntKind.i64.wrap (v.1 + (1 : Int))), v.2.1, v.2.2.1, v.2.2.2.1, v.2.2.2.2.1, v.2.2.2.2.2.1, v.2.2.2.2.2.2.1, v.2.2.2.2.2.2.2.1, v.2.2.2.2.2.2.2.2.1, v.2.2.2.2.2.2.2.2.2.1, v.2.2.2.2.2.2.2.2.2.2.1, ())
    else none
    else none
  else
  k1 (())
noncomputable def f591l0 {R : Type} (k : Nat) (k0 : Bool × Unit → Option R) (k1 : Unit → Option R) (v : D128) : Option R := iterS (fun rec v => f591l0s k rec k0 k1 v) k v
noncomputable def f591l0S (k : Nat) := loopSum ⟨[(2, .one (.ptr 0 0)), (3, .one (.ptr 1 0)), (5, .one (.int .i64))], [(0, .var 49 [.str, .str, .ro Y1, .ro (.pair .str .bool), .bool]), (1, .var 49 [.str, .str, .ro Y1, .ro (.pair .str .bool), .bool])], 2, []⟩ ⟨[2, 3, 5], [], []⟩ k fun R rec K v => f591l0s k rec (fun w => K .ret (encSt ⟨[(4, .one (.bool))], [], 0, []⟩ w)) (fun w => K (.exit 0) (encSt ⟨[], [], 0, []⟩ w)) v
theorem f591l0O (k : Nat) : SumO P Tryz.f91 58 (f591l0S k) := lp tm (f591T k) ⟨[4], [], []⟩ SumsOk.nil (by kernel_rfl) fun _ _ _ _ => by kernel_rfl
noncomputable def f591F (k : Nat) (x : D129) : Option (Bool) :=
  bif (!strEq x.1.1 x.2.1) then
    some false
  else
  bif (!(x.1.2.2.2 == x.2.2.2.2)) then
    some false
  else
  Option.bind (f629F k ((x.1.2.1.1, x.1.2.1.2), (x.2.2.1.1, x.2.2.1.2))) fun y1 =>
  bif (!y1) then
    some false
  else
  bif ((x.1.2.2.1.length : Int) != (x.2.2.2.1.length : Int)) then
    some false
  else
  f591l0 k
    (fun (w5 : Bool × Unit) =>
      some w5.1)
    (fun (w6 : Unit) =>
      some true)
    ((0 : Int), x.1.1, x.1.2.1.1, x.1.2.1.2, x.1.2.2.1, x.1.2.2.2, x.2.1, x.2.2.1.1, x.2.2.1.2, x.2.2.2.1, x.2.2.2.2, ())
theorem f591Ok (k : Nat) : FnV P 91 [.agg Y4, .agg Y4] [.dat .bool] (f591F k) :=
  fs tm (f591T k) Tryz.func91 (by kernel_rfl) (SumsOk.nil |>.s (f591l0O k) (by kernel_rfl)) none fun _ => by kernel_rfl
/-! ## midrange/midrangebase.SameRecords -/
noncomputable def f575l0s {R : Type} (k : Nat) (rec : D130 → Option R) (k0 : Bool × Unit → Option R) (k1 : Unit → Option R) (v : D130) : Option R :=
  bif (decide (v.2.2.1 < (v.1.length : Int))) then
    bif ((decide ((0 : Int) ≤ v.2.2.1)) && (decide (v.2.2.1 < (v.1.length : Int)))) then
    bif ((decide ((0 : Int) ≤ v.2.2.1)) && (decide (v.2.2.1 < (v.2.1.length : Int)))) then
    let t1 := (!(((v.1.getD (Int.toNat v.2.2.1) (false, ByteArray.empty)).1 == (v.2.1.getD (Int.toNat v.2.2.1) (false, ByteArray.empty)).1) && ((strEq (v.1.getD (Int.toNat v.2.2.1) (false, ByteArray.empty)).2 (v.2.1.getD (Int.toNat v.2.2.1) (false, ByteArray.empty)).2) && true)))
    bif t1 then
      k0 (false, ())
    else
    rec (v.1, v.2.1, (IntKind.i64.wrap (v.2.2.1 + (1 : Int))), ())
    else none
    else none
  else
  k1 (())
noncomputable def f575l0 {R : Type} (k : Nat) (k0 : Bool × Unit → Option R) (k1 : Unit → Option R) (v : D130) : Option R := iterS (fun rec v => f575l0s k rec k0 k1 v) k v
noncomputable def f575l0S (k : Nat) := loopSum ⟨[(0, .one (.ro (.pair .bool .str))), (1, .one (.ro (.pair .bool .str))), (5, .one (.int .i64))], [], 0, []⟩ ⟨[0, 1, 5], [], []⟩ k fun R rec K v => f575l0s k rec (fun w => K .ret (encSt ⟨[(4, .one (.bool))], [], 0, []⟩ w)) (fun w => K (.exit 0) (encSt ⟨[], [], 0, []⟩ w)) v
theorem f575l0O (k : Nat) : SumO P Tryz.f75 58 (f575l0S k) := lp tm TB.nil ⟨[4], [], []⟩ SumsOk.nil (by kernel_rfl) fun _ _ _ _ => by kernel_rfl
noncomputable def f575F (k : Nat) (x : D131) : Option (Bool) :=
  bif ((x.1.length : Int) != (x.2.length : Int)) then
    some false
  else
  f575l0 k
    (fun (w2 : Bool × Unit) =>
      some w2.1)
    (fun (w3 : Unit) =>
      some true)
    (x.1, x.2, (0 : Int), ())
theorem f575Ok (k : Nat) : FnV P 75 [.dat (.slice (.pair .bool .str)), .dat (.slice (.pair .bool .str))] [.dat .bool] (f575F k) :=
  fs tm TB.nil Tryz.func75 (by kernel_rfl) (SumsOk.nil |>.s (f575l0O k) (by kernel_rfl)) none fun _ => by kernel_rfl
/-! ## midrange/midrangebase.SameTable -/
noncomputable def f546T (k : Nat) : TB P := TB.nil |>.u (f591Ok k) |>.u (f575Ok k)
noncomputable def f546F (k : Nat) (x : D34 × D34) : Option (Bool) :=
  Option.bind (f591F k ((x.1.1.1, ((x.1.1.2.1.1, x.1.1.2.1.2), (x.1.1.2.2.1, x.1.1.2.2.2))), (x.2.1.1, ((x.2.1.2.1.1, x.2.1.2.1.2), (x.2.1.2.2.1, x.2.1.2.2.2))))) fun y1 =>
  bif y1 then
    Option.bind (f575F k (x.1.2, x.2.2)) fun y2 =>
    some y2
  else
  some false
theorem f546Ok (k : Nat) : FnV P 46 [.agg Y6, .agg Y6] [.dat .bool] (f546F k) :=
  fs tm (f546T k) Tryz.func46 (by kernel_rfl) SumsOk.nil none fun _ => by kernel_rfl
/-! ## midrange/midrangebase.SameTables -/
noncomputable def f534T (k : Nat) : TB P := TB.nil |>.u (f546Ok k)
noncomputable def f534l0s {R : Type} (k : Nat) (rec : D132 → Option R) (k0 : Bool × Unit → Option R) (k1 : Unit → Option R) (v : D132) : Option R :=
  bif (decide (v.2.2.1 < (v.1.length : Int))) then
    bif ((decide ((0 : Int) ≤ v.2.2.1)) && (decide (v.2.2.1 < (v.1.length : Int)))) then
    let t1 := (v.1.getD (Int.toNat v.2.2.1) ((ByteArray.empty, ((ByteArray.empty, []), ([], false))), []))
    bif ((decide ((0 : Int) ≤ v.2.2.1)) && (decide (v.2.2.1 < (v.2.1.length : Int)))) then
    let t2 := (v.2.1.getD (Int.toNat v.2.2.1) ((ByteArray.empty, ((ByteArray.empty, []), ([], false))), []))
    Option.bind (f546F k (((t1.1.1, ((t1.1.2.1.1, t1.1.2.1.2), (t1.1.2.2.1, t1.1.2.2.2))), t1.2), ((t2.1.1, ((t2.1.2.1.1, t2.1.2.1.2), (t2.1.2.2.1, t2.1.2.2.2))), t2.2))) fun y3 =>
    bif (!y3) then
      k0 (false, ())
    else
    rec (v.1, v.2.1, (IntKind.i64.wrap (v.2.2.1 + (1 : Int))), ())
    else none
    else none
  else
  k1 (())
noncomputable def f534l0 {R : Type} (k : Nat) (k0 : Bool × Unit → Option R) (k1 : Unit → Option R) (v : D132) : Option R := iterS (fun rec v => f534l0s k rec k0 k1 v) k v
noncomputable def f534l0S (k : Nat) := loopSum ⟨[(0, .one (.ro Y6)), (1, .one (.ro Y6)), (5, .one (.int .i64))], [], 0, []⟩ ⟨[0, 1, 5], [], []⟩ k fun R rec K v => f534l0s k rec (fun w => K .ret (encSt ⟨[(4, .one (.bool))], [], 0, []⟩ w)) (fun w => K (.exit 0) (encSt ⟨[], [], 0, []⟩ w)) v
theorem f534l0O (k : Nat) : SumO P Tryz.f34 58 (f534l0S k) := lp tm (f534T k) ⟨[4], [], []⟩ SumsOk.nil (by kernel_rfl) fun _ _ _ _ => by kernel_rfl
noncomputable def f534F (k : Nat) (x : (List D34) × (List D34)) : Option (Bool) :=
  bif ((x.1.length : Int) != (x.2.length : Int)) then
    some false
  else
  f534l0 k
    (fun (w4 : Bool × Unit) =>
      some w4.1)
    (fun (w5 : Unit) =>
      some true)
    (x.1, x.2, (0 : Int), ())
theorem f534Ok (k : Nat) : FnV P 34 [.dat (.slice Y6), .dat (.slice Y6)] [.dat .bool] (f534F k) :=
  fs tm (f534T k) Tryz.func34 (by kernel_rfl) (SumsOk.nil |>.s (f534l0O k) (by kernel_rfl)) none fun _ => by kernel_rfl
/-! ## midrange/midrangebase.CopyStrings -/
noncomputable def f522F (k : Nat) (x : (List ByteArray)) : Option (List ByteArray) :=
  bif (decide ((([] : List ByteArray).length + x.length) * 16 ≤ 140737488355328) && decide (([] : List ByteArray).length + x.length ≤ 9223372036854775807)) then
  some ([] ++ x)
  else none
theorem f522Ok (k : Nat) : FnV P 22 [.dat (.slice .str)] [.own 9 .str] (f522F k) :=
  fs tm TB.nil Tryz.func22 (by kernel_rfl) SumsOk.nil none fun _ => by kernel_rfl
/-! ## midrange/midrangeref34.Own -/
noncomputable def f537T (k : Nat) : TB P := TB.nil |>.u (f522Ok k)
noncomputable def f537l0s {R : Type} (k : Nat) (rec : D133 → Option R) (k0 : List D56 × Unit → Option R) (v : D133) : Option R :=
  bif (decide (v.2.1 < (v.1.length : Int))) then
    bif ((decide ((0 : Int) ≤ v.2.1)) && (decide (v.2.1 < (v.1.length : Int)))) then
    bif ((decide ((0 : Int) ≤ v.2.1)) && (decide (v.2.1 < (v.1.length : Int)))) then
    Option.bind (f522F k (v.1.getD (Int.toNat v.2.1) (ByteArray.empty, [])).2) fun y1 =>
    bif (decide ((v.2.2.1.length + [((v.1.getD (Int.toNat v.2.1) (ByteArray.empty, [])).1, y1)].length) * 40 ≤ 140737488355328) && decide (v.2.2.1.length + [((v.1.getD (Int.toNat v.2.1) (ByteArray.empty, [])).1, y1)].length ≤ 9223372036854775807)) then
    let t2 := (v.2.2.1 ++ [((v.1.getD (Int.toNat v.2.1) (ByteArray.empty, [])).1, y1)])
    rec (v.1, (IntKind.i64.wrap (v.2.1 + (1 : Int))), t2, ())
    else none
    else none
    else none
  else
  k0 (v.2.2.1, ())
noncomputable def f537l0 {R : Type} (k : Nat) (k0 : List D56 × Unit → Option R) (v : D133) : Option R := iterS (fun rec v => f537l0s k rec k0 v) k v
noncomputable def f537l0S (k : Nat) := loopSum ⟨[(0, .one (.ro Y8)), (3, .one (.own 0)), (4, .one (.int .i64))], [(0, .row 81 Y8 .plain)], 1, []⟩ ⟨[0, 3, 4], [(3, 81, Y8)], []⟩ k fun R rec K v => f537l0s k rec (fun w => K (.exit 0) (encSt ⟨[(3, .one (.own 0))], [(0, .row 81 Y8 .plain)], 1, []⟩ w)) v
theorem f537l0O (k : Nat) : SumO P Tryz.f37 58 (f537l0S k) := lp tm (f537T k) ⟨[2, 3], [], []⟩ SumsOk.nil (by kernel_rfl) fun _ _ _ _ => by kernel_rfl
noncomputable def f537F (k : Nat) (x : (List D56)) : Option (List D56) :=
  f537l0 k
    (fun (w3 : List D56 × Unit) =>
      some w3.1)
    (x, (0 : Int), [], ())
theorem f537Ok (k : Nat) : FnV P 37 [.dat (.slice Y8)] [.own 81 Y8] (f537F k) :=
  fs tm (f537T k) Tryz.func37 (by kernel_rfl) (SumsOk.nil |>.s (f537l0O k) (by kernel_rfl)) none fun _ => by kernel_rfl
/-! ## midrange/save.Restored -/
noncomputable def f538T (k : Nat) : TB P := TB.nil |>.u (f581Ok k) |>.p (f532Ok k)
noncomputable def f538F (k : Nat) (x : (List D56)) : Option (List D34 × Int) :=
  Option.bind (f581F k x) fun y1 =>
  bif (y1.2.2.2 != (0 : Int)) then
    some ([], y1.2.2.2)
  else
  Option.bind (f532F k y1.1) fun y2 =>
  some (y2.1, y2.2)
theorem f538Ok (k : Nat) : FnV P 38 [.dat (.slice Y8)] [.own 52 Y6, .dat (.int .i64)] (f538F k) :=
  fs tm (f538T k) Tryz.func38 (by kernel_rfl) SumsOk.nil none fun _ => by kernel_rfl
/-! ## midrange/midrangelaw34.SaveBack -/
noncomputable def f509T (k : Nat) : TB P := TB.nil |>.p (f538Ok k) |>.p (f537Ok k) |>.u (f536Ok k) |>.u (f534Ok k) |>.p (f532Ok k) |>.u (f522Ok k) |>.p (f521Ok k) |>.u (f520Ok k) |>.u (f517Ok k) |>.p (f516Ok k) |>.u (f514Ok k) |>.u (f513Ok k)
noncomputable def f509F (k : Nat) (x : D55) : Option (Bool) :=
  Option.bind (f513F k ()) fun y1 =>
  bif (!y1) then
    some false
  else
  Option.bind (f514F k x.1) fun y2 =>
  bif (!y2) then
    some true
  else
  Option.bind (f520F k x.2.1) fun y3 =>
  bif (!y3) then
    some true
  else
  Option.bind (f516F k x.1) fun y4 =>
  Option.bind (f517F k y4) fun y5 =>
  bif (y5.2 != (0 : Int)) then
    some true
  else
  Option.bind (f532F k y5.1) fun y6 =>
  bif (y6.2 != (0 : Int)) then
    some false
  else
  Option.bind (f534F k (y6.1, x.1)) fun y7 =>
  bif (!y7) then
    some false
  else
  Option.bind (f516F k x.1) fun y8 =>
  Option.bind (f522F k x.2.1) fun y9 =>
  Option.bind (f521F k (y8, y9, x.2.2)) fun y10 =>
  bif (y10.2 != (0 : Int)) then
    some true
  else
  Option.bind (f537F k y10.1) fun y11 =>
  Option.bind (f536F k y11) fun y12 =>
  Option.bind (f537F k y10.1) fun y13 =>
  Option.bind (f538F k y13) fun y14 =>
  bif (y12.2.2 == (0 : Int)) then
    bif (y14.2 == (0 : Int)) then
      bif (y12.1 == (y5.1.size : Int)) then
        Option.bind (f534F k (y14.1, x.1)) fun y15 =>
        some y15
      else
      some false
    else
    some false
  else
  some false
theorem f509Ok (k : Nat) : FnV P 9 [.dat (.slice Y6), .dat (.slice .str), .dat (.int .i64)] [.dat .bool] (f509F k) :=
  fs tm (f509T k) Tryz.func9 (by kernel_rfl) SumsOk.nil none fun _ => by kernel_rfl
end Go.Proofs.YtobgkcamonlnkaaGreatDoor
