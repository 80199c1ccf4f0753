/- What functions of the program compute: each as a plain Lean function, and that the code comes to it. Printed by gen.py. -/
import Derived.Test.YtobgkcamonlnkaaGreatDoorFbJ
import Derived.Test.YtobgkcamonlnkaaGreatDoorProg
import Derived.Test.YtobgkcamonlnkaaGreatDoorSJ
/-! Printed by gen.py: what functions compute. -/
set_option linter.unusedVariables false
set_option maxRecDepth 100000
namespace Go.Proofs.YtobgkcamonlnkaaGreatDoor
open Go.Ab
noncomputable def f522F (k : Nat) (x : (List ByteArray)) : Option (List ByteArray) :=
 bif (decide ((([] : List ByteArray).length + x.length) * 16 ≤ 140737488355328) && decide (([] : List ByteArray).length + x.length ≤ 9223372036854775807)) then
 some ([] ++ x)
 else none
theorem f522Ok (k : Nat) : FnV P 22 [.dat (.slice .str)] [.own 9 .str] (f522F k) :=
 fs tm TB.nil Tryz.func22 (by kernel_rfl) SumsOk.nil none fun _ => by kernel_rfl
noncomputable def f537T (k : Nat) : TB P := TB.nil |>.u (f522Ok k)
noncomputable def f537l0s {R : Type} (k : Nat) (rec : D93 → Option R) (k0 : List D56 × Unit → Option R) (v : D93) : Option R :=
 bif (decide (v.2.1 < (v.1.length : Int))) then
 bif ((decide (0 ≤ v.2.1)) && (decide (v.2.1 < (v.1.length : Int)))) then
 bif ((decide (0 ≤ v.2.1)) && (decide (v.2.1 < (v.1.length : Int)))) then
 Option.bind (f522F k (v.1.getD (Int.toNat v.2.1) (ByteArray.empty, [])).2) fun y1 =>
 bif (decide ((v.2.2.1.length + [((v.1.getD (Int.toNat v.2.1) (ByteArray.empty, [])).1, y1)].length) * 40 ≤ 140737488355328) && decide (v.2.2.1.length + [((v.1.getD (Int.toNat v.2.1) (ByteArray.empty, [])).1, y1)].length ≤ 9223372036854775807)) then
 let t2 := (v.2.2.1 ++ [((v.1.getD (Int.toNat v.2.1) (ByteArray.empty, [])).1, y1)])
 rec (v.1, (IntKind.i64.wrap (v.2.1 + 1)), t2, ())
 else none
 else none
 else none
 else
 k0 (v.2.2.1, ())
noncomputable def f537l0 {R : Type} (k : Nat) (k0 : List D56 × Unit → Option R) (v : D93) : Option R := iterS (fun rec v => f537l0s k rec k0 v) k v
noncomputable def f537l0S (k : Nat) := loopSum ⟨[(0, .one (.ro Y8)), (3, .one (.own 0)), (4, oI)], [(0, .row 81 Y8 .plain)], 1, []⟩ ⟨[0, 3, 4], [(3, 81, Y8)], []⟩ k fun R rec K v => f537l0s k rec (fun w => K (.exit 0) (encSt ⟨[(3, .one (.own 0))], [(0, .row 81 Y8 .plain)], 1, []⟩ w)) v
theorem f537l0O (k : Nat) : SumO P Tryz.f37 58 (f537l0S k) := lp tm (f537T k) ⟨[2, 3], [], []⟩ SumsOk.nil (by kernel_rfl) fun _ _ _ _ => by kernel_rfl
noncomputable def f537F (k : Nat) (x : (List D56)) : Option (List D56) :=
 f537l0 k
 (fun (w3 : List D56 × Unit) =>
 some w3.1)
 (x, 0, [], ())
theorem f537Ok (k : Nat) : FnV P 37 [.dat (.slice Y8)] [.own 81 Y8] (f537F k) :=
 fs tm (f537T k) Tryz.func37 (by kernel_rfl) (SumsOk.nil |>.s (f537l0O k) (by kernel_rfl)) none fun _ => by kernel_rfl
noncomputable def f585l0s {R : Type} (k : Nat) (rec : D94 → Option R) (k0 : Int × Int × Unit → Option R) (k1 : Unit → Option R) (v : D94) : Option R :=
 bif (decide (v.2.2.1 < (v.1.length : Int))) then
 bif ((decide (0 ≤ v.2.2.1)) && (decide (v.2.2.1 < (v.1.length : Int)))) then
 let t1 := (decide (v.2.1 < ((v.1.getD (Int.toNat v.2.2.1) (ByteArray.empty, [])).2.length : Int)))
 bif t1 then
 k0 (v.2.2.1, v.2.1, ())
 else
 bif ((decide (0 ≤ v.2.2.1)) && (decide (v.2.2.1 < (v.1.length : Int)))) then
 let t2 := (IntKind.i64.wrap (v.2.1 - ((v.1.getD (Int.toNat v.2.2.1) (ByteArray.empty, [])).2.length : Int)))
 rec (v.1, t2, (IntKind.i64.wrap (v.2.2.1 + 1)), ())
 else none
 else none
 else
 k1 (())
noncomputable def f585l0 {R : Type} (k : Nat) (k0 : Int × Int × Unit → Option R) (k1 : Unit → Option R) (v : D94) : Option R := iterS (fun rec v => f585l0s k rec k0 k1 v) k v
noncomputable def f585l0S (k : Nat) := loopSum ⟨[(0, .one (.ro Y8)), (1, oI), (6, oI)], [], 0, []⟩ ⟨[0, 1, 6], [], []⟩ k fun R rec K v => f585l0s k rec (fun w => K .ret (encSt ⟨[(4, oI), (5, oI)], [], 0, []⟩ w)) (fun w => K (.exit 0) (encSt ⟨[], [], 0, []⟩ w)) v
theorem f585l0O (k : Nat) : SumO P Tryz.f85 26 (f585l0S k) := lp tm TB.nil ⟨[4, 5], [], []⟩ SumsOk.nil (by kernel_rfl) fun _ _ _ _ => by kernel_rfl
noncomputable def f585F (k : Nat) (x : (List D56) × Int) : Option (Int × Int) :=
 f585l0 k
 (fun (w3 : Int × Int × Unit) =>
 some (w3.1, w3.2.1))
 (fun (w4 : Unit) =>
 some (0, 0))
 (x.1, x.2, 0, ())
theorem f585Ok (k : Nat) : FnV P 85 [.dat (.slice Y8), .dat (.int .i64)] [.dat (.int .i64), .dat (.int .i64)] (f585F k) :=
 fs tm TB.nil Tryz.func85 (by kernel_rfl) (SumsOk.nil |>.s (f585l0O k) (by kernel_rfl)) none fun _ => by kernel_rfl
noncomputable def f586F (k : Nat) (x : D95) : Option (ByteArray) :=
 bif (sliceBds 0 x.2.1 (x.1.size : Int)) then
 bif (decide ((x.1.extract 0 (Int.toNat x.2.1)).size + x.2.2.size ≤ 9223372036854775807)) then
 bif (sliceBds (IntKind.i64.wrap (x.2.1 + (x.2.2.size : Int))) (x.1.size : Int) (x.1.size : Int)) then
 let t1 := (x.1.extract (Int.toNat (IntKind.i64.wrap (x.2.1 + (x.2.2.size : Int)))) (Int.toNat (x.1.size : Int)))
 bif (decide (((x.1.extract 0 (Int.toNat x.2.1)) ++ x.2.2).size + t1.size ≤ 9223372036854775807)) then
 some (((x.1.extract 0 (Int.toNat x.2.1)) ++ x.2.2) ++ t1)
 else none
 else none
 else none
 else none
theorem f586Ok (k : Nat) : FnV P 86 [.dat .str, .dat (.int .i64), .dat .str] [.dat .str] (f586F k) :=
 fs tm TB.nil Tryz.func86 (by kernel_rfl) SumsOk.nil none fun _ => by kernel_rfl
noncomputable def f537v0I : Shape := ⟨[(0, .one (.ro Y8))], [(0, .heap 9 .str)], 1, []⟩
noncomputable def f537v0U : Shape := ⟨[(0, .one (.own 1))], [(0, .heap 9 .str), (1, .row 81 Y7 .plain)], 2, []⟩
noncomputable def f537v0T (k : Nat) : TB P := TB.nil |>.u (f522Ok k)
noncomputable def f537v0l0s {R : Type} (k : Nat) (rec : D97 → Option R) (k0 : D96 → Option R) (v : D97) : Option R :=
 bif (decide (v.2.1 < (v.1.length : Int))) then
 bif ((decide (0 ≤ v.2.1)) && (decide (v.2.1 < (v.1.length : Int)))) then
 bif ((decide (0 ≤ v.2.1)) && (decide (v.2.1 < (v.1.length : Int)))) then
 Option.bind (f522F k (v.1.getD (Int.toNat v.2.1) (ByteArray.empty, [])).2) fun y1 =>
 let t2 := [((v.1.getD (Int.toNat v.2.1) (ByteArray.empty, [])).1, (v.2.2.1.length + 1))]
 bif (decide ((v.2.2.2.1.length + t2.length) * 40 ≤ 140737488355328) && decide (v.2.2.2.1.length + t2.length ≤ 9223372036854775807)) then
 rec (v.1, (IntKind.i64.wrap (v.2.1 + 1)), (v.2.2.1 ++ [kidOf y1]), (v.2.2.2.1 ++ t2), ())
 else none
 else none
 else none
 else
 k0 (v.2.2.1, v.2.2.2.1, ())
noncomputable def f537v0l0 {R : Type} (k : Nat) (k0 : D96 → Option R) (v : D97) : Option R := iterS (fun rec v => f537v0l0s k rec k0 v) k v
noncomputable def f537v0l0S (k : Nat) := loopSum ⟨[(0, .one (.ro Y8)), (3, .one (.own 1)), (4, oI)], [(0, .heap 9 .str), (1, .row 81 Y7 .plain)], 2, [some 0]⟩ ⟨[0, 3, 4], [(3, 81, Y7)], []⟩ k fun R rec K v => f537v0l0s k rec (fun w => K (.exit 0) (encSt ⟨[(3, .one (.own 1))], [(0, .heap 9 .str), (1, .row 81 Y7 .plain)], 2, [some 0]⟩ w)) v
theorem f537v0l0O (k : Nat) : SumO P Tryz.f37 58 (f537v0l0S k) := lp htm0 (f537v0T k) ⟨[2, 3], [], []⟩ SumsOk.nil (by kernel_rfl) fun _ _ _ _ => by kernel_rfl
noncomputable def f537v0F (k : Nat) (x : D98) : Option (D96) :=
 f537v0l0 k
 (fun (w3 : D96) =>
 some (w3.1, w3.2.1, ()))
 (x.1, 0, x.2.1, [], ())
theorem f537v0Ok (k : Nat) : GnV P 37 f537v0I f537v0U (f537v0F k) :=
 gs htm0 (f537v0T k) Tryz.func37 (by kernel_rfl) (SumsOk.nil |>.s (f537v0l0O k) (by kernel_rfl)) [.own 81 Y7] [] none fun _ => by kernel_rfl
noncomputable def f541T (k : Nat) : TB P := TB.nil |>.u (f586Ok k) |>.u (f585Ok k) |>.u (f48Ok k) |>.g (f537v0Ok k) |>.u (f522Ok k)
noncomputable def f541l0s {R : Type} (k : Nat) (rec : D100 → Option R) (k0 : D99 → Option R) (v : D100) : Option R :=
 bif (decide (v.2.2.1 < (v.1.length : Int))) then
 bif ((decide (0 ≤ v.2.2.1)) && (decide (v.2.2.1 < (v.1.length : Int)))) then
 let t2 := (IntKind.i64.wrap (v.2.1 + ((v.1.getD (Int.toNat v.2.2.1) (ByteArray.empty, [])).2.length : Int)))
 rec (v.1, t2, (IntKind.i64.wrap (v.2.2.1 + 1)), v.2.2.2.1, v.2.2.2.2.1, v.2.2.2.2.2.1, v.2.2.2.2.2.2.1, v.2.2.2.2.2.2.2.1, v.2.2.2.2.2.2.2.2.1, v.2.2.2.2.2.2.2.2.2.1, ())
 else none
 else
 k0 (v.1, v.2.1, v.2.2.2.1, v.2.2.2.2.1, v.2.2.2.2.2.1, v.2.2.2.2.2.2.1, v.2.2.2.2.2.2.2.1, v.2.2.2.2.2.2.2.2.1, v.2.2.2.2.2.2.2.2.2.1, ())
noncomputable def f541l0 {R : Type} (k : Nat) (k0 : D99 → Option R) (v : D100) : Option R := iterS (fun rec v => f541l0s k rec k0 v) k v
noncomputable def f541l0S (k : Nat) := loopSum ⟨[(0, .one (.ro Y8)), (3, .one (.ptr 0 0)), (6, .one (.own 1)), (7, oI), (8, oI)], [(0, .var 79 [.int .i64, .int .i64, .int .i64, .int .i64, .int .u8]), (1, .row 81 Y7 .plain), (2, .heap 9 .str)], 3, []⟩ ⟨[0, 3, 6, 7, 8], [], []⟩ k fun R rec K v => f541l0s k rec (fun w => K (.exit 0) (encSt ⟨[(0, .one (.ro Y8)), (3, .one (.ptr 0 0)), (6, .one (.own 1)), (7, oI)], [(0, .var 79 [.int .i64, .int .i64, .int .i64, .int .i64, .int .u8]), (1, .row 81 Y7 .plain), (2, .heap 9 .str)], 3, []⟩ w)) v
theorem f541l0O (k : Nat) : SumO P Tryz.f41 122 (f541l0S k) := lp htm0 (f541T k) ⟨[0, 3, 4, 5, 6, 7], [], []⟩ SumsOk.nil (by kernel_rfl) fun _ _ _ _ => by kernel_rfl
noncomputable def f541F (k : Nat) (x : D102) : Option ((List D56) × Bool) :=
 Option.bind (f537v0F k (x.1, [], ())) fun y1 =>
 f541l0 k
 (fun (w3 : D99) =>
 Option.bind (f48F k (w3.2.2.2.1, 0, (IntKind.i64.wrap (w3.2.1 - 1)))) fun y4 =>
 bif (!y4) then
 some ([], false)
 else
 Option.bind (f48F k (w3.2.2.2.2.1, 0, (IntKind.i64.wrap (w3.2.1 - 1)))) fun y5 =>
 bif (!y5) then
 some ([], false)
 else
 Option.bind (f48F k (w3.2.2.2.2.2.1, 0, 63)) fun y6 =>
 bif (!y6) then
 some ([], false)
 else
 Option.bind (f585F k (w3.1, w3.2.2.2.1)) fun y7 =>
 Option.bind (f585F k (w3.1, w3.2.2.2.2.1)) fun y8 =>
 bif ((decide (0 ≤ y7.1)) && (decide (y7.1 < (w3.2.2.2.2.2.2.2.1.length : Int)))) then
 let t9 := (w3.2.2.2.2.2.2.2.1.getD (Int.toNat y7.1) (ByteArray.empty, (0 : Nat))).2
 bif (w3.2.2.1 == 0) then
 bif ((kalive w3.2.2.2.2.2.2.2.2.1 t9) && ((decide (0 ≤ y7.2)) && (decide (y7.2 < ((kget w3.2.2.2.2.2.2.2.2.1 t9).length : Int))))) then
 bif (kalive w3.2.2.2.2.2.2.2.2.1 t9) then
 Option.bind (f586F k (((kget w3.2.2.2.2.2.2.2.2.1 t9).getD (Int.toNat y7.2) ByteArray.empty), w3.2.2.2.2.2.1, (strOfNums [w3.2.2.2.2.2.2.1]))) fun y10 =>
 bif ((kalive w3.2.2.2.2.2.2.2.2.1 t9) && ((decide (0 ≤ y7.2)) && (decide (y7.2 < ((kget w3.2.2.2.2.2.2.2.2.1 t9).length : Int))))) then
 bif (kown w3.2.2.2.2.2.2.2.2.1 t9) then
 bif ((kalive (kset w3.2.2.2.2.2.2.2.2.1 t9 (Int.toNat y7.2) y10) t9) && ((decide (0 ≤ y7.2)) && (decide (y7.2 < ((kget (kset w3.2.2.2.2.2.2.2.2.1 t9 (Int.toNat y7.2) y10) t9).length : Int))))) then
 bif (kalive (kset w3.2.2.2.2.2.2.2.2.1 t9 (Int.toNat y7.2) y10) t9) then
 let t11 := ((kget (kset w3.2.2.2.2.2.2.2.2.1 t9 (Int.toNat y7.2) y10) t9).getD (Int.toNat y7.2) ByteArray.empty)
 bif ((decide (0 ≤ y7.1)) && (decide (y7.1 < (w3.1.length : Int)))) then
 bif ((decide (0 ≤ y7.2)) && (decide (y7.2 < ((w3.1.getD (Int.toNat y7.1) (ByteArray.empty, [])).2.length : Int)))) then
 let t12 := ((w3.1.getD (Int.toNat y7.1) (ByteArray.empty, [])).2.getD (Int.toNat y7.2) ByteArray.empty)
 bif ((w3.2.2.2.2.2.2.2.1.all fun q => (true && (kro (List.map Kid.frz (kset w3.2.2.2.2.2.2.2.2.1 t9 (Int.toNat y7.2) y10)) q.2))) && true) then
 some ((w3.2.2.2.2.2.2.2.1.map fun q => (q.1, (kget (List.map Kid.frz (kset w3.2.2.2.2.2.2.2.2.1 t9 (Int.toNat y7.2) y10)) q.2))), (!strEq t11 t12))
 else none
 else none
 else none
 else none
 else none
 else none
 else none
 else none
 else none
 else
 bif (w3.2.2.1 == 1) then
 bif ((kalive w3.2.2.2.2.2.2.2.2.1 t9) && (sliceBds 0 y7.2 (kcap w3.2.2.2.2.2.2.2.2.1 t9 : Int))) then
 Option.bind (bif (((kalive w3.2.2.2.2.2.2.2.2.1 t9 && (decide (y7.2 ≤ ((kget w3.2.2.2.2.2.2.2.2.1 t9).length : Int)))) && true) && true) then f522F k (((kget w3.2.2.2.2.2.2.2.2.1 t9).take (Int.toNat y7.2)).drop 0) else none) fun y13 =>
 bif ((kalive w3.2.2.2.2.2.2.2.2.1 t9) && (sliceBds (IntKind.i64.wrap (y7.2 + 1)) ((kget w3.2.2.2.2.2.2.2.2.1 t9).length : Int) (kcap w3.2.2.2.2.2.2.2.2.1 t9 : Int))) then
 bif (((kalive w3.2.2.2.2.2.2.2.2.1 t9) && (decide (((kget w3.2.2.2.2.2.2.2.2.1 t9).length : Int) ≤ ((kget w3.2.2.2.2.2.2.2.2.1 t9).length : Int)))) && (decide ((y13.length + (((kget w3.2.2.2.2.2.2.2.2.1 t9).take (Int.toNat ((kget w3.2.2.2.2.2.2.2.2.1 t9).length : Int))).drop (Int.toNat (IntKind.i64.wrap (y7.2 + 1)))).length) * 16 ≤ 140737488355328) && decide (y13.length + (((kget w3.2.2.2.2.2.2.2.2.1 t9).take (Int.toNat ((kget w3.2.2.2.2.2.2.2.2.1 t9).length : Int))).drop (Int.toNat (IntKind.i64.wrap (y7.2 + 1)))).length ≤ 9223372036854775807))) then
 let t14 := (y13 ++ (((kget w3.2.2.2.2.2.2.2.2.1 t9).take (Int.toNat ((kget w3.2.2.2.2.2.2.2.2.1 t9).length : Int))).drop (Int.toNat (IntKind.i64.wrap (y7.2 + 1)))))
 bif ((decide (0 ≤ y7.1)) && (decide (y7.1 < (w3.2.2.2.2.2.2.2.1.length : Int)))) then
 let t15 := (w3.2.2.2.2.2.2.2.1.set (Int.toNat y7.1) ((w3.2.2.2.2.2.2.2.1.getD (Int.toNat y7.1) (ByteArray.empty, (0 : Nat))).1, (w3.2.2.2.2.2.2.2.2.1.length + 1)))
 bif ((t15.all fun q => (true && (kro (List.map Kid.frz (w3.2.2.2.2.2.2.2.2.1 ++ [kidOf t14])) q.2))) && true) then
 some ((t15.map fun q => (q.1, (kget (List.map Kid.frz (w3.2.2.2.2.2.2.2.2.1 ++ [kidOf t14])) q.2))), true)
 else none
 else none
 else none
 else none
 else none
 else
 bif (w3.2.2.1 == 2) then
 bif ((kalive w3.2.2.2.2.2.2.2.2.1 t9) && (sliceBds 0 (IntKind.i64.wrap (y7.2 + 1)) (kcap w3.2.2.2.2.2.2.2.2.1 t9 : Int))) then
 Option.bind (bif (((kalive w3.2.2.2.2.2.2.2.2.1 t9 && (decide ((IntKind.i64.wrap (y7.2 + 1)) ≤ ((kget w3.2.2.2.2.2.2.2.2.1 t9).length : Int)))) && true) && true) then f522F k (((kget w3.2.2.2.2.2.2.2.2.1 t9).take (Int.toNat (IntKind.i64.wrap (y7.2 + 1)))).drop 0) else none) fun y16 =>
 bif ((kalive w3.2.2.2.2.2.2.2.2.1 t9) && (sliceBds y7.2 ((kget w3.2.2.2.2.2.2.2.2.1 t9).length : Int) (kcap w3.2.2.2.2.2.2.2.2.1 t9 : Int))) then
 bif (((kalive w3.2.2.2.2.2.2.2.2.1 t9) && (decide (((kget w3.2.2.2.2.2.2.2.2.1 t9).length : Int) ≤ ((kget w3.2.2.2.2.2.2.2.2.1 t9).length : Int)))) && (decide ((y16.length + (((kget w3.2.2.2.2.2.2.2.2.1 t9).take (Int.toNat ((kget w3.2.2.2.2.2.2.2.2.1 t9).length : Int))).drop (Int.toNat y7.2)).length) * 16 ≤ 140737488355328) && decide (y16.length + (((kget w3.2.2.2.2.2.2.2.2.1 t9).take (Int.toNat ((kget w3.2.2.2.2.2.2.2.2.1 t9).length : Int))).drop (Int.toNat y7.2)).length ≤ 9223372036854775807))) then
 let t17 := (y16 ++ (((kget w3.2.2.2.2.2.2.2.2.1 t9).take (Int.toNat ((kget w3.2.2.2.2.2.2.2.2.1 t9).length : Int))).drop (Int.toNat y7.2)))
 bif ((decide (0 ≤ y7.1)) && (decide (y7.1 < (w3.2.2.2.2.2.2.2.1.length : Int)))) then
 let t18 := (w3.2.2.2.2.2.2.2.1.set (Int.toNat y7.1) ((w3.2.2.2.2.2.2.2.1.getD (Int.toNat y7.1) (ByteArray.empty, (0 : Nat))).1, (w3.2.2.2.2.2.2.2.2.1.length + 1)))
 bif ((t18.all fun q => (true && (kro (List.map Kid.frz (w3.2.2.2.2.2.2.2.2.1 ++ [kidOf t17])) q.2))) && true) then
 some ((t18.map fun q => (q.1, (kget (List.map Kid.frz (w3.2.2.2.2.2.2.2.2.1 ++ [kidOf t17])) q.2))), true)
 else none
 else none
 else none
 else none
 else none
 else
 bif (w3.2.2.1 == 3) then
 bif ((decide (0 ≤ y7.1)) && (decide (y7.1 < (w3.2.2.2.2.2.2.2.1.length : Int)))) then
 let t19 := (w3.2.2.2.2.2.2.2.1.getD (Int.toNat y7.1) (ByteArray.empty, (0 : Nat))).2
 bif ((decide (0 ≤ y8.1)) && (decide (y8.1 < (w3.2.2.2.2.2.2.2.1.length : Int)))) then
 let t20 := (w3.2.2.2.2.2.2.2.1.getD (Int.toNat y8.1) (ByteArray.empty, (0 : Nat))).2
 bif ((decide (0 ≤ y8.1)) && (decide (y8.1 < (w3.2.2.2.2.2.2.2.1.length : Int)))) then
 let t21 := (w3.2.2.2.2.2.2.2.1.getD (Int.toNat y8.1) (ByteArray.empty, (0 : Nat))).2
 bif ((kalive w3.2.2.2.2.2.2.2.2.1 t21) && ((decide (0 ≤ y8.2)) && (decide (y8.2 < ((kget w3.2.2.2.2.2.2.2.2.1 t21).length : Int))))) then
 bif (kalive w3.2.2.2.2.2.2.2.2.1 t21) then
 let t22 := ((kget w3.2.2.2.2.2.2.2.2.1 t21).getD (Int.toNat y8.2) ByteArray.empty)
 bif ((decide (0 ≤ y7.1)) && (decide (y7.1 < (w3.2.2.2.2.2.2.2.1.length : Int)))) then
 let t23 := (w3.2.2.2.2.2.2.2.1.getD (Int.toNat y7.1) (ByteArray.empty, (0 : Nat))).2
 bif ((kalive w3.2.2.2.2.2.2.2.2.1 t23) && ((decide (0 ≤ y7.2)) && (decide (y7.2 < ((kget w3.2.2.2.2.2.2.2.2.1 t23).length : Int))))) then
 bif (kalive w3.2.2.2.2.2.2.2.2.1 t23) then
 let t24 := ((kget w3.2.2.2.2.2.2.2.2.1 t23).getD (Int.toNat y7.2) ByteArray.empty)
 bif ((kalive w3.2.2.2.2.2.2.2.2.1 t19) && ((decide (0 ≤ y7.2)) && (decide (y7.2 < ((kget w3.2.2.2.2.2.2.2.2.1 t19).length : Int))))) then
 bif (kown w3.2.2.2.2.2.2.2.2.1 t19) then
 bif ((kalive (kset w3.2.2.2.2.2.2.2.2.1 t19 (Int.toNat y7.2) t22) t20) && ((decide (0 ≤ y8.2)) && (decide (y8.2 < ((kget (kset w3.2.2.2.2.2.2.2.2.1 t19 (Int.toNat y7.2) t22) t20).length : Int))))) then
 bif (kown (kset w3.2.2.2.2.2.2.2.2.1 t19 (Int.toNat y7.2) t22) t20) then
 let t25 := (kset (kset w3.2.2.2.2.2.2.2.2.1 t19 (Int.toNat y7.2) t22) t20 (Int.toNat y8.2) t24)
 bif ((w3.2.2.2.2.2.2.2.1.all fun q => (true && (kro (List.map Kid.frz t25) q.2))) && true) then
 some ((w3.2.2.2.2.2.2.2.1.map fun q => (q.1, (kget (List.map Kid.frz t25) q.2))), (w3.2.2.2.1 != w3.2.2.2.2.1))
 else none
 else none
 else none
 else none
 else none
 else none
 else none
 else none
 else none
 else none
 else none
 else none
 else none
 else
 some ([], false)
 else none)
 (x.1, 0, 0, x.2.1, x.2.2.1, x.2.2.2.1, x.2.2.2.2.1, x.2.2.2.2.2, y1.2.1, y1.1, ())
theorem f541Ok (k : Nat) : FnV P 41 [.dat (.slice Y8), .agg (.pair (.int .i64) Y12)] [.dat (.slice Y8), .dat .bool] (f541F k) :=
 fs htm0 (f541T k) Tryz.func41 (by kernel_rfl) (SumsOk.nil |>.s (f541l0O k) (by kernel_rfl)) (some (9, .str)) fun _ => by kernel_rfl
noncomputable def f620F (k : Nat) (x : D56) : Option (Bool) :=
 none
theorem f620Ok (k : Nat) : FnV P 120 [.agg Y8] [.dat .bool] (f620F k) :=
 fs tm TB.nil Tryz.func120 (by kernel_rfl) SumsOk.nil none fun _ => by kernel_rfl
theorem f667V (k : Nat) : FnV P 167 [.dat .str, .dat .str] [.dat .str] (f667F k) := ⟨f667B, f667Ok k⟩
noncomputable def f648T (k : Nat) : TB P := TB.nil |>.u (f667V k)
noncomputable def f648F (k : Nat) (x : ByteArray) : Option (Bool) :=
 Option.bind (f667F k (x, (⟨#[0]⟩ : ByteArray))) fun y1 =>
 some (strEq y1 ByteArray.empty)
theorem f648Ok (k : Nat) : FnV P 148 [.dat .str] [.dat .bool] (f648F k) :=
 fs tm (f648T k) Tryz.func148 (by kernel_rfl) SumsOk.nil none fun _ => by kernel_rfl
noncomputable def f621T (k : Nat) : TB P := TB.nil |>.u (f648Ok k) |>.u (f562Ok k) |>.u (f561Ok k)
noncomputable def f621p0 {R : Type} (k : Nat) (k0 : D103 → Option R) (k1 : D104 → Option R) (v : D105) : Option R :=
 bif (decide (v.2.2.2.2.2.2.1 < 1)) then
 k0 (v.1, v.2.1, v.2.2.1, v.2.2.2.1, v.2.2.2.2.1, 0, 5, v.2.2.2.2.2.2.1, v.2.2.2.2.2.2.2.1, ())
 else
 bif (decide (v.2.2.2.2.2.2.1 > 52)) then
 k0 (v.1, v.2.1, v.2.2.1, v.2.2.2.1, v.2.2.2.2.1, 0, 5, v.2.2.2.2.2.2.1, v.2.2.2.2.2.2.2.1, ())
 else
 bif (decide (v.2.2.2.2.2.2.1 < 52)) then
 bif (!v.2.2.2.2.1) then
 k0 (v.1, v.2.1, v.2.2.1, v.2.2.2.1, v.2.2.2.2.1, 0, 5, v.2.2.2.2.2.2.1, v.2.2.2.2.2.2.2.1, ())
 else
 bif (sliceBds (IntKind.i64.wrap (4 + v.2.2.2.2.2.2.1)) 56 (v.1.size : Int)) then
 let t4 := (v.1.extract (Int.toNat (IntKind.i64.wrap (4 + v.2.2.2.2.2.2.1))) 56)
 Option.bind (f648F k t4) fun y5 =>
 bif (!y5) then
 k0 (v.1, v.2.1, v.2.2.1, v.2.2.2.1, v.2.2.2.2.1, 0, 5, v.2.2.2.2.2.2.1, v.2.2.2.2.2.2.2.1, ())
 else
 bif (sliceBds 57 (v.2.2.2.2.2.1.size : Int) (v.1.size : Int)) then
 Option.bind (f648F k (v.1.extract 57 (Int.toNat (v.2.2.2.2.2.1.size : Int)))) fun y6 =>
 bif (!y6) then
 k0 (v.1, v.2.1, v.2.2.1, v.2.2.2.1, v.2.2.2.2.1, 0, 5, v.2.2.2.2.2.2.1, v.2.2.2.2.2.2.2.1, ())
 else
 k1 (v.1, v.2.1, v.2.2.1, v.2.2.2.1, v.2.2.2.2.1, v.2.2.2.2.2.2.1, v.2.2.2.2.2.2.2.1, ())
 else none
 else none
 else
 bif (sliceBds (IntKind.i64.wrap (4 + v.2.2.2.2.2.2.1)) 56 (v.1.size : Int)) then
 let t7 := (v.1.extract (Int.toNat (IntKind.i64.wrap (4 + v.2.2.2.2.2.2.1))) 56)
 Option.bind (f648F k t7) fun y8 =>
 bif (!y8) then
 k0 (v.1, v.2.1, v.2.2.1, v.2.2.2.1, v.2.2.2.2.1, 0, 5, v.2.2.2.2.2.2.1, v.2.2.2.2.2.2.2.1, ())
 else
 bif (sliceBds 57 (v.2.2.2.2.2.1.size : Int) (v.1.size : Int)) then
 Option.bind (f648F k (v.1.extract 57 (Int.toNat (v.2.2.2.2.2.1.size : Int)))) fun y9 =>
 bif (!y9) then
 k0 (v.1, v.2.1, v.2.2.1, v.2.2.2.1, v.2.2.2.2.1, 0, 5, v.2.2.2.2.2.2.1, v.2.2.2.2.2.2.2.1, ())
 else
 k1 (v.1, v.2.1, v.2.2.1, v.2.2.2.1, v.2.2.2.2.1, v.2.2.2.2.2.2.1, v.2.2.2.2.2.2.2.1, ())
 else none
 else none
noncomputable def f621p0S (k : Nat) := partSum ⟨[(0, oS), (1, oI), (2, oI), (3, oI), (4, oB), (12, oS), (13, oI), (14, oB)], [], 0, []⟩ ⟨[0, 1, 2, 3, 4, 12, 13, 14], [], []⟩ fun R K v => f621p0 k (fun w => K .ret (encSt ⟨[(0, oS), (1, oI), (2, oI), (3, oI), (4, oB), (10, oI), (11, oI), (13, oI), (14, oB)], [], 0, []⟩ w)) (fun w => K .normal (encSt ⟨[(0, oS), (1, oI), (2, oI), (3, oI), (4, oB), (13, oI), (14, oB)], [], 0, []⟩ w)) v
theorem f621p0O (k : Nat) : SumO P Tryz.f121 126 (f621p0S k) := pt tm (f621T k) ⟨[0, 1, 2, 3, 4, 10, 11, 13, 14], [], []⟩ SumsOk.nil fun _ _ _ => by kernel_rfl
noncomputable def f621p1 {R : Type} (k : Nat) (k0 : Int × Int × Int × Unit → Option R) (k1 : Int × Unit → Option R) (v : D104) : Option R :=
 bif (decide (0 < (v.1.size : Int))) then
 bif ((IntKind.i64.wrap (bt v.1 0)) != v.2.1) then
 k0 (0, 14, v.2.2.2.2.2.1, ())
 else
 bif (sliceBds 1 3 (v.1.size : Int)) then
 Option.bind (f561F k (v.2.2.1, 2)) fun y12 =>
 bif (!strEq (v.1.extract 1 3) (strOfNums y12)) then
 k0 (0, 14, v.2.2.2.2.2.1, ())
 else
 bif (decide (56 < (v.1.size : Int))) then
 bif ((IntKind.i64.wrap (bt v.1 56)) != v.2.2.2.1) then
 k0 (0, 6, v.2.2.2.2.2.1, ())
 else
 bif v.2.2.2.2.2.2.1 then
 bif (!v.2.2.2.2.1) then
 k0 (0, 10, v.2.2.2.2.2.1, ())
 else
 bif (!v.2.2.2.2.2.2.1) then
 bif v.2.2.2.2.1 then
 k0 (0, 9, v.2.2.2.2.2.1, ())
 else
 k1 (v.2.2.2.2.2.1, ())
 else
 k1 (v.2.2.2.2.2.1, ())
 else
 bif (!v.2.2.2.2.2.2.1) then
 bif v.2.2.2.2.1 then
 k0 (0, 9, v.2.2.2.2.2.1, ())
 else
 k1 (v.2.2.2.2.2.1, ())
 else
 k1 (v.2.2.2.2.2.1, ())
 else none
 else none
 else none
noncomputable def f621p1S (k : Nat) := partSum ⟨[(0, oS), (1, oI), (2, oI), (3, oI), (4, oB), (13, oI), (14, oB)], [], 0, []⟩ ⟨[0, 1, 2, 3, 4, 13, 14], [], []⟩ fun R K v => f621p1 k (fun w => K .ret (encSt ⟨[(10, oI), (11, oI), (13, oI)], [], 0, []⟩ w)) (fun w => K .normal (encSt ⟨[(13, oI)], [], 0, []⟩ w)) v
theorem f621p1O (k : Nat) : SumO P Tryz.f121 254 (f621p1S k) := pt tm (f621T k) ⟨[10, 11, 13], [], []⟩ SumsOk.nil fun _ _ _ => by kernel_rfl
noncomputable def f621F (k : Nat) (x : D106) : Option (Int × Int) :=
 bif ((x.1.size : Int) != 64) then
 some (0, 18)
 else
 bif (sliceBds 0 60 (x.1.size : Int)) then
 Option.bind (f562F k (x.1.extract 0 60)) fun y1 =>
 Option.bind (f561F k (y1, 4)) fun y2 =>
 bif (sliceBds ((x.1.extract 0 60).size : Int) (x.1.size : Int) (x.1.size : Int)) then
 let t3 := (x.1.extract (Int.toNat ((x.1.extract 0 60).size : Int)) (Int.toNat (x.1.size : Int)))
 bif (!strEq (strOfNums y2) t3) then
 some (0, 33)
 else
 bif (decide (3 < (x.1.size : Int))) then
 bif (decide (3 < (x.1.size : Int))) then
 f621p0 k
 (fun (w10 : D103) =>
 some (w10.2.2.2.2.2.1, w10.2.2.2.2.2.2.1))
 (fun (w11 : D104) =>
 f621p1 k
 (fun (w13 : Int × Int × Int × Unit) =>
 some (w13.1, w13.2.1))
 (fun (w14 : Int × Unit) =>
 some (w14.1, 0))
 (w11.1, w11.2.1, w11.2.2.1, w11.2.2.2.1, w11.2.2.2.2.1, w11.2.2.2.2.2.1, w11.2.2.2.2.2.2.1, ()))
 (x.1, x.2.1, x.2.2.1, x.2.2.2.1, x.2.2.2.2, (x.1.extract 0 60), (IntKind.i64.wrap (bits .and .u8 (bt x.1 3) 127)), (decide ((bt x.1 3) ≥ 128)), ())
 else none
 else none
 else none
 else none
theorem f621Ok (k : Nat) : FnV P 121 [.dat .str, .dat (.int .i64), .dat (.int .i64), .dat (.int .i64), .dat .bool] [.dat (.int .i64), .dat (.int .i64)] (f621F k) :=
 fs tm (f621T k) Tryz.func121 (by kernel_rfl) (SumsOk.nil |>.s (f621p1O k) (by kernel_rfl) |>.s (f621p0O k) (by kernel_rfl)) none fun _ => by kernel_rfl
noncomputable def f620v0I : Shape := ⟨[(0, .agg [.str, .ro .str]), (1, .one (.ptr 0 0))], [(0, .var 81 [.str, .ro .str])], 1, []⟩
noncomputable def f620v0U : Shape := ⟨[(0, oB)], [(0, .var 81 [.str, .ro .str])], 1, []⟩
noncomputable def f620v0F (k : Nat) (x : D107) : Option (D108) :=
 some ((strEq x.1 x.2.2.1), x.2.2.1, x.2.2.2.1, ())
theorem f620v0Ok (k : Nat) : GnV P 120 f620v0I f620v0U (f620v0F k) :=
 gs tm TB.nil Tryz.func120 (by kernel_rfl) SumsOk.nil [.dat .bool] [] none fun _ => by kernel_rfl
noncomputable def f647v0I : Shape := ⟨[(0, .one (.ro Y8)), (1, .one (.fn 120 [0]))], [(0, .var 81 [.str, .ro .str])], 1, []⟩
noncomputable def f647v0U : Shape := ⟨[(0, oI)], [(0, .var 81 [.str, .ro .str])], 1, []⟩
noncomputable def f647v0T (k : Nat) : TB P := TB.nil |>.g (f620v0Ok k)
noncomputable def f647v0l0s {R : Type} (k : Nat) (rec : D111 → Option R) (k0 : D109 → Option R) (k1 : D110 → Option R) (v : D111) : Option R :=
 bif (decide (v.2.2.1 < v.2.1)) then
 bif ((decide (0 ≤ v.2.2.1)) && (decide (v.2.2.1 < (v.1.length : Int)))) then
 Option.bind (f620v0F k ((v.1.getD (Int.toNat v.2.2.1) (ByteArray.empty, [])).1, (v.1.getD (Int.toNat v.2.2.1) (ByteArray.empty, [])).2, v.2.2.2.1, v.2.2.2.2.1, ())) fun y1 =>
 bif y1.1 then
 k0 (v.2.2.1, y1.2.1, y1.2.2.1, ())
 else
 rec (v.1, v.2.1, (IntKind.i64.wrap (v.2.2.1 + 1)), y1.2.1, y1.2.2.1, ())
 else none
 else
 k1 (v.2.2.2.1, v.2.2.2.2.1, ())
noncomputable def f647v0l0 {R : Type} (k : Nat) (k0 : D109 → Option R) (k1 : D110 → Option R) (v : D111) : Option R := iterS (fun rec v => f647v0l0s k rec k0 k1 v) k v
noncomputable def f647v0l0S (k : Nat) := loopSum ⟨[(0, .one (.ro Y8)), (1, .one (.fn 120 [0])), (7, oI), (8, oI)], [(0, .var 81 [.str, .ro .str])], 1, [some 0]⟩ ⟨[0, 1, 7, 8], [], []⟩ k fun R rec K v => f647v0l0s k rec (fun w => K .ret (encSt ⟨[(4, oI)], [(0, .var 81 [.str, .ro .str])], 1, [some 0]⟩ w)) (fun w => K (.exit 0) (encSt ⟨[], [(0, .var 81 [.str, .ro .str])], 1, [some 0]⟩ w)) v
theorem f647v0l0O (k : Nat) : SumO P Tryz.f147 26 (f647v0l0S k) := lp tm (f647v0T k) ⟨[4], [], []⟩ SumsOk.nil (by kernel_rfl) fun _ _ _ _ => by kernel_rfl
noncomputable def f647v0F (k : Nat) (x : D112) : Option (D109) :=
 f647v0l0 k
 (fun (w2 : D109) =>
 some (w2.1, w2.2.1, w2.2.2.1, ()))
 (fun (w3 : D110) =>
 some ((-1), w3.1, w3.2.1, ()))
 (x.1, (x.1.length : Int), 0, x.2.1, x.2.2.1, ())
theorem f647v0Ok (k : Nat) : GnV P 147 f647v0I f647v0U (f647v0F k) :=
 gs tm (f647v0T k) Tryz.func147 (by kernel_rfl) (SumsOk.nil |>.s (f647v0l0O k) (by kernel_rfl)) [.dat .bool] [] none fun _ => by kernel_rfl
noncomputable def f619v0I : Shape := ⟨[(0, .one (.ro Y8)), (1, .one (.fn 120 [0]))], [(0, .var 81 [.str, .ro .str])], 1, []⟩
noncomputable def f619v0U : Shape := ⟨[(0, oB)], [(0, .var 81 [.str, .ro .str])], 1, []⟩
noncomputable def f619v0T (k : Nat) : TB P := TB.nil |>.g (f647v0Ok k)
noncomputable def f619v0F (k : Nat) (x : D112) : Option (D108) :=
 Option.bind (f647v0F k (x.1, x.2.1, x.2.2.1, ())) fun y1 =>
 some ((decide (y1.1 ≥ 0)), y1.2.1, y1.2.2.1, ())
theorem f619v0Ok (k : Nat) : GnV P 119 f619v0I f619v0U (f619v0F k) :=
 gs tm (f619v0T k) Tryz.func119 (by kernel_rfl) SumsOk.nil [.dat .bool] [] none fun _ => by kernel_rfl
noncomputable def f622v0I : Shape := ⟨[(0, .one (.ptr 0 0)), (1, oS)], [(0, .var 174 [.nil .ptr, .emp])], 1, []⟩
noncomputable def f622v0U : Shape := ⟨[(0, oI), (1, .one (.nil .iface))], [(0, .var 174 [.ptr 0 0, .own 1]), (1, .row 5 (.int .u8) .plain)], 2, []⟩
noncomputable def f622v0T (k : Nat) : TB P := TB.nil |>.h Tryz.func149 (by kernel_rfl) bc_ok
noncomputable def f622v0F (k : Nat) (x : ByteArray × Unit) : Option (Int × List Int × Unit) :=
 bif (decide ((([] : List Int).length + (bytesOf x.1).length) * 1 ≤ 140737488355328) && decide (([] : List Int).length + (bytesOf x.1).length ≤ 9223372036854775807)) then
 some ((x.1.size : Int), ([] ++ (bytesOf x.1)), ())
 else none
theorem f622v0Ok (k : Nat) : GnV P 122 f622v0I f622v0U (f622v0F k) :=
 gs tm (f622v0T k) Tryz.func122 (by kernel_rfl) SumsOk.nil [.dat .bool, .dat .bool] [] none fun _ => by kernel_rfl
noncomputable def f622v1I : Shape := ⟨[(0, .one (.ptr 0 0)), (1, oS)], [(0, .var 174 [.ptr 0 0, .own 1]), (1, .row 5 (.int .u8) .plain)], 2, []⟩
noncomputable def f622v1U : Shape := ⟨[(0, oI), (1, .one (.nil .iface))], [(0, .var 174 [.ptr 0 0, .own 2]), (2, .row 5 (.int .u8) .plain)], 3, []⟩
noncomputable def f622v1T (k : Nat) : TB P := TB.nil |>.h Tryz.func149 (by kernel_rfl) bc_ok
noncomputable def f622v1F (k : Nat) (x : D40) : Option (Int × List Int × Unit) :=
 bif (decide ((x.2.1.length + (bytesOf x.1).length) * 1 ≤ 140737488355328) && decide (x.2.1.length + (bytesOf x.1).length ≤ 9223372036854775807)) then
 some ((x.1.size : Int), (x.2.1 ++ (bytesOf x.1)), ())
 else none
theorem f622v1Ok (k : Nat) : GnV P 122 f622v1I f622v1U (f622v1F k) :=
 gs tm (f622v1T k) Tryz.func122 (by kernel_rfl) SumsOk.nil [.dat .bool, .dat .bool] [1] none fun _ => by kernel_rfl
noncomputable def f581T (k : Nat) : TB P := TB.nil |>.h Tryz.func123 (by kernel_rfl) bs_ok |>.c ((f622v1Ok k).e.or (f622v0Ok k).e) |>.u (f621Ok k) |>.g (f619v0Ok k) |>.u (f602Ok k)
noncomputable def f581p0H : Shape := ⟨[(0, .one (.ro Y8)), (6, .one (.ptr 0 0)), (7, oI), (8, oI), (9, .one (.ptr 1 0)), (20, .one (.ro Y8)), (21, oI), (22, oI), (53, .one (.ro .str)), (54, oI), (55, oI)], [(0, .var 174 [.nil .ptr, .emp]), (1, .var 81 [.str, .ro .str])], 2, []⟩
noncomputable def f581p0X0 : Shape := ⟨[(0, .one (.ro Y8)), (2, oS), (3, oI), (4, oI), (5, oI), (6, .one (.ptr 0 0)), (7, oI), (8, oI), (9, .one (.ptr 1 0)), (20, .one (.ro Y8)), (21, oI), (22, oI), (53, .one (.ro .str)), (54, oI), (55, oI)], [(0, .var 174 [.nil .ptr, .emp]), (1, .var 81 [.str, .ro .str])], 2, []⟩
noncomputable def f581p0X1 : Shape := ⟨[(0, .one (.ro Y8)), (6, .one (.ptr 0 0)), (7, oI), (8, oI), (9, .one (.ptr 1 0)), (20, .one (.ro Y8)), (21, oI), (22, oI), (53, .one (.ro .str)), (54, oI), (55, oI)], [(0, .var 174 [.ptr 0 0, .own 2]), (1, .var 81 [.str, .ro .str]), (2, .row 5 (.int .u8) .plain)], 3, []⟩
noncomputable def f581p0N : NoteR := ⟨[0, 6, 7, 8, 9, 20, 21, 22, 53, 54, 55], [], []⟩
noncomputable def f581p0M : NoteR := ⟨[0, 2, 3, 4, 5, 6, 7, 8, 9, 20, 21, 22, 53, 54, 55], [], []⟩
noncomputable def f581p0C : Code := firstC (codesAt 4148454 (codeOf Tryz.f81) 1)
noncomputable def f581p0 {R : Type} (k : Nat) (k0 : D113 → Option R) (k1 : D114 → Option R) (v : D121) : Option R :=
 bif ((decide (0 ≤ v.2.2.2.2.2.2.2.2.1)) && (decide (v.2.2.2.2.2.2.2.2.1 < (v.2.2.2.2.2.2.1.length : Int)))) then
 bif (v.2.2.1 == (IntKind.i64.wrap ((v.1.length : Int) - 1))) then
 let t3 := (IntKind.i64.wrap ((v.2.2.2.2.2.2.2.2.2.2.1.length : Int) - 1))
 Option.bind (f621F k ((v.2.2.2.2.2.2.1.getD (Int.toNat v.2.2.2.2.2.2.2.2.1) ByteArray.empty), (IntKind.i64.wrap (v.2.2.1 + 1)), (IntKind.i64.wrap (v.2.1 + 1)), (v.1.length : Int), (v.2.2.2.2.2.2.2.2.1 == t3))) fun y4 =>
 bif (y4.2 != 0) then
 k0 (v.1, ByteArray.empty, v.2.2.1, v.2.2.2.2.2.2.2.2.1, y4.2, (IntKind.i64.wrap (v.2.1 + 1)), v.2.2.1, v.2.2.2.1, v.2.2.2.2.1, v.2.2.2.2.2.1, v.2.2.2.2.2.2.1, v.2.2.2.2.2.2.2.1, v.2.2.2.2.2.2.2.2.1, v.2.2.2.2.2.2.2.2.2.1, v.2.2.2.2.2.2.2.2.2.2.1, ())
 else
 bif (sliceBds 4 (IntKind.i64.wrap (4 + y4.1)) ((v.2.2.2.2.2.2.1.getD (Int.toNat v.2.2.2.2.2.2.2.2.1) ByteArray.empty).size : Int)) then
 let t5 := ((v.2.2.2.2.2.2.1.getD (Int.toNat v.2.2.2.2.2.2.2.2.1) ByteArray.empty).extract 4 (Int.toNat (IntKind.i64.wrap (4 + y4.1))))
 Option.bind (f622v0F k (t5, ())) fun y6 =>
 k1 (v.1, (IntKind.i64.wrap (v.2.1 + 1)), v.2.2.1, v.2.2.2.1, v.2.2.2.2.1, v.2.2.2.2.2.1, v.2.2.2.2.2.2.1, v.2.2.2.2.2.2.2.1, v.2.2.2.2.2.2.2.2.1, v.2.2.2.2.2.2.2.2.2.1, v.2.2.2.2.2.2.2.2.2.2.1, y6.2.1, ())
 else none
 else
 Option.bind (f621F k ((v.2.2.2.2.2.2.1.getD (Int.toNat v.2.2.2.2.2.2.2.2.1) ByteArray.empty), (IntKind.i64.wrap (v.2.2.1 + 1)), (IntKind.i64.wrap (v.2.1 + 1)), (v.1.length : Int), false)) fun y7 =>
 bif (y7.2 != 0) then
 k0 (v.1, ByteArray.empty, v.2.2.1, v.2.2.2.2.2.2.2.2.1, y7.2, (IntKind.i64.wrap (v.2.1 + 1)), v.2.2.1, v.2.2.2.1, v.2.2.2.2.1, v.2.2.2.2.2.1, v.2.2.2.2.2.2.1, v.2.2.2.2.2.2.2.1, v.2.2.2.2.2.2.2.2.1, v.2.2.2.2.2.2.2.2.2.1, v.2.2.2.2.2.2.2.2.2.2.1, ())
 else
 bif (sliceBds 4 (IntKind.i64.wrap (4 + y7.1)) ((v.2.2.2.2.2.2.1.getD (Int.toNat v.2.2.2.2.2.2.2.2.1) ByteArray.empty).size : Int)) then
 let t8 := ((v.2.2.2.2.2.2.1.getD (Int.toNat v.2.2.2.2.2.2.2.2.1) ByteArray.empty).extract 4 (Int.toNat (IntKind.i64.wrap (4 + y7.1))))
 Option.bind (f622v0F k (t8, ())) fun y9 =>
 k1 (v.1, (IntKind.i64.wrap (v.2.1 + 1)), v.2.2.1, v.2.2.2.1, v.2.2.2.2.1, v.2.2.2.2.2.1, v.2.2.2.2.2.2.1, v.2.2.2.2.2.2.2.1, v.2.2.2.2.2.2.2.2.1, v.2.2.2.2.2.2.2.2.2.1, v.2.2.2.2.2.2.2.2.2.2.1, y9.2.1, ())
 else none
 else none
noncomputable def f581p0S (k : Nat) : Sum1 := partSum f581p0H f581p0N (fun R K v => f581p0 k (fun w => K .ret (encSt f581p0X0 w)) (fun w => K .normal (encSt f581p0X1 w)) v)
theorem f581p0E (k : Nat) (R : Type) (K : X → St → Option R) (v : f581p0H.Den) : evS tab (f581T k).t Tryz.f81.ntmps [] f581p0C 4148454 (partK f581p0M K) (encSt f581p0H v) = f581p0 k (fun w => K .ret (encSt f581p0X0 w)) (fun w => K .normal (encSt f581p0X1 w)) v := by kernel_rfl
theorem f581p0I (k : Nat) : SumsOk P Tryz.f81.ntmps [] f581p0C 4148454 := SumsOk.nil
theorem f581p0O (k : Nat) : SumO P Tryz.f81 4148454 (f581p0S k) := sum_part tm.1 (f581T k).ok tm.2 (f581p0I k) (f581p0E k)
noncomputable def f581p1H : Shape := ⟨[(0, .one (.ro Y8)), (6, .one (.ptr 0 0)), (7, oI), (8, oI), (9, .one (.ptr 1 0)), (20, .one (.ro Y8)), (21, oI), (22, oI), (53, .one (.ro .str)), (54, oI), (55, oI)], [(0, .var 174 [.ptr 0 0, .own 2]), (1, .var 81 [.str, .ro .str]), (2, .row 5 (.int .u8) .plain)], 3, []⟩
noncomputable def f581p1X0 : Shape := ⟨[(0, .one (.ro Y8)), (2, oS), (3, oI), (4, oI), (5, oI), (6, .one (.ptr 0 0)), (7, oI), (8, oI), (9, .one (.ptr 1 0)), (20, .one (.ro Y8)), (21, oI), (22, oI), (53, .one (.ro .str)), (54, oI), (55, oI)], [(0, .var 174 [.ptr 0 0, .own 2]), (1, .var 81 [.str, .ro .str]), (2, .row 5 (.int .u8) .plain)], 3, []⟩
noncomputable def f581p1X1 : Shape := ⟨[(0, .one (.ro Y8)), (6, .one (.ptr 0 0)), (7, oI), (8, oI), (9, .one (.ptr 1 0)), (20, .one (.ro Y8)), (21, oI), (22, oI), (53, .one (.ro .str)), (54, oI), (55, oI)], [(0, .var 174 [.ptr 0 0, .own 2]), (1, .var 81 [.str, .ro .str]), (2, .row 5 (.int .u8) .plain)], 3, []⟩
noncomputable def f581p1N : NoteR := ⟨[0, 6, 7, 8, 9, 20, 21, 22, 53, 54, 55], [], []⟩
noncomputable def f581p1M : NoteR := ⟨[0, 2, 3, 4, 5, 6, 7, 8, 9, 20, 21, 22, 53, 54, 55], [], []⟩
noncomputable def f581p1C : Code := firstC (codesAt 4148454 (codeOf Tryz.f81) 1)
noncomputable def f581p1 {R : Type} (k : Nat) (k0 : D115 → Option R) (k1 : D114 → Option R) (v : D114) : Option R :=
 bif ((decide (0 ≤ v.2.2.2.2.2.2.2.2.1)) && (decide (v.2.2.2.2.2.2.2.2.1 < (v.2.2.2.2.2.2.1.length : Int)))) then
 bif (v.2.2.1 == (IntKind.i64.wrap ((v.1.length : Int) - 1))) then
 let t12 := (IntKind.i64.wrap ((v.2.2.2.2.2.2.2.2.2.2.1.length : Int) - 1))
 Option.bind (f621F k ((v.2.2.2.2.2.2.1.getD (Int.toNat v.2.2.2.2.2.2.2.2.1) ByteArray.empty), (IntKind.i64.wrap (v.2.2.1 + 1)), (IntKind.i64.wrap (v.2.1 + 1)), (v.1.length : Int), (v.2.2.2.2.2.2.2.2.1 == t12))) fun y13 =>
 bif (y13.2 != 0) then
 k0 (v.1, ByteArray.empty, v.2.2.1, v.2.2.2.2.2.2.2.2.1, y13.2, (IntKind.i64.wrap (v.2.1 + 1)), v.2.2.1, v.2.2.2.1, v.2.2.2.2.1, v.2.2.2.2.2.1, v.2.2.2.2.2.2.1, v.2.2.2.2.2.2.2.1, v.2.2.2.2.2.2.2.2.1, v.2.2.2.2.2.2.2.2.2.1, v.2.2.2.2.2.2.2.2.2.2.1, v.2.2.2.2.2.2.2.2.2.2.2.1, ())
 else
 bif (sliceBds 4 (IntKind.i64.wrap (4 + y13.1)) ((v.2.2.2.2.2.2.1.getD (Int.toNat v.2.2.2.2.2.2.2.2.1) ByteArray.empty).size : Int)) then
 let t14 := ((v.2.2.2.2.2.2.1.getD (Int.toNat v.2.2.2.2.2.2.2.2.1) ByteArray.empty).extract 4 (Int.toNat (IntKind.i64.wrap (4 + y13.1))))
 Option.bind (f622v1F k (t14, v.2.2.2.2.2.2.2.2.2.2.2.1, ())) fun y15 =>
 k1 (v.1, (IntKind.i64.wrap (v.2.1 + 1)), v.2.2.1, v.2.2.2.1, v.2.2.2.2.1, v.2.2.2.2.2.1, v.2.2.2.2.2.2.1, v.2.2.2.2.2.2.2.1, v.2.2.2.2.2.2.2.2.1, v.2.2.2.2.2.2.2.2.2.1, v.2.2.2.2.2.2.2.2.2.2.1, y15.2.1, ())
 else none
 else
 Option.bind (f621F k ((v.2.2.2.2.2.2.1.getD (Int.toNat v.2.2.2.2.2.2.2.2.1) ByteArray.empty), (IntKind.i64.wrap (v.2.2.1 + 1)), (IntKind.i64.wrap (v.2.1 + 1)), (v.1.length : Int), false)) fun y16 =>
 bif (y16.2 != 0) then
 k0 (v.1, ByteArray.empty, v.2.2.1, v.2.2.2.2.2.2.2.2.1, y16.2, (IntKind.i64.wrap (v.2.1 + 1)), v.2.2.1, v.2.2.2.1, v.2.2.2.2.1, v.2.2.2.2.2.1, v.2.2.2.2.2.2.1, v.2.2.2.2.2.2.2.1, v.2.2.2.2.2.2.2.2.1, v.2.2.2.2.2.2.2.2.2.1, v.2.2.2.2.2.2.2.2.2.2.1, v.2.2.2.2.2.2.2.2.2.2.2.1, ())
 else
 bif (sliceBds 4 (IntKind.i64.wrap (4 + y16.1)) ((v.2.2.2.2.2.2.1.getD (Int.toNat v.2.2.2.2.2.2.2.2.1) ByteArray.empty).size : Int)) then
 let t17 := ((v.2.2.2.2.2.2.1.getD (Int.toNat v.2.2.2.2.2.2.2.2.1) ByteArray.empty).extract 4 (Int.toNat (IntKind.i64.wrap (4 + y16.1))))
 Option.bind (f622v1F k (t17, v.2.2.2.2.2.2.2.2.2.2.2.1, ())) fun y18 =>
 k1 (v.1, (IntKind.i64.wrap (v.2.1 + 1)), v.2.2.1, v.2.2.2.1, v.2.2.2.2.1, v.2.2.2.2.2.1, v.2.2.2.2.2.2.1, v.2.2.2.2.2.2.2.1, v.2.2.2.2.2.2.2.2.1, v.2.2.2.2.2.2.2.2.2.1, v.2.2.2.2.2.2.2.2.2.2.1, y18.2.1, ())
 else none
 else none
noncomputable def f581p1S (k : Nat) : Sum1 := part2Sum f581p1H f581p1N (f581p0S k) (fun R K v => f581p1 k (fun w => K .ret (encSt f581p1X0 w)) (fun w => K .normal (encSt f581p1X1 w)) v)
theorem f581p1E (k : Nat) (R : Type) (K : X → St → Option R) (v : f581p1H.Den) : evS tab (f581T k).t Tryz.f81.ntmps [] f581p1C 4148454 (partK f581p1M K) (encSt f581p1H v) = f581p1 k (fun w => K .ret (encSt f581p1X0 w)) (fun w => K .normal (encSt f581p1X1 w)) v := by kernel_rfl
theorem f581p1I (k : Nat) : SumsOk P Tryz.f81.ntmps [] f581p1C 4148454 := SumsOk.nil
theorem f581p1O (k : Nat) : SumO P Tryz.f81 4148454 (f581p1S k) := part2_ok tm.1 (f581T k).ok tm.2 (f581p1I k) (f581p0O k) (f581p1E k)
noncomputable def f581l2H : Shape := ⟨[(0, .one (.ro Y8)), (6, .one (.ptr 0 0)), (7, oI), (8, oI), (9, .one (.ptr 1 0)), (20, .one (.ro Y8)), (21, oI), (22, oI), (53, .one (.ro .str)), (54, oI), (55, oI)], [(0, .var 174 [.ptr 0 0, .own 2]), (1, .var 81 [.str, .ro .str]), (2, .row 5 (.int .u8) .plain)], 3, []⟩
noncomputable def f581l2X0 : Shape := ⟨[(0, .one (.ro Y8)), (2, oS), (3, oI), (4, oI), (5, oI), (6, .one (.ptr 0 0)), (7, oI), (20, .one (.ro Y8)), (21, oI), (22, oI)], [(0, .var 174 [.ptr 0 0, .own 1]), (1, .row 5 (.int .u8) .plain)], 2, []⟩
noncomputable def f581l2X1 : Shape := ⟨[(0, .one (.ro Y8)), (6, .one (.ptr 0 0)), (7, oI), (20, .one (.ro Y8)), (21, oI), (22, oI)], [(0, .var 174 [.ptr 0 0, .own 1]), (1, .row 5 (.int .u8) .plain)], 2, []⟩
noncomputable def f581l2N : NoteR := ⟨[0, 6, 7, 8, 9, 20, 21, 22, 53, 54, 55], [], []⟩
noncomputable def f581l2M : NoteR := ⟨[0, 2, 3, 4, 5, 6, 7, 20, 21, 22], [], []⟩
noncomputable def f581l2C : Code := firstC (codesAt 259278 (codeOf Tryz.f81) 1)
noncomputable def f581l2s {R : Type} (k : Nat) (rec : D114 → Option R) (k0 : D116 → Option R) (k1 : D117 → Option R) (v : D114) : Option R :=
 bif (decide (v.2.2.2.2.2.2.2.2.1 < v.2.2.2.2.2.2.2.1)) then
 f581p1 k
 (fun (w19 : D115) =>
 k0 (w19.1, w19.2.1, w19.2.2.1, w19.2.2.2.1, w19.2.2.2.2.1, w19.2.2.2.2.2.1, w19.2.2.2.2.2.2.2.1, w19.2.2.2.2.2.2.2.2.1, w19.2.2.2.2.2.2.2.2.2.1, w19.2.2.2.2.2.2.2.2.2.2.2.2.2.2.2.1, ()))
 (fun (w20 : D114) =>
 rec (w20.1, w20.2.1, w20.2.2.1, w20.2.2.2.1, w20.2.2.2.2.1, w20.2.2.2.2.2.1, w20.2.2.2.2.2.2.1, w20.2.2.2.2.2.2.2.1, (IntKind.i64.wrap (w20.2.2.2.2.2.2.2.2.1 + 1)), w20.2.2.2.2.2.2.2.2.2.1, w20.2.2.2.2.2.2.2.2.2.2.1, w20.2.2.2.2.2.2.2.2.2.2.2.1, ()))
 (v.1, v.2.1, v.2.2.1, v.2.2.2.1, v.2.2.2.2.1, v.2.2.2.2.2.1, v.2.2.2.2.2.2.1, v.2.2.2.2.2.2.2.1, v.2.2.2.2.2.2.2.2.1, v.2.2.2.2.2.2.2.2.2.1, v.2.2.2.2.2.2.2.2.2.2.1, v.2.2.2.2.2.2.2.2.2.2.2.1, ())
 else
 k1 (v.1, v.2.1, v.2.2.2.1, v.2.2.2.2.1, v.2.2.2.2.2.1, v.2.2.2.2.2.2.2.2.2.2.2.1, ())
noncomputable def f581l2 {R : Type} (k : Nat) (k0 : D116 → Option R) (k1 : D117 → Option R) (v : D114) : Option R := iterS (fun rec v => f581l2s k rec k0 k1 v) k v
noncomputable def f581l2S (k : Nat) : Sum1 := loopSum f581l2H f581l2N k (fun R rec K v => f581l2s k rec (fun w => K .ret (encSt f581l2X0 w)) (fun w => K (.exit 3) (encSt f581l2X1 w)) v)
theorem f581l2E (k : Nat) (R : Type) (rec : St → Option R) (K : X → St → Option R) (v : f581l2H.Den) : evS tab (f581T k).t Tryz.f81.ntmps [(4148454, f581p1S k)] (bodyOf f581l2C) 518556 (bodyK f581l2N f581l2M rec K) (encSt f581l2H v) = f581l2s k (fun v => rec (encSt f581l2H v)) (fun w => K .ret (encSt f581l2X0 w)) (fun w => K (.exit 3) (encSt f581l2X1 w)) v := by kernel_rfl
theorem f581l2I (k : Nat) : SumsOk P Tryz.f81.ntmps [(4148454, f581p1S k)] (bodyOf f581l2C) 518556 := (SumsOk.nil).s (f581p1O k) (by kernel_rfl)
theorem f581l2O (k : Nat) : SumO P Tryz.f81 259278 (f581l2S k) := (show SumOk P Tryz.f81.ntmps f581l2C (f581l2S k) from (show f581l2C = .loop (bodyOf f581l2C) by kernel_rfl) ▸ sum_loop tm.1 (f581T k).ok tm.2 (f581l2I k) (f581l2E k))
noncomputable def f581l3H : Shape := ⟨[(0, .one (.ro Y8)), (6, .one (.ptr 0 0)), (7, oI), (8, oI), (9, .one (.ptr 1 0)), (20, .one (.ro Y8)), (21, oI), (22, oI), (53, .one (.ro .str)), (54, oI), (55, oI)], [(0, .var 174 [.nil .ptr, .emp]), (1, .var 81 [.str, .ro .str])], 2, []⟩
noncomputable def f581l3X0 : Shape := ⟨[(0, .one (.ro Y8)), (2, oS), (3, oI), (4, oI), (5, oI), (6, .one (.ptr 0 0)), (7, oI), (20, .one (.ro Y8)), (21, oI), (22, oI)], [(0, .var 174 [.nil .ptr, .emp])], 1, []⟩
noncomputable def f581l3X1 : Shape := ⟨[(0, .one (.ro Y8)), (2, oS), (3, oI), (4, oI), (5, oI), (6, .one (.ptr 0 0)), (7, oI), (20, .one (.ro Y8)), (21, oI), (22, oI)], [(0, .var 174 [.ptr 0 0, .own 1]), (1, .row 5 (.int .u8) .plain)], 2, []⟩
noncomputable def f581l3X2 : Shape := ⟨[(0, .one (.ro Y8)), (6, .one (.ptr 0 0)), (7, oI), (20, .one (.ro Y8)), (21, oI), (22, oI)], [(0, .var 174 [.ptr 0 0, .own 1]), (1, .row 5 (.int .u8) .plain)], 2, []⟩
noncomputable def f581l3X3 : Shape := ⟨[(0, .one (.ro Y8)), (6, .one (.ptr 0 0)), (7, oI), (20, .one (.ro Y8)), (21, oI), (22, oI)], [(0, .var 174 [.nil .ptr, .emp])], 1, []⟩
noncomputable def f581l3N : NoteR := ⟨[0, 6, 7, 8, 9, 20, 21, 22, 53, 54, 55], [], []⟩
noncomputable def f581l3M : NoteR := ⟨[0, 2, 3, 4, 5, 6, 7, 20, 21, 22], [], []⟩
noncomputable def f581l3C : Code := firstC (codesAt 259278 (codeOf Tryz.f81) 1)
noncomputable def f581l3s {R : Type} (k : Nat) (rec : D121 → Option R) (k0 : D118 → Option R) (k1 : D116 → Option R) (k2 : D117 → Option R) (k3 : D119 → Option R) (v : D121) : Option R :=
 bif (decide (v.2.2.2.2.2.2.2.2.1 < v.2.2.2.2.2.2.2.1)) then
 f581p0 k
 (fun (w10 : D113) =>
 k0 (w10.1, w10.2.1, w10.2.2.1, w10.2.2.2.1, w10.2.2.2.2.1, w10.2.2.2.2.2.1, w10.2.2.2.2.2.2.2.1, w10.2.2.2.2.2.2.2.2.1, w10.2.2.2.2.2.2.2.2.2.1, ()))
 (fun (w11 : D114) =>
 f581l2 k
 (fun (w21 : D116) =>
 k1 (w21.1, w21.2.1, w21.2.2.1, w21.2.2.2.1, w21.2.2.2.2.1, w21.2.2.2.2.2.1, w21.2.2.2.2.2.2.1, w21.2.2.2.2.2.2.2.1, w21.2.2.2.2.2.2.2.2.1, w21.2.2.2.2.2.2.2.2.2.1, ()))
 (fun (w22 : D117) =>
 k2 (w22.1, w22.2.1, w22.2.2.1, w22.2.2.2.1, w22.2.2.2.2.1, w22.2.2.2.2.2.1, ()))
 (w11.1, w11.2.1, w11.2.2.1, w11.2.2.2.1, w11.2.2.2.2.1, w11.2.2.2.2.2.1, w11.2.2.2.2.2.2.1, w11.2.2.2.2.2.2.2.1, (IntKind.i64.wrap (w11.2.2.2.2.2.2.2.2.1 + 1)), w11.2.2.2.2.2.2.2.2.2.1, w11.2.2.2.2.2.2.2.2.2.2.1, w11.2.2.2.2.2.2.2.2.2.2.2.1, ()))
 (v.1, v.2.1, v.2.2.1, v.2.2.2.1, v.2.2.2.2.1, v.2.2.2.2.2.1, v.2.2.2.2.2.2.1, v.2.2.2.2.2.2.2.1, v.2.2.2.2.2.2.2.2.1, v.2.2.2.2.2.2.2.2.2.1, v.2.2.2.2.2.2.2.2.2.2.1, ())
 else
 k3 (v.1, v.2.1, v.2.2.2.1, v.2.2.2.2.1, v.2.2.2.2.2.1, ())
noncomputable def f581l3 {R : Type} (k : Nat) (k0 : D118 → Option R) (k1 : D116 → Option R) (k2 : D117 → Option R) (k3 : D119 → Option R) (v : D121) : Option R := iterS (fun rec v => f581l3s k rec k0 k1 k2 k3 v) k v
theorem f581l2Rd (k : Nat) : SumRd P Tryz.f81.ntmps (bodyOf f581l2C) (f581l2S k) k := loop_rd tm.1 (f581T k).ok tm.2 (f581l2I k) (f581l2E k)
noncomputable def f581l3S (k : Nat) : Sum1 := loop2Sum f581l3H f581l3N (f581l2S k) k (fun R rec K v => f581l3s k rec (fun w => K .ret (encSt f581l3X0 w)) (fun w => K .ret (encSt f581l3X1 w)) (fun w => K (.exit 3) (encSt f581l3X2 w)) (fun w => K (.exit 3) (encSt f581l3X3 w)) v)
theorem f581l3E (k : Nat) (R : Type) (rec : f581l3H.Den → Option R) (K : X → St → Option R) (v : f581l3H.Den) : evS tab (f581T k).t Tryz.f81.ntmps [(4148454, f581p1S k)] (bodyOf f581l3C) 518556 (step2K f581l3H f581l3N f581l3M (f581l2S k) rec K) (encSt f581l3H v) = f581l3s k rec (fun w => K .ret (encSt f581l3X0 w)) (fun w => K .ret (encSt f581l3X1 w)) (fun w => K (.exit 3) (encSt f581l3X2 w)) (fun w => K (.exit 3) (encSt f581l3X3 w)) v := by kernel_rfl
theorem f581l3I (k : Nat) : SumsOk P Tryz.f81.ntmps [(4148454, f581p1S k)] (bodyOf f581l3C) 518556 := (SumsOk.nil).s (f581p1O k) (by kernel_rfl)
theorem f581l3Rd (k : Nat) : SumRd P Tryz.f81.ntmps (bodyOf f581l3C) (f581l3S k) (k + (k)) := loop2_rd tm.1 (f581T k).ok tm.2 (f581l3I k) ((show bodyOf f581l2C = bodyOf f581l3C by kernel_rfl) ▸ f581l2Rd k) (f581l3E k)
theorem f581l3O (k : Nat) : SumO P Tryz.f81 259278 (f581l3S k) := (show SumOk P Tryz.f81.ntmps f581l3C (f581l3S k) from (show f581l3C = .loop (bodyOf f581l3C) by kernel_rfl) ▸ (f581l3Rd k).ok)
noncomputable def f581p4H : Shape := ⟨[(0, .one (.ro Y8)), (6, .one (.ptr 0 0)), (7, oI), (20, .one (.ro Y8)), (21, oI), (22, oI)], [(0, .var 174 [.nil .ptr, .emp])], 1, []⟩
noncomputable def f581p4X0 : Shape := ⟨[(0, .one (.ro Y8)), (2, oS), (3, oI), (4, oI), (5, oI), (6, .one (.ptr 0 0)), (7, oI), (20, .one (.ro Y8)), (21, oI), (22, oI)], [(0, .var 174 [.nil .ptr, .emp])], 1, []⟩
noncomputable def f581p4X1 : Shape := ⟨[(0, .one (.ro Y8)), (2, oS), (3, oI), (4, oI), (5, oI), (6, .one (.ptr 0 0)), (7, oI), (20, .one (.ro Y8)), (21, oI), (22, oI)], [(0, .var 174 [.ptr 0 0, .own 1]), (1, .row 5 (.int .u8) .plain)], 2, []⟩
noncomputable def f581p4X2 : Shape := ⟨[(0, .one (.ro Y8)), (6, .one (.ptr 0 0)), (7, oI), (20, .one (.ro Y8)), (21, oI), (22, oI)], [(0, .var 174 [.ptr 0 0, .own 1]), (1, .row 5 (.int .u8) .plain)], 2, []⟩
noncomputable def f581p4X3 : Shape := ⟨[(0, .one (.ro Y8)), (6, .one (.ptr 0 0)), (7, oI), (20, .one (.ro Y8)), (21, oI), (22, oI)], [(0, .var 174 [.nil .ptr, .emp])], 1, []⟩
noncomputable def f581p4N : NoteR := ⟨[0, 6, 7, 20, 21, 22], [], []⟩
noncomputable def f581p4M : NoteR := ⟨[0, 2, 3, 4, 5, 6, 7, 20, 21, 22], [], []⟩
noncomputable def f581p4C : Code := firstC (codesAt 8102 (codeOf Tryz.f81) 1)
noncomputable def f581p4 {R : Type} (k : Nat) (k0 : D118 → Option R) (k1 : D116 → Option R) (k2 : D117 → Option R) (k3 : D119 → Option R) (v : D119) : Option R :=
 bif ((decide (0 ≤ v.2.2.2.2.1)) && (decide (v.2.2.2.2.1 < (v.2.2.1.length : Int)))) then
 Option.bind (f602F k (v.2.2.1.getD (Int.toNat v.2.2.2.2.1) (ByteArray.empty, [])).1) fun y1 =>
 bif (!y1) then
 k0 (v.1, ByteArray.empty, v.2.2.2.2.1, 0, 7, v.2.1, v.2.2.1, v.2.2.2.1, v.2.2.2.2.1, ())
 else
 bif (sliceBds 0 v.2.2.2.2.1 (v.1.length : Int)) then
 Option.bind (f619v0F k (((v.1.take (Int.toNat v.2.2.2.2.1)).drop 0), (v.2.2.1.getD (Int.toNat v.2.2.2.2.1) (ByteArray.empty, [])).1, (v.2.2.1.getD (Int.toNat v.2.2.2.2.1) (ByteArray.empty, [])).2, ())) fun y2 =>
 bif y2.1 then
 k0 (v.1, ByteArray.empty, v.2.2.2.2.1, 0, 13, v.2.1, v.2.2.1, v.2.2.2.1, v.2.2.2.2.1, ())
 else
 bif (decide ((y2.2.2.1.length : Int) > 60)) then
 k0 (v.1, ByteArray.empty, v.2.2.2.2.1, 0, 2, v.2.1, v.2.2.1, v.2.2.2.1, v.2.2.2.2.1, ())
 else
 bif ((y2.2.2.1.length : Int) == 0) then
 k0 (v.1, ByteArray.empty, v.2.2.2.2.1, 0, 1, v.2.1, v.2.2.1, v.2.2.2.1, v.2.2.2.2.1, ())
 else
 f581l3 k
 (fun (w23 : D118) =>
 k0 (w23.1, w23.2.1, w23.2.2.1, w23.2.2.2.1, w23.2.2.2.2.1, w23.2.2.2.2.2.1, w23.2.2.2.2.2.2.1, w23.2.2.2.2.2.2.2.1, w23.2.2.2.2.2.2.2.2.1, ()))
 (fun (w24 : D116) =>
 k1 (w24.1, w24.2.1, w24.2.2.1, w24.2.2.2.1, w24.2.2.2.2.1, w24.2.2.2.2.2.1, w24.2.2.2.2.2.2.1, w24.2.2.2.2.2.2.2.1, w24.2.2.2.2.2.2.2.2.1, w24.2.2.2.2.2.2.2.2.2.1, ()))
 (fun (w25 : D117) =>
 k2 (w25.1, w25.2.1, w25.2.2.1, w25.2.2.2.1, w25.2.2.2.2.1, w25.2.2.2.2.2.1, ()))
 (fun (w26 : D119) =>
 k3 (w26.1, w26.2.1, w26.2.2.1, w26.2.2.2.1, w26.2.2.2.2.1, ()))
 (v.1, v.2.1, v.2.2.2.2.1, v.2.2.1, v.2.2.2.1, v.2.2.2.2.1, y2.2.2.1, (y2.2.2.1.length : Int), 0, y2.2.1, y2.2.2.1, ())
 else none
 else none
noncomputable def f581p4S (k : Nat) : Sum1 := partSum f581p4H f581p4N (fun R K v => f581p4 k (fun w => K .ret (encSt f581p4X0 w)) (fun w => K .ret (encSt f581p4X1 w)) (fun w => K .normal (encSt f581p4X2 w)) (fun w => K .normal (encSt f581p4X3 w)) v)
theorem f581p4E (k : Nat) (R : Type) (K : X → St → Option R) (v : f581p4H.Den) : evS tab (f581T k).t Tryz.f81.ntmps [(4148454, f581p1S k), (259278, f581l3S k)] f581p4C 8102 (partK f581p4M K) (encSt f581p4H v) = f581p4 k (fun w => K .ret (encSt f581p4X0 w)) (fun w => K .ret (encSt f581p4X1 w)) (fun w => K .normal (encSt f581p4X2 w)) (fun w => K .normal (encSt f581p4X3 w)) v := by kernel_rfl
theorem f581p4I (k : Nat) : SumsOk P Tryz.f81.ntmps [(4148454, f581p1S k), (259278, f581l3S k)] f581p4C 8102 := ((SumsOk.nil).s (f581l3O k) (by kernel_rfl)).s (f581p1O k) (by kernel_rfl)
theorem f581p4O (k : Nat) : SumO P Tryz.f81 8102 (f581p4S k) := sum_part tm.1 (f581T k).ok tm.2 (f581p4I k) (f581p4E k)
noncomputable def f581p5H : Shape := ⟨[(0, .one (.ro Y8)), (6, .one (.ptr 0 0)), (7, oI), (20, .one (.ro Y8)), (21, oI), (22, oI)], [(0, .var 174 [.ptr 0 0, .own 1]), (1, .row 5 (.int .u8) .plain)], 2, []⟩
noncomputable def f581p5X0 : Shape := ⟨[(0, .one (.ro Y8)), (2, oS), (3, oI), (4, oI), (5, oI), (6, .one (.ptr 0 0)), (7, oI), (20, .one (.ro Y8)), (21, oI), (22, oI)], [(0, .var 174 [.ptr 0 0, .own 1]), (1, .row 5 (.int .u8) .plain)], 2, []⟩
noncomputable def f581p5X1 : Shape := ⟨[(0, .one (.ro Y8)), (6, .one (.ptr 0 0)), (7, oI), (20, .one (.ro Y8)), (21, oI), (22, oI)], [(0, .var 174 [.ptr 0 0, .own 1]), (1, .row 5 (.int .u8) .plain)], 2, []⟩
noncomputable def f581p5N : NoteR := ⟨[0, 6, 7, 20, 21, 22], [], []⟩
noncomputable def f581p5M : NoteR := ⟨[0, 2, 3, 4, 5, 6, 7, 20, 21, 22], [], []⟩
noncomputable def f581p5C : Code := firstC (codesAt 8102 (codeOf Tryz.f81) 1)
noncomputable def f581p5 {R : Type} (k : Nat) (k0 : D116 → Option R) (k1 : D117 → Option R) (v : D117) : Option R :=
 bif ((decide (0 ≤ v.2.2.2.2.1)) && (decide (v.2.2.2.2.1 < (v.2.2.1.length : Int)))) then
 Option.bind (f602F k (v.2.2.1.getD (Int.toNat v.2.2.2.2.1) (ByteArray.empty, [])).1) fun y30 =>
 bif (!y30) then
 k0 (v.1, ByteArray.empty, v.2.2.2.2.1, 0, 7, v.2.1, v.2.2.1, v.2.2.2.1, v.2.2.2.2.1, v.2.2.2.2.2.1, ())
 else
 bif (sliceBds 0 v.2.2.2.2.1 (v.1.length : Int)) then
 Option.bind (f619v0F k (((v.1.take (Int.toNat v.2.2.2.2.1)).drop 0), (v.2.2.1.getD (Int.toNat v.2.2.2.2.1) (ByteArray.empty, [])).1, (v.2.2.1.getD (Int.toNat v.2.2.2.2.1) (ByteArray.empty, [])).2, ())) fun y31 =>
 bif y31.1 then
 k0 (v.1, ByteArray.empty, v.2.2.2.2.1, 0, 13, v.2.1, v.2.2.1, v.2.2.2.1, v.2.2.2.2.1, v.2.2.2.2.2.1, ())
 else
 bif (decide ((y31.2.2.1.length : Int) > 60)) then
 k0 (v.1, ByteArray.empty, v.2.2.2.2.1, 0, 2, v.2.1, v.2.2.1, v.2.2.2.1, v.2.2.2.2.1, v.2.2.2.2.2.1, ())
 else
 bif ((y31.2.2.1.length : Int) == 0) then
 k0 (v.1, ByteArray.empty, v.2.2.2.2.1, 0, 1, v.2.1, v.2.2.1, v.2.2.2.1, v.2.2.2.2.1, v.2.2.2.2.2.1, ())
 else
 f581l2 k
 (fun (w32 : D116) =>
 k0 (w32.1, w32.2.1, w32.2.2.1, w32.2.2.2.1, w32.2.2.2.2.1, w32.2.2.2.2.2.1, w32.2.2.2.2.2.2.1, w32.2.2.2.2.2.2.2.1, w32.2.2.2.2.2.2.2.2.1, w32.2.2.2.2.2.2.2.2.2.1, ()))
 (fun (w33 : D117) =>
 k1 (w33.1, w33.2.1, w33.2.2.1, w33.2.2.2.1, w33.2.2.2.2.1, w33.2.2.2.2.2.1, ()))
 (v.1, v.2.1, v.2.2.2.2.1, v.2.2.1, v.2.2.2.1, v.2.2.2.2.1, y31.2.2.1, (y31.2.2.1.length : Int), 0, y31.2.1, y31.2.2.1, v.2.2.2.2.2.1, ())
 else none
 else none
noncomputable def f581p5S (k : Nat) : Sum1 := part2Sum f581p5H f581p5N (f581p4S k) (fun R K v => f581p5 k (fun w => K .ret (encSt f581p5X0 w)) (fun w => K .normal (encSt f581p5X1 w)) v)
theorem f581p5E (k : Nat) (R : Type) (K : X → St → Option R) (v : f581p5H.Den) : evS tab (f581T k).t Tryz.f81.ntmps [(4148454, f581p1S k), (259278, f581l3S k)] f581p5C 8102 (partK f581p5M K) (encSt f581p5H v) = f581p5 k (fun w => K .ret (encSt f581p5X0 w)) (fun w => K .normal (encSt f581p5X1 w)) v := by kernel_rfl
theorem f581p5I (k : Nat) : SumsOk P Tryz.f81.ntmps [(4148454, f581p1S k), (259278, f581l3S k)] f581p5C 8102 := ((SumsOk.nil).s (f581l3O k) (by kernel_rfl)).s (f581p1O k) (by kernel_rfl)
theorem f581p5O (k : Nat) : SumO P Tryz.f81 8102 (f581p5S k) := part2_ok tm.1 (f581T k).ok tm.2 (f581p5I k) (f581p4O k) (f581p5E k)
noncomputable def f581l6H : Shape := ⟨[(0, .one (.ro Y8)), (6, .one (.ptr 0 0)), (7, oI), (20, .one (.ro Y8)), (21, oI), (22, oI)], [(0, .var 174 [.ptr 0 0, .own 1]), (1, .row 5 (.int .u8) .plain)], 2, []⟩
noncomputable def f581l6X0 : Shape := ⟨[(2, oS), (3, oI), (4, oI), (5, oI), (6, .one (.ptr 0 0))], [(0, .var 174 [.ptr 0 0, .own 1]), (1, .row 5 (.int .u8) .plain)], 2, []⟩
noncomputable def f581l6X1 : Shape := ⟨[(6, .one (.ptr 0 0))], [(0, .var 174 [.ptr 0 0, .own 1]), (1, .row 5 (.int .u8) .plain)], 2, []⟩
noncomputable def f581l6N : NoteR := ⟨[0, 6, 7, 20, 21, 22], [], []⟩
noncomputable def f581l6M : NoteR := ⟨[2, 3, 4, 5, 6], [], []⟩
noncomputable def f581l6C : Code := firstC (codesAt 506 (codeOf Tryz.f81) 1)
noncomputable def f581l6s {R : Type} (k : Nat) (rec : D117 → Option R) (k0 : D120 → Option R) (k1 : List Int × Unit → Option R) (v : D117) : Option R :=
 bif (decide (v.2.2.2.2.1 < v.2.2.2.1)) then
 f581p5 k
 (fun (w34 : D116) =>
 k0 (w34.2.1, w34.2.2.1, w34.2.2.2.1, w34.2.2.2.2.1, w34.2.2.2.2.2.2.2.2.2.1, ()))
 (fun (w35 : D117) =>
 rec (w35.1, w35.2.1, w35.2.2.1, w35.2.2.2.1, (IntKind.i64.wrap (w35.2.2.2.2.1 + 1)), w35.2.2.2.2.2.1, ()))
 (v.1, v.2.1, v.2.2.1, v.2.2.2.1, v.2.2.2.2.1, v.2.2.2.2.2.1, ())
 else
 k1 (v.2.2.2.2.2.1, ())
noncomputable def f581l6 {R : Type} (k : Nat) (k0 : D120 → Option R) (k1 : List Int × Unit → Option R) (v : D117) : Option R := iterS (fun rec v => f581l6s k rec k0 k1 v) k v
noncomputable def f581l6S (k : Nat) : Sum1 := loopSum f581l6H f581l6N k (fun R rec K v => f581l6s k rec (fun w => K .ret (encSt f581l6X0 w)) (fun w => K (.exit 0) (encSt f581l6X1 w)) v)
theorem f581l6E (k : Nat) (R : Type) (rec : St → Option R) (K : X → St → Option R) (v : f581l6H.Den) : evS tab (f581T k).t Tryz.f81.ntmps [(4148454, f581p1S k), (259278, f581l3S k), (8102, f581p5S k)] (bodyOf f581l6C) 1012 (bodyK f581l6N f581l6M rec K) (encSt f581l6H v) = f581l6s k (fun v => rec (encSt f581l6H v)) (fun w => K .ret (encSt f581l6X0 w)) (fun w => K (.exit 0) (encSt f581l6X1 w)) v := by kernel_rfl
theorem f581l6I (k : Nat) : SumsOk P Tryz.f81.ntmps [(4148454, f581p1S k), (259278, f581l3S k), (8102, f581p5S k)] (bodyOf f581l6C) 1012 := (((SumsOk.nil).s (f581p5O k) (by kernel_rfl)).s (f581l3O k) (by kernel_rfl)).s (f581p1O k) (by kernel_rfl)
theorem f581l6O (k : Nat) : SumO P Tryz.f81 506 (f581l6S k) := (show SumOk P Tryz.f81.ntmps f581l6C (f581l6S k) from (show f581l6C = .loop (bodyOf f581l6C) by kernel_rfl) ▸ sum_loop tm.1 (f581T k).ok tm.2 (f581l6I k) (f581l6E k))
noncomputable def f581l7H : Shape := ⟨[(0, .one (.ro Y8)), (6, .one (.ptr 0 0)), (7, oI), (20, .one (.ro Y8)), (21, oI), (22, oI)], [(0, .var 174 [.nil .ptr, .emp])], 1, []⟩
noncomputable def f581l7X0 : Shape := ⟨[(2, oS), (3, oI), (4, oI), (5, oI), (6, .one (.ptr 0 0))], [(0, .var 174 [.nil .ptr, .emp])], 1, []⟩
noncomputable def f581l7X1 : Shape := ⟨[(2, oS), (3, oI), (4, oI), (5, oI), (6, .one (.ptr 0 0))], [(0, .var 174 [.ptr 0 0, .own 1]), (1, .row 5 (.int .u8) .plain)], 2, []⟩
noncomputable def f581l7X2 : Shape := ⟨[(6, .one (.ptr 0 0))], [(0, .var 174 [.ptr 0 0, .own 1]), (1, .row 5 (.int .u8) .plain)], 2, []⟩
noncomputable def f581l7X3 : Shape := ⟨[(6, .one (.ptr 0 0))], [(0, .var 174 [.nil .ptr, .emp])], 1, []⟩
noncomputable def f581l7N : NoteR := ⟨[0, 6, 7, 20, 21, 22], [], []⟩
noncomputable def f581l7M : NoteR := ⟨[2, 3, 4, 5, 6], [], []⟩
noncomputable def f581l7C : Code := firstC (codesAt 506 (codeOf Tryz.f81) 1)
noncomputable def f581l7s {R : Type} (k : Nat) (rec : D119 → Option R) (k0 : D51 → Option R) (k1 : D120 → Option R) (k2 : List Int × Unit → Option R) (k3 : Unit → Option R) (v : D119) : Option R :=
 bif (decide (v.2.2.2.2.1 < v.2.2.2.1)) then
 f581p4 k
 (fun (w27 : D118) =>
 k0 (w27.2.1, w27.2.2.1, w27.2.2.2.1, w27.2.2.2.2.1, ()))
 (fun (w28 : D116) =>
 k1 (w28.2.1, w28.2.2.1, w28.2.2.2.1, w28.2.2.2.2.1, w28.2.2.2.2.2.2.2.2.2.1, ()))
 (fun (w29 : D117) =>
 f581l6 k
 (fun (w36 : D120) =>
 k1 (w36.1, w36.2.1, w36.2.2.1, w36.2.2.2.1, w36.2.2.2.2.1, ()))
 (fun (w37 : List Int × Unit) =>
 k2 (w37.1, ()))
 (w29.1, w29.2.1, w29.2.2.1, w29.2.2.2.1, (IntKind.i64.wrap (w29.2.2.2.2.1 + 1)), w29.2.2.2.2.2.1, ()))
 (fun (w38 : D119) =>
 rec (w38.1, w38.2.1, w38.2.2.1, w38.2.2.2.1, (IntKind.i64.wrap (w38.2.2.2.2.1 + 1)), ()))
 (v.1, v.2.1, v.2.2.1, v.2.2.2.1, v.2.2.2.2.1, ())
 else
 k3 (())
noncomputable def f581l7 {R : Type} (k : Nat) (k0 : D51 → Option R) (k1 : D120 → Option R) (k2 : List Int × Unit → Option R) (k3 : Unit → Option R) (v : D119) : Option R := iterS (fun rec v => f581l7s k rec k0 k1 k2 k3 v) k v
theorem f581l6Rd (k : Nat) : SumRd P Tryz.f81.ntmps (bodyOf f581l6C) (f581l6S k) k := loop_rd tm.1 (f581T k).ok tm.2 (f581l6I k) (f581l6E k)
noncomputable def f581l7S (k : Nat) : Sum1 := loop2Sum f581l7H f581l7N (f581l6S k) k (fun R rec K v => f581l7s k rec (fun w => K .ret (encSt f581l7X0 w)) (fun w => K .ret (encSt f581l7X1 w)) (fun w => K (.exit 0) (encSt f581l7X2 w)) (fun w => K (.exit 0) (encSt f581l7X3 w)) v)
theorem f581l7E (k : Nat) (R : Type) (rec : f581l7H.Den → Option R) (K : X → St → Option R) (v : f581l7H.Den) : evS tab (f581T k).t Tryz.f81.ntmps [(4148454, f581p1S k), (259278, f581l3S k), (8102, f581p5S k)] (bodyOf f581l7C) 1012 (step2K f581l7H f581l7N f581l7M (f581l6S k) rec K) (encSt f581l7H v) = f581l7s k rec (fun w => K .ret (encSt f581l7X0 w)) (fun w => K .ret (encSt f581l7X1 w)) (fun w => K (.exit 0) (encSt f581l7X2 w)) (fun w => K (.exit 0) (encSt f581l7X3 w)) v := by kernel_rfl
theorem f581l7I (k : Nat) : SumsOk P Tryz.f81.ntmps [(4148454, f581p1S k), (259278, f581l3S k), (8102, f581p5S k)] (bodyOf f581l7C) 1012 := (((SumsOk.nil).s (f581p5O k) (by kernel_rfl)).s (f581l3O k) (by kernel_rfl)).s (f581p1O k) (by kernel_rfl)
theorem f581l7Rd (k : Nat) : SumRd P Tryz.f81.ntmps (bodyOf f581l7C) (f581l7S k) (k + (k)) := loop2_rd tm.1 (f581T k).ok tm.2 (f581l7I k) ((show bodyOf f581l6C = bodyOf f581l7C by kernel_rfl) ▸ f581l6Rd k) (f581l7E k)
theorem f581l7O (k : Nat) : SumO P Tryz.f81 506 (f581l7S k) := (show SumOk P Tryz.f81.ntmps f581l7C (f581l7S k) from (show f581l7C = .loop (bodyOf f581l7C) by kernel_rfl) ▸ (f581l7Rd k).ok)
noncomputable def f581p8 {R : Type} (k : Nat) (k0 : D51 → Option R) (k1 : D120 → Option R) (k2 : List Int × Unit → Option R) (k3 : Unit → Option R) (v : List D56 × Int × Unit) : Option R :=
 f581l7 k
 (fun (w39 : D51) =>
 k0 (w39.1, w39.2.1, w39.2.2.1, w39.2.2.2.1, ()))
 (fun (w40 : D120) =>
 k1 (w40.1, w40.2.1, w40.2.2.1, w40.2.2.2.1, w40.2.2.2.2.1, ()))
 (fun (w41 : List Int × Unit) =>
 k2 (w41.1, ()))
 (fun (w42 : Unit) =>
 k3 (()))
 (v.1, v.2.1, v.1, (v.1.length : Int), 0, ())
noncomputable def f581p8S (k : Nat) := partSum ⟨[(0, .one (.ro Y8)), (6, .one (.ptr 0 0)), (7, oI)], [(0, .var 174 [.nil .ptr, .emp])], 1, []⟩ ⟨[0, 6, 7], [], []⟩ fun R K v => f581p8 k (fun w => K .ret (encSt ⟨[(2, oS), (3, oI), (4, oI), (5, oI), (6, .one (.ptr 0 0))], [(0, .var 174 [.nil .ptr, .emp])], 1, []⟩ w)) (fun w => K .ret (encSt ⟨[(2, oS), (3, oI), (4, oI), (5, oI), (6, .one (.ptr 0 0))], [(0, .var 174 [.ptr 0 0, .own 1]), (1, .row 5 (.int .u8) .plain)], 2, []⟩ w)) (fun w => K .normal (encSt ⟨[(6, .one (.ptr 0 0))], [(0, .var 174 [.ptr 0 0, .own 1]), (1, .row 5 (.int .u8) .plain)], 2, []⟩ w)) (fun w => K .normal (encSt ⟨[(6, .one (.ptr 0 0))], [(0, .var 174 [.nil .ptr, .emp])], 1, []⟩ w)) v
theorem f581p8O (k : Nat) : SumO P Tryz.f81 126 (f581p8S k) := pt tm (f581T k) ⟨[0, 2, 3, 4, 5, 6, 7, 20, 21, 22], [], []⟩ (SumsOk.nil |>.s (f581l7O k) (by kernel_rfl) |>.s (f581p5O k) (by kernel_rfl) |>.s (f581l3O k) (by kernel_rfl) |>.s (f581p1O k) (by kernel_rfl)) fun _ _ _ => by kernel_rfl
noncomputable def f581F (k : Nat) (x : (List D56)) : Option (D122) :=
 bif ((x.length : Int) == 0) then
 some (ByteArray.empty, 0, 0, 1)
 else
 bif (decide ((x.length : Int) > 6)) then
 some (ByteArray.empty, 0, 0, 2)
 else
 f581p8 k
 (fun (w43 : D51) =>
 some (w43.1, w43.2.1, w43.2.2.1, w43.2.2.2.1))
 (fun (w44 : D120) =>
 some (w44.1, w44.2.1, w44.2.2.1, w44.2.2.2.1))
 (fun (w45 : List Int × Unit) =>
 bif (!(List.isEmpty w45.1) && (List.all w45.1 fun x => decide (0 ≤ x) && decide (x ≤ 255))) then
 some ((strOfNums w45.1), 0, 0, 0)
 else none)
 (fun (w46 : Unit) =>
 some (ByteArray.empty, 0, 0, 0))
 (x, 0, ())
theorem f581Ok (k : Nat) : FnV P 81 [.dat (.slice Y8)] [.dat .str, .dat (.int .i64), .dat (.int .i64), .dat (.int .i64)] (f581F k) :=
 fs tm (f581T k) Tryz.func81 (by kernel_rfl) (SumsOk.nil |>.s (f581p8O k) (by kernel_rfl) |>.s (f581l7O k) (by kernel_rfl) |>.s (f581p5O k) (by kernel_rfl) |>.s (f581l3O k) (by kernel_rfl) |>.s (f581p1O k) (by kernel_rfl)) none fun _ => by kernel_rfl
noncomputable def f536T (k : Nat) : TB P := TB.nil |>.u (f581Ok k)
noncomputable def f536F (k : Nat) (x : (List D56)) : Option (Int × Int × Int) :=
 Option.bind (f581F k x) fun y1 =>
 bif (y1.2.2.2 != 0) then
 some (y1.2.1, y1.2.2.1, y1.2.2.2)
 else
 some ((y1.1.size : Int), 0, 0)
theorem f536Ok (k : Nat) : FnV P 36 [.dat (.slice Y8)] [.dat (.int .i64), .dat (.int .i64), .dat (.int .i64)] (f536F k) :=
 fs tm (f536T k) Tryz.func36 (by kernel_rfl) SumsOk.nil none fun _ => by kernel_rfl
noncomputable def f513T (k : Nat) : TB P := TB.nil |>.u (f536Ok k) |>.p (f521Ok k)
noncomputable def f513F (k : Nat) (x : Unit) : Option (Bool) :=
 Option.bind (f521F k ([], [(⟨#[65]⟩ : ByteArray)], 1)) fun y1 =>
 bif (y1.2 != 0) then
 some false
 else
 bif ((y1.1.length : Int) != 1) then
 some false
 else
 bif (decide (0 < (y1.1.length : Int))) then
 bif (((y1.1.getD 0 (ByteArray.empty, [])).2.length : Int) != 1) then
 some false
 else
 bif (decide (0 < (y1.1.length : Int))) then
 bif (decide (0 < ((y1.1.getD 0 (ByteArray.empty, [])).2.length : Int))) then
 let t2 := (((y1.1.getD 0 (ByteArray.empty, [])).2.getD 0 ByteArray.empty).size : Int)
 bif (t2 != 64) then
 some false
 else
 Option.bind (f536F k y1.1) fun y3 =>
 bif (y3.2.2 == 0) then
 bif (y3.1 == 1) then
 bif (decide (0 < (y1.1.length : Int))) then
 bif (decide (0 < ((y1.1.getD 0 (ByteArray.empty, [])).2.length : Int))) then
 bif (sliceBds 0 4 (((y1.1.getD 0 (ByteArray.empty, [])).2.getD 0 ByteArray.empty).size : Int)) then
 let t4 := (((y1.1.getD 0 (ByteArray.empty, [])).2.getD 0 ByteArray.empty).extract 0 4)
 some (strEq t4 (⟨#[1, 0, 1, 129]⟩ : ByteArray))
 else none
 else none
 else none
 else
 some false
 else
 some false
 else none
 else none
 else none
theorem f513Ok (k : Nat) : FnV P 13 [] [.dat .bool] (f513F k) :=
 fs tm (f513T k) Tryz.func13 (by kernel_rfl) SumsOk.nil none fun _ => by kernel_rfl
noncomputable def f548F (k : Nat) (x : (ByteArray × (List D6))) : Option (Bool) :=
 some (decide ((x.2.length : Int) ≤ 22))
theorem f548Ok (k : Nat) : FnV P 48 [.agg Y2] [.dat .bool] (f548F k) :=
 fs tm TB.nil Tryz.func48 (by kernel_rfl) SumsOk.nil none fun _ => by kernel_rfl
noncomputable def f514T (k : Nat) : TB P := TB.nil |>.u (f548Ok k)
noncomputable def f514l0s {R : Type} (k : Nat) (rec : D124 → Option R) (k0 : D123 → Option R) (k1 : List D34 × Int × Unit → Option R) (v : D124) : Option R :=
 bif ((decide (0 ≤ v.2.1)) && (decide (v.2.1 < (v.1.length : Int)))) then
 let t5 := (v.1.getD (Int.toNat v.2.1) ((ByteArray.empty, ((ByteArray.empty, []), ([], false))), []))
 bif (decide (v.2.2.1 < (t5.2.length : Int))) then
 bif ((decide (0 ≤ v.2.1)) && (decide (v.2.1 < (v.1.length : Int)))) then
 let t6 := (v.1.getD (Int.toNat v.2.1) ((ByteArray.empty, ((ByteArray.empty, []), ([], false))), []))
 bif ((decide (0 ≤ v.2.2.1)) && (decide (v.2.2.1 < (t6.2.length : Int)))) then
 let t7 := ((t6.2.getD (Int.toNat v.2.2.1) (false, ByteArray.empty)).2.size : Int)
 bif (decide (t7 > 220)) then
 k0 (v.1, false, v.2.1, ())
 else
 rec (v.1, v.2.1, (IntKind.i64.wrap (v.2.2.1 + 1)), ())
 else none
 else none
 else
 k1 (v.1, v.2.1, ())
 else none
noncomputable def f514l0 {R : Type} (k : Nat) (k0 : D123 → Option R) (k1 : List D34 × Int × Unit → Option R) (v : D124) : Option R := iterS (fun rec v => f514l0s k rec k0 k1 v) k v
noncomputable def f514l0S (k : Nat) := loopSum ⟨[(0, .one (.ro Y6)), (3, oI), (4, oI)], [], 0, []⟩ ⟨[0, 3, 4], [], []⟩ k fun R rec K v => f514l0s k rec (fun w => K .ret (encSt ⟨[(0, .one (.ro Y6)), (2, oB), (3, oI)], [], 0, []⟩ w)) (fun w => K (.exit 2) (encSt ⟨[(0, .one (.ro Y6)), (3, oI)], [], 0, []⟩ w)) v
theorem f514l0O (k : Nat) : SumO P Tryz.f14 7462 (f514l0S k) := lp tm (f514T k) ⟨[0, 2, 3], [], []⟩ SumsOk.nil (by kernel_rfl) fun _ _ _ _ => by kernel_rfl
noncomputable def f514l1s {R : Type} (k : Nat) (rec : List D34 × Int × Unit → Option R) (k0 : Bool × Unit → Option R) (k1 : Unit → Option R) (v : List D34 × Int × Unit) : Option R :=
 bif (decide (v.2.1 < (v.1.length : Int))) then
 bif ((decide (0 ≤ v.2.1)) && (decide (v.2.1 < (v.1.length : Int)))) then
 let t1 := (v.1.getD (Int.toNat v.2.1) ((ByteArray.empty, ((ByteArray.empty, []), ([], false))), []))
 Option.bind (f548F k (t1.1.2.1.1, t1.1.2.1.2)) fun y2 =>
 bif (!y2) then
 k0 (false, ())
 else
 bif ((decide (0 ≤ v.2.1)) && (decide (v.2.1 < (v.1.length : Int)))) then
 let t3 := (v.1.getD (Int.toNat v.2.1) ((ByteArray.empty, ((ByteArray.empty, []), ([], false))), []))
 bif (decide ((t3.1.2.2.1.length : Int) > 6)) then
 k0 (false, ())
 else
 bif ((decide (0 ≤ v.2.1)) && (decide (v.2.1 < (v.1.length : Int)))) then
 let t4 := (v.1.getD (Int.toNat v.2.1) ((ByteArray.empty, ((ByteArray.empty, []), ([], false))), []))
 bif (decide ((t4.2.length : Int) > 62)) then
 k0 (false, ())
 else
 f514l0 k
 (fun (w8 : D123) =>
 k0 (w8.2.1, ()))
 (fun (w9 : List D34 × Int × Unit) =>
 rec (w9.1, (IntKind.i64.wrap (w9.2.1 + 1)), ()))
 (v.1, v.2.1, 0, ())
 else none
 else none
 else none
 else
 k1 (())
noncomputable def f514l1 {R : Type} (k : Nat) (k0 : Bool × Unit → Option R) (k1 : Unit → Option R) (v : List D34 × Int × Unit) : Option R := iterS (fun rec v => f514l1s k rec k0 k1 v) k v
noncomputable def f514l1S (k : Nat) := loopSum ⟨[(0, .one (.ro Y6)), (3, oI)], [], 0, []⟩ ⟨[0, 3], [], []⟩ k fun R rec K v => f514l1s k rec (fun w => K .ret (encSt ⟨[(2, oB)], [], 0, []⟩ w)) (fun w => K (.exit 0) (encSt ⟨[], [], 0, []⟩ w)) v
theorem f514l1O (k : Nat) : SumO P Tryz.f14 58 (f514l1S k) := lp tm (f514T k) ⟨[2], [], []⟩ (SumsOk.nil |>.s (f514l0O k) (by kernel_rfl)) (by kernel_rfl) fun _ _ _ _ => by kernel_rfl
noncomputable def f514F (k : Nat) (x : (List D34)) : Option (Bool) :=
 bif (decide ((x.length : Int) > 10)) then
 some false
 else
 f514l1 k
 (fun (w10 : Bool × Unit) =>
 some w10.1)
 (fun (w11 : Unit) =>
 some true)
 (x, 0, ())
theorem f514Ok (k : Nat) : FnV P 14 [.dat (.slice Y6)] [.dat .bool] (f514F k) :=
 fs tm (f514T k) Tryz.func14 (by kernel_rfl) (SumsOk.nil |>.s (f514l1O k) (by kernel_rfl) |>.s (f514l0O k) (by kernel_rfl)) none fun _ => by kernel_rfl
noncomputable def f571F (k : Nat) (x : (ByteArray × (List D6))) : Option ((ByteArray × (List D6))) :=
 bif (decide ((([] : List D6).length + x.2.length) * 40 ≤ 140737488355328) && decide (([] : List D6).length + x.2.length ≤ 9223372036854775807)) then
 some (x.1, ([] ++ x.2))
 else none
theorem f571Ok (k : Nat) : FnV P 71 [.agg Y2] [.agg Y2] (f571F k) :=
 fs tm TB.nil Tryz.func71 (by kernel_rfl) SumsOk.nil none fun _ => by kernel_rfl
noncomputable def f526T (k : Nat) : TB P := TB.nil |>.p (f571Ok k)
noncomputable def f526F (k : Nat) (x : (ByteArray × D12)) : Option ((ByteArray × D12)) :=
 Option.bind (f571F k (x.2.1.1, x.2.1.2)) fun y1 =>
 bif (decide ((([] : List (ByteArray × Bool)).length + x.2.2.1.length) * 24 ≤ 140737488355328) && decide (([] : List (ByteArray × Bool)).length + x.2.2.1.length ≤ 9223372036854775807)) then
 some (x.1, ((y1.1, y1.2), (([] ++ x.2.2.1), x.2.2.2)))
 else none
theorem f526Ok (k : Nat) : FnV P 26 [.agg Y4] [.agg Y4] (f526F k) :=
 fs tm (f526T k) Tryz.func26 (by kernel_rfl) SumsOk.nil none fun _ => by kernel_rfl
noncomputable def f551T (k : Nat) : TB P := TB.nil |>.p (f526Ok k)
noncomputable def f551F (k : Nat) (x : D34) : Option (D34) :=
 Option.bind (f526F k (x.1.1, ((x.1.2.1.1, x.1.2.1.2), (x.1.2.2.1, x.1.2.2.2)))) fun y1 =>
 bif (decide ((([] : List (Bool × ByteArray)).length + x.2.length) * 24 ≤ 140737488355328) && decide (([] : List (Bool × ByteArray)).length + x.2.length ≤ 9223372036854775807)) then
 some ((y1.1, ((y1.2.1.1, y1.2.1.2), (y1.2.2.1, y1.2.2.2))), ([] ++ x.2))
 else none
theorem f551Ok (k : Nat) : FnV P 51 [.agg Y6] [.agg Y6] (f551F k) :=
 fs tm (f551T k) Tryz.func51 (by kernel_rfl) SumsOk.nil none fun _ => by kernel_rfl
noncomputable def f516T (k : Nat) : TB P := TB.nil |>.p (f551Ok k)
noncomputable def f516l0s {R : Type} (k : Nat) (rec : D125 → Option R) (k0 : List D34 × Unit → Option R) (v : D125) : Option R :=
 bif (decide (v.2.1 < (v.1.length : Int))) then
 bif ((decide (0 ≤ v.2.1)) && (decide (v.2.1 < (v.1.length : Int)))) then
 let t1 := (v.1.getD (Int.toNat v.2.1) ((ByteArray.empty, ((ByteArray.empty, []), ([], false))), []))
 Option.bind (f551F k ((t1.1.1, ((t1.1.2.1.1, t1.1.2.1.2), (t1.1.2.2.1, t1.1.2.2.2))), t1.2)) fun y2 =>
 let t3 := [((y2.1.1, ((y2.1.2.1.1, y2.1.2.1.2), (y2.1.2.2.1, y2.1.2.2.2))), y2.2)]
 bif (decide ((v.2.2.1.length + t3.length) * 112 ≤ 140737488355328) && decide (v.2.2.1.length + t3.length ≤ 9223372036854775807)) then
 rec (v.1, (IntKind.i64.wrap (v.2.1 + 1)), (v.2.2.1 ++ t3), ())
 else none
 else none
 else
 k0 (v.2.2.1, ())
noncomputable def f516l0 {R : Type} (k : Nat) (k0 : List D34 × Unit → Option R) (v : D125) : Option R := iterS (fun rec v => f516l0s k rec k0 v) k v
noncomputable def f516l0S (k : Nat) := loopSum ⟨[(0, .one (.ro Y6)), (3, .one (.own 0)), (4, oI)], [(0, .row 52 Y6 .plain)], 1, []⟩ ⟨[0, 3, 4], [(3, 52, Y6)], []⟩ k fun R rec K v => f516l0s k rec (fun w => K (.exit 0) (encSt ⟨[(3, .one (.own 0))], [(0, .row 52 Y6 .plain)], 1, []⟩ w)) v
theorem f516l0O (k : Nat) : SumO P Tryz.f16 58 (f516l0S k) := lp tm (f516T k) ⟨[2, 3], [], []⟩ SumsOk.nil (by kernel_rfl) fun _ _ _ _ => by kernel_rfl
noncomputable def f516F (k : Nat) (x : (List D34)) : Option (List D34) :=
 f516l0 k
 (fun (w4 : List D34 × Unit) =>
 some w4.1)
 (x, 0, [], ())
theorem f516Ok (k : Nat) : FnV P 16 [.dat (.slice Y6)] [.own 52 Y6] (f516F k) :=
 fs tm (f516T k) Tryz.func16 (by kernel_rfl) (SumsOk.nil |>.s (f516l0O k) (by kernel_rfl)) none fun _ => by kernel_rfl
noncomputable def f535l0s {R : Type} (k : Nat) (rec : D94 → Option R) (k0 : D126 → Option R) (k1 : List D56 × Int × Unit → Option R) (v : D94) : Option R :=
 bif ((decide (0 ≤ v.2.1)) && (decide (v.2.1 < (v.1.length : Int)))) then
 let t2 := (decide (v.2.2.1 < ((v.1.getD (Int.toNat v.2.1) (ByteArray.empty, [])).2.length : Int)))
 bif t2 then
 bif ((decide (0 ≤ v.2.1)) && (decide (v.2.1 < (v.1.length : Int)))) then
 bif ((decide (0 ≤ v.2.2.1)) && (decide (v.2.2.1 < ((v.1.getD (Int.toNat v.2.1) (ByteArray.empty, [])).2.length : Int)))) then
 let t3 := ((v.1.getD (Int.toNat v.2.1) (ByteArray.empty, [])).2.getD (Int.toNat v.2.2.1) ByteArray.empty)
 bif (decide ((t3.size : Int) > 84)) then
 k0 (v.1, false, v.2.1, ())
 else
 rec (v.1, v.2.1, (IntKind.i64.wrap (v.2.2.1 + 1)), ())
 else none
 else none
 else
 k1 (v.1, v.2.1, ())
 else none
noncomputable def f535l0 {R : Type} (k : Nat) (k0 : D126 → Option R) (k1 : List D56 × Int × Unit → Option R) (v : D94) : Option R := iterS (fun rec v => f535l0s k rec k0 k1 v) k v
noncomputable def f535l0S (k : Nat) := loopSum ⟨[(0, .one (.ro Y8)), (3, oI), (4, oI)], [], 0, []⟩ ⟨[0, 3, 4], [], []⟩ k fun R rec K v => f535l0s k rec (fun w => K .ret (encSt ⟨[(0, .one (.ro Y8)), (2, oB), (3, oI)], [], 0, []⟩ w)) (fun w => K (.exit 2) (encSt ⟨[(0, .one (.ro Y8)), (3, oI)], [], 0, []⟩ w)) v
theorem f535l0O (k : Nat) : SumO P Tryz.f35 7462 (f535l0S k) := lp tm TB.nil ⟨[0, 2, 3], [], []⟩ SumsOk.nil (by kernel_rfl) fun _ _ _ _ => by kernel_rfl
noncomputable def f535l1s {R : Type} (k : Nat) (rec : List D56 × Int × Unit → Option R) (k0 : Bool × Unit → Option R) (k1 : Unit → Option R) (v : List D56 × Int × Unit) : Option R :=
 bif (decide (v.2.1 < (v.1.length : Int))) then
 bif ((decide (0 ≤ v.2.1)) && (decide (v.2.1 < (v.1.length : Int)))) then
 let t1 := (decide (((v.1.getD (Int.toNat v.2.1) (ByteArray.empty, [])).2.length : Int) > 62))
 bif t1 then
 k0 (false, ())
 else
 f535l0 k
 (fun (w4 : D126) =>
 k0 (w4.2.1, ()))
 (fun (w5 : List D56 × Int × Unit) =>
 rec (w5.1, (IntKind.i64.wrap (w5.2.1 + 1)), ()))
 (v.1, v.2.1, 0, ())
 else none
 else
 k1 (())
noncomputable def f535l1 {R : Type} (k : Nat) (k0 : Bool × Unit → Option R) (k1 : Unit → Option R) (v : List D56 × Int × Unit) : Option R := iterS (fun rec v => f535l1s k rec k0 k1 v) k v
noncomputable def f535l1S (k : Nat) := loopSum ⟨[(0, .one (.ro Y8)), (3, oI)], [], 0, []⟩ ⟨[0, 3], [], []⟩ k fun R rec K v => f535l1s k rec (fun w => K .ret (encSt ⟨[(2, oB)], [], 0, []⟩ w)) (fun w => K (.exit 0) (encSt ⟨[], [], 0, []⟩ w)) v
theorem f535l1O (k : Nat) : SumO P Tryz.f35 58 (f535l1S k) := lp tm TB.nil ⟨[2], [], []⟩ (SumsOk.nil |>.s (f535l0O k) (by kernel_rfl)) (by kernel_rfl) fun _ _ _ _ => by kernel_rfl
noncomputable def f535F (k : Nat) (x : (List D56)) : Option (Bool) :=
 bif (decide ((x.length : Int) > 8)) then
 some false
 else
 f535l1 k
 (fun (w6 : Bool × Unit) =>
 some w6.1)
 (fun (w7 : Unit) =>
 some true)
 (x, 0, ())
theorem f535Ok (k : Nat) : FnV P 35 [.dat (.slice Y8)] [.dat .bool] (f535F k) :=
 fs tm TB.nil Tryz.func35 (by kernel_rfl) (SumsOk.nil |>.s (f535l1O k) (by kernel_rfl) |>.s (f535l0O k) (by kernel_rfl)) none fun _ => by kernel_rfl
theorem f643V (k : Nat) : FnV P 143 [.dat .str, .dat .str] [.dat .str] (f643F k) := ⟨f643B, f643Ok k⟩
theorem f644V (k : Nat) : FnV P 144 [.dat .str, .dat .str] [.dat .bool] (f644F k) := ⟨f644B, f644Ok k⟩
noncomputable def f613T (k : Nat) : TB P := TB.nil |>.u (f645Ok k) |>.u (f607Ok k)
noncomputable def f613F (k : Nat) (x : (ByteArray × (List D6))) : Option (Int × Int) :=
 Option.bind (f607F k (x.1, x.2)) fun y1 =>
 bif (y1 != 0) then
 some (0, y1)
 else
 Option.bind (f645F k (x.1, x.2)) fun y2 =>
 some (y2, 0)
theorem f613Ok (k : Nat) : FnV P 113 [.agg Y2] [.dat (.int .i64), .dat (.int .i64)] (f613F k) :=
 fs tm (f613T k) Tryz.func113 (by kernel_rfl) SumsOk.nil none fun _ => by kernel_rfl
noncomputable def f578v0I : Shape := ⟨[(0, .one (.ptr 0 0)), (1, oI)], [(0, .var 128 [.str, .int .i64])], 1, []⟩
noncomputable def f578v0U : Shape := ⟨[], [(0, .var 128 [.str, .int .i64])], 1, []⟩
noncomputable def f578v0F (k : Nat) (x : D127) : Option (ByteArray × Int × Unit) :=
 bif (x.2.2.1 == 0) then
 some (x.2.1, x.1, ())
 else
 some (x.2.1, x.2.2.1, ())
theorem f578v0Ok (k : Nat) : GnV P 78 f578v0I f578v0U (f578v0F k) :=
 gs tm TB.nil Tryz.func78 (by kernel_rfl) SumsOk.nil [] [] none fun _ => by kernel_rfl
noncomputable def f610v0I : Shape := ⟨[(0, .one (.ptr 0 0)), (1, oI)], [(0, .var 128 [.str, .int .i64])], 1, []⟩
noncomputable def f610v0U : Shape := ⟨[(0, oS)], [(0, .var 128 [.str, .int .i64])], 1, []⟩
noncomputable def f610v0T (k : Nat) : TB P := TB.nil |>.g (f578v0Ok k)
noncomputable def f610v0F (k : Nat) (x : D127) : Option (D128) :=
 bif (x.2.2.1 != 0) then
 some (ByteArray.empty, x.2.1, x.2.2.1, ())
 else
 bif (decide (x.1 > (x.2.1.size : Int))) then
 Option.bind (f578v0F k (9, x.2.1, x.2.2.1, ())) fun y1 =>
 some (ByteArray.empty, y1.1, y1.2.1, ())
 else
 bif (sliceBds 0 x.1 (x.2.1.size : Int)) then
 bif (sliceBds x.1 (x.2.1.size : Int) (x.2.1.size : Int)) then
 some ((x.2.1.extract 0 (Int.toNat x.1)), (x.2.1.extract (Int.toNat x.1) (Int.toNat (x.2.1.size : Int))), x.2.2.1, ())
 else none
 else none
theorem f610v0Ok (k : Nat) : GnV P 110 f610v0I f610v0U (f610v0F k) :=
 gs tm (f610v0T k) Tryz.func110 (by kernel_rfl) SumsOk.nil [.dat .bool] [] none fun _ => by kernel_rfl
noncomputable def f576v0I : Shape := ⟨[(0, .one (.ptr 0 0)), (1, oI)], [(0, .var 128 [.str, .int .i64])], 1, []⟩
noncomputable def f576v0U : Shape := ⟨[(0, oI)], [(0, .var 128 [.str, .int .i64])], 1, []⟩
noncomputable def f576v0T (k : Nat) : TB P := TB.nil |>.g (f610v0Ok k) |>.g (f578v0Ok k)
noncomputable def f576v0F (k : Nat) (x : D127) : Option (D127) :=
 Option.bind (f610v0F k (1, x.2.1, x.2.2.1, ())) fun y1 =>
 bif (strEq y1.1 ByteArray.empty) then
 some (0, y1.2.1, y1.2.2.1, ())
 else
 bif (decide (0 < (y1.1.size : Int))) then
 bif (decide ((IntKind.i64.wrap (bt y1.1 0)) > x.1)) then
 Option.bind (f578v0F k (5, y1.2.1, y1.2.2.1, ())) fun y2 =>
 some (0, y2.1, y2.2.1, ())
 else
 bif (decide (0 < (y1.1.size : Int))) then
 some ((IntKind.i64.wrap (bt y1.1 0)), y1.2.1, y1.2.2.1, ())
 else none
 else none
theorem f576v0Ok (k : Nat) : GnV P 76 f576v0I f576v0U (f576v0F k) :=
 gs tm (f576v0T k) Tryz.func76 (by kernel_rfl) SumsOk.nil [.dat .bool] [] none fun _ => by kernel_rfl
noncomputable def f611v0I : Shape := ⟨[(0, .one (.ptr 0 0))], [(0, .var 128 [.str, .int .i64])], 1, []⟩
noncomputable def f611v0U : Shape := ⟨[(0, oS)], [(0, .var 128 [.str, .int .i64])], 1, []⟩
noncomputable def f611v0T (k : Nat) : TB P := TB.nil |>.u (f644V k) |>.u (f643V k) |>.g (f610v0Ok k) |>.g (f578v0Ok k)
noncomputable def f611v0p0 {R : Type} (k : Nat) (k0 : D128 → Option R) (v : D128) : Option R :=
 Option.bind (f644F k (v.1, (⟨#[32]⟩ : ByteArray))) fun y3 =>
 bif y3 then
 Option.bind (f578v0F k (5, v.2.1, v.2.2.1, ())) fun y4 =>
 k0 (v.1, y4.1, y4.2.1, ())
 else
 k0 (v.1, v.2.1, v.2.2.1, ())
noncomputable def f611v0p0S (k : Nat) := partSum ⟨[(0, .one (.ptr 0 0)), (3, oS)], [(0, .var 128 [.str, .int .i64])], 1, [some 0]⟩ ⟨[0, 3], [], []⟩ fun R K v => f611v0p0 k (fun w => K .normal (encSt ⟨[(3, oS)], [(0, .var 128 [.str, .int .i64])], 1, [some 0]⟩ w)) v
theorem f611v0p0O (k : Nat) : SumO P Tryz.f111 14 (f611v0p0S k) := pt tm (f611v0T k) ⟨[2, 3], [], []⟩ SumsOk.nil fun _ _ _ => by kernel_rfl
noncomputable def f611v0F (k : Nat) (x : ByteArray × Int × Unit) : Option (D128) :=
 Option.bind (f610v0F k (10, x.1, x.2.1, ())) fun y1 =>
 Option.bind (f643F k (y1.1, (⟨#[32]⟩ : ByteArray))) fun y2 =>
 f611v0p0 k
 (fun (w5 : D128) =>
 some (w5.1, w5.2.1, w5.2.2.1, ()))
 (y2, y1.2.1, y1.2.2.1, ())
theorem f611v0Ok (k : Nat) : GnV P 111 f611v0I f611v0U (f611v0F k) :=
 gs tm (f611v0T k) Tryz.func111 (by kernel_rfl) (SumsOk.nil |>.s (f611v0p0O k) (by kernel_rfl)) [.dat .bool] [] none fun _ => by kernel_rfl
noncomputable def f612v0I : Shape := ⟨[(0, .one (.ptr 0 0))], [(0, .var 128 [.str, .int .i64])], 1, []⟩
noncomputable def f612v0U : Shape := ⟨[(0, oB)], [(0, .var 128 [.str, .int .i64])], 1, []⟩
noncomputable def f612v0T (k : Nat) : TB P := TB.nil |>.g (f576v0Ok k)
noncomputable def f612v0F (k : Nat) (x : ByteArray × Int × Unit) : Option (D130) :=
 Option.bind (f576v0F k (1, x.1, x.2.1, ())) fun y1 =>
 some ((y1.1 == 1), y1.2.1, y1.2.2.1, ())
theorem f612v0Ok (k : Nat) : GnV P 112 f612v0I f612v0U (f612v0F k) :=
 gs tm (f612v0T k) Tryz.func112 (by kernel_rfl) SumsOk.nil [.dat .bool] [] none fun _ => by kernel_rfl
noncomputable def f577v0I : Shape := ⟨[(0, .one (.ptr 0 0))], [(0, .var 128 [.str, .int .i64])], 1, []⟩
noncomputable def f577v0U : Shape := ⟨[(0, .agg [.str, .str, .ro Y1, .ro (.pair .str .bool), .bool, .ro (.pair .bool .str)])], [(0, .var 128 [.str, .int .i64])], 1, []⟩
noncomputable def f577v0T (k : Nat) : TB P := TB.nil |>.u (f613Ok k) |>.g (f612v0Ok k) |>.g (f611v0Ok k) |>.g (f610v0Ok k) |>.g (f578v0Ok k) |>.g (f576v0Ok k) |>.u (f569Ok k)
noncomputable def f577v0l0s {R : Type} (k : Nat) (rec : D132 → Option R) (k0 : D129 → Option R) (v : D132) : Option R :=
 bif (decide (v.1 > 0)) then
 bif (v.2.2.1 == 0) then
 Option.bind (f611v0F k (v.2.1, v.2.2.1, ())) fun y4 =>
 Option.bind (f576v0F k (255, y4.2.1, y4.2.2.1, ())) fun y5 =>
 Option.bind (f576v0F k (255, y5.2.1, y5.2.2.1, ())) fun y6 =>
 Option.bind (f576v0F k (255, y6.2.1, y6.2.2.1, ())) fun y7 =>
 bif (decide ((v.2.2.2.2.2.2.2.2.2.2.2.2.1.length + [(y4.1, (y5.1, (y6.1, y7.1)))].length) * 40 ≤ 140737488355328) && decide (v.2.2.2.2.2.2.2.2.2.2.2.2.1.length + [(y4.1, (y5.1, (y6.1, y7.1)))].length ≤ 9223372036854775807)) then
 rec ((IntKind.i64.wrap (v.1 - 1)), y7.2.1, y7.2.2.1, v.2.2.2.1, v.2.2.2.2.1, v.2.2.2.2.2.1, v.2.2.2.2.2.2.1, v.2.2.2.2.2.2.2.1, v.2.2.2.2.2.2.2.2.1, v.2.2.2.2.2.2.2.2.2.1, v.2.2.2.2.2.2.2.2.2.2.1, v.2.2.2.2.2.2.2.2.2.2.2.1, (v.2.2.2.2.2.2.2.2.2.2.2.2.1 ++ [(y4.1, (y5.1, (y6.1, y7.1)))]), v.2.2.2.2.2.2.2.2.2.2.2.2.2.1, v.2.2.2.2.2.2.2.2.2.2.2.2.2.2.1, ())
 else none
 else
 k0 (v.2.1, v.2.2.1, v.2.2.2.1, v.2.2.2.2.1, v.2.2.2.2.2.1, v.2.2.2.2.2.2.1, v.2.2.2.2.2.2.2.1, v.2.2.2.2.2.2.2.2.1, v.2.2.2.2.2.2.2.2.2.1, v.2.2.2.2.2.2.2.2.2.2.1, v.2.2.2.2.2.2.2.2.2.2.2.1, v.2.2.2.2.2.2.2.2.2.2.2.2.1, v.2.2.2.2.2.2.2.2.2.2.2.2.2.1, v.2.2.2.2.2.2.2.2.2.2.2.2.2.2.1, ())
 else
 k0 (v.2.1, v.2.2.1, v.2.2.2.1, v.2.2.2.2.1, v.2.2.2.2.2.1, v.2.2.2.2.2.2.1, v.2.2.2.2.2.2.2.1, v.2.2.2.2.2.2.2.2.1, v.2.2.2.2.2.2.2.2.2.1, v.2.2.2.2.2.2.2.2.2.2.1, v.2.2.2.2.2.2.2.2.2.2.2.1, v.2.2.2.2.2.2.2.2.2.2.2.2.1, v.2.2.2.2.2.2.2.2.2.2.2.2.2.1, v.2.2.2.2.2.2.2.2.2.2.2.2.2.2.1, ())
noncomputable def f577v0l0 {R : Type} (k : Nat) (k0 : D129 → Option R) (v : D132) : Option R := iterS (fun rec v => f577v0l0s k rec k0 v) k v
noncomputable def f577v0l0S (k : Nat) := loopSum ⟨[(0, .one (.ptr 0 0)), (2, .one (.ptr 1 0)), (3, .one (.ptr 2 0)), (4, oI)], [(0, .var 128 [.str, .int .i64]), (1, .var 52 [.str, .str, .own 3, .own 4, .bool, .own 5]), (2, .var 52 [.str, .str, .own 6, .own 7, .bool, .own 8]), (3, .row 156 Y1 .plain), (4, .row 158 (.pair .str .bool) .plain), (5, .row 100 (.pair .bool .str) .plain), (6, .row 156 Y1 .plain), (7, .row 158 (.pair .str .bool) .plain), (8, .row 100 (.pair .bool .str) .plain)], 9, [some 0]⟩ ⟨[0, 2, 3, 4], [], []⟩ k fun R rec K v => f577v0l0s k rec (fun w => K (.exit 0) (encSt ⟨[(0, .one (.ptr 0 0)), (2, .one (.ptr 1 0)), (3, .one (.ptr 2 0))], [(0, .var 128 [.str, .int .i64]), (1, .var 52 [.str, .str, .own 3, .own 4, .bool, .own 5]), (2, .var 52 [.str, .str, .own 6, .own 7, .bool, .own 8]), (3, .row 156 Y1 .plain), (4, .row 158 (.pair .str .bool) .plain), (5, .row 100 (.pair .bool .str) .plain), (6, .row 156 Y1 .plain), (7, .row 158 (.pair .str .bool) .plain), (8, .row 100 (.pair .bool .str) .plain)], 9, [some 0]⟩ w)) v
theorem f577v0l0O (k : Nat) : SumO P Tryz.f77 250 (f577v0l0S k) := lp tm (f577v0T k) ⟨[0, 2, 3], [], []⟩ SumsOk.nil (by kernel_rfl) fun _ _ _ _ => by kernel_rfl
noncomputable def f577v0l1s {R : Type} (k : Nat) (rec : D132 → Option R) (k0 : D129 → Option R) (v : D132) : Option R :=
 bif (decide (v.1 > 0)) then
 bif (v.2.2.1 == 0) then
 Option.bind (f611v0F k (v.2.1, v.2.2.1, ())) fun y10 =>
 Option.bind (f612v0F k (y10.2.1, y10.2.2.1, ())) fun y11 =>
 bif (decide ((v.2.2.2.2.2.2.2.2.2.2.2.2.2.1.length + [(y10.1, y11.1)].length) * 24 ≤ 140737488355328) && decide (v.2.2.2.2.2.2.2.2.2.2.2.2.2.1.length + [(y10.1, y11.1)].length ≤ 9223372036854775807)) then
 rec ((IntKind.i64.wrap (v.1 - 1)), y11.2.1, y11.2.2.1, v.2.2.2.1, v.2.2.2.2.1, v.2.2.2.2.2.1, v.2.2.2.2.2.2.1, v.2.2.2.2.2.2.2.1, v.2.2.2.2.2.2.2.2.1, v.2.2.2.2.2.2.2.2.2.1, v.2.2.2.2.2.2.2.2.2.2.1, v.2.2.2.2.2.2.2.2.2.2.2.1, v.2.2.2.2.2.2.2.2.2.2.2.2.1, (v.2.2.2.2.2.2.2.2.2.2.2.2.2.1 ++ [(y10.1, y11.1)]), v.2.2.2.2.2.2.2.2.2.2.2.2.2.2.1, ())
 else none
 else
 k0 (v.2.1, v.2.2.1, v.2.2.2.1, v.2.2.2.2.1, v.2.2.2.2.2.1, v.2.2.2.2.2.2.1, v.2.2.2.2.2.2.2.1, v.2.2.2.2.2.2.2.2.1, v.2.2.2.2.2.2.2.2.2.1, v.2.2.2.2.2.2.2.2.2.2.1, v.2.2.2.2.2.2.2.2.2.2.2.1, v.2.2.2.2.2.2.2.2.2.2.2.2.1, v.2.2.2.2.2.2.2.2.2.2.2.2.2.1, v.2.2.2.2.2.2.2.2.2.2.2.2.2.2.1, ())
 else
 k0 (v.2.1, v.2.2.1, v.2.2.2.1, v.2.2.2.2.1, v.2.2.2.2.2.1, v.2.2.2.2.2.2.1, v.2.2.2.2.2.2.2.1, v.2.2.2.2.2.2.2.2.1, v.2.2.2.2.2.2.2.2.2.1, v.2.2.2.2.2.2.2.2.2.2.1, v.2.2.2.2.2.2.2.2.2.2.2.1, v.2.2.2.2.2.2.2.2.2.2.2.2.1, v.2.2.2.2.2.2.2.2.2.2.2.2.2.1, v.2.2.2.2.2.2.2.2.2.2.2.2.2.2.1, ())
noncomputable def f577v0l1 {R : Type} (k : Nat) (k0 : D129 → Option R) (v : D132) : Option R := iterS (fun rec v => f577v0l1s k rec k0 v) k v
noncomputable def f577v0l1S (k : Nat) := loopSum ⟨[(0, .one (.ptr 0 0)), (2, .one (.ptr 1 0)), (3, .one (.ptr 2 0)), (6, oI)], [(0, .var 128 [.str, .int .i64]), (1, .var 52 [.str, .str, .own 3, .own 4, .bool, .own 5]), (2, .var 52 [.str, .str, .own 6, .own 7, .bool, .own 8]), (3, .row 156 Y1 .plain), (4, .row 158 (.pair .str .bool) .plain), (5, .row 100 (.pair .bool .str) .plain), (6, .row 156 Y1 .plain), (7, .row 158 (.pair .str .bool) .plain), (8, .row 100 (.pair .bool .str) .plain)], 9, [some 0]⟩ ⟨[0, 2, 3, 6], [], []⟩ k fun R rec K v => f577v0l1s k rec (fun w => K (.exit 2) (encSt ⟨[(0, .one (.ptr 0 0)), (2, .one (.ptr 1 0)), (3, .one (.ptr 2 0))], [(0, .var 128 [.str, .int .i64]), (1, .var 52 [.str, .str, .own 3, .own 4, .bool, .own 5]), (2, .var 52 [.str, .str, .own 6, .own 7, .bool, .own 8]), (3, .row 156 Y1 .plain), (4, .row 158 (.pair .str .bool) .plain), (5, .row 100 (.pair .bool .str) .plain), (6, .row 156 Y1 .plain), (7, .row 158 (.pair .str .bool) .plain), (8, .row 100 (.pair .bool .str) .plain)], 9, [some 0]⟩ w)) v
theorem f577v0l1O (k : Nat) : SumO P Tryz.f77 506 (f577v0l1S k) := lp tm (f577v0T k) ⟨[0, 2, 3], [], []⟩ SumsOk.nil (by kernel_rfl) fun _ _ _ _ => by kernel_rfl
noncomputable def f577v0p2 {R : Type} (k : Nat) (k0 : D131 → Option R) (v : D131) : Option R :=
 bif (!v.2.2.2.2.2.2.2.2.2.2.1) then
 Option.bind (f610v0F k (v.1, v.2.2.1, v.2.2.2.1, ())) fun y19 =>
 k0 (v.1, v.2.1, y19.2.1, y19.2.2.1, v.2.2.2.2.1, v.2.2.2.2.2.1, v.2.2.2.2.2.2.1, v.2.2.2.2.2.2.2.1, v.2.2.2.2.2.2.2.2.1, v.2.2.2.2.2.2.2.2.2.1, v.2.2.2.2.2.2.2.2.2.2.1, y19.1, v.2.2.2.2.2.2.2.2.2.2.2.2.1, v.2.2.2.2.2.2.2.2.2.2.2.2.2.1, v.2.2.2.2.2.2.2.2.2.2.2.2.2.2.1, v.2.2.2.2.2.2.2.2.2.2.2.2.2.2.2.1, v.2.2.2.2.2.2.2.2.2.2.2.2.2.2.2.2.1, v.2.2.2.2.2.2.2.2.2.2.2.2.2.2.2.2.2.1, ())
 else
 k0 (v.1, v.2.1, v.2.2.1, v.2.2.2.1, v.2.2.2.2.1, v.2.2.2.2.2.1, v.2.2.2.2.2.2.1, v.2.2.2.2.2.2.2.1, v.2.2.2.2.2.2.2.2.1, v.2.2.2.2.2.2.2.2.2.1, v.2.2.2.2.2.2.2.2.2.2.1, v.2.2.2.2.2.2.2.2.2.2.2.1, v.2.2.2.2.2.2.2.2.2.2.2.2.1, v.2.2.2.2.2.2.2.2.2.2.2.2.2.1, v.2.2.2.2.2.2.2.2.2.2.2.2.2.2.1, v.2.2.2.2.2.2.2.2.2.2.2.2.2.2.2.1, v.2.2.2.2.2.2.2.2.2.2.2.2.2.2.2.2.1, v.2.2.2.2.2.2.2.2.2.2.2.2.2.2.2.2.2.1, ())
noncomputable def f577v0p2S (k : Nat) := partSum ⟨[(0, .one (.ptr 0 0)), (2, .one (.ptr 1 0)), (3, .one (.ptr 2 0)), (10, oI), (12, oI), (13, .one (.ptr 3 0))], [(0, .var 128 [.str, .int .i64]), (1, .var 52 [.str, .str, .own 4, .own 5, .bool, .own 6]), (2, .var 52 [.str, .str, .own 7, .own 8, .bool, .own 9]), (3, .var 100 [.bool, .str]), (4, .row 156 Y1 .plain), (5, .row 158 (.pair .str .bool) .plain), (6, .row 100 (.pair .bool .str) .plain), (7, .row 156 Y1 .plain), (8, .row 158 (.pair .str .bool) .plain), (9, .row 100 (.pair .bool .str) .plain)], 10, [some 0]⟩ ⟨[0, 2, 3, 10, 12, 13], [], []⟩ fun R K v => f577v0p2 k (fun w => K .normal (encSt ⟨[(0, .one (.ptr 0 0)), (2, .one (.ptr 1 0)), (3, .one (.ptr 2 0)), (10, oI), (12, oI), (13, .one (.ptr 3 0))], [(0, .var 128 [.str, .int .i64]), (1, .var 52 [.str, .str, .own 4, .own 5, .bool, .own 6]), (2, .var 52 [.str, .str, .own 7, .own 8, .bool, .own 9]), (3, .var 100 [.bool, .str]), (4, .row 156 Y1 .plain), (5, .row 158 (.pair .str .bool) .plain), (6, .row 100 (.pair .bool .str) .plain), (7, .row 156 Y1 .plain), (8, .row 158 (.pair .str .bool) .plain), (9, .row 100 (.pair .bool .str) .plain)], 10, [some 0]⟩ w)) v
theorem f577v0p2O (k : Nat) : SumO P Tryz.f77 1048210 (f577v0p2S k) := pt tm (f577v0T k) ⟨[0, 2, 3, 10, 12, 13], [], []⟩ SumsOk.nil fun _ _ _ => by kernel_rfl
noncomputable def f577v0l3s {R : Type} (k : Nat) (rec : D133 → Option R) (k0 : D129 → Option R) (v : D133) : Option R :=
 bif (decide (v.2.1 > 0)) then
 bif (v.2.2.2.1 == 0) then
 Option.bind (f612v0F k (v.2.2.1, v.2.2.2.1, ())) fun y18 =>
 f577v0p2 k
 (fun (w20 : D131) =>
 bif (decide ((w20.2.2.2.2.2.2.2.2.2.2.2.2.2.2.2.2.2.1.length + [(w20.2.2.2.2.2.2.2.2.2.2.1, w20.2.2.2.2.2.2.2.2.2.2.2.1)].length) * 24 ≤ 140737488355328) && decide (w20.2.2.2.2.2.2.2.2.2.2.2.2.2.2.2.2.2.1.length + [(w20.2.2.2.2.2.2.2.2.2.2.1, w20.2.2.2.2.2.2.2.2.2.2.2.1)].length ≤ 9223372036854775807)) then
 let t21 := (w20.2.2.2.2.2.2.2.2.2.2.2.2.2.2.2.2.2.1 ++ [(w20.2.2.2.2.2.2.2.2.2.2.1, w20.2.2.2.2.2.2.2.2.2.2.2.1)])
 rec (w20.1, (IntKind.i64.wrap (w20.2.1 - 1)), w20.2.2.1, w20.2.2.2.1, w20.2.2.2.2.1, w20.2.2.2.2.2.1, w20.2.2.2.2.2.2.1, w20.2.2.2.2.2.2.2.1, w20.2.2.2.2.2.2.2.2.1, w20.2.2.2.2.2.2.2.2.2.1, w20.2.2.2.2.2.2.2.2.2.2.2.2.1, w20.2.2.2.2.2.2.2.2.2.2.2.2.2.1, w20.2.2.2.2.2.2.2.2.2.2.2.2.2.2.1, w20.2.2.2.2.2.2.2.2.2.2.2.2.2.2.2.1, w20.2.2.2.2.2.2.2.2.2.2.2.2.2.2.2.2.1, t21, ())
 else none)
 (v.1, v.2.1, y18.2.1, y18.2.2.1, v.2.2.2.2.1, v.2.2.2.2.2.1, v.2.2.2.2.2.2.1, v.2.2.2.2.2.2.2.1, v.2.2.2.2.2.2.2.2.1, v.2.2.2.2.2.2.2.2.2.1, (!y18.1), ByteArray.empty, v.2.2.2.2.2.2.2.2.2.2.1, v.2.2.2.2.2.2.2.2.2.2.2.1, v.2.2.2.2.2.2.2.2.2.2.2.2.1, v.2.2.2.2.2.2.2.2.2.2.2.2.2.1, v.2.2.2.2.2.2.2.2.2.2.2.2.2.2.1, v.2.2.2.2.2.2.2.2.2.2.2.2.2.2.2.1, ())
 else
 k0 (v.2.2.1, v.2.2.2.1, v.2.2.2.2.1, v.2.2.2.2.2.1, v.2.2.2.2.2.2.1, v.2.2.2.2.2.2.2.1, v.2.2.2.2.2.2.2.2.1, v.2.2.2.2.2.2.2.2.2.1, v.2.2.2.2.2.2.2.2.2.2.1, v.2.2.2.2.2.2.2.2.2.2.2.1, v.2.2.2.2.2.2.2.2.2.2.2.2.1, v.2.2.2.2.2.2.2.2.2.2.2.2.2.1, v.2.2.2.2.2.2.2.2.2.2.2.2.2.2.1, v.2.2.2.2.2.2.2.2.2.2.2.2.2.2.2.1, ())
 else
 k0 (v.2.2.1, v.2.2.2.1, v.2.2.2.2.1, v.2.2.2.2.2.1, v.2.2.2.2.2.2.1, v.2.2.2.2.2.2.2.1, v.2.2.2.2.2.2.2.2.1, v.2.2.2.2.2.2.2.2.2.1, v.2.2.2.2.2.2.2.2.2.2.1, v.2.2.2.2.2.2.2.2.2.2.2.1, v.2.2.2.2.2.2.2.2.2.2.2.2.1, v.2.2.2.2.2.2.2.2.2.2.2.2.2.1, v.2.2.2.2.2.2.2.2.2.2.2.2.2.2.1, v.2.2.2.2.2.2.2.2.2.2.2.2.2.2.2.1, ())
noncomputable def f577v0l3 {R : Type} (k : Nat) (k0 : D129 → Option R) (v : D133) : Option R := iterS (fun rec v => f577v0l3s k rec k0 v) k v
noncomputable def f577v0l3S (k : Nat) := loopSum ⟨[(0, .one (.ptr 0 0)), (2, .one (.ptr 1 0)), (3, .one (.ptr 2 0)), (10, oI), (12, oI)], [(0, .var 128 [.str, .int .i64]), (1, .var 52 [.str, .str, .own 3, .own 4, .bool, .own 5]), (2, .var 52 [.str, .str, .own 6, .own 7, .bool, .own 8]), (3, .row 156 Y1 .plain), (4, .row 158 (.pair .str .bool) .plain), (5, .row 100 (.pair .bool .str) .plain), (6, .row 156 Y1 .plain), (7, .row 158 (.pair .str .bool) .plain), (8, .row 100 (.pair .bool .str) .plain)], 9, [some 0]⟩ ⟨[0, 2, 3, 10, 12], [], []⟩ k fun R rec K v => f577v0l3s k rec (fun w => K (.exit 4) (encSt ⟨[(2, .one (.ptr 1 0)), (3, .one (.ptr 2 0))], [(0, .var 128 [.str, .int .i64]), (1, .var 52 [.str, .str, .own 3, .own 4, .bool, .own 5]), (2, .var 52 [.str, .str, .own 6, .own 7, .bool, .own 8]), (3, .row 156 Y1 .plain), (4, .row 158 (.pair .str .bool) .plain), (5, .row 100 (.pair .bool .str) .plain), (6, .row 156 Y1 .plain), (7, .row 158 (.pair .str .bool) .plain), (8, .row 100 (.pair .bool .str) .plain)], 9, [some 0]⟩ w)) v
theorem f577v0l3O (k : Nat) : SumO P Tryz.f77 16378 (f577v0l3S k) := lp tm (f577v0T k) ⟨[2, 3], [], []⟩ (SumsOk.nil |>.s (f577v0p2O k) (by kernel_rfl)) (by kernel_rfl) fun _ _ _ _ => by kernel_rfl
noncomputable def f577v0F (k : Nat) (x : ByteArray × Int × Unit) : Option (D134) :=
 Option.bind (f611v0F k (x.1, x.2.1, ())) fun y1 =>
 Option.bind (f611v0F k (y1.2.1, y1.2.2.1, ())) fun y2 =>
 Option.bind (f576v0F k (20, y2.2.1, y2.2.2.1, ())) fun y3 =>
 f577v0l0 k
 (fun (w8 : D129) =>
 Option.bind (f576v0F k (4, w8.1, w8.2.1, ())) fun y9 =>
 f577v0l1 k
 (fun (w12 : D129) =>
 Option.bind (f612v0F k (w12.1, w12.2.1, ())) fun y13 =>
 bif (y13.2.2.1 != 0) then
 some (w12.2.2.2.2.2.1, w12.2.2.2.2.2.2.1, w12.2.2.2.2.2.2.2.2.2.2.2.1, w12.2.2.2.2.2.2.2.2.2.2.2.2.1, y13.1, w12.2.2.2.2.2.2.2.2.2.2.2.2.2.1, y13.2.1, y13.2.2.1, ())
 else
 Option.bind (f569F k (w12.2.2.2.2.2.1, ((w12.2.2.2.2.2.2.1, w12.2.2.2.2.2.2.2.2.2.2.2.1), (w12.2.2.2.2.2.2.2.2.2.2.2.2.1, y13.1)))) fun y14 =>
 bif (y14.2 != 0) then
 Option.bind (f578v0F k (y14.2, y13.2.1, y13.2.2.1, ())) fun y15 =>
 some (w12.2.2.2.2.2.1, w12.2.2.2.2.2.2.1, w12.2.2.2.2.2.2.2.2.2.2.2.1, w12.2.2.2.2.2.2.2.2.2.2.2.2.1, y13.1, w12.2.2.2.2.2.2.2.2.2.2.2.2.2.1, y15.1, y15.2.1, ())
 else
 Option.bind (f613F k (w12.2.2.2.2.2.2.1, w12.2.2.2.2.2.2.2.2.2.2.2.1)) fun y16 =>
 Option.bind (f576v0F k (60, y13.2.1, y13.2.2.1, ())) fun y17 =>
 f577v0l3 k
 (fun (w22 : D129) =>
 some (w22.2.2.2.2.2.1, w22.2.2.2.2.2.2.1, w22.2.2.2.2.2.2.2.2.2.2.2.1, w22.2.2.2.2.2.2.2.2.2.2.2.2.1, w22.2.2.2.2.2.2.2.1, w22.2.2.2.2.2.2.2.2.2.2.2.2.2.1, w22.1, w22.2.1, ()))
 (y16.1, y17.1, y17.2.1, y17.2.2.1, w12.2.2.1, w12.2.2.2.1, w12.2.2.2.2.1, w12.2.2.2.2.2.1, w12.2.2.2.2.2.2.1, y13.1, w12.2.2.2.2.2.2.2.2.1, w12.2.2.2.2.2.2.2.2.2.1, w12.2.2.2.2.2.2.2.2.2.2.1, w12.2.2.2.2.2.2.2.2.2.2.2.1, w12.2.2.2.2.2.2.2.2.2.2.2.2.1, w12.2.2.2.2.2.2.2.2.2.2.2.2.2.1, ()))
 (y9.1, y9.2.1, y9.2.2.1, w8.2.2.1, w8.2.2.2.1, w8.2.2.2.2.1, w8.2.2.2.2.2.1, w8.2.2.2.2.2.2.1, w8.2.2.2.2.2.2.2.1, w8.2.2.2.2.2.2.2.2.1, w8.2.2.2.2.2.2.2.2.2.1, w8.2.2.2.2.2.2.2.2.2.2.1, w8.2.2.2.2.2.2.2.2.2.2.2.1, w8.2.2.2.2.2.2.2.2.2.2.2.2.1, w8.2.2.2.2.2.2.2.2.2.2.2.2.2.1, ()))
 (y3.1, y3.2.1, y3.2.2.1, ByteArray.empty, ByteArray.empty, false, y1.1, y2.1, false, [], [], [], [], [], [], ())
theorem f577v0Ok (k : Nat) : GnV P 77 f577v0I f577v0U (f577v0F k) :=
 gs tm (f577v0T k) Tryz.func77 (by kernel_rfl) (SumsOk.nil |>.s (f577v0l3O k) (by kernel_rfl) |>.s (f577v0p2O k) (by kernel_rfl) |>.s (f577v0l1O k) (by kernel_rfl) |>.s (f577v0l0O k) (by kernel_rfl)) [.agg .bool] [] none fun _ => by kernel_rfl
noncomputable def f532T (k : Nat) : TB P := TB.nil |>.g (f578v0Ok k) |>.g (f577v0Ok k) |>.g (f576v0Ok k) |>.u (f515Ok k)
noncomputable def f532l0s {R : Type} (k : Nat) (rec : D136 → Option R) (k0 : D135 → Option R) (v : D136) : Option R :=
 bif (decide (v.1 > 0)) then
 bif (v.2.2.1 == 0) then
 Option.bind (f577v0F k (v.2.1, v.2.2.1, ())) fun y2 =>
 let t3 := [((y2.1, ((y2.2.1, y2.2.2.1), (y2.2.2.2.1, y2.2.2.2.2.1))), y2.2.2.2.2.2.1)]
 bif (decide ((v.2.2.2.1.length + t3.length) * 112 ≤ 140737488355328) && decide (v.2.2.2.1.length + t3.length ≤ 9223372036854775807)) then
 rec ((IntKind.i64.wrap (v.1 - 1)), y2.2.2.2.2.2.2.1, y2.2.2.2.2.2.2.2.1, (v.2.2.2.1 ++ t3), ())
 else none
 else
 k0 (v.2.1, v.2.2.1, v.2.2.2.1, ())
 else
 k0 (v.2.1, v.2.2.1, v.2.2.2.1, ())
noncomputable def f532l0 {R : Type} (k : Nat) (k0 : D135 → Option R) (v : D136) : Option R := iterS (fun rec v => f532l0s k rec k0 v) k v
noncomputable def f532l0S (k : Nat) := loopSum ⟨[(4, .one (.ptr 0 0)), (5, .one (.own 1)), (6, oI)], [(0, .var 128 [.str, .int .i64]), (1, .row 52 Y6 .plain)], 2, []⟩ ⟨[4, 5, 6], [(5, 52, Y6)], []⟩ k fun R rec K v => f532l0s k rec (fun w => K (.exit 0) (encSt ⟨[(4, .one (.ptr 0 0)), (5, .one (.own 1))], [(0, .var 128 [.str, .int .i64]), (1, .row 52 Y6 .plain)], 2, []⟩ w)) v
theorem f532l0O (k : Nat) : SumO P Tryz.f32 122 (f532l0S k) := lp tm (f532T k) ⟨[2, 3, 4, 5], [], []⟩ SumsOk.nil (by kernel_rfl) fun _ _ _ _ => by kernel_rfl
noncomputable def f532p1 {R : Type} (k : Nat) (k0 : D135 → Option R) (v : D135) : Option R :=
 bif (v.2.1 == 0) then
 bif (!strEq v.1 ByteArray.empty) then
 Option.bind (f578v0F k (10, v.1, v.2.1, ())) fun y5 =>
 k0 (y5.1, y5.2.1, v.2.2.1, ())
 else
 k0 (v.1, v.2.1, v.2.2.1, ())
 else
 k0 (v.1, v.2.1, v.2.2.1, ())
noncomputable def f532p1S (k : Nat) := partSum ⟨[(4, .one (.ptr 0 0)), (5, .one (.own 1))], [(0, .var 128 [.str, .int .i64]), (1, .row 52 Y6 .plain)], 2, []⟩ ⟨[4, 5], [], []⟩ fun R K v => f532p1 k (fun w => K .normal (encSt ⟨[(4, .one (.ptr 0 0)), (5, .one (.own 1))], [(0, .var 128 [.str, .int .i64]), (1, .row 52 Y6 .plain)], 2, []⟩ w)) v
theorem f532p1O (k : Nat) : SumO P Tryz.f32 62 (f532p1S k) := pt tm (f532T k) ⟨[2, 3, 4, 5], [], []⟩ SumsOk.nil fun _ _ _ => by kernel_rfl
noncomputable def f532F (k : Nat) (x : ByteArray) : Option (List D34 × Int) :=
 Option.bind (f576v0F k (8, x, 0, ())) fun y1 =>
 f532l0 k
 (fun (w4 : D135) =>
 f532p1 k
 (fun (w6 : D135) =>
 bif (w6.2.1 != 0) then
 some ([], w6.2.1)
 else
 Option.bind (f515F k w6.2.2.1) fun y7 =>
 bif (y7.2 != 0) then
 some ([], y7.2)
 else
 some (w6.2.2.1, 0))
 (w4.1, w4.2.1, w4.2.2.1, ()))
 (y1.1, y1.2.1, y1.2.2.1, [], ())
theorem f532Ok (k : Nat) : FnV P 32 [.dat .str] [.own 52 Y6, .dat (.int .i64)] (f532F k) :=
 fs tm (f532T k) Tryz.func32 (by kernel_rfl) (SumsOk.nil |>.s (f532p1O k) (by kernel_rfl) |>.s (f532l0O k) (by kernel_rfl)) none fun _ => by kernel_rfl
noncomputable def f538T (k : Nat) : TB P := TB.nil |>.u (f581Ok k) |>.p (f532Ok k)
noncomputable def f538F (k : Nat) (x : (List D56)) : Option (List D34 × Int) :=
 Option.bind (f581F k x) fun y1 =>
 bif (y1.2.2.2 != 0) then
 some ([], y1.2.2.2)
 else
 Option.bind (f532F k y1.1) fun y2 =>
 some (y2.1, y2.2)
theorem f538Ok (k : Nat) : FnV P 38 [.dat (.slice Y8)] [.own 52 Y6, .dat (.int .i64)] (f538F k) :=
 fs tm (f538T k) Tryz.func38 (by kernel_rfl) SumsOk.nil none fun _ => by kernel_rfl
noncomputable def f510T (k : Nat) : TB P := TB.nil |>.p (f541Ok k) |>.p (f538Ok k) |>.p (f537Ok k) |>.u (f536Ok k) |>.u (f535Ok k) |>.p (f521Ok k) |>.p (f516Ok k) |>.u (f514Ok k) |>.u (f513Ok k)
noncomputable def f510l0s {R : Type} (k : Nat) (rec : D141 → Option R) (k0 : D137 → Option R) (k1 : D138 → Option R) (v : D141) : Option R :=
 bif ((decide (0 ≤ v.2.1)) && (decide (v.2.1 < (v.1.length : Int)))) then
 let t7 := (decide (v.2.2.1 < ((v.1.getD (Int.toNat v.2.1) (ByteArray.empty, [])).2.length : Int)))
 bif t7 then
 bif ((decide (0 ≤ v.2.1)) && (decide (v.2.1 < (v.1.length : Int)))) then
 bif ((decide (0 ≤ v.2.2.1)) && (decide (v.2.2.1 < ((v.1.getD (Int.toNat v.2.1) (ByteArray.empty, [])).2.length : Int)))) then
 let t8 := ((v.1.getD (Int.toNat v.2.1) (ByteArray.empty, [])).2.getD (Int.toNat v.2.2.1) ByteArray.empty)
 bif ((t8.size : Int) != 64) then
 k0 (false, v.1, v.2.1, v.2.2.2.1, v.2.2.2.2.1, v.2.2.2.2.2.1, v.2.2.2.2.2.2.1, v.2.2.2.2.2.2.2.1, ())
 else
 rec (v.1, v.2.1, (IntKind.i64.wrap (v.2.2.1 + 1)), v.2.2.2.1, v.2.2.2.2.1, v.2.2.2.2.2.1, v.2.2.2.2.2.2.1, v.2.2.2.2.2.2.2.1, ())
 else none
 else none
 else
 k1 (v.1, v.2.1, v.2.2.2.1, v.2.2.2.2.1, v.2.2.2.2.2.1, v.2.2.2.2.2.2.1, v.2.2.2.2.2.2.2.1, ())
 else none
noncomputable def f510l0 {R : Type} (k : Nat) (k0 : D137 → Option R) (k1 : D138 → Option R) (v : D141) : Option R := iterS (fun rec v => f510l0s k rec k0 k1 v) k v
noncomputable def f510l0S (k : Nat) := loopSum ⟨[(5, .one (.ptr 0 0)), (7, .one (.ro Y8)), (9, oI), (10, oI)], [(0, .var 79 [.int .i64, .int .i64, .int .i64, .int .i64, .int .u8])], 1, []⟩ ⟨[5, 7, 9, 10], [], []⟩ k fun R rec K v => f510l0s k rec (fun w => K .ret (encSt ⟨[(5, .one (.ptr 0 0)), (6, oB), (7, .one (.ro Y8)), (9, oI)], [(0, .var 79 [.int .i64, .int .i64, .int .i64, .int .i64, .int .u8])], 1, []⟩ w)) (fun w => K (.exit 2) (encSt ⟨[(5, .one (.ptr 0 0)), (7, .one (.ro Y8)), (9, oI)], [(0, .var 79 [.int .i64, .int .i64, .int .i64, .int .i64, .int .u8])], 1, []⟩ w)) v
theorem f510l0O (k : Nat) : SumO P Tryz.f10 65170 (f510l0S k) := lp tm (f510T k) ⟨[5, 6, 7, 9], [], []⟩ SumsOk.nil (by kernel_rfl) fun _ _ _ _ => by kernel_rfl
noncomputable def f510l1s {R : Type} (k : Nat) (rec : D138 → Option R) (k0 : D139 → Option R) (k1 : D140 → Option R) (v : D138) : Option R :=
 bif (decide (v.2.1 < (v.1.length : Int))) then
 f510l0 k
 (fun (w9 : D137) =>
 k0 (w9.1, w9.2.1, w9.2.2.2.1, w9.2.2.2.2.1, w9.2.2.2.2.2.1, w9.2.2.2.2.2.2.1, w9.2.2.2.2.2.2.2.1, ()))
 (fun (w10 : D138) =>
 rec (w10.1, (IntKind.i64.wrap (w10.2.1 + 1)), w10.2.2.1, w10.2.2.2.1, w10.2.2.2.2.1, w10.2.2.2.2.2.1, w10.2.2.2.2.2.2.1, ()))
 (v.1, v.2.1, 0, v.2.2.1, v.2.2.2.1, v.2.2.2.2.1, v.2.2.2.2.2.1, v.2.2.2.2.2.2.1, ())
 else
 k1 (v.1, v.2.2.1, v.2.2.2.1, v.2.2.2.2.1, v.2.2.2.2.2.1, v.2.2.2.2.2.2.1, ())
noncomputable def f510l1 {R : Type} (k : Nat) (k0 : D139 → Option R) (k1 : D140 → Option R) (v : D138) : Option R := iterS (fun rec v => f510l1s k rec k0 k1 v) k v
noncomputable def f510l1S (k : Nat) := loopSum ⟨[(5, .one (.ptr 0 0)), (7, .one (.ro Y8)), (9, oI)], [(0, .var 79 [.int .i64, .int .i64, .int .i64, .int .i64, .int .u8])], 1, []⟩ ⟨[5, 7, 9], [], []⟩ k fun R rec K v => f510l1s k rec (fun w => K .ret (encSt ⟨[(5, .one (.ptr 0 0)), (6, oB), (7, .one (.ro Y8))], [(0, .var 79 [.int .i64, .int .i64, .int .i64, .int .i64, .int .u8])], 1, []⟩ w)) (fun w => K (.exit 0) (encSt ⟨[(5, .one (.ptr 0 0)), (7, .one (.ro Y8))], [(0, .var 79 [.int .i64, .int .i64, .int .i64, .int .i64, .int .u8])], 1, []⟩ w)) v
theorem f510l1O (k : Nat) : SumO P Tryz.f10 1018 (f510l1S k) := lp tm (f510T k) ⟨[5, 6, 7], [], []⟩ (SumsOk.nil |>.s (f510l0O k) (by kernel_rfl)) (by kernel_rfl) fun _ _ _ _ => by kernel_rfl
noncomputable def f510F (k : Nat) (x : D142) : Option (Bool) :=
 Option.bind (f513F k ()) fun y1 =>
 bif (!y1) then
 some false
 else
 Option.bind (f514F k x.1) fun y2 =>
 bif (!y2) then
 some true
 else
 Option.bind (f516F k x.1) fun y3 =>
 let t4 := [(⟨#[65]⟩ : ByteArray), (⟨#[66]⟩ : ByteArray), (⟨#[67]⟩ : ByteArray), (⟨#[68]⟩ : ByteArray), (⟨#[69]⟩ : ByteArray), (⟨#[70]⟩ : ByteArray)]
 Option.bind (f521F k (y3, t4, x.2.1)) fun y5 =>
 bif (y5.2 != 0) then
 some true
 else
 Option.bind (f535F k y5.1) fun y6 =>
 bif (!y6) then
 some false
 else
 f510l1 k
 (fun (w11 : D139) =>
 some w11.1)
 (fun (w12 : D140) =>
 Option.bind (f541F k (w12.1, (w12.2.1, (w12.2.2.1, (w12.2.2.2.1, (w12.2.2.2.2.1, w12.2.2.2.2.2.1)))))) fun y13 =>
 bif (!y13.2) then
 some true
 else
 Option.bind (f537F k y13.1) fun y14 =>
 Option.bind (f536F k y14) fun y15 =>
 Option.bind (f537F k y13.1) fun y16 =>
 Option.bind (f538F k y16) fun y17 =>
 bif (y15.2.2 != 0) then
 some (y17.2 != 0)
 else
 some false)
 (y5.1, 0, x.2.2.1, x.2.2.2.1, x.2.2.2.2.1, x.2.2.2.2.2.1, x.2.2.2.2.2.2, ())
theorem f510Ok (k : Nat) : FnV P 10 [.dat (.slice Y6), .dat (.int .i64), .agg (.pair (.int .i64) Y12)] [.dat .bool] (f510F k) :=
 fs tm (f510T k) Tryz.func10 (by kernel_rfl) (SumsOk.nil |>.s (f510l1O k) (by kernel_rfl) |>.s (f510l0O k) (by kernel_rfl)) none fun _ => by kernel_rfl
end Go.Proofs.YtobgkcamonlnkaaGreatDoor
