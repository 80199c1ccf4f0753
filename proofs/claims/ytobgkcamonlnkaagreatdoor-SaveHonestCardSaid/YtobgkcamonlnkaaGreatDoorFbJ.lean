/- What functions of the program compute: each as a plain Lean function, and that the code comes to it. Printed by gen.py. -/
import Derived.Test.YtobgkcamonlnkaaGreatDoorFaJ
import Derived.Test.YtobgkcamonlnkaaGreatDoorProg
/-! Printed by gen.py: what functions compute. -/
set_option linter.unusedVariables false
set_option maxRecDepth 100000
namespace Go.Proofs.YtobgkcamonlnkaaGreatDoor
open Go.Ab
noncomputable def f48F (k : Nat) (x : Int × Int × Int) : Option (Bool) :=
 bif (decide (x.2.1 ≤ x.1)) then
 some (decide (x.1 ≤ x.2.2))
 else
 some false
theorem f48Ok (k : Nat) : FnV P 64 [.dat (.int .i64), .dat (.int .i64), .dat (.int .i64)] [.dat .bool] (f48F k) :=
 fs tm TB.nil Tryz.func64 (by kernel_rfl) SumsOk.nil none fun _ => by kernel_rfl
noncomputable def f637F (k : Nat) (x : Int) : Option (Bool) :=
 bif (decide (65 ≤ x)) then
 some (decide (x ≤ 90))
 else
 some false
theorem f637Ok (k : Nat) : FnV P 137 [.dat (.int .u8)] [.dat .bool] (f637F k) :=
 fs tm TB.nil Tryz.func137 (by kernel_rfl) SumsOk.nil none fun _ => by kernel_rfl
noncomputable def f638F (k : Nat) (x : Int) : Option (Bool) :=
 bif (decide (48 ≤ x)) then
 some (decide (x ≤ 57))
 else
 some false
theorem f638Ok (k : Nat) : FnV P 138 [.dat (.int .u8)] [.dat .bool] (f638F k) :=
 fs tm TB.nil Tryz.func138 (by kernel_rfl) SumsOk.nil none fun _ => by kernel_rfl
noncomputable def f603T (k : Nat) : TB P := TB.nil |>.u (f638Ok k) |>.u (f637Ok k) |>.u (f48Ok k)
noncomputable def f603p0 {R : Type} (k : Nat) (k0 : ByteArray × Int × Unit → Option R) (k1 : D57 → Option R) (v : ByteArray × Int × Unit) : Option R :=
 bif ((decide (0 ≤ v.2.1)) && (decide (v.2.1 < (v.1.size : Int)))) then
 Option.bind (f637F k (bt v.1 v.2.1)) fun y2 =>
 bif y2 then
 k0 (v.1, v.2.1, ())
 else
 bif ((bt v.1 v.2.1) == 36) then
 k0 (v.1, v.2.1, ())
 else
 bif ((bt v.1 v.2.1) == 35) then
 k0 (v.1, v.2.1, ())
 else
 bif (!((bt v.1 v.2.1) == 64)) then
 bif (v.2.1 == 0) then
 k1 (v.1, false, v.2.1, ())
 else
 Option.bind (f638F k (bt v.1 v.2.1)) fun y3 =>
 bif (!y3) then
 bif ((bt v.1 v.2.1) != 95) then
 bif ((bt v.1 v.2.1) != 46) then
 k1 (v.1, false, v.2.1, ())
 else
 k0 (v.1, v.2.1, ())
 else
 k0 (v.1, v.2.1, ())
 else
 k0 (v.1, v.2.1, ())
 else
 k0 (v.1, v.2.1, ())
 else none
noncomputable def f603p0S (k : Nat) := partSum ⟨[(0, oS), (3, oI)], [], 0, []⟩ ⟨[0, 3], [], []⟩ fun R K v => f603p0 k (fun w => K .normal (encSt ⟨[(0, oS), (3, oI)], [], 0, []⟩ w)) (fun w => K .ret (encSt ⟨[(0, oS), (2, oB), (3, oI)], [], 0, []⟩ w)) v
theorem f603p0O (k : Nat) : SumO P Tryz.f103 466 (f603p0S k) := pt tm (f603T k) ⟨[0, 2, 3], [], []⟩ SumsOk.nil fun _ _ _ => by kernel_rfl
noncomputable def f603l1s {R : Type} (k : Nat) (rec : ByteArray × Int × Unit → Option R) (k0 : Bool × Unit → Option R) (k1 : Unit → Option R) (v : ByteArray × Int × Unit) : Option R :=
 bif (decide (v.2.1 < (v.1.size : Int))) then
 f603p0 k
 (fun (w4 : ByteArray × Int × Unit) =>
 rec (w4.1, (IntKind.i64.wrap (w4.2.1 + 1)), ()))
 (fun (w5 : D57) =>
 k0 (w5.2.1, ()))
 (v.1, v.2.1, ())
 else
 k1 (())
noncomputable def f603l1 {R : Type} (k : Nat) (k0 : Bool × Unit → Option R) (k1 : Unit → Option R) (v : ByteArray × Int × Unit) : Option R := iterS (fun rec v => f603l1s k rec k0 k1 v) k v
noncomputable def f603l1S (k : Nat) := loopSum ⟨[(0, oS), (3, oI)], [], 0, []⟩ ⟨[0, 3], [], []⟩ k fun R rec K v => f603l1s k rec (fun w => K .ret (encSt ⟨[(2, oB)], [], 0, []⟩ w)) (fun w => K (.exit 0) (encSt ⟨[], [], 0, []⟩ w)) v
theorem f603l1O (k : Nat) : SumO P Tryz.f103 58 (f603l1S k) := lp tm (f603T k) ⟨[2], [], []⟩ (SumsOk.nil |>.s (f603p0O k) (by kernel_rfl)) (by kernel_rfl) fun _ _ _ _ => by kernel_rfl
noncomputable def f603F (k : Nat) (x : ByteArray) : Option (Bool) :=
 Option.bind (f48F k ((x.size : Int), 1, 10)) fun y1 =>
 bif (!y1) then
 some false
 else
 f603l1 k
 (fun (w6 : Bool × Unit) =>
 some w6.1)
 (fun (w7 : Unit) =>
 some true)
 (x, 0, ())
theorem f603Ok (k : Nat) : FnV P 103 [.dat .str] [.dat .bool] (f603F k) :=
 fs tm (f603T k) Tryz.func103 (by kernel_rfl) (SumsOk.nil |>.s (f603l1O k) (by kernel_rfl) |>.s (f603p0O k) (by kernel_rfl)) none fun _ => by kernel_rfl
noncomputable def f660l0s {R : Type} (k : Nat) (rec : D58 → Option R) (k0 : Int × Unit → Option R) (k1 : Unit → Option R) (v : D58) : Option R :=
 bif (decide (v.2.1 < (v.2.2.2.1.length : Int))) then
 bif ((decide (0 ≤ v.2.1)) && (decide (v.2.1 < (v.2.2.2.1.length : Int)))) then
 let t1 := (v.2.2.2.1.getD (Int.toNat v.2.1) (ByteArray.empty, (0, (0, 0))))
 bif (strEq t1.1 v.1) then
 k0 (v.2.1, ())
 else
 rec (v.1, (IntKind.i64.wrap (v.2.1 + 1)), v.2.2.1, v.2.2.2.1, ())
 else none
 else
 k1 (())
noncomputable def f660l0 {R : Type} (k : Nat) (k0 : Int × Unit → Option R) (k1 : Unit → Option R) (v : D58) : Option R := iterS (fun rec v => f660l0s k rec k0 k1 v) k v
noncomputable def f660l0S (k : Nat) := loopSum ⟨[(1, oS), (2, .one (.ptr 0 0)), (5, oI)], [(0, .var 46 [.str, .ro Y1])], 1, []⟩ ⟨[1, 2, 5], [], []⟩ k fun R rec K v => f660l0s k rec (fun w => K .ret (encSt ⟨[(4, oI)], [], 0, []⟩ w)) (fun w => K (.exit 0) (encSt ⟨[], [], 0, []⟩ w)) v
theorem f660l0O (k : Nat) : SumO P Tryz.f160 26 (f660l0S k) := lp tm TB.nil ⟨[4], [], []⟩ SumsOk.nil (by kernel_rfl) fun _ _ _ _ => by kernel_rfl
noncomputable def f660F (k : Nat) (x : D8) : Option (Int) :=
 f660l0 k
 (fun (w2 : Int × Unit) =>
 some w2.1)
 (fun (w3 : Unit) =>
 some (-1))
 (x.2, 0, x.1.1, x.1.2, ())
theorem f660Ok (k : Nat) : FnV P 160 [.agg Y2, .dat .str] [.dat (.int .i64)] (f660F k) :=
 fs tm TB.nil Tryz.func160 (by kernel_rfl) (SumsOk.nil |>.s (f660l0O k) (by kernel_rfl)) none fun _ => by kernel_rfl
noncomputable def f68T (k : Nat) : TB P := TB.nil |>.u (f48Ok k)
noncomputable def f68F (k : Nat) (x : Int) : Option (Bool) :=
 Option.bind (f48F k (x, 1, 3)) fun y1 =>
 some y1
theorem f68Ok (k : Nat) : FnV P 189 [.dat (.int .i64)] [.dat .bool] (f68F k) :=
 fs tm (f68T k) Tryz.func189 (by kernel_rfl) SumsOk.nil none fun _ => by kernel_rfl
noncomputable def f69F (k : Nat) (x : Bool) : Option (Int) :=
 bif x then
 some 1
 else
 some 0
theorem f69Ok (k : Nat) : FnV P 47 [.dat .bool] [.dat (.int .i64)] (f69F k) :=
 fs tm TB.nil Tryz.func47 (by kernel_rfl) SumsOk.nil none fun _ => by kernel_rfl
noncomputable def f27T (k : Nat) : TB P := TB.nil |>.u (f68Ok k) |>.u (f48Ok k) |>.u (f69Ok k)
noncomputable def f27p0 {R : Type} (k : Nat) (k0 : D3 → Option R) (v : D4) : Option R :=
 bif (v.2.1 == 1) then
 k0 (v.1, v.2.1, (v.2.1 == 1), v.2.2.1, v.2.2.2.1, v.2.2.2.2.1, ())
 else
 k0 (v.1, v.2.1, (v.2.1 == 2), v.2.2.1, v.2.2.2.1, v.2.2.2.2.1, ())
noncomputable def f27p0S (k : Nat) := partSum ⟨[(1, .one (.ptr 0 0)), (3, oB), (13, oI)], [(0, .var 154 [.int .i64, .int .i64, .int .i64])], 1, []⟩ ⟨[1, 3, 13], [], []⟩ fun R K v => f27p0 k (fun w => K .normal (encSt ⟨[(1, .one (.ptr 0 0)), (3, oB), (13, oI), (19, oB)], [(0, .var 154 [.int .i64, .int .i64, .int .i64])], 1, []⟩ w)) v
theorem f27p0O (k : Nat) : SumO P Tryz.f177 982 (f27p0S k) := pt tm (f27T k) ⟨[1, 2, 3, 13, 19], [], []⟩ SumsOk.nil fun _ _ _ => by kernel_rfl
noncomputable def f27p1 {R : Type} (k : Nat) (k0 : D5 → Option R) (v : D5) : Option R :=
 bif (v.2.1 == 0) then
 Option.bind (f48F k (v.2.2.1, 1, 256)) fun y2 =>
 k0 (y2, v.2.1, v.2.2.1, v.2.2.2.1, ())
 else
 f27p0 k
 (fun (w3 : D3) =>
 bif w3.2.2.1 then
 Option.bind (f48F k (w3.2.2.2.2.1, 1, 15)) fun y4 =>
 k0 (y4, w3.2.2.2.1, w3.2.2.2.2.1, w3.2.2.2.2.2.1, ())
 else
 bif (w3.2.1 == 3) then
 bif (w3.2.2.2.2.1 == 4) then
 k0 (true, w3.2.2.2.1, w3.2.2.2.2.1, w3.2.2.2.2.2.1, ())
 else
 k0 ((w3.2.2.2.2.1 == 9), w3.2.2.2.1, w3.2.2.2.2.1, w3.2.2.2.2.2.1, ())
 else
 k0 (w3.1, w3.2.2.2.1, w3.2.2.2.2.1, w3.2.2.2.2.2.1, ()))
 (v.1, v.2.1, v.2.1, v.2.2.1, v.2.2.2.1, ())
noncomputable def f27p1S (k : Nat) := partSum ⟨[(1, .one (.ptr 0 0)), (3, oB)], [(0, .var 154 [.int .i64, .int .i64, .int .i64])], 1, []⟩ ⟨[1, 3], [], []⟩ fun R K v => f27p1 k (fun w => K .normal (encSt ⟨[(1, .one (.ptr 0 0)), (3, oB)], [(0, .var 154 [.int .i64, .int .i64, .int .i64])], 1, []⟩ w)) v
theorem f27p1O (k : Nat) : SumO P Tryz.f177 30 (f27p1S k) := pt tm (f27T k) ⟨[1, 2, 3], [], []⟩ (SumsOk.nil |>.s (f27p0O k) (by kernel_rfl)) fun _ _ _ => by kernel_rfl
noncomputable def f27p2 {R : Type} (k : Nat) (k0 : D59 → Option R) (v : D59) : Option R :=
 Option.bind (f68F k v.2.1) fun y6 =>
 bif y6 then
 k0 (v.2.2.1, v.2.1, v.2.2.1, v.2.2.2.1, ())
 else
 k0 (v.1, v.2.1, v.2.2.1, v.2.2.2.1, ())
noncomputable def f27p2S (k : Nat) := partSum ⟨[(1, .one (.ptr 0 0)), (4, oI)], [(0, .var 154 [.int .i64, .int .i64, .int .i64])], 1, []⟩ ⟨[1, 4], [], []⟩ fun R K v => f27p2 k (fun w => K .normal (encSt ⟨[(1, .one (.ptr 0 0)), (4, oI)], [(0, .var 154 [.int .i64, .int .i64, .int .i64])], 1, []⟩ w)) v
theorem f27p2O (k : Nat) : SumO P Tryz.f177 254 (f27p2S k) := pt tm (f27T k) ⟨[1, 2, 4], [], []⟩ SumsOk.nil fun _ _ _ => by kernel_rfl
noncomputable def f27F (k : Nat) (x : (Int × (Int × Int))) : Option (Int) :=
 Option.bind (f48F k (x.1, 0, 4)) fun y1 =>
 bif (!y1) then
 some 4
 else
 f27p1 k
 (fun (w5 : D5) =>
 bif (!w5.1) then
 some 18
 else
 f27p2 k
 (fun (w7 : D59) =>
 Option.bind (f48F k (w7.2.2.2.1, 0, w7.1)) fun y8 =>
 Option.bind (f69F k (!y8)) fun y9 =>
 some (IntKind.i64.wrap (3 * y9)))
 (0, w5.2.1, w5.2.2.1, w5.2.2.2.1, ()))
 ((x.2.1 == 0), x.1, x.2.1, x.2.2, ())
theorem f27Ok (k : Nat) : FnV P 177 [.agg (.pair (.int .i64) Y0)] [.dat (.int .i64)] (f27F k) :=
 fs tm (f27T k) Tryz.func177 (by kernel_rfl) (SumsOk.nil |>.s (f27p2O k) (by kernel_rfl) |>.s (f27p1O k) (by kernel_rfl) |>.s (f27p0O k) (by kernel_rfl)) none fun _ => by kernel_rfl
noncomputable def f31T (k : Nat) : TB P := TB.nil |>.u (f69Ok k)
noncomputable def f31F (k : Nat) (x : (Int × (Int × Int))) : Option (Int) :=
 bif (x.1 == 1) then
 let t1 := (IntKind.i64.wrap ((IntKind.i64.wrap (Int.tdiv x.2.1 2)) + 1))
 some t1
 else
 bif (x.1 == 3) then
 Option.bind (f69F k (x.2.1 == 9)) fun y2 =>
 some (IntKind.i64.wrap (2 + (IntKind.i64.wrap (2 * y2))))
 else
 bif (x.1 == 4) then
 some 16
 else
 some x.2.1
theorem f31Ok (k : Nat) : FnV P 166 [.agg (.pair (.int .i64) Y0)] [.dat (.int .i64)] (f31F k) :=
 fs tm (f31T k) Tryz.func166 (by kernel_rfl) SumsOk.nil none fun _ => by kernel_rfl
noncomputable def f646T (k : Nat) : TB P := TB.nil |>.u (f31Ok k)
noncomputable def f646l0s {R : Type} (k : Nat) (rec : D60 → Option R) (k0 : Int × Unit → Option R) (v : D60) : Option R :=
 bif (decide (v.2.1 < (v.2.2.2.1.length : Int))) then
 bif ((decide (0 ≤ v.2.1)) && (decide (v.2.1 < (v.2.2.2.1.length : Int)))) then
 let t1 := (v.2.2.2.1.getD (Int.toNat v.2.1) (ByteArray.empty, (0, (0, 0))))
 Option.bind (f31F k (t1.2.1, (t1.2.2.1, t1.2.2.2))) fun y2 =>
 rec ((IntKind.i64.wrap (v.1 + y2)), (IntKind.i64.wrap (v.2.1 + 1)), v.2.2.1, v.2.2.2.1, ())
 else none
 else
 k0 (v.1, ())
noncomputable def f646l0 {R : Type} (k : Nat) (k0 : Int × Unit → Option R) (v : D60) : Option R := iterS (fun rec v => f646l0s k rec k0 v) k v
noncomputable def f646l0S (k : Nat) := loopSum ⟨[(1, .one (.ptr 0 0)), (3, oI), (4, oI)], [(0, .var 46 [.str, .ro Y1])], 1, []⟩ ⟨[1, 3, 4], [], []⟩ k fun R rec K v => f646l0s k rec (fun w => K (.exit 0) (encSt ⟨[(3, oI)], [], 0, []⟩ w)) v
theorem f646l0O (k : Nat) : SumO P Tryz.f146 58 (f646l0S k) := lp tm (f646T k) ⟨[2, 3], [], []⟩ SumsOk.nil (by kernel_rfl) fun _ _ _ _ => by kernel_rfl
noncomputable def f646F (k : Nat) (x : (ByteArray × (List D6))) : Option (Int) :=
 f646l0 k
 (fun (w3 : Int × Unit) =>
 some w3.1)
 (0, 0, x.1, x.2, ())
theorem f646Ok (k : Nat) : FnV P 146 [.agg Y2] [.dat (.int .i64)] (f646F k) :=
 fs tm (f646T k) Tryz.func146 (by kernel_rfl) (SumsOk.nil |>.s (f646l0O k) (by kernel_rfl)) none fun _ => by kernel_rfl
noncomputable def f659T (k : Nat) : TB P := TB.nil |>.u (f27Ok k) |>.u (f660Ok k) |>.u (f646Ok k) |>.u (f603Ok k) |>.u (f69Ok k)
noncomputable def f659l0s {R : Type} (k : Nat) (rec : D62 → Option R) (k0 : D60 → Option R) (k1 : D61 → Option R) (v : D62) : Option R :=
 bif (decide (v.1 < (v.2.2.1.length : Int))) then
 bif ((decide (0 ≤ v.1)) && (decide (v.1 < (v.2.2.1.length : Int)))) then
 let t1 := (v.2.2.1.getD (Int.toNat v.1) (ByteArray.empty, (0, (0, 0))))
 Option.bind (f603F k t1.1) fun y2 =>
 bif (!y2) then
 k0 (v.1, 7, v.2.1, v.2.2.1, ())
 else
 bif ((decide (0 ≤ v.1)) && (decide (v.1 < (v.2.2.1.length : Int)))) then
 let t3 := (v.2.2.1.getD (Int.toNat v.1) (ByteArray.empty, (0, (0, 0))))
 Option.bind (f660F k ((v.2.1, v.2.2.1), t3.1)) fun y4 =>
 bif (decide (y4 < v.1)) then
 k0 (v.1, 13, v.2.1, v.2.2.1, ())
 else
 bif ((decide (0 ≤ v.1)) && (decide (v.1 < (v.2.2.1.length : Int)))) then
 let t5 := (v.2.2.1.getD (Int.toNat v.1) (ByteArray.empty, (0, (0, 0))))
 Option.bind (f27F k (t5.2.1, (t5.2.2.1, t5.2.2.2))) fun y6 =>
 bif (y6 != 0) then
 k0 (v.1, y6, v.2.1, v.2.2.1, ())
 else
 bif ((decide (0 ≤ v.1)) && (decide (v.1 < (v.2.2.1.length : Int)))) then
 let t7 := (v.2.2.1.getD (Int.toNat v.1) (ByteArray.empty, (0, (0, 0))))
 bif (t7.2.1 == 4) then
 k0 (v.1, 17, v.2.1, v.2.2.1, ())
 else
 rec ((IntKind.i64.wrap (v.1 + 1)), v.2.1, v.2.2.1, ())
 else none
 else none
 else none
 else none
 else
 k1 (v.2.1, v.2.2.1, ())
noncomputable def f659l0 {R : Type} (k : Nat) (k0 : D60 → Option R) (k1 : D61 → Option R) (v : D62) : Option R := iterS (fun rec v => f659l0s k rec k0 k1 v) k v
noncomputable def f659l0S (k : Nat) := loopSum ⟨[(1, .one (.ptr 0 0)), (4, oI)], [(0, .var 46 [.str, .ro Y1])], 1, []⟩ ⟨[1, 4], [], []⟩ k fun R rec K v => f659l0s k rec (fun w => K .ret (encSt ⟨[(1, .one (.ptr 0 0)), (2, oI), (3, oI)], [(0, .var 46 [.str, .ro Y1])], 1, []⟩ w)) (fun w => K (.exit 0) (encSt ⟨[(1, .one (.ptr 0 0))], [(0, .var 46 [.str, .ro Y1])], 1, []⟩ w)) v
theorem f659l0O (k : Nat) : SumO P Tryz.f159 122 (f659l0S k) := lp tm (f659T k) ⟨[1, 2, 3], [], []⟩ SumsOk.nil (by kernel_rfl) fun _ _ _ _ => by kernel_rfl
noncomputable def f659F (k : Nat) (x : (ByteArray × (List D6))) : Option (Int × Int) :=
 bif ((x.2.length : Int) == 0) then
 some (0, 1)
 else
 bif (decide ((x.2.length : Int) > 20)) then
 some (0, 2)
 else
 f659l0 k
 (fun (w8 : D60) =>
 some (w8.1, w8.2.1))
 (fun (w9 : D61) =>
 Option.bind (f646F k (w9.1, w9.2.1)) fun y10 =>
 Option.bind (f69F k (decide (y10 > 200))) fun y11 =>
 some (0, (IntKind.i64.wrap (18 * y11))))
 (0, x.1, x.2, ())
theorem f659Ok (k : Nat) : FnV P 159 [.agg Y2] [.dat (.int .i64), .dat (.int .i64)] (f659F k) :=
 fs tm (f659T k) Tryz.func159 (by kernel_rfl) (SumsOk.nil |>.s (f659l0O k) (by kernel_rfl)) none fun _ => by kernel_rfl
noncomputable def f641T (k : Nat) : TB P := TB.nil |>.u (f659Ok k) |>.u (f603Ok k)
noncomputable def f641F (k : Nat) (x : (ByteArray × (List D6))) : Option (Int × Int) :=
 Option.bind (f603F k x.1) fun y1 =>
 bif (!y1) then
 some (0, 7)
 else
 Option.bind (f659F k (x.1, x.2)) fun y2 =>
 some (y2.1, y2.2)
theorem f641Ok (k : Nat) : FnV P 141 [.agg Y2] [.dat (.int .i64), .dat (.int .i64)] (f641F k) :=
 fs tm (f641T k) Tryz.func141 (by kernel_rfl) SumsOk.nil none fun _ => by kernel_rfl
noncomputable def f642T (k : Nat) : TB P := TB.nil |>.u (f660Ok k)
noncomputable def f642l0s {R : Type} (k : Nat) (rec : D65 → Option R) (k0 : D63 → Option R) (k1 : D64 → Option R) (v : D65) : Option R :=
 bif (decide (v.2.1 < v.1)) then
 bif ((decide (0 ≤ v.2.1)) && (decide (v.2.1 < (v.2.2.2.2.2.1.length : Int)))) then
 bif ((decide (0 ≤ v.1)) && (decide (v.1 < (v.2.2.2.2.2.1.length : Int)))) then
 let t2 := (strEq (v.2.2.2.2.2.1.getD (Int.toNat v.2.1) (ByteArray.empty, false)).1 (v.2.2.2.2.2.1.getD (Int.toNat v.1) (ByteArray.empty, false)).1)
 bif t2 then
 k0 (v.1, 13, v.1, v.2.2.1, v.2.2.2.1, v.2.2.2.2.1, v.2.2.2.2.2.1, v.2.2.2.2.2.2.1, ())
 else
 rec (v.1, (IntKind.i64.wrap (v.2.1 + 1)), v.2.2.1, v.2.2.2.1, v.2.2.2.2.1, v.2.2.2.2.2.1, v.2.2.2.2.2.2.1, ())
 else none
 else none
 else
 k1 (v.1, v.2.2.1, v.2.2.2.1, v.2.2.2.2.1, v.2.2.2.2.2.1, v.2.2.2.2.2.2.1, ())
noncomputable def f642l0 {R : Type} (k : Nat) (k0 : D63 → Option R) (k1 : D64 → Option R) (v : D65) : Option R := iterS (fun rec v => f642l0s k rec k0 k1 v) k v
noncomputable def f642l0S (k : Nat) := loopSum ⟨[(1, .one (.ptr 0 0)), (4, oI), (5, oI)], [(0, .var 49 [.str, .str, .ro Y1, .ro (.pair .str .bool), .bool])], 1, []⟩ ⟨[1, 4, 5], [], []⟩ k fun R rec K v => f642l0s k rec (fun w => K .ret (encSt ⟨[(1, .one (.ptr 0 0)), (2, oI), (3, oI), (4, oI)], [(0, .var 49 [.str, .str, .ro Y1, .ro (.pair .str .bool), .bool])], 1, []⟩ w)) (fun w => K (.exit 2) (encSt ⟨[(1, .one (.ptr 0 0)), (4, oI)], [(0, .var 49 [.str, .str, .ro Y1, .ro (.pair .str .bool), .bool])], 1, []⟩ w)) v
theorem f642l0O (k : Nat) : SumO P Tryz.f142 7462 (f642l0S k) := lp tm (f642T k) ⟨[1, 2, 3, 4], [], []⟩ SumsOk.nil (by kernel_rfl) fun _ _ _ _ => by kernel_rfl
noncomputable def f642l1s {R : Type} (k : Nat) (rec : D64 → Option R) (k0 : Int × Int × Unit → Option R) (k1 : Unit → Option R) (v : D64) : Option R :=
 bif (decide (v.1 < (v.2.2.2.2.1.length : Int))) then
 bif ((decide (0 ≤ v.1)) && (decide (v.1 < (v.2.2.2.2.1.length : Int)))) then
 Option.bind (f660F k ((v.2.2.1, v.2.2.2.1), (v.2.2.2.2.1.getD (Int.toNat v.1) (ByteArray.empty, false)).1)) fun y1 =>
 bif (y1 == (-1)) then
 k0 (v.1, 11, ())
 else
 f642l0 k
 (fun (w3 : D63) =>
 k0 (w3.1, w3.2.1, ()))
 (fun (w4 : D64) =>
 rec ((IntKind.i64.wrap (w4.1 + 1)), w4.2.1, w4.2.2.1, w4.2.2.2.1, w4.2.2.2.2.1, w4.2.2.2.2.2.1, ()))
 (v.1, 0, v.2.1, v.2.2.1, v.2.2.2.1, v.2.2.2.2.1, v.2.2.2.2.2.1, ())
 else none
 else
 k1 (())
noncomputable def f642l1 {R : Type} (k : Nat) (k0 : Int × Int × Unit → Option R) (k1 : Unit → Option R) (v : D64) : Option R := iterS (fun rec v => f642l1s k rec k0 k1 v) k v
noncomputable def f642l1S (k : Nat) := loopSum ⟨[(1, .one (.ptr 0 0)), (4, oI)], [(0, .var 49 [.str, .str, .ro Y1, .ro (.pair .str .bool), .bool])], 1, []⟩ ⟨[1, 4], [], []⟩ k fun R rec K v => f642l1s k rec (fun w => K .ret (encSt ⟨[(2, oI), (3, oI)], [], 0, []⟩ w)) (fun w => K (.exit 0) (encSt ⟨[], [], 0, []⟩ w)) v
theorem f642l1O (k : Nat) : SumO P Tryz.f142 58 (f642l1S k) := lp tm (f642T k) ⟨[2, 3], [], []⟩ (SumsOk.nil |>.s (f642l0O k) (by kernel_rfl)) (by kernel_rfl) fun _ _ _ _ => by kernel_rfl
noncomputable def f642F (k : Nat) (x : (ByteArray × D12)) : Option (Int × Int) :=
 bif (decide ((x.2.2.1.length : Int) > 4)) then
 some (0, 2)
 else
 f642l1 k
 (fun (w5 : Int × Int × Unit) =>
 some (w5.1, w5.2.1))
 (fun (w6 : Unit) =>
 some (0, 0))
 (0, x.1, x.2.1.1, x.2.1.2, x.2.2.1, x.2.2.2, ())
theorem f642Ok (k : Nat) : FnV P 142 [.agg Y4] [.dat (.int .i64), .dat (.int .i64)] (f642F k) :=
 fs tm (f642T k) Tryz.func142 (by kernel_rfl) (SumsOk.nil |>.s (f642l1O k) (by kernel_rfl) |>.s (f642l0O k) (by kernel_rfl)) none fun _ => by kernel_rfl
noncomputable def f609T (k : Nat) : TB P := TB.nil |>.u (f642Ok k) |>.u (f641Ok k) |>.u (f603Ok k)
noncomputable def f609F (k : Nat) (x : (ByteArray × D12)) : Option (Int × Int) :=
 Option.bind (f603F k x.1) fun y1 =>
 bif (!y1) then
 some (0, 7)
 else
 Option.bind (f641F k (x.2.1.1, x.2.1.2)) fun y2 =>
 bif (y2.2 != 0) then
 some (0, y2.2)
 else
 Option.bind (f642F k (x.1, ((x.2.1.1, x.2.1.2), (x.2.2.1, x.2.2.2)))) fun y3 =>
 some (y3.1, y3.2)
theorem f609Ok (k : Nat) : FnV P 109 [.agg Y4] [.dat (.int .i64), .dat (.int .i64)] (f609F k) :=
 fs tm (f609T k) Tryz.func109 (by kernel_rfl) SumsOk.nil none fun _ => by kernel_rfl
noncomputable def f572T (k : Nat) : TB P := TB.nil |>.u (f609Ok k)
noncomputable def f572F (k : Nat) (x : (ByteArray × D12)) : Option (Int) :=
 Option.bind (f609F k (x.1, ((x.2.1.1, x.2.1.2), (x.2.2.1, x.2.2.2)))) fun y1 =>
 some y1.2
theorem f572Ok (k : Nat) : FnV P 72 [.agg Y4] [.dat (.int .i64)] (f572F k) :=
 fs tm (f572T k) Tryz.func72 (by kernel_rfl) SumsOk.nil none fun _ => by kernel_rfl
noncomputable def f527T (k : Nat) : TB P := TB.nil |>.u (f572Ok k)
noncomputable def f527F (k : Nat) (x : (ByteArray × D12)) : Option (Int) :=
 Option.bind (f572F k (x.1, ((x.2.1.1, x.2.1.2), (x.2.2.1, x.2.2.2)))) fun y1 =>
 some y1
theorem f527Ok (k : Nat) : FnV P 27 [.agg Y4] [.dat (.int .i64)] (f527F k) :=
 fs tm (f527T k) Tryz.func27 (by kernel_rfl) SumsOk.nil none fun _ => by kernel_rfl
noncomputable def f686T (k : Nat) : TB P := TB.nil |>.u (f641Ok k)
noncomputable def f686F (k : Nat) (x : (ByteArray × (List D6))) : Option (Int) :=
 Option.bind (f641F k (x.1, x.2)) fun y1 =>
 some y1.2
theorem f686Ok (k : Nat) : FnV P 186 [.agg Y2] [.dat (.int .i64)] (f686F k) :=
 fs tm (f686T k) Tryz.func186 (by kernel_rfl) SumsOk.nil none fun _ => by kernel_rfl
noncomputable def f618T (k : Nat) : TB P := TB.nil |>.u (f646Ok k)
noncomputable def f618F (k : Nat) (x : (ByteArray × (List D6))) : Option (Int) :=
 Option.bind (f646F k (x.1, x.2)) fun y1 =>
 some y1
theorem f618Ok (k : Nat) : FnV P 118 [.agg Y2] [.dat (.int .i64)] (f618F k) :=
 fs tm (f618T k) Tryz.func118 (by kernel_rfl) SumsOk.nil none fun _ => by kernel_rfl
noncomputable def f702T (k : Nat) : TB P := TB.nil |>.u (f31Ok k)
noncomputable def f702l0s {R : Type} (k : Nat) (rec : D66 → Option R) (k0 : Int × Unit → Option R) (v : D66) : Option R :=
 bif (decide (v.2.2.1 < v.1)) then
 bif ((decide (0 ≤ v.2.2.1)) && (decide (v.2.2.1 < (v.2.2.2.2.1.length : Int)))) then
 let t1 := (v.2.2.2.2.1.getD (Int.toNat v.2.2.1) (ByteArray.empty, (0, (0, 0))))
 Option.bind (f31F k (t1.2.1, (t1.2.2.1, t1.2.2.2))) fun y2 =>
 rec (v.1, (IntKind.i64.wrap (v.2.1 + y2)), (IntKind.i64.wrap (v.2.2.1 + 1)), v.2.2.2.1, v.2.2.2.2.1, ())
 else none
 else
 k0 (v.2.1, ())
noncomputable def f702l0 {R : Type} (k : Nat) (k0 : Int × Unit → Option R) (v : D66) : Option R := iterS (fun rec v => f702l0s k rec k0 v) k v
noncomputable def f702l0S (k : Nat) := loopSum ⟨[(1, oI), (2, .one (.ptr 0 0)), (5, oI), (6, oI)], [(0, .var 46 [.str, .ro Y1])], 1, []⟩ ⟨[1, 2, 5, 6], [], []⟩ k fun R rec K v => f702l0s k rec (fun w => K (.exit 0) (encSt ⟨[(5, oI)], [], 0, []⟩ w)) v
theorem f702l0O (k : Nat) : SumO P Tryz.f202 58 (f702l0S k) := lp tm (f702T k) ⟨[4, 5], [], []⟩ SumsOk.nil (by kernel_rfl) fun _ _ _ _ => by kernel_rfl
noncomputable def f702F (k : Nat) (x : D67) : Option (Int) :=
 f702l0 k
 (fun (w3 : Int × Unit) =>
 some w3.1)
 (x.2, 0, 0, x.1.1, x.1.2, ())
theorem f702Ok (k : Nat) : FnV P 202 [.agg Y2, .dat (.int .i64)] [.dat (.int .i64)] (f702F k) :=
 fs tm (f702T k) Tryz.func202 (by kernel_rfl) (SumsOk.nil |>.s (f702l0O k) (by kernel_rfl)) none fun _ => by kernel_rfl
noncomputable def f688T (k : Nat) : TB P := TB.nil |>.u (f702Ok k) |>.u (f31Ok k)
noncomputable def f688F (k : Nat) (x : D68) : Option (ByteArray) :=
 Option.bind (f702F k ((x.1.1, x.1.2), x.2.2)) fun y1 =>
 bif ((decide (0 ≤ x.2.2)) && (decide (x.2.2 < (x.1.2.length : Int)))) then
 let t2 := (x.1.2.getD (Int.toNat x.2.2) (ByteArray.empty, (0, (0, 0))))
 Option.bind (f31F k (t2.2.1, (t2.2.2.1, t2.2.2.2))) fun y3 =>
 bif (sliceBds y1 (IntKind.i64.wrap (y1 + y3)) (x.2.1.size : Int)) then
 let t4 := (x.2.1.extract (Int.toNat y1) (Int.toNat (IntKind.i64.wrap (y1 + y3))))
 some t4
 else none
 else none
theorem f688Ok (k : Nat) : FnV P 188 [.agg Y2, .dat .str, .dat (.int .i64)] [.dat .str] (f688F k) :=
 fs tm (f688T k) Tryz.func188 (by kernel_rfl) SumsOk.nil none fun _ => by kernel_rfl
noncomputable def f47l0s {R : Type} (k : Nat) (rec : D69 → Option R) (k0 : Int × Unit → Option R) (v : D69) : Option R :=
 bif (decide (v.2.2.2.2.1 < v.2.2.1)) then
 bif ((decide (0 ≤ (IntKind.i64.wrap (v.2.1 + v.2.2.2.2.1)))) && (decide ((IntKind.i64.wrap (v.2.1 + v.2.2.2.2.1)) < (v.1.size : Int)))) then
 let t1 := (IntKind.i64.wrap ((IntKind.i64.wrap (v.2.2.2.1 * 256)) + (IntKind.i64.wrap (bt v.1 (IntKind.i64.wrap (v.2.1 + v.2.2.2.2.1))))))
 rec (v.1, v.2.1, v.2.2.1, t1, (IntKind.i64.wrap (v.2.2.2.2.1 + 1)), ())
 else none
 else
 k0 (v.2.2.2.1, ())
noncomputable def f47l0 {R : Type} (k : Nat) (k0 : Int × Unit → Option R) (v : D69) : Option R := iterS (fun rec v => f47l0s k rec k0 v) k v
noncomputable def f47l0S (k : Nat) := loopSum ⟨[(0, oS), (1, oI), (2, oI), (7, oI), (8, oI)], [], 0, []⟩ ⟨[0, 1, 2, 7, 8], [], []⟩ k fun R rec K v => f47l0s k rec (fun w => K (.exit 0) (encSt ⟨[(7, oI)], [], 0, []⟩ w)) v
theorem f47l0O (k : Nat) : SumO P Tryz.f124 58 (f47l0S k) := lp tm TB.nil ⟨[6, 7], [], []⟩ SumsOk.nil (by kernel_rfl) fun _ _ _ _ => by kernel_rfl
noncomputable def f47F (k : Nat) (x : ByteArray × Int × Int) : Option (Int) :=
 f47l0 k
 (fun (w2 : Int × Unit) =>
 some w2.1)
 (x.1, x.2.1, x.2.2, 0, 0, ())
theorem f47Ok (k : Nat) : FnV P 124 [.dat .str, .dat (.int .i64), .dat (.int .i64)] [.dat (.int .i64)] (f47F k) :=
 fs tm TB.nil Tryz.func124 (by kernel_rfl) (SumsOk.nil |>.s (f47l0O k) (by kernel_rfl)) none fun _ => by kernel_rfl
noncomputable def f81l0s {R : Type} (k : Nat) (rec : Int × Int × Int × Unit → Option R) (k0 : Int × Unit → Option R) (v : Int × Int × Int × Unit) : Option R :=
 bif (decide (v.2.2.1 < v.1)) then
 rec (v.1, (IntKind.i64.wrap (v.2.1 * 10)), (IntKind.i64.wrap (v.2.2.1 + 1)), ())
 else
 k0 (v.2.1, ())
noncomputable def f81l0 {R : Type} (k : Nat) (k0 : Int × Unit → Option R) (v : Int × Int × Int × Unit) : Option R := iterS (fun rec v => f81l0s k rec k0 v) k v
noncomputable def f81l0S (k : Nat) := loopSum ⟨[(0, oI), (3, oI), (4, oI)], [], 0, []⟩ ⟨[0, 3, 4], [], []⟩ k fun R rec K v => f81l0s k rec (fun w => K (.exit 0) (encSt ⟨[(3, oI)], [], 0, []⟩ w)) v
theorem f81l0O (k : Nat) : SumO P Tryz.f208 58 (f81l0S k) := lp tm TB.nil ⟨[2, 3], [], []⟩ SumsOk.nil (by kernel_rfl) fun _ _ _ _ => by kernel_rfl
noncomputable def f81F (k : Nat) (x : Int) : Option (Int) :=
 f81l0 k
 (fun (w1 : Int × Unit) =>
 some w1.1)
 (x, 1, 0, ())
theorem f81Ok (k : Nat) : FnV P 208 [.dat (.int .i64)] [.dat (.int .i64)] (f81F k) :=
 fs tm TB.nil Tryz.func208 (by kernel_rfl) (SumsOk.nil |>.s (f81l0O k) (by kernel_rfl)) none fun _ => by kernel_rfl
noncomputable def f49T (k : Nat) : TB P := TB.nil |>.u (f81Ok k)
noncomputable def f49F (k : Nat) (x : (Int × (Int × Int))) : Option (Int) :=
 Option.bind (f81F k x.2.1) fun y1 =>
 some (IntKind.i64.wrap (y1 - 1))
theorem f49Ok (k : Nat) : FnV P 199 [.agg (.pair (.int .i64) Y0)] [.dat (.int .i64)] (f49F k) :=
 fs tm (f49T k) Tryz.func199 (by kernel_rfl) SumsOk.nil none fun _ => by kernel_rfl
noncomputable def f82p0 {R : Type} (k : Nat) (k0 : Int × Int × Unit → Option R) (v : Int × Int × Unit) : Option R :=
 bif (v.2.1 == 11) then
 k0 ((IntKind.i64.wrap (0 - v.1)), v.2.1, ())
 else
 bif (v.2.1 == 13) then
 k0 ((IntKind.i64.wrap (0 - v.1)), v.2.1, ())
 else
 k0 (v.1, v.2.1, ())
noncomputable def f82p0S (k : Nat) := partSum ⟨[(0, oI), (1, oI)], [], 0, []⟩ ⟨[0, 1], [], []⟩ fun R K v => f82p0 k (fun w => K .normal (encSt ⟨[(0, oI), (1, oI)], [], 0, []⟩ w)) v
theorem f82p0O (k : Nat) : SumO P Tryz.f209 6 (f82p0S k) := pt tm TB.nil ⟨[0, 1, 4, 5], [], []⟩ SumsOk.nil fun _ _ _ => by kernel_rfl
noncomputable def f82F (k : Nat) (x : Int × Int) : Option (Int × Bool) :=
 f82p0 k
 (fun (w1 : Int × Int × Unit) =>
 some (w1.1, (decide (w1.2.1 ≥ 10))))
 (x.1, x.2, ())
theorem f82Ok (k : Nat) : FnV P 209 [.dat (.int .i64), .dat (.int .i64)] [.dat (.int .i64), .dat .bool] (f82F k) :=
 fs tm TB.nil Tryz.func209 (by kernel_rfl) (SumsOk.nil |>.s (f82p0O k) (by kernel_rfl)) none fun _ => by kernel_rfl
noncomputable def f50T (k : Nat) : TB P := TB.nil |>.u (f82Ok k)
noncomputable def f50p0 {R : Type} (k : Nat) (k0 : D70 → Option R) (v : D70) : Option R :=
 bif (v.2.2.2.1 == (IntKind.i64.wrap ((v.1.size : Int) - 1))) then
 bif ((decide (0 ≤ v.2.2.2.1)) && (decide (v.2.2.2.1 < (v.1.size : Int)))) then
 let t1 := (IntKind.i64.wrap (Int.tdiv (IntKind.i64.wrap (bt v.1 v.2.2.2.1)) 16))
 k0 (v.1, v.2.1, t1, v.2.2.2.1, v.2.2.2.2.1, v.2.2.2.2.2.1, ())
 else none
 else
 k0 (v.1, v.2.1, v.2.2.1, v.2.2.2.1, v.2.2.2.2.1, v.2.2.2.2.2.1, ())
noncomputable def f50p0S (k : Nat) := partSum ⟨[(0, oS), (2, .one (.ptr 0 0)), (5, oI), (6, oI), (7, oI)], [(0, .var 231 [.int .i64, .str])], 1, []⟩ ⟨[0, 2, 5, 6, 7], [], []⟩ fun R K v => f50p0 k (fun w => K .normal (encSt ⟨[(0, oS), (2, .one (.ptr 0 0)), (5, oI), (6, oI), (7, oI)], [(0, .var 231 [.int .i64, .str])], 1, []⟩ w)) v
theorem f50p0O (k : Nat) : SumO P Tryz.f200 1864 (f50p0S k) := pt tm (f50T k) ⟨[0, 2, 3, 4, 5, 6, 7], [], []⟩ SumsOk.nil fun _ _ _ => by kernel_rfl
noncomputable def f50l1s {R : Type} (k : Nat) (rec : D70 → Option R) (k0 : D71 → Option R) (k1 : D72 → Option R) (v : D70) : Option R :=
 bif (decide (v.2.2.2.1 < (v.1.size : Int))) then
 f50p0 k
 (fun (w2 : D70) =>
 bif (decide (w2.2.2.1 < 10)) then
 k0 (w2.2.2.2.1, 21, w2.2.1, w2.2.2.1, 0, ByteArray.empty, ())
 else
 bif ((decide (0 ≤ w2.2.2.2.1)) && (decide (w2.2.2.2.1 < (w2.1.size : Int)))) then
 bif (decide ((Int.tmod (bt w2.1 w2.2.2.2.1) 16) > 9)) then
 k0 (w2.2.2.2.1, 21, w2.2.1, w2.2.2.1, 0, ByteArray.empty, ())
 else
 bif ((decide (0 ≤ w2.2.2.2.1)) && (decide (w2.2.2.2.1 < (w2.1.size : Int)))) then
 let t3 := (IntKind.i64.wrap ((IntKind.i64.wrap (10 * w2.2.1)) + (Int.tmod (IntKind.i64.wrap (bt w2.1 w2.2.2.2.1)) 16)))
 rec (w2.1, t3, w2.2.2.1, (IntKind.i64.wrap (w2.2.2.2.1 + 1)), w2.2.2.2.2.1, w2.2.2.2.2.2.1, ())
 else none
 else none)
 (v.1, v.2.1, v.2.2.1, v.2.2.2.1, v.2.2.2.2.1, v.2.2.2.2.2.1, ())
 else
 k1 (v.2.1, v.2.2.1, v.2.2.2.2.1, v.2.2.2.2.2.1, ())
noncomputable def f50l1 {R : Type} (k : Nat) (k0 : D71 → Option R) (k1 : D72 → Option R) (v : D70) : Option R := iterS (fun rec v => f50l1s k rec k0 k1 v) k v
noncomputable def f50l1S (k : Nat) := loopSum ⟨[(0, oS), (2, .one (.ptr 0 0)), (5, oI), (6, oI), (7, oI)], [(0, .var 231 [.int .i64, .str])], 1, []⟩ ⟨[0, 2, 5, 6, 7], [], []⟩ k fun R rec K v => f50l1s k rec (fun w => K .ret (encSt ⟨[(2, .one (.ptr 0 0)), (3, oI), (4, oI), (5, oI), (6, oI)], [(0, .var 231 [.int .i64, .str])], 1, []⟩ w)) (fun w => K (.exit 0) (encSt ⟨[(2, .one (.ptr 0 0)), (5, oI), (6, oI)], [(0, .var 231 [.int .i64, .str])], 1, []⟩ w)) v
theorem f50l1O (k : Nat) : SumO P Tryz.f200 58 (f50l1S k) := lp tm (f50T k) ⟨[2, 3, 4, 5, 6], [], []⟩ (SumsOk.nil |>.s (f50p0O k) (by kernel_rfl)) (by kernel_rfl) fun _ _ _ _ => by kernel_rfl
noncomputable def f50F (k : Nat) (x : ByteArray) : Option (D26) :=
 f50l1 k
 (fun (w4 : D71) =>
 some ((w4.2.2.2.2.1, w4.2.2.2.2.2.1), w4.1, w4.2.1))
 (fun (w5 : D72) =>
 Option.bind (f82F k (w5.1, w5.2.1)) fun y6 =>
 some ((y6.1, ByteArray.empty), 0, 0))
 (x, 0, 15, 0, 0, ByteArray.empty, ())
theorem f50Ok (k : Nat) : FnV P 200 [.dat .str] [.agg Y5, .dat (.int .i64), .dat (.int .i64)] (f50F k) :=
 fs tm (f50T k) Tryz.func200 (by kernel_rfl) (SumsOk.nil |>.s (f50l1O k) (by kernel_rfl) |>.s (f50p0O k) (by kernel_rfl)) none fun _ => by kernel_rfl
noncomputable def f51T (k : Nat) : TB P := TB.nil |>.u (f82Ok k)
noncomputable def f51p0 {R : Type} (k : Nat) (k0 : D73 → Option R) (v : D73) : Option R :=
 bif ((Int.tmod v.2.2.1 2) == 1) then
 bif ((decide (0 ≤ (IntKind.i64.wrap (Int.tdiv v.2.2.1 2)))) && (decide ((IntKind.i64.wrap (Int.tdiv v.2.2.1 2)) < (v.1.size : Int)))) then
 let t2 := (IntKind.i64.wrap (bt v.1 (IntKind.i64.wrap (Int.tdiv v.2.2.1 2))))
 k0 (v.1, v.2.1, v.2.2.1, (Int.tmod t2 16), v.2.2.2.2.1, v.2.2.2.2.2.1, v.2.2.2.2.2.2.1, v.2.2.2.2.2.2.2.1, v.2.2.2.2.2.2.2.2.1, ())
 else none
 else
 k0 (v.1, v.2.1, v.2.2.1, v.2.2.2.1, v.2.2.2.2.1, v.2.2.2.2.2.1, v.2.2.2.2.2.2.1, v.2.2.2.2.2.2.2.1, v.2.2.2.2.2.2.2.2.1, ())
noncomputable def f51p0S (k : Nat) := partSum ⟨[(1, oS), (2, .one (.ptr 0 0)), (4, .one (.ptr 1 0)), (7, oI), (8, oI), (9, oI)], [(0, .var 154 [.int .i64, .int .i64, .int .i64]), (1, .var 231 [.int .i64, .str])], 2, []⟩ ⟨[1, 2, 4, 7, 8, 9], [], []⟩ fun R K v => f51p0 k (fun w => K .normal (encSt ⟨[(1, oS), (2, .one (.ptr 0 0)), (4, .one (.ptr 1 0)), (7, oI), (8, oI), (9, oI)], [(0, .var 154 [.int .i64, .int .i64, .int .i64]), (1, .var 231 [.int .i64, .str])], 2, []⟩ w)) v
theorem f51p0O (k : Nat) : SumO P Tryz.f201 3730 (f51p0S k) := pt tm (f51T k) ⟨[1, 2, 4, 5, 6, 7, 8, 9], [], []⟩ SumsOk.nil fun _ _ _ => by kernel_rfl
noncomputable def f51p1 {R : Type} (k : Nat) (k0 : D74 → Option R) (v : D74) : Option R :=
 let t4 := (IntKind.i64.wrap ((IntKind.i64.wrap (2 * (v.1.size : Int))) - 1))
 bif (v.2.2.1 == t4) then
 k0 (v.1, v.2.1, v.2.2.1, v.2.2.2.1, (decide (v.2.2.2.1 < 10)), v.2.2.2.2.2.1, v.2.2.2.2.2.2.1, v.2.2.2.2.2.2.2.1, v.2.2.2.2.2.2.2.2.1, v.2.2.2.2.2.2.2.2.2.1, ())
 else
 k0 (v.1, v.2.1, v.2.2.1, v.2.2.2.1, v.2.2.2.2.1, v.2.2.2.2.2.1, v.2.2.2.2.2.2.1, v.2.2.2.2.2.2.2.1, v.2.2.2.2.2.2.2.2.1, v.2.2.2.2.2.2.2.2.2.1, ())
noncomputable def f51p1S (k : Nat) := partSum ⟨[(1, oS), (2, .one (.ptr 0 0)), (4, .one (.ptr 1 0)), (7, oI), (8, oI), (9, oI), (10, oB)], [(0, .var 154 [.int .i64, .int .i64, .int .i64]), (1, .var 231 [.int .i64, .str])], 2, []⟩ ⟨[1, 2, 4, 7, 8, 9, 10], [], []⟩ fun R K v => f51p1 k (fun w => K .normal (encSt ⟨[(1, oS), (2, .one (.ptr 0 0)), (4, .one (.ptr 1 0)), (7, oI), (8, oI), (9, oI), (10, oB)], [(0, .var 154 [.int .i64, .int .i64, .int .i64]), (1, .var 231 [.int .i64, .str])], 2, []⟩ w)) v
theorem f51p1O (k : Nat) : SumO P Tryz.f201 14926 (f51p1S k) := pt tm (f51T k) ⟨[1, 2, 4, 5, 6, 7, 8, 9, 10], [], []⟩ SumsOk.nil fun _ _ _ => by kernel_rfl
noncomputable def f51p2 {R : Type} (k : Nat) (k0 : D75 → Option R) (k1 : D73 → Option R) (v : D74) : Option R :=
 bif v.2.2.2.2.1 then
 k0 (v.1, (IntKind.i64.wrap (Int.tdiv v.2.2.1 2)), 21, v.2.1, v.2.2.1, v.2.2.2.1, v.2.2.2.2.2.1, v.2.2.2.2.2.2.1, v.2.2.2.2.2.2.2.1, 0, ByteArray.empty, ())
 else
 bif (v.2.2.1 == 0) then
 bif ((Int.tmod v.2.2.2.2.2.2.1 2) == 0) then
 bif (v.2.2.2.1 != 0) then
 k0 (v.1, (IntKind.i64.wrap (Int.tdiv v.2.2.1 2)), 21, v.2.1, v.2.2.1, v.2.2.2.1, v.2.2.2.2.2.1, v.2.2.2.2.2.2.1, v.2.2.2.2.2.2.2.1, 0, ByteArray.empty, ())
 else
 k1 (v.1, v.2.1, v.2.2.1, v.2.2.2.1, v.2.2.2.2.2.1, v.2.2.2.2.2.2.1, v.2.2.2.2.2.2.2.1, v.2.2.2.2.2.2.2.2.1, v.2.2.2.2.2.2.2.2.2.1, ())
 else
 k1 (v.1, v.2.1, v.2.2.1, v.2.2.2.1, v.2.2.2.2.2.1, v.2.2.2.2.2.2.1, v.2.2.2.2.2.2.2.1, v.2.2.2.2.2.2.2.2.1, v.2.2.2.2.2.2.2.2.2.1, ())
 else
 k1 (v.1, v.2.1, v.2.2.1, v.2.2.2.1, v.2.2.2.2.2.1, v.2.2.2.2.2.2.1, v.2.2.2.2.2.2.2.1, v.2.2.2.2.2.2.2.2.1, v.2.2.2.2.2.2.2.2.2.1, ())
noncomputable def f51p2S (k : Nat) := partSum ⟨[(1, oS), (2, .one (.ptr 0 0)), (4, .one (.ptr 1 0)), (7, oI), (8, oI), (9, oI), (10, oB)], [(0, .var 154 [.int .i64, .int .i64, .int .i64]), (1, .var 231 [.int .i64, .str])], 2, []⟩ ⟨[1, 2, 4, 7, 8, 9, 10], [], []⟩ fun R K v => f51p2 k (fun w => K .ret (encSt ⟨[(1, oS), (2, .one (.ptr 0 0)), (4, .one (.ptr 1 0)), (5, oI), (6, oI), (7, oI), (8, oI), (9, oI)], [(0, .var 154 [.int .i64, .int .i64, .int .i64]), (1, .var 231 [.int .i64, .str])], 2, []⟩ w)) (fun w => K .normal (encSt ⟨[(1, oS), (2, .one (.ptr 0 0)), (4, .one (.ptr 1 0)), (7, oI), (8, oI), (9, oI)], [(0, .var 154 [.int .i64, .int .i64, .int .i64]), (1, .var 231 [.int .i64, .str])], 2, []⟩ w)) v
theorem f51p2O (k : Nat) : SumO P Tryz.f201 29854 (f51p2S k) := pt tm (f51T k) ⟨[1, 2, 4, 5, 6, 7, 8, 9], [], []⟩ SumsOk.nil fun _ _ _ => by kernel_rfl
noncomputable def f51p3 {R : Type} (k : Nat) (k0 : D76 → Option R) (k1 : D77 → Option R) (v : D77) : Option R :=
 bif ((decide (0 ≤ (IntKind.i64.wrap (Int.tdiv v.2.2.1 2)))) && (decide ((IntKind.i64.wrap (Int.tdiv v.2.2.1 2)) < (v.1.size : Int)))) then
 let t1 := (IntKind.i64.wrap (bt v.1 (IntKind.i64.wrap (Int.tdiv v.2.2.1 2))))
 f51p0 k
 (fun (w3 : D73) =>
 f51p1 k
 (fun (w5 : D74) =>
 f51p2 k
 (fun (w6 : D75) =>
 k0 (w6.1, w6.2.1, w6.2.2.1, w6.2.2.2.1, w6.2.2.2.2.1, w6.2.2.2.2.2.2.1, w6.2.2.2.2.2.2.2.1, w6.2.2.2.2.2.2.2.2.1, w6.2.2.2.2.2.2.2.2.2.1, w6.2.2.2.2.2.2.2.2.2.2.1, ()))
 (fun (w7 : D73) =>
 let t8 := (IntKind.i64.wrap ((IntKind.i64.wrap (2 * (w7.1.size : Int))) - 1))
 bif (w7.2.2.1 == t8) then
 Option.bind (f82F k (w7.2.1, w7.2.2.2.1)) fun y9 =>
 k1 (w7.1, y9.1, w7.2.2.1, w7.2.2.2.2.1, w7.2.2.2.2.2.1, w7.2.2.2.2.2.2.1, w7.2.2.2.2.2.2.2.1, w7.2.2.2.2.2.2.2.2.1, ())
 else
 let t10 := (IntKind.i64.wrap ((IntKind.i64.wrap (10 * w7.2.1)) + w7.2.2.2.1))
 k1 (w7.1, t10, w7.2.2.1, w7.2.2.2.2.1, w7.2.2.2.2.2.1, w7.2.2.2.2.2.2.1, w7.2.2.2.2.2.2.2.1, w7.2.2.2.2.2.2.2.2.1, ()))
 (w5.1, w5.2.1, w5.2.2.1, w5.2.2.2.1, w5.2.2.2.2.1, w5.2.2.2.2.2.1, w5.2.2.2.2.2.2.1, w5.2.2.2.2.2.2.2.1, w5.2.2.2.2.2.2.2.2.1, w5.2.2.2.2.2.2.2.2.2.1, ()))
 (w3.1, w3.2.1, w3.2.2.1, w3.2.2.2.1, (decide (w3.2.2.2.1 > 9)), w3.2.2.2.2.1, w3.2.2.2.2.2.1, w3.2.2.2.2.2.2.1, w3.2.2.2.2.2.2.2.1, w3.2.2.2.2.2.2.2.2.1, ()))
 (v.1, v.2.1, v.2.2.1, (IntKind.i64.wrap (Int.tdiv t1 16)), v.2.2.2.1, v.2.2.2.2.1, v.2.2.2.2.2.1, v.2.2.2.2.2.2.1, v.2.2.2.2.2.2.2.1, ())
 else none
noncomputable def f51p3S (k : Nat) := partSum ⟨[(1, oS), (2, .one (.ptr 0 0)), (4, .one (.ptr 1 0)), (7, oI), (8, oI)], [(0, .var 154 [.int .i64, .int .i64, .int .i64]), (1, .var 231 [.int .i64, .str])], 2, []⟩ ⟨[1, 2, 4, 7, 8], [], []⟩ fun R K v => f51p3 k (fun w => K .ret (encSt ⟨[(1, oS), (2, .one (.ptr 0 0)), (4, .one (.ptr 1 0)), (5, oI), (6, oI), (7, oI), (8, oI)], [(0, .var 154 [.int .i64, .int .i64, .int .i64]), (1, .var 231 [.int .i64, .str])], 2, []⟩ w)) (fun w => K .normal (encSt ⟨[(1, oS), (2, .one (.ptr 0 0)), (4, .one (.ptr 1 0)), (7, oI), (8, oI)], [(0, .var 154 [.int .i64, .int .i64, .int .i64]), (1, .var 231 [.int .i64, .str])], 2, []⟩ w)) v
theorem f51p3O (k : Nat) : SumO P Tryz.f201 466 (f51p3S k) := pt tm (f51T k) ⟨[1, 2, 4, 5, 6, 7, 8], [], []⟩ (SumsOk.nil |>.s (f51p2O k) (by kernel_rfl) |>.s (f51p1O k) (by kernel_rfl) |>.s (f51p0O k) (by kernel_rfl)) fun _ _ _ => by kernel_rfl
noncomputable def f51l4s {R : Type} (k : Nat) (rec : D77 → Option R) (k0 : D78 → Option R) (k1 : D79 → Option R) (v : D77) : Option R :=
 bif (decide (v.2.2.1 < (IntKind.i64.wrap (2 * (v.1.size : Int))))) then
 f51p3 k
 (fun (w11 : D76) =>
 k0 (w11.2.1, w11.2.2.1, w11.2.2.2.1, w11.2.2.2.2.2.2.2.2.1, w11.2.2.2.2.2.2.2.2.2.1, ()))
 (fun (w12 : D77) =>
 rec (w12.1, w12.2.1, (IntKind.i64.wrap (w12.2.2.1 + 1)), w12.2.2.2.1, w12.2.2.2.2.1, w12.2.2.2.2.2.1, w12.2.2.2.2.2.2.1, w12.2.2.2.2.2.2.2.1, ()))
 (v.1, v.2.1, v.2.2.1, v.2.2.2.1, v.2.2.2.2.1, v.2.2.2.2.2.1, v.2.2.2.2.2.2.1, v.2.2.2.2.2.2.2.1, ())
 else
 k1 (v.2.1, v.2.2.2.2.2.2.1, v.2.2.2.2.2.2.2.1, ())
noncomputable def f51l4 {R : Type} (k : Nat) (k0 : D78 → Option R) (k1 : D79 → Option R) (v : D77) : Option R := iterS (fun rec v => f51l4s k rec k0 k1 v) k v
noncomputable def f51l4S (k : Nat) := loopSum ⟨[(1, oS), (2, .one (.ptr 0 0)), (4, .one (.ptr 1 0)), (7, oI), (8, oI)], [(0, .var 154 [.int .i64, .int .i64, .int .i64]), (1, .var 231 [.int .i64, .str])], 2, []⟩ ⟨[1, 2, 4, 7, 8], [], []⟩ k fun R rec K v => f51l4s k rec (fun w => K .ret (encSt ⟨[(4, .one (.ptr 0 0)), (5, oI), (6, oI), (7, oI)], [(0, .var 231 [.int .i64, .str])], 1, []⟩ w)) (fun w => K (.exit 0) (encSt ⟨[(4, .one (.ptr 0 0)), (7, oI)], [(0, .var 231 [.int .i64, .str])], 1, []⟩ w)) v
theorem f51l4O (k : Nat) : SumO P Tryz.f201 58 (f51l4S k) := lp tm (f51T k) ⟨[4, 5, 6, 7], [], []⟩ (SumsOk.nil |>.s (f51p3O k) (by kernel_rfl) |>.s (f51p2O k) (by kernel_rfl) |>.s (f51p1O k) (by kernel_rfl) |>.s (f51p0O k) (by kernel_rfl)) (by kernel_rfl) fun _ _ _ _ => by kernel_rfl
noncomputable def f51F (k : Nat) (x : D18) : Option (D26) :=
 f51l4 k
 (fun (w13 : D78) =>
 some ((w13.2.2.2.1, w13.2.2.2.2.1), w13.1, w13.2.1))
 (fun (w14 : D79) =>
 some ((w14.1, ByteArray.empty), 0, 0))
 (x.2, 0, 0, x.1.1, x.1.2.1, x.1.2.2, 0, ByteArray.empty, ())
theorem f51Ok (k : Nat) : FnV P 201 [.agg (.pair (.int .i64) Y0), .dat .str] [.agg Y5, .dat (.int .i64), .dat (.int .i64)] (f51F k) :=
 fs tm (f51T k) Tryz.func201 (by kernel_rfl) (SumsOk.nil |>.s (f51l4O k) (by kernel_rfl) |>.s (f51p3O k) (by kernel_rfl) |>.s (f51p2O k) (by kernel_rfl) |>.s (f51p1O k) (by kernel_rfl) |>.s (f51p0O k) (by kernel_rfl)) none fun _ => by kernel_rfl
noncomputable def f17T (k : Nat) : TB P := TB.nil |>.u (f51Ok k) |>.u (f50Ok k) |>.u (f49Ok k) |>.u (f27Ok k) |>.u (f31Ok k) |>.u (f47Ok k) |>.u (f48Ok k)
noncomputable def f17p0 {R : Type} (k : Nat) (k0 : D71 → Option R) (v : D25) : Option R :=
 bif (decide (0 < (v.1.size : Int))) then
 bif (decide ((bt v.1 0) ≥ 128)) then
 bif (decide (0 ≤ (IntKind.i64.wrap (8 * (v.1.size : Int))))) then
 let t4 := (shlI .i64 1 (IntKind.i64.wrap (8 * (v.1.size : Int))))
 k0 ((IntKind.i64.wrap (v.2.1 - t4)), v.2.2.1, v.2.2.2.1, v.2.2.2.2.1, v.2.2.2.2.2.1, v.2.2.2.2.2.2.1, ())
 else none
 else
 k0 (v.2.1, v.2.2.1, v.2.2.2.1, v.2.2.2.2.1, v.2.2.2.2.2.1, v.2.2.2.2.2.2.1, ())
 else none
noncomputable def f17p0S (k : Nat) := partSum ⟨[(1, oS), (2, .one (.ptr 0 0)), (4, .one (.ptr 1 0)), (8, oI)], [(0, .var 154 [.int .i64, .int .i64, .int .i64]), (1, .var 231 [.int .i64, .str])], 2, []⟩ ⟨[1, 2, 4, 8], [], []⟩ fun R K v => f17p0 k (fun w => K .normal (encSt ⟨[(2, .one (.ptr 0 0)), (4, .one (.ptr 1 0)), (8, oI)], [(0, .var 154 [.int .i64, .int .i64, .int .i64]), (1, .var 231 [.int .i64, .str])], 2, []⟩ w)) v
theorem f17p0O (k : Nat) : SumO P Tryz.f187 16058 (f17p0S k) := pt tm (f17T k) ⟨[2, 4, 5, 6, 8], [], []⟩ SumsOk.nil fun _ _ _ => by kernel_rfl
noncomputable def f17F (k : Nat) (x : D18) : Option (D26) :=
 Option.bind (f27F k (x.1.1, (x.1.2.1, x.1.2.2))) fun y1 =>
 bif (y1 != 0) then
 some ((0, ByteArray.empty), 0, y1)
 else
 bif (x.1.1 == 4) then
 some ((0, ByteArray.empty), 0, 17)
 else
 Option.bind (f31F k (x.1.1, (x.1.2.1, x.1.2.2))) fun y2 =>
 bif ((x.2.size : Int) != y2) then
 some ((0, ByteArray.empty), 0, 18)
 else
 bif (x.1.1 == 0) then
 some ((0, x.2), 0, 0)
 else
 bif (x.1.1 == 3) then
 Option.bind (f47F k (x.2, 0, (x.2.size : Int))) fun y3 =>
 f17p0 k
 (fun (w5 : D71) =>
 Option.bind (f49F k (w5.2.1, (w5.2.2.1, w5.2.2.2.1))) fun y6 =>
 Option.bind (f49F k (w5.2.1, (w5.2.2.1, w5.2.2.2.1))) fun y7 =>
 Option.bind (f48F k (w5.1, (IntKind.i64.wrap (0 - y6)), y7)) fun y8 =>
 bif (!y8) then
 some ((0, ByteArray.empty), 0, 19)
 else
 some ((w5.1, ByteArray.empty), 0, 0))
 (x.2, y3, x.1.1, x.1.2.1, x.1.2.2, 0, ByteArray.empty, ())
 else
 bif (x.1.1 == 2) then
 Option.bind (f50F k x.2) fun y9 =>
 some ((y9.1.1, y9.1.2), y9.2.1, y9.2.2)
 else
 Option.bind (f51F k ((x.1.1, (x.1.2.1, x.1.2.2)), x.2)) fun y10 =>
 some ((y10.1.1, y10.1.2), y10.2.1, y10.2.2)
theorem f17Ok (k : Nat) : FnV P 187 [.agg (.pair (.int .i64) Y0), .dat .str] [.agg Y5, .dat (.int .i64), .dat (.int .i64)] (f17F k) :=
 fs tm (f17T k) Tryz.func187 (by kernel_rfl) (SumsOk.nil |>.s (f17p0O k) (by kernel_rfl)) none fun _ => by kernel_rfl
noncomputable def f671T (k : Nat) : TB P := TB.nil |>.u (f688Ok k) |>.u (f17Ok k) |>.u (f686Ok k) |>.u (f618Ok k)
noncomputable def f671l0s {R : Type} (k : Nat) (rec : D58 → Option R) (k0 : Int × Int × Unit → Option R) (k1 : Unit → Option R) (v : D58) : Option R :=
 bif (decide (v.2.1 < (v.2.2.2.1.length : Int))) then
 bif ((decide (0 ≤ v.2.1)) && (decide (v.2.1 < (v.2.2.2.1.length : Int)))) then
 let t3 := (v.2.2.2.1.getD (Int.toNat v.2.1) (ByteArray.empty, (0, (0, 0))))
 Option.bind (f688F k ((v.2.2.1, v.2.2.2.1), v.1, v.2.1)) fun y4 =>
 Option.bind (f17F k ((t3.2.1, (t3.2.2.1, t3.2.2.2)), y4)) fun y5 =>
 bif (y5.2.2 != 0) then
 k0 (v.2.1, y5.2.2, ())
 else
 rec (v.1, (IntKind.i64.wrap (v.2.1 + 1)), v.2.2.1, v.2.2.2.1, ())
 else none
 else
 k1 (())
noncomputable def f671l0 {R : Type} (k : Nat) (k0 : Int × Int × Unit → Option R) (k1 : Unit → Option R) (v : D58) : Option R := iterS (fun rec v => f671l0s k rec k0 k1 v) k v
noncomputable def f671l0S (k : Nat) := loopSum ⟨[(1, oS), (2, .one (.ptr 0 0)), (7, oI)], [(0, .var 46 [.str, .ro Y1])], 1, []⟩ ⟨[1, 2, 7], [], []⟩ k fun R rec K v => f671l0s k rec (fun w => K .ret (encSt ⟨[(4, oI), (5, oI)], [], 0, []⟩ w)) (fun w => K (.exit 0) (encSt ⟨[], [], 0, []⟩ w)) v
theorem f671l0O (k : Nat) : SumO P Tryz.f171 122 (f671l0S k) := lp tm (f671T k) ⟨[4, 5], [], []⟩ SumsOk.nil (by kernel_rfl) fun _ _ _ _ => by kernel_rfl
noncomputable def f671F (k : Nat) (x : D8) : Option (Int × Int) :=
 Option.bind (f686F k (x.1.1, x.1.2)) fun y1 =>
 bif (y1 != 0) then
 some (0, y1)
 else
 Option.bind (f618F k (x.1.1, x.1.2)) fun y2 =>
 bif ((x.2.size : Int) != y2) then
 some (0, 18)
 else
 f671l0 k
 (fun (w6 : Int × Int × Unit) =>
 some (w6.1, w6.2.1))
 (fun (w7 : Unit) =>
 some (0, 0))
 (x.2, 0, x.1.1, x.1.2, ())
theorem f671Ok (k : Nat) : FnV P 171 [.agg Y2, .dat .str] [.dat (.int .i64), .dat (.int .i64)] (f671F k) :=
 fs tm (f671T k) Tryz.func171 (by kernel_rfl) (SumsOk.nil |>.s (f671l0O k) (by kernel_rfl)) none fun _ => by kernel_rfl
noncomputable def f655T (k : Nat) : TB P := TB.nil |>.u (f671Ok k)
noncomputable def f655F (k : Nat) (x : D8) : Option (Int) :=
 Option.bind (f671F k ((x.1.1, x.1.2), x.2)) fun y1 =>
 some y1.2
theorem f655Ok (k : Nat) : FnV P 155 [.agg Y2, .dat .str] [.dat (.int .i64)] (f655F k) :=
 fs tm (f655T k) Tryz.func155 (by kernel_rfl) SumsOk.nil none fun _ => by kernel_rfl
noncomputable def f635T (k : Nat) : TB P := TB.nil |>.u (f655Ok k) |>.u (f527Ok k)
noncomputable def f635p0 {R : Type} (k : Nat) (k0 : D80 → Option R) (k1 : D81 → Option R) (v : D81) : Option R :=
 bif v.2.2.2.2.2.2.2.1 then
 bif (!strEq v.2.2.2.2.2.2.2.2.1 ByteArray.empty) then
 k0 (v.1, 5, v.1, v.2.1, v.2.2.1, v.2.2.2.1, v.2.2.2.2.1, v.2.2.2.2.2.1, v.2.2.2.2.2.2.1, v.2.2.2.2.2.2.2.1, v.2.2.2.2.2.2.2.2.1, ())
 else
 k1 (v.1, v.2.1, v.2.2.1, v.2.2.2.1, v.2.2.2.2.1, v.2.2.2.2.2.1, v.2.2.2.2.2.2.1, v.2.2.2.2.2.2.2.1, v.2.2.2.2.2.2.2.2.1, ())
 else
 k1 (v.1, v.2.1, v.2.2.1, v.2.2.2.1, v.2.2.2.2.1, v.2.2.2.2.2.1, v.2.2.2.2.2.2.1, v.2.2.2.2.2.2.2.1, v.2.2.2.2.2.2.2.2.1, ())
noncomputable def f635p0S (k : Nat) := partSum ⟨[(1, .one (.ptr 0 0)), (5, oI), (6, .one (.ptr 1 0))], [(0, .var 52 [.str, .str, .ro Y1, .ro (.pair .str .bool), .bool, .ro (.pair .bool .str)]), (1, .var 100 [.bool, .str])], 2, []⟩ ⟨[1, 5, 6], [], []⟩ fun R K v => f635p0 k (fun w => K .ret (encSt ⟨[(1, .one (.ptr 0 0)), (2, oI), (3, oI), (5, oI), (6, .one (.ptr 1 0))], [(0, .var 52 [.str, .str, .ro Y1, .ro (.pair .str .bool), .bool, .ro (.pair .bool .str)]), (1, .var 100 [.bool, .str])], 2, []⟩ w)) (fun w => K .normal (encSt ⟨[(1, .one (.ptr 0 0)), (5, oI), (6, .one (.ptr 1 0))], [(0, .var 52 [.str, .str, .ro Y1, .ro (.pair .str .bool), .bool, .ro (.pair .bool .str)]), (1, .var 100 [.bool, .str])], 2, []⟩ w)) v
theorem f635p0O (k : Nat) : SumO P Tryz.f135 7826 (f635p0S k) := pt tm (f635T k) ⟨[1, 2, 3, 5, 6], [], []⟩ SumsOk.nil fun _ _ _ => by kernel_rfl
noncomputable def f635p1 {R : Type} (k : Nat) (k0 : D82 → Option R) (k1 : D83 → Option R) (v : D83) : Option R :=
 bif ((decide (0 ≤ v.1)) && (decide (v.1 < (v.2.2.2.2.2.2.1.length : Int)))) then
 f635p0 k
 (fun (w2 : D80) =>
 k0 (w2.1, w2.2.1, w2.2.2.1, w2.2.2.2.1, w2.2.2.2.2.1, w2.2.2.2.2.2.1, w2.2.2.2.2.2.2.1, w2.2.2.2.2.2.2.2.1, w2.2.2.2.2.2.2.2.2.1, ()))
 (fun (w3 : D81) =>
 bif (!w3.2.2.2.2.2.2.2.1) then
 Option.bind (f655F k ((w3.2.2.1, w3.2.2.2.1), w3.2.2.2.2.2.2.2.2.1)) fun y4 =>
 bif (y4 != 0) then
 k0 (w3.1, y4, w3.1, w3.2.1, w3.2.2.1, w3.2.2.2.1, w3.2.2.2.2.1, w3.2.2.2.2.2.1, w3.2.2.2.2.2.2.1, ())
 else
 k1 (w3.1, w3.2.1, w3.2.2.1, w3.2.2.2.1, w3.2.2.2.2.1, w3.2.2.2.2.2.1, w3.2.2.2.2.2.2.1, ())
 else
 k1 (w3.1, w3.2.1, w3.2.2.1, w3.2.2.2.1, w3.2.2.2.2.1, w3.2.2.2.2.2.1, w3.2.2.2.2.2.2.1, ()))
 (v.1, v.2.1, v.2.2.1, v.2.2.2.1, v.2.2.2.2.1, v.2.2.2.2.2.1, v.2.2.2.2.2.2.1, (v.2.2.2.2.2.2.1.getD (Int.toNat v.1) (false, ByteArray.empty)).1, (v.2.2.2.2.2.2.1.getD (Int.toNat v.1) (false, ByteArray.empty)).2, ())
 else none
noncomputable def f635p1S (k : Nat) := partSum ⟨[(1, .one (.ptr 0 0)), (5, oI)], [(0, .var 52 [.str, .str, .ro Y1, .ro (.pair .str .bool), .bool, .ro (.pair .bool .str)])], 1, []⟩ ⟨[1, 5], [], []⟩ fun R K v => f635p1 k (fun w => K .ret (encSt ⟨[(1, .one (.ptr 0 0)), (2, oI), (3, oI), (5, oI)], [(0, .var 52 [.str, .str, .ro Y1, .ro (.pair .str .bool), .bool, .ro (.pair .bool .str)])], 1, []⟩ w)) (fun w => K .normal (encSt ⟨[(1, .one (.ptr 0 0)), (5, oI)], [(0, .var 52 [.str, .str, .ro Y1, .ro (.pair .str .bool), .bool, .ro (.pair .bool .str)])], 1, []⟩ w)) v
theorem f635p1O (k : Nat) : SumO P Tryz.f135 978 (f635p1S k) := pt tm (f635T k) ⟨[1, 2, 3, 5], [], []⟩ (SumsOk.nil |>.s (f635p0O k) (by kernel_rfl)) fun _ _ _ => by kernel_rfl
noncomputable def f635l2s {R : Type} (k : Nat) (rec : D83 → Option R) (k0 : Int × Int × Unit → Option R) (k1 : Unit → Option R) (v : D83) : Option R :=
 bif (decide (v.1 < (v.2.2.2.2.2.2.1.length : Int))) then
 f635p1 k
 (fun (w5 : D82) =>
 k0 (w5.1, w5.2.1, ()))
 (fun (w6 : D83) =>
 rec ((IntKind.i64.wrap (w6.1 + 1)), w6.2.1, w6.2.2.1, w6.2.2.2.1, w6.2.2.2.2.1, w6.2.2.2.2.2.1, w6.2.2.2.2.2.2.1, ()))
 (v.1, v.2.1, v.2.2.1, v.2.2.2.1, v.2.2.2.2.1, v.2.2.2.2.2.1, v.2.2.2.2.2.2.1, ())
 else
 k1 (())
noncomputable def f635l2 {R : Type} (k : Nat) (k0 : Int × Int × Unit → Option R) (k1 : Unit → Option R) (v : D83) : Option R := iterS (fun rec v => f635l2s k rec k0 k1 v) k v
noncomputable def f635l2S (k : Nat) := loopSum ⟨[(1, .one (.ptr 0 0)), (5, oI)], [(0, .var 52 [.str, .str, .ro Y1, .ro (.pair .str .bool), .bool, .ro (.pair .bool .str)])], 1, []⟩ ⟨[1, 5], [], []⟩ k fun R rec K v => f635l2s k rec (fun w => K .ret (encSt ⟨[(2, oI), (3, oI)], [], 0, []⟩ w)) (fun w => K (.exit 0) (encSt ⟨[], [], 0, []⟩ w)) v
theorem f635l2O (k : Nat) : SumO P Tryz.f135 122 (f635l2S k) := lp tm (f635T k) ⟨[2, 3], [], []⟩ (SumsOk.nil |>.s (f635p1O k) (by kernel_rfl) |>.s (f635p0O k) (by kernel_rfl)) (by kernel_rfl) fun _ _ _ _ => by kernel_rfl
noncomputable def f635F (k : Nat) (x : D34) : Option (Int × Int) :=
 Option.bind (f527F k (x.1.1, ((x.1.2.1.1, x.1.2.1.2), (x.1.2.2.1, x.1.2.2.2)))) fun y1 =>
 bif (y1 != 0) then
 some (0, y1)
 else
 bif (decide ((x.2.length : Int) > 60)) then
 some (0, 2)
 else
 f635l2 k
 (fun (w7 : Int × Int × Unit) =>
 some (w7.1, w7.2.1))
 (fun (w8 : Unit) =>
 some (0, 0))
 (0, x.1.1, x.1.2.1.1, x.1.2.1.2, x.1.2.2.1, x.1.2.2.2, x.2, ())
theorem f635Ok (k : Nat) : FnV P 135 [.agg Y6] [.dat (.int .i64), .dat (.int .i64)] (f635F k) :=
 fs tm (f635T k) Tryz.func135 (by kernel_rfl) (SumsOk.nil |>.s (f635l2O k) (by kernel_rfl) |>.s (f635p1O k) (by kernel_rfl) |>.s (f635p0O k) (by kernel_rfl)) none fun _ => by kernel_rfl
noncomputable def f599T (k : Nat) : TB P := TB.nil |>.u (f635Ok k)
noncomputable def f599F (k : Nat) (x : D34) : Option (Int) :=
 Option.bind (f635F k ((x.1.1, ((x.1.2.1.1, x.1.2.1.2), (x.1.2.2.1, x.1.2.2.2))), x.2)) fun y1 =>
 some y1.2
theorem f599Ok (k : Nat) : FnV P 99 [.agg Y6] [.dat (.int .i64)] (f599F k) :=
 fs tm (f599T k) Tryz.func99 (by kernel_rfl) SumsOk.nil none fun _ => by kernel_rfl
noncomputable def f545l0s {R : Type} (k : Nat) (rec : D84 → Option R) (k0 : Int × Unit → Option R) (k1 : Unit → Option R) (v : D84) : Option R :=
 bif (decide (v.2.2.1 < (v.1.length : Int))) then
 bif ((decide (0 ≤ v.2.2.1)) && (decide (v.2.2.1 < (v.1.length : Int)))) then
 let t1 := (v.1.getD (Int.toNat v.2.2.1) ((ByteArray.empty, ((ByteArray.empty, []), ([], false))), []))
 bif (strEq t1.1.1 v.2.1) then
 k0 (v.2.2.1, ())
 else
 rec (v.1, v.2.1, (IntKind.i64.wrap (v.2.2.1 + 1)), ())
 else none
 else
 k1 (())
noncomputable def f545l0 {R : Type} (k : Nat) (k0 : Int × Unit → Option R) (k1 : Unit → Option R) (v : D84) : Option R := iterS (fun rec v => f545l0s k rec k0 k1 v) k v
noncomputable def f545l0S (k : Nat) := loopSum ⟨[(0, .one (.ro Y6)), (1, oS), (5, oI)], [], 0, []⟩ ⟨[0, 1, 5], [], []⟩ k fun R rec K v => f545l0s k rec (fun w => K .ret (encSt ⟨[(4, oI)], [], 0, []⟩ w)) (fun w => K (.exit 0) (encSt ⟨[], [], 0, []⟩ w)) v
theorem f545l0O (k : Nat) : SumO P Tryz.f45 26 (f545l0S k) := lp tm TB.nil ⟨[4], [], []⟩ SumsOk.nil (by kernel_rfl) fun _ _ _ _ => by kernel_rfl
noncomputable def f545F (k : Nat) (x : (List D34) × ByteArray) : Option (Int) :=
 f545l0 k
 (fun (w2 : Int × Unit) =>
 some w2.1)
 (fun (w3 : Unit) =>
 some (-1))
 (x.1, x.2, 0, ())
theorem f545Ok (k : Nat) : FnV P 45 [.dat (.slice Y6), .dat .str] [.dat (.int .i64)] (f545F k) :=
 fs tm TB.nil Tryz.func45 (by kernel_rfl) (SumsOk.nil |>.s (f545l0O k) (by kernel_rfl)) none fun _ => by kernel_rfl
noncomputable def f556T (k : Nat) : TB P := TB.nil |>.u (f599Ok k) |>.u (f545Ok k)
noncomputable def f556l0s {R : Type} (k : Nat) (rec : List D34 × Int × Unit → Option R) (k0 : Int × Int × Unit → Option R) (k1 : Unit → Option R) (v : List D34 × Int × Unit) : Option R :=
 bif (decide (v.2.1 < (v.1.length : Int))) then
 bif ((decide (0 ≤ v.2.1)) && (decide (v.2.1 < (v.1.length : Int)))) then
 let t1 := (v.1.getD (Int.toNat v.2.1) ((ByteArray.empty, ((ByteArray.empty, []), ([], false))), []))
 Option.bind (f599F k ((t1.1.1, ((t1.1.2.1.1, t1.1.2.1.2), (t1.1.2.2.1, t1.1.2.2.2))), t1.2)) fun y2 =>
 bif (y2 != 0) then
 k0 (v.2.1, y2, ())
 else
 bif ((decide (0 ≤ v.2.1)) && (decide (v.2.1 < (v.1.length : Int)))) then
 let t3 := (v.1.getD (Int.toNat v.2.1) ((ByteArray.empty, ((ByteArray.empty, []), ([], false))), []))
 Option.bind (f545F k (v.1, t3.1.1)) fun y4 =>
 bif (decide (y4 < v.2.1)) then
 k0 (v.2.1, 13, ())
 else
 rec (v.1, (IntKind.i64.wrap (v.2.1 + 1)), ())
 else none
 else none
 else
 k1 (())
noncomputable def f556l0 {R : Type} (k : Nat) (k0 : Int × Int × Unit → Option R) (k1 : Unit → Option R) (v : List D34 × Int × Unit) : Option R := iterS (fun rec v => f556l0s k rec k0 k1 v) k v
noncomputable def f556l0S (k : Nat) := loopSum ⟨[(0, .one (.ro Y6)), (4, oI)], [], 0, []⟩ ⟨[0, 4], [], []⟩ k fun R rec K v => f556l0s k rec (fun w => K .ret (encSt ⟨[(2, oI), (3, oI)], [], 0, []⟩ w)) (fun w => K (.exit 0) (encSt ⟨[], [], 0, []⟩ w)) v
theorem f556l0O (k : Nat) : SumO P Tryz.f56 58 (f556l0S k) := lp tm (f556T k) ⟨[2, 3], [], []⟩ SumsOk.nil (by kernel_rfl) fun _ _ _ _ => by kernel_rfl
noncomputable def f556F (k : Nat) (x : (List D34)) : Option (Int × Int) :=
 bif (decide ((x.length : Int) > 8)) then
 some (0, 2)
 else
 f556l0 k
 (fun (w5 : Int × Int × Unit) =>
 some (w5.1, w5.2.1))
 (fun (w6 : Unit) =>
 some (0, 0))
 (x, 0, ())
theorem f556Ok (k : Nat) : FnV P 56 [.dat (.slice Y6)] [.dat (.int .i64), .dat (.int .i64)] (f556F k) :=
 fs tm (f556T k) Tryz.func56 (by kernel_rfl) (SumsOk.nil |>.s (f556l0O k) (by kernel_rfl)) none fun _ => by kernel_rfl
noncomputable def f518T (k : Nat) : TB P := TB.nil |>.u (f556Ok k)
noncomputable def f518F (k : Nat) (x : (List D34)) : Option (Int × Int) :=
 Option.bind (f556F k x) fun y1 =>
 some (y1.1, y1.2)
theorem f518Ok (k : Nat) : FnV P 18 [.dat (.slice Y6)] [.dat (.int .i64), .dat (.int .i64)] (f518F k) :=
 fs tm (f518T k) Tryz.func18 (by kernel_rfl) SumsOk.nil none fun _ => by kernel_rfl
noncomputable def f563T (k : Nat) : TB P := TB.nil |>.u (f518Ok k)
noncomputable def f563F (k : Nat) (x : (List D34)) : Option (Int) :=
 Option.bind (f518F k x) fun y1 =>
 some y1.2
theorem f563Ok (k : Nat) : FnV P 63 [.dat (.slice Y6)] [.dat (.int .i64)] (f563F k) :=
 fs tm (f563T k) Tryz.func63 (by kernel_rfl) SumsOk.nil none fun _ => by kernel_rfl
noncomputable def f590l0s {R : Type} (k : Nat) (rec : D85 → Option R) (k0 : Int × Unit → Option R) (k1 : Unit → Option R) (v : D85) : Option R :=
 bif (decide (v.2.2.1 < (v.1.length : Int))) then
 bif ((decide (0 ≤ v.2.2.1)) && (decide (v.2.2.1 < (v.1.length : Int)))) then
 bif (strEq (v.1.getD (Int.toNat v.2.2.1) ByteArray.empty) v.2.1) then
 k0 (v.2.2.1, ())
 else
 rec (v.1, v.2.1, (IntKind.i64.wrap (v.2.2.1 + 1)), ())
 else none
 else
 k1 (())
noncomputable def f590l0 {R : Type} (k : Nat) (k0 : Int × Unit → Option R) (k1 : Unit → Option R) (v : D85) : Option R := iterS (fun rec v => f590l0s k rec k0 k1 v) k v
noncomputable def f590l0S (k : Nat) := loopSum ⟨[(0, .one (.ro .str)), (1, oS), (5, oI)], [], 0, []⟩ ⟨[0, 1, 5], [], []⟩ k fun R rec K v => f590l0s k rec (fun w => K .ret (encSt ⟨[(4, oI)], [], 0, []⟩ w)) (fun w => K (.exit 0) (encSt ⟨[], [], 0, []⟩ w)) v
theorem f590l0O (k : Nat) : SumO P Tryz.f90 26 (f590l0S k) := lp tm TB.nil ⟨[4], [], []⟩ SumsOk.nil (by kernel_rfl) fun _ _ _ _ => by kernel_rfl
noncomputable def f590F (k : Nat) (x : D49) : Option (Int) :=
 f590l0 k
 (fun (w1 : Int × Unit) =>
 some w1.1)
 (fun (w2 : Unit) =>
 some (-1))
 (x.1, x.2, 0, ())
theorem f590Ok (k : Nat) : FnV P 90 [.dat (.slice .str), .dat .str] [.dat (.int .i64)] (f590F k) :=
 fs tm TB.nil Tryz.func90 (by kernel_rfl) (SumsOk.nil |>.s (f590l0O k) (by kernel_rfl)) none fun _ => by kernel_rfl
noncomputable def f565T (k : Nat) : TB P := TB.nil |>.u (f603Ok k) |>.u (f590Ok k)
noncomputable def f565l0s {R : Type} (k : Nat) (rec : D86 → Option R) (k0 : Int × Unit → Option R) (k1 : Unit → Option R) (v : D86) : Option R :=
 bif (decide (v.2.1 < (v.1.length : Int))) then
 bif ((decide (0 ≤ v.2.1)) && (decide (v.2.1 < (v.1.length : Int)))) then
 Option.bind (f603F k (v.1.getD (Int.toNat v.2.1) ByteArray.empty)) fun y1 =>
 bif (!y1) then
 k0 (7, ())
 else
 bif ((decide (0 ≤ v.2.1)) && (decide (v.2.1 < (v.1.length : Int)))) then
 Option.bind (f590F k (v.1, (v.1.getD (Int.toNat v.2.1) ByteArray.empty))) fun y2 =>
 bif (decide (y2 < v.2.1)) then
 k0 (13, ())
 else
 rec (v.1, (IntKind.i64.wrap (v.2.1 + 1)), ())
 else none
 else none
 else
 k1 (())
noncomputable def f565l0 {R : Type} (k : Nat) (k0 : Int × Unit → Option R) (k1 : Unit → Option R) (v : D86) : Option R := iterS (fun rec v => f565l0s k rec k0 k1 v) k v
noncomputable def f565l0S (k : Nat) := loopSum ⟨[(0, .one (.ro .str)), (3, oI)], [], 0, []⟩ ⟨[0, 3], [], []⟩ k fun R rec K v => f565l0s k rec (fun w => K .ret (encSt ⟨[(2, oI)], [], 0, []⟩ w)) (fun w => K (.exit 0) (encSt ⟨[], [], 0, []⟩ w)) v
theorem f565l0O (k : Nat) : SumO P Tryz.f65 58 (f565l0S k) := lp tm (f565T k) ⟨[2], [], []⟩ SumsOk.nil (by kernel_rfl) fun _ _ _ _ => by kernel_rfl
noncomputable def f565F (k : Nat) (x : (List ByteArray)) : Option (Int) :=
 bif (decide ((x.length : Int) > 6)) then
 some 2
 else
 f565l0 k
 (fun (w3 : Int × Unit) =>
 some w3.1)
 (fun (w4 : Unit) =>
 some 0)
 (x, 0, ())
theorem f565Ok (k : Nat) : FnV P 65 [.dat (.slice .str)] [.dat (.int .i64)] (f565F k) :=
 fs tm (f565T k) Tryz.func65 (by kernel_rfl) (SumsOk.nil |>.s (f565l0O k) (by kernel_rfl)) none fun _ => by kernel_rfl
noncomputable def f77l0s {R : Type} (k : Nat) (rec : D14 → Option R) (k0 : List Int × Unit → Option R) (v : D14) : Option R :=
 bif (decide (v.2.2.1 < v.2.1)) then
 bif ((decide (0 ≤ (IntKind.i64.wrap ((IntKind.i64.wrap (v.2.1 - 1)) - v.2.2.1)))) && (decide ((IntKind.i64.wrap ((IntKind.i64.wrap (v.2.1 - 1)) - v.2.2.1)) < (v.2.2.2.1.length : Int)))) then
 let t1 := (v.2.2.2.1.set (Int.toNat (IntKind.i64.wrap ((IntKind.i64.wrap (v.2.1 - 1)) - v.2.2.1))) (IntKind.u8.wrap (Int.tmod v.1 256)))
 rec ((IntKind.i64.wrap (Int.tdiv v.1 256)), v.2.1, (IntKind.i64.wrap (v.2.2.1 + 1)), t1, ())
 else none
 else
 k0 (v.2.2.2.1, ())
noncomputable def f77l0 {R : Type} (k : Nat) (k0 : List Int × Unit → Option R) (v : D14) : Option R := iterS (fun rec v => f77l0s k rec k0 v) k v
noncomputable def f77l0S (k : Nat) := loopSum ⟨[(0, oI), (1, oI), (5, .one (.own 0)), (6, oI)], [(0, .row 5 (.int .u8) .plain)], 1, []⟩ ⟨[0, 1, 5, 6], [], []⟩ k fun R rec K v => f77l0s k rec (fun w => K (.exit 0) (encSt ⟨[(5, .one (.own 0))], [(0, .row 5 (.int .u8) .plain)], 1, []⟩ w)) v
theorem f77l0O (k : Nat) : SumO P Tryz.f100 58 (f77l0S k) := lp tm TB.nil ⟨[4, 5], [], []⟩ SumsOk.nil (by kernel_rfl) fun _ _ _ _ => by kernel_rfl
noncomputable def f77F (k : Nat) (x : Int × Int) : Option (ByteArray) :=
 bif (((decide (0 ≤ x.2)) && (decide ((x.2 * 1) ≤ 140737488355328))) && (decide (x.2 ≤ 281474976710656))) then
 f77l0 k
 (fun (w2 : List Int × Unit) =>
 some (strOfNums w2.1))
 (x.1, x.2, 0, (List.replicate (Int.toNat x.2) 0), ())
 else none
theorem f77Ok (k : Nat) : FnV P 100 [.dat (.int .i64), .dat (.int .i64)] [.dat .str] (f77F k) :=
 fs tm TB.nil Tryz.func100 (by kernel_rfl) (SumsOk.nil |>.s (f77l0O k) (by kernel_rfl)) none fun _ => by kernel_rfl
noncomputable def f557T (k : Nat) : TB P := TB.nil |>.u (f77Ok k)
noncomputable def f557F (k : Nat) (x : Int) : Option (ByteArray) :=
 Option.bind (f77F k (x, 1)) fun y1 =>
 some y1
theorem f557Ok (k : Nat) : FnV P 57 [.dat (.int .i64)] [.dat .str] (f557F k) :=
 fs tm (f557T k) Tryz.func57 (by kernel_rfl) SumsOk.nil none fun _ => by kernel_rfl
noncomputable def f72l0s {R : Type} (k : Nat) (rec : D14 → Option R) (k0 : List Int × Unit → Option R) (v : D14) : Option R :=
 bif (decide (v.2.2.1 < v.2.1)) then
 bif (decide ((v.2.2.2.1.length + [v.1].length) * 1 ≤ 140737488355328) && decide (v.2.2.2.1.length + [v.1].length ≤ 9223372036854775807)) then
 rec (v.1, v.2.1, (IntKind.i64.wrap (v.2.2.1 + 1)), (v.2.2.2.1 ++ [v.1]), ())
 else none
 else
 k0 (v.2.2.2.1, ())
noncomputable def f72l0 {R : Type} (k : Nat) (k0 : List Int × Unit → Option R) (v : D14) : Option R := iterS (fun rec v => f72l0s k rec k0 v) k v
noncomputable def f72l0S (k : Nat) := loopSum ⟨[(0, .one (.int .u8)), (1, oI), (5, .one (.own 0)), (6, oI)], [(0, .row 5 (.int .u8) .plain)], 1, []⟩ ⟨[0, 1, 5, 6], [(5, 5, (.int .u8))], []⟩ k fun R rec K v => f72l0s k rec (fun w => K (.exit 0) (encSt ⟨[(5, .one (.own 0))], [(0, .row 5 (.int .u8) .plain)], 1, []⟩ w)) v
theorem f72l0O (k : Nat) : SumO P Tryz.f104 58 (f72l0S k) := lp tm TB.nil ⟨[4, 5], [], []⟩ SumsOk.nil (by kernel_rfl) fun _ _ _ _ => by kernel_rfl
noncomputable def f72F (k : Nat) (x : Int × Int) : Option (ByteArray) :=
 f72l0 k
 (fun (w1 : List Int × Unit) =>
 some (strOfNums w1.1))
 (x.1, x.2, 0, [], ())
theorem f72Ok (k : Nat) : FnV P 104 [.dat (.int .u8), .dat (.int .i64)] [.dat .str] (f72F k) :=
 fs tm TB.nil Tryz.func104 (by kernel_rfl) (SumsOk.nil |>.s (f72l0O k) (by kernel_rfl)) none fun _ => by kernel_rfl
noncomputable def f74T (k : Nat) : TB P := TB.nil |>.u (f72Ok k)
noncomputable def f74F (k : Nat) (x : ByteArray × Int) : Option (ByteArray) :=
 bif (decide ((x.1.size : Int) ≥ x.2)) then
 bif (sliceBds 0 x.2 (x.1.size : Int)) then
 some (x.1.extract 0 (Int.toNat x.2))
 else none
 else
 Option.bind (f72F k (32, (IntKind.i64.wrap (x.2 - (x.1.size : Int))))) fun y1 =>
 bif (decide (x.1.size + y1.size ≤ 9223372036854775807)) then
 some (x.1 ++ y1)
 else none
theorem f74Ok (k : Nat) : FnV P 101 [.dat .str, .dat (.int .i64)] [.dat .str] (f74F k) :=
 fs tm (f74T k) Tryz.func101 (by kernel_rfl) SumsOk.nil none fun _ => by kernel_rfl
noncomputable def f558T (k : Nat) : TB P := TB.nil |>.u (f74Ok k)
noncomputable def f558F (k : Nat) (x : ByteArray) : Option (ByteArray) :=
 Option.bind (f74F k (x, 10)) fun y1 =>
 some y1
theorem f558Ok (k : Nat) : FnV P 58 [.dat .str] [.dat .str] (f558F k) :=
 fs tm (f558T k) Tryz.func58 (by kernel_rfl) SumsOk.nil none fun _ => by kernel_rfl
noncomputable def f559T (k : Nat) : TB P := TB.nil |>.u (f558Ok k) |>.u (f557Ok k) |>.u (f69Ok k)
noncomputable def f559l0s {R : Type} (k : Nat) (rec : D88 → Option R) (k0 : D87 → Option R) (v : D88) : Option R :=
 bif (decide (v.2.1 < (v.2.2.2.2.1.length : Int))) then
 bif ((decide (0 ≤ v.2.1)) && (decide (v.2.1 < (v.2.2.2.2.1.length : Int)))) then
 let t2 := (v.2.2.2.2.1.getD (Int.toNat v.2.1) (ByteArray.empty, (0, (0, 0))))
 Option.bind (f558F k t2.1) fun y3 =>
 bif (decide (v.1.size + y3.size ≤ 9223372036854775807)) then
 Option.bind (f557F k t2.2.1) fun y4 =>
 bif (decide ((v.1 ++ y3).size + y4.size ≤ 9223372036854775807)) then
 Option.bind (f557F k t2.2.2.1) fun y5 =>
 bif (decide (((v.1 ++ y3) ++ y4).size + y5.size ≤ 9223372036854775807)) then
 Option.bind (f557F k t2.2.2.2) fun y6 =>
 bif (decide ((((v.1 ++ y3) ++ y4) ++ y5).size + y6.size ≤ 9223372036854775807)) then
 rec (((((v.1 ++ y3) ++ y4) ++ y5) ++ y6), (IntKind.i64.wrap (v.2.1 + 1)), v.2.2.1, v.2.2.2.1, v.2.2.2.2.1, v.2.2.2.2.2.1, v.2.2.2.2.2.2.1, ())
 else none
 else none
 else none
 else none
 else none
 else
 k0 (v.1, v.2.2.1, v.2.2.2.1, v.2.2.2.2.1, v.2.2.2.2.2.1, v.2.2.2.2.2.2.1, ())
noncomputable def f559l0 {R : Type} (k : Nat) (k0 : D87 → Option R) (v : D88) : Option R := iterS (fun rec v => f559l0s k rec k0 v) k v
noncomputable def f559l0S (k : Nat) := loopSum ⟨[(1, .one (.ptr 0 0)), (3, oS), (4, oI)], [(0, .var 49 [.str, .str, .ro Y1, .ro (.pair .str .bool), .bool])], 1, []⟩ ⟨[1, 3, 4], [], []⟩ k fun R rec K v => f559l0s k rec (fun w => K (.exit 0) (encSt ⟨[(1, .one (.ptr 0 0)), (3, oS)], [(0, .var 49 [.str, .str, .ro Y1, .ro (.pair .str .bool), .bool])], 1, []⟩ w)) v
theorem f559l0O (k : Nat) : SumO P Tryz.f59 58 (f559l0S k) := lp tm (f559T k) ⟨[1, 2, 3], [], []⟩ SumsOk.nil (by kernel_rfl) fun _ _ _ _ => by kernel_rfl
noncomputable def f559l1s {R : Type} (k : Nat) (rec : D88 → Option R) (k0 : ByteArray × Unit → Option R) (v : D88) : Option R :=
 bif (decide (v.2.1 < (v.2.2.2.2.2.1.length : Int))) then
 bif ((decide (0 ≤ v.2.1)) && (decide (v.2.1 < (v.2.2.2.2.2.1.length : Int)))) then
 Option.bind (f558F k (v.2.2.2.2.2.1.getD (Int.toNat v.2.1) (ByteArray.empty, false)).1) fun y9 =>
 bif (decide (v.1.size + y9.size ≤ 9223372036854775807)) then
 bif ((decide (0 ≤ v.2.1)) && (decide (v.2.1 < (v.2.2.2.2.2.1.length : Int)))) then
 Option.bind (f69F k (v.2.2.2.2.2.1.getD (Int.toNat v.2.1) (ByteArray.empty, false)).2) fun y10 =>
 Option.bind (f557F k y10) fun y11 =>
 bif (decide ((v.1 ++ y9).size + y11.size ≤ 9223372036854775807)) then
 rec (((v.1 ++ y9) ++ y11), (IntKind.i64.wrap (v.2.1 + 1)), v.2.2.1, v.2.2.2.1, v.2.2.2.2.1, v.2.2.2.2.2.1, v.2.2.2.2.2.2.1, ())
 else none
 else none
 else none
 else none
 else
 k0 (v.1, ())
noncomputable def f559l1 {R : Type} (k : Nat) (k0 : ByteArray × Unit → Option R) (v : D88) : Option R := iterS (fun rec v => f559l1s k rec k0 v) k v
noncomputable def f559l1S (k : Nat) := loopSum ⟨[(1, .one (.ptr 0 0)), (3, oS), (6, oI)], [(0, .var 49 [.str, .str, .ro Y1, .ro (.pair .str .bool), .bool])], 1, []⟩ ⟨[1, 3, 6], [], []⟩ k fun R rec K v => f559l1s k rec (fun w => K (.exit 2) (encSt ⟨[(3, oS)], [], 0, []⟩ w)) v
theorem f559l1O (k : Nat) : SumO P Tryz.f59 250 (f559l1S k) := lp tm (f559T k) ⟨[2, 3], [], []⟩ SumsOk.nil (by kernel_rfl) fun _ _ _ _ => by kernel_rfl
noncomputable def f559F (k : Nat) (x : (ByteArray × D12)) : Option (ByteArray) :=
 Option.bind (f557F k (x.2.1.2.length : Int)) fun y1 =>
 f559l0 k
 (fun (w7 : D87) =>
 Option.bind (f557F k (w7.2.2.2.2.1.length : Int)) fun y8 =>
 bif (decide (w7.1.size + y8.size ≤ 9223372036854775807)) then
 f559l1 k
 (fun (w12 : ByteArray × Unit) =>
 some w12.1)
 ((w7.1 ++ y8), 0, w7.2.1, w7.2.2.1, w7.2.2.2.1, w7.2.2.2.2.1, w7.2.2.2.2.2.1, ())
 else none)
 (y1, 0, x.1, x.2.1.1, x.2.1.2, x.2.2.1, x.2.2.2, ())
theorem f559Ok (k : Nat) : FnV P 59 [.agg Y4] [.dat .str] (f559F k) :=
 fs tm (f559T k) Tryz.func59 (by kernel_rfl) (SumsOk.nil |>.s (f559l1O k) (by kernel_rfl) |>.s (f559l0O k) (by kernel_rfl)) none fun _ => by kernel_rfl
noncomputable def f519T (k : Nat) : TB P := TB.nil |>.u (f559Ok k) |>.u (f558Ok k) |>.u (f557Ok k) |>.u (f69Ok k)
noncomputable def f519l0s {R : Type} (k : Nat) (rec : D89 → Option R) (k0 : D84 → Option R) (v : D89) : Option R :=
 bif ((decide (0 ≤ v.2.2.1)) && (decide (v.2.2.1 < (v.1.length : Int)))) then
 let t10 := (v.1.getD (Int.toNat v.2.2.1) ((ByteArray.empty, ((ByteArray.empty, []), ([], false))), []))
 bif (decide (v.2.2.2.1 < (t10.2.length : Int))) then
 bif ((decide (0 ≤ v.2.2.1)) && (decide (v.2.2.1 < (v.1.length : Int)))) then
 let t11 := (v.1.getD (Int.toNat v.2.2.1) ((ByteArray.empty, ((ByteArray.empty, []), ([], false))), []))
 bif ((decide (0 ≤ v.2.2.2.1)) && (decide (v.2.2.2.1 < (t11.2.length : Int)))) then
 Option.bind (f69F k (!(t11.2.getD (Int.toNat v.2.2.2.1) (false, ByteArray.empty)).1)) fun y12 =>
 Option.bind (f557F k y12) fun y13 =>
 bif (decide (v.2.1.size + y13.size ≤ 9223372036854775807)) then
 bif (decide ((v.2.1 ++ y13).size + (t11.2.getD (Int.toNat v.2.2.2.1) (false, ByteArray.empty)).2.size ≤ 9223372036854775807)) then
 let t14 := ((v.2.1 ++ y13) ++ (t11.2.getD (Int.toNat v.2.2.2.1) (false, ByteArray.empty)).2)
 rec (v.1, t14, v.2.2.1, (IntKind.i64.wrap (v.2.2.2.1 + 1)), ())
 else none
 else none
 else none
 else none
 else
 k0 (v.1, v.2.1, v.2.2.1, ())
 else none
noncomputable def f519l0 {R : Type} (k : Nat) (k0 : D84 → Option R) (v : D89) : Option R := iterS (fun rec v => f519l0s k rec k0 v) k v
noncomputable def f519l0S (k : Nat) := loopSum ⟨[(0, .one (.ro Y6)), (3, oS), (4, oI), (6, oI)], [], 0, []⟩ ⟨[0, 3, 4, 6], [], []⟩ k fun R rec K v => f519l0s k rec (fun w => K (.exit 2) (encSt ⟨[(0, .one (.ro Y6)), (3, oS), (4, oI)], [], 0, []⟩ w)) v
theorem f519l0O (k : Nat) : SumO P Tryz.f19 14926 (f519l0S k) := lp tm (f519T k) ⟨[0, 2, 3, 4], [], []⟩ SumsOk.nil (by kernel_rfl) fun _ _ _ _ => by kernel_rfl
noncomputable def f519l1s {R : Type} (k : Nat) (rec : D84 → Option R) (k0 : ByteArray × Unit → Option R) (v : D84) : Option R :=
 bif (decide (v.2.2.1 < (v.1.length : Int))) then
 bif ((decide (0 ≤ v.2.2.1)) && (decide (v.2.2.1 < (v.1.length : Int)))) then
 let t2 := (v.1.getD (Int.toNat v.2.2.1) ((ByteArray.empty, ((ByteArray.empty, []), ([], false))), []))
 Option.bind (f558F k t2.1.1) fun y3 =>
 bif (decide (v.2.1.size + y3.size ≤ 9223372036854775807)) then
 Option.bind (f558F k t2.1.2.1.1) fun y4 =>
 bif (decide ((v.2.1 ++ y3).size + y4.size ≤ 9223372036854775807)) then
 Option.bind (f559F k (t2.1.1, ((t2.1.2.1.1, t2.1.2.1.2), (t2.1.2.2.1, t2.1.2.2.2)))) fun y5 =>
 bif (decide (((v.2.1 ++ y3) ++ y4).size + y5.size ≤ 9223372036854775807)) then
 Option.bind (f69F k t2.1.2.2.2) fun y6 =>
 Option.bind (f557F k y6) fun y7 =>
 bif (decide ((((v.2.1 ++ y3) ++ y4) ++ y5).size + y7.size ≤ 9223372036854775807)) then
 bif ((decide (0 ≤ v.2.2.1)) && (decide (v.2.2.1 < (v.1.length : Int)))) then
 let t8 := (v.1.getD (Int.toNat v.2.2.1) ((ByteArray.empty, ((ByteArray.empty, []), ([], false))), []))
 Option.bind (f557F k (t8.2.length : Int)) fun y9 =>
 bif (decide (((((v.2.1 ++ y3) ++ y4) ++ y5) ++ y7).size + y9.size ≤ 9223372036854775807)) then
 f519l0 k
 (fun (w15 : D84) =>
 rec (w15.1, w15.2.1, (IntKind.i64.wrap (w15.2.2.1 + 1)), ()))
 (v.1, (((((v.2.1 ++ y3) ++ y4) ++ y5) ++ y7) ++ y9), v.2.2.1, 0, ())
 else none
 else none
 else none
 else none
 else none
 else none
 else none
 else
 k0 (v.2.1, ())
noncomputable def f519l1 {R : Type} (k : Nat) (k0 : ByteArray × Unit → Option R) (v : D84) : Option R := iterS (fun rec v => f519l1s k rec k0 v) k v
noncomputable def f519l1S (k : Nat) := loopSum ⟨[(0, .one (.ro Y6)), (3, oS), (4, oI)], [], 0, []⟩ ⟨[0, 3, 4], [], []⟩ k fun R rec K v => f519l1s k rec (fun w => K (.exit 0) (encSt ⟨[(3, oS)], [], 0, []⟩ w)) v
theorem f519l1O (k : Nat) : SumO P Tryz.f19 58 (f519l1S k) := lp tm (f519T k) ⟨[2, 3], [], []⟩ (SumsOk.nil |>.s (f519l0O k) (by kernel_rfl)) (by kernel_rfl) fun _ _ _ _ => by kernel_rfl
noncomputable def f519F (k : Nat) (x : (List D34)) : Option (ByteArray) :=
 Option.bind (f557F k (x.length : Int)) fun y1 =>
 f519l1 k
 (fun (w16 : ByteArray × Unit) =>
 some w16.1)
 (x, y1, 0, ())
theorem f519Ok (k : Nat) : FnV P 19 [.dat (.slice Y6)] [.dat .str] (f519F k) :=
 fs tm (f519T k) Tryz.func19 (by kernel_rfl) (SumsOk.nil |>.s (f519l1O k) (by kernel_rfl) |>.s (f519l0O k) (by kernel_rfl)) none fun _ => by kernel_rfl
noncomputable def f566F (k : Nat) (x : ByteArray) : Option (Int) :=
 let t1 := (IntKind.i64.wrap ((IntKind.i64.wrap ((x.size : Int) + 52)) - 1))
 some (IntKind.i64.wrap (Int.tdiv t1 52))
theorem f566Ok (k : Nat) : FnV P 66 [.dat .str] [.dat (.int .i64)] (f566F k) :=
 fs tm TB.nil Tryz.func66 (by kernel_rfl) SumsOk.nil none fun _ => by kernel_rfl
noncomputable def f573l0s {R : Type} (k : Nat) (rec : D46 → Option R) (k0 : Int × Unit → Option R) (v : D46) : Option R :=
 bif (decide (v.2.2.1 < (v.1.size : Int))) then
 bif ((decide (0 ≤ v.2.2.1)) && (decide (v.2.2.1 < (v.1.size : Int)))) then
 let t1 := (IntKind.i64.wrap ((IntKind.i64.wrap (257 * v.2.1)) + (IntKind.i64.wrap (bt v.1 v.2.2.1))))
 rec (v.1, (Int.tmod (IntKind.i64.wrap (t1 + 1)) 4294967291), (IntKind.i64.wrap (v.2.2.1 + 1)), ())
 else none
 else
 k0 (v.2.1, ())
noncomputable def f573l0 {R : Type} (k : Nat) (k0 : Int × Unit → Option R) (v : D46) : Option R := iterS (fun rec v => f573l0s k rec k0 v) k v
noncomputable def f573l0S (k : Nat) := loopSum ⟨[(0, oS), (3, oI), (4, oI)], [], 0, []⟩ ⟨[0, 3, 4], [], []⟩ k fun R rec K v => f573l0s k rec (fun w => K (.exit 0) (encSt ⟨[(3, oI)], [], 0, []⟩ w)) v
theorem f573l0O (k : Nat) : SumO P Tryz.f73 58 (f573l0S k) := lp tm TB.nil ⟨[2, 3], [], []⟩ SumsOk.nil (by kernel_rfl) fun _ _ _ _ => by kernel_rfl
noncomputable def f573F (k : Nat) (x : ByteArray) : Option (Int) :=
 f573l0 k
 (fun (w2 : Int × Unit) =>
 some w2.1)
 (x, 1, 0, ())
theorem f573Ok (k : Nat) : FnV P 73 [.dat .str] [.dat (.int .i64)] (f573F k) :=
 fs tm TB.nil Tryz.func73 (by kernel_rfl) (SumsOk.nil |>.s (f573l0O k) (by kernel_rfl)) none fun _ => by kernel_rfl
noncomputable def f605T (k : Nat) : TB P := TB.nil |>.u (f77Ok k) |>.u (f573Ok k)
noncomputable def f605F (k : Nat) (x : ByteArray) : Option (ByteArray) :=
 Option.bind (f573F k x) fun y1 =>
 Option.bind (f77F k (y1, 4)) fun y2 =>
 bif (decide (x.size + y2.size ≤ 9223372036854775807)) then
 some (x ++ y2)
 else none
theorem f605Ok (k : Nat) : FnV P 105 [.dat .str] [.dat .str] (f605F k) :=
 fs tm (f605T k) Tryz.func105 (by kernel_rfl) SumsOk.nil none fun _ => by kernel_rfl
noncomputable def f567T (k : Nat) : TB P := TB.nil |>.u (f605Ok k) |>.u (f72Ok k) |>.u (f77Ok k) |>.u (f557Ok k) |>.u (f69Ok k)
noncomputable def f567F (k : Nat) (x : (Int × (Int × D90))) : Option (ByteArray) :=
 Option.bind (f557F k x.1) fun y1 =>
 Option.bind (f77F k (x.2.1, 2)) fun y2 =>
 bif (decide (y1.size + y2.size ≤ 9223372036854775807)) then
 Option.bind (f69F k x.2.2.2.1) fun y3 =>
 let t4 := (IntKind.i64.wrap ((x.2.2.1.size : Int) + (IntKind.i64.wrap (128 * y3))))
 Option.bind (f557F k t4) fun y5 =>
 bif (decide ((y1 ++ y2).size + y5.size ≤ 9223372036854775807)) then
 bif (decide (((y1 ++ y2) ++ y5).size + x.2.2.1.size ≤ 9223372036854775807)) then
 Option.bind (f72F k (0, (IntKind.i64.wrap (52 - (x.2.2.1.size : Int))))) fun y6 =>
 bif (decide ((((y1 ++ y2) ++ y5) ++ x.2.2.1).size + y6.size ≤ 9223372036854775807)) then
 Option.bind (f557F k x.2.2.2.2) fun y7 =>
 bif (decide (((((y1 ++ y2) ++ y5) ++ x.2.2.1) ++ y6).size + y7.size ≤ 9223372036854775807)) then
 Option.bind (f72F k (0, 3)) fun y8 =>
 bif (decide ((((((y1 ++ y2) ++ y5) ++ x.2.2.1) ++ y6) ++ y7).size + y8.size ≤ 9223372036854775807)) then
 Option.bind (f605F k ((((((y1 ++ y2) ++ y5) ++ x.2.2.1) ++ y6) ++ y7) ++ y8)) fun y9 =>
 some y9
 else none
 else none
 else none
 else none
 else none
 else none
theorem f567Ok (k : Nat) : FnV P 67 [.agg (.pair (.int .i64) Y10)] [.dat .str] (f567F k) :=
 fs tm (f567T k) Tryz.func67 (by kernel_rfl) SumsOk.nil none fun _ => by kernel_rfl
noncomputable def f523T (k : Nat) : TB P := TB.nil |>.u (f567Ok k) |>.u (f566Ok k) |>.u (f565Ok k) |>.u (f48Ok k) |>.u (f563Ok k) |>.u (f519Ok k)
noncomputable def f523p0 {R : Type} (k : Nat) (k0 : D91 → Option R) (v : D91) : Option R :=
 bif (!(decide (v.2.1 = 0))) then
 bif ((Int.tmod v.2.2.2.2.2.1 v.2.1) == 0) then
 bif ((decide (0 ≤ (v.2.2.2.2.2.2.1.length : Int))) && (decide ((v.2.2.2.2.2.2.1.length : Int) < (v.1.length : Int)))) then
 let t7 := [((v.1.getD (Int.toNat (v.2.2.2.2.2.2.1.length : Int)) ByteArray.empty), (0 : Nat))]
 bif (decide ((v.2.2.2.2.2.2.1.length + t7.length) * 40 ≤ 140737488355328) && decide (v.2.2.2.2.2.2.1.length + t7.length ≤ 9223372036854775807)) then
 k0 (v.1, v.2.1, v.2.2.1, v.2.2.2.1, v.2.2.2.2.1, v.2.2.2.2.2.1, (v.2.2.2.2.2.2.1 ++ t7), v.2.2.2.2.2.2.2.1, ())
 else none
 else none
 else
 k0 (v.1, v.2.1, v.2.2.1, v.2.2.2.1, v.2.2.2.2.1, v.2.2.2.2.2.1, v.2.2.2.2.2.2.1, v.2.2.2.2.2.2.2.1, ())
 else none
noncomputable def f523p0S (k : Nat) := partSum ⟨[(1, .one (.ro .str)), (2, oI), (10, oS), (11, oI), (12, oI), (13, .one (.own 0)), (14, oI)], [(0, .row 81 Y7 .plain), (1, .heap 9 .str)], 2, []⟩ ⟨[1, 2, 10, 11, 12, 13, 14], [], []⟩ fun R K v => f523p0 k (fun w => K .normal (encSt ⟨[(1, .one (.ro .str)), (2, oI), (10, oS), (11, oI), (12, oI), (13, .one (.own 0)), (14, oI)], [(0, .row 81 Y7 .plain), (1, .heap 9 .str)], 2, []⟩ w)) v
theorem f523p0O (k : Nat) : SumO P Tryz.f23 261960 (f523p0S k) := pt htm0 (f523T k) ⟨[1, 2, 6, 7, 10, 11, 12, 13, 14], [], []⟩ SumsOk.nil fun _ _ _ => by kernel_rfl
noncomputable def f523l1s {R : Type} (k : Nat) (rec : D91 → Option R) (k0 : D53 → Option R) (v : D91) : Option R :=
 bif (decide (v.2.2.2.2.2.1 < v.2.2.2.1)) then
 f523p0 k
 (fun (w8 : D91) =>
 let t9 := (IntKind.i64.wrap ((IntKind.i64.wrap (w8.2.2.2.2.2.1 + 1)) * 52))
 bif (sliceBds (IntKind.i64.wrap (w8.2.2.2.2.2.1 * 52)) (mnI (w8.2.2.1.size : Int) t9) (w8.2.2.1.size : Int)) then
 let t10 := (w8.2.2.1.extract (Int.toNat (IntKind.i64.wrap (w8.2.2.2.2.2.1 * 52))) (Int.toNat (mnI (w8.2.2.1.size : Int) t9)))
 Option.bind (f567F k ((w8.2.2.2.2.2.2.1.length : Int), ((IntKind.i64.wrap (w8.2.2.2.2.2.1 + 1)), (t10, ((w8.2.2.2.2.2.1 == (IntKind.i64.wrap (w8.2.2.2.1 - 1))), w8.2.2.2.2.1))))) fun y11 =>
 bif ((decide (0 ≤ (IntKind.i64.wrap ((w8.2.2.2.2.2.2.1.length : Int) - 1)))) && (decide ((IntKind.i64.wrap ((w8.2.2.2.2.2.2.1.length : Int) - 1)) < (w8.2.2.2.2.2.2.1.length : Int)))) then
 let t12 := (w8.2.2.2.2.2.2.1.getD (Int.toNat (IntKind.i64.wrap ((w8.2.2.2.2.2.2.1.length : Int) - 1))) (ByteArray.empty, (0 : Nat))).2
 bif (kown w8.2.2.2.2.2.2.2.1 t12 && (decide (((kget w8.2.2.2.2.2.2.2.1 t12).length + [y11].length) * 16 ≤ 140737488355328) && decide ((kget w8.2.2.2.2.2.2.2.1 t12).length + [y11].length ≤ 9223372036854775807))) then
 let t13 := (kapp w8.2.2.2.2.2.2.2.1 t12 (kget w8.2.2.2.2.2.2.2.1 t12).length [y11])
 bif ((decide (0 ≤ (IntKind.i64.wrap ((w8.2.2.2.2.2.2.1.length : Int) - 1)))) && (decide ((IntKind.i64.wrap ((w8.2.2.2.2.2.2.1.length : Int) - 1)) < (w8.2.2.2.2.2.2.1.length : Int)))) then
 let t14 := (w8.2.2.2.2.2.2.1.set (Int.toNat (IntKind.i64.wrap ((w8.2.2.2.2.2.2.1.length : Int) - 1))) ((w8.2.2.2.2.2.2.1.getD (Int.toNat (IntKind.i64.wrap ((w8.2.2.2.2.2.2.1.length : Int) - 1))) (ByteArray.empty, (0 : Nat))).1, (w8.2.2.2.2.2.2.2.1.length + 1)))
 rec (w8.1, w8.2.1, w8.2.2.1, w8.2.2.2.1, w8.2.2.2.2.1, (IntKind.i64.wrap (w8.2.2.2.2.2.1 + 1)), t14, t13, ())
 else none
 else none
 else none
 else none)
 (v.1, v.2.1, v.2.2.1, v.2.2.2.1, v.2.2.2.2.1, v.2.2.2.2.2.1, v.2.2.2.2.2.2.1, v.2.2.2.2.2.2.2.1, ())
 else
 k0 (v.2.2.2.2.2.2.1, v.2.2.2.2.2.2.2.1, ())
noncomputable def f523l1 {R : Type} (k : Nat) (k0 : D53 → Option R) (v : D91) : Option R := iterS (fun rec v => f523l1s k rec k0 v) k v
noncomputable def f523l1S (k : Nat) := loopSum ⟨[(1, .one (.ro .str)), (2, oI), (10, oS), (11, oI), (12, oI), (13, .one (.own 0)), (14, oI)], [(0, .row 81 Y7 .plain), (1, .heap 9 .str)], 2, []⟩ ⟨[1, 2, 10, 11, 12, 13, 14], [(13, 81, Y7)], []⟩ k fun R rec K v => f523l1s k rec (fun w => K (.exit 0) (encSt ⟨[(13, .one (.own 0))], [(0, .row 81 Y7 .plain), (1, .heap 9 .str)], 2, []⟩ w)) v
theorem f523l1O (k : Nat) : SumO P Tryz.f23 8186 (f523l1S k) := lp htm0 (f523T k) ⟨[6, 7, 13], [], []⟩ (SumsOk.nil |>.s (f523p0O k) (by kernel_rfl)) (by kernel_rfl) fun _ _ _ _ => by kernel_rfl
noncomputable def f523F (k : Nat) (x : D55) : Option ((List D56) × Int) :=
 Option.bind (f563F k x.1) fun y1 =>
 bif (y1 != 0) then
 some ([], y1)
 else
 Option.bind (f48F k (x.2.2, 1, 60)) fun y2 =>
 bif (!y2) then
 some ([], 3)
 else
 Option.bind (f565F k x.2.1) fun y3 =>
 bif (y3 != 0) then
 some ([], y3)
 else
 Option.bind (f519F k x.1) fun y4 =>
 Option.bind (f566F k y4) fun y5 =>
 bif (!(decide (x.2.2 = 0))) then
 let t6 := (IntKind.i64.wrap (Int.tdiv (IntKind.i64.wrap ((IntKind.i64.wrap (y5 + x.2.2)) - 1)) x.2.2))
 bif (decide (t6 > (x.2.1.length : Int))) then
 some ([], 30)
 else
 f523l1 k
 (fun (w15 : D53) =>
 bif ((w15.1.all fun q => (true && (kro (List.map Kid.frz w15.2.1) q.2))) && true) then
 some ((w15.1.map fun q => (q.1, (kget (List.map Kid.frz w15.2.1) q.2))), 0)
 else none)
 (x.2.1, x.2.2, y4, y5, t6, 0, [], [], ())
 else none
theorem f523Ok (k : Nat) : FnV P 23 [.dat (.slice Y6), .dat (.slice .str), .dat (.int .i64)] [.dat (.slice Y8), .dat (.int .i64)] (f523F k) :=
 fs htm0 (f523T k) Tryz.func23 (by kernel_rfl) (SumsOk.nil |>.s (f523l1O k) (by kernel_rfl) |>.s (f523p0O k) (by kernel_rfl)) (some (9, .str)) fun _ => by kernel_rfl
end Go.Proofs.YtobgkcamonlnkaaGreatDoor
