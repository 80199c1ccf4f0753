/- What functions of the program compute: each as a plain Lean function, and that the code comes to it. Printed by gen.py. -/
import Derived.Test.YtobgkcamonlnkaaGreatDoorAC
import Derived.Test.YtobgkcamonlnkaaGreatDoorProg
import Derived.Test.YtobgkcamonlnkaaGreatDoorSJ
/-! Printed by gen.py: what functions compute. -/
set_option linter.unusedVariables false
set_option maxRecDepth 100000
namespace Go.Proofs.YtobgkcamonlnkaaGreatDoor
open Go.Ab
@[reducible] noncomputable def P : Program := Tryz.prog
@[reducible] def Y0 : Ty := (.pair (.int .i64) (.int .i64))
@[reducible] def Y1 : Ty := (.pair .str (.pair (.int .i64) Y0))
@[reducible] def Y2 : Ty := (.pair .str (.slice Y1))
@[reducible] def Y3 : Ty := (.pair (.slice (.pair .str .bool)) .bool)
@[reducible] def Y4 : Ty := (.pair .str (.pair Y2 Y3))
@[reducible] def Y5 : Ty := (.pair (.int .i64) .str)
@[reducible] def Y6 : Ty := (.pair Y4 (.slice (.pair .bool .str)))
@[reducible] def Y7 : Ty := (.pair .str (.ref .str))
@[reducible] def Y8 : Ty := (.pair .str (.slice .str))
@[reducible] def Y9 : Ty := (.pair .bool (.int .i64))
@[reducible] def Y10 : Ty := (.pair (.int .i64) (.pair .str Y9))
abbrev D0 := Int × Int × List Int × Unit
abbrev D1 := Bool × Int × Int × List Int × Unit
abbrev D2 := List Int × Int × Int × Unit
abbrev D3 := Bool × Int × Bool × Int × Int × Int × Unit
abbrev D4 := Bool × Int × Int × Int × Int × Unit
abbrev D5 := Bool × Int × Int × Int × Unit
abbrev D6 := (ByteArray × (Int × (Int × Int)))
abbrev D7 := ByteArray × Int × List D6 × Int × Int × Unit
abbrev D8 := (ByteArray × (List D6)) × ByteArray
abbrev D9 := Int × List D6 × Int × Int × ByteArray × List D6 × Unit
abbrev D10 := List (ByteArray × Bool) × Int × Int × ByteArray × ByteArray × List D6 × List (ByteArray × Bool) × Bool × List (ByteArray × Bool) × Unit
abbrev D11 := ((List (ByteArray × Bool)) × Bool)
abbrev D12 := ((ByteArray × (List D6)) × D11)
abbrev D13 := Int × List D6 × Int × Int × Unit
abbrev D14 := Int × Int × Int × List Int × Unit
abbrev D15 := (Int × (Int × Int)) × (Int × ByteArray)
abbrev D16 := ByteArray × Int × Int × Int × Int × Int × List Int × List Int × Unit
abbrev D17 := ByteArray × Int × Int × Int × List Int × List Int × Unit
abbrev D18 := (Int × (Int × Int)) × ByteArray
abbrev D19 := Int × Int × Int × Int × Int × Int × List Int × Int × Int × Int × Int × Int × List Int × List Int × Unit
abbrev D20 := Int × Int × Int × List Int × Int × Int × Int × Int × Int × List Int × List Int × Unit
abbrev D21 := Int × Int × Int × Int × Int × List Int × List Int × Unit
abbrev D22 := Int × Int × List Int × List Int × Unit
abbrev D23 := Int × Int × Int × Int × List Int × Int × Int × Int × Int × Int × List Int × List Int × Unit
abbrev D24 := Int × Int × List Int × Int × Int × Int × Int × Int × List Int × List Int × Unit
abbrev D25 := ByteArray × Int × Int × Int × Int × Int × ByteArray × Unit
abbrev D26 := (Int × ByteArray) × Int × Int
abbrev D27 := Int × Int × List (Int × ByteArray) × Unit
abbrev D28 := List (Int × ByteArray) × Unit
abbrev D29 := ByteArray × List D6 × Int × Int × List (Int × ByteArray) × Unit
abbrev D30 := List (Int × ByteArray) × Int × Int
abbrev D31 := Int × Int × List (Bool × ByteArray) × Int × Int × ByteArray × ByteArray × List D6 × List (ByteArray × Bool) × Bool × List (Bool × ByteArray) × Unit
abbrev D32 := Int × Int × List (Bool × ByteArray) × Int × Int × ByteArray × ByteArray × List D6 × List (ByteArray × Bool) × Bool × List (Bool × ByteArray) × Bool × ByteArray × Unit
abbrev D33 := List (Bool × ByteArray) × Int × Int × ByteArray × ByteArray × List D6 × List (ByteArray × Bool) × Bool × List (Bool × ByteArray) × Unit
abbrev D34 := ((ByteArray × D12) × (List (Bool × ByteArray)))
abbrev D35 := ByteArray × ByteArray × List D6 × List (ByteArray × Bool) × Bool × List (Bool × ByteArray) × ByteArray × Unit
abbrev D36 := List D34 × Int × Int × ByteArray × Unit
abbrev D37 := List D34 × ByteArray × Unit
abbrev D38 := List D34 × List D34 × Int × Int × Unit
abbrev D39 := List Int × List Int × Unit
abbrev D40 := ByteArray × List Int × Unit
abbrev D41 := ByteArray × ByteArray × List D6 × List (ByteArray × Bool) × Bool × List Int × Unit
abbrev D42 := List D6 × Int × Int × ByteArray × ByteArray × List D6 × List (ByteArray × Bool) × Bool × List Int × Unit
abbrev D43 := List (ByteArray × Bool) × Int × Int × List Int × Unit
abbrev D44 := List D34 × Int × Int × List Int × Unit
abbrev D45 := List D34 × Int × Int × List (Bool × ByteArray) × Int × Int × List Int × Unit
abbrev D46 := ByteArray × Int × Int × Unit
abbrev D47 := ByteArray × Bool × Int × Int × Unit
abbrev D48 := List ByteArray × ByteArray × Int × Int × Unit
abbrev D49 := (List ByteArray) × ByteArray
abbrev D50 := List ByteArray × List ByteArray × Int × Int × Unit
abbrev D51 := ByteArray × Int × Int × Int × Unit
abbrev D52 := List ByteArray × Int × ByteArray × Int × Int × Int × ByteArray × Int × Int × Int × List (ByteArray × Nat) × List (Kid ByteArray) × Unit
abbrev D53 := List (ByteArray × Nat) × List (Kid ByteArray) × Unit
abbrev D54 := List ByteArray × Int × ByteArray × Int × Int × Int × Int × List (ByteArray × Nat) × List (Kid ByteArray) × Unit
abbrev D55 := (List D34) × (List ByteArray) × Int
abbrev D56 := (ByteArray × (List ByteArray))
abbrev D57 := ByteArray × Bool × Int × Unit
abbrev D58 := ByteArray × Int × ByteArray × List D6 × Unit
abbrev D59 := Int × Int × Int × Int × Unit
abbrev D60 := Int × Int × ByteArray × List D6 × Unit
abbrev D61 := ByteArray × List D6 × Unit
abbrev D62 := Int × ByteArray × List D6 × Unit
abbrev D63 := Int × Int × Int × ByteArray × ByteArray × List D6 × List (ByteArray × Bool) × Bool × Unit
abbrev D64 := Int × ByteArray × ByteArray × List D6 × List (ByteArray × Bool) × Bool × Unit
abbrev D65 := Int × Int × ByteArray × ByteArray × List D6 × List (ByteArray × Bool) × Bool × Unit
abbrev D66 := Int × Int × Int × ByteArray × List D6 × Unit
abbrev D67 := (ByteArray × (List D6)) × Int
abbrev D68 := (ByteArray × (List D6)) × ByteArray × Int
abbrev D69 := ByteArray × Int × Int × Int × Int × Unit
abbrev D70 := ByteArray × Int × Int × Int × Int × ByteArray × Unit
abbrev D71 := Int × Int × Int × Int × Int × ByteArray × Unit
abbrev D72 := Int × Int × Int × ByteArray × Unit
abbrev D73 := ByteArray × Int × Int × Int × Int × Int × Int × Int × ByteArray × Unit
abbrev D74 := ByteArray × Int × Int × Int × Bool × Int × Int × Int × Int × ByteArray × Unit
abbrev D75 := ByteArray × Int × Int × Int × Int × Int × Int × Int × Int × Int × ByteArray × Unit
abbrev D76 := ByteArray × Int × Int × Int × Int × Int × Int × Int × Int × ByteArray × Unit
abbrev D77 := ByteArray × Int × Int × Int × Int × Int × Int × ByteArray × Unit
abbrev D78 := Int × Int × Int × Int × ByteArray × Unit
abbrev D79 := Int × Int × ByteArray × Unit
abbrev D80 := Int × Int × Int × ByteArray × ByteArray × List D6 × List (ByteArray × Bool) × Bool × List (Bool × ByteArray) × Bool × ByteArray × Unit
abbrev D81 := Int × ByteArray × ByteArray × List D6 × List (ByteArray × Bool) × Bool × List (Bool × ByteArray) × Bool × ByteArray × Unit
abbrev D82 := Int × Int × Int × ByteArray × ByteArray × List D6 × List (ByteArray × Bool) × Bool × List (Bool × ByteArray) × Unit
abbrev D83 := Int × ByteArray × ByteArray × List D6 × List (ByteArray × Bool) × Bool × List (Bool × ByteArray) × Unit
abbrev D84 := List D34 × ByteArray × Int × Unit
abbrev D85 := List ByteArray × ByteArray × Int × Unit
abbrev D86 := List ByteArray × Int × Unit
abbrev D87 := ByteArray × ByteArray × ByteArray × List D6 × List (ByteArray × Bool) × Bool × Unit
abbrev D88 := ByteArray × Int × ByteArray × ByteArray × List D6 × List (ByteArray × Bool) × Bool × Unit
abbrev D89 := List D34 × ByteArray × Int × Int × Unit
abbrev D90 := (ByteArray × (Bool × Int))
abbrev D91 := List ByteArray × Int × ByteArray × Int × Int × Int × List (ByteArray × Nat) × List (Kid ByteArray) × Unit
abbrev D92 := List ByteArray × Int × ByteArray × Int × Int × Int × List (Kid ByteArray) × Unit
abbrev D93 := ByteArray × Int × Int × Int × Bool × Int × Int × Int × Bool × Unit
abbrev D94 := ByteArray × Int × Int × Int × Bool × Int × Bool × Unit
abbrev D95 := ByteArray × Int × Int × Int × Bool × ByteArray × Int × Bool × Unit
abbrev D96 := ByteArray × Int × Int × Int × Bool
abbrev D97 := ByteArray × List ByteArray × ByteArray × List ByteArray × Unit
abbrev D98 := Bool × ByteArray × List ByteArray × Unit
abbrev D99 := Int × ByteArray × List ByteArray × Unit
abbrev D100 := ByteArray × List ByteArray × Unit
abbrev D101 := List D56 × Int × Int × ByteArray × List ByteArray × Unit
abbrev D102 := List D56 × ByteArray × List ByteArray × Unit
abbrev D103 := List D56 × ByteArray × Int × Int × Int × Int × Int × List D56 × Int × Int × List ByteArray × Int × Int × ByteArray × List ByteArray × Unit
abbrev D104 := List D56 × Int × Int × List D56 × Int × Int × List ByteArray × Int × Int × ByteArray × List ByteArray × List Int × Unit
abbrev D105 := List D56 × ByteArray × Int × Int × Int × Int × Int × List D56 × Int × Int × List ByteArray × Int × Int × ByteArray × List ByteArray × List Int × Unit
abbrev D106 := List D56 × ByteArray × Int × Int × Int × Int × List D56 × Int × Int × List Int × Unit
abbrev D107 := List D56 × Int × List D56 × Int × Int × List Int × Unit
abbrev D108 := List D56 × ByteArray × Int × Int × Int × Int × List D56 × Int × Int × Unit
abbrev D109 := List D56 × Int × List D56 × Int × Int × Unit
abbrev D110 := ByteArray × Int × Int × Int × List Int × Unit
abbrev D111 := List D56 × Int × Int × List D56 × Int × Int × List ByteArray × Int × Int × ByteArray × List ByteArray × Unit
abbrev D112 := ByteArray × Int × Int × Int
abbrev D113 := Int × ByteArray × Int × Unit
abbrev D114 := ByteArray × ByteArray × Int × Unit
abbrev D115 := ByteArray × Int × ByteArray × ByteArray × Bool × ByteArray × ByteArray × Bool × List D6 × List (ByteArray × Bool) × List (Bool × ByteArray) × List D6 × List (ByteArray × Bool) × List (Bool × ByteArray) × Unit
abbrev D116 := Bool × ByteArray × Int × Unit
abbrev D117 := Int × Int × ByteArray × Int × ByteArray × ByteArray × Bool × ByteArray × ByteArray × Bool × Bool × ByteArray × List D6 × List (ByteArray × Bool) × List (Bool × ByteArray) × List D6 × List (ByteArray × Bool) × List (Bool × ByteArray) × Unit
abbrev D118 := Int × ByteArray × Int × ByteArray × ByteArray × Bool × ByteArray × ByteArray × Bool × List D6 × List (ByteArray × Bool) × List (Bool × ByteArray) × List D6 × List (ByteArray × Bool) × List (Bool × ByteArray) × Unit
abbrev D119 := Int × Int × ByteArray × Int × ByteArray × ByteArray × Bool × ByteArray × ByteArray × Bool × List D6 × List (ByteArray × Bool) × List (Bool × ByteArray) × List D6 × List (ByteArray × Bool) × List (Bool × ByteArray) × Unit
abbrev D120 := ByteArray × ByteArray × List D6 × List (ByteArray × Bool) × Bool × List (Bool × ByteArray) × ByteArray × Int × Unit
abbrev D121 := ByteArray × Int × List D34 × Unit
abbrev D122 := Int × ByteArray × Int × List D34 × Unit
abbrev D123 := Int × ByteArray × Int × Int × Unit
abbrev D124 := ByteArray × ByteArray × Int × Int × Unit
abbrev D125 := Bool × ByteArray × Int × Int × Unit
abbrev D126 := ByteArray × Int × ByteArray × Int × Int × Unit
abbrev D127 := ByteArray × Int × Int × ByteArray × Int × Int × Unit
abbrev D128 := ByteArray × Int × Int × Int × ByteArray × Int × Int × Unit
abbrev D129 := ByteArray × Int × Int × ByteArray × ByteArray × Bool × ByteArray × ByteArray × Bool × List D6 × List (ByteArray × Bool) × List (Bool × ByteArray) × List D6 × List (ByteArray × Bool) × List (Bool × ByteArray) × Unit
abbrev D130 := Int × Int × Int × ByteArray × Int × Int × ByteArray × ByteArray × Bool × ByteArray × ByteArray × Bool × Bool × ByteArray × List D6 × List (ByteArray × Bool) × List (Bool × ByteArray) × List D6 × List (ByteArray × Bool) × List (Bool × ByteArray) × Unit
abbrev D131 := Int × Int × ByteArray × Int × Int × ByteArray × ByteArray × Bool × ByteArray × ByteArray × Bool × List D6 × List (ByteArray × Bool) × List (Bool × ByteArray) × List D6 × List (ByteArray × Bool) × List (Bool × ByteArray) × Unit
abbrev D132 := Int × Int × Int × ByteArray × Int × Int × ByteArray × ByteArray × Bool × ByteArray × ByteArray × Bool × List D6 × List (ByteArray × Bool) × List (Bool × ByteArray) × List D6 × List (ByteArray × Bool) × List (Bool × ByteArray) × Unit
abbrev D133 := ByteArray × ByteArray × List D6 × List (ByteArray × Bool) × Bool × List (Bool × ByteArray) × ByteArray × Int × Int × Unit
abbrev D134 := ByteArray × ByteArray × Int × Int × List D34 × Unit
abbrev D135 := ByteArray × Int × Int × ByteArray × Int × Int × List D34 × Unit
abbrev D136 := Int × ByteArray × List D6 × ByteArray × List D6 × Unit
abbrev D137 := (ByteArray × (List D6)) × (ByteArray × (List D6))
abbrev D138 := Int × ByteArray × ByteArray × List D6 × List (ByteArray × Bool) × Bool × ByteArray × ByteArray × List D6 × List (ByteArray × Bool) × Bool × Unit
abbrev D139 := (ByteArray × D12) × (ByteArray × D12)
abbrev D140 := List (Bool × ByteArray) × List (Bool × ByteArray) × Int × Unit
abbrev D141 := (List (Bool × ByteArray)) × (List (Bool × ByteArray))
abbrev D142 := List D34 × List D34 × Int × Unit
def tab : Tab := [
  (3, ⟨[], .int .i64, 1, 8, false, some [.int .i64 0], false⟩),
  (4, ⟨[], .bool, 1, 1, false, some [.bool false], false⟩),
  (5, ⟨[], .int .u8, 1, 1, false, some [.int .u8 0], false⟩),
  (9, ⟨[], .str, 1, 16, false, some [.str ByteArray.empty], false⟩),
  (22, ⟨[], .slice 52 Y6, 1, 24, false, some [.emp], false⟩),
  (25, ⟨[], .int .i64, 1, 8, false, some [.int .i64 0], false⟩),
  (34, ⟨[], .slice 9 .str, 1, 24, false, some [.emp], false⟩),
  (36, ⟨[], .slice 81 Y8, 1, 24, false, some [.emp], false⟩),
  (44, ⟨[], .slice 156 Y1, 1, 24, false, some [.emp], false⟩),
  (46, ⟨[], .struct [(9, 0, 1), (44, 1, 1)], 2, 40, true, some [.str ByteArray.empty, .emp], false⟩),
  (47, ⟨[], .slice 158 (.pair .str .bool), 1, 24, false, some [.emp], false⟩),
  (49, ⟨[], .struct [(9, 0, 1), (46, 1, 2), (47, 3, 1), (4, 4, 1)], 5, 88, true, some [.str ByteArray.empty, .str ByteArray.empty, .emp, .emp, .bool false], false⟩),
  (50, ⟨[], .slice 100 (.pair .bool .str), 1, 24, false, some [.emp], false⟩),
  (52, ⟨[(2, 156, Y1), (3, 158, (.pair .str .bool)), (5, 100, (.pair .bool .str))], .struct [(49, 0, 5), (50, 5, 1)], 6, 112, true, some [.str ByteArray.empty, .str ByteArray.empty, .emp, .emp, .bool false, .emp], false⟩),
  (81, ⟨[], .struct [(9, 0, 1), (34, 1, 1)], 2, 40, true, some [.str ByteArray.empty, .emp], false⟩),
  (85, ⟨[], .slice 3 (.int .i64), 1, 24, false, some [.emp], false⟩),
  (100, ⟨[], .struct [(4, 0, 1), (9, 1, 1)], 2, 24, true, some [.bool false, .str ByteArray.empty], true⟩),
  (104, ⟨[], .slice 5 (.int .u8), 1, 24, false, some [.emp], false⟩),
  (106, ⟨[(0, 5, (.int .u8))], .struct [(104, 0, 1)], 1, 24, true, some [.emp], false⟩),
  (122, ⟨[], .struct [(3, 0, 1), (3, 1, 1), (9, 2, 1), (4, 3, 1), (3, 4, 1)], 5, 48, true, some [.int .i64 0, .int .i64 0, .str ByteArray.empty, .bool false, .int .i64 0], true⟩),
  (128, ⟨[], .struct [(9, 0, 1), (25, 1, 1)], 2, 24, true, some [.str ByteArray.empty, .int .i64 0], true⟩),
  (134, ⟨[], .struct [(9, 0, 1), (3, 1, 1), (3, 2, 1)], 3, 32, true, some [.str ByteArray.empty, .int .i64 0, .int .i64 0], true⟩),
  (154, ⟨[], .struct [(3, 0, 1), (3, 1, 1), (3, 2, 1)], 3, 24, true, some [.int .i64 0, .int .i64 0, .int .i64 0], true⟩),
  (156, ⟨[], .struct [(9, 0, 1), (154, 1, 3)], 4, 40, true, some [.str ByteArray.empty, .int .i64 0, .int .i64 0, .int .i64 0], true⟩),
  (158, ⟨[], .struct [(9, 0, 1), (4, 1, 1)], 2, 24, true, some [.str ByteArray.empty, .bool false], true⟩),
  (164, ⟨[], .mapSB, 1, 8, false, some [.nil .map], false⟩),
  (174, ⟨[], .struct [(172, 0, 1), (104, 1, 1)], 2, 32, true, some [.nil .ptr, .emp], false⟩),
  (187, ⟨[], .slice 25 (.int .i64), 1, 24, false, some [.emp], false⟩),
  (202, ⟨[], .slice 231 Y5, 1, 24, false, some [.emp], false⟩),
  (231, ⟨[], .struct [(3, 0, 1), (9, 1, 1)], 2, 24, true, some [.int .i64 0, .str ByteArray.empty], true⟩),
  (245, ⟨[], .int .i8, 1, 1, false, some [.int .i8 0], false⟩)]
theorem tabOk : tabIs P tab = true := by kernel_rfl
theorem mixed : P.follows .mixedOrders = true := by kernel_rfl
/-! ## midrange/records.isName -/
noncomputable def f606T (k : Nat) : Table := []
theorem f606TS (k : Nat) : Sound P (f606T k) := Sound.nil
theorem f606B : HasBody P 106 := ⟨Tryz.f106, Tryz.func106, by kernel_rfl, by kernel_rfl⟩
noncomputable def f606p0H : Shape := ⟨[(15, .one (.own 0)), (16, .one (.int .i64)), (17, .one (.int .i64))], [(0, .row 5 (.int .u8) .mark)], 1, []⟩
noncomputable def f606p0X0 : Shape := ⟨[(15, .one (.own 0)), (16, .one (.int .i64)), (17, .one (.int .i64))], [(0, .row 5 (.int .u8) .mark)], 1, []⟩
noncomputable def f606p0X1 : Shape := ⟨[(2, .one (.bool)), (15, .one (.own 0)), (16, .one (.int .i64)), (17, .one (.int .i64))], [(0, .row 5 (.int .u8) .mark)], 1, []⟩
noncomputable def f606p0N : NoteR := ⟨[15, 16, 17], [], []⟩
noncomputable def f606p0M : NoteR := ⟨[2, 15, 16, 17], [], []⟩
noncomputable def f606p0C : Code := firstC (codesAt 934 (codeOf Tryz.f106) 1)
noncomputable def f606p0 {R : Type} (k : Nat) (k0 : D0 → Option R) (k1 : D1 → Option R) (v : D0) : Option R :=
  bif ((decide ((0 : Int) ≤ v.2.1)) && (decide (v.2.1 < (v.2.2.1.length : Int)))) then
  bif (decide ((65 : Int) ≤ (v.2.2.1.getD (Int.toNat v.2.1) (0 : Int)))) then
    bif (decide ((v.2.2.1.getD (Int.toNat v.2.1) (0 : Int)) ≤ (90 : Int))) then
      bif (decide ((48 : Int) ≤ (v.2.2.1.getD (Int.toNat v.2.1) (0 : Int)))) then
        bif (decide ((v.2.2.1.getD (Int.toNat v.2.1) (0 : Int)) ≤ (57 : Int))) then
          k0 (v.1, v.2.1, v.2.2.1, ())
        else
        bif ((v.2.2.1.getD (Int.toNat v.2.1) (0 : Int)) == (95 : Int)) then
          k0 (v.1, v.2.1, v.2.2.1, ())
        else
        k0 (v.1, v.2.1, v.2.2.1, ())
      else
      bif ((v.2.2.1.getD (Int.toNat v.2.1) (0 : Int)) == (95 : Int)) then
        k0 (v.1, v.2.1, v.2.2.1, ())
      else
      k0 (v.1, v.2.1, v.2.2.1, ())
    else
    bif ((v.2.2.1.getD (Int.toNat v.2.1) (0 : Int)) == (35 : Int)) then
      bif (decide ((48 : Int) ≤ (v.2.2.1.getD (Int.toNat v.2.1) (0 : Int)))) then
        bif (decide ((v.2.2.1.getD (Int.toNat v.2.1) (0 : Int)) ≤ (57 : Int))) then
          k0 (v.1, v.2.1, v.2.2.1, ())
        else
        bif ((v.2.2.1.getD (Int.toNat v.2.1) (0 : Int)) == (95 : Int)) then
          k0 (v.1, v.2.1, v.2.2.1, ())
        else
        k0 (v.1, v.2.1, v.2.2.1, ())
      else
      bif ((v.2.2.1.getD (Int.toNat v.2.1) (0 : Int)) == (95 : Int)) then
        k0 (v.1, v.2.1, v.2.2.1, ())
      else
      k0 (v.1, v.2.1, v.2.2.1, ())
    else
    bif ((v.2.2.1.getD (Int.toNat v.2.1) (0 : Int)) == (36 : Int)) then
      bif (decide ((48 : Int) ≤ (v.2.2.1.getD (Int.toNat v.2.1) (0 : Int)))) then
        bif (decide ((v.2.2.1.getD (Int.toNat v.2.1) (0 : Int)) ≤ (57 : Int))) then
          k0 (v.1, v.2.1, v.2.2.1, ())
        else
        bif ((v.2.2.1.getD (Int.toNat v.2.1) (0 : Int)) == (95 : Int)) then
          k0 (v.1, v.2.1, v.2.2.1, ())
        else
        k0 (v.1, v.2.1, v.2.2.1, ())
      else
      bif ((v.2.2.1.getD (Int.toNat v.2.1) (0 : Int)) == (95 : Int)) then
        k0 (v.1, v.2.1, v.2.2.1, ())
      else
      k0 (v.1, v.2.1, v.2.2.1, ())
    else
    bif (decide ((48 : Int) ≤ (v.2.2.1.getD (Int.toNat v.2.1) (0 : Int)))) then
      bif (decide ((v.2.2.1.getD (Int.toNat v.2.1) (0 : Int)) ≤ (57 : Int))) then
        bif (!((v.2.2.1.getD (Int.toNat v.2.1) (0 : Int)) == (64 : Int))) then
          bif (v.2.1 == (0 : Int)) then
            k1 (false, v.1, v.2.1, v.2.2.1, ())
          else
          k0 (v.1, v.2.1, v.2.2.1, ())
        else
        k0 (v.1, v.2.1, v.2.2.1, ())
      else
      bif ((v.2.2.1.getD (Int.toNat v.2.1) (0 : Int)) == (95 : Int)) then
        bif (!((v.2.2.1.getD (Int.toNat v.2.1) (0 : Int)) == (64 : Int))) then
          bif (v.2.1 == (0 : Int)) then
            k1 (false, v.1, v.2.1, v.2.2.1, ())
          else
          k0 (v.1, v.2.1, v.2.2.1, ())
        else
        k0 (v.1, v.2.1, v.2.2.1, ())
      else
      bif (!((v.2.2.1.getD (Int.toNat v.2.1) (0 : Int)) == (64 : Int))) then
        bif (v.2.1 == (0 : Int)) then
          k1 (false, v.1, v.2.1, v.2.2.1, ())
        else
        bif (!((v.2.2.1.getD (Int.toNat v.2.1) (0 : Int)) == (46 : Int))) then
          k1 (false, v.1, v.2.1, v.2.2.1, ())
        else
        k0 (v.1, v.2.1, v.2.2.1, ())
      else
      k0 (v.1, v.2.1, v.2.2.1, ())
    else
    bif ((v.2.2.1.getD (Int.toNat v.2.1) (0 : Int)) == (95 : Int)) then
      bif (!((v.2.2.1.getD (Int.toNat v.2.1) (0 : Int)) == (64 : Int))) then
        bif (v.2.1 == (0 : Int)) then
          k1 (false, v.1, v.2.1, v.2.2.1, ())
        else
        k0 (v.1, v.2.1, v.2.2.1, ())
      else
      k0 (v.1, v.2.1, v.2.2.1, ())
    else
    bif (!((v.2.2.1.getD (Int.toNat v.2.1) (0 : Int)) == (64 : Int))) then
      bif (v.2.1 == (0 : Int)) then
        k1 (false, v.1, v.2.1, v.2.2.1, ())
      else
      bif (!((v.2.2.1.getD (Int.toNat v.2.1) (0 : Int)) == (46 : Int))) then
        k1 (false, v.1, v.2.1, v.2.2.1, ())
      else
      k0 (v.1, v.2.1, v.2.2.1, ())
    else
    k0 (v.1, v.2.1, v.2.2.1, ())
  else
  bif ((v.2.2.1.getD (Int.toNat v.2.1) (0 : Int)) == (35 : Int)) then
    bif (decide ((48 : Int) ≤ (v.2.2.1.getD (Int.toNat v.2.1) (0 : Int)))) then
      bif (decide ((v.2.2.1.getD (Int.toNat v.2.1) (0 : Int)) ≤ (57 : Int))) then
        k0 (v.1, v.2.1, v.2.2.1, ())
      else
      bif ((v.2.2.1.getD (Int.toNat v.2.1) (0 : Int)) == (95 : Int)) then
        k0 (v.1, v.2.1, v.2.2.1, ())
      else
      k0 (v.1, v.2.1, v.2.2.1, ())
    else
    bif ((v.2.2.1.getD (Int.toNat v.2.1) (0 : Int)) == (95 : Int)) then
      k0 (v.1, v.2.1, v.2.2.1, ())
    else
    k0 (v.1, v.2.1, v.2.2.1, ())
  else
  bif ((v.2.2.1.getD (Int.toNat v.2.1) (0 : Int)) == (36 : Int)) then
    bif (decide ((48 : Int) ≤ (v.2.2.1.getD (Int.toNat v.2.1) (0 : Int)))) then
      bif (decide ((v.2.2.1.getD (Int.toNat v.2.1) (0 : Int)) ≤ (57 : Int))) then
        k0 (v.1, v.2.1, v.2.2.1, ())
      else
      bif ((v.2.2.1.getD (Int.toNat v.2.1) (0 : Int)) == (95 : Int)) then
        k0 (v.1, v.2.1, v.2.2.1, ())
      else
      k0 (v.1, v.2.1, v.2.2.1, ())
    else
    bif ((v.2.2.1.getD (Int.toNat v.2.1) (0 : Int)) == (95 : Int)) then
      k0 (v.1, v.2.1, v.2.2.1, ())
    else
    k0 (v.1, v.2.1, v.2.2.1, ())
  else
  bif (decide ((48 : Int) ≤ (v.2.2.1.getD (Int.toNat v.2.1) (0 : Int)))) then
    bif (decide ((v.2.2.1.getD (Int.toNat v.2.1) (0 : Int)) ≤ (57 : Int))) then
      bif (!((v.2.2.1.getD (Int.toNat v.2.1) (0 : Int)) == (64 : Int))) then
        bif (v.2.1 == (0 : Int)) then
          k1 (false, v.1, v.2.1, v.2.2.1, ())
        else
        k0 (v.1, v.2.1, v.2.2.1, ())
      else
      k0 (v.1, v.2.1, v.2.2.1, ())
    else
    bif ((v.2.2.1.getD (Int.toNat v.2.1) (0 : Int)) == (95 : Int)) then
      bif (!((v.2.2.1.getD (Int.toNat v.2.1) (0 : Int)) == (64 : Int))) then
        bif (v.2.1 == (0 : Int)) then
          k1 (false, v.1, v.2.1, v.2.2.1, ())
        else
        k0 (v.1, v.2.1, v.2.2.1, ())
      else
      k0 (v.1, v.2.1, v.2.2.1, ())
    else
    bif (!((v.2.2.1.getD (Int.toNat v.2.1) (0 : Int)) == (64 : Int))) then
      bif (v.2.1 == (0 : Int)) then
        k1 (false, v.1, v.2.1, v.2.2.1, ())
      else
      bif (!((v.2.2.1.getD (Int.toNat v.2.1) (0 : Int)) == (46 : Int))) then
        k1 (false, v.1, v.2.1, v.2.2.1, ())
      else
      k0 (v.1, v.2.1, v.2.2.1, ())
    else
    k0 (v.1, v.2.1, v.2.2.1, ())
  else
  bif ((v.2.2.1.getD (Int.toNat v.2.1) (0 : Int)) == (95 : Int)) then
    bif (!((v.2.2.1.getD (Int.toNat v.2.1) (0 : Int)) == (64 : Int))) then
      bif (v.2.1 == (0 : Int)) then
        k1 (false, v.1, v.2.1, v.2.2.1, ())
      else
      k0 (v.1, v.2.1, v.2.2.1, ())
    else
    k0 (v.1, v.2.1, v.2.2.1, ())
  else
  bif (!((v.2.2.1.getD (Int.toNat v.2.1) (0 : Int)) == (64 : Int))) then
    bif (v.2.1 == (0 : Int)) then
      k1 (false, v.1, v.2.1, v.2.2.1, ())
    else
    bif (!((v.2.2.1.getD (Int.toNat v.2.1) (0 : Int)) == (46 : Int))) then
      k1 (false, v.1, v.2.1, v.2.2.1, ())
    else
    k0 (v.1, v.2.1, v.2.2.1, ())
  else
  k0 (v.1, v.2.1, v.2.2.1, ())
  else none
noncomputable def f606p0S (k : Nat) : Sum1 := partSum f606p0H f606p0N (fun R K v => f606p0 k (fun w => K .normal (encSt f606p0X0 w)) (fun w => K .ret (encSt f606p0X1 w)) v)
theorem f606p0E (k : Nat) (R : Type) (K : X → St → Option R) (v : f606p0H.Den) : evS tab (f606T k) Tryz.f106.ntmps [] f606p0C 934 (partK f606p0M K) (encSt f606p0H v) = f606p0 k (fun w => K .normal (encSt f606p0X0 w)) (fun w => K .ret (encSt f606p0X1 w)) v := by kernel_rfl
theorem f606p0I (k : Nat) : SumsOk P Tryz.f106.ntmps [] f606p0C 934 := SumsOk.nil
theorem f606p0O (k : Nat) : SumOk P Tryz.f106.ntmps f606p0C (f606p0S k) := sum_part tabOk (f606TS k) mixed (f606p0I k) (f606p0E k)
noncomputable def f606l1H : Shape := ⟨[(15, .one (.own 0)), (16, .one (.int .i64)), (17, .one (.int .i64))], [(0, .row 5 (.int .u8) .mark)], 1, []⟩
noncomputable def f606l1X0 : Shape := ⟨[(2, .one (.bool))], [], 0, []⟩
noncomputable def f606l1X1 : Shape := ⟨[], [], 0, []⟩
noncomputable def f606l1N : NoteR := ⟨[15, 16, 17], [], []⟩
noncomputable def f606l1M : NoteR := ⟨[2], [], []⟩
noncomputable def f606l1C : Code := firstC (codesAt 58 (codeOf Tryz.f106) 1)
noncomputable def f606l1s {R : Type} (k : Nat) (rec : D0 → Option R) (k0 : Bool × Unit → Option R) (k1 : Unit → Option R) (v : D0) : Option R :=
  bif (decide (v.2.1 < v.1)) then
    f606p0 k
      (fun (w1 : D0) =>
        rec (w1.1, (IntKind.i64.wrap (w1.2.1 + (1 : Int))), w1.2.2.1, ()))
      (fun (w2 : D1) =>
        k0 (w2.1, ()))
      (v.1, v.2.1, v.2.2.1, ())
  else
  k1 (())
noncomputable def f606l1 {R : Type} (k : Nat) (k0 : Bool × Unit → Option R) (k1 : Unit → Option R) (v : D0) : Option R := iterS (fun rec v => f606l1s k rec k0 k1 v) k v
noncomputable def f606l1S (k : Nat) : Sum1 := loopSum f606l1H f606l1N k (fun R rec K v => f606l1s k rec (fun w => K .ret (encSt f606l1X0 w)) (fun w => K (.exit 0) (encSt f606l1X1 w)) v)
theorem f606l1E (k : Nat) (R : Type) (rec : St → Option R) (K : X → St → Option R) (v : f606l1H.Den) : evS tab (f606T k) Tryz.f106.ntmps [(934, f606p0S k)] (bodyOf f606l1C) 116 (bodyK f606l1N f606l1M rec K) (encSt f606l1H v) = f606l1s k (fun v => rec (encSt f606l1H v)) (fun w => K .ret (encSt f606l1X0 w)) (fun w => K (.exit 0) (encSt f606l1X1 w)) v := by kernel_rfl
theorem f606l1I (k : Nat) : SumsOk P Tryz.f106.ntmps [(934, f606p0S k)] (bodyOf f606l1C) 116 := (SumsOk.nil).cons (c := f606p0C) (by kernel_rfl) (f606p0O k)
theorem f606l1O (k : Nat) : SumOk P Tryz.f106.ntmps f606l1C (f606l1S k) := (show f606l1C = .loop (bodyOf f606l1C) by kernel_rfl) ▸ sum_loop tabOk (f606TS k) mixed (f606l1I k) (f606l1E k)
noncomputable def f606F (k : Nat) (x : ByteArray) : Option (Bool) :=
  bif (strEq x ByteArray.empty) then
    some false
  else
  bif (decide ((x.size : Int) > (10 : Int))) then
    some false
  else
  bif (decide (x.size ≤ 9223372036854775807)) then
  f606l1 k
    (fun (w3 : Bool × Unit) =>
      some w3.1)
    (fun (w4 : Unit) =>
      some true)
    (((bytesOf x).length : Int), (0 : Int), (bytesOf x), ())
  else none
noncomputable def f606L (k : Nat) : Sums := [(934, f606p0S k), (58, f606l1S k)]
theorem f606LS (k : Nat) : SumsOk P Tryz.f106.ntmps (f606L k) (codeOf Tryz.f106) 1 := ((SumsOk.nil).cons (c := f606l1C) (by kernel_rfl) (f606l1O k)).cons (c := f606p0C) (by kernel_rfl) (f606p0O k)
theorem f606E (k : Nat) (x : ByteArray) : evFS tab (f606T k) (f606L k) Tryz.f106.ntmps Tryz.f106.results.toList (codeOf Tryz.f106) (argsV [.dat .str] x) [.dat .bool] none = f606F k x := by kernel_rfl
theorem f606Ok (k : Nat) (x : ByteArray) (y : Bool) (h : f606F k x = some y) : FnOk P 106 [.dat .str] [.dat .bool] x y :=
  evFS_sound tabOk (f606TS k) mixed Tryz.func106 (c := codeOf Tryz.f106) (by kernel_rfl) (f606LS k) ((f606E k x).trans h)
noncomputable def f606A (k : Nat) := entFnB [.dat .str] [.dat .bool] (f606F k)
theorem f606Ao (k : Nat) : EntOk P 106 (f606A k) := entFnB_ok (f606Ok k)
/-! ## midrange/records.cond -/
noncomputable def f594T (k : Nat) : Table := []
theorem f594TS (k : Nat) : Sound P (f594T k) := Sound.nil
theorem f594B : HasBody P 94 := ⟨Tryz.f94, Tryz.func94, by kernel_rfl, by kernel_rfl⟩
noncomputable def f594F (k : Nat) (x : Bool × Int) : Option (Int) :=
  bif x.1 then
    some x.2
  else
  some (0 : Int)
noncomputable def f594L (k : Nat) : Sums := []
theorem f594LS (k : Nat) : SumsOk P Tryz.f94.ntmps (f594L k) (codeOf Tryz.f94) 1 := SumsOk.nil
theorem f594E (k : Nat) (x : Bool × Int) : evFS tab (f594T k) (f594L k) Tryz.f94.ntmps Tryz.f94.results.toList (codeOf Tryz.f94) (argsV [.dat .bool, .dat (.int .i64)] x) [.dat (.int .i64)] none = f594F k x := by kernel_rfl
theorem f594Ok (k : Nat) (x : Bool × Int) (y : Int) (h : f594F k x = some y) : FnOk P 94 [.dat .bool, .dat (.int .i64)] [.dat (.int .i64)] x y :=
  evFS_sound tabOk (f594TS k) mixed Tryz.func94 (c := codeOf Tryz.f94) (by kernel_rfl) (f594LS k) ((f594E k x).trans h)
noncomputable def f594A (k : Nat) := entFnB [.dat .bool, .dat (.int .i64)] [.dat (.int .i64)] (f594F k)
theorem f594Ao (k : Nat) : EntOk P 94 (f594A k) := entFnB_ok (f594Ok k)
/-! ## midrange/records.first -/
noncomputable def f592T (k : Nat) : Table := []
theorem f592TS (k : Nat) : Sound P (f592T k) := Sound.nil
theorem f592B : HasBody P 92 := ⟨Tryz.f92, Tryz.func92, by kernel_rfl, by kernel_rfl⟩
noncomputable def f592l0H : Shape := ⟨[(5, .one (.ro (.int .i64))), (6, .one (.int .i64)), (7, .one (.int .i64))], [], 0, []⟩
noncomputable def f592l0X0 : Shape := ⟨[(2, .one (.int .i64))], [], 0, []⟩
noncomputable def f592l0X1 : Shape := ⟨[], [], 0, []⟩
noncomputable def f592l0N : NoteR := ⟨[5, 6, 7], [], []⟩
noncomputable def f592l0M : NoteR := ⟨[2], [], []⟩
noncomputable def f592l0C : Code := firstC (codesAt 26 (codeOf Tryz.f92) 1)
noncomputable def f592l0s {R : Type} (k : Nat) (rec : D2 → Option R) (k0 : Int × Unit → Option R) (k1 : Unit → Option R) (v : D2) : Option R :=
  bif (decide (v.2.2.1 < v.2.1)) then
    bif ((decide ((0 : Int) ≤ v.2.2.1)) && (decide (v.2.2.1 < (v.1.length : Int)))) then
    bif ((v.1.getD (Int.toNat v.2.2.1) (0 : Int)) != (0 : Int)) then
      k0 ((v.1.getD (Int.toNat v.2.2.1) (0 : Int)), ())
    else
    rec (v.1, v.2.1, (IntKind.i64.wrap (v.2.2.1 + (1 : Int))), ())
    else none
  else
  k1 (())
noncomputable def f592l0 {R : Type} (k : Nat) (k0 : Int × Unit → Option R) (k1 : Unit → Option R) (v : D2) : Option R := iterS (fun rec v => f592l0s k rec k0 k1 v) k v
noncomputable def f592l0S (k : Nat) : Sum1 := loopSum f592l0H f592l0N k (fun R rec K v => f592l0s k rec (fun w => K .ret (encSt f592l0X0 w)) (fun w => K (.exit 0) (encSt f592l0X1 w)) v)
theorem f592l0E (k : Nat) (R : Type) (rec : St → Option R) (K : X → St → Option R) (v : f592l0H.Den) : evS tab (f592T k) Tryz.f92.ntmps [] (bodyOf f592l0C) 52 (bodyK f592l0N f592l0M rec K) (encSt f592l0H v) = f592l0s k (fun v => rec (encSt f592l0H v)) (fun w => K .ret (encSt f592l0X0 w)) (fun w => K (.exit 0) (encSt f592l0X1 w)) v := by kernel_rfl
theorem f592l0I (k : Nat) : SumsOk P Tryz.f92.ntmps [] (bodyOf f592l0C) 52 := SumsOk.nil
theorem f592l0O (k : Nat) : SumOk P Tryz.f92.ntmps f592l0C (f592l0S k) := (show f592l0C = .loop (bodyOf f592l0C) by kernel_rfl) ▸ sum_loop tabOk (f592TS k) mixed (f592l0I k) (f592l0E k)
noncomputable def f592F (k : Nat) (x : (List Int)) : Option (Int) :=
  f592l0 k
    (fun (w1 : Int × Unit) =>
      some w1.1)
    (fun (w2 : Unit) =>
      some (0 : Int))
    (x, (x.length : Int), (0 : Int), ())
noncomputable def f592L (k : Nat) : Sums := [(26, f592l0S k)]
theorem f592LS (k : Nat) : SumsOk P Tryz.f92.ntmps (f592L k) (codeOf Tryz.f92) 1 := (SumsOk.nil).cons (c := f592l0C) (by kernel_rfl) (f592l0O k)
theorem f592E (k : Nat) (x : (List Int)) : evFS tab (f592T k) (f592L k) Tryz.f92.ntmps Tryz.f92.results.toList (codeOf Tryz.f92) (argsV [.dat (.slice (.int .i64))] x) [.dat (.int .i64)] none = f592F k x := by kernel_rfl
theorem f592Ok (k : Nat) (x : (List Int)) (y : Int) (h : f592F k x = some y) : FnOk P 92 [.dat (.slice (.int .i64))] [.dat (.int .i64)] x y :=
  evFS_sound tabOk (f592TS k) mixed Tryz.func92 (c := codeOf Tryz.f92) (by kernel_rfl) (f592LS k) ((f592E k x).trans h)
noncomputable def f592A (k : Nat) := entFnB [.dat (.slice (.int .i64))] [.dat (.int .i64)] (f592F k)
theorem f592Ao (k : Nat) : EntOk P 92 (f592A k) := entFnB_ok (f592Ok k)
/-! ## midrange/numeric.in -/
noncomputable def f70T (k : Nat) : Table := []
theorem f70TS (k : Nat) : Sound P (f70T k) := Sound.nil
theorem f70B : HasBody P 173 := ⟨Tryz.f173, Tryz.func173, by kernel_rfl, by kernel_rfl⟩
noncomputable def f70F (k : Nat) (x : Int × Int × Int) : Option (Bool) :=
  bif (decide (x.2.1 ≤ x.1)) then
    some (decide (x.1 ≤ x.2.2))
  else
  some false
noncomputable def f70L (k : Nat) : Sums := []
theorem f70LS (k : Nat) : SumsOk P Tryz.f173.ntmps (f70L k) (codeOf Tryz.f173) 1 := SumsOk.nil
theorem f70E (k : Nat) (x : Int × Int × Int) : evFS tab (f70T k) (f70L k) Tryz.f173.ntmps Tryz.f173.results.toList (codeOf Tryz.f173) (argsV [.dat (.int .i64), .dat (.int .i64), .dat (.int .i64)] x) [.dat .bool] none = f70F k x := by kernel_rfl
theorem f70Ok (k : Nat) (x : Int × Int × Int) (y : Bool) (h : f70F k x = some y) : FnOk P 173 [.dat (.int .i64), .dat (.int .i64), .dat (.int .i64)] [.dat .bool] x y :=
  evFS_sound tabOk (f70TS k) mixed Tryz.func173 (c := codeOf Tryz.f173) (by kernel_rfl) (f70LS k) ((f70E k x).trans h)
noncomputable def f70A (k : Nat) := entFnB [.dat (.int .i64), .dat (.int .i64), .dat (.int .i64)] [.dat .bool] (f70F k)
theorem f70Ao (k : Nat) : EntOk P 173 (f70A k) := entFnB_ok (f70Ok k)
/-! ## midrange/numeric.cond -/
noncomputable def f43T (k : Nat) : Table := []
theorem f43TS (k : Nat) : Sound P (f43T k) := Sound.nil
theorem f43B : HasBody P 175 := ⟨Tryz.f175, Tryz.func175, by kernel_rfl, by kernel_rfl⟩
noncomputable def f43F (k : Nat) (x : Bool × Int) : Option (Int) :=
  bif x.1 then
    some x.2
  else
  some (0 : Int)
noncomputable def f43L (k : Nat) : Sums := []
theorem f43LS (k : Nat) : SumsOk P Tryz.f175.ntmps (f43L k) (codeOf Tryz.f175) 1 := SumsOk.nil
theorem f43E (k : Nat) (x : Bool × Int) : evFS tab (f43T k) (f43L k) Tryz.f175.ntmps Tryz.f175.results.toList (codeOf Tryz.f175) (argsV [.dat .bool, .dat (.int .i64)] x) [.dat (.int .i64)] none = f43F k x := by kernel_rfl
theorem f43Ok (k : Nat) (x : Bool × Int) (y : Int) (h : f43F k x = some y) : FnOk P 175 [.dat .bool, .dat (.int .i64)] [.dat (.int .i64)] x y :=
  evFS_sound tabOk (f43TS k) mixed Tryz.func175 (c := codeOf Tryz.f175) (by kernel_rfl) (f43LS k) ((f43E k x).trans h)
noncomputable def f43A (k : Nat) := entFnB [.dat .bool, .dat (.int .i64)] [.dat (.int .i64)] (f43F k)
theorem f43Ao (k : Nat) : EntOk P 175 (f43A k) := entFnB_ok (f43Ok k)
/-! ## midrange/numeric.first -/
noncomputable def f42T (k : Nat) : Table := []
theorem f42TS (k : Nat) : Sound P (f42T k) := Sound.nil
theorem f42B : HasBody P 174 := ⟨Tryz.f174, Tryz.func174, by kernel_rfl, by kernel_rfl⟩
noncomputable def f42l0H : Shape := ⟨[(5, .one (.ro (.int .i64))), (6, .one (.int .i64)), (7, .one (.int .i64))], [], 0, []⟩
noncomputable def f42l0X0 : Shape := ⟨[(2, .one (.int .i64))], [], 0, []⟩
noncomputable def f42l0X1 : Shape := ⟨[], [], 0, []⟩
noncomputable def f42l0N : NoteR := ⟨[5, 6, 7], [], []⟩
noncomputable def f42l0M : NoteR := ⟨[2], [], []⟩
noncomputable def f42l0C : Code := firstC (codesAt 26 (codeOf Tryz.f174) 1)
noncomputable def f42l0s {R : Type} (k : Nat) (rec : D2 → Option R) (k0 : Int × Unit → Option R) (k1 : Unit → Option R) (v : D2) : Option R :=
  bif (decide (v.2.2.1 < v.2.1)) then
    bif ((decide ((0 : Int) ≤ v.2.2.1)) && (decide (v.2.2.1 < (v.1.length : Int)))) then
    bif ((v.1.getD (Int.toNat v.2.2.1) (0 : Int)) != (0 : Int)) then
      k0 ((v.1.getD (Int.toNat v.2.2.1) (0 : Int)), ())
    else
    rec (v.1, v.2.1, (IntKind.i64.wrap (v.2.2.1 + (1 : Int))), ())
    else none
  else
  k1 (())
noncomputable def f42l0 {R : Type} (k : Nat) (k0 : Int × Unit → Option R) (k1 : Unit → Option R) (v : D2) : Option R := iterS (fun rec v => f42l0s k rec k0 k1 v) k v
noncomputable def f42l0S (k : Nat) : Sum1 := loopSum f42l0H f42l0N k (fun R rec K v => f42l0s k rec (fun w => K .ret (encSt f42l0X0 w)) (fun w => K (.exit 0) (encSt f42l0X1 w)) v)
theorem f42l0E (k : Nat) (R : Type) (rec : St → Option R) (K : X → St → Option R) (v : f42l0H.Den) : evS tab (f42T k) Tryz.f174.ntmps [] (bodyOf f42l0C) 52 (bodyK f42l0N f42l0M rec K) (encSt f42l0H v) = f42l0s k (fun v => rec (encSt f42l0H v)) (fun w => K .ret (encSt f42l0X0 w)) (fun w => K (.exit 0) (encSt f42l0X1 w)) v := by kernel_rfl
theorem f42l0I (k : Nat) : SumsOk P Tryz.f174.ntmps [] (bodyOf f42l0C) 52 := SumsOk.nil
theorem f42l0O (k : Nat) : SumOk P Tryz.f174.ntmps f42l0C (f42l0S k) := (show f42l0C = .loop (bodyOf f42l0C) by kernel_rfl) ▸ sum_loop tabOk (f42TS k) mixed (f42l0I k) (f42l0E k)
noncomputable def f42F (k : Nat) (x : (List Int)) : Option (Int) :=
  f42l0 k
    (fun (w1 : Int × Unit) =>
      some w1.1)
    (fun (w2 : Unit) =>
      some (0 : Int))
    (x, (x.length : Int), (0 : Int), ())
noncomputable def f42L (k : Nat) : Sums := [(26, f42l0S k)]
theorem f42LS (k : Nat) : SumsOk P Tryz.f174.ntmps (f42L k) (codeOf Tryz.f174) 1 := (SumsOk.nil).cons (c := f42l0C) (by kernel_rfl) (f42l0O k)
theorem f42E (k : Nat) (x : (List Int)) : evFS tab (f42T k) (f42L k) Tryz.f174.ntmps Tryz.f174.results.toList (codeOf Tryz.f174) (argsV [.dat (.slice (.int .i64))] x) [.dat (.int .i64)] none = f42F k x := by kernel_rfl
theorem f42Ok (k : Nat) (x : (List Int)) (y : Int) (h : f42F k x = some y) : FnOk P 174 [.dat (.slice (.int .i64))] [.dat (.int .i64)] x y :=
  evFS_sound tabOk (f42TS k) mixed Tryz.func174 (c := codeOf Tryz.f174) (by kernel_rfl) (f42LS k) ((f42E k x).trans h)
noncomputable def f42A (k : Nat) := entFnB [.dat (.slice (.int .i64))] [.dat (.int .i64)] (f42F k)
theorem f42Ao (k : Nat) : EntOk P 174 (f42A k) := entFnB_ok (f42Ok k)
/-! ## midrange/numeric.CheckType -/
noncomputable def f28T (k : Nat) : Table := [(173, f70A k), (174, f42A k), (175, f43A k)]
theorem f28TS (k : Nat) : Sound P (f28T k) := (((Sound.nil).consE f43B (f43Ao k)).consE f42B (f42Ao k)).consE f70B (f70Ao k)
theorem f28B : HasBody P 157 := ⟨Tryz.f157, Tryz.func157, by kernel_rfl, by kernel_rfl⟩
noncomputable def f28p0H : Shape := ⟨[(1, .one (.ptr 0 0)), (4, .one (.bool)), (9, .one (.int .i64))], [(0, .var 154 [.int .i64, .int .i64, .int .i64])], 1, []⟩
noncomputable def f28p0X0 : Shape := ⟨[(1, .one (.ptr 0 0)), (4, .one (.bool)), (9, .one (.int .i64)), (15, .one (.bool))], [(0, .var 154 [.int .i64, .int .i64, .int .i64])], 1, []⟩
noncomputable def f28p0N : NoteR := ⟨[1, 4, 9], [], []⟩
noncomputable def f28p0M : NoteR := ⟨[1, 2, 4, 9, 15], [], []⟩
noncomputable def f28p0C : Code := firstC (codesAt 470 (codeOf Tryz.f157) 1)
noncomputable def f28p0 {R : Type} (k : Nat) (k0 : D3 → Option R) (v : D4) : Option R :=
  bif (v.2.1 == (1 : Int)) then
    k0 (v.1, v.2.1, (v.2.1 == (1 : Int)), v.2.2.1, v.2.2.2.1, v.2.2.2.2.1, ())
  else
  k0 (v.1, v.2.1, (v.2.1 == (2 : Int)), v.2.2.1, v.2.2.2.1, v.2.2.2.2.1, ())
noncomputable def f28p0S (k : Nat) : Sum1 := partSum f28p0H f28p0N (fun R K v => f28p0 k (fun w => K .normal (encSt f28p0X0 w)) v)
theorem f28p0E (k : Nat) (R : Type) (K : X → St → Option R) (v : f28p0H.Den) : evS tab (f28T k) Tryz.f157.ntmps [] f28p0C 470 (partK f28p0M K) (encSt f28p0H v) = f28p0 k (fun w => K .normal (encSt f28p0X0 w)) v := by kernel_rfl
theorem f28p0I (k : Nat) : SumsOk P Tryz.f157.ntmps [] f28p0C 470 := SumsOk.nil
theorem f28p0O (k : Nat) : SumOk P Tryz.f157.ntmps f28p0C (f28p0S k) := sum_part tabOk (f28TS k) mixed (f28p0I k) (f28p0E k)
noncomputable def f28p1H : Shape := ⟨[(1, .one (.ptr 0 0)), (4, .one (.bool))], [(0, .var 154 [.int .i64, .int .i64, .int .i64])], 1, []⟩
noncomputable def f28p1X0 : Shape := ⟨[(3, .one (.bool)), (4, .one (.bool))], [], 0, []⟩
noncomputable def f28p1X1 : Shape := ⟨[(2, .one (.int .i64)), (4, .one (.bool))], [], 0, []⟩
noncomputable def f28p1N : NoteR := ⟨[1, 4], [], []⟩
noncomputable def f28p1M : NoteR := ⟨[2, 3, 4], [], []⟩
noncomputable def f28p1C : Code := firstC (codesAt 14 (codeOf Tryz.f157) 1)
noncomputable def f28p1 {R : Type} (k : Nat) (k0 : Bool × Bool × Unit → Option R) (k1 : Int × Bool × Unit → Option R) (v : D5) : Option R :=
  bif (v.2.1 == (0 : Int)) then
    Option.bind (f70F k (v.2.2.1, (1 : Int), (256 : Int))) fun y1 =>
    k0 (y1, v.1, ())
  else
  f28p0 k
    (fun (w2 : D3) =>
      bif w2.2.2.1 then
        Option.bind (f70F k (w2.2.2.2.2.1, (1 : Int), (15 : Int))) fun y3 =>
        Option.bind (f70F k (w2.2.2.2.2.2.1, (0 : Int), w2.2.2.2.2.1)) fun y4 =>
        k0 (y3, y4, ())
      else
      bif (w2.2.1 == (3 : Int)) then
        bif (w2.2.2.2.2.1 == (4 : Int)) then
          Option.bind (f70F k (w2.2.2.2.2.2.1, (0 : Int), w2.2.2.2.2.1)) fun y5 =>
          k0 (true, y5, ())
        else
        Option.bind (f70F k (w2.2.2.2.2.2.1, (0 : Int), w2.2.2.2.2.1)) fun y6 =>
        k0 ((w2.2.2.2.2.1 == (9 : Int)), y6, ())
      else
      bif (w2.2.1 == (4 : Int)) then
        k0 ((w2.2.2.2.2.1 == (0 : Int)), w2.1, ())
      else
      k1 ((4 : Int), w2.1, ()))
    (v.1, v.2.1, v.2.1, v.2.2.1, v.2.2.2.1, ())
noncomputable def f28p1S (k : Nat) : Sum1 := partSum f28p1H f28p1N (fun R K v => f28p1 k (fun w => K .normal (encSt f28p1X0 w)) (fun w => K .ret (encSt f28p1X1 w)) v)
theorem f28p1E (k : Nat) (R : Type) (K : X → St → Option R) (v : f28p1H.Den) : evS tab (f28T k) Tryz.f157.ntmps [(470, f28p0S k)] f28p1C 14 (partK f28p1M K) (encSt f28p1H v) = f28p1 k (fun w => K .normal (encSt f28p1X0 w)) (fun w => K .ret (encSt f28p1X1 w)) v := by kernel_rfl
theorem f28p1I (k : Nat) : SumsOk P Tryz.f157.ntmps [(470, f28p0S k)] f28p1C 14 := (SumsOk.nil).cons (c := f28p0C) (by kernel_rfl) (f28p0O k)
theorem f28p1O (k : Nat) : SumOk P Tryz.f157.ntmps f28p1C (f28p1S k) := sum_part tabOk (f28TS k) mixed (f28p1I k) (f28p1E k)
noncomputable def f28F (k : Nat) (x : (Int × (Int × Int))) : Option (Int) :=
  f28p1 k
    (fun (w7 : Bool × Bool × Unit) =>
      Option.bind (f43F k ((!w7.1), (18 : Int))) fun y8 =>
      Option.bind (f43F k ((!w7.2.1), (3 : Int))) fun y9 =>
      Option.bind (f42F k [y8, y9]) fun y10 =>
      some y10)
    (fun (w11 : Int × Bool × Unit) =>
      some w11.1)
    ((x.2.2 == (0 : Int)), x.1, x.2.1, x.2.2, ())
noncomputable def f28L (k : Nat) : Sums := [(470, f28p0S k), (14, f28p1S k)]
theorem f28LS (k : Nat) : SumsOk P Tryz.f157.ntmps (f28L k) (codeOf Tryz.f157) 1 := ((SumsOk.nil).cons (c := f28p1C) (by kernel_rfl) (f28p1O k)).cons (c := f28p0C) (by kernel_rfl) (f28p0O k)
theorem f28E (k : Nat) (x : (Int × (Int × Int))) : evFS tab (f28T k) (f28L k) Tryz.f157.ntmps Tryz.f157.results.toList (codeOf Tryz.f157) (argsV [.agg (.pair (.int .i64) Y0)] x) [.dat (.int .i64)] none = f28F k x := by kernel_rfl
theorem f28Ok (k : Nat) (x : (Int × (Int × Int))) (y : Int) (h : f28F k x = some y) : FnOk P 157 [.agg (.pair (.int .i64) Y0)] [.dat (.int .i64)] x y :=
  evFS_sound tabOk (f28TS k) mixed Tryz.func157 (c := codeOf Tryz.f157) (by kernel_rfl) (f28LS k) ((f28E k x).trans h)
noncomputable def f28A (k : Nat) := entFnB [.agg (.pair (.int .i64) Y0)] [.dat (.int .i64)] (f28F k)
theorem f28Ao (k : Nat) : EntOk P 157 (f28A k) := entFnB_ok (f28Ok k)
/-! ## midrange/numeric.size -/
noncomputable def f44T (k : Nat) : Table := []
theorem f44TS (k : Nat) : Sound P (f44T k) := Sound.nil
theorem f44B : HasBody P 176 := ⟨Tryz.f176, Tryz.func176, by kernel_rfl, by kernel_rfl⟩
noncomputable def f44F (k : Nat) (x : (Int × (Int × Int))) : Option (Int) :=
  bif (x.1 == (1 : Int)) then
    let t1 := (IntKind.i64.wrap ((IntKind.i64.wrap (Int.tdiv x.2.1 (2 : Int))) + (1 : Int)))
    some t1
  else
  bif (x.1 == (3 : Int)) then
    let t2 := (IntKind.i64.wrap ((IntKind.i64.wrap (Int.tdiv x.2.1 (9 : Int))) * (2 : Int)))
    some (IntKind.i64.wrap ((2 : Int) + t2))
  else
  bif (x.1 == (4 : Int)) then
    some (16 : Int)
  else
  some x.2.1
noncomputable def f44L (k : Nat) : Sums := []
theorem f44LS (k : Nat) : SumsOk P Tryz.f176.ntmps (f44L k) (codeOf Tryz.f176) 1 := SumsOk.nil
theorem f44E (k : Nat) (x : (Int × (Int × Int))) : evFS tab (f44T k) (f44L k) Tryz.f176.ntmps Tryz.f176.results.toList (codeOf Tryz.f176) (argsV [.agg (.pair (.int .i64) Y0)] x) [.dat (.int .i64)] none = f44F k x := by kernel_rfl
theorem f44Ok (k : Nat) (x : (Int × (Int × Int))) (y : Int) (h : f44F k x = some y) : FnOk P 176 [.agg (.pair (.int .i64) Y0)] [.dat (.int .i64)] x y :=
  evFS_sound tabOk (f44TS k) mixed Tryz.func176 (c := codeOf Tryz.f176) (by kernel_rfl) (f44LS k) ((f44E k x).trans h)
noncomputable def f44A (k : Nat) := entFnB [.agg (.pair (.int .i64) Y0)] [.dat (.int .i64)] (f44F k)
theorem f44Ao (k : Nat) : EntOk P 176 (f44A k) := entFnB_ok (f44Ok k)
/-! ## midrange/numeric.SizeOf -/
noncomputable def f24T (k : Nat) : Table := [(157, f28A k), (176, f44A k)]
theorem f24TS (k : Nat) : Sound P (f24T k) := ((Sound.nil).consE f44B (f44Ao k)).consE f28B (f28Ao k)
theorem f24B : HasBody P 158 := ⟨Tryz.f158, Tryz.func158, by kernel_rfl, by kernel_rfl⟩
noncomputable def f24F (k : Nat) (x : (Int × (Int × Int))) : Option (Int × Int) :=
  Option.bind (f28F k (x.1, (x.2.1, x.2.2))) fun y1 =>
  bif (y1 != (0 : Int)) then
    some ((0 : Int), y1)
  else
  Option.bind (f44F k (x.1, (x.2.1, x.2.2))) fun y2 =>
  some (y2, (0 : Int))
noncomputable def f24L (k : Nat) : Sums := []
theorem f24LS (k : Nat) : SumsOk P Tryz.f158.ntmps (f24L k) (codeOf Tryz.f158) 1 := SumsOk.nil
theorem f24E (k : Nat) (x : (Int × (Int × Int))) : evFS tab (f24T k) (f24L k) Tryz.f158.ntmps Tryz.f158.results.toList (codeOf Tryz.f158) (argsV [.agg (.pair (.int .i64) Y0)] x) [.dat (.int .i64), .dat (.int .i64)] none = f24F k x := by kernel_rfl
theorem f24Ok (k : Nat) (x : (Int × (Int × Int))) (y : Int × Int) (h : f24F k x = some y) : FnOk P 158 [.agg (.pair (.int .i64) Y0)] [.dat (.int .i64), .dat (.int .i64)] x y :=
  evFS_sound tabOk (f24TS k) mixed Tryz.func158 (c := codeOf Tryz.f158) (by kernel_rfl) (f24LS k) ((f24E k x).trans h)
noncomputable def f24A (k : Nat) := entFnB [.agg (.pair (.int .i64) Y0)] [.dat (.int .i64), .dat (.int .i64)] (f24F k)
theorem f24Ao (k : Nat) : EntOk P 158 (f24A k) := entFnB_ok (f24Ok k)
/-! ## midrange/records.width -/
noncomputable def f640T (k : Nat) : Table := [(158, f24A k)]
theorem f640TS (k : Nat) : Sound P (f640T k) := (Sound.nil).consE f24B (f24Ao k)
theorem f640B : HasBody P 140 := ⟨Tryz.f140, Tryz.func140, by kernel_rfl, by kernel_rfl⟩
noncomputable def f640F (k : Nat) (x : D6) : Option (Int) :=
  Option.bind (f24F k (x.2.1, (x.2.2.1, x.2.2.2))) fun y1 =>
  some y1.1
noncomputable def f640L (k : Nat) : Sums := []
theorem f640LS (k : Nat) : SumsOk P Tryz.f140.ntmps (f640L k) (codeOf Tryz.f140) 1 := SumsOk.nil
theorem f640E (k : Nat) (x : D6) : evFS tab (f640T k) (f640L k) Tryz.f140.ntmps Tryz.f140.results.toList (codeOf Tryz.f140) (argsV [.agg Y1] x) [.dat (.int .i64)] none = f640F k x := by kernel_rfl
theorem f640Ok (k : Nat) (x : D6) (y : Int) (h : f640F k x = some y) : FnOk P 140 [.agg Y1] [.dat (.int .i64)] x y :=
  evFS_sound tabOk (f640TS k) mixed Tryz.func140 (c := codeOf Tryz.f140) (by kernel_rfl) (f640LS k) ((f640E k x).trans h)
noncomputable def f640A (k : Nat) := entFnB [.agg Y1] [.dat (.int .i64)] (f640F k)
theorem f640Ao (k : Nat) : EntOk P 140 (f640A k) := entFnB_ok (f640Ok k)
/-! ## midrange/records.at -/
noncomputable def f608T (k : Nat) : Table := [(140, f640A k)]
theorem f608TS (k : Nat) : Sound P (f608T k) := (Sound.nil).consE f640B (f640Ao k)
theorem f608B : HasBody P 108 := ⟨Tryz.f108, Tryz.func108, by kernel_rfl, by kernel_rfl⟩
noncomputable def f608l0H : Shape := ⟨[(1, .one (.str)), (7, .one (.int .i64)), (11, .one (.ro Y1)), (12, .one (.int .i64)), (13, .one (.int .i64))], [], 0, []⟩
noncomputable def f608l0X0 : Shape := ⟨[(4, .one (.int .i64)), (5, .one (.int .i64)), (6, .one (.bool))], [], 0, []⟩
noncomputable def f608l0X1 : Shape := ⟨[], [], 0, []⟩
noncomputable def f608l0N : NoteR := ⟨[1, 7, 11, 12, 13], [], []⟩
noncomputable def f608l0M : NoteR := ⟨[4, 5, 6], [], []⟩
noncomputable def f608l0C : Code := firstC (codesAt 58 (codeOf Tryz.f108) 1)
noncomputable def f608l0s {R : Type} (k : Nat) (rec : D7 → Option R) (k0 : Int × Int × Bool × Unit → Option R) (k1 : Unit → Option R) (v : D7) : Option R :=
  bif (decide (v.2.2.2.2.1 < v.2.2.2.1)) then
    bif ((decide ((0 : Int) ≤ v.2.2.2.2.1)) && (decide (v.2.2.2.2.1 < (v.2.2.1.length : Int)))) then
    let t1 := (v.2.2.1.getD (Int.toNat v.2.2.2.2.1) (ByteArray.empty, ((0 : Int), ((0 : Int), (0 : Int)))))
    bif (strEq t1.1 v.1) then
      k0 (v.2.2.2.2.1, v.2.1, true, ())
    else
    Option.bind (f640F k (t1.1, (t1.2.1, (t1.2.2.1, t1.2.2.2)))) fun y2 =>
    rec (v.1, (IntKind.i64.wrap (v.2.1 + y2)), v.2.2.1, v.2.2.2.1, (IntKind.i64.wrap (v.2.2.2.2.1 + (1 : Int))), ())
    else none
  else
  k1 (())
noncomputable def f608l0 {R : Type} (k : Nat) (k0 : Int × Int × Bool × Unit → Option R) (k1 : Unit → Option R) (v : D7) : Option R := iterS (fun rec v => f608l0s k rec k0 k1 v) k v
noncomputable def f608l0S (k : Nat) : Sum1 := loopSum f608l0H f608l0N k (fun R rec K v => f608l0s k rec (fun w => K .ret (encSt f608l0X0 w)) (fun w => K (.exit 0) (encSt f608l0X1 w)) v)
theorem f608l0E (k : Nat) (R : Type) (rec : St → Option R) (K : X → St → Option R) (v : f608l0H.Den) : evS tab (f608T k) Tryz.f108.ntmps [] (bodyOf f608l0C) 116 (bodyK f608l0N f608l0M rec K) (encSt f608l0H v) = f608l0s k (fun v => rec (encSt f608l0H v)) (fun w => K .ret (encSt f608l0X0 w)) (fun w => K (.exit 0) (encSt f608l0X1 w)) v := by kernel_rfl
theorem f608l0I (k : Nat) : SumsOk P Tryz.f108.ntmps [] (bodyOf f608l0C) 116 := SumsOk.nil
theorem f608l0O (k : Nat) : SumOk P Tryz.f108.ntmps f608l0C (f608l0S k) := (show f608l0C = .loop (bodyOf f608l0C) by kernel_rfl) ▸ sum_loop tabOk (f608TS k) mixed (f608l0I k) (f608l0E k)
noncomputable def f608F (k : Nat) (x : D8) : Option (Int × Int × Bool) :=
  f608l0 k
    (fun (w3 : Int × Int × Bool × Unit) =>
      some (w3.1, w3.2.1, w3.2.2.1))
    (fun (w4 : Unit) =>
      some ((0 : Int), (0 : Int), false))
    (x.2, (0 : Int), x.1.2, (x.1.2.length : Int), (0 : Int), ())
noncomputable def f608L (k : Nat) : Sums := [(58, f608l0S k)]
theorem f608LS (k : Nat) : SumsOk P Tryz.f108.ntmps (f608L k) (codeOf Tryz.f108) 1 := (SumsOk.nil).cons (c := f608l0C) (by kernel_rfl) (f608l0O k)
theorem f608E (k : Nat) (x : D8) : evFS tab (f608T k) (f608L k) Tryz.f108.ntmps Tryz.f108.results.toList (codeOf Tryz.f108) (argsV [.agg Y2, .dat .str] x) [.dat (.int .i64), .dat (.int .i64), .dat .bool] none = f608F k x := by kernel_rfl
theorem f608Ok (k : Nat) (x : D8) (y : Int × Int × Bool) (h : f608F k x = some y) : FnOk P 108 [.agg Y2, .dat .str] [.dat (.int .i64), .dat (.int .i64), .dat .bool] x y :=
  evFS_sound tabOk (f608TS k) mixed Tryz.func108 (c := codeOf Tryz.f108) (by kernel_rfl) (f608LS k) ((f608E k x).trans h)
noncomputable def f608A (k : Nat) := entFnB [.agg Y2, .dat .str] [.dat (.int .i64), .dat (.int .i64), .dat .bool] (f608F k)
theorem f608Ao (k : Nat) : EntOk P 108 (f608A k) := entFnB_ok (f608Ok k)
/-! ## midrange/records.CheckFormat -/
noncomputable def f639T (k : Nat) : Table := [(92, f592A k), (94, f594A k), (106, f606A k), (108, f608A k), (140, f640A k), (157, f28A k)]
theorem f639TS (k : Nat) : Sound P (f639T k) := ((((((Sound.nil).consE f28B (f28Ao k)).consE f640B (f640Ao k)).consE f608B (f608Ao k)).consE f606B (f606Ao k)).consE f594B (f594Ao k)).consE f592B (f592Ao k)
theorem f639B : HasBody P 139 := ⟨Tryz.f139, Tryz.func139, by kernel_rfl, by kernel_rfl⟩
noncomputable def f639l0H : Shape := ⟨[(1, .one (.ptr 0 0)), (5, .one (.int .i64)), (33, .one (.ro Y1)), (34, .one (.int .i64)), (35, .one (.int .i64))], [(0, .var 46 [.str, .ro Y1])], 1, []⟩
noncomputable def f639l0X0 : Shape := ⟨[(2, .one (.int .i64)), (3, .one (.int .i64)), (5, .one (.int .i64))], [], 0, []⟩
noncomputable def f639l0X1 : Shape := ⟨[(5, .one (.int .i64))], [], 0, []⟩
noncomputable def f639l0N : NoteR := ⟨[1, 5, 33, 34, 35], [], []⟩
noncomputable def f639l0M : NoteR := ⟨[2, 3, 5], [], []⟩
noncomputable def f639l0C : Code := firstC (codesAt 122 (codeOf Tryz.f139) 1)
noncomputable def f639l0s {R : Type} (k : Nat) (rec : D9 → Option R) (k0 : Int × Int × Int × Unit → Option R) (k1 : Int × Unit → Option R) (v : D9) : Option R :=
  bif (decide (v.2.2.2.1 < v.2.2.1)) then
    bif ((decide ((0 : Int) ≤ v.2.2.2.1)) && (decide (v.2.2.2.1 < (v.2.1.length : Int)))) then
    let t6 := (v.2.1.getD (Int.toNat v.2.2.2.1) (ByteArray.empty, ((0 : Int), ((0 : Int), (0 : Int)))))
    bif (sliceBds (0 : Int) v.2.2.2.1 (v.2.2.2.2.2.1.length : Int)) then
    Option.bind (f608F k ((ByteArray.empty, ((v.2.2.2.2.2.1.take (Int.toNat v.2.2.2.1)).drop 0)), t6.1)) fun y7 =>
    Option.bind (f606F k t6.1) fun y8 =>
    Option.bind (f594F k ((!y8), (7 : Int))) fun y9 =>
    Option.bind (f594F k (y7.2.2, (13 : Int))) fun y10 =>
    Option.bind (f28F k (t6.2.1, (t6.2.2.1, t6.2.2.2))) fun y11 =>
    Option.bind (f594F k ((t6.2.1 == (4 : Int)), (17 : Int))) fun y12 =>
    Option.bind (f592F k [y9, y10, y11, y12]) fun y13 =>
    bif (y13 != (0 : Int)) then
      k0 (v.2.2.2.1, y13, v.1, ())
    else
    Option.bind (f640F k (t6.1, (t6.2.1, (t6.2.2.1, t6.2.2.2)))) fun y14 =>
    rec ((IntKind.i64.wrap (v.1 + y14)), v.2.1, v.2.2.1, (IntKind.i64.wrap (v.2.2.2.1 + (1 : Int))), v.2.2.2.2.1, v.2.2.2.2.2.1, ())
    else none
    else none
  else
  k1 (v.1, ())
noncomputable def f639l0 {R : Type} (k : Nat) (k0 : Int × Int × Int × Unit → Option R) (k1 : Int × Unit → Option R) (v : D9) : Option R := iterS (fun rec v => f639l0s k rec k0 k1 v) k v
noncomputable def f639l0S (k : Nat) : Sum1 := loopSum f639l0H f639l0N k (fun R rec K v => f639l0s k rec (fun w => K .ret (encSt f639l0X0 w)) (fun w => K (.exit 0) (encSt f639l0X1 w)) v)
theorem f639l0E (k : Nat) (R : Type) (rec : St → Option R) (K : X → St → Option R) (v : f639l0H.Den) : evS tab (f639T k) Tryz.f139.ntmps [] (bodyOf f639l0C) 244 (bodyK f639l0N f639l0M rec K) (encSt f639l0H v) = f639l0s k (fun v => rec (encSt f639l0H v)) (fun w => K .ret (encSt f639l0X0 w)) (fun w => K (.exit 0) (encSt f639l0X1 w)) v := by kernel_rfl
theorem f639l0I (k : Nat) : SumsOk P Tryz.f139.ntmps [] (bodyOf f639l0C) 244 := SumsOk.nil
theorem f639l0O (k : Nat) : SumOk P Tryz.f139.ntmps f639l0C (f639l0S k) := (show f639l0C = .loop (bodyOf f639l0C) by kernel_rfl) ▸ sum_loop tabOk (f639TS k) mixed (f639l0I k) (f639l0E k)
noncomputable def f639F (k : Nat) (x : (ByteArray × (List D6))) : Option (Int × Int) :=
  Option.bind (f606F k x.1) fun y1 =>
  Option.bind (f594F k ((!y1), (7 : Int))) fun y2 =>
  Option.bind (f594F k (((x.2.length : Int) == (0 : Int)), (1 : Int))) fun y3 =>
  Option.bind (f594F k ((decide ((x.2.length : Int) > (20 : Int))), (2 : Int))) fun y4 =>
  Option.bind (f592F k [y2, y3, y4]) fun y5 =>
  bif (y5 != (0 : Int)) then
    some ((0 : Int), y5)
  else
  f639l0 k
    (fun (w15 : Int × Int × Int × Unit) =>
      some (w15.1, w15.2.1))
    (fun (w16 : Int × Unit) =>
      Option.bind (f594F k ((decide (w16.1 > (200 : Int))), (18 : Int))) fun y17 =>
      some ((0 : Int), y17))
    ((0 : Int), x.2, (x.2.length : Int), (0 : Int), x.1, x.2, ())
noncomputable def f639L (k : Nat) : Sums := [(122, f639l0S k)]
theorem f639LS (k : Nat) : SumsOk P Tryz.f139.ntmps (f639L k) (codeOf Tryz.f139) 1 := (SumsOk.nil).cons (c := f639l0C) (by kernel_rfl) (f639l0O k)
theorem f639E (k : Nat) (x : (ByteArray × (List D6))) : evFS tab (f639T k) (f639L k) Tryz.f139.ntmps Tryz.f139.results.toList (codeOf Tryz.f139) (argsV [.agg Y2] x) [.dat (.int .i64), .dat (.int .i64)] none = f639F k x := by kernel_rfl
theorem f639Ok (k : Nat) (x : (ByteArray × (List D6))) (y : Int × Int) (h : f639F k x = some y) : FnOk P 139 [.agg Y2] [.dat (.int .i64), .dat (.int .i64)] x y :=
  evFS_sound tabOk (f639TS k) mixed Tryz.func139 (c := codeOf Tryz.f139) (by kernel_rfl) (f639LS k) ((f639E k x).trans h)
noncomputable def f639A (k : Nat) := entFnB [.agg Y2] [.dat (.int .i64), .dat (.int .i64)] (f639F k)
theorem f639Ao (k : Nat) : EntOk P 139 (f639A k) := entFnB_ok (f639Ok k)
/-! ## midrange/records.formatErr -/
noncomputable def f607T (k : Nat) : Table := [(139, f639A k)]
theorem f607TS (k : Nat) : Sound P (f607T k) := (Sound.nil).consE f639B (f639Ao k)
theorem f607B : HasBody P 107 := ⟨Tryz.f107, Tryz.func107, by kernel_rfl, by kernel_rfl⟩
noncomputable def f607F (k : Nat) (x : (ByteArray × (List D6))) : Option (Int) :=
  Option.bind (f639F k (x.1, x.2)) fun y1 =>
  some y1.2
noncomputable def f607L (k : Nat) : Sums := []
theorem f607LS (k : Nat) : SumsOk P Tryz.f107.ntmps (f607L k) (codeOf Tryz.f107) 1 := SumsOk.nil
theorem f607E (k : Nat) (x : (ByteArray × (List D6))) : evFS tab (f607T k) (f607L k) Tryz.f107.ntmps Tryz.f107.results.toList (codeOf Tryz.f107) (argsV [.agg Y2] x) [.dat (.int .i64)] none = f607F k x := by kernel_rfl
theorem f607Ok (k : Nat) (x : (ByteArray × (List D6))) (y : Int) (h : f607F k x = some y) : FnOk P 107 [.agg Y2] [.dat (.int .i64)] x y :=
  evFS_sound tabOk (f607TS k) mixed Tryz.func107 (c := codeOf Tryz.f107) (by kernel_rfl) (f607LS k) ((f607E k x).trans h)
noncomputable def f607A (k : Nat) := entFnB [.agg Y2] [.dat (.int .i64)] (f607F k)
theorem f607Ao (k : Nat) : EntOk P 107 (f607A k) := entFnB_ok (f607Ok k)
/-! ## midrange/records.CheckFile -/
noncomputable def f569T (k : Nat) : Table := [(92, f592A k), (94, f594A k), (106, f606A k), (107, f607A k), (108, f608A k)]
theorem f569TS (k : Nat) : Sound P (f569T k) := (((((Sound.nil).consE f608B (f608Ao k)).consE f607B (f607Ao k)).consE f606B (f606Ao k)).consE f594B (f594Ao k)).consE f592B (f592Ao k)
theorem f569B : HasBody P 69 := ⟨Tryz.f69, Tryz.func69, by kernel_rfl, by kernel_rfl⟩
noncomputable def f569l0H : Shape := ⟨[(1, .one (.ptr 0 0)), (5, .one (.mref 1)), (32, .one (.ro (.pair .str .bool))), (33, .one (.int .i64)), (34, .one (.int .i64))], [(0, .var 49 [.str, .str, .ro Y1, .ro (.pair .str .bool), .bool]), (1, .smap)], 2, []⟩
noncomputable def f569l0X0 : Shape := ⟨[(2, .one (.int .i64)), (3, .one (.int .i64))], [], 0, []⟩
noncomputable def f569l0X1 : Shape := ⟨[], [], 0, []⟩
noncomputable def f569l0N : NoteR := ⟨[1, 5, 32, 33, 34], [], []⟩
noncomputable def f569l0M : NoteR := ⟨[2, 3], [], []⟩
noncomputable def f569l0C : Code := firstC (codesAt 122 (codeOf Tryz.f69) 1)
noncomputable def f569l0s {R : Type} (k : Nat) (rec : D10 → Option R) (k0 : Int × Int × Unit → Option R) (k1 : Unit → Option R) (v : D10) : Option R :=
  bif (decide (v.2.2.1 < v.2.1)) then
    bif ((decide ((0 : Int) ≤ v.2.2.1)) && (decide (v.2.2.1 < (v.1.length : Int)))) then
    Option.bind (f608F k ((v.2.2.2.2.1, v.2.2.2.2.2.1), (v.1.getD (Int.toNat v.2.2.1) (ByteArray.empty, false)).1)) fun y6 =>
    Option.bind (f594F k ((!y6.2.2), (11 : Int))) fun y7 =>
    let t8 := (smapGet v.2.2.2.2.2.2.2.2.1 (v.1.getD (Int.toNat v.2.2.1) (ByteArray.empty, false)).1)
    Option.bind (f594F k (t8, (13 : Int))) fun y9 =>
    Option.bind (f592F k [y7, y9]) fun y10 =>
    bif (y10 != (0 : Int)) then
      k0 (v.2.2.1, y10, ())
    else
    let t11 := (smapPut v.2.2.2.2.2.2.2.2.1 (v.1.getD (Int.toNat v.2.2.1) (ByteArray.empty, false)).1 true)
    rec (v.1, v.2.1, (IntKind.i64.wrap (v.2.2.1 + (1 : Int))), v.2.2.2.1, v.2.2.2.2.1, v.2.2.2.2.2.1, v.2.2.2.2.2.2.1, v.2.2.2.2.2.2.2.1, t11, ())
    else none
  else
  k1 (())
noncomputable def f569l0 {R : Type} (k : Nat) (k0 : Int × Int × Unit → Option R) (k1 : Unit → Option R) (v : D10) : Option R := iterS (fun rec v => f569l0s k rec k0 k1 v) k v
noncomputable def f569l0S (k : Nat) : Sum1 := loopSum f569l0H f569l0N k (fun R rec K v => f569l0s k rec (fun w => K .ret (encSt f569l0X0 w)) (fun w => K (.exit 0) (encSt f569l0X1 w)) v)
theorem f569l0E (k : Nat) (R : Type) (rec : St → Option R) (K : X → St → Option R) (v : f569l0H.Den) : evS tab (f569T k) Tryz.f69.ntmps [] (bodyOf f569l0C) 244 (bodyK f569l0N f569l0M rec K) (encSt f569l0H v) = f569l0s k (fun v => rec (encSt f569l0H v)) (fun w => K .ret (encSt f569l0X0 w)) (fun w => K (.exit 0) (encSt f569l0X1 w)) v := by kernel_rfl
theorem f569l0I (k : Nat) : SumsOk P Tryz.f69.ntmps [] (bodyOf f569l0C) 244 := SumsOk.nil
theorem f569l0O (k : Nat) : SumOk P Tryz.f69.ntmps f569l0C (f569l0S k) := (show f569l0C = .loop (bodyOf f569l0C) by kernel_rfl) ▸ sum_loop tabOk (f569TS k) mixed (f569l0I k) (f569l0E k)
noncomputable def f569F (k : Nat) (x : (ByteArray × D12)) : Option (Int × Int) :=
  Option.bind (f606F k x.1) fun y1 =>
  Option.bind (f594F k ((!y1), (7 : Int))) fun y2 =>
  Option.bind (f607F k (x.2.1.1, x.2.1.2)) fun y3 =>
  Option.bind (f594F k ((decide ((x.2.2.1.length : Int) > (4 : Int))), (2 : Int))) fun y4 =>
  Option.bind (f592F k [y2, y3, y4]) fun y5 =>
  bif (y5 != (0 : Int)) then
    some ((0 : Int), y5)
  else
  f569l0 k
    (fun (w12 : Int × Int × Unit) =>
      some (w12.1, w12.2.1))
    (fun (w13 : Unit) =>
      some ((0 : Int), (0 : Int)))
    (x.2.2.1, (x.2.2.1.length : Int), (0 : Int), x.1, x.2.1.1, x.2.1.2, x.2.2.1, x.2.2.2, [], ())
noncomputable def f569L (k : Nat) : Sums := [(122, f569l0S k)]
theorem f569LS (k : Nat) : SumsOk P Tryz.f69.ntmps (f569L k) (codeOf Tryz.f69) 1 := (SumsOk.nil).cons (c := f569l0C) (by kernel_rfl) (f569l0O k)
theorem f569E (k : Nat) (x : (ByteArray × D12)) : evFS tab (f569T k) (f569L k) Tryz.f69.ntmps Tryz.f69.results.toList (codeOf Tryz.f69) (argsV [.agg Y4] x) [.dat (.int .i64), .dat (.int .i64)] none = f569F k x := by kernel_rfl
theorem f569Ok (k : Nat) (x : (ByteArray × D12)) (y : Int × Int) (h : f569F k x = some y) : FnOk P 69 [.agg Y4] [.dat (.int .i64), .dat (.int .i64)] x y :=
  evFS_sound tabOk (f569TS k) mixed Tryz.func69 (c := codeOf Tryz.f69) (by kernel_rfl) (f569LS k) ((f569E k x).trans h)
noncomputable def f569A (k : Nat) := entFnB [.agg Y4] [.dat (.int .i64), .dat (.int .i64)] (f569F k)
theorem f569Ao (k : Nat) : EntOk P 69 (f569A k) := entFnB_ok (f569Ok k)
/-! ## midrange/records.fileErr -/
noncomputable def f593T (k : Nat) : Table := [(69, f569A k)]
theorem f593TS (k : Nat) : Sound P (f593T k) := (Sound.nil).consE f569B (f569Ao k)
theorem f593B : HasBody P 93 := ⟨Tryz.f93, Tryz.func93, by kernel_rfl, by kernel_rfl⟩
noncomputable def f593F (k : Nat) (x : (ByteArray × D12)) : Option (Int) :=
  Option.bind (f569F k (x.1, ((x.2.1.1, x.2.1.2), (x.2.2.1, x.2.2.2)))) fun y1 =>
  some y1.2
noncomputable def f593L (k : Nat) : Sums := []
theorem f593LS (k : Nat) : SumsOk P Tryz.f93.ntmps (f593L k) (codeOf Tryz.f93) 1 := SumsOk.nil
theorem f593E (k : Nat) (x : (ByteArray × D12)) : evFS tab (f593T k) (f593L k) Tryz.f93.ntmps Tryz.f93.results.toList (codeOf Tryz.f93) (argsV [.agg Y4] x) [.dat (.int .i64)] none = f593F k x := by kernel_rfl
theorem f593Ok (k : Nat) (x : (ByteArray × D12)) (y : Int) (h : f593F k x = some y) : FnOk P 93 [.agg Y4] [.dat (.int .i64)] x y :=
  evFS_sound tabOk (f593TS k) mixed Tryz.func93 (c := codeOf Tryz.f93) (by kernel_rfl) (f593LS k) ((f593E k x).trans h)
noncomputable def f593A (k : Nat) := entFnB [.agg Y4] [.dat (.int .i64)] (f593F k)
theorem f593Ao (k : Nat) : EntOk P 93 (f593A k) := entFnB_ok (f593Ok k)
/-! ## midrange/records.size -/
noncomputable def f645T (k : Nat) : Table := [(140, f640A k)]
theorem f645TS (k : Nat) : Sound P (f645T k) := (Sound.nil).consE f640B (f640Ao k)
theorem f645B : HasBody P 145 := ⟨Tryz.f145, Tryz.func145, by kernel_rfl, by kernel_rfl⟩
noncomputable def f645l0H : Shape := ⟨[(3, .one (.int .i64)), (7, .one (.ro Y1)), (8, .one (.int .i64)), (9, .one (.int .i64))], [], 0, []⟩
noncomputable def f645l0X0 : Shape := ⟨[(3, .one (.int .i64))], [], 0, []⟩
noncomputable def f645l0N : NoteR := ⟨[3, 7, 8, 9], [], []⟩
noncomputable def f645l0M : NoteR := ⟨[2, 3], [], []⟩
noncomputable def f645l0C : Code := firstC (codesAt 58 (codeOf Tryz.f145) 1)
noncomputable def f645l0s {R : Type} (k : Nat) (rec : D13 → Option R) (k0 : Int × Unit → Option R) (v : D13) : Option R :=
  bif (decide (v.2.2.2.1 < v.2.2.1)) then
    bif ((decide ((0 : Int) ≤ v.2.2.2.1)) && (decide (v.2.2.2.1 < (v.2.1.length : Int)))) then
    let t1 := (v.2.1.getD (Int.toNat v.2.2.2.1) (ByteArray.empty, ((0 : Int), ((0 : Int), (0 : Int)))))
    Option.bind (f640F k (t1.1, (t1.2.1, (t1.2.2.1, t1.2.2.2)))) fun y2 =>
    rec ((IntKind.i64.wrap (v.1 + y2)), v.2.1, v.2.2.1, (IntKind.i64.wrap (v.2.2.2.1 + (1 : Int))), ())
    else none
  else
  k0 (v.1, ())
noncomputable def f645l0 {R : Type} (k : Nat) (k0 : Int × Unit → Option R) (v : D13) : Option R := iterS (fun rec v => f645l0s k rec k0 v) k v
noncomputable def f645l0S (k : Nat) : Sum1 := loopSum f645l0H f645l0N k (fun R rec K v => f645l0s k rec (fun w => K (.exit 0) (encSt f645l0X0 w)) v)
theorem f645l0E (k : Nat) (R : Type) (rec : St → Option R) (K : X → St → Option R) (v : f645l0H.Den) : evS tab (f645T k) Tryz.f145.ntmps [] (bodyOf f645l0C) 116 (bodyK f645l0N f645l0M rec K) (encSt f645l0H v) = f645l0s k (fun v => rec (encSt f645l0H v)) (fun w => K (.exit 0) (encSt f645l0X0 w)) v := by kernel_rfl
theorem f645l0I (k : Nat) : SumsOk P Tryz.f145.ntmps [] (bodyOf f645l0C) 116 := SumsOk.nil
theorem f645l0O (k : Nat) : SumOk P Tryz.f145.ntmps f645l0C (f645l0S k) := (show f645l0C = .loop (bodyOf f645l0C) by kernel_rfl) ▸ sum_loop tabOk (f645TS k) mixed (f645l0I k) (f645l0E k)
noncomputable def f645F (k : Nat) (x : (ByteArray × (List D6))) : Option (Int) :=
  f645l0 k
    (fun (w3 : Int × Unit) =>
      some w3.1)
    ((0 : Int), x.2, (x.2.length : Int), (0 : Int), ())
noncomputable def f645L (k : Nat) : Sums := [(58, f645l0S k)]
theorem f645LS (k : Nat) : SumsOk P Tryz.f145.ntmps (f645L k) (codeOf Tryz.f145) 1 := (SumsOk.nil).cons (c := f645l0C) (by kernel_rfl) (f645l0O k)
theorem f645E (k : Nat) (x : (ByteArray × (List D6))) : evFS tab (f645T k) (f645L k) Tryz.f145.ntmps Tryz.f145.results.toList (codeOf Tryz.f145) (argsV [.agg Y2] x) [.dat (.int .i64)] none = f645F k x := by kernel_rfl
theorem f645Ok (k : Nat) (x : (ByteArray × (List D6))) (y : Int) (h : f645F k x = some y) : FnOk P 145 [.agg Y2] [.dat (.int .i64)] x y :=
  evFS_sound tabOk (f645TS k) mixed Tryz.func145 (c := codeOf Tryz.f145) (by kernel_rfl) (f645LS k) ((f645E k x).trans h)
noncomputable def f645A (k : Nat) := entFnB [.agg Y2] [.dat (.int .i64)] (f645F k)
theorem f645Ao (k : Nat) : EntOk P 145 (f645A k) := entFnB_ok (f645Ok k)
/-! ## midrange/numeric.binary -/
noncomputable def f45T (k : Nat) : Table := []
theorem f45TS (k : Nat) : Sound P (f45T k) := Sound.nil
theorem f45B : HasBody P 196 := ⟨Tryz.f196, Tryz.func196, by kernel_rfl, by kernel_rfl⟩
noncomputable def f45l0H : Shape := ⟨[(3, .one (.int .i64)), (12, .one (.own 0)), (13, .one (.int .i64)), (14, .one (.int .i64))], [(0, .row 5 (.int .u8) .mark)], 1, []⟩
noncomputable def f45l0X0 : Shape := ⟨[(3, .one (.int .i64))], [], 0, []⟩
noncomputable def f45l0N : NoteR := ⟨[3, 12, 13, 14], [], []⟩
noncomputable def f45l0M : NoteR := ⟨[2, 3], [], []⟩
noncomputable def f45l0C : Code := firstC (codesAt 58 (codeOf Tryz.f196) 1)
noncomputable def f45l0s {R : Type} (k : Nat) (rec : D14 → Option R) (k0 : Int × Unit → Option R) (v : D14) : Option R :=
  bif (decide (v.2.2.1 < v.2.1)) then
    bif ((decide ((0 : Int) ≤ v.2.2.1)) && (decide (v.2.2.1 < (v.2.2.2.1.length : Int)))) then
    let t1 := (bits .or .i64 (shlI .i64 v.1 (8 : Int)) (IntKind.i64.wrap (v.2.2.2.1.getD (Int.toNat v.2.2.1) (0 : Int))))
    rec (t1, v.2.1, (IntKind.i64.wrap (v.2.2.1 + (1 : Int))), v.2.2.2.1, ())
    else none
  else
  k0 (v.1, ())
noncomputable def f45l0 {R : Type} (k : Nat) (k0 : Int × Unit → Option R) (v : D14) : Option R := iterS (fun rec v => f45l0s k rec k0 v) k v
noncomputable def f45l0S (k : Nat) : Sum1 := loopSum f45l0H f45l0N k (fun R rec K v => f45l0s k rec (fun w => K (.exit 0) (encSt f45l0X0 w)) v)
theorem f45l0E (k : Nat) (R : Type) (rec : St → Option R) (K : X → St → Option R) (v : f45l0H.Den) : evS tab (f45T k) Tryz.f196.ntmps [] (bodyOf f45l0C) 116 (bodyK f45l0N f45l0M rec K) (encSt f45l0H v) = f45l0s k (fun v => rec (encSt f45l0H v)) (fun w => K (.exit 0) (encSt f45l0X0 w)) v := by kernel_rfl
theorem f45l0I (k : Nat) : SumsOk P Tryz.f196.ntmps [] (bodyOf f45l0C) 116 := SumsOk.nil
theorem f45l0O (k : Nat) : SumOk P Tryz.f196.ntmps f45l0C (f45l0S k) := (show f45l0C = .loop (bodyOf f45l0C) by kernel_rfl) ▸ sum_loop tabOk (f45TS k) mixed (f45l0I k) (f45l0E k)
noncomputable def f45F (k : Nat) (x : ByteArray) : Option (Int) :=
  bif (decide ((0 : Int) < (x.size : Int))) then
  bif (sliceBds (1 : Int) (x.size : Int) (x.size : Int)) then
  bif (decide ((x.extract 1 (Int.toNat (x.size : Int))).size ≤ 9223372036854775807)) then
  f45l0 k
    (fun (w2 : Int × Unit) =>
      some w2.1)
    ((IntKind.i64.wrap (IntKind.i8.wrap (bt x (0 : Int)))), ((bytesOf (x.extract 1 (Int.toNat (x.size : Int)))).length : Int), (0 : Int), (bytesOf (x.extract 1 (Int.toNat (x.size : Int)))), ())
  else none
  else none
  else none
noncomputable def f45L (k : Nat) : Sums := [(58, f45l0S k)]
theorem f45LS (k : Nat) : SumsOk P Tryz.f196.ntmps (f45L k) (codeOf Tryz.f196) 1 := (SumsOk.nil).cons (c := f45l0C) (by kernel_rfl) (f45l0O k)
theorem f45E (k : Nat) (x : ByteArray) : evFS tab (f45T k) (f45L k) Tryz.f196.ntmps Tryz.f196.results.toList (codeOf Tryz.f196) (argsV [.dat .str] x) [.dat (.int .i64)] none = f45F k x := by kernel_rfl
theorem f45Ok (k : Nat) (x : ByteArray) (y : Int) (h : f45F k x = some y) : FnOk P 196 [.dat .str] [.dat (.int .i64)] x y :=
  evFS_sound tabOk (f45TS k) mixed Tryz.func196 (c := codeOf Tryz.f196) (by kernel_rfl) (f45LS k) ((f45E k x).trans h)
noncomputable def f45A (k : Nat) := entFnB [.dat .str] [.dat (.int .i64)] (f45F k)
theorem f45Ao (k : Nat) : EntOk P 196 (f45A k) := entFnB_ok (f45Ok k)
/-! ## midrange/numeric.power -/
noncomputable def f71T (k : Nat) : Table := []
theorem f71TS (k : Nat) : Sound P (f71T k) := Sound.nil
theorem f71B : HasBody P 206 := ⟨Tryz.f206, Tryz.func206, by kernel_rfl, by kernel_rfl⟩
noncomputable def f71l0H : Shape := ⟨[(3, .one (.int .i64)), (5, .one (.int .i64)), (6, .one (.int .i64))], [], 0, []⟩
noncomputable def f71l0X0 : Shape := ⟨[(3, .one (.int .i64))], [], 0, []⟩
noncomputable def f71l0N : NoteR := ⟨[3, 5, 6], [], []⟩
noncomputable def f71l0M : NoteR := ⟨[2, 3], [], []⟩
noncomputable def f71l0C : Code := firstC (codesAt 58 (codeOf Tryz.f206) 1)
noncomputable def f71l0s {R : Type} (k : Nat) (rec : Int × Int × Int × Unit → Option R) (k0 : Int × Unit → Option R) (v : Int × Int × Int × Unit) : Option R :=
  bif (decide (v.2.2.1 < v.2.1)) then
    rec ((IntKind.i64.wrap (v.1 * (10 : Int))), v.2.1, (IntKind.i64.wrap (v.2.2.1 + (1 : Int))), ())
  else
  k0 (v.1, ())
noncomputable def f71l0 {R : Type} (k : Nat) (k0 : Int × Unit → Option R) (v : Int × Int × Int × Unit) : Option R := iterS (fun rec v => f71l0s k rec k0 v) k v
noncomputable def f71l0S (k : Nat) : Sum1 := loopSum f71l0H f71l0N k (fun R rec K v => f71l0s k rec (fun w => K (.exit 0) (encSt f71l0X0 w)) v)
theorem f71l0E (k : Nat) (R : Type) (rec : St → Option R) (K : X → St → Option R) (v : f71l0H.Den) : evS tab (f71T k) Tryz.f206.ntmps [] (bodyOf f71l0C) 116 (bodyK f71l0N f71l0M rec K) (encSt f71l0H v) = f71l0s k (fun v => rec (encSt f71l0H v)) (fun w => K (.exit 0) (encSt f71l0X0 w)) v := by kernel_rfl
theorem f71l0I (k : Nat) : SumsOk P Tryz.f206.ntmps [] (bodyOf f71l0C) 116 := SumsOk.nil
theorem f71l0O (k : Nat) : SumOk P Tryz.f206.ntmps f71l0C (f71l0S k) := (show f71l0C = .loop (bodyOf f71l0C) by kernel_rfl) ▸ sum_loop tabOk (f71TS k) mixed (f71l0I k) (f71l0E k)
noncomputable def f71F (k : Nat) (x : Int) : Option (Int) :=
  f71l0 k
    (fun (w1 : Int × Unit) =>
      some w1.1)
    ((1 : Int), (mnI x (18 : Int)), (0 : Int), ())
noncomputable def f71L (k : Nat) : Sums := [(58, f71l0S k)]
theorem f71LS (k : Nat) : SumsOk P Tryz.f206.ntmps (f71L k) (codeOf Tryz.f206) 1 := (SumsOk.nil).cons (c := f71l0C) (by kernel_rfl) (f71l0O k)
theorem f71E (k : Nat) (x : Int) : evFS tab (f71T k) (f71L k) Tryz.f206.ntmps Tryz.f206.results.toList (codeOf Tryz.f206) (argsV [.dat (.int .i64)] x) [.dat (.int .i64)] none = f71F k x := by kernel_rfl
theorem f71Ok (k : Nat) (x : Int) (y : Int) (h : f71F k x = some y) : FnOk P 206 [.dat (.int .i64)] [.dat (.int .i64)] x y :=
  evFS_sound tabOk (f71TS k) mixed Tryz.func206 (c := codeOf Tryz.f206) (by kernel_rfl) (f71LS k) ((f71E k x).trans h)
noncomputable def f71A (k : Nat) := entFnB [.dat (.int .i64)] [.dat (.int .i64)] (f71F k)
theorem f71Ao (k : Nat) : EntOk P 206 (f71A k) := entFnB_ok (f71Ok k)
/-! ## midrange/numeric.CheckValue -/
noncomputable def f29T (k : Nat) : Table := [(157, f28A k), (173, f70A k), (174, f42A k), (175, f43A k), (206, f71A k)]
theorem f29TS (k : Nat) : Sound P (f29T k) := (((((Sound.nil).consE f71B (f71Ao k)).consE f43B (f43Ao k)).consE f42B (f42Ao k)).consE f70B (f70Ao k)).consE f28B (f28Ao k)
theorem f29B : HasBody P 197 := ⟨Tryz.f197, Tryz.func197, by kernel_rfl, by kernel_rfl⟩
noncomputable def f29F (k : Nat) (x : D15) : Option (Int) :=
  Option.bind (f28F k (x.1.1, (x.1.2.1, x.1.2.2))) fun y1 =>
  Option.bind (f43F k ((x.1.1 == (4 : Int)), (17 : Int))) fun y2 =>
  Option.bind (f42F k [y1, y2]) fun y3 =>
  bif (y3 != (0 : Int)) then
    some y3
  else
  bif (x.1.1 == (0 : Int)) then
    Option.bind (f43F k ((x.2.1 != (0 : Int)), (5 : Int))) fun y4 =>
    Option.bind (f43F k (((x.2.2.size : Int) != x.1.2.1), (18 : Int))) fun y5 =>
    Option.bind (f42F k [y4, y5]) fun y6 =>
    some y6
  else
  Option.bind (f71F k x.1.2.1) fun y7 =>
  Option.bind (f43F k ((!strEq x.2.2 ByteArray.empty), (5 : Int))) fun y8 =>
  Option.bind (f70F k (x.2.1, (IntKind.i64.wrap (0 - (IntKind.i64.wrap (y7 - (1 : Int))))), (IntKind.i64.wrap (y7 - (1 : Int))))) fun y9 =>
  Option.bind (f43F k ((!y9), (19 : Int))) fun y10 =>
  Option.bind (f42F k [y8, y10]) fun y11 =>
  some y11
noncomputable def f29L (k : Nat) : Sums := []
theorem f29LS (k : Nat) : SumsOk P Tryz.f197.ntmps (f29L k) (codeOf Tryz.f197) 1 := SumsOk.nil
theorem f29E (k : Nat) (x : D15) : evFS tab (f29T k) (f29L k) Tryz.f197.ntmps Tryz.f197.results.toList (codeOf Tryz.f197) (argsV [.agg (.pair (.int .i64) Y0), .agg Y5] x) [.dat (.int .i64)] none = f29F k x := by kernel_rfl
theorem f29Ok (k : Nat) (x : D15) (y : Int) (h : f29F k x = some y) : FnOk P 197 [.agg (.pair (.int .i64) Y0), .agg Y5] [.dat (.int .i64)] x y :=
  evFS_sound tabOk (f29TS k) mixed Tryz.func197 (c := codeOf Tryz.f197) (by kernel_rfl) (f29LS k) ((f29E k x).trans h)
noncomputable def f29A (k : Nat) := entFnB [.agg (.pair (.int .i64) Y0), .agg Y5] [.dat (.int .i64)] (f29F k)
theorem f29Ao (k : Nat) : EntOk P 197 (f29A k) := entFnB_ok (f29Ok k)
/-! ## midrange/numeric.halves -/
noncomputable def f80T (k : Nat) : Table := []
theorem f80TS (k : Nat) : Sound P (f80T k) := Sound.nil
theorem f80B : HasBody P 207 := ⟨Tryz.f207, Tryz.func207, by kernel_rfl, by kernel_rfl⟩
noncomputable def f80p0H : Shape := ⟨[(1, .one (.str)), (2, .one (.ptr 0 0)), (4, .one (.own 1)), (5, .one (.own 2)), (10, .one (.int .i64)), (11, .one (.int .i64))], [(0, .var 154 [.int .i64, .int .i64, .int .i64]), (1, .row 5 (.int .u8) .plain), (2, .row 3 (.int .i64) .plain)], 3, []⟩
noncomputable def f80p0X0 : Shape := ⟨[(1, .one (.str)), (2, .one (.ptr 0 0)), (4, .one (.own 1)), (5, .one (.own 2)), (10, .one (.int .i64)), (11, .one (.int .i64))], [(0, .var 154 [.int .i64, .int .i64, .int .i64]), (1, .row 5 (.int .u8) .plain), (2, .row 3 (.int .i64) .plain)], 3, []⟩
noncomputable def f80p0N : NoteR := ⟨[1, 2, 4, 5, 10, 11], [], []⟩
noncomputable def f80p0M : NoteR := ⟨[1, 2, 4, 5, 10, 11], [], []⟩
noncomputable def f80p0C : Code := firstC (codesAt 422 (codeOf Tryz.f207) 1)
noncomputable def f80p0 {R : Type} (k : Nat) (k0 : D16 → Option R) (v : D16) : Option R :=
  bif ((decide ((0 : Int) ≤ v.2.2.1)) && (decide (v.2.2.1 < (v.1.size : Int)))) then
  bif ((decide ((0 : Int) ≤ v.2.2.1)) && (decide (v.2.2.1 < (v.1.size : Int)))) then
  bif (v.2.2.2.1 == (1 : Int)) then
    let t1 := [(shrI .u8 (bt v.1 v.2.2.1) (4 : Int)), (bits .and .u8 (bt v.1 v.2.2.1) (15 : Int))]
    bif (decide ((v.2.2.2.2.2.2.1.length + t1.length) * 1 ≤ 140737488355328) && decide (v.2.2.2.2.2.2.1.length + t1.length ≤ 9223372036854775807)) then
    bif (decide ((v.2.2.2.2.2.2.2.1.length + [v.2.2.1, v.2.2.1].length) * 8 ≤ 140737488355328) && decide (v.2.2.2.2.2.2.2.1.length + [v.2.2.1, v.2.2.1].length ≤ 9223372036854775807)) then
    k0 (v.1, v.2.1, v.2.2.1, v.2.2.2.1, v.2.2.2.2.1, v.2.2.2.2.2.1, (v.2.2.2.2.2.2.1 ++ t1), (v.2.2.2.2.2.2.2.1 ++ [v.2.2.1, v.2.2.1]), ())
    else none
    else none
  else
  bif (decide ((v.2.2.2.2.2.2.1.length + [(bits .and .u8 (bt v.1 v.2.2.1) (15 : Int))].length) * 1 ≤ 140737488355328) && decide (v.2.2.2.2.2.2.1.length + [(bits .and .u8 (bt v.1 v.2.2.1) (15 : Int))].length ≤ 9223372036854775807)) then
  bif (decide ((v.2.2.2.2.2.2.2.1.length + [v.2.2.1].length) * 8 ≤ 140737488355328) && decide (v.2.2.2.2.2.2.2.1.length + [v.2.2.1].length ≤ 9223372036854775807)) then
  k0 (v.1, v.2.1, v.2.2.1, v.2.2.2.1, v.2.2.2.2.1, v.2.2.2.2.2.1, (v.2.2.2.2.2.2.1 ++ [(bits .and .u8 (bt v.1 v.2.2.1) (15 : Int))]), (v.2.2.2.2.2.2.2.1 ++ [v.2.2.1]), ())
  else none
  else none
  else none
  else none
noncomputable def f80p0S (k : Nat) : Sum1 := partSum f80p0H f80p0N (fun R K v => f80p0 k (fun w => K .normal (encSt f80p0X0 w)) v)
theorem f80p0E (k : Nat) (R : Type) (K : X → St → Option R) (v : f80p0H.Den) : evS tab (f80T k) Tryz.f207.ntmps [] f80p0C 422 (partK f80p0M K) (encSt f80p0H v) = f80p0 k (fun w => K .normal (encSt f80p0X0 w)) v := by kernel_rfl
theorem f80p0I (k : Nat) : SumsOk P Tryz.f207.ntmps [] f80p0C 422 := SumsOk.nil
theorem f80p0O (k : Nat) : SumOk P Tryz.f207.ntmps f80p0C (f80p0S k) := sum_part tabOk (f80TS k) mixed (f80p0I k) (f80p0E k)
noncomputable def f80l1H : Shape := ⟨[(1, .one (.str)), (2, .one (.ptr 0 0)), (4, .one (.own 1)), (5, .one (.own 2)), (10, .one (.int .i64)), (11, .one (.int .i64))], [(0, .var 154 [.int .i64, .int .i64, .int .i64]), (1, .row 5 (.int .u8) .plain), (2, .row 3 (.int .i64) .plain)], 3, []⟩
noncomputable def f80l1X0 : Shape := ⟨[(1, .one (.str)), (2, .one (.ptr 0 0)), (4, .one (.own 1)), (5, .one (.own 2))], [(0, .var 154 [.int .i64, .int .i64, .int .i64]), (1, .row 5 (.int .u8) .plain), (2, .row 3 (.int .i64) .plain)], 3, []⟩
noncomputable def f80l1N : NoteR := ⟨[1, 2, 4, 5, 10, 11], [(4, 5, (.int .u8)), (5, 3, (.int .i64))], []⟩
noncomputable def f80l1M : NoteR := ⟨[1, 2, 4, 5], [], []⟩
noncomputable def f80l1C : Code := firstC (codesAt 26 (codeOf Tryz.f207) 1)
noncomputable def f80l1s {R : Type} (k : Nat) (rec : D16 → Option R) (k0 : D17 → Option R) (v : D16) : Option R :=
  bif (decide (v.2.2.1 < v.2.1)) then
    f80p0 k
      (fun (w2 : D16) =>
        rec (w2.1, w2.2.1, (IntKind.i64.wrap (w2.2.2.1 + (1 : Int))), w2.2.2.2.1, w2.2.2.2.2.1, w2.2.2.2.2.2.1, w2.2.2.2.2.2.2.1, w2.2.2.2.2.2.2.2.1, ()))
      (v.1, v.2.1, v.2.2.1, v.2.2.2.1, v.2.2.2.2.1, v.2.2.2.2.2.1, v.2.2.2.2.2.2.1, v.2.2.2.2.2.2.2.1, ())
  else
  k0 (v.1, v.2.2.2.1, v.2.2.2.2.1, v.2.2.2.2.2.1, v.2.2.2.2.2.2.1, v.2.2.2.2.2.2.2.1, ())
noncomputable def f80l1 {R : Type} (k : Nat) (k0 : D17 → Option R) (v : D16) : Option R := iterS (fun rec v => f80l1s k rec k0 v) k v
noncomputable def f80l1S (k : Nat) : Sum1 := loopSum f80l1H f80l1N k (fun R rec K v => f80l1s k rec (fun w => K (.exit 0) (encSt f80l1X0 w)) v)
theorem f80l1E (k : Nat) (R : Type) (rec : St → Option R) (K : X → St → Option R) (v : f80l1H.Den) : evS tab (f80T k) Tryz.f207.ntmps [(422, f80p0S k)] (bodyOf f80l1C) 52 (bodyK f80l1N f80l1M rec K) (encSt f80l1H v) = f80l1s k (fun v => rec (encSt f80l1H v)) (fun w => K (.exit 0) (encSt f80l1X0 w)) v := by kernel_rfl
theorem f80l1I (k : Nat) : SumsOk P Tryz.f207.ntmps [(422, f80p0S k)] (bodyOf f80l1C) 52 := (SumsOk.nil).cons (c := f80p0C) (by kernel_rfl) (f80p0O k)
theorem f80l1O (k : Nat) : SumOk P Tryz.f207.ntmps f80l1C (f80l1S k) := (show f80l1C = .loop (bodyOf f80l1C) by kernel_rfl) ▸ sum_loop tabOk (f80TS k) mixed (f80l1I k) (f80l1E k)
noncomputable def f80p2H : Shape := ⟨[(1, .one (.str)), (2, .one (.ptr 0 0)), (4, .one (.own 1)), (5, .one (.own 2))], [(0, .var 154 [.int .i64, .int .i64, .int .i64]), (1, .row 5 (.int .u8) .plain), (2, .row 3 (.int .i64) .plain)], 3, []⟩
noncomputable def f80p2X0 : Shape := ⟨[(1, .one (.str)), (2, .one (.ptr 0 0)), (4, .one (.own 1)), (5, .one (.own 2))], [(0, .var 154 [.int .i64, .int .i64, .int .i64]), (1, .row 5 (.int .u8) .plain), (2, .row 3 (.int .i64) .plain)], 3, []⟩
noncomputable def f80p2N : NoteR := ⟨[1, 2, 4, 5], [], []⟩
noncomputable def f80p2M : NoteR := ⟨[1, 2, 4, 5], [], []⟩
noncomputable def f80p2C : Code := firstC (codesAt 14 (codeOf Tryz.f207) 1)
noncomputable def f80p2 {R : Type} (k : Nat) (k0 : D17 → Option R) (v : D17) : Option R :=
  bif (v.2.1 == (2 : Int)) then
    bif ((decide ((0 : Int) ≤ (IntKind.i64.wrap ((v.1.size : Int) - (1 : Int))))) && (decide ((IntKind.i64.wrap ((v.1.size : Int) - (1 : Int))) < (v.1.size : Int)))) then
    let t4 := (shrI .u8 (bt v.1 (IntKind.i64.wrap ((v.1.size : Int) - (1 : Int)))) (4 : Int))
    bif (decide ((v.2.2.2.2.1.length + [t4].length) * 1 ≤ 140737488355328) && decide (v.2.2.2.2.1.length + [t4].length ≤ 9223372036854775807)) then
    bif (decide ((v.2.2.2.2.2.1.length + [(IntKind.i64.wrap ((v.1.size : Int) - (1 : Int)))].length) * 8 ≤ 140737488355328) && decide (v.2.2.2.2.2.1.length + [(IntKind.i64.wrap ((v.1.size : Int) - (1 : Int)))].length ≤ 9223372036854775807)) then
    k0 (v.1, v.2.1, v.2.2.1, v.2.2.2.1, (v.2.2.2.2.1 ++ [t4]), (v.2.2.2.2.2.1 ++ [(IntKind.i64.wrap ((v.1.size : Int) - (1 : Int)))]), ())
    else none
    else none
    else none
  else
  k0 (v.1, v.2.1, v.2.2.1, v.2.2.2.1, v.2.2.2.2.1, v.2.2.2.2.2.1, ())
noncomputable def f80p2S (k : Nat) : Sum1 := partSum f80p2H f80p2N (fun R K v => f80p2 k (fun w => K .normal (encSt f80p2X0 w)) v)
theorem f80p2E (k : Nat) (R : Type) (K : X → St → Option R) (v : f80p2H.Den) : evS tab (f80T k) Tryz.f207.ntmps [] f80p2C 14 (partK f80p2M K) (encSt f80p2H v) = f80p2 k (fun w => K .normal (encSt f80p2X0 w)) v := by kernel_rfl
theorem f80p2I (k : Nat) : SumsOk P Tryz.f207.ntmps [] f80p2C 14 := SumsOk.nil
theorem f80p2O (k : Nat) : SumOk P Tryz.f207.ntmps f80p2C (f80p2S k) := sum_part tabOk (f80TS k) mixed (f80p2I k) (f80p2E k)
noncomputable def f80F (k : Nat) (x : D18) : Option (List Int × List Int) :=
  f80l1 k
    (fun (w3 : D17) =>
      f80p2 k
        (fun (w5 : D17) =>
          some (w5.2.2.2.2.1, w5.2.2.2.2.2.1))
        (w3.1, w3.2.1, w3.2.2.1, w3.2.2.2.1, w3.2.2.2.2.1, w3.2.2.2.2.2.1, ()))
    (x.2, (x.2.size : Int), (0 : Int), x.1.1, x.1.2.1, x.1.2.2, [], [], ())
noncomputable def f80L (k : Nat) : Sums := [(422, f80p0S k), (26, f80l1S k), (14, f80p2S k)]
theorem f80LS (k : Nat) : SumsOk P Tryz.f207.ntmps (f80L k) (codeOf Tryz.f207) 1 := (((SumsOk.nil).cons (c := f80p2C) (by kernel_rfl) (f80p2O k)).cons (c := f80l1C) (by kernel_rfl) (f80l1O k)).cons (c := f80p0C) (by kernel_rfl) (f80p0O k)
theorem f80E (k : Nat) (x : D18) : evFS tab (f80T k) (f80L k) Tryz.f207.ntmps Tryz.f207.results.toList (codeOf Tryz.f207) (argsV [.agg (.pair (.int .i64) Y0), .dat .str] x) [.own 5 (.int .u8), .own 3 (.int .i64)] none = f80F k x := by kernel_rfl
theorem f80Ok (k : Nat) (x : D18) (y : List Int × List Int) (h : f80F k x = some y) : FnOk P 207 [.agg (.pair (.int .i64) Y0), .dat .str] [.own 5 (.int .u8), .own 3 (.int .i64)] x y :=
  evFS_sound tabOk (f80TS k) mixed Tryz.func207 (c := codeOf Tryz.f207) (by kernel_rfl) (f80LS k) ((f80E k x).trans h)
noncomputable def f80A (k : Nat) := entFnB [.agg (.pair (.int .i64) Y0), .dat .str] [.own 5 (.int .u8), .own 3 (.int .i64)] (f80F k)
theorem f80Ao (k : Nat) : EntOk P 207 (f80A k) := entFnB_ok (f80Ok k)
/-! ## midrange/numeric.decimal -/
noncomputable def f46T (k : Nat) : Table := [(207, f80A k)]
theorem f46TS (k : Nat) : Sound P (f46T k) := (Sound.nil).consE f80B (f80Ao k)
theorem f46B : HasBody P 198 := ⟨Tryz.f198, Tryz.func198, by kernel_rfl, by kernel_rfl⟩
noncomputable def f46p0H : Shape := ⟨[(2, .one (.ptr 0 0)), (7, .one (.own 1)), (8, .one (.own 2)), (9, .one (.int .i64)), (10, .one (.int .i64)), (11, .one (.int .i64)), (12, .one (.int .u8)), (24, .one (.ro (.int .u8))), (25, .one (.int .i64)), (26, .one (.int .i64))], [(0, .var 154 [.int .i64, .int .i64, .int .i64]), (1, .row 5 (.int .u8) .frz), (2, .row 3 (.int .i64) .plain)], 3, []⟩
noncomputable def f46p0X0 : Shape := ⟨[(2, .one (.ptr 0 0)), (4, .one (.int .i64)), (5, .one (.int .i64)), (6, .one (.int .i64)), (7, .one (.own 1)), (8, .one (.own 2)), (9, .one (.int .i64)), (10, .one (.int .i64)), (12, .one (.int .u8)), (24, .one (.ro (.int .u8))), (25, .one (.int .i64)), (26, .one (.int .i64))], [(0, .var 154 [.int .i64, .int .i64, .int .i64]), (1, .row 5 (.int .u8) .frz), (2, .row 3 (.int .i64) .plain)], 3, []⟩
noncomputable def f46p0X1 : Shape := ⟨[(2, .one (.ptr 0 0)), (7, .one (.own 1)), (8, .one (.own 2)), (9, .one (.int .i64)), (10, .one (.int .i64)), (12, .one (.int .u8)), (24, .one (.ro (.int .u8))), (25, .one (.int .i64)), (26, .one (.int .i64))], [(0, .var 154 [.int .i64, .int .i64, .int .i64]), (1, .row 5 (.int .u8) .frz), (2, .row 3 (.int .i64) .plain)], 3, []⟩
noncomputable def f46p0N : NoteR := ⟨[2, 7, 8, 9, 10, 11, 12, 24, 25, 26], [], []⟩
noncomputable def f46p0M : NoteR := ⟨[2, 4, 5, 6, 7, 8, 9, 10, 12, 24, 25, 26], [], []⟩
noncomputable def f46p0C : Code := firstC (codesAt 32050 (codeOf Tryz.f198) 1)
noncomputable def f46p0 {R : Type} (k : Nat) (k0 : D19 → Option R) (k1 : D20 → Option R) (v : D23) : Option R :=
  bif (decide (v.2.2.2.1 > (9 : Int))) then
    bif ((decide ((0 : Int) ≤ v.2.2.1)) && (decide (v.2.2.1 < (v.2.2.2.2.2.2.2.2.2.2.2.1.length : Int)))) then
    k0 ((0 : Int), (v.2.2.2.2.2.2.2.2.2.2.2.1.getD (Int.toNat v.2.2.1) (0 : Int)), (21 : Int), v.1, v.2.1, v.2.2.2.1, v.2.2.2.2.1, v.2.2.2.2.2.1, v.2.2.2.2.2.2.1, v.2.2.2.2.2.2.2.1, v.2.2.2.2.2.2.2.2.1, v.2.2.2.2.2.2.2.2.2.1, v.2.2.2.2.2.2.2.2.2.2.1, v.2.2.2.2.2.2.2.2.2.2.2.1, ())
    else none
  else
  bif (decide (v.2.2.2.1 > (0 : Int))) then
    bif (decide (v.2.2.1 < (IntKind.i64.wrap (v.1 - v.2.2.2.2.2.2.2.2.1)))) then
      bif ((decide ((0 : Int) ≤ v.2.2.1)) && (decide (v.2.2.1 < (v.2.2.2.2.2.2.2.2.2.2.2.1.length : Int)))) then
      k0 ((0 : Int), (v.2.2.2.2.2.2.2.2.2.2.2.1.getD (Int.toNat v.2.2.1) (0 : Int)), (21 : Int), v.1, v.2.1, v.2.2.2.1, v.2.2.2.2.1, v.2.2.2.2.2.1, v.2.2.2.2.2.2.1, v.2.2.2.2.2.2.2.1, v.2.2.2.2.2.2.2.2.1, v.2.2.2.2.2.2.2.2.2.1, v.2.2.2.2.2.2.2.2.2.2.1, v.2.2.2.2.2.2.2.2.2.2.2.1, ())
      else none
    else
    k1 (v.1, v.2.1, v.2.2.2.1, v.2.2.2.2.1, v.2.2.2.2.2.1, v.2.2.2.2.2.2.1, v.2.2.2.2.2.2.2.1, v.2.2.2.2.2.2.2.2.1, v.2.2.2.2.2.2.2.2.2.1, v.2.2.2.2.2.2.2.2.2.2.1, v.2.2.2.2.2.2.2.2.2.2.2.1, ())
  else
  k1 (v.1, v.2.1, v.2.2.2.1, v.2.2.2.2.1, v.2.2.2.2.2.1, v.2.2.2.2.2.2.1, v.2.2.2.2.2.2.2.1, v.2.2.2.2.2.2.2.2.1, v.2.2.2.2.2.2.2.2.2.1, v.2.2.2.2.2.2.2.2.2.2.1, v.2.2.2.2.2.2.2.2.2.2.2.1, ())
noncomputable def f46p0S (k : Nat) : Sum1 := partSum f46p0H f46p0N (fun R K v => f46p0 k (fun w => K .ret (encSt f46p0X0 w)) (fun w => K .normal (encSt f46p0X1 w)) v)
theorem f46p0E (k : Nat) (R : Type) (K : X → St → Option R) (v : f46p0H.Den) : evS tab (f46T k) Tryz.f198.ntmps [] f46p0C 32050 (partK f46p0M K) (encSt f46p0H v) = f46p0 k (fun w => K .ret (encSt f46p0X0 w)) (fun w => K .normal (encSt f46p0X1 w)) v := by kernel_rfl
theorem f46p0I (k : Nat) : SumsOk P Tryz.f198.ntmps [] f46p0C 32050 := SumsOk.nil
theorem f46p0O (k : Nat) : SumOk P Tryz.f198.ntmps f46p0C (f46p0S k) := sum_part tabOk (f46TS k) mixed (f46p0I k) (f46p0E k)
noncomputable def f46l1H : Shape := ⟨[(2, .one (.ptr 0 0)), (7, .one (.own 1)), (8, .one (.own 2)), (9, .one (.int .i64)), (10, .one (.int .i64)), (24, .one (.ro (.int .u8))), (25, .one (.int .i64)), (26, .one (.int .i64))], [(0, .var 154 [.int .i64, .int .i64, .int .i64]), (1, .row 5 (.int .u8) .frz), (2, .row 3 (.int .i64) .plain)], 3, []⟩
noncomputable def f46l1X0 : Shape := ⟨[(4, .one (.int .i64)), (5, .one (.int .i64)), (6, .one (.int .i64)), (7, .one (.own 0)), (8, .one (.own 1)), (9, .one (.int .i64)), (10, .one (.int .i64))], [(0, .row 5 (.int .u8) .frz), (1, .row 3 (.int .i64) .plain)], 2, []⟩
noncomputable def f46l1X1 : Shape := ⟨[(7, .one (.own 0)), (8, .one (.own 1)), (9, .one (.int .i64)), (10, .one (.int .i64))], [(0, .row 5 (.int .u8) .frz), (1, .row 3 (.int .i64) .plain)], 2, []⟩
noncomputable def f46l1N : NoteR := ⟨[2, 7, 8, 9, 10, 24, 25, 26], [], []⟩
noncomputable def f46l1M : NoteR := ⟨[4, 5, 6, 7, 8, 9, 10], [], []⟩
noncomputable def f46l1C : Code := firstC (codesAt 250 (codeOf Tryz.f198) 1)
noncomputable def f46l1s {R : Type} (k : Nat) (rec : D24 → Option R) (k0 : D21 → Option R) (k1 : D22 → Option R) (v : D24) : Option R :=
  bif (decide (v.2.2.2.2.1 < v.2.2.2.1)) then
    bif ((decide ((0 : Int) ≤ v.2.2.2.2.1)) && (decide (v.2.2.2.2.1 < (v.2.2.1.length : Int)))) then
    f46p0 k
      (fun (w3 : D19) =>
        k0 (w3.1, w3.2.1, w3.2.2.1, w3.2.2.2.1, w3.2.2.2.2.1, w3.2.2.2.2.2.2.2.2.2.2.2.2.1, w3.2.2.2.2.2.2.2.2.2.2.2.2.2.1, ()))
      (fun (w4 : D20) =>
        let t5 := (IntKind.i64.wrap ((IntKind.i64.wrap (w4.2.1 * (10 : Int))) + (IntKind.i64.wrap w4.2.2.1)))
        rec (w4.1, t5, w4.2.2.2.1, w4.2.2.2.2.1, (IntKind.i64.wrap (w4.2.2.2.2.2.1 + (1 : Int))), w4.2.2.2.2.2.2.1, w4.2.2.2.2.2.2.2.1, w4.2.2.2.2.2.2.2.2.1, w4.2.2.2.2.2.2.2.2.2.1, w4.2.2.2.2.2.2.2.2.2.2.1, ()))
      (v.1, v.2.1, v.2.2.2.2.1, (v.2.2.1.getD (Int.toNat v.2.2.2.2.1) (0 : Int)), v.2.2.1, v.2.2.2.1, v.2.2.2.2.1, v.2.2.2.2.2.1, v.2.2.2.2.2.2.1, v.2.2.2.2.2.2.2.1, v.2.2.2.2.2.2.2.2.1, v.2.2.2.2.2.2.2.2.2.1, ())
    else none
  else
  k1 (v.1, v.2.1, v.2.2.2.2.2.2.2.2.1, v.2.2.2.2.2.2.2.2.2.1, ())
noncomputable def f46l1 {R : Type} (k : Nat) (k0 : D21 → Option R) (k1 : D22 → Option R) (v : D24) : Option R := iterS (fun rec v => f46l1s k rec k0 k1 v) k v
noncomputable def f46l1S (k : Nat) : Sum1 := loopSum f46l1H f46l1N k (fun R rec K v => f46l1s k rec (fun w => K .ret (encSt f46l1X0 w)) (fun w => K (.exit 0) (encSt f46l1X1 w)) v)
theorem f46l1E (k : Nat) (R : Type) (rec : St → Option R) (K : X → St → Option R) (v : f46l1H.Den) : evS tab (f46T k) Tryz.f198.ntmps [(32050, f46p0S k)] (bodyOf f46l1C) 500 (bodyK f46l1N f46l1M rec K) (encSt f46l1H v) = f46l1s k (fun v => rec (encSt f46l1H v)) (fun w => K .ret (encSt f46l1X0 w)) (fun w => K (.exit 0) (encSt f46l1X1 w)) v := by kernel_rfl
theorem f46l1I (k : Nat) : SumsOk P Tryz.f198.ntmps [(32050, f46p0S k)] (bodyOf f46l1C) 500 := (SumsOk.nil).cons (c := f46p0C) (by kernel_rfl) (f46p0O k)
theorem f46l1O (k : Nat) : SumOk P Tryz.f198.ntmps f46l1C (f46l1S k) := (show f46l1C = .loop (bodyOf f46l1C) by kernel_rfl) ▸ sum_loop tabOk (f46TS k) mixed (f46l1I k) (f46l1E k)
noncomputable def f46p2H : Shape := ⟨[(7, .one (.own 0)), (8, .one (.own 1)), (9, .one (.int .i64)), (10, .one (.int .i64))], [(0, .row 5 (.int .u8) .frz), (1, .row 3 (.int .i64) .plain)], 2, []⟩
noncomputable def f46p2X0 : Shape := ⟨[(4, .one (.int .i64)), (5, .one (.int .i64)), (6, .one (.int .i64)), (7, .one (.own 0)), (8, .one (.own 1)), (9, .one (.int .i64)), (10, .one (.int .i64))], [(0, .row 5 (.int .u8) .frz), (1, .row 3 (.int .i64) .plain)], 2, []⟩
noncomputable def f46p2X1 : Shape := ⟨[(7, .one (.own 0)), (8, .one (.own 1)), (9, .one (.int .i64)), (10, .one (.int .i64))], [(0, .row 5 (.int .u8) .frz), (1, .row 3 (.int .i64) .plain)], 2, []⟩
noncomputable def f46p2N : NoteR := ⟨[7, 8, 9, 10], [], []⟩
noncomputable def f46p2M : NoteR := ⟨[4, 5, 6, 7, 8, 9, 10], [], []⟩
noncomputable def f46p2C : Code := firstC (codesAt 126 (codeOf Tryz.f198) 1)
noncomputable def f46p2 {R : Type} (k : Nat) (k0 : D21 → Option R) (k1 : D22 → Option R) (v : D22) : Option R :=
  bif ((decide ((0 : Int) ≤ v.1)) && (decide (v.1 < (v.2.2.1.length : Int)))) then
  bif (decide ((v.2.2.1.getD (Int.toNat v.1) (0 : Int)) < (10 : Int))) then
    bif ((decide ((0 : Int) ≤ v.1)) && (decide (v.1 < (v.2.2.2.1.length : Int)))) then
    k0 ((0 : Int), (v.2.2.2.1.getD (Int.toNat v.1) (0 : Int)), (21 : Int), v.1, v.2.1, v.2.2.1, v.2.2.2.1, ())
    else none
  else
  bif ((decide ((0 : Int) ≤ v.1)) && (decide (v.1 < (v.2.2.1.length : Int)))) then
  bif ((v.2.2.1.getD (Int.toNat v.1) (0 : Int)) == (11 : Int)) then
    k1 (v.1, (IntKind.i64.wrap (0 - v.2.1)), v.2.2.1, v.2.2.2.1, ())
  else
  bif ((decide ((0 : Int) ≤ v.1)) && (decide (v.1 < (v.2.2.1.length : Int)))) then
  bif ((v.2.2.1.getD (Int.toNat v.1) (0 : Int)) == (13 : Int)) then
    k1 (v.1, (IntKind.i64.wrap (0 - v.2.1)), v.2.2.1, v.2.2.2.1, ())
  else
  k1 (v.1, v.2.1, v.2.2.1, v.2.2.2.1, ())
  else none
  else none
  else none
noncomputable def f46p2S (k : Nat) : Sum1 := partSum f46p2H f46p2N (fun R K v => f46p2 k (fun w => K .ret (encSt f46p2X0 w)) (fun w => K .normal (encSt f46p2X1 w)) v)
theorem f46p2E (k : Nat) (R : Type) (K : X → St → Option R) (v : f46p2H.Den) : evS tab (f46T k) Tryz.f198.ntmps [] f46p2C 126 (partK f46p2M K) (encSt f46p2H v) = f46p2 k (fun w => K .ret (encSt f46p2X0 w)) (fun w => K .normal (encSt f46p2X1 w)) v := by kernel_rfl
theorem f46p2I (k : Nat) : SumsOk P Tryz.f198.ntmps [] f46p2C 126 := SumsOk.nil
theorem f46p2O (k : Nat) : SumOk P Tryz.f198.ntmps f46p2C (f46p2S k) := sum_part tabOk (f46TS k) mixed (f46p2I k) (f46p2E k)
noncomputable def f46F (k : Nat) (x : D18) : Option (Int × Int × Int) :=
  Option.bind (f80F k ((x.1.1, (x.1.2.1, x.1.2.2)), x.2)) fun y1 =>
  bif (sliceBds (0 : Int) (IntKind.i64.wrap ((y1.1.length : Int) - (1 : Int))) (y1.1.length : Int)) then
  let t2 := ((y1.1.take (Int.toNat (IntKind.i64.wrap ((y1.1.length : Int) - (1 : Int))))).drop 0)
  f46l1 k
    (fun (w6 : D21) =>
      some (w6.1, w6.2.1, w6.2.2.1))
    (fun (w7 : D22) =>
      f46p2 k
        (fun (w8 : D21) =>
          some (w8.1, w8.2.1, w8.2.2.1))
        (fun (w9 : D22) =>
          some (w9.2.1, (0 : Int), (0 : Int)))
        (w7.1, w7.2.1, w7.2.2.1, w7.2.2.2.1, ()))
    ((IntKind.i64.wrap ((y1.1.length : Int) - (1 : Int))), (0 : Int), t2, (t2.length : Int), (0 : Int), x.1.1, x.1.2.1, x.1.2.2, y1.1, y1.2, ())
  else none
noncomputable def f46L (k : Nat) : Sums := [(32050, f46p0S k), (250, f46l1S k), (126, f46p2S k)]
theorem f46LS (k : Nat) : SumsOk P Tryz.f198.ntmps (f46L k) (codeOf Tryz.f198) 1 := (((SumsOk.nil).cons (c := f46p2C) (by kernel_rfl) (f46p2O k)).cons (c := f46l1C) (by kernel_rfl) (f46l1O k)).cons (c := f46p0C) (by kernel_rfl) (f46p0O k)
theorem f46E (k : Nat) (x : D18) : evFS tab (f46T k) (f46L k) Tryz.f198.ntmps Tryz.f198.results.toList (codeOf Tryz.f198) (argsV [.agg (.pair (.int .i64) Y0), .dat .str] x) [.dat (.int .i64), .dat (.int .i64), .dat (.int .i64)] none = f46F k x := by kernel_rfl
theorem f46Ok (k : Nat) (x : D18) (y : Int × Int × Int) (h : f46F k x = some y) : FnOk P 198 [.agg (.pair (.int .i64) Y0), .dat .str] [.dat (.int .i64), .dat (.int .i64), .dat (.int .i64)] x y :=
  evFS_sound tabOk (f46TS k) mixed Tryz.func198 (c := codeOf Tryz.f198) (by kernel_rfl) (f46LS k) ((f46E k x).trans h)
noncomputable def f46A (k : Nat) := entFnB [.agg (.pair (.int .i64) Y0), .dat .str] [.dat (.int .i64), .dat (.int .i64), .dat (.int .i64)] (f46F k)
theorem f46Ao (k : Nat) : EntOk P 198 (f46A k) := entFnB_ok (f46Ok k)
/-! ## midrange/numeric.Decode -/
noncomputable def f16T (k : Nat) : Table := [(157, f28A k), (174, f42A k), (175, f43A k), (176, f44A k), (196, f45A k), (197, f29A k), (198, f46A k)]
theorem f16TS (k : Nat) : Sound P (f16T k) := (((((((Sound.nil).consE f46B (f46Ao k)).consE f29B (f29Ao k)).consE f45B (f45Ao k)).consE f44B (f44Ao k)).consE f43B (f43Ao k)).consE f42B (f42Ao k)).consE f28B (f28Ao k)
theorem f16B : HasBody P 185 := ⟨Tryz.f185, Tryz.func185, by kernel_rfl, by kernel_rfl⟩
noncomputable def f16p0H : Shape := ⟨[(1, .one (.str)), (2, .one (.ptr 0 0)), (4, .one (.ptr 1 0)), (7, .one (.int .i64))], [(0, .var 154 [.int .i64, .int .i64, .int .i64]), (1, .var 231 [.int .i64, .str])], 2, []⟩
noncomputable def f16p0X0 : Shape := ⟨[(1, .one (.str)), (2, .one (.ptr 0 0)), (4, .one (.ptr 1 0)), (7, .one (.int .i64))], [(0, .var 154 [.int .i64, .int .i64, .int .i64]), (1, .var 231 [.int .i64, .str])], 2, []⟩
noncomputable def f16p0N : NoteR := ⟨[1, 2, 4, 7], [], []⟩
noncomputable def f16p0M : NoteR := ⟨[1, 2, 4, 5, 6, 7], [], []⟩
noncomputable def f16p0C : Code := firstC (codesAt 14 (codeOf Tryz.f185) 1)
noncomputable def f16p0 {R : Type} (k : Nat) (k0 : D25 → Option R) (v : D25) : Option R :=
  bif (v.2.1 == (0 : Int)) then
    Option.bind (f44F k (v.2.2.1, (v.2.2.2.1, v.2.2.2.2.1))) fun y4 =>
    Option.bind (f43F k (((v.1.size : Int) != y4), (18 : Int))) fun y5 =>
    k0 (v.1, y5, v.2.2.1, v.2.2.2.1, v.2.2.2.2.1, v.2.2.2.2.2.1, v.2.2.2.2.2.2.1, ())
  else
  k0 (v.1, v.2.1, v.2.2.1, v.2.2.2.1, v.2.2.2.2.1, v.2.2.2.2.2.1, v.2.2.2.2.2.2.1, ())
noncomputable def f16p0S (k : Nat) : Sum1 := partSum f16p0H f16p0N (fun R K v => f16p0 k (fun w => K .normal (encSt f16p0X0 w)) v)
theorem f16p0E (k : Nat) (R : Type) (K : X → St → Option R) (v : f16p0H.Den) : evS tab (f16T k) Tryz.f185.ntmps [] f16p0C 14 (partK f16p0M K) (encSt f16p0H v) = f16p0 k (fun w => K .normal (encSt f16p0X0 w)) v := by kernel_rfl
theorem f16p0I (k : Nat) : SumsOk P Tryz.f185.ntmps [] f16p0C 14 := SumsOk.nil
theorem f16p0O (k : Nat) : SumOk P Tryz.f185.ntmps f16p0C (f16p0S k) := sum_part tabOk (f16TS k) mixed (f16p0I k) (f16p0E k)
noncomputable def f16F (k : Nat) (x : D18) : Option (D26) :=
  Option.bind (f28F k (x.1.1, (x.1.2.1, x.1.2.2))) fun y1 =>
  Option.bind (f43F k ((x.1.1 == (4 : Int)), (17 : Int))) fun y2 =>
  Option.bind (f42F k [y1, y2]) fun y3 =>
  f16p0 k
    (fun (w6 : D25) =>
      bif (w6.2.1 != (0 : Int)) then
        some (((0 : Int), ByteArray.empty), (0 : Int), w6.2.1)
      else
      bif (w6.2.2.1 == (0 : Int)) then
        some (((0 : Int), w6.1), (0 : Int), (0 : Int))
      else
      bif (w6.2.2.1 == (3 : Int)) then
        Option.bind (f45F k w6.1) fun y7 =>
        Option.bind (f29F k ((w6.2.2.1, (w6.2.2.2.1, w6.2.2.2.2.1)), (y7, ByteArray.empty))) fun y8 =>
        bif (y8 != (0 : Int)) then
          some (((0 : Int), ByteArray.empty), (0 : Int), y8)
        else
        some ((y7, ByteArray.empty), (0 : Int), (0 : Int))
      else
      Option.bind (f46F k ((w6.2.2.1, (w6.2.2.2.1, w6.2.2.2.2.1)), w6.1)) fun y9 =>
      some ((y9.1, ByteArray.empty), y9.2.1, y9.2.2))
    (x.2, y3, x.1.1, x.1.2.1, x.1.2.2, (0 : Int), ByteArray.empty, ())
noncomputable def f16L (k : Nat) : Sums := [(14, f16p0S k)]
theorem f16LS (k : Nat) : SumsOk P Tryz.f185.ntmps (f16L k) (codeOf Tryz.f185) 1 := (SumsOk.nil).cons (c := f16p0C) (by kernel_rfl) (f16p0O k)
theorem f16E (k : Nat) (x : D18) : evFS tab (f16T k) (f16L k) Tryz.f185.ntmps Tryz.f185.results.toList (codeOf Tryz.f185) (argsV [.agg (.pair (.int .i64) Y0), .dat .str] x) [.agg Y5, .dat (.int .i64), .dat (.int .i64)] none = f16F k x := by kernel_rfl
theorem f16Ok (k : Nat) (x : D18) (y : D26) (h : f16F k x = some y) : FnOk P 185 [.agg (.pair (.int .i64) Y0), .dat .str] [.agg Y5, .dat (.int .i64), .dat (.int .i64)] x y :=
  evFS_sound tabOk (f16TS k) mixed Tryz.func185 (c := codeOf Tryz.f185) (by kernel_rfl) (f16LS k) ((f16E k x).trans h)
noncomputable def f16A (k : Nat) := entFnB [.agg (.pair (.int .i64) Y0), .dat .str] [.agg Y5, .dat (.int .i64), .dat (.int .i64)] (f16F k)
theorem f16Ao (k : Nat) : EntOk P 185 (f16A k) := entFnB_ok (f16Ok k)
/-! ## midrange/records.decoded -/
noncomputable def f669T (k : Nat) : Table := [(140, f640A k), (185, f16A k)]
theorem f669TS (k : Nat) : Sound P (f669T k) := ((Sound.nil).consE f16B (f16Ao k)).consE f640B (f640Ao k)
theorem f669B : HasBody P 169 := ⟨Tryz.f169, Tryz.func169, by kernel_rfl, by kernel_rfl⟩
noncomputable def f669l0H : Shape := ⟨[(1, .one (.str)), (7, .one (.own 0)), (15, .one (.ro Y1)), (16, .one (.int .i64)), (17, .one (.int .i64))], [(0, .row 231 Y5 .plain)], 1, []⟩
noncomputable def f669l0X0 : Shape := ⟨[(4, .one (.emp)), (5, .one (.int .i64)), (6, .one (.int .i64)), (7, .one (.own 0))], [(0, .row 231 Y5 .plain)], 1, []⟩
noncomputable def f669l0X1 : Shape := ⟨[(7, .one (.own 0))], [(0, .row 231 Y5 .plain)], 1, []⟩
noncomputable def f669l0N : NoteR := ⟨[1, 7, 15, 16, 17], [(7, 231, Y5)], []⟩
noncomputable def f669l0M : NoteR := ⟨[4, 5, 6, 7], [], []⟩
noncomputable def f669l0C : Code := firstC (codesAt 58 (codeOf Tryz.f169) 1)
noncomputable def f669l0s {R : Type} (k : Nat) (rec : D29 → Option R) (k0 : D27 → Option R) (k1 : D28 → Option R) (v : D29) : Option R :=
  bif (decide (v.2.2.2.1 < v.2.2.1)) then
    bif ((decide ((0 : Int) ≤ v.2.2.2.1)) && (decide (v.2.2.2.1 < (v.2.1.length : Int)))) then
    let t1 := (v.2.1.getD (Int.toNat v.2.2.2.1) (ByteArray.empty, ((0 : Int), ((0 : Int), (0 : Int)))))
    Option.bind (f640F k (t1.1, (t1.2.1, (t1.2.2.1, t1.2.2.2)))) fun y2 =>
    bif (sliceBds (0 : Int) y2 (v.1.size : Int)) then
    Option.bind (f16F k ((t1.2.1, (t1.2.2.1, t1.2.2.2)), (v.1.extract 0 (Int.toNat y2)))) fun y3 =>
    bif (y3.2.2 != (0 : Int)) then
      k0 (v.2.2.2.1, y3.2.2, v.2.2.2.2.1, ())
    else
    bif (decide ((v.2.2.2.2.1.length + [(y3.1.1, y3.1.2)].length) * 24 ≤ 140737488355328) && decide (v.2.2.2.2.1.length + [(y3.1.1, y3.1.2)].length ≤ 9223372036854775807)) then
    bif (sliceBds y2 (v.1.size : Int) (v.1.size : Int)) then
    rec ((v.1.extract (Int.toNat y2) (Int.toNat (v.1.size : Int))), v.2.1, v.2.2.1, (IntKind.i64.wrap (v.2.2.2.1 + (1 : Int))), (v.2.2.2.2.1 ++ [(y3.1.1, y3.1.2)]), ())
    else none
    else none
    else none
    else none
  else
  k1 (v.2.2.2.2.1, ())
noncomputable def f669l0 {R : Type} (k : Nat) (k0 : D27 → Option R) (k1 : D28 → Option R) (v : D29) : Option R := iterS (fun rec v => f669l0s k rec k0 k1 v) k v
noncomputable def f669l0S (k : Nat) : Sum1 := loopSum f669l0H f669l0N k (fun R rec K v => f669l0s k rec (fun w => K .ret (encSt f669l0X0 w)) (fun w => K (.exit 0) (encSt f669l0X1 w)) v)
theorem f669l0E (k : Nat) (R : Type) (rec : St → Option R) (K : X → St → Option R) (v : f669l0H.Den) : evS tab (f669T k) Tryz.f169.ntmps [] (bodyOf f669l0C) 116 (bodyK f669l0N f669l0M rec K) (encSt f669l0H v) = f669l0s k (fun v => rec (encSt f669l0H v)) (fun w => K .ret (encSt f669l0X0 w)) (fun w => K (.exit 0) (encSt f669l0X1 w)) v := by kernel_rfl
theorem f669l0I (k : Nat) : SumsOk P Tryz.f169.ntmps [] (bodyOf f669l0C) 116 := SumsOk.nil
theorem f669l0O (k : Nat) : SumOk P Tryz.f169.ntmps f669l0C (f669l0S k) := (show f669l0C = .loop (bodyOf f669l0C) by kernel_rfl) ▸ sum_loop tabOk (f669TS k) mixed (f669l0I k) (f669l0E k)
noncomputable def f669F (k : Nat) (x : D8) : Option (D30) :=
  f669l0 k
    (fun (w4 : D27) =>
      some ([], w4.1, w4.2.1))
    (fun (w5 : D28) =>
      some (w5.1, (0 : Int), (0 : Int)))
    (x.2, x.1.2, (x.1.2.length : Int), (0 : Int), [], ())
noncomputable def f669L (k : Nat) : Sums := [(58, f669l0S k)]
theorem f669LS (k : Nat) : SumsOk P Tryz.f169.ntmps (f669L k) (codeOf Tryz.f169) 1 := (SumsOk.nil).cons (c := f669l0C) (by kernel_rfl) (f669l0O k)
theorem f669E (k : Nat) (x : D8) : evFS tab (f669T k) (f669L k) Tryz.f169.ntmps Tryz.f169.results.toList (codeOf Tryz.f169) (argsV [.agg Y2, .dat .str] x) [.own 231 Y5, .dat (.int .i64), .dat (.int .i64)] none = f669F k x := by kernel_rfl
theorem f669Ok (k : Nat) (x : D8) (y : D30) (h : f669F k x = some y) : FnOk P 169 [.agg Y2, .dat .str] [.own 231 Y5, .dat (.int .i64), .dat (.int .i64)] x y :=
  evFS_sound tabOk (f669TS k) mixed Tryz.func169 (c := codeOf Tryz.f169) (by kernel_rfl) (f669LS k) ((f669E k x).trans h)
noncomputable def f669A (k : Nat) := entFnB [.agg Y2, .dat .str] [.own 231 Y5, .dat (.int .i64), .dat (.int .i64)] (f669F k)
theorem f669Ao (k : Nat) : EntOk P 169 (f669A k) := entFnB_ok (f669Ok k)
/-! ## midrange/records.ValuesOf -/
noncomputable def f650T (k : Nat) : Table := [(107, f607A k), (145, f645A k), (169, f669A k)]
theorem f650TS (k : Nat) : Sound P (f650T k) := (((Sound.nil).consE f669B (f669Ao k)).consE f645B (f645Ao k)).consE f607B (f607Ao k)
theorem f650B : HasBody P 150 := ⟨Tryz.f150, Tryz.func150, by kernel_rfl, by kernel_rfl⟩
noncomputable def f650F (k : Nat) (x : D8) : Option (D30) :=
  Option.bind (f607F k (x.1.1, x.1.2)) fun y1 =>
  bif (y1 != (0 : Int)) then
    some ([], (0 : Int), y1)
  else
  Option.bind (f645F k (x.1.1, x.1.2)) fun y2 =>
  bif ((x.2.size : Int) != y2) then
    some ([], (0 : Int), (18 : Int))
  else
  Option.bind (f669F k ((x.1.1, x.1.2), x.2)) fun y3 =>
  some (y3.1, y3.2.1, y3.2.2)
noncomputable def f650L (k : Nat) : Sums := []
theorem f650LS (k : Nat) : SumsOk P Tryz.f150.ntmps (f650L k) (codeOf Tryz.f150) 1 := SumsOk.nil
theorem f650E (k : Nat) (x : D8) : evFS tab (f650T k) (f650L k) Tryz.f150.ntmps Tryz.f150.results.toList (codeOf Tryz.f150) (argsV [.agg Y2, .dat .str] x) [.own 231 Y5, .dat (.int .i64), .dat (.int .i64)] none = f650F k x := by kernel_rfl
theorem f650Ok (k : Nat) (x : D8) (y : D30) (h : f650F k x = some y) : FnOk P 150 [.agg Y2, .dat .str] [.own 231 Y5, .dat (.int .i64), .dat (.int .i64)] x y :=
  evFS_sound tabOk (f650TS k) mixed Tryz.func150 (c := codeOf Tryz.f150) (by kernel_rfl) (f650LS k) ((f650E k x).trans h)
noncomputable def f650A (k : Nat) := entFnB [.agg Y2, .dat .str] [.own 231 Y5, .dat (.int .i64), .dat (.int .i64)] (f650F k)
theorem f650Ao (k : Nat) : EntOk P 150 (f650A k) := entFnB_ok (f650Ok k)
/-! ## midrange/records.CheckBytes -/
noncomputable def f630T (k : Nat) : Table := [(150, f650A k)]
theorem f630TS (k : Nat) : Sound P (f630T k) := (Sound.nil).consE f650B (f650Ao k)
theorem f630B : HasBody P 130 := ⟨Tryz.f130, Tryz.func130, by kernel_rfl, by kernel_rfl⟩
noncomputable def f630F (k : Nat) (x : D8) : Option (Int × Int) :=
  Option.bind (f650F k ((x.1.1, x.1.2), x.2)) fun y1 =>
  some (y1.2.1, y1.2.2)
noncomputable def f630L (k : Nat) : Sums := []
theorem f630LS (k : Nat) : SumsOk P Tryz.f130.ntmps (f630L k) (codeOf Tryz.f130) 1 := SumsOk.nil
theorem f630E (k : Nat) (x : D8) : evFS tab (f630T k) (f630L k) Tryz.f130.ntmps Tryz.f130.results.toList (codeOf Tryz.f130) (argsV [.agg Y2, .dat .str] x) [.dat (.int .i64), .dat (.int .i64)] none = f630F k x := by kernel_rfl
theorem f630Ok (k : Nat) (x : D8) (y : Int × Int) (h : f630F k x = some y) : FnOk P 130 [.agg Y2, .dat .str] [.dat (.int .i64), .dat (.int .i64)] x y :=
  evFS_sound tabOk (f630TS k) mixed Tryz.func130 (c := codeOf Tryz.f130) (by kernel_rfl) (f630LS k) ((f630E k x).trans h)
noncomputable def f630A (k : Nat) := entFnB [.agg Y2, .dat .str] [.dat (.int .i64), .dat (.int .i64)] (f630F k)
theorem f630Ao (k : Nat) : EntOk P 130 (f630A k) := entFnB_ok (f630Ok k)
/-! ## midrange/records.bytesErr -/
noncomputable def f595T (k : Nat) : Table := [(130, f630A k)]
theorem f595TS (k : Nat) : Sound P (f595T k) := (Sound.nil).consE f630B (f630Ao k)
theorem f595B : HasBody P 95 := ⟨Tryz.f95, Tryz.func95, by kernel_rfl, by kernel_rfl⟩
noncomputable def f595F (k : Nat) (x : D8) : Option (Int) :=
  Option.bind (f630F k ((x.1.1, x.1.2), x.2)) fun y1 =>
  some y1.2
noncomputable def f595L (k : Nat) : Sums := []
theorem f595LS (k : Nat) : SumsOk P Tryz.f95.ntmps (f595L k) (codeOf Tryz.f95) 1 := SumsOk.nil
theorem f595E (k : Nat) (x : D8) : evFS tab (f595T k) (f595L k) Tryz.f95.ntmps Tryz.f95.results.toList (codeOf Tryz.f95) (argsV [.agg Y2, .dat .str] x) [.dat (.int .i64)] none = f595F k x := by kernel_rfl
theorem f595Ok (k : Nat) (x : D8) (y : Int) (h : f595F k x = some y) : FnOk P 95 [.agg Y2, .dat .str] [.dat (.int .i64)] x y :=
  evFS_sound tabOk (f595TS k) mixed Tryz.func95 (c := codeOf Tryz.f95) (by kernel_rfl) (f595LS k) ((f595E k x).trans h)
noncomputable def f595A (k : Nat) := entFnB [.agg Y2, .dat .str] [.dat (.int .i64)] (f595F k)
theorem f595Ao (k : Nat) : EntOk P 95 (f595A k) := entFnB_ok (f595Ok k)
/-! ## midrange/records.CheckTable -/
noncomputable def f549T (k : Nat) : Table := [(92, f592A k), (93, f593A k), (94, f594A k), (95, f595A k)]
theorem f549TS (k : Nat) : Sound P (f549T k) := ((((Sound.nil).consE f595B (f595Ao k)).consE f594B (f594Ao k)).consE f593B (f593Ao k)).consE f592B (f592Ao k)
theorem f549B : HasBody P 49 := ⟨Tryz.f49, Tryz.func49, by kernel_rfl, by kernel_rfl⟩
noncomputable def f549p0H : Shape := ⟨[(1, .one (.ptr 0 0)), (5, .one (.int .i64)), (6, .one (.ptr 1 0)), (7, .one (.int .i64)), (22, .one (.ro (.pair .bool .str))), (23, .one (.int .i64)), (24, .one (.int .i64))], [(0, .var 52 [.str, .str, .ro Y1, .ro (.pair .str .bool), .bool, .ro (.pair .bool .str)]), (1, .var 100 [.bool, .str])], 2, []⟩
noncomputable def f549p0X0 : Shape := ⟨[(1, .one (.ptr 0 0)), (5, .one (.int .i64)), (7, .one (.int .i64)), (22, .one (.ro (.pair .bool .str))), (23, .one (.int .i64)), (24, .one (.int .i64))], [(0, .var 52 [.str, .str, .ro Y1, .ro (.pair .str .bool), .bool, .ro (.pair .bool .str)])], 1, []⟩
noncomputable def f549p0N : NoteR := ⟨[1, 5, 6, 7, 22, 23, 24], [], []⟩
noncomputable def f549p0M : NoteR := ⟨[1, 2, 3, 5, 7, 22, 23, 24], [], []⟩
noncomputable def f549p0C : Code := firstC (codesAt 14950 (codeOf Tryz.f49) 1)
noncomputable def f549p0 {R : Type} (k : Nat) (k0 : D31 → Option R) (v : D32) : Option R :=
  bif (!v.2.2.2.2.2.2.2.2.2.2.2.1) then
    Option.bind (f595F k ((v.2.2.2.2.2.2.1, v.2.2.2.2.2.2.2.1), v.2.2.2.2.2.2.2.2.2.2.2.2.1)) fun y6 =>
    k0 (v.1, y6, v.2.2.1, v.2.2.2.1, v.2.2.2.2.1, v.2.2.2.2.2.1, v.2.2.2.2.2.2.1, v.2.2.2.2.2.2.2.1, v.2.2.2.2.2.2.2.2.1, v.2.2.2.2.2.2.2.2.2.1, v.2.2.2.2.2.2.2.2.2.2.1, ())
  else
  k0 (v.1, v.2.1, v.2.2.1, v.2.2.2.1, v.2.2.2.2.1, v.2.2.2.2.2.1, v.2.2.2.2.2.2.1, v.2.2.2.2.2.2.2.1, v.2.2.2.2.2.2.2.2.1, v.2.2.2.2.2.2.2.2.2.1, v.2.2.2.2.2.2.2.2.2.2.1, ())
noncomputable def f549p0S (k : Nat) : Sum1 := partSum f549p0H f549p0N (fun R K v => f549p0 k (fun w => K .normal (encSt f549p0X0 w)) v)
theorem f549p0E (k : Nat) (R : Type) (K : X → St → Option R) (v : f549p0H.Den) : evS tab (f549T k) Tryz.f49.ntmps [] f549p0C 14950 (partK f549p0M K) (encSt f549p0H v) = f549p0 k (fun w => K .normal (encSt f549p0X0 w)) v := by kernel_rfl
theorem f549p0I (k : Nat) : SumsOk P Tryz.f49.ntmps [] f549p0C 14950 := SumsOk.nil
theorem f549p0O (k : Nat) : SumOk P Tryz.f49.ntmps f549p0C (f549p0S k) := sum_part tabOk (f549TS k) mixed (f549p0I k) (f549p0E k)
noncomputable def f549l1H : Shape := ⟨[(1, .one (.ptr 0 0)), (22, .one (.ro (.pair .bool .str))), (23, .one (.int .i64)), (24, .one (.int .i64))], [(0, .var 52 [.str, .str, .ro Y1, .ro (.pair .str .bool), .bool, .ro (.pair .bool .str)])], 1, []⟩
noncomputable def f549l1X0 : Shape := ⟨[(2, .one (.int .i64)), (3, .one (.int .i64))], [], 0, []⟩
noncomputable def f549l1X1 : Shape := ⟨[], [], 0, []⟩
noncomputable def f549l1N : NoteR := ⟨[1, 22, 23, 24], [], []⟩
noncomputable def f549l1M : NoteR := ⟨[2, 3], [], []⟩
noncomputable def f549l1C : Code := firstC (codesAt 58 (codeOf Tryz.f49) 1)
noncomputable def f549l1s {R : Type} (k : Nat) (rec : D33 → Option R) (k0 : Int × Int × Unit → Option R) (k1 : Unit → Option R) (v : D33) : Option R :=
  bif (decide (v.2.2.1 < v.2.1)) then
    bif ((decide ((0 : Int) ≤ v.2.2.1)) && (decide (v.2.2.1 < (v.1.length : Int)))) then
    let t4 := (!strEq (v.1.getD (Int.toNat v.2.2.1) (false, ByteArray.empty)).2 ByteArray.empty)
    Option.bind (f594F k (t4, (5 : Int))) fun y5 =>
    f549p0 k
      (fun (w7 : D31) =>
        bif (w7.2.1 != (0 : Int)) then
          k0 (w7.1, w7.2.1, ())
        else
        rec (w7.2.2.1, w7.2.2.2.1, (IntKind.i64.wrap (w7.2.2.2.2.1 + (1 : Int))), w7.2.2.2.2.2.1, w7.2.2.2.2.2.2.1, w7.2.2.2.2.2.2.2.1, w7.2.2.2.2.2.2.2.2.1, w7.2.2.2.2.2.2.2.2.2.1, w7.2.2.2.2.2.2.2.2.2.2.1, ()))
      (v.2.2.1, y5, v.1, v.2.1, v.2.2.1, v.2.2.2.1, v.2.2.2.2.1, v.2.2.2.2.2.1, v.2.2.2.2.2.2.1, v.2.2.2.2.2.2.2.1, v.2.2.2.2.2.2.2.2.1, (v.1.getD (Int.toNat v.2.2.1) (false, ByteArray.empty)).1, (v.1.getD (Int.toNat v.2.2.1) (false, ByteArray.empty)).2, ())
    else none
  else
  k1 (())
noncomputable def f549l1 {R : Type} (k : Nat) (k0 : Int × Int × Unit → Option R) (k1 : Unit → Option R) (v : D33) : Option R := iterS (fun rec v => f549l1s k rec k0 k1 v) k v
noncomputable def f549l1S (k : Nat) : Sum1 := loopSum f549l1H f549l1N k (fun R rec K v => f549l1s k rec (fun w => K .ret (encSt f549l1X0 w)) (fun w => K (.exit 0) (encSt f549l1X1 w)) v)
theorem f549l1E (k : Nat) (R : Type) (rec : St → Option R) (K : X → St → Option R) (v : f549l1H.Den) : evS tab (f549T k) Tryz.f49.ntmps [(14950, f549p0S k)] (bodyOf f549l1C) 116 (bodyK f549l1N f549l1M rec K) (encSt f549l1H v) = f549l1s k (fun v => rec (encSt f549l1H v)) (fun w => K .ret (encSt f549l1X0 w)) (fun w => K (.exit 0) (encSt f549l1X1 w)) v := by kernel_rfl
theorem f549l1I (k : Nat) : SumsOk P Tryz.f49.ntmps [(14950, f549p0S k)] (bodyOf f549l1C) 116 := (SumsOk.nil).cons (c := f549p0C) (by kernel_rfl) (f549p0O k)
theorem f549l1O (k : Nat) : SumOk P Tryz.f49.ntmps f549l1C (f549l1S k) := (show f549l1C = .loop (bodyOf f549l1C) by kernel_rfl) ▸ sum_loop tabOk (f549TS k) mixed (f549l1I k) (f549l1E k)
noncomputable def f549F (k : Nat) (x : D34) : Option (Int × Int) :=
  Option.bind (f593F k (x.1.1, ((x.1.2.1.1, x.1.2.1.2), (x.1.2.2.1, x.1.2.2.2)))) fun y1 =>
  Option.bind (f594F k ((decide ((x.2.length : Int) > (60 : Int))), (2 : Int))) fun y2 =>
  Option.bind (f592F k [y1, y2]) fun y3 =>
  bif (y3 != (0 : Int)) then
    some ((0 : Int), y3)
  else
  f549l1 k
    (fun (w8 : Int × Int × Unit) =>
      some (w8.1, w8.2.1))
    (fun (w9 : Unit) =>
      some ((0 : Int), (0 : Int)))
    (x.2, (x.2.length : Int), (0 : Int), x.1.1, x.1.2.1.1, x.1.2.1.2, x.1.2.2.1, x.1.2.2.2, x.2, ())
noncomputable def f549L (k : Nat) : Sums := [(14950, f549p0S k), (58, f549l1S k)]
theorem f549LS (k : Nat) : SumsOk P Tryz.f49.ntmps (f549L k) (codeOf Tryz.f49) 1 := ((SumsOk.nil).cons (c := f549l1C) (by kernel_rfl) (f549l1O k)).cons (c := f549p0C) (by kernel_rfl) (f549p0O k)
theorem f549E (k : Nat) (x : D34) : evFS tab (f549T k) (f549L k) Tryz.f49.ntmps Tryz.f49.results.toList (codeOf Tryz.f49) (argsV [.agg Y6] x) [.dat (.int .i64), .dat (.int .i64)] none = f549F k x := by kernel_rfl
theorem f549Ok (k : Nat) (x : D34) (y : Int × Int) (h : f549F k x = some y) : FnOk P 49 [.agg Y6] [.dat (.int .i64), .dat (.int .i64)] x y :=
  evFS_sound tabOk (f549TS k) mixed Tryz.func49 (c := codeOf Tryz.f49) (by kernel_rfl) (f549LS k) ((f549E k x).trans h)
noncomputable def f549A (k : Nat) := entFnB [.agg Y6] [.dat (.int .i64), .dat (.int .i64)] (f549F k)
theorem f549Ao (k : Nat) : EntOk P 49 (f549A k) := entFnB_ok (f549Ok k)
/-! ## midrange/save.at$1 -/
noncomputable def f597T (k : Nat) : Table := []
theorem f597TS (k : Nat) : Sound P (f597T k) := Sound.nil
theorem f597B : HasBody P 97 := ⟨Tryz.f97, Tryz.func97, by kernel_rfl, by kernel_rfl⟩
noncomputable def f597F (k : Nat) (x : D34) : Option (Bool) :=
  none
noncomputable def f597L (k : Nat) : Sums := []
theorem f597LS (k : Nat) : SumsOk P Tryz.f97.ntmps (f597L k) (codeOf Tryz.f97) 1 := SumsOk.nil
theorem f597E (k : Nat) (x : D34) : evFS tab (f597T k) (f597L k) Tryz.f97.ntmps Tryz.f97.results.toList (codeOf Tryz.f97) (argsV [.agg Y6] x) [.dat .bool] none = f597F k x := by kernel_rfl
theorem f597Ok (k : Nat) (x : D34) (y : Bool) (h : f597F k x = some y) : FnOk P 97 [.agg Y6] [.dat .bool] x y :=
  evFS_sound tabOk (f597TS k) mixed Tryz.func97 (c := codeOf Tryz.f97) (by kernel_rfl) (f597LS k) ((f597E k x).trans h)
noncomputable def f597A (k : Nat) := entFnB [.agg Y6] [.dat .bool] (f597F k)
theorem f597Ao (k : Nat) : EntOk P 97 (f597A k) := entFnB_ok (f597Ok k)
/-! ## midrange/save.at$1, handed what it may write -/
noncomputable def f597v0I : Shape := ⟨[(0, .agg [.str, .str, .ro Y1, .ro (.pair .str .bool), .bool, .ro (.pair .bool .str)]), (1, .one (.ptr 0 0))], [(0, .var 9 [.str])], 1, []⟩
noncomputable def f597v0U : Shape := ⟨[(0, .one (.bool))], [(0, .var 9 [.str])], 1, []⟩
noncomputable def f597v0T (k : Nat) : Table := []
theorem f597v0TS (k : Nat) : Sound P (f597v0T k) := Sound.nil
noncomputable def f597v0F (k : Nat) (x : D35) : Option (Bool × ByteArray × Unit) :=
  some ((strEq x.1 x.2.2.2.2.2.2.1), x.2.2.2.2.2.2.1, ())
noncomputable def f597v0L (k : Nat) : Sums := []
theorem f597v0LS (k : Nat) : SumsOk P Tryz.f97.ntmps (f597v0L k) (codeOf Tryz.f97) 1 := SumsOk.nil
theorem f597v0E (k : Nat) (x : f597v0I.Den) : evG tab (f597v0T k) (f597v0L k) Tryz.f97.ntmps Tryz.f97.results.toList (codeOf Tryz.f97) f597v0I x [.dat .bool] [] f597v0U none = f597v0F k x := by kernel_rfl
theorem f597v0Ok (k : Nat) (x : f597v0I.Den) (y : f597v0U.Den) (h : f597v0F k x = some y) : GnOk P 97 f597v0I f597v0U x y :=
  evG_sound tabOk (f597v0TS k) mixed Tryz.func97 (c := codeOf Tryz.f97) (by kernel_rfl) (f597v0LS k) ((f597v0E k x).trans h)
/-! ## slices.IndexFunc[[]midrange/api.Table,midrange/api.Table], handed what it may write -/
noncomputable def f596v0I : Shape := ⟨[(0, .one (.ro Y6)), (1, .one (.fn 97 [0]))], [(0, .var 9 [.str])], 1, []⟩
noncomputable def f596v0U : Shape := ⟨[(0, .one (.int .i64))], [(0, .var 9 [.str])], 1, []⟩
noncomputable def f596v0T (k : Nat) : Table := [(97, entG f597v0I f597v0U (f597v0F k))]
theorem f596v0TS (k : Nat) : Sound P (f596v0T k) := (Sound.nil).consE f597B (entG_ok (f597v0Ok k))
theorem f596B : HasBody P 96 := ⟨Tryz.f96, Tryz.func96, by kernel_rfl, by kernel_rfl⟩
noncomputable def f596v0l0H : Shape := ⟨[(0, .one (.ro Y6)), (1, .one (.fn 97 [0])), (7, .one (.int .i64)), (8, .one (.int .i64))], [(0, .var 9 [.str])], 1, [some 0]⟩
noncomputable def f596v0l0X0 : Shape := ⟨[(4, .one (.int .i64))], [(0, .var 9 [.str])], 1, [some 0]⟩
noncomputable def f596v0l0X1 : Shape := ⟨[], [(0, .var 9 [.str])], 1, [some 0]⟩
noncomputable def f596v0l0N : NoteR := ⟨[0, 1, 7, 8], [], []⟩
noncomputable def f596v0l0M : NoteR := ⟨[4], [], []⟩
noncomputable def f596v0l0C : Code := firstC (codesAt 26 (codeOf Tryz.f96) 1)
noncomputable def f596v0l0s {R : Type} (k : Nat) (rec : D36 → Option R) (k0 : Int × ByteArray × Unit → Option R) (k1 : ByteArray × Unit → Option R) (v : D36) : Option R :=
  bif (decide (v.2.2.1 < v.2.1)) then
    bif ((decide ((0 : Int) ≤ v.2.2.1)) && (decide (v.2.2.1 < (v.1.length : Int)))) then
    let t1 := (v.1.getD (Int.toNat v.2.2.1) ((ByteArray.empty, ((ByteArray.empty, []), ([], false))), []))
    Option.bind (f597v0F k (t1.1.1, t1.1.2.1.1, t1.1.2.1.2, t1.1.2.2.1, t1.1.2.2.2, t1.2, v.2.2.2.1, ())) fun y2 =>
    bif y2.1 then
      k0 (v.2.2.1, y2.2.1, ())
    else
    rec (v.1, v.2.1, (IntKind.i64.wrap (v.2.2.1 + (1 : Int))), y2.2.1, ())
    else none
  else
  k1 (v.2.2.2.1, ())
noncomputable def f596v0l0 {R : Type} (k : Nat) (k0 : Int × ByteArray × Unit → Option R) (k1 : ByteArray × Unit → Option R) (v : D36) : Option R := iterS (fun rec v => f596v0l0s k rec k0 k1 v) k v
noncomputable def f596v0l0S (k : Nat) : Sum1 := loopSum f596v0l0H f596v0l0N k (fun R rec K v => f596v0l0s k rec (fun w => K .ret (encSt f596v0l0X0 w)) (fun w => K (.exit 0) (encSt f596v0l0X1 w)) v)
theorem f596v0l0E (k : Nat) (R : Type) (rec : St → Option R) (K : X → St → Option R) (v : f596v0l0H.Den) : evS tab (f596v0T k) Tryz.f96.ntmps [] (bodyOf f596v0l0C) 52 (bodyK f596v0l0N f596v0l0M rec K) (encSt f596v0l0H v) = f596v0l0s k (fun v => rec (encSt f596v0l0H v)) (fun w => K .ret (encSt f596v0l0X0 w)) (fun w => K (.exit 0) (encSt f596v0l0X1 w)) v := by kernel_rfl
theorem f596v0l0I (k : Nat) : SumsOk P Tryz.f96.ntmps [] (bodyOf f596v0l0C) 52 := SumsOk.nil
theorem f596v0l0O (k : Nat) : SumOk P Tryz.f96.ntmps f596v0l0C (f596v0l0S k) := (show f596v0l0C = .loop (bodyOf f596v0l0C) by kernel_rfl) ▸ sum_loop tabOk (f596v0TS k) mixed (f596v0l0I k) (f596v0l0E k)
noncomputable def f596v0F (k : Nat) (x : D37) : Option (Int × ByteArray × Unit) :=
  f596v0l0 k
    (fun (w3 : Int × ByteArray × Unit) =>
      some (w3.1, w3.2.1, ()))
    (fun (w4 : ByteArray × Unit) =>
      some ((-1 : Int), w4.1, ()))
    (x.1, (x.1.length : Int), (0 : Int), x.2.1, ())
noncomputable def f596v0L (k : Nat) : Sums := [(26, f596v0l0S k)]
theorem f596v0LS (k : Nat) : SumsOk P Tryz.f96.ntmps (f596v0L k) (codeOf Tryz.f96) 1 := (SumsOk.nil).cons (c := f596v0l0C) (by kernel_rfl) (f596v0l0O k)
theorem f596v0E (k : Nat) (x : f596v0I.Den) : evG tab (f596v0T k) (f596v0L k) Tryz.f96.ntmps Tryz.f96.results.toList (codeOf Tryz.f96) f596v0I x [.dat .bool] [] f596v0U none = f596v0F k x := by kernel_rfl
theorem f596v0Ok (k : Nat) (x : f596v0I.Den) (y : f596v0U.Den) (h : f596v0F k x = some y) : GnOk P 96 f596v0I f596v0U x y :=
  evG_sound tabOk (f596v0TS k) mixed Tryz.func96 (c := codeOf Tryz.f96) (by kernel_rfl) (f596v0LS k) ((f596v0E k x).trans h)
/-! ## midrange/save.at -/
noncomputable def f550T (k : Nat) : Table := [(96, entG f596v0I f596v0U (f596v0F k))]
theorem f550TS (k : Nat) : Sound P (f550T k) := (Sound.nil).consE f596B (entG_ok (f596v0Ok k))
theorem f550B : HasBody P 50 := ⟨Tryz.f50, Tryz.func50, by kernel_rfl, by kernel_rfl⟩
noncomputable def f550F (k : Nat) (x : (List D34) × ByteArray) : Option (Int) :=
  Option.bind (f596v0F k (x.1, x.2, ())) fun y1 =>
  some y1.1
noncomputable def f550L (k : Nat) : Sums := []
theorem f550LS (k : Nat) : SumsOk P Tryz.f50.ntmps (f550L k) (codeOf Tryz.f50) 1 := SumsOk.nil
theorem f550E (k : Nat) (x : (List D34) × ByteArray) : evFS tab (f550T k) (f550L k) Tryz.f50.ntmps Tryz.f50.results.toList (codeOf Tryz.f50) (argsV [.dat (.slice Y6), .dat .str] x) [.dat (.int .i64)] none = f550F k x := by kernel_rfl
theorem f550Ok (k : Nat) (x : (List D34) × ByteArray) (y : Int) (h : f550F k x = some y) : FnOk P 50 [.dat (.slice Y6), .dat .str] [.dat (.int .i64)] x y :=
  evFS_sound tabOk (f550TS k) mixed Tryz.func50 (c := codeOf Tryz.f50) (by kernel_rfl) (f550LS k) ((f550E k x).trans h)
noncomputable def f550A (k : Nat) := entFnB [.dat (.slice Y6), .dat .str] [.dat (.int .i64)] (f550F k)
theorem f550Ao (k : Nat) : EntOk P 50 (f550A k) := entFnB_ok (f550Ok k)
/-! ## midrange/save.CheckTables -/
noncomputable def f515T (k : Nat) : Table := [(49, f549A k), (50, f550A k)]
theorem f515TS (k : Nat) : Sound P (f515T k) := ((Sound.nil).consE f550B (f550Ao k)).consE f549B (f549Ao k)
theorem f515B : HasBody P 15 := ⟨Tryz.f15, Tryz.func15, by kernel_rfl, by kernel_rfl⟩
noncomputable def f515l0H : Shape := ⟨[(0, .one (.ro Y6)), (11, .one (.ro Y6)), (12, .one (.int .i64)), (13, .one (.int .i64))], [], 0, []⟩
noncomputable def f515l0X0 : Shape := ⟨[(2, .one (.int .i64)), (3, .one (.int .i64))], [], 0, []⟩
noncomputable def f515l0X1 : Shape := ⟨[], [], 0, []⟩
noncomputable def f515l0N : NoteR := ⟨[0, 11, 12, 13], [], []⟩
noncomputable def f515l0M : NoteR := ⟨[2, 3], [], []⟩
noncomputable def f515l0C : Code := firstC (codesAt 58 (codeOf Tryz.f15) 1)
noncomputable def f515l0s {R : Type} (k : Nat) (rec : D38 → Option R) (k0 : Int × Int × Unit → Option R) (k1 : Unit → Option R) (v : D38) : Option R :=
  bif (decide (v.2.2.2.1 < v.2.2.1)) then
    bif ((decide ((0 : Int) ≤ v.2.2.2.1)) && (decide (v.2.2.2.1 < (v.2.1.length : Int)))) then
    let t1 := (v.2.1.getD (Int.toNat v.2.2.2.1) ((ByteArray.empty, ((ByteArray.empty, []), ([], false))), []))
    Option.bind (f549F k ((t1.1.1, ((t1.1.2.1.1, t1.1.2.1.2), (t1.1.2.2.1, t1.1.2.2.2))), t1.2)) fun y2 =>
    bif (y2.2 != (0 : Int)) then
      k0 (v.2.2.2.1, y2.2, ())
    else
    Option.bind (f550F k (v.1, t1.1.1)) fun y3 =>
    bif (decide (y3 < v.2.2.2.1)) then
      k0 (v.2.2.2.1, (13 : Int), ())
    else
    rec (v.1, v.2.1, v.2.2.1, (IntKind.i64.wrap (v.2.2.2.1 + (1 : Int))), ())
    else none
  else
  k1 (())
noncomputable def f515l0 {R : Type} (k : Nat) (k0 : Int × Int × Unit → Option R) (k1 : Unit → Option R) (v : D38) : Option R := iterS (fun rec v => f515l0s k rec k0 k1 v) k v
noncomputable def f515l0S (k : Nat) : Sum1 := loopSum f515l0H f515l0N k (fun R rec K v => f515l0s k rec (fun w => K .ret (encSt f515l0X0 w)) (fun w => K (.exit 0) (encSt f515l0X1 w)) v)
theorem f515l0E (k : Nat) (R : Type) (rec : St → Option R) (K : X → St → Option R) (v : f515l0H.Den) : evS tab (f515T k) Tryz.f15.ntmps [] (bodyOf f515l0C) 116 (bodyK f515l0N f515l0M rec K) (encSt f515l0H v) = f515l0s k (fun v => rec (encSt f515l0H v)) (fun w => K .ret (encSt f515l0X0 w)) (fun w => K (.exit 0) (encSt f515l0X1 w)) v := by kernel_rfl
theorem f515l0I (k : Nat) : SumsOk P Tryz.f15.ntmps [] (bodyOf f515l0C) 116 := SumsOk.nil
theorem f515l0O (k : Nat) : SumOk P Tryz.f15.ntmps f515l0C (f515l0S k) := (show f515l0C = .loop (bodyOf f515l0C) by kernel_rfl) ▸ sum_loop tabOk (f515TS k) mixed (f515l0I k) (f515l0E k)
noncomputable def f515F (k : Nat) (x : (List D34)) : Option (Int × Int) :=
  bif (decide ((x.length : Int) > (8 : Int))) then
    some ((0 : Int), (2 : Int))
  else
  f515l0 k
    (fun (w4 : Int × Int × Unit) =>
      some (w4.1, w4.2.1))
    (fun (w5 : Unit) =>
      some ((0 : Int), (0 : Int)))
    (x, x, (x.length : Int), (0 : Int), ())
noncomputable def f515L (k : Nat) : Sums := [(58, f515l0S k)]
theorem f515LS (k : Nat) : SumsOk P Tryz.f15.ntmps (f515L k) (codeOf Tryz.f15) 1 := (SumsOk.nil).cons (c := f515l0C) (by kernel_rfl) (f515l0O k)
theorem f515E (k : Nat) (x : (List D34)) : evFS tab (f515T k) (f515L k) Tryz.f15.ntmps Tryz.f15.results.toList (codeOf Tryz.f15) (argsV [.dat (.slice Y6)] x) [.dat (.int .i64), .dat (.int .i64)] none = f515F k x := by kernel_rfl
theorem f515Ok (k : Nat) (x : (List D34)) (y : Int × Int) (h : f515F k x = some y) : FnOk P 15 [.dat (.slice Y6)] [.dat (.int .i64), .dat (.int .i64)] x y :=
  evFS_sound tabOk (f515TS k) mixed Tryz.func15 (c := codeOf Tryz.f15) (by kernel_rfl) (f515LS k) ((f515E k x).trans h)
noncomputable def f515A (k : Nat) := entFnB [.dat (.slice Y6)] [.dat (.int .i64), .dat (.int .i64)] (f515F k)
theorem f515Ao (k : Nat) : EntOk P 15 (f515A k) := entFnB_ok (f515Ok k)
noncomputable def f73A (k : Nat) := entFnB [.dat .str, .dat (.int .i64)] [.dat .str] (f73F k)
theorem f73Ao (k : Nat) : EntOk P 98 (f73A k) := entFnB_ok (f73Ok k)
/-! ## (*midrange/save.writer).bytes, handed what it may write -/
noncomputable def f552v0I : Shape := ⟨[(0, .one (.ptr 0 0)), (1, .one (.own 1))], [(0, .var 106 [.own 2]), (1, .row 3 (.int .i64) .plain), (2, .row 5 (.int .u8) .plain)], 3, []⟩
noncomputable def f552v0U : Shape := ⟨[], [(0, .var 106 [.own 3]), (1, .row 3 (.int .i64) .plain), (3, .row 5 (.int .u8) .plain)], 4, []⟩
noncomputable def f552v0T (k : Nat) : Table := []
theorem f552v0TS (k : Nat) : Sound P (f552v0T k) := Sound.nil
theorem f552B : HasBody P 52 := ⟨Tryz.f52, Tryz.func52, by kernel_rfl, by kernel_rfl⟩
noncomputable def f552v0l0H : Shape := ⟨[(0, .one (.ptr 0 0)), (6, .one (.own 1)), (7, .one (.int .i64)), (8, .one (.int .i64))], [(0, .var 106 [.own 2]), (1, .row 3 (.int .i64) .plain), (2, .row 5 (.int .u8) .plain)], 3, [some 0, some 1, none]⟩
noncomputable def f552v0l0X0 : Shape := ⟨[], [(0, .var 106 [.own 2]), (1, .row 3 (.int .i64) .plain), (2, .row 5 (.int .u8) .plain)], 3, [some 0, some 1, none]⟩
noncomputable def f552v0l0N : NoteR := ⟨[0, 6, 7, 8], [], []⟩
noncomputable def f552v0l0M : NoteR := ⟨[], [], []⟩
noncomputable def f552v0l0C : Code := firstC (codesAt 6 (codeOf Tryz.f52) 1)
noncomputable def f552v0l0s {R : Type} (k : Nat) (rec : D22 → Option R) (k0 : D39 → Option R) (v : D22) : Option R :=
  bif (decide (v.2.1 < v.1)) then
    bif ((decide ((0 : Int) ≤ v.2.1)) && (decide (v.2.1 < (v.2.2.1.length : Int)))) then
    bif (decide ((v.2.2.2.1.length + [(IntKind.u8.wrap (v.2.2.1.getD (Int.toNat v.2.1) (0 : Int)))].length) * 1 ≤ 140737488355328) && decide (v.2.2.2.1.length + [(IntKind.u8.wrap (v.2.2.1.getD (Int.toNat v.2.1) (0 : Int)))].length ≤ 9223372036854775807)) then
    let t2 := (v.2.2.2.1 ++ [(IntKind.u8.wrap (v.2.2.1.getD (Int.toNat v.2.1) (0 : Int)))])
    rec (v.1, (IntKind.i64.wrap (v.2.1 + (1 : Int))), v.2.2.1, t2, ())
    else none
    else none
  else
  k0 (v.2.2.1, v.2.2.2.1, ())
noncomputable def f552v0l0 {R : Type} (k : Nat) (k0 : D39 → Option R) (v : D22) : Option R := iterS (fun rec v => f552v0l0s k rec k0 v) k v
noncomputable def f552v0l0S (k : Nat) : Sum1 := loopSum f552v0l0H f552v0l0N k (fun R rec K v => f552v0l0s k rec (fun w => K (.exit 0) (encSt f552v0l0X0 w)) v)
theorem f552v0l0E (k : Nat) (R : Type) (rec : St → Option R) (K : X → St → Option R) (v : f552v0l0H.Den) : evS tab (f552v0T k) Tryz.f52.ntmps [] (bodyOf f552v0l0C) 12 (bodyK f552v0l0N f552v0l0M rec K) (encSt f552v0l0H v) = f552v0l0s k (fun v => rec (encSt f552v0l0H v)) (fun w => K (.exit 0) (encSt f552v0l0X0 w)) v := by kernel_rfl
theorem f552v0l0I (k : Nat) : SumsOk P Tryz.f52.ntmps [] (bodyOf f552v0l0C) 12 := SumsOk.nil
theorem f552v0l0O (k : Nat) : SumOk P Tryz.f52.ntmps f552v0l0C (f552v0l0S k) := (show f552v0l0C = .loop (bodyOf f552v0l0C) by kernel_rfl) ▸ sum_loop tabOk (f552v0TS k) mixed (f552v0l0I k) (f552v0l0E k)
noncomputable def f552v0l1H : Shape := ⟨[(0, .one (.ptr 0 0)), (6, .one (.own 1)), (7, .one (.int .i64)), (8, .one (.int .i64))], [(0, .var 106 [.own 2]), (1, .row 3 (.int .i64) .plain), (2, .row 5 (.int .u8) .plain)], 3, [some 0, some 1, some 2]⟩
noncomputable def f552v0l1X0 : Shape := ⟨[], [(0, .var 106 [.own 2]), (1, .row 3 (.int .i64) .plain), (2, .row 5 (.int .u8) .plain)], 3, [some 0, some 1, none]⟩
noncomputable def f552v0l1X1 : Shape := ⟨[], [(0, .var 106 [.own 2]), (1, .row 3 (.int .i64) .plain), (2, .row 5 (.int .u8) .plain)], 3, [some 0, some 1, some 2]⟩
noncomputable def f552v0l1N : NoteR := ⟨[0, 6, 7, 8], [], []⟩
noncomputable def f552v0l1M : NoteR := ⟨[], [], []⟩
noncomputable def f552v0l1C : Code := firstC (codesAt 6 (codeOf Tryz.f52) 1)
noncomputable def f552v0l1s {R : Type} (k : Nat) (rec : D22 → Option R) (k0 : D39 → Option R) (k1 : D39 → Option R) (v : D22) : Option R :=
  bif (decide (v.2.1 < v.1)) then
    bif ((decide ((0 : Int) ≤ v.2.1)) && (decide (v.2.1 < (v.2.2.1.length : Int)))) then
    bif (decide ((v.2.2.2.1.length + [(IntKind.u8.wrap (v.2.2.1.getD (Int.toNat v.2.1) (0 : Int)))].length) * 1 ≤ 140737488355328) && decide (v.2.2.2.1.length + [(IntKind.u8.wrap (v.2.2.1.getD (Int.toNat v.2.1) (0 : Int)))].length ≤ 9223372036854775807)) then
    let t1 := (v.2.2.2.1 ++ [(IntKind.u8.wrap (v.2.2.1.getD (Int.toNat v.2.1) (0 : Int)))])
    f552v0l0 k
      (fun (w3 : D39) =>
        k0 (w3.1, w3.2.1, ()))
      (v.1, (IntKind.i64.wrap (v.2.1 + (1 : Int))), v.2.2.1, t1, ())
    else none
    else none
  else
  k1 (v.2.2.1, v.2.2.2.1, ())
noncomputable def f552v0l1 {R : Type} (k : Nat) (k0 : D39 → Option R) (k1 : D39 → Option R) (v : D22) : Option R := iterS (fun rec v => f552v0l1s k rec k0 k1 v) k v
theorem f552v0l0Rd (k : Nat) : SumRd P Tryz.f52.ntmps (bodyOf f552v0l0C) (f552v0l0S k) k := loop_rd tabOk (f552v0TS k) mixed (f552v0l0I k) (f552v0l0E k)
noncomputable def f552v0l1S (k : Nat) : Sum1 := loop2Sum f552v0l1H f552v0l1N (f552v0l0S k) k (fun R rec K v => f552v0l1s k rec (fun w => K (.exit 0) (encSt f552v0l1X0 w)) (fun w => K (.exit 0) (encSt f552v0l1X1 w)) v)
theorem f552v0l1E (k : Nat) (R : Type) (rec : f552v0l1H.Den → Option R) (K : X → St → Option R) (v : f552v0l1H.Den) : evS tab (f552v0T k) Tryz.f52.ntmps [] (bodyOf f552v0l1C) 12 (step2K f552v0l1H f552v0l1N f552v0l1M (f552v0l0S k) rec K) (encSt f552v0l1H v) = f552v0l1s k rec (fun w => K (.exit 0) (encSt f552v0l1X0 w)) (fun w => K (.exit 0) (encSt f552v0l1X1 w)) v := by kernel_rfl
theorem f552v0l1I (k : Nat) : SumsOk P Tryz.f52.ntmps [] (bodyOf f552v0l1C) 12 := SumsOk.nil
theorem f552v0l1Rd (k : Nat) : SumRd P Tryz.f52.ntmps (bodyOf f552v0l1C) (f552v0l1S k) (k + (k)) := loop2_rd tabOk (f552v0TS k) mixed (f552v0l1I k) ((show bodyOf f552v0l0C = bodyOf f552v0l1C by kernel_rfl) ▸ f552v0l0Rd k) (f552v0l1E k)
theorem f552v0l1O (k : Nat) : SumOk P Tryz.f52.ntmps f552v0l1C (f552v0l1S k) := (show f552v0l1C = .loop (bodyOf f552v0l1C) by kernel_rfl) ▸ (f552v0l1Rd k).ok
noncomputable def f552v0F (k : Nat) (x : D39) : Option (D39) :=
  f552v0l1 k
    (fun (w4 : D39) =>
      some (w4.1, w4.2.1, ()))
    (fun (w5 : D39) =>
      some (w5.1, w5.2.1, ()))
    ((x.1.length : Int), (0 : Int), x.1, x.2.1, ())
noncomputable def f552v0L (k : Nat) : Sums := [(6, f552v0l1S k)]
theorem f552v0LS (k : Nat) : SumsOk P Tryz.f52.ntmps (f552v0L k) (codeOf Tryz.f52) 1 := (SumsOk.nil).cons (c := f552v0l1C) (by kernel_rfl) (f552v0l1O k)
theorem f552v0E (k : Nat) (x : f552v0I.Den) : evG tab (f552v0T k) (f552v0L k) Tryz.f52.ntmps Tryz.f52.results.toList (codeOf Tryz.f52) f552v0I x [] [2] f552v0U none = f552v0F k x := by kernel_rfl
theorem f552v0Ok (k : Nat) (x : f552v0I.Den) (y : f552v0U.Den) (h : f552v0F k x = some y) : GnOk P 52 f552v0I f552v0U x y :=
  evG_sound tabOk (f552v0TS k) mixed Tryz.func52 (c := codeOf Tryz.f52) (by kernel_rfl) (f552v0LS k) ((f552v0E k x).trans h)
/-! ## (*midrange/save.writer).name, handed what it may write -/
noncomputable def f553v0I : Shape := ⟨[(0, .one (.ptr 0 0)), (1, .one (.str))], [(0, .var 106 [.own 1]), (1, .row 5 (.int .u8) .plain)], 2, []⟩
noncomputable def f553v0U : Shape := ⟨[], [(0, .var 106 [.own 2]), (2, .row 5 (.int .u8) .plain)], 3, []⟩
noncomputable def f553v0T (k : Nat) : Table := [(98, f73A k)]
theorem f553v0TS (k : Nat) : Sound P (f553v0T k) := (Sound.nil).consE f73B (f73Ao k)
theorem f553B : HasBody P 53 := ⟨Tryz.f53, Tryz.func53, by kernel_rfl, by kernel_rfl⟩
noncomputable def f553v0F (k : Nat) (x : D40) : Option (List Int × Unit) :=
  bif (decide ((x.2.1.length + (bytesOf x.1).length) * 1 ≤ 140737488355328) && decide (x.2.1.length + (bytesOf x.1).length ≤ 9223372036854775807)) then
  Option.bind (f73F k ((⟨#[32]⟩ : ByteArray), (mxI (IntKind.i64.wrap ((10 : Int) - (x.1.size : Int))) (0 : Int)))) fun y1 =>
  bif (decide (((x.2.1 ++ (bytesOf x.1)).length + (bytesOf y1).length) * 1 ≤ 140737488355328) && decide ((x.2.1 ++ (bytesOf x.1)).length + (bytesOf y1).length ≤ 9223372036854775807)) then
  some (((x.2.1 ++ (bytesOf x.1)) ++ (bytesOf y1)), ())
  else none
  else none
noncomputable def f553v0L (k : Nat) : Sums := []
theorem f553v0LS (k : Nat) : SumsOk P Tryz.f53.ntmps (f553v0L k) (codeOf Tryz.f53) 1 := SumsOk.nil
theorem f553v0E (k : Nat) (x : f553v0I.Den) : evG tab (f553v0T k) (f553v0L k) Tryz.f53.ntmps Tryz.f53.results.toList (codeOf Tryz.f53) f553v0I x [] [1] f553v0U none = f553v0F k x := by kernel_rfl
theorem f553v0Ok (k : Nat) (x : f553v0I.Den) (y : f553v0U.Den) (h : f553v0F k x = some y) : GnOk P 53 f553v0I f553v0U x y :=
  evG_sound tabOk (f553v0TS k) mixed Tryz.func53 (c := codeOf Tryz.f53) (by kernel_rfl) (f553v0LS k) ((f553v0E k x).trans h)
/-! ## (*midrange/save.writer).flag, handed what it may write -/
noncomputable def f555v0I : Shape := ⟨[(0, .one (.ptr 0 0)), (1, .one (.bool))], [(0, .var 106 [.own 1]), (1, .row 5 (.int .u8) .plain)], 2, []⟩
noncomputable def f555v0U : Shape := ⟨[], [(0, .var 106 [.own 2]), (2, .row 5 (.int .u8) .plain)], 3, []⟩
noncomputable def f555v0T (k : Nat) : Table := [(52, entG f552v0I f552v0U (f552v0F k))]
theorem f555v0TS (k : Nat) : Sound P (f555v0T k) := (Sound.nil).consE f552B (entG_ok (f552v0Ok k))
theorem f555B : HasBody P 55 := ⟨Tryz.f55, Tryz.func55, by kernel_rfl, by kernel_rfl⟩
noncomputable def f555v0F (k : Nat) (x : Bool × List Int × Unit) : Option (List Int × Unit) :=
  bif x.1 then
    Option.bind (f552v0F k ([(1 : Int)], x.2.1, ())) fun y1 =>
    some (y1.2.1, ())
  else
  Option.bind (f552v0F k ([(0 : Int)], x.2.1, ())) fun y2 =>
  some (y2.2.1, ())
noncomputable def f555v0L (k : Nat) : Sums := []
theorem f555v0LS (k : Nat) : SumsOk P Tryz.f55.ntmps (f555v0L k) (codeOf Tryz.f55) 1 := SumsOk.nil
theorem f555v0E (k : Nat) (x : f555v0I.Den) : evG tab (f555v0T k) (f555v0L k) Tryz.f55.ntmps Tryz.f55.results.toList (codeOf Tryz.f55) f555v0I x [] [1] f555v0U none = f555v0F k x := by kernel_rfl
theorem f555v0Ok (k : Nat) (x : f555v0I.Den) (y : f555v0U.Den) (h : f555v0F k x = some y) : GnOk P 55 f555v0I f555v0U x y :=
  evG_sound tabOk (f555v0TS k) mixed Tryz.func55 (c := codeOf Tryz.f55) (by kernel_rfl) (f555v0LS k) ((f555v0E k x).trans h)
/-! ## (*midrange/save.writer).shape, handed what it may write -/
noncomputable def f554v0I : Shape := ⟨[(0, .one (.ptr 0 0)), (1, .agg [.str, .str, .ro Y1, .ro (.pair .str .bool), .bool])], [(0, .var 106 [.own 1]), (1, .row 5 (.int .u8) .plain)], 2, []⟩
noncomputable def f554v0U : Shape := ⟨[], [(0, .var 106 [.own 2]), (2, .row 5 (.int .u8) .plain)], 3, []⟩
noncomputable def f554v0T (k : Nat) : Table := [(52, entG f552v0I f552v0U (f552v0F k)), (53, entG f553v0I f553v0U (f553v0F k)), (55, entG f555v0I f555v0U (f555v0F k))]
theorem f554v0TS (k : Nat) : Sound P (f554v0T k) := (((Sound.nil).consE f555B (entG_ok (f555v0Ok k))).consE f553B (entG_ok (f553v0Ok k))).consE f552B (entG_ok (f552v0Ok k))
theorem f554B : HasBody P 54 := ⟨Tryz.f54, Tryz.func54, by kernel_rfl, by kernel_rfl⟩
noncomputable def f554v0l0H : Shape := ⟨[(0, .one (.ptr 0 0)), (3, .one (.ptr 1 0)), (17, .one (.ro Y1)), (18, .one (.int .i64)), (19, .one (.int .i64))], [(0, .var 106 [.own 2]), (1, .var 49 [.str, .str, .ro Y1, .ro (.pair .str .bool), .bool]), (2, .row 5 (.int .u8) .plain)], 3, [some 0, none]⟩
noncomputable def f554v0l0X0 : Shape := ⟨[(0, .one (.ptr 0 0)), (3, .one (.ptr 1 0))], [(0, .var 106 [.own 2]), (1, .var 49 [.str, .str, .ro Y1, .ro (.pair .str .bool), .bool]), (2, .row 5 (.int .u8) .plain)], 3, [some 0, none]⟩
noncomputable def f554v0l0N : NoteR := ⟨[0, 3, 17, 18, 19], [], []⟩
noncomputable def f554v0l0M : NoteR := ⟨[0, 3], [], []⟩
noncomputable def f554v0l0C : Code := firstC (codesAt 58 (codeOf Tryz.f54) 1)
noncomputable def f554v0l0s {R : Type} (k : Nat) (rec : D42 → Option R) (k0 : D41 → Option R) (v : D42) : Option R :=
  bif (decide (v.2.2.1 < v.2.1)) then
    bif ((decide ((0 : Int) ≤ v.2.2.1)) && (decide (v.2.2.1 < (v.1.length : Int)))) then
    let t2 := (v.1.getD (Int.toNat v.2.2.1) (ByteArray.empty, ((0 : Int), ((0 : Int), (0 : Int)))))
    Option.bind (f553v0F k (t2.1, v.2.2.2.2.2.2.2.2.1, ())) fun y3 =>
    Option.bind (f552v0F k ([t2.2.1, t2.2.2.1, t2.2.2.2], y3.1, ())) fun y4 =>
    rec (v.1, v.2.1, (IntKind.i64.wrap (v.2.2.1 + (1 : Int))), v.2.2.2.1, v.2.2.2.2.1, v.2.2.2.2.2.1, v.2.2.2.2.2.2.1, v.2.2.2.2.2.2.2.1, y4.2.1, ())
    else none
  else
  k0 (v.2.2.2.1, v.2.2.2.2.1, v.2.2.2.2.2.1, v.2.2.2.2.2.2.1, v.2.2.2.2.2.2.2.1, v.2.2.2.2.2.2.2.2.1, ())
noncomputable def f554v0l0 {R : Type} (k : Nat) (k0 : D41 → Option R) (v : D42) : Option R := iterS (fun rec v => f554v0l0s k rec k0 v) k v
noncomputable def f554v0l0S (k : Nat) : Sum1 := loopSum f554v0l0H f554v0l0N k (fun R rec K v => f554v0l0s k rec (fun w => K (.exit 0) (encSt f554v0l0X0 w)) v)
theorem f554v0l0E (k : Nat) (R : Type) (rec : St → Option R) (K : X → St → Option R) (v : f554v0l0H.Den) : evS tab (f554v0T k) Tryz.f54.ntmps [] (bodyOf f554v0l0C) 116 (bodyK f554v0l0N f554v0l0M rec K) (encSt f554v0l0H v) = f554v0l0s k (fun v => rec (encSt f554v0l0H v)) (fun w => K (.exit 0) (encSt f554v0l0X0 w)) v := by kernel_rfl
theorem f554v0l0I (k : Nat) : SumsOk P Tryz.f54.ntmps [] (bodyOf f554v0l0C) 116 := SumsOk.nil
theorem f554v0l0O (k : Nat) : SumOk P Tryz.f54.ntmps f554v0l0C (f554v0l0S k) := (show f554v0l0C = .loop (bodyOf f554v0l0C) by kernel_rfl) ▸ sum_loop tabOk (f554v0TS k) mixed (f554v0l0I k) (f554v0l0E k)
noncomputable def f554v0l1H : Shape := ⟨[(0, .one (.ptr 0 0)), (47, .one (.ro (.pair .str .bool))), (48, .one (.int .i64)), (49, .one (.int .i64))], [(0, .var 106 [.own 1]), (1, .row 5 (.int .u8) .plain)], 2, [some 0, none]⟩
noncomputable def f554v0l1X0 : Shape := ⟨[], [(0, .var 106 [.own 1]), (1, .row 5 (.int .u8) .plain)], 2, [some 0, none]⟩
noncomputable def f554v0l1N : NoteR := ⟨[0, 47, 48, 49], [], []⟩
noncomputable def f554v0l1M : NoteR := ⟨[], [], []⟩
noncomputable def f554v0l1C : Code := firstC (codesAt 126 (codeOf Tryz.f54) 1)
noncomputable def f554v0l1s {R : Type} (k : Nat) (rec : D43 → Option R) (k0 : List Int × Unit → Option R) (v : D43) : Option R :=
  bif (decide (v.2.2.1 < v.2.1)) then
    bif ((decide ((0 : Int) ≤ v.2.2.1)) && (decide (v.2.2.1 < (v.1.length : Int)))) then
    Option.bind (f553v0F k ((v.1.getD (Int.toNat v.2.2.1) (ByteArray.empty, false)).1, v.2.2.2.1, ())) fun y7 =>
    Option.bind (f555v0F k ((v.1.getD (Int.toNat v.2.2.1) (ByteArray.empty, false)).2, y7.1, ())) fun y8 =>
    rec (v.1, v.2.1, (IntKind.i64.wrap (v.2.2.1 + (1 : Int))), y8.1, ())
    else none
  else
  k0 (v.2.2.2.1, ())
noncomputable def f554v0l1 {R : Type} (k : Nat) (k0 : List Int × Unit → Option R) (v : D43) : Option R := iterS (fun rec v => f554v0l1s k rec k0 v) k v
noncomputable def f554v0l1S (k : Nat) : Sum1 := loopSum f554v0l1H f554v0l1N k (fun R rec K v => f554v0l1s k rec (fun w => K (.exit 2) (encSt f554v0l1X0 w)) v)
theorem f554v0l1E (k : Nat) (R : Type) (rec : St → Option R) (K : X → St → Option R) (v : f554v0l1H.Den) : evS tab (f554v0T k) Tryz.f54.ntmps [] (bodyOf f554v0l1C) 252 (bodyK f554v0l1N f554v0l1M rec K) (encSt f554v0l1H v) = f554v0l1s k (fun v => rec (encSt f554v0l1H v)) (fun w => K (.exit 2) (encSt f554v0l1X0 w)) v := by kernel_rfl
theorem f554v0l1I (k : Nat) : SumsOk P Tryz.f54.ntmps [] (bodyOf f554v0l1C) 252 := SumsOk.nil
theorem f554v0l1O (k : Nat) : SumOk P Tryz.f54.ntmps f554v0l1C (f554v0l1S k) := (show f554v0l1C = .loop (bodyOf f554v0l1C) by kernel_rfl) ▸ sum_loop tabOk (f554v0TS k) mixed (f554v0l1I k) (f554v0l1E k)
noncomputable def f554v0F (k : Nat) (x : D41) : Option (List Int × Unit) :=
  Option.bind (f552v0F k ([(x.2.2.1.length : Int)], x.2.2.2.2.2.1, ())) fun y1 =>
  f554v0l0 k
    (fun (w5 : D41) =>
      Option.bind (f552v0F k ([(w5.2.2.2.1.length : Int)], w5.2.2.2.2.2.1, ())) fun y6 =>
      f554v0l1 k
        (fun (w9 : List Int × Unit) =>
          some (w9.1, ()))
        (w5.2.2.2.1, (w5.2.2.2.1.length : Int), (0 : Int), y6.2.1, ()))
    (x.2.2.1, (x.2.2.1.length : Int), (0 : Int), x.1, x.2.1, x.2.2.1, x.2.2.2.1, x.2.2.2.2.1, y1.2.1, ())
noncomputable def f554v0L (k : Nat) : Sums := [(58, f554v0l0S k), (126, f554v0l1S k)]
theorem f554v0LS (k : Nat) : SumsOk P Tryz.f54.ntmps (f554v0L k) (codeOf Tryz.f54) 1 := ((SumsOk.nil).cons (c := f554v0l1C) (by kernel_rfl) (f554v0l1O k)).cons (c := f554v0l0C) (by kernel_rfl) (f554v0l0O k)
theorem f554v0E (k : Nat) (x : f554v0I.Den) : evG tab (f554v0T k) (f554v0L k) Tryz.f54.ntmps Tryz.f54.results.toList (codeOf Tryz.f54) f554v0I x [] [1] f554v0U none = f554v0F k x := by kernel_rfl
theorem f554v0Ok (k : Nat) (x : f554v0I.Den) (y : f554v0U.Den) (h : f554v0F k x = some y) : GnOk P 54 f554v0I f554v0U x y :=
  evG_sound tabOk (f554v0TS k) mixed Tryz.func54 (c := codeOf Tryz.f54) (by kernel_rfl) (f554v0LS k) ((f554v0E k x).trans h)
/-! ## midrange/save.StreamOf -/
noncomputable def f517T (k : Nat) : Table := [(15, f515A k), (52, entG f552v0I f552v0U (f552v0F k)), (53, entG f553v0I f553v0U (f553v0F k)), (54, entG f554v0I f554v0U (f554v0F k)), (55, entG f555v0I f555v0U (f555v0F k))]
theorem f517TS (k : Nat) : Sound P (f517T k) := (((((Sound.nil).consE f555B (entG_ok (f555v0Ok k))).consE f554B (entG_ok (f554v0Ok k))).consE f553B (entG_ok (f553v0Ok k))).consE f552B (entG_ok (f552v0Ok k))).consE f515B (f515Ao k)
theorem f517B : HasBody P 17 := ⟨Tryz.f17, Tryz.func17, by kernel_rfl, by kernel_rfl⟩
noncomputable def f517l0H : Shape := ⟨[(6, .one (.ptr 0 0)), (26, .one (.ro Y6)), (27, .one (.int .i64)), (28, .one (.int .i64)), (59, .one (.ro (.pair .bool .str))), (60, .one (.int .i64)), (61, .one (.int .i64))], [(0, .var 106 [.own 1]), (1, .row 5 (.int .u8) .plain)], 2, []⟩
noncomputable def f517l0X0 : Shape := ⟨[(6, .one (.ptr 0 0)), (26, .one (.ro Y6)), (27, .one (.int .i64)), (28, .one (.int .i64))], [(0, .var 106 [.own 1]), (1, .row 5 (.int .u8) .plain)], 2, []⟩
noncomputable def f517l0N : NoteR := ⟨[6, 26, 27, 28, 59, 60, 61], [], []⟩
noncomputable def f517l0M : NoteR := ⟨[2, 3, 6, 26, 27, 28], [], []⟩
noncomputable def f517l0C : Code := firstC (codesAt 2051326 (codeOf Tryz.f17) 1)
noncomputable def f517l0s {R : Type} (k : Nat) (rec : D45 → Option R) (k0 : D44 → Option R) (v : D45) : Option R :=
  bif (decide (v.2.2.2.2.2.1 < v.2.2.2.2.1)) then
    bif ((decide ((0 : Int) ≤ v.2.2.2.2.2.1)) && (decide (v.2.2.2.2.2.1 < (v.2.2.2.1.length : Int)))) then
    let t9 := (!(v.2.2.2.1.getD (Int.toNat v.2.2.2.2.2.1) (false, ByteArray.empty)).1)
    Option.bind (f555v0F k (t9, v.2.2.2.2.2.2.1, ())) fun y10 =>
    bif (decide ((y10.1.length + (bytesOf (v.2.2.2.1.getD (Int.toNat v.2.2.2.2.2.1) (false, ByteArray.empty)).2).length) * 1 ≤ 140737488355328) && decide (y10.1.length + (bytesOf (v.2.2.2.1.getD (Int.toNat v.2.2.2.2.2.1) (false, ByteArray.empty)).2).length ≤ 9223372036854775807)) then
    let t11 := (y10.1 ++ (bytesOf (v.2.2.2.1.getD (Int.toNat v.2.2.2.2.2.1) (false, ByteArray.empty)).2))
    rec (v.1, v.2.1, v.2.2.1, v.2.2.2.1, v.2.2.2.2.1, (IntKind.i64.wrap (v.2.2.2.2.2.1 + (1 : Int))), t11, ())
    else none
    else none
  else
  k0 (v.1, v.2.1, v.2.2.1, v.2.2.2.2.2.2.1, ())
noncomputable def f517l0 {R : Type} (k : Nat) (k0 : D44 → Option R) (v : D45) : Option R := iterS (fun rec v => f517l0s k rec k0 v) k v
noncomputable def f517l0S (k : Nat) : Sum1 := loopSum f517l0H f517l0N k (fun R rec K v => f517l0s k rec (fun w => K (.exit 2) (encSt f517l0X0 w)) v)
theorem f517l0E (k : Nat) (R : Type) (rec : St → Option R) (K : X → St → Option R) (v : f517l0H.Den) : evS tab (f517T k) Tryz.f17.ntmps [] (bodyOf f517l0C) 4102652 (bodyK f517l0N f517l0M rec K) (encSt f517l0H v) = f517l0s k (fun v => rec (encSt f517l0H v)) (fun w => K (.exit 2) (encSt f517l0X0 w)) v := by kernel_rfl
theorem f517l0I (k : Nat) : SumsOk P Tryz.f17.ntmps [] (bodyOf f517l0C) 4102652 := SumsOk.nil
theorem f517l0O (k : Nat) : SumOk P Tryz.f17.ntmps f517l0C (f517l0S k) := (show f517l0C = .loop (bodyOf f517l0C) by kernel_rfl) ▸ sum_loop tabOk (f517TS k) mixed (f517l0I k) (f517l0E k)
noncomputable def f517l1H : Shape := ⟨[(6, .one (.ptr 0 0)), (26, .one (.ro Y6)), (27, .one (.int .i64)), (28, .one (.int .i64))], [(0, .var 106 [.own 1]), (1, .row 5 (.int .u8) .plain)], 2, []⟩
noncomputable def f517l1X0 : Shape := ⟨[(6, .one (.ptr 0 0))], [(0, .var 106 [.own 1]), (1, .row 5 (.int .u8) .plain)], 2, []⟩
noncomputable def f517l1N : NoteR := ⟨[6, 26, 27, 28], [], []⟩
noncomputable def f517l1M : NoteR := ⟨[2, 3, 6], [], []⟩
noncomputable def f517l1C : Code := firstC (codesAt 250 (codeOf Tryz.f17) 1)
noncomputable def f517l1s {R : Type} (k : Nat) (rec : D44 → Option R) (k0 : List Int × Unit → Option R) (v : D44) : Option R :=
  bif (decide (v.2.2.1 < v.2.1)) then
    bif ((decide ((0 : Int) ≤ v.2.2.1)) && (decide (v.2.2.1 < (v.1.length : Int)))) then
    let t3 := (v.1.getD (Int.toNat v.2.2.1) ((ByteArray.empty, ((ByteArray.empty, []), ([], false))), []))
    Option.bind (f553v0F k (t3.1.1, v.2.2.2.1, ())) fun y4 =>
    Option.bind (f553v0F k (t3.1.2.1.1, y4.1, ())) fun y5 =>
    Option.bind (f554v0F k (t3.1.1, t3.1.2.1.1, t3.1.2.1.2, t3.1.2.2.1, t3.1.2.2.2, y5.1, ())) fun y6 =>
    Option.bind (f555v0F k (t3.1.2.2.2, y6.1, ())) fun y7 =>
    Option.bind (f552v0F k ([(t3.2.length : Int)], y7.1, ())) fun y8 =>
    f517l0 k
      (fun (w12 : D44) =>
        rec (w12.1, w12.2.1, (IntKind.i64.wrap (w12.2.2.1 + (1 : Int))), w12.2.2.2.1, ()))
      (v.1, v.2.1, v.2.2.1, t3.2, (t3.2.length : Int), (0 : Int), y8.2.1, ())
    else none
  else
  k0 (v.2.2.2.1, ())
noncomputable def f517l1 {R : Type} (k : Nat) (k0 : List Int × Unit → Option R) (v : D44) : Option R := iterS (fun rec v => f517l1s k rec k0 v) k v
noncomputable def f517l1S (k : Nat) : Sum1 := loopSum f517l1H f517l1N k (fun R rec K v => f517l1s k rec (fun w => K (.exit 0) (encSt f517l1X0 w)) v)
theorem f517l1E (k : Nat) (R : Type) (rec : St → Option R) (K : X → St → Option R) (v : f517l1H.Den) : evS tab (f517T k) Tryz.f17.ntmps [(2051326, f517l0S k)] (bodyOf f517l1C) 500 (bodyK f517l1N f517l1M rec K) (encSt f517l1H v) = f517l1s k (fun v => rec (encSt f517l1H v)) (fun w => K (.exit 0) (encSt f517l1X0 w)) v := by kernel_rfl
theorem f517l1I (k : Nat) : SumsOk P Tryz.f17.ntmps [(2051326, f517l0S k)] (bodyOf f517l1C) 500 := (SumsOk.nil).cons (c := f517l0C) (by kernel_rfl) (f517l0O k)
theorem f517l1O (k : Nat) : SumOk P Tryz.f17.ntmps f517l1C (f517l1S k) := (show f517l1C = .loop (bodyOf f517l1C) by kernel_rfl) ▸ sum_loop tabOk (f517TS k) mixed (f517l1I k) (f517l1E k)
noncomputable def f517F (k : Nat) (x : (List D34)) : Option (ByteArray × Int) :=
  Option.bind (f515F k x) fun y1 =>
  bif (y1.2 != (0 : Int)) then
    some (ByteArray.empty, y1.2)
  else
  Option.bind (f552v0F k ([(x.length : Int)], [], ())) fun y2 =>
  f517l1 k
    (fun (w13 : List Int × Unit) =>
      some ((strOfNums w13.1), (0 : Int)))
    (x, (x.length : Int), (0 : Int), y2.2.1, ())
noncomputable def f517L (k : Nat) : Sums := [(2051326, f517l0S k), (250, f517l1S k)]
theorem f517LS (k : Nat) : SumsOk P Tryz.f17.ntmps (f517L k) (codeOf Tryz.f17) 1 := ((SumsOk.nil).cons (c := f517l1C) (by kernel_rfl) (f517l1O k)).cons (c := f517l0C) (by kernel_rfl) (f517l0O k)
theorem f517E (k : Nat) (x : (List D34)) : evFS tab (f517T k) (f517L k) Tryz.f17.ntmps Tryz.f17.results.toList (codeOf Tryz.f17) (argsV [.dat (.slice Y6)] x) [.dat .str, .dat (.int .i64)] none = f517F k x := by kernel_rfl
theorem f517Ok (k : Nat) (x : (List D34)) (y : ByteArray × Int) (h : f517F k x = some y) : FnOk P 17 [.dat (.slice Y6)] [.dat .str, .dat (.int .i64)] x y :=
  evFS_sound tabOk (f517TS k) mixed Tryz.func17 (c := codeOf Tryz.f17) (by kernel_rfl) (f517LS k) ((f517E k x).trans h)
noncomputable def f517A (k : Nat) := entFnB [.dat (.slice Y6)] [.dat .str, .dat (.int .i64)] (f517F k)
theorem f517Ao (k : Nat) : EntOk P 17 (f517A k) := entFnB_ok (f517Ok k)
noncomputable def f636A (k : Nat) := entFnB [.dat .str, .dat (.int .u8)] [.dat (.int .i64)] (f636F k)
theorem f636Ao (k : Nat) : EntOk P 136 (f636A k) := entFnB_ok (f636Ok k)
/-! ## midrange/save.isName -/
noncomputable def f602T (k : Nat) : Table := [(136, f636A k)]
theorem f602TS (k : Nat) : Sound P (f602T k) := (Sound.nil).consE f636B (f636Ao k)
theorem f602B : HasBody P 102 := ⟨Tryz.f102, Tryz.func102, by kernel_rfl, by kernel_rfl⟩
noncomputable def f602p0H : Shape := ⟨[(0, .one (.str)), (13, .one (.int .i64)), (14, .one (.int .i64))], [], 0, []⟩
noncomputable def f602p0X0 : Shape := ⟨[(0, .one (.str)), (13, .one (.int .i64)), (14, .one (.int .i64))], [], 0, []⟩
noncomputable def f602p0X1 : Shape := ⟨[(0, .one (.str)), (2, .one (.bool)), (13, .one (.int .i64)), (14, .one (.int .i64))], [], 0, []⟩
noncomputable def f602p0N : NoteR := ⟨[0, 13, 14], [], []⟩
noncomputable def f602p0M : NoteR := ⟨[0, 2, 13, 14], [], []⟩
noncomputable def f602p0C : Code := firstC (codesAt 934 (codeOf Tryz.f102) 1)
noncomputable def f602p0 {R : Type} (k : Nat) (k0 : D46 → Option R) (k1 : D47 → Option R) (v : D46) : Option R :=
  bif ((decide ((0 : Int) ≤ v.2.2.1)) && (decide (v.2.2.1 < (v.1.size : Int)))) then
  bif (decide ((bt v.1 v.2.2.1) ≥ (65 : Int))) then
    bif ((decide ((0 : Int) ≤ v.2.2.1)) && (decide (v.2.2.1 < (v.1.size : Int)))) then
    bif (decide ((bt v.1 v.2.2.1) ≤ (90 : Int))) then
      k0 (v.1, v.2.1, v.2.2.1, ())
    else
    bif ((decide ((0 : Int) ≤ v.2.2.1)) && (decide (v.2.2.1 < (v.1.size : Int)))) then
    Option.bind (f636F k ((⟨#[36, 35, 64]⟩ : ByteArray), (bt v.1 v.2.2.1))) fun y1 =>
    bif (!(decide (y1 ≥ (0 : Int)))) then
      bif (v.2.2.1 == (0 : Int)) then
        k1 (v.1, false, v.2.1, v.2.2.1, ())
      else
      bif ((decide ((0 : Int) ≤ v.2.2.1)) && (decide (v.2.2.1 < (v.1.size : Int)))) then
      bif (decide ((bt v.1 v.2.2.1) < (48 : Int))) then
        bif ((decide ((0 : Int) ≤ v.2.2.1)) && (decide (v.2.2.1 < (v.1.size : Int)))) then
        bif ((bt v.1 v.2.2.1) != (95 : Int)) then
          bif ((decide ((0 : Int) ≤ v.2.2.1)) && (decide (v.2.2.1 < (v.1.size : Int)))) then
          bif ((bt v.1 v.2.2.1) != (46 : Int)) then
            k1 (v.1, false, v.2.1, v.2.2.1, ())
          else
          k0 (v.1, v.2.1, v.2.2.1, ())
          else none
        else
        k0 (v.1, v.2.1, v.2.2.1, ())
        else none
      else
      bif ((decide ((0 : Int) ≤ v.2.2.1)) && (decide (v.2.2.1 < (v.1.size : Int)))) then
      bif (decide ((bt v.1 v.2.2.1) > (57 : Int))) then
        bif ((decide ((0 : Int) ≤ v.2.2.1)) && (decide (v.2.2.1 < (v.1.size : Int)))) then
        bif ((bt v.1 v.2.2.1) != (95 : Int)) then
          bif ((decide ((0 : Int) ≤ v.2.2.1)) && (decide (v.2.2.1 < (v.1.size : Int)))) then
          bif ((bt v.1 v.2.2.1) != (46 : Int)) then
            k1 (v.1, false, v.2.1, v.2.2.1, ())
          else
          k0 (v.1, v.2.1, v.2.2.1, ())
          else none
        else
        k0 (v.1, v.2.1, v.2.2.1, ())
        else none
      else
      k0 (v.1, v.2.1, v.2.2.1, ())
      else none
      else none
    else
    k0 (v.1, v.2.1, v.2.2.1, ())
    else none
    else none
  else
  bif ((decide ((0 : Int) ≤ v.2.2.1)) && (decide (v.2.2.1 < (v.1.size : Int)))) then
  Option.bind (f636F k ((⟨#[36, 35, 64]⟩ : ByteArray), (bt v.1 v.2.2.1))) fun y2 =>
  bif (!(decide (y2 ≥ (0 : Int)))) then
    bif (v.2.2.1 == (0 : Int)) then
      k1 (v.1, false, v.2.1, v.2.2.1, ())
    else
    bif ((decide ((0 : Int) ≤ v.2.2.1)) && (decide (v.2.2.1 < (v.1.size : Int)))) then
    bif (decide ((bt v.1 v.2.2.1) < (48 : Int))) then
      bif ((decide ((0 : Int) ≤ v.2.2.1)) && (decide (v.2.2.1 < (v.1.size : Int)))) then
      bif ((bt v.1 v.2.2.1) != (95 : Int)) then
        bif ((decide ((0 : Int) ≤ v.2.2.1)) && (decide (v.2.2.1 < (v.1.size : Int)))) then
        bif ((bt v.1 v.2.2.1) != (46 : Int)) then
          k1 (v.1, false, v.2.1, v.2.2.1, ())
        else
        k0 (v.1, v.2.1, v.2.2.1, ())
        else none
      else
      k0 (v.1, v.2.1, v.2.2.1, ())
      else none
    else
    bif ((decide ((0 : Int) ≤ v.2.2.1)) && (decide (v.2.2.1 < (v.1.size : Int)))) then
    bif (decide ((bt v.1 v.2.2.1) > (57 : Int))) then
      bif ((decide ((0 : Int) ≤ v.2.2.1)) && (decide (v.2.2.1 < (v.1.size : Int)))) then
      bif ((bt v.1 v.2.2.1) != (95 : Int)) then
        bif ((decide ((0 : Int) ≤ v.2.2.1)) && (decide (v.2.2.1 < (v.1.size : Int)))) then
        bif ((bt v.1 v.2.2.1) != (46 : Int)) then
          k1 (v.1, false, v.2.1, v.2.2.1, ())
        else
        k0 (v.1, v.2.1, v.2.2.1, ())
        else none
      else
      k0 (v.1, v.2.1, v.2.2.1, ())
      else none
    else
    k0 (v.1, v.2.1, v.2.2.1, ())
    else none
    else none
  else
  k0 (v.1, v.2.1, v.2.2.1, ())
  else none
  else none
noncomputable def f602p0S (k : Nat) : Sum1 := partSum f602p0H f602p0N (fun R K v => f602p0 k (fun w => K .normal (encSt f602p0X0 w)) (fun w => K .ret (encSt f602p0X1 w)) v)
theorem f602p0E (k : Nat) (R : Type) (K : X → St → Option R) (v : f602p0H.Den) : evS tab (f602T k) Tryz.f102.ntmps [] f602p0C 934 (partK f602p0M K) (encSt f602p0H v) = f602p0 k (fun w => K .normal (encSt f602p0X0 w)) (fun w => K .ret (encSt f602p0X1 w)) v := by kernel_rfl
theorem f602p0I (k : Nat) : SumsOk P Tryz.f102.ntmps [] f602p0C 934 := SumsOk.nil
theorem f602p0O (k : Nat) : SumOk P Tryz.f102.ntmps f602p0C (f602p0S k) := sum_part tabOk (f602TS k) mixed (f602p0I k) (f602p0E k)
noncomputable def f602l1H : Shape := ⟨[(0, .one (.str)), (13, .one (.int .i64)), (14, .one (.int .i64))], [], 0, []⟩
noncomputable def f602l1X0 : Shape := ⟨[(2, .one (.bool))], [], 0, []⟩
noncomputable def f602l1X1 : Shape := ⟨[], [], 0, []⟩
noncomputable def f602l1N : NoteR := ⟨[0, 13, 14], [], []⟩
noncomputable def f602l1M : NoteR := ⟨[2], [], []⟩
noncomputable def f602l1C : Code := firstC (codesAt 58 (codeOf Tryz.f102) 1)
noncomputable def f602l1s {R : Type} (k : Nat) (rec : D46 → Option R) (k0 : Bool × Unit → Option R) (k1 : Unit → Option R) (v : D46) : Option R :=
  bif (decide (v.2.2.1 < v.2.1)) then
    f602p0 k
      (fun (w3 : D46) =>
        rec (w3.1, w3.2.1, (IntKind.i64.wrap (w3.2.2.1 + (1 : Int))), ()))
      (fun (w4 : D47) =>
        k0 (w4.2.1, ()))
      (v.1, v.2.1, v.2.2.1, ())
  else
  k1 (())
noncomputable def f602l1 {R : Type} (k : Nat) (k0 : Bool × Unit → Option R) (k1 : Unit → Option R) (v : D46) : Option R := iterS (fun rec v => f602l1s k rec k0 k1 v) k v
noncomputable def f602l1S (k : Nat) : Sum1 := loopSum f602l1H f602l1N k (fun R rec K v => f602l1s k rec (fun w => K .ret (encSt f602l1X0 w)) (fun w => K (.exit 0) (encSt f602l1X1 w)) v)
theorem f602l1E (k : Nat) (R : Type) (rec : St → Option R) (K : X → St → Option R) (v : f602l1H.Den) : evS tab (f602T k) Tryz.f102.ntmps [(934, f602p0S k)] (bodyOf f602l1C) 116 (bodyK f602l1N f602l1M rec K) (encSt f602l1H v) = f602l1s k (fun v => rec (encSt f602l1H v)) (fun w => K .ret (encSt f602l1X0 w)) (fun w => K (.exit 0) (encSt f602l1X1 w)) v := by kernel_rfl
theorem f602l1I (k : Nat) : SumsOk P Tryz.f102.ntmps [(934, f602p0S k)] (bodyOf f602l1C) 116 := (SumsOk.nil).cons (c := f602p0C) (by kernel_rfl) (f602p0O k)
theorem f602l1O (k : Nat) : SumOk P Tryz.f102.ntmps f602l1C (f602l1S k) := (show f602l1C = .loop (bodyOf f602l1C) by kernel_rfl) ▸ sum_loop tabOk (f602TS k) mixed (f602l1I k) (f602l1E k)
noncomputable def f602F (k : Nat) (x : ByteArray) : Option (Bool) :=
  bif (strEq x ByteArray.empty) then
    some false
  else
  bif (decide ((x.size : Int) > (10 : Int))) then
    some false
  else
  f602l1 k
    (fun (w5 : Bool × Unit) =>
      some w5.1)
    (fun (w6 : Unit) =>
      some true)
    (x, (x.size : Int), (0 : Int), ())
noncomputable def f602L (k : Nat) : Sums := [(934, f602p0S k), (58, f602l1S k)]
theorem f602LS (k : Nat) : SumsOk P Tryz.f102.ntmps (f602L k) (codeOf Tryz.f102) 1 := ((SumsOk.nil).cons (c := f602l1C) (by kernel_rfl) (f602l1O k)).cons (c := f602p0C) (by kernel_rfl) (f602p0O k)
theorem f602E (k : Nat) (x : ByteArray) : evFS tab (f602T k) (f602L k) Tryz.f102.ntmps Tryz.f102.results.toList (codeOf Tryz.f102) (argsV [.dat .str] x) [.dat .bool] none = f602F k x := by kernel_rfl
theorem f602Ok (k : Nat) (x : ByteArray) (y : Bool) (h : f602F k x = some y) : FnOk P 102 [.dat .str] [.dat .bool] x y :=
  evFS_sound tabOk (f602TS k) mixed Tryz.func102 (c := codeOf Tryz.f102) (by kernel_rfl) (f602LS k) ((f602E k x).trans h)
noncomputable def f602A (k : Nat) := entFnB [.dat .str] [.dat .bool] (f602F k)
theorem f602Ao (k : Nat) : EntOk P 102 (f602A k) := entFnB_ok (f602Ok k)
/-! ## slices.Index[[]string,string] -/
noncomputable def f625T (k : Nat) : Table := []
theorem f625TS (k : Nat) : Sound P (f625T k) := Sound.nil
theorem f625B : HasBody P 125 := ⟨Tryz.f125, Tryz.func125, by kernel_rfl, by kernel_rfl⟩
noncomputable def f625l0H : Shape := ⟨[(0, .one (.ro .str)), (1, .one (.str)), (7, .one (.int .i64)), (8, .one (.int .i64))], [], 0, []⟩
noncomputable def f625l0X0 : Shape := ⟨[(4, .one (.int .i64))], [], 0, []⟩
noncomputable def f625l0X1 : Shape := ⟨[], [], 0, []⟩
noncomputable def f625l0N : NoteR := ⟨[0, 1, 7, 8], [], []⟩
noncomputable def f625l0M : NoteR := ⟨[4], [], []⟩
noncomputable def f625l0C : Code := firstC (codesAt 26 (codeOf Tryz.f125) 1)
noncomputable def f625l0s {R : Type} (k : Nat) (rec : D48 → Option R) (k0 : Int × Unit → Option R) (k1 : Unit → Option R) (v : D48) : Option R :=
  bif (decide (v.2.2.2.1 < v.2.2.1)) then
    bif ((decide ((0 : Int) ≤ v.2.2.2.1)) && (decide (v.2.2.2.1 < (v.1.length : Int)))) then
    bif (strEq v.2.1 (v.1.getD (Int.toNat v.2.2.2.1) ByteArray.empty)) then
      k0 (v.2.2.2.1, ())
    else
    rec (v.1, v.2.1, v.2.2.1, (IntKind.i64.wrap (v.2.2.2.1 + (1 : Int))), ())
    else none
  else
  k1 (())
noncomputable def f625l0 {R : Type} (k : Nat) (k0 : Int × Unit → Option R) (k1 : Unit → Option R) (v : D48) : Option R := iterS (fun rec v => f625l0s k rec k0 k1 v) k v
noncomputable def f625l0S (k : Nat) : Sum1 := loopSum f625l0H f625l0N k (fun R rec K v => f625l0s k rec (fun w => K .ret (encSt f625l0X0 w)) (fun w => K (.exit 0) (encSt f625l0X1 w)) v)
theorem f625l0E (k : Nat) (R : Type) (rec : St → Option R) (K : X → St → Option R) (v : f625l0H.Den) : evS tab (f625T k) Tryz.f125.ntmps [] (bodyOf f625l0C) 52 (bodyK f625l0N f625l0M rec K) (encSt f625l0H v) = f625l0s k (fun v => rec (encSt f625l0H v)) (fun w => K .ret (encSt f625l0X0 w)) (fun w => K (.exit 0) (encSt f625l0X1 w)) v := by kernel_rfl
theorem f625l0I (k : Nat) : SumsOk P Tryz.f125.ntmps [] (bodyOf f625l0C) 52 := SumsOk.nil
theorem f625l0O (k : Nat) : SumOk P Tryz.f125.ntmps f625l0C (f625l0S k) := (show f625l0C = .loop (bodyOf f625l0C) by kernel_rfl) ▸ sum_loop tabOk (f625TS k) mixed (f625l0I k) (f625l0E k)
noncomputable def f625F (k : Nat) (x : D49) : Option (Int) :=
  f625l0 k
    (fun (w1 : Int × Unit) =>
      some w1.1)
    (fun (w2 : Unit) =>
      some (-1 : Int))
    (x.1, x.2, (x.1.length : Int), (0 : Int), ())
noncomputable def f625L (k : Nat) : Sums := [(26, f625l0S k)]
theorem f625LS (k : Nat) : SumsOk P Tryz.f125.ntmps (f625L k) (codeOf Tryz.f125) 1 := (SumsOk.nil).cons (c := f625l0C) (by kernel_rfl) (f625l0O k)
theorem f625E (k : Nat) (x : D49) : evFS tab (f625T k) (f625L k) Tryz.f125.ntmps Tryz.f125.results.toList (codeOf Tryz.f125) (argsV [.dat (.slice .str), .dat .str] x) [.dat (.int .i64)] none = f625F k x := by kernel_rfl
theorem f625Ok (k : Nat) (x : D49) (y : Int) (h : f625F k x = some y) : FnOk P 125 [.dat (.slice .str), .dat .str] [.dat (.int .i64)] x y :=
  evFS_sound tabOk (f625TS k) mixed Tryz.func125 (c := codeOf Tryz.f125) (by kernel_rfl) (f625LS k) ((f625E k x).trans h)
noncomputable def f625A (k : Nat) := entFnB [.dat (.slice .str), .dat .str] [.dat (.int .i64)] (f625F k)
theorem f625Ao (k : Nat) : EntOk P 125 (f625A k) := entFnB_ok (f625Ok k)
/-! ## slices.Contains[[]string,string] -/
noncomputable def f587T (k : Nat) : Table := [(125, f625A k)]
theorem f587TS (k : Nat) : Sound P (f587T k) := (Sound.nil).consE f625B (f625Ao k)
theorem f587B : HasBody P 87 := ⟨Tryz.f87, Tryz.func87, by kernel_rfl, by kernel_rfl⟩
noncomputable def f587F (k : Nat) (x : D49) : Option (Bool) :=
  Option.bind (f625F k (x.1, x.2)) fun y1 =>
  some (decide (y1 ≥ (0 : Int)))
noncomputable def f587L (k : Nat) : Sums := []
theorem f587LS (k : Nat) : SumsOk P Tryz.f87.ntmps (f587L k) (codeOf Tryz.f87) 1 := SumsOk.nil
theorem f587E (k : Nat) (x : D49) : evFS tab (f587T k) (f587L k) Tryz.f87.ntmps Tryz.f87.results.toList (codeOf Tryz.f87) (argsV [.dat (.slice .str), .dat .str] x) [.dat .bool] none = f587F k x := by kernel_rfl
theorem f587Ok (k : Nat) (x : D49) (y : Bool) (h : f587F k x = some y) : FnOk P 87 [.dat (.slice .str), .dat .str] [.dat .bool] x y :=
  evFS_sound tabOk (f587TS k) mixed Tryz.func87 (c := codeOf Tryz.f87) (by kernel_rfl) (f587LS k) ((f587E k x).trans h)
noncomputable def f587A (k : Nat) := entFnB [.dat (.slice .str), .dat .str] [.dat .bool] (f587F k)
theorem f587Ao (k : Nat) : EntOk P 87 (f587A k) := entFnB_ok (f587Ok k)
/-! ## midrange/save.namesError -/
noncomputable def f560T (k : Nat) : Table := [(87, f587A k), (102, f602A k)]
theorem f560TS (k : Nat) : Sound P (f560T k) := ((Sound.nil).consE f602B (f602Ao k)).consE f587B (f587Ao k)
theorem f560B : HasBody P 60 := ⟨Tryz.f60, Tryz.func60, by kernel_rfl, by kernel_rfl⟩
noncomputable def f560l0H : Shape := ⟨[(0, .one (.ro .str)), (5, .one (.ro .str)), (6, .one (.int .i64)), (7, .one (.int .i64))], [], 0, []⟩
noncomputable def f560l0X0 : Shape := ⟨[(2, .one (.int .i64))], [], 0, []⟩
noncomputable def f560l0X1 : Shape := ⟨[], [], 0, []⟩
noncomputable def f560l0N : NoteR := ⟨[0, 5, 6, 7], [], []⟩
noncomputable def f560l0M : NoteR := ⟨[2], [], []⟩
noncomputable def f560l0C : Code := firstC (codesAt 26 (codeOf Tryz.f60) 1)
noncomputable def f560l0s {R : Type} (k : Nat) (rec : D50 → Option R) (k0 : Int × Unit → Option R) (k1 : Unit → Option R) (v : D50) : Option R :=
  bif (decide (v.2.2.2.1 < v.2.2.1)) then
    bif ((decide ((0 : Int) ≤ v.2.2.2.1)) && (decide (v.2.2.2.1 < (v.2.1.length : Int)))) then
    Option.bind (f602F k (v.2.1.getD (Int.toNat v.2.2.2.1) ByteArray.empty)) fun y1 =>
    bif (!y1) then
      k0 ((7 : Int), ())
    else
    bif (sliceBds (0 : Int) v.2.2.2.1 (v.1.length : Int)) then
    Option.bind (f587F k (((v.1.take (Int.toNat v.2.2.2.1)).drop 0), (v.2.1.getD (Int.toNat v.2.2.2.1) ByteArray.empty))) fun y2 =>
    bif y2 then
      k0 ((13 : Int), ())
    else
    rec (v.1, v.2.1, v.2.2.1, (IntKind.i64.wrap (v.2.2.2.1 + (1 : Int))), ())
    else none
    else none
  else
  k1 (())
noncomputable def f560l0 {R : Type} (k : Nat) (k0 : Int × Unit → Option R) (k1 : Unit → Option R) (v : D50) : Option R := iterS (fun rec v => f560l0s k rec k0 k1 v) k v
noncomputable def f560l0S (k : Nat) : Sum1 := loopSum f560l0H f560l0N k (fun R rec K v => f560l0s k rec (fun w => K .ret (encSt f560l0X0 w)) (fun w => K (.exit 0) (encSt f560l0X1 w)) v)
theorem f560l0E (k : Nat) (R : Type) (rec : St → Option R) (K : X → St → Option R) (v : f560l0H.Den) : evS tab (f560T k) Tryz.f60.ntmps [] (bodyOf f560l0C) 52 (bodyK f560l0N f560l0M rec K) (encSt f560l0H v) = f560l0s k (fun v => rec (encSt f560l0H v)) (fun w => K .ret (encSt f560l0X0 w)) (fun w => K (.exit 0) (encSt f560l0X1 w)) v := by kernel_rfl
theorem f560l0I (k : Nat) : SumsOk P Tryz.f60.ntmps [] (bodyOf f560l0C) 52 := SumsOk.nil
theorem f560l0O (k : Nat) : SumOk P Tryz.f60.ntmps f560l0C (f560l0S k) := (show f560l0C = .loop (bodyOf f560l0C) by kernel_rfl) ▸ sum_loop tabOk (f560TS k) mixed (f560l0I k) (f560l0E k)
noncomputable def f560F (k : Nat) (x : (List ByteArray)) : Option (Int) :=
  f560l0 k
    (fun (w3 : Int × Unit) =>
      some w3.1)
    (fun (w4 : Unit) =>
      some (0 : Int))
    (x, x, (x.length : Int), (0 : Int), ())
noncomputable def f560L (k : Nat) : Sums := [(26, f560l0S k)]
theorem f560LS (k : Nat) : SumsOk P Tryz.f60.ntmps (f560L k) (codeOf Tryz.f60) 1 := (SumsOk.nil).cons (c := f560l0C) (by kernel_rfl) (f560l0O k)
theorem f560E (k : Nat) (x : (List ByteArray)) : evFS tab (f560T k) (f560L k) Tryz.f60.ntmps Tryz.f60.results.toList (codeOf Tryz.f60) (argsV [.dat (.slice .str)] x) [.dat (.int .i64)] none = f560F k x := by kernel_rfl
theorem f560Ok (k : Nat) (x : (List ByteArray)) (y : Int) (h : f560F k x = some y) : FnOk P 60 [.dat (.slice .str)] [.dat (.int .i64)] x y :=
  evFS_sound tabOk (f560TS k) mixed Tryz.func60 (c := codeOf Tryz.f60) (by kernel_rfl) (f560LS k) ((f560E k x).trans h)
noncomputable def f560A (k : Nat) := entFnB [.dat (.slice .str)] [.dat (.int .i64)] (f560F k)
theorem f560Ao (k : Nat) : EntOk P 60 (f560A k) := entFnB_ok (f560Ok k)
/-! ## midrange/save.big -/
noncomputable def f561T (k : Nat) : Table := []
theorem f561TS (k : Nat) : Sound P (f561T k) := Sound.nil
theorem f561B : HasBody P 61 := ⟨Tryz.f61, Tryz.func61, by kernel_rfl, by kernel_rfl⟩
noncomputable def f561l0H : Shape := ⟨[(0, .one (.int .i64)), (5, .one (.own 0)), (6, .one (.int .i64))], [(0, .row 5 (.int .u8) .plain)], 1, []⟩
noncomputable def f561l0X0 : Shape := ⟨[(5, .one (.own 0))], [(0, .row 5 (.int .u8) .plain)], 1, []⟩
noncomputable def f561l0N : NoteR := ⟨[0, 5, 6], [], []⟩
noncomputable def f561l0M : NoteR := ⟨[4, 5], [], []⟩
noncomputable def f561l0C : Code := firstC (codesAt 58 (codeOf Tryz.f61) 1)
noncomputable def f561l0s {R : Type} (k : Nat) (rec : D0 → Option R) (k0 : List Int × Unit → Option R) (v : D0) : Option R :=
  bif (decide (v.2.1 ≥ (0 : Int))) then
    bif ((decide ((0 : Int) ≤ v.2.1)) && (decide (v.2.1 < (v.2.2.1.length : Int)))) then
    rec ((shrI .i64 v.1 (8 : Int)), (IntKind.i64.wrap (v.2.1 - (1 : Int))), (v.2.2.1.set (Int.toNat v.2.1) (IntKind.u8.wrap v.1)), ())
    else none
  else
  k0 (v.2.2.1, ())
noncomputable def f561l0 {R : Type} (k : Nat) (k0 : List Int × Unit → Option R) (v : D0) : Option R := iterS (fun rec v => f561l0s k rec k0 v) k v
noncomputable def f561l0S (k : Nat) : Sum1 := loopSum f561l0H f561l0N k (fun R rec K v => f561l0s k rec (fun w => K (.exit 0) (encSt f561l0X0 w)) v)
theorem f561l0E (k : Nat) (R : Type) (rec : St → Option R) (K : X → St → Option R) (v : f561l0H.Den) : evS tab (f561T k) Tryz.f61.ntmps [] (bodyOf f561l0C) 116 (bodyK f561l0N f561l0M rec K) (encSt f561l0H v) = f561l0s k (fun v => rec (encSt f561l0H v)) (fun w => K (.exit 0) (encSt f561l0X0 w)) v := by kernel_rfl
theorem f561l0I (k : Nat) : SumsOk P Tryz.f61.ntmps [] (bodyOf f561l0C) 116 := SumsOk.nil
theorem f561l0O (k : Nat) : SumOk P Tryz.f61.ntmps f561l0C (f561l0S k) := (show f561l0C = .loop (bodyOf f561l0C) by kernel_rfl) ▸ sum_loop tabOk (f561TS k) mixed (f561l0I k) (f561l0E k)
noncomputable def f561F (k : Nat) (x : Int × Int) : Option (List Int) :=
  bif (((decide ((0 : Int) ≤ x.2)) && (decide ((x.2 * 1) ≤ (140737488355328 : Int)))) && (decide (x.2 ≤ (281474976710656 : Int)))) then
  f561l0 k
    (fun (w1 : List Int × Unit) =>
      some w1.1)
    (x.1, (IntKind.i64.wrap (x.2 - (1 : Int))), (List.replicate (Int.toNat x.2) (0 : Int)), ())
  else none
noncomputable def f561L (k : Nat) : Sums := [(58, f561l0S k)]
theorem f561LS (k : Nat) : SumsOk P Tryz.f61.ntmps (f561L k) (codeOf Tryz.f61) 1 := (SumsOk.nil).cons (c := f561l0C) (by kernel_rfl) (f561l0O k)
theorem f561E (k : Nat) (x : Int × Int) : evFS tab (f561T k) (f561L k) Tryz.f61.ntmps Tryz.f61.results.toList (codeOf Tryz.f61) (argsV [.dat (.int .i64), .dat (.int .i64)] x) [.own 5 (.int .u8)] none = f561F k x := by kernel_rfl
theorem f561Ok (k : Nat) (x : Int × Int) (y : List Int) (h : f561F k x = some y) : FnOk P 61 [.dat (.int .i64), .dat (.int .i64)] [.own 5 (.int .u8)] x y :=
  evFS_sound tabOk (f561TS k) mixed Tryz.func61 (c := codeOf Tryz.f61) (by kernel_rfl) (f561LS k) ((f561E k x).trans h)
noncomputable def f561A (k : Nat) := entFnB [.dat (.int .i64), .dat (.int .i64)] [.own 5 (.int .u8)] (f561F k)
theorem f561Ao (k : Nat) : EntOk P 61 (f561A k) := entFnB_ok (f561Ok k)
/-! ## midrange/save.checksum -/
noncomputable def f562T (k : Nat) : Table := []
theorem f562TS (k : Nat) : Sound P (f562T k) := Sound.nil
theorem f562B : HasBody P 62 := ⟨Tryz.f62, Tryz.func62, by kernel_rfl, by kernel_rfl⟩
noncomputable def f562l0H : Shape := ⟨[(0, .one (.str)), (3, .one (.int .i64)), (6, .one (.int .i64)), (7, .one (.int .i64))], [], 0, []⟩
noncomputable def f562l0X0 : Shape := ⟨[(3, .one (.int .i64))], [], 0, []⟩
noncomputable def f562l0N : NoteR := ⟨[0, 3, 6, 7], [], []⟩
noncomputable def f562l0M : NoteR := ⟨[2, 3], [], []⟩
noncomputable def f562l0C : Code := firstC (codesAt 58 (codeOf Tryz.f62) 1)
noncomputable def f562l0s {R : Type} (k : Nat) (rec : D51 → Option R) (k0 : Int × Unit → Option R) (v : D51) : Option R :=
  bif (decide (v.2.2.2.1 < v.2.2.1)) then
    bif ((decide ((0 : Int) ≤ v.2.2.2.1)) && (decide (v.2.2.2.1 < (v.1.size : Int)))) then
    let t1 := (IntKind.i64.wrap ((IntKind.i64.wrap ((257 : Int) * v.2.1)) + (IntKind.i64.wrap (bt v.1 v.2.2.2.1))))
    rec (v.1, (Int.tmod (IntKind.i64.wrap (t1 + (1 : Int))) (4294967291 : Int)), v.2.2.1, (IntKind.i64.wrap (v.2.2.2.1 + (1 : Int))), ())
    else none
  else
  k0 (v.2.1, ())
noncomputable def f562l0 {R : Type} (k : Nat) (k0 : Int × Unit → Option R) (v : D51) : Option R := iterS (fun rec v => f562l0s k rec k0 v) k v
noncomputable def f562l0S (k : Nat) : Sum1 := loopSum f562l0H f562l0N k (fun R rec K v => f562l0s k rec (fun w => K (.exit 0) (encSt f562l0X0 w)) v)
theorem f562l0E (k : Nat) (R : Type) (rec : St → Option R) (K : X → St → Option R) (v : f562l0H.Den) : evS tab (f562T k) Tryz.f62.ntmps [] (bodyOf f562l0C) 116 (bodyK f562l0N f562l0M rec K) (encSt f562l0H v) = f562l0s k (fun v => rec (encSt f562l0H v)) (fun w => K (.exit 0) (encSt f562l0X0 w)) v := by kernel_rfl
theorem f562l0I (k : Nat) : SumsOk P Tryz.f62.ntmps [] (bodyOf f562l0C) 116 := SumsOk.nil
theorem f562l0O (k : Nat) : SumOk P Tryz.f62.ntmps f562l0C (f562l0S k) := (show f562l0C = .loop (bodyOf f562l0C) by kernel_rfl) ▸ sum_loop tabOk (f562TS k) mixed (f562l0I k) (f562l0E k)
noncomputable def f562F (k : Nat) (x : ByteArray) : Option (Int) :=
  f562l0 k
    (fun (w2 : Int × Unit) =>
      some w2.1)
    (x, (1 : Int), (x.size : Int), (0 : Int), ())
noncomputable def f562L (k : Nat) : Sums := [(58, f562l0S k)]
theorem f562LS (k : Nat) : SumsOk P Tryz.f62.ntmps (f562L k) (codeOf Tryz.f62) 1 := (SumsOk.nil).cons (c := f562l0C) (by kernel_rfl) (f562l0O k)
theorem f562E (k : Nat) (x : ByteArray) : evFS tab (f562T k) (f562L k) Tryz.f62.ntmps Tryz.f62.results.toList (codeOf Tryz.f62) (argsV [.dat .str] x) [.dat (.int .i64)] none = f562F k x := by kernel_rfl
theorem f562Ok (k : Nat) (x : ByteArray) (y : Int) (h : f562F k x = some y) : FnOk P 62 [.dat .str] [.dat (.int .i64)] x y :=
  evFS_sound tabOk (f562TS k) mixed Tryz.func62 (c := codeOf Tryz.f62) (by kernel_rfl) (f562LS k) ((f562E k x).trans h)
noncomputable def f562A (k : Nat) := entFnB [.dat .str] [.dat (.int .i64)] (f562F k)
theorem f562Ao (k : Nat) : EntOk P 62 (f562A k) := entFnB_ok (f562Ok k)
def f521tab : Tab := [
  (3, ⟨[], .int .i64, 1, 8, false, some [.int .i64 0], false⟩),
  (5, ⟨[], .int .u8, 1, 1, false, some [.int .u8 0], false⟩),
  (9, ⟨[], .str, 1, 16, false, some [.str ByteArray.empty], false⟩),
  (34, ⟨[], .slice 9 .str, 1, 24, false, some [.emp], false⟩),
  (36, ⟨[], .slice 81 Y7, 1, 24, false, some [.emp], false⟩),
  (81, ⟨[], .struct [(9, 0, 1), (34, 1, 1)], 2, 40, true, some [.str ByteArray.empty, .emp], false⟩),
  (104, ⟨[], .slice 5 (.int .u8), 1, 24, false, some [.emp], false⟩)]
theorem f521tabOk : tabIs P f521tab = true := by kernel_rfl
/-! ## midrange/save.Saved -/
noncomputable def f521T (k : Nat) : Table := [(17, f517A k), (60, f560A k), (61, f561A k), (62, f562A k)]
theorem f521TS (k : Nat) : Sound P (f521T k) := ((((Sound.nil).consE f562B (f562Ao k)).consE f561B (f561Ao k)).consE f560B (f560Ao k)).consE f517B (f517Ao k)
theorem f521B : HasBody P 21 := ⟨Tryz.f21, Tryz.func21, by kernel_rfl, by kernel_rfl⟩
noncomputable def f521p0H : Shape := ⟨[(1, .one (.ro .str)), (2, .one (.int .i64)), (8, .one (.str)), (11, .one (.int .i64)), (12, .one (.int .i64)), (13, .one (.own 0)), (14, .one (.int .i64)), (15, .one (.str)), (16, .one (.int .i64)), (58, .one (.int .i64)), (59, .one (.int .i64))], [(0, .row 81 Y7 .plain), (1, .heap 9 .str)], 2, []⟩
noncomputable def f521p0X0 : Shape := ⟨[(1, .one (.ro .str)), (2, .one (.int .i64)), (8, .one (.str)), (11, .one (.int .i64)), (12, .one (.int .i64)), (13, .one (.own 0)), (14, .one (.int .i64)), (15, .one (.str)), (16, .one (.int .i64)), (58, .one (.int .i64)), (59, .one (.int .i64))], [(0, .row 81 Y7 .plain), (1, .heap 9 .str)], 2, []⟩
noncomputable def f521p0N : NoteR := ⟨[1, 2, 8, 11, 12, 13, 14, 15, 16, 58, 59], [], []⟩
noncomputable def f521p0M : NoteR := ⟨[1, 2, 6, 7, 8, 11, 12, 13, 14, 15, 16, 58, 59], [], []⟩
noncomputable def f521p0C : Code := firstC (codesAt 8385742 (codeOf Tryz.f21) 1)
noncomputable def f521p0 {R : Type} (k : Nat) (k0 : D52 → Option R) (v : D52) : Option R :=
  bif (v.2.2.2.2.2.1 == (IntKind.i64.wrap (v.2.2.2.1 - (1 : Int)))) then
    k0 (v.1, v.2.1, v.2.2.1, v.2.2.2.1, v.2.2.2.2.1, v.2.2.2.2.2.1, v.2.2.2.2.2.2.1, (bits .or .i64 v.2.2.2.2.2.2.2.1 (128 : Int)), v.2.2.2.2.2.2.2.2.1, v.2.2.2.2.2.2.2.2.2.1, v.2.2.2.2.2.2.2.2.2.2.1, v.2.2.2.2.2.2.2.2.2.2.2.1, ())
  else
  k0 (v.1, v.2.1, v.2.2.1, v.2.2.2.1, v.2.2.2.2.1, v.2.2.2.2.2.1, v.2.2.2.2.2.2.1, v.2.2.2.2.2.2.2.1, v.2.2.2.2.2.2.2.2.1, v.2.2.2.2.2.2.2.2.2.1, v.2.2.2.2.2.2.2.2.2.2.1, v.2.2.2.2.2.2.2.2.2.2.2.1, ())
noncomputable def f521p0S (k : Nat) : Sum1 := partSum f521p0H f521p0N (fun R K v => f521p0 k (fun w => K .normal (encSt f521p0X0 w)) v)
theorem f521p0E (k : Nat) (R : Type) (K : X → St → Option R) (v : f521p0H.Den) : evS f521tab (f521T k) Tryz.f21.ntmps [] f521p0C 8385742 (partK f521p0M K) (encSt f521p0H v) = f521p0 k (fun w => K .normal (encSt f521p0X0 w)) v := by kernel_rfl
theorem f521p0I (k : Nat) : SumsOk P Tryz.f21.ntmps [] f521p0C 8385742 := SumsOk.nil
theorem f521p0O (k : Nat) : SumOk P Tryz.f21.ntmps f521p0C (f521p0S k) := sum_part f521tabOk (f521TS k) mixed (f521p0I k) (f521p0E k)
noncomputable def f521l1H : Shape := ⟨[(1, .one (.ro .str)), (2, .one (.int .i64)), (8, .one (.str)), (11, .one (.int .i64)), (12, .one (.int .i64)), (13, .one (.own 0)), (58, .one (.int .i64)), (59, .one (.int .i64))], [(0, .row 81 Y7 .plain), (1, .heap 9 .str)], 2, []⟩
noncomputable def f521l1X0 : Shape := ⟨[(13, .one (.own 0))], [(0, .row 81 Y7 .plain), (1, .heap 9 .str)], 2, []⟩
noncomputable def f521l1N : NoteR := ⟨[1, 2, 8, 11, 12, 13, 58, 59], [], []⟩
noncomputable def f521l1M : NoteR := ⟨[6, 7, 13], [], []⟩
noncomputable def f521l1C : Code := firstC (codesAt 16378 (codeOf Tryz.f21) 1)
noncomputable def f521l1s {R : Type} (k : Nat) (rec : D54 → Option R) (k0 : D53 → Option R) (v : D54) : Option R :=
  bif (decide (v.2.2.2.2.2.2.1 < v.2.2.2.2.2.1)) then
    let t6 := (IntKind.i64.wrap ((IntKind.i64.wrap (v.2.2.2.2.2.2.1 + (1 : Int))) * (52 : Int)))
    bif (sliceBds (IntKind.i64.wrap (v.2.2.2.2.2.2.1 * (52 : Int))) (mnI t6 (v.2.2.1.size : Int)) (v.2.2.1.size : Int)) then
    let t7 := (v.2.2.1.extract (Int.toNat (IntKind.i64.wrap (v.2.2.2.2.2.2.1 * (52 : Int)))) (Int.toNat (mnI t6 (v.2.2.1.size : Int))))
    f521p0 k
      (fun (w8 : D52) =>
        bif (!(decide (w8.2.1 = (0 : Int)))) then
        let t9 := (IntKind.i64.wrap ((IntKind.i64.wrap (Int.tdiv w8.2.2.2.2.2.1 w8.2.1)) + (1 : Int)))
        Option.bind (f561F k ((IntKind.i64.wrap (w8.2.2.2.2.2.1 + (1 : Int))), (2 : Int))) fun y10 =>
        bif (decide (([(IntKind.u8.wrap t9)].length + y10.length) * 1 ≤ 140737488355328) && decide ([(IntKind.u8.wrap t9)].length + y10.length ≤ 9223372036854775807)) then
        bif (decide ((([(IntKind.u8.wrap t9)] ++ y10).length + [(IntKind.u8.wrap w8.2.2.2.2.2.2.2.1)].length) * 1 ≤ 140737488355328) && decide (([(IntKind.u8.wrap t9)] ++ y10).length + [(IntKind.u8.wrap w8.2.2.2.2.2.2.2.1)].length ≤ 9223372036854775807)) then
        let t11 := (([(IntKind.u8.wrap t9)] ++ y10) ++ [(IntKind.u8.wrap w8.2.2.2.2.2.2.2.1)])
        bif (decide ((t11.length + (bytesOf w8.2.2.2.2.2.2.1).length) * 1 ≤ 140737488355328) && decide (t11.length + (bytesOf w8.2.2.2.2.2.2.1).length ≤ 9223372036854775807)) then
        bif (((decide ((0 : Int) ≤ (IntKind.i64.wrap ((52 : Int) - (w8.2.2.2.2.2.2.1.size : Int))))) && ((decide (((IntKind.i64.wrap ((52 : Int) - (w8.2.2.2.2.2.2.1.size : Int))) * 1) ≤ (140737488355328 : Int))) && (decide ((IntKind.i64.wrap ((52 : Int) - (w8.2.2.2.2.2.2.1.size : Int))) ≤ (9223372036854775807 : Int))))) && (decide (((t11 ++ (bytesOf w8.2.2.2.2.2.2.1)).length + (List.replicate (Int.toNat (IntKind.i64.wrap ((52 : Int) - (w8.2.2.2.2.2.2.1.size : Int)))) (0 : Int)).length) * 1 ≤ 140737488355328) && decide ((t11 ++ (bytesOf w8.2.2.2.2.2.2.1)).length + (List.replicate (Int.toNat (IntKind.i64.wrap ((52 : Int) - (w8.2.2.2.2.2.2.1.size : Int)))) (0 : Int)).length ≤ 9223372036854775807))) then
        let t12 := ((t11 ++ (bytesOf w8.2.2.2.2.2.2.1)) ++ (List.replicate (Int.toNat (IntKind.i64.wrap ((52 : Int) - (w8.2.2.2.2.2.2.1.size : Int)))) (0 : Int)))
        bif (decide ((t12.length + [(IntKind.u8.wrap w8.2.2.2.2.1), (0 : Int), (0 : Int), (0 : Int)].length) * 1 ≤ 140737488355328) && decide (t12.length + [(IntKind.u8.wrap w8.2.2.2.2.1), (0 : Int), (0 : Int), (0 : Int)].length ≤ 9223372036854775807)) then
        let t13 := (t12 ++ [(IntKind.u8.wrap w8.2.2.2.2.1), (0 : Int), (0 : Int), (0 : Int)])
        Option.bind (f562F k (strOfNums t13)) fun y14 =>
        Option.bind (f561F k (y14, (4 : Int))) fun y15 =>
        bif (decide ((t13.length + y15.length) * 1 ≤ 140737488355328) && decide (t13.length + y15.length ≤ 9223372036854775807)) then
        bif ((decide ((0 : Int) ≤ (IntKind.i64.wrap (Int.tdiv w8.2.2.2.2.2.1 w8.2.1)))) && (decide ((IntKind.i64.wrap (Int.tdiv w8.2.2.2.2.2.1 w8.2.1)) < (w8.1.length : Int)))) then
        let t16 := (w8.1.getD (Int.toNat (IntKind.i64.wrap (Int.tdiv w8.2.2.2.2.2.1 w8.2.1))) ByteArray.empty)
        bif ((decide ((0 : Int) ≤ (IntKind.i64.wrap (Int.tdiv w8.2.2.2.2.2.1 w8.2.1)))) && (decide ((IntKind.i64.wrap (Int.tdiv w8.2.2.2.2.2.1 w8.2.1)) < (w8.2.2.2.2.2.2.2.2.2.2.1.length : Int)))) then
        let t17 := (w8.2.2.2.2.2.2.2.2.2.2.1.set (Int.toNat (IntKind.i64.wrap (Int.tdiv w8.2.2.2.2.2.1 w8.2.1))) (t16, (w8.2.2.2.2.2.2.2.2.2.2.1.getD (Int.toNat (IntKind.i64.wrap (Int.tdiv w8.2.2.2.2.2.1 w8.2.1))) (ByteArray.empty, (0 : Nat))).2))
        bif ((decide ((0 : Int) ≤ (IntKind.i64.wrap (Int.tdiv w8.2.2.2.2.2.1 w8.2.1)))) && (decide ((IntKind.i64.wrap (Int.tdiv w8.2.2.2.2.2.1 w8.2.1)) < (t17.length : Int)))) then
        let t18 := (t17.getD (Int.toNat (IntKind.i64.wrap (Int.tdiv w8.2.2.2.2.2.1 w8.2.1))) (ByteArray.empty, (0 : Nat))).2
        bif (kown w8.2.2.2.2.2.2.2.2.2.2.2.1 t18 && (decide (((kget w8.2.2.2.2.2.2.2.2.2.2.2.1 t18).length + [(strOfNums (t13 ++ y15))].length) * 16 ≤ 140737488355328) && decide ((kget w8.2.2.2.2.2.2.2.2.2.2.2.1 t18).length + [(strOfNums (t13 ++ y15))].length ≤ 9223372036854775807))) then
        let t19 := (kapp w8.2.2.2.2.2.2.2.2.2.2.2.1 t18 (kget w8.2.2.2.2.2.2.2.2.2.2.2.1 t18).length [(strOfNums (t13 ++ y15))])
        bif ((decide ((0 : Int) ≤ (IntKind.i64.wrap (Int.tdiv w8.2.2.2.2.2.1 w8.2.1)))) && (decide ((IntKind.i64.wrap (Int.tdiv w8.2.2.2.2.2.1 w8.2.1)) < (t17.length : Int)))) then
        let t20 := (t17.set (Int.toNat (IntKind.i64.wrap (Int.tdiv w8.2.2.2.2.2.1 w8.2.1))) ((t17.getD (Int.toNat (IntKind.i64.wrap (Int.tdiv w8.2.2.2.2.2.1 w8.2.1))) (ByteArray.empty, (0 : Nat))).1, (w8.2.2.2.2.2.2.2.2.2.2.2.1.length + 1)))
        rec (w8.1, w8.2.1, w8.2.2.1, w8.2.2.2.1, w8.2.2.2.2.1, w8.2.2.2.2.2.2.2.2.1, (IntKind.i64.wrap (w8.2.2.2.2.2.2.2.2.2.1 + (1 : Int))), t20, t19, ())
        else none
        else none
        else none
        else none
        else none
        else none
        else none
        else none
        else none
        else none
        else none
        else none)
      (v.1, v.2.1, v.2.2.1, v.2.2.2.1, v.2.2.2.2.1, v.2.2.2.2.2.2.1, t7, (t7.size : Int), v.2.2.2.2.2.1, v.2.2.2.2.2.2.1, v.2.2.2.2.2.2.2.1, v.2.2.2.2.2.2.2.2.1, ())
    else none
  else
  k0 (v.2.2.2.2.2.2.2.1, v.2.2.2.2.2.2.2.2.1, ())
noncomputable def f521l1 {R : Type} (k : Nat) (k0 : D53 → Option R) (v : D54) : Option R := iterS (fun rec v => f521l1s k rec k0 v) k v
noncomputable def f521l1S (k : Nat) : Sum1 := loopSum f521l1H f521l1N k (fun R rec K v => f521l1s k rec (fun w => K (.exit 0) (encSt f521l1X0 w)) v)
theorem f521l1E (k : Nat) (R : Type) (rec : St → Option R) (K : X → St → Option R) (v : f521l1H.Den) : evS f521tab (f521T k) Tryz.f21.ntmps [(8385742, f521p0S k)] (bodyOf f521l1C) 32756 (bodyK f521l1N f521l1M rec K) (encSt f521l1H v) = f521l1s k (fun v => rec (encSt f521l1H v)) (fun w => K (.exit 0) (encSt f521l1X0 w)) v := by kernel_rfl
theorem f521l1I (k : Nat) : SumsOk P Tryz.f21.ntmps [(8385742, f521p0S k)] (bodyOf f521l1C) 32756 := (SumsOk.nil).cons (c := f521p0C) (by kernel_rfl) (f521p0O k)
theorem f521l1O (k : Nat) : SumOk P Tryz.f21.ntmps f521l1C (f521l1S k) := (show f521l1C = .loop (bodyOf f521l1C) by kernel_rfl) ▸ sum_loop f521tabOk (f521TS k) mixed (f521l1I k) (f521l1E k)
noncomputable def f521F (k : Nat) (x : D55) : Option ((List D56) × Int) :=
  Option.bind (f517F k x.1) fun y1 =>
  bif (y1.2 != (0 : Int)) then
    some ([], y1.2)
  else
  bif (decide (x.2.2 < (1 : Int))) then
    some ([], (3 : Int))
  else
  bif (decide (x.2.2 > (60 : Int))) then
    some ([], (3 : Int))
  else
  bif (decide ((x.2.1.length : Int) > (6 : Int))) then
    some ([], (2 : Int))
  else
  Option.bind (f560F k x.2.1) fun y2 =>
  bif (y2 != (0 : Int)) then
    some ([], y2)
  else
  let t3 := (IntKind.i64.wrap ((IntKind.i64.wrap ((y1.1.size : Int) + (52 : Int))) - (1 : Int)))
  let t4 := (IntKind.i64.wrap ((IntKind.i64.wrap (Int.tdiv t3 (52 : Int))) + x.2.2))
  bif (!(decide (x.2.2 = (0 : Int)))) then
  let t5 := (IntKind.i64.wrap (Int.tdiv (IntKind.i64.wrap (t4 - (1 : Int))) x.2.2))
  bif (decide (t5 > (x.2.1.length : Int))) then
    some ([], (30 : Int))
  else
  bif (((decide ((0 : Int) ≤ t5)) && (decide ((t5 * 40) ≤ (140737488355328 : Int)))) && (decide (t5 ≤ (281474976710656 : Int)))) then
  f521l1 k
    (fun (w21 : D53) =>
      bif ((w21.1.all fun q => (true && (kro (List.map Kid.frz w21.2.1) q.2))) && true) then
      some ((w21.1.map fun q => (q.1, (kget (List.map Kid.frz w21.2.1) q.2))), (0 : Int))
      else none)
    (x.2.1, x.2.2, y1.1, (IntKind.i64.wrap (Int.tdiv t3 (52 : Int))), t5, (IntKind.i64.wrap (Int.tdiv t3 (52 : Int))), (0 : Int), (List.replicate (Int.toNat t5) (ByteArray.empty, (0 : Nat))), [], ())
  else none
  else none
noncomputable def f521L (k : Nat) : Sums := [(8385742, f521p0S k), (16378, f521l1S k)]
theorem f521LS (k : Nat) : SumsOk P Tryz.f21.ntmps (f521L k) (codeOf Tryz.f21) 1 := ((SumsOk.nil).cons (c := f521l1C) (by kernel_rfl) (f521l1O k)).cons (c := f521p0C) (by kernel_rfl) (f521p0O k)
theorem f521E (k : Nat) (x : D55) : evFS f521tab (f521T k) (f521L k) Tryz.f21.ntmps Tryz.f21.results.toList (codeOf Tryz.f21) (argsV [.dat (.slice Y6), .dat (.slice .str), .dat (.int .i64)] x) [.dat (.slice Y8), .dat (.int .i64)] (some (9, .str)) = f521F k x := by kernel_rfl
theorem f521Ok (k : Nat) (x : D55) (y : (List D56) × Int) (h : f521F k x = some y) : FnOk P 21 [.dat (.slice Y6), .dat (.slice .str), .dat (.int .i64)] [.dat (.slice Y8), .dat (.int .i64)] x y :=
  evFS_sound f521tabOk (f521TS k) mixed Tryz.func21 (c := codeOf Tryz.f21) (by kernel_rfl) (f521LS k) ((f521E k x).trans h)
noncomputable def f521A (k : Nat) := entFn [.dat (.slice Y6), .dat (.slice .str), .dat (.int .i64)] [.dat (.slice Y8), .dat (.int .i64)] (f521F k)
theorem f521Ao (k : Nat) : EntOk P 21 (f521A k) := entFn_ok (f521Ok k)
end Go.Proofs.YtobgkcamonlnkaaGreatDoor
