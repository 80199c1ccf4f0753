/- What functions of the program compute: each as a plain Lean function, and that the code comes to it. Printed by gen.py. -/
import Derived.Test.YtobgkcamonlnkaaGreatDoorAC
import Derived.Test.YtobgkcamonlnkaaGreatDoorProg
import Derived.Test.YtobgkcamonlnkaaGreatDoorSJ
/-! Printed by gen.py: what functions compute. -/
set_option linter.unusedVariables false
set_option maxRecDepth 100000
namespace Go.Proofs.YtobgkcamonlnkaaGreatDoor
open Go.Ab
@[reducible] def oI : AS := .one (.int .i64)
@[reducible] def oS : AS := .one .str
@[reducible] def oB : AS := .one .bool
@[reducible] noncomputable def P : Program := Tryz.prog
@[reducible] def Y0 : Ty := (.pair (.int .i64) (.int .i64))
@[reducible] def Y1 : Ty := (.pair .str (.pair (.int .i64) Y0))
@[reducible] def Y2 : Ty := (.pair .str (.slice Y1))
@[reducible] def Y3 : Ty := (.pair (.slice (.pair .str .bool)) .bool)
@[reducible] def Y4 : Ty := (.pair .str (.pair Y2 Y3))
@[reducible] def Y5 : Ty := (.pair (.int .i64) .str)
@[reducible] def Y6 : Ty := (.pair Y4 (.slice (.pair .bool .str)))
@[reducible] def Y7 : Ty := (.pair .str (.ref .str))
@[reducible] def Y8 : Ty := (.pair .str (.slice .str))
@[reducible] def Y9 : Ty := (.pair .bool (.int .i64))
@[reducible] def Y10 : Ty := (.pair (.int .i64) (.pair .str Y9))
@[reducible] def Y11 : Ty := (.pair (.int .i64) (.int .u8))
@[reducible] def Y12 : Ty := (.pair (.int .i64) (.pair (.int .i64) Y11))
abbrev D0 := Int × Int × List Int × Unit
abbrev D1 := Bool × Int × Int × List Int × Unit
abbrev D2 := List Int × Int × Int × Unit
abbrev D3 := Bool × Int × Bool × Int × Int × Int × Unit
abbrev D4 := Bool × Int × Int × Int × Int × Unit
abbrev D5 := Bool × Int × Int × Int × Unit
abbrev D6 := (ByteArray × (Int × (Int × Int)))
abbrev D7 := ByteArray × Int × List D6 × Int × Int × Unit
abbrev D8 := (ByteArray × (List D6)) × ByteArray
abbrev D9 := Int × List D6 × Int × Int × ByteArray × List D6 × Unit
abbrev D10 := List (ByteArray × Bool) × Int × Int × ByteArray × ByteArray × List D6 × List (ByteArray × Bool) × Bool × List (ByteArray × Bool) × Unit
abbrev D11 := ((List (ByteArray × Bool)) × Bool)
abbrev D12 := ((ByteArray × (List D6)) × D11)
abbrev D13 := Int × List D6 × Int × Int × Unit
abbrev D14 := Int × Int × Int × List Int × Unit
abbrev D15 := (Int × (Int × Int)) × (Int × ByteArray)
abbrev D16 := ByteArray × Int × Int × Int × Int × Int × List Int × List Int × Unit
abbrev D17 := ByteArray × Int × Int × Int × List Int × List Int × Unit
abbrev D18 := (Int × (Int × Int)) × ByteArray
abbrev D19 := Int × Int × Int × Int × Int × Int × List Int × Int × Int × Int × Int × Int × List Int × List Int × Unit
abbrev D20 := Int × Int × Int × List Int × Int × Int × Int × Int × Int × List Int × List Int × Unit
abbrev D21 := Int × Int × Int × Int × Int × List Int × List Int × Unit
abbrev D22 := Int × Int × List Int × List Int × Unit
abbrev D23 := Int × Int × Int × Int × List Int × Int × Int × Int × Int × Int × List Int × List Int × Unit
abbrev D24 := Int × Int × List Int × Int × Int × Int × Int × Int × List Int × List Int × Unit
abbrev D25 := ByteArray × Int × Int × Int × Int × Int × ByteArray × Unit
abbrev D26 := (Int × ByteArray) × Int × Int
abbrev D27 := Int × Int × List (Int × ByteArray) × Unit
abbrev D28 := List (Int × ByteArray) × Unit
abbrev D29 := ByteArray × List D6 × Int × Int × List (Int × ByteArray) × Unit
abbrev D30 := List (Int × ByteArray) × Int × Int
abbrev D31 := Int × Int × List (Bool × ByteArray) × Int × Int × ByteArray × ByteArray × List D6 × List (ByteArray × Bool) × Bool × List (Bool × ByteArray) × Unit
abbrev D32 := Int × Int × List (Bool × ByteArray) × Int × Int × ByteArray × ByteArray × List D6 × List (ByteArray × Bool) × Bool × List (Bool × ByteArray) × Bool × ByteArray × Unit
abbrev D33 := List (Bool × ByteArray) × Int × Int × ByteArray × ByteArray × List D6 × List (ByteArray × Bool) × Bool × List (Bool × ByteArray) × Unit
abbrev D34 := ((ByteArray × D12) × (List (Bool × ByteArray)))
abbrev D35 := ByteArray × ByteArray × List D6 × List (ByteArray × Bool) × Bool × List (Bool × ByteArray) × ByteArray × Unit
abbrev D36 := List D34 × Int × Int × ByteArray × Unit
abbrev D37 := List D34 × ByteArray × Unit
abbrev D38 := List D34 × List D34 × Int × Int × Unit
abbrev D39 := List Int × List Int × Unit
abbrev D40 := ByteArray × List Int × Unit
abbrev D41 := ByteArray × ByteArray × List D6 × List (ByteArray × Bool) × Bool × List Int × Unit
abbrev D42 := List D6 × Int × Int × ByteArray × ByteArray × List D6 × List (ByteArray × Bool) × Bool × List Int × Unit
abbrev D43 := List (ByteArray × Bool) × Int × Int × List Int × Unit
abbrev D44 := List D34 × Int × Int × List Int × Unit
abbrev D45 := List D34 × Int × Int × List (Bool × ByteArray) × Int × Int × List Int × Unit
abbrev D46 := ByteArray × Int × Int × Unit
abbrev D47 := ByteArray × Bool × Int × Int × Unit
abbrev D48 := List ByteArray × ByteArray × Int × Int × Unit
abbrev D49 := (List ByteArray) × ByteArray
abbrev D50 := List ByteArray × List ByteArray × Int × Int × Unit
abbrev D51 := ByteArray × Int × Int × Int × Unit
abbrev D52 := List ByteArray × Int × ByteArray × Int × Int × Int × ByteArray × Int × Int × Int × List (ByteArray × Nat) × List (Kid ByteArray) × Unit
abbrev D53 := List (ByteArray × Nat) × List (Kid ByteArray) × Unit
abbrev D54 := List ByteArray × Int × ByteArray × Int × Int × Int × Int × List (ByteArray × Nat) × List (Kid ByteArray) × Unit
abbrev D55 := (List D34) × (List ByteArray) × Int
abbrev D56 := (ByteArray × (List ByteArray))
abbrev D57 := ByteArray × Bool × Int × Unit
abbrev D58 := ByteArray × Int × ByteArray × List D6 × Unit
abbrev D59 := Int × Int × Int × Int × Unit
abbrev D60 := Int × Int × ByteArray × List D6 × Unit
abbrev D61 := ByteArray × List D6 × Unit
abbrev D62 := Int × ByteArray × List D6 × Unit
abbrev D63 := Int × Int × Int × ByteArray × ByteArray × List D6 × List (ByteArray × Bool) × Bool × Unit
abbrev D64 := Int × ByteArray × ByteArray × List D6 × List (ByteArray × Bool) × Bool × Unit
abbrev D65 := Int × Int × ByteArray × ByteArray × List D6 × List (ByteArray × Bool) × Bool × Unit
abbrev D66 := Int × Int × Int × ByteArray × List D6 × Unit
abbrev D67 := (ByteArray × (List D6)) × Int
abbrev D68 := (ByteArray × (List D6)) × ByteArray × Int
abbrev D69 := ByteArray × Int × Int × Int × Int × Unit
abbrev D70 := ByteArray × Int × Int × Int × Int × ByteArray × Unit
abbrev D71 := Int × Int × Int × Int × Int × ByteArray × Unit
abbrev D72 := Int × Int × Int × ByteArray × Unit
abbrev D73 := ByteArray × Int × Int × Int × Int × Int × Int × Int × ByteArray × Unit
abbrev D74 := ByteArray × Int × Int × Int × Bool × Int × Int × Int × Int × ByteArray × Unit
abbrev D75 := ByteArray × Int × Int × Int × Int × Int × Int × Int × Int × Int × ByteArray × Unit
abbrev D76 := ByteArray × Int × Int × Int × Int × Int × Int × Int × Int × ByteArray × Unit
abbrev D77 := ByteArray × Int × Int × Int × Int × Int × Int × ByteArray × Unit
abbrev D78 := Int × Int × Int × Int × ByteArray × Unit
abbrev D79 := Int × Int × ByteArray × Unit
abbrev D80 := Int × Int × Int × ByteArray × ByteArray × List D6 × List (ByteArray × Bool) × Bool × List (Bool × ByteArray) × Bool × ByteArray × Unit
abbrev D81 := Int × ByteArray × ByteArray × List D6 × List (ByteArray × Bool) × Bool × List (Bool × ByteArray) × Bool × ByteArray × Unit
abbrev D82 := Int × Int × Int × ByteArray × ByteArray × List D6 × List (ByteArray × Bool) × Bool × List (Bool × ByteArray) × Unit
abbrev D83 := Int × ByteArray × ByteArray × List D6 × List (ByteArray × Bool) × Bool × List (Bool × ByteArray) × Unit
abbrev D84 := List D34 × ByteArray × Int × Unit
abbrev D85 := List ByteArray × ByteArray × Int × Unit
abbrev D86 := List ByteArray × Int × Unit
abbrev D87 := ByteArray × ByteArray × ByteArray × List D6 × List (ByteArray × Bool) × Bool × Unit
abbrev D88 := ByteArray × Int × ByteArray × ByteArray × List D6 × List (ByteArray × Bool) × Bool × Unit
abbrev D89 := List D34 × ByteArray × Int × Int × Unit
abbrev D90 := (ByteArray × (Bool × Int))
abbrev D91 := List ByteArray × Int × ByteArray × Int × Int × Int × List (ByteArray × Nat) × List (Kid ByteArray) × Unit
abbrev D92 := List ByteArray × Int × ByteArray × Int × Int × Int × List (Kid ByteArray) × Unit
abbrev D93 := List D56 × Int × List D56 × Unit
abbrev D94 := List D56 × Int × Int × Unit
abbrev D95 := ByteArray × Int × ByteArray
abbrev D96 := List (Kid ByteArray) × List (ByteArray × Nat) × Unit
abbrev D97 := List D56 × Int × List (Kid ByteArray) × List (ByteArray × Nat) × Unit
abbrev D98 := List D56 × List (Kid ByteArray) × Unit
abbrev D99 := List D56 × Int × Int × Int × Int × Int × Int × List (ByteArray × Nat) × List (Kid ByteArray) × Unit
abbrev D100 := List D56 × Int × Int × Int × Int × Int × Int × Int × List (ByteArray × Nat) × List (Kid ByteArray) × Unit
abbrev D101 := (Int × (Int × (Int × Int)))
abbrev D102 := (List D56) × (Int × D101)
abbrev D103 := ByteArray × Int × Int × Int × Bool × Int × Int × Int × Bool × Unit
abbrev D104 := ByteArray × Int × Int × Int × Bool × Int × Bool × Unit
abbrev D105 := ByteArray × Int × Int × Int × Bool × ByteArray × Int × Bool × Unit
abbrev D106 := ByteArray × Int × Int × Int × Bool
abbrev D107 := ByteArray × List ByteArray × ByteArray × List ByteArray × Unit
abbrev D108 := Bool × ByteArray × List ByteArray × Unit
abbrev D109 := Int × ByteArray × List ByteArray × Unit
abbrev D110 := ByteArray × List ByteArray × Unit
abbrev D111 := List D56 × Int × Int × ByteArray × List ByteArray × Unit
abbrev D112 := List D56 × ByteArray × List ByteArray × Unit
abbrev D113 := List D56 × ByteArray × Int × Int × Int × Int × Int × List D56 × Int × Int × List ByteArray × Int × Int × ByteArray × List ByteArray × Unit
abbrev D114 := List D56 × Int × Int × List D56 × Int × Int × List ByteArray × Int × Int × ByteArray × List ByteArray × List Int × Unit
abbrev D115 := List D56 × ByteArray × Int × Int × Int × Int × Int × List D56 × Int × Int × List ByteArray × Int × Int × ByteArray × List ByteArray × List Int × Unit
abbrev D116 := List D56 × ByteArray × Int × Int × Int × Int × List D56 × Int × Int × List Int × Unit
abbrev D117 := List D56 × Int × List D56 × Int × Int × List Int × Unit
abbrev D118 := List D56 × ByteArray × Int × Int × Int × Int × List D56 × Int × Int × Unit
abbrev D119 := List D56 × Int × List D56 × Int × Int × Unit
abbrev D120 := ByteArray × Int × Int × Int × List Int × Unit
abbrev D121 := List D56 × Int × Int × List D56 × Int × Int × List ByteArray × Int × Int × ByteArray × List ByteArray × Unit
abbrev D122 := ByteArray × Int × Int × Int
abbrev D123 := List D34 × Bool × Int × Unit
abbrev D124 := List D34 × Int × Int × Unit
abbrev D125 := List D34 × Int × List D34 × Unit
abbrev D126 := List D56 × Bool × Int × Unit
abbrev D127 := Int × ByteArray × Int × Unit
abbrev D128 := ByteArray × ByteArray × Int × Unit
abbrev D129 := ByteArray × Int × ByteArray × ByteArray × Bool × ByteArray × ByteArray × Bool × List D6 × List (ByteArray × Bool) × List (Bool × ByteArray) × List D6 × List (ByteArray × Bool) × List (Bool × ByteArray) × Unit
abbrev D130 := Bool × ByteArray × Int × Unit
abbrev D131 := Int × Int × ByteArray × Int × ByteArray × ByteArray × Bool × ByteArray × ByteArray × Bool × Bool × ByteArray × List D6 × List (ByteArray × Bool) × List (Bool × ByteArray) × List D6 × List (ByteArray × Bool) × List (Bool × ByteArray) × Unit
abbrev D132 := Int × ByteArray × Int × ByteArray × ByteArray × Bool × ByteArray × ByteArray × Bool × List D6 × List (ByteArray × Bool) × List (Bool × ByteArray) × List D6 × List (ByteArray × Bool) × List (Bool × ByteArray) × Unit
abbrev D133 := Int × Int × ByteArray × Int × ByteArray × ByteArray × Bool × ByteArray × ByteArray × Bool × List D6 × List (ByteArray × Bool) × List (Bool × ByteArray) × List D6 × List (ByteArray × Bool) × List (Bool × ByteArray) × Unit
abbrev D134 := ByteArray × ByteArray × List D6 × List (ByteArray × Bool) × Bool × List (Bool × ByteArray) × ByteArray × Int × Unit
abbrev D135 := ByteArray × Int × List D34 × Unit
abbrev D136 := Int × ByteArray × Int × List D34 × Unit
abbrev D137 := Bool × List D56 × Int × Int × Int × Int × Int × Int × Unit
abbrev D138 := List D56 × Int × Int × Int × Int × Int × Int × Unit
abbrev D139 := Bool × List D56 × Int × Int × Int × Int × Int × Unit
abbrev D140 := List D56 × Int × Int × Int × Int × Int × Unit
abbrev D141 := List D56 × Int × Int × Int × Int × Int × Int × Int × Unit
abbrev D142 := (List D34) × Int × (Int × D101)
def tab : Tab := [
 (3, ⟨[], .int .i64, 1, 8, false, some [.int .i64 0], false⟩),
 (4, ⟨[], .bool, 1, 1, false, some [.bool false], false⟩),
 (5, ⟨[], .int .u8, 1, 1, false, some [.int .u8 0], false⟩),
 (9, ⟨[], .str, 1, 16, false, some [.str ByteArray.empty], false⟩),
 (22, ⟨[], .slice 52 Y6, 1, 24, false, some [.emp], false⟩),
 (25, ⟨[], .int .i64, 1, 8, false, some [.int .i64 0], false⟩),
 (34, ⟨[], .slice 9 .str, 1, 24, false, some [.emp], false⟩),
 (36, ⟨[], .slice 81 Y8, 1, 24, false, some [.emp], false⟩),
 (44, ⟨[], .slice 156 Y1, 1, 24, false, some [.emp], false⟩),
 (46, ⟨[], .struct [(9, 0, 1), (44, 1, 1)], 2, 40, true, some [.str ByteArray.empty, .emp], false⟩),
 (47, ⟨[], .slice 158 (.pair .str .bool), 1, 24, false, some [.emp], false⟩),
 (49, ⟨[], .struct [(9, 0, 1), (46, 1, 2), (47, 3, 1), (4, 4, 1)], 5, 88, true, some [.str ByteArray.empty, .str ByteArray.empty, .emp, .emp, .bool false], false⟩),
 (50, ⟨[], .slice 100 (.pair .bool .str), 1, 24, false, some [.emp], false⟩),
 (52, ⟨[(2, 156, Y1), (3, 158, (.pair .str .bool)), (5, 100, (.pair .bool .str))], .struct [(49, 0, 5), (50, 5, 1)], 6, 112, true, some [.str ByteArray.empty, .str ByteArray.empty, .emp, .emp, .bool false, .emp], false⟩),
 (79, ⟨[], .struct [(3, 0, 1), (3, 1, 1), (3, 2, 1), (3, 3, 1), (5, 4, 1)], 5, 40, true, some [.int .i64 0, .int .i64 0, .int .i64 0, .int .i64 0, .int .u8 0], true⟩),
 (81, ⟨[], .struct [(9, 0, 1), (34, 1, 1)], 2, 40, true, some [.str ByteArray.empty, .emp], false⟩),
 (85, ⟨[], .slice 3 (.int .i64), 1, 24, false, some [.emp], false⟩),
 (100, ⟨[], .struct [(4, 0, 1), (9, 1, 1)], 2, 24, true, some [.bool false, .str ByteArray.empty], true⟩),
 (104, ⟨[], .slice 5 (.int .u8), 1, 24, false, some [.emp], false⟩),
 (106, ⟨[(0, 5, (.int .u8))], .struct [(104, 0, 1)], 1, 24, true, some [.emp], false⟩),
 (122, ⟨[], .struct [(3, 0, 1), (3, 1, 1), (9, 2, 1), (4, 3, 1), (3, 4, 1)], 5, 48, true, some [.int .i64 0, .int .i64 0, .str ByteArray.empty, .bool false, .int .i64 0], true⟩),
 (128, ⟨[], .struct [(9, 0, 1), (25, 1, 1)], 2, 24, true, some [.str ByteArray.empty, .int .i64 0], true⟩),
 (154, ⟨[], .struct [(3, 0, 1), (3, 1, 1), (3, 2, 1)], 3, 24, true, some [.int .i64 0, .int .i64 0, .int .i64 0], true⟩),
 (156, ⟨[], .struct [(9, 0, 1), (154, 1, 3)], 4, 40, true, some [.str ByteArray.empty, .int .i64 0, .int .i64 0, .int .i64 0], true⟩),
 (158, ⟨[], .struct [(9, 0, 1), (4, 1, 1)], 2, 24, true, some [.str ByteArray.empty, .bool false], true⟩),
 (164, ⟨[], .mapSB, 1, 8, false, some [.nil .map], false⟩),
 (174, ⟨[], .struct [(172, 0, 1), (104, 1, 1)], 2, 32, true, some [.nil .ptr, .emp], false⟩),
 (187, ⟨[], .slice 25 (.int .i64), 1, 24, false, some [.emp], false⟩),
 (202, ⟨[], .slice 231 Y5, 1, 24, false, some [.emp], false⟩),
 (231, ⟨[], .struct [(3, 0, 1), (9, 1, 1)], 2, 24, true, some [.int .i64 0, .str ByteArray.empty], true⟩),
 (245, ⟨[], .int .i8, 1, 1, false, some [.int .i8 0], false⟩)]
theorem tm : TM P tab := ⟨by kernel_rfl, by kernel_rfl⟩
def htab0 : Tab := [
 (3, ⟨[], .int .i64, 1, 8, false, some [.int .i64 0], false⟩),
 (5, ⟨[], .int .u8, 1, 1, false, some [.int .u8 0], false⟩),
 (9, ⟨[], .str, 1, 16, false, some [.str ByteArray.empty], false⟩),
 (34, ⟨[], .slice 9 .str, 1, 24, false, some [.emp], false⟩),
 (36, ⟨[], .slice 81 Y7, 1, 24, false, some [.emp], false⟩),
 (79, ⟨[], .struct [(3, 0, 1), (3, 1, 1), (3, 2, 1), (3, 3, 1), (5, 4, 1)], 5, 40, true, some [.int .i64 0, .int .i64 0, .int .i64 0, .int .i64 0, .int .u8 0], true⟩),
 (81, ⟨[], .struct [(9, 0, 1), (34, 1, 1)], 2, 40, true, some [.str ByteArray.empty, .emp], false⟩),
 (104, ⟨[], .slice 5 (.int .u8), 1, 24, false, some [.emp], false⟩),
 (122, ⟨[], .struct [(3, 0, 1), (3, 1, 1), (9, 2, 1), (4, 3, 1), (3, 4, 1)], 5, 48, true, some [.int .i64 0, .int .i64 0, .str ByteArray.empty, .bool false, .int .i64 0], true⟩)]
theorem htm0 : TM P htab0 := ⟨by kernel_rfl, by kernel_rfl⟩
noncomputable def f606p0 {R : Type} (k : Nat) (k0 : D0 → Option R) (k1 : D1 → Option R) (v : D0) : Option R :=
 bif ((decide (0 ≤ v.2.1)) && (decide (v.2.1 < (v.2.2.1.length : Int)))) then
 bif (decide (65 ≤ (v.2.2.1.getD (Int.toNat v.2.1) 0))) then
 bif (decide ((v.2.2.1.getD (Int.toNat v.2.1) 0) ≤ 90)) then
 bif (decide (48 ≤ (v.2.2.1.getD (Int.toNat v.2.1) 0))) then
 bif (decide ((v.2.2.1.getD (Int.toNat v.2.1) 0) ≤ 57)) then
 k0 (v.1, v.2.1, v.2.2.1, ())
 else
 bif ((v.2.2.1.getD (Int.toNat v.2.1) 0) == 95) then
 k0 (v.1, v.2.1, v.2.2.1, ())
 else
 k0 (v.1, v.2.1, v.2.2.1, ())
 else
 bif ((v.2.2.1.getD (Int.toNat v.2.1) 0) == 95) then
 k0 (v.1, v.2.1, v.2.2.1, ())
 else
 k0 (v.1, v.2.1, v.2.2.1, ())
 else
 bif ((v.2.2.1.getD (Int.toNat v.2.1) 0) == 35) then
 bif (decide (48 ≤ (v.2.2.1.getD (Int.toNat v.2.1) 0))) then
 bif (decide ((v.2.2.1.getD (Int.toNat v.2.1) 0) ≤ 57)) then
 k0 (v.1, v.2.1, v.2.2.1, ())
 else
 bif ((v.2.2.1.getD (Int.toNat v.2.1) 0) == 95) then
 k0 (v.1, v.2.1, v.2.2.1, ())
 else
 k0 (v.1, v.2.1, v.2.2.1, ())
 else
 bif ((v.2.2.1.getD (Int.toNat v.2.1) 0) == 95) then
 k0 (v.1, v.2.1, v.2.2.1, ())
 else
 k0 (v.1, v.2.1, v.2.2.1, ())
 else
 bif ((v.2.2.1.getD (Int.toNat v.2.1) 0) == 36) then
 bif (decide (48 ≤ (v.2.2.1.getD (Int.toNat v.2.1) 0))) then
 bif (decide ((v.2.2.1.getD (Int.toNat v.2.1) 0) ≤ 57)) then
 k0 (v.1, v.2.1, v.2.2.1, ())
 else
 bif ((v.2.2.1.getD (Int.toNat v.2.1) 0) == 95) then
 k0 (v.1, v.2.1, v.2.2.1, ())
 else
 k0 (v.1, v.2.1, v.2.2.1, ())
 else
 bif ((v.2.2.1.getD (Int.toNat v.2.1) 0) == 95) then
 k0 (v.1, v.2.1, v.2.2.1, ())
 else
 k0 (v.1, v.2.1, v.2.2.1, ())
 else
 bif (decide (48 ≤ (v.2.2.1.getD (Int.toNat v.2.1) 0))) then
 bif (decide ((v.2.2.1.getD (Int.toNat v.2.1) 0) ≤ 57)) then
 bif (!((v.2.2.1.getD (Int.toNat v.2.1) 0) == 64)) then
 bif (v.2.1 == 0) then
 k1 (false, v.1, v.2.1, v.2.2.1, ())
 else
 k0 (v.1, v.2.1, v.2.2.1, ())
 else
 k0 (v.1, v.2.1, v.2.2.1, ())
 else
 bif ((v.2.2.1.getD (Int.toNat v.2.1) 0) == 95) then
 bif (!((v.2.2.1.getD (Int.toNat v.2.1) 0) == 64)) then
 bif (v.2.1 == 0) then
 k1 (false, v.1, v.2.1, v.2.2.1, ())
 else
 k0 (v.1, v.2.1, v.2.2.1, ())
 else
 k0 (v.1, v.2.1, v.2.2.1, ())
 else
 bif (!((v.2.2.1.getD (Int.toNat v.2.1) 0) == 64)) then
 bif (v.2.1 == 0) then
 k1 (false, v.1, v.2.1, v.2.2.1, ())
 else
 bif (!((v.2.2.1.getD (Int.toNat v.2.1) 0) == 46)) then
 k1 (false, v.1, v.2.1, v.2.2.1, ())
 else
 k0 (v.1, v.2.1, v.2.2.1, ())
 else
 k0 (v.1, v.2.1, v.2.2.1, ())
 else
 bif ((v.2.2.1.getD (Int.toNat v.2.1) 0) == 95) then
 bif (!((v.2.2.1.getD (Int.toNat v.2.1) 0) == 64)) then
 bif (v.2.1 == 0) then
 k1 (false, v.1, v.2.1, v.2.2.1, ())
 else
 k0 (v.1, v.2.1, v.2.2.1, ())
 else
 k0 (v.1, v.2.1, v.2.2.1, ())
 else
 bif (!((v.2.2.1.getD (Int.toNat v.2.1) 0) == 64)) then
 bif (v.2.1 == 0) then
 k1 (false, v.1, v.2.1, v.2.2.1, ())
 else
 bif (!((v.2.2.1.getD (Int.toNat v.2.1) 0) == 46)) then
 k1 (false, v.1, v.2.1, v.2.2.1, ())
 else
 k0 (v.1, v.2.1, v.2.2.1, ())
 else
 k0 (v.1, v.2.1, v.2.2.1, ())
 else
 bif ((v.2.2.1.getD (Int.toNat v.2.1) 0) == 35) then
 bif (decide (48 ≤ (v.2.2.1.getD (Int.toNat v.2.1) 0))) then
 bif (decide ((v.2.2.1.getD (Int.toNat v.2.1) 0) ≤ 57)) then
 k0 (v.1, v.2.1, v.2.2.1, ())
 else
 bif ((v.2.2.1.getD (Int.toNat v.2.1) 0) == 95) then
 k0 (v.1, v.2.1, v.2.2.1, ())
 else
 k0 (v.1, v.2.1, v.2.2.1, ())
 else
 bif ((v.2.2.1.getD (Int.toNat v.2.1) 0) == 95) then
 k0 (v.1, v.2.1, v.2.2.1, ())
 else
 k0 (v.1, v.2.1, v.2.2.1, ())
 else
 bif ((v.2.2.1.getD (Int.toNat v.2.1) 0) == 36) then
 bif (decide (48 ≤ (v.2.2.1.getD (Int.toNat v.2.1) 0))) then
 bif (decide ((v.2.2.1.getD (Int.toNat v.2.1) 0) ≤ 57)) then
 k0 (v.1, v.2.1, v.2.2.1, ())
 else
 bif ((v.2.2.1.getD (Int.toNat v.2.1) 0) == 95) then
 k0 (v.1, v.2.1, v.2.2.1, ())
 else
 k0 (v.1, v.2.1, v.2.2.1, ())
 else
 bif ((v.2.2.1.getD (Int.toNat v.2.1) 0) == 95) then
 k0 (v.1, v.2.1, v.2.2.1, ())
 else
 k0 (v.1, v.2.1, v.2.2.1, ())
 else
 bif (decide (48 ≤ (v.2.2.1.getD (Int.toNat v.2.1) 0))) then
 bif (decide ((v.2.2.1.getD (Int.toNat v.2.1) 0) ≤ 57)) then
 bif (!((v.2.2.1.getD (Int.toNat v.2.1) 0) == 64)) then
 bif (v.2.1 == 0) then
 k1 (false, v.1, v.2.1, v.2.2.1, ())
 else
 k0 (v.1, v.2.1, v.2.2.1, ())
 else
 k0 (v.1, v.2.1, v.2.2.1, ())
 else
 bif ((v.2.2.1.getD (Int.toNat v.2.1) 0) == 95) then
 bif (!((v.2.2.1.getD (Int.toNat v.2.1) 0) == 64)) then
 bif (v.2.1 == 0) then
 k1 (false, v.1, v.2.1, v.2.2.1, ())
 else
 k0 (v.1, v.2.1, v.2.2.1, ())
 else
 k0 (v.1, v.2.1, v.2.2.1, ())
 else
 bif (!((v.2.2.1.getD (Int.toNat v.2.1) 0) == 64)) then
 bif (v.2.1 == 0) then
 k1 (false, v.1, v.2.1, v.2.2.1, ())
 else
 bif (!((v.2.2.1.getD (Int.toNat v.2.1) 0) == 46)) then
 k1 (false, v.1, v.2.1, v.2.2.1, ())
 else
 k0 (v.1, v.2.1, v.2.2.1, ())
 else
 k0 (v.1, v.2.1, v.2.2.1, ())
 else
 bif ((v.2.2.1.getD (Int.toNat v.2.1) 0) == 95) then
 bif (!((v.2.2.1.getD (Int.toNat v.2.1) 0) == 64)) then
 bif (v.2.1 == 0) then
 k1 (false, v.1, v.2.1, v.2.2.1, ())
 else
 k0 (v.1, v.2.1, v.2.2.1, ())
 else
 k0 (v.1, v.2.1, v.2.2.1, ())
 else
 bif (!((v.2.2.1.getD (Int.toNat v.2.1) 0) == 64)) then
 bif (v.2.1 == 0) then
 k1 (false, v.1, v.2.1, v.2.2.1, ())
 else
 bif (!((v.2.2.1.getD (Int.toNat v.2.1) 0) == 46)) then
 k1 (false, v.1, v.2.1, v.2.2.1, ())
 else
 k0 (v.1, v.2.1, v.2.2.1, ())
 else
 k0 (v.1, v.2.1, v.2.2.1, ())
 else none
noncomputable def f606p0S (k : Nat) := partSum ⟨[(15, .one (.own 0)), (16, oI), (17, oI)], [(0, .row 5 (.int .u8) .mark)], 1, []⟩ ⟨[15, 16, 17], [], []⟩ fun R K v => f606p0 k (fun w => K .normal (encSt ⟨[(15, .one (.own 0)), (16, oI), (17, oI)], [(0, .row 5 (.int .u8) .mark)], 1, []⟩ w)) (fun w => K .ret (encSt ⟨[(2, oB), (15, .one (.own 0)), (16, oI), (17, oI)], [(0, .row 5 (.int .u8) .mark)], 1, []⟩ w)) v
theorem f606p0O (k : Nat) : SumO P Tryz.f106 934 (f606p0S k) := pt tm TB.nil ⟨[2, 15, 16, 17], [], []⟩ SumsOk.nil fun _ _ _ => by kernel_rfl
noncomputable def f606l1s {R : Type} (k : Nat) (rec : D0 → Option R) (k0 : Bool × Unit → Option R) (k1 : Unit → Option R) (v : D0) : Option R :=
 bif (decide (v.2.1 < v.1)) then
 f606p0 k
 (fun (w1 : D0) =>
 rec (w1.1, (IntKind.i64.wrap (w1.2.1 + 1)), w1.2.2.1, ()))
 (fun (w2 : D1) =>
 k0 (w2.1, ()))
 (v.1, v.2.1, v.2.2.1, ())
 else
 k1 (())
noncomputable def f606l1 {R : Type} (k : Nat) (k0 : Bool × Unit → Option R) (k1 : Unit → Option R) (v : D0) : Option R := iterS (fun rec v => f606l1s k rec k0 k1 v) k v
noncomputable def f606l1S (k : Nat) := loopSum ⟨[(15, .one (.own 0)), (16, oI), (17, oI)], [(0, .row 5 (.int .u8) .mark)], 1, []⟩ ⟨[15, 16, 17], [], []⟩ k fun R rec K v => f606l1s k rec (fun w => K .ret (encSt ⟨[(2, oB)], [], 0, []⟩ w)) (fun w => K (.exit 0) (encSt ⟨[], [], 0, []⟩ w)) v
theorem f606l1O (k : Nat) : SumO P Tryz.f106 58 (f606l1S k) := lp tm TB.nil ⟨[2], [], []⟩ (SumsOk.nil |>.s (f606p0O k) (by kernel_rfl)) (by kernel_rfl) fun _ _ _ _ => by kernel_rfl
noncomputable def f606F (k : Nat) (x : ByteArray) : Option (Bool) :=
 bif (strEq x ByteArray.empty) then
 some false
 else
 bif (decide ((x.size : Int) > 10)) then
 some false
 else
 bif (decide (x.size ≤ 9223372036854775807)) then
 f606l1 k
 (fun (w3 : Bool × Unit) =>
 some w3.1)
 (fun (w4 : Unit) =>
 some true)
 (((bytesOf x).length : Int), 0, (bytesOf x), ())
 else none
theorem f606Ok (k : Nat) : FnV P 106 [.dat .str] [.dat .bool] (f606F k) :=
 fs tm TB.nil Tryz.func106 (by kernel_rfl) (SumsOk.nil |>.s (f606l1O k) (by kernel_rfl) |>.s (f606p0O k) (by kernel_rfl)) none fun _ => by kernel_rfl
noncomputable def f594F (k : Nat) (x : Bool × Int) : Option (Int) :=
 bif x.1 then
 some x.2
 else
 some 0
theorem f594Ok (k : Nat) : FnV P 94 [.dat .bool, .dat (.int .i64)] [.dat (.int .i64)] (f594F k) :=
 fs tm TB.nil Tryz.func94 (by kernel_rfl) SumsOk.nil none fun _ => by kernel_rfl
noncomputable def f592l0s {R : Type} (k : Nat) (rec : D2 → Option R) (k0 : Int × Unit → Option R) (k1 : Unit → Option R) (v : D2) : Option R :=
 bif (decide (v.2.2.1 < v.2.1)) then
 bif ((decide (0 ≤ v.2.2.1)) && (decide (v.2.2.1 < (v.1.length : Int)))) then
 bif ((v.1.getD (Int.toNat v.2.2.1) 0) != 0) then
 k0 ((v.1.getD (Int.toNat v.2.2.1) 0), ())
 else
 rec (v.1, v.2.1, (IntKind.i64.wrap (v.2.2.1 + 1)), ())
 else none
 else
 k1 (())
noncomputable def f592l0 {R : Type} (k : Nat) (k0 : Int × Unit → Option R) (k1 : Unit → Option R) (v : D2) : Option R := iterS (fun rec v => f592l0s k rec k0 k1 v) k v
noncomputable def f592l0S (k : Nat) := loopSum ⟨[(5, .one (.ro (.int .i64))), (6, oI), (7, oI)], [], 0, []⟩ ⟨[5, 6, 7], [], []⟩ k fun R rec K v => f592l0s k rec (fun w => K .ret (encSt ⟨[(2, oI)], [], 0, []⟩ w)) (fun w => K (.exit 0) (encSt ⟨[], [], 0, []⟩ w)) v
theorem f592l0O (k : Nat) : SumO P Tryz.f92 26 (f592l0S k) := lp tm TB.nil ⟨[2], [], []⟩ SumsOk.nil (by kernel_rfl) fun _ _ _ _ => by kernel_rfl
noncomputable def f592F (k : Nat) (x : (List Int)) : Option (Int) :=
 f592l0 k
 (fun (w1 : Int × Unit) =>
 some w1.1)
 (fun (w2 : Unit) =>
 some 0)
 (x, (x.length : Int), 0, ())
theorem f592Ok (k : Nat) : FnV P 92 [.dat (.slice (.int .i64))] [.dat (.int .i64)] (f592F k) :=
 fs tm TB.nil Tryz.func92 (by kernel_rfl) (SumsOk.nil |>.s (f592l0O k) (by kernel_rfl)) none fun _ => by kernel_rfl
noncomputable def f70F (k : Nat) (x : Int × Int × Int) : Option (Bool) :=
 bif (decide (x.2.1 ≤ x.1)) then
 some (decide (x.1 ≤ x.2.2))
 else
 some false
theorem f70Ok (k : Nat) : FnV P 173 [.dat (.int .i64), .dat (.int .i64), .dat (.int .i64)] [.dat .bool] (f70F k) :=
 fs tm TB.nil Tryz.func173 (by kernel_rfl) SumsOk.nil none fun _ => by kernel_rfl
noncomputable def f43F (k : Nat) (x : Bool × Int) : Option (Int) :=
 bif x.1 then
 some x.2
 else
 some 0
theorem f43Ok (k : Nat) : FnV P 175 [.dat .bool, .dat (.int .i64)] [.dat (.int .i64)] (f43F k) :=
 fs tm TB.nil Tryz.func175 (by kernel_rfl) SumsOk.nil none fun _ => by kernel_rfl
noncomputable def f42l0s {R : Type} (k : Nat) (rec : D2 → Option R) (k0 : Int × Unit → Option R) (k1 : Unit → Option R) (v : D2) : Option R :=
 bif (decide (v.2.2.1 < v.2.1)) then
 bif ((decide (0 ≤ v.2.2.1)) && (decide (v.2.2.1 < (v.1.length : Int)))) then
 bif ((v.1.getD (Int.toNat v.2.2.1) 0) != 0) then
 k0 ((v.1.getD (Int.toNat v.2.2.1) 0), ())
 else
 rec (v.1, v.2.1, (IntKind.i64.wrap (v.2.2.1 + 1)), ())
 else none
 else
 k1 (())
noncomputable def f42l0 {R : Type} (k : Nat) (k0 : Int × Unit → Option R) (k1 : Unit → Option R) (v : D2) : Option R := iterS (fun rec v => f42l0s k rec k0 k1 v) k v
noncomputable def f42l0S (k : Nat) := loopSum ⟨[(5, .one (.ro (.int .i64))), (6, oI), (7, oI)], [], 0, []⟩ ⟨[5, 6, 7], [], []⟩ k fun R rec K v => f42l0s k rec (fun w => K .ret (encSt ⟨[(2, oI)], [], 0, []⟩ w)) (fun w => K (.exit 0) (encSt ⟨[], [], 0, []⟩ w)) v
theorem f42l0O (k : Nat) : SumO P Tryz.f174 26 (f42l0S k) := lp tm TB.nil ⟨[2], [], []⟩ SumsOk.nil (by kernel_rfl) fun _ _ _ _ => by kernel_rfl
noncomputable def f42F (k : Nat) (x : (List Int)) : Option (Int) :=
 f42l0 k
 (fun (w1 : Int × Unit) =>
 some w1.1)
 (fun (w2 : Unit) =>
 some 0)
 (x, (x.length : Int), 0, ())
theorem f42Ok (k : Nat) : FnV P 174 [.dat (.slice (.int .i64))] [.dat (.int .i64)] (f42F k) :=
 fs tm TB.nil Tryz.func174 (by kernel_rfl) (SumsOk.nil |>.s (f42l0O k) (by kernel_rfl)) none fun _ => by kernel_rfl
noncomputable def f28T (k : Nat) : TB P := TB.nil |>.u (f43Ok k) |>.u (f42Ok k) |>.u (f70Ok k)
noncomputable def f28p0 {R : Type} (k : Nat) (k0 : D3 → Option R) (v : D4) : Option R :=
 bif (v.2.1 == 1) then
 k0 (v.1, v.2.1, (v.2.1 == 1), v.2.2.1, v.2.2.2.1, v.2.2.2.2.1, ())
 else
 k0 (v.1, v.2.1, (v.2.1 == 2), v.2.2.1, v.2.2.2.1, v.2.2.2.2.1, ())
noncomputable def f28p0S (k : Nat) := partSum ⟨[(1, .one (.ptr 0 0)), (4, oB), (9, oI)], [(0, .var 154 [.int .i64, .int .i64, .int .i64])], 1, []⟩ ⟨[1, 4, 9], [], []⟩ fun R K v => f28p0 k (fun w => K .normal (encSt ⟨[(1, .one (.ptr 0 0)), (4, oB), (9, oI), (15, oB)], [(0, .var 154 [.int .i64, .int .i64, .int .i64])], 1, []⟩ w)) v
theorem f28p0O (k : Nat) : SumO P Tryz.f157 470 (f28p0S k) := pt tm (f28T k) ⟨[1, 2, 4, 9, 15], [], []⟩ SumsOk.nil fun _ _ _ => by kernel_rfl
noncomputable def f28p1 {R : Type} (k : Nat) (k0 : Bool × Bool × Unit → Option R) (k1 : Int × Bool × Unit → Option R) (v : D5) : Option R :=
 bif (v.2.1 == 0) then
 Option.bind (f70F k (v.2.2.1, 1, 256)) fun y1 =>
 k0 (y1, v.1, ())
 else
 f28p0 k
 (fun (w2 : D3) =>
 bif w2.2.2.1 then
 Option.bind (f70F k (w2.2.2.2.2.1, 1, 15)) fun y3 =>
 Option.bind (f70F k (w2.2.2.2.2.2.1, 0, w2.2.2.2.2.1)) fun y4 =>
 k0 (y3, y4, ())
 else
 bif (w2.2.1 == 3) then
 bif (w2.2.2.2.2.1 == 4) then
 Option.bind (f70F k (w2.2.2.2.2.2.1, 0, w2.2.2.2.2.1)) fun y5 =>
 k0 (true, y5, ())
 else
 Option.bind (f70F k (w2.2.2.2.2.2.1, 0, w2.2.2.2.2.1)) fun y6 =>
 k0 ((w2.2.2.2.2.1 == 9), y6, ())
 else
 bif (w2.2.1 == 4) then
 k0 ((w2.2.2.2.2.1 == 0), w2.1, ())
 else
 k1 (4, w2.1, ()))
 (v.1, v.2.1, v.2.1, v.2.2.1, v.2.2.2.1, ())
noncomputable def f28p1S (k : Nat) := partSum ⟨[(1, .one (.ptr 0 0)), (4, oB)], [(0, .var 154 [.int .i64, .int .i64, .int .i64])], 1, []⟩ ⟨[1, 4], [], []⟩ fun R K v => f28p1 k (fun w => K .normal (encSt ⟨[(3, oB), (4, oB)], [], 0, []⟩ w)) (fun w => K .ret (encSt ⟨[(2, oI), (4, oB)], [], 0, []⟩ w)) v
theorem f28p1O (k : Nat) : SumO P Tryz.f157 14 (f28p1S k) := pt tm (f28T k) ⟨[2, 3, 4], [], []⟩ (SumsOk.nil |>.s (f28p0O k) (by kernel_rfl)) fun _ _ _ => by kernel_rfl
noncomputable def f28F (k : Nat) (x : (Int × (Int × Int))) : Option (Int) :=
 f28p1 k
 (fun (w7 : Bool × Bool × Unit) =>
 Option.bind (f43F k ((!w7.1), 18)) fun y8 =>
 Option.bind (f43F k ((!w7.2.1), 3)) fun y9 =>
 Option.bind (f42F k [y8, y9]) fun y10 =>
 some y10)
 (fun (w11 : Int × Bool × Unit) =>
 some w11.1)
 ((x.2.2 == 0), x.1, x.2.1, x.2.2, ())
theorem f28Ok (k : Nat) : FnV P 157 [.agg (.pair (.int .i64) Y0)] [.dat (.int .i64)] (f28F k) :=
 fs tm (f28T k) Tryz.func157 (by kernel_rfl) (SumsOk.nil |>.s (f28p1O k) (by kernel_rfl) |>.s (f28p0O k) (by kernel_rfl)) none fun _ => by kernel_rfl
noncomputable def f44F (k : Nat) (x : (Int × (Int × Int))) : Option (Int) :=
 bif (x.1 == 1) then
 let t1 := (IntKind.i64.wrap ((IntKind.i64.wrap (Int.tdiv x.2.1 2)) + 1))
 some t1
 else
 bif (x.1 == 3) then
 let t2 := (IntKind.i64.wrap ((IntKind.i64.wrap (Int.tdiv x.2.1 9)) * 2))
 some (IntKind.i64.wrap (2 + t2))
 else
 bif (x.1 == 4) then
 some 16
 else
 some x.2.1
theorem f44Ok (k : Nat) : FnV P 176 [.agg (.pair (.int .i64) Y0)] [.dat (.int .i64)] (f44F k) :=
 fs tm TB.nil Tryz.func176 (by kernel_rfl) SumsOk.nil none fun _ => by kernel_rfl
noncomputable def f24T (k : Nat) : TB P := TB.nil |>.u (f44Ok k) |>.u (f28Ok k)
noncomputable def f24F (k : Nat) (x : (Int × (Int × Int))) : Option (Int × Int) :=
 Option.bind (f28F k (x.1, (x.2.1, x.2.2))) fun y1 =>
 bif (y1 != 0) then
 some (0, y1)
 else
 Option.bind (f44F k (x.1, (x.2.1, x.2.2))) fun y2 =>
 some (y2, 0)
theorem f24Ok (k : Nat) : FnV P 158 [.agg (.pair (.int .i64) Y0)] [.dat (.int .i64), .dat (.int .i64)] (f24F k) :=
 fs tm (f24T k) Tryz.func158 (by kernel_rfl) SumsOk.nil none fun _ => by kernel_rfl
noncomputable def f640T (k : Nat) : TB P := TB.nil |>.u (f24Ok k)
noncomputable def f640F (k : Nat) (x : D6) : Option (Int) :=
 Option.bind (f24F k (x.2.1, (x.2.2.1, x.2.2.2))) fun y1 =>
 some y1.1
theorem f640Ok (k : Nat) : FnV P 140 [.agg Y1] [.dat (.int .i64)] (f640F k) :=
 fs tm (f640T k) Tryz.func140 (by kernel_rfl) SumsOk.nil none fun _ => by kernel_rfl
noncomputable def f608T (k : Nat) : TB P := TB.nil |>.u (f640Ok k)
noncomputable def f608l0s {R : Type} (k : Nat) (rec : D7 → Option R) (k0 : Int × Int × Bool × Unit → Option R) (k1 : Unit → Option R) (v : D7) : Option R :=
 bif (decide (v.2.2.2.2.1 < v.2.2.2.1)) then
 bif ((decide (0 ≤ v.2.2.2.2.1)) && (decide (v.2.2.2.2.1 < (v.2.2.1.length : Int)))) then
 let t1 := (v.2.2.1.getD (Int.toNat v.2.2.2.2.1) (ByteArray.empty, (0, (0, 0))))
 bif (strEq t1.1 v.1) then
 k0 (v.2.2.2.2.1, v.2.1, true, ())
 else
 Option.bind (f640F k (t1.1, (t1.2.1, (t1.2.2.1, t1.2.2.2)))) fun y2 =>
 rec (v.1, (IntKind.i64.wrap (v.2.1 + y2)), v.2.2.1, v.2.2.2.1, (IntKind.i64.wrap (v.2.2.2.2.1 + 1)), ())
 else none
 else
 k1 (())
noncomputable def f608l0 {R : Type} (k : Nat) (k0 : Int × Int × Bool × Unit → Option R) (k1 : Unit → Option R) (v : D7) : Option R := iterS (fun rec v => f608l0s k rec k0 k1 v) k v
noncomputable def f608l0S (k : Nat) := loopSum ⟨[(1, oS), (7, oI), (11, .one (.ro Y1)), (12, oI), (13, oI)], [], 0, []⟩ ⟨[1, 7, 11, 12, 13], [], []⟩ k fun R rec K v => f608l0s k rec (fun w => K .ret (encSt ⟨[(4, oI), (5, oI), (6, oB)], [], 0, []⟩ w)) (fun w => K (.exit 0) (encSt ⟨[], [], 0, []⟩ w)) v
theorem f608l0O (k : Nat) : SumO P Tryz.f108 58 (f608l0S k) := lp tm (f608T k) ⟨[4, 5, 6], [], []⟩ SumsOk.nil (by kernel_rfl) fun _ _ _ _ => by kernel_rfl
noncomputable def f608F (k : Nat) (x : D8) : Option (Int × Int × Bool) :=
 f608l0 k
 (fun (w3 : Int × Int × Bool × Unit) =>
 some (w3.1, w3.2.1, w3.2.2.1))
 (fun (w4 : Unit) =>
 some (0, 0, false))
 (x.2, 0, x.1.2, (x.1.2.length : Int), 0, ())
theorem f608Ok (k : Nat) : FnV P 108 [.agg Y2, .dat .str] [.dat (.int .i64), .dat (.int .i64), .dat .bool] (f608F k) :=
 fs tm (f608T k) Tryz.func108 (by kernel_rfl) (SumsOk.nil |>.s (f608l0O k) (by kernel_rfl)) none fun _ => by kernel_rfl
noncomputable def f639T (k : Nat) : TB P := TB.nil |>.u (f28Ok k) |>.u (f640Ok k) |>.u (f608Ok k) |>.u (f606Ok k) |>.u (f594Ok k) |>.u (f592Ok k)
noncomputable def f639l0s {R : Type} (k : Nat) (rec : D9 → Option R) (k0 : Int × Int × Int × Unit → Option R) (k1 : Int × Unit → Option R) (v : D9) : Option R :=
 bif (decide (v.2.2.2.1 < v.2.2.1)) then
 bif ((decide (0 ≤ v.2.2.2.1)) && (decide (v.2.2.2.1 < (v.2.1.length : Int)))) then
 let t6 := (v.2.1.getD (Int.toNat v.2.2.2.1) (ByteArray.empty, (0, (0, 0))))
 bif (sliceBds 0 v.2.2.2.1 (v.2.2.2.2.2.1.length : Int)) then
 Option.bind (f608F k ((ByteArray.empty, ((v.2.2.2.2.2.1.take (Int.toNat v.2.2.2.1)).drop 0)), t6.1)) fun y7 =>
 Option.bind (f606F k t6.1) fun y8 =>
 Option.bind (f594F k ((!y8), 7)) fun y9 =>
 Option.bind (f594F k (y7.2.2, 13)) fun y10 =>
 Option.bind (f28F k (t6.2.1, (t6.2.2.1, t6.2.2.2))) fun y11 =>
 Option.bind (f594F k ((t6.2.1 == 4), 17)) fun y12 =>
 Option.bind (f592F k [y9, y10, y11, y12]) fun y13 =>
 bif (y13 != 0) then
 k0 (v.2.2.2.1, y13, v.1, ())
 else
 Option.bind (f640F k (t6.1, (t6.2.1, (t6.2.2.1, t6.2.2.2)))) fun y14 =>
 rec ((IntKind.i64.wrap (v.1 + y14)), v.2.1, v.2.2.1, (IntKind.i64.wrap (v.2.2.2.1 + 1)), v.2.2.2.2.1, v.2.2.2.2.2.1, ())
 else none
 else none
 else
 k1 (v.1, ())
noncomputable def f639l0 {R : Type} (k : Nat) (k0 : Int × Int × Int × Unit → Option R) (k1 : Int × Unit → Option R) (v : D9) : Option R := iterS (fun rec v => f639l0s k rec k0 k1 v) k v
noncomputable def f639l0S (k : Nat) := loopSum ⟨[(1, .one (.ptr 0 0)), (5, oI), (33, .one (.ro Y1)), (34, oI), (35, oI)], [(0, .var 46 [.str, .ro Y1])], 1, []⟩ ⟨[1, 5, 33, 34, 35], [], []⟩ k fun R rec K v => f639l0s k rec (fun w => K .ret (encSt ⟨[(2, oI), (3, oI), (5, oI)], [], 0, []⟩ w)) (fun w => K (.exit 0) (encSt ⟨[(5, oI)], [], 0, []⟩ w)) v
theorem f639l0O (k : Nat) : SumO P Tryz.f139 122 (f639l0S k) := lp tm (f639T k) ⟨[2, 3, 5], [], []⟩ SumsOk.nil (by kernel_rfl) fun _ _ _ _ => by kernel_rfl
noncomputable def f639F (k : Nat) (x : (ByteArray × (List D6))) : Option (Int × Int) :=
 Option.bind (f606F k x.1) fun y1 =>
 Option.bind (f594F k ((!y1), 7)) fun y2 =>
 Option.bind (f594F k (((x.2.length : Int) == 0), 1)) fun y3 =>
 Option.bind (f594F k ((decide ((x.2.length : Int) > 20)), 2)) fun y4 =>
 Option.bind (f592F k [y2, y3, y4]) fun y5 =>
 bif (y5 != 0) then
 some (0, y5)
 else
 f639l0 k
 (fun (w15 : Int × Int × Int × Unit) =>
 some (w15.1, w15.2.1))
 (fun (w16 : Int × Unit) =>
 Option.bind (f594F k ((decide (w16.1 > 200)), 18)) fun y17 =>
 some (0, y17))
 (0, x.2, (x.2.length : Int), 0, x.1, x.2, ())
theorem f639Ok (k : Nat) : FnV P 139 [.agg Y2] [.dat (.int .i64), .dat (.int .i64)] (f639F k) :=
 fs tm (f639T k) Tryz.func139 (by kernel_rfl) (SumsOk.nil |>.s (f639l0O k) (by kernel_rfl)) none fun _ => by kernel_rfl
noncomputable def f607T (k : Nat) : TB P := TB.nil |>.u (f639Ok k)
noncomputable def f607F (k : Nat) (x : (ByteArray × (List D6))) : Option (Int) :=
 Option.bind (f639F k (x.1, x.2)) fun y1 =>
 some y1.2
theorem f607Ok (k : Nat) : FnV P 107 [.agg Y2] [.dat (.int .i64)] (f607F k) :=
 fs tm (f607T k) Tryz.func107 (by kernel_rfl) SumsOk.nil none fun _ => by kernel_rfl
noncomputable def f569T (k : Nat) : TB P := TB.nil |>.u (f608Ok k) |>.u (f607Ok k) |>.u (f606Ok k) |>.u (f594Ok k) |>.u (f592Ok k)
noncomputable def f569l0s {R : Type} (k : Nat) (rec : D10 → Option R) (k0 : Int × Int × Unit → Option R) (k1 : Unit → Option R) (v : D10) : Option R :=
 bif (decide (v.2.2.1 < v.2.1)) then
 bif ((decide (0 ≤ v.2.2.1)) && (decide (v.2.2.1 < (v.1.length : Int)))) then
 Option.bind (f608F k ((v.2.2.2.2.1, v.2.2.2.2.2.1), (v.1.getD (Int.toNat v.2.2.1) (ByteArray.empty, false)).1)) fun y6 =>
 Option.bind (f594F k ((!y6.2.2), 11)) fun y7 =>
 let t8 := (smapGet v.2.2.2.2.2.2.2.2.1 (v.1.getD (Int.toNat v.2.2.1) (ByteArray.empty, false)).1)
 Option.bind (f594F k (t8, 13)) fun y9 =>
 Option.bind (f592F k [y7, y9]) fun y10 =>
 bif (y10 != 0) then
 k0 (v.2.2.1, y10, ())
 else
 let t11 := (smapPut v.2.2.2.2.2.2.2.2.1 (v.1.getD (Int.toNat v.2.2.1) (ByteArray.empty, false)).1 true)
 rec (v.1, v.2.1, (IntKind.i64.wrap (v.2.2.1 + 1)), v.2.2.2.1, v.2.2.2.2.1, v.2.2.2.2.2.1, v.2.2.2.2.2.2.1, v.2.2.2.2.2.2.2.1, t11, ())
 else none
 else
 k1 (())
noncomputable def f569l0 {R : Type} (k : Nat) (k0 : Int × Int × Unit → Option R) (k1 : Unit → Option R) (v : D10) : Option R := iterS (fun rec v => f569l0s k rec k0 k1 v) k v
noncomputable def f569l0S (k : Nat) := loopSum ⟨[(1, .one (.ptr 0 0)), (5, .one (.mref 1)), (32, .one (.ro (.pair .str .bool))), (33, oI), (34, oI)], [(0, .var 49 [.str, .str, .ro Y1, .ro (.pair .str .bool), .bool]), (1, .smap)], 2, []⟩ ⟨[1, 5, 32, 33, 34], [], []⟩ k fun R rec K v => f569l0s k rec (fun w => K .ret (encSt ⟨[(2, oI), (3, oI)], [], 0, []⟩ w)) (fun w => K (.exit 0) (encSt ⟨[], [], 0, []⟩ w)) v
theorem f569l0O (k : Nat) : SumO P Tryz.f69 122 (f569l0S k) := lp tm (f569T k) ⟨[2, 3], [], []⟩ SumsOk.nil (by kernel_rfl) fun _ _ _ _ => by kernel_rfl
noncomputable def f569F (k : Nat) (x : (ByteArray × D12)) : Option (Int × Int) :=
 Option.bind (f606F k x.1) fun y1 =>
 Option.bind (f594F k ((!y1), 7)) fun y2 =>
 Option.bind (f607F k (x.2.1.1, x.2.1.2)) fun y3 =>
 Option.bind (f594F k ((decide ((x.2.2.1.length : Int) > 4)), 2)) fun y4 =>
 Option.bind (f592F k [y2, y3, y4]) fun y5 =>
 bif (y5 != 0) then
 some (0, y5)
 else
 f569l0 k
 (fun (w12 : Int × Int × Unit) =>
 some (w12.1, w12.2.1))
 (fun (w13 : Unit) =>
 some (0, 0))
 (x.2.2.1, (x.2.2.1.length : Int), 0, x.1, x.2.1.1, x.2.1.2, x.2.2.1, x.2.2.2, [], ())
theorem f569Ok (k : Nat) : FnV P 69 [.agg Y4] [.dat (.int .i64), .dat (.int .i64)] (f569F k) :=
 fs tm (f569T k) Tryz.func69 (by kernel_rfl) (SumsOk.nil |>.s (f569l0O k) (by kernel_rfl)) none fun _ => by kernel_rfl
noncomputable def f593T (k : Nat) : TB P := TB.nil |>.u (f569Ok k)
noncomputable def f593F (k : Nat) (x : (ByteArray × D12)) : Option (Int) :=
 Option.bind (f569F k (x.1, ((x.2.1.1, x.2.1.2), (x.2.2.1, x.2.2.2)))) fun y1 =>
 some y1.2
theorem f593Ok (k : Nat) : FnV P 93 [.agg Y4] [.dat (.int .i64)] (f593F k) :=
 fs tm (f593T k) Tryz.func93 (by kernel_rfl) SumsOk.nil none fun _ => by kernel_rfl
noncomputable def f645T (k : Nat) : TB P := TB.nil |>.u (f640Ok k)
noncomputable def f645l0s {R : Type} (k : Nat) (rec : D13 → Option R) (k0 : Int × Unit → Option R) (v : D13) : Option R :=
 bif (decide (v.2.2.2.1 < v.2.2.1)) then
 bif ((decide (0 ≤ v.2.2.2.1)) && (decide (v.2.2.2.1 < (v.2.1.length : Int)))) then
 let t1 := (v.2.1.getD (Int.toNat v.2.2.2.1) (ByteArray.empty, (0, (0, 0))))
 Option.bind (f640F k (t1.1, (t1.2.1, (t1.2.2.1, t1.2.2.2)))) fun y2 =>
 rec ((IntKind.i64.wrap (v.1 + y2)), v.2.1, v.2.2.1, (IntKind.i64.wrap (v.2.2.2.1 + 1)), ())
 else none
 else
 k0 (v.1, ())
noncomputable def f645l0 {R : Type} (k : Nat) (k0 : Int × Unit → Option R) (v : D13) : Option R := iterS (fun rec v => f645l0s k rec k0 v) k v
noncomputable def f645l0S (k : Nat) := loopSum ⟨[(3, oI), (7, .one (.ro Y1)), (8, oI), (9, oI)], [], 0, []⟩ ⟨[3, 7, 8, 9], [], []⟩ k fun R rec K v => f645l0s k rec (fun w => K (.exit 0) (encSt ⟨[(3, oI)], [], 0, []⟩ w)) v
theorem f645l0O (k : Nat) : SumO P Tryz.f145 58 (f645l0S k) := lp tm (f645T k) ⟨[2, 3], [], []⟩ SumsOk.nil (by kernel_rfl) fun _ _ _ _ => by kernel_rfl
noncomputable def f645F (k : Nat) (x : (ByteArray × (List D6))) : Option (Int) :=
 f645l0 k
 (fun (w3 : Int × Unit) =>
 some w3.1)
 (0, x.2, (x.2.length : Int), 0, ())
theorem f645Ok (k : Nat) : FnV P 145 [.agg Y2] [.dat (.int .i64)] (f645F k) :=
 fs tm (f645T k) Tryz.func145 (by kernel_rfl) (SumsOk.nil |>.s (f645l0O k) (by kernel_rfl)) none fun _ => by kernel_rfl
noncomputable def f45l0s {R : Type} (k : Nat) (rec : D14 → Option R) (k0 : Int × Unit → Option R) (v : D14) : Option R :=
 bif (decide (v.2.2.1 < v.2.1)) then
 bif ((decide (0 ≤ v.2.2.1)) && (decide (v.2.2.1 < (v.2.2.2.1.length : Int)))) then
 let t1 := (bits .or .i64 (shlI .i64 v.1 8) (IntKind.i64.wrap (v.2.2.2.1.getD (Int.toNat v.2.2.1) 0)))
 rec (t1, v.2.1, (IntKind.i64.wrap (v.2.2.1 + 1)), v.2.2.2.1, ())
 else none
 else
 k0 (v.1, ())
noncomputable def f45l0 {R : Type} (k : Nat) (k0 : Int × Unit → Option R) (v : D14) : Option R := iterS (fun rec v => f45l0s k rec k0 v) k v
noncomputable def f45l0S (k : Nat) := loopSum ⟨[(3, oI), (12, .one (.own 0)), (13, oI), (14, oI)], [(0, .row 5 (.int .u8) .mark)], 1, []⟩ ⟨[3, 12, 13, 14], [], []⟩ k fun R rec K v => f45l0s k rec (fun w => K (.exit 0) (encSt ⟨[(3, oI)], [], 0, []⟩ w)) v
theorem f45l0O (k : Nat) : SumO P Tryz.f196 58 (f45l0S k) := lp tm TB.nil ⟨[2, 3], [], []⟩ SumsOk.nil (by kernel_rfl) fun _ _ _ _ => by kernel_rfl
noncomputable def f45F (k : Nat) (x : ByteArray) : Option (Int) :=
 bif (decide (0 < (x.size : Int))) then
 bif (sliceBds 1 (x.size : Int) (x.size : Int)) then
 bif (decide ((x.extract 1 (Int.toNat (x.size : Int))).size ≤ 9223372036854775807)) then
 f45l0 k
 (fun (w2 : Int × Unit) =>
 some w2.1)
 ((IntKind.i64.wrap (IntKind.i8.wrap (bt x 0))), ((bytesOf (x.extract 1 (Int.toNat (x.size : Int)))).length : Int), 0, (bytesOf (x.extract 1 (Int.toNat (x.size : Int)))), ())
 else none
 else none
 else none
theorem f45Ok (k : Nat) : FnV P 196 [.dat .str] [.dat (.int .i64)] (f45F k) :=
 fs tm TB.nil Tryz.func196 (by kernel_rfl) (SumsOk.nil |>.s (f45l0O k) (by kernel_rfl)) none fun _ => by kernel_rfl
noncomputable def f71l0s {R : Type} (k : Nat) (rec : Int × Int × Int × Unit → Option R) (k0 : Int × Unit → Option R) (v : Int × Int × Int × Unit) : Option R :=
 bif (decide (v.2.2.1 < v.2.1)) then
 rec ((IntKind.i64.wrap (v.1 * 10)), v.2.1, (IntKind.i64.wrap (v.2.2.1 + 1)), ())
 else
 k0 (v.1, ())
noncomputable def f71l0 {R : Type} (k : Nat) (k0 : Int × Unit → Option R) (v : Int × Int × Int × Unit) : Option R := iterS (fun rec v => f71l0s k rec k0 v) k v
noncomputable def f71l0S (k : Nat) := loopSum ⟨[(3, oI), (5, oI), (6, oI)], [], 0, []⟩ ⟨[3, 5, 6], [], []⟩ k fun R rec K v => f71l0s k rec (fun w => K (.exit 0) (encSt ⟨[(3, oI)], [], 0, []⟩ w)) v
theorem f71l0O (k : Nat) : SumO P Tryz.f206 58 (f71l0S k) := lp tm TB.nil ⟨[2, 3], [], []⟩ SumsOk.nil (by kernel_rfl) fun _ _ _ _ => by kernel_rfl
noncomputable def f71F (k : Nat) (x : Int) : Option (Int) :=
 f71l0 k
 (fun (w1 : Int × Unit) =>
 some w1.1)
 (1, (mnI x 18), 0, ())
theorem f71Ok (k : Nat) : FnV P 206 [.dat (.int .i64)] [.dat (.int .i64)] (f71F k) :=
 fs tm TB.nil Tryz.func206 (by kernel_rfl) (SumsOk.nil |>.s (f71l0O k) (by kernel_rfl)) none fun _ => by kernel_rfl
noncomputable def f29T (k : Nat) : TB P := TB.nil |>.u (f71Ok k) |>.u (f43Ok k) |>.u (f42Ok k) |>.u (f70Ok k) |>.u (f28Ok k)
noncomputable def f29F (k : Nat) (x : D15) : Option (Int) :=
 Option.bind (f28F k (x.1.1, (x.1.2.1, x.1.2.2))) fun y1 =>
 Option.bind (f43F k ((x.1.1 == 4), 17)) fun y2 =>
 Option.bind (f42F k [y1, y2]) fun y3 =>
 bif (y3 != 0) then
 some y3
 else
 bif (x.1.1 == 0) then
 Option.bind (f43F k ((x.2.1 != 0), 5)) fun y4 =>
 Option.bind (f43F k (((x.2.2.size : Int) != x.1.2.1), 18)) fun y5 =>
 Option.bind (f42F k [y4, y5]) fun y6 =>
 some y6
 else
 Option.bind (f71F k x.1.2.1) fun y7 =>
 Option.bind (f43F k ((!strEq x.2.2 ByteArray.empty), 5)) fun y8 =>
 Option.bind (f70F k (x.2.1, (IntKind.i64.wrap (0 - (IntKind.i64.wrap (y7 - 1)))), (IntKind.i64.wrap (y7 - 1)))) fun y9 =>
 Option.bind (f43F k ((!y9), 19)) fun y10 =>
 Option.bind (f42F k [y8, y10]) fun y11 =>
 some y11
theorem f29Ok (k : Nat) : FnV P 197 [.agg (.pair (.int .i64) Y0), .agg Y5] [.dat (.int .i64)] (f29F k) :=
 fs tm (f29T k) Tryz.func197 (by kernel_rfl) SumsOk.nil none fun _ => by kernel_rfl
noncomputable def f80p0 {R : Type} (k : Nat) (k0 : D16 → Option R) (v : D16) : Option R :=
 bif ((decide (0 ≤ v.2.2.1)) && (decide (v.2.2.1 < (v.1.size : Int)))) then
 bif ((decide (0 ≤ v.2.2.1)) && (decide (v.2.2.1 < (v.1.size : Int)))) then
 bif (v.2.2.2.1 == 1) then
 let t1 := [(shrI .u8 (bt v.1 v.2.2.1) 4), (bits .and .u8 (bt v.1 v.2.2.1) 15)]
 bif (decide ((v.2.2.2.2.2.2.1.length + t1.length) * 1 ≤ 140737488355328) && decide (v.2.2.2.2.2.2.1.length + t1.length ≤ 9223372036854775807)) then
 bif (decide ((v.2.2.2.2.2.2.2.1.length + [v.2.2.1, v.2.2.1].length) * 8 ≤ 140737488355328) && decide (v.2.2.2.2.2.2.2.1.length + [v.2.2.1, v.2.2.1].length ≤ 9223372036854775807)) then
 k0 (v.1, v.2.1, v.2.2.1, v.2.2.2.1, v.2.2.2.2.1, v.2.2.2.2.2.1, (v.2.2.2.2.2.2.1 ++ t1), (v.2.2.2.2.2.2.2.1 ++ [v.2.2.1, v.2.2.1]), ())
 else none
 else none
 else
 bif (decide ((v.2.2.2.2.2.2.1.length + [(bits .and .u8 (bt v.1 v.2.2.1) 15)].length) * 1 ≤ 140737488355328) && decide (v.2.2.2.2.2.2.1.length + [(bits .and .u8 (bt v.1 v.2.2.1) 15)].length ≤ 9223372036854775807)) then
 bif (decide ((v.2.2.2.2.2.2.2.1.length + [v.2.2.1].length) * 8 ≤ 140737488355328) && decide (v.2.2.2.2.2.2.2.1.length + [v.2.2.1].length ≤ 9223372036854775807)) then
 k0 (v.1, v.2.1, v.2.2.1, v.2.2.2.1, v.2.2.2.2.1, v.2.2.2.2.2.1, (v.2.2.2.2.2.2.1 ++ [(bits .and .u8 (bt v.1 v.2.2.1) 15)]), (v.2.2.2.2.2.2.2.1 ++ [v.2.2.1]), ())
 else none
 else none
 else none
 else none
noncomputable def f80p0S (k : Nat) := partSum ⟨[(1, oS), (2, .one (.ptr 0 0)), (4, .one (.own 1)), (5, .one (.own 2)), (10, oI), (11, oI)], [(0, .var 154 [.int .i64, .int .i64, .int .i64]), (1, .row 5 (.int .u8) .plain), (2, .row 3 (.int .i64) .plain)], 3, []⟩ ⟨[1, 2, 4, 5, 10, 11], [], []⟩ fun R K v => f80p0 k (fun w => K .normal (encSt ⟨[(1, oS), (2, .one (.ptr 0 0)), (4, .one (.own 1)), (5, .one (.own 2)), (10, oI), (11, oI)], [(0, .var 154 [.int .i64, .int .i64, .int .i64]), (1, .row 5 (.int .u8) .plain), (2, .row 3 (.int .i64) .plain)], 3, []⟩ w)) v
theorem f80p0O (k : Nat) : SumO P Tryz.f207 422 (f80p0S k) := pt tm TB.nil ⟨[1, 2, 4, 5, 10, 11], [], []⟩ SumsOk.nil fun _ _ _ => by kernel_rfl
noncomputable def f80l1s {R : Type} (k : Nat) (rec : D16 → Option R) (k0 : D17 → Option R) (v : D16) : Option R :=
 bif (decide (v.2.2.1 < v.2.1)) then
 f80p0 k
 (fun (w2 : D16) =>
 rec (w2.1, w2.2.1, (IntKind.i64.wrap (w2.2.2.1 + 1)), w2.2.2.2.1, w2.2.2.2.2.1, w2.2.2.2.2.2.1, w2.2.2.2.2.2.2.1, w2.2.2.2.2.2.2.2.1, ()))
 (v.1, v.2.1, v.2.2.1, v.2.2.2.1, v.2.2.2.2.1, v.2.2.2.2.2.1, v.2.2.2.2.2.2.1, v.2.2.2.2.2.2.2.1, ())
 else
 k0 (v.1, v.2.2.2.1, v.2.2.2.2.1, v.2.2.2.2.2.1, v.2.2.2.2.2.2.1, v.2.2.2.2.2.2.2.1, ())
noncomputable def f80l1 {R : Type} (k : Nat) (k0 : D17 → Option R) (v : D16) : Option R := iterS (fun rec v => f80l1s k rec k0 v) k v
noncomputable def f80l1S (k : Nat) := loopSum ⟨[(1, oS), (2, .one (.ptr 0 0)), (4, .one (.own 1)), (5, .one (.own 2)), (10, oI), (11, oI)], [(0, .var 154 [.int .i64, .int .i64, .int .i64]), (1, .row 5 (.int .u8) .plain), (2, .row 3 (.int .i64) .plain)], 3, []⟩ ⟨[1, 2, 4, 5, 10, 11], [(4, 5, (.int .u8)), (5, 3, (.int .i64))], []⟩ k fun R rec K v => f80l1s k rec (fun w => K (.exit 0) (encSt ⟨[(1, oS), (2, .one (.ptr 0 0)), (4, .one (.own 1)), (5, .one (.own 2))], [(0, .var 154 [.int .i64, .int .i64, .int .i64]), (1, .row 5 (.int .u8) .plain), (2, .row 3 (.int .i64) .plain)], 3, []⟩ w)) v
theorem f80l1O (k : Nat) : SumO P Tryz.f207 26 (f80l1S k) := lp tm TB.nil ⟨[1, 2, 4, 5], [], []⟩ (SumsOk.nil |>.s (f80p0O k) (by kernel_rfl)) (by kernel_rfl) fun _ _ _ _ => by kernel_rfl
noncomputable def f80p2 {R : Type} (k : Nat) (k0 : D17 → Option R) (v : D17) : Option R :=
 bif (v.2.1 == 2) then
 bif ((decide (0 ≤ (IntKind.i64.wrap ((v.1.size : Int) - 1)))) && (decide ((IntKind.i64.wrap ((v.1.size : Int) - 1)) < (v.1.size : Int)))) then
 let t4 := (shrI .u8 (bt v.1 (IntKind.i64.wrap ((v.1.size : Int) - 1))) 4)
 bif (decide ((v.2.2.2.2.1.length + [t4].length) * 1 ≤ 140737488355328) && decide (v.2.2.2.2.1.length + [t4].length ≤ 9223372036854775807)) then
 bif (decide ((v.2.2.2.2.2.1.length + [(IntKind.i64.wrap ((v.1.size : Int) - 1))].length) * 8 ≤ 140737488355328) && decide (v.2.2.2.2.2.1.length + [(IntKind.i64.wrap ((v.1.size : Int) - 1))].length ≤ 9223372036854775807)) then
 k0 (v.1, v.2.1, v.2.2.1, v.2.2.2.1, (v.2.2.2.2.1 ++ [t4]), (v.2.2.2.2.2.1 ++ [(IntKind.i64.wrap ((v.1.size : Int) - 1))]), ())
 else none
 else none
 else none
 else
 k0 (v.1, v.2.1, v.2.2.1, v.2.2.2.1, v.2.2.2.2.1, v.2.2.2.2.2.1, ())
noncomputable def f80p2S (k : Nat) := partSum ⟨[(1, oS), (2, .one (.ptr 0 0)), (4, .one (.own 1)), (5, .one (.own 2))], [(0, .var 154 [.int .i64, .int .i64, .int .i64]), (1, .row 5 (.int .u8) .plain), (2, .row 3 (.int .i64) .plain)], 3, []⟩ ⟨[1, 2, 4, 5], [], []⟩ fun R K v => f80p2 k (fun w => K .normal (encSt ⟨[(1, oS), (2, .one (.ptr 0 0)), (4, .one (.own 1)), (5, .one (.own 2))], [(0, .var 154 [.int .i64, .int .i64, .int .i64]), (1, .row 5 (.int .u8) .plain), (2, .row 3 (.int .i64) .plain)], 3, []⟩ w)) v
theorem f80p2O (k : Nat) : SumO P Tryz.f207 14 (f80p2S k) := pt tm TB.nil ⟨[1, 2, 4, 5], [], []⟩ SumsOk.nil fun _ _ _ => by kernel_rfl
noncomputable def f80F (k : Nat) (x : D18) : Option (List Int × List Int) :=
 f80l1 k
 (fun (w3 : D17) =>
 f80p2 k
 (fun (w5 : D17) =>
 some (w5.2.2.2.2.1, w5.2.2.2.2.2.1))
 (w3.1, w3.2.1, w3.2.2.1, w3.2.2.2.1, w3.2.2.2.2.1, w3.2.2.2.2.2.1, ()))
 (x.2, (x.2.size : Int), 0, x.1.1, x.1.2.1, x.1.2.2, [], [], ())
theorem f80Ok (k : Nat) : FnV P 207 [.agg (.pair (.int .i64) Y0), .dat .str] [.own 5 (.int .u8), .own 3 (.int .i64)] (f80F k) :=
 fs tm TB.nil Tryz.func207 (by kernel_rfl) (SumsOk.nil |>.s (f80p2O k) (by kernel_rfl) |>.s (f80l1O k) (by kernel_rfl) |>.s (f80p0O k) (by kernel_rfl)) none fun _ => by kernel_rfl
noncomputable def f46T (k : Nat) : TB P := TB.nil |>.u (f80Ok k)
noncomputable def f46p0 {R : Type} (k : Nat) (k0 : D19 → Option R) (k1 : D20 → Option R) (v : D23) : Option R :=
 bif (decide (v.2.2.2.1 > 9)) then
 bif ((decide (0 ≤ v.2.2.1)) && (decide (v.2.2.1 < (v.2.2.2.2.2.2.2.2.2.2.2.1.length : Int)))) then
 k0 (0, (v.2.2.2.2.2.2.2.2.2.2.2.1.getD (Int.toNat v.2.2.1) 0), 21, v.1, v.2.1, v.2.2.2.1, v.2.2.2.2.1, v.2.2.2.2.2.1, v.2.2.2.2.2.2.1, v.2.2.2.2.2.2.2.1, v.2.2.2.2.2.2.2.2.1, v.2.2.2.2.2.2.2.2.2.1, v.2.2.2.2.2.2.2.2.2.2.1, v.2.2.2.2.2.2.2.2.2.2.2.1, ())
 else none
 else
 bif (decide (v.2.2.2.1 > 0)) then
 bif (decide (v.2.2.1 < (IntKind.i64.wrap (v.1 - v.2.2.2.2.2.2.2.2.1)))) then
 bif ((decide (0 ≤ v.2.2.1)) && (decide (v.2.2.1 < (v.2.2.2.2.2.2.2.2.2.2.2.1.length : Int)))) then
 k0 (0, (v.2.2.2.2.2.2.2.2.2.2.2.1.getD (Int.toNat v.2.2.1) 0), 21, v.1, v.2.1, v.2.2.2.1, v.2.2.2.2.1, v.2.2.2.2.2.1, v.2.2.2.2.2.2.1, v.2.2.2.2.2.2.2.1, v.2.2.2.2.2.2.2.2.1, v.2.2.2.2.2.2.2.2.2.1, v.2.2.2.2.2.2.2.2.2.2.1, v.2.2.2.2.2.2.2.2.2.2.2.1, ())
 else none
 else
 k1 (v.1, v.2.1, v.2.2.2.1, v.2.2.2.2.1, v.2.2.2.2.2.1, v.2.2.2.2.2.2.1, v.2.2.2.2.2.2.2.1, v.2.2.2.2.2.2.2.2.1, v.2.2.2.2.2.2.2.2.2.1, v.2.2.2.2.2.2.2.2.2.2.1, v.2.2.2.2.2.2.2.2.2.2.2.1, ())
 else
 k1 (v.1, v.2.1, v.2.2.2.1, v.2.2.2.2.1, v.2.2.2.2.2.1, v.2.2.2.2.2.2.1, v.2.2.2.2.2.2.2.1, v.2.2.2.2.2.2.2.2.1, v.2.2.2.2.2.2.2.2.2.1, v.2.2.2.2.2.2.2.2.2.2.1, v.2.2.2.2.2.2.2.2.2.2.2.1, ())
noncomputable def f46p0S (k : Nat) := partSum ⟨[(2, .one (.ptr 0 0)), (7, .one (.own 1)), (8, .one (.own 2)), (9, oI), (10, oI), (11, oI), (12, .one (.int .u8)), (24, .one (.ro (.int .u8))), (25, oI), (26, oI)], [(0, .var 154 [.int .i64, .int .i64, .int .i64]), (1, .row 5 (.int .u8) .frz), (2, .row 3 (.int .i64) .plain)], 3, []⟩ ⟨[2, 7, 8, 9, 10, 11, 12, 24, 25, 26], [], []⟩ fun R K v => f46p0 k (fun w => K .ret (encSt ⟨[(2, .one (.ptr 0 0)), (4, oI), (5, oI), (6, oI), (7, .one (.own 1)), (8, .one (.own 2)), (9, oI), (10, oI), (12, .one (.int .u8)), (24, .one (.ro (.int .u8))), (25, oI), (26, oI)], [(0, .var 154 [.int .i64, .int .i64, .int .i64]), (1, .row 5 (.int .u8) .frz), (2, .row 3 (.int .i64) .plain)], 3, []⟩ w)) (fun w => K .normal (encSt ⟨[(2, .one (.ptr 0 0)), (7, .one (.own 1)), (8, .one (.own 2)), (9, oI), (10, oI), (12, .one (.int .u8)), (24, .one (.ro (.int .u8))), (25, oI), (26, oI)], [(0, .var 154 [.int .i64, .int .i64, .int .i64]), (1, .row 5 (.int .u8) .frz), (2, .row 3 (.int .i64) .plain)], 3, []⟩ w)) v
theorem f46p0O (k : Nat) : SumO P Tryz.f198 32050 (f46p0S k) := pt tm (f46T k) ⟨[2, 4, 5, 6, 7, 8, 9, 10, 12, 24, 25, 26], [], []⟩ SumsOk.nil fun _ _ _ => by kernel_rfl
noncomputable def f46l1s {R : Type} (k : Nat) (rec : D24 → Option R) (k0 : D21 → Option R) (k1 : D22 → Option R) (v : D24) : Option R :=
 bif (decide (v.2.2.2.2.1 < v.2.2.2.1)) then
 bif ((decide (0 ≤ v.2.2.2.2.1)) && (decide (v.2.2.2.2.1 < (v.2.2.1.length : Int)))) then
 f46p0 k
 (fun (w3 : D19) =>
 k0 (w3.1, w3.2.1, w3.2.2.1, w3.2.2.2.1, w3.2.2.2.2.1, w3.2.2.2.2.2.2.2.2.2.2.2.2.1, w3.2.2.2.2.2.2.2.2.2.2.2.2.2.1, ()))
 (fun (w4 : D20) =>
 let t5 := (IntKind.i64.wrap ((IntKind.i64.wrap (w4.2.1 * 10)) + (IntKind.i64.wrap w4.2.2.1)))
 rec (w4.1, t5, w4.2.2.2.1, w4.2.2.2.2.1, (IntKind.i64.wrap (w4.2.2.2.2.2.1 + 1)), w4.2.2.2.2.2.2.1, w4.2.2.2.2.2.2.2.1, w4.2.2.2.2.2.2.2.2.1, w4.2.2.2.2.2.2.2.2.2.1, w4.2.2.2.2.2.2.2.2.2.2.1, ()))
 (v.1, v.2.1, v.2.2.2.2.1, (v.2.2.1.getD (Int.toNat v.2.2.2.2.1) 0), v.2.2.1, v.2.2.2.1, v.2.2.2.2.1, v.2.2.2.2.2.1, v.2.2.2.2.2.2.1, v.2.2.2.2.2.2.2.1, v.2.2.2.2.2.2.2.2.1, v.2.2.2.2.2.2.2.2.2.1, ())
 else none
 else
 k1 (v.1, v.2.1, v.2.2.2.2.2.2.2.2.1, v.2.2.2.2.2.2.2.2.2.1, ())
noncomputable def f46l1 {R : Type} (k : Nat) (k0 : D21 → Option R) (k1 : D22 → Option R) (v : D24) : Option R := iterS (fun rec v => f46l1s k rec k0 k1 v) k v
noncomputable def f46l1S (k : Nat) := loopSum ⟨[(2, .one (.ptr 0 0)), (7, .one (.own 1)), (8, .one (.own 2)), (9, oI), (10, oI), (24, .one (.ro (.int .u8))), (25, oI), (26, oI)], [(0, .var 154 [.int .i64, .int .i64, .int .i64]), (1, .row 5 (.int .u8) .frz), (2, .row 3 (.int .i64) .plain)], 3, []⟩ ⟨[2, 7, 8, 9, 10, 24, 25, 26], [], []⟩ k fun R rec K v => f46l1s k rec (fun w => K .ret (encSt ⟨[(4, oI), (5, oI), (6, oI), (7, .one (.own 0)), (8, .one (.own 1)), (9, oI), (10, oI)], [(0, .row 5 (.int .u8) .frz), (1, .row 3 (.int .i64) .plain)], 2, []⟩ w)) (fun w => K (.exit 0) (encSt ⟨[(7, .one (.own 0)), (8, .one (.own 1)), (9, oI), (10, oI)], [(0, .row 5 (.int .u8) .frz), (1, .row 3 (.int .i64) .plain)], 2, []⟩ w)) v
theorem f46l1O (k : Nat) : SumO P Tryz.f198 250 (f46l1S k) := lp tm (f46T k) ⟨[4, 5, 6, 7, 8, 9, 10], [], []⟩ (SumsOk.nil |>.s (f46p0O k) (by kernel_rfl)) (by kernel_rfl) fun _ _ _ _ => by kernel_rfl
noncomputable def f46p2 {R : Type} (k : Nat) (k0 : D21 → Option R) (k1 : D22 → Option R) (v : D22) : Option R :=
 bif ((decide (0 ≤ v.1)) && (decide (v.1 < (v.2.2.1.length : Int)))) then
 bif (decide ((v.2.2.1.getD (Int.toNat v.1) 0) < 10)) then
 bif ((decide (0 ≤ v.1)) && (decide (v.1 < (v.2.2.2.1.length : Int)))) then
 k0 (0, (v.2.2.2.1.getD (Int.toNat v.1) 0), 21, v.1, v.2.1, v.2.2.1, v.2.2.2.1, ())
 else none
 else
 bif ((decide (0 ≤ v.1)) && (decide (v.1 < (v.2.2.1.length : Int)))) then
 bif ((v.2.2.1.getD (Int.toNat v.1) 0) == 11) then
 k1 (v.1, (IntKind.i64.wrap (0 - v.2.1)), v.2.2.1, v.2.2.2.1, ())
 else
 bif ((decide (0 ≤ v.1)) && (decide (v.1 < (v.2.2.1.length : Int)))) then
 bif ((v.2.2.1.getD (Int.toNat v.1) 0) == 13) then
 k1 (v.1, (IntKind.i64.wrap (0 - v.2.1)), v.2.2.1, v.2.2.2.1, ())
 else
 k1 (v.1, v.2.1, v.2.2.1, v.2.2.2.1, ())
 else none
 else none
 else none
noncomputable def f46p2S (k : Nat) := partSum ⟨[(7, .one (.own 0)), (8, .one (.own 1)), (9, oI), (10, oI)], [(0, .row 5 (.int .u8) .frz), (1, .row 3 (.int .i64) .plain)], 2, []⟩ ⟨[7, 8, 9, 10], [], []⟩ fun R K v => f46p2 k (fun w => K .ret (encSt ⟨[(4, oI), (5, oI), (6, oI), (7, .one (.own 0)), (8, .one (.own 1)), (9, oI), (10, oI)], [(0, .row 5 (.int .u8) .frz), (1, .row 3 (.int .i64) .plain)], 2, []⟩ w)) (fun w => K .normal (encSt ⟨[(7, .one (.own 0)), (8, .one (.own 1)), (9, oI), (10, oI)], [(0, .row 5 (.int .u8) .frz), (1, .row 3 (.int .i64) .plain)], 2, []⟩ w)) v
theorem f46p2O (k : Nat) : SumO P Tryz.f198 126 (f46p2S k) := pt tm (f46T k) ⟨[4, 5, 6, 7, 8, 9, 10], [], []⟩ SumsOk.nil fun _ _ _ => by kernel_rfl
noncomputable def f46F (k : Nat) (x : D18) : Option (Int × Int × Int) :=
 Option.bind (f80F k ((x.1.1, (x.1.2.1, x.1.2.2)), x.2)) fun y1 =>
 bif (sliceBds 0 (IntKind.i64.wrap ((y1.1.length : Int) - 1)) (y1.1.length : Int)) then
 let t2 := ((y1.1.take (Int.toNat (IntKind.i64.wrap ((y1.1.length : Int) - 1)))).drop 0)
 f46l1 k
 (fun (w6 : D21) =>
 some (w6.1, w6.2.1, w6.2.2.1))
 (fun (w7 : D22) =>
 f46p2 k
 (fun (w8 : D21) =>
 some (w8.1, w8.2.1, w8.2.2.1))
 (fun (w9 : D22) =>
 some (w9.2.1, 0, 0))
 (w7.1, w7.2.1, w7.2.2.1, w7.2.2.2.1, ()))
 ((IntKind.i64.wrap ((y1.1.length : Int) - 1)), 0, t2, (t2.length : Int), 0, x.1.1, x.1.2.1, x.1.2.2, y1.1, y1.2, ())
 else none
theorem f46Ok (k : Nat) : FnV P 198 [.agg (.pair (.int .i64) Y0), .dat .str] [.dat (.int .i64), .dat (.int .i64), .dat (.int .i64)] (f46F k) :=
 fs tm (f46T k) Tryz.func198 (by kernel_rfl) (SumsOk.nil |>.s (f46p2O k) (by kernel_rfl) |>.s (f46l1O k) (by kernel_rfl) |>.s (f46p0O k) (by kernel_rfl)) none fun _ => by kernel_rfl
noncomputable def f16T (k : Nat) : TB P := TB.nil |>.u (f46Ok k) |>.u (f29Ok k) |>.u (f45Ok k) |>.u (f44Ok k) |>.u (f43Ok k) |>.u (f42Ok k) |>.u (f28Ok k)
noncomputable def f16p0 {R : Type} (k : Nat) (k0 : D25 → Option R) (v : D25) : Option R :=
 bif (v.2.1 == 0) then
 Option.bind (f44F k (v.2.2.1, (v.2.2.2.1, v.2.2.2.2.1))) fun y4 =>
 Option.bind (f43F k (((v.1.size : Int) != y4), 18)) fun y5 =>
 k0 (v.1, y5, v.2.2.1, v.2.2.2.1, v.2.2.2.2.1, v.2.2.2.2.2.1, v.2.2.2.2.2.2.1, ())
 else
 k0 (v.1, v.2.1, v.2.2.1, v.2.2.2.1, v.2.2.2.2.1, v.2.2.2.2.2.1, v.2.2.2.2.2.2.1, ())
noncomputable def f16p0S (k : Nat) := partSum ⟨[(1, oS), (2, .one (.ptr 0 0)), (4, .one (.ptr 1 0)), (7, oI)], [(0, .var 154 [.int .i64, .int .i64, .int .i64]), (1, .var 231 [.int .i64, .str])], 2, []⟩ ⟨[1, 2, 4, 7], [], []⟩ fun R K v => f16p0 k (fun w => K .normal (encSt ⟨[(1, oS), (2, .one (.ptr 0 0)), (4, .one (.ptr 1 0)), (7, oI)], [(0, .var 154 [.int .i64, .int .i64, .int .i64]), (1, .var 231 [.int .i64, .str])], 2, []⟩ w)) v
theorem f16p0O (k : Nat) : SumO P Tryz.f185 14 (f16p0S k) := pt tm (f16T k) ⟨[1, 2, 4, 5, 6, 7], [], []⟩ SumsOk.nil fun _ _ _ => by kernel_rfl
noncomputable def f16F (k : Nat) (x : D18) : Option (D26) :=
 Option.bind (f28F k (x.1.1, (x.1.2.1, x.1.2.2))) fun y1 =>
 Option.bind (f43F k ((x.1.1 == 4), 17)) fun y2 =>
 Option.bind (f42F k [y1, y2]) fun y3 =>
 f16p0 k
 (fun (w6 : D25) =>
 bif (w6.2.1 != 0) then
 some ((0, ByteArray.empty), 0, w6.2.1)
 else
 bif (w6.2.2.1 == 0) then
 some ((0, w6.1), 0, 0)
 else
 bif (w6.2.2.1 == 3) then
 Option.bind (f45F k w6.1) fun y7 =>
 Option.bind (f29F k ((w6.2.2.1, (w6.2.2.2.1, w6.2.2.2.2.1)), (y7, ByteArray.empty))) fun y8 =>
 bif (y8 != 0) then
 some ((0, ByteArray.empty), 0, y8)
 else
 some ((y7, ByteArray.empty), 0, 0)
 else
 Option.bind (f46F k ((w6.2.2.1, (w6.2.2.2.1, w6.2.2.2.2.1)), w6.1)) fun y9 =>
 some ((y9.1, ByteArray.empty), y9.2.1, y9.2.2))
 (x.2, y3, x.1.1, x.1.2.1, x.1.2.2, 0, ByteArray.empty, ())
theorem f16Ok (k : Nat) : FnV P 185 [.agg (.pair (.int .i64) Y0), .dat .str] [.agg Y5, .dat (.int .i64), .dat (.int .i64)] (f16F k) :=
 fs tm (f16T k) Tryz.func185 (by kernel_rfl) (SumsOk.nil |>.s (f16p0O k) (by kernel_rfl)) none fun _ => by kernel_rfl
noncomputable def f669T (k : Nat) : TB P := TB.nil |>.u (f16Ok k) |>.u (f640Ok k)
noncomputable def f669l0s {R : Type} (k : Nat) (rec : D29 → Option R) (k0 : D27 → Option R) (k1 : D28 → Option R) (v : D29) : Option R :=
 bif (decide (v.2.2.2.1 < v.2.2.1)) then
 bif ((decide (0 ≤ v.2.2.2.1)) && (decide (v.2.2.2.1 < (v.2.1.length : Int)))) then
 let t1 := (v.2.1.getD (Int.toNat v.2.2.2.1) (ByteArray.empty, (0, (0, 0))))
 Option.bind (f640F k (t1.1, (t1.2.1, (t1.2.2.1, t1.2.2.2)))) fun y2 =>
 bif (sliceBds 0 y2 (v.1.size : Int)) then
 Option.bind (f16F k ((t1.2.1, (t1.2.2.1, t1.2.2.2)), (v.1.extract 0 (Int.toNat y2)))) fun y3 =>
 bif (y3.2.2 != 0) then
 k0 (v.2.2.2.1, y3.2.2, v.2.2.2.2.1, ())
 else
 bif (decide ((v.2.2.2.2.1.length + [(y3.1.1, y3.1.2)].length) * 24 ≤ 140737488355328) && decide (v.2.2.2.2.1.length + [(y3.1.1, y3.1.2)].length ≤ 9223372036854775807)) then
 bif (sliceBds y2 (v.1.size : Int) (v.1.size : Int)) then
 rec ((v.1.extract (Int.toNat y2) (Int.toNat (v.1.size : Int))), v.2.1, v.2.2.1, (IntKind.i64.wrap (v.2.2.2.1 + 1)), (v.2.2.2.2.1 ++ [(y3.1.1, y3.1.2)]), ())
 else none
 else none
 else none
 else none
 else
 k1 (v.2.2.2.2.1, ())
noncomputable def f669l0 {R : Type} (k : Nat) (k0 : D27 → Option R) (k1 : D28 → Option R) (v : D29) : Option R := iterS (fun rec v => f669l0s k rec k0 k1 v) k v
noncomputable def f669l0S (k : Nat) := loopSum ⟨[(1, oS), (7, .one (.own 0)), (15, .one (.ro Y1)), (16, oI), (17, oI)], [(0, .row 231 Y5 .plain)], 1, []⟩ ⟨[1, 7, 15, 16, 17], [(7, 231, Y5)], []⟩ k fun R rec K v => f669l0s k rec (fun w => K .ret (encSt ⟨[(4, .one (.emp)), (5, oI), (6, oI), (7, .one (.own 0))], [(0, .row 231 Y5 .plain)], 1, []⟩ w)) (fun w => K (.exit 0) (encSt ⟨[(7, .one (.own 0))], [(0, .row 231 Y5 .plain)], 1, []⟩ w)) v
theorem f669l0O (k : Nat) : SumO P Tryz.f169 58 (f669l0S k) := lp tm (f669T k) ⟨[4, 5, 6, 7], [], []⟩ SumsOk.nil (by kernel_rfl) fun _ _ _ _ => by kernel_rfl
noncomputable def f669F (k : Nat) (x : D8) : Option (D30) :=
 f669l0 k
 (fun (w4 : D27) =>
 some ([], w4.1, w4.2.1))
 (fun (w5 : D28) =>
 some (w5.1, 0, 0))
 (x.2, x.1.2, (x.1.2.length : Int), 0, [], ())
theorem f669Ok (k : Nat) : FnV P 169 [.agg Y2, .dat .str] [.own 231 Y5, .dat (.int .i64), .dat (.int .i64)] (f669F k) :=
 fs tm (f669T k) Tryz.func169 (by kernel_rfl) (SumsOk.nil |>.s (f669l0O k) (by kernel_rfl)) none fun _ => by kernel_rfl
noncomputable def f650T (k : Nat) : TB P := TB.nil |>.u (f669Ok k) |>.u (f645Ok k) |>.u (f607Ok k)
noncomputable def f650F (k : Nat) (x : D8) : Option (D30) :=
 Option.bind (f607F k (x.1.1, x.1.2)) fun y1 =>
 bif (y1 != 0) then
 some ([], 0, y1)
 else
 Option.bind (f645F k (x.1.1, x.1.2)) fun y2 =>
 bif ((x.2.size : Int) != y2) then
 some ([], 0, 18)
 else
 Option.bind (f669F k ((x.1.1, x.1.2), x.2)) fun y3 =>
 some (y3.1, y3.2.1, y3.2.2)
theorem f650Ok (k : Nat) : FnV P 150 [.agg Y2, .dat .str] [.own 231 Y5, .dat (.int .i64), .dat (.int .i64)] (f650F k) :=
 fs tm (f650T k) Tryz.func150 (by kernel_rfl) SumsOk.nil none fun _ => by kernel_rfl
noncomputable def f630T (k : Nat) : TB P := TB.nil |>.u (f650Ok k)
noncomputable def f630F (k : Nat) (x : D8) : Option (Int × Int) :=
 Option.bind (f650F k ((x.1.1, x.1.2), x.2)) fun y1 =>
 some (y1.2.1, y1.2.2)
theorem f630Ok (k : Nat) : FnV P 130 [.agg Y2, .dat .str] [.dat (.int .i64), .dat (.int .i64)] (f630F k) :=
 fs tm (f630T k) Tryz.func130 (by kernel_rfl) SumsOk.nil none fun _ => by kernel_rfl
noncomputable def f595T (k : Nat) : TB P := TB.nil |>.u (f630Ok k)
noncomputable def f595F (k : Nat) (x : D8) : Option (Int) :=
 Option.bind (f630F k ((x.1.1, x.1.2), x.2)) fun y1 =>
 some y1.2
theorem f595Ok (k : Nat) : FnV P 95 [.agg Y2, .dat .str] [.dat (.int .i64)] (f595F k) :=
 fs tm (f595T k) Tryz.func95 (by kernel_rfl) SumsOk.nil none fun _ => by kernel_rfl
noncomputable def f549T (k : Nat) : TB P := TB.nil |>.u (f595Ok k) |>.u (f594Ok k) |>.u (f593Ok k) |>.u (f592Ok k)
noncomputable def f549p0 {R : Type} (k : Nat) (k0 : D31 → Option R) (v : D32) : Option R :=
 bif (!v.2.2.2.2.2.2.2.2.2.2.2.1) then
 Option.bind (f595F k ((v.2.2.2.2.2.2.1, v.2.2.2.2.2.2.2.1), v.2.2.2.2.2.2.2.2.2.2.2.2.1)) fun y6 =>
 k0 (v.1, y6, v.2.2.1, v.2.2.2.1, v.2.2.2.2.1, v.2.2.2.2.2.1, v.2.2.2.2.2.2.1, v.2.2.2.2.2.2.2.1, v.2.2.2.2.2.2.2.2.1, v.2.2.2.2.2.2.2.2.2.1, v.2.2.2.2.2.2.2.2.2.2.1, ())
 else
 k0 (v.1, v.2.1, v.2.2.1, v.2.2.2.1, v.2.2.2.2.1, v.2.2.2.2.2.1, v.2.2.2.2.2.2.1, v.2.2.2.2.2.2.2.1, v.2.2.2.2.2.2.2.2.1, v.2.2.2.2.2.2.2.2.2.1, v.2.2.2.2.2.2.2.2.2.2.1, ())
noncomputable def f549p0S (k : Nat) := partSum ⟨[(1, .one (.ptr 0 0)), (5, oI), (6, .one (.ptr 1 0)), (7, oI), (22, .one (.ro (.pair .bool .str))), (23, oI), (24, oI)], [(0, .var 52 [.str, .str, .ro Y1, .ro (.pair .str .bool), .bool, .ro (.pair .bool .str)]), (1, .var 100 [.bool, .str])], 2, []⟩ ⟨[1, 5, 6, 7, 22, 23, 24], [], []⟩ fun R K v => f549p0 k (fun w => K .normal (encSt ⟨[(1, .one (.ptr 0 0)), (5, oI), (7, oI), (22, .one (.ro (.pair .bool .str))), (23, oI), (24, oI)], [(0, .var 52 [.str, .str, .ro Y1, .ro (.pair .str .bool), .bool, .ro (.pair .bool .str)])], 1, []⟩ w)) v
theorem f549p0O (k : Nat) : SumO P Tryz.f49 14950 (f549p0S k) := pt tm (f549T k) ⟨[1, 2, 3, 5, 7, 22, 23, 24], [], []⟩ SumsOk.nil fun _ _ _ => by kernel_rfl
noncomputable def f549l1s {R : Type} (k : Nat) (rec : D33 → Option R) (k0 : Int × Int × Unit → Option R) (k1 : Unit → Option R) (v : D33) : Option R :=
 bif (decide (v.2.2.1 < v.2.1)) then
 bif ((decide (0 ≤ v.2.2.1)) && (decide (v.2.2.1 < (v.1.length : Int)))) then
 let t4 := (!strEq (v.1.getD (Int.toNat v.2.2.1) (false, ByteArray.empty)).2 ByteArray.empty)
 Option.bind (f594F k (t4, 5)) fun y5 =>
 f549p0 k
 (fun (w7 : D31) =>
 bif (w7.2.1 != 0) then
 k0 (w7.1, w7.2.1, ())
 else
 rec (w7.2.2.1, w7.2.2.2.1, (IntKind.i64.wrap (w7.2.2.2.2.1 + 1)), w7.2.2.2.2.2.1, w7.2.2.2.2.2.2.1, w7.2.2.2.2.2.2.2.1, w7.2.2.2.2.2.2.2.2.1, w7.2.2.2.2.2.2.2.2.2.1, w7.2.2.2.2.2.2.2.2.2.2.1, ()))
 (v.2.2.1, y5, v.1, v.2.1, v.2.2.1, v.2.2.2.1, v.2.2.2.2.1, v.2.2.2.2.2.1, v.2.2.2.2.2.2.1, v.2.2.2.2.2.2.2.1, v.2.2.2.2.2.2.2.2.1, (v.1.getD (Int.toNat v.2.2.1) (false, ByteArray.empty)).1, (v.1.getD (Int.toNat v.2.2.1) (false, ByteArray.empty)).2, ())
 else none
 else
 k1 (())
noncomputable def f549l1 {R : Type} (k : Nat) (k0 : Int × Int × Unit → Option R) (k1 : Unit → Option R) (v : D33) : Option R := iterS (fun rec v => f549l1s k rec k0 k1 v) k v
noncomputable def f549l1S (k : Nat) := loopSum ⟨[(1, .one (.ptr 0 0)), (22, .one (.ro (.pair .bool .str))), (23, oI), (24, oI)], [(0, .var 52 [.str, .str, .ro Y1, .ro (.pair .str .bool), .bool, .ro (.pair .bool .str)])], 1, []⟩ ⟨[1, 22, 23, 24], [], []⟩ k fun R rec K v => f549l1s k rec (fun w => K .ret (encSt ⟨[(2, oI), (3, oI)], [], 0, []⟩ w)) (fun w => K (.exit 0) (encSt ⟨[], [], 0, []⟩ w)) v
theorem f549l1O (k : Nat) : SumO P Tryz.f49 58 (f549l1S k) := lp tm (f549T k) ⟨[2, 3], [], []⟩ (SumsOk.nil |>.s (f549p0O k) (by kernel_rfl)) (by kernel_rfl) fun _ _ _ _ => by kernel_rfl
noncomputable def f549F (k : Nat) (x : D34) : Option (Int × Int) :=
 Option.bind (f593F k (x.1.1, ((x.1.2.1.1, x.1.2.1.2), (x.1.2.2.1, x.1.2.2.2)))) fun y1 =>
 Option.bind (f594F k ((decide ((x.2.length : Int) > 60)), 2)) fun y2 =>
 Option.bind (f592F k [y1, y2]) fun y3 =>
 bif (y3 != 0) then
 some (0, y3)
 else
 f549l1 k
 (fun (w8 : Int × Int × Unit) =>
 some (w8.1, w8.2.1))
 (fun (w9 : Unit) =>
 some (0, 0))
 (x.2, (x.2.length : Int), 0, x.1.1, x.1.2.1.1, x.1.2.1.2, x.1.2.2.1, x.1.2.2.2, x.2, ())
theorem f549Ok (k : Nat) : FnV P 49 [.agg Y6] [.dat (.int .i64), .dat (.int .i64)] (f549F k) :=
 fs tm (f549T k) Tryz.func49 (by kernel_rfl) (SumsOk.nil |>.s (f549l1O k) (by kernel_rfl) |>.s (f549p0O k) (by kernel_rfl)) none fun _ => by kernel_rfl
noncomputable def f597F (k : Nat) (x : D34) : Option (Bool) :=
 none
theorem f597Ok (k : Nat) : FnV P 97 [.agg Y6] [.dat .bool] (f597F k) :=
 fs tm TB.nil Tryz.func97 (by kernel_rfl) SumsOk.nil none fun _ => by kernel_rfl
noncomputable def f597v0I : Shape := ⟨[(0, .agg [.str, .str, .ro Y1, .ro (.pair .str .bool), .bool, .ro (.pair .bool .str)]), (1, .one (.ptr 0 0))], [(0, .var 9 [.str])], 1, []⟩
noncomputable def f597v0U : Shape := ⟨[(0, oB)], [(0, .var 9 [.str])], 1, []⟩
noncomputable def f597v0F (k : Nat) (x : D35) : Option (Bool × ByteArray × Unit) :=
 some ((strEq x.1 x.2.2.2.2.2.2.1), x.2.2.2.2.2.2.1, ())
theorem f597v0Ok (k : Nat) : GnV P 97 f597v0I f597v0U (f597v0F k) :=
 gs tm TB.nil Tryz.func97 (by kernel_rfl) SumsOk.nil [.dat .bool] [] none fun _ => by kernel_rfl
noncomputable def f596v0I : Shape := ⟨[(0, .one (.ro Y6)), (1, .one (.fn 97 [0]))], [(0, .var 9 [.str])], 1, []⟩
noncomputable def f596v0U : Shape := ⟨[(0, oI)], [(0, .var 9 [.str])], 1, []⟩
noncomputable def f596v0T (k : Nat) : TB P := TB.nil |>.g (f597v0Ok k)
noncomputable def f596v0l0s {R : Type} (k : Nat) (rec : D36 → Option R) (k0 : Int × ByteArray × Unit → Option R) (k1 : ByteArray × Unit → Option R) (v : D36) : Option R :=
 bif (decide (v.2.2.1 < v.2.1)) then
 bif ((decide (0 ≤ v.2.2.1)) && (decide (v.2.2.1 < (v.1.length : Int)))) then
 let t1 := (v.1.getD (Int.toNat v.2.2.1) ((ByteArray.empty, ((ByteArray.empty, []), ([], false))), []))
 Option.bind (f597v0F k (t1.1.1, t1.1.2.1.1, t1.1.2.1.2, t1.1.2.2.1, t1.1.2.2.2, t1.2, v.2.2.2.1, ())) fun y2 =>
 bif y2.1 then
 k0 (v.2.2.1, y2.2.1, ())
 else
 rec (v.1, v.2.1, (IntKind.i64.wrap (v.2.2.1 + 1)), y2.2.1, ())
 else none
 else
 k1 (v.2.2.2.1, ())
noncomputable def f596v0l0 {R : Type} (k : Nat) (k0 : Int × ByteArray × Unit → Option R) (k1 : ByteArray × Unit → Option R) (v : D36) : Option R := iterS (fun rec v => f596v0l0s k rec k0 k1 v) k v
noncomputable def f596v0l0S (k : Nat) := loopSum ⟨[(0, .one (.ro Y6)), (1, .one (.fn 97 [0])), (7, oI), (8, oI)], [(0, .var 9 [.str])], 1, [some 0]⟩ ⟨[0, 1, 7, 8], [], []⟩ k fun R rec K v => f596v0l0s k rec (fun w => K .ret (encSt ⟨[(4, oI)], [(0, .var 9 [.str])], 1, [some 0]⟩ w)) (fun w => K (.exit 0) (encSt ⟨[], [(0, .var 9 [.str])], 1, [some 0]⟩ w)) v
theorem f596v0l0O (k : Nat) : SumO P Tryz.f96 26 (f596v0l0S k) := lp tm (f596v0T k) ⟨[4], [], []⟩ SumsOk.nil (by kernel_rfl) fun _ _ _ _ => by kernel_rfl
noncomputable def f596v0F (k : Nat) (x : D37) : Option (Int × ByteArray × Unit) :=
 f596v0l0 k
 (fun (w3 : Int × ByteArray × Unit) =>
 some (w3.1, w3.2.1, ()))
 (fun (w4 : ByteArray × Unit) =>
 some ((-1), w4.1, ()))
 (x.1, (x.1.length : Int), 0, x.2.1, ())
theorem f596v0Ok (k : Nat) : GnV P 96 f596v0I f596v0U (f596v0F k) :=
 gs tm (f596v0T k) Tryz.func96 (by kernel_rfl) (SumsOk.nil |>.s (f596v0l0O k) (by kernel_rfl)) [.dat .bool] [] none fun _ => by kernel_rfl
noncomputable def f550T (k : Nat) : TB P := TB.nil |>.g (f596v0Ok k)
noncomputable def f550F (k : Nat) (x : (List D34) × ByteArray) : Option (Int) :=
 Option.bind (f596v0F k (x.1, x.2, ())) fun y1 =>
 some y1.1
theorem f550Ok (k : Nat) : FnV P 50 [.dat (.slice Y6), .dat .str] [.dat (.int .i64)] (f550F k) :=
 fs tm (f550T k) Tryz.func50 (by kernel_rfl) SumsOk.nil none fun _ => by kernel_rfl
noncomputable def f515T (k : Nat) : TB P := TB.nil |>.u (f550Ok k) |>.u (f549Ok k)
noncomputable def f515l0s {R : Type} (k : Nat) (rec : D38 → Option R) (k0 : Int × Int × Unit → Option R) (k1 : Unit → Option R) (v : D38) : Option R :=
 bif (decide (v.2.2.2.1 < v.2.2.1)) then
 bif ((decide (0 ≤ v.2.2.2.1)) && (decide (v.2.2.2.1 < (v.2.1.length : Int)))) then
 let t1 := (v.2.1.getD (Int.toNat v.2.2.2.1) ((ByteArray.empty, ((ByteArray.empty, []), ([], false))), []))
 Option.bind (f549F k ((t1.1.1, ((t1.1.2.1.1, t1.1.2.1.2), (t1.1.2.2.1, t1.1.2.2.2))), t1.2)) fun y2 =>
 bif (y2.2 != 0) then
 k0 (v.2.2.2.1, y2.2, ())
 else
 Option.bind (f550F k (v.1, t1.1.1)) fun y3 =>
 bif (decide (y3 < v.2.2.2.1)) then
 k0 (v.2.2.2.1, 13, ())
 else
 rec (v.1, v.2.1, v.2.2.1, (IntKind.i64.wrap (v.2.2.2.1 + 1)), ())
 else none
 else
 k1 (())
noncomputable def f515l0 {R : Type} (k : Nat) (k0 : Int × Int × Unit → Option R) (k1 : Unit → Option R) (v : D38) : Option R := iterS (fun rec v => f515l0s k rec k0 k1 v) k v
noncomputable def f515l0S (k : Nat) := loopSum ⟨[(0, .one (.ro Y6)), (11, .one (.ro Y6)), (12, oI), (13, oI)], [], 0, []⟩ ⟨[0, 11, 12, 13], [], []⟩ k fun R rec K v => f515l0s k rec (fun w => K .ret (encSt ⟨[(2, oI), (3, oI)], [], 0, []⟩ w)) (fun w => K (.exit 0) (encSt ⟨[], [], 0, []⟩ w)) v
theorem f515l0O (k : Nat) : SumO P Tryz.f15 58 (f515l0S k) := lp tm (f515T k) ⟨[2, 3], [], []⟩ SumsOk.nil (by kernel_rfl) fun _ _ _ _ => by kernel_rfl
noncomputable def f515F (k : Nat) (x : (List D34)) : Option (Int × Int) :=
 bif (decide ((x.length : Int) > 8)) then
 some (0, 2)
 else
 f515l0 k
 (fun (w4 : Int × Int × Unit) =>
 some (w4.1, w4.2.1))
 (fun (w5 : Unit) =>
 some (0, 0))
 (x, x, (x.length : Int), 0, ())
theorem f515Ok (k : Nat) : FnV P 15 [.dat (.slice Y6)] [.dat (.int .i64), .dat (.int .i64)] (f515F k) :=
 fs tm (f515T k) Tryz.func15 (by kernel_rfl) (SumsOk.nil |>.s (f515l0O k) (by kernel_rfl)) none fun _ => by kernel_rfl
theorem f73V (k : Nat) : FnV P 98 [.dat .str, .dat (.int .i64)] [.dat .str] (f73F k) := ⟨f73B, f73Ok k⟩
noncomputable def f552v0I : Shape := ⟨[(0, .one (.ptr 0 0)), (1, .one (.own 1))], [(0, .var 106 [.own 2]), (1, .row 3 (.int .i64) .plain), (2, .row 5 (.int .u8) .plain)], 3, []⟩
noncomputable def f552v0U : Shape := ⟨[], [(0, .var 106 [.own 3]), (1, .row 3 (.int .i64) .plain), (3, .row 5 (.int .u8) .plain)], 4, []⟩
noncomputable def f552v0l0H : Shape := ⟨[(0, .one (.ptr 0 0)), (6, .one (.own 1)), (7, oI), (8, oI)], [(0, .var 106 [.own 2]), (1, .row 3 (.int .i64) .plain), (2, .row 5 (.int .u8) .plain)], 3, [some 0, some 1, none]⟩
noncomputable def f552v0l0X0 : Shape := ⟨[], [(0, .var 106 [.own 2]), (1, .row 3 (.int .i64) .plain), (2, .row 5 (.int .u8) .plain)], 3, [some 0, some 1, none]⟩
noncomputable def f552v0l0N : NoteR := ⟨[0, 6, 7, 8], [], []⟩
noncomputable def f552v0l0M : NoteR := ⟨[], [], []⟩
noncomputable def f552v0l0C : Code := firstC (codesAt 6 (codeOf Tryz.f52) 1)
noncomputable def f552v0l0s {R : Type} (k : Nat) (rec : D22 → Option R) (k0 : D39 → Option R) (v : D22) : Option R :=
 bif (decide (v.2.1 < v.1)) then
 bif ((decide (0 ≤ v.2.1)) && (decide (v.2.1 < (v.2.2.1.length : Int)))) then
 bif (decide ((v.2.2.2.1.length + [(IntKind.u8.wrap (v.2.2.1.getD (Int.toNat v.2.1) 0))].length) * 1 ≤ 140737488355328) && decide (v.2.2.2.1.length + [(IntKind.u8.wrap (v.2.2.1.getD (Int.toNat v.2.1) 0))].length ≤ 9223372036854775807)) then
 let t2 := (v.2.2.2.1 ++ [(IntKind.u8.wrap (v.2.2.1.getD (Int.toNat v.2.1) 0))])
 rec (v.1, (IntKind.i64.wrap (v.2.1 + 1)), v.2.2.1, t2, ())
 else none
 else none
 else
 k0 (v.2.2.1, v.2.2.2.1, ())
noncomputable def f552v0l0 {R : Type} (k : Nat) (k0 : D39 → Option R) (v : D22) : Option R := iterS (fun rec v => f552v0l0s k rec k0 v) k v
noncomputable def f552v0l0S (k : Nat) : Sum1 := loopSum f552v0l0H f552v0l0N k (fun R rec K v => f552v0l0s k rec (fun w => K (.exit 0) (encSt f552v0l0X0 w)) v)
theorem f552v0l0E (k : Nat) (R : Type) (rec : St → Option R) (K : X → St → Option R) (v : f552v0l0H.Den) : evS tab (TB.nil (P := P)).t Tryz.f52.ntmps [] (bodyOf f552v0l0C) 12 (bodyK f552v0l0N f552v0l0M rec K) (encSt f552v0l0H v) = f552v0l0s k (fun v => rec (encSt f552v0l0H v)) (fun w => K (.exit 0) (encSt f552v0l0X0 w)) v := by kernel_rfl
theorem f552v0l0I (k : Nat) : SumsOk P Tryz.f52.ntmps [] (bodyOf f552v0l0C) 12 := SumsOk.nil
theorem f552v0l0O (k : Nat) : SumO P Tryz.f52 6 (f552v0l0S k) := (show SumOk P Tryz.f52.ntmps f552v0l0C (f552v0l0S k) from (show f552v0l0C = .loop (bodyOf f552v0l0C) by kernel_rfl) ▸ sum_loop tm.1 (TB.nil (P := P)).ok tm.2 (f552v0l0I k) (f552v0l0E k))
noncomputable def f552v0l1H : Shape := ⟨[(0, .one (.ptr 0 0)), (6, .one (.own 1)), (7, oI), (8, oI)], [(0, .var 106 [.own 2]), (1, .row 3 (.int .i64) .plain), (2, .row 5 (.int .u8) .plain)], 3, [some 0, some 1, some 2]⟩
noncomputable def f552v0l1X0 : Shape := ⟨[], [(0, .var 106 [.own 2]), (1, .row 3 (.int .i64) .plain), (2, .row 5 (.int .u8) .plain)], 3, [some 0, some 1, none]⟩
noncomputable def f552v0l1X1 : Shape := ⟨[], [(0, .var 106 [.own 2]), (1, .row 3 (.int .i64) .plain), (2, .row 5 (.int .u8) .plain)], 3, [some 0, some 1, some 2]⟩
noncomputable def f552v0l1N : NoteR := ⟨[0, 6, 7, 8], [], []⟩
noncomputable def f552v0l1M : NoteR := ⟨[], [], []⟩
noncomputable def f552v0l1C : Code := firstC (codesAt 6 (codeOf Tryz.f52) 1)
noncomputable def f552v0l1s {R : Type} (k : Nat) (rec : D22 → Option R) (k0 : D39 → Option R) (k1 : D39 → Option R) (v : D22) : Option R :=
 bif (decide (v.2.1 < v.1)) then
 bif ((decide (0 ≤ v.2.1)) && (decide (v.2.1 < (v.2.2.1.length : Int)))) then
 bif (decide ((v.2.2.2.1.length + [(IntKind.u8.wrap (v.2.2.1.getD (Int.toNat v.2.1) 0))].length) * 1 ≤ 140737488355328) && decide (v.2.2.2.1.length + [(IntKind.u8.wrap (v.2.2.1.getD (Int.toNat v.2.1) 0))].length ≤ 9223372036854775807)) then
 let t1 := (v.2.2.2.1 ++ [(IntKind.u8.wrap (v.2.2.1.getD (Int.toNat v.2.1) 0))])
 f552v0l0 k
 (fun (w3 : D39) =>
 k0 (w3.1, w3.2.1, ()))
 (v.1, (IntKind.i64.wrap (v.2.1 + 1)), v.2.2.1, t1, ())
 else none
 else none
 else
 k1 (v.2.2.1, v.2.2.2.1, ())
noncomputable def f552v0l1 {R : Type} (k : Nat) (k0 : D39 → Option R) (k1 : D39 → Option R) (v : D22) : Option R := iterS (fun rec v => f552v0l1s k rec k0 k1 v) k v
theorem f552v0l0Rd (k : Nat) : SumRd P Tryz.f52.ntmps (bodyOf f552v0l0C) (f552v0l0S k) k := loop_rd tm.1 (TB.nil (P := P)).ok tm.2 (f552v0l0I k) (f552v0l0E k)
noncomputable def f552v0l1S (k : Nat) : Sum1 := loop2Sum f552v0l1H f552v0l1N (f552v0l0S k) k (fun R rec K v => f552v0l1s k rec (fun w => K (.exit 0) (encSt f552v0l1X0 w)) (fun w => K (.exit 0) (encSt f552v0l1X1 w)) v)
theorem f552v0l1E (k : Nat) (R : Type) (rec : f552v0l1H.Den → Option R) (K : X → St → Option R) (v : f552v0l1H.Den) : evS tab (TB.nil (P := P)).t Tryz.f52.ntmps [] (bodyOf f552v0l1C) 12 (step2K f552v0l1H f552v0l1N f552v0l1M (f552v0l0S k) rec K) (encSt f552v0l1H v) = f552v0l1s k rec (fun w => K (.exit 0) (encSt f552v0l1X0 w)) (fun w => K (.exit 0) (encSt f552v0l1X1 w)) v := by kernel_rfl
theorem f552v0l1I (k : Nat) : SumsOk P Tryz.f52.ntmps [] (bodyOf f552v0l1C) 12 := SumsOk.nil
theorem f552v0l1Rd (k : Nat) : SumRd P Tryz.f52.ntmps (bodyOf f552v0l1C) (f552v0l1S k) (k + (k)) := loop2_rd tm.1 (TB.nil (P := P)).ok tm.2 (f552v0l1I k) ((show bodyOf f552v0l0C = bodyOf f552v0l1C by kernel_rfl) ▸ f552v0l0Rd k) (f552v0l1E k)
theorem f552v0l1O (k : Nat) : SumO P Tryz.f52 6 (f552v0l1S k) := (show SumOk P Tryz.f52.ntmps f552v0l1C (f552v0l1S k) from (show f552v0l1C = .loop (bodyOf f552v0l1C) by kernel_rfl) ▸ (f552v0l1Rd k).ok)
noncomputable def f552v0F (k : Nat) (x : D39) : Option (D39) :=
 f552v0l1 k
 (fun (w4 : D39) =>
 some (w4.1, w4.2.1, ()))
 (fun (w5 : D39) =>
 some (w5.1, w5.2.1, ()))
 ((x.1.length : Int), 0, x.1, x.2.1, ())
theorem f552v0Ok (k : Nat) : GnV P 52 f552v0I f552v0U (f552v0F k) :=
 gs tm TB.nil Tryz.func52 (by kernel_rfl) (SumsOk.nil |>.s (f552v0l1O k) (by kernel_rfl)) [] [2] none fun _ => by kernel_rfl
noncomputable def f553v0I : Shape := ⟨[(0, .one (.ptr 0 0)), (1, oS)], [(0, .var 106 [.own 1]), (1, .row 5 (.int .u8) .plain)], 2, []⟩
noncomputable def f553v0U : Shape := ⟨[], [(0, .var 106 [.own 2]), (2, .row 5 (.int .u8) .plain)], 3, []⟩
noncomputable def f553v0T (k : Nat) : TB P := TB.nil |>.u (f73V k)
noncomputable def f553v0F (k : Nat) (x : D40) : Option (List Int × Unit) :=
 bif (decide ((x.2.1.length + (bytesOf x.1).length) * 1 ≤ 140737488355328) && decide (x.2.1.length + (bytesOf x.1).length ≤ 9223372036854775807)) then
 Option.bind (f73F k ((⟨#[32]⟩ : ByteArray), (mxI (IntKind.i64.wrap (10 - (x.1.size : Int))) 0))) fun y1 =>
 bif (decide (((x.2.1 ++ (bytesOf x.1)).length + (bytesOf y1).length) * 1 ≤ 140737488355328) && decide ((x.2.1 ++ (bytesOf x.1)).length + (bytesOf y1).length ≤ 9223372036854775807)) then
 some (((x.2.1 ++ (bytesOf x.1)) ++ (bytesOf y1)), ())
 else none
 else none
theorem f553v0Ok (k : Nat) : GnV P 53 f553v0I f553v0U (f553v0F k) :=
 gs tm (f553v0T k) Tryz.func53 (by kernel_rfl) SumsOk.nil [] [1] none fun _ => by kernel_rfl
noncomputable def f555v0I : Shape := ⟨[(0, .one (.ptr 0 0)), (1, oB)], [(0, .var 106 [.own 1]), (1, .row 5 (.int .u8) .plain)], 2, []⟩
noncomputable def f555v0U : Shape := ⟨[], [(0, .var 106 [.own 2]), (2, .row 5 (.int .u8) .plain)], 3, []⟩
noncomputable def f555v0T (k : Nat) : TB P := TB.nil |>.g (f552v0Ok k)
noncomputable def f555v0F (k : Nat) (x : Bool × List Int × Unit) : Option (List Int × Unit) :=
 bif x.1 then
 Option.bind (f552v0F k ([1], x.2.1, ())) fun y1 =>
 some (y1.2.1, ())
 else
 Option.bind (f552v0F k ([0], x.2.1, ())) fun y2 =>
 some (y2.2.1, ())
theorem f555v0Ok (k : Nat) : GnV P 55 f555v0I f555v0U (f555v0F k) :=
 gs tm (f555v0T k) Tryz.func55 (by kernel_rfl) SumsOk.nil [] [1] none fun _ => by kernel_rfl
noncomputable def f554v0I : Shape := ⟨[(0, .one (.ptr 0 0)), (1, .agg [.str, .str, .ro Y1, .ro (.pair .str .bool), .bool])], [(0, .var 106 [.own 1]), (1, .row 5 (.int .u8) .plain)], 2, []⟩
noncomputable def f554v0U : Shape := ⟨[], [(0, .var 106 [.own 2]), (2, .row 5 (.int .u8) .plain)], 3, []⟩
noncomputable def f554v0T (k : Nat) : TB P := TB.nil |>.g (f555v0Ok k) |>.g (f553v0Ok k) |>.g (f552v0Ok k)
noncomputable def f554v0l0s {R : Type} (k : Nat) (rec : D42 → Option R) (k0 : D41 → Option R) (v : D42) : Option R :=
 bif (decide (v.2.2.1 < v.2.1)) then
 bif ((decide (0 ≤ v.2.2.1)) && (decide (v.2.2.1 < (v.1.length : Int)))) then
 let t2 := (v.1.getD (Int.toNat v.2.2.1) (ByteArray.empty, (0, (0, 0))))
 Option.bind (f553v0F k (t2.1, v.2.2.2.2.2.2.2.2.1, ())) fun y3 =>
 Option.bind (f552v0F k ([t2.2.1, t2.2.2.1, t2.2.2.2], y3.1, ())) fun y4 =>
 rec (v.1, v.2.1, (IntKind.i64.wrap (v.2.2.1 + 1)), v.2.2.2.1, v.2.2.2.2.1, v.2.2.2.2.2.1, v.2.2.2.2.2.2.1, v.2.2.2.2.2.2.2.1, y4.2.1, ())
 else none
 else
 k0 (v.2.2.2.1, v.2.2.2.2.1, v.2.2.2.2.2.1, v.2.2.2.2.2.2.1, v.2.2.2.2.2.2.2.1, v.2.2.2.2.2.2.2.2.1, ())
noncomputable def f554v0l0 {R : Type} (k : Nat) (k0 : D41 → Option R) (v : D42) : Option R := iterS (fun rec v => f554v0l0s k rec k0 v) k v
noncomputable def f554v0l0S (k : Nat) := loopSum ⟨[(0, .one (.ptr 0 0)), (3, .one (.ptr 1 0)), (17, .one (.ro Y1)), (18, oI), (19, oI)], [(0, .var 106 [.own 2]), (1, .var 49 [.str, .str, .ro Y1, .ro (.pair .str .bool), .bool]), (2, .row 5 (.int .u8) .plain)], 3, [some 0, none]⟩ ⟨[0, 3, 17, 18, 19], [], []⟩ k fun R rec K v => f554v0l0s k rec (fun w => K (.exit 0) (encSt ⟨[(0, .one (.ptr 0 0)), (3, .one (.ptr 1 0))], [(0, .var 106 [.own 2]), (1, .var 49 [.str, .str, .ro Y1, .ro (.pair .str .bool), .bool]), (2, .row 5 (.int .u8) .plain)], 3, [some 0, none]⟩ w)) v
theorem f554v0l0O (k : Nat) : SumO P Tryz.f54 58 (f554v0l0S k) := lp tm (f554v0T k) ⟨[0, 3], [], []⟩ SumsOk.nil (by kernel_rfl) fun _ _ _ _ => by kernel_rfl
noncomputable def f554v0l1s {R : Type} (k : Nat) (rec : D43 → Option R) (k0 : List Int × Unit → Option R) (v : D43) : Option R :=
 bif (decide (v.2.2.1 < v.2.1)) then
 bif ((decide (0 ≤ v.2.2.1)) && (decide (v.2.2.1 < (v.1.length : Int)))) then
 Option.bind (f553v0F k ((v.1.getD (Int.toNat v.2.2.1) (ByteArray.empty, false)).1, v.2.2.2.1, ())) fun y7 =>
 Option.bind (f555v0F k ((v.1.getD (Int.toNat v.2.2.1) (ByteArray.empty, false)).2, y7.1, ())) fun y8 =>
 rec (v.1, v.2.1, (IntKind.i64.wrap (v.2.2.1 + 1)), y8.1, ())
 else none
 else
 k0 (v.2.2.2.1, ())
noncomputable def f554v0l1 {R : Type} (k : Nat) (k0 : List Int × Unit → Option R) (v : D43) : Option R := iterS (fun rec v => f554v0l1s k rec k0 v) k v
noncomputable def f554v0l1S (k : Nat) := loopSum ⟨[(0, .one (.ptr 0 0)), (47, .one (.ro (.pair .str .bool))), (48, oI), (49, oI)], [(0, .var 106 [.own 1]), (1, .row 5 (.int .u8) .plain)], 2, [some 0, none]⟩ ⟨[0, 47, 48, 49], [], []⟩ k fun R rec K v => f554v0l1s k rec (fun w => K (.exit 2) (encSt ⟨[], [(0, .var 106 [.own 1]), (1, .row 5 (.int .u8) .plain)], 2, [some 0, none]⟩ w)) v
theorem f554v0l1O (k : Nat) : SumO P Tryz.f54 126 (f554v0l1S k) := lp tm (f554v0T k) ⟨[], [], []⟩ SumsOk.nil (by kernel_rfl) fun _ _ _ _ => by kernel_rfl
noncomputable def f554v0F (k : Nat) (x : D41) : Option (List Int × Unit) :=
 Option.bind (f552v0F k ([(x.2.2.1.length : Int)], x.2.2.2.2.2.1, ())) fun y1 =>
 f554v0l0 k
 (fun (w5 : D41) =>
 Option.bind (f552v0F k ([(w5.2.2.2.1.length : Int)], w5.2.2.2.2.2.1, ())) fun y6 =>
 f554v0l1 k
 (fun (w9 : List Int × Unit) =>
 some (w9.1, ()))
 (w5.2.2.2.1, (w5.2.2.2.1.length : Int), 0, y6.2.1, ()))
 (x.2.2.1, (x.2.2.1.length : Int), 0, x.1, x.2.1, x.2.2.1, x.2.2.2.1, x.2.2.2.2.1, y1.2.1, ())
theorem f554v0Ok (k : Nat) : GnV P 54 f554v0I f554v0U (f554v0F k) :=
 gs tm (f554v0T k) Tryz.func54 (by kernel_rfl) (SumsOk.nil |>.s (f554v0l1O k) (by kernel_rfl) |>.s (f554v0l0O k) (by kernel_rfl)) [] [1] none fun _ => by kernel_rfl
noncomputable def f517T (k : Nat) : TB P := TB.nil |>.g (f555v0Ok k) |>.g (f554v0Ok k) |>.g (f553v0Ok k) |>.g (f552v0Ok k) |>.u (f515Ok k)
noncomputable def f517l0s {R : Type} (k : Nat) (rec : D45 → Option R) (k0 : D44 → Option R) (v : D45) : Option R :=
 bif (decide (v.2.2.2.2.2.1 < v.2.2.2.2.1)) then
 bif ((decide (0 ≤ v.2.2.2.2.2.1)) && (decide (v.2.2.2.2.2.1 < (v.2.2.2.1.length : Int)))) then
 let t9 := (!(v.2.2.2.1.getD (Int.toNat v.2.2.2.2.2.1) (false, ByteArray.empty)).1)
 Option.bind (f555v0F k (t9, v.2.2.2.2.2.2.1, ())) fun y10 =>
 bif (decide ((y10.1.length + (bytesOf (v.2.2.2.1.getD (Int.toNat v.2.2.2.2.2.1) (false, ByteArray.empty)).2).length) * 1 ≤ 140737488355328) && decide (y10.1.length + (bytesOf (v.2.2.2.1.getD (Int.toNat v.2.2.2.2.2.1) (false, ByteArray.empty)).2).length ≤ 9223372036854775807)) then
 let t11 := (y10.1 ++ (bytesOf (v.2.2.2.1.getD (Int.toNat v.2.2.2.2.2.1) (false, ByteArray.empty)).2))
 rec (v.1, v.2.1, v.2.2.1, v.2.2.2.1, v.2.2.2.2.1, (IntKind.i64.wrap (v.2.2.2.2.2.1 + 1)), t11, ())
 else none
 else none
 else
 k0 (v.1, v.2.1, v.2.2.1, v.2.2.2.2.2.2.1, ())
noncomputable def f517l0 {R : Type} (k : Nat) (k0 : D44 → Option R) (v : D45) : Option R := iterS (fun rec v => f517l0s k rec k0 v) k v
noncomputable def f517l0S (k : Nat) := loopSum ⟨[(6, .one (.ptr 0 0)), (26, .one (.ro Y6)), (27, oI), (28, oI), (59, .one (.ro (.pair .bool .str))), (60, oI), (61, oI)], [(0, .var 106 [.own 1]), (1, .row 5 (.int .u8) .plain)], 2, []⟩ ⟨[6, 26, 27, 28, 59, 60, 61], [], []⟩ k fun R rec K v => f517l0s k rec (fun w => K (.exit 2) (encSt ⟨[(6, .one (.ptr 0 0)), (26, .one (.ro Y6)), (27, oI), (28, oI)], [(0, .var 106 [.own 1]), (1, .row 5 (.int .u8) .plain)], 2, []⟩ w)) v
theorem f517l0O (k : Nat) : SumO P Tryz.f17 2051326 (f517l0S k) := lp tm (f517T k) ⟨[2, 3, 6, 26, 27, 28], [], []⟩ SumsOk.nil (by kernel_rfl) fun _ _ _ _ => by kernel_rfl
noncomputable def f517l1s {R : Type} (k : Nat) (rec : D44 → Option R) (k0 : List Int × Unit → Option R) (v : D44) : Option R :=
 bif (decide (v.2.2.1 < v.2.1)) then
 bif ((decide (0 ≤ v.2.2.1)) && (decide (v.2.2.1 < (v.1.length : Int)))) then
 let t3 := (v.1.getD (Int.toNat v.2.2.1) ((ByteArray.empty, ((ByteArray.empty, []), ([], false))), []))
 Option.bind (f553v0F k (t3.1.1, v.2.2.2.1, ())) fun y4 =>
 Option.bind (f553v0F k (t3.1.2.1.1, y4.1, ())) fun y5 =>
 Option.bind (f554v0F k (t3.1.1, t3.1.2.1.1, t3.1.2.1.2, t3.1.2.2.1, t3.1.2.2.2, y5.1, ())) fun y6 =>
 Option.bind (f555v0F k (t3.1.2.2.2, y6.1, ())) fun y7 =>
 Option.bind (f552v0F k ([(t3.2.length : Int)], y7.1, ())) fun y8 =>
 f517l0 k
 (fun (w12 : D44) =>
 rec (w12.1, w12.2.1, (IntKind.i64.wrap (w12.2.2.1 + 1)), w12.2.2.2.1, ()))
 (v.1, v.2.1, v.2.2.1, t3.2, (t3.2.length : Int), 0, y8.2.1, ())
 else none
 else
 k0 (v.2.2.2.1, ())
noncomputable def f517l1 {R : Type} (k : Nat) (k0 : List Int × Unit → Option R) (v : D44) : Option R := iterS (fun rec v => f517l1s k rec k0 v) k v
noncomputable def f517l1S (k : Nat) := loopSum ⟨[(6, .one (.ptr 0 0)), (26, .one (.ro Y6)), (27, oI), (28, oI)], [(0, .var 106 [.own 1]), (1, .row 5 (.int .u8) .plain)], 2, []⟩ ⟨[6, 26, 27, 28], [], []⟩ k fun R rec K v => f517l1s k rec (fun w => K (.exit 0) (encSt ⟨[(6, .one (.ptr 0 0))], [(0, .var 106 [.own 1]), (1, .row 5 (.int .u8) .plain)], 2, []⟩ w)) v
theorem f517l1O (k : Nat) : SumO P Tryz.f17 250 (f517l1S k) := lp tm (f517T k) ⟨[2, 3, 6], [], []⟩ (SumsOk.nil |>.s (f517l0O k) (by kernel_rfl)) (by kernel_rfl) fun _ _ _ _ => by kernel_rfl
noncomputable def f517F (k : Nat) (x : (List D34)) : Option (ByteArray × Int) :=
 Option.bind (f515F k x) fun y1 =>
 bif (y1.2 != 0) then
 some (ByteArray.empty, y1.2)
 else
 Option.bind (f552v0F k ([(x.length : Int)], [], ())) fun y2 =>
 f517l1 k
 (fun (w13 : List Int × Unit) =>
 some ((strOfNums w13.1), 0))
 (x, (x.length : Int), 0, y2.2.1, ())
theorem f517Ok (k : Nat) : FnV P 17 [.dat (.slice Y6)] [.dat .str, .dat (.int .i64)] (f517F k) :=
 fs tm (f517T k) Tryz.func17 (by kernel_rfl) (SumsOk.nil |>.s (f517l1O k) (by kernel_rfl) |>.s (f517l0O k) (by kernel_rfl)) none fun _ => by kernel_rfl
theorem f636V (k : Nat) : FnV P 136 [.dat .str, .dat (.int .u8)] [.dat (.int .i64)] (f636F k) := ⟨f636B, f636Ok k⟩
noncomputable def f602T (k : Nat) : TB P := TB.nil |>.u (f636V k)
noncomputable def f602p0 {R : Type} (k : Nat) (k0 : D46 → Option R) (k1 : D47 → Option R) (v : D46) : Option R :=
 bif ((decide (0 ≤ v.2.2.1)) && (decide (v.2.2.1 < (v.1.size : Int)))) then
 bif (decide ((bt v.1 v.2.2.1) ≥ 65)) then
 bif ((decide (0 ≤ v.2.2.1)) && (decide (v.2.2.1 < (v.1.size : Int)))) then
 bif (decide ((bt v.1 v.2.2.1) ≤ 90)) then
 k0 (v.1, v.2.1, v.2.2.1, ())
 else
 bif ((decide (0 ≤ v.2.2.1)) && (decide (v.2.2.1 < (v.1.size : Int)))) then
 Option.bind (f636F k ((⟨#[36, 35, 64]⟩ : ByteArray), (bt v.1 v.2.2.1))) fun y1 =>
 bif (!(decide (y1 ≥ 0))) then
 bif (v.2.2.1 == 0) then
 k1 (v.1, false, v.2.1, v.2.2.1, ())
 else
 bif ((decide (0 ≤ v.2.2.1)) && (decide (v.2.2.1 < (v.1.size : Int)))) then
 bif (decide ((bt v.1 v.2.2.1) < 48)) then
 bif ((decide (0 ≤ v.2.2.1)) && (decide (v.2.2.1 < (v.1.size : Int)))) then
 bif ((bt v.1 v.2.2.1) != 95) then
 bif ((decide (0 ≤ v.2.2.1)) && (decide (v.2.2.1 < (v.1.size : Int)))) then
 bif ((bt v.1 v.2.2.1) != 46) then
 k1 (v.1, false, v.2.1, v.2.2.1, ())
 else
 k0 (v.1, v.2.1, v.2.2.1, ())
 else none
 else
 k0 (v.1, v.2.1, v.2.2.1, ())
 else none
 else
 bif ((decide (0 ≤ v.2.2.1)) && (decide (v.2.2.1 < (v.1.size : Int)))) then
 bif (decide ((bt v.1 v.2.2.1) > 57)) then
 bif ((decide (0 ≤ v.2.2.1)) && (decide (v.2.2.1 < (v.1.size : Int)))) then
 bif ((bt v.1 v.2.2.1) != 95) then
 bif ((decide (0 ≤ v.2.2.1)) && (decide (v.2.2.1 < (v.1.size : Int)))) then
 bif ((bt v.1 v.2.2.1) != 46) then
 k1 (v.1, false, v.2.1, v.2.2.1, ())
 else
 k0 (v.1, v.2.1, v.2.2.1, ())
 else none
 else
 k0 (v.1, v.2.1, v.2.2.1, ())
 else none
 else
 k0 (v.1, v.2.1, v.2.2.1, ())
 else none
 else none
 else
 k0 (v.1, v.2.1, v.2.2.1, ())
 else none
 else none
 else
 bif ((decide (0 ≤ v.2.2.1)) && (decide (v.2.2.1 < (v.1.size : Int)))) then
 Option.bind (f636F k ((⟨#[36, 35, 64]⟩ : ByteArray), (bt v.1 v.2.2.1))) fun y2 =>
 bif (!(decide (y2 ≥ 0))) then
 bif (v.2.2.1 == 0) then
 k1 (v.1, false, v.2.1, v.2.2.1, ())
 else
 bif ((decide (0 ≤ v.2.2.1)) && (decide (v.2.2.1 < (v.1.size : Int)))) then
 bif (decide ((bt v.1 v.2.2.1) < 48)) then
 bif ((decide (0 ≤ v.2.2.1)) && (decide (v.2.2.1 < (v.1.size : Int)))) then
 bif ((bt v.1 v.2.2.1) != 95) then
 bif ((decide (0 ≤ v.2.2.1)) && (decide (v.2.2.1 < (v.1.size : Int)))) then
 bif ((bt v.1 v.2.2.1) != 46) then
 k1 (v.1, false, v.2.1, v.2.2.1, ())
 else
 k0 (v.1, v.2.1, v.2.2.1, ())
 else none
 else
 k0 (v.1, v.2.1, v.2.2.1, ())
 else none
 else
 bif ((decide (0 ≤ v.2.2.1)) && (decide (v.2.2.1 < (v.1.size : Int)))) then
 bif (decide ((bt v.1 v.2.2.1) > 57)) then
 bif ((decide (0 ≤ v.2.2.1)) && (decide (v.2.2.1 < (v.1.size : Int)))) then
 bif ((bt v.1 v.2.2.1) != 95) then
 bif ((decide (0 ≤ v.2.2.1)) && (decide (v.2.2.1 < (v.1.size : Int)))) then
 bif ((bt v.1 v.2.2.1) != 46) then
 k1 (v.1, false, v.2.1, v.2.2.1, ())
 else
 k0 (v.1, v.2.1, v.2.2.1, ())
 else none
 else
 k0 (v.1, v.2.1, v.2.2.1, ())
 else none
 else
 k0 (v.1, v.2.1, v.2.2.1, ())
 else none
 else none
 else
 k0 (v.1, v.2.1, v.2.2.1, ())
 else none
 else none
noncomputable def f602p0S (k : Nat) := partSum ⟨[(0, oS), (13, oI), (14, oI)], [], 0, []⟩ ⟨[0, 13, 14], [], []⟩ fun R K v => f602p0 k (fun w => K .normal (encSt ⟨[(0, oS), (13, oI), (14, oI)], [], 0, []⟩ w)) (fun w => K .ret (encSt ⟨[(0, oS), (2, oB), (13, oI), (14, oI)], [], 0, []⟩ w)) v
theorem f602p0O (k : Nat) : SumO P Tryz.f102 934 (f602p0S k) := pt tm (f602T k) ⟨[0, 2, 13, 14], [], []⟩ SumsOk.nil fun _ _ _ => by kernel_rfl
noncomputable def f602l1s {R : Type} (k : Nat) (rec : D46 → Option R) (k0 : Bool × Unit → Option R) (k1 : Unit → Option R) (v : D46) : Option R :=
 bif (decide (v.2.2.1 < v.2.1)) then
 f602p0 k
 (fun (w3 : D46) =>
 rec (w3.1, w3.2.1, (IntKind.i64.wrap (w3.2.2.1 + 1)), ()))
 (fun (w4 : D47) =>
 k0 (w4.2.1, ()))
 (v.1, v.2.1, v.2.2.1, ())
 else
 k1 (())
noncomputable def f602l1 {R : Type} (k : Nat) (k0 : Bool × Unit → Option R) (k1 : Unit → Option R) (v : D46) : Option R := iterS (fun rec v => f602l1s k rec k0 k1 v) k v
noncomputable def f602l1S (k : Nat) := loopSum ⟨[(0, oS), (13, oI), (14, oI)], [], 0, []⟩ ⟨[0, 13, 14], [], []⟩ k fun R rec K v => f602l1s k rec (fun w => K .ret (encSt ⟨[(2, oB)], [], 0, []⟩ w)) (fun w => K (.exit 0) (encSt ⟨[], [], 0, []⟩ w)) v
theorem f602l1O (k : Nat) : SumO P Tryz.f102 58 (f602l1S k) := lp tm (f602T k) ⟨[2], [], []⟩ (SumsOk.nil |>.s (f602p0O k) (by kernel_rfl)) (by kernel_rfl) fun _ _ _ _ => by kernel_rfl
noncomputable def f602F (k : Nat) (x : ByteArray) : Option (Bool) :=
 bif (strEq x ByteArray.empty) then
 some false
 else
 bif (decide ((x.size : Int) > 10)) then
 some false
 else
 f602l1 k
 (fun (w5 : Bool × Unit) =>
 some w5.1)
 (fun (w6 : Unit) =>
 some true)
 (x, (x.size : Int), 0, ())
theorem f602Ok (k : Nat) : FnV P 102 [.dat .str] [.dat .bool] (f602F k) :=
 fs tm (f602T k) Tryz.func102 (by kernel_rfl) (SumsOk.nil |>.s (f602l1O k) (by kernel_rfl) |>.s (f602p0O k) (by kernel_rfl)) none fun _ => by kernel_rfl
noncomputable def f625l0s {R : Type} (k : Nat) (rec : D48 → Option R) (k0 : Int × Unit → Option R) (k1 : Unit → Option R) (v : D48) : Option R :=
 bif (decide (v.2.2.2.1 < v.2.2.1)) then
 bif ((decide (0 ≤ v.2.2.2.1)) && (decide (v.2.2.2.1 < (v.1.length : Int)))) then
 bif (strEq v.2.1 (v.1.getD (Int.toNat v.2.2.2.1) ByteArray.empty)) then
 k0 (v.2.2.2.1, ())
 else
 rec (v.1, v.2.1, v.2.2.1, (IntKind.i64.wrap (v.2.2.2.1 + 1)), ())
 else none
 else
 k1 (())
noncomputable def f625l0 {R : Type} (k : Nat) (k0 : Int × Unit → Option R) (k1 : Unit → Option R) (v : D48) : Option R := iterS (fun rec v => f625l0s k rec k0 k1 v) k v
noncomputable def f625l0S (k : Nat) := loopSum ⟨[(0, .one (.ro .str)), (1, oS), (7, oI), (8, oI)], [], 0, []⟩ ⟨[0, 1, 7, 8], [], []⟩ k fun R rec K v => f625l0s k rec (fun w => K .ret (encSt ⟨[(4, oI)], [], 0, []⟩ w)) (fun w => K (.exit 0) (encSt ⟨[], [], 0, []⟩ w)) v
theorem f625l0O (k : Nat) : SumO P Tryz.f125 26 (f625l0S k) := lp tm TB.nil ⟨[4], [], []⟩ SumsOk.nil (by kernel_rfl) fun _ _ _ _ => by kernel_rfl
noncomputable def f625F (k : Nat) (x : D49) : Option (Int) :=
 f625l0 k
 (fun (w1 : Int × Unit) =>
 some w1.1)
 (fun (w2 : Unit) =>
 some (-1))
 (x.1, x.2, (x.1.length : Int), 0, ())
theorem f625Ok (k : Nat) : FnV P 125 [.dat (.slice .str), .dat .str] [.dat (.int .i64)] (f625F k) :=
 fs tm TB.nil Tryz.func125 (by kernel_rfl) (SumsOk.nil |>.s (f625l0O k) (by kernel_rfl)) none fun _ => by kernel_rfl
noncomputable def f587T (k : Nat) : TB P := TB.nil |>.u (f625Ok k)
noncomputable def f587F (k : Nat) (x : D49) : Option (Bool) :=
 Option.bind (f625F k (x.1, x.2)) fun y1 =>
 some (decide (y1 ≥ 0))
theorem f587Ok (k : Nat) : FnV P 87 [.dat (.slice .str), .dat .str] [.dat .bool] (f587F k) :=
 fs tm (f587T k) Tryz.func87 (by kernel_rfl) SumsOk.nil none fun _ => by kernel_rfl
noncomputable def f560T (k : Nat) : TB P := TB.nil |>.u (f602Ok k) |>.u (f587Ok k)
noncomputable def f560l0s {R : Type} (k : Nat) (rec : D50 → Option R) (k0 : Int × Unit → Option R) (k1 : Unit → Option R) (v : D50) : Option R :=
 bif (decide (v.2.2.2.1 < v.2.2.1)) then
 bif ((decide (0 ≤ v.2.2.2.1)) && (decide (v.2.2.2.1 < (v.2.1.length : Int)))) then
 Option.bind (f602F k (v.2.1.getD (Int.toNat v.2.2.2.1) ByteArray.empty)) fun y1 =>
 bif (!y1) then
 k0 (7, ())
 else
 bif (sliceBds 0 v.2.2.2.1 (v.1.length : Int)) then
 Option.bind (f587F k (((v.1.take (Int.toNat v.2.2.2.1)).drop 0), (v.2.1.getD (Int.toNat v.2.2.2.1) ByteArray.empty))) fun y2 =>
 bif y2 then
 k0 (13, ())
 else
 rec (v.1, v.2.1, v.2.2.1, (IntKind.i64.wrap (v.2.2.2.1 + 1)), ())
 else none
 else none
 else
 k1 (())
noncomputable def f560l0 {R : Type} (k : Nat) (k0 : Int × Unit → Option R) (k1 : Unit → Option R) (v : D50) : Option R := iterS (fun rec v => f560l0s k rec k0 k1 v) k v
noncomputable def f560l0S (k : Nat) := loopSum ⟨[(0, .one (.ro .str)), (5, .one (.ro .str)), (6, oI), (7, oI)], [], 0, []⟩ ⟨[0, 5, 6, 7], [], []⟩ k fun R rec K v => f560l0s k rec (fun w => K .ret (encSt ⟨[(2, oI)], [], 0, []⟩ w)) (fun w => K (.exit 0) (encSt ⟨[], [], 0, []⟩ w)) v
theorem f560l0O (k : Nat) : SumO P Tryz.f60 26 (f560l0S k) := lp tm (f560T k) ⟨[2], [], []⟩ SumsOk.nil (by kernel_rfl) fun _ _ _ _ => by kernel_rfl
noncomputable def f560F (k : Nat) (x : (List ByteArray)) : Option (Int) :=
 f560l0 k
 (fun (w3 : Int × Unit) =>
 some w3.1)
 (fun (w4 : Unit) =>
 some 0)
 (x, x, (x.length : Int), 0, ())
theorem f560Ok (k : Nat) : FnV P 60 [.dat (.slice .str)] [.dat (.int .i64)] (f560F k) :=
 fs tm (f560T k) Tryz.func60 (by kernel_rfl) (SumsOk.nil |>.s (f560l0O k) (by kernel_rfl)) none fun _ => by kernel_rfl
noncomputable def f561l0s {R : Type} (k : Nat) (rec : D0 → Option R) (k0 : List Int × Unit → Option R) (v : D0) : Option R :=
 bif (decide (v.2.1 ≥ 0)) then
 bif ((decide (0 ≤ v.2.1)) && (decide (v.2.1 < (v.2.2.1.length : Int)))) then
 rec ((shrI .i64 v.1 8), (IntKind.i64.wrap (v.2.1 - 1)), (v.2.2.1.set (Int.toNat v.2.1) (IntKind.u8.wrap v.1)), ())
 else none
 else
 k0 (v.2.2.1, ())
noncomputable def f561l0 {R : Type} (k : Nat) (k0 : List Int × Unit → Option R) (v : D0) : Option R := iterS (fun rec v => f561l0s k rec k0 v) k v
noncomputable def f561l0S (k : Nat) := loopSum ⟨[(0, oI), (5, .one (.own 0)), (6, oI)], [(0, .row 5 (.int .u8) .plain)], 1, []⟩ ⟨[0, 5, 6], [], []⟩ k fun R rec K v => f561l0s k rec (fun w => K (.exit 0) (encSt ⟨[(5, .one (.own 0))], [(0, .row 5 (.int .u8) .plain)], 1, []⟩ w)) v
theorem f561l0O (k : Nat) : SumO P Tryz.f61 58 (f561l0S k) := lp tm TB.nil ⟨[4, 5], [], []⟩ SumsOk.nil (by kernel_rfl) fun _ _ _ _ => by kernel_rfl
noncomputable def f561F (k : Nat) (x : Int × Int) : Option (List Int) :=
 bif (((decide (0 ≤ x.2)) && (decide ((x.2 * 1) ≤ 140737488355328))) && (decide (x.2 ≤ 281474976710656))) then
 f561l0 k
 (fun (w1 : List Int × Unit) =>
 some w1.1)
 (x.1, (IntKind.i64.wrap (x.2 - 1)), (List.replicate (Int.toNat x.2) 0), ())
 else none
theorem f561Ok (k : Nat) : FnV P 61 [.dat (.int .i64), .dat (.int .i64)] [.own 5 (.int .u8)] (f561F k) :=
 fs tm TB.nil Tryz.func61 (by kernel_rfl) (SumsOk.nil |>.s (f561l0O k) (by kernel_rfl)) none fun _ => by kernel_rfl
noncomputable def f562l0s {R : Type} (k : Nat) (rec : D51 → Option R) (k0 : Int × Unit → Option R) (v : D51) : Option R :=
 bif (decide (v.2.2.2.1 < v.2.2.1)) then
 bif ((decide (0 ≤ v.2.2.2.1)) && (decide (v.2.2.2.1 < (v.1.size : Int)))) then
 let t1 := (IntKind.i64.wrap ((IntKind.i64.wrap (257 * v.2.1)) + (IntKind.i64.wrap (bt v.1 v.2.2.2.1))))
 rec (v.1, (Int.tmod (IntKind.i64.wrap (t1 + 1)) 4294967291), v.2.2.1, (IntKind.i64.wrap (v.2.2.2.1 + 1)), ())
 else none
 else
 k0 (v.2.1, ())
noncomputable def f562l0 {R : Type} (k : Nat) (k0 : Int × Unit → Option R) (v : D51) : Option R := iterS (fun rec v => f562l0s k rec k0 v) k v
noncomputable def f562l0S (k : Nat) := loopSum ⟨[(0, oS), (3, oI), (6, oI), (7, oI)], [], 0, []⟩ ⟨[0, 3, 6, 7], [], []⟩ k fun R rec K v => f562l0s k rec (fun w => K (.exit 0) (encSt ⟨[(3, oI)], [], 0, []⟩ w)) v
theorem f562l0O (k : Nat) : SumO P Tryz.f62 58 (f562l0S k) := lp tm TB.nil ⟨[2, 3], [], []⟩ SumsOk.nil (by kernel_rfl) fun _ _ _ _ => by kernel_rfl
noncomputable def f562F (k : Nat) (x : ByteArray) : Option (Int) :=
 f562l0 k
 (fun (w2 : Int × Unit) =>
 some w2.1)
 (x, 1, (x.size : Int), 0, ())
theorem f562Ok (k : Nat) : FnV P 62 [.dat .str] [.dat (.int .i64)] (f562F k) :=
 fs tm TB.nil Tryz.func62 (by kernel_rfl) (SumsOk.nil |>.s (f562l0O k) (by kernel_rfl)) none fun _ => by kernel_rfl
noncomputable def f521T (k : Nat) : TB P := TB.nil |>.u (f562Ok k) |>.u (f561Ok k) |>.u (f560Ok k) |>.u (f517Ok k)
noncomputable def f521p0 {R : Type} (k : Nat) (k0 : D52 → Option R) (v : D52) : Option R :=
 bif (v.2.2.2.2.2.1 == (IntKind.i64.wrap (v.2.2.2.1 - (1 : Int)))) then
 k0 (v.1, v.2.1, v.2.2.1, v.2.2.2.1, v.2.2.2.2.1, v.2.2.2.2.2.1, v.2.2.2.2.2.2.1, (bits .or .i64 v.2.2.2.2.2.2.2.1 (128 : Int)), v.2.2.2.2.2.2.2.2.1, v.2.2.2.2.2.2.2.2.2.1, v.2.2.2.2.2.2.2.2.2.2.1, v.2.2.2.2.2.2.2.2.2.2.2.1, ())
 else
 k0 (v.1, v.2.1, v.2.2.1, v.2.2.2.1, v.2.2.2.2.1, v.2.2.2.2.2.1, v.2.2.2.2.2.2.1, v.2.2.2.2.2.2.2.1, v.2.2.2.2.2.2.2.2.1, v.2.2.2.2.2.2.2.2.2.1, v.2.2.2.2.2.2.2.2.2.2.1, v.2.2.2.2.2.2.2.2.2.2.2.1, ())
noncomputable def f521p0S (k : Nat) := partSum ⟨[(1, .one (.ro .str)), (2, oI), (8, oS), (11, oI), (12, oI), (13, .one (.own 0)), (14, oI), (15, oS), (16, oI), (58, oI), (59, oI)], [(0, .row 81 Y7 .plain), (1, .heap 9 .str)], 2, []⟩ ⟨[1, 2, 8, 11, 12, 13, 14, 15, 16, 58, 59], [], []⟩ fun R K v => f521p0 k (fun w => K .normal (encSt ⟨[(1, .one (.ro .str)), (2, oI), (8, oS), (11, oI), (12, oI), (13, .one (.own 0)), (14, oI), (15, oS), (16, oI), (58, oI), (59, oI)], [(0, .row 81 Y7 .plain), (1, .heap 9 .str)], 2, []⟩ w)) v
theorem f521p0O (k : Nat) : SumO P Tryz.f21 8385742 (f521p0S k) := pt htm0 (f521T k) ⟨[1, 2, 6, 7, 8, 11, 12, 13, 14, 15, 16, 58, 59], [], []⟩ SumsOk.nil fun _ _ _ => by kernel_rfl
noncomputable def f521l1s {R : Type} (k : Nat) (rec : D54 → Option R) (k0 : D53 → Option R) (v : D54) : Option R :=
 bif (decide (v.2.2.2.2.2.2.1 < v.2.2.2.2.2.1)) then
 let t6 := (IntKind.i64.wrap ((IntKind.i64.wrap (v.2.2.2.2.2.2.1 + (1 : Int))) * (52 : Int)))
 bif (sliceBds (IntKind.i64.wrap (v.2.2.2.2.2.2.1 * (52 : Int))) (mnI t6 (v.2.2.1.size : Int)) (v.2.2.1.size : Int)) then
 let t7 := (v.2.2.1.extract (Int.toNat (IntKind.i64.wrap (v.2.2.2.2.2.2.1 * (52 : Int)))) (Int.toNat (mnI t6 (v.2.2.1.size : Int))))
 f521p0 k
 (fun (w8 : D52) =>
 bif (!(decide (w8.2.1 = (0 : Int)))) then
 let t9 := (IntKind.i64.wrap ((IntKind.i64.wrap (Int.tdiv w8.2.2.2.2.2.1 w8.2.1)) + (1 : Int)))
 Option.bind (f561F k ((IntKind.i64.wrap (w8.2.2.2.2.2.1 + (1 : Int))), (2 : Int))) fun y10 =>
 bif (decide (([(IntKind.u8.wrap t9)].length + y10.length) * 1 ≤ 140737488355328) && decide ([(IntKind.u8.wrap t9)].length + y10.length ≤ 9223372036854775807)) then
 bif (decide ((([(IntKind.u8.wrap t9)] ++ y10).length + [(IntKind.u8.wrap w8.2.2.2.2.2.2.2.1)].length) * 1 ≤ 140737488355328) && decide (([(IntKind.u8.wrap t9)] ++ y10).length + [(IntKind.u8.wrap w8.2.2.2.2.2.2.2.1)].length ≤ 9223372036854775807)) then
 let t11 := (([(IntKind.u8.wrap t9)] ++ y10) ++ [(IntKind.u8.wrap w8.2.2.2.2.2.2.2.1)])
 bif (decide ((t11.length + (bytesOf w8.2.2.2.2.2.2.1).length) * 1 ≤ 140737488355328) && decide (t11.length + (bytesOf w8.2.2.2.2.2.2.1).length ≤ 9223372036854775807)) then
 bif (((decide ((0 : Int) ≤ (IntKind.i64.wrap ((52 : Int) - (w8.2.2.2.2.2.2.1.size : Int))))) && ((decide (((IntKind.i64.wrap ((52 : Int) - (w8.2.2.2.2.2.2.1.size : Int))) * 1) ≤ (140737488355328 : Int))) && (decide ((IntKind.i64.wrap ((52 : Int) - (w8.2.2.2.2.2.2.1.size : Int))) ≤ (9223372036854775807 : Int))))) && (decide (((t11 ++ (bytesOf w8.2.2.2.2.2.2.1)).length + (List.replicate (Int.toNat (IntKind.i64.wrap ((52 : Int) - (w8.2.2.2.2.2.2.1.size : Int)))) (0 : Int)).length) * 1 ≤ 140737488355328) && decide ((t11 ++ (bytesOf w8.2.2.2.2.2.2.1)).length + (List.replicate (Int.toNat (IntKind.i64.wrap ((52 : Int) - (w8.2.2.2.2.2.2.1.size : Int)))) (0 : Int)).length ≤ 9223372036854775807))) then
 let t12 := ((t11 ++ (bytesOf w8.2.2.2.2.2.2.1)) ++ (List.replicate (Int.toNat (IntKind.i64.wrap ((52 : Int) - (w8.2.2.2.2.2.2.1.size : Int)))) (0 : Int)))
 bif (decide ((t12.length + [(IntKind.u8.wrap w8.2.2.2.2.1), (0 : Int), (0 : Int), (0 : Int)].length) * 1 ≤ 140737488355328) && decide (t12.length + [(IntKind.u8.wrap w8.2.2.2.2.1), (0 : Int), (0 : Int), (0 : Int)].length ≤ 9223372036854775807)) then
 let t13 := (t12 ++ [(IntKind.u8.wrap w8.2.2.2.2.1), (0 : Int), (0 : Int), (0 : Int)])
 Option.bind (f562F k (strOfNums t13)) fun y14 =>
 Option.bind (f561F k (y14, (4 : Int))) fun y15 =>
 bif (decide ((t13.length + y15.length) * 1 ≤ 140737488355328) && decide (t13.length + y15.length ≤ 9223372036854775807)) then
 bif ((decide ((0 : Int) ≤ (IntKind.i64.wrap (Int.tdiv w8.2.2.2.2.2.1 w8.2.1)))) && (decide ((IntKind.i64.wrap (Int.tdiv w8.2.2.2.2.2.1 w8.2.1)) < (w8.1.length : Int)))) then
 let t16 := (w8.1.getD (Int.toNat (IntKind.i64.wrap (Int.tdiv w8.2.2.2.2.2.1 w8.2.1))) ByteArray.empty)
 bif ((decide ((0 : Int) ≤ (IntKind.i64.wrap (Int.tdiv w8.2.2.2.2.2.1 w8.2.1)))) && (decide ((IntKind.i64.wrap (Int.tdiv w8.2.2.2.2.2.1 w8.2.1)) < (w8.2.2.2.2.2.2.2.2.2.2.1.length : Int)))) then
 let t17 := (w8.2.2.2.2.2.2.2.2.2.2.1.set (Int.toNat (IntKind.i64.wrap (Int.tdiv w8.2.2.2.2.2.1 w8.2.1))) (t16, (w8.2.2.2.2.2.2.2.2.2.2.1.getD (Int.toNat (IntKind.i64.wrap (Int.tdiv w8.2.2.2.2.2.1 w8.2.1))) (ByteArray.empty, (0 : Nat))).2))
 bif ((decide ((0 : Int) ≤ (IntKind.i64.wrap (Int.tdiv w8.2.2.2.2.2.1 w8.2.1)))) && (decide ((IntKind.i64.wrap (Int.tdiv w8.2.2.2.2.2.1 w8.2.1)) < (t17.length : Int)))) then
 let t18 := (t17.getD (Int.toNat (IntKind.i64.wrap (Int.tdiv w8.2.2.2.2.2.1 w8.2.1))) (ByteArray.empty, (0 : Nat))).2
 bif (kown w8.2.2.2.2.2.2.2.2.2.2.2.1 t18 && (decide (((kget w8.2.2.2.2.2.2.2.2.2.2.2.1 t18).length + [(strOfNums (t13 ++ y15))].length) * 16 ≤ 140737488355328) && decide ((kget w8.2.2.2.2.2.2.2.2.2.2.2.1 t18).length + [(strOfNums (t13 ++ y15))].length ≤ 9223372036854775807))) then
 let t19 := (kapp w8.2.2.2.2.2.2.2.2.2.2.2.1 t18 (kget w8.2.2.2.2.2.2.2.2.2.2.2.1 t18).length [(strOfNums (t13 ++ y15))])
 bif ((decide ((0 : Int) ≤ (IntKind.i64.wrap (Int.tdiv w8.2.2.2.2.2.1 w8.2.1)))) && (decide ((IntKind.i64.wrap (Int.tdiv w8.2.2.2.2.2.1 w8.2.1)) < (t17.length : Int)))) then
 let t20 := (t17.set (Int.toNat (IntKind.i64.wrap (Int.tdiv w8.2.2.2.2.2.1 w8.2.1))) ((t17.getD (Int.toNat (IntKind.i64.wrap (Int.tdiv w8.2.2.2.2.2.1 w8.2.1))) (ByteArray.empty, (0 : Nat))).1, (w8.2.2.2.2.2.2.2.2.2.2.2.1.length + 1)))
 rec (w8.1, w8.2.1, w8.2.2.1, w8.2.2.2.1, w8.2.2.2.2.1, w8.2.2.2.2.2.2.2.2.1, (IntKind.i64.wrap (w8.2.2.2.2.2.2.2.2.2.1 + (1 : Int))), t20, t19, ())
 else none
 else none
 else none
 else none
 else none
 else none
 else none
 else none
 else none
 else none
 else none
 else none)
 (v.1, v.2.1, v.2.2.1, v.2.2.2.1, v.2.2.2.2.1, v.2.2.2.2.2.2.1, t7, (t7.size : Int), v.2.2.2.2.2.1, v.2.2.2.2.2.2.1, v.2.2.2.2.2.2.2.1, v.2.2.2.2.2.2.2.2.1, ())
 else none
 else
 k0 (v.2.2.2.2.2.2.2.1, v.2.2.2.2.2.2.2.2.1, ())
noncomputable def f521l1 {R : Type} (k : Nat) (k0 : D53 → Option R) (v : D54) : Option R := iterS (fun rec v => f521l1s k rec k0 v) k v
noncomputable def f521l1S (k : Nat) := loopSum ⟨[(1, .one (.ro .str)), (2, oI), (8, oS), (11, oI), (12, oI), (13, .one (.own 0)), (58, oI), (59, oI)], [(0, .row 81 Y7 .plain), (1, .heap 9 .str)], 2, []⟩ ⟨[1, 2, 8, 11, 12, 13, 58, 59], [], []⟩ k fun R rec K v => f521l1s k rec (fun w => K (.exit 0) (encSt ⟨[(13, .one (.own 0))], [(0, .row 81 Y7 .plain), (1, .heap 9 .str)], 2, []⟩ w)) v
theorem f521l1O (k : Nat) : SumO P Tryz.f21 16378 (f521l1S k) := lp htm0 (f521T k) ⟨[6, 7, 13], [], []⟩ (SumsOk.nil |>.s (f521p0O k) (by kernel_rfl)) (by kernel_rfl) fun _ _ _ _ => by kernel_rfl
noncomputable def f521F (k : Nat) (x : D55) : Option ((List D56) × Int) :=
 Option.bind (f517F k x.1) fun y1 =>
 bif (y1.2 != 0) then
 some ([], y1.2)
 else
 bif (decide (x.2.2 < 1)) then
 some ([], 3)
 else
 bif (decide (x.2.2 > 60)) then
 some ([], 3)
 else
 bif (decide ((x.2.1.length : Int) > 6)) then
 some ([], 2)
 else
 Option.bind (f560F k x.2.1) fun y2 =>
 bif (y2 != 0) then
 some ([], y2)
 else
 let t3 := (IntKind.i64.wrap ((IntKind.i64.wrap ((y1.1.size : Int) + 52)) - 1))
 let t4 := (IntKind.i64.wrap ((IntKind.i64.wrap (Int.tdiv t3 52)) + x.2.2))
 bif (!(decide (x.2.2 = 0))) then
 let t5 := (IntKind.i64.wrap (Int.tdiv (IntKind.i64.wrap (t4 - 1)) x.2.2))
 bif (decide (t5 > (x.2.1.length : Int))) then
 some ([], 30)
 else
 bif (((decide (0 ≤ t5)) && (decide ((t5 * 40) ≤ 140737488355328))) && (decide (t5 ≤ 281474976710656))) then
 f521l1 k
 (fun (w21 : D53) =>
 bif ((w21.1.all fun q => (true && (kro (List.map Kid.frz w21.2.1) q.2))) && true) then
 some ((w21.1.map fun q => (q.1, (kget (List.map Kid.frz w21.2.1) q.2))), 0)
 else none)
 (x.2.1, x.2.2, y1.1, (IntKind.i64.wrap (Int.tdiv t3 52)), t5, (IntKind.i64.wrap (Int.tdiv t3 52)), 0, (List.replicate (Int.toNat t5) (ByteArray.empty, (0 : Nat))), [], ())
 else none
 else none
theorem f521Ok (k : Nat) : FnV P 21 [.dat (.slice Y6), .dat (.slice .str), .dat (.int .i64)] [.dat (.slice Y8), .dat (.int .i64)] (f521F k) :=
 fs htm0 (f521T k) Tryz.func21 (by kernel_rfl) (SumsOk.nil |>.s (f521l1O k) (by kernel_rfl) |>.s (f521p0O k) (by kernel_rfl)) (some (9, .str)) fun _ => by kernel_rfl
end Go.Proofs.YtobgkcamonlnkaaGreatDoor
