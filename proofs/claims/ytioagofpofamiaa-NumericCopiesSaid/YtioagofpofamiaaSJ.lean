/- The library's strings.Repeat at this program: the shelf's contract, laid in plain words (by the kit's lay-plain), and as a function over data. -/
import Derived.Test.YtioagofpofamiaaAB
import Derived.Test.YtioagofpofamiaaProg
import Derived.Shelf.Strings.Repeat
/-! strings.Repeat at this program. -/
set_option linter.unusedVariables false
namespace Go.Proofs.Ytioagofpofamiaa
open Go.Shelf Go.Ab
def lays105_ren : Go.Shelf.Ren := ⟨fun | 105 => 73 | 212 => 100 | 99 => 101 | 165 => 102 | 166 => 103 | 170 => 104 | 169 => 105 | 263 => 110 | 264 => 111 | 206 => 112 | 240 => 113 | 241 => 114 | 276 => 116 | 277 => 117 | n => n, fun | 9 => 9 | 3 => 3 | 4 => 4 | 20 => 20 | 0 => 0 | 46 => 122 | 109 => 148 | 5 => 5 | 72 => 153 | 76 => 157 | 51 => 164 | 146 => 165 | 53 => 89 | 148 => 161 | 70 => 151 | 37 => 119 | 75 => 156 | 127 => 168 | 164 => 169 | 80 => 160 | n => n, fun | n => n⟩
theorem lays105 : Go.Proofs.Lays.n105 Try.prog lays105_ren := {
  mixed := by kernel_rfl
  f99 := Try.func101.trans (congrArg some (by kernel_rfl))
  f105 := Try.func73.trans (congrArg some (by kernel_rfl))
  f165 := Try.func102.trans (congrArg some (by kernel_rfl))
  f166 := Try.func103.trans (congrArg some (by kernel_rfl))
  f169 := Try.func105.trans (congrArg some (by kernel_rfl))
  f170 := Try.func104.trans (congrArg some (by kernel_rfl))
  f206 := Try.func112.trans (congrArg some (by kernel_rfl))
  f212 := Try.func100.trans (congrArg some (by kernel_rfl))
  f240 := Try.func113.trans (congrArg some (by kernel_rfl))
  f241 := Try.func114.trans (congrArg some (by kernel_rfl))
  f263 := Try.func110.trans (congrArg some (by kernel_rfl))
  f264 := Try.func111.trans (congrArg some (by kernel_rfl))
  f276 := Try.func116.trans (congrArg some (by kernel_rfl))
  f277 := Try.func117.trans (congrArg some (by kernel_rfl))
  t0 := Try.underlying0
  a0 := Try.isAgg0
  z0 := Try.sizeOf0
  v0 := Try.zeroValue0
  t3 := Try.underlying3
  a3 := Try.isAgg3
  z3 := Try.sizeOf3
  v3 := Try.zeroValue3
  t4 := Try.underlying4
  a4 := Try.isAgg4
  z4 := Try.sizeOf4
  v4 := Try.zeroValue4
  t5 := Try.underlying5
  a5 := Try.isAgg5
  z5 := Try.sizeOf5
  v5 := Try.zeroValue5
  t9 := Try.underlying9
  a9 := Try.isAgg9
  z9 := Try.sizeOf9
  v9 := Try.zeroValue9
  t20 := Try.underlying20
  a20 := Try.isAgg20
  z20 := Try.sizeOf20
  v20 := Try.zeroValue20
  t37 := Try.underlying119
  a37 := Try.isAgg119
  z37 := Try.sizeOf119
  v37 := Try.zeroValue119
  t46 := Try.underlying122
  a46 := Try.isAgg122
  z46 := Try.sizeOf122
  v46 := Try.zeroValue122
  t51 := Try.underlying164
  a51 := Try.isAgg164
  z51 := Try.sizeOf164
  v51 := Try.zeroValue164
  t53 := Try.underlying89
  a53 := Try.isAgg89
  z53 := Try.sizeOf89
  v53 := Try.zeroValue89
  t70 := Try.underlying151
  a70 := Try.isAgg151
  z70 := Try.sizeOf151
  v70 := Try.zeroValue151
  t72 := Try.underlying153
  a72 := Try.isAgg153
  z72 := Try.sizeOf153
  v72 := Try.zeroValue153
  t75 := Try.underlying156
  a75 := Try.isAgg156
  z75 := Try.sizeOf156
  v75 := Try.zeroValue156
  t76 := Try.underlying157
  a76 := Try.isAgg157
  z76 := Try.sizeOf157
  v76 := Try.zeroValue157
  t109 := Try.underlying148
  a109 := Try.isAgg148
  z109 := Try.sizeOf148
  v109 := Try.zeroValue148
  t127 := Try.underlying168
  a127 := Try.isAgg168
  z127 := Try.sizeOf168
  v127 := Try.zeroValue168
  t146 := Try.underlying165
  a146 := Try.isAgg165
  z146 := Try.sizeOf165
  v146 := Try.zeroValue165
  t148 := Try.underlying161
  a148 := Try.isAgg161
  z148 := Try.sizeOf161
  v148 := Try.zeroValue161
  t164 := Try.underlying169
  a164 := Try.isAgg169
  z164 := Try.sizeOf169
  v164 := Try.zeroValue169 }
theorem extra105 : Builder.Extra Try.prog lays105_ren := {
  sizeBuilder := by kernel_rfl
  liesBuilder := by kernel_rfl
  t5 := Try.underlying5
  a5 := Try.isAgg5
  z5 := Try.sizeOf5
  v5 := Try.zeroValue5
  infoByte := by kernel_rfl
  cellsByte := by kernel_rfl
  sizeByte := by kernel_rfl
  neB5 := by decide }

/-- Copies of a string. -/
def f73F (k : Nat) (x : ByteArray × Int) : Option ByteArray :=
  bif decide (0 ≤ x.2) && (decide (x.2 ≤ 9223372036854775807) && decide ((x.1.size : Int) * x.2 ≤ 140737488355328)) then some ⟨(Lib.repeatL x.1.data.toList x.2.toNat).toArray⟩ else none
theorem f73B : HasBody Go.Proofs.Try.prog 73 := ⟨Go.Proofs.Try.f73, Go.Proofs.Try.func73, by kernel_rfl, by kernel_rfl⟩
theorem f73Ok (k : Nat) (x : ByteArray × Int) (y : ByteArray) (h : f73F k x = some y) : FnOk Go.Proofs.Try.prog 73 [.dat .str, .dat (.int .i64)] [.dat .str] x y := by
  obtain ⟨s, c⟩ := x
  unfold f73F at h
  cases hc : (decide (0 ≤ c) && (decide (c ≤ 9223372036854775807) && decide ((s.size : Int) * c ≤ 140737488355328))) with
  | false => rw [hc] at h; cases h
  | true =>
    rw [hc] at h
    simp only [Bool.and_eq_true, decide_eq_true_eq] at hc
    obtain ⟨c0, c1, c2⟩ := hc
    obtain ⟨C, rfl⟩ : ∃ C : Nat, c = C := ⟨c.toNat, by omega⟩
    have hy : y = ⟨(Lib.repeatL s.data.toList C).toArray⟩ := by
      simp only [cond_true, Int.toNat_natCast] at h
      exact (Option.some.inj h).symm
    subst hy
    have hlen : s.size * C ≤ 140737488355328 := by
      have e : (s.size : Int) * (C : Int) = ((s.size * C : Nat) : Int) := by simp
      omega
    intro γ F w vals hF hvals
    match vals, hvals with
    | [a, b], ⟨ha, hb, _⟩ =>
      have ha : a = .string s := ha
      have hb : b = .int .i64 (C : Int) := hb
      subst ha hb
      have hr := Any.strings_Repeat lays105 extra105 s C w (by omega) hlen
      refine (show Calls Go.Proofs.Try.prog 73 #[.string s, .int .i64 (C : Int)] w _ from hr).mono fun e w' ⟨he, hw⟩ => ?_
      refine ⟨.string ⟨(Lib.repeatL s.data.toList C).toArray⟩, γ, F, he, ?_, ?_⟩
      · exact ⟨hw.os, hw.tape, hw.output, hw.size, fun b hb _ => hw.block b hb, fun _ _ => rfl, fun _ h => h, fun _ h => .inl h, fun b h => absurd h no_mine, fun b h => hw.block b (hF b h),
          ⟨fun t x hx => (by cases hx), fun t t' c ⟨x, hx⟩ => (by cases hx), fun b h => Nat.lt_of_lt_of_le (hF b h) hw.size⟩⟩
      · rfl
end Go.Proofs.Ytioagofpofamiaa
