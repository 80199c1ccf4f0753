/- The library's stringslite.Index and strings.TrimLeft at this program: the shelf's contracts, laid in plain words (by the kit's lay-plain), and as functions over data. -/
import Derived.Test.YtioagofpofamiaaDoorAB
import Derived.Test.YtioagofpofamiaaDoorProg
import Derived.Shelf.Strings.Search2
import Derived.Shelf.Strings.Trim
import Derived.Shelf.Strings.Repeat
import Derived.Shelf.Strconv.Itoa3
/-! stringslite.Index and strings.TrimLeft at this program. -/
set_option linter.unusedVariables false
namespace Go.Proofs.YtioagofpofamiaaDoor
open Go.Shelf Go.Ab
def lays219_ren : Go.Shelf.Ren := ⟨fun | 219 => 61 | 217 => 77 | 225 => 78 | 224 => 79 | 267 => 80 | 266 => 91 | 314 => 92 | n => n, fun | 9 => 9 | 3 => 3 | 4 => 4 | 5 => 5 | 46 => 88 | 146 => 122 | 51 => 121 | n => n, fun | 1 => 0 | n => n⟩
theorem lays219 : Go.Proofs.Lays.n219 Tryd.prog lays219_ren := {
  mixed := by kernel_rfl
  f217 := Tryd.func77.trans (congrArg some (by kernel_rfl))
  f219 := Tryd.func61.trans (congrArg some (by kernel_rfl))
  f224 := Tryd.func79.trans (congrArg some (by kernel_rfl))
  f225 := Tryd.func78.trans (congrArg some (by kernel_rfl))
  f266 := Tryd.func91.trans (congrArg some (by kernel_rfl))
  f267 := Tryd.func80.trans (congrArg some (by kernel_rfl))
  f314 := Tryd.func92.trans (congrArg some (by kernel_rfl))
  t3 := Tryd.underlying3
  a3 := Tryd.isAgg3
  z3 := Tryd.sizeOf3
  v3 := Tryd.zeroValue3
  t4 := Tryd.underlying4
  a4 := Tryd.isAgg4
  z4 := Tryd.sizeOf4
  v4 := Tryd.zeroValue4
  t5 := Tryd.underlying5
  a5 := Tryd.isAgg5
  z5 := Tryd.sizeOf5
  v5 := Tryd.zeroValue5
  t9 := Tryd.underlying9
  a9 := Tryd.isAgg9
  z9 := Tryd.sizeOf9
  v9 := Tryd.zeroValue9
  t46 := Tryd.underlying88
  a46 := Tryd.isAgg88
  z46 := Tryd.sizeOf88
  v46 := Tryd.zeroValue88
  t51 := Tryd.underlying121
  a51 := Tryd.isAgg121
  z51 := Tryd.sizeOf121
  v51 := Tryd.zeroValue121
  t146 := Tryd.underlying122
  a146 := Tryd.isAgg122
  z146 := Tryd.sizeOf122
  v146 := Tryd.zeroValue122
  g1 := by kernel_rfl }
def lays161_ren : Go.Shelf.Ren := ⟨fun | 161 => 23 | 231 => 43 | 227 => 44 | 233 => 45 | 235 => 46 | 228 => 62 | 197 => 63 | 151 => 64 | 260 => 81 | 152 => 82 | 137 => 93 | 119 => 94 | 224 => 79 | 225 => 78 | 217 => 77 | 266 => 91 | n => n, fun | 9 => 9 | 4 => 4 | 3 => 3 | 5 => 5 | 117 => 83 | 116 => 82 | 0 => 0 | 124 => 86 | 105 => 115 | 21 => 21 | 119 => 142 | 46 => 88 | 139 => 145 | 138 => 144 | n => n, fun | 3 => 1 | 4 => 2 | n => n⟩
theorem lays161 : Go.Proofs.Lays.n161 Tryd.prog lays161_ren := {
  mixed := by kernel_rfl
  f119 := Tryd.func94.trans (congrArg some (by kernel_rfl))
  f137 := Tryd.func93.trans (congrArg some (by kernel_rfl))
  f151 := Tryd.func64.trans (congrArg some (by kernel_rfl))
  f152 := Tryd.func82.trans (congrArg some (by kernel_rfl))
  f161 := Tryd.func23.trans (congrArg some (by kernel_rfl))
  f197 := Tryd.func63.trans (congrArg some (by kernel_rfl))
  f217 := Tryd.func77.trans (congrArg some (by kernel_rfl))
  f224 := Tryd.func79.trans (congrArg some (by kernel_rfl))
  f225 := Tryd.func78.trans (congrArg some (by kernel_rfl))
  f227 := Tryd.func44.trans (congrArg some (by kernel_rfl))
  f228 := Tryd.func62.trans (congrArg some (by kernel_rfl))
  f231 := Tryd.func43.trans (congrArg some (by kernel_rfl))
  f233 := Tryd.func45.trans (congrArg some (by kernel_rfl))
  f235 := Tryd.func46.trans (congrArg some (by kernel_rfl))
  f260 := Tryd.func81.trans (congrArg some (by kernel_rfl))
  f266 := Tryd.func91.trans (congrArg some (by kernel_rfl))
  t0 := Tryd.underlying0
  a0 := Tryd.isAgg0
  z0 := Tryd.sizeOf0
  v0 := Tryd.zeroValue0
  t3 := Tryd.underlying3
  a3 := Tryd.isAgg3
  z3 := Tryd.sizeOf3
  v3 := Tryd.zeroValue3
  t4 := Tryd.underlying4
  a4 := Tryd.isAgg4
  z4 := Tryd.sizeOf4
  v4 := Tryd.zeroValue4
  t5 := Tryd.underlying5
  a5 := Tryd.isAgg5
  z5 := Tryd.sizeOf5
  v5 := Tryd.zeroValue5
  t9 := Tryd.underlying9
  a9 := Tryd.isAgg9
  z9 := Tryd.sizeOf9
  v9 := Tryd.zeroValue9
  t21 := Tryd.underlying21
  a21 := Tryd.isAgg21
  z21 := Tryd.sizeOf21
  v21 := Tryd.zeroValue21
  t46 := Tryd.underlying88
  a46 := Tryd.isAgg88
  z46 := Tryd.sizeOf88
  v46 := Tryd.zeroValue88
  t105 := Tryd.underlying115
  a105 := Tryd.isAgg115
  z105 := Tryd.sizeOf115
  v105 := Tryd.zeroValue115
  t116 := Tryd.underlying82
  a116 := Tryd.isAgg82
  z116 := Tryd.sizeOf82
  t117 := Tryd.underlying83
  a117 := Tryd.isAgg83
  z117 := Tryd.sizeOf83
  v117 := Tryd.zeroValue83
  t119 := Tryd.underlying142
  a119 := Tryd.isAgg142
  z119 := Tryd.sizeOf142
  t124 := Tryd.underlying86
  a124 := Tryd.isAgg86
  z124 := Tryd.sizeOf86
  v124 := Tryd.zeroValue86
  t138 := Tryd.underlying144
  a138 := Tryd.isAgg144
  z138 := Tryd.sizeOf144
  v138 := Tryd.zeroValue144
  t139 := Tryd.underlying145
  a139 := Tryd.isAgg145
  z139 := Tryd.sizeOf145
  v139 := Tryd.zeroValue145
  g3 := by kernel_rfl
  g4 := by kernel_rfl }

theorem same_ok {P : Program} {f : Nat} {sig : List ASh} {res : List RSh} {x : argDen sig} {y : resDen res} (u : Value) (hsto : resSto 0 res y = []) (hu : ∀ (γ : Nat → G) (F : Nat → Prop) (w : World), RepA γ F w (packV (resVals 0 res y)) u)
    (h : ∀ (γ : Nat → G) (F : Nat → Prop) (w : World) (vals : List Value), All2 (RepA γ F w) (argsV sig x) vals → Calls P f vals.toArray w fun e w' => e = .returned u ∧ w' = w) : FnOk P f sig res x y := by
  intro γ F w vals hF hvals
  refine (h γ F w vals hvals).mono fun e w' ⟨he, hw⟩ => ?_
  subst hw
  refine ⟨u, γ, F, he, ?_, hu γ F w'⟩
  rw [hsto]
  exact ⟨rfl, rfl, rfl, Nat.le_refl _, fun _ _ _ => rfl, fun _ _ => rfl, fun _ h => h, fun _ h => .inl h, fun b h => absurd h no_mine, fun b h => rfl,
    ⟨fun t x hx => (by cases hx), fun t t' c ⟨x, hx⟩ => (by cases hx), hF⟩⟩

/-- Where a byte stands in a string. -/
def f261F (k : Nat) (x : ByteArray × ByteArray) : Option Int :=
  match x.2.data.toList with
  | [c] => some (Lib.indexByte x.1.data.toList c)
  | _ => none
theorem f261B : HasBody Go.Proofs.Tryd.prog 61 := ⟨Go.Proofs.Tryd.f61, Go.Proofs.Tryd.func61, by kernel_rfl, by kernel_rfl⟩
theorem one_byte {s : ByteArray} {c : UInt8} (h : s.data.toList = [c]) : s = ⟨#[c]⟩ := by
  cases s with
  | mk d =>
    congr
    exact Array.ext' h
theorem f261Ok (k : Nat) (x : ByteArray × ByteArray) (y : Int) (h : f261F k x = some y) : FnOk Go.Proofs.Tryd.prog 61 [.dat .str, .dat .str] [.dat (.int .i64)] x y := by
  obtain ⟨s, t⟩ := x
  unfold f261F at h
  simp only [] at h
  split at h
  · rename_i c hc
    cases h
    have ht := one_byte hc
    subst ht
    refine same_ok (.int .i64 (Lib.indexByte s.data.toList c)) rfl (fun _ _ _ => rfl) fun γ F w vals hvals => ?_
    match vals, hvals with
    | [a, b], ⟨ha, hb, _⟩ =>
      have ha : a = .string s := ha
      have hb : b = .string ⟨#[c]⟩ := hb
      subst ha hb
      exact Any.stringslite_Index_one lays219 s c w
  · cases h
/-- A string without some byte at its start. -/
def f223F (k : Nat) (x : ByteArray × ByteArray) : Option ByteArray :=
  match x.2.data.toList with
  | [c] => bif decide (c.toNat < 128) then some ⟨(Lib.trimLeftB x.1.data.toList c).toArray⟩ else none
  | _ => none
theorem f223B : HasBody Go.Proofs.Tryd.prog 23 := ⟨Go.Proofs.Tryd.f23, Go.Proofs.Tryd.func23, by kernel_rfl, by kernel_rfl⟩
theorem f223Ok (k : Nat) (x : ByteArray × ByteArray) (y : ByteArray) (h : f223F k x = some y) : FnOk Go.Proofs.Tryd.prog 23 [.dat .str, .dat .str] [.dat .str] x y := by
  obtain ⟨s, t⟩ := x
  unfold f223F at h
  simp only [] at h
  split at h
  · rename_i c hc
    have ht := one_byte hc
    subst ht
    by_cases hlt : c.toNat < 128
    · rw [decide_eq_true hlt] at h
      cases h
      refine same_ok (.string ⟨(Lib.trimLeftB s.data.toList c).toArray⟩) rfl (fun _ _ _ => rfl) fun γ F w vals hvals => ?_
      match vals, hvals with
      | [a, b], ⟨ha, hb, _⟩ =>
        have ha : a = .string s := ha
        have hb : b = .string ⟨#[c]⟩ := hb
        subst ha hb
        exact Any.strings_TrimLeft_one lays161 s c hlt w
    · rw [decide_eq_false hlt] at h
      cases h
  · cases h
end Go.Proofs.YtioagofpofamiaaDoor
/-! strings.Repeat and strconv.Itoa at this program. -/
set_option linter.unusedVariables false
namespace Go.Proofs.YtioagofpofamiaaDoor
open Go.Shelf Go.Ab
def lays105_ren : Go.Shelf.Ren := ⟨fun | 105 => 29 | 212 => 49 | 99 => 50 | 165 => 51 | 166 => 52 | 170 => 53 | 169 => 54 | 263 => 68 | 264 => 69 | 206 => 70 | 240 => 71 | 241 => 72 | 276 => 88 | 277 => 89 | n => n, fun | 9 => 9 | 3 => 3 | 4 => 4 | 20 => 20 | 0 => 0 | 46 => 88 | 109 => 89 | 5 => 5 | 72 => 94 | 76 => 98 | 51 => 121 | 146 => 122 | 53 => 62 | 148 => 124 | 70 => 92 | 37 => 59 | 75 => 97 | 127 => 126 | 164 => 137 | 80 => 101 | n => n, fun | n => n⟩
theorem lays105 : Go.Proofs.Lays.n105 Tryd.prog lays105_ren := {
  mixed := by kernel_rfl
  f99 := Tryd.func50.trans (congrArg some (by kernel_rfl))
  f105 := Tryd.func29.trans (congrArg some (by kernel_rfl))
  f165 := Tryd.func51.trans (congrArg some (by kernel_rfl))
  f166 := Tryd.func52.trans (congrArg some (by kernel_rfl))
  f169 := Tryd.func54.trans (congrArg some (by kernel_rfl))
  f170 := Tryd.func53.trans (congrArg some (by kernel_rfl))
  f206 := Tryd.func70.trans (congrArg some (by kernel_rfl))
  f212 := Tryd.func49.trans (congrArg some (by kernel_rfl))
  f240 := Tryd.func71.trans (congrArg some (by kernel_rfl))
  f241 := Tryd.func72.trans (congrArg some (by kernel_rfl))
  f263 := Tryd.func68.trans (congrArg some (by kernel_rfl))
  f264 := Tryd.func69.trans (congrArg some (by kernel_rfl))
  f276 := Tryd.func88.trans (congrArg some (by kernel_rfl))
  f277 := Tryd.func89.trans (congrArg some (by kernel_rfl))
  t0 := Tryd.underlying0
  a0 := Tryd.isAgg0
  z0 := Tryd.sizeOf0
  v0 := Tryd.zeroValue0
  t3 := Tryd.underlying3
  a3 := Tryd.isAgg3
  z3 := Tryd.sizeOf3
  v3 := Tryd.zeroValue3
  t4 := Tryd.underlying4
  a4 := Tryd.isAgg4
  z4 := Tryd.sizeOf4
  v4 := Tryd.zeroValue4
  t5 := Tryd.underlying5
  a5 := Tryd.isAgg5
  z5 := Tryd.sizeOf5
  v5 := Tryd.zeroValue5
  t9 := Tryd.underlying9
  a9 := Tryd.isAgg9
  z9 := Tryd.sizeOf9
  v9 := Tryd.zeroValue9
  t20 := Tryd.underlying20
  a20 := Tryd.isAgg20
  z20 := Tryd.sizeOf20
  v20 := Tryd.zeroValue20
  t37 := Tryd.underlying59
  a37 := Tryd.isAgg59
  z37 := Tryd.sizeOf59
  v37 := Tryd.zeroValue59
  t46 := Tryd.underlying88
  a46 := Tryd.isAgg88
  z46 := Tryd.sizeOf88
  v46 := Tryd.zeroValue88
  t51 := Tryd.underlying121
  a51 := Tryd.isAgg121
  z51 := Tryd.sizeOf121
  v51 := Tryd.zeroValue121
  t53 := Tryd.underlying62
  a53 := Tryd.isAgg62
  z53 := Tryd.sizeOf62
  v53 := Tryd.zeroValue62
  t70 := Tryd.underlying92
  a70 := Tryd.isAgg92
  z70 := Tryd.sizeOf92
  v70 := Tryd.zeroValue92
  t72 := Tryd.underlying94
  a72 := Tryd.isAgg94
  z72 := Tryd.sizeOf94
  v72 := Tryd.zeroValue94
  t75 := Tryd.underlying97
  a75 := Tryd.isAgg97
  z75 := Tryd.sizeOf97
  v75 := Tryd.zeroValue97
  t76 := Tryd.underlying98
  a76 := Tryd.isAgg98
  z76 := Tryd.sizeOf98
  v76 := Tryd.zeroValue98
  t109 := Tryd.underlying89
  a109 := Tryd.isAgg89
  z109 := Tryd.sizeOf89
  v109 := Tryd.zeroValue89
  t127 := Tryd.underlying126
  a127 := Tryd.isAgg126
  z127 := Tryd.sizeOf126
  v127 := Tryd.zeroValue126
  t146 := Tryd.underlying122
  a146 := Tryd.isAgg122
  z146 := Tryd.sizeOf122
  v146 := Tryd.zeroValue122
  t148 := Tryd.underlying124
  a148 := Tryd.isAgg124
  z148 := Tryd.sizeOf124
  v148 := Tryd.zeroValue124
  t164 := Tryd.underlying137
  a164 := Tryd.isAgg137
  z164 := Tryd.sizeOf137
  v164 := Tryd.zeroValue137 }
theorem extra105 : Builder.Extra Tryd.prog lays105_ren := {
  sizeBuilder := by kernel_rfl
  liesBuilder := by kernel_rfl
  t5 := Tryd.underlying5
  a5 := Tryd.isAgg5
  z5 := Tryd.sizeOf5
  v5 := Tryd.zeroValue5
  infoByte := by kernel_rfl
  cellsByte := by kernel_rfl
  sizeByte := by kernel_rfl
  neB5 := by decide }
def laysM171_ren : Go.Shelf.Ren := ⟨fun | 171 => 28 | 243 => 48 | 246 => 67 | 283 => 84 | 284 => 85 | 285 => 86 | 286 => 87 | 129 => 97 | 317 => 96 | 318 => 98 | 319 => 99 | 320 => 100 | 337 => 101 | 338 => 102 | n => n, fun | 3 => 3 | 9 => 9 | 2 => 2 | 4 => 4 | 171 => 132 | 0 => 0 | 53 => 62 | 37 => 59 | 5 => 5 | 173 => 135 | 212 => 148 | 51 => 121 | 20 => 20 | 213 => 149 | 46 => 88 | 232 => 153 | 233 => 154 | n => n, fun | 17 => 3 | 18 => 4 | 19 => 5 | n => n⟩
theorem laysM171 : Go.Proofs.LaysM.n171 Tryd.prog laysM171_ren := {
  mixed := by kernel_rfl
  f129 := Tryd.func97.trans (congrArg some (by kernel_rfl))
  f171 := Tryd.func28.trans (congrArg some (by kernel_rfl))
  f243 := Tryd.func48.trans (congrArg some (by kernel_rfl))
  f246 := Tryd.func67.trans (congrArg some (by kernel_rfl))
  f283 := Tryd.func84.trans (congrArg some (by kernel_rfl))
  f284 := Tryd.func85.trans (congrArg some (by kernel_rfl))
  f285 := Tryd.func86.trans (congrArg some (by kernel_rfl))
  f286 := Tryd.func87.trans (congrArg some (by kernel_rfl))
  f317 := Tryd.func96.trans (congrArg some (by kernel_rfl))
  f318 := Tryd.func98.trans (congrArg some (by kernel_rfl))
  f319 := Tryd.func99.trans (congrArg some (by kernel_rfl))
  f320 := Tryd.func100.trans (congrArg some (by kernel_rfl))
  f337 := Tryd.func101.trans (congrArg some (by kernel_rfl))
  f338 := Tryd.func102.trans (congrArg some (by kernel_rfl))
  t0 := Tryd.underlying0
  a0 := Tryd.isAgg0
  z0 := Tryd.sizeOf0
  v0 := Tryd.zeroValue0
  t2 := Tryd.underlying2
  a2 := Tryd.isAgg2
  z2 := Tryd.sizeOf2
  v2 := Tryd.zeroValue2
  t3 := Tryd.underlying3
  a3 := Tryd.isAgg3
  z3 := Tryd.sizeOf3
  v3 := Tryd.zeroValue3
  t4 := Tryd.underlying4
  a4 := Tryd.isAgg4
  z4 := Tryd.sizeOf4
  v4 := Tryd.zeroValue4
  t5 := Tryd.underlying5
  a5 := Tryd.isAgg5
  z5 := Tryd.sizeOf5
  v5 := Tryd.zeroValue5
  t9 := Tryd.underlying9
  a9 := Tryd.isAgg9
  z9 := Tryd.sizeOf9
  v9 := Tryd.zeroValue9
  t20 := Tryd.underlying20
  a20 := Tryd.isAgg20
  z20 := Tryd.sizeOf20
  v20 := Tryd.zeroValue20
  t37 := Tryd.underlying59
  a37 := Tryd.isAgg59
  z37 := Tryd.sizeOf59
  v37 := Tryd.zeroValue59
  t46 := Tryd.underlying88
  a46 := Tryd.isAgg88
  z46 := Tryd.sizeOf88
  v46 := Tryd.zeroValue88
  t51 := Tryd.underlying121
  a51 := Tryd.isAgg121
  z51 := Tryd.sizeOf121
  v51 := Tryd.zeroValue121
  t53 := Tryd.underlying62
  a53 := Tryd.isAgg62
  z53 := Tryd.sizeOf62
  v53 := Tryd.zeroValue62
  t171 := Tryd.underlying132
  a171 := Tryd.isAgg132
  z171 := Tryd.sizeOf132
  v171 := Tryd.zeroValue132
  t173 := Tryd.underlying135
  a173 := Tryd.isAgg135
  z173 := Tryd.sizeOf135
  v173 := Tryd.zeroValue135
  t212 := Tryd.underlying148
  a212 := Tryd.isAgg148
  z212 := Tryd.sizeOf148
  v212 := Tryd.zeroValue148
  t213 := Tryd.underlying149
  a213 := Tryd.isAgg149
  z213 := Tryd.sizeOf149
  t232 := Tryd.underlying153
  a232 := Tryd.isAgg153
  z232 := Tryd.sizeOf153
  v232 := Tryd.zeroValue153
  t233 := Tryd.underlying154
  a233 := Tryd.isAgg154
  z233 := Tryd.sizeOf154
  v233 := Tryd.zeroValue154
  g17 := by kernel_rfl
  g18 := by kernel_rfl
  g19 := by kernel_rfl
  i0 := by kernel_rfl
  i2 := by kernel_rfl
  i3 := by kernel_rfl
  i4 := by kernel_rfl
  i5 := by kernel_rfl
  i9 := by kernel_rfl
  i20 := by kernel_rfl
  i37 := by kernel_rfl
  i46 := by kernel_rfl
  i51 := by kernel_rfl
  i53 := by kernel_rfl
  i171 := by kernel_rfl
  i173 := by kernel_rfl
  i212 := by kernel_rfl
  i232 := by kernel_rfl
  i233 := by kernel_rfl
  m17 := by kernel_rfl
  m18 := by kernel_rfl
  m19 := by kernel_rfl }

/-- Copies of a string. -/
def f73F (k : Nat) (x : ByteArray × Int) : Option ByteArray :=
  bif decide (0 ≤ x.2) && (decide (x.2 ≤ 9223372036854775807) && decide ((x.1.size : Int) * x.2 ≤ 140737488355328)) then some ⟨(Lib.repeatL x.1.data.toList x.2.toNat).toArray⟩ else none
theorem f73B : HasBody Go.Proofs.Tryd.prog 29 := ⟨Go.Proofs.Tryd.f29, Go.Proofs.Tryd.func29, by kernel_rfl, by kernel_rfl⟩
theorem f73Ok (k : Nat) (x : ByteArray × Int) (y : ByteArray) (h : f73F k x = some y) : FnOk Go.Proofs.Tryd.prog 29 [.dat .str, .dat (.int .i64)] [.dat .str] x y := by
  obtain ⟨s, c⟩ := x
  unfold f73F at h
  cases hc : (decide (0 ≤ c) && (decide (c ≤ 9223372036854775807) && decide ((s.size : Int) * c ≤ 140737488355328))) with
  | false => rw [hc] at h; cases h
  | true =>
    rw [hc] at h
    simp only [Bool.and_eq_true, decide_eq_true_eq] at hc
    obtain ⟨c0, c1, c2⟩ := hc
    obtain ⟨C, rfl⟩ : ∃ C : Nat, c = C := ⟨c.toNat, by omega⟩
    have hy : y = ⟨(Lib.repeatL s.data.toList C).toArray⟩ := by
      simp only [cond_true, Int.toNat_natCast] at h
      exact (Option.some.inj h).symm
    subst hy
    have hlen : s.size * C ≤ 140737488355328 := by
      have e : (s.size : Int) * (C : Int) = ((s.size * C : Nat) : Int) := by simp
      omega
    intro γ F w vals hF hvals
    match vals, hvals with
    | [a, b], ⟨ha, hb, _⟩ =>
      have ha : a = .string s := ha
      have hb : b = .int .i64 (C : Int) := hb
      subst ha hb
      have hr := Any.strings_Repeat lays105 extra105 s C w (by omega) hlen
      refine (show Calls Go.Proofs.Tryd.prog 29 #[.string s, .int .i64 (C : Int)] w _ from hr).mono fun e w' ⟨he, hw⟩ => ?_
      refine ⟨.string ⟨(Lib.repeatL s.data.toList C).toArray⟩, γ, F, he, ?_, ?_⟩
      · exact ⟨hw.os, hw.tape, hw.output, hw.size, fun b hb _ => hw.block b hb, fun _ _ => rfl, fun _ h => h, fun _ h => .inl h, fun b h => absurd h no_mine, fun b h => hw.block b (hF b h),
          ⟨fun t x hx => (by cases hx), fun t t' c ⟨x, hx⟩ => (by cases hx), ⟨fun b h => Nat.lt_of_lt_of_le (hF b h) hw.size, hF.gnd.mono (fun _ h => h) (fun b h => hw.block b (hF b h))⟩⟩⟩
      · rfl

/-- A number's decimal numeral. -/
def f228F (k : Nat) (x : Int) : Option ByteArray :=
  bif decide (-9223372036854775808 ≤ x) && decide (x ≤ 9223372036854775807) then some ⟨(Lib.itoa x).toArray⟩ else none
theorem f228B : HasBody Go.Proofs.Tryd.prog 28 := ⟨Go.Proofs.Tryd.f28, Go.Proofs.Tryd.func28, by kernel_rfl, by kernel_rfl⟩
theorem f228Ok (k : Nat) (x : Int) (y : ByteArray) (h : f228F k x = some y) : FnOk Go.Proofs.Tryd.prog 28 [.dat (.int .i64)] [.dat .str] x y := by
  unfold f228F at h
  cases hc : (decide (-9223372036854775808 ≤ x) && decide (x ≤ 9223372036854775807)) with
  | false => rw [hc] at h; cases h
  | true =>
    rw [hc] at h
    cases h
    simp only [Bool.and_eq_true, decide_eq_true_eq] at hc
    intro γ F w vals hF hvals
    match vals, hvals with
    | [a], ⟨ha, _⟩ =>
      have ha : a = .int .i64 x := ha
      subst ha
      have htab : Lib.TabIs Go.Proofs.Tryd.prog w "internal/strconv.uint64pow10" .u64 Lib.pow10Tab := by
        obtain ⟨_, t, fz, e⟩ := hF.gnd (3, (Lib.pow10Tab.map fun z => Value.int .u64 z).toArray) (List.mem_singleton.2 rfl)
        have hg : Go.Proofs.Tryd.prog.globalNamed "internal/strconv.uint64pow10" = some 3 := by kernel_rfl
        have e : w.heap[3]? = some (.cells (Lib.pow10Tab.map fun z => Value.int .u64 z).toArray t fz) := e
        unfold Lib.TabIs World.var?
        rw [hg]
        show (match w.heap[3]? with | some (.cells cs _ _) => some cs | _ => none) = _
        rw [e]
      have hr := Any.strconv_Itoa laysM171 x hc.1 hc.2 w htab
      refine (show Calls Go.Proofs.Tryd.prog 28 #[.int .i64 x] w _ from hr).mono fun e w' ⟨he, n, os, hw⟩ => ?_
      subst hw
      have hsz : w.heap.size ≤ (w.heap ++ os).size := by simp
      have hbl : ∀ b, b < w.heap.size → (w.heap ++ os)[b]? = w.heap[b]? := fun b hb => Array.getElem?_append_left hb
      refine ⟨.string ⟨(Lib.itoa x).toArray⟩, γ, F, he, ?_, ?_⟩
      · exact ⟨rfl, rfl, rfl, hsz, fun b hb _ => hbl b hb, fun _ _ => rfl, fun _ h => h, fun _ h => .inl h, fun b h => absurd h no_mine, fun b h => hbl b (hF b h),
          ⟨fun t x hx => (by cases hx), fun t t' c ⟨x, hx⟩ => (by cases hx), ⟨fun b h => Nat.lt_of_lt_of_le (hF b h) hsz, hF.gnd.mono (fun _ h => h) (fun b h => hbl b (hF b h))⟩⟩⟩
      · rfl
end Go.Proofs.YtioagofpofamiaaDoor
