/- The library's stringslite.Index and strings.TrimLeft at this program: the shelf's contracts, laid in plain words (by the kit's lay-plain), and as functions over data. -/
import Derived.Test.YtioagofpofamiaaDoorAB
import Derived.Test.YtioagofpofamiaaDoorProg
import Derived.Shelf.Strings.Search2
import Derived.Shelf.Strings.Trim
/-! stringslite.Index and strings.TrimLeft at this program. -/
set_option linter.unusedVariables false
namespace Go.Proofs.YtioagofpofamiaaDoor
open Go.Shelf Go.Ab
def lays219_ren : Go.Shelf.Ren := ⟨fun | 219 => 61 | 217 => 77 | 225 => 78 | 224 => 79 | 267 => 80 | 266 => 91 | 314 => 92 | n => n, fun | 9 => 9 | 3 => 3 | 4 => 4 | 5 => 5 | 46 => 88 | 146 => 122 | 51 => 121 | n => n, fun | 1 => 0 | n => n⟩
theorem lays219 : Go.Proofs.Lays.n219 Tryd.prog lays219_ren := {
  mixed := by kernel_rfl
  f217 := Tryd.func77.trans (congrArg some (by kernel_rfl))
  f219 := Tryd.func61.trans (congrArg some (by kernel_rfl))
  f224 := Tryd.func79.trans (congrArg some (by kernel_rfl))
  f225 := Tryd.func78.trans (congrArg some (by kernel_rfl))
  f266 := Tryd.func91.trans (congrArg some (by kernel_rfl))
  f267 := Tryd.func80.trans (congrArg some (by kernel_rfl))
  f314 := Tryd.func92.trans (congrArg some (by kernel_rfl))
  t3 := Tryd.underlying3
  a3 := Tryd.isAgg3
  z3 := Tryd.sizeOf3
  v3 := Tryd.zeroValue3
  t4 := Tryd.underlying4
  a4 := Tryd.isAgg4
  z4 := Tryd.sizeOf4
  v4 := Tryd.zeroValue4
  t5 := Tryd.underlying5
  a5 := Tryd.isAgg5
  z5 := Tryd.sizeOf5
  v5 := Tryd.zeroValue5
  t9 := Tryd.underlying9
  a9 := Tryd.isAgg9
  z9 := Tryd.sizeOf9
  v9 := Tryd.zeroValue9
  t46 := Tryd.underlying88
  a46 := Tryd.isAgg88
  z46 := Tryd.sizeOf88
  v46 := Tryd.zeroValue88
  t51 := Tryd.underlying121
  a51 := Tryd.isAgg121
  z51 := Tryd.sizeOf121
  v51 := Tryd.zeroValue121
  t146 := Tryd.underlying122
  a146 := Tryd.isAgg122
  z146 := Tryd.sizeOf122
  v146 := Tryd.zeroValue122
  g1 := by kernel_rfl }
def lays161_ren : Go.Shelf.Ren := ⟨fun | 161 => 23 | 231 => 43 | 227 => 44 | 233 => 45 | 235 => 46 | 228 => 62 | 197 => 63 | 151 => 64 | 260 => 81 | 152 => 82 | 137 => 93 | 119 => 94 | 224 => 79 | 225 => 78 | 217 => 77 | 266 => 91 | n => n, fun | 9 => 9 | 4 => 4 | 3 => 3 | 5 => 5 | 117 => 83 | 116 => 82 | 0 => 0 | 124 => 86 | 105 => 115 | 21 => 21 | 119 => 142 | 46 => 88 | 139 => 145 | 138 => 144 | n => n, fun | 3 => 1 | 4 => 2 | n => n⟩
theorem lays161 : Go.Proofs.Lays.n161 Tryd.prog lays161_ren := {
  mixed := by kernel_rfl
  f119 := Tryd.func94.trans (congrArg some (by kernel_rfl))
  f137 := Tryd.func93.trans (congrArg some (by kernel_rfl))
  f151 := Tryd.func64.trans (congrArg some (by kernel_rfl))
  f152 := Tryd.func82.trans (congrArg some (by kernel_rfl))
  f161 := Tryd.func23.trans (congrArg some (by kernel_rfl))
  f197 := Tryd.func63.trans (congrArg some (by kernel_rfl))
  f217 := Tryd.func77.trans (congrArg some (by kernel_rfl))
  f224 := Tryd.func79.trans (congrArg some (by kernel_rfl))
  f225 := Tryd.func78.trans (congrArg some (by kernel_rfl))
  f227 := Tryd.func44.trans (congrArg some (by kernel_rfl))
  f228 := Tryd.func62.trans (congrArg some (by kernel_rfl))
  f231 := Tryd.func43.trans (congrArg some (by kernel_rfl))
  f233 := Tryd.func45.trans (congrArg some (by kernel_rfl))
  f235 := Tryd.func46.trans (congrArg some (by kernel_rfl))
  f260 := Tryd.func81.trans (congrArg some (by kernel_rfl))
  f266 := Tryd.func91.trans (congrArg some (by kernel_rfl))
  t0 := Tryd.underlying0
  a0 := Tryd.isAgg0
  z0 := Tryd.sizeOf0
  v0 := Tryd.zeroValue0
  t3 := Tryd.underlying3
  a3 := Tryd.isAgg3
  z3 := Tryd.sizeOf3
  v3 := Tryd.zeroValue3
  t4 := Tryd.underlying4
  a4 := Tryd.isAgg4
  z4 := Tryd.sizeOf4
  v4 := Tryd.zeroValue4
  t5 := Tryd.underlying5
  a5 := Tryd.isAgg5
  z5 := Tryd.sizeOf5
  v5 := Tryd.zeroValue5
  t9 := Tryd.underlying9
  a9 := Tryd.isAgg9
  z9 := Tryd.sizeOf9
  v9 := Tryd.zeroValue9
  t21 := Tryd.underlying21
  a21 := Tryd.isAgg21
  z21 := Tryd.sizeOf21
  v21 := Tryd.zeroValue21
  t46 := Tryd.underlying88
  a46 := Tryd.isAgg88
  z46 := Tryd.sizeOf88
  v46 := Tryd.zeroValue88
  t105 := Tryd.underlying115
  a105 := Tryd.isAgg115
  z105 := Tryd.sizeOf115
  v105 := Tryd.zeroValue115
  t116 := Tryd.underlying82
  a116 := Tryd.isAgg82
  z116 := Tryd.sizeOf82
  t117 := Tryd.underlying83
  a117 := Tryd.isAgg83
  z117 := Tryd.sizeOf83
  v117 := Tryd.zeroValue83
  t119 := Tryd.underlying142
  a119 := Tryd.isAgg142
  z119 := Tryd.sizeOf142
  t124 := Tryd.underlying86
  a124 := Tryd.isAgg86
  z124 := Tryd.sizeOf86
  v124 := Tryd.zeroValue86
  t138 := Tryd.underlying144
  a138 := Tryd.isAgg144
  z138 := Tryd.sizeOf144
  v138 := Tryd.zeroValue144
  t139 := Tryd.underlying145
  a139 := Tryd.isAgg145
  z139 := Tryd.sizeOf145
  v139 := Tryd.zeroValue145
  g3 := by kernel_rfl
  g4 := by kernel_rfl }

theorem same_ok {P : Program} {f : Nat} {sig : List ASh} {res : List RSh} {x : argDen sig} {y : resDen res} (u : Value) (hsto : resSto 0 res y = []) (hu : ∀ (γ : Nat → G) (F : Nat → Prop) (w : World), RepA γ F w (packV (resVals 0 res y)) u)
    (h : ∀ (γ : Nat → G) (F : Nat → Prop) (w : World) (vals : List Value), All2 (RepA γ F w) (argsV sig x) vals → Calls P f vals.toArray w fun e w' => e = .returned u ∧ w' = w) : FnOk P f sig res x y := by
  intro γ F w vals hF hvals
  refine (h γ F w vals hvals).mono fun e w' ⟨he, hw⟩ => ?_
  subst hw
  refine ⟨u, γ, F, he, ?_, hu γ F w'⟩
  rw [hsto]
  exact ⟨rfl, rfl, rfl, Nat.le_refl _, fun _ _ _ => rfl, fun _ _ => rfl, fun _ h => h, fun _ h => .inl h, fun b h => absurd h no_mine, fun b h => rfl,
    ⟨fun t x hx => (by cases hx), fun t t' c ⟨x, hx⟩ => (by cases hx), hF⟩⟩

/-- Where a byte stands in a string. -/
def f261F (k : Nat) (x : ByteArray × ByteArray) : Option Int :=
  match x.2.data.toList with
  | [c] => some (Lib.indexByte x.1.data.toList c)
  | _ => none
theorem f261B : HasBody Go.Proofs.Tryd.prog 61 := ⟨Go.Proofs.Tryd.f61, Go.Proofs.Tryd.func61, by kernel_rfl, by kernel_rfl⟩
theorem one_byte {s : ByteArray} {c : UInt8} (h : s.data.toList = [c]) : s = ⟨#[c]⟩ := by
  cases s with
  | mk d =>
    congr
    exact Array.ext' h
theorem f261Ok (k : Nat) (x : ByteArray × ByteArray) (y : Int) (h : f261F k x = some y) : FnOk Go.Proofs.Tryd.prog 61 [.dat .str, .dat .str] [.dat (.int .i64)] x y := by
  obtain ⟨s, t⟩ := x
  unfold f261F at h
  simp only [] at h
  split at h
  · rename_i c hc
    cases h
    have ht := one_byte hc
    subst ht
    refine same_ok (.int .i64 (Lib.indexByte s.data.toList c)) rfl (fun _ _ _ => rfl) fun γ F w vals hvals => ?_
    match vals, hvals with
    | [a, b], ⟨ha, hb, _⟩ =>
      have ha : a = .string s := ha
      have hb : b = .string ⟨#[c]⟩ := hb
      subst ha hb
      exact Any.stringslite_Index_one lays219 s c w
  · cases h
/-- A string without some byte at its start. -/
def f223F (k : Nat) (x : ByteArray × ByteArray) : Option ByteArray :=
  match x.2.data.toList with
  | [c] => bif decide (c.toNat < 128) then some ⟨(Lib.trimLeftB x.1.data.toList c).toArray⟩ else none
  | _ => none
theorem f223B : HasBody Go.Proofs.Tryd.prog 23 := ⟨Go.Proofs.Tryd.f23, Go.Proofs.Tryd.func23, by kernel_rfl, by kernel_rfl⟩
theorem f223Ok (k : Nat) (x : ByteArray × ByteArray) (y : ByteArray) (h : f223F k x = some y) : FnOk Go.Proofs.Tryd.prog 23 [.dat .str, .dat .str] [.dat .str] x y := by
  obtain ⟨s, t⟩ := x
  unfold f223F at h
  simp only [] at h
  split at h
  · rename_i c hc
    have ht := one_byte hc
    subst ht
    by_cases hlt : c.toNat < 128
    · rw [decide_eq_true hlt] at h
      cases h
      refine same_ok (.string ⟨(Lib.trimLeftB s.data.toList c).toArray⟩) rfl (fun _ _ _ => rfl) fun γ F w vals hvals => ?_
      match vals, hvals with
      | [a, b], ⟨ha, hb, _⟩ =>
        have ha : a = .string s := ha
        have hb : b = .string ⟨#[c]⟩ := hb
        subst ha hb
        exact Any.strings_TrimLeft_one lays161 s c hlt w
    · rw [decide_eq_false hlt] at h
      cases h
  · cases h
end Go.Proofs.YtioagofpofamiaaDoor
