/- Plain laws: types and values checked. -/
import Derived.Test.YtioagofpofamiaaPl1
import Derived.Test.YtioagofpofamiaaFa
/-! Plain laws: types and values checked. -/
set_option linter.unusedVariables false
set_option linter.unusedSimpArgs false
namespace Go.Proofs.Ytioagofpofamiaa
open Go.Ab

theorem f70q (k : Nat) (n lo hi : Int) : f70F k (n, lo, hi) = some (decide (lo ≤ n ∧ n ≤ hi)) := by
  unfold f70F
  by_cases h : lo ≤ n <;> simp [h]
theorem f48q (k : Nat) (n lo hi : Int) : f48F k (n, lo, hi) = some (decide (lo ≤ n ∧ n ≤ hi)) := by
  unfold f48F
  by_cases h : lo ≤ n <;> simp [h]
theorem f43q (k : Nat) (b : Bool) (e : Int) : f43F k (b, e) = some (if b = true then e else 0) := by
  unfold f43F
  cases b <;> rfl
theorem f69q (k : Nat) (b : Bool) : f69F k b = some (if b = true then 1 else 0) := by
  unfold f69F
  cases b <;> rfl
theorem f68q (k : Nat) (n : Int) : f68F k n = some (decide (1 ≤ n ∧ n ≤ 3)) := by
  unfold f68F
  rw [f48q]
  rfl
theorem f42l0_step {R : Type} (k : Nat) (rec : List Int × Int × Int × Unit → Option R) (k0 : Int × Unit → Option R) (k1 : Unit → Option R) (l : List Int) (i : Nat) (hl : l.length < 1000) (hi : i < l.length) :
    f42l0s k rec k0 k1 (l, (l.length : Int), (i : Int), ()) = if l.getD i 0 = 0 then rec (l, (l.length : Int), ((i + 1 : Nat) : Int), ()) else k0 (l.getD i 0, ()) := by
  unfold f42l0s
  have h1 : (i : Int) < (l.length : Int) := by omega
  simp only [h1, decide_true, cond_true, Int.natCast_nonneg, Bool.and_self, Int.toNat_natCast, wi (x := (i : Int) + 1) (by omega) (by omega)]
  by_cases h : l.getD i 0 = 0
  · rw [if_pos h, h]; rfl
  · rw [if_neg h]
    have : (l.getD i 0 != 0) = true := by simpa using h
    rw [this]
    rfl
theorem f42q (a b : Int) : f42F 1000 [a, b] = some (if a = 0 then b else a) := by
  have e0 : ∀ {R : Type} (Step : (List Int × Int × Int × Unit → Option R) → List Int × Int × Int × Unit → Option R) v, iterS Step 1000 v = Step (fun v => Step (fun v => Step (iterS Step 997) v) v) v := fun _ _ => rfl
  unfold f42F f42l0
  rw [e0]
  have s0 := fun rec k0 k1 => f42l0_step (R := Int) 1000 rec k0 k1 [a, b] 0 (by simp) (by simp)
  have s1 := fun rec k0 k1 => f42l0_step (R := Int) 1000 rec k0 k1 [a, b] 1 (by simp) (by simp)
  have s2 : ∀ rec k0 k1, f42l0s (R := Int) 1000 rec k0 k1 ([a, b], (([a, b].length : Nat) : Int), ((2 : Nat) : Int), ()) = k1 () := fun _ _ _ => rfl
  have z0 : ((0 : Nat) : Int) = 0 := rfl
  rw [z0] at s0
  rw [s0]
  simp only [Nat.zero_add, s1, Nat.reduceAdd, s2]
  by_cases ha : a = 0 <;> by_cases hb : b = 0 <;> simp [ha, hb]

/-- The error of a type. -/
def tyErr (kd ln sc : Int) : Int :=
  if ¬ (0 ≤ kd ∧ kd ≤ 4) then 4
  else if ¬ (if kd = 0 then 1 ≤ ln ∧ ln ≤ 256 else if kd = 1 ∨ kd = 2 then 1 ≤ ln ∧ ln ≤ 15 else if kd = 3 then ln = 4 ∨ ln = 9 else ln = 0) then 18
  else if ¬ (0 ≤ sc ∧ sc ≤ (if kd = 0 ∨ kd = 4 then 0 else ln)) then 3
  else 0

theorem f28q (kd ln sc : Int) : f28F 1000 (kd, ln, sc) = some (tyErr kd ln sc) := by
  unfold f28F f28p1 f28p0 tyErr
  simp only [f70q, f43q, f42q, bind_some']
  by_cases h0 : kd = 0
  · subst h0
    simp [cond_eq_ite]
    repeat' split
    all_goals first | rfl | omega
  by_cases h1 : kd = 1
  · subst h1
    simp [cond_eq_ite]
    repeat' split
    all_goals first | rfl | omega
  by_cases h2 : kd = 2
  · subst h2
    simp [cond_eq_ite]
    repeat' split
    all_goals first | rfl | omega
  by_cases h3 : kd = 3
  · subst h3
    simp [cond_eq_ite]
    repeat' split
    all_goals first | rfl | omega
  by_cases h4 : kd = 4
  · subst h4
    simp [cond_eq_ite]
    repeat' split
    all_goals first | rfl | omega
  · have : ¬ (0 ≤ kd ∧ kd ≤ 4) := by omega
    simp [cond_eq_ite, h0, h1, h2, h3, h4, this]

theorem f27q (kd ln sc : Int) : f27F 1000 (kd, ln, sc) = some (tyErr kd ln sc) := by
  unfold f27F f27p1 f27p0 f27p2 tyErr
  simp only [f48q, f68q, f69q, bind_some']
  have w0 : IntKind.i64.wrap (3 * 0) = 0 := rfl
  have w1 : IntKind.i64.wrap (3 * 1) = 3 := rfl
  by_cases h0 : kd = 0
  · subst h0
    simp [cond_eq_ite]
    repeat' split
    all_goals first | rfl | omega
  by_cases h1 : kd = 1
  · subst h1
    simp [cond_eq_ite]
    repeat' split
    all_goals first | rfl | omega
  by_cases h2 : kd = 2
  · subst h2
    simp [cond_eq_ite]
    repeat' split
    all_goals first | rfl | omega
  by_cases h3 : kd = 3
  · subst h3
    simp [cond_eq_ite]
    repeat' split
    all_goals first | rfl | omega
  by_cases h4 : kd = 4
  · subst h4
    simp [cond_eq_ite]
    repeat' split
    all_goals first | rfl | omega
  · have : ¬ (0 ≤ kd ∧ kd ≤ 4) := by omega
    simp [cond_eq_ite, h0, h1, h2, h3, h4, this]
end Go.Proofs.Ytioagofpofamiaa
