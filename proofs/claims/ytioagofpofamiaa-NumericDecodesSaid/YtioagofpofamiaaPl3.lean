/- Plain laws: values checked. -/
import Derived.Test.YtioagofpofamiaaPl2
/-! Plain laws: values checked. -/
set_option linter.unusedVariables false
set_option linter.unusedSimpArgs false
namespace Go.Proofs.Ytioagofpofamiaa
open Go.Ab

def pw (n : Int) : Int := 10 ^ n.toNat
theorem upto15 {n : Int} (h0 : 1 ≤ n) (h1 : n ≤ 15) : n = 1 ∨ n = 2 ∨ n = 3 ∨ n = 4 ∨ n = 5 ∨ n = 6 ∨ n = 7 ∨ n = 8 ∨ n = 9 ∨ n = 10 ∨ n = 11 ∨ n = 12 ∨ n = 13 ∨ n = 14 ∨ n = 15 := by omega
theorem pw_bound {n : Int} (h0 : 1 ≤ n) (h1 : n ≤ 15) : 10 ≤ pw n ∧ pw n ≤ 1000000000000000 := by
  rcases upto15 h0 h1 with rfl | rfl | rfl | rfl | rfl | rfl | rfl | rfl | rfl | rfl | rfl | rfl | rfl | rfl | rfl <;> decide
theorem f71q {n : Int} (h0 : 1 ≤ n) (h1 : n ≤ 15) : f71F 1000 n = some (pw n) := by
  rcases upto15 h0 h1 with rfl | rfl | rfl | rfl | rfl | rfl | rfl | rfl | rfl | rfl | rfl | rfl | rfl | rfl | rfl <;> kernel_rfl
theorem f81q {n : Int} (h0 : 1 ≤ n) (h1 : n ≤ 15) : f81F 1000 n = some (pw n) := by
  rcases upto15 h0 h1 with rfl | rfl | rfl | rfl | rfl | rfl | rfl | rfl | rfl | rfl | rfl | rfl | rfl | rfl | rfl <;> kernel_rfl
theorem f49q {kd n sc : Int} (h0 : 1 ≤ n) (h1 : n ≤ 15) : f49F 1000 (kd, n, sc) = some (pw n - 1) := by
  unfold f49F
  rw [f81q h0 h1]
  have := pw_bound h0 h1
  show some (IntKind.i64.wrap (pw n - 1)) = _
  rw [wi (by omega) (by omega)]

/-- The error of a value. -/
def valErr (kd ln sc n : Int) (s : ByteArray) : Int :=
  if tyErr kd ln sc ≠ 0 then tyErr kd ln sc
  else if kd = 4 then 17
  else if kd = 0 then (if n ≠ 0 then 5 else if (s.size : Int) ≠ ln then 18 else 0)
  else if strEq s ByteArray.empty = false then 5
  else if ¬ (-(pw ln - 1) ≤ n ∧ n ≤ pw ln - 1) then 19
  else 0

theorem ty_ok {kd ln sc : Int} (h : tyErr kd ln sc = 0) : 0 ≤ kd ∧ kd ≤ 4 ∧ (kd = 0 → 1 ≤ ln ∧ ln ≤ 256) ∧ (1 ≤ kd ∧ kd ≤ 3 → 1 ≤ ln ∧ ln ≤ 15) ∧ (kd = 3 → ln = 4 ∨ ln = 9) ∧ (kd = 4 → ln = 0) ∧ 0 ≤ sc ∧ (kd = 0 ∨ kd = 4 → sc = 0) ∧ (1 ≤ kd ∧ kd ≤ 3 → sc ≤ ln) := by
  unfold tyErr at h
  repeat' split at h
  all_goals omega

theorem f29q (kd ln sc n : Int) (s : ByteArray) : f29F 1000 ((kd, ln, sc), n, s) = some (valErr kd ln sc n s) := by
  unfold f29F valErr
  simp only [f28q, f43q, f42q, bind_some']
  by_cases ht : tyErr kd ln sc = 0
  · obtain ⟨a1, a2, a3, a4, a5, a6, a7, a8, a9⟩ := ty_ok ht
    rw [ht]
    by_cases h4 : kd = 4
    · subst h4
      simp [cond_eq_ite]
    by_cases h0 : kd = 0
    · subst h0
      simp [cond_eq_ite]
      repeat' split
      all_goals first | rfl | omega
    · have hl := a4 (by omega)
      have hb := pw_bound hl.1 hl.2
      rw [f71q hl.1 hl.2]
      simp only [bind_some', f70q]
      rw [wi (x := pw ln - 1) (by omega) (by omega), wi (x := 0 - (pw ln - 1)) (by omega) (by omega)]
      simp [cond_eq_ite, h4, h0]
      cases strEq s ByteArray.empty
      · simp
      · simp
        repeat' split
        all_goals first | rfl | omega
  · have hn : (tyErr kd ln sc != 0) = true := by simpa using ht
    simp [ht, cond_eq_ite]

theorem f30q (kd ln sc n : Int) (s : ByteArray) : f30F 1000 ((kd, ln, sc), n, s) = some (valErr kd ln sc n s) := by
  unfold f30F f30p0 valErr
  simp only [f27q, f69q, bind_some']
  by_cases ht : tyErr kd ln sc = 0
  · obtain ⟨a1, a2, a3, a4, a5, a6, a7, a8, a9⟩ := ty_ok ht
    rw [ht]
    have w0 : IntKind.i64.wrap (18 * 0) = 0 := rfl
    have w1 : IntKind.i64.wrap (18 * 1) = 18 := rfl
    have w2 : IntKind.i64.wrap (19 * 0) = 0 := rfl
    have w3 : IntKind.i64.wrap (19 * 1) = 19 := rfl
    by_cases h4 : kd = 4
    · subst h4
      simp [cond_eq_ite]
    by_cases h0 : kd = 0
    · subst h0
      simp [cond_eq_ite]
      repeat' split
      all_goals first | rfl | omega
    · have hl := a4 (by omega)
      have hb := pw_bound hl.1 hl.2
      rw [f49q hl.1 hl.2]
      simp only [bind_some', f48q]
      rw [wi (x := 0 - (pw ln - 1)) (by omega) (by omega)]
      simp [cond_eq_ite, h4, h0]
      cases strEq s ByteArray.empty
      · simp
      · simp
        repeat' split
        all_goals first | rfl | omega
  · simp [ht, cond_eq_ite]
end Go.Proofs.Ytioagofpofamiaa
