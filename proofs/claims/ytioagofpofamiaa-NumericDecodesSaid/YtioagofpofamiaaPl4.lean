/- Plain laws: digits. -/
import Derived.Test.YtioagofpofamiaaPl3
/-! Plain laws: digits. -/
set_option linter.unusedVariables false
set_option linter.unusedSimpArgs false
namespace Go.Proofs.Ytioagofpofamiaa
open Go.Ab

theorem div_pow {b n : Int} (hb : 0 < b) (i : Nat) : n / b ^ i / b = n / b ^ (i + 1) := by
  rw [Int.pow_succ, Int.ediv_ediv_of_nonneg (Int.le_of_lt (Int.pow_pos hb))]
theorem div_le {b n : Int} (hb : 0 < b) (hn : 0 ≤ n) (i : Nat) : 0 ≤ n / b ^ i ∧ n / b ^ i ≤ n :=
  ⟨Int.ediv_nonneg hn (Int.le_of_lt (Int.pow_pos hb)), Int.ediv_le_self _ hn⟩

theorem f75q {n : Int} {L : Nat} (h0 : 0 ≤ n) (h1 : n ≤ 9223372036854775807) (hL : L ≤ 900) : f75F 1000 (n, (L : Int)) = some (low 10 n L) := by
  unfold f75F
  have c1 : (((decide ((0 : Int) ≤ (L : Int))) && (decide (((L : Int) * 1) ≤ (140737488355328 : Int)))) && (decide ((L : Int) ≤ (281474976710656 : Int)))) = true := by
    simp; omega
  simp only [c1, cond_true]
  unfold f75l0
  have key := iter_for (R := List Int) (Step := fun rec v => f75l0s 1000 rec (fun w => some w.1) v) (fun i => (n / 10 ^ i, (L : Int) - 1 - i, List.replicate (L - i) 0 ++ low 10 n i, ())) L (fin := some (low 10 n L)) ?_ ?_ (k := 1000) (by omega)
  · simp only [Int.toNat_natCast, wi (x := (L : Int) - 1) (by omega) (by omega)]
    simpa [low] using key
  · intro rec i hi
    obtain ⟨d0, d1⟩ := div_le (b := 10) (by decide) h0 i
    unfold f75l0s
    have e1 : (decide ((L : Int) - 1 - i ≥ 0)) = true := by simp; omega
    have e0 : (decide ((0 : Int) ≤ (L : Int) - 1 - i)) = true := by simp; omega
    have e2 : (decide ((L : Int) - 1 - i < ((List.replicate (L - i) (0 : Int) ++ low 10 n i).length : Int))) = true := by
      simp [low_length]; omega
    have e3 : ((L : Int) - 1 - i).toNat = L - 1 - i := by omega
    simp only [e1, e0, e2, e3, Bool.and_self, cond_true]
    rw [Int.tmod_eq_emod_of_nonneg d0, Int.tdiv_eq_ediv_of_nonneg d0, div_pow (by decide), wu8 (by omega) (by omega), set_zeros hi]
    obtain ⟨d2, d3⟩ := div_le (b := 10) (by decide) h0 (i + 1)
    rw [wi (x := n / 10 ^ (i + 1)) (by omega) (by omega), wi (x := (L : Int) - 1 - i - 1) (by omega) (by omega), show (L : Int) - 1 - i - 1 = (L : Int) - 1 - ((i + 1 : Nat) : Int) by omega]
    rfl
  · intro rec
    unfold f75l0s
    have e1 : (decide ((L : Int) - 1 - L ≥ 0)) = false := by simp; omega
    simp only [e1, cond_false, Nat.sub_self, List.replicate_zero, List.nil_append]

theorem f78q {n : Int} {L : Nat} (h0 : 0 ≤ n) (h1 : n ≤ 9223372036854775807) (hL : L ≤ 900) : f78F 1000 (n, (L : Int)) = some (low 10 n L) := by
  unfold f78F
  have c1 : (((decide ((0 : Int) ≤ (L : Int))) && (decide (((L : Int) * 8) ≤ (140737488355328 : Int)))) && (decide ((L : Int) ≤ (281474976710656 : Int)))) = true := by
    simp; omega
  simp only [c1, cond_true]
  unfold f78l0
  have key := iter_for (R := List Int) (Step := fun rec v => f78l0s 1000 rec (fun w => some w.1) v) (fun i => (n / 10 ^ i, (L : Int) - 1 - i, List.replicate (L - i) 0 ++ low 10 n i, ())) L (fin := some (low 10 n L)) ?_ ?_ (k := 1000) (by omega)
  · simp only [Int.toNat_natCast, wi (x := (L : Int) - 1) (by omega) (by omega)]
    simpa [low] using key
  · intro rec i hi
    obtain ⟨d0, d1⟩ := div_le (b := 10) (by decide) h0 i
    unfold f78l0s
    have e1 : (decide ((L : Int) - 1 - i ≥ 0)) = true := by simp; omega
    have e0 : (decide ((0 : Int) ≤ (L : Int) - 1 - i)) = true := by simp; omega
    have e2 : (decide ((L : Int) - 1 - i < ((List.replicate (L - i) (0 : Int) ++ low 10 n i).length : Int))) = true := by
      simp [low_length]; omega
    have e3 : ((L : Int) - 1 - i).toNat = L - 1 - i := by omega
    simp only [e1, e0, e2, e3, Bool.and_self, cond_true]
    rw [Int.tmod_eq_emod_of_nonneg d0, Int.tdiv_eq_ediv_of_nonneg d0, div_pow (by decide), set_zeros hi]
    obtain ⟨d2, d3⟩ := div_le (b := 10) (by decide) h0 (i + 1)
    rw [wi (x := n / 10 ^ (i + 1)) (by omega) (by omega), wi (x := (L : Int) - 1 - i - 1) (by omega) (by omega), show (L : Int) - 1 - i - 1 = (L : Int) - 1 - ((i + 1 : Nat) : Int) by omega]
    rfl
  · intro rec
    unfold f78l0s
    have e1 : (decide ((L : Int) - 1 - L ≥ 0)) = false := by simp; omega
    simp only [e1, cond_false, Nat.sub_self, List.replicate_zero, List.nil_append]

/-- The highest byte first: as the code of numeric writes it. -/
theorem f40l4q {n : Int} {L : Nat} {R : Type} (k0 : List Int × Unit → Option R) (h0 : -9223372036854775808 ≤ n) (h1 : n ≤ 9223372036854775807) (hL : L ≤ 900) :
    f40l4 1000 k0 ((L : Int) - 1, n, List.replicate L 0, ()) = k0 (low 256 n L, ()) := by
  unfold f40l4
  have key := iter_for (R := R) (Step := fun rec v => f40l4s 1000 rec k0 v) (fun i => ((L : Int) - 1 - i, n / 256 ^ i, List.replicate (L - i) 0 ++ low 256 n i, ())) L (fin := k0 (low 256 n L, ())) ?_ ?_ (k := 1000) (by omega)
  · simpa [low] using key
  · intro rec i hi
    unfold f40l4s
    have e1 : (decide ((L : Int) - 1 - i ≥ 0)) = true := by simp; omega
    have e0 : (decide ((0 : Int) ≤ (L : Int) - 1 - i)) = true := by simp; omega
    have e2 : (decide ((L : Int) - 1 - i < ((List.replicate (L - i) (0 : Int) ++ low 256 n i).length : Int))) = true := by
      simp [low_length]; omega
    have e3 : ((L : Int) - 1 - i).toNat = L - 1 - i := by omega
    simp only [e1, e0, e2, e3, Bool.and_self, cond_true]
    rw [wu8e, set_zeros hi, wi (x := (L : Int) - 1 - i - 1) (by omega) (by omega)]
    have e4 : shrI .i64 (n / 256 ^ i) 8 = n / 256 ^ (i + 1) := by
      unfold shrI
      rw [show min (8 : Int).toNat IntKind.i64.bits = 8 from rfl, Int.fdiv_eq_ediv_of_nonneg _ (by decide), show (2 : Int) ^ 8 = 256 from rfl]
      exact div_pow (by decide) i
    rw [e4, show (L : Int) - 1 - i - 1 = (L : Int) - 1 - ((i + 1 : Nat) : Int) by omega]
    rfl
  · intro rec
    unfold f40l4s
    have e1 : (decide ((L : Int) - 1 - L ≥ 0)) = false := by simp; omega
    simp only [e1, cond_false, Nat.sub_self, List.replicate_zero, List.nil_append]

theorem f77q {n : Int} {L : Nat} (h0 : 0 ≤ n) (h1 : n ≤ 9223372036854775807) (hL : L ≤ 900) : f77F 1000 (n, (L : Int)) = some (strOfNums (low 256 n L)) := by
  unfold f77F
  have c1 : (((decide ((0 : Int) ≤ (L : Int))) && (decide (((L : Int) * 1) ≤ (140737488355328 : Int)))) && (decide ((L : Int) ≤ (281474976710656 : Int)))) = true := by
    simp; omega
  simp only [c1, cond_true]
  unfold f77l0
  have key := iter_for (R := ByteArray) (Step := fun rec v => f77l0s 1000 rec (fun w => some (strOfNums w.1)) v) (fun i => (n / 256 ^ i, (L : Int), (i : Int), List.replicate (L - i) 0 ++ low 256 n i, ())) L (fin := some (strOfNums (low 256 n L))) ?_ ?_ (k := 1000) (by omega)
  · simp only [Int.toNat_natCast]
    simpa [low] using key
  · intro rec i hi
    obtain ⟨d0, d1⟩ := div_le (b := 256) (by decide) h0 i
    unfold f77l0s
    have e1 : (decide ((i : Int) < (L : Int))) = true := by simp; omega
    simp only [e1, cond_true]
    rw [wi (x := (L : Int) - 1) (by omega) (by omega), wi (x := (L : Int) - 1 - i) (by omega) (by omega)]
    have e0 : (decide ((0 : Int) ≤ (L : Int) - 1 - i)) = true := by simp; omega
    have e2 : (decide ((L : Int) - 1 - i < ((List.replicate (L - i) (0 : Int) ++ low 256 n i).length : Int))) = true := by
      simp [low_length]; omega
    have e3 : ((L : Int) - 1 - i).toNat = L - 1 - i := by omega
    simp only [e0, e2, e3, Bool.and_self, cond_true]
    rw [Int.tmod_eq_emod_of_nonneg d0, Int.tdiv_eq_ediv_of_nonneg d0, div_pow (by decide), wu8 (by omega) (by omega), set_zeros hi]
    obtain ⟨d2, d3⟩ := div_le (b := 256) (by decide) h0 (i + 1)
    rw [wi (x := n / 256 ^ (i + 1)) (by omega) (by omega), wi (x := (i : Int) + 1) (by omega) (by omega)]
    rfl
  · intro rec
    unfold f77l0s
    have e1 : (decide ((L : Int) < (L : Int))) = false := by simp
    simp only [e1, cond_false, Nat.sub_self, List.replicate_zero, List.nil_append]
end Go.Proofs.Ytioagofpofamiaa
