/- Plain law: the bytes of a value are as specified, or the error. -/
import Derived.Test.YtioagofpofamiaaPl6
/-! Plain law: the bytes of a value are as specified, or the error. -/
set_option linter.unusedVariables false
set_option linter.unusedSimpArgs false
namespace Go.Proofs.Ytioagofpofamiaa
open Go.Ab

theorem binaryB {ln sc n : Int} {s : ByteArray} (hl : ln = 4 ∨ ln = 9) (n0 : -(pw ln - 1) ≤ n) (n1 : n ≤ pw ln - 1) : ∃ B, f40F 1000 ((3, ln, sc), n, s) = some B ∧ f41F 1000 ((3, ln, sc), n, s) = some B := by
  have p4 : pw 4 = 10000 := rfl
  have p9 : pw 9 = 1000000000 := rfl
  have hn : -1000000000000000 ≤ n ∧ n ≤ 1000000000000000 := by rcases hl with rfl | rfl <;> (first | rw [p4] at n0 n1 | rw [p9] at n0 n1) <;> omega
  have ha0 : 0 ≤ amt n := by unfold amt; split <;> omega
  have ha1 : amt n ≤ 1000000000000000 := by unfold amt; split <;> omega
  have hm : mxI n (IntKind.i64.wrap (0 - n)) = amt n := mx_abs hn.1 hn.2
  obtain ⟨L, hL, hL1⟩ : ∃ L : Nat, ln = L ∧ L ≤ 900 := ⟨ln.toNat, by omega, by omega⟩
  have e0 : ((3 : Int) == 0) = false := rfl
  have e1 : ((3 : Int) == 1) = false := rfl
  have e2 : ((3 : Int) == 2) = false := rfl
  have e3 : ((3 : Int) == 3) = true := rfl
  have body : ∀ z : Nat, (z = 2 ∨ z = 4) → f44F 1000 (3, ln, sc) = some (z : Int) → f31F 1000 (3, ln, sc) = some (z : Int) → (0 ≤ n ∨ 0 ≤ n + 2 ^ (8 * z)) → low 256 (n + 2 ^ (8 * z)) z = low 256 n z → shlI .i64 1 (IntKind.i64.wrap (8 * (z : Int))) = 2 ^ (8 * z) → n + 2 ^ (8 * z) ≤ 9000000000 → -9000000000 ≤ n →
      ∃ B, f40F 1000 ((3, ln, sc), n, s) = some B ∧ f41F 1000 ((3, ln, sc), n, s) = some B := by
    intro z hz h44 h31 hpos hlow hsh hup hdn
    have hz9 : z ≤ 900 := by omega
    have hpw : (0 : Int) < 2 ^ (8 * z) := Int.pow_pos (by decide)
    refine ⟨strOfNums (low 256 n z), ?_, ?_⟩
    · unfold f40F
      simp only [hm, hL, f75q ha0 (by omega) hL1, bind_some', e1, e2, e3, cond_false, cond_true]
      rw [← hL, h44]
      simp only [bind_some']
      have c1 : (((decide ((0 : Int) ≤ (z : Int))) && (decide (((z : Int) * 1) ≤ (140737488355328 : Int)))) && (decide ((z : Int) ≤ (281474976710656 : Int)))) = true := by
        simp; omega
      rw [c1]
      simp only [cond_true, Int.toNat_natCast, List.length_replicate]
      rw [wi (x := (z : Int) - 1) (by omega) (by omega)]
      rw [f40l4q (R := ByteArray) (fun w12 => some (strOfNums w12.1)) (by omega) (by omega) hz9]
    · unfold f41F f41p0
      simp only [e0, e3, cond_false, cond_true, h31, bind_some']
      by_cases hneg : n < 0
      · have c2 : (decide ((0 : Int) ≤ (IntKind.i64.wrap ((8 : Int) * (z : Int))))) = true := by rw [wi (by omega) (by omega)]; simp; omega
        simp only [hneg, decide_true, cond_true, c2, hsh]
        rw [wi (x := n + 2 ^ (8 * z)) (by omega) (by omega)]
        rw [f77q (by omega) (by omega) hz9, hlow]
        rfl
      · simp only [hneg, decide_false, cond_false]
        rw [f77q (by omega) (by omega) hz9]
        rfl
  rcases hl with rfl | rfl
  · rw [p4] at n0 n1
    refine body 2 (.inl rfl) rfl rfl (by right; omega) ?_ rfl (by omega) (by omega)
    simp only [low]
    have a : (n + 2 ^ (8 * 2)) / 256 ^ 1 % 256 = n / 256 ^ 1 % 256 := by omega
    have b : (n + 2 ^ (8 * 2)) / 256 ^ 0 % 256 = n / 256 ^ 0 % 256 := by omega
    rw [a, b]
  · rw [p9] at n0 n1
    refine body 4 (.inr rfl) rfl rfl (by right; omega) ?_ rfl (by omega) (by omega)
    simp only [low]
    have a : (n + 2 ^ (8 * 4)) / 256 ^ 3 % 256 = n / 256 ^ 3 % 256 := by omega
    have b : (n + 2 ^ (8 * 4)) / 256 ^ 2 % 256 = n / 256 ^ 2 % 256 := by omega
    have c : (n + 2 ^ (8 * 4)) / 256 ^ 1 % 256 = n / 256 ^ 1 % 256 := by omega
    have d : (n + 2 ^ (8 * 4)) / 256 ^ 0 % 256 = n / 256 ^ 0 % 256 := by omega
    rw [a, b, c, d]

theorem charB {ln sc n : Int} {s : ByteArray} (h0 : 1 ≤ ln) (h1 : ln ≤ 256) (hn : n = 0) : ∃ B, f40F 1000 ((0, ln, sc), n, s) = some B ∧ f41F 1000 ((0, ln, sc), n, s) = some B := by
  subst hn
  obtain ⟨L, rfl⟩ : ∃ L : Nat, ln = L := ⟨ln.toNat, by omega⟩
  refine ⟨s, ?_, ?_⟩
  · unfold f40F
    have hm : mxI 0 (IntKind.i64.wrap (0 - 0)) = 0 := rfl
    simp only [hm, f75q (n := 0) (L := L) (by omega) (by omega) (by omega), bind_some']
    rfl
  · rfl

/-- What is written of a right value. -/
theorem bytes_eq {kd ln sc n : Int} {s : ByteArray} (h : valErr kd ln sc n s = 0) : ∃ B, f40F 1000 ((kd, ln, sc), n, s) = some B ∧ f41F 1000 ((kd, ln, sc), n, s) = some B := by
  have ht : tyErr kd ln sc = 0 := by
    unfold valErr at h
    split at h
    · exact h
    · rename_i hh; simpa using hh
  obtain ⟨a1, a2, a3, a4, a5, a6, a7, a8, a9⟩ := ty_ok ht
  unfold valErr at h
  rw [if_neg (by simp [ht])] at h
  split at h
  · omega
  rename_i k4
  split at h
  · rename_i k0
    subst k0
    split at h
    · omega
    · rename_i hn
      have hn : n = 0 := by simpa using hn
      exact charB (a3 rfl).1 (a3 rfl).2 hn
  · rename_i k0
    split at h
    · omega
    · split at h
      · omega
      · rename_i hr
        have hr : -(pw ln - 1) ≤ n ∧ n ≤ pw ln - 1 := by simpa using hr
        have hl := a4 (by omega)
        have hb := pw_bound hl.1 hl.2
        have : kd = 1 ∨ kd = 2 ∨ kd = 3 := by omega
        rcases this with rfl | rfl | rfl
        · exact packed hl.1 hl.2 (by omega) (by omega)
        · exact zoned hl.1 hl.2 (by omega) (by omega)
        · exact binaryB (a5 rfl) hr.1 hr.2

theorem f14q (kd ln sc n : Int) (s : ByteArray) : ∃ B, f14F 1000 ((kd, ln, sc), n, s) = some (B, valErr kd ln sc n s) ∧ f15F 1000 ((kd, ln, sc), n, s) = some (B, valErr kd ln sc n s) := by
  unfold f14F f15F
  simp only [f29q, f30q, bind_some']
  by_cases h : valErr kd ln sc n s = 0
  · obtain ⟨B, h1, h2⟩ := bytes_eq h
    refine ⟨B, ?_, ?_⟩
    · rw [h1, h]; rfl
    · rw [h2, h]; rfl
  · have hb : (valErr kd ln sc n s != 0) = true := by simpa using h
    exact ⟨ByteArray.empty, by rw [hb]; rfl, by rw [hb]; rfl⟩

theorem awake_ok : f13F 1000 () = some true := by kernel_rfl

theorem encodes (x : (Int × (Int × Int)) × (Int × ByteArray)) : f3F 1000 x = some true := by
  obtain ⟨⟨kd, ln, sc⟩, n, s⟩ := x
  unfold f3F
  obtain ⟨B, h1, h2⟩ := f14q kd ln sc n s
  simp only [awake_ok, bind_some', h1, h2]
  by_cases hs : (s.size : Int) > 700
  · simp [hs]
  · simp [hs, strEq_self]
end Go.Proofs.Ytioagofpofamiaa
