/- Plain laws: sums and the order of the reference's long numbers. -/
import Derived.Test.YtioagofpofamiaaPA
import Derived.Test.YtioagofpofamiaaFbJ
/-! Plain laws: sums and the order of long numbers. -/
set_option linter.unusedVariables false
set_option linter.unusedSimpArgs false
namespace Go.Proofs.Ytioagofpofamiaa
open Go.Ab

theorem amt_nat (n : Int) : amt n = (n.natAbs : Int) := by unfold amt; split <;> omega
/-- A sign and an amount as a number. -/
def sg (x : Bool × Nat) : Int := if x.1 = true then -(x.2 : Int) else x.2
theorem sg_of (n : Int) : sg (decide (n < 0), n.natAbs) = n := by
  unfold sg
  by_cases h : n < 0
  · simp [h]; omega
  · simp [h]; omega
theorem sg_flip (b : Bool) (n : Nat) : sg (!b, n) = -sg (b, n) := by cases b <;> simp [sg]

/-- The sum of two numbers with signs. -/
def sumN (a b : Bool × Nat) : Bool × Nat :=
  if a.1 = b.1 then (a.1, a.2 + b.2) else if a.2 < b.2 then (b.1, b.2 - a.2) else (a.1 && decide (0 < a.2 - b.2), a.2 - b.2)
theorem sumN_sg (a b : Bool × Nat) : sg (sumN a b) = sg a + sg b := by
  obtain ⟨ba, a⟩ := a
  obtain ⟨bb, b⟩ := b
  unfold sumN
  simp only []
  by_cases h : ba = bb
  · subst h
    rw [if_pos rfl]
    cases ba <;> simp [sg]
    omega
  · rw [if_neg h]
    by_cases hl : a < b
    · rw [if_pos hl]
      cases ba <;> cases bb <;> simp [sg] at h ⊢ <;> omega
    · rw [if_neg hl]
      by_cases h0 : 0 < a - b
      · rw [decide_eq_true h0, Bool.and_true]
        cases ba <;> cases bb <;> simp [sg] at h ⊢ <;> omega
      · rw [decide_eq_false h0, Bool.and_false]
        cases ba <;> cases bb <;> simp [sg] at h ⊢ <;> omega
theorem sumN_le (a b : Bool × Nat) : (sumN a b).2 ≤ a.2 + b.2 := by
  unfold sumN
  split
  · exact Nat.le_refl _
  · split
    · simp only; omega
    · simp only; omega

theorem dg_len_add {a b k : Nat} (ha : (dg a).length ≤ k) (hb : (dg b).length ≤ k) : (dg (a + b)).length ≤ k + 1 := by
  have h1 := dg_len_le.1 ha
  have h2 := dg_len_le.1 hb
  exact dg_len_le.2 (by rw [Nat.pow_succ]; omega)
theorem dec_len (n : Nat) : decide (((dg n).length : Int) > 0) = decide (0 < n) := by
  by_cases h : 0 < n
  · rw [decide_eq_true h, decide_eq_true]
    have := dg_lt_len (n := n) (k := 0)
    rw [Nat.pow_zero] at this
    omega
  · have : n = 0 := by omega
    subst this
    rw [dg_zero]; rfl
theorem len_zero (n : Nat) : (((dg n).length : Int) == 0) = decide (n = 0) := by
  by_cases h : n = 0
  · subst h; rw [dg_zero]; rfl
  · rw [decide_eq_false h]
    have : dg n ≠ [] := fun c => h (dg_nil.1 c)
    have : (dg n).length ≠ 0 := fun c => this (List.length_eq_zero_iff.1 c)
    simp only [beq_eq_false_iff_ne, ne_eq]
    omega

theorem f60q {ba bb : Bool} {a b : Nat} (ha : (dg a).length ≤ 800) (hb : (dg b).length ≤ 800) :
    f60F 1000 ((ba, dg a), (bb, dg b)) = some ((sumN (ba, a) (bb, b)).1, dg (sumN (ba, a) (bb, b)).2) := by
  have hs := dg_len_add ha hb
  unfold f60F sumN
  simp only []
  by_cases h : ba = bb
  · rw [if_pos h, bif_true (by simp [h]), f92q (by omega), bind_some']
  · rw [if_neg h, bif_false (by simpa using h)]
    unfold f60p0
    simp only []
    rw [f93q (by omega) (by omega), bind_some']
    by_cases hl : a < b
    · rw [if_pos hl, cmp3_lt hl]
      simp only [Int.reduceNeg, Int.reduceLT, decide_true, cond_true]
      rw [f94q (by omega) (by omega), bind_some', dec_len, decide_eq_true (by omega)]
      cases bb <;> rfl
    · rw [if_neg hl]
      have : decide (cmp3 a b < 0) = false := by
        have := cmp3_ge a b
        rw [decide_eq_true (by omega : b ≤ a)] at this
        simp at this ⊢
        exact this
      rw [this]
      simp only [cond_false]
      rw [f94q (by omega) (by omega), bind_some', dec_len]
      cases ba <;> rfl

theorem f61q' {n z : Int} (h0 : -999999999999999 ≤ n) (h1 : n ≤ 999999999999999) (z0 : 0 ≤ z) (hz : z ≤ 100) : f61F 1000 (n, z) = some (decide (n < 0), dg (n.natAbs * 10 ^ z.toNat)) := by
  obtain ⟨Z, rfl⟩ : ∃ Z : Nat, z = Z := ⟨z.toNat, by omega⟩
  rw [f61q h0 h1 (by omega), amt_nat, Int.toNat_natCast, Int.toNat_natCast]
theorem long_len {n : Int} {z : Nat} (h0 : -999999999999999 ≤ n) (h1 : n ≤ 999999999999999) : (dg (n.natAbs * 10 ^ z)).length ≤ 15 + z := dg_len_le.2 (by
  rw [Nat.pow_add]
  exact Nat.mul_lt_mul_of_pos_right (by omega) (Nat.pow_pos (by decide)))
theorem sg_long (n : Int) (z : Nat) : sg (decide (n < 0), n.natAbs * 10 ^ z) = n * 10 ^ z := by
  have h := sg_of n
  unfold sg at *
  simp only [] at *
  have e : ((n.natAbs * 10 ^ z : Nat) : Int) = (n.natAbs : Int) * 10 ^ z := by simp
  rw [e]
  split at h
  · rename_i c
    rw [if_pos c, ← Int.neg_mul, h]
  · rename_i c
    rw [if_neg c, h]

theorem mxI_eq (a b : Int) : mxI a b = max a b := by unfold mxI; rw [Int.max_def]; split <;> split <;> omega
/-- The order of two numbers. -/
def ordN (n1 s1 n2 s2 : Int) : Int :=
  if n1 * 10 ^ (max s1 s2 - s1).toNat = n2 * 10 ^ (max s1 s2 - s2).toNat then 0 else if n1 * 10 ^ (max s1 s2 - s1).toNat < n2 * 10 ^ (max s1 s2 - s2).toNat then -1 else 1

theorem f59q {n1 s1 n2 s2 : Int} (a0 : -999999999999999 ≤ n1) (a1 : n1 ≤ 999999999999999) (b0 : -999999999999999 ≤ n2) (b1 : n2 ≤ 999999999999999) (s10 : 0 ≤ s1) (s11 : s1 ≤ 90) (s20 : 0 ≤ s2) (s21 : s2 ≤ 90) :
    f59F 1000 ((n1, s1), (n2, s2)) = some (ordN n1 s1 n2 s2) := by
  unfold f59F f91F ordN
  simp only [mxI_eq]
  have m1 : s1 ≤ max s1 s2 := Int.le_max_left ..
  have m2 : s2 ≤ max s1 s2 := Int.le_max_right ..
  have m3 : max s1 s2 ≤ 90 := Int.max_le.2 ⟨s11, s21⟩
  rw [wi (by omega) (by omega), wi (by omega) (by omega), f61q' a0 a1 (by omega) (by omega), bind_some', f61q' b0 b1 (by omega) (by omega), bind_some', bind_some']
  have l1 := long_len (z := (max s1 s2 - s1).toNat) a0 a1
  have l2 := long_len (z := (max s1 s2 - s2).toNat) b0 b1
  simp only []
  rw [f60q (by omega) (by omega), bind_some']
  have hs := sumN_sg (decide (n1 < 0), n1.natAbs * 10 ^ (max s1 s2 - s1).toNat) (!decide (n2 < 0), n2.natAbs * 10 ^ (max s1 s2 - s2).toNat)
  rw [sg_flip, sg_long, sg_long] at hs
  generalize sumN (decide (n1 < 0), n1.natAbs * 10 ^ (max s1 s2 - s1).toNat) (!decide (n2 < 0), n2.natAbs * 10 ^ (max s1 s2 - s2).toNat) = d at *
  generalize n1 * 10 ^ (max s1 s2 - s1).toNat = X at *
  generalize n2 * 10 ^ (max s1 s2 - s2).toNat = Y at *
  simp only []
  rw [len_zero]
  obtain ⟨b, m⟩ := d
  unfold sg at hs
  simp only [] at hs ⊢
  by_cases hm : m = 0
  · subst hm
    have : X = Y := by split at hs <;> omega
    rw [if_pos this]; rfl
  · rw [decide_eq_false hm, cond_false, f69q, bind_some']
    cases b with
    | true =>
      simp only [if_true] at hs
      rw [if_neg (by omega : ¬ X = Y), if_pos (by omega : X < Y)]
      rfl
    | false =>
      simp only [Bool.false_eq_true, if_false] at hs
      rw [if_neg (by omega : ¬ X = Y), if_neg (by omega : ¬ X < Y)]
      rfl

theorem putR_nat (below : Bool) (a b : Nat) (sc ln : Int) (half : Bool) :
    putR below a b sc ln half = if 10 ^ ln.toNat ≤ wholeN a b sc.toNat half then (0, 19) else (sg (below, wholeN a b sc.toNat half), 0) := by
  unfold putR
  simp only [wholeI]
  have hp : (10 : Int) ^ ln.toNat = ((10 ^ ln.toNat : Nat) : Int) := by simp
  rw [hp]
  by_cases c : 10 ^ ln.toNat ≤ wholeN a b sc.toNat half
  · rw [if_pos c, if_pos (by omega)]
  · rw [if_neg c, if_neg (by omega)]
    rfl
theorem pow_nat (k : Nat) : (10 : Int) ^ k = ((10 ^ k : Nat) : Int) := by simp
/-- What a conversion that succeeds says. -/
theorem convS_fact {n s kd ln sc : Int} {half : Bool} (h : (convS n s kd ln sc half).2 = 0) :
    numErr n s = 0 ∧ tyErr kd ln sc = 0 ∧ (1 ≤ kd ∧ kd ≤ 3) ∧ wholeN n.natAbs (10 ^ s.toNat) sc.toNat half < 10 ^ ln.toNat ∧ (convS n s kd ln sc half).1 = (sg (decide (n < 0), wholeN n.natAbs (10 ^ s.toNat) sc.toNat half), ByteArray.empty) := by
  by_cases h1 : numErr n s = 0
  · by_cases h2 : tyErr kd ln sc = 0
    · by_cases h3 : 1 ≤ kd ∧ kd ≤ 3
      · rw [convS_ok h1 h2 h3] at h ⊢
        refine ⟨h1, h2, h3, ?_⟩
        rw [amt_nat, pow_nat s.toNat, putR_nat] at *
        by_cases c : 10 ^ ln.toNat ≤ wholeN n.natAbs (10 ^ s.toNat) sc.toNat half
        · rw [if_pos c] at h
          exact absurd h (by decide)
        · rw [if_neg c]
          exact ⟨by omega, rfl⟩
      · rw [convS_kind h1 h2 h3] at h
        exact absurd h (by decide)
    · rw [convS_ty h1 h2] at h
      exact absurd h h2
  · rw [convS_num h1] at h
    exact absurd h h1
end Go.Proofs.Ytioagofpofamiaa
/-! Plain laws: what is put into a type is near to the number. -/
set_option linter.unusedVariables false
set_option linter.unusedSimpArgs false
namespace Go.Proofs.Ytioagofpofamiaa
open Go.Ab

theorem sg_natAbs (x : Bool × Nat) : (sg x).natAbs = x.2 := by unfold sg; split <;> omega
theorem sg_bound {b : Bool} {w k : Nat} (h : w < 10 ^ k) (hk : k ≤ 15) : -999999999999999 ≤ sg (b, w) ∧ sg (b, w) ≤ 999999999999999 := by
  have : 10 ^ k ≤ 10 ^ 15 := Nat.pow_le_pow_right (by decide) hk
  unfold sg
  split <;> simp only <;> omega

theorem whole_exact {t S sc : Nat} (h : S ≤ sc) (half : Bool) : wholeN t (10 ^ S) sc half = t * 10 ^ (sc - S) := by
  have e : t * 10 ^ sc = t * 10 ^ (sc - S) * 10 ^ S := by rw [Nat.mul_assoc, ← Nat.pow_add, Nat.sub_add_cancel h]
  have hp : 0 < 10 ^ S := Nat.pow_pos (by decide)
  unfold wholeN
  rw [e, Nat.mul_mod_left, Nat.mul_div_cancel _ hp, if_neg (by omega)]
theorem whole_cut {t S sc : Nat} (h : sc < S) (half : Bool) : wholeN t (10 ^ S) sc half = if half = true ∧ 10 ^ (S - sc) ≤ 2 * (t % 10 ^ (S - sc)) then t / 10 ^ (S - sc) + 1 else t / 10 ^ (S - sc) := by
  have hp : 0 < 10 ^ sc := Nat.pow_pos (by decide)
  have e : 10 ^ S = 10 ^ (S - sc) * 10 ^ sc := by rw [← Nat.pow_add, Nat.sub_add_cancel (Nat.le_of_lt h)]
  unfold wholeN
  rw [e, Nat.mul_div_mul_right _ _ hp, Nat.mul_mod_mul_right, ← Nat.mul_assoc]
  have : (10 ^ (S - sc) * 10 ^ sc ≤ 2 * (t % 10 ^ (S - sc)) * 10 ^ sc) = (10 ^ (S - sc) ≤ 2 * (t % 10 ^ (S - sc))) := by
    apply propext
    exact ⟨fun h => Nat.le_of_mul_le_mul_right h hp, fun h => Nat.mul_le_mul_right _ h⟩
  simp only [this]

theorem f20q {n s sc : Int} {half : Bool} {L : Nat} (a0 : -999999999999999 ≤ n) (a1 : n ≤ 999999999999999) (s0 : 0 ≤ s) (s1 : s ≤ 15) (c0 : 0 ≤ sc) (c1 : sc ≤ 15)
    (hL : L ≤ 15) (hw : wholeN n.natAbs (10 ^ s.toNat) sc.toNat half < 10 ^ L) :
    f20F 1000 ((n, s), (sg (decide (n < 0), wholeN n.natAbs (10 ^ s.toNat) sc.toNat half), sc), half) = some true := by
  obtain ⟨S, rfl⟩ : ∃ S : Nat, s = S := ⟨s.toNat, by omega⟩
  obtain ⟨C, rfl⟩ : ∃ C : Nat, sc = C := ⟨sc.toNat, by omega⟩
  simp only [Int.toNat_natCast] at *
  obtain ⟨b0, b1⟩ := sg_bound (b := decide (n < 0)) hw hL
  unfold f20F
  simp only []
  by_cases h : S ≤ C
  · rw [bif_true (by simp; omega), f59q a0 a1 b0 b1 (by omega) (by omega) (by omega) (by omega), bind_some', whole_exact h, sg_long]
    unfold ordN
    rw [show max (S : Int) (C : Int) = C by omega]
    rw [show ((C : Int) - C).toNat = 0 by omega, show ((C : Int) - S).toNat = C - S by omega, Int.pow_zero, Int.mul_one, if_pos rfl]
    rfl
  · rw [bif_false (by simp; omega), wi (by omega) (by omega), wi (by omega) (by omega)]
    have z0 : f61F 1000 (n, 0) = some (decide (n < 0), dg (n.natAbs * 10 ^ 0)) := f61q' (z := 0) a0 a1 (by decide) (by decide)
    rw [z0, bind_some', f61q' (by omega) (by omega) (by omega) (by omega), bind_some', show ((S : Int) - C).toNat = S - C by omega]
    have l1 := long_len (z := 0) a0 a1
    have l2 := long_len (n := 0 - sg (decide (n < 0), wholeN n.natAbs (10 ^ S) C half)) (z := S - C) (by omega) (by omega)
    simp only []
    rw [f60q (by omega) (by omega), bind_some']
    have z1 : f61F 1000 (-1, (S : Int) - C) = some (true, dg (1 * 10 ^ (S - C))) := by
      rw [f61q' (by decide) (by decide) (by omega) (by omega), show ((S : Int) - C).toNat = S - C by omega]; rfl
    rw [z1, bind_some', Nat.one_mul]
    -- the difference
    have hs := sumN_sg (decide (n < 0), n.natAbs * 10 ^ 0) (decide (0 - sg (decide (n < 0), wholeN n.natAbs (10 ^ S) C half) < 0), (0 - sg (decide (n < 0), wholeN n.natAbs (10 ^ S) C half)).natAbs * 10 ^ (S - C))
    have hle := sumN_le (decide (n < 0), n.natAbs * 10 ^ 0) (decide (0 - sg (decide (n < 0), wholeN n.natAbs (10 ^ S) C half) < 0), (0 - sg (decide (n < 0), wholeN n.natAbs (10 ^ S) C half)).natAbs * 10 ^ (S - C))
    have hm := sg_natAbs (sumN (decide (n < 0), n.natAbs * 10 ^ 0) (decide (0 - sg (decide (n < 0), wholeN n.natAbs (10 ^ S) C half) < 0), (0 - sg (decide (n < 0), wholeN n.natAbs (10 ^ S) C half)).natAbs * 10 ^ (S - C)))
    rw [hs, sg_long, sg_long] at hm
    dsimp only at hle
    have hl3 := Nat.le_trans (dg_len_mono hle) (dg_len_add (k := 200) (by omega) (by omega))
    generalize (sumN (decide (n < 0), n.natAbs * 10 ^ 0) (decide (0 - sg (decide (n < 0), wholeN n.natAbs (10 ^ S) C half) < 0), (0 - sg (decide (n < 0), wholeN n.natAbs (10 ^ S) C half)).natAbs * 10 ^ (S - C))).2 = m at *
    have hw2 := whole_cut (t := n.natAbs) (S := S) (sc := C) (by omega) half
    have hP : (10 : Int) ^ (S - C) = ((10 ^ (S - C) : Nat) : Int) := by simp
    have hPl : (dg (10 ^ (S - C))).length ≤ 200 := dg_len_le.2 (Nat.pow_lt_pow_right (by decide) (by omega))
    have hP0 : 0 < 10 ^ (S - C) := Nat.pow_pos (by decide)
    rw [hP, Int.pow_zero, Int.mul_one] at hm
    generalize wholeN n.natAbs (10 ^ S) C half = w at *
    generalize 10 ^ (S - C) = p at *
    have hdm := Nat.div_add_mod n.natAbs p
    have hmp : n.natAbs % p < p := Nat.mod_lt _ hP0
    have key : (half = true → 2 * m ≤ p) ∧ (half = false → m < p) := by
      have hm2 : m = ((n.natAbs : Int) - (w : Int) * p).natAbs := by
        rw [← hm]
        by_cases hn : n < 0
        · have : (n + (0 - sg (decide (n < 0), w)) * (p : Int)) = -((n.natAbs : Int) - (w : Int) * p) := by
            have e : sg (decide (n < 0), w) = -(w : Int) := by simp [sg, hn]
            rw [e, Int.zero_sub, Int.neg_neg]
            omega
          rw [this, Int.natAbs_neg]
        · have : (n + (0 - sg (decide (n < 0), w)) * (p : Int)) = ((n.natAbs : Int) - (w : Int) * p) := by
            have e : sg (decide (n < 0), w) = (w : Int) := by simp [sg, hn]
            rw [e, Int.zero_sub, Int.neg_mul]
            omega
          rw [this]
      rw [hm2, hw2]
      generalize n.natAbs / p = q at *
      generalize n.natAbs % p = r at *
      have e1 : ((q : Nat) : Int) * p = ((p * q : Nat) : Int) := by rw [Nat.mul_comm]; simp
      have e2 : ((q + 1 : Nat) : Int) * p = ((p * q + p : Nat) : Int) := by rw [← Nat.mul_succ, Nat.mul_comm]; simp
      by_cases c : half = true ∧ p ≤ 2 * r
      · rw [if_pos c, e2]
        exact ⟨fun _ => by omega, fun hf => absurd c.1 (by simp [hf])⟩
      · rw [if_neg c, e1]
        exact ⟨fun ht => by have : ¬ p ≤ 2 * r := fun x => c ⟨ht, x⟩; omega, fun _ => by omega⟩
    cases half with
    | true =>
      have k := key.1 rfl
      simp only [cond_true]
      rw [f60q (by omega) (by omega), bind_some']
      have e2 : sumN (false, m) (false, m) = (false, m + m) := rfl
      rw [e2]
      have l4 := dg_len_add hl3 hl3
      simp only []
      rw [f60q (by omega) (by omega), bind_some']
      unfold sumN
      simp only [Bool.false_eq_true, if_false]
      by_cases c : m + m < p
      · rw [if_pos c]; rfl
      · rw [if_neg c]
        simp only [Bool.false_and, cond_false]
        rw [len_zero, decide_eq_true (by omega)]
    | false =>
      have k := key.2 rfl
      simp only [cond_false]
      rw [f60q (by omega) (by omega), bind_some']
      unfold sumN
      simp only [Bool.false_eq_true, if_false]
      rw [if_pos k]

theorem near_ok {n s kd ln sc : Int} {half : Bool} (h : (convS n s kd ln sc half).2 = 0) : f20F 1000 ((n, s), ((convS n s kd ln sc half).1.1, sc), half) = some true := by
  obtain ⟨h1, h2, h3, h4, h5⟩ := convS_fact h
  have hb := numErr_ok h1
  obtain ⟨a1', a2', a3', a4', a5', a6', a7', a8', a9'⟩ := ty_ok h2
  obtain ⟨l0, l1⟩ := a4' h3
  have s9 := a9' h3
  rw [h5]
  exact f20q hb.1 hb.2.1 hb.2.2.1 hb.2.2.2 a7' (by omega) (by omega) h4

theorem nears (x : (Int × Int) × (Int × (Int × Int))) : f6F 1000 x = some true := by
  obtain ⟨⟨n, s⟩, ⟨kd, ln, sc⟩⟩ := x
  unfold f6F f6p0
  rw [awake_ok, bind_some']
  simp only [Bool.not_true, cond_false, f18q, bind_some']
  by_cases h1 : (convS n s kd ln sc false).2 = 0
  · rw [bif_true (by simpa using h1), near_ok h1, bind_some']
    simp only [Bool.not_true, cond_false]
    by_cases h2 : (convS n s kd ln sc true).2 = 0
    · rw [bif_false (by simpa using h2), near_ok h2, bind_some']
    · rw [bif_true (by simpa using h2)]
  · rw [bif_false (by simpa using h1)]
    by_cases h2 : (convS n s kd ln sc true).2 = 0
    · rw [bif_false (by simpa using h2), near_ok h2, bind_some']
    · rw [bif_true (by simpa using h2)]
end Go.Proofs.Ytioagofpofamiaa
/-! Plain laws: numbers, their values in a type and their bytes are in one order. -/
set_option linter.unusedVariables false
set_option linter.unusedSimpArgs false
namespace Go.Proofs.Ytioagofpofamiaa
open Go.Ab

theorem whole_scale {t B c sc : Nat} (hc : 0 < c) (half : Bool) : wholeN (t * c) (B * c) sc half = wholeN t B sc half := by
  unfold wholeN
  have e : t * c * 10 ^ sc = t * 10 ^ sc * c := Nat.mul_right_comm ..
  rw [e, Nat.mul_div_mul_right _ _ hc, Nat.mul_mod_mul_right, ← Nat.mul_assoc]
  have : (B * c ≤ 2 * (t * 10 ^ sc % B) * c) = (B ≤ 2 * (t * 10 ^ sc % B)) := by
    apply propext
    exact ⟨fun h => Nat.le_of_mul_le_mul_right h hc, fun h => Nat.mul_le_mul_right _ h⟩
  simp only [this]
theorem whole_mono {t u B sc : Nat} (h : t ≤ u) (half : Bool) : wholeN t B sc half ≤ wholeN u B sc half := by
  have hT : t * 10 ^ sc ≤ u * 10 ^ sc := Nat.mul_le_mul_right _ h
  unfold wholeN
  generalize t * 10 ^ sc = T at *
  generalize u * 10 ^ sc = U at *
  have hq : T / B ≤ U / B := Nat.div_le_div_right hT
  by_cases hlt : T / B < U / B
  · split <;> split <;> omega
  · have he : T / B = U / B := Nat.le_antisymm hq (Nat.le_of_not_lt hlt)
    have d1 := Nat.div_add_mod T B
    have d2 := Nat.div_add_mod U B
    rw [he] at d1 ⊢
    have hr : T % B ≤ U % B := by omega
    by_cases c : half = true ∧ B ≤ 2 * (T % B)
    · rw [if_pos c, if_pos ⟨c.1, by omega⟩]
      exact Nat.le_refl _
    · rw [if_neg c]
      split
      · exact Nat.le_succ _
      · exact Nat.le_refl _

/-- Numbers put into a type with so many places keep their order. -/
theorem put_mono {n1 s1 n2 s2 sc m : Nat} {b1 b2 half : Bool} (h1 : s1 ≤ m) (h2 : s2 ≤ m)
    (h : sg (b1, n1 * 10 ^ (m - s1)) ≤ sg (b2, n2 * 10 ^ (m - s2))) : sg (b1, wholeN n1 (10 ^ s1) sc half) ≤ sg (b2, wholeN n2 (10 ^ s2) sc half) := by
  have e1 : 10 ^ m = 10 ^ s1 * 10 ^ (m - s1) := by rw [← Nat.pow_add]; congr 1; omega
  have e2 : 10 ^ m = 10 ^ s2 * 10 ^ (m - s2) := by rw [← Nat.pow_add]; congr 1; omega
  have w1 := whole_scale (t := n1) (B := 10 ^ s1) (c := 10 ^ (m - s1)) (sc := sc) (Nat.pow_pos (by decide)) half
  have w2 := whole_scale (t := n2) (B := 10 ^ s2) (c := 10 ^ (m - s2)) (sc := sc) (Nat.pow_pos (by decide)) half
  rw [← e1] at w1
  rw [← e2] at w2
  rw [← w1, ← w2]
  have hz : wholeN 0 (10 ^ m) sc half = 0 := by
    unfold wholeN
    rw [Nat.zero_mul, Nat.zero_mod, Nat.zero_div, if_neg]
    have : 0 < 10 ^ m := Nat.pow_pos (by decide)
    omega
  generalize n1 * 10 ^ (m - s1) = x at *
  generalize n2 * 10 ^ (m - s2) = y at *
  have m1 := fun h => whole_mono (t := x) (u := y) (B := 10 ^ m) (sc := sc) h half
  have m2 := fun h => whole_mono (t := y) (u := x) (B := 10 ^ m) (sc := sc) h half
  have m3 := fun h => whole_mono (t := x) (u := 0) (B := 10 ^ m) (sc := sc) h half
  have m4 := fun h => whole_mono (t := y) (u := 0) (B := 10 ^ m) (sc := sc) h half
  rw [hz] at m3 m4
  generalize wholeN x (10 ^ m) sc half = p at *
  generalize wholeN y (10 ^ m) sc half = q at *
  cases b1 <;> cases b2 <;> simp only [sg, if_true, Bool.false_eq_true, if_false] at h ⊢
  · have := m1 (by omega); omega
  · have := m3 (by omega); have := m4 (by omega); omega
  · omega
  · have := m2 (by omega); omega

theorem f62q {n1 s1 n2 s2 : Int} (a0 : -999999999999999 ≤ n1) (a1 : n1 ≤ 999999999999999) (b0 : -999999999999999 ≤ n2) (b1 : n2 ≤ 999999999999999) (s10 : 0 ≤ s1) (s11 : s1 ≤ 15) (s20 : 0 ≤ s2) (s21 : s2 ≤ 15) :
    ∃ a b : Wd, f62F 1000 ((n1, s1), (n2, s2)) = some ((a.1, (a.2.1, (a.2.2.1, a.2.2.2))), (b.1, (b.2.1, (b.2.2.1, b.2.2.2))), max s1 s2) ∧ OkW a ∧ OkW b
      ∧ W a = ((n1.natAbs * 10 ^ (max s1 s2 - s1).toNat : Nat) : Int) ∧ W b = ((n2.natAbs * 10 ^ (max s1 s2 - s2).toNat : Nat) : Int) := by
  have m1 : s1 ≤ max s1 s2 := Int.le_max_left ..
  have m2 : s2 ≤ max s1 s2 := Int.le_max_right ..
  have m3 : max s1 s2 ≤ 15 := Int.max_le.2 ⟨s11, s21⟩
  obtain ⟨Z1, hz1⟩ : ∃ Z : Nat, max s1 s2 - s1 = Z := ⟨(max s1 s2 - s1).toNat, by omega⟩
  obtain ⟨Z2, hz2⟩ : ∃ Z : Nat, max s1 s2 - s2 = Z := ⟨(max s1 s2 - s2).toNat, by omega⟩
  obtain ⟨a, ha, oa, wa⟩ := f83q (n := n1) (s := s1) (m := Z1) a0 a1 (by omega)
  obtain ⟨b, hb, ob, wb⟩ := f83q (n := n2) (s := s2) (m := Z2) b0 b1 (by omega)
  refine ⟨a, b, ?_, oa, ob, ?_, ?_⟩
  · unfold f62F
    simp only [mxI_eq]
    rw [wi (by omega) (by omega), wi (by omega) (by omega), hz1, hz2, ha, bind_some', hb, bind_some']
  · rw [wa, amt_nat, hz1, Int.toNat_natCast]; simp
  · rw [wb, amt_nat, hz2, Int.toNat_natCast]; simp

/-- The order of numbers, and the error. -/
def cmpS (n1 s1 n2 s2 : Int) : Int × Int := if numErr n1 s1 ≠ 0 then (0, numErr n1 s1) else if numErr n2 s2 ≠ 0 then (0, numErr n2 s2) else (ordN n1 s1 n2 s2, 0)

theorem f42q2 (a b : Int) : f42F 1000 [a, b] = some (if a = 0 then b else a) := by
  have e0 : ∀ {R : Type} (Step : (List Int × Int × Int × Unit → Option R) → List Int × Int × Int × Unit → Option R) v, iterS Step 1000 v = Step (fun v => Step (fun v => Step (iterS Step 997) v) v) v := fun _ _ => rfl
  unfold f42F f42l0
  rw [e0]
  have s0 := fun rec k0 k1 => f42l0_step (R := Int) 1000 rec k0 k1 [a, b] 0 (by simp) (by simp)
  have s1 := fun rec k0 k1 => f42l0_step (R := Int) 1000 rec k0 k1 [a, b] 1 (by simp) (by simp)
  have s2 : ∀ rec k0 k1, f42l0s (R := Int) 1000 rec k0 k1 ([a, b], (([a, b].length : Nat) : Int), ((2 : Nat) : Int), ()) = k1 () := fun _ _ _ => rfl
  have z0 : ((0 : Nat) : Int) = 0 := rfl
  rw [z0] at s0
  rw [s0]
  simp only [Nat.zero_add, s1, Nat.reduceAdd, s2]
  by_cases ha : a = 0 <;> by_cases hb : b = 0 <;> simp [ha, hb]

theorem f21q (n1 s1 n2 s2 : Int) : f21F 1000 ((n1, s1), (n2, s2)) = some (cmpS n1 s1 n2 s2) := by
  unfold f21F cmpS
  simp only [f52q, f42q2, bind_some']
  by_cases h1 : numErr n1 s1 = 0
  · by_cases h2 : numErr n2 s2 = 0
    · have c1 := numErr_ok h1
      have c2 := numErr_ok h2
      obtain ⟨a, b, hab, oa, ob, wa, wb⟩ := f62q c1.1 c1.2.1 c2.1 c2.2.1 c1.2.2.1 c1.2.2.2 c2.2.2.1 c2.2.2.2
      simp only [h1, h2, ne_eq, not_true_eq_false, if_false, if_true, bne_self_eq_false, cond_false]
      rw [hab, bind_some']
      have e1 : f63F 1000 ((a.1, (a.2.1, (a.2.2.1, a.2.2.2))), (b.1, (b.2.1, (b.2.2.1, b.2.2.2)))) = some (if W a < W b then -1 else if W b < W a then 1 else 0) := f63q 1000 oa ob
      have e2 : f63F 1000 ((b.1, (b.2.1, (b.2.2.1, b.2.2.2))), (a.1, (a.2.1, (a.2.2.1, a.2.2.2)))) = some (if W b < W a then -1 else if W a < W b then 1 else 0) := f63q 1000 ob oa
      unfold f21p0 ordN
      simp only []
      have g1 := sg_long n1 (max s1 s2 - s1).toNat
      have g2 := sg_long n2 (max s1 s2 - s2).toNat
      have p1 : 0 < 10 ^ (max s1 s2 - s1).toNat := Nat.pow_pos (by decide)
      have p2 : 0 < 10 ^ (max s1 s2 - s2).toNat := Nat.pow_pos (by decide)
      have q1 : n1 < 0 → 0 < n1.natAbs * 10 ^ (max s1 s2 - s1).toNat := fun h => Nat.mul_pos (by omega) p1
      have q2 : n2 < 0 → 0 < n2.natAbs * 10 ^ (max s1 s2 - s2).toNat := fun h => Nat.mul_pos (by omega) p2
      generalize n1 * 10 ^ (max s1 s2 - s1).toNat = X at *
      generalize n2 * 10 ^ (max s1 s2 - s2).toNat = Y at *
      generalize n1.natAbs * 10 ^ (max s1 s2 - s1).toNat = x at *
      generalize n2.natAbs * 10 ^ (max s1 s2 - s2).toNat = y at *
      rw [e1, e2, wa, wb]
      subst g1
      subst g2
      unfold sg
      simp only [bind_some', decide_eq_true_eq]
      by_cases k1 : n1 < 0
      · have := q1 k1
        simp only [k1, decide_true, cond_true, if_true]
        by_cases k2 : n2 < 0
        · have := q2 k2
          simp only [k2, decide_true, cond_true, if_true]
          congr 2
          repeat' split
          all_goals omega
        · simp only [k2, decide_false, cond_false, if_false]
          congr 2
          repeat' split
          all_goals omega
      · simp only [k1, decide_false, cond_false, if_false]
        by_cases k2 : n2 < 0
        · have := q2 k2
          simp only [k2, decide_true, cond_true, if_true]
          congr 2
          repeat' split
          all_goals omega
        · simp only [k2, decide_false, cond_false, if_false]
          congr 2
          repeat' split
          all_goals omega
    · simp only [h1, h2, ne_eq, not_true_eq_false, if_false, if_true, not_false_eq_true]
      rw [bif_true (by simpa using h2)]
  · simp only [h1, ne_eq, if_false, if_true, not_false_eq_true]
    rw [bif_true (by simpa using h1)]
end Go.Proofs.Ytioagofpofamiaa
/-! Plain laws: zoned bytes are in the order of the values. -/
set_option linter.unusedVariables false
set_option linter.unusedSimpArgs false
namespace Go.Proofs.Ytioagofpofamiaa
open Go.Ab

theorem low_less (n m : Nat) : ∀ L : Nat, Op.bytesLess (((low 10 (n : Int) L).map r240).map fun x => UInt8.ofNat x.toNat) (((low 10 (m : Int) L).map r240).map fun x => UInt8.ofNat x.toNat) = decide (n % 10 ^ L < m % 10 ^ L)
  | 0 => by simp [low, Op.bytesLess, Nat.mod_one]
  | L + 1 => by
    have ih := low_less n m L
    simp only [low, List.map_cons, Op.bytesLess, ih]
    have qa := Nat.mod_pow_succ (x := n) (b := 10) (k := L)
    have qb := Nat.mod_pow_succ (x := m) (b := 10) (k := L)
    have la : n % 10 ^ L < 10 ^ L := Nat.mod_lt _ (Nat.pow_pos (by decide))
    have lb : m % 10 ^ L < 10 ^ L := Nat.mod_lt _ (Nat.pow_pos (by decide))
    have hx : n / 10 ^ L % 10 < 10 := Nat.mod_lt _ (by decide)
    have hy : m / 10 ^ L % 10 < 10 := Nat.mod_lt _ (by decide)
    have ea : (n : Int) / 10 ^ L % 10 = ((n / 10 ^ L % 10 : Nat) : Int) := by simp
    have eb : (m : Int) / 10 ^ L % 10 = ((m / 10 ^ L % 10 : Nat) : Int) := by simp
    rw [ea, eb, qa, qb]
    generalize n / 10 ^ L % 10 = x at *
    generalize m / 10 ^ L % 10 = y at *
    generalize n % 10 ^ L = p at *
    generalize m % 10 ^ L = q at *
    generalize 10 ^ L = t at *
    have r : ∀ z : Nat, z < 10 → UInt8.ofNat (r240 (z : Int)).toNat = UInt8.ofNat (240 + z) := fun z hz => by
      unfold r240
      rw [wi (by omega) (by omega), wu8 (by omega) (by omega), show ((240 : Int) + z).toNat = 240 + z by omega]
    rw [r x hx, r y hy]
    have lt : (UInt8.ofNat (240 + x) < UInt8.ofNat (240 + y)) = (x < y) := by
      rw [UInt8.lt_iff_toNat_lt, UInt8.toNat_ofNat', UInt8.toNat_ofNat']
      apply propext; omega
    have eq : (UInt8.ofNat (240 + x) == UInt8.ofNat (240 + y)) = decide (x = y) := by
      by_cases h : x = y
      · subst h; simp
      · rw [decide_eq_false h, beq_eq_false_iff_ne]
        intro c
        have := congrArg UInt8.toNat c
        rw [UInt8.toNat_ofNat', UInt8.toNat_ofNat'] at this
        omega
    simp only [lt, eq]
    rcases Nat.lt_trichotomy x y with h | h | h
    · have m1 : t * (x + 1) ≤ t * y := Nat.mul_le_mul_left t h
      rw [Nat.mul_add] at m1
      rw [decide_eq_true h, decide_eq_true (p := p + t * x < q + t * y) (by omega)]
      rfl
    · subst h
      simp
    · have m1 : t * (y + 1) ≤ t * x := Nat.mul_le_mul_left t h
      rw [Nat.mul_add] at m1
      rw [decide_eq_false (p := x < y) (by omega), decide_eq_false (p := x = y) (by omega), decide_eq_false (p := p + t * x < q + t * y) (by omega)]
      rfl

theorem zonedA {ln sc n : Int} {s : ByteArray} (h0 : 1 ≤ ln) (h1 : ln ≤ 15) (n0 : 0 ≤ n) (n1 : n ≤ 1000000000000000) : f40F 1000 ((2, ln, sc), n, s) = some (strOfNums ((low 10 n ln.toNat).map r240)) := by
  obtain ⟨L, rfl⟩ : ∃ L : Nat, ln = L := ⟨ln.toNat, by omega⟩
  have hm : mxI n (IntKind.i64.wrap (0 - n)) = n := by
    have := mx_abs (n := n) (by omega) n1
    rw [this, if_neg (by omega)]
  have hL : L ≤ 900 := by omega
  have hd : ∀ d ∈ low 10 n L, 0 ≤ d ∧ d < 10 := fun d h => low_mem (by decide) h
  have hlen : (low 10 n L).length = L := low_length _ _ _
  unfold f40F
  simp only [hm, f75q n0 (by omega) hL, bind_some']
  have e : ((2 : Int) == 2) = true := rfl
  rw [e, cond_true, f40l0q _ _ _ _ (by omega), f40p1q _ _ _ _ (by simp; omega) (by simp; omega), if_neg (by omega), zoned_eq hd]
  rfl

theorem ordN_le {n1 s1 n2 s2 : Int} (h : ordN n1 s1 n2 s2 ≤ 0) : n1 * 10 ^ (max s1 s2 - s1).toNat ≤ n2 * 10 ^ (max s1 s2 - s2).toNat := by
  unfold ordN at h
  split at h
  · omega
  · split at h
    · omega
    · omega
theorem ordN_ge {n1 s1 n2 s2 : Int} (h : 0 ≤ ordN n1 s1 n2 s2) : n2 * 10 ^ (max s1 s2 - s2).toNat ≤ n1 * 10 ^ (max s1 s2 - s1).toNat := by
  unfold ordN at h
  split at h
  · omega
  · split at h
    · omega
    · omega

theorem conv_mono {n1 s1 n2 s2 kd ln sc : Int} {half : Bool} (h1 : (convS n1 s1 kd ln sc half).2 = 0) (h2 : (convS n2 s2 kd ln sc half).2 = 0)
    (h : n1 * 10 ^ (max s1 s2 - s1).toNat ≤ n2 * 10 ^ (max s1 s2 - s2).toNat) : (convS n1 s1 kd ln sc half).1.1 ≤ (convS n2 s2 kd ln sc half).1.1 := by
  obtain ⟨a1, a2, a3, a4, a5⟩ := convS_fact h1
  obtain ⟨b1, b2, b3, b4, b5⟩ := convS_fact h2
  have c1 := numErr_ok a1
  have c2 := numErr_ok b1
  rw [a5, b5]
  obtain ⟨S1, rfl⟩ : ∃ S : Nat, s1 = S := ⟨s1.toNat, by omega⟩
  obtain ⟨S2, rfl⟩ : ∃ S : Nat, s2 = S := ⟨s2.toNat, by omega⟩
  have m1 : S1 ≤ max S1 S2 := Nat.le_max_left ..
  have m2 : S2 ≤ max S1 S2 := Nat.le_max_right ..
  have e : max (S1 : Int) (S2 : Int) = ((max S1 S2 : Nat) : Int) := by omega
  rw [e] at h
  refine put_mono (m := max S1 S2) (by simpa using m1) (by simpa using m2) ?_
  rw [sg_long, sg_long]
  simp only [Int.toNat_natCast]
  rw [show (((max S1 S2 : Nat) : Int) - S1).toNat = max S1 S2 - S1 by omega, show (((max S1 S2 : Nat) : Int) - S2).toNat = max S1 S2 - S2 by omega] at h
  exact h

theorem f14z {ln sc : Int} {L : Nat} (w : Nat) (hln : ln = L) (h0 : 1 ≤ ln) (h1 : ln ≤ 15) (ht : tyErr 2 ln sc = 0) (hw : w < 10 ^ L) :
    f14F 1000 ((2, (ln, sc)), ((w : Int), ByteArray.empty)) = some (strOfNums ((low 10 (w : Int) L).map r240), 0) := by
  have hp : 10 ^ L ≤ 10 ^ 15 := Nat.pow_le_pow_right (by decide) (by omega)
  have hv : valErr 2 ln sc w ByteArray.empty = 0 := by
    unfold valErr
    have hpw : pw ln = ((10 ^ L : Nat) : Int) := by unfold pw; rw [hln, Int.toNat_natCast]; simp
    rw [if_neg (by simp [ht]), if_neg (by decide), if_neg (by decide), if_neg (by simp [strEq_self]), if_neg]
    rw [hpw]; omega
  unfold f14F
  simp only [f29q, hv, bind_some', bne_self_eq_false, cond_false]
  rw [zonedA h0 h1 (by omega) (by omega), bind_some', hln, Int.toNat_natCast]

theorem orders (x : (Int × (Int × Int)) × ((Int × Int) × (Int × Int)) × Bool) : f7F 1000 x = some true := by
  obtain ⟨⟨kd, ln, sc⟩, ⟨⟨n1, s1⟩, ⟨n2, s2⟩⟩, half⟩ := x
  unfold f7F
  rw [awake_ok, bind_some']
  simp only [Bool.not_true, cond_false, f18q, f21q, bind_some']
  by_cases h1 : (convS n1 s1 kd ln sc half).2 = 0
  · rw [bif_false (by simpa using h1)]
    by_cases h2 : (convS n2 s2 kd ln sc half).2 = 0
    · rw [bif_false (by simpa using h2)]
      obtain ⟨a1, a2, a3, a4, a5⟩ := convS_fact h1
      obtain ⟨b1, b2, b3, b4, b5⟩ := convS_fact h2
      have mono := conv_mono h1 h2
      have mono2 := conv_mono h2 h1
      rw [Int.max_comm s2 s1] at mono2
      have c : cmpS n1 s1 n2 s2 = (ordN n1 s1 n2 s2, 0) := by unfold cmpS; rw [if_neg (by simp [a1]), if_neg (by simp [b1])]
      rw [c]
      have ole := ordN_le (n1 := n1) (s1 := s1) (n2 := n2) (s2 := s2)
      have oge := ordN_ge (n1 := n1) (s1 := s1) (n2 := n2) (s2 := s2)
      generalize ordN n1 s1 n2 s2 = o at *
      rw [a5, b5] at *
      simp only [] at *
      have hA := sg_natAbs (decide (n1 < 0), wholeN n1.natAbs (10 ^ s1.toNat) sc.toNat half)
      have hB := sg_natAbs (decide (n2 < 0), wholeN n2.natAbs (10 ^ s2.toNat) sc.toNat half)
      simp only [] at hA hB
      rw [← hA] at a4
      rw [← hB] at b4
      generalize sg (decide (n1 < 0), wholeN n1.natAbs (10 ^ s1.toNat) sc.toNat half) = A at *
      generalize sg (decide (n2 < 0), wholeN n2.natAbs (10 ^ s2.toNat) sc.toNat half) = B at *
      -- behind the order
      obtain ⟨a1', a2', a3', a4', a5', a6', a7', a8', a9'⟩ := ty_ok a2
      obtain ⟨l0, l1⟩ := a4' a3
      obtain ⟨L, hL⟩ : ∃ L : Nat, ln = L := ⟨ln.toNat, by omega⟩
      have rest : (bif (kd != (2 : Int)) then some true else bif (decide (A < (0 : Int))) then some true else bif (decide (B < (0 : Int))) then some true else
          Option.bind (f14F 1000 ((kd, (ln, sc)), (A, ByteArray.empty))) fun y7 =>
          Option.bind (f14F 1000 ((kd, (ln, sc)), (B, ByteArray.empty))) fun y8 =>
          bif (y7.2 == (0 : Int)) then bif (y8.2 == (0 : Int)) then some ((strLt y7.1 y8.1) == (decide (A < B))) else some false else some false) = some true := by
        by_cases hk : kd = 2
        · subst hk
          by_cases hA0 : A < 0
          · simp [hA0]
          by_cases hB0 : B < 0
          · simp [hB0]
          obtain ⟨u, rfl⟩ : ∃ u : Nat, A = u := ⟨A.toNat, by omega⟩
          obtain ⟨v, rfl⟩ : ∃ v : Nat, B = v := ⟨B.toNat, by omega⟩
          rw [bif_false (by decide), bif_false (by simp), bif_false (by simp)]
          have eL : ln.toNat = L := by omega
          rw [eL, Int.natAbs_natCast] at a4 b4
          rw [f14z u hL l0 l1 a2 a4, f14z v hL l0 l1 a2 b4]
          simp only [bind_some', beq_self_eq_true, cond_true]
          have e : strLt (strOfNums ((low 10 (u : Int) L).map r240)) (strOfNums ((low 10 (v : Int) L).map r240)) = decide (u < v) := by
            unfold strLt
            rw [ByteArray.toList_eq, ByteArray.toList_eq, strOfNums_data, strOfNums_data, low_less, Nat.mod_eq_of_lt a4, Nat.mod_eq_of_lt b4]
          rw [e]
          simp
        · rw [bif_true (by simpa using hk)]
      unfold f7p0
      simp only [bne_self_eq_false, cond_false]
      rcases Int.lt_trichotomy o 0 with ho | ho | ho
      · have := mono (ole (by omega))
        rw [bif_true (by simpa using ho), bif_false (by simp; omega), bif_false (by simp; omega), bif_false (by simp; omega)]
        exact rest
      · have k1 := mono (ole (by omega))
        have k2 := mono2 (oge (by omega))
        have : A = B := by omega
        rw [bif_false (by simp; omega), bif_true (by simpa using ho), bif_false (by simp; omega), bif_false (by simp; omega)]
        exact rest
      · have := mono2 (oge (by omega))
        rw [bif_false (by simp; omega), bif_false (by simp; omega), bif_true (by simpa using ho), bif_false (by simp; omega)]
        exact rest
    · rw [bif_true (by simpa using h2)]
  · rw [bif_true (by simpa using h1)]
end Go.Proofs.Ytioagofpofamiaa
