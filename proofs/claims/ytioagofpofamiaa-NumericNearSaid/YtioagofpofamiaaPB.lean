/- Plain laws: sums and the order of the reference's long numbers. -/
import Derived.Test.YtioagofpofamiaaPA
import Derived.Test.YtioagofpofamiaaFbJ
/-! Plain laws: sums and the order of long numbers. -/
set_option linter.unusedVariables false
set_option linter.unusedSimpArgs false
namespace Go.Proofs.Ytioagofpofamiaa
open Go.Ab

theorem amt_nat (n : Int) : amt n = (n.natAbs : Int) := by unfold amt; split <;> omega
/-- A sign and an amount as a number. -/
def sg (x : Bool × Nat) : Int := if x.1 = true then -(x.2 : Int) else x.2
theorem sg_of (n : Int) : sg (decide (n < 0), n.natAbs) = n := by
  unfold sg
  by_cases h : n < 0
  · simp [h]; omega
  · simp [h]; omega
theorem sg_flip (b : Bool) (n : Nat) : sg (!b, n) = -sg (b, n) := by cases b <;> simp [sg]

/-- The sum of two numbers with signs. -/
def sumN (a b : Bool × Nat) : Bool × Nat :=
  if a.1 = b.1 then (a.1, a.2 + b.2) else if a.2 < b.2 then (b.1, b.2 - a.2) else (a.1 && decide (0 < a.2 - b.2), a.2 - b.2)
theorem sumN_sg (a b : Bool × Nat) : sg (sumN a b) = sg a + sg b := by
  obtain ⟨ba, a⟩ := a
  obtain ⟨bb, b⟩ := b
  unfold sumN
  simp only []
  by_cases h : ba = bb
  · subst h
    rw [if_pos rfl]
    cases ba <;> simp [sg]
    omega
  · rw [if_neg h]
    by_cases hl : a < b
    · rw [if_pos hl]
      cases ba <;> cases bb <;> simp [sg] at h ⊢ <;> omega
    · rw [if_neg hl]
      by_cases h0 : 0 < a - b
      · rw [decide_eq_true h0, Bool.and_true]
        cases ba <;> cases bb <;> simp [sg] at h ⊢ <;> omega
      · rw [decide_eq_false h0, Bool.and_false]
        cases ba <;> cases bb <;> simp [sg] at h ⊢ <;> omega
theorem sumN_le (a b : Bool × Nat) : (sumN a b).2 ≤ a.2 + b.2 := by
  unfold sumN
  split
  · exact Nat.le_refl _
  · split
    · simp only; omega
    · simp only; omega

theorem dg_len_add {a b k : Nat} (ha : (dg a).length ≤ k) (hb : (dg b).length ≤ k) : (dg (a + b)).length ≤ k + 1 := by
  have h1 := dg_len_le.1 ha
  have h2 := dg_len_le.1 hb
  exact dg_len_le.2 (by rw [Nat.pow_succ]; omega)
theorem dec_len (n : Nat) : decide (((dg n).length : Int) > 0) = decide (0 < n) := by
  by_cases h : 0 < n
  · rw [decide_eq_true h, decide_eq_true]
    have := dg_lt_len (n := n) (k := 0)
    rw [Nat.pow_zero] at this
    omega
  · have : n = 0 := by omega
    subst this
    rw [dg_zero]; rfl
theorem len_zero (n : Nat) : (((dg n).length : Int) == 0) = decide (n = 0) := by
  by_cases h : n = 0
  · subst h; rw [dg_zero]; rfl
  · rw [decide_eq_false h]
    have : dg n ≠ [] := fun c => h (dg_nil.1 c)
    have : (dg n).length ≠ 0 := fun c => this (List.length_eq_zero_iff.1 c)
    simp only [beq_eq_false_iff_ne, ne_eq]
    omega

theorem f60q {ba bb : Bool} {a b : Nat} (ha : (dg a).length ≤ 800) (hb : (dg b).length ≤ 800) :
    f60F 1000 ((ba, dg a), (bb, dg b)) = some ((sumN (ba, a) (bb, b)).1, dg (sumN (ba, a) (bb, b)).2) := by
  have hs := dg_len_add ha hb
  unfold f60F sumN
  simp only []
  by_cases h : ba = bb
  · rw [if_pos h, bif_true (by simp [h]), f92q (by omega), bind_some']
  · rw [if_neg h, bif_false (by simpa using h)]
    unfold f60p0
    simp only []
    rw [f93q (by omega) (by omega), bind_some']
    by_cases hl : a < b
    · rw [if_pos hl, cmp3_lt hl]
      simp only [Int.reduceNeg, Int.reduceLT, decide_true, cond_true]
      rw [f94q (by omega) (by omega), bind_some', dec_len, decide_eq_true (by omega)]
      cases bb <;> rfl
    · rw [if_neg hl]
      have : decide (cmp3 a b < 0) = false := by
        have := cmp3_ge a b
        rw [decide_eq_true (by omega : b ≤ a)] at this
        simp at this ⊢
        exact this
      rw [this]
      simp only [cond_false]
      rw [f94q (by omega) (by omega), bind_some', dec_len]
      cases ba <;> rfl

theorem f61q' {n z : Int} (h0 : -999999999999999 ≤ n) (h1 : n ≤ 999999999999999) (z0 : 0 ≤ z) (hz : z ≤ 100) : f61F 1000 (n, z) = some (decide (n < 0), dg (n.natAbs * 10 ^ z.toNat)) := by
  obtain ⟨Z, rfl⟩ : ∃ Z : Nat, z = Z := ⟨z.toNat, by omega⟩
  rw [f61q h0 h1 (by omega), amt_nat, Int.toNat_natCast, Int.toNat_natCast]
theorem long_len {n : Int} {z : Nat} (h0 : -999999999999999 ≤ n) (h1 : n ≤ 999999999999999) : (dg (n.natAbs * 10 ^ z)).length ≤ 15 + z := dg_len_le.2 (by
  rw [Nat.pow_add]
  exact Nat.mul_lt_mul_of_pos_right (by omega) (Nat.pow_pos (by decide)))
theorem sg_long (n : Int) (z : Nat) : sg (decide (n < 0), n.natAbs * 10 ^ z) = n * 10 ^ z := by
  have h := sg_of n
  unfold sg at *
  simp only [] at *
  have e : ((n.natAbs * 10 ^ z : Nat) : Int) = (n.natAbs : Int) * 10 ^ z := by simp
  rw [e]
  split at h
  · rename_i c
    rw [if_pos c, ← Int.neg_mul, h]
  · rename_i c
    rw [if_neg c, h]

theorem mxI_eq (a b : Int) : mxI a b = max a b := by unfold mxI; rw [Int.max_def]; split <;> split <;> omega
/-- The order of two numbers. -/
def ordN (n1 s1 n2 s2 : Int) : Int :=
  if n1 * 10 ^ (max s1 s2 - s1).toNat = n2 * 10 ^ (max s1 s2 - s2).toNat then 0 else if n1 * 10 ^ (max s1 s2 - s1).toNat < n2 * 10 ^ (max s1 s2 - s2).toNat then -1 else 1

theorem f59q {n1 s1 n2 s2 : Int} (a0 : -999999999999999 ≤ n1) (a1 : n1 ≤ 999999999999999) (b0 : -999999999999999 ≤ n2) (b1 : n2 ≤ 999999999999999) (s10 : 0 ≤ s1) (s11 : s1 ≤ 90) (s20 : 0 ≤ s2) (s21 : s2 ≤ 90) :
    f59F 1000 ((n1, s1), (n2, s2)) = some (ordN n1 s1 n2 s2) := by
  unfold f59F f91F ordN
  simp only [mxI_eq]
  have m1 : s1 ≤ max s1 s2 := Int.le_max_left ..
  have m2 : s2 ≤ max s1 s2 := Int.le_max_right ..
  have m3 : max s1 s2 ≤ 90 := Int.max_le.2 ⟨s11, s21⟩
  rw [wi (by omega) (by omega), wi (by omega) (by omega), f61q' a0 a1 (by omega) (by omega), bind_some', f61q' b0 b1 (by omega) (by omega), bind_some', bind_some']
  have l1 := long_len (z := (max s1 s2 - s1).toNat) a0 a1
  have l2 := long_len (z := (max s1 s2 - s2).toNat) b0 b1
  simp only []
  rw [f60q (by omega) (by omega), bind_some']
  have hs := sumN_sg (decide (n1 < 0), n1.natAbs * 10 ^ (max s1 s2 - s1).toNat) (!decide (n2 < 0), n2.natAbs * 10 ^ (max s1 s2 - s2).toNat)
  rw [sg_flip, sg_long, sg_long] at hs
  generalize sumN (decide (n1 < 0), n1.natAbs * 10 ^ (max s1 s2 - s1).toNat) (!decide (n2 < 0), n2.natAbs * 10 ^ (max s1 s2 - s2).toNat) = d at *
  generalize n1 * 10 ^ (max s1 s2 - s1).toNat = X at *
  generalize n2 * 10 ^ (max s1 s2 - s2).toNat = Y at *
  simp only []
  rw [len_zero]
  obtain ⟨b, m⟩ := d
  unfold sg at hs
  simp only [] at hs ⊢
  by_cases hm : m = 0
  · subst hm
    have : X = Y := by split at hs <;> omega
    rw [if_pos this]; rfl
  · rw [decide_eq_false hm, cond_false, f69q, bind_some']
    cases b with
    | true =>
      simp only [if_true] at hs
      rw [if_neg (by omega : ¬ X = Y), if_pos (by omega : X < Y)]
      rfl
    | false =>
      simp only [Bool.false_eq_true, if_false] at hs
      rw [if_neg (by omega : ¬ X = Y), if_neg (by omega : ¬ X < Y)]
      rfl

theorem putR_nat (below : Bool) (a b : Nat) (sc ln : Int) (half : Bool) :
    putR below a b sc ln half = if 10 ^ ln.toNat ≤ wholeN a b sc.toNat half then (0, 19) else (sg (below, wholeN a b sc.toNat half), 0) := by
  unfold putR
  simp only [wholeI]
  have hp : (10 : Int) ^ ln.toNat = ((10 ^ ln.toNat : Nat) : Int) := by simp
  rw [hp]
  by_cases c : 10 ^ ln.toNat ≤ wholeN a b sc.toNat half
  · rw [if_pos c, if_pos (by omega)]
  · rw [if_neg c, if_neg (by omega)]
    rfl
theorem pow_nat (k : Nat) : (10 : Int) ^ k = ((10 ^ k : Nat) : Int) := by simp
/-- What a conversion that succeeds says. -/
theorem convS_fact {n s kd ln sc : Int} {half : Bool} (h : (convS n s kd ln sc half).2 = 0) :
    numErr n s = 0 ∧ tyErr kd ln sc = 0 ∧ (1 ≤ kd ∧ kd ≤ 3) ∧ wholeN n.natAbs (10 ^ s.toNat) sc.toNat half < 10 ^ ln.toNat ∧ (convS n s kd ln sc half).1 = (sg (decide (n < 0), wholeN n.natAbs (10 ^ s.toNat) sc.toNat half), ByteArray.empty) := by
  by_cases h1 : numErr n s = 0
  · by_cases h2 : tyErr kd ln sc = 0
    · by_cases h3 : 1 ≤ kd ∧ kd ≤ 3
      · rw [convS_ok h1 h2 h3] at h ⊢
        refine ⟨h1, h2, h3, ?_⟩
        rw [amt_nat, pow_nat s.toNat, putR_nat] at *
        by_cases c : 10 ^ ln.toNat ≤ wholeN n.natAbs (10 ^ s.toNat) sc.toNat half
        · rw [if_pos c] at h
          exact absurd h (by decide)
        · rw [if_neg c]
          exact ⟨by omega, rfl⟩
      · rw [convS_kind h1 h2 h3] at h
        exact absurd h (by decide)
    · rw [convS_ty h1 h2] at h
      exact absurd h h2
  · rw [convS_num h1] at h
    exact absurd h h1
end Go.Proofs.Ytioagofpofamiaa
/-! Plain laws: what is put into a type is near to the number. -/
set_option linter.unusedVariables false
set_option linter.unusedSimpArgs false
namespace Go.Proofs.Ytioagofpofamiaa
open Go.Ab

theorem sg_natAbs (x : Bool × Nat) : (sg x).natAbs = x.2 := by unfold sg; split <;> omega
theorem sg_bound {b : Bool} {w k : Nat} (h : w < 10 ^ k) (hk : k ≤ 15) : -999999999999999 ≤ sg (b, w) ∧ sg (b, w) ≤ 999999999999999 := by
  have : 10 ^ k ≤ 10 ^ 15 := Nat.pow_le_pow_right (by decide) hk
  unfold sg
  split <;> simp only <;> omega

theorem whole_exact {t S sc : Nat} (h : S ≤ sc) (half : Bool) : wholeN t (10 ^ S) sc half = t * 10 ^ (sc - S) := by
  have e : t * 10 ^ sc = t * 10 ^ (sc - S) * 10 ^ S := by rw [Nat.mul_assoc, ← Nat.pow_add, Nat.sub_add_cancel h]
  have hp : 0 < 10 ^ S := Nat.pow_pos (by decide)
  unfold wholeN
  rw [e, Nat.mul_mod_left, Nat.mul_div_cancel _ hp, if_neg (by omega)]
theorem whole_cut {t S sc : Nat} (h : sc < S) (half : Bool) : wholeN t (10 ^ S) sc half = if half = true ∧ 10 ^ (S - sc) ≤ 2 * (t % 10 ^ (S - sc)) then t / 10 ^ (S - sc) + 1 else t / 10 ^ (S - sc) := by
  have hp : 0 < 10 ^ sc := Nat.pow_pos (by decide)
  have e : 10 ^ S = 10 ^ (S - sc) * 10 ^ sc := by rw [← Nat.pow_add, Nat.sub_add_cancel (Nat.le_of_lt h)]
  unfold wholeN
  rw [e, Nat.mul_div_mul_right _ _ hp, Nat.mul_mod_mul_right, ← Nat.mul_assoc]
  have : (10 ^ (S - sc) * 10 ^ sc ≤ 2 * (t % 10 ^ (S - sc)) * 10 ^ sc) = (10 ^ (S - sc) ≤ 2 * (t % 10 ^ (S - sc))) := by
    apply propext
    exact ⟨fun h => Nat.le_of_mul_le_mul_right h hp, fun h => Nat.mul_le_mul_right _ h⟩
  simp only [this]

theorem f20q {n s sc : Int} {half : Bool} {L : Nat} (a0 : -999999999999999 ≤ n) (a1 : n ≤ 999999999999999) (s0 : 0 ≤ s) (s1 : s ≤ 15) (c0 : 0 ≤ sc) (c1 : sc ≤ 15)
    (hL : L ≤ 15) (hw : wholeN n.natAbs (10 ^ s.toNat) sc.toNat half < 10 ^ L) :
    f20F 1000 ((n, s), (sg (decide (n < 0), wholeN n.natAbs (10 ^ s.toNat) sc.toNat half), sc), half) = some true := by
  obtain ⟨S, rfl⟩ : ∃ S : Nat, s = S := ⟨s.toNat, by omega⟩
  obtain ⟨C, rfl⟩ : ∃ C : Nat, sc = C := ⟨sc.toNat, by omega⟩
  simp only [Int.toNat_natCast] at *
  obtain ⟨b0, b1⟩ := sg_bound (b := decide (n < 0)) hw hL
  unfold f20F
  simp only []
  by_cases h : S ≤ C
  · rw [bif_true (by simp; omega), f59q a0 a1 b0 b1 (by omega) (by omega) (by omega) (by omega), bind_some', whole_exact h, sg_long]
    unfold ordN
    rw [show max (S : Int) (C : Int) = C by omega]
    rw [show ((C : Int) - C).toNat = 0 by omega, show ((C : Int) - S).toNat = C - S by omega, Int.pow_zero, Int.mul_one, if_pos rfl]
    rfl
  · rw [bif_false (by simp; omega), wi (by omega) (by omega), wi (by omega) (by omega)]
    have z0 : f61F 1000 (n, 0) = some (decide (n < 0), dg (n.natAbs * 10 ^ 0)) := f61q' (z := 0) a0 a1 (by decide) (by decide)
    rw [z0, bind_some', f61q' (by omega) (by omega) (by omega) (by omega), bind_some', show ((S : Int) - C).toNat = S - C by omega]
    have l1 := long_len (z := 0) a0 a1
    have l2 := long_len (n := 0 - sg (decide (n < 0), wholeN n.natAbs (10 ^ S) C half)) (z := S - C) (by omega) (by omega)
    simp only []
    rw [f60q (by omega) (by omega), bind_some']
    have z1 : f61F 1000 (-1, (S : Int) - C) = some (true, dg (1 * 10 ^ (S - C))) := by
      rw [f61q' (by decide) (by decide) (by omega) (by omega), show ((S : Int) - C).toNat = S - C by omega]; rfl
    rw [z1, bind_some', Nat.one_mul]
    -- the difference
    have hs := sumN_sg (decide (n < 0), n.natAbs * 10 ^ 0) (decide (0 - sg (decide (n < 0), wholeN n.natAbs (10 ^ S) C half) < 0), (0 - sg (decide (n < 0), wholeN n.natAbs (10 ^ S) C half)).natAbs * 10 ^ (S - C))
    have hle := sumN_le (decide (n < 0), n.natAbs * 10 ^ 0) (decide (0 - sg (decide (n < 0), wholeN n.natAbs (10 ^ S) C half) < 0), (0 - sg (decide (n < 0), wholeN n.natAbs (10 ^ S) C half)).natAbs * 10 ^ (S - C))
    have hm := sg_natAbs (sumN (decide (n < 0), n.natAbs * 10 ^ 0) (decide (0 - sg (decide (n < 0), wholeN n.natAbs (10 ^ S) C half) < 0), (0 - sg (decide (n < 0), wholeN n.natAbs (10 ^ S) C half)).natAbs * 10 ^ (S - C)))
    rw [hs, sg_long, sg_long] at hm
    dsimp only at hle
    have hl3 := Nat.le_trans (dg_len_mono hle) (dg_len_add (k := 200) (by omega) (by omega))
    generalize (sumN (decide (n < 0), n.natAbs * 10 ^ 0) (decide (0 - sg (decide (n < 0), wholeN n.natAbs (10 ^ S) C half) < 0), (0 - sg (decide (n < 0), wholeN n.natAbs (10 ^ S) C half)).natAbs * 10 ^ (S - C))).2 = m at *
    have hw2 := whole_cut (t := n.natAbs) (S := S) (sc := C) (by omega) half
    have hP : (10 : Int) ^ (S - C) = ((10 ^ (S - C) : Nat) : Int) := by simp
    have hPl : (dg (10 ^ (S - C))).length ≤ 200 := dg_len_le.2 (Nat.pow_lt_pow_right (by decide) (by omega))
    have hP0 : 0 < 10 ^ (S - C) := Nat.pow_pos (by decide)
    rw [hP, Int.pow_zero, Int.mul_one] at hm
    generalize wholeN n.natAbs (10 ^ S) C half = w at *
    generalize 10 ^ (S - C) = p at *
    have hdm := Nat.div_add_mod n.natAbs p
    have hmp : n.natAbs % p < p := Nat.mod_lt _ hP0
    have key : (half = true → 2 * m ≤ p) ∧ (half = false → m < p) := by
      have hm2 : m = ((n.natAbs : Int) - (w : Int) * p).natAbs := by
        rw [← hm]
        by_cases hn : n < 0
        · have : (n + (0 - sg (decide (n < 0), w)) * (p : Int)) = -((n.natAbs : Int) - (w : Int) * p) := by
            have e : sg (decide (n < 0), w) = -(w : Int) := by simp [sg, hn]
            rw [e, Int.zero_sub, Int.neg_neg]
            omega
          rw [this, Int.natAbs_neg]
        · have : (n + (0 - sg (decide (n < 0), w)) * (p : Int)) = ((n.natAbs : Int) - (w : Int) * p) := by
            have e : sg (decide (n < 0), w) = (w : Int) := by simp [sg, hn]
            rw [e, Int.zero_sub, Int.neg_mul]
            omega
          rw [this]
      rw [hm2, hw2]
      generalize n.natAbs / p = q at *
      generalize n.natAbs % p = r at *
      have e1 : ((q : Nat) : Int) * p = ((p * q : Nat) : Int) := by rw [Nat.mul_comm]; simp
      have e2 : ((q + 1 : Nat) : Int) * p = ((p * q + p : Nat) : Int) := by rw [← Nat.mul_succ, Nat.mul_comm]; simp
      by_cases c : half = true ∧ p ≤ 2 * r
      · rw [if_pos c, e2]
        exact ⟨fun _ => by omega, fun hf => absurd c.1 (by simp [hf])⟩
      · rw [if_neg c, e1]
        exact ⟨fun ht => by have : ¬ p ≤ 2 * r := fun x => c ⟨ht, x⟩; omega, fun _ => by omega⟩
    cases half with
    | true =>
      have k := key.1 rfl
      simp only [cond_true]
      rw [f60q (by omega) (by omega), bind_some']
      have e2 : sumN (false, m) (false, m) = (false, m + m) := rfl
      rw [e2]
      have l4 := dg_len_add hl3 hl3
      simp only []
      rw [f60q (by omega) (by omega), bind_some']
      unfold sumN
      simp only [Bool.false_eq_true, if_false]
      by_cases c : m + m < p
      · rw [if_pos c]; rfl
      · rw [if_neg c]
        simp only [Bool.false_and, cond_false]
        rw [len_zero, decide_eq_true (by omega)]
    | false =>
      have k := key.2 rfl
      simp only [cond_false]
      rw [f60q (by omega) (by omega), bind_some']
      unfold sumN
      simp only [Bool.false_eq_true, if_false]
      rw [if_pos k]

theorem near_ok {n s kd ln sc : Int} {half : Bool} (h : (convS n s kd ln sc half).2 = 0) : f20F 1000 ((n, s), ((convS n s kd ln sc half).1.1, sc), half) = some true := by
  obtain ⟨h1, h2, h3, h4, h5⟩ := convS_fact h
  have hb := numErr_ok h1
  obtain ⟨a1', a2', a3', a4', a5', a6', a7', a8', a9'⟩ := ty_ok h2
  obtain ⟨l0, l1⟩ := a4' h3
  have s9 := a9' h3
  rw [h5]
  exact f20q hb.1 hb.2.1 hb.2.2.1 hb.2.2.2 a7' (by omega) (by omega) h4

theorem nears (x : (Int × Int) × (Int × (Int × Int))) : f6F 1000 x = some true := by
  obtain ⟨⟨n, s⟩, ⟨kd, ln, sc⟩⟩ := x
  unfold f6F f6p0
  rw [awake_ok, bind_some']
  simp only [Bool.not_true, cond_false, f18q, bind_some']
  by_cases h1 : (convS n s kd ln sc false).2 = 0
  · rw [bif_true (by simpa using h1), near_ok h1, bind_some']
    simp only [Bool.not_true, cond_false]
    by_cases h2 : (convS n s kd ln sc true).2 = 0
    · rw [bif_false (by simpa using h2), near_ok h2, bind_some']
    · rw [bif_true (by simpa using h2)]
  · rw [bif_false (by simpa using h1)]
    by_cases h2 : (convS n s kd ln sc true).2 = 0
    · rw [bif_false (by simpa using h2), near_ok h2, bind_some']
    · rw [bif_true (by simpa using h2)]
end Go.Proofs.Ytioagofpofamiaa
