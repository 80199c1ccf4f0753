/- Plain laws: values read from texts by a code: EditReads. -/
import Derived.Test.YtecbbmokocnadaaDoorPC
import Derived.Test.YtecbbmokocnadaaDoorFcJ
/-! Plain laws: values read from texts by a code. -/
set_option linter.unusedVariables false
set_option linter.unusedSimpArgs false
namespace Go.Proofs.YtecbbmokocnadaaDoor
open Go.Ab

/-! ### Digits of a text -/
def isD (b : UInt8) : Bool := decide (48 ≤ b.toNat) && decide (b.toNat ≤ 57)
theorem isD_dig {b : UInt8} : isD b = true ↔ dig b := by
  unfold isD dig
  simp
def dgs (l : List UInt8) : List UInt8 := l.filter isD
theorem dgs_dig {l : List UInt8} : ∀ d ∈ dgs l, dig d := fun d hd => isD_dig.1 (List.mem_filter.1 hd).2
theorem got_dgs : ∀ (l : List UInt8) (a : Int), gotL a (dgs l) = gotL a l
  | [], a => rfl
  | b :: l, a => by
    unfold dgs
    by_cases h : isD b = true
    · rw [List.filter_cons_of_pos h, got_dig (isD_dig.1 h), got_dig (isD_dig.1 h)]
      exact got_dgs l _
    · rw [List.filter_cons_of_neg h, got_no (fun c => h (isD_dig.2 c))]
      exact got_dgs l a
theorem got_lt : ∀ (l : List UInt8) (a : Nat), (∀ d ∈ l, dig d) → gotL (a : Int) l < ((a + 1) * 10 ^ l.length : Nat)
  | [], a, _ => by rw [got_nil]; simp; omega
  | b :: l, a, h => by
    have hb := h b (by simp)
    rw [got_dig hb]
    have hb2 := hb
    unfold dig at hb2
    have e : 10 * (a : Int) + ((b.toNat : Int) - 48) = ((10 * a + (b.toNat - 48) : Nat) : Int) := by omega
    rw [e]
    have ih := got_lt l (10 * a + (b.toNat - 48)) fun d hd => h d (by simp [hd])
    refine Int.lt_of_lt_of_le ih ?_
    have : (10 * a + (b.toNat - 48) + 1) * 10 ^ l.length ≤ (a + 1) * 10 ^ (b :: l).length := by
      rw [List.length_cons, Nat.pow_succ, Nat.mul_comm (10 ^ l.length) 10, ← Nat.mul_assoc]
      exact Nat.mul_le_mul_right _ (by omega)
    exact_mod_cast this
theorem got_bound {l : List UInt8} {L : Nat} (h : (dgs l).length ≤ L) : 0 ≤ gotL 0 l ∧ gotL 0 l < 10 ^ L := by
  refine ⟨got_nonneg l, ?_⟩
  rw [← got_dgs]
  have h1 := got_lt (dgs l) 0 dgs_dig
  have h2 : (0 + 1) * 10 ^ (dgs l).length ≤ 10 ^ L := by
    rw [Nat.zero_add, Nat.one_mul]
    exact Nat.pow_le_pow_right (by decide) h
  have h3 : (((0 + 1) * 10 ^ (dgs l).length : Nat) : Int) ≤ ((10 ^ L : Nat) : Int) := by exact_mod_cast h2
  have h4 : ((10 ^ L : Nat) : Int) = (10 : Int) ^ L := by simp
  have h0 : (((0 : Nat)) : Int) = 0 := rfl
  rw [h0] at h1
  omega
theorem ten15 {L : Nat} (h : L ≤ 15) : (10 : Int) ^ L ≤ 1000000000000000 := by
  have : (10 : Nat) ^ L ≤ 10 ^ 15 := Nat.pow_le_pow_right (by decide) h
  have h4 : ((10 ^ L : Nat) : Int) = (10 : Int) ^ L := by simp
  omega
theorem dgs_snoc {l : List UInt8} {i : Nat} (h : i < l.length) : dgs (l.take (i + 1)) = dgs (l.take i) ++ (if isD (l.getD i 0) = true then [l.getD i 0] else []) := by
  rw [take_snoc' h]
  unfold dgs
  rw [List.filter_append]
  congr 1
  by_cases c : isD (l.getD i 0) = true
  · rw [if_pos c, List.filter_cons_of_pos c]
    rfl
  · rw [if_neg c, List.filter_cons_of_neg c]
    rfl
theorem dgs_le {l : List UInt8} (i : Nat) : (dgs (l.take i)).length ≤ (dgs l).length := by
  conv => rhs; rw [← List.take_append_drop i l]
  unfold dgs
  rw [List.filter_append, List.length_append]
  omega
theorem dgs_len (l : List UInt8) : (dgs l).length ≤ l.length := List.length_filter_le _ _

theorem f362q (l : List UInt8) (hl : l.length ≤ 900) : f362F 1000 (S l) = some (S (dgs l)) := by
  unfold f362F f362l1
  rw [bif_true (decide_eq_true (by rw [S_size]; omega)), bytes_ints, ints_len]
  have key := iter_for (R := ByteArray) (Step := fun rec v => f362l1s 1000 rec (fun (w2 : List Int × Unit) => some (strOfNums w2.1)) v) (fun i => (ints l, (l.length : Int), (i : Int), ints (dgs (l.take i)), ())) l.length (fin := some (S (dgs l)))
    (fun rec i hi => by
      have hle := dgs_len (l.take i)
      simp at hle
      unfold f362l1s f362p0
      simp only [ints_len, ints_getD, Int.toNat_natCast]
      have hap : ∀ z : Int, (decide (((dgs (l.take i)).length + [z].length) * 1 ≤ 140737488355328) && decide ((dgs (l.take i)).length + [z].length ≤ 9223372036854775807)) = true := by
        intro z
        simp
        omega
      rw [bif_true (decide_eq_true (by omega)), bif_true (idx_ok hi), bif_true (hap _), ints_snoc, wi (x := (i : Int) + 1) (by omega) (by omega), dgs_snoc hi]
      by_cases h1 : 48 ≤ (l.getD i 0).toNat
      · rw [bif_true (decide_eq_true (by omega))]
        by_cases h2 : (l.getD i 0).toNat ≤ 57
        · have hd : isD (l.getD i 0) = true := by unfold isD; rw [decide_eq_true h1, decide_eq_true h2]; rfl
          rw [bif_true (decide_eq_true (by omega)), if_pos hd]
          rfl
        · have hd : ¬ isD (l.getD i 0) = true := by unfold isD; rw [decide_eq_false h2, Bool.and_false]; decide
          rw [bif_false (decide_eq_false (by omega)), if_neg hd, List.append_nil]
          rfl
      · have hd : ¬ isD (l.getD i 0) = true := by unfold isD; rw [decide_eq_false h1, Bool.false_and]; decide
        rw [bif_false (decide_eq_false (by omega)), if_neg hd, List.append_nil]
        rfl)
    (fun rec => by
      unfold f362l1s
      simp only []
      rw [bif_false (decide_eq_false (by omega)), List.take_length, str_ints]) (k := 1000) (by omega)
  exact key

theorem val_zero {kd ln sc n : Int} (ht : tyErr kd ln sc = 0) (hk : 1 ≤ kd ∧ kd ≤ 3) (hl : 1 ≤ ln) (hn : amt n < 10 ^ ln.toNat) : valErr kd ln sc n ByteArray.empty = 0 := by
  have e : strEq ByteArray.empty ByteArray.empty = true := strEq_self _
  have hp : pw ln = 10 ^ ln.toNat := rfl
  have : -(pw ln - 1) ≤ n ∧ n ≤ pw ln - 1 := by
    rw [hp]
    unfold amt at hn
    split at hn <;> omega
  unfold valErr
  rw [if_neg (fun c => c ht), if_neg (by omega), if_neg (by omega), if_neg (by rw [e]; decide), if_neg (fun c => c this)]
theorem amt_neg {n : Int} : amt (-n) = amt n := by unfold amt; split <;> split <;> omega
theorem amt_nn {n : Int} (h : 0 ≤ n) : amt n = n := by unfold amt; rw [if_neg (by omega)]

/-- What is read of digits by a way to text. -/
def rdC (ln n : Int) (cnt : Nat) (T : Int → List UInt8) (l : List UInt8) : (Int × ByteArray) × Int :=
  if (cnt : Int) > ln then ((0, ByteArray.empty), 8) else if T n = l then ((n, ByteArray.empty), 0) else if T (-n) = l then ((-n, ByteArray.empty), 0) else ((0, ByteArray.empty), 8)

theorem f359v1l0q (k0 : ByteArray × Int × Int × Int × Int × Int × Int × Int × Int × Int × Int × ByteArray × Unit → Option (Int × ByteArray × Int × Int × Int × Int × Int × Int × Unit)) (s : ByteArray) (d : List UInt8) (hd : ∀ x ∈ d, dig x) (hl : d.length ≤ 15) (a1 a2 a3 a4 a5 a6 a7 a8 : Int) (a9 : Int) (a10 : ByteArray) :
    f359v1l0 1000 k0 (s, 0, (d.length : Int), 0, a1, a2, a3, a4, a5, a6, a7, a8, a9, a10, ints d, ()) = k0 (s, gotL 0 d, a1, a2, a3, a4, a5, a6, a7, a8, a9, a10, ()) := by
  unfold f359v1l0
  have key := iter_for (R := Int × ByteArray × Int × Int × Int × Int × Int × Int × Unit) (Step := fun rec v => f359v1l0s 1000 rec k0 v) (fun i => (s, gotL 0 (d.take i), (d.length : Int), (i : Int), a1, a2, a3, a4, a5, a6, a7, a8, a9, a10, ints d, ())) d.length (fin := k0 (s, gotL 0 d, a1, a2, a3, a4, a5, a6, a7, a8, a9, a10, ()))
    (fun rec i hi => by
      have hdi : dig (d.getD i 0) := by
        rw [List.getD_eq_getElem?_getD, List.getElem?_eq_getElem hi]
        exact hd _ (List.getElem_mem hi)
      have hdl : (dgs (d.take i)).length ≤ 14 := by
        have := dgs_len (d.take i)
        simp at this
        omega
      have hb := got_bound hdl
      have ht := ten15 (L := 14) (by omega)
      have hdi2 := hdi
      unfold dig at hdi2
      unfold f359v1l0s
      simp only [ints_len, ints_getD, Int.toNat_natCast]
      have h14 : gotL 0 (d.take i) ≤ 100000000000000 := by
        have : (10 : Int) ^ 14 = 100000000000000 := by decide
        omega
      rw [bif_true (decide_eq_true (by omega)), bif_true (idx_ok hi), wu8 (by omega) (by omega), wi (x := gotL 0 (d.take i) * 10) (by omega) (by omega), wi (x := ((d.getD i 0).toNat : Int) - 48) (by omega) (by omega), wi (x := gotL 0 (d.take i) * 10 + (((d.getD i 0).toNat : Int) - 48)) (by omega) (by omega), wi (x := (i : Int) + 1) (by omega) (by omega), take_snoc' hi, got_app, got_dig hdi, got_nil]
      congr 3
      omega)
    (fun rec => by
      unfold f359v1l0s
      simp only []
      rw [bif_false (decide_eq_false (by omega)), List.take_length]) (k := 1000) (by omega)
  exact key

theorem strS {a b : List UInt8} : strEq (S a) (S b) = decide (a = b) := S_eq a b

theorem f359v1q {kd ln sc code fill : Int} (he : edErr kd ln sc code fill = 0) (l d : List UInt8) (hd : ∀ x ∈ d, dig x) (hl : d.length ≤ 900) :
    f359v1F 1000 (kd, ln, sc, S l, S d, kd, ln, sc, code, fill, ()) = some ((rdC ln (gotL 0 d) d.length (fun n => textL ln sc n code fill) l).1.1, (rdC ln (gotL 0 d) d.length (fun n => textL ln sc n code fill) l).1.2, (rdC ln (gotL 0 d) d.length (fun n => textL ln sc n code fill) l).2, kd, ln, sc, code, fill, ()) := by
  obtain ⟨ht, hk, hln, hsc, hf, hc, h78, hY⟩ := ed_ok he
  unfold f359v1F rdC
  simp only [S_size, bytes_ints, ints_len]
  by_cases c : (d.length : Int) > ln
  · rw [bif_true (decide_eq_true c), if_pos c]
  · rw [bif_false (decide_eq_false c), if_neg c, bif_true (decide_eq_true (by omega)), f359v1l0q _ _ d hd (by omega)]
    have hb := got_bound (l := d) (L := ln.toNat) (by have := dgs_len d; omega)
    have ht15 := ten15 (L := ln.toNat) (by omega)
    generalize gotL 0 d = n at *
    have hw : IntKind.i64.wrap (0 - n) = -n := by rw [wi (by omega) (by omega)]; omega
    have v1 : valErr kd ln sc n ByteArray.empty = 0 := val_zero ht hk hln.1 (by rw [amt_nn hb.1]; exact hb.2)
    have v2 : valErr kd ln sc (-n) ByteArray.empty = 0 := val_zero ht hk hln.1 (by rw [amt_neg, amt_nn hb.1]; exact hb.2)
    have t1 := f336q (n := n) (s := ByteArray.empty) he (by omega) (by omega)
    have t2 := f336q (n := -n) (s := ByteArray.empty) he (by omega) (by omega)
    simp only [hw]
    have e0 : ∀ {V R : Type} (Step : (V → Option R) → V → Option R) v, iterS Step 1000 v = Step (fun v => Step (fun v => Step (iterS Step 997) v) v) v := fun _ _ => rfl
    unfold f359v1l2
    rw [e0]
    unfold f359v1l2s f359v1p1 f363v0F
    have z2 : ([(n, ByteArray.empty), (-n, ByteArray.empty)].length : Int) = 2 := rfl
    have g0 : [(n, ByteArray.empty), (-n, ByteArray.empty)].getD (Int.toNat 0) (0, ByteArray.empty) = (n, ByteArray.empty) := rfl
    have w1 : IntKind.i64.wrap (0 + 1) = 1 := by decide
    have w2 : IntKind.i64.wrap (1 + 1) = 2 := by decide
    have g1 : [(n, ByteArray.empty), (-n, ByteArray.empty)].getD (Int.toNat 1) (0, ByteArray.empty) = (-n, ByteArray.empty) := rfl
    have d1 : decide ((0 : Int) < 2) = true := by decide
    have d2 : decide ((1 : Int) < 2) = true := by decide
    have d3 : decide ((2 : Int) < 2) = false := by decide
    have d4 : decide ((0 : Int) ≤ 0) = true := by decide
    have d5 : decide ((0 : Int) ≤ 1) = true := by decide
    simp only [z2, g0, g1, w1, w2, d1, d2, d3, d4, d5, f29q, v1, v2, t1, t2, bind_some', Bool.and_self, cond_true, cond_false, beq_self_eq_true, strS]
    by_cases h1 : textL ln sc n code fill = l
    · simp only [h1, decide_true, cond_true, if_true]
    · simp only [h1, decide_false, cond_false, if_false]
      by_cases h2 : textL ln sc (-n) code fill = l
      · simp only [h2, decide_true, cond_true, if_true]
      · simp only [h2, decide_false, cond_false, if_false]

/-- What both read. -/
def rdR (kd ln sc code fill : Int) (l : List UInt8) : (Int × ByteArray) × Int :=
  if edErr kd ln sc code fill ≠ 0 then ((0, ByteArray.empty), edErr kd ln sc code fill) else rdC ln (gotL 0 l) (dgs l).length (fun n => textL ln sc n code fill) l

theorem f331q {kd ln sc code fill : Int} (h0 : 0 ≤ code) (h1 : code ≤ 255) (l : List UInt8) (hl : l.length ≤ 900) : f331F 1000 ((kd, (ln, sc)), S l, (code, fill)) = some (rdR kd ln sc code fill l) := by
  unfold f331F rdR
  simp only [f320q h0 h1, bind_some']
  by_cases he : edErr kd ln sc code fill = 0
  · have he' : ¬ (edErr kd ln sc code fill ≠ 0) := fun c => c he
    simp only [if_neg he']
    rw [bif_false (by rfl)]
    simp only [S_size, ine]
    by_cases hw : (l.length : Int) = ((textL ln sc 0 code fill).length : Int)
    · rw [bif_false (by simpa using hw), f362q l hl, bind_some', f359v1q he l (dgs l) dgs_dig (by have := dgs_len l; omega), bind_some', got_dgs]
    · rw [bif_true (decide_eq_true hw)]
      have hne : ∀ n, ¬ textL ln sc n code fill = l := by
        intro n c
        apply hw
        rw [← c, textL_len ln sc n 0 code fill]
      unfold rdC
      simp only [hne, if_false]
      split <;> rfl
  · simp only [if_pos (show edErr kd ln sc code fill ≠ 0 from he)]
    rw [bif_true (by simpa using he)]

theorem iterS_succ {V R : Type} (Step : (V → Option R) → V → Option R) (k : Nat) (v : V) : iterS Step (k + 1) v = Step (iterS Step k) v := rfl
theorem f364q (l : List UInt8) (hl : l.length ≤ 900) (L : Int) (h0 : 0 ≤ L) (hL : L ≤ 15) : f364F 1000 (S l, L) = some (if ((dgs l).length : Int) > L then (0, false) else (gotL 0 l, true)) := by
  unfold f364F f364l1
  have key : ∀ (d i k : Nat), i + d = l.length → d < k → ((dgs (l.take i)).length : Int) ≤ L →
      iterS (fun rec v => f364l1s 1000 rec (fun (w5 : Int × Bool × Int × Unit) => some (w5.1, w5.2.1)) (fun (w6 : Int × Unit) => some (w6.1, true)) v) k (S l, L, gotL 0 (l.take i), ((dgs (l.take i)).length : Int), (i : Int), ()) = some (if ((dgs l).length : Int) > L then (0, false) else (gotL 0 l, true)) := by
    intro d
    induction d with
    | zero =>
      intro i k hi hk hc
      cases k with
      | zero => omega
      | succ k =>
        have e : l.take i = l := List.take_of_length_le (by omega)
        rw [e] at hc ⊢
        rw [iterS_succ]
        generalize hr : iterS _ k = rec
        unfold f364l1s
        simp only [S_size]
        rw [bif_false (decide_eq_false (by omega)), if_neg (by omega)]
    | succ d ih =>
      intro i k hi hk hc
      cases k with
      | zero => omega
      | succ k =>
        have hil : i < l.length := by omega
        have hsn := dgs_snoc hil
        have hmono := dgs_le (l := l) (i + 1)
        have hb := got_bound (l := l.take i) (L := L.toNat) (by omega)
        have h15 := ten15 (L := L.toNat) (by omega)
        rw [iterS_succ]
        generalize hr : iterS _ k = rec
        unfold f364l1s f364p0
        simp only [S_size, f323q, bind_some', S_bt l i hil]
        rw [bif_true (decide_eq_true (by omega)), bif_true (idx_ok hil)]
        by_cases hd : 48 ≤ (l.getD i 0).toNat ∧ (l.getD i 0).toNat ≤ 57
        · have hD : isD (l.getD i 0) = true := isD_dig.2 hd
          rw [if_pos hD] at hsn
          have hlen : (dgs (l.take (i + 1))).length = (dgs (l.take i)).length + 1 := by rw [hsn]; simp
          rw [bif_true (decide_eq_true (by omega)), wi (x := ((dgs (l.take i)).length : Int) + 1) (by omega) (by omega)]
          by_cases hg : ((dgs (l.take i)).length : Int) + 1 > L
          · rw [bif_true (decide_eq_true hg), if_pos (by omega)]
          · rw [bif_false (decide_eq_false hg), bif_true (idx_ok hil), wu8 (by omega) (by omega), wi (x := ((l.getD i 0).toNat : Int) - 48) (by omega) (by omega), wi (x := 10 * gotL 0 (l.take i)) (by omega) (by omega), wi (x := 10 * gotL 0 (l.take i) + (((l.getD i 0).toNat : Int) - 48)) (by omega) (by omega), wi (x := (i : Int) + 1) (by omega) (by omega)]
            have := ih (i + 1) k (by omega) (by omega) (by omega)
            rw [take_snoc' hil, got_app, got_dig hd, got_nil, ← take_snoc' hil, hlen] at this
            rw [hr] at this
            exact this
        · have hD : ¬ isD (l.getD i 0) = true := fun c => hd (isD_dig.1 c)
          rw [if_neg hD, List.append_nil] at hsn
          rw [bif_false (decide_eq_false (by omega)), wi (x := (i : Int) + 1) (by omega) (by omega)]
          have := ih (i + 1) k (by omega) (by omega) (by rw [hsn]; exact hc)
          rw [take_snoc' hil, got_app, got_no hd, got_nil, ← take_snoc' hil, hsn] at this
          rw [hr] at this
          exact this
  exact key l.length 0 1000 (by omega) (by omega) (by simpa [dgs] using h0)

theorem f332q {kd ln sc code fill : Int} (h0 : 0 ≤ code) (h1 : code ≤ 255) (l : List UInt8) (hl : l.length ≤ 900) : f332F 1000 ((kd, (ln, sc)), S l, (code, fill)) = some (rdR kd ln sc code fill l) := by
  unfold f332F rdR
  simp only [f321q h0 h1, bind_some']
  by_cases he : edErr kd ln sc code fill = 0
  · have he' : ¬ (edErr kd ln sc code fill ≠ 0) := fun c => c he
    obtain ⟨ht, hk, hln, hsc, hf, hc, h78, hY⟩ := ed_ok he
    rw [if_neg he', bif_false (by simpa using he), f364q l hl ln (by omega) (by omega), bind_some']
    unfold rdC f332p0 f332p1
    by_cases c : ((dgs l).length : Int) > ln
    · simp only [if_pos c, cond_false]
    · have hb := got_bound (l := l) (L := ln.toNat) (by omega)
      have h15 := ten15 (L := ln.toNat) (by omega)
      simp only [if_neg c, cond_true]
      generalize gotL 0 l = n at *
      have hw : IntKind.i64.wrap (0 - n) = -n := by rw [wi (by omega) (by omega)]; omega
      have t1 := f337q (n := n) he (by omega) (by omega) (by rw [amt_nn hb.1]; exact hb.2)
      have t2 := f337q (n := -n) he (by omega) (by omega) (by rw [amt_neg, amt_nn hb.1]; exact hb.2)
      simp only [hw, t1, t2, bind_some', strS]
      by_cases h1 : textL ln sc n code fill = l
      · simp only [h1, decide_true, cond_true, if_true]
      · simp only [h1, decide_false, cond_false, if_false]
        by_cases h2 : textL ln sc (-n) code fill = l
        · simp only [h2, decide_true, cond_true, if_true]
        · simp only [h2, decide_false, cond_false, if_false]
  · rw [if_pos (show edErr kd ln sc code fill ≠ 0 from he), bif_true (by simpa using he)]

theorem editReads (x : (Int × (Int × Int)) × ByteArray × (Int × Int)) (hc : 0 ≤ x.2.2.1 ∧ x.2.2.1 ≤ 255) : f311F 1000 x = some true := by
  obtain ⟨⟨kd, ln, sc⟩, s, ⟨code, fill⟩⟩ := x
  obtain ⟨l, rfl⟩ : ∃ l, s = S l := ⟨_, (S_of s).symm⟩
  unfold f311F
  simp only [awake_q, bind_some', Bool.not_true, cond_false, S_size]
  by_cases hl : (l.length : Int) > 100
  · rw [bif_true (decide_eq_true hl)]
  · rw [bif_false (decide_eq_false hl), f331q hc.1 hc.2 l (by omega), f332q hc.1 hc.2 l (by omega)]
    simp only [bind_some', beq_self_eq_true, cond_true, strEq_self, Bool.and_self]
end Go.Proofs.YtecbbmokocnadaaDoor
/-! Plain laws: a value is read from its text by a code. -/
set_option linter.unusedVariables false
set_option linter.unusedSimpArgs false
namespace Go.Proofs.YtecbbmokocnadaaDoor
open Go.Ab

/-! ### How many digits a text has -/
def cN (l : List UInt8) : Nat := l.countP isD
theorem cN_dgs (l : List UInt8) : (dgs l).length = cN l := List.countP_eq_length_filter.symm
theorem cN_app (l m : List UInt8) : cN (l ++ m) = cN l + cN m := List.countP_append
theorem cN_cons (b : UInt8) (l : List UInt8) : cN (b :: l) = cN l + (if isD b = true then 1 else 0) := List.countP_cons
theorem cN_rep {b : UInt8} (h : isD b = false) (n : Nat) : cN (List.replicate n b) = 0 := by
  unfold cN
  rw [List.countP_eq_zero]
  intro x hx
  rw [List.eq_of_mem_replicate hx, h]
  decide
theorem cN_sup {kl : Bool} : ∀ (v : List UInt8), cN (supL kl v) ≤ cN v
  | [] => Nat.le_refl _
  | x :: v => by
    have ih := cN_sup (kl := kl) v
    simp only [supL]
    split
    · exact Nat.le_refl _
    · rw [cN_cons, cN_cons, if_neg (by decide)]
      omega
theorem cN_wV {c first : Bool} (m : List UInt8) : cN (wV c first m) = cN m := countP_wV (by decide) m first
theorem cN_rs (s : List UInt8) : cN (rsL s) = cN s := by
  have h := congrArg cN (bl_rs s)
  rw [cN_app, cN_rep (by decide)] at h
  omega
theorem cN_afl {s : List UInt8} {c : UInt8} (h : isD c = false) : cN (aflL s [c]) ≤ cN s := by
  unfold aflL
  split
  · rw [cN_cons, if_neg (by decide)]
    omega
  · rw [cN_app, cN_app, cN_rep (by decide), cN_cons, h, cN_rs]
    simp [cN]
theorem cN_star (s : List UInt8) : cN (starL s) = cN s := by
  unfold starL
  rw [cN_app, cN_rep (by decide), cN_rs]
  omega
theorem cN_blank1 (l : List UInt8) : cN (blank1 l) ≤ cN l := by
  cases l with
  | nil => exact Nat.le_refl _
  | cons a r =>
    unfold blank1
    rw [cN_cons, cN_cons]
    by_cases h : a = 48
    · rw [if_pos h, if_neg (by decide)]
      omega
    · rw [if_neg h]
      omega
theorem cN_le (l : List UInt8) : cN l ≤ l.length := List.countP_le_length
theorem cN_td (l : List UInt8) (i : Nat) : cN (l.take i) + cN (l.drop i) = cN l := by
  rw [← cN_app, List.take_append_drop]
theorem cN_date (D : List UInt8) : cN (dateL D) ≤ D.length := by
  have h1 := cN_td D 2
  have h2 := cN_td (D.drop 2) 2
  have hl := cN_le D
  unfold dateL
  refine Nat.le_trans (cN_blank1 _) ?_
  split
  · rw [cN_app, cN_app, cN_cons, cN_cons, if_neg (by decide)]
    rw [List.drop_drop, show 2 + 2 = 4 from rfl] at h2
    omega
  · rw [cN_app, cN_cons, if_neg (by decide)]
    omega
theorem cN_num {c : Bool} {cut sc : Nat} (D : List UInt8) : cN (numL c cut sc D) ≤ D.length := by
  have h1 := cN_td D cut
  have hl := cN_le D
  unfold numL
  split
  · have := cN_sup (kl := false) (wV c true (D.take cut))
    rw [cN_wV] at this
    rw [cN_app, cN_cons, if_neg (by decide)]
    omega
  · have := cN_sup (kl := true) (wV c true (D.take cut))
    rw [cN_wV] at this
    omega
theorem cN_tx {n fill sg : Int} {nz : Bool} (s0 : List UInt8) : cN (txL n fill sg nz s0) ≤ cN s0 := by
  unfold txL
  have h1 : cN (if sg = 1 then s0 ++ (if n < 0 then [67, 82] else [32, 32]) else if sg = 2 then s0 ++ (if n < 0 then [45] else [32]) else if sg = 3 then aflL s0 (if n < 0 then [45] else [32]) else s0) ≤ cN s0 := by
    split
    · rw [cN_app]
      split
      · have : cN [67, 82] = 0 := by decide
        omega
      · have : cN [32, 32] = 0 := by decide
        omega
    · split
      · rw [cN_app]
        split
        · have : cN [45] = 0 := by decide
          omega
        · have : cN [32] = 0 := by decide
          omega
      · split
        · split
          · exact cN_afl (by decide)
          · exact cN_afl (by decide)
        · exact Nat.le_refl _
  generalize (if sg = 1 then s0 ++ (if n < 0 then [67, 82] else [32, 32]) else if sg = 2 then s0 ++ (if n < 0 then [45] else [32]) else if sg = 3 then aflL s0 (if n < 0 then [45] else [32]) else s0) = s1 at *
  have h2 : cN (if fill = 2 then aflL s1 [36] else s1) ≤ cN s1 := by
    split
    · exact cN_afl (by decide)
    · exact Nat.le_refl _
  simp only []
  split
  · rw [cN_rep (by decide)]
    omega
  · split
    · rw [cN_star]
      omega
    · omega
theorem cN_text {ln sc n code fill : Int} : cN (textL ln sc n code fill) ≤ ln.toNat := by
  have h : (dgL (amt n) ln.toNat).length = ln.toNat := dgL_length _ _
  unfold textL
  simp only []
  split
  · exact Nat.le_trans (cN_le _) (by omega)
  · split
    · exact Nat.le_trans (cN_date _) (by omega)
    · split
      · exact Nat.le_trans (cN_sup _) (Nat.le_trans (cN_le _) (by omega))
      · exact Nat.le_trans (cN_tx _) (Nat.le_trans (cN_num _) (by omega))

/-! ### The sign is seen -/
theorem mem_rs {b : UInt8} {s : List UInt8} (h : b ∈ rsL s) : b ∈ s := by
  rw [bl_rs s]
  exact List.mem_append_right _ h
theorem rs_of_mem {b : UInt8} {s : List UInt8} (h : b ∈ s) (hb : b ≠ 32) : b ∈ rsL s := by
  rw [bl_rs s] at h
  rcases List.mem_append.1 h with h | h
  · exact absurd (List.eq_of_mem_replicate h) hb
  · exact h
theorem mem_afl {b : UInt8} {s sg : List UInt8} (h : b ∈ aflL s sg) : b = 32 ∨ b ∈ sg ∨ b ∈ s := by
  unfold aflL at h
  split at h
  · rcases List.mem_cons.1 h with rfl | h
    · exact .inl rfl
    · exact .inr (.inr h)
  · rcases List.mem_append.1 h with h | h
    · rcases List.mem_append.1 h with h | h
      · exact .inl (List.eq_of_mem_replicate h)
      · exact .inr (.inl h)
    · exact .inr (.inr (mem_rs h))
theorem afl_of_mem {b : UInt8} {s sg : List UInt8} (h : b ∈ s) (hb : b ≠ 32) : b ∈ aflL s sg := by
  unfold aflL
  split
  · exact List.mem_cons_of_mem _ h
  · exact List.mem_append_right _ (rs_of_mem h hb)
theorem mem_star {b : UInt8} {s : List UInt8} (h : b ∈ starL s) : b = 42 ∨ b ∈ s := by
  unfold starL at h
  rcases List.mem_append.1 h with h | h
  · exact .inl (List.eq_of_mem_replicate h)
  · exact .inr (mem_rs h)
theorem star_of_mem {b : UInt8} {s : List UInt8} (h : b ∈ s) (hb : b ≠ 32) : b ∈ starL s := List.mem_append_right _ (rs_of_mem h hb)
theorem mem_sup {kl : Bool} {b : UInt8} : ∀ {v : List UInt8}, b ∈ supL kl v → b = 32 ∨ b ∈ v
  | [], h => by simp [supL] at h
  | x :: v, h => by
    simp only [supL] at h
    split at h
    · exact .inr h
    · rcases List.mem_cons.1 h with rfl | h
      · exact .inl rfl
      · rcases mem_sup h with h | h
        · exact .inl h
        · exact .inr (List.mem_cons_of_mem _ h)
theorem mem_num {c : Bool} {cut sc : Nat} {D : List UInt8} {b : UInt8} (h : b ∈ numL c cut sc D) : b = 32 ∨ b = 44 ∨ b = 46 ∨ b ∈ D := by
  have hw : ∀ {kl : Bool}, b ∈ supL kl (wV c true (D.take cut)) → b = 32 ∨ b = 44 ∨ b = 46 ∨ b ∈ D := by
    intro kl h
    rcases mem_sup h with h | h
    · exact .inl h
    · rcases mem_wV h with h | h
      · exact .inr (.inl h)
      · exact .inr (.inr (.inr (List.mem_of_mem_take h)))
  unfold numL at h
  split at h
  · rcases List.mem_append.1 h with h | h
    · exact hw h
    · rcases List.mem_cons.1 h with h | h
      · exact .inr (.inr (.inl h))
      · exact .inr (.inr (.inr (List.mem_of_mem_drop h)))
  · exact hw h

/-- The character of a sign. -/
def qS (sg : Int) : UInt8 := if sg = 1 then 67 else 45
theorem tx_has {n fill sg : Int} {nz : Bool} {s0 : List UInt8} (h0 : ∃ b ∈ s0, b ≠ 32) (hn : n < 0) (hs : sg = 1 ∨ sg = 2 ∨ sg = 3) : qS sg ∈ txL n fill sg nz s0 := by
  have hq : qS sg ≠ 32 := by unfold qS; split <;> decide
  obtain ⟨b, hb, hb2⟩ := h0
  unfold txL
  simp only [if_pos hn]
  have h1 : qS sg ∈ (if sg = 1 then s0 ++ [67, 82] else if sg = 2 then s0 ++ [45] else if sg = 3 then aflL s0 [45] else s0) := by
    rcases hs with rfl | rfl | rfl
    · rw [if_pos rfl]; exact List.mem_append_right _ (by decide)
    · rw [if_neg (by decide), if_pos rfl]; exact List.mem_append_right _ (by decide)
    · rw [if_neg (by decide), if_neg (by decide), if_pos rfl]
      unfold aflL
      rw [if_neg (by rw [rs_mem hb hb2]; decide)]
      exact List.mem_append_left _ (List.mem_append_right _ (by decide))
  generalize (if sg = 1 then s0 ++ [67, 82] else if sg = 2 then s0 ++ [45] else if sg = 3 then aflL s0 [45] else s0) = s1 at *
  have h2 : qS sg ∈ (if fill = 2 then aflL s1 [36] else s1) := by
    split
    · exact afl_of_mem h1 hq
    · exact h1
  rw [if_neg (by omega)]
  split
  · exact star_of_mem h2 hq
  · exact h2
theorem tx_not {n fill sg : Int} {nz : Bool} {s0 : List UInt8} (h0 : qS sg ∉ s0) (hn : ¬ n < 0) : qS sg ∉ txL n fill sg nz s0 := by
  have hq : qS sg ≠ 32 ∧ qS sg ≠ 36 ∧ qS sg ≠ 42 := by unfold qS; split <;> decide
  unfold txL
  simp only [if_neg hn]
  have h1 : qS sg ∉ (if sg = 1 then s0 ++ [32, 32] else if sg = 2 then s0 ++ [32] else if sg = 3 then aflL s0 [32] else s0) := by
    split
    · intro h
      rcases List.mem_append.1 h with h | h
      · exact h0 h
      · simp at h
        exact hq.1 h
    · split
      · intro h
        rcases List.mem_append.1 h with h | h
        · exact h0 h
        · simp at h
          exact hq.1 h
      · split
        · intro h
          rcases mem_afl h with h | h | h
          · exact hq.1 h
          · simp at h
            exact hq.1 h
          · exact h0 h
        · exact h0
  generalize (if sg = 1 then s0 ++ [32, 32] else if sg = 2 then s0 ++ [32] else if sg = 3 then aflL s0 [32] else s0) = s1 at *
  have h2 : qS sg ∉ (if fill = 2 then aflL s1 [36] else s1) := by
    split
    · intro h
      rcases mem_afl h with h | h | h
      · exact hq.1 h
      · simp at h
        exact hq.2.1 h
      · exact h1 h
    · exact h1
  split
  · intro h
    exact hq.1 (List.eq_of_mem_replicate h)
  · split
    · intro h
      rcases mem_star h with h | h
      · exact hq.2.2 h
      · exact h2 h
    · exact h2

theorem text_sign {kd ln sc n code fill : Int} (he : edErr kd ln sc code fill = 0) (hn : n < 0) (hs : sgOf code = 1 ∨ sgOf code = 2 ∨ sgOf code = 3) (h88 : ¬ 88 ≤ code) : textL ln sc (-n) code fill ≠ textL ln sc n code fill := by
  obtain ⟨ht, hk, hln, hsc, hf, hc, h78, hY⟩ := ed_ok he
  have hdg : ∀ m : Int, ∀ d ∈ dgL m ln.toNat, dig d := fun m => dgL_dig
  have hlen : ∀ m : Int, (dgL m ln.toNat).length = ln.toNat := fun m => dgL_length _ _
  have hq : ∀ d, dig d → qS (sgOf code) ≠ d := by
    intro d hd e
    rw [← e] at hd
    unfold qS dig at hd
    split at hd
    · exact absurd hd (by decide)
    · exact absurd hd (by decide)
  have hq2 : qS (sgOf code) ≠ 32 ∧ qS (sgOf code) ≠ 44 ∧ qS (sgOf code) ≠ 46 := by unfold qS; split <;> decide
  intro e
  have e1 : qS (sgOf code) ∈ textL ln sc n code fill := by
    unfold textL
    simp only []
    rw [if_neg (by omega), if_neg (by omega), if_neg (by omega)]
    have hnb := numL_nb (c := cmOf code) (L := ln.toNat) (sc := sc.toNat) (hlen (amt n)) (by omega) (hdg _)
    exact tx_has hnb hn hs
  rw [← e] at e1
  revert e1
  unfold textL
  simp only []
  rw [if_neg (by omega), if_neg (by omega), if_neg (by omega)]
  refine tx_not ?_ (by omega)
  intro h
  rcases mem_num h with h | h | h | h
  · exact hq2.1 h
  · exact hq2.2.1 h
  · exact hq2.2.2 h
  · exact hq _ (hdg _ _ h) rfl

theorem editBack (x : (Int × (Int × Int)) × (Int × ByteArray) × (Int × Int)) (hc : 0 ≤ x.2.2.1 ∧ x.2.2.1 ≤ 255) : f312F 1000 x = some true := by
  obtain ⟨⟨kd, ln, sc⟩, ⟨n, s⟩, ⟨code, fill⟩⟩ := x
  unfold f312F
  simp only [awake_q, f314q hc.1 hc.2, bind_some', Bool.not_true, cond_false]
  by_cases hs : (s.size : Int) > 300
  · rw [bif_true (decide_eq_true hs)]
  · rw [bif_false (decide_eq_false hs)]
    by_cases he : edErr kd ln sc code fill = 0
    · have he' : ¬ (edErr kd ln sc code fill ≠ 0) := fun c => c he
      obtain ⟨ht, hk, hln, hsc, hf, hcd, h78, hY⟩ := ed_ok he
      by_cases hv : valErr kd ln sc n s = 0
      · have hv' : ¬ (valErr kd ln sc n s ≠ 0) := fun c => c hv
        obtain ⟨⟨n0, n1⟩, ha⟩ := val_amt hv hk hln
        have hse : s = ByteArray.empty := by
          unfold valErr at hv
          rw [if_neg (fun c => c ht), if_neg (by omega), if_neg (by omega)] at hv
          split at hv
          · exact absurd hv (by decide)
          · rename_i c
            exact strEq_iff.1 (by simpa using c)
        have hc1 : 0 ≤ code ∧ code ≤ 255 := hc
        have hcw : IntKind.i64.wrap code = code := wi (by omega) (by omega)
        simp only [if_neg he', if_neg hv']
        unfold f312p0
        simp only [f48q, bind_some', hcw]
        rw [bif_false (by rfl)]
        have hread : (n < 0 → ¬ (49 ≤ code ∧ code ≤ 52) ∧ ¬ (88 ≤ code ∧ code ≤ 90)) → rdR kd ln sc code fill (textL ln sc n code fill) = ((n, ByteArray.empty), 0) := by
          intro hsg
          have hg := got_text he ha
          have hcn := cN_text (ln := ln) (sc := sc) (n := n) (code := code) (fill := fill)
          unfold rdR rdC
          rw [if_neg he', cN_dgs, if_neg (by omega), hg]
          simp only []
          by_cases hn : n < 0
          · obtain ⟨hs1, hs2⟩ := hsg hn
            have hp : plainC code := by
              rcases hcd with hp | rfl | rfl | rfl
              · exact hp
              · exact absurd (by decide) hs2
              · exact absurd (by decide) hs2
              · exact absurd (by decide) hs2
            have hsg2 : sgOf code = 1 ∨ sgOf code = 2 ∨ sgOf code = 3 := by
              rcases hp with rfl | rfl | rfl | rfl | rfl | rfl | rfl | rfl | rfl | rfl | rfl | rfl | rfl | rfl | rfl | rfl <;> first | decide | exact absurd (by decide) hs1
            have ea : amt n = -n := by unfold amt; rw [if_pos hn]
            have h88 : ¬ 88 ≤ code := by
              rcases hp with rfl | rfl | rfl | rfl | rfl | rfl | rfl | rfl | rfl | rfl | rfl | rfl | rfl | rfl | rfl | rfl <;> decide
            rw [ea, if_neg (text_sign he hn hsg2 h88), Int.neg_neg, if_pos rfl]
          · rw [amt_nn (by omega), if_pos rfl]
        have hend : (n < 0 → ¬ (49 ≤ code ∧ code ≤ 52) ∧ ¬ (88 ≤ code ∧ code ≤ 90)) → Option.bind (f331F 1000 ((kd, (ln, sc)), S (textL ln sc n code fill), (code, fill))) (fun y7 => bif (y7.2 == (0 : Int)) then some ((n == y7.1.1) && ((strEq s y7.1.2) && true)) else some false) = some true := by
          intro hsg
          have hle := textL_le (sc := sc) (n := n) (code := code) (fill := fill) hln.2
          rw [f331q hc.1 hc.2 _ (by omega), hread hsg, bind_some', hse]
          simp only [beq_self_eq_true, cond_true, strEq_self, Bool.and_self]
        by_cases hn : n < 0
        · rw [bif_true (decide_eq_true hn)]
          by_cases h1 : 49 ≤ code ∧ code ≤ 52
          · rw [bif_true (decide_eq_true h1)]
          · rw [bif_false (decide_eq_false h1)]
            by_cases h2 : 88 ≤ code ∧ code ≤ 90
            · rw [bif_true (decide_eq_true h2)]
            · rw [bif_false (decide_eq_false h2)]
              exact hend fun _ => ⟨h1, h2⟩
        · rw [bif_false (decide_eq_false hn)]
          exact hend fun c => absurd c hn
      · simp only [if_neg he', if_pos (show valErr kd ln sc n s ≠ 0 from hv)]
        unfold f312p0
        rw [bif_true (by simpa using hv)]
    · simp only [if_pos (show edErr kd ln sc code fill ≠ 0 from he)]
      unfold f312p0
      rw [bif_true (by simpa using he)]
end Go.Proofs.YtecbbmokocnadaaDoor
