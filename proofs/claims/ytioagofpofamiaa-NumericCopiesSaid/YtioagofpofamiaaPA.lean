/- Plain laws: loops, wrapping, digits. -/
import Derived.Test.YtioagofpofamiaaAB
import Derived.Laws.Strings
import Derived.Test.YtioagofpofamiaaFaJ
/-! Plain laws: loops, wrapping, digits. -/
set_option linter.unusedVariables false
set_option linter.unusedSimpArgs false
namespace Go.Ab

theorem wi {x : Int} (h0 : -9223372036854775808 ≤ x) (h1 : x ≤ 9223372036854775807) : IntKind.i64.wrap x = x := by
  rw [IntKind.wrap_i64]; omega
theorem wu8e (x : Int) : IntKind.u8.wrap x = x % 256 := by
  simp [IntKind.wrap, IntKind.signed, IntKind.bits]
theorem wu8 {x : Int} (h0 : 0 ≤ x) (h1 : x ≤ 255) : IntKind.u8.wrap x = x := by
  rw [wu8e]; omega

theorem bind_some' {α β : Type} (a : α) (f : α → Option β) : Option.bind (some a) f = f a := rfl
theorem bif_true {α : Type} {c : Bool} (h : c = true) (a b : α) : (bif c then a else b) = a := by rw [h]; rfl
theorem bif_false {α : Type} {c : Bool} (h : c = false) (a b : α) : (bif c then a else b) = b := by rw [h]; rfl
theorem strEq_self (x : ByteArray) : strEq x x = true := by simp [strEq]
theorem strEq_iff {x y : ByteArray} : strEq x y = true ↔ x = y := by
  constructor
  · intro h
    simp only [strEq, beq_iff_eq] at h
    have h2 : x.data.toList = y.data.toList := by
      have e : ∀ z : ByteArray, z.toList = z.data.toList := fun z => ByteArray.toList_eq z
      rw [← e, ← e, h]
    cases x; cases y
    simp only at h2
    congr
    exact Array.ext' h2
  · rintro rfl
    exact strEq_self x

/-- A loop whose states are told. -/
theorem iter_for {V R : Type} {Step : (V → Option R) → V → Option R} (st : Nat → V) (n : Nat) {fin : Option R} (hstep : ∀ rec i, i < n → Step rec (st i) = rec (st (i + 1))) (hend : ∀ rec, Step rec (st n) = fin) :
    ∀ {k : Nat}, n < k → iterS Step k (st 0) = fin := by
  have : ∀ (d i k : Nat), i + d = n → d < k → iterS Step k (st i) = fin := by
    intro d
    induction d with
    | zero =>
      intro i k hi hk
      cases k with
      | zero => omega
      | succ k =>
        have : i = n := by omega
        subst this
        exact hend _
    | succ d ih =>
      intro i k hi hk
      cases k with
      | zero => omega
      | succ k =>
        show Step (iterS Step k) (st i) = fin
        rw [hstep _ i (by omega)]
        exact ih (i + 1) k (by omega) (by omega)
  intro k hk
  exact this n 0 k (by omega) hk

/-- The lowest digits of a number, the highest of them first. -/
def low (b n : Int) : Nat → List Int
  | 0 => []
  | i + 1 => (n / b ^ i % b) :: low b n i
theorem low_length (b n : Int) : ∀ i, (low b n i).length = i
  | 0 => rfl
  | i + 1 => by simp [low, low_length b n i]
theorem low_mem {b n : Int} (hb : 0 < b) : ∀ {i : Nat} {d : Int}, d ∈ low b n i → 0 ≤ d ∧ d < b
  | 0, _, h => by simp [low] at h
  | i + 1, d, h => by
    simp only [low, List.mem_cons] at h
    rcases h with rfl | h
    · exact ⟨Int.emod_nonneg _ (by omega), Int.emod_lt_of_pos _ hb⟩
    · exact low_mem hb h
theorem set_zeros {L i : Nat} (hi : i < L) (l : List Int) (d : Int) : (List.replicate (L - i) 0 ++ l).set (L - 1 - i) d = List.replicate (L - (i + 1)) 0 ++ d :: l := by
  have e : L - i = (L - 1 - i) + 1 := by omega
  rw [e, List.replicate_succ', List.append_assoc, List.set_append_right _ _ (by simp)]
  simp only [List.length_replicate, Nat.sub_self, List.cons_append, List.nil_append, List.set_cons_zero]
  rw [show L - (i + 1) = L - 1 - i by omega]

theorem getD_take_map (g : Int → Int) (l : List Int) (i : Nat) : ((l.take i).map g ++ l.drop i).getD i 0 = l.getD i 0 := by
  by_cases h : i < l.length
  · rw [List.getD_eq_getElem?_getD, List.getElem?_append_right (by simp; omega)]
    simp [List.length_take, Nat.min_eq_left (Nat.le_of_lt h), List.getD_eq_getElem?_getD]
  · rw [List.getD_eq_getElem?_getD, List.getD_eq_getElem?_getD, List.getElem?_eq_none (by simp; omega), List.getElem?_eq_none (by omega)]
theorem set_take_map (g : Int → Int) {l : List Int} {i : Nat} (h : i < l.length) : ((l.take i).map g ++ l.drop i).set i (g (l.getD i 0)) = (l.take (i + 1)).map g ++ l.drop (i + 1) := by
  rw [List.set_append_right _ _ (by simp; omega)]
  have e : i - ((l.take i).map g).length = 0 := by simp; omega
  rw [e, List.drop_eq_getElem_cons h, List.set_cons_zero, List.take_succ_eq_append_getElem h, List.map_append, List.append_assoc]
  simp [List.getD_eq_getElem?_getD, List.getElem?_eq_getElem h]
theorem set_take_zero (g : Nat → Int) {n i : Nat} (h : i < n) : (((List.range i).map g) ++ List.replicate (n - i) 0).set i (g i) = ((List.range (i + 1)).map g) ++ List.replicate (n - (i + 1)) 0 := by
  rw [List.set_append_right _ _ (by simp)]
  have e : i - ((List.range i).map g).length = 0 := by simp
  rw [e, show n - i = (n - (i + 1)) + 1 by omega, List.replicate_succ, List.set_cons_zero, List.range_succ, List.map_append, List.append_assoc]
  rfl
theorem map_getD_range (g : Int → Int) (l : List Int) : (List.range l.length).map (fun i => g (l.getD i 0)) = l.map g := by
  apply List.ext_getElem
  · simp
  · intro i h1 h2
    simp at h1
    simp [List.getD_eq_getElem?_getD, List.getElem?_eq_getElem h1]
end Go.Ab
/-! Plain laws: types and values checked. -/
set_option linter.unusedVariables false
set_option linter.unusedSimpArgs false
namespace Go.Proofs.Ytioagofpofamiaa
open Go.Ab

theorem f70q (k : Nat) (n lo hi : Int) : f70F k (n, lo, hi) = some (decide (lo ≤ n ∧ n ≤ hi)) := by
  unfold f70F
  by_cases h : lo ≤ n <;> simp [h]
theorem f48q (k : Nat) (n lo hi : Int) : f48F k (n, lo, hi) = some (decide (lo ≤ n ∧ n ≤ hi)) := by
  unfold f48F
  by_cases h : lo ≤ n <;> simp [h]
theorem f43q (k : Nat) (b : Bool) (e : Int) : f43F k (b, e) = some (if b = true then e else 0) := by
  unfold f43F
  cases b <;> rfl
theorem f69q (k : Nat) (b : Bool) : f69F k b = some (if b = true then 1 else 0) := by
  unfold f69F
  cases b <;> rfl
theorem f68q (k : Nat) (n : Int) : f68F k n = some (decide (1 ≤ n ∧ n ≤ 3)) := by
  unfold f68F
  rw [f48q]
  rfl
theorem f42l0_step {R : Type} (k : Nat) (rec : List Int × Int × Int × Unit → Option R) (k0 : Int × Unit → Option R) (k1 : Unit → Option R) (l : List Int) (i : Nat) (hl : l.length < 1000) (hi : i < l.length) :
    f42l0s k rec k0 k1 (l, (l.length : Int), (i : Int), ()) = if l.getD i 0 = 0 then rec (l, (l.length : Int), ((i + 1 : Nat) : Int), ()) else k0 (l.getD i 0, ()) := by
  unfold f42l0s
  have h1 : (i : Int) < (l.length : Int) := by omega
  simp only [h1, decide_true, cond_true, Int.natCast_nonneg, Bool.and_self, Int.toNat_natCast, wi (x := (i : Int) + 1) (by omega) (by omega)]
  by_cases h : l.getD i 0 = 0
  · rw [if_pos h, h]; rfl
  · rw [if_neg h]
    have : (l.getD i 0 != 0) = true := by simpa using h
    rw [this]
    rfl
theorem f42q (a b : Int) : f42F 1000 [a, b] = some (if a = 0 then b else a) := by
  have e0 : ∀ {R : Type} (Step : (List Int × Int × Int × Unit → Option R) → List Int × Int × Int × Unit → Option R) v, iterS Step 1000 v = Step (fun v => Step (fun v => Step (iterS Step 997) v) v) v := fun _ _ => rfl
  unfold f42F f42l0
  rw [e0]
  have s0 := fun rec k0 k1 => f42l0_step (R := Int) 1000 rec k0 k1 [a, b] 0 (by simp) (by simp)
  have s1 := fun rec k0 k1 => f42l0_step (R := Int) 1000 rec k0 k1 [a, b] 1 (by simp) (by simp)
  have s2 : ∀ rec k0 k1, f42l0s (R := Int) 1000 rec k0 k1 ([a, b], (([a, b].length : Nat) : Int), ((2 : Nat) : Int), ()) = k1 () := fun _ _ _ => rfl
  have z0 : ((0 : Nat) : Int) = 0 := rfl
  rw [z0] at s0
  rw [s0]
  simp only [Nat.zero_add, s1, Nat.reduceAdd, s2]
  by_cases ha : a = 0 <;> by_cases hb : b = 0 <;> simp [ha, hb]

/-- The error of a type. -/
def tyErr (kd ln sc : Int) : Int :=
  if ¬ (0 ≤ kd ∧ kd ≤ 4) then 4
  else if ¬ (if kd = 0 then 1 ≤ ln ∧ ln ≤ 256 else if kd = 1 ∨ kd = 2 then 1 ≤ ln ∧ ln ≤ 15 else if kd = 3 then ln = 4 ∨ ln = 9 else ln = 0) then 18
  else if ¬ (0 ≤ sc ∧ sc ≤ (if kd = 0 ∨ kd = 4 then 0 else ln)) then 3
  else 0

theorem f28q (kd ln sc : Int) : f28F 1000 (kd, ln, sc) = some (tyErr kd ln sc) := by
  unfold f28F f28p1 f28p0 tyErr
  simp only [f70q, f43q, f42q, bind_some']
  by_cases h0 : kd = 0
  · subst h0
    simp [cond_eq_ite]
    repeat' split
    all_goals first | rfl | omega
  by_cases h1 : kd = 1
  · subst h1
    simp [cond_eq_ite]
    repeat' split
    all_goals first | rfl | omega
  by_cases h2 : kd = 2
  · subst h2
    simp [cond_eq_ite]
    repeat' split
    all_goals first | rfl | omega
  by_cases h3 : kd = 3
  · subst h3
    simp [cond_eq_ite]
    repeat' split
    all_goals first | rfl | omega
  by_cases h4 : kd = 4
  · subst h4
    simp [cond_eq_ite]
    repeat' split
    all_goals first | rfl | omega
  · have : ¬ (0 ≤ kd ∧ kd ≤ 4) := by omega
    simp [cond_eq_ite, h0, h1, h2, h3, h4, this]

theorem f27q (kd ln sc : Int) : f27F 1000 (kd, ln, sc) = some (tyErr kd ln sc) := by
  unfold f27F f27p1 f27p0 f27p2 tyErr
  simp only [f48q, f68q, f69q, bind_some']
  have w0 : IntKind.i64.wrap (3 * 0) = 0 := rfl
  have w1 : IntKind.i64.wrap (3 * 1) = 3 := rfl
  by_cases h0 : kd = 0
  · subst h0
    simp [cond_eq_ite]
    repeat' split
    all_goals first | rfl | omega
  by_cases h1 : kd = 1
  · subst h1
    simp [cond_eq_ite]
    repeat' split
    all_goals first | rfl | omega
  by_cases h2 : kd = 2
  · subst h2
    simp [cond_eq_ite]
    repeat' split
    all_goals first | rfl | omega
  by_cases h3 : kd = 3
  · subst h3
    simp [cond_eq_ite]
    repeat' split
    all_goals first | rfl | omega
  by_cases h4 : kd = 4
  · subst h4
    simp [cond_eq_ite]
    repeat' split
    all_goals first | rfl | omega
  · have : ¬ (0 ≤ kd ∧ kd ≤ 4) := by omega
    simp [cond_eq_ite, h0, h1, h2, h3, h4, this]
end Go.Proofs.Ytioagofpofamiaa
/-! Plain laws: values checked. -/
set_option linter.unusedVariables false
set_option linter.unusedSimpArgs false
namespace Go.Proofs.Ytioagofpofamiaa
open Go.Ab

def pw (n : Int) : Int := 10 ^ n.toNat
theorem upto15 {n : Int} (h0 : 1 ≤ n) (h1 : n ≤ 15) : n = 1 ∨ n = 2 ∨ n = 3 ∨ n = 4 ∨ n = 5 ∨ n = 6 ∨ n = 7 ∨ n = 8 ∨ n = 9 ∨ n = 10 ∨ n = 11 ∨ n = 12 ∨ n = 13 ∨ n = 14 ∨ n = 15 := by omega
theorem pw_bound {n : Int} (h0 : 1 ≤ n) (h1 : n ≤ 15) : 10 ≤ pw n ∧ pw n ≤ 1000000000000000 := by
  rcases upto15 h0 h1 with rfl | rfl | rfl | rfl | rfl | rfl | rfl | rfl | rfl | rfl | rfl | rfl | rfl | rfl | rfl <;> decide
theorem f71q {n : Int} (h0 : 1 ≤ n) (h1 : n ≤ 15) : f71F 1000 n = some (pw n) := by
  rcases upto15 h0 h1 with rfl | rfl | rfl | rfl | rfl | rfl | rfl | rfl | rfl | rfl | rfl | rfl | rfl | rfl | rfl <;> kernel_rfl
theorem f81q {n : Int} (h0 : 1 ≤ n) (h1 : n ≤ 15) : f81F 1000 n = some (pw n) := by
  rcases upto15 h0 h1 with rfl | rfl | rfl | rfl | rfl | rfl | rfl | rfl | rfl | rfl | rfl | rfl | rfl | rfl | rfl <;> kernel_rfl
theorem f49q {kd n sc : Int} (h0 : 1 ≤ n) (h1 : n ≤ 15) : f49F 1000 (kd, n, sc) = some (pw n - 1) := by
  unfold f49F
  rw [f81q h0 h1]
  have := pw_bound h0 h1
  show some (IntKind.i64.wrap (pw n - 1)) = _
  rw [wi (by omega) (by omega)]

/-- The error of a value. -/
def valErr (kd ln sc n : Int) (s : ByteArray) : Int :=
  if tyErr kd ln sc ≠ 0 then tyErr kd ln sc
  else if kd = 4 then 17
  else if kd = 0 then (if n ≠ 0 then 5 else if (s.size : Int) ≠ ln then 18 else 0)
  else if strEq s ByteArray.empty = false then 5
  else if ¬ (-(pw ln - 1) ≤ n ∧ n ≤ pw ln - 1) then 19
  else 0

theorem ty_ok {kd ln sc : Int} (h : tyErr kd ln sc = 0) : 0 ≤ kd ∧ kd ≤ 4 ∧ (kd = 0 → 1 ≤ ln ∧ ln ≤ 256) ∧ (1 ≤ kd ∧ kd ≤ 3 → 1 ≤ ln ∧ ln ≤ 15) ∧ (kd = 3 → ln = 4 ∨ ln = 9) ∧ (kd = 4 → ln = 0) ∧ 0 ≤ sc ∧ (kd = 0 ∨ kd = 4 → sc = 0) ∧ (1 ≤ kd ∧ kd ≤ 3 → sc ≤ ln) := by
  unfold tyErr at h
  repeat' split at h
  all_goals omega

theorem f29q (kd ln sc n : Int) (s : ByteArray) : f29F 1000 ((kd, ln, sc), n, s) = some (valErr kd ln sc n s) := by
  unfold f29F valErr
  simp only [f28q, f43q, f42q, bind_some']
  by_cases ht : tyErr kd ln sc = 0
  · obtain ⟨a1, a2, a3, a4, a5, a6, a7, a8, a9⟩ := ty_ok ht
    rw [ht]
    by_cases h4 : kd = 4
    · subst h4
      simp [cond_eq_ite]
    by_cases h0 : kd = 0
    · subst h0
      simp [cond_eq_ite]
      repeat' split
      all_goals first | rfl | omega
    · have hl := a4 (by omega)
      have hb := pw_bound hl.1 hl.2
      rw [f71q hl.1 hl.2]
      simp only [bind_some', f70q]
      rw [wi (x := pw ln - 1) (by omega) (by omega), wi (x := 0 - (pw ln - 1)) (by omega) (by omega)]
      simp [cond_eq_ite, h4, h0]
      cases strEq s ByteArray.empty
      · simp
      · simp
        repeat' split
        all_goals first | rfl | omega
  · have hn : (tyErr kd ln sc != 0) = true := by simpa using ht
    simp [ht, cond_eq_ite]

theorem f30q (kd ln sc n : Int) (s : ByteArray) : f30F 1000 ((kd, ln, sc), n, s) = some (valErr kd ln sc n s) := by
  unfold f30F f30p0 valErr
  simp only [f27q, f69q, bind_some']
  by_cases ht : tyErr kd ln sc = 0
  · obtain ⟨a1, a2, a3, a4, a5, a6, a7, a8, a9⟩ := ty_ok ht
    rw [ht]
    have w0 : IntKind.i64.wrap (18 * 0) = 0 := rfl
    have w1 : IntKind.i64.wrap (18 * 1) = 18 := rfl
    have w2 : IntKind.i64.wrap (19 * 0) = 0 := rfl
    have w3 : IntKind.i64.wrap (19 * 1) = 19 := rfl
    by_cases h4 : kd = 4
    · subst h4
      simp [cond_eq_ite]
    by_cases h0 : kd = 0
    · subst h0
      simp [cond_eq_ite]
      repeat' split
      all_goals first | rfl | omega
    · have hl := a4 (by omega)
      have hb := pw_bound hl.1 hl.2
      rw [f49q hl.1 hl.2]
      simp only [bind_some', f48q]
      rw [wi (x := 0 - (pw ln - 1)) (by omega) (by omega)]
      simp [cond_eq_ite, h4, h0]
      cases strEq s ByteArray.empty
      · simp
      · simp
        repeat' split
        all_goals first | rfl | omega
  · simp [ht, cond_eq_ite]
end Go.Proofs.Ytioagofpofamiaa
/-! Plain laws: digits. -/
set_option linter.unusedVariables false
set_option linter.unusedSimpArgs false
namespace Go.Proofs.Ytioagofpofamiaa
open Go.Ab

theorem div_pow {b n : Int} (hb : 0 < b) (i : Nat) : n / b ^ i / b = n / b ^ (i + 1) := by
  rw [Int.pow_succ, Int.ediv_ediv_of_nonneg (Int.le_of_lt (Int.pow_pos hb))]
theorem div_le {b n : Int} (hb : 0 < b) (hn : 0 ≤ n) (i : Nat) : 0 ≤ n / b ^ i ∧ n / b ^ i ≤ n :=
  ⟨Int.ediv_nonneg hn (Int.le_of_lt (Int.pow_pos hb)), Int.ediv_le_self _ hn⟩

theorem f75q {n : Int} {L : Nat} (h0 : 0 ≤ n) (h1 : n ≤ 9223372036854775807) (hL : L ≤ 900) : f75F 1000 (n, (L : Int)) = some (low 10 n L) := by
  unfold f75F
  have c1 : (((decide ((0 : Int) ≤ (L : Int))) && (decide (((L : Int) * 1) ≤ (140737488355328 : Int)))) && (decide ((L : Int) ≤ (281474976710656 : Int)))) = true := by
    simp; omega
  simp only [c1, cond_true]
  unfold f75l0
  have key := iter_for (R := List Int) (Step := fun rec v => f75l0s 1000 rec (fun w => some w.1) v) (fun i => (n / 10 ^ i, (L : Int) - 1 - i, List.replicate (L - i) 0 ++ low 10 n i, ())) L (fin := some (low 10 n L)) ?_ ?_ (k := 1000) (by omega)
  · simp only [Int.toNat_natCast, wi (x := (L : Int) - 1) (by omega) (by omega)]
    simpa [low] using key
  · intro rec i hi
    obtain ⟨d0, d1⟩ := div_le (b := 10) (by decide) h0 i
    unfold f75l0s
    have e1 : (decide ((L : Int) - 1 - i ≥ 0)) = true := by simp; omega
    have e0 : (decide ((0 : Int) ≤ (L : Int) - 1 - i)) = true := by simp; omega
    have e2 : (decide ((L : Int) - 1 - i < ((List.replicate (L - i) (0 : Int) ++ low 10 n i).length : Int))) = true := by
      simp [low_length]; omega
    have e3 : ((L : Int) - 1 - i).toNat = L - 1 - i := by omega
    simp only [e1, e0, e2, e3, Bool.and_self, cond_true]
    rw [Int.tmod_eq_emod_of_nonneg d0, Int.tdiv_eq_ediv_of_nonneg d0, div_pow (by decide), wu8 (by omega) (by omega), set_zeros hi]
    obtain ⟨d2, d3⟩ := div_le (b := 10) (by decide) h0 (i + 1)
    rw [wi (x := n / 10 ^ (i + 1)) (by omega) (by omega), wi (x := (L : Int) - 1 - i - 1) (by omega) (by omega), show (L : Int) - 1 - i - 1 = (L : Int) - 1 - ((i + 1 : Nat) : Int) by omega]
    rfl
  · intro rec
    unfold f75l0s
    have e1 : (decide ((L : Int) - 1 - L ≥ 0)) = false := by simp; omega
    simp only [e1, cond_false, Nat.sub_self, List.replicate_zero, List.nil_append]

theorem f78q {n : Int} {L : Nat} (h0 : 0 ≤ n) (h1 : n ≤ 9223372036854775807) (hL : L ≤ 900) : f78F 1000 (n, (L : Int)) = some (low 10 n L) := by
  unfold f78F
  have c1 : (((decide ((0 : Int) ≤ (L : Int))) && (decide (((L : Int) * 8) ≤ (140737488355328 : Int)))) && (decide ((L : Int) ≤ (281474976710656 : Int)))) = true := by
    simp; omega
  simp only [c1, cond_true]
  unfold f78l0
  have key := iter_for (R := List Int) (Step := fun rec v => f78l0s 1000 rec (fun w => some w.1) v) (fun i => (n / 10 ^ i, (L : Int) - 1 - i, List.replicate (L - i) 0 ++ low 10 n i, ())) L (fin := some (low 10 n L)) ?_ ?_ (k := 1000) (by omega)
  · simp only [Int.toNat_natCast, wi (x := (L : Int) - 1) (by omega) (by omega)]
    simpa [low] using key
  · intro rec i hi
    obtain ⟨d0, d1⟩ := div_le (b := 10) (by decide) h0 i
    unfold f78l0s
    have e1 : (decide ((L : Int) - 1 - i ≥ 0)) = true := by simp; omega
    have e0 : (decide ((0 : Int) ≤ (L : Int) - 1 - i)) = true := by simp; omega
    have e2 : (decide ((L : Int) - 1 - i < ((List.replicate (L - i) (0 : Int) ++ low 10 n i).length : Int))) = true := by
      simp [low_length]; omega
    have e3 : ((L : Int) - 1 - i).toNat = L - 1 - i := by omega
    simp only [e1, e0, e2, e3, Bool.and_self, cond_true]
    rw [Int.tmod_eq_emod_of_nonneg d0, Int.tdiv_eq_ediv_of_nonneg d0, div_pow (by decide), set_zeros hi]
    obtain ⟨d2, d3⟩ := div_le (b := 10) (by decide) h0 (i + 1)
    rw [wi (x := n / 10 ^ (i + 1)) (by omega) (by omega), wi (x := (L : Int) - 1 - i - 1) (by omega) (by omega), show (L : Int) - 1 - i - 1 = (L : Int) - 1 - ((i + 1 : Nat) : Int) by omega]
    rfl
  · intro rec
    unfold f78l0s
    have e1 : (decide ((L : Int) - 1 - L ≥ 0)) = false := by simp; omega
    simp only [e1, cond_false, Nat.sub_self, List.replicate_zero, List.nil_append]

/-- The highest byte first: as the code of numeric writes it. -/
theorem f40l4q {n : Int} {L : Nat} {R : Type} (k0 : List Int × Unit → Option R) (h0 : -9223372036854775808 ≤ n) (h1 : n ≤ 9223372036854775807) (hL : L ≤ 900) :
    f40l4 1000 k0 ((L : Int) - 1, n, List.replicate L 0, ()) = k0 (low 256 n L, ()) := by
  unfold f40l4
  have key := iter_for (R := R) (Step := fun rec v => f40l4s 1000 rec k0 v) (fun i => ((L : Int) - 1 - i, n / 256 ^ i, List.replicate (L - i) 0 ++ low 256 n i, ())) L (fin := k0 (low 256 n L, ())) ?_ ?_ (k := 1000) (by omega)
  · simpa [low] using key
  · intro rec i hi
    unfold f40l4s
    have e1 : (decide ((L : Int) - 1 - i ≥ 0)) = true := by simp; omega
    have e0 : (decide ((0 : Int) ≤ (L : Int) - 1 - i)) = true := by simp; omega
    have e2 : (decide ((L : Int) - 1 - i < ((List.replicate (L - i) (0 : Int) ++ low 256 n i).length : Int))) = true := by
      simp [low_length]; omega
    have e3 : ((L : Int) - 1 - i).toNat = L - 1 - i := by omega
    simp only [e1, e0, e2, e3, Bool.and_self, cond_true]
    rw [wu8e, set_zeros hi, wi (x := (L : Int) - 1 - i - 1) (by omega) (by omega)]
    have e4 : shrI .i64 (n / 256 ^ i) 8 = n / 256 ^ (i + 1) := by
      unfold shrI
      rw [show min (8 : Int).toNat IntKind.i64.bits = 8 from rfl, Int.fdiv_eq_ediv_of_nonneg _ (by decide), show (2 : Int) ^ 8 = 256 from rfl]
      exact div_pow (by decide) i
    rw [e4, show (L : Int) - 1 - i - 1 = (L : Int) - 1 - ((i + 1 : Nat) : Int) by omega]
    rfl
  · intro rec
    unfold f40l4s
    have e1 : (decide ((L : Int) - 1 - L ≥ 0)) = false := by simp; omega
    simp only [e1, cond_false, Nat.sub_self, List.replicate_zero, List.nil_append]

theorem f77q {n : Int} {L : Nat} (h0 : 0 ≤ n) (h1 : n ≤ 9223372036854775807) (hL : L ≤ 900) : f77F 1000 (n, (L : Int)) = some (strOfNums (low 256 n L)) := by
  unfold f77F
  have c1 : (((decide ((0 : Int) ≤ (L : Int))) && (decide (((L : Int) * 1) ≤ (140737488355328 : Int)))) && (decide ((L : Int) ≤ (281474976710656 : Int)))) = true := by
    simp; omega
  simp only [c1, cond_true]
  unfold f77l0
  have key := iter_for (R := ByteArray) (Step := fun rec v => f77l0s 1000 rec (fun w => some (strOfNums w.1)) v) (fun i => (n / 256 ^ i, (L : Int), (i : Int), List.replicate (L - i) 0 ++ low 256 n i, ())) L (fin := some (strOfNums (low 256 n L))) ?_ ?_ (k := 1000) (by omega)
  · simp only [Int.toNat_natCast]
    simpa [low] using key
  · intro rec i hi
    obtain ⟨d0, d1⟩ := div_le (b := 256) (by decide) h0 i
    unfold f77l0s
    have e1 : (decide ((i : Int) < (L : Int))) = true := by simp; omega
    simp only [e1, cond_true]
    rw [wi (x := (L : Int) - 1) (by omega) (by omega), wi (x := (L : Int) - 1 - i) (by omega) (by omega)]
    have e0 : (decide ((0 : Int) ≤ (L : Int) - 1 - i)) = true := by simp; omega
    have e2 : (decide ((L : Int) - 1 - i < ((List.replicate (L - i) (0 : Int) ++ low 256 n i).length : Int))) = true := by
      simp [low_length]; omega
    have e3 : ((L : Int) - 1 - i).toNat = L - 1 - i := by omega
    simp only [e0, e2, e3, Bool.and_self, cond_true]
    rw [Int.tmod_eq_emod_of_nonneg d0, Int.tdiv_eq_ediv_of_nonneg d0, div_pow (by decide), wu8 (by omega) (by omega), set_zeros hi]
    obtain ⟨d2, d3⟩ := div_le (b := 256) (by decide) h0 (i + 1)
    rw [wi (x := n / 256 ^ (i + 1)) (by omega) (by omega), wi (x := (i : Int) + 1) (by omega) (by omega)]
    rfl
  · intro rec
    unfold f77l0s
    have e1 : (decide ((L : Int) < (L : Int))) = false := by simp
    simp only [e1, cond_false, Nat.sub_self, List.replicate_zero, List.nil_append]
end Go.Proofs.Ytioagofpofamiaa
/-! Plain laws: the bytes of values. -/
set_option linter.unusedVariables false
set_option linter.unusedSimpArgs false
namespace Go.Proofs.Ytioagofpofamiaa
open Go.Ab

theorem mx_abs {n : Int} (h0 : -1000000000000000 ≤ n) (h1 : n ≤ 1000000000000000) : mxI n (IntKind.i64.wrap (0 - n)) = if n < 0 then -n else n := by
  rw [wi (by omega) (by omega)]
  unfold mxI
  split <;> split <;> omega

def z240 (d : Int) : Int := IntKind.u8.wrap (d + 240)

theorem f40l0q {R : Type} (k0 : Int × ByteArray × List Int × Unit → Option R) (n : Int) (s : ByteArray) (y : List Int) (hy : y.length ≤ 900) :
    f40l0 1000 k0 ((y.length : Int), 0, n, s, y, ()) = k0 (n, s, y.map z240, ()) := by
  unfold f40l0
  have key := iter_for (R := R) (Step := fun rec v => f40l0s 1000 rec k0 v) (fun i => ((y.length : Int), (i : Int), n, s, (y.take i).map z240 ++ y.drop i, ())) y.length (fin := k0 (n, s, y.map z240, ())) ?_ ?_ (k := 1000) (by omega)
  · simpa using key
  · intro rec i hi
    unfold f40l0s
    have e1 : (decide ((i : Int) < (y.length : Int))) = true := by simp; omega
    have e0 : (decide ((0 : Int) ≤ (i : Int))) = true := by simp
    have e2 : (decide ((i : Int) < (((y.take i).map z240 ++ y.drop i).length : Int))) = true := by simp; omega
    simp only [e1, e0, e2, Bool.and_self, cond_true, Int.toNat_natCast, getD_take_map]
    rw [wi (x := (i : Int) + 1) (by omega) (by omega)]
    have := set_take_map z240 hi
    unfold z240 at this ⊢
    rw [this]
    rfl
  · intro rec
    unfold f40l0s
    have e1 : (decide ((y.length : Int) < (y.length : Int))) = false := by simp
    simp only [e1, cond_false, List.take_length, List.drop_length, List.append_nil]

def r240 (d : Int) : Int := IntKind.u8.wrap (IntKind.i64.wrap (240 + d))
theorem f41l1q {R : Type} (k0 : Int × Int × Int × Int × ByteArray × List Int × List Int × Unit → Option R) (kd sc n : Int) (s : ByteArray) (y : List Int) (hy : y.length ≤ 900) :
    f41l1 1000 k0 (0, kd, (y.length : Int), sc, n, s, y, List.replicate y.length 0, ()) = k0 (kd, (y.length : Int), sc, n, s, y, y.map r240, ()) := by
  unfold f41l1
  have key := iter_for (R := R) (Step := fun rec v => f41l1s 1000 rec k0 v) (fun i => ((i : Int), kd, (y.length : Int), sc, n, s, y, (List.range i).map (fun j => r240 (y.getD j 0)) ++ List.replicate (y.length - i) 0, ())) y.length (fin := k0 (kd, (y.length : Int), sc, n, s, y, y.map r240, ())) ?_ ?_ (k := 1000) (by omega)
  · simpa using key
  · intro rec i hi
    unfold f41l1s
    have e1 : (decide ((i : Int) < (y.length : Int))) = true := by simp; omega
    have e0 : (decide ((0 : Int) ≤ (i : Int))) = true := by simp
    have e2 : (decide ((i : Int) < (((List.range i).map (fun j => r240 (y.getD j 0)) ++ List.replicate (y.length - i) (0 : Int)).length : Int))) = true := by simp; omega
    simp only [e1, e0, e2, Bool.and_self, cond_true, Int.toNat_natCast]
    rw [wi (x := (i : Int) + 1) (by omega) (by omega)]
    have := set_take_zero (fun j => r240 (y.getD j 0)) hi
    unfold r240 at this ⊢
    rw [this]
    rfl
  · intro rec
    unfold f41l1s
    have e1 : (decide ((y.length : Int) < (y.length : Int))) = false := by simp
    simp only [e1, cond_false, Nat.sub_self, List.replicate_zero, List.append_nil, map_getD_range]

theorem nib : ∀ a b : Fin 16, bits .or .u8 (shlI .u8 (a.val : Int) 4) (b.val : Int) = 16 * a.val + b.val := by decide +kernel
theorem nib' {a b : Int} (a0 : 0 ≤ a) (a1 : a ≤ 15) (b0 : 0 ≤ b) (b1 : b ≤ 15) : bits .or .u8 (shlI .u8 a 4) b = 16 * a + b := by
  have := nib ⟨a.toNat, by omega⟩ ⟨b.toNat, by omega⟩
  simp only at this
  rwa [show ((a.toNat : Nat) : Int) = a by omega, show ((b.toNat : Nat) : Int) = b by omega] at this

def pair16 (l : List Int) (j : Nat) : Int := 16 * l.getD (2 * j) 0 + l.getD (2 * j + 1) 0
theorem getD_mem {l : List Int} {P : Int → Prop} (h : ∀ d ∈ l, P d) {i : Nat} (hi : i < l.length) : P (l.getD i 0) := by
  rw [List.getD_eq_getElem?_getD, List.getElem?_eq_getElem hi]
  exact h _ (List.getElem_mem hi)

theorem f76q (l : List Int) (m : Nat) (hl : l.length = 2 * m) (hm : m ≤ 450) (hd : ∀ d ∈ l, 0 ≤ d ∧ d ≤ 15) : f76F 1000 l = some (strOfNums ((List.range m).map (pair16 l))) := by
  unfold f76F f76l0
  have key := iter_for (R := ByteArray) (Step := fun rec v => f76l0s 1000 rec (fun w => some (strOfNums w.1)) v) (fun i => (l, ((2 * i : Nat) : Int), (List.range i).map (pair16 l), ())) m (fin := some (strOfNums ((List.range m).map (pair16 l)))) ?_ ?_ (k := 1000) (by omega)
  · simpa using key
  · intro rec i hi
    unfold f76l0s
    have e1 : (decide (((2 * i : Nat) : Int) < (l.length : Int))) = true := by simp; omega
    have e0 : (decide ((0 : Int) ≤ ((2 * i : Nat) : Int))) = true := by simp; omega
    have w1 : IntKind.i64.wrap (((2 * i : Nat) : Int) + 1) = ((2 * i + 1 : Nat) : Int) := by rw [wi (by omega) (by omega)]; rfl
    have e2 : (decide ((0 : Int) ≤ ((2 * i + 1 : Nat) : Int))) = true := by simp; omega
    have e3 : (decide (((2 * i + 1 : Nat) : Int) < (l.length : Int))) = true := by simp; omega
    simp only [e1, e0, w1, e2, e3, Bool.and_self, cond_true, Int.toNat_natCast]
    obtain ⟨a0, a1⟩ := getD_mem hd (i := 2 * i) (by omega)
    obtain ⟨b0, b1⟩ := getD_mem hd (i := 2 * i + 1) (by omega)
    rw [nib' a0 a1 b0 b1]
    have e4 : (decide ((((List.range i).map (pair16 l)).length + [16 * l.getD (2 * i) 0 + l.getD (2 * i + 1) 0].length) * 1 ≤ 140737488355328) && decide (((List.range i).map (pair16 l)).length + [16 * l.getD (2 * i) 0 + l.getD (2 * i + 1) 0].length ≤ 9223372036854775807)) = true := by
      simp; omega
    rw [e4]
    simp only [cond_true]
    rw [wi (x := ((2 * i : Nat) : Int) + 2) (by omega) (by omega), List.range_succ, List.map_append, show ((2 * i : Nat) : Int) + 2 = ((2 * (i + 1) : Nat) : Int) by omega]
    rfl
  · intro rec
    unfold f76l0s
    have e1 : (decide (((2 * m : Nat) : Int) < (l.length : Int))) = false := by simp; omega
    simp only [e1, cond_false]

theorem f41l4q {R : Type} (k0 : List Int × Unit → Option R) (l : List Int) (m : Nat) (hl : l.length = 2 * m) (hm : m ≤ 450) (hd : ∀ d ∈ l, 0 ≤ d ∧ d ≤ 15) :
    f41l4 1000 k0 (0, l, List.replicate m 0, ()) = k0 ((List.range m).map (pair16 l), ()) := by
  unfold f41l4
  have key := iter_for (R := R) (Step := fun rec v => f41l4s 1000 rec k0 v) (fun i => ((i : Int), l, (List.range i).map (pair16 l) ++ List.replicate (m - i) 0, ())) m (fin := k0 ((List.range m).map (pair16 l), ())) ?_ ?_ (k := 1000) (by omega)
  · simpa using key
  · intro rec i hi
    unfold f41l4s
    have e1 : (decide ((i : Int) < (((List.range i).map (pair16 l) ++ List.replicate (m - i) (0 : Int)).length : Int))) = true := by simp; omega
    have e0 : (decide ((0 : Int) ≤ (i : Int))) = true := by simp
    have w0 : IntKind.i64.wrap (2 * (i : Int)) = ((2 * i : Nat) : Int) := by rw [wi (by omega) (by omega)]; omega
    have w1 : IntKind.i64.wrap (((2 * i : Nat) : Int) + 1) = ((2 * i + 1 : Nat) : Int) := by rw [wi (by omega) (by omega)]; rfl
    have e2 : (decide ((0 : Int) ≤ ((2 * i : Nat) : Int))) = true := by simp; omega
    have e3 : (decide (((2 * i : Nat) : Int) < (l.length : Int))) = true := by simp; omega
    have e4 : (decide ((0 : Int) ≤ ((2 * i + 1 : Nat) : Int))) = true := by simp; omega
    have e5 : (decide (((2 * i + 1 : Nat) : Int) < (l.length : Int))) = true := by simp; omega
    simp only [e1, e0, w0, w1, e2, e3, e4, e5, Bool.and_self, cond_true, Int.toNat_natCast]
    obtain ⟨a0, a1⟩ := getD_mem hd (i := 2 * i) (by omega)
    obtain ⟨b0, b1⟩ := getD_mem hd (i := 2 * i + 1) (by omega)
    rw [wi (x := 16 * l.getD (2 * i) 0) (by omega) (by omega), wi (x := 16 * l.getD (2 * i) 0 + l.getD (2 * i + 1) 0) (by omega) (by omega), wu8 (by omega) (by omega), wi (x := (i : Int) + 1) (by omega) (by omega)]
    have := set_take_zero (pair16 l) hi
    unfold pair16 at this ⊢
    rw [this]
    rfl
  · intro rec
    unfold f41l4s
    have e1 : (decide ((m : Int) < (((List.range m).map (pair16 l) ++ List.replicate (m - m) (0 : Int)).length : Int))) = false := by simp
    rw [e1]
    simp only [cond_false, Nat.sub_self, List.replicate_zero, List.append_nil]
end Go.Proofs.Ytioagofpofamiaa
/-! Plain laws: the bytes of a value are as the reference has them. -/
set_option linter.unusedVariables false
set_option linter.unusedSimpArgs false
namespace Go.Proofs.Ytioagofpofamiaa
open Go.Ab

theorem f40p1q {R : Type} (k0 : Int × ByteArray × List Int × Unit → Option R) (n : Int) (s : ByteArray) (z : List Int) (h0 : 1 ≤ z.length) (h1 : z.length ≤ 900) :
    f40p1 1000 k0 (n, s, z, ()) = if n < 0 then k0 (n, s, z.set (z.length - 1) (IntKind.u8.wrap (z.getD (z.length - 1) 0 - 32)), ()) else k0 (n, s, z, ()) := by
  unfold f40p1
  have w : IntKind.i64.wrap ((z.length : Int) - 1) = ((z.length - 1 : Nat) : Int) := by rw [wi (by omega) (by omega)]; omega
  have e0 : (decide ((0 : Int) ≤ ((z.length - 1 : Nat) : Int))) = true := by simp <;> omega
  have e1 : (decide (((z.length - 1 : Nat) : Int) < (z.length : Int))) = true := by simp; omega
  simp only [w, e0, e1, Bool.and_self, cond_true, Int.toNat_natCast]
  by_cases h : n < 0 <;> simp [h]
theorem f41p2q {R : Type} (k0 : Int × Int × Int × Int × ByteArray × List Int × List Int × Unit → Option R) (kd sc n : Int) (s : ByteArray) (y z : List Int) (h0 : 1 ≤ y.length) (h1 : y.length ≤ 900) (hz : z.length = y.length) :
    f41p2 1000 k0 (kd, (y.length : Int), sc, n, s, y, z, ()) = if n < 0 then k0 (kd, (y.length : Int), sc, n, s, y, z.set (y.length - 1) (IntKind.u8.wrap (IntKind.i64.wrap (208 + y.getD (y.length - 1) 0))), ()) else k0 (kd, (y.length : Int), sc, n, s, y, z, ()) := by
  unfold f41p2
  have w : IntKind.i64.wrap ((y.length : Int) - 1) = ((y.length - 1 : Nat) : Int) := by rw [wi (by omega) (by omega)]; omega
  have e0 : (decide ((0 : Int) ≤ ((y.length - 1 : Nat) : Int))) = true := by simp <;> omega
  have e1 : (decide (((y.length - 1 : Nat) : Int) < (y.length : Int))) = true := by simp; omega
  simp only [w, hz, e0, e1, Bool.and_self, cond_true, Int.toNat_natCast]
  by_cases h : n < 0 <;> simp [h]

theorem zoned_eq {y : List Int} (hd : ∀ d ∈ y, 0 ≤ d ∧ d < 10) : y.map z240 = y.map r240 := by
  refine List.map_congr_left fun d h => ?_
  obtain ⟨h0, h1⟩ := hd d h
  unfold z240 r240
  rw [wi (by omega) (by omega), wu8 (by omega) (by omega), wu8 (by omega) (by omega)]
  omega
theorem last_eq {y : List Int} (hd : ∀ d ∈ y, 0 ≤ d ∧ d < 10) (h0 : 1 ≤ y.length) : IntKind.u8.wrap ((y.map z240).getD (y.length - 1) 0 - 32) = IntKind.u8.wrap (IntKind.i64.wrap (208 + y.getD (y.length - 1) 0)) := by
  obtain ⟨a0, a1⟩ := getD_mem hd (i := y.length - 1) (by omega)
  have : (y.map z240).getD (y.length - 1) 0 = z240 (y.getD (y.length - 1) 0) := by
    simp only [List.getD_eq_getElem?_getD, List.getElem?_map]
    rw [List.getElem?_eq_getElem (by omega)]
    rfl
  rw [this]
  unfold z240
  rw [wu8 (x := y.getD (y.length - 1) 0 + 240) (by omega) (by omega), wi (by omega) (by omega)]
  congr 1
  omega

/-- A number's amount. -/
def amt (n : Int) : Int := if n < 0 then -n else n

theorem zoned {ln sc n : Int} {s : ByteArray} (h0 : 1 ≤ ln) (h1 : ln ≤ 15) (n0 : -1000000000000000 ≤ n) (n1 : n ≤ 1000000000000000) : ∃ B, f40F 1000 ((2, ln, sc), n, s) = some B ∧ f41F 1000 ((2, ln, sc), n, s) = some B := by
  obtain ⟨L, rfl⟩ : ∃ L : Nat, ln = L := ⟨ln.toNat, by omega⟩
  have ha0 : 0 ≤ amt n := by unfold amt; split <;> omega
  have ha1 : amt n ≤ 1000000000000000 := by unfold amt; split <;> omega
  have hm : mxI n (IntKind.i64.wrap (0 - n)) = amt n := mx_abs n0 n1
  have hL : L ≤ 900 := by omega
  have hd : ∀ d ∈ low 10 (amt n) L, 0 ≤ d ∧ d < 10 := fun d h => low_mem (by decide) h
  have hlen : (low 10 (amt n) L).length = L := low_length _ _ _
  have A : f40F 1000 ((2, (L : Int), sc), n, s) = some (strOfNums (if n < 0 then ((low 10 (amt n) L).map r240).set (L - 1) (IntKind.u8.wrap (IntKind.i64.wrap (208 + (low 10 (amt n) L).getD (L - 1) 0))) else (low 10 (amt n) L).map r240)) := by
    unfold f40F
    simp only [hm, f75q ha0 (by omega) hL, bind_some']
    have e : ((2 : Int) == 2) = true := rfl
    rw [e, cond_true, f40l0q _ _ _ _ (by omega), f40p1q _ _ _ _ (by simp; omega) (by simp; omega)]
    simp only [List.length_map]
    rw [last_eq hd (by omega), zoned_eq hd, hlen]
    split <;> rfl
  have B : f41F 1000 ((2, (L : Int), sc), n, s) = some (strOfNums (if n < 0 then ((low 10 (amt n) L).map r240).set (L - 1) (IntKind.u8.wrap (IntKind.i64.wrap (208 + (low 10 (amt n) L).getD (L - 1) 0))) else (low 10 (amt n) L).map r240)) := by
    unfold f41F f79F
    have e0 : ((2 : Int) == 0) = false := rfl
    have e3 : ((2 : Int) == 3) = false := rfl
    have e2 : ((2 : Int) == 2) = true := rfl
    have c1 : (((decide ((0 : Int) ≤ (L : Int))) && (decide (((L : Int) * 1) ≤ (140737488355328 : Int)))) && (decide ((L : Int) ≤ (281474976710656 : Int)))) = true := by
      simp; omega
    simp only [e0, e3, e2, cond_false, cond_true, bind_some', hm, f78q ha0 (by omega) hL, c1, Int.toNat_natCast]
    have q := f41l1q (R := ByteArray) (fun w9 => f41p2 1000 (fun w12 => some (strOfNums w12.2.2.2.2.2.2.1)) (w9.1, w9.2.1, w9.2.2.1, w9.2.2.2.1, w9.2.2.2.2.1, w9.2.2.2.2.2.1, w9.2.2.2.2.2.2.1, ())) 2 sc n s (low 10 (amt n) L) (by omega)
    rw [hlen] at q
    rw [q]
    have q2 := f41p2q (R := ByteArray) (fun w12 => some (strOfNums w12.2.2.2.2.2.2.1)) 2 sc n s (low 10 (amt n) L) ((low 10 (amt n) L).map r240) (by omega) (by omega) (by simp)
    rw [hlen] at q2
    rw [q2]
    split <;> rfl
  exact ⟨_, A, B⟩

theorem packed {ln sc n : Int} {s : ByteArray} (h0 : 1 ≤ ln) (h1 : ln ≤ 15) (n0 : -1000000000000000 ≤ n) (n1 : n ≤ 1000000000000000) : ∃ B, f40F 1000 ((1, ln, sc), n, s) = some B ∧ f41F 1000 ((1, ln, sc), n, s) = some B := by
  obtain ⟨L, rfl⟩ : ∃ L : Nat, ln = L := ⟨ln.toNat, by omega⟩
  have ha0 : 0 ≤ amt n := by unfold amt; split <;> omega
  have ha1 : amt n ≤ 1000000000000000 := by unfold amt; split <;> omega
  have hm : mxI n (IntKind.i64.wrap (0 - n)) = amt n := mx_abs n0 n1
  have hL : L ≤ 900 := by omega
  have hd : ∀ d ∈ low 10 (amt n) L, 0 ≤ d ∧ d < 10 := fun d h => low_mem (by decide) h
  have hlen : (low 10 (amt n) L).length = L := low_length _ _ _
  let sg : Int := if n < 0 then 13 else 15
  let l : List Int := (if L % 2 = 0 then [0] ++ low 10 (amt n) L else low 10 (amt n) L) ++ [sg]
  let m : Nat := L / 2 + 1
  have hl : l.length = 2 * m := by
    show ((if L % 2 = 0 then [0] ++ low 10 (amt n) L else low 10 (amt n) L) ++ [sg]).length = 2 * (L / 2 + 1)
    split <;> simp [hlen] <;> omega
  have hsg : 0 ≤ sg ∧ sg ≤ 15 := by show 0 ≤ (if n < 0 then (13 : Int) else 15) ∧ (if n < 0 then (13 : Int) else 15) ≤ 15; split <;> omega
  have hl15 : ∀ d ∈ l, 0 ≤ d ∧ d ≤ 15 := by
    intro d h
    have h : d ∈ (if L % 2 = 0 then [0] ++ low 10 (amt n) L else low 10 (amt n) L) ++ [sg] := h
    rcases List.mem_append.1 h with h | h
    · split at h
      · rcases List.mem_append.1 h with h | h
        · simp at h; omega
        · have := hd d h; omega
      · have := hd d h; omega
    · simp at h; rw [h]; exact hsg
  have hm450 : m ≤ 450 := by show L / 2 + 1 ≤ 450; omega
  have A : f40F 1000 ((1, (L : Int), sc), n, s) = some (strOfNums ((List.range m).map (pair16 l))) := by
    unfold f40F f40p2 f40p3
    simp only [hm, f75q ha0 (by omega) hL, bind_some', hlen]
    have e2 : ((1 : Int) == 2) = false := rfl
    have e1 : ((1 : Int) == 1) = true := rfl
    rw [Int.tmod_eq_emod_of_nonneg (by omega)]
    simp only [e1, e2, cond_false, cond_true]
    have f := f76q l m hl hm450 hl15
    have fin : ∀ d : List Int, d.length ≤ 16 → d ++ [sg] = l → (bif (decide ((d.length + [sg].length) * 1 ≤ 140737488355328) && decide (d.length + [sg].length ≤ 9223372036854775807)) then Option.bind (f76F 1000 (d ++ [sg])) fun y9 => some y9 else none) = some (strOfNums ((List.range m).map (pair16 l))) := by
      intro d hd he
      have e4 : (decide ((d.length + [sg].length) * 1 ≤ 140737488355328) && decide (d.length + [sg].length ≤ 9223372036854775807)) = true := by simp; omega
      rw [e4, cond_true, he, f]
      rfl
    have par : (((L : Int) % 2) == 0) = decide (L % 2 = 0) := by
      by_cases hp : L % 2 = 0
      · have : (L : Int) % 2 = 0 := by omega
        simp [hp, this]
      · have : (L : Int) % 2 ≠ 0 := by omega
        simp [hp, this]
    have e5 : (decide (([(0 : Int)].length + L) * 1 ≤ 140737488355328) && decide ([(0 : Int)].length + L ≤ 9223372036854775807)) = true := by simp; omega
    rw [par]
    by_cases hn : n < 0
    · have hs : sg = 13 := if_pos hn
      simp only [hn, decide_true, cond_true, e5]
      rw [hs] at fin
      by_cases hp : L % 2 = 0
      · simp only [hp, decide_true, cond_true]
        exact fin ([0] ++ low 10 (amt n) L) (by simp [hlen]; omega) (by show _ = (if L % 2 = 0 then [0] ++ low 10 (amt n) L else low 10 (amt n) L) ++ [sg]; rw [if_pos hp, hs])
      · simp only [hp, decide_false, cond_false]
        have g := fin (low 10 (amt n) L) (by simp [hlen]; omega) (by show _ = (if L % 2 = 0 then [0] ++ low 10 (amt n) L else low 10 (amt n) L) ++ [sg]; rw [if_neg hp, hs])
        rw [hlen] at g
        exact g
    · have hs : sg = 15 := if_neg hn
      simp only [hn, decide_false, cond_false, e5, cond_true]
      rw [hs] at fin
      by_cases hp : L % 2 = 0
      · simp only [hp, decide_true, cond_true]
        exact fin ([0] ++ low 10 (amt n) L) (by simp [hlen]; omega) (by show _ = (if L % 2 = 0 then [0] ++ low 10 (amt n) L else low 10 (amt n) L) ++ [sg]; rw [if_pos hp, hs])
      · simp only [hp, decide_false, cond_false]
        have g := fin (low 10 (amt n) L) (by simp [hlen]; omega) (by show _ = (if L % 2 = 0 then [0] ++ low 10 (amt n) L else low 10 (amt n) L) ++ [sg]; rw [if_neg hp, hs])
        rw [hlen] at g
        exact g
  have B : f41F 1000 ((1, (L : Int), sc), n, s) = some (strOfNums ((List.range m).map (pair16 l))) := by
    unfold f41F f79F f41p3
    have e0 : ((1 : Int) == 0) = false := rfl
    have e3 : ((1 : Int) == 3) = false := rfl
    have e2 : ((1 : Int) == 2) = false := rfl
    simp only [e0, e3, e2, cond_false, bind_some', hm, f78q ha0 (by omega) hL, f69q, hlen]
    rw [Int.tmod_eq_emod_of_nonneg (a := (L : Int)) (by omega)]
    have par : (((L : Int) % 2) == 0) = decide (L % 2 = 0) := by
      by_cases hp : L % 2 = 0
      · have : (L : Int) % 2 = 0 := by omega
        simp [hp, this]
      · have : (L : Int) % 2 ≠ 0 := by omega
        simp [hp, this]
    have e5 : (decide (([(0 : Int)].length + L) * 8 ≤ 140737488355328) && decide ([(0 : Int)].length + L ≤ 9223372036854775807)) = true := by simp; omega
    have hs : IntKind.i64.wrap (15 - IntKind.i64.wrap (2 * (if (decide (n < 0)) = true then 1 else 0))) = sg := by
      show _ = if n < 0 then (13 : Int) else 15
      by_cases hn : n < 0 <;> simp [hn] <;> rfl
    have fin : ∀ d : List Int, d.length ≤ 16 → d ++ [sg] = l → (bif (decide ((d.length + [sg].length) * 8 ≤ 140737488355328) && decide (d.length + [sg].length ≤ 9223372036854775807)) then
        (bif (((decide ((0 : Int) ≤ (IntKind.i64.wrap (Int.tdiv ((d ++ [sg]).length : Int) (2 : Int))))) && (decide (((IntKind.i64.wrap (Int.tdiv ((d ++ [sg]).length : Int) (2 : Int))) * 1) ≤ (140737488355328 : Int)))) && (decide ((IntKind.i64.wrap (Int.tdiv ((d ++ [sg]).length : Int) (2 : Int))) ≤ (281474976710656 : Int)))) then
        f41l4 1000 (fun (w20 : List Int × Unit) => some (strOfNums w20.1)) ((0 : Int), (d ++ [sg]), (List.replicate (Int.toNat (IntKind.i64.wrap (Int.tdiv ((d ++ [sg]).length : Int) (2 : Int)))) (0 : Int)), ())
        else none) else none) = some (strOfNums ((List.range m).map (pair16 l))) := by
      intro d hd he
      have e4 : (decide ((d.length + [sg].length) * 8 ≤ 140737488355328) && decide (d.length + [sg].length ≤ 9223372036854775807)) = true := by simp; omega
      rw [e4, cond_true, he, hl, Int.tdiv_eq_ediv_of_nonneg (by omega), show (((2 * m : Nat) : Int) / 2) = (m : Int) by omega, wi (by omega) (by omega)]
      have e6 : (((decide ((0 : Int) ≤ (m : Int))) && (decide (((m : Int) * 1) ≤ (140737488355328 : Int)))) && (decide ((m : Int) ≤ (281474976710656 : Int)))) = true := by simp; omega
      rw [e6, cond_true, Int.toNat_natCast, f41l4q _ l m hl hm450 hl15]
    rw [par]
    by_cases hp : L % 2 = 0
    · simp only [hp, decide_true, cond_true, e5, hs]
      exact fin ([0] ++ low 10 (amt n) L) (by simp [hlen]; omega) (by show _ = (if L % 2 = 0 then [0] ++ low 10 (amt n) L else low 10 (amt n) L) ++ [sg]; rw [if_pos hp])
    · simp only [hp, decide_false, cond_false, hs]
      have g := fin (low 10 (amt n) L) (by simp [hlen]; omega) (by show _ = (if L % 2 = 0 then [0] ++ low 10 (amt n) L else low 10 (amt n) L) ++ [sg]; rw [if_neg hp])
      rw [hlen] at g
      exact g
  exact ⟨_, A, B⟩
end Go.Proofs.Ytioagofpofamiaa
/-! Plain law: the bytes of a value are as specified, or the error. -/
set_option linter.unusedVariables false
set_option linter.unusedSimpArgs false
namespace Go.Proofs.Ytioagofpofamiaa
open Go.Ab

theorem binaryB {ln sc n : Int} {s : ByteArray} (hl : ln = 4 ∨ ln = 9) (n0 : -(pw ln - 1) ≤ n) (n1 : n ≤ pw ln - 1) : ∃ B, f40F 1000 ((3, ln, sc), n, s) = some B ∧ f41F 1000 ((3, ln, sc), n, s) = some B := by
  have p4 : pw 4 = 10000 := rfl
  have p9 : pw 9 = 1000000000 := rfl
  have hn : -1000000000000000 ≤ n ∧ n ≤ 1000000000000000 := by rcases hl with rfl | rfl <;> (first | rw [p4] at n0 n1 | rw [p9] at n0 n1) <;> omega
  have ha0 : 0 ≤ amt n := by unfold amt; split <;> omega
  have ha1 : amt n ≤ 1000000000000000 := by unfold amt; split <;> omega
  have hm : mxI n (IntKind.i64.wrap (0 - n)) = amt n := mx_abs hn.1 hn.2
  obtain ⟨L, hL, hL1⟩ : ∃ L : Nat, ln = L ∧ L ≤ 900 := ⟨ln.toNat, by omega, by omega⟩
  have e0 : ((3 : Int) == 0) = false := rfl
  have e1 : ((3 : Int) == 1) = false := rfl
  have e2 : ((3 : Int) == 2) = false := rfl
  have e3 : ((3 : Int) == 3) = true := rfl
  have body : ∀ z : Nat, (z = 2 ∨ z = 4) → f44F 1000 (3, ln, sc) = some (z : Int) → f31F 1000 (3, ln, sc) = some (z : Int) → (0 ≤ n ∨ 0 ≤ n + 2 ^ (8 * z)) → low 256 (n + 2 ^ (8 * z)) z = low 256 n z → shlI .i64 1 (IntKind.i64.wrap (8 * (z : Int))) = 2 ^ (8 * z) → n + 2 ^ (8 * z) ≤ 9000000000 → -9000000000 ≤ n →
      ∃ B, f40F 1000 ((3, ln, sc), n, s) = some B ∧ f41F 1000 ((3, ln, sc), n, s) = some B := by
    intro z hz h44 h31 hpos hlow hsh hup hdn
    have hz9 : z ≤ 900 := by omega
    have hpw : (0 : Int) < 2 ^ (8 * z) := Int.pow_pos (by decide)
    refine ⟨strOfNums (low 256 n z), ?_, ?_⟩
    · unfold f40F
      simp only [hm, hL, f75q ha0 (by omega) hL1, bind_some', e1, e2, e3, cond_false, cond_true]
      rw [← hL, h44]
      simp only [bind_some']
      have c1 : (((decide ((0 : Int) ≤ (z : Int))) && (decide (((z : Int) * 1) ≤ (140737488355328 : Int)))) && (decide ((z : Int) ≤ (281474976710656 : Int)))) = true := by
        simp; omega
      rw [c1]
      simp only [cond_true, Int.toNat_natCast, List.length_replicate]
      rw [wi (x := (z : Int) - 1) (by omega) (by omega)]
      rw [f40l4q (R := ByteArray) (fun w12 => some (strOfNums w12.1)) (by omega) (by omega) hz9]
    · unfold f41F f41p0
      simp only [e0, e3, cond_false, cond_true, h31, bind_some']
      by_cases hneg : n < 0
      · have c2 : (decide ((0 : Int) ≤ (IntKind.i64.wrap ((8 : Int) * (z : Int))))) = true := by rw [wi (by omega) (by omega)]; simp; omega
        simp only [hneg, decide_true, cond_true, c2, hsh]
        rw [wi (x := n + 2 ^ (8 * z)) (by omega) (by omega)]
        rw [f77q (by omega) (by omega) hz9, hlow]
        rfl
      · simp only [hneg, decide_false, cond_false]
        rw [f77q (by omega) (by omega) hz9]
        rfl
  rcases hl with rfl | rfl
  · rw [p4] at n0 n1
    refine body 2 (.inl rfl) rfl rfl (by right; omega) ?_ rfl (by omega) (by omega)
    simp only [low]
    have a : (n + 2 ^ (8 * 2)) / 256 ^ 1 % 256 = n / 256 ^ 1 % 256 := by omega
    have b : (n + 2 ^ (8 * 2)) / 256 ^ 0 % 256 = n / 256 ^ 0 % 256 := by omega
    rw [a, b]
  · rw [p9] at n0 n1
    refine body 4 (.inr rfl) rfl rfl (by right; omega) ?_ rfl (by omega) (by omega)
    simp only [low]
    have a : (n + 2 ^ (8 * 4)) / 256 ^ 3 % 256 = n / 256 ^ 3 % 256 := by omega
    have b : (n + 2 ^ (8 * 4)) / 256 ^ 2 % 256 = n / 256 ^ 2 % 256 := by omega
    have c : (n + 2 ^ (8 * 4)) / 256 ^ 1 % 256 = n / 256 ^ 1 % 256 := by omega
    have d : (n + 2 ^ (8 * 4)) / 256 ^ 0 % 256 = n / 256 ^ 0 % 256 := by omega
    rw [a, b, c, d]

theorem charB {ln sc n : Int} {s : ByteArray} (h0 : 1 ≤ ln) (h1 : ln ≤ 256) (hn : n = 0) : ∃ B, f40F 1000 ((0, ln, sc), n, s) = some B ∧ f41F 1000 ((0, ln, sc), n, s) = some B := by
  subst hn
  obtain ⟨L, rfl⟩ : ∃ L : Nat, ln = L := ⟨ln.toNat, by omega⟩
  refine ⟨s, ?_, ?_⟩
  · unfold f40F
    have hm : mxI 0 (IntKind.i64.wrap (0 - 0)) = 0 := rfl
    simp only [hm, f75q (n := 0) (L := L) (by omega) (by omega) (by omega), bind_some']
    rfl
  · rfl

/-- What is written of a right value. -/
theorem bytes_eq {kd ln sc n : Int} {s : ByteArray} (h : valErr kd ln sc n s = 0) : ∃ B, f40F 1000 ((kd, ln, sc), n, s) = some B ∧ f41F 1000 ((kd, ln, sc), n, s) = some B := by
  have ht : tyErr kd ln sc = 0 := by
    unfold valErr at h
    split at h
    · exact h
    · rename_i hh; simpa using hh
  obtain ⟨a1, a2, a3, a4, a5, a6, a7, a8, a9⟩ := ty_ok ht
  unfold valErr at h
  rw [if_neg (by simp [ht])] at h
  split at h
  · omega
  rename_i k4
  split at h
  · rename_i k0
    subst k0
    split at h
    · omega
    · rename_i hn
      have hn : n = 0 := by simpa using hn
      exact charB (a3 rfl).1 (a3 rfl).2 hn
  · rename_i k0
    split at h
    · omega
    · split at h
      · omega
      · rename_i hr
        have hr : -(pw ln - 1) ≤ n ∧ n ≤ pw ln - 1 := by simpa using hr
        have hl := a4 (by omega)
        have hb := pw_bound hl.1 hl.2
        have : kd = 1 ∨ kd = 2 ∨ kd = 3 := by omega
        rcases this with rfl | rfl | rfl
        · exact packed hl.1 hl.2 (by omega) (by omega)
        · exact zoned hl.1 hl.2 (by omega) (by omega)
        · exact binaryB (a5 rfl) hr.1 hr.2

theorem f14q (kd ln sc n : Int) (s : ByteArray) : ∃ B, f14F 1000 ((kd, ln, sc), n, s) = some (B, valErr kd ln sc n s) ∧ f15F 1000 ((kd, ln, sc), n, s) = some (B, valErr kd ln sc n s) := by
  unfold f14F f15F
  simp only [f29q, f30q, bind_some']
  by_cases h : valErr kd ln sc n s = 0
  · obtain ⟨B, h1, h2⟩ := bytes_eq h
    refine ⟨B, ?_, ?_⟩
    · rw [h1, h]; rfl
    · rw [h2, h]; rfl
  · have hb : (valErr kd ln sc n s != 0) = true := by simpa using h
    exact ⟨ByteArray.empty, by rw [hb]; rfl, by rw [hb]; rfl⟩

theorem awake_ok : f13F 1000 () = some true := by kernel_rfl

theorem encodes (x : (Int × (Int × Int)) × (Int × ByteArray)) : f3F 1000 x = some true := by
  obtain ⟨⟨kd, ln, sc⟩, n, s⟩ := x
  unfold f3F
  obtain ⟨B, h1, h2⟩ := f14q kd ln sc n s
  simp only [awake_ok, bind_some', h1, h2]
  by_cases hs : (s.size : Int) > 700
  · simp [hs]
  · simp [hs, strEq_self]
end Go.Proofs.Ytioagofpofamiaa
/-! Plain laws: bytes and half bytes; loops that may end early. -/
set_option linter.unusedVariables false
set_option linter.unusedSimpArgs false
namespace Go.Proofs.Ytioagofpofamiaa
open Go.Ab

theorem bytes_len (s : ByteArray) : (bytesOf s).length = s.size := by
  unfold bytesOf
  rw [List.length_map]
  rfl
theorem bytes_mem {s : ByteArray} {d : Int} (h : d ∈ bytesOf s) : 0 ≤ d ∧ d ≤ 255 := by
  simp only [bytesOf, List.mem_map] at h
  obtain ⟨b, _, rfl⟩ := h
  have := b.toNat_lt
  omega
theorem bytes_get (s : ByteArray) (i : Nat) : 0 ≤ (bytesOf s).getD i 0 ∧ (bytesOf s).getD i 0 ≤ 255 := by
  by_cases h : i < (bytesOf s).length
  · exact getD_mem (P := fun d => 0 ≤ d ∧ d ≤ 255) (fun d hd => bytes_mem hd) h
  · rw [List.getD_eq_getElem?_getD, List.getElem?_eq_none (by omega)]
    decide
theorem bt_get (s : ByteArray) (i : Nat) : bt s (i : Int) = (bytesOf s).getD i 0 := by
  unfold bt
  rw [Int.toNat_natCast]
  split
  · rename_i h
    have h' : i < s.data.toList.length := h
    simp only [bytesOf, List.getD_eq_getElem?_getD, List.getElem?_map, List.getElem?_eq_getElem h', Option.map_some, Option.getD_some]
    rfl
  · rename_i h
    rw [List.getD_eq_getElem?_getD, List.getElem?_eq_none (by rw [bytes_len]; omega)]
    rfl

theorem shr4 : ∀ b : Fin 256, shrI .u8 (b.val : Int) 4 = (b.val : Int) / 16 := by decide +kernel
theorem shr4' {b : Int} (h0 : 0 ≤ b) (h1 : b ≤ 255) : shrI .u8 b 4 = b / 16 := by
  have := shr4 ⟨b.toNat, by omega⟩
  simp only at this
  rwa [show ((b.toNat : Nat) : Int) = b by omega] at this
theorem and15 : ∀ b : Fin 256, bits .and .u8 (b.val : Int) 15 = (b.val : Int) % 16 := by decide +kernel
theorem and15' {b : Int} (h0 : 0 ≤ b) (h1 : b ≤ 255) : bits .and .u8 b 15 = b % 16 := by
  have := and15 ⟨b.toNat, by omega⟩
  simp only at this
  rwa [show ((b.toNat : Nat) : Int) = b by omega] at this

/-- Digits read one after the other, till one is bad. -/
def scanB (bad : Nat → Bool) (val : Nat → Int) : Nat → Nat → Int → Nat ⊕ Int
  | 0, _, n => .inr n
  | r + 1, i, n => bif bad i then .inl i else scanB bad val r (i + 1) (n * 10 + val i)

theorem scanB_bound {bad : Nat → Bool} {val : Nat → Int} {N : Nat} (hv : ∀ i, i < N → bad i = false → 0 ≤ val i ∧ val i ≤ 9) : ∀ {r i : Nat} {n m : Int}, i + r ≤ N → 0 ≤ n → n < 10 ^ i → scanB bad val r i n = .inr m → 0 ≤ m ∧ m < 10 ^ (i + r)
  | 0, i, n, m, _, h0, h1, h => by
    simp only [scanB, Sum.inr.injEq] at h
    subst h
    exact ⟨h0, h1⟩
  | r + 1, i, n, m, hN, h0, h1, h => by
    simp only [scanB] at h
    cases hb : bad i with
    | true => rw [hb] at h; cases h
    | false =>
      rw [hb] at h
      simp only [cond_false] at h
      obtain ⟨v0, v1⟩ := hv i (by omega) hb
      have := scanB_bound hv (r := r) (i := i + 1) (n := n * 10 + val i) (by omega) (by omega) (by rw [Int.pow_succ]; omega) h
      rwa [show i + 1 + r = i + (r + 1) by omega] at this
theorem scanB_lt {bad : Nat → Bool} {val : Nat → Int} : ∀ {r i : Nat} {n : Int} {j : Nat}, scanB bad val r i n = .inl j → i ≤ j ∧ j < i + r
  | 0, _, _, _, h => by cases h
  | r + 1, i, n, j, h => by
    simp only [scanB] at h
    cases hb : bad i with
    | true =>
      rw [hb] at h
      simp only [cond_true, Sum.inl.injEq] at h
      omega
    | false =>
      rw [hb] at h
      have := scanB_lt (r := r) h
      omega
theorem scanB_congr {bad bad' : Nat → Bool} {val val' : Nat → Int} : ∀ {r i : Nat} {n : Int}, (∀ j, i ≤ j → j < i + r → bad j = bad' j ∧ val j = val' j) → scanB bad val r i n = scanB bad' val' r i n
  | 0, _, _, _ => rfl
  | r + 1, i, n, h => by
    obtain ⟨h1, h2⟩ := h i (by omega) (by omega)
    simp only [scanB, h1, h2]
    rw [scanB_congr fun j a b => h j (by omega) (by omega)]

theorem iter_scan {V R : Type} {Step : (V → Option R) → V → Option R} (st : Nat → Int → V) {bad : Nat → Bool} {val : Nat → Int} {N : Nat} {exit : Nat → Option R}
    (hv : ∀ i, i < N → bad i = false → 0 ≤ val i ∧ val i ≤ 9) (hstep : ∀ rec i m, i < N → 0 ≤ m → m < 10 ^ i → Step rec (st i m) = bif bad i then exit i else rec (st (i + 1) (m * 10 + val i))) :
    ∀ {r i k : Nat} {m : Int}, i + r = N → r ≤ k → 0 ≤ m → m < 10 ^ i → iterS Step k (st i m) = match scanB bad val r i m with
      | .inl j => exit j
      | .inr m => iterS Step (k - r) (st N m)
  | 0, i, k, m, hi, hk, h0, h1 => by
    rw [Nat.add_zero] at hi
    subst hi
    rfl
  | r + 1, i, k, m, hi, hk, h0, h1 => by
    obtain ⟨k, rfl⟩ : ∃ k', k = k' + 1 := ⟨k - 1, by omega⟩
    show Step (iterS Step k) (st i m) = _
    rw [hstep _ i m (by omega) h0 h1]
    simp only [scanB]
    cases hb : bad i with
    | true => rfl
    | false =>
      simp only [cond_false]
      obtain ⟨v0, v1⟩ := hv i (by omega) hb
      rw [iter_scan st hv hstep (r := r) (i := i + 1) (k := k) (by omega) (by omega) (by omega) (by rw [Int.pow_succ]; omega), show k + 1 - (r + 1) = k - r by omega]

theorem pow_le16 {i : Nat} (h : i ≤ 16) : (10 : Int) ^ i ≤ 10000000000000000 := by
  have := Nat.pow_le_pow_right (n := 10) (by decide) h
  have e : ((10 ^ i : Nat) : Int) = (10 : Int) ^ i := by simp
  rw [← e]
  omega

/-! ### Half bytes, as the code of numeric lays them -/
def half (s : ByteArray) (t : Nat) : Int := if t % 2 = 0 then (bytesOf s).getD (t / 2) 0 / 16 else (bytesOf s).getD (t / 2) 0 % 16
def atH (t : Nat) : Int := ((t / 2 : Nat) : Int)
theorem half_bound (s : ByteArray) (t : Nat) : 0 ≤ half s t ∧ half s t ≤ 15 := by
  have := bytes_get s (t / 2)
  unfold half
  split <;> omega
def lowh (s : ByteArray) (t : Nat) : Int := (bytesOf s).getD t 0 % 16
def atZ (t : Nat) : Int := (t : Int)

theorem halves1 {ln sc : Int} (s : ByteArray) (h : s.size ≤ 400) : f80F 1000 ((1, ln, sc), s) = some ((List.range (2 * s.size)).map (half s), (List.range (2 * s.size)).map atH) := by
  unfold f80F f80l1
  have key := iter_for (R := List Int × List Int) (Step := fun rec v => f80l1s 1000 rec (fun w3 => f80p2 1000 (fun w5 => some (w5.2.2.2.2.1, w5.2.2.2.2.2.1)) (w3.1, w3.2.1, w3.2.2.1, w3.2.2.2.1, w3.2.2.2.2.1, w3.2.2.2.2.2.1, ())) v)
    (fun i => (s, (s.size : Int), (i : Int), 1, ln, sc, (List.range (2 * i)).map (half s), (List.range (2 * i)).map atH, ())) s.size (fin := some ((List.range (2 * s.size)).map (half s), (List.range (2 * s.size)).map atH)) ?_ ?_ (k := 1000) (by omega)
  · simpa using key
  · intro rec i hi
    unfold f80l1s f80p0
    have e1 : (decide ((i : Int) < (s.size : Int))) = true := by simp; omega
    have e0 : (decide ((0 : Int) ≤ (i : Int))) = true := by simp
    have k1 : ((1 : Int) == 1) = true := rfl
    obtain ⟨b0, b1⟩ := bytes_get s i
    simp only [e1, e0, k1, Bool.and_self, cond_true, bt_get, shr4' b0 b1, and15' b0 b1]
    have c1 : (decide ((((List.range (2 * i)).map (half s)).length + [(bytesOf s).getD i 0 / 16, (bytesOf s).getD i 0 % 16].length) * 1 ≤ 140737488355328) && decide (((List.range (2 * i)).map (half s)).length + [(bytesOf s).getD i 0 / 16, (bytesOf s).getD i 0 % 16].length ≤ 9223372036854775807)) = true := by simp; omega
    have c2 : (decide ((((List.range (2 * i)).map atH).length + [(i : Int), (i : Int)].length) * 8 ≤ 140737488355328) && decide (((List.range (2 * i)).map atH).length + [(i : Int), (i : Int)].length ≤ 9223372036854775807)) = true := by simp; omega
    rw [c1, c2]
    simp only [cond_true]
    rw [wi (x := (i : Int) + 1) (by omega) (by omega)]
    have a1 : (List.range (2 * (i + 1))).map (half s) = (List.range (2 * i)).map (half s) ++ [(bytesOf s).getD i 0 / 16, (bytesOf s).getD i 0 % 16] := by
      rw [show 2 * (i + 1) = 2 * i + 1 + 1 by omega, List.range_succ, List.range_succ]
      simp only [List.map_append, List.map_cons, List.map_nil, List.append_assoc, List.cons_append, List.nil_append]
      have x1 : half s (2 * i) = (bytesOf s).getD i 0 / 16 := by unfold half; rw [if_pos (by omega), show 2 * i / 2 = i by omega]
      have x2 : half s (2 * i + 1) = (bytesOf s).getD i 0 % 16 := by unfold half; rw [if_neg (by omega), show (2 * i + 1) / 2 = i by omega]
      rw [x1, x2]
    have a2 : (List.range (2 * (i + 1))).map atH = (List.range (2 * i)).map atH ++ [(i : Int), (i : Int)] := by
      rw [show 2 * (i + 1) = 2 * i + 1 + 1 by omega, List.range_succ, List.range_succ]
      simp only [List.map_append, List.map_cons, List.map_nil, List.append_assoc, List.cons_append, List.nil_append]
      have x1 : atH (2 * i) = i := by unfold atH; rw [show 2 * i / 2 = i by omega]
      have x2 : atH (2 * i + 1) = i := by unfold atH; rw [show (2 * i + 1) / 2 = i by omega]
      rw [x1, x2]
    rw [a1, a2]
    rfl
  · intro rec
    unfold f80l1s f80p2
    have e1 : (decide ((s.size : Int) < (s.size : Int))) = false := by simp
    simp only [e1, cond_false]
    rfl

theorem halves2 {ln sc : Int} (s : ByteArray) (h0 : 1 ≤ s.size) (h : s.size ≤ 400) : f80F 1000 ((2, ln, sc), s) = some ((List.range s.size).map (lowh s) ++ [(bytesOf s).getD (s.size - 1) 0 / 16], (List.range s.size).map atZ ++ [((s.size - 1 : Nat) : Int)]) := by
  unfold f80F f80l1
  have key := iter_for (R := List Int × List Int) (Step := fun rec v => f80l1s 1000 rec (fun w3 => f80p2 1000 (fun w5 => some (w5.2.2.2.2.1, w5.2.2.2.2.2.1)) (w3.1, w3.2.1, w3.2.2.1, w3.2.2.2.1, w3.2.2.2.2.1, w3.2.2.2.2.2.1, ())) v)
    (fun i => (s, (s.size : Int), (i : Int), 2, ln, sc, (List.range i).map (lowh s), (List.range i).map atZ, ())) s.size (fin := some ((List.range s.size).map (lowh s) ++ [(bytesOf s).getD (s.size - 1) 0 / 16], (List.range s.size).map atZ ++ [((s.size - 1 : Nat) : Int)])) ?_ ?_ (k := 1000) (by omega)
  · simpa using key
  · intro rec i hi
    unfold f80l1s f80p0
    have e1 : (decide ((i : Int) < (s.size : Int))) = true := by simp; omega
    have e0 : (decide ((0 : Int) ≤ (i : Int))) = true := by simp
    have k1 : ((2 : Int) == 1) = false := rfl
    obtain ⟨b0, b1⟩ := bytes_get s i
    simp only [e1, e0, k1, Bool.and_self, cond_true, cond_false, bt_get, shr4' b0 b1, and15' b0 b1]
    have c1 : (decide ((((List.range i).map (lowh s)).length + [(bytesOf s).getD i 0 % 16].length) * 1 ≤ 140737488355328) && decide (((List.range i).map (lowh s)).length + [(bytesOf s).getD i 0 % 16].length ≤ 9223372036854775807)) = true := by simp; omega
    have c2 : (decide ((((List.range i).map atZ).length + [(i : Int)].length) * 8 ≤ 140737488355328) && decide (((List.range i).map atZ).length + [(i : Int)].length ≤ 9223372036854775807)) = true := by simp; omega
    rw [c1, c2]
    simp only [cond_true]
    rw [wi (x := (i : Int) + 1) (by omega) (by omega), List.range_succ, List.map_append, List.map_append]
    rfl
  · intro rec
    unfold f80l1s f80p2
    have e1 : (decide ((s.size : Int) < (s.size : Int))) = false := by simp
    have k2 : ((2 : Int) == 2) = true := rfl
    have w : IntKind.i64.wrap ((s.size : Int) - 1) = ((s.size - 1 : Nat) : Int) := by rw [wi (by omega) (by omega)]; omega
    have e0 : (decide ((0 : Int) ≤ ((s.size - 1 : Nat) : Int))) = true := by simp <;> omega
    have e2 : (decide (((s.size - 1 : Nat) : Int) < (s.size : Int))) = true := by simp <;> omega
    obtain ⟨b0, b1⟩ := bytes_get s (s.size - 1)
    simp only [e1, cond_false, k2, cond_true, w, e0, e2, Bool.and_self, bt_get, shr4' b0 b1]
    have c1 : (decide ((((List.range s.size).map (lowh s)).length + [(bytesOf s).getD (s.size - 1) 0 / 16].length) * 1 ≤ 140737488355328) && decide (((List.range s.size).map (lowh s)).length + [(bytesOf s).getD (s.size - 1) 0 / 16].length ≤ 9223372036854775807)) = true := by simp; omega
    have c2 : (decide ((((List.range s.size).map atZ).length + [((s.size - 1 : Nat) : Int)].length) * 8 ≤ 140737488355328) && decide (((List.range s.size).map atZ).length + [((s.size - 1 : Nat) : Int)].length ≤ 9223372036854775807)) = true := by simp; omega
    rw [c1, c2]
    rfl
end Go.Proofs.Ytioagofpofamiaa
/-! Plain laws: decimal numbers read. -/
set_option linter.unusedVariables false
set_option linter.unusedSimpArgs false
namespace Go.Proofs.Ytioagofpofamiaa
open Go.Ab

def sgn (m h : Int) : Int := if h = 11 ∨ h = 13 then -m else m
/-- What digits with a sign behind them are read as. -/
def decR (bad : Nat → Bool) (h : Nat → Int) (a : Nat → Int) (N : Nat) : Int × Int × Int :=
  match scanB bad h N 0 0 with
  | .inl j => (0, a j, 21)
  | .inr m => if h N < 10 then (0, a N, 21) else (sgn m (h N), 0, 0)
def badN (h : Nat → Int) (N : Nat) (ln : Int) (i : Nat) : Bool := decide (h i > 9) || (decide (h i > 0) && decide ((i : Int) < (N : Int) - ln))

theorem sign_eq (d m x : Int) : (bif decide (d < 10) then some ((0 : Int), x, (21 : Int)) else bif d == 11 then some (0 - m, 0, 0) else bif d == 13 then some (0 - m, 0, 0) else some (m, 0, 0)) = some (if d < 10 then (0, x, 21) else (if d = 11 ∨ d = 13 then -m else m, 0, 0)) := by
  by_cases x1 : d < 10
  · simp [x1]
  · by_cases x2 : d = 11
    · subst x2; simp
    · by_cases x3 : d = 13
      · subst x3; simp
      · have y2 : (d == 11) = false := by simpa using x2
        have y3 : (d == 13) = false := by simpa using x3
        simp [x1, x2, x3, y2, y3]

theorem f46q {kd ln sc : Int} {s : ByteArray} {h a : List Int} {N : Nat} (hf : f80F 1000 ((kd, ln, sc), s) = some (h, a)) (hl : h.length = N + 1) (al : a.length = N + 1) (hN : N ≤ 16) (l0 : 0 ≤ ln) (l1 : ln ≤ 256) (hb : ∀ i, 0 ≤ h.getD i 0 ∧ h.getD i 0 ≤ 15) :
    f46F 1000 ((kd, ln, sc), s) = some (decR (badN (fun i => h.getD i 0) N ln) (fun i => h.getD i 0) (fun i => a.getD i 0) N) := by
  unfold f46F
  have w : IntKind.i64.wrap ((h.length : Int) - 1) = (N : Int) := by rw [wi (by omega) (by omega)]; omega
  have c1 : sliceBds 0 (N : Int) (h.length : Int) = true := by unfold sliceBds; simp; omega
  simp only [hf, bind_some', w, c1, cond_true, Int.toNat_natCast, List.drop_zero]
  have tl : (h.take N).length = N := by simp; omega
  have tg : ∀ i, i < N → (h.take N).getD i 0 = h.getD i 0 := fun i hi => by simp [List.getD_eq_getElem?_getD, List.getElem?_take, hi]
  rw [tl]
  unfold f46l1
  have key := iter_scan (R := Int × Int × Int) (Step := fun rec v => f46l1s 1000 rec (fun w6 => some (w6.1, w6.2.1, w6.2.2.1)) (fun w7 => f46p2 1000 (fun w8 => some (w8.1, w8.2.1, w8.2.2.1)) (fun w9 => some (w9.2.1, (0 : Int), (0 : Int))) (w7.1, w7.2.1, w7.2.2.1, w7.2.2.2.1, ())) v)
    (fun i m => ((N : Int), m, h.take N, (N : Int), (i : Int), kd, ln, sc, h, a, ())) (bad := badN (fun i => h.getD i 0) N ln) (val := fun i => h.getD i 0) (N := N) (exit := fun j => some (0, a.getD j 0, 21))
    (fun i hi hbad => by
      simp only [badN, Bool.or_eq_false_iff, decide_eq_false_iff_not] at hbad
      exact ⟨(hb i).1, by omega⟩)
    (fun rec i m hi m0 m1 => by
      have p := pow_le16 (i := i) (by omega)
      obtain ⟨b0, b1⟩ := hb i
      unfold f46l1s f46p0
      have e1 : (decide ((i : Int) < (N : Int))) = true := by simp; omega
      have e0 : (decide ((0 : Int) ≤ (i : Int))) = true := by simp
      have e2 : (decide ((i : Int) < ((h.take N).length : Int))) = true := by rw [tl]; exact e1
      have e3 : (decide ((i : Int) < (a.length : Int))) = true := by simp; omega
      simp only [e1, e0, e2, e3, Bool.and_self, cond_true, Int.toNat_natCast, tg i hi]
      rw [wi (x := (N : Int) - ln) (by omega) (by omega), wi (x := h.getD i 0) (by omega) (by omega), wi (x := m * 10) (by omega) (by omega), wi (x := m * 10 + h.getD i 0) (by omega) (by omega), wi (x := (i : Int) + 1) (by omega) (by omega)]
      unfold badN
      cases decide (h.getD i 0 > 9) <;> cases decide (h.getD i 0 > 0) <;> cases decide ((i : Int) < (N : Int) - ln) <;> rfl)
    (r := N) (i := 0) (k := 1000) (m := 0) (by omega) (by omega) (by omega) (by simp)
  refine Eq.trans key ?_
  unfold decR
  cases hsc : scanB (badN (fun i => h.getD i 0) N ln) (fun i => h.getD i 0) N 0 0 with
  | inl j => rfl
  | inr m =>
    simp only
    obtain ⟨k, hk⟩ : ∃ k, 1000 - N = k + 1 := ⟨1000 - N - 1, by omega⟩
    rw [hk, iterS]
    have mb := scanB_bound (N := N) (fun i hi hbad => by
      simp only [badN, Bool.or_eq_false_iff, decide_eq_false_iff_not] at hbad
      exact ⟨(hb i).1, by omega⟩) (by omega) (by omega) (by simp) hsc
    have p := pow_le16 (i := 0 + N) (by omega)
    unfold f46l1s f46p2
    have e1 : (decide ((N : Int) < (N : Int))) = false := by simp
    have e0 : (decide ((0 : Int) ≤ (N : Int))) = true := by simp
    have e2 : (decide ((N : Int) < (h.length : Int))) = true := by simp; omega
    have e3 : (decide ((N : Int) < (a.length : Int))) = true := by simp; omega
    simp only [e1, e0, e2, e3, Bool.and_self, cond_true, cond_false, Int.toNat_natCast]
    rw [wi (x := 0 - m) (by omega) (by omega)]
    unfold sgn
    exact sign_eq _ _ _

theorem f82q {m h : Int} (m0 : -10000000000000000 ≤ m) (m1 : m ≤ 10000000000000000) : f82F 1000 (m, h) = some (sgn m h, decide (h ≥ 10)) := by
  unfold f82F f82p0 sgn
  simp only
  rw [wi (x := 0 - m) (by omega) (by omega)]
  by_cases x2 : h = 11
  · subst x2; simp
  · by_cases x3 : h = 13
    · subst x3; simp
    · have y2 : (h == 11) = false := by simpa using x2
      have y3 : (h == 13) = false := by simpa using x3
      simp [y2, y3, x2, x3]

theorem scan_last {bad : Nat → Bool} {val : Nat → Int} {L : Nat} {c : Bool} : ∀ {r i : Nat} {n : Int}, i + (r + 1) = L → scanB (fun i => bad i || (decide (i = L - 1) && c)) val (r + 1) i n = (match scanB bad val (r + 1) i n with
    | .inl j => .inl j
    | .inr m => bif c then .inl (L - 1) else .inr m)
  | 0, i, n, h => by
    have : i = L - 1 := by omega
    simp only [scanB, this, decide_true, Bool.true_and]
    cases bad (L - 1) <;> cases c <;> rfl
  | r + 1, i, n, h => by
    have hne : ¬ i = L - 1 := by omega
    rw [scanB]
    conv => rhs; rw [scanB]
    simp only [hne, decide_false, Bool.false_and, Bool.or_false]
    cases bad i with
    | true => rfl
    | false =>
      simp only [cond_false]
      exact scan_last (by omega)

theorem f50q {s : ByteArray} {L : Nat} (hs : s.size = L) (h0 : 1 ≤ L) (h1 : L ≤ 16) : f50F 1000 s = some (match decR (fun i => decide (lowh s i > 9)) (fun i => if i = L then (bytesOf s).getD (L - 1) 0 / 16 else lowh s i) (fun i => if i = L then ((L - 1 : Nat) : Int) else (i : Int)) L with
    | (n, at_, e) => ((n, ByteArray.empty), at_, e)) := by
  unfold f50F f50l1
  let sg : Int := (bytesOf s).getD (L - 1) 0 / 16
  obtain ⟨g0, g1⟩ := bytes_get s (L - 1)
  have hlow : ∀ i, 0 ≤ lowh s i ∧ lowh s i ≤ 15 := fun i => by have := bytes_get s i; unfold lowh; omega
  have w : IntKind.i64.wrap ((s.size : Int) - 1) = ((L - 1 : Nat) : Int) := by rw [wi (by omega) (by omega)]; omega
  have key := iter_scan (R := (Int × ByteArray) × Int × Int) (Step := fun rec v => f50l1s 1000 rec (fun w4 => some ((w4.2.2.2.2.1, w4.2.2.2.2.2.1), w4.1, w4.2.1)) (fun w5 => Option.bind (f82F 1000 (w5.1, w5.2.1)) fun y6 => some ((y6.1, ByteArray.empty), (0 : Int), (0 : Int))) v)
    (fun i m => (s, m, (if i < L then (15 : Int) else sg), (i : Int), 0, ByteArray.empty, ())) (bad := fun i => decide (lowh s i > 9) || (decide (i = L - 1) && decide (sg < 10))) (val := lowh s) (N := L) (exit := fun j => some ((0, ByteArray.empty), (j : Int), 21))
    (fun i hi hbad => by
      simp only [Bool.or_eq_false_iff, decide_eq_false_iff_not] at hbad
      exact ⟨(hlow i).1, by omega⟩)
    (fun rec i m hi m0 m1 => by
      have p := pow_le16 (i := i) (by omega)
      obtain ⟨b0, b1⟩ := bytes_get s i
      have hlo := hlow i
      have hlod : lowh s i = (bytesOf s).getD i 0 % 16 := rfl
      unfold f50l1s f50p0
      have e1 : (decide ((i : Int) < (s.size : Int))) = true := by simp; omega
      have e0 : (decide ((0 : Int) ≤ (i : Int))) = true := by simp
      simp only [e1, e0, w, Bool.and_self, cond_true, bt_get]
      rw [wi (x := (bytesOf s).getD i 0) (by omega) (by omega), Int.tmod_eq_emod_of_nonneg b0, Int.tdiv_eq_ediv_of_nonneg b0, wi (x := (bytesOf s).getD i 0 / 16) (by omega) (by omega), ← hlod,
        wi (x := 10 * m) (by omega) (by omega), wi (x := 10 * m + lowh s i) (by omega) (by omega), wi (x := (i : Int) + 1) (by omega) (by omega), show 10 * m + lowh s i = m * 10 + lowh s i by omega]
      by_cases hL : i = L - 1
      · have q : ((i : Int) == ((L - 1 : Nat) : Int)) = true := by rw [hL]; simp
        have hsg : (bytesOf s).getD i 0 / 16 = sg := by rw [hL]
        rw [q, hsg]
        simp only [cond_true]
        have n1 : ¬ (i + 1 < L) := by omega
        by_cases x1 : sg < 10
        · simp [x1, hL]
        · by_cases x2 : lowh s i > 9
          · simp [x1, x2]
          · simp [x1, x2, n1]
      · have q : ((i : Int) == ((L - 1 : Nat) : Int)) = false := by simp; omega
        rw [q]
        have n0 : i < L := hi
        have n1 : i + 1 < L := by omega
        by_cases x2 : lowh s i > 9
        · simp [x2, n0]
        · simp [x2, n0, n1, hL])
    (r := L) (i := 0) (k := 1000) (m := 0) (by omega) (by omega) (by omega) (by simp)
  have hstart : (if (0 : Nat) < L then (15 : Int) else sg) = 15 := if_pos (by omega)
  simp only [hstart] at key
  refine Eq.trans key ?_
  obtain ⟨L', hL'⟩ : ∃ L', L = L' + 1 := ⟨L - 1, by omega⟩
  have sl := scan_last (bad := fun i => decide (lowh s i > 9)) (val := lowh s) (L := L) (c := decide (sg < 10)) (r := L') (i := 0) (n := 0) (by omega)
  rw [← hL'] at sl
  rw [sl]
  unfold decR
  have cg : scanB (fun i => decide (lowh s i > 9)) (fun i => if i = L then (bytesOf s).getD (L - 1) 0 / 16 else lowh s i) L 0 0 = scanB (fun i => decide (lowh s i > 9)) (lowh s) L 0 0 := scanB_congr fun j _ hj => ⟨rfl, if_neg (by omega)⟩
  rw [cg]
  cases hsc : scanB (fun i => decide (lowh s i > 9)) (lowh s) L 0 0 with
  | inl j =>
    have := scanB_lt hsc
    simp only
    rw [if_neg (by omega)]
  | inr m =>
    simp only [if_true]
    have mb := scanB_bound (N := L) (fun i hi hbad => by
      simp only [decide_eq_false_iff_not] at hbad
      exact ⟨(hlow i).1, by omega⟩) (by omega) (by omega) (by simp) hsc
    have p := pow_le16 (i := 0 + L) (by omega)
    show (match (bif decide (sg < 10) then Sum.inl (L - 1) else Sum.inr m) with | .inl j => _ | .inr m => _) = some (match (if sg < 10 then ((0 : Int), ((L - 1 : Nat) : Int), (21 : Int)) else (sgn m sg, 0, 0)) with | (n, at_, e) => ((n, ByteArray.empty), at_, e))
    by_cases x1 : sg < 10
    · simp [x1]
    · simp only [x1, decide_false, cond_false, if_false]
      obtain ⟨k, hk⟩ : ∃ k, 1000 - L = k + 1 := ⟨1000 - L - 1, by omega⟩
      rw [hk, iterS]
      unfold f50l1s
      have e1 : (decide ((L : Int) < (s.size : Int))) = false := by simp; omega
      have n0 : ¬ (L < L) := by omega
      simp only [e1, cond_false, n0, if_false]
      rw [f82q (by omega) (by omega)]
      rfl
end Go.Proofs.Ytioagofpofamiaa
/-! Plain laws: packed and binary numbers read. -/
set_option linter.unusedVariables false
set_option linter.unusedSimpArgs false
namespace Go.Proofs.Ytioagofpofamiaa
open Go.Ab

def badP (s : ByteArray) (ln : Int) (i : Nat) : Bool := decide (half s i > 9) || (decide (i = 0) && (decide (ln % 2 = 0) && decide (half s i ≠ 0)))
abbrev R51 := (Int × ByteArray) × Int × Int

theorem f51step {s : ByteArray} {z : Nat} {ln sc m : Int} (hz : s.size = z) (h1 : z ≤ 16) (l0 : 0 ≤ ln) (i : Nat) (hi : i < 2 * z) (m0 : 0 ≤ m) (m1 : m ≤ 10000000000000000)
    (rec : ByteArray × Int × Int × Int × Int × Int × Int × ByteArray × Unit → Option R51) (k1 : Int × Int × ByteArray × Unit → Option R51) :
    f51l4s 1000 rec (fun w41 => some ((w41.2.2.2.1, w41.2.2.2.2.1), w41.1, w41.2.1)) k1 (s, m, (i : Int), 1, ln, sc, 0, ByteArray.empty, ()) =
      bif (bif decide (i = 2 * z - 1) then decide (half s i < 10) else decide (half s i > 9)) || (decide (i = 0) && (decide (ln % 2 = 0) && decide (half s i ≠ 0))) then some ((0, ByteArray.empty), atH i, 21)
      else rec (s, (bif decide (i = 2 * z - 1) then sgn m (half s i) else m * 10 + half s i), ((i + 1 : Nat) : Int), 1, ln, sc, 0, ByteArray.empty, ()) := by
  obtain ⟨b0, b1⟩ := bytes_get s (i / 2)
  obtain ⟨h0, h15⟩ := half_bound s i
  have w1 : IntKind.i64.wrap (2 * (s.size : Int)) = ((2 * z : Nat) : Int) := by rw [hz, wi (by omega) (by omega)]; omega
  have w2 : IntKind.i64.wrap (((2 * z : Nat) : Int) - 1) = ((2 * z - 1 : Nat) : Int) := by rw [wi (by omega) (by omega)]; omega
  have w3 : IntKind.i64.wrap (Int.tdiv (i : Int) 2) = ((i / 2 : Nat) : Int) := by rw [Int.tdiv_eq_ediv_of_nonneg (by omega), wi (by omega) (by omega)]; omega
  have e1 : (decide ((i : Int) < ((2 * z : Nat) : Int))) = true := by simp; omega
  have e0 : (decide ((0 : Int) ≤ ((i / 2 : Nat) : Int))) = true := by simp <;> omega
  have e2 : (decide (((i / 2 : Nat) : Int) < (s.size : Int))) = true := by simp; omega
  have wB : IntKind.i64.wrap ((bytesOf s).getD (i / 2) 0) = (bytesOf s).getD (i / 2) 0 := wi (by omega) (by omega)
  have wD : IntKind.i64.wrap (Int.tdiv ((bytesOf s).getD (i / 2) 0) 16) = (bytesOf s).getD (i / 2) 0 / 16 := by rw [Int.tdiv_eq_ediv_of_nonneg b0, wi (by omega) (by omega)]
  have wM : Int.tmod ((bytesOf s).getD (i / 2) 0) 16 = (bytesOf s).getD (i / 2) 0 % 16 := Int.tmod_eq_emod_of_nonneg b0
  have wI : IntKind.i64.wrap ((i : Int) + 1) = ((i + 1 : Nat) : Int) := by rw [wi (by omega) (by omega)]; rfl
  have wL : Int.tmod ln 2 = ln % 2 := Int.tmod_eq_emod_of_nonneg l0
  have wH : ∀ h : Int, 0 ≤ h → h ≤ 15 → IntKind.i64.wrap (IntKind.i64.wrap (10 * m) + h) = m * 10 + h := fun h a b => by rw [wi (x := 10 * m) (by omega) (by omega), wi (by omega) (by omega)]; omega
  have qL : ((i : Int) == ((2 * z - 1 : Nat) : Int)) = decide (i = 2 * z - 1) := by
    by_cases hh : i = 2 * z - 1
    · rw [decide_eq_true hh, hh]; simp
    · rw [decide_eq_false hh]; simp; omega
  have q0 : ((i : Int) == 0) = decide (i = 0) := by
    by_cases hh : i = 0
    · subst hh; rfl
    · rw [decide_eq_false hh]; simp; omega
  have qP : ((ln % 2 : Int) == 0) = decide (ln % 2 = 0) := by
    by_cases hh : ln % 2 = 0
    · rw [hh]; rfl
    · rw [decide_eq_false hh]; simpa using hh
  have qN : (half s i != 0) = decide (half s i ≠ 0) := by
    by_cases hh : half s i = 0
    · rw [hh]; rfl
    · rw [decide_eq_true hh]; simpa using hh
  unfold f51l4s f51p3 f51p0 f51p1 f51p2
  simp only [w1, e1, cond_true, w3, e0, e2, Bool.and_self, bt_get, wB, wD, wM, w2, qL, q0, wL, qP, wI]
  by_cases hp : i % 2 = 0
  · have p1 : ((Int.tmod (i : Int) 2) == 1) = false := by rw [Int.tmod_eq_emod_of_nonneg (by omega)]; simp; omega
    have hh : (bytesOf s).getD (i / 2) 0 / 16 = half s i := by unfold half; rw [if_pos hp]
    simp only [p1, cond_false, hh, wH _ h0 h15, qN]
    have f := f82q (m := m) (h := half s i) (by omega) (by omega)
    rw [f]
    simp only [bind_some']
    cases decide (i = 2 * z - 1) <;> cases decide (half s i < 10) <;> cases decide (half s i > 9) <;> cases decide (i = 0) <;> cases decide (ln % 2 = 0) <;> cases decide (half s i ≠ 0) <;> rfl
  · have p1 : ((Int.tmod (i : Int) 2) == 1) = true := by rw [Int.tmod_eq_emod_of_nonneg (by omega)]; simp; omega
    have hh : (bytesOf s).getD (i / 2) 0 % 16 = half s i := by unfold half; rw [if_neg hp]
    simp only [p1, cond_true, hh, wH _ h0 h15, qN]
    have f := f82q (m := m) (h := half s i) (by omega) (by omega)
    rw [f]
    simp only [bind_some']
    cases decide (i = 2 * z - 1) <;> cases decide (half s i < 10) <;> cases decide (half s i > 9) <;> cases decide (i = 0) <;> cases decide (ln % 2 = 0) <;> cases decide (half s i ≠ 0) <;> rfl

theorem f51q {s : ByteArray} {z : Nat} {ln sc : Int} (hz : s.size = z) (h0 : 1 ≤ z) (h1 : z ≤ 8) (l0 : 0 ≤ ln) : f51F 1000 ((1, ln, sc), s) = some (match decR (badP s ln) (half s) atH (2 * z - 1) with
    | (n, at_, e) => ((n, ByteArray.empty), at_, e)) := by
  unfold f51F f51l4
  have key := iter_scan (R := R51) (Step := fun rec v => f51l4s 1000 rec (fun w41 => some ((w41.2.2.2.1, w41.2.2.2.2.1), w41.1, w41.2.1)) (fun w42 => some ((w42.1, ByteArray.empty), (0 : Int), (0 : Int))) v)
    (fun i m => (s, m, (i : Int), 1, ln, sc, 0, ByteArray.empty, ())) (bad := badP s ln) (val := half s) (N := 2 * z - 1) (exit := fun j => some ((0, ByteArray.empty), atH j, 21))
    (fun i hi hbad => by
      simp only [badP, Bool.or_eq_false_iff, decide_eq_false_iff_not] at hbad
      exact ⟨(half_bound s i).1, by omega⟩)
    (fun rec i m hi m0 m1 => by
      have p := pow_le16 (i := i) (by omega)
      have := f51step (sc := sc) hz (by omega) l0 i (by omega) m0 (by omega) rec (fun w42 => some ((w42.1, ByteArray.empty), (0 : Int), (0 : Int)))
      rw [this]
      have nl : ¬ (i = 2 * z - 1) := by omega
      unfold badP
      simp only [nl, decide_false, cond_false])
    (r := 2 * z - 1) (i := 0) (k := 1000) (m := 0) (by omega) (by omega) (by omega) (by simp)
  refine Eq.trans key ?_
  unfold decR
  cases hsc : scanB (badP s ln) (half s) (2 * z - 1) 0 0 with
  | inl j => rfl
  | inr m =>
    simp only
    have mb := scanB_bound (N := 2 * z - 1) (fun i hi hbad => by
      simp only [badP, Bool.or_eq_false_iff, decide_eq_false_iff_not] at hbad
      exact ⟨(half_bound s i).1, by omega⟩) (by omega) (by omega) (by simp) hsc
    have p := pow_le16 (i := 0 + (2 * z - 1)) (by omega)
    obtain ⟨k, hk⟩ : ∃ k, 1000 - (2 * z - 1) = k + 1 + 1 := ⟨1000 - (2 * z - 1) - 2, by omega⟩
    rw [hk, iterS]
    have := f51step (sc := sc) hz (by omega) l0 (2 * z - 1) (by omega) mb.1 (by omega) (iterS (fun rec v => f51l4s 1000 rec (fun w41 => some ((w41.2.2.2.1, w41.2.2.2.2.1), w41.1, w41.2.1)) (fun w42 => some ((w42.1, ByteArray.empty), (0 : Int), (0 : Int))) v) (k + 1)) (fun w42 => some ((w42.1, ByteArray.empty), (0 : Int), (0 : Int)))
    rw [this]
    have n0 : ¬ (2 * z - 1 = 0) := by omega
    simp only [decide_true, cond_true, n0, decide_false, Bool.false_and, Bool.or_false]
    by_cases x1 : half s (2 * z - 1) < 10
    · simp [x1]
    · simp only [x1, decide_false, cond_false, if_false]
      rw [iterS]
      unfold f51l4s
      have w1 : IntKind.i64.wrap (2 * (s.size : Int)) = ((2 * z : Nat) : Int) := by rw [hz, wi (by omega) (by omega)]; omega
      have e1 : (decide (((2 * z - 1 + 1 : Nat) : Int) < ((2 * z : Nat) : Int))) = false := by simp; omega
      simp only [w1, e1, cond_false]

/-- Packed and zoned numbers: the code reads what the reference reads. -/
theorem dec1 {ln sc : Int} {s : ByteArray} (h0 : 1 ≤ ln) (h1 : ln ≤ 15) (hs : (s.size : Int) = ln / 2 + 1) : ∃ n a e, f46F 1000 ((1, ln, sc), s) = some (n, a, e) ∧ f51F 1000 ((1, ln, sc), s) = some ((n, ByteArray.empty), a, e) := by
  obtain ⟨z, hz⟩ : ∃ z, s.size = z := ⟨_, rfl⟩
  have hz0 : 1 ≤ z := by omega
  have hz1 : z ≤ 8 := by omega
  have hl : ((List.range (2 * z)).map (half s)).length = (2 * z - 1) + 1 := by simp; omega
  have al : ((List.range (2 * z)).map atH).length = (2 * z - 1) + 1 := by simp; omega
  have hg : ∀ i, i < 2 * z → ((List.range (2 * z)).map (half s)).getD i 0 = half s i := fun i hi => by simp [List.getD_eq_getElem?_getD, hi]
  have ag : ∀ i, i < 2 * z → ((List.range (2 * z)).map atH).getD i 0 = atH i := fun i hi => by simp [List.getD_eq_getElem?_getD, hi]
  have hb : ∀ i, 0 ≤ ((List.range (2 * z)).map (half s)).getD i 0 ∧ ((List.range (2 * z)).map (half s)).getD i 0 ≤ 15 := fun i => by
    by_cases hi : i < 2 * z
    · rw [hg i hi]; exact half_bound s i
    · rw [List.getD_eq_getElem?_getD, List.getElem?_eq_none (by simp; omega)]; decide
  have hv := halves1 (ln := ln) (sc := sc) s (by omega)
  rw [hz] at hv
  have A := f46q hv hl al (by omega) (by omega) (by omega) hb
  have B := f51q (ln := ln) (sc := sc) hz hz0 hz1 (by omega)
  have E : decR (badN (fun i => ((List.range (2 * z)).map (half s)).getD i 0) (2 * z - 1) ln) (fun i => ((List.range (2 * z)).map (half s)).getD i 0) (fun i => ((List.range (2 * z)).map atH).getD i 0) (2 * z - 1) = decR (badP s ln) (half s) atH (2 * z - 1) := by
    unfold decR
    have cg : scanB (badN (fun i => ((List.range (2 * z)).map (half s)).getD i 0) (2 * z - 1) ln) (fun i => ((List.range (2 * z)).map (half s)).getD i 0) (2 * z - 1) 0 0 = scanB (badP s ln) (half s) (2 * z - 1) 0 0 := scanB_congr fun j _ hj => by
      refine ⟨?_, hg j (by omega)⟩
      unfold badN badP
      simp only [hg j (by omega)]
      obtain ⟨c0, c1⟩ := half_bound s j
      congr 1
      rw [← Bool.decide_and, ← Bool.decide_and, ← Bool.decide_and, decide_eq_decide]
      omega
    rw [cg]
    cases hsc : scanB (badP s ln) (half s) (2 * z - 1) 0 0 with
    | inl j =>
      have := scanB_lt hsc
      simp only [ag j (by omega)]
    | inr m => simp only [hg (2 * z - 1) (by omega), ag (2 * z - 1) (by omega)]
  rw [E] at A
  exact ⟨_, _, _, A, B⟩

theorem dec2 {ln sc : Int} {s : ByteArray} (h0 : 1 ≤ ln) (h1 : ln ≤ 15) (hs : (s.size : Int) = ln) : ∃ n a e, f46F 1000 ((2, ln, sc), s) = some (n, a, e) ∧ f50F 1000 s = some ((n, ByteArray.empty), a, e) := by
  obtain ⟨L, hL⟩ : ∃ L, s.size = L := ⟨_, rfl⟩
  have hL0 : 1 ≤ L := by omega
  have hL1 : L ≤ 15 := by omega
  obtain ⟨g0, g1⟩ := bytes_get s (L - 1)
  have hl : ((List.range L).map (lowh s) ++ [(bytesOf s).getD (L - 1) 0 / 16]).length = L + 1 := by simp
  have al : ((List.range L).map atZ ++ [((L - 1 : Nat) : Int)]).length = L + 1 := by simp
  have hg : ∀ i, i ≤ L → ((List.range L).map (lowh s) ++ [(bytesOf s).getD (L - 1) 0 / 16]).getD i 0 = if i = L then (bytesOf s).getD (L - 1) 0 / 16 else lowh s i := fun i hi => by
    by_cases h : i = L
    · subst h; rw [if_pos rfl, List.getD_eq_getElem?_getD, List.getElem?_append_right (by simp)]; simp
    · rw [if_neg h, List.getD_eq_getElem?_getD, List.getElem?_append_left (by simp; omega)]; simp [show i < L by omega]
  have ag : ∀ i, i ≤ L → ((List.range L).map atZ ++ [((L - 1 : Nat) : Int)]).getD i 0 = if i = L then ((L - 1 : Nat) : Int) else (i : Int) := fun i hi => by
    by_cases h : i = L
    · subst h; rw [if_pos rfl, List.getD_eq_getElem?_getD, List.getElem?_append_right (by simp)]; simp
    · rw [if_neg h, List.getD_eq_getElem?_getD, List.getElem?_append_left (by simp; omega)]; simp [show i < L by omega, atZ]
  have hb : ∀ i, 0 ≤ ((List.range L).map (lowh s) ++ [(bytesOf s).getD (L - 1) 0 / 16]).getD i 0 ∧ ((List.range L).map (lowh s) ++ [(bytesOf s).getD (L - 1) 0 / 16]).getD i 0 ≤ 15 := fun i => by
    by_cases hi : i ≤ L
    · rw [hg i hi]
      have := bytes_get s i
      unfold lowh
      split <;> omega
    · rw [List.getD_eq_getElem?_getD, List.getElem?_eq_none (by rw [hl]; omega)]; decide
  have hv := halves2 (ln := ln) (sc := sc) s (by omega) (by omega)
  rw [hL] at hv
  have A := f46q hv hl al (by omega) (by omega) (by omega) hb
  have B := f50q hL hL0 (by omega)
  have E : decR (badN (fun i => ((List.range L).map (lowh s) ++ [(bytesOf s).getD (L - 1) 0 / 16]).getD i 0) L ln) (fun i => ((List.range L).map (lowh s) ++ [(bytesOf s).getD (L - 1) 0 / 16]).getD i 0) (fun i => ((List.range L).map atZ ++ [((L - 1 : Nat) : Int)]).getD i 0) L
      = decR (fun i => decide (lowh s i > 9)) (fun i => if i = L then (bytesOf s).getD (L - 1) 0 / 16 else lowh s i) (fun i => if i = L then ((L - 1 : Nat) : Int) else (i : Int)) L := by
    unfold decR
    have cg : scanB (badN (fun i => ((List.range L).map (lowh s) ++ [(bytesOf s).getD (L - 1) 0 / 16]).getD i 0) L ln) (fun i => ((List.range L).map (lowh s) ++ [(bytesOf s).getD (L - 1) 0 / 16]).getD i 0) L 0 0
        = scanB (fun i => decide (lowh s i > 9)) (fun i => if i = L then (bytesOf s).getD (L - 1) 0 / 16 else lowh s i) L 0 0 := scanB_congr fun j _ hj => by
      refine ⟨?_, hg j (by omega)⟩
      unfold badN
      simp only [hg j (by omega)]
      rw [if_neg (by omega)]
      have : ¬ ((j : Int) < (L : Int) - ln) := by omega
      simp [this]
    rw [cg]
    cases hsc : scanB (fun i => decide (lowh s i > 9)) (fun i => if i = L then (bytesOf s).getD (L - 1) 0 / 16 else lowh s i) L 0 0 with
    | inl j =>
      have := scanB_lt hsc
      simp only [ag j (by omega)]
    | inr m => simp only [hg L (by omega), ag L (by omega)]
  rw [E] at A
  exact ⟨_, _, _, A, B⟩
end Go.Proofs.Ytioagofpofamiaa
/-! Plain law: the value with bytes is as specified. -/
set_option linter.unusedVariables false
set_option linter.unusedSimpArgs false
namespace Go.Proofs.Ytioagofpofamiaa
open Go.Ab

theorem or256 {n c : Int} (n0 : -1099511627776 ≤ n) (n1 : n ≤ 1099511627776) (c0 : 0 ≤ c) (c1 : c ≤ 255) : bits .or .i64 (shlI .i64 n 8) c = n * 256 + c := by
  have hs : shlI .i64 n 8 = n * 256 := by
    unfold shlI
    rw [show min (8 : Int).toNat IntKind.i64.bits = 8 from rfl, show (2 : Int) ^ 8 = 256 from rfl, wi (by omega) (by omega)]
  rw [hs]
  unfold bits
  simp only
  have key : (BitVec.ofInt IntKind.i64.bits (n * 256) ||| BitVec.ofInt IntKind.i64.bits c).toNat = (((n * 256 + c) % 18446744073709551616)).toNat := by
    rw [BitVec.toNat_or]
    have e1 : (BitVec.ofInt IntKind.i64.bits (n * 256)).toNat = ((n % 72057594037927936).toNat) <<< 8 := by
      rw [BitVec.toNat_ofInt, Nat.shiftLeft_eq]
      show ((n * 256) % ((2 ^ 64 : Nat) : Int)).toNat = _
      have : ((2 ^ 64 : Nat) : Int) = 18446744073709551616 := rfl
      rw [this]
      omega
    have e2 : (BitVec.ofInt IntKind.i64.bits c).toNat = c.toNat := by
      rw [BitVec.toNat_ofInt]
      show (c % ((2 ^ 64 : Nat) : Int)).toNat = _
      have : ((2 ^ 64 : Nat) : Int) = 18446744073709551616 := rfl
      rw [this]
      omega
    rw [e1, e2, ← Nat.shiftLeft_add_eq_or_of_lt (by omega), Nat.shiftLeft_eq]
    omega
  rw [key, IntKind.wrap_i64]
  omega

theorem i8w : ∀ b : Fin 256, IntKind.i8.wrap (b.val : Int) = if (b.val : Int) ≥ 128 then (b.val : Int) - 256 else b.val := by decide +kernel
theorem i8w' {b : Int} (h0 : 0 ≤ b) (h1 : b ≤ 255) : IntKind.i8.wrap b = if b ≥ 128 then b - 256 else b := by
  have := i8w ⟨b.toNat, by omega⟩
  simp only at this
  rwa [show ((b.toNat : Nat) : Int) = b by omega] at this

/-- Bytes put together, the highest one first. -/
def fold (e : List Int) (n0 : Int) : Nat → Int
  | 0 => n0
  | i + 1 => fold e n0 i * 256 + e.getD i 0
theorem fold_bound {e : List Int} {n0 : Int} (h0 : -128 ≤ n0) (h1 : n0 ≤ 255) (he : ∀ i, 0 ≤ e.getD i 0 ∧ e.getD i 0 ≤ 255) : ∀ i, -(128 * 256 ^ i) ≤ fold e n0 i ∧ fold e n0 i ≤ 256 * 256 ^ i - 1
  | 0 => by simp [fold]; omega
  | i + 1 => by
    have := fold_bound h0 h1 he i
    have := he i
    simp only [fold, Int.pow_succ]
    omega
theorem p256 {i : Nat} (h : i ≤ 4) : (256 : Int) ^ i ≤ 4294967296 := by
  have : i = 0 ∨ i = 1 ∨ i = 2 ∨ i = 3 ∨ i = 4 := by omega
  rcases this with rfl | rfl | rfl | rfl | rfl <;> decide
theorem p256pos (i : Nat) : (0 : Int) < 256 ^ i := Int.pow_pos (by decide)

theorem bytes_tail (s : ByteArray) : bytesOf (s.extract 1 s.size) = (bytesOf s).drop 1 := by
  unfold bytesOf
  rw [← List.map_drop]
  congr 1
  rw [ByteArray.data_extract, Array.toList_extract, List.extract_eq_take_drop]
  exact List.take_of_length_le (by rw [List.length_drop]; exact Nat.le_refl _)

theorem f45q {s : ByteArray} (h0 : 1 ≤ s.size) (h1 : s.size ≤ 4) : f45F 1000 s = some (fold ((bytesOf s).drop 1) (if (bytesOf s).getD 0 0 ≥ 128 then (bytesOf s).getD 0 0 - 256 else (bytesOf s).getD 0 0) (s.size - 1)) := by
  obtain ⟨b0, b1⟩ := bytes_get s 0
  unfold f45F
  have c1 : (decide ((0 : Int) < (s.size : Int))) = true := by simp; omega
  have c2 : sliceBds 1 (s.size : Int) (s.size : Int) = true := by unfold sliceBds; simp; omega
  have hz : ((bytesOf s).drop 1).length = s.size - 1 := by rw [List.length_drop, bytes_len]
  have c3 : (decide ((s.extract 1 s.size).size ≤ 9223372036854775807)) = true := by
    have : (s.extract 1 s.size).size = s.size - 1 := by rw [← bytes_len, bytes_tail, hz]
    simp [this]; omega
  have hb0 : bt s 0 = (bytesOf s).getD 0 0 := bt_get s 0
  simp only [c1, c2, Int.toNat_natCast, c3, cond_true, bytes_tail, hz, hb0, i8w' b0 b1]
  have he : ∀ i, 0 ≤ ((bytesOf s).drop 1).getD i 0 ∧ ((bytesOf s).drop 1).getD i 0 ≤ 255 := fun i => by
    have := bytes_get s (1 + i)
    rw [List.getD_eq_getElem?_getD, List.getElem?_drop]
    rwa [List.getD_eq_getElem?_getD] at this
  have n0 : -128 ≤ (if (bytesOf s).getD 0 0 ≥ 128 then (bytesOf s).getD 0 0 - 256 else (bytesOf s).getD 0 0) ∧ (if (bytesOf s).getD 0 0 ≥ 128 then (bytesOf s).getD 0 0 - 256 else (bytesOf s).getD 0 0) ≤ 255 := by split <;> omega
  rw [wi (by omega) (by omega)]
  unfold f45l0
  have key := iter_for (R := Int) (Step := fun rec v => f45l0s 1000 rec (fun w2 => some w2.1) v) (fun i => (fold ((bytesOf s).drop 1) (if (bytesOf s).getD 0 0 ≥ 128 then (bytesOf s).getD 0 0 - 256 else (bytesOf s).getD 0 0) i, ((s.size - 1 : Nat) : Int), (i : Int), (bytesOf s).drop 1, ())) (s.size - 1)
    (fin := some (fold ((bytesOf s).drop 1) (if (bytesOf s).getD 0 0 ≥ 128 then (bytesOf s).getD 0 0 - 256 else (bytesOf s).getD 0 0) (s.size - 1))) ?_ ?_ (k := 1000) (by omega)
  · exact key
  · intro rec i hi
    have fb := fold_bound n0.1 n0.2 he i
    have p := p256 (i := i) (by omega)
    obtain ⟨c0, c1⟩ := he i
    unfold f45l0s
    have e1 : (decide ((i : Int) < ((s.size - 1 : Nat) : Int))) = true := by simp; omega
    have e0 : (decide ((0 : Int) ≤ (i : Int))) = true := by simp
    have e2 : (decide ((i : Int) < (((bytesOf s).drop 1).length : Int))) = true := by rw [hz]; exact e1
    simp only [e1, e0, e2, Bool.and_self, cond_true, Int.toNat_natCast]
    rw [wi (x := ((bytesOf s).drop 1).getD i 0) (by omega) (by omega), or256 (by omega) (by omega) c0 c1, wi (x := (i : Int) + 1) (by omega) (by omega)]
    rfl
  · intro rec
    unfold f45l0s
    have e1 : (decide (((s.size - 1 : Nat) : Int) < ((s.size - 1 : Nat) : Int))) = false := by simp
    simp only [e1, cond_false]

theorem f47q {s : ByteArray} (h1 : s.size ≤ 4) : f47F 1000 (s, 0, (s.size : Int)) = some (fold (bytesOf s) 0 s.size) := by
  unfold f47F f47l0
  have he : ∀ i, 0 ≤ (bytesOf s).getD i 0 ∧ (bytesOf s).getD i 0 ≤ 255 := bytes_get s
  have key := iter_for (R := Int) (Step := fun rec v => f47l0s 1000 rec (fun w2 => some w2.1) v) (fun i => (s, 0, (s.size : Int), fold (bytesOf s) 0 i, (i : Int), ())) s.size (fin := some (fold (bytesOf s) 0 s.size)) ?_ ?_ (k := 1000) (by omega)
  · exact key
  · intro rec i hi
    have fb := fold_bound (n0 := 0) (by decide) (by decide) he i
    have p := p256 (i := i) (by omega)
    obtain ⟨c0, c1⟩ := he i
    unfold f47l0s
    have e1 : (decide ((i : Int) < (s.size : Int))) = true := by simp; omega
    have e0 : (decide ((0 : Int) ≤ (i : Int))) = true := by simp
    have w0 : IntKind.i64.wrap (0 + (i : Int)) = i := by rw [wi (by omega) (by omega)]; omega
    simp only [e1, w0, e0, Bool.and_self, cond_true, bt_get]
    rw [wi (x := fold (bytesOf s) 0 i * 256) (by omega) (by omega), wi (x := (bytesOf s).getD i 0) (by omega) (by omega), wi (x := fold (bytesOf s) 0 i * 256 + (bytesOf s).getD i 0) (by omega) (by omega), wi (x := (i : Int) + 1) (by omega) (by omega)]
    rfl
  · intro rec
    unfold f47l0s
    have e1 : (decide ((s.size : Int) < (s.size : Int))) = false := by simp
    simp only [e1, cond_false]

/-- How many bytes values of a type have. -/
def szOf (kd ln : Int) : Int := if kd = 1 then ln / 2 + 1 else if kd = 3 then (if ln = 9 then 4 else 2) else ln
theorem size_q {kd ln sc : Int} (ht : tyErr kd ln sc = 0) (h4 : kd ≠ 4) : f44F 1000 (kd, ln, sc) = some (szOf kd ln) ∧ f31F 1000 (kd, ln, sc) = some (szOf kd ln) := by
  obtain ⟨a1, a2, a3, a4, a5, a6, a7, a8, a9⟩ := ty_ok ht
  have : kd = 0 ∨ kd = 1 ∨ kd = 2 ∨ kd = 3 := by omega
  rcases this with rfl | rfl | rfl | rfl
  · exact ⟨rfl, rfl⟩
  · obtain ⟨l0, l1⟩ := a4 (by omega)
    have w : IntKind.i64.wrap (IntKind.i64.wrap (Int.tdiv ln 2) + 1) = ln / 2 + 1 := by rw [Int.tdiv_eq_ediv_of_nonneg (by omega), wi (x := ln / 2) (by omega) (by omega), wi (by omega) (by omega)]
    constructor
    · show some (IntKind.i64.wrap (IntKind.i64.wrap (Int.tdiv ln 2) + 1)) = _
      rw [w]; rfl
    · show some (IntKind.i64.wrap (IntKind.i64.wrap (Int.tdiv ln 2) + 1)) = _
      rw [w]; rfl
  · exact ⟨rfl, rfl⟩
  · rcases a5 rfl with rfl | rfl <;> exact ⟨rfl, rfl⟩

theorem bin_eq {s : ByteArray} {z : Nat} (hz : s.size = z) (h : z = 2 ∨ z = 4) : fold ((bytesOf s).drop 1) (if (bytesOf s).getD 0 0 ≥ 128 then (bytesOf s).getD 0 0 - 256 else (bytesOf s).getD 0 0) (z - 1) = (if (bytesOf s).getD 0 0 ≥ 128 then fold (bytesOf s) 0 z - 2 ^ (8 * z) else fold (bytesOf s) 0 z) := by
  have hd : ∀ i, ((bytesOf s).drop 1).getD i 0 = (bytesOf s).getD (i + 1) 0 := fun i => by
    rw [List.getD_eq_getElem?_getD, List.getElem?_drop, List.getD_eq_getElem?_getD, Nat.add_comm]
  rcases h with rfl | rfl
  · simp only [fold, hd, Nat.reduceSub, Nat.reduceAdd]
    split <;> omega
  · simp only [fold, hd, Nat.reduceSub, Nat.reduceAdd]
    split <;> omega

theorem dec3 {ln sc : Int} {s : ByteArray} (hl : ln = 4 ∨ ln = 9) (ht : tyErr 3 ln sc = 0) (hs : (s.size : Int) = szOf 3 ln) : ∃ r, f16F 1000 ((3, ln, sc), s) = some r ∧ f17F 1000 ((3, ln, sc), s) = some r := by
  obtain ⟨g44, g31⟩ := size_q ht (by decide)
  obtain ⟨z, hz⟩ : ∃ z, s.size = z := ⟨_, rfl⟩
  have hz24 : z = 2 ∨ z = 4 := by
    unfold szOf at hs
    rcases hl with rfl | rfl
    · simp at hs; omega
    · simp at hs; omega
  have l0 : 1 ≤ ln := by omega
  have l1 : ln ≤ 15 := by omega
  have pb := pw_bound l0 l1
  obtain ⟨b0, b1⟩ := bytes_get s 0
  have F := f45q (s := s) (by omega) (by omega)
  have G := f47q (s := s) (by omega)
  rw [hz, bin_eq hz hz24] at F
  have hb0 : bt s 0 = (bytesOf s).getD 0 0 := bt_get s 0
  let n : Int := if (bytesOf s).getD 0 0 ≥ 128 then fold (bytesOf s) 0 z - 2 ^ (8 * z) else fold (bytesOf s) 0 z
  have fb := fold_bound (n0 := 0) (by decide) (by decide) (bytes_get s) z
  have p := p256 (i := z) (by omega)
  have e18 : ((s.size : Int) != szOf 3 ln) = false := by rw [hs]; simp
  refine ⟨if pw ln - 1 < n ∨ n < -(pw ln - 1) then (((0 : Int), ByteArray.empty), (0 : Int), (19 : Int)) else ((n, ByteArray.empty), 0, 0), ?_, ?_⟩
  · unfold f16F f16p0
    simp only [f28q, ht, f43q, f42q, bind_some', g44, e18, F, f29q]
    have hv : valErr 3 ln sc n ByteArray.empty = if pw ln - 1 < n ∨ n < -(pw ln - 1) then 19 else 0 := by
      unfold valErr
      rw [if_neg (by simp [ht]), if_neg (by decide), if_neg (by decide), strEq_self, if_neg (by decide)]
      split <;> split <;> first | rfl | omega
    have hv' : valErr 3 ln sc (if (bytesOf s).getD 0 0 ≥ 128 then fold (bytesOf s) 0 z - 2 ^ (8 * z) else fold (bytesOf s) 0 z) ByteArray.empty = if pw ln - 1 < n ∨ n < -(pw ln - 1) then 19 else 0 := hv
    rw [hv']
    by_cases hr : pw ln - 1 < n ∨ n < -(pw ln - 1)
    · rw [if_pos hr, if_pos hr]; rfl
    · rw [if_neg hr, if_neg hr]; rfl
  · unfold f17F f17p0
    rw [hz] at G e18
    have e0 : ((3 : Int) == 4) = false := rfl
    have e1 : ((3 : Int) == 0) = false := rfl
    have e2 : ((3 : Int) == 3) = true := rfl
    have c1 : (decide ((0 : Int) < (z : Int))) = true := by simp; omega
    have y0 : ((0 : Int) != 0) = false := rfl
    simp only [f27q, ht, bind_some', y0, e0, e1, e2, g31, cond_false, cond_true, hz, e18, G, c1, hb0, f49q l0 l1, f48q]
    have w8 : IntKind.i64.wrap (8 * (z : Int)) = 8 * (z : Int) := wi (by omega) (by omega)
    have c2 : (decide ((0 : Int) ≤ 8 * (z : Int))) = true := by simp; omega
    have sh : shlI .i64 1 (8 * (z : Int)) = 2 ^ (8 * z) := by rcases hz24 with rfl | rfl <;> rfl
    have pz : (2 : Int) ^ (8 * z) = 256 ^ z := by rcases hz24 with rfl | rfl <;> rfl
    rw [w8, c2, sh]
    simp only [cond_true]
    rw [wi (x := 0 - (pw ln - 1)) (by omega) (by omega)]
    by_cases hb : (bytesOf s).getD 0 0 ≥ 128
    · have hn : n = fold (bytesOf s) 0 z - 2 ^ (8 * z) := if_pos hb
      rw [decide_eq_true hb, wi (x := fold (bytesOf s) 0 z - 2 ^ (8 * z)) (by omega) (by omega), ← hn]
      simp only [cond_true]
      by_cases hr : pw ln - 1 < n ∨ n < -(pw ln - 1)
      · rw [if_pos hr, decide_eq_false (by omega)]; rfl
      · rw [if_neg hr, decide_eq_true (by omega)]; rfl
    · have hn : n = fold (bytesOf s) 0 z := if_neg hb
      rw [decide_eq_false hb, ← hn]
      simp only [cond_false]
      by_cases hr : pw ln - 1 < n ∨ n < -(pw ln - 1)
      · rw [if_pos hr, decide_eq_false (by omega)]; rfl
      · rw [if_neg hr, decide_eq_true (by omega)]; rfl

theorem f16q (kd ln sc : Int) (s : ByteArray) : ∃ r, f16F 1000 ((kd, ln, sc), s) = some r ∧ f17F 1000 ((kd, ln, sc), s) = some r := by
  by_cases ht : tyErr kd ln sc = 0
  · obtain ⟨a1, a2, a3, a4, a5, a6, a7, a8, a9⟩ := ty_ok ht
    by_cases h4 : kd = 4
    · subst h4
      refine ⟨(((0 : Int), ByteArray.empty), (0 : Int), (17 : Int)), ?_, ?_⟩
      · unfold f16F f16p0
        simp only [f28q, ht, f43q, f42q, bind_some']
        rfl
      · unfold f17F
        simp only [f27q, ht, bind_some']
        rfl
    · obtain ⟨g44, g31⟩ := size_q ht h4
      have k4 : (kd == 4) = false := by simpa using h4
      have y0 : ((0 : Int) != 0) = false := rfl
      have z0 : ((0 : Int) == 0) = true := rfl
      have tt : (if false = true then (17 : Int) else 0) = 0 := rfl
      have t0 : (if (0 : Int) = 0 then (0 : Int) else 0) = 0 := rfl
      by_cases hs : (s.size : Int) = szOf kd ln
      · have e18 : ((s.size : Int) != szOf kd ln) = false := by rw [hs]; simp
        have : kd = 0 ∨ kd = 1 ∨ kd = 2 ∨ kd = 3 := by omega
        rcases this with rfl | rfl | rfl | rfl
        · refine ⟨(((0 : Int), s), (0 : Int), (0 : Int)), ?_, ?_⟩
          · unfold f16F f16p0
            simp only [f28q, ht, f43q, f42q, bind_some', k4, tt, t0, z0, cond_true, g44, e18]
            rfl
          · unfold f17F
            simp only [f27q, ht, bind_some', y0, k4, cond_false, g31, e18]
            rfl
        · obtain ⟨l0, l1⟩ := a4 (by omega)
          obtain ⟨n, a, e, A, B⟩ := dec1 (sc := sc) l0 l1 hs
          refine ⟨((n, ByteArray.empty), a, e), ?_, ?_⟩
          · unfold f16F f16p0
            simp only [f28q, ht, f43q, f42q, bind_some', k4, tt, t0, z0, cond_true, g44, e18, A]
            rfl
          · unfold f17F
            simp only [f27q, ht, bind_some', y0, k4, cond_false, g31, e18, B]
            rfl
        · obtain ⟨l0, l1⟩ := a4 (by omega)
          obtain ⟨n, a, e, A, B⟩ := dec2 (sc := sc) l0 l1 hs
          refine ⟨((n, ByteArray.empty), a, e), ?_, ?_⟩
          · unfold f16F f16p0
            simp only [f28q, ht, f43q, f42q, bind_some', k4, tt, t0, z0, cond_true, g44, e18, A]
            rfl
          · unfold f17F
            simp only [f27q, ht, bind_some', y0, k4, cond_false, g31, e18, B]
            rfl
        · exact dec3 (a5 rfl) ht hs
      · have e18 : ((s.size : Int) != szOf kd ln) = true := by simpa using hs
        refine ⟨(((0 : Int), ByteArray.empty), (0 : Int), (18 : Int)), ?_, ?_⟩
        · unfold f16F f16p0
          simp only [f28q, ht, f43q, f42q, bind_some', k4, tt, t0, z0, cond_true, g44, e18]
          rfl
        · unfold f17F
          simp only [f27q, ht, bind_some', y0, k4, cond_false, g31, e18]
          rfl
  · have hn : (tyErr kd ln sc != 0) = true := by simpa using ht
    have hz : (tyErr kd ln sc == 0) = false := by simpa using ht
    refine ⟨(((0 : Int), ByteArray.empty), (0 : Int), tyErr kd ln sc), ?_, ?_⟩
    · unfold f16F f16p0
      simp only [f28q, f43q, f42q, bind_some', if_neg ht, hz, cond_false, hn, cond_true]
    · unfold f17F
      simp only [f27q, bind_some', hn, cond_true]

theorem decodes (x : (Int × (Int × Int)) × ByteArray) : f4F 1000 x = some true := by
  obtain ⟨⟨kd, ln, sc⟩, s⟩ := x
  unfold f4F
  obtain ⟨r, h1, h2⟩ := f16q kd ln sc s
  simp only [awake_ok, bind_some', h1, h2]
  by_cases hs : (s.size : Int) > 700
  · simp [hs]
  · simp [hs, strEq_self]
end Go.Proofs.Ytioagofpofamiaa
/-! Plain laws: words of 64 bits, and amounts of four of them. -/
set_option linter.unusedVariables false
set_option linter.unusedSimpArgs false
namespace Go.Proofs.Ytioagofpofamiaa
open Go.Ab

theorem wu64 (x : Int) : IntKind.u64.wrap x = x % 18446744073709551616 := by
  simp [IntKind.wrap, IntKind.signed, IntKind.bits]
theorem shr64 {x : Int} {n : Nat} (hn : n ≤ 64) : shrI .u64 x (n : Int) = x / 2 ^ n := by
  unfold shrI
  rw [show IntKind.u64.bits = 64 from rfl, Int.toNat_natCast, Nat.min_eq_left hn, Int.fdiv_eq_ediv_of_nonneg _ (Int.le_of_lt (Int.pow_pos (by decide)))]
theorem and_mask {x : Int} (h0 : 0 ≤ x) (h1 : x < 18446744073709551616) {n : Nat} (hn : n ≤ 64) : bits .and .u64 x (2 ^ n - 1) = x % 2 ^ n := by
  unfold bits
  simp only
  have e : (BitVec.ofInt IntKind.u64.bits x &&& BitVec.ofInt IntKind.u64.bits (2 ^ n - 1)).toNat = x.toNat % 2 ^ n := by
    rw [BitVec.toNat_and]
    have e1 : (BitVec.ofInt IntKind.u64.bits x).toNat = x.toNat := by
      rw [BitVec.toNat_ofInt]
      show (x % ((2 ^ 64 : Nat) : Int)).toNat = _
      rw [show ((2 ^ 64 : Nat) : Int) = 18446744073709551616 from rfl]
      omega
    have hp : (2 : Nat) ^ n ≤ 2 ^ 64 := Nat.pow_le_pow_right (by decide) hn
    have hp0 : 0 < (2 : Nat) ^ n := Nat.pow_pos (by decide)
    have ep : ((2 ^ n : Nat) : Int) = (2 : Int) ^ n := by simp
    have e2 : (BitVec.ofInt IntKind.u64.bits (2 ^ n - 1)).toNat = 2 ^ n - 1 := by
      rw [BitVec.toNat_ofInt]
      show (((2 : Int) ^ n - 1) % ((2 ^ 64 : Nat) : Int)).toNat = _
      rw [← ep, show ((2 ^ 64 : Nat) : Int) = 18446744073709551616 from rfl]
      have hp' : (2 : Nat) ^ n ≤ 18446744073709551616 := hp
      omega
    rw [e1, e2, Nat.and_two_pow_sub_one_eq_mod]
  rw [e, wu64]
  have hp0 : 0 < (2 : Nat) ^ n := Nat.pow_pos (by decide)
  have ep : ((2 ^ n : Nat) : Int) = (2 : Int) ^ n := by simp
  have : ((x.toNat % 2 ^ n : Nat) : Int) = x % 2 ^ n := by rw [Int.natCast_emod, ep, Int.toNat_of_nonneg h0]
  rw [this]
  have l0 := Int.emod_nonneg x (b := 2 ^ n) (by rw [← ep]; omega)
  have l1 : x % 2 ^ n ≤ x := by
    have a := Int.emod_add_mul_ediv x (2 ^ n)
    have b : 0 ≤ (2 : Int) ^ n * (x / 2 ^ n) := Int.mul_nonneg (by rw [← ep]; omega) (Int.ediv_nonneg h0 (by rw [← ep]; omega))
    omega
  omega
end Go.Proofs.Ytioagofpofamiaa
/-! Plain laws: products of words; amounts of four words. -/
set_option linter.unusedVariables false
set_option linter.unusedSimpArgs false
namespace Go.Proofs.Ytioagofpofamiaa
open Go.Ab

theorem mul_split (a b c d : Int) : (a * 4294967296 + b) * (c * 4294967296 + d) = a * c * 18446744073709551616 + (a * d + b * c) * 4294967296 + b * d := by
  rw [Int.add_mul, Int.mul_add, Int.mul_add]
  have e1 : a * 4294967296 * (c * 4294967296) = a * c * 18446744073709551616 := by
    rw [Int.mul_assoc a, Int.mul_left_comm 4294967296 c, ← Int.mul_assoc a c]
    rfl
  have e2 : a * 4294967296 * d = a * d * 4294967296 := Int.mul_right_comm a 4294967296 d
  have e3 : b * (c * 4294967296) = b * c * 4294967296 := (Int.mul_assoc b c _).symm
  rw [e1, e2, e3, Int.add_mul]
  omega
theorem mul_bound {a b : Int} (a0 : 0 ≤ a) (a1 : a ≤ 4294967295) (b0 : 0 ≤ b) (b1 : b ≤ 4294967295) : 0 ≤ a * b ∧ a * b ≤ 18446744065119617025 :=
  ⟨Int.mul_nonneg a0 b0, by
    have h1 : a * b ≤ 4294967295 * b := Int.mul_le_mul_of_nonneg_right a1 b0
    omega⟩

theorem f111q (k : Nat) {x y : Int} (x0 : 0 ≤ x) (x1 : x < 18446744073709551616) (y0 : 0 ≤ y) (y1 : y < 18446744073709551616) : f111F k (x, y) = some (x * y / 18446744073709551616, x * y % 18446744073709551616) := by
  unfold f111F
  have m32 : ∀ {z : Int}, 0 ≤ z → z < 18446744073709551616 → bits .and .u64 z 4294967295 = z % 4294967296 := fun a b => and_mask a b (n := 32) (by decide)
  have s32 : ∀ z : Int, shrI .u64 z 32 = z / 4294967296 := fun z => shr64 (n := 32) (by decide)
  simp only [s32, m32 x0 x1, m32 y0 y1, wu64]
  have ex : x = x / 4294967296 * 4294967296 + x % 4294967296 := by omega
  have ey : y = y / 4294967296 * 4294967296 + y % 4294967296 := by omega
  have exy : x * y = (x / 4294967296) * (y / 4294967296) * 18446744073709551616 + ((x / 4294967296) * (y % 4294967296) + (x % 4294967296) * (y / 4294967296)) * 4294967296 + (x % 4294967296) * (y % 4294967296) := by
    rw [← mul_split, ← ex, ← ey]
  obtain ⟨a0, a1⟩ := mul_bound (a := x % 4294967296) (b := y % 4294967296) (by omega) (by omega) (by omega) (by omega)
  obtain ⟨b0, b1⟩ := mul_bound (a := x / 4294967296) (b := y % 4294967296) (by omega) (by omega) (by omega) (by omega)
  obtain ⟨c0, c1⟩ := mul_bound (a := x % 4294967296) (b := y / 4294967296) (by omega) (by omega) (by omega) (by omega)
  obtain ⟨d0, d1⟩ := mul_bound (a := x / 4294967296) (b := y / 4294967296) (by omega) (by omega) (by omega) (by omega)
  generalize (x % 4294967296) * (y % 4294967296) = p00 at *
  generalize (x / 4294967296) * (y % 4294967296) = p10 at *
  generalize (x % 4294967296) * (y / 4294967296) = p01 at *
  generalize (x / 4294967296) * (y / 4294967296) = p11 at *
  generalize x * y = q at *
  rw [m32 (by omega) (by omega)]
  congr 2
  omega
end Go.Proofs.Ytioagofpofamiaa
/-! Plain laws: amounts of four words as numbers. -/
set_option linter.unusedVariables false
set_option linter.unusedSimpArgs false
namespace Go.Proofs.Ytioagofpofamiaa
open Go.Ab

abbrev Wd := Int × Int × Int × Int
def W (a : Wd) : Int := a.1 + a.2.1 * 18446744073709551616 + a.2.2.1 * 340282366920938463463374607431768211456 + a.2.2.2 * 6277101735386680763835789423207666416102355444464034512896
structure OkW (a : Wd) : Prop where
  a0 : 0 ≤ a.1
  b0 : a.1 < 18446744073709551616
  a1 : 0 ≤ a.2.1
  b1 : a.2.1 < 18446744073709551616
  a2 : 0 ≤ a.2.2.1
  b2 : a.2.2.1 < 18446744073709551616
  a3 : 0 ≤ a.2.2.2
  b3 : a.2.2.2 < 18446744073709551616
def big : Int := 115792089237316195423570985008687907853269984665640564039457584007913129639936
theorem W_bound {a : Wd} (h : OkW a) : 0 ≤ W a ∧ W a < big := by
  obtain ⟨h1, h2, h3, h4, h5, h6, h7, h8⟩ := h
  unfold W big
  omega

theorem prod_bound {a n : Int} (a0 : 0 ≤ a) (a1 : a < 18446744073709551616) (n0 : 0 ≤ n) (n1 : n < 18446744073709551616) : 0 ≤ a * n ∧ a * n ≤ 340282366920938463426481119284349108225 :=
  ⟨Int.mul_nonneg a0 n0, by
    have h1 : a * n ≤ 18446744073709551615 * n := Int.mul_le_mul_of_nonneg_right (by omega) n0
    omega⟩

theorem f106q (k : Nat) {a : Wd} {n : Int} (h : OkW a) (n0 : 0 ≤ n) (n1 : n < 18446744073709551616) (hb : W a * n < big) : ∃ b, f106F k (a, n) = some b ∧ OkW b ∧ W b = W a * n := by
  obtain ⟨a0, a1, a2, a3⟩ := a
  obtain ⟨h1, h2, h3, h4, h5, h6, h7, h8⟩ := h
  simp only at h1 h2 h3 h4 h5 h6 h7 h8
  obtain ⟨p0, q0⟩ := prod_bound h1 h2 n0 n1
  obtain ⟨p1, q1⟩ := prod_bound h3 h4 n0 n1
  obtain ⟨p2, q2⟩ := prod_bound h5 h6 n0 n1
  obtain ⟨p3, q3⟩ := prod_bound h7 h8 n0 n1
  have hW : W (a0, a1, a2, a3) * n = a0 * n + a1 * n * 18446744073709551616 + a2 * n * 340282366920938463463374607431768211456 + a3 * n * 6277101735386680763835789423207666416102355444464034512896 := by
    unfold W
    simp only [Int.add_mul]
    rw [Int.mul_right_comm a1, Int.mul_right_comm a2, Int.mul_right_comm a3]
  rw [hW] at hb ⊢
  unfold f106F
  simp only [f111q k h1 h2 n0 n1, f111q k h3 h4 n0 n1, f111q k h5 h6 n0 n1, f111q k h7 h8 n0 n1, bind_some', wu64]
  generalize a0 * n = r0 at *
  generalize a1 * n = r1 at *
  generalize a2 * n = r2 at *
  generalize a3 * n = r3 at *
  unfold big at hb
  have t2 : (r0 / 18446744073709551616 + (r0 % 18446744073709551616 + 0 + 0) / 18446744073709551616) % 18446744073709551616 = r0 / 18446744073709551616 := by omega
  rw [t2]
  have c0 : (decide ((0 : Int) ≤ r0 % 18446744073709551616) && (decide ((0 : Int) ≤ (0 : Int)) && (decide ((0 : Int) ≤ (0 : Int)) && decide ((0 : Int) ≤ 1)))) = true := by simp; omega
  have c1 : (decide ((0 : Int) ≤ r1 % 18446744073709551616) && (decide ((0 : Int) ≤ r0 / 18446744073709551616) && (decide ((0 : Int) ≤ (0 : Int)) && decide ((0 : Int) ≤ 1)))) = true := by simp; omega
  rw [c0, c1]
  simp only [cond_true]
  generalize e1 : (r1 / 18446744073709551616 + (r1 % 18446744073709551616 + r0 / 18446744073709551616 + 0) / 18446744073709551616) % 18446744073709551616 = u1
  have v1 : u1 = (r1 + r0 / 18446744073709551616) / 18446744073709551616 := by omega
  have c2 : (decide ((0 : Int) ≤ r2 % 18446744073709551616) && (decide ((0 : Int) ≤ u1) && (decide ((0 : Int) ≤ (0 : Int)) && decide ((0 : Int) ≤ 1)))) = true := by simp; omega
  rw [c2]
  simp only [cond_true]
  generalize e2 : (r2 / 18446744073709551616 + (r2 % 18446744073709551616 + u1 + 0) / 18446744073709551616) % 18446744073709551616 = u2
  have v2 : u2 = (r2 + u1) / 18446744073709551616 := by omega
  have c3 : (decide ((0 : Int) ≤ r3 % 18446744073709551616) && (decide ((0 : Int) ≤ u2) && (decide ((0 : Int) ≤ (0 : Int)) && decide ((0 : Int) ≤ 1)))) = true := by simp; omega
  rw [c3]
  simp only [cond_true]
  refine ⟨_, rfl, ⟨by simp only; omega, by simp only; omega, by simp only; omega, by simp only; omega, by simp only; omega, by simp only; omega, by simp only; omega, by simp only; omega⟩, ?_⟩
  unfold W
  simp only
  omega
end Go.Proofs.Ytioagofpofamiaa
/-! Plain laws: sums, differences, the order of amounts. -/
set_option linter.unusedVariables false
set_option linter.unusedSimpArgs false
namespace Go.Proofs.Ytioagofpofamiaa
open Go.Ab

theorem f87q (k : Nat) {a b : Wd} (h : OkW a) (g : OkW b) (hb : W a + W b < big) : ∃ c, f87F k (a, b) = some c ∧ OkW c ∧ W c = W a + W b := by
  obtain ⟨a0, a1, a2, a3⟩ := a
  obtain ⟨b0, b1, b2, b3⟩ := b
  obtain ⟨h1, h2, h3, h4, h5, h6, h7, h8⟩ := h
  obtain ⟨g1, g2, g3, g4, g5, g6, g7, g8⟩ := g
  simp only at h1 h2 h3 h4 h5 h6 h7 h8 g1 g2 g3 g4 g5 g6 g7 g8
  unfold W big at hb
  simp only at hb
  unfold f87F
  simp only
  have c0 : (decide ((0 : Int) ≤ a0) && (decide ((0 : Int) ≤ b0) && (decide ((0 : Int) ≤ (0 : Int)) && decide ((0 : Int) ≤ 1)))) = true := by simp; omega
  rw [c0]
  simp only [cond_true]
  generalize e1 : (a0 + b0 + 0) / 18446744073709551616 = k1
  have c1 : (decide ((0 : Int) ≤ a1) && (decide ((0 : Int) ≤ b1) && (decide ((0 : Int) ≤ k1) && decide (k1 ≤ 1)))) = true := by simp; omega
  rw [c1]
  simp only [cond_true]
  generalize e2 : (a1 + b1 + k1) / 18446744073709551616 = k2
  have c2 : (decide ((0 : Int) ≤ a2) && (decide ((0 : Int) ≤ b2) && (decide ((0 : Int) ≤ k2) && decide (k2 ≤ 1)))) = true := by simp; omega
  rw [c2]
  simp only [cond_true]
  generalize e3 : (a2 + b2 + k2) / 18446744073709551616 = k3
  have c3 : (decide ((0 : Int) ≤ a3) && (decide ((0 : Int) ≤ b3) && (decide ((0 : Int) ≤ k3) && decide (k3 ≤ 1)))) = true := by simp; omega
  rw [c3]
  simp only [cond_true]
  refine ⟨_, rfl, ⟨by simp only; omega, by simp only; omega, by simp only; omega, by simp only; omega, by simp only; omega, by simp only; omega, by simp only; omega, by simp only; omega⟩, ?_⟩
  unfold W
  simp only
  omega

theorem f107q (k : Nat) {a b : Wd} (h : OkW a) (g : OkW b) (hb : W b ≤ W a) : ∃ c, f107F k (a, b) = some c ∧ OkW c ∧ W c = W a - W b := by
  obtain ⟨a0, a1, a2, a3⟩ := a
  obtain ⟨b0, b1, b2, b3⟩ := b
  obtain ⟨h1, h2, h3, h4, h5, h6, h7, h8⟩ := h
  obtain ⟨g1, g2, g3, g4, g5, g6, g7, g8⟩ := g
  simp only at h1 h2 h3 h4 h5 h6 h7 h8 g1 g2 g3 g4 g5 g6 g7 g8
  unfold W at hb
  simp only at hb
  unfold f107F
  simp only
  have c0 : (decide ((0 : Int) ≤ a0) && (decide ((0 : Int) ≤ b0) && (decide (b0 ≤ 18446744073709551615) && (decide ((0 : Int) ≤ (0 : Int)) && decide ((0 : Int) ≤ 1))))) = true := by simp; omega
  rw [c0]
  simp only [cond_true]
  generalize e1 : (if a0 < b0 + 0 then (1 : Int) else 0) = k1
  have x1 : 0 ≤ k1 ∧ k1 ≤ 1 ∧ (k1 = 1 ↔ a0 < b0) := by rw [← e1]; split <;> omega
  have c1 : (decide ((0 : Int) ≤ a1) && (decide ((0 : Int) ≤ b1) && (decide (b1 ≤ 18446744073709551615) && (decide ((0 : Int) ≤ k1) && decide (k1 ≤ 1))))) = true := by simp; omega
  rw [c1]
  simp only [cond_true]
  generalize e2 : (if a1 < b1 + k1 then (1 : Int) else 0) = k2
  have x2 : 0 ≤ k2 ∧ k2 ≤ 1 ∧ (k2 = 1 ↔ a1 < b1 + k1) := by rw [← e2]; split <;> omega
  have c2 : (decide ((0 : Int) ≤ a2) && (decide ((0 : Int) ≤ b2) && (decide (b2 ≤ 18446744073709551615) && (decide ((0 : Int) ≤ k2) && decide (k2 ≤ 1))))) = true := by simp; omega
  rw [c2]
  simp only [cond_true]
  generalize e3 : (if a2 < b2 + k2 then (1 : Int) else 0) = k3
  have x3 : 0 ≤ k3 ∧ k3 ≤ 1 ∧ (k3 = 1 ↔ a2 < b2 + k2) := by rw [← e3]; split <;> omega
  have c3 : (decide ((0 : Int) ≤ a3) && (decide ((0 : Int) ≤ b3) && (decide (b3 ≤ 18446744073709551615) && (decide ((0 : Int) ≤ k3) && decide (k3 ≤ 1))))) = true := by simp; omega
  rw [c3]
  simp only [cond_true]
  refine ⟨_, rfl, ⟨by simp only; omega, by simp only; omega, by simp only; omega, by simp only; omega, by simp only; omega, by simp only; omega, by simp only; omega, by simp only; omega⟩, ?_⟩
  unfold W
  simp only
  omega

theorem f63q (k : Nat) {a b : Wd} (h : OkW a) (g : OkW b) : f63F k (a, b) = some (if W a < W b then -1 else if W b < W a then 1 else 0) := by
  obtain ⟨a0, a1, a2, a3⟩ := a
  obtain ⟨b0, b1, b2, b3⟩ := b
  obtain ⟨h1, h2, h3, h4, h5, h6, h7, h8⟩ := h
  obtain ⟨g1, g2, g3, g4, g5, g6, g7, g8⟩ := g
  simp only at h1 h2 h3 h4 h5 h6 h7 h8 g1 g2 g3 g4 g5 g6 g7 g8
  unfold f63F W
  simp only [cond_eq_ite, decide_eq_true_eq]
  repeat' split
  all_goals first | rfl | omega
end Go.Proofs.Ytioagofpofamiaa
/-! Plain laws: amounts times a power of ten. -/
set_option linter.unusedVariables false
set_option linter.unusedSimpArgs false
namespace Go.Proofs.Ytioagofpofamiaa
open Go.Ab

theorem f85go (n : Nat) (hn : n ≤ 900) : ∀ (d i k : Nat) (a : Wd), i + d = n → d < k → OkW a → W a * 10 ^ d < big →
    ∃ b, iterS (fun rec v => f85l0s 1000 rec (fun (w2 : Int × Int × Int × Int × Int × Int × Int × Int × Unit) => some (w2.1, (w2.2.1, (w2.2.2.1, w2.2.2.2.1)))) v) k ((n : Int), (i : Int), a.1, a.2.1, a.2.2.1, a.2.2.2, 0, 0, 0, 0, ()) = some b ∧ OkW b ∧ W b = W a * 10 ^ d := by
  intro d
  induction d with
  | zero =>
    intro i k a hi hk ha hb
    obtain ⟨k, rfl⟩ : ∃ k', k = k' + 1 := ⟨k - 1, by omega⟩
    refine ⟨a, ?_, ha, by simp⟩
    rw [iterS]
    unfold f85l0s
    have e1 : (decide ((i : Int) < (n : Int))) = false := by simp; omega
    simp only [e1, cond_false]
  | succ d ih =>
    intro i k a hi hk ha hb
    obtain ⟨k, rfl⟩ : ∃ k', k = k' + 1 := ⟨k - 1, by omega⟩
    have hw := W_bound ha
    have hp : (1 : Int) ≤ 10 ^ d := Int.pow_pos (by decide)
    have hs : W a * 10 ^ (d + 1) = W a * 10 * 10 ^ d := by rw [Int.pow_succ, Int.mul_comm (10 ^ d) 10, Int.mul_assoc]
    rw [hs] at hb ⊢
    have hle : W a * 10 ≤ W a * 10 * 10 ^ d := by
      have := Int.mul_le_mul_of_nonneg_left hp (show 0 ≤ W a * 10 by omega)
      omega
    obtain ⟨c, hc, hok, hW⟩ := f106q 1000 (a := a) (n := 10) ha (by decide) (by decide) (by omega)
    rw [← hW] at hb ⊢
    obtain ⟨b, h1, h2, h3⟩ := ih (i + 1) k c (by omega) (by omega) hok hb
    refine ⟨b, ?_, h2, h3⟩
    rw [iterS]
    show f85l0s 1000 _ _ _ = _
    unfold f85l0s
    have e1 : (decide ((i : Int) < (n : Int))) = true := by simp; omega
    simp only [e1, cond_true]
    have hc' : f106F 1000 ((a.1, (a.2.1, (a.2.2.1, a.2.2.2))), 10) = some c := hc
    rw [hc', bind_some', wi (x := (i : Int) + 1) (by omega) (by omega)]
    exact h1

theorem f85q {a : Wd} {n : Nat} (h : OkW a) (hn : n ≤ 900) (hb : W a * 10 ^ n < big) : ∃ b, f85F 1000 (a, (n : Int)) = some b ∧ OkW b ∧ W b = W a * 10 ^ n := by
  unfold f85F f85l0
  exact f85go n hn n 0 1000 a (by omega) (by omega) h hb
end Go.Proofs.Ytioagofpofamiaa
/-! Plain laws: bits of words put together. -/
set_option linter.unusedVariables false
set_option linter.unusedSimpArgs false
namespace Go.Proofs.Ytioagofpofamiaa
open Go.Ab

theorem or_low {x b : Int} {t : Nat} (ht : t ≤ 64) (x0 : 0 ≤ x) (x1 : x < 18446744073709551616) (hx : x % 2 ^ t = 0) (b0 : 0 ≤ b) (b1 : b < 2 ^ t) : bits .or .u64 x b = x + b := by
  have ep : ((2 ^ t : Nat) : Int) = (2 : Int) ^ t := by simp
  have hp0 : 0 < (2 : Nat) ^ t := Nat.pow_pos (by decide)
  have hp : (2 : Nat) ^ t ≤ 2 ^ 64 := Nat.pow_le_pow_right (by decide) ht
  have hp' : (2 : Nat) ^ t ≤ 18446744073709551616 := hp
  obtain ⟨q, hq⟩ : ∃ q, x = (2 : Int) ^ t * q := ⟨x / 2 ^ t, by have := Int.emod_add_mul_ediv x (2 ^ t); omega⟩
  have hq0 : 0 ≤ q := by
    rcases Int.lt_or_le q 0 with h | h
    · have : (2 : Int) ^ t * q < 0 := Int.mul_neg_of_pos_of_neg (by rw [← ep]; omega) h
      omega
    · exact h
  unfold bits
  simp only
  have e : (BitVec.ofInt IntKind.u64.bits x ||| BitVec.ofInt IntKind.u64.bits b).toNat = x.toNat + b.toNat := by
    rw [BitVec.toNat_or]
    have e1 : ∀ z : Int, 0 ≤ z → z < 18446744073709551616 → (BitVec.ofInt IntKind.u64.bits z).toNat = z.toNat := by
      intro z z0 z1
      rw [BitVec.toNat_ofInt]
      show (z % ((2 ^ 64 : Nat) : Int)).toNat = _
      rw [show ((2 ^ 64 : Nat) : Int) = 18446744073709551616 from rfl]
      omega
    rw [e1 x x0 x1, e1 b b0 (by rw [← ep] at b1; omega)]
    have hxq : x.toNat = q.toNat <<< t := by
      rw [Nat.shiftLeft_eq]
      have : x = ((q.toNat * 2 ^ t : Nat) : Int) := by rw [hq, Int.natCast_mul, ep, Int.toNat_of_nonneg hq0, Int.mul_comm]
      rw [this, Int.toNat_natCast]
    rw [hxq, Nat.shiftLeft_add_eq_or_of_lt (by rw [← ep] at b1; omega)]
  rw [e, wu64]
  -- no carry
  have hlt : x + b < 18446744073709551616 := by
    obtain ⟨c, hc⟩ : ∃ c : Nat, 2 ^ t * c = 18446744073709551616 := ⟨2 ^ (64 - t), by rw [← Nat.pow_add, show t + (64 - t) = 64 by omega]⟩
    have hc' : (2 : Int) ^ t * (c : Int) = 18446744073709551616 := by rw [← ep, ← Int.natCast_mul, hc]; rfl
    have hqc : q < c := by
      rcases Int.lt_or_le q c with h | h
      · exact h
      · have := Int.mul_le_mul_of_nonneg_left h (show (0 : Int) ≤ 2 ^ t by rw [← ep]; omega)
        omega
    have h2 := Int.mul_le_mul_of_nonneg_left (show q + 1 ≤ (c : Int) by omega) (show (0 : Int) ≤ 2 ^ t by rw [← ep]; omega)
    rw [Int.mul_add] at h2
    omega
  omega
end Go.Proofs.Ytioagofpofamiaa
/-! Plain laws: the words of an amount, and their bits. -/
set_option linter.unusedVariables false
set_option linter.unusedSimpArgs false
namespace Go.Proofs.Ytioagofpofamiaa
open Go.Ab

def wordsL (a : Wd) : List Int := [a.1, a.2.1, a.2.2.1, a.2.2.2]
theorem word_get {a : Wd} (h : OkW a) {j : Nat} (hj : j < 4) : (wordsL a).getD j 0 = W a / 18446744073709551616 ^ j % 18446744073709551616 := by
  obtain ⟨h1, h2, h3, h4, h5, h6, h7, h8⟩ := h
  unfold W wordsL
  have : j = 0 ∨ j = 1 ∨ j = 2 ∨ j = 3 := by omega
  rcases this with rfl | rfl | rfl | rfl
  · show a.1 = _ / 1 % _
    omega
  · show a.2.1 = _ / 18446744073709551616 % _
    omega
  · show a.2.2.1 = _ / 340282366920938463463374607431768211456 % _
    omega
  · show a.2.2.2 = _ / 6277101735386680763835789423207666416102355444464034512896 % _
    omega

theorem mod_bit {X : Int} (h : 0 ≤ X) {s : Nat} (hs : s < 64) : X % 18446744073709551616 / 2 ^ s % 2 = X / 2 ^ s % 2 := by
  obtain ⟨x, rfl⟩ := Int.eq_ofNat_of_zero_le h
  have e1 : ((x : Int) % 18446744073709551616 / 2 ^ s % 2) = (((x % 2 ^ 64) / 2 ^ s % 2 : Nat) : Int) := by
    rw [Int.natCast_emod, Int.natCast_ediv, Int.natCast_emod, Int.natCast_pow]; rfl
  have e2 : ((x : Int) / 2 ^ s % 2) = ((x / 2 ^ s % 2 : Nat) : Int) := by
    rw [Int.natCast_emod, Int.natCast_ediv, Int.natCast_pow]; rfl
  rw [e1, e2]
  have t := Nat.testBit_mod_two_pow x 64 s
  rw [decide_eq_true hs, Bool.true_and, Nat.testBit_eq_decide_div_mod_eq, Nat.testBit_eq_decide_div_mod_eq, decide_eq_decide] at t
  have u1 : x % 2 ^ 64 / 2 ^ s % 2 < 2 := Nat.mod_lt _ (by decide)
  have u2 : x / 2 ^ s % 2 < 2 := Nat.mod_lt _ (by decide)
  have : x % 2 ^ 64 / 2 ^ s % 2 = x / 2 ^ s % 2 := by
    by_cases hh : x / 2 ^ s % 2 = 1
    · rw [hh]; exact t.2 hh
    · have : ¬ (x % 2 ^ 64 / 2 ^ s % 2 = 1) := fun h => hh (t.1 h)
      omega
  rw [this]

theorem mod_zero {X : Int} {s : Nat} (hs : s ≤ 64) (h : X % 2 ^ s = 0) : X % 18446744073709551616 % 2 ^ s = 0 := by
  have : (18446744073709551616 : Int) = 2 ^ s * 2 ^ (64 - s) := by
    rw [← Int.pow_add, show s + (64 - s) = 64 by omega]
    rfl
  rw [Int.emod_emod_of_dvd _ ⟨_, this⟩]
  exact h
end Go.Proofs.Ytioagofpofamiaa
/-! Plain laws: amounts divided, a bit at a time. -/
set_option linter.unusedVariables false
set_option linter.unusedSimpArgs false
namespace Go.Proofs.Ytioagofpofamiaa
open Go.Ab

theorem pow_word (j s : Nat) : (2 : Int) ^ (64 * j + s) = 18446744073709551616 ^ j * 2 ^ s := by
  rw [Int.pow_add, Int.pow_mul]
  rfl
theorem div_word (X : Int) (j s : Nat) : X / 2 ^ (64 * j + s) = X / 18446744073709551616 ^ j / 2 ^ s := by
  rw [pow_word, Int.ediv_ediv_of_nonneg (Int.le_of_lt (Int.pow_pos (by decide)))]
theorem shl1 {s : Nat} (hs : s < 64) : shlI .u64 1 (s : Int) = 2 ^ s := by
  unfold shlI
  rw [show IntKind.u64.bits = 64 from rfl, Int.toNat_natCast, Nat.min_eq_left (Nat.le_of_lt hs), wu64, Int.one_mul]
  have hp : (2 : Nat) ^ s < 2 ^ 64 := Nat.pow_lt_pow_right (by decide) hs
  have ep : ((2 ^ s : Nat) : Int) = (2 : Int) ^ s := by simp
  have hp' : (2 : Nat) ^ s < 18446744073709551616 := hp
  have hp2 : (2 : Int) ^ s < 18446744073709551616 := by rw [← ep]; exact Int.ofNat_lt.2 hp'
  exact Int.emod_eq_of_lt (Int.le_of_lt (Int.pow_pos (by decide))) hp2

/-- A word of an amount turned. -/
def setW (q : Wd) (j : Nat) (z : Int) : Wd := (bif Nat.beq j 0 then z else q.1, bif Nat.beq j 1 then z else q.2.1, bif Nat.beq j 2 then z else q.2.2.1, bif Nat.beq j 3 then z else q.2.2.2)
theorem setW_ok {q : Wd} (h : OkW q) {j : Nat} (hj : j < 4) {z : Int} (z0 : 0 ≤ z) (z1 : z < 18446744073709551616) : OkW (setW q j z) ∧ W (setW q j z) = W q + (z - (wordsL q).getD j 0) * 18446744073709551616 ^ j := by
  obtain ⟨h1, h2, h3, h4, h5, h6, h7, h8⟩ := h
  have : j = 0 ∨ j = 1 ∨ j = 2 ∨ j = 3 := by omega
  rcases this with rfl | rfl | rfl | rfl
  · refine ⟨⟨z0, z1, h3, h4, h5, h6, h7, h8⟩, ?_⟩
    show z + q.2.1 * _ + q.2.2.1 * _ + q.2.2.2 * _ = W q + (z - q.1) * 1
    unfold W; omega
  · refine ⟨⟨h1, h2, z0, z1, h5, h6, h7, h8⟩, ?_⟩
    show q.1 + z * _ + q.2.2.1 * _ + q.2.2.2 * _ = W q + (z - q.2.1) * 18446744073709551616
    unfold W; omega
  · refine ⟨⟨h1, h2, h3, h4, z0, z1, h7, h8⟩, ?_⟩
    show q.1 + q.2.1 * _ + z * _ + q.2.2.2 * _ = W q + (z - q.2.2.1) * 340282366920938463463374607431768211456
    unfold W; omega
  · refine ⟨⟨h1, h2, h3, h4, h5, h6, z0, z1⟩, ?_⟩
    show q.1 + q.2.1 * _ + q.2.2.1 * _ + z * _ = W q + (z - q.2.2.2) * 6277101735386680763835789423207666416102355444464034512896
    unfold W; omega

abbrev V17 := Int × Int × Int × Int × Int × Int × Int × Int × Int × Int × Int × Int × Int × Int × Int × Int × Int × Unit
def st17 (i : Int) (a b q r : Wd) : V17 := (i, a.1, a.2.1, a.2.2.1, a.2.2.2, b.1, b.2.1, b.2.2.1, b.2.2.2, q.1, q.2.1, q.2.2.1, q.2.2.2, r.1, r.2.1, r.2.2.1, r.2.2.2, ())

theorem f86step {R : Type} (rec : V17 → Option R) (k0 : Int × Int × Int × Int × Int × Int × Int × Int × Unit → Option R) {i : Nat} (hi : i < 256) {a b q r : Wd} (oa : OkW a) (ob : OkW b) (oq : OkW q) (or_ : OkW r) (hB : W b * 2 ≤ big) (hr : W r < W b) (hq : W q % 2 ^ (i + 1) = 0) :
    ∃ q' r', OkW q' ∧ OkW r' ∧ ((2 * W r + W a / 2 ^ i % 2 < W b ∧ W r' = 2 * W r + W a / 2 ^ i % 2 ∧ W q' = W q) ∨ (W b ≤ 2 * W r + W a / 2 ^ i % 2 ∧ W r' = 2 * W r + W a / 2 ^ i % 2 - W b ∧ W q' = W q + 2 ^ i)) ∧
      f86l1s 1000 rec k0 (st17 i a b q r) = rec (st17 ((i : Int) - 1) a b q' r') := by
  obtain ⟨j, s, hij, hj, hs⟩ : ∃ j s, i = 64 * j + s ∧ j < 4 ∧ s < 64 := ⟨i / 64, i % 64, by omega, by omega, by omega⟩
  have wj : IntKind.i64.wrap (Int.tdiv (i : Int) 64) = (j : Int) := by rw [Int.tdiv_eq_ediv_of_nonneg (by omega), wi (by omega) (by omega)]; omega
  have ws : Int.tmod (i : Int) 64 = (s : Int) := by rw [Int.tmod_eq_emod_of_nonneg (by omega)]; omega
  have wd : IntKind.i64.wrap ((i : Int) - 1) = (i : Int) - 1 := wi (by omega) (by omega)
  have c1 : (decide ((i : Int) ≥ 0)) = true := by simp
  have c2 : (decide ((0 : Int) ≤ (j : Int))) = true := by simp
  have c3 : (decide ((j : Int) < (4 : Int))) = true := by simp; omega
  have c4 : (decide ((0 : Int) ≤ (s : Int))) = true := by simp
  obtain ⟨A0, A1⟩ := W_bound oa
  obtain ⟨R0, R1⟩ := W_bound or_
  obtain ⟨y, hy, oy, Wy⟩ := f87q 1000 (a := r) (b := r) or_ or_ (by omega)
  have hy' : f87F 1000 ((r.1, (r.2.1, (r.2.2.1, r.2.2.2))), (r.1, (r.2.1, (r.2.2.1, r.2.2.2)))) = some y := hy
  -- the bit
  have ga := word_get oa hj
  have t2 : List.getD [a.1, a.2.1, a.2.2.1, a.2.2.2] j 0 = W a / 18446744073709551616 ^ j % 18446744073709551616 := ga
  have dA : 0 ≤ W a / 18446744073709551616 ^ j := Int.ediv_nonneg A0 (Int.le_of_lt (Int.pow_pos (by decide)))
  have hbit : bits .and .u64 (shrI .u64 (W a / 18446744073709551616 ^ j % 18446744073709551616) (s : Int)) 1 = W a / 2 ^ i % 2 := by
    rw [shr64 (by omega)]
    have z0 : 0 ≤ W a / 18446744073709551616 ^ j % 18446744073709551616 / 2 ^ s := Int.ediv_nonneg (by omega) (Int.le_of_lt (Int.pow_pos (by decide)))
    have z1 : W a / 18446744073709551616 ^ j % 18446744073709551616 / 2 ^ s ≤ W a / 18446744073709551616 ^ j % 18446744073709551616 := Int.ediv_le_self _ (by omega)
    have := and_mask (x := W a / 18446744073709551616 ^ j % 18446744073709551616 / 2 ^ s) z0 (by omega) (n := 1) (by decide)
    rw [show (2 : Int) ^ 1 - 1 = 1 from rfl, show (2 : Int) ^ 1 = 2 from rfl] at this
    rw [this, mod_bit dA hs, hij, div_word]
  generalize hbt : W a / 2 ^ i % 2 = bit at *
  have b0 : 0 ≤ bit ∧ bit < 2 := by rw [← hbt]; omega
  obtain ⟨y0, y1, y2, y3⟩ := y
  have oy' := oy
  obtain ⟨g1, g2, g3, g4, g5, g6, g7, g8⟩ := oy'
  simp only at g1 g2 g3 g4 g5 g6 g7 g8
  have hev : y0 % 2 ^ 1 = 0 := by
    unfold W at Wy
    simp only at Wy
    rw [show (2 : Int) ^ 1 = 2 from rfl]
    omega
  have t3 : bits .or .u64 y0 bit = y0 + bit := or_low (t := 1) (by decide) g1 g2 hev b0.1 (by rw [show (2 : Int) ^ 1 = 2 from rfl]; exact b0.2)
  rw [show (2 : Int) ^ 1 = 2 from rfl] at hev
  have ot : OkW (y0 + bit, y1, y2, y3) := ⟨by simp only; omega, by simp only; omega, g3, g4, g5, g6, g7, g8⟩
  have Wt : W (y0 + bit, y1, y2, y3) = 2 * W r + bit := by
    have : W (y0 + bit, y1, y2, y3) = W (y0, y1, y2, y3) + bit := by unfold W; simp only; omega
    rw [this, Wy]; omega
  have hc := f63q 1000 ot ob
  have hc' : f63F 1000 ((y0 + bit, (y1, (y2, y3))), (b.1, (b.2.1, (b.2.2.1, b.2.2.2)))) = _ := hc
  unfold f86l1s f86p0 st17
  simp only [c1, cond_true, hy', bind_some', wj, c2, c3, Bool.and_self, ws, c4, Int.toNat_natCast, t2, hbit, t3, hc', wd]
  rw [Wt]
  by_cases hlt : 2 * W r + bit < W b
  · rw [if_pos hlt]
    refine ⟨q, (y0 + bit, y1, y2, y3), oq, ot, .inl ⟨hlt, Wt, rfl⟩, ?_⟩
    rfl
  · rw [if_neg hlt]
    have hge : (decide ((if W b < 2 * W r + bit then (1 : Int) else 0) ≥ 0)) = true := by split <;> rfl
    rw [hge]
    obtain ⟨m, hm, om, Wm⟩ := f107q 1000 (a := (y0 + bit, y1, y2, y3)) (b := b) ot ob (by rw [Wt]; omega)
    have hm' : f107F 1000 ((y0 + bit, (y1, (y2, y3))), (b.1, (b.2.1, (b.2.2.1, b.2.2.2)))) = some m := hm
    simp only [cond_true, hm', bind_some']
    have gq := word_get oq hj
    have t6 : List.getD [q.1, q.2.1, q.2.2.1, q.2.2.2] j 0 = (wordsL q).getD j 0 := rfl
    have q0 : 0 ≤ (wordsL q).getD j 0 ∧ (wordsL q).getD j 0 < 18446744073709551616 := by rw [gq]; omega
    have hz : (wordsL q).getD j 0 % 2 ^ (s + 1) = 0 := by
      rw [gq]
      refine mod_zero (by omega) ?_
      obtain ⟨c, hc⟩ : ∃ c, W q = 2 ^ (i + 1) * c := ⟨W q / 2 ^ (i + 1), by have := Int.emod_add_mul_ediv (W q) (2 ^ (i + 1)); omega⟩
      rw [hc, hij, show 64 * j + s + 1 = 64 * j + (s + 1) by omega, pow_word, Int.mul_assoc, Int.mul_ediv_cancel_left _ (Int.ne_of_gt (Int.pow_pos (by decide)))]
      exact Int.mul_emod_right _ _
    have hpow : (2 : Int) ^ s < 2 ^ (s + 1) := by rw [Int.pow_succ]; have := Int.pow_pos (n := 2) (m := s) (by decide); omega
    have hor : bits .or .u64 ((wordsL q).getD j 0) (2 ^ s) = (wordsL q).getD j 0 + 2 ^ s := or_low (t := s + 1) (by omega) q0.1 q0.2 hz (Int.le_of_lt (Int.pow_pos (by decide))) hpow
    have hz1 : (wordsL q).getD j 0 + 2 ^ s < 18446744073709551616 := by
      have : bits .or .u64 ((wordsL q).getD j 0) (2 ^ s) < 18446744073709551616 := by
        unfold bits
        simp only
        rw [wu64]
        omega
      rw [hor] at this
      exact this
    obtain ⟨os, Ws⟩ := setW_ok oq hj (z := (wordsL q).getD j 0 + 2 ^ s) (by have := Int.pow_pos (n := 2) (m := s) (by decide); omega) hz1
    rw [t6, shl1 hs, hor]
    refine ⟨setW q j ((wordsL q).getD j 0 + 2 ^ s), m, os, om, .inr ⟨by omega, by rw [Wm, Wt], ?_⟩, rfl⟩
    rw [Ws, hij, pow_word, Int.mul_comm (18446744073709551616 ^ j)]
    congr 2
    omega
end Go.Proofs.Ytioagofpofamiaa
/-! Plain laws: amounts divided. -/
set_option linter.unusedVariables false
set_option linter.unusedSimpArgs false
namespace Go.Proofs.Ytioagofpofamiaa
open Go.Ab

theorem div_step {X Y B bit : Int} (hB : 0 < B) (hX : 0 ≤ X) (hY : Y = 2 * X + bit) (b0 : 0 ≤ bit) (b1 : bit < 2) :
    (2 * (X % B) + bit < B → Y % B = 2 * (X % B) + bit ∧ Y / B = 2 * (X / B)) ∧ (B ≤ 2 * (X % B) + bit → Y % B = 2 * (X % B) + bit - B ∧ Y / B = 2 * (X / B) + 1) := by
  have e := Int.emod_add_mul_ediv X B
  have m0 := Int.emod_nonneg X (Int.ne_of_gt hB)
  have m1 := Int.emod_lt_of_pos X hB
  constructor
  · intro h
    have hy : Y = (2 * (X % B) + bit) + B * (2 * (X / B)) := by rw [Int.mul_left_comm]; omega
    refine ⟨?_, ?_⟩
    · rw [hy, Int.add_mul_emod_self_left, Int.emod_eq_of_lt (by omega) h]
    · rw [hy, Int.add_mul_ediv_left _ _ (Int.ne_of_gt hB), Int.ediv_eq_zero_of_lt (by omega) h]; omega
  · intro h
    have hy : Y = (2 * (X % B) + bit - B) + B * (2 * (X / B) + 1) := by rw [Int.mul_add, Int.mul_left_comm, Int.mul_one]; omega
    refine ⟨?_, ?_⟩
    · rw [hy, Int.add_mul_emod_self_left, Int.emod_eq_of_lt (by omega) (by omega)]
    · rw [hy, Int.add_mul_ediv_left _ _ (Int.ne_of_gt hB), Int.ediv_eq_zero_of_lt (by omega) (by omega)]; omega

theorem f86go {R : Type} (k0 : Int × Int × Int × Int × Int × Int × Int × Int × Unit → Option R) {a b : Wd} (oa : OkW a) (ob : OkW b) (hB0 : 0 < W b) (hB : W b * 2 ≤ big) :
    ∀ (e k : Nat) (q r : Wd), e ≤ 256 → e < k → OkW q → OkW r → W r = W a / 2 ^ e % W b → W q = W a / 2 ^ e / W b * 2 ^ e →
      ∃ q' r', OkW q' ∧ OkW r' ∧ W r' = W a % W b ∧ W q' = W a / W b ∧ iterS (fun rec v => f86l1s 1000 rec k0 v) k (st17 ((e : Int) - 1) a b q r) = k0 (q'.1, q'.2.1, q'.2.2.1, q'.2.2.2, r'.1, r'.2.1, r'.2.2.1, r'.2.2.2, ()) := by
  intro e
  induction e with
  | zero =>
    intro k q r he hk oq or_ hr hq
    obtain ⟨k, rfl⟩ : ∃ k', k = k' + 1 := ⟨k - 1, by omega⟩
    refine ⟨q, r, oq, or_, by simpa using hr, by simpa using hq, ?_⟩
    rw [iterS]
    unfold f86l1s st17
    have c1 : (decide (((0 : Nat) : Int) - 1 ≥ 0)) = false := by simp
    simp only [c1, cond_false]
  | succ i ih =>
    intro k q r he hk oq or_ hr hq
    obtain ⟨k, rfl⟩ : ∃ k', k = k' + 1 := ⟨k - 1, by omega⟩
    have A0 := (W_bound oa).1
    have hX : 0 ≤ W a / 2 ^ (i + 1) := Int.ediv_nonneg A0 (Int.le_of_lt (Int.pow_pos (by decide)))
    have hY : W a / 2 ^ i = 2 * (W a / 2 ^ (i + 1)) + W a / 2 ^ i % 2 := by
      rw [Int.pow_succ, ← Int.ediv_ediv_of_nonneg (Int.le_of_lt (Int.pow_pos (by decide)))]
      omega
    have hlt : W r < W b := by rw [hr]; exact Int.emod_lt_of_pos _ hB0
    have hdv : W q % 2 ^ (i + 1) = 0 := by rw [hq]; exact Int.mul_emod_left _ _
    obtain ⟨q', r', oq', or', hc, hs⟩ := f86step (iterS (fun rec v => f86l1s 1000 rec k0 v) k) k0 (i := i) (by omega) oa ob oq or_ hB hlt hdv
    obtain ⟨d1, d2⟩ := div_step hB0 hX hY (by omega) (by omega)
    rw [← hr] at d1 d2
    have hpw : (2 : Int) ^ (i + 1) = 2 ^ i * 2 := Int.pow_succ ..
    have main : W r' = W a / 2 ^ i % W b ∧ W q' = W a / 2 ^ i / W b * 2 ^ i := by
      rcases hc with ⟨c1, c2, c3⟩ | ⟨c1, c2, c3⟩
      · obtain ⟨x1, x2⟩ := d1 c1
        refine ⟨by rw [c2, x1], ?_⟩
        rw [c3, hq, x2, hpw, ← Int.mul_assoc, Int.mul_right_comm, Int.mul_comm 2]
      · obtain ⟨x1, x2⟩ := d2 c1
        refine ⟨by rw [c2, x1], ?_⟩
        rw [c3, hq, x2, hpw, Int.add_mul, Int.one_mul, ← Int.mul_assoc, Int.mul_right_comm, Int.mul_comm 2]
    obtain ⟨q2, r2, z1, z2, z3, z4, z5⟩ := ih k q' r' (by omega) (by omega) oq' or' main.1 main.2
    refine ⟨q2, r2, z1, z2, z3, z4, ?_⟩
    rw [iterS, show (((i + 1 : Nat) : Int) - 1) = (i : Int) by omega, hs]
    exact z5

theorem f86q {a b : Wd} (oa : OkW a) (ob : OkW b) (hB0 : 0 < W b) (hB : W b * 2 ≤ big) : ∃ q r, f86F 1000 (a, b) = some (q, r) ∧ OkW q ∧ OkW r ∧ W q = W a / W b ∧ W r = W a % W b := by
  have A := W_bound oa
  have z : W a / 2 ^ 256 = 0 := Int.ediv_eq_zero_of_lt A.1 (by have := A.2; unfold big at this; exact this)
  have o0 : OkW (0, 0, 0, 0) := ⟨by decide, by decide, by decide, by decide, by decide, by decide, by decide, by decide⟩
  obtain ⟨q, r, oq, or_, hr, hq, hi⟩ := f86go (R := Wd × Wd) (fun w12 => some ((w12.1, (w12.2.1, (w12.2.2.1, w12.2.2.2.1))), (w12.2.2.2.2.1, (w12.2.2.2.2.2.1, (w12.2.2.2.2.2.2.1, w12.2.2.2.2.2.2.2.1))))) oa ob hB0 hB 256 1000 (0, 0, 0, 0) (0, 0, 0, 0) (by omega) (by omega) o0 o0 (by rw [z]; simp [W]) (by rw [z]; simp [W])
  exact ⟨q, r, hi, oq, or_, hq, hr⟩
end Go.Proofs.Ytioagofpofamiaa
/-! Plain laws: a fraction put into a type. -/
set_option linter.unusedVariables false
set_option linter.unusedSimpArgs false
namespace Go.Proofs.Ytioagofpofamiaa
open Go.Ab

/-- A fraction put into a type: the value, and the error. -/
def putR (below : Bool) (A B : Int) (sc ln : Int) (half : Bool) : Int × Int :=
  let q0 := A * 10 ^ sc.toNat / B
  let r := A * 10 ^ sc.toNat % B
  let q := if half = true ∧ B ≤ 2 * r then q0 + 1 else q0
  if 10 ^ ln.toNat ≤ q then (0, 19) else (if below = true then -q else q, 0)

theorem one_ok : OkW (1, 0, 0, 0) ∧ W (1, 0, 0, 0) = 1 := ⟨⟨by decide, by decide, by decide, by decide, by decide, by decide, by decide, by decide⟩, by simp [W]⟩

theorem f55q {below half : Bool} {a b : Wd} {kd ln sc : Int} (oa : OkW a) (ob : OkW b) (hB0 : 0 < W b) (hB : W b * 2 ≤ big) (s0 : 0 ≤ sc) (s1 : sc ≤ 15) (l0 : 1 ≤ ln) (l1 : ln ≤ 15) (hA : W a * 10 ^ sc.toNat < big) (hA2 : W a * 10 ^ sc.toNat < big - 1) :
    f55F 1000 ((below, a, b), (kd, ln, sc), half) = some (((putR below (W a) (W b) sc ln half).1, ByteArray.empty), (putR below (W a) (W b) sc ln half).2) := by
  obtain ⟨S, rfl⟩ : ∃ S : Nat, sc = S := ⟨sc.toNat, by omega⟩
  obtain ⟨L, rfl⟩ : ∃ L : Nat, ln = L := ⟨ln.toNat, by omega⟩
  rw [Int.toNat_natCast] at hA hA2
  unfold putR
  simp only [Int.toNat_natCast]
  obtain ⟨y, hy, oy, Wy⟩ := f85q (a := a) (n := S) oa (by omega) hA
  obtain ⟨q, r, hqr, oq, or_, Wq, Wr⟩ := f86q (a := y) (b := b) oy ob hB0 hB
  rw [Wy] at Wq Wr
  have hrB : W r < W b := by rw [Wr]; exact Int.emod_lt_of_pos _ hB0
  have hq0 := W_bound oq
  have hqA : W q ≤ W a * 10 ^ S := by
    rw [Wq]
    exact Int.ediv_le_self _ (by rw [← Wy]; exact (W_bound oy).1)
  obtain ⟨r2, hr2, or2, Wr2⟩ := f87q 1000 (a := r) (b := r) or_ or_ (by omega)
  obtain ⟨q1, hq1, oq1, Wq1⟩ := f87q 1000 (a := q) (b := (1, 0, 0, 0)) oq one_ok.1 (by rw [one_ok.2]; omega)
  rw [one_ok.2] at Wq1
  have hpL : (1 : Int) * 10 ^ L < big := by
    have := pow_le16 (i := L) (by omega)
    unfold big
    omega
  obtain ⟨t, ht, ot, Wt⟩ := f85q (a := (1, 0, 0, 0)) (n := L) one_ok.1 (by omega) (by rw [one_ok.2]; exact hpL)
  rw [one_ok.2, Int.one_mul] at Wt
  have hp16 := pow_le16 (i := L) (by omega)
  have cmp := f63q 1000 or2 ob
  rw [Wr2] at cmp
  have e1 : f85F 1000 ((a.1, (a.2.1, (a.2.2.1, a.2.2.2))), (S : Int)) = some y := hy
  have e2 : f86F 1000 ((y.1, (y.2.1, (y.2.2.1, y.2.2.2))), (b.1, (b.2.1, (b.2.2.1, b.2.2.2)))) = some (q, r) := hqr
  have e3 : f87F 1000 ((r.1, (r.2.1, (r.2.2.1, r.2.2.2))), (r.1, (r.2.1, (r.2.2.1, r.2.2.2)))) = some r2 := hr2
  have e4 : f63F 1000 ((r2.1, (r2.2.1, (r2.2.2.1, r2.2.2.2))), (b.1, (b.2.1, (b.2.2.1, b.2.2.2)))) = some (if W r + W r < W b then -1 else if W b < W r + W r then 1 else 0) := cmp
  have e5 : f87F 1000 ((q.1, (q.2.1, (q.2.2.1, q.2.2.2))), ((1 : Int), ((0 : Int), ((0 : Int), (0 : Int))))) = some q1 := hq1
  have e6 : f85F 1000 (((1 : Int), ((0 : Int), ((0 : Int), (0 : Int)))), (L : Int)) = some t := ht
  have e7 : ∀ v : Wd, OkW v → f63F 1000 ((v.1, (v.2.1, (v.2.2.1, v.2.2.2))), (t.1, (t.2.1, (t.2.2.1, t.2.2.2)))) = some (if W v < 10 ^ L then -1 else if 10 ^ L < W v then 1 else 0) := fun v ov => by rw [← Wt]; exact f63q 1000 ov ot
  have neg : ∀ c d : Int, (decide ((if c < d then (-1 : Int) else if d < c then 1 else 0) ≥ 0)) = decide (d ≤ c) := fun c d => by
    by_cases h : c < d
    · rw [if_pos h]; simp; omega
    · rw [if_neg h]
      have : d ≤ c := by omega
      rw [decide_eq_true this]
      split <;> rfl
  -- behind the rounding
  have fin : ∀ v : Wd, OkW v → (bif decide (10 ^ L ≤ W v) then some (((0 : Int), ByteArray.empty), (19 : Int)) else f55p1 1000 (fun (w11 : Int × Int × ByteArray × Unit) => some ((w11.1, ByteArray.empty), (0 : Int))) ((IntKind.i64.wrap v.1), below, a.1, a.2.1, a.2.2.1, a.2.2.2, b.1, b.2.1, b.2.2.1, b.2.2.2, 0, ByteArray.empty, ()))
      = some (((if 10 ^ L ≤ W v then ((0 : Int), (19 : Int)) else (if below = true then -(W v) else W v, 0)).1, ByteArray.empty), (if 10 ^ L ≤ W v then ((0 : Int), (19 : Int)) else (if below = true then -(W v) else W v, 0)).2) := by
    intro v ov
    by_cases h : 10 ^ L ≤ W v
    · rw [decide_eq_true h, if_pos h]; rfl
    · rw [decide_eq_false h, if_neg h]
      obtain ⟨h1, h2, h3, h4, h5, h6, h7, h8⟩ := ov
      have hv : W v = v.1 ∧ v.1 ≤ 10000000000000000 := by unfold W at h ⊢; omega
      unfold f55p1
      simp only [cond_false]
      rw [wi (x := v.1) (by omega) (by omega), wi (x := 0 - v.1) (by omega) (by omega), hv.1]
      cases below
      · rfl
      · simp
  unfold f55F f55p0
  simp only [e1, e2, e3, e4, e5, e6, bind_some', neg, f84F]
  have two : W r + W r = 2 * (W a * 10 ^ S % W b) := by rw [← Wr]; omega
  rw [two]
  cases half with
  | false =>
    simp only [cond_false, e7 q oq, bind_some', neg, false_and, if_false, Bool.false_eq_true]
    rw [← Wq]
    exact fin q oq
  | true =>
    simp only [cond_true, true_and]
    by_cases hh : W b ≤ 2 * (W a * 10 ^ S % W b)
    · rw [decide_eq_true hh, if_pos hh]
      simp only [cond_true, e7 q1 oq1, bind_some', neg]
      rw [← Wq, ← Wq1]
      exact fin q1 oq1
    · rw [decide_eq_false hh, if_neg hh]
      simp only [cond_false, e7 q oq, bind_some', neg]
      rw [← Wq]
      exact fin q oq
end Go.Proofs.Ytioagofpofamiaa
/-! Plain laws: a number put into a type, by the code. -/
set_option linter.unusedVariables false
set_option linter.unusedSimpArgs false
namespace Go.Proofs.Ytioagofpofamiaa
open Go.Ab

theorem f42q3 (a b c : Int) : f42F 1000 [a, b, c] = some (if a = 0 then (if b = 0 then c else b) else a) := by
  have e0 : ∀ {R : Type} (Step : (List Int × Int × Int × Unit → Option R) → List Int × Int × Int × Unit → Option R) v, iterS Step 1000 v = Step (fun v => Step (fun v => Step (fun v => Step (iterS Step 996) v) v) v) v := fun _ _ => rfl
  unfold f42F f42l0
  rw [e0]
  have s0 := fun rec k0 k1 => f42l0_step (R := Int) 1000 rec k0 k1 [a, b, c] 0 (by simp) (by simp)
  have s1 := fun rec k0 k1 => f42l0_step (R := Int) 1000 rec k0 k1 [a, b, c] 1 (by simp) (by simp)
  have s2 := fun rec k0 k1 => f42l0_step (R := Int) 1000 rec k0 k1 [a, b, c] 2 (by simp) (by simp)
  have s3 : ∀ rec k0 k1, f42l0s (R := Int) 1000 rec k0 k1 ([a, b, c], (([a, b, c].length : Nat) : Int), ((3 : Nat) : Int), ()) = k1 () := fun _ _ _ => rfl
  have z0 : ((0 : Nat) : Int) = 0 := rfl
  rw [z0] at s0
  rw [s0]
  simp only [Nat.zero_add, s1, Nat.reduceAdd, s2, s3]
  by_cases ha : a = 0 <;> by_cases hb : b = 0 <;> by_cases hc : c = 0 <;> simp [ha, hb, hc]

/-- The error of a number. -/
def numErr (n s : Int) : Int := if -999999999999999 ≤ n ∧ n ≤ 999999999999999 ∧ 0 ≤ s ∧ s ≤ 15 then 0 else 3
theorem f52q (n s : Int) : f52F 1000 (n, s) = some (numErr n s) := by
  unfold f52F numErr
  simp only [f70q, f43q, bind_some']
  by_cases h : -999999999999999 ≤ n ∧ n ≤ 999999999999999
  · simp only [h, and_self, decide_true, Bool.not_true, cond_false, true_and]
    by_cases h2 : 0 ≤ s ∧ s ≤ 15
    · simp [h2]
    · simp [h2]
  · have e : ¬ (-999999999999999 ≤ n ∧ n ≤ 999999999999999 ∧ 0 ≤ s ∧ s ≤ 15) := by omega
    rw [if_neg e]
    simp [h]
theorem f34q (n s : Int) : f34F 1000 (n, s) = some (numErr n s) := by
  unfold f34F numErr
  simp only [f48q, f69q, bind_some']
  have w0 : IntKind.i64.wrap (3 * 0) = 0 := rfl
  have w1 : IntKind.i64.wrap (3 * 1) = 3 := rfl
  by_cases h : -999999999999999 ≤ n ∧ n ≤ 999999999999999
  · simp only [h, and_self, decide_true, cond_true, true_and]
    by_cases h2 : 0 ≤ s ∧ s ≤ 15
    · simp [h2]; rfl
    · simp [h2]; rfl
  · have e : ¬ (-999999999999999 ≤ n ∧ n ≤ 999999999999999 ∧ 0 ≤ s ∧ s ≤ 15) := by omega
    rw [if_neg e]
    simp [h]; rfl
theorem f53q (kd ln sc : Int) : f53F 1000 (kd, ln, sc) = some (decide (1 ≤ kd ∧ kd ≤ 3)) := by
  unfold f53F
  by_cases h1 : kd = 1
  · subst h1; rfl
  by_cases h2 : kd = 2
  · subst h2; rfl
  · have q1 : (kd == 1) = false := by simpa using h1
    have q2 : (kd == 2) = false := by simpa using h2
    simp only [q1, q2, cond_false]
    congr 1
    by_cases h3 : kd = 3
    · subst h3; rfl
    · rw [decide_eq_false (by omega)]; simpa using h3
theorem f56q (kd ln sc : Int) : f56F 1000 (kd, ln, sc) = some (if tyErr kd ln sc = 0 then (if 1 ≤ kd ∧ kd ≤ 3 then 0 else 17) else tyErr kd ln sc) := by
  unfold f56F
  simp only [f27q, f68q, f69q, bind_some']
  have w0 : IntKind.i64.wrap (17 * 0) = 0 := rfl
  have w1 : IntKind.i64.wrap (17 * 1) = 17 := rfl
  by_cases ht : tyErr kd ln sc = 0
  · simp only [ht, if_true]
    by_cases h : 1 ≤ kd ∧ kd ≤ 3
    · simp [h]; rfl
    · simp [h]; rfl
  · have hn : (tyErr kd ln sc != 0) = true := by simpa using ht
    rw [hn, if_neg ht]
    rfl

theorem amt_bound {n : Int} (h0 : -999999999999999 ≤ n) (h1 : n ≤ 999999999999999) : 0 ≤ amt n ∧ amt n ≤ 999999999999999 := by
  unfold amt; split <;> omega
theorem f83q {n s : Int} {m : Nat} (h0 : -999999999999999 ≤ n) (h1 : n ≤ 999999999999999) (hm : m ≤ 31) : ∃ a, f83F 1000 ((n, s), (m : Int)) = some a ∧ OkW a ∧ W a = amt n * 10 ^ m := by
  obtain ⟨a0, a1⟩ := amt_bound h0 h1
  have hmx : mxI n (IntKind.i64.wrap (0 - n)) = amt n := mx_abs (by omega) (by omega)
  have ok1 : OkW (amt n, 0, 0, 0) := ⟨a0, by show amt n < _; omega, by simp, by simp, by simp, by simp, by simp, by simp⟩
  have w1 : W (amt n, 0, 0, 0) = amt n := by unfold W; simp only; omega
  have hp : amt n * 10 ^ m < big := by
    have p : (10 : Int) ^ m ≤ 10 ^ 31 := by
      have := Nat.pow_le_pow_right (n := 10) (by decide) hm
      have e : ((10 ^ m : Nat) : Int) = (10 : Int) ^ m := by simp
      rw [← e]
      have e2 : ((10 ^ 31 : Nat) : Int) = (10 : Int) ^ 31 := by simp
      rw [← e2]
      exact Int.ofNat_le.2 this
    have p0 : (0 : Int) ≤ 10 ^ m := Int.le_of_lt (Int.pow_pos (by decide))
    have q := Int.mul_le_mul a1 p p0 (show (0 : Int) ≤ 999999999999999 by decide)
    have e3 : (999999999999999 : Int) * 10 ^ 31 < big := by decide
    omega
  obtain ⟨b, hb, ob, Wb⟩ := f85q (a := (amt n, 0, 0, 0)) (n := m) ok1 (by omega) (by rw [w1]; exact hp)
  rw [w1] at Wb
  refine ⟨b, ?_, ob, Wb⟩
  unfold f83F f84F
  have wu : IntKind.u64.wrap (amt n) = amt n := by rw [wu64]; omega
  have hb' : f85F 1000 ((amt n, ((0 : Int), ((0 : Int), (0 : Int)))), (m : Int)) = some b := hb
  simp only [hmx, wu, bind_some', hb']

/-- A number put into a type: the value, and the error. -/
def convS (n s kd ln sc : Int) (half : Bool) : (Int × ByteArray) × Int :=
    if numErr n s ≠ 0 then ((0, ByteArray.empty), numErr n s)
    else if tyErr kd ln sc ≠ 0 then ((0, ByteArray.empty), tyErr kd ln sc)
    else if ¬ (1 ≤ kd ∧ kd ≤ 3) then ((0, ByteArray.empty), 17)
    else (((putR (decide (n < 0)) (amt n) (10 ^ s.toNat) sc ln half).1, ByteArray.empty), (putR (decide (n < 0)) (amt n) (10 ^ s.toNat) sc ln half).2)
theorem convS_num {n s kd ln sc : Int} {half : Bool} (h : numErr n s ≠ 0) : convS n s kd ln sc half = ((0, ByteArray.empty), numErr n s) := by
  unfold convS; rw [if_pos h]
theorem convS_ty {n s kd ln sc : Int} {half : Bool} (h : numErr n s = 0) (h2 : tyErr kd ln sc ≠ 0) : convS n s kd ln sc half = ((0, ByteArray.empty), tyErr kd ln sc) := by
  unfold convS; rw [if_neg (fun c => c h), if_pos h2]
theorem convS_kind {n s kd ln sc : Int} {half : Bool} (h : numErr n s = 0) (h2 : tyErr kd ln sc = 0) (h3 : ¬ (1 ≤ kd ∧ kd ≤ 3)) : convS n s kd ln sc half = ((0, ByteArray.empty), 17) := by
  unfold convS; rw [if_neg (fun c => c h), if_neg (fun c => c h2), if_pos h3]
theorem convS_ok {n s kd ln sc : Int} {half : Bool} (h : numErr n s = 0) (h2 : tyErr kd ln sc = 0) (h3 : 1 ≤ kd ∧ kd ≤ 3) : convS n s kd ln sc half = (((putR (decide (n < 0)) (amt n) (10 ^ s.toNat) sc ln half).1, ByteArray.empty), (putR (decide (n < 0)) (amt n) (10 ^ s.toNat) sc ln half).2) := by
  unfold convS; rw [if_neg (fun c => c h), if_neg (fun c => c h2), if_neg (fun c => c h3)]
theorem numErr_ok {n s : Int} (h : numErr n s = 0) : -999999999999999 ≤ n ∧ n ≤ 999999999999999 ∧ 0 ≤ s ∧ s ≤ 15 := by
  unfold numErr at h
  apply Decidable.byContradiction
  intro c
  rw [if_neg c] at h
  omega

theorem f18q (n s kd ln sc : Int) (half : Bool) : f18F 1000 ((n, s), (kd, ln, sc), half) = some (convS n s kd ln sc half) := by
  unfold f18F
  simp only [f52q, f28q, f53q, f43q, f42q3, bind_some']
  by_cases h1 : numErr n s = 0
  · by_cases h2 : tyErr kd ln sc = 0
    · by_cases h3 : 1 ≤ kd ∧ kd ≤ 3
      · rw [convS_ok h1 h2 h3]
        have hb := numErr_ok h1
        obtain ⟨S, rfl⟩ : ∃ S : Nat, s = S := ⟨s.toNat, by omega⟩
        obtain ⟨a1', a2', a3', a4', a5', a6', a7', a8', a9'⟩ := ty_ok h2
        obtain ⟨l0, l1⟩ := a4' h3
        have s9 := a9' h3
        obtain ⟨a, ha, oa, Wa⟩ := f83q (n := n) (s := (S : Int)) (m := 0) hb.1 hb.2.1 (by omega)
        rw [Int.pow_zero, Int.mul_one] at Wa
        have p16 := pow_le16 (i := S) (by omega)
        obtain ⟨d, hd, od, Wd'⟩ := f85q (a := (1, 0, 0, 0)) (n := S) one_ok.1 (by omega) (by rw [one_ok.2]; unfold big; omega)
        rw [one_ok.2, Int.one_mul] at Wd'
        have ha' : f83F 1000 ((n, (S : Int)), 0) = some a := ha
        have hd' : f85F 1000 (((1 : Int), ((0 : Int), ((0 : Int), (0 : Int)))), (S : Int)) = some d := hd
        obtain ⟨m0, m1⟩ := amt_bound hb.1 hb.2.1
        have psc := pow_le16 (i := sc.toNat) (by omega)
        have psc0 : (0 : Int) ≤ 10 ^ sc.toNat := Int.le_of_lt (Int.pow_pos (by decide))
        have hA : W a * 10 ^ sc.toNat ≤ 999999999999999 * 10000000000000000 := by
          rw [Wa]
          exact Int.mul_le_mul m1 psc psc0 (by decide)
        have hput := f55q (below := decide (n < 0)) (half := half) (a := a) (b := d) (kd := kd) (ln := ln) (sc := sc) oa od (by rw [Wd']; exact Int.pow_pos (by decide)) (by rw [Wd']; unfold big; omega) a7' (by omega) l0 l1 (by unfold big; omega) (by unfold big; omega)
        rw [Wa, Wd'] at hput
        have hput' : f55F 1000 ((decide (n < 0), ((a.1, (a.2.1, (a.2.2.1, a.2.2.2))), (d.1, (d.2.1, (d.2.2.1, d.2.2.2))))), (kd, (ln, sc)), half) = _ := hput
        rw [if_pos h1, if_pos h2, decide_eq_true h3]
        unfold f54F f84F
        simp only [ha', bind_some', hd', hput', Int.toNat_natCast]
        rfl
      · rw [convS_kind h1 h2 h3, if_pos h1, if_pos h2, decide_eq_false h3]
        rfl
    · rw [convS_ty h1 h2, if_pos h1, if_neg h2]
      have hn : (tyErr kd ln sc != 0) = true := by simpa using h2
      rw [hn]
      rfl
  · rw [convS_num h1, if_neg h1]
    have hn : (numErr n s != 0) = true := by simpa using h1
    rw [hn]
    rfl
end Go.Proofs.Ytioagofpofamiaa
/-! Plain laws: amounts as lists of digits. -/
set_option linter.unusedVariables false
set_option linter.unusedSimpArgs false
namespace Go.Ab

theorem iter_one {V R : Type} (Step : (V → Option R) → V → Option R) (k : Nat) (v : V) : iterS Step (k + 1) v = Step (iterS Step k) v := rfl

/-- The digits of an amount, the lowest one first. -/
def dg (n : Nat) : List Int := if n = 0 then [] else ((n % 10 : Nat) : Int) :: dg (n / 10)
termination_by n
decreasing_by omega

theorem dg_zero : dg 0 = [] := by rw [dg]; rfl
theorem dg_pos {n : Nat} (h : 0 < n) : dg n = ((n % 10 : Nat) : Int) :: dg (n / 10) := by
  rw [dg, if_neg (by omega)]
theorem dg_step {n d q : Nat} (h : 0 < n) (hd : d < 10) (e : n = d + 10 * q) : dg n = (d : Int) :: dg q := by
  rw [dg_pos h, show n % 10 = d by omega, show n / 10 = q by omega]

/-- Digits. -/
def Dig (l : List Int) : Prop := ∀ x ∈ l, 0 ≤ x ∧ x ≤ 9
theorem Dig.cons {x : Int} {l : List Int} : Dig (x :: l) ↔ (0 ≤ x ∧ x ≤ 9) ∧ Dig l := by simp [Dig]
theorem Dig.app {a b : List Int} : Dig (a ++ b) ↔ Dig a ∧ Dig b := by
  simp only [Dig, List.mem_append]
  exact ⟨fun h => ⟨fun x hx => h x (.inl hx), fun x hx => h x (.inr hx)⟩, fun h x hx => hx.elim (h.1 x) (h.2 x)⟩
theorem Dig.nil : Dig [] := by simp [Dig]
theorem Dig.zeros (n : Nat) : Dig (List.replicate n 0) := by
  intro x hx
  rw [List.eq_of_mem_replicate hx]; omega
/-- The number of digits. -/
def dval : List Int → Nat
  | [] => 0
  | x :: l => x.toNat + 10 * dval l
theorem dval_app : ∀ a b : List Int, dval (a ++ b) = dval a + 10 ^ a.length * dval b
  | [], b => by simp [dval]
  | x :: a, b => by
    simp only [List.cons_append, dval, dval_app a b, List.length_cons, Nat.pow_succ, Nat.mul_add, Nat.add_assoc]
    congr 2
    rw [Nat.mul_comm (10 ^ a.length) 10, Nat.mul_assoc]
theorem dval_zeros : ∀ n : Nat, dval (List.replicate n 0) = 0
  | 0 => rfl
  | n + 1 => by simp [List.replicate_succ, dval, dval_zeros n]
theorem dval_lt : ∀ {l : List Int}, Dig l → dval l < 10 ^ l.length
  | [], _ => by simp [dval]
  | x :: l, h => by
    obtain ⟨hx, hl⟩ := Dig.cons.1 h
    have := dval_lt hl
    simp only [dval, List.length_cons, Nat.pow_succ]
    omega
theorem dg_dig (n : Nat) : Dig (dg n) := by
  induction n using Nat.strongRecOn with
  | _ n ih =>
    by_cases h : n = 0
    · subst h; rw [dg_zero]; exact Dig.nil
    · rw [dg_pos (by omega)]
      exact Dig.cons.2 ⟨by omega, ih _ (by omega)⟩
theorem dval_dg (n : Nat) : dval (dg n) = n := by
  induction n using Nat.strongRecOn with
  | _ n ih =>
    by_cases h : n = 0
    · subst h; rw [dg_zero]; rfl
    · rw [dg_pos (by omega), dval, ih _ (by omega)]
      omega
theorem dg_nil {n : Nat} : dg n = [] ↔ n = 0 := by
  constructor
  · intro h
    have := dval_dg n
    rw [h] at this
    exact this.symm
  · rintro rfl
    exact dg_zero
theorem dg_inj {a b : Nat} : dg a = dg b ↔ a = b := by
  constructor
  · intro h
    rw [← dval_dg a, h, dval_dg]
  · rintro rfl; rfl
theorem dg_of : ∀ {l : List Int}, Dig l → l.getLast? ≠ some 0 → dg (dval l) = l
  | [], _, _ => dg_zero
  | [x], h, hl => by
    obtain ⟨hx, _⟩ := Dig.cons.1 h
    have hx0 : x ≠ 0 := by simpa using hl
    rw [dg_step (d := x.toNat) (q := 0) (by simp only [dval]; omega) (by omega) (by simp [dval]), dg_zero]
    congr 1
    omega
  | x :: y :: l, h, hl => by
    obtain ⟨hx, h2⟩ := Dig.cons.1 h
    have ih := dg_of h2 (by simpa using hl)
    have hp : 0 < dval (y :: l) := by
      rcases Nat.eq_zero_or_pos (dval (y :: l)) with h0 | h0
      · rw [h0, dg_zero] at ih; cases ih
      · exact h0
    rw [show dval (x :: y :: l) = x.toNat + 10 * dval (y :: l) from rfl, dg_step (d := x.toNat) (q := dval (y :: l)) (by omega) (by omega) rfl, ih]
    congr 1
    omega
theorem dg_last {n : Nat} : (dg n).getLast? ≠ some 0 := by
  induction n using Nat.strongRecOn with
  | _ n ih =>
    by_cases h : n = 0
    · subst h; rw [dg_zero]; simp
    · rw [dg_pos (by omega)]
      by_cases h2 : n / 10 = 0
      · rw [h2, dg_zero]; simp; omega
      · have := ih (n / 10) (by omega)
        have e := dg_pos (n := n / 10) (by omega)
        rw [e] at this ⊢
        rw [List.getLast?_cons_cons]
        exact this
theorem dg_len_le {n k : Nat} : (dg n).length ≤ k ↔ n < 10 ^ k := by
  induction k generalizing n with
  | zero =>
    rw [Nat.pow_zero, Nat.le_zero, List.length_eq_zero_iff, dg_nil]; omega
  | succ k ih =>
    by_cases h : n = 0
    · subst h; rw [dg_zero]; simp; exact Nat.pow_pos (by decide)
    · rw [dg_pos (by omega), List.length_cons, Nat.succ_le_succ_iff, ih, Nat.pow_succ]
      omega
theorem dg_lt_len {n k : Nat} : k < (dg n).length ↔ 10 ^ k ≤ n := by
  have := dg_len_le (n := n) (k := k)
  omega
theorem dg_len_pow (n : Nat) : n < 10 ^ (dg n).length := dg_len_le.1 (Nat.le_refl _)
theorem dg_drop {n : Nat} : ∀ {i : Nat}, (dg n).drop i = dg (n / 10 ^ i) := by
  intro i
  induction i generalizing n with
  | zero => simp
  | succ i ih =>
    by_cases h : n = 0
    · subst h; simp [dg_zero]
    · rw [dg_pos (by omega), List.drop_succ_cons, ih, Nat.pow_succ, Nat.div_div_eq_div_mul, Nat.mul_comm]
theorem dg_getD (n i : Nat) : (dg n).getD i 0 = ((n / 10 ^ i % 10 : Nat) : Int) := by
  have h := dg_drop (n := n) (i := i)
  have e : (dg n).getD i 0 = ((dg n).drop i).headD 0 := by
    rw [List.getD_eq_getElem?_getD, List.headD_eq_head?_getD, List.head?_drop]
  rw [e, h]
  by_cases h0 : n / 10 ^ i = 0
  · rw [h0, dg_zero]; rfl
  · rw [dg_pos (Nat.pos_of_ne_zero h0)]; rfl
/-- Zeros below digits. -/
theorem dg_zeros {n : Nat} (h : 0 < n) : ∀ k : Nat, List.replicate k 0 ++ dg n = dg (n * 10 ^ k)
  | 0 => by simp
  | k + 1 => by
    rw [List.replicate_succ, List.cons_append, dg_zeros h k]
    rw [dg_step (n := n * 10 ^ (k + 1)) (d := 0) (q := n * 10 ^ k) (Nat.mul_pos h (Nat.pow_pos (by decide))) (by decide) (by rw [Nat.pow_succ, ← Nat.mul_assoc]; omega)]
    rfl
/-- Digits without zeros at their end. -/
def tr (l : List Int) : List Int := dg (dval l)
theorem tr_zero {l : List Int} : tr (l ++ [0]) = tr l := by
  unfold tr
  rw [dval_app]
  simp [dval]
theorem tr_app {l : List Int} {x : Int} (h : Dig (l ++ [x])) (hx : x ≠ 0) : tr (l ++ [x]) = l ++ [x] :=
  dg_of h (by simpa using hx)
theorem tr_dg (n : Nat) : tr (dg n) = dg n := by rw [tr, dval_dg]
theorem tr_nil : tr [] = [] := by rw [tr, dval, dg_zero]
end Go.Ab
/-! Plain laws: the reference's long numbers. -/
set_option linter.unusedVariables false
set_option linter.unusedSimpArgs false
namespace Go.Proofs.Ytioagofpofamiaa
open Go.Ab

theorem f95l0_step {R : Type} (k : Nat) (rec k0 : List Int × Unit → Option R) (l : List Int) (x : Int) (hl : l.length ≤ 100000) :
    f95l0s k rec k0 (l ++ [x], ()) = if x = 0 then rec (l, ()) else k0 (l ++ [x], ()) := by
  unfold f95l0s
  have e1 : (((l ++ [x]).length : Nat) : Int) = (l.length : Int) + 1 := by simp
  have e2 : IntKind.i64.wrap (((l ++ [x]).length : Nat) - 1 : Int) = (l.length : Int) := by rw [e1, wi (by omega) (by omega)]; omega
  simp only [e1, e2, Int.toNat_natCast]
  rw [wi (by omega) (by omega), show (l.length : Int) + 1 - 1 = (l.length : Int) by omega]
  rw [bif_true (by simp only [decide_eq_true_eq]; omega), bif_true (by simp only [Bool.and_eq_true, decide_eq_true_eq]; omega)]
  have e3 : (l ++ [x]).getD l.length 0 = x := by simp [List.getD_eq_getElem?_getD]
  rw [Int.toNat_natCast, e3]
  by_cases hx : x = 0
  · rw [if_pos hx, bif_true (by simpa using hx), bif_true (by simp [sliceBds]; omega)]
    simp
  · rw [if_neg hx, bif_false (by simpa using hx)]

theorem f95q {l : List Int} (h : Dig l) (hl : l.length < 1000) : f95F 1000 l = some (tr l) := by
  unfold f95F f95l0
  have key : ∀ (n k : Nat) (l : List Int), l.length = n → n < 1000 → n < k → Dig l → iterS (fun rec v => f95l0s 1000 rec (fun (w3 : List Int × Unit) => some w3.1) v) k (l, ()) = some (tr l) := by
    intro n
    induction n with
    | zero =>
      intro k l hn _ hk _
      obtain ⟨k, rfl⟩ : ∃ j, k = j + 1 := ⟨k - 1, by omega⟩
      have : l = [] := List.length_eq_zero_iff.1 hn
      subst this
      rw [tr_nil]
      rfl
    | succ n ih =>
      intro k l hn h1 hk hd
      obtain ⟨k, rfl⟩ : ∃ j, k = j + 1 := ⟨k - 1, by omega⟩
      obtain ⟨l', x, rfl⟩ : ∃ l' x, l = l' ++ [x] := by
        rcases List.eq_nil_or_concat l with h | ⟨l', x, h⟩
        · subst h; simp at hn
        · exact ⟨l', x, by rw [h]; simp⟩
      have hn' : l'.length = n := by simpa using hn
      rw [iter_one]
      rw [f95l0_step _ _ _ _ _ (by omega)]
      by_cases hx : x = 0
      · rw [if_pos hx, ih k l' hn' (by omega) (by omega) (Dig.app.1 hd).1, hx, tr_zero]
      · rw [if_neg hx, tr_app hd hx]
  exact key _ _ _ rfl hl hl h

theorem f61l0_step {R : Type} (k : Nat) (rec : Int × Int × Bool × List Int × Unit → Option R) (k0 : Int × Bool × List Int × Unit → Option R) (n : Int) (m : Nat) (l : List Int) (hl : l.length ≤ 1000) (h0 : 0 < m) (hm : m ≤ 999999999999999) :
    f61l0s k rec k0 (n, (m : Int), false, l, ()) = rec (n, ((m / 10 : Nat) : Int), false, l ++ [((m % 10 : Nat) : Int)], ()) := by
  unfold f61l0s
  have e1 : Int.tmod (m : Int) 10 = ((m % 10 : Nat) : Int) := by simp [Int.tmod]
  have e2 : IntKind.i64.wrap (Int.tdiv (m : Int) 10) = ((m / 10 : Nat) : Int) := by
    have : Int.tdiv (m : Int) 10 = ((m / 10 : Nat) : Int) := by simp [Int.tdiv]
    rw [this, wi (by omega) (by omega)]
  simp only [e1, e2]
  rw [bif_true (by simp; omega), bif_true (by simp; omega)]

theorem f61q {n : Int} {z : Nat} (h0 : -999999999999999 ≤ n) (h1 : n ≤ 999999999999999) (hz : z ≤ 100) : f61F 1000 (n, (z : Int)) = some (decide (n < 0), dg ((amt n).toNat * 10 ^ z)) := by
  unfold f61F f61l0
  rw [bif_true (by simp; omega)]
  have ha : f79F 1000 n = some (amt n) := by
    unfold f79F
    rw [show mxI n (IntKind.i64.wrap (0 - n)) = amt n from mx_abs (by omega) (by omega)]
  have ab : 0 ≤ amt n ∧ amt n ≤ 999999999999999 := by unfold amt; split <;> omega
  rw [ha, bind_some', Int.toNat_natCast]
  generalize hm : amt n = m at ab
  obtain ⟨m, rfl⟩ : ∃ j : Nat, m = j := ⟨m.toNat, by omega⟩
  have key : ∀ (k m : Nat) (l : List Int), m < 10 ^ k → m ≤ 999999999999999 → l.length + (dg m).length < 900 →
      iterS (fun rec v => f61l0s 1000 rec (fun (w2 : Int × Bool × List Int × Unit) => Option.bind (f95F 1000 w2.2.2.1) fun y3 => some ((decide (w2.1 < (0 : Int))), y3)) v) (k + 1) (n, (m : Int), false, l, ()) = Option.bind (f95F 1000 (l ++ dg m)) fun y3 => some ((decide (n < (0 : Int))), y3) := by
    intro k
    induction k with
    | zero =>
      intro m l hm _ _
      have : m = 0 := by simpa using hm
      subst this
      rw [dg_zero, List.append_nil]
      rfl
    | succ k ih =>
      intro m l hm hb hl
      by_cases h0 : m = 0
      · subst h0
        rw [dg_zero, List.append_nil]
        rfl
      rw [iter_one]
      rw [f61l0_step _ _ _ _ _ _ (by omega) (by omega) hb, ih (m / 10) _ (by rw [Nat.pow_succ] at hm; omega) (by omega) (by rw [dg_pos (n := m) (by omega)] at hl; simp at hl ⊢; omega), dg_pos (n := m) (by omega), List.append_assoc]
      rfl
  have hdl : (dg m).length ≤ 15 := dg_len_le.2 (by omega)
  have hpow : ∀ e : Nat, 15 ≤ e → m < 10 ^ e := fun e he => Nat.lt_of_lt_of_le (m := 10 ^ 15) (by omega) (Nat.pow_le_pow_right (by decide) he)
  obtain ⟨e, he⟩ : ∃ e, 1000 = e + 1 := ⟨999, rfl⟩
  have hr := key e m (List.replicate z 0) (hpow e (by omega)) (by omega) (by simp; omega)
  rw [← he] at hr
  refine hr.trans ?_
  rw [f95q (Dig.app.2 ⟨Dig.zeros z, dg_dig m⟩) (by simp; omega), bind_some', tr, dval_app, dval_zeros, dval_dg, Int.toNat_natCast]
  simp only [List.length_replicate, Nat.zero_add, Nat.mul_comm]

theorem f90q {n : Nat} (hn : n ≤ 100) : f90F 1000 (n : Int) = some (dg (10 ^ n)) := by
  unfold f90F
  rw [bif_true (by simp; omega), bif_true (by simp; omega), Int.toNat_natCast]
  have := dg_zeros (n := 1) (by decide) n
  rw [Nat.one_mul] at this
  rw [← this, dg_step (n := 1) (d := 1) (q := 0) (by decide) (by decide) rfl, dg_zero]
  rfl

theorem f58q {n s : Int} (h0 : -999999999999999 ≤ n) (h1 : n ≤ 999999999999999) (s0 : 0 ≤ s) (s1 : s ≤ 100) : f58F 1000 (n, s) = some ((decide (n < 0), dg (amt n).toNat), dg (10 ^ s.toNat)) := by
  obtain ⟨S, rfl⟩ : ∃ S : Nat, s = S := ⟨s.toNat, by omega⟩
  unfold f58F
  have e : f61F 1000 (n, (0 : Int)) = _ := f61q (z := 0) h0 h1 (by decide)
  simp only [e, f90q (n := S) (by omega), bind_some', Nat.pow_zero, Nat.mul_one, Int.toNat_natCast]

/-- The order of two amounts. -/
def cmp3 (a b : Nat) : Int := if a < b then -1 else if b < a then 1 else 0

theorem cmp3_lt {a b : Nat} (h : a < b) : cmp3 a b = -1 := by unfold cmp3; rw [if_pos h]
theorem cmp3_gt {a b : Nat} (h : b < a) : cmp3 a b = 1 := by unfold cmp3; rw [if_neg (by omega), if_pos h]
theorem cmp3_self (a : Nat) : cmp3 a a = 0 := by unfold cmp3; rw [if_neg (by omega), if_neg (by omega)]
theorem cmp3_add (a b t : Nat) : cmp3 (a + t) (b + t) = cmp3 a b := by
  rcases Nat.lt_trichotomy a b with h | h | h
  · rw [cmp3_lt h, cmp3_lt (by omega)]
  · rw [h, cmp3_self, cmp3_self]
  · rw [cmp3_gt h, cmp3_gt (by omega)]
theorem cmp3_ge (a b : Nat) : (decide (cmp3 a b ≥ 0)) = decide (b ≤ a) := by
  rcases Nat.lt_trichotomy a b with h | h | h
  · rw [cmp3_lt h, decide_eq_false (p := b ≤ a) (by omega)]; rfl
  · rw [h, cmp3_self]; simp
  · rw [cmp3_gt h, decide_eq_true (p := b ≤ a) (by omega)]; rfl
theorem f93l0_step {R : Type} (rec : List Int × List Int × Int × Unit → Option R) (k0 : Int × Unit → Option R) (k1 : Unit → Option R) (a b i : Nat) (ha : i < (dg a).length) (hb : i < (dg b).length) (hl : (dg a).length < 900) :
    f93l0s 1000 rec k0 k1 (dg a, dg b, (i : Int), ()) = if a / 10 ^ i % 10 = b / 10 ^ i % 10 then rec (dg a, dg b, (i : Int) - 1, ()) else k0 (if a / 10 ^ i % 10 < b / 10 ^ i % 10 then -1 else 1, ()) := by
  unfold f93l0s
  simp only [Int.toNat_natCast, dg_getD]
  have ga : (decide ((0 : Int) ≤ (i : Int)) && decide ((i : Int) < ((dg a).length : Int))) = true := by simp; omega
  have gb : (decide ((0 : Int) ≤ (i : Int)) && decide ((i : Int) < ((dg b).length : Int))) = true := by simp; omega
  rw [bif_true (by simp), ga, gb]
  simp only [cond_true]
  generalize a / 10 ^ i % 10 = x
  generalize b / 10 ^ i % 10 = y
  by_cases hd : x = y
  · rw [if_pos hd, hd, bif_false (by simp), wi (by omega) (by omega)]
  · rw [if_neg hd, bif_true (by simp; omega)]
    simp only [f69q, bind_some']
    rcases Nat.lt_or_gt_of_ne hd with h | h
    · rw [if_pos h, decide_eq_false (by omega)]
      rfl
    · rw [decide_eq_true (by omega), if_neg (by omega : ¬ x < y)]
      rfl

theorem f93q {a b : Nat} (ha : (dg a).length < 900) (hb : (dg b).length < 900) : f93F 1000 (dg a, dg b) = some (cmp3 a b) := by
  unfold f93F
  by_cases hl : (dg a).length = (dg b).length
  · rw [bif_false (by simp only [hl, bne_self_eq_false])]
    unfold f93l0
    have key : ∀ (k i : Nat), i ≤ (dg a).length → i < k → a / 10 ^ i = b / 10 ^ i →
        iterS (fun rec v => f93l0s 1000 rec (fun (w5 : Int × Unit) => some w5.1) (fun (w6 : Unit) => some (0 : Int)) v) k (dg a, dg b, (i : Int) - 1, ()) = some (cmp3 (a % 10 ^ i) (b % 10 ^ i)) := by
      intro k
      induction k with
      | zero => intro i _ hi; omega
      | succ k ih =>
        intro i hi hk he
        rw [iter_one]
        cases i with
        | zero =>
          unfold f93l0s
          rw [bif_false (by simp)]
          simp [Nat.mod_one, cmp3]
        | succ i =>
          have e0 : ((i + 1 : Nat) : Int) - 1 = (i : Int) := by omega
          rw [e0, f93l0_step _ _ _ _ _ _ (by omega) (by omega) ha]
          have qa := Nat.mod_pow_succ (x := a) (b := 10) (k := i)
          have qb := Nat.mod_pow_succ (x := b) (b := 10) (k := i)
          have la : a % 10 ^ i < 10 ^ i := Nat.mod_lt _ (Nat.pow_pos (by decide))
          have lb : b % 10 ^ i < 10 ^ i := Nat.mod_lt _ (Nat.pow_pos (by decide))
          by_cases hd : a / 10 ^ i % 10 = b / 10 ^ i % 10
          · rw [if_pos hd, ih i (by omega) (by omega)]
            · congr 1
              rw [qa, qb, hd]
              rw [cmp3_add]
            · rw [Nat.pow_succ] at he
              rw [← Nat.div_div_eq_div_mul, ← Nat.div_div_eq_div_mul] at he
              generalize a / 10 ^ i = p at *
              generalize b / 10 ^ i = q at *
              omega
          · rw [if_neg hd]
            congr 1
            rw [qa, qb]
            generalize a / 10 ^ i % 10 = x at *
            generalize b / 10 ^ i % 10 = y at *
            generalize a % 10 ^ i = p at *
            generalize b % 10 ^ i = q at *
            generalize 10 ^ i = t at *
            rcases Nat.lt_or_gt_of_ne hd with h | h
            · have m1 : t * (x + 1) ≤ t * y := Nat.mul_le_mul_left t h
              rw [Nat.mul_add] at m1
              rw [if_pos h, cmp3_lt (by omega)]
            · have m1 : t * (y + 1) ≤ t * x := Nat.mul_le_mul_left t h
              rw [Nat.mul_add] at m1
              rw [if_neg (by omega), cmp3_gt (by omega)]
    have hp := dg_len_pow a
    have hq := dg_len_pow b
    rw [← hl] at hq
    simp only []
    rw [wi (by omega) (by omega)]
    have := key 1000 (dg a).length (Nat.le_refl _) (by omega) (by rw [Nat.div_eq_of_lt hp, Nat.div_eq_of_lt hq])
    rw [this, Nat.mod_eq_of_lt hp, Nat.mod_eq_of_lt hq]
  · rw [bif_true (by simp; omega), f69q, bind_some']
    simp only []
    congr 1
    rcases Nat.lt_or_gt_of_ne hl with h | h
    · have h1 := dg_len_le.1 (Nat.le_refl (dg a).length)
      have h2 := dg_lt_len.1 h
      rw [cmp3_lt (by omega), decide_eq_false (by omega)]
      rfl
    · have h1 := dg_len_le.1 (Nat.le_refl (dg b).length)
      have h2 := dg_lt_len.1 h
      rw [cmp3_gt (by omega), decide_eq_true (by omega)]
      rfl
end Go.Proofs.Ytioagofpofamiaa
/-! Plain laws: the reference's long numbers. -/
set_option linter.unusedVariables false
set_option linter.unusedSimpArgs false
namespace Go.Proofs.Ytioagofpofamiaa
open Go.Ab

theorem at_len {a i : Nat} : i < (dg a).length ↔ 0 < a / 10 ^ i := by
  rw [dg_lt_len, Nat.div_pos_iff]
  exact ⟨fun h => ⟨Nat.pow_pos (by decide), h⟩, fun h => h.2⟩

theorem f94p0_q {R : Type} (k0 : List Int × List Int × Int × Int × List Int × Unit → Option R) (l : List Int) (b i : Nat) (x : Int) (out : List Int) (h0 : -100 ≤ x) (h1 : x ≤ 100) :
    f94p0 1000 k0 (l, dg b, (i : Int), x, out, ()) = k0 (l, dg b, (i : Int), x - ((b / 10 ^ i % 10 : Nat) : Int), out, ()) := by
  unfold f94p0
  simp only [Int.toNat_natCast, dg_getD]
  by_cases h : i < (dg b).length
  · rw [bif_true (by simp; omega), bif_true (by simp; omega), wi (by omega) (by omega)]
  · rw [bif_false (by simp; omega)]
    have : b / 10 ^ i = 0 := Nat.eq_zero_of_not_pos (fun c => h (at_len.2 c))
    rw [this]
    simp

theorem f94l1_step {R : Type} (rec : List Int × List Int × Int × Int × List Int × Unit → Option R) (k0 : List Int × Unit → Option R) (a b c i : Nat) (out : List Int) (hc : c ≤ 1) (hi : i < (dg a).length) (hl : (dg a).length < 900) (ho : out.length = i) :
    ∃ c' d : Nat, f94l1s 1000 rec k0 (dg a, dg b, (c : Int), (i : Int), out, ()) = rec (dg a, dg b, (c' : Int), ((i + 1 : Nat) : Int), out ++ [(d : Int)], ())
      ∧ c' ≤ 1 ∧ d ≤ 9 ∧ a / 10 ^ i % 10 + 10 * c' = b / 10 ^ i % 10 + c + d := by
  unfold f94l1s
  simp only [Int.toNat_natCast, dg_getD]
  rw [bif_true (by simp; omega), bif_true (by simp; omega), wi (by omega) (by omega), f94p0_q _ _ _ _ _ _ (by omega) (by omega)]
  simp only [f69q, bind_some']
  have hx : a / 10 ^ i % 10 < 10 := Nat.mod_lt _ (by decide)
  have hy : b / 10 ^ i % 10 < 10 := Nat.mod_lt _ (by decide)
  generalize a / 10 ^ i % 10 = x at *
  generalize b / 10 ^ i % 10 = y at *
  have eo : ∀ z : Int, (decide ((out.length + [z].length) * 8 ≤ 140737488355328) && decide (out.length + [z].length ≤ 9223372036854775807)) = true := fun z => by simp; omega
  have ei : IntKind.i64.wrap ((i : Int) + 1) = ((i + 1 : Nat) : Int) := by rw [wi (by omega) (by omega)]; omega
  rw [eo, ei]
  simp only [cond_true]
  by_cases h : (x : Int) - c - y < 0
  · have e1 : (if decide ((x : Int) - c - y < 0) = true then (1 : Int) else 0) = ((1 : Nat) : Int) := by rw [if_pos (by simpa using h)]; rfl
    rw [e1]
    refine ⟨1, x + 10 - c - y, ?_, by omega, by omega, by omega⟩
    rw [show IntKind.i64.wrap (10 * ((1 : Nat) : Int)) = 10 from rfl, wi (by omega) (by omega), show (x : Int) - c - y + 10 = ((x + 10 - c - y : Nat) : Int) by omega]
  · have e1 : (if decide ((x : Int) - c - y < 0) = true then (1 : Int) else 0) = ((0 : Nat) : Int) := by rw [if_neg (by simpa using h)]; rfl
    rw [e1]
    refine ⟨0, x - c - y, ?_, by omega, by omega, by omega⟩
    rw [show IntKind.i64.wrap (10 * ((0 : Nat) : Int)) = 0 from rfl, wi (by omega) (by omega), show (x : Int) - c - y + 0 = ((x - c - y : Nat) : Int) by omega]

theorem f94l1_end {R : Type} (rec : List Int × List Int × Int × Int × List Int × Unit → Option R) (k0 : List Int × Unit → Option R) (a b : Nat) (c : Int) (out : List Int) :
    f94l1s 1000 rec k0 (dg a, dg b, c, ((dg a).length : Int), out, ()) = k0 (out, ()) := by
  unfold f94l1s
  rw [bif_false (by simp)]

theorem f94q {a b : Nat} (hab : b ≤ a) (hl : (dg a).length < 900) : f94F 1000 (dg a, dg b) = some (dg (a - b)) := by
  unfold f94F f94l1
  have key : ∀ (k i c : Nat) (out : List Int), i + k = (dg a).length → c ≤ 1 → b / 10 ^ i + c ≤ a / 10 ^ i → Dig out → out.length = i → k < 1000 →
      iterS (fun rec v => f94l1s 1000 rec (fun (w6 : List Int × Unit) => Option.bind (f95F 1000 w6.1) fun y7 => some y7) v) (1000 - i) (dg a, dg b, (c : Int), (i : Int), out, ()) = some (dg (dval out + 10 ^ i * (a / 10 ^ i - b / 10 ^ i - c))) := by
    intro k
    induction k with
    | zero =>
      intro i c out hi hc hle hd ho _
      rw [Nat.add_zero] at hi
      subst hi
      rw [show 1000 - (dg a).length = (999 - (dg a).length) + 1 by omega, iter_one, f94l1_end]
      simp only []
      rw [f95q hd (by omega), bind_some', Nat.div_eq_of_lt (dg_len_pow a)]
      simp [tr]
    | succ k ih =>
      intro i c out hi hc hle hd ho hk
      rw [show 1000 - i = (1000 - (i + 1)) + 1 by omega, iter_one]
      obtain ⟨c', d, e, hc', hd', heq⟩ := f94l1_step (iterS (fun rec v => f94l1s 1000 rec (fun (w6 : List Int × Unit) => Option.bind (f95F 1000 w6.1) fun y7 => some y7) v) (1000 - (i + 1))) (fun (w6 : List Int × Unit) => Option.bind (f95F 1000 w6.1) fun y7 => some y7) a b c i out hc (by omega) hl ho
      rw [e, ih (i + 1) c' _ (by omega) hc' ?_ (Dig.app.2 ⟨hd, Dig.cons.2 ⟨by omega, Dig.nil⟩⟩) (by simp [ho]) (by omega)]
      · congr 2
        rw [dval_app, ho, Nat.pow_succ, ← Nat.div_div_eq_div_mul, ← Nat.div_div_eq_div_mul, Nat.mul_assoc, Nat.add_assoc, ← Nat.mul_add]
        congr 2
        simp only [dval, Int.toNat_natCast]
        generalize a / 10 ^ i = A at *
        generalize b / 10 ^ i = B at *
        omega
      · rw [Nat.pow_succ, ← Nat.div_div_eq_div_mul, ← Nat.div_div_eq_div_mul]
        generalize a / 10 ^ i = A at *
        generalize b / 10 ^ i = B at *
        omega
  have := key (dg a).length 0 0 [] (by omega) (by decide) (by simpa using hab) Dig.nil rfl (by omega)
  rw [Nat.sub_zero] at this
  refine this.trans ?_
  simp [dval]

theorem f92p1_q {R : Type} (k0 : List Int × List Int × Int × Int × List Int × Unit → Option R) (l : List Int) (a i : Nat) (x : Int) (out : List Int) (h0 : -100 ≤ x) (h1 : x ≤ 100) :
    f92p1 1000 k0 (dg a, l, (i : Int), x, out, ()) = k0 (dg a, l, (i : Int), x + ((a / 10 ^ i % 10 : Nat) : Int), out, ()) := by
  unfold f92p1
  simp only [Int.toNat_natCast, dg_getD]
  by_cases h : i < (dg a).length
  · rw [bif_true (by simp; omega), bif_true (by simp; omega), wi (by omega) (by omega)]
  · rw [bif_false (by simp; omega)]
    have : a / 10 ^ i = 0 := Nat.eq_zero_of_not_pos (fun c => h (at_len.2 c))
    rw [this]
    simp
theorem f92p2_q {R : Type} (k0 : List Int × List Int × Int × Int × List Int × Unit → Option R) (l : List Int) (b i : Nat) (x : Int) (out : List Int) (h0 : -100 ≤ x) (h1 : x ≤ 100) :
    f92p2 1000 k0 (l, dg b, (i : Int), x, out, ()) = k0 (l, dg b, (i : Int), x + ((b / 10 ^ i % 10 : Nat) : Int), out, ()) := by
  unfold f92p2
  simp only [Int.toNat_natCast, dg_getD]
  by_cases h : i < (dg b).length
  · rw [bif_true (by simp; omega), bif_true (by simp; omega), wi (by omega) (by omega)]
  · rw [bif_false (by simp; omega)]
    have : b / 10 ^ i = 0 := Nat.eq_zero_of_not_pos (fun c => h (at_len.2 c))
    rw [this]
    simp
theorem f92p0_q {R : Type} (k0 k1 : List Int × List Int × Int × Int × List Int × Unit → Option R) (a b c i : Nat) (out : List Int) :
    f92p0 1000 k0 k1 (dg a, dg b, (c : Int), (i : Int), out, ()) = if a / 10 ^ i + b / 10 ^ i + c = 0 then k1 (dg a, dg b, (c : Int), (i : Int), out, ()) else k0 (dg a, dg b, (c : Int), (i : Int), out, ()) := by
  unfold f92p0
  have pa := at_len (a := a) (i := i)
  have pb := at_len (a := b) (i := i)
  generalize a / 10 ^ i = A at *
  generalize b / 10 ^ i = B at *
  simp only []
  by_cases h1 : i < (dg a).length
  · rw [bif_true (by simp; omega), if_neg (by omega)]
  rw [bif_false (by simp; omega)]
  by_cases h2 : i < (dg b).length
  · rw [bif_true (by simp; omega), if_neg (by omega)]
  rw [bif_false (by simp; omega)]
  by_cases h3 : 0 < c
  · rw [bif_true (by simp; omega), if_neg (by omega)]
  · rw [bif_false (by simp; omega), if_pos (by omega)]

theorem f92l3_step {R : Type} (rec : List Int × List Int × Int × Int × List Int × Unit → Option R) (k0 : List Int × Unit → Option R) (a b c i : Nat) (out : List Int) (hc : c ≤ 1) (hi : i < 1000) (ho : out.length < 1000) :
    f92l3s 1000 rec k0 (dg a, dg b, (c : Int), (i : Int), out, ()) = if a / 10 ^ i + b / 10 ^ i + c = 0 then k0 (out, ()) else
      rec (dg a, dg b, (((a / 10 ^ i % 10 + b / 10 ^ i % 10 + c) / 10 : Nat) : Int), ((i + 1 : Nat) : Int), out ++ [(((a / 10 ^ i % 10 + b / 10 ^ i % 10 + c) % 10 : Nat) : Int)], ()) := by
  unfold f92l3s
  simp only []
  rw [f92p0_q]
  split
  · rfl
  simp only []
  rw [f92p1_q _ _ a i (c : Int) out (by omega) (by omega)]
  simp only []
  rw [f92p2_q _ _ b i _ out (by omega) (by omega)]
  simp only []
  have hx : a / 10 ^ i % 10 < 10 := Nat.mod_lt _ (by decide)
  have hy : b / 10 ^ i % 10 < 10 := Nat.mod_lt _ (by decide)
  generalize a / 10 ^ i % 10 = x at *
  generalize b / 10 ^ i % 10 = y at *
  have eo : ∀ z : Int, (decide ((out.length + [z].length) * 8 ≤ 140737488355328) && decide (out.length + [z].length ≤ 9223372036854775807)) = true := fun z => by simp; omega
  have ei : IntKind.i64.wrap ((i : Int) + 1) = ((i + 1 : Nat) : Int) := by rw [wi (by omega) (by omega)]; omega
  have e1 : (c : Int) + x + y = ((x + y + c : Nat) : Int) := by omega
  have e2 : Int.tmod ((x + y + c : Nat) : Int) 10 = (((x + y + c) % 10 : Nat) : Int) := by rw [Int.tmod_eq_emod_of_nonneg (by omega)]; omega
  have e3 : IntKind.i64.wrap (Int.tdiv ((x + y + c : Nat) : Int) 10) = (((x + y + c) / 10 : Nat) : Int) := by
    rw [Int.tdiv_eq_ediv_of_nonneg (by omega), wi (by omega) (by omega)]; omega
  rw [e1, e2, e3, eo, ei]
  rfl

theorem f92q {a b : Nat} (hl : (dg (a + b)).length < 900) : f92F 1000 (dg a, dg b) = some (dg (a + b)) := by
  unfold f92F f92l3
  have key : ∀ (k i c : Nat) (out : List Int), a / 10 ^ i + b / 10 ^ i + c < 10 ^ k → c ≤ 1 → i + k < 950 → out.length = i →
      iterS (fun rec v => f92l3s 1000 rec (fun (w7 : List Int × Unit) => some w7.1) v) (1000 - i) (dg a, dg b, (c : Int), (i : Int), out, ()) = some (out ++ dg (a / 10 ^ i + b / 10 ^ i + c)) := by
    intro k
    induction k with
    | zero =>
      intro i c out h hc hi ho
      rw [show 1000 - i = (1000 - (i + 1)) + 1 by omega, iter_one, f92l3_step _ _ _ _ _ _ _ hc (by omega) (by omega)]
      have h0 : a / 10 ^ i + b / 10 ^ i + c = 0 := by rw [Nat.pow_zero] at h; exact Nat.lt_one_iff.1 h
      rw [if_pos h0, h0, dg_zero, List.append_nil]
    | succ k ih =>
      intro i c out h hc hi ho
      rw [show 1000 - i = (1000 - (i + 1)) + 1 by omega, iter_one, f92l3_step _ _ _ _ _ _ _ hc (by omega) (by omega)]
      by_cases h0 : a / 10 ^ i + b / 10 ^ i + c = 0
      · rw [if_pos h0, h0, dg_zero, List.append_nil]
      rw [if_neg h0]
      have e : a / 10 ^ (i + 1) + b / 10 ^ (i + 1) + (a / 10 ^ i % 10 + b / 10 ^ i % 10 + c) / 10 = (a / 10 ^ i + b / 10 ^ i + c) / 10 := by
        rw [Nat.pow_succ, ← Nat.div_div_eq_div_mul, ← Nat.div_div_eq_div_mul]
        generalize a / 10 ^ i = A
        generalize b / 10 ^ i = B
        omega
      have e2 : (a / 10 ^ i % 10 + b / 10 ^ i % 10 + c) % 10 = (a / 10 ^ i + b / 10 ^ i + c) % 10 := by
        generalize a / 10 ^ i = A
        generalize b / 10 ^ i = B
        omega
      rw [ih (i + 1) _ _ (by rw [e]; rw [Nat.pow_succ] at h; omega) (by omega) (by omega) (by simp [ho]), e, e2, dg_pos (n := a / 10 ^ i + b / 10 ^ i + c) (Nat.pos_of_ne_zero h0), List.append_assoc]
      rfl
  have := key (dg (a + b)).length 0 0 [] (by simpa using dg_len_pow (a + b)) (by decide) (by omega) rfl
  rw [Nat.sub_zero] at this
  refine this.trans ?_
  simp
end Go.Proofs.Ytioagofpofamiaa
/-! Plain laws: the reference's long numbers: quotients. -/
set_option linter.unusedVariables false
set_option linter.unusedSimpArgs false
namespace Go.Proofs.Ytioagofpofamiaa
open Go.Ab

theorem dg_len_mono {a b : Nat} (h : a ≤ b) : (dg a).length ≤ (dg b).length :=
  dg_len_le.2 (Nat.lt_of_le_of_lt h (dg_len_pow b))

theorem set_getD_self (q : List Int) (i : Nat) (z : Int) (h : q.getD i 0 = z) (hi : i < q.length) : q.set i z = q := by
  rw [List.getD_eq_getElem?_getD, List.getElem?_eq_getElem hi] at h
  rw [← h]
  exact List.set_getElem_self hi

theorem f99l0_step {R : Type} (rec k0 : List Int × List Int × List Int × Int × List Int × Unit → Option R) (l : List Int) (b r i : Nat) (q : List Int) (z : Nat) (hbl : (dg b).length < 900) (hrl : (dg r).length < 900)
    (hi : i < q.length) (hz : q.getD i 0 = (z : Int)) (hz2 : z < 1000) :
    f99l0s 1000 rec k0 (l, dg b, dg r, (i : Int), q, ()) = if r < b then k0 (l, dg b, dg r, (i : Int), q, ()) else rec (l, dg b, dg (r - b), (i : Int), q.set i ((z + 1 : Nat) : Int), ()) := by
  unfold f99l0s
  simp only []
  rw [f93q hrl hbl, bind_some', cmp3_ge]
  by_cases h : r < b
  · rw [if_pos h, decide_eq_false (by omega), cond_false]
  · rw [if_neg h, decide_eq_true (by omega), cond_true, f94q (by omega) hrl, bind_some', bif_true (by simp; omega)]
    simp only [Int.toNat_natCast]
    rw [bif_true (by simp; omega), hz, wi (by omega) (by omega), show (z : Int) + 1 = ((z + 1 : Nat) : Int) by omega]

theorem f99l0_q {R : Type} (k0 : List Int × List Int × List Int × Int × List Int × Unit → Option R) (l : List Int) (b i : Nat) (hb : 0 < b) (hbl : (dg b).length < 800) :
    ∀ (k r : Nat) (q : List Int) (z : Nat), r < b * (k + 1) → r < b * 10 → i < q.length → q.getD i 0 = (z : Int) → z + k < 990 → ∀ m, k < m → 
      iterS (fun rec v => f99l0s 1000 rec k0 v) m (l, dg b, dg r, (i : Int), q, ()) = k0 (l, dg b, dg (r % b), (i : Int), q.set i ((z + r / b : Nat) : Int), ()) := by
  intro k
  induction k with
  | zero =>
    intro r q z hr hr2 hi hz hz2 m hm
    obtain ⟨m, rfl⟩ : ∃ j, m = j + 1 := ⟨m - 1, by omega⟩
    have hlr : (dg r).length < 900 := Nat.lt_of_le_of_lt (dg_len_mono (a := r) (b := b) (by omega)) (by omega)
    rw [iter_one, f99l0_step _ _ _ _ _ _ _ _ (by omega) hlr hi hz (by omega), if_pos (by omega), Nat.mod_eq_of_lt (by omega), Nat.div_eq_of_lt (by omega), Nat.add_zero, set_getD_self _ _ _ hz hi]
  | succ k ih =>
    intro r q z hr hr2 hi hz hz2 m hm
    obtain ⟨m, rfl⟩ : ∃ j, m = j + 1 := ⟨m - 1, by omega⟩
    have hlr : (dg r).length < 900 := by
      have h1 := dg_len_pow b
      have : (dg r).length ≤ (dg b).length + 1 := dg_len_le.2 (by rw [Nat.pow_succ]; omega)
      omega
    rw [iter_one, f99l0_step _ _ _ _ _ _ _ _ (by omega) hlr hi hz (by omega)]
    by_cases h : r < b
    · rw [if_pos h, Nat.mod_eq_of_lt h, Nat.div_eq_of_lt h, Nat.add_zero, set_getD_self _ _ _ hz hi]
    · rw [if_neg h]
      have e1 : r % b = (r - b) % b := Nat.mod_eq_sub_mod (by omega)
      have e2 : r / b = (r - b) / b + 1 := Nat.div_eq_sub_div hb (by omega)
      rw [ih (r - b) _ (z + 1) (by rw [Nat.mul_succ] at hr; omega) (by omega) (by simpa using hi) (by simp [List.getD_eq_getElem?_getD, hi]) (by omega) m (by omega), List.set_set, e1, e2, Nat.add_assoc z 1, Nat.add_comm 1]

theorem f99l1_step {R : Type} (rec : List Int × List Int × List Int × Int × List Int × Unit → Option R) (k0 : List Int × List Int × Unit → Option R) (a b r i : Nat) (Q : List Int) (hb : 0 < b) (hbl : (dg b).length < 800) (hal : (dg a).length < 900) (hi : i < (dg a).length) (hr : r < b) :
    f99l1s 1000 rec k0 (dg a, dg b, dg r, (i : Int), List.replicate (i + 1) 0 ++ Q, ()) = rec (dg a, dg b, dg ((a / 10 ^ i % 10 + 10 * r) % b), (i : Int) - 1, List.replicate i 0 ++ (((a / 10 ^ i % 10 + 10 * r) / b : Nat) : Int) :: Q, ()) := by
  unfold f99l1s
  simp only [Int.toNat_natCast, dg_getD]
  have hlr : (dg r).length < 900 := Nat.lt_of_le_of_lt (dg_len_mono (a := r) (b := b) (by omega)) (by omega)
  have hx : a / 10 ^ i % 10 < 10 := Nat.mod_lt _ (by decide)
  generalize a / 10 ^ i % 10 = x at *
  rw [bif_true (by simp), bif_true (by simp; omega), bif_true (by simp; omega)]
  have e1 : f95F 1000 ([(x : Int)] ++ dg r) = some (dg (x + 10 * r)) := by
    show f95F 1000 ((x : Int) :: dg r) = _
    rw [f95q (Dig.cons.2 ⟨by omega, dg_dig r⟩) (by simp; omega)]
    congr 1
    unfold tr
    congr 1
    simp [dval, dval_dg]
  rw [e1, bind_some']
  unfold f99l0
  rw [f99l0_q _ _ _ _ hb hbl 9 (x + 10 * r) _ 0 (by omega) (by omega) (by simp; omega) (by simp [List.getD_eq_getElem?_getD, List.getElem?_append_left, List.length_replicate]) (by decide) 1000 (by decide)]
  simp only []
  rw [wi (by omega) (by omega), Nat.zero_add]
  congr 5
  have := set_zeros (L := i + 1) (i := 0) (by omega) Q (((x + 10 * r) / b : Nat) : Int)
  simpa using this

theorem f99q {a b : Nat} (hb : 0 < b) (hbl : (dg b).length < 800) (hal : (dg a).length < 900) : f99F 1000 (dg a, dg b) = some (dg (a / b), dg (a % b)) := by
  unfold f99F f99l1
  rw [bif_true (by simp; omega)]
  have key : ∀ (k i : Nat) (Q : List Int), i ≤ (dg a).length → i < k → Dig Q → Q.length = (dg a).length - i → dval Q = a / 10 ^ i / b →
      iterS (fun rec v => f99l1s 1000 rec (fun (w6 : List Int × List Int × Unit) => Option.bind (f95F 1000 w6.2.1) fun y7 => some (y7, w6.1)) v) k (dg a, dg b, dg (a / 10 ^ i % b), (i : Int) - 1, List.replicate i 0 ++ Q, ()) = some (dg (a / b), dg (a % b)) := by
    intro k
    induction k with
    | zero => intro i _ _ hi; omega
    | succ k ih =>
      intro i Q hi hk hQ hl hv
      rw [iter_one]
      cases i with
      | zero =>
        unfold f99l1s
        rw [bif_false (by simp)]
        simp only [List.replicate_zero, List.nil_append]
        rw [f95q hQ (by omega), bind_some', tr, hv, Nat.pow_zero, Nat.div_one]
      | succ i =>
        have e0 : ((i + 1 : Nat) : Int) - 1 = (i : Int) := by omega
        have hr := Nat.mod_lt (a / 10 ^ (i + 1)) hb
        have hx : a / 10 ^ i % 10 < 10 := Nat.mod_lt _ (by decide)
        rw [e0, f99l1_step _ _ _ _ _ _ _ hb hbl hal (by omega) hr]
        have ea : a / 10 ^ i = a / 10 ^ i % 10 + 10 * (a / 10 ^ (i + 1)) := by
          rw [Nat.pow_succ, ← Nat.div_div_eq_div_mul]
          omega
        have em : (a / 10 ^ i % 10 + 10 * (a / 10 ^ (i + 1) % b)) = a / 10 ^ i - b * (10 * (a / 10 ^ (i + 1) / b)) := by
          have := Nat.div_add_mod (a / 10 ^ (i + 1)) b
          rw [Nat.mul_left_comm]
          omega
        have el : b * (10 * (a / 10 ^ (i + 1) / b)) ≤ a / 10 ^ i := by
          have := Nat.div_add_mod (a / 10 ^ (i + 1)) b
          rw [Nat.mul_left_comm]
          omega
        have e1 : (a / 10 ^ i % 10 + 10 * (a / 10 ^ (i + 1) % b)) % b = a / 10 ^ i % b := by
          rw [em, Nat.sub_mul_mod el]
        have e2 : (a / 10 ^ i % 10 + 10 * (a / 10 ^ (i + 1) % b)) / b + 10 * (a / 10 ^ (i + 1) / b) = a / 10 ^ i / b := by
          rw [em, Nat.sub_mul_div_of_le _ _ _ el]
          have h1 : b * (10 * (a / 10 ^ (i + 1) / b)) / b ≤ a / 10 ^ i / b := Nat.div_le_div_right el
          rw [Nat.mul_div_cancel_left _ hb] at h1
          omega
        have e3 : (a / 10 ^ i % 10 + 10 * (a / 10 ^ (i + 1) % b)) / b ≤ 9 := by
          have : (a / 10 ^ i % 10 + 10 * (a / 10 ^ (i + 1) % b)) / b < 10 := by
            generalize a / 10 ^ i % 10 = x at *
            generalize a / 10 ^ (i + 1) % b = y at *
            exact (Nat.div_lt_iff_lt_mul hb).2 (by omega)
          exact Nat.le_of_lt_succ this
        rw [e1]
        exact ih i _ (by omega) (by omega) (Dig.cons.2 ⟨⟨Int.natCast_nonneg _, Int.ofNat_le.2 e3⟩, hQ⟩) (by simp [hl]; omega) (by rw [dval, hv, Int.toNat_natCast, e2])
  have hz : a / 10 ^ (dg a).length = 0 := Nat.div_eq_of_lt (dg_len_pow a)
  have := key 1000 (dg a).length [] (Nat.le_refl _) (by omega) Dig.nil (by simp) (by rw [hz, Nat.zero_div]; rfl)
  rw [hz, Nat.zero_mod, dg_zero, List.append_nil] at this
  simp only [Int.toNat_natCast]
  rw [wi (by omega) (by omega)]
  exact this
end Go.Proofs.Ytioagofpofamiaa
/-! Plain laws: a number put into a type, by the reference and by the code. -/
set_option linter.unusedVariables false
set_option linter.unusedSimpArgs false
namespace Go.Proofs.Ytioagofpofamiaa
open Go.Ab

/-- The quotient of a fraction, cut off or half-adjusted. -/
def wholeN (t B sc : Nat) (half : Bool) : Nat := if half = true ∧ B ≤ 2 * (t * 10 ^ sc % B) then t * 10 ^ sc / B + 1 else t * 10 ^ sc / B

theorem dg_one : dg 1 = [1] := by
  rw [dg_step (n := 1) (d := 1) (q := 0) (by decide) (by decide) rfl, dg_zero]
  rfl

theorem f88q {below half : Bool} {t B sc : Nat} (hB : 0 < B) (hbl : (dg B).length < 700) (htl : (dg t).length < 700) (hs : sc ≤ 60) :
    f88F 1000 (((below, dg t), dg B), (sc : Int), half) = some (below && decide (0 < wholeN t B sc half), dg (wholeN t B sc half)) := by
  unfold f88F
  rw [bif_true (by simp; omega), bif_true (by simp; omega)]
  simp only [Int.toNat_natCast]
  have e1 : f95F 1000 (List.replicate sc 0 ++ dg t) = some (dg (t * 10 ^ sc)) := by
    rw [f95q (Dig.app.2 ⟨Dig.zeros sc, dg_dig t⟩) (by simp; omega), tr, dval_app, dval_zeros, dval_dg]
    simp only [List.length_replicate, Nat.zero_add, Nat.mul_comm]
  have hal : (dg (t * 10 ^ sc)).length ≤ (dg t).length + sc := dg_len_le.2 (by
    rw [Nat.pow_add]
    exact Nat.mul_lt_mul_of_pos_right (dg_len_pow t) (Nat.pow_pos (by decide)))
  rw [e1, bind_some', f99q hB (by omega) (by omega), bind_some']
  have hq : (dg (t * 10 ^ sc / B)).length ≤ (dg (t * 10 ^ sc)).length := dg_len_mono (Nat.div_le_self _ _)
  have hq1 : (dg (t * 10 ^ sc / B + 1)).length ≤ (dg (t * 10 ^ sc)).length + 1 := dg_len_le.2 (by
    have := dg_len_pow (t * 10 ^ sc)
    have := Nat.div_le_self (t * 10 ^ sc) B
    rw [Nat.pow_succ]
    omega)
  have hr : t * 10 ^ sc % B < B := Nat.mod_lt _ hB
  have hr2 : (dg (t * 10 ^ sc % B + t * 10 ^ sc % B)).length ≤ (dg B).length + 1 := dg_len_le.2 (by
    have := dg_len_pow B
    rw [Nat.pow_succ]
    omega)
  have hlen : ∀ n : Nat, decide (((dg n).length : Int) > 0) = decide (0 < n) := fun n => by
    by_cases h : 0 < n
    · rw [decide_eq_true h, decide_eq_true]
      have := dg_lt_len (n := n) (k := 0)
      rw [Nat.pow_zero] at this
      omega
    · have : n = 0 := by omega
      subst this
      rw [dg_zero]; rfl
  unfold f88p0 wholeN
  cases half with
  | false =>
    simp only [cond_false, hlen, Bool.false_eq_true, false_and, if_false]
    cases below <;> simp
  | true =>
    simp only [cond_true, true_and]
    rw [f92q (by omega), bind_some', f93q (by omega) (by omega), bind_some', cmp3_ge]
    by_cases h : B ≤ 2 * (t * 10 ^ sc % B)
    · rw [if_pos h, decide_eq_true (by omega), cond_true, ← dg_one, f92q (by omega), bind_some', hlen]
      cases below <;> simp
    · rw [if_neg h, decide_eq_false (by omega), cond_false, hlen]
      cases below <;> simp

theorem f89q {below : Bool} {a : Nat} (ha : a ≤ 999999999999999999) : f89F 1000 (below, dg a) = some (if below = true then -(a : Int) else a) := by
  unfold f89F f89l0
  have hl : (dg a).length ≤ 18 := dg_len_le.2 (by omega)
  have fin := iter_for (Step := fun rec v => f89l0s 1000 rec (fun (w2 : Int × Bool × List Int × Unit) => bif w2.2.1 then some (IntKind.i64.wrap (0 - w2.1)) else some w2.1) v)
    (fun i => (((a / 10 ^ ((dg a).length - i) : Nat) : Int), (((dg a).length - i : Nat) : Int) - 1, below, dg a, ())) (dg a).length (fin := some (if below = true then -(a : Int) else a))
    (fun rec i hi => by
      unfold f89l0s
      obtain ⟨j, hj⟩ : ∃ j, (dg a).length - i = j + 1 := ⟨(dg a).length - i - 1, by omega⟩
      rw [hj, show (dg a).length - (i + 1) = j by omega, show ((j + 1 : Nat) : Int) - 1 = (j : Int) by omega]
      simp only [Int.toNat_natCast, dg_getD]
      rw [bif_true (by simp), bif_true (by simp; omega)]
      have h1 : a / 10 ^ j = 10 * (a / 10 ^ (j + 1)) + a / 10 ^ j % 10 := by
        rw [Nat.pow_succ, ← Nat.div_div_eq_div_mul]; omega
      have h2 : a / 10 ^ j ≤ a := Nat.div_le_self _ _
      generalize a / 10 ^ j = x at *
      generalize a / 10 ^ (j + 1) = y at *
      rw [wi (x := 10 * (y : Int)) (by omega) (by omega), wi (by omega) (by omega), wi (by omega) (by omega)]
      congr 2
      omega)
    (fun rec => by
      unfold f89l0s
      simp only [Nat.sub_self, Nat.pow_zero, Nat.div_one]
      rw [bif_false (by simp)]
      cases below
      · rfl
      · simp only [cond_true, if_true]
        rw [wi (by omega) (by omega)]
        congr 1
        omega) (k := 1000) (by omega)
  rw [Nat.sub_zero, Nat.div_eq_of_lt (dg_len_pow a)] at fin
  simp only []
  rw [wi (by omega) (by omega)]
  exact fin

theorem wholeI (t B S : Nat) (half : Bool) : (if half = true ∧ (B : Int) ≤ 2 * ((t : Int) * 10 ^ S % B) then (t : Int) * 10 ^ S / B + 1 else (t : Int) * 10 ^ S / B) = ((wholeN t B S half : Nat) : Int) := by
  unfold wholeN
  have e1 : (t : Int) * 10 ^ S / B = ((t * 10 ^ S / B : Nat) : Int) := by simp
  have e2 : (t : Int) * 10 ^ S % B = ((t * 10 ^ S % B : Nat) : Int) := by simp
  rw [e1, e2]
  generalize t * 10 ^ S / B = q
  generalize t * 10 ^ S % B = r
  by_cases h : half = true ∧ B ≤ 2 * r
  · rw [if_pos h, if_pos ⟨h.1, by omega⟩]; rfl
  · rw [if_neg h, if_neg (fun c => h ⟨c.1, by omega⟩)]
theorem f57q {below half : Bool} {t B : Nat} {kd ln sc : Int} (hB : 0 < B) (hbl : (dg B).length < 700) (htl : (dg t).length < 700) (s0 : 0 ≤ sc) (hs : sc ≤ 60) (l0 : 0 ≤ ln) (l1 : ln ≤ 18) :
    f57F 1000 (((below, dg t), dg B), (kd, ln, sc), half) = some (putR below t B sc ln half) := by
  obtain ⟨S, rfl⟩ : ∃ S : Nat, sc = S := ⟨sc.toNat, by omega⟩
  obtain ⟨L, rfl⟩ : ∃ L : Nat, ln = L := ⟨ln.toNat, by omega⟩
  unfold f57F
  simp only []
  rw [f88q hB hbl htl (by omega), bind_some']
  have hw := wholeI t B S half
  unfold putR
  simp only [Int.toNat_natCast, hw]
  generalize wholeN t B S half = w
  have hp : (10 : Int) ^ L = ((10 ^ L : Nat) : Int) := by simp
  rw [hp]
  by_cases h : 10 ^ L ≤ w
  · have := dg_lt_len.2 h
    rw [bif_true (by simp; omega), if_pos (by omega)]
  · have := dg_len_le.2 (Nat.lt_of_not_le h)
    have h18 : 10 ^ L ≤ 10 ^ 18 := Nat.pow_le_pow_right (by decide) (by omega)
    rw [bif_false (by simp; omega), if_neg (by omega), f89q (by omega), bind_some']
    congr 2
    cases below with
    | false => rfl
    | true =>
      by_cases h0 : 0 < w
      · simp [h0]
      · have : w = 0 := by omega
        subst this
        rfl

theorem f19q (n s kd ln sc : Int) (half : Bool) : f19F 1000 ((n, s), (kd, ln, sc), half) = some (convS n s kd ln sc half) := by
  unfold f19F
  simp only [f34q, f56q, bind_some']
  by_cases h1 : numErr n s = 0
  · rw [bif_false (by simpa using h1)]
    by_cases h2 : tyErr kd ln sc = 0
    · by_cases h3 : 1 ≤ kd ∧ kd ≤ 3
      · rw [convS_ok h1 h2 h3, if_pos h2, if_pos h3, bif_false (by simp)]
        have hb := numErr_ok h1
        obtain ⟨a1', a2', a3', a4', a5', a6', a7', a8', a9'⟩ := ty_ok h2
        obtain ⟨l0, l1⟩ := a4' h3
        have s9 := a9' h3
        obtain ⟨m0, m1⟩ := amt_bound hb.1 hb.2.1
        rw [f58q hb.1 hb.2.1 (by omega) (by omega), bind_some']
        have e := f57q (below := decide (n < 0)) (half := half) (t := (amt n).toNat) (B := 10 ^ s.toNat) (kd := kd) (ln := ln) (sc := sc) (Nat.pow_pos (by decide)) (Nat.lt_of_le_of_lt (dg_len_le (k := 16).2 (Nat.pow_lt_pow_right (by decide) (by omega))) (by decide)) (Nat.lt_of_le_of_lt (dg_len_le (k := 15).2 (by omega)) (by decide)) a7' (by omega) (by omega) (by omega)
        have e2 : (((amt n).toNat : Nat) : Int) = amt n := by omega
        have e3 : ((10 ^ s.toNat : Nat) : Int) = 10 ^ s.toNat := by simp
        rw [e2, e3] at e
        simp only []
        rw [e, bind_some']
      · rw [convS_kind h1 h2 h3, if_pos h2, if_neg h3]
        rfl
    · rw [convS_ty h1 h2, if_neg h2, bif_true (by simpa using h2)]
  · rw [convS_num h1, bif_true (by simpa using h1)]

theorem putR_err {below : Bool} {A B sc ln : Int} {half : Bool} (h : (putR below A B sc ln half).2 ≠ 0) : (putR below A B sc ln half).1 = 0 := by
  unfold putR at *
  simp only [] at *
  generalize (if half = true ∧ B ≤ 2 * (A * 10 ^ sc.toNat % B) then A * 10 ^ sc.toNat / B + 1 else A * 10 ^ sc.toNat / B) = q at *
  by_cases c : 10 ^ ln.toNat ≤ q
  · rw [if_pos c]
  · rw [if_neg c] at h
    exact absurd rfl h
theorem convS_err {n s kd ln sc : Int} {half : Bool} (h : (convS n s kd ln sc half).2 ≠ 0) : (convS n s kd ln sc half).1 = (0, ByteArray.empty) := by
  by_cases h1 : numErr n s = 0
  · by_cases h2 : tyErr kd ln sc = 0
    · by_cases h3 : 1 ≤ kd ∧ kd ≤ 3
      · rw [convS_ok h1 h2 h3] at *
        simp only [] at *
        rw [putR_err h]
      · rw [convS_kind h1 h2 h3]
    · rw [convS_ty h1 h2]
  · rw [convS_num h1]

theorem converts (x : (Int × Int) × (Int × (Int × Int)) × Bool) : f5F 1000 x = some true := by
  obtain ⟨⟨n, s⟩, ⟨kd, ln, sc⟩, half⟩ := x
  unfold f5F
  rw [awake_ok, bind_some']
  simp only [Bool.not_true, cond_false, f18q, f19q, bind_some', beq_self_eq_true, cond_true, strEq_self, Bool.and_true]
  have h := convS_err (n := n) (s := s) (kd := kd) (ln := ln) (sc := sc) (half := half)
  generalize convS n s kd ln sc half = r at *
  obtain ⟨⟨v, w⟩, e⟩ := r
  by_cases he : e = 0
  · subst he; rfl
  · have hv := h he
    cases hv
    have : (e != 0) = true := by simpa using he
    simp [this, strEq_self]
end Go.Proofs.Ytioagofpofamiaa
