/- Plain laws: loops, wrapping, digits. -/
import Derived.Test.YtioagofpofamiaaDoorAB
import Derived.Laws.Strings
import Derived.Test.YtioagofpofamiaaDoorFaJ
/-! Plain laws: loops, wrapping, digits. -/
set_option linter.unusedVariables false
set_option linter.unusedSimpArgs false
namespace Go.Ab

theorem wi {x : Int} (h0 : -9223372036854775808 ≤ x) (h1 : x ≤ 9223372036854775807) : IntKind.i64.wrap x = x := by
  rw [IntKind.wrap_i64]; omega
theorem wu8e (x : Int) : IntKind.u8.wrap x = x % 256 := by
  simp [IntKind.wrap, IntKind.signed, IntKind.bits]
theorem wu8 {x : Int} (h0 : 0 ≤ x) (h1 : x ≤ 255) : IntKind.u8.wrap x = x := by
  rw [wu8e]; omega

theorem bind_some' {α β : Type} (a : α) (f : α → Option β) : Option.bind (some a) f = f a := rfl
theorem bif_true {α : Type} {c : Bool} (h : c = true) (a b : α) : (bif c then a else b) = a := by rw [h]; rfl
theorem bif_false {α : Type} {c : Bool} (h : c = false) (a b : α) : (bif c then a else b) = b := by rw [h]; rfl
theorem strEq_self (x : ByteArray) : strEq x x = true := by simp [strEq]
theorem strEq_iff {x y : ByteArray} : strEq x y = true ↔ x = y := by
  constructor
  · intro h
    simp only [strEq, beq_iff_eq] at h
    have h2 : x.data.toList = y.data.toList := by
      have e : ∀ z : ByteArray, z.toList = z.data.toList := fun z => ByteArray.toList_eq z
      rw [← e, ← e, h]
    cases x; cases y
    simp only at h2
    congr
    exact Array.ext' h2
  · rintro rfl
    exact strEq_self x

/-- A loop whose states are told. -/
theorem iter_for {V R : Type} {Step : (V → Option R) → V → Option R} (st : Nat → V) (n : Nat) {fin : Option R} (hstep : ∀ rec i, i < n → Step rec (st i) = rec (st (i + 1))) (hend : ∀ rec, Step rec (st n) = fin) :
    ∀ {k : Nat}, n < k → iterS Step k (st 0) = fin := by
  have : ∀ (d i k : Nat), i + d = n → d < k → iterS Step k (st i) = fin := by
    intro d
    induction d with
    | zero =>
      intro i k hi hk
      cases k with
      | zero => omega
      | succ k =>
        have : i = n := by omega
        subst this
        exact hend _
    | succ d ih =>
      intro i k hi hk
      cases k with
      | zero => omega
      | succ k =>
        show Step (iterS Step k) (st i) = fin
        rw [hstep _ i (by omega)]
        exact ih (i + 1) k (by omega) (by omega)
  intro k hk
  exact this n 0 k (by omega) hk

/-- The lowest digits of a number, the highest of them first. -/
def low (b n : Int) : Nat → List Int
  | 0 => []
  | i + 1 => (n / b ^ i % b) :: low b n i
theorem low_length (b n : Int) : ∀ i, (low b n i).length = i
  | 0 => rfl
  | i + 1 => by simp [low, low_length b n i]
theorem low_mem {b n : Int} (hb : 0 < b) : ∀ {i : Nat} {d : Int}, d ∈ low b n i → 0 ≤ d ∧ d < b
  | 0, _, h => by simp [low] at h
  | i + 1, d, h => by
    simp only [low, List.mem_cons] at h
    rcases h with rfl | h
    · exact ⟨Int.emod_nonneg _ (by omega), Int.emod_lt_of_pos _ hb⟩
    · exact low_mem hb h
theorem set_zeros {L i : Nat} (hi : i < L) (l : List Int) (d : Int) : (List.replicate (L - i) 0 ++ l).set (L - 1 - i) d = List.replicate (L - (i + 1)) 0 ++ d :: l := by
  have e : L - i = (L - 1 - i) + 1 := by omega
  rw [e, List.replicate_succ', List.append_assoc, List.set_append_right _ _ (by simp)]
  simp only [List.length_replicate, Nat.sub_self, List.cons_append, List.nil_append, List.set_cons_zero]
  rw [show L - (i + 1) = L - 1 - i by omega]

theorem getD_take_map (g : Int → Int) (l : List Int) (i : Nat) : ((l.take i).map g ++ l.drop i).getD i 0 = l.getD i 0 := by
  by_cases h : i < l.length
  · rw [List.getD_eq_getElem?_getD, List.getElem?_append_right (by simp; omega)]
    simp [List.length_take, Nat.min_eq_left (Nat.le_of_lt h), List.getD_eq_getElem?_getD]
  · rw [List.getD_eq_getElem?_getD, List.getD_eq_getElem?_getD, List.getElem?_eq_none (by simp; omega), List.getElem?_eq_none (by omega)]
theorem set_take_map (g : Int → Int) {l : List Int} {i : Nat} (h : i < l.length) : ((l.take i).map g ++ l.drop i).set i (g (l.getD i 0)) = (l.take (i + 1)).map g ++ l.drop (i + 1) := by
  rw [List.set_append_right _ _ (by simp; omega)]
  have e : i - ((l.take i).map g).length = 0 := by simp; omega
  rw [e, List.drop_eq_getElem_cons h, List.set_cons_zero, List.take_succ_eq_append_getElem h, List.map_append, List.append_assoc]
  simp [List.getD_eq_getElem?_getD, List.getElem?_eq_getElem h]
theorem set_take_zero (g : Nat → Int) {n i : Nat} (h : i < n) : (((List.range i).map g) ++ List.replicate (n - i) 0).set i (g i) = ((List.range (i + 1)).map g) ++ List.replicate (n - (i + 1)) 0 := by
  rw [List.set_append_right _ _ (by simp)]
  have e : i - ((List.range i).map g).length = 0 := by simp
  rw [e, show n - i = (n - (i + 1)) + 1 by omega, List.replicate_succ, List.set_cons_zero, List.range_succ, List.map_append, List.append_assoc]
  rfl
theorem map_getD_range (g : Int → Int) (l : List Int) : (List.range l.length).map (fun i => g (l.getD i 0)) = l.map g := by
  apply List.ext_getElem
  · simp
  · intro i h1 h2
    simp at h1
    simp [List.getD_eq_getElem?_getD, List.getElem?_eq_getElem h1]
end Go.Ab
/-! Plain laws: types and values checked. -/
set_option linter.unusedVariables false
set_option linter.unusedSimpArgs false
namespace Go.Proofs.YtioagofpofamiaaDoor
open Go.Ab

theorem f70q (k : Nat) (n lo hi : Int) : f70F k (n, lo, hi) = some (decide (lo ≤ n ∧ n ≤ hi)) := by
  unfold f70F
  by_cases h : lo ≤ n <;> simp [h]
theorem f48q (k : Nat) (n lo hi : Int) : f48F k (n, lo, hi) = some (decide (lo ≤ n ∧ n ≤ hi)) := by
  unfold f48F
  by_cases h : lo ≤ n <;> simp [h]
theorem f43q (k : Nat) (b : Bool) (e : Int) : f43F k (b, e) = some (if b = true then e else 0) := by
  unfold f43F
  cases b <;> rfl
theorem f69q (k : Nat) (b : Bool) : f69F k b = some (if b = true then 1 else 0) := by
  unfold f69F
  cases b <;> rfl
theorem f42l0_step {R : Type} (k : Nat) (rec : List Int × Int × Int × Unit → Option R) (k0 : Int × Unit → Option R) (k1 : Unit → Option R) (l : List Int) (i : Nat) (hl : l.length < 1000) (hi : i < l.length) :
    f42l0s k rec k0 k1 (l, (l.length : Int), (i : Int), ()) = if l.getD i 0 = 0 then rec (l, (l.length : Int), ((i + 1 : Nat) : Int), ()) else k0 (l.getD i 0, ()) := by
  unfold f42l0s
  have h1 : (i : Int) < (l.length : Int) := by omega
  simp only [h1, decide_true, cond_true, Int.natCast_nonneg, Bool.and_self, Int.toNat_natCast, wi (x := (i : Int) + 1) (by omega) (by omega)]
  by_cases h : l.getD i 0 = 0
  · rw [if_pos h, h]; rfl
  · rw [if_neg h]
    have : (l.getD i 0 != 0) = true := by simpa using h
    rw [this]
    rfl
theorem f42q (a b : Int) : f42F 1000 [a, b] = some (if a = 0 then b else a) := by
  have e0 : ∀ {R : Type} (Step : (List Int × Int × Int × Unit → Option R) → List Int × Int × Int × Unit → Option R) v, iterS Step 1000 v = Step (fun v => Step (fun v => Step (iterS Step 997) v) v) v := fun _ _ => rfl
  unfold f42F f42l0
  rw [e0]
  have s0 := fun rec k0 k1 => f42l0_step (R := Int) 1000 rec k0 k1 [a, b] 0 (by simp) (by simp)
  have s1 := fun rec k0 k1 => f42l0_step (R := Int) 1000 rec k0 k1 [a, b] 1 (by simp) (by simp)
  have s2 : ∀ rec k0 k1, f42l0s (R := Int) 1000 rec k0 k1 ([a, b], (([a, b].length : Nat) : Int), ((2 : Nat) : Int), ()) = k1 () := fun _ _ _ => rfl
  have z0 : ((0 : Nat) : Int) = 0 := rfl
  rw [z0] at s0
  rw [s0]
  simp only [Nat.zero_add, s1, Nat.reduceAdd, s2]
  by_cases ha : a = 0 <;> by_cases hb : b = 0 <;> simp [ha, hb]

/-- The error of a type. -/
def tyErr (kd ln sc : Int) : Int :=
  if ¬ (0 ≤ kd ∧ kd ≤ 4) then 4
  else if ¬ (if kd = 0 then 1 ≤ ln ∧ ln ≤ 256 else if kd = 1 ∨ kd = 2 then 1 ≤ ln ∧ ln ≤ 15 else if kd = 3 then ln = 4 ∨ ln = 9 else ln = 0) then 18
  else if ¬ (0 ≤ sc ∧ sc ≤ (if kd = 0 ∨ kd = 4 then 0 else ln)) then 3
  else 0

theorem f28q (kd ln sc : Int) : f28F 1000 (kd, ln, sc) = some (tyErr kd ln sc) := by
  unfold f28F f28p1 f28p0 tyErr
  simp only [f70q, f43q, f42q, bind_some']
  by_cases h0 : kd = 0
  · subst h0
    simp [cond_eq_ite]
    repeat' split
    all_goals first | rfl | omega
  by_cases h1 : kd = 1
  · subst h1
    simp [cond_eq_ite]
    repeat' split
    all_goals first | rfl | omega
  by_cases h2 : kd = 2
  · subst h2
    simp [cond_eq_ite]
    repeat' split
    all_goals first | rfl | omega
  by_cases h3 : kd = 3
  · subst h3
    simp [cond_eq_ite]
    repeat' split
    all_goals first | rfl | omega
  by_cases h4 : kd = 4
  · subst h4
    simp [cond_eq_ite]
    repeat' split
    all_goals first | rfl | omega
  · have : ¬ (0 ≤ kd ∧ kd ≤ 4) := by omega
    simp [cond_eq_ite, h0, h1, h2, h3, h4, this]

end Go.Proofs.YtioagofpofamiaaDoor
/-! Plain laws: values checked. -/
set_option linter.unusedVariables false
set_option linter.unusedSimpArgs false
namespace Go.Proofs.YtioagofpofamiaaDoor
open Go.Ab

def pw (n : Int) : Int := 10 ^ n.toNat
theorem upto15 {n : Int} (h0 : 1 ≤ n) (h1 : n ≤ 15) : n = 1 ∨ n = 2 ∨ n = 3 ∨ n = 4 ∨ n = 5 ∨ n = 6 ∨ n = 7 ∨ n = 8 ∨ n = 9 ∨ n = 10 ∨ n = 11 ∨ n = 12 ∨ n = 13 ∨ n = 14 ∨ n = 15 := by omega
theorem pw_bound {n : Int} (h0 : 1 ≤ n) (h1 : n ≤ 15) : 10 ≤ pw n ∧ pw n ≤ 1000000000000000 := by
  rcases upto15 h0 h1 with rfl | rfl | rfl | rfl | rfl | rfl | rfl | rfl | rfl | rfl | rfl | rfl | rfl | rfl | rfl <;> decide
theorem f71q {n : Int} (h0 : 1 ≤ n) (h1 : n ≤ 15) : f71F 1000 n = some (pw n) := by
  rcases upto15 h0 h1 with rfl | rfl | rfl | rfl | rfl | rfl | rfl | rfl | rfl | rfl | rfl | rfl | rfl | rfl | rfl <;> kernel_rfl
/-- The error of a value. -/
def valErr (kd ln sc n : Int) (s : ByteArray) : Int :=
  if tyErr kd ln sc ≠ 0 then tyErr kd ln sc
  else if kd = 4 then 17
  else if kd = 0 then (if n ≠ 0 then 5 else if (s.size : Int) ≠ ln then 18 else 0)
  else if strEq s ByteArray.empty = false then 5
  else if ¬ (-(pw ln - 1) ≤ n ∧ n ≤ pw ln - 1) then 19
  else 0

theorem ty_ok {kd ln sc : Int} (h : tyErr kd ln sc = 0) : 0 ≤ kd ∧ kd ≤ 4 ∧ (kd = 0 → 1 ≤ ln ∧ ln ≤ 256) ∧ (1 ≤ kd ∧ kd ≤ 3 → 1 ≤ ln ∧ ln ≤ 15) ∧ (kd = 3 → ln = 4 ∨ ln = 9) ∧ (kd = 4 → ln = 0) ∧ 0 ≤ sc ∧ (kd = 0 ∨ kd = 4 → sc = 0) ∧ (1 ≤ kd ∧ kd ≤ 3 → sc ≤ ln) := by
  unfold tyErr at h
  repeat' split at h
  all_goals omega

theorem f29q (kd ln sc n : Int) (s : ByteArray) : f29F 1000 ((kd, ln, sc), n, s) = some (valErr kd ln sc n s) := by
  unfold f29F valErr
  simp only [f28q, f43q, f42q, bind_some']
  by_cases ht : tyErr kd ln sc = 0
  · obtain ⟨a1, a2, a3, a4, a5, a6, a7, a8, a9⟩ := ty_ok ht
    rw [ht]
    by_cases h4 : kd = 4
    · subst h4
      simp [cond_eq_ite]
    by_cases h0 : kd = 0
    · subst h0
      simp [cond_eq_ite]
      repeat' split
      all_goals first | rfl | omega
    · have hl := a4 (by omega)
      have hb := pw_bound hl.1 hl.2
      rw [f71q hl.1 hl.2]
      simp only [bind_some', f70q]
      rw [wi (x := pw ln - 1) (by omega) (by omega), wi (x := 0 - (pw ln - 1)) (by omega) (by omega)]
      simp [cond_eq_ite, h4, h0]
      cases strEq s ByteArray.empty
      · simp
      · simp
        repeat' split
        all_goals first | rfl | omega
  · have hn : (tyErr kd ln sc != 0) = true := by simpa using ht
    simp [ht, cond_eq_ite]

end Go.Proofs.YtioagofpofamiaaDoor
/-! Plain laws: digits. -/
set_option linter.unusedVariables false
set_option linter.unusedSimpArgs false
namespace Go.Proofs.YtioagofpofamiaaDoor
open Go.Ab

theorem div_pow {b n : Int} (hb : 0 < b) (i : Nat) : n / b ^ i / b = n / b ^ (i + 1) := by
  rw [Int.pow_succ, Int.ediv_ediv_of_nonneg (Int.le_of_lt (Int.pow_pos hb))]
theorem div_le {b n : Int} (hb : 0 < b) (hn : 0 ≤ n) (i : Nat) : 0 ≤ n / b ^ i ∧ n / b ^ i ≤ n :=
  ⟨Int.ediv_nonneg hn (Int.le_of_lt (Int.pow_pos hb)), Int.ediv_le_self _ hn⟩

theorem f75q {n : Int} {L : Nat} (h0 : 0 ≤ n) (h1 : n ≤ 9223372036854775807) (hL : L ≤ 900) : f75F 1000 (n, (L : Int)) = some (low 10 n L) := by
  unfold f75F
  have c1 : (((decide ((0 : Int) ≤ (L : Int))) && (decide (((L : Int) * 1) ≤ (140737488355328 : Int)))) && (decide ((L : Int) ≤ (281474976710656 : Int)))) = true := by
    simp; omega
  simp only [c1, cond_true]
  unfold f75l0
  have key := iter_for (R := List Int) (Step := fun rec v => f75l0s 1000 rec (fun w => some w.1) v) (fun i => (n / 10 ^ i, (L : Int) - 1 - i, List.replicate (L - i) 0 ++ low 10 n i, ())) L (fin := some (low 10 n L)) ?_ ?_ (k := 1000) (by omega)
  · simp only [Int.toNat_natCast, wi (x := (L : Int) - 1) (by omega) (by omega)]
    simpa [low] using key
  · intro rec i hi
    obtain ⟨d0, d1⟩ := div_le (b := 10) (by decide) h0 i
    unfold f75l0s
    have e1 : (decide ((L : Int) - 1 - i ≥ 0)) = true := by simp; omega
    have e0 : (decide ((0 : Int) ≤ (L : Int) - 1 - i)) = true := by simp; omega
    have e2 : (decide ((L : Int) - 1 - i < ((List.replicate (L - i) (0 : Int) ++ low 10 n i).length : Int))) = true := by
      simp [low_length]; omega
    have e3 : ((L : Int) - 1 - i).toNat = L - 1 - i := by omega
    simp only [e1, e0, e2, e3, Bool.and_self, cond_true]
    rw [Int.tmod_eq_emod_of_nonneg d0, Int.tdiv_eq_ediv_of_nonneg d0, div_pow (by decide), wu8 (by omega) (by omega), set_zeros hi]
    obtain ⟨d2, d3⟩ := div_le (b := 10) (by decide) h0 (i + 1)
    rw [wi (x := n / 10 ^ (i + 1)) (by omega) (by omega), wi (x := (L : Int) - 1 - i - 1) (by omega) (by omega), show (L : Int) - 1 - i - 1 = (L : Int) - 1 - ((i + 1 : Nat) : Int) by omega]
    rfl
  · intro rec
    unfold f75l0s
    have e1 : (decide ((L : Int) - 1 - L ≥ 0)) = false := by simp; omega
    simp only [e1, cond_false, Nat.sub_self, List.replicate_zero, List.nil_append]

/-- The highest byte first: as the code of numeric writes it. -/
theorem f40l4q {n : Int} {L : Nat} {R : Type} (k0 : List Int × Unit → Option R) (h0 : -9223372036854775808 ≤ n) (h1 : n ≤ 9223372036854775807) (hL : L ≤ 900) :
    f40l4 1000 k0 ((L : Int) - 1, n, List.replicate L 0, ()) = k0 (low 256 n L, ()) := by
  unfold f40l4
  have key := iter_for (R := R) (Step := fun rec v => f40l4s 1000 rec k0 v) (fun i => ((L : Int) - 1 - i, n / 256 ^ i, List.replicate (L - i) 0 ++ low 256 n i, ())) L (fin := k0 (low 256 n L, ())) ?_ ?_ (k := 1000) (by omega)
  · simpa [low] using key
  · intro rec i hi
    unfold f40l4s
    have e1 : (decide ((L : Int) - 1 - i ≥ 0)) = true := by simp; omega
    have e0 : (decide ((0 : Int) ≤ (L : Int) - 1 - i)) = true := by simp; omega
    have e2 : (decide ((L : Int) - 1 - i < ((List.replicate (L - i) (0 : Int) ++ low 256 n i).length : Int))) = true := by
      simp [low_length]; omega
    have e3 : ((L : Int) - 1 - i).toNat = L - 1 - i := by omega
    simp only [e1, e0, e2, e3, Bool.and_self, cond_true]
    rw [wu8e, set_zeros hi, wi (x := (L : Int) - 1 - i - 1) (by omega) (by omega)]
    have e4 : shrI .i64 (n / 256 ^ i) 8 = n / 256 ^ (i + 1) := by
      unfold shrI
      rw [show min (8 : Int).toNat IntKind.i64.bits = 8 from rfl, Int.fdiv_eq_ediv_of_nonneg _ (by decide), show (2 : Int) ^ 8 = 256 from rfl]
      exact div_pow (by decide) i
    rw [e4, show (L : Int) - 1 - i - 1 = (L : Int) - 1 - ((i + 1 : Nat) : Int) by omega]
    rfl
  · intro rec
    unfold f40l4s
    have e1 : (decide ((L : Int) - 1 - L ≥ 0)) = false := by simp; omega
    simp only [e1, cond_false, Nat.sub_self, List.replicate_zero, List.nil_append]

end Go.Proofs.YtioagofpofamiaaDoor
/-! Plain laws: the bytes of values. -/
set_option linter.unusedVariables false
set_option linter.unusedSimpArgs false
namespace Go.Proofs.YtioagofpofamiaaDoor
open Go.Ab

theorem mx_abs {n : Int} (h0 : -1000000000000000 ≤ n) (h1 : n ≤ 1000000000000000) : mxI n (IntKind.i64.wrap (0 - n)) = if n < 0 then -n else n := by
  rw [wi (by omega) (by omega)]
  unfold mxI
  split <;> split <;> omega

def z240 (d : Int) : Int := IntKind.u8.wrap (d + 240)

theorem f40l0q {R : Type} (k0 : Int × ByteArray × List Int × Unit → Option R) (n : Int) (s : ByteArray) (y : List Int) (hy : y.length ≤ 900) :
    f40l0 1000 k0 ((y.length : Int), 0, n, s, y, ()) = k0 (n, s, y.map z240, ()) := by
  unfold f40l0
  have key := iter_for (R := R) (Step := fun rec v => f40l0s 1000 rec k0 v) (fun i => ((y.length : Int), (i : Int), n, s, (y.take i).map z240 ++ y.drop i, ())) y.length (fin := k0 (n, s, y.map z240, ())) ?_ ?_ (k := 1000) (by omega)
  · simpa using key
  · intro rec i hi
    unfold f40l0s
    have e1 : (decide ((i : Int) < (y.length : Int))) = true := by simp; omega
    have e0 : (decide ((0 : Int) ≤ (i : Int))) = true := by simp
    have e2 : (decide ((i : Int) < (((y.take i).map z240 ++ y.drop i).length : Int))) = true := by simp; omega
    simp only [e1, e0, e2, Bool.and_self, cond_true, Int.toNat_natCast, getD_take_map]
    rw [wi (x := (i : Int) + 1) (by omega) (by omega)]
    have := set_take_map z240 hi
    unfold z240 at this ⊢
    rw [this]
    rfl
  · intro rec
    unfold f40l0s
    have e1 : (decide ((y.length : Int) < (y.length : Int))) = false := by simp
    simp only [e1, cond_false, List.take_length, List.drop_length, List.append_nil]

def r240 (d : Int) : Int := IntKind.u8.wrap (IntKind.i64.wrap (240 + d))
theorem nib : ∀ a b : Fin 16, bits .or .u8 (shlI .u8 (a.val : Int) 4) (b.val : Int) = 16 * a.val + b.val := by decide +kernel
theorem nib' {a b : Int} (a0 : 0 ≤ a) (a1 : a ≤ 15) (b0 : 0 ≤ b) (b1 : b ≤ 15) : bits .or .u8 (shlI .u8 a 4) b = 16 * a + b := by
  have := nib ⟨a.toNat, by omega⟩ ⟨b.toNat, by omega⟩
  simp only at this
  rwa [show ((a.toNat : Nat) : Int) = a by omega, show ((b.toNat : Nat) : Int) = b by omega] at this

def pair16 (l : List Int) (j : Nat) : Int := 16 * l.getD (2 * j) 0 + l.getD (2 * j + 1) 0
theorem getD_mem {l : List Int} {P : Int → Prop} (h : ∀ d ∈ l, P d) {i : Nat} (hi : i < l.length) : P (l.getD i 0) := by
  rw [List.getD_eq_getElem?_getD, List.getElem?_eq_getElem hi]
  exact h _ (List.getElem_mem hi)

theorem f76q (l : List Int) (m : Nat) (hl : l.length = 2 * m) (hm : m ≤ 450) (hd : ∀ d ∈ l, 0 ≤ d ∧ d ≤ 15) : f76F 1000 l = some (strOfNums ((List.range m).map (pair16 l))) := by
  unfold f76F f76l0
  have key := iter_for (R := ByteArray) (Step := fun rec v => f76l0s 1000 rec (fun w => some (strOfNums w.1)) v) (fun i => (l, ((2 * i : Nat) : Int), (List.range i).map (pair16 l), ())) m (fin := some (strOfNums ((List.range m).map (pair16 l)))) ?_ ?_ (k := 1000) (by omega)
  · simpa using key
  · intro rec i hi
    unfold f76l0s
    have e1 : (decide (((2 * i : Nat) : Int) < (l.length : Int))) = true := by simp; omega
    have e0 : (decide ((0 : Int) ≤ ((2 * i : Nat) : Int))) = true := by simp; omega
    have w1 : IntKind.i64.wrap (((2 * i : Nat) : Int) + 1) = ((2 * i + 1 : Nat) : Int) := by rw [wi (by omega) (by omega)]; rfl
    have e2 : (decide ((0 : Int) ≤ ((2 * i + 1 : Nat) : Int))) = true := by simp; omega
    have e3 : (decide (((2 * i + 1 : Nat) : Int) < (l.length : Int))) = true := by simp; omega
    simp only [e1, e0, w1, e2, e3, Bool.and_self, cond_true, Int.toNat_natCast]
    obtain ⟨a0, a1⟩ := getD_mem hd (i := 2 * i) (by omega)
    obtain ⟨b0, b1⟩ := getD_mem hd (i := 2 * i + 1) (by omega)
    rw [nib' a0 a1 b0 b1]
    have e4 : (decide ((((List.range i).map (pair16 l)).length + [16 * l.getD (2 * i) 0 + l.getD (2 * i + 1) 0].length) * 1 ≤ 140737488355328) && decide (((List.range i).map (pair16 l)).length + [16 * l.getD (2 * i) 0 + l.getD (2 * i + 1) 0].length ≤ 9223372036854775807)) = true := by
      simp; omega
    rw [e4]
    simp only [cond_true]
    rw [wi (x := ((2 * i : Nat) : Int) + 2) (by omega) (by omega), List.range_succ, List.map_append, show ((2 * i : Nat) : Int) + 2 = ((2 * (i + 1) : Nat) : Int) by omega]
    rfl
  · intro rec
    unfold f76l0s
    have e1 : (decide (((2 * m : Nat) : Int) < (l.length : Int))) = false := by simp; omega
    simp only [e1, cond_false]

end Go.Proofs.YtioagofpofamiaaDoor
/-! Plain laws: the bytes of a value are as the reference has them. -/
set_option linter.unusedVariables false
set_option linter.unusedSimpArgs false
namespace Go.Proofs.YtioagofpofamiaaDoor
open Go.Ab

theorem f40p1q {R : Type} (k0 : Int × ByteArray × List Int × Unit → Option R) (n : Int) (s : ByteArray) (z : List Int) (h0 : 1 ≤ z.length) (h1 : z.length ≤ 900) :
    f40p1 1000 k0 (n, s, z, ()) = if n < 0 then k0 (n, s, z.set (z.length - 1) (IntKind.u8.wrap (z.getD (z.length - 1) 0 - 32)), ()) else k0 (n, s, z, ()) := by
  unfold f40p1
  have w : IntKind.i64.wrap ((z.length : Int) - 1) = ((z.length - 1 : Nat) : Int) := by rw [wi (by omega) (by omega)]; omega
  have e0 : (decide ((0 : Int) ≤ ((z.length - 1 : Nat) : Int))) = true := by simp <;> omega
  have e1 : (decide (((z.length - 1 : Nat) : Int) < (z.length : Int))) = true := by simp; omega
  simp only [w, e0, e1, Bool.and_self, cond_true, Int.toNat_natCast]
  by_cases h : n < 0 <;> simp [h]
theorem zoned_eq {y : List Int} (hd : ∀ d ∈ y, 0 ≤ d ∧ d < 10) : y.map z240 = y.map r240 := by
  refine List.map_congr_left fun d h => ?_
  obtain ⟨h0, h1⟩ := hd d h
  unfold z240 r240
  rw [wi (by omega) (by omega), wu8 (by omega) (by omega), wu8 (by omega) (by omega)]
  omega
theorem last_eq {y : List Int} (hd : ∀ d ∈ y, 0 ≤ d ∧ d < 10) (h0 : 1 ≤ y.length) : IntKind.u8.wrap ((y.map z240).getD (y.length - 1) 0 - 32) = IntKind.u8.wrap (IntKind.i64.wrap (208 + y.getD (y.length - 1) 0)) := by
  obtain ⟨a0, a1⟩ := getD_mem hd (i := y.length - 1) (by omega)
  have : (y.map z240).getD (y.length - 1) 0 = z240 (y.getD (y.length - 1) 0) := by
    simp only [List.getD_eq_getElem?_getD, List.getElem?_map]
    rw [List.getElem?_eq_getElem (by omega)]
    rfl
  rw [this]
  unfold z240
  rw [wu8 (x := y.getD (y.length - 1) 0 + 240) (by omega) (by omega), wi (by omega) (by omega)]
  congr 1
  omega

/-- A number's amount. -/
def amt (n : Int) : Int := if n < 0 then -n else n

end Go.Proofs.YtioagofpofamiaaDoor
/-! Plain law: the bytes of a value are as specified, or the error. -/
set_option linter.unusedVariables false
set_option linter.unusedSimpArgs false
namespace Go.Proofs.YtioagofpofamiaaDoor
open Go.Ab

theorem awake_ok : f13F 1000 () = some true := by kernel_rfl

end Go.Proofs.YtioagofpofamiaaDoor
/-! Plain laws: bytes and half bytes; loops that may end early. -/
set_option linter.unusedVariables false
set_option linter.unusedSimpArgs false
namespace Go.Proofs.YtioagofpofamiaaDoor
open Go.Ab

theorem bytes_len (s : ByteArray) : (bytesOf s).length = s.size := by
  unfold bytesOf
  rw [List.length_map]
  rfl
theorem bytes_mem {s : ByteArray} {d : Int} (h : d ∈ bytesOf s) : 0 ≤ d ∧ d ≤ 255 := by
  simp only [bytesOf, List.mem_map] at h
  obtain ⟨b, _, rfl⟩ := h
  have := b.toNat_lt
  omega
theorem bytes_get (s : ByteArray) (i : Nat) : 0 ≤ (bytesOf s).getD i 0 ∧ (bytesOf s).getD i 0 ≤ 255 := by
  by_cases h : i < (bytesOf s).length
  · exact getD_mem (P := fun d => 0 ≤ d ∧ d ≤ 255) (fun d hd => bytes_mem hd) h
  · rw [List.getD_eq_getElem?_getD, List.getElem?_eq_none (by omega)]
    decide
theorem bt_get (s : ByteArray) (i : Nat) : bt s (i : Int) = (bytesOf s).getD i 0 := by
  unfold bt
  rw [Int.toNat_natCast]
  split
  · rename_i h
    have h' : i < s.data.toList.length := h
    simp only [bytesOf, List.getD_eq_getElem?_getD, List.getElem?_map, List.getElem?_eq_getElem h', Option.map_some, Option.getD_some]
    rfl
  · rename_i h
    rw [List.getD_eq_getElem?_getD, List.getElem?_eq_none (by rw [bytes_len]; omega)]
    rfl

theorem shr4 : ∀ b : Fin 256, shrI .u8 (b.val : Int) 4 = (b.val : Int) / 16 := by decide +kernel
theorem shr4' {b : Int} (h0 : 0 ≤ b) (h1 : b ≤ 255) : shrI .u8 b 4 = b / 16 := by
  have := shr4 ⟨b.toNat, by omega⟩
  simp only at this
  rwa [show ((b.toNat : Nat) : Int) = b by omega] at this
theorem and15 : ∀ b : Fin 256, bits .and .u8 (b.val : Int) 15 = (b.val : Int) % 16 := by decide +kernel
theorem and15' {b : Int} (h0 : 0 ≤ b) (h1 : b ≤ 255) : bits .and .u8 b 15 = b % 16 := by
  have := and15 ⟨b.toNat, by omega⟩
  simp only at this
  rwa [show ((b.toNat : Nat) : Int) = b by omega] at this

/-- Digits read one after the other, till one is bad. -/
def scanB (bad : Nat → Bool) (val : Nat → Int) : Nat → Nat → Int → Nat ⊕ Int
  | 0, _, n => .inr n
  | r + 1, i, n => bif bad i then .inl i else scanB bad val r (i + 1) (n * 10 + val i)

theorem scanB_bound {bad : Nat → Bool} {val : Nat → Int} {N : Nat} (hv : ∀ i, i < N → bad i = false → 0 ≤ val i ∧ val i ≤ 9) : ∀ {r i : Nat} {n m : Int}, i + r ≤ N → 0 ≤ n → n < 10 ^ i → scanB bad val r i n = .inr m → 0 ≤ m ∧ m < 10 ^ (i + r)
  | 0, i, n, m, _, h0, h1, h => by
    simp only [scanB, Sum.inr.injEq] at h
    subst h
    exact ⟨h0, h1⟩
  | r + 1, i, n, m, hN, h0, h1, h => by
    simp only [scanB] at h
    cases hb : bad i with
    | true => rw [hb] at h; cases h
    | false =>
      rw [hb] at h
      simp only [cond_false] at h
      obtain ⟨v0, v1⟩ := hv i (by omega) hb
      have := scanB_bound hv (r := r) (i := i + 1) (n := n * 10 + val i) (by omega) (by omega) (by rw [Int.pow_succ]; omega) h
      rwa [show i + 1 + r = i + (r + 1) by omega] at this
theorem scanB_lt {bad : Nat → Bool} {val : Nat → Int} : ∀ {r i : Nat} {n : Int} {j : Nat}, scanB bad val r i n = .inl j → i ≤ j ∧ j < i + r
  | 0, _, _, _, h => by cases h
  | r + 1, i, n, j, h => by
    simp only [scanB] at h
    cases hb : bad i with
    | true =>
      rw [hb] at h
      simp only [cond_true, Sum.inl.injEq] at h
      omega
    | false =>
      rw [hb] at h
      have := scanB_lt (r := r) h
      omega
theorem scanB_congr {bad bad' : Nat → Bool} {val val' : Nat → Int} : ∀ {r i : Nat} {n : Int}, (∀ j, i ≤ j → j < i + r → bad j = bad' j ∧ val j = val' j) → scanB bad val r i n = scanB bad' val' r i n
  | 0, _, _, _ => rfl
  | r + 1, i, n, h => by
    obtain ⟨h1, h2⟩ := h i (by omega) (by omega)
    simp only [scanB, h1, h2]
    rw [scanB_congr fun j a b => h j (by omega) (by omega)]

theorem iter_scan {V R : Type} {Step : (V → Option R) → V → Option R} (st : Nat → Int → V) {bad : Nat → Bool} {val : Nat → Int} {N : Nat} {exit : Nat → Option R}
    (hv : ∀ i, i < N → bad i = false → 0 ≤ val i ∧ val i ≤ 9) (hstep : ∀ rec i m, i < N → 0 ≤ m → m < 10 ^ i → Step rec (st i m) = bif bad i then exit i else rec (st (i + 1) (m * 10 + val i))) :
    ∀ {r i k : Nat} {m : Int}, i + r = N → r ≤ k → 0 ≤ m → m < 10 ^ i → iterS Step k (st i m) = match scanB bad val r i m with
      | .inl j => exit j
      | .inr m => iterS Step (k - r) (st N m)
  | 0, i, k, m, hi, hk, h0, h1 => by
    rw [Nat.add_zero] at hi
    subst hi
    rfl
  | r + 1, i, k, m, hi, hk, h0, h1 => by
    obtain ⟨k, rfl⟩ : ∃ k', k = k' + 1 := ⟨k - 1, by omega⟩
    show Step (iterS Step k) (st i m) = _
    rw [hstep _ i m (by omega) h0 h1]
    simp only [scanB]
    cases hb : bad i with
    | true => rfl
    | false =>
      simp only [cond_false]
      obtain ⟨v0, v1⟩ := hv i (by omega) hb
      rw [iter_scan st hv hstep (r := r) (i := i + 1) (k := k) (by omega) (by omega) (by omega) (by rw [Int.pow_succ]; omega), show k + 1 - (r + 1) = k - r by omega]

theorem pow_le16 {i : Nat} (h : i ≤ 16) : (10 : Int) ^ i ≤ 10000000000000000 := by
  have := Nat.pow_le_pow_right (n := 10) (by decide) h
  have e : ((10 ^ i : Nat) : Int) = (10 : Int) ^ i := by simp
  rw [← e]
  omega

/-! ### Half bytes, as the code of numeric lays them -/
def half (s : ByteArray) (t : Nat) : Int := if t % 2 = 0 then (bytesOf s).getD (t / 2) 0 / 16 else (bytesOf s).getD (t / 2) 0 % 16
def atH (t : Nat) : Int := ((t / 2 : Nat) : Int)
theorem half_bound (s : ByteArray) (t : Nat) : 0 ≤ half s t ∧ half s t ≤ 15 := by
  have := bytes_get s (t / 2)
  unfold half
  split <;> omega
def lowh (s : ByteArray) (t : Nat) : Int := (bytesOf s).getD t 0 % 16
def atZ (t : Nat) : Int := (t : Int)

theorem halves1 {ln sc : Int} (s : ByteArray) (h : s.size ≤ 400) : f80F 1000 ((1, ln, sc), s) = some ((List.range (2 * s.size)).map (half s), (List.range (2 * s.size)).map atH) := by
  unfold f80F f80l1
  have key := iter_for (R := List Int × List Int) (Step := fun rec v => f80l1s 1000 rec (fun w3 => f80p2 1000 (fun w5 => some (w5.2.2.2.2.1, w5.2.2.2.2.2.1)) (w3.1, w3.2.1, w3.2.2.1, w3.2.2.2.1, w3.2.2.2.2.1, w3.2.2.2.2.2.1, ())) v)
    (fun i => (s, (s.size : Int), (i : Int), 1, ln, sc, (List.range (2 * i)).map (half s), (List.range (2 * i)).map atH, ())) s.size (fin := some ((List.range (2 * s.size)).map (half s), (List.range (2 * s.size)).map atH)) ?_ ?_ (k := 1000) (by omega)
  · simpa using key
  · intro rec i hi
    unfold f80l1s f80p0
    have e1 : (decide ((i : Int) < (s.size : Int))) = true := by simp; omega
    have e0 : (decide ((0 : Int) ≤ (i : Int))) = true := by simp
    have k1 : ((1 : Int) == 1) = true := rfl
    obtain ⟨b0, b1⟩ := bytes_get s i
    simp only [e1, e0, k1, Bool.and_self, cond_true, bt_get, shr4' b0 b1, and15' b0 b1]
    have c1 : (decide ((((List.range (2 * i)).map (half s)).length + [(bytesOf s).getD i 0 / 16, (bytesOf s).getD i 0 % 16].length) * 1 ≤ 140737488355328) && decide (((List.range (2 * i)).map (half s)).length + [(bytesOf s).getD i 0 / 16, (bytesOf s).getD i 0 % 16].length ≤ 9223372036854775807)) = true := by simp; omega
    have c2 : (decide ((((List.range (2 * i)).map atH).length + [(i : Int), (i : Int)].length) * 8 ≤ 140737488355328) && decide (((List.range (2 * i)).map atH).length + [(i : Int), (i : Int)].length ≤ 9223372036854775807)) = true := by simp; omega
    rw [c1, c2]
    simp only [cond_true]
    rw [wi (x := (i : Int) + 1) (by omega) (by omega)]
    have a1 : (List.range (2 * (i + 1))).map (half s) = (List.range (2 * i)).map (half s) ++ [(bytesOf s).getD i 0 / 16, (bytesOf s).getD i 0 % 16] := by
      rw [show 2 * (i + 1) = 2 * i + 1 + 1 by omega, List.range_succ, List.range_succ]
      simp only [List.map_append, List.map_cons, List.map_nil, List.append_assoc, List.cons_append, List.nil_append]
      have x1 : half s (2 * i) = (bytesOf s).getD i 0 / 16 := by unfold half; rw [if_pos (by omega), show 2 * i / 2 = i by omega]
      have x2 : half s (2 * i + 1) = (bytesOf s).getD i 0 % 16 := by unfold half; rw [if_neg (by omega), show (2 * i + 1) / 2 = i by omega]
      rw [x1, x2]
    have a2 : (List.range (2 * (i + 1))).map atH = (List.range (2 * i)).map atH ++ [(i : Int), (i : Int)] := by
      rw [show 2 * (i + 1) = 2 * i + 1 + 1 by omega, List.range_succ, List.range_succ]
      simp only [List.map_append, List.map_cons, List.map_nil, List.append_assoc, List.cons_append, List.nil_append]
      have x1 : atH (2 * i) = i := by unfold atH; rw [show 2 * i / 2 = i by omega]
      have x2 : atH (2 * i + 1) = i := by unfold atH; rw [show (2 * i + 1) / 2 = i by omega]
      rw [x1, x2]
    rw [a1, a2]
    rfl
  · intro rec
    unfold f80l1s f80p2
    have e1 : (decide ((s.size : Int) < (s.size : Int))) = false := by simp
    simp only [e1, cond_false]
    rfl

theorem halves2 {ln sc : Int} (s : ByteArray) (h0 : 1 ≤ s.size) (h : s.size ≤ 400) : f80F 1000 ((2, ln, sc), s) = some ((List.range s.size).map (lowh s) ++ [(bytesOf s).getD (s.size - 1) 0 / 16], (List.range s.size).map atZ ++ [((s.size - 1 : Nat) : Int)]) := by
  unfold f80F f80l1
  have key := iter_for (R := List Int × List Int) (Step := fun rec v => f80l1s 1000 rec (fun w3 => f80p2 1000 (fun w5 => some (w5.2.2.2.2.1, w5.2.2.2.2.2.1)) (w3.1, w3.2.1, w3.2.2.1, w3.2.2.2.1, w3.2.2.2.2.1, w3.2.2.2.2.2.1, ())) v)
    (fun i => (s, (s.size : Int), (i : Int), 2, ln, sc, (List.range i).map (lowh s), (List.range i).map atZ, ())) s.size (fin := some ((List.range s.size).map (lowh s) ++ [(bytesOf s).getD (s.size - 1) 0 / 16], (List.range s.size).map atZ ++ [((s.size - 1 : Nat) : Int)])) ?_ ?_ (k := 1000) (by omega)
  · simpa using key
  · intro rec i hi
    unfold f80l1s f80p0
    have e1 : (decide ((i : Int) < (s.size : Int))) = true := by simp; omega
    have e0 : (decide ((0 : Int) ≤ (i : Int))) = true := by simp
    have k1 : ((2 : Int) == 1) = false := rfl
    obtain ⟨b0, b1⟩ := bytes_get s i
    simp only [e1, e0, k1, Bool.and_self, cond_true, cond_false, bt_get, shr4' b0 b1, and15' b0 b1]
    have c1 : (decide ((((List.range i).map (lowh s)).length + [(bytesOf s).getD i 0 % 16].length) * 1 ≤ 140737488355328) && decide (((List.range i).map (lowh s)).length + [(bytesOf s).getD i 0 % 16].length ≤ 9223372036854775807)) = true := by simp; omega
    have c2 : (decide ((((List.range i).map atZ).length + [(i : Int)].length) * 8 ≤ 140737488355328) && decide (((List.range i).map atZ).length + [(i : Int)].length ≤ 9223372036854775807)) = true := by simp; omega
    rw [c1, c2]
    simp only [cond_true]
    rw [wi (x := (i : Int) + 1) (by omega) (by omega), List.range_succ, List.map_append, List.map_append]
    rfl
  · intro rec
    unfold f80l1s f80p2
    have e1 : (decide ((s.size : Int) < (s.size : Int))) = false := by simp
    have k2 : ((2 : Int) == 2) = true := rfl
    have w : IntKind.i64.wrap ((s.size : Int) - 1) = ((s.size - 1 : Nat) : Int) := by rw [wi (by omega) (by omega)]; omega
    have e0 : (decide ((0 : Int) ≤ ((s.size - 1 : Nat) : Int))) = true := by simp <;> omega
    have e2 : (decide (((s.size - 1 : Nat) : Int) < (s.size : Int))) = true := by simp <;> omega
    obtain ⟨b0, b1⟩ := bytes_get s (s.size - 1)
    simp only [e1, cond_false, k2, cond_true, w, e0, e2, Bool.and_self, bt_get, shr4' b0 b1]
    have c1 : (decide ((((List.range s.size).map (lowh s)).length + [(bytesOf s).getD (s.size - 1) 0 / 16].length) * 1 ≤ 140737488355328) && decide (((List.range s.size).map (lowh s)).length + [(bytesOf s).getD (s.size - 1) 0 / 16].length ≤ 9223372036854775807)) = true := by simp; omega
    have c2 : (decide ((((List.range s.size).map atZ).length + [((s.size - 1 : Nat) : Int)].length) * 8 ≤ 140737488355328) && decide (((List.range s.size).map atZ).length + [((s.size - 1 : Nat) : Int)].length ≤ 9223372036854775807)) = true := by simp; omega
    rw [c1, c2]
    rfl
end Go.Proofs.YtioagofpofamiaaDoor
/-! Plain laws: decimal numbers read. -/
set_option linter.unusedVariables false
set_option linter.unusedSimpArgs false
namespace Go.Proofs.YtioagofpofamiaaDoor
open Go.Ab

def sgn (m h : Int) : Int := if h = 11 ∨ h = 13 then -m else m
/-- What digits with a sign behind them are read as. -/
def decR (bad : Nat → Bool) (h : Nat → Int) (a : Nat → Int) (N : Nat) : Int × Int × Int :=
  match scanB bad h N 0 0 with
  | .inl j => (0, a j, 21)
  | .inr m => if h N < 10 then (0, a N, 21) else (sgn m (h N), 0, 0)
def badN (h : Nat → Int) (N : Nat) (ln : Int) (i : Nat) : Bool := decide (h i > 9) || (decide (h i > 0) && decide ((i : Int) < (N : Int) - ln))

theorem sign_eq (d m x : Int) : (bif decide (d < 10) then some ((0 : Int), x, (21 : Int)) else bif d == 11 then some (0 - m, 0, 0) else bif d == 13 then some (0 - m, 0, 0) else some (m, 0, 0)) = some (if d < 10 then (0, x, 21) else (if d = 11 ∨ d = 13 then -m else m, 0, 0)) := by
  by_cases x1 : d < 10
  · simp [x1]
  · by_cases x2 : d = 11
    · subst x2; simp
    · by_cases x3 : d = 13
      · subst x3; simp
      · have y2 : (d == 11) = false := by simpa using x2
        have y3 : (d == 13) = false := by simpa using x3
        simp [x1, x2, x3, y2, y3]

theorem f46q {kd ln sc : Int} {s : ByteArray} {h a : List Int} {N : Nat} (hf : f80F 1000 ((kd, ln, sc), s) = some (h, a)) (hl : h.length = N + 1) (al : a.length = N + 1) (hN : N ≤ 16) (l0 : 0 ≤ ln) (l1 : ln ≤ 256) (hb : ∀ i, 0 ≤ h.getD i 0 ∧ h.getD i 0 ≤ 15) :
    f46F 1000 ((kd, ln, sc), s) = some (decR (badN (fun i => h.getD i 0) N ln) (fun i => h.getD i 0) (fun i => a.getD i 0) N) := by
  unfold f46F
  have w : IntKind.i64.wrap ((h.length : Int) - 1) = (N : Int) := by rw [wi (by omega) (by omega)]; omega
  have c1 : sliceBds 0 (N : Int) (h.length : Int) = true := by unfold sliceBds; simp; omega
  simp only [hf, bind_some', w, c1, cond_true, Int.toNat_natCast, List.drop_zero]
  have tl : (h.take N).length = N := by simp; omega
  have tg : ∀ i, i < N → (h.take N).getD i 0 = h.getD i 0 := fun i hi => by simp [List.getD_eq_getElem?_getD, List.getElem?_take, hi]
  rw [tl]
  unfold f46l1
  have key := iter_scan (R := Int × Int × Int) (Step := fun rec v => f46l1s 1000 rec (fun w6 => some (w6.1, w6.2.1, w6.2.2.1)) (fun w7 => f46p2 1000 (fun w8 => some (w8.1, w8.2.1, w8.2.2.1)) (fun w9 => some (w9.2.1, (0 : Int), (0 : Int))) (w7.1, w7.2.1, w7.2.2.1, w7.2.2.2.1, ())) v)
    (fun i m => ((N : Int), m, h.take N, (N : Int), (i : Int), kd, ln, sc, h, a, ())) (bad := badN (fun i => h.getD i 0) N ln) (val := fun i => h.getD i 0) (N := N) (exit := fun j => some (0, a.getD j 0, 21))
    (fun i hi hbad => by
      simp only [badN, Bool.or_eq_false_iff, decide_eq_false_iff_not] at hbad
      exact ⟨(hb i).1, by omega⟩)
    (fun rec i m hi m0 m1 => by
      have p := pow_le16 (i := i) (by omega)
      obtain ⟨b0, b1⟩ := hb i
      unfold f46l1s f46p0
      have e1 : (decide ((i : Int) < (N : Int))) = true := by simp; omega
      have e0 : (decide ((0 : Int) ≤ (i : Int))) = true := by simp
      have e2 : (decide ((i : Int) < ((h.take N).length : Int))) = true := by rw [tl]; exact e1
      have e3 : (decide ((i : Int) < (a.length : Int))) = true := by simp; omega
      simp only [e1, e0, e2, e3, Bool.and_self, cond_true, Int.toNat_natCast, tg i hi]
      rw [wi (x := (N : Int) - ln) (by omega) (by omega), wi (x := h.getD i 0) (by omega) (by omega), wi (x := m * 10) (by omega) (by omega), wi (x := m * 10 + h.getD i 0) (by omega) (by omega), wi (x := (i : Int) + 1) (by omega) (by omega)]
      unfold badN
      cases decide (h.getD i 0 > 9) <;> cases decide (h.getD i 0 > 0) <;> cases decide ((i : Int) < (N : Int) - ln) <;> rfl)
    (r := N) (i := 0) (k := 1000) (m := 0) (by omega) (by omega) (by omega) (by simp)
  refine Eq.trans key ?_
  unfold decR
  cases hsc : scanB (badN (fun i => h.getD i 0) N ln) (fun i => h.getD i 0) N 0 0 with
  | inl j => rfl
  | inr m =>
    simp only
    obtain ⟨k, hk⟩ : ∃ k, 1000 - N = k + 1 := ⟨1000 - N - 1, by omega⟩
    rw [hk, iterS]
    have mb := scanB_bound (N := N) (fun i hi hbad => by
      simp only [badN, Bool.or_eq_false_iff, decide_eq_false_iff_not] at hbad
      exact ⟨(hb i).1, by omega⟩) (by omega) (by omega) (by simp) hsc
    have p := pow_le16 (i := 0 + N) (by omega)
    unfold f46l1s f46p2
    have e1 : (decide ((N : Int) < (N : Int))) = false := by simp
    have e0 : (decide ((0 : Int) ≤ (N : Int))) = true := by simp
    have e2 : (decide ((N : Int) < (h.length : Int))) = true := by simp; omega
    have e3 : (decide ((N : Int) < (a.length : Int))) = true := by simp; omega
    simp only [e1, e0, e2, e3, Bool.and_self, cond_true, cond_false, Int.toNat_natCast]
    rw [wi (x := 0 - m) (by omega) (by omega)]
    unfold sgn
    exact sign_eq _ _ _

theorem scan_last {bad : Nat → Bool} {val : Nat → Int} {L : Nat} {c : Bool} : ∀ {r i : Nat} {n : Int}, i + (r + 1) = L → scanB (fun i => bad i || (decide (i = L - 1) && c)) val (r + 1) i n = (match scanB bad val (r + 1) i n with
    | .inl j => .inl j
    | .inr m => bif c then .inl (L - 1) else .inr m)
  | 0, i, n, h => by
    have : i = L - 1 := by omega
    simp only [scanB, this, decide_true, Bool.true_and]
    cases bad (L - 1) <;> cases c <;> rfl
  | r + 1, i, n, h => by
    have hne : ¬ i = L - 1 := by omega
    rw [scanB]
    conv => rhs; rw [scanB]
    simp only [hne, decide_false, Bool.false_and, Bool.or_false]
    cases bad i with
    | true => rfl
    | false =>
      simp only [cond_false]
      exact scan_last (by omega)

end Go.Proofs.YtioagofpofamiaaDoor
/-! Plain laws: packed and binary numbers read. -/
set_option linter.unusedVariables false
set_option linter.unusedSimpArgs false
namespace Go.Proofs.YtioagofpofamiaaDoor
open Go.Ab

def badP (s : ByteArray) (ln : Int) (i : Nat) : Bool := decide (half s i > 9) || (decide (i = 0) && (decide (ln % 2 = 0) && decide (half s i ≠ 0)))
abbrev R51 := (Int × ByteArray) × Int × Int

end Go.Proofs.YtioagofpofamiaaDoor
/-! Plain law: the value with bytes is as specified. -/
set_option linter.unusedVariables false
set_option linter.unusedSimpArgs false
namespace Go.Proofs.YtioagofpofamiaaDoor
open Go.Ab

theorem or256 {n c : Int} (n0 : -1099511627776 ≤ n) (n1 : n ≤ 1099511627776) (c0 : 0 ≤ c) (c1 : c ≤ 255) : bits .or .i64 (shlI .i64 n 8) c = n * 256 + c := by
  have hs : shlI .i64 n 8 = n * 256 := by
    unfold shlI
    rw [show min (8 : Int).toNat IntKind.i64.bits = 8 from rfl, show (2 : Int) ^ 8 = 256 from rfl, wi (by omega) (by omega)]
  rw [hs]
  unfold bits
  simp only
  have key : (BitVec.ofInt IntKind.i64.bits (n * 256) ||| BitVec.ofInt IntKind.i64.bits c).toNat = (((n * 256 + c) % 18446744073709551616)).toNat := by
    rw [BitVec.toNat_or]
    have e1 : (BitVec.ofInt IntKind.i64.bits (n * 256)).toNat = ((n % 72057594037927936).toNat) <<< 8 := by
      rw [BitVec.toNat_ofInt, Nat.shiftLeft_eq]
      show ((n * 256) % ((2 ^ 64 : Nat) : Int)).toNat = _
      have : ((2 ^ 64 : Nat) : Int) = 18446744073709551616 := rfl
      rw [this]
      omega
    have e2 : (BitVec.ofInt IntKind.i64.bits c).toNat = c.toNat := by
      rw [BitVec.toNat_ofInt]
      show (c % ((2 ^ 64 : Nat) : Int)).toNat = _
      have : ((2 ^ 64 : Nat) : Int) = 18446744073709551616 := rfl
      rw [this]
      omega
    rw [e1, e2, ← Nat.shiftLeft_add_eq_or_of_lt (by omega), Nat.shiftLeft_eq]
    omega
  rw [key, IntKind.wrap_i64]
  omega

theorem i8w : ∀ b : Fin 256, IntKind.i8.wrap (b.val : Int) = if (b.val : Int) ≥ 128 then (b.val : Int) - 256 else b.val := by decide +kernel
theorem i8w' {b : Int} (h0 : 0 ≤ b) (h1 : b ≤ 255) : IntKind.i8.wrap b = if b ≥ 128 then b - 256 else b := by
  have := i8w ⟨b.toNat, by omega⟩
  simp only at this
  rwa [show ((b.toNat : Nat) : Int) = b by omega] at this

/-- Bytes put together, the highest one first. -/
def fold (e : List Int) (n0 : Int) : Nat → Int
  | 0 => n0
  | i + 1 => fold e n0 i * 256 + e.getD i 0
theorem fold_bound {e : List Int} {n0 : Int} (h0 : -128 ≤ n0) (h1 : n0 ≤ 255) (he : ∀ i, 0 ≤ e.getD i 0 ∧ e.getD i 0 ≤ 255) : ∀ i, -(128 * 256 ^ i) ≤ fold e n0 i ∧ fold e n0 i ≤ 256 * 256 ^ i - 1
  | 0 => by simp [fold]; omega
  | i + 1 => by
    have := fold_bound h0 h1 he i
    have := he i
    simp only [fold, Int.pow_succ]
    omega
theorem p256 {i : Nat} (h : i ≤ 4) : (256 : Int) ^ i ≤ 4294967296 := by
  have : i = 0 ∨ i = 1 ∨ i = 2 ∨ i = 3 ∨ i = 4 := by omega
  rcases this with rfl | rfl | rfl | rfl | rfl <;> decide
theorem p256pos (i : Nat) : (0 : Int) < 256 ^ i := Int.pow_pos (by decide)

theorem bytes_tail (s : ByteArray) : bytesOf (s.extract 1 s.size) = (bytesOf s).drop 1 := by
  unfold bytesOf
  rw [← List.map_drop]
  congr 1
  rw [ByteArray.data_extract, Array.toList_extract, List.extract_eq_take_drop]
  exact List.take_of_length_le (by rw [List.length_drop]; exact Nat.le_refl _)

theorem f45q {s : ByteArray} (h0 : 1 ≤ s.size) (h1 : s.size ≤ 4) : f45F 1000 s = some (fold ((bytesOf s).drop 1) (if (bytesOf s).getD 0 0 ≥ 128 then (bytesOf s).getD 0 0 - 256 else (bytesOf s).getD 0 0) (s.size - 1)) := by
  obtain ⟨b0, b1⟩ := bytes_get s 0
  unfold f45F
  have c1 : (decide ((0 : Int) < (s.size : Int))) = true := by simp; omega
  have c2 : sliceBds 1 (s.size : Int) (s.size : Int) = true := by unfold sliceBds; simp; omega
  have hz : ((bytesOf s).drop 1).length = s.size - 1 := by rw [List.length_drop, bytes_len]
  have c3 : (decide ((s.extract 1 s.size).size ≤ 9223372036854775807)) = true := by
    have : (s.extract 1 s.size).size = s.size - 1 := by rw [← bytes_len, bytes_tail, hz]
    simp [this]; omega
  have hb0 : bt s 0 = (bytesOf s).getD 0 0 := bt_get s 0
  simp only [c1, c2, Int.toNat_natCast, c3, cond_true, bytes_tail, hz, hb0, i8w' b0 b1]
  have he : ∀ i, 0 ≤ ((bytesOf s).drop 1).getD i 0 ∧ ((bytesOf s).drop 1).getD i 0 ≤ 255 := fun i => by
    have := bytes_get s (1 + i)
    rw [List.getD_eq_getElem?_getD, List.getElem?_drop]
    rwa [List.getD_eq_getElem?_getD] at this
  have n0 : -128 ≤ (if (bytesOf s).getD 0 0 ≥ 128 then (bytesOf s).getD 0 0 - 256 else (bytesOf s).getD 0 0) ∧ (if (bytesOf s).getD 0 0 ≥ 128 then (bytesOf s).getD 0 0 - 256 else (bytesOf s).getD 0 0) ≤ 255 := by split <;> omega
  rw [wi (by omega) (by omega)]
  unfold f45l0
  have key := iter_for (R := Int) (Step := fun rec v => f45l0s 1000 rec (fun w2 => some w2.1) v) (fun i => (fold ((bytesOf s).drop 1) (if (bytesOf s).getD 0 0 ≥ 128 then (bytesOf s).getD 0 0 - 256 else (bytesOf s).getD 0 0) i, ((s.size - 1 : Nat) : Int), (i : Int), (bytesOf s).drop 1, ())) (s.size - 1)
    (fin := some (fold ((bytesOf s).drop 1) (if (bytesOf s).getD 0 0 ≥ 128 then (bytesOf s).getD 0 0 - 256 else (bytesOf s).getD 0 0) (s.size - 1))) ?_ ?_ (k := 1000) (by omega)
  · exact key
  · intro rec i hi
    have fb := fold_bound n0.1 n0.2 he i
    have p := p256 (i := i) (by omega)
    obtain ⟨c0, c1⟩ := he i
    unfold f45l0s
    have e1 : (decide ((i : Int) < ((s.size - 1 : Nat) : Int))) = true := by simp; omega
    have e0 : (decide ((0 : Int) ≤ (i : Int))) = true := by simp
    have e2 : (decide ((i : Int) < (((bytesOf s).drop 1).length : Int))) = true := by rw [hz]; exact e1
    simp only [e1, e0, e2, Bool.and_self, cond_true, Int.toNat_natCast]
    rw [wi (x := ((bytesOf s).drop 1).getD i 0) (by omega) (by omega), or256 (by omega) (by omega) c0 c1, wi (x := (i : Int) + 1) (by omega) (by omega)]
    rfl
  · intro rec
    unfold f45l0s
    have e1 : (decide (((s.size - 1 : Nat) : Int) < ((s.size - 1 : Nat) : Int))) = false := by simp
    simp only [e1, cond_false]

/-- How many bytes values of a type have. -/
def szOf (kd ln : Int) : Int := if kd = 1 then ln / 2 + 1 else if kd = 3 then (if ln = 9 then 4 else 2) else ln
theorem bin_eq {s : ByteArray} {z : Nat} (hz : s.size = z) (h : z = 2 ∨ z = 4) : fold ((bytesOf s).drop 1) (if (bytesOf s).getD 0 0 ≥ 128 then (bytesOf s).getD 0 0 - 256 else (bytesOf s).getD 0 0) (z - 1) = (if (bytesOf s).getD 0 0 ≥ 128 then fold (bytesOf s) 0 z - 2 ^ (8 * z) else fold (bytesOf s) 0 z) := by
  have hd : ∀ i, ((bytesOf s).drop 1).getD i 0 = (bytesOf s).getD (i + 1) 0 := fun i => by
    rw [List.getD_eq_getElem?_getD, List.getElem?_drop, List.getD_eq_getElem?_getD, Nat.add_comm]
  rcases h with rfl | rfl
  · simp only [fold, hd, Nat.reduceSub, Nat.reduceAdd]
    split <;> omega
  · simp only [fold, hd, Nat.reduceSub, Nat.reduceAdd]
    split <;> omega

end Go.Proofs.YtioagofpofamiaaDoor
/-! Plain laws: words of 64 bits, and amounts of four of them. -/
set_option linter.unusedVariables false
set_option linter.unusedSimpArgs false
namespace Go.Proofs.YtioagofpofamiaaDoor
open Go.Ab

theorem wu64 (x : Int) : IntKind.u64.wrap x = x % 18446744073709551616 := by
  simp [IntKind.wrap, IntKind.signed, IntKind.bits]
theorem shr64 {x : Int} {n : Nat} (hn : n ≤ 64) : shrI .u64 x (n : Int) = x / 2 ^ n := by
  unfold shrI
  rw [show IntKind.u64.bits = 64 from rfl, Int.toNat_natCast, Nat.min_eq_left hn, Int.fdiv_eq_ediv_of_nonneg _ (Int.le_of_lt (Int.pow_pos (by decide)))]
theorem and_mask {x : Int} (h0 : 0 ≤ x) (h1 : x < 18446744073709551616) {n : Nat} (hn : n ≤ 64) : bits .and .u64 x (2 ^ n - 1) = x % 2 ^ n := by
  unfold bits
  simp only
  have e : (BitVec.ofInt IntKind.u64.bits x &&& BitVec.ofInt IntKind.u64.bits (2 ^ n - 1)).toNat = x.toNat % 2 ^ n := by
    rw [BitVec.toNat_and]
    have e1 : (BitVec.ofInt IntKind.u64.bits x).toNat = x.toNat := by
      rw [BitVec.toNat_ofInt]
      show (x % ((2 ^ 64 : Nat) : Int)).toNat = _
      rw [show ((2 ^ 64 : Nat) : Int) = 18446744073709551616 from rfl]
      omega
    have hp : (2 : Nat) ^ n ≤ 2 ^ 64 := Nat.pow_le_pow_right (by decide) hn
    have hp0 : 0 < (2 : Nat) ^ n := Nat.pow_pos (by decide)
    have ep : ((2 ^ n : Nat) : Int) = (2 : Int) ^ n := by simp
    have e2 : (BitVec.ofInt IntKind.u64.bits (2 ^ n - 1)).toNat = 2 ^ n - 1 := by
      rw [BitVec.toNat_ofInt]
      show (((2 : Int) ^ n - 1) % ((2 ^ 64 : Nat) : Int)).toNat = _
      rw [← ep, show ((2 ^ 64 : Nat) : Int) = 18446744073709551616 from rfl]
      have hp' : (2 : Nat) ^ n ≤ 18446744073709551616 := hp
      omega
    rw [e1, e2, Nat.and_two_pow_sub_one_eq_mod]
  rw [e, wu64]
  have hp0 : 0 < (2 : Nat) ^ n := Nat.pow_pos (by decide)
  have ep : ((2 ^ n : Nat) : Int) = (2 : Int) ^ n := by simp
  have : ((x.toNat % 2 ^ n : Nat) : Int) = x % 2 ^ n := by rw [Int.natCast_emod, ep, Int.toNat_of_nonneg h0]
  rw [this]
  have l0 := Int.emod_nonneg x (b := 2 ^ n) (by rw [← ep]; omega)
  have l1 : x % 2 ^ n ≤ x := by
    have a := Int.emod_add_mul_ediv x (2 ^ n)
    have b : 0 ≤ (2 : Int) ^ n * (x / 2 ^ n) := Int.mul_nonneg (by rw [← ep]; omega) (Int.ediv_nonneg h0 (by rw [← ep]; omega))
    omega
  omega
end Go.Proofs.YtioagofpofamiaaDoor
/-! Plain laws: products of words; amounts of four words. -/
set_option linter.unusedVariables false
set_option linter.unusedSimpArgs false
namespace Go.Proofs.YtioagofpofamiaaDoor
open Go.Ab

theorem mul_split (a b c d : Int) : (a * 4294967296 + b) * (c * 4294967296 + d) = a * c * 18446744073709551616 + (a * d + b * c) * 4294967296 + b * d := by
  rw [Int.add_mul, Int.mul_add, Int.mul_add]
  have e1 : a * 4294967296 * (c * 4294967296) = a * c * 18446744073709551616 := by
    rw [Int.mul_assoc a, Int.mul_left_comm 4294967296 c, ← Int.mul_assoc a c]
    rfl
  have e2 : a * 4294967296 * d = a * d * 4294967296 := Int.mul_right_comm a 4294967296 d
  have e3 : b * (c * 4294967296) = b * c * 4294967296 := (Int.mul_assoc b c _).symm
  rw [e1, e2, e3, Int.add_mul]
  omega
theorem mul_bound {a b : Int} (a0 : 0 ≤ a) (a1 : a ≤ 4294967295) (b0 : 0 ≤ b) (b1 : b ≤ 4294967295) : 0 ≤ a * b ∧ a * b ≤ 18446744065119617025 :=
  ⟨Int.mul_nonneg a0 b0, by
    have h1 : a * b ≤ 4294967295 * b := Int.mul_le_mul_of_nonneg_right a1 b0
    omega⟩

theorem f111q (k : Nat) {x y : Int} (x0 : 0 ≤ x) (x1 : x < 18446744073709551616) (y0 : 0 ≤ y) (y1 : y < 18446744073709551616) : f111F k (x, y) = some (x * y / 18446744073709551616, x * y % 18446744073709551616) := by
  unfold f111F
  have m32 : ∀ {z : Int}, 0 ≤ z → z < 18446744073709551616 → bits .and .u64 z 4294967295 = z % 4294967296 := fun a b => and_mask a b (n := 32) (by decide)
  have s32 : ∀ z : Int, shrI .u64 z 32 = z / 4294967296 := fun z => shr64 (n := 32) (by decide)
  simp only [s32, m32 x0 x1, m32 y0 y1, wu64]
  have ex : x = x / 4294967296 * 4294967296 + x % 4294967296 := by omega
  have ey : y = y / 4294967296 * 4294967296 + y % 4294967296 := by omega
  have exy : x * y = (x / 4294967296) * (y / 4294967296) * 18446744073709551616 + ((x / 4294967296) * (y % 4294967296) + (x % 4294967296) * (y / 4294967296)) * 4294967296 + (x % 4294967296) * (y % 4294967296) := by
    rw [← mul_split, ← ex, ← ey]
  obtain ⟨a0, a1⟩ := mul_bound (a := x % 4294967296) (b := y % 4294967296) (by omega) (by omega) (by omega) (by omega)
  obtain ⟨b0, b1⟩ := mul_bound (a := x / 4294967296) (b := y % 4294967296) (by omega) (by omega) (by omega) (by omega)
  obtain ⟨c0, c1⟩ := mul_bound (a := x % 4294967296) (b := y / 4294967296) (by omega) (by omega) (by omega) (by omega)
  obtain ⟨d0, d1⟩ := mul_bound (a := x / 4294967296) (b := y / 4294967296) (by omega) (by omega) (by omega) (by omega)
  generalize (x % 4294967296) * (y % 4294967296) = p00 at *
  generalize (x / 4294967296) * (y % 4294967296) = p10 at *
  generalize (x % 4294967296) * (y / 4294967296) = p01 at *
  generalize (x / 4294967296) * (y / 4294967296) = p11 at *
  generalize x * y = q at *
  rw [m32 (by omega) (by omega)]
  congr 2
  omega
end Go.Proofs.YtioagofpofamiaaDoor
/-! Plain laws: amounts of four words as numbers. -/
set_option linter.unusedVariables false
set_option linter.unusedSimpArgs false
namespace Go.Proofs.YtioagofpofamiaaDoor
open Go.Ab

abbrev Wd := Int × Int × Int × Int
def W (a : Wd) : Int := a.1 + a.2.1 * 18446744073709551616 + a.2.2.1 * 340282366920938463463374607431768211456 + a.2.2.2 * 6277101735386680763835789423207666416102355444464034512896
structure OkW (a : Wd) : Prop where
  a0 : 0 ≤ a.1
  b0 : a.1 < 18446744073709551616
  a1 : 0 ≤ a.2.1
  b1 : a.2.1 < 18446744073709551616
  a2 : 0 ≤ a.2.2.1
  b2 : a.2.2.1 < 18446744073709551616
  a3 : 0 ≤ a.2.2.2
  b3 : a.2.2.2 < 18446744073709551616
def big : Int := 115792089237316195423570985008687907853269984665640564039457584007913129639936
theorem W_bound {a : Wd} (h : OkW a) : 0 ≤ W a ∧ W a < big := by
  obtain ⟨h1, h2, h3, h4, h5, h6, h7, h8⟩ := h
  unfold W big
  omega

theorem prod_bound {a n : Int} (a0 : 0 ≤ a) (a1 : a < 18446744073709551616) (n0 : 0 ≤ n) (n1 : n < 18446744073709551616) : 0 ≤ a * n ∧ a * n ≤ 340282366920938463426481119284349108225 :=
  ⟨Int.mul_nonneg a0 n0, by
    have h1 : a * n ≤ 18446744073709551615 * n := Int.mul_le_mul_of_nonneg_right (by omega) n0
    omega⟩

theorem f106q (k : Nat) {a : Wd} {n : Int} (h : OkW a) (n0 : 0 ≤ n) (n1 : n < 18446744073709551616) (hb : W a * n < big) : ∃ b, f106F k (a, n) = some b ∧ OkW b ∧ W b = W a * n := by
  obtain ⟨a0, a1, a2, a3⟩ := a
  obtain ⟨h1, h2, h3, h4, h5, h6, h7, h8⟩ := h
  simp only at h1 h2 h3 h4 h5 h6 h7 h8
  obtain ⟨p0, q0⟩ := prod_bound h1 h2 n0 n1
  obtain ⟨p1, q1⟩ := prod_bound h3 h4 n0 n1
  obtain ⟨p2, q2⟩ := prod_bound h5 h6 n0 n1
  obtain ⟨p3, q3⟩ := prod_bound h7 h8 n0 n1
  have hW : W (a0, a1, a2, a3) * n = a0 * n + a1 * n * 18446744073709551616 + a2 * n * 340282366920938463463374607431768211456 + a3 * n * 6277101735386680763835789423207666416102355444464034512896 := by
    unfold W
    simp only [Int.add_mul]
    rw [Int.mul_right_comm a1, Int.mul_right_comm a2, Int.mul_right_comm a3]
  rw [hW] at hb ⊢
  unfold f106F
  simp only [f111q k h1 h2 n0 n1, f111q k h3 h4 n0 n1, f111q k h5 h6 n0 n1, f111q k h7 h8 n0 n1, bind_some', wu64]
  generalize a0 * n = r0 at *
  generalize a1 * n = r1 at *
  generalize a2 * n = r2 at *
  generalize a3 * n = r3 at *
  unfold big at hb
  have t2 : (r0 / 18446744073709551616 + (r0 % 18446744073709551616 + 0 + 0) / 18446744073709551616) % 18446744073709551616 = r0 / 18446744073709551616 := by omega
  rw [t2]
  have c0 : (decide ((0 : Int) ≤ r0 % 18446744073709551616) && (decide ((0 : Int) ≤ (0 : Int)) && (decide ((0 : Int) ≤ (0 : Int)) && decide ((0 : Int) ≤ 1)))) = true := by simp; omega
  have c1 : (decide ((0 : Int) ≤ r1 % 18446744073709551616) && (decide ((0 : Int) ≤ r0 / 18446744073709551616) && (decide ((0 : Int) ≤ (0 : Int)) && decide ((0 : Int) ≤ 1)))) = true := by simp; omega
  rw [c0, c1]
  simp only [cond_true]
  generalize e1 : (r1 / 18446744073709551616 + (r1 % 18446744073709551616 + r0 / 18446744073709551616 + 0) / 18446744073709551616) % 18446744073709551616 = u1
  have v1 : u1 = (r1 + r0 / 18446744073709551616) / 18446744073709551616 := by omega
  have c2 : (decide ((0 : Int) ≤ r2 % 18446744073709551616) && (decide ((0 : Int) ≤ u1) && (decide ((0 : Int) ≤ (0 : Int)) && decide ((0 : Int) ≤ 1)))) = true := by simp; omega
  rw [c2]
  simp only [cond_true]
  generalize e2 : (r2 / 18446744073709551616 + (r2 % 18446744073709551616 + u1 + 0) / 18446744073709551616) % 18446744073709551616 = u2
  have v2 : u2 = (r2 + u1) / 18446744073709551616 := by omega
  have c3 : (decide ((0 : Int) ≤ r3 % 18446744073709551616) && (decide ((0 : Int) ≤ u2) && (decide ((0 : Int) ≤ (0 : Int)) && decide ((0 : Int) ≤ 1)))) = true := by simp; omega
  rw [c3]
  simp only [cond_true]
  refine ⟨_, rfl, ⟨by simp only; omega, by simp only; omega, by simp only; omega, by simp only; omega, by simp only; omega, by simp only; omega, by simp only; omega, by simp only; omega⟩, ?_⟩
  unfold W
  simp only
  omega
end Go.Proofs.YtioagofpofamiaaDoor
/-! Plain laws: sums, differences, the order of amounts. -/
set_option linter.unusedVariables false
set_option linter.unusedSimpArgs false
namespace Go.Proofs.YtioagofpofamiaaDoor
open Go.Ab

theorem f63q (k : Nat) {a b : Wd} (h : OkW a) (g : OkW b) : f63F k (a, b) = some (if W a < W b then -1 else if W b < W a then 1 else 0) := by
  obtain ⟨a0, a1, a2, a3⟩ := a
  obtain ⟨b0, b1, b2, b3⟩ := b
  obtain ⟨h1, h2, h3, h4, h5, h6, h7, h8⟩ := h
  obtain ⟨g1, g2, g3, g4, g5, g6, g7, g8⟩ := g
  simp only at h1 h2 h3 h4 h5 h6 h7 h8 g1 g2 g3 g4 g5 g6 g7 g8
  unfold f63F W
  simp only [cond_eq_ite, decide_eq_true_eq]
  repeat' split
  all_goals first | rfl | omega
end Go.Proofs.YtioagofpofamiaaDoor
/-! Plain laws: amounts times a power of ten. -/
set_option linter.unusedVariables false
set_option linter.unusedSimpArgs false
namespace Go.Proofs.YtioagofpofamiaaDoor
open Go.Ab

theorem f85go (n : Nat) (hn : n ≤ 900) : ∀ (d i k : Nat) (a : Wd), i + d = n → d < k → OkW a → W a * 10 ^ d < big →
    ∃ b, iterS (fun rec v => f85l0s 1000 rec (fun (w2 : Int × Int × Int × Int × Int × Int × Int × Int × Unit) => some (w2.1, (w2.2.1, (w2.2.2.1, w2.2.2.2.1)))) v) k ((n : Int), (i : Int), a.1, a.2.1, a.2.2.1, a.2.2.2, 0, 0, 0, 0, ()) = some b ∧ OkW b ∧ W b = W a * 10 ^ d := by
  intro d
  induction d with
  | zero =>
    intro i k a hi hk ha hb
    obtain ⟨k, rfl⟩ : ∃ k', k = k' + 1 := ⟨k - 1, by omega⟩
    refine ⟨a, ?_, ha, by simp⟩
    rw [iterS]
    unfold f85l0s
    have e1 : (decide ((i : Int) < (n : Int))) = false := by simp; omega
    simp only [e1, cond_false]
  | succ d ih =>
    intro i k a hi hk ha hb
    obtain ⟨k, rfl⟩ : ∃ k', k = k' + 1 := ⟨k - 1, by omega⟩
    have hw := W_bound ha
    have hp : (1 : Int) ≤ 10 ^ d := Int.pow_pos (by decide)
    have hs : W a * 10 ^ (d + 1) = W a * 10 * 10 ^ d := by rw [Int.pow_succ, Int.mul_comm (10 ^ d) 10, Int.mul_assoc]
    rw [hs] at hb ⊢
    have hle : W a * 10 ≤ W a * 10 * 10 ^ d := by
      have := Int.mul_le_mul_of_nonneg_left hp (show 0 ≤ W a * 10 by omega)
      omega
    obtain ⟨c, hc, hok, hW⟩ := f106q 1000 (a := a) (n := 10) ha (by decide) (by decide) (by omega)
    rw [← hW] at hb ⊢
    obtain ⟨b, h1, h2, h3⟩ := ih (i + 1) k c (by omega) (by omega) hok hb
    refine ⟨b, ?_, h2, h3⟩
    rw [iterS]
    show f85l0s 1000 _ _ _ = _
    unfold f85l0s
    have e1 : (decide ((i : Int) < (n : Int))) = true := by simp; omega
    simp only [e1, cond_true]
    have hc' : f106F 1000 ((a.1, (a.2.1, (a.2.2.1, a.2.2.2))), 10) = some c := hc
    rw [hc', bind_some', wi (x := (i : Int) + 1) (by omega) (by omega)]
    exact h1

theorem f85q {a : Wd} {n : Nat} (h : OkW a) (hn : n ≤ 900) (hb : W a * 10 ^ n < big) : ∃ b, f85F 1000 (a, (n : Int)) = some b ∧ OkW b ∧ W b = W a * 10 ^ n := by
  unfold f85F f85l0
  exact f85go n hn n 0 1000 a (by omega) (by omega) h hb
end Go.Proofs.YtioagofpofamiaaDoor
/-! Plain laws: bits of words put together. -/
set_option linter.unusedVariables false
set_option linter.unusedSimpArgs false
namespace Go.Proofs.YtioagofpofamiaaDoor
open Go.Ab

theorem or_low {x b : Int} {t : Nat} (ht : t ≤ 64) (x0 : 0 ≤ x) (x1 : x < 18446744073709551616) (hx : x % 2 ^ t = 0) (b0 : 0 ≤ b) (b1 : b < 2 ^ t) : bits .or .u64 x b = x + b := by
  have ep : ((2 ^ t : Nat) : Int) = (2 : Int) ^ t := by simp
  have hp0 : 0 < (2 : Nat) ^ t := Nat.pow_pos (by decide)
  have hp : (2 : Nat) ^ t ≤ 2 ^ 64 := Nat.pow_le_pow_right (by decide) ht
  have hp' : (2 : Nat) ^ t ≤ 18446744073709551616 := hp
  obtain ⟨q, hq⟩ : ∃ q, x = (2 : Int) ^ t * q := ⟨x / 2 ^ t, by have := Int.emod_add_mul_ediv x (2 ^ t); omega⟩
  have hq0 : 0 ≤ q := by
    rcases Int.lt_or_le q 0 with h | h
    · have : (2 : Int) ^ t * q < 0 := Int.mul_neg_of_pos_of_neg (by rw [← ep]; omega) h
      omega
    · exact h
  unfold bits
  simp only
  have e : (BitVec.ofInt IntKind.u64.bits x ||| BitVec.ofInt IntKind.u64.bits b).toNat = x.toNat + b.toNat := by
    rw [BitVec.toNat_or]
    have e1 : ∀ z : Int, 0 ≤ z → z < 18446744073709551616 → (BitVec.ofInt IntKind.u64.bits z).toNat = z.toNat := by
      intro z z0 z1
      rw [BitVec.toNat_ofInt]
      show (z % ((2 ^ 64 : Nat) : Int)).toNat = _
      rw [show ((2 ^ 64 : Nat) : Int) = 18446744073709551616 from rfl]
      omega
    rw [e1 x x0 x1, e1 b b0 (by rw [← ep] at b1; omega)]
    have hxq : x.toNat = q.toNat <<< t := by
      rw [Nat.shiftLeft_eq]
      have : x = ((q.toNat * 2 ^ t : Nat) : Int) := by rw [hq, Int.natCast_mul, ep, Int.toNat_of_nonneg hq0, Int.mul_comm]
      rw [this, Int.toNat_natCast]
    rw [hxq, Nat.shiftLeft_add_eq_or_of_lt (by rw [← ep] at b1; omega)]
  rw [e, wu64]
  -- no carry
  have hlt : x + b < 18446744073709551616 := by
    obtain ⟨c, hc⟩ : ∃ c : Nat, 2 ^ t * c = 18446744073709551616 := ⟨2 ^ (64 - t), by rw [← Nat.pow_add, show t + (64 - t) = 64 by omega]⟩
    have hc' : (2 : Int) ^ t * (c : Int) = 18446744073709551616 := by rw [← ep, ← Int.natCast_mul, hc]; rfl
    have hqc : q < c := by
      rcases Int.lt_or_le q c with h | h
      · exact h
      · have := Int.mul_le_mul_of_nonneg_left h (show (0 : Int) ≤ 2 ^ t by rw [← ep]; omega)
        omega
    have h2 := Int.mul_le_mul_of_nonneg_left (show q + 1 ≤ (c : Int) by omega) (show (0 : Int) ≤ 2 ^ t by rw [← ep]; omega)
    rw [Int.mul_add] at h2
    omega
  omega
end Go.Proofs.YtioagofpofamiaaDoor
/-! Plain laws: the words of an amount, and their bits. -/
set_option linter.unusedVariables false
set_option linter.unusedSimpArgs false
namespace Go.Proofs.YtioagofpofamiaaDoor
open Go.Ab

def wordsL (a : Wd) : List Int := [a.1, a.2.1, a.2.2.1, a.2.2.2]
theorem word_get {a : Wd} (h : OkW a) {j : Nat} (hj : j < 4) : (wordsL a).getD j 0 = W a / 18446744073709551616 ^ j % 18446744073709551616 := by
  obtain ⟨h1, h2, h3, h4, h5, h6, h7, h8⟩ := h
  unfold W wordsL
  have : j = 0 ∨ j = 1 ∨ j = 2 ∨ j = 3 := by omega
  rcases this with rfl | rfl | rfl | rfl
  · show a.1 = _ / 1 % _
    omega
  · show a.2.1 = _ / 18446744073709551616 % _
    omega
  · show a.2.2.1 = _ / 340282366920938463463374607431768211456 % _
    omega
  · show a.2.2.2 = _ / 6277101735386680763835789423207666416102355444464034512896 % _
    omega

theorem mod_bit {X : Int} (h : 0 ≤ X) {s : Nat} (hs : s < 64) : X % 18446744073709551616 / 2 ^ s % 2 = X / 2 ^ s % 2 := by
  obtain ⟨x, rfl⟩ := Int.eq_ofNat_of_zero_le h
  have e1 : ((x : Int) % 18446744073709551616 / 2 ^ s % 2) = (((x % 2 ^ 64) / 2 ^ s % 2 : Nat) : Int) := by
    rw [Int.natCast_emod, Int.natCast_ediv, Int.natCast_emod, Int.natCast_pow]; rfl
  have e2 : ((x : Int) / 2 ^ s % 2) = ((x / 2 ^ s % 2 : Nat) : Int) := by
    rw [Int.natCast_emod, Int.natCast_ediv, Int.natCast_pow]; rfl
  rw [e1, e2]
  have t := Nat.testBit_mod_two_pow x 64 s
  rw [decide_eq_true hs, Bool.true_and, Nat.testBit_eq_decide_div_mod_eq, Nat.testBit_eq_decide_div_mod_eq, decide_eq_decide] at t
  have u1 : x % 2 ^ 64 / 2 ^ s % 2 < 2 := Nat.mod_lt _ (by decide)
  have u2 : x / 2 ^ s % 2 < 2 := Nat.mod_lt _ (by decide)
  have : x % 2 ^ 64 / 2 ^ s % 2 = x / 2 ^ s % 2 := by
    by_cases hh : x / 2 ^ s % 2 = 1
    · rw [hh]; exact t.2 hh
    · have : ¬ (x % 2 ^ 64 / 2 ^ s % 2 = 1) := fun h => hh (t.1 h)
      omega
  rw [this]

theorem mod_zero {X : Int} {s : Nat} (hs : s ≤ 64) (h : X % 2 ^ s = 0) : X % 18446744073709551616 % 2 ^ s = 0 := by
  have : (18446744073709551616 : Int) = 2 ^ s * 2 ^ (64 - s) := by
    rw [← Int.pow_add, show s + (64 - s) = 64 by omega]
    rfl
  rw [Int.emod_emod_of_dvd _ ⟨_, this⟩]
  exact h
end Go.Proofs.YtioagofpofamiaaDoor
/-! Plain laws: amounts divided, a bit at a time. -/
set_option linter.unusedVariables false
set_option linter.unusedSimpArgs false
namespace Go.Proofs.YtioagofpofamiaaDoor
open Go.Ab

theorem pow_word (j s : Nat) : (2 : Int) ^ (64 * j + s) = 18446744073709551616 ^ j * 2 ^ s := by
  rw [Int.pow_add, Int.pow_mul]
  rfl
theorem div_word (X : Int) (j s : Nat) : X / 2 ^ (64 * j + s) = X / 18446744073709551616 ^ j / 2 ^ s := by
  rw [pow_word, Int.ediv_ediv_of_nonneg (Int.le_of_lt (Int.pow_pos (by decide)))]
theorem shl1 {s : Nat} (hs : s < 64) : shlI .u64 1 (s : Int) = 2 ^ s := by
  unfold shlI
  rw [show IntKind.u64.bits = 64 from rfl, Int.toNat_natCast, Nat.min_eq_left (Nat.le_of_lt hs), wu64, Int.one_mul]
  have hp : (2 : Nat) ^ s < 2 ^ 64 := Nat.pow_lt_pow_right (by decide) hs
  have ep : ((2 ^ s : Nat) : Int) = (2 : Int) ^ s := by simp
  have hp' : (2 : Nat) ^ s < 18446744073709551616 := hp
  have hp2 : (2 : Int) ^ s < 18446744073709551616 := by rw [← ep]; exact Int.ofNat_lt.2 hp'
  exact Int.emod_eq_of_lt (Int.le_of_lt (Int.pow_pos (by decide))) hp2

/-- A word of an amount turned. -/
def setW (q : Wd) (j : Nat) (z : Int) : Wd := (bif Nat.beq j 0 then z else q.1, bif Nat.beq j 1 then z else q.2.1, bif Nat.beq j 2 then z else q.2.2.1, bif Nat.beq j 3 then z else q.2.2.2)
theorem setW_ok {q : Wd} (h : OkW q) {j : Nat} (hj : j < 4) {z : Int} (z0 : 0 ≤ z) (z1 : z < 18446744073709551616) : OkW (setW q j z) ∧ W (setW q j z) = W q + (z - (wordsL q).getD j 0) * 18446744073709551616 ^ j := by
  obtain ⟨h1, h2, h3, h4, h5, h6, h7, h8⟩ := h
  have : j = 0 ∨ j = 1 ∨ j = 2 ∨ j = 3 := by omega
  rcases this with rfl | rfl | rfl | rfl
  · refine ⟨⟨z0, z1, h3, h4, h5, h6, h7, h8⟩, ?_⟩
    show z + q.2.1 * _ + q.2.2.1 * _ + q.2.2.2 * _ = W q + (z - q.1) * 1
    unfold W; omega
  · refine ⟨⟨h1, h2, z0, z1, h5, h6, h7, h8⟩, ?_⟩
    show q.1 + z * _ + q.2.2.1 * _ + q.2.2.2 * _ = W q + (z - q.2.1) * 18446744073709551616
    unfold W; omega
  · refine ⟨⟨h1, h2, h3, h4, z0, z1, h7, h8⟩, ?_⟩
    show q.1 + q.2.1 * _ + z * _ + q.2.2.2 * _ = W q + (z - q.2.2.1) * 340282366920938463463374607431768211456
    unfold W; omega
  · refine ⟨⟨h1, h2, h3, h4, h5, h6, z0, z1⟩, ?_⟩
    show q.1 + q.2.1 * _ + q.2.2.1 * _ + z * _ = W q + (z - q.2.2.2) * 6277101735386680763835789423207666416102355444464034512896
    unfold W; omega

abbrev V17 := Int × Int × Int × Int × Int × Int × Int × Int × Int × Int × Int × Int × Int × Int × Int × Int × Int × Unit
def st17 (i : Int) (a b q r : Wd) : V17 := (i, a.1, a.2.1, a.2.2.1, a.2.2.2, b.1, b.2.1, b.2.2.1, b.2.2.2, q.1, q.2.1, q.2.2.1, q.2.2.2, r.1, r.2.1, r.2.2.1, r.2.2.2, ())

end Go.Proofs.YtioagofpofamiaaDoor
/-! Plain laws: amounts divided. -/
set_option linter.unusedVariables false
set_option linter.unusedSimpArgs false
namespace Go.Proofs.YtioagofpofamiaaDoor
open Go.Ab

theorem div_step {X Y B bit : Int} (hB : 0 < B) (hX : 0 ≤ X) (hY : Y = 2 * X + bit) (b0 : 0 ≤ bit) (b1 : bit < 2) :
    (2 * (X % B) + bit < B → Y % B = 2 * (X % B) + bit ∧ Y / B = 2 * (X / B)) ∧ (B ≤ 2 * (X % B) + bit → Y % B = 2 * (X % B) + bit - B ∧ Y / B = 2 * (X / B) + 1) := by
  have e := Int.emod_add_mul_ediv X B
  have m0 := Int.emod_nonneg X (Int.ne_of_gt hB)
  have m1 := Int.emod_lt_of_pos X hB
  constructor
  · intro h
    have hy : Y = (2 * (X % B) + bit) + B * (2 * (X / B)) := by rw [Int.mul_left_comm]; omega
    refine ⟨?_, ?_⟩
    · rw [hy, Int.add_mul_emod_self_left, Int.emod_eq_of_lt (by omega) h]
    · rw [hy, Int.add_mul_ediv_left _ _ (Int.ne_of_gt hB), Int.ediv_eq_zero_of_lt (by omega) h]; omega
  · intro h
    have hy : Y = (2 * (X % B) + bit - B) + B * (2 * (X / B) + 1) := by rw [Int.mul_add, Int.mul_left_comm, Int.mul_one]; omega
    refine ⟨?_, ?_⟩
    · rw [hy, Int.add_mul_emod_self_left, Int.emod_eq_of_lt (by omega) (by omega)]
    · rw [hy, Int.add_mul_ediv_left _ _ (Int.ne_of_gt hB), Int.ediv_eq_zero_of_lt (by omega) (by omega)]; omega

end Go.Proofs.YtioagofpofamiaaDoor
/-! Plain laws: a fraction put into a type. -/
set_option linter.unusedVariables false
set_option linter.unusedSimpArgs false
namespace Go.Proofs.YtioagofpofamiaaDoor
open Go.Ab

/-- A fraction put into a type: the value, and the error. -/
def putR (below : Bool) (A B : Int) (sc ln : Int) (half : Bool) : Int × Int :=
  let q0 := A * 10 ^ sc.toNat / B
  let r := A * 10 ^ sc.toNat % B
  let q := if half = true ∧ B ≤ 2 * r then q0 + 1 else q0
  if 10 ^ ln.toNat ≤ q then (0, 19) else (if below = true then -q else q, 0)

theorem one_ok : OkW (1, 0, 0, 0) ∧ W (1, 0, 0, 0) = 1 := ⟨⟨by decide, by decide, by decide, by decide, by decide, by decide, by decide, by decide⟩, by simp [W]⟩

end Go.Proofs.YtioagofpofamiaaDoor
/-! Plain laws: a number put into a type, by the code. -/
set_option linter.unusedVariables false
set_option linter.unusedSimpArgs false
namespace Go.Proofs.YtioagofpofamiaaDoor
open Go.Ab

theorem f42q3 (a b c : Int) : f42F 1000 [a, b, c] = some (if a = 0 then (if b = 0 then c else b) else a) := by
  have e0 : ∀ {R : Type} (Step : (List Int × Int × Int × Unit → Option R) → List Int × Int × Int × Unit → Option R) v, iterS Step 1000 v = Step (fun v => Step (fun v => Step (fun v => Step (iterS Step 996) v) v) v) v := fun _ _ => rfl
  unfold f42F f42l0
  rw [e0]
  have s0 := fun rec k0 k1 => f42l0_step (R := Int) 1000 rec k0 k1 [a, b, c] 0 (by simp) (by simp)
  have s1 := fun rec k0 k1 => f42l0_step (R := Int) 1000 rec k0 k1 [a, b, c] 1 (by simp) (by simp)
  have s2 := fun rec k0 k1 => f42l0_step (R := Int) 1000 rec k0 k1 [a, b, c] 2 (by simp) (by simp)
  have s3 : ∀ rec k0 k1, f42l0s (R := Int) 1000 rec k0 k1 ([a, b, c], (([a, b, c].length : Nat) : Int), ((3 : Nat) : Int), ()) = k1 () := fun _ _ _ => rfl
  have z0 : ((0 : Nat) : Int) = 0 := rfl
  rw [z0] at s0
  rw [s0]
  simp only [Nat.zero_add, s1, Nat.reduceAdd, s2, s3]
  by_cases ha : a = 0 <;> by_cases hb : b = 0 <;> by_cases hc : c = 0 <;> simp [ha, hb, hc]

/-- The error of a number. -/
def numErr (n s : Int) : Int := if -999999999999999 ≤ n ∧ n ≤ 999999999999999 ∧ 0 ≤ s ∧ s ≤ 15 then 0 else 3
theorem f52q (n s : Int) : f52F 1000 (n, s) = some (numErr n s) := by
  unfold f52F numErr
  simp only [f70q, f43q, bind_some']
  by_cases h : -999999999999999 ≤ n ∧ n ≤ 999999999999999
  · simp only [h, and_self, decide_true, Bool.not_true, cond_false, true_and]
    by_cases h2 : 0 ≤ s ∧ s ≤ 15
    · simp [h2]
    · simp [h2]
  · have e : ¬ (-999999999999999 ≤ n ∧ n ≤ 999999999999999 ∧ 0 ≤ s ∧ s ≤ 15) := by omega
    rw [if_neg e]
    simp [h]
theorem f34q (n s : Int) : f34F 1000 (n, s) = some (numErr n s) := by
  unfold f34F numErr
  simp only [f48q, f69q, bind_some']
  have w0 : IntKind.i64.wrap (3 * 0) = 0 := rfl
  have w1 : IntKind.i64.wrap (3 * 1) = 3 := rfl
  by_cases h : -999999999999999 ≤ n ∧ n ≤ 999999999999999
  · simp only [h, and_self, decide_true, cond_true, true_and]
    by_cases h2 : 0 ≤ s ∧ s ≤ 15
    · simp [h2]; rfl
    · simp [h2]; rfl
  · have e : ¬ (-999999999999999 ≤ n ∧ n ≤ 999999999999999 ∧ 0 ≤ s ∧ s ≤ 15) := by omega
    rw [if_neg e]
    simp [h]; rfl
theorem amt_bound {n : Int} (h0 : -999999999999999 ≤ n) (h1 : n ≤ 999999999999999) : 0 ≤ amt n ∧ amt n ≤ 999999999999999 := by
  unfold amt; split <;> omega
theorem f83q {n s : Int} {m : Nat} (h0 : -999999999999999 ≤ n) (h1 : n ≤ 999999999999999) (hm : m ≤ 31) : ∃ a, f83F 1000 ((n, s), (m : Int)) = some a ∧ OkW a ∧ W a = amt n * 10 ^ m := by
  obtain ⟨a0, a1⟩ := amt_bound h0 h1
  have hmx : mxI n (IntKind.i64.wrap (0 - n)) = amt n := mx_abs (by omega) (by omega)
  have ok1 : OkW (amt n, 0, 0, 0) := ⟨a0, by show amt n < _; omega, by simp, by simp, by simp, by simp, by simp, by simp⟩
  have w1 : W (amt n, 0, 0, 0) = amt n := by unfold W; simp only; omega
  have hp : amt n * 10 ^ m < big := by
    have p : (10 : Int) ^ m ≤ 10 ^ 31 := by
      have := Nat.pow_le_pow_right (n := 10) (by decide) hm
      have e : ((10 ^ m : Nat) : Int) = (10 : Int) ^ m := by simp
      rw [← e]
      have e2 : ((10 ^ 31 : Nat) : Int) = (10 : Int) ^ 31 := by simp
      rw [← e2]
      exact Int.ofNat_le.2 this
    have p0 : (0 : Int) ≤ 10 ^ m := Int.le_of_lt (Int.pow_pos (by decide))
    have q := Int.mul_le_mul a1 p p0 (show (0 : Int) ≤ 999999999999999 by decide)
    have e3 : (999999999999999 : Int) * 10 ^ 31 < big := by decide
    omega
  obtain ⟨b, hb, ob, Wb⟩ := f85q (a := (amt n, 0, 0, 0)) (n := m) ok1 (by omega) (by rw [w1]; exact hp)
  rw [w1] at Wb
  refine ⟨b, ?_, ob, Wb⟩
  unfold f83F f84F
  have wu : IntKind.u64.wrap (amt n) = amt n := by rw [wu64]; omega
  have hb' : f85F 1000 ((amt n, ((0 : Int), ((0 : Int), (0 : Int)))), (m : Int)) = some b := hb
  simp only [hmx, wu, bind_some', hb']

/-- A number put into a type: the value, and the error. -/
def convS (n s kd ln sc : Int) (half : Bool) : (Int × ByteArray) × Int :=
    if numErr n s ≠ 0 then ((0, ByteArray.empty), numErr n s)
    else if tyErr kd ln sc ≠ 0 then ((0, ByteArray.empty), tyErr kd ln sc)
    else if ¬ (1 ≤ kd ∧ kd ≤ 3) then ((0, ByteArray.empty), 17)
    else (((putR (decide (n < 0)) (amt n) (10 ^ s.toNat) sc ln half).1, ByteArray.empty), (putR (decide (n < 0)) (amt n) (10 ^ s.toNat) sc ln half).2)
theorem convS_num {n s kd ln sc : Int} {half : Bool} (h : numErr n s ≠ 0) : convS n s kd ln sc half = ((0, ByteArray.empty), numErr n s) := by
  unfold convS; rw [if_pos h]
theorem convS_ty {n s kd ln sc : Int} {half : Bool} (h : numErr n s = 0) (h2 : tyErr kd ln sc ≠ 0) : convS n s kd ln sc half = ((0, ByteArray.empty), tyErr kd ln sc) := by
  unfold convS; rw [if_neg (fun c => c h), if_pos h2]
theorem convS_kind {n s kd ln sc : Int} {half : Bool} (h : numErr n s = 0) (h2 : tyErr kd ln sc = 0) (h3 : ¬ (1 ≤ kd ∧ kd ≤ 3)) : convS n s kd ln sc half = ((0, ByteArray.empty), 17) := by
  unfold convS; rw [if_neg (fun c => c h), if_neg (fun c => c h2), if_pos h3]
theorem convS_ok {n s kd ln sc : Int} {half : Bool} (h : numErr n s = 0) (h2 : tyErr kd ln sc = 0) (h3 : 1 ≤ kd ∧ kd ≤ 3) : convS n s kd ln sc half = (((putR (decide (n < 0)) (amt n) (10 ^ s.toNat) sc ln half).1, ByteArray.empty), (putR (decide (n < 0)) (amt n) (10 ^ s.toNat) sc ln half).2) := by
  unfold convS; rw [if_neg (fun c => c h), if_neg (fun c => c h2), if_neg (fun c => c h3)]
theorem numErr_ok {n s : Int} (h : numErr n s = 0) : -999999999999999 ≤ n ∧ n ≤ 999999999999999 ∧ 0 ≤ s ∧ s ≤ 15 := by
  unfold numErr at h
  apply Decidable.byContradiction
  intro c
  rw [if_neg c] at h
  omega

end Go.Proofs.YtioagofpofamiaaDoor
/-! Plain laws: amounts as lists of digits. -/
set_option linter.unusedVariables false
set_option linter.unusedSimpArgs false
namespace Go.Ab

theorem iter_one {V R : Type} (Step : (V → Option R) → V → Option R) (k : Nat) (v : V) : iterS Step (k + 1) v = Step (iterS Step k) v := rfl

/-- The digits of an amount, the lowest one first. -/
def dg (n : Nat) : List Int := if n = 0 then [] else ((n % 10 : Nat) : Int) :: dg (n / 10)
termination_by n
decreasing_by omega

theorem dg_zero : dg 0 = [] := by rw [dg]; rfl
theorem dg_pos {n : Nat} (h : 0 < n) : dg n = ((n % 10 : Nat) : Int) :: dg (n / 10) := by
  rw [dg, if_neg (by omega)]
theorem dg_step {n d q : Nat} (h : 0 < n) (hd : d < 10) (e : n = d + 10 * q) : dg n = (d : Int) :: dg q := by
  rw [dg_pos h, show n % 10 = d by omega, show n / 10 = q by omega]

/-- Digits. -/
def Dig (l : List Int) : Prop := ∀ x ∈ l, 0 ≤ x ∧ x ≤ 9
theorem Dig.cons {x : Int} {l : List Int} : Dig (x :: l) ↔ (0 ≤ x ∧ x ≤ 9) ∧ Dig l := by simp [Dig]
theorem Dig.app {a b : List Int} : Dig (a ++ b) ↔ Dig a ∧ Dig b := by
  simp only [Dig, List.mem_append]
  exact ⟨fun h => ⟨fun x hx => h x (.inl hx), fun x hx => h x (.inr hx)⟩, fun h x hx => hx.elim (h.1 x) (h.2 x)⟩
theorem Dig.nil : Dig [] := by simp [Dig]
theorem Dig.zeros (n : Nat) : Dig (List.replicate n 0) := by
  intro x hx
  rw [List.eq_of_mem_replicate hx]; omega
/-- The number of digits. -/
def dval : List Int → Nat
  | [] => 0
  | x :: l => x.toNat + 10 * dval l
theorem dval_app : ∀ a b : List Int, dval (a ++ b) = dval a + 10 ^ a.length * dval b
  | [], b => by simp [dval]
  | x :: a, b => by
    simp only [List.cons_append, dval, dval_app a b, List.length_cons, Nat.pow_succ, Nat.mul_add, Nat.add_assoc]
    congr 2
    rw [Nat.mul_comm (10 ^ a.length) 10, Nat.mul_assoc]
theorem dval_zeros : ∀ n : Nat, dval (List.replicate n 0) = 0
  | 0 => rfl
  | n + 1 => by simp [List.replicate_succ, dval, dval_zeros n]
theorem dval_lt : ∀ {l : List Int}, Dig l → dval l < 10 ^ l.length
  | [], _ => by simp [dval]
  | x :: l, h => by
    obtain ⟨hx, hl⟩ := Dig.cons.1 h
    have := dval_lt hl
    simp only [dval, List.length_cons, Nat.pow_succ]
    omega
theorem dg_dig (n : Nat) : Dig (dg n) := by
  induction n using Nat.strongRecOn with
  | _ n ih =>
    by_cases h : n = 0
    · subst h; rw [dg_zero]; exact Dig.nil
    · rw [dg_pos (by omega)]
      exact Dig.cons.2 ⟨by omega, ih _ (by omega)⟩
theorem dval_dg (n : Nat) : dval (dg n) = n := by
  induction n using Nat.strongRecOn with
  | _ n ih =>
    by_cases h : n = 0
    · subst h; rw [dg_zero]; rfl
    · rw [dg_pos (by omega), dval, ih _ (by omega)]
      omega
theorem dg_nil {n : Nat} : dg n = [] ↔ n = 0 := by
  constructor
  · intro h
    have := dval_dg n
    rw [h] at this
    exact this.symm
  · rintro rfl
    exact dg_zero
theorem dg_inj {a b : Nat} : dg a = dg b ↔ a = b := by
  constructor
  · intro h
    rw [← dval_dg a, h, dval_dg]
  · rintro rfl; rfl
theorem dg_of : ∀ {l : List Int}, Dig l → l.getLast? ≠ some 0 → dg (dval l) = l
  | [], _, _ => dg_zero
  | [x], h, hl => by
    obtain ⟨hx, _⟩ := Dig.cons.1 h
    have hx0 : x ≠ 0 := by simpa using hl
    rw [dg_step (d := x.toNat) (q := 0) (by simp only [dval]; omega) (by omega) (by simp [dval]), dg_zero]
    congr 1
    omega
  | x :: y :: l, h, hl => by
    obtain ⟨hx, h2⟩ := Dig.cons.1 h
    have ih := dg_of h2 (by simpa using hl)
    have hp : 0 < dval (y :: l) := by
      rcases Nat.eq_zero_or_pos (dval (y :: l)) with h0 | h0
      · rw [h0, dg_zero] at ih; cases ih
      · exact h0
    rw [show dval (x :: y :: l) = x.toNat + 10 * dval (y :: l) from rfl, dg_step (d := x.toNat) (q := dval (y :: l)) (by omega) (by omega) rfl, ih]
    congr 1
    omega
theorem dg_last {n : Nat} : (dg n).getLast? ≠ some 0 := by
  induction n using Nat.strongRecOn with
  | _ n ih =>
    by_cases h : n = 0
    · subst h; rw [dg_zero]; simp
    · rw [dg_pos (by omega)]
      by_cases h2 : n / 10 = 0
      · rw [h2, dg_zero]; simp; omega
      · have := ih (n / 10) (by omega)
        have e := dg_pos (n := n / 10) (by omega)
        rw [e] at this ⊢
        rw [List.getLast?_cons_cons]
        exact this
theorem dg_len_le {n k : Nat} : (dg n).length ≤ k ↔ n < 10 ^ k := by
  induction k generalizing n with
  | zero =>
    rw [Nat.pow_zero, Nat.le_zero, List.length_eq_zero_iff, dg_nil]; omega
  | succ k ih =>
    by_cases h : n = 0
    · subst h; rw [dg_zero]; simp; exact Nat.pow_pos (by decide)
    · rw [dg_pos (by omega), List.length_cons, Nat.succ_le_succ_iff, ih, Nat.pow_succ]
      omega
theorem dg_lt_len {n k : Nat} : k < (dg n).length ↔ 10 ^ k ≤ n := by
  have := dg_len_le (n := n) (k := k)
  omega
theorem dg_len_pow (n : Nat) : n < 10 ^ (dg n).length := dg_len_le.1 (Nat.le_refl _)
theorem dg_drop {n : Nat} : ∀ {i : Nat}, (dg n).drop i = dg (n / 10 ^ i) := by
  intro i
  induction i generalizing n with
  | zero => simp
  | succ i ih =>
    by_cases h : n = 0
    · subst h; simp [dg_zero]
    · rw [dg_pos (by omega), List.drop_succ_cons, ih, Nat.pow_succ, Nat.div_div_eq_div_mul, Nat.mul_comm]
theorem dg_getD (n i : Nat) : (dg n).getD i 0 = ((n / 10 ^ i % 10 : Nat) : Int) := by
  have h := dg_drop (n := n) (i := i)
  have e : (dg n).getD i 0 = ((dg n).drop i).headD 0 := by
    rw [List.getD_eq_getElem?_getD, List.headD_eq_head?_getD, List.head?_drop]
  rw [e, h]
  by_cases h0 : n / 10 ^ i = 0
  · rw [h0, dg_zero]; rfl
  · rw [dg_pos (Nat.pos_of_ne_zero h0)]; rfl
/-- Zeros below digits. -/
theorem dg_zeros {n : Nat} (h : 0 < n) : ∀ k : Nat, List.replicate k 0 ++ dg n = dg (n * 10 ^ k)
  | 0 => by simp
  | k + 1 => by
    rw [List.replicate_succ, List.cons_append, dg_zeros h k]
    rw [dg_step (n := n * 10 ^ (k + 1)) (d := 0) (q := n * 10 ^ k) (Nat.mul_pos h (Nat.pow_pos (by decide))) (by decide) (by rw [Nat.pow_succ, ← Nat.mul_assoc]; omega)]
    rfl
/-- Digits without zeros at their end. -/
def tr (l : List Int) : List Int := dg (dval l)
theorem tr_zero {l : List Int} : tr (l ++ [0]) = tr l := by
  unfold tr
  rw [dval_app]
  simp [dval]
theorem tr_app {l : List Int} {x : Int} (h : Dig (l ++ [x])) (hx : x ≠ 0) : tr (l ++ [x]) = l ++ [x] :=
  dg_of h (by simpa using hx)
theorem tr_dg (n : Nat) : tr (dg n) = dg n := by rw [tr, dval_dg]
theorem tr_nil : tr [] = [] := by rw [tr, dval, dg_zero]
end Go.Ab
/-! Plain laws: the reference's long numbers. -/
set_option linter.unusedVariables false
set_option linter.unusedSimpArgs false
namespace Go.Proofs.YtioagofpofamiaaDoor
open Go.Ab

theorem f95l0_step {R : Type} (k : Nat) (rec k0 : List Int × Unit → Option R) (l : List Int) (x : Int) (hl : l.length ≤ 100000) :
    f95l0s k rec k0 (l ++ [x], ()) = if x = 0 then rec (l, ()) else k0 (l ++ [x], ()) := by
  unfold f95l0s
  have e1 : (((l ++ [x]).length : Nat) : Int) = (l.length : Int) + 1 := by simp
  have e2 : IntKind.i64.wrap (((l ++ [x]).length : Nat) - 1 : Int) = (l.length : Int) := by rw [e1, wi (by omega) (by omega)]; omega
  simp only [e1, e2, Int.toNat_natCast]
  rw [wi (by omega) (by omega), show (l.length : Int) + 1 - 1 = (l.length : Int) by omega]
  rw [bif_true (by simp only [decide_eq_true_eq]; omega), bif_true (by simp only [Bool.and_eq_true, decide_eq_true_eq]; omega)]
  have e3 : (l ++ [x]).getD l.length 0 = x := by simp [List.getD_eq_getElem?_getD]
  rw [Int.toNat_natCast, e3]
  by_cases hx : x = 0
  · rw [if_pos hx, bif_true (by simpa using hx), bif_true (by simp [sliceBds]; omega)]
    simp
  · rw [if_neg hx, bif_false (by simpa using hx)]

theorem f95q {l : List Int} (h : Dig l) (hl : l.length < 1000) : f95F 1000 l = some (tr l) := by
  unfold f95F f95l0
  have key : ∀ (n k : Nat) (l : List Int), l.length = n → n < 1000 → n < k → Dig l → iterS (fun rec v => f95l0s 1000 rec (fun (w3 : List Int × Unit) => some w3.1) v) k (l, ()) = some (tr l) := by
    intro n
    induction n with
    | zero =>
      intro k l hn _ hk _
      obtain ⟨k, rfl⟩ : ∃ j, k = j + 1 := ⟨k - 1, by omega⟩
      have : l = [] := List.length_eq_zero_iff.1 hn
      subst this
      rw [tr_nil]
      rfl
    | succ n ih =>
      intro k l hn h1 hk hd
      obtain ⟨k, rfl⟩ : ∃ j, k = j + 1 := ⟨k - 1, by omega⟩
      obtain ⟨l', x, rfl⟩ : ∃ l' x, l = l' ++ [x] := by
        rcases List.eq_nil_or_concat l with h | ⟨l', x, h⟩
        · subst h; simp at hn
        · exact ⟨l', x, by rw [h]; simp⟩
      have hn' : l'.length = n := by simpa using hn
      rw [iter_one]
      rw [f95l0_step _ _ _ _ _ (by omega)]
      by_cases hx : x = 0
      · rw [if_pos hx, ih k l' hn' (by omega) (by omega) (Dig.app.1 hd).1, hx, tr_zero]
      · rw [if_neg hx, tr_app hd hx]
  exact key _ _ _ rfl hl hl h

theorem f61l0_step {R : Type} (k : Nat) (rec : Int × Int × Bool × List Int × Unit → Option R) (k0 : Int × Bool × List Int × Unit → Option R) (n : Int) (m : Nat) (l : List Int) (hl : l.length ≤ 1000) (h0 : 0 < m) (hm : m ≤ 999999999999999) :
    f61l0s k rec k0 (n, (m : Int), false, l, ()) = rec (n, ((m / 10 : Nat) : Int), false, l ++ [((m % 10 : Nat) : Int)], ()) := by
  unfold f61l0s
  have e1 : Int.tmod (m : Int) 10 = ((m % 10 : Nat) : Int) := by simp [Int.tmod]
  have e2 : IntKind.i64.wrap (Int.tdiv (m : Int) 10) = ((m / 10 : Nat) : Int) := by
    have : Int.tdiv (m : Int) 10 = ((m / 10 : Nat) : Int) := by simp [Int.tdiv]
    rw [this, wi (by omega) (by omega)]
  simp only [e1, e2]
  rw [bif_true (by simp; omega), bif_true (by simp; omega)]

theorem f61q {n : Int} {z : Nat} (h0 : -999999999999999 ≤ n) (h1 : n ≤ 999999999999999) (hz : z ≤ 100) : f61F 1000 (n, (z : Int)) = some (decide (n < 0), dg ((amt n).toNat * 10 ^ z)) := by
  unfold f61F f61l0
  rw [bif_true (by simp; omega)]
  have ha : f79F 1000 n = some (amt n) := by
    unfold f79F
    rw [show mxI n (IntKind.i64.wrap (0 - n)) = amt n from mx_abs (by omega) (by omega)]
  have ab : 0 ≤ amt n ∧ amt n ≤ 999999999999999 := by unfold amt; split <;> omega
  rw [ha, bind_some', Int.toNat_natCast]
  generalize hm : amt n = m at ab
  obtain ⟨m, rfl⟩ : ∃ j : Nat, m = j := ⟨m.toNat, by omega⟩
  have key : ∀ (k m : Nat) (l : List Int), m < 10 ^ k → m ≤ 999999999999999 → l.length + (dg m).length < 900 →
      iterS (fun rec v => f61l0s 1000 rec (fun (w2 : Int × Bool × List Int × Unit) => Option.bind (f95F 1000 w2.2.2.1) fun y3 => some ((decide (w2.1 < (0 : Int))), y3)) v) (k + 1) (n, (m : Int), false, l, ()) = Option.bind (f95F 1000 (l ++ dg m)) fun y3 => some ((decide (n < (0 : Int))), y3) := by
    intro k
    induction k with
    | zero =>
      intro m l hm _ _
      have : m = 0 := by simpa using hm
      subst this
      rw [dg_zero, List.append_nil]
      rfl
    | succ k ih =>
      intro m l hm hb hl
      by_cases h0 : m = 0
      · subst h0
        rw [dg_zero, List.append_nil]
        rfl
      rw [iter_one]
      rw [f61l0_step _ _ _ _ _ _ (by omega) (by omega) hb, ih (m / 10) _ (by rw [Nat.pow_succ] at hm; omega) (by omega) (by rw [dg_pos (n := m) (by omega)] at hl; simp at hl ⊢; omega), dg_pos (n := m) (by omega), List.append_assoc]
      rfl
  have hdl : (dg m).length ≤ 15 := dg_len_le.2 (by omega)
  have hpow : ∀ e : Nat, 15 ≤ e → m < 10 ^ e := fun e he => Nat.lt_of_lt_of_le (m := 10 ^ 15) (by omega) (Nat.pow_le_pow_right (by decide) he)
  obtain ⟨e, he⟩ : ∃ e, 1000 = e + 1 := ⟨999, rfl⟩
  have hr := key e m (List.replicate z 0) (hpow e (by omega)) (by omega) (by simp; omega)
  rw [← he] at hr
  refine hr.trans ?_
  rw [f95q (Dig.app.2 ⟨Dig.zeros z, dg_dig m⟩) (by simp; omega), bind_some', tr, dval_app, dval_zeros, dval_dg, Int.toNat_natCast]
  simp only [List.length_replicate, Nat.zero_add, Nat.mul_comm]

/-- The order of two amounts. -/
def cmp3 (a b : Nat) : Int := if a < b then -1 else if b < a then 1 else 0

theorem cmp3_lt {a b : Nat} (h : a < b) : cmp3 a b = -1 := by unfold cmp3; rw [if_pos h]
theorem cmp3_gt {a b : Nat} (h : b < a) : cmp3 a b = 1 := by unfold cmp3; rw [if_neg (by omega), if_pos h]
theorem cmp3_self (a : Nat) : cmp3 a a = 0 := by unfold cmp3; rw [if_neg (by omega), if_neg (by omega)]
theorem cmp3_add (a b t : Nat) : cmp3 (a + t) (b + t) = cmp3 a b := by
  rcases Nat.lt_trichotomy a b with h | h | h
  · rw [cmp3_lt h, cmp3_lt (by omega)]
  · rw [h, cmp3_self, cmp3_self]
  · rw [cmp3_gt h, cmp3_gt (by omega)]
theorem cmp3_ge (a b : Nat) : (decide (cmp3 a b ≥ 0)) = decide (b ≤ a) := by
  rcases Nat.lt_trichotomy a b with h | h | h
  · rw [cmp3_lt h, decide_eq_false (p := b ≤ a) (by omega)]; rfl
  · rw [h, cmp3_self]; simp
  · rw [cmp3_gt h, decide_eq_true (p := b ≤ a) (by omega)]; rfl
theorem f93l0_step {R : Type} (rec : List Int × List Int × Int × Unit → Option R) (k0 : Int × Unit → Option R) (k1 : Unit → Option R) (a b i : Nat) (ha : i < (dg a).length) (hb : i < (dg b).length) (hl : (dg a).length < 900) :
    f93l0s 1000 rec k0 k1 (dg a, dg b, (i : Int), ()) = if a / 10 ^ i % 10 = b / 10 ^ i % 10 then rec (dg a, dg b, (i : Int) - 1, ()) else k0 (if a / 10 ^ i % 10 < b / 10 ^ i % 10 then -1 else 1, ()) := by
  unfold f93l0s
  simp only [Int.toNat_natCast, dg_getD]
  have ga : (decide ((0 : Int) ≤ (i : Int)) && decide ((i : Int) < ((dg a).length : Int))) = true := by simp; omega
  have gb : (decide ((0 : Int) ≤ (i : Int)) && decide ((i : Int) < ((dg b).length : Int))) = true := by simp; omega
  rw [bif_true (by simp), ga, gb]
  simp only [cond_true]
  generalize a / 10 ^ i % 10 = x
  generalize b / 10 ^ i % 10 = y
  by_cases hd : x = y
  · rw [if_pos hd, hd, bif_false (by simp), wi (by omega) (by omega)]
  · rw [if_neg hd, bif_true (by simp; omega)]
    simp only [f69q, bind_some']
    rcases Nat.lt_or_gt_of_ne hd with h | h
    · rw [if_pos h, decide_eq_false (by omega)]
      rfl
    · rw [decide_eq_true (by omega), if_neg (by omega : ¬ x < y)]
      rfl

theorem f93q {a b : Nat} (ha : (dg a).length < 900) (hb : (dg b).length < 900) : f93F 1000 (dg a, dg b) = some (cmp3 a b) := by
  unfold f93F
  by_cases hl : (dg a).length = (dg b).length
  · rw [bif_false (by simp only [hl, bne_self_eq_false])]
    unfold f93l0
    have key : ∀ (k i : Nat), i ≤ (dg a).length → i < k → a / 10 ^ i = b / 10 ^ i →
        iterS (fun rec v => f93l0s 1000 rec (fun (w5 : Int × Unit) => some w5.1) (fun (w6 : Unit) => some (0 : Int)) v) k (dg a, dg b, (i : Int) - 1, ()) = some (cmp3 (a % 10 ^ i) (b % 10 ^ i)) := by
      intro k
      induction k with
      | zero => intro i _ hi; omega
      | succ k ih =>
        intro i hi hk he
        rw [iter_one]
        cases i with
        | zero =>
          unfold f93l0s
          rw [bif_false (by simp)]
          simp [Nat.mod_one, cmp3]
        | succ i =>
          have e0 : ((i + 1 : Nat) : Int) - 1 = (i : Int) := by omega
          rw [e0, f93l0_step _ _ _ _ _ _ (by omega) (by omega) ha]
          have qa := Nat.mod_pow_succ (x := a) (b := 10) (k := i)
          have qb := Nat.mod_pow_succ (x := b) (b := 10) (k := i)
          have la : a % 10 ^ i < 10 ^ i := Nat.mod_lt _ (Nat.pow_pos (by decide))
          have lb : b % 10 ^ i < 10 ^ i := Nat.mod_lt _ (Nat.pow_pos (by decide))
          by_cases hd : a / 10 ^ i % 10 = b / 10 ^ i % 10
          · rw [if_pos hd, ih i (by omega) (by omega)]
            · congr 1
              rw [qa, qb, hd]
              rw [cmp3_add]
            · rw [Nat.pow_succ] at he
              rw [← Nat.div_div_eq_div_mul, ← Nat.div_div_eq_div_mul] at he
              generalize a / 10 ^ i = p at *
              generalize b / 10 ^ i = q at *
              omega
          · rw [if_neg hd]
            congr 1
            rw [qa, qb]
            generalize a / 10 ^ i % 10 = x at *
            generalize b / 10 ^ i % 10 = y at *
            generalize a % 10 ^ i = p at *
            generalize b % 10 ^ i = q at *
            generalize 10 ^ i = t at *
            rcases Nat.lt_or_gt_of_ne hd with h | h
            · have m1 : t * (x + 1) ≤ t * y := Nat.mul_le_mul_left t h
              rw [Nat.mul_add] at m1
              rw [if_pos h, cmp3_lt (by omega)]
            · have m1 : t * (y + 1) ≤ t * x := Nat.mul_le_mul_left t h
              rw [Nat.mul_add] at m1
              rw [if_neg (by omega), cmp3_gt (by omega)]
    have hp := dg_len_pow a
    have hq := dg_len_pow b
    rw [← hl] at hq
    simp only []
    rw [wi (by omega) (by omega)]
    have := key 1000 (dg a).length (Nat.le_refl _) (by omega) (by rw [Nat.div_eq_of_lt hp, Nat.div_eq_of_lt hq])
    rw [this, Nat.mod_eq_of_lt hp, Nat.mod_eq_of_lt hq]
  · rw [bif_true (by simp; omega), f69q, bind_some']
    simp only []
    congr 1
    rcases Nat.lt_or_gt_of_ne hl with h | h
    · have h1 := dg_len_le.1 (Nat.le_refl (dg a).length)
      have h2 := dg_lt_len.1 h
      rw [cmp3_lt (by omega), decide_eq_false (by omega)]
      rfl
    · have h1 := dg_len_le.1 (Nat.le_refl (dg b).length)
      have h2 := dg_lt_len.1 h
      rw [cmp3_gt (by omega), decide_eq_true (by omega)]
      rfl
end Go.Proofs.YtioagofpofamiaaDoor
/-! Plain laws: the reference's long numbers. -/
set_option linter.unusedVariables false
set_option linter.unusedSimpArgs false
namespace Go.Proofs.YtioagofpofamiaaDoor
open Go.Ab

theorem at_len {a i : Nat} : i < (dg a).length ↔ 0 < a / 10 ^ i := by
  rw [dg_lt_len, Nat.div_pos_iff]
  exact ⟨fun h => ⟨Nat.pow_pos (by decide), h⟩, fun h => h.2⟩

theorem f94p0_q {R : Type} (k0 : List Int × List Int × Int × Int × List Int × Unit → Option R) (l : List Int) (b i : Nat) (x : Int) (out : List Int) (h0 : -100 ≤ x) (h1 : x ≤ 100) :
    f94p0 1000 k0 (l, dg b, (i : Int), x, out, ()) = k0 (l, dg b, (i : Int), x - ((b / 10 ^ i % 10 : Nat) : Int), out, ()) := by
  unfold f94p0
  simp only [Int.toNat_natCast, dg_getD]
  by_cases h : i < (dg b).length
  · rw [bif_true (by simp; omega), bif_true (by simp; omega), wi (by omega) (by omega)]
  · rw [bif_false (by simp; omega)]
    have : b / 10 ^ i = 0 := Nat.eq_zero_of_not_pos (fun c => h (at_len.2 c))
    rw [this]
    simp

theorem f94l1_step {R : Type} (rec : List Int × List Int × Int × Int × List Int × Unit → Option R) (k0 : List Int × Unit → Option R) (a b c i : Nat) (out : List Int) (hc : c ≤ 1) (hi : i < (dg a).length) (hl : (dg a).length < 900) (ho : out.length = i) :
    ∃ c' d : Nat, f94l1s 1000 rec k0 (dg a, dg b, (c : Int), (i : Int), out, ()) = rec (dg a, dg b, (c' : Int), ((i + 1 : Nat) : Int), out ++ [(d : Int)], ())
      ∧ c' ≤ 1 ∧ d ≤ 9 ∧ a / 10 ^ i % 10 + 10 * c' = b / 10 ^ i % 10 + c + d := by
  unfold f94l1s
  simp only [Int.toNat_natCast, dg_getD]
  rw [bif_true (by simp; omega), bif_true (by simp; omega), wi (by omega) (by omega), f94p0_q _ _ _ _ _ _ (by omega) (by omega)]
  simp only [f69q, bind_some']
  have hx : a / 10 ^ i % 10 < 10 := Nat.mod_lt _ (by decide)
  have hy : b / 10 ^ i % 10 < 10 := Nat.mod_lt _ (by decide)
  generalize a / 10 ^ i % 10 = x at *
  generalize b / 10 ^ i % 10 = y at *
  have eo : ∀ z : Int, (decide ((out.length + [z].length) * 8 ≤ 140737488355328) && decide (out.length + [z].length ≤ 9223372036854775807)) = true := fun z => by simp; omega
  have ei : IntKind.i64.wrap ((i : Int) + 1) = ((i + 1 : Nat) : Int) := by rw [wi (by omega) (by omega)]; omega
  rw [eo, ei]
  simp only [cond_true]
  by_cases h : (x : Int) - c - y < 0
  · have e1 : (if decide ((x : Int) - c - y < 0) = true then (1 : Int) else 0) = ((1 : Nat) : Int) := by rw [if_pos (by simpa using h)]; rfl
    rw [e1]
    refine ⟨1, x + 10 - c - y, ?_, by omega, by omega, by omega⟩
    rw [show IntKind.i64.wrap (10 * ((1 : Nat) : Int)) = 10 from rfl, wi (by omega) (by omega), show (x : Int) - c - y + 10 = ((x + 10 - c - y : Nat) : Int) by omega]
  · have e1 : (if decide ((x : Int) - c - y < 0) = true then (1 : Int) else 0) = ((0 : Nat) : Int) := by rw [if_neg (by simpa using h)]; rfl
    rw [e1]
    refine ⟨0, x - c - y, ?_, by omega, by omega, by omega⟩
    rw [show IntKind.i64.wrap (10 * ((0 : Nat) : Int)) = 0 from rfl, wi (by omega) (by omega), show (x : Int) - c - y + 0 = ((x - c - y : Nat) : Int) by omega]

theorem f94l1_end {R : Type} (rec : List Int × List Int × Int × Int × List Int × Unit → Option R) (k0 : List Int × Unit → Option R) (a b : Nat) (c : Int) (out : List Int) :
    f94l1s 1000 rec k0 (dg a, dg b, c, ((dg a).length : Int), out, ()) = k0 (out, ()) := by
  unfold f94l1s
  rw [bif_false (by simp)]

theorem f94q {a b : Nat} (hab : b ≤ a) (hl : (dg a).length < 900) : f94F 1000 (dg a, dg b) = some (dg (a - b)) := by
  unfold f94F f94l1
  have key : ∀ (k i c : Nat) (out : List Int), i + k = (dg a).length → c ≤ 1 → b / 10 ^ i + c ≤ a / 10 ^ i → Dig out → out.length = i → k < 1000 →
      iterS (fun rec v => f94l1s 1000 rec (fun (w6 : List Int × Unit) => Option.bind (f95F 1000 w6.1) fun y7 => some y7) v) (1000 - i) (dg a, dg b, (c : Int), (i : Int), out, ()) = some (dg (dval out + 10 ^ i * (a / 10 ^ i - b / 10 ^ i - c))) := by
    intro k
    induction k with
    | zero =>
      intro i c out hi hc hle hd ho _
      rw [Nat.add_zero] at hi
      subst hi
      rw [show 1000 - (dg a).length = (999 - (dg a).length) + 1 by omega, iter_one, f94l1_end]
      simp only []
      rw [f95q hd (by omega), bind_some', Nat.div_eq_of_lt (dg_len_pow a)]
      simp [tr]
    | succ k ih =>
      intro i c out hi hc hle hd ho hk
      rw [show 1000 - i = (1000 - (i + 1)) + 1 by omega, iter_one]
      obtain ⟨c', d, e, hc', hd', heq⟩ := f94l1_step (iterS (fun rec v => f94l1s 1000 rec (fun (w6 : List Int × Unit) => Option.bind (f95F 1000 w6.1) fun y7 => some y7) v) (1000 - (i + 1))) (fun (w6 : List Int × Unit) => Option.bind (f95F 1000 w6.1) fun y7 => some y7) a b c i out hc (by omega) hl ho
      rw [e, ih (i + 1) c' _ (by omega) hc' ?_ (Dig.app.2 ⟨hd, Dig.cons.2 ⟨by omega, Dig.nil⟩⟩) (by simp [ho]) (by omega)]
      · congr 2
        rw [dval_app, ho, Nat.pow_succ, ← Nat.div_div_eq_div_mul, ← Nat.div_div_eq_div_mul, Nat.mul_assoc, Nat.add_assoc, ← Nat.mul_add]
        congr 2
        simp only [dval, Int.toNat_natCast]
        generalize a / 10 ^ i = A at *
        generalize b / 10 ^ i = B at *
        omega
      · rw [Nat.pow_succ, ← Nat.div_div_eq_div_mul, ← Nat.div_div_eq_div_mul]
        generalize a / 10 ^ i = A at *
        generalize b / 10 ^ i = B at *
        omega
  have := key (dg a).length 0 0 [] (by omega) (by decide) (by simpa using hab) Dig.nil rfl (by omega)
  rw [Nat.sub_zero] at this
  refine this.trans ?_
  simp [dval]

theorem f92p1_q {R : Type} (k0 : List Int × List Int × Int × Int × List Int × Unit → Option R) (l : List Int) (a i : Nat) (x : Int) (out : List Int) (h0 : -100 ≤ x) (h1 : x ≤ 100) :
    f92p1 1000 k0 (dg a, l, (i : Int), x, out, ()) = k0 (dg a, l, (i : Int), x + ((a / 10 ^ i % 10 : Nat) : Int), out, ()) := by
  unfold f92p1
  simp only [Int.toNat_natCast, dg_getD]
  by_cases h : i < (dg a).length
  · rw [bif_true (by simp; omega), bif_true (by simp; omega), wi (by omega) (by omega)]
  · rw [bif_false (by simp; omega)]
    have : a / 10 ^ i = 0 := Nat.eq_zero_of_not_pos (fun c => h (at_len.2 c))
    rw [this]
    simp
theorem f92p2_q {R : Type} (k0 : List Int × List Int × Int × Int × List Int × Unit → Option R) (l : List Int) (b i : Nat) (x : Int) (out : List Int) (h0 : -100 ≤ x) (h1 : x ≤ 100) :
    f92p2 1000 k0 (l, dg b, (i : Int), x, out, ()) = k0 (l, dg b, (i : Int), x + ((b / 10 ^ i % 10 : Nat) : Int), out, ()) := by
  unfold f92p2
  simp only [Int.toNat_natCast, dg_getD]
  by_cases h : i < (dg b).length
  · rw [bif_true (by simp; omega), bif_true (by simp; omega), wi (by omega) (by omega)]
  · rw [bif_false (by simp; omega)]
    have : b / 10 ^ i = 0 := Nat.eq_zero_of_not_pos (fun c => h (at_len.2 c))
    rw [this]
    simp
theorem f92p0_q {R : Type} (k0 k1 : List Int × List Int × Int × Int × List Int × Unit → Option R) (a b c i : Nat) (out : List Int) :
    f92p0 1000 k0 k1 (dg a, dg b, (c : Int), (i : Int), out, ()) = if a / 10 ^ i + b / 10 ^ i + c = 0 then k1 (dg a, dg b, (c : Int), (i : Int), out, ()) else k0 (dg a, dg b, (c : Int), (i : Int), out, ()) := by
  unfold f92p0
  have pa := at_len (a := a) (i := i)
  have pb := at_len (a := b) (i := i)
  generalize a / 10 ^ i = A at *
  generalize b / 10 ^ i = B at *
  simp only []
  by_cases h1 : i < (dg a).length
  · rw [bif_true (by simp; omega), if_neg (by omega)]
  rw [bif_false (by simp; omega)]
  by_cases h2 : i < (dg b).length
  · rw [bif_true (by simp; omega), if_neg (by omega)]
  rw [bif_false (by simp; omega)]
  by_cases h3 : 0 < c
  · rw [bif_true (by simp; omega), if_neg (by omega)]
  · rw [bif_false (by simp; omega), if_pos (by omega)]

theorem f92l3_step {R : Type} (rec : List Int × List Int × Int × Int × List Int × Unit → Option R) (k0 : List Int × Unit → Option R) (a b c i : Nat) (out : List Int) (hc : c ≤ 1) (hi : i < 1000) (ho : out.length < 1000) :
    f92l3s 1000 rec k0 (dg a, dg b, (c : Int), (i : Int), out, ()) = if a / 10 ^ i + b / 10 ^ i + c = 0 then k0 (out, ()) else
      rec (dg a, dg b, (((a / 10 ^ i % 10 + b / 10 ^ i % 10 + c) / 10 : Nat) : Int), ((i + 1 : Nat) : Int), out ++ [(((a / 10 ^ i % 10 + b / 10 ^ i % 10 + c) % 10 : Nat) : Int)], ()) := by
  unfold f92l3s
  simp only []
  rw [f92p0_q]
  split
  · rfl
  simp only []
  rw [f92p1_q _ _ a i (c : Int) out (by omega) (by omega)]
  simp only []
  rw [f92p2_q _ _ b i _ out (by omega) (by omega)]
  simp only []
  have hx : a / 10 ^ i % 10 < 10 := Nat.mod_lt _ (by decide)
  have hy : b / 10 ^ i % 10 < 10 := Nat.mod_lt _ (by decide)
  generalize a / 10 ^ i % 10 = x at *
  generalize b / 10 ^ i % 10 = y at *
  have eo : ∀ z : Int, (decide ((out.length + [z].length) * 8 ≤ 140737488355328) && decide (out.length + [z].length ≤ 9223372036854775807)) = true := fun z => by simp; omega
  have ei : IntKind.i64.wrap ((i : Int) + 1) = ((i + 1 : Nat) : Int) := by rw [wi (by omega) (by omega)]; omega
  have e1 : (c : Int) + x + y = ((x + y + c : Nat) : Int) := by omega
  have e2 : Int.tmod ((x + y + c : Nat) : Int) 10 = (((x + y + c) % 10 : Nat) : Int) := by rw [Int.tmod_eq_emod_of_nonneg (by omega)]; omega
  have e3 : IntKind.i64.wrap (Int.tdiv ((x + y + c : Nat) : Int) 10) = (((x + y + c) / 10 : Nat) : Int) := by
    rw [Int.tdiv_eq_ediv_of_nonneg (by omega), wi (by omega) (by omega)]; omega
  rw [e1, e2, e3, eo, ei]
  rfl

theorem f92q {a b : Nat} (hl : (dg (a + b)).length < 900) : f92F 1000 (dg a, dg b) = some (dg (a + b)) := by
  unfold f92F f92l3
  have key : ∀ (k i c : Nat) (out : List Int), a / 10 ^ i + b / 10 ^ i + c < 10 ^ k → c ≤ 1 → i + k < 950 → out.length = i →
      iterS (fun rec v => f92l3s 1000 rec (fun (w7 : List Int × Unit) => some w7.1) v) (1000 - i) (dg a, dg b, (c : Int), (i : Int), out, ()) = some (out ++ dg (a / 10 ^ i + b / 10 ^ i + c)) := by
    intro k
    induction k with
    | zero =>
      intro i c out h hc hi ho
      rw [show 1000 - i = (1000 - (i + 1)) + 1 by omega, iter_one, f92l3_step _ _ _ _ _ _ _ hc (by omega) (by omega)]
      have h0 : a / 10 ^ i + b / 10 ^ i + c = 0 := by rw [Nat.pow_zero] at h; exact Nat.lt_one_iff.1 h
      rw [if_pos h0, h0, dg_zero, List.append_nil]
    | succ k ih =>
      intro i c out h hc hi ho
      rw [show 1000 - i = (1000 - (i + 1)) + 1 by omega, iter_one, f92l3_step _ _ _ _ _ _ _ hc (by omega) (by omega)]
      by_cases h0 : a / 10 ^ i + b / 10 ^ i + c = 0
      · rw [if_pos h0, h0, dg_zero, List.append_nil]
      rw [if_neg h0]
      have e : a / 10 ^ (i + 1) + b / 10 ^ (i + 1) + (a / 10 ^ i % 10 + b / 10 ^ i % 10 + c) / 10 = (a / 10 ^ i + b / 10 ^ i + c) / 10 := by
        rw [Nat.pow_succ, ← Nat.div_div_eq_div_mul, ← Nat.div_div_eq_div_mul]
        generalize a / 10 ^ i = A
        generalize b / 10 ^ i = B
        omega
      have e2 : (a / 10 ^ i % 10 + b / 10 ^ i % 10 + c) % 10 = (a / 10 ^ i + b / 10 ^ i + c) % 10 := by
        generalize a / 10 ^ i = A
        generalize b / 10 ^ i = B
        omega
      rw [ih (i + 1) _ _ (by rw [e]; rw [Nat.pow_succ] at h; omega) (by omega) (by omega) (by simp [ho]), e, e2, dg_pos (n := a / 10 ^ i + b / 10 ^ i + c) (Nat.pos_of_ne_zero h0), List.append_assoc]
      rfl
  have := key (dg (a + b)).length 0 0 [] (by simpa using dg_len_pow (a + b)) (by decide) (by omega) rfl
  rw [Nat.sub_zero] at this
  refine this.trans ?_
  simp
end Go.Proofs.YtioagofpofamiaaDoor
/-! Plain laws: the reference's long numbers: quotients. -/
set_option linter.unusedVariables false
set_option linter.unusedSimpArgs false
namespace Go.Proofs.YtioagofpofamiaaDoor
open Go.Ab

theorem dg_len_mono {a b : Nat} (h : a ≤ b) : (dg a).length ≤ (dg b).length :=
  dg_len_le.2 (Nat.lt_of_le_of_lt h (dg_len_pow b))

theorem set_getD_self (q : List Int) (i : Nat) (z : Int) (h : q.getD i 0 = z) (hi : i < q.length) : q.set i z = q := by
  rw [List.getD_eq_getElem?_getD, List.getElem?_eq_getElem hi] at h
  rw [← h]
  exact List.set_getElem_self hi

end Go.Proofs.YtioagofpofamiaaDoor
/-! Plain laws: a number put into a type, by the reference and by the code. -/
set_option linter.unusedVariables false
set_option linter.unusedSimpArgs false
namespace Go.Proofs.YtioagofpofamiaaDoor
open Go.Ab

/-- The quotient of a fraction, cut off or half-adjusted. -/
def wholeN (t B sc : Nat) (half : Bool) : Nat := if half = true ∧ B ≤ 2 * (t * 10 ^ sc % B) then t * 10 ^ sc / B + 1 else t * 10 ^ sc / B

theorem dg_one : dg 1 = [1] := by
  rw [dg_step (n := 1) (d := 1) (q := 0) (by decide) (by decide) rfl, dg_zero]
  rfl

theorem wholeI (t B S : Nat) (half : Bool) : (if half = true ∧ (B : Int) ≤ 2 * ((t : Int) * 10 ^ S % B) then (t : Int) * 10 ^ S / B + 1 else (t : Int) * 10 ^ S / B) = ((wholeN t B S half : Nat) : Int) := by
  unfold wholeN
  have e1 : (t : Int) * 10 ^ S / B = ((t * 10 ^ S / B : Nat) : Int) := by simp
  have e2 : (t : Int) * 10 ^ S % B = ((t * 10 ^ S % B : Nat) : Int) := by simp
  rw [e1, e2]
  generalize t * 10 ^ S / B = q
  generalize t * 10 ^ S % B = r
  by_cases h : half = true ∧ B ≤ 2 * r
  · rw [if_pos h, if_pos ⟨h.1, by omega⟩]; rfl
  · rw [if_neg h, if_neg (fun c => h ⟨c.1, by omega⟩)]
theorem putR_err {below : Bool} {A B sc ln : Int} {half : Bool} (h : (putR below A B sc ln half).2 ≠ 0) : (putR below A B sc ln half).1 = 0 := by
  unfold putR at *
  simp only [] at *
  generalize (if half = true ∧ B ≤ 2 * (A * 10 ^ sc.toNat % B) then A * 10 ^ sc.toNat / B + 1 else A * 10 ^ sc.toNat / B) = q at *
  by_cases c : 10 ^ ln.toNat ≤ q
  · rw [if_pos c]
  · rw [if_neg c] at h
    exact absurd rfl h
theorem convS_err {n s kd ln sc : Int} {half : Bool} (h : (convS n s kd ln sc half).2 ≠ 0) : (convS n s kd ln sc half).1 = (0, ByteArray.empty) := by
  by_cases h1 : numErr n s = 0
  · by_cases h2 : tyErr kd ln sc = 0
    · by_cases h3 : 1 ≤ kd ∧ kd ≤ 3
      · rw [convS_ok h1 h2 h3] at *
        simp only [] at *
        rw [putR_err h]
      · rw [convS_kind h1 h2 h3]
    · rw [convS_ty h1 h2]
  · rw [convS_num h1]

end Go.Proofs.YtioagofpofamiaaDoor
/-! Plain laws: sums and the order of long numbers. -/
set_option linter.unusedVariables false
set_option linter.unusedSimpArgs false
namespace Go.Proofs.YtioagofpofamiaaDoor
open Go.Ab

theorem amt_nat (n : Int) : amt n = (n.natAbs : Int) := by unfold amt; split <;> omega
/-- A sign and an amount as a number. -/
def sg (x : Bool × Nat) : Int := if x.1 = true then -(x.2 : Int) else x.2
theorem sg_of (n : Int) : sg (decide (n < 0), n.natAbs) = n := by
  unfold sg
  by_cases h : n < 0
  · simp [h]; omega
  · simp [h]; omega
theorem sg_flip (b : Bool) (n : Nat) : sg (!b, n) = -sg (b, n) := by cases b <;> simp [sg]

/-- The sum of two numbers with signs. -/
def sumN (a b : Bool × Nat) : Bool × Nat :=
  if a.1 = b.1 then (a.1, a.2 + b.2) else if a.2 < b.2 then (b.1, b.2 - a.2) else (a.1 && decide (0 < a.2 - b.2), a.2 - b.2)
theorem sumN_sg (a b : Bool × Nat) : sg (sumN a b) = sg a + sg b := by
  obtain ⟨ba, a⟩ := a
  obtain ⟨bb, b⟩ := b
  unfold sumN
  simp only []
  by_cases h : ba = bb
  · subst h
    rw [if_pos rfl]
    cases ba <;> simp [sg]
    omega
  · rw [if_neg h]
    by_cases hl : a < b
    · rw [if_pos hl]
      cases ba <;> cases bb <;> simp [sg] at h ⊢ <;> omega
    · rw [if_neg hl]
      by_cases h0 : 0 < a - b
      · rw [decide_eq_true h0, Bool.and_true]
        cases ba <;> cases bb <;> simp [sg] at h ⊢ <;> omega
      · rw [decide_eq_false h0, Bool.and_false]
        cases ba <;> cases bb <;> simp [sg] at h ⊢ <;> omega
theorem sumN_le (a b : Bool × Nat) : (sumN a b).2 ≤ a.2 + b.2 := by
  unfold sumN
  split
  · exact Nat.le_refl _
  · split
    · simp only; omega
    · simp only; omega

theorem dg_len_add {a b k : Nat} (ha : (dg a).length ≤ k) (hb : (dg b).length ≤ k) : (dg (a + b)).length ≤ k + 1 := by
  have h1 := dg_len_le.1 ha
  have h2 := dg_len_le.1 hb
  exact dg_len_le.2 (by rw [Nat.pow_succ]; omega)
theorem dec_len (n : Nat) : decide (((dg n).length : Int) > 0) = decide (0 < n) := by
  by_cases h : 0 < n
  · rw [decide_eq_true h, decide_eq_true]
    have := dg_lt_len (n := n) (k := 0)
    rw [Nat.pow_zero] at this
    omega
  · have : n = 0 := by omega
    subst this
    rw [dg_zero]; rfl
theorem len_zero (n : Nat) : (((dg n).length : Int) == 0) = decide (n = 0) := by
  by_cases h : n = 0
  · subst h; rw [dg_zero]; rfl
  · rw [decide_eq_false h]
    have : dg n ≠ [] := fun c => h (dg_nil.1 c)
    have : (dg n).length ≠ 0 := fun c => this (List.length_eq_zero_iff.1 c)
    simp only [beq_eq_false_iff_ne, ne_eq]
    omega

theorem f60q {ba bb : Bool} {a b : Nat} (ha : (dg a).length ≤ 800) (hb : (dg b).length ≤ 800) :
    f60F 1000 ((ba, dg a), (bb, dg b)) = some ((sumN (ba, a) (bb, b)).1, dg (sumN (ba, a) (bb, b)).2) := by
  have hs := dg_len_add ha hb
  unfold f60F sumN
  simp only []
  by_cases h : ba = bb
  · rw [if_pos h, bif_true (by simp [h]), f92q (by omega), bind_some']
  · rw [if_neg h, bif_false (by simpa using h)]
    unfold f60p0
    simp only []
    rw [f93q (by omega) (by omega), bind_some']
    by_cases hl : a < b
    · rw [if_pos hl, cmp3_lt hl]
      simp only [Int.reduceNeg, Int.reduceLT, decide_true, cond_true]
      rw [f94q (by omega) (by omega), bind_some', dec_len, decide_eq_true (by omega)]
      cases bb <;> rfl
    · rw [if_neg hl]
      have : decide (cmp3 a b < 0) = false := by
        have := cmp3_ge a b
        rw [decide_eq_true (by omega : b ≤ a)] at this
        simp at this ⊢
        exact this
      rw [this]
      simp only [cond_false]
      rw [f94q (by omega) (by omega), bind_some', dec_len]
      cases ba <;> rfl

theorem f61q' {n z : Int} (h0 : -999999999999999 ≤ n) (h1 : n ≤ 999999999999999) (z0 : 0 ≤ z) (hz : z ≤ 100) : f61F 1000 (n, z) = some (decide (n < 0), dg (n.natAbs * 10 ^ z.toNat)) := by
  obtain ⟨Z, rfl⟩ : ∃ Z : Nat, z = Z := ⟨z.toNat, by omega⟩
  rw [f61q h0 h1 (by omega), amt_nat, Int.toNat_natCast, Int.toNat_natCast]
theorem long_len {n : Int} {z : Nat} (h0 : -999999999999999 ≤ n) (h1 : n ≤ 999999999999999) : (dg (n.natAbs * 10 ^ z)).length ≤ 15 + z := dg_len_le.2 (by
  rw [Nat.pow_add]
  exact Nat.mul_lt_mul_of_pos_right (by omega) (Nat.pow_pos (by decide)))
theorem sg_long (n : Int) (z : Nat) : sg (decide (n < 0), n.natAbs * 10 ^ z) = n * 10 ^ z := by
  have h := sg_of n
  unfold sg at *
  simp only [] at *
  have e : ((n.natAbs * 10 ^ z : Nat) : Int) = (n.natAbs : Int) * 10 ^ z := by simp
  rw [e]
  split at h
  · rename_i c
    rw [if_pos c, ← Int.neg_mul, h]
  · rename_i c
    rw [if_neg c, h]

theorem mxI_eq (a b : Int) : mxI a b = max a b := by unfold mxI; rw [Int.max_def]; split <;> split <;> omega
/-- The order of two numbers. -/
def ordN (n1 s1 n2 s2 : Int) : Int :=
  if n1 * 10 ^ (max s1 s2 - s1).toNat = n2 * 10 ^ (max s1 s2 - s2).toNat then 0 else if n1 * 10 ^ (max s1 s2 - s1).toNat < n2 * 10 ^ (max s1 s2 - s2).toNat then -1 else 1

theorem f59q {n1 s1 n2 s2 : Int} (a0 : -999999999999999 ≤ n1) (a1 : n1 ≤ 999999999999999) (b0 : -999999999999999 ≤ n2) (b1 : n2 ≤ 999999999999999) (s10 : 0 ≤ s1) (s11 : s1 ≤ 90) (s20 : 0 ≤ s2) (s21 : s2 ≤ 90) :
    f59F 1000 ((n1, s1), (n2, s2)) = some (ordN n1 s1 n2 s2) := by
  unfold f59F f91F ordN
  simp only [mxI_eq]
  have m1 : s1 ≤ max s1 s2 := Int.le_max_left ..
  have m2 : s2 ≤ max s1 s2 := Int.le_max_right ..
  have m3 : max s1 s2 ≤ 90 := Int.max_le.2 ⟨s11, s21⟩
  rw [wi (by omega) (by omega), wi (by omega) (by omega), f61q' a0 a1 (by omega) (by omega), bind_some', f61q' b0 b1 (by omega) (by omega), bind_some', bind_some']
  have l1 := long_len (z := (max s1 s2 - s1).toNat) a0 a1
  have l2 := long_len (z := (max s1 s2 - s2).toNat) b0 b1
  simp only []
  rw [f60q (by omega) (by omega), bind_some']
  have hs := sumN_sg (decide (n1 < 0), n1.natAbs * 10 ^ (max s1 s2 - s1).toNat) (!decide (n2 < 0), n2.natAbs * 10 ^ (max s1 s2 - s2).toNat)
  rw [sg_flip, sg_long, sg_long] at hs
  generalize sumN (decide (n1 < 0), n1.natAbs * 10 ^ (max s1 s2 - s1).toNat) (!decide (n2 < 0), n2.natAbs * 10 ^ (max s1 s2 - s2).toNat) = d at *
  generalize n1 * 10 ^ (max s1 s2 - s1).toNat = X at *
  generalize n2 * 10 ^ (max s1 s2 - s2).toNat = Y at *
  simp only []
  rw [len_zero]
  obtain ⟨b, m⟩ := d
  unfold sg at hs
  simp only [] at hs ⊢
  by_cases hm : m = 0
  · subst hm
    have : X = Y := by split at hs <;> omega
    rw [if_pos this]; rfl
  · rw [decide_eq_false hm, cond_false, f69q, bind_some']
    cases b with
    | true =>
      simp only [if_true] at hs
      rw [if_neg (by omega : ¬ X = Y), if_pos (by omega : X < Y)]
      rfl
    | false =>
      simp only [Bool.false_eq_true, if_false] at hs
      rw [if_neg (by omega : ¬ X = Y), if_neg (by omega : ¬ X < Y)]
      rfl

theorem putR_nat (below : Bool) (a b : Nat) (sc ln : Int) (half : Bool) :
    putR below a b sc ln half = if 10 ^ ln.toNat ≤ wholeN a b sc.toNat half then (0, 19) else (sg (below, wholeN a b sc.toNat half), 0) := by
  unfold putR
  simp only [wholeI]
  have hp : (10 : Int) ^ ln.toNat = ((10 ^ ln.toNat : Nat) : Int) := by simp
  rw [hp]
  by_cases c : 10 ^ ln.toNat ≤ wholeN a b sc.toNat half
  · rw [if_pos c, if_pos (by omega)]
  · rw [if_neg c, if_neg (by omega)]
    rfl
theorem pow_nat (k : Nat) : (10 : Int) ^ k = ((10 ^ k : Nat) : Int) := by simp
/-- What a conversion that succeeds says. -/
theorem convS_fact {n s kd ln sc : Int} {half : Bool} (h : (convS n s kd ln sc half).2 = 0) :
    numErr n s = 0 ∧ tyErr kd ln sc = 0 ∧ (1 ≤ kd ∧ kd ≤ 3) ∧ wholeN n.natAbs (10 ^ s.toNat) sc.toNat half < 10 ^ ln.toNat ∧ (convS n s kd ln sc half).1 = (sg (decide (n < 0), wholeN n.natAbs (10 ^ s.toNat) sc.toNat half), ByteArray.empty) := by
  by_cases h1 : numErr n s = 0
  · by_cases h2 : tyErr kd ln sc = 0
    · by_cases h3 : 1 ≤ kd ∧ kd ≤ 3
      · rw [convS_ok h1 h2 h3] at h ⊢
        refine ⟨h1, h2, h3, ?_⟩
        rw [amt_nat, pow_nat s.toNat, putR_nat] at *
        by_cases c : 10 ^ ln.toNat ≤ wholeN n.natAbs (10 ^ s.toNat) sc.toNat half
        · rw [if_pos c] at h
          exact absurd h (by decide)
        · rw [if_neg c]
          exact ⟨by omega, rfl⟩
      · rw [convS_kind h1 h2 h3] at h
        exact absurd h (by decide)
    · rw [convS_ty h1 h2] at h
      exact absurd h h2
  · rw [convS_num h1] at h
    exact absurd h h1
end Go.Proofs.YtioagofpofamiaaDoor
/-! Plain laws: what is put into a type is near to the number. -/
set_option linter.unusedVariables false
set_option linter.unusedSimpArgs false
namespace Go.Proofs.YtioagofpofamiaaDoor
open Go.Ab

theorem sg_natAbs (x : Bool × Nat) : (sg x).natAbs = x.2 := by unfold sg; split <;> omega
theorem sg_bound {b : Bool} {w k : Nat} (h : w < 10 ^ k) (hk : k ≤ 15) : -999999999999999 ≤ sg (b, w) ∧ sg (b, w) ≤ 999999999999999 := by
  have : 10 ^ k ≤ 10 ^ 15 := Nat.pow_le_pow_right (by decide) hk
  unfold sg
  split <;> simp only <;> omega

theorem whole_exact {t S sc : Nat} (h : S ≤ sc) (half : Bool) : wholeN t (10 ^ S) sc half = t * 10 ^ (sc - S) := by
  have e : t * 10 ^ sc = t * 10 ^ (sc - S) * 10 ^ S := by rw [Nat.mul_assoc, ← Nat.pow_add, Nat.sub_add_cancel h]
  have hp : 0 < 10 ^ S := Nat.pow_pos (by decide)
  unfold wholeN
  rw [e, Nat.mul_mod_left, Nat.mul_div_cancel _ hp, if_neg (by omega)]
theorem whole_cut {t S sc : Nat} (h : sc < S) (half : Bool) : wholeN t (10 ^ S) sc half = if half = true ∧ 10 ^ (S - sc) ≤ 2 * (t % 10 ^ (S - sc)) then t / 10 ^ (S - sc) + 1 else t / 10 ^ (S - sc) := by
  have hp : 0 < 10 ^ sc := Nat.pow_pos (by decide)
  have e : 10 ^ S = 10 ^ (S - sc) * 10 ^ sc := by rw [← Nat.pow_add, Nat.sub_add_cancel (Nat.le_of_lt h)]
  unfold wholeN
  rw [e, Nat.mul_div_mul_right _ _ hp, Nat.mul_mod_mul_right, ← Nat.mul_assoc]
  have : (10 ^ (S - sc) * 10 ^ sc ≤ 2 * (t % 10 ^ (S - sc)) * 10 ^ sc) = (10 ^ (S - sc) ≤ 2 * (t % 10 ^ (S - sc))) := by
    apply propext
    exact ⟨fun h => Nat.le_of_mul_le_mul_right h hp, fun h => Nat.mul_le_mul_right _ h⟩
  simp only [this]

end Go.Proofs.YtioagofpofamiaaDoor
/-! Plain laws: numbers, their values in a type and their bytes are in one order. -/
set_option linter.unusedVariables false
set_option linter.unusedSimpArgs false
namespace Go.Proofs.YtioagofpofamiaaDoor
open Go.Ab

theorem whole_scale {t B c sc : Nat} (hc : 0 < c) (half : Bool) : wholeN (t * c) (B * c) sc half = wholeN t B sc half := by
  unfold wholeN
  have e : t * c * 10 ^ sc = t * 10 ^ sc * c := Nat.mul_right_comm ..
  rw [e, Nat.mul_div_mul_right _ _ hc, Nat.mul_mod_mul_right, ← Nat.mul_assoc]
  have : (B * c ≤ 2 * (t * 10 ^ sc % B) * c) = (B ≤ 2 * (t * 10 ^ sc % B)) := by
    apply propext
    exact ⟨fun h => Nat.le_of_mul_le_mul_right h hc, fun h => Nat.mul_le_mul_right _ h⟩
  simp only [this]
theorem whole_mono {t u B sc : Nat} (h : t ≤ u) (half : Bool) : wholeN t B sc half ≤ wholeN u B sc half := by
  have hT : t * 10 ^ sc ≤ u * 10 ^ sc := Nat.mul_le_mul_right _ h
  unfold wholeN
  generalize t * 10 ^ sc = T at *
  generalize u * 10 ^ sc = U at *
  have hq : T / B ≤ U / B := Nat.div_le_div_right hT
  by_cases hlt : T / B < U / B
  · split <;> split <;> omega
  · have he : T / B = U / B := Nat.le_antisymm hq (Nat.le_of_not_lt hlt)
    have d1 := Nat.div_add_mod T B
    have d2 := Nat.div_add_mod U B
    rw [he] at d1 ⊢
    have hr : T % B ≤ U % B := by omega
    by_cases c : half = true ∧ B ≤ 2 * (T % B)
    · rw [if_pos c, if_pos ⟨c.1, by omega⟩]
      exact Nat.le_refl _
    · rw [if_neg c]
      split
      · exact Nat.le_succ _
      · exact Nat.le_refl _

/-- Numbers put into a type with so many places keep their order. -/
theorem put_mono {n1 s1 n2 s2 sc m : Nat} {b1 b2 half : Bool} (h1 : s1 ≤ m) (h2 : s2 ≤ m)
    (h : sg (b1, n1 * 10 ^ (m - s1)) ≤ sg (b2, n2 * 10 ^ (m - s2))) : sg (b1, wholeN n1 (10 ^ s1) sc half) ≤ sg (b2, wholeN n2 (10 ^ s2) sc half) := by
  have e1 : 10 ^ m = 10 ^ s1 * 10 ^ (m - s1) := by rw [← Nat.pow_add]; congr 1; omega
  have e2 : 10 ^ m = 10 ^ s2 * 10 ^ (m - s2) := by rw [← Nat.pow_add]; congr 1; omega
  have w1 := whole_scale (t := n1) (B := 10 ^ s1) (c := 10 ^ (m - s1)) (sc := sc) (Nat.pow_pos (by decide)) half
  have w2 := whole_scale (t := n2) (B := 10 ^ s2) (c := 10 ^ (m - s2)) (sc := sc) (Nat.pow_pos (by decide)) half
  rw [← e1] at w1
  rw [← e2] at w2
  rw [← w1, ← w2]
  have hz : wholeN 0 (10 ^ m) sc half = 0 := by
    unfold wholeN
    rw [Nat.zero_mul, Nat.zero_mod, Nat.zero_div, if_neg]
    have : 0 < 10 ^ m := Nat.pow_pos (by decide)
    omega
  generalize n1 * 10 ^ (m - s1) = x at *
  generalize n2 * 10 ^ (m - s2) = y at *
  have m1 := fun h => whole_mono (t := x) (u := y) (B := 10 ^ m) (sc := sc) h half
  have m2 := fun h => whole_mono (t := y) (u := x) (B := 10 ^ m) (sc := sc) h half
  have m3 := fun h => whole_mono (t := x) (u := 0) (B := 10 ^ m) (sc := sc) h half
  have m4 := fun h => whole_mono (t := y) (u := 0) (B := 10 ^ m) (sc := sc) h half
  rw [hz] at m3 m4
  generalize wholeN x (10 ^ m) sc half = p at *
  generalize wholeN y (10 ^ m) sc half = q at *
  cases b1 <;> cases b2 <;> simp only [sg, if_true, Bool.false_eq_true, if_false] at h ⊢
  · have := m1 (by omega); omega
  · have := m3 (by omega); have := m4 (by omega); omega
  · omega
  · have := m2 (by omega); omega

theorem f62q {n1 s1 n2 s2 : Int} (a0 : -999999999999999 ≤ n1) (a1 : n1 ≤ 999999999999999) (b0 : -999999999999999 ≤ n2) (b1 : n2 ≤ 999999999999999) (s10 : 0 ≤ s1) (s11 : s1 ≤ 15) (s20 : 0 ≤ s2) (s21 : s2 ≤ 15) :
    ∃ a b : Wd, f62F 1000 ((n1, s1), (n2, s2)) = some ((a.1, (a.2.1, (a.2.2.1, a.2.2.2))), (b.1, (b.2.1, (b.2.2.1, b.2.2.2))), max s1 s2) ∧ OkW a ∧ OkW b
      ∧ W a = ((n1.natAbs * 10 ^ (max s1 s2 - s1).toNat : Nat) : Int) ∧ W b = ((n2.natAbs * 10 ^ (max s1 s2 - s2).toNat : Nat) : Int) := by
  have m1 : s1 ≤ max s1 s2 := Int.le_max_left ..
  have m2 : s2 ≤ max s1 s2 := Int.le_max_right ..
  have m3 : max s1 s2 ≤ 15 := Int.max_le.2 ⟨s11, s21⟩
  obtain ⟨Z1, hz1⟩ : ∃ Z : Nat, max s1 s2 - s1 = Z := ⟨(max s1 s2 - s1).toNat, by omega⟩
  obtain ⟨Z2, hz2⟩ : ∃ Z : Nat, max s1 s2 - s2 = Z := ⟨(max s1 s2 - s2).toNat, by omega⟩
  obtain ⟨a, ha, oa, wa⟩ := f83q (n := n1) (s := s1) (m := Z1) a0 a1 (by omega)
  obtain ⟨b, hb, ob, wb⟩ := f83q (n := n2) (s := s2) (m := Z2) b0 b1 (by omega)
  refine ⟨a, b, ?_, oa, ob, ?_, ?_⟩
  · unfold f62F
    simp only [mxI_eq]
    rw [wi (by omega) (by omega), wi (by omega) (by omega), hz1, hz2, ha, bind_some', hb, bind_some']
  · rw [wa, amt_nat, hz1, Int.toNat_natCast]; simp
  · rw [wb, amt_nat, hz2, Int.toNat_natCast]; simp

/-- The order of numbers, and the error. -/
def cmpS (n1 s1 n2 s2 : Int) : Int × Int := if numErr n1 s1 ≠ 0 then (0, numErr n1 s1) else if numErr n2 s2 ≠ 0 then (0, numErr n2 s2) else (ordN n1 s1 n2 s2, 0)

theorem f42q2 (a b : Int) : f42F 1000 [a, b] = some (if a = 0 then b else a) := by
  have e0 : ∀ {R : Type} (Step : (List Int × Int × Int × Unit → Option R) → List Int × Int × Int × Unit → Option R) v, iterS Step 1000 v = Step (fun v => Step (fun v => Step (iterS Step 997) v) v) v := fun _ _ => rfl
  unfold f42F f42l0
  rw [e0]
  have s0 := fun rec k0 k1 => f42l0_step (R := Int) 1000 rec k0 k1 [a, b] 0 (by simp) (by simp)
  have s1 := fun rec k0 k1 => f42l0_step (R := Int) 1000 rec k0 k1 [a, b] 1 (by simp) (by simp)
  have s2 : ∀ rec k0 k1, f42l0s (R := Int) 1000 rec k0 k1 ([a, b], (([a, b].length : Nat) : Int), ((2 : Nat) : Int), ()) = k1 () := fun _ _ _ => rfl
  have z0 : ((0 : Nat) : Int) = 0 := rfl
  rw [z0] at s0
  rw [s0]
  simp only [Nat.zero_add, s1, Nat.reduceAdd, s2]
  by_cases ha : a = 0 <;> by_cases hb : b = 0 <;> simp [ha, hb]

theorem f21q (n1 s1 n2 s2 : Int) : f21F 1000 ((n1, s1), (n2, s2)) = some (cmpS n1 s1 n2 s2) := by
  unfold f21F cmpS
  simp only [f52q, f42q2, bind_some']
  by_cases h1 : numErr n1 s1 = 0
  · by_cases h2 : numErr n2 s2 = 0
    · have c1 := numErr_ok h1
      have c2 := numErr_ok h2
      obtain ⟨a, b, hab, oa, ob, wa, wb⟩ := f62q c1.1 c1.2.1 c2.1 c2.2.1 c1.2.2.1 c1.2.2.2 c2.2.2.1 c2.2.2.2
      simp only [h1, h2, ne_eq, not_true_eq_false, if_false, if_true, bne_self_eq_false, cond_false]
      rw [hab, bind_some']
      have e1 : f63F 1000 ((a.1, (a.2.1, (a.2.2.1, a.2.2.2))), (b.1, (b.2.1, (b.2.2.1, b.2.2.2)))) = some (if W a < W b then -1 else if W b < W a then 1 else 0) := f63q 1000 oa ob
      have e2 : f63F 1000 ((b.1, (b.2.1, (b.2.2.1, b.2.2.2))), (a.1, (a.2.1, (a.2.2.1, a.2.2.2)))) = some (if W b < W a then -1 else if W a < W b then 1 else 0) := f63q 1000 ob oa
      unfold f21p0 ordN
      simp only []
      have g1 := sg_long n1 (max s1 s2 - s1).toNat
      have g2 := sg_long n2 (max s1 s2 - s2).toNat
      have p1 : 0 < 10 ^ (max s1 s2 - s1).toNat := Nat.pow_pos (by decide)
      have p2 : 0 < 10 ^ (max s1 s2 - s2).toNat := Nat.pow_pos (by decide)
      have q1 : n1 < 0 → 0 < n1.natAbs * 10 ^ (max s1 s2 - s1).toNat := fun h => Nat.mul_pos (by omega) p1
      have q2 : n2 < 0 → 0 < n2.natAbs * 10 ^ (max s1 s2 - s2).toNat := fun h => Nat.mul_pos (by omega) p2
      generalize n1 * 10 ^ (max s1 s2 - s1).toNat = X at *
      generalize n2 * 10 ^ (max s1 s2 - s2).toNat = Y at *
      generalize n1.natAbs * 10 ^ (max s1 s2 - s1).toNat = x at *
      generalize n2.natAbs * 10 ^ (max s1 s2 - s2).toNat = y at *
      rw [e1, e2, wa, wb]
      subst g1
      subst g2
      unfold sg
      simp only [bind_some', decide_eq_true_eq]
      by_cases k1 : n1 < 0
      · have := q1 k1
        simp only [k1, decide_true, cond_true, if_true]
        by_cases k2 : n2 < 0
        · have := q2 k2
          simp only [k2, decide_true, cond_true, if_true]
          congr 2
          repeat' split
          all_goals omega
        · simp only [k2, decide_false, cond_false, if_false]
          congr 2
          repeat' split
          all_goals omega
      · simp only [k1, decide_false, cond_false, if_false]
        by_cases k2 : n2 < 0
        · have := q2 k2
          simp only [k2, decide_true, cond_true, if_true]
          congr 2
          repeat' split
          all_goals omega
        · simp only [k2, decide_false, cond_false, if_false]
          congr 2
          repeat' split
          all_goals omega
    · simp only [h1, h2, ne_eq, not_true_eq_false, if_false, if_true, not_false_eq_true]
      rw [bif_true (by simpa using h2)]
  · simp only [h1, ne_eq, if_false, if_true, not_false_eq_true]
    rw [bif_true (by simpa using h1)]
end Go.Proofs.YtioagofpofamiaaDoor
/-! Plain laws: zoned bytes are in the order of the values. -/
set_option linter.unusedVariables false
set_option linter.unusedSimpArgs false
namespace Go.Proofs.YtioagofpofamiaaDoor
open Go.Ab

theorem low_less (n m : Nat) : ∀ L : Nat, Op.bytesLess (((low 10 (n : Int) L).map r240).map fun x => UInt8.ofNat x.toNat) (((low 10 (m : Int) L).map r240).map fun x => UInt8.ofNat x.toNat) = decide (n % 10 ^ L < m % 10 ^ L)
  | 0 => by simp [low, Op.bytesLess, Nat.mod_one]
  | L + 1 => by
    have ih := low_less n m L
    simp only [low, List.map_cons, Op.bytesLess, ih]
    have qa := Nat.mod_pow_succ (x := n) (b := 10) (k := L)
    have qb := Nat.mod_pow_succ (x := m) (b := 10) (k := L)
    have la : n % 10 ^ L < 10 ^ L := Nat.mod_lt _ (Nat.pow_pos (by decide))
    have lb : m % 10 ^ L < 10 ^ L := Nat.mod_lt _ (Nat.pow_pos (by decide))
    have hx : n / 10 ^ L % 10 < 10 := Nat.mod_lt _ (by decide)
    have hy : m / 10 ^ L % 10 < 10 := Nat.mod_lt _ (by decide)
    have ea : (n : Int) / 10 ^ L % 10 = ((n / 10 ^ L % 10 : Nat) : Int) := by simp
    have eb : (m : Int) / 10 ^ L % 10 = ((m / 10 ^ L % 10 : Nat) : Int) := by simp
    rw [ea, eb, qa, qb]
    generalize n / 10 ^ L % 10 = x at *
    generalize m / 10 ^ L % 10 = y at *
    generalize n % 10 ^ L = p at *
    generalize m % 10 ^ L = q at *
    generalize 10 ^ L = t at *
    have r : ∀ z : Nat, z < 10 → UInt8.ofNat (r240 (z : Int)).toNat = UInt8.ofNat (240 + z) := fun z hz => by
      unfold r240
      rw [wi (by omega) (by omega), wu8 (by omega) (by omega), show ((240 : Int) + z).toNat = 240 + z by omega]
    rw [r x hx, r y hy]
    have lt : (UInt8.ofNat (240 + x) < UInt8.ofNat (240 + y)) = (x < y) := by
      rw [UInt8.lt_iff_toNat_lt, UInt8.toNat_ofNat', UInt8.toNat_ofNat']
      apply propext; omega
    have eq : (UInt8.ofNat (240 + x) == UInt8.ofNat (240 + y)) = decide (x = y) := by
      by_cases h : x = y
      · subst h; simp
      · rw [decide_eq_false h, beq_eq_false_iff_ne]
        intro c
        have := congrArg UInt8.toNat c
        rw [UInt8.toNat_ofNat', UInt8.toNat_ofNat'] at this
        omega
    simp only [lt, eq]
    rcases Nat.lt_trichotomy x y with h | h | h
    · have m1 : t * (x + 1) ≤ t * y := Nat.mul_le_mul_left t h
      rw [Nat.mul_add] at m1
      rw [decide_eq_true h, decide_eq_true (p := p + t * x < q + t * y) (by omega)]
      rfl
    · subst h
      simp
    · have m1 : t * (y + 1) ≤ t * x := Nat.mul_le_mul_left t h
      rw [Nat.mul_add] at m1
      rw [decide_eq_false (p := x < y) (by omega), decide_eq_false (p := x = y) (by omega), decide_eq_false (p := p + t * x < q + t * y) (by omega)]
      rfl

theorem zonedA {ln sc n : Int} {s : ByteArray} (h0 : 1 ≤ ln) (h1 : ln ≤ 15) (n0 : 0 ≤ n) (n1 : n ≤ 1000000000000000) : f40F 1000 ((2, ln, sc), n, s) = some (strOfNums ((low 10 n ln.toNat).map r240)) := by
  obtain ⟨L, rfl⟩ : ∃ L : Nat, ln = L := ⟨ln.toNat, by omega⟩
  have hm : mxI n (IntKind.i64.wrap (0 - n)) = n := by
    have := mx_abs (n := n) (by omega) n1
    rw [this, if_neg (by omega)]
  have hL : L ≤ 900 := by omega
  have hd : ∀ d ∈ low 10 n L, 0 ≤ d ∧ d < 10 := fun d h => low_mem (by decide) h
  have hlen : (low 10 n L).length = L := low_length _ _ _
  unfold f40F
  simp only [hm, f75q n0 (by omega) hL, bind_some']
  have e : ((2 : Int) == 2) = true := rfl
  rw [e, cond_true, f40l0q _ _ _ _ (by omega), f40p1q _ _ _ _ (by simp; omega) (by simp; omega), if_neg (by omega), zoned_eq hd]
  rfl

theorem ordN_le {n1 s1 n2 s2 : Int} (h : ordN n1 s1 n2 s2 ≤ 0) : n1 * 10 ^ (max s1 s2 - s1).toNat ≤ n2 * 10 ^ (max s1 s2 - s2).toNat := by
  unfold ordN at h
  split at h
  · omega
  · split at h
    · omega
    · omega
theorem ordN_ge {n1 s1 n2 s2 : Int} (h : 0 ≤ ordN n1 s1 n2 s2) : n2 * 10 ^ (max s1 s2 - s2).toNat ≤ n1 * 10 ^ (max s1 s2 - s1).toNat := by
  unfold ordN at h
  split at h
  · omega
  · split at h
    · omega
    · omega

theorem conv_mono {n1 s1 n2 s2 kd ln sc : Int} {half : Bool} (h1 : (convS n1 s1 kd ln sc half).2 = 0) (h2 : (convS n2 s2 kd ln sc half).2 = 0)
    (h : n1 * 10 ^ (max s1 s2 - s1).toNat ≤ n2 * 10 ^ (max s1 s2 - s2).toNat) : (convS n1 s1 kd ln sc half).1.1 ≤ (convS n2 s2 kd ln sc half).1.1 := by
  obtain ⟨a1, a2, a3, a4, a5⟩ := convS_fact h1
  obtain ⟨b1, b2, b3, b4, b5⟩ := convS_fact h2
  have c1 := numErr_ok a1
  have c2 := numErr_ok b1
  rw [a5, b5]
  obtain ⟨S1, rfl⟩ : ∃ S : Nat, s1 = S := ⟨s1.toNat, by omega⟩
  obtain ⟨S2, rfl⟩ : ∃ S : Nat, s2 = S := ⟨s2.toNat, by omega⟩
  have m1 : S1 ≤ max S1 S2 := Nat.le_max_left ..
  have m2 : S2 ≤ max S1 S2 := Nat.le_max_right ..
  have e : max (S1 : Int) (S2 : Int) = ((max S1 S2 : Nat) : Int) := by omega
  rw [e] at h
  refine put_mono (m := max S1 S2) (by simpa using m1) (by simpa using m2) ?_
  rw [sg_long, sg_long]
  simp only [Int.toNat_natCast]
  rw [show (((max S1 S2 : Nat) : Int) - S1).toNat = max S1 S2 - S1 by omega, show (((max S1 S2 : Nat) : Int) - S2).toNat = max S1 S2 - S2 by omega] at h
  exact h

theorem f14z {ln sc : Int} {L : Nat} (w : Nat) (hln : ln = L) (h0 : 1 ≤ ln) (h1 : ln ≤ 15) (ht : tyErr 2 ln sc = 0) (hw : w < 10 ^ L) :
    f14F 1000 ((2, (ln, sc)), ((w : Int), ByteArray.empty)) = some (strOfNums ((low 10 (w : Int) L).map r240), 0) := by
  have hp : 10 ^ L ≤ 10 ^ 15 := Nat.pow_le_pow_right (by decide) (by omega)
  have hv : valErr 2 ln sc w ByteArray.empty = 0 := by
    unfold valErr
    have hpw : pw ln = ((10 ^ L : Nat) : Int) := by unfold pw; rw [hln, Int.toNat_natCast]; simp
    rw [if_neg (by simp [ht]), if_neg (by decide), if_neg (by decide), if_neg (by simp [strEq_self]), if_neg]
    rw [hpw]; omega
  unfold f14F
  simp only [f29q, hv, bind_some', bne_self_eq_false, cond_false]
  rw [zonedA h0 h1 (by omega) (by omega), bind_some', hln, Int.toNat_natCast]

end Go.Proofs.YtioagofpofamiaaDoor
