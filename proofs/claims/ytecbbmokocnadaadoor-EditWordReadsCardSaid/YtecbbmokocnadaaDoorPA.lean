/- Plain laws: loops, wrapping, digits. -/
import Derived.Test.YtecbbmokocnadaaDoorAB
import Derived.Laws.Strings
import Derived.Test.YtecbbmokocnadaaDoorFaJ
import Derived.Lib.ItoaNum
import Derived.Test.YtecbbmokocnadaaDoorFbJ
/-! Plain laws: loops, wrapping, digits. -/
set_option linter.unusedVariables false
set_option linter.unusedSimpArgs false
namespace Go.Ab

theorem wi {x : Int} (h0 : -9223372036854775808 ≤ x) (h1 : x ≤ 9223372036854775807) : IntKind.i64.wrap x = x := by
  rw [IntKind.wrap_i64]; omega
theorem wu8e (x : Int) : IntKind.u8.wrap x = x % 256 := by
  simp [IntKind.wrap, IntKind.signed, IntKind.bits]
theorem wu8 {x : Int} (h0 : 0 ≤ x) (h1 : x ≤ 255) : IntKind.u8.wrap x = x := by
  rw [wu8e]; omega

theorem bind_some' {α β : Type} (a : α) (f : α → Option β) : Option.bind (some a) f = f a := rfl
theorem bif_true {α : Type} {c : Bool} (h : c = true) (a b : α) : (bif c then a else b) = a := by rw [h]; rfl
theorem bif_false {α : Type} {c : Bool} (h : c = false) (a b : α) : (bif c then a else b) = b := by rw [h]; rfl
theorem strEq_self (x : ByteArray) : strEq x x = true := by simp [strEq]
theorem strEq_iff {x y : ByteArray} : strEq x y = true ↔ x = y := by
  constructor
  · intro h
    simp only [strEq, beq_iff_eq] at h
    have h2 : x.data.toList = y.data.toList := by
      have e : ∀ z : ByteArray, z.toList = z.data.toList := fun z => ByteArray.toList_eq z
      rw [← e, ← e, h]
    cases x; cases y
    simp only at h2
    congr
    exact Array.ext' h2
  · rintro rfl
    exact strEq_self x

/-- A loop whose states are told. -/
theorem iter_for {V R : Type} {Step : (V → Option R) → V → Option R} (st : Nat → V) (n : Nat) {fin : Option R} (hstep : ∀ rec i, i < n → Step rec (st i) = rec (st (i + 1))) (hend : ∀ rec, Step rec (st n) = fin) :
    ∀ {k : Nat}, n < k → iterS Step k (st 0) = fin := by
  have : ∀ (d i k : Nat), i + d = n → d < k → iterS Step k (st i) = fin := by
    intro d
    induction d with
    | zero =>
      intro i k hi hk
      cases k with
      | zero => omega
      | succ k =>
        have : i = n := by omega
        subst this
        exact hend _
    | succ d ih =>
      intro i k hi hk
      cases k with
      | zero => omega
      | succ k =>
        show Step (iterS Step k) (st i) = fin
        rw [hstep _ i (by omega)]
        exact ih (i + 1) k (by omega) (by omega)
  intro k hk
  exact this n 0 k (by omega) hk

/-- The lowest digits of a number, the highest of them first. -/
def low (b n : Int) : Nat → List Int
  | 0 => []
  | i + 1 => (n / b ^ i % b) :: low b n i
theorem low_length (b n : Int) : ∀ i, (low b n i).length = i
  | 0 => rfl
  | i + 1 => by simp [low, low_length b n i]
theorem low_mem {b n : Int} (hb : 0 < b) : ∀ {i : Nat} {d : Int}, d ∈ low b n i → 0 ≤ d ∧ d < b
  | 0, _, h => by simp [low] at h
  | i + 1, d, h => by
    simp only [low, List.mem_cons] at h
    rcases h with rfl | h
    · exact ⟨Int.emod_nonneg _ (by omega), Int.emod_lt_of_pos _ hb⟩
    · exact low_mem hb h
theorem set_zeros {L i : Nat} (hi : i < L) (l : List Int) (d : Int) : (List.replicate (L - i) 0 ++ l).set (L - 1 - i) d = List.replicate (L - (i + 1)) 0 ++ d :: l := by
  have e : L - i = (L - 1 - i) + 1 := by omega
  rw [e, List.replicate_succ', List.append_assoc, List.set_append_right _ _ (by simp)]
  simp only [List.length_replicate, Nat.sub_self, List.cons_append, List.nil_append, List.set_cons_zero]
  rw [show L - (i + 1) = L - 1 - i by omega]

theorem getD_take_map (g : Int → Int) (l : List Int) (i : Nat) : ((l.take i).map g ++ l.drop i).getD i 0 = l.getD i 0 := by
  by_cases h : i < l.length
  · rw [List.getD_eq_getElem?_getD, List.getElem?_append_right (by simp; omega)]
    simp [List.length_take, Nat.min_eq_left (Nat.le_of_lt h), List.getD_eq_getElem?_getD]
  · rw [List.getD_eq_getElem?_getD, List.getD_eq_getElem?_getD, List.getElem?_eq_none (by simp; omega), List.getElem?_eq_none (by omega)]
theorem set_take_map (g : Int → Int) {l : List Int} {i : Nat} (h : i < l.length) : ((l.take i).map g ++ l.drop i).set i (g (l.getD i 0)) = (l.take (i + 1)).map g ++ l.drop (i + 1) := by
  rw [List.set_append_right _ _ (by simp; omega)]
  have e : i - ((l.take i).map g).length = 0 := by simp; omega
  rw [e, List.drop_eq_getElem_cons h, List.set_cons_zero, List.take_succ_eq_append_getElem h, List.map_append, List.append_assoc]
  simp [List.getD_eq_getElem?_getD, List.getElem?_eq_getElem h]
theorem set_take_zero (g : Nat → Int) {n i : Nat} (h : i < n) : (((List.range i).map g) ++ List.replicate (n - i) 0).set i (g i) = ((List.range (i + 1)).map g) ++ List.replicate (n - (i + 1)) 0 := by
  rw [List.set_append_right _ _ (by simp)]
  have e : i - ((List.range i).map g).length = 0 := by simp
  rw [e, show n - i = (n - (i + 1)) + 1 by omega, List.replicate_succ, List.set_cons_zero, List.range_succ, List.map_append, List.append_assoc]
  rfl
theorem map_getD_range (g : Int → Int) (l : List Int) : (List.range l.length).map (fun i => g (l.getD i 0)) = l.map g := by
  apply List.ext_getElem
  · simp
  · intro i h1 h2
    simp at h1
    simp [List.getD_eq_getElem?_getD, List.getElem?_eq_getElem h1]
end Go.Ab
/-! Plain laws: types and values checked. -/
set_option linter.unusedVariables false
set_option linter.unusedSimpArgs false
namespace Go.Proofs.YtecbbmokocnadaaDoor
open Go.Ab

theorem f70q (k : Nat) (n lo hi : Int) : f70F k (n, lo, hi) = some (decide (lo ≤ n ∧ n ≤ hi)) := by
  unfold f70F
  by_cases h : lo ≤ n <;> simp [h]
theorem f48q (k : Nat) (n lo hi : Int) : f48F k (n, lo, hi) = some (decide (lo ≤ n ∧ n ≤ hi)) := by
  unfold f48F
  by_cases h : lo ≤ n <;> simp [h]
theorem f43q (k : Nat) (b : Bool) (e : Int) : f43F k (b, e) = some (if b = true then e else 0) := by
  unfold f43F
  cases b <;> rfl
theorem f69q (k : Nat) (b : Bool) : f69F k b = some (if b = true then 1 else 0) := by
  unfold f69F
  cases b <;> rfl
theorem f68q (k : Nat) (n : Int) : f68F k n = some (decide (1 ≤ n ∧ n ≤ 3)) := by
  unfold f68F
  rw [f48q]
  rfl
theorem f42l0_step {R : Type} (k : Nat) (rec : List Int × Int × Int × Unit → Option R) (k0 : Int × Unit → Option R) (k1 : Unit → Option R) (l : List Int) (i : Nat) (hl : l.length < 1000) (hi : i < l.length) :
    f42l0s k rec k0 k1 (l, (l.length : Int), (i : Int), ()) = if l.getD i 0 = 0 then rec (l, (l.length : Int), ((i + 1 : Nat) : Int), ()) else k0 (l.getD i 0, ()) := by
  unfold f42l0s
  have h1 : (i : Int) < (l.length : Int) := by omega
  simp only [h1, decide_true, cond_true, Int.natCast_nonneg, Bool.and_self, Int.toNat_natCast, wi (x := (i : Int) + 1) (by omega) (by omega)]
  by_cases h : l.getD i 0 = 0
  · rw [if_pos h, h]; rfl
  · rw [if_neg h]
    have : (l.getD i 0 != 0) = true := by simpa using h
    rw [this]
    rfl
theorem f42q (a b : Int) : f42F 1000 [a, b] = some (if a = 0 then b else a) := by
  have e0 : ∀ {R : Type} (Step : (List Int × Int × Int × Unit → Option R) → List Int × Int × Int × Unit → Option R) v, iterS Step 1000 v = Step (fun v => Step (fun v => Step (iterS Step 997) v) v) v := fun _ _ => rfl
  unfold f42F f42l0
  rw [e0]
  have s0 := fun rec k0 k1 => f42l0_step (R := Int) 1000 rec k0 k1 [a, b] 0 (by simp) (by simp)
  have s1 := fun rec k0 k1 => f42l0_step (R := Int) 1000 rec k0 k1 [a, b] 1 (by simp) (by simp)
  have s2 : ∀ rec k0 k1, f42l0s (R := Int) 1000 rec k0 k1 ([a, b], (([a, b].length : Nat) : Int), ((2 : Nat) : Int), ()) = k1 () := fun _ _ _ => rfl
  have z0 : ((0 : Nat) : Int) = 0 := rfl
  rw [z0] at s0
  rw [s0]
  simp only [Nat.zero_add, s1, Nat.reduceAdd, s2]
  by_cases ha : a = 0 <;> by_cases hb : b = 0 <;> simp [ha, hb]

/-- The error of a type. -/
def tyErr (kd ln sc : Int) : Int :=
  if ¬ (0 ≤ kd ∧ kd ≤ 4) then 4
  else if ¬ (if kd = 0 then 1 ≤ ln ∧ ln ≤ 256 else if kd = 1 ∨ kd = 2 then 1 ≤ ln ∧ ln ≤ 15 else if kd = 3 then ln = 4 ∨ ln = 9 else ln = 0) then 18
  else if ¬ (0 ≤ sc ∧ sc ≤ (if kd = 0 ∨ kd = 4 then 0 else ln)) then 3
  else 0

theorem f28q (kd ln sc : Int) : f28F 1000 (kd, ln, sc) = some (tyErr kd ln sc) := by
  unfold f28F f28p1 f28p0 tyErr
  simp only [f70q, f43q, f42q, bind_some']
  by_cases h0 : kd = 0
  · subst h0
    simp [cond_eq_ite]
    repeat' split
    all_goals first | rfl | omega
  by_cases h1 : kd = 1
  · subst h1
    simp [cond_eq_ite]
    repeat' split
    all_goals first | rfl | omega
  by_cases h2 : kd = 2
  · subst h2
    simp [cond_eq_ite]
    repeat' split
    all_goals first | rfl | omega
  by_cases h3 : kd = 3
  · subst h3
    simp [cond_eq_ite]
    repeat' split
    all_goals first | rfl | omega
  by_cases h4 : kd = 4
  · subst h4
    simp [cond_eq_ite]
    repeat' split
    all_goals first | rfl | omega
  · have : ¬ (0 ≤ kd ∧ kd ≤ 4) := by omega
    simp [cond_eq_ite, h0, h1, h2, h3, h4, this]

theorem f27q (kd ln sc : Int) : f27F 1000 (kd, ln, sc) = some (tyErr kd ln sc) := by
  unfold f27F f27p1 f27p0 f27p2 tyErr
  simp only [f48q, f68q, f69q, bind_some']
  have w0 : IntKind.i64.wrap (3 * 0) = 0 := rfl
  have w1 : IntKind.i64.wrap (3 * 1) = 3 := rfl
  by_cases h0 : kd = 0
  · subst h0
    simp [cond_eq_ite]
    repeat' split
    all_goals first | rfl | omega
  by_cases h1 : kd = 1
  · subst h1
    simp [cond_eq_ite]
    repeat' split
    all_goals first | rfl | omega
  by_cases h2 : kd = 2
  · subst h2
    simp [cond_eq_ite]
    repeat' split
    all_goals first | rfl | omega
  by_cases h3 : kd = 3
  · subst h3
    simp [cond_eq_ite]
    repeat' split
    all_goals first | rfl | omega
  by_cases h4 : kd = 4
  · subst h4
    simp [cond_eq_ite]
    repeat' split
    all_goals first | rfl | omega
  · have : ¬ (0 ≤ kd ∧ kd ≤ 4) := by omega
    simp [cond_eq_ite, h0, h1, h2, h3, h4, this]
end Go.Proofs.YtecbbmokocnadaaDoor
/-! Plain laws: values checked. -/
set_option linter.unusedVariables false
set_option linter.unusedSimpArgs false
namespace Go.Proofs.YtecbbmokocnadaaDoor
open Go.Ab

def pw (n : Int) : Int := 10 ^ n.toNat
theorem upto15 {n : Int} (h0 : 1 ≤ n) (h1 : n ≤ 15) : n = 1 ∨ n = 2 ∨ n = 3 ∨ n = 4 ∨ n = 5 ∨ n = 6 ∨ n = 7 ∨ n = 8 ∨ n = 9 ∨ n = 10 ∨ n = 11 ∨ n = 12 ∨ n = 13 ∨ n = 14 ∨ n = 15 := by omega
theorem pw_bound {n : Int} (h0 : 1 ≤ n) (h1 : n ≤ 15) : 10 ≤ pw n ∧ pw n ≤ 1000000000000000 := by
  rcases upto15 h0 h1 with rfl | rfl | rfl | rfl | rfl | rfl | rfl | rfl | rfl | rfl | rfl | rfl | rfl | rfl | rfl <;> decide
theorem f71q {n : Int} (h0 : 1 ≤ n) (h1 : n ≤ 15) : f71F 1000 n = some (pw n) := by
  rcases upto15 h0 h1 with rfl | rfl | rfl | rfl | rfl | rfl | rfl | rfl | rfl | rfl | rfl | rfl | rfl | rfl | rfl <;> kernel_rfl
theorem f81q {n : Int} (h0 : 1 ≤ n) (h1 : n ≤ 15) : f81F 1000 n = some (pw n) := by
  rcases upto15 h0 h1 with rfl | rfl | rfl | rfl | rfl | rfl | rfl | rfl | rfl | rfl | rfl | rfl | rfl | rfl | rfl <;> kernel_rfl
theorem f49q {kd n sc : Int} (h0 : 1 ≤ n) (h1 : n ≤ 15) : f49F 1000 (kd, n, sc) = some (pw n - 1) := by
  unfold f49F
  rw [f81q h0 h1]
  have := pw_bound h0 h1
  show some (IntKind.i64.wrap (pw n - 1)) = _
  rw [wi (by omega) (by omega)]

/-- The error of a value. -/
def valErr (kd ln sc n : Int) (s : ByteArray) : Int :=
  if tyErr kd ln sc ≠ 0 then tyErr kd ln sc
  else if kd = 4 then 17
  else if kd = 0 then (if n ≠ 0 then 5 else if (s.size : Int) ≠ ln then 18 else 0)
  else if strEq s ByteArray.empty = false then 5
  else if ¬ (-(pw ln - 1) ≤ n ∧ n ≤ pw ln - 1) then 19
  else 0

theorem ty_ok {kd ln sc : Int} (h : tyErr kd ln sc = 0) : 0 ≤ kd ∧ kd ≤ 4 ∧ (kd = 0 → 1 ≤ ln ∧ ln ≤ 256) ∧ (1 ≤ kd ∧ kd ≤ 3 → 1 ≤ ln ∧ ln ≤ 15) ∧ (kd = 3 → ln = 4 ∨ ln = 9) ∧ (kd = 4 → ln = 0) ∧ 0 ≤ sc ∧ (kd = 0 ∨ kd = 4 → sc = 0) ∧ (1 ≤ kd ∧ kd ≤ 3 → sc ≤ ln) := by
  unfold tyErr at h
  repeat' split at h
  all_goals omega

theorem f29q (kd ln sc n : Int) (s : ByteArray) : f29F 1000 ((kd, ln, sc), n, s) = some (valErr kd ln sc n s) := by
  unfold f29F valErr
  simp only [f28q, f43q, f42q, bind_some']
  by_cases ht : tyErr kd ln sc = 0
  · obtain ⟨a1, a2, a3, a4, a5, a6, a7, a8, a9⟩ := ty_ok ht
    rw [ht]
    by_cases h4 : kd = 4
    · subst h4
      simp [cond_eq_ite]
    by_cases h0 : kd = 0
    · subst h0
      simp [cond_eq_ite]
      repeat' split
      all_goals first | rfl | omega
    · have hl := a4 (by omega)
      have hb := pw_bound hl.1 hl.2
      rw [f71q hl.1 hl.2]
      simp only [bind_some', f70q]
      rw [wi (x := pw ln - 1) (by omega) (by omega), wi (x := 0 - (pw ln - 1)) (by omega) (by omega)]
      simp [cond_eq_ite, h4, h0]
      cases strEq s ByteArray.empty
      · simp
      · simp
        repeat' split
        all_goals first | rfl | omega
  · have hn : (tyErr kd ln sc != 0) = true := by simpa using ht
    simp [ht, cond_eq_ite]

theorem f30q (kd ln sc n : Int) (s : ByteArray) : f30F 1000 ((kd, ln, sc), n, s) = some (valErr kd ln sc n s) := by
  unfold f30F f30p0 valErr
  simp only [f27q, f69q, bind_some']
  by_cases ht : tyErr kd ln sc = 0
  · obtain ⟨a1, a2, a3, a4, a5, a6, a7, a8, a9⟩ := ty_ok ht
    rw [ht]
    have w0 : IntKind.i64.wrap (18 * 0) = 0 := rfl
    have w1 : IntKind.i64.wrap (18 * 1) = 18 := rfl
    have w2 : IntKind.i64.wrap (19 * 0) = 0 := rfl
    have w3 : IntKind.i64.wrap (19 * 1) = 19 := rfl
    by_cases h4 : kd = 4
    · subst h4
      simp [cond_eq_ite]
    by_cases h0 : kd = 0
    · subst h0
      simp [cond_eq_ite]
      repeat' split
      all_goals first | rfl | omega
    · have hl := a4 (by omega)
      have hb := pw_bound hl.1 hl.2
      rw [f49q hl.1 hl.2]
      simp only [bind_some', f48q]
      rw [wi (x := 0 - (pw ln - 1)) (by omega) (by omega)]
      simp [cond_eq_ite, h4, h0]
      cases strEq s ByteArray.empty
      · simp
      · simp
        repeat' split
        all_goals first | rfl | omega
  · simp [ht, cond_eq_ite]
end Go.Proofs.YtecbbmokocnadaaDoor
/-! Plain laws: strings as lists of bytes; texts of numbers. -/
set_option linter.unusedVariables false
set_option linter.unusedSimpArgs false
namespace Go.Ab

/-- A string of some bytes. -/
def S (l : List UInt8) : ByteArray := ⟨l.toArray⟩
theorem S_list (l : List UInt8) : (S l).data.toList = l := by simp [S]
theorem S_of (s : ByteArray) : S s.data.toList = s := by cases s; simp [S]
theorem S_ext {a b : ByteArray} (h : a.data.toList = b.data.toList) : a = b := by rw [← S_of a, ← S_of b, h]
theorem S_inj {l m : List UInt8} : S l = S m ↔ l = m := ⟨fun h => by rw [← S_list l, ← S_list m, h], fun h => by rw [h]⟩
theorem S_size (l : List UInt8) : (S l).size = l.length := by simp [S, ByteArray.size]
theorem S_app (l m : List UInt8) : S l ++ S m = S (l ++ m) := S_ext (by simp [S_list])
theorem S_cut (l : List UInt8) (i j : Nat) : (S l).extract i j = S ((l.take j).drop i) := S_ext (by
  rw [S_list]
  simp [S, List.extract_eq_take_drop, List.drop_take])
theorem S_nums (xs : List Int) : strOfNums xs = S (xs.map fun n => UInt8.ofNat n.toNat) := rfl
theorem S_bt (l : List UInt8) (i : Nat) (h : i < l.length) : bt (S l) (i : Int) = ((l.getD i 0).toNat : Int) := by
  unfold bt
  rw [dif_pos (by rw [S_size]; simpa using h)]
  simp [S, List.getD_eq_getElem?_getD, h]
  rfl
theorem S_eq (l m : List UInt8) : strEq (S l) (S m) = decide (l = m) := by
  by_cases h : l = m
  · subst h; rw [strEq_self]; simp
  · rw [decide_eq_false h]
    cases e : strEq (S l) (S m) with
    | false => rfl
    | true => exact absurd (S_inj.1 (strEq_iff.1 e)) h
theorem S_bytes (l : List UInt8) : bytesOf (S l) = l.map fun b => (b.toNat : Int) := by
  unfold bytesOf
  rw [S_list]

/-! ### Whole digits, with commas -/
def wV (c : Bool) : Bool → List UInt8 → List UInt8
  | _, [] => []
  | first, d :: m => (if (c && !first && (m.length + 1) % 3 == 0) = true then [44] else []) ++ d :: wV c false m
/-- One of the digits 1 to 9. -/
def nzB (b : UInt8) : Bool := [49, 50, 51, 52, 53, 54, 55, 56, 57].contains b
/-- Blanks up to the first of the digits 1 to 9, or up to the last byte. -/
def supL (kl : Bool) : List UInt8 → List UInt8
  | [] => []
  | x :: v => if (nzB x || (kl && v.isEmpty)) = true then x :: v else 32 :: supL kl v
def wR (c kl : Bool) : Bool → Bool → List UInt8 → List UInt8
  | _, _, [] => []
  | first, cnt, d :: m => (if (c && !first && (m.length + 1) % 3 == 0) = true then [if cnt = true then 44 else 32] else []) ++
      (if (cnt || d != 48 || (kl && m.isEmpty)) = true then d else 32) :: wR c kl false (cnt || d != 48 || (kl && m.isEmpty)) m

def dig (b : UInt8) : Prop := 48 ≤ b.toNat ∧ b.toNat ≤ 57
theorem dig_all {b : UInt8} (h : dig b) : b = 48 ∨ b = 49 ∨ b = 50 ∨ b = 51 ∨ b = 52 ∨ b = 53 ∨ b = 54 ∨ b = 55 ∨ b = 56 ∨ b = 57 := by
  obtain ⟨h0, h1⟩ := h
  have : b.toNat = 48 ∨ b.toNat = 49 ∨ b.toNat = 50 ∨ b.toNat = 51 ∨ b.toNat = 52 ∨ b.toNat = 53 ∨ b.toNat = 54 ∨ b.toNat = 55 ∨ b.toNat = 56 ∨ b.toNat = 57 := by omega
  rcases this with h | h | h | h | h | h | h | h | h | h
  · exact .inl (UInt8.toNat_inj.1 h)
  · exact .inr (.inl (UInt8.toNat_inj.1 h))
  · exact .inr (.inr (.inl (UInt8.toNat_inj.1 h)))
  · exact .inr (.inr (.inr (.inl (UInt8.toNat_inj.1 h))))
  · exact .inr (.inr (.inr (.inr (.inl (UInt8.toNat_inj.1 h)))))
  · exact .inr (.inr (.inr (.inr (.inr (.inl (UInt8.toNat_inj.1 h))))))
  · exact .inr (.inr (.inr (.inr (.inr (.inr (.inl (UInt8.toNat_inj.1 h)))))))
  · exact .inr (.inr (.inr (.inr (.inr (.inr (.inr (.inl (UInt8.toNat_inj.1 h))))))))
  · exact .inr (.inr (.inr (.inr (.inr (.inr (.inr (.inr (.inl (UInt8.toNat_inj.1 h)))))))))
  · exact .inr (.inr (.inr (.inr (.inr (.inr (.inr (.inr (.inr (UInt8.toNat_inj.1 h)))))))))
theorem nz_dig {b : UInt8} (h : dig b) : nzB b = (b != 48) := by
  rcases dig_all h with rfl | rfl | rfl | rfl | rfl | rfl | rfl | rfl | rfl | rfl <;> decide

theorem wR_true {c kl : Bool} : ∀ {m : List UInt8} {first : Bool}, wR c kl first true m = wV c first m
  | [], _ => rfl
  | d :: m, first => by
    simp only [wR, wV, Bool.true_or, if_true, wR_true (m := m)]
theorem wV_empty {c first : Bool} {m : List UInt8} : (wV c first m).isEmpty = m.isEmpty := by
  cases m with
  | nil => rfl
  | cons d m => simp [wV]
theorem sup_wV {c kl : Bool} : ∀ {m : List UInt8} {first : Bool}, (∀ d ∈ m, dig d) → supL kl (wV c first m) = wR c kl first false m
  | [], _, _ => rfl
  | d :: m, first, h => by
    have hd := nz_dig (h d (by simp))
    have ih := sup_wV (c := c) (kl := kl) (m := m) (first := false) fun x hx => h x (by simp [hx])
    have core : supL kl (d :: wV c false m) = (if (d != 48 || (kl && m.isEmpty)) = true then d else 32) :: wR c kl false (d != 48 || (kl && m.isEmpty)) m := by
      simp only [supL, hd, wV_empty]
      by_cases hc : (d != 48 || (kl && m.isEmpty)) = true
      · rw [if_pos hc, if_pos hc, hc, wR_true]
      · rw [if_neg hc, if_neg hc, ih]
        rw [show (d != 48 || (kl && m.isEmpty)) = false by simpa using hc]
    simp only [wV, wR, Bool.false_or]
    by_cases hc : (c && !first && (m.length + 1) % 3 == 0) = true
    · rw [if_pos hc, if_pos hc]
      simp only [List.cons_append, List.nil_append]
      have : supL kl (44 :: (d :: wV c false m)) = 32 :: supL kl (d :: wV c false m) := by
        simp [supL, nzB]
      rw [this, core]
      simp
    · rw [if_neg hc, if_neg hc]
      simp only [List.nil_append]
      exact core

theorem wV_length {c : Bool} : ∀ {m : List UInt8} {first : Bool}, (wV c first m).length ≤ 2 * m.length
  | [], _ => by simp [wV]
  | d :: m, first => by
    have := wV_length (c := c) (m := m) (first := false)
    simp only [wV, List.length_append, List.length_cons]
    split <;> simp <;> omega
theorem wV_false : ∀ {m : List UInt8} {first : Bool}, wV false first m = m
  | [], _ => rfl
  | d :: m, first => by simp [wV, wV_false (m := m)]
theorem supL_length {kl : Bool} : ∀ (v : List UInt8), (supL kl v).length = v.length
  | [] => rfl
  | x :: v => by
    simp only [supL]
    split
    · rfl
    · simp [supL_length v]
/-- Small bytes. -/
def asc (l : List UInt8) : Prop := ∀ b ∈ l, b.toNat < 128
theorem asc_dig {m : List UInt8} (h : ∀ d ∈ m, dig d) : asc m := fun b hb => by have := h b hb; unfold dig at this; omega
theorem wV_asc {c : Bool} : ∀ {m : List UInt8} {first : Bool}, asc m → asc (wV c first m)
  | [], _, h => h
  | d :: m, first, h => by
    have ih := wV_asc (c := c) (m := m) (first := false) fun x hx => h x (by simp [hx])
    intro b hb
    simp only [wV, List.mem_append, List.mem_cons] at hb
    rcases hb with hb | rfl | hb
    · split at hb
      · simp at hb; subst hb; decide
      · simp at hb
    · exact h b (by simp)
    · exact ih b hb

/-- Where the first byte of some kind stands; blanks before it. -/
theorem sup_find : ∀ (v : List UInt8), List.replicate (v.findIdx nzB) 32 ++ v.drop (v.findIdx nzB) = supL false v
  | [] => rfl
  | x :: v => by
    simp only [supL, Bool.false_and, Bool.or_false, List.findIdx_cons]
    cases h : nzB x with
    | true => simp
    | false =>
      simp only [cond_false, List.replicate_succ, List.cons_append, List.drop_succ_cons, Bool.false_eq_true, if_false]
      rw [sup_find v]
theorem sup_find_last : ∀ (v : List UInt8), v ≠ [] → List.replicate (min (v.findIdx nzB) (v.length - 1)) 32 ++ v.drop (min (v.findIdx nzB) (v.length - 1)) = supL true v
  | [], h => absurd rfl h
  | x :: v, _ => by
    simp only [supL, Bool.true_and, List.findIdx_cons, List.length_cons, Nat.add_sub_cancel]
    cases h : nzB x with
    | true => simp
    | false =>
      cases v with
      | nil => simp
      | cons y v =>
        have ih := sup_find_last (y :: v) (by simp)
        simp only [cond_false, Bool.false_or, List.isEmpty_cons, Bool.false_eq_true, if_false, List.length_cons]
        have e : min (List.findIdx nzB (y :: v) + 1) (v.length + 1) = min (List.findIdx nzB (y :: v)) v.length + 1 := by omega
        rw [e, List.replicate_succ, List.drop_succ_cons, List.cons_append]
        simp only [List.length_cons, Nat.add_sub_cancel] at ih
        rw [ih]
theorem indexAny_find : ∀ (v : List UInt8), Lib.indexAny v [49, 50, 51, 52, 53, 54, 55, 56, 57] = if v.findIdx nzB < v.length then ((v.findIdx nzB : Nat) : Int) else -1
  | [] => rfl
  | x :: v => by
    have ih := indexAny_find v
    simp only [Lib.indexAny, List.findIdx_cons, List.length_cons]
    have e : ([49, 50, 51, 52, 53, 54, 55, 56, 57] : List UInt8).contains x = nzB x := rfl
    rw [e]
    cases h : nzB x with
    | true => simp
    | false =>
      simp only [Bool.false_eq_true, if_false, cond_false]
      rw [ih]
      by_cases hc : v.findIdx nzB < v.length
      · have e1 : v.findIdx nzB + 1 < v.length + 1 := by omega
        simp only [if_pos hc, if_pos e1]
        rw [if_neg (by simp; try omega)]
        omega
      · have e1 : ¬ v.findIdx nzB + 1 < v.length + 1 := by omega
        simp only [if_neg hc, if_neg e1]
        rfl

/-! ### Signs and stars -/
/-- What stands behind leading blanks. -/
def rsL (s : List UInt8) : List UInt8 := s.dropWhile (· == 32)
def blN (s : List UInt8) : Nat := (s.takeWhile (· == 32)).length
theorem bl_rs : ∀ (s : List UInt8), s = List.replicate (blN s) 32 ++ rsL s
  | [] => rfl
  | x :: s => by
    have ih := bl_rs s
    unfold blN rsL at *
    simp only [List.takeWhile_cons, List.dropWhile_cons]
    by_cases h : (x == 32) = true
    · rw [if_pos h, if_pos h]
      have hx : x = 32 := by simpa using h
      simp only [List.length_cons, List.replicate_succ, List.cons_append]
      rw [← ih, hx]
    · rw [if_neg h, if_neg h]
      rfl
theorem blN_len (s : List UInt8) : blN s + (rsL s).length = s.length := by
  have := congrArg List.length (bl_rs s)
  simp at this
  omega
/-- A text with a sign right before its first byte that is no blank, a blank in front. -/
def aflL (s sg : List UInt8) : List UInt8 := if (rsL s).isEmpty = true then 32 :: s else List.replicate (blN s) 32 ++ sg ++ rsL s
theorem afl_blank (s : List UInt8) : aflL s [32] = 32 :: s := by
  unfold aflL
  split
  · rfl
  · conv => rhs; rw [bl_rs s]
    rw [← List.cons_append, ← List.replicate_succ, List.replicate_succ']
theorem afl_length {s : List UInt8} {c : UInt8} : (aflL s [c]).length = s.length + 1 := by
  have := blN_len s
  unfold aflL
  split
  · simp
  · simp; omega
theorem rs_replicate (n : Nat) : rsL (List.replicate n 32) = [] := by
  unfold rsL
  induction n with
  | zero => rfl
  | succ n ih => rw [List.replicate_succ, List.dropWhile_cons, if_pos (by decide), ih]
theorem rs_mem {s : List UInt8} {b : UInt8} (h : b ∈ s) (hb : b ≠ 32) : (rsL s).isEmpty = false := by
  cases hr : rsL s with
  | cons _ _ => rfl
  | nil =>
    have := bl_rs s
    rw [hr, List.append_nil] at this
    rw [this] at h
    exact absurd (List.eq_of_mem_replicate h) hb
/-- A text with asterisks in the place of leading blanks. -/
def starL (s : List UInt8) : List UInt8 := List.replicate (blN s) 42 ++ rsL s
end Go.Ab
/-! Plain laws: the pieces of a text by a code, as the program makes them. -/
set_option linter.unusedVariables false
set_option linter.unusedSimpArgs false
namespace Go.Proofs.YtecbbmokocnadaaDoor
open Go.Ab

theorem S_back (l : List UInt8) : strOfNums (l.map fun b => (b.toNat : Int)) = S l := by
  rw [S_nums, List.map_map]
  congr 1
  conv => rhs; rw [← List.map_id l]
  refine List.map_congr_left fun b _ => ?_
  show UInt8.ofNat (((b.toNat : Int)).toNat) = b
  rw [Int.toNat_natCast, UInt8.ofNat_toNat]
theorem u8_all (l : List UInt8) : ((l.map fun b => (b.toNat : Int)).all fun x => decide ((0 : Int) ≤ x) && decide (x ≤ 255)) = true := by
  rw [List.all_eq_true]
  intro x hx
  obtain ⟨b, _, rfl⟩ := List.mem_map.1 hx
  have := b.toNat_lt
  simp
  omega

theorem f73s {c : UInt8} {n : Nat} (hn : n ≤ 900) : f73F 1000 ((⟨#[c]⟩ : ByteArray), (n : Int)) = some (S (List.replicate n c)) := by
  unfold f73F
  have hs : ((⟨#[c]⟩ : ByteArray).size : Int) = 1 := rfl
  simp only [hs]
  rw [bif_true (by simp <;> omega), Int.toNat_natCast]
  have h := Lib.repeatL_replicate c 1 n
  have h : Lib.repeatL [c] n = List.replicate n c := by rw [Nat.mul_one] at h; exact h
  show some (⟨(Lib.repeatL [c] n).toArray⟩ : ByteArray) = _
  rw [h]
  rfl
theorem f354q {n : Nat} (hn : n ≤ 900) : f354F 1000 (n : Int) = some (S (List.replicate n 32)) := by
  unfold f354F
  rw [f73s hn, bind_some']
theorem f380q {v : List UInt8} (hv : asc v) (hl : v.length ≤ 900) : f380F 1000 (S v, (⟨#[49, 50, 51, 52, 53, 54, 55, 56, 57]⟩ : ByteArray)) = some (Lib.indexAny v [49, 50, 51, 52, 53, 54, 55, 56, 57]) := by
  unfold f380F
  have e : asciiB (S v) = true := by
    unfold asciiB
    rw [S_list, List.all_eq_true]
    intro b hb
    simpa using hv b hb
  have e2 : asciiB (⟨#[49, 50, 51, 52, 53, 54, 55, 56, 57]⟩ : ByteArray) = true := by decide
  have e3 : (⟨#[49, 50, 51, 52, 53, 54, 55, 56, 57]⟩ : ByteArray).size = 9 := rfl
  simp only [e, e2, e3, S_size, S_list]
  rw [bif_true (by simp <;> omega)]

theorem sliceB {a b n : Nat} (h1 : a ≤ b) (h2 : b ≤ n) : sliceBds (a : Int) (b : Int) (n : Int) = true := by
  unfold sliceBds
  simp
  omega
theorem sliceB0 {b n : Nat} (h2 : b ≤ n) : sliceBds 0 (b : Int) (n : Int) = true := sliceB (a := 0) (by omega) h2
theorem take_all {α : Type} (l : List α) : l.take l.length = l := List.take_length

theorem f369q {v : List UInt8} (hv : asc v) (hl : v.length ≤ 300) {most : Nat} (hm : most ≤ v.length) :
    f369F 1000 (S v, (most : Int)) = some (S (List.replicate (min (v.findIdx nzB) most) 32 ++ v.drop (min (v.findIdx nzB) most))) := by
  have tail : ∀ at_ : Nat, at_ ≤ v.length → (Option.bind (f354F 1000 (at_ : Int)) fun y3 =>
      bif (sliceBds (at_ : Int) ((S v).size : Int) ((S v).size : Int)) then
      bif (decide (y3.size + ((S v).extract (Int.toNat (at_ : Int)) (Int.toNat ((S v).size : Int))).size ≤ 9223372036854775807)) then
      some (y3 ++ ((S v).extract (Int.toNat (at_ : Int)) (Int.toNat ((S v).size : Int))))
      else none
      else none) = some (S (List.replicate at_ 32 ++ v.drop at_)) := by
    intro at_ h
    rw [f354q (by omega), bind_some', S_size, sliceB h (Nat.le_refl _), cond_true, Int.toNat_natCast, Int.toNat_natCast, S_cut, take_all, S_app]
    rw [bif_true (by simp [S_size]; omega)]
  unfold f369F f369p0
  simp only [f380q hv (by omega), bind_some', indexAny_find]
  by_cases h : v.findIdx nzB < v.length
  · rw [if_pos h, bif_false (by simp)]
    by_cases h2 : most < v.findIdx nzB
    · rw [bif_true (by simpa using h2), show min (v.findIdx nzB) most = most by omega]
      exact tail most hm
    · rw [bif_false (by simpa using h2), show min (v.findIdx nzB) most = v.findIdx nzB by omega]
      exact tail _ (by omega)
  · rw [if_neg h, bif_true (by simp), show min (v.findIdx nzB) most = most by omega]
    exact tail most hm
theorem f369a {v : List UInt8} (hv : asc v) (hl : v.length ≤ 300) : f369F 1000 (S v, ((S v).size : Int)) = some (S (supL false v)) := by
  rw [S_size, f369q hv hl (Nat.le_refl _)]
  have : v.findIdx nzB ≤ v.length := List.findIdx_le_length
  rw [show min (v.findIdx nzB) v.length = v.findIdx nzB by omega, sup_find]
theorem f369b {v : List UInt8} (hv : asc v) (hl : v.length ≤ 300) (hne : v ≠ []) : f369F 1000 (S v, IntKind.i64.wrap (((S v).size : Int) - 1)) = some (S (supL true v)) := by
  have h0 : 0 < v.length := List.length_pos_iff.2 hne
  rw [S_size, wi (by omega) (by omega), show ((v.length : Nat) : Int) - 1 = ((v.length - 1 : Nat) : Int) by omega, f369q hv hl (by omega), sup_find_last v hne]

/-! ### Whole digits -/
def oP (c : Bool) (m : List UInt8) : Nat → List UInt8
  | 0 => []
  | i + 1 => oP c m i ++ ((if (c && decide (0 < i) && (m.length - i) % 3 == 0) = true then [44] else []) ++ [m.getD i 0])
theorem oP_wV (c : Bool) (m : List UInt8) : ∀ i, i ≤ m.length → oP c m i ++ wV c (decide (i = 0)) (m.drop i) = wV c true m
  | 0, _ => by simp [oP]
  | i + 1, h => by
    have ih := oP_wV c m i (by omega)
    rw [← ih]
    have hd : m.drop i = m.getD i 0 :: m.drop (i + 1) := by
      rw [List.drop_eq_getElem_cons (by omega)]
      simp [List.getD_eq_getElem?_getD, show i < m.length by omega]
    rw [hd]
    simp only [oP, wV, List.length_drop]
    have e1 : decide (i + 1 = 0) = false := by simp
    have e2 : (!decide (i = 0)) = decide (0 < i) := by
      by_cases h0 : i = 0
      · simp [h0]
      · simp [h0]; omega
    have e3 : m.length - (i + 1) + 1 = m.length - i := by omega
    rw [e1, e2, e3]
    simp [List.append_assoc]
theorem oP_all (c : Bool) (m : List UInt8) : oP c m m.length = wV c true m := by
  have := oP_wV c m m.length (Nat.le_refl _)
  rw [List.drop_length] at this
  simpa [wV] using this
theorem oP_length (c : Bool) (m : List UInt8) : ∀ i, (oP c m i).length ≤ 2 * i
  | 0 => by simp [oP]
  | i + 1 => by
    have := oP_length c m i
    simp only [oP, List.length_append]
    split <;> simp <;> omega

def ints (l : List UInt8) : List Int := l.map fun b => (b.toNat : Int)
theorem ints_app (l m : List UInt8) : ints (l ++ m) = ints l ++ ints m := by simp [ints]
theorem f386q {x : Int} {xs : List Int} (h : xs.length ≤ 1000) : f386v1F 1000 (x, xs, ()) = some (xs ++ [x], ()) := by
  unfold f386v1F
  rw [bif_true (by simp <;> omega)]
theorem f386q0 {x : Int} : f386v0F 1000 (x, ()) = some ([x], ()) := rfl

theorem mod3 {l i : Nat} (h : i ≤ l) (hl : l ≤ 1000) : (Int.tmod (IntKind.i64.wrap ((l : Int) - (i : Int))) (3 : Int) == (0 : Int)) = ((l - i) % 3 == 0) := by
  rw [wi (by omega) (by omega), Int.tmod_eq_emod_of_nonneg (by omega)]
  rw [Bool.eq_iff_iff]
  simp
  omega

theorem f355p2q {R : Type} (k0 : ByteArray × Bool × Int × Int × Int × List Int × Unit → Option R) (m : List UInt8) (c : Bool) (i : Nat) (a b : Int) (o : List UInt8) (hm : m.length ≤ 100) (hi : i ≤ m.length) (ho : o.length ≤ 900) :
    f355p2 1000 k0 (S m, c, (i : Int), a, b, ints o, ()) = k0 (S m, c, (i : Int), a, b, ints (o ++ (if (c && decide (0 < i) && (m.length - i) % 3 == 0) = true then [44] else [])), ()) := by
  unfold f355p2
  simp only [S_size, mod3 hi (by omega)]
  cases c with
  | false => simp
  | true =>
    simp only [cond_true, Bool.true_and]
    by_cases h0 : 0 < i
    · rw [bif_true (by simpa using h0), decide_eq_true h0]
      simp only [Bool.true_and]
      by_cases h3 : ((m.length - i) % 3 == 0) = true
      · rw [bif_true h3, if_pos h3, f386q (by simp [ints]; omega), bind_some', ints_app]
        rfl
      · rw [bif_false (by simpa using h3), if_neg h3, List.append_nil]
    · rw [bif_false (by simpa using h0), decide_eq_false h0]
      simp

theorem f355q (m : List UInt8) (c : Bool) (hm : m.length ≤ 100) : f355F 1000 (S m, c) = some (S (wV c true m)) := by
  have step4 : ∀ (rec : ByteArray × Bool × Int × Int × List Int × Unit → Option ByteArray) (k0 : List Int × Unit → Option ByteArray) (i : Nat), i < m.length → 
      f355l4s 1000 rec k0 (S m, c, (m.length : Int), (i : Int), ints (oP c m i), ()) = rec (S m, c, (m.length : Int), ((i + 1 : Nat) : Int), ints (oP c m (i + 1)), ()) := by
    intro rec k0 i hi
    have hol := oP_length c m i
    unfold f355l4s f355p3
    simp only []
    rw [bif_true (by simpa using hi), f355p2q _ m c i _ _ _ hm (by omega) (by omega)]
    simp only [S_size]
    rw [bif_true (by simp <;> omega), S_bt m i hi, f386q (by
      unfold ints
      rw [List.length_map, List.length_append]
      split <;> simp <;> omega), bind_some', wi (by omega) (by omega)]
    simp only [oP, ints_app, List.append_assoc]
    rfl
  have end4 : ∀ (rec : ByteArray × Bool × Int × Int × List Int × Unit → Option ByteArray) (k0 : List Int × Unit → Option ByteArray), f355l4s 1000 rec k0 (S m, c, (m.length : Int), (m.length : Int), ints (oP c m m.length), ()) = k0 (ints (oP c m m.length), ()) := by
    intro rec k0
    unfold f355l4s
    rw [bif_false (by simp)]
  unfold f355F f355p6 f355l5
  have e0 : ∀ (Step : (ByteArray × Bool × Int × Int × Unit → Option ByteArray) → ByteArray × Bool × Int × Int × Unit → Option ByteArray) v, iterS Step 1000 v = Step (iterS Step 999) v := fun _ _ => rfl
  rw [e0]
  generalize iterS _ 999 = rec999
  unfold f355l5s
  simp only [S_size]
  cases m with
  | nil => rfl
  | cons d m' =>
    have hlen : (d :: m').length = m'.length + 1 := rfl
    rw [bif_true (by simp <;> omega)]
    unfold f355p1 f355p0
    simp only [S_size]
    have e0 : decide ((0 : Int) > 0) = false := by decide
    rw [e0]
    simp only [cond_false]
    have fin : (bif ((decide ((0 : Int) ≤ 0)) && (decide ((0 : Int) < (((d :: m').length : Nat) : Int)))) then
      Option.bind (f386v0F 1000 ((bt (S (d :: m')) (0 : Int)), ())) fun y6 =>
        f355l4 1000 (fun (w13 : List Int × Unit) => bif (!(List.isEmpty w13.1) && (List.all w13.1 fun x => decide ((0 : Int) ≤ x) && decide (x ≤ 255))) then some (strOfNums w13.1) else none)
          (S (d :: m'), c, (((d :: m').length : Nat) : Int), IntKind.i64.wrap ((0 : Int) + 1), y6.1, ())
      else none) = some (S (wV c true (d :: m'))) := by
      rw [bif_true (by simp <;> omega)]
      have hb := S_bt (d :: m') 0 (by simp)
      have hb : bt (S (d :: m')) 0 = (d.toNat : Int) := hb
      rw [hb, f386q0, bind_some']
      have key := iter_for (R := ByteArray) (Step := fun rec v => f355l4s 1000 rec (fun (w13 : List Int × Unit) => bif (!(List.isEmpty w13.1) && (List.all w13.1 fun x => decide ((0 : Int) ≤ x) && decide (x ≤ 255))) then some (strOfNums w13.1) else none) v)
        (fun i => (S (d :: m'), c, (((d :: m').length : Nat) : Int), ((i + 1 : Nat) : Int), ints (oP c (d :: m') (i + 1)), ())) m'.length (fin := some (S (wV c true (d :: m'))))
        (fun rec i hi => step4 _ _ (i + 1) (by simp <;> omega))
        (fun rec => by
          have := end4 rec (fun (w13 : List Int × Unit) => bif (!(List.isEmpty w13.1) && (List.all w13.1 fun x => decide ((0 : Int) ≤ x) && decide (x ≤ 255))) then some (strOfNums w13.1) else none)
          rw [hlen] at this
          rw [hlen, this, ← hlen, oP_all]
          have hne : (List.isEmpty (ints (wV c true (d :: m')))) = false := by simp [ints, wV]
          have hall : (List.all (ints (wV c true (d :: m'))) fun x => decide ((0 : Int) ≤ x) && decide (x ≤ 255)) = true := u8_all _
          simp only [hne, hall]
          rw [bif_true (by rfl)]
          exact congrArg some (S_back _)) (k := 1000) (by simp at hm; omega)
      have hO1 : oP c (d :: m') (0 + 1) = [d] := by simp [oP]
      rw [hO1] at key
      exact key
    cases c with
    | false => exact fin
    | true => exact fin
end Go.Proofs.YtecbbmokocnadaaDoor
/-! Plain laws: the text by a code, as the program makes it. -/
set_option linter.unusedVariables false
set_option linter.unusedSimpArgs false
namespace Go.Proofs.YtecbbmokocnadaaDoor
open Go.Ab

/-- A number's lowest digits, as a text. -/
def dgL (n : Int) (L : Nat) : List UInt8 := (low 10 n L).map fun d => UInt8.ofNat (48 + d).toNat
theorem dgL_length (n : Int) (L : Nat) : (dgL n L).length = L := by unfold dgL; rw [List.length_map, low_length]
theorem dgL_dig {n : Int} {L : Nat} : ∀ d ∈ dgL n L, dig d := by
  intro d hd
  obtain ⟨x, hx, rfl⟩ := List.mem_map.1 hd
  have := low_mem (by decide) hx
  unfold dig
  rw [UInt8.toNat_ofNat']
  omega

def amt (n : Int) : Int := if n < 0 then -n else n
theorem mx_abs {n : Int} (h0 : -1000000000000000 ≤ n) (h1 : n ≤ 1000000000000000) : mxI n (IntKind.i64.wrap (0 - n)) = amt n := by
  rw [wi (by omega) (by omega)]
  unfold mxI amt
  split <;> split <;> omega
theorem amt_bound {n : Int} (h0 : -1000000000000000 ≤ n) (h1 : n ≤ 1000000000000000) : 0 ≤ amt n ∧ amt n ≤ 1000000000000000 := by
  unfold amt
  split <;> omega
theorem div_pow {b n : Int} (hb : 0 < b) (i : Nat) : n / b ^ i / b = n / b ^ (i + 1) := by
  rw [Int.pow_succ, Int.ediv_ediv_of_nonneg (Int.le_of_lt (Int.pow_pos hb))]
theorem div_le {b n : Int} (hb : 0 < b) (hn : 0 ≤ n) (i : Nat) : 0 ≤ n / b ^ i ∧ n / b ^ i ≤ n :=
  ⟨Int.ediv_nonneg hn (Int.le_of_lt (Int.pow_pos hb)), Int.ediv_le_self _ hn⟩

theorem f367q {kd sc n : Int} {s : ByteArray} {L : Nat} (h0 : -1000000000000000 ≤ n) (h1 : n ≤ 1000000000000000) (hL : L ≤ 900) : f367F 1000 ((kd, (L : Int), sc), (n, s)) = some (S (dgL (amt n) L)) := by
  obtain ⟨a0, a1⟩ := amt_bound h0 h1
  unfold f367F
  have c1 : (((decide ((0 : Int) ≤ (L : Int))) && (decide (((L : Int) * 1) ≤ (140737488355328 : Int)))) && (decide ((L : Int) ≤ (281474976710656 : Int)))) = true := by
    simp; omega
  simp only [c1, cond_true, mx_abs h0 h1]
  unfold f367l0
  have key := iter_for (R := ByteArray) (Step := fun rec v => f367l0s 1000 rec (fun (w2 : List Int × Unit) => some (strOfNums w2.1)) v) (fun i => (amt n / 10 ^ i, (L : Int) - 1 - i, List.replicate (L - i) 0 ++ (low 10 (amt n) i).map (fun d => 48 + d), ())) L (fin := some (S (dgL (amt n) L))) ?_ ?_ (k := 1000) (by omega)
  · simp only [Int.toNat_natCast, wi (x := (L : Int) - 1) (by omega) (by omega)]
    simpa [low] using key
  · intro rec i hi
    obtain ⟨d0, d1⟩ := div_le (b := 10) (by decide) a0 i
    unfold f367l0s
    have e1 : (decide ((L : Int) - 1 - i ≥ 0)) = true := by simp; omega
    have e0 : (decide ((0 : Int) ≤ (L : Int) - 1 - i)) = true := by simp; omega
    have e2 : (decide ((L : Int) - 1 - i < ((List.replicate (L - i) (0 : Int) ++ (low 10 (amt n) i).map (fun d => 48 + d)).length : Int))) = true := by
      simp [low_length]; omega
    have e3 : ((L : Int) - 1 - i).toNat = L - 1 - i := by omega
    simp only [e1, e0, e2, e3, Bool.and_self, cond_true]
    rw [Int.tmod_eq_emod_of_nonneg d0, Int.tdiv_eq_ediv_of_nonneg d0, div_pow (by decide), wi (x := 48 + amt n / 10 ^ i % 10) (by omega) (by omega), wu8 (by omega) (by omega), set_zeros hi]
    obtain ⟨d2, d3⟩ := div_le (b := 10) (by decide) a0 (i + 1)
    rw [wi (x := amt n / 10 ^ (i + 1)) (by omega) (by omega), wi (x := (L : Int) - 1 - i - 1) (by omega) (by omega), show (L : Int) - 1 - i - 1 = (L : Int) - 1 - ((i + 1 : Nat) : Int) by omega]
    rfl
  · intro rec
    unfold f367l0s
    have e1 : (decide ((L : Int) - 1 - L ≥ 0)) = false := by simp; omega
    simp only [e1, cond_false, Nat.sub_self, List.replicate_zero, List.nil_append]
    rw [S_nums, List.map_map]
    rfl

/-! ### The pieces -/
/-- Digits with commas and a point, leading zeros as blanks. -/
def numL (c : Bool) (cut sc : Nat) (D : List UInt8) : List UInt8 := if 0 < sc then supL false (wV c true (D.take cut)) ++ 46 :: D.drop cut else supL true (wV c true (D.take cut))
theorem numL_length {c : Bool} {cut sc : Nat} {D : List UInt8} : (numL c cut sc D).length ≤ 3 * D.length + 1 := by
  have h := wV_length (c := c) (m := D.take cut) (first := true)
  have h2 : (D.take cut).length ≤ D.length := by simp; omega
  unfold numL
  split
  · simp [supL_length]; omega
  · rw [supL_length]; omega

theorem f370q {kd : Int} {sc L : Nat} {D : List UInt8} {c : Bool} (hD : D.length = L) (h1 : 1 ≤ L) (hL : L ≤ 60) (hs : sc ≤ L) (hd : ∀ d ∈ D, dig d) : f370F 1000 ((kd, (L : Int), (sc : Int)), S D, c) = some (S (numL c (L - sc) sc D)) := by
  have hw : IntKind.i64.wrap ((L : Int) - (sc : Int)) = ((L - sc : Nat) : Int) := by rw [wi (by omega) (by omega)]; omega
  have hdt : ∀ d ∈ D.take (L - sc), dig d := fun d h => hd d (List.mem_of_mem_take h)
  have hlt : (D.take (L - sc)).length ≤ L := by simp; omega
  have hwl := wV_length (c := c) (m := D.take (L - sc)) (first := true)
  have hasc : asc (wV c true (D.take (L - sc))) := wV_asc (asc_dig hdt)
  unfold f370F
  simp only [hw, S_size, hD]
  rw [bif_true (sliceB0 (by omega))]
  rw [Int.toNat_natCast, S_cut, List.drop_zero, f355q _ _ (by omega), bind_some']
  unfold numL
  by_cases h0 : 0 < sc
  · rw [bif_true (by simpa using h0), if_pos h0]
    have := f369a (v := wV c true (D.take (L - sc))) hasc (by omega)
    rw [S_size] at this
    simp only [S_size]
    rw [this, bind_some']
    have hl := supL_length (kl := false) (wV c true (D.take (L - sc)))
    have e46 : (⟨#[46]⟩ : ByteArray) = S [46] := rfl
    simp only [e46, S_app, S_size, Int.toNat_natCast, S_cut]
    rw [bif_true (by simp <;> omega), bif_true (sliceB (by omega) (by omega)), bif_true (by simp <;> omega)]
    have : (D.take L).drop (L - sc) = D.drop (L - sc) := by rw [← hD, take_all]
    rw [this]
    simp
  · have hsc : sc = 0 := by omega
    subst hsc
    rw [bif_false (by simp), if_neg h0]
    have hne : wV c true (D.take (L - 0)) ≠ [] := by
      rw [← List.isEmpty_eq_false_iff, wV_empty, List.isEmpty_eq_false_iff]
      intro h
      have := congrArg List.length h
      rw [List.length_take, hD] at this
      simp at this
      omega
    rw [f369b hasc (by omega) hne, bind_some']

theorem f371q {sg : List UInt8} {b : Bool} (h : sg.length ≤ 100) : f371F 1000 (S sg, b) = some (S (if b = true then sg else List.replicate sg.length 32)) := by
  unfold f371F
  cases b with
  | true => rfl
  | false =>
    simp only [cond_false, S_size, f354q (n := sg.length) (by omega), bind_some']
    rfl

theorem f373q (s : List UInt8) : f373F 1000 (S s, (⟨#[32]⟩ : ByteArray)) = some (S (rsL s)) := by
  unfold f373F
  show (bif decide ((32 : UInt8).toNat < 128) then some (⟨(Lib.trimLeftB (S s).data.toList 32).toArray⟩ : ByteArray) else none) = _
  rw [bif_true (by decide), S_list]
  rfl

theorem f372q {s sg : List UInt8} (hs : s.length ≤ 300) (hg : sg.length ≤ 100) : f372F 1000 (S s, S sg) = some (S (aflL s sg)) := by
  have hb := blN_len s
  unfold f372F
  have e32 : (⟨#[32]⟩ : ByteArray) = S [32] := rfl
  have et : f373F 1000 (S ([32] ++ s), S [32]) = some (S (rsL s)) := f373q ([32] ++ s)
  simp only [e32, S_app, S_size, et, bind_some']
  rw [bif_true (by simp <;> omega)]
  have e0 : ByteArray.empty = S [] := rfl
  rw [e0, S_eq]
  unfold aflL
  by_cases h : rsL s = []
  · rw [bif_true (by simpa using h), h]
    rfl
  · have h2 : (rsL s).isEmpty = false := by simpa using h
    rw [bif_false (by simpa using h), h2]
    simp only [Bool.false_eq_true, if_false]
    have hl : ([32] ++ s : List UInt8).length = s.length + 1 := by simp
    have e1 : IntKind.i64.wrap (IntKind.i64.wrap ((([32] ++ s).length : Int) - ((rsL s).length : Int)) - 1) = ((blN s : Nat) : Int) := by
      rw [hl, wi (x := ((s.length + 1 : Nat) : Int) - ((rsL s).length : Int)) (by omega) (by omega), wi (by omega) (by omega)]
      omega
    rw [e1, bif_true (sliceB0 (by simp <;> omega)), Int.toNat_natCast, S_cut, List.drop_zero]
    have e2 : ([32] ++ s).take (blN s) = List.replicate (blN s) 32 := by
      conv => lhs; arg 2; rw [bl_rs s]
      rw [show [32] ++ (List.replicate (blN s) 32 ++ rsL s) = List.replicate (blN s + 1) 32 ++ rsL s by rw [List.replicate_succ]; rfl]
      rw [List.take_append_of_le_length (by simp), List.take_replicate]
      congr 1
      omega
    rw [e2]
    simp only [S_app, S_size]
    rw [bif_true (by simp <;> omega), bif_true (by simp <;> omega)]

theorem star_q {R : Type} (k0 : ByteArray → Option R) (s : List UInt8) (hs : s.length ≤ 400) :
    (Option.bind (f373F 1000 (S s, (⟨#[32]⟩ : ByteArray))) fun y14 => Option.bind (f73F 1000 ((⟨#[42]⟩ : ByteArray), (IntKind.i64.wrap (((S s).size : Int) - (y14.size : Int))))) fun y15 =>
      bif (decide (y15.size + y14.size ≤ 9223372036854775807)) then k0 (y15 ++ y14) else none) = k0 (S (starL s)) := by
  have hb := blN_len s
  rw [f373q, bind_some']
  simp only [S_size]
  rw [show IntKind.i64.wrap ((s.length : Int) - ((rsL s).length : Int)) = ((blN s : Nat) : Int) by rw [wi (by omega) (by omega)]; omega, f73s (by omega), bind_some']
  simp only [S_size, S_app]
  rw [bif_true (by simp <;> omega)]
  rfl

/-- A text with its sign, its dollar, its stars: as the program makes it. -/
def txL (n fill sg : Int) (nz : Bool) (s0 : List UInt8) : List UInt8 :=
  let s1 := if sg = 1 then s0 ++ (if n < 0 then [67, 82] else [32, 32]) else if sg = 2 then s0 ++ (if n < 0 then [45] else [32]) else if sg = 3 then aflL s0 (if n < 0 then [45] else [32]) else s0
  let s2 := if fill = 2 then aflL s1 [36] else s1
  if n = 0 ∧ nz = true then List.replicate s2.length 32 else if fill = 1 then starL s2 else s2

theorem f336t {n fill sg code : Int} {vs : ByteArray} {cm nz : Bool} {s0 : List UInt8} (hs : s0.length ≤ 100) :
    f336p0 1000 (fun (w10 : ByteArray × Int × ByteArray × Int × Int × Int × Bool × Bool × Unit) =>
      f336p1 1000
        (fun (w12 : ByteArray × Int × ByteArray × Int × Int × Int × Bool × Bool × Unit) =>
          f336p2 1000
            (fun (w18 : ByteArray × ByteArray × Unit) =>
              some w18.1)
            (fun (w19 : ByteArray × Unit) =>
              some w19.1)
            (w12.1, w12.2.1, w12.2.2.1, w12.2.2.2.1, w12.2.2.2.2.1, w12.2.2.2.2.2.1, w12.2.2.2.2.2.2.1, w12.2.2.2.2.2.2.2.1, ()))
        (w10.1, w10.2.1, w10.2.2.1, w10.2.2.2.1, w10.2.2.2.2.1, w10.2.2.2.2.2.1, w10.2.2.2.2.2.2.1, w10.2.2.2.2.2.2.2.1, ()))
    (S s0, n, vs, code, fill, sg, cm, nz, ()) = some (S (txL n fill sg nz s0)) := by
  have P2 : ∀ s2 : List UInt8, s2.length ≤ 400 → f336p2 1000 (fun (w18 : ByteArray × ByteArray × Unit) => some w18.1) (fun (w19 : ByteArray × Unit) => some w19.1) (S s2, n, vs, code, fill, sg, cm, nz, ()) = some (S (if n = 0 ∧ nz = true then List.replicate s2.length 32 else if fill = 1 then starL s2 else s2)) := by
    intro s2 h2
    unfold f336p2
    have st := star_q (R := ByteArray) (fun z => some z) s2 h2
    by_cases h0 : n = 0
    · rw [bif_true (by simpa using h0)]
      cases nz with
      | true =>
        rw [if_pos ⟨h0, rfl⟩]
        simp only [cond_true, S_size, f354q (n := s2.length) (by omega), bind_some']
      | false =>
        rw [if_neg (by simp)]
        simp only [cond_false]
        by_cases h1 : fill = 1
        · rw [bif_true (by simpa using h1), if_pos h1]
          exact st
        · rw [bif_false (by simpa using h1), if_neg h1]
    · rw [bif_false (by simpa using h0), if_neg (fun c => h0 c.1)]
      by_cases h1 : fill = 1
      · rw [bif_true (by simpa using h1), if_pos h1]
        exact st
      · rw [bif_false (by simpa using h1), if_neg h1]
  have P1 : ∀ s1 : List UInt8, s1.length ≤ 200 → f336p1 1000 (fun (w12 : ByteArray × Int × ByteArray × Int × Int × Int × Bool × Bool × Unit) =>
          f336p2 1000 (fun (w18 : ByteArray × ByteArray × Unit) => some w18.1) (fun (w19 : ByteArray × Unit) => some w19.1)
            (w12.1, w12.2.1, w12.2.2.1, w12.2.2.2.1, w12.2.2.2.2.1, w12.2.2.2.2.2.1, w12.2.2.2.2.2.2.1, w12.2.2.2.2.2.2.2.1, ())) (S s1, n, vs, code, fill, sg, cm, nz, ()) =
      some (S (let s2 := if fill = 2 then aflL s1 [36] else s1
        if n = 0 ∧ nz = true then List.replicate s2.length 32 else if fill = 1 then starL s2 else s2)) := by
    intro s1 h1
    unfold f336p1
    by_cases h2 : fill = 2
    · rw [bif_true (by simpa using h2)]
      have e36 : (⟨#[36]⟩ : ByteArray) = S [36] := rfl
      simp only [e36, f372q (s := s1) (sg := [36]) (by omega) (by simp), bind_some']
      rw [P2 _ (by rw [afl_length]; omega), if_pos h2]
    · rw [bif_false (by simpa using h2), if_neg h2]
      exact P2 s1 (by omega)
  unfold f336p0 txL
  have eCR : (⟨#[67, 82]⟩ : ByteArray) = S [67, 82] := rfl
  have eM : (⟨#[45]⟩ : ByteArray) = S [45] := rfl
  have sg2 : (if (decide (n < 0)) = true then ([67, 82] : List UInt8) else List.replicate ([67, 82] : List UInt8).length 32) = if n < 0 then [67, 82] else [32, 32] := by
    by_cases h : n < 0 <;> simp [h]
  have sg1 : (if (decide (n < 0)) = true then ([45] : List UInt8) else List.replicate ([45] : List UInt8).length 32) = if n < 0 then [45] else [32] := by
    by_cases h : n < 0 <;> simp [h]
  by_cases c1 : sg = 1
  · rw [bif_true (by simpa using c1)]
    simp only [eCR, f371q (sg := [67, 82]) (b := decide (n < 0)) (by simp), sg2, bind_some', S_app, S_size, if_pos c1]
    have hl : (if n < 0 then ([67, 82] : List UInt8) else [32, 32]).length = 2 := by split <;> rfl
    rw [bif_true (by rw [hl]; simp; omega)]
    exact P1 _ (by rw [List.length_append, hl]; omega)
  · rw [bif_false (by simpa using c1), if_neg c1]
    by_cases c2 : sg = 2
    · rw [bif_true (by simpa using c2)]
      simp only [eM, f371q (sg := [45]) (b := decide (n < 0)) (by simp), sg1, bind_some', S_app, S_size, if_pos c2]
      have hl : (if n < 0 then ([45] : List UInt8) else [32]).length = 1 := by split <;> rfl
      rw [bif_true (by rw [hl]; simp; omega)]
      exact P1 _ (by rw [List.length_append, hl]; omega)
    · rw [bif_false (by simpa using c2), if_neg c2]
      by_cases c3 : sg = 3
      · rw [bif_true (by simpa using c3), if_pos c3]
        have hl : (if n < 0 then ([45] : List UInt8) else [32]).length = 1 := by split <;> rfl
        simp only [eM, f371q (sg := [45]) (b := decide (n < 0)) (by simp), sg1, bind_some']
        rw [f372q (by omega) (by rw [hl]; omega), bind_some']
        refine P1 _ ?_
        by_cases h : n < 0
        · rw [if_pos h, afl_length]; omega
        · rw [if_neg h, afl_length]; omega
      · rw [bif_false (by simpa using c3), if_neg c3]
        exact P1 s0 (by omega)
end Go.Proofs.YtecbbmokocnadaaDoor
/-! Plain laws: the pieces of a text by a code, as the reference makes them. -/
set_option linter.unusedVariables false
set_option linter.unusedSimpArgs false
namespace Go.Proofs.YtecbbmokocnadaaDoor
open Go.Ab

/-- A loop that ends at the first place of some kind. -/
theorem iter_scan {V R : Type} {Step : (V → Option R) → V → Option R} (st : Nat → V) (p : Nat → Bool) (hit : Nat → Option R) {fin : Option R} : ∀ (d i k : Nat), (∀ rec j, i ≤ j → j < i + d → p j = true → Step rec (st j) = hit j) → (∀ rec j, i ≤ j → j < i + d → p j = false → Step rec (st j) = rec (st (j + 1))) → (∀ rec, Step rec (st (i + d)) = fin) → d < k →
    iterS Step k (st i) = match (List.range' i d).find? p with | some j => hit j | none => fin
  | 0, i, k, h1, h2, h3, hk => by
    cases k with
    | zero => omega
    | succ k => exact h3 _
  | d + 1, i, k, h1, h2, h3, hk => by
    cases k with
    | zero => omega
    | succ k =>
      show Step (iterS Step k) (st i) = _
      rw [List.range'_succ, List.find?_cons]
      cases hp : p i with
      | true => exact h1 _ i (Nat.le_refl _) (by omega) hp
      | false =>
        rw [h2 _ i (Nat.le_refl _) (by omega) hp]
        exact iter_scan st p hit d (i + 1) k (fun rec j a b => h1 rec j (by omega) (by omega)) (fun rec j a b => h2 rec j (by omega) (by omega)) (fun rec => by rw [show i + 1 + d = i + (d + 1) by omega]; exact h3 rec) (by omega)

theorem any_find (l : List UInt8) (q : UInt8 → Bool) : ((List.range' 0 l.length).find? fun j => q (l.getD j 0)).isSome = l.any q := by
  rw [Bool.eq_iff_iff, List.find?_isSome, List.any_eq_true]
  constructor
  · rintro ⟨j, hj, h⟩
    have hj : j < l.length := by simpa using hj
    exact ⟨l.getD j 0, by simp [List.getD_eq_getElem?_getD, hj], h⟩
  · rintro ⟨b, hb, h⟩
    obtain ⟨j, hj, rfl⟩ := List.getElem_of_mem hb
    exact ⟨j, by simpa using hj, by simpa [List.getD_eq_getElem?_getD, hj] using h⟩

theorem f346q (c : Int) (l : List UInt8) (hl : l.length ≤ 900) : f346F 1000 (c, S l) = some (l.any fun b => (b.toNat : Int) == c) := by
  unfold f346F f346l0
  have key := iter_scan (R := Bool) (Step := fun rec v => f346l0s 1000 rec (fun (w1 : Bool × Unit) => some w1.1) (fun (w2 : Unit) => some false) v) (fun i => (c, S l, (i : Int), ())) (fun j => ((l.getD j 0).toNat : Int) == c) (fun _ => some true) (fin := some false) l.length 0 1000
    (fun rec j _ hj hp => by
      unfold f346l0s
      simp only [S_size]
      rw [bif_true (by simp <;> omega), bif_true (by simp <;> omega), S_bt l j (by omega), bif_true hp])
    (fun rec j _ hj hp => by
      unfold f346l0s
      simp only [S_size]
      rw [bif_true (by simp <;> omega), bif_true (by simp <;> omega), S_bt l j (by omega), bif_false hp, wi (by omega) (by omega)]
      rfl)
    (fun rec => by
      unfold f346l0s
      simp only [S_size]
      rw [bif_false (by simp)]) (by omega)
  refine Eq.trans key ?_
  rw [← any_find l fun b => (b.toNat : Int) == c]
  cases (List.range' 0 l.length).find? fun j => ((l.getD j 0).toNat : Int) == c <;> rfl

/-! ### The digits -/
def decS (u : Nat) : ByteArray := ⟨(Lib.decDigits u).toArray⟩
theorem decS_list (u : Nat) : (decS u).data.toList = Lib.decDigits u := by simp [decS]
theorem decS_len : ∀ (n u : Nat), u < 10 ^ (n + 1) → (Lib.decDigits u).length ≤ n + 1
  | 0, u, h => by
    have h : u < 10 := by simpa using h
    rw [Lib.decDigits, dif_pos h]; simp
  | n + 1, u, h => by
    by_cases hu : u < 10
    · rw [Lib.decDigits, dif_pos hu]; simp
    · rw [Lib.decDigits, dif_neg hu]
      have := decS_len n (u / 10) (by rw [Nat.pow_succ] at h; omega)
      simp
      omega
theorem dig_byte {d : Nat} (h : d < 10) : strOfNums [IntKind.u8.wrap (IntKind.i64.wrap (48 + (d : Int)))] = ⟨#[UInt8.ofNat (48 + d)]⟩ := by
  rw [wi (by omega) (by omega), wu8 (by omega) (by omega)]
  apply S_ext
  rw [strOfNums_data]
  simp only [List.map_cons, List.map_nil]
  rw [show ((48 : Int) + (d : Int)).toNat = 48 + d by omega]

theorem f398q : ∀ (n u : Nat), u < 10 ^ (n + 1) → n ≤ 17 → f398R 1000 (n + 1) (u : Int) = some (decS u) := by
  intro n
  induction n with
  | zero =>
    intro u h _
    have h : u < 10 := by simpa using h
    show f398G 1000 (f398R 1000 0) (u : Int) = _
    unfold f398G
    rw [bif_false (by first | (simp; done) | (simp; omega)), bif_false (by simp), bif_true (by first | (simp; done) | (simp; omega)), dig_byte h]
    congr 1
    apply S_ext
    rw [decS_list, Lib.decDigits, dif_pos h]
  | succ n ih =>
    intro u h hn
    have hb : u ≤ 9999999999999999999 := by
      have : 10 ^ (n + 1 + 1) ≤ 10 ^ 19 := Nat.pow_le_pow_right (by decide) (by omega)
      omega
    have hb2 : u ≤ 9223372036854775807 ∨ 9223372036854775807 < u := by omega
    show f398G 1000 (f398R 1000 (n + 1)) (u : Int) = _
    unfold f398G
    by_cases hu : u < 10
    · rw [bif_false (by first | (simp; done) | (simp; omega)), bif_false (by simp), bif_true (by first | (simp; done) | (simp; omega)), dig_byte hu]
      congr 1
      apply S_ext
      rw [decS_list, Lib.decDigits, dif_pos hu]
    · rw [bif_false (by first | (simp; done) | (simp; omega)), bif_false (by simp), bif_false (by first | (simp; done) | (simp; omega))]
      have e1 : Int.tdiv (u : Int) 10 = ((u / 10 : Nat) : Int) := by simp [Int.tdiv]
      have e2 : Int.tmod (u : Int) 10 = ((u % 10 : Nat) : Int) := by simp [Int.tmod]
      have hl := decS_len n (u / 10) (by rw [Nat.pow_succ] at h; omega)
      have hs : (decS (u / 10)).size ≤ 100 := by
        have e : (decS (u / 10)).size = (decS (u / 10)).data.toList.length := rfl
        rw [e, decS_list]; omega
      rw [e1, e2, wi (by omega) (by omega), ih (u / 10) (by rw [Nat.pow_succ] at h; omega) (by omega), bind_some']
      have hdig := dig_byte (d := u % 10) (Nat.mod_lt _ (by decide))
      simp only [hdig]
      have h1 : (⟨#[UInt8.ofNat (48 + u % 10)]⟩ : ByteArray).size = 1 := rfl
      simp only [h1]
      rw [bif_true (by first | (simp; done) | (simp; omega))]
      congr 1
      apply S_ext
      rw [decS_list, Lib.decDigits, dif_neg hu]
      have : (decS (u / 10) ++ (⟨#[UInt8.ofNat (48 + u % 10)]⟩ : ByteArray)).data.toList = (decS (u / 10)).data.toList ++ [UInt8.ofNat (48 + u % 10)] := by simp
      rw [this, decS_list]
theorem f398n {u : Nat} (h : u ≤ 1000000000000000) : f398F 1000 (u : Int) = some (decS u) := by
  have mono : ∀ (m n : Nat) (x : Int) (y : ByteArray), f398R 1000 n x = some y → n ≤ m → f398R 1000 m x = some y := by
    intro m
    induction m with
    | zero =>
      intro n x y hx hn
      have : n = 0 := by omega
      subst this
      exact hx
    | succ m ih =>
      intro n x y hx hn
      cases n with
      | zero => cases hx
      | succ n =>
        have hx : f398G 1000 (f398R 1000 n) x = some y := hx
        show f398G 1000 (f398R 1000 m) x = some y
        unfold f398G at hx ⊢
        have step : ∀ (z : Int) (g : ByteArray → Option ByteArray), Option.bind (f398R 1000 n z) g = some y → Option.bind (f398R 1000 m z) g = some y := by
          intro z g hg
          obtain ⟨v, hv, hg'⟩ := Option.bind_eq_some_iff.1 hg
          rw [ih n z v hv (by omega)]
          exact hg'
        by_cases c1 : x < -9
        · rw [bif_true (by simpa using c1)] at hx ⊢
          obtain ⟨v, hv, hg'⟩ := Option.bind_eq_some_iff.1 hx
          rw [ih n _ v hv (by omega), bind_some']
          by_cases c2 : (⟨#[45]⟩ : ByteArray).size + v.size ≤ 9223372036854775807
          · rw [bif_true (by simpa using c2)] at hg' ⊢
            exact step _ _ hg'
          · rw [bif_false (by simpa using c2)] at hg'
            cases hg'
        · rw [bif_false (by simpa using c1)] at hx ⊢
          by_cases c2 : x < 0
          · rw [bif_true (by simpa using c2)] at hx ⊢
            exact step _ _ hx
          · rw [bif_false (by simpa using c2)] at hx ⊢
            by_cases c3 : x < 10
            · rw [bif_true (by simpa using c3)] at hx ⊢
              exact hx
            · rw [bif_false (by simpa using c3)] at hx ⊢
              exact step _ _ hx
  exact mono 1000 (15 + 1) _ _ (f398q 15 u (by omega) (by decide)) (by decide)

theorem f72q {c n : Nat} (hn : n ≤ 900) : f72F 1000 ((c : Int), (n : Int)) = some (S (List.replicate n (UInt8.ofNat c))) := by
  unfold f72F f72l0
  have key := iter_for (R := ByteArray) (Step := fun rec v => f72l0s 1000 rec (fun (w1 : List Int × Unit) => some (strOfNums w1.1)) v) (fun i => ((c : Int), (n : Int), (i : Int), List.replicate i (c : Int), ())) n (fin := some (S (List.replicate n (UInt8.ofNat c))))
    (fun rec i hi => by
      unfold f72l0s
      simp only []
      rw [bif_true (by simp <;> omega), bif_true (by simp <;> omega), wi (by omega) (by omega)]
      rw [List.replicate_succ' (n := i), show (i : Int) + 1 = ((i + 1 : Nat) : Int) by omega])
    (fun rec => by
      unfold f72l0s
      rw [bif_false (by simp)]
      show some (strOfNums (List.replicate n (c : Int))) = _
      rw [S_nums, List.map_replicate, Int.toNat_natCast]) (k := 1000) (by omega)
  exact key

theorem low_snoc (n : Int) : ∀ i, low 10 n (i + 1) = low 10 (n / 10) i ++ [n % 10]
  | 0 => by simp [low]
  | i + 1 => by
    rw [low, low_snoc n i]
    have e : n / 10 ^ (i + 1) = n / 10 / 10 ^ i := by
      rw [Int.pow_succ, Int.mul_comm, Int.ediv_ediv_of_nonneg (by decide)]
    rw [e]
    rfl
theorem dgL_snoc (n : Int) (i : Nat) : dgL n (i + 1) = dgL (n / 10) i ++ [UInt8.ofNat (48 + n % 10).toNat] := by
  unfold dgL
  rw [low_snoc, List.map_append]
  rfl
theorem dgL_zero : ∀ i, dgL 0 i = List.replicate i 48
  | 0 => rfl
  | i + 1 => by
    rw [dgL_snoc, show (0 : Int) / 10 = 0 by rfl, dgL_zero i, List.replicate_succ']
    rfl
theorem dgL_pad : ∀ (L u : Nat), u < 10 ^ L → 1 ≤ L → List.replicate (L - (Lib.decDigits u).length) 48 ++ Lib.decDigits u = dgL (u : Int) L ∧ (Lib.decDigits u).length ≤ L
  | 0, u, h, h1 => by omega
  | L + 1, u, h, _ => by
    rw [dgL_snoc]
    have e1 : ((u : Int) / 10) = ((u / 10 : Nat) : Int) := by omega
    have e2 : (48 + (u : Int) % 10).toNat = 48 + u % 10 := by omega
    rw [e1, e2]
    by_cases hu : u < 10
    · rw [Lib.decDigits, dif_pos hu]
      have : u / 10 = 0 := by omega
      rw [this]
      have h2 : u % 10 = u := by omega
      rw [h2]
      simp only [List.length_cons, List.length_nil, Nat.add_sub_cancel]
      exact ⟨by rw [show ((0 : Nat) : Int) = 0 by rfl, dgL_zero], by omega⟩
    · rw [Lib.decDigits, dif_neg hu]
      have hL : 1 ≤ L := by
        cases L with
        | zero => simp at h; omega
        | succ L => omega
      obtain ⟨h1, h2⟩ := dgL_pad L (u / 10) (by rw [Nat.pow_succ] at h; omega) hL
      rw [← h1]
      simp only [List.length_append, List.length_cons, List.length_nil]
      rw [show L + 1 - ((Lib.decDigits (u / 10)).length + (0 + 1)) = L - (Lib.decDigits (u / 10)).length by omega, List.append_assoc]
      exact ⟨rfl, by omega⟩

theorem f375q {kd sc n : Int} {L : Nat} (h1 : 1 ≤ L) (hL : L ≤ 15) (hn : amt n < 10 ^ L) (n0 : -1000000000000000 ≤ n) (n1 : n ≤ 1000000000000000) : f375F 1000 ((kd, (L : Int), sc), n) = some (S (dgL (amt n) L)) := by
  obtain ⟨a0, a1⟩ := amt_bound n0 n1
  obtain ⟨u, hu⟩ : ∃ u : Nat, amt n = u := ⟨(amt n).toNat, by omega⟩
  have hu2 : u < 10 ^ L := by
    have e : ((10 ^ L : Nat) : Int) = (10 : Int) ^ L := by simp
    omega
  obtain ⟨p1, p2⟩ := dgL_pad L u hu2 h1
  unfold f375F f79F
  rw [mx_abs n0 n1, bind_some', hu, f398n (by omega), bind_some']
  have es : (decS u) = S (Lib.decDigits u) := rfl
  simp only [es, S_size]
  rw [show IntKind.i64.wrap ((L : Int) - ((Lib.decDigits u).length : Int)) = ((L - (Lib.decDigits u).length : Nat) : Int) by rw [wi (by omega) (by omega)]; omega]
  have hf := f72q (c := 48) (n := L - (Lib.decDigits u).length) (by omega)
  have hf : f72F 1000 (48, ((L - (Lib.decDigits u).length : Nat) : Int)) = some (S (List.replicate (L - (Lib.decDigits u).length) 48)) := hf
  rw [hf, bind_some']
  simp only [S_size, S_app]
  rw [bif_true (by simp <;> omega), p1]

/-! ### Whole digits -/
def rC (kl : Bool) (m : List UInt8) : Nat → Bool
  | 0 => false
  | i + 1 => rC kl m i || m.getD i 0 != 48 || (kl && (m.length == i + 1))
def rO (c kl : Bool) (m : List UInt8) : Nat → List UInt8
  | 0 => []
  | i + 1 => rO c kl m i ++ ((if (c && decide (0 < i) && (m.length - i) % 3 == 0) = true then [if rC kl m i = true then 44 else 32] else []) ++ [if rC kl m (i + 1) = true then m.getD i 0 else 32])
theorem rO_wR (c kl : Bool) (m : List UInt8) : ∀ i, i ≤ m.length → rO c kl m i ++ wR c kl (decide (i = 0)) (rC kl m i) (m.drop i) = wR c kl true false m
  | 0, _ => by simp [rO, rC]
  | i + 1, h => by
    have ih := rO_wR c kl m i (by omega)
    rw [← ih]
    have hd : m.drop i = m.getD i 0 :: m.drop (i + 1) := by
      rw [List.drop_eq_getElem_cons (by omega)]
      simp [List.getD_eq_getElem?_getD, show i < m.length by omega]
    rw [hd]
    simp only [rO, wR, List.length_drop]
    have e1 : decide (i + 1 = 0) = false := by simp
    have e2 : (!decide (i = 0)) = decide (0 < i) := by
      by_cases h0 : i = 0
      · simp [h0]
      · simp [h0]; omega
    have e3 : m.length - (i + 1) + 1 = m.length - i := by omega
    have e4 : (m.drop (i + 1)).isEmpty = (m.length == i + 1) := by
      rw [Bool.eq_iff_iff, List.isEmpty_iff, List.drop_eq_nil_iff]
      simp
      omega
    rw [e1, e2, e3, e4]
    simp only [List.append_assoc, List.cons_append, List.nil_append]
    rfl
theorem rO_all (c kl : Bool) (m : List UInt8) : rO c kl m m.length = wR c kl true false m := by
  have := rO_wR c kl m m.length (Nat.le_refl _)
  rw [List.drop_length] at this
  simpa [wR] using this
theorem rO_length (c kl : Bool) (m : List UInt8) : ∀ i, (rO c kl m i).length ≤ 2 * i
  | 0 => by simp [rO]
  | i + 1 => by
    have := rO_length c kl m i
    simp only [rO, List.length_append]
    split <;> simp <;> omega
theorem cut1 {m : List UInt8} {i : Nat} (h : i < m.length) : (m.take (i + 1)).drop i = [m.getD i 0] := by
  rw [List.take_succ_eq_append_getElem h, List.drop_append_of_le_length (by simp <;> omega)]
  simp [List.getD_eq_getElem?_getD, h]

theorem f377p0q {R : Type} (k0 : ByteArray × Bool × Bool × ByteArray × Bool × Int × Unit → Option R) (m : List UInt8) (c kl cnt : Bool) (i : Nat) (o : List UInt8) (hm : m.length ≤ 100) (hi : i ≤ m.length) (ho : o.length ≤ 900) :
    f377p0 1000 k0 (S m, c, kl, S o, cnt, (i : Int), ()) = k0 (S m, c, kl, S (o ++ (if (c && decide (0 < i) && (m.length - i) % 3 == 0) = true then [if cnt = true then 44 else 32] else [])), cnt, (i : Int), ()) := by
  unfold f377p0
  simp only [S_size, mod3 hi (by omega)]
  have e44 : (⟨#[44]⟩ : ByteArray) = S [44] := rfl
  have e32 : (⟨#[32]⟩ : ByteArray) = S [32] := rfl
  simp only [e44, e32, S_app, S_size]
  cases c with
  | false => simp
  | true =>
    simp only [cond_true, Bool.true_and]
    by_cases h0 : 0 < i
    · rw [bif_true (by simpa using h0), decide_eq_true h0]
      simp only [Bool.true_and]
      by_cases h3 : ((m.length - i) % 3 == 0) = true
      · rw [bif_true h3, if_pos h3]
        cases cnt with
        | true => 
          simp only [cond_true]
          rw [bif_true (by simp <;> omega)]
          rfl
        | false =>
          simp only [cond_false]
          rw [bif_true (by simp <;> omega)]
          rfl
      · rw [bif_false (by simpa using h3), if_neg h3, List.append_nil]
    · rw [bif_false (by simpa using h0), decide_eq_false h0]
      simp

theorem bt48 {m : List UInt8} {i : Nat} (h : i < m.length) : (bt (S m) (i : Int) != (48 : Int)) = (m.getD i 0 != 48) := by
  rw [S_bt m i h]
  by_cases e : m.getD i 0 = 48
  · rw [e]; rfl
  · have h2 : ((m.getD i 0).toNat : Int) ≠ 48 := fun k => e (UInt8.toNat_inj.1 (show (m.getD i 0).toNat = 48 by omega))
    have a1 : (((m.getD i 0).toNat : Int) != (48 : Int)) = true := by simpa using h2
    have a2 : (m.getD i 0 != 48) = true := by simpa using e
    rw [a1, a2]

theorem f377q (m : List UInt8) (c kl : Bool) (hm : m.length ≤ 100) : f377F 1000 (S m, c, kl) = some (S (wR c kl true false m)) := by
  unfold f377F f377l2
  have key := iter_for (R := ByteArray) (Step := fun rec v => f377l2s 1000 rec (fun (w7 : ByteArray × Unit) => some w7.1) v) (fun i => (S m, c, kl, S (rO c kl m i), rC kl m i, (i : Int), ())) m.length (fin := some (S (wR c kl true false m)))
    (fun rec i hi => by
      have hol := rO_length c kl m i
      unfold f377l2s f377p1
      simp only [S_size]
      rw [bif_true (by simpa using hi), f377p0q _ m c kl _ i _ hm (by omega) (by omega)]
      have hsl : sliceBds (i : Int) (IntKind.i64.wrap ((i : Int) + 1)) ((m.length : Nat) : Int) = true := by
        rw [wi (by omega) (by omega), show (i : Int) + 1 = ((i + 1 : Nat) : Int) by omega]
        exact sliceB (by omega) (by omega)
      have hcut : (S m).extract (Int.toNat (i : Int)) (Int.toNat (IntKind.i64.wrap ((i : Int) + 1))) = S [m.getD i 0] := by
        rw [wi (by omega) (by omega), Int.toNat_natCast, show ((i : Int) + 1).toNat = i + 1 by omega, S_cut, cut1 hi]
      have hlen : (rO c kl m i ++ (if (c && decide (0 < i) && (m.length - i) % 3 == 0) = true then [if rC kl m i = true then 44 else 32] else [])).length ≤ 900 := by
        rw [List.length_append]
        split <;> simp <;> omega
      have e32 : (⟨#[32]⟩ : ByteArray) = S [32] := rfl
      have hlast : ((i : Int) == IntKind.i64.wrap ((m.length : Int) - 1)) = (m.length == i + 1) := by
        rw [wi (by omega) (by omega), Bool.eq_iff_iff]
        simp
        omega
      have hw : IntKind.i64.wrap ((i : Int) + 1) = ((i + 1 : Nat) : Int) := by rw [wi (by omega) (by omega)]; omega
      simp only [S_size, hsl, hcut, e32, S_app, bt48 hi, hlast]
      generalize hX : (rO c kl m i ++ (if (c && decide (0 < i) && (m.length - i) % 3 == 0) = true then [if rC kl m i = true then 44 else 32] else [])) = X at *
      have hO : rO c kl m (i + 1) = X ++ [if rC kl m (i + 1) = true then m.getD i 0 else 32] := by
        rw [← hX]; simp only [rO, List.append_assoc]
      have hC : rC kl m (i + 1) = (rC kl m i || m.getD i 0 != 48 || (kl && (m.length == i + 1))) := rfl
      have room : ∀ b : UInt8, decide ((X.length) + [b].length ≤ 9223372036854775807) = true := fun b => by simp; omega
      rw [hO, hC]
      cases h1 : rC kl m i with
      | true =>
        simp only [cond_true, room, hw, Bool.true_or, if_true]
      | false =>
        simp only [cond_false, Bool.false_or]
        rw [bif_true (by simp <;> omega)]
        cases h2 : (m.getD i 0 != 48) with
        | true =>
          simp only [cond_true, room, hw, Bool.true_or, if_true]
        | false =>
          simp only [cond_false, Bool.false_or]
          cases kl with
          | true =>
            simp only [cond_true, Bool.true_and]
            cases h3 : (m.length == i + 1) with
            | true => simp only [cond_true, room, hw, if_true]
            | false => simp only [cond_false, cond_true, room, hw, Bool.false_eq_true, if_false]
          | false => simp only [cond_false, cond_true, room, hw, Bool.false_and, Bool.false_eq_true, if_false])
    (fun rec => by
      unfold f377l2s
      simp only [S_size]
      rw [bif_false (by simp), rO_all]) (k := 1000) (by omega)
  exact key

/-! ### Floated, starred -/
theorem rs_head : ∀ {s : List UInt8} {x : UInt8} {r : List UInt8}, rsL s = x :: r → x ≠ 32
  | [], x, r, h => by cases h
  | a :: s, x, r, h => by
    unfold rsL at h
    rw [List.dropWhile_cons] at h
    split at h
    · exact rs_head (s := s) h
    · rename_i hc
      injection h with h1 h2
      subst h1
      simpa using hc
theorem bl_get {s : List UInt8} {j : Nat} (h : j < blN s) : s.getD j 0 = 32 := by
  conv => lhs; rw [bl_rs s]
  rw [List.getD_eq_getElem?_getD, List.getElem?_append_left (by simpa using h)]
  simp [h]
theorem bl_end {s : List UInt8} (h : rsL s ≠ []) : blN s < s.length ∧ s.getD (blN s) 0 ≠ 32 := by
  have hb := blN_len s
  cases hr : rsL s with
  | nil => exact absurd hr h
  | cons x r =>
    rw [hr] at hb
    simp at hb
    refine ⟨by omega, ?_⟩
    have hx := rs_head hr
    have e := bl_rs s
    rw [hr] at e
    conv => lhs; arg 1; rw [e]
    rw [List.getD_eq_getElem?_getD, List.getElem?_append_right (by simp)]
    simpa using hx
theorem bt32 {m : List UInt8} {i : Nat} (h : i < m.length) : (bt (S m) (i : Int) != (32 : Int)) = (m.getD i 0 != 32) := by
  rw [S_bt m i h]
  by_cases e : m.getD i 0 = 32
  · rw [e]; rfl
  · have h2 : ((m.getD i 0).toNat : Int) ≠ 32 := fun k => e (UInt8.toNat_inj.1 (show (m.getD i 0).toNat = 32 by omega))
    have a1 : (((m.getD i 0).toNat : Int) != (32 : Int)) = true := by simpa using h2
    have a2 : (m.getD i 0 != 32) = true := by simpa using e
    rw [a1, a2]

theorem f378q {s : List UInt8} {c : Nat} (hs : s.length ≤ 300) : f378F 1000 (S s, (c : Int)) = some (S (aflL s [UInt8.ofNat c])) := by
  have hb := blN_len s
  have e32 : (⟨#[32]⟩ : ByteArray) = S [32] := rfl
  unfold f378F
  simp only [e32, S_app, S_size]
  rw [bif_true (by simp <;> omega)]
  have ec : ([32] ++ s : List UInt8) = 32 :: s := rfl
  rw [ec]
  unfold f378l0
  have key := iter_for (R := ByteArray) (Step := fun rec v => f378l0s 1000 rec (fun (w2 : ByteArray × ByteArray × Unit) => some w2.2.1) (fun (w3 : ByteArray × Unit) => some w3.1) v) (fun i => (S (32 :: s), (c : Int), ((1 + i : Nat) : Int), ())) (blN s) (fin := some (S (aflL s [UInt8.ofNat c])))
    (fun rec i hi => by
      unfold f378l0s
      simp only [S_size]
      have hg : (32 :: s).getD (1 + i) 0 = 32 := by rw [Nat.add_comm, List.getD_cons_succ]; exact bl_get hi
      rw [bif_true (by simp <;> omega), bif_true (by simp <;> omega), bt32 (by simp <;> omega), hg, bif_false (by decide), wi (by omega) (by omega), show ((1 + i : Nat) : Int) + 1 = ((1 + (i + 1) : Nat) : Int) by omega])
    (fun rec => by
      unfold f378l0s
      simp only [S_size]
      by_cases hr : rsL s = []
      · rw [hr] at hb
        simp at hb
        rw [bif_false (by simp <;> omega)]
        unfold aflL
        rw [hr]
        rfl
      · obtain ⟨h1, h2⟩ := bl_end hr
        have hg : (32 :: s).getD (1 + blN s) 0 = s.getD (blN s) 0 := by rw [Nat.add_comm, List.getD_cons_succ]
        rw [bif_true (by simp <;> omega), bif_true (by simp <;> omega), bt32 (by simp <;> omega), hg, bif_true (by simpa using h2)]
        have hw : IntKind.i64.wrap (((1 + blN s : Nat) : Int) - 1) = ((blN s : Nat) : Int) := by rw [wi (by omega) (by omega)]; omega
        rw [hw, bif_true (sliceB0 (by simp <;> omega)), Int.toNat_natCast, S_cut, List.drop_zero, S_nums]
        have e2 : (32 :: s).take (blN s) = List.replicate (blN s) 32 := by
          conv => lhs; arg 2; rw [bl_rs s]
          rw [show 32 :: (List.replicate (blN s) 32 ++ rsL s) = List.replicate (blN s + 1) 32 ++ rsL s by rw [List.replicate_succ]; rfl]
          rw [List.take_append_of_le_length (by simp), List.take_replicate]
          congr 1
          omega
        have e3 : ((32 :: s).take (32 :: s).length).drop (1 + blN s) = rsL s := by
          rw [take_all, Nat.add_comm, List.drop_succ_cons]
          conv => lhs; arg 2; rw [bl_rs s]
          rw [List.drop_append_of_le_length (by simp)]
          simp
        rw [e2]
        simp only [S_app, S_size, S_cut, Int.toNat_natCast]
        rw [bif_true (by simp <;> omega), bif_true (sliceB (by simp <;> omega) (Nat.le_refl _)), e3, bif_true (by simp <;> omega)]
        unfold aflL
        have h3 : (rsL s).isEmpty = false := by simpa using hr
        rw [h3]
        simp only [List.map_cons, List.map_nil, Int.toNat_natCast, Bool.false_eq_true, if_false, List.append_assoc]) (k := 1000) (by omega)
  exact key

theorem f379q {s : List UInt8} (hs : s.length ≤ 300) : f379F 1000 (S s) = some (S (if rsL s = [] then s else starL s)) := by
  have hb := blN_len s
  unfold f379F f379l0
  have key := iter_for (R := ByteArray) (Step := fun rec v => f379l0s 1000 rec (fun (w2 : ByteArray × ByteArray × Unit) => some w2.2.1) (fun (w3 : ByteArray × Unit) => some w3.1) v) (fun i => (S s, (i : Int), ())) (blN s) (fin := some (S (if rsL s = [] then s else starL s)))
    (fun rec i hi => by
      unfold f379l0s
      simp only [S_size]
      rw [bif_true (by simp <;> omega), bif_true (by simp <;> omega), bt32 (by omega), bl_get hi, bif_false (by decide), wi (by omega) (by omega)]
      rfl)
    (fun rec => by
      unfold f379l0s
      simp only [S_size]
      by_cases hr : rsL s = []
      · have hb' := hb
        rw [hr] at hb'
        simp at hb'
        rw [bif_false (by simp <;> omega), if_pos hr]
      · obtain ⟨h1, h2⟩ := bl_end hr
        rw [bif_true (by simpa using h1), bif_true (by simp <;> omega), bt32 h1, bif_true (by simpa using h2), if_neg hr]
        have hf := f72q (c := 42) (n := blN s) (by omega)
        have hf : f72F 1000 (42, ((blN s : Nat) : Int)) = some (S (List.replicate (blN s) 42)) := hf
        rw [hf, bind_some', bif_true (sliceB (by omega) (Nat.le_refl _)), Int.toNat_natCast, Int.toNat_natCast, S_cut, take_all]
        have e3 : s.drop (blN s) = rsL s := by
          conv => lhs; arg 2; rw [bl_rs s]
          rw [List.drop_append_of_le_length (by simp)]
          simp
        rw [e3]
        simp only [S_app, S_size]
        rw [bif_true (by simp <;> omega)]
        rfl) (k := 1000) (by omega)
  exact key
end Go.Proofs.YtecbbmokocnadaaDoor
/-! Plain laws: types and codes checked; the text by a code, as both make it. -/
set_option linter.unusedVariables false
set_option linter.unusedSimpArgs false
namespace Go.Proofs.YtecbbmokocnadaaDoor
open Go.Ab

theorem f338q (k : Nat) (b : Bool) (e : Int) : f338F k (b, e) = some (if b = true then e else 0) := by
  unfold f338F
  cases b <;> rfl
theorem f334l0_step {R : Type} (k : Nat) (rec : List Int × Int × Int × Unit → Option R) (k0 : Int × Unit → Option R) (k1 : Unit → Option R) (l : List Int) (i : Nat) (hl : l.length < 1000) (hi : i < l.length) :
    f334l0s k rec k0 k1 (l, (l.length : Int), (i : Int), ()) = if l.getD i 0 = 0 then rec (l, (l.length : Int), ((i + 1 : Nat) : Int), ()) else k0 (l.getD i 0, ()) := by
  unfold f334l0s
  have h1 : (i : Int) < (l.length : Int) := by omega
  simp only [h1, decide_true, cond_true, Int.natCast_nonneg, Bool.and_self, Int.toNat_natCast, wi (x := (i : Int) + 1) (by omega) (by omega)]
  by_cases h : l.getD i 0 = 0
  · rw [if_pos h, h]; rfl
  · rw [if_neg h]
    have : (l.getD i 0 != 0) = true := by simpa using h
    rw [this]
    rfl
theorem f334q (a b : Int) : f334F 1000 [a, b] = some (if a = 0 then b else a) := by
  have e0 : ∀ {R : Type} (Step : (List Int × Int × Int × Unit → Option R) → List Int × Int × Int × Unit → Option R) v, iterS Step 1000 v = Step (fun v => Step (fun v => Step (iterS Step 997) v) v) v := fun _ _ => rfl
  unfold f334F f334l0
  rw [e0]
  have s0 := fun rec k0 k1 => f334l0_step (R := Int) 1000 rec k0 k1 [a, b] 0 (by simp) (by simp)
  have s1 := fun rec k0 k1 => f334l0_step (R := Int) 1000 rec k0 k1 [a, b] 1 (by simp) (by simp)
  have s2 : ∀ rec k0 k1, f334l0s (R := Int) 1000 rec k0 k1 ([a, b], (([a, b].length : Nat) : Int), ((2 : Nat) : Int), ()) = k1 () := fun _ _ _ => rfl
  have z0 : ((0 : Nat) : Int) = 0 := rfl
  rw [z0] at s0
  rw [s0]
  simp only [Nat.zero_add, s1, Nat.reduceAdd, s2]
  by_cases ha : a = 0 <;> by_cases hb : b = 0 <;> simp [ha, hb]

/-- The error of a type and a code. -/
def edErr (kd ln sc code fill : Int) : Int :=
  if tyErr kd ln sc ≠ 0 then tyErr kd ln sc
  else if ¬ (1 ≤ kd ∧ kd ≤ 3) then 17
  else if ¬ (code = 49 ∨ code = 50 ∨ code = 51 ∨ code = 52 ∨ code = 65 ∨ code = 66 ∨ code = 67 ∨ code = 68 ∨ code = 74 ∨ code = 75 ∨ code = 76 ∨ code = 77 ∨ code = 78 ∨ code = 79 ∨ code = 80 ∨ code = 81 ∨ code = 88 ∨ code = 89 ∨ code = 90) then 4
  else if ¬ (0 ≤ fill ∧ fill ≤ 2) then 3
  else if fill ≠ 0 ∧ 78 ≤ code then 15
  else if code = 89 ∧ ¬ (ln = 4 ∨ ln = 6 ∨ ln = 8) then 18
  else if code = 89 ∧ sc > 0 then 5
  else 0

theorem f365q (kd ln sc : Int) : f365F 1000 (kd, ln, sc) = some (if tyErr kd ln sc ≠ 0 then tyErr kd ln sc else if ¬ (1 ≤ kd ∧ kd ≤ 3) then 17 else 0) := by
  unfold f365F
  simp only [f28q, f338q, f334q, bind_some']
  by_cases ht : tyErr kd ln sc = 0
  · obtain ⟨a1, a2, _⟩ := ty_ok ht
    rw [ht]
    by_cases h0 : kd = 0
    · subst h0; simp
    · rw [bif_false (by simpa using h0)]
      by_cases h4 : kd = 4
      · subst h4; simp
      · have : 1 ≤ kd ∧ kd ≤ 3 := by omega
        simp [h4, this]
  · by_cases h0 : kd = 0
    · subst h0; simp [ht]
    · rw [bif_false (by simpa using h0)]
      simp [ht]

/-- How the program checks a code, once its style is known. -/
theorem f335s {kd ln sc code fill y : Int} {sg : Int} {cm nz : Bool} (hi : f366F 1000 ((⟨#[49, 50, 51, 52, 65, 66, 67, 68, 74, 75, 76, 77, 78, 79, 80, 81]⟩ : ByteArray), code) = some y) (hs : f352F 1000 code = some (sg, (cm, nz)))
    (ht : tyErr kd ln sc = 0) (hk : 1 ≤ kd ∧ kd ≤ 3) :
    f335F 1000 ((kd, (ln, sc)), (code, fill)) = some (if y < 0 ∧ ¬ (code = 88 ∨ code = 89 ∨ code = 90) then 4
      else if ¬ (0 ≤ fill ∧ fill ≤ 2) then 3
      else if fill ≠ 0 ∧ ¬ (y ≥ 0 ∧ sg ≠ 3) then 15
      else if code = 89 ∧ ¬ (ln = 4 ∨ ln = 6 ∨ ln = 8) then 18
      else if code = 89 ∧ sc > 0 then 5 else 0) := by
  unfold f335F f335p0 f353F
  simp only [f365q, ht, hk, ne_eq, not_true_eq_false, if_false, and_self, bind_some', bne_self_eq_false, cond_false, hi, hs, f338q, f334q]
  by_cases hy : y ≥ 0
  · have hy2 : ¬ y < 0 := by omega
    simp only [hy, hy2, decide_true, Bool.not_true, cond_false, cond_true, false_and, if_false, true_and]
    by_cases f0 : fill < 0
    · have : ¬ (0 ≤ fill ∧ fill ≤ 2) := by omega
      have hf : fill ≠ 0 := by omega
      simp [cond_eq_ite, f0, this, hf]
    · by_cases f3 : fill ≥ 3
      · have : ¬ (0 ≤ fill ∧ fill ≤ 2) := by omega
        have hf : fill ≠ 0 := by omega
        simp [cond_eq_ite, f0, f3, this, hf]
      · have hr : 0 ≤ fill ∧ fill ≤ 2 := by omega
        by_cases fz : fill = 0
        · subst fz
          by_cases c9 : code = 89
          · subst c9
            by_cases l4 : ln = 4 <;> by_cases l6 : ln = 6 <;> by_cases l8 : ln = 8 <;> by_cases s0 : sc > 0 <;> simp [cond_eq_ite, l4, l6, l8, s0]
          · simp [cond_eq_ite, c9]
        · by_cases h3 : sg = 3
          · simp [cond_eq_ite, f0, f3, hr, fz, h3]
          · by_cases c9 : code = 89
            · subst c9
              by_cases l4 : ln = 4 <;> by_cases l6 : ln = 6 <;> by_cases l8 : ln = 8 <;> by_cases s0 : sc > 0 <;> simp [cond_eq_ite, f0, f3, hr, fz, h3, l4, l6, l8, s0]
            · simp [cond_eq_ite, f0, f3, hr, fz, h3, c9]
  · have hy2 : y < 0 := by omega
    simp only [hy, hy2, decide_false, Bool.not_false, cond_false, cond_true, true_and, false_and, not_false_eq_true, and_true]
    by_cases c8 : code = 88
    · subst c8
      by_cases f0 : fill < 0
      · have : ¬ (0 ≤ fill ∧ fill ≤ 2) := by omega
        have hf : fill ≠ 0 := by omega
        simp [cond_eq_ite, f0, this, hf]
      · by_cases f3 : fill ≥ 3
        · have : ¬ (0 ≤ fill ∧ fill ≤ 2) := by omega
          have hf : fill ≠ 0 := by omega
          simp [cond_eq_ite, f0, f3, this, hf]
        · have hr : 0 ≤ fill ∧ fill ≤ 2 := by omega
          by_cases fz : fill = 0
          · subst fz; simp [cond_eq_ite]
          · simp [cond_eq_ite, f0, f3, hr, fz]
    by_cases c9 : code = 89
    · subst c9
      by_cases f0 : fill < 0
      · have : ¬ (0 ≤ fill ∧ fill ≤ 2) := by omega
        have hf : fill ≠ 0 := by omega
        simp [cond_eq_ite, f0, this, hf]
      · by_cases f3 : fill ≥ 3
        · have : ¬ (0 ≤ fill ∧ fill ≤ 2) := by omega
          have hf : fill ≠ 0 := by omega
          simp [cond_eq_ite, f0, f3, this, hf]
        · have hr : 0 ≤ fill ∧ fill ≤ 2 := by omega
          by_cases fz : fill = 0
          · subst fz
            by_cases l4 : ln = 4 <;> by_cases l6 : ln = 6 <;> by_cases l8 : ln = 8 <;> by_cases s0 : sc > 0 <;> simp [cond_eq_ite, l4, l6, l8, s0]
          · simp [cond_eq_ite, f0, f3, hr, fz]
    by_cases c90 : code = 90
    · subst c90
      by_cases f0 : fill < 0
      · have : ¬ (0 ≤ fill ∧ fill ≤ 2) := by omega
        have hf : fill ≠ 0 := by omega
        simp [cond_eq_ite, f0, this, hf]
      · by_cases f3 : fill ≥ 3
        · have : ¬ (0 ≤ fill ∧ fill ≤ 2) := by omega
          have hf : fill ≠ 0 := by omega
          simp [cond_eq_ite, f0, f3, this, hf]
        · have hr : 0 ≤ fill ∧ fill ≤ 2 := by omega
          by_cases fz : fill = 0
          · subst fz; simp [cond_eq_ite]
          · simp [cond_eq_ite, f0, f3, hr, fz]
    · simp [cond_eq_ite, c8, c9, c90]

/-- The sign, the commas, the zeros of a code. -/
def sgOf (code : Int) : Int := if code ≤ 52 then 0 else if code ≤ 68 then 1 else if code ≤ 77 then 2 else 3
def cmOf (code : Int) : Bool := decide (code = 49 ∨ code = 50 ∨ code = 65 ∨ code = 66 ∨ code = 74 ∨ code = 75 ∨ code = 78 ∨ code = 79)
def nzOf (code : Int) : Bool := decide (code = 50 ∨ code = 52 ∨ code = 66 ∨ code = 68 ∨ code = 75 ∨ code = 77 ∨ code = 79 ∨ code = 81)
def plainC (code : Int) : Prop := code = 49 ∨ code = 50 ∨ code = 51 ∨ code = 52 ∨ code = 65 ∨ code = 66 ∨ code = 67 ∨ code = 68 ∨ code = 74 ∨ code = 75 ∨ code = 76 ∨ code = 77 ∨ code = 78 ∨ code = 79 ∨ code = 80 ∨ code = 81
theorem style {code : Int} (h : plainC code) : f352F 1000 code = some (sgOf code, (cmOf code, nzOf code)) ∧ ∃ y, f366F 1000 ((⟨#[49, 50, 51, 52, 65, 66, 67, 68, 74, 75, 76, 77, 78, 79, 80, 81]⟩ : ByteArray), code) = some y ∧ y ≥ 0 := by
  rcases h with rfl | rfl | rfl | rfl | rfl | rfl | rfl | rfl | rfl | rfl | rfl | rfl | rfl | rfl | rfl | rfl <;> exact ⟨by kernel_rfl, _, rfl, by decide⟩
theorem indexB_none : ∀ {l : List UInt8} {c : UInt8}, (∀ b ∈ l, b ≠ c) → Lib.indexByte l c = -1
  | [], _, _ => rfl
  | b :: l, c, h => by
    have ih := indexB_none (l := l) (c := c) fun x hx => h x (by simp [hx])
    have hb := h b (by simp)
    unfold Lib.indexByte
    rw [if_neg (by simpa using hb), ih]
    rfl
theorem style_no {code : Int} (h : ¬ plainC code) (h0 : 0 ≤ code) (h1 : code ≤ 255) : f366F 1000 ((⟨#[49, 50, 51, 52, 65, 66, 67, 68, 74, 75, 76, 77, 78, 79, 80, 81]⟩ : ByteArray), code) = some (-1) := by
  unfold f366F
  congr 1
  refine indexB_none fun b hb e => h ?_
  have hb : b ∈ ([49, 50, 51, 52, 65, 66, 67, 68, 74, 75, 76, 77, 78, 79, 80, 81] : List UInt8) := hb
  have hc : (b.toNat : Int) = code := by
    rw [e]
    have : code.toNat.toUInt8.toNat = code.toNat % 256 := by simp [Nat.toUInt8, UInt8.toNat_ofNat']
    rw [this]
    omega
  rw [← hc]
  unfold plainC
  simp only [List.mem_cons, List.not_mem_nil, or_false] at hb
  rcases hb with rfl | rfl | rfl | rfl | rfl | rfl | rfl | rfl | rfl | rfl | rfl | rfl | rfl | rfl | rfl | rfl <;> decide
theorem f352s {code : Int} (h0 : 0 ≤ code) (h1 : code ≤ 255) : ∃ sg cm nz, f352F 1000 code = some (sg, (cm, nz)) := by
  unfold f352F f366F
  exact ⟨_, _, _, rfl⟩

theorem edErr_num {kd ln sc code fill : Int} (ht : tyErr kd ln sc = 0) (hk : 1 ≤ kd ∧ kd ≤ 3) : edErr kd ln sc code fill = if ¬ (code = 49 ∨ code = 50 ∨ code = 51 ∨ code = 52 ∨ code = 65 ∨ code = 66 ∨ code = 67 ∨ code = 68 ∨ code = 74 ∨ code = 75 ∨ code = 76 ∨ code = 77 ∨ code = 78 ∨ code = 79 ∨ code = 80 ∨ code = 81 ∨ code = 88 ∨ code = 89 ∨ code = 90) then 4
  else if ¬ (0 ≤ fill ∧ fill ≤ 2) then 3
  else if fill ≠ 0 ∧ 78 ≤ code then 15
  else if code = 89 ∧ ¬ (ln = 4 ∨ ln = 6 ∨ ln = 8) then 18
  else if code = 89 ∧ sc > 0 then 5
  else 0 := by
  unfold edErr
  rw [if_neg (fun c => c ht), if_neg (fun c => c hk)]

theorem f335q {kd ln sc code fill : Int} (h0 : 0 ≤ code) (h1 : code ≤ 255) : f335F 1000 ((kd, (ln, sc)), (code, fill)) = some (edErr kd ln sc code fill) := by
  by_cases ht : tyErr kd ln sc = 0
  · by_cases hk : 1 ≤ kd ∧ kd ≤ 3
    · rw [edErr_num ht hk]
      by_cases hp : plainC code
      · obtain ⟨h2, y, h3, h4⟩ := style hp
        rw [f335s h3 h2 ht hk]
        have hy : ¬ y < 0 := by omega
        unfold plainC at hp
        have hin : (code = 49 ∨ code = 50 ∨ code = 51 ∨ code = 52 ∨ code = 65 ∨ code = 66 ∨ code = 67 ∨ code = 68 ∨ code = 74 ∨ code = 75 ∨ code = 76 ∨ code = 77 ∨ code = 78 ∨ code = 79 ∨ code = 80 ∨ code = 81 ∨ code = 88 ∨ code = 89 ∨ code = 90) := by omega
        have hsg : sgOf code = 3 ↔ 78 ≤ code := by
          unfold sgOf
          repeat' split
          all_goals omega
        have e15 : (fill ≠ 0 ∧ ¬ (y ≥ 0 ∧ sgOf code ≠ 3)) ↔ (fill ≠ 0 ∧ 78 ≤ code) := by
          rw [← hsg]
          constructor
          · rintro ⟨a, b⟩; exact ⟨a, Decidable.byContradiction fun c => b ⟨h4, c⟩⟩
          · rintro ⟨a, b⟩; exact ⟨a, fun c => c.2 b⟩
        have n1 : ¬ (y < 0 ∧ ¬ (code = 88 ∨ code = 89 ∨ code = 90)) := fun c => hy c.1
        have n2 : ¬ ¬ (code = 49 ∨ code = 50 ∨ code = 51 ∨ code = 52 ∨ code = 65 ∨ code = 66 ∨ code = 67 ∨ code = 68 ∨ code = 74 ∨ code = 75 ∨ code = 76 ∨ code = 77 ∨ code = 78 ∨ code = 79 ∨ code = 80 ∨ code = 81 ∨ code = 88 ∨ code = 89 ∨ code = 90) := fun c => c hin
        rw [if_neg n1, if_neg n2]
        simp only [e15]
      · obtain ⟨sg, cm, nz, h2⟩ := f352s h0 h1
        rw [f335s (style_no hp h0 h1) h2 ht hk]
        unfold plainC at hp
        by_cases h3 : code = 88 ∨ code = 89 ∨ code = 90
        · have hin : (code = 49 ∨ code = 50 ∨ code = 51 ∨ code = 52 ∨ code = 65 ∨ code = 66 ∨ code = 67 ∨ code = 68 ∨ code = 74 ∨ code = 75 ∨ code = 76 ∨ code = 77 ∨ code = 78 ∨ code = 79 ∨ code = 80 ∨ code = 81 ∨ code = 88 ∨ code = 89 ∨ code = 90) := by omega
          have n1 : ¬ ((-1 : Int) < 0 ∧ ¬ (code = 88 ∨ code = 89 ∨ code = 90)) := fun c => c.2 h3
          have n2 : ¬ ¬ (code = 49 ∨ code = 50 ∨ code = 51 ∨ code = 52 ∨ code = 65 ∨ code = 66 ∨ code = 67 ∨ code = 68 ∨ code = 74 ∨ code = 75 ∨ code = 76 ∨ code = 77 ∨ code = 78 ∨ code = 79 ∨ code = 80 ∨ code = 81 ∨ code = 88 ∨ code = 89 ∨ code = 90) := fun c => c hin
          rw [if_neg n1, if_neg n2]
          have e15 : (fill ≠ 0 ∧ ¬ ((-1 : Int) ≥ 0 ∧ sg ≠ 3)) ↔ (fill ≠ 0 ∧ 78 ≤ code) := by
            constructor
            · rintro ⟨a, b⟩; exact ⟨a, by omega⟩
            · rintro ⟨a, b⟩; exact ⟨a, fun c => by omega⟩
          simp only [e15]
        · have p1 : ((-1 : Int) < 0 ∧ ¬ (code = 88 ∨ code = 89 ∨ code = 90)) := ⟨by decide, h3⟩
          have p2 : ¬ (code = 49 ∨ code = 50 ∨ code = 51 ∨ code = 52 ∨ code = 65 ∨ code = 66 ∨ code = 67 ∨ code = 68 ∨ code = 74 ∨ code = 75 ∨ code = 76 ∨ code = 77 ∨ code = 78 ∨ code = 79 ∨ code = 80 ∨ code = 81 ∨ code = 88 ∨ code = 89 ∨ code = 90) := by omega
          rw [if_pos p1, if_pos p2]
    · unfold f335F edErr
      simp only [f365q, ht, hk, ne_eq, not_true_eq_false, not_false_eq_true, if_false, if_true, bind_some']
      rfl
  · unfold f335F edErr
    simp only [f365q, ht, ne_eq, not_false_eq_true, if_true, bind_some']
    rw [bif_true (by simpa using ht)]

theorem f321q {kd ln sc code fill : Int} (h0 : 0 ≤ code) (h1 : code ≤ 255) : f321F 1000 ((kd, (ln, sc)), (code, fill)) = some (edErr kd ln sc code fill) := by
  unfold f321F f321p0 f321p1 f321p2 edErr
  have e19 : (⟨#[49, 50, 51, 52, 65, 66, 67, 68, 74, 75, 76, 77, 78, 79, 80, 81, 88, 89, 90]⟩ : ByteArray) = S [49, 50, 51, 52, 65, 66, 67, 68, 74, 75, 76, 77, 78, 79, 80, 81, 88, 89, 90] := rfl
  have e12 : (⟨#[49, 50, 51, 52, 65, 66, 67, 68, 74, 75, 76, 77]⟩ : ByteArray) = S [49, 50, 51, 52, 65, 66, 67, 68, 74, 75, 76, 77] := rfl
  simp only [f27q, f68q, f48q, e19, e12, bind_some']
  rw [f346q _ _ (by simp)]
  by_cases ht : tyErr kd ln sc = 0
  · rw [ht, bif_false (by rfl), if_neg (by simp)]
    by_cases hk : 1 ≤ kd ∧ kd ≤ 3
    · rw [decide_eq_true hk, bif_false (by rfl), if_neg (fun c => c hk), bind_some']
      by_cases hin : (code = 49 ∨ code = 50 ∨ code = 51 ∨ code = 52 ∨ code = 65 ∨ code = 66 ∨ code = 67 ∨ code = 68 ∨ code = 74 ∨ code = 75 ∨ code = 76 ∨ code = 77 ∨ code = 78 ∨ code = 79 ∨ code = 80 ∨ code = 81 ∨ code = 88 ∨ code = 89 ∨ code = 90)
      · have hany : (([49, 50, 51, 52, 65, 66, 67, 68, 74, 75, 76, 77, 78, 79, 80, 81, 88, 89, 90] : List UInt8).any fun b => (b.toNat : Int) == code) = true := by
          rcases hin with rfl | rfl | rfl | rfl | rfl | rfl | rfl | rfl | rfl | rfl | rfl | rfl | rfl | rfl | rfl | rfl | rfl | rfl | rfl <;> decide
        rw [hany, bif_false (by rfl), if_neg (fun c => c hin)]
        by_cases hf : 0 ≤ fill ∧ fill ≤ 2
        · rw [decide_eq_true hf, bif_false (by rfl), if_neg (fun c => c hf)]
          have tail : (if fill ≠ 0 ∧ 78 ≤ code then (15 : Int) else if code = 89 ∧ ¬ (ln = 4 ∨ ln = 6 ∨ ln = 8) then 18 else if code = 89 ∧ sc > 0 then 5 else 0) = (if fill ≠ 0 ∧ 78 ≤ code then (15 : Int) else if code = 89 ∧ ¬ (ln = 4 ∨ ln = 6 ∨ ln = 8) then 18 else if code = 89 ∧ sc > 0 then 5 else 0) := rfl
          have rest : ∀ (e : ¬ (fill ≠ 0 ∧ 78 ≤ code)), (bif (code == (89 : Int)) then
              bif (ln != (4 : Int)) then
                bif (ln != (6 : Int)) then
                  bif (ln != (8 : Int)) then
                    some (18 : Int)
                  else
                  bif (code == (89 : Int)) then bif (decide (sc > (0 : Int))) then some (5 : Int) else some 0 else some 0
                else
                bif (code == (89 : Int)) then bif (decide (sc > (0 : Int))) then some (5 : Int) else some 0 else some 0
              else
              bif (code == (89 : Int)) then bif (decide (sc > (0 : Int))) then some (5 : Int) else some 0 else some 0
            else
            bif (code == (89 : Int)) then bif (decide (sc > (0 : Int))) then some (5 : Int) else some 0 else some 0) = some (if fill ≠ 0 ∧ 78 ≤ code then (15 : Int) else if code = 89 ∧ ¬ (ln = 4 ∨ ln = 6 ∨ ln = 8) then 18 else if code = 89 ∧ sc > 0 then 5 else 0) := by
            intro e
            rw [if_neg e]
            by_cases c9 : code = 89
            · subst c9
              by_cases l4 : ln = 4 <;> by_cases l6 : ln = 6 <;> by_cases l8 : ln = 8 <;> by_cases s0 : sc > 0 <;> simp [cond_eq_ite, l4, l6, l8, s0]
            · simp [cond_eq_ite, c9]
          by_cases hz : fill = 0
          · rw [bif_false (by simpa using hz)]
            exact rest (fun c => c.1 hz)
          · rw [bif_true (by simpa using hz), f346q _ _ (by simp), bind_some']
            by_cases h78 : 78 ≤ code
            · have hn : (([49, 50, 51, 52, 65, 66, 67, 68, 74, 75, 76, 77] : List UInt8).any fun b => (b.toNat : Int) == code) = false := by
                rcases hin with rfl | rfl | rfl | rfl | rfl | rfl | rfl | rfl | rfl | rfl | rfl | rfl | rfl | rfl | rfl | rfl | rfl | rfl | rfl <;> first | decide | (exfalso; revert h78; decide)
              rw [hn, bif_true (by rfl), if_pos ⟨hz, h78⟩]
            · have hn : (([49, 50, 51, 52, 65, 66, 67, 68, 74, 75, 76, 77] : List UInt8).any fun b => (b.toNat : Int) == code) = true := by
                rcases hin with rfl | rfl | rfl | rfl | rfl | rfl | rfl | rfl | rfl | rfl | rfl | rfl | rfl | rfl | rfl | rfl | rfl | rfl | rfl <;> first | decide | (exfalso; revert h78; decide)
              rw [hn, bif_false (by rfl)]
              exact rest (fun c => h78 c.2)
        · rw [decide_eq_false hf, bif_true (by rfl), if_pos hf]
      · have hany : (([49, 50, 51, 52, 65, 66, 67, 68, 74, 75, 76, 77, 78, 79, 80, 81, 88, 89, 90] : List UInt8).any fun b => (b.toNat : Int) == code) = false := by
          rw [List.any_eq_false]
          intro b hb he
          have he : (b.toNat : Int) = code := by simpa using he
          refine hin ?_
          rw [← he]
          simp only [List.mem_cons, List.not_mem_nil, or_false] at hb
          rcases hb with rfl | rfl | rfl | rfl | rfl | rfl | rfl | rfl | rfl | rfl | rfl | rfl | rfl | rfl | rfl | rfl | rfl | rfl | rfl <;> decide
        rw [hany, bif_true (by rfl), if_pos hin]
    · rw [decide_eq_false hk, bif_true (by rfl), if_pos hk]
  · rw [bif_true (by simpa using ht), if_pos ht]
end Go.Proofs.YtecbbmokocnadaaDoor
/-! Plain laws: the text by a code is as the reference says. -/
set_option linter.unusedVariables false
set_option linter.unusedSimpArgs false
namespace Go.Proofs.YtecbbmokocnadaaDoor
open Go.Ab

/-- The text as the reference makes it, behind the digits. -/
def rfL (n fill sg : Int) (nz : Bool) (s0 : List UInt8) : List UInt8 :=
  let s1 := if sg = 1 then s0 ++ (if n < 0 then [67, 82] else [32, 32]) else if sg = 2 then s0 ++ (if n < 0 then [45] else [32]) else s0
  let s2 := if n = 0 ∧ nz = true then List.replicate s1.length 32 else s1
  if fill = 2 then aflL s2 [36] else if fill = 1 then (if rsL s2 = [] then s2 else starL s2) else if sg = 3 then (if n < 0 then aflL s2 [45] else 32 :: s2) else s2

theorem tx_rf {n fill sg : Int} {nz : Bool} {s0 : List UInt8} (h0 : ∃ b ∈ s0, b ≠ 32) (hs : sg = 3 → fill = 0) (hf : 0 ≤ fill ∧ fill ≤ 2) : txL n fill sg nz s0 = rfL n fill sg nz s0 := by
  obtain ⟨b, hb, hb2⟩ := h0
  unfold txL rfL
  by_cases c3 : sg = 3
  · have hz := hs c3
    subst c3
    subst hz
    simp only [show ¬ ((3 : Int) = 1) by decide, show ¬ ((3 : Int) = 2) by decide, show ¬ ((0 : Int) = 2) by decide, show ¬ ((0 : Int) = 1) by decide, if_false, if_true]
    by_cases hn : n = 0 ∧ nz = true
    · rw [if_pos hn, if_pos hn]
      have h2 : ¬ n < 0 := by omega
      simp only [if_neg h2]
      rw [afl_length, List.replicate_succ]
    · rw [if_neg hn, if_neg hn]
      by_cases h2 : n < 0
      · rw [if_pos h2, if_pos h2]
      · rw [if_neg h2, if_neg h2, afl_blank]
  · simp only [if_neg c3]
    generalize hs1 : (if sg = 1 then s0 ++ (if n < 0 then [67, 82] else [32, 32]) else if sg = 2 then s0 ++ (if n < 0 then [45] else [32]) else s0) = s1
    have hb1 : b ∈ s1 := by
      rw [← hs1]
      split
      · exact List.mem_append_left _ hb
      · split
        · exact List.mem_append_left _ hb
        · exact hb
    have hr : rsL s1 ≠ [] := by
      have := rs_mem hb1 hb2
      simpa using this
    by_cases f2 : fill = 2
    · subst f2
      simp only [if_true, show ¬ ((2 : Int) = 1) by decide, if_false]
      by_cases hn : n = 0 ∧ nz = true
      · rw [if_pos hn, if_pos hn, afl_length]
        unfold aflL
        rw [rs_replicate]
        simp [List.replicate_succ]
      · rw [if_neg hn, if_neg hn]
    · simp only [if_neg f2]
      by_cases f1 : fill = 1
      · subst f1
        simp only [if_true]
        by_cases hn : n = 0 ∧ nz = true
        · rw [if_pos hn, if_pos hn, rs_replicate]
          simp
        · rw [if_neg hn, if_neg hn, if_neg hr]
      · simp only [if_neg f1]

theorem f337t {n fill code : Int} {s0 : List UInt8} (hp : plainC code) (hs : s0.length ≤ 100) :
    f337p1 1000 (fun (w9 : Int × ByteArray × Int × Int × Unit) =>
          f337p2 1000
            (fun (w11 : Int × ByteArray × Int × Int × Unit) =>
              f337p3 1000
                (fun (w14 : Int × ByteArray × Int × Int × Unit) =>
                  f337p4 1000
                    (fun (w21 : ByteArray × ByteArray × Unit) =>
                      some w21.1)
                    (fun (w22 : ByteArray × Unit) =>
                      some w22.1)
                    (w14.1, w14.2.1, w14.2.2.1, w14.2.2.2.1, ()))
                (w11.1, w11.2.1, w11.2.2.1, w11.2.2.2.1, ()))
            (w9.1, w9.2.1, w9.2.2.1, w9.2.2.2.1, ())) (n, S s0, code, fill, ()) = some (S (rfL n fill (sgOf code) (nzOf code) s0)) := by
  have eA : (⟨#[65, 66, 67, 68]⟩ : ByteArray) = S [65, 66, 67, 68] := rfl
  have eJ : (⟨#[74, 75, 76, 77]⟩ : ByteArray) = S [74, 75, 76, 77] := rfl
  have eN : (⟨#[78, 79, 80, 81]⟩ : ByteArray) = S [78, 79, 80, 81] := rfl
  have eZ : (⟨#[50, 52, 66, 68, 75, 77, 79, 81]⟩ : ByteArray) = S [50, 52, 66, 68, 75, 77, 79, 81] := rfl
  have eCR : (⟨#[67, 82]⟩ : ByteArray) = S [67, 82] := rfl
  have eBB : (⟨#[32, 32]⟩ : ByteArray) = S [32, 32] := rfl
  have eM : (⟨#[45]⟩ : ByteArray) = S [45] := rfl
  have eB : (⟨#[32]⟩ : ByteArray) = S [32] := rfl
  have aA : f346F 1000 (code, S [65, 66, 67, 68]) = some (decide (sgOf code = 1)) := by
    rw [f346q _ _ (by simp)]
    rcases hp with rfl | rfl | rfl | rfl | rfl | rfl | rfl | rfl | rfl | rfl | rfl | rfl | rfl | rfl | rfl | rfl <;> decide
  have aJ : f346F 1000 (code, S [74, 75, 76, 77]) = some (decide (sgOf code = 2)) := by
    rw [f346q _ _ (by simp)]
    rcases hp with rfl | rfl | rfl | rfl | rfl | rfl | rfl | rfl | rfl | rfl | rfl | rfl | rfl | rfl | rfl | rfl <;> decide
  have aN : f346F 1000 (code, S [78, 79, 80, 81]) = some (decide (sgOf code = 3)) := by
    rw [f346q _ _ (by simp)]
    rcases hp with rfl | rfl | rfl | rfl | rfl | rfl | rfl | rfl | rfl | rfl | rfl | rfl | rfl | rfl | rfl | rfl <;> decide
  have aZ : f346F 1000 (code, S [50, 52, 66, 68, 75, 77, 79, 81]) = some (nzOf code) := by
    rw [f346q _ _ (by simp)]
    rcases hp with rfl | rfl | rfl | rfl | rfl | rfl | rfl | rfl | rfl | rfl | rfl | rfl | rfl | rfl | rfl | rfl <;> decide
  generalize sgOf code = sg at *
  generalize nzOf code = nz at *
  have P4 : ∀ s2 : List UInt8, s2.length ≤ 200 → f337p4 1000 (fun (w21 : ByteArray × ByteArray × Unit) => some w21.1) (fun (w22 : ByteArray × Unit) => some w22.1) (n, S s2, code, fill, ()) =
      some (S (if fill = 2 then aflL s2 [36] else if fill = 1 then (if rsL s2 = [] then s2 else starL s2) else if sg = 3 then (if n < 0 then aflL s2 [45] else 32 :: s2) else s2)) := by
    intro s2 h2
    unfold f337p4
    have h36 := f378q (s := s2) (c := 36) (by omega)
    have h36 : f378F 1000 (S s2, 36) = some (S (aflL s2 [36])) := h36
    have h45 := f378q (s := s2) (c := 45) (by omega)
    have h45 : f378F 1000 (S s2, 45) = some (S (aflL s2 [45])) := h45
    simp only [h36, h45, f379q (s := s2) (by omega), eN, eB, aN, bind_some', S_app, S_size]
    by_cases f2 : fill = 2
    · rw [bif_true (by simpa using f2), if_pos f2]
    · rw [bif_false (by simpa using f2), if_neg f2]
      by_cases f1 : fill = 1
      · rw [bif_true (by simpa using f1), if_pos f1]
      · rw [bif_false (by simpa using f1), if_neg f1]
        by_cases c3 : sg = 3
        · rw [if_pos c3, bif_true (by simpa using c3)]
          by_cases hn : n < 0
          · rw [bif_true (by simpa using hn), if_pos hn]
          · rw [bif_false (by simpa using hn), if_neg hn, bif_true (by simpa using c3), bif_true (by simp <;> omega)]
            rfl
        · rw [if_neg c3, bif_false (by simpa using c3), bif_false (by simpa using c3)]
  have P3 : ∀ s1 : List UInt8, s1.length ≤ 200 → f337p3 1000 (fun (w14 : Int × ByteArray × Int × Int × Unit) =>
                  f337p4 1000 (fun (w21 : ByteArray × ByteArray × Unit) => some w21.1) (fun (w22 : ByteArray × Unit) => some w22.1) (w14.1, w14.2.1, w14.2.2.1, w14.2.2.2.1, ())) (n, S s1, code, fill, ()) =
      some (S (let s2 := if n = 0 ∧ nz = true then List.replicate s1.length 32 else s1
        if fill = 2 then aflL s2 [36] else if fill = 1 then (if rsL s2 = [] then s2 else starL s2) else if sg = 3 then (if n < 0 then aflL s2 [45] else 32 :: s2) else s2)) := by
    intro s1 h1
    unfold f337p3
    have hb := f72q (c := 32) (n := s1.length) (by omega)
    have hb : f72F 1000 (32, ((s1.length : Nat) : Int)) = some (S (List.replicate s1.length 32)) := hb
    simp only [eZ, aZ, bind_some', S_size]
    by_cases h0 : n = 0 ∧ nz = true
    · have P := P4 (List.replicate s1.length 32) (by simpa using h1)
      simp only [if_pos h0]
      rw [bif_true (by simpa using h0.1), h0.2, cond_true, hb, bind_some']
      exact P
    · have P := P4 s1 h1
      simp only [if_neg h0]
      by_cases hn : n = 0
      · have hz : nz = false := by
          cases nz with
          | false => rfl
          | true => exact absurd ⟨hn, rfl⟩ h0
        rw [bif_true (by simpa using hn), hz, cond_false]
        exact P
      · rw [bif_false (by simpa using hn)]
        exact P
  unfold f337p1 f337p2 rfL
  simp only [eA, eJ, aA, aJ, eCR, eBB, eM, eB, bind_some', S_app, S_size]
  by_cases c1 : sg = 1
  · have c2 : ¬ sg = 2 := by omega
    rw [bif_true (by simpa using c1), if_pos c1]
    by_cases hn : n < 0
    · rw [bif_true (by simpa using hn), if_pos hn, bif_true (by simp <;> omega), bif_false (by simpa using c2)]
      exact P3 _ (by simp <;> omega)
    · rw [bif_false (by simpa using hn), if_neg hn, bif_true (by simp <;> omega), bif_false (by simpa using c2)]
      exact P3 _ (by simp <;> omega)
  · rw [bif_false (by simpa using c1), if_neg c1]
    by_cases c2 : sg = 2
    · rw [bif_true (by simpa using c2), if_pos c2]
      by_cases hn : n < 0
      · rw [bif_true (by simpa using hn), if_pos hn, bif_true (by simp <;> omega)]
        exact P3 _ (by simp <;> omega)
      · rw [bif_false (by simpa using hn), if_neg hn, bif_true (by simp <;> omega)]
        exact P3 _ (by simp <;> omega)
    · rw [bif_false (by simpa using c2), if_neg c2]
      exact P3 _ (by omega)

/-- A text with a blank in the place of a zero in front. -/
def blank1 : List UInt8 → List UInt8
  | [] => []
  | a :: r => (if a = 48 then 32 else a) :: r
/-- A date's digits with strokes. -/
def dateL (D : List UInt8) : List UInt8 :=
  blank1 (if D.length > 4 then (D.take 2 ++ 47 :: (D.drop 2).take 2) ++ 47 :: D.drop 4 else D.take 2 ++ 47 :: D.drop 2)
theorem date_q {D : List UInt8} (h : D.length = 4 ∨ D.length = 6 ∨ D.length = 8) (hd : ∀ d ∈ D, dig d) : f368F 1000 (S D) = some (S (dateL D)) ∧ f376F 1000 (S D) = some (S (dateL D)) := by
  match D, h with
  | [a, b, c, d], _ =>
    rcases dig_all (hd a (by simp)) with rfl | rfl | rfl | rfl | rfl | rfl | rfl | rfl | rfl | rfl <;> exact ⟨by kernel_rfl, by kernel_rfl⟩
  | [a, b, c, d, e, f], _ =>
    rcases dig_all (hd a (by simp)) with rfl | rfl | rfl | rfl | rfl | rfl | rfl | rfl | rfl | rfl <;> exact ⟨by kernel_rfl, by kernel_rfl⟩
  | [a, b, c, d, e, f, g, i], _ =>
    rcases dig_all (hd a (by simp)) with rfl | rfl | rfl | rfl | rfl | rfl | rfl | rfl | rfl | rfl <;> exact ⟨by kernel_rfl, by kernel_rfl⟩

/-- The text of a number by a code. -/
def textL (ln sc n code fill : Int) : List UInt8 :=
  let D := dgL (amt n) ln.toNat
  if code = 88 then D else if code = 89 then dateL D else if code = 90 then supL false D
  else txL n fill (sgOf code) (nzOf code) (numL (cmOf code) (ln.toNat - sc.toNat) sc.toNat D)

theorem ed_ok {kd ln sc code fill : Int} (h : edErr kd ln sc code fill = 0) : tyErr kd ln sc = 0 ∧ (1 ≤ kd ∧ kd ≤ 3) ∧ (1 ≤ ln ∧ ln ≤ 15) ∧ (0 ≤ sc ∧ sc ≤ ln) ∧ (0 ≤ fill ∧ fill ≤ 2) ∧ (plainC code ∨ code = 88 ∨ code = 89 ∨ code = 90) ∧ (78 ≤ code → fill = 0) ∧ (code = 89 → ln = 4 ∨ ln = 6 ∨ ln = 8) := by
  have ht : tyErr kd ln sc = 0 := by
    apply Decidable.byContradiction
    intro c
    unfold edErr at h
    rw [if_pos c] at h
    exact c h
  obtain ⟨a1, a2, a3, a4, a5, a6, a7, a8, a9⟩ := ty_ok ht
  unfold edErr at h
  rw [if_neg (fun c => c ht)] at h
  unfold plainC
  repeat' split at h
  all_goals first | (exfalso; omega) | skip
  refine ⟨ht, by omega, a4 (by omega), ⟨a7, a9 (by omega)⟩, by omega, by omega, by omega, by omega⟩

theorem numL_nb {c : Bool} {L sc : Nat} {D : List UInt8} (hD : D.length = L) (h1 : 1 ≤ L) (hd : ∀ d ∈ D, dig d) : ∃ b ∈ numL c (L - sc) sc D, b ≠ 32 := by
  unfold numL
  by_cases h0 : 0 < sc
  · rw [if_pos h0]
    exact ⟨46, by simp, by decide⟩
  · rw [if_neg h0]
    have hsc : sc = 0 := by omega
    subst hsc
    have key : ∀ (v : List UInt8), v ≠ [] → (∀ b ∈ v, b ≠ 32) → ∃ b ∈ supL true v, b ≠ 32 := by
      intro v
      induction v with
      | nil => intro h _; exact absurd rfl h
      | cons x v ih =>
        intro _ hb
        simp only [supL]
        split
        · exact ⟨x, by simp, hb x (by simp)⟩
        · rename_i hc
          have hv : v ≠ [] := by
            intro e
            subst e
            simp at hc
          obtain ⟨b, h1, h2⟩ := ih hv fun b hb' => hb b (by simp [hb'])
          exact ⟨b, by simp [h1], h2⟩
    have hne : wV c true (D.take (L - 0)) ≠ [] := by
      rw [← List.isEmpty_eq_false_iff, wV_empty, List.isEmpty_eq_false_iff]
      intro h
      have := congrArg List.length h
      rw [List.length_take, hD] at this
      simp at this
      omega
    have hwv : ∀ {m : List UInt8} {first : Bool}, (∀ d ∈ m, dig d) → ∀ b ∈ wV c first m, b ≠ 32 := by
      intro m
      induction m with
      | nil => intro first _ b hb; simp [wV] at hb
      | cons d m ih =>
        intro first hdm b hb
        simp only [wV, List.mem_append, List.mem_cons] at hb
        rcases hb with hb | rfl | hb
        · split at hb
          · simp at hb; subst hb; decide
          · simp at hb
        · have := hdm b (by simp)
          rintro rfl
          exact absurd this.1 (by decide)
        · exact ih (fun x hx => hdm x (by simp [hx])) b hb
    exact key _ hne (hwv fun d h => hd d (List.mem_of_mem_take h))

theorem f336q {kd ln sc code fill n : Int} {s : ByteArray} (h : edErr kd ln sc code fill = 0) (n0 : -1000000000000000 ≤ n) (n1 : n ≤ 1000000000000000) : f336F 1000 ((kd, (ln, sc)), (n, s), (code, fill)) = some (S (textL ln sc n code fill)) := by
  obtain ⟨ht, hk, hl, hsc, hf, hc, h78, hY⟩ := ed_ok h
  obtain ⟨L, rfl⟩ : ∃ L : Nat, ln = L := ⟨ln.toNat, by omega⟩
  obtain ⟨C, rfl⟩ : ∃ C : Nat, sc = C := ⟨sc.toNat, by omega⟩
  have hD := dgL_length (amt n) L
  have hdg : ∀ d ∈ dgL (amt n) L, dig d := dgL_dig
  unfold f336F textL
  simp only [f367q (kd := kd) (sc := (C : Int)) (s := s) (L := L) n0 n1 (by omega), bind_some', Int.toNat_natCast]
  generalize dgL (amt n) L = D at *
  by_cases c8 : code = 88
  · rw [bif_true (by simpa using c8), if_pos c8]
  rw [bif_false (by simpa using c8), if_neg c8]
  by_cases c9 : code = 89
  · rw [bif_true (by simpa using c9), if_pos c9, (date_q (by rw [hD]; have := hY c9; omega) hdg).1, bind_some']
  rw [bif_false (by simpa using c9), if_neg c9]
  by_cases c90 : code = 90
  · have := f369a (v := D) (asc_dig hdg) (by omega)
    rw [bif_true (by simpa using c90), if_pos c90, this, bind_some']
  rw [bif_false (by simpa using c90), if_neg c90]
  have hp : plainC code := by rcases hc with h | h | h | h <;> first | exact h | exact absurd h (by assumption)
  rw [(style hp).1, bind_some', f370q hD (by omega) (by omega) (by omega) hdg, bind_some']
  have hn := numL_length (c := cmOf code) (cut := L - C) (sc := C) (D := D)
  exact f336t (n := n) (fill := fill) (sg := sgOf code) (code := code) (vs := s) (cm := cmOf code) (nz := nzOf code) (s0 := numL (cmOf code) (L - C) C D) (by omega)

theorem f337q {kd ln sc code fill n : Int} (h : edErr kd ln sc code fill = 0) (n0 : -1000000000000000 ≤ n) (n1 : n ≤ 1000000000000000) (hn : amt n < 10 ^ ln.toNat) : f337F 1000 ((kd, (ln, sc)), n, (code, fill)) = some (S (textL ln sc n code fill)) := by
  obtain ⟨ht, hk, hl, hsc, hf, hc, h78, hY⟩ := ed_ok h
  obtain ⟨L, rfl⟩ : ∃ L : Nat, ln = L := ⟨ln.toNat, by omega⟩
  obtain ⟨C, rfl⟩ : ∃ C : Nat, sc = C := ⟨sc.toNat, by omega⟩
  rw [Int.toNat_natCast] at hn
  have hD := dgL_length (amt n) L
  have hdg : ∀ d ∈ dgL (amt n) L, dig d := dgL_dig
  unfold f337F textL
  simp only [f375q (kd := kd) (sc := (C : Int)) (L := L) (by omega) (by omega) hn n0 n1, bind_some', Int.toNat_natCast]
  generalize dgL (amt n) L = D at *
  by_cases c8 : code = 88
  · rw [bif_true (by simpa using c8), if_pos c8]
  rw [bif_false (by simpa using c8), if_neg c8]
  by_cases c9 : code = 89
  · rw [bif_true (by simpa using c9), if_pos c9, (date_q (by rw [hD]; have := hY c9; omega) hdg).2, bind_some']
  rw [bif_false (by simpa using c9), if_neg c9]
  by_cases c90 : code = 90
  · rw [bif_true (by simpa using c90), if_pos c90, f377q D false false (by omega), bind_some', ← sup_wV hdg, wV_false]
  rw [bif_false (by simpa using c90), if_neg c90]
  have hp : plainC code := by rcases hc with h | h | h | h <;> first | exact h | exact absurd h (by assumption)
  have hw : IntKind.i64.wrap ((L : Int) - (C : Int)) = ((L - C : Nat) : Int) := by rw [wi (by omega) (by omega)]; omega
  have eK : (⟨#[49, 50, 65, 66, 74, 75, 78, 79]⟩ : ByteArray) = S [49, 50, 65, 66, 74, 75, 78, 79] := rfl
  have aK : f346F 1000 (code, S [49, 50, 65, 66, 74, 75, 78, 79]) = some (cmOf code) := by
    rw [f346q _ _ (by simp)]
    rcases hp with rfl | rfl | rfl | rfl | rfl | rfl | rfl | rfl | rfl | rfl | rfl | rfl | rfl | rfl | rfl | rfl <;> decide
  simp only [hw, S_size, hD, eK, aK, bind_some', Int.toNat_natCast, S_cut, List.drop_zero]
  rw [bif_true (sliceB0 (by omega))]
  have hdt : ∀ d ∈ D.take (L - C), dig d := fun d h => hdg d (List.mem_of_mem_take h)
  have hlt : (D.take (L - C)).length ≤ L := by simp; omega
  rw [f377q _ _ _ (by omega), bind_some', ← sup_wV hdt]
  have hwl := wV_length (c := cmOf code) (m := D.take (L - C)) (first := true)
  have hsl := supL_length (kl := ((C : Int) == 0)) (wV (cmOf code) true (D.take (L - C)))
  have hsgf : sgOf code = 3 → fill = 0 := by
    intro e
    refine h78 ?_
    unfold sgOf at e
    repeat' split at e
    all_goals omega
  rw [tx_rf (numL_nb hD (by omega) hdg) hsgf hf]
  have hnl := numL_length (c := cmOf code) (cut := L - C) (sc := C) (D := D)
  unfold f337p0
  by_cases h0 : 0 < C
  · have ekl : ((C : Int) == 0) = false := by simp; omega
    simp only [ekl]
    rw [ekl] at hsl
    have e46 : (⟨#[46]⟩ : ByteArray) = S [46] := rfl
    simp only [e46, S_app, S_size, S_cut, Int.toNat_natCast, hD]
    rw [bif_true (by simpa using h0), bif_true (by simp <;> omega), bif_true (sliceB (by omega) (Nat.le_refl _))]
    have e2 : (D.take L).drop (L - C) = D.drop (L - C) := by rw [← hD, take_all]
    rw [e2, bif_true (by simp <;> omega)]
    have e3 : supL false (wV (cmOf code) true (D.take (L - C))) ++ [46] ++ D.drop (L - C) = numL (cmOf code) (L - C) C D := by
      unfold numL
      rw [if_pos h0]
      simp
    simp only [e3]
    exact f337t hp (by omega)
  · have hz : C = 0 := by omega
    subst hz
    have ekl : (((0 : Nat) : Int) == 0) = true := rfl
    simp only [ekl]
    rw [bif_false (by simp)]
    have e3 : supL true (wV (cmOf code) true (D.take (L - 0))) = numL (cmOf code) (L - 0) 0 D := by
      unfold numL
      rw [if_neg (by omega)]
    rw [e3]
    exact f337t hp (by omega)

theorem val_amt {kd ln sc n : Int} {s : ByteArray} (h : valErr kd ln sc n s = 0) (hk : 1 ≤ kd ∧ kd ≤ 3) (hl : 1 ≤ ln ∧ ln ≤ 15) : (-1000000000000000 ≤ n ∧ n ≤ 1000000000000000) ∧ amt n < 10 ^ ln.toNat := by
  have hb : -(pw ln - 1) ≤ n ∧ n ≤ pw ln - 1 := by
    unfold valErr at h
    split at h
    · rename_i c; exact absurd h c
    rw [if_neg (by omega), if_neg (by omega)] at h
    split at h
    · exact absurd h (by decide)
    · split at h
      · exact absurd h (by decide)
      · rename_i c; exact Decidable.byContradiction fun e => c e
  have hp := pw_bound hl.1 hl.2
  have : pw ln = 10 ^ ln.toNat := rfl
  refine ⟨by omega, ?_⟩
  rw [← this]
  unfold amt
  split <;> omega

theorem f314q {kd ln sc code fill n : Int} {s : ByteArray} (h0 : 0 ≤ code) (h1 : code ≤ 255) : f314F 1000 ((kd, (ln, sc)), (n, s), (code, fill)) = some (if edErr kd ln sc code fill ≠ 0 then (ByteArray.empty, edErr kd ln sc code fill) else if valErr kd ln sc n s ≠ 0 then (ByteArray.empty, valErr kd ln sc n s) else (S (textL ln sc n code fill), 0)) := by
  unfold f314F
  simp only [f335q h0 h1, f29q, f334q, bind_some']
  by_cases he : edErr kd ln sc code fill = 0
  · rw [if_pos he, if_neg (fun c => c he)]
    obtain ⟨ht, hk, hl, _⟩ := ed_ok he
    by_cases hv : valErr kd ln sc n s = 0
    · obtain ⟨⟨n0, n1⟩, _⟩ := val_amt hv hk hl
      rw [bif_false (by simpa using hv), if_neg (fun c => c hv), f336q he n0 n1, bind_some']
    · rw [bif_true (by simpa using hv), if_pos hv]
  · rw [if_neg he, bif_true (by simpa using he), if_pos he]
theorem f315q {kd ln sc code fill n : Int} {s : ByteArray} (h0 : 0 ≤ code) (h1 : code ≤ 255) : f315F 1000 ((kd, (ln, sc)), (n, s), (code, fill)) = some (if edErr kd ln sc code fill ≠ 0 then (ByteArray.empty, edErr kd ln sc code fill) else if valErr kd ln sc n s ≠ 0 then (ByteArray.empty, valErr kd ln sc n s) else (S (textL ln sc n code fill), 0)) := by
  unfold f315F
  simp only [f321q h0 h1, f30q, bind_some']
  by_cases he : edErr kd ln sc code fill = 0
  · rw [bif_false (by simpa using he), if_neg (fun c => c he)]
    obtain ⟨ht, hk, hl, _⟩ := ed_ok he
    by_cases hv : valErr kd ln sc n s = 0
    · obtain ⟨⟨n0, n1⟩, ha⟩ := val_amt hv hk hl
      rw [bif_false (by simpa using hv), if_neg (fun c => c hv), f337q he n0 n1 ha, bind_some']
    · rw [bif_true (by simpa using hv), if_pos hv]
  · rw [bif_true (by simpa using he), if_pos he]

theorem byteOk {n : Int} (h : (Lit.int .u8 n).wf = true) : 0 ≤ n ∧ n ≤ 255 := by
  simp only [Lit.wf, Bool.and_eq_true, decide_eq_true_eq] at h
  have e1 : IntKind.u8.min = 0 := by decide
  have e2 : IntKind.u8.max = 255 := by decide
  omega
theorem awake_q : f313F 1000 () = some true := by kernel_rfl

theorem editTexts (x : (Int × (Int × Int)) × (Int × ByteArray) × (Int × Int)) (hc : 0 ≤ x.2.2.1 ∧ x.2.2.1 ≤ 255) : f303F 1000 x = some true := by
  obtain ⟨⟨kd, ln, sc⟩, ⟨n, s⟩, ⟨code, fill⟩⟩ := x
  unfold f303F
  simp only [awake_q, bind_some', Bool.not_true, cond_false]
  by_cases hs : (s.size : Int) > 300
  · rw [bif_true (by simpa using hs)]
  · rw [bif_false (by simpa using hs), f314q hc.1 hc.2, f315q hc.1 hc.2]
    simp only [bind_some', beq_self_eq_true, cond_true, strEq_self]
end Go.Proofs.YtecbbmokocnadaaDoor
/-! Plain laws: how long texts by a code are, and which digits they have. -/
set_option linter.unusedVariables false
set_option linter.unusedSimpArgs false
namespace Go.Proofs.YtecbbmokocnadaaDoor
open Go.Ab

theorem wV_len : ∀ {m m' : List UInt8} {c first : Bool}, m.length = m'.length → (wV c first m).length = (wV c first m').length
  | [], [], _, _, _ => rfl
  | [], _ :: _, _, _, h => by simp at h
  | _ :: _, [], _, _, h => by simp at h
  | d :: m, d' :: m', c, first, h => by
    have h : m.length = m'.length := by simpa using h
    have ih := wV_len (c := c) (first := false) h
    simp only [wV, List.length_append, List.length_cons, h, ih]
theorem numL_len {c : Bool} {cut sc : Nat} {D D' : List UInt8} (h : D.length = D'.length) : (numL c cut sc D).length = (numL c cut sc D').length := by
  have ht : (D.take cut).length = (D'.take cut).length := by simp [h]
  unfold numL
  split
  · simp [supL_length, wV_len (c := c) (first := true) ht, h]
  · simp [supL_length, wV_len (c := c) (first := true) ht]
theorem starL_length (s : List UInt8) : (starL s).length = s.length := by
  have := blN_len s
  unfold starL
  simp
  omega
theorem txL_length {n fill sg : Int} {nz : Bool} {s0 : List UInt8} : (txL n fill sg nz s0).length = s0.length + (if sg = 1 then 2 else if sg = 2 then 1 else if sg = 3 then 1 else 0) + (if fill = 2 then 1 else 0) := by
  unfold txL
  generalize hs1 : (if sg = 1 then s0 ++ (if n < 0 then [67, 82] else [32, 32]) else if sg = 2 then s0 ++ (if n < 0 then [45] else [32]) else if sg = 3 then aflL s0 (if n < 0 then [45] else [32]) else s0) = s1
  have h1 : s1.length = s0.length + (if sg = 1 then 2 else if sg = 2 then 1 else if sg = 3 then 1 else 0) := by
    rw [← hs1]
    by_cases hn : n < 0
    · simp only [if_pos hn]
      split
      · simp
      · split
        · simp
        · split
          · rw [afl_length]
          · rfl
    · simp only [if_neg hn]
      split
      · simp
      · split
        · simp
        · split
          · rw [afl_length]
          · rfl
  have h2 : (if fill = 2 then aflL s1 [36] else s1).length = s1.length + (if fill = 2 then 1 else 0) := by
    split
    · rw [afl_length]
    · rfl
  simp only []
  split
  · rw [List.length_replicate, h2, h1]
  · split
    · rw [starL_length, h2, h1]
    · rw [h2, h1]
theorem blank1_len (l : List UInt8) : (blank1 l).length = l.length := by cases l <;> rfl
theorem dateL_len {D D' : List UInt8} (h : D.length = D'.length) : (dateL D).length = (dateL D').length := by
  unfold dateL
  rw [blank1_len, blank1_len]
  simp only [h]
  split <;> simp [h]
theorem textL_len (ln sc n m code fill : Int) : (textL ln sc n code fill).length = (textL ln sc m code fill).length := by
  have h : (dgL (amt n) ln.toNat).length = (dgL (amt m) ln.toNat).length := by rw [dgL_length, dgL_length]
  unfold textL
  simp only []
  split
  · exact h
  · split
    · exact dateL_len h
    · split
      · rw [supL_length, supL_length, h]
      · rw [txL_length, txL_length, numL_len h]
theorem dateL_le {D : List UInt8} : (dateL D).length ≤ D.length + 2 := by
  unfold dateL
  rw [blank1_len]
  split <;> simp <;> omega
theorem textL_le {ln sc n code fill : Int} (hl : ln ≤ 15) : (textL ln sc n code fill).length ≤ 60 := by
  have h : (dgL (amt n) ln.toNat).length = ln.toNat := dgL_length _ _
  unfold textL
  simp only []
  split
  · omega
  · split
    · have := dateL_le (D := dgL (amt n) ln.toNat)
      omega
    · split
      · rw [supL_length]; omega
      · have := numL_length (c := cmOf code) (cut := ln.toNat - sc.toNat) (sc := sc.toNat) (D := dgL (amt n) ln.toNat)
        rw [txL_length]
        split <;> split <;> first | omega | (split <;> first | omega | (split <;> omega))

theorem amt_zero (k : Nat) : amt 0 < 10 ^ k := by
  show (0 : Int) < _
  exact Int.pow_pos (by decide)
theorem f320q {kd ln sc code fill : Int} (h0 : 0 ≤ code) (h1 : code ≤ 255) : f320F 1000 ((kd, (ln, sc)), (code, fill)) = some (if edErr kd ln sc code fill ≠ 0 then (0, edErr kd ln sc code fill) else (((textL ln sc 0 code fill).length : Int), 0)) := by
  unfold f320F
  simp only [f335q h0 h1, bind_some']
  by_cases he : edErr kd ln sc code fill = 0
  · rw [bif_false (by simpa using he), if_neg (fun c => c he), f336q he (by decide) (by decide), bind_some', S_size]
  · rw [bif_true (by simpa using he), if_pos he]
theorem f322q {kd ln sc code fill : Int} (he : edErr kd ln sc code fill = 0) : f322F 1000 ((kd, (ln, sc)), (code, fill)) = some ((textL ln sc 0 code fill).length : Int) := by
  unfold f322F
  simp only [f337q (n := 0) he (by decide) (by decide) (amt_zero _), bind_some', S_size]

theorem editWidths (x : (Int × (Int × Int)) × (Int × Int)) (hc : 0 ≤ x.2.1 ∧ x.2.1 ≤ 255) : f306F 1000 x = some true := by
  obtain ⟨⟨kd, ln, sc⟩, ⟨code, fill⟩⟩ := x
  unfold f306F
  simp only [awake_q, bind_some', Bool.not_true, cond_false, f320q hc.1 hc.2, f321q hc.1 hc.2]
  by_cases he : edErr kd ln sc code fill = 0
  · rw [if_neg (fun c => c he), bif_false (by simpa using he), bif_true (by rfl), f322q he, bind_some']
    simp
  · rw [if_pos he, bif_true (by simpa using he)]
    simp

/-! ### The digits of a text -/
/-- The number of a text's digits. -/
def gotL (a : Int) (l : List UInt8) : Int := l.foldl (fun a b => if 48 ≤ b.toNat ∧ b.toNat ≤ 57 then 10 * a + ((b.toNat : Int) - 48) else a) a
theorem got_app (a : Int) (l m : List UInt8) : gotL a (l ++ m) = gotL (gotL a l) m := by simp [gotL]
theorem got_nil (a : Int) : gotL a [] = a := rfl
theorem got_dig {a : Int} {d : UInt8} {l : List UInt8} (h : dig d) : gotL a (d :: l) = gotL (10 * a + ((d.toNat : Int) - 48)) l := by
  have h : 48 ≤ d.toNat ∧ d.toNat ≤ 57 := h
  simp [gotL, h]
theorem got_no {a : Int} {d : UInt8} {l : List UInt8} (h : ¬ (48 ≤ d.toNat ∧ d.toNat ≤ 57)) : gotL a (d :: l) = gotL a l := by
  simp [gotL, h]
theorem got_blanks (a : Int) (n : Nat) : gotL a (List.replicate n 32) = a := by
  induction n with
  | zero => rfl
  | succ n ih => rw [List.replicate_succ, got_no (by decide), ih]
theorem got_stars (a : Int) (n : Nat) : gotL a (List.replicate n 42) = a := by
  induction n with
  | zero => rfl
  | succ n ih => rw [List.replicate_succ, got_no (by decide), ih]
theorem got_wV {c : Bool} : ∀ {m : List UInt8} {first : Bool} (a : Int), gotL a (wV c first m) = gotL a m
  | [], _, _ => rfl
  | d :: m, first, a => by
    simp only [wV]
    have core : ∀ b : Int, gotL b (d :: wV c false m) = gotL b (d :: m) := by
      intro b
      by_cases h : 48 ≤ d.toNat ∧ d.toNat ≤ 57
      · rw [got_dig h, got_dig h, got_wV]
      · rw [got_no h, got_no h, got_wV]
    split
    · rw [List.cons_append, List.nil_append, got_no (by decide), core]
    · rw [List.nil_append, core]
theorem got_wR {c kl : Bool} : ∀ {m : List UInt8} {first : Bool}, (∀ d ∈ m, dig d) → gotL 0 (wR c kl first false m) = gotL 0 m
  | [], _, _ => rfl
  | d :: m, first, h => by
    have hd := h d (by simp)
    simp only [wR, Bool.false_or]
    have core : gotL 0 ((if (d != 48 || (kl && m.isEmpty)) = true then d else 32) :: wR c kl false (d != 48 || (kl && m.isEmpty)) m) = gotL 0 (d :: m) := by
      by_cases hc : (d != 48 || (kl && m.isEmpty)) = true
      · rw [if_pos hc, hc, wR_true, got_dig hd, got_dig hd, got_wV]
      · rw [if_neg hc, show (d != 48 || (kl && m.isEmpty)) = false by simpa using hc, got_no (by decide), got_wR fun x hx => h x (by simp [hx]), got_dig hd]
        have : d = 48 := by
          have := show (d != 48 || (kl && m.isEmpty)) = false by simpa using hc
          simp only [Bool.or_eq_false_iff] at this
          simpa using this.1
        rw [this]
        rfl
    split
    · rw [List.cons_append, List.nil_append]
      simp only [Bool.false_eq_true, if_false]
      rw [got_no (by decide)]
      exact core
    · exact core
theorem got_sup {c kl : Bool} {m : List UInt8} (h : ∀ d ∈ m, dig d) : gotL 0 (supL kl (wV c true m)) = gotL 0 m := by
  rw [sup_wV h, got_wR h]
theorem got_num {c : Bool} {cut sc : Nat} {D : List UInt8} (h : ∀ d ∈ D, dig d) (hc : cut + sc = D.length) : gotL 0 (numL c cut sc D) = gotL 0 D := by
  unfold numL
  have ht : ∀ d ∈ D.take cut, dig d := fun d hd => h d (List.mem_of_mem_take hd)
  split
  · rw [got_app, got_sup ht, got_no (by decide), ← got_app, List.take_append_drop]
  · rw [got_sup ht, List.take_of_length_le (by omega)]
theorem got_rs (a : Int) (s : List UInt8) : gotL a s = gotL a (rsL s) := by
  conv => lhs; rw [bl_rs s]
  rw [got_app, got_blanks]
theorem got_afl {a : Int} {s sg : List UInt8} (h : ∀ b, gotL b sg = b) : gotL a (aflL s sg) = gotL a s := by
  unfold aflL
  split
  · rw [got_no (by decide)]
  · rw [got_app, got_app, got_blanks, h, ← got_rs]
theorem got_star {a : Int} {s : List UInt8} : gotL a (starL s) = gotL a s := by
  unfold starL
  rw [got_app, got_stars, ← got_rs]
theorem got_dg : ∀ (L : Nat) (u : Nat), u < 10 ^ L → gotL 0 (dgL (u : Int) L) = u
  | 0, u, h => by
    have : u = 0 := by simpa using h
    subst this
    rfl
  | L + 1, u, h => by
    rw [dgL_snoc]
    have e1 : ((u : Int) / 10) = ((u / 10 : Nat) : Int) := by omega
    have e2 : (48 + (u : Int) % 10).toNat = 48 + u % 10 := by omega
    rw [e1, e2, got_app, got_dg L (u / 10) (by rw [Nat.pow_succ] at h; omega)]
    have hd : dig (UInt8.ofNat (48 + u % 10)) := by
      unfold dig
      rw [UInt8.toNat_ofNat']
      omega
    rw [got_dig hd, got_nil, UInt8.toNat_ofNat']
    omega
theorem got_text {ln sc n code fill kd : Int} (he : edErr kd ln sc code fill = 0) (hn : amt n < 10 ^ ln.toNat) : gotL 0 (textL ln sc n code fill) = amt n := by
  obtain ⟨ht, hk, hl, hsc, hf, hc, h78, hY⟩ := ed_ok he
  have a0 : 0 ≤ amt n := by unfold amt; split <;> omega
  obtain ⟨u, hu⟩ : ∃ u : Nat, amt n = u := ⟨(amt n).toNat, by omega⟩
  have hu2 : u < 10 ^ ln.toNat := by
    have e : ((10 ^ ln.toNat : Nat) : Int) = (10 : Int) ^ ln.toNat := by simp
    omega
  have hD := got_dg ln.toNat u hu2
  rw [← hu] at hD
  have hlen : (dgL (amt n) ln.toNat).length = ln.toNat := dgL_length _ _
  have hdg : ∀ d ∈ dgL (amt n) ln.toNat, dig d := dgL_dig
  unfold textL
  simp only []
  generalize dgL (amt n) ln.toNat = D at *
  split
  · exact hD
  · split
    · rename_i c9
      have h4 := hY c9
      have : D.length = 4 ∨ D.length = 6 ∨ D.length = 8 := by omega
      rw [← hD]
      match D, this with
      | [a, b, c, d], _ =>
        simp only [dateL, blank1, List.length_cons, List.length_nil, Nat.reduceAdd, Nat.lt_irrefl, if_false, List.take_succ_cons, List.take_zero, List.drop_succ_cons, List.drop_zero, List.cons_append, List.nil_append, gt_iff_lt]
        have ha := hdg a (by simp)
        have hb := hdg b (by simp)
        have hcc := hdg c (by simp)
        by_cases h48 : a = 48
        · subst h48
          rw [if_pos rfl, got_no (by decide), got_dig ha, got_dig hb, got_dig hb, got_no (by decide)]
          rfl
        · rw [if_neg h48, got_dig ha, got_dig ha, got_dig hb, got_dig hb, got_no (by decide)]
      | [a, b, c, d, e, f], _ =>
        simp only [dateL, blank1, List.length_cons, List.length_nil, Nat.reduceAdd, Nat.reduceLT, if_true, List.take_succ_cons, List.take_zero, List.drop_succ_cons, List.drop_zero, List.cons_append, List.nil_append, gt_iff_lt]
        have ha := hdg a (by simp)
        have hb := hdg b (by simp)
        have hcc := hdg c (by simp)
        have hdd := hdg d (by simp)
        by_cases h48 : a = 48
        · subst h48
          rw [if_pos rfl, got_no (by decide), got_dig ha, got_dig hb, got_dig hb, got_no (by decide), got_dig hcc, got_dig hcc, got_dig hdd, got_dig hdd, got_no (by decide)]
          rfl
        · rw [if_neg h48, got_dig ha, got_dig ha, got_dig hb, got_dig hb, got_no (by decide), got_dig hcc, got_dig hcc, got_dig hdd, got_dig hdd, got_no (by decide)]
      | [a, b, c, d, e, f, g, i], _ =>
        simp only [dateL, blank1, List.length_cons, List.length_nil, Nat.reduceAdd, Nat.reduceLT, if_true, List.take_succ_cons, List.take_zero, List.drop_succ_cons, List.drop_zero, List.cons_append, List.nil_append, gt_iff_lt]
        have ha := hdg a (by simp)
        have hb := hdg b (by simp)
        have hcc := hdg c (by simp)
        have hdd := hdg d (by simp)
        by_cases h48 : a = 48
        · subst h48
          rw [if_pos rfl, got_no (by decide), got_dig ha, got_dig hb, got_dig hb, got_no (by decide), got_dig hcc, got_dig hcc, got_dig hdd, got_dig hdd, got_no (by decide)]
          rfl
        · rw [if_neg h48, got_dig ha, got_dig ha, got_dig hb, got_dig hb, got_no (by decide), got_dig hcc, got_dig hcc, got_dig hdd, got_dig hdd, got_no (by decide)]
    · split
      · have := got_sup (c := false) (kl := false) hdg
        rw [wV_false] at this
        rw [this, hD]
      · have hnum := got_num (c := cmOf code) (cut := ln.toNat - sc.toNat) (sc := sc.toNat) hdg (by omega)
        unfold txL
        simp only []
        have g36 : ∀ b, gotL b [36] = b := fun b => got_no (by decide)
        have gCR : ∀ b, gotL b (if n < 0 then [67, 82] else [32, 32]) = b := by
          intro b
          split
          · rw [got_no (by decide), got_no (by decide), got_nil]
          · rw [got_no (by decide), got_no (by decide), got_nil]
        have gM : ∀ b, gotL b (if n < 0 then [45] else [32]) = b := by
          intro b
          split
          · rw [got_no (by decide), got_nil]
          · rw [got_no (by decide), got_nil]
        generalize numL (cmOf code) (ln.toNat - sc.toNat) sc.toNat D = s0 at *
        have h1 : gotL 0 (if sgOf code = 1 then s0 ++ (if n < 0 then [67, 82] else [32, 32]) else if sgOf code = 2 then s0 ++ (if n < 0 then [45] else [32]) else if sgOf code = 3 then aflL s0 (if n < 0 then [45] else [32]) else s0) = amt n := by
          split
          · rw [got_app, gCR, hnum, hD]
          · split
            · rw [got_app, gM, hnum, hD]
            · split
              · rw [got_afl gM, hnum, hD]
              · rw [hnum, hD]
        generalize (if sgOf code = 1 then s0 ++ (if n < 0 then [67, 82] else [32, 32]) else if sgOf code = 2 then s0 ++ (if n < 0 then [45] else [32]) else if sgOf code = 3 then aflL s0 (if n < 0 then [45] else [32]) else s0) = s1 at *
        split
        · rename_i h
          rw [got_blanks, h.1]
          rfl
        · split
          · rw [got_star]
            split
            · rw [got_afl g36, h1]
            · exact h1
          · split
            · rw [got_afl g36, h1]
            · exact h1

theorem got_mono : ∀ (l : List UInt8) (a : Int), 0 ≤ a → a ≤ gotL a l
  | [], a, h => Int.le_refl _
  | d :: l, a, h => by
    by_cases hd : 48 ≤ d.toNat ∧ d.toNat ≤ 57
    · rw [got_dig hd]
      have := got_mono l (10 * a + ((d.toNat : Int) - 48)) (by omega)
      omega
    · rw [got_no hd]
      exact got_mono l a h
theorem got_nonneg (l : List UInt8) : 0 ≤ gotL 0 l := got_mono l 0 (by decide)
theorem got_take (l : List UInt8) (i : Nat) : 0 ≤ gotL 0 (l.take i) ∧ gotL 0 (l.take i) ≤ gotL 0 l := by
  refine ⟨got_nonneg _, ?_⟩
  conv => rhs; rw [← List.take_append_drop i l]
  rw [got_app]
  exact got_mono _ _ (got_nonneg _)
theorem take_snoc {m : List UInt8} {i : Nat} (h : i < m.length) : m.take (i + 1) = m.take i ++ [m.getD i 0] := by
  rw [List.take_succ_eq_append_getElem h]
  simp [List.getD_eq_getElem?_getD, h]

theorem f323q (k : Nat) (c : Int) : f323F k c = some (decide (48 ≤ c ∧ c ≤ 57)) := by
  unfold f323F
  by_cases h : 48 ≤ c <;> simp [h]
theorem f307l1q {R : Type} (k0 : Int × Int × Int × Int × Int × ByteArray × Unit → Option R) (s : List UInt8) (kd ln sc n : Int) (vs : ByteArray) (hs : s.length ≤ 900) (hg : gotL 0 s ≤ 1000000000000000) :
    f307l1 1000 k0 (S s, 0, 0, kd, ln, sc, n, vs, ()) = k0 (gotL 0 s, kd, ln, sc, n, vs, ()) := by
  unfold f307l1
  have key := iter_for (R := R) (Step := fun rec v => f307l1s 1000 rec k0 v) (fun i => (S s, gotL 0 (s.take i), (i : Int), kd, ln, sc, n, vs, ())) s.length (fin := k0 (gotL 0 s, kd, ln, sc, n, vs, ()))
    (fun rec i hi => by
      obtain ⟨g0, g1⟩ := got_take s i
      obtain ⟨g2, g3⟩ := got_take s (i + 1)
      unfold f307l1s f307p0
      simp only [S_size, f323q, bind_some', S_bt s i hi]
      rw [bif_true (by simpa using hi), bif_true (by simp <;> omega)]
      rw [take_snoc hi, got_app] at g2 g3
      rw [take_snoc hi, got_app]
      generalize s.getD i 0 = d at *
      by_cases hd : 48 ≤ d.toNat ∧ d.toNat ≤ 57
      · rw [got_dig hd, got_nil] at *
        have h2 : (48 : Int) ≤ (d.toNat : Int) ∧ (d.toNat : Int) ≤ 57 := by omega
        rw [decide_eq_true h2, cond_true, bif_true (by simp <;> omega), wu8 (by omega) (by omega), wi (x := (d.toNat : Int) - 48) (by omega) (by omega), wi (x := 10 * gotL 0 (s.take i)) (by omega) (by omega), wi (by omega) (by omega), wi (x := (i : Int) + 1) (by omega) (by omega)]
        rfl
      · rw [got_no hd, got_nil]
        have h2 : ¬ ((48 : Int) ≤ (d.toNat : Int) ∧ (d.toNat : Int) ≤ 57) := by omega
        rw [decide_eq_false h2, cond_false, wi (x := (i : Int) + 1) (by omega) (by omega)]
        rfl)
    (fun rec => by
      unfold f307l1s
      simp only [S_size]
      rw [bif_false (by simp), take_all]) (k := 1000) (by omega)
  exact key

theorem editAlike (x : (Int × (Int × Int)) × (Int × ByteArray) × (Int × Int)) (hc : 0 ≤ x.2.2.1 ∧ x.2.2.1 ≤ 255) : f307F 1000 x = some true := by
  obtain ⟨⟨kd, ln, sc⟩, ⟨n, s⟩, ⟨code, fill⟩⟩ := x
  unfold f307F
  simp only [awake_q, bind_some', Bool.not_true, cond_false]
  by_cases hs : (s.size : Int) > 300
  · rw [bif_true (by simpa using hs)]
  · rw [bif_false (by simpa using hs), f314q hc.1 hc.2, f320q hc.1 hc.2]
    simp only [bind_some']
    by_cases he : edErr kd ln sc code fill = 0
    · have he' : ¬ (edErr kd ln sc code fill ≠ 0) := fun c => c he
      simp only [if_neg he']
      obtain ⟨ht, hk, hl, _⟩ := ed_ok he
      by_cases hv : valErr kd ln sc n s = 0
      · obtain ⟨⟨n0, n1⟩, ha⟩ := val_amt hv hk hl
        obtain ⟨a0, a1⟩ := amt_bound n0 n1
        have hg := got_text he ha
        have hv' : ¬ (valErr kd ln sc n s ≠ 0) := fun c => c hv
        simp only [if_neg hv']
        rw [bif_false (by rfl), bif_false (by rfl)]
        simp only [S_size, textL_len ln sc n 0 code fill]
        rw [bif_false (by simp)]
        have hle := textL_le (sc := sc) (n := n) (code := code) (fill := fill) hl.2
        rw [f307l1q _ _ _ _ _ _ _ (by omega) (by omega), hg]
        simp only [f79F, mx_abs n0 n1, bind_some', beq_self_eq_true, cond_true, f29q, hv]
      · simp only [if_pos (show valErr kd ln sc n s ≠ 0 from hv)]
        rw [bif_true (by simpa using hv)]
    · simp only [if_pos (show edErr kd ln sc code fill ≠ 0 from he)]
      rw [bif_true (by simpa using he)]
end Go.Proofs.YtecbbmokocnadaaDoor
