/- Plain laws: loops, wrapping, digits. -/
import Derived.Test.YtioagofpofamiaaAb28
import Derived.Laws.Strings
/-! Plain laws: loops, wrapping, digits. -/
set_option linter.unusedVariables false
set_option linter.unusedSimpArgs false
namespace Go.Ab

theorem wi {x : Int} (h0 : -9223372036854775808 ≤ x) (h1 : x ≤ 9223372036854775807) : IntKind.i64.wrap x = x := by
  rw [IntKind.wrap_i64]; omega
theorem wu8e (x : Int) : IntKind.u8.wrap x = x % 256 := by
  simp [IntKind.wrap, IntKind.signed, IntKind.bits]
theorem wu8 {x : Int} (h0 : 0 ≤ x) (h1 : x ≤ 255) : IntKind.u8.wrap x = x := by
  rw [wu8e]; omega

theorem bind_some' {α β : Type} (a : α) (f : α → Option β) : Option.bind (some a) f = f a := rfl
theorem bif_true {α : Type} {c : Bool} (h : c = true) (a b : α) : (bif c then a else b) = a := by rw [h]; rfl
theorem bif_false {α : Type} {c : Bool} (h : c = false) (a b : α) : (bif c then a else b) = b := by rw [h]; rfl
theorem strEq_self (x : ByteArray) : strEq x x = true := by simp [strEq]
theorem strEq_iff {x y : ByteArray} : strEq x y = true ↔ x = y := by
  constructor
  · intro h
    simp only [strEq, beq_iff_eq] at h
    have h2 : x.data.toList = y.data.toList := by
      have e : ∀ z : ByteArray, z.toList = z.data.toList := fun z => ByteArray.toList_eq z
      rw [← e, ← e, h]
    cases x; cases y
    simp only at h2
    congr
    exact Array.ext' h2
  · rintro rfl
    exact strEq_self x

/-- A loop whose states are told. -/
theorem iter_for {V R : Type} {Step : (V → Option R) → V → Option R} (st : Nat → V) (n : Nat) {fin : Option R} (hstep : ∀ rec i, i < n → Step rec (st i) = rec (st (i + 1))) (hend : ∀ rec, Step rec (st n) = fin) :
    ∀ {k : Nat}, n < k → iterS Step k (st 0) = fin := by
  have : ∀ (d i k : Nat), i + d = n → d < k → iterS Step k (st i) = fin := by
    intro d
    induction d with
    | zero =>
      intro i k hi hk
      cases k with
      | zero => omega
      | succ k =>
        have : i = n := by omega
        subst this
        exact hend _
    | succ d ih =>
      intro i k hi hk
      cases k with
      | zero => omega
      | succ k =>
        show Step (iterS Step k) (st i) = fin
        rw [hstep _ i (by omega)]
        exact ih (i + 1) k (by omega) (by omega)
  intro k hk
  exact this n 0 k (by omega) hk

/-- The lowest digits of a number, the highest of them first. -/
def low (b n : Int) : Nat → List Int
  | 0 => []
  | i + 1 => (n / b ^ i % b) :: low b n i
theorem low_length (b n : Int) : ∀ i, (low b n i).length = i
  | 0 => rfl
  | i + 1 => by simp [low, low_length b n i]
theorem low_mem {b n : Int} (hb : 0 < b) : ∀ {i : Nat} {d : Int}, d ∈ low b n i → 0 ≤ d ∧ d < b
  | 0, _, h => by simp [low] at h
  | i + 1, d, h => by
    simp only [low, List.mem_cons] at h
    rcases h with rfl | h
    · exact ⟨Int.emod_nonneg _ (by omega), Int.emod_lt_of_pos _ hb⟩
    · exact low_mem hb h
theorem set_zeros {L i : Nat} (hi : i < L) (l : List Int) (d : Int) : (List.replicate (L - i) 0 ++ l).set (L - 1 - i) d = List.replicate (L - (i + 1)) 0 ++ d :: l := by
  have e : L - i = (L - 1 - i) + 1 := by omega
  rw [e, List.replicate_succ', List.append_assoc, List.set_append_right _ _ (by simp)]
  simp only [List.length_replicate, Nat.sub_self, List.cons_append, List.nil_append, List.set_cons_zero]
  rw [show L - (i + 1) = L - 1 - i by omega]

theorem getD_take_map (g : Int → Int) (l : List Int) (i : Nat) : ((l.take i).map g ++ l.drop i).getD i 0 = l.getD i 0 := by
  by_cases h : i < l.length
  · rw [List.getD_eq_getElem?_getD, List.getElem?_append_right (by simp; omega)]
    simp [List.length_take, Nat.min_eq_left (Nat.le_of_lt h), List.getD_eq_getElem?_getD]
  · rw [List.getD_eq_getElem?_getD, List.getD_eq_getElem?_getD, List.getElem?_eq_none (by simp; omega), List.getElem?_eq_none (by omega)]
theorem set_take_map (g : Int → Int) {l : List Int} {i : Nat} (h : i < l.length) : ((l.take i).map g ++ l.drop i).set i (g (l.getD i 0)) = (l.take (i + 1)).map g ++ l.drop (i + 1) := by
  rw [List.set_append_right _ _ (by simp; omega)]
  have e : i - ((l.take i).map g).length = 0 := by simp; omega
  rw [e, List.drop_eq_getElem_cons h, List.set_cons_zero, List.take_succ_eq_append_getElem h, List.map_append, List.append_assoc]
  simp [List.getD_eq_getElem?_getD, List.getElem?_eq_getElem h]
theorem set_take_zero (g : Nat → Int) {n i : Nat} (h : i < n) : (((List.range i).map g) ++ List.replicate (n - i) 0).set i (g i) = ((List.range (i + 1)).map g) ++ List.replicate (n - (i + 1)) 0 := by
  rw [List.set_append_right _ _ (by simp)]
  have e : i - ((List.range i).map g).length = 0 := by simp
  rw [e, show n - i = (n - (i + 1)) + 1 by omega, List.replicate_succ, List.set_cons_zero, List.range_succ, List.map_append, List.append_assoc]
  rfl
theorem map_getD_range (g : Int → Int) (l : List Int) : (List.range l.length).map (fun i => g (l.getD i 0)) = l.map g := by
  apply List.ext_getElem
  · simp
  · intro i h1 h2
    simp at h1
    simp [List.getD_eq_getElem?_getD, List.getElem?_eq_getElem h1]
end Go.Ab
