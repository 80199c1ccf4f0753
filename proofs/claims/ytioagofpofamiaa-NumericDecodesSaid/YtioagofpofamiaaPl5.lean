/- Plain laws: the bytes of values. -/
import Derived.Test.YtioagofpofamiaaPl4
/-! Plain laws: the bytes of values. -/
set_option linter.unusedVariables false
set_option linter.unusedSimpArgs false
namespace Go.Proofs.Ytioagofpofamiaa
open Go.Ab

theorem mx_abs {n : Int} (h0 : -1000000000000000 ≤ n) (h1 : n ≤ 1000000000000000) : mxI n (IntKind.i64.wrap (0 - n)) = if n < 0 then -n else n := by
  rw [wi (by omega) (by omega)]
  unfold mxI
  split <;> split <;> omega

def z240 (d : Int) : Int := IntKind.u8.wrap (d + 240)

theorem f40l0q {R : Type} (k0 : Int × ByteArray × List Int × Unit → Option R) (n : Int) (s : ByteArray) (y : List Int) (hy : y.length ≤ 900) :
    f40l0 1000 k0 ((y.length : Int), 0, n, s, y, ()) = k0 (n, s, y.map z240, ()) := by
  unfold f40l0
  have key := iter_for (R := R) (Step := fun rec v => f40l0s 1000 rec k0 v) (fun i => ((y.length : Int), (i : Int), n, s, (y.take i).map z240 ++ y.drop i, ())) y.length (fin := k0 (n, s, y.map z240, ())) ?_ ?_ (k := 1000) (by omega)
  · simpa using key
  · intro rec i hi
    unfold f40l0s
    have e1 : (decide ((i : Int) < (y.length : Int))) = true := by simp; omega
    have e0 : (decide ((0 : Int) ≤ (i : Int))) = true := by simp
    have e2 : (decide ((i : Int) < (((y.take i).map z240 ++ y.drop i).length : Int))) = true := by simp; omega
    simp only [e1, e0, e2, Bool.and_self, cond_true, Int.toNat_natCast, getD_take_map]
    rw [wi (x := (i : Int) + 1) (by omega) (by omega)]
    have := set_take_map z240 hi
    unfold z240 at this ⊢
    rw [this]
    rfl
  · intro rec
    unfold f40l0s
    have e1 : (decide ((y.length : Int) < (y.length : Int))) = false := by simp
    simp only [e1, cond_false, List.take_length, List.drop_length, List.append_nil]

def r240 (d : Int) : Int := IntKind.u8.wrap (IntKind.i64.wrap (240 + d))
theorem f41l1q {R : Type} (k0 : Int × Int × Int × Int × ByteArray × List Int × List Int × Unit → Option R) (kd sc n : Int) (s : ByteArray) (y : List Int) (hy : y.length ≤ 900) :
    f41l1 1000 k0 (0, kd, (y.length : Int), sc, n, s, y, List.replicate y.length 0, ()) = k0 (kd, (y.length : Int), sc, n, s, y, y.map r240, ()) := by
  unfold f41l1
  have key := iter_for (R := R) (Step := fun rec v => f41l1s 1000 rec k0 v) (fun i => ((i : Int), kd, (y.length : Int), sc, n, s, y, (List.range i).map (fun j => r240 (y.getD j 0)) ++ List.replicate (y.length - i) 0, ())) y.length (fin := k0 (kd, (y.length : Int), sc, n, s, y, y.map r240, ())) ?_ ?_ (k := 1000) (by omega)
  · simpa using key
  · intro rec i hi
    unfold f41l1s
    have e1 : (decide ((i : Int) < (y.length : Int))) = true := by simp; omega
    have e0 : (decide ((0 : Int) ≤ (i : Int))) = true := by simp
    have e2 : (decide ((i : Int) < (((List.range i).map (fun j => r240 (y.getD j 0)) ++ List.replicate (y.length - i) (0 : Int)).length : Int))) = true := by simp; omega
    simp only [e1, e0, e2, Bool.and_self, cond_true, Int.toNat_natCast]
    rw [wi (x := (i : Int) + 1) (by omega) (by omega)]
    have := set_take_zero (fun j => r240 (y.getD j 0)) hi
    unfold r240 at this ⊢
    rw [this]
    rfl
  · intro rec
    unfold f41l1s
    have e1 : (decide ((y.length : Int) < (y.length : Int))) = false := by simp
    simp only [e1, cond_false, Nat.sub_self, List.replicate_zero, List.append_nil, map_getD_range]

theorem nib : ∀ a b : Fin 16, bits .or .u8 (shlI .u8 (a.val : Int) 4) (b.val : Int) = 16 * a.val + b.val := by decide +kernel
theorem nib' {a b : Int} (a0 : 0 ≤ a) (a1 : a ≤ 15) (b0 : 0 ≤ b) (b1 : b ≤ 15) : bits .or .u8 (shlI .u8 a 4) b = 16 * a + b := by
  have := nib ⟨a.toNat, by omega⟩ ⟨b.toNat, by omega⟩
  simp only at this
  rwa [show ((a.toNat : Nat) : Int) = a by omega, show ((b.toNat : Nat) : Int) = b by omega] at this

def pair16 (l : List Int) (j : Nat) : Int := 16 * l.getD (2 * j) 0 + l.getD (2 * j + 1) 0
theorem getD_mem {l : List Int} {P : Int → Prop} (h : ∀ d ∈ l, P d) {i : Nat} (hi : i < l.length) : P (l.getD i 0) := by
  rw [List.getD_eq_getElem?_getD, List.getElem?_eq_getElem hi]
  exact h _ (List.getElem_mem hi)

theorem f76q (l : List Int) (m : Nat) (hl : l.length = 2 * m) (hm : m ≤ 450) (hd : ∀ d ∈ l, 0 ≤ d ∧ d ≤ 15) : f76F 1000 l = some (strOfNums ((List.range m).map (pair16 l))) := by
  unfold f76F f76l0
  have key := iter_for (R := ByteArray) (Step := fun rec v => f76l0s 1000 rec (fun w => some (strOfNums w.1)) v) (fun i => (l, ((2 * i : Nat) : Int), (List.range i).map (pair16 l), ())) m (fin := some (strOfNums ((List.range m).map (pair16 l)))) ?_ ?_ (k := 1000) (by omega)
  · simpa using key
  · intro rec i hi
    unfold f76l0s
    have e1 : (decide (((2 * i : Nat) : Int) < (l.length : Int))) = true := by simp; omega
    have e0 : (decide ((0 : Int) ≤ ((2 * i : Nat) : Int))) = true := by simp; omega
    have w1 : IntKind.i64.wrap (((2 * i : Nat) : Int) + 1) = ((2 * i + 1 : Nat) : Int) := by rw [wi (by omega) (by omega)]; rfl
    have e2 : (decide ((0 : Int) ≤ ((2 * i + 1 : Nat) : Int))) = true := by simp; omega
    have e3 : (decide (((2 * i + 1 : Nat) : Int) < (l.length : Int))) = true := by simp; omega
    simp only [e1, e0, w1, e2, e3, Bool.and_self, cond_true, Int.toNat_natCast]
    obtain ⟨a0, a1⟩ := getD_mem hd (i := 2 * i) (by omega)
    obtain ⟨b0, b1⟩ := getD_mem hd (i := 2 * i + 1) (by omega)
    rw [nib' a0 a1 b0 b1]
    have e4 : (decide ((((List.range i).map (pair16 l)).length + [16 * l.getD (2 * i) 0 + l.getD (2 * i + 1) 0].length) * 1 ≤ 140737488355328) && decide (((List.range i).map (pair16 l)).length + [16 * l.getD (2 * i) 0 + l.getD (2 * i + 1) 0].length ≤ 9223372036854775807)) = true := by
      simp; omega
    rw [e4]
    simp only [cond_true]
    rw [wi (x := ((2 * i : Nat) : Int) + 2) (by omega) (by omega), List.range_succ, List.map_append, show ((2 * i : Nat) : Int) + 2 = ((2 * (i + 1) : Nat) : Int) by omega]
    rfl
  · intro rec
    unfold f76l0s
    have e1 : (decide (((2 * m : Nat) : Int) < (l.length : Int))) = false := by simp; omega
    simp only [e1, cond_false]

theorem f41l4q {R : Type} (k0 : List Int × Unit → Option R) (l : List Int) (m : Nat) (hl : l.length = 2 * m) (hm : m ≤ 450) (hd : ∀ d ∈ l, 0 ≤ d ∧ d ≤ 15) :
    f41l4 1000 k0 (0, l, List.replicate m 0, ()) = k0 ((List.range m).map (pair16 l), ()) := by
  unfold f41l4
  have key := iter_for (R := R) (Step := fun rec v => f41l4s 1000 rec k0 v) (fun i => ((i : Int), l, (List.range i).map (pair16 l) ++ List.replicate (m - i) 0, ())) m (fin := k0 ((List.range m).map (pair16 l), ())) ?_ ?_ (k := 1000) (by omega)
  · simpa using key
  · intro rec i hi
    unfold f41l4s
    have e1 : (decide ((i : Int) < (((List.range i).map (pair16 l) ++ List.replicate (m - i) (0 : Int)).length : Int))) = true := by simp; omega
    have e0 : (decide ((0 : Int) ≤ (i : Int))) = true := by simp
    have w0 : IntKind.i64.wrap (2 * (i : Int)) = ((2 * i : Nat) : Int) := by rw [wi (by omega) (by omega)]; omega
    have w1 : IntKind.i64.wrap (((2 * i : Nat) : Int) + 1) = ((2 * i + 1 : Nat) : Int) := by rw [wi (by omega) (by omega)]; rfl
    have e2 : (decide ((0 : Int) ≤ ((2 * i : Nat) : Int))) = true := by simp; omega
    have e3 : (decide (((2 * i : Nat) : Int) < (l.length : Int))) = true := by simp; omega
    have e4 : (decide ((0 : Int) ≤ ((2 * i + 1 : Nat) : Int))) = true := by simp; omega
    have e5 : (decide (((2 * i + 1 : Nat) : Int) < (l.length : Int))) = true := by simp; omega
    simp only [e1, e0, w0, w1, e2, e3, e4, e5, Bool.and_self, cond_true, Int.toNat_natCast]
    obtain ⟨a0, a1⟩ := getD_mem hd (i := 2 * i) (by omega)
    obtain ⟨b0, b1⟩ := getD_mem hd (i := 2 * i + 1) (by omega)
    rw [wi (x := 16 * l.getD (2 * i) 0) (by omega) (by omega), wi (x := 16 * l.getD (2 * i) 0 + l.getD (2 * i + 1) 0) (by omega) (by omega), wu8 (by omega) (by omega), wi (x := (i : Int) + 1) (by omega) (by omega)]
    have := set_take_zero (pair16 l) hi
    unfold pair16 at this ⊢
    rw [this]
    rfl
  · intro rec
    unfold f41l4s
    have e1 : (decide ((m : Int) < (((List.range m).map (pair16 l) ++ List.replicate (m - m) (0 : Int)).length : Int))) = false := by simp
    rw [e1]
    simp only [cond_false, Nat.sub_self, List.replicate_zero, List.append_nil]
end Go.Proofs.Ytioagofpofamiaa
