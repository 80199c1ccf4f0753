/- Plain laws: bytes and half bytes, and loops that may end early. -/
import Derived.Test.YtioagofpofamiaaPl7
/-! Plain laws: bytes and half bytes; loops that may end early. -/
set_option linter.unusedVariables false
set_option linter.unusedSimpArgs false
namespace Go.Proofs.Ytioagofpofamiaa
open Go.Ab

theorem bytes_len (s : ByteArray) : (bytesOf s).length = s.size := by
  unfold bytesOf
  rw [List.length_map]
  rfl
theorem bytes_mem {s : ByteArray} {d : Int} (h : d ∈ bytesOf s) : 0 ≤ d ∧ d ≤ 255 := by
  simp only [bytesOf, List.mem_map] at h
  obtain ⟨b, _, rfl⟩ := h
  have := b.toNat_lt
  omega
theorem bytes_get (s : ByteArray) (i : Nat) : 0 ≤ (bytesOf s).getD i 0 ∧ (bytesOf s).getD i 0 ≤ 255 := by
  by_cases h : i < (bytesOf s).length
  · exact getD_mem (P := fun d => 0 ≤ d ∧ d ≤ 255) (fun d hd => bytes_mem hd) h
  · rw [List.getD_eq_getElem?_getD, List.getElem?_eq_none (by omega)]
    decide
theorem bt_get (s : ByteArray) (i : Nat) : bt s (i : Int) = (bytesOf s).getD i 0 := by
  unfold bt
  rw [Int.toNat_natCast]
  split
  · rename_i h
    have h' : i < s.data.toList.length := h
    simp only [bytesOf, List.getD_eq_getElem?_getD, List.getElem?_map, List.getElem?_eq_getElem h', Option.map_some, Option.getD_some]
    rfl
  · rename_i h
    rw [List.getD_eq_getElem?_getD, List.getElem?_eq_none (by rw [bytes_len]; omega)]
    rfl

theorem shr4 : ∀ b : Fin 256, shrI .u8 (b.val : Int) 4 = (b.val : Int) / 16 := by decide +kernel
theorem shr4' {b : Int} (h0 : 0 ≤ b) (h1 : b ≤ 255) : shrI .u8 b 4 = b / 16 := by
  have := shr4 ⟨b.toNat, by omega⟩
  simp only at this
  rwa [show ((b.toNat : Nat) : Int) = b by omega] at this
theorem and15 : ∀ b : Fin 256, bits .and .u8 (b.val : Int) 15 = (b.val : Int) % 16 := by decide +kernel
theorem and15' {b : Int} (h0 : 0 ≤ b) (h1 : b ≤ 255) : bits .and .u8 b 15 = b % 16 := by
  have := and15 ⟨b.toNat, by omega⟩
  simp only at this
  rwa [show ((b.toNat : Nat) : Int) = b by omega] at this

/-- Digits read one after the other, till one is bad. -/
def scanB (bad : Nat → Bool) (val : Nat → Int) : Nat → Nat → Int → Nat ⊕ Int
  | 0, _, n => .inr n
  | r + 1, i, n => bif bad i then .inl i else scanB bad val r (i + 1) (n * 10 + val i)

theorem scanB_bound {bad : Nat → Bool} {val : Nat → Int} {N : Nat} (hv : ∀ i, i < N → bad i = false → 0 ≤ val i ∧ val i ≤ 9) : ∀ {r i : Nat} {n m : Int}, i + r ≤ N → 0 ≤ n → n < 10 ^ i → scanB bad val r i n = .inr m → 0 ≤ m ∧ m < 10 ^ (i + r)
  | 0, i, n, m, _, h0, h1, h => by
    simp only [scanB, Sum.inr.injEq] at h
    subst h
    exact ⟨h0, h1⟩
  | r + 1, i, n, m, hN, h0, h1, h => by
    simp only [scanB] at h
    cases hb : bad i with
    | true => rw [hb] at h; cases h
    | false =>
      rw [hb] at h
      simp only [cond_false] at h
      obtain ⟨v0, v1⟩ := hv i (by omega) hb
      have := scanB_bound hv (r := r) (i := i + 1) (n := n * 10 + val i) (by omega) (by omega) (by rw [Int.pow_succ]; omega) h
      rwa [show i + 1 + r = i + (r + 1) by omega] at this
theorem scanB_lt {bad : Nat → Bool} {val : Nat → Int} : ∀ {r i : Nat} {n : Int} {j : Nat}, scanB bad val r i n = .inl j → i ≤ j ∧ j < i + r
  | 0, _, _, _, h => by cases h
  | r + 1, i, n, j, h => by
    simp only [scanB] at h
    cases hb : bad i with
    | true =>
      rw [hb] at h
      simp only [cond_true, Sum.inl.injEq] at h
      omega
    | false =>
      rw [hb] at h
      have := scanB_lt (r := r) h
      omega
theorem scanB_congr {bad bad' : Nat → Bool} {val val' : Nat → Int} : ∀ {r i : Nat} {n : Int}, (∀ j, i ≤ j → j < i + r → bad j = bad' j ∧ val j = val' j) → scanB bad val r i n = scanB bad' val' r i n
  | 0, _, _, _ => rfl
  | r + 1, i, n, h => by
    obtain ⟨h1, h2⟩ := h i (by omega) (by omega)
    simp only [scanB, h1, h2]
    rw [scanB_congr fun j a b => h j (by omega) (by omega)]

theorem iter_scan {V R : Type} {Step : (V → Option R) → V → Option R} (st : Nat → Int → V) {bad : Nat → Bool} {val : Nat → Int} {N : Nat} {exit : Nat → Option R}
    (hv : ∀ i, i < N → bad i = false → 0 ≤ val i ∧ val i ≤ 9) (hstep : ∀ rec i m, i < N → 0 ≤ m → m < 10 ^ i → Step rec (st i m) = bif bad i then exit i else rec (st (i + 1) (m * 10 + val i))) :
    ∀ {r i k : Nat} {m : Int}, i + r = N → r ≤ k → 0 ≤ m → m < 10 ^ i → iterS Step k (st i m) = match scanB bad val r i m with
      | .inl j => exit j
      | .inr m => iterS Step (k - r) (st N m)
  | 0, i, k, m, hi, hk, h0, h1 => by
    rw [Nat.add_zero] at hi
    subst hi
    rfl
  | r + 1, i, k, m, hi, hk, h0, h1 => by
    obtain ⟨k, rfl⟩ : ∃ k', k = k' + 1 := ⟨k - 1, by omega⟩
    show Step (iterS Step k) (st i m) = _
    rw [hstep _ i m (by omega) h0 h1]
    simp only [scanB]
    cases hb : bad i with
    | true => rfl
    | false =>
      simp only [cond_false]
      obtain ⟨v0, v1⟩ := hv i (by omega) hb
      rw [iter_scan st hv hstep (r := r) (i := i + 1) (k := k) (by omega) (by omega) (by omega) (by rw [Int.pow_succ]; omega), show k + 1 - (r + 1) = k - r by omega]

theorem pow_le16 {i : Nat} (h : i ≤ 16) : (10 : Int) ^ i ≤ 10000000000000000 := by
  have := Nat.pow_le_pow_right (n := 10) (by decide) h
  have e : ((10 ^ i : Nat) : Int) = (10 : Int) ^ i := by simp
  rw [← e]
  omega

/-! ### Half bytes, as the code of numeric lays them -/
def half (s : ByteArray) (t : Nat) : Int := if t % 2 = 0 then (bytesOf s).getD (t / 2) 0 / 16 else (bytesOf s).getD (t / 2) 0 % 16
def atH (t : Nat) : Int := ((t / 2 : Nat) : Int)
theorem half_bound (s : ByteArray) (t : Nat) : 0 ≤ half s t ∧ half s t ≤ 15 := by
  have := bytes_get s (t / 2)
  unfold half
  split <;> omega
def lowh (s : ByteArray) (t : Nat) : Int := (bytesOf s).getD t 0 % 16
def atZ (t : Nat) : Int := (t : Int)

theorem halves1 {ln sc : Int} (s : ByteArray) (h : s.size ≤ 400) : f80F 1000 ((1, ln, sc), s) = some ((List.range (2 * s.size)).map (half s), (List.range (2 * s.size)).map atH) := by
  unfold f80F f80l1
  have key := iter_for (R := List Int × List Int) (Step := fun rec v => f80l1s 1000 rec (fun w3 => f80p2 1000 (fun w5 => some (w5.2.2.2.2.1, w5.2.2.2.2.2.1)) (w3.1, w3.2.1, w3.2.2.1, w3.2.2.2.1, w3.2.2.2.2.1, w3.2.2.2.2.2.1, ())) v)
    (fun i => (s, (s.size : Int), (i : Int), 1, ln, sc, (List.range (2 * i)).map (half s), (List.range (2 * i)).map atH, ())) s.size (fin := some ((List.range (2 * s.size)).map (half s), (List.range (2 * s.size)).map atH)) ?_ ?_ (k := 1000) (by omega)
  · simpa using key
  · intro rec i hi
    unfold f80l1s f80p0
    have e1 : (decide ((i : Int) < (s.size : Int))) = true := by simp; omega
    have e0 : (decide ((0 : Int) ≤ (i : Int))) = true := by simp
    have k1 : ((1 : Int) == 1) = true := rfl
    obtain ⟨b0, b1⟩ := bytes_get s i
    simp only [e1, e0, k1, Bool.and_self, cond_true, bt_get, shr4' b0 b1, and15' b0 b1]
    have c1 : (decide ((((List.range (2 * i)).map (half s)).length + [(bytesOf s).getD i 0 / 16, (bytesOf s).getD i 0 % 16].length) * 1 ≤ 140737488355328) && decide (((List.range (2 * i)).map (half s)).length + [(bytesOf s).getD i 0 / 16, (bytesOf s).getD i 0 % 16].length ≤ 9223372036854775807)) = true := by simp; omega
    have c2 : (decide ((((List.range (2 * i)).map atH).length + [(i : Int), (i : Int)].length) * 8 ≤ 140737488355328) && decide (((List.range (2 * i)).map atH).length + [(i : Int), (i : Int)].length ≤ 9223372036854775807)) = true := by simp; omega
    rw [c1, c2]
    simp only [cond_true]
    rw [wi (x := (i : Int) + 1) (by omega) (by omega)]
    have a1 : (List.range (2 * (i + 1))).map (half s) = (List.range (2 * i)).map (half s) ++ [(bytesOf s).getD i 0 / 16, (bytesOf s).getD i 0 % 16] := by
      rw [show 2 * (i + 1) = 2 * i + 1 + 1 by omega, List.range_succ, List.range_succ]
      simp only [List.map_append, List.map_cons, List.map_nil, List.append_assoc, List.cons_append, List.nil_append]
      have x1 : half s (2 * i) = (bytesOf s).getD i 0 / 16 := by unfold half; rw [if_pos (by omega), show 2 * i / 2 = i by omega]
      have x2 : half s (2 * i + 1) = (bytesOf s).getD i 0 % 16 := by unfold half; rw [if_neg (by omega), show (2 * i + 1) / 2 = i by omega]
      rw [x1, x2]
    have a2 : (List.range (2 * (i + 1))).map atH = (List.range (2 * i)).map atH ++ [(i : Int), (i : Int)] := by
      rw [show 2 * (i + 1) = 2 * i + 1 + 1 by omega, List.range_succ, List.range_succ]
      simp only [List.map_append, List.map_cons, List.map_nil, List.append_assoc, List.cons_append, List.nil_append]
      have x1 : atH (2 * i) = i := by unfold atH; rw [show 2 * i / 2 = i by omega]
      have x2 : atH (2 * i + 1) = i := by unfold atH; rw [show (2 * i + 1) / 2 = i by omega]
      rw [x1, x2]
    rw [a1, a2]
    rfl
  · intro rec
    unfold f80l1s f80p2
    have e1 : (decide ((s.size : Int) < (s.size : Int))) = false := by simp
    simp only [e1, cond_false]
    rfl

theorem halves2 {ln sc : Int} (s : ByteArray) (h0 : 1 ≤ s.size) (h : s.size ≤ 400) : f80F 1000 ((2, ln, sc), s) = some ((List.range s.size).map (lowh s) ++ [(bytesOf s).getD (s.size - 1) 0 / 16], (List.range s.size).map atZ ++ [((s.size - 1 : Nat) : Int)]) := by
  unfold f80F f80l1
  have key := iter_for (R := List Int × List Int) (Step := fun rec v => f80l1s 1000 rec (fun w3 => f80p2 1000 (fun w5 => some (w5.2.2.2.2.1, w5.2.2.2.2.2.1)) (w3.1, w3.2.1, w3.2.2.1, w3.2.2.2.1, w3.2.2.2.2.1, w3.2.2.2.2.2.1, ())) v)
    (fun i => (s, (s.size : Int), (i : Int), 2, ln, sc, (List.range i).map (lowh s), (List.range i).map atZ, ())) s.size (fin := some ((List.range s.size).map (lowh s) ++ [(bytesOf s).getD (s.size - 1) 0 / 16], (List.range s.size).map atZ ++ [((s.size - 1 : Nat) : Int)])) ?_ ?_ (k := 1000) (by omega)
  · simpa using key
  · intro rec i hi
    unfold f80l1s f80p0
    have e1 : (decide ((i : Int) < (s.size : Int))) = true := by simp; omega
    have e0 : (decide ((0 : Int) ≤ (i : Int))) = true := by simp
    have k1 : ((2 : Int) == 1) = false := rfl
    obtain ⟨b0, b1⟩ := bytes_get s i
    simp only [e1, e0, k1, Bool.and_self, cond_true, cond_false, bt_get, shr4' b0 b1, and15' b0 b1]
    have c1 : (decide ((((List.range i).map (lowh s)).length + [(bytesOf s).getD i 0 % 16].length) * 1 ≤ 140737488355328) && decide (((List.range i).map (lowh s)).length + [(bytesOf s).getD i 0 % 16].length ≤ 9223372036854775807)) = true := by simp; omega
    have c2 : (decide ((((List.range i).map atZ).length + [(i : Int)].length) * 8 ≤ 140737488355328) && decide (((List.range i).map atZ).length + [(i : Int)].length ≤ 9223372036854775807)) = true := by simp; omega
    rw [c1, c2]
    simp only [cond_true]
    rw [wi (x := (i : Int) + 1) (by omega) (by omega), List.range_succ, List.map_append, List.map_append]
    rfl
  · intro rec
    unfold f80l1s f80p2
    have e1 : (decide ((s.size : Int) < (s.size : Int))) = false := by simp
    have k2 : ((2 : Int) == 2) = true := rfl
    have w : IntKind.i64.wrap ((s.size : Int) - 1) = ((s.size - 1 : Nat) : Int) := by rw [wi (by omega) (by omega)]; omega
    have e0 : (decide ((0 : Int) ≤ ((s.size - 1 : Nat) : Int))) = true := by simp <;> omega
    have e2 : (decide (((s.size - 1 : Nat) : Int) < (s.size : Int))) = true := by simp <;> omega
    obtain ⟨b0, b1⟩ := bytes_get s (s.size - 1)
    simp only [e1, cond_false, k2, cond_true, w, e0, e2, Bool.and_self, bt_get, shr4' b0 b1]
    have c1 : (decide ((((List.range s.size).map (lowh s)).length + [(bytesOf s).getD (s.size - 1) 0 / 16].length) * 1 ≤ 140737488355328) && decide (((List.range s.size).map (lowh s)).length + [(bytesOf s).getD (s.size - 1) 0 / 16].length ≤ 9223372036854775807)) = true := by simp; omega
    have c2 : (decide ((((List.range s.size).map atZ).length + [((s.size - 1 : Nat) : Int)].length) * 8 ≤ 140737488355328) && decide (((List.range s.size).map atZ).length + [((s.size - 1 : Nat) : Int)].length ≤ 9223372036854775807)) = true := by simp; omega
    rw [c1, c2]
    rfl
end Go.Proofs.Ytioagofpofamiaa
