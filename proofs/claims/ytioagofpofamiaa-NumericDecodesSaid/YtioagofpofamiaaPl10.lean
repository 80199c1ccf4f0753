/- Plain laws: packed and binary numbers read, by the code and by the reference. -/
import Derived.Test.YtioagofpofamiaaPl9
/-! Plain laws: packed and binary numbers read. -/
set_option linter.unusedVariables false
set_option linter.unusedSimpArgs false
namespace Go.Proofs.Ytioagofpofamiaa
open Go.Ab

def badP (s : ByteArray) (ln : Int) (i : Nat) : Bool := decide (half s i > 9) || (decide (i = 0) && (decide (ln % 2 = 0) && decide (half s i ≠ 0)))
abbrev R51 := (Int × ByteArray) × Int × Int

theorem f51step {s : ByteArray} {z : Nat} {ln sc m : Int} (hz : s.size = z) (h1 : z ≤ 16) (l0 : 0 ≤ ln) (i : Nat) (hi : i < 2 * z) (m0 : 0 ≤ m) (m1 : m ≤ 10000000000000000)
    (rec : ByteArray × Int × Int × Int × Int × Int × Int × ByteArray × Unit → Option R51) (k1 : Int × Int × ByteArray × Unit → Option R51) :
    f51l4s 1000 rec (fun w41 => some ((w41.2.2.2.1, w41.2.2.2.2.1), w41.1, w41.2.1)) k1 (s, m, (i : Int), 1, ln, sc, 0, ByteArray.empty, ()) =
      bif (bif decide (i = 2 * z - 1) then decide (half s i < 10) else decide (half s i > 9)) || (decide (i = 0) && (decide (ln % 2 = 0) && decide (half s i ≠ 0))) then some ((0, ByteArray.empty), atH i, 21)
      else rec (s, (bif decide (i = 2 * z - 1) then sgn m (half s i) else m * 10 + half s i), ((i + 1 : Nat) : Int), 1, ln, sc, 0, ByteArray.empty, ()) := by
  obtain ⟨b0, b1⟩ := bytes_get s (i / 2)
  obtain ⟨h0, h15⟩ := half_bound s i
  have w1 : IntKind.i64.wrap (2 * (s.size : Int)) = ((2 * z : Nat) : Int) := by rw [hz, wi (by omega) (by omega)]; omega
  have w2 : IntKind.i64.wrap (((2 * z : Nat) : Int) - 1) = ((2 * z - 1 : Nat) : Int) := by rw [wi (by omega) (by omega)]; omega
  have w3 : IntKind.i64.wrap (Int.tdiv (i : Int) 2) = ((i / 2 : Nat) : Int) := by rw [Int.tdiv_eq_ediv_of_nonneg (by omega), wi (by omega) (by omega)]; omega
  have e1 : (decide ((i : Int) < ((2 * z : Nat) : Int))) = true := by simp; omega
  have e0 : (decide ((0 : Int) ≤ ((i / 2 : Nat) : Int))) = true := by simp <;> omega
  have e2 : (decide (((i / 2 : Nat) : Int) < (s.size : Int))) = true := by simp; omega
  have wB : IntKind.i64.wrap ((bytesOf s).getD (i / 2) 0) = (bytesOf s).getD (i / 2) 0 := wi (by omega) (by omega)
  have wD : IntKind.i64.wrap (Int.tdiv ((bytesOf s).getD (i / 2) 0) 16) = (bytesOf s).getD (i / 2) 0 / 16 := by rw [Int.tdiv_eq_ediv_of_nonneg b0, wi (by omega) (by omega)]
  have wM : Int.tmod ((bytesOf s).getD (i / 2) 0) 16 = (bytesOf s).getD (i / 2) 0 % 16 := Int.tmod_eq_emod_of_nonneg b0
  have wI : IntKind.i64.wrap ((i : Int) + 1) = ((i + 1 : Nat) : Int) := by rw [wi (by omega) (by omega)]; rfl
  have wL : Int.tmod ln 2 = ln % 2 := Int.tmod_eq_emod_of_nonneg l0
  have wH : ∀ h : Int, 0 ≤ h → h ≤ 15 → IntKind.i64.wrap (IntKind.i64.wrap (10 * m) + h) = m * 10 + h := fun h a b => by rw [wi (x := 10 * m) (by omega) (by omega), wi (by omega) (by omega)]; omega
  have qL : ((i : Int) == ((2 * z - 1 : Nat) : Int)) = decide (i = 2 * z - 1) := by
    by_cases hh : i = 2 * z - 1
    · rw [decide_eq_true hh, hh]; simp
    · rw [decide_eq_false hh]; simp; omega
  have q0 : ((i : Int) == 0) = decide (i = 0) := by
    by_cases hh : i = 0
    · subst hh; rfl
    · rw [decide_eq_false hh]; simp; omega
  have qP : ((ln % 2 : Int) == 0) = decide (ln % 2 = 0) := by
    by_cases hh : ln % 2 = 0
    · rw [hh]; rfl
    · rw [decide_eq_false hh]; simpa using hh
  have qN : (half s i != 0) = decide (half s i ≠ 0) := by
    by_cases hh : half s i = 0
    · rw [hh]; rfl
    · rw [decide_eq_true hh]; simpa using hh
  unfold f51l4s f51p3 f51p0 f51p1 f51p2
  simp only [w1, e1, cond_true, w3, e0, e2, Bool.and_self, bt_get, wB, wD, wM, w2, qL, q0, wL, qP, wI]
  by_cases hp : i % 2 = 0
  · have p1 : ((Int.tmod (i : Int) 2) == 1) = false := by rw [Int.tmod_eq_emod_of_nonneg (by omega)]; simp; omega
    have hh : (bytesOf s).getD (i / 2) 0 / 16 = half s i := by unfold half; rw [if_pos hp]
    simp only [p1, cond_false, hh, wH _ h0 h15, qN]
    have f := f82q (m := m) (h := half s i) (by omega) (by omega)
    rw [f]
    simp only [bind_some']
    cases decide (i = 2 * z - 1) <;> cases decide (half s i < 10) <;> cases decide (half s i > 9) <;> cases decide (i = 0) <;> cases decide (ln % 2 = 0) <;> cases decide (half s i ≠ 0) <;> rfl
  · have p1 : ((Int.tmod (i : Int) 2) == 1) = true := by rw [Int.tmod_eq_emod_of_nonneg (by omega)]; simp; omega
    have hh : (bytesOf s).getD (i / 2) 0 % 16 = half s i := by unfold half; rw [if_neg hp]
    simp only [p1, cond_true, hh, wH _ h0 h15, qN]
    have f := f82q (m := m) (h := half s i) (by omega) (by omega)
    rw [f]
    simp only [bind_some']
    cases decide (i = 2 * z - 1) <;> cases decide (half s i < 10) <;> cases decide (half s i > 9) <;> cases decide (i = 0) <;> cases decide (ln % 2 = 0) <;> cases decide (half s i ≠ 0) <;> rfl

theorem f51q {s : ByteArray} {z : Nat} {ln sc : Int} (hz : s.size = z) (h0 : 1 ≤ z) (h1 : z ≤ 8) (l0 : 0 ≤ ln) : f51F 1000 ((1, ln, sc), s) = some (match decR (badP s ln) (half s) atH (2 * z - 1) with
    | (n, at_, e) => ((n, ByteArray.empty), at_, e)) := by
  unfold f51F f51l4
  have key := iter_scan (R := R51) (Step := fun rec v => f51l4s 1000 rec (fun w41 => some ((w41.2.2.2.1, w41.2.2.2.2.1), w41.1, w41.2.1)) (fun w42 => some ((w42.1, ByteArray.empty), (0 : Int), (0 : Int))) v)
    (fun i m => (s, m, (i : Int), 1, ln, sc, 0, ByteArray.empty, ())) (bad := badP s ln) (val := half s) (N := 2 * z - 1) (exit := fun j => some ((0, ByteArray.empty), atH j, 21))
    (fun i hi hbad => by
      simp only [badP, Bool.or_eq_false_iff, decide_eq_false_iff_not] at hbad
      exact ⟨(half_bound s i).1, by omega⟩)
    (fun rec i m hi m0 m1 => by
      have p := pow_le16 (i := i) (by omega)
      have := f51step (sc := sc) hz (by omega) l0 i (by omega) m0 (by omega) rec (fun w42 => some ((w42.1, ByteArray.empty), (0 : Int), (0 : Int)))
      rw [this]
      have nl : ¬ (i = 2 * z - 1) := by omega
      unfold badP
      simp only [nl, decide_false, cond_false])
    (r := 2 * z - 1) (i := 0) (k := 1000) (m := 0) (by omega) (by omega) (by omega) (by simp)
  refine Eq.trans key ?_
  unfold decR
  cases hsc : scanB (badP s ln) (half s) (2 * z - 1) 0 0 with
  | inl j => rfl
  | inr m =>
    simp only
    have mb := scanB_bound (N := 2 * z - 1) (fun i hi hbad => by
      simp only [badP, Bool.or_eq_false_iff, decide_eq_false_iff_not] at hbad
      exact ⟨(half_bound s i).1, by omega⟩) (by omega) (by omega) (by simp) hsc
    have p := pow_le16 (i := 0 + (2 * z - 1)) (by omega)
    obtain ⟨k, hk⟩ : ∃ k, 1000 - (2 * z - 1) = k + 1 + 1 := ⟨1000 - (2 * z - 1) - 2, by omega⟩
    rw [hk, iterS]
    have := f51step (sc := sc) hz (by omega) l0 (2 * z - 1) (by omega) mb.1 (by omega) (iterS (fun rec v => f51l4s 1000 rec (fun w41 => some ((w41.2.2.2.1, w41.2.2.2.2.1), w41.1, w41.2.1)) (fun w42 => some ((w42.1, ByteArray.empty), (0 : Int), (0 : Int))) v) (k + 1)) (fun w42 => some ((w42.1, ByteArray.empty), (0 : Int), (0 : Int)))
    rw [this]
    have n0 : ¬ (2 * z - 1 = 0) := by omega
    simp only [decide_true, cond_true, n0, decide_false, Bool.false_and, Bool.or_false]
    by_cases x1 : half s (2 * z - 1) < 10
    · simp [x1]
    · simp only [x1, decide_false, cond_false, if_false]
      rw [iterS]
      unfold f51l4s
      have w1 : IntKind.i64.wrap (2 * (s.size : Int)) = ((2 * z : Nat) : Int) := by rw [hz, wi (by omega) (by omega)]; omega
      have e1 : (decide (((2 * z - 1 + 1 : Nat) : Int) < ((2 * z : Nat) : Int))) = false := by simp; omega
      simp only [w1, e1, cond_false]

/-- Packed and zoned numbers: the code reads what the reference reads. -/
theorem dec1 {ln sc : Int} {s : ByteArray} (h0 : 1 ≤ ln) (h1 : ln ≤ 15) (hs : (s.size : Int) = ln / 2 + 1) : ∃ n a e, f46F 1000 ((1, ln, sc), s) = some (n, a, e) ∧ f51F 1000 ((1, ln, sc), s) = some ((n, ByteArray.empty), a, e) := by
  obtain ⟨z, hz⟩ : ∃ z, s.size = z := ⟨_, rfl⟩
  have hz0 : 1 ≤ z := by omega
  have hz1 : z ≤ 8 := by omega
  have hl : ((List.range (2 * z)).map (half s)).length = (2 * z - 1) + 1 := by simp; omega
  have al : ((List.range (2 * z)).map atH).length = (2 * z - 1) + 1 := by simp; omega
  have hg : ∀ i, i < 2 * z → ((List.range (2 * z)).map (half s)).getD i 0 = half s i := fun i hi => by simp [List.getD_eq_getElem?_getD, hi]
  have ag : ∀ i, i < 2 * z → ((List.range (2 * z)).map atH).getD i 0 = atH i := fun i hi => by simp [List.getD_eq_getElem?_getD, hi]
  have hb : ∀ i, 0 ≤ ((List.range (2 * z)).map (half s)).getD i 0 ∧ ((List.range (2 * z)).map (half s)).getD i 0 ≤ 15 := fun i => by
    by_cases hi : i < 2 * z
    · rw [hg i hi]; exact half_bound s i
    · rw [List.getD_eq_getElem?_getD, List.getElem?_eq_none (by simp; omega)]; decide
  have hv := halves1 (ln := ln) (sc := sc) s (by omega)
  rw [hz] at hv
  have A := f46q hv hl al (by omega) (by omega) (by omega) hb
  have B := f51q (ln := ln) (sc := sc) hz hz0 hz1 (by omega)
  have E : decR (badN (fun i => ((List.range (2 * z)).map (half s)).getD i 0) (2 * z - 1) ln) (fun i => ((List.range (2 * z)).map (half s)).getD i 0) (fun i => ((List.range (2 * z)).map atH).getD i 0) (2 * z - 1) = decR (badP s ln) (half s) atH (2 * z - 1) := by
    unfold decR
    have cg : scanB (badN (fun i => ((List.range (2 * z)).map (half s)).getD i 0) (2 * z - 1) ln) (fun i => ((List.range (2 * z)).map (half s)).getD i 0) (2 * z - 1) 0 0 = scanB (badP s ln) (half s) (2 * z - 1) 0 0 := scanB_congr fun j _ hj => by
      refine ⟨?_, hg j (by omega)⟩
      unfold badN badP
      simp only [hg j (by omega)]
      obtain ⟨c0, c1⟩ := half_bound s j
      congr 1
      rw [← Bool.decide_and, ← Bool.decide_and, ← Bool.decide_and, decide_eq_decide]
      omega
    rw [cg]
    cases hsc : scanB (badP s ln) (half s) (2 * z - 1) 0 0 with
    | inl j =>
      have := scanB_lt hsc
      simp only [ag j (by omega)]
    | inr m => simp only [hg (2 * z - 1) (by omega), ag (2 * z - 1) (by omega)]
  rw [E] at A
  exact ⟨_, _, _, A, B⟩

theorem dec2 {ln sc : Int} {s : ByteArray} (h0 : 1 ≤ ln) (h1 : ln ≤ 15) (hs : (s.size : Int) = ln) : ∃ n a e, f46F 1000 ((2, ln, sc), s) = some (n, a, e) ∧ f50F 1000 s = some ((n, ByteArray.empty), a, e) := by
  obtain ⟨L, hL⟩ : ∃ L, s.size = L := ⟨_, rfl⟩
  have hL0 : 1 ≤ L := by omega
  have hL1 : L ≤ 15 := by omega
  obtain ⟨g0, g1⟩ := bytes_get s (L - 1)
  have hl : ((List.range L).map (lowh s) ++ [(bytesOf s).getD (L - 1) 0 / 16]).length = L + 1 := by simp
  have al : ((List.range L).map atZ ++ [((L - 1 : Nat) : Int)]).length = L + 1 := by simp
  have hg : ∀ i, i ≤ L → ((List.range L).map (lowh s) ++ [(bytesOf s).getD (L - 1) 0 / 16]).getD i 0 = if i = L then (bytesOf s).getD (L - 1) 0 / 16 else lowh s i := fun i hi => by
    by_cases h : i = L
    · subst h; rw [if_pos rfl, List.getD_eq_getElem?_getD, List.getElem?_append_right (by simp)]; simp
    · rw [if_neg h, List.getD_eq_getElem?_getD, List.getElem?_append_left (by simp; omega)]; simp [show i < L by omega]
  have ag : ∀ i, i ≤ L → ((List.range L).map atZ ++ [((L - 1 : Nat) : Int)]).getD i 0 = if i = L then ((L - 1 : Nat) : Int) else (i : Int) := fun i hi => by
    by_cases h : i = L
    · subst h; rw [if_pos rfl, List.getD_eq_getElem?_getD, List.getElem?_append_right (by simp)]; simp
    · rw [if_neg h, List.getD_eq_getElem?_getD, List.getElem?_append_left (by simp; omega)]; simp [show i < L by omega, atZ]
  have hb : ∀ i, 0 ≤ ((List.range L).map (lowh s) ++ [(bytesOf s).getD (L - 1) 0 / 16]).getD i 0 ∧ ((List.range L).map (lowh s) ++ [(bytesOf s).getD (L - 1) 0 / 16]).getD i 0 ≤ 15 := fun i => by
    by_cases hi : i ≤ L
    · rw [hg i hi]
      have := bytes_get s i
      unfold lowh
      split <;> omega
    · rw [List.getD_eq_getElem?_getD, List.getElem?_eq_none (by rw [hl]; omega)]; decide
  have hv := halves2 (ln := ln) (sc := sc) s (by omega) (by omega)
  rw [hL] at hv
  have A := f46q hv hl al (by omega) (by omega) (by omega) hb
  have B := f50q hL hL0 (by omega)
  have E : decR (badN (fun i => ((List.range L).map (lowh s) ++ [(bytesOf s).getD (L - 1) 0 / 16]).getD i 0) L ln) (fun i => ((List.range L).map (lowh s) ++ [(bytesOf s).getD (L - 1) 0 / 16]).getD i 0) (fun i => ((List.range L).map atZ ++ [((L - 1 : Nat) : Int)]).getD i 0) L
      = decR (fun i => decide (lowh s i > 9)) (fun i => if i = L then (bytesOf s).getD (L - 1) 0 / 16 else lowh s i) (fun i => if i = L then ((L - 1 : Nat) : Int) else (i : Int)) L := by
    unfold decR
    have cg : scanB (badN (fun i => ((List.range L).map (lowh s) ++ [(bytesOf s).getD (L - 1) 0 / 16]).getD i 0) L ln) (fun i => ((List.range L).map (lowh s) ++ [(bytesOf s).getD (L - 1) 0 / 16]).getD i 0) L 0 0
        = scanB (fun i => decide (lowh s i > 9)) (fun i => if i = L then (bytesOf s).getD (L - 1) 0 / 16 else lowh s i) L 0 0 := scanB_congr fun j _ hj => by
      refine ⟨?_, hg j (by omega)⟩
      unfold badN
      simp only [hg j (by omega)]
      rw [if_neg (by omega)]
      have : ¬ ((j : Int) < (L : Int) - ln) := by omega
      simp [this]
    rw [cg]
    cases hsc : scanB (fun i => decide (lowh s i > 9)) (fun i => if i = L then (bytesOf s).getD (L - 1) 0 / 16 else lowh s i) L 0 0 with
    | inl j =>
      have := scanB_lt hsc
      simp only [ag j (by omega)]
    | inr m => simp only [hg L (by omega), ag L (by omega)]
  rw [E] at A
  exact ⟨_, _, _, A, B⟩
end Go.Proofs.Ytioagofpofamiaa
