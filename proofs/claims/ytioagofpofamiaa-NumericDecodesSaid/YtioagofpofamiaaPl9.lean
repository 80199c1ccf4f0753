/- Plain laws: decimal numbers read, by the code and by the reference. -/
import Derived.Test.YtioagofpofamiaaPl8
/-! Plain laws: decimal numbers read. -/
set_option linter.unusedVariables false
set_option linter.unusedSimpArgs false
namespace Go.Proofs.Ytioagofpofamiaa
open Go.Ab

def sgn (m h : Int) : Int := if h = 11 ∨ h = 13 then -m else m
/-- What digits with a sign behind them are read as. -/
def decR (bad : Nat → Bool) (h : Nat → Int) (a : Nat → Int) (N : Nat) : Int × Int × Int :=
  match scanB bad h N 0 0 with
  | .inl j => (0, a j, 21)
  | .inr m => if h N < 10 then (0, a N, 21) else (sgn m (h N), 0, 0)
def badN (h : Nat → Int) (N : Nat) (ln : Int) (i : Nat) : Bool := decide (h i > 9) || (decide (h i > 0) && decide ((i : Int) < (N : Int) - ln))

theorem sign_eq (d m x : Int) : (bif decide (d < 10) then some ((0 : Int), x, (21 : Int)) else bif d == 11 then some (0 - m, 0, 0) else bif d == 13 then some (0 - m, 0, 0) else some (m, 0, 0)) = some (if d < 10 then (0, x, 21) else (if d = 11 ∨ d = 13 then -m else m, 0, 0)) := by
  by_cases x1 : d < 10
  · simp [x1]
  · by_cases x2 : d = 11
    · subst x2; simp
    · by_cases x3 : d = 13
      · subst x3; simp
      · have y2 : (d == 11) = false := by simpa using x2
        have y3 : (d == 13) = false := by simpa using x3
        simp [x1, x2, x3, y2, y3]

theorem f46q {kd ln sc : Int} {s : ByteArray} {h a : List Int} {N : Nat} (hf : f80F 1000 ((kd, ln, sc), s) = some (h, a)) (hl : h.length = N + 1) (al : a.length = N + 1) (hN : N ≤ 16) (l0 : 0 ≤ ln) (l1 : ln ≤ 256) (hb : ∀ i, 0 ≤ h.getD i 0 ∧ h.getD i 0 ≤ 15) :
    f46F 1000 ((kd, ln, sc), s) = some (decR (badN (fun i => h.getD i 0) N ln) (fun i => h.getD i 0) (fun i => a.getD i 0) N) := by
  unfold f46F
  have w : IntKind.i64.wrap ((h.length : Int) - 1) = (N : Int) := by rw [wi (by omega) (by omega)]; omega
  have c1 : sliceBds 0 (N : Int) (h.length : Int) = true := by unfold sliceBds; simp; omega
  simp only [hf, bind_some', w, c1, cond_true, Int.toNat_natCast, List.drop_zero]
  have tl : (h.take N).length = N := by simp; omega
  have tg : ∀ i, i < N → (h.take N).getD i 0 = h.getD i 0 := fun i hi => by simp [List.getD_eq_getElem?_getD, List.getElem?_take, hi]
  rw [tl]
  unfold f46l1
  have key := iter_scan (R := Int × Int × Int) (Step := fun rec v => f46l1s 1000 rec (fun w6 => some (w6.1, w6.2.1, w6.2.2.1)) (fun w7 => f46p2 1000 (fun w8 => some (w8.1, w8.2.1, w8.2.2.1)) (fun w9 => some (w9.2.1, (0 : Int), (0 : Int))) (w7.1, w7.2.1, w7.2.2.1, w7.2.2.2.1, ())) v)
    (fun i m => ((N : Int), m, h.take N, (N : Int), (i : Int), kd, ln, sc, h, a, ())) (bad := badN (fun i => h.getD i 0) N ln) (val := fun i => h.getD i 0) (N := N) (exit := fun j => some (0, a.getD j 0, 21))
    (fun i hi hbad => by
      simp only [badN, Bool.or_eq_false_iff, decide_eq_false_iff_not] at hbad
      exact ⟨(hb i).1, by omega⟩)
    (fun rec i m hi m0 m1 => by
      have p := pow_le16 (i := i) (by omega)
      obtain ⟨b0, b1⟩ := hb i
      unfold f46l1s f46p0
      have e1 : (decide ((i : Int) < (N : Int))) = true := by simp; omega
      have e0 : (decide ((0 : Int) ≤ (i : Int))) = true := by simp
      have e2 : (decide ((i : Int) < ((h.take N).length : Int))) = true := by rw [tl]; exact e1
      have e3 : (decide ((i : Int) < (a.length : Int))) = true := by simp; omega
      simp only [e1, e0, e2, e3, Bool.and_self, cond_true, Int.toNat_natCast, tg i hi]
      rw [wi (x := (N : Int) - ln) (by omega) (by omega), wi (x := h.getD i 0) (by omega) (by omega), wi (x := m * 10) (by omega) (by omega), wi (x := m * 10 + h.getD i 0) (by omega) (by omega), wi (x := (i : Int) + 1) (by omega) (by omega)]
      unfold badN
      cases decide (h.getD i 0 > 9) <;> cases decide (h.getD i 0 > 0) <;> cases decide ((i : Int) < (N : Int) - ln) <;> rfl)
    (r := N) (i := 0) (k := 1000) (m := 0) (by omega) (by omega) (by omega) (by simp)
  refine Eq.trans key ?_
  unfold decR
  cases hsc : scanB (badN (fun i => h.getD i 0) N ln) (fun i => h.getD i 0) N 0 0 with
  | inl j => rfl
  | inr m =>
    simp only
    obtain ⟨k, hk⟩ : ∃ k, 1000 - N = k + 1 := ⟨1000 - N - 1, by omega⟩
    rw [hk, iterS]
    have mb := scanB_bound (N := N) (fun i hi hbad => by
      simp only [badN, Bool.or_eq_false_iff, decide_eq_false_iff_not] at hbad
      exact ⟨(hb i).1, by omega⟩) (by omega) (by omega) (by simp) hsc
    have p := pow_le16 (i := 0 + N) (by omega)
    unfold f46l1s f46p2
    have e1 : (decide ((N : Int) < (N : Int))) = false := by simp
    have e0 : (decide ((0 : Int) ≤ (N : Int))) = true := by simp
    have e2 : (decide ((N : Int) < (h.length : Int))) = true := by simp; omega
    have e3 : (decide ((N : Int) < (a.length : Int))) = true := by simp; omega
    simp only [e1, e0, e2, e3, Bool.and_self, cond_true, cond_false, Int.toNat_natCast]
    rw [wi (x := 0 - m) (by omega) (by omega)]
    unfold sgn
    exact sign_eq _ _ _

theorem f82q {m h : Int} (m0 : -10000000000000000 ≤ m) (m1 : m ≤ 10000000000000000) : f82F 1000 (m, h) = some (sgn m h, decide (h ≥ 10)) := by
  unfold f82F f82p0 sgn
  simp only
  rw [wi (x := 0 - m) (by omega) (by omega)]
  by_cases x2 : h = 11
  · subst x2; simp
  · by_cases x3 : h = 13
    · subst x3; simp
    · have y2 : (h == 11) = false := by simpa using x2
      have y3 : (h == 13) = false := by simpa using x3
      simp [y2, y3, x2, x3]

theorem scan_last {bad : Nat → Bool} {val : Nat → Int} {L : Nat} {c : Bool} : ∀ {r i : Nat} {n : Int}, i + (r + 1) = L → scanB (fun i => bad i || (decide (i = L - 1) && c)) val (r + 1) i n = (match scanB bad val (r + 1) i n with
    | .inl j => .inl j
    | .inr m => bif c then .inl (L - 1) else .inr m)
  | 0, i, n, h => by
    have : i = L - 1 := by omega
    simp only [scanB, this, decide_true, Bool.true_and]
    cases bad (L - 1) <;> cases c <;> rfl
  | r + 1, i, n, h => by
    have hne : ¬ i = L - 1 := by omega
    rw [scanB]
    conv => rhs; rw [scanB]
    simp only [hne, decide_false, Bool.false_and, Bool.or_false]
    cases bad i with
    | true => rfl
    | false =>
      simp only [cond_false]
      exact scan_last (by omega)

theorem f50q {s : ByteArray} {L : Nat} (hs : s.size = L) (h0 : 1 ≤ L) (h1 : L ≤ 16) : f50F 1000 s = some (match decR (fun i => decide (lowh s i > 9)) (fun i => if i = L then (bytesOf s).getD (L - 1) 0 / 16 else lowh s i) (fun i => if i = L then ((L - 1 : Nat) : Int) else (i : Int)) L with
    | (n, at_, e) => ((n, ByteArray.empty), at_, e)) := by
  unfold f50F f50l1
  let sg : Int := (bytesOf s).getD (L - 1) 0 / 16
  obtain ⟨g0, g1⟩ := bytes_get s (L - 1)
  have hlow : ∀ i, 0 ≤ lowh s i ∧ lowh s i ≤ 15 := fun i => by have := bytes_get s i; unfold lowh; omega
  have w : IntKind.i64.wrap ((s.size : Int) - 1) = ((L - 1 : Nat) : Int) := by rw [wi (by omega) (by omega)]; omega
  have key := iter_scan (R := (Int × ByteArray) × Int × Int) (Step := fun rec v => f50l1s 1000 rec (fun w4 => some ((w4.2.2.2.2.1, w4.2.2.2.2.2.1), w4.1, w4.2.1)) (fun w5 => Option.bind (f82F 1000 (w5.1, w5.2.1)) fun y6 => some ((y6.1, ByteArray.empty), (0 : Int), (0 : Int))) v)
    (fun i m => (s, m, (if i < L then (15 : Int) else sg), (i : Int), 0, ByteArray.empty, ())) (bad := fun i => decide (lowh s i > 9) || (decide (i = L - 1) && decide (sg < 10))) (val := lowh s) (N := L) (exit := fun j => some ((0, ByteArray.empty), (j : Int), 21))
    (fun i hi hbad => by
      simp only [Bool.or_eq_false_iff, decide_eq_false_iff_not] at hbad
      exact ⟨(hlow i).1, by omega⟩)
    (fun rec i m hi m0 m1 => by
      have p := pow_le16 (i := i) (by omega)
      obtain ⟨b0, b1⟩ := bytes_get s i
      have hlo := hlow i
      have hlod : lowh s i = (bytesOf s).getD i 0 % 16 := rfl
      unfold f50l1s f50p0
      have e1 : (decide ((i : Int) < (s.size : Int))) = true := by simp; omega
      have e0 : (decide ((0 : Int) ≤ (i : Int))) = true := by simp
      simp only [e1, e0, w, Bool.and_self, cond_true, bt_get]
      rw [wi (x := (bytesOf s).getD i 0) (by omega) (by omega), Int.tmod_eq_emod_of_nonneg b0, Int.tdiv_eq_ediv_of_nonneg b0, wi (x := (bytesOf s).getD i 0 / 16) (by omega) (by omega), ← hlod,
        wi (x := 10 * m) (by omega) (by omega), wi (x := 10 * m + lowh s i) (by omega) (by omega), wi (x := (i : Int) + 1) (by omega) (by omega), show 10 * m + lowh s i = m * 10 + lowh s i by omega]
      by_cases hL : i = L - 1
      · have q : ((i : Int) == ((L - 1 : Nat) : Int)) = true := by rw [hL]; simp
        have hsg : (bytesOf s).getD i 0 / 16 = sg := by rw [hL]
        rw [q, hsg]
        simp only [cond_true]
        have n1 : ¬ (i + 1 < L) := by omega
        by_cases x1 : sg < 10
        · simp [x1, hL]
        · by_cases x2 : lowh s i > 9
          · simp [x1, x2]
          · simp [x1, x2, n1]
      · have q : ((i : Int) == ((L - 1 : Nat) : Int)) = false := by simp; omega
        rw [q]
        have n0 : i < L := hi
        have n1 : i + 1 < L := by omega
        by_cases x2 : lowh s i > 9
        · simp [x2, n0]
        · simp [x2, n0, n1, hL])
    (r := L) (i := 0) (k := 1000) (m := 0) (by omega) (by omega) (by omega) (by simp)
  have hstart : (if (0 : Nat) < L then (15 : Int) else sg) = 15 := if_pos (by omega)
  simp only [hstart] at key
  refine Eq.trans key ?_
  obtain ⟨L', hL'⟩ : ∃ L', L = L' + 1 := ⟨L - 1, by omega⟩
  have sl := scan_last (bad := fun i => decide (lowh s i > 9)) (val := lowh s) (L := L) (c := decide (sg < 10)) (r := L') (i := 0) (n := 0) (by omega)
  rw [← hL'] at sl
  rw [sl]
  unfold decR
  have cg : scanB (fun i => decide (lowh s i > 9)) (fun i => if i = L then (bytesOf s).getD (L - 1) 0 / 16 else lowh s i) L 0 0 = scanB (fun i => decide (lowh s i > 9)) (lowh s) L 0 0 := scanB_congr fun j _ hj => ⟨rfl, if_neg (by omega)⟩
  rw [cg]
  cases hsc : scanB (fun i => decide (lowh s i > 9)) (lowh s) L 0 0 with
  | inl j =>
    have := scanB_lt hsc
    simp only
    rw [if_neg (by omega)]
  | inr m =>
    simp only [if_true]
    have mb := scanB_bound (N := L) (fun i hi hbad => by
      simp only [decide_eq_false_iff_not] at hbad
      exact ⟨(hlow i).1, by omega⟩) (by omega) (by omega) (by simp) hsc
    have p := pow_le16 (i := 0 + L) (by omega)
    show (match (bif decide (sg < 10) then Sum.inl (L - 1) else Sum.inr m) with | .inl j => _ | .inr m => _) = some (match (if sg < 10 then ((0 : Int), ((L - 1 : Nat) : Int), (21 : Int)) else (sgn m sg, 0, 0)) with | (n, at_, e) => ((n, ByteArray.empty), at_, e))
    by_cases x1 : sg < 10
    · simp [x1]
    · simp only [x1, decide_false, cond_false, if_false]
      obtain ⟨k, hk⟩ : ∃ k, 1000 - L = k + 1 := ⟨1000 - L - 1, by omega⟩
      rw [hk, iterS]
      unfold f50l1s
      have e1 : (decide ((L : Int) < (s.size : Int))) = false := by simp; omega
      have n0 : ¬ (L < L) := by omega
      simp only [e1, cond_false, n0, if_false]
      rw [f82q (by omega) (by omega)]
      rfl
end Go.Proofs.Ytioagofpofamiaa
