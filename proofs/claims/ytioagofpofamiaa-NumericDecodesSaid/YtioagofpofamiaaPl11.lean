/- Plain law: the value with bytes is as specified, or the offset and the error. -/
import Derived.Test.YtioagofpofamiaaPl10
/-! Plain law: the value with bytes is as specified. -/
set_option linter.unusedVariables false
set_option linter.unusedSimpArgs false
namespace Go.Proofs.Ytioagofpofamiaa
open Go.Ab

theorem or256 {n c : Int} (n0 : -1099511627776 ≤ n) (n1 : n ≤ 1099511627776) (c0 : 0 ≤ c) (c1 : c ≤ 255) : bits .or .i64 (shlI .i64 n 8) c = n * 256 + c := by
  have hs : shlI .i64 n 8 = n * 256 := by
    unfold shlI
    rw [show min (8 : Int).toNat IntKind.i64.bits = 8 from rfl, show (2 : Int) ^ 8 = 256 from rfl, wi (by omega) (by omega)]
  rw [hs]
  unfold bits
  simp only
  have key : (BitVec.ofInt IntKind.i64.bits (n * 256) ||| BitVec.ofInt IntKind.i64.bits c).toNat = (((n * 256 + c) % 18446744073709551616)).toNat := by
    rw [BitVec.toNat_or]
    have e1 : (BitVec.ofInt IntKind.i64.bits (n * 256)).toNat = ((n % 72057594037927936).toNat) <<< 8 := by
      rw [BitVec.toNat_ofInt, Nat.shiftLeft_eq]
      show ((n * 256) % ((2 ^ 64 : Nat) : Int)).toNat = _
      have : ((2 ^ 64 : Nat) : Int) = 18446744073709551616 := rfl
      rw [this]
      omega
    have e2 : (BitVec.ofInt IntKind.i64.bits c).toNat = c.toNat := by
      rw [BitVec.toNat_ofInt]
      show (c % ((2 ^ 64 : Nat) : Int)).toNat = _
      have : ((2 ^ 64 : Nat) : Int) = 18446744073709551616 := rfl
      rw [this]
      omega
    rw [e1, e2, ← Nat.shiftLeft_add_eq_or_of_lt (by omega), Nat.shiftLeft_eq]
    omega
  rw [key, IntKind.wrap_i64]
  omega

theorem i8w : ∀ b : Fin 256, IntKind.i8.wrap (b.val : Int) = if (b.val : Int) ≥ 128 then (b.val : Int) - 256 else b.val := by decide +kernel
theorem i8w' {b : Int} (h0 : 0 ≤ b) (h1 : b ≤ 255) : IntKind.i8.wrap b = if b ≥ 128 then b - 256 else b := by
  have := i8w ⟨b.toNat, by omega⟩
  simp only at this
  rwa [show ((b.toNat : Nat) : Int) = b by omega] at this

/-- Bytes put together, the highest one first. -/
def fold (e : List Int) (n0 : Int) : Nat → Int
  | 0 => n0
  | i + 1 => fold e n0 i * 256 + e.getD i 0
theorem fold_bound {e : List Int} {n0 : Int} (h0 : -128 ≤ n0) (h1 : n0 ≤ 255) (he : ∀ i, 0 ≤ e.getD i 0 ∧ e.getD i 0 ≤ 255) : ∀ i, -(128 * 256 ^ i) ≤ fold e n0 i ∧ fold e n0 i ≤ 256 * 256 ^ i - 1
  | 0 => by simp [fold]; omega
  | i + 1 => by
    have := fold_bound h0 h1 he i
    have := he i
    simp only [fold, Int.pow_succ]
    omega
theorem p256 {i : Nat} (h : i ≤ 4) : (256 : Int) ^ i ≤ 4294967296 := by
  have : i = 0 ∨ i = 1 ∨ i = 2 ∨ i = 3 ∨ i = 4 := by omega
  rcases this with rfl | rfl | rfl | rfl | rfl <;> decide
theorem p256pos (i : Nat) : (0 : Int) < 256 ^ i := Int.pow_pos (by decide)

theorem bytes_tail (s : ByteArray) : bytesOf (s.extract 1 s.size) = (bytesOf s).drop 1 := by
  unfold bytesOf
  rw [← List.map_drop]
  congr 1
  rw [ByteArray.data_extract, Array.toList_extract, List.extract_eq_take_drop]
  exact List.take_of_length_le (by rw [List.length_drop]; exact Nat.le_refl _)

theorem f45q {s : ByteArray} (h0 : 1 ≤ s.size) (h1 : s.size ≤ 4) : f45F 1000 s = some (fold ((bytesOf s).drop 1) (if (bytesOf s).getD 0 0 ≥ 128 then (bytesOf s).getD 0 0 - 256 else (bytesOf s).getD 0 0) (s.size - 1)) := by
  obtain ⟨b0, b1⟩ := bytes_get s 0
  unfold f45F
  have c1 : (decide ((0 : Int) < (s.size : Int))) = true := by simp; omega
  have c2 : sliceBds 1 (s.size : Int) (s.size : Int) = true := by unfold sliceBds; simp; omega
  have hz : ((bytesOf s).drop 1).length = s.size - 1 := by rw [List.length_drop, bytes_len]
  have c3 : (decide ((s.extract 1 s.size).size ≤ 9223372036854775807)) = true := by
    have : (s.extract 1 s.size).size = s.size - 1 := by rw [← bytes_len, bytes_tail, hz]
    simp [this]; omega
  have hb0 : bt s 0 = (bytesOf s).getD 0 0 := bt_get s 0
  simp only [c1, c2, Int.toNat_natCast, c3, cond_true, bytes_tail, hz, hb0, i8w' b0 b1]
  have he : ∀ i, 0 ≤ ((bytesOf s).drop 1).getD i 0 ∧ ((bytesOf s).drop 1).getD i 0 ≤ 255 := fun i => by
    have := bytes_get s (1 + i)
    rw [List.getD_eq_getElem?_getD, List.getElem?_drop]
    rwa [List.getD_eq_getElem?_getD] at this
  have n0 : -128 ≤ (if (bytesOf s).getD 0 0 ≥ 128 then (bytesOf s).getD 0 0 - 256 else (bytesOf s).getD 0 0) ∧ (if (bytesOf s).getD 0 0 ≥ 128 then (bytesOf s).getD 0 0 - 256 else (bytesOf s).getD 0 0) ≤ 255 := by split <;> omega
  rw [wi (by omega) (by omega)]
  unfold f45l0
  have key := iter_for (R := Int) (Step := fun rec v => f45l0s 1000 rec (fun w2 => some w2.1) v) (fun i => (fold ((bytesOf s).drop 1) (if (bytesOf s).getD 0 0 ≥ 128 then (bytesOf s).getD 0 0 - 256 else (bytesOf s).getD 0 0) i, ((s.size - 1 : Nat) : Int), (i : Int), (bytesOf s).drop 1, ())) (s.size - 1)
    (fin := some (fold ((bytesOf s).drop 1) (if (bytesOf s).getD 0 0 ≥ 128 then (bytesOf s).getD 0 0 - 256 else (bytesOf s).getD 0 0) (s.size - 1))) ?_ ?_ (k := 1000) (by omega)
  · exact key
  · intro rec i hi
    have fb := fold_bound n0.1 n0.2 he i
    have p := p256 (i := i) (by omega)
    obtain ⟨c0, c1⟩ := he i
    unfold f45l0s
    have e1 : (decide ((i : Int) < ((s.size - 1 : Nat) : Int))) = true := by simp; omega
    have e0 : (decide ((0 : Int) ≤ (i : Int))) = true := by simp
    have e2 : (decide ((i : Int) < (((bytesOf s).drop 1).length : Int))) = true := by rw [hz]; exact e1
    simp only [e1, e0, e2, Bool.and_self, cond_true, Int.toNat_natCast]
    rw [wi (x := ((bytesOf s).drop 1).getD i 0) (by omega) (by omega), or256 (by omega) (by omega) c0 c1, wi (x := (i : Int) + 1) (by omega) (by omega)]
    rfl
  · intro rec
    unfold f45l0s
    have e1 : (decide (((s.size - 1 : Nat) : Int) < ((s.size - 1 : Nat) : Int))) = false := by simp
    simp only [e1, cond_false]

theorem f47q {s : ByteArray} (h1 : s.size ≤ 4) : f47F 1000 (s, 0, (s.size : Int)) = some (fold (bytesOf s) 0 s.size) := by
  unfold f47F f47l0
  have he : ∀ i, 0 ≤ (bytesOf s).getD i 0 ∧ (bytesOf s).getD i 0 ≤ 255 := bytes_get s
  have key := iter_for (R := Int) (Step := fun rec v => f47l0s 1000 rec (fun w2 => some w2.1) v) (fun i => (s, 0, (s.size : Int), fold (bytesOf s) 0 i, (i : Int), ())) s.size (fin := some (fold (bytesOf s) 0 s.size)) ?_ ?_ (k := 1000) (by omega)
  · exact key
  · intro rec i hi
    have fb := fold_bound (n0 := 0) (by decide) (by decide) he i
    have p := p256 (i := i) (by omega)
    obtain ⟨c0, c1⟩ := he i
    unfold f47l0s
    have e1 : (decide ((i : Int) < (s.size : Int))) = true := by simp; omega
    have e0 : (decide ((0 : Int) ≤ (i : Int))) = true := by simp
    have w0 : IntKind.i64.wrap (0 + (i : Int)) = i := by rw [wi (by omega) (by omega)]; omega
    simp only [e1, w0, e0, Bool.and_self, cond_true, bt_get]
    rw [wi (x := fold (bytesOf s) 0 i * 256) (by omega) (by omega), wi (x := (bytesOf s).getD i 0) (by omega) (by omega), wi (x := fold (bytesOf s) 0 i * 256 + (bytesOf s).getD i 0) (by omega) (by omega), wi (x := (i : Int) + 1) (by omega) (by omega)]
    rfl
  · intro rec
    unfold f47l0s
    have e1 : (decide ((s.size : Int) < (s.size : Int))) = false := by simp
    simp only [e1, cond_false]

/-- How many bytes values of a type have. -/
def szOf (kd ln : Int) : Int := if kd = 1 then ln / 2 + 1 else if kd = 3 then (if ln = 9 then 4 else 2) else ln
theorem size_q {kd ln sc : Int} (ht : tyErr kd ln sc = 0) (h4 : kd ≠ 4) : f44F 1000 (kd, ln, sc) = some (szOf kd ln) ∧ f31F 1000 (kd, ln, sc) = some (szOf kd ln) := by
  obtain ⟨a1, a2, a3, a4, a5, a6, a7, a8, a9⟩ := ty_ok ht
  have : kd = 0 ∨ kd = 1 ∨ kd = 2 ∨ kd = 3 := by omega
  rcases this with rfl | rfl | rfl | rfl
  · exact ⟨rfl, rfl⟩
  · obtain ⟨l0, l1⟩ := a4 (by omega)
    have w : IntKind.i64.wrap (IntKind.i64.wrap (Int.tdiv ln 2) + 1) = ln / 2 + 1 := by rw [Int.tdiv_eq_ediv_of_nonneg (by omega), wi (x := ln / 2) (by omega) (by omega), wi (by omega) (by omega)]
    constructor
    · show some (IntKind.i64.wrap (IntKind.i64.wrap (Int.tdiv ln 2) + 1)) = _
      rw [w]; rfl
    · show some (IntKind.i64.wrap (IntKind.i64.wrap (Int.tdiv ln 2) + 1)) = _
      rw [w]; rfl
  · exact ⟨rfl, rfl⟩
  · rcases a5 rfl with rfl | rfl <;> exact ⟨rfl, rfl⟩

theorem bin_eq {s : ByteArray} {z : Nat} (hz : s.size = z) (h : z = 2 ∨ z = 4) : fold ((bytesOf s).drop 1) (if (bytesOf s).getD 0 0 ≥ 128 then (bytesOf s).getD 0 0 - 256 else (bytesOf s).getD 0 0) (z - 1) = (if (bytesOf s).getD 0 0 ≥ 128 then fold (bytesOf s) 0 z - 2 ^ (8 * z) else fold (bytesOf s) 0 z) := by
  have hd : ∀ i, ((bytesOf s).drop 1).getD i 0 = (bytesOf s).getD (i + 1) 0 := fun i => by
    rw [List.getD_eq_getElem?_getD, List.getElem?_drop, List.getD_eq_getElem?_getD, Nat.add_comm]
  rcases h with rfl | rfl
  · simp only [fold, hd, Nat.reduceSub, Nat.reduceAdd]
    split <;> omega
  · simp only [fold, hd, Nat.reduceSub, Nat.reduceAdd]
    split <;> omega

theorem dec3 {ln sc : Int} {s : ByteArray} (hl : ln = 4 ∨ ln = 9) (ht : tyErr 3 ln sc = 0) (hs : (s.size : Int) = szOf 3 ln) : ∃ r, f16F 1000 ((3, ln, sc), s) = some r ∧ f17F 1000 ((3, ln, sc), s) = some r := by
  obtain ⟨g44, g31⟩ := size_q ht (by decide)
  obtain ⟨z, hz⟩ : ∃ z, s.size = z := ⟨_, rfl⟩
  have hz24 : z = 2 ∨ z = 4 := by
    unfold szOf at hs
    rcases hl with rfl | rfl
    · simp at hs; omega
    · simp at hs; omega
  have l0 : 1 ≤ ln := by omega
  have l1 : ln ≤ 15 := by omega
  have pb := pw_bound l0 l1
  obtain ⟨b0, b1⟩ := bytes_get s 0
  have F := f45q (s := s) (by omega) (by omega)
  have G := f47q (s := s) (by omega)
  rw [hz, bin_eq hz hz24] at F
  have hb0 : bt s 0 = (bytesOf s).getD 0 0 := bt_get s 0
  let n : Int := if (bytesOf s).getD 0 0 ≥ 128 then fold (bytesOf s) 0 z - 2 ^ (8 * z) else fold (bytesOf s) 0 z
  have fb := fold_bound (n0 := 0) (by decide) (by decide) (bytes_get s) z
  have p := p256 (i := z) (by omega)
  have e18 : ((s.size : Int) != szOf 3 ln) = false := by rw [hs]; simp
  refine ⟨if pw ln - 1 < n ∨ n < -(pw ln - 1) then (((0 : Int), ByteArray.empty), (0 : Int), (19 : Int)) else ((n, ByteArray.empty), 0, 0), ?_, ?_⟩
  · unfold f16F f16p0
    simp only [f28q, ht, f43q, f42q, bind_some', g44, e18, F, f29q]
    have hv : valErr 3 ln sc n ByteArray.empty = if pw ln - 1 < n ∨ n < -(pw ln - 1) then 19 else 0 := by
      unfold valErr
      rw [if_neg (by simp [ht]), if_neg (by decide), if_neg (by decide), strEq_self, if_neg (by decide)]
      split <;> split <;> first | rfl | omega
    have hv' : valErr 3 ln sc (if (bytesOf s).getD 0 0 ≥ 128 then fold (bytesOf s) 0 z - 2 ^ (8 * z) else fold (bytesOf s) 0 z) ByteArray.empty = if pw ln - 1 < n ∨ n < -(pw ln - 1) then 19 else 0 := hv
    rw [hv']
    by_cases hr : pw ln - 1 < n ∨ n < -(pw ln - 1)
    · rw [if_pos hr, if_pos hr]; rfl
    · rw [if_neg hr, if_neg hr]; rfl
  · unfold f17F f17p0
    rw [hz] at G e18
    have e0 : ((3 : Int) == 4) = false := rfl
    have e1 : ((3 : Int) == 0) = false := rfl
    have e2 : ((3 : Int) == 3) = true := rfl
    have c1 : (decide ((0 : Int) < (z : Int))) = true := by simp; omega
    have y0 : ((0 : Int) != 0) = false := rfl
    simp only [f27q, ht, bind_some', y0, e0, e1, e2, g31, cond_false, cond_true, hz, e18, G, c1, hb0, f49q l0 l1, f48q]
    have w8 : IntKind.i64.wrap (8 * (z : Int)) = 8 * (z : Int) := wi (by omega) (by omega)
    have c2 : (decide ((0 : Int) ≤ 8 * (z : Int))) = true := by simp; omega
    have sh : shlI .i64 1 (8 * (z : Int)) = 2 ^ (8 * z) := by rcases hz24 with rfl | rfl <;> rfl
    have pz : (2 : Int) ^ (8 * z) = 256 ^ z := by rcases hz24 with rfl | rfl <;> rfl
    rw [w8, c2, sh]
    simp only [cond_true]
    rw [wi (x := 0 - (pw ln - 1)) (by omega) (by omega)]
    by_cases hb : (bytesOf s).getD 0 0 ≥ 128
    · have hn : n = fold (bytesOf s) 0 z - 2 ^ (8 * z) := if_pos hb
      rw [decide_eq_true hb, wi (x := fold (bytesOf s) 0 z - 2 ^ (8 * z)) (by omega) (by omega), ← hn]
      simp only [cond_true]
      by_cases hr : pw ln - 1 < n ∨ n < -(pw ln - 1)
      · rw [if_pos hr, decide_eq_false (by omega)]; rfl
      · rw [if_neg hr, decide_eq_true (by omega)]; rfl
    · have hn : n = fold (bytesOf s) 0 z := if_neg hb
      rw [decide_eq_false hb, ← hn]
      simp only [cond_false]
      by_cases hr : pw ln - 1 < n ∨ n < -(pw ln - 1)
      · rw [if_pos hr, decide_eq_false (by omega)]; rfl
      · rw [if_neg hr, decide_eq_true (by omega)]; rfl

theorem f16q (kd ln sc : Int) (s : ByteArray) : ∃ r, f16F 1000 ((kd, ln, sc), s) = some r ∧ f17F 1000 ((kd, ln, sc), s) = some r := by
  by_cases ht : tyErr kd ln sc = 0
  · obtain ⟨a1, a2, a3, a4, a5, a6, a7, a8, a9⟩ := ty_ok ht
    by_cases h4 : kd = 4
    · subst h4
      refine ⟨(((0 : Int), ByteArray.empty), (0 : Int), (17 : Int)), ?_, ?_⟩
      · unfold f16F f16p0
        simp only [f28q, ht, f43q, f42q, bind_some']
        rfl
      · unfold f17F
        simp only [f27q, ht, bind_some']
        rfl
    · obtain ⟨g44, g31⟩ := size_q ht h4
      have k4 : (kd == 4) = false := by simpa using h4
      have y0 : ((0 : Int) != 0) = false := rfl
      have z0 : ((0 : Int) == 0) = true := rfl
      have tt : (if false = true then (17 : Int) else 0) = 0 := rfl
      have t0 : (if (0 : Int) = 0 then (0 : Int) else 0) = 0 := rfl
      by_cases hs : (s.size : Int) = szOf kd ln
      · have e18 : ((s.size : Int) != szOf kd ln) = false := by rw [hs]; simp
        have : kd = 0 ∨ kd = 1 ∨ kd = 2 ∨ kd = 3 := by omega
        rcases this with rfl | rfl | rfl | rfl
        · refine ⟨(((0 : Int), s), (0 : Int), (0 : Int)), ?_, ?_⟩
          · unfold f16F f16p0
            simp only [f28q, ht, f43q, f42q, bind_some', k4, tt, t0, z0, cond_true, g44, e18]
            rfl
          · unfold f17F
            simp only [f27q, ht, bind_some', y0, k4, cond_false, g31, e18]
            rfl
        · obtain ⟨l0, l1⟩ := a4 (by omega)
          obtain ⟨n, a, e, A, B⟩ := dec1 (sc := sc) l0 l1 hs
          refine ⟨((n, ByteArray.empty), a, e), ?_, ?_⟩
          · unfold f16F f16p0
            simp only [f28q, ht, f43q, f42q, bind_some', k4, tt, t0, z0, cond_true, g44, e18, A]
            rfl
          · unfold f17F
            simp only [f27q, ht, bind_some', y0, k4, cond_false, g31, e18, B]
            rfl
        · obtain ⟨l0, l1⟩ := a4 (by omega)
          obtain ⟨n, a, e, A, B⟩ := dec2 (sc := sc) l0 l1 hs
          refine ⟨((n, ByteArray.empty), a, e), ?_, ?_⟩
          · unfold f16F f16p0
            simp only [f28q, ht, f43q, f42q, bind_some', k4, tt, t0, z0, cond_true, g44, e18, A]
            rfl
          · unfold f17F
            simp only [f27q, ht, bind_some', y0, k4, cond_false, g31, e18, B]
            rfl
        · exact dec3 (a5 rfl) ht hs
      · have e18 : ((s.size : Int) != szOf kd ln) = true := by simpa using hs
        refine ⟨(((0 : Int), ByteArray.empty), (0 : Int), (18 : Int)), ?_, ?_⟩
        · unfold f16F f16p0
          simp only [f28q, ht, f43q, f42q, bind_some', k4, tt, t0, z0, cond_true, g44, e18]
          rfl
        · unfold f17F
          simp only [f27q, ht, bind_some', y0, k4, cond_false, g31, e18]
          rfl
  · have hn : (tyErr kd ln sc != 0) = true := by simpa using ht
    have hz : (tyErr kd ln sc == 0) = false := by simpa using ht
    refine ⟨(((0 : Int), ByteArray.empty), (0 : Int), tyErr kd ln sc), ?_, ?_⟩
    · unfold f16F f16p0
      simp only [f28q, f43q, f42q, bind_some', if_neg ht, hz, cond_false, hn, cond_true]
    · unfold f17F
      simp only [f27q, bind_some', hn, cond_true]

theorem decodes (x : (Int × (Int × Int)) × ByteArray) : f4F 1000 x = some true := by
  obtain ⟨⟨kd, ln, sc⟩, s⟩ := x
  unfold f4F
  obtain ⟨r, h1, h2⟩ := f16q kd ln sc s
  simp only [awake_ok, bind_some', h1, h2]
  by_cases hs : (s.size : Int) > 700
  · simp [hs]
  · simp [hs, strEq_self]
end Go.Proofs.Ytioagofpofamiaa
