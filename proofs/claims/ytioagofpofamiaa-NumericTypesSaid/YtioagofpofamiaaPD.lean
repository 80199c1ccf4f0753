/- Plain laws: types and values: NumericTypes. -/
import Derived.Test.YtioagofpofamiaaPC
import Derived.Test.YtioagofpofamiaaFcJ
/-! Plain laws: types and values. -/
set_option linter.unusedVariables false
set_option linter.unusedSimpArgs false
namespace Go.Proofs.Ytioagofpofamiaa
open Go.Ab

theorem f72q {c n : Nat} (hn : n ≤ 900) : f72F 1000 ((c : Int), (n : Int)) = some (strOfNums (List.replicate n (c : Int))) := by
  unfold f72F f72l0
  have key := iter_for (R := ByteArray) (Step := fun rec v => f72l0s 1000 rec (fun (w1 : List Int × Unit) => some (strOfNums w1.1)) v) (fun i => ((c : Int), (n : Int), (i : Int), List.replicate i (c : Int), ())) n (fin := some (strOfNums (List.replicate n (c : Int))))
    (fun rec i hi => by
      unfold f72l0s
      simp only []
      rw [bif_true (by simp; omega), bif_true (by simp; omega), wi (by omega) (by omega)]
      rw [List.replicate_succ' (n := i), show (i : Int) + 1 = ((i + 1 : Nat) : Int) by omega])
    (fun rec => by
      unfold f72l0s
      rw [bif_false (by simp)]) (k := 1000) (by omega)
  exact key

/-- Copies of a byte. -/
def copies (c n : Nat) : ByteArray := strOfNums (List.replicate n (c : Int))
theorem f73q {c : UInt8} {n : Nat} (hn : n ≤ 900) : f73F 1000 ((⟨#[c]⟩ : ByteArray), (n : Int)) = some (copies c.toNat n) := by
  unfold f73F copies
  have hs : ((⟨#[c]⟩ : ByteArray).size : Int) = 1 := rfl
  simp only [hs]
  rw [bif_true (by simp; omega), Int.toNat_natCast]
  congr 1
  have h := Lib.repeatL_replicate c 1 n
  have h : Lib.repeatL [c] n = List.replicate n c := by rw [Nat.mul_one] at h; exact h
  show (⟨(Lib.repeatL [c] n).toArray⟩ : ByteArray) = _
  rw [h]
  unfold strOfNums
  congr 1
  rw [List.map_replicate, Int.toNat_natCast, UInt8.ofNat_toNat]

theorem f67c {ln sc : Int} {c : UInt8} {sign : Int} (ht : tyErr 0 ln sc = 0) : f67F 1000 ((0, (ln, sc)), (⟨#[c]⟩ : ByteArray), sign) = some ((0, copies c.toNat ln.toNat), 0) := by
  obtain ⟨a1, a2, a3, a4, a5, a6, a7, a8, a9⟩ := ty_ok ht
  obtain ⟨l0, l1⟩ := a3 rfl
  obtain ⟨L, rfl⟩ : ∃ L : Nat, ln = L := ⟨ln.toNat, by omega⟩
  unfold f67F
  simp only [f28q, ht, f43q, f42q, bind_some']
  rw [bif_false (by rfl), bif_true (by rfl), f73q (by omega), bind_some', Int.toNat_natCast]
theorem f67n {kd ln sc : Int} {s : ByteArray} {sign : Int} (ht : tyErr kd ln sc = 0) (hk : 1 ≤ kd ∧ kd ≤ 3) (hs : sign = 1 ∨ sign = -1) : f67F 1000 ((kd, (ln, sc)), s, sign) = some ((sign * (pw ln - 1), ByteArray.empty), 0) := by
  obtain ⟨a1, a2, a3, a4, a5, a6, a7, a8, a9⟩ := ty_ok ht
  obtain ⟨l0, l1⟩ := a4 hk
  have p := pw_bound l0 l1
  unfold f67F
  simp only [f28q, ht, f43q, f42q, bind_some']
  have k4 : (kd == 4) = false := by simp; omega
  rw [k4, bif_false (by rfl), bif_false (by simp; omega), f71q l0 l1, bind_some', wi (x := pw ln - 1) (by omega) (by omega)]
  rcases hs with rfl | rfl
  · rw [wi (by omega) (by omega)]
  · rw [wi (by omega) (by omega)]
theorem f67e {kd ln sc : Int} {s : ByteArray} {sign : Int} (h : tyErr kd ln sc ≠ 0 ∨ kd = 4) : f67F 1000 ((kd, (ln, sc)), s, sign) = some ((0, ByteArray.empty), if tyErr kd ln sc = 0 then 17 else tyErr kd ln sc) := by
  unfold f67F
  simp only [f28q, f43q, f42q, bind_some']
  by_cases ht : tyErr kd ln sc = 0
  · have : kd = 4 := by rcases h with h | h; exact absurd ht h; exact h
    subst this
    simp only [ht, if_true]
    rfl
  · simp only [ht, if_false]
    rw [bif_true (by simpa using ht)]

theorem f24q {kd ln sc : Int} : ∃ z, f24F 1000 (kd, (ln, sc)) = some (z, tyErr kd ln sc) ∧ (tyErr kd ln sc = 0 → f31F 1000 (kd, (ln, sc)) = some z) ∧ (tyErr kd ln sc ≠ 0 → z = 0) := by
  unfold f24F
  simp only [f28q, bind_some']
  by_cases ht : tyErr kd ln sc = 0
  · rw [bif_false (by simpa using ht)]
    by_cases h4 : kd = 4
    · subst h4
      obtain ⟨a1, a2, a3, a4, a5, a6, a7, a8, a9⟩ := ty_ok ht
      have hl := a6 rfl
      have hs := a8 (.inr rfl)
      subst hl
      subst hs
      exact ⟨_, rfl, fun _ => rfl, fun c => absurd ht c⟩
    · obtain ⟨g44, g31⟩ := size_q ht h4
      rw [g44, ht]
      exact ⟨_, rfl, fun _ => g31, fun c => absurd rfl c⟩
  · rw [bif_true (by simpa using ht)]
    exact ⟨0, rfl, fun c => absurd c ht, fun _ => rfl⟩

theorem types (x : (Int × (Int × Int)) × (Int × ByteArray)) : f9F 1000 x = some true := by
  obtain ⟨⟨kd, ln, sc⟩, n, s⟩ := x
  unfold f9F
  rw [awake_ok, bind_some']
  simp only [Bool.not_true, cond_false]
  by_cases hs : (s.size : Int) > 700
  · rw [bif_true (by simpa using hs)]
  rw [bif_false (by simpa using hs)]
  obtain ⟨z, h24, h31, hz⟩ := f24q (kd := kd) (ln := ln) (sc := sc)
  unfold f25F f26F
  simp only [h24, f27q, f28q, f29q, f30q, bind_some', bne_self_eq_false, cond_false]
  by_cases ht : tyErr kd ln sc = 0
  · have h31' := h31 ht
    by_cases h4 : kd = 4
    · subst h4
      rw [f67e (.inr rfl), f67e (.inr rfl)]
      simp only [bind_some', ht, if_true]
      unfold f9p0
      simp only [h31', bind_some', bne_self_eq_false, beq_self_eq_true, cond_true, cond_false]
      unfold f9p1
      simp only [beq_self_eq_true, cond_true]
      rw [bif_true (by rfl)]
      simp [strEq_self]
    · by_cases h0 : kd = 0
      · subst h0
        obtain ⟨a1, a2, a3, a4, a5, a6, a7, a8, a9⟩ := ty_ok ht
        obtain ⟨l0, l1⟩ := a3 rfl
        obtain ⟨L, rfl⟩ : ∃ L : Nat, ln = L := ⟨ln.toNat, by omega⟩
        rw [f67c ht, f67c ht]
        simp only [bind_some', ht]
        unfold f9p0
        simp only [h31', bind_some', bne_self_eq_false, beq_self_eq_true, cond_true, cond_false]
        unfold f9p1
        have e04 : ((0 : Int) == 4) = false := rfl
        simp only [e04, beq_self_eq_true, cond_true, cond_false, bne_self_eq_false]
        have q0 : f72F 1000 (0, (L : Int)) = some (copies 0 L) := f72q (c := 0) (by omega)
        have q1 : f72F 1000 (255, (L : Int)) = some (copies 255 L) := f72q (c := 255) (by omega)
        unfold f32F f33F
        simp only [beq_self_eq_true, cond_true, q0, q1, bind_some', Int.toNat_natCast]
        have u0 : (0 : UInt8).toNat = 0 := rfl
        have u1 : (255 : UInt8).toNat = 255 := rfl
        rw [u0, u1]
        simp [strEq_self]
      · obtain ⟨a1, a2, a3, a4, a5, a6, a7, a8, a9⟩ := ty_ok ht
        have hk : 1 ≤ kd ∧ kd ≤ 3 := by omega
        obtain ⟨l0, l1⟩ := a4 hk
        have p := pw_bound l0 l1
        rw [f67n ht hk (.inr rfl), f67n ht hk (.inl rfl)]
        simp only [bind_some', ht]
        unfold f9p0
        simp only [h31', bind_some', bne_self_eq_false, beq_self_eq_true, cond_true, cond_false]
        unfold f9p1
        have e4 : (kd == 4) = false := by simpa using h4
        have e0 : (kd == 0) = false := by simpa using h0
        simp only [e4, beq_self_eq_true, cond_true, cond_false, bne_self_eq_false]
        unfold f32F f33F
        simp only [e0, cond_false, f49q l0 l1, bind_some']
        rw [wi (by omega) (by omega), show (-1 : Int) * (pw ln - 1) = 0 - (pw ln - 1) by omega, Int.one_mul]
        simp [strEq_self]
  · have hz0 := hz ht
    subst hz0
    rw [f67e (.inl ht), f67e (.inl ht)]
    simp only [bind_some', ht, if_false]
    have hb : (tyErr kd ln sc == 0) = false := by simpa using ht
    have hb2 : (tyErr kd ln sc != 0) = true := by simpa using ht
    unfold f9p0 f9p1
    simp only [hb, hb2, cond_false, cond_true, bne_self_eq_false, beq_self_eq_true, strEq_self, Bool.and_true]
end Go.Proofs.Ytioagofpofamiaa
