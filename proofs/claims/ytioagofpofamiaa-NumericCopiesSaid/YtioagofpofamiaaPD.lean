/- Plain laws: types and values: NumericTypes. -/
import Derived.Test.YtioagofpofamiaaPC
import Derived.Test.YtioagofpofamiaaFcJ
/-! Plain laws: types and values. -/
set_option linter.unusedVariables false
set_option linter.unusedSimpArgs false
namespace Go.Proofs.Ytioagofpofamiaa
open Go.Ab

theorem f72q {c n : Nat} (hn : n ≤ 900) : f72F 1000 ((c : Int), (n : Int)) = some (strOfNums (List.replicate n (c : Int))) := by
  unfold f72F f72l0
  have key := iter_for (R := ByteArray) (Step := fun rec v => f72l0s 1000 rec (fun (w1 : List Int × Unit) => some (strOfNums w1.1)) v) (fun i => ((c : Int), (n : Int), (i : Int), List.replicate i (c : Int), ())) n (fin := some (strOfNums (List.replicate n (c : Int))))
    (fun rec i hi => by
      unfold f72l0s
      simp only []
      rw [bif_true (by simp; omega), bif_true (by simp; omega), wi (by omega) (by omega)]
      rw [List.replicate_succ' (n := i), show (i : Int) + 1 = ((i + 1 : Nat) : Int) by omega])
    (fun rec => by
      unfold f72l0s
      rw [bif_false (by simp)]) (k := 1000) (by omega)
  exact key

/-- Copies of a byte. -/
def copies (c n : Nat) : ByteArray := strOfNums (List.replicate n (c : Int))
theorem f73q {c : UInt8} {n : Nat} (hn : n ≤ 900) : f73F 1000 ((⟨#[c]⟩ : ByteArray), (n : Int)) = some (copies c.toNat n) := by
  unfold f73F copies
  have hs : ((⟨#[c]⟩ : ByteArray).size : Int) = 1 := rfl
  simp only [hs]
  rw [bif_true (by simp; omega), Int.toNat_natCast]
  congr 1
  have h := Lib.repeatL_replicate c 1 n
  have h : Lib.repeatL [c] n = List.replicate n c := by rw [Nat.mul_one] at h; exact h
  show (⟨(Lib.repeatL [c] n).toArray⟩ : ByteArray) = _
  rw [h]
  unfold strOfNums
  congr 1
  rw [List.map_replicate, Int.toNat_natCast, UInt8.ofNat_toNat]

theorem f67c {ln sc : Int} {c : UInt8} {sign : Int} (ht : tyErr 0 ln sc = 0) : f67F 1000 ((0, (ln, sc)), (⟨#[c]⟩ : ByteArray), sign) = some ((0, copies c.toNat ln.toNat), 0) := by
  obtain ⟨a1, a2, a3, a4, a5, a6, a7, a8, a9⟩ := ty_ok ht
  obtain ⟨l0, l1⟩ := a3 rfl
  obtain ⟨L, rfl⟩ : ∃ L : Nat, ln = L := ⟨ln.toNat, by omega⟩
  unfold f67F
  simp only [f28q, ht, f43q, f42q, bind_some']
  rw [bif_false (by rfl), bif_true (by rfl), f73q (by omega), bind_some', Int.toNat_natCast]
theorem f67n {kd ln sc : Int} {s : ByteArray} {sign : Int} (ht : tyErr kd ln sc = 0) (hk : 1 ≤ kd ∧ kd ≤ 3) (hs : sign = 1 ∨ sign = -1) : f67F 1000 ((kd, (ln, sc)), s, sign) = some ((sign * (pw ln - 1), ByteArray.empty), 0) := by
  obtain ⟨a1, a2, a3, a4, a5, a6, a7, a8, a9⟩ := ty_ok ht
  obtain ⟨l0, l1⟩ := a4 hk
  have p := pw_bound l0 l1
  unfold f67F
  simp only [f28q, ht, f43q, f42q, bind_some']
  have k4 : (kd == 4) = false := by simp; omega
  rw [k4, bif_false (by rfl), bif_false (by simp; omega), f71q l0 l1, bind_some', wi (x := pw ln - 1) (by omega) (by omega)]
  rcases hs with rfl | rfl
  · rw [wi (by omega) (by omega)]
  · rw [wi (by omega) (by omega)]
theorem f67e {kd ln sc : Int} {s : ByteArray} {sign : Int} (h : tyErr kd ln sc ≠ 0 ∨ kd = 4) : f67F 1000 ((kd, (ln, sc)), s, sign) = some ((0, ByteArray.empty), if tyErr kd ln sc = 0 then 17 else tyErr kd ln sc) := by
  unfold f67F
  simp only [f28q, f43q, f42q, bind_some']
  by_cases ht : tyErr kd ln sc = 0
  · have : kd = 4 := by rcases h with h | h; exact absurd ht h; exact h
    subst this
    simp only [ht, if_true]
    rfl
  · simp only [ht, if_false]
    rw [bif_true (by simpa using ht)]

theorem f24q {kd ln sc : Int} : ∃ z, f24F 1000 (kd, (ln, sc)) = some (z, tyErr kd ln sc) ∧ (tyErr kd ln sc = 0 → f31F 1000 (kd, (ln, sc)) = some z) ∧ (tyErr kd ln sc ≠ 0 → z = 0) := by
  unfold f24F
  simp only [f28q, bind_some']
  by_cases ht : tyErr kd ln sc = 0
  · rw [bif_false (by simpa using ht)]
    by_cases h4 : kd = 4
    · subst h4
      obtain ⟨a1, a2, a3, a4, a5, a6, a7, a8, a9⟩ := ty_ok ht
      have hl := a6 rfl
      have hs := a8 (.inr rfl)
      subst hl
      subst hs
      exact ⟨_, rfl, fun _ => rfl, fun c => absurd ht c⟩
    · obtain ⟨g44, g31⟩ := size_q ht h4
      rw [g44, ht]
      exact ⟨_, rfl, fun _ => g31, fun c => absurd rfl c⟩
  · rw [bif_true (by simpa using ht)]
    exact ⟨0, rfl, fun c => absurd c ht, fun _ => rfl⟩

theorem types (x : (Int × (Int × Int)) × (Int × ByteArray)) : f9F 1000 x = some true := by
  obtain ⟨⟨kd, ln, sc⟩, n, s⟩ := x
  unfold f9F
  rw [awake_ok, bind_some']
  simp only [Bool.not_true, cond_false]
  by_cases hs : (s.size : Int) > 700
  · rw [bif_true (by simpa using hs)]
  rw [bif_false (by simpa using hs)]
  obtain ⟨z, h24, h31, hz⟩ := f24q (kd := kd) (ln := ln) (sc := sc)
  unfold f25F f26F
  simp only [h24, f27q, f28q, f29q, f30q, bind_some', bne_self_eq_false, cond_false]
  by_cases ht : tyErr kd ln sc = 0
  · have h31' := h31 ht
    by_cases h4 : kd = 4
    · subst h4
      rw [f67e (.inr rfl), f67e (.inr rfl)]
      simp only [bind_some', ht, if_true]
      unfold f9p0
      simp only [h31', bind_some', bne_self_eq_false, beq_self_eq_true, cond_true, cond_false]
      unfold f9p1
      simp only [beq_self_eq_true, cond_true]
      rw [bif_true (by rfl)]
      simp [strEq_self]
    · by_cases h0 : kd = 0
      · subst h0
        obtain ⟨a1, a2, a3, a4, a5, a6, a7, a8, a9⟩ := ty_ok ht
        obtain ⟨l0, l1⟩ := a3 rfl
        obtain ⟨L, rfl⟩ : ∃ L : Nat, ln = L := ⟨ln.toNat, by omega⟩
        rw [f67c ht, f67c ht]
        simp only [bind_some', ht]
        unfold f9p0
        simp only [h31', bind_some', bne_self_eq_false, beq_self_eq_true, cond_true, cond_false]
        unfold f9p1
        have e04 : ((0 : Int) == 4) = false := rfl
        simp only [e04, beq_self_eq_true, cond_true, cond_false, bne_self_eq_false]
        have q0 : f72F 1000 (0, (L : Int)) = some (copies 0 L) := f72q (c := 0) (by omega)
        have q1 : f72F 1000 (255, (L : Int)) = some (copies 255 L) := f72q (c := 255) (by omega)
        unfold f32F f33F
        simp only [beq_self_eq_true, cond_true, q0, q1, bind_some', Int.toNat_natCast]
        have u0 : (0 : UInt8).toNat = 0 := rfl
        have u1 : (255 : UInt8).toNat = 255 := rfl
        rw [u0, u1]
        simp [strEq_self]
      · obtain ⟨a1, a2, a3, a4, a5, a6, a7, a8, a9⟩ := ty_ok ht
        have hk : 1 ≤ kd ∧ kd ≤ 3 := by omega
        obtain ⟨l0, l1⟩ := a4 hk
        have p := pw_bound l0 l1
        rw [f67n ht hk (.inr rfl), f67n ht hk (.inl rfl)]
        simp only [bind_some', ht]
        unfold f9p0
        simp only [h31', bind_some', bne_self_eq_false, beq_self_eq_true, cond_true, cond_false]
        unfold f9p1
        have e4 : (kd == 4) = false := by simpa using h4
        have e0 : (kd == 0) = false := by simpa using h0
        simp only [e4, beq_self_eq_true, cond_true, cond_false, bne_self_eq_false]
        unfold f32F f33F
        simp only [e0, cond_false, f49q l0 l1, bind_some']
        rw [wi (by omega) (by omega), show (-1 : Int) * (pw ln - 1) = 0 - (pw ln - 1) by omega, Int.one_mul]
        simp [strEq_self]
  · have hz0 := hz ht
    subst hz0
    rw [f67e (.inl ht), f67e (.inl ht)]
    simp only [bind_some', ht, if_false]
    have hb : (tyErr kd ln sc == 0) = false := by simpa using ht
    have hb2 : (tyErr kd ln sc != 0) = true := by simpa using ht
    unfold f9p0 f9p1
    simp only [hb, hb2, cond_false, cond_true, bne_self_eq_false, beq_self_eq_true, strEq_self, Bool.and_true]
end Go.Proofs.Ytioagofpofamiaa
/-! Plain laws: an operand's bytes in another type. -/
set_option linter.unusedVariables false
set_option linter.unusedSimpArgs false
namespace Go.Proofs.Ytioagofpofamiaa
open Go.Ab

theorem ba_ext {a b : ByteArray} (h : a.data.toList = b.data.toList) : a = b := by
  cases a; cases b
  congr
  exact Array.ext' h
theorem ba_app (a b : ByteArray) : (a ++ b).data.toList = a.data.toList ++ b.data.toList := by simp
theorem ba_ext_l (a : ByteArray) (n : Nat) : (a.extract 0 n).data.toList = a.data.toList.take n := by
  rw [Lib.extract_data]; simp
theorem ba_size (a : ByteArray) : a.size = a.data.toList.length := rfl

theorem copies_size (c n : Nat) : (copies c n).size = n := by unfold copies; rw [strOfNums_size]; simp
theorem copies_take (c n m : Nat) (h : m ≤ n) : (copies c n).data.toList.take m = (copies c m).data.toList := by
  unfold copies
  rw [strOfNums_data, strOfNums_data, List.map_replicate, List.map_replicate, List.take_replicate, Nat.min_eq_left h]

/-- The bytes of a string, as many as a type has, in two ways. -/
theorem padded {s : ByteArray} {L : Nat} (hs : s.size ≤ 700) (hL : L ≤ 256) :
    ∃ r, (Option.bind (f73F 1000 ((⟨#[32]⟩ : ByteArray), (L : Int))) fun y6 =>
      bif (decide (s.size + y6.size ≤ 9223372036854775807)) then
      bif (sliceBds (0 : Int) (L : Int) ((s ++ y6).size : Int)) then
      some (((s ++ y6).extract 0 (Int.toNat (L : Int))), (0 : Int), (0 : Int))
      else none
      else none) = some (r, 0, 0) ∧ f74F 1000 (s, (L : Int)) = some r := by
  have h73 : f73F 1000 ((⟨#[32]⟩ : ByteArray), (L : Int)) = some (copies 32 L) := f73q (c := 32) (by omega)
  rw [h73]
  simp only [bind_some']
  have hsz : (s ++ copies 32 L).size = s.size + L := by rw [ba_size, ba_app, List.length_append, ← ba_size, ← ba_size, copies_size]
  rw [bif_true (by rw [copies_size]; simp; omega), bif_true (by unfold sliceBds; rw [hsz]; simp; omega)]
  refine ⟨_, rfl, ?_⟩
  rw [Int.toNat_natCast]
  unfold f74F
  by_cases h : L ≤ s.size
  · rw [bif_true (by simp; omega), bif_true (by unfold sliceBds; simp; omega), Int.toNat_natCast]
    congr 1
    apply ba_ext
    rw [ba_ext_l, ba_ext_l, ba_app, List.take_append_of_le_length (by rw [← ba_size]; omega)]
  · have hq : f72F 1000 (32, ((L - s.size : Nat) : Int)) = some (copies 32 (L - s.size)) := f72q (c := 32) (by omega)
    rw [bif_false (by simp; omega)]
    simp only []
    rw [wi (by omega) (by omega), show (L : Int) - (s.size : Int) = ((L - s.size : Nat) : Int) by omega, hq, bind_some', bif_true (by rw [copies_size]; simp; omega)]
    congr 1
    apply ba_ext
    rw [ba_ext_l, ba_app, ba_app, List.take_append, List.take_of_length_le (by rw [← ba_size]; omega), ← ba_size, copies_take _ _ _ (by omega)]

/-- A right number put into a type by the code's inner functions. -/
theorem put_of {n s kd ln sc : Int} {half : Bool} (h1 : numErr n s = 0) (h2 : tyErr kd ln sc = 0) (h3 : 1 ≤ kd ∧ kd ≤ 3) :
    (Option.bind (f54F 1000 (n, s)) fun y6 => Option.bind (f55F 1000 ((y6.1, ((y6.2.1.1, (y6.2.1.2.1, (y6.2.1.2.2.1, y6.2.1.2.2.2))), (y6.2.2.1, (y6.2.2.2.1, (y6.2.2.2.2.1, y6.2.2.2.2.2))))), (kd, (ln, sc)), half)) fun y7 => some ((y7.1.1, y7.1.2), y7.2)) = some (convS n s kd ln sc half) := by
  have h := f18q n s kd ln sc half
  unfold f18F at h
  simp only [f52q, f28q, f53q, f43q, f42q3, bind_some'] at h
  rw [if_pos h1, if_pos h2, decide_eq_true h3] at h
  exact h

/-- The error ahead of an operand's value. -/
def cpErr (a t : Int × Int × Int) : Int :=
  if tyErr a.1 a.2.1 a.2.2 ≠ 0 then tyErr a.1 a.2.1 a.2.2 else if tyErr t.1 t.2.1 t.2.2 ≠ 0 then tyErr t.1 t.2.1 t.2.2
  else if a.1 = 4 ∨ t.1 = 4 ∨ decide (a.1 = 0) ≠ decide (t.1 = 0) then 17 else 0

theorem copy_tail {ka la sa kd ln sc : Int} {A : ByteArray} {half : Bool} (ha : tyErr ka la sa = 0) (ht : tyErr kd ln sc = 0) (hk : ¬ (ka = 4 ∨ kd = 4 ∨ decide (ka = 0) ≠ decide (kd = 0))) (hA : A.size ≤ 700) :
    ∃ r : ByteArray × Int × Int,
      (Option.bind (f16F 1000 ((ka, (la, sa)), A)) fun y23 =>
  bif (y23.2.2 != (0 : Int)) then
    some (ByteArray.empty, y23.2.1, y23.2.2)
  else
  bif (kd == (0 : Int)) then
    Option.bind (f73F 1000 ((⟨#[32]⟩ : ByteArray), ln)) fun y24 =>
    bif (decide (y23.1.2.size + y24.size ≤ 9223372036854775807)) then
    bif (sliceBds (0 : Int) ln ((y23.1.2 ++ y24).size : Int)) then
    some (((y23.1.2 ++ y24).extract 0 (Int.toNat ln)), (0 : Int), (0 : Int))
    else none
    else none
  else
  Option.bind (f54F 1000 (y23.1.1, sa)) fun y25 =>
  Option.bind (f55F 1000 ((y25.1, ((y25.2.1.1, (y25.2.1.2.1, (y25.2.1.2.2.1, y25.2.1.2.2.2))), (y25.2.2.1, (y25.2.2.2.1, (y25.2.2.2.2.1, y25.2.2.2.2.2))))), (kd, (ln, sc)), half)) fun y26 =>
  bif (y26.2 != (0 : Int)) then
    some (ByteArray.empty, (0 : Int), y26.2)
  else
  Option.bind (f40F 1000 ((kd, (ln, sc)), (y26.1.1, y26.1.2))) fun y27 =>
  some (y27, (0 : Int), (0 : Int))) = some r ∧
      (Option.bind (f17F 1000 ((ka, (la, sa)), A)) fun y3 =>
  bif (y3.2.2 != (0 : Int)) then
    some (ByteArray.empty, (y3.2.1, y3.2.2))
  else
  bif (kd == (0 : Int)) then
    Option.bind (f74F 1000 (y3.1.2, ln)) fun y4 =>
    some (y4, ((0 : Int), (0 : Int)))
  else
  Option.bind (f19F 1000 ((y3.1.1, sa), (kd, (ln, sc)), half)) fun y5 =>
  bif (y5.2 != (0 : Int)) then
    some (ByteArray.empty, ((0 : Int), y5.2))
  else
  Option.bind (f41F 1000 ((kd, (ln, sc)), (y5.1.1, y5.1.2))) fun y6 =>
  some (y6, ((0 : Int), (0 : Int)))) = some r := by
  obtain ⟨a1, a2, a3, a4, a5, a6, a7, a8, a9⟩ := ty_ok ha
  obtain ⟨t1, t2, t3, t4, t5, t6, t7, t8, t9⟩ := ty_ok ht
  have k1 : ka ≠ 4 := fun c => hk (.inl c)
  have k2 : kd ≠ 4 := fun c => hk (.inr (.inl c))
  have k3 : decide (ka = 0) = decide (kd = 0) := Decidable.byContradiction fun c => hk (.inr (.inr c))
  obtain ⟨r1, p1, q1⟩ := f16q ka la sa A
  rw [p1, q1]
  simp only [bind_some']
  by_cases e1 : r1.2.2 = 0
  · have b1 : (r1.2.2 != 0) = false := by simpa using e1
    simp only [b1, cond_false]
    have hr := dec_right p1 e1
    by_cases h0 : kd = 0
    · subst h0
      have ka0 : ka = 0 := by simpa using k3
      subst ka0
      obtain ⟨l0, l1⟩ := t3 rfl
      obtain ⟨m0, m1⟩ := a3 rfl
      obtain ⟨L, rfl⟩ : ∃ L : Nat, ln = L := ⟨ln.toNat, by omega⟩
      have hsz : (r1.1.2.size : Int) = la := by
        unfold valErr at hr
        rw [if_neg (fun c => c ha), if_neg (by decide), if_pos rfl] at hr
        by_cases c : r1.1.1 ≠ 0
        · rw [if_pos c] at hr; exact absurd hr (by decide)
        · rw [if_neg c] at hr
          apply Decidable.byContradiction
          intro c2
          rw [if_pos c2] at hr
          exact absurd hr (by decide)
      obtain ⟨r, g1, g2⟩ := padded (s := r1.1.2) (L := L) (by omega) (by omega)
      have b0 : ((0 : Int) == 0) = true := rfl
      simp only [b0, cond_true]
      rw [g1, g2]
      exact ⟨_, rfl, rfl⟩
    · have ka0 : ka ≠ 0 := fun c => by
        rw [decide_eq_true c, decide_eq_false h0] at k3
        exact absurd k3 (by decide)
      have ka3 : 1 ≤ ka ∧ ka ≤ 3 := by omega
      have kt3 : 1 ≤ kd ∧ kd ≤ 3 := by omega
      have n1 := num_bound hr ka3
      have b0 : (kd == 0) = false := by simpa using h0
      simp only [b0, cond_false]
      rw [f19q, bind_some']
      have hp := put_of (half := half) n1 ht kt3
      obtain ⟨y6, g6, hp⟩ := Option.bind_eq_some_iff.1 hp
      obtain ⟨y7, g7, hp⟩ := Option.bind_eq_some_iff.1 hp
      have hp : ((y7.1.1, y7.1.2), y7.2) = convS r1.1.1 sa kd ln sc half := Option.some.inj hp
      rw [g6, bind_some', g7, bind_some', ← hp]
      simp only []
      by_cases e2 : y7.2 = 0
      · have b2 : (y7.2 != 0) = false := by simpa using e2
        simp only [b2, cond_false]
        obtain ⟨c1, c2, c3, c4, c5⟩ := convS_fact (n := r1.1.1) (s := sa) (kd := kd) (ln := ln) (sc := sc) (half := half) (by rw [← hp]; exact e2)
        rw [← hp] at c5
        simp only [Prod.mk.injEq] at c5
        have hv : valErr kd ln sc y7.1.1 ByteArray.empty = 0 := val_num ht kt3 (by
          rw [c5.1]
          have hpw : pw ln = ((10 ^ ln.toNat : Nat) : Int) := by unfold pw; simp
          unfold sg
          simp only [hpw]
          split <;> omega)
        obtain ⟨C, g1, g2⟩ := bytes_eq hv
        rw [← c5.2] at g1 g2
        have g1' : f40F 1000 ((kd, (ln, sc)), (y7.1.1, y7.1.2)) = some C := g1
        have g2' : f41F 1000 ((kd, (ln, sc)), (y7.1.1, y7.1.2)) = some C := g2
        rw [g1', g2']
        exact ⟨_, rfl, rfl⟩
      · have b2 : (y7.2 != 0) = true := by simpa using e2
        simp only [b2, cond_true]
        exact ⟨_, rfl, rfl⟩
  · have b1 : (r1.2.2 != 0) = true := by simpa using e1
    simp only [b1, cond_true]
    exact ⟨_, rfl, rfl⟩

theorem copiesq (ka la sa kd ln sc : Int) (A : ByteArray) (half : Bool) (hA : A.size ≤ 700) :
    ∃ r : ByteArray × Int × Int, f37F 1000 (((ka, (la, sa)), A), (kd, (ln, sc)), half) = some r ∧ f38F 1000 (((ka, (la, sa)), A), (kd, (ln, sc)), half) = some r := by
  have tt : (if true = true then (17 : Int) else 0) = 17 := rfl
  unfold f37F f38F
  simp only [f27q, f28q, f53q, f43q, f42q3, bind_some']
  by_cases ha : tyErr ka la sa = 0
  · simp only [ha, if_true, bne_self_eq_false, cond_false]
    obtain ⟨a1, a2, a3, a4, a5, a6, a7, a8, a9⟩ := ty_ok ha
    by_cases ht : tyErr kd ln sc = 0
    · simp only [ht, if_true, bne_self_eq_false, cond_false]
      obtain ⟨t1, t2, t3, t4, t5, t6, t7, t8, t9⟩ := ty_ok ht
      by_cases k1 : ka = 4
      · have b1 : (ka == 4) = true := by simpa using k1
        simp only [b1, cond_true]
        exact ⟨_, rfl, rfl⟩
      · have b1 : (ka == 4) = false := by simpa using k1
        simp only [b1, cond_false]
        by_cases k2 : kd = 4
        · have b2 : (kd == 4) = true := by simpa using k2
          simp only [b2, cond_true]
          exact ⟨_, rfl, rfl⟩
        · have b2 : (kd == 4) = false := by simpa using k2
          simp only [b2, cond_false]
          have ea : decide (1 ≤ ka ∧ ka ≤ 3) = !(ka == 0) := by
            by_cases h : ka = 0
            · subst h; rfl
            · rw [decide_eq_true (by omega)]; simpa using h
          have et : decide (1 ≤ kd ∧ kd ≤ 3) = !(kd == 0) := by
            by_cases h : kd = 0
            · subst h; rfl
            · rw [decide_eq_true (by omega)]; simpa using h
          have e : ((!(ka == 0)) == (!(kd == 0))) = ((ka == 0) == (kd == 0)) := by cases (ka == 0) <;> cases (kd == 0) <;> rfl
          rw [ea, et, e]
          by_cases k3 : ((ka == 0) == (kd == 0)) = true
          · rw [k3]
            have hk : ¬ (ka = 4 ∨ kd = 4 ∨ decide (ka = 0) ≠ decide (kd = 0)) := by
              rintro (c | c | c)
              · exact k1 c
              · exact k2 c
              · apply c
                have k3' := eq_of_beq k3
                by_cases c1 : ka = 0 <;> by_cases c2 : kd = 0 <;> simp [c1, c2] at k3' ⊢
            have := copy_tail (A := A) (half := half) ha ht hk hA
            exact this
          · have k3' : ((ka == 0) == (kd == 0)) = false := by simpa using k3
            rw [k3']
            exact ⟨_, rfl, rfl⟩
    · simp only [ht, if_false]
      have htb : (tyErr kd ln sc != 0) = true := by simpa using ht
      simp only [htb, cond_true]
      have hb : ∀ (b c : Bool) (x y z : Option (ByteArray × Int × Int)), (bif b then x else bif c then y else z) = (bif b then x else bif c then y else z) := fun _ _ _ _ _ => rfl
      refine ⟨(ByteArray.empty, 0, tyErr kd ln sc), ?_, rfl⟩
      cases (ka == 4) <;> cases (kd == 4) <;> rfl
  · simp only [ha, if_false]
    have hab : (tyErr ka la sa != 0) = true := by simpa using ha
    simp only [hab, cond_true]
    refine ⟨(ByteArray.empty, 0, tyErr ka la sa), ?_, rfl⟩
    cases (ka == 4) <;> cases (kd == 4) <;> rfl

theorem copiesLaw (x : ((Int × (Int × Int)) × ByteArray) × (Int × (Int × Int)) × Bool) : f12F 1000 x = some true := by
  obtain ⟨⟨⟨ka, la, sa⟩, A⟩, ⟨kd, ln, sc⟩, half⟩ := x
  unfold f12F
  simp only [awake_ok, bind_some']
  by_cases hA : (A.size : Int) > 700
  · simp [hA]
  · obtain ⟨r, h1, h2⟩ := copiesq ka la sa kd ln sc A half (by omega)
    simp [hA, h1, h2, strEq_self]
end Go.Proofs.Ytioagofpofamiaa
