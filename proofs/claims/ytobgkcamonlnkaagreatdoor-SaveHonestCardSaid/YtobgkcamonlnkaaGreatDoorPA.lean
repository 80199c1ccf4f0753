/- Joined texts. -/
import Derived.Test.YtobgkcamonlnkaaGreatDoorAC
import Derived.Laws.Strings
import Derived.Test.YtobgkcamonlnkaaGreatDoorFcJ
set_option linter.unusedVariables false
set_option linter.unusedSimpArgs false
namespace Go.Ab

theorem wi {x : Int} (h0 : -9223372036854775808 ≤ x) (h1 : x ≤ 9223372036854775807) : IntKind.i64.wrap x = x := by
  rw [IntKind.wrap_i64]; omega
theorem wu8e (x : Int) : IntKind.u8.wrap x = x % 256 := by
  simp [IntKind.wrap, IntKind.signed, IntKind.bits]
theorem bind_some' {α β : Type} (a : α) (f : α → Option β) : Option.bind (some a) f = f a := rfl
theorem bif_true {α : Type} {c : Bool} (h : c = true) (a b : α) : (bif c then a else b) = a := by rw [h]; rfl
theorem bif_false {α : Type} {c : Bool} (h : c = false) (a b : α) : (bif c then a else b) = b := by rw [h]; rfl
theorem strEq_self (x : ByteArray) : strEq x x = true := by simp [strEq]
theorem strEq_iff {x y : ByteArray} : strEq x y = true ↔ x = y := by
  constructor
  · intro h
    simp only [strEq, beq_iff_eq] at h
    have h2 : x.data.toList = y.data.toList := by
      have e : ∀ z : ByteArray, z.toList = z.data.toList := fun z => ByteArray.toList_eq z
      rw [← e, ← e, h]
    cases x; cases y
    simp only at h2
    congr
    exact Array.ext' h2
  · rintro rfl
    exact strEq_self x

theorem iter_for {V R : Type} {Step : (V → Option R) → V → Option R} (st : Nat → V) (n : Nat) {fin : Option R} (hstep : ∀ rec i, i < n → Step rec (st i) = rec (st (i + 1))) (hend : ∀ rec, Step rec (st n) = fin) :
    ∀ {k : Nat}, n < k → iterS Step k (st 0) = fin := by
  have : ∀ (d i k : Nat), i + d = n → d < k → iterS Step k (st i) = fin := by
    intro d
    induction d with
    | zero =>
      intro i k hi hk
      cases k with
      | zero => omega
      | succ k =>
        have : i = n := by omega
        subst this
        exact hend _
    | succ d ih =>
      intro i k hi hk
      cases k with
      | zero => omega
      | succ k =>
        show Step (iterS Step k) (st i) = fin
        rw [hstep _ i (by omega)]
        exact ih (i + 1) k (by omega) (by omega)
  intro k hk
  exact this n 0 k (by omega) hk

def low (b n : Int) : Nat → List Int
  | 0 => []
  | i + 1 => (n / b ^ i % b) :: low b n i
theorem low_length (b n : Int) : ∀ i, (low b n i).length = i
  | 0 => rfl
  | i + 1 => by simp [low, low_length b n i]
theorem low_mem {b n : Int} (hb : 0 < b) : ∀ {i : Nat} {d : Int}, d ∈ low b n i → 0 ≤ d ∧ d < b
  | 0, _, h => by simp [low] at h
  | i + 1, d, h => by
    simp only [low, List.mem_cons] at h
    rcases h with rfl | h
    · exact ⟨Int.emod_nonneg _ (by omega), Int.emod_lt_of_pos _ hb⟩
    · exact low_mem hb h
theorem set_zeros {L i : Nat} (hi : i < L) (l : List Int) (d : Int) : (List.replicate (L - i) 0 ++ l).set (L - 1 - i) d = List.replicate (L - (i + 1)) 0 ++ d :: l := by
  have e : L - i = (L - 1 - i) + 1 := by omega
  rw [e, List.replicate_succ', List.append_assoc, List.set_append_right _ _ (by simp)]
  simp only [List.length_replicate, Nat.sub_self, List.cons_append, List.nil_append, List.set_cons_zero]
  rw [show L - (i + 1) = L - 1 - i by omega]

end Go.Ab
set_option linter.unusedVariables false
set_option linter.unusedSimpArgs false
namespace Go.Proofs.YtobgkcamonlnkaaGreatDoor
open Go.Ab

theorem f70q (k : Nat) (n lo hi : Int) : f70F k (n, lo, hi) = some (decide (lo ≤ n ∧ n ≤ hi)) := by
  unfold f70F
  by_cases h : lo ≤ n <;> simp [h]
theorem f48q (k : Nat) (n lo hi : Int) : f48F k (n, lo, hi) = some (decide (lo ≤ n ∧ n ≤ hi)) := by
  unfold f48F
  by_cases h : lo ≤ n <;> simp [h]
theorem f43q (k : Nat) (b : Bool) (e : Int) : f43F k (b, e) = some (if b = true then e else 0) := by
  unfold f43F
  cases b <;> rfl
theorem f69q (k : Nat) (b : Bool) : f69F k b = some (if b = true then 1 else 0) := by
  unfold f69F
  cases b <;> rfl
theorem f68q (k : Nat) (n : Int) : f68F k n = some (decide (1 ≤ n ∧ n ≤ 3)) := by
  unfold f68F
  rw [f48q]
  rfl
theorem f42l0_step {R : Type} (k : Nat) (rec : List Int × Int × Int × Unit → Option R) (k0 : Int × Unit → Option R) (k1 : Unit → Option R) (l : List Int) (i : Nat) (hl : l.length < 1000) (hi : i < l.length) :
    f42l0s k rec k0 k1 (l, (l.length : Int), (i : Int), ()) = if l.getD i 0 = 0 then rec (l, (l.length : Int), ((i + 1 : Nat) : Int), ()) else k0 (l.getD i 0, ()) := by
  unfold f42l0s
  have h1 : (i : Int) < (l.length : Int) := by omega
  simp only [h1, decide_true, cond_true, Int.natCast_nonneg, Bool.and_self, Int.toNat_natCast, wi (x := (i : Int) + 1) (by omega) (by omega)]
  by_cases h : l.getD i 0 = 0
  · rw [if_pos h, h]; rfl
  · rw [if_neg h]
    have : (l.getD i 0 != 0) = true := by simpa using h
    rw [this]
    rfl
theorem f42q (a b : Int) : f42F 1000 [a, b] = some (if a = 0 then b else a) := by
  have e0 : ∀ {R : Type} (Step : (List Int × Int × Int × Unit → Option R) → List Int × Int × Int × Unit → Option R) v, iterS Step 1000 v = Step (fun v => Step (fun v => Step (iterS Step 997) v) v) v := fun _ _ => rfl
  unfold f42F f42l0
  rw [e0]
  have s0 := fun rec k0 k1 => f42l0_step (R := Int) 1000 rec k0 k1 [a, b] 0 (by simp) (by simp)
  have s1 := fun rec k0 k1 => f42l0_step (R := Int) 1000 rec k0 k1 [a, b] 1 (by simp) (by simp)
  have s2 : ∀ rec k0 k1, f42l0s (R := Int) 1000 rec k0 k1 ([a, b], (([a, b].length : Nat) : Int), ((2 : Nat) : Int), ()) = k1 () := fun _ _ _ => rfl
  have z0 : ((0 : Nat) : Int) = 0 := rfl
  rw [z0] at s0
  rw [s0]
  simp only [Nat.zero_add, s1, Nat.reduceAdd, s2]
  by_cases ha : a = 0 <;> by_cases hb : b = 0 <;> simp [ha, hb]

def tyErr (kd ln sc : Int) : Int :=
  if ¬ (0 ≤ kd ∧ kd ≤ 4) then 4
  else if ¬ (if kd = 0 then 1 ≤ ln ∧ ln ≤ 256 else if kd = 1 ∨ kd = 2 then 1 ≤ ln ∧ ln ≤ 15 else if kd = 3 then ln = 4 ∨ ln = 9 else ln = 0) then 18
  else if ¬ (0 ≤ sc ∧ sc ≤ (if kd = 0 ∨ kd = 4 then 0 else ln)) then 3
  else 0

theorem f28q (kd ln sc : Int) : f28F 1000 (kd, ln, sc) = some (tyErr kd ln sc) := by
  unfold f28F f28p1 f28p0 tyErr
  simp only [f70q, f43q, f42q, bind_some']
  by_cases h0 : kd = 0
  · subst h0
    simp [cond_eq_ite]
    repeat' split
    all_goals first | rfl | omega
  by_cases h1 : kd = 1
  · subst h1
    simp [cond_eq_ite]
    repeat' split
    all_goals first | rfl | omega
  by_cases h2 : kd = 2
  · subst h2
    simp [cond_eq_ite]
    repeat' split
    all_goals first | rfl | omega
  by_cases h3 : kd = 3
  · subst h3
    simp [cond_eq_ite]
    repeat' split
    all_goals first | rfl | omega
  by_cases h4 : kd = 4
  · subst h4
    simp [cond_eq_ite]
    repeat' split
    all_goals first | rfl | omega
  · have : ¬ (0 ≤ kd ∧ kd ≤ 4) := by omega
    simp [cond_eq_ite, h0, h1, h2, h3, h4, this]

theorem f27q (kd ln sc : Int) : f27F 1000 (kd, ln, sc) = some (tyErr kd ln sc) := by
  unfold f27F f27p1 f27p0 f27p2 tyErr
  simp only [f48q, f68q, f69q, bind_some']
  have w0 : IntKind.i64.wrap (3 * 0) = 0 := rfl
  have w1 : IntKind.i64.wrap (3 * 1) = 3 := rfl
  by_cases h0 : kd = 0
  · subst h0
    simp [cond_eq_ite]
    repeat' split
    all_goals first | rfl | omega
  by_cases h1 : kd = 1
  · subst h1
    simp [cond_eq_ite]
    repeat' split
    all_goals first | rfl | omega
  by_cases h2 : kd = 2
  · subst h2
    simp [cond_eq_ite]
    repeat' split
    all_goals first | rfl | omega
  by_cases h3 : kd = 3
  · subst h3
    simp [cond_eq_ite]
    repeat' split
    all_goals first | rfl | omega
  by_cases h4 : kd = 4
  · subst h4
    simp [cond_eq_ite]
    repeat' split
    all_goals first | rfl | omega
  · have : ¬ (0 ≤ kd ∧ kd ≤ 4) := by omega
    simp [cond_eq_ite, h0, h1, h2, h3, h4, this]
end Go.Proofs.YtobgkcamonlnkaaGreatDoor
set_option linter.unusedVariables false
set_option linter.unusedSimpArgs false
namespace Go.Proofs.YtobgkcamonlnkaaGreatDoor
open Go.Ab

def pw (n : Int) : Int := 10 ^ n.toNat
theorem upto15 {n : Int} (h0 : 1 ≤ n) (h1 : n ≤ 15) : n = 1 ∨ n = 2 ∨ n = 3 ∨ n = 4 ∨ n = 5 ∨ n = 6 ∨ n = 7 ∨ n = 8 ∨ n = 9 ∨ n = 10 ∨ n = 11 ∨ n = 12 ∨ n = 13 ∨ n = 14 ∨ n = 15 := by omega
theorem pw_bound {n : Int} (h0 : 1 ≤ n) (h1 : n ≤ 15) : 10 ≤ pw n ∧ pw n ≤ 1000000000000000 := by
  rcases upto15 h0 h1 with rfl | rfl | rfl | rfl | rfl | rfl | rfl | rfl | rfl | rfl | rfl | rfl | rfl | rfl | rfl <;> decide
theorem f71q {n : Int} (h0 : 1 ≤ n) (h1 : n ≤ 15) : f71F 1000 n = some (pw n) := by
  rcases upto15 h0 h1 with rfl | rfl | rfl | rfl | rfl | rfl | rfl | rfl | rfl | rfl | rfl | rfl | rfl | rfl | rfl <;> kernel_rfl
theorem f81q {n : Int} (h0 : 1 ≤ n) (h1 : n ≤ 15) : f81F 1000 n = some (pw n) := by
  rcases upto15 h0 h1 with rfl | rfl | rfl | rfl | rfl | rfl | rfl | rfl | rfl | rfl | rfl | rfl | rfl | rfl | rfl <;> kernel_rfl
theorem f49q {kd n sc : Int} (h0 : 1 ≤ n) (h1 : n ≤ 15) : f49F 1000 (kd, n, sc) = some (pw n - 1) := by
  unfold f49F
  rw [f81q h0 h1]
  have := pw_bound h0 h1
  show some (IntKind.i64.wrap (pw n - 1)) = _
  rw [wi (by omega) (by omega)]

def valErr (kd ln sc n : Int) (s : ByteArray) : Int :=
  if tyErr kd ln sc ≠ 0 then tyErr kd ln sc
  else if kd = 4 then 17
  else if kd = 0 then (if n ≠ 0 then 5 else if (s.size : Int) ≠ ln then 18 else 0)
  else if strEq s ByteArray.empty = false then 5
  else if ¬ (-(pw ln - 1) ≤ n ∧ n ≤ pw ln - 1) then 19
  else 0

theorem ty_ok {kd ln sc : Int} (h : tyErr kd ln sc = 0) : 0 ≤ kd ∧ kd ≤ 4 ∧ (kd = 0 → 1 ≤ ln ∧ ln ≤ 256) ∧ (1 ≤ kd ∧ kd ≤ 3 → 1 ≤ ln ∧ ln ≤ 15) ∧ (kd = 3 → ln = 4 ∨ ln = 9) ∧ (kd = 4 → ln = 0) ∧ 0 ≤ sc ∧ (kd = 0 ∨ kd = 4 → sc = 0) ∧ (1 ≤ kd ∧ kd ≤ 3 → sc ≤ ln) := by
  unfold tyErr at h
  repeat' split at h
  all_goals omega

theorem f29q (kd ln sc n : Int) (s : ByteArray) : f29F 1000 ((kd, ln, sc), n, s) = some (valErr kd ln sc n s) := by
  unfold f29F valErr
  simp only [f28q, f43q, f42q, bind_some']
  by_cases ht : tyErr kd ln sc = 0
  · obtain ⟨a1, a2, a3, a4, a5, a6, a7, a8, a9⟩ := ty_ok ht
    rw [ht]
    by_cases h4 : kd = 4
    · subst h4
      simp [cond_eq_ite]
    by_cases h0 : kd = 0
    · subst h0
      simp [cond_eq_ite]
      repeat' split
      all_goals first | rfl | omega
    · have hl := a4 (by omega)
      have hb := pw_bound hl.1 hl.2
      rw [f71q hl.1 hl.2]
      simp only [bind_some', f70q]
      rw [wi (x := pw ln - 1) (by omega) (by omega), wi (x := 0 - (pw ln - 1)) (by omega) (by omega)]
      simp [cond_eq_ite, h4, h0]
      cases strEq s ByteArray.empty
      · simp
      · simp
        repeat' split
        all_goals first | rfl | omega
  · have hn : (tyErr kd ln sc != 0) = true := by simpa using ht
    simp [ht, cond_eq_ite]

end Go.Proofs.YtobgkcamonlnkaaGreatDoor
set_option linter.unusedVariables false
set_option linter.unusedSimpArgs false
namespace Go.Proofs.YtobgkcamonlnkaaGreatDoor
open Go.Ab

theorem div_pow {b n : Int} (hb : 0 < b) (i : Nat) : n / b ^ i / b = n / b ^ (i + 1) := by
  rw [Int.pow_succ, Int.ediv_ediv_of_nonneg (Int.le_of_lt (Int.pow_pos hb))]
theorem div_le {b n : Int} (hb : 0 < b) (hn : 0 ≤ n) (i : Nat) : 0 ≤ n / b ^ i ∧ n / b ^ i ≤ n :=
  ⟨Int.ediv_nonneg hn (Int.le_of_lt (Int.pow_pos hb)), Int.ediv_le_self _ hn⟩

end Go.Proofs.YtobgkcamonlnkaaGreatDoor
set_option linter.unusedVariables false
set_option linter.unusedSimpArgs false
namespace Go.Proofs.YtobgkcamonlnkaaGreatDoor
open Go.Ab

theorem getD_mem {l : List Int} {P : Int → Prop} (h : ∀ d ∈ l, P d) {i : Nat} (hi : i < l.length) : P (l.getD i 0) := by
  rw [List.getD_eq_getElem?_getD, List.getElem?_eq_getElem hi]
  exact h _ (List.getElem_mem hi)

end Go.Proofs.YtobgkcamonlnkaaGreatDoor
set_option linter.unusedVariables false
set_option linter.unusedSimpArgs false
namespace Go.Proofs.YtobgkcamonlnkaaGreatDoor
open Go.Ab

end Go.Proofs.YtobgkcamonlnkaaGreatDoor
set_option linter.unusedVariables false
set_option linter.unusedSimpArgs false
namespace Go.Proofs.YtobgkcamonlnkaaGreatDoor
open Go.Ab

end Go.Proofs.YtobgkcamonlnkaaGreatDoor
set_option linter.unusedVariables false
set_option linter.unusedSimpArgs false
namespace Go.Proofs.YtobgkcamonlnkaaGreatDoor
open Go.Ab

theorem bytes_len (s : ByteArray) : (bytesOf s).length = s.size := by
  unfold bytesOf
  rw [List.length_map]
  rfl
theorem bytes_mem {s : ByteArray} {d : Int} (h : d ∈ bytesOf s) : 0 ≤ d ∧ d ≤ 255 := by
  simp only [bytesOf, List.mem_map] at h
  obtain ⟨b, _, rfl⟩ := h
  have := b.toNat_lt
  omega
theorem bytes_get (s : ByteArray) (i : Nat) : 0 ≤ (bytesOf s).getD i 0 ∧ (bytesOf s).getD i 0 ≤ 255 := by
  by_cases h : i < (bytesOf s).length
  · exact getD_mem (P := fun d => 0 ≤ d ∧ d ≤ 255) (fun d hd => bytes_mem hd) h
  · rw [List.getD_eq_getElem?_getD, List.getElem?_eq_none (by omega)]
    decide
theorem bt_get (s : ByteArray) (i : Nat) : bt s (i : Int) = (bytesOf s).getD i 0 := by
  unfold bt
  rw [Int.toNat_natCast]
  split
  · rename_i h
    have h' : i < s.data.toList.length := h
    simp only [bytesOf, List.getD_eq_getElem?_getD, List.getElem?_map, List.getElem?_eq_getElem h', Option.map_some, Option.getD_some]
    rfl
  · rename_i h
    rw [List.getD_eq_getElem?_getD, List.getElem?_eq_none (by rw [bytes_len]; omega)]
    rfl

theorem shr4 : ∀ b : Fin 256, shrI .u8 (b.val : Int) 4 = (b.val : Int) / 16 := by decide +kernel
theorem shr4' {b : Int} (h0 : 0 ≤ b) (h1 : b ≤ 255) : shrI .u8 b 4 = b / 16 := by
  have := shr4 ⟨b.toNat, by omega⟩
  simp only at this
  rwa [show ((b.toNat : Nat) : Int) = b by omega] at this
theorem and15 : ∀ b : Fin 256, bits .and .u8 (b.val : Int) 15 = (b.val : Int) % 16 := by decide +kernel
theorem and15' {b : Int} (h0 : 0 ≤ b) (h1 : b ≤ 255) : bits .and .u8 b 15 = b % 16 := by
  have := and15 ⟨b.toNat, by omega⟩
  simp only at this
  rwa [show ((b.toNat : Nat) : Int) = b by omega] at this

def scanB (bad : Nat → Bool) (val : Nat → Int) : Nat → Nat → Int → Nat ⊕ Int
  | 0, _, n => .inr n
  | r + 1, i, n => bif bad i then .inl i else scanB bad val r (i + 1) (n * 10 + val i)

theorem scanB_bound {bad : Nat → Bool} {val : Nat → Int} {N : Nat} (hv : ∀ i, i < N → bad i = false → 0 ≤ val i ∧ val i ≤ 9) : ∀ {r i : Nat} {n m : Int}, i + r ≤ N → 0 ≤ n → n < 10 ^ i → scanB bad val r i n = .inr m → 0 ≤ m ∧ m < 10 ^ (i + r)
  | 0, i, n, m, _, h0, h1, h => by
    simp only [scanB, Sum.inr.injEq] at h
    subst h
    exact ⟨h0, h1⟩
  | r + 1, i, n, m, hN, h0, h1, h => by
    simp only [scanB] at h
    cases hb : bad i with
    | true => rw [hb] at h; cases h
    | false =>
      rw [hb] at h
      simp only [cond_false] at h
      obtain ⟨v0, v1⟩ := hv i (by omega) hb
      have := scanB_bound hv (r := r) (i := i + 1) (n := n * 10 + val i) (by omega) (by omega) (by rw [Int.pow_succ]; omega) h
      rwa [show i + 1 + r = i + (r + 1) by omega] at this
theorem scanB_lt {bad : Nat → Bool} {val : Nat → Int} : ∀ {r i : Nat} {n : Int} {j : Nat}, scanB bad val r i n = .inl j → i ≤ j ∧ j < i + r
  | 0, _, _, _, h => by cases h
  | r + 1, i, n, j, h => by
    simp only [scanB] at h
    cases hb : bad i with
    | true =>
      rw [hb] at h
      simp only [cond_true, Sum.inl.injEq] at h
      omega
    | false =>
      rw [hb] at h
      have := scanB_lt (r := r) h
      omega
theorem scanB_congr {bad bad' : Nat → Bool} {val val' : Nat → Int} : ∀ {r i : Nat} {n : Int}, (∀ j, i ≤ j → j < i + r → bad j = bad' j ∧ val j = val' j) → scanB bad val r i n = scanB bad' val' r i n
  | 0, _, _, _ => rfl
  | r + 1, i, n, h => by
    obtain ⟨h1, h2⟩ := h i (by omega) (by omega)
    simp only [scanB, h1, h2]
    rw [scanB_congr fun j a b => h j (by omega) (by omega)]

theorem iter_scan {V R : Type} {Step : (V → Option R) → V → Option R} (st : Nat → Int → V) {bad : Nat → Bool} {val : Nat → Int} {N : Nat} {exit : Nat → Option R}
    (hv : ∀ i, i < N → bad i = false → 0 ≤ val i ∧ val i ≤ 9) (hstep : ∀ rec i m, i < N → 0 ≤ m → m < 10 ^ i → Step rec (st i m) = bif bad i then exit i else rec (st (i + 1) (m * 10 + val i))) :
    ∀ {r i k : Nat} {m : Int}, i + r = N → r ≤ k → 0 ≤ m → m < 10 ^ i → iterS Step k (st i m) = match scanB bad val r i m with
      | .inl j => exit j
      | .inr m => iterS Step (k - r) (st N m)
  | 0, i, k, m, hi, hk, h0, h1 => by
    rw [Nat.add_zero] at hi
    subst hi
    rfl
  | r + 1, i, k, m, hi, hk, h0, h1 => by
    obtain ⟨k, rfl⟩ : ∃ k', k = k' + 1 := ⟨k - 1, by omega⟩
    show Step (iterS Step k) (st i m) = _
    rw [hstep _ i m (by omega) h0 h1]
    simp only [scanB]
    cases hb : bad i with
    | true => rfl
    | false =>
      simp only [cond_false]
      obtain ⟨v0, v1⟩ := hv i (by omega) hb
      rw [iter_scan st hv hstep (r := r) (i := i + 1) (k := k) (by omega) (by omega) (by omega) (by rw [Int.pow_succ]; omega), show k + 1 - (r + 1) = k - r by omega]

theorem pow_le16 {i : Nat} (h : i ≤ 16) : (10 : Int) ^ i ≤ 10000000000000000 := by
  have := Nat.pow_le_pow_right (n := 10) (by decide) h
  have e : ((10 ^ i : Nat) : Int) = (10 : Int) ^ i := by simp
  rw [← e]
  omega

def half (s : ByteArray) (t : Nat) : Int := if t % 2 = 0 then (bytesOf s).getD (t / 2) 0 / 16 else (bytesOf s).getD (t / 2) 0 % 16
def atH (t : Nat) : Int := ((t / 2 : Nat) : Int)
theorem half_bound (s : ByteArray) (t : Nat) : 0 ≤ half s t ∧ half s t ≤ 15 := by
  have := bytes_get s (t / 2)
  unfold half
  split <;> omega
def lowh (s : ByteArray) (t : Nat) : Int := (bytesOf s).getD t 0 % 16
def atZ (t : Nat) : Int := (t : Int)

theorem halves1 {ln sc : Int} (s : ByteArray) (h : s.size ≤ 400) : f80F 1000 ((1, ln, sc), s) = some ((List.range (2 * s.size)).map (half s), (List.range (2 * s.size)).map atH) := by
  unfold f80F f80l1
  have key := iter_for (R := List Int × List Int) (Step := fun rec v => f80l1s 1000 rec (fun w3 => f80p2 1000 (fun w5 => some (w5.2.2.2.2.1, w5.2.2.2.2.2.1)) (w3.1, w3.2.1, w3.2.2.1, w3.2.2.2.1, w3.2.2.2.2.1, w3.2.2.2.2.2.1, ())) v)
    (fun i => (s, (s.size : Int), (i : Int), 1, ln, sc, (List.range (2 * i)).map (half s), (List.range (2 * i)).map atH, ())) s.size (fin := some ((List.range (2 * s.size)).map (half s), (List.range (2 * s.size)).map atH)) ?_ ?_ (k := 1000) (by omega)
  · simpa using key
  · intro rec i hi
    unfold f80l1s f80p0
    have e1 : (decide ((i : Int) < (s.size : Int))) = true := by simp; omega
    have e0 : (decide ((0 : Int) ≤ (i : Int))) = true := by simp
    have k1 : ((1 : Int) == 1) = true := rfl
    obtain ⟨b0, b1⟩ := bytes_get s i
    simp only [e1, e0, k1, Bool.and_self, cond_true, bt_get, shr4' b0 b1, and15' b0 b1]
    have c1 : (decide ((((List.range (2 * i)).map (half s)).length + [(bytesOf s).getD i 0 / 16, (bytesOf s).getD i 0 % 16].length) * 1 ≤ 140737488355328) && decide (((List.range (2 * i)).map (half s)).length + [(bytesOf s).getD i 0 / 16, (bytesOf s).getD i 0 % 16].length ≤ 9223372036854775807)) = true := by simp; omega
    have c2 : (decide ((((List.range (2 * i)).map atH).length + [(i : Int), (i : Int)].length) * 8 ≤ 140737488355328) && decide (((List.range (2 * i)).map atH).length + [(i : Int), (i : Int)].length ≤ 9223372036854775807)) = true := by simp; omega
    rw [c1, c2]
    simp only [cond_true]
    rw [wi (x := (i : Int) + 1) (by omega) (by omega)]
    have a1 : (List.range (2 * (i + 1))).map (half s) = (List.range (2 * i)).map (half s) ++ [(bytesOf s).getD i 0 / 16, (bytesOf s).getD i 0 % 16] := by
      rw [show 2 * (i + 1) = 2 * i + 1 + 1 by omega, List.range_succ, List.range_succ]
      simp only [List.map_append, List.map_cons, List.map_nil, List.append_assoc, List.cons_append, List.nil_append]
      have x1 : half s (2 * i) = (bytesOf s).getD i 0 / 16 := by unfold half; rw [if_pos (by omega), show 2 * i / 2 = i by omega]
      have x2 : half s (2 * i + 1) = (bytesOf s).getD i 0 % 16 := by unfold half; rw [if_neg (by omega), show (2 * i + 1) / 2 = i by omega]
      rw [x1, x2]
    have a2 : (List.range (2 * (i + 1))).map atH = (List.range (2 * i)).map atH ++ [(i : Int), (i : Int)] := by
      rw [show 2 * (i + 1) = 2 * i + 1 + 1 by omega, List.range_succ, List.range_succ]
      simp only [List.map_append, List.map_cons, List.map_nil, List.append_assoc, List.cons_append, List.nil_append]
      have x1 : atH (2 * i) = i := by unfold atH; rw [show 2 * i / 2 = i by omega]
      have x2 : atH (2 * i + 1) = i := by unfold atH; rw [show (2 * i + 1) / 2 = i by omega]
      rw [x1, x2]
    rw [a1, a2]
    rfl
  · intro rec
    unfold f80l1s f80p2
    have e1 : (decide ((s.size : Int) < (s.size : Int))) = false := by simp
    simp only [e1, cond_false]
    rfl

theorem halves2 {ln sc : Int} (s : ByteArray) (h0 : 1 ≤ s.size) (h : s.size ≤ 400) : f80F 1000 ((2, ln, sc), s) = some ((List.range s.size).map (lowh s) ++ [(bytesOf s).getD (s.size - 1) 0 / 16], (List.range s.size).map atZ ++ [((s.size - 1 : Nat) : Int)]) := by
  unfold f80F f80l1
  have key := iter_for (R := List Int × List Int) (Step := fun rec v => f80l1s 1000 rec (fun w3 => f80p2 1000 (fun w5 => some (w5.2.2.2.2.1, w5.2.2.2.2.2.1)) (w3.1, w3.2.1, w3.2.2.1, w3.2.2.2.1, w3.2.2.2.2.1, w3.2.2.2.2.2.1, ())) v)
    (fun i => (s, (s.size : Int), (i : Int), 2, ln, sc, (List.range i).map (lowh s), (List.range i).map atZ, ())) s.size (fin := some ((List.range s.size).map (lowh s) ++ [(bytesOf s).getD (s.size - 1) 0 / 16], (List.range s.size).map atZ ++ [((s.size - 1 : Nat) : Int)])) ?_ ?_ (k := 1000) (by omega)
  · simpa using key
  · intro rec i hi
    unfold f80l1s f80p0
    have e1 : (decide ((i : Int) < (s.size : Int))) = true := by simp; omega
    have e0 : (decide ((0 : Int) ≤ (i : Int))) = true := by simp
    have k1 : ((2 : Int) == 1) = false := rfl
    obtain ⟨b0, b1⟩ := bytes_get s i
    simp only [e1, e0, k1, Bool.and_self, cond_true, cond_false, bt_get, shr4' b0 b1, and15' b0 b1]
    have c1 : (decide ((((List.range i).map (lowh s)).length + [(bytesOf s).getD i 0 % 16].length) * 1 ≤ 140737488355328) && decide (((List.range i).map (lowh s)).length + [(bytesOf s).getD i 0 % 16].length ≤ 9223372036854775807)) = true := by simp; omega
    have c2 : (decide ((((List.range i).map atZ).length + [(i : Int)].length) * 8 ≤ 140737488355328) && decide (((List.range i).map atZ).length + [(i : Int)].length ≤ 9223372036854775807)) = true := by simp; omega
    rw [c1, c2]
    simp only [cond_true]
    rw [wi (x := (i : Int) + 1) (by omega) (by omega), List.range_succ, List.map_append, List.map_append]
    rfl
  · intro rec
    unfold f80l1s f80p2
    have e1 : (decide ((s.size : Int) < (s.size : Int))) = false := by simp
    have k2 : ((2 : Int) == 2) = true := rfl
    have w : IntKind.i64.wrap ((s.size : Int) - 1) = ((s.size - 1 : Nat) : Int) := by rw [wi (by omega) (by omega)]; omega
    have e0 : (decide ((0 : Int) ≤ ((s.size - 1 : Nat) : Int))) = true := by simp <;> omega
    have e2 : (decide (((s.size - 1 : Nat) : Int) < (s.size : Int))) = true := by simp <;> omega
    obtain ⟨b0, b1⟩ := bytes_get s (s.size - 1)
    simp only [e1, cond_false, k2, cond_true, w, e0, e2, Bool.and_self, bt_get, shr4' b0 b1]
    have c1 : (decide ((((List.range s.size).map (lowh s)).length + [(bytesOf s).getD (s.size - 1) 0 / 16].length) * 1 ≤ 140737488355328) && decide (((List.range s.size).map (lowh s)).length + [(bytesOf s).getD (s.size - 1) 0 / 16].length ≤ 9223372036854775807)) = true := by simp; omega
    have c2 : (decide ((((List.range s.size).map atZ).length + [((s.size - 1 : Nat) : Int)].length) * 8 ≤ 140737488355328) && decide (((List.range s.size).map atZ).length + [((s.size - 1 : Nat) : Int)].length ≤ 9223372036854775807)) = true := by simp; omega
    rw [c1, c2]
    rfl
end Go.Proofs.YtobgkcamonlnkaaGreatDoor
set_option linter.unusedVariables false
set_option linter.unusedSimpArgs false
namespace Go.Proofs.YtobgkcamonlnkaaGreatDoor
open Go.Ab

def sgn (m h : Int) : Int := if h = 11 ∨ h = 13 then -m else m
def decR (bad : Nat → Bool) (h : Nat → Int) (a : Nat → Int) (N : Nat) : Int × Int × Int :=
  match scanB bad h N 0 0 with
  | .inl j => (0, a j, 21)
  | .inr m => if h N < 10 then (0, a N, 21) else (sgn m (h N), 0, 0)
def badN (h : Nat → Int) (N : Nat) (ln : Int) (i : Nat) : Bool := decide (h i > 9) || (decide (h i > 0) && decide ((i : Int) < (N : Int) - ln))

theorem sign_eq (d m x : Int) : (bif decide (d < 10) then some ((0 : Int), x, (21 : Int)) else bif d == 11 then some (0 - m, 0, 0) else bif d == 13 then some (0 - m, 0, 0) else some (m, 0, 0)) = some (if d < 10 then (0, x, 21) else (if d = 11 ∨ d = 13 then -m else m, 0, 0)) := by
  by_cases x1 : d < 10
  · simp [x1]
  · by_cases x2 : d = 11
    · subst x2; simp
    · by_cases x3 : d = 13
      · subst x3; simp
      · have y2 : (d == 11) = false := by simpa using x2
        have y3 : (d == 13) = false := by simpa using x3
        simp [x1, x2, x3, y2, y3]

theorem f46q {kd ln sc : Int} {s : ByteArray} {h a : List Int} {N : Nat} (hf : f80F 1000 ((kd, ln, sc), s) = some (h, a)) (hl : h.length = N + 1) (al : a.length = N + 1) (hN : N ≤ 16) (l0 : 0 ≤ ln) (l1 : ln ≤ 256) (hb : ∀ i, 0 ≤ h.getD i 0 ∧ h.getD i 0 ≤ 15) :
    f46F 1000 ((kd, ln, sc), s) = some (decR (badN (fun i => h.getD i 0) N ln) (fun i => h.getD i 0) (fun i => a.getD i 0) N) := by
  unfold f46F
  have w : IntKind.i64.wrap ((h.length : Int) - 1) = (N : Int) := by rw [wi (by omega) (by omega)]; omega
  have c1 : sliceBds 0 (N : Int) (h.length : Int) = true := by unfold sliceBds; simp; omega
  simp only [hf, bind_some', w, c1, cond_true, Int.toNat_natCast, List.drop_zero]
  have tl : (h.take N).length = N := by simp; omega
  have tg : ∀ i, i < N → (h.take N).getD i 0 = h.getD i 0 := fun i hi => by simp [List.getD_eq_getElem?_getD, List.getElem?_take, hi]
  rw [tl]
  unfold f46l1
  have key := iter_scan (R := Int × Int × Int) (Step := fun rec v => f46l1s 1000 rec (fun w6 => some (w6.1, w6.2.1, w6.2.2.1)) (fun w7 => f46p2 1000 (fun w8 => some (w8.1, w8.2.1, w8.2.2.1)) (fun w9 => some (w9.2.1, (0 : Int), (0 : Int))) (w7.1, w7.2.1, w7.2.2.1, w7.2.2.2.1, ())) v)
    (fun i m => ((N : Int), m, h.take N, (N : Int), (i : Int), kd, ln, sc, h, a, ())) (bad := badN (fun i => h.getD i 0) N ln) (val := fun i => h.getD i 0) (N := N) (exit := fun j => some (0, a.getD j 0, 21))
    (fun i hi hbad => by
      simp only [badN, Bool.or_eq_false_iff, decide_eq_false_iff_not] at hbad
      exact ⟨(hb i).1, by omega⟩)
    (fun rec i m hi m0 m1 => by
      have p := pow_le16 (i := i) (by omega)
      obtain ⟨b0, b1⟩ := hb i
      unfold f46l1s f46p0
      have e1 : (decide ((i : Int) < (N : Int))) = true := by simp; omega
      have e0 : (decide ((0 : Int) ≤ (i : Int))) = true := by simp
      have e2 : (decide ((i : Int) < ((h.take N).length : Int))) = true := by rw [tl]; exact e1
      have e3 : (decide ((i : Int) < (a.length : Int))) = true := by simp; omega
      simp only [e1, e0, e2, e3, Bool.and_self, cond_true, Int.toNat_natCast, tg i hi]
      rw [wi (x := (N : Int) - ln) (by omega) (by omega), wi (x := h.getD i 0) (by omega) (by omega), wi (x := m * 10) (by omega) (by omega), wi (x := m * 10 + h.getD i 0) (by omega) (by omega), wi (x := (i : Int) + 1) (by omega) (by omega)]
      unfold badN
      cases decide (h.getD i 0 > 9) <;> cases decide (h.getD i 0 > 0) <;> cases decide ((i : Int) < (N : Int) - ln) <;> rfl)
    (r := N) (i := 0) (k := 1000) (m := 0) (by omega) (by omega) (by omega) (by simp)
  refine Eq.trans key ?_
  unfold decR
  cases hsc : scanB (badN (fun i => h.getD i 0) N ln) (fun i => h.getD i 0) N 0 0 with
  | inl j => rfl
  | inr m =>
    simp only
    obtain ⟨k, hk⟩ : ∃ k, 1000 - N = k + 1 := ⟨1000 - N - 1, by omega⟩
    rw [hk, iterS]
    have mb := scanB_bound (N := N) (fun i hi hbad => by
      simp only [badN, Bool.or_eq_false_iff, decide_eq_false_iff_not] at hbad
      exact ⟨(hb i).1, by omega⟩) (by omega) (by omega) (by simp) hsc
    have p := pow_le16 (i := 0 + N) (by omega)
    unfold f46l1s f46p2
    have e1 : (decide ((N : Int) < (N : Int))) = false := by simp
    have e0 : (decide ((0 : Int) ≤ (N : Int))) = true := by simp
    have e2 : (decide ((N : Int) < (h.length : Int))) = true := by simp; omega
    have e3 : (decide ((N : Int) < (a.length : Int))) = true := by simp; omega
    simp only [e1, e0, e2, e3, Bool.and_self, cond_true, cond_false, Int.toNat_natCast]
    rw [wi (x := 0 - m) (by omega) (by omega)]
    unfold sgn
    exact sign_eq _ _ _

theorem f82q {m h : Int} (m0 : -10000000000000000 ≤ m) (m1 : m ≤ 10000000000000000) : f82F 1000 (m, h) = some (sgn m h, decide (h ≥ 10)) := by
  unfold f82F f82p0 sgn
  simp only
  rw [wi (x := 0 - m) (by omega) (by omega)]
  by_cases x2 : h = 11
  · subst x2; simp
  · by_cases x3 : h = 13
    · subst x3; simp
    · have y2 : (h == 11) = false := by simpa using x2
      have y3 : (h == 13) = false := by simpa using x3
      simp [y2, y3, x2, x3]

theorem scan_last {bad : Nat → Bool} {val : Nat → Int} {L : Nat} {c : Bool} : ∀ {r i : Nat} {n : Int}, i + (r + 1) = L → scanB (fun i => bad i || (decide (i = L - 1) && c)) val (r + 1) i n = (match scanB bad val (r + 1) i n with
    | .inl j => .inl j
    | .inr m => bif c then .inl (L - 1) else .inr m)
  | 0, i, n, h => by
    have : i = L - 1 := by omega
    simp only [scanB, this, decide_true, Bool.true_and]
    cases bad (L - 1) <;> cases c <;> rfl
  | r + 1, i, n, h => by
    have hne : ¬ i = L - 1 := by omega
    rw [scanB]
    conv => rhs; rw [scanB]
    simp only [hne, decide_false, Bool.false_and, Bool.or_false]
    cases bad i with
    | true => rfl
    | false =>
      simp only [cond_false]
      exact scan_last (by omega)

theorem f50q {s : ByteArray} {L : Nat} (hs : s.size = L) (h0 : 1 ≤ L) (h1 : L ≤ 16) : f50F 1000 s = some (match decR (fun i => decide (lowh s i > 9)) (fun i => if i = L then (bytesOf s).getD (L - 1) 0 / 16 else lowh s i) (fun i => if i = L then ((L - 1 : Nat) : Int) else (i : Int)) L with
    | (n, at_, e) => ((n, ByteArray.empty), at_, e)) := by
  unfold f50F f50l1
  let sg : Int := (bytesOf s).getD (L - 1) 0 / 16
  obtain ⟨g0, g1⟩ := bytes_get s (L - 1)
  have hlow : ∀ i, 0 ≤ lowh s i ∧ lowh s i ≤ 15 := fun i => by have := bytes_get s i; unfold lowh; omega
  have w : IntKind.i64.wrap ((s.size : Int) - 1) = ((L - 1 : Nat) : Int) := by rw [wi (by omega) (by omega)]; omega
  have key := iter_scan (R := (Int × ByteArray) × Int × Int) (Step := fun rec v => f50l1s 1000 rec (fun w4 => some ((w4.2.2.2.2.1, w4.2.2.2.2.2.1), w4.1, w4.2.1)) (fun w5 => Option.bind (f82F 1000 (w5.1, w5.2.1)) fun y6 => some ((y6.1, ByteArray.empty), (0 : Int), (0 : Int))) v)
    (fun i m => (s, m, (if i < L then (15 : Int) else sg), (i : Int), 0, ByteArray.empty, ())) (bad := fun i => decide (lowh s i > 9) || (decide (i = L - 1) && decide (sg < 10))) (val := lowh s) (N := L) (exit := fun j => some ((0, ByteArray.empty), (j : Int), 21))
    (fun i hi hbad => by
      simp only [Bool.or_eq_false_iff, decide_eq_false_iff_not] at hbad
      exact ⟨(hlow i).1, by omega⟩)
    (fun rec i m hi m0 m1 => by
      have p := pow_le16 (i := i) (by omega)
      obtain ⟨b0, b1⟩ := bytes_get s i
      have hlo := hlow i
      have hlod : lowh s i = (bytesOf s).getD i 0 % 16 := rfl
      unfold f50l1s f50p0
      have e1 : (decide ((i : Int) < (s.size : Int))) = true := by simp; omega
      have e0 : (decide ((0 : Int) ≤ (i : Int))) = true := by simp
      simp only [e1, e0, w, Bool.and_self, cond_true, bt_get]
      rw [wi (x := (bytesOf s).getD i 0) (by omega) (by omega), Int.tmod_eq_emod_of_nonneg b0, Int.tdiv_eq_ediv_of_nonneg b0, wi (x := (bytesOf s).getD i 0 / 16) (by omega) (by omega), ← hlod,
        wi (x := 10 * m) (by omega) (by omega), wi (x := 10 * m + lowh s i) (by omega) (by omega), wi (x := (i : Int) + 1) (by omega) (by omega), show 10 * m + lowh s i = m * 10 + lowh s i by omega]
      by_cases hL : i = L - 1
      · have q : ((i : Int) == ((L - 1 : Nat) : Int)) = true := by rw [hL]; simp
        have hsg : (bytesOf s).getD i 0 / 16 = sg := by rw [hL]
        rw [q, hsg]
        simp only [cond_true]
        have n1 : ¬ (i + 1 < L) := by omega
        by_cases x1 : sg < 10
        · simp [x1, hL]
        · by_cases x2 : lowh s i > 9
          · simp [x1, x2]
          · simp [x1, x2, n1]
      · have q : ((i : Int) == ((L - 1 : Nat) : Int)) = false := by simp; omega
        rw [q]
        have n0 : i < L := hi
        have n1 : i + 1 < L := by omega
        by_cases x2 : lowh s i > 9
        · simp [x2, n0]
        · simp [x2, n0, n1, hL])
    (r := L) (i := 0) (k := 1000) (m := 0) (by omega) (by omega) (by omega) (by simp)
  have hstart : (if (0 : Nat) < L then (15 : Int) else sg) = 15 := if_pos (by omega)
  simp only [hstart] at key
  refine Eq.trans key ?_
  obtain ⟨L', hL'⟩ : ∃ L', L = L' + 1 := ⟨L - 1, by omega⟩
  have sl := scan_last (bad := fun i => decide (lowh s i > 9)) (val := lowh s) (L := L) (c := decide (sg < 10)) (r := L') (i := 0) (n := 0) (by omega)
  rw [← hL'] at sl
  rw [sl]
  unfold decR
  have cg : scanB (fun i => decide (lowh s i > 9)) (fun i => if i = L then (bytesOf s).getD (L - 1) 0 / 16 else lowh s i) L 0 0 = scanB (fun i => decide (lowh s i > 9)) (lowh s) L 0 0 := scanB_congr fun j _ hj => ⟨rfl, if_neg (by omega)⟩
  rw [cg]
  cases hsc : scanB (fun i => decide (lowh s i > 9)) (lowh s) L 0 0 with
  | inl j =>
    have := scanB_lt hsc
    simp only
    rw [if_neg (by omega)]
  | inr m =>
    simp only [if_true]
    have mb := scanB_bound (N := L) (fun i hi hbad => by
      simp only [decide_eq_false_iff_not] at hbad
      exact ⟨(hlow i).1, by omega⟩) (by omega) (by omega) (by simp) hsc
    have p := pow_le16 (i := 0 + L) (by omega)
    show (match (bif decide (sg < 10) then Sum.inl (L - 1) else Sum.inr m) with | .inl j => _ | .inr m => _) = some (match (if sg < 10 then ((0 : Int), ((L - 1 : Nat) : Int), (21 : Int)) else (sgn m sg, 0, 0)) with | (n, at_, e) => ((n, ByteArray.empty), at_, e))
    by_cases x1 : sg < 10
    · simp [x1]
    · simp only [x1, decide_false, cond_false, if_false]
      obtain ⟨k, hk⟩ : ∃ k, 1000 - L = k + 1 := ⟨1000 - L - 1, by omega⟩
      rw [hk, iterS]
      unfold f50l1s
      have e1 : (decide ((L : Int) < (s.size : Int))) = false := by simp; omega
      have n0 : ¬ (L < L) := by omega
      simp only [e1, cond_false, n0, if_false]
      rw [f82q (by omega) (by omega)]
      rfl
end Go.Proofs.YtobgkcamonlnkaaGreatDoor
set_option linter.unusedVariables false
set_option linter.unusedSimpArgs false
namespace Go.Proofs.YtobgkcamonlnkaaGreatDoor
open Go.Ab

def badP (s : ByteArray) (ln : Int) (i : Nat) : Bool := decide (half s i > 9) || (decide (i = 0) && (decide (ln % 2 = 0) && decide (half s i ≠ 0)))
abbrev R51 := (Int × ByteArray) × Int × Int

theorem f51step {s : ByteArray} {z : Nat} {ln sc m : Int} (hz : s.size = z) (h1 : z ≤ 16) (l0 : 0 ≤ ln) (i : Nat) (hi : i < 2 * z) (m0 : 0 ≤ m) (m1 : m ≤ 10000000000000000)
    (rec : ByteArray × Int × Int × Int × Int × Int × Int × ByteArray × Unit → Option R51) (k1 : Int × Int × ByteArray × Unit → Option R51) :
    f51l4s 1000 rec (fun w41 => some ((w41.2.2.2.1, w41.2.2.2.2.1), w41.1, w41.2.1)) k1 (s, m, (i : Int), 1, ln, sc, 0, ByteArray.empty, ()) =
      bif (bif decide (i = 2 * z - 1) then decide (half s i < 10) else decide (half s i > 9)) || (decide (i = 0) && (decide (ln % 2 = 0) && decide (half s i ≠ 0))) then some ((0, ByteArray.empty), atH i, 21)
      else rec (s, (bif decide (i = 2 * z - 1) then sgn m (half s i) else m * 10 + half s i), ((i + 1 : Nat) : Int), 1, ln, sc, 0, ByteArray.empty, ()) := by
  obtain ⟨b0, b1⟩ := bytes_get s (i / 2)
  obtain ⟨h0, h15⟩ := half_bound s i
  have w1 : IntKind.i64.wrap (2 * (s.size : Int)) = ((2 * z : Nat) : Int) := by rw [hz, wi (by omega) (by omega)]; omega
  have w2 : IntKind.i64.wrap (((2 * z : Nat) : Int) - 1) = ((2 * z - 1 : Nat) : Int) := by rw [wi (by omega) (by omega)]; omega
  have w3 : IntKind.i64.wrap (Int.tdiv (i : Int) 2) = ((i / 2 : Nat) : Int) := by rw [Int.tdiv_eq_ediv_of_nonneg (by omega), wi (by omega) (by omega)]; omega
  have e1 : (decide ((i : Int) < ((2 * z : Nat) : Int))) = true := by simp; omega
  have e0 : (decide ((0 : Int) ≤ ((i / 2 : Nat) : Int))) = true := by simp <;> omega
  have e2 : (decide (((i / 2 : Nat) : Int) < (s.size : Int))) = true := by simp; omega
  have wB : IntKind.i64.wrap ((bytesOf s).getD (i / 2) 0) = (bytesOf s).getD (i / 2) 0 := wi (by omega) (by omega)
  have wD : IntKind.i64.wrap (Int.tdiv ((bytesOf s).getD (i / 2) 0) 16) = (bytesOf s).getD (i / 2) 0 / 16 := by rw [Int.tdiv_eq_ediv_of_nonneg b0, wi (by omega) (by omega)]
  have wM : Int.tmod ((bytesOf s).getD (i / 2) 0) 16 = (bytesOf s).getD (i / 2) 0 % 16 := Int.tmod_eq_emod_of_nonneg b0
  have wI : IntKind.i64.wrap ((i : Int) + 1) = ((i + 1 : Nat) : Int) := by rw [wi (by omega) (by omega)]; rfl
  have wL : Int.tmod ln 2 = ln % 2 := Int.tmod_eq_emod_of_nonneg l0
  have wH : ∀ h : Int, 0 ≤ h → h ≤ 15 → IntKind.i64.wrap (IntKind.i64.wrap (10 * m) + h) = m * 10 + h := fun h a b => by rw [wi (x := 10 * m) (by omega) (by omega), wi (by omega) (by omega)]; omega
  have qL : ((i : Int) == ((2 * z - 1 : Nat) : Int)) = decide (i = 2 * z - 1) := by
    by_cases hh : i = 2 * z - 1
    · rw [decide_eq_true hh, hh]; simp
    · rw [decide_eq_false hh]; simp; omega
  have q0 : ((i : Int) == 0) = decide (i = 0) := by
    by_cases hh : i = 0
    · subst hh; rfl
    · rw [decide_eq_false hh]; simp; omega
  have qP : ((ln % 2 : Int) == 0) = decide (ln % 2 = 0) := by
    by_cases hh : ln % 2 = 0
    · rw [hh]; rfl
    · rw [decide_eq_false hh]; simpa using hh
  have qN : (half s i != 0) = decide (half s i ≠ 0) := by
    by_cases hh : half s i = 0
    · rw [hh]; rfl
    · rw [decide_eq_true hh]; simpa using hh
  unfold f51l4s f51p3 f51p0 f51p1 f51p2
  simp only [w1, e1, cond_true, w3, e0, e2, Bool.and_self, bt_get, wB, wD, wM, w2, qL, q0, wL, qP, wI]
  by_cases hp : i % 2 = 0
  · have p1 : ((Int.tmod (i : Int) 2) == 1) = false := by rw [Int.tmod_eq_emod_of_nonneg (by omega)]; simp; omega
    have hh : (bytesOf s).getD (i / 2) 0 / 16 = half s i := by unfold half; rw [if_pos hp]
    simp only [p1, cond_false, hh, wH _ h0 h15, qN]
    have f := f82q (m := m) (h := half s i) (by omega) (by omega)
    rw [f]
    simp only [bind_some']
    cases decide (i = 2 * z - 1) <;> cases decide (half s i < 10) <;> cases decide (half s i > 9) <;> cases decide (i = 0) <;> cases decide (ln % 2 = 0) <;> cases decide (half s i ≠ 0) <;> rfl
  · have p1 : ((Int.tmod (i : Int) 2) == 1) = true := by rw [Int.tmod_eq_emod_of_nonneg (by omega)]; simp; omega
    have hh : (bytesOf s).getD (i / 2) 0 % 16 = half s i := by unfold half; rw [if_neg hp]
    simp only [p1, cond_true, hh, wH _ h0 h15, qN]
    have f := f82q (m := m) (h := half s i) (by omega) (by omega)
    rw [f]
    simp only [bind_some']
    cases decide (i = 2 * z - 1) <;> cases decide (half s i < 10) <;> cases decide (half s i > 9) <;> cases decide (i = 0) <;> cases decide (ln % 2 = 0) <;> cases decide (half s i ≠ 0) <;> rfl

theorem f51q {s : ByteArray} {z : Nat} {ln sc : Int} (hz : s.size = z) (h0 : 1 ≤ z) (h1 : z ≤ 8) (l0 : 0 ≤ ln) : f51F 1000 ((1, ln, sc), s) = some (match decR (badP s ln) (half s) atH (2 * z - 1) with
    | (n, at_, e) => ((n, ByteArray.empty), at_, e)) := by
  unfold f51F f51l4
  have key := iter_scan (R := R51) (Step := fun rec v => f51l4s 1000 rec (fun w41 => some ((w41.2.2.2.1, w41.2.2.2.2.1), w41.1, w41.2.1)) (fun w42 => some ((w42.1, ByteArray.empty), (0 : Int), (0 : Int))) v)
    (fun i m => (s, m, (i : Int), 1, ln, sc, 0, ByteArray.empty, ())) (bad := badP s ln) (val := half s) (N := 2 * z - 1) (exit := fun j => some ((0, ByteArray.empty), atH j, 21))
    (fun i hi hbad => by
      simp only [badP, Bool.or_eq_false_iff, decide_eq_false_iff_not] at hbad
      exact ⟨(half_bound s i).1, by omega⟩)
    (fun rec i m hi m0 m1 => by
      have p := pow_le16 (i := i) (by omega)
      have := f51step (sc := sc) hz (by omega) l0 i (by omega) m0 (by omega) rec (fun w42 => some ((w42.1, ByteArray.empty), (0 : Int), (0 : Int)))
      rw [this]
      have nl : ¬ (i = 2 * z - 1) := by omega
      unfold badP
      simp only [nl, decide_false, cond_false])
    (r := 2 * z - 1) (i := 0) (k := 1000) (m := 0) (by omega) (by omega) (by omega) (by simp)
  refine Eq.trans key ?_
  unfold decR
  cases hsc : scanB (badP s ln) (half s) (2 * z - 1) 0 0 with
  | inl j => rfl
  | inr m =>
    simp only
    have mb := scanB_bound (N := 2 * z - 1) (fun i hi hbad => by
      simp only [badP, Bool.or_eq_false_iff, decide_eq_false_iff_not] at hbad
      exact ⟨(half_bound s i).1, by omega⟩) (by omega) (by omega) (by simp) hsc
    have p := pow_le16 (i := 0 + (2 * z - 1)) (by omega)
    obtain ⟨k, hk⟩ : ∃ k, 1000 - (2 * z - 1) = k + 1 + 1 := ⟨1000 - (2 * z - 1) - 2, by omega⟩
    rw [hk, iterS]
    have := f51step (sc := sc) hz (by omega) l0 (2 * z - 1) (by omega) mb.1 (by omega) (iterS (fun rec v => f51l4s 1000 rec (fun w41 => some ((w41.2.2.2.1, w41.2.2.2.2.1), w41.1, w41.2.1)) (fun w42 => some ((w42.1, ByteArray.empty), (0 : Int), (0 : Int))) v) (k + 1)) (fun w42 => some ((w42.1, ByteArray.empty), (0 : Int), (0 : Int)))
    rw [this]
    have n0 : ¬ (2 * z - 1 = 0) := by omega
    simp only [decide_true, cond_true, n0, decide_false, Bool.false_and, Bool.or_false]
    by_cases x1 : half s (2 * z - 1) < 10
    · simp [x1]
    · simp only [x1, decide_false, cond_false, if_false]
      rw [iterS]
      unfold f51l4s
      have w1 : IntKind.i64.wrap (2 * (s.size : Int)) = ((2 * z : Nat) : Int) := by rw [hz, wi (by omega) (by omega)]; omega
      have e1 : (decide (((2 * z - 1 + 1 : Nat) : Int) < ((2 * z : Nat) : Int))) = false := by simp; omega
      simp only [w1, e1, cond_false]

theorem dec1 {ln sc : Int} {s : ByteArray} (h0 : 1 ≤ ln) (h1 : ln ≤ 15) (hs : (s.size : Int) = ln / 2 + 1) : ∃ n a e, f46F 1000 ((1, ln, sc), s) = some (n, a, e) ∧ f51F 1000 ((1, ln, sc), s) = some ((n, ByteArray.empty), a, e) := by
  obtain ⟨z, hz⟩ : ∃ z, s.size = z := ⟨_, rfl⟩
  have hz0 : 1 ≤ z := by omega
  have hz1 : z ≤ 8 := by omega
  have hl : ((List.range (2 * z)).map (half s)).length = (2 * z - 1) + 1 := by simp; omega
  have al : ((List.range (2 * z)).map atH).length = (2 * z - 1) + 1 := by simp; omega
  have hg : ∀ i, i < 2 * z → ((List.range (2 * z)).map (half s)).getD i 0 = half s i := fun i hi => by simp [List.getD_eq_getElem?_getD, hi]
  have ag : ∀ i, i < 2 * z → ((List.range (2 * z)).map atH).getD i 0 = atH i := fun i hi => by simp [List.getD_eq_getElem?_getD, hi]
  have hb : ∀ i, 0 ≤ ((List.range (2 * z)).map (half s)).getD i 0 ∧ ((List.range (2 * z)).map (half s)).getD i 0 ≤ 15 := fun i => by
    by_cases hi : i < 2 * z
    · rw [hg i hi]; exact half_bound s i
    · rw [List.getD_eq_getElem?_getD, List.getElem?_eq_none (by simp; omega)]; decide
  have hv := halves1 (ln := ln) (sc := sc) s (by omega)
  rw [hz] at hv
  have A := f46q hv hl al (by omega) (by omega) (by omega) hb
  have B := f51q (ln := ln) (sc := sc) hz hz0 hz1 (by omega)
  have E : decR (badN (fun i => ((List.range (2 * z)).map (half s)).getD i 0) (2 * z - 1) ln) (fun i => ((List.range (2 * z)).map (half s)).getD i 0) (fun i => ((List.range (2 * z)).map atH).getD i 0) (2 * z - 1) = decR (badP s ln) (half s) atH (2 * z - 1) := by
    unfold decR
    have cg : scanB (badN (fun i => ((List.range (2 * z)).map (half s)).getD i 0) (2 * z - 1) ln) (fun i => ((List.range (2 * z)).map (half s)).getD i 0) (2 * z - 1) 0 0 = scanB (badP s ln) (half s) (2 * z - 1) 0 0 := scanB_congr fun j _ hj => by
      refine ⟨?_, hg j (by omega)⟩
      unfold badN badP
      simp only [hg j (by omega)]
      obtain ⟨c0, c1⟩ := half_bound s j
      congr 1
      rw [← Bool.decide_and, ← Bool.decide_and, ← Bool.decide_and, decide_eq_decide]
      omega
    rw [cg]
    cases hsc : scanB (badP s ln) (half s) (2 * z - 1) 0 0 with
    | inl j =>
      have := scanB_lt hsc
      simp only [ag j (by omega)]
    | inr m => simp only [hg (2 * z - 1) (by omega), ag (2 * z - 1) (by omega)]
  rw [E] at A
  exact ⟨_, _, _, A, B⟩

theorem dec2 {ln sc : Int} {s : ByteArray} (h0 : 1 ≤ ln) (h1 : ln ≤ 15) (hs : (s.size : Int) = ln) : ∃ n a e, f46F 1000 ((2, ln, sc), s) = some (n, a, e) ∧ f50F 1000 s = some ((n, ByteArray.empty), a, e) := by
  obtain ⟨L, hL⟩ : ∃ L, s.size = L := ⟨_, rfl⟩
  have hL0 : 1 ≤ L := by omega
  have hL1 : L ≤ 15 := by omega
  obtain ⟨g0, g1⟩ := bytes_get s (L - 1)
  have hl : ((List.range L).map (lowh s) ++ [(bytesOf s).getD (L - 1) 0 / 16]).length = L + 1 := by simp
  have al : ((List.range L).map atZ ++ [((L - 1 : Nat) : Int)]).length = L + 1 := by simp
  have hg : ∀ i, i ≤ L → ((List.range L).map (lowh s) ++ [(bytesOf s).getD (L - 1) 0 / 16]).getD i 0 = if i = L then (bytesOf s).getD (L - 1) 0 / 16 else lowh s i := fun i hi => by
    by_cases h : i = L
    · subst h; rw [if_pos rfl, List.getD_eq_getElem?_getD, List.getElem?_append_right (by simp)]; simp
    · rw [if_neg h, List.getD_eq_getElem?_getD, List.getElem?_append_left (by simp; omega)]; simp [show i < L by omega]
  have ag : ∀ i, i ≤ L → ((List.range L).map atZ ++ [((L - 1 : Nat) : Int)]).getD i 0 = if i = L then ((L - 1 : Nat) : Int) else (i : Int) := fun i hi => by
    by_cases h : i = L
    · subst h; rw [if_pos rfl, List.getD_eq_getElem?_getD, List.getElem?_append_right (by simp)]; simp
    · rw [if_neg h, List.getD_eq_getElem?_getD, List.getElem?_append_left (by simp; omega)]; simp [show i < L by omega, atZ]
  have hb : ∀ i, 0 ≤ ((List.range L).map (lowh s) ++ [(bytesOf s).getD (L - 1) 0 / 16]).getD i 0 ∧ ((List.range L).map (lowh s) ++ [(bytesOf s).getD (L - 1) 0 / 16]).getD i 0 ≤ 15 := fun i => by
    by_cases hi : i ≤ L
    · rw [hg i hi]
      have := bytes_get s i
      unfold lowh
      split <;> omega
    · rw [List.getD_eq_getElem?_getD, List.getElem?_eq_none (by rw [hl]; omega)]; decide
  have hv := halves2 (ln := ln) (sc := sc) s (by omega) (by omega)
  rw [hL] at hv
  have A := f46q hv hl al (by omega) (by omega) (by omega) hb
  have B := f50q hL hL0 (by omega)
  have E : decR (badN (fun i => ((List.range L).map (lowh s) ++ [(bytesOf s).getD (L - 1) 0 / 16]).getD i 0) L ln) (fun i => ((List.range L).map (lowh s) ++ [(bytesOf s).getD (L - 1) 0 / 16]).getD i 0) (fun i => ((List.range L).map atZ ++ [((L - 1 : Nat) : Int)]).getD i 0) L
      = decR (fun i => decide (lowh s i > 9)) (fun i => if i = L then (bytesOf s).getD (L - 1) 0 / 16 else lowh s i) (fun i => if i = L then ((L - 1 : Nat) : Int) else (i : Int)) L := by
    unfold decR
    have cg : scanB (badN (fun i => ((List.range L).map (lowh s) ++ [(bytesOf s).getD (L - 1) 0 / 16]).getD i 0) L ln) (fun i => ((List.range L).map (lowh s) ++ [(bytesOf s).getD (L - 1) 0 / 16]).getD i 0) L 0 0
        = scanB (fun i => decide (lowh s i > 9)) (fun i => if i = L then (bytesOf s).getD (L - 1) 0 / 16 else lowh s i) L 0 0 := scanB_congr fun j _ hj => by
      refine ⟨?_, hg j (by omega)⟩
      unfold badN
      simp only [hg j (by omega)]
      rw [if_neg (by omega)]
      have : ¬ ((j : Int) < (L : Int) - ln) := by omega
      simp [this]
    rw [cg]
    cases hsc : scanB (fun i => decide (lowh s i > 9)) (fun i => if i = L then (bytesOf s).getD (L - 1) 0 / 16 else lowh s i) L 0 0 with
    | inl j =>
      have := scanB_lt hsc
      simp only [ag j (by omega)]
    | inr m => simp only [hg L (by omega), ag L (by omega)]
  rw [E] at A
  exact ⟨_, _, _, A, B⟩
end Go.Proofs.YtobgkcamonlnkaaGreatDoor
set_option linter.unusedVariables false
set_option linter.unusedSimpArgs false
namespace Go.Proofs.YtobgkcamonlnkaaGreatDoor
open Go.Ab

theorem or256 {n c : Int} (n0 : -1099511627776 ≤ n) (n1 : n ≤ 1099511627776) (c0 : 0 ≤ c) (c1 : c ≤ 255) : bits .or .i64 (shlI .i64 n 8) c = n * 256 + c := by
  have hs : shlI .i64 n 8 = n * 256 := by
    unfold shlI
    rw [show min (8 : Int).toNat IntKind.i64.bits = 8 from rfl, show (2 : Int) ^ 8 = 256 from rfl, wi (by omega) (by omega)]
  rw [hs]
  unfold bits
  simp only
  have key : (BitVec.ofInt IntKind.i64.bits (n * 256) ||| BitVec.ofInt IntKind.i64.bits c).toNat = (((n * 256 + c) % 18446744073709551616)).toNat := by
    rw [BitVec.toNat_or]
    have e1 : (BitVec.ofInt IntKind.i64.bits (n * 256)).toNat = ((n % 72057594037927936).toNat) <<< 8 := by
      rw [BitVec.toNat_ofInt, Nat.shiftLeft_eq]
      show ((n * 256) % ((2 ^ 64 : Nat) : Int)).toNat = _
      have : ((2 ^ 64 : Nat) : Int) = 18446744073709551616 := rfl
      rw [this]
      omega
    have e2 : (BitVec.ofInt IntKind.i64.bits c).toNat = c.toNat := by
      rw [BitVec.toNat_ofInt]
      show (c % ((2 ^ 64 : Nat) : Int)).toNat = _
      have : ((2 ^ 64 : Nat) : Int) = 18446744073709551616 := rfl
      rw [this]
      omega
    rw [e1, e2, ← Nat.shiftLeft_add_eq_or_of_lt (by omega), Nat.shiftLeft_eq]
    omega
  rw [key, IntKind.wrap_i64]
  omega

theorem i8w : ∀ b : Fin 256, IntKind.i8.wrap (b.val : Int) = if (b.val : Int) ≥ 128 then (b.val : Int) - 256 else b.val := by decide +kernel
theorem i8w' {b : Int} (h0 : 0 ≤ b) (h1 : b ≤ 255) : IntKind.i8.wrap b = if b ≥ 128 then b - 256 else b := by
  have := i8w ⟨b.toNat, by omega⟩
  simp only at this
  rwa [show ((b.toNat : Nat) : Int) = b by omega] at this

def fold (e : List Int) (n0 : Int) : Nat → Int
  | 0 => n0
  | i + 1 => fold e n0 i * 256 + e.getD i 0
theorem fold_bound {e : List Int} {n0 : Int} (h0 : -128 ≤ n0) (h1 : n0 ≤ 255) (he : ∀ i, 0 ≤ e.getD i 0 ∧ e.getD i 0 ≤ 255) : ∀ i, -(128 * 256 ^ i) ≤ fold e n0 i ∧ fold e n0 i ≤ 256 * 256 ^ i - 1
  | 0 => by simp [fold]; omega
  | i + 1 => by
    have := fold_bound h0 h1 he i
    have := he i
    simp only [fold, Int.pow_succ]
    omega
theorem p256 {i : Nat} (h : i ≤ 4) : (256 : Int) ^ i ≤ 4294967296 := by
  have : i = 0 ∨ i = 1 ∨ i = 2 ∨ i = 3 ∨ i = 4 := by omega
  rcases this with rfl | rfl | rfl | rfl | rfl <;> decide
theorem bytes_tail (s : ByteArray) : bytesOf (s.extract 1 s.size) = (bytesOf s).drop 1 := by
  unfold bytesOf
  rw [← List.map_drop]
  congr 1
  rw [ByteArray.data_extract, Array.toList_extract, List.extract_eq_take_drop]
  exact List.take_of_length_le (by rw [List.length_drop]; exact Nat.le_refl _)

theorem f45q {s : ByteArray} (h0 : 1 ≤ s.size) (h1 : s.size ≤ 4) : f45F 1000 s = some (fold ((bytesOf s).drop 1) (if (bytesOf s).getD 0 0 ≥ 128 then (bytesOf s).getD 0 0 - 256 else (bytesOf s).getD 0 0) (s.size - 1)) := by
  obtain ⟨b0, b1⟩ := bytes_get s 0
  unfold f45F
  have c1 : (decide ((0 : Int) < (s.size : Int))) = true := by simp; omega
  have c2 : sliceBds 1 (s.size : Int) (s.size : Int) = true := by unfold sliceBds; simp; omega
  have hz : ((bytesOf s).drop 1).length = s.size - 1 := by rw [List.length_drop, bytes_len]
  have c3 : (decide ((s.extract 1 s.size).size ≤ 9223372036854775807)) = true := by
    have : (s.extract 1 s.size).size = s.size - 1 := by rw [← bytes_len, bytes_tail, hz]
    simp [this]; omega
  have hb0 : bt s 0 = (bytesOf s).getD 0 0 := bt_get s 0
  simp only [c1, c2, Int.toNat_natCast, c3, cond_true, bytes_tail, hz, hb0, i8w' b0 b1]
  have he : ∀ i, 0 ≤ ((bytesOf s).drop 1).getD i 0 ∧ ((bytesOf s).drop 1).getD i 0 ≤ 255 := fun i => by
    have := bytes_get s (1 + i)
    rw [List.getD_eq_getElem?_getD, List.getElem?_drop]
    rwa [List.getD_eq_getElem?_getD] at this
  have n0 : -128 ≤ (if (bytesOf s).getD 0 0 ≥ 128 then (bytesOf s).getD 0 0 - 256 else (bytesOf s).getD 0 0) ∧ (if (bytesOf s).getD 0 0 ≥ 128 then (bytesOf s).getD 0 0 - 256 else (bytesOf s).getD 0 0) ≤ 255 := by split <;> omega
  rw [wi (by omega) (by omega)]
  unfold f45l0
  have key := iter_for (R := Int) (Step := fun rec v => f45l0s 1000 rec (fun w2 => some w2.1) v) (fun i => (fold ((bytesOf s).drop 1) (if (bytesOf s).getD 0 0 ≥ 128 then (bytesOf s).getD 0 0 - 256 else (bytesOf s).getD 0 0) i, ((s.size - 1 : Nat) : Int), (i : Int), (bytesOf s).drop 1, ())) (s.size - 1)
    (fin := some (fold ((bytesOf s).drop 1) (if (bytesOf s).getD 0 0 ≥ 128 then (bytesOf s).getD 0 0 - 256 else (bytesOf s).getD 0 0) (s.size - 1))) ?_ ?_ (k := 1000) (by omega)
  · exact key
  · intro rec i hi
    have fb := fold_bound n0.1 n0.2 he i
    have p := p256 (i := i) (by omega)
    obtain ⟨c0, c1⟩ := he i
    unfold f45l0s
    have e1 : (decide ((i : Int) < ((s.size - 1 : Nat) : Int))) = true := by simp; omega
    have e0 : (decide ((0 : Int) ≤ (i : Int))) = true := by simp
    have e2 : (decide ((i : Int) < (((bytesOf s).drop 1).length : Int))) = true := by rw [hz]; exact e1
    simp only [e1, e0, e2, Bool.and_self, cond_true, Int.toNat_natCast]
    rw [wi (x := ((bytesOf s).drop 1).getD i 0) (by omega) (by omega), or256 (by omega) (by omega) c0 c1, wi (x := (i : Int) + 1) (by omega) (by omega)]
    rfl
  · intro rec
    unfold f45l0s
    have e1 : (decide (((s.size - 1 : Nat) : Int) < ((s.size - 1 : Nat) : Int))) = false := by simp
    simp only [e1, cond_false]

theorem f47q {s : ByteArray} (h1 : s.size ≤ 4) : f47F 1000 (s, 0, (s.size : Int)) = some (fold (bytesOf s) 0 s.size) := by
  unfold f47F f47l0
  have he : ∀ i, 0 ≤ (bytesOf s).getD i 0 ∧ (bytesOf s).getD i 0 ≤ 255 := bytes_get s
  have key := iter_for (R := Int) (Step := fun rec v => f47l0s 1000 rec (fun w2 => some w2.1) v) (fun i => (s, 0, (s.size : Int), fold (bytesOf s) 0 i, (i : Int), ())) s.size (fin := some (fold (bytesOf s) 0 s.size)) ?_ ?_ (k := 1000) (by omega)
  · exact key
  · intro rec i hi
    have fb := fold_bound (n0 := 0) (by decide) (by decide) he i
    have p := p256 (i := i) (by omega)
    obtain ⟨c0, c1⟩ := he i
    unfold f47l0s
    have e1 : (decide ((i : Int) < (s.size : Int))) = true := by simp; omega
    have e0 : (decide ((0 : Int) ≤ (i : Int))) = true := by simp
    have w0 : IntKind.i64.wrap (0 + (i : Int)) = i := by rw [wi (by omega) (by omega)]; omega
    simp only [e1, w0, e0, Bool.and_self, cond_true, bt_get]
    rw [wi (x := fold (bytesOf s) 0 i * 256) (by omega) (by omega), wi (x := (bytesOf s).getD i 0) (by omega) (by omega), wi (x := fold (bytesOf s) 0 i * 256 + (bytesOf s).getD i 0) (by omega) (by omega), wi (x := (i : Int) + 1) (by omega) (by omega)]
    rfl
  · intro rec
    unfold f47l0s
    have e1 : (decide ((s.size : Int) < (s.size : Int))) = false := by simp
    simp only [e1, cond_false]

def szOf (kd ln : Int) : Int := if kd = 1 then ln / 2 + 1 else if kd = 3 then (if ln = 9 then 4 else 2) else ln
theorem size_q {kd ln sc : Int} (ht : tyErr kd ln sc = 0) (h4 : kd ≠ 4) : f44F 1000 (kd, ln, sc) = some (szOf kd ln) ∧ f31F 1000 (kd, ln, sc) = some (szOf kd ln) := by
  obtain ⟨a1, a2, a3, a4, a5, a6, a7, a8, a9⟩ := ty_ok ht
  have : kd = 0 ∨ kd = 1 ∨ kd = 2 ∨ kd = 3 := by omega
  rcases this with rfl | rfl | rfl | rfl
  · exact ⟨rfl, rfl⟩
  · obtain ⟨l0, l1⟩ := a4 (by omega)
    have w : IntKind.i64.wrap (IntKind.i64.wrap (Int.tdiv ln 2) + 1) = ln / 2 + 1 := by rw [Int.tdiv_eq_ediv_of_nonneg (by omega), wi (x := ln / 2) (by omega) (by omega), wi (by omega) (by omega)]
    constructor
    · show some (IntKind.i64.wrap (IntKind.i64.wrap (Int.tdiv ln 2) + 1)) = _
      rw [w]; rfl
    · show some (IntKind.i64.wrap (IntKind.i64.wrap (Int.tdiv ln 2) + 1)) = _
      rw [w]; rfl
  · exact ⟨rfl, rfl⟩
  · rcases a5 rfl with rfl | rfl <;> exact ⟨rfl, rfl⟩

theorem bin_eq {s : ByteArray} {z : Nat} (hz : s.size = z) (h : z = 2 ∨ z = 4) : fold ((bytesOf s).drop 1) (if (bytesOf s).getD 0 0 ≥ 128 then (bytesOf s).getD 0 0 - 256 else (bytesOf s).getD 0 0) (z - 1) = (if (bytesOf s).getD 0 0 ≥ 128 then fold (bytesOf s) 0 z - 2 ^ (8 * z) else fold (bytesOf s) 0 z) := by
  have hd : ∀ i, ((bytesOf s).drop 1).getD i 0 = (bytesOf s).getD (i + 1) 0 := fun i => by
    rw [List.getD_eq_getElem?_getD, List.getElem?_drop, List.getD_eq_getElem?_getD, Nat.add_comm]
  rcases h with rfl | rfl
  · simp only [fold, hd, Nat.reduceSub, Nat.reduceAdd]
    split <;> omega
  · simp only [fold, hd, Nat.reduceSub, Nat.reduceAdd]
    split <;> omega

theorem dec3 {ln sc : Int} {s : ByteArray} (hl : ln = 4 ∨ ln = 9) (ht : tyErr 3 ln sc = 0) (hs : (s.size : Int) = szOf 3 ln) : ∃ r, f16F 1000 ((3, ln, sc), s) = some r ∧ f17F 1000 ((3, ln, sc), s) = some r := by
  obtain ⟨g44, g31⟩ := size_q ht (by decide)
  obtain ⟨z, hz⟩ : ∃ z, s.size = z := ⟨_, rfl⟩
  have hz24 : z = 2 ∨ z = 4 := by
    unfold szOf at hs
    rcases hl with rfl | rfl
    · simp at hs; omega
    · simp at hs; omega
  have l0 : 1 ≤ ln := by omega
  have l1 : ln ≤ 15 := by omega
  have pb := pw_bound l0 l1
  obtain ⟨b0, b1⟩ := bytes_get s 0
  have F := f45q (s := s) (by omega) (by omega)
  have G := f47q (s := s) (by omega)
  rw [hz, bin_eq hz hz24] at F
  have hb0 : bt s 0 = (bytesOf s).getD 0 0 := bt_get s 0
  let n : Int := if (bytesOf s).getD 0 0 ≥ 128 then fold (bytesOf s) 0 z - 2 ^ (8 * z) else fold (bytesOf s) 0 z
  have fb := fold_bound (n0 := 0) (by decide) (by decide) (bytes_get s) z
  have p := p256 (i := z) (by omega)
  have e18 : ((s.size : Int) != szOf 3 ln) = false := by rw [hs]; simp
  refine ⟨if pw ln - 1 < n ∨ n < -(pw ln - 1) then (((0 : Int), ByteArray.empty), (0 : Int), (19 : Int)) else ((n, ByteArray.empty), 0, 0), ?_, ?_⟩
  · unfold f16F f16p0
    simp only [f28q, ht, f43q, f42q, bind_some', g44, e18, F, f29q]
    have hv : valErr 3 ln sc n ByteArray.empty = if pw ln - 1 < n ∨ n < -(pw ln - 1) then 19 else 0 := by
      unfold valErr
      rw [if_neg (by simp [ht]), if_neg (by decide), if_neg (by decide), strEq_self, if_neg (by decide)]
      split <;> split <;> first | rfl | omega
    have hv' : valErr 3 ln sc (if (bytesOf s).getD 0 0 ≥ 128 then fold (bytesOf s) 0 z - 2 ^ (8 * z) else fold (bytesOf s) 0 z) ByteArray.empty = if pw ln - 1 < n ∨ n < -(pw ln - 1) then 19 else 0 := hv
    rw [hv']
    by_cases hr : pw ln - 1 < n ∨ n < -(pw ln - 1)
    · rw [if_pos hr, if_pos hr]; rfl
    · rw [if_neg hr, if_neg hr]; rfl
  · unfold f17F f17p0
    rw [hz] at G e18
    have e0 : ((3 : Int) == 4) = false := rfl
    have e1 : ((3 : Int) == 0) = false := rfl
    have e2 : ((3 : Int) == 3) = true := rfl
    have c1 : (decide ((0 : Int) < (z : Int))) = true := by simp; omega
    have y0 : ((0 : Int) != 0) = false := rfl
    simp only [f27q, ht, bind_some', y0, e0, e1, e2, g31, cond_false, cond_true, hz, e18, G, c1, hb0, f49q l0 l1, f48q]
    have w8 : IntKind.i64.wrap (8 * (z : Int)) = 8 * (z : Int) := wi (by omega) (by omega)
    have c2 : (decide ((0 : Int) ≤ 8 * (z : Int))) = true := by simp; omega
    have sh : shlI .i64 1 (8 * (z : Int)) = 2 ^ (8 * z) := by rcases hz24 with rfl | rfl <;> rfl
    have pz : (2 : Int) ^ (8 * z) = 256 ^ z := by rcases hz24 with rfl | rfl <;> rfl
    rw [w8, c2, sh]
    simp only [cond_true]
    rw [wi (x := 0 - (pw ln - 1)) (by omega) (by omega)]
    by_cases hb : (bytesOf s).getD 0 0 ≥ 128
    · have hn : n = fold (bytesOf s) 0 z - 2 ^ (8 * z) := if_pos hb
      rw [decide_eq_true hb, wi (x := fold (bytesOf s) 0 z - 2 ^ (8 * z)) (by omega) (by omega), ← hn]
      simp only [cond_true]
      by_cases hr : pw ln - 1 < n ∨ n < -(pw ln - 1)
      · rw [if_pos hr, decide_eq_false (by omega)]; rfl
      · rw [if_neg hr, decide_eq_true (by omega)]; rfl
    · have hn : n = fold (bytesOf s) 0 z := if_neg hb
      rw [decide_eq_false hb, ← hn]
      simp only [cond_false]
      by_cases hr : pw ln - 1 < n ∨ n < -(pw ln - 1)
      · rw [if_pos hr, decide_eq_false (by omega)]; rfl
      · rw [if_neg hr, decide_eq_true (by omega)]; rfl

theorem f16q (kd ln sc : Int) (s : ByteArray) : ∃ r, f16F 1000 ((kd, ln, sc), s) = some r ∧ f17F 1000 ((kd, ln, sc), s) = some r := by
  by_cases ht : tyErr kd ln sc = 0
  · obtain ⟨a1, a2, a3, a4, a5, a6, a7, a8, a9⟩ := ty_ok ht
    by_cases h4 : kd = 4
    · subst h4
      refine ⟨(((0 : Int), ByteArray.empty), (0 : Int), (17 : Int)), ?_, ?_⟩
      · unfold f16F f16p0
        simp only [f28q, ht, f43q, f42q, bind_some']
        rfl
      · unfold f17F
        simp only [f27q, ht, bind_some']
        rfl
    · obtain ⟨g44, g31⟩ := size_q ht h4
      have k4 : (kd == 4) = false := by simpa using h4
      have y0 : ((0 : Int) != 0) = false := rfl
      have z0 : ((0 : Int) == 0) = true := rfl
      have tt : (if false = true then (17 : Int) else 0) = 0 := rfl
      have t0 : (if (0 : Int) = 0 then (0 : Int) else 0) = 0 := rfl
      by_cases hs : (s.size : Int) = szOf kd ln
      · have e18 : ((s.size : Int) != szOf kd ln) = false := by rw [hs]; simp
        have : kd = 0 ∨ kd = 1 ∨ kd = 2 ∨ kd = 3 := by omega
        rcases this with rfl | rfl | rfl | rfl
        · refine ⟨(((0 : Int), s), (0 : Int), (0 : Int)), ?_, ?_⟩
          · unfold f16F f16p0
            simp only [f28q, ht, f43q, f42q, bind_some', k4, tt, t0, z0, cond_true, g44, e18]
            rfl
          · unfold f17F
            simp only [f27q, ht, bind_some', y0, k4, cond_false, g31, e18]
            rfl
        · obtain ⟨l0, l1⟩ := a4 (by omega)
          obtain ⟨n, a, e, A, B⟩ := dec1 (sc := sc) l0 l1 hs
          refine ⟨((n, ByteArray.empty), a, e), ?_, ?_⟩
          · unfold f16F f16p0
            simp only [f28q, ht, f43q, f42q, bind_some', k4, tt, t0, z0, cond_true, g44, e18, A]
            rfl
          · unfold f17F
            simp only [f27q, ht, bind_some', y0, k4, cond_false, g31, e18, B]
            rfl
        · obtain ⟨l0, l1⟩ := a4 (by omega)
          obtain ⟨n, a, e, A, B⟩ := dec2 (sc := sc) l0 l1 hs
          refine ⟨((n, ByteArray.empty), a, e), ?_, ?_⟩
          · unfold f16F f16p0
            simp only [f28q, ht, f43q, f42q, bind_some', k4, tt, t0, z0, cond_true, g44, e18, A]
            rfl
          · unfold f17F
            simp only [f27q, ht, bind_some', y0, k4, cond_false, g31, e18, B]
            rfl
        · exact dec3 (a5 rfl) ht hs
      · have e18 : ((s.size : Int) != szOf kd ln) = true := by simpa using hs
        refine ⟨(((0 : Int), ByteArray.empty), (0 : Int), (18 : Int)), ?_, ?_⟩
        · unfold f16F f16p0
          simp only [f28q, ht, f43q, f42q, bind_some', k4, tt, t0, z0, cond_true, g44, e18]
          rfl
        · unfold f17F
          simp only [f27q, ht, bind_some', y0, k4, cond_false, g31, e18]
          rfl
  · have hn : (tyErr kd ln sc != 0) = true := by simpa using ht
    have hz : (tyErr kd ln sc == 0) = false := by simpa using ht
    refine ⟨(((0 : Int), ByteArray.empty), (0 : Int), tyErr kd ln sc), ?_, ?_⟩
    · unfold f16F f16p0
      simp only [f28q, f43q, f42q, bind_some', if_neg ht, hz, cond_false, hn, cond_true]
    · unfold f17F
      simp only [f27q, bind_some', hn, cond_true]

end Go.Proofs.YtobgkcamonlnkaaGreatDoor
set_option linter.unusedVariables false
set_option linter.unusedSimpArgs false
namespace Go.Ab

def S (l : List UInt8) : ByteArray := ⟨l.toArray⟩
theorem S_list (l : List UInt8) : (S l).data.toList = l := by simp [S]
theorem S_of (s : ByteArray) : S s.data.toList = s := by cases s; simp [S]
theorem S_ext {a b : ByteArray} (h : a.data.toList = b.data.toList) : a = b := by rw [← S_of a, ← S_of b, h]
theorem S_inj {l m : List UInt8} : S l = S m ↔ l = m := ⟨fun h => by rw [← S_list l, ← S_list m, h], fun h => by rw [h]⟩
theorem S_size (l : List UInt8) : (S l).size = l.length := by simp [S, ByteArray.size]
theorem S_app (l m : List UInt8) : S l ++ S m = S (l ++ m) := S_ext (by simp [S_list])
theorem S_cut (l : List UInt8) (i j : Nat) : (S l).extract i j = S ((l.take j).drop i) := S_ext (by
  rw [S_list]
  simp [S, List.extract_eq_take_drop, List.drop_take])
theorem S_nums (xs : List Int) : strOfNums xs = S (xs.map fun n => UInt8.ofNat n.toNat) := rfl
theorem S_bt (l : List UInt8) (i : Nat) (h : i < l.length) : bt (S l) (i : Int) = ((l.getD i 0).toNat : Int) := by
  unfold bt
  rw [dif_pos (by rw [S_size]; simpa using h)]
  simp [S, List.getD_eq_getElem?_getD, h]
  rfl
theorem S_eq (l m : List UInt8) : strEq (S l) (S m) = decide (l = m) := by
  by_cases h : l = m
  · subst h; rw [strEq_self]; simp
  · rw [decide_eq_false h]
    cases e : strEq (S l) (S m) with
    | false => rfl
    | true => exact absurd (S_inj.1 (strEq_iff.1 e)) h
def ints (l : List UInt8) : List Int := l.map fun b => (b.toNat : Int)
theorem ints_app (l m : List UInt8) : ints (l ++ m) = ints l ++ ints m := by simp [ints]
theorem ints_length (l : List UInt8) : (ints l).length = l.length := by simp [ints]
theorem S_bytes (l : List UInt8) : bytesOf (S l) = ints l := by
  unfold bytesOf
  rw [S_list]
  rfl
theorem S_back (l : List UInt8) : strOfNums (ints l) = S l := by
  rw [S_nums]
  unfold ints
  rw [List.map_map]
  congr 1
  conv => rhs; rw [← List.map_id l]
  refine List.map_congr_left fun b _ => ?_
  simp
theorem S_nil : S [] = ByteArray.empty := rfl
theorem byte_rng (b : UInt8) : 0 ≤ (b.toNat : Int) ∧ (b.toNat : Int) ≤ 255 := by
  have := b.toNat_lt
  omega

theorem sliceB {a b n : Nat} (h1 : a ≤ b) (h2 : b ≤ n) : sliceBds (a : Int) (b : Int) (n : Int) = true := by
  unfold sliceBds
  simp
  omega
theorem sliceB0 {b n : Nat} (h2 : b ≤ n) : sliceBds 0 (b : Int) (n : Int) = true := sliceB (a := 0) (by omega) h2

theorem iter_list {α A V R : Type} {Step : (V → Option R) → V → Option R} (l : List α) (mk : Nat → A → V) (g : List α → A → Option R) (P : Nat → A → Prop)
    (hnil : ∀ rec a, P l.length a → Step rec (mk l.length a) = g [] a)
    (hcons : ∀ rec i a x, l[i]? = some x → i < l.length → P i a → (∃ a', P (i + 1) a' ∧ Step rec (mk i a) = rec (mk (i + 1) a') ∧ g (x :: l.drop (i + 1)) a = g (l.drop (i + 1)) a') ∨ Step rec (mk i a) = g (x :: l.drop (i + 1)) a) :
    ∀ {k : Nat}, l.length < k → ∀ a, P 0 a → iterS Step k (mk 0 a) = g l a := by
  have main : ∀ (d i k : Nat), i + d = l.length → d < k → ∀ a, P i a → iterS Step k (mk i a) = g (l.drop i) a := by
    intro d
    induction d with
    | zero =>
      intro i k hi hk a hp
      cases k with
      | zero => omega
      | succ k =>
        have hi : i = l.length := by omega
        subst hi
        show Step (iterS Step k) _ = _
        rw [hnil _ _ hp, List.drop_length]
    | succ d ih =>
      intro i k hi hk a hp
      cases k with
      | zero => omega
      | succ k =>
        show Step (iterS Step k) _ = _
        have hl : i < l.length := by omega
        have hx : l[i]? = some l[i] := List.getElem?_eq_getElem hl
        rw [List.drop_eq_getElem_cons hl]
        rcases hcons (iterS Step k) i a _ hx hl hp with ⟨a', hp', h1, h2⟩ | h
        · rw [h1, h2]
          exact ih (i + 1) k (by omega) (by omega) a' hp'
        · exact h
  intro k hk a hp
  exact main l.length 0 k (by omega) hk a hp

theorem iter_from {α A V R : Type} {Step : (V → Option R) → V → Option R} (l : List α) (mk : Nat → A → V) (g : List α → A → Option R) (P : Nat → A → Prop)
    (hnil : ∀ rec a, P l.length a → Step rec (mk l.length a) = g [] a)
    (hcons : ∀ rec i a x, l[i]? = some x → i < l.length → P i a → (∃ a', P (i + 1) a' ∧ Step rec (mk i a) = rec (mk (i + 1) a') ∧ g (x :: l.drop (i + 1)) a = g (l.drop (i + 1)) a') ∨ Step rec (mk i a) = g (x :: l.drop (i + 1)) a) :
    ∀ {k : Nat}, l.length < k → ∀ i a, i ≤ l.length → P i a → iterS Step k (mk i a) = g (l.drop i) a := by
  have main : ∀ (d i k : Nat), i + d = l.length → d < k → ∀ a, P i a → iterS Step k (mk i a) = g (l.drop i) a := by
    intro d
    induction d with
    | zero =>
      intro i k hi hk a hp
      cases k with
      | zero => omega
      | succ k =>
        have hi : i = l.length := by omega
        subst hi
        show Step (iterS Step k) _ = _
        rw [hnil _ _ hp, List.drop_length]
    | succ d ih =>
      intro i k hi hk a hp
      cases k with
      | zero => omega
      | succ k =>
        show Step (iterS Step k) _ = _
        have hl : i < l.length := by omega
        have hx : l[i]? = some l[i] := List.getElem?_eq_getElem hl
        rw [List.drop_eq_getElem_cons hl]
        rcases hcons (iterS Step k) i a _ hx hl hp with ⟨a', hp', h1, h2⟩ | h
        · rw [h1, h2]
          exact ih (i + 1) k (by omega) (by omega) a' hp'
        · exact h
  intro k hk i a hi hp
  exact main (l.length - i) i k (by omega) (by omega) a hp
theorem iterS_1000 {V R : Type} (Step : (V → Option R) → V → Option R) (v : V) : iterS Step 1000 v = Step (iterS Step 999) v := rfl

theorem iter_up {A V R : Type} {Step : (V → Option R) → V → Option R} (n : Nat) (mk : Nat → A → V) (g : Nat → A → Option R) (P : Nat → A → Prop)
    (hnil : ∀ rec a, P n a → Step rec (mk n a) = g n a)
    (hcons : ∀ rec i a, i < n → P i a → (∃ a', P (i + 1) a' ∧ Step rec (mk i a) = rec (mk (i + 1) a') ∧ g i a = g (i + 1) a') ∨ Step rec (mk i a) = g i a) :
    ∀ {k : Nat}, n < k → ∀ a, P 0 a → iterS Step k (mk 0 a) = g 0 a := by
  have main : ∀ (d i k : Nat), i + d = n → d < k → ∀ a, P i a → iterS Step k (mk i a) = g i a := by
    intro d
    induction d with
    | zero =>
      intro i k hi hk a hp
      cases k with
      | zero => omega
      | succ k =>
        have hi : i = n := by omega
        subst hi
        exact hnil _ _ hp
    | succ d ih =>
      intro i k hi hk a hp
      cases k with
      | zero => omega
      | succ k =>
        show Step (iterS Step k) _ = _
        rcases hcons (iterS Step k) i a (by omega) hp with ⟨a', hp', h1, h2⟩ | h
        · rw [h1, h2]
          exact ih (i + 1) k (by omega) (by omega) a' hp'
        · exact h
  intro k hk a hp
  exact main n 0 k (by omega) hk a hp

theorem getD_of {α : Type} {l : List α} {i : Nat} {x d : α} (h : l[i]? = some x) : l.getD i d = x := by
  rw [List.getD_eq_getElem?_getD, h]; rfl
theorem inb {i n : Nat} (h : i < n) : ((decide ((0 : Int) ≤ (i : Int))) && (decide ((i : Int) < (n : Int)))) = true := by
  simp
  omega
theorem ltn {i n : Nat} (h : i < n) : decide ((i : Int) < (n : Int)) = true := by simp; omega
theorem ltn_self {n : Nat} : decide ((n : Int) < (n : Int)) = false := by simp
theorem wi_succ {i : Nat} (h : i < 9223372036854775807) : IntKind.i64.wrap ((i : Int) + 1) = ((i + 1 : Nat) : Int) := by
  rw [wi (by omega) (by omega)]
  omega

def nmA (c : Int) : Bool := (decide (65 ≤ c) && decide (c ≤ 90)) || (c == 35 || (c == 36 || c == 64))
def nmB (c : Int) : Bool := nmA c || ((decide (48 ≤ c) && decide (c ≤ 57)) || (c == 95 || c == 46))
def nmL : Bool → List Int → Bool
  | _, [] => true
  | f, c :: l => (bif f then nmA c else nmB c) && nmL false l
def isNm (s : ByteArray) : Bool := decide (1 ≤ s.size ∧ s.size ≤ 10) && nmL true (bytesOf s)
end Go.Ab
set_option linter.unusedVariables false
set_option linter.unusedSimpArgs false
namespace Go.Proofs.YtobgkcamonlnkaaGreatDoor
open Go.Ab

set_option maxHeartbeats 1000000 in
theorem f606p0q {R : Type} (k : Nat) (k0 : Int × Int × List Int × Unit → Option R) (k1 : Bool × Int × Int × List Int × Unit → Option R) (n : Int) (i : Nat) (l : List Int) (x : Int) (hx : l[i]? = some x) :
    f606p0 k k0 k1 (n, (i : Int), l, ()) = bif (bif i == 0 then nmA x else nmB x) then k0 (n, (i : Int), l, ()) else k1 (false, n, (i : Int), l, ()) := by
  have hi : i < l.length := (List.getElem?_eq_some_iff.1 hx).1
  unfold f606p0
  simp only [inb hi, cond_true, Int.toNat_natCast, getD_of hx]
  have e0 : ((i : Int) == 0) = (i == 0) := by rw [Bool.eq_iff_iff]; simp
  simp only [e0]
  unfold nmB nmA
  generalize hz : (i == 0) = z
  clear e0 hx
  cases z
  all_goals
    simp only [cond_eq_ite, Bool.or_eq_true, Bool.and_eq_true, decide_eq_true_eq, beq_iff_eq, Bool.not_eq_true', beq_eq_false_iff_ne, ne_eq, Bool.false_eq_true, if_false, if_true]
    repeat' split
    all_goals first | rfl | (exfalso; omega)

theorem f606q (k : Nat) (hk : 11 < k) (s : ByteArray) : f606F k s = some (isNm s) := by
  obtain ⟨l, rfl⟩ : ∃ l, s = S l := ⟨_, (S_of s).symm⟩
  unfold f606F isNm
  rw [S_size, ← S_nil, S_eq, S_bytes]
  by_cases h0 : l = []
  · subst h0; rfl
  have h1 : 1 ≤ l.length := by
    cases l with
    | nil => exact absurd rfl h0
    | cons => simp
  rw [decide_eq_false h0, cond_false]
  by_cases h10 : l.length ≤ 10
  · rw [show decide ((l.length : Int) > 10) = false by simp; omega, cond_false, show decide (l.length ≤ 9223372036854775807) = true by simp; omega, cond_true, show decide (1 ≤ l.length ∧ l.length ≤ 10) = true by simp; omega, Bool.true_and]
    unfold f606l1
    refine (iter_list (R := Bool) (A := Bool) (Step := fun rec v => f606l1s k rec (fun w => some w.1) (fun _ => some true) v) (ints l) (fun i _ => (((ints l).length : Int), (i : Int), ints l, ())) (fun m f => some (nmL f m)) (fun i a => a = (i == 0)) ?_ ?_ (by rw [ints_length]; omega) true rfl)
    · intro rec a _
      unfold f606l1s
      simp [nmL]
    · intro rec i a x hx hi ha
      subst ha
      unfold f606l1s
      simp only [ltn hi, cond_true, f606p0q k _ _ _ i _ x hx]
      simp only [nmL]
      cases hc : (bif i == 0 then nmA x else nmB x) with
      | true =>
        refine .inl ⟨false, by simp, ?_, ?_⟩
        · simp only [cond_true]
          rw [ints_length] at hi
          rw [wi_succ (by omega)]
        · simp
      | false => exact .inr (by simp)
  · rw [show decide ((l.length : Int) > 10) = true by simp; omega, cond_true, show decide (1 ≤ l.length ∧ l.length ≤ 10) = false by simp; omega]
    rfl

theorem idx3 (b : UInt8) : decide (Lib.indexByte [36, 35, 64] b ≥ 0) = (b == 36 || (b == 35 || b == 64)) := by
  unfold Lib.indexByte Lib.indexByte Lib.indexByte Lib.indexByte
  by_cases h1 : b = 36
  · subst h1; rfl
  by_cases h2 : b = 35
  · subst h2; rfl
  by_cases h3 : b = 64
  · subst h3; rfl
  have e1 : ((36 : UInt8) == b) = false := by simpa using fun e => h1 e.symm
  have e2 : ((35 : UInt8) == b) = false := by simpa using fun e => h2 e.symm
  have e3 : ((64 : UInt8) == b) = false := by simpa using fun e => h3 e.symm
  simp [e1, e2, e3, h1, h2, h3]
theorem u8_int (b : UInt8) (n : Nat) (hn : n < 256) : (b == UInt8.ofNat n) = ((b.toNat : Int) == (n : Int)) := by
  rw [Bool.eq_iff_iff]
  simp only [beq_iff_eq]
  constructor
  · rintro rfl
    rw [UInt8.toNat_ofNat']
    congr 1
    omega
  · intro h
    apply UInt8.toNat_inj.1
    rw [UInt8.toNat_ofNat']
    omega
theorem f636s (k : Nat) (b : UInt8) : f636F k ((⟨#[36, 35, 64]⟩ : ByteArray), (b.toNat : Int)) = some (Lib.indexByte [36, 35, 64] b) := by
  unfold f636F
  simp
theorem inS {i : Nat} {l : List UInt8} (h : i < l.length) : ((decide ((0 : Int) ≤ (i : Int))) && (decide ((i : Int) < ((S l).size : Int)))) = true := by
  rw [S_size]; exact inb h

set_option maxHeartbeats 1000000 in
theorem f602p0q {R : Type} (k : Nat) (k0 : ByteArray × Int × Int × Unit → Option R) (k1 : ByteArray × Bool × Int × Int × Unit → Option R) (n : Int) (i : Nat) (l : List UInt8) (hi : i < l.length) :
    f602p0 k k0 k1 (S l, n, (i : Int), ()) = bif (bif i == 0 then nmA ((l.getD i 0).toNat : Int) else nmB ((l.getD i 0).toNat : Int)) then k0 (S l, n, (i : Int), ()) else k1 (S l, false, n, (i : Int), ()) := by
  unfold f602p0
  simp only [inS hi, cond_true, S_bt l i hi, f636s, bind_some', idx3]
  have e0 : ((i : Int) == 0) = (i == 0) := by rw [Bool.eq_iff_iff]; simp
  simp only [e0]
  generalize l.getD i 0 = b
  have r36 := u8_int b 36 (by omega)
  have r35 := u8_int b 35 (by omega)
  have r64 := u8_int b 64 (by omega)
  rw [show UInt8.ofNat 36 = 36 from rfl, show ((36 : Nat) : Int) = 36 from rfl] at r36
  rw [show UInt8.ofNat 35 = 35 from rfl, show ((35 : Nat) : Int) = 35 from rfl] at r35
  rw [show UInt8.ofNat 64 = 64 from rfl, show ((64 : Nat) : Int) = 64 from rfl] at r64
  rw [r36, r35, r64]
  generalize hx : (b.toNat : Int) = x
  unfold nmB nmA
  generalize hz : (i == 0) = z
  clear e0 hi r36 r35 r64 hx
  cases z
  all_goals
    simp only [cond_eq_ite, Bool.or_eq_true, Bool.and_eq_true, decide_eq_true_eq, beq_iff_eq, Bool.not_eq_true', beq_eq_false_iff_ne, ne_eq, Bool.false_eq_true, if_false, if_true, bne_iff_ne, Bool.or_eq_false_iff]
    repeat' split
    all_goals first | rfl | (exfalso; omega)

theorem f602q (k : Nat) (hk : 11 < k) (s : ByteArray) : f602F k s = some (isNm s) := by
  obtain ⟨l, rfl⟩ : ∃ l, s = S l := ⟨_, (S_of s).symm⟩
  unfold f602F isNm
  rw [S_size, ← S_nil, S_eq, S_bytes]
  by_cases h0 : l = []
  · subst h0; rfl
  have h1 : 1 ≤ l.length := by
    cases l with
    | nil => exact absurd rfl h0
    | cons => simp
  rw [decide_eq_false h0, cond_false]
  by_cases h10 : l.length ≤ 10
  · rw [show decide ((l.length : Int) > 10) = false by simp; omega, cond_false, show decide (1 ≤ l.length ∧ l.length ≤ 10) = true by simp; omega, Bool.true_and]
    unfold f602l1
    refine (iter_list (R := Bool) (A := Bool) (Step := fun rec v => f602l1s k rec (fun w => some w.1) (fun _ => some true) v) l (fun i _ => (S l, (l.length : Int), (i : Int), ())) (fun m f => some (nmL f (ints m))) (fun i a => a = (i == 0)) ?_ ?_ (by omega) true rfl)
    · intro rec a _
      unfold f602l1s
      simp [nmL, ints]
    · intro rec i a x hx hi ha
      subst ha
      unfold f602l1s
      have hg : l.getD i 0 = x := getD_of hx
      simp only [ltn hi, cond_true, f602p0q k _ _ _ i _ hi, hg]
      simp only [nmL, ints, List.map_cons]
      cases hc : (bif i == 0 then nmA (x.toNat : Int) else nmB (x.toNat : Int)) with
      | true =>
        refine .inl ⟨false, by simp, ?_, ?_⟩
        · simp only [cond_true]
          rw [wi_succ (by omega)]
        · simp
      | false => exact .inr (by simp)
  · rw [show decide ((l.length : Int) > 10) = true by simp; omega, cond_true, show decide (1 ≤ l.length ∧ l.length ≤ 10) = false by simp; omega]
    rfl

end Go.Proofs.YtobgkcamonlnkaaGreatDoor
set_option linter.unusedVariables false
set_option linter.unusedSimpArgs false
namespace Go.Proofs.YtobgkcamonlnkaaGreatDoor
open Go.Ab

abbrev Fld := ByteArray × (Int × (Int × Int))
abbrev Fmt := ByteArray × List Fld
abbrev Key := ByteArray × Bool
abbrev Fil := ByteArray × (Fmt × (List Key × Bool))
abbrev Rcd := Bool × ByteArray
abbrev Tbl := Fil × List Rcd

theorem nn (i : Nat) : decide ((0 : Int) ≤ (i : Int)) = true := by simp
theorem bne0 {x : Int} (h : x ≠ 0) : (x != 0) = true := by simpa using h
theorem len_gt {n m : Nat} (h : n > m) : decide ((n : Int) > (m : Int)) = true := by simp; omega
theorem len_ngt {n m : Nat} (h : ¬ n > m) : decide ((n : Int) > (m : Int)) = false := by simp; omega
def fst0 : List Int → Int
  | [] => 0
  | x :: l => if x ≠ 0 then x else fst0 l
theorem f592q (l : List Int) (hl : l.length < 1000) : f592F 1000 l = some (fst0 l) := by
  unfold f592F f592l0
  refine iter_list (k := 1000) (R := Int) (A := Unit) l (fun i _ => (l, (l.length : Int), (i : Int), ())) (fun m _ => some (fst0 m)) (fun _ _ => True) ?_ ?_ hl () trivial
  · intro rec a _
    unfold f592l0s
    simp [fst0]
  · intro rec i a x hx hi _
    unfold f592l0s
    simp only [ltn hi, nn, Bool.and_self, cond_true, Int.toNat_natCast, getD_of hx, wi_succ (i := i) (by omega)]
    by_cases h : x = 0
    · exact .inl ⟨(), trivial, by simp [h], by simp [fst0, h]⟩
    · exact .inr (by rw [bif_true (bne0 h)]; simp [fst0, h])
theorem f594q (k : Nat) (b : Bool) (e : Int) : f594F k (b, e) = some (if b = true then e else 0) := by
  unfold f594F
  cases b <;> rfl
def wd (t : Int × Int × Int) : Int := if tyErr t.1 t.2.1 t.2.2 ≠ 0 then 0 else if t.1 = 4 then 16 else szOf t.1 t.2.1
theorem wd_rng (t : Int × Int × Int) : 0 ≤ wd t ∧ wd t ≤ 256 := by
  unfold wd
  split
  · omega
  · rename_i ht
    simp only [ne_eq, Decidable.not_not] at ht
    obtain ⟨a1, a2, a3, a4, a5, a6, a7, a8, a9⟩ := ty_ok ht
    split
    · omega
    · unfold szOf
      repeat' split
      all_goals omega
theorem f24w (kd ln sc : Int) : f24F 1000 (kd, (ln, sc)) = some (wd (kd, ln, sc), tyErr kd ln sc) := by
  unfold f24F wd
  simp only [f28q, bind_some']
  by_cases ht : tyErr kd ln sc = 0
  · rw [bif_false (by simpa using ht)]
    by_cases h4 : kd = 4
    · subst h4
      obtain ⟨a1, a2, a3, a4, a5, a6, a7, a8, a9⟩ := ty_ok ht
      simp only [ht, ne_eq, not_true_eq_false, if_false, if_true]
      rfl
    · obtain ⟨g44, g31⟩ := size_q ht h4
      simp only [g44, ht, ne_eq, not_true_eq_false, if_false, h4, bind_some']
  · rw [bif_true (by simpa using ht)]
    simp only [ne_eq, ht, not_false_eq_true, if_true]
theorem f640q (x : Fld) : f640F 1000 (x.1, (x.2.1, (x.2.2.1, x.2.2.2))) = some (wd x.2) := by
  unfold f640F
  rw [f24w]
  rfl
def sumW : List Fld → Int
  | [] => 0
  | x :: l => wd x.2 + sumW l
theorem sumW_app (l m : List Fld) : sumW (l ++ m) = sumW l + sumW m := by
  induction l with
  | nil => simp [sumW]
  | cons x l ih => simp [sumW, ih]; omega
theorem sumW_rng (l : List Fld) : 0 ≤ sumW l ∧ sumW l ≤ 256 * l.length := by
  induction l with
  | nil => simp [sumW]
  | cons x l ih =>
    have := wd_rng x.2
    simp only [sumW, List.length_cons]
    omega
theorem take_succ' {α : Type} {l : List α} {i : Nat} {x : α} (h : l[i]? = some x) : l.take (i + 1) = l.take i ++ [x] := by
  rw [List.take_add_one, h]
  rfl

def atG (name : ByteArray) : List Fld → Nat × Int → Int × Int × Bool
  | [], _ => (0, 0, false)
  | x :: l, a => if strEq x.1 name = true then ((a.1 : Int), a.2, true) else atG name l (a.1 + 1, a.2 + wd x.2)
theorem atG_any (name : ByteArray) : ∀ (l : List Fld) (a : Nat × Int), (atG name l a).2.2 = l.any fun x => strEq x.1 name
  | [], _ => rfl
  | x :: l, a => by
    unfold atG
    by_cases h : strEq x.1 name = true
    · rw [if_pos h]; simp [h]
    · rw [if_neg h, atG_any]; simp [h]
theorem f608q (nm name : ByteArray) (fs : List Fld) (hl : fs.length ≤ 900) : f608F 1000 ((nm, fs), name) = some (atG name fs (0, 0)) := by
  unfold f608F f608l0
  refine iter_list (k := 1000) (R := Int × Int × Bool) (A := Nat × Int) fs (fun i a => (name, a.2, fs, (fs.length : Int), (i : Int), ())) (fun m a => some (atG name m a)) (fun i a => a.1 = i ∧ 0 ≤ a.2 ∧ a.2 ≤ 256 * i) ?_ ?_ (by omega) (0, 0) (by simp)
  · intro rec a _
    unfold f608l0s
    simp [atG]
  · intro rec i a x hx hi hp
    obtain ⟨p1, p2, p3⟩ := hp
    unfold f608l0s
    have hw := wd_rng x.2
    simp only [ltn hi, nn, Bool.and_self, cond_true, Int.toNat_natCast, getD_of hx, wi_succ (i := i) (by omega), f640q, bind_some']
    rw [wi (x := a.2 + wd x.2) (by omega) (by omega)]
    by_cases h : strEq x.1 name = true
    · exact .inr (by simp [atG, h, p1])
    · have h' : strEq x.1 name = false := by simpa using h
      exact .inl ⟨(a.1 + 1, a.2 + wd x.2), ⟨by omega, by simp only; omega, by simp only; omega⟩, by simp [h'], by simp [atG, h']⟩

def idxN {α : Type} (p : α → Bool) : List α → Nat → Int
  | [], _ => -1
  | x :: l, i => if p x = true then (i : Int) else idxN p l (i + 1)
theorem idxN_lt {α : Type} (p : α → Bool) : ∀ (l : List α) (i j : Nat) (x : α), l[j]? = some x → p x = true → decide (idxN p l i < ((i + j : Nat) : Int)) = (l.take j).any p
  | [], _, _, _, h, _ => by simp at h
  | y :: l, i, 0, x, h, hp => by
    simp at h
    subst h
    unfold idxN
    rw [if_pos hp]
    simp
  | y :: l, i, j + 1, x, h, hp => by
    unfold idxN
    by_cases hy : p y = true
    · rw [if_pos hy]
      simp [hy]
      omega
    · rw [if_neg hy, show i + (j + 1) = (i + 1) + j by omega, idxN_lt p l (i + 1) j x (by simpa using h) hp]
      simp [hy]
def fldE (pre : List Fld) (x : Fld) : Int :=
  fst0 [if (!isNm x.1) = true then 7 else 0, if (pre.any fun y => strEq y.1 x.1) = true then 13 else 0, tyErr x.2.1 x.2.2.1 x.2.2.2, if (x.2.1 == 4) = true then 17 else 0]
def runF (fs : List Fld) : List Fld → Nat → Int × Int
  | [], _ => (0, if sumW fs > 200 then 18 else 0)
  | x :: l, i => if fldE (fs.take i) x ≠ 0 then ((i : Int), fldE (fs.take i) x) else runF fs l (i + 1)
def chkFmt (f : Fmt) : Int × Int :=
  if isNm f.1 = false then (0, 7) else if f.2.length = 0 then (0, 1) else if f.2.length > 20 then (0, 2) else runF f.2 f.2 0

theorem dropZ {α : Type} (l : List α) : l.drop 0 = l := rfl
set_option maxRecDepth 4000 in
theorem f639q (f : Fmt) : f639F 1000 f = some (chkFmt f) := by
  obtain ⟨nm, fs⟩ := f
  unfold f639F chkFmt
  simp only [f606q 1000 (by omega), f594q, bind_some']
  rw [f592q _ (by simp)]
  simp only [bind_some']
  cases hn : isNm nm with
  | false => rfl
  | true =>
    simp only [Bool.not_true, Bool.false_eq_true, if_false, Bool.true_eq_false]
    by_cases h0 : fs.length = 0
    · rw [if_pos h0, h0]; rfl
    rw [if_neg h0]
    have e0 : ((fs.length : Int) == 0) = false := by simpa using h0
    by_cases h20 : fs.length > 20
    · rw [if_pos h20, e0, show decide ((fs.length : Int) > 20) = true from len_gt h20]; rfl
    · rw [if_neg h20, e0, show decide ((fs.length : Int) > 20) = false from len_ngt h20]
      have z : fst0 [0, if false = true then 1 else 0, if false = true then 2 else 0] = 0 := rfl
      rw [z]
      simp only [bne_self_eq_false, cond_false]
      unfold f639l0
      refine iter_list (k := 1000) (R := Int × Int) (A := Nat × Int) fs (fun i a => (a.2, fs, (fs.length : Int), (i : Int), nm, fs, ())) (fun m a => some (runF fs m a.1)) (fun i a => a.1 = i ∧ a.2 = sumW (fs.take i)) ?_ ?_ (by omega) (0, 0) (by simp [sumW])
      · intro rec a hp
        obtain ⟨p1, p2⟩ := hp
        rw [List.take_length] at p2
        unfold f639l0s
        simp only [ltn_self, cond_false, f594q, bind_some', runF, p2]
        simp
      · intro rec i a x hx hi hp
        obtain ⟨p1, p2⟩ := hp
        unfold f639l0s
        have hw := wd_rng x.2
        have hs := sumW_rng (fs.take i)
        have hlt : (fs.take i).length ≤ 20 := by simp; omega
        simp only [ltn hi, nn, Bool.and_self, cond_true, Int.toNat_natCast, getD_of hx, wi_succ (i := i) (by omega), sliceB0 (Nat.le_of_lt hi), dropZ, f640q, f606q 1000 (by omega), f594q, f28q, bind_some', f608q ByteArray.empty x.1 (fs.take i) (by omega), atG_any]
        rw [f592q _ (by simp)]
        simp only [bind_some']
        rw [show fst0 [if (!isNm x.1) = true then 7 else 0, if (List.any (fs.take i) fun y => strEq y.1 x.1) = true then 13 else 0, tyErr x.2.1 x.2.2.1 x.2.2.2, if (x.2.1 == 4) = true then 17 else 0] = fldE (fs.take i) x from rfl]
        rw [wi (x := a.2 + wd x.2) (by omega) (by omega)]
        by_cases he : fldE (fs.take i) x = 0
        · refine .inl ⟨(a.1 + 1, a.2 + wd x.2), ⟨by omega, ?_⟩, by rw [bif_false (by rw [he]; rfl)], ?_⟩
          · rw [take_succ' hx, sumW_app, p2]
            simp [sumW]
          · simp only [runF, p1]
            rw [if_neg (by simpa using he)]
        · refine .inr ?_
          simp only [runF, p1]
          rw [if_pos he, bif_true (bne0 he)]
theorem f607q (f : Fmt) : f607F 1000 f = some (chkFmt f).2 := by
  unfold f607F
  rw [show ((f.1, f.2) : Fmt) = f from rfl, f639q]
  rfl

end Go.Proofs.YtobgkcamonlnkaaGreatDoor
set_option linter.unusedVariables false
set_option linter.unusedSimpArgs false
namespace Go.Proofs.YtobgkcamonlnkaaGreatDoor
open Go.Ab

theorem beq_ba (a b : ByteArray) : (a == b) = decide (a = b) := by
  rw [Bool.eq_iff_iff, decide_eq_true_eq]
  obtain ⟨x⟩ := a
  obtain ⟨y⟩ := b
  show (x == y) = true ↔ _
  simp
theorem smap_put (k : ByteArray) (b : Bool) (k' : ByteArray) : ∀ m, smapGet (smapPut m k b) k' = (bif k' == k then b else smapGet m k')
  | [] => by simp [smapPut, smapGet]
  | p :: m => by
    unfold smapPut
    simp only [beq_ba]
    by_cases h : k = p.1
    · subst h
      rw [bif_true (by simp)]
      unfold smapGet
      simp only [beq_ba]
      by_cases h2 : k' = p.1 <;> simp [h2]
    · rw [bif_false (by simpa using h)]
      unfold smapGet
      rw [smap_put k b k' m]
      simp only [beq_ba]
      by_cases h2 : k' = p.1
      · subst h2
        have : ¬ p.1 = k := fun e => h e.symm
        simp [this]
      · simp [h2]
theorem beq_str (a b : ByteArray) : (a == b) = strEq b a := by
  rw [Bool.eq_iff_iff, strEq_iff, beq_ba, decide_eq_true_eq]
  exact eq_comm

def kE (fs : List Fld) (pre : List Key) (x : Key) : Int :=
  fst0 [if (!(fs.any fun y => strEq y.1 x.1)) = true then 11 else 0, if (pre.any fun y => strEq y.1 x.1) = true then 13 else 0]
def runK (fs : List Fld) (ks : List Key) : List Key → Nat → Int × Int
  | [], _ => (0, 0)
  | x :: l, i => if kE fs (ks.take i) x ≠ 0 then ((i : Int), kE fs (ks.take i) x) else runK fs ks l (i + 1)
def chkFile (f : Fil) : Int × Int :=
  if isNm f.1 = false then (0, 7) else if (chkFmt f.2.1).2 ≠ 0 then (0, (chkFmt f.2.1).2) else if f.2.2.1.length > 4 then (0, 2) else runK f.2.1.2 f.2.2.1 f.2.2.1 0

theorem fmt_few {f : Fmt} (h : (chkFmt f).2 = 0) : isNm f.1 = true ∧ 1 ≤ f.2.length ∧ f.2.length ≤ 20 := by
  unfold chkFmt at h
  split at h
  · simp at h
  · split at h
    · simp at h
    · split at h
      · simp at h
      · rename_i h1 h2 h3
        exact ⟨by simpa using h1, by omega, by omega⟩

theorem f569q (f : Fil) : f569F 1000 f = some (chkFile f) := by
  obtain ⟨fn, ⟨nm, fs⟩, ks, u⟩ := f
  unfold f569F chkFile
  simp only [f606q 1000 (by omega), f594q, f607q, bind_some']
  rw [f592q _ (by simp)]
  simp only [bind_some']
  cases hn : isNm fn with
  | false => rfl
  | true =>
    simp only [Bool.not_true, Bool.false_eq_true, if_false, Bool.true_eq_false]
    by_cases hf : (chkFmt (nm, fs)).2 = 0
    · obtain ⟨_, _, h20⟩ := fmt_few hf
      rw [if_neg (c := (chkFmt (nm, fs)).2 ≠ 0) (fun h => h hf), hf]
      by_cases h4 : ks.length > 4
      · rw [if_pos h4, show decide ((ks.length : Int) > 4) = true from len_gt h4]
        rfl
      · rw [if_neg h4, show decide ((ks.length : Int) > 4) = false from len_ngt h4]
        have z : fst0 [0, 0, if false = true then 2 else 0] = 0 := rfl
        rw [z]
        simp only [bne_self_eq_false, cond_false]
        unfold f569l0
        refine iter_list (k := 1000) (R := Int × Int) (A := Nat × List (ByteArray × Bool)) ks (fun i a => (ks, (ks.length : Int), (i : Int), fn, nm, fs, ks, u, a.2, ())) (fun m a => some (runK fs ks m a.1)) (fun i a => a.1 = i ∧ ∀ k, smapGet a.2 k = (ks.take i).any fun y => strEq y.1 k) ?_ ?_ (by omega) (0, []) (by simp [smapGet])
        · intro rec a _
          unfold f569l0s
          simp [runK]
        · intro rec i a x hx hi hp
          obtain ⟨p1, p2⟩ := hp
          unfold f569l0s
          simp only [ltn hi, nn, Bool.and_self, cond_true, Int.toNat_natCast, getD_of hx, wi_succ (i := i) (by omega), f608q nm x.1 fs (by simp only at h20; omega), atG_any, f594q, bind_some', p2]
          rw [f592q _ (by simp)]
          simp only [bind_some']
          rw [show fst0 [if (!fs.any fun y => strEq y.1 x.1) = true then 11 else 0, if ((ks.take i).any fun y => strEq y.1 x.1) = true then 13 else 0] = kE fs (ks.take i) x from rfl]
          by_cases he : kE fs (ks.take i) x = 0
          · refine .inl ⟨(a.1 + 1, smapPut a.2 x.1 true), ⟨by omega, fun k => ?_⟩, by rw [bif_false (by rw [he]; rfl)], ?_⟩
            · simp only [smap_put, take_succ' hx, List.any_append, p2, List.any_cons, List.any_nil, Bool.or_false, beq_str]
              cases strEq x.1 k <;> simp
            · simp only [runK, p1]
              rw [if_neg (by simpa using he)]
          · refine .inr ?_
            simp only [runK, p1]
            rw [if_pos he, bif_true (bne0 he)]
    · rw [if_pos hf]
      have e : fst0 [0, (chkFmt (nm, fs)).2, if decide ((ks.length : Int) > 4) = true then 2 else 0] = (chkFmt (nm, fs)).2 := by
        simp [fst0, hf]
      rw [e, bif_true (bne0 hf)]
theorem f593q (f : Fil) : f593F 1000 f = some (chkFile f).2 := by
  unfold f593F
  rw [show ((f.1, ((f.2.1.1, f.2.1.2), (f.2.2.1, f.2.2.2))) : Fil) = f from rfl, f569q]
  rfl

end Go.Proofs.YtobgkcamonlnkaaGreatDoor
set_option linter.unusedVariables false
set_option linter.unusedSimpArgs false
namespace Go.Proofs.YtobgkcamonlnkaaGreatDoor
open Go.Ab

noncomputable def dec (t : Int × Int × Int) (s : ByteArray) : (Int × ByteArray) × Int × Int := (f16F 1000 (t, s)).getD ((0, ByteArray.empty), 0, 0)
theorem f16d (t : Int × Int × Int) (s : ByteArray) : f16F 1000 (t, s) = some (dec t s) := by
  obtain ⟨r, h, _⟩ := f16q t.1 t.2.1 t.2.2 s
  have h : f16F 1000 (t, s) = some r := h
  unfold dec
  rw [h]; rfl
theorem runF_ok (fs : List Fld) : ∀ (l : List Fld) (i : Nat), (runF fs l i).2 = 0 → (∀ j x, l[j]? = some x → fldE (fs.take (i + j)) x = 0) ∧ sumW fs ≤ 200
  | [], i, h => by
    unfold runF at h
    refine ⟨fun j x hx => by simp at hx, ?_⟩
    by_cases h2 : sumW fs > 200
    · simp [h2] at h
    · omega
  | x :: l, i, h => by
    unfold runF at h
    by_cases he : fldE (fs.take i) x = 0
    · rw [if_neg (fun c => c he)] at h
      obtain ⟨h1, h2⟩ := runF_ok fs l (i + 1) h
      refine ⟨fun j y hy => ?_, h2⟩
      cases j with
      | zero =>
        simp at hy
        subst hy
        exact he
      | succ j =>
        have := h1 j y (by simpa using hy)
        rwa [show i + 1 + j = i + (j + 1) by omega] at this
    · rw [if_pos he] at h
      exact absurd h he
theorem fldE_ok {pre : List Fld} {x : Fld} (h : fldE pre x = 0) : isNm x.1 = true ∧ (pre.any fun y => strEq y.1 x.1) = false ∧ tyErr x.2.1 x.2.2.1 x.2.2.2 = 0 ∧ x.2.1 ≠ 4 := by
  unfold fldE at h
  cases h1 : isNm x.1 with
  | false => rw [h1] at h; simp [fst0] at h
  | true =>
    rw [h1] at h
    cases h2 : (pre.any fun y => strEq y.1 x.1) with
    | true => rw [h2] at h; simp [fst0] at h
    | false =>
      rw [h2] at h
      by_cases h3 : tyErr x.2.1 x.2.2.1 x.2.2.2 = 0
      · refine ⟨rfl, rfl, h3, fun h4 => ?_⟩
        rw [h3, h4] at h
        simp [fst0] at h
      · simp [fst0, h3] at h
theorem fmt_ok {f : Fmt} (h : (chkFmt f).2 = 0) : (∀ x ∈ f.2, isNm x.1 = true ∧ tyErr x.2.1 x.2.2.1 x.2.2.2 = 0 ∧ x.2.1 ≠ 4) ∧ sumW f.2 ≤ 200 ∧ f.2.length ≤ 20 := by
  obtain ⟨hn, h1, h20⟩ := fmt_few h
  unfold chkFmt at h
  rw [if_neg (by rw [hn]; decide), if_neg (by omega), if_neg (by omega)] at h
  obtain ⟨a, b⟩ := runF_ok f.2 f.2 0 h
  refine ⟨fun x hx => ?_, b, h20⟩
  obtain ⟨j, hj⟩ := List.getElem?_of_mem hx
  obtain ⟨c1, _, c3, c4⟩ := fldE_ok (a j x hj)
  exact ⟨c1, c3, c4⟩
noncomputable def runV : List Fld → List UInt8 → Nat → List (Int × ByteArray) → List (Int × ByteArray) × Int × Int
  | [], _, _, vs => (vs, 0, 0)
  | x :: m, l, i, vs => if (dec x.2 (S (l.take (wd x.2).toNat))).2.2 ≠ 0 then ([], (i : Int), (dec x.2 (S (l.take (wd x.2).toNat))).2.2) else runV m (l.drop (wd x.2).toNat) (i + 1) (vs ++ [(dec x.2 (S (l.take (wd x.2).toNat))).1])
noncomputable def runB : List Fld → List UInt8 → Nat → Int × Int
  | [], _, _ => (0, 0)
  | x :: m, l, i => if (dec x.2 (S (l.take (wd x.2).toNat))).2.2 ≠ 0 then ((i : Int), (dec x.2 (S (l.take (wd x.2).toNat))).2.2) else runB m (l.drop (wd x.2).toNat) (i + 1)
theorem runV_runB : ∀ (m : List Fld) (l : List UInt8) (i : Nat) (vs : List (Int × ByteArray)), (runV m l i vs).2 = runB m l i
  | [], _, _, _ => rfl
  | x :: m, l, i, vs => by
    unfold runV runB
    split
    · rfl
    · exact runV_runB m _ _ _
noncomputable def chkBytes (f : Fmt) (s : ByteArray) : Int × Int := if (chkFmt f).2 ≠ 0 then (0, (chkFmt f).2) else if (s.size : Int) ≠ sumW f.2 then (0, 18) else runB f.2 s.data.toList 0

theorem f645q (nm : ByteArray) (fs : List Fld) (hl : fs.length ≤ 900) : f645F 1000 (nm, fs) = some (sumW fs) := by
  unfold f645F f645l0
  refine iter_list (k := 1000) (R := Int) (A := Int) fs (fun i a => (a, fs, (fs.length : Int), (i : Int), ())) (fun m a => some (a + sumW m)) (fun i a => a = sumW (fs.take i)) ?_ ?_ (by omega) 0 (by simp [sumW]) |>.trans (by simp)
  · intro rec a _
    unfold f645l0s
    simp [sumW]
  · intro rec i a x hx hi hp
    unfold f645l0s
    have hw := wd_rng x.2
    have hs := sumW_rng (fs.take i)
    have hlt : (fs.take i).length ≤ 900 := by simp; omega
    simp only [ltn hi, nn, Bool.and_self, cond_true, Int.toNat_natCast, getD_of hx, wi_succ (i := i) (by omega), f640q, bind_some']
    rw [wi (x := a + wd x.2) (by omega) (by omega)]
    refine .inl ⟨a + wd x.2, ?_, rfl, ?_⟩
    · rw [take_succ' hx, sumW_app, hp]
      simp [sumW]
    · simp only [sumW]
      congr 1
      omega

theorem toNat_wd (t : Int × Int × Int) : ((wd t).toNat : Int) = wd t := Int.toNat_of_nonneg (wd_rng t).1
theorem f669q (nm : ByteArray) (fs : List Fld) (l : List UInt8) (hl : fs.length ≤ 20) (hs : (l.length : Int) = sumW fs) : f669F 1000 ((nm, fs), S l) = some (runV fs l 0 []) := by
  unfold f669F f669l0
  refine iter_list (k := 1000) (R := List (Int × ByteArray) × Int × Int) (A := Nat × List UInt8 × List (Int × ByteArray)) fs (fun i a => (S a.2.1, fs, (fs.length : Int), (i : Int), a.2.2, ())) (fun m a => some (runV m a.2.1 a.1 a.2.2)) (fun i a => a.1 = i ∧ (a.2.1.length : Int) = sumW (fs.drop i) ∧ a.2.2.length = i) ?_ ?_ (by omega) (0, l, []) ⟨rfl, by simpa using hs, rfl⟩
  · intro rec a _
    unfold f669l0s
    simp [runV]
  · intro rec i a x hx hi hp
    obtain ⟨p1, p2, p3⟩ := hp
    obtain ⟨z, b, vs⟩ := a
    simp only at p1 p2 p3
    subst p1
    unfold f669l0s
    have hd : fs.drop z = x :: fs.drop (z + 1) := by
      rw [List.drop_eq_getElem_cons hi]
      congr 1
      exact (List.getElem?_eq_some_iff.1 hx).2
    rw [hd] at p2
    simp only [sumW] at p2
    have hw := wd_rng x.2
    have hr := sumW_rng (fs.drop (z + 1))
    have hw2 := toNat_wd x.2
    have hle : (wd x.2).toNat ≤ b.length := by omega
    have sl1 : sliceBds 0 (wd x.2) ((S b).size : Int) = true := by
      rw [S_size, ← hw2]; exact sliceB0 hle
    have sl2 : sliceBds (wd x.2) ((S b).size : Int) ((S b).size : Int) = true := by
      rw [S_size, ← hw2]; exact sliceB hle (Nat.le_refl _)
    simp only [ltn hi, nn, Bool.and_self, cond_true, Int.toNat_natCast, getD_of hx, wi_succ (i := z) (by omega), f640q, bind_some', sl1, sl2, S_cut, List.drop_zero]
    rw [f16d]
    simp only [bind_some', S_size, List.take_length]
    by_cases he : (dec x.2 (S (b.take (wd x.2).toNat))).2.2 = 0
    · refine .inl ⟨(z + 1, b.drop (wd x.2).toNat, vs ++ [(dec x.2 (S (b.take (wd x.2).toNat))).1]), ⟨rfl, ?_, by simp [p3]⟩, ?_, ?_⟩
      · simp only [List.length_drop]
        omega
      · rw [bif_false (by rw [he]; rfl), bif_true (by simp [p3]; omega)]
      · simp only [runV]
        rw [if_neg (fun c => c he)]
    · refine .inr ?_
      simp only [runV]
      rw [if_pos he, bif_true (bne0 he)]

theorem f650q (f : Fmt) (s : ByteArray) : ∃ vs, f650F 1000 (f, s) = some (vs, chkBytes f s) := by
  obtain ⟨nm, fs⟩ := f
  unfold f650F chkBytes
  simp only [f607q, bind_some']
  by_cases hf : (chkFmt (nm, fs)).2 = 0
  · obtain ⟨h1, h2, h3⟩ := fmt_ok hf
    simp only at h1 h2 h3
    rw [bif_false (by rw [hf]; rfl), if_neg (fun c => c hf), f645q nm fs (by omega), bind_some']
    by_cases hs : (s.size : Int) = sumW fs
    · rw [bif_false (by rw [hs]; simp), if_neg (fun c => c hs)]
      obtain ⟨l, rfl⟩ : ∃ l, s = S l := ⟨_, (S_of s).symm⟩
      rw [f669q nm fs l h3 (by rw [S_size] at hs; exact hs), bind_some', S_list]
      exact ⟨(runV fs l 0 []).1, by rw [← runV_runB fs l 0 []]⟩
    · rw [bif_true (by simpa using hs), if_pos hs]
      exact ⟨[], rfl⟩
  · rw [bif_true (bne0 hf), if_pos hf]
    exact ⟨[], rfl⟩
theorem f595q (f : Fmt) (s : ByteArray) : f595F 1000 (f, s) = some (chkBytes f s).2 := by
  unfold f595F f630F
  obtain ⟨vs, h⟩ := f650q f s
  rw [show (((f.1, f.2), s) : Fmt × ByteArray) = (f, s) from rfl, h]
  rfl

noncomputable def rE (f : Fmt) (r : Rcd) : Int := if r.1 = true then (if strEq r.2 ByteArray.empty = false then 5 else 0) else (chkBytes f r.2).2
noncomputable def runR (f : Fmt) : List Rcd → Nat → Int × Int
  | [], _ => (0, 0)
  | r :: l, i => if rE f r ≠ 0 then ((i : Int), rE f r) else runR f l (i + 1)
noncomputable def chkTbl (t : Tbl) : Int × Int := if (chkFile t.1).2 ≠ 0 then (0, (chkFile t.1).2) else if t.2.length > 60 then (0, 2) else runR t.1.2.1 t.2 0

theorem f549q (t : Tbl) : f549F 1000 t = some (chkTbl t) := by
  obtain ⟨⟨fn, ⟨nm, fs⟩, ks, u⟩, rs⟩ := t
  unfold f549F chkTbl
  simp only [f593q, f594q, bind_some']
  rw [f592q _ (by simp)]
  simp only [bind_some']
  by_cases hf : (chkFile (fn, (nm, fs), ks, u)).2 = 0
  · rw [if_neg (c := (chkFile (fn, (nm, fs), ks, u)).2 ≠ 0) (fun c => c hf), hf]
    by_cases h60 : rs.length > 60
    · rw [if_pos h60, show decide ((rs.length : Int) > 60) = true from len_gt h60]
      rfl
    · rw [if_neg h60, show decide ((rs.length : Int) > 60) = false from len_ngt h60]
      have z : fst0 [0, if false = true then 2 else 0] = 0 := rfl
      rw [z]
      simp only [bne_self_eq_false, cond_false]
      unfold f549l1
      refine iter_list (k := 1000) (R := Int × Int) (A := Nat) rs (fun i a => (rs, (rs.length : Int), (i : Int), fn, nm, fs, ks, u, rs, ())) (fun m a => some (runR (nm, fs) m a)) (fun i a => a = i) ?_ ?_ (by omega) 0 rfl
      · intro rec a _
        unfold f549l1s
        simp [runR]
      · intro rec i a x hx hi hp
        subst hp
        unfold f549l1s f549p0
        simp only [ltn hi, nn, Bool.and_self, cond_true, Int.toNat_natCast, getD_of hx, wi_succ (i := a) (by omega), f594q, bind_some', runR, f595q]
        have hE : rE (nm, fs) x = if x.1 = true then (if strEq x.2 ByteArray.empty = false then 5 else 0) else (chkBytes (nm, fs) x.2).2 := rfl
        cases h1 : x.1 with
        | true =>
          rw [if_pos h1] at hE
          simp only [Bool.not_true, cond_false]
          cases h2 : strEq x.2 ByteArray.empty with
          | true =>
            rw [h2] at hE
            rw [hE]
            exact .inl ⟨a + 1, rfl, rfl, rfl⟩
          | false =>
            rw [h2] at hE
            rw [hE]
            exact .inr rfl
        | false =>
          rw [if_neg (by rw [h1]; decide)] at hE
          simp only [Bool.not_false, cond_true]
          rw [hE]
          by_cases he : (chkBytes (nm, fs) x.2).2 = 0
          · exact .inl ⟨a + 1, rfl, by rw [bif_false (by rw [he]; rfl)], by rw [if_neg (fun c => c he)]⟩
          · exact .inr (by rw [if_pos he, bif_true (bne0 he)])
  · rw [if_pos hf]
    have e : fst0 [(chkFile (fn, (nm, fs), ks, u)).2, if decide ((rs.length : Int) > 60) = true then 2 else 0] = (chkFile (fn, (nm, fs), ks, u)).2 := by
      simp [fst0, hf]
    rw [e, bif_true (bne0 hf)]

def tAt (name : ByteArray) (l : List Tbl) : Int := idxN (fun t : Tbl => strEq t.1.1 name) l 0
theorem f550q (l : List Tbl) (name : ByteArray) (hl : l.length ≤ 900) : f550F 1000 (l, name) = some (tAt name l) := by
  unfold f550F f596v0F f596v0l0
  have : ∀ v, Option.bind (iterS (fun rec v => f596v0l0s (R := Int × ByteArray × Unit) 1000 rec (fun w3 => some (w3.1, w3.2.1, ())) (fun w4 => some ((-1 : Int), w4.1, ())) v) 1000 v) (fun y1 => some y1.1) = some (tAt name l) ↔ ∃ r, iterS (fun rec v => f596v0l0s (R := Int × ByteArray × Unit) 1000 rec (fun w3 => some (w3.1, w3.2.1, ())) (fun w4 => some ((-1 : Int), w4.1, ())) v) 1000 v = some r ∧ r.1 = tAt name l := by
    intro v
    cases iterS (fun rec v => f596v0l0s (R := Int × ByteArray × Unit) 1000 rec (fun w3 => some (w3.1, w3.2.1, ())) (fun w4 => some ((-1 : Int), w4.1, ())) v) 1000 v with
    | none => simp
    | some r => simp
  rw [this]
  refine ⟨(tAt name l, name, ()), ?_, rfl⟩
  refine iter_list (k := 1000) (R := Int × ByteArray × Unit) (A := Nat) l (fun i a => (l, (l.length : Int), (i : Int), name, ())) (fun m a => some (idxN (fun t : Tbl => strEq t.1.1 name) m a, name, ())) (fun i a => a = i) ?_ ?_ (by omega) 0 rfl
  · intro rec a _
    unfold f596v0l0s
    simp [idxN]
  · intro rec i a x hx hi hp
    subst hp
    unfold f596v0l0s f597v0F
    simp only [ltn hi, nn, Bool.and_self, cond_true, Int.toNat_natCast, getD_of hx, wi_succ (i := a) (by omega), bind_some']
    by_cases h : strEq x.1.1 name = true
    · exact .inr (by simp [idxN, h])
    · have h' : strEq x.1.1 name = false := by simpa using h
      exact .inl ⟨a + 1, rfl, by simp [h'], by simp [idxN, h']⟩
noncomputable def tE (pre : List Tbl) (t : Tbl) : Int := if (chkTbl t).2 ≠ 0 then (chkTbl t).2 else if (pre.any fun y => strEq y.1.1 t.1.1) = true then 13 else 0
noncomputable def runT (ts : List Tbl) : List Tbl → Nat → Int × Int
  | [], _ => (0, 0)
  | t :: l, i => if tE (ts.take i) t ≠ 0 then ((i : Int), tE (ts.take i) t) else runT ts l (i + 1)
noncomputable def chkTs (l : List Tbl) : Int × Int := if l.length > 8 then (0, 2) else runT l l 0

theorem f515q (l : List Tbl) : f515F 1000 l = some (chkTs l) := by
  unfold f515F chkTs
  by_cases h8 : l.length > 8
  · rw [if_pos h8, show decide ((l.length : Int) > 8) = true from len_gt h8]
    rfl
  · rw [if_neg h8, show decide ((l.length : Int) > 8) = false from len_ngt h8]
    simp only [cond_false]
    unfold f515l0
    refine iter_list (k := 1000) (R := Int × Int) (A := Nat) l (fun i a => (l, l, (l.length : Int), (i : Int), ())) (fun m a => some (runT l m a)) (fun i a => a = i) ?_ ?_ (by omega) 0 rfl
    · intro rec a _
      unfold f515l0s
      simp [runT]
    · intro rec i a x hx hi hp
      subst hp
      unfold f515l0s
      have hidx := idxN_lt (fun y : Tbl => strEq y.1.1 x.1.1) l 0 a x hx (strEq_self _)
      rw [Nat.zero_add] at hidx
      simp only [ltn hi, nn, Bool.and_self, cond_true, Int.toNat_natCast, getD_of hx, wi_succ (i := a) (by omega), f549q, bind_some', f550q l x.1.1 (by omega), tAt, hidx, runT]
      have hE : tE (l.take a) x = if (chkTbl x).2 ≠ 0 then (chkTbl x).2 else if ((l.take a).any fun y => strEq y.1.1 x.1.1) = true then 13 else 0 := rfl
      by_cases h1 : (chkTbl x).2 = 0
      · rw [if_neg (fun c => c h1)] at hE
        rw [bif_false (by rw [show ((x.1.1, (x.1.2.1.1, x.1.2.1.2), x.1.2.2.1, x.1.2.2.2), x.2) = x from rfl, h1]; rfl)]
        cases h2 : ((l.take a).any fun y => strEq y.1.1 x.1.1) with
        | true =>
          rw [h2] at hE
          have hE : tE (l.take a) x = 13 := hE
          exact .inr (by rw [hE]; rfl)
        | false =>
          rw [h2] at hE
          have hE : tE (l.take a) x = 0 := hE
          exact .inl ⟨a + 1, rfl, rfl, by rw [hE]; rfl⟩
      · rw [if_pos h1] at hE
        exact .inr (by rw [hE, if_pos h1, bif_true (bne0 h1)])
end Go.Proofs.YtobgkcamonlnkaaGreatDoor
set_option linter.unusedVariables false
set_option linter.unusedSimpArgs false
namespace Go.Proofs.YtobgkcamonlnkaaGreatDoor
open Go.Ab

theorem nm_size {s : ByteArray} (h : isNm s = true) : 1 ≤ s.size ∧ s.size ≤ 10 := by
  unfold isNm at h
  simp only [Bool.and_eq_true, decide_eq_true_eq] at h
  exact h.1
theorem runK_ok (fs : List Fld) (ks : List Key) : ∀ (l : List Key) (i : Nat), (runK fs ks l i).2 = 0 → ∀ j x, l[j]? = some x → kE fs (ks.take (i + j)) x = 0
  | [], i, h, j, x, hx => by simp at hx
  | x :: l, i, h, j, y, hy => by
    unfold runK at h
    by_cases he : kE fs (ks.take i) x = 0
    · rw [if_neg (fun c => c he)] at h
      cases j with
      | zero =>
        simp at hy
        subst hy
        exact he
      | succ j =>
        have := runK_ok fs ks l (i + 1) h j y (by simpa using hy)
        rwa [show i + 1 + j = i + (j + 1) by omega] at this
    · rw [if_pos he] at h
      exact absurd h he
theorem kE_ok {fs : List Fld} {pre : List Key} {x : Key} (h : kE fs pre x = 0) : (fs.any fun y => strEq y.1 x.1) = true ∧ (pre.any fun y => strEq y.1 x.1) = false := by
  unfold kE at h
  cases h1 : (fs.any fun y => strEq y.1 x.1) with
  | false => rw [h1] at h; simp [fst0] at h
  | true =>
    rw [h1] at h
    cases h2 : (pre.any fun y => strEq y.1 x.1) with
    | true => rw [h2] at h; simp [fst0] at h
    | false => exact ⟨rfl, rfl⟩
theorem file_ok {f : Fil} (h : (chkFile f).2 = 0) : isNm f.1 = true ∧ (chkFmt f.2.1).2 = 0 ∧ f.2.2.1.length ≤ 4 ∧ ∀ k ∈ f.2.2.1, isNm k.1 = true := by
  unfold chkFile at h
  split at h
  · simp at h
  · rename_i h1
    split at h
    · rename_i h2; exact absurd h h2
    · rename_i h2
      have h2 : (chkFmt f.2.1).2 = 0 := by simpa using h2
      split at h
      · simp at h
      · rename_i h3
        refine ⟨by simpa using h1, h2, by omega, fun k hk => ?_⟩
        obtain ⟨j, hj⟩ := List.getElem?_of_mem hk
        obtain ⟨ha, _⟩ := kE_ok (runK_ok _ _ _ 0 h j k hj)
        rw [List.any_eq_true] at ha
        obtain ⟨x, hx, he⟩ := ha
        rw [strEq_iff] at he
        rw [← he]
        exact ((fmt_ok h2).1 x hx).1
theorem runR_ok (f : Fmt) : ∀ (l : List Rcd) (i : Nat), (runR f l i).2 = 0 → ∀ r ∈ l, rE f r = 0
  | [], i, h, r, hr => by simp at hr
  | x :: l, i, h, r, hr => by
    unfold runR at h
    by_cases he : rE f x = 0
    · rw [if_neg (fun c => c he)] at h
      rcases List.mem_cons.1 hr with rfl | hr
      · exact he
      · exact runR_ok f l (i + 1) h r hr
    · rw [if_pos he] at h
      exact absurd h he
theorem rE_ok {f : Fmt} {r : Rcd} (hf : (chkFmt f).2 = 0) (h : rE f r = 0) : (r.1 = true → r.2 = ByteArray.empty) ∧ (r.1 = false → (r.2.size : Int) = sumW f.2) := by
  unfold rE at h
  constructor
  · intro h1
    rw [if_pos h1] at h
    cases h2 : strEq r.2 ByteArray.empty with
    | true => exact strEq_iff.1 h2
    | false => rw [h2] at h; simp at h
  · intro h1
    rw [if_neg (by rw [h1]; decide)] at h
    unfold chkBytes at h
    rw [if_neg (fun c => c hf)] at h
    by_cases h2 : (r.2.size : Int) = sumW f.2
    · exact h2
    · rw [if_pos h2] at h; simp at h
theorem tbl_ok {t : Tbl} (h : (chkTbl t).2 = 0) : (chkFile t.1).2 = 0 ∧ t.2.length ≤ 60 ∧ ∀ r ∈ t.2, rE t.1.2.1 r = 0 := by
  unfold chkTbl at h
  split at h
  · rename_i h1; exact absurd h h1
  · rename_i h1
    split at h
    · simp at h
    · rename_i h2
      exact ⟨by simpa using h1, by omega, runR_ok _ _ _ h⟩
theorem rec_small {t : Tbl} (h : (chkTbl t).2 = 0) {r : Rcd} (hr : r ∈ t.2) : r.2.size ≤ 200 := by
  obtain ⟨h1, _, h3⟩ := tbl_ok h
  obtain ⟨_, h5, _, _⟩ := file_ok h1
  obtain ⟨a, b⟩ := rE_ok h5 (h3 r hr)
  cases h0 : r.1 with
  | true => rw [a h0]; decide
  | false =>
    have := b h0
    have := (fmt_ok h5).2.1
    omega
theorem runT_ok (ts : List Tbl) : ∀ (l : List Tbl) (i : Nat), (runT ts l i).2 = 0 → ∀ j t, l[j]? = some t → tE (ts.take (i + j)) t = 0
  | [], i, h, j, x, hx => by simp at hx
  | x :: l, i, h, j, y, hy => by
    unfold runT at h
    by_cases he : tE (ts.take i) x = 0
    · rw [if_neg (fun c => c he)] at h
      cases j with
      | zero =>
        simp at hy
        subst hy
        exact he
      | succ j =>
        have := runT_ok ts l (i + 1) h j y (by simpa using hy)
        rwa [show i + 1 + j = i + (j + 1) by omega] at this
    · rw [if_pos he] at h
      exact absurd h he
theorem tE_ok {pre : List Tbl} {t : Tbl} (h : tE pre t = 0) : (chkTbl t).2 = 0 ∧ (pre.any fun y => strEq y.1.1 t.1.1) = false := by
  unfold tE at h
  by_cases h1 : (chkTbl t).2 = 0
  · rw [if_neg (fun c => c h1)] at h
    cases h2 : (pre.any fun y => strEq y.1.1 t.1.1) with
    | true => rw [h2] at h; simp at h
    | false => exact ⟨h1, rfl⟩
  · rw [if_pos h1] at h
    exact absurd h h1
theorem ts_ok {l : List Tbl} (h : (chkTs l).2 = 0) : l.length ≤ 8 ∧ ∀ j t, l[j]? = some t → (chkTbl t).2 = 0 ∧ ((l.take j).any fun y => strEq y.1.1 t.1.1) = false := by
  unfold chkTs at h
  split at h
  · simp at h
  · rename_i h8
    refine ⟨by omega, fun j t hj => ?_⟩
    have := runT_ok l l 0 h j t hj
    rw [Nat.zero_add] at this
    exact tE_ok this
theorem ts_mem {l : List Tbl} (h : (chkTs l).2 = 0) {t : Tbl} (ht : t ∈ l) : (chkTbl t).2 = 0 := by
  obtain ⟨j, hj⟩ := List.getElem?_of_mem ht
  exact ((ts_ok h).2 j t hj).1

def oneB (n : Int) : UInt8 := UInt8.ofNat (n % 256).toNat
theorem oneB_int (n : Int) : ((oneB n).toNat : Int) = n % 256 := by
  unfold oneB
  rw [UInt8.toNat_ofNat']
  have := Int.emod_nonneg n (show (256 : Int) ≠ 0 by decide)
  have := Int.emod_lt_of_pos n (show (0 : Int) < 256 by decide)
  omega
def padL (s : ByteArray) : List UInt8 := s.data.toList ++ List.replicate (10 - s.size) 32
theorem padL_length {s : ByteArray} (h : s.size ≤ 10) : (padL s).length = 10 := by
  unfold padL
  have : s.data.toList.length = s.size := rfl
  rw [List.length_append, List.length_replicate, this]
  omega
def shpF (x : Fld) : List UInt8 := padL x.1 ++ [oneB x.2.1, oneB x.2.2.1, oneB x.2.2.2]
def bB (b : Bool) : UInt8 := if b = true then 1 else 0
def shpK (k : Key) : List UInt8 := padL k.1 ++ [bB k.2]
def shp (f : Fil) : List UInt8 := (oneB f.2.1.2.length :: f.2.1.2.flatMap shpF) ++ (oneB f.2.2.1.length :: f.2.2.1.flatMap shpK)
def rcB (r : Rcd) : List UInt8 := bB (!r.1) :: r.2.data.toList
def tblB (t : Tbl) : List UInt8 := padL t.1.1 ++ (padL t.1.2.1.1 ++ (shp t.1 ++ (bB t.1.2.2.2 :: (oneB t.2.length :: t.2.flatMap rcB))))
def strm (l : List Tbl) : List UInt8 := oneB l.length :: l.flatMap tblB

theorem flat_len {α : Type} (f : α → List UInt8) (n : Nat) : ∀ (l : List α), (∀ x ∈ l, (f x).length ≤ n) → (l.flatMap f).length ≤ n * l.length
  | [], _ => by simp
  | x :: l, h => by
    have h1 := h x (by simp)
    have h2 := flat_len f n l fun y hy => h y (by simp [hy])
    simp only [List.flatMap_cons, List.length_append, List.length_cons, Nat.mul_add, Nat.mul_one]
    omega
theorem shp_length {f : Fil} (h : (chkFile f).2 = 0) : (shp f).length ≤ 310 := by
  obtain ⟨h1, h2, h3, h4⟩ := file_ok h
  obtain ⟨g1, g2, g3⟩ := fmt_ok h2
  have a := flat_len shpF 13 f.2.1.2 fun x hx => by
    have := nm_size (g1 x hx).1
    unfold shpF
    rw [List.length_append, padL_length this.2]
    simp
  have b := flat_len shpK 11 f.2.2.1 fun x hx => by
    have := nm_size (h4 x hx)
    unfold shpK
    rw [List.length_append, padL_length this.2]
    simp
  unfold shp
  simp only [List.length_append, List.length_cons]
  omega
theorem tblB_length {t : Tbl} (h : (chkTbl t).2 = 0) : (tblB t).length ≤ 13000 := by
  obtain ⟨h1, h2, h3⟩ := tbl_ok h
  obtain ⟨g1, g2, g3, g4⟩ := file_ok h1
  have hs := shp_length h1
  have hn := nm_size g1
  have hm := nm_size (fmt_few g2).1
  have a := flat_len rcB 201 t.2 fun x hx => by
    have := rec_small h hx
    unfold rcB
    have e : x.2.data.toList.length = x.2.size := rfl
    simp only [List.length_cons, e]
    omega
  unfold tblB
  simp only [List.length_append, List.length_cons, padL_length hn.2, padL_length hm.2]
  omega

theorem f73r {n : Nat} (hn : n ≤ 900) : f73F 1000 ((⟨#[32]⟩ : ByteArray), (n : Int)) = some (S (List.replicate n 32)) := by
  unfold f73F
  have hs : ((⟨#[32]⟩ : ByteArray).size : Int) = 1 := rfl
  simp only [hs]
  rw [bif_true (by simp <;> omega), Int.toNat_natCast]
  have h := Lib.repeatL_replicate 32 1 n
  have h : Lib.repeatL [32] n = List.replicate n 32 := by rw [Nat.mul_one] at h; exact h
  show some (⟨(Lib.repeatL [32] n).toArray⟩ : ByteArray) = _
  rw [h]
  rfl
theorem one_int (b : Int) : IntKind.u8.wrap b = ((oneB b).toNat : Int) := by rw [wu8e, oneB_int]
theorem ints_one (w : List UInt8) (b : Int) : ints w ++ [IntKind.u8.wrap b] = ints (w ++ [oneB b]) := by
  rw [ints_app, one_int]; rfl
theorem f552l0q {R : Type} (k0 : List Int × List Int × Unit → Option R) (xs : List Int) (hx : xs.length ≤ 100) (i : Nat) (hi : i ≤ xs.length) (w : List UInt8) (h : w.length ≤ 1000000) :
    f552v0l0 1000 k0 ((xs.length : Int), (i : Int), xs, ints w, ()) = k0 (xs, ints (w ++ (xs.drop i).map oneB), ()) := by
  unfold f552v0l0
  refine iter_from (k := 1000) (A := List UInt8) xs (fun i a => ((xs.length : Int), (i : Int), xs, ints a, ())) (fun m a => k0 (xs, ints (a ++ m.map oneB), ())) (fun i a => a.length ≤ 1000000 + i) ?_ ?_ (by omega) i w hi (by omega)
  · intro rec a _
    unfold f552v0l0s
    simp
  · intro rec i a x hx hi hp
    unfold f552v0l0s
    simp only [ltn hi, nn, Bool.and_self, cond_true, Int.toNat_natCast, getD_of hx, wi_succ (i := i) (by omega), ints_length, List.length_singleton]
    refine .inl ⟨a ++ [oneB x], by simp; omega, ?_, by simp⟩
    rw [bif_true (by simp; omega), ints_one]
theorem f552q (xs : List Int) (w : List UInt8) (hx : xs.length ≤ 100) (h : w.length ≤ 999999) : f552v0F 1000 (xs, ints w, ()) = some (xs, ints (w ++ xs.map oneB), ()) := by
  unfold f552v0F f552v0l1
  rw [iterS_1000]
  unfold f552v0l1s
  cases xs with
  | nil => simp
  | cons x xs =>
    simp only [List.length_cons] at hx
    have e0 : decide ((0 : Int) < (((x :: xs).length : Nat) : Int)) = true := by simp
    have e1 : (IntKind.u8.wrap ((x :: xs).getD (Int.toNat 0) 0)) = IntKind.u8.wrap x := rfl
    have e2 : IntKind.i64.wrap (0 + 1) = ((1 : Nat) : Int) := rfl
    simp only [e0, e1, e2, cond_true, Bool.and_true, ints_one, ints_length, List.length_singleton]
    rw [bif_true (by simp), bif_true (by simp; omega), f552l0q _ (x :: xs) (by simp; omega) 1 (by simp) _ (by simp; omega)]
    simp
theorem f555q {b : Bool} {w : List UInt8} (h : w.length ≤ 999999) : f555v0F 1000 (b, ints w, ()) = some (ints (w ++ [bB b]), ()) := by
  unfold f555v0F
  cases b with
  | true => rw [cond_true, f552q [1] w (by simp) h]; rfl
  | false => rw [cond_false, f552q [0] w (by simp) h]; rfl
theorem f553q {s : ByteArray} {w : List UInt8} (hs : s.size ≤ 10) (h : w.length ≤ 1000000) : f553v0F 1000 (s, ints w, ()) = some (ints (w ++ padL s), ()) := by
  obtain ⟨l, rfl⟩ : ∃ l, s = S l := ⟨_, (S_of s).symm⟩
  rw [S_size] at hs
  unfold f553v0F
  have e : mxI (IntKind.i64.wrap (10 - ((S l).size : Int))) 0 = ((10 - l.length : Nat) : Int) := by
    rw [S_size, wi (by omega) (by omega)]
    unfold mxI
    rw [show (10 : Int) - (l.length : Int) = ((10 - l.length : Nat) : Int) by omega]
    simp
    omega
  simp only [S_bytes, e, f73r (show 10 - l.length ≤ 900 by omega), bind_some', ints_length, List.length_append, List.length_replicate]
  rw [bif_true (by simp; omega), bif_true (by simp; omega)]
  unfold padL
  rw [S_list, S_size, ints_app, ints_app, List.append_assoc]
end Go.Proofs.YtobgkcamonlnkaaGreatDoor
set_option linter.unusedVariables false
set_option linter.unusedSimpArgs false
namespace Go.Proofs.YtobgkcamonlnkaaGreatDoor
open Go.Ab

theorem shpF_length {x : Fld} (h : x.1.size ≤ 10) : (shpF x).length = 13 := by
  unfold shpF
  rw [List.length_append, padL_length h]
  rfl
theorem f554q (fn nm : ByteArray) (fs : List Fld) (ks : List Key) (u : Bool) (w : List UInt8) (h1 : fs.length ≤ 20) (h2 : ∀ x ∈ fs, x.1.size ≤ 10) (h3 : ks.length ≤ 4) (h4 : ∀ x ∈ ks, x.1.size ≤ 10) (hw : w.length ≤ 500000) :
    f554v0F 1000 (fn, nm, fs, ks, u, ints w, ()) = some (ints (w ++ shp (fn, (nm, fs), ks, u)), ()) := by
  unfold f554v0F
  simp only [f552q [(fs.length : Int)] w (by simp) (by omega), bind_some', List.map_cons, List.map_nil]
  unfold f554v0l0
  have hlen : ∀ i, (w ++ [oneB fs.length]).length + i ≤ 500001 + i := fun i => by simp; omega
  refine (iter_list (k := 1000) (A := List UInt8) fs (fun i a => (fs, (fs.length : Int), (i : Int), fn, nm, fs, ks, u, ints a, ())) (fun m a => Option.bind (f552v0F 1000 ([(ks.length : Int)], ints (a ++ m.flatMap shpF), ())) fun y6 => f554v0l1 1000 (fun w9 => some (w9.1, ())) (ks, (ks.length : Int), (0 : Int), y6.2.1, ())) (fun i a => a.length ≤ 500001 + 13 * i) ?_ ?_ (by omega) (w ++ [oneB fs.length]) (by simp; omega)).trans ?_
  rotate_left 2
  · have hfl := flat_len shpF 13 fs fun x hx => by rw [shpF_length (h2 x hx)]; omega
    have hb : ((w ++ [oneB fs.length]) ++ fs.flatMap shpF).length ≤ 501000 := by rw [List.length_append, List.length_append]; simp only [List.length_singleton]; omega
    rw [f552q [(ks.length : Int)] ((w ++ [oneB fs.length]) ++ fs.flatMap shpF) (by simp) (by omega)]
    simp only [bind_some', List.map_cons, List.map_nil]
    unfold f554v0l1
    refine (iter_list (k := 1000) (A := List UInt8) ks (fun i a => (ks, (ks.length : Int), (i : Int), ints a, ())) (fun m a => some (ints (a ++ m.flatMap shpK), ())) (fun i a => a.length ≤ 502000 + 11 * i) ?_ ?_ (by omega) ((w ++ [oneB fs.length]) ++ fs.flatMap shpF ++ [oneB ks.length]) (by rw [List.length_append]; simp only [List.length_singleton]; omega)).trans ?_
    rotate_left 2
    · unfold shp
      simp only [List.append_assoc, List.cons_append, List.nil_append]
    · intro rec a _
      unfold f554v0l1s
      simp
    · intro rec i a x hx hi hp
      have hn := h4 x (List.mem_of_getElem? hx)
      unfold f554v0l1s
      simp only [ltn hi, nn, Bool.and_self, cond_true, Int.toNat_natCast, getD_of hx, wi_succ (i := i) (by omega), f553q hn (show a.length ≤ 1000000 by omega), bind_some', f555q (b := x.2) (show (a ++ padL x.1).length ≤ 999999 by rw [List.length_append, padL_length hn]; omega)]
      refine .inl ⟨a ++ padL x.1 ++ [bB x.2], ?_, rfl, ?_⟩
      · rw [List.length_append, List.length_append, padL_length hn]
        simp; omega
      · simp only [List.flatMap_cons, shpK, List.append_assoc]
  · intro rec a _
    unfold f554v0l0s
    simp
  · intro rec i a x hx hi hp
    have hn := h2 x (List.mem_of_getElem? hx)
    unfold f554v0l0s
    simp only [ltn hi, nn, Bool.and_self, cond_true, Int.toNat_natCast, getD_of hx, wi_succ (i := i) (by omega), f553q hn (show a.length ≤ 1000000 by omega), bind_some', f552q [x.2.1, x.2.2.1, x.2.2.2] (a ++ padL x.1) (by simp) (by rw [List.length_append, padL_length hn]; omega)]
    refine .inl ⟨a ++ padL x.1 ++ [oneB x.2.1, oneB x.2.2.1, oneB x.2.2.2], ?_, rfl, ?_⟩
    · rw [List.length_append, List.length_append, padL_length hn]
      simp; omega
    · simp only [List.flatMap_cons, shpF, List.append_assoc]

theorem file_sizes {f : Fil} (h : (chkFile f).2 = 0) : f.2.1.2.length ≤ 20 ∧ (∀ x ∈ f.2.1.2, x.1.size ≤ 10) ∧ f.2.2.1.length ≤ 4 ∧ (∀ x ∈ f.2.2.1, x.1.size ≤ 10) ∧ f.1.size ≤ 10 ∧ f.2.1.1.size ≤ 10 := by
  obtain ⟨h1, h2, h3, h4⟩ := file_ok h
  obtain ⟨g1, g2, g3⟩ := fmt_ok h2
  exact ⟨g3, fun x hx => (nm_size (g1 x hx).1).2, h3, fun x hx => (nm_size (h4 x hx)).2, (nm_size h1).2, (nm_size (fmt_few h2).1).2⟩

theorem rcB_length {t : Tbl} (h : (chkTbl t).2 = 0) {r : Rcd} (hr : r ∈ t.2) : (rcB r).length ≤ 201 := by
  have := rec_small h hr
  unfold rcB
  have e : r.2.data.toList.length = r.2.size := rfl
  simp only [List.length_cons, e]
  omega

theorem f517l0q {R : Type} (k0 : List Tbl × Int × Int × List Int × Unit → Option R) (l : List Tbl) (n j : Int) (t : Tbl) (h : (chkTbl t).2 = 0) (w : List UInt8) (hw : w.length ≤ 500000) :
    f517l0 1000 k0 (l, n, j, t.2, (t.2.length : Int), (0 : Int), ints w, ()) = k0 (l, n, j, ints (w ++ t.2.flatMap rcB), ()) := by
  have h60 := (tbl_ok h).2.1
  unfold f517l0
  refine iter_list (k := 1000) (A := List UInt8) t.2 (fun i a => (l, n, j, t.2, (t.2.length : Int), (i : Int), ints a, ())) (fun m a => k0 (l, n, j, ints (a ++ m.flatMap rcB), ())) (fun i a => a.length ≤ 500000 + 201 * i) ?_ ?_ (by omega) w (by omega)
  · intro rec a _
    unfold f517l0s
    simp
  · intro rec i a x hx hi hp
    have hr := rcB_length h (List.mem_of_getElem? hx)
    unfold f517l0s
    obtain ⟨s, hs⟩ : ∃ s, x.2 = S s := ⟨_, (S_of x.2).symm⟩
    unfold rcB at hr
    rw [hs, S_list] at hr
    simp only [List.length_cons] at hr
    simp only [ltn hi, nn, Bool.and_self, cond_true, Int.toNat_natCast, getD_of hx, wi_succ (i := i) (by omega), f555q (b := !x.1) (show a.length ≤ 999999 by omega), bind_some', hs, S_bytes, ints_length, ← ints_app, List.length_append, List.length_singleton]
    rw [bif_true (by simp; omega)]
    refine .inl ⟨a ++ [bB (!x.1)] ++ s, ?_, rfl, ?_⟩
    · simp only [List.length_append, List.length_singleton]; omega
    · simp only [List.flatMap_cons, rcB, hs, S_list, List.append_assoc, List.cons_append, List.nil_append]

theorem f517q (l : List Tbl) : f517F 1000 l = some (if (chkTs l).2 ≠ 0 then (ByteArray.empty, (chkTs l).2) else (S (strm l), 0)) := by
  unfold f517F
  rw [f515q, bind_some']
  by_cases h : (chkTs l).2 = 0
  · obtain ⟨h8, _⟩ := ts_ok h
    rw [bif_false (by rw [h]; rfl), if_neg (fun c => c h)]
    have e0 : f552v0F 1000 ([(l.length : Int)], [], ()) = some ([(l.length : Int)], ints ([] ++ [oneB l.length]), ()) := f552q [(l.length : Int)] [] (by simp) (by simp)
    simp only [e0, bind_some', List.nil_append]
    unfold f517l1
    refine iter_list (k := 1000) (A := List UInt8) l (fun i a => (l, (l.length : Int), (i : Int), ints a, ())) (fun m a => some (S (a ++ m.flatMap tblB), 0)) (fun i a => a.length ≤ 1 + 13000 * i) ?_ ?_ (by omega) [oneB l.length] (by simp)
    · intro rec a _
      unfold f517l1s
      simp [S_back]
    · intro rec i a x hx hi hp
      have hx0 := ts_mem h (List.mem_of_getElem? hx)
      obtain ⟨t1, t2, t3⟩ := tbl_ok hx0
      obtain ⟨g1, g2, g3, g4, g5, g6⟩ := file_sizes t1
      have hsh := shp_length t1
      unfold f517l1s
      have e : x = ((x.1.1, (x.1.2.1.1, x.1.2.1.2), x.1.2.2.1, x.1.2.2.2), x.2) := rfl
      simp only [ltn hi, nn, Bool.and_self, cond_true, Int.toNat_natCast, getD_of hx, wi_succ (i := i) (by omega), bind_some',
        f553q g5 (show a.length ≤ 1000000 by omega),
        f553q g6 (show (a ++ padL x.1.1).length ≤ 1000000 by rw [List.length_append, padL_length g5]; omega),
        f554q x.1.1 x.1.2.1.1 x.1.2.1.2 x.1.2.2.1 x.1.2.2.2 (a ++ padL x.1.1 ++ padL x.1.2.1.1) g1 g2 g3 g4 (by rw [List.length_append, List.length_append, padL_length g5, padL_length g6]; omega)]
      rw [f555q (b := x.1.2.2.2) (show (a ++ padL x.1.1 ++ padL x.1.2.1.1 ++ shp x.1).length ≤ 999999 by rw [List.length_append, List.length_append, List.length_append, padL_length g5, padL_length g6]; omega)]
      simp only [bind_some']
      rw [f552q [(x.2.length : Int)] (a ++ padL x.1.1 ++ padL x.1.2.1.1 ++ shp x.1 ++ [bB x.1.2.2.2]) (by simp) (by rw [List.length_append, List.length_append, List.length_append, List.length_append, padL_length g5, padL_length g6]; simp; omega)]
      simp only [bind_some']
      rw [f517l0q _ l _ _ x hx0 _ (by simp only [List.length_append, padL_length g5, padL_length g6, List.map_cons, List.map_nil, List.length_singleton]; omega)]
      have hle := tblB_length hx0
      refine .inl ⟨a ++ tblB x, ?_, ?_, ?_⟩
      · rw [List.length_append]; omega
      · simp only [wi_succ (i := i) (show i < 9223372036854775807 by omega)]
        congr 2
        unfold tblB
        simp only [List.append_assoc, List.cons_append, List.nil_append, List.map_cons, List.map_nil]
      · simp only [List.flatMap_cons, List.append_assoc]
  · rw [bif_true (bne0 h), if_pos h]

end Go.Proofs.YtobgkcamonlnkaaGreatDoor
set_option linter.unusedVariables false
set_option linter.unusedSimpArgs false
namespace Go.Proofs.YtobgkcamonlnkaaGreatDoor
open Go.Ab

theorem awake34 : f513F 1000 () = some true := by kernel_rfl

def sumG : Int → List UInt8 → Int
  | c, [] => c
  | c, b :: l => sumG ((257 * c + (b.toNat : Int) + 1) % 4294967291) l
theorem sum_step {c : Int} (h0 : 0 ≤ c) (h1 : c < 4294967291) (b : UInt8) :
    Int.tmod (IntKind.i64.wrap (IntKind.i64.wrap (IntKind.i64.wrap (257 * c) + IntKind.i64.wrap (b.toNat : Int)) + 1)) 4294967291 = (257 * c + (b.toNat : Int) + 1) % 4294967291 := by
  have hb := byte_rng b
  rw [wi (x := 257 * c) (by omega) (by omega), wi (x := (b.toNat : Int)) (by omega) (by omega), wi (x := 257 * c + (b.toNat : Int)) (by omega) (by omega), wi (by omega) (by omega), Int.tmod_eq_emod_of_nonneg (by omega)]
theorem sum_rng (x : Int) : 0 ≤ x % 4294967291 ∧ x % 4294967291 < 4294967291 := ⟨Int.emod_nonneg _ (by decide), Int.emod_lt_of_pos _ (by decide)⟩
theorem sumG_rng : ∀ (l : List UInt8) (c : Int), 0 ≤ c → c < 4294967291 → 0 ≤ sumG c l ∧ sumG c l < 4294967291
  | [], c, h0, h1 => ⟨h0, h1⟩
  | b :: l, c, h0, h1 => sumG_rng l _ (sum_rng _).1 (sum_rng _).2
theorem f562q (l : List UInt8) (hl : l.length ≤ 900) : f562F 1000 (S l) = some (sumG 1 l) := by
  unfold f562F f562l0
  rw [S_size]
  refine iter_list (k := 1000) (A := Int) l (fun i a => (S l, a, (l.length : Int), (i : Int), ())) (fun m a => some (sumG a m)) (fun i a => 0 ≤ a ∧ a < 4294967291) ?_ ?_ (by omega) 1 (by decide)
  · intro rec a _
    unfold f562l0s
    simp [sumG]
  · intro rec i a x hx hi hp
    unfold f562l0s
    have hg : l.getD i 0 = x := getD_of hx
    simp only [ltn hi, nn, S_size, Bool.and_self, cond_true, S_bt l i hi, hg, wi_succ (i := i) (by omega), sum_step hp.1 hp.2]
    exact .inl ⟨_, sum_rng _, rfl, rfl⟩
def fewR (l : List Rcd) : Bool := l.all fun r => decide (r.2.size ≤ 220)
def fewT (t : Tbl) : Bool := decide (t.1.2.1.2.length ≤ 22 ∧ t.1.2.2.1.length ≤ 6 ∧ t.2.length ≤ 62) && fewR t.2
def fewTs (l : List Tbl) : Bool := decide (l.length ≤ 10) && l.all fewT
theorem f514l0q {R : Type} (k0 : List Tbl × Bool × Int × Unit → Option R) (k1 : List Tbl × Int × Unit → Option R) (l : List Tbl) (j : Nat) (t : Tbl) (hj : l[j]? = some t) (h : t.2.length ≤ 62) :
    f514l0 1000 k0 k1 (l, (j : Int), (0 : Int), ()) = if fewR t.2 = true then k1 (l, (j : Int), ()) else k0 (l, false, (j : Int), ()) := by
  have hjl : j < l.length := (List.getElem?_eq_some_iff.1 hj).1
  unfold f514l0
  refine iter_list (k := 1000) (A := Unit) t.2 (fun i a => (l, (j : Int), (i : Int), ())) (fun m a => if fewR m = true then k1 (l, (j : Int), ()) else k0 (l, false, (j : Int), ())) (fun i a => True) ?_ ?_ (by omega) () trivial
  · intro rec a _
    unfold f514l0s
    simp only [nn, ltn hjl, Bool.and_self, cond_true, Int.toNat_natCast, getD_of hj]
    simp [fewR]
  · intro rec i a x hx hi hp
    unfold f514l0s
    simp only [nn, ltn hjl, Bool.and_self, cond_true, Int.toNat_natCast, getD_of hj, ltn hi, getD_of hx, wi_succ (i := i) (by omega)]
    by_cases hs : x.2.size ≤ 220
    · refine .inl ⟨(), trivial, by rw [bif_false (by simp; omega)], ?_⟩
      have : fewR (x :: t.2.drop (i + 1)) = fewR (t.2.drop (i + 1)) := by simp [fewR, hs]
      rw [this]
    · refine .inr ?_
      rw [bif_true (by simp; omega)]
      have : fewR (x :: t.2.drop (i + 1)) = false := by simp [fewR, hs]
      rw [this]
      rfl
theorem f514q (l : List Tbl) : f514F 1000 l = some (fewTs l) := by
  unfold f514F fewTs
  by_cases h10 : l.length ≤ 10
  · rw [bif_false (by simp; omega), decide_eq_true h10, Bool.true_and]
    unfold f514l1
    refine iter_list (k := 1000) (A := Unit) l (fun i a => (l, (i : Int), ())) (fun m a => some (m.all fewT)) (fun i a => True) ?_ ?_ (by omega) () trivial
    · intro rec a _
      unfold f514l1s
      simp
    · intro rec i a x hx hi hp
      unfold f514l1s f548F
      simp only [nn, ltn hi, Bool.and_self, cond_true, Int.toNat_natCast, getD_of hx, wi_succ (i := i) (by omega), bind_some']
      by_cases h1 : x.1.2.1.2.length ≤ 22
      · rw [bif_false (by simp; omega)]
        by_cases h2 : x.1.2.2.1.length ≤ 6
        · rw [bif_false (by simp; omega)]
          by_cases h3 : x.2.length ≤ 62
          · rw [bif_false (by simp; omega), f514l0q _ _ l i x hx h3]
            have hf : fewT x = fewR x.2 := by simp [fewT, h1, h2, h3]
            cases h4 : fewR x.2 with
            | true =>
              rw [if_pos rfl]
              exact .inl ⟨(), trivial, by simp only [wi_succ (i := i) (show i < 9223372036854775807 by omega)], by simp [hf, h4]⟩
            | false => exact .inr (by simp [hf, h4])
          · exact .inr (by rw [bif_true (by simp; omega)]; simp [fewT, h3])
        · exact .inr (by rw [bif_true (by simp; omega)]; simp [fewT, h2])
      · exact .inr (by rw [bif_true (by simp; omega)]; simp [fewT, h1])
  · rw [bif_true (by simp; omega), decide_eq_false h10]
    rfl

theorem f526q (f : Fil) (h1 : f.2.1.2.length ≤ 1000) (h2 : f.2.2.1.length ≤ 1000) : f526F 1000 f = some f := by
  unfold f526F f571F
  rw [bif_true (by simp; omega)]
  simp only [bind_some']
  rw [bif_true (by simp; omega)]
  rfl
theorem f551q (t : Tbl) (h1 : t.1.2.1.2.length ≤ 1000) (h2 : t.1.2.2.1.length ≤ 1000) (h3 : t.2.length ≤ 1000) : f551F 1000 t = some t := by
  unfold f551F
  rw [show ((t.1.1, ((t.1.2.1.1, t.1.2.1.2), (t.1.2.2.1, t.1.2.2.2))) : Fil) = t.1 from rfl, f526q _ h1 h2]
  simp only [bind_some']
  rw [bif_true (by simp; omega)]
  rfl
theorem fewT_ok {t : Tbl} (h : fewT t = true) : t.1.2.1.2.length ≤ 22 ∧ t.1.2.2.1.length ≤ 6 ∧ t.2.length ≤ 62 := by
  unfold fewT at h
  simp only [Bool.and_eq_true, decide_eq_true_eq] at h
  exact h.1
theorem fewTs_ok {l : List Tbl} (h : fewTs l = true) : l.length ≤ 10 ∧ ∀ t ∈ l, t.1.2.1.2.length ≤ 22 ∧ t.1.2.2.1.length ≤ 6 ∧ t.2.length ≤ 62 := by
  unfold fewTs at h
  simp only [Bool.and_eq_true, decide_eq_true_eq, List.all_eq_true] at h
  exact ⟨h.1, fun t ht => fewT_ok (h.2 t ht)⟩
theorem f516w (l : List Tbl) (h1 : l.length ≤ 900) (h2 : ∀ t ∈ l, t.1.2.1.2.length ≤ 1000 ∧ t.1.2.2.1.length ≤ 1000 ∧ t.2.length ≤ 1000) : f516F 1000 l = some l := by
  unfold f516F f516l0
  refine iter_list (k := 1000) (A := List Tbl) l (fun i a => (l, (i : Int), a, ())) (fun m a => some (a ++ m)) (fun i a => a.length = i) ?_ ?_ (by omega) [] rfl
  · intro rec a _
    unfold f516l0s
    simp
  · intro rec i a x hx hi hp
    obtain ⟨b1, b2, b3⟩ := h2 x (List.mem_of_getElem? hx)
    unfold f516l0s
    simp only [nn, ltn hi, Bool.and_self, cond_true, Int.toNat_natCast, getD_of hx, wi_succ (i := i) (by omega)]
    rw [show (((x.1.1, ((x.1.2.1.1, x.1.2.1.2), (x.1.2.2.1, x.1.2.2.2))), x.2) : Tbl) = x from rfl, f551q x b1 b2 b3]
    simp only [bind_some', List.length_singleton]
    rw [bif_true (by simp; omega)]
    exact .inl ⟨a ++ [x], by simp [hp], rfl, by simp⟩
theorem f516q {l : List Tbl} (h : fewTs l = true) : f516F 1000 l = some l := by
  obtain ⟨h1, h2⟩ := fewTs_ok h
  exact f516w l (by omega) fun t ht => by have := h2 t ht; omega

end Go.Proofs.YtobgkcamonlnkaaGreatDoor
set_option linter.unusedVariables false
set_option linter.unusedSimpArgs false
namespace Go.Proofs.YtobgkcamonlnkaaGreatDoor
open Go.Ab

theorem idxN_cases {α : Type} (p : α → Bool) : ∀ (l : List α) (i : Nat), idxN p l i = -1 ∧ (l.any p = false) ∨ ∃ j x, idxN p l i = ((i + j : Nat) : Int) ∧ l[j]? = some x ∧ p x = true
  | [], _ => .inl ⟨rfl, rfl⟩
  | x :: l, i => by
    unfold idxN
    by_cases h : p x = true
    · rw [if_pos h]
      exact .inr ⟨0, x, by simp, by simp, h⟩
    · rw [if_neg h]
      rcases idxN_cases p l (i + 1) with ⟨h1, h2⟩ | ⟨j, y, h1, h2, h3⟩
      · exact .inl ⟨h1, by simp [h, h2]⟩
      · exact .inr ⟨j + 1, y, by rw [h1]; congr 1; omega, by simpa using h2, h3⟩
end Go.Proofs.YtobgkcamonlnkaaGreatDoor
set_option linter.unusedVariables false
set_option linter.unusedSimpArgs false
namespace Go.Ab

structure Kds {α : Type} (ids : List Nat) (H : List (Kid α)) (f : Nat → List α) : Prop where
  kid : ∀ (v id : Nat), ids[v]? = some id → id = 0 ∧ f v = [] ∨ ∃ c, 1 ≤ id ∧ H[id - 1]? = some (.own (f v) c)
  ne : ∀ (v v' id : Nat), ids[v]? = some id → ids[v']? = some id → id ≠ 0 → v = v'
theorem Kds.read {α : Type} {ids : List Nat} {H : List (Kid α)} {f : Nat → List α} (h : Kds ids H f) {v id : Nat} (hv : ids[v]? = some id) : kget H id = f v ∧ kown H id = true := by
  rcases h.kid v id hv with ⟨rfl, h2⟩ | ⟨c, h1, h2⟩
  · rw [h2]; exact ⟨rfl, rfl⟩
  · obtain ⟨j, rfl⟩ : ∃ j, id = j + 1 := ⟨id - 1, by omega⟩
    rw [Nat.add_sub_cancel] at h2
    constructor
    · simp only [kget, kidAt, h2]
    · simp only [kown, h2]
theorem kill_len {α : Type} (H : List (Kid α)) : ∀ id, (kkill H id).length = H.length
  | 0 => rfl
  | j + 1 => by simp [kkill]
theorem kill_get {α : Type} (H : List (Kid α)) {id j : Nat} (h : j + 1 ≠ id) : (kkill H id)[j]? = H[j]? := by
  cases id with
  | zero => rfl
  | succ i =>
    simp only [kkill]
    rw [List.getElem?_set_ne (by omega)]
theorem Kds.app {α : Type} {ids : List Nat} {H : List (Kid α)} {f : Nat → List α} (h : Kds ids H f) {v id : Nat} (hv : ids[v]? = some id) (ys : List α) :
    Kds (ids.set v (H.length + 1)) (kapp H id (kget H id).length ys) (fun u => if u = v then f v ++ ys else f u) := by
  have hr := (h.read hv).1
  have hlt : v < ids.length := (List.getElem?_eq_some_iff.1 hv).1
  have hold : ∀ u k, u ≠ v → ids[u]? = some k → k ≠ 0 → k ≠ H.length + 1 := by
    intro u k _ hu hk
    rcases h.kid u k hu with ⟨h0, _⟩ | ⟨c, h1, h2⟩
    · exact absurd h0 hk
    · have := (List.getElem?_eq_some_iff.1 h2).1
      omega
  refine ⟨fun u k hu => ?_, fun u u' k hu hu' hk => ?_⟩
  · by_cases e : u = v
    · subst e
      rw [List.getElem?_set_self hlt] at hu
      injection hu with hu
      subst hu
      refine .inr ⟨max (kroom H id) ((kget H id).length + ys.length), by omega, ?_⟩
      rw [Nat.add_sub_cancel, if_pos rfl]
      unfold kapp
      rw [List.getElem?_append_right (by rw [kill_len]; omega), kill_len, Nat.sub_self, hr, List.take_of_length_le (Nat.le_refl _)]
      rfl
    · rw [List.getElem?_set_ne (fun c => e c.symm)] at hu
      rw [if_neg e]
      rcases h.kid u k hu with h0 | ⟨c, h1, h2⟩
      · exact .inl h0
      · refine .inr ⟨c, h1, ?_⟩
        have hl := (List.getElem?_eq_some_iff.1 h2).1
        unfold kapp
        rw [List.getElem?_append_left (by rw [kill_len]; omega), kill_get H (fun c => ?_)]
        · exact h2
        · have : k = id := by omega
          subst this
          exact e (h.ne u v k hu hv (by omega))
  · by_cases e : u = v <;> by_cases e' : u' = v
    · rw [e, e']
    · subst e
      rw [List.getElem?_set_self hlt] at hu
      rw [List.getElem?_set_ne (fun c => e' c.symm)] at hu'
      injection hu with hu
      exact absurd hu.symm (hold u' k e' hu' hk)
    · subst e'
      rw [List.getElem?_set_self hlt] at hu'
      rw [List.getElem?_set_ne (fun c => e c.symm)] at hu
      injection hu' with hu'
      exact absurd hu'.symm (hold u k e hu hk)
    · rw [List.getElem?_set_ne (fun c => e c.symm)] at hu
      rw [List.getElem?_set_ne (fun c => e' c.symm)] at hu'
      exact h.ne u u' k hu hu' hk
theorem Kds.push {α : Type} {ids : List Nat} {H : List (Kid α)} {f : Nat → List α} (h : Kds ids H f) (h0 : f ids.length = []) : Kds (ids ++ [0]) H f := by
  have cas : ∀ u k, (ids ++ [0])[u]? = some k → ids[u]? = some k ∨ u = ids.length ∧ k = 0 := by
    intro u k hu
    by_cases e : u < ids.length
    · rw [List.getElem?_append_left e] at hu; exact .inl hu
    · rw [List.getElem?_append_right (by omega)] at hu
      have : u - ids.length = 0 := by
        cases hz : u - ids.length with
        | zero => rfl
        | succ z => rw [hz] at hu; simp at hu
      rw [this] at hu
      simp at hu
      exact .inr ⟨by omega, hu.symm⟩
  refine ⟨fun u k hu => ?_, fun u u' k hu hu' hk => ?_⟩
  · rcases cas u k hu with h1 | ⟨rfl, rfl⟩
    · exact h.kid u k h1
    · exact .inl ⟨rfl, h0⟩
  · rcases cas u k hu with h1 | ⟨_, h1⟩
    · rcases cas u' k hu' with h2 | ⟨_, h2⟩
      · exact h.ne u u' k h1 h2 hk
      · exact absurd h2 hk
    · exact absurd h1 hk
theorem Kds.congr {α : Type} {ids : List Nat} {H : List (Kid α)} {f g : Nat → List α} (h : Kds ids H f) (he : ∀ v, v < ids.length → g v = f v) : Kds ids H g :=
  ⟨fun v id hv => by rw [he v (List.getElem?_eq_some_iff.1 hv).1]; exact h.kid v id hv, h.ne⟩
theorem Kds.frz {α : Type} {ids : List Nat} {H : List (Kid α)} {f : Nat → List α} (h : Kds ids H f) {v id : Nat} (hv : ids[v]? = some id) : kro (List.map Kid.frz H) id = true ∧ kget (List.map Kid.frz H) id = f v := by
  rcases h.kid v id hv with ⟨rfl, h2⟩ | ⟨c, h1, h2⟩
  · rw [h2]; exact ⟨rfl, rfl⟩
  · obtain ⟨j, rfl⟩ : ∃ j, id = j + 1 := ⟨id - 1, by omega⟩
    rw [Nat.add_sub_cancel] at h2
    have h3 : (List.map Kid.frz H)[j]? = some (.ro (f v)) := by rw [List.getElem?_map, h2]; rfl
    constructor
    · simp only [kro, kidAt, h3]
    · simp only [kget, kidAt, h3]
theorem Kds.nil {α : Type} (H : List (Kid α)) (f : Nat → List α) : Kds [] H f := ⟨fun v id h => by simp at h, fun v v' id h => by simp at h⟩
theorem Kds.zeros {α : Type} (n : Nat) (H : List (Kid α)) {f : Nat → List α} (h : ∀ v, v < n → f v = []) : Kds (List.replicate n 0) H f := by
  refine ⟨fun v id hv => ?_, fun v v' id hv _ hk => ?_⟩
  · obtain ⟨hl, hx⟩ := List.getElem?_eq_some_iff.1 hv
    simp at hl hx
    exact .inl ⟨hx.symm, h v hl⟩
  · obtain ⟨hl, hx⟩ := List.getElem?_eq_some_iff.1 hv
    simp at hx
    exact absurd hx.symm hk
end Go.Ab

namespace Go.Proofs.YtobgkcamonlnkaaGreatDoor
open Go.Ab

theorem f625q (l : List ByteArray) (x : ByteArray) (hl : l.length ≤ 900) : f625F 1000 (l, x) = some (idxN (fun y => strEq x y) l 0) := by
  unfold f625F f625l0
  refine iter_list (k := 1000) (A := Nat) l (fun i a => (l, x, (l.length : Int), (i : Int), ())) (fun m a => some (idxN (fun y => strEq x y) m a)) (fun i a => a = i) ?_ ?_ (by omega) 0 rfl
  · intro rec a _
    unfold f625l0s
    simp [idxN]
  · intro rec i a y hy hi hp
    subst hp
    unfold f625l0s
    simp only [ltn hi, nn, Bool.and_self, cond_true, Int.toNat_natCast, getD_of hy, wi_succ (i := a) (by omega)]
    by_cases h : strEq x y = true
    · exact .inr (by simp [idxN, h])
    · have h' : strEq x y = false := by simpa using h
      exact .inl ⟨a + 1, rfl, by simp [h'], by simp [idxN, h']⟩
theorem strEq_comm (a b : ByteArray) : strEq a b = strEq b a := by
  rw [Bool.eq_iff_iff, strEq_iff, strEq_iff]
  exact eq_comm
theorem f587q (l : List ByteArray) (x : ByteArray) (hl : l.length ≤ 900) : f587F 1000 (l, x) = some (l.any fun y => strEq y x) := by
  unfold f587F
  rw [f625q l x hl]
  simp only [bind_some']
  congr 1
  have e : (fun y => strEq x y) = fun y => strEq y x := funext fun y => strEq_comm x y
  rw [e]
  rcases idxN_cases (fun y => strEq y x) l 0 with ⟨h1, h2⟩ | ⟨j, y, h1, h2, h3⟩
  · rw [h1, h2]; rfl
  · rw [h1]
    have : (l.any fun y => strEq y x) = true := List.any_eq_true.2 ⟨y, List.mem_of_getElem? h2, h3⟩
    rw [this]
    simp
def nmsE (l : List ByteArray) : List ByteArray → Nat → Int
  | [], _ => 0
  | x :: m, i => if isNm x = false then 7 else if ((l.take i).any fun y => strEq y x) = true then 13 else nmsE l m (i + 1)
theorem f560q (l : List ByteArray) (hl : l.length ≤ 900) : f560F 1000 l = some (nmsE l l 0) := by
  unfold f560F f560l0
  refine iter_list (k := 1000) (A := Nat) l (fun i a => (l, l, (l.length : Int), (i : Int), ())) (fun m a => some (nmsE l m a)) (fun i a => a = i) ?_ ?_ (by omega) 0 rfl
  · intro rec a _
    unfold f560l0s
    simp [nmsE]
  · intro rec i a y hy hi hp
    subst hp
    unfold f560l0s
    simp only [ltn hi, nn, Bool.and_self, cond_true, Int.toNat_natCast, getD_of hy, wi_succ (i := a) (by omega), f602q 1000 (by omega), bind_some', sliceB0 (Nat.le_of_lt hi), List.drop_zero, f587q (l.take a) y (by simp; omega), nmsE]
    cases h1 : isNm y with
    | false => exact .inr (by simp)
    | true =>
      cases h2 : ((l.take a).any fun z => strEq z y) with
      | true => exact .inr (by simp)
      | false => exact .inl ⟨a + 1, rfl, by simp, by simp⟩
def bg (n : Int) (L : Nat) : List UInt8 := (low 256 n L).map fun d => UInt8.ofNat d.toNat
theorem bg_ints (n : Int) (L : Nat) : ints (bg n L) = low 256 n L := by
  unfold ints bg
  rw [List.map_map]
  conv => rhs; rw [← List.map_id (low 256 n L)]
  refine List.map_congr_left fun d hd => ?_
  obtain ⟨d0, d1⟩ := low_mem (b := 256) (by decide) hd
  simp only [Function.comp, UInt8.toNat_ofNat', id]
  omega
theorem bg_length (n : Int) (L : Nat) : (bg n L).length = L := by unfold bg; rw [List.length_map, low_length]
theorem shr8 (x : Int) : shrI .i64 x 8 = x / 256 := by
  unfold shrI
  have : (2 : Int) ^ (min (Int.toNat 8) IntKind.i64.bits) = 256 := by decide
  rw [show (2 : Int) ^ (min (Int.toNat 8) (IntKind.bits .i64)) = 256 from this, Int.fdiv_eq_ediv_of_nonneg _ (by decide)]
theorem f561q {n : Int} {L : Nat} (h0 : 0 ≤ n) (h1 : n ≤ 9223372036854775807) (hL : L ≤ 900) : f561F 1000 (n, (L : Int)) = some (ints (bg n L)) := by
  rw [bg_ints]
  unfold f561F
  have c1 : (((decide ((0 : Int) ≤ (L : Int))) && (decide (((L : Int) * 1) ≤ (140737488355328 : Int)))) && (decide ((L : Int) ≤ (281474976710656 : Int)))) = true := by
    simp; omega
  simp only [c1, cond_true]
  unfold f561l0
  have key := iter_for (R := List Int) (Step := fun rec v => f561l0s 1000 rec (fun w => some w.1) v) (fun i => (n / 256 ^ i, (L : Int) - 1 - i, List.replicate (L - i) 0 ++ low 256 n i, ())) L (fin := some (low 256 n L)) ?_ ?_ (k := 1000) (by omega)
  · rw [wi (x := (L : Int) - 1) (by omega) (by omega)]
    simp only [Int.toNat_natCast]
    simpa [low] using key
  · intro rec i hi
    obtain ⟨d0, d1⟩ := div_le (b := 256) (by decide) h0 i
    unfold f561l0s
    have e0 : (decide ((L : Int) - 1 - i ≥ (0 : Int))) = true := by simp; omega
    have e1 : (decide ((0 : Int) ≤ (L : Int) - 1 - i)) = true := by simp; omega
    have e2 : (decide ((L : Int) - 1 - i < ((List.replicate (L - i) (0 : Int) ++ low 256 n i).length : Int))) = true := by
      simp [low_length]; omega
    have e3 : ((L : Int) - 1 - i).toNat = L - 1 - i := by omega
    simp only [e0, e1, e2, e3, Bool.and_self, cond_true]
    rw [shr8, div_pow (by decide), wu8e, set_zeros hi, wi (x := (L : Int) - 1 - i - 1) (by omega) (by omega)]
    congr 2
    simp only [Prod.mk.injEq, and_true]
    exact ⟨by omega, rfl⟩
  · intro rec
    unfold f561l0s
    have e0 : (decide ((L : Int) - 1 - L ≥ (0 : Int))) = false := by simp; omega
    simp only [e0, cond_false]
    simp
def blkH (vol num : Int) (data : List UInt8) (last : Bool) (vols : Int) : List UInt8 :=
  [oneB vol] ++ bg num 2 ++ [oneB ((data.length : Int) + if last = true then 128 else 0)] ++ data ++ List.replicate (52 - data.length) 0 ++ [oneB vols, 0, 0, 0]
def blkB (vol num : Int) (data : List UInt8) (last : Bool) (vols : Int) : List UInt8 := blkH vol num data last vols ++ bg (sumG 1 (blkH vol num data last vols)) 4
theorem blkH_length {vol num : Int} {data : List UInt8} {last : Bool} {vols : Int} (h : data.length ≤ 52) : (blkH vol num data last vols).length = 60 := by
  unfold blkH
  simp [bg_length]
  omega
theorem sum_nn (l : List UInt8) : 0 ≤ sumG 1 l ∧ sumG 1 l ≤ 9223372036854775807 := by
  have := sumG_rng l 1 (by decide) (by decide)
  omega
end Go.Proofs.YtobgkcamonlnkaaGreatDoor
set_option linter.unusedVariables false
set_option linter.unusedSimpArgs false
namespace Go.Proofs.YtobgkcamonlnkaaGreatDoor
open Go.Ab

abbrev Vol := ByteArray × List ByteArray
def nbl (s : List UInt8) : Nat := (s.length + 51) / 52
def vls (n r : Nat) : Nat := (n + r - 1) / r
def chk (s : List UInt8) (i : Nat) : List UInt8 := (s.drop (i * 52)).take 52
def bk (s : List UInt8) (r i : Nat) : ByteArray := S (blkB ((i / r + 1 : Nat) : Int) ((i + 1 : Nat) : Int) (chk s i) (i == nbl s - 1) (vls (nbl s) r : Nat))
def bls (s : List UInt8) (r v i : Nat) : List ByteArray := ((List.range i).filter fun j => j / r == v).map (bk s r)
def volL (names : List ByteArray) (s : List UInt8) (r : Nat) : List Vol := (List.range (vls (nbl s) r)).map fun v => (names.getD v ByteArray.empty, bls s r v (nbl s))

theorem bls_succ (s : List UInt8) (r v i : Nat) : bls s r v (i + 1) = if v = i / r then bls s r v i ++ [bk s r i] else bls s r v i := by
  unfold bls
  rw [List.range_succ, List.filter_append, List.map_append]
  by_cases h : v = i / r
  · rw [if_pos h]
    simp [h]
  · rw [if_neg h]
    have : (i / r == v) = false := by simpa using fun e : i / r = v => h e.symm
    simp [this]
theorem vls_lt {n r i : Nat} (hr : 1 ≤ r) (h : i < n) : i / r < vls n r := by
  unfold vls
  have h1 : (i / r + 1) * r ≤ n + r - 1 := by
    have := Nat.div_mul_le_self i r
    rw [Nat.add_mul]
    omega
  have := (Nat.le_div_iff_mul_le hr).2 h1
  omega
theorem vls_succ {r i : Nat} (hr : 1 ≤ r) : vls (i + 1) r = i / r + 1 := by
  unfold vls
  rw [show i + 1 + r - 1 = i + r by omega, Nat.add_div_right _ hr]
theorem vls_le {n r V : Nat} (hr : 1 ≤ r) (h : vls n r ≤ V) : n ≤ V * r := by
  unfold vls at h
  have h1 := Nat.lt_mul_div_succ (n + r - 1) hr
  have h2 : r * ((n + r - 1) / r + 1) ≤ r * (V + 1) := Nat.mul_le_mul_left _ (by omega)
  have h3 : r * (V + 1) = V * r + r := by rw [Nat.mul_add, Nat.mul_one, Nat.mul_comm]
  omega
theorem nbl_lt {s : List UInt8} {i : Nat} (h : i < nbl s) : i * 52 < s.length := by
  unfold nbl at h
  omega
theorem chk_len (s : List UInt8) (i : Nat) : (chk s i).length ≤ 52 := by unfold chk; simp; omega
theorem chk_cut {s : List UInt8} {i : Nat} (h : i < nbl s) : ((s.take (min ((i + 1) * 52) s.length)).drop (i * 52)) = chk s i := by
  have := nbl_lt h
  unfold chk
  rw [List.drop_take]
  by_cases hc : (i + 1) * 52 ≤ s.length
  · rw [Nat.min_eq_left hc]
    congr 1
    omega
  · rw [Nat.min_eq_right (by omega), List.take_of_length_le (by simp), List.take_of_length_le (by simp; omega)]

theorem or128 : ∀ n : Fin 53, bits .or .i64 (n.val : Int) 128 = n.val + 128 := by decide +kernel
theorem or128' {n : Nat} (h : n ≤ 52) : bits .or .i64 (n : Int) 128 = (n : Int) + 128 := or128 ⟨n, by omega⟩

structure VolI (names : List ByteArray) (s : List UInt8) (r V i : Nat) (out : List (ByteArray × Nat)) (H : List (Kid ByteArray)) : Prop where
  len : out.length = V
  nam : ∀ (v : Nat) e, out[v]? = some e → e.1 = if v * r < i then names.getD v ByteArray.empty else ByteArray.empty
  kds : Kds (out.map (·.2)) H fun v => bls s r v i

theorem VolI.fin {names : List ByteArray} {s : List UInt8} {r : Nat} {out : List (ByteArray × Nat)} {H : List (Kid ByteArray)} (hr : 1 ≤ r) (h : VolI names s r (vls (nbl s) r) (nbl s) out H) :
    ((out.all fun q => (true && (kro (List.map Kid.frz H) q.2))) && true) = true ∧ (out.map fun q => (q.1, (kget (List.map Kid.frz H) q.2))) = volL names s r := by
  have hk : ∀ (v : Nat) e, out[v]? = some e → (out.map (·.2))[v]? = some e.2 := fun v e he => by rw [List.getElem?_map, he]; rfl
  constructor
  · rw [Bool.and_true, List.all_eq_true]
    intro e he
    obtain ⟨v, hv⟩ := List.getElem?_of_mem he
    rw [(h.kds.frz (hk v e hv)).1]
    rfl
  · apply List.ext_getElem?
    intro v
    unfold volL
    rw [List.getElem?_map, List.getElem?_map]
    by_cases hv : v < vls (nbl s) r
    · obtain ⟨e, he⟩ : ∃ e, out[v]? = some e := ⟨_, List.getElem?_eq_getElem (by rw [h.len]; exact hv)⟩
      rw [he, List.getElem?_range hv]
      simp only [Option.map_some]
      have h1 := h.nam v e he
      have hlt : v * r < nbl s := by
        rcases Nat.lt_or_ge (v * r) (nbl s) with h2 | h2
        · exact h2
        · exfalso
          have : vls (nbl s) r ≤ v := by
            unfold vls
            have h3 : nbl s + r - 1 < (v + 1) * r := by rw [Nat.add_mul]; omega
            have := (Nat.div_lt_iff_lt_mul hr).2 h3
            omega
          omega
      rw [if_pos hlt] at h1
      rw [h1, (h.kds.frz (hk v e he)).2]
    · rw [List.getElem?_eq_none (by rw [h.len]; omega), List.getElem?_eq_none (by simp; omega)]
      rfl

theorem VolI.step {names : List ByteArray} {s : List UInt8} {r V i : Nat} {out : List (ByteArray × Nat)} {H : List (Kid ByteArray)} (hr : 1 ≤ r) (h : VolI names s r V i out H) {e : ByteArray × Nat} (he : out[i / r]? = some e) :
    VolI names s r V (i + 1) (out.set (i / r) (names.getD (i / r) ByteArray.empty, H.length + 1)) (kapp H e.2 (kget H e.2).length [bk s r i]) := by
  have hlt : i / r < out.length := (List.getElem?_eq_some_iff.1 he).1
  have hk : (out.map (·.2))[i / r]? = some e.2 := by rw [List.getElem?_map, he]; rfl
  have hdm := Nat.div_mul_le_self i r
  refine ⟨by rw [List.length_set]; exact h.len, fun v q hq => ?_, ?_⟩
  · by_cases e' : v = i / r
    · subst e'
      rw [List.getElem?_set_self hlt] at hq
      injection hq with hq
      subst hq
      rw [if_pos (by omega)]
    · rw [List.getElem?_set_ne (fun c => e' c.symm)] at hq
      rw [h.nam v q hq]
      have : v * r < i + 1 ↔ v * r < i := by
        constructor
        · intro h1
          rcases Nat.lt_or_ge (v * r) i with h2 | h2
          · exact h2
          · exfalso
            apply e'
            have : i = v * r := by omega
            rw [this, Nat.mul_div_cancel _ hr]
        · omega
      simp only [this]
  · have := h.kds.app hk [bk s r i]
    rw [List.map_set]
    refine this.congr fun v hv => ?_
    rw [bls_succ]
    by_cases e' : v = i / r
    · rw [if_pos e', if_pos e', e']
    · rw [if_neg e', if_neg e']

theorem tdiv_nat (a b : Nat) : Int.tdiv (a : Int) (b : Int) = ((a / b : Nat) : Int) := by
  rw [Int.tdiv_eq_ediv_of_nonneg (by omega)]
  simp
theorem set_set' {α : Type} (l : List α) (i : Nat) (a b : α) : (l.set i a).set i b = l.set i b := by simp

theorem f521p0q {R : Type} (k0 : List ByteArray × Int × ByteArray × Int × Int × Int × ByteArray × Int × Int × Int × List (ByteArray × Nat) × List (Kid ByteArray) × Unit → Option R) (nm : List ByteArray) (r : Int) (st : ByteArray) (n i : Nat) (V : Int) (d : ByteArray) (c : Nat) (hc : c ≤ 52) (hn : 1 ≤ n) (hn1 : n ≤ 1000) (a b : Int) (o : List (ByteArray × Nat)) (H : List (Kid ByteArray)) :
    f521p0 1000 k0 (nm, r, st, (n : Int), V, (i : Int), d, (c : Int), a, b, o, H, ()) = k0 (nm, r, st, (n : Int), V, (i : Int), d, (c : Int) + (if (i == n - 1) = true then 128 else 0), a, b, o, H, ()) := by
  unfold f521p0
  simp only [wi (x := (n : Int) - 1) (by omega) (by omega)]
  have e : ((i : Int) == (n : Int) - 1) = (i == n - 1) := by
    rw [Bool.eq_iff_iff]
    simp only [beq_iff_eq]
    omega
  rw [e]
  cases (i == n - 1) with
  | true => simp only [cond_true, or128' hc, if_true]
  | false => simp

theorem mn1 (a b : Nat) : mnI (a : Int) (b : Int) = ((min a b : Nat) : Int) := by
  unfold mnI
  split <;> omega
theorem f521l1q (names : List ByteArray) (s : List UInt8) (r : Nat) (hr : 1 ≤ r) (hr2 : r ≤ 60) (hn : nbl s ≤ 360) (hV : vls (nbl s) r ≤ names.length) (hV6 : names.length ≤ 6) (hs : s.length ≤ 1000000) {R : Type} (k0 : List (ByteArray × Nat) × List (Kid ByteArray) × Unit → Option R) (fin : Option R)
    (hfin : ∀ out H, VolI names s r (vls (nbl s) r) (nbl s) out H → k0 (out, H, ()) = fin) :
    f521l1 1000 k0 (names, (r : Int), S s, (nbl s : Int), (vls (nbl s) r : Int), (nbl s : Int), (0 : Int), List.replicate (vls (nbl s) r) (ByteArray.empty, 0), [], ()) = fin := by
  unfold f521l1
  refine iter_up (k := 1000) (A := List (ByteArray × Nat) × List (Kid ByteArray)) (nbl s) (fun i a => (names, (r : Int), S s, (nbl s : Int), (vls (nbl s) r : Int), (nbl s : Int), (i : Int), a.1, a.2, ())) (fun _ _ => fin) (fun i a => VolI names s r (vls (nbl s) r) i a.1 a.2) ?_ ?_ (by omega) (List.replicate (vls (nbl s) r) (ByteArray.empty, 0), []) ?_
  · intro rec a hp
    unfold f521l1s
    simp only [ltn_self, cond_false]
    exact hfin _ _ hp
  · intro rec i a hi hp
    obtain ⟨out, H⟩ := a
    have hcl := chk_len s i
    have hcs : (S (chk s i)).size = (chk s i).length := S_size _
    have hlt := nbl_lt hi
    have hv := vls_lt hr hi
    have hvn : i / r < names.length := by omega
    have hv60 : i / r ≤ 1000 := by omega
    have hj0 : (0 : Int) ≤ ((i / r : Nat) : Int) := Int.natCast_nonneg _
    have hj1 : ((i / r : Nat) : Int) ≤ 1000 := Int.ofNat_le.2 hv60
    obtain ⟨e, he⟩ : ∃ e, out[i / r]? = some e := ⟨_, List.getElem?_eq_getElem (by rw [hp.len]; exact hv)⟩
    have hel : i / r < out.length := (List.getElem?_eq_some_iff.1 he).1
    obtain ⟨hk1, hk2⟩ := hp.kds.read (show (out.map (·.2))[i / r]? = some e.2 by rw [List.getElem?_map, he]; rfl)
    have hbl : (bls s r (i / r) i).length ≤ i := by
      unfold bls
      rw [List.length_map]
      exact Nat.le_trans (List.length_filter_le _ _) (by simp)
    obtain ⟨nm, hnm⟩ : ∃ nm, names[i / r]? = some nm := ⟨_, List.getElem?_eq_getElem hvn⟩
    have hb60 : (blkH ((i / r + 1 : Nat) : Int) ((i + 1 : Nat) : Int) (chk s i) (i == nbl s - 1) (vls (nbl s) r : Nat)).length = 60 := blkH_length hcl
    unfold f521l1s
    simp only [ltn hi, cond_true]
    rw [wi (x := (i : Int) + 1) (by omega) (by omega), wi (x := ((i : Int) + 1) * 52) (by omega) (by omega), wi (x := (i : Int) * 52) (by omega) (by omega)]
    rw [show ((i : Int) + 1) * 52 = (((i + 1) * 52 : Nat) : Int) by omega, show (i : Int) * 52 = ((i * 52 : Nat) : Int) by omega]
    simp only [S_size, mn1, Int.toNat_natCast]
    rw [sliceB (by omega) (by omega), cond_true, S_cut, chk_cut hi, hcs, f521p0q _ _ _ _ _ _ _ _ _ hcl (by omega) (by omega)]
    have er : (!decide ((r : Int) = 0)) = true := by simp; omega
    simp only [er, cond_true, tdiv_nat]
    rw [wi (x := ((i / r : Nat) : Int)) (by omega) (by omega), wi (x := ((i / r : Nat) : Int) + 1) (by omega) (by omega)]
    rw [show ((i : Int) + 1) = ((i + 1 : Nat) : Int) by omega, show (((i / r : Nat) : Int) + 1) = ((i / r + 1 : Nat) : Int) by omega]
    have e2 := f561q (n := ((i + 1 : Nat) : Int)) (L := 2) (by omega) (by omega) (by omega)
    rw [show ((2 : Nat) : Int) = 2 from rfl] at e2
    have hz : List.replicate (52 - (chk s i).length) (0 : Int) = ints (List.replicate (52 - (chk s i).length) 0) := by simp [ints]
    have h4 : ([IntKind.u8.wrap ((vls (nbl s) r : Nat) : Int), 0, 0, 0] : List Int) = ints [oneB ((vls (nbl s) r : Nat) : Int), 0, 0, 0] := by
      simp only [ints, List.map_cons, List.map_nil, one_int]
      rfl
    have h1 : ∀ b : Int, [IntKind.u8.wrap b] = ints [oneB b] := fun b => by rw [one_int]; rfl
    have e52 : IntKind.i64.wrap (52 - ((chk s i).length : Int)) = ((52 - (chk s i).length : Nat) : Int) := by rw [wi (by omega) (by omega)]; omega
    have wi1 : IntKind.i64.wrap ((i + 1 : Nat) : Int) = ((i + 1 : Nat) : Int) := wi (by omega) (by omega)
    simp only [wi1, S_size, e2, bind_some', h1, ← ints_app, S_bytes, ints_length, e52, Int.toNat_natCast, hz, h4, List.length_append, List.length_singleton, bg_length, List.length_replicate, List.length_cons, List.length_nil]
    rw [bif_true (by simp), bif_true (by simp), bif_true (by simp; omega), bif_true (by simp; omega), bif_true (by simp; omega)]
    have eH : [oneB ((i / r + 1 : Nat) : Int)] ++ bg ((i + 1 : Nat) : Int) 2 ++ [oneB (((chk s i).length : Int) + if (i == nbl s - 1) = true then 128 else 0)] ++ chk s i ++ List.replicate (52 - (chk s i).length) 0 ++ [oneB ((vls (nbl s) r : Nat) : Int), 0, 0, 0] = blkH ((i / r + 1 : Nat) : Int) ((i + 1 : Nat) : Int) (chk s i) (i == nbl s - 1) (vls (nbl s) r : Nat) := rfl
    rw [eH, S_back, f562q _ (by omega)]
    simp only [bind_some']
    have e4 := f561q (L := 4) (sum_nn (blkH ((i / r + 1 : Nat) : Int) ((i + 1 : Nat) : Int) (chk s i) (i == nbl s - 1) (vls (nbl s) r : Nat))).1 (sum_nn _).2 (by omega)
    rw [show ((4 : Nat) : Int) = 4 from rfl] at e4
    rw [e4]
    simp only [bind_some', ← ints_app, S_back, ints_length, bg_length]
    rw [bif_true (by simp; omega)]
    simp only [nn, ltn hvn, ltn hel, Bool.and_self, cond_true, getD_of hnm, getD_of he, List.length_set]
    have hset : ∀ (x : ByteArray × Nat), (out.set (i / r) x).getD (i / r) (ByteArray.empty, 0) = x := fun x => getD_of (List.getElem?_set_self hel)
    simp only [hset, hk1, hk2, Bool.true_and, List.length_singleton]
    rw [bif_true (by simp; omega)]
    refine .inl ⟨(out.set (i / r) (names.getD (i / r) ByteArray.empty, H.length + 1), kapp H e.2 (kget H e.2).length [bk s r i]), hp.step hr he, ?_, by trivial⟩
    simp only [hk1, set_set', getD_of hnm]
    rfl
  · refine ⟨by simp, fun v e he => ?_, ?_⟩
    · obtain ⟨hl, hx⟩ := List.getElem?_eq_some_iff.1 he
      simp at hl hx
      rw [if_neg (by omega), ← hx]
    · rw [List.map_replicate]
      exact Kds.zeros _ _ fun v _ => rfl

noncomputable def savedS (l : List Tbl) (names : List ByteArray) (room : Int) : List Vol × Int :=
  if (chkTs l).2 ≠ 0 then ([], (chkTs l).2) else if room < 1 ∨ room > 60 then ([], 3) else if names.length > 6 then ([], 2) else if nmsE names names 0 ≠ 0 then ([], nmsE names names 0)
  else if vls (nbl (strm l)) room.toNat > names.length then ([], 30) else (volL names (strm l) room.toNat, 0)

theorem strm_length {l : List Tbl} (h : (chkTs l).2 = 0) : 1 ≤ (strm l).length ∧ (strm l).length ≤ 104001 := by
  have h8 := (ts_ok h).1
  have := flat_len tblB 13000 l fun t ht => tblB_length (ts_mem h ht)
  unfold strm
  simp only [List.length_cons]
  omega
theorem f521q (l : List Tbl) (names : List ByteArray) (room : Int) : f521F 1000 (l, names, room) = some (savedS l names room) := by
  unfold f521F savedS
  simp only [f517q, bind_some']
  by_cases h : (chkTs l).2 = 0
  · rw [if_neg (fun c => c h), if_neg (fun c => c h)]
    simp only [bne_self_eq_false, cond_false]
    by_cases h1 : room < 1
    · rw [bif_true (by simpa using h1), if_pos (.inl h1)]
    · rw [bif_false (by simpa using h1)]
      by_cases h60 : room > 60
      · rw [bif_true (by simpa using h60), if_pos (.inr h60)]
      · rw [bif_false (by simpa using h60), if_neg (by omega)]
        by_cases h6 : names.length > 6
        · rw [if_pos h6, show decide ((names.length : Int) > 6) = true from len_gt h6]
          rfl
        · rw [if_neg h6, show decide ((names.length : Int) > 6) = false from len_ngt h6, f560q names (by omega)]
          simp only [cond_false, bind_some']
          by_cases hn : nmsE names names 0 = 0
          · rw [bif_false (by rw [hn]; rfl), if_neg (fun c => c hn)]
            obtain ⟨s1, s2⟩ := strm_length h
            obtain ⟨r, rfl⟩ : ∃ r : Nat, room = r := ⟨room.toNat, by omega⟩
            have en : IntKind.i64.wrap (Int.tdiv (IntKind.i64.wrap (IntKind.i64.wrap (((S (strm l)).size : Int) + 52) - 1)) 52) = (nbl (strm l) : Int) := by
              rw [S_size, wi (x := ((strm l).length : Int) + 52) (by omega) (by omega), wi (x := ((strm l).length : Int) + 52 - 1) (by omega) (by omega), show ((strm l).length : Int) + 52 - 1 = (((strm l).length + 51 : Nat) : Int) by omega, show (52 : Int) = ((52 : Nat) : Int) from rfl, tdiv_nat]
              have : nbl (strm l) ≤ 1000000 := by unfold nbl; omega
              unfold nbl at this ⊢
              rw [wi (by omega) (by omega)]
            have hnb : nbl (strm l) ≤ 1000000 := by unfold nbl; omega
            have ev : IntKind.i64.wrap (Int.tdiv (IntKind.i64.wrap (IntKind.i64.wrap ((nbl (strm l) : Int) + (r : Int)) - 1)) (r : Int)) = (vls (nbl (strm l)) r : Int) := by
              rw [wi (x := (nbl (strm l) : Int) + (r : Int)) (by omega) (by omega), wi (x := (nbl (strm l) : Int) + (r : Int) - 1) (by omega) (by omega), show (nbl (strm l) : Int) + (r : Int) - 1 = ((nbl (strm l) + r - 1 : Nat) : Int) by omega, tdiv_nat]
              have : vls (nbl (strm l)) r ≤ nbl (strm l) + r - 1 := Nat.div_le_self _ _
              unfold vls at this ⊢
              have h0 : (0 : Int) ≤ (((nbl (strm l) + r - 1) / r : Nat) : Int) := Int.natCast_nonneg _
              rw [wi (by omega) (by omega)]
            have er : (!decide ((r : Int) = 0)) = true := by simp; omega
            simp only [en, ev, er, cond_true, Int.toNat_natCast]
            by_cases hv : vls (nbl (strm l)) r > names.length
            · rw [if_pos hv, show decide ((vls (nbl (strm l)) r : Int) > (names.length : Int)) = true from len_gt hv]
              rfl
            · rw [if_neg hv, show decide ((vls (nbl (strm l)) r : Int) > (names.length : Int)) = false from len_ngt hv]
              have hn2 := vls_le (n := nbl (strm l)) (r := r) (V := 6) (by omega) (by omega)
              simp only [cond_false]
              rw [bif_true (by simp; omega)]
              exact f521l1q names (strm l) r (by omega) (by omega) (by omega) (by omega) (by omega) (by omega) _ _ fun out H hI => by
                obtain ⟨c1, c2⟩ := hI.fin (by omega)
                rw [c1, c2]
                rfl
          · rw [bif_true (bne0 hn), if_pos hn]
  · rw [if_pos h, if_pos h]
    simp only [bif_true (bne0 h)]

structure VolR (names : List ByteArray) (s : List UInt8) (r i : Nat) (out : List (ByteArray × Nat)) (H : List (Kid ByteArray)) : Prop where
  len : out.length = vls i r
  nam : ∀ (v : Nat) e, out[v]? = some e → e.1 = names.getD v ByteArray.empty
  kds : Kds (out.map (·.2)) H fun v => bls s r v i

theorem VolR.fin {names : List ByteArray} {s : List UInt8} {r : Nat} {out : List (ByteArray × Nat)} {H : List (Kid ByteArray)} (h : VolR names s r (nbl s) out H) :
    ((out.all fun q => (true && (kro (List.map Kid.frz H) q.2))) && true) = true ∧ (out.map fun q => (q.1, (kget (List.map Kid.frz H) q.2))) = volL names s r := by
  have hk : ∀ (v : Nat) e, out[v]? = some e → (out.map (·.2))[v]? = some e.2 := fun v e he => by rw [List.getElem?_map, he]; rfl
  constructor
  · rw [Bool.and_true, List.all_eq_true]
    intro e he
    obtain ⟨v, hv⟩ := List.getElem?_of_mem he
    rw [(h.kds.frz (hk v e hv)).1]
    rfl
  · apply List.ext_getElem?
    intro v
    unfold volL
    rw [List.getElem?_map, List.getElem?_map]
    by_cases hv : v < vls (nbl s) r
    · obtain ⟨e, he⟩ : ∃ e, out[v]? = some e := ⟨_, List.getElem?_eq_getElem (by rw [h.len]; exact hv)⟩
      rw [he, List.getElem?_range hv]
      simp only [Option.map_some]
      rw [h.nam v e he, (h.kds.frz (hk v e he)).2]
    · rw [List.getElem?_eq_none (by rw [h.len]; omega), List.getElem?_eq_none (by simp; omega)]
      rfl

theorem f522q (l : List ByteArray) (h : l.length ≤ 1000) : f522F 1000 l = some l := by
  unfold f522F
  rw [bif_true (by simp; omega)]
  rfl
end Go.Proofs.YtobgkcamonlnkaaGreatDoor
set_option linter.unusedVariables false
set_option linter.unusedSimpArgs false
namespace Go.Proofs.YtobgkcamonlnkaaGreatDoor
open Go.Ab

abbrev PE (α : Type) := Except Int (α × List UInt8)
def PE.bd {α β : Type} (r : PE α) (g : α → List UInt8 → PE β) : PE β :=
  match r with
  | .ok (v, t) => g v t
  | .error e => .error e
def pTake (n : Nat) (l : List UInt8) : PE (List UInt8) := if l.length < n then .error 9 else .ok (l.take n, l.drop n)
def pNum (m : Nat) : List UInt8 → PE Nat
  | [] => .error 9
  | b :: t => if m < b.toNat then .error 5 else .ok (b.toNat, t)
def trm (l : List UInt8) : List UInt8 := Lib.trimRightB l 32
def pName (l : List UInt8) : PE ByteArray :=
  if l.length < 10 then .error 9 else if (32 : UInt8) ∈ trm (l.take 10) then .error 5 else .ok (S (trm (l.take 10)), l.drop 10)
def pField (l : List UInt8) : PE Fld :=
  PE.bd (pName l) fun nm l => PE.bd (pNum 255 l) fun a l => PE.bd (pNum 255 l) fun b l => PE.bd (pNum 255 l) fun c l => .ok ((nm, ((a : Int), (b : Int), (c : Int))), l)
def pKey (l : List UInt8) : PE Key :=
  PE.bd (pName l) fun nm l => PE.bd (pNum 1 l) fun b l => .ok ((nm, b == 1), l)
def pRec (sz : Nat) (l : List UInt8) : PE Rcd :=
  PE.bd (pNum 1 l) fun b l => if b = 1 then PE.bd (pTake sz l) fun s l => .ok ((false, S s), l) else .ok ((true, ByteArray.empty), l)
def pMany {α : Type} (p : List UInt8 → PE α) : Nat → List UInt8 → PE (List α)
  | 0, l => .ok ([], l)
  | n + 1, l => PE.bd (p l) fun v t => PE.bd (pMany p n t) fun vs t => .ok (v :: vs, t)
def pFile (l : List UInt8) : PE Fil :=
  PE.bd (pName l) fun fn l => PE.bd (pName l) fun nm l => PE.bd (pNum 20 l) fun n l => PE.bd (pMany pField n l) fun fs l =>
  PE.bd (pNum 4 l) fun n l => PE.bd (pMany pKey n l) fun ks l => PE.bd (pNum 1 l) fun u l => .ok ((fn, ((nm, fs), (ks, u == 1))), l)
def pTable (l : List UInt8) : PE Tbl :=
  PE.bd (pFile l) fun f l => if (chkFile f).2 ≠ 0 then .error (chkFile f).2 else
  PE.bd (pNum 60 l) fun n l => PE.bd (pMany (pRec (sumW f.2.1.2).toNat) n l) fun rs l => .ok ((f, rs), l)
noncomputable def tblsIn (l : List UInt8) : List Tbl × Int :=
  match PE.bd (pNum 8 l) fun n l => pMany pTable n l with
  | .error e => ([], e)
  | .ok (ts, t) => if t ≠ [] then ([], 10) else if (chkTs ts).2 ≠ 0 then ([], (chkTs ts).2) else (ts, 0)

def PR {α : Type} (r : PE α) (Q : α → ByteArray → Int → Prop) : Prop :=
  match r with
  | .ok (v, t) => Q v (S t) 0
  | .error e => e ≠ 0 ∧ ∃ v t, Q v t e
theorem PR.bd {α β : Type} {r : PE α} {Q : α → ByteArray → Int → Prop} {g : α → List UInt8 → PE β} {Q' : β → ByteArray → Int → Prop} (h : PR r Q)
    (h1 : ∀ v t, Q v (S t) 0 → PR (g v t) Q') (h2 : ∀ e v t, e ≠ 0 → Q v t e → ∃ v' t', Q' v' t' e) : PR (PE.bd r g) Q' := by
  match r, h with
  | .ok (v, t), h => exact h1 v t h
  | .error e, h =>
    obtain ⟨he, v, t, hq⟩ := h
    exact ⟨he, h2 e v t he hq⟩
theorem PR.bdE {α β : Type} {r : PE α} {Q : α → ByteArray → Int → Prop} {g : α → List UInt8 → PE β} {Q' : β → ByteArray → Int → Prop} (h : PR r Q)
    (h1 : ∀ v t, r = .ok (v, t) → Q v (S t) 0 → PR (g v t) Q') (h2 : ∀ e v t, e ≠ 0 → Q v t e → ∃ v' t', Q' v' t' e) : PR (PE.bd r g) Q' := by
  match r, h with
  | .ok (v, t), h => exact h1 v t rfl h
  | .error e, h =>
    obtain ⟨he, v, t, hq⟩ := h
    exact ⟨he, h2 e v t he hq⟩
theorem pNum_le {m : Nat} {l : List UInt8} {v : Nat} {t : List UInt8} (h : pNum m l = .ok (v, t)) : v ≤ m := by
  match l, h with
  | b :: l, h =>
    have h : (if m < b.toNat then Except.error 5 else Except.ok (b.toNat, l) : PE Nat) = .ok (v, t) := h
    by_cases hm : m < b.toNat
    · rw [if_pos hm] at h; cases h
    · rw [if_neg hm] at h
      cases h
      omega
theorem PR.imp {α : Type} {r : PE α} {Q Q' : α → ByteArray → Int → Prop} (h : PR r Q) (hi : ∀ v t e, Q v t e → Q' v t e) : PR r Q' := by
  match r, h with
  | .ok (v, t), h => exact hi _ _ _ h
  | .error e, h =>
    obtain ⟨he, v, t, hq⟩ := h
    exact ⟨he, v, t, hi _ _ _ hq⟩

theorem beq00 : ((0 : Int) == 0) = true := rfl
theorem bne00 : ((0 : Int) != 0) = false := rfl
theorem beq0 {x : Int} (h : x ≠ 0) : (x == 0) = false := by simpa using h
theorem f578z (c : Int) (s : ByteArray) : f578v0F 1000 (c, s, 0, ()) = some (s, c, ()) := by
  unfold f578v0F; simp only [beq00, cond_true]
theorem f610e (n : Int) (s : ByteArray) {e : Int} (h : e ≠ 0) : f610v0F 1000 (n, s, e, ()) = some (ByteArray.empty, s, e, ()) := by
  unfold f610v0F; simp only [bne0 h, cond_true]
theorem f610r (n : Nat) (l : List UInt8) : PR (pTake n l) fun v t e => f610v0F 1000 ((n : Int), S l, 0, ()) = some (S v, t, e, ()) := by
  unfold pTake f610v0F
  by_cases h : l.length < n
  · rw [if_pos h]
    refine ⟨by decide, [], S l, ?_⟩
    simp only [bne00, cond_false, S_size]
    rw [bif_true (by simpa using h), f578z]
    rfl
  · rw [if_neg h]
    show _ = _
    simp only [bne00, cond_false, S_size]
    rw [bif_false (by simp; omega), bif_true (sliceB0 (by omega)), bif_true (sliceB (by omega) (Nat.le_refl _))]
    simp only [S_cut, Int.toNat_natCast, List.take_length, List.drop_zero]
theorem f576e (n : Int) (s : ByteArray) {e : Int} (h : e ≠ 0) : f576v0F 1000 (n, s, e, ()) = some (0, s, e, ()) := by
  unfold f576v0F
  simp only [f610e _ _ h, bind_some', strEq_self, cond_true]
theorem strEq_cons (b : UInt8) (l : List UInt8) : strEq (S (b :: l)) ByteArray.empty = false := by
  rw [← S_nil, S_eq]; simp
theorem bt_head (b : UInt8) (l : List UInt8) : bt (S (b :: l)) 0 = (b.toNat : Int) := S_bt (b :: l) 0 (by simp)
theorem wi_byte (b : UInt8) : IntKind.i64.wrap (b.toNat : Int) = (b.toNat : Int) := wi (by have := byte_rng b; omega) (by have := byte_rng b; omega)
theorem f576r (m : Nat) (l : List UInt8) : PR (pNum m l) fun v t e => f576v0F 1000 ((m : Int), S l, 0, ()) = some ((v : Int), t, e, ()) := by
  unfold f576v0F
  match l with
  | [] =>
    refine ⟨by decide, 0, S [], ?_⟩
    have h := (f610r 1 []).2
    obtain ⟨v, t, h⟩ := h
    have e1 : f610v0F 1000 ((1 : Int), S [], 0, ()) = some (ByteArray.empty, S [], 9, ()) := by
      unfold f610v0F
      simp only [bne00, cond_false, S_size]
      rw [bif_true (by decide), f578z]
      rfl
    simp only [e1, bind_some', strEq_self, cond_true]
    rfl
  | b :: t =>
    have h : f610v0F 1000 ((1 : Int), S (b :: t), 0, ()) = some (S [b], S t, 0, ()) := by
      have := f610r 1 (b :: t)
      unfold pTake at this
      rw [if_neg (by simp)] at this
      exact this
    have e0 : decide ((0 : Int) < ((S [b]).size : Int)) = true := by rw [S_size]; rfl
    unfold pNum
    simp only [h, bind_some', strEq_cons, cond_false, e0, cond_true, bt_head, wi_byte]
    by_cases hm : m < b.toNat
    · rw [if_pos hm]
      refine ⟨by decide, 0, S t, ?_⟩
      rw [bif_true (by simp; omega), f578z]
      rfl
    · rw [if_neg hm]
      show _ = _
      rw [bif_false (by simp; omega)]
theorem idx_mem (l : List UInt8) (c : UInt8) : decide (0 ≤ Lib.indexByte l c) = decide (c ∈ l) := by
  have key : ∀ l : List UInt8, -1 ≤ Lib.indexByte l c ∧ (Lib.indexByte l c = -1 ↔ c ∉ l) := by
    intro l
    induction l with
    | nil => unfold Lib.indexByte; simp
    | cons b l ih =>
      unfold Lib.indexByte
      by_cases hb : b = c
      · subst hb; simp
      · have h2 : (b == c) = false := by simpa using hb
        rw [h2]
        simp only [Bool.false_eq_true, if_false]
        by_cases h3 : Lib.indexByte l c = -1
        · have h4 := ih.2.1 h3
          rw [h3]
          refine ⟨by decide, ⟨fun _ => ?_, fun _ => rfl⟩⟩
          simp [h4, Ne.symm hb]
        · have h4 : c ∈ l := by
            rcases Decidable.em (c ∈ l) with h | h
            · exact h
            · exact (h3 (ih.2.2 h)).elim
          rw [if_neg (by simpa using h3)]
          refine ⟨by omega, ⟨fun h => by omega, fun h => by simp [h4] at h⟩⟩
  have h := key l
  by_cases hc : c ∈ l
  · have : Lib.indexByte l c ≠ -1 := fun x => (h.2.1 x) hc
    simp only [hc, decide_true, decide_eq_true_eq]; omega
  · have := h.2.2 hc
    rw [this]; simp [hc]
theorem trimR (l : List UInt8) (h : l.length ≤ 900) : f643F 1000 (S l, (⟨#[32]⟩ : ByteArray)) = some (S (trm l)) := by
  unfold f643F
  simp only [show (⟨#[32]⟩ : ByteArray).data.toList = [32] from rfl, S_list, S_size]
  rw [bif_true (by simp; omega)]
  rfl
theorem hasB (l : List UInt8) : f644F 1000 (S l, (⟨#[32]⟩ : ByteArray)) = some (decide ((32 : UInt8) ∈ l)) := by
  unfold f644F
  simp only [show (⟨#[32]⟩ : ByteArray).data.toList = [32] from rfl, S_list]
  rw [idx_mem]
theorem trm_nil : trm [] = [] := rfl
theorem f611e (s : ByteArray) {e : Int} (h : e ≠ 0) : f611v0F 1000 (s, e, ()) = some (ByteArray.empty, s, e, ()) := by
  unfold f611v0F f611v0p0
  have e1 := trimR [] (by simp)
  have e2 := hasB []
  rw [S_nil, trm_nil] at e1
  rw [S_nil] at e1 e2
  simp only [f610e _ _ h, bind_some', e1, e2]
  rfl
theorem f611r (l : List UInt8) : PR (pName l) fun v t e => f611v0F 1000 (S l, 0, ()) = some (v, t, e, ()) := by
  unfold pName f611v0F f611v0p0
  have h := f610r 10 l
  unfold pTake at h
  by_cases hl : l.length < 10
  · rw [if_pos hl] at h ⊢
    obtain ⟨_, v, t, h⟩ := h
    have e1 : f610v0F 1000 ((10 : Int), S l, 0, ()) = some (ByteArray.empty, S l, 9, ()) := by
      unfold f610v0F
      simp only [bne00, cond_false, S_size]
      rw [bif_true (by simp; omega), f578z]
      rfl
    have e3 := trimR [] (by simp)
    have e2 := hasB []
    rw [S_nil, trm_nil] at e3
    rw [S_nil] at e3 e2
    refine ⟨by decide, ByteArray.empty, S l, ?_⟩
    simp only [e1, bind_some', e3, e2]
    rfl
  · rw [if_neg hl] at h ⊢
    have h : f610v0F 1000 ((10 : Int), S l, 0, ()) = some (S (l.take 10), S (l.drop 10), 0, ()) := h
    have e3 := trimR (l.take 10) (by simp; omega)
    by_cases hm : (32 : UInt8) ∈ trm (l.take 10)
    · rw [if_pos hm]
      refine ⟨by decide, S (trm (l.take 10)), S (l.drop 10), ?_⟩
      simp only [h, bind_some', e3, hasB, hm, decide_true, cond_true, f578z]
    · rw [if_neg hm]
      show _ = _
      simp only [h, bind_some', e3, hasB, hm, decide_false, cond_false]
theorem f612e (s : ByteArray) {e : Int} (h : e ≠ 0) : f612v0F 1000 (s, e, ()) = some (false, s, e, ()) := by
  unfold f612v0F
  simp only [f576e _ _ h, bind_some']
  rfl
theorem f612r (l : List UInt8) : PR (pNum 1 l) fun v t e => f612v0F 1000 (S l, 0, ()) = some (v == 1, t, e, ()) := by
  refine (f576r 1 l).imp fun v t e h => ?_
  unfold f612v0F
  rw [show ((1 : Nat) : Int) = 1 from rfl] at h
  simp only [h, bind_some', Option.some.injEq, Prod.mk.injEq, and_true]
  rw [Bool.eq_iff_iff]
  simp
  omega
end Go.Proofs.YtobgkcamonlnkaaGreatDoor
set_option linter.unusedVariables false
set_option linter.unusedSimpArgs false
namespace Go.Proofs.YtobgkcamonlnkaaGreatDoor
open Go.Ab

noncomputable def fldP (s : ByteArray) (e : Int) : Option (Fld × ByteArray × Int × Unit) :=
  Option.bind (f611v0F 1000 (s, e, ())) fun y4 =>
  Option.bind (f576v0F 1000 ((255 : Int), y4.2.1, y4.2.2.1, ())) fun y5 =>
  Option.bind (f576v0F 1000 ((255 : Int), y5.2.1, y5.2.2.1, ())) fun y6 =>
  Option.bind (f576v0F 1000 ((255 : Int), y6.2.1, y6.2.2.1, ())) fun y7 =>
  some ((y4.1, (y5.1, (y6.1, y7.1))), y7.2.1, y7.2.2.1, ())
theorem fldP_r (l : List UInt8) : PR (pField l) fun v t e => fldP (S l) 0 = some (v, t, e, ()) := by
  unfold pField
  refine (f611r l).bd (fun v t h1 => ?_) (fun e v t he h1 => ?_)
  · refine (f576r 255 t).bd (fun a t h2 => ?_) (fun e a t he h2 => ?_)
    · refine (f576r 255 t).bd (fun b t h3 => ?_) (fun e b t he h3 => ?_)
      · refine (f576r 255 t).bd (fun c t h4 => ?_) (fun e c t he h4 => ?_)
        · show _ = _
          unfold fldP
          simp only [h1, bind_some', h2, h3, h4, show ((255 : Nat) : Int) = 255 from rfl] at *
          simp only [h1, bind_some', h2, h3, h4]
        · refine ⟨(v, ((a : Int), (b : Int), (c : Int))), t, ?_⟩
          unfold fldP
          simp only [show ((255 : Nat) : Int) = 255 from rfl] at h2 h3 h4
          simp only [h1, bind_some', h2, h3, h4]
      · refine ⟨(v, ((a : Int), (b : Int), 0)), t, ?_⟩
        unfold fldP
        simp only [show ((255 : Nat) : Int) = 255 from rfl] at h2 h3
        simp only [h1, bind_some', h2, h3, f576e _ _ he]
    · refine ⟨(v, ((a : Int), 0, 0)), t, ?_⟩
      unfold fldP
      simp only [show ((255 : Nat) : Int) = 255 from rfl] at h2
      simp only [h1, bind_some', h2, f576e _ _ he]
  · refine ⟨(v, (0, 0, 0)), t, ?_⟩
    unfold fldP
    simp only [h1, bind_some', f576e _ _ he]
noncomputable def keyP (s : ByteArray) (e : Int) : Option (Key × ByteArray × Int × Unit) :=
  Option.bind (f611v0F 1000 (s, e, ())) fun y4 =>
  Option.bind (f612v0F 1000 (y4.2.1, y4.2.2.1, ())) fun y5 =>
  some ((y4.1, y5.1), y5.2.1, y5.2.2.1, ())
theorem keyP_r (l : List UInt8) : PR (pKey l) fun v t e => keyP (S l) 0 = some (v, t, e, ()) := by
  unfold pKey
  refine (f611r l).bd (fun v t h1 => ?_) (fun e v t he h1 => ?_)
  · refine (f612r t).bd (fun a t h2 => ?_) (fun e a t he h2 => ?_)
    · show _ = _
      unfold keyP
      simp only [h1, bind_some', h2]
    · refine ⟨(v, a == 1), t, ?_⟩
      unfold keyP
      simp only [h1, bind_some', h2]
  · refine ⟨(v, false), t, ?_⟩
    unfold keyP
    simp only [h1, bind_some', f612e _ he]
noncomputable def recP (sz : Int) (s : ByteArray) (e : Int) : Option (Rcd × ByteArray × Int × Unit) :=
  Option.bind (f612v0F 1000 (s, e, ())) fun y4 =>
  bif y4.1 then Option.bind (f610v0F 1000 (sz, y4.2.1, y4.2.2.1, ())) fun y5 => some ((false, y5.1), y5.2.1, y5.2.2.1, ())
  else some ((true, ByteArray.empty), y4.2.1, y4.2.2.1, ())
theorem recP_r (sz : Nat) (l : List UInt8) : PR (pRec sz l) fun v t e => recP (sz : Int) (S l) 0 = some (v, t, e, ()) := by
  unfold pRec
  refine (f612r l).bd (fun v t h1 => ?_) (fun e v t he h1 => ?_)
  · by_cases hv : v = 1
    · subst hv
      rw [if_pos rfl]
      refine (f610r sz t).bd (fun a t h2 => ?_) (fun e a t he h2 => ?_)
      · show _ = _
        unfold recP
        simp only [h1, bind_some', h2, beq_self_eq_true, cond_true]
      · refine ⟨(false, S a), t, ?_⟩
        unfold recP
        simp only [h1, bind_some', h2, beq_self_eq_true, cond_true]
    · rw [if_neg hv]
      show _ = _
      unfold recP
      have : (v == 1) = false := by simpa using hv
      simp only [h1, bind_some', this, cond_false]
  · cases hv : (v == 1) with
    | false =>
      refine ⟨(true, ByteArray.empty), t, ?_⟩
      unfold recP
      simp only [h1, bind_some', hv, cond_false]
    | true =>
      refine ⟨(false, ByteArray.empty), t, ?_⟩
      unfold recP
      simp only [h1, bind_some', hv, cond_true, f610e _ _ he]

theorem gt_succ (n : Nat) : decide (((n + 1 : Nat) : Int) > 0) = true := by simp
theorem wpred {n : Nat} (h : n < 900000) : IntKind.i64.wrap (((n + 1 : Nat) : Int) - 1) = (n : Int) := by
  rw [show ((n + 1 : Nat) : Int) - 1 = (n : Int) by omega]
  exact wi (by omega) (by omega)

theorem many_dn {α V R κ : Type} {Step : κ → (V → Option R) → V → Option R} (p : List UInt8 → PE α) (body : ByteArray → Int → Option (α × ByteArray × Int × Unit))
    (hb : ∀ l, PR (p l) fun v t e => body (S l) 0 = some (v, t, e, ())) (B : Nat) (mk : Int → ByteArray → Int → List α → V) (k0 : κ → ByteArray → Int → List α → Option R)
    (h0 : ∀ K rec s e acc, Step K rec (mk ((0 : Nat) : Int) s e acc) = k0 K s e acc)
    (he : ∀ K rec n s e acc, e ≠ 0 → Step K rec (mk n s e acc) = k0 K s e acc)
    (h1 : ∀ K rec (n : Nat) s acc v t e, n < 900000 → acc.length < B → body s 0 = some (v, t, e, ()) → Step K rec (mk ((n + 1 : Nat) : Int) s 0 acc) = rec (mk (n : Int) t e (acc ++ [v]))) :
    ∀ (n r : Nat), n < r → n ≤ 900000 → ∀ (l : List UInt8) (acc : List α), acc.length + n ≤ B →
      PR (pMany p n l) fun vs t e => ∀ K, iterS (Step K) r (mk (n : Int) (S l) 0 acc) = k0 K t e (acc ++ vs) := by
  intro n
  induction n with
  | zero =>
    intro r hr _ l acc ha
    obtain ⟨r, rfl⟩ : ∃ r', r = r' + 1 := ⟨r - 1, by omega⟩
    intro K
    show iterS (Step K) (r + 1) _ = _
    rw [List.append_nil]
    exact h0 _ _ _ _ _
  | succ n ih =>
    intro r hr hn l acc ha
    obtain ⟨r, rfl⟩ : ∃ r', r = r' + 1 := ⟨r - 1, by omega⟩
    unfold pMany
    refine (hb l).bd (fun v t h => ?_) (fun e v t hne h => ?_)
    · have hs : ∀ K, iterS (Step K) (r + 1) (mk ((n + 1 : Nat) : Int) (S l) 0 acc) = iterS (Step K) r (mk (n : Int) (S t) 0 (acc ++ [v])) := fun K => h1 K _ n _ acc v _ _ (by omega) (by omega) h
      refine (ih r (by omega) (by omega) t (acc ++ [v]) (by simp; omega)).bd (fun vs t h => ?_) (fun e vs t hne h => ?_)
      · intro K
        rw [hs, h, List.append_assoc]
        rfl
      · exact ⟨v :: vs, t, fun K => by rw [hs, h, List.append_assoc]; rfl⟩
    · have hs : ∀ K, iterS (Step K) (r + 1) (mk ((n + 1 : Nat) : Int) (S l) 0 acc) = iterS (Step K) r (mk (n : Int) t e (acc ++ [v])) := fun K => h1 K _ n _ acc v _ _ (by omega) (by omega) h
      refine ⟨[v], t, fun K => ?_⟩
      rw [hs]
      obtain ⟨r, rfl⟩ : ∃ r', r = r' + 1 := ⟨r - 1, by omega⟩
      exact he _ _ _ _ _ _ hne

abbrev TabS := ByteArray × Int × ByteArray × ByteArray × Bool × ByteArray × ByteArray × Bool × List Fld × List Key × List Rcd × List Fld × List Key × List Rcd × Unit
theorem f577l0q {R : Type} (a1 a2 : ByteArray) (a3 : Bool) (a4 a5 : ByteArray) (a6 : Bool) (b7 : List Fld) (b8 : List Key) (b9 : List Rcd) (ks : List Key) (rs : List Rcd) (n : Nat) (hn : n ≤ 900) (l : List UInt8) :
    PR (pMany pField n l) fun vs t e => ∀ k0 : TabS → Option R, f577v0l0 1000 k0 ((n : Int), S l, 0, a1, a2, a3, a4, a5, a6, b7, b8, b9, [], ks, rs, ()) = k0 (t, e, a1, a2, a3, a4, a5, a6, b7, b8, b9, vs, ks, rs, ()) := by
  unfold f577v0l0
  refine many_dn (Step := fun k0 rec v => f577v0l0s 1000 rec k0 v) pField fldP fldP_r 1000 (fun n s e acc => (n, s, e, a1, a2, a3, a4, a5, a6, b7, b8, b9, acc, ks, rs, ())) (fun (k0 : TabS → Option R) s e acc => k0 (s, e, a1, a2, a3, a4, a5, a6, b7, b8, b9, acc, ks, rs, ())) ?_ ?_ ?_ n 1000 (by omega) (by omega) l [] (by simp; omega)
  · intro K rec s e acc
    show f577v0l0s _ _ _ _ = _
    unfold f577v0l0s
    rfl
  · intro K rec n s e acc he
    unfold f577v0l0s
    simp only [beq0 he, cond_false, Bool.cond_self]
  · intro K rec n s acc v t e hn ha hb
    unfold f577v0l0s
    simp only [gt_succ, cond_true, beq00, wpred hn]
    unfold fldP at hb
    cases h1 : f611v0F 1000 (s, 0, ()) with
    | none => rw [h1] at hb; exact absurd hb (by simp)
    | some y1 =>
    rw [h1] at hb
    simp only [bind_some'] at hb ⊢
    cases h2 : f576v0F 1000 (255, y1.2.1, y1.2.2.1, ()) with
    | none => rw [h2] at hb; exact absurd hb (by simp)
    | some y2 =>
    rw [h2] at hb
    simp only [bind_some'] at hb ⊢
    cases h3 : f576v0F 1000 (255, y2.2.1, y2.2.2.1, ()) with
    | none => rw [h3] at hb; exact absurd hb (by simp)
    | some y3 =>
    rw [h3] at hb
    simp only [bind_some'] at hb ⊢
    cases h4 : f576v0F 1000 (255, y3.2.1, y3.2.2.1, ()) with
    | none => rw [h4] at hb; exact absurd hb (by simp)
    | some y4 =>
    rw [h4] at hb
    simp only [bind_some', Option.some.injEq, Prod.mk.injEq, and_true] at hb ⊢
    obtain ⟨rfl, rfl, rfl⟩ := hb
    rw [bif_true (by simp; omega)]
theorem f577l1q {R : Type} (a1 a2 : ByteArray) (a3 : Bool) (a4 a5 : ByteArray) (a6 : Bool) (b7 : List Fld) (b8 : List Key) (b9 : List Rcd) (fs : List Fld) (rs : List Rcd) (n : Nat) (hn : n ≤ 900) (l : List UInt8) :
    PR (pMany pKey n l) fun vs t e => ∀ k0 : TabS → Option R, f577v0l1 1000 k0 ((n : Int), S l, 0, a1, a2, a3, a4, a5, a6, b7, b8, b9, fs, [], rs, ()) = k0 (t, e, a1, a2, a3, a4, a5, a6, b7, b8, b9, fs, vs, rs, ()) := by
  unfold f577v0l1
  refine many_dn (Step := fun k0 rec v => f577v0l1s 1000 rec k0 v) pKey keyP keyP_r 1000 (fun n s e acc => (n, s, e, a1, a2, a3, a4, a5, a6, b7, b8, b9, fs, acc, rs, ())) (fun (k0 : TabS → Option R) s e acc => k0 (s, e, a1, a2, a3, a4, a5, a6, b7, b8, b9, fs, acc, rs, ())) ?_ ?_ ?_ n 1000 (by omega) (by omega) l [] (by simp; omega)
  · intro K rec s e acc
    unfold f577v0l1s
    rfl
  · intro K rec n s e acc he
    unfold f577v0l1s
    simp only [beq0 he, cond_false, Bool.cond_self]
  · intro K rec n s acc v t e hn ha hb
    unfold f577v0l1s
    simp only [gt_succ, cond_true, beq00, wpred hn]
    unfold keyP at hb
    cases h1 : f611v0F 1000 (s, 0, ()) with
    | none => rw [h1] at hb; exact absurd hb (by simp)
    | some y1 =>
    rw [h1] at hb
    simp only [bind_some'] at hb ⊢
    cases h2 : f612v0F 1000 (y1.2.1, y1.2.2.1, ()) with
    | none => rw [h2] at hb; exact absurd hb (by simp)
    | some y2 =>
    rw [h2] at hb
    simp only [bind_some', Option.some.injEq, Prod.mk.injEq, and_true] at hb ⊢
    obtain ⟨rfl, rfl, rfl⟩ := hb
    rw [bif_true (by simp; omega)]
theorem f577l3q {R : Type} (sz : Nat) (a1 a2 : ByteArray) (a3 : Bool) (a4 a5 : ByteArray) (a6 : Bool) (b7 : List Fld) (b8 : List Key) (b9 : List Rcd) (fs : List Fld) (ks : List Key) (n : Nat) (hn : n ≤ 900) (l : List UInt8) :
    PR (pMany (pRec sz) n l) fun vs t e => ∀ k0 : TabS → Option R, f577v0l3 1000 k0 ((sz : Int), (n : Int), S l, 0, a1, a2, a3, a4, a5, a6, b7, b8, b9, fs, ks, [], ()) = k0 (t, e, a1, a2, a3, a4, a5, a6, b7, b8, b9, fs, ks, vs, ()) := by
  unfold f577v0l3
  refine many_dn (Step := fun k0 rec v => f577v0l3s 1000 rec k0 v) (pRec sz) (recP sz) (recP_r sz) 1000 (fun n s e acc => ((sz : Int), n, s, e, a1, a2, a3, a4, a5, a6, b7, b8, b9, fs, ks, acc, ())) (fun (k0 : TabS → Option R) s e acc => k0 (s, e, a1, a2, a3, a4, a5, a6, b7, b8, b9, fs, ks, acc, ())) ?_ ?_ ?_ n 1000 (by omega) (by omega) l [] (by simp; omega)
  · intro K rec s e acc
    unfold f577v0l3s
    rfl
  · intro K rec n s e acc he
    unfold f577v0l3s
    simp only [beq0 he, cond_false, Bool.cond_self]
  · intro K rec n s acc v t e hn ha hb
    unfold f577v0l3s f577v0p2
    simp only [gt_succ, cond_true, beq00, wpred hn]
    unfold recP at hb
    cases h1 : f612v0F 1000 (s, 0, ()) with
    | none => rw [h1] at hb; exact absurd hb (by simp)
    | some y1 =>
    rw [h1] at hb
    simp only [bind_some', Bool.not_not] at hb ⊢
    cases hy : y1.1 with
    | false =>
      rw [hy] at hb
      simp only [cond_false, Option.some.injEq, Prod.mk.injEq, and_true] at hb
      obtain ⟨rfl, rfl, rfl⟩ := hb
      simp only [cond_false, Bool.not_false]
      rw [bif_true (by simp; omega)]
    | true =>
      rw [hy] at hb
      simp only [cond_true] at hb ⊢
      cases h2 : f610v0F 1000 ((sz : Int), y1.2.1, y1.2.2.1, ()) with
      | none => rw [h2] at hb; exact absurd hb (by simp)
      | some y2 =>
      rw [h2] at hb
      simp only [bind_some', Option.some.injEq, Prod.mk.injEq, and_true] at hb ⊢
      obtain ⟨rfl, rfl, rfl⟩ := hb
      rw [bif_true (by simp; omega)]
      simp only [Bool.not_true]
end Go.Proofs.YtobgkcamonlnkaaGreatDoor
set_option linter.unusedVariables false
set_option linter.unusedSimpArgs false
namespace Go.Proofs.YtobgkcamonlnkaaGreatDoor
open Go.Ab

theorem l0e {R : Type} (k0 : TabS → Option R) (n : Int) (s : ByteArray) {e : Int} (he : e ≠ 0) (a1 a2 : ByteArray) (a3 : Bool) (a4 a5 : ByteArray) (a6 : Bool) (b7 : List Fld) (b8 : List Key) (b9 : List Rcd) (fs : List Fld) (ks : List Key) (rs : List Rcd) :
    f577v0l0 1000 k0 (n, s, e, a1, a2, a3, a4, a5, a6, b7, b8, b9, fs, ks, rs, ()) = k0 (s, e, a1, a2, a3, a4, a5, a6, b7, b8, b9, fs, ks, rs, ()) := by
  unfold f577v0l0
  rw [iterS_1000]
  unfold f577v0l0s
  simp only [beq0 he, cond_false, Bool.cond_self]
theorem l1e {R : Type} (k0 : TabS → Option R) (n : Int) (s : ByteArray) {e : Int} (he : e ≠ 0) (a1 a2 : ByteArray) (a3 : Bool) (a4 a5 : ByteArray) (a6 : Bool) (b7 : List Fld) (b8 : List Key) (b9 : List Rcd) (fs : List Fld) (ks : List Key) (rs : List Rcd) :
    f577v0l1 1000 k0 (n, s, e, a1, a2, a3, a4, a5, a6, b7, b8, b9, fs, ks, rs, ()) = k0 (s, e, a1, a2, a3, a4, a5, a6, b7, b8, b9, fs, ks, rs, ()) := by
  unfold f577v0l1
  rw [iterS_1000]
  unfold f577v0l1s
  simp only [beq0 he, cond_false, Bool.cond_self]
theorem l3e {R : Type} (k0 : TabS → Option R) (sz : Int) (n : Int) (s : ByteArray) {e : Int} (he : e ≠ 0) (a1 a2 : ByteArray) (a3 : Bool) (a4 a5 : ByteArray) (a6 : Bool) (b7 : List Fld) (b8 : List Key) (b9 : List Rcd) (fs : List Fld) (ks : List Key) (rs : List Rcd) :
    f577v0l3 1000 k0 (sz, n, s, e, a1, a2, a3, a4, a5, a6, b7, b8, b9, fs, ks, rs, ()) = k0 (s, e, a1, a2, a3, a4, a5, a6, b7, b8, b9, fs, ks, rs, ()) := by
  unfold f577v0l3
  rw [iterS_1000]
  unfold f577v0l3s
  simp only [beq0 he, cond_false, Bool.cond_self]

abbrev RET := ByteArray × ByteArray × List Fld × List Key × Bool × List Rcd × ByteArray × Int × Unit
noncomputable def tabT (f : Fil) (s : ByteArray) (e : Int) : Option RET :=
  bif (e != 0) then some (f.1, f.2.1.1, f.2.1.2, f.2.2.1, f.2.2.2, [], s, e, ())
  else Option.bind (f569F 1000 (f.1, ((f.2.1.1, f.2.1.2), (f.2.2.1, f.2.2.2)))) fun y14 =>
    bif (y14.2 != (0 : Int)) then Option.bind (f578v0F 1000 (y14.2, s, e, ())) fun y15 => some (f.1, f.2.1.1, f.2.1.2, f.2.2.1, f.2.2.2, [], y15.1, y15.2.1, ())
    else Option.bind (f613F 1000 (f.2.1.1, f.2.1.2)) fun y16 => Option.bind (f576v0F 1000 ((60 : Int), s, e, ())) fun y17 =>
      f577v0l3 1000 (fun w22 => some (w22.2.2.2.2.2.1, w22.2.2.2.2.2.2.1, w22.2.2.2.2.2.2.2.2.2.2.2.1, w22.2.2.2.2.2.2.2.2.2.2.2.2.1, w22.2.2.2.2.2.2.2.1, w22.2.2.2.2.2.2.2.2.2.2.2.2.2.1, w22.1, w22.2.1, ()))
        (y16.1, y17.1, y17.2.1, y17.2.2.1, ByteArray.empty, ByteArray.empty, false, f.1, f.2.1.1, f.2.2.2, [], [], [], f.2.1.2, f.2.2.1, [], ())
theorem f577a (l : List UInt8) : PR (pFile l) fun f s e => f577v0F 1000 (S l, 0, ()) = tabT f s e := by
  unfold pFile
  have n20 : ∀ t, PR (pNum 20 t) fun v t' e => f576v0F 1000 (20, S t, 0, ()) = some ((v : Int), t', e, ()) := f576r 20
  have n4 : ∀ t, PR (pNum 4 t) fun v t' e => f576v0F 1000 (4, S t, 0, ()) = some ((v : Int), t', e, ()) := f576r 4
  refine (f611r l).bd (fun fn t h1 => ?_) (fun e fn t he h1 => ⟨(fn, ((ByteArray.empty, []), ([], false))), t, ?_⟩)
  rotate_left
  · unfold f577v0F tabT
    simp only [h1, bind_some', f611e _ he, f576e _ _ he, f612e _ he, l0e _ _ _ he, l1e _ _ _ he, bne0 he, cond_true]
  refine (f611r t).bd (fun nm t h2 => ?_) (fun e nm t he h2 => ⟨(fn, ((nm, []), ([], false))), t, ?_⟩)
  rotate_left
  · unfold f577v0F tabT
    simp only [h1, h2, bind_some', f611e _ he, f576e _ _ he, f612e _ he, l0e _ _ _ he, l1e _ _ _ he, bne0 he, cond_true]
  refine (n20 t).bdE (fun n t hn h3 => ?_) (fun e n t he h3 => ⟨(fn, ((nm, []), ([], false))), t, ?_⟩)
  rotate_left
  · unfold f577v0F tabT
    simp only [h1, h2, h3, bind_some', f611e _ he, f576e _ _ he, f612e _ he, l0e _ _ _ he, l1e _ _ _ he, bne0 he, cond_true]
  have hn := pNum_le hn
  refine (f577l0q (R := RET) ByteArray.empty ByteArray.empty false fn nm false [] [] [] [] [] n (by omega) t).bd (fun fs t h4 => ?_) (fun e fs t he h4 => ⟨(fn, ((nm, fs), ([], false))), t, ?_⟩)
  rotate_left
  · unfold f577v0F tabT
    simp only [h1, h2, h3, h4, bind_some', f611e _ he, f576e _ _ he, f612e _ he, l0e _ _ _ he, l1e _ _ _ he, bne0 he, cond_true]
  refine (n4 t).bdE (fun m t hm h5 => ?_) (fun e m t he h5 => ⟨(fn, ((nm, fs), ([], false))), t, ?_⟩)
  rotate_left
  · unfold f577v0F tabT
    simp only [h1, h2, h3, h4, h5, bind_some', f611e _ he, f576e _ _ he, f612e _ he, l0e _ _ _ he, l1e _ _ _ he, bne0 he, cond_true]
  have hm := pNum_le hm
  refine (f577l1q (R := RET) ByteArray.empty ByteArray.empty false fn nm false [] [] [] fs [] m (by omega) t).bd (fun ks t h6 => ?_) (fun e ks t he h6 => ⟨(fn, ((nm, fs), (ks, false))), t, ?_⟩)
  rotate_left
  · unfold f577v0F tabT
    simp only [h1, h2, h3, h4, h5, h6, bind_some', f611e _ he, f576e _ _ he, f612e _ he, l0e _ _ _ he, l1e _ _ _ he, bne0 he, cond_true]
  refine (f612r t).bd (fun u t h7 => ?_) (fun e u t he h7 => ⟨(fn, ((nm, fs), (ks, u == 1))), t, ?_⟩)
  rotate_left
  · unfold f577v0F tabT
    simp only [h1, h2, h3, h4, h5, h6, h7, bind_some', f611e _ he, f576e _ _ he, f612e _ he, l0e _ _ _ he, l1e _ _ _ he, bne0 he, cond_true]
  show _ = _
  unfold f577v0F tabT
  simp only [h1, h2, h3, h4, h5, h6, h7, bind_some']
theorem f613q {f : Fil} (hf : (chkFile f).2 = 0) : f613F 1000 f.2.1 = some (sumW f.2.1.2, 0) := by
  obtain ⟨h1, h2, h3, h4⟩ := file_ok hf
  obtain ⟨g1, g2, g3⟩ := fmt_ok h2
  unfold f613F
  rw [show ((f.2.1.1, f.2.1.2) : Fmt) = f.2.1 from rfl, f607q, bind_some', bif_false (by rw [h2]; rfl), show f.2.1 = (f.2.1.1, f.2.1.2) from rfl, f645q f.2.1.1 f.2.1.2 (by omega), bind_some']
theorem sumW_nat (fs : List Fld) : ((sumW fs).toNat : Int) = sumW fs := Int.toNat_of_nonneg (sumW_rng fs).1
abbrev tabR (t : Tbl) (s : ByteArray) (e : Int) : Option RET := some (t.1.1, t.1.2.1.1, t.1.2.1.2, t.1.2.2.1, t.1.2.2.2, t.2, s, e, ())
theorem f577q (l : List UInt8) : PR (pTable l) fun t s e => f577v0F 1000 (S l, 0, ()) = tabR t s e := by
  unfold pTable
  refine (f577a l).bd (fun f t h => ?_) (fun e f t he h => ⟨(f, []), t, ?_⟩)
  rotate_left
  · rw [h]
    unfold tabT
    simp only [bne0 he, cond_true]
  simp only [tabT, bne00, cond_false] at h
  rw [show ((f.1, ((f.2.1.1, f.2.1.2), (f.2.2.1, f.2.2.2))) : Fil) = f from rfl, f569q, bind_some'] at h
  by_cases hf : (chkFile f).2 = 0
  · rw [if_neg (fun c => c hf)]
    rw [bif_false (by rw [hf]; rfl), show ((f.2.1.1, f.2.1.2) : Fmt) = f.2.1 from rfl, f613q hf, bind_some'] at h
    have n60 : PR (pNum 60 t) fun v t' e => f576v0F 1000 (60, S t, 0, ()) = some ((v : Int), t', e, ()) := f576r 60 t
    refine n60.bdE (fun n t hn h3 => ?_) (fun e n t he h3 => ⟨(f, []), t, ?_⟩)
    rotate_left
    · rw [h]
      simp only [h3, bind_some', l3e _ _ _ _ he]
    have hn := pNum_le hn
    refine (f577l3q (R := RET) (sumW f.2.1.2).toNat ByteArray.empty ByteArray.empty false f.1 f.2.1.1 f.2.2.2 [] [] [] f.2.1.2 f.2.2.1 n (by omega) t).bd (fun rs t h4 => ?_) (fun e rs t he h4 => ⟨(f, rs), t, ?_⟩)
    · show _ = _
      rw [h, h3, bind_some']
      rw [sumW_nat] at h4
      exact h4 _
    · rw [h, h3, bind_some']
      rw [sumW_nat] at h4
      exact h4 _
  · rw [if_pos hf]
    refine ⟨hf, (f, []), S t, ?_⟩
    rw [h, bif_true (bne0 hf), f578z]
    rfl

abbrev TsS := ByteArray × Int × List Tbl × Unit
noncomputable def tblP (s : ByteArray) (e : Int) : Option (Tbl × ByteArray × Int × Unit) :=
  Option.bind (f577v0F 1000 (s, e, ())) fun y => some (((y.1, ((y.2.1, y.2.2.1), (y.2.2.2.1, y.2.2.2.2.1))), y.2.2.2.2.2.1), y.2.2.2.2.2.2.1, y.2.2.2.2.2.2.2.1, ())
theorem tblP_r (l : List UInt8) : PR (pTable l) fun t s e => tblP (S l) 0 = some (t, s, e, ()) := by
  refine (f577q l).imp fun t s e h => ?_
  unfold tblP
  rw [h]
  rfl
theorem f532l0q (n : Nat) (hn : n ≤ 8) (l : List UInt8) :
    PR (pMany pTable n l) fun vs t e => ∀ k0 : TsS → Option (List Tbl × Int), f532l0 1000 k0 ((n : Int), S l, 0, [], ()) = k0 (t, e, vs, ()) := by
  unfold f532l0
  refine many_dn (Step := fun k0 rec v => f532l0s 1000 rec k0 v) pTable tblP tblP_r 1000 (fun n s e acc => (n, s, e, acc, ())) (fun (k0 : TsS → Option (List Tbl × Int)) s e acc => k0 (s, e, acc, ())) ?_ ?_ ?_ n 1000 (by omega) (by omega) l [] (by simp; omega)
  · intro K rec s e acc
    show f532l0s _ _ _ _ = _
    unfold f532l0s
    rfl
  · intro K rec n s e acc he
    unfold f532l0s
    simp only [beq0 he, cond_false, Bool.cond_self]
  · intro K rec n s acc v t e hn ha hb
    unfold f532l0s
    simp only [gt_succ, cond_true, beq00, wpred hn]
    unfold tblP at hb
    cases h1 : f577v0F 1000 (s, 0, ()) with
    | none => rw [h1] at hb; exact absurd hb (by simp)
    | some y1 =>
    rw [h1] at hb
    simp only [bind_some', Option.some.injEq, Prod.mk.injEq, and_true] at hb ⊢
    obtain ⟨rfl, rfl, rfl⟩ := hb
    rw [bif_true (by simp; omega)]
theorem l532e {R : Type} (k0 : TsS → Option R) (n : Int) (s : ByteArray) {e : Int} (he : e ≠ 0) (ts : List Tbl) : f532l0 1000 k0 (n, s, e, ts, ()) = k0 (s, e, ts, ()) := by
  unfold f532l0
  rw [iterS_1000]
  unfold f532l0s
  simp only [beq0 he, cond_false, Bool.cond_self]
theorem f532q (l : List UInt8) : f532F 1000 (S l) = some (tblsIn l) := by
  have n8 : PR (pNum 8 l) fun v t' e => f576v0F 1000 (8, S l, 0, ()) = some ((v : Int), t', e, ()) := f576r 8 l
  unfold tblsIn f532F
  match hl : pNum 8 l, n8 with
  | .error e, h =>
    obtain ⟨he, v, t, h⟩ := h
    simp only [h, bind_some', l532e _ _ _ he, f532p1, beq0 he, bne0 he, cond_true, cond_false]
    rfl
  | .ok (n, t), h =>
    have h : f576v0F 1000 (8, S l, 0, ()) = some ((n : Int), S t, 0, ()) := h
    have hn := pNum_le hl
    show _ = some (match pMany pTable n t with
      | .error e => ([], e)
      | .ok (ts, t) => if t ≠ [] then ([], 10) else if (chkTs ts).2 ≠ 0 then ([], (chkTs ts).2) else (ts, 0))
    have h2 := f532l0q n hn t
    match pMany pTable n t, h2 with
    | .error e, h2 =>
      obtain ⟨he, v, t, h2⟩ := h2
      simp only [h, bind_some', h2, f532p1, beq0 he, bne0 he, cond_true, cond_false]
    | .ok (ts, t'), h2 =>
      have h2 : ∀ k0 : TsS → Option (List Tbl × Int), f532l0 1000 k0 ((n : Int), S t, 0, [], ()) = k0 (S t', 0, ts, ()) := h2
      simp only [h, bind_some', h2, f532p1, beq00, bne00, cond_true, cond_false]
      by_cases ht : t' = []
      · subst ht
        simp only [S_nil, strEq_self, Bool.not_true, cond_false, bne00, f515q, bind_some']
        rw [if_neg (by simp)]
        by_cases hc : (chkTs ts).2 = 0
        · rw [bif_false (by rw [hc]; rfl), if_neg (fun c => c hc)]
        · rw [bif_true (bne0 hc), if_pos hc]
      · have : strEq (S t') ByteArray.empty = false := by
          rw [← S_nil, S_eq]; simpa using ht
        simp only [this, Bool.not_false, cond_true, f578z, bind_some']
        rw [if_pos ht]
        rfl
end Go.Proofs.YtobgkcamonlnkaaGreatDoor
set_option linter.unusedVariables false
set_option linter.unusedSimpArgs false
namespace Go.Proofs.YtobgkcamonlnkaaGreatDoor
open Go.Ab

def RR (L : List UInt8) {α : Type} (r : PE α) (Q : α → Int → Int → Prop) : Prop :=
  match r with
  | .ok (v, t) => ∃ a : Nat, a ≤ L.length ∧ t = L.drop a ∧ Q v a 0
  | .error e => e ≠ 0 ∧ ∃ v a, Q v a e
theorem RR.bdE {L : List UInt8} {α β : Type} {r : PE α} {Q : α → Int → Int → Prop} {g : α → List UInt8 → PE β} {Q' : β → Int → Int → Prop} (h : RR L r Q)
    (h1 : ∀ v (a : Nat), r = .ok (v, L.drop a) → a ≤ L.length → Q v a 0 → RR L (g v (L.drop a)) Q') (h2 : ∀ e v a, e ≠ 0 → Q v a e → ∃ v' a', Q' v' a' e) : RR L (PE.bd r g) Q' := by
  match r, h with
  | .ok (v, t), h =>
    obtain ⟨a, ha, rfl, hq⟩ := h
    exact h1 v a rfl ha hq
  | .error e, h =>
    obtain ⟨he, v, a, hq⟩ := h
    exact ⟨he, h2 e v a he hq⟩
theorem RR.imp {L : List UInt8} {α : Type} {r : PE α} {Q Q' : α → Int → Int → Prop} (h : RR L r Q) (hi : ∀ v t e, Q v t e → Q' v t e) : RR L r Q' := by
  match r, h with
  | .ok (v, t), h =>
    obtain ⟨a, ha, rfl, hq⟩ := h
    exact ⟨a, ha, rfl, hi _ _ _ hq⟩
  | .error e, h =>
    obtain ⟨he, v, t, hq⟩ := h
    exact ⟨he, v, t, hi _ _ _ hq⟩

end Go.Proofs.YtobgkcamonlnkaaGreatDoor
