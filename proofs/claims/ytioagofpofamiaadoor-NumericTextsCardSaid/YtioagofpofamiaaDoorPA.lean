/- Plain laws: loops, wrapping, digits. -/
import Derived.Test.YtioagofpofamiaaDoorAB
import Derived.Laws.Strings
import Derived.Test.YtioagofpofamiaaDoorFaJ
import Derived.KernelRfl
import Derived.Lib.Strings
/-! Plain laws: loops, wrapping, digits. -/
set_option linter.unusedVariables false
set_option linter.unusedSimpArgs false
namespace Go.Ab

theorem wi {x : Int} (h0 : -9223372036854775808 ≤ x) (h1 : x ≤ 9223372036854775807) : IntKind.i64.wrap x = x := by
  rw [IntKind.wrap_i64]; omega
theorem wu8e (x : Int) : IntKind.u8.wrap x = x % 256 := by
  simp [IntKind.wrap, IntKind.signed, IntKind.bits]
theorem wu8 {x : Int} (h0 : 0 ≤ x) (h1 : x ≤ 255) : IntKind.u8.wrap x = x := by
  rw [wu8e]; omega

theorem bind_some' {α β : Type} (a : α) (f : α → Option β) : Option.bind (some a) f = f a := rfl
theorem bif_true {α : Type} {c : Bool} (h : c = true) (a b : α) : (bif c then a else b) = a := by rw [h]; rfl
theorem bif_false {α : Type} {c : Bool} (h : c = false) (a b : α) : (bif c then a else b) = b := by rw [h]; rfl
theorem strEq_self (x : ByteArray) : strEq x x = true := by simp [strEq]
theorem strEq_iff {x y : ByteArray} : strEq x y = true ↔ x = y := by
  constructor
  · intro h
    simp only [strEq, beq_iff_eq] at h
    have h2 : x.data.toList = y.data.toList := by
      have e : ∀ z : ByteArray, z.toList = z.data.toList := fun z => ByteArray.toList_eq z
      rw [← e, ← e, h]
    cases x; cases y
    simp only at h2
    congr
    exact Array.ext' h2
  · rintro rfl
    exact strEq_self x

/-- A loop whose states are told. -/
theorem iter_for {V R : Type} {Step : (V → Option R) → V → Option R} (st : Nat → V) (n : Nat) {fin : Option R} (hstep : ∀ rec i, i < n → Step rec (st i) = rec (st (i + 1))) (hend : ∀ rec, Step rec (st n) = fin) :
    ∀ {k : Nat}, n < k → iterS Step k (st 0) = fin := by
  have : ∀ (d i k : Nat), i + d = n → d < k → iterS Step k (st i) = fin := by
    intro d
    induction d with
    | zero =>
      intro i k hi hk
      cases k with
      | zero => omega
      | succ k =>
        have : i = n := by omega
        subst this
        exact hend _
    | succ d ih =>
      intro i k hi hk
      cases k with
      | zero => omega
      | succ k =>
        show Step (iterS Step k) (st i) = fin
        rw [hstep _ i (by omega)]
        exact ih (i + 1) k (by omega) (by omega)
  intro k hk
  exact this n 0 k (by omega) hk

/-- The lowest digits of a number, the highest of them first. -/
def low (b n : Int) : Nat → List Int
  | 0 => []
  | i + 1 => (n / b ^ i % b) :: low b n i
theorem low_length (b n : Int) : ∀ i, (low b n i).length = i
  | 0 => rfl
  | i + 1 => by simp [low, low_length b n i]
theorem low_mem {b n : Int} (hb : 0 < b) : ∀ {i : Nat} {d : Int}, d ∈ low b n i → 0 ≤ d ∧ d < b
  | 0, _, h => by simp [low] at h
  | i + 1, d, h => by
    simp only [low, List.mem_cons] at h
    rcases h with rfl | h
    · exact ⟨Int.emod_nonneg _ (by omega), Int.emod_lt_of_pos _ hb⟩
    · exact low_mem hb h
theorem set_zeros {L i : Nat} (hi : i < L) (l : List Int) (d : Int) : (List.replicate (L - i) 0 ++ l).set (L - 1 - i) d = List.replicate (L - (i + 1)) 0 ++ d :: l := by
  have e : L - i = (L - 1 - i) + 1 := by omega
  rw [e, List.replicate_succ', List.append_assoc, List.set_append_right _ _ (by simp)]
  simp only [List.length_replicate, Nat.sub_self, List.cons_append, List.nil_append, List.set_cons_zero]
  rw [show L - (i + 1) = L - 1 - i by omega]

theorem getD_take_map (g : Int → Int) (l : List Int) (i : Nat) : ((l.take i).map g ++ l.drop i).getD i 0 = l.getD i 0 := by
  by_cases h : i < l.length
  · rw [List.getD_eq_getElem?_getD, List.getElem?_append_right (by simp; omega)]
    simp [List.length_take, Nat.min_eq_left (Nat.le_of_lt h), List.getD_eq_getElem?_getD]
  · rw [List.getD_eq_getElem?_getD, List.getD_eq_getElem?_getD, List.getElem?_eq_none (by simp; omega), List.getElem?_eq_none (by omega)]
theorem set_take_map (g : Int → Int) {l : List Int} {i : Nat} (h : i < l.length) : ((l.take i).map g ++ l.drop i).set i (g (l.getD i 0)) = (l.take (i + 1)).map g ++ l.drop (i + 1) := by
  rw [List.set_append_right _ _ (by simp; omega)]
  have e : i - ((l.take i).map g).length = 0 := by simp; omega
  rw [e, List.drop_eq_getElem_cons h, List.set_cons_zero, List.take_succ_eq_append_getElem h, List.map_append, List.append_assoc]
  simp [List.getD_eq_getElem?_getD, List.getElem?_eq_getElem h]
theorem set_take_zero (g : Nat → Int) {n i : Nat} (h : i < n) : (((List.range i).map g) ++ List.replicate (n - i) 0).set i (g i) = ((List.range (i + 1)).map g) ++ List.replicate (n - (i + 1)) 0 := by
  rw [List.set_append_right _ _ (by simp)]
  have e : i - ((List.range i).map g).length = 0 := by simp
  rw [e, show n - i = (n - (i + 1)) + 1 by omega, List.replicate_succ, List.set_cons_zero, List.range_succ, List.map_append, List.append_assoc]
  rfl
theorem map_getD_range (g : Int → Int) (l : List Int) : (List.range l.length).map (fun i => g (l.getD i 0)) = l.map g := by
  apply List.ext_getElem
  · simp
  · intro i h1 h2
    simp at h1
    simp [List.getD_eq_getElem?_getD, List.getElem?_eq_getElem h1]
end Go.Ab
/-! Plain laws: the layout of a number's text. -/
set_option linter.unusedVariables false
set_option linter.unusedSimpArgs false
namespace Go.Proofs.YtioagofpofamiaaDoor
open Go.Ab

theorem t_awake : f13F 1000 () = some true := by kernel_rfl
theorem t43 (k : Nat) (b : Bool) (e : Int) : f43F k (b, e) = some (if b = true then e else 0) := by
  unfold f43F
  cases b <;> rfl
theorem t42_step {R : Type} (k : Nat) (rec : List Int × Int × Int × Unit → Option R) (k0 : Int × Unit → Option R) (k1 : Unit → Option R) (l : List Int) (i : Nat) (hl : l.length < 1000) (hi : i < l.length) :
    f42l0s k rec k0 k1 (l, (l.length : Int), (i : Int), ()) = if l.getD i 0 = 0 then rec (l, (l.length : Int), ((i + 1 : Nat) : Int), ()) else k0 (l.getD i 0, ()) := by
  unfold f42l0s
  have h1 : (i : Int) < (l.length : Int) := by omega
  simp only [h1, decide_true, cond_true, Int.natCast_nonneg, Bool.and_self, Int.toNat_natCast, wi (x := (i : Int) + 1) (by omega) (by omega)]
  by_cases h : l.getD i 0 = 0
  · have hb : (l.getD i 0 != 0) = false := by simpa using h
    rw [hb, if_pos h]; rfl
  · have hb : (l.getD i 0 != 0) = true := by simpa using h
    rw [hb, if_neg h]; rfl
theorem t42 (a b : Int) : f42F 1000 [a, b] = some (if a = 0 then b else a) := by
  have e0 : ∀ {R : Type} (Step : (List Int × Int × Int × Unit → Option R) → List Int × Int × Int × Unit → Option R) v, iterS Step 1000 v = Step (fun v => Step (fun v => Step (iterS Step 997) v) v) v := fun _ _ => rfl
  unfold f42F f42l0
  rw [e0]
  have s0 := fun rec k0 k1 => t42_step (R := Int) 1000 rec k0 k1 [a, b] 0 (by simp) (by simp)
  have s1 := fun rec k0 k1 => t42_step (R := Int) 1000 rec k0 k1 [a, b] 1 (by simp) (by simp)
  have s2 : ∀ rec k0 k1, f42l0s (R := Int) 1000 rec k0 k1 ([a, b], (([a, b].length : Nat) : Int), ((2 : Nat) : Int), ()) = k1 () := fun _ _ _ => rfl
  have z0 : ((0 : Nat) : Int) = 0 := rfl
  rw [z0] at s0
  rw [s0]
  simp only [Nat.zero_add, s1, Nat.reduceAdd, s2]
  by_cases ha : a = 0 <;> by_cases hb : b = 0 <;> simp [ha, hb]
theorem t_iter {V R : Type} (Step : (V → Option R) → V → Option R) (k : Nat) (v : V) : iterS Step (k + 1) v = Step (iterS Step k) v := rfl

/-- A byte of a string as a number. -/
def nb (s : ByteArray) (i : Nat) : Int := (bytesOf s).getD i 0
theorem t_len (s : ByteArray) : (bytesOf s).length = s.size := by
  unfold bytesOf
  rw [List.length_map]
  rfl
theorem nb_bt (s : ByteArray) (i : Nat) : bt s (i : Int) = nb s i := by
  unfold bt nb
  rw [Int.toNat_natCast]
  split
  · rename_i h
    have h' : i < s.data.toList.length := h
    simp only [bytesOf, List.getD_eq_getElem?_getD, List.getElem?_map, List.getElem?_eq_getElem h', Option.map_some, Option.getD_some]
    rfl
  · rename_i h
    rw [List.getD_eq_getElem?_getD, List.getElem?_eq_none (by rw [t_len]; omega)]
    rfl
/-- A digit stands there. -/
def dgt (s : ByteArray) (i : Nat) : Bool := decide (i < s.size) && (decide (48 ≤ nb s i) && decide (nb s i ≤ 57))
theorem dgt_iff {s : ByteArray} {i : Nat} : dgt s i = true ↔ i < s.size ∧ 48 ≤ nb s i ∧ nb s i ≤ 57 := by simp [dgt]
theorem f260q (s : ByteArray) (i : Nat) : f260F 1000 (s, (i : Int)) = some (dgt s i) := by
  unfold f260F dgt
  simp only [nb_bt]
  by_cases h : i < s.size
  · rw [bif_true (by simp; omega), bif_true (by simp; omega), decide_eq_true h]
    by_cases h2 : 48 ≤ nb s i
    · rw [bif_true (by simpa using h2), bif_true (by simp; omega), decide_eq_true h2]; rfl
    · rw [bif_false (by simp; omega), decide_eq_false h2]; rfl
  · rw [bif_false (by simp; omega), decide_eq_false h]; rfl

/-- The offset behind digits. -/
def runE (s : ByteArray) : Nat → Nat → Nat
  | 0, i => i
  | r + 1, i => if dgt s i = true then runE s r (i + 1) else i
theorem runE_spec (s : ByteArray) : ∀ (r i : Nat), i + r = s.size → i ≤ runE s r i ∧ runE s r i ≤ s.size ∧ (∀ j, i ≤ j → j < runE s r i → dgt s j = true) ∧ dgt s (runE s r i) = false
  | 0, i, h => by
    refine ⟨Nat.le_refl _, by simp [runE]; omega, fun j h1 h2 => by simp [runE] at h2; omega, ?_⟩
    show dgt s i = false
    unfold dgt
    rw [decide_eq_false (by omega)]
    rfl
  | r + 1, i, h => by
    unfold runE
    by_cases hd : dgt s i = true
    · rw [if_pos hd]
      obtain ⟨h1, h2, h3, h4⟩ := runE_spec s r (i + 1) (by omega)
      refine ⟨by omega, h2, fun j hj hj2 => ?_, h4⟩
      by_cases e : j = i
      · rw [e]; exact hd
      · exact h3 j (by omega) hj2
    · rw [if_neg hd]
      exact ⟨Nat.le_refl _, by omega, fun j h1 h2 => by omega, by simpa using hd⟩
theorem f241q {s : ByteArray} {i : Nat} (hs : s.size ≤ 900) (hi : i ≤ s.size) : f241F 1000 (s, (i : Int)) = some (if dgt s i = true then ((runE s (s.size - i) i : Nat) : Int) else (i : Int), if dgt s i = true then 0 else if i < s.size then 8 else 9) := by
  unfold f241F
  simp only [f260q, bind_some']
  by_cases hd : dgt s i = true
  · rw [hd, bif_false (by rfl), if_pos rfl, if_pos rfl]
    unfold f241l0
    have key : ∀ (r j k : Nat), j + r = s.size → r < k → iterS (fun rec v => f241l0s 1000 rec (fun (w3 : Int × Unit) => some (w3.1, (0 : Int))) v) k (s, (j : Int), ()) = some (((runE s r j : Nat) : Int), 0) := by
      intro r
      induction r with
      | zero =>
        intro j k hj hk
        obtain ⟨k, rfl⟩ : ∃ q, k = q + 1 := ⟨k - 1, by omega⟩
        rw [t_iter]
        unfold f241l0s
        simp only [f260q, bind_some']
        have : dgt s j = false := by simp [dgt]; omega
        rw [this]
        rfl
      | succ r ih =>
        intro j k hj hk
        obtain ⟨k, rfl⟩ : ∃ q, k = q + 1 := ⟨k - 1, by omega⟩
        rw [t_iter]
        by_cases hd : dgt s j = true
        · have hst : ∀ (rec : ByteArray × Int × Unit → Option (Int × Int)) k0, f241l0s 1000 rec k0 (s, (j : Int), ()) = rec (s, ((j + 1 : Nat) : Int), ()) := fun rec k0 => by
            unfold f241l0s
            simp only [f260q, bind_some', hd, cond_true]
            rw [wi (by omega) (by omega)]
            rfl
          rw [hst, ih (j + 1) k (by omega) (by omega)]
          simp only [runE, if_pos hd]
        · have hd' : dgt s j = false := by simpa using hd
          unfold f241l0s
          simp only [f260q, bind_some', hd', cond_false, runE]
          rfl
    exact key (s.size - i) i 1000 (by omega) (by omega)
  · have hd' : dgt s i = false := by simpa using hd
    rw [hd', bif_true (by rfl)]
    by_cases h : i < s.size
    · rw [bif_true (by simp; omega), if_neg (by decide), if_neg (by decide), if_pos h]
    · rw [bif_false (by simp; omega), if_neg (by decide), if_neg (by decide), if_neg h]

/-- Where a number begins. -/
def frm (s : ByteArray) : Nat := if nb s 0 = 45 then 1 else 0
/-- The layout of a number's text: an offset and an error, or where its digits begin, and where they end. -/
def layS (s : ByteArray) : (Nat × Int) ⊕ (Nat × Nat) :=
  if dgt s (frm s) = false then .inl (frm s, if frm s < s.size then 8 else 9)
  else if nb s (frm s) = 48 ∧ frm s + 1 < runE s (s.size - frm s) (frm s) then .inl (frm s + 1, 8)
  else if runE s (s.size - frm s) (frm s) = s.size then .inr (frm s, runE s (s.size - frm s) (frm s))
  else if nb s (runE s (s.size - frm s) (frm s)) ≠ 46 then .inl (runE s (s.size - frm s) (frm s), 8)
  else if dgt s (runE s (s.size - frm s) (frm s) + 1) = false then .inl (runE s (s.size - frm s) (frm s) + 1, if runE s (s.size - frm s) (frm s) + 1 < s.size then 8 else 9)
  else if runE s (s.size - (runE s (s.size - frm s) (frm s) + 1)) (runE s (s.size - frm s) (frm s) + 1) < s.size then .inl (runE s (s.size - (runE s (s.size - frm s) (frm s) + 1)) (runE s (s.size - frm s) (frm s) + 1), 8)
  else .inr (frm s, runE s (s.size - frm s) (frm s))

theorem frm_le {s : ByteArray} (h0 : 0 < s.size) : frm s ≤ s.size := by unfold frm; split <;> omega

theorem f221q {s : ByteArray} (h0 : 0 < s.size) (hs : s.size ≤ 900) : f221F 1000 s = some (match layS s with | .inl (a, e) => (0, (a : Int), e) | .inr (f, t) => ((f : Int), (t : Int), 0)) := by
  have hf := frm_le h0
  have p0 : ∀ {R : Type} (k0 : ByteArray × Int × Unit → Option R), f221p0 1000 k0 (s, 0, ()) = k0 (s, (frm s : Int), ()) := by
    intro R k0
    unfold f221p0 frm
    have := nb_bt s 0
    have z : ((0 : Nat) : Int) = 0 := rfl
    rw [z] at this
    simp only [this]
    rw [bif_true (by simp; omega)]
    by_cases h : nb s 0 = 45
    · rw [bif_true (by simpa using h), if_pos h]; rfl
    · rw [bif_false (by simpa using h), if_neg h]; rfl
  unfold f221F layS
  rw [p0]
  simp only []
  rw [f241q hs hf, bind_some']
  by_cases hd : dgt s (frm s) = true
  · rw [hd]
    obtain ⟨r1, r2, r3, r4⟩ := runE_spec s (s.size - frm s) (frm s) (by omega)
    have hfl := (dgt_iff.1 hd).1
    have r5 : frm s + 1 ≤ runE s (s.size - frm s) (frm s) := by
      have : runE s (s.size - frm s) (frm s) ≠ frm s := fun c => by rw [c, hd] at r4; exact absurd r4 (by decide)
      omega
    simp only [if_true, bne_self_eq_false, cond_false, Bool.true_eq_false, if_false]
    generalize runE s (s.size - frm s) (frm s) = E at *
    unfold f221p1
    simp only [nb_bt]
    have w1 : IntKind.i64.wrap ((frm s : Int) + 1) = ((frm s + 1 : Nat) : Int) := by rw [wi (by omega) (by omega)]; omega
    have w2 : IntKind.i64.wrap ((E : Int) + 1) = ((E + 1 : Nat) : Int) := by rw [wi (by omega) (by omega)]; omega
    rw [bif_true (by simp; omega), w1]
    have rest : (bif ((E : Int) == (s.size : Int)) then some ((frm s : Int), (E : Int), (0 : Int)) else
        bif ((decide ((0 : Int) ≤ (E : Int))) && (decide ((E : Int) < (s.size : Int)))) then
        bif ((nb s E) != (46 : Int)) then some ((0 : Int), (E : Int), (8 : Int)) else
        Option.bind (f241F 1000 (s, (IntKind.i64.wrap ((E : Int) + (1 : Int))))) fun y5 =>
          f221p2 1000 (fun (w6 : Int × Int × Int × Int × Unit) =>
              bif (w6.2.2.1 != (0 : Int)) then some ((0 : Int), w6.2.2.2.1, w6.2.2.1) else some (w6.1, w6.2.1, (0 : Int)))
            (s, (frm s : Int), (E : Int), y5.2, y5.1, ()) else none)
        = some (match (if E = s.size then .inr (frm s, E) else if nb s E ≠ 46 then .inl (E, 8) else if dgt s (E + 1) = false then .inl (E + 1, if E + 1 < s.size then 8 else 9)
          else if runE s (s.size - (E + 1)) (E + 1) < s.size then .inl (runE s (s.size - (E + 1)) (E + 1), 8) else .inr (frm s, E) : (Nat × Int) ⊕ (Nat × Nat)) with | .inl (a, e) => (0, (a : Int), e) | .inr (f, t) => ((f : Int), (t : Int), 0)) := by
      by_cases hE : E = s.size
      · rw [if_pos hE, bif_true (by simp; omega)]
      · rw [if_neg hE, bif_false (by simp; omega), bif_true (by simp; omega)]
        by_cases h46 : nb s E = 46
        · rw [if_neg (by simp [h46]), bif_false (by simp [h46]), w2, f241q hs (by omega), bind_some']
          by_cases hd2 : dgt s (E + 1) = true
          · rw [hd2]
            obtain ⟨q1, q2, q3, q4⟩ := runE_spec s (s.size - (E + 1)) (E + 1) (by omega)
            generalize runE s (s.size - (E + 1)) (E + 1) = E2 at *
            unfold f221p2
            simp only [if_true, beq_self_eq_true, cond_true, Bool.true_eq_false, if_false]
            by_cases hE2 : E2 < s.size
            · rw [bif_true (by simp; omega), if_pos hE2]
              rfl
            · rw [bif_false (by simp; omega), if_neg hE2]
              rfl
          · have hd2' : dgt s (E + 1) = false := by simpa using hd2
            rw [hd2', if_pos rfl]
            unfold f221p2
            by_cases hl : E + 1 < s.size
            · simp only [Bool.false_eq_true, if_false, hl, if_true]; rfl
            · simp only [Bool.false_eq_true, if_false, hl]; rfl
        · rw [if_pos h46, bif_true (by simpa using h46)]
    by_cases h48 : nb s (frm s) = 48
    · rw [bif_true (by simpa using h48)]
      by_cases hl : frm s + 1 < E
      · rw [bif_true (by simp; omega), if_pos ⟨h48, hl⟩]
      · rw [bif_false (by simp; omega), if_neg (fun c => hl c.2)]
        exact rest
    · rw [bif_false (by simpa using h48), if_neg (fun c => h48 c.1)]
      exact rest
  · have hd' : dgt s (frm s) = false := by simpa using hd
    rw [hd', if_pos rfl]
    by_cases hl : frm s < s.size
    · simp only [Bool.false_eq_true, if_false, hl, if_true]; rfl
    · simp only [Bool.false_eq_true, if_false, hl]; rfl
end Go.Proofs.YtioagofpofamiaaDoor
/-! Plain laws: the layout of a number's text, by the reference. -/
set_option linter.unusedVariables false
set_option linter.unusedSimpArgs false
namespace Go.Proofs.YtioagofpofamiaaDoor
open Go.Ab

theorem t225 (k : Nat) (c : Int) : f225F k c = some (decide (48 ≤ c) && decide (c ≤ 57)) := by
  unfold f225F
  by_cases h : 48 ≤ c
  · rw [bif_true (by simpa using h), decide_eq_true h]; rfl
  · rw [bif_false (by simpa using h), decide_eq_false h]; rfl

theorem l1_step {R : Type} (rec k0 k1 : ByteArray × Int × Int × Int × Int × Int × Int × Int × Unit → Option R) (s : ByteArray) (i f : Nat) (p : Int) (hi : i < s.size) (hs : s.size ≤ 900) (hf : f < s.size) :
    f208l1s 1000 rec k0 k1 (s, (i : Int), (f : Int), p, 0, 0, 0, 0, ()) =
      if nb s i = 46 ∧ p = -1 ∧ f < i then rec (s, ((i + 1 : Nat) : Int), (f : Int), (i : Int), 0, 0, 0, 0, ())
      else if (48 ≤ nb s i ∧ nb s i ≤ 57) ∧ ¬ (p = -1 ∧ i = f + 1 ∧ nb s f = 48) then rec (s, ((i + 1 : Nat) : Int), (f : Int), p, 0, 0, 0, 0, ())
      else k0 (s, (i : Int), (f : Int), p, 0, 0, (i : Int), 8, ()) := by
  have w1 : IntKind.i64.wrap ((i : Int) + 1) = ((i + 1 : Nat) : Int) := by rw [wi (by omega) (by omega)]; omega
  have w2 : IntKind.i64.wrap ((f : Int) + 1) = ((f + 1 : Nat) : Int) := by rw [wi (by omega) (by omega)]; omega
  have g1 : ((decide ((0 : Int) ≤ (i : Int))) && (decide ((i : Int) < (s.size : Int)))) = true := by simp; omega
  have g2 : ((decide ((0 : Int) ≤ (f : Int))) && (decide ((f : Int) < (s.size : Int)))) = true := by simp; omega
  have e1 : ((i : Int) == ((f + 1 : Nat) : Int)) = decide (i = f + 1) := by
    by_cases h : i = f + 1
    · rw [decide_eq_true h, h]; simp
    · rw [decide_eq_false h]; simp; omega
  have e2 : decide ((i : Int) > (f : Int)) = decide (f < i) := by
    by_cases h : f < i
    · rw [decide_eq_true h, decide_eq_true (by omega)]
    · rw [decide_eq_false h, decide_eq_false (by omega)]
  unfold f208l1s f208p0
  simp only [nb_bt, t225, bind_some', w1, w2, g1, g2, e1, e2, cond_true]
  rw [bif_true (by simp; omega)]
  generalize nb s i = c
  generalize nb s f = d
  by_cases hc : c = 46
  · subst hc
    by_cases hp : p = -1
    · subst hp
      by_cases hfi : f < i
      · simp [hfi]
      · simp [hfi]
    · have hpb : (p == -1) = false := by simpa using hp
      simp [hp, hpb]
  · have hcb : (c == 46) = false := by simpa using hc
    by_cases hd : 48 ≤ c ∧ c ≤ 57
    · by_cases hp : p = -1
      · subst hp
        by_cases h1 : i = f + 1
        · by_cases h2 : d = 48
          · simp [hc, hcb, hd, h1, h2]
          · have hdb : (d == 48) = false := by simpa using h2
            simp [hc, hcb, hd, h1, h2, hdb]
        · simp [hc, hcb, hd, h1]
      · have hpb : (p == -1) = false := by simpa using hp
        simp [hc, hcb, hd, hp, hpb]
    · by_cases h48 : 48 ≤ c
      · have : ¬ c ≤ 57 := fun h => hd ⟨h48, h⟩
        simp [hc, hcb, h48, this]
      · simp [hc, hcb, h48]
theorem l1_end {R : Type} (rec k0 k1 : ByteArray × Int × Int × Int × Int × Int × Int × Int × Unit → Option R) (s : ByteArray) (f p : Int) :
    f208l1s 1000 rec k0 k1 (s, (s.size : Int), f, p, 0, 0, 0, 0, ()) = k1 (s, (s.size : Int), f, p, 0, 0, 0, 0, ()) := by
  unfold f208l1s
  rw [bif_false (by simp)]

theorem l1_skip {R : Type} (k0 k1 : ByteArray × Int × Int × Int × Int × Int × Int × Int × Unit → Option R) (s : ByteArray) (f : Nat) (p : Int) (hs : s.size ≤ 900) (hf : f < s.size) :
    ∀ (d i m K : Nat), K = m + d → i + d ≤ s.size → (∀ j, i ≤ j → j < i + d → dgt s j = true ∧ ¬ (p = -1 ∧ j = f + 1 ∧ nb s f = 48)) →
      iterS (fun rec v => f208l1s 1000 rec k0 k1 v) K (s, (i : Int), (f : Int), p, 0, 0, 0, 0, ()) = iterS (fun rec v => f208l1s 1000 rec k0 k1 v) m (s, ((i + d : Nat) : Int), (f : Int), p, 0, 0, 0, 0, ()) := by
  intro d
  induction d with
  | zero => intro i m K hK _ _; rw [hK]; rfl
  | succ d ih =>
    intro i m K hK hi hj
    obtain ⟨h1, h2⟩ := hj i (by omega) (by omega)
    have h1' := dgt_iff.1 h1
    rw [show K = (m + d) + 1 by omega, t_iter, l1_step _ _ _ _ _ _ _ (by omega) hs hf, if_neg (by omega), if_pos ⟨h1'.2, h2⟩, ih (i + 1) m (m + d) rfl (by omega) (fun j a b => hj j (by omega) (by omega)), show i + 1 + d = i + (d + 1) by omega]

/-- What the reference does behind the layout. -/
noncomputable def k208 (w18 : ByteArray × Int × Int × Int × Int × Int × Int × Int × Int × Unit) : Option ((Int × Int) × (Int × Int)) :=
  bif (decide (w18.2.2.2.1 > (15 : Int))) then
    some (((0 : Int), (0 : Int)), ((0 : Int), (19 : Int)))
  else
  f208p6 1000
    (fun (w19 : ByteArray × Int × Int × Int × Int × Int × Int × Int × Unit) =>
      some ((w19.2.2.1, w19.2.2.2.1), ((w19.1.size : Int), (0 : Int))))
    (w18.1, w18.2.1, w18.2.2.1, w18.2.2.2.2.1, w18.2.2.2.2.2.1, w18.2.2.2.2.2.2.1, w18.2.2.2.2.2.2.2.1, w18.2.2.2.2.2.2.2.2.1, ())

theorem f208q {s : ByteArray} (h0 : 0 < s.size) (hs : s.size ≤ 40) : f208F 1000 s = match layS s with
    | .inl (a, e) => some ((0, 0), ((a : Int), e))
    | .inr (f, t) => f208l5 1000 k208 (s, (f : Int), (if t = s.size then -1 else (t : Int)), 0, 0, 0, (f : Int), 0, 0, 0, 0, ()) := by
  have hf := frm_le h0
  have hne : strEq s ByteArray.empty = false := by
    cases h : strEq s ByteArray.empty with
    | false => rfl
    | true =>
      have := strEq_iff.1 h
      subst this
      exact absurd h0 (by decide)
  have hb0 : bt s 0 = nb s 0 := nb_bt s 0
  have h69 : f69F 1000 (nb s 0 == 45) = some (frm s : Int) := by
    unfold f69F frm
    by_cases h : nb s 0 = 45
    · rw [bif_true (by simpa using h), if_pos h]; rfl
    · rw [bif_false (by simpa using h), if_neg h]; rfl
  unfold f208F
  rw [bif_false (by simp; omega), hne, cond_false, bif_true (by simp; omega), hb0, h69, bind_some']
  unfold f208l1 layS
  have fin : ∀ (p : Int), (frm s : Int) ≠ (s.size : Int) → p ≠ (s.size : Int) - 1 → (bif ((s.size : Int) == (frm s : Int)) then some (((0 : Int), (0 : Int)), ((s.size : Int), (9 : Int))) else bif (p == (IntKind.i64.wrap ((s.size : Int) - (1 : Int)))) then some (((0 : Int), (0 : Int)), ((s.size : Int), (9 : Int))) else
      f208l5 1000 k208 (s, (frm s : Int), p, 0, 0, 0, (frm s : Int), 0, 0, 0, 0, ())) = f208l5 1000 k208 (s, (frm s : Int), p, 0, 0, 0, (frm s : Int), 0, 0, 0, 0, ()) := by
    intro p h1 h2
    rw [bif_false (by simp; omega), wi (by omega) (by omega), bif_false (by simpa using h2)]
  by_cases hd : dgt s (frm s) = true
  · rw [if_neg (by simp [hd])]
    obtain ⟨r1, r2, r3, r4⟩ := runE_spec s (s.size - frm s) (frm s) (by omega)
    have hfl := (dgt_iff.1 hd).1
    have hfd := (dgt_iff.1 hd).2
    have r5 : frm s + 1 ≤ runE s (s.size - frm s) (frm s) := by
      have : runE s (s.size - frm s) (frm s) ≠ frm s := fun c => by rw [c, hd] at r4; exact absurd r4 (by decide)
      omega
    generalize runE s (s.size - frm s) (frm s) = E at *
    by_cases h48 : nb s (frm s) = 48 ∧ frm s + 1 < E
    · rw [if_pos h48]
      have d1 := dgt_iff.1 (r3 (frm s + 1) (by omega) h48.2)
      rw [l1_skip _ _ s (frm s) (-1) (by omega) hfl 1 (frm s) (998 + 1) 1000 rfl (by omega) (fun j a b => ⟨r3 j (by omega) (by omega), by omega⟩)]
      rw [t_iter, l1_step _ _ _ _ _ _ _ (by omega) (by omega) hfl, if_neg (by omega), if_neg (fun c => c.2 ⟨rfl, rfl, h48.1⟩)]
    · rw [if_neg h48]
      obtain ⟨m, hm, hm2⟩ : ∃ m, 1000 = (m + 1) + (E - frm s) ∧ 500 ≤ m := ⟨999 - (E - frm s), by omega, by omega⟩
      rw [l1_skip _ _ s (frm s) (-1) (by omega) hfl (E - frm s) (frm s) (m + 1) 1000 hm (by omega) (fun j a b => ⟨r3 j (by omega) (by omega), fun c => h48 ⟨c.2.2, by omega⟩⟩), show frm s + (E - frm s) = E by omega]
      by_cases hE : E = s.size
      · rw [if_pos hE, hE, t_iter, l1_end]
        refine (fin (-1) (by omega) (by omega)).trans ?_
        simp only [if_true]
      · have hEl : E < s.size := by omega
        have nd : ¬ (48 ≤ nb s E ∧ nb s E ≤ 57) := fun c => by
          have := dgt_iff.2 ⟨hEl, c⟩
          rw [r4] at this
          exact absurd this (by decide)
        rw [if_neg hE, t_iter, l1_step _ _ _ _ _ _ _ hEl (by omega) hfl]
        by_cases h46 : nb s E = 46
        · rw [if_pos ⟨h46, rfl, by omega⟩, if_neg (fun c => c h46)]
          by_cases hd2 : dgt s (E + 1) = true
          · rw [if_neg (by simp [hd2])]
            obtain ⟨q1, q2, q3, q4⟩ := runE_spec s (s.size - (E + 1)) (E + 1) (by omega)
            have q5 : E + 2 ≤ runE s (s.size - (E + 1)) (E + 1) := by
              have : runE s (s.size - (E + 1)) (E + 1) ≠ E + 1 := fun c => by rw [c, hd2] at q4; exact absurd q4 (by decide)
              omega
            generalize runE s (s.size - (E + 1)) (E + 1) = E2 at *
            obtain ⟨m2, hm3⟩ : ∃ m2, m = (m2 + 1) + (E2 - (E + 1)) := ⟨m - 1 - (E2 - (E + 1)), by omega⟩
            rw [l1_skip _ _ s (frm s) (E : Int) (by omega) hfl (E2 - (E + 1)) (E + 1) (m2 + 1) m hm3 (by omega) (fun j a b => ⟨q3 j (by omega) (by omega), by omega⟩), show E + 1 + (E2 - (E + 1)) = E2 by omega]
            by_cases hE2 : E2 < s.size
            · have nd2 : ¬ (48 ≤ nb s E2 ∧ nb s E2 ≤ 57) := fun c => by
                have := dgt_iff.2 ⟨hE2, c⟩
                rw [q4] at this
                exact absurd this (by decide)
              rw [if_pos hE2, t_iter, l1_step _ _ _ _ _ _ _ hE2 (by omega) hfl, if_neg (by omega), if_neg (fun c => nd2 c.1)]
            · have hE2' : E2 = s.size := by omega
              rw [if_neg hE2, hE2', t_iter, l1_end]
              refine (fin (E : Int) (by omega) (by omega)).trans ?_
              simp only [hE, if_false]
          · have hd2' : dgt s (E + 1) = false := by simpa using hd2
            rw [if_pos hd2']
            by_cases hl : E + 1 < s.size
            · have nd2 : ¬ (48 ≤ nb s (E + 1) ∧ nb s (E + 1) ≤ 57) := fun c => by
                have := dgt_iff.2 ⟨hl, c⟩
                rw [hd2'] at this
                exact absurd this (by decide)
              obtain ⟨m2, hm3⟩ : ∃ m2, m = m2 + 1 := ⟨m - 1, by omega⟩
              rw [hm3, t_iter, l1_step _ _ _ _ _ _ _ hl (by omega) hfl, if_neg (by omega), if_neg (fun c => nd2 c.1)]
              simp only [hl, if_true]
            · have e : E + 1 = s.size := by omega
              obtain ⟨m2, hm3⟩ : ∃ m2, m = m2 + 1 := ⟨m - 1, by omega⟩
              rw [e, hm3, t_iter, l1_end]
              simp only [Nat.lt_irrefl, if_false]
              rw [bif_false (by simp; omega), wi (by omega) (by omega), bif_true (by simp; omega)]
        · rw [if_neg (fun c => h46 c.1), if_neg (fun c => nd c.1), if_pos h46]
  · have hd' : dgt s (frm s) = false := by simpa using hd
    rw [if_pos hd']
    by_cases hl : frm s < s.size
    · have nd : ¬ (48 ≤ nb s (frm s) ∧ nb s (frm s) ≤ 57) := fun c => by
        have := dgt_iff.2 ⟨hl, c⟩
        rw [hd'] at this
        exact absurd this (by decide)
      have hk : iterS (fun rec v => f208l1s 1000 rec (fun (w7 : ByteArray × Int × Int × Int × Int × Int × Int × Int × Unit) => some ((w7.2.2.2.2.1, w7.2.2.2.2.2.1), (w7.2.2.2.2.2.2.1, w7.2.2.2.2.2.2.2.1))) (fun (w8 : ByteArray × Int × Int × Int × Int × Int × Int × Int × Unit) =>
          bif (w8.2.1 == w8.2.2.1) then some (((0 : Int), (0 : Int)), ((w8.1.size : Int), (9 : Int))) else bif (w8.2.2.2.1 == (IntKind.i64.wrap (w8.2.1 - (1 : Int)))) then some (((0 : Int), (0 : Int)), ((w8.1.size : Int), (9 : Int))) else
          f208l5 1000 k208 (w8.1, w8.2.2.1, w8.2.2.2.1, (0 : Int), (0 : Int), (0 : Int), w8.2.2.1, w8.2.2.2.2.1, w8.2.2.2.2.2.1, w8.2.2.2.2.2.2.1, w8.2.2.2.2.2.2.2.1, ())) v) (999 + 1) (s, (frm s : Int), (frm s : Int), -1, 0, 0, 0, 0, ()) = some ((0, 0), ((frm s : Int), 8)) := by
        rw [t_iter, l1_step _ _ _ _ _ _ _ hl (by omega) hl, if_neg (by omega), if_neg (fun c => nd c.1)]
      refine Eq.trans hk ?_
      simp only [hl, if_true]
    · have e : frm s = s.size := by omega
      have hk : iterS (fun rec v => f208l1s 1000 rec (fun (w7 : ByteArray × Int × Int × Int × Int × Int × Int × Int × Unit) => some ((w7.2.2.2.2.1, w7.2.2.2.2.2.1), (w7.2.2.2.2.2.2.1, w7.2.2.2.2.2.2.2.1))) (fun (w8 : ByteArray × Int × Int × Int × Int × Int × Int × Int × Unit) =>
          bif (w8.2.1 == w8.2.2.1) then some (((0 : Int), (0 : Int)), ((w8.1.size : Int), (9 : Int))) else bif (w8.2.2.2.1 == (IntKind.i64.wrap (w8.2.1 - (1 : Int)))) then some (((0 : Int), (0 : Int)), ((w8.1.size : Int), (9 : Int))) else
          f208l5 1000 k208 (w8.1, w8.2.2.1, w8.2.2.2.1, (0 : Int), (0 : Int), (0 : Int), w8.2.2.1, w8.2.2.2.2.1, w8.2.2.2.2.2.1, w8.2.2.2.2.2.2.1, w8.2.2.2.2.2.2.2.1, ())) v) (999 + 1) (s, (frm s : Int), (frm s : Int), -1, 0, 0, 0, 0, ()) = some ((0, 0), ((s.size : Int), 9)) := by
        rw [e, t_iter, l1_end]
        simp only []
        rw [bif_true (by simp)]
      refine Eq.trans hk ?_
      simp only [e, Nat.lt_irrefl, if_false]
end Go.Proofs.YtioagofpofamiaaDoor
/-! Plain laws: the digits of a number's text. -/
set_option linter.unusedVariables false
set_option linter.unusedSimpArgs false
namespace Go.Proofs.YtioagofpofamiaaDoor
open Go.Ab

/-- The digits from an offset on, so many. -/
def dgl (s : ByteArray) (i d : Nat) : List Int := (List.range' i d).map fun j => nb s j - 48
theorem dgl_succ (s : ByteArray) (i d : Nat) : dgl s i (d + 1) = (nb s i - 48) :: dgl s (i + 1) d := by simp [dgl, List.range'_succ]
theorem dgl_len (s : ByteArray) (i d : Nat) : (dgl s i d).length = d := by simp [dgl]

def stR (x : Int × Nat) (d : Int) : Int × Nat := (if x.2 + 1 ≤ 15 then 10 * x.1 + d else x.1, x.2 + 1)
def stW (x : Int × Nat) (d : Int) : Int × Nat := if 0 < x.2 ∨ d ≠ 0 then stR x d else (10 * x.1 + d, x.2)
def okx (x : Int × Nat) : Prop := 0 ≤ x.1 ∧ x.1 < 10 ^ (min x.2 15)
theorem okx_R {x : Int × Nat} {d : Int} (h : okx x) (d0 : 0 ≤ d) (d9 : d ≤ 9) : okx (stR x d) := by
  obtain ⟨n, c⟩ := x
  unfold okx stR at *
  simp only [] at *
  by_cases hc : c + 1 ≤ 15
  · rw [if_pos hc]
    rw [Nat.min_eq_left (by omega)] at h ⊢
    rw [Int.pow_succ]
    omega
  · rw [if_neg hc]
    rw [Nat.min_eq_right (by omega)] at h ⊢
    exact h
theorem okx_W {x : Int × Nat} {d : Int} (h : okx x) (d0 : 0 ≤ d) (d9 : d ≤ 9) : okx (stW x d) := by
  unfold stW
  split
  · exact okx_R h d0 d9
  · rename_i c
    obtain ⟨n, c'⟩ := x
    unfold okx at *
    simp only [] at *
    have h1 : c' = 0 := by omega
    subst h1
    simp only [Nat.zero_min, Int.pow_zero] at *
    omega
theorem okx_le {x : Int × Nat} (h : okx x) : 0 ≤ x.1 ∧ x.1 < 1000000000000000 := by
  obtain ⟨h0, h1⟩ := h
  have : (10 : Int) ^ (min x.2 15) ≤ 10 ^ 15 := by
    have h := Nat.pow_le_pow_right (n := 10) (i := min x.2 15) (j := 15) (by decide) (by omega)
    have e1 : ((10 ^ (min x.2 15) : Nat) : Int) = (10 : Int) ^ (min x.2 15) := by simp
    have e2 : ((10 ^ 15 : Nat) : Int) = (10 : Int) ^ 15 := by simp
    rw [← e1, ← e2]
    exact Int.ofNat_le.2 h
  omega

theorem foldW_pos : ∀ (l : List Int) (x : Int × Nat), 0 < x.2 → l.foldl stW x = l.foldl stR x
  | [], _, _ => rfl
  | d :: l, x, h => by
    have e : stW x d = stR x d := by unfold stW; rw [if_pos (.inl h)]
    rw [List.foldl_cons, List.foldl_cons, e]
    exact foldW_pos l _ (by unfold stR; simp)
theorem foldW_zero : ∀ l : List Int, l.foldl stW (0, 0) = (l.dropWhile (fun d => d == 0)).foldl stR (0, 0)
  | [] => rfl
  | d :: l => by
    by_cases h : d = 0
    · subst h
      have e : stW (0, 0) 0 = (0, 0) := by unfold stW; rw [if_neg (by simp)]; rfl
      rw [List.foldl_cons, e, List.dropWhile_cons_of_pos (by simp)]
      exact foldW_zero l
    · have e : stW (0, 0) d = stR (0, 0) d := by unfold stW; rw [if_pos (.inr h)]
      rw [List.foldl_cons, e, List.dropWhile_cons_of_neg (by simpa using h), List.foldl_cons]
      exact foldW_pos l _ (by unfold stR; simp)
theorem foldR_count : ∀ (l : List Int) (x : Int × Nat), (l.foldl stR x).2 = x.2 + l.length
  | [], x => rfl
  | d :: l, x => by
    rw [List.foldl_cons, foldR_count l]
    unfold stR
    simp only [List.length_cons]
    omega
theorem foldR_val : ∀ (l : List Int) (x : Int × Nat), x.2 + l.length ≤ 15 → (l.foldl stR x).1 = l.foldl (fun a d => 10 * a + d) x.1
  | [], x, _ => rfl
  | d :: l, x, h => by
    simp only [List.length_cons] at h
    rw [List.foldl_cons, foldR_val l _ (by unfold stR; simp only; omega), List.foldl_cons]
    congr 1
    unfold stR
    rw [if_pos (by omega)]

theorem p3q {R : Type} (k0 : ByteArray × Int × Int × Int × Int × Int × Int × Int × Int × Int × Int × Unit → Option R) (s : ByteArray) (f p n sc : Int) (c i : Nat) (bh : Bool) (hi : i < s.size) (hc : c ≤ 900) :
    f208p3 1000 k0 (s, f, p, n, (c : Int), sc, (i : Int), bh, 0, 0, 0, 0, ()) = k0 (s, f, p, n, ((if bh = true ∨ 0 < c ∨ nb s i ≠ 48 then c + 1 else c : Nat) : Int), sc, (i : Int), 0, 0, 0, 0, ()) := by
  have w3 : IntKind.i64.wrap ((c : Int) + 1) = ((c + 1 : Nat) : Int) := by rw [wi (by omega) (by omega)]; omega
  unfold f208p3
  simp only [nb_bt, w3]
  cases bh with
  | true => rw [cond_true, if_pos (.inl rfl)]
  | false =>
    rw [cond_false]
    by_cases hc0 : 0 < c
    · rw [bif_true (by simp; omega), if_pos (.inr (.inl hc0))]
    · rw [bif_false (by simp; omega), bif_true (by simp; omega)]
      by_cases hb : nb s i = 48
      · rw [bif_false (by simpa using hb), if_neg (by simp [hb, hc0])]
      · rw [bif_true (by simpa using hb), if_pos (.inr (.inr hb))]
theorem p2q {R : Type} (k0 : ByteArray × Int × Int × Int × Int × Int × Int × Bool × Int × Int × Int × Int × Unit → Option R) (s : ByteArray) (f p n c i : Int) (sc : Nat) (bh : Bool) (hsc : sc ≤ 900) :
    f208p2 1000 k0 (s, f, p, n, c, (sc : Int), i, bh, 0, 0, 0, 0, ()) = k0 (s, f, p, n, c, ((if bh = true then sc + 1 else sc : Nat) : Int), i, bh, 0, 0, 0, 0, ()) := by
  have w3 : IntKind.i64.wrap ((sc : Int) + 1) = ((sc + 1 : Nat) : Int) := by rw [wi (by omega) (by omega)]; omega
  unfold f208p2
  cases bh with
  | true => simp only [cond_true, w3, if_true]
  | false => simp only [cond_false, Bool.false_eq_true, if_false]

theorem p4q {R : Type} (k0 : ByteArray × Int × Int × Int × Int × Int × Int × Int × Int × Int × Int × Unit → Option R) (s : ByteArray) (f p n : Int) (c sc i : Nat)
    (hd : dgt s i = true) (n0 : 0 ≤ n) (n1 : n < 1000000000000000) (hc : c ≤ 900) (hsc : sc ≤ 900) (hp : p ≠ (i : Int)) :
    ∃ bh : Bool, bh = decide (p ≠ -1 ∧ p < (i : Int)) ∧
    f208p4 1000 k0 (s, f, p, n, (c : Int), (sc : Int), (i : Int), 0, 0, 0, 0, ()) = k0 (s, f, p, if (if bh = true ∨ 0 < c ∨ nb s i ≠ 48 then c + 1 else c) ≤ 15 then 10 * n + (nb s i - 48) else n, ((if bh = true ∨ 0 < c ∨ nb s i ≠ 48 then c + 1 else c : Nat) : Int), ((if bh = true then sc + 1 else sc : Nat) : Int), (i : Int), 0, 0, 0, 0, ()) := by
  obtain ⟨hi, h48, h57⟩ := dgt_iff.1 hd
  refine ⟨decide (p ≠ -1 ∧ p < (i : Int)), rfl, ?_⟩
  have w4 : IntKind.u8.wrap (nb s i - 48) = nb s i - 48 := wu8 (by omega) (by omega)
  have w5 : IntKind.i64.wrap (nb s i - 48) = nb s i - 48 := wi (by omega) (by omega)
  have w6 : IntKind.i64.wrap (10 * n) = 10 * n := wi (by omega) (by omega)
  have w7 : IntKind.i64.wrap (10 * n + (nb s i - 48)) = 10 * n + (nb s i - 48) := wi (by omega) (by omega)
  have g1 : ((decide ((0 : Int) ≤ (i : Int))) && (decide ((i : Int) < (s.size : Int)))) = true := by simp; omega
  have hpb : ((i : Int) == p) = false := by simp; omega
  have body : ∀ c' : Nat, ∀ k : Bool → Option R, (∀ b, k b = (bif b then k0 (s, f, p, 10 * n + (nb s i - 48), (c' : Int), ((if decide (p ≠ -1 ∧ p < (i : Int)) = true then sc + 1 else sc : Nat) : Int), (i : Int), 0, 0, 0, 0, ()) else k0 (s, f, p, n, (c' : Int), ((if decide (p ≠ -1 ∧ p < (i : Int)) = true then sc + 1 else sc : Nat) : Int), (i : Int), 0, 0, 0, 0, ()))) →
      k (decide ((c' : Int) ≤ 15)) = k0 (s, f, p, if c' ≤ 15 then 10 * n + (nb s i - 48) else n, (c' : Int), ((if decide (p ≠ -1 ∧ p < (i : Int)) = true then sc + 1 else sc : Nat) : Int), (i : Int), 0, 0, 0, 0, ()) := by
    intro c' k hk
    rw [hk]
    by_cases h : c' ≤ 15
    · rw [decide_eq_true (by omega), if_pos h]; rfl
    · rw [decide_eq_false (by omega), if_neg h]; rfl
  unfold f208p4
  simp only [hpb, cond_false]
  by_cases hm : p = -1
  · have hbf : decide (p ≠ -1 ∧ p < (i : Int)) = false := decide_eq_false (fun c => c.1 hm)
    rw [bif_false (by simpa using hm), p2q _ _ _ _ _ _ _ _ _ hsc, p3q _ _ _ _ _ _ _ _ _ hi hc]
    simp only [nb_bt, w4, w5, w6, w7, g1, cond_true]
    rw [hbf]
    have := body (if false = true ∨ 0 < c ∨ nb s i ≠ 48 then c + 1 else c) (fun b => bif b then k0 (s, f, p, 10 * n + (nb s i - 48), ((if false = true ∨ 0 < c ∨ nb s i ≠ 48 then c + 1 else c : Nat) : Int), ((if false = true then sc + 1 else sc : Nat) : Int), (i : Int), 0, 0, 0, 0, ()) else k0 (s, f, p, n, ((if false = true ∨ 0 < c ∨ nb s i ≠ 48 then c + 1 else c : Nat) : Int), ((if false = true then sc + 1 else sc : Nat) : Int), (i : Int), 0, 0, 0, 0, ())) (fun b => by rw [hbf])
    rw [hbf] at this
    exact this
  · rw [bif_true (by simpa using hm), p2q _ _ _ _ _ _ _ _ _ hsc, p3q _ _ _ _ _ _ _ _ _ hi hc]
    simp only [nb_bt, w4, w5, w6, w7, g1, cond_true]
    have hbt : decide ((i : Int) > p) = decide (p ≠ -1 ∧ p < (i : Int)) := by
      by_cases h : p < (i : Int)
      · rw [decide_eq_true h, decide_eq_true ⟨hm, h⟩]
      · rw [decide_eq_false h, decide_eq_false (fun c => h c.2)]
    rw [hbt]
    exact body _ (fun b => bif b then k0 (s, f, p, 10 * n + (nb s i - 48), ((if decide (p ≠ -1 ∧ p < (i : Int)) = true ∨ 0 < c ∨ nb s i ≠ 48 then c + 1 else c : Nat) : Int), ((if decide (p ≠ -1 ∧ p < (i : Int)) = true then sc + 1 else sc : Nat) : Int), (i : Int), 0, 0, 0, 0, ()) else k0 (s, f, p, n, ((if decide (p ≠ -1 ∧ p < (i : Int)) = true ∨ 0 < c ∨ nb s i ≠ 48 then c + 1 else c : Nat) : Int), ((if decide (p ≠ -1 ∧ p < (i : Int)) = true then sc + 1 else sc : Nat) : Int), (i : Int), 0, 0, 0, 0, ())) (fun b => rfl)

theorem l5_step {R : Type} (rec : ByteArray × Int × Int × Int × Int × Int × Int × Int × Int × Int × Int × Unit → Option R) (k0 : ByteArray × Int × Int × Int × Int × Int × Int × Int × Int × Unit → Option R) (s : ByteArray) (f p : Int) (x : Int × Nat) (sc i : Nat)
    (hs : s.size ≤ 900) (hd : dgt s i = true) (hx : okx x) (hc : x.2 ≤ 900) (hsc : sc ≤ 900) (hp : p ≠ (i : Int)) :
    f208l5s 1000 rec k0 (s, f, p, x.1, (x.2 : Int), (sc : Int), (i : Int), 0, 0, 0, 0, ()) =
      if p ≠ -1 ∧ p < i then rec (s, f, p, (stR x (nb s i - 48)).1, ((stR x (nb s i - 48)).2 : Int), ((sc + 1 : Nat) : Int), ((i + 1 : Nat) : Int), 0, 0, 0, 0, ())
      else rec (s, f, p, (stW x (nb s i - 48)).1, ((stW x (nb s i - 48)).2 : Int), (sc : Int), ((i + 1 : Nat) : Int), 0, 0, 0, 0, ()) := by
  obtain ⟨hi, h48, h57⟩ := dgt_iff.1 hd
  obtain ⟨x0, x1⟩ := okx_le hx
  obtain ⟨n, c⟩ := x
  simp only [] at x0 x1 hc
  have w1 : IntKind.i64.wrap ((i : Int) + 1) = ((i + 1 : Nat) : Int) := by rw [wi (by omega) (by omega)]; omega
  unfold f208l5s
  simp only []
  rw [bif_true (by simp; omega)]
  obtain ⟨bh, hbh, e⟩ := p4q (fun (w17 : ByteArray × Int × Int × Int × Int × Int × Int × Int × Int × Int × Int × Unit) =>
        rec (w17.1, w17.2.1, w17.2.2.1, w17.2.2.2.1, w17.2.2.2.2.1, w17.2.2.2.2.2.1, (IntKind.i64.wrap (w17.2.2.2.2.2.2.1 + (1 : Int))), w17.2.2.2.2.2.2.2.1, w17.2.2.2.2.2.2.2.2.1, w17.2.2.2.2.2.2.2.2.2.1, w17.2.2.2.2.2.2.2.2.2.2.1, ())) s f p n c sc i hd x0 x1 hc hsc hp
  rw [e]
  simp only [w1]
  by_cases hb : p ≠ -1 ∧ p < (i : Int)
  · rw [decide_eq_true hb] at hbh
    subst hbh
    rw [if_pos hb]
    unfold stR
    simp only [true_or, if_true]
  · rw [decide_eq_false hb] at hbh
    subst hbh
    rw [if_neg hb]
    unfold stW stR
    by_cases hz : 0 < c ∨ nb s i ≠ 48
    · have hz2 : 0 < c ∨ nb s i - 48 ≠ 0 := by omega
      simp only [Bool.false_eq_true, false_or, hz, hz2, if_true, if_false]
    · have hz2 : ¬ (0 < c ∨ nb s i - 48 ≠ 0) := by omega
      have c0 : c ≤ 15 := by omega
      simp only [Bool.false_eq_true, false_or, hz, hz2, if_true, if_false, c0]

theorem l5_point {R : Type} (rec : ByteArray × Int × Int × Int × Int × Int × Int × Int × Int × Int × Int × Unit → Option R) (k0 : ByteArray × Int × Int × Int × Int × Int × Int × Int × Int × Unit → Option R) (s : ByteArray) (f n c sc : Int) (i : Nat) (hs : s.size ≤ 900) (hi : i < s.size) :
    f208l5s 1000 rec k0 (s, f, (i : Int), n, c, sc, (i : Int), 0, 0, 0, 0, ()) = rec (s, f, (i : Int), n, c, sc, ((i + 1 : Nat) : Int), 0, 0, 0, 0, ()) := by
  have w1 : IntKind.i64.wrap ((i : Int) + 1) = ((i + 1 : Nat) : Int) := by rw [wi (by omega) (by omega)]; omega
  unfold f208l5s f208p4
  simp only []
  rw [bif_true (by simp; omega), bif_true (by simp), w1]

theorem l5_W {R : Type} (k0 : ByteArray × Int × Int × Int × Int × Int × Int × Int × Int × Unit → Option R) (s : ByteArray) (f p : Int) (hs : s.size ≤ 900) :
    ∀ (d i m K : Nat) (x : Int × Nat), K = m + d → (∀ j, i ≤ j → j < i + d → dgt s j = true ∧ ¬ (p ≠ -1 ∧ p < (j : Int)) ∧ p ≠ (j : Int)) → okx x → x.2 + d ≤ 900 →
      iterS (fun rec v => f208l5s 1000 rec k0 v) K (s, f, p, x.1, (x.2 : Int), ((0 : Nat) : Int), (i : Int), 0, 0, 0, 0, ()) = iterS (fun rec v => f208l5s 1000 rec k0 v) m (s, f, p, ((dgl s i d).foldl stW x).1, (((dgl s i d).foldl stW x).2 : Int), ((0 : Nat) : Int), ((i + d : Nat) : Int), 0, 0, 0, 0, ())
        ∧ okx ((dgl s i d).foldl stW x) ∧ ((dgl s i d).foldl stW x).2 ≤ x.2 + d := by
  intro d
  induction d with
  | zero => intro i m K x hK _ hx _; rw [hK]; exact ⟨rfl, hx, Nat.le_refl _⟩
  | succ d ih =>
    intro i m K x hK hj hx hc
    obtain ⟨h1, h2, h3⟩ := hj i (by omega) (by omega)
    obtain ⟨g0, g1, g2⟩ := dgt_iff.1 h1
    have hcnt : (stW x (nb s i - 48)).2 ≤ x.2 + 1 := by unfold stW stR; split <;> simp
    obtain ⟨e1, e2, e3⟩ := ih (i + 1) m (m + d) (stW x (nb s i - 48)) rfl (fun j a b => hj j (by omega) (by omega)) (okx_W hx (by omega) (by omega)) (by omega)
    rw [dgl_succ, List.foldl_cons]
    refine ⟨?_, e2, by omega⟩
    rw [show K = (m + d) + 1 by omega, t_iter, l5_step _ _ _ _ _ x 0 i hs h1 hx (by omega) (by omega) h3, if_neg h2, e1, show i + 1 + d = i + (d + 1) by omega]
theorem l5_R {R : Type} (k0 : ByteArray × Int × Int × Int × Int × Int × Int × Int × Int × Unit → Option R) (s : ByteArray) (f p : Int) (hs : s.size ≤ 900) :
    ∀ (d i m K sc : Nat) (x : Int × Nat), K = m + d → (∀ j, i ≤ j → j < i + d → dgt s j = true ∧ (p ≠ -1 ∧ p < (j : Int))) → okx x → x.2 + d ≤ 900 → sc + d ≤ 900 →
      iterS (fun rec v => f208l5s 1000 rec k0 v) K (s, f, p, x.1, (x.2 : Int), (sc : Int), (i : Int), 0, 0, 0, 0, ()) = iterS (fun rec v => f208l5s 1000 rec k0 v) m (s, f, p, ((dgl s i d).foldl stR x).1, (((dgl s i d).foldl stR x).2 : Int), ((sc + d : Nat) : Int), ((i + d : Nat) : Int), 0, 0, 0, 0, ())
        ∧ okx ((dgl s i d).foldl stR x) := by
  intro d
  induction d with
  | zero => intro i m K sc x hK _ hx _ _; rw [hK]; exact ⟨rfl, hx⟩
  | succ d ih =>
    intro i m K sc x hK hj hx hc hsc
    obtain ⟨h1, h2⟩ := hj i (by omega) (by omega)
    obtain ⟨g0, g1, g2⟩ := dgt_iff.1 h1
    have hcnt : (stR x (nb s i - 48)).2 = x.2 + 1 := rfl
    obtain ⟨e1, e2⟩ := ih (i + 1) m (m + d) (sc + 1) (stR x (nb s i - 48)) rfl (fun j a b => hj j (by omega) (by omega)) (okx_R hx (by omega) (by omega)) (by omega) (by omega)
    rw [dgl_succ, List.foldl_cons]
    refine ⟨?_, e2⟩
    rw [show K = (m + d) + 1 by omega, t_iter, l5_step _ _ _ _ _ x sc i hs h1 hx (by omega) (by omega) (by omega), if_pos h2, e1, show i + 1 + d = i + (d + 1) by omega, show sc + 1 + d = sc + (d + 1) by omega]
theorem l5_end {R : Type} (rec : ByteArray × Int × Int × Int × Int × Int × Int × Int × Int × Int × Int × Unit → Option R) (k0 : ByteArray × Int × Int × Int × Int × Int × Int × Int × Int × Unit → Option R) (s : ByteArray) (f p n c sc : Int) :
    f208l5s 1000 rec k0 (s, f, p, n, c, sc, (s.size : Int), 0, 0, 0, 0, ()) = k0 (s, f, n, c, sc, 0, 0, 0, 0, ()) := by
  unfold f208l5s
  rw [bif_false (by simp)]
end Go.Proofs.YtioagofpofamiaaDoor
/-! Plain laws: a number's text is read alike. -/
set_option linter.unusedVariables false
set_option linter.unusedSimpArgs false
namespace Go.Proofs.YtioagofpofamiaaDoor
open Go.Ab

theorem layS_inl {s : ByteArray} {a : Nat} {e : Int} (h : layS s = .inl (a, e)) : e = 8 ∨ e = 9 := by
  unfold layS at h
  split at h
  · cases h; split <;> simp
  split at h
  · cases h; exact .inl rfl
  split at h
  · cases h
  split at h
  · cases h; exact .inl rfl
  split at h
  · cases h; split <;> simp
  split at h
  · cases h; exact .inl rfl
  · cases h

theorem layS_inr {s : ByteArray} {f t : Nat} (h : layS s = .inr (f, t)) (h0 : 0 < s.size) : f = frm s ∧ f < t ∧ t ≤ s.size ∧ (∀ j, f ≤ j → j < t → dgt s j = true) ∧ (t = s.size ∨ (t + 1 < s.size ∧ nb s t = 46 ∧ ∀ j, t + 1 ≤ j → j < s.size → dgt s j = true)) := by
  have hf := frm_le h0
  unfold layS at h
  by_cases hd : dgt s (frm s) = true
  · rw [if_neg (by simp [hd])] at h
    obtain ⟨r1, r2, r3, r4⟩ := runE_spec s (s.size - frm s) (frm s) (by omega)
    have r5 : frm s < runE s (s.size - frm s) (frm s) := by
      have : runE s (s.size - frm s) (frm s) ≠ frm s := fun c => by rw [c, hd] at r4; exact absurd r4 (by decide)
      omega
    generalize runE s (s.size - frm s) (frm s) = E at *
    split at h
    · cases h
    split at h
    · rename_i hE
      cases h
      exact ⟨rfl, r5, r2, r3, .inl hE⟩
    split at h
    · cases h
    rename_i hE h46
    by_cases hd2 : dgt s (E + 1) = true
    · rw [if_neg (by simp [hd2])] at h
      obtain ⟨q1, q2, q3, q4⟩ := runE_spec s (s.size - (E + 1)) (E + 1) (by omega)
      have q5 := (dgt_iff.1 hd2).1
      split at h
      · cases h
      · rename_i hE2
        cases h
        exact ⟨rfl, r5, r2, r3, .inr ⟨q5, by simpa using h46, fun j a b => q3 j a (by omega)⟩⟩
    · have hd2' : dgt s (E + 1) = false := by simpa using hd2
      rw [if_pos hd2'] at h
      cases h
  · have hd' : dgt s (frm s) = false := by simpa using hd
    rw [if_pos hd'] at h
    cases h

theorem ib_none : ∀ {l : List UInt8} {c : UInt8}, (∀ x ∈ l, x ≠ c) → Lib.indexByte l c = -1
  | [], _, _ => rfl
  | b :: l, c, h => by
    have h1 : (b == c) = false := by simpa using h b (by simp)
    have h2 := ib_none (l := l) (c := c) (fun x hx => h x (by simp [hx]))
    unfold Lib.indexByte
    rw [h1, h2]
    rfl
theorem ib_some : ∀ {a b : List UInt8} {c : UInt8}, (∀ x ∈ a, x ≠ c) → Lib.indexByte (a ++ c :: b) c = a.length
  | [], b, c, _ => by unfold Lib.indexByte; simp
  | x :: a, b, c, h => by
    have h1 : (x == c) = false := by simpa using h x (by simp)
    have h2 := ib_some (a := a) (b := b) (c := c) (fun y hy => h y (by simp [hy]))
    rw [List.cons_append]
    unfold Lib.indexByte
    rw [h1, h2]
    simp

def toD (x : UInt8) : Int := (x.toNat : Int) - 48
theorem nb_at {s : ByteArray} {i : Nat} (h : i < s.data.toList.length) : nb s i = ((s.data.toList[i]).toNat : Int) := by
  unfold nb bytesOf
  rw [List.getD_eq_getElem?_getD, List.getElem?_map, List.getElem?_eq_getElem h]
  rfl
theorem dgl_list {s : ByteArray} {i d : Nat} (h : i + d ≤ s.size) : dgl s i d = ((s.data.toList.drop i).take d).map toD := by
  have hl : s.data.toList.length = s.size := rfl
  apply List.ext_getElem
  · rw [dgl_len]; simp; omega
  · intro j h1 h2
    have e : (dgl s i d)[j] = nb s (i + j) - 48 := by simp [dgl]
    have h3 := h1
    rw [dgl_len] at h3
    rw [e, List.getElem_map, List.getElem_take, List.getElem_drop, nb_at (by omega)]
    rfl
theorem drop_toD : ∀ l : List UInt8, (l.dropWhile (fun x => x == 48)).map toD = (l.map toD).dropWhile (fun d => d == 0)
  | [] => rfl
  | x :: l => by
    have e : (toD x == 0) = (x == 48) := by
      unfold toD
      by_cases h : x = 48
      · subst h; rfl
      · have h2 : (x == 48) = false := by simpa using h
        rw [h2]
        simp only [beq_eq_false_iff_ne, ne_eq]
        intro c
        apply h
        apply UInt8.toNat_inj.1
        show x.toNat = 48
        omega
    rw [List.map_cons, List.dropWhile_cons, List.dropWhile_cons, e]
    split
    · exact drop_toD l
    · rfl

/-- The digits behind leading zeros, and those behind the point. -/
def allD (s : ByteArray) (f t : Nat) : List Int := (dgl s f (t - f)).dropWhile (fun d => d == 0) ++ dgl s (t + 1) (s.size - (t + 1))

theorem ref_tail {s : ByteArray} {f t : Nat} (hs : s.size ≤ 40) (h1 : f < t) (h2 : t ≤ s.size) (h3 : ∀ j, f ≤ j → j < t → dgt s j = true) (h4 : t = s.size ∨ (t + 1 < s.size ∧ nb s t = 46 ∧ ∀ j, t + 1 ≤ j → j < s.size → dgt s j = true)) :
    f208l5 1000 k208 (s, (f : Int), (if t = s.size then -1 else (t : Int)), 0, 0, 0, (f : Int), 0, 0, 0, 0, ()) =
      if 15 < (allD s f t).length then some ((0, 0), (0, 19)) else some (((if f = 1 then -((allD s f t).foldl (fun a d => 10 * a + d) 0) else (allD s f t).foldl (fun a d => 10 * a + d) 0), ((s.size - (t + 1) : Nat) : Int)), ((s.size : Int), 0)) := by
  have fin : ∀ (x : Int × Nat), okx x → x = (allD s f t).foldl stR (0, 0) → k208 (s, (f : Int), x.1, (x.2 : Int), ((s.size - (t + 1) : Nat) : Int), 0, 0, 0, 0, ()) = if 15 < (allD s f t).length then some ((0, 0), (0, 19)) else some (((if f = 1 then -((allD s f t).foldl (fun a d => 10 * a + d) 0) else (allD s f t).foldl (fun a d => 10 * a + d) 0), ((s.size - (t + 1) : Nat) : Int)), ((s.size : Int), 0)) := by
    intro x hx e
    have c := foldR_count (allD s f t) (0, 0)
    have v := foldR_val (allD s f t) (0, 0)
    rw [← e] at c v
    simp only [Nat.zero_add] at c v
    obtain ⟨x0, x1⟩ := okx_le hx
    unfold k208
    simp only []
    by_cases h : 15 < (allD s f t).length
    · rw [if_pos h, bif_true (by simp; omega)]
    · rw [if_neg h, bif_false (by simp; omega)]
      have v' := v (by omega)
      rw [← v']
      unfold f208p6
      by_cases hf : f = 1
      · rw [bif_true (by simp [hf]), if_pos hf]
        simp only []
        rw [wi (by omega) (by omega), Int.zero_sub]
      · rw [bif_false (by simp; omega), if_neg hf]
  unfold f208l5
  have ok0 : okx (0, 0) := by unfold okx; simp
  rcases h4 with h4 | ⟨h4, h5, h6⟩
  · rw [if_pos h4]
    obtain ⟨e1, e2, e3⟩ := l5_W k208 s (f : Int) (-1) (by omega) (t - f) f ((999 - (t - f)) + 1) 1000 (0, 0) (by omega) (fun j a b => ⟨h3 j a (by omega), fun c => c.1 rfl, by omega⟩) ok0 (by simp only; omega)
    refine e1.trans ?_
    rw [show f + (t - f) = s.size by omega, t_iter, l5_end]
    have hA : allD s f t = (dgl s f (t - f)).dropWhile (fun d => d == 0) := by
      unfold allD
      rw [show s.size - (t + 1) = 0 by omega]
      simp [dgl]
    have := fin ((dgl s f (t - f)).foldl stW (0, 0)) e2 (by rw [hA, foldW_zero])
    rw [show s.size - (t + 1) = 0 by omega] at this ⊢
    exact this
  · rw [if_neg (by omega)]
    obtain ⟨e1, e2, e3⟩ := l5_W k208 s (f : Int) (t : Int) (by omega) (t - f) f ((999 - (t - f)) + 1) 1000 (0, 0) (by omega) (fun j a b => ⟨h3 j a (by omega), by omega, by omega⟩) ok0 (by simp only; omega)
    refine e1.trans ?_
    rw [show f + (t - f) = t by omega, t_iter, l5_point _ _ _ _ _ _ _ _ (by omega) (by omega)]
    simp only [Nat.zero_add] at e3
    obtain ⟨g1, g2⟩ := l5_R k208 s (f : Int) (t : Int) (by omega) (s.size - (t + 1)) (t + 1) ((998 - (t - f) - (s.size - (t + 1))) + 1) (999 - (t - f)) 0 ((dgl s f (t - f)).foldl stW (0, 0)) (by omega) (fun j a b => ⟨h6 j a (by omega), by omega, by omega⟩) e2 (by omega) (by omega)
    refine g1.trans ?_
    rw [show t + 1 + (s.size - (t + 1)) = s.size by omega, t_iter, l5_end, Nat.zero_add]
    exact fin _ g2 (by unfold allD; rw [foldW_zero, List.foldl_append])

theorem l7_go {R : Type} (k0 : ByteArray × Int × ByteArray × Int × Int × Int × Unit → Option R) (s r : ByteArray) (f : Int) (L : List Int) (hL : L.length ≤ 15) (hd : ∀ x ∈ L, 48 ≤ x ∧ x ≤ 57) :
    ∀ (d i K : Nat) (n : Int), L.length - i = d → i ≤ L.length → d < K → 0 ≤ n → n < 10 ^ i →
      iterS (fun rec v => f207l0s 1000 rec k0 v) K (s, f, r, n, (L.length : Int), (i : Int), 0, 0, L, ()) = k0 (s, f, r, ((L.drop i).map (fun x => x - 48)).foldl (fun a d => 10 * a + d) n, 0, 0, ()) := by
  intro d
  induction d with
  | zero =>
    intro i K n hi hle hK n0 n1
    obtain ⟨K, rfl⟩ : ∃ q, K = q + 1 := ⟨K - 1, by omega⟩
    have e : i = L.length := by omega
    subst e
    rw [t_iter]
    unfold f207l0s
    rw [bif_false (by simp), List.drop_length]
    rfl
  | succ d ih =>
    intro i K n hi hle hK n0 n1
    obtain ⟨K, rfl⟩ : ∃ q, K = q + 1 := ⟨K - 1, by omega⟩
    have hil : i < L.length := by omega
    obtain ⟨b0, b1⟩ := hd L[i] (List.getElem_mem hil)
    have p15 : (10 : Int) ^ i ≤ 1000000000000000 := by
      have h := Nat.pow_le_pow_right (n := 10) (i := i) (j := 15) (by decide) (by omega)
      have e1 : ((10 ^ i : Nat) : Int) = (10 : Int) ^ i := by simp
      rw [← e1]
      exact Int.ofNat_le.2 h
    have hg : L.getD i 0 = L[i] := by rw [List.getD_eq_getElem?_getD, List.getElem?_eq_getElem hil]; rfl
    have hst : ∀ (rec : ByteArray × Int × ByteArray × Int × Int × Int × Int × Int × List Int × Unit → Option R), f207l0s 1000 rec k0 (s, f, r, n, (L.length : Int), (i : Int), 0, 0, L, ()) = rec (s, f, r, 10 * n + (L[i] - 48), (L.length : Int), ((i + 1 : Nat) : Int), 0, 0, L, ()) := fun rec => by
      unfold f207l0s
      simp only [Int.toNat_natCast, hg]
      rw [bif_true (by simp; omega), bif_true (by simp; omega), wu8 (by omega) (by omega), wi (x := n * 10) (by omega) (by omega), wi (x := L[i] - 48) (by omega) (by omega), wi (by omega) (by omega), wi (by omega) (by omega), Int.mul_comm n 10]
      rfl
    rw [t_iter, hst, ih (i + 1) K _ (by omega) (by omega) (by omega) (by omega) (by rw [Int.pow_succ]; omega), List.drop_eq_getElem_cons hil, List.map_cons, List.foldl_cons]

theorem code_tail {s w r : ByteArray} {f t : Nat} (hs : s.size ≤ 40) (h1 : f < t) (h2 : t ≤ s.size) (h3 : ∀ j, f ≤ j → j < t → dgt s j = true) (h4 : t = s.size ∨ (t + 1 < s.size ∧ nb s t = 46 ∧ ∀ j, t + 1 ≤ j → j < s.size → dgt s j = true))
    (hw : w.data.toList = (s.data.toList.drop f).take (t - f)) (hr : r.data.toList = (s.data.toList.drop (t + 1)).take (s.size - (t + 1))) :
    (Option.bind (f223F 1000 (w, (⟨#[48]⟩ : ByteArray))) fun y6 =>
  bif (decide (y6.size + r.size ≤ 9223372036854775807)) then
  bif (decide (((y6 ++ r).size : Int) > (15 : Int))) then
    some (((0 : Int), (0 : Int)), (0 : Int), (19 : Int))
  else
  bif (decide ((y6 ++ r).size ≤ 9223372036854775807)) then
  f207l0 1000
    (fun (w9 : ByteArray × Int × ByteArray × Int × Int × Int × Unit) =>
      f207p1 1000
        (fun (w10 : ByteArray × Int × ByteArray × Int × Int × Int × Unit) =>
          some ((w10.2.2.2.1, (w10.2.2.1.size : Int)), (w10.1.size : Int), (0 : Int)))
        (w9.1, w9.2.1, w9.2.2.1, w9.2.2.2.1, w9.2.2.2.2.1, w9.2.2.2.2.2.1, ()))
    (s, (f : Int), r, (0 : Int), ((bytesOf (y6 ++ r)).length : Int), (0 : Int), (0 : Int), (0 : Int), (bytesOf (y6 ++ r)), ())
  else none
  else none) = if 15 < (allD s f t).length then some ((0, 0), 0, 19) else some (((if f = 1 then -((allD s f t).foldl (fun a d => 10 * a + d) 0) else (allD s f t).foldl (fun a d => 10 * a + d) 0), ((s.size - (t + 1) : Nat) : Int)), (s.size : Int), 0) := by
  have hBl : s.data.toList.length = s.size := rfl
  have h223 : f223F 1000 (w, (⟨#[48]⟩ : ByteArray)) = some ⟨(Lib.trimLeftB w.data.toList 48).toArray⟩ := rfl
  rw [h223, bind_some']
  have hsz : ∀ a : ByteArray, a.size = a.data.toList.length := fun _ => rfl
  have happ : ((⟨(Lib.trimLeftB w.data.toList 48).toArray⟩ : ByteArray) ++ r).data.toList = Lib.trimLeftB w.data.toList 48 ++ r.data.toList := by simp
  have hrs : r.size = s.size - (t + 1) := by rw [hsz, hr, List.length_take, List.length_drop, hBl]; omega
  -- the digits of all
  have hAll : (bytesOf ((⟨(Lib.trimLeftB w.data.toList 48).toArray⟩ : ByteArray) ++ r)).map (fun x => x - 48) = allD s f t := by
    unfold bytesOf
    rw [happ, List.map_map]
    have e : ((fun x : Int => x - 48) ∘ fun b : UInt8 => (b.toNat : Int)) = toD := by funext x; rfl
    rw [e, List.map_append]
    unfold allD Lib.trimLeftB
    have hR : dgl s (t + 1) (s.size - (t + 1)) = ((s.data.toList.drop (t + 1)).take (s.size - (t + 1))).map toD := by
      by_cases ht : t = s.size
      · rw [show s.size - (t + 1) = 0 by omega]; simp [dgl]
      · exact dgl_list (by omega)
    rw [drop_toD, hw, hr, dgl_list (by omega), hR]
  have hlen : (bytesOf ((⟨(Lib.trimLeftB w.data.toList 48).toArray⟩ : ByteArray) ++ r)).length = (allD s f t).length := by rw [← hAll, List.length_map]
  have hsize : ((⟨(Lib.trimLeftB w.data.toList 48).toArray⟩ : ByteArray) ++ r).size = (allD s f t).length := by rw [← hlen, t_len]
  have hal : (allD s f t).length ≤ 100 := by
    unfold allD
    rw [List.length_append, dgl_len]
    have := (List.dropWhile_sublist (fun d : Int => d == 0) (l := dgl s f (t - f))).length_le
    rw [dgl_len] at this
    omega
  have hts : (⟨(Lib.trimLeftB w.data.toList 48).toArray⟩ : ByteArray).size ≤ 1000 := by
    have : (⟨(Lib.trimLeftB w.data.toList 48).toArray⟩ : ByteArray).size = (Lib.trimLeftB w.data.toList 48).length := rfl
    rw [this]
    have h5 := (List.dropWhile_sublist (fun x : UInt8 => x == 48) (l := w.data.toList)).length_le
    unfold Lib.trimLeftB
    rw [hw] at h5 ⊢
    have : ((s.data.toList.drop f).take (t - f)).length ≤ s.size := by rw [List.length_take, List.length_drop, hBl]; omega
    omega
  rw [bif_true (by rw [hrs]; simp; omega)]
  by_cases h : 15 < (allD s f t).length
  · rw [if_pos h, bif_true (by rw [hsize]; simp; omega)]
  · rw [if_neg h, bif_false (by rw [hsize]; simp; omega), bif_true (by rw [hsize]; simp; omega)]
    have hmem : ∀ x ∈ bytesOf ((⟨(Lib.trimLeftB w.data.toList 48).toArray⟩ : ByteArray) ++ r), 48 ≤ x ∧ x ≤ 57 := by
      intro x hx
      have hx2 : x - 48 ∈ allD s f t := by rw [← hAll]; exact List.mem_map_of_mem hx
      unfold allD at hx2
      have hdg : ∀ i d, (∀ j, i ≤ j → j < i + d → dgt s j = true) → ∀ y ∈ dgl s i d, 0 ≤ y ∧ y ≤ 9 := by
        intro i d hj y hy
        unfold dgl at hy
        obtain ⟨j, hj1, rfl⟩ := List.mem_map.1 hy
        obtain ⟨q, hq, rfl⟩ := List.mem_range'.1 hj1
        have := dgt_iff.1 (hj (i + 1 * q) (by omega) (by omega))
        omega
      rcases List.mem_append.1 hx2 with h5 | h5
      · have := hdg f (t - f) (fun j a b => h3 j a (by omega)) _ ((List.dropWhile_sublist _).mem h5)
        omega
      · rcases h4 with h4 | ⟨h4, _, h6⟩
        · rw [show s.size - (t + 1) = 0 by omega] at h5
          simp [dgl] at h5
        · have := hdg (t + 1) (s.size - (t + 1)) (fun j a b => h6 j a (by omega)) _ h5
          omega
    unfold f207l0
    have go := l7_go (fun (w9 : ByteArray × Int × ByteArray × Int × Int × Int × Unit) =>
      f207p1 1000
        (fun (w10 : ByteArray × Int × ByteArray × Int × Int × Int × Unit) =>
          some ((w10.2.2.2.1, (w10.2.2.1.size : Int)), (w10.1.size : Int), (0 : Int)))
        (w9.1, w9.2.1, w9.2.2.1, w9.2.2.2.1, w9.2.2.2.2.1, w9.2.2.2.2.2.1, ())) s r (f : Int) _ (by rw [hlen]; omega) hmem (allD s f t).length 0 1000 0 (by rw [hlen]; omega) (by omega) (by omega) (by decide) (by decide)
    rw [List.drop_zero, hAll] at go
    refine go.trans ?_
    have hV := foldR_val (allD s f t) (0, 0) (by simp only; omega)
    simp only [] at hV
    have hVb : 0 ≤ (allD s f t).foldl (fun a d => 10 * a + d) 0 ∧ (allD s f t).foldl (fun a d => 10 * a + d) 0 < 1000000000000000 := by
      rw [← hV]
      have hok : ∀ (l : List Int) (x : Int × Nat), (∀ y ∈ l, 0 ≤ y ∧ y ≤ 9) → okx x → okx (l.foldl stR x) := by
        intro l
        induction l with
        | nil => intro x _ hx; exact hx
        | cons y l ih =>
          intro x hy hx
          rw [List.foldl_cons]
          exact ih _ (fun z hz => hy z (by simp [hz])) (okx_R hx (hy y (by simp)).1 (hy y (by simp)).2)
      refine okx_le (hok (allD s f t) (0, 0) (fun y hy => ?_) (by unfold okx; simp))
      rw [← hAll] at hy
      obtain ⟨z, hz, rfl⟩ := List.mem_map.1 hy
      have := hmem z hz
      omega
    generalize (allD s f t).foldl (fun a d => 10 * a + d) 0 = V at *
    unfold f207p1
    by_cases hf : f = 1
    · rw [bif_true (by simp [hf]), if_pos hf]
      simp only []
      rw [wi (by omega) (by omega), Int.zero_sub, hrs]
    · rw [bif_false (by simp; omega), if_neg hf]
      simp only []
      rw [hrs]

theorem f207q {s : ByteArray} (h0 : 0 < s.size) (hs : s.size ≤ 40) : ∃ r : (Int × Int) × Int × Int, f207F 1000 s = some r ∧ f208F 1000 s = some r := by
  have hBl : s.data.toList.length = s.size := rfl
  have hne : strEq s ByteArray.empty = false := by
    cases h : strEq s ByteArray.empty with
    | false => rfl
    | true =>
      have := strEq_iff.1 h
      subst this
      exact absurd h0 (by decide)
  rw [f208q h0 hs]
  unfold f207F
  simp only [t43, t42, bind_some', hne]
  rw [decide_eq_false (by omega : ¬ (s.size : Int) > 40), bif_false (by rfl), f221q h0 (by omega), bind_some']
  cases hl : layS s with
  | inl p =>
    obtain ⟨a, e⟩ := p
    simp only []
    have he : (e != 0) = true := by rcases layS_inl hl with h | h <;> rw [h] <;> rfl
    rw [he]
    exact ⟨_, rfl, rfl⟩
  | inr p =>
    obtain ⟨f, t⟩ := p
    obtain ⟨e1, h1, h2, h3, h4⟩ := layS_inr hl h0
    simp only [bne_self_eq_false, cond_false, Int.toNat_natCast]
    rw [bif_true (by unfold sliceBds; simp; omega)]
    -- the text cut at its point
    have hX : (s.extract f s.size).data.toList = s.data.toList.drop f := by
      rw [Lib.extract_data, List.take_of_length_le (by rw [List.length_drop, hBl]; omega)]
    have hXs : (s.extract f s.size).size = s.size - f := by
      show (s.extract f s.size).data.toList.length = _
      rw [hX, List.length_drop, hBl]
    have no46 : ∀ i d, i + d ≤ s.size → (∀ j, i ≤ j → j < i + d → dgt s j = true) → ∀ x ∈ (s.data.toList.drop i).take d, x ≠ 46 := by
      intro i d hid hj x hx
      obtain ⟨q, hq, rfl⟩ := List.getElem_of_mem hx
      have hq' : q < d := by have := hq; simp at this; omega
      rw [List.getElem_take, List.getElem_drop]
      have hd := (dgt_iff.1 (hj (i + q) (by omega) (by omega))).2
      rw [nb_at (by omega)] at hd
      intro c
      rw [c] at hd
      exact absurd hd.1 (by decide)
    have cut : ∃ w r b, f222F 1000 ((s.extract f s.size), (⟨#[46]⟩ : ByteArray)) = some (w, r, b) ∧ w.data.toList = (s.data.toList.drop f).take (t - f) ∧ r.data.toList = (s.data.toList.drop (t + 1)).take (s.size - (t + 1)) := by
      have h261 : f261F 1000 ((s.extract f s.size), (⟨#[46]⟩ : ByteArray)) = some (Lib.indexByte (s.data.toList.drop f) 46) := by
        unfold f261F
        simp only []
        rw [hX]
      unfold f222F f242F
      simp only [h261, bind_some']
      rcases h4 with h4 | ⟨h4, h5, h6⟩
      · have hi : Lib.indexByte (s.data.toList.drop f) 46 = -1 := ib_none (fun x hx => no46 f (t - f) (by omega) (fun j a b => h3 j a (by omega)) x (by rw [List.take_of_length_le (by rw [List.length_drop, hBl]; omega)]; exact hx))
        rw [hi, bif_false (by rfl)]
        refine ⟨_, _, _, rfl, ?_, ?_⟩
        · rw [hX, List.take_of_length_le (by rw [List.length_drop, hBl]; omega)]
        · rw [show s.size - (t + 1) = 0 by omega, List.take_zero]; rfl
      · have hsplit : s.data.toList.drop f = (s.data.toList.drop f).take (t - f) ++ (46 : UInt8) :: s.data.toList.drop (t + 1) := by
          have hB : s.data.toList[t]'(by omega) = (46 : UInt8) := by
            have := nb_at (s := s) (i := t) (by omega)
            rw [h5] at this
            apply UInt8.toNat_inj.1
            show _ = 46
            omega
          have e : s.data.toList.drop f = (s.data.toList.drop f).take (t - f) ++ (s.data.toList.drop f).drop (t - f) := (List.take_append_drop _ _).symm
          rw [List.drop_drop, show f + (t - f) = t by omega, List.drop_eq_getElem_cons (i := t) (by omega), hB] at e
          exact e
        have hi : Lib.indexByte (s.data.toList.drop f) 46 = ((t - f : Nat) : Int) := by
          rw [hsplit, ib_some (no46 f (t - f) (by omega) (fun j a b => h3 j a (by omega)))]
          simp
          omega
        have hone : ((⟨#[46]⟩ : ByteArray).size : Int) = 1 := rfl
        rw [hi, hone, bif_true (by simp)]
        have w1 : IntKind.i64.wrap (((t - f : Nat) : Int) + 1) = ((t - f + 1 : Nat) : Int) := by rw [wi (by omega) (by omega)]; omega
        rw [w1, bif_true (by unfold sliceBds; rw [hXs]; simp; omega), bif_true (by unfold sliceBds; rw [hXs]; simp; omega)]
        refine ⟨_, _, _, rfl, ?_, ?_⟩
        · rw [Lib.extract_data, hX, Int.toNat_natCast, List.drop_zero, Nat.sub_zero]
        · rw [Lib.extract_data, hX, Int.toNat_natCast, Int.toNat_natCast, List.drop_drop, hXs]
          congr 1
          · omega
          · congr 1; omega
    obtain ⟨w, r, b, hc, hw, hr⟩ := cut
    rw [hc, bind_some']
    have ct := code_tail hs h1 h2 h3 h4 hw hr
    rw [ref_tail hs h1 h2 h3 h4]
    simp only [] at ct ⊢
    rw [ct]
    split
    · exact ⟨_, rfl, rfl⟩
    · exact ⟨_, rfl, rfl⟩

theorem texts (s : ByteArray) : f203F 1000 s = some true := by
  unfold f203F
  rw [t_awake, bind_some']
  simp only [Bool.not_true, cond_false]
  by_cases h100 : (s.size : Int) > 100
  · rw [bif_true (by simpa using h100)]
  rw [bif_false (by simpa using h100)]
  have fin : ∀ r : (Int × Int) × Int × Int, f207F 1000 s = some r → f208F 1000 s = some r → (Option.bind (f207F 1000 s) fun y2 => Option.bind (f208F 1000 s) fun y3 =>
      bif (y2.2.2 == y3.2.2) then bif (y2.2.1 == y3.2.1) then some ((y2.1.1 == y3.1.1) && ((y2.1.2 == y3.1.2) && true)) else some false else some false) = some true := by
    intro r h1 h2
    rw [h1, h2]
    simp
  by_cases h40 : s.size ≤ 40
  · by_cases h0 : 0 < s.size
    · obtain ⟨r, h1, h2⟩ := f207q h0 h40
      exact fin r h1 h2
    · have he : s = ByteArray.empty := by
        cases s with
        | mk d =>
          congr
          apply Array.eq_empty_of_size_eq_zero
          have : (ByteArray.mk d).size = d.size := rfl
          omega
      subst he
      refine fin ((0, 0), 0, 1) ?_ ?_
      · unfold f207F
        simp only [t43, t42, bind_some', strEq_self]
        rw [decide_eq_false (by decide)]
        rfl
      · unfold f208F
        rw [bif_false (by decide), strEq_self]
        rfl
  · refine fin ((0, 0), 0, 2) ?_ ?_
    · unfold f207F
      simp only [t43, t42, bind_some']
      rw [decide_eq_true (by omega : (s.size : Int) > 40)]
      rfl
    · unfold f208F
      rw [bif_true (by simp; omega)]
end Go.Proofs.YtioagofpofamiaaDoor
