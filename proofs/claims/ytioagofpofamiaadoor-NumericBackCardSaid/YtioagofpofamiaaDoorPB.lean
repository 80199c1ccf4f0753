/- Plain laws: the layout of a number's text, by the code and by the reference. -/
import Derived.Test.YtioagofpofamiaaDoorPA
import Derived.Test.YtioagofpofamiaaDoorFaJ
import Derived.KernelRfl
import Derived.Lib.Strings
/-! Plain laws: the layout of a number's text. -/
set_option linter.unusedVariables false
set_option linter.unusedSimpArgs false
namespace Go.Proofs.YtioagofpofamiaaDoor
open Go.Ab

theorem t_awake : f13F 1000 () = some true := by kernel_rfl
theorem t43 (k : Nat) (b : Bool) (e : Int) : f43F k (b, e) = some (if b = true then e else 0) := by
  unfold f43F
  cases b <;> rfl
theorem t42_step {R : Type} (k : Nat) (rec : List Int × Int × Int × Unit → Option R) (k0 : Int × Unit → Option R) (k1 : Unit → Option R) (l : List Int) (i : Nat) (hl : l.length < 1000) (hi : i < l.length) :
    f42l0s k rec k0 k1 (l, (l.length : Int), (i : Int), ()) = if l.getD i 0 = 0 then rec (l, (l.length : Int), ((i + 1 : Nat) : Int), ()) else k0 (l.getD i 0, ()) := by
  unfold f42l0s
  have h1 : (i : Int) < (l.length : Int) := by omega
  simp only [h1, decide_true, cond_true, Int.natCast_nonneg, Bool.and_self, Int.toNat_natCast, wi (x := (i : Int) + 1) (by omega) (by omega)]
  by_cases h : l.getD i 0 = 0
  · have hb : (l.getD i 0 != 0) = false := by simpa using h
    rw [hb, if_pos h]; rfl
  · have hb : (l.getD i 0 != 0) = true := by simpa using h
    rw [hb, if_neg h]; rfl
theorem t42 (a b : Int) : f42F 1000 [a, b] = some (if a = 0 then b else a) := by
  have e0 : ∀ {R : Type} (Step : (List Int × Int × Int × Unit → Option R) → List Int × Int × Int × Unit → Option R) v, iterS Step 1000 v = Step (fun v => Step (fun v => Step (iterS Step 997) v) v) v := fun _ _ => rfl
  unfold f42F f42l0
  rw [e0]
  have s0 := fun rec k0 k1 => t42_step (R := Int) 1000 rec k0 k1 [a, b] 0 (by simp) (by simp)
  have s1 := fun rec k0 k1 => t42_step (R := Int) 1000 rec k0 k1 [a, b] 1 (by simp) (by simp)
  have s2 : ∀ rec k0 k1, f42l0s (R := Int) 1000 rec k0 k1 ([a, b], (([a, b].length : Nat) : Int), ((2 : Nat) : Int), ()) = k1 () := fun _ _ _ => rfl
  have z0 : ((0 : Nat) : Int) = 0 := rfl
  rw [z0] at s0
  rw [s0]
  simp only [Nat.zero_add, s1, Nat.reduceAdd, s2]
  by_cases ha : a = 0 <;> by_cases hb : b = 0 <;> simp [ha, hb]
theorem t_iter {V R : Type} (Step : (V → Option R) → V → Option R) (k : Nat) (v : V) : iterS Step (k + 1) v = Step (iterS Step k) v := rfl

/-- A byte of a string as a number. -/
def nb (s : ByteArray) (i : Nat) : Int := (bytesOf s).getD i 0
theorem t_len (s : ByteArray) : (bytesOf s).length = s.size := by
  unfold bytesOf
  rw [List.length_map]
  rfl
theorem nb_bt (s : ByteArray) (i : Nat) : bt s (i : Int) = nb s i := by
  unfold bt nb
  rw [Int.toNat_natCast]
  split
  · rename_i h
    have h' : i < s.data.toList.length := h
    simp only [bytesOf, List.getD_eq_getElem?_getD, List.getElem?_map, List.getElem?_eq_getElem h', Option.map_some, Option.getD_some]
    rfl
  · rename_i h
    rw [List.getD_eq_getElem?_getD, List.getElem?_eq_none (by rw [t_len]; omega)]
    rfl
/-- A digit stands there. -/
def dgt (s : ByteArray) (i : Nat) : Bool := decide (i < s.size) && (decide (48 ≤ nb s i) && decide (nb s i ≤ 57))
theorem dgt_iff {s : ByteArray} {i : Nat} : dgt s i = true ↔ i < s.size ∧ 48 ≤ nb s i ∧ nb s i ≤ 57 := by simp [dgt]
theorem f260q (s : ByteArray) (i : Nat) : f260F 1000 (s, (i : Int)) = some (dgt s i) := by
  unfold f260F dgt
  simp only [nb_bt]
  by_cases h : i < s.size
  · rw [bif_true (by simp; omega), bif_true (by simp; omega), decide_eq_true h]
    by_cases h2 : 48 ≤ nb s i
    · rw [bif_true (by simpa using h2), bif_true (by simp; omega), decide_eq_true h2]; rfl
    · rw [bif_false (by simp; omega), decide_eq_false h2]; rfl
  · rw [bif_false (by simp; omega), decide_eq_false h]; rfl

/-- The offset behind digits. -/
def runE (s : ByteArray) : Nat → Nat → Nat
  | 0, i => i
  | r + 1, i => if dgt s i = true then runE s r (i + 1) else i
theorem runE_spec (s : ByteArray) : ∀ (r i : Nat), i + r = s.size → i ≤ runE s r i ∧ runE s r i ≤ s.size ∧ (∀ j, i ≤ j → j < runE s r i → dgt s j = true) ∧ dgt s (runE s r i) = false
  | 0, i, h => by
    refine ⟨Nat.le_refl _, by simp [runE]; omega, fun j h1 h2 => by simp [runE] at h2; omega, ?_⟩
    show dgt s i = false
    unfold dgt
    rw [decide_eq_false (by omega)]
    rfl
  | r + 1, i, h => by
    unfold runE
    by_cases hd : dgt s i = true
    · rw [if_pos hd]
      obtain ⟨h1, h2, h3, h4⟩ := runE_spec s r (i + 1) (by omega)
      refine ⟨by omega, h2, fun j hj hj2 => ?_, h4⟩
      by_cases e : j = i
      · rw [e]; exact hd
      · exact h3 j (by omega) hj2
    · rw [if_neg hd]
      exact ⟨Nat.le_refl _, by omega, fun j h1 h2 => by omega, by simpa using hd⟩
theorem f241q {s : ByteArray} {i : Nat} (hs : s.size ≤ 900) (hi : i ≤ s.size) : f241F 1000 (s, (i : Int)) = some (if dgt s i = true then ((runE s (s.size - i) i : Nat) : Int) else (i : Int), if dgt s i = true then 0 else if i < s.size then 8 else 9) := by
  unfold f241F
  simp only [f260q, bind_some']
  by_cases hd : dgt s i = true
  · rw [hd, bif_false (by rfl), if_pos rfl, if_pos rfl]
    unfold f241l0
    have key : ∀ (r j k : Nat), j + r = s.size → r < k → iterS (fun rec v => f241l0s 1000 rec (fun (w3 : Int × Unit) => some (w3.1, (0 : Int))) v) k (s, (j : Int), ()) = some (((runE s r j : Nat) : Int), 0) := by
      intro r
      induction r with
      | zero =>
        intro j k hj hk
        obtain ⟨k, rfl⟩ : ∃ q, k = q + 1 := ⟨k - 1, by omega⟩
        rw [t_iter]
        unfold f241l0s
        simp only [f260q, bind_some']
        have : dgt s j = false := by simp [dgt]; omega
        rw [this]
        rfl
      | succ r ih =>
        intro j k hj hk
        obtain ⟨k, rfl⟩ : ∃ q, k = q + 1 := ⟨k - 1, by omega⟩
        rw [t_iter]
        by_cases hd : dgt s j = true
        · have hst : ∀ (rec : ByteArray × Int × Unit → Option (Int × Int)) k0, f241l0s 1000 rec k0 (s, (j : Int), ()) = rec (s, ((j + 1 : Nat) : Int), ()) := fun rec k0 => by
            unfold f241l0s
            simp only [f260q, bind_some', hd, cond_true]
            rw [wi (by omega) (by omega)]
            rfl
          rw [hst, ih (j + 1) k (by omega) (by omega)]
          simp only [runE, if_pos hd]
        · have hd' : dgt s j = false := by simpa using hd
          unfold f241l0s
          simp only [f260q, bind_some', hd', cond_false, runE]
          rfl
    exact key (s.size - i) i 1000 (by omega) (by omega)
  · have hd' : dgt s i = false := by simpa using hd
    rw [hd', bif_true (by rfl)]
    by_cases h : i < s.size
    · rw [bif_true (by simp; omega), if_neg (by decide), if_neg (by decide), if_pos h]
    · rw [bif_false (by simp; omega), if_neg (by decide), if_neg (by decide), if_neg h]

/-- Where a number begins. -/
def frm (s : ByteArray) : Nat := if nb s 0 = 45 then 1 else 0
/-- The layout of a number's text: an offset and an error, or where its digits begin, and where they end. -/
def layS (s : ByteArray) : (Nat × Int) ⊕ (Nat × Nat) :=
  if dgt s (frm s) = false then .inl (frm s, if frm s < s.size then 8 else 9)
  else if nb s (frm s) = 48 ∧ frm s + 1 < runE s (s.size - frm s) (frm s) then .inl (frm s + 1, 8)
  else if runE s (s.size - frm s) (frm s) = s.size then .inr (frm s, runE s (s.size - frm s) (frm s))
  else if nb s (runE s (s.size - frm s) (frm s)) ≠ 46 then .inl (runE s (s.size - frm s) (frm s), 8)
  else if dgt s (runE s (s.size - frm s) (frm s) + 1) = false then .inl (runE s (s.size - frm s) (frm s) + 1, if runE s (s.size - frm s) (frm s) + 1 < s.size then 8 else 9)
  else if runE s (s.size - (runE s (s.size - frm s) (frm s) + 1)) (runE s (s.size - frm s) (frm s) + 1) < s.size then .inl (runE s (s.size - (runE s (s.size - frm s) (frm s) + 1)) (runE s (s.size - frm s) (frm s) + 1), 8)
  else .inr (frm s, runE s (s.size - frm s) (frm s))

theorem frm_le {s : ByteArray} (h0 : 0 < s.size) : frm s ≤ s.size := by unfold frm; split <;> omega

theorem f221q {s : ByteArray} (h0 : 0 < s.size) (hs : s.size ≤ 900) : f221F 1000 s = some (match layS s with | .inl (a, e) => (0, (a : Int), e) | .inr (f, t) => ((f : Int), (t : Int), 0)) := by
  have hf := frm_le h0
  have p0 : ∀ {R : Type} (k0 : ByteArray × Int × Unit → Option R), f221p0 1000 k0 (s, 0, ()) = k0 (s, (frm s : Int), ()) := by
    intro R k0
    unfold f221p0 frm
    have := nb_bt s 0
    have z : ((0 : Nat) : Int) = 0 := rfl
    rw [z] at this
    simp only [this]
    rw [bif_true (by simp; omega)]
    by_cases h : nb s 0 = 45
    · rw [bif_true (by simpa using h), if_pos h]; rfl
    · rw [bif_false (by simpa using h), if_neg h]; rfl
  unfold f221F layS
  rw [p0]
  simp only []
  rw [f241q hs hf, bind_some']
  by_cases hd : dgt s (frm s) = true
  · rw [hd]
    obtain ⟨r1, r2, r3, r4⟩ := runE_spec s (s.size - frm s) (frm s) (by omega)
    have hfl := (dgt_iff.1 hd).1
    have r5 : frm s + 1 ≤ runE s (s.size - frm s) (frm s) := by
      have : runE s (s.size - frm s) (frm s) ≠ frm s := fun c => by rw [c, hd] at r4; exact absurd r4 (by decide)
      omega
    simp only [if_true, bne_self_eq_false, cond_false, Bool.true_eq_false, if_false]
    generalize runE s (s.size - frm s) (frm s) = E at *
    unfold f221p1
    simp only [nb_bt]
    have w1 : IntKind.i64.wrap ((frm s : Int) + 1) = ((frm s + 1 : Nat) : Int) := by rw [wi (by omega) (by omega)]; omega
    have w2 : IntKind.i64.wrap ((E : Int) + 1) = ((E + 1 : Nat) : Int) := by rw [wi (by omega) (by omega)]; omega
    rw [bif_true (by simp; omega), w1]
    have rest : (bif ((E : Int) == (s.size : Int)) then some ((frm s : Int), (E : Int), (0 : Int)) else
        bif ((decide ((0 : Int) ≤ (E : Int))) && (decide ((E : Int) < (s.size : Int)))) then
        bif ((nb s E) != (46 : Int)) then some ((0 : Int), (E : Int), (8 : Int)) else
        Option.bind (f241F 1000 (s, (IntKind.i64.wrap ((E : Int) + (1 : Int))))) fun y5 =>
          f221p2 1000 (fun (w6 : Int × Int × Int × Int × Unit) =>
              bif (w6.2.2.1 != (0 : Int)) then some ((0 : Int), w6.2.2.2.1, w6.2.2.1) else some (w6.1, w6.2.1, (0 : Int)))
            (s, (frm s : Int), (E : Int), y5.2, y5.1, ()) else none)
        = some (match (if E = s.size then .inr (frm s, E) else if nb s E ≠ 46 then .inl (E, 8) else if dgt s (E + 1) = false then .inl (E + 1, if E + 1 < s.size then 8 else 9)
          else if runE s (s.size - (E + 1)) (E + 1) < s.size then .inl (runE s (s.size - (E + 1)) (E + 1), 8) else .inr (frm s, E) : (Nat × Int) ⊕ (Nat × Nat)) with | .inl (a, e) => (0, (a : Int), e) | .inr (f, t) => ((f : Int), (t : Int), 0)) := by
      by_cases hE : E = s.size
      · rw [if_pos hE, bif_true (by simp; omega)]
      · rw [if_neg hE, bif_false (by simp; omega), bif_true (by simp; omega)]
        by_cases h46 : nb s E = 46
        · rw [if_neg (by simp [h46]), bif_false (by simp [h46]), w2, f241q hs (by omega), bind_some']
          by_cases hd2 : dgt s (E + 1) = true
          · rw [hd2]
            obtain ⟨q1, q2, q3, q4⟩ := runE_spec s (s.size - (E + 1)) (E + 1) (by omega)
            generalize runE s (s.size - (E + 1)) (E + 1) = E2 at *
            unfold f221p2
            simp only [if_true, beq_self_eq_true, cond_true, Bool.true_eq_false, if_false]
            by_cases hE2 : E2 < s.size
            · rw [bif_true (by simp; omega), if_pos hE2]
              rfl
            · rw [bif_false (by simp; omega), if_neg hE2]
              rfl
          · have hd2' : dgt s (E + 1) = false := by simpa using hd2
            rw [hd2', if_pos rfl]
            unfold f221p2
            by_cases hl : E + 1 < s.size
            · simp only [Bool.false_eq_true, if_false, hl, if_true]; rfl
            · simp only [Bool.false_eq_true, if_false, hl]; rfl
        · rw [if_pos h46, bif_true (by simpa using h46)]
    by_cases h48 : nb s (frm s) = 48
    · rw [bif_true (by simpa using h48)]
      by_cases hl : frm s + 1 < E
      · rw [bif_true (by simp; omega), if_pos ⟨h48, hl⟩]
      · rw [bif_false (by simp; omega), if_neg (fun c => hl c.2)]
        exact rest
    · rw [bif_false (by simpa using h48), if_neg (fun c => h48 c.1)]
      exact rest
  · have hd' : dgt s (frm s) = false := by simpa using hd
    rw [hd', if_pos rfl]
    by_cases hl : frm s < s.size
    · simp only [Bool.false_eq_true, if_false, hl, if_true]; rfl
    · simp only [Bool.false_eq_true, if_false, hl]; rfl
end Go.Proofs.YtioagofpofamiaaDoor
/-! Plain laws: the layout of a number's text, by the reference. -/
set_option linter.unusedVariables false
set_option linter.unusedSimpArgs false
namespace Go.Proofs.YtioagofpofamiaaDoor
open Go.Ab

theorem t225 (k : Nat) (c : Int) : f225F k c = some (decide (48 ≤ c) && decide (c ≤ 57)) := by
  unfold f225F
  by_cases h : 48 ≤ c
  · rw [bif_true (by simpa using h), decide_eq_true h]; rfl
  · rw [bif_false (by simpa using h), decide_eq_false h]; rfl

theorem l1_step {R : Type} (rec k0 k1 : ByteArray × Int × Int × Int × Int × Int × Int × Int × Unit → Option R) (s : ByteArray) (i f : Nat) (p : Int) (hi : i < s.size) (hs : s.size ≤ 900) (hf : f < s.size) :
    f208l1s 1000 rec k0 k1 (s, (i : Int), (f : Int), p, 0, 0, 0, 0, ()) =
      if nb s i = 46 ∧ p = -1 ∧ f < i then rec (s, ((i + 1 : Nat) : Int), (f : Int), (i : Int), 0, 0, 0, 0, ())
      else if (48 ≤ nb s i ∧ nb s i ≤ 57) ∧ ¬ (p = -1 ∧ i = f + 1 ∧ nb s f = 48) then rec (s, ((i + 1 : Nat) : Int), (f : Int), p, 0, 0, 0, 0, ())
      else k0 (s, (i : Int), (f : Int), p, 0, 0, (i : Int), 8, ()) := by
  have w1 : IntKind.i64.wrap ((i : Int) + 1) = ((i + 1 : Nat) : Int) := by rw [wi (by omega) (by omega)]; omega
  have w2 : IntKind.i64.wrap ((f : Int) + 1) = ((f + 1 : Nat) : Int) := by rw [wi (by omega) (by omega)]; omega
  have g1 : ((decide ((0 : Int) ≤ (i : Int))) && (decide ((i : Int) < (s.size : Int)))) = true := by simp; omega
  have g2 : ((decide ((0 : Int) ≤ (f : Int))) && (decide ((f : Int) < (s.size : Int)))) = true := by simp; omega
  have e1 : ((i : Int) == ((f + 1 : Nat) : Int)) = decide (i = f + 1) := by
    by_cases h : i = f + 1
    · rw [decide_eq_true h, h]; simp
    · rw [decide_eq_false h]; simp; omega
  have e2 : decide ((i : Int) > (f : Int)) = decide (f < i) := by
    by_cases h : f < i
    · rw [decide_eq_true h, decide_eq_true (by omega)]
    · rw [decide_eq_false h, decide_eq_false (by omega)]
  unfold f208l1s f208p0
  simp only [nb_bt, t225, bind_some', w1, w2, g1, g2, e1, e2, cond_true]
  rw [bif_true (by simp; omega)]
  generalize nb s i = c
  generalize nb s f = d
  by_cases hc : c = 46
  · subst hc
    by_cases hp : p = -1
    · subst hp
      by_cases hfi : f < i
      · simp [hfi]
      · simp [hfi]
    · have hpb : (p == -1) = false := by simpa using hp
      simp [hp, hpb]
  · have hcb : (c == 46) = false := by simpa using hc
    by_cases hd : 48 ≤ c ∧ c ≤ 57
    · by_cases hp : p = -1
      · subst hp
        by_cases h1 : i = f + 1
        · by_cases h2 : d = 48
          · simp [hc, hcb, hd, h1, h2]
          · have hdb : (d == 48) = false := by simpa using h2
            simp [hc, hcb, hd, h1, h2, hdb]
        · simp [hc, hcb, hd, h1]
      · have hpb : (p == -1) = false := by simpa using hp
        simp [hc, hcb, hd, hp, hpb]
    · by_cases h48 : 48 ≤ c
      · have : ¬ c ≤ 57 := fun h => hd ⟨h48, h⟩
        simp [hc, hcb, h48, this]
      · simp [hc, hcb, h48]
theorem l1_end {R : Type} (rec k0 k1 : ByteArray × Int × Int × Int × Int × Int × Int × Int × Unit → Option R) (s : ByteArray) (f p : Int) :
    f208l1s 1000 rec k0 k1 (s, (s.size : Int), f, p, 0, 0, 0, 0, ()) = k1 (s, (s.size : Int), f, p, 0, 0, 0, 0, ()) := by
  unfold f208l1s
  rw [bif_false (by simp)]

theorem l1_skip {R : Type} (k0 k1 : ByteArray × Int × Int × Int × Int × Int × Int × Int × Unit → Option R) (s : ByteArray) (f : Nat) (p : Int) (hs : s.size ≤ 900) (hf : f < s.size) :
    ∀ (d i m K : Nat), K = m + d → i + d ≤ s.size → (∀ j, i ≤ j → j < i + d → dgt s j = true ∧ ¬ (p = -1 ∧ j = f + 1 ∧ nb s f = 48)) →
      iterS (fun rec v => f208l1s 1000 rec k0 k1 v) K (s, (i : Int), (f : Int), p, 0, 0, 0, 0, ()) = iterS (fun rec v => f208l1s 1000 rec k0 k1 v) m (s, ((i + d : Nat) : Int), (f : Int), p, 0, 0, 0, 0, ()) := by
  intro d
  induction d with
  | zero => intro i m K hK _ _; rw [hK]; rfl
  | succ d ih =>
    intro i m K hK hi hj
    obtain ⟨h1, h2⟩ := hj i (by omega) (by omega)
    have h1' := dgt_iff.1 h1
    rw [show K = (m + d) + 1 by omega, t_iter, l1_step _ _ _ _ _ _ _ (by omega) hs hf, if_neg (by omega), if_pos ⟨h1'.2, h2⟩, ih (i + 1) m (m + d) rfl (by omega) (fun j a b => hj j (by omega) (by omega)), show i + 1 + d = i + (d + 1) by omega]

/-- What the reference does behind the layout. -/
noncomputable def k208 (w18 : ByteArray × Int × Int × Int × Int × Int × Int × Int × Int × Unit) : Option ((Int × Int) × (Int × Int)) :=
  bif (decide (w18.2.2.2.1 > (15 : Int))) then
    some (((0 : Int), (0 : Int)), ((0 : Int), (19 : Int)))
  else
  f208p6 1000
    (fun (w19 : ByteArray × Int × Int × Int × Int × Int × Int × Int × Unit) =>
      some ((w19.2.2.1, w19.2.2.2.1), ((w19.1.size : Int), (0 : Int))))
    (w18.1, w18.2.1, w18.2.2.1, w18.2.2.2.2.1, w18.2.2.2.2.2.1, w18.2.2.2.2.2.2.1, w18.2.2.2.2.2.2.2.1, w18.2.2.2.2.2.2.2.2.1, ())

theorem f208q {s : ByteArray} (h0 : 0 < s.size) (hs : s.size ≤ 40) : f208F 1000 s = match layS s with
    | .inl (a, e) => some ((0, 0), ((a : Int), e))
    | .inr (f, t) => f208l5 1000 k208 (s, (f : Int), (if t = s.size then -1 else (t : Int)), 0, 0, 0, (f : Int), 0, 0, 0, 0, ()) := by
  have hf := frm_le h0
  have hne : strEq s ByteArray.empty = false := by
    cases h : strEq s ByteArray.empty with
    | false => rfl
    | true =>
      have := strEq_iff.1 h
      subst this
      exact absurd h0 (by decide)
  have hb0 : bt s 0 = nb s 0 := nb_bt s 0
  have h69 : f69F 1000 (nb s 0 == 45) = some (frm s : Int) := by
    unfold f69F frm
    by_cases h : nb s 0 = 45
    · rw [bif_true (by simpa using h), if_pos h]; rfl
    · rw [bif_false (by simpa using h), if_neg h]; rfl
  unfold f208F
  rw [bif_false (by simp; omega), hne, cond_false, bif_true (by simp; omega), hb0, h69, bind_some']
  unfold f208l1 layS
  have fin : ∀ (p : Int), (frm s : Int) ≠ (s.size : Int) → p ≠ (s.size : Int) - 1 → (bif ((s.size : Int) == (frm s : Int)) then some (((0 : Int), (0 : Int)), ((s.size : Int), (9 : Int))) else bif (p == (IntKind.i64.wrap ((s.size : Int) - (1 : Int)))) then some (((0 : Int), (0 : Int)), ((s.size : Int), (9 : Int))) else
      f208l5 1000 k208 (s, (frm s : Int), p, 0, 0, 0, (frm s : Int), 0, 0, 0, 0, ())) = f208l5 1000 k208 (s, (frm s : Int), p, 0, 0, 0, (frm s : Int), 0, 0, 0, 0, ()) := by
    intro p h1 h2
    rw [bif_false (by simp; omega), wi (by omega) (by omega), bif_false (by simpa using h2)]
  by_cases hd : dgt s (frm s) = true
  · rw [if_neg (by simp [hd])]
    obtain ⟨r1, r2, r3, r4⟩ := runE_spec s (s.size - frm s) (frm s) (by omega)
    have hfl := (dgt_iff.1 hd).1
    have hfd := (dgt_iff.1 hd).2
    have r5 : frm s + 1 ≤ runE s (s.size - frm s) (frm s) := by
      have : runE s (s.size - frm s) (frm s) ≠ frm s := fun c => by rw [c, hd] at r4; exact absurd r4 (by decide)
      omega
    generalize runE s (s.size - frm s) (frm s) = E at *
    by_cases h48 : nb s (frm s) = 48 ∧ frm s + 1 < E
    · rw [if_pos h48]
      have d1 := dgt_iff.1 (r3 (frm s + 1) (by omega) h48.2)
      rw [l1_skip _ _ s (frm s) (-1) (by omega) hfl 1 (frm s) (998 + 1) 1000 rfl (by omega) (fun j a b => ⟨r3 j (by omega) (by omega), by omega⟩)]
      rw [t_iter, l1_step _ _ _ _ _ _ _ (by omega) (by omega) hfl, if_neg (by omega), if_neg (fun c => c.2 ⟨rfl, rfl, h48.1⟩)]
    · rw [if_neg h48]
      obtain ⟨m, hm, hm2⟩ : ∃ m, 1000 = (m + 1) + (E - frm s) ∧ 500 ≤ m := ⟨999 - (E - frm s), by omega, by omega⟩
      rw [l1_skip _ _ s (frm s) (-1) (by omega) hfl (E - frm s) (frm s) (m + 1) 1000 hm (by omega) (fun j a b => ⟨r3 j (by omega) (by omega), fun c => h48 ⟨c.2.2, by omega⟩⟩), show frm s + (E - frm s) = E by omega]
      by_cases hE : E = s.size
      · rw [if_pos hE, hE, t_iter, l1_end]
        refine (fin (-1) (by omega) (by omega)).trans ?_
        simp only [if_true]
      · have hEl : E < s.size := by omega
        have nd : ¬ (48 ≤ nb s E ∧ nb s E ≤ 57) := fun c => by
          have := dgt_iff.2 ⟨hEl, c⟩
          rw [r4] at this
          exact absurd this (by decide)
        rw [if_neg hE, t_iter, l1_step _ _ _ _ _ _ _ hEl (by omega) hfl]
        by_cases h46 : nb s E = 46
        · rw [if_pos ⟨h46, rfl, by omega⟩, if_neg (fun c => c h46)]
          by_cases hd2 : dgt s (E + 1) = true
          · rw [if_neg (by simp [hd2])]
            obtain ⟨q1, q2, q3, q4⟩ := runE_spec s (s.size - (E + 1)) (E + 1) (by omega)
            have q5 : E + 2 ≤ runE s (s.size - (E + 1)) (E + 1) := by
              have : runE s (s.size - (E + 1)) (E + 1) ≠ E + 1 := fun c => by rw [c, hd2] at q4; exact absurd q4 (by decide)
              omega
            generalize runE s (s.size - (E + 1)) (E + 1) = E2 at *
            obtain ⟨m2, hm3⟩ : ∃ m2, m = (m2 + 1) + (E2 - (E + 1)) := ⟨m - 1 - (E2 - (E + 1)), by omega⟩
            rw [l1_skip _ _ s (frm s) (E : Int) (by omega) hfl (E2 - (E + 1)) (E + 1) (m2 + 1) m hm3 (by omega) (fun j a b => ⟨q3 j (by omega) (by omega), by omega⟩), show E + 1 + (E2 - (E + 1)) = E2 by omega]
            by_cases hE2 : E2 < s.size
            · have nd2 : ¬ (48 ≤ nb s E2 ∧ nb s E2 ≤ 57) := fun c => by
                have := dgt_iff.2 ⟨hE2, c⟩
                rw [q4] at this
                exact absurd this (by decide)
              rw [if_pos hE2, t_iter, l1_step _ _ _ _ _ _ _ hE2 (by omega) hfl, if_neg (by omega), if_neg (fun c => nd2 c.1)]
            · have hE2' : E2 = s.size := by omega
              rw [if_neg hE2, hE2', t_iter, l1_end]
              refine (fin (E : Int) (by omega) (by omega)).trans ?_
              simp only [hE, if_false]
          · have hd2' : dgt s (E + 1) = false := by simpa using hd2
            rw [if_pos hd2']
            by_cases hl : E + 1 < s.size
            · have nd2 : ¬ (48 ≤ nb s (E + 1) ∧ nb s (E + 1) ≤ 57) := fun c => by
                have := dgt_iff.2 ⟨hl, c⟩
                rw [hd2'] at this
                exact absurd this (by decide)
              obtain ⟨m2, hm3⟩ : ∃ m2, m = m2 + 1 := ⟨m - 1, by omega⟩
              rw [hm3, t_iter, l1_step _ _ _ _ _ _ _ hl (by omega) hfl, if_neg (by omega), if_neg (fun c => nd2 c.1)]
              simp only [hl, if_true]
            · have e : E + 1 = s.size := by omega
              obtain ⟨m2, hm3⟩ : ∃ m2, m = m2 + 1 := ⟨m - 1, by omega⟩
              rw [e, hm3, t_iter, l1_end]
              simp only [Nat.lt_irrefl, if_false]
              rw [bif_false (by simp; omega), wi (by omega) (by omega), bif_true (by simp; omega)]
        · rw [if_neg (fun c => h46 c.1), if_neg (fun c => nd c.1), if_pos h46]
  · have hd' : dgt s (frm s) = false := by simpa using hd
    rw [if_pos hd']
    by_cases hl : frm s < s.size
    · have nd : ¬ (48 ≤ nb s (frm s) ∧ nb s (frm s) ≤ 57) := fun c => by
        have := dgt_iff.2 ⟨hl, c⟩
        rw [hd'] at this
        exact absurd this (by decide)
      have hk : iterS (fun rec v => f208l1s 1000 rec (fun (w7 : ByteArray × Int × Int × Int × Int × Int × Int × Int × Unit) => some ((w7.2.2.2.2.1, w7.2.2.2.2.2.1), (w7.2.2.2.2.2.2.1, w7.2.2.2.2.2.2.2.1))) (fun (w8 : ByteArray × Int × Int × Int × Int × Int × Int × Int × Unit) =>
          bif (w8.2.1 == w8.2.2.1) then some (((0 : Int), (0 : Int)), ((w8.1.size : Int), (9 : Int))) else bif (w8.2.2.2.1 == (IntKind.i64.wrap (w8.2.1 - (1 : Int)))) then some (((0 : Int), (0 : Int)), ((w8.1.size : Int), (9 : Int))) else
          f208l5 1000 k208 (w8.1, w8.2.2.1, w8.2.2.2.1, (0 : Int), (0 : Int), (0 : Int), w8.2.2.1, w8.2.2.2.2.1, w8.2.2.2.2.2.1, w8.2.2.2.2.2.2.1, w8.2.2.2.2.2.2.2.1, ())) v) (999 + 1) (s, (frm s : Int), (frm s : Int), -1, 0, 0, 0, 0, ()) = some ((0, 0), ((frm s : Int), 8)) := by
        rw [t_iter, l1_step _ _ _ _ _ _ _ hl (by omega) hl, if_neg (by omega), if_neg (fun c => nd c.1)]
      refine Eq.trans hk ?_
      simp only [hl, if_true]
    · have e : frm s = s.size := by omega
      have hk : iterS (fun rec v => f208l1s 1000 rec (fun (w7 : ByteArray × Int × Int × Int × Int × Int × Int × Int × Unit) => some ((w7.2.2.2.2.1, w7.2.2.2.2.2.1), (w7.2.2.2.2.2.2.1, w7.2.2.2.2.2.2.2.1))) (fun (w8 : ByteArray × Int × Int × Int × Int × Int × Int × Int × Unit) =>
          bif (w8.2.1 == w8.2.2.1) then some (((0 : Int), (0 : Int)), ((w8.1.size : Int), (9 : Int))) else bif (w8.2.2.2.1 == (IntKind.i64.wrap (w8.2.1 - (1 : Int)))) then some (((0 : Int), (0 : Int)), ((w8.1.size : Int), (9 : Int))) else
          f208l5 1000 k208 (w8.1, w8.2.2.1, w8.2.2.2.1, (0 : Int), (0 : Int), (0 : Int), w8.2.2.1, w8.2.2.2.2.1, w8.2.2.2.2.2.1, w8.2.2.2.2.2.2.1, w8.2.2.2.2.2.2.2.1, ())) v) (999 + 1) (s, (frm s : Int), (frm s : Int), -1, 0, 0, 0, 0, ()) = some ((0, 0), ((s.size : Int), 9)) := by
        rw [e, t_iter, l1_end]
        simp only []
        rw [bif_true (by simp)]
      refine Eq.trans hk ?_
      simp only [e, Nat.lt_irrefl, if_false]
end Go.Proofs.YtioagofpofamiaaDoor
/-! Plain laws: the digits of a number's text. -/
set_option linter.unusedVariables false
set_option linter.unusedSimpArgs false
namespace Go.Proofs.YtioagofpofamiaaDoor
open Go.Ab

/-- The digits from an offset on, so many. -/
def dgl (s : ByteArray) (i d : Nat) : List Int := (List.range' i d).map fun j => nb s j - 48
theorem dgl_succ (s : ByteArray) (i d : Nat) : dgl s i (d + 1) = (nb s i - 48) :: dgl s (i + 1) d := by simp [dgl, List.range'_succ]
theorem dgl_len (s : ByteArray) (i d : Nat) : (dgl s i d).length = d := by simp [dgl]

def stR (x : Int × Nat) (d : Int) : Int × Nat := (if x.2 + 1 ≤ 15 then 10 * x.1 + d else x.1, x.2 + 1)
def stW (x : Int × Nat) (d : Int) : Int × Nat := if 0 < x.2 ∨ d ≠ 0 then stR x d else (10 * x.1 + d, x.2)
def okx (x : Int × Nat) : Prop := 0 ≤ x.1 ∧ x.1 < 10 ^ (min x.2 15)
theorem okx_R {x : Int × Nat} {d : Int} (h : okx x) (d0 : 0 ≤ d) (d9 : d ≤ 9) : okx (stR x d) := by
  obtain ⟨n, c⟩ := x
  unfold okx stR at *
  simp only [] at *
  by_cases hc : c + 1 ≤ 15
  · rw [if_pos hc]
    rw [Nat.min_eq_left (by omega)] at h ⊢
    rw [Int.pow_succ]
    omega
  · rw [if_neg hc]
    rw [Nat.min_eq_right (by omega)] at h ⊢
    exact h
theorem okx_W {x : Int × Nat} {d : Int} (h : okx x) (d0 : 0 ≤ d) (d9 : d ≤ 9) : okx (stW x d) := by
  unfold stW
  split
  · exact okx_R h d0 d9
  · rename_i c
    obtain ⟨n, c'⟩ := x
    unfold okx at *
    simp only [] at *
    have h1 : c' = 0 := by omega
    subst h1
    simp only [Nat.zero_min, Int.pow_zero] at *
    omega
theorem okx_le {x : Int × Nat} (h : okx x) : 0 ≤ x.1 ∧ x.1 < 1000000000000000 := by
  obtain ⟨h0, h1⟩ := h
  have : (10 : Int) ^ (min x.2 15) ≤ 10 ^ 15 := by
    have h := Nat.pow_le_pow_right (n := 10) (i := min x.2 15) (j := 15) (by decide) (by omega)
    have e1 : ((10 ^ (min x.2 15) : Nat) : Int) = (10 : Int) ^ (min x.2 15) := by simp
    have e2 : ((10 ^ 15 : Nat) : Int) = (10 : Int) ^ 15 := by simp
    rw [← e1, ← e2]
    exact Int.ofNat_le.2 h
  omega

theorem foldW_pos : ∀ (l : List Int) (x : Int × Nat), 0 < x.2 → l.foldl stW x = l.foldl stR x
  | [], _, _ => rfl
  | d :: l, x, h => by
    have e : stW x d = stR x d := by unfold stW; rw [if_pos (.inl h)]
    rw [List.foldl_cons, List.foldl_cons, e]
    exact foldW_pos l _ (by unfold stR; simp)
theorem foldW_zero : ∀ l : List Int, l.foldl stW (0, 0) = (l.dropWhile (fun d => d == 0)).foldl stR (0, 0)
  | [] => rfl
  | d :: l => by
    by_cases h : d = 0
    · subst h
      have e : stW (0, 0) 0 = (0, 0) := by unfold stW; rw [if_neg (by simp)]; rfl
      rw [List.foldl_cons, e, List.dropWhile_cons_of_pos (by simp)]
      exact foldW_zero l
    · have e : stW (0, 0) d = stR (0, 0) d := by unfold stW; rw [if_pos (.inr h)]
      rw [List.foldl_cons, e, List.dropWhile_cons_of_neg (by simpa using h), List.foldl_cons]
      exact foldW_pos l _ (by unfold stR; simp)
theorem foldR_count : ∀ (l : List Int) (x : Int × Nat), (l.foldl stR x).2 = x.2 + l.length
  | [], x => rfl
  | d :: l, x => by
    rw [List.foldl_cons, foldR_count l]
    unfold stR
    simp only [List.length_cons]
    omega
theorem foldR_val : ∀ (l : List Int) (x : Int × Nat), x.2 + l.length ≤ 15 → (l.foldl stR x).1 = l.foldl (fun a d => 10 * a + d) x.1
  | [], x, _ => rfl
  | d :: l, x, h => by
    simp only [List.length_cons] at h
    rw [List.foldl_cons, foldR_val l _ (by unfold stR; simp only; omega), List.foldl_cons]
    congr 1
    unfold stR
    rw [if_pos (by omega)]

theorem p3q {R : Type} (k0 : ByteArray × Int × Int × Int × Int × Int × Int × Int × Int × Int × Int × Unit → Option R) (s : ByteArray) (f p n sc : Int) (c i : Nat) (bh : Bool) (hi : i < s.size) (hc : c ≤ 900) :
    f208p3 1000 k0 (s, f, p, n, (c : Int), sc, (i : Int), bh, 0, 0, 0, 0, ()) = k0 (s, f, p, n, ((if bh = true ∨ 0 < c ∨ nb s i ≠ 48 then c + 1 else c : Nat) : Int), sc, (i : Int), 0, 0, 0, 0, ()) := by
  have w3 : IntKind.i64.wrap ((c : Int) + 1) = ((c + 1 : Nat) : Int) := by rw [wi (by omega) (by omega)]; omega
  unfold f208p3
  simp only [nb_bt, w3]
  cases bh with
  | true => rw [cond_true, if_pos (.inl rfl)]
  | false =>
    rw [cond_false]
    by_cases hc0 : 0 < c
    · rw [bif_true (by simp; omega), if_pos (.inr (.inl hc0))]
    · rw [bif_false (by simp; omega), bif_true (by simp; omega)]
      by_cases hb : nb s i = 48
      · rw [bif_false (by simpa using hb), if_neg (by simp [hb, hc0])]
      · rw [bif_true (by simpa using hb), if_pos (.inr (.inr hb))]
theorem p2q {R : Type} (k0 : ByteArray × Int × Int × Int × Int × Int × Int × Bool × Int × Int × Int × Int × Unit → Option R) (s : ByteArray) (f p n c i : Int) (sc : Nat) (bh : Bool) (hsc : sc ≤ 900) :
    f208p2 1000 k0 (s, f, p, n, c, (sc : Int), i, bh, 0, 0, 0, 0, ()) = k0 (s, f, p, n, c, ((if bh = true then sc + 1 else sc : Nat) : Int), i, bh, 0, 0, 0, 0, ()) := by
  have w3 : IntKind.i64.wrap ((sc : Int) + 1) = ((sc + 1 : Nat) : Int) := by rw [wi (by omega) (by omega)]; omega
  unfold f208p2
  cases bh with
  | true => simp only [cond_true, w3, if_true]
  | false => simp only [cond_false, Bool.false_eq_true, if_false]

theorem p4q {R : Type} (k0 : ByteArray × Int × Int × Int × Int × Int × Int × Int × Int × Int × Int × Unit → Option R) (s : ByteArray) (f p n : Int) (c sc i : Nat)
    (hd : dgt s i = true) (n0 : 0 ≤ n) (n1 : n < 1000000000000000) (hc : c ≤ 900) (hsc : sc ≤ 900) (hp : p ≠ (i : Int)) :
    ∃ bh : Bool, bh = decide (p ≠ -1 ∧ p < (i : Int)) ∧
    f208p4 1000 k0 (s, f, p, n, (c : Int), (sc : Int), (i : Int), 0, 0, 0, 0, ()) = k0 (s, f, p, if (if bh = true ∨ 0 < c ∨ nb s i ≠ 48 then c + 1 else c) ≤ 15 then 10 * n + (nb s i - 48) else n, ((if bh = true ∨ 0 < c ∨ nb s i ≠ 48 then c + 1 else c : Nat) : Int), ((if bh = true then sc + 1 else sc : Nat) : Int), (i : Int), 0, 0, 0, 0, ()) := by
  obtain ⟨hi, h48, h57⟩ := dgt_iff.1 hd
  refine ⟨decide (p ≠ -1 ∧ p < (i : Int)), rfl, ?_⟩
  have w4 : IntKind.u8.wrap (nb s i - 48) = nb s i - 48 := wu8 (by omega) (by omega)
  have w5 : IntKind.i64.wrap (nb s i - 48) = nb s i - 48 := wi (by omega) (by omega)
  have w6 : IntKind.i64.wrap (10 * n) = 10 * n := wi (by omega) (by omega)
  have w7 : IntKind.i64.wrap (10 * n + (nb s i - 48)) = 10 * n + (nb s i - 48) := wi (by omega) (by omega)
  have g1 : ((decide ((0 : Int) ≤ (i : Int))) && (decide ((i : Int) < (s.size : Int)))) = true := by simp; omega
  have hpb : ((i : Int) == p) = false := by simp; omega
  have body : ∀ c' : Nat, ∀ k : Bool → Option R, (∀ b, k b = (bif b then k0 (s, f, p, 10 * n + (nb s i - 48), (c' : Int), ((if decide (p ≠ -1 ∧ p < (i : Int)) = true then sc + 1 else sc : Nat) : Int), (i : Int), 0, 0, 0, 0, ()) else k0 (s, f, p, n, (c' : Int), ((if decide (p ≠ -1 ∧ p < (i : Int)) = true then sc + 1 else sc : Nat) : Int), (i : Int), 0, 0, 0, 0, ()))) →
      k (decide ((c' : Int) ≤ 15)) = k0 (s, f, p, if c' ≤ 15 then 10 * n + (nb s i - 48) else n, (c' : Int), ((if decide (p ≠ -1 ∧ p < (i : Int)) = true then sc + 1 else sc : Nat) : Int), (i : Int), 0, 0, 0, 0, ()) := by
    intro c' k hk
    rw [hk]
    by_cases h : c' ≤ 15
    · rw [decide_eq_true (by omega), if_pos h]; rfl
    · rw [decide_eq_false (by omega), if_neg h]; rfl
  unfold f208p4
  simp only [hpb, cond_false]
  by_cases hm : p = -1
  · have hbf : decide (p ≠ -1 ∧ p < (i : Int)) = false := decide_eq_false (fun c => c.1 hm)
    rw [bif_false (by simpa using hm), p2q _ _ _ _ _ _ _ _ _ hsc, p3q _ _ _ _ _ _ _ _ _ hi hc]
    simp only [nb_bt, w4, w5, w6, w7, g1, cond_true]
    rw [hbf]
    have := body (if false = true ∨ 0 < c ∨ nb s i ≠ 48 then c + 1 else c) (fun b => bif b then k0 (s, f, p, 10 * n + (nb s i - 48), ((if false = true ∨ 0 < c ∨ nb s i ≠ 48 then c + 1 else c : Nat) : Int), ((if false = true then sc + 1 else sc : Nat) : Int), (i : Int), 0, 0, 0, 0, ()) else k0 (s, f, p, n, ((if false = true ∨ 0 < c ∨ nb s i ≠ 48 then c + 1 else c : Nat) : Int), ((if false = true then sc + 1 else sc : Nat) : Int), (i : Int), 0, 0, 0, 0, ())) (fun b => by rw [hbf])
    rw [hbf] at this
    exact this
  · rw [bif_true (by simpa using hm), p2q _ _ _ _ _ _ _ _ _ hsc, p3q _ _ _ _ _ _ _ _ _ hi hc]
    simp only [nb_bt, w4, w5, w6, w7, g1, cond_true]
    have hbt : decide ((i : Int) > p) = decide (p ≠ -1 ∧ p < (i : Int)) := by
      by_cases h : p < (i : Int)
      · rw [decide_eq_true h, decide_eq_true ⟨hm, h⟩]
      · rw [decide_eq_false h, decide_eq_false (fun c => h c.2)]
    rw [hbt]
    exact body _ (fun b => bif b then k0 (s, f, p, 10 * n + (nb s i - 48), ((if decide (p ≠ -1 ∧ p < (i : Int)) = true ∨ 0 < c ∨ nb s i ≠ 48 then c + 1 else c : Nat) : Int), ((if decide (p ≠ -1 ∧ p < (i : Int)) = true then sc + 1 else sc : Nat) : Int), (i : Int), 0, 0, 0, 0, ()) else k0 (s, f, p, n, ((if decide (p ≠ -1 ∧ p < (i : Int)) = true ∨ 0 < c ∨ nb s i ≠ 48 then c + 1 else c : Nat) : Int), ((if decide (p ≠ -1 ∧ p < (i : Int)) = true then sc + 1 else sc : Nat) : Int), (i : Int), 0, 0, 0, 0, ())) (fun b => rfl)

theorem l5_step {R : Type} (rec : ByteArray × Int × Int × Int × Int × Int × Int × Int × Int × Int × Int × Unit → Option R) (k0 : ByteArray × Int × Int × Int × Int × Int × Int × Int × Int × Unit → Option R) (s : ByteArray) (f p : Int) (x : Int × Nat) (sc i : Nat)
    (hs : s.size ≤ 900) (hd : dgt s i = true) (hx : okx x) (hc : x.2 ≤ 900) (hsc : sc ≤ 900) (hp : p ≠ (i : Int)) :
    f208l5s 1000 rec k0 (s, f, p, x.1, (x.2 : Int), (sc : Int), (i : Int), 0, 0, 0, 0, ()) =
      if p ≠ -1 ∧ p < i then rec (s, f, p, (stR x (nb s i - 48)).1, ((stR x (nb s i - 48)).2 : Int), ((sc + 1 : Nat) : Int), ((i + 1 : Nat) : Int), 0, 0, 0, 0, ())
      else rec (s, f, p, (stW x (nb s i - 48)).1, ((stW x (nb s i - 48)).2 : Int), (sc : Int), ((i + 1 : Nat) : Int), 0, 0, 0, 0, ()) := by
  obtain ⟨hi, h48, h57⟩ := dgt_iff.1 hd
  obtain ⟨x0, x1⟩ := okx_le hx
  obtain ⟨n, c⟩ := x
  simp only [] at x0 x1 hc
  have w1 : IntKind.i64.wrap ((i : Int) + 1) = ((i + 1 : Nat) : Int) := by rw [wi (by omega) (by omega)]; omega
  unfold f208l5s
  simp only []
  rw [bif_true (by simp; omega)]
  obtain ⟨bh, hbh, e⟩ := p4q (fun (w17 : ByteArray × Int × Int × Int × Int × Int × Int × Int × Int × Int × Int × Unit) =>
        rec (w17.1, w17.2.1, w17.2.2.1, w17.2.2.2.1, w17.2.2.2.2.1, w17.2.2.2.2.2.1, (IntKind.i64.wrap (w17.2.2.2.2.2.2.1 + (1 : Int))), w17.2.2.2.2.2.2.2.1, w17.2.2.2.2.2.2.2.2.1, w17.2.2.2.2.2.2.2.2.2.1, w17.2.2.2.2.2.2.2.2.2.2.1, ())) s f p n c sc i hd x0 x1 hc hsc hp
  rw [e]
  simp only [w1]
  by_cases hb : p ≠ -1 ∧ p < (i : Int)
  · rw [decide_eq_true hb] at hbh
    subst hbh
    rw [if_pos hb]
    unfold stR
    simp only [true_or, if_true]
  · rw [decide_eq_false hb] at hbh
    subst hbh
    rw [if_neg hb]
    unfold stW stR
    by_cases hz : 0 < c ∨ nb s i ≠ 48
    · have hz2 : 0 < c ∨ nb s i - 48 ≠ 0 := by omega
      simp only [Bool.false_eq_true, false_or, hz, hz2, if_true, if_false]
    · have hz2 : ¬ (0 < c ∨ nb s i - 48 ≠ 0) := by omega
      have c0 : c ≤ 15 := by omega
      simp only [Bool.false_eq_true, false_or, hz, hz2, if_true, if_false, c0]

theorem l5_point {R : Type} (rec : ByteArray × Int × Int × Int × Int × Int × Int × Int × Int × Int × Int × Unit → Option R) (k0 : ByteArray × Int × Int × Int × Int × Int × Int × Int × Int × Unit → Option R) (s : ByteArray) (f n c sc : Int) (i : Nat) (hs : s.size ≤ 900) (hi : i < s.size) :
    f208l5s 1000 rec k0 (s, f, (i : Int), n, c, sc, (i : Int), 0, 0, 0, 0, ()) = rec (s, f, (i : Int), n, c, sc, ((i + 1 : Nat) : Int), 0, 0, 0, 0, ()) := by
  have w1 : IntKind.i64.wrap ((i : Int) + 1) = ((i + 1 : Nat) : Int) := by rw [wi (by omega) (by omega)]; omega
  unfold f208l5s f208p4
  simp only []
  rw [bif_true (by simp; omega), bif_true (by simp), w1]

theorem l5_W {R : Type} (k0 : ByteArray × Int × Int × Int × Int × Int × Int × Int × Int × Unit → Option R) (s : ByteArray) (f p : Int) (hs : s.size ≤ 900) :
    ∀ (d i m K : Nat) (x : Int × Nat), K = m + d → (∀ j, i ≤ j → j < i + d → dgt s j = true ∧ ¬ (p ≠ -1 ∧ p < (j : Int)) ∧ p ≠ (j : Int)) → okx x → x.2 + d ≤ 900 →
      iterS (fun rec v => f208l5s 1000 rec k0 v) K (s, f, p, x.1, (x.2 : Int), ((0 : Nat) : Int), (i : Int), 0, 0, 0, 0, ()) = iterS (fun rec v => f208l5s 1000 rec k0 v) m (s, f, p, ((dgl s i d).foldl stW x).1, (((dgl s i d).foldl stW x).2 : Int), ((0 : Nat) : Int), ((i + d : Nat) : Int), 0, 0, 0, 0, ())
        ∧ okx ((dgl s i d).foldl stW x) ∧ ((dgl s i d).foldl stW x).2 ≤ x.2 + d := by
  intro d
  induction d with
  | zero => intro i m K x hK _ hx _; rw [hK]; exact ⟨rfl, hx, Nat.le_refl _⟩
  | succ d ih =>
    intro i m K x hK hj hx hc
    obtain ⟨h1, h2, h3⟩ := hj i (by omega) (by omega)
    obtain ⟨g0, g1, g2⟩ := dgt_iff.1 h1
    have hcnt : (stW x (nb s i - 48)).2 ≤ x.2 + 1 := by unfold stW stR; split <;> simp
    obtain ⟨e1, e2, e3⟩ := ih (i + 1) m (m + d) (stW x (nb s i - 48)) rfl (fun j a b => hj j (by omega) (by omega)) (okx_W hx (by omega) (by omega)) (by omega)
    rw [dgl_succ, List.foldl_cons]
    refine ⟨?_, e2, by omega⟩
    rw [show K = (m + d) + 1 by omega, t_iter, l5_step _ _ _ _ _ x 0 i hs h1 hx (by omega) (by omega) h3, if_neg h2, e1, show i + 1 + d = i + (d + 1) by omega]
theorem l5_R {R : Type} (k0 : ByteArray × Int × Int × Int × Int × Int × Int × Int × Int × Unit → Option R) (s : ByteArray) (f p : Int) (hs : s.size ≤ 900) :
    ∀ (d i m K sc : Nat) (x : Int × Nat), K = m + d → (∀ j, i ≤ j → j < i + d → dgt s j = true ∧ (p ≠ -1 ∧ p < (j : Int))) → okx x → x.2 + d ≤ 900 → sc + d ≤ 900 →
      iterS (fun rec v => f208l5s 1000 rec k0 v) K (s, f, p, x.1, (x.2 : Int), (sc : Int), (i : Int), 0, 0, 0, 0, ()) = iterS (fun rec v => f208l5s 1000 rec k0 v) m (s, f, p, ((dgl s i d).foldl stR x).1, (((dgl s i d).foldl stR x).2 : Int), ((sc + d : Nat) : Int), ((i + d : Nat) : Int), 0, 0, 0, 0, ())
        ∧ okx ((dgl s i d).foldl stR x) := by
  intro d
  induction d with
  | zero => intro i m K sc x hK _ hx _ _; rw [hK]; exact ⟨rfl, hx⟩
  | succ d ih =>
    intro i m K sc x hK hj hx hc hsc
    obtain ⟨h1, h2⟩ := hj i (by omega) (by omega)
    obtain ⟨g0, g1, g2⟩ := dgt_iff.1 h1
    have hcnt : (stR x (nb s i - 48)).2 = x.2 + 1 := rfl
    obtain ⟨e1, e2⟩ := ih (i + 1) m (m + d) (sc + 1) (stR x (nb s i - 48)) rfl (fun j a b => hj j (by omega) (by omega)) (okx_R hx (by omega) (by omega)) (by omega) (by omega)
    rw [dgl_succ, List.foldl_cons]
    refine ⟨?_, e2⟩
    rw [show K = (m + d) + 1 by omega, t_iter, l5_step _ _ _ _ _ x sc i hs h1 hx (by omega) (by omega) (by omega), if_pos h2, e1, show i + 1 + d = i + (d + 1) by omega, show sc + 1 + d = sc + (d + 1) by omega]
theorem l5_end {R : Type} (rec : ByteArray × Int × Int × Int × Int × Int × Int × Int × Int × Int × Int × Unit → Option R) (k0 : ByteArray × Int × Int × Int × Int × Int × Int × Int × Int × Unit → Option R) (s : ByteArray) (f p n c sc : Int) :
    f208l5s 1000 rec k0 (s, f, p, n, c, sc, (s.size : Int), 0, 0, 0, 0, ()) = k0 (s, f, n, c, sc, 0, 0, 0, 0, ()) := by
  unfold f208l5s
  rw [bif_false (by simp)]
end Go.Proofs.YtioagofpofamiaaDoor
/-! Plain laws: a number's text is read alike. -/
set_option linter.unusedVariables false
set_option linter.unusedSimpArgs false
namespace Go.Proofs.YtioagofpofamiaaDoor
open Go.Ab

theorem layS_inl {s : ByteArray} {a : Nat} {e : Int} (h : layS s = .inl (a, e)) : e = 8 ∨ e = 9 := by
  unfold layS at h
  split at h
  · cases h; split <;> simp
  split at h
  · cases h; exact .inl rfl
  split at h
  · cases h
  split at h
  · cases h; exact .inl rfl
  split at h
  · cases h; split <;> simp
  split at h
  · cases h; exact .inl rfl
  · cases h

theorem layS_inr {s : ByteArray} {f t : Nat} (h : layS s = .inr (f, t)) (h0 : 0 < s.size) : f = frm s ∧ f < t ∧ t ≤ s.size ∧ (∀ j, f ≤ j → j < t → dgt s j = true) ∧ (t = s.size ∨ (t + 1 < s.size ∧ nb s t = 46 ∧ ∀ j, t + 1 ≤ j → j < s.size → dgt s j = true)) := by
  have hf := frm_le h0
  unfold layS at h
  by_cases hd : dgt s (frm s) = true
  · rw [if_neg (by simp [hd])] at h
    obtain ⟨r1, r2, r3, r4⟩ := runE_spec s (s.size - frm s) (frm s) (by omega)
    have r5 : frm s < runE s (s.size - frm s) (frm s) := by
      have : runE s (s.size - frm s) (frm s) ≠ frm s := fun c => by rw [c, hd] at r4; exact absurd r4 (by decide)
      omega
    generalize runE s (s.size - frm s) (frm s) = E at *
    split at h
    · cases h
    split at h
    · rename_i hE
      cases h
      exact ⟨rfl, r5, r2, r3, .inl hE⟩
    split at h
    · cases h
    rename_i hE h46
    by_cases hd2 : dgt s (E + 1) = true
    · rw [if_neg (by simp [hd2])] at h
      obtain ⟨q1, q2, q3, q4⟩ := runE_spec s (s.size - (E + 1)) (E + 1) (by omega)
      have q5 := (dgt_iff.1 hd2).1
      split at h
      · cases h
      · rename_i hE2
        cases h
        exact ⟨rfl, r5, r2, r3, .inr ⟨q5, by simpa using h46, fun j a b => q3 j a (by omega)⟩⟩
    · have hd2' : dgt s (E + 1) = false := by simpa using hd2
      rw [if_pos hd2'] at h
      cases h
  · have hd' : dgt s (frm s) = false := by simpa using hd
    rw [if_pos hd'] at h
    cases h

theorem ib_none : ∀ {l : List UInt8} {c : UInt8}, (∀ x ∈ l, x ≠ c) → Lib.indexByte l c = -1
  | [], _, _ => rfl
  | b :: l, c, h => by
    have h1 : (b == c) = false := by simpa using h b (by simp)
    have h2 := ib_none (l := l) (c := c) (fun x hx => h x (by simp [hx]))
    unfold Lib.indexByte
    rw [h1, h2]
    rfl
theorem ib_some : ∀ {a b : List UInt8} {c : UInt8}, (∀ x ∈ a, x ≠ c) → Lib.indexByte (a ++ c :: b) c = a.length
  | [], b, c, _ => by unfold Lib.indexByte; simp
  | x :: a, b, c, h => by
    have h1 : (x == c) = false := by simpa using h x (by simp)
    have h2 := ib_some (a := a) (b := b) (c := c) (fun y hy => h y (by simp [hy]))
    rw [List.cons_append]
    unfold Lib.indexByte
    rw [h1, h2]
    simp

def toD (x : UInt8) : Int := (x.toNat : Int) - 48
theorem nb_at {s : ByteArray} {i : Nat} (h : i < s.data.toList.length) : nb s i = ((s.data.toList[i]).toNat : Int) := by
  unfold nb bytesOf
  rw [List.getD_eq_getElem?_getD, List.getElem?_map, List.getElem?_eq_getElem h]
  rfl
theorem dgl_list {s : ByteArray} {i d : Nat} (h : i + d ≤ s.size) : dgl s i d = ((s.data.toList.drop i).take d).map toD := by
  have hl : s.data.toList.length = s.size := rfl
  apply List.ext_getElem
  · rw [dgl_len]; simp; omega
  · intro j h1 h2
    have e : (dgl s i d)[j] = nb s (i + j) - 48 := by simp [dgl]
    have h3 := h1
    rw [dgl_len] at h3
    rw [e, List.getElem_map, List.getElem_take, List.getElem_drop, nb_at (by omega)]
    rfl
theorem drop_toD : ∀ l : List UInt8, (l.dropWhile (fun x => x == 48)).map toD = (l.map toD).dropWhile (fun d => d == 0)
  | [] => rfl
  | x :: l => by
    have e : (toD x == 0) = (x == 48) := by
      unfold toD
      by_cases h : x = 48
      · subst h; rfl
      · have h2 : (x == 48) = false := by simpa using h
        rw [h2]
        simp only [beq_eq_false_iff_ne, ne_eq]
        intro c
        apply h
        apply UInt8.toNat_inj.1
        show x.toNat = 48
        omega
    rw [List.map_cons, List.dropWhile_cons, List.dropWhile_cons, e]
    split
    · exact drop_toD l
    · rfl

/-- The digits behind leading zeros, and those behind the point. -/
def allD (s : ByteArray) (f t : Nat) : List Int := (dgl s f (t - f)).dropWhile (fun d => d == 0) ++ dgl s (t + 1) (s.size - (t + 1))

theorem ref_tail {s : ByteArray} {f t : Nat} (hs : s.size ≤ 40) (h1 : f < t) (h2 : t ≤ s.size) (h3 : ∀ j, f ≤ j → j < t → dgt s j = true) (h4 : t = s.size ∨ (t + 1 < s.size ∧ nb s t = 46 ∧ ∀ j, t + 1 ≤ j → j < s.size → dgt s j = true)) :
    f208l5 1000 k208 (s, (f : Int), (if t = s.size then -1 else (t : Int)), 0, 0, 0, (f : Int), 0, 0, 0, 0, ()) =
      if 15 < (allD s f t).length then some ((0, 0), (0, 19)) else some (((if f = 1 then -((allD s f t).foldl (fun a d => 10 * a + d) 0) else (allD s f t).foldl (fun a d => 10 * a + d) 0), ((s.size - (t + 1) : Nat) : Int)), ((s.size : Int), 0)) := by
  have fin : ∀ (x : Int × Nat), okx x → x = (allD s f t).foldl stR (0, 0) → k208 (s, (f : Int), x.1, (x.2 : Int), ((s.size - (t + 1) : Nat) : Int), 0, 0, 0, 0, ()) = if 15 < (allD s f t).length then some ((0, 0), (0, 19)) else some (((if f = 1 then -((allD s f t).foldl (fun a d => 10 * a + d) 0) else (allD s f t).foldl (fun a d => 10 * a + d) 0), ((s.size - (t + 1) : Nat) : Int)), ((s.size : Int), 0)) := by
    intro x hx e
    have c := foldR_count (allD s f t) (0, 0)
    have v := foldR_val (allD s f t) (0, 0)
    rw [← e] at c v
    simp only [Nat.zero_add] at c v
    obtain ⟨x0, x1⟩ := okx_le hx
    unfold k208
    simp only []
    by_cases h : 15 < (allD s f t).length
    · rw [if_pos h, bif_true (by simp; omega)]
    · rw [if_neg h, bif_false (by simp; omega)]
      have v' := v (by omega)
      rw [← v']
      unfold f208p6
      by_cases hf : f = 1
      · rw [bif_true (by simp [hf]), if_pos hf]
        simp only []
        rw [wi (by omega) (by omega), Int.zero_sub]
      · rw [bif_false (by simp; omega), if_neg hf]
  unfold f208l5
  have ok0 : okx (0, 0) := by unfold okx; simp
  rcases h4 with h4 | ⟨h4, h5, h6⟩
  · rw [if_pos h4]
    obtain ⟨e1, e2, e3⟩ := l5_W k208 s (f : Int) (-1) (by omega) (t - f) f ((999 - (t - f)) + 1) 1000 (0, 0) (by omega) (fun j a b => ⟨h3 j a (by omega), fun c => c.1 rfl, by omega⟩) ok0 (by simp only; omega)
    refine e1.trans ?_
    rw [show f + (t - f) = s.size by omega, t_iter, l5_end]
    have hA : allD s f t = (dgl s f (t - f)).dropWhile (fun d => d == 0) := by
      unfold allD
      rw [show s.size - (t + 1) = 0 by omega]
      simp [dgl]
    have := fin ((dgl s f (t - f)).foldl stW (0, 0)) e2 (by rw [hA, foldW_zero])
    rw [show s.size - (t + 1) = 0 by omega] at this ⊢
    exact this
  · rw [if_neg (by omega)]
    obtain ⟨e1, e2, e3⟩ := l5_W k208 s (f : Int) (t : Int) (by omega) (t - f) f ((999 - (t - f)) + 1) 1000 (0, 0) (by omega) (fun j a b => ⟨h3 j a (by omega), by omega, by omega⟩) ok0 (by simp only; omega)
    refine e1.trans ?_
    rw [show f + (t - f) = t by omega, t_iter, l5_point _ _ _ _ _ _ _ _ (by omega) (by omega)]
    simp only [Nat.zero_add] at e3
    obtain ⟨g1, g2⟩ := l5_R k208 s (f : Int) (t : Int) (by omega) (s.size - (t + 1)) (t + 1) ((998 - (t - f) - (s.size - (t + 1))) + 1) (999 - (t - f)) 0 ((dgl s f (t - f)).foldl stW (0, 0)) (by omega) (fun j a b => ⟨h6 j a (by omega), by omega, by omega⟩) e2 (by omega) (by omega)
    refine g1.trans ?_
    rw [show t + 1 + (s.size - (t + 1)) = s.size by omega, t_iter, l5_end, Nat.zero_add]
    exact fin _ g2 (by unfold allD; rw [foldW_zero, List.foldl_append])

theorem l7_go {R : Type} (k0 : ByteArray × Int × ByteArray × Int × Int × Int × Unit → Option R) (s r : ByteArray) (f : Int) (L : List Int) (hL : L.length ≤ 15) (hd : ∀ x ∈ L, 48 ≤ x ∧ x ≤ 57) :
    ∀ (d i K : Nat) (n : Int), L.length - i = d → i ≤ L.length → d < K → 0 ≤ n → n < 10 ^ i →
      iterS (fun rec v => f207l0s 1000 rec k0 v) K (s, f, r, n, (L.length : Int), (i : Int), 0, 0, L, ()) = k0 (s, f, r, ((L.drop i).map (fun x => x - 48)).foldl (fun a d => 10 * a + d) n, 0, 0, ()) := by
  intro d
  induction d with
  | zero =>
    intro i K n hi hle hK n0 n1
    obtain ⟨K, rfl⟩ : ∃ q, K = q + 1 := ⟨K - 1, by omega⟩
    have e : i = L.length := by omega
    subst e
    rw [t_iter]
    unfold f207l0s
    rw [bif_false (by simp), List.drop_length]
    rfl
  | succ d ih =>
    intro i K n hi hle hK n0 n1
    obtain ⟨K, rfl⟩ : ∃ q, K = q + 1 := ⟨K - 1, by omega⟩
    have hil : i < L.length := by omega
    obtain ⟨b0, b1⟩ := hd L[i] (List.getElem_mem hil)
    have p15 : (10 : Int) ^ i ≤ 1000000000000000 := by
      have h := Nat.pow_le_pow_right (n := 10) (i := i) (j := 15) (by decide) (by omega)
      have e1 : ((10 ^ i : Nat) : Int) = (10 : Int) ^ i := by simp
      rw [← e1]
      exact Int.ofNat_le.2 h
    have hg : L.getD i 0 = L[i] := by rw [List.getD_eq_getElem?_getD, List.getElem?_eq_getElem hil]; rfl
    have hst : ∀ (rec : ByteArray × Int × ByteArray × Int × Int × Int × Int × Int × List Int × Unit → Option R), f207l0s 1000 rec k0 (s, f, r, n, (L.length : Int), (i : Int), 0, 0, L, ()) = rec (s, f, r, 10 * n + (L[i] - 48), (L.length : Int), ((i + 1 : Nat) : Int), 0, 0, L, ()) := fun rec => by
      unfold f207l0s
      simp only [Int.toNat_natCast, hg]
      rw [bif_true (by simp; omega), bif_true (by simp; omega), wu8 (by omega) (by omega), wi (x := n * 10) (by omega) (by omega), wi (x := L[i] - 48) (by omega) (by omega), wi (by omega) (by omega), wi (by omega) (by omega), Int.mul_comm n 10]
      rfl
    rw [t_iter, hst, ih (i + 1) K _ (by omega) (by omega) (by omega) (by omega) (by rw [Int.pow_succ]; omega), List.drop_eq_getElem_cons hil, List.map_cons, List.foldl_cons]

theorem code_tail {s w r : ByteArray} {f t : Nat} (hs : s.size ≤ 40) (h1 : f < t) (h2 : t ≤ s.size) (h3 : ∀ j, f ≤ j → j < t → dgt s j = true) (h4 : t = s.size ∨ (t + 1 < s.size ∧ nb s t = 46 ∧ ∀ j, t + 1 ≤ j → j < s.size → dgt s j = true))
    (hw : w.data.toList = (s.data.toList.drop f).take (t - f)) (hr : r.data.toList = (s.data.toList.drop (t + 1)).take (s.size - (t + 1))) :
    (Option.bind (f223F 1000 (w, (⟨#[48]⟩ : ByteArray))) fun y6 =>
  bif (decide (y6.size + r.size ≤ 9223372036854775807)) then
  bif (decide (((y6 ++ r).size : Int) > (15 : Int))) then
    some (((0 : Int), (0 : Int)), (0 : Int), (19 : Int))
  else
  bif (decide ((y6 ++ r).size ≤ 9223372036854775807)) then
  f207l0 1000
    (fun (w9 : ByteArray × Int × ByteArray × Int × Int × Int × Unit) =>
      f207p1 1000
        (fun (w10 : ByteArray × Int × ByteArray × Int × Int × Int × Unit) =>
          some ((w10.2.2.2.1, (w10.2.2.1.size : Int)), (w10.1.size : Int), (0 : Int)))
        (w9.1, w9.2.1, w9.2.2.1, w9.2.2.2.1, w9.2.2.2.2.1, w9.2.2.2.2.2.1, ()))
    (s, (f : Int), r, (0 : Int), ((bytesOf (y6 ++ r)).length : Int), (0 : Int), (0 : Int), (0 : Int), (bytesOf (y6 ++ r)), ())
  else none
  else none) = if 15 < (allD s f t).length then some ((0, 0), 0, 19) else some (((if f = 1 then -((allD s f t).foldl (fun a d => 10 * a + d) 0) else (allD s f t).foldl (fun a d => 10 * a + d) 0), ((s.size - (t + 1) : Nat) : Int)), (s.size : Int), 0) := by
  have hBl : s.data.toList.length = s.size := rfl
  have h223 : f223F 1000 (w, (⟨#[48]⟩ : ByteArray)) = some ⟨(Lib.trimLeftB w.data.toList 48).toArray⟩ := rfl
  rw [h223, bind_some']
  have hsz : ∀ a : ByteArray, a.size = a.data.toList.length := fun _ => rfl
  have happ : ((⟨(Lib.trimLeftB w.data.toList 48).toArray⟩ : ByteArray) ++ r).data.toList = Lib.trimLeftB w.data.toList 48 ++ r.data.toList := by simp
  have hrs : r.size = s.size - (t + 1) := by rw [hsz, hr, List.length_take, List.length_drop, hBl]; omega
  -- the digits of all
  have hAll : (bytesOf ((⟨(Lib.trimLeftB w.data.toList 48).toArray⟩ : ByteArray) ++ r)).map (fun x => x - 48) = allD s f t := by
    unfold bytesOf
    rw [happ, List.map_map]
    have e : ((fun x : Int => x - 48) ∘ fun b : UInt8 => (b.toNat : Int)) = toD := by funext x; rfl
    rw [e, List.map_append]
    unfold allD Lib.trimLeftB
    have hR : dgl s (t + 1) (s.size - (t + 1)) = ((s.data.toList.drop (t + 1)).take (s.size - (t + 1))).map toD := by
      by_cases ht : t = s.size
      · rw [show s.size - (t + 1) = 0 by omega]; simp [dgl]
      · exact dgl_list (by omega)
    rw [drop_toD, hw, hr, dgl_list (by omega), hR]
  have hlen : (bytesOf ((⟨(Lib.trimLeftB w.data.toList 48).toArray⟩ : ByteArray) ++ r)).length = (allD s f t).length := by rw [← hAll, List.length_map]
  have hsize : ((⟨(Lib.trimLeftB w.data.toList 48).toArray⟩ : ByteArray) ++ r).size = (allD s f t).length := by rw [← hlen, t_len]
  have hal : (allD s f t).length ≤ 100 := by
    unfold allD
    rw [List.length_append, dgl_len]
    have := (List.dropWhile_sublist (fun d : Int => d == 0) (l := dgl s f (t - f))).length_le
    rw [dgl_len] at this
    omega
  have hts : (⟨(Lib.trimLeftB w.data.toList 48).toArray⟩ : ByteArray).size ≤ 1000 := by
    have : (⟨(Lib.trimLeftB w.data.toList 48).toArray⟩ : ByteArray).size = (Lib.trimLeftB w.data.toList 48).length := rfl
    rw [this]
    have h5 := (List.dropWhile_sublist (fun x : UInt8 => x == 48) (l := w.data.toList)).length_le
    unfold Lib.trimLeftB
    rw [hw] at h5 ⊢
    have : ((s.data.toList.drop f).take (t - f)).length ≤ s.size := by rw [List.length_take, List.length_drop, hBl]; omega
    omega
  rw [bif_true (by rw [hrs]; simp; omega)]
  by_cases h : 15 < (allD s f t).length
  · rw [if_pos h, bif_true (by rw [hsize]; simp; omega)]
  · rw [if_neg h, bif_false (by rw [hsize]; simp; omega), bif_true (by rw [hsize]; simp; omega)]
    have hmem : ∀ x ∈ bytesOf ((⟨(Lib.trimLeftB w.data.toList 48).toArray⟩ : ByteArray) ++ r), 48 ≤ x ∧ x ≤ 57 := by
      intro x hx
      have hx2 : x - 48 ∈ allD s f t := by rw [← hAll]; exact List.mem_map_of_mem hx
      unfold allD at hx2
      have hdg : ∀ i d, (∀ j, i ≤ j → j < i + d → dgt s j = true) → ∀ y ∈ dgl s i d, 0 ≤ y ∧ y ≤ 9 := by
        intro i d hj y hy
        unfold dgl at hy
        obtain ⟨j, hj1, rfl⟩ := List.mem_map.1 hy
        obtain ⟨q, hq, rfl⟩ := List.mem_range'.1 hj1
        have := dgt_iff.1 (hj (i + 1 * q) (by omega) (by omega))
        omega
      rcases List.mem_append.1 hx2 with h5 | h5
      · have := hdg f (t - f) (fun j a b => h3 j a (by omega)) _ ((List.dropWhile_sublist _).mem h5)
        omega
      · rcases h4 with h4 | ⟨h4, _, h6⟩
        · rw [show s.size - (t + 1) = 0 by omega] at h5
          simp [dgl] at h5
        · have := hdg (t + 1) (s.size - (t + 1)) (fun j a b => h6 j a (by omega)) _ h5
          omega
    unfold f207l0
    have go := l7_go (fun (w9 : ByteArray × Int × ByteArray × Int × Int × Int × Unit) =>
      f207p1 1000
        (fun (w10 : ByteArray × Int × ByteArray × Int × Int × Int × Unit) =>
          some ((w10.2.2.2.1, (w10.2.2.1.size : Int)), (w10.1.size : Int), (0 : Int)))
        (w9.1, w9.2.1, w9.2.2.1, w9.2.2.2.1, w9.2.2.2.2.1, w9.2.2.2.2.2.1, ())) s r (f : Int) _ (by rw [hlen]; omega) hmem (allD s f t).length 0 1000 0 (by rw [hlen]; omega) (by omega) (by omega) (by decide) (by decide)
    rw [List.drop_zero, hAll] at go
    refine go.trans ?_
    have hV := foldR_val (allD s f t) (0, 0) (by simp only; omega)
    simp only [] at hV
    have hVb : 0 ≤ (allD s f t).foldl (fun a d => 10 * a + d) 0 ∧ (allD s f t).foldl (fun a d => 10 * a + d) 0 < 1000000000000000 := by
      rw [← hV]
      have hok : ∀ (l : List Int) (x : Int × Nat), (∀ y ∈ l, 0 ≤ y ∧ y ≤ 9) → okx x → okx (l.foldl stR x) := by
        intro l
        induction l with
        | nil => intro x _ hx; exact hx
        | cons y l ih =>
          intro x hy hx
          rw [List.foldl_cons]
          exact ih _ (fun z hz => hy z (by simp [hz])) (okx_R hx (hy y (by simp)).1 (hy y (by simp)).2)
      refine okx_le (hok (allD s f t) (0, 0) (fun y hy => ?_) (by unfold okx; simp))
      rw [← hAll] at hy
      obtain ⟨z, hz, rfl⟩ := List.mem_map.1 hy
      have := hmem z hz
      omega
    generalize (allD s f t).foldl (fun a d => 10 * a + d) 0 = V at *
    unfold f207p1
    by_cases hf : f = 1
    · rw [bif_true (by simp [hf]), if_pos hf]
      simp only []
      rw [wi (by omega) (by omega), Int.zero_sub, hrs]
    · rw [bif_false (by simp; omega), if_neg hf]
      simp only []
      rw [hrs]

theorem f207c {s : ByteArray} {f t : Nat} (h0 : 0 < s.size) (hs : s.size ≤ 40) (hl : layS s = .inr (f, t)) :
    f207F 1000 s = if 15 < (allD s f t).length then some ((0, 0), 0, 19) else some (((if f = 1 then -((allD s f t).foldl (fun a d => 10 * a + d) 0) else (allD s f t).foldl (fun a d => 10 * a + d) 0), ((s.size - (t + 1) : Nat) : Int)), (s.size : Int), 0) := by
  have hBl : s.data.toList.length = s.size := rfl
  have hne : strEq s ByteArray.empty = false := by
    cases h : strEq s ByteArray.empty with
    | false => rfl
    | true =>
      have := strEq_iff.1 h
      subst this
      exact absurd h0 (by decide)
  unfold f207F
  simp only [t43, t42, bind_some', hne]
  rw [decide_eq_false (by omega : ¬ (s.size : Int) > 40), bif_false (by rfl), f221q h0 (by omega), bind_some', hl]
  obtain ⟨e1, h1, h2, h3, h4⟩ := layS_inr hl h0
  simp only [bne_self_eq_false, cond_false, Int.toNat_natCast]
  rw [bif_true (by unfold sliceBds; simp; omega)]
  -- the text cut at its point
  have hX : (s.extract f s.size).data.toList = s.data.toList.drop f := by
    rw [Lib.extract_data, List.take_of_length_le (by rw [List.length_drop, hBl]; omega)]
  have hXs : (s.extract f s.size).size = s.size - f := by
    show (s.extract f s.size).data.toList.length = _
    rw [hX, List.length_drop, hBl]
  have no46 : ∀ i d, i + d ≤ s.size → (∀ j, i ≤ j → j < i + d → dgt s j = true) → ∀ x ∈ (s.data.toList.drop i).take d, x ≠ 46 := by
    intro i d hid hj x hx
    obtain ⟨q, hq, rfl⟩ := List.getElem_of_mem hx
    have hq' : q < d := by have := hq; simp at this; omega
    rw [List.getElem_take, List.getElem_drop]
    have hd := (dgt_iff.1 (hj (i + q) (by omega) (by omega))).2
    rw [nb_at (by omega)] at hd
    intro c
    rw [c] at hd
    exact absurd hd.1 (by decide)
  have cut : ∃ w r b, f222F 1000 ((s.extract f s.size), (⟨#[46]⟩ : ByteArray)) = some (w, r, b) ∧ w.data.toList = (s.data.toList.drop f).take (t - f) ∧ r.data.toList = (s.data.toList.drop (t + 1)).take (s.size - (t + 1)) := by
    have h261 : f261F 1000 ((s.extract f s.size), (⟨#[46]⟩ : ByteArray)) = some (Lib.indexByte (s.data.toList.drop f) 46) := by
      unfold f261F
      simp only []
      rw [hX]
    unfold f222F f242F
    simp only [h261, bind_some']
    rcases h4 with h4 | ⟨h4, h5, h6⟩
    · have hi : Lib.indexByte (s.data.toList.drop f) 46 = -1 := ib_none (fun x hx => no46 f (t - f) (by omega) (fun j a b => h3 j a (by omega)) x (by rw [List.take_of_length_le (by rw [List.length_drop, hBl]; omega)]; exact hx))
      rw [hi, bif_false (by rfl)]
      refine ⟨_, _, _, rfl, ?_, ?_⟩
      · rw [hX, List.take_of_length_le (by rw [List.length_drop, hBl]; omega)]
      · rw [show s.size - (t + 1) = 0 by omega, List.take_zero]; rfl
    · have hsplit : s.data.toList.drop f = (s.data.toList.drop f).take (t - f) ++ (46 : UInt8) :: s.data.toList.drop (t + 1) := by
        have hB : s.data.toList[t]'(by omega) = (46 : UInt8) := by
          have := nb_at (s := s) (i := t) (by omega)
          rw [h5] at this
          apply UInt8.toNat_inj.1
          show _ = 46
          omega
        have e : s.data.toList.drop f = (s.data.toList.drop f).take (t - f) ++ (s.data.toList.drop f).drop (t - f) := (List.take_append_drop _ _).symm
        rw [List.drop_drop, show f + (t - f) = t by omega, List.drop_eq_getElem_cons (i := t) (by omega), hB] at e
        exact e
      have hi : Lib.indexByte (s.data.toList.drop f) 46 = ((t - f : Nat) : Int) := by
        rw [hsplit, ib_some (no46 f (t - f) (by omega) (fun j a b => h3 j a (by omega)))]
        simp
        omega
      have hone : ((⟨#[46]⟩ : ByteArray).size : Int) = 1 := rfl
      rw [hi, hone, bif_true (by simp)]
      have w1 : IntKind.i64.wrap (((t - f : Nat) : Int) + 1) = ((t - f + 1 : Nat) : Int) := by rw [wi (by omega) (by omega)]; omega
      rw [w1, bif_true (by unfold sliceBds; rw [hXs]; simp; omega), bif_true (by unfold sliceBds; rw [hXs]; simp; omega)]
      refine ⟨_, _, _, rfl, ?_, ?_⟩
      · rw [Lib.extract_data, hX, Int.toNat_natCast, List.drop_zero, Nat.sub_zero]
      · rw [Lib.extract_data, hX, Int.toNat_natCast, Int.toNat_natCast, List.drop_drop, hXs]
        congr 1
        · omega
        · congr 1; omega
  obtain ⟨w, r, b, hc, hw, hr⟩ := cut
  rw [hc, bind_some']
  have ct := code_tail hs h1 h2 h3 h4 hw hr
  simp only [] at ct ⊢
  exact ct

theorem f207q {s : ByteArray} (h0 : 0 < s.size) (hs : s.size ≤ 40) : ∃ r : (Int × Int) × Int × Int, f207F 1000 s = some r ∧ f208F 1000 s = some r := by
  have hne : strEq s ByteArray.empty = false := by
    cases h : strEq s ByteArray.empty with
    | false => rfl
    | true =>
      have := strEq_iff.1 h
      subst this
      exact absurd h0 (by decide)
  rw [f208q h0 hs]
  cases hl : layS s with
  | inl p =>
    obtain ⟨a, e⟩ := p
    unfold f207F
    simp only [t43, t42, bind_some', hne]
    rw [decide_eq_false (by omega : ¬ (s.size : Int) > 40), bif_false (by rfl), f221q h0 (by omega), bind_some', hl]
    simp only []
    have he : (e != 0) = true := by rcases layS_inl hl with h | h <;> rw [h] <;> rfl
    rw [he]
    exact ⟨_, rfl, rfl⟩
  | inr p =>
    obtain ⟨f, t⟩ := p
    obtain ⟨e1, h1, h2, h3, h4⟩ := layS_inr hl h0
    rw [f207c h0 hs hl]
    simp only []
    rw [ref_tail hs h1 h2 h3 h4]
    split
    · exact ⟨_, rfl, rfl⟩
    · exact ⟨_, rfl, rfl⟩

theorem texts (s : ByteArray) : f203F 1000 s = some true := by
  unfold f203F
  rw [t_awake, bind_some']
  simp only [Bool.not_true, cond_false]
  by_cases h100 : (s.size : Int) > 100
  · rw [bif_true (by simpa using h100)]
  rw [bif_false (by simpa using h100)]
  have fin : ∀ r : (Int × Int) × Int × Int, f207F 1000 s = some r → f208F 1000 s = some r → (Option.bind (f207F 1000 s) fun y2 => Option.bind (f208F 1000 s) fun y3 =>
      bif (y2.2.2 == y3.2.2) then bif (y2.2.1 == y3.2.1) then some ((y2.1.1 == y3.1.1) && ((y2.1.2 == y3.1.2) && true)) else some false else some false) = some true := by
    intro r h1 h2
    rw [h1, h2]
    simp
  by_cases h40 : s.size ≤ 40
  · by_cases h0 : 0 < s.size
    · obtain ⟨r, h1, h2⟩ := f207q h0 h40
      exact fin r h1 h2
    · have he : s = ByteArray.empty := by
        cases s with
        | mk d =>
          congr
          apply Array.eq_empty_of_size_eq_zero
          have : (ByteArray.mk d).size = d.size := rfl
          omega
      subst he
      refine fin ((0, 0), 0, 1) ?_ ?_
      · unfold f207F
        simp only [t43, t42, bind_some', strEq_self]
        rw [decide_eq_false (by decide)]
        rfl
      · unfold f208F
        rw [bif_false (by decide), strEq_self]
        rfl
  · refine fin ((0, 0), 0, 2) ?_ ?_
    · unfold f207F
      simp only [t43, t42, bind_some']
      rw [decide_eq_true (by omega : (s.size : Int) > 40)]
      rfl
    · unfold f208F
      rw [bif_true (by simp; omega)]
end Go.Proofs.YtioagofpofamiaaDoor
/-! Plain laws: numbers as texts, and their order. -/
set_option linter.unusedVariables false
set_option linter.unusedSimpArgs false
namespace Go.Proofs.YtioagofpofamiaaDoor
open Go.Ab

/-- A number's decimal numeral, as a string. -/
def decS (u : Nat) : ByteArray := ⟨(Lib.decDigits u).toArray⟩
theorem decS_list (u : Nat) : (decS u).data.toList = Lib.decDigits u := by simp [decS]
theorem decS_len : ∀ (n u : Nat), u < 10 ^ (n + 1) → (Lib.decDigits u).length ≤ n + 1
  | 0, u, h => by
    have h : u < 10 := by simpa using h
    rw [Lib.decDigits, dif_pos h]; simp
  | n + 1, u, h => by
    by_cases hu : u < 10
    · rw [Lib.decDigits, dif_pos hu]; simp
    · rw [Lib.decDigits, dif_neg hu]
      have := decS_len n (u / 10) (by rw [Nat.pow_succ] at h; omega)
      simp
      omega
theorem decS_size {u : Nat} (h : u ≤ 999999999999999) : (decS u).size ≤ 15 := by
  have : (decS u).size = (Lib.decDigits u).length := by
    have e : (decS u).size = (decS u).data.toList.length := rfl
    rw [e, decS_list]
  rw [this]
  exact decS_len 14 u (by omega)

theorem ba_ext' {a b : ByteArray} (h : a.data.toList = b.data.toList) : a = b := by
  cases a; cases b
  congr
  exact Array.ext' h

theorem dig_byte {d : Nat} (h : d < 10) : strOfNums [IntKind.u8.wrap (IntKind.i64.wrap (48 + (d : Int)))] = ⟨#[UInt8.ofNat (48 + d)]⟩ := by
  rw [wi (by omega) (by omega), wu8 (by omega) (by omega)]
  apply ba_ext'
  rw [strOfNums_data]
  simp only [List.map_cons, List.map_nil]
  rw [show ((48 : Int) + (d : Int)).toNat = 48 + d by omega]

theorem f233q : ∀ (n u : Nat), u < 10 ^ (n + 1) → n ≤ 17 → f233R 1000 (n + 1) (u : Int) = some (decS u) := by
  intro n
  induction n with
  | zero =>
    intro u h _
    have h : u < 10 := by simpa using h
    show f233G 1000 (f233R 1000 0) (u : Int) = _
    unfold f233G
    rw [bif_false (by first | (simp; done) | (simp; omega)), bif_false (by simp), bif_true (by first | (simp; done) | (simp; omega)), dig_byte h]
    congr 1
    apply ba_ext'
    rw [decS_list, Lib.decDigits, dif_pos h]
  | succ n ih =>
    intro u h hn
    have hb : u ≤ 9999999999999999999 := by
      have : 10 ^ (n + 1 + 1) ≤ 10 ^ 19 := Nat.pow_le_pow_right (by decide) (by omega)
      omega
    have hb2 : u ≤ 9223372036854775807 ∨ 9223372036854775807 < u := by omega
    show f233G 1000 (f233R 1000 (n + 1)) (u : Int) = _
    unfold f233G
    by_cases hu : u < 10
    · rw [bif_false (by first | (simp; done) | (simp; omega)), bif_false (by simp), bif_true (by first | (simp; done) | (simp; omega)), dig_byte hu]
      congr 1
      apply ba_ext'
      rw [decS_list, Lib.decDigits, dif_pos hu]
    · rw [bif_false (by first | (simp; done) | (simp; omega)), bif_false (by simp), bif_false (by first | (simp; done) | (simp; omega))]
      have e1 : Int.tdiv (u : Int) 10 = ((u / 10 : Nat) : Int) := by simp [Int.tdiv]
      have e2 : Int.tmod (u : Int) 10 = ((u % 10 : Nat) : Int) := by simp [Int.tmod]
      have hl := decS_len n (u / 10) (by rw [Nat.pow_succ] at h; omega)
      have hs : (decS (u / 10)).size ≤ 100 := by
        have e : (decS (u / 10)).size = (decS (u / 10)).data.toList.length := rfl
        rw [e, decS_list]; omega
      rw [e1, e2, wi (by omega) (by omega), ih (u / 10) (by rw [Nat.pow_succ] at h; omega) (by omega), bind_some']
      have hdig := dig_byte (d := u % 10) (Nat.mod_lt _ (by decide))
      simp only [hdig]
      have h1 : (⟨#[UInt8.ofNat (48 + u % 10)]⟩ : ByteArray).size = 1 := rfl
      simp only [h1]
      rw [bif_true (by first | (simp; done) | (simp; omega))]
      congr 1
      apply ba_ext'
      rw [decS_list, Lib.decDigits, dif_neg hu]
      have : (decS (u / 10) ++ (⟨#[UInt8.ofNat (48 + u % 10)]⟩ : ByteArray)).data.toList = (decS (u / 10)).data.toList ++ [UInt8.ofNat (48 + u % 10)] := by simp
      rw [this, decS_list]
theorem f233n {u : Nat} (h : u ≤ 999999999999999) : f233F 1000 (u : Int) = some (decS u) := by
  have mono : ∀ (m n : Nat) (x : Int) (y : ByteArray), f233R 1000 n x = some y → n ≤ m → f233R 1000 m x = some y := by
    intro m
    induction m with
    | zero =>
      intro n x y hx hn
      have : n = 0 := by omega
      subst this
      exact hx
    | succ m ih =>
      intro n x y hx hn
      cases n with
      | zero => cases hx
      | succ n =>
        have hx : f233G 1000 (f233R 1000 n) x = some y := hx
        show f233G 1000 (f233R 1000 m) x = some y
        unfold f233G at hx ⊢
        have step : ∀ (z : Int) (g : ByteArray → Option ByteArray), Option.bind (f233R 1000 n z) g = some y → Option.bind (f233R 1000 m z) g = some y := by
          intro z g hg
          obtain ⟨v, hv, hg'⟩ := Option.bind_eq_some_iff.1 hg
          rw [ih n z v hv (by omega)]
          exact hg'
        by_cases c1 : x < -9
        · rw [bif_true (by simpa using c1)] at hx ⊢
          obtain ⟨v, hv, hg'⟩ := Option.bind_eq_some_iff.1 hx
          rw [ih n _ v hv (by omega), bind_some']
          by_cases c2 : (⟨#[45]⟩ : ByteArray).size + v.size ≤ 9223372036854775807
          · rw [bif_true (by simpa using c2)] at hg' ⊢
            exact step _ _ hg'
          · rw [bif_false (by simpa using c2)] at hg'
            cases hg'
        · rw [bif_false (by simpa using c1)] at hx ⊢
          by_cases c2 : x < 0
          · rw [bif_true (by simpa using c2)] at hx ⊢
            exact step _ _ hx
          · rw [bif_false (by simpa using c2)] at hx ⊢
            by_cases c3 : x < 10
            · rw [bif_true (by simpa using c3)] at hx ⊢
              exact hx
            · rw [bif_false (by simpa using c3)] at hx ⊢
              exact step _ _ hx
  exact mono 1000 (14 + 1) _ _ (f233q 14 u (by omega) (by decide)) (by decide)
theorem f228n {u : Nat} (h : u ≤ 999999999999999) : f228F 1000 (u : Int) = some (decS u) := by
  unfold f228F
  rw [bif_true (by first | (simp; done) | (simp; omega))]
  congr 1

/-- Copies of a byte. -/
def copies (c n : Nat) : ByteArray := strOfNums (List.replicate n (c : Int))
theorem f73q {c : UInt8} {n : Nat} (hn : n ≤ 900) : f73F 1000 ((⟨#[c]⟩ : ByteArray), (n : Int)) = some (copies c.toNat n) := by
  unfold f73F copies
  have hs : ((⟨#[c]⟩ : ByteArray).size : Int) = 1 := rfl
  simp only [hs]
  rw [bif_true (by first | (simp; done) | (simp; omega)), Int.toNat_natCast]
  congr 1
  have h := Lib.repeatL_replicate c 1 n
  have h : Lib.repeatL [c] n = List.replicate n c := by rw [Nat.mul_one] at h; exact h
  show (⟨(Lib.repeatL [c] n).toArray⟩ : ByteArray) = _
  rw [h]
  unfold strOfNums
  congr 1
  rw [List.map_replicate, Int.toNat_natCast, UInt8.ofNat_toNat]
theorem copies_size (c n : Nat) : (copies c n).size = n := by unfold copies; rw [strOfNums_size]; simp
theorem app_size (a b : ByteArray) : (a ++ b).size = a.size + b.size := by
  have e : ∀ x : ByteArray, x.size = x.data.toList.length := fun _ => rfl
  rw [e, e, e]
  simp
theorem copies_succ (n : Nat) (s : ByteArray) : copies 48 n ++ ((⟨#[48]⟩ : ByteArray) ++ s) = copies 48 (n + 1) ++ s := by
  apply ba_ext'
  have a : ∀ x y : ByteArray, (x ++ y).data.toList = x.data.toList ++ y.data.toList := fun x y => by simp
  rw [a, a, a]
  unfold copies
  rw [strOfNums_data, strOfNums_data, List.map_replicate, List.map_replicate, List.replicate_succ']
  simp only [List.append_assoc]
  rfl

/-- Zeros ahead of a numeral. -/
def padS (s : ByteArray) (sc : Nat) : ByteArray := copies 48 (sc + 1 - s.size) ++ s
theorem pad_ref {R : Type} (k0 : ByteArray × Int × Int × Unit → Option R) (n : Int) (sc : Nat) (hsc : sc ≤ 100) : ∀ (d K : Nat) (s : ByteArray), sc + 1 - s.size = d → d < K → s.size ≤ 200 →
    iterS (fun rec v => f214l0s 1000 rec k0 v) K (s, n, (sc : Int), ()) = k0 (padS s sc, n, (sc : Int), ()) := by
  intro d
  induction d with
  | zero =>
    intro K s h hK hs
    obtain ⟨K, rfl⟩ : ∃ q, K = q + 1 := ⟨K - 1, by omega⟩
    rw [iter_one]
    unfold f214l0s
    rw [bif_false (by first | (simp; done) | (simp; omega))]
    unfold padS
    rw [h]
    have : copies 48 0 ++ s = s := by
      apply ba_ext'
      simp [copies, strOfNums]
    rw [this]
  | succ d ih =>
    intro K s h hK hs
    obtain ⟨K, rfl⟩ : ∃ q, K = q + 1 := ⟨K - 1, by omega⟩
    have h1 : (⟨#[48]⟩ : ByteArray).size = 1 := rfl
    have hst : ∀ rec : ByteArray × Int × Int × Unit → Option R, f214l0s 1000 rec k0 (s, n, (sc : Int), ()) = rec ((⟨#[48]⟩ : ByteArray) ++ s, n, (sc : Int), ()) := fun rec => by
      unfold f214l0s
      simp only [h1]
      rw [bif_true (by first | (simp; done) | (simp; omega)), bif_true (by first | (simp; done) | (simp; omega))]
    rw [iter_one, hst, ih K _ (by rw [app_size, h1]; omega) (by omega) (by rw [app_size, h1]; omega)]
    unfold padS
    rw [copies_succ, app_size, h1, show sc + 1 - (1 + s.size) + 1 = sc + 1 - s.size by omega]
theorem pad_code {R : Type} (k0 : ByteArray × Int × Int × Unit → Option R) (n : Int) (sc : Nat) (s : ByteArray) (hsc : sc ≤ 100) (hs : s.size ≤ 200) :
    f210p0 1000 k0 (s, n, (sc : Int), ()) = k0 (padS s sc, n, (sc : Int), ()) := by
  unfold f210p0
  simp only []
  by_cases h : s.size ≤ sc
  · have w : IntKind.i64.wrap (IntKind.i64.wrap ((sc : Int) + 1) - (s.size : Int)) = ((sc + 1 - s.size : Nat) : Int) := by rw [wi (x := (sc : Int) + 1) (by omega) (by omega), wi (by omega) (by omega)]; omega
    have h73 : f73F 1000 ((⟨#[48]⟩ : ByteArray), ((sc + 1 - s.size : Nat) : Int)) = some (copies 48 (sc + 1 - s.size)) := f73q (c := 48) (by omega)
    rw [bif_true (by first | (simp; done) | (simp; omega)), w, h73, bind_some', bif_true (by rw [copies_size]; simp; omega)]
    rfl
  · rw [bif_false (by first | (simp; done) | (simp; omega))]
    unfold padS
    rw [show sc + 1 - s.size = 0 by omega]
    have : copies 48 0 ++ s = s := by
      apply ba_ext'
      simp [copies, strOfNums]
    rw [this]

/-- The point in a numeral. -/
def ptS (s : ByteArray) (sc : Nat) : ByteArray := if 0 < sc then (s.extract 0 (s.size - sc) ++ (⟨#[46]⟩ : ByteArray)) ++ s.extract (s.size - sc) s.size else s
theorem ext_size (s : ByteArray) (i j : Nat) (h : j ≤ s.size) : (s.extract i j).size = j - i := by
  have e : ∀ x : ByteArray, x.size = x.data.toList.length := fun _ => rfl
  rw [e, Lib.extract_data, List.length_take, List.length_drop, ← e]
  omega
theorem pt_code {R : Type} (k0 : ByteArray × Int × Int × Unit → Option R) (n : Int) (sc : Nat) (s : ByteArray) (hsc : sc ≤ s.size) (hs : s.size ≤ 400) :
    f210p1 1000 k0 (s, n, (sc : Int), ()) = k0 (ptS s sc, n, (sc : Int), ()) := by
  unfold f210p1 ptS
  have w : IntKind.i64.wrap ((s.size : Int) - (sc : Int)) = ((s.size - sc : Nat) : Int) := by rw [wi (by omega) (by omega)]; omega
  have h1 : (⟨#[46]⟩ : ByteArray).size = 1 := rfl
  simp only [w, Int.toNat_natCast]
  by_cases h : 0 < sc
  · rw [if_pos h, bif_true (by first | (simp; done) | (simp; omega)), bif_true (by unfold sliceBds; first | (simp; done) | (simp; omega)), bif_true (by rw [ext_size _ _ _ (by omega), h1]; simp; omega), bif_true (by unfold sliceBds; first | (simp; done) | (simp; omega)), bif_true (by rw [app_size, ext_size _ _ _ (by omega), ext_size _ _ _ (by omega), h1]; simp; omega)]
  · rw [if_neg h, bif_false (by first | (simp; done) | (simp; omega))]
theorem pt_ref {R : Type} (k0 : ByteArray × Int × Int × Unit → Option R) (n : Int) (sc : Nat) (s : ByteArray) (hsc : sc ≤ s.size) (hs : s.size ≤ 400) :
    f214p1 1000 k0 (s, n, (sc : Int), ()) = k0 (ptS s sc, n, (sc : Int), ()) := by
  unfold f214p1 ptS
  have w : IntKind.i64.wrap ((s.size : Int) - (sc : Int)) = ((s.size - sc : Nat) : Int) := by rw [wi (by omega) (by omega)]; omega
  have h1 : (⟨#[46]⟩ : ByteArray).size = 1 := rfl
  simp only [w, Int.toNat_natCast]
  by_cases h : 0 < sc
  · rw [if_pos h, bif_true (by first | (simp; done) | (simp; omega)), bif_true (by unfold sliceBds; first | (simp; done) | (simp; omega)), bif_true (by rw [ext_size _ _ _ (by omega), h1]; simp; omega), bif_true (by unfold sliceBds; first | (simp; done) | (simp; omega)), bif_true (by rw [app_size, ext_size _ _ _ (by omega), ext_size _ _ _ (by omega), h1]; simp; omega)]
  · rw [if_neg h, bif_false (by first | (simp; done) | (simp; omega))]

/-- A number's text. -/
def txtS (n : Int) (sc : Nat) : ByteArray := if n < 0 then (⟨#[45]⟩ : ByteArray) ++ ptS (padS (decS n.natAbs) sc) sc else ptS (padS (decS n.natAbs) sc) sc
theorem pad_size (s : ByteArray) (sc : Nat) : sc + 1 ≤ (padS s sc).size ∧ (padS s sc).size ≤ sc + 1 + s.size := by
  unfold padS
  rw [app_size, copies_size]
  omega
theorem pt_size (s : ByteArray) (sc : Nat) (h : sc ≤ s.size) : (ptS s sc).size ≤ s.size + 1 := by
  unfold ptS
  split
  · rw [app_size, app_size, ext_size _ _ _ (by omega), ext_size _ _ _ (by omega)]
    have h1 : (⟨#[46]⟩ : ByteArray).size = 1 := rfl
    omega
  · omega

theorem f210q {n s : Int} (h : numErr n s = 0) : f210F 1000 (n, s) = some (txtS n s.toNat, 0) := by
  have c := numErr_ok h
  obtain ⟨S, rfl⟩ : ∃ S : Nat, s = S := ⟨s.toNat, by omega⟩
  have hm : mxI n (IntKind.i64.wrap (0 - n)) = (n.natAbs : Int) := by
    rw [mx_abs (by omega) (by omega)]
    split <;> omega
  have hd := decS_size (u := n.natAbs) (by omega)
  have p1 := pad_size (decS n.natAbs) S
  have p2 := pt_size (padS (decS n.natAbs) S) S (by omega)
  have h1 : (⟨#[45]⟩ : ByteArray).size = 1 := rfl
  unfold f210F
  simp only [f52q, h, bind_some', bne_self_eq_false, cond_false, hm]
  rw [f228n (by omega), bind_some', pad_code _ _ _ _ (by omega) (by omega)]
  simp only []
  rw [pt_code _ _ _ _ (by omega) (by omega)]
  unfold f210p2 txtS
  rw [Int.toNat_natCast]
  simp only [h1]
  by_cases hn : n < 0
  · rw [bif_true (by simpa using hn), if_pos hn, bif_true (by first | (simp; done) | (simp; omega))]
  · rw [bif_false (by simpa using hn), if_neg hn]
theorem f210e {n s : Int} (h : numErr n s ≠ 0) : f210F 1000 (n, s) = some (ByteArray.empty, numErr n s) := by
  unfold f210F
  simp only [f52q, bind_some']
  rw [bif_true (by simpa using h)]
theorem f214q {n s : Int} (h : numErr n s = 0) : f214F 1000 (n, s) = some (txtS n s.toNat) := by
  have c := numErr_ok h
  obtain ⟨S, rfl⟩ : ∃ S : Nat, s = S := ⟨s.toNat, by omega⟩
  have hm : f79F 1000 n = some (n.natAbs : Int) := by
    unfold f79F
    rw [mx_abs (by omega) (by omega)]
    congr 1
    split <;> omega
  have hd := decS_size (u := n.natAbs) (by omega)
  have p1 := pad_size (decS n.natAbs) S
  have p2 := pt_size (padS (decS n.natAbs) S) S (by omega)
  have h1 : (⟨#[45]⟩ : ByteArray).size = 1 := rfl
  unfold f214F f214l0
  simp only [hm, bind_some']
  rw [f233n (by omega), bind_some', pad_ref _ _ _ (by omega) (S + 1 - (decS n.natAbs).size) 1000 _ rfl (by omega) (by omega)]
  simp only []
  rw [pt_ref _ _ _ _ (by omega) (by omega)]
  unfold f214p2 txtS
  rw [Int.toNat_natCast]
  simp only [h1]
  by_cases hn : n < 0
  · rw [bif_true (by simpa using hn), if_pos hn, bif_true (by first | (simp; done) | (simp; omega))]
  · rw [bif_false (by simpa using hn), if_neg hn]

theorem f211q (n1 s1 n2 s2 : Int) : f211F 1000 ((n1, s1), (n2, s2)) = some (cmpS n1 s1 n2 s2) := by
  unfold f211F cmpS
  simp only [f34q, bind_some']
  by_cases h1 : numErr n1 s1 = 0
  · rw [bif_false (by simpa using h1), if_neg (fun c => c h1)]
    by_cases h2 : numErr n2 s2 = 0
    · rw [bif_false (by simpa using h2), if_neg (fun c => c h2)]
      have c1 := numErr_ok h1
      have c2 := numErr_ok h2
      rw [f59q c1.1 c1.2.1 c2.1 c2.2.1 c1.2.2.1 (by omega) c2.2.2.1 (by omega), bind_some']
    · rw [bif_true (by simpa using h2), if_pos h2]
  · rw [bif_true (by simpa using h1), if_pos h1]

theorem numbers (x : (Int × Int) × (Int × Int)) : f204F 1000 x = some true := by
  obtain ⟨⟨n1, s1⟩, ⟨n2, s2⟩⟩ := x
  unfold f204F
  have aw : f13F 1000 () = some true := by kernel_rfl
  by_cases h : numErr n1 s1 = 0
  · simp only [aw, bind_some', Bool.not_true, cond_false, f21q, f211q, f52q, f34q, f210q h, f214q h, h, bne_self_eq_false, beq_self_eq_true, cond_true, strEq_self]
  · simp only [aw, bind_some', Bool.not_true, cond_false, f21q, f211q, f52q, f34q, f210e h, bne_self_eq_false]
    rw [bif_true (by simpa using h), bif_true (by simp), strEq_self]
end Go.Proofs.YtioagofpofamiaaDoor
/-! Plain laws: a right number is what its text is read as. -/
set_option linter.unusedVariables false
set_option linter.unusedSimpArgs false
namespace Go.Proofs.YtioagofpofamiaaDoor
open Go.Ab

theorem runE_eq (s : ByteArray) : ∀ (r i e : Nat), i + r = s.size → i ≤ e → e ≤ s.size → (∀ j, i ≤ j → j < e → dgt s j = true) → dgt s e = false → runE s r i = e
  | 0, i, e, h, h1, h2, _, _ => by simp only [runE]; omega
  | r + 1, i, e, h, h1, h2, h3, h4 => by
    unfold runE
    by_cases he : i = e
    · subst he
      rw [if_neg (by simp [h4])]
    · rw [if_pos (h3 i (Nat.le_refl _) (by omega))]
      exact runE_eq s r (i + 1) e (by omega) (by omega) h2 (fun j a b => h3 j (by omega) b) h4

/-- The bytes of digits. -/
def DigB (l : List UInt8) : Prop := ∀ x ∈ l, 48 ≤ x.toNat ∧ x.toNat ≤ 57
theorem decD_dig : ∀ u : Nat, DigB (Lib.decDigits u) := by
  intro u
  induction u using Nat.strongRecOn with
  | _ u ih =>
    have hb : ∀ d : Nat, d < 10 → 48 ≤ (UInt8.ofNat (48 + d)).toNat ∧ (UInt8.ofNat (48 + d)).toNat ≤ 57 := fun d hd => by
      rw [UInt8.toNat_ofNat']
      omega
    by_cases h : u < 10
    · rw [Lib.decDigits, dif_pos h]
      intro x hx
      rw [List.mem_singleton.1 hx]
      exact hb u h
    · rw [Lib.decDigits, dif_neg h]
      intro x hx
      rcases List.mem_append.1 hx with hx | hx
      · exact ih (u / 10) (by omega) x hx
      · rw [List.mem_singleton.1 hx]
        exact hb (u % 10) (Nat.mod_lt _ (by decide))
theorem decD_ne : ∀ u : Nat, Lib.decDigits u ≠ [] := by
  intro u
  by_cases h : u < 10
  · rw [Lib.decDigits, dif_pos h]; simp
  · rw [Lib.decDigits, dif_neg h]; simp
theorem decD_head : ∀ u : Nat, 0 < u → (Lib.decDigits u).head? ≠ some 48 := by
  intro u
  induction u using Nat.strongRecOn with
  | _ u ih =>
    intro hu
    by_cases h : u < 10
    · rw [Lib.decDigits, dif_pos h]
      simp only [List.head?_cons, ne_eq, Option.some.injEq]
      intro c
      have := congrArg UInt8.toNat c
      rw [UInt8.toNat_ofNat'] at this
      have e : (48 : UInt8).toNat = 48 := rfl
      rw [e] at this
      omega
    · rw [Lib.decDigits, dif_neg h]
      have := ih (u / 10) (by omega) (by omega)
      cases hd : Lib.decDigits (u / 10) with
      | nil => exact absurd hd (decD_ne _)
      | cons x l =>
        rw [hd] at this
        exact this
theorem decD_val : ∀ u : Nat, ((Lib.decDigits u).map toD).foldl (fun a d => 10 * a + d) 0 = (u : Int) := by
  intro u
  induction u using Nat.strongRecOn with
  | _ u ih =>
    have hb : ∀ d : Nat, d < 10 → toD (UInt8.ofNat (48 + d)) = (d : Int) := fun d hd => by
      unfold toD
      rw [UInt8.toNat_ofNat']
      omega
    by_cases h : u < 10
    · rw [Lib.decDigits, dif_pos h]
      simp only [List.map_cons, List.map_nil, List.foldl_cons, List.foldl_nil, hb u h]
      omega
    · rw [Lib.decDigits, dif_neg h, List.map_append, List.foldl_append, ih (u / 10) (by omega)]
      simp only [List.map_cons, List.map_nil, List.foldl_cons, List.foldl_nil, hb (u % 10) (Nat.mod_lt _ (by decide))]
      omega
theorem fold_zeros : ∀ (k : Nat) (l : List Int), (List.replicate k 0 ++ l).foldl (fun a d => 10 * a + d) 0 = l.foldl (fun a d => 10 * a + d) (0 : Int)
  | 0, l => rfl
  | k + 1, l => by
    rw [List.replicate_succ, List.cons_append, List.foldl_cons]
    exact fold_zeros k l
theorem fold_drop : ∀ l m : List Int, (l.dropWhile (fun d => d == 0) ++ m).foldl (fun a d => 10 * a + d) 0 = (l ++ m).foldl (fun a d => 10 * a + d) (0 : Int)
  | [], m => rfl
  | d :: l, m => by
    by_cases h : d = 0
    · subst h
      rw [List.dropWhile_cons_of_pos (by simp), fold_drop l m, List.cons_append, List.foldl_cons]
      rfl
    · rw [List.dropWhile_cons_of_neg (by simpa using h)]

/-- The digits of a numeral with zeros ahead. -/
theorem pad_list (u sc : Nat) : (padS (decS u) sc).data.toList = List.replicate (sc + 1 - (Lib.decDigits u).length) 48 ++ Lib.decDigits u := by
  unfold padS
  have a : ∀ x y : ByteArray, (x ++ y).data.toList = x.data.toList ++ y.data.toList := fun x y => by simp
  have e : (decS u).size = (Lib.decDigits u).length := by
    have e : (decS u).size = (decS u).data.toList.length := rfl
    rw [e, decS_list]
  rw [a, decS_list, e]
  unfold copies
  rw [strOfNums_data, List.map_replicate]
  rfl

theorem txt_list {n : Int} {sc : Nat} : ∃ sgn W R : List UInt8,
    (txtS n sc).data.toList = sgn ++ W ++ (if 0 < sc then (46 : UInt8) :: R else []) ∧ sgn = (if n < 0 then [45] else []) ∧ W ++ R = List.replicate (sc + 1 - (Lib.decDigits n.natAbs).length) 48 ++ Lib.decDigits n.natAbs ∧ R.length = sc ∧ 1 ≤ W.length := by
  have hp := pad_list n.natAbs sc
  have hps := pad_size (decS n.natAbs) sc
  have hsz : (padS (decS n.natAbs) sc).size = (padS (decS n.natAbs) sc).data.toList.length := rfl
  have a : ∀ x y : ByteArray, (x ++ y).data.toList = x.data.toList ++ y.data.toList := fun x y => by simp
  have h46 : (⟨#[46]⟩ : ByteArray).data.toList = [46] := rfl
  have h45 : (⟨#[45]⟩ : ByteArray).data.toList = [45] := rfl
  refine ⟨if n < 0 then [45] else [], (padS (decS n.natAbs) sc).data.toList.take ((padS (decS n.natAbs) sc).size - sc), (padS (decS n.natAbs) sc).data.toList.drop ((padS (decS n.natAbs) sc).size - sc), ?_, rfl, ?_, ?_, ?_⟩
  · unfold txtS ptS
    generalize padS (decS n.natAbs) sc = P at *
    by_cases hs : 0 < sc
    · rw [if_pos hs, if_pos hs]
      have e : ((P.extract 0 (P.size - sc) ++ (⟨#[46]⟩ : ByteArray)) ++ P.extract (P.size - sc) P.size).data.toList = P.data.toList.take (P.size - sc) ++ 46 :: P.data.toList.drop (P.size - sc) := by
        have e5 : (P.data.toList.drop (P.size - sc)).take (P.size - (P.size - sc)) = P.data.toList.drop (P.size - sc) := List.take_of_length_le (by rw [List.length_drop]; omega)
        rw [a, a, h46, Lib.extract_data, Lib.extract_data, List.drop_zero, Nat.sub_zero, e5, List.append_assoc]
        rfl
      by_cases hn : n < 0
      · rw [if_pos hn, if_pos hn, a, h45, e]; simp
      · rw [if_neg hn, if_neg hn, e]; simp
    · rw [if_neg hs, if_neg hs]
      have e : P.data.toList.take (P.size - sc) = P.data.toList := List.take_of_length_le (by omega)
      rw [e]
      by_cases hn : n < 0
      · rw [if_pos hn, if_pos hn, a, h45]; simp
      · rw [if_neg hn, if_neg hn]; simp
  · rw [List.take_append_drop, hp]
  · rw [List.length_drop]; omega
  · rw [List.length_take]; omega

theorem nb_app {s : ByteArray} {a b c : List UInt8} (h : s.data.toList = a ++ b ++ c) {j : Nat} (h1 : a.length ≤ j) (h2 : j < a.length + b.length) : ∃ x ∈ b, nb s j = (x.toNat : Int) := by
  have hl : j < s.data.toList.length := by rw [h]; simp; omega
  refine ⟨b[j - a.length]'(by omega), List.getElem_mem _, ?_⟩
  rw [nb_at hl]
  congr 2
  have : s.data.toList[j]? = some (b[j - a.length]'(by omega)) := by
    rw [h, List.append_assoc, List.getElem?_append_right h1, List.getElem?_append_left (by omega), List.getElem?_eq_getElem]
  rw [List.getElem?_eq_getElem hl] at this
  exact Option.some.inj this

theorem parse_back {n s : Int} (h : numErr n s = 0) : f207F 1000 (txtS n s.toNat) = some ((n, s), ((txtS n s.toNat).size : Int), 0) := by
  have hc := numErr_ok h
  obtain ⟨S, rfl⟩ : ∃ S : Nat, s = S := ⟨s.toNat, by omega⟩
  rw [Int.toNat_natCast]
  obtain ⟨sgn, W, R, hT, hsg, hWR, hR, hW⟩ := txt_list (n := n) (sc := S)
  generalize txtS n S = T at *
  have hdl := decS_len 14 n.natAbs (by omega)
  have hd0 : 0 < (Lib.decDigits n.natAbs).length := List.length_pos_iff.2 (decD_ne _)
  have hdig : DigB (W ++ R) := by
    rw [hWR]
    intro x hx
    rcases List.mem_append.1 hx with hx | hx
    · rw [List.eq_of_mem_replicate hx]; decide
    · exact decD_dig _ x hx
  have hsl : sgn.length ≤ 1 := by rw [hsg]; split <;> simp
  have hWRl : W.length + R.length = (S + 1 - (Lib.decDigits n.natAbs).length) + (Lib.decDigits n.natAbs).length := by
    have := congrArg List.length hWR
    simpa using this
  have hTl : T.size = sgn.length + W.length + (if 0 < S then 1 + S else 0) := by
    have e : T.size = T.data.toList.length := rfl
    rw [e, hT]
    split
    · simp; omega
    · simp
  have h0 : 0 < T.size := by omega
  have hs40 : T.size ≤ 40 := by rw [hTl]; split <;> omega
  have hTW : T.data.toList = sgn ++ W ++ (if 0 < S then (46 : UInt8) :: R else []) := hT
  -- where the digits begin
  have dW : ∀ j, sgn.length ≤ j → j < sgn.length + W.length → dgt T j = true := by
    intro j a b
    obtain ⟨x, hx, e⟩ := nb_app hTW a b
    have := hdig x (List.mem_append_left _ hx)
    rw [dgt_iff, e]
    exact ⟨by omega, by omega, by omega⟩
  have hfrm : frm T = sgn.length := by
    unfold frm
    by_cases hn : n < 0
    · rw [if_pos hn] at hsg
      have : nb T 0 = 45 := by
        obtain ⟨x, hx, e⟩ := nb_app (a := []) (b := sgn) (c := W ++ (if 0 < S then (46 : UInt8) :: R else [])) (by rw [hT]; simp) (j := 0) (by simp) (by rw [hsg]; simp)
        rw [hsg] at hx
        rw [List.mem_singleton.1 hx] at e
        exact e
      rw [if_pos this, hsg]; rfl
    · rw [if_neg hn] at hsg
      have hd := dgt_iff.1 (dW 0 (by rw [hsg]; simp) (by omega))
      rw [if_neg (by omega), hsg]; rfl
  have hE : runE T (T.size - frm T) (frm T) = sgn.length + W.length := by
    refine runE_eq T _ _ _ (by rw [hfrm]; omega) (by rw [hfrm]; omega) (by omega) (fun j a b => dW j (by rw [hfrm] at a; exact a) b) ?_
    by_cases hS : 0 < S
    · rw [if_pos hS] at hT
      have e46 : nb T (sgn.length + W.length) = 46 := by
        obtain ⟨x, hx, e⟩ := nb_app (a := sgn ++ W) (b := [46]) (c := R) (by rw [hT]; simp) (j := sgn.length + W.length) (by simp) (by simp)
        rw [List.mem_singleton.1 hx] at e
        exact e
      cases hdg : dgt T (sgn.length + W.length) with
      | false => rfl
      | true =>
        have := (dgt_iff.1 hdg).2
        omega
    · rw [if_neg hS] at hTl
      unfold dgt
      rw [decide_eq_false (by omega)]
      rfl
  have h48 : ¬ (nb T (frm T) = 48 ∧ frm T + 1 < runE T (T.size - frm T) (frm T)) := by
    rintro ⟨c1, c2⟩
    rw [hE, hfrm] at c2
    rw [hfrm] at c1
    have hk : S + 1 - (Lib.decDigits n.natAbs).length = 0 := by omega
    rw [hk, List.replicate_zero, List.nil_append] at hWR
    cases hWc : W with
    | nil => rw [hWc] at hW; simp at hW
    | cons x l =>
      have hx : nb T sgn.length = (x.toNat : Int) := by
        obtain ⟨y, hy, e⟩ := nb_app (a := sgn) (b := [x]) (c := l ++ (if 0 < S then (46 : UInt8) :: R else [])) (by rw [hT, hWc]; simp) (j := sgn.length) (Nat.le_refl _) (by simp)
        rw [List.mem_singleton.1 hy] at e
        exact e
      have x48 : x = 48 := by
        apply UInt8.toNat_inj.1
        show x.toNat = 48
        omega
      have hu : n.natAbs = 0 := by
        rcases Nat.eq_zero_or_pos n.natAbs with h | h
        · exact h
        · have := decD_head _ h
          rw [← hWR, hWc, x48] at this
          exact absurd rfl this
      rw [hu] at hWRl
      have hz : (Lib.decDigits 0).length = 1 := by rw [Lib.decDigits, dif_pos (by decide)]; rfl
      rw [hu, hz] at hk
      rw [hz] at hWRl
      omega
  have hlay : layS T = .inr (sgn.length, sgn.length + W.length) := by
    unfold layS
    rw [if_neg (by rw [dW (frm T) (by omega) (by omega)]; decide), if_neg h48, hE]
    by_cases hS : 0 < S
    · rw [if_pos hS] at hT hTl
      have e46 : nb T (sgn.length + W.length) = 46 := by
        obtain ⟨x, hx, e⟩ := nb_app (a := sgn ++ W) (b := [46]) (c := R) (by rw [hT]; simp) (j := sgn.length + W.length) (by simp) (by simp)
        rw [List.mem_singleton.1 hx] at e
        exact e
      have dR : ∀ j, sgn.length + W.length + 1 ≤ j → j < T.size → dgt T j = true := by
        intro j a b
        obtain ⟨x, hx, e⟩ := nb_app (a := sgn ++ W ++ [46]) (b := R) (c := []) (by rw [hT]; simp) (j := j) (by simp; omega) (by simp; omega)
        have := hdig x (List.mem_append_right _ hx)
        rw [dgt_iff, e]
        exact ⟨b, by omega, by omega⟩
      have hE2 : runE T (T.size - (sgn.length + W.length + 1)) (sgn.length + W.length + 1) = T.size :=
        runE_eq T _ _ _ (by omega) (by omega) (Nat.le_refl _) dR (by unfold dgt; rw [decide_eq_false (by omega)]; rfl)
      rw [if_neg (by omega), if_neg (fun c => c e46), if_neg (by rw [dR _ (Nat.le_refl _) (by omega)]; decide), hE2, if_neg (by omega), hfrm]
    · rw [if_neg hS] at hTl
      rw [if_pos (by omega), hfrm]
  rw [f207c h0 hs40 hlay]
  -- the digits
  have hD1 : dgl T sgn.length W.length = W.map toD := by
    rw [dgl_list (by omega), hT, List.append_assoc, List.drop_left, List.take_left]
  have hD2 : dgl T (sgn.length + W.length + 1) (T.size - (sgn.length + W.length + 1)) = R.map toD := by
    by_cases hS : 0 < S
    · rw [if_pos hS] at hT hTl
      rw [dgl_list (by omega), hT]
      have e1 : (sgn ++ W ++ (46 : UInt8) :: R).drop (sgn.length + W.length + 1) = R := by
        have : sgn ++ W ++ (46 : UInt8) :: R = (sgn ++ W ++ [46]) ++ R := by simp
        rw [this]
        exact List.drop_left' (by simp; omega)
      rw [e1, List.take_of_length_le (by omega)]
    · have hR0 : R = [] := List.length_eq_zero_iff.1 (by omega)
      rw [if_neg hS] at hTl
      rw [show T.size - (sgn.length + W.length + 1) = 0 by omega, hR0]
      rfl
  have hA : allD T sgn.length (sgn.length + W.length) = (W.map toD).dropWhile (fun d => d == 0) ++ R.map toD := by
    unfold allD
    rw [show sgn.length + W.length - sgn.length = W.length by omega, hD1, hD2]
  have hV : (allD T sgn.length (sgn.length + W.length)).foldl (fun a d => 10 * a + d) 0 = (n.natAbs : Int) := by
    rw [hA, fold_drop, ← List.map_append, hWR, List.map_append, List.map_replicate, show toD 48 = 0 from rfl, fold_zeros, decD_val]
  have hL : ¬ 15 < (allD T sgn.length (sgn.length + W.length)).length := by
    rw [hA, List.length_append, List.length_map]
    by_cases hk : S + 1 - (Lib.decDigits n.natAbs).length = 0
    · have h1 := (List.dropWhile_sublist (fun d : Int => d == 0) (l := W.map toD)).length_le
      rw [List.length_map] at h1
      omega
    · have hW1 : W.length = 1 := by omega
      have hWz : W = [48] := by
        obtain ⟨k, hk2⟩ : ∃ k, S + 1 - (Lib.decDigits n.natAbs).length = k + 1 := ⟨S + 1 - (Lib.decDigits n.natAbs).length - 1, by omega⟩
        rw [hk2, List.replicate_succ] at hWR
        match W, hW1, hWR with
        | [x], _, hWR =>
          simp only [List.cons_append, List.nil_append, List.cons.injEq] at hWR
          rw [hWR.1]
      rw [hWz]
      have : ([(48 : UInt8)].map toD).dropWhile (fun d => d == 0) = [] := rfl
      rw [this]
      simp only [List.length_nil]
      omega
  rw [if_neg hL, hV]
  have hsz : T.size - (sgn.length + W.length + 1) = S := by rw [hTl]; split <;> omega
  rw [hsz]
  by_cases hn : n < 0
  · rw [if_pos hn] at hsg
    rw [if_pos (by rw [hsg]; rfl)]
    congr 3
    omega
  · rw [if_neg hn] at hsg
    rw [if_neg (by rw [hsg]; decide)]
    congr 3
    omega
end Go.Proofs.YtioagofpofamiaaDoor
/-! Plain laws: what is read of bytes is within bounds. -/
set_option linter.unusedVariables false
set_option linter.unusedSimpArgs false
namespace Go.Proofs.YtioagofpofamiaaDoor
open Go.Ab

theorem numErr_of {n s : Int} (h0 : -999999999999999 ≤ n) (h1 : n ≤ 999999999999999) (s0 : 0 ≤ s) (s1 : s ≤ 15) : numErr n s = 0 := by
  unfold numErr
  rw [if_pos ⟨h0, h1, s0, s1⟩]

theorem scanB_bound2 {bad : Nat → Bool} {val : Nat → Int} {N z : Nat} (hv : ∀ i, i < N → bad i = false → 0 ≤ val i ∧ val i ≤ 9 ∧ (i < z → val i = 0)) : ∀ {r i : Nat} {n m : Int}, i + r ≤ N → 0 ≤ n → n < 10 ^ (i - z) → scanB bad val r i n = .inr m → 0 ≤ m ∧ m < 10 ^ (i + r - z)
  | 0, i, n, m, _, h0, h1, h => by
    simp only [scanB, Sum.inr.injEq] at h
    subst h
    exact ⟨h0, h1⟩
  | r + 1, i, n, m, hN, h0, h1, h => by
    simp only [scanB] at h
    cases hb : bad i with
    | true => rw [hb] at h; cases h
    | false =>
      rw [hb] at h
      simp only [cond_false] at h
      obtain ⟨v0, v1, v2⟩ := hv i (by omega) hb
      have hn : n * 10 + val i < 10 ^ (i + 1 - z) := by
        by_cases hz : i < z
        · have e1 : i - z = 0 := by omega
          have e2 : i + 1 - z = 0 := by omega
          rw [e1, Int.pow_zero] at h1
          rw [e2, Int.pow_zero, v2 hz]
          omega
        · rw [show i + 1 - z = (i - z) + 1 by omega, Int.pow_succ]
          omega
      have := scanB_bound2 hv (r := r) (i := i + 1) (n := n * 10 + val i) (by omega) (by omega) hn h
      rwa [show i + 1 + r - z = i + (r + 1) - z by omega] at this

theorem decR_fit {h a : Nat → Int} {N : Nat} {ln : Int} (h0 : 1 ≤ ln) (hN : ln ≤ N) (hb : ∀ i, 0 ≤ h i ∧ h i ≤ 15) (he : (decR (badN h N ln) h a N).2.2 = 0) :
    -(pw ln - 1) ≤ (decR (badN h N ln) h a N).1 ∧ (decR (badN h N ln) h a N).1 ≤ pw ln - 1 := by
  unfold decR at *
  cases hs : scanB (badN h N ln) h N 0 0 with
  | inl j => rw [hs] at he; exact absurd he (by simp)
  | inr m =>
    rw [hs] at he
    simp only [] at he ⊢
    have hb2 := scanB_bound2 (bad := badN h N ln) (val := h) (N := N) (z := N - ln.toNat) (fun i hi hbad => by
      simp only [badN, Bool.or_eq_false_iff, decide_eq_false_iff_not, Bool.and_eq_false_iff] at hbad
      obtain ⟨b0, b1⟩ := hb i
      refine ⟨b0, by omega, fun hz => ?_⟩
      rcases hbad.2 with c | c
      · omega
      · omega) (r := N) (i := 0) (n := 0) (m := m) (by omega) (by omega) (by rw [Nat.zero_sub, Int.pow_zero]; omega) hs
    rw [show 0 + N - (N - ln.toNat) = ln.toNat by omega] at hb2
    have hp : pw ln = 10 ^ ln.toNat := rfl
    rw [← hp] at hb2
    by_cases c : h N < 10
    · rw [if_pos c] at he; exact absurd he (by simp)
    · rw [if_neg c]
      unfold sgn
      split <;> simp only <;> omega

theorem dec1_fit {ln sc : Int} {s : ByteArray} (h0 : 1 ≤ ln) (h1 : ln ≤ 15) (hs : (s.size : Int) = ln / 2 + 1) : ∃ n a e, f46F 1000 ((1, ln, sc), s) = some (n, a, e) ∧ (e = 0 → -(pw ln - 1) ≤ n ∧ n ≤ pw ln - 1) := by
  obtain ⟨z, hz⟩ : ∃ z, s.size = z := ⟨_, rfl⟩
  have hz0 : 1 ≤ z := by omega
  have hz1 : z ≤ 8 := by omega
  have hl : ((List.range (2 * z)).map (half s)).length = (2 * z - 1) + 1 := by simp; omega
  have al : ((List.range (2 * z)).map atH).length = (2 * z - 1) + 1 := by simp; omega
  have hg : ∀ i, i < 2 * z → ((List.range (2 * z)).map (half s)).getD i 0 = half s i := fun i hi => by simp [List.getD_eq_getElem?_getD, hi]
  have hb : ∀ i, 0 ≤ ((List.range (2 * z)).map (half s)).getD i 0 ∧ ((List.range (2 * z)).map (half s)).getD i 0 ≤ 15 := fun i => by
    by_cases hi : i < 2 * z
    · rw [hg i hi]; exact half_bound s i
    · rw [List.getD_eq_getElem?_getD, List.getElem?_eq_none (by simp; omega)]; decide
  have hv := halves1 (ln := ln) (sc := sc) s (by omega)
  rw [hz] at hv
  have A := f46q hv hl al (by omega) (by omega) (by omega) hb
  exact ⟨_, _, _, A, fun he => decR_fit h0 (by omega) hb he⟩

theorem dec2_fit {ln sc : Int} {s : ByteArray} (h0 : 1 ≤ ln) (h1 : ln ≤ 15) (hs : (s.size : Int) = ln) : ∃ n a e, f46F 1000 ((2, ln, sc), s) = some (n, a, e) ∧ (e = 0 → -(pw ln - 1) ≤ n ∧ n ≤ pw ln - 1) := by
  obtain ⟨L, hL⟩ : ∃ L, s.size = L := ⟨_, rfl⟩
  obtain ⟨g0, g1⟩ := bytes_get s (L - 1)
  have hl : ((List.range L).map (lowh s) ++ [(bytesOf s).getD (L - 1) 0 / 16]).length = L + 1 := by simp
  have al : ((List.range L).map atZ ++ [((L - 1 : Nat) : Int)]).length = L + 1 := by simp
  have hg : ∀ i, i ≤ L → ((List.range L).map (lowh s) ++ [(bytesOf s).getD (L - 1) 0 / 16]).getD i 0 = if i = L then (bytesOf s).getD (L - 1) 0 / 16 else lowh s i := fun i hi => by
    by_cases h : i = L
    · subst h; rw [if_pos rfl, List.getD_eq_getElem?_getD, List.getElem?_append_right (by simp)]; simp
    · rw [if_neg h, List.getD_eq_getElem?_getD, List.getElem?_append_left (by simp; omega)]; simp [show i < L by omega]
  have hb : ∀ i, 0 ≤ ((List.range L).map (lowh s) ++ [(bytesOf s).getD (L - 1) 0 / 16]).getD i 0 ∧ ((List.range L).map (lowh s) ++ [(bytesOf s).getD (L - 1) 0 / 16]).getD i 0 ≤ 15 := fun i => by
    by_cases hi : i ≤ L
    · rw [hg i hi]
      have := bytes_get s i
      unfold lowh
      split <;> omega
    · rw [List.getD_eq_getElem?_getD, List.getElem?_eq_none (by rw [hl]; omega)]; decide
  have hv := halves2 (ln := ln) (sc := sc) s (by omega) (by omega)
  rw [hL] at hv
  have A := f46q hv hl al (by omega) (by omega) (by omega) hb
  exact ⟨_, _, _, A, fun he => decR_fit h0 (by omega) hb he⟩

theorem val_num {kd ln sc n : Int} (ht : tyErr kd ln sc = 0) (hk : 1 ≤ kd ∧ kd ≤ 3) (h : -(pw ln - 1) ≤ n ∧ n ≤ pw ln - 1) : valErr kd ln sc n ByteArray.empty = 0 := by
  unfold valErr
  rw [if_neg (fun c => c ht), if_neg (by omega), if_neg (by omega), strEq_self, if_neg (by decide), if_neg (fun c => c h)]
theorem val_bound {kd ln sc n : Int} {s : ByteArray} (h : valErr kd ln sc n s = 0) (hk : 1 ≤ kd ∧ kd ≤ 3) : tyErr kd ln sc = 0 ∧ s = ByteArray.empty ∧ -(pw ln - 1) ≤ n ∧ n ≤ pw ln - 1 := by
  have ht : tyErr kd ln sc = 0 := by
    apply Decidable.byContradiction
    intro c
    unfold valErr at h
    rw [if_pos c] at h
    exact c h
  refine ⟨ht, ?_⟩
  unfold valErr at h
  rw [if_neg (fun c => c ht), if_neg (by omega), if_neg (by omega)] at h
  by_cases c : strEq s ByteArray.empty = false
  · rw [if_pos c] at h; exact absurd h (by decide)
  · rw [if_neg c] at h
    refine ⟨strEq_iff.1 (by simpa using c), ?_⟩
    apply Decidable.byContradiction
    intro c2
    rw [if_pos c2] at h
    exact absurd h (by decide)

end Go.Proofs.YtioagofpofamiaaDoor
/-! Plain laws: what a value's bytes are read as. -/
set_option linter.unusedVariables false
set_option linter.unusedSimpArgs false
namespace Go.Proofs.YtioagofpofamiaaDoor
open Go.Ab

theorem zonedZ {ln sc n : Int} {s : ByteArray} (h0 : 1 ≤ ln) (h1 : ln ≤ 15) (n0 : -1000000000000000 ≤ n) (n1 : n ≤ 1000000000000000) : f40F 1000 ((2, ln, sc), n, s) = some (strOfNums (if n < 0 then ((low 10 (amt n) ln.toNat).map r240).set (ln.toNat - 1) (IntKind.u8.wrap (IntKind.i64.wrap (208 + (low 10 (amt n) ln.toNat).getD (ln.toNat - 1) 0))) else (low 10 (amt n) ln.toNat).map r240)) := by
  obtain ⟨L, rfl⟩ : ∃ L : Nat, ln = L := ⟨ln.toNat, by omega⟩
  have ha0 : 0 ≤ amt n := by unfold amt; split <;> omega
  have ha1 : amt n ≤ 1000000000000000 := by unfold amt; split <;> omega
  have hm : mxI n (IntKind.i64.wrap (0 - n)) = amt n := mx_abs n0 n1
  have hL : L ≤ 900 := by omega
  have hd : ∀ d ∈ low 10 (amt n) L, 0 ≤ d ∧ d < 10 := fun d h => low_mem (by decide) h
  have hlen : (low 10 (amt n) L).length = L := low_length _ _ _
  have A : f40F 1000 ((2, (L : Int), sc), n, s) = some (strOfNums (if n < 0 then ((low 10 (amt n) L).map r240).set (L - 1) (IntKind.u8.wrap (IntKind.i64.wrap (208 + (low 10 (amt n) L).getD (L - 1) 0))) else (low 10 (amt n) L).map r240)) := by
    unfold f40F
    simp only [hm, f75q ha0 (by omega) hL, bind_some']
    have e : ((2 : Int) == 2) = true := rfl
    rw [e, cond_true, f40l0q _ _ _ _ (by omega), f40p1q _ _ _ _ (by simp; omega) (by simp; omega)]
    simp only [List.length_map]
    rw [last_eq hd (by omega), zoned_eq hd, hlen]
    split <;> rfl
  rw [Int.toNat_natCast]
  exact A

/-- The half bytes of a packed number. -/
def pkL (n : Int) (L : Nat) : List Int := (if L % 2 = 0 then [0] ++ low 10 (amt n) L else low 10 (amt n) L) ++ [if n < 0 then 13 else 15]
theorem packedP {ln sc n : Int} {s : ByteArray} (h0 : 1 ≤ ln) (h1 : ln ≤ 15) (n0 : -1000000000000000 ≤ n) (n1 : n ≤ 1000000000000000) : f40F 1000 ((1, ln, sc), n, s) = some (strOfNums ((List.range (ln.toNat / 2 + 1)).map (pair16 (pkL n ln.toNat)))) := by
  obtain ⟨L, rfl⟩ : ∃ L : Nat, ln = L := ⟨ln.toNat, by omega⟩
  have ha0 : 0 ≤ amt n := by unfold amt; split <;> omega
  have ha1 : amt n ≤ 1000000000000000 := by unfold amt; split <;> omega
  have hm : mxI n (IntKind.i64.wrap (0 - n)) = amt n := mx_abs n0 n1
  have hL : L ≤ 900 := by omega
  have hd : ∀ d ∈ low 10 (amt n) L, 0 ≤ d ∧ d < 10 := fun d h => low_mem (by decide) h
  have hlen : (low 10 (amt n) L).length = L := low_length _ _ _
  let sg : Int := if n < 0 then 13 else 15
  let l : List Int := (if L % 2 = 0 then [0] ++ low 10 (amt n) L else low 10 (amt n) L) ++ [sg]
  let m : Nat := L / 2 + 1
  have hl : l.length = 2 * m := by
    show ((if L % 2 = 0 then [0] ++ low 10 (amt n) L else low 10 (amt n) L) ++ [sg]).length = 2 * (L / 2 + 1)
    split <;> simp [hlen] <;> omega
  have hsg : 0 ≤ sg ∧ sg ≤ 15 := by show 0 ≤ (if n < 0 then (13 : Int) else 15) ∧ (if n < 0 then (13 : Int) else 15) ≤ 15; split <;> omega
  have hl15 : ∀ d ∈ l, 0 ≤ d ∧ d ≤ 15 := by
    intro d h
    have h : d ∈ (if L % 2 = 0 then [0] ++ low 10 (amt n) L else low 10 (amt n) L) ++ [sg] := h
    rcases List.mem_append.1 h with h | h
    · split at h
      · rcases List.mem_append.1 h with h | h
        · simp at h; omega
        · have := hd d h; omega
      · have := hd d h; omega
    · simp at h; rw [h]; exact hsg
  have hm450 : m ≤ 450 := by show L / 2 + 1 ≤ 450; omega
  have A : f40F 1000 ((1, (L : Int), sc), n, s) = some (strOfNums ((List.range m).map (pair16 l))) := by
    unfold f40F f40p2 f40p3
    simp only [hm, f75q ha0 (by omega) hL, bind_some', hlen]
    have e2 : ((1 : Int) == 2) = false := rfl
    have e1 : ((1 : Int) == 1) = true := rfl
    rw [Int.tmod_eq_emod_of_nonneg (by omega)]
    simp only [e1, e2, cond_false, cond_true]
    have f := f76q l m hl hm450 hl15
    have fin : ∀ d : List Int, d.length ≤ 16 → d ++ [sg] = l → (bif (decide ((d.length + [sg].length) * 1 ≤ 140737488355328) && decide (d.length + [sg].length ≤ 9223372036854775807)) then Option.bind (f76F 1000 (d ++ [sg])) fun y9 => some y9 else none) = some (strOfNums ((List.range m).map (pair16 l))) := by
      intro d hd he
      have e4 : (decide ((d.length + [sg].length) * 1 ≤ 140737488355328) && decide (d.length + [sg].length ≤ 9223372036854775807)) = true := by simp; omega
      rw [e4, cond_true, he, f]
      rfl
    have par : (((L : Int) % 2) == 0) = decide (L % 2 = 0) := by
      by_cases hp : L % 2 = 0
      · have : (L : Int) % 2 = 0 := by omega
        simp [hp, this]
      · have : (L : Int) % 2 ≠ 0 := by omega
        simp [hp, this]
    have e5 : (decide (([(0 : Int)].length + L) * 1 ≤ 140737488355328) && decide ([(0 : Int)].length + L ≤ 9223372036854775807)) = true := by simp; omega
    rw [par]
    by_cases hn : n < 0
    · have hs : sg = 13 := if_pos hn
      simp only [hn, decide_true, cond_true, e5]
      rw [hs] at fin
      by_cases hp : L % 2 = 0
      · simp only [hp, decide_true, cond_true]
        exact fin ([0] ++ low 10 (amt n) L) (by simp [hlen]; omega) (by show _ = (if L % 2 = 0 then [0] ++ low 10 (amt n) L else low 10 (amt n) L) ++ [sg]; rw [if_pos hp, hs])
      · simp only [hp, decide_false, cond_false]
        have g := fin (low 10 (amt n) L) (by simp [hlen]; omega) (by show _ = (if L % 2 = 0 then [0] ++ low 10 (amt n) L else low 10 (amt n) L) ++ [sg]; rw [if_neg hp, hs])
        rw [hlen] at g
        exact g
    · have hs : sg = 15 := if_neg hn
      simp only [hn, decide_false, cond_false, e5, cond_true]
      rw [hs] at fin
      by_cases hp : L % 2 = 0
      · simp only [hp, decide_true, cond_true]
        exact fin ([0] ++ low 10 (amt n) L) (by simp [hlen]; omega) (by show _ = (if L % 2 = 0 then [0] ++ low 10 (amt n) L else low 10 (amt n) L) ++ [sg]; rw [if_pos hp, hs])
      · simp only [hp, decide_false, cond_false]
        have g := fin (low 10 (amt n) L) (by simp [hlen]; omega) (by show _ = (if L % 2 = 0 then [0] ++ low 10 (amt n) L else low 10 (amt n) L) ++ [sg]; rw [if_neg hp, hs])
        rw [hlen] at g
        exact g
  rw [Int.toNat_natCast]
  exact A

theorem size44 {kd ln sc : Int} (ht : tyErr kd ln sc = 0) (h4 : kd ≠ 4) : f44F 1000 (kd, ln, sc) = some (szOf kd ln) := by
  obtain ⟨a1, a2, a3, a4, a5, a6, a7, a8, a9⟩ := ty_ok ht
  have : kd = 0 ∨ kd = 1 ∨ kd = 2 ∨ kd = 3 := by omega
  rcases this with rfl | rfl | rfl | rfl
  · rfl
  · obtain ⟨l0, l1⟩ := a4 (by omega)
    have w : IntKind.i64.wrap (IntKind.i64.wrap (Int.tdiv ln 2) + 1) = ln / 2 + 1 := by rw [Int.tdiv_eq_ediv_of_nonneg (by omega), wi (x := ln / 2) (by omega) (by omega), wi (by omega) (by omega)]
    show some (IntKind.i64.wrap (IntKind.i64.wrap (Int.tdiv ln 2) + 1)) = _
    rw [w]; rfl
  · rfl
  · rcases a5 rfl with rfl | rfl <;> rfl

theorem bytes_nums : ∀ {xs : List Int}, (∀ x ∈ xs, 0 ≤ x ∧ x ≤ 255) → bytesOf (strOfNums xs) = xs := by
  intro xs h
  unfold bytesOf
  rw [strOfNums_data, List.map_map]
  refine (List.map_congr_left (g := id) fun x hx => ?_).trans (List.map_id _)
  obtain ⟨h0, h1⟩ := h x hx
  show (((UInt8.ofNat x.toNat).toNat : Nat) : Int) = x
  rw [UInt8.toNat_ofNat']
  omega

theorem low_getD {b n : Int} : ∀ (L j : Nat), j < L → (low b n L).getD j 0 = n / b ^ (L - 1 - j) % b
  | 0, j, h => absurd h (Nat.not_lt_zero _)
  | L + 1, 0, _ => by simp [low]
  | L + 1, j + 1, h => by
    have := low_getD (b := b) (n := n) L j (by omega)
    simp only [low, List.getD_cons_succ]
    rw [this]
    congr 2
    congr 1
    omega

theorem scan_val {bad : Nat → Bool} {val : Nat → Int} (m : Int) : ∀ (r i : Nat) (n : Int), n = m / 10 ^ r → (∀ j, i ≤ j → j < i + r → bad j = false ∧ val j = m / 10 ^ (i + r - 1 - j) % 10) → scanB bad val r i n = .inr m
  | 0, i, n, h, _ => by
    rw [Int.pow_zero, Int.ediv_one] at h
    simp only [scanB, h]
  | r + 1, i, n, h, hj => by
    obtain ⟨h1, h2⟩ := hj i (Nat.le_refl _) (by omega)
    simp only [scanB, h1, cond_false]
    refine scan_val m r (i + 1) _ ?_ (fun j a b => ?_)
    · rw [h2, h, show i + (r + 1) - 1 - i = r by omega, Int.pow_succ, ← Int.ediv_ediv_of_nonneg (Int.le_of_lt (Int.pow_pos (by decide)))]
      generalize m / 10 ^ r = y
      omega
    · obtain ⟨h3, h4⟩ := hj j (by omega) (by omega)
      exact ⟨h3, by rw [h4]; congr 2; congr 1; omega⟩

theorem decR_val {h a : Nat → Int} {N : Nat} {ln m sgv : Int} (hm0 : 0 ≤ m) (hm : m < 10 ^ N) (hd : ∀ j, j < N → h j = m / 10 ^ (N - 1 - j) % 10) (hz : ∀ j : Nat, (j : Int) < (N : Int) - ln → j < N → h j = 0) (hs : h N = sgv) (hsv : 10 ≤ sgv) :
    decR (badN h N ln) h a N = (sgn m sgv, 0, 0) := by
  have hsc : scanB (badN h N ln) h N 0 0 = .inr m := by
    refine scan_val m N 0 0 ?_ (fun j a b => ⟨?_, ?_⟩)
    · rw [Int.ediv_eq_zero_of_lt hm0 hm]
    · have e := hd j (by omega)
      have : 0 ≤ h j ∧ h j ≤ 9 := by rw [e]; omega
      unfold badN
      rw [decide_eq_false (by omega)]
      by_cases hj : (j : Int) < (N : Int) - ln
      · have := hz j hj (by omega)
        rw [decide_eq_false (by omega)]; rfl
      · rw [decide_eq_false hj]; simp
    · rw [hd j (by omega)]
      congr 2
      congr 1
      omega
  unfold decR
  rw [hsc]
  simp only [hs]
  rw [if_neg (by omega)]

theorem amt_lt {n : Int} {L : Nat} (h0 : -(pw L - 1) ≤ n) (h1 : n ≤ pw L - 1) : 0 ≤ amt n ∧ amt n < 10 ^ L := by
  have hp : pw (L : Int) = 10 ^ L := by unfold pw; rw [Int.toNat_natCast]
  rw [hp] at h0 h1
  unfold amt
  split <;> omega
theorem sgn_amt (n : Int) : sgn (amt n) (if n < 0 then 13 else 15) = n := by
  unfold sgn amt
  by_cases h : n < 0
  · rw [if_pos h, if_pos h, if_pos (by decide)]; omega
  · rw [if_neg h, if_neg h, if_neg (by decide)]

theorem back2 {ln sc n : Int} (h0 : 1 ≤ ln) (h1 : ln ≤ 15) (n0 : -(pw ln - 1) ≤ n) (n1 : n ≤ pw ln - 1) : ∃ B, f40F 1000 ((2, ln, sc), n, ByteArray.empty) = some B ∧ (B.size : Int) = ln ∧ f46F 1000 ((2, ln, sc), B) = some (n, 0, 0) := by
  have p := pw_bound h0 h1
  obtain ⟨L, rfl⟩ : ∃ L : Nat, ln = L := ⟨ln.toNat, by omega⟩
  refine ⟨_, zonedZ h0 h1 (by omega) (by omega), ?_, ?_⟩
  · rw [strOfNums_size]
    split <;> simp [low_length]
  obtain ⟨m0, m1⟩ := amt_lt n0 n1
  rw [Int.toNat_natCast]
  have hlen : (low 10 (amt n) L).length = L := low_length _ _ _
  have dj : ∀ j, j < L → 0 ≤ (low 10 (amt n) L).getD j 0 ∧ (low 10 (amt n) L).getD j 0 < 10 := fun j hj => by
    rw [low_getD L j hj]; omega
  have r24 : ∀ d : Int, 0 ≤ d → d < 10 → r240 d = 240 + d := fun d a b => by
    unfold r240
    rw [wi (by omega) (by omega), wu8 (by omega) (by omega)]
  -- the bytes one by one
  generalize hZ : (if n < 0 then ((low 10 (amt n) L).map r240).set (L - 1) (IntKind.u8.wrap (IntKind.i64.wrap (208 + (low 10 (amt n) L).getD (L - 1) 0))) else (low 10 (amt n) L).map r240) = Z
  have zl : Z.length = L := by rw [← hZ]; split <;> simp [hlen]
  have mg : ∀ j, j < L → ((low 10 (amt n) L).map r240).getD j 0 = 240 + (low 10 (amt n) L).getD j 0 := fun j hj => by
    rw [List.getD_eq_getElem?_getD, List.getElem?_map, List.getElem?_eq_getElem (by omega)]
    have e : (low 10 (amt n) L).getD j 0 = (low 10 (amt n) L)[j]'(by omega) := by rw [List.getD_eq_getElem?_getD, List.getElem?_eq_getElem (by omega)]; rfl
    rw [e]
    have := dj j hj
    rw [e] at this
    exact r24 _ this.1 this.2
  have zg : ∀ j, j < L → Z.getD j 0 = (if n < 0 ∧ j = L - 1 then 208 else 240) + (low 10 (amt n) L).getD j 0 := by
    intro j hj
    rw [← hZ]
    by_cases hn : n < 0
    · rw [if_pos hn]
      by_cases hj2 : j = L - 1
      · subst hj2
        obtain ⟨b0, b1⟩ := dj (L - 1) hj
        rw [if_pos ⟨hn, rfl⟩, List.getD_eq_getElem?_getD, List.getElem?_set_self (by simp [hlen]; omega), wi (by omega) (by omega), wu8 (by omega) (by omega)]
        rfl
      · rw [if_neg (fun c => hj2 c.2), List.getD_eq_getElem?_getD, List.getElem?_set_ne (by omega), ← List.getD_eq_getElem?_getD, mg j hj]
    · rw [if_neg hn, if_neg (fun c => hn c.1), mg j hj]
  have z255 : ∀ x ∈ Z, 0 ≤ x ∧ x ≤ 255 := by
    intro x hx
    obtain ⟨j, hj, rfl⟩ := List.getElem_of_mem hx
    have e : Z[j] = Z.getD j 0 := by rw [List.getD_eq_getElem?_getD, List.getElem?_eq_getElem hj]; rfl
    rw [e, zg j (by omega)]
    have := dj j (by omega)
    split <;> omega
  have hB := bytes_nums z255
  have hBs : (strOfNums Z).size = L := by rw [strOfNums_size, zl]
  generalize strOfNums Z = B at *
  have hl : ((List.range L).map (lowh B) ++ [(bytesOf B).getD (L - 1) 0 / 16]).length = L + 1 := by simp
  have al : ((List.range L).map atZ ++ [((L - 1 : Nat) : Int)]).length = L + 1 := by simp
  have hg : ∀ i, i ≤ L → ((List.range L).map (lowh B) ++ [(bytesOf B).getD (L - 1) 0 / 16]).getD i 0 = if i = L then (bytesOf B).getD (L - 1) 0 / 16 else lowh B i := fun i hi => by
    by_cases h : i = L
    · subst h; rw [if_pos rfl, List.getD_eq_getElem?_getD, List.getElem?_append_right (by simp)]; simp
    · rw [if_neg h, List.getD_eq_getElem?_getD, List.getElem?_append_left (by simp; omega)]; simp [show i < L by omega]
  have hb : ∀ i, 0 ≤ ((List.range L).map (lowh B) ++ [(bytesOf B).getD (L - 1) 0 / 16]).getD i 0 ∧ ((List.range L).map (lowh B) ++ [(bytesOf B).getD (L - 1) 0 / 16]).getD i 0 ≤ 15 := fun i => by
    obtain ⟨g0, g1⟩ := bytes_get B (L - 1)
    by_cases hi : i ≤ L
    · rw [hg i hi]
      have := bytes_get B i
      unfold lowh
      split <;> omega
    · rw [List.getD_eq_getElem?_getD, List.getElem?_eq_none (by rw [hl]; omega)]; decide
  have hv := halves2 (ln := (L : Int)) (sc := sc) B (by omega) (by omega)
  rw [hBs] at hv
  rw [f46q hv hl al (by omega) (by omega) (by omega) hb]
  congr 1
  rw [decR_val (m := amt n) (sgv := if n < 0 then 13 else 15) m0 m1 (fun j hj => ?_) (fun j a b => by omega) ?_ (by split <;> decide), sgn_amt]
  · rw [hg L (Nat.le_refl _), if_pos rfl, hB, zg (L - 1) (by omega)]
    have := dj (L - 1) (by omega)
    generalize (low 10 (amt n) L).getD (L - 1) 0 = d at *
    by_cases hn : n < 0
    · rw [if_pos ⟨hn, rfl⟩, if_pos hn]; omega
    · rw [if_neg (fun c => hn c.1), if_neg hn]; omega
  · rw [hg j (by omega), if_neg (by omega)]
    unfold lowh
    rw [hB, zg j hj, low_getD L j hj]
    have : 0 ≤ amt n / 10 ^ (L - 1 - j) % 10 ∧ amt n / 10 ^ (L - 1 - j) % 10 < 10 := by omega
    generalize amt n / 10 ^ (L - 1 - j) % 10 = d at *
    split <;> omega

theorem back1 {ln sc n : Int} (h0 : 1 ≤ ln) (h1 : ln ≤ 15) (n0 : -(pw ln - 1) ≤ n) (n1 : n ≤ pw ln - 1) : ∃ B, f40F 1000 ((1, ln, sc), n, ByteArray.empty) = some B ∧ (B.size : Int) = ln / 2 + 1 ∧ f46F 1000 ((1, ln, sc), B) = some (n, 0, 0) := by
  have p := pw_bound h0 h1
  obtain ⟨L, rfl⟩ : ∃ L : Nat, ln = L := ⟨ln.toNat, by omega⟩
  refine ⟨_, packedP h0 h1 (by omega) (by omega), ?_, ?_⟩
  · rw [strOfNums_size]
    simp
  obtain ⟨m0, m1⟩ := amt_lt n0 n1
  rw [Int.toNat_natCast]
  obtain ⟨z, hz⟩ : ∃ z, L / 2 + 1 = z := ⟨_, rfl⟩
  rw [hz]
  have hlen : (low 10 (amt n) L).length = L := low_length _ _ _
  -- the half bytes one by one
  have lN : ∀ j, j < 2 * z - 1 → (pkL n L).getD j 0 = amt n / 10 ^ (2 * z - 1 - 1 - j) % 10 := by
    intro j hj
    unfold pkL
    by_cases hp : L % 2 = 0
    · rw [if_pos hp]
      cases j with
      | zero =>
        have : amt n / 10 ^ (2 * z - 1 - 1 - 0) = 0 := by
          rw [show 2 * z - 1 - 1 - 0 = L by omega]
          exact Int.ediv_eq_zero_of_lt m0 m1
        rw [this]
        rfl
      | succ j =>
        have e : ([0] ++ low 10 (amt n) L ++ [if n < 0 then (13 : Int) else 15]).getD (j + 1) 0 = (low 10 (amt n) L).getD j 0 := by
          rw [List.getD_eq_getElem?_getD, List.getD_eq_getElem?_getD, List.append_assoc, List.getElem?_append_right (by simp)]
          rw [List.getElem?_append_left (by simp [hlen]; omega)]
          simp
        rw [e, low_getD L j (by omega)]
        congr 2
        congr 1
        omega
    · rw [if_neg hp]
      have e : (low 10 (amt n) L ++ [if n < 0 then (13 : Int) else 15]).getD j 0 = (low 10 (amt n) L).getD j 0 := by
        rw [List.getD_eq_getElem?_getD, List.getD_eq_getElem?_getD, List.getElem?_append_left (by rw [hlen]; omega)]
      rw [e, low_getD L j (by omega)]
      congr 2
      congr 1
      omega
  have lS : (pkL n L).getD (2 * z - 1) 0 = if n < 0 then 13 else 15 := by
    unfold pkL
    by_cases hp : L % 2 = 0
    · rw [if_pos hp, List.getD_eq_getElem?_getD, List.getElem?_append_right (by simp [hlen]; omega)]
      have : 2 * z - 1 - ([0] ++ low 10 (amt n) L).length = 0 := by simp [hlen]; omega
      rw [this]
      rfl
    · rw [if_neg hp, List.getD_eq_getElem?_getD, List.getElem?_append_right (by rw [hlen]; omega)]
      have : 2 * z - 1 - (low 10 (amt n) L).length = 0 := by rw [hlen]; omega
      rw [this]
      rfl
  have l15 : ∀ j, j < 2 * z → 0 ≤ (pkL n L).getD j 0 ∧ (pkL n L).getD j 0 ≤ 15 := by
    intro j hj
    by_cases h : j = 2 * z - 1
    · rw [h, lS]; split <;> omega
    · rw [lN j (by omega)]; omega
  have x255 : ∀ x ∈ (List.range z).map (pair16 (pkL n L)), 0 ≤ x ∧ x ≤ 255 := by
    intro x hx
    obtain ⟨j, hj, rfl⟩ := List.mem_map.1 hx
    have hj := List.mem_range.1 hj
    have a := l15 (2 * j) (by omega)
    have b := l15 (2 * j + 1) (by omega)
    unfold pair16
    omega
  have hB := bytes_nums x255
  have hBs : (strOfNums ((List.range z).map (pair16 (pkL n L)))).size = z := by rw [strOfNums_size]; simp
  generalize strOfNums ((List.range z).map (pair16 (pkL n L))) = B at *
  have hh : ∀ t, t < 2 * z → half B t = (pkL n L).getD t 0 := by
    intro t ht
    unfold half
    have e : (bytesOf B).getD (t / 2) 0 = pair16 (pkL n L) (t / 2) := by
      rw [hB, List.getD_eq_getElem?_getD, List.getElem?_map, List.getElem?_range (by omega)]
      rfl
    rw [e]
    have a := l15 (2 * (t / 2)) (by omega)
    have b := l15 (2 * (t / 2) + 1) (by omega)
    unfold pair16
    by_cases h2 : t % 2 = 0
    · rw [if_pos h2, show 2 * (t / 2) = t by omega] at *
      omega
    · rw [if_neg h2]
      have e2 : 2 * (t / 2) + 1 = t := by omega
      rw [e2] at b ⊢
      omega
  have hz0 : 1 ≤ z := by omega
  have hz1 : z ≤ 8 := by omega
  have hl : ((List.range (2 * z)).map (half B)).length = (2 * z - 1) + 1 := by simp; omega
  have al : ((List.range (2 * z)).map atH).length = (2 * z - 1) + 1 := by simp; omega
  have hg : ∀ i, i < 2 * z → ((List.range (2 * z)).map (half B)).getD i 0 = half B i := fun i hi => by simp [List.getD_eq_getElem?_getD, hi]
  have hb : ∀ i, 0 ≤ ((List.range (2 * z)).map (half B)).getD i 0 ∧ ((List.range (2 * z)).map (half B)).getD i 0 ≤ 15 := fun i => by
    by_cases hi : i < 2 * z
    · rw [hg i hi]; exact half_bound B i
    · rw [List.getD_eq_getElem?_getD, List.getElem?_eq_none (by simp; omega)]; decide
  have hv := halves1 (ln := (L : Int)) (sc := sc) B (by omega)
  rw [hBs] at hv
  rw [f46q hv hl al (by omega) (by omega) (by omega) hb]
  congr 1
  have hN : amt n < 10 ^ (2 * z - 1) := by
    have h1 : (10 : Int) ^ L ≤ 10 ^ (2 * z - 1) := by
      have h := Nat.pow_le_pow_right (n := 10) (i := L) (j := 2 * z - 1) (by decide) (by omega)
      have e1 : ((10 ^ L : Nat) : Int) = (10 : Int) ^ L := by simp
      have e2 : ((10 ^ (2 * z - 1) : Nat) : Int) = (10 : Int) ^ (2 * z - 1) := by simp
      rw [← e1, ← e2]
      exact Int.ofNat_le.2 h
    omega
  rw [decR_val (m := amt n) (sgv := if n < 0 then 13 else 15) m0 hN (fun j hj => ?_) (fun j a b => ?_) ?_ (by split <;> decide), sgn_amt]
  · rw [hg _ (by omega), hh _ (by omega), lS]
  · rw [hg j (by omega), hh j (by omega), lN j hj]
  · rw [hg j (by omega), hh j (by omega), lN j b]
    have hj0 : j = 0 := by omega
    have hp : L % 2 = 0 := by omega
    rw [hj0, show 2 * z - 1 - 1 - 0 = L by omega, Int.ediv_eq_zero_of_lt m0 m1]
    rfl

theorem back3 {ln sc n : Int} (hl : ln = 4 ∨ ln = 9) (n0 : -(pw ln - 1) ≤ n) (n1 : n ≤ pw ln - 1) : ∃ B, f40F 1000 ((3, ln, sc), n, ByteArray.empty) = some B ∧ (B.size : Int) = szOf 3 ln ∧ f45F 1000 B = some n := by
  have p4 : pw 4 = 10000 := rfl
  have p9 : pw 9 = 1000000000 := rfl
  have hn : -1000000000000000 ≤ n ∧ n ≤ 1000000000000000 := by rcases hl with rfl | rfl <;> (first | rw [p4] at n0 n1 | rw [p9] at n0 n1) <;> omega
  have ha0 : 0 ≤ amt n := by unfold amt; split <;> omega
  have ha1 : amt n ≤ 1000000000000000 := by unfold amt; split <;> omega
  have hm : mxI n (IntKind.i64.wrap (0 - n)) = amt n := mx_abs hn.1 hn.2
  obtain ⟨L, hL, hL1⟩ : ∃ L : Nat, ln = L ∧ L ≤ 900 := ⟨ln.toNat, by omega, by omega⟩
  have e1 : ((3 : Int) == 1) = false := rfl
  have e2 : ((3 : Int) == 2) = false := rfl
  have e3 : ((3 : Int) == 3) = true := rfl
  have body : ∀ z : Nat, (z = 2 ∨ z = 4) → f44F 1000 (3, ln, sc) = some (z : Int) → f40F 1000 ((3, ln, sc), n, ByteArray.empty) = some (strOfNums (low 256 n z)) := by
    intro z hz h44
    have hz9 : z ≤ 900 := by omega
    unfold f40F
    simp only [hm, hL, f75q ha0 (by omega) hL1, bind_some', e1, e2, e3, cond_false, cond_true]
    rw [← hL, h44]
    simp only [bind_some']
    have c1 : (((decide ((0 : Int) ≤ (z : Int))) && (decide (((z : Int) * 1) ≤ (140737488355328 : Int)))) && (decide ((z : Int) ≤ (281474976710656 : Int)))) = true := by
      simp; omega
    rw [c1]
    simp only [cond_true, Int.toNat_natCast, List.length_replicate]
    rw [wi (x := (z : Int) - 1) (by omega) (by omega)]
    rw [f40l4q (R := ByteArray) (fun w12 => some (strOfNums w12.1)) (by omega) (by omega) hz9]
  have lb : ∀ z, ∀ x ∈ low 256 n z, 0 ≤ x ∧ x ≤ 255 := fun z x hx => by have := low_mem (b := 256) (by decide) hx; omega
  rcases hl with rfl | rfl
  · rw [p4] at n0 n1
    have hB := bytes_nums (lb 2)
    have hs : (strOfNums (low 256 n 2)).size = 2 := by rw [strOfNums_size, low_length]
    refine ⟨_, body 2 (.inl rfl) rfl, by rw [hs]; rfl, ?_⟩
    generalize strOfNums (low 256 n 2) = B at *
    rw [f45q (by omega) (by omega), hB, hs]
    congr 1
    simp only [low, List.drop_succ_cons, List.drop_zero, fold, List.getD_cons_zero]
    simp only [Int.pow_zero, Int.ediv_one]
    rw [show (256 : Int) ^ 1 = 256 from rfl]
    split <;> omega
  · rw [p9] at n0 n1
    have hB := bytes_nums (lb 4)
    have hs : (strOfNums (low 256 n 4)).size = 4 := by rw [strOfNums_size, low_length]
    refine ⟨_, body 4 (.inr rfl) rfl, by rw [hs]; rfl, ?_⟩
    generalize strOfNums (low 256 n 4) = B at *
    rw [f45q (by omega) (by omega), hB, hs]
    congr 1
    simp only [low, List.drop_succ_cons, List.drop_zero, fold, List.getD_cons_zero, List.getD_cons_succ]
    simp only [Int.pow_zero, Int.ediv_one]
    rw [show (256 : Int) ^ 1 = 256 from rfl, show (256 : Int) ^ 2 = 65536 from rfl, show (256 : Int) ^ 3 = 16777216 from rfl]
    split <;> omega

/-- What is read of bytes is a right value. -/
theorem dec_rightD {kd ln sc : Int} {s : ByteArray} : ∃ r : (Int × ByteArray) × Int × Int, f16F 1000 ((kd, ln, sc), s) = some r ∧ (r.2.2 = 0 → valErr kd ln sc r.1.1 r.1.2 = 0) := by
  by_cases ht : tyErr kd ln sc = 0
  · obtain ⟨a1, a2, a3, a4, a5, a6, a7, a8, a9⟩ := ty_ok ht
    by_cases h4 : kd = 4
    · subst h4
      unfold f16F f16p0
      simp only [f28q, ht, f43q, f42q, bind_some']
      exact ⟨_, rfl, fun c => absurd c (by decide)⟩
    · have g44 := size44 (sc := sc) ht h4
      have k4 : (kd == 4) = false := by simpa using h4
      have z0 : ((0 : Int) == 0) = true := rfl
      have tt : (if false = true then (17 : Int) else 0) = 0 := rfl
      have t0 : (if (0 : Int) = 0 then (0 : Int) else 0) = 0 := rfl
      by_cases hs : (s.size : Int) = szOf kd ln
      · have e18 : ((s.size : Int) != szOf kd ln) = false := by rw [hs]; simp
        have : kd = 0 ∨ kd = 1 ∨ kd = 2 ∨ kd = 3 := by omega
        rcases this with rfl | rfl | rfl | rfl
        · unfold f16F f16p0
          simp only [f28q, ht, f43q, f42q, bind_some', k4, tt, t0, z0, cond_true, g44, e18]
          refine ⟨_, rfl, fun _ => ?_⟩
          unfold valErr
          rw [if_neg (fun c => c ht), if_neg (by decide), if_pos rfl, if_neg (fun c => c rfl), if_neg (fun c => c hs)]
        · obtain ⟨l0, l1⟩ := a4 (by omega)
          obtain ⟨n, a, e, A, B⟩ := dec1_fit (sc := sc) l0 l1 hs
          unfold f16F f16p0
          simp only [f28q, ht, f43q, f42q, bind_some', k4, tt, t0, z0, cond_true, g44, e18, A]
          exact ⟨_, rfl, fun he => val_num ht (by decide) (B he)⟩
        · obtain ⟨l0, l1⟩ := a4 (by omega)
          obtain ⟨n, a, e, A, B⟩ := dec2_fit (sc := sc) l0 l1 hs
          unfold f16F f16p0
          simp only [f28q, ht, f43q, f42q, bind_some', k4, tt, t0, z0, cond_true, g44, e18, A]
          exact ⟨_, rfl, fun he => val_num ht (by decide) (B he)⟩
        · have hz24 : s.size = 2 ∨ s.size = 4 := by
            unfold szOf at hs
            rcases a5 rfl with rfl | rfl
            · simp at hs; omega
            · simp at hs; omega
          have F := f45q (s := s) (by omega) (by omega)
          generalize fold ((bytesOf s).drop 1) (if (bytesOf s).getD 0 0 ≥ 128 then (bytesOf s).getD 0 0 - 256 else (bytesOf s).getD 0 0) (s.size - 1) = n at F
          unfold f16F f16p0
          simp only [f28q, ht, f43q, f42q, bind_some', g44, e18, F, f29q]
          by_cases hv : valErr 3 ln sc n ByteArray.empty = 0
          · rw [hv]
            exact ⟨_, rfl, fun _ => hv⟩
          · have hvb : (valErr 3 ln sc n ByteArray.empty != 0) = true := by simpa using hv
            rw [hvb]
            exact ⟨_, rfl, fun he => absurd he hv⟩
      · have e18 : ((s.size : Int) != szOf kd ln) = true := by simpa using hs
        unfold f16F f16p0
        simp only [f28q, ht, f43q, f42q, bind_some', k4, tt, t0, z0, cond_true, g44, e18]
        exact ⟨_, rfl, fun he => absurd he (by decide)⟩
  · have hn : (tyErr kd ln sc != 0) = true := by simpa using ht
    have hz : (tyErr kd ln sc == 0) = false := by simpa using ht
    unfold f16F f16p0
    simp only [f28q, f43q, f42q, bind_some', if_neg ht, hz, cond_false, hn, cond_true]
    exact ⟨_, rfl, fun he => absurd he ht⟩

/-- A right value is what its bytes are read as. -/
theorem enc_back {kd ln sc n : Int} {s : ByteArray} (h : valErr kd ln sc n s = 0) : ∃ B a, f14F 1000 ((kd, (ln, sc)), (n, s)) = some (B, 0) ∧ f16F 1000 ((kd, (ln, sc)), B) = some ((n, s), a, 0) := by
  have ht : tyErr kd ln sc = 0 := by
    apply Decidable.byContradiction
    intro c
    unfold valErr at h
    rw [if_pos c] at h
    exact c h
  obtain ⟨a1, a2, a3, a4, a5, a6, a7, a8, a9⟩ := ty_ok ht
  have h4 : kd ≠ 4 := by
    intro c
    subst c
    unfold valErr at h
    rw [if_neg (fun c => c ht), if_pos rfl] at h
    exact absurd h (by decide)
  have g44 := size44 (sc := sc) ht h4
  have k4 : (kd == 4) = false := by simpa using h4
  have z0 : ((0 : Int) == 0) = true := rfl
  have tt : (if false = true then (17 : Int) else 0) = 0 := rfl
  have t0 : (if (0 : Int) = 0 then (0 : Int) else 0) = 0 := rfl
  have enc : ∀ B, f40F 1000 ((kd, (ln, sc)), (n, s)) = some B → f14F 1000 ((kd, (ln, sc)), (n, s)) = some (B, 0) := by
    intro B hB
    unfold f14F
    simp only [f29q, h, bind_some', bne_self_eq_false, cond_false, hB]
  by_cases k0 : kd = 0
  · subst k0
    obtain ⟨l0, l1⟩ := a3 rfl
    have hv : n = 0 ∧ (s.size : Int) = ln := by
      unfold valErr at h
      rw [if_neg (fun c => c ht), if_neg (by decide), if_pos rfl] at h
      by_cases c : n = 0
      · rw [if_neg (fun c2 => c2 c)] at h
        refine ⟨c, ?_⟩
        apply Decidable.byContradiction
        intro c2
        rw [if_pos c2] at h
        exact absurd h (by decide)
      · rw [if_pos c] at h
        exact absurd h (by decide)
    obtain ⟨rfl, hs⟩ := hv
    obtain ⟨L, rfl⟩ : ∃ L : Nat, ln = L := ⟨ln.toNat, by omega⟩
    refine ⟨s, 0, enc s ?_, ?_⟩
    · unfold f40F
      have hm : mxI 0 (IntKind.i64.wrap (0 - 0)) = 0 := rfl
      simp only [hm, f75q (n := 0) (L := L) (by omega) (by omega) (by omega), bind_some']
      rfl
    · have e18 : ((s.size : Int) != szOf 0 (L : Int)) = false := by rw [hs]; simp [szOf]
      unfold f16F f16p0
      simp only [f28q, ht, f43q, f42q, bind_some', k4, tt, t0, z0, cond_true, g44, e18]
      rfl
  · have hk : 1 ≤ kd ∧ kd ≤ 3 := by omega
    obtain ⟨_, hs, n0, n1⟩ := val_bound h hk
    subst hs
    obtain ⟨l0, l1⟩ := a4 hk
    have : kd = 1 ∨ kd = 2 ∨ kd = 3 := by omega
    rcases this with rfl | rfl | rfl
    · obtain ⟨B, b1, b2, b3⟩ := back1 (sc := sc) l0 l1 n0 n1
      refine ⟨B, 0, enc B b1, ?_⟩
      have e18 : ((B.size : Int) != szOf 1 ln) = false := by rw [b2]; simp [szOf]
      unfold f16F f16p0
      simp only [f28q, ht, f43q, f42q, bind_some', k4, tt, t0, z0, cond_true, g44, e18, b3]
      rfl
    · obtain ⟨B, b1, b2, b3⟩ := back2 (sc := sc) l0 l1 n0 n1
      refine ⟨B, 0, enc B b1, ?_⟩
      have e18 : ((B.size : Int) != szOf 2 ln) = false := by rw [b2]; simp [szOf]
      unfold f16F f16p0
      simp only [f28q, ht, f43q, f42q, bind_some', k4, tt, t0, z0, cond_true, g44, e18, b3]
      rfl
    · obtain ⟨B, b1, b2, b3⟩ := back3 (sc := sc) (a5 rfl) n0 n1
      refine ⟨B, 0, enc B b1, ?_⟩
      have e18 : ((B.size : Int) != szOf 3 ln) = false := by rw [b2]; simp
      unfold f16F f16p0
      simp only [f28q, ht, f43q, f42q, bind_some', k4, tt, t0, z0, cond_true, g44, e18, b3, f29q, h]
      rfl

theorem backs (x : (Int × (Int × Int)) × ByteArray × (Int × Int)) : f205F 1000 x = some true := by
  obtain ⟨⟨kd, ln, sc⟩, s, ⟨n, ns⟩⟩ := x
  unfold f205F
  have aw : f13F 1000 () = some true := by kernel_rfl
  simp only [aw, bind_some', Bool.not_true, cond_false]
  by_cases hs : (s.size : Int) > 700
  · rw [bif_true (by simpa using hs)]
  rw [bif_false (by simpa using hs)]
  have p0 : ∀ (k0 : ByteArray × Bool × Int × Int × Int × Unit → Option Bool) (k1 : ByteArray × Int × Int × Int × Unit → Option Bool), f205p0 1000 k0 k1 (s, kd, ln, sc, n, ns, ()) = k1 (s, kd, ln, sc, ()) := by
    intro k0 k1
    unfold f205p0
    simp only [f34q, bind_some']
    by_cases h : numErr n ns = 0
    · have hp := parse_back h
      rw [bif_true (by simpa using h), f210q h]
      simp only [bind_some', hp, bne_self_eq_false, cond_false, beq_self_eq_true, Bool.and_true, Bool.not_true]
    · rw [bif_false (by simpa using h)]
  rw [p0]
  obtain ⟨r, h1, h2⟩ := dec_rightD (kd := kd) (ln := ln) (sc := sc) (s := s)
  simp only []
  rw [h1, bind_some']
  by_cases he : r.2.2 = 0
  · have hb : (r.2.2 != 0) = false := by simpa using he
    have hv := h2 he
    obtain ⟨B, a, e1, e2⟩ := enc_back hv
    simp only [hb, cond_false, e1, bind_some', e2, f29q, hv, beq_self_eq_true, cond_true, strEq_self, Bool.and_true]
  · rw [bif_true (by simpa using he)]
end Go.Proofs.YtioagofpofamiaaDoor
