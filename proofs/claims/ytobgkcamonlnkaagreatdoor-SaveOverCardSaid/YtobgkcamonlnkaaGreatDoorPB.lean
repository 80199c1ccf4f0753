/- Joined texts. -/
import Derived.Test.YtobgkcamonlnkaaGreatDoorPA
import Derived.Test.YtobgkcamonlnkaaGreatDoorFcJ
set_option linter.unusedVariables false
set_option linter.unusedSimpArgs false
namespace Go.Proofs.YtobgkcamonlnkaaGreatDoor
open Go.Ab

theorem many_up {α V R κ : Type} {Step : κ → (V → Option R) → V → Option R} (L : List UInt8) (p : List UInt8 → PE α) (sL : ByteArray) (body : Int → Int → Option (α × ByteArray × Int × Int))
    (hb : ∀ a : Nat, a ≤ L.length → RR L (p (L.drop a)) fun v a' e => body (a : Int) 0 = some (v, sL, a', e)) (n : Nat) (mk : Int → Int → Int → List α → V) (k0 : κ → Int → Int → List α → Option R)
    (h0 : ∀ K rec a e acc, Step K rec (mk (n : Int) a e acc) = k0 K a e acc)
    (he : ∀ (d i : Nat), i + d = n → ∀ a e acc, e ≠ 0 → acc.length = i → ∃ vs, ∀ K r, d < r → iterS (Step K) r (mk (i : Int) a e acc) = k0 K a e (acc ++ vs))
    (h1 : ∀ K rec (i : Nat) a acc v a' e, i < n → acc.length = i → body a 0 = some (v, sL, a', e) → Step K rec (mk (i : Int) a 0 acc) = rec (mk ((i + 1 : Nat) : Int) a' e (acc ++ [v]))) :
    ∀ (d i r : Nat), d < r → i + d = n → ∀ (a : Nat) (acc : List α), a ≤ L.length → acc.length = i →
      RR L (pMany p d (L.drop a)) fun vs a' e => ∀ K, iterS (Step K) r (mk (i : Int) (a : Int) 0 acc) = k0 K a' e (acc ++ vs) := by
  intro d
  induction d with
  | zero =>
    intro i r hr hi a acc ha hc
    obtain ⟨r, rfl⟩ : ∃ r', r = r' + 1 := ⟨r - 1, by omega⟩
    obtain rfl : i = n := by omega
    refine ⟨a, ha, rfl, fun K => ?_⟩
    show Step K (iterS (Step K) r) _ = _
    rw [List.append_nil]
    exact h0 _ _ _ _ _
  | succ d ih =>
    intro i r hr hi a acc ha hc
    obtain ⟨r, rfl⟩ : ∃ r', r = r' + 1 := ⟨r - 1, by omega⟩
    unfold pMany
    refine (hb a ha).bdE (fun v a' _ ha' h => ?_) (fun e v a' hne h => ?_)
    · have hs : ∀ K, iterS (Step K) (r + 1) (mk (i : Int) (a : Int) 0 acc) = iterS (Step K) r (mk ((i + 1 : Nat) : Int) (a' : Int) 0 (acc ++ [v])) := fun K => h1 K _ i _ acc v _ _ (by omega) hc h
      refine (ih (i + 1) r (by omega) (by omega) a' (acc ++ [v]) ha' (by simp [hc])).bdE (fun vs a2 _ ha2 h => ?_) (fun e vs a2 hne h => ?_)
      · refine ⟨a2, ha2, rfl, fun K => ?_⟩
        rw [hs, h, List.append_assoc]
        rfl
      · exact ⟨v :: vs, a2, fun K => by rw [hs, h, List.append_assoc]; rfl⟩
    · have hs : ∀ K, iterS (Step K) (r + 1) (mk (i : Int) (a : Int) 0 acc) = iterS (Step K) r (mk ((i + 1 : Nat) : Int) a' e (acc ++ [v])) := fun K => h1 K _ i _ acc v _ _ (by omega) hc h
      obtain ⟨vs, h2⟩ := he d (i + 1) (by omega) a' e (acc ++ [v]) hne (by simp [hc])
      refine ⟨v :: vs, a', fun K => ?_⟩
      rw [hs, h2 K r (by omega), List.append_assoc]
      rfl
theorem run_on {α V R κ : Type} {Step : κ → (V → Option R) → V → Option R} (n : Nat) (mk : Int → Int → Int → List α → V) (k0 : κ → Int → Int → List α → Option R) (z : α)
    (h0 : ∀ K rec a e acc, Step K rec (mk (n : Int) a e acc) = k0 K a e acc)
    (h1 : ∀ K rec (i : Nat) a e acc, i < n → acc.length = i → e ≠ 0 → Step K rec (mk (i : Int) a e acc) = rec (mk ((i + 1 : Nat) : Int) a e (acc ++ [z]))) :
    ∀ (d i : Nat), i + d = n → ∀ a e acc, e ≠ 0 → acc.length = i → ∃ vs, ∀ K r, d < r → iterS (Step K) r (mk (i : Int) a e acc) = k0 K a e (acc ++ vs) := by
  intro d
  induction d with
  | zero =>
    intro i hi a e acc he hc
    obtain rfl : i = n := by omega
    refine ⟨[], fun K r hr => ?_⟩
    obtain ⟨r, rfl⟩ : ∃ r', r = r' + 1 := ⟨r - 1, by omega⟩
    rw [List.append_nil]
    exact h0 _ _ _ _ _
  | succ d ih =>
    intro i hi a e acc he hc
    obtain ⟨vs, h⟩ := ih (i + 1) (by omega) a e (acc ++ [z]) he (by simp [hc])
    refine ⟨z :: vs, fun K r hr => ?_⟩
    obtain ⟨r, rfl⟩ : ∃ r', r = r' + 1 := ⟨r - 1, by omega⟩
    have hs : iterS (Step K) (r + 1) (mk (i : Int) a e acc) = iterS (Step K) r (mk ((i + 1 : Nat) : Int) a e (acc ++ [z])) := h1 K _ i a e acc (by omega) hc he
    rw [hs, h K r (by omega), List.append_assoc]
    rfl

noncomputable def fldU (s : ByteArray) (a e : Int) : Option (Fld × ByteArray × Int × Int) :=
  Option.bind (f617v0F 1000 (s, a, e, ())) fun y => some ((y.1, (y.2.1, (y.2.2.1, y.2.2.2.1))), y.2.2.2.2.1, y.2.2.2.2.2.1, y.2.2.2.2.2.2.1)
noncomputable def keyU (s : ByteArray) (a e : Int) : Option (Key × ByteArray × Int × Int) :=
  Option.bind (f616v0F 1000 (s, a, e, ())) fun y8 => Option.bind (f579v0F 1000 ((1 : Int), y8.2.1, y8.2.2.1, y8.2.2.2.1, ())) fun y9 =>
  some ((y8.1, y9.1 == (1 : Int)), y9.2.1, y9.2.2.1, y9.2.2.2.1)
noncomputable def recU (sz : Int) (s : ByteArray) (a e : Int) : Option (Rcd × ByteArray × Int × Int) :=
  Option.bind (f579v0F 1000 ((1 : Int), s, a, e, ())) fun y =>
  bif y.1 == 0 then some ((true, ByteArray.empty), y.2.1, y.2.2.1, y.2.2.2.1) else Option.bind (f614v0F 1000 (sz, y.2.1, y.2.2.1, y.2.2.2.1, ())) fun z => some ((false, z.1), z.2.1, z.2.2.1, z.2.2.2.1)
theorem r1e (s : ByteArray) (a : Int) {e : Int} (h : e ≠ 0) : f579v0F 1000 ((1 : Int), s, a, e, ()) = some (0, s, a, e, ()) := f579e 1 s a h
theorem r1r (L : List UInt8) (hL : L.length ≤ 1000000) {a : Nat} (ha : a ≤ L.length) :
    RR L (pNum 1 (L.drop a)) fun v a' e => f579v0F 1000 ((1 : Int), S L, (a : Int), 0, ()) = some ((v : Int), S L, a', e, ()) := f579r L hL 1 ha
theorem nat_one (v : Nat) : (((v : Int)) == 1) = (v == 1) := by
  rw [Bool.eq_iff_iff]; simp; omega
theorem fldU_r (L : List UInt8) (hL : L.length ≤ 1000000) (a : Nat) (ha : a ≤ L.length) : RR L (pField (L.drop a)) fun v a' e => fldU (S L) (a : Int) 0 = some (v, S L, a', e) :=
  (f617r L hL ha).imp fun v t e h => by
    unfold fldU
    rw [h]
    rfl
theorem keyU_r (L : List UInt8) (hL : L.length ≤ 1000000) (a : Nat) (ha : a ≤ L.length) : RR L (pKey (L.drop a)) fun v a' e => keyU (S L) (a : Int) 0 = some (v, S L, a', e) := by
  unfold pKey
  refine (f616r L hL ha).bdE (fun v a _ ha h1 => ?_) (fun e v a he h1 => ⟨(v, false), a, ?_⟩)
  · refine (r1r L hL ha).bdE (fun b a _ ha h2 => ?_) (fun e b a he h2 => ⟨(v, b == 1), a, ?_⟩)
    · refine ⟨a, ha, rfl, ?_⟩
      unfold keyU
      simp only [h1, h2, bind_some', nat_one]
    · unfold keyU
      simp only [h1, h2, bind_some', nat_one]
  · unfold keyU
    simp only [h1, bind_some', r1e _ _ he]
    rfl
theorem recU_r (L : List UInt8) (hL : L.length ≤ 1000000) (sz : Nat) (hz : sz ≤ 900) (a : Nat) (ha : a ≤ L.length) : RR L (pRec sz (L.drop a)) fun v a' e => recU (sz : Int) (S L) (a : Int) 0 = some (v, S L, a', e) := by
  unfold pRec
  refine (r1r L hL ha).bdE (fun v a hv ha h1 => ?_) (fun e v a he h1 => ?_)
  · have hv := pNum_le hv
    by_cases h : v = 1
    · subst h
      rw [if_pos rfl]
      refine (f614r L hL hz ha).bdE (fun b a _ ha h2 => ?_) (fun e b a he h2 => ⟨(false, S b), a, ?_⟩)
      · refine ⟨a, ha, rfl, ?_⟩
        unfold recU
        simp only [h1, h2, bind_some', show (((1 : Nat) : Int) == 0) = false from rfl, cond_false]
      · unfold recU
        simp only [h1, h2, bind_some', show (((1 : Nat) : Int) == 0) = false from rfl, cond_false]
    · rw [if_neg h]
      obtain rfl : v = 0 := by omega
      refine ⟨a, ha, rfl, ?_⟩
      unfold recU
      simp only [h1, bind_some', show (((0 : Nat) : Int) == 0) = true from rfl, cond_true]
  · cases hv : (((v : Nat) : Int) == 0) with
    | true =>
      refine ⟨(true, ByteArray.empty), a, ?_⟩
      unfold recU
      simp only [h1, bind_some', hv, cond_true]
    | false =>
      refine ⟨(false, S (List.replicate sz 0)), a, ?_⟩
      unfold recU
      simp only [h1, bind_some', hv, cond_false, f614e hz _ _ he]

abbrev TabU := ByteArray × Int × Int × ByteArray × ByteArray × Bool × ByteArray × ByteArray × Bool × List Fld × List Key × List Rcd × List Fld × List Key × List Rcd × Unit
theorem f580l0q {R : Type} (L : List UInt8) (hL : L.length ≤ 1000000) (a1 a2 : ByteArray) (a3 : Bool) (a4 a5 : ByteArray) (a6 : Bool) (b7 : List Fld) (b8 : List Key) (b9 : List Rcd) (ks : List Key) (rs : List Rcd) (n : Nat) (hn : n ≤ 900) (a : Nat) (ha : a ≤ L.length) :
    RR L (pMany pField n (L.drop a)) fun vs a' e => ∀ k0 : TabU → Option R, f580v0l0 1000 k0 ((n : Int), (0 : Int), S L, (a : Int), 0, a1, a2, a3, a4, a5, a6, b7, b8, b9, [], ks, rs, ()) = k0 (S L, a', e, a1, a2, a3, a4, a5, a6, b7, b8, b9, vs, ks, rs, ()) := by
  unfold f580v0l0
  refine many_up (Step := fun k0 rec v => f580v0l0s 1000 rec k0 v) L pField (S L) (fldU (S L)) (fldU_r L hL) n (fun i a e acc => ((n : Int), i, S L, a, e, a1, a2, a3, a4, a5, a6, b7, b8, b9, acc, ks, rs, ())) (fun (k0 : TabU → Option R) a e acc => k0 (S L, a, e, a1, a2, a3, a4, a5, a6, b7, b8, b9, acc, ks, rs, ())) ?_ (run_on (Step := fun k0 rec v => f580v0l0s 1000 rec k0 v) n (fun i a e acc => ((n : Int), i, S L, a, e, a1, a2, a3, a4, a5, a6, b7, b8, b9, acc, ks, rs, ())) (fun (k0 : TabU → Option R) a e acc => k0 (S L, a, e, a1, a2, a3, a4, a5, a6, b7, b8, b9, acc, ks, rs, ())) ((S (List.replicate 10 0), (0, (0, 0))) : Fld) ?_ ?_) ?_ n 0 1000 (by omega) (by omega) a [] ha rfl
  · intro K rec a e acc
    unfold f580v0l0s
    simp only [ltn_self, cond_false]
  · intro K rec a e acc
    unfold f580v0l0s
    simp only [ltn_self, cond_false]
  · intro K rec i a e acc hi hc he
    unfold f580v0l0s
    simp only [ltn hi, cond_true, f617e _ _ he, bind_some', wi_succ (i := i) (by omega)]
    rw [bif_true (by simp; omega)]
  · intro K rec i a acc v a' e hi hc hb
    unfold f580v0l0s
    simp only [ltn hi, cond_true, wi_succ (i := i) (by omega)]
    unfold fldU at hb
    cases h1 : f617v0F 1000 (S L, a, 0, ()) with
    | none => rw [h1] at hb; exact absurd hb (by simp)
    | some y =>
    rw [h1] at hb
    simp only [bind_some', Option.some.injEq, Prod.mk.injEq] at hb ⊢
    obtain ⟨rfl, hs, rfl, rfl⟩ := hb
    rw [bif_true (by simp; omega), hs]
theorem f580l1q {R : Type} (L : List UInt8) (hL : L.length ≤ 1000000) (a1 a2 : ByteArray) (a3 : Bool) (a4 a5 : ByteArray) (a6 : Bool) (b7 : List Fld) (b8 : List Key) (b9 : List Rcd) (fs : List Fld) (rs : List Rcd) (n : Nat) (hn : n ≤ 900) (a : Nat) (ha : a ≤ L.length) :
    RR L (pMany pKey n (L.drop a)) fun vs a' e => ∀ k0 : TabU → Option R, f580v0l1 1000 k0 ((n : Int), (0 : Int), S L, (a : Int), 0, a1, a2, a3, a4, a5, a6, b7, b8, b9, fs, [], rs, ()) = k0 (S L, a', e, a1, a2, a3, a4, a5, a6, b7, b8, b9, fs, vs, rs, ()) := by
  unfold f580v0l1
  refine many_up (Step := fun k0 rec v => f580v0l1s 1000 rec k0 v) L pKey (S L) (keyU (S L)) (keyU_r L hL) n (fun i a e acc => ((n : Int), i, S L, a, e, a1, a2, a3, a4, a5, a6, b7, b8, b9, fs, acc, rs, ())) (fun (k0 : TabU → Option R) a e acc => k0 (S L, a, e, a1, a2, a3, a4, a5, a6, b7, b8, b9, fs, acc, rs, ())) ?_ (run_on (Step := fun k0 rec v => f580v0l1s 1000 rec k0 v) n (fun i a e acc => ((n : Int), i, S L, a, e, a1, a2, a3, a4, a5, a6, b7, b8, b9, fs, acc, rs, ())) (fun (k0 : TabU → Option R) a e acc => k0 (S L, a, e, a1, a2, a3, a4, a5, a6, b7, b8, b9, fs, acc, rs, ())) ((S (List.replicate 10 0), false) : Key) ?_ ?_) ?_ n 0 1000 (by omega) (by omega) a [] ha rfl
  · intro K rec a e acc
    unfold f580v0l1s
    simp only [ltn_self, cond_false]
  · intro K rec a e acc
    unfold f580v0l1s
    simp only [ltn_self, cond_false]
  · intro K rec i a e acc hi hc he
    unfold f580v0l1s
    simp only [ltn hi, cond_true, f616e _ _ he, r1e _ _ he, bind_some', wi_succ (i := i) (by omega)]
    rw [bif_true (by simp; omega)]
    rfl
  · intro K rec i a acc v a' e hi hc hb
    unfold f580v0l1s
    simp only [ltn hi, cond_true, wi_succ (i := i) (by omega)]
    unfold keyU at hb
    cases h1 : f616v0F 1000 (S L, a, 0, ()) with
    | none => rw [h1] at hb; exact absurd hb (by simp)
    | some y =>
    rw [h1] at hb
    simp only [bind_some'] at hb ⊢
    cases h2 : f579v0F 1000 (1, y.2.1, y.2.2.1, y.2.2.2.1, ()) with
    | none => rw [h2] at hb; exact absurd hb (by simp)
    | some z =>
    rw [h2] at hb
    simp only [bind_some', Option.some.injEq, Prod.mk.injEq] at hb ⊢
    obtain ⟨rfl, hs2, rfl, rfl⟩ := hb
    rw [bif_true (by simp; omega), hs2]
theorem f580l4q {R : Type} (L : List UInt8) (hL : L.length ≤ 1000000) (a1 a2 : ByteArray) (a3 : Bool) (a4 a5 : ByteArray) (a6 : Bool) (b7 : List Fld) (b8 : List Key) (b9 : List Rcd) (fs : List Fld) (ks : List Key) (sz : Nat) (hz : sz ≤ 900) (n : Nat) (hn : n ≤ 900) (a : Nat) (ha : a ≤ L.length) :
    RR L (pMany (pRec sz) n (L.drop a)) fun vs a' e => ∀ k0 : TabU → Option R, f580v0l4 1000 k0 ((sz : Int), (n : Int), (0 : Int), S L, (a : Int), 0, a1, a2, a3, a4, a5, a6, b7, b8, b9, fs, ks, [], ()) = k0 (S L, a', e, a1, a2, a3, a4, a5, a6, b7, b8, b9, fs, ks, vs, ()) := by
  unfold f580v0l4
  refine many_up (Step := fun k0 rec v => f580v0l4s 1000 rec k0 v) L (pRec sz) (S L) (recU (sz : Int) (S L)) (recU_r L hL sz hz) n (fun i a e acc => ((sz : Int), (n : Int), i, S L, a, e, a1, a2, a3, a4, a5, a6, b7, b8, b9, fs, ks, acc, ())) (fun (k0 : TabU → Option R) a e acc => k0 (S L, a, e, a1, a2, a3, a4, a5, a6, b7, b8, b9, fs, ks, acc, ())) ?_ (run_on (Step := fun k0 rec v => f580v0l4s 1000 rec k0 v) n (fun i a e acc => ((sz : Int), (n : Int), i, S L, a, e, a1, a2, a3, a4, a5, a6, b7, b8, b9, fs, ks, acc, ())) (fun (k0 : TabU → Option R) a e acc => k0 (S L, a, e, a1, a2, a3, a4, a5, a6, b7, b8, b9, fs, ks, acc, ())) ((true, ByteArray.empty) : Rcd) ?_ ?_) ?_ n 0 1000 (by omega) (by omega) a [] ha rfl
  · intro K rec a e acc
    unfold f580v0l4s
    simp only [ltn_self, cond_false]
  · intro K rec a e acc
    unfold f580v0l4s
    simp only [ltn_self, cond_false]
  · intro K rec i a e acc hi hc he
    unfold f580v0l4s f580v0p3
    simp only [ltn hi, cond_true, r1e _ _ he, bind_some', wi_succ (i := i) (by omega), beq00, Bool.not_true, cond_false]
    rw [bif_true (by simp; omega)]
  · intro K rec i a acc v a' e hi hc hb
    unfold f580v0l4s f580v0p3
    simp only [ltn hi, cond_true, wi_succ (i := i) (by omega)]
    unfold recU at hb
    cases h1 : f579v0F 1000 (1, S L, a, 0, ()) with
    | none => rw [h1] at hb; exact absurd hb (by simp)
    | some y =>
    rw [h1] at hb
    simp only [bind_some'] at hb ⊢
    cases hy : (y.1 == 0) with
    | true =>
      rw [hy] at hb
      simp only [cond_true, Option.some.injEq, Prod.mk.injEq] at hb
      obtain ⟨rfl, hs, rfl, rfl⟩ := hb
      simp only [Bool.not_true, cond_false]
      rw [bif_true (by simp; omega), hs]
    | false =>
      rw [hy] at hb
      simp only [cond_false] at hb
      simp only [Bool.not_false, cond_true]
      cases h2 : f614v0F 1000 ((sz : Int), y.2.1, y.2.2.1, y.2.2.2.1, ()) with
      | none => rw [h2] at hb; exact absurd hb (by simp)
      | some z =>
      rw [h2] at hb
      simp only [bind_some', Option.some.injEq, Prod.mk.injEq] at hb ⊢
      obtain ⟨rfl, hs2, rfl, rfl⟩ := hb
      rw [bif_true (by simp; omega), hs2]
end Go.Proofs.YtobgkcamonlnkaaGreatDoor
set_option linter.unusedVariables false
set_option linter.unusedSimpArgs false
namespace Go.Proofs.YtobgkcamonlnkaaGreatDoor
open Go.Ab

theorem u0z {R : Type} (k0 : TabU → Option R) (s : ByteArray) (a e : Int) (a1 a2 : ByteArray) (a3 : Bool) (a4 a5 : ByteArray) (a6 : Bool) (b7 : List Fld) (b8 : List Key) (b9 : List Rcd) (fs : List Fld) (ks : List Key) (rs : List Rcd) :
    f580v0l0 1000 k0 (0, 0, s, a, e, a1, a2, a3, a4, a5, a6, b7, b8, b9, fs, ks, rs, ()) = k0 (s, a, e, a1, a2, a3, a4, a5, a6, b7, b8, b9, fs, ks, rs, ()) := by
  unfold f580v0l0
  rw [iterS_1000]
  unfold f580v0l0s
  rfl
theorem u1z {R : Type} (k0 : TabU → Option R) (s : ByteArray) (a e : Int) (a1 a2 : ByteArray) (a3 : Bool) (a4 a5 : ByteArray) (a6 : Bool) (b7 : List Fld) (b8 : List Key) (b9 : List Rcd) (fs : List Fld) (ks : List Key) (rs : List Rcd) :
    f580v0l1 1000 k0 (0, 0, s, a, e, a1, a2, a3, a4, a5, a6, b7, b8, b9, fs, ks, rs, ()) = k0 (s, a, e, a1, a2, a3, a4, a5, a6, b7, b8, b9, fs, ks, rs, ()) := by
  unfold f580v0l1
  rw [iterS_1000]
  unfold f580v0l1s
  rfl
theorem u4z {R : Type} (k0 : TabU → Option R) (sz : Int) (s : ByteArray) (a e : Int) (a1 a2 : ByteArray) (a3 : Bool) (a4 a5 : ByteArray) (a6 : Bool) (b7 : List Fld) (b8 : List Key) (b9 : List Rcd) (fs : List Fld) (ks : List Key) (rs : List Rcd) :
    f580v0l4 1000 k0 (sz, 0, 0, s, a, e, a1, a2, a3, a4, a5, a6, b7, b8, b9, fs, ks, rs, ()) = k0 (s, a, e, a1, a2, a3, a4, a5, a6, b7, b8, b9, fs, ks, rs, ()) := by
  unfold f580v0l4
  rw [iterS_1000]
  unfold f580v0l4s
  rfl
abbrev RETU := ByteArray × ByteArray × List Fld × List Key × Bool × List Rcd × ByteArray × Int × Int × Unit
noncomputable def tabU (s : ByteArray) (f : Fil) (a e : Int) : Option RETU :=
  f580v0p2 1000 (fun w13 =>
      bif (w13.2.2.1 != (0 : Int)) then
        some (w13.2.2.2.2.2.2.1, w13.2.2.2.2.2.2.2.1, w13.2.2.2.2.2.2.2.2.2.2.2.2.1, w13.2.2.2.2.2.2.2.2.2.2.2.2.2.1, w13.2.2.2.2.2.2.2.2.1, w13.2.2.2.2.2.2.2.2.2.2.2.2.2.2.1, w13.1, w13.2.1, w13.2.2.1, ())
      else
      Option.bind (f618F 1000 (w13.2.2.2.2.2.2.2.1, w13.2.2.2.2.2.2.2.2.2.2.2.2.1)) fun y14 =>
      Option.bind (f579v0F 1000 ((60 : Int), w13.1, w13.2.1, w13.2.2.1, ())) fun y15 =>
      f580v0l4 1000
        (fun w20 => some (w20.2.2.2.2.2.2.1, w20.2.2.2.2.2.2.2.1, w20.2.2.2.2.2.2.2.2.2.2.2.2.1, w20.2.2.2.2.2.2.2.2.2.2.2.2.2.1, w20.2.2.2.2.2.2.2.2.1, w20.2.2.2.2.2.2.2.2.2.2.2.2.2.2.1, w20.1, w20.2.1, w20.2.2.1, ()))
        (y14, y15.1, (0 : Int), y15.2.1, y15.2.2.1, y15.2.2.2.1, w13.2.2.2.1, w13.2.2.2.2.1, w13.2.2.2.2.2.1, w13.2.2.2.2.2.2.1, w13.2.2.2.2.2.2.2.1, w13.2.2.2.2.2.2.2.2.1, w13.2.2.2.2.2.2.2.2.2.1, w13.2.2.2.2.2.2.2.2.2.2.1, w13.2.2.2.2.2.2.2.2.2.2.2.1, w13.2.2.2.2.2.2.2.2.2.2.2.2.1, w13.2.2.2.2.2.2.2.2.2.2.2.2.2.1, w13.2.2.2.2.2.2.2.2.2.2.2.2.2.2.1, ()))
    (s, a, e, ByteArray.empty, ByteArray.empty, false, f.1, f.2.1.1, f.2.2.2, [], [], [], f.2.1.2, f.2.2.1, [], ())
theorem f580a (L : List UInt8) (hL : L.length ≤ 1000000) {a : Nat} (ha : a ≤ L.length) : RR L (pFile (L.drop a)) fun f a' e => f580v0F 1000 (S L, (a : Int), 0, ()) = tabU (S L) f a' e := by
  unfold pFile
  have u20 : ∀ {e : Int}, e ≠ 0 → ∀ s a, f579v0F 1000 (20, s, a, e, ()) = some (0, s, a, e, ()) := fun h s a => f579e 20 s a h
  have u4 : ∀ {e : Int}, e ≠ 0 → ∀ s a, f579v0F 1000 (4, s, a, e, ()) = some (0, s, a, e, ()) := fun h s a => f579e 4 s a h
  have n20 : ∀ {a : Nat}, a ≤ L.length → RR L (pNum 20 (L.drop a)) fun v a' e => f579v0F 1000 (20, S L, (a : Int), 0, ()) = some ((v : Int), S L, a', e, ()) ∧ (e ≠ 0 → v = 0) := fun ha => f579w L hL 20 ha
  have n4 : ∀ {a : Nat}, a ≤ L.length → RR L (pNum 4 (L.drop a)) fun v a' e => f579v0F 1000 (4, S L, (a : Int), 0, ()) = some ((v : Int), S L, a', e, ()) ∧ (e ≠ 0 → v = 0) := fun ha => f579w L hL 4 ha
  refine (f616r L hL ha).bdE (fun fn a _ ha h1 => ?_) (fun e fn a he h1 => ⟨(fn, ((S (List.replicate 10 0), []), ([], false))), a, ?_⟩)
  rotate_left
  · unfold f580v0F tabU f580v0p2
    simp only [h1, bind_some', f616e _ _ he, u20 he, u4 he, r1e _ _ he, u0z, u1z, beq0 he, bne0 he, cond_true, cond_false]
    try rfl
  refine (f616r L hL ha).bdE (fun nm a _ ha h2 => ?_) (fun e nm a he h2 => ⟨(fn, ((nm, []), ([], false))), a, ?_⟩)
  rotate_left
  · unfold f580v0F tabU f580v0p2
    simp only [h1, h2, bind_some', f616e _ _ he, u20 he, u4 he, r1e _ _ he, u0z, u1z, beq0 he, bne0 he, cond_true, cond_false]
    try rfl
  refine (n20 ha).bdE (fun n a hn ha h3 => ?_) (fun e n a he h3 => ⟨(fn, ((nm, []), ([], false))), a, ?_⟩)
  rotate_left
  · obtain ⟨h3, h0⟩ := h3
    obtain rfl := h0 he
    rw [show ((0 : Nat) : Int) = 0 from rfl] at h3
    unfold f580v0F tabU f580v0p2
    simp only [h1, h2, h3, bind_some', f616e _ _ he, u20 he, u4 he, r1e _ _ he, u0z, u1z, beq0 he, bne0 he, cond_true, cond_false]
    try rfl
  have hn := pNum_le hn
  have h3 := h3.1
  refine (f580l0q (R := RETU) L hL ByteArray.empty ByteArray.empty false fn nm false [] [] [] [] [] n (by omega) a ha).bdE (fun fs a _ ha h4 => ?_) (fun e fs a he h4 => ⟨(fn, ((nm, fs), ([], false))), a, ?_⟩)
  rotate_left
  · unfold f580v0F tabU f580v0p2
    simp only [h1, h2, h3, h4, bind_some', f616e _ _ he, u20 he, u4 he, r1e _ _ he, u0z, u1z, beq0 he, bne0 he, cond_true, cond_false]
    try rfl
  refine (n4 ha).bdE (fun m a hm ha h5 => ?_) (fun e m a he h5 => ⟨(fn, ((nm, fs), ([], false))), a, ?_⟩)
  rotate_left
  · obtain ⟨h5, h0⟩ := h5
    obtain rfl := h0 he
    rw [show ((0 : Nat) : Int) = 0 from rfl] at h5
    unfold f580v0F tabU f580v0p2
    simp only [h1, h2, h3, h4, h5, bind_some', f616e _ _ he, u20 he, u4 he, r1e _ _ he, u0z, u1z, beq0 he, bne0 he, cond_true, cond_false]
    try rfl
  have hm := pNum_le hm
  have h5 := h5.1
  refine (f580l1q (R := RETU) L hL ByteArray.empty ByteArray.empty false fn nm false [] [] [] fs [] m (by omega) a ha).bdE (fun ks a _ ha h6 => ?_) (fun e ks a he h6 => ⟨(fn, ((nm, fs), (ks, false))), a, ?_⟩)
  rotate_left
  · unfold f580v0F tabU f580v0p2
    simp only [h1, h2, h3, h4, h5, h6, bind_some', f616e _ _ he, u20 he, u4 he, r1e _ _ he, u0z, u1z, beq0 he, bne0 he, cond_true, cond_false]
    try rfl
  refine (r1r L hL ha).bdE (fun u a _ ha h7 => ?_) (fun e u a he h7 => ⟨(fn, ((nm, fs), (ks, u == 1))), a, ?_⟩)
  rotate_left
  · unfold f580v0F tabU f580v0p2
    simp only [h1, h2, h3, h4, h5, h6, h7, nat_one, bind_some', f616e _ _ he, u20 he, u4 he, r1e _ _ he, u0z, u1z, beq0 he, bne0 he, cond_true, cond_false]
    try rfl
  refine ⟨a, ha, rfl, ?_⟩
  unfold f580v0F tabU
  simp only [h1, h2, h3, h4, h5, h6, h7, bind_some', nat_one]
abbrev tabV (L : List UInt8) (t : Tbl) (a e : Int) : Option RETU := some (t.1.1, t.1.2.1.1, t.1.2.1.2, t.1.2.2.1, t.1.2.2.2, t.2, S L, a, e, ())
theorem f580q (L : List UInt8) (hL : L.length ≤ 1000000) {a : Nat} (ha : a ≤ L.length) : RR L (pTable (L.drop a)) fun t a' e => f580v0F 1000 (S L, (a : Int), 0, ()) = tabV L t a' e := by
  unfold pTable
  refine (f580a L hL ha).bdE (fun f a _ ha h => ?_) (fun e f a he h => ⟨(f, []), a, ?_⟩)
  rotate_left
  · rw [h]
    unfold tabU f580v0p2
    simp only [beq0 he, bne0 he, cond_true, cond_false]
  simp only [tabU, f580v0p2, beq00, cond_true] at h
  rw [show ((f.1, ((f.2.1.1, f.2.1.2), (f.2.2.1, f.2.2.2))) : Fil) = f from rfl, f527q, bind_some'] at h
  by_cases hf : (chkFile f).2 = 0
  · rw [if_neg (fun c => c hf)]
    have hfo := file_ok hf
    have hfm := fmt_ok hfo.2.1
    rw [hf] at h
    simp only [bne00, cond_false] at h
    rw [show ((f.2.1.1, f.2.1.2) : Fmt) = f.2.1 from rfl, f618q hfo.2.1, bind_some'] at h
    have n60 : RR L (pNum 60 (L.drop a)) fun v a' e => f579v0F 1000 (60, S L, (a : Int), 0, ()) = some ((v : Int), S L, a', e, ()) ∧ (e ≠ 0 → v = 0) := f579w L hL 60 ha
    refine n60.bdE (fun n a hn ha h3 => ?_) (fun e n a he h3 => ⟨(f, []), a, ?_⟩)
    rotate_left
    · obtain ⟨h3, h0⟩ := h3
      obtain rfl := h0 he
      rw [show ((0 : Nat) : Int) = 0 from rfl] at h3
      rw [h]
      simp only [h3, bind_some', u4z]
    have hn := pNum_le hn
    have hw := sumW_nat f.2.1.2
    refine (f580l4q (R := RETU) L hL ByteArray.empty ByteArray.empty false f.1 f.2.1.1 f.2.2.2 [] [] [] f.2.1.2 f.2.2.1 (sumW f.2.1.2).toNat (by omega) n (by omega) a ha).bdE (fun rs a _ ha h4 => ?_) (fun e rs a he h4 => ⟨(f, rs), a, ?_⟩)
    · refine ⟨a, ha, rfl, ?_⟩
      rw [h, h3.1, bind_some']
      rw [hw] at h4
      exact h4 _
    · rw [h, h3.1, bind_some']
      rw [hw] at h4
      exact h4 _
  · rw [if_pos hf]
    refine ⟨hf, (f, []), a, ?_⟩
    rw [h, bif_true (bne0 hf)]

noncomputable def tblU (s : ByteArray) (a e : Int) : Option (Tbl × ByteArray × Int × Int) :=
  Option.bind (f580v0F 1000 (s, a, e, ())) fun y => some (((y.1, ((y.2.1, y.2.2.1), (y.2.2.2.1, y.2.2.2.2.1))), y.2.2.2.2.2.1), y.2.2.2.2.2.2.1, y.2.2.2.2.2.2.2.1, y.2.2.2.2.2.2.2.2.1)
theorem tblU_r (L : List UInt8) (hL : L.length ≤ 1000000) (a : Nat) (ha : a ≤ L.length) : RR L (pTable (L.drop a)) fun v a' e => tblU (S L) (a : Int) 0 = some (v, S L, a', e) :=
  (f580q L hL ha).imp fun v t e h => by
    unfold tblU
    rw [h]
    rfl
abbrev TsU := ByteArray × ByteArray × Int × Int × List Tbl × Unit
theorem l533e {R : Type} (k0 : TsU → Option R) (st : ByteArray) (n i : Int) (s : ByteArray) (a : Int) {e : Int} (he : e ≠ 0) (ts : List Tbl) (rec : _ → Option R) : f533l0s 1000 rec k0 (st, n, i, s, a, e, ts, ()) = k0 (st, s, a, e, ts, ()) := by
  unfold f533l0s
  simp only [beq0 he, cond_false, Bool.cond_self]
theorem f533l0q {R : Type} (L : List UInt8) (hL : L.length ≤ 1000000) (n : Nat) (hn : n ≤ 8) (a : Nat) (ha : a ≤ L.length) :
    RR L (pMany pTable n (L.drop a)) fun vs a' e => ∀ k0 : TsU → Option R, f533l0 1000 k0 (S L, (n : Int), (0 : Int), S L, (a : Int), 0, [], ()) = k0 (S L, S L, a', e, vs, ()) := by
  unfold f533l0
  refine many_up (Step := fun k0 rec v => f533l0s 1000 rec k0 v) L pTable (S L) (tblU (S L)) (tblU_r L hL) n (fun i a e acc => (S L, (n : Int), i, S L, a, e, acc, ())) (fun (k0 : TsU → Option R) a e acc => k0 (S L, S L, a, e, acc, ())) ?_ ?_ ?_ n 0 1000 (by omega) (by omega) a [] ha rfl
  · intro K rec a e acc
    unfold f533l0s
    simp only [ltn_self, cond_false]
  · intro d i hi a e acc he hc
    refine ⟨[], fun K r hr => ?_⟩
    obtain ⟨r, rfl⟩ : ∃ r', r = r' + 1 := ⟨r - 1, by omega⟩
    show f533l0s 1000 _ _ _ = _
    rw [l533e _ _ _ _ _ _ he, List.append_nil]
  · intro K rec i a acc v a' e hi hc hb
    unfold f533l0s
    simp only [ltn hi, cond_true, wi_succ (i := i) (by omega), beq00]
    unfold tblU at hb
    cases h1 : f580v0F 1000 (S L, a, 0, ()) with
    | none => rw [h1] at hb; exact absurd hb (by simp)
    | some y =>
    rw [h1] at hb
    simp only [bind_some', Option.some.injEq, Prod.mk.injEq] at hb ⊢
    obtain ⟨rfl, hs, rfl, rfl⟩ := hb
    rw [bif_true (by simp; omega), hs]
theorem l533z {R : Type} (k0 : TsU → Option R) (st : ByteArray) (s : ByteArray) (a e : Int) (ts : List Tbl) : f533l0 1000 k0 (st, 0, 0, s, a, e, ts, ()) = k0 (st, s, a, e, ts, ()) := by
  unfold f533l0
  rw [iterS_1000]
  unfold f533l0s
  rfl
theorem f533q (L : List UInt8) (hL : L.length ≤ 1000000) : f533F 1000 (S L) = some (tblsIn L) := by
  have n8 : RR L (pNum 8 (L.drop 0)) fun v a' e => f579v0F 1000 (8, S L, ((0 : Nat) : Int), 0, ()) = some ((v : Int), S L, a', e, ()) ∧ (e ≠ 0 → v = 0) := f579w L hL 8 (Nat.zero_le _)
  rw [List.drop_zero, show ((0 : Nat) : Int) = 0 from rfl] at n8
  unfold tblsIn f533F
  match hl : pNum 8 L, n8 with
  | .error e, h =>
    obtain ⟨he, v, a, h, h0⟩ := h
    obtain rfl := h0 he
    rw [show ((0 : Nat) : Int) = 0 from rfl] at h
    simp only [h, bind_some', l533z, bne0 he, cond_true]
    rfl
  | .ok (n, t), h =>
    obtain ⟨a, ha, rfl, h, -⟩ := h
    have hn := pNum_le hl
    show _ = some (match pMany pTable n (L.drop a) with
      | .error e => ([], e)
      | .ok (ts, t) => if t ≠ [] then ([], 10) else if (chkTs ts).2 ≠ 0 then ([], (chkTs ts).2) else (ts, 0))
    have h2 := f533l0q (R := List Tbl × Int) L hL n hn a ha
    match pMany pTable n (L.drop a), h2 with
    | .error e, h2 =>
      obtain ⟨he, v, t, h2⟩ := h2
      simp only [h, bind_some', h2, bne0 he, cond_true]
    | .ok (ts, t'), h2 =>
      obtain ⟨b, hb, rfl, h2⟩ := h2
      simp only [h, bind_some', h2, bne00, cond_false, S_size]
      by_cases ht : L.drop b = []
      · rw [if_neg (fun c => c ht)]
        have : L.length - b = 0 := by have := congrArg List.length ht; simpa using this
        rw [bif_false (by simp; omega), f563q, bind_some']
        by_cases hc : (chkTs ts).2 = 0
        · rw [bif_false (by rw [hc]; rfl), if_neg (fun c => c hc)]
        · rw [bif_true (bne0 hc), if_pos hc]
      · rw [if_pos ht]
        have : b < L.length := by
          rcases Nat.lt_or_ge b L.length with h | h
          · exact h
          · exact (ht (List.drop_eq_nil_of_le h)).elim
        rw [bif_true (by simp; omega)]
end Go.Proofs.YtobgkcamonlnkaaGreatDoor
set_option linter.unusedVariables false
set_option linter.unusedSimpArgs false
namespace Go.Proofs.YtobgkcamonlnkaaGreatDoor
open Go.Ab

theorem f629q (nm : ByteArray) (fs : List Fld) (h : fs.length ≤ 900) : f629F 1000 ((nm, fs), (nm, fs)) = some true := by
  unfold f629F
  simp only [strEq_self, Bool.not_true, cond_false, len_eq (rfl : fs.length = fs.length)]
  unfold f629l0
  refine iter_list (k := 1000) (A := Unit) fs (fun i _ => ((i : Int), nm, fs, nm, fs, ())) (fun m _ => some true) (fun i a => True) ?_ ?_ (by omega) () trivial
  · intro rec a _
    unfold f629l0s
    simp only [ltn_self, cond_false]
  · intro rec i a x hx hi _
    unfold f629l0s
    simp only [ltn hi, nn, Bool.and_self, cond_true, Int.toNat_natCast, getD_of hx, wi_succ (i := i) (by omega), strEq_self, beq_self_eq_true, Bool.not_true, cond_false]
    exact .inl ⟨(), trivial, trivial, trivial⟩
theorem f591q (f : Fil) (h : f.2.1.2.length ≤ 900) (h2 : f.2.2.1.length ≤ 900) : f591F 1000 (f, f) = some true := by
  obtain ⟨fn, ⟨nm, fs⟩, ks, u⟩ := f
  unfold f591F
  simp only at h h2
  simp only [strEq_self, Bool.not_true, cond_false, beq_self_eq_true, f629q nm fs h, bind_some', len_eq (rfl : ks.length = ks.length)]
  unfold f591l0
  refine iter_list (k := 1000) (A := Unit) ks (fun i _ => ((i : Int), fn, nm, fs, ks, u, fn, nm, fs, ks, u, ())) (fun m _ => some true) (fun i a => True) ?_ ?_ (by omega) () trivial
  · intro rec a _
    unfold f591l0s
    simp only [ltn_self, cond_false]
  · intro rec i a x hx hi _
    unfold f591l0s
    simp only [ltn hi, nn, Bool.and_self, cond_true, Int.toNat_natCast, getD_of hx, wi_succ (i := i) (by omega), strEq_self, beq_self_eq_true, Bool.not_true, cond_false]
    exact .inl ⟨(), trivial, trivial, trivial⟩
theorem f546q (t : Tbl) (h : t.1.2.1.2.length ≤ 900) (h2 : t.1.2.2.1.length ≤ 900) (h3 : t.2.length ≤ 900) : f546F 1000 (t, t) = some true := by
  unfold f546F
  rw [show ((t.1.1, ((t.1.2.1.1, t.1.2.1.2), (t.1.2.2.1, t.1.2.2.2))) : Fil) = t.1 from rfl, f591q t.1 h h2, bind_some', cond_true, f575q t.2 t.2 h3, bind_some']
  simp
theorem f534q (l : List Tbl) (h : l.length ≤ 900) (ht : ∀ t ∈ l, t.1.2.1.2.length ≤ 900 ∧ t.1.2.2.1.length ≤ 900 ∧ t.2.length ≤ 900) : f534F 1000 (l, l) = some true := by
  unfold f534F
  simp only [len_eq (rfl : l.length = l.length), cond_false]
  unfold f534l0
  refine iter_list (k := 1000) (A := Unit) l (fun i _ => (l, l, (i : Int), ())) (fun m _ => some true) (fun i a => True) ?_ ?_ (by omega) () trivial
  · intro rec a _
    unfold f534l0s
    simp only [ltn_self, cond_false]
  · intro rec i a x hx hi _
    obtain ⟨h1, h2, h3⟩ := ht x (List.mem_of_getElem? hx)
    have := f546q x h1 h2 h3
    unfold f534l0s
    simp only [ltn hi, nn, Bool.and_self, cond_true, Int.toNat_natCast, getD_of hx, wi_succ (i := i) (by omega), this, bind_some', Bool.not_true, cond_false]
    exact .inl ⟨(), trivial, trivial, trivial⟩
theorem ts_few {l : List Tbl} (h : (chkTs l).2 = 0) : l.length ≤ 900 ∧ ∀ t ∈ l, t.1.2.1.2.length ≤ 900 ∧ t.1.2.2.1.length ≤ 900 ∧ t.2.length ≤ 900 := by
  refine ⟨by have := (ts_ok h).1; omega, fun t ht => ?_⟩
  have h1 := tbl_ok (ts_mem h ht)
  obtain ⟨h2, -, h3, -⟩ := file_sizes h1.1
  exact ⟨by omega, by omega, by omega⟩
theorem tblsIn_ok (L : List UInt8) : (tblsIn L).1 = [] ∨ (chkTs (tblsIn L).1).2 = 0 ∧ (tblsIn L).2 = 0 := by
  unfold tblsIn
  match PE.bd (pNum 8 L) fun n l => pMany pTable n l with
  | .error e => exact .inl rfl
  | .ok (ts, t) =>
    by_cases ht : t = []
    · by_cases hc : (chkTs ts).2 = 0
      · refine .inr ?_
        show (chkTs (if t ≠ [] then ([], 10) else if (chkTs ts).2 ≠ 0 then ([], (chkTs ts).2) else (ts, 0) : List Tbl × Int).1).2 = 0 ∧ (if t ≠ [] then ([], 10) else if (chkTs ts).2 ≠ 0 then ([], (chkTs ts).2) else (ts, 0) : List Tbl × Int).2 = 0
        rw [if_neg (fun c => c ht), if_neg (fun c => c hc)]
        exact ⟨hc, rfl⟩
      · refine .inl ?_
        show (if t ≠ [] then ([], 10) else if (chkTs ts).2 ≠ 0 then ([], (chkTs ts).2) else (ts, 0) : List Tbl × Int).1 = []
        rw [if_neg (fun c => c ht), if_pos hc]
    · refine .inl ?_
      show (if t ≠ [] then ([], 10) else if (chkTs ts).2 ≠ 0 then ([], (chkTs ts).2) else (ts, 0) : List Tbl × Int).1 = []
      rw [if_pos ht]
end Go.Proofs.YtobgkcamonlnkaaGreatDoor
set_option linter.unusedVariables false
set_option linter.unusedSimpArgs false
namespace Go.Proofs.YtobgkcamonlnkaaGreatDoor
open Go.Ab

def val (l : List UInt8) : Int := l.foldl (fun a b => a * 256 + (b.toNat : Int)) 0
theorem val_snoc (l : List UInt8) (b : UInt8) : val (l ++ [b]) = val l * 256 + (b.toNat : Int) := by unfold val; rw [List.foldl_append]; rfl
theorem low_succ (n : Int) : ∀ (L : Nat), low 256 n (L + 1) = low 256 (n / 256) L ++ [n % 256]
  | 0 => by simp [low]
  | L + 1 => by
    have e : n / 256 ^ (L + 1) = n / 256 / 256 ^ L := by
      rw [Int.ediv_ediv_of_nonneg (by decide), Int.pow_succ, Int.mul_comm]
    rw [low, low_succ n L, e]
    rfl
theorem bg_succ (n : Int) (L : Nat) : bg n (L + 1) = bg (n / 256) L ++ [oneB n] := by
  unfold bg
  rw [low_succ, List.map_append]
  rfl
theorem val_rng : ∀ (L : Nat) (l : List UInt8), l.length = L → 0 ≤ val l ∧ val l < 256 ^ L := by
  intro L
  induction L with
  | zero => intro l h; rw [List.length_eq_zero_iff.1 h]; exact ⟨by decide, by decide⟩
  | succ L ih =>
    intro l h
    have hne : l ≠ [] := by intro c; rw [c] at h; simp at h
    rw [← List.dropLast_concat_getLast hne, val_snoc]
    have := ih l.dropLast (by simp [h])
    have hb := byte_rng (l.getLast hne)
    have e : (256 : Int) ^ (L + 1) = 256 ^ L * 256 := Int.pow_succ ..
    omega
theorem bg_val : ∀ (L : Nat) (l : List UInt8), l.length = L → bg (val l) L = l := by
  intro L
  induction L with
  | zero => intro l h; rw [List.length_eq_zero_iff.1 h]; rfl
  | succ L ih =>
    intro l h
    have hne : l ≠ [] := by intro c; rw [c] at h; simp at h
    have h1 := ih l.dropLast (by simp [h])
    have hb := byte_rng (l.getLast hne)
    conv => lhs; rw [← List.dropLast_concat_getLast hne, val_snoc, bg_succ]
    have e1 : (val l.dropLast * 256 + ((l.getLast hne).toNat : Int)) / 256 = val l.dropLast := by omega
    have e2 : oneB (val l.dropLast * 256 + ((l.getLast hne).toNat : Int)) = l.getLast hne := by
      refine UInt8.toNat_inj.1 ?_
      have := oneB_int (val l.dropLast * 256 + ((l.getLast hne).toNat : Int))
      omega
    rw [e1, e2, h1, List.dropLast_concat_getLast]
theorem val_bg : ∀ (L : Nat) (n : Int), 0 ≤ n → n < 256 ^ L → val (bg n L) = n := by
  intro L
  induction L with
  | zero => intro n h0 h1; have : n = 0 := by have e : (256 : Int) ^ 0 = 1 := rfl; omega
            subst this; rfl
  | succ L ih =>
    intro n h0 h1
    have e : (256 : Int) ^ (L + 1) = 256 ^ L * 256 := Int.pow_succ ..
    rw [bg_succ, val_snoc, ih (n / 256) (by omega) (by omega), oneB_int]
    omega
theorem bg_iff {n : Int} {l : List UInt8} (h0 : 0 ≤ n) (h1 : n < 256 ^ l.length) : bg n l.length = l ↔ val l = n :=
  ⟨fun h => by rw [← h, val_bg _ _ h0 h1], fun h => by rw [← h, bg_val _ _ rfl]⟩

theorem take_snoc {α : Type} {l : List α} {i : Nat} (h : i < l.length) : l.take (i + 1) = l.take i ++ [l[i]] := by
  rw [List.take_add_one, List.getElem?_eq_getElem h]; rfl
theorem f47v (l : List UInt8) (at0 n : Nat) (hn : n ≤ 7) (h : at0 + n ≤ l.length) (hl : l.length ≤ 1000000) : f47F 1000 (S l, (at0 : Int), (n : Int)) = some (val ((l.drop at0).take n)) := by
  unfold f47F f47l0
  refine iter_up (k := 1000) (A := Unit) n (fun i _ => (S l, (at0 : Int), (n : Int), val ((l.drop at0).take i), (i : Int), ())) (fun i _ => some (val ((l.drop at0).take n))) (fun i a => True) ?_ ?_ (by omega) () trivial
  · intro rec a _
    unfold f47l0s
    simp only [ltn_self, cond_false]
  · intro rec i a hi _
    unfold f47l0s
    have w1 : IntKind.i64.wrap ((at0 : Int) + (i : Int)) = ((at0 + i : Nat) : Int) := by rw [show (at0 : Int) + (i : Int) = ((at0 + i : Nat) : Int) by omega]; exact wi (by omega) (by omega)
    have hx : l[at0 + i]? = some (l[at0 + i]'(by omega)) := List.getElem?_eq_getElem (by omega)
    have hv := val_rng i ((l.drop at0).take i) (by rw [List.length_take, List.length_drop]; omega)
    have hp : (256 : Int) ^ i ≤ 256 ^ 6 := by
      have : i ≤ 6 := by omega
      rcases (show i = 0 ∨ i = 1 ∨ i = 2 ∨ i = 3 ∨ i = 4 ∨ i = 5 ∨ i = 6 by omega) with rfl | rfl | rfl | rfl | rfl | rfl | rfl <;> decide
    have h6 : (256 : Int) ^ 6 = 281474976710656 := by decide
    have hb := byte_rng (l[at0 + i]'(by omega))
    have e : (l.drop at0).take (i + 1) = (l.drop at0).take i ++ [l[at0 + i]'(by omega)] := by
      rw [take_snoc (by rw [List.length_drop]; omega)]
      simp only [List.getElem_drop]
    have hbt := S_bt l (at0 + i) (by omega)
    rw [getD_of hx] at hbt
    simp only [ltn hi, cond_true, w1, S_size, inb (show at0 + i < l.length by omega), hbt, wi_byte, wi_succ (i := i) (by omega)]
    rw [wi (x := val ((l.drop at0).take i) * 256) (by omega) (by omega), wi (by omega) (by omega), e, val_snoc]
    exact .inl ⟨(), trivial, rfl, trivial⟩

def zs (l : List UInt8) : Bool := l.all fun b => b == 0
theorem zs_iff (l : List UInt8) : zs l = decide (l = List.replicate l.length 0) := by
  unfold zs
  rw [Bool.eq_iff_iff]
  simp only [List.all_eq_true, beq_iff_eq, decide_eq_true_eq]
  exact (List.eq_replicate_iff.trans ⟨fun h => h.2, fun h => ⟨rfl, h⟩⟩).symm
theorem zs_rep (l : List UInt8) {n : Nat} (h : l.length = n) : strEq (S l) (S (List.replicate n 0)) = zs l := by
  subst h
  rw [S_eq, zs_iff]
theorem dw_nil (l : List UInt8) : l.dropWhile (fun b => b == 0) = [] ↔ zs l = true := by
  unfold zs
  induction l with
  | nil => simp
  | cons b l ih =>
    by_cases h : b = 0
    · simp [List.dropWhile, h, ih]
    · have : (b == 0) = false := by simpa using h
      simp [List.dropWhile, this]
theorem zs_rev (l : List UInt8) : zs l.reverse = zs l := by unfold zs; rw [List.all_reverse]
theorem trim_nil (l : List UInt8) : Lib.trimB l 0 = [] ↔ zs l = true := by
  unfold Lib.trimB Lib.trimLeftB Lib.trimRightB
  constructor
  · intro h
    rw [dw_nil, zs_rev] at h
    by_cases hz : zs l.reverse = true
    · rwa [zs_rev] at hz
    · exfalso
      have : l.reverse.dropWhile (fun b => b == 0) ≠ [] := fun c => hz ((dw_nil _).1 c)
      match hd : l.reverse.dropWhile (fun b => b == 0) with
      | [] => exact this hd
      | b :: t =>
        rw [hd] at h
        have hb : (b == 0) = false := by
          have := List.head_dropWhile_not (p := fun b : UInt8 => b == 0) (l := l.reverse) (by rw [hd]; simp)
          simpa [hd] using this
        unfold zs at h
        rw [List.all_cons, hb] at h
        exact absurd h (by simp)
  · intro h
    have h2 := (dw_nil l.reverse).2 (by rw [zs_rev, h])
    rw [h2]
    rfl
theorem f648q (l : List UInt8) (h : l.length ≤ 1000000) : f648F 1000 (S l) = some (zs l) := by
  unfold f648F f667F
  simp only [show (⟨#[0]⟩ : ByteArray).data.toList = [0] from rfl, S_list, S_size]
  rw [bif_true (by simp; omega), bind_some']
  show some (strEq (S (Lib.trimB l 0)) ByteArray.empty) = _
  rw [← S_nil, S_eq]
  congr 1
  rw [Bool.eq_iff_iff, decide_eq_true_eq, trim_nil]
end Go.Proofs.YtobgkcamonlnkaaGreatDoor
set_option linter.unusedVariables false
set_option linter.unusedSimpArgs false
namespace Go.Proofs.YtobgkcamonlnkaaGreatDoor
open Go.Ab

def bsz (l : List UInt8) : Nat := (l.getD 3 0).toNat % 128
def bsay (l : List UInt8) : Bool := decide (128 ≤ (l.getD 3 0).toNat)
def frmB (l : List UInt8) (last : Bool) : Bool :=
  decide (1 ≤ bsz l ∧ bsz l ≤ 52) && (last || decide (52 ≤ bsz l)) && (zs ((l.take 56).drop (4 + bsz l)) && zs ((l.take 60).drop 57))
def ordB (l : List UInt8) (vol num : Int) : Bool := decide (((l.getD 0 0).toNat : Int) = vol) && decide (val ((l.drop 1).take 2) = num)
def blkE (l : List UInt8) (vol num vols : Int) (last : Bool) : Int :=
  if l.length ≠ 64 then 18
  else if val (l.drop 60) ≠ sumG 1 (l.take 60) then 33
  else if frmB l last = false then 5
  else if ordB l vol num = false then 14
  else if ((l.getD 56 0).toNat : Int) ≠ vols then 6
  else if bsay l = true then (if last = true then 0 else 10) else if last = true then 9 else 0

theorem tmod_byte (b : UInt8) : Int.tmod (b.toNat : Int) 128 = ((b.toNat % 128 : Nat) : Int) := by
  rw [Int.tmod_eq_emod_of_nonneg (by omega)]
  omega
theorem f583q (l : List UInt8) (vol num vols : Int) (last : Bool) : f583F 1000 (S l, (vol, (num, (ByteArray.empty, (last, vols))))) = some (blkE l vol num vols last) := by
  unfold f583F blkE
  simp only [S_size]
  by_cases hl : l.length = 64
  · rw [bif_false (by rw [hl]; rfl), if_neg (fun c => c hl)]
    have e1 : f47F 1000 (S l, (60 : Int), (4 : Int)) = some (val (l.drop 60)) := by
      have := f47v l 60 4 (by omega) (by omega) (by omega)
      rw [List.take_of_length_le (by rw [List.length_drop]; omega)] at this
      exact this
    have e2 : f573F 1000 (S (l.take 60)) = some (sumG 1 (l.take 60)) := f573q _ (by rw [List.length_take]; omega)
    have hb3 := S_bt l 3 (by omega)
    rw [show ((3 : Nat) : Int) = 3 from rfl] at hb3
    have hb0 := S_bt l 0 (by omega)
    rw [show ((0 : Nat) : Int) = 0 from rfl] at hb0
    have hb56 := S_bt l 56 (by omega)
    rw [show ((56 : Nat) : Int) = 56 from rfl] at hb56
    have e12 : f47F 1000 (S l, (1 : Int), (2 : Int)) = some (val ((l.drop 1).take 2)) := f47v l 1 2 (by omega) (by omega) (by omega)
    rw [e1, bind_some', bif_true (by rw [hl]; exact sliceB0 (b := 60) (by omega)), S_cut, List.drop_zero, e2, bind_some']
    by_cases hc : val (l.drop 60) = sumG 1 (l.take 60)
    · rw [bif_false (by simpa using hc), if_neg (fun c => c hc)]
      have d3 : decide ((3 : Int) < (l.length : Int)) = true := by rw [hl]; rfl
      rw [bif_true d3, bif_true d3]
      rw [hb3, wi_byte, tmod_byte]
      rw [show decide (((l.getD 3 0).toNat : Int) ≥ 128) = bsay l by unfold bsay; congr 1; apply propext; omega, show (l.getD 3 0).toNat % 128 = bsz l from rfl]
      unfold f583p0
      simp only [f48w, bind_some', S_size]
      have hs : bsz l < 128 := Nat.mod_lt _ (by decide)
      -- the rest, when the form is right
      have rest : frmB l last = true → (bif decide ((0 : Int) < (l.length : Int)) then
          bif IntKind.i64.wrap (bt (S l) 0) != vol then some 14
          else Option.bind (f47F 1000 (S l, 1, 2)) fun y12 => bif y12 != num then some 14
            else bif decide ((56 : Int) < (l.length : Int)) then bif IntKind.i64.wrap (bt (S l) 56) != vols then some 6
              else f583p1 1000 (fun w13 => some w13.1)
                (fun w14 => bif w14.2.2.2.2.1 then Option.bind (f69F 1000 (!w14.1)) fun y15 => some (IntKind.i64.wrap (9 * y15)) else Option.bind (f69F 1000 false) fun y16 => some (IntKind.i64.wrap (9 * y16)))
                (bsay l, vol, num, ByteArray.empty, last, vols, ())
              else none
          else none : Option Int) = some (if ordB l vol num = false then 14 else if ((l.getD 56 0).toNat : Int) ≠ vols then 6 else if bsay l = true then (if last = true then 0 else 10) else if last = true then 9 else 0) := by
        intro hf
        rw [bif_true (by rw [hl]; rfl), hb0, wi_byte, e12, bind_some', bif_true (c := decide ((56 : Int) < (l.length : Int))) (by rw [hl]; rfl), hb56, wi_byte]
        unfold ordB f583p1
        by_cases h0 : ((l.getD 0 0).toNat : Int) = vol
        · rw [bif_false (by simpa using h0)]
          by_cases h1 : val ((l.drop 1).take 2) = num
          · rw [bif_false (by simpa using h1)]
            simp only [h0, h1, decide_true, Bool.and_self, Bool.true_eq_false, if_false]
            by_cases h2 : ((l.getD 56 0).toNat : Int) = vols
            · rw [bif_false (by simpa using h2), if_neg (fun c => c h2)]
              cases bsay l <;> cases last <;> rfl
            · rw [bif_true (by simpa using h2), if_pos h2]
          · rw [bif_true (by simpa using h1)]
            have : decide (val ((l.drop 1).take 2) = num) = false := by simpa using h1
            rw [this, Bool.and_false]
            rfl
        · rw [bif_true (by simpa using h0)]
          have : decide (((l.getD 0 0).toNat : Int) = vol) = false := by simpa using h0
          rw [this]
          rfl
      by_cases h1 : 1 ≤ bsz l ∧ bsz l ≤ 52
      · have e48 : decide ((1 : Int) ≤ (bsz l : Int) ∧ (bsz l : Int) ≤ 52) = true := by simp; omega
        have ew : IntKind.i64.wrap (4 + (bsz l : Int)) = ((4 + bsz l : Nat) : Int) := by rw [show (4 : Int) + (bsz l : Int) = ((4 + bsz l : Nat) : Int) by omega]; exact wi (by omega) (by omega)
        have ew2 : IntKind.i64.wrap (52 - (bsz l : Int)) = ((52 - bsz l : Nat) : Int) := by rw [show (52 : Int) - (bsz l : Int) = ((52 - bsz l : Nat) : Int) by omega]; exact wi (by omega) (by omega)
        have s1 : sliceBds ((4 + bsz l : Nat) : Int) 56 (l.length : Int) = true := by rw [hl]; exact sliceB (b := 56) (n := 64) (by omega) (by omega)
        have s2 : sliceBds 57 60 (l.length : Int) = true := by rw [hl]; exact sliceB (a := 57) (b := 60) (n := 64) (by omega) (by omega)
        have r3 := f72z (n := 3) (by omega)
        rw [show ((3 : Nat) : Int) = 3 from rfl] at r3
        have z1 : strEq (S ((l.take 56).drop (4 + bsz l))) (S (List.replicate (52 - bsz l) 0)) = zs ((l.take 56).drop (4 + bsz l)) := zs_rep _ (by rw [List.length_drop, List.length_take]; omega)
        have z2 : strEq (S ((l.take 60).drop 57)) (S (List.replicate 3 0)) = zs ((l.take 60).drop 57) := zs_rep _ (by rw [List.length_drop, List.length_take]; omega)
        simp only [e48, Bool.not_true, cond_false, ew, ew2, s1, s2, cond_true, S_cut, Int.toNat_natCast, show Int.toNat 4 = 4 from rfl, f72z (n := 52 - bsz l) (by omega), bind_some', r3, z1, z2]
        by_cases h2 : bsz l < 52
        · have : decide ((bsz l : Int) < 52) = true := by simp; omega
          rw [bif_true this]
          have hd : decide (52 ≤ bsz l) = false := by simp; omega
          cases last with
          | false =>
            have hf : frmB l false = false := by unfold frmB; simp [hd]
            rw [hf]; rfl
          | true =>
            cases hz1 : zs ((l.take 56).drop (4 + bsz l)) with
            | false =>
              have hf : frmB l true = false := by unfold frmB; simp [hz1]
              rw [hf]; rfl
            | true =>
              cases hz2 : zs ((l.take 60).drop 57) with
              | false =>
                have hf : frmB l true = false := by unfold frmB; simp [hz2]
                rw [hf]; rfl
              | true =>
                have hf : frmB l true = true := by unfold frmB; simp [hz1, hz2, h1]
                simp only [Bool.not_true, cond_false]
                rw [if_neg (by rw [hf]; simp)]
                exact rest hf
        · have : decide ((bsz l : Int) < 52) = false := by simp; omega
          rw [bif_false this]
          have hd : decide (52 ≤ bsz l) = true := by simp; omega
          cases hz1 : zs ((l.take 56).drop (4 + bsz l)) with
          | false =>
            have hf : frmB l last = false := by unfold frmB; simp [hz1]
            rw [hf]; rfl
          | true =>
            cases hz2 : zs ((l.take 60).drop 57) with
            | false =>
              have hf : frmB l last = false := by unfold frmB; simp [hz2]
              rw [hf]; rfl
            | true =>
              have hf : frmB l last = true := by unfold frmB; simp [hz1, hz2, h1, hd]
              simp only [Bool.not_true, cond_false]
              rw [if_neg (by rw [hf]; simp)]
              exact rest hf
      · have e48 : decide ((1 : Int) ≤ (bsz l : Int) ∧ (bsz l : Int) ≤ 52) = false := by
          rw [Bool.eq_false_iff]; intro h; simp at h; omega
        have hf : frmB l last = false := by unfold frmB; simp [h1]
        rw [e48, hf]
        rfl
    · rw [bif_true (by simpa using hc), if_pos hc]
  · rw [bif_true (by simp; omega), if_pos hl]

theorem and127 : ∀ x : Fin 256, bits .and .u8 (x.val : Int) 127 = (x.val % 128 : Nat) := by decide +kernel
theorem and127' (b : UInt8) : bits .and .u8 (b.toNat : Int) 127 = ((b.toNat % 128 : Nat) : Int) := and127 ⟨b.toNat, by have := byte_rng b; omega⟩
theorem f621q (l : List UInt8) (vol vols : Int) {num : Int} (hn : 0 ≤ num) (hn2 : num < 65536) (last : Bool) :
    f621F 1000 (S l, vol, num, vols, last) = some (if blkE l vol num vols last = 0 then ((bsz l : Int), 0) else (0, blkE l vol num vols last)) := by
  unfold f621F blkE
  simp only [S_size]
  by_cases hl : l.length = 64
  · rw [bif_false (by rw [hl]; rfl)]
    simp only [hl, ne_eq, not_true_eq_false, if_false]
    have e1 : f562F 1000 (S (l.take 60)) = some (sumG 1 (l.take 60)) := f562q _ (by rw [List.length_take]; omega)
    have hb3 := S_bt l 3 (by omega)
    rw [show ((3 : Nat) : Int) = 3 from rfl] at hb3
    have hb0 := S_bt l 0 (by omega)
    rw [show ((0 : Nat) : Int) = 0 from rfl] at hb0
    have hb56 := S_bt l 56 (by omega)
    rw [show ((56 : Nat) : Int) = 56 from rfl] at hb56
    have sr := sumG_rng (l.take 60) 1 (by decide) (by decide)
    have e2 : f561F 1000 (sumG 1 (l.take 60), (4 : Int)) = some (ints (bg (sumG 1 (l.take 60)) 4)) := f561q (L := 4) (by omega) (by omega) (by omega)
    have hl60 : (l.take 60).length = 60 := by rw [List.length_take]; omega
    rw [bif_true (by exact sliceB0 (b := 60) (n := 64) (by omega)), S_cut, List.drop_zero, e1, bind_some', e2, bind_some', S_size, hl60, bif_true (by exact sliceB (a := 60) (b := 64) (n := 64) (by omega) (by omega)), S_cut, S_back]
    simp only [show Int.toNat ((60 : Nat) : Int) = 60 from rfl, show Int.toNat ((64 : Nat) : Int) = 64 from rfl]
    rw [List.take_of_length_le (show l.length ≤ 64 by omega), S_eq]
    have h4 : (256 : Int) ^ (l.drop 60).length = 4294967296 := by rw [List.length_drop, hl]; decide
    have hi := bg_iff (n := sumG 1 (l.take 60)) (l := l.drop 60) sr.1 (by omega)
    rw [List.length_drop, hl, show 64 - 60 = 4 from rfl] at hi
    by_cases hc : val (l.drop 60) = sumG 1 (l.take 60)
    · rw [bif_false (by rw [hi.2 hc]; simp)]
      simp only [hc, not_true_eq_false, if_false]
      rw [bif_true (show decide ((3 : Int) < ((64 : Nat) : Int)) = true from rfl), bif_true (show decide ((3 : Int) < ((64 : Nat) : Int)) = true from rfl), hb3, and127']
      rw [show decide (((l.getD 3 0).toNat : Int) ≥ 128) = bsay l by unfold bsay; congr 1; apply propext; omega, show (l.getD 3 0).toNat % 128 = bsz l from rfl]
      have hs : bsz l < 128 := Nat.mod_lt _ (by decide)
      rw [wi (x := (bsz l : Int)) (by omega) (by omega)]
      have hn3 := f561q (n := num) (L := 2) hn (by omega) (by omega)
      rw [show ((2 : Nat) : Int) = 2 from rfl] at hn3
      have e12 : ((l.drop 1).take 2).length = 2 := by rw [List.length_take, List.length_drop]; omega
      have h2p : (256 : Int) ^ ((l.drop 1).take 2).length = 65536 := by rw [e12]; decide
      have hi2 := bg_iff (n := num) (l := (l.drop 1).take 2) hn (by omega)
      rw [e12] at hi2
      have rest : frmB l last = true → f621p1 1000 (fun (w13 : Int × Int × Int × Unit) => some (w13.1, w13.2.1)) (fun (w14 : Int × Unit) => some (w14.1, (0 : Int))) (S l, vol, num, vols, last, (bsz l : Int), bsay l, ()) =
          some (if (if ordB l vol num = false then 14 else if ¬((l.getD 56 0).toNat : Int) = vols then 6 else if bsay l = true then (if last = true then 0 else 10) else if last = true then 9 else 0 : Int) = 0 then ((bsz l : Int), 0)
            else (0, if ordB l vol num = false then 14 else if ¬((l.getD 56 0).toNat : Int) = vols then 6 else if bsay l = true then (if last = true then 0 else 10) else if last = true then 9 else 0)) := by
        intro hf
        unfold f621p1
        simp only [S_size, hl]
        have sA : sliceBds 1 3 ((64 : Nat) : Int) = true := sliceB (a := 1) (b := 3) (n := 64) (by omega) (by omega)
        simp only [show decide ((0 : Int) < ((64 : Nat) : Int)) = true from rfl, show decide ((56 : Int) < ((64 : Nat) : Int)) = true from rfl, cond_true, hb0, hb56, wi_byte, sA, hn3, bind_some', S_cut, S_back, S_eq]
        rw [show (l.take 3).drop 1 = (l.drop 1).take 2 by rw [List.drop_take]]
        unfold ordB
        by_cases h0 : ((l.getD 0 0).toNat : Int) = vol
        · rw [bif_false (by simpa using h0)]
          by_cases h1 : val ((l.drop 1).take 2) = num
          · rw [bif_false (by rw [hi2.2 h1]; simp)]
            simp only [h0, h1, decide_true, Bool.and_self, Bool.true_eq_false, if_false]
            by_cases h2 : ((l.getD 56 0).toNat : Int) = vols
            · rw [bif_false (by simpa using h2)]
              simp only [h2, not_true_eq_false, if_false]
              cases bsay l <;> cases last <;> rfl
            · rw [bif_true (by simpa using h2)]
              simp only [h2, not_false_eq_true, if_true]
              rfl
          · have h3 : ¬ (l.drop 1).take 2 = bg num 2 := fun c => h1 (hi2.1 c.symm)
            rw [bif_true (by simpa using h3)]
            have : decide (val ((l.drop 1).take 2) = num) = false := by simpa using h1
            rw [this, Bool.and_false]
            rfl
        · rw [bif_true (by simpa using h0)]
          have : decide (((l.getD 0 0).toNat : Int) = vol) = false := by simpa using h0
          rw [this]
          rfl
      unfold f621p0
      simp only [S_size, hl, hl60]
      by_cases h1 : 1 ≤ bsz l ∧ bsz l ≤ 52
      · have ea : decide ((bsz l : Int) < 1) = false := by simp; omega
        have eb : decide ((bsz l : Int) > 52) = false := by simp; omega
        have ew : IntKind.i64.wrap (4 + (bsz l : Int)) = ((4 + bsz l : Nat) : Int) := by rw [show (4 : Int) + (bsz l : Int) = ((4 + bsz l : Nat) : Int) by omega]; exact wi (by omega) (by omega)
        have s1 : sliceBds ((4 + bsz l : Nat) : Int) 56 ((64 : Nat) : Int) = true := sliceB (b := 56) (n := 64) (by omega) (by omega)
        have s2 : sliceBds 57 ((60 : Nat) : Int) ((64 : Nat) : Int) = true := sliceB (a := 57) (b := 60) (n := 64) (by omega) (by omega)
        have z1 := f648q ((l.take 56).drop (4 + bsz l)) (by rw [List.length_drop, List.length_take]; omega)
        have z2 := f648q ((l.take 60).drop 57) (by rw [List.length_drop, List.length_take]; omega)
        simp only [ea, eb, cond_false, ew, s1, s2, cond_true, S_cut, Int.toNat_natCast, z1, z2, bind_some']
        by_cases h2 : bsz l < 52
        · have : decide ((bsz l : Int) < 52) = true := by simp; omega
          rw [bif_true this]
          have hd : decide (52 ≤ bsz l) = false := by simp; omega
          cases last with
          | false =>
            have hf : frmB l false = false := by unfold frmB; simp [hd]
            rw [hf]; rfl
          | true =>
            cases hz1 : zs ((l.take 56).drop (4 + bsz l)) with
            | false =>
              have hf : frmB l true = false := by unfold frmB; simp [hz1]
              rw [hf]; rfl
            | true =>
              cases hz2 : zs ((l.take 60).drop 57) with
              | false =>
                have hf : frmB l true = false := by unfold frmB; simp [hz2]
                rw [hf]; rfl
              | true =>
                have hf : frmB l true = true := by unfold frmB; simp [hz1, hz2, h1]
                have hr := rest hf
                simp only [Bool.not_true, cond_false]
                rw [hf]
                exact hr
        · have : decide ((bsz l : Int) < 52) = false := by simp; omega
          rw [bif_false this]
          have hd : decide (52 ≤ bsz l) = true := by simp; omega
          cases hz1 : zs ((l.take 56).drop (4 + bsz l)) with
          | false =>
            have hf : frmB l last = false := by unfold frmB; simp [hz1]
            rw [hf]; rfl
          | true =>
            cases hz2 : zs ((l.take 60).drop 57) with
            | false =>
              have hf : frmB l last = false := by unfold frmB; simp [hz2]
              rw [hf]; rfl
            | true =>
              have hf : frmB l last = true := by unfold frmB; simp [hz1, hz2, h1, hd]
              have hr := rest hf
              simp only [Bool.not_true, cond_false]
              rw [hf]
              exact hr
      · have hf : frmB l last = false := by unfold frmB; simp [h1]
        rw [hf]
        by_cases h2 : bsz l < 1
        · rw [bif_true (by simp; omega)]
          rfl
        · rw [bif_false (by simp; omega), bif_true (by simp; omega)]
          rfl
    · have h3 : ¬ bg (sumG 1 (l.take 60)) 4 = l.drop 60 := fun c => hc (hi.1 c)
      rw [bif_true (by simpa using h3)]
      simp only [hc, not_false_eq_true, if_true]
      rfl
  · rw [bif_true (by simp; omega), if_pos (c := l.length ≠ 64) hl, if_neg (by decide)]
end Go.Proofs.YtobgkcamonlnkaaGreatDoor
set_option linter.unusedVariables false
set_option linter.unusedSimpArgs false
namespace Go.Proofs.YtobgkcamonlnkaaGreatDoor
open Go.Ab

def bL (b : ByteArray) : List UInt8 := b.data.toList
theorem S_bL (b : ByteArray) : S (bL b) = b := S_of b
def pay (b : ByteArray) : List UInt8 := ((bL b).take (4 + bsz (bL b))).drop 4
def bE (V i n k num : Nat) (b : ByteArray) : Int := blkE (bL b) ((i + 1 : Nat) : Int) ((num + 1 : Nat) : Int) (V : Int) (i + 1 == V && k + 1 == n)
def rdBs (V i n : Nat) : List ByteArray → Nat → Nat → List UInt8 → (Nat × Int × Nat × List UInt8) ⊕ (Nat × List UInt8)
  | [], _, num, d => .inr (num, d)
  | b :: t, k, num, d => if bE V i n k num b ≠ 0 then .inl (k, bE V i n k num b, num + 1, d) else rdBs V i n t (k + 1) (num + 1) (d ++ pay b)
def volE (pre : List Vol) (v : Vol) : Int :=
  if isNm v.1 = false then 7 else if (pre.any fun y => strEq y.1 v.1) = true then 13 else if v.2.length > 60 then 2 else if v.2.length = 0 then 1 else 0
def rdVs (vs : List Vol) (V : Nat) : List Vol → Nat → Nat → List UInt8 → (Nat × Nat × Int × List UInt8) ⊕ List UInt8
  | [], _, _, d => .inr d
  | v :: t, i, num, d => if volE (vs.take i) v ≠ 0 then .inl (i, 0, volE (vs.take i) v, d) else
    match rdBs V i v.2.length v.2 0 num d with
    | .inl (k, e, _, d') => .inl (i, k, e, d')
    | .inr (nu, d') => rdVs vs V t (i + 1) nu d'
def rd (vs : List Vol) : (Nat × Nat × Int) ⊕ List UInt8 :=
  if vs.length = 0 then .inl (0, 0, 1) else if vs.length > 6 then .inl (0, 0, 2) else
  match rdVs vs vs.length vs 0 0 [] with
  | .inl (i, k, e, _) => .inl (i, k, e)
  | .inr d => .inr d

theorem blkE_ok {l : List UInt8} {vol num vols : Int} {last : Bool} (h : blkE l vol num vols last = 0) : l.length = 64 ∧ 1 ≤ bsz l ∧ bsz l ≤ 52 := by
  unfold blkE at h
  by_cases h1 : l.length = 64
  · rw [if_neg (fun c => c h1)] at h
    by_cases h2 : val (l.drop 60) = sumG 1 (l.take 60)
    · rw [if_neg (fun c => c h2)] at h
      cases h3 : frmB l last with
      | false => rw [h3, if_pos rfl] at h; exact absurd h (by decide)
      | true =>
        unfold frmB at h3
        simp only [Bool.and_eq_true, decide_eq_true_eq] at h3
        exact ⟨h1, h3.1.1.1, h3.1.1.2⟩
    · rw [if_pos h2] at h; exact absurd h (by decide)
  · rw [if_pos h1] at h; exact absurd h (by decide)
theorem bE_ok {V i n k num : Nat} {b : ByteArray} (h : bE V i n k num b = 0) : (bL b).length = 64 ∧ 1 ≤ bsz (bL b) ∧ bsz (bL b) ≤ 52 := blkE_ok h
theorem ext_pay (b : ByteArray) : b.extract 4 (4 + bsz (bL b)) = S (pay b) := by
  have := S_cut (bL b) 4 (4 + bsz (bL b))
  rw [S_bL] at this
  exact this
theorem pay_len {b : ByteArray} (h : (bL b).length = 64 ∧ 1 ≤ bsz (bL b) ∧ bsz (bL b) ≤ 52) : (pay b).length = bsz (bL b) := by
  unfold pay; rw [List.length_drop, List.length_take]; omega
theorem rdBs_ok {V i n : Nat} : ∀ {m : List ByteArray} {k num : Nat} {d : List UInt8} {nu : Nat} {d' : List UInt8}, rdBs V i n m k num d = .inr (nu, d') →
    nu = num + m.length ∧ d' = d ++ m.flatMap pay ∧ ∀ b ∈ m, (bL b).length = 64 ∧ 1 ≤ bsz (bL b) ∧ bsz (bL b) ≤ 52
  | [], k, num, d, nu, d', h => by
    unfold rdBs at h; cases h
    exact ⟨rfl, by simp, by simp⟩
  | b :: m, k, num, d, nu, d', h => by
    unfold rdBs at h
    by_cases he : bE V i n k num b = 0
    · rw [if_neg (fun c => c he)] at h
      obtain ⟨h1, h2, h3⟩ := rdBs_ok h
      refine ⟨by simp only [List.length_cons]; omega, by rw [h2, List.append_assoc]; rfl, fun x hx => ?_⟩
      rcases List.mem_cons.1 hx with rfl | hx
      · exact bE_ok he
      · exact h3 x hx
    · rw [if_pos he] at h; cases h
theorem pays_len : ∀ {m : List ByteArray}, (∀ b ∈ m, (bL b).length = 64 ∧ 1 ≤ bsz (bL b) ∧ bsz (bL b) ≤ 52) → (m.flatMap pay).length ≤ 52 * m.length := fun h =>
  flat_len pay 52 _ fun x hx => by rw [pay_len (h x hx)]; exact (h x hx).2.2
theorem volE_ok {pre : List Vol} {v : Vol} (h : volE pre v = 0) : isNm v.1 = true ∧ 1 ≤ v.2.length ∧ v.2.length ≤ 60 := by
  unfold volE at h
  cases h1 : isNm v.1 with
  | false => rw [h1, if_pos rfl] at h; exact absurd h (by decide)
  | true =>
    rw [h1, if_neg (by decide)] at h
    cases h2 : (pre.any fun y => strEq y.1 v.1) with
    | true => rw [h2, if_pos rfl] at h; exact absurd h (by decide)
    | false =>
      rw [h2, if_neg (by decide)] at h
      by_cases h3 : v.2.length > 60
      · rw [if_pos h3] at h; exact absurd h (by decide)
      · rw [if_neg h3] at h
        by_cases h4 : v.2.length = 0
        · rw [if_pos h4] at h; exact absurd h (by decide)
        · exact ⟨rfl, by omega, by omega⟩

theorem f622a (m : List UInt8) (h : m.length ≤ 1000000) : f622v0F 1000 (S m, ()) = some ((m.length : Int), ints m, ()) := by
  unfold f622v0F
  simp only [S_bytes, S_size]
  rw [bif_true (by simp [ints_length]; omega), List.nil_append]
theorem f622b (m d : List UInt8) (h : m.length + d.length ≤ 1000000) : f622v1F 1000 (S m, ints d, ()) = some ((m.length : Int), ints (d ++ m), ()) := by
  unfold f622v1F
  simp only [S_bytes, S_size]
  rw [bif_true (by simp [ints_length]; omega), ints_app]

theorem lastB {R : Type} {V i n k : Nat} (hV : 1 ≤ V) (hV2 : V ≤ 100) (hn : 1 ≤ n) (hn2 : n ≤ 100) (F : Bool → Option R) :
    (bif ((i : Int) == IntKind.i64.wrap ((V : Int) - 1)) then F ((k : Int) == IntKind.i64.wrap ((n : Int) - 1)) else F false) = F (i + 1 == V && k + 1 == n) := by
  have e1 : IntKind.i64.wrap ((V : Int) - 1) = ((V - 1 : Nat) : Int) := by rw [show (V : Int) - 1 = ((V - 1 : Nat) : Int) by omega]; exact wi (by omega) (by omega)
  have e2 : IntKind.i64.wrap ((n : Int) - 1) = ((n - 1 : Nat) : Int) := by rw [show (n : Int) - 1 = ((n - 1 : Nat) : Int) by omega]; exact wi (by omega) (by omega)
  rw [e1, e2]
  have e3 : ((i : Int) == ((V - 1 : Nat) : Int)) = (i + 1 == V) := by rw [Bool.eq_iff_iff]; simp; omega
  have e4 : ((k : Int) == ((n - 1 : Nat) : Int)) = (k + 1 == n) := by rw [Bool.eq_iff_iff]; simp; omega
  rw [e3, e4]
  cases (i + 1 == V) <;> rfl

theorem f581p1q {R : Type} (k0 : List Vol × ByteArray × Int × Int × Int × Int × Int × List Vol × Int × Int × List ByteArray × Int × Int × ByteArray × List ByteArray × List Int × Unit → Option R)
    (k1 : List Vol × Int × Int × List Vol × Int × Int × List ByteArray × Int × Int × ByteArray × List ByteArray × List Int × Unit → Option R)
    (vs xs : List Vol) (V2 i2 nb : Int) (i num k : Nat) (nm : ByteArray) (bl : List ByteArray) (d : List UInt8) (b : ByteArray) (hb : bl[k]? = some b)
    (hV : 1 ≤ vs.length) (hV2 : vs.length ≤ 6) (hi : i ≤ 6) (hbl : bl.length ≤ 60) (hnum : num ≤ 1000) (hd : d.length ≤ 100000) :
    f581p1 1000 k0 k1 (vs, (num : Int), (i : Int), xs, V2, i2, bl, nb, (k : Int), nm, bl, ints d, ()) =
      if bE vs.length i bl.length k num b ≠ 0 then k0 (vs, ByteArray.empty, (i : Int), (k : Int), bE vs.length i bl.length k num b, ((num + 1 : Nat) : Int), (i : Int), xs, V2, i2, bl, nb, (k : Int), nm, bl, ints d, ())
      else k1 (vs, ((num + 1 : Nat) : Int), (i : Int), xs, V2, i2, bl, nb, (k : Int), nm, bl, ints (d ++ pay b), ()) := by
  have hk := (List.getElem?_eq_some_iff.1 hb).1
  unfold f581p1
  simp only [inb hk, cond_true, Int.toNat_natCast, getD_of hb, wi_succ (i := i) (by omega), wi_succ (i := num) (by omega)]
  have key : ∀ last : Bool, (Option.bind (f621F 1000 (b, ((i + 1 : Nat) : Int), ((num + 1 : Nat) : Int), (vs.length : Int), last)) fun y16 =>
      bif (y16.2 != (0 : Int)) then
        k0 (vs, ByteArray.empty, (i : Int), (k : Int), y16.2, ((num + 1 : Nat) : Int), (i : Int), xs, V2, i2, bl, nb, (k : Int), nm, bl, ints d, ())
      else
      bif (sliceBds (4 : Int) (IntKind.i64.wrap ((4 : Int) + y16.1)) (b.size : Int)) then
        Option.bind (f622v1F 1000 (b.extract 4 (Int.toNat (IntKind.i64.wrap ((4 : Int) + y16.1))), ints d, ())) fun y18 =>
        k1 (vs, ((num + 1 : Nat) : Int), (i : Int), xs, V2, i2, bl, nb, (k : Int), nm, bl, y18.2.1, ())
      else none) = if blkE (bL b) ((i + 1 : Nat) : Int) ((num + 1 : Nat) : Int) (vs.length : Int) last ≠ 0 then k0 (vs, ByteArray.empty, (i : Int), (k : Int), blkE (bL b) ((i + 1 : Nat) : Int) ((num + 1 : Nat) : Int) (vs.length : Int) last, ((num + 1 : Nat) : Int), (i : Int), xs, V2, i2, bl, nb, (k : Int), nm, bl, ints d, ())
      else k1 (vs, ((num + 1 : Nat) : Int), (i : Int), xs, V2, i2, bl, nb, (k : Int), nm, bl, ints (d ++ pay b), ()) := by
    intro last
    have hq := f621q (bL b) ((i + 1 : Nat) : Int) (vs.length : Int) (num := ((num + 1 : Nat) : Int)) (by omega) (by omega) last
    rw [S_bL] at hq
    rw [hq, bind_some']
    by_cases he : blkE (bL b) ((i + 1 : Nat) : Int) ((num + 1 : Nat) : Int) (vs.length : Int) last = 0
    · rw [if_pos he, if_neg (fun c => c he)]
      obtain ⟨o1, o2, o3⟩ := blkE_ok he
      have ew : IntKind.i64.wrap (4 + (bsz (bL b) : Int)) = ((4 + bsz (bL b) : Nat) : Int) := by rw [show (4 : Int) + (bsz (bL b) : Int) = ((4 + bsz (bL b) : Nat) : Int) by omega]; exact wi (by omega) (by omega)
      have hsz : (b.size : Int) = ((64 : Nat) : Int) := by rw [← S_bL b, S_size, o1]
      have hpl := pay_len ⟨o1, o2, o3⟩
      rw [bif_false (by rfl)]
      simp only [ew, hsz]
      rw [bif_true (by exact sliceB (a := 4) (n := 64) (by omega) (by omega))]
      simp only [Int.toNat_natCast, ext_pay]
      rw [f622b (pay b) d (by omega), bind_some']
    · rw [if_neg he, if_pos he, bif_true (bne0 he)]
  have hl := lastB (R := R) (V := vs.length) (i := i) (n := bl.length) (k := k) hV (by omega) (by omega) (by omega) (fun last => Option.bind (f621F 1000 (b, ((i + 1 : Nat) : Int), ((num + 1 : Nat) : Int), (vs.length : Int), last)) fun y16 =>
      bif (y16.2 != (0 : Int)) then
        k0 (vs, ByteArray.empty, (i : Int), (k : Int), y16.2, ((num + 1 : Nat) : Int), (i : Int), xs, V2, i2, bl, nb, (k : Int), nm, bl, ints d, ())
      else
      bif (sliceBds (4 : Int) (IntKind.i64.wrap ((4 : Int) + y16.1)) (b.size : Int)) then
        Option.bind (f622v1F 1000 (b.extract 4 (Int.toNat (IntKind.i64.wrap ((4 : Int) + y16.1))), ints d, ())) fun y18 =>
        k1 (vs, ((num + 1 : Nat) : Int), (i : Int), xs, V2, i2, bl, nb, (k : Int), nm, bl, y18.2.1, ())
      else none)
  exact hl.trans (key _)
theorem f581p0q {R : Type} (k0 : List Vol × ByteArray × Int × Int × Int × Int × Int × List Vol × Int × Int × List ByteArray × Int × Int × ByteArray × List ByteArray × Unit → Option R)
    (k1 : List Vol × Int × Int × List Vol × Int × Int × List ByteArray × Int × Int × ByteArray × List ByteArray × List Int × Unit → Option R)
    (vs xs : List Vol) (V2 i2 nb : Int) (i num k : Nat) (nm : ByteArray) (bl : List ByteArray) (b : ByteArray) (hb : bl[k]? = some b)
    (hV : 1 ≤ vs.length) (hV2 : vs.length ≤ 6) (hi : i ≤ 6) (hbl : bl.length ≤ 60) (hnum : num ≤ 1000) :
    f581p0 1000 k0 k1 (vs, (num : Int), (i : Int), xs, V2, i2, bl, nb, (k : Int), nm, bl, ()) =
      if bE vs.length i bl.length k num b ≠ 0 then k0 (vs, ByteArray.empty, (i : Int), (k : Int), bE vs.length i bl.length k num b, ((num + 1 : Nat) : Int), (i : Int), xs, V2, i2, bl, nb, (k : Int), nm, bl, ())
      else k1 (vs, ((num + 1 : Nat) : Int), (i : Int), xs, V2, i2, bl, nb, (k : Int), nm, bl, ints (pay b), ()) := by
  have hk := (List.getElem?_eq_some_iff.1 hb).1
  unfold f581p0
  simp only [inb hk, cond_true, Int.toNat_natCast, getD_of hb, wi_succ (i := i) (by omega), wi_succ (i := num) (by omega)]
  have key : ∀ last : Bool, (Option.bind (f621F 1000 (b, ((i + 1 : Nat) : Int), ((num + 1 : Nat) : Int), (vs.length : Int), last)) fun y16 =>
      bif (y16.2 != (0 : Int)) then
        k0 (vs, ByteArray.empty, (i : Int), (k : Int), y16.2, ((num + 1 : Nat) : Int), (i : Int), xs, V2, i2, bl, nb, (k : Int), nm, bl, ())
      else
      bif (sliceBds (4 : Int) (IntKind.i64.wrap ((4 : Int) + y16.1)) (b.size : Int)) then
        Option.bind (f622v0F 1000 (b.extract 4 (Int.toNat (IntKind.i64.wrap ((4 : Int) + y16.1))), ())) fun y18 =>
        k1 (vs, ((num + 1 : Nat) : Int), (i : Int), xs, V2, i2, bl, nb, (k : Int), nm, bl, y18.2.1, ())
      else none) = if blkE (bL b) ((i + 1 : Nat) : Int) ((num + 1 : Nat) : Int) (vs.length : Int) last ≠ 0 then k0 (vs, ByteArray.empty, (i : Int), (k : Int), blkE (bL b) ((i + 1 : Nat) : Int) ((num + 1 : Nat) : Int) (vs.length : Int) last, ((num + 1 : Nat) : Int), (i : Int), xs, V2, i2, bl, nb, (k : Int), nm, bl, ())
      else k1 (vs, ((num + 1 : Nat) : Int), (i : Int), xs, V2, i2, bl, nb, (k : Int), nm, bl, ints (pay b), ()) := by
    intro last
    have hq := f621q (bL b) ((i + 1 : Nat) : Int) (vs.length : Int) (num := ((num + 1 : Nat) : Int)) (by omega) (by omega) last
    rw [S_bL] at hq
    rw [hq, bind_some']
    by_cases he : blkE (bL b) ((i + 1 : Nat) : Int) ((num + 1 : Nat) : Int) (vs.length : Int) last = 0
    · rw [if_pos he, if_neg (fun c => c he)]
      obtain ⟨o1, o2, o3⟩ := blkE_ok he
      have ew : IntKind.i64.wrap (4 + (bsz (bL b) : Int)) = ((4 + bsz (bL b) : Nat) : Int) := by rw [show (4 : Int) + (bsz (bL b) : Int) = ((4 + bsz (bL b) : Nat) : Int) by omega]; exact wi (by omega) (by omega)
      have hsz : (b.size : Int) = ((64 : Nat) : Int) := by rw [← S_bL b, S_size, o1]
      have hpl := pay_len ⟨o1, o2, o3⟩
      rw [bif_false (by rfl)]
      simp only [ew, hsz]
      rw [bif_true (by exact sliceB (a := 4) (n := 64) (by omega) (by omega))]
      simp only [Int.toNat_natCast, ext_pay]
      rw [f622a (pay b) (by omega), bind_some']
    · rw [if_neg he, if_pos he, bif_true (bne0 he)]
  have hl := lastB (R := R) (V := vs.length) (i := i) (n := bl.length) (k := k) hV (by omega) (by omega) (by omega) (fun last => Option.bind (f621F 1000 (b, ((i + 1 : Nat) : Int), ((num + 1 : Nat) : Int), (vs.length : Int), last)) fun y16 =>
      bif (y16.2 != (0 : Int)) then
        k0 (vs, ByteArray.empty, (i : Int), (k : Int), y16.2, ((num + 1 : Nat) : Int), (i : Int), xs, V2, i2, bl, nb, (k : Int), nm, bl, ())
      else
      bif (sliceBds (4 : Int) (IntKind.i64.wrap ((4 : Int) + y16.1)) (b.size : Int)) then
        Option.bind (f622v0F 1000 (b.extract 4 (Int.toNat (IntKind.i64.wrap ((4 : Int) + y16.1))), ())) fun y18 =>
        k1 (vs, ((num + 1 : Nat) : Int), (i : Int), xs, V2, i2, bl, nb, (k : Int), nm, bl, y18.2.1, ())
      else none)
  exact hl.trans (key _)
end Go.Proofs.YtobgkcamonlnkaaGreatDoor
set_option linter.unusedVariables false
set_option linter.unusedSimpArgs false
namespace Go.Proofs.YtobgkcamonlnkaaGreatDoor
open Go.Ab

theorem f581l2q {R : Type} (k0 : List Vol × ByteArray × Int × Int × Int × Int × List Vol × Int × Int × List Int × Unit → Option R) (k1 : List Vol × Int × List Vol × Int × Int × List Int × Unit → Option R)
    (vs xs : List Vol) (V2 i2 : Int) (i : Nat) (nm : ByteArray) (bl : List ByteArray)
    (hV : 1 ≤ vs.length) (hV2 : vs.length ≤ 6) (hi : i ≤ 6) (hbl : bl.length ≤ 60) (k num : Nat) (d : List UInt8) (hk : k ≤ bl.length) (hnum : num ≤ 500 + k) (hd : d.length ≤ 50000 + 52 * k) :
    f581l2 1000 k0 k1 (vs, (num : Int), (i : Int), xs, V2, i2, bl, (bl.length : Int), (k : Int), nm, bl, ints d, ()) =
      match rdBs vs.length i bl.length (bl.drop k) k num d with
      | .inl (k, e, nu, d) => k0 (vs, ByteArray.empty, (i : Int), (k : Int), e, (nu : Int), xs, V2, i2, ints d, ())
      | .inr (nu, d) => k1 (vs, (nu : Int), xs, V2, i2, ints d, ()) := by
  unfold f581l2
  refine iter_from (A := Nat × List UInt8 × Nat) bl (fun k a => (vs, (a.1 : Int), (i : Int), xs, V2, i2, bl, (bl.length : Int), (k : Int), nm, bl, ints a.2.1, ()))
    (fun m a => match rdBs vs.length i bl.length m a.2.2 a.1 a.2.1 with
      | .inl (k, e, nu, d) => k0 (vs, ByteArray.empty, (i : Int), (k : Int), e, (nu : Int), xs, V2, i2, ints d, ())
      | .inr (nu, d) => k1 (vs, (nu : Int), xs, V2, i2, ints d, ()))
    (fun k a => a.2.2 = k ∧ a.1 ≤ 500 + k ∧ a.2.1.length ≤ 50000 + 52 * k) ?_ ?_ (k := 1000) (by omega) k (num, d, k) hk ⟨rfl, hnum, hd⟩
  · intro rec a _
    unfold f581l2s
    simp only [ltn_self, cond_false]
    rfl
  · intro rec j a x hx hj hp
    obtain ⟨nu, d, k⟩ := a
    obtain ⟨h1, h2, h3⟩ := hp
    simp only at h1 h2 h3
    subst h1
    unfold f581l2s
    simp only [ltn hj, cond_true]
    rw [f581p1q _ _ vs xs V2 i2 _ i nu k nm bl d x hx hV hV2 hi hbl (by omega) (by omega)]
    by_cases he : bE vs.length i bl.length k nu x = 0
    · obtain ho := bE_ok he
      have hp := pay_len ho
      rw [if_neg (fun c => c he)]
      refine .inl ⟨(nu + 1, d ++ pay x, k + 1), ⟨rfl, by simp only; omega, by simp only [List.length_append]; omega⟩, by simp only [wi_succ (i := k) (by omega)], ?_⟩
      simp only [rdBs]
      rw [if_neg (fun c => c he)]
    · rw [if_pos he]
      refine .inr ?_
      simp only [rdBs]
      rw [if_pos he]

theorem f581l3q {R : Type} (k0 : List Vol × ByteArray × Int × Int × Int × Int × List Vol × Int × Int × Unit → Option R) (k1 : List Vol × ByteArray × Int × Int × Int × Int × List Vol × Int × Int × List Int × Unit → Option R)
    (k2 : List Vol × Int × List Vol × Int × Int × List Int × Unit → Option R) (k3 : List Vol × Int × List Vol × Int × Int × Unit → Option R)
    (vs xs : List Vol) (V2 i2 : Int) (i : Nat) (nm : ByteArray) (b : ByteArray) (bl : List ByteArray)
    (hV : 1 ≤ vs.length) (hV2 : vs.length ≤ 6) (hi : i ≤ 6) (hbl : (b :: bl).length ≤ 60) (num : Nat) (hnum : num ≤ 400) :
    f581l3 1000 k0 k1 k2 k3 (vs, (num : Int), (i : Int), xs, V2, i2, b :: bl, ((b :: bl).length : Int), (0 : Int), nm, b :: bl, ()) =
      if bE vs.length i (b :: bl).length 0 num b ≠ 0 then k0 (vs, ByteArray.empty, (i : Int), 0, bE vs.length i (b :: bl).length 0 num b, ((num + 1 : Nat) : Int), xs, V2, i2, ())
      else match rdBs vs.length i (b :: bl).length bl 1 (num + 1) (pay b) with
      | .inl (k, e, nu, d) => k1 (vs, ByteArray.empty, (i : Int), (k : Int), e, (nu : Int), xs, V2, i2, ints d, ())
      | .inr (nu, d) => k2 (vs, (nu : Int), xs, V2, i2, ints d, ()) := by
  unfold f581l3
  rw [iterS_1000]
  unfold f581l3s
  have h0 : decide ((0 : Int) < ((b :: bl).length : Int)) = true := by simp
  simp only [h0, cond_true]
  have hp := f581p0q (R := R) (k := 0) (k0 := fun w10 => k0 (w10.1, w10.2.1, w10.2.2.1, w10.2.2.2.1, w10.2.2.2.2.1, w10.2.2.2.2.2.1, w10.2.2.2.2.2.2.2.1, w10.2.2.2.2.2.2.2.2.1, w10.2.2.2.2.2.2.2.2.2.1, ()))
    (k1 := fun w11 => f581l2 1000 (fun w21 => k1 (w21.1, w21.2.1, w21.2.2.1, w21.2.2.2.1, w21.2.2.2.2.1, w21.2.2.2.2.2.1, w21.2.2.2.2.2.2.1, w21.2.2.2.2.2.2.2.1, w21.2.2.2.2.2.2.2.2.1, w21.2.2.2.2.2.2.2.2.2.1, ()))
          (fun w22 => k2 (w22.1, w22.2.1, w22.2.2.1, w22.2.2.2.1, w22.2.2.2.2.1, w22.2.2.2.2.2.1, ()))
          (w11.1, w11.2.1, w11.2.2.1, w11.2.2.2.1, w11.2.2.2.2.1, w11.2.2.2.2.2.1, w11.2.2.2.2.2.2.1, w11.2.2.2.2.2.2.2.1, (IntKind.i64.wrap (w11.2.2.2.2.2.2.2.2.1 + (1 : Int))), w11.2.2.2.2.2.2.2.2.2.1, w11.2.2.2.2.2.2.2.2.2.2.1, w11.2.2.2.2.2.2.2.2.2.2.2.1, ()))
    vs xs V2 i2 ((b :: bl).length : Int) i num nm (b :: bl) b rfl hV hV2 hi hbl (by omega)
  rw [show ((0 : Nat) : Int) = 0 from rfl] at hp
  refine hp.trans ?_
  by_cases he : bE vs.length i (b :: bl).length 0 num b = 0
  · have ho := bE_ok he
    have hpl := pay_len ho
    rw [if_neg (fun c => c he), if_neg (fun c => c he)]
    simp only [show IntKind.i64.wrap ((0 : Int) + 1) = ((1 : Nat) : Int) from rfl]
    rw [f581l2q _ _ vs xs V2 i2 i nm (b :: bl) hV hV2 hi hbl 1 (num + 1) (pay b) (by simp) (by omega) (by omega)]
    rfl
  · rw [if_pos he, if_pos he]

theorem f619q (pre : List Vol) (v : Vol) (h : pre.length ≤ 900) : f619v0F 1000 (pre, v.1, v.2, ()) = some ((pre.any fun y => strEq y.1 v.1), v.1, v.2, ()) := by
  unfold f619v0F f647v0F f647v0l0
  have key := iter_list (k := 1000) (A := Nat) (R := Int × ByteArray × List ByteArray × Unit) (Step := fun rec v => f647v0l0s 1000 rec (fun w2 => some (w2.1, w2.2.1, w2.2.2.1, ())) (fun w3 => some ((-1 : Int), w3.1, w3.2.1, ())) v) pre (fun i _ => (pre, (pre.length : Int), (i : Int), v.1, v.2, ()))
    (fun m i => some (idxN (fun y : Vol => strEq y.1 v.1) m i, v.1, v.2, ())) (fun i a => a = i) ?_ ?_ (by omega) 0 rfl
  · refine (congrArg (fun z => Option.bind z fun y1 => some ((decide (y1.1 ≥ (0 : Int))), y1.2.1, y1.2.2.1, ())) key).trans ?_
    simp only [bind_some']
    rcases idxN_cases (fun y : Vol => strEq y.1 v.1) pre 0 with ⟨h1, h2⟩ | ⟨j, x, h1, h2, h3⟩
    · rw [h1, h2]; rfl
    · have : (pre.any fun y => strEq y.1 v.1) = true := List.any_eq_true.2 ⟨x, List.mem_of_getElem? h2, h3⟩
      rw [h1, this]
      simp
  · intro rec a ha
    unfold f647v0l0s
    simp only [ltn_self, cond_false]
    rfl
  · intro rec i a x hx hi ha
    subst ha
    unfold f647v0l0s f620v0F
    simp only [ltn hi, nn, Bool.and_self, cond_true, Int.toNat_natCast, getD_of hx, wi_succ (i := a) (by omega), bind_some']
    cases hs : strEq x.1 v.1 with
    | true =>
      refine .inr ?_
      simp only [idxN, hs, cond_true, if_true]
    | false =>
      refine .inl ⟨a + 1, rfl, rfl, ?_⟩
      simp only [idxN, hs, Bool.false_eq_true, if_false, cond_false]

theorem f581p5q {R : Type} (k0 : List Vol × ByteArray × Int × Int × Int × Int × List Vol × Int × Int × List Int × Unit → Option R) (k1 : List Vol × Int × List Vol × Int × Int × List Int × Unit → Option R)
    (vs : List Vol) (v : Vol) (V2 : Int) (i num : Nat) (d : List UInt8) (hv : vs[i]? = some v) (hV2 : vs.length ≤ 6) (hnum : num ≤ 400) (hd : d.length ≤ 50000) :
    f581p5 1000 k0 k1 (vs, (num : Int), vs, V2, (i : Int), ints d, ()) =
      if volE (vs.take i) v ≠ 0 then k0 (vs, ByteArray.empty, (i : Int), 0, volE (vs.take i) v, (num : Int), vs, V2, (i : Int), ints d, ())
      else match rdBs vs.length i v.2.length v.2 0 num d with
      | .inl (k, e, nu, d) => k0 (vs, ByteArray.empty, (i : Int), (k : Int), e, (nu : Int), vs, V2, (i : Int), ints d, ())
      | .inr (nu, d) => k1 (vs, (nu : Int), vs, V2, (i : Int), ints d, ()) := by
  have hi := (List.getElem?_eq_some_iff.1 hv).1
  have hsl : sliceBds (0 : Int) (i : Int) (vs.length : Int) = true := sliceB0 (by omega)
  have h619 := f619q (vs.take i) v (by rw [List.length_take]; omega)
  unfold f581p5
  simp only [inb hi, cond_true, Int.toNat_natCast, getD_of hv, f602q 1000 (by decide), bind_some', hsl, List.drop_zero, h619]
  cases h1 : isNm v.1 with
  | false =>
    have : volE (vs.take i) v = 7 := by unfold volE; rw [h1, if_pos rfl]
    rw [this, if_pos (by decide)]; rfl
  | true =>
  simp only [Bool.not_true, cond_false]
  cases h2 : ((vs.take i).any fun y => strEq y.1 v.1) with
  | true =>
    have : volE (vs.take i) v = 13 := by unfold volE; rw [h1, h2, if_neg (by decide), if_pos rfl]
    rw [this, if_pos (by decide)]; rfl
  | false =>
  simp only [cond_false]
  by_cases h3 : v.2.length > 60
  · have : volE (vs.take i) v = 2 := by unfold volE; rw [h1, h2, if_neg (by decide), if_neg (by decide), if_pos h3]
    rw [this, if_pos (by decide), bif_true (by simp; omega)]
  · by_cases h4 : v.2.length = 0
    · have : volE (vs.take i) v = 1 := by unfold volE; rw [h1, h2, if_neg (by decide), if_neg (by decide), if_neg h3, if_pos h4]
      rw [this, if_pos (by decide), bif_false (by simp; omega), bif_true (by rw [h4]; rfl)]
    · have : volE (vs.take i) v = 0 := by unfold volE; rw [h1, h2, if_neg (by decide), if_neg (by decide), if_neg h3, if_neg h4]
      rw [this, if_neg (by decide), bif_false (by simp; omega), bif_false (beq0 (by omega))]
      exact f581l2q _ _ vs vs V2 (i : Int) i v.1 v.2 (by omega) hV2 (by omega) (by omega) 0 num d (by omega) (by omega) (by omega)

theorem rdVs_bnd {V i n num : Nat} {d : List UInt8} {nu : Nat} {d' : List UInt8} {m : List ByteArray} {k : Nat} (h : rdBs V i n m k num d = .inr (nu, d')) (hm : m.length ≤ 60) : nu ≤ num + 60 ∧ d'.length ≤ d.length + 3120 := by
  obtain ⟨h1, h2, h3⟩ := rdBs_ok h
  have := pays_len h3
  rw [h2, List.length_append]
  omega
theorem f581l6q {R : Type} (k0 : ByteArray × Int × Int × Int × List Int × Unit → Option R) (k1 : List Int × Unit → Option R)
    (vs : List Vol) (hV2 : vs.length ≤ 6) (i num : Nat) (d : List UInt8) (hi : i ≤ vs.length) (hnum : num ≤ 60 * i) (hd : d.length ≤ 3120 * i) :
    f581l6 1000 k0 k1 (vs, (num : Int), vs, (vs.length : Int), (i : Int), ints d, ()) =
      match rdVs vs vs.length (vs.drop i) i num d with
      | .inl (i, k, e, d) => k0 (ByteArray.empty, (i : Int), (k : Int), e, ints d, ())
      | .inr d => k1 (ints d, ()) := by
  unfold f581l6
  refine iter_from (A := Nat × List UInt8 × Nat) vs (fun i a => (vs, (a.1 : Int), vs, (vs.length : Int), (i : Int), ints a.2.1, ()))
    (fun m a => match rdVs vs vs.length m a.2.2 a.1 a.2.1 with
      | .inl (i, k, e, d) => k0 (ByteArray.empty, (i : Int), (k : Int), e, ints d, ())
      | .inr d => k1 (ints d, ()))
    (fun i a => a.2.2 = i ∧ a.1 ≤ 60 * i ∧ a.2.1.length ≤ 3120 * i) ?_ ?_ (k := 1000) (by omega) i (num, d, i) hi ⟨rfl, hnum, hd⟩
  · intro rec a _
    unfold f581l6s
    simp only [ltn_self, cond_false]
    rfl
  · intro rec j a v hv hj hp
    obtain ⟨nu, d, i⟩ := a
    obtain ⟨h1, h2, h3⟩ := hp
    simp only at h1 h2 h3
    subst h1
    unfold f581l6s
    simp only [ltn hj, cond_true]
    rw [f581p5q _ _ vs v _ i nu d hv hV2 (by omega) (by omega)]
    by_cases he : volE (vs.take i) v = 0
    · rw [if_neg (fun c => c he)]
      match hr : rdBs vs.length i v.2.length v.2 0 nu d with
      | .inl (k, e, nu', d') =>
        refine .inr ?_
        simp only [rdVs]
        rw [if_neg (fun c => c he), hr]
      | .inr (nu', d') =>
        have hb := rdVs_bnd hr (volE_ok he).2.2
        refine .inl ⟨(nu', d', i + 1), ⟨rfl, by simp only; omega, by simp only; omega⟩, by simp only [wi_succ (i := i) (by omega)], ?_⟩
        simp only [rdVs]
        rw [if_neg (fun c => c he), hr]
    · rw [if_pos he]
      refine .inr ?_
      simp only [rdVs]
      rw [if_pos he]
      rfl
end Go.Proofs.YtobgkcamonlnkaaGreatDoor
set_option linter.unusedVariables false
set_option linter.unusedSimpArgs false
namespace Go.Proofs.YtobgkcamonlnkaaGreatDoor
open Go.Ab

theorem f581p4q {R : Type} (k0 : List Vol × ByteArray × Int × Int × Int × Int × List Vol × Int × Int × Unit → Option R) (k1 : List Vol × ByteArray × Int × Int × Int × Int × List Vol × Int × Int × List Int × Unit → Option R)
    (k2 : List Vol × Int × List Vol × Int × Int × List Int × Unit → Option R) (k3 : List Vol × Int × List Vol × Int × Int × Unit → Option R)
    (v : Vol) (vs : List Vol) (V2 : Int) (hV2 : (v :: vs).length ≤ 6) :
    f581p4 1000 k0 k1 k2 k3 (v :: vs, 0, v :: vs, V2, 0, ()) =
      if volE [] v ≠ 0 then k0 (v :: vs, ByteArray.empty, 0, 0, volE [] v, 0, v :: vs, V2, 0, ())
      else match v.2 with
      | [] => none
      | b :: bl => if bE (v :: vs).length 0 (b :: bl).length 0 0 b ≠ 0 then k0 (v :: vs, ByteArray.empty, 0, 0, bE (v :: vs).length 0 (b :: bl).length 0 0 b, 1, v :: vs, V2, 0, ())
        else match rdBs (v :: vs).length 0 (b :: bl).length bl 1 1 (pay b) with
        | .inl (k, e, nu, d) => k1 (v :: vs, ByteArray.empty, 0, (k : Int), e, (nu : Int), v :: vs, V2, 0, ints d, ())
        | .inr (nu, d) => k2 (v :: vs, (nu : Int), v :: vs, V2, 0, ints d, ()) := by
  have hi : 0 < (v :: vs).length := by simp
  have hsl : sliceBds (0 : Int) 0 ((v :: vs).length : Int) = true := sliceB0 (b := 0) (by omega)
  have h619 := f619q [] v (by simp)
  have hin := inb hi
  rw [show ((0 : Nat) : Int) = 0 from rfl] at hin
  unfold f581p4
  simp only [hin, cond_true, show Int.toNat 0 = 0 from rfl, getD_of (show (v :: vs)[0]? = some v from rfl), f602q 1000 (by decide), bind_some', hsl, List.drop_zero, List.take_zero, h619]
  cases h1 : isNm v.1 with
  | false =>
    have : volE [] v = 7 := by unfold volE; rw [h1, if_pos rfl]
    rw [this, if_pos (by decide)]; rfl
  | true =>
  simp only [Bool.not_true, cond_false, List.any_nil]
  by_cases h3 : v.2.length > 60
  · have : volE [] v = 2 := by unfold volE; rw [h1, List.any_nil, if_neg (by decide), if_neg (by decide), if_pos h3]
    rw [this, if_pos (by decide), bif_true (by simp; omega)]
  · match hb : v.2 with
    | [] =>
      have : volE [] v = 1 := by unfold volE; rw [h1, List.any_nil, if_neg (by decide), if_neg (by decide), if_neg h3, if_pos (by rw [hb]; rfl)]
      rw [this, if_pos (by decide)]; rfl
    | b :: bl =>
      have hl : (b :: bl).length ≤ 60 := by rw [← hb]; omega
      have : volE [] v = 0 := by unfold volE; rw [h1, List.any_nil, if_neg (by decide), if_neg (by decide), if_neg h3, if_neg (by rw [hb]; simp)]
      rw [this, if_neg (by decide), bif_false (by rw [decide_eq_false_iff_not]; omega), bif_false (beq0 (by simp only [List.length_cons]; omega))]
      have h := f581l3q (fun w23 => k0 (w23.1, w23.2.1, w23.2.2.1, w23.2.2.2.1, w23.2.2.2.2.1, w23.2.2.2.2.2.1, w23.2.2.2.2.2.2.1, w23.2.2.2.2.2.2.2.1, w23.2.2.2.2.2.2.2.2.1, ()))
        (fun w24 => k1 (w24.1, w24.2.1, w24.2.2.1, w24.2.2.2.1, w24.2.2.2.2.1, w24.2.2.2.2.2.1, w24.2.2.2.2.2.2.1, w24.2.2.2.2.2.2.2.1, w24.2.2.2.2.2.2.2.2.1, w24.2.2.2.2.2.2.2.2.2.1, ()))
        (fun w25 => k2 (w25.1, w25.2.1, w25.2.2.1, w25.2.2.2.1, w25.2.2.2.2.1, w25.2.2.2.2.2.1, ()))
        (fun w26 => k3 (w26.1, w26.2.1, w26.2.2.1, w26.2.2.2.1, w26.2.2.2.2.1, ()))
        (v :: vs) (v :: vs) V2 0 0 v.1 b bl (by simp) hV2 (by omega) hl 0 (by omega)
      exact h

theorem rdVs_pre {vs : List Vol} {V : Nat} : ∀ {m : List Vol} {i num : Nat} {d d' : List UInt8}, rdVs vs V m i num d = .inr d' →
    d' = d ++ (m.flatMap fun v => v.2.flatMap pay) ∧ ∀ v ∈ m, v.2.length ≤ 60 ∧ ∀ b ∈ v.2, (bL b).length = 64 ∧ 1 ≤ bsz (bL b) ∧ bsz (bL b) ≤ 52
  | [], i, num, d, d', h => by
    simp only [rdVs] at h; cases h
    exact ⟨by simp, by simp⟩
  | v :: m, i, num, d, d', h => by
    simp only [rdVs] at h
    by_cases he : volE (vs.take i) v = 0
    · rw [if_neg (fun c => c he)] at h
      match hr : rdBs V i v.2.length v.2 0 num d, h with
      | .inl (k, e, nu, x), h => cases h
      | .inr (nu, x), h =>
        obtain ⟨h1, h2, h3⟩ := rdBs_ok hr
        obtain ⟨h4, h5⟩ := rdVs_pre h
        refine ⟨by rw [h4, h2, List.append_assoc]; rfl, fun x hx => ?_⟩
        rcases List.mem_cons.1 hx with rfl | hx
        · exact ⟨(volE_ok he).2.2, h3⟩
        · exact h5 x hx
    · rw [if_pos he] at h; cases h
theorem rdVs_err {vs : List Vol} {V : Nat} : ∀ {m : List Vol} {i num : Nat} {d : List UInt8} {i' k : Nat} {e : Int} {d' : List UInt8}, rdVs vs V m i num d = .inl (i', k, e, d') → e ≠ 0
  | [], i, num, d, i', k, e, d', h => by simp only [rdVs] at h; cases h
  | v :: m, i, num, d, i', k, e, d', h => by
    simp only [rdVs] at h
    by_cases he : volE (vs.take i) v = 0
    · rw [if_neg (fun c => c he)] at h
      match hr : rdBs V i v.2.length v.2 0 num d, h with
      | .inl (k, e, nu, x), h =>
        cases h
        have : ∀ {V i n : Nat} {m : List ByteArray} {k num : Nat} {d : List UInt8} {k' nu : Nat} {e : Int} {d' : List UInt8}, rdBs V i n m k num d = .inl (k', e, nu, d') → e ≠ 0 := by
          intro V i n m
          induction m with
          | nil => intro k num d k' nu e d' h; simp only [rdBs] at h; cases h
          | cons b m ih =>
            intro k num d k' nu e d' h
            simp only [rdBs] at h
            by_cases hb : bE V i n k num b = 0
            · rw [if_neg (fun c => c hb)] at h; exact ih h
            · rw [if_pos hb] at h; cases h; exact hb
        exact this hr
      | .inr (nu, x), h => exact rdVs_err h
    · rw [if_pos he] at h; cases h; exact he
theorem rd_err {vs : List Vol} {i k : Nat} {e : Int} (h : rd vs = .inl (i, k, e)) : e ≠ 0 := by
  unfold rd at h
  by_cases h0 : vs.length = 0
  · rw [if_pos h0] at h; cases h; decide
  · rw [if_neg h0] at h
    by_cases h6 : vs.length > 6
    · rw [if_pos h6] at h; cases h; decide
    · rw [if_neg h6] at h
      match hr : rdVs vs vs.length vs 0 0 [], h with
      | .inl (i, k, e, d), h => cases h; exact rdVs_err hr
      | .inr d, h => cases h
theorem rd_ok {vs : List Vol} {d : List UInt8} (h : rd vs = .inr d) : 1 ≤ vs.length ∧ vs.length ≤ 6 ∧ d = (vs.flatMap fun v => v.2.flatMap pay) ∧ ∀ v ∈ vs, v.2.length ≤ 60 ∧ ∀ b ∈ v.2, (bL b).length = 64 ∧ 1 ≤ bsz (bL b) ∧ bsz (bL b) ≤ 52 := by
  unfold rd at h
  by_cases h0 : vs.length = 0
  · rw [if_pos h0] at h; cases h
  · rw [if_neg h0] at h
    by_cases h6 : vs.length > 6
    · rw [if_pos h6] at h; cases h
    · rw [if_neg h6] at h
      match hr : rdVs vs vs.length vs 0 0 [], h with
      | .inl (i, k, e, d), h => cases h
      | .inr d, h =>
        cases h
        obtain ⟨h1, h2⟩ := rdVs_pre hr
        exact ⟨by omega, by omega, by rw [h1]; rfl, h2⟩
theorem rd_len {vs : List Vol} {d : List UInt8} (h : rd vs = .inr d) : d.length ≤ 18720 := by
  obtain ⟨h1, h2, h3, h4⟩ := rd_ok h
  rw [h3]
  have := flat_len (fun v : Vol => v.2.flatMap pay) 3120 vs fun v hv => by
    have := pays_len (h4 v hv).2
    have := (h4 v hv).1
    omega
  omega

theorem range_ints (l : List UInt8) : (List.all (ints l) fun x => decide ((0 : Int) ≤ x) && decide (x ≤ 255)) = true := by
  rw [List.all_eq_true]
  intro x hx
  obtain ⟨b, -, rfl⟩ := List.mem_map.1 hx
  have := byte_rng b
  simp; omega
theorem f581q (vs : List Vol) : f581F 1000 vs = some (match rd vs with | .inl (i, k, e) => (ByteArray.empty, (i : Int), (k : Int), e) | .inr d => (S d, 0, 0, 0)) := by
  unfold f581F rd
  by_cases h0 : vs.length = 0
  · rw [bif_true (by rw [h0]; rfl), if_pos h0]; rfl
  · rw [bif_false (beq0 (by omega)), if_neg h0]
    by_cases h6 : vs.length > 6
    · rw [bif_true (by simp; omega), if_pos h6]; rfl
    · rw [bif_false (by simp; omega), if_neg h6]
      match vs, h0, h6 with
      | v :: vs, h0, h6 =>
        unfold f581p8 f581l7
        rw [iterS_1000]
        unfold f581l7s
        have hd : decide ((0 : Int) < ((v :: vs).length : Int)) = true := by simp
        simp only [hd, cond_true]
        rw [f581p4q _ _ _ _ v vs _ (by omega)]
        have hst : rdVs (v :: vs) (v :: vs).length (v :: vs) 0 0 [] = if volE [] v ≠ 0 then .inl (0, 0, volE [] v, []) else
          match rdBs (v :: vs).length 0 v.2.length v.2 0 0 [] with
          | .inl (k, e, _, d') => .inl (0, k, e, d')
          | .inr (nu, d') => rdVs (v :: vs) (v :: vs).length vs 1 nu d' := rfl
        rw [hst]
        by_cases he : volE [] v = 0
        · rw [if_neg (fun c => c he), if_neg (fun c => c he)]
          obtain ⟨o1, o2, o3⟩ := volE_ok he
          match hb : v.2 with
          | [] => rw [hb] at o2; simp at o2
          | b :: bl =>
            rw [hb] at o3
            simp only
            have hs1 : rdBs (v :: vs).length 0 (b :: bl).length (b :: bl) 0 0 [] = if bE (v :: vs).length 0 (b :: bl).length 0 0 b ≠ 0 then .inl (0, bE (v :: vs).length 0 (b :: bl).length 0 0 b, 1, []) else rdBs (v :: vs).length 0 (b :: bl).length bl 1 1 (pay b) := by
              simp only [rdBs, List.nil_append, Nat.zero_add]
            rw [hs1]
            by_cases hbe : bE (v :: vs).length 0 (b :: bl).length 0 0 b = 0
            · rw [if_neg (fun c => c hbe), if_neg (fun c => c hbe)]
              have hpl := pay_len (bE_ok hbe)
              have hok := bE_ok hbe
              match hr : rdBs (v :: vs).length 0 (b :: bl).length bl 1 1 (pay b) with
              | .inl (k, e, nu, d) => rfl
              | .inr (nu, d) =>
                obtain ⟨q1, q2, q3⟩ := rdBs_ok hr
                have q4 := pays_len q3
                have o4 : bl.length ≤ 59 := by simpa using o3
                have hdl : d.length ≤ 3120 := by rw [q2, List.length_append]; omega
                have h6q := f581l6q (R := ByteArray × Int × Int × Int) (fun w36 => some (w36.1, w36.2.1, w36.2.2.1, w36.2.2.2.1)) (fun w37 => bif (!(List.isEmpty w37.1) && (List.all w37.1 fun x => decide ((0 : Int) ≤ x) && decide (x ≤ 255))) then some ((strOfNums w37.1), (0 : Int), (0 : Int), (0 : Int)) else none)
                  (v :: vs) (by omega) 1 nu d (by simp) (by omega) (by omega)
                refine h6q.trans ?_
                rw [show (v :: vs).drop 1 = vs from rfl]
                show _ = some (match (match rdVs (v :: vs) (v :: vs).length vs 1 nu d with | .inl (i, k, e, _) => .inl (i, k, e) | .inr d => .inr d : (Nat × Nat × Int) ⊕ List UInt8) with | .inl (i, k, e) => (ByteArray.empty, (i : Int), (k : Int), e) | .inr d => (S d, 0, 0, 0))
                match hv : rdVs (v :: vs) (v :: vs).length vs 1 nu d with
                | .inl (i, k, e, d') => rfl
                | .inr d' =>
                  obtain ⟨p1, p2⟩ := rdVs_pre hv
                  have hne : 1 ≤ d'.length := by rw [p1, q2, List.length_append, List.length_append]; omega
                  show (bif (!(List.isEmpty (ints d')) && (List.all (ints d') fun x => decide ((0 : Int) ≤ x) && decide (x ≤ 255))) then some ((strOfNums (ints d')), (0 : Int), (0 : Int), (0 : Int)) else none) = _
                  rw [range_ints, S_back, bif_true]
                  cases d' with
                  | nil => simp at hne
                  | cons x d' => rfl
            · rw [if_pos hbe, if_pos hbe]
              rfl
        · rw [if_pos he, if_pos he]
          rfl
theorem f538q (vs : List Vol) : f538F 1000 vs = some (match rd vs with | .inl (i, k, e) => ([], e) | .inr d => tblsIn d) := by
  unfold f538F
  rw [f581q, bind_some']
  match hr : rd vs with
  | .inl (i, k, e) => simp only; rw [bif_true (bne0 (rd_err hr))]
  | .inr d => simp only [bne00, cond_false, f532q, bind_some']
end Go.Proofs.YtobgkcamonlnkaaGreatDoor
set_option linter.unusedVariables false
set_option linter.unusedSimpArgs false
namespace Go.Proofs.YtobgkcamonlnkaaGreatDoor
open Go.Ab

theorem f582q (vs : List Vol) (v : Vol) (i : Nat) (hv : vs[i]? = some v) (h : vs.length ≤ 900) : f582F 1000 (vs, (i : Int)) = some (volE (vs.take i) v) := by
  have hi := (List.getElem?_eq_some_iff.1 hv).1
  unfold f582F
  simp only [inb hi, cond_true, Int.toNat_natCast, getD_of hv, f603q 1000 (by decide), bind_some']
  cases h1 : isNm v.1 with
  | false =>
    have : volE (vs.take i) v = 7 := by unfold volE; rw [h1, if_pos rfl]
    rw [this]; rfl
  | true =>
  simp only [Bool.not_true, cond_false]
  unfold f582l0
  have hl : (vs.take i).length = i := by rw [List.length_take]; omega
  have key := iter_list (k := 1000) (A := Unit) (R := Int) (Step := fun rec v => f582l0s 1000 rec (fun w3 => some w3.2.2.1) (fun w4 =>
      bif ((decide ((0 : Int) ≤ w4.2.1)) && (decide (w4.2.1 < (w4.1.length : Int)))) then
      let t5 := (decide (((w4.1.getD (Int.toNat w4.2.1) (ByteArray.empty, [])).2.length : Int) > (60 : Int)))
      bif t5 then
        some (2 : Int)
      else
      bif ((decide ((0 : Int) ≤ w4.2.1)) && (decide (w4.2.1 < (w4.1.length : Int)))) then
      let t6 := (((w4.1.getD (Int.toNat w4.2.1) (ByteArray.empty, [])).2.length : Int) == (0 : Int))
      Option.bind (f69F 1000 t6) fun y7 =>
      some (IntKind.i64.wrap ((1 : Int) * y7))
      else none
      else none) v) (vs.take i) (fun j _ => (vs, (i : Int), (j : Int), ()))
    (fun m _ => some (if (m.any fun y => strEq y.1 v.1) = true then 13 else if v.2.length > 60 then 2 else if v.2.length = 0 then 1 else 0)) (fun _ _ => True) ?_ ?_ (by rw [hl]; omega) () trivial
  · refine key.trans ?_
    unfold volE
    rw [if_neg (show ¬ isNm v.1 = false by rw [h1]; decide)]
  · intro rec a _
    unfold f582l0s
    rw [hl]
    simp only [ltn_self, cond_false, inb hi, cond_true, Int.toNat_natCast, getD_of hv]
    rw [if_neg (show ¬ (([] : List Vol).any fun y => strEq y.1 v.1) = true by simp)]
    by_cases h3 : v.2.length > 60
    · rw [if_pos h3, bif_true (by simp; omega)]
    · rw [if_neg h3, bif_false (by simp; omega), f69b, bind_some']
      by_cases h4 : v.2.length = 0
      · rw [if_pos h4, if_pos (by rw [h4]; rfl)]; rfl
      · rw [if_neg h4, if_neg (by simp; intro c; exact h4 (by rw [c]; rfl))]; rfl
  · intro rec j a y hy hj _
    rw [hl] at hj
    have hy' : vs[j]? = some y := by rw [List.getElem?_take, if_pos hj] at hy; exact hy
    unfold f582l0s
    simp only [ltn hj, cond_true, inb (show j < vs.length by omega), inb hi, Int.toNat_natCast, getD_of hy', getD_of hv, wi_succ (i := j) (by omega)]
    cases hs : strEq y.1 v.1 with
    | true =>
      refine .inr ?_
      simp only [cond_true, List.any_cons, hs, Bool.true_or, if_true]
    | false =>
      refine .inl ⟨(), trivial, rfl, ?_⟩
      simp only [List.any_cons, hs, Bool.false_or]

theorem f539p0q {R : Type} (k0 k1 : List Vol × Int × Int × Int × Int × Int × Int × Int × Unit → Option R) (vs : List Vol) (v : Vol) (i k num : Nat) (n : Nat) (A B C : Int) (b : ByteArray)
    (hv : vs[i]? = some v) (hb : v.2[k]? = some b) (hV2 : vs.length ≤ 6) (hbl : v.2.length ≤ 60) (hnum : num ≤ 1000) (hn : n ≤ 100000) :
    f539p0 1000 k0 k1 (vs, (n : Int), (num : Int), (i : Int), (k : Int), A, B, C, ()) =
      if bE vs.length i v.2.length k num b ≠ 0 then k0 (vs, (n : Int), ((num + 1 : Nat) : Int), (i : Int), (k : Int), (i : Int), (k : Int), bE vs.length i v.2.length k num b, ())
      else k1 (vs, ((n + (pay b).length : Nat) : Int), ((num + 1 : Nat) : Int), (i : Int), (k : Int), A, B, C, ()) := by
  have hi := (List.getElem?_eq_some_iff.1 hv).1
  have hk := (List.getElem?_eq_some_iff.1 hb).1
  unfold f539p0
  simp only [inb hi, inb hk, cond_true, Int.toNat_natCast, getD_of hv, getD_of hb, wi_succ (i := i) (by omega), wi_succ (i := num) (by omega)]
  have key : ∀ last : Bool, (Option.bind (f583F 1000 (b, (((i + 1 : Nat) : Int), (((num + 1 : Nat) : Int), (ByteArray.empty, (last, (vs.length : Int))))))) fun y5 =>
      bif (y5 != (0 : Int)) then
        k0 (vs, (n : Int), ((num + 1 : Nat) : Int), (i : Int), (k : Int), (i : Int), (k : Int), y5, ())
      else
      bif (decide ((3 : Int) < (b.size : Int))) then
      k1 (vs, IntKind.i64.wrap ((n : Int) + Int.tmod (IntKind.i64.wrap (bt b (3 : Int))) (128 : Int)), ((num + 1 : Nat) : Int), (i : Int), (k : Int), A, B, C, ())
      else none) = if blkE (bL b) ((i + 1 : Nat) : Int) ((num + 1 : Nat) : Int) (vs.length : Int) last ≠ 0 then k0 (vs, (n : Int), ((num + 1 : Nat) : Int), (i : Int), (k : Int), (i : Int), (k : Int), blkE (bL b) ((i + 1 : Nat) : Int) ((num + 1 : Nat) : Int) (vs.length : Int) last, ())
      else k1 (vs, ((n + (pay b).length : Nat) : Int), ((num + 1 : Nat) : Int), (i : Int), (k : Int), A, B, C, ()) := by
    intro last
    have hq := f583q (bL b) ((i + 1 : Nat) : Int) ((num + 1 : Nat) : Int) (vs.length : Int) last
    rw [S_bL] at hq
    rw [hq, bind_some']
    by_cases he : blkE (bL b) ((i + 1 : Nat) : Int) ((num + 1 : Nat) : Int) (vs.length : Int) last = 0
    · rw [if_neg (fun c => c he), bif_false (by rw [he]; rfl)]
      obtain ⟨o1, o2, o3⟩ := blkE_ok he
      have hpl := pay_len ⟨o1, o2, o3⟩
      have hsz : b.size = 64 := by rw [← S_bL b, S_size, o1]
      have hb3 := S_bt (bL b) 3 (by omega)
      rw [S_bL, show ((3 : Nat) : Int) = 3 from rfl] at hb3
      rw [bif_true (by rw [hsz]; rfl), hb3, wi_byte, tmod_byte, show ((bL b).getD 3 0).toNat % 128 = bsz (bL b) from rfl, hpl, show (n : Int) + (bsz (bL b) : Int) = ((n + bsz (bL b) : Nat) : Int) by omega, wi (x := ((n + bsz (bL b) : Nat) : Int)) (by omega) (by omega)]
    · rw [if_pos he, bif_true (bne0 he)]
  have hl := lastB (R := R) (V := vs.length) (i := i) (n := v.2.length) (k := k) (by omega) (by omega) (by omega) (by omega) (fun last => Option.bind (f583F 1000 (b, (((i + 1 : Nat) : Int), (((num + 1 : Nat) : Int), (ByteArray.empty, (last, (vs.length : Int))))))) fun y5 =>
      bif (y5 != (0 : Int)) then
        k0 (vs, (n : Int), ((num + 1 : Nat) : Int), (i : Int), (k : Int), (i : Int), (k : Int), y5, ())
      else
      bif (decide ((3 : Int) < (b.size : Int))) then
      k1 (vs, IntKind.i64.wrap ((n : Int) + Int.tmod (IntKind.i64.wrap (bt b (3 : Int))) (128 : Int)), ((num + 1 : Nat) : Int), (i : Int), (k : Int), A, B, C, ())
      else none)
  exact hl.trans (key _)
theorem f539l1q {R : Type} (k0 k1 : List Vol × Int × Int × Int × Int × Int × Int × Unit → Option R) (vs : List Vol) (v : Vol) (i num : Nat) (A B C : Int) (d : List UInt8)
    (hv : vs[i]? = some v) (hV2 : vs.length ≤ 6) (hbl : v.2.length ≤ 60) (hnum : num ≤ 500) (hd : d.length ≤ 50000) :
    f539l1 1000 k0 k1 (vs, (d.length : Int), (num : Int), (i : Int), 0, A, B, C, ()) =
      match rdBs vs.length i v.2.length v.2 0 num d with
      | .inl (k, e, nu, d) => k0 (vs, (d.length : Int), (nu : Int), (i : Int), (i : Int), (k : Int), e, ())
      | .inr (nu, d) => k1 (vs, (d.length : Int), (nu : Int), (i : Int), A, B, C, ()) := by
  have hi := (List.getElem?_eq_some_iff.1 hv).1
  unfold f539l1
  have := iter_list (Step := fun rec v => f539l1s 1000 rec k0 k1 v) (A := Nat × List UInt8 × Nat) v.2 (fun k a => (vs, (a.2.1.length : Int), (a.1 : Int), (i : Int), (k : Int), A, B, C, ()))
    (fun m a => match rdBs vs.length i v.2.length m a.2.2 a.1 a.2.1 with
      | .inl (k, e, nu, d) => k0 (vs, (d.length : Int), (nu : Int), (i : Int), (i : Int), (k : Int), e, ())
      | .inr (nu, d) => k1 (vs, (d.length : Int), (nu : Int), (i : Int), A, B, C, ()))
    (fun k a => a.2.2 = k ∧ a.1 ≤ 500 + k ∧ a.2.1.length ≤ 50000 + 52 * k) ?_ ?_ (k := 1000) (by omega) (num, d, 0) ⟨rfl, hnum, by simp only; omega⟩
  · exact this
  · intro rec a _
    unfold f539l1s
    simp only [inb hi, Int.toNat_natCast, getD_of hv, cond_true, ltn_self, cond_false]
    rfl
  · intro rec j a x hx hj hp
    obtain ⟨nu, d, k⟩ := a
    obtain ⟨h1, h2, h3⟩ := hp
    simp only at h1 h2 h3
    subst h1
    unfold f539l1s
    simp only [inb hi, Int.toNat_natCast, getD_of hv, cond_true, ltn hj]
    rw [f539p0q _ _ vs v i k nu d.length A B C x hv hx hV2 hbl (by omega) (by omega)]
    by_cases he : bE vs.length i v.2.length k nu x = 0
    · have hp := pay_len (bE_ok he)
      have hq := (bE_ok he).2.2
      rw [if_neg (fun c => c he)]
      refine .inl ⟨(nu + 1, d ++ pay x, k + 1), ⟨rfl, by simp only; omega, by simp only [List.length_append]; omega⟩, by simp only [wi_succ (i := k) (by omega), List.length_append], ?_⟩
      simp only [rdBs]
      rw [if_neg (fun c => c he)]
    · rw [if_pos he]
      refine .inr ?_
      simp only [rdBs]
      rw [if_pos he]
theorem f539q (vs : List Vol) : f539F 1000 vs = some (match rd vs with | .inl (i, k, e) => ((i : Int), ((k : Int), e)) | .inr d => ((d.length : Int), (0, 0))) := by
  unfold f539F rd
  by_cases h0 : vs.length = 0
  · rw [bif_true (by rw [h0]; rfl), if_pos h0]; rfl
  · rw [bif_false (beq0 (by omega)), if_neg h0]
    by_cases h6 : vs.length > 6
    · rw [bif_true (by simp; omega), if_pos h6]; rfl
    · rw [bif_false (by simp; omega), if_neg h6]
      unfold f539l2
      have key := iter_list (R := Int × Int × Int) (Step := fun rec v => f539l2s 1000 rec (fun w16 => some (w16.2.1, (w16.2.2.1, w16.2.2.2.1))) (fun w17 => some (w17.1, ((0 : Int), (0 : Int)))) v) (A := Nat × List UInt8 × Nat) vs (fun i a => (vs, (a.2.1.length : Int), (a.1 : Int), (i : Int), (0 : Int), (0 : Int), (0 : Int), ()))
        (fun m a => some (match rdVs vs vs.length m a.2.2 a.1 a.2.1 with | .inl (i, k, e, d) => ((i : Int), ((k : Int), e)) | .inr d => ((d.length : Int), (0, 0))))
        (fun i a => a.2.2 = i ∧ a.1 ≤ 60 * i ∧ a.2.1.length ≤ 3120 * i) ?_ ?_ (k := 1000) (by omega) (0, [], 0) ⟨rfl, by simp, by simp⟩
      · refine key.trans ?_
        show some (match rdVs vs vs.length vs 0 0 [] with | .inl (i, k, e, d) => ((i : Int), ((k : Int), e)) | .inr d => ((d.length : Int), (0, 0))) = _
        cases rdVs vs vs.length vs 0 0 [] <;> rfl
      · intro rec a _
        unfold f539l2s
        simp only [ltn_self, cond_false]
        rfl
      · intro rec j a v hv hj hp
        obtain ⟨nu, d, i⟩ := a
        obtain ⟨h1, h2, h3⟩ := hp
        simp only at h1 h2 h3
        subst h1
        unfold f539l2s
        simp only [ltn hj, cond_true, f582q vs v i hv (by omega), bind_some']
        by_cases he : volE (vs.take i) v = 0
        · rw [bif_false (by rw [he]; rfl)]
          rw [f539l1q _ _ vs v i nu 0 0 0 d hv (by omega) (volE_ok he).2.2 (by omega) (by omega)]
          match hr : rdBs vs.length i v.2.length v.2 0 nu d with
          | .inl (k, e, nu', d') =>
            refine .inr ?_
            simp only [rdVs]
            rw [if_neg (fun c => c he), hr]
          | .inr (nu', d') =>
            have hb := rdVs_bnd hr (volE_ok he).2.2
            refine .inl ⟨(nu', d', i + 1), ⟨rfl, by simp only; omega, by simp only; omega⟩, by simp only [wi_succ (i := i) (by omega)], ?_⟩
            simp only [rdVs]
            rw [if_neg (fun c => c he), hr]
        · rw [bif_true (bne0 he)]
          refine .inr ?_
          simp only [rdVs]
          rw [if_pos he]
          rfl
theorem f584q (vs : List Vol) (hV2 : vs.length ≤ 6) (h : ∀ v ∈ vs, v.2.length ≤ 60 ∧ ∀ b ∈ v.2, (bL b).length = 64 ∧ 1 ≤ bsz (bL b) ∧ bsz (bL b) ≤ 52) :
    f584F 1000 vs = some (S (vs.flatMap fun v => v.2.flatMap pay)) := by
  unfold f584F f584l1
  refine (iter_list (A := List UInt8) vs (fun i a => (vs, S a, (i : Int), ())) (fun m a => some (S (a ++ m.flatMap fun v => v.2.flatMap pay))) (fun i a => a.length ≤ 3120 * i) ?_ ?_ (k := 1000) (by omega) [] (by simp)).trans rfl
  · intro rec a _
    unfold f584l1s
    simp only [ltn_self, cond_false, List.flatMap_nil, List.append_nil]
  · intro rec i a v hv hi hp
    obtain ⟨hb, hok⟩ := h v (List.mem_of_getElem? hv)
    have hpl := pays_len hok
    unfold f584l1s f584l0
    simp only [ltn hi, cond_true]
    have key := iter_list (Step := fun rec' v => f584l0s 1000 rec' (fun w4 => rec (w4.1, w4.2.1, (IntKind.i64.wrap (w4.2.2.1 + (1 : Int))), ())) v) (A := List UInt8) v.2 (fun k a => (vs, S a, (i : Int), (k : Int), ())) (fun m a => rec (vs, S (a ++ m.flatMap pay), ((i + 1 : Nat) : Int), ())) (fun k a => a.length ≤ 50000 + 52 * k) ?_ ?_ (k := 1000) (by omega) a (by omega)
    · refine .inl ⟨a ++ v.2.flatMap pay, by rw [List.length_append]; omega, key, ?_⟩
      simp only [List.flatMap_cons, List.append_assoc]
    · intro rec' a _
      unfold f584l0s
      simp only [inb hi, cond_true, Int.toNat_natCast, getD_of hv, ltn_self, cond_false, wi_succ (i := i) (by omega), List.flatMap_nil, List.append_nil]
    · intro rec' k a b hb' hk hp
      obtain ⟨o1, o2, o3⟩ := hok b (List.mem_of_getElem? hb')
      have hpl := pay_len ⟨o1, o2, o3⟩
      have hsz : b.size = 64 := by rw [← S_bL b, S_size, o1]
      have hb3 := S_bt (bL b) 3 (by omega)
      rw [S_bL, show ((3 : Nat) : Int) = 3 from rfl] at hb3
      have ew : IntKind.i64.wrap (4 + (bsz (bL b) : Int)) = ((4 + bsz (bL b) : Nat) : Int) := by rw [show (4 : Int) + (bsz (bL b) : Int) = ((4 + bsz (bL b) : Nat) : Int) by omega]; exact wi (by omega) (by omega)
      have d3 : decide ((3 : Int) < (b.size : Int)) = true := by rw [hsz]; rfl
      have s1 : sliceBds (4 : Int) ((4 + bsz (bL b) : Nat) : Int) (b.size : Int) = true := by rw [hsz]; exact sliceB (a := 4) (n := 64) (by omega) (by omega)
      unfold f584l0s
      simp only [ltn hi, cond_true, Int.toNat_natCast, getD_of hv, ltn hk, nn, Bool.and_self, getD_of hb', d3, hb3, wi_byte, tmod_byte, show ((bL b).getD 3 0).toNat % 128 = bsz (bL b) from rfl, ew, s1, ext_pay, S_app, S_size, wi_succ (i := k) (by omega)]
      rw [bif_true (by simp; omega)]
      refine .inl ⟨a ++ pay b, by rw [List.length_append]; omega, rfl, ?_⟩
      simp only [List.flatMap_cons, List.append_assoc]
theorem f540q (vs : List Vol) : f540F 1000 vs = some (match rd vs with | .inl (i, k, e) => ([], e) | .inr d => tblsIn d) := by
  unfold f540F
  rw [f539q, bind_some']
  match hr : rd vs with
  | .inl (i, k, e) => simp only; rw [bif_true (bne0 (rd_err hr))]
  | .inr d =>
    obtain ⟨h1, h2, h3, h4⟩ := rd_ok hr
    have hl := rd_len hr
    simp only [bne00, cond_false]
    rw [f584q vs h2 h4, bind_some', ← h3, f533q d (by omega), bind_some']

def fewV (v : Vol) : Bool := decide (v.2.length ≤ 62) && v.2.all fun b => decide (b.size ≤ 84)
def fewVs (vs : List Vol) : Bool := decide (vs.length ≤ 8) && vs.all fewV
theorem f535q (vs : List Vol) : f535F 1000 vs = some (fewVs vs) := by
  unfold f535F fewVs
  by_cases h8 : vs.length > 8
  · have : decide (vs.length ≤ 8) = false := by simp; omega
    rw [bif_true (by simp; omega), this]; rfl
  · have : decide (vs.length ≤ 8) = true := by simp; omega
    rw [bif_false (by simp; omega), this, Bool.true_and]
    unfold f535l1
    refine iter_list (A := Unit) vs (fun i a => (vs, (i : Int), ())) (fun m a => some (m.all fewV)) (fun _ _ => True) ?_ ?_ (k := 1000) (by omega) () trivial
    · intro rec a _
      unfold f535l1s
      simp only [ltn_self, cond_false]
      rfl
    · intro rec i a v hv hi _
      unfold f535l1s
      simp only [ltn hi, nn, Bool.and_self, cond_true, Int.toNat_natCast, getD_of hv]
      by_cases h62 : v.2.length > 62
      · refine .inr ?_
        have : fewV v = false := by unfold fewV; rw [decide_eq_false (by omega)]; rfl
        rw [bif_true (by simp; omega), List.all_cons, this]; rfl
      · rw [bif_false (by simp; omega)]
        unfold f535l0
        have key := iter_list (Step := fun rec' v => f535l0s 1000 rec' (fun w4 => some w4.2.1) (fun w5 => rec (w5.1, (IntKind.i64.wrap (w5.2.1 + (1 : Int))), ())) v) (A := Unit) v.2 (fun k _ => (vs, (i : Int), (k : Int), ())) (fun m _ => bif (m.all fun b => decide (b.size ≤ 84)) then rec (vs, ((i + 1 : Nat) : Int), ()) else some false) (fun _ _ => True) ?_ ?_ (k := 1000) (by omega) () trivial
        · by_cases hf : (v.2.all fun b => decide (b.size ≤ 84)) = true
          · have h2 : fewV v = true := by unfold fewV; rw [hf, decide_eq_true (by omega)]; rfl
            refine .inl ⟨(), trivial, key.trans (by rw [bif_true hf]), ?_⟩
            rw [List.all_cons, h2]; rfl
          · have h2 : fewV v = false := by unfold fewV; rw [Bool.eq_false_iff.2 hf, Bool.and_false]
            refine .inr (key.trans ?_)
            rw [bif_false (Bool.eq_false_iff.2 hf), List.all_cons, h2]; rfl
        · intro rec' a _
          unfold f535l0s
          simp only [inb hi, cond_true, Int.toNat_natCast, getD_of hv, ltn_self, cond_false, wi_succ (i := i) (by omega), List.all_nil]
        · intro rec' k a b hb hk _
          unfold f535l0s
          simp only [ltn hi, cond_true, Int.toNat_natCast, getD_of hv, ltn hk, nn, Bool.and_self, getD_of hb, wi_succ (i := k) (by omega), List.all_cons]
          by_cases h84 : b.size > 84
          · refine .inr ?_
            rw [bif_true (by simp; omega), decide_eq_false (show ¬ b.size ≤ 84 by omega)]
            rfl
          · refine .inl ⟨(), trivial, by rw [bif_false (by simp; omega)], ?_⟩
            rw [decide_eq_true (show b.size ≤ 84 by omega), Bool.true_and]
theorem f537q (vs : List Vol) (h : vs.length ≤ 900) (h2 : ∀ v ∈ vs, v.2.length ≤ 900) : f537F 1000 vs = some vs := by
  unfold f537F f537l0
  refine (iter_list (A := List Vol) vs (fun i a => (vs, (i : Int), a, ())) (fun m a => some (a ++ m)) (fun i a => a.length = i) ?_ ?_ (k := 1000) (by omega) [] rfl).trans rfl
  · intro rec a _
    unfold f537l0s
    simp only [ltn_self, cond_false, List.append_nil]
  · intro rec i a v hv hi hp
    unfold f537l0s
    simp only [ltn hi, nn, Bool.and_self, cond_true, Int.toNat_natCast, getD_of hv, f522q v.2 (by have := h2 v (List.mem_of_getElem? hv); omega), bind_some', wi_succ (i := i) (by omega)]
    rw [bif_true (by simp; omega)]
    refine .inl ⟨a ++ [v], by simp [hp], rfl, by simp⟩
theorem fewVs_ok {vs : List Vol} (h : fewVs vs = true) : vs.length ≤ 8 ∧ ∀ v ∈ vs, v.2.length ≤ 62 := by
  unfold fewVs at h
  simp only [Bool.and_eq_true, decide_eq_true_eq, List.all_eq_true] at h
  refine ⟨h.1, fun v hv => ?_⟩
  have := h.2 v hv
  unfold fewV at this
  simp only [Bool.and_eq_true, decide_eq_true_eq] at this
  exact this.1
end Go.Proofs.YtobgkcamonlnkaaGreatDoor
set_option linter.unusedVariables false
set_option linter.unusedSimpArgs false
namespace Go.Proofs.YtobgkcamonlnkaaGreatDoor
open Go.Ab

end Go.Proofs.YtobgkcamonlnkaaGreatDoor
set_option linter.unusedVariables false
set_option linter.unusedSimpArgs false
namespace Go.Proofs.YtobgkcamonlnkaaGreatDoor
open Go.Ab

end Go.Proofs.YtobgkcamonlnkaaGreatDoor
set_option linter.unusedVariables false
set_option linter.unusedSimpArgs false
namespace Go.Proofs.YtobgkcamonlnkaaGreatDoor
open Go.Ab

abbrev dT : Tbl := ((ByteArray.empty, ((ByteArray.empty, []), ([], false))), [])
def nE (l saved : List Tbl) (names : List ByteArray) : List ByteArray → Nat → Int
  | [], _ => 0
  | s :: m, i => if tAt s saved < 0 then 11 else if ((names.take i).any fun y => strEq y s) = true then 13
    else if 0 ≤ tAt s l ∧ lev (l.getD (tAt s l).toNat dT).1 ≠ lev (saved.getD (tAt s saved).toNat dT).1 then 15 else nE l saved names m (i + 1)
def was (l : List Tbl) (s : ByteArray) : Int := if 0 ≤ tAt s l then 1 else 0
def ov (l : List Tbl) (names : List ByteArray) : List Tbl → List Tbl → List Tbl
  | [], o => o
  | t :: m, o => if (names.any fun y => strEq y t.1.1) = false then ov l names m o else if 0 ≤ tAt t.1.1 l then ov l names m (o.set (tAt t.1.1 l).toNat t) else ov l names m (o ++ [t])
noncomputable def resV (vs : List Vol) : List Tbl × Int := match rd vs with | .inl (_, _, e) => ([], e) | .inr d => tblsIn d
noncomputable def ovr (l : List Tbl) (vs : List Vol) (names : List ByteArray) : List Tbl × List Int × Int :=
  if (chkTs l).2 ≠ 0 then ([], [], (chkTs l).2) else if (resV vs).2 ≠ 0 then ([], [], (resV vs).2) else if names.length > 8 then ([], [], 2)
  else if nE l (resV vs).1 names names 0 ≠ 0 then ([], [], nE l (resV vs).1 names names 0)
  else if (ov l names (resV vs).1 l).length > 8 then ([], [], 30) else (ov l names (resV vs).1 l, names.map (was l), 0)
theorem resV_ok (vs : List Vol) (h : (resV vs).2 = 0) : (chkTs (resV vs).1).2 = 0 := by
  unfold resV at h ⊢
  match hr : rd vs with
  | .inl (i, k, e) => rw [hr] at h; exact absurd h (rd_err hr)
  | .inr d =>
    simp only
    rcases tblsIn_ok d with h1 | h1
    · rw [h1]; rfl
    · exact h1.1

theorem f588q (l : List Tbl) (h : l.length ≤ 900) (ht : ∀ t ∈ l, t.1.2.1.2.length ≤ 900 ∧ t.1.2.2.1.length ≤ 900 ∧ t.2.length ≤ 900) : f588F 1000 l = some l := by
  unfold f588F f588l0
  refine (iter_list (A := List Tbl) l (fun i a => (l, (l.length : Int), (i : Int), a, ())) (fun m a => some (a ++ m)) (fun i a => a.length = i) ?_ ?_ (k := 1000) (by omega) [] rfl).trans rfl
  · intro rec a _
    unfold f588l0s
    simp only [ltn_self, cond_false, List.append_nil]
  · intro rec i a t hx hi hp
    obtain ⟨h1, h2, h3⟩ := ht t (List.mem_of_getElem? hx)
    have c1 : f626F 1000 t.1.2.1.2 = some t.1.2.1.2 := by unfold f626F cloneF; rw [bif_true (by simp; omega)]
    have c2 : f627F 1000 t.1.2.2.1 = some t.1.2.2.1 := by unfold f627F cloneF; rw [bif_true (by simp; omega)]
    have c3 : f628F 1000 t.2 = some t.2 := by unfold f628F cloneF; rw [bif_true (by simp; omega)]
    unfold f588l0s
    simp only [ltn hi, nn, Bool.and_self, cond_true, Int.toNat_natCast, getD_of hx, c1, c2, c3, bind_some', wi_succ (i := i) (by omega)]
    rw [bif_true (by simp; omega)]
    refine .inl ⟨a ++ [t], by simp [hp], rfl, by simp⟩

theorem lt_neg1 : decide ((-1 : Int) < 0) = true := rfl
theorem nat_ge (j : Nat) : decide ((j : Int) ≥ 0) = true := by simp
theorem nat_nlt (j : Nat) : decide ((j : Int) < 0) = false := by simp
theorem f542l2q (l saved : List Tbl) (names : List ByteArray) (hl : (chkTs l).2 = 0) (hs : (chkTs saved).2 = 0) (hn : names.length ≤ 8) (k1 : List Tbl × List ByteArray × List Tbl × List Int × Unit → Option (List Tbl × List Int × Int)) :
    f542l2 1000 (fun w18 => some ([], [], w18.2.2.1)) k1 (l, names, names, (names.length : Int), 0, saved, [], ()) =
      if nE l saved names names 0 ≠ 0 then some ([], [], nE l saved names names 0) else k1 (l, names, saved, names.map (was l), ()) := by
  have hl9 := (ts_few hl).1
  have hs9 := (ts_few hs).1
  unfold f542l2
  refine (iter_list (A := List Int) names (fun i w => (l, names, names, (names.length : Int), (i : Int), saved, w, ())) (fun m w => if nE l saved names m w.length ≠ 0 then some ([], [], nE l saved names m w.length) else k1 (l, names, saved, w ++ m.map (was l), ())) (fun i w => w.length = i) ?_ ?_ (k := 1000) (by omega) [] rfl).trans rfl
  · intro rec w _
    unfold f542l2s
    simp only [ltn_self, cond_false]
    rw [if_neg (show ¬ nE l saved names [] w.length ≠ 0 from fun c => c rfl), List.map_nil, List.append_nil]
  · intro rec i w s hx hi hp
    subst hp
    have hsl : sliceBds (0 : Int) (w.length : Int) (names.length : Int) = true := sliceB0 (by omega)
    have h587 := f587q (names.take w.length) s (by rw [List.length_take]; omega)
    unfold f542l2s f542p1
    simp only [ltn hi, nn, Bool.and_self, cond_true, Int.toNat_natCast, getD_of hx, f550q saved s hs9, f550q l s hl9, bind_some', hsl, List.drop_zero, h587, wi_succ (i := w.length) (by omega)]
    have key : ∀ e : Int, e ≠ 0 → nE l saved names (s :: names.drop (w.length + 1)) w.length = e →
        (some ([], [], e) : Option (List Tbl × List Int × Int)) = if nE l saved names (s :: names.drop (w.length + 1)) w.length ≠ 0 then some ([], [], nE l saved names (s :: names.drop (w.length + 1)) w.length) else k1 (l, names, saved, w ++ (s :: names.drop (w.length + 1)).map (was l), ()) := by
      intro e he h
      rw [h, if_pos he]
    rcases tAt_cases s saved with ⟨e1, -⟩ | ⟨j, ts, e1, hj, -⟩
    · refine .inr ?_
      rw [e1, lt_neg1, cond_true]
      refine key 11 (by decide) ?_
      simp only [nE]
      rw [if_pos (by rw [e1]; decide)]
    · rw [e1, nat_nlt, cond_false]
      cases ha : ((names.take w.length).any fun y => strEq y s) with
      | true =>
        refine .inr ?_
        rw [cond_true]
        refine key 13 (by decide) ?_
        simp only [nE]
        rw [if_neg (by rw [e1]; omega), if_pos ha]
      | false =>
        rw [cond_false]
        have hjs := (List.getElem?_eq_some_iff.1 hj).1
        have lev2 := f570q (tbl_ok (ts_mem hs (List.mem_of_getElem? hj))).1
        have step : ∀ (x : Int), was l s = x → nE l saved names (s :: names.drop (w.length + 1)) w.length = nE l saved names (names.drop (w.length + 1)) (w.length + 1) →
            (if nE l saved names (s :: names.drop (w.length + 1)) w.length ≠ 0 then some ([], [], nE l saved names (s :: names.drop (w.length + 1)) w.length) else k1 (l, names, saved, w ++ (s :: names.drop (w.length + 1)).map (was l), ())) =
            if nE l saved names (names.drop (w.length + 1)) (w ++ [x]).length ≠ 0 then some ([], [], nE l saved names (names.drop (w.length + 1)) (w ++ [x]).length) else k1 (l, names, saved, (w ++ [x]) ++ (names.drop (w.length + 1)).map (was l), ()) := by
          intro x hx h
          rw [h, List.length_append, List.length_singleton, List.map_cons, hx, List.append_assoc, List.singleton_append]
        unfold f542p0
        rcases tAt_cases s l with ⟨e2, -⟩ | ⟨p, tl, e2, hp2, -⟩
        · simp only [e2, show decide ((-1 : Int) ≥ 0) = false from rfl, cond_false]
          rw [bif_true (by simp; omega)]
          refine .inl ⟨w ++ [0], by simp, by rw [wi_succ (by omega)], step 0 (by unfold was; rw [e2]; rfl) ?_⟩
          simp only [nE]
          rw [if_neg (by rw [e1]; omega), if_neg (by rw [ha]; decide), if_neg (by rw [e2]; omega)]
        · have hpl := (List.getElem?_eq_some_iff.1 hp2).1
          have lev1 := f570q (tbl_ok (ts_mem hl (List.mem_of_getElem? hp2))).1
          simp only [e2, nat_ge, cond_true, nn, ltn hpl, ltn hjs, Bool.and_self, Int.toNat_natCast, getD_of hp2, getD_of hj]
          rw [show ((tl.1.1, ((tl.1.2.1.1, tl.1.2.1.2), (tl.1.2.2.1, tl.1.2.2.2))) : Fil) = tl.1 from rfl, show ((ts.1.1, ((ts.1.2.1.1, ts.1.2.1.2), (ts.1.2.2.1, ts.1.2.2.2))) : Fil) = ts.1 from rfl, lev1, lev2]
          simp only [bind_some']
          by_cases hv : lev tl.1 = lev ts.1
          · rw [bif_false (by simpa using hv), bif_true (by simp; omega)]
            refine .inl ⟨w ++ [1], by simp, by rw [wi_succ (by omega)], step 1 (by unfold was; rw [e2, if_pos (by omega)]) ?_⟩
            simp only [nE]
            rw [if_neg (by rw [e1]; omega), if_neg (by rw [ha]; decide), if_neg]
            rw [e1, e2, Int.toNat_natCast, Int.toNat_natCast, getD_of hp2, getD_of hj]
            exact fun c => c.2 hv
          · refine .inr ?_
            rw [bif_true (by simpa using hv)]
            refine key 15 (by decide) ?_
            simp only [nE]
            rw [if_neg (by rw [e1]; omega), if_neg (by rw [ha]; decide), if_pos]
            rw [e1, e2, Int.toNat_natCast, Int.toNat_natCast, getD_of hp2, getD_of hj]
            exact ⟨by omega, hv⟩
theorem f542l4q {R : Type} (k0 : List Int × List Tbl × Unit → Option R) (l saved : List Tbl) (names : List ByteArray) (hl : l.length ≤ 8) (hs : saved.length ≤ 8) (hn : names.length ≤ 8) (w : List Int) :
    f542l4 1000 k0 (l, names, (saved.length : Int), 0, w, l, saved, ()) = k0 (w, ov l names saved l, ()) := by
  unfold f542l4
  refine iter_list (A := List Tbl) saved (fun i o => (l, names, (saved.length : Int), (i : Int), w, o, saved, ())) (fun m o => k0 (w, ov l names m o, ())) (fun i o => l.length ≤ o.length ∧ o.length ≤ 8 + i) ?_ ?_ (k := 1000) (by omega) l ⟨Nat.le_refl _, by omega⟩
  · intro rec o _
    unfold f542l4s
    simp only [ltn_self, cond_false, ov]
  · intro rec i o t hx hi hp
    unfold f542l4s f542p3
    simp only [ltn hi, nn, Bool.and_self, cond_true, Int.toNat_natCast, getD_of hx, f587q names t.1.1 (by omega), f550q l t.1.1 (by omega), bind_some', wi_succ (i := i) (by omega)]
    cases ha : (names.any fun y => strEq y t.1.1) with
    | false =>
      refine .inl ⟨o, by omega, rfl, ?_⟩
      simp only [ov]
      rw [if_pos ha]
    | true =>
      simp only [Bool.not_true, cond_false]
      rcases tAt_cases t.1.1 l with ⟨e2, -⟩ | ⟨p, tl, e2, hp2, -⟩
      · simp only [e2, show decide ((-1 : Int) ≥ 0) = false from rfl, cond_false]
        rw [bif_true (by simp; omega)]
        refine .inl ⟨o ++ [t], by simp; omega, rfl, ?_⟩
        simp only [ov]
        rw [if_neg (by rw [ha]; decide), if_neg (by rw [e2]; decide)]
      · have hpl := (List.getElem?_eq_some_iff.1 hp2).1
        simp only [e2, nat_ge, cond_true, nn, ltn (show p < o.length by omega), Bool.and_self, Int.toNat_natCast]
        refine .inl ⟨o.set p t, by simp; omega, rfl, ?_⟩
        simp only [ov]
        rw [if_neg (by rw [ha]; decide), if_pos (by rw [e2]; omega), e2, Int.toNat_natCast]
theorem f538r (vs : List Vol) : f538F 1000 vs = some (resV vs) := by
  rw [f538q]
  unfold resV
  cases rd vs <;> rfl
theorem f540r (vs : List Vol) : f540F 1000 vs = some (resV vs) := by
  rw [f540q]
  unfold resV
  cases rd vs <;> rfl
theorem f542q (l : List Tbl) (vs : List Vol) (names : List ByteArray) : f542F 1000 (l, vs, names) = some (ovr l vs names) := by
  unfold f542F ovr
  simp only [f515q, bind_some', f538r]
  by_cases h1 : (chkTs l).2 = 0
  · rw [bif_false (by rw [h1]; rfl), if_neg (fun c => c h1)]
    by_cases h2 : (resV vs).2 = 0
    · rw [bif_false (by rw [h2]; rfl), if_neg (fun c => c h2)]
      have hs := resV_ok vs h2
      obtain ⟨l9, lf⟩ := ts_few h1
      have hl8 := (ts_ok h1).1
      have hs8 := (ts_ok hs).1
      by_cases h3 : names.length > 8
      · rw [bif_true (by simp; omega), if_pos h3]
      · rw [bif_false (by simp; omega), if_neg h3]
        rw [f542l2q l (resV vs).1 names h1 hs (by omega)]
        by_cases h4 : nE l (resV vs).1 names names 0 = 0
        · rw [if_neg (fun c => c h4), if_neg (fun c => c h4)]
          simp only [f588q l l9 lf, bind_some']
          rw [f542l4q _ l (resV vs).1 names hl8 hs8 (by omega)]
          by_cases h5 : (ov l names (resV vs).1 l).length > 8
          · rw [bif_true (by simp; omega), if_pos h5]
          · rw [bif_false (by simp; omega), if_neg h5]
        · rw [if_pos h4, if_pos h4]
    · rw [bif_true (bne0 h2), if_pos h2]
  · rw [bif_true (bne0 h1), if_pos h1]
end Go.Proofs.YtobgkcamonlnkaaGreatDoor
set_option linter.unusedVariables false
set_option linter.unusedSimpArgs false
namespace Go.Proofs.YtobgkcamonlnkaaGreatDoor
open Go.Ab

def mor (l : List Tbl) (m : List ByteArray) : Nat := (m.filter fun s => decide (tAt s l < 0)).length
theorem mor_cons (l : List Tbl) (s : ByteArray) (m : List ByteArray) : mor l (s :: m) = (if tAt s l < 0 then 1 else 0) + mor l m := by
  unfold mor
  by_cases h : tAt s l < 0
  · rw [List.filter_cons_of_pos (by simpa using h), if_pos h, List.length_cons]; omega
  · rw [List.filter_cons_of_neg (by simpa using h), if_neg h]; omega
theorem tAt_m1 (s : ByteArray) (l : List Tbl) : (tAt s l == -1) = decide (tAt s l < 0) := by
  rcases tAt_cases s l with ⟨e, -⟩ | ⟨j, t, e, -⟩
  · rw [e]; rfl
  · rw [e]
    rw [Bool.eq_iff_iff]; simp
theorem f589q (l saved : List Tbl) (names : List ByteArray) (hl : (chkTs l).2 = 0) (hs : (chkTs saved).2 = 0) :
    f589F 1000 (l, saved, names) = some (if names.length > 8 then 2 else if nE l saved names names 0 ≠ 0 then nE l saved names names 0 else if l.length + mor l names > 8 then 30 else 0) := by
  have hl8 := (ts_ok hl).1
  have hs8 := (ts_ok hs).1
  unfold f589F
  by_cases h8 : names.length > 8
  · rw [bif_true (by simp; omega), if_pos h8]
  rw [bif_false (by simp; omega), if_neg h8]
  unfold f589l1
  refine (iter_list (A := Nat × Nat) names (fun i a => (l, saved, names, (a.2 : Int), (i : Int), ())) (fun m a => some (if nE l saved names m a.1 ≠ 0 then nE l saved names m a.1 else if l.length + (a.2 + mor l m) > 8 then 30 else 0)) (fun i a => a.1 = i ∧ a.2 ≤ i) ?_ ?_ (k := 1000) (by omega) (0, 0) ⟨rfl, by simp⟩).trans (by simp only [Nat.zero_add])
  · intro rec a hp
    unfold f589l1s
    simp only [ltn_self, cond_false]
    have w1 : IntKind.i64.wrap ((l.length : Int) + (a.2 : Int)) = ((l.length + a.2 : Nat) : Int) := by rw [show (l.length : Int) + (a.2 : Int) = ((l.length + a.2 : Nat) : Int) by omega]; exact wi (by omega) (by omega)
    rw [if_neg (show ¬ nE l saved names [] a.1 ≠ 0 from fun c => c rfl), w1, f69b, bind_some', show mor l [] = 0 from rfl, Nat.add_zero]
    by_cases h : l.length + a.2 > 8
    · rw [if_pos h, if_pos (by simp; omega)]; rfl
    · rw [if_neg h, if_neg (by simp; omega)]; rfl
  · intro rec i a s hx hi hp
    obtain ⟨n, c⟩ := a
    obtain ⟨h1, h2⟩ := hp
    simp only at h1 h2
    subst h1
    have hidx := idxN_lt (fun z : ByteArray => strEq z s) names 0 n s hx (strEq_self _)
    rw [Nat.zero_add] at hidx
    unfold f589l1s
    simp only [ltn hi, nn, Bool.and_self, cond_true, Int.toNat_natCast, getD_of hx, f545q saved s (by omega), f545q l s (by omega), bind_some', f590q names s (by omega), hidx, wi_succ (i := n) (by omega)]
    have key : ∀ e : Int, e ≠ 0 → nE l saved names (s :: names.drop (n + 1)) n = e →
        (some e : Option Int) = some (if nE l saved names (s :: names.drop (n + 1)) n ≠ 0 then nE l saved names (s :: names.drop (n + 1)) n else if l.length + (c + mor l (s :: names.drop (n + 1))) > 8 then 30 else 0) := by
      intro e he h
      rw [h, if_pos he]
    rcases tAt_cases s saved with ⟨e1, -⟩ | ⟨j, ts, e1, hj, -⟩
    · refine .inr ?_
      rw [e1, show ((-1 : Int) == -1) = true from rfl, cond_true]
      refine key 11 (by decide) ?_
      simp only [nE]
      rw [if_pos (by rw [e1]; decide)]
    · have hjs := (List.getElem?_eq_some_iff.1 hj).1
      have e1m : (((j : Int)) == -1) = false := by rw [Bool.eq_false_iff]; intro c; have := eq_of_beq c; omega
      rw [e1, e1m, cond_false]
      cases ha : ((names.take n).any fun y => strEq y s) with
      | true =>
        refine .inr ?_
        rw [cond_true]
        refine key 13 (by decide) ?_
        simp only [nE]
        rw [if_neg (by rw [e1]; omega), if_pos ha]
      | false =>
        rw [cond_false]
        have lev2 := f528q (tbl_ok (ts_mem hs (List.mem_of_getElem? hj))).1
        have step : ∀ x : Nat, (if tAt s l < 0 then 1 else 0) = x → nE l saved names (s :: names.drop (n + 1)) n = nE l saved names (names.drop (n + 1)) (n + 1) →
            some (if nE l saved names (s :: names.drop (n + 1)) n ≠ 0 then nE l saved names (s :: names.drop (n + 1)) n else if l.length + (c + mor l (s :: names.drop (n + 1))) > 8 then 30 else 0) =
            some (if nE l saved names (names.drop (n + 1)) (n + 1) ≠ 0 then nE l saved names (names.drop (n + 1)) (n + 1) else if l.length + (c + x + mor l (names.drop (n + 1))) > 8 then 30 else 0) := by
          intro x hx h
          rw [h, mor_cons, hx, Nat.add_assoc]
        unfold f589p0
        rcases tAt_cases s l with ⟨e2, -⟩ | ⟨p, tl, e2, hp2, -⟩
        · simp only [e2, show ((-1 : Int) != -1) = false from rfl, cond_false, show ((-1 : Int) == -1) = true from rfl, f69b, bind_some', if_true]
          refine .inl ⟨(n + 1, c + 1), ⟨rfl, by simp only; omega⟩, by rw [wi_succ (by omega), wi_succ (by omega)], step 1 (by rw [if_pos (by rw [e2]; decide)]) ?_⟩
          simp only [nE]
          rw [if_neg (by rw [e1]; omega), if_neg (by rw [ha]; decide), if_neg (by rw [e2]; omega)]
        · have hpl := (List.getElem?_eq_some_iff.1 hp2).1
          have lev1 := f528q (tbl_ok (ts_mem hl (List.mem_of_getElem? hp2))).1
          have e2m : (((p : Int)) == -1) = false := by rw [Bool.eq_false_iff]; intro c; have := eq_of_beq c; omega
          have e2n : (((p : Int)) != -1) = true := by rw [bne, e2m]; rfl
          simp only [e2, e2n, e2m, cond_true, nn, ltn hpl, ltn hjs, Bool.and_self, Int.toNat_natCast, getD_of hp2, getD_of hj]
          rw [show ((tl.1.1, ((tl.1.2.1.1, tl.1.2.1.2), (tl.1.2.2.1, tl.1.2.2.2))) : Fil) = tl.1 from rfl, show ((ts.1.1, ((ts.1.2.1.1, ts.1.2.1.2), (ts.1.2.2.1, ts.1.2.2.2))) : Fil) = ts.1 from rfl, lev1, lev2]
          simp only [bind_some', f69b, Bool.false_eq_true, if_false]
          by_cases hv : lev tl.1 = lev ts.1
          · rw [bif_false (by simpa using hv)]
            refine .inl ⟨(n + 1, c), ⟨rfl, by simp only; omega⟩, by rw [wi_succ (by omega), Int.add_zero, wi (x := (c : Int)) (by omega) (by omega)], step 0 (by rw [if_neg (by rw [e2]; omega)]) ?_⟩
            simp only [nE]
            rw [if_neg (by rw [e1]; omega), if_neg (by rw [ha]; decide), if_neg]
            rw [e1, e2, Int.toNat_natCast, Int.toNat_natCast, getD_of hp2, getD_of hj]
            exact fun c => c.2 hv
          · refine .inr ?_
            rw [bif_true (by simpa using hv)]
            refine key 15 (by decide) ?_
            simp only [nE]
            rw [if_neg (by rw [e1]; omega), if_neg (by rw [ha]; decide), if_pos]
            rw [e1, e2, Int.toNat_natCast, Int.toNat_natCast, getD_of hp2, getD_of hj]
            exact ⟨by omega, hv⟩

theorem nd_le {α : Type} [DecidableEq α] : ∀ {a b : List α}, a.Nodup → (∀ x ∈ a, x ∈ b) → a.length ≤ b.length
  | [], b, _, _ => by simp
  | x :: a, b, hn, h => by
    obtain ⟨h1, h2⟩ := List.nodup_cons.1 hn
    have hx := h x (by simp)
    have := nd_le (a := a) (b := b.erase x) h2 fun y hy => (List.mem_erase_of_ne (fun e => h1 (by rw [← e]; exact hy))).2 (h y (by simp [hy]))
    rw [List.length_erase_of_mem hx] at this
    have hp : 0 < b.length := List.length_pos_of_mem hx
    simp only [List.length_cons]
    omega
def nw (l : List Tbl) (names : List ByteArray) (t : Tbl) : Bool := (names.any fun y => strEq y t.1.1) && decide (tAt t.1.1 l < 0)
theorem ov_len (l : List Tbl) (names : List ByteArray) : ∀ (m o : List Tbl), (ov l names m o).length = o.length + (m.filter (nw l names)).length
  | [], o => by simp [ov]
  | t :: m, o => by
    simp only [ov]
    cases ha : (names.any fun y => strEq y t.1.1) with
    | false =>
      have h : nw l names t = false := by unfold nw; rw [ha]; rfl
      rw [if_pos rfl, ov_len l names m o, List.filter_cons_of_neg (by rw [h]; decide)]
    | true =>
      rw [if_neg (show ¬ true = false by decide)]
      by_cases h0 : 0 ≤ tAt t.1.1 l
      · have h : nw l names t = false := by unfold nw; rw [ha, decide_eq_false (by omega)]; rfl
        rw [if_pos h0, ov_len l names m _, List.filter_cons_of_neg (by rw [h]; decide), List.length_set]
      · have h : nw l names t = true := by unfold nw; rw [ha, decide_eq_true (by omega)]; rfl
        rw [if_neg h0, ov_len l names m _, List.filter_cons_of_pos h, List.length_append, List.length_cons, List.length_cons, List.length_nil]
        omega
theorem nE_ok {l saved : List Tbl} {names : List ByteArray} : ∀ {m : List ByteArray} {i : Nat}, nE l saved names m i = 0 → ∀ (j : Nat) s, m[j]? = some s → 0 ≤ tAt s saved ∧ ((names.take (i + j)).any fun y => strEq y s) = false
  | [], i, h, j, s, hs => by simp at hs
  | x :: m, i, h, j, s, hs => by
    unfold nE at h
    by_cases h1 : tAt x saved < 0
    · rw [if_pos h1] at h; exact absurd h (by decide)
    · rw [if_neg h1] at h
      cases h2 : ((names.take i).any fun y => strEq y x) with
      | true => rw [if_pos h2] at h; exact absurd h (by decide)
      | false =>
        rw [if_neg (show ¬ ((names.take i).any fun y => strEq y x) = true by rw [h2]; decide)] at h
        split at h
        · exact absurd h (by decide)
        · cases j with
          | zero =>
            simp only [List.getElem?_cons_zero, Option.some.injEq] at hs
            subst hs
            exact ⟨by omega, h2⟩
          | succ j =>
            rw [List.getElem?_cons_succ] at hs
            have := nE_ok h j s hs
            rwa [show i + 1 + j = i + (j + 1) by omega] at this
theorem nodup_of {l : List ByteArray} (h : ∀ (j : Nat) s, l[j]? = some s → ((l.take j).any fun y => strEq y s) = false) : l.Nodup := by
  rw [List.nodup_iff_pairwise_ne, List.pairwise_iff_getElem]
  intro i j hi hj hij e
  have hx : l[j]? = some l[j] := List.getElem?_eq_getElem hj
  have h1 := h j _ hx
  have : ((l.take j).any fun y => strEq y l[j]) = true := List.any_eq_true.2 ⟨l[i], List.mem_iff_getElem?.2 ⟨i, by rw [List.getElem?_take, if_pos hij, List.getElem?_eq_getElem hi]⟩, strEq_iff.2 e⟩
  rw [this] at h1
  exact absurd h1 (by decide)
theorem new_eq {l saved : List Tbl} {names : List ByteArray} (hs : (chkTs saved).2 = 0) (h : nE l saved names names 0 = 0) : (saved.filter (nw l names)).length = mor l names := by
  have nd1 : names.Nodup := nodup_of fun j s hj => by have := (nE_ok h j s hj).2; rwa [Nat.zero_add] at this
  have nd2 : (saved.map fun t => t.1.1).Nodup := nodup_of fun j s hj => by
    rw [List.getElem?_map] at hj
    match ht : saved[j]?, hj with
    | some t, hj =>
      cases hj
      have := ((ts_ok hs).2 j t ht).2
      rw [← List.map_take, List.any_map]
      exact this
  have nd3 : ((saved.filter (nw l names)).map fun t => t.1.1).Nodup := nd2.sublist ((List.filter_sublist (p := nw l names)).map _)
  have nd4 : (names.filter fun s => decide (tAt s l < 0)).Nodup := nd1.sublist List.filter_sublist
  have e : ((saved.filter (nw l names)).map fun t => t.1.1).length = (saved.filter (nw l names)).length := List.length_map ..
  unfold mor
  rw [← e]
  refine Nat.le_antisymm (nd_le nd3 fun x hx => ?_) (nd_le nd4 fun x hx => ?_)
  · obtain ⟨t, ht, rfl⟩ := List.mem_map.1 hx
    obtain ⟨-, h2⟩ := List.mem_filter.1 ht
    unfold nw at h2
    simp only [Bool.and_eq_true, List.any_eq_true] at h2
    obtain ⟨⟨y, hy, he⟩, h3⟩ := h2
    obtain rfl := strEq_iff.1 he
    exact List.mem_filter.2 ⟨hy, h3⟩
  · obtain ⟨h1, h2⟩ := List.mem_filter.1 hx
    obtain ⟨j, hj⟩ := List.mem_iff_getElem?.1 h1
    have h3 := (nE_ok h j x hj).1
    rcases tAt_cases x saved with ⟨e1, -⟩ | ⟨p, t, e1, hp, hn⟩
    · rw [e1] at h3; exact absurd h3 (by decide)
    · refine List.mem_map.2 ⟨t, List.mem_filter.2 ⟨List.mem_of_getElem? hp, ?_⟩, hn⟩
      unfold nw
      rw [hn, h2, Bool.and_true]
      exact List.any_eq_true.2 ⟨x, h1, strEq_self x⟩

theorem f590m (names : List ByteArray) (s : ByteArray) (h : names.length ≤ 900) : ∃ y, f590F 1000 (names, s) = some y ∧ (y == -1) = !(names.any fun y => strEq y s) := ⟨_, f590q names s h, idxN_none _ _ _⟩
theorem tAt_m1' (s : ByteArray) (l : List Tbl) : (tAt s l != -1) = decide (0 ≤ tAt s l) := by
  rw [bne, tAt_m1, Bool.eq_iff_iff]; simp
theorem was_b (s : ByteArray) (l : List Tbl) : f69F 1000 (tAt s l != -1) = some (was l s) := by
  rw [f69b, tAt_m1']
  unfold was
  by_cases h : 0 ≤ tAt s l <;> simp [h]
theorem f543l0q {R : Type} (k0 : List Tbl × List ByteArray × Int × List Tbl × Int × List Tbl × List Int × List Tbl × List Int × Unit → Option R) (l saved a o : List Tbl) (b : List Int) (names : List ByteArray) (c e : Int) (hl : l.length ≤ 8) (hn : names.length ≤ 8) (i : Nat) (hi : i ≤ names.length) (w : List Int) (hw : w.length = i) :
    f543l0 1000 k0 (l, names, (i : Int), c, saved, e, a, b, o, w, ()) = k0 (l, names, c, saved, e, a, b, o, w ++ (names.drop i).map (was l), ()) := by
  unfold f543l0
  refine iter_from (A := List Int) names (fun i w => (l, names, (i : Int), c, saved, e, a, b, o, w, ())) (fun m w => k0 (l, names, c, saved, e, a, b, o, w ++ m.map (was l), ())) (fun i w => w.length = i) ?_ ?_ (k := 1000) (by omega) i w hi hw
  · intro rec w _
    unfold f543l0s
    simp only [ltn_self, cond_false, List.map_nil, List.append_nil]
  · intro rec i w s hx hi hp
    unfold f543l0s
    simp only [ltn hi, nn, Bool.and_self, cond_true, Int.toNat_natCast, getD_of hx, f545q l s (by omega), bind_some', was_b, wi_succ (i := i) (by omega)]
    rw [bif_true (by simp; omega)]
    refine .inl ⟨w ++ [was l s], by simp [hp], rfl, by rw [List.map_cons, List.append_assoc]; rfl⟩
theorem f543l4q {R : Type} (k0 : Int × Int × List Tbl × List Int × List Tbl × List Int × Unit → Option R) (l saved a : List Tbl) (b w : List Int) (names : List ByteArray) (c e : Int) (hl : l.length ≤ 8) (hs : (chkTs saved).2 = 0) (hn : names.length ≤ 8) :
    f543l4 1000 k0 (l, names, 0, c, saved, e, a, b, l, w, ()) = k0 (c, e, a, b, ov l names saved l, w, ()) := by
  have hs8 := (ts_ok hs).1
  have hsf := (ts_few hs).2
  unfold f543l4
  refine iter_list (A := List Tbl) saved (fun i o => (l, names, (i : Int), c, saved, e, a, b, o, w, ())) (fun m o => k0 (c, e, a, b, ov l names m o, w, ())) (fun i o => l.length ≤ o.length ∧ o.length ≤ 8 + i) ?_ ?_ (k := 1000) (by omega) l ⟨Nat.le_refl _, by omega⟩
  · intro rec o _
    unfold f543l4s
    simp only [ltn_self, cond_false, ov]
  · intro rec i o t hx hi hp
    obtain ⟨y, hy, hym⟩ := f590m names t.1.1 (by omega)
    obtain ⟨q1, q2, q3⟩ := hsf t (List.mem_of_getElem? hx)
    have h551 := f551q t (by omega) (by omega) (by omega)
    unfold f543l4s f543p3
    simp only [ltn hi, nn, Bool.and_self, cond_true, Int.toNat_natCast, getD_of hx, hy, hym, f545q l t.1.1 (by omega), bind_some', wi_succ (i := i) (by omega), tAt_m1']
    cases ha : (names.any fun y => strEq y t.1.1) with
    | false =>
      refine .inl ⟨o, by omega, rfl, ?_⟩
      simp only [ov]
      rw [if_pos ha]
    | true =>
      simp only [Bool.not_true, cond_false]
      rw [show ((t.1.1, ((t.1.2.1.1, t.1.2.1.2), (t.1.2.2.1, t.1.2.2.2))), t.2) = t from rfl, h551]
      simp only [bind_some']
      rcases tAt_cases t.1.1 l with ⟨e2, -⟩ | ⟨p, tl, e2, hp2, -⟩
      · simp only [e2, show decide ((0 : Int) ≤ -1) = false from rfl, cond_false]
        rw [bif_true (by simp; omega)]
        refine .inl ⟨o ++ [t], by simp; omega, rfl, ?_⟩
        simp only [ov]
        rw [if_neg (by rw [ha]; decide), if_neg (by rw [e2]; decide)]
      · have hpl := (List.getElem?_eq_some_iff.1 hp2).1
        simp only [e2, nn, cond_true, ltn (show p < o.length by omega), Bool.and_self, Int.toNat_natCast]
        refine .inl ⟨o.set p t, by simp; omega, rfl, ?_⟩
        simp only [ov]
        rw [if_neg (by rw [ha]; decide), if_pos (by rw [e2]; omega), e2, Int.toNat_natCast]
theorem f543l6q {R : Type} (k0 : Int × Int × List Tbl × List Int × List Tbl × Unit → Option R) (l saved a : List Tbl) (b : List Int) (names : List ByteArray) (c e : Int) (hl : l.length ≤ 8) (hs : (chkTs saved).2 = 0) (hn : names.length ≤ 8) :
    f543l6 1000 k0 (l, names, 0, c, saved, e, a, b, l, ()) = k0 (c, e, a, b, ov l names saved l, ()) := by
  have hs8 := (ts_ok hs).1
  have hsf := (ts_few hs).2
  unfold f543l6
  refine iter_list (A := List Tbl) saved (fun i o => (l, names, (i : Int), c, saved, e, a, b, o, ())) (fun m o => k0 (c, e, a, b, ov l names m o, ())) (fun i o => l.length ≤ o.length ∧ o.length ≤ 8 + i) ?_ ?_ (k := 1000) (by omega) l ⟨Nat.le_refl _, by omega⟩
  · intro rec o _
    unfold f543l6s
    simp only [ltn_self, cond_false, ov]
  · intro rec i o t hx hi hp
    obtain ⟨y, hy, hym⟩ := f590m names t.1.1 (by omega)
    obtain ⟨q1, q2, q3⟩ := hsf t (List.mem_of_getElem? hx)
    have h551 := f551q t (by omega) (by omega) (by omega)
    unfold f543l6s f543p5
    simp only [ltn hi, nn, Bool.and_self, cond_true, Int.toNat_natCast, getD_of hx, hy, hym, f545q l t.1.1 (by omega), bind_some', wi_succ (i := i) (by omega), tAt_m1']
    cases ha : (names.any fun y => strEq y t.1.1) with
    | false =>
      refine .inl ⟨o, by omega, rfl, ?_⟩
      simp only [ov]
      rw [if_pos ha]
    | true =>
      simp only [Bool.not_true, cond_false]
      rw [show ((t.1.1, ((t.1.2.1.1, t.1.2.1.2), (t.1.2.2.1, t.1.2.2.2))), t.2) = t from rfl, h551]
      simp only [bind_some']
      rcases tAt_cases t.1.1 l with ⟨e2, -⟩ | ⟨p, tl, e2, hp2, -⟩
      · simp only [e2, show decide ((0 : Int) ≤ -1) = false from rfl, cond_false]
        rw [bif_true (by simp; omega)]
        refine .inl ⟨o ++ [t], by simp; omega, rfl, ?_⟩
        simp only [ov]
        rw [if_neg (by rw [ha]; decide), if_neg (by rw [e2]; decide)]
      · have hpl := (List.getElem?_eq_some_iff.1 hp2).1
        simp only [e2, nn, cond_true, ltn (show p < o.length by omega), Bool.and_self, Int.toNat_natCast]
        refine .inl ⟨o.set p t, by simp; omega, rfl, ?_⟩
        simp only [ov]
        rw [if_neg (by rw [ha]; decide), if_pos (by rw [e2]; omega), e2, Int.toNat_natCast]
theorem f543q (l : List Tbl) (vs : List Vol) (names : List ByteArray) : f543F 1000 (l, vs, names) = some ((ovr l vs names).1, ((ovr l vs names).2.1, (ovr l vs names).2.2)) := by
  unfold f543F ovr
  simp only [f563q, bind_some', f540r]
  by_cases h1 : (chkTs l).2 = 0
  · rw [bif_false (by rw [h1]; rfl), if_neg (fun c => c h1)]
    by_cases h2 : (resV vs).2 = 0
    · rw [bif_false (by rw [h2]; rfl), if_neg (fun c => c h2)]
      have hs := resV_ok vs h2
      obtain ⟨l9, lf⟩ := ts_few h1
      have hl8 := (ts_ok h1).1
      rw [f589q l (resV vs).1 names h1 hs, bind_some']
      by_cases h3 : names.length > 8
      · rw [if_pos h3, if_pos h3]; rfl
      · rw [if_neg h3, if_neg h3]
        by_cases h4 : nE l (resV vs).1 names names 0 = 0
        · have hne : ¬ nE l (resV vs).1 names names 0 ≠ 0 := fun c => c h4
          rw [if_neg hne, if_neg hne]
          have hov := ov_len l names (resV vs).1 l
          rw [new_eq hs h4] at hov
          by_cases h5 : l.length + mor l names > 8
          · rw [if_pos h5, if_pos (by omega)]; rfl
          · rw [if_neg h5, if_neg (by omega), bif_false (by rfl)]
            rw [f516w l l9 (fun t ht => by have := lf t ht; omega), bind_some']
            unfold f543p2 f543l1
            rw [iterS_1000]
            unfold f543l1s
            match names, h3, h4, hov with
            | [], h3, h4, hov =>
              simp only [List.length_nil, show decide ((0 : Int) < ((0 : Nat) : Int)) = false from rfl, cond_false]
              rw [f543l6q _ l (resV vs).1 [] [] [] 0 0 hl8 hs (by simp)]
              rfl
            | s :: names, h3, h4, hov =>
              have hd : decide ((0 : Int) < ((s :: names).length : Int)) = true := by simp
              have h0 := inb (i := 0) (n := (s :: names).length) (by simp)
              rw [show ((0 : Nat) : Int) = 0 from rfl] at h0
              simp only [hd, cond_true, h0, show Int.toNat 0 = 0 from rfl, getD_of (show (s :: names)[0]? = some s from rfl), f545q l s (by omega), bind_some', was_b]
              rw [bif_true (by simp), List.nil_append, show IntKind.i64.wrap ((0 : Int) + 1) = ((1 : Nat) : Int) from rfl, f543l0q _ l (resV vs).1 [] l [] (s :: names) 0 0 hl8 (by omega) 1 (by simp) [was l s] rfl]
              rw [f543l4q _ l (resV vs).1 [] [] _ (s :: names) 0 0 hl8 hs (by omega)]
              rfl
        · rw [if_pos h4, if_pos h4, bif_true (bne0 h4)]
    · rw [bif_true (bne0 h2), if_pos h2]
  · rw [bif_true (bne0 h1), if_pos h1]
theorem f544q (w : List Int) (h : w.length ≤ 900) : f544F 1000 (w, w) = some true := by
  unfold f544F
  simp only [len_eq (rfl : w.length = w.length), cond_false]
  unfold f544l0
  refine iter_list (k := 1000) (A := Unit) w (fun i _ => (w, w, (i : Int), ())) (fun m _ => some true) (fun i a => True) ?_ ?_ (by omega) () trivial
  · intro rec a _
    unfold f544l0s
    simp only [ltn_self, cond_false]
  · intro rec i a x hx hi _
    unfold f544l0s
    simp only [ltn hi, nn, Bool.and_self, cond_true, Int.toNat_natCast, getD_of hx, wi_succ (i := i) (by omega), bne_self_eq_false, cond_false]
    exact .inl ⟨(), trivial, trivial, trivial⟩
theorem ov_mem {l : List Tbl} {names : List ByteArray} : ∀ {m o : List Tbl} {t : Tbl}, t ∈ ov l names m o → t ∈ o ∨ t ∈ m
  | [], o, t, h => .inl h
  | x :: m, o, t, h => by
    simp only [ov] at h
    split at h
    · rcases ov_mem h with h | h
      · exact .inl h
      · exact .inr (by simp [h])
    · split at h
      · rcases ov_mem h with h | h
        · rcases List.mem_or_eq_of_mem_set h with h | rfl
          · exact .inl h
          · exact .inr (by simp)
        · exact .inr (by simp [h])
      · rcases ov_mem h with h | h
        · rcases List.mem_append.1 h with h | h
          · exact .inl h
          · exact .inr (by rw [List.mem_singleton.1 h]; simp)
        · exact .inr (by simp [h])
theorem ovr_few (l : List Tbl) (vs : List Vol) (names : List ByteArray) : (ovr l vs names).1.length ≤ 8 ∧ (∀ t ∈ (ovr l vs names).1, t.1.2.1.2.length ≤ 20 ∧ t.1.2.2.1.length ≤ 4 ∧ t.2.length ≤ 60) ∧ (ovr l vs names).2.1.length ≤ 8 := by
  unfold ovr
  by_cases h1 : (chkTs l).2 = 0
  · rw [if_neg (fun c => c h1)]
    by_cases h2 : (resV vs).2 = 0
    · rw [if_neg (fun c => c h2)]
      have hs := resV_ok vs h2
      by_cases h3 : names.length > 8
      · rw [if_pos h3]; simp
      · rw [if_neg h3]
        by_cases h4 : nE l (resV vs).1 names names 0 = 0
        · rw [if_neg (fun c => c h4)]
          by_cases h5 : (ov l names (resV vs).1 l).length > 8
          · rw [if_pos h5]; simp
          · rw [if_neg h5]
            refine ⟨by simp only; omega, fun t ht => ?_, by simp only [List.length_map]; omega⟩
            have h6 : (chkTbl t).2 = 0 := by
              rcases ov_mem ht with h | h
              · exact ts_mem h1 h
              · exact ts_mem hs h
            have h7 := tbl_ok h6
            obtain ⟨q1, -, q3, -⟩ := file_sizes h7.1
            exact ⟨by omega, by omega, by omega⟩
        · rw [if_pos h4]; simp
    · rw [if_pos h2]; simp
  · rw [if_pos h1]; simp
theorem over (x : List Tbl × List Vol × List ByteArray) : f511F 1000 x = some true := by
  obtain ⟨l, vs, names⟩ := x
  unfold f511F
  rw [awake34]
  simp only [bind_some', Bool.not_true, cond_false, f514q, f535q]
  cases hf : fewTs l with
  | false => rfl
  | true =>
    simp only [Bool.not_true, cond_false]
    cases hv : fewVs vs with
    | false => rfl
    | true =>
      simp only [Bool.not_true, cond_false]
      obtain ⟨v1, v2⟩ := fewVs_ok hv
      obtain ⟨b, hb, hfew⟩ := f520q names
      rw [hb, bind_some']
      cases b with
      | false => rfl
      | true =>
        obtain ⟨m1, m2⟩ := hfew rfl
        simp only [Bool.not_true, cond_false, f516q hf, bind_some', f522q names (by omega)]
        rw [f537q vs (by omega) (fun v hv => by have := v2 v hv; omega)]
        simp only [bind_some', f542q, f543q, beq_self_eq_true, cond_true]
        obtain ⟨o1, o2, o3⟩ := ovr_few l vs names
        rw [f534q _ (by omega) (fun t ht => by have := o2 t ht; omega), bind_some', cond_true, f544q _ (by omega), bind_some']
end Go.Proofs.YtobgkcamonlnkaaGreatDoor
