/- Joined texts. -/
import Derived.Test.YthcmomgkfjjajaaGreatDoorAC
import Derived.Laws.Strings
import Derived.Test.YthcmomgkfjjajaaGreatDoorFeJ
import Derived.KernelRfl
set_option linter.unusedVariables false
set_option linter.unusedSimpArgs false
namespace Go.Ab
theorem wi {x : Int} (h0 : -9223372036854775808 ≤ x) (h1 : x ≤ 9223372036854775807) : IntKind.i64.wrap x = x := by
 rw [IntKind.wrap_i64]; omega
theorem bind_some' {α β : Type} (a : α) (f : α → Option β) : Option.bind (some a) f = f a := rfl
theorem bif_true {α : Type} {c : Bool} (h : c = true) (a b : α) : (bif c then a else b) = a := by rw [h]; rfl
theorem bif_false {α : Type} {c : Bool} (h : c = false) (a b : α) : (bif c then a else b) = b := by rw [h]; rfl
theorem strEq_self (x : ByteArray) : strEq x x = true := by simp [strEq]
theorem strEq_iff {x y : ByteArray} : strEq x y = true ↔ x = y := by
 constructor
 ·intro h
  simp only [strEq, beq_iff_eq] at h
  have h2 : x.data.toList = y.data.toList := by
   have e : ∀ z : ByteArray, z.toList = z.data.toList := fun z => ByteArray.toList_eq z
   rw [← e, ← e, h]
  cases x; cases y
  simp only at h2
  congr
  exact Array.ext' h2
 ·rintro rfl
  exact strEq_self x
theorem iter_for {V R : Type} {Step : (V → Option R) → V → Option R} (st : Nat → V) (n : Nat) {fin : Option R} (hstep : ∀ rec i, i < n → Step rec (st i) = rec (st (i + 1))) (hend : ∀ rec, Step rec (st n) = fin) :
  ∀ {k : Nat}, n < k → iterS Step k (st 0) = fin := by
 have : ∀ (d i k : Nat), i + d = n → d < k → iterS Step k (st i) = fin := by
  intro d
  induction d with
  | zero =>
   intro i k hi hk
   cases k with
   | zero => omega
   | succ k =>
    have : i = n := by omega
    subst this
    exact hend _
  | succ d ih =>
   intro i k hi hk
   cases k with
   | zero => omega
   | succ k =>
    show Step (iterS Step k) (st i) = fin
    rw [hstep _ i (by omega)]
    exact ih (i + 1) k (by omega) (by omega)
 intro k hk
 exact this n 0 k (by omega) hk
end Go.Ab
set_option linter.unusedVariables false
set_option linter.unusedSimpArgs false
namespace Go.Proofs.YthcmomgkfjjajaaGreatDoor
open Go.Ab
theorem f70q (k : Nat) (n lo hi : Int) : f70F k (n, lo, hi) = some (decide (lo ≤ n ∧ n ≤ hi)) := by
 unfold f70F
 by_cases h : lo ≤ n <;> simp [h]
theorem f48q (k : Nat) (n lo hi : Int) : f48F k (n, lo, hi) = some (decide (lo ≤ n ∧ n ≤ hi)) := by
 unfold f48F
 by_cases h : lo ≤ n <;> simp [h]
theorem f43q (k : Nat) (b : Bool) (e : Int) : f43F k (b, e) = some (if b = true then e else 0) := by
 unfold f43F
 cases b <;> rfl
theorem f69q (k : Nat) (b : Bool) : f69F k b = some (if b = true then 1 else 0) := by
 unfold f69F
 cases b <;> rfl
theorem f42l0_step {R : Type} (k : Nat) (rec : List Int × Int × Int × Unit → Option R) (k0 : Int × Unit → Option R) (k1 : Unit → Option R) (l : List Int) (i : Nat) (hl : l.length < 1000) (hi : i < l.length) :
  f42l0s k rec k0 k1 (l, (l.length : Int), (i : Int), ()) = if l.getD i 0 = 0 then rec (l, (l.length : Int), ((i + 1 : Nat) : Int), ()) else k0 (l.getD i 0, ()) := by
 unfold f42l0s
 have h1 : (i : Int) < (l.length : Int) := by omega
 simp only [h1, decide_true, cond_true, Int.natCast_nonneg, Bool.and_self, Int.toNat_natCast, wi (x := (i : Int) + 1) (by omega) (by omega)]
 by_cases h : l.getD i 0 = 0
 ·rw [if_pos h, h]; rfl
 ·rw [if_neg h]
  have : (l.getD i 0 != 0) = true := by simpa using h
  rw [this]
  rfl
theorem f42q (a b : Int) : f42F 1000 [a, b] = some (if a = 0 then b else a) := by
 have e0 : ∀ {R : Type} (Step : (List Int × Int × Int × Unit → Option R) → List Int × Int × Int × Unit → Option R) v, iterS Step 1000 v = Step (fun v => Step (fun v => Step (iterS Step 997) v) v) v := fun _ _ => rfl
 unfold f42F f42l0
 rw [e0]
 have s0 := fun rec k0 k1 => f42l0_step (R := Int) 1000 rec k0 k1 [a, b] 0 (by simp) (by simp)
 have s1 := fun rec k0 k1 => f42l0_step (R := Int) 1000 rec k0 k1 [a, b] 1 (by simp) (by simp)
 have s2 : ∀ rec k0 k1, f42l0s (R := Int) 1000 rec k0 k1 ([a, b], (([a, b].length : Nat) : Int), ((2 : Nat) : Int), ()) = k1 () := fun _ _ _ => rfl
 have z0 : ((0 : Nat) : Int) = 0 := rfl
 rw [z0] at s0
 rw [s0]
 simp only [Nat.zero_add, s1, Nat.reduceAdd, s2]
 by_cases ha : a = 0 <;> by_cases hb : b = 0 <;> simp [ha, hb]
def tyErr (kd ln sc : Int) : Int :=
 if ¬ (0 ≤ kd ∧ kd ≤ 4) then 4
 else if ¬ (if kd = 0 then 1 ≤ ln ∧ ln ≤ 256 else if kd = 1 ∨ kd = 2 then 1 ≤ ln ∧ ln ≤ 15 else if kd = 3 then ln = 4 ∨ ln = 9 else ln = 0) then 18
 else if ¬ (0 ≤ sc ∧ sc ≤ (if kd = 0 ∨ kd = 4 then 0 else ln)) then 3
 else 0
theorem f28q (kd ln sc : Int) : f28F 1000 (kd, ln, sc) = some (tyErr kd ln sc) := by
 unfold f28F f28p1 f28p0 tyErr
 simp only [f70q, f43q, f42q, bind_some']
 by_cases h0 : kd = 0
 ·subst h0
  simp [cond_eq_ite]
  repeat' split
  all_goals first | rfl | omega
 by_cases h1 : kd = 1
 ·subst h1
  simp [cond_eq_ite]
  repeat' split
  all_goals first | rfl | omega
 by_cases h2 : kd = 2
 ·subst h2
  simp [cond_eq_ite]
  repeat' split
  all_goals first | rfl | omega
 by_cases h3 : kd = 3
 ·subst h3
  simp [cond_eq_ite]
  repeat' split
  all_goals first | rfl | omega
 by_cases h4 : kd = 4
 ·subst h4
  simp [cond_eq_ite]
  repeat' split
  all_goals first | rfl | omega
 ·have : ¬ (0 ≤ kd ∧ kd ≤ 4) := by omega
  simp [cond_eq_ite, h0, h1, h2, h3, h4, this]
end Go.Proofs.YthcmomgkfjjajaaGreatDoor
set_option linter.unusedVariables false
set_option linter.unusedSimpArgs false
namespace Go.Proofs.YthcmomgkfjjajaaGreatDoor
open Go.Ab
end Go.Proofs.YthcmomgkfjjajaaGreatDoor
set_option linter.unusedVariables false
set_option linter.unusedSimpArgs false
namespace Go.Proofs.YthcmomgkfjjajaaGreatDoor
open Go.Ab
end Go.Proofs.YthcmomgkfjjajaaGreatDoor
set_option linter.unusedVariables false
set_option linter.unusedSimpArgs false
namespace Go.Proofs.YthcmomgkfjjajaaGreatDoor
open Go.Ab
end Go.Proofs.YthcmomgkfjjajaaGreatDoor
set_option linter.unusedVariables false
set_option linter.unusedSimpArgs false
namespace Go.Proofs.YthcmomgkfjjajaaGreatDoor
open Go.Ab
end Go.Proofs.YthcmomgkfjjajaaGreatDoor
set_option linter.unusedVariables false
set_option linter.unusedSimpArgs false
namespace Go.Proofs.YthcmomgkfjjajaaGreatDoor
open Go.Ab
end Go.Proofs.YthcmomgkfjjajaaGreatDoor
set_option linter.unusedVariables false
set_option linter.unusedSimpArgs false
namespace Go.Proofs.YthcmomgkfjjajaaGreatDoor
open Go.Ab
end Go.Proofs.YthcmomgkfjjajaaGreatDoor
set_option linter.unusedVariables false
set_option linter.unusedSimpArgs false
namespace Go.Proofs.YthcmomgkfjjajaaGreatDoor
open Go.Ab
end Go.Proofs.YthcmomgkfjjajaaGreatDoor
set_option linter.unusedVariables false
set_option linter.unusedSimpArgs false
namespace Go.Proofs.YthcmomgkfjjajaaGreatDoor
open Go.Ab
end Go.Proofs.YthcmomgkfjjajaaGreatDoor
set_option linter.unusedVariables false
set_option linter.unusedSimpArgs false
namespace Go.Proofs.YthcmomgkfjjajaaGreatDoor
open Go.Ab
def szOf (kd ln : Int) : Int := if kd = 1 then ln / 2 + 1 else if kd = 3 then (if ln = 9 then 4 else 2) else ln
end Go.Proofs.YthcmomgkfjjajaaGreatDoor
set_option linter.unusedVariables false
set_option linter.unusedSimpArgs false
namespace Go.Ab
def S (l : List UInt8) : ByteArray := ⟨l.toArray⟩
theorem S_list (l : List UInt8) : (S l).data.toList = l := by simp [S]
theorem S_of (s : ByteArray) : S s.data.toList = s := by cases s; simp [S]
theorem S_ext {a b : ByteArray} (h : a.data.toList = b.data.toList) : a = b := by rw [← S_of a, ← S_of b, h]
theorem S_inj {l m : List UInt8} : S l = S m ↔ l = m := ⟨fun h => by rw [← S_list l, ← S_list m, h], fun h => by rw [h]⟩
theorem S_size (l : List UInt8) : (S l).size = l.length := by simp [S, ByteArray.size]
theorem S_app (l m : List UInt8) : S l ++ S m = S (l ++ m) := S_ext (by simp [S_list])
theorem S_cut (l : List UInt8) (i j : Nat) : (S l).extract i j = S ((l.take j).drop i) := S_ext (by
 rw [S_list]
 simp [S, List.extract_eq_take_drop, List.drop_take])
theorem S_bt (l : List UInt8) (i : Nat) (h : i < l.length) : bt (S l) (i : Int) = ((l.getD i 0).toNat : Int) := by
 unfold bt
 rw [dif_pos (by rw [S_size]; simpa using h)]
 simp [S, List.getD_eq_getElem?_getD, h]
 rfl
theorem S_eq (l m : List UInt8) : strEq (S l) (S m) = decide (l = m) := by
 by_cases h : l = m
 ·subst h; rw [strEq_self]; simp
 ·rw [decide_eq_false h]
  cases e : strEq (S l) (S m) with
  | false => rfl
  | true => exact absurd (S_inj.1 (strEq_iff.1 e)) h
def ints (l : List UInt8) : List Int := l.map fun b => (b.toNat : Int)
theorem ints_app (l m : List UInt8) : ints (l ++ m) = ints l ++ ints m := by simp [ints]
theorem ints_length (l : List UInt8) : (ints l).length = l.length := by simp [ints]
theorem S_bytes (l : List UInt8) : bytesOf (S l) = ints l := by
 unfold bytesOf
 rw [S_list]
 rfl
theorem S_nil : S [] = ByteArray.empty := rfl
theorem ints_get {l : List UInt8} {i : Nat} (h : i < l.length) : (ints l).getD i 0 = ((l.getD i 0).toNat : Int) := by
 simp [ints, List.getD_eq_getElem?_getD, h]
theorem sliceB {a b n : Nat} (h1 : a ≤ b) (h2 : b ≤ n) : sliceBds (a : Int) (b : Int) (n : Int) = true := by
 unfold sliceBds
 simp
 omega
theorem sliceB0 {b n : Nat} (h2 : b ≤ n) : sliceBds 0 (b : Int) (n : Int) = true := sliceB (a := 0) (by omega) h2
theorem iter_list {α A V R : Type} {Step : (V → Option R) → V → Option R} (l : List α) (mk : Nat → A → V) (g : List α → A → Option R) (P : Nat → A → Prop)
  (hnil : ∀ rec a, P l.length a → Step rec (mk l.length a) = g [] a)
  (hcons : ∀ rec i a x, l[i]? = some x → i < l.length → P i a → (∃ a', P (i + 1) a' ∧ Step rec (mk i a) = rec (mk (i + 1) a') ∧ g (x :: l.drop (i + 1)) a = g (l.drop (i + 1)) a') ∨ Step rec (mk i a) = g (x :: l.drop (i + 1)) a) :
  ∀ {k : Nat}, l.length < k → ∀ a, P 0 a → iterS Step k (mk 0 a) = g l a := by
 have main : ∀ (d i k : Nat), i + d = l.length → d < k → ∀ a, P i a → iterS Step k (mk i a) = g (l.drop i) a := by
  intro d
  induction d with
  | zero =>
   intro i k hi hk a hp
   cases k with
   | zero => omega
   | succ k =>
    have hi : i = l.length := by omega
    subst hi
    show Step (iterS Step k) _ = _
    rw [hnil _ _ hp, List.drop_length]
  | succ d ih =>
   intro i k hi hk a hp
   cases k with
   | zero => omega
   | succ k =>
    show Step (iterS Step k) _ = _
    have hl : i < l.length := by omega
    have hx : l[i]? = some l[i] := List.getElem?_eq_getElem hl
    rw [List.drop_eq_getElem_cons hl]
    rcases hcons (iterS Step k) i a _ hx hl hp with ⟨a', hp', h1, h2⟩ | h
    ·rw [h1, h2]
     exact ih (i + 1) k (by omega) (by omega) a' hp'
    ·exact h
 intro k hk a hp
 exact main l.length 0 k (by omega) hk a hp
theorem iter_from {α A V R : Type} {Step : (V → Option R) → V → Option R} (l : List α) (mk : Nat → A → V) (g : List α → A → Option R) (P : Nat → A → Prop)
  (hnil : ∀ rec a, P l.length a → Step rec (mk l.length a) = g [] a)
  (hcons : ∀ rec i a x, l[i]? = some x → i < l.length → P i a → (∃ a', P (i + 1) a' ∧ Step rec (mk i a) = rec (mk (i + 1) a') ∧ g (x :: l.drop (i + 1)) a = g (l.drop (i + 1)) a') ∨ Step rec (mk i a) = g (x :: l.drop (i + 1)) a) :
  ∀ {k : Nat}, l.length < k → ∀ i a, i ≤ l.length → P i a → iterS Step k (mk i a) = g (l.drop i) a := by
 have main : ∀ (d i k : Nat), i + d = l.length → d < k → ∀ a, P i a → iterS Step k (mk i a) = g (l.drop i) a := by
  intro d
  induction d with
  | zero =>
   intro i k hi hk a hp
   cases k with
   | zero => omega
   | succ k =>
    have hi : i = l.length := by omega
    subst hi
    show Step (iterS Step k) _ = _
    rw [hnil _ _ hp, List.drop_length]
  | succ d ih =>
   intro i k hi hk a hp
   cases k with
   | zero => omega
   | succ k =>
    show Step (iterS Step k) _ = _
    have hl : i < l.length := by omega
    have hx : l[i]? = some l[i] := List.getElem?_eq_getElem hl
    rw [List.drop_eq_getElem_cons hl]
    rcases hcons (iterS Step k) i a _ hx hl hp with ⟨a', hp', h1, h2⟩ | h
    ·rw [h1, h2]
     exact ih (i + 1) k (by omega) (by omega) a' hp'
    ·exact h
 intro k hk i a hi hp
 exact main (l.length - i) i k (by omega) (by omega) a hp
theorem iterS_1000 {V R : Type} (Step : (V → Option R) → V → Option R) (v : V) : iterS Step 1000 v = Step (iterS Step 999) v := rfl
theorem getD_of {α : Type} {l : List α} {i : Nat} {x d : α} (h : l[i]? = some x) : l.getD i d = x := by
 rw [List.getD_eq_getElem?_getD, h]; rfl
theorem inb {i n : Nat} (h : i < n) : ((decide ((0 : Int) ≤ (i : Int))) && (decide ((i : Int) < (n : Int)))) = true := by
 simp
 omega
theorem ltn {i n : Nat} (h : i < n) : decide ((i : Int) < (n : Int)) = true := by simp; omega
theorem wi_succ {i : Nat} (h : i < 9223372036854775807) : IntKind.i64.wrap ((i : Int) + 1) = ((i + 1 : Nat) : Int) := by
 rw [wi (by omega) (by omega)]
 omega
def nmA (c : Int) : Bool := (decide (65 ≤ c) && decide (c ≤ 90)) || (c == 35 || (c == 36 || c == 64))
def nmB (c : Int) : Bool := nmA c || ((decide (48 ≤ c) && decide (c ≤ 57)) || (c == 95 || c == 46))
def nmL : Bool → List Int → Bool
 | _, [] => true
 | f, c :: l => (bif f then nmA c else nmB c) && nmL false l
def isNm (s : ByteArray) : Bool := decide (1 ≤ s.size ∧ s.size ≤ 10) && nmL true (bytesOf s)
end Go.Ab
set_option linter.unusedVariables false
set_option linter.unusedSimpArgs false
namespace Go.Proofs.YthcmomgkfjjajaaGreatDoor
open Go.Ab
theorem nn (i : Nat) : decide ((0 : Int) ≤ (i : Int)) = true := by simp
theorem bne0 {x : Int} (h : x ≠ 0) : (x != 0) = true := by simpa using h
abbrev Typ := Int × (Int × Int)
abbrev Msg := Int × (Int × (ByteArray × (ByteArray × (ByteArray × (Bool × (Bool × Int))))))
abbrev Que := ByteArray × (Int × (Bool × (Int × List Msg)))
abbrev Dsc := ByteArray × (Int × (ByteArray × (ByteArray × (List Typ × (ByteArray × List ByteArray)))))
abbrev Sys := List Dsc × List Que
def fst0 : List Int → Int
 | [] => 0
 | x :: l => if x ≠ 0 then x else fst0 l
theorem f760q (l : List Int) (hl : l.length < 1000) : f760F 1000 l = some (fst0 l) := by
 unfold f760F f760l0
 refine iter_list (k := 1000) (R := Int) (A := Unit) l (fun i _ => (l, (l.length : Int), (i : Int), ())) (fun m _ => some (fst0 m)) (fun _ _ => True) ?_ ?_ hl () trivial
 ·intro rec a _
  unfold f760l0s
  simp [fst0]
 ·intro rec i a x hx hi _
  unfold f760l0s
  simp only [ltn hi, nn, Bool.and_self, cond_true, Int.toNat_natCast, getD_of hx, wi_succ (i := i) (by omega)]
  by_cases h : x = 0
  ·exact .inl ⟨(), trivial, by simp [h], by simp [fst0, h]⟩
  ·exact .inr (by rw [bif_true (bne0 h)]; simp [fst0, h])
theorem f761q (k : Nat) (b : Bool) (e : Int) : f761F k (b, e) = some (bif b then e else 0) := by
 unfold f761F
 cases b <;> rfl
theorem f762q (k : Nat) (a b c : Int) : f762F k (a, b, c) = some (decide (b ≤ a) && decide (a ≤ c)) := by
 unfold f762F
 simp only
 cases decide (b ≤ a) <;> rfl
theorem f48w (k : Nat) (a b c : Int) : f48F k (a, b, c) = some (decide (b ≤ a) && decide (a ≤ c)) := by
 unfold f48F
 simp only
 cases decide (b ≤ a) <;> rfl
def upr (c : Int) : Bool := decide (65 ≤ c) && decide (c ≤ 90)
def dgc (c : Int) : Bool := decide (48 ≤ c) && decide (c ≤ 57)
theorem f810q (k : Nat) (c : Int) : f810F k c = some (upr c) := by
 unfold f810F upr
 cases decide ((65 : Int) ≤ c) <;> rfl
theorem f813q (k : Nat) (c : Int) : f813F k c = some (upr c) := by
 unfold f813F upr
 cases decide ((65 : Int) ≤ c) <;> rfl
theorem f811q (k : Nat) (c : Int) : f811F k c = some (dgc c) := by
 unfold f811F dgc
 cases decide ((48 : Int) ≤ c) <;> rfl
theorem f814q (k : Nat) (c : Int) : f814F k c = some (dgc c) := by
 unfold f814F dgc
 cases decide ((48 : Int) ≤ c) <;> rfl
def shc (c : Int) : Bool := decide (32 ≤ c) && decide (c ≤ 126)
def isTx (s : ByteArray) : Bool := (bytesOf s).all shc
theorem f832q (k : Nat) (c : Int) : f832F k c = some (!shc c) := by
 unfold f832F shc
 by_cases h : c < 32
 ·rw [bif_true (by simpa using h), decide_eq_false (by omega)]; rfl
 ·rw [bif_false (by simpa using h), decide_eq_true (show 32 ≤ c by omega)]
  by_cases h2 : c ≤ 126
  ·rw [decide_eq_true h2, decide_eq_false (by omega)]; rfl
  ·rw [decide_eq_false h2, decide_eq_true (by omega)]; rfl
def ixF {α : Type} (p : α → Bool) : Nat → List α → Int
 | _, [] => -1
 | i, x :: l => bif p x then (i : Int) else ixF p (i + 1) l
def ix {α : Type} (p : α → Bool) (l : List α) : Int := ixF p 0 l
theorem ixF_lt {α : Type} (p : α → Bool) : ∀ (l : List α) (i : Nat), ixF p i l = -1 ∧ (∀ x ∈ l, p x = false) ∨ ∃ j x, ixF p i l = ((i + j : Nat) : Int) ∧ l[j]? = some x ∧ p x = true ∧ ∀ m, m < j → ∀ y, l[m]? = some y → p y = false
 | [], i => .inl ⟨rfl, fun x h => by cases h⟩
 | x :: l, i => by
  unfold ixF
  cases h : p x with
  | true => exact .inr ⟨0, x, rfl, rfl, h, fun m hm => by omega⟩
  | false =>
   rcases ixF_lt p l (i + 1) with ⟨h1, h2⟩ | ⟨j, y, h1, h2, h3, h4⟩
   ·refine .inl ⟨h1, fun z hz => ?_⟩
    rcases List.mem_cons.1 hz with e | hz
    ·rw [e]; exact h
    ·exact h2 z hz
   ·refine .inr ⟨j + 1, y, by rw [cond_false, h1]; omega, h2, h3, fun m hm z hz => ?_⟩
    cases m with
    | zero => simp at hz; rw [← hz]; exact h
    | succ m => exact h4 m (by omega) z hz
theorem ix_spec {α : Type} (p : α → Bool) (l : List α) : ix p l = -1 ∧ (∀ x ∈ l, p x = false) ∨ ∃ (j : Nat) (x : α), ix p l = (j : Int) ∧ l[j]? = some x ∧ p x = true ∧ ∀ m, m < j → ∀ y, l[m]? = some y → p y = false := by
 rcases ixF_lt p l 0 with h | ⟨j, x, h1, h2⟩
 ·exact .inl h
 ·exact .inr ⟨j, x, by unfold ix; rw [h1, Nat.zero_add], h2⟩
theorem iter_find {α V R : Type} {Step : (V → Option R) → V → Option R} (l : List α) (p : α → Bool) (mk : Nat → V) (F : Int → Option R)
  (hnil : ∀ rec, Step rec (mk l.length) = F (-1))
  (hcons : ∀ rec (i : Nat) x, l[i]? = some x → i < l.length → Step rec (mk i) = bif p x then F (i : Int) else rec (mk (i + 1))) {k : Nat} (hk : l.length < k) : iterS Step k (mk 0) = F (ix p l) := by
 refine iter_list (k := k) (A := Nat) l (fun i _ => mk i) (fun m a => F (ixF p a m)) (fun i a => a = i) ?_ ?_ hk 0 rfl
 ·intro rec a _
  exact hnil rec
 ·intro rec i a x hx hi hp
  subst hp
  rw [hcons rec a x hx hi]
  rw [show ixF p a (x :: l.drop (a + 1)) = bif p x then (a : Int) else ixF p (a + 1) (l.drop (a + 1)) from rfl]
  cases p x with
  | true => exact .inr rfl
  | false => exact .inl ⟨_, rfl, rfl, rfl⟩
theorem ix_neg {α : Type} (p : α → Bool) (l : List α) : (ix p l == -1) = decide (ix p l < 0) := by
 rcases ix_spec p l with ⟨h, _⟩ | ⟨j, x, h, _⟩
 ·rw [h]; rfl
 ·rw [h, decide_eq_false (by omega)]; simp
theorem ix_nonneg {α : Type} (p : α → Bool) (l : List α) : decide (ix p l ≥ 0) = !(ix p l == -1) := by
 rcases ix_spec p l with ⟨h, _⟩ | ⟨j, x, h, _⟩
 ·rw [h]; rfl
 ·rw [h, decide_eq_true (by omega)]; simp
theorem ix_any {α : Type} (p : α → Bool) (l : List α) : (!(ix p l == -1)) = l.any p := by
 rcases ix_spec p l with ⟨h, g⟩ | ⟨j, x, h, hx, hp, _⟩
 ·rw [h]
  have : l.any p = false := by rw [List.any_eq_false]; intro x hx; rw [g x hx]; decide
  rw [this]; rfl
 ·have : l.any p = true := List.any_eq_true.2 ⟨x, List.mem_of_getElem? hx, hp⟩
  rw [h, this]; simp
theorem strEq_comm (a b : ByteArray) : strEq a b = strEq b a := by
 rw [Bool.eq_iff_iff, strEq_iff, strEq_iff]; exact eq_comm
theorem f849q (l : List Int) (hl : l.length < 1000) : f849v0F 1000 (l, ()) = some (ix (fun c => !shc c) l, l, ()) := by
 unfold f849v0F f849v0l0
 refine iter_find l (fun c => !shc c) (fun i => ((l.length : Int), (i : Int), l, ())) (fun i => some (i, l, ())) ?_ ?_ hl
 ·intro rec
  unfold f849v0l0s
  simp
 ·intro rec i x hx hi
  unfold f849v0l0s
  simp only [ltn hi, nn, Bool.and_self, cond_true, Int.toNat_natCast, getD_of hx, f832q, bind_some', wi_succ (i := i) (by omega)]
theorem f815q (s : ByteArray) (hs : s.size < 1000) : f815F 1000 s = some (isTx s) := by
 have hl : (bytesOf s).length = s.size := by unfold bytesOf; rw [List.length_map]; rfl
 unfold f815F f831v0F
 simp only [show decide (s.size ≤ 9223372036854775807) = true by simp; omega, cond_true, f849q _ (show (bytesOf s).length < 1000 by omega), bind_some', ix_nonneg, ix_any, isTx]
 congr 1
 rw [Bool.eq_iff_iff]
 simp [List.all_eq_true]
theorem f756q (s : ByteArray) (hs : s.size < 1000) : f756F 1000 s = some (isTx s) := by
 obtain ⟨l, rfl⟩ : ∃ l, s = S l := ⟨_, (S_of s).symm⟩
 rw [S_size] at hs
 unfold f756F f756l0 isTx
 rw [S_bytes]
 refine iter_list (k := 1000) (R := Bool) (A := Unit) l (fun i _ => (S l, (i : Int), ())) (fun m _ => some ((ints m).all shc)) (fun _ _ => True) ?_ ?_ hs () trivial
 ·intro rec a _
  unfold f756l0s
  simp [S_size, ints]
 ·intro rec i a x hx hi _
  unfold f756l0s
  have hg : l.getD i 0 = x := getD_of hx
  simp only [S_size, ltn hi, nn, Bool.and_self, cond_true, S_bt l i hi, hg, wi_succ (i := i) (by omega)]
  have e : (ints (x :: l.drop (i + 1))).all shc = (shc (x.toNat : Int) && (ints (l.drop (i + 1))).all shc) := rfl
  rw [e]
  by_cases h : ((x.toNat : Nat) : Int) < 32
  ·refine .inr ?_
   rw [bif_true (by simpa using h), show shc (x.toNat : Int) = false by unfold shc; rw [decide_eq_false (by omega)]; rfl]
   rfl
  ·by_cases h2 : ((x.toNat : Nat) : Int) > 126
   ·refine .inr ?_
    rw [bif_false (by simpa using h), bif_true (by simpa using h2), show shc (x.toNat : Int) = false by unfold shc; rw [decide_eq_false (show ¬ ((x.toNat : Int) ≤ 126) by omega), Bool.and_false]]
    rfl
   ·refine .inl ⟨(), trivial, ?_, ?_⟩
    ·rw [bif_false (by simpa using h), bif_false (by simpa using h2)]
    ·rw [show shc (x.toNat : Int) = true by unfold shc; rw [decide_eq_true (by omega), decide_eq_true (by omega)]; rfl, Bool.true_and]
def txE (s : ByteArray) (n : Int) : Int := if (s.size : Int) > n then 2 else if isTx s then 0 else 5
theorem f797q (s : ByteArray) (n : Int) (hs : s.size < 1000) : f797F 1000 (s, n) = some (txE s n) := by
 unfold f797F txE
 simp only [f761q, f815q s hs, bind_some', f760q _ (show ([_, _] : List Int).length < 1000 by simp)]
 by_cases h : (s.size : Int) > n
 ·simp [h, fst0]
 ·cases h2 : isTx s <;> simp [h, h2, fst0]
end Go.Proofs.YthcmomgkfjjajaaGreatDoor
set_option linter.unusedVariables false
set_option linter.unusedSimpArgs false
namespace Go.Proofs.YthcmomgkfjjajaaGreatDoor
open Go.Ab
def idc (i : Nat) (c : Int) : Bool := dgc c || (upr c && (decide (i ≤ 1) || decide (c ≤ 70)))
def allI : Nat → List Int → Bool
 | _, [] => true
 | i, c :: l => idc i c && allI (i + 1) l
def isId (s : ByteArray) : Bool := decide (s.size = 7) && (upr ((bytesOf s).getD 0 0) && allI 0 ((bytesOf s).drop 1))
theorem f788p0q {R : Type} (k0 : Bool × Int × Int × List Int × Unit → Option R) (k1 : Int × Int × List Int × Unit → Option R) (n : Int) (i : Nat) (l : List Int) (x : Int) (hx : l[i]? = some x) :
  f788p0 1000 k0 k1 (n, (i : Int), l, ()) = bif idc i x then k1 (n, (i : Int), l, ()) else k0 (false, n, (i : Int), l, ()) := by
 have hi : i < l.length := (List.getElem?_eq_some_iff.1 hx).1
 unfold f788p0
 simp only [inb hi, cond_true, Int.toNat_natCast, getD_of hx, f811q, f810q, bind_some']
 unfold idc
 cases dgc x with
 | true => rfl
 | false =>
  cases upr x with
  | false => rfl
  | true =>
   show (bif decide ((i : Int) > 1) then bif decide (x > 70) then k0 (false, n, (i : Int), l, ()) else k1 (n, (i : Int), l, ()) else k1 (n, (i : Int), l, ())) = _
   by_cases h1 : i ≤ 1
   ·rw [decide_eq_true h1, decide_eq_false (show ¬ (i : Int) > 1 by omega)]; rfl
   ·rw [decide_eq_false h1, decide_eq_true (show (i : Int) > 1 by omega)]
    by_cases h2 : x ≤ 70
    ·rw [decide_eq_true h2, decide_eq_false (show ¬ x > 70 by omega)]; rfl
    ·rw [decide_eq_false h2, decide_eq_true (show x > 70 by omega)]; rfl
theorem f788q (s : ByteArray) : f788F 1000 s = some (isId s) := by
 obtain ⟨l, rfl⟩ : ∃ l, s = S l := ⟨_, (S_of s).symm⟩
 unfold f788F isId
 rw [S_size, S_bytes]
 by_cases h7 : l.length = 7
 ·have hx : (l.take l.length).drop 1 = l.drop 1 := by rw [List.take_length]
  have hb : bt (S l) 0 = (ints l).getD 0 0 := by
   have := S_bt l 0 (by omega)
   rw [ints_get (by omega)]; exact this
  rw [decide_eq_true h7, Bool.true_and, bif_false (by simp; omega), bif_true (by simp; omega)]
  simp only [f810q, bind_some', hb]
  cases upr ((ints l).getD 0 0) with
  | false => rfl
  | true =>
   have hs : sliceBds 1 (l.length : Int) (l.length : Int) = true := sliceB (a := 1) (by omega) (by omega)
   have h2 : ∀ n : Int, decide (((S l).extract 1 l.length).size ≤ 9223372036854775807) = true := fun _ => by rw [S_cut, S_size]; simp; omega
   rw [Bool.not_true, cond_false, Bool.true_and, hs, cond_true, Int.toNat_natCast, h2 0, cond_true, S_cut, hx, S_bytes]
   have hd : ints (l.drop 1) = (ints l).drop 1 := by simp [ints]
   rw [hd]
   unfold f788l1
   refine iter_list (k := 1000) (R := Bool) (A := Nat) ((ints l).drop 1) (fun i _ => ((((ints l).drop 1).length : Int), (i : Int), (ints l).drop 1, ())) (fun m a => some (allI a m)) (fun i a => a = i) ?_ ?_ (by simp [ints]; omega) 0 rfl
   ·intro rec a _
    unfold f788l1s
    simp [allI]
   ·intro rec i a x hx hi ha
    subst ha
    unfold f788l1s
    simp only [ltn hi, cond_true, f788p0q _ _ _ _ _ _ hx, allI]
    cases idc a x with
    | true => exact .inl ⟨_, rfl, by rw [cond_true, wi_succ (i := a) (by simp [ints] at hi; omega)], by simp [allI]⟩
    | false => exact .inr rfl
 ·rw [decide_eq_false h7, bif_true (by simp; omega)]; rfl
theorem f791p0q {R : Type} (k0 : ByteArray × Bool × Int × Unit → Option R) (k1 : ByteArray × Int × Unit → Option R) (i : Nat) (l : List UInt8) (x : UInt8) (hx : l[i + 1]? = some x) :
  f791p0 1000 k0 k1 (S l, ((i + 1 : Nat) : Int), ()) = bif idc i (x.toNat : Int) then k1 (S l, ((i + 1 : Nat) : Int), ()) else k0 (S l, false, ((i + 1 : Nat) : Int), ()) := by
 have hi : i + 1 < l.length := (List.getElem?_eq_some_iff.1 hx).1
 have hg : l.getD (i + 1) 0 = x := getD_of hx
 unfold f791p0
 simp only [S_size, inb hi, cond_true, S_bt l _ hi, hg, f814q, f813q, bind_some']
 generalize (x.toNat : Int) = c
 unfold idc
 cases hd : dgc c with
 | true => rfl
 | false =>
  by_cases h1 : i ≤ 1
  ·rw [bif_true (by rfl), bif_true (show decide (((i + 1 : Nat) : Int) < 3) = true by simp; omega), bif_false (show decide (((i + 1 : Nat) : Int) ≥ 3) = false by simp; omega), decide_eq_true h1]
   cases upr c <;> rfl
  ·rw [bif_true (by rfl), bif_false (show decide (((i + 1 : Nat) : Int) < 3) = false by simp; omega), bif_true (show decide (((i + 1 : Nat) : Int) ≥ 3) = true by simp; omega), decide_eq_false h1]
   unfold upr
   by_cases h2 : c < 65
   ·rw [decide_eq_true h2, decide_eq_false (show ¬ 65 ≤ c by omega)]; rfl
   ·rw [decide_eq_false h2, decide_eq_true (show 65 ≤ c by omega)]
    by_cases h3 : c > 70
    ·rw [decide_eq_true h3, decide_eq_false (show ¬ c ≤ 70 by omega)]; simp
    ·rw [decide_eq_false h3, decide_eq_true (show c ≤ 70 by omega), decide_eq_true (show c ≤ 90 by omega)]; rfl
theorem f791q (s : ByteArray) : f791F 1000 s = some (isId s) := by
 obtain ⟨l, rfl⟩ : ∃ l, s = S l := ⟨_, (S_of s).symm⟩
 unfold f791F isId
 rw [S_size, S_bytes]
 by_cases h7 : l.length = 7
 ·have hb : bt (S l) 0 = (ints l).getD 0 0 := by
   have := S_bt l 0 (by omega)
   rw [ints_get (by omega)]; exact this
  rw [decide_eq_true h7, Bool.true_and, bif_false (by simp; omega), bif_true (by simp; omega)]
  simp only [f813q, bind_some', hb]
  cases upr ((ints l).getD 0 0) with
  | false => rfl
  | true =>
   rw [Bool.not_true, cond_false, Bool.true_and]
   have hd : ints (l.drop 1) = (ints l).drop 1 := by simp [ints]
   rw [← hd]
   unfold f791l1
   have key := iter_from (k := 1000) (R := Bool) (A := Nat) (Step := fun rec v => f791l1s 1000 rec (fun w6 => some w6.1) (fun w7 => some true) v) l (fun i _ => (S l, (i : Int), ())) (fun m a => some (allI a (ints m))) (fun i a => i = a + 1) ?_ ?_ (by omega) 1 0 (by omega) rfl
   ·exact key
   ·intro rec a _
    unfold f791l1s
    simp [h7, allI, ints]
   ·intro rec i a x hx hi ha
    subst ha
    unfold f791l1s
    simp only [show decide (((a + 1 : Nat) : Int) < 7) = true by simp; omega, cond_true, f791p0q _ _ _ _ _ hx]
    have e : allI a (ints (x :: l.drop (a + 1 + 1))) = (idc a (x.toNat : Int) && allI (a + 1) (ints (l.drop (a + 1 + 1)))) := rfl
    rw [e]
    cases idc a (x.toNat : Int) with
    | true => exact .inl ⟨_, rfl, by rw [cond_true, wi_succ (i := a + 1) (by omega)], by simp⟩
    | false => exact .inr rfl
 ·rw [decide_eq_false h7, bif_true (by simp; omega)]; rfl
set_option maxHeartbeats 1000000 in
theorem f782p0q {R : Type} (k0 : Int × Int × List Int × Unit → Option R) (k1 : Bool × Int × Int × List Int × Unit → Option R) (n : Int) (i : Nat) (l : List Int) (x : Int) (hx : l[i]? = some x) :
  f782p0 1000 k0 k1 (n, (i : Int), l, ()) = bif (bif i == 0 then nmA x else nmB x) then k0 (n, (i : Int), l, ()) else k1 (false, n, (i : Int), l, ()) := by
 have hi : i < l.length := (List.getElem?_eq_some_iff.1 hx).1
 unfold f782p0
 simp only [inb hi, cond_true, Int.toNat_natCast, getD_of hx, f810q, f811q, bind_some']
 have e0 : ((i : Int) == 0) = (i == 0) := by rw [Bool.eq_iff_iff]; simp
 simp only [e0]
 unfold nmB nmA upr dgc
 generalize hz : (i == 0) = z
 clear e0 hx
 cases z
 all_goals
  simp only [cond_eq_ite, Bool.or_eq_true, Bool.and_eq_true, decide_eq_true_eq, beq_iff_eq, Bool.not_eq_true', beq_eq_false_iff_ne, ne_eq, Bool.false_eq_true, if_false, if_true, bne_iff_ne, Bool.and_eq_false_iff, decide_eq_false_iff_not]
  repeat' split
  all_goals first | rfl | (exfalso; omega)
set_option maxHeartbeats 1000000 in
theorem f785p0q {R : Type} (k0 : ByteArray × Int × Unit → Option R) (k1 : ByteArray × Bool × Int × Unit → Option R) (i : Nat) (l : List UInt8) (x : UInt8) (hx : l[i]? = some x) :
  f785p0 1000 k0 k1 (S l, (i : Int), ()) = bif (bif i == 0 then nmA (x.toNat : Int) else nmB (x.toNat : Int)) then k0 (S l, (i : Int), ()) else k1 (S l, false, (i : Int), ()) := by
 have hi : i < l.length := (List.getElem?_eq_some_iff.1 hx).1
 have hg : l.getD i 0 = x := getD_of hx
 unfold f785p0
 simp only [S_size, inb hi, cond_true, S_bt l _ hi, hg, f813q, f814q, bind_some']
 have e0 : ((i : Int) == 0) = (i == 0) := by rw [Bool.eq_iff_iff]; simp
 simp only [e0]
 generalize (x.toNat : Int) = c
 unfold nmB nmA upr dgc
 generalize hz : (i == 0) = z
 clear e0 hx hg
 cases z
 all_goals
  simp only [cond_eq_ite, Bool.or_eq_true, Bool.and_eq_true, decide_eq_true_eq, beq_iff_eq, Bool.not_eq_true', beq_eq_false_iff_ne, ne_eq, Bool.false_eq_true, if_false, if_true, bne_iff_ne, Bool.and_eq_false_iff, decide_eq_false_iff_not]
  repeat' split
  all_goals first | rfl | (exfalso; omega)
theorem f782q (s : ByteArray) : f782F 1000 s = some (isNm s) := by
 obtain ⟨l, rfl⟩ : ∃ l, s = S l := ⟨_, (S_of s).symm⟩
 unfold f782F isNm
 rw [S_size, ← S_nil, S_eq, S_bytes]
 by_cases h0 : l = []
 ·subst h0; rfl
 have h1 : 1 ≤ l.length := by
  cases l with
  | nil => exact absurd rfl h0
  | cons => simp
 rw [decide_eq_false h0, cond_false]
 by_cases h10 : l.length ≤ 10
 ·rw [show decide ((l.length : Int) > 10) = false by simp; omega, cond_false, show decide (l.length ≤ 9223372036854775807) = true by simp; omega, cond_true, show decide (1 ≤ l.length ∧ l.length ≤ 10) = true by simp; omega, Bool.true_and]
  unfold f782l1
  refine iter_list (k := 1000) (R := Bool) (A := Bool) (ints l) (fun i _ => (((ints l).length : Int), (i : Int), ints l, ())) (fun m a => some (nmL a m)) (fun i a => a = (i == 0)) ?_ ?_ (by rw [ints_length]; omega) true rfl
  ·intro rec a _
   unfold f782l1s
   simp [nmL]
  ·intro rec i a x hx hi ha
   subst ha
   unfold f782l1s
   simp only [ltn hi, cond_true, f782p0q _ _ _ _ _ _ hx, nmL]
   cases (bif i == 0 then nmA x else nmB x) with
   | true => exact .inl ⟨_, rfl, by rw [cond_true, wi_succ (i := i) (by rw [ints_length] at hi; omega)], by simp⟩
   | false => exact .inr rfl
 ·rw [show decide ((l.length : Int) > 10) = true by simp; omega, cond_true, show decide (1 ≤ l.length ∧ l.length ≤ 10) = false by simp; omega]
  rfl
theorem f785q (s : ByteArray) : f785F 1000 s = some (isNm s) := by
 obtain ⟨l, rfl⟩ : ∃ l, s = S l := ⟨_, (S_of s).symm⟩
 unfold f785F isNm
 simp only [S_size, f48w, bind_some', S_bytes]
 by_cases h : 1 ≤ l.length ∧ l.length ≤ 10
 ·rw [decide_eq_true h, Bool.true_and, show (decide ((1 : Int) ≤ (l.length : Int)) && decide ((l.length : Int) ≤ 10)) = true by simp; omega, Bool.not_true, cond_false]
  unfold f785l1
  refine iter_list (k := 1000) (R := Bool) (A := Bool) l (fun i _ => (S l, (i : Int), ())) (fun m a => some (nmL a (ints m))) (fun i a => a = (i == 0)) ?_ ?_ (by omega) true rfl
  ·intro rec a _
   unfold f785l1s
   simp [nmL, S_size, ints]
  ·intro rec i a x hx hi ha
   subst ha
   unfold f785l1s
   simp only [S_size, ltn hi, cond_true, f785p0q _ _ _ _ _ hx]
   have e : nmL (i == 0) (ints (x :: l.drop (i + 1))) = ((bif i == 0 then nmA (x.toNat : Int) else nmB (x.toNat : Int)) && nmL false (ints (l.drop (i + 1)))) := rfl
   rw [e]
   cases (bif i == 0 then nmA (x.toNat : Int) else nmB (x.toNat : Int)) with
   | true => exact .inl ⟨_, rfl, by rw [cond_true, wi_succ (i := i) (by omega)], by simp⟩
   | false => exact .inr rfl
 ·rw [decide_eq_false h, show (decide ((1 : Int) ≤ (l.length : Int)) && decide ((l.length : Int) ≤ 10)) = false by rw [Bool.and_eq_false_iff]; simp; omega]
  rfl
end Go.Proofs.YthcmomgkfjjajaaGreatDoor
set_option linter.unusedVariables false
set_option linter.unusedSimpArgs false
namespace Go.Proofs.YthcmomgkfjjajaaGreatDoor
open Go.Ab
theorem bytesLess_tot : ∀ a b : List UInt8, (!Op.bytesLess a b) = (Op.bytesLess b a || decide (b = a))
 | [], [] => by simp [Op.bytesLess]
 | [], b :: l => by simp [Op.bytesLess]
 | a :: l, [] => by simp [Op.bytesLess]
 | a :: l, b :: m => by
  have ih := bytesLess_tot l m
  simp only [Op.bytesLess]
  by_cases h1 : a < b
  ·have h2 : ¬ b < a := by
    have a1 := UInt8.lt_iff_toNat_lt.1 h1
    intro c
    have a2 := UInt8.lt_iff_toNat_lt.1 c
    omega
   have h3 : b ≠ a := fun c => by rw [c] at h1; exact h2 (c ▸ h1)
   simp [h1, h2, h3, Ne.symm h3]
  ·by_cases h2 : b < a
   ·have h3 : a ≠ b := fun c => by rw [c] at h2; exact h1 (c ▸ h2)
    simp [h1, h2, h3, Ne.symm h3]
   ·have h3 : a = b := by
     apply UInt8.toNat_inj.1
     have a1 : ¬ a.toNat < b.toNat := fun c => h1 (UInt8.lt_iff_toNat_lt.2 c)
     have a2 : ¬ b.toNat < a.toNat := fun c => h2 (UInt8.lt_iff_toNat_lt.2 c)
     omega
    subst h3
    simpa using ih
theorem strLt_tot (a b : ByteArray) : (!strLt a b) = (strLt b a || strEq b a) := by
 unfold strLt
 rw [bytesLess_tot]
 congr 1
 rw [Bool.eq_iff_iff, decide_eq_true_eq, strEq_iff, ByteArray.toList_eq, ByteArray.toList_eq]
 refine ⟨fun h => S_ext h, fun h => by rw [h]⟩
def wrT (t : Typ) : Bool := t.1 == 4 || tyErr t.1 t.2.1 t.2.2 != 0
def tysE (l : List Typ) : Int := if l.length > 9 then 2 else if l.any wrT then 17 else 0
theorem f833q (t : Typ) : f833F 1000 (t.1, (t.2.1, t.2.2)) = some (wrT t) := by
 unfold f833F wrT
 simp only [f28q, bind_some']
 cases t.1 == 4 <;> rfl
theorem f853q (l : List Typ) (hl : l.length < 1000) : f853v0F 1000 (l, ()) = some (ix wrT l, ()) := by
 unfold f853v0F f853v0l0
 refine iter_find l wrT (fun i => (l, (l.length : Int), (i : Int), ())) (fun i => some (i, ())) ?_ ?_ hl
 ·intro rec
  unfold f853v0l0s
  simp
 ·intro rec i x hx hi
  unfold f853v0l0s
  simp only [ltn hi, nn, Bool.and_self, cond_true, Int.toNat_natCast, getD_of hx, f833q, bind_some', wi_succ (i := i) (by omega)]
theorem f816q (l : List Typ) (hl : l.length < 1000) : f816F 1000 l = some (tysE l) := by
 unfold f816F f835v0F tysE
 simp only [f761q, f853q l hl, bind_some', ix_nonneg, ix_any, f760q _ (show ([_, _] : List Int).length < 1000 by simp)]
 by_cases h : l.length > 9
 ·rw [if_pos h, decide_eq_true (show (l.length : Int) > 9 by omega)]; simp [fst0]
 ·rw [if_neg h, decide_eq_false (show ¬ (l.length : Int) > 9 by omega)]
  cases l.any wrT <;> simp [fst0]
theorem f820q (t : Typ) : f820F 1000 (t.1, (t.2.1, t.2.2)) = some (tyErr t.1 t.2.1 t.2.2 == 0) := by
 obtain ⟨kd, ln, sc⟩ := t
 unfold f820F f820p0 tyErr
 simp only [f48q, bind_some']
 by_cases h0 : kd = 0
 ·subst h0
  simp [cond_eq_ite]
  repeat' split
  all_goals first | rfl | (simp; omega) | omega
 by_cases h1 : kd = 1
 ·subst h1
  simp [cond_eq_ite]
  repeat' split
  all_goals first | rfl | (simp; omega) | omega
 by_cases h2 : kd = 2
 ·subst h2
  simp [cond_eq_ite]
  repeat' split
  all_goals first | rfl | (simp; omega) | omega
 by_cases h3 : kd = 3
 ·subst h3
  simp [cond_eq_ite]
  repeat' split
  all_goals first | rfl | (simp; omega) | omega
 by_cases h4 : kd = 4
 ·subst h4
  simp [cond_eq_ite]
  repeat' split
  all_goals first | rfl | (simp; omega) | omega
 ·have hk : ¬ (0 ≤ kd ∧ kd ≤ 4) := by omega
  have q0 : (kd == 0) = false := by simpa using h0
  have q1 : (kd == 1) = false := by simpa using h1
  have q2 : (kd == 2) = false := by simpa using h2
  have q3 : (kd == 3) = false := by simpa using h3
  have q4 : (kd == 4) = false := by simpa using h4
  rw [if_pos hk]
  simp only [q0, q1, q2, q3, q4, cond_false]
  rfl
abbrev Ctx := ByteArray × Int × ByteArray × ByteArray × List Typ × ByteArray × List ByteArray × Unit
theorem f792l0q {R : Type} (k0 : Int × Ctx → Option R) (k1 : Ctx → Option R) (a : ByteArray) (b : Int) (c d : ByteArray) (l : List Typ) (e : ByteArray) (f : List ByteArray) (hl : l.length < 1000) :
  f792l0 1000 k0 k1 (0, a, b, c, d, l, e, f, ()) = bif l.any wrT then k0 (17, a, b, c, d, l, e, f, ()) else k1 (a, b, c, d, l, e, f, ()) := by
 unfold f792l0
 refine iter_list (k := 1000) (A := Unit) l (fun i _ => ((i : Int), a, b, c, d, l, e, f, ())) (fun m _ => bif m.any wrT then k0 (17, a, b, c, d, l, e, f, ()) else k1 (a, b, c, d, l, e, f, ())) (fun _ _ => True) ?_ ?_ hl () trivial
 ·intro rec _ _
  unfold f792l0s
  simp
 ·intro rec i _ x hx hi _
  unfold f792l0s
  simp only [ltn hi, nn, Bool.and_self, cond_true, Int.toNat_natCast, getD_of hx, f820q, bind_some', wi_succ (i := i) (by omega), List.any_cons]
  unfold wrT
  cases hz : (tyErr x.1 x.2.1 x.2.2 == 0) with
  | false => exact .inr (by simp [bne, hz])
  | true =>
   cases h4 : (x.1 == 4) with
   | true => exact .inr (by simp)
   | false => exact .inl ⟨(), trivial, by simp, by simp [bne, hz]⟩
def has (l : List ByteArray) (s : ByteArray) : Bool := l.any fun y => strEq y s
theorem f822q (l : List ByteArray) (s : ByteArray) (hl : l.length < 1000) : f822F 1000 (l, s) = some (ix (fun y => strEq y s) l) := by
 unfold f822F f822l0
 refine iter_find l (fun y => strEq y s) (fun i => (l, s, (l.length : Int), (i : Int), ())) (fun i => some i) ?_ ?_ hl
 ·intro rec
  unfold f822l0s
  simp
 ·intro rec i x hx hi
  unfold f822l0s
  simp only [ltn hi, nn, Bool.and_self, cond_true, Int.toNat_natCast, getD_of hx, bind_some', wi_succ (i := i) (by omega), strEq_comm s x]
theorem f806q (l : List ByteArray) (s : ByteArray) (hl : l.length < 1000) : f806F 1000 (l, s) = some (has l s) := by
 unfold f806F has
 simp only [f822q l s hl, bind_some', ix_nonneg, ix_any]
theorem f773q (l : List ByteArray) (s : ByteArray) (hl : l.length < 1000) : f773F 1000 (l, s) = some (ix (fun y => strEq y s) l) := by
 unfold f773F f773l0
 refine iter_find l (fun y => strEq y s) (fun i => (l, s, (i : Int), ())) (fun i => some i) ?_ ?_ hl
 ·intro rec
  unfold f773l0s
  simp
 ·intro rec i x hx hi
  unfold f773l0s
  simp only [ltn hi, nn, Bool.and_self, cond_true, Int.toNat_natCast, getD_of hx, bind_some', wi_succ (i := i) (by omega)]
def repE (seen : List ByteArray) (s : ByteArray) : Int := if strEq s ByteArray.empty then 1 else if txE s 32 ≠ 0 then txE s 32 else if has seen s then 13 else 0
def runR : List ByteArray → List ByteArray → Int
 | _, [] => 0
 | seen, s :: l => if repE seen s ≠ 0 then repE seen s else runR (seen ++ [s]) l
def rpsE (l : List ByteArray) : Int := if l.length > 8 then 2 else runR [] l
theorem take_succ_of {α : Type} {l : List α} {i : Nat} {x : α} (h : l[i]? = some x) : l.take i ++ [x] = l.take (i + 1) := by
 rw [List.take_add_one, h]; rfl
theorem f817q (l : List ByteArray) (hl : l.length < 1000) (hs : ∀ s ∈ l, s.size < 1000) : f817F 1000 l = some (rpsE l) := by
 unfold f817F rpsE
 by_cases h8 : l.length > 8
 ·rw [if_pos h8, bif_true (by simp; omega)]
 ·rw [if_neg h8, bif_false (by simp; omega)]
  unfold f817l0
  refine iter_list (k := 1000) (R := Int) (A := List ByteArray) l (fun i _ => (l, l, (l.length : Int), (i : Int), ())) (fun m a => some (runR a m)) (fun i a => a = l.take i) ?_ ?_ hl [] rfl
  ·intro rec a _
   unfold f817l0s
   simp [runR]
  ·intro rec i a x hx hi ha
   subst ha
   unfold f817l0s
   have hsz := hs x (List.mem_of_getElem? hx)
   have hsl : sliceBds 0 (i : Int) (l.length : Int) = true := sliceB0 (by omega)
   have htk : (l.take i).length < 1000 := by rw [List.length_take]; omega
   simp only [ltn hi, nn, Bool.and_self, cond_true, Int.toNat_natCast, getD_of hx, bind_some', f761q, f797q x 32 hsz, hsl, List.drop_zero, f806q _ _ htk, f760q _ (show ([_, _, _] : List Int).length < 1000 by simp), wi_succ (i := i) (by omega)]
   have e : fst0 [bif strEq x ByteArray.empty then 1 else 0, txE x 32, bif has (l.take i) x then 13 else 0] = repE (l.take i) x := by
    unfold repE
    cases strEq x ByteArray.empty with
    | true => simp [fst0]
    | false =>
     by_cases ht : txE x 32 = 0
     ·cases has (l.take i) x <;> simp [fst0, ht]
     ·simp [fst0, ht]
   rw [e]
   by_cases hz : repE (l.take i) x = 0
   ·refine .inl ⟨_, rfl, by rw [bif_false (by simpa using hz)], ?_⟩
    rw [show runR (l.take i) (x :: l.drop (i + 1)) = runR (l.take i ++ [x]) (l.drop (i + 1)) by simp [runR, hz], take_succ_of hx]
   ·refine .inr ?_
    rw [bif_true (bne0 hz)]
    simp [runR, hz]
theorem size_empty {s : ByteArray} : ((s.size : Int) == 0) = strEq s ByteArray.empty := by
 obtain ⟨l, rfl⟩ : ∃ l, s = S l := ⟨_, (S_of s).symm⟩
 rw [S_size, ← S_nil, S_eq]
 cases l with
 | nil => rfl
 | cons x l => simp; omega
theorem f792l1q (a : ByteArray) (b : Int) (c d : ByteArray) (t : List Typ) (e : ByteArray) (l : List ByteArray) (hl : l.length < 1000) (hs : ∀ s ∈ l, s.size < 1000) :
  f792l1 1000 (fun w14 => some w14.1) (fun w15 => some 0) (0, a, b, c, d, t, e, l, ()) = some (runR [] l) := by
 unfold f792l1
 refine iter_list (k := 1000) (R := Int) (A := List ByteArray) l (fun i _ => ((i : Int), a, b, c, d, t, e, l, ())) (fun m a => some (runR a m)) (fun i a => a = l.take i) ?_ ?_ hl [] rfl
 ·intro rec a _
  unfold f792l1s
  simp [runR]
 ·intro rec i a x hx hi ha
  subst ha
  unfold f792l1s
  have hsz := hs x (List.mem_of_getElem? hx)
  have hsl : sliceBds 0 (i : Int) (l.length : Int) = true := sliceB0 (by omega)
  have htk : (l.take i).length < 1000 := by rw [List.length_take]; omega
  simp only [ltn hi, nn, Bool.and_self, cond_true, Int.toNat_natCast, getD_of hx, bind_some', size_empty, f756q x hsz, hsl, List.drop_zero, f773q _ _ htk, wi_succ (i := i) (by omega)]
  have e0 : (ix (fun y => strEq y x) (l.take i) != -1) = has (l.take i) x := ix_any _ _
  rw [e0]
  have e1 : (bif strEq x ByteArray.empty then (fun w14 : Int × Unit => some w14.1) (1, ()) else
    bif decide ((x.size : Int) > 32) then (fun w14 : Int × Unit => some w14.1) (2, ()) else
    bif !isTx x then (fun w14 : Int × Unit => some w14.1) (5, ()) else
    bif has (l.take i) x then (fun w14 : Int × Unit => some w14.1) (13, ()) else rec (((i + 1 : Nat) : Int), a, b, c, d, t, e, l, ())) =
    if repE (l.take i) x ≠ 0 then some (repE (l.take i) x) else rec (((i + 1 : Nat) : Int), a, b, c, d, t, e, l, ()) := by
   unfold repE txE
   cases strEq x ByteArray.empty with
   | true => rfl
   | false =>
    by_cases h2 : (x.size : Int) > 32
    ·simp [h2]
    ·cases isTx x with
     | false => simp [h2]
     | true => cases has (l.take i) x <;> simp [h2]
  simp only [] at e1 ⊢
  rw [e1]
  by_cases hz : repE (l.take i) x = 0
  ·refine .inl ⟨_, rfl, by rw [if_neg (by simp [hz])], ?_⟩
   rw [show runR (l.take i) (x :: l.drop (i + 1)) = runR (l.take i ++ [x]) (l.drop (i + 1)) by simp [runR, hz], take_succ_of hx]
  ·exact .inr (by rw [if_pos hz]; simp [runR, hz])
structure FewD (d : Dsc) : Prop where
 first : d.2.2.1.size ≤ 400
 second : d.2.2.2.1.size ≤ 400
 types : d.2.2.2.2.1.length ≤ 12
 dflt : d.2.2.2.2.2.1.size ≤ 100
 reps : d.2.2.2.2.2.2.length ≤ 12
 rep : ∀ s ∈ d.2.2.2.2.2.2, s.size ≤ 100
def dscE (d : Dsc) : Int :=
 if !(decide (0 ≤ d.2.1) && decide (d.2.1 ≤ 99)) then 3 else if strEq d.2.2.1 ByteArray.empty then 1
 else if d.2.2.1.size > 200 ∨ d.2.2.2.1.size > 200 then 2 else if !(isTx d.2.2.1 && isTx d.2.2.2.1) then 5
 else if tysE d.2.2.2.2.1 ≠ 0 then tysE d.2.2.2.2.1 else if txE d.2.2.2.2.2.1 32 ≠ 0 then txE d.2.2.2.2.2.1 32 else rpsE d.2.2.2.2.2.2
theorem isTx_app (a b : ByteArray) : isTx (a ++ b) = (isTx a && isTx b) := by
 obtain ⟨l, rfl⟩ : ∃ l, a = S l := ⟨_, (S_of a).symm⟩
 obtain ⟨m, rfl⟩ : ∃ m, b = S m := ⟨_, (S_of b).symm⟩
 unfold isTx
 rw [S_app, S_bytes, S_bytes, S_bytes, ints_app, List.all_append]
theorem f789q {d : Dsc} (h : FewD d) : f789F 1000 (d.1, (d.2.1, (d.2.2.1, (d.2.2.2.1, (d.2.2.2.2.1, (d.2.2.2.2.2.1, d.2.2.2.2.2.2)))))) = some (dscE d) := by
 obtain ⟨g1, g2, g3, g4, g5, g6⟩ := h
 obtain ⟨id, sev, a, b, ty, df, rp⟩ := d
 simp only at g1 g2 g3 g4 g5 g6
 have hab : (a ++ b).size < 1000 := by rw [ByteArray.size_append]; omega
 unfold f789F dscE
 simp only [f762q, f761q, bind_some', f815q _ hab, f816q ty (by omega), f797q df 32 (by omega), f817q rp (by omega) (fun s hs => Nat.lt_of_le_of_lt (g6 s hs) (by decide)), f760q _ (show ([_, _, _, _, _, _, _] : List Int).length < 1000 by simp), isTx_app,
  show decide (a.size + b.size ≤ 9223372036854775807) = true by simp; omega, cond_true]
 generalize (decide (0 ≤ sev) && decide (sev ≤ 99)) = c1
 generalize strEq a ByteArray.empty = c2
 generalize (isTx a && isTx b) = c3
 by_cases h1 : a.size > 200
 ·rw [decide_eq_true (show (a.size : Int) > 200 by omega)]
  cases c1 <;> cases c2 <;> simp [fst0, h1]
 ·rw [decide_eq_false (show ¬ (a.size : Int) > 200 by omega)]
  by_cases h2 : b.size > 200
  ·rw [decide_eq_true (show (b.size : Int) > 200 by omega)]
   cases c1 <;> cases c2 <;> simp [fst0, h2]
  ·rw [decide_eq_false (show ¬ (b.size : Int) > 200 by omega)]
   cases c1 <;> cases c2 <;> cases c3 <;> simp [fst0, h1, h2]
   by_cases e1 : tysE ty = 0 <;> by_cases e2 : txE df 32 = 0 <;> by_cases e3 : rpsE rp = 0 <;> simp [e1, e2, e3]
theorem f792q {d : Dsc} (h : FewD d) : f792F 1000 (d.1, (d.2.1, (d.2.2.1, (d.2.2.2.1, (d.2.2.2.2.1, (d.2.2.2.2.2.1, d.2.2.2.2.2.2)))))) = some (dscE d) := by
 obtain ⟨g1, g2, g3, g4, g5, g6⟩ := h
 obtain ⟨id, sev, a, b, ty, df, rp⟩ := d
 simp only at g1 g2 g3 g4 g5 g6
 unfold f792F dscE
 simp only [f48w, bind_some', f756q a (by omega), f756q b (by omega), f756q df (by omega), f792l0q _ _ _ _ _ _ _ _ _ (show ty.length < 1000 by omega), f792l1q _ _ _ _ _ _ rp (by omega) (fun s hs => Nat.lt_of_le_of_lt (g6 s hs) (by decide)), size_empty]
 generalize (decide (0 ≤ sev) && decide (sev ≤ 99)) = c1
 generalize strEq a ByteArray.empty = c2
 generalize isTx a = c3
 generalize isTx b = c4
 unfold tysE txE rpsE
 by_cases h1 : a.size > 200
 ·rw [decide_eq_true (show (a.size : Int) > 200 by omega)]
  cases c1 <;> cases c2 <;> simp [h1]
 ·rw [decide_eq_false (show ¬ (a.size : Int) > 200 by omega)]
  by_cases h2 : b.size > 200
  ·rw [decide_eq_true (show (b.size : Int) > 200 by omega)]
   cases c1 <;> cases c2 <;> simp [h2]
  ·rw [decide_eq_false (show ¬ (b.size : Int) > 200 by omega)]
   cases c1 <;> cases c2 <;> cases c3 <;> cases c4 <;> simp [h1, h2]
   by_cases h3 : ty.length > 9
   ·rw [decide_eq_true (show 9 < (ty.length : Int) by omega)]
    simp [h3]
   ·rw [decide_eq_false (show ¬ 9 < (ty.length : Int) by omega)]
    cases ty.any wrT <;> simp [h3]
    by_cases h4 : 32 < (df.size : Int)
    ·simp [h4]
    ·cases isTx df <;> simp [h4]
     by_cases h5 : rp.length > 8
     ·rw [decide_eq_true (show 8 < (rp.length : Int) by omega)]
      simp [h5]
     ·rw [decide_eq_false (show ¬ 8 < (rp.length : Int) by omega)]
      simp [h5]
end Go.Proofs.YthcmomgkfjjajaaGreatDoor
set_option linter.unusedVariables false
set_option linter.unusedSimpArgs false
namespace Go.Proofs.YthcmomgkfjjajaaGreatDoor
open Go.Ab
theorem awake18 : f712F 1000 () = some true := by kernel_rfl
def fewD (d : Dsc) : Bool := !(decide (d.2.2.2.2.1.length > 12) || (decide (d.2.2.2.2.2.2.length > 12) || (decide (d.2.2.1.size > 400) || (decide (d.2.2.2.1.size > 400) || decide (d.2.2.2.2.2.1.size > 100))))) && d.2.2.2.2.2.2.all fun s => decide (s.size ≤ 100)
theorem fewD_iff {d : Dsc} : fewD d = true ↔ FewD d := by
 unfold fewD
 constructor
 ·intro h
  simp only [Bool.and_eq_true, Bool.not_eq_true', Bool.or_eq_false_iff, decide_eq_false_iff_not, List.all_eq_true, decide_eq_true_eq] at h
  obtain ⟨⟨h1, h2, h3, h4, h5⟩, h6⟩ := h
  exact ⟨by omega, by omega, by omega, by omega, by omega, h6⟩
 ·rintro ⟨h1, h2, h3, h4, h5, h6⟩
  simp only [Bool.and_eq_true, Bool.not_eq_true', Bool.or_eq_false_iff, decide_eq_false_iff_not, List.all_eq_true, decide_eq_true_eq]
  exact ⟨⟨by omega, by omega, by omega, by omega, by omega⟩, h6⟩
def fewDs (l : List Dsc) : Bool := decide (l.length ≤ 21) && l.all fewD
theorem gtn (n m : Nat) : decide ((n : Int) > (m : Int)) = decide (n > m) := by
 by_cases h : n > m
 ·rw [decide_eq_true h, decide_eq_true (by omega)]
 ·rw [decide_eq_false h, decide_eq_false (by omega)]
theorem f735q (d : Dsc) : f735F 1000 (d.1, (d.2.1, (d.2.2.1, (d.2.2.2.1, (d.2.2.2.2.1, (d.2.2.2.2.2.1, d.2.2.2.2.2.2)))))) = some (fewD d) := by
 obtain ⟨id, sev, a, b, ty, df, rp⟩ := d
 unfold f735F fewD
 simp only [show ((12 : Int)) = ((12 : Nat) : Int) from rfl, show ((400 : Int)) = ((400 : Nat) : Int) from rfl, show ((100 : Int)) = ((100 : Nat) : Int) from rfl, gtn]
 by_cases h1 : ty.length > 12
 ·simp [h1]
 by_cases h2 : rp.length > 12
 ·simp [h1, h2]
 by_cases h3 : a.size > 400
 ·simp [h1, h2, h3]
 by_cases h4 : b.size > 400
 ·simp [h1, h2, h3, h4]
 by_cases h5 : df.size > 100
 ·simp [h1, h2, h3, h4, h5]
 simp only [h1, h2, h3, h4, h5, decide_false, cond_false, Bool.or_false, Bool.not_false, Bool.true_and]
 unfold f735l0
 refine iter_list (k := 1000) (R := Bool) (A := Unit) rp (fun i _ => ((i : Int), id, sev, a, b, ty, df, rp, ())) (fun m _ => some (m.all fun s => decide (s.size ≤ 100))) (fun _ _ => True) ?_ ?_ (by omega) () trivial
 ·intro rec _ _
  unfold f735l0s
  simp
 ·intro rec i _ x hx hi _
  unfold f735l0s
  simp only [ltn hi, nn, Bool.and_self, cond_true, Int.toNat_natCast, getD_of hx, wi_succ (i := i) (by omega), List.all_cons]
  by_cases h : x.size ≤ 100
  ·exact .inl ⟨(), trivial, by rw [bif_false (by simp; omega)], by simp [h]⟩
  ·exact .inr (by rw [bif_true (by simp; omega)]; simp [h])
theorem f745q (l : List Dsc) : f745F 1000 l = some (fewDs l) := by
 unfold f745F fewDs
 by_cases h : l.length ≤ 21
 ·rw [decide_eq_true h, Bool.true_and, bif_false (by simp; omega)]
  unfold f745l0
  refine iter_list (k := 1000) (R := Bool) (A := Unit) l (fun i _ => (l, (i : Int), ())) (fun m _ => some (m.all fewD)) (fun _ _ => True) ?_ ?_ (by omega) () trivial
  ·intro rec _ _
   unfold f745l0s
   simp
  ·intro rec i _ x hx hi _
   unfold f745l0s
   simp only [ltn hi, nn, Bool.and_self, cond_true, Int.toNat_natCast, getD_of hx, f735q, bind_some', wi_succ (i := i) (by omega), List.all_cons]
   cases fewD x with
   | true => exact .inl ⟨(), trivial, by simp, by simp⟩
   | false => exact .inr rfl
 ·rw [decide_eq_false h, bif_true (by simp; omega)]; rfl
structure FewF (l : List Dsc) : Prop where
 len : l.length ≤ 21
 each : ∀ d ∈ l, FewD d
theorem fewDs_iff {l : List Dsc} : fewDs l = true ↔ FewF l := by
 unfold fewDs
 rw [Bool.and_eq_true, decide_eq_true_eq, List.all_eq_true]
 exact ⟨fun h => ⟨h.1, fun d hd => fewD_iff.1 (h.2 d hd)⟩, fun h => ⟨h.1, fun d hd => fewD_iff.2 (h.2 d hd)⟩⟩
theorem szN {n m : Nat} (h : n * m ≤ 140737488355328) (hm : 1 ≤ m) : (decide (n * m ≤ 140737488355328) && decide (n ≤ 9223372036854775807)) = true := by
 have : n ≤ n * m := Nat.le_mul_of_pos_right n hm
 rw [decide_eq_true h, decide_eq_true (by omega)]; rfl
theorem f777q (l : List ByteArray) (hl : l.length ≤ 1000) : f777F 1000 l = some l := by
 unfold f777F
 rw [bif_true (szN (by simp; omega) (by decide))]
 rfl
theorem f736q {l : List Dsc} (h : FewF l) : f736F 1000 l = some l := by
 obtain ⟨h1, h2⟩ := h
 unfold f736F f736l0
 have key := iter_list (k := 1000) (R := List Dsc) (A := List Dsc) (Step := fun rec v => f736l0s 1000 rec (fun w4 => some w4.1) v) l (fun i a => (l, (i : Int), a, ())) (fun m a => some (a ++ m)) (fun i a => a.length = i) ?_ ?_ (by omega) [] rfl
 ·exact key
 ·intro rec a _
  unfold f736l0s
  simp
 ·intro rec i a x hx hi ha
  have hd := h2 x (List.mem_of_getElem? hx)
  obtain ⟨g1, g2, g3, g4, g5, g6⟩ := hd
  refine .inl ⟨a ++ [x], by simp [ha], ?_, by simp⟩
  unfold f736l0s
  simp only [ltn hi, nn, Bool.and_self, cond_true, Int.toNat_natCast, getD_of hx, f777q _ (show x.2.2.2.2.2.2.length ≤ 1000 by omega), bind_some', wi_succ (i := i) (by omega), List.nil_append]
  rw [bif_true (szN (by simp; omega) (by decide)), bif_true (szN (by simp; omega) (by decide))]
def dE (pr : Option ByteArray) (d : Dsc) : Int := if !isId d.1 then 7 else if (match pr with | none => false | some p => !strLt p d.1) then 14 else dscE d
def runD : Option ByteArray → Nat → List Dsc → Int × Int
 | _, _, [] => (0, 0)
 | pr, i, d :: l => if dE pr d ≠ 0 then ((i : Int), dE pr d) else runD (some d.1) (i + 1) l
def filE (l : List Dsc) : Int × Int := if l.length > 20 then (0, 2) else runD none 0 l
def prevD (l : List Dsc) (i : Nat) : Option ByteArray := if i = 0 then none else l[i - 1]?.map (·.1)
theorem prevD_succ {l : List Dsc} {i : Nat} {x : Dsc} (h : l[i]? = some x) : prevD l (i + 1) = some x.1 := by
 unfold prevD
 rw [if_neg (by omega), Nat.add_sub_cancel, h]; rfl
theorem fst0_3 (a b c : Int) : fst0 [a, b, c] = if a ≠ 0 then a else if b ≠ 0 then b else c := by
 simp only [fst0]
 by_cases h : c = 0 <;> simp [h]
theorem f746p0q {R : Type} (k0 : List Dsc × Int × Int × List Dsc × Int × Int × Unit → Option R) (k1 : List Dsc × List Dsc × Int × Int × Unit → Option R) {l : List Dsc} {i : Nat} {x : Dsc} (hl : l.length ≤ 21) (hx : l[i]? = some x) (hd : FewD x) (n : Int) :
  f746p0 1000 k0 k1 (l, l, n, (i : Int), ()) = if dE (prevD l i) x ≠ 0 then k0 (l, (i : Int), dE (prevD l i) x, l, n, (i : Int), ()) else k1 (l, l, n, (i : Int), ()) := by
 have hi : i < l.length := (List.getElem?_eq_some_iff.1 hx).1
 unfold f746p0
 simp only [inb hi, cond_true, Int.toNat_natCast, getD_of hx, f788q, f761q, f789q hd, bind_some', f760q _ (show ([_, _, _] : List Int).length < 1000 by simp), fst0_3]
 cases i with
 | zero =>
  simp only [show decide (((0 : Nat) : Int) > 0) = false from rfl, cond_false, prevD, if_true, dE]
  cases isId x.1 with
  | false => simp
  | true =>
   by_cases hz : dscE x = 0
   ·simp [hz]
   ·simp [hz, bne0 hz]
 | succ j =>
  have hj : j < l.length := by omega
  obtain ⟨p, hp⟩ : ∃ p, l[j]? = some p := ⟨_, List.getElem?_eq_getElem hj⟩
  have hw : mxI (IntKind.i64.wrap (((j + 1 : Nat) : Int) - 1)) 0 = (j : Int) := by
   rw [wi (by omega) (by omega)]; unfold mxI; split <;> omega
  simp only [show decide (((j + 1 : Nat) : Int) > 0) = true by simp, cond_true, hw, inb hj, Int.toNat_natCast, getD_of hp]
  rw [prevD_succ hp]
  unfold dE
  cases isId x.1 with
  | false => simp
  | true =>
   cases hlt : strLt p.1 x.1 with
   | false => simp [hlt]
   | true =>
    by_cases hz : dscE x = 0
    ·simp [hlt, hz]
    ·simp [hlt, hz, bne0 hz]
theorem f746q {l : List Dsc} (h : FewF l) : f746F 1000 l = some (filE l) := by
 obtain ⟨h1, h2⟩ := h
 unfold f746F filE
 by_cases h20 : l.length > 20
 ·rw [if_pos h20, bif_true (by simp; omega)]
 ·rw [if_neg h20, bif_false (by simp; omega)]
  unfold f746l1
  refine iter_list (k := 1000) (R := Int × Int) (A := Nat × Option ByteArray) l (fun i _ => (l, l, (l.length : Int), (i : Int), ())) (fun m a => some (runD a.2 a.1 m)) (fun i a => a = (i, prevD l i)) ?_ ?_ (by omega) (0, none) rfl
  ·intro rec a _
   unfold f746l1s
   simp [runD]
  ·intro rec i a x hx hi ha
   subst ha
   unfold f746l1s
   simp only [ltn hi, cond_true, f746p0q _ _ h1 hx (h2 x (List.mem_of_getElem? hx)), wi_succ (i := i) (by omega)]
   by_cases hz : dE (prevD l i) x = 0
   ·refine .inl ⟨_, rfl, by simp [hz], ?_⟩
    simp [runD, hz, prevD_succ hx]
   ·exact .inr (by simp [runD, hz])
theorem f748p0q {R : Type} (k0 : List Dsc × Int × Int × Unit → Option R) {l : List Dsc} {i : Nat} {x : Dsc} (hl : l.length ≤ 21) (hx : l[i]? = some x) (hd : FewD x) :
  f748p0 1000 k0 (l, (i : Int), ()) = k0 (l, (i : Int), dE (prevD l i) x, ()) := by
 have hi : i < l.length := (List.getElem?_eq_some_iff.1 hx).1
 unfold f748p0
 simp only [inb hi, cond_true, Int.toNat_natCast, getD_of hx, f791q, f792q hd, bind_some']
 cases i with
 | zero =>
  simp only [show decide (((0 : Nat) : Int) > 0) = false from rfl, cond_false, prevD, if_true, dE]
  cases isId x.1 with
  | false => simp
  | true => simp
 | succ j =>
  have hj : j < l.length := by omega
  obtain ⟨p, hp⟩ : ∃ p, l[j]? = some p := ⟨_, List.getElem?_eq_getElem hj⟩
  have hw : IntKind.i64.wrap (((j + 1 : Nat) : Int) - 1) = (j : Int) := by
   rw [wi (by omega) (by omega)]; omega
  simp only [show decide (((j + 1 : Nat) : Int) > 0) = true by simp, cond_true, hw, inb hj, Int.toNat_natCast, getD_of hp, ← strLt_tot]
  rw [prevD_succ hp]
  unfold dE
  cases isId x.1 with
  | false => simp
  | true => cases hlt : strLt p.1 x.1 <;> simp [hlt]
theorem f748q {l : List Dsc} (h : FewF l) : f748F 1000 l = some (filE l) := by
 obtain ⟨h1, h2⟩ := h
 unfold f748F filE
 by_cases h20 : l.length > 20
 ·rw [if_pos h20, bif_true (by simp; omega)]
 ·rw [if_neg h20, bif_false (by simp; omega)]
  unfold f748l1
  refine iter_list (k := 1000) (R := Int × Int) (A := Nat × Option ByteArray) l (fun i _ => (l, (i : Int), ())) (fun m a => some (runD a.2 a.1 m)) (fun i a => a = (i, prevD l i)) ?_ ?_ (by omega) (0, none) rfl
  ·intro rec a _
   unfold f748l1s
   simp [runD]
  ·intro rec i a x hx hi ha
   subst ha
   unfold f748l1s
   simp only [ltn hi, cond_true, f748p0q _ h1 hx (h2 x (List.mem_of_getElem? hx)), wi_succ (i := i) (by omega)]
   by_cases hz : dE (prevD l i) x = 0
   ·refine .inl ⟨_, rfl, by simp [hz], ?_⟩
    simp [runD, hz, prevD_succ hx]
   ·exact .inr (by rw [bif_true (bne0 hz)]; simp [runD, hz])
def isD (id : ByteArray) (d : Dsc) : Bool := strEq d.1 id
theorem f790q (l : List Dsc) (id : ByteArray) (hl : l.length < 1000) : f790F 1000 (l, id) = some (ix (isD id) l) := by
 unfold f790F f818v0F f818v0l0
 have := iter_find (k := 1000) (R := Int × ByteArray × Unit) (Step := fun rec v => f818v0l0s 1000 rec (fun w3 => some (w3.1, w3.2.1, ())) (fun w4 => some (-1, w4.1, ())) v) l (isD id) (fun i => (l, (l.length : Int), (i : Int), id, ())) (fun i => some (i, id, ())) ?_ ?_ hl
 ·simp only [] at this ⊢
  rw [show ((0 : Int)) = ((0 : Nat) : Int) from rfl, this]
  rfl
 ·intro rec
  unfold f818v0l0s
  simp
 ·intro rec i x hx hi
  unfold f818v0l0s f819v0F isD
  simp only [ltn hi, nn, Bool.and_self, cond_true, Int.toNat_natCast, getD_of hx, bind_some', wi_succ (i := i) (by omega)]
theorem f749q (l : List Dsc) (id : ByteArray) (hl : l.length < 1000) : f749F 1000 (l, id) = some (ix (isD id) l) := by
 unfold f749F f749l0
 refine iter_find l (isD id) (fun i => (l, id, (i : Int), ())) (fun i => some i) ?_ ?_ hl
 ·intro rec
  unfold f749l0s
  simp
 ·intro rec i x hx hi
  unfold f749l0s isD
  simp only [ltn hi, nn, Bool.and_self, cond_true, Int.toNat_natCast, getD_of hx, bind_some', wi_succ (i := i) (by omega)]
end Go.Proofs.YthcmomgkfjjajaaGreatDoor
set_option linter.unusedVariables false
set_option linter.unusedSimpArgs false
namespace Go.Proofs.YthcmomgkfjjajaaGreatDoor
open Go.Ab
def isQ (nm : ByteArray) (q : Que) : Bool := strEq q.1 nm
def isK (key : Int) (m : Msg) : Bool := m.1 == key
theorem f752q (F : List Dsc) (Q : List Que) (nm : ByteArray) (hl : Q.length < 1000) : f752F 1000 ((F, Q), nm) = some (ix (isQ nm) Q) := by
 unfold f752F f795v0F f795v0l0
 have := iter_find (k := 1000) (R := Int × ByteArray × Unit) (Step := fun rec v => f795v0l0s 1000 rec (fun w3 => some (w3.1, w3.2.1, ())) (fun w4 => some (-1, w4.1, ())) v) Q (isQ nm) (fun i => (Q, (Q.length : Int), (i : Int), nm, ())) (fun i => some (i, nm, ())) ?_ ?_ hl
 ·simp only [] at this ⊢
  rw [show ((0 : Int)) = ((0 : Nat) : Int) from rfl, this]
  rfl
 ·intro rec
  unfold f795v0l0s
  simp
 ·intro rec i x hx hi
  unfold f795v0l0s f796v0F isQ
  simp only [ltn hi, nn, Bool.and_self, cond_true, Int.toNat_natCast, getD_of hx, bind_some', wi_succ (i := i) (by omega)]
theorem f731q (F : List Dsc) (Q : List Que) (nm : ByteArray) (hl : Q.length < 1000) : f731F 1000 ((F, Q), nm) = some (ix (isQ nm) Q) := by
 unfold f731F f731l0
 refine iter_find Q (isQ nm) (fun i => (nm, (i : Int), F, Q, ())) (fun i => some i) ?_ ?_ hl
 ·intro rec
  unfold f731l0s
  simp
 ·intro rec i x hx hi
  unfold f731l0s isQ
  simp only [ltn hi, nn, Bool.and_self, cond_true, Int.toNat_natCast, getD_of hx, bind_some', wi_succ (i := i) (by omega)]
theorem f733q (q : Que) (key : Int) (hl : q.2.2.2.2.length < 1000) : f733F 1000 ((q.1, (q.2.1, (q.2.2.1, (q.2.2.2.1, q.2.2.2.2)))), key) = some (ix (isK key) q.2.2.2.2) := by
 unfold f733F f733l0
 refine iter_find q.2.2.2.2 (isK key) (fun i => (key, (i : Int), q.1, q.2.1, q.2.2.1, q.2.2.2.1, q.2.2.2.2, ())) (fun i => some i) ?_ ?_ hl
 ·intro rec
  unfold f733l0s
  simp
 ·intro rec i x hx hi
  unfold f733l0s isK
  simp only [ltn hi, nn, Bool.and_self, cond_true, Int.toNat_natCast, getD_of hx, bind_some', wi_succ (i := i) (by omega)]
def frmB (m : Msg) : Bool := (m.2.2.2.2.2.2.1 && !(m.2.1 == 1)) || ((!(m.2.1 == 2) && m.2.2.2.2.2.2.2 != 0) || (m.2.1 == 2 && (!(decide (1 ≤ m.2.2.2.2.2.2.2) && decide (m.2.2.2.2.2.2.2 ≤ 1000000)) || !strEq m.2.2.1 ByteArray.empty)))
def msgE (Q : List Que) (m : Msg) : Int :=
 if !(decide (0 ≤ m.2.1) && decide (m.2.1 ≤ 2)) then 4 else if !strEq m.2.2.1 ByteArray.empty && !isId m.2.2.1 then 7 else if strEq m.2.2.2.1 ByteArray.empty then 1
 else if txE m.2.2.2.1 256 ≠ 0 then txE m.2.2.2.1 256 else if !strEq m.2.2.2.2.1 ByteArray.empty && ix (isQ m.2.2.2.2.1) Q == -1 then 11
 else if strEq m.2.2.2.2.1 ByteArray.empty && m.2.1 != 0 then 7 else if frmB m then 5 else 0
def keyB (last nx : Int) (m : Msg) : Bool := decide (m.1 ≤ last) || decide (m.1 ≥ nx)
theorem fst0_8 (a b c d e f g h : Int) : fst0 [a, b, c, d, e, f, g, h] = if a ≠ 0 then a else if b ≠ 0 then b else if c ≠ 0 then c else if d ≠ 0 then d else if e ≠ 0 then e else if f ≠ 0 then f else if g ≠ 0 then g else h := by
 simp only [fst0]
 by_cases hh : h = 0 <;> simp [hh]
theorem f812p0q {R : Type} (k0 : Int × Unit → Option R) (last : Int) (form : Bool) (F : List Dsc) (Q : List Que) (q : Que) (m : Msg) (hl : Q.length < 1000) (ht : m.2.2.2.1.size < 1000) :
  f812p0 1000 k0 (last, form, F, Q, q.1, q.2.1, q.2.2.1, q.2.2.2.1, q.2.2.2.2, m.1, m.2.1, m.2.2.1, m.2.2.2.1, m.2.2.2.2.1, m.2.2.2.2.2.1, m.2.2.2.2.2.2.1, m.2.2.2.2.2.2.2, ())
   = k0 (fst0 [bif keyB last q.2.2.2.1 m then 14 else 0, bif !(decide (0 ≤ m.2.1) && decide (m.2.1 ≤ 2)) then 4 else 0, bif !strEq m.2.2.1 ByteArray.empty && !isId m.2.2.1 then 7 else 0, bif strEq m.2.2.2.1 ByteArray.empty then 1 else 0, txE m.2.2.2.1 256,
    bif !strEq m.2.2.2.2.1 ByteArray.empty && ix (isQ m.2.2.2.2.1) Q == -1 then 11 else 0, bif strEq m.2.2.2.2.1 ByteArray.empty && m.2.1 != 0 then 7 else 0, bif form then 5 else 0], ()) := by
 unfold f812p0 keyB
 simp only [f761q, f762q, f788q, f797q _ 256 ht, f752q F Q _ hl, bind_some', f760q _ (show ([_, _, _, _, _, _, _, _] : List Int).length < 1000 by simp), ← ix_neg]
 cases decide (m.1 ≤ last) <;> cases strEq m.2.2.1 ByteArray.empty <;> cases strEq m.2.2.2.2.1 ByteArray.empty <;> simp only [Bool.not_true, Bool.not_false, cond_true, cond_false, Bool.true_and, Bool.false_and, Bool.true_or, Bool.false_or]
theorem f812q (last : Int) (F : List Dsc) (Q : List Que) (q : Que) (m : Msg) (hl : Q.length < 1000) (ht : m.2.2.2.1.size < 1000) :
  f812F 1000 ((F, Q), (q.1, (q.2.1, (q.2.2.1, (q.2.2.2.1, q.2.2.2.2)))), (m.1, (m.2.1, (m.2.2.1, (m.2.2.2.1, (m.2.2.2.2.1, (m.2.2.2.2.2.1, (m.2.2.2.2.2.2.1, m.2.2.2.2.2.2.2))))))), last) = some (if keyB last q.2.2.2.1 m then 14 else msgE Q m) := by
 have main : ∀ form : Bool, form = frmB m → fst0 [bif keyB last q.2.2.2.1 m then 14 else 0, bif !(decide (0 ≤ m.2.1) && decide (m.2.1 ≤ 2)) then 4 else 0, bif !strEq m.2.2.1 ByteArray.empty && !isId m.2.2.1 then 7 else 0, bif strEq m.2.2.2.1 ByteArray.empty then 1 else 0, txE m.2.2.2.1 256,
    bif !strEq m.2.2.2.2.1 ByteArray.empty && ix (isQ m.2.2.2.2.1) Q == -1 then 11 else 0, bif strEq m.2.2.2.2.1 ByteArray.empty && m.2.1 != 0 then 7 else 0, bif form then 5 else 0] = if keyB last q.2.2.2.1 m then 14 else msgE Q m := by
  intro form hf
  subst hf
  unfold msgE
  rw [fst0_8]
  cases keyB last q.2.2.2.1 m
  ·cases (!(decide (0 ≤ m.2.1) && decide (m.2.1 ≤ 2))) <;> cases (!strEq m.2.2.1 ByteArray.empty && !isId m.2.2.1) <;> cases (strEq m.2.2.2.1 ByteArray.empty) <;> cases (!strEq m.2.2.2.2.1 ByteArray.empty && ix (isQ m.2.2.2.2.1) Q == -1) <;> cases (strEq m.2.2.2.2.1 ByteArray.empty && m.2.1 != 0) <;> cases frmB m <;> simp
  ·simp
 unfold f812F
 simp only [f812p0q _ _ _ F Q q m hl ht, f762q, bind_some']
 have m0 := fun f h => congrArg some (main f h)
 unfold frmB at m0
 by_cases h1 : m.2.1 = 1
 ·have e2 : (m.2.1 == 2) = false := by rw [h1]; rfl
  have e1 : (m.2.1 == 1) = true := by rw [h1]; rfl
  have e3 : (m.2.1 != 1) = false := by rw [h1]; rfl
  simp only [e1, e2, e3, Bool.not_true, Bool.and_false, Bool.not_false, Bool.true_and, Bool.false_or, Bool.false_and, Bool.or_false, cond_true, cond_false] at m0 ⊢
  cases hr : (m.2.2.2.2.2.2.2 != 0) with
  | true => cases m.2.2.2.2.2.2.1 <;> simp only [cond_true, cond_false] <;> exact m0 true (by rw [hr])
  | false => cases m.2.2.2.2.2.2.1 <;> simp only [cond_true, cond_false] <;> exact m0 false (by rw [hr])
 ·have e1 : (m.2.1 == 1) = false := by simpa using h1
  have e3 : (m.2.1 != 1) = true := by simpa using h1
  by_cases h2 : m.2.1 = 2
  ·have e2 : (m.2.1 == 2) = true := by rw [h2]; rfl
   simp only [e1, e2, e3, Bool.not_true, Bool.and_true, Bool.not_false, Bool.true_and, Bool.false_or, Bool.false_and, Bool.or_false, cond_true, cond_false] at m0 ⊢
   cases hA : m.2.2.2.2.2.2.1 with
   | true => exact m0 true (by rw [hA]; rfl)
   | false =>
    cases hB : (decide (1 ≤ m.2.2.2.2.2.2.2) && decide (m.2.2.2.2.2.2.2 ≤ 1000000)) with
    | true => exact m0 (!strEq m.2.2.1 ByteArray.empty) (by rw [hA, hB]; rfl)
    | false => exact m0 true (by rw [hA, hB]; rfl)
  ·have e2 : (m.2.1 == 2) = false := by simpa using h2
   simp only [e1, e2, e3, Bool.not_true, Bool.and_true, Bool.not_false, Bool.true_and, Bool.false_or, Bool.false_and, Bool.or_false, cond_true, cond_false] at m0 ⊢
   cases hA : m.2.2.2.2.2.2.1 with
   | true => exact m0 true (by rw [hA]; rfl)
   | false =>
    cases hr : (m.2.2.2.2.2.2.2 != 0) with
    | true => exact m0 true (by rw [hA, hr]; rfl)
    | false => exact m0 false (by rw [hA, hr]; rfl)
theorem f786q (F : List Dsc) (Q : List Que) (m : Msg) (hl : Q.length < 1000) (ht : m.2.2.2.1.size < 1000) :
  f786F 1000 ((F, Q), (m.1, (m.2.1, (m.2.2.1, (m.2.2.2.1, (m.2.2.2.2.1, (m.2.2.2.2.2.1, (m.2.2.2.2.2.2.1, m.2.2.2.2.2.2.2)))))))) = some (msgE Q m) := by
 unfold f786F f786p0 f786p1 f786p2 f786p3 msgE frmB
 simp only [f48w, f791q, f756q _ ht, f731q F Q _ hl, bind_some']
 have hgt : ((m.2.2.2.1.size : Int) > 256) = ((256 : Int) < m.2.2.2.1.size) := rfl
 unfold txE
 cases (decide (0 ≤ m.2.1) && decide (m.2.1 ≤ 2)) with
 | false => rfl
 | true =>
 have rest : ∀ {α : Type} (c : Bool) (a b : α), (bif c then a else b) = if c = true then a else b := fun c a b => by cases c <;> rfl
 cases strEq m.2.2.1 ByteArray.empty <;> cases isId m.2.2.1 <;> cases strEq m.2.2.2.1 ByteArray.empty <;> (try simp only [Bool.not_true, Bool.not_false, cond_true, cond_false, Bool.true_and, Bool.false_and, Bool.and_false, Bool.and_true, Bool.false_eq_true, if_true, if_false])
 all_goals
  by_cases hs : (m.2.2.2.1.size : Int) > 256
  ·simp [hs]
  cases isTx m.2.2.2.1
  ·simp [hs]
  simp only [hs, decide_false, cond_false, if_false, if_true, Bool.not_true, cond_true, ne_eq, not_true_eq_false]
  cases strEq m.2.2.2.2.1 ByteArray.empty <;> cases (ix (isQ m.2.2.2.2.1) Q == -1) <;> cases hm : (m.2.1 != 0) <;> (try simp only [Bool.not_true, Bool.not_false, cond_true, cond_false, Bool.true_and, Bool.false_and, Bool.and_false, Bool.and_true, Bool.false_eq_true, if_true, if_false])
  all_goals
   have hn : (m.2.1 != 1) = !(m.2.1 == 1) := rfl
   rw [hn]
   cases m.2.2.2.2.2.2.1 <;> cases (m.2.1 == 1) <;> cases (m.2.1 == 2) <;> cases (m.2.2.2.2.2.2.2 != 0) <;> cases (decide (1 ≤ m.2.2.2.2.2.2.2) && decide (m.2.2.2.2.2.2.2 ≤ 1000000)) <;> rfl
end Go.Proofs.YthcmomgkfjjajaaGreatDoor
set_option linter.unusedVariables false
set_option linter.unusedSimpArgs false
namespace Go.Proofs.YthcmomgkfjjajaaGreatDoor
open Go.Ab
def runM (Q : List Que) (nx : Int) : Int → List Msg → Int
 | _, [] => 0
 | last, m :: l => if keyB last nx m = true then 14 else if msgE Q m ≠ 0 then msgE Q m else runM Q nx m.1 l
def queE (Q : List Que) (q : Que) : Int :=
 if !(decide (1 ≤ q.2.1) && decide (q.2.1 ≤ 12)) || !(decide (1 ≤ q.2.2.2.1) && decide (q.2.2.2.1 ≤ 1000000)) then 3
 else if (q.2.2.2.2.length : Int) > q.2.1 then 2 else runM Q q.2.2.2.1 0 q.2.2.2.2
structure FewQ (q : Que) : Prop where
 len : q.2.2.2.2.length ≤ 14
 text : ∀ m ∈ q.2.2.2.2, m.2.2.2.1.size ≤ 300
theorem fst0_2 (a b : Int) : fst0 [a, b] = if a ≠ 0 then a else b := by
 simp only [fst0]
 by_cases h : b = 0 <;> simp [h]
theorem f783q (F : List Dsc) (Q : List Que) {q : Que} (hQ : Q.length < 1000) (h : FewQ q) : f783F 1000 ((F, Q), (q.1, (q.2.1, (q.2.2.1, (q.2.2.2.1, q.2.2.2.2))))) = some (queE Q q) := by
 obtain ⟨h1, h2⟩ := h
 have loop : f783l1 1000 (fun w13 : Int × Unit => some w13.1) (fun w14 : Unit => some 0) (0, q.2.2.2.2, (q.2.2.2.2.length : Int), 0, F, Q, q.1, q.2.1, q.2.2.1, q.2.2.2.1, q.2.2.2.2, ()) = some (runM Q q.2.2.2.1 0 q.2.2.2.2) := by
  unfold f783l1
  refine iter_list (k := 1000) (R := Int) (A := Int) q.2.2.2.2 (fun i a => (a, q.2.2.2.2, (q.2.2.2.2.length : Int), (i : Int), F, Q, q.1, q.2.1, q.2.2.1, q.2.2.2.1, q.2.2.2.2, ())) (fun m a => some (runM Q q.2.2.2.1 a m)) (fun _ _ => True) ?_ ?_ (by omega) 0 trivial
  ·intro rec a _
   unfold f783l1s
   simp [runM]
  ·intro rec i a x hx hi _
   unfold f783l1s
   have ht : x.2.2.2.1.size < 1000 := by have := h2 x (List.mem_of_getElem? hx); omega
   simp only [ltn hi, nn, Bool.and_self, cond_true, Int.toNat_natCast, getD_of hx, f812q a F Q q x hQ ht, bind_some', wi_succ (i := i) (by omega)]
   cases hk : keyB a q.2.2.2.1 x with
   | true => exact .inr (by simp [runM, hk])
   | false =>
    by_cases hz : msgE Q x = 0
    ·exact .inl ⟨x.1, trivial, by simp [hz], by simp [runM, hk, hz]⟩
    ·exact .inr (by simp [runM, hk, hz, bne0 hz])
 unfold f783F f783p0 queE
 simp only [f762q, f761q, bind_some', f760q _ (show ([_, _] : List Int).length < 1000 by simp), loop, fst0_2]
 cases (decide (1 ≤ q.2.1) && decide (q.2.1 ≤ 12)) with
 | false => simp
 | true =>
  cases (decide (1 ≤ q.2.2.2.1) && decide (q.2.2.2.1 ≤ 1000000)) with
  | false => simp
  | true =>
   by_cases hl : (q.2.2.2.2.length : Int) > q.2.1
   ·rw [decide_eq_true hl]; simp [hl]
   ·rw [decide_eq_false hl]; simp [hl]
def qE (Q : List Que) (pr : Option ByteArray) (q : Que) : Int := if !isNm q.1 then 7 else if (match pr with | none => false | some p => !strLt p q.1) then 14 else queE Q q
def runQ (Q : List Que) : Option ByteArray → Nat → List Que → Int × Int
 | _, _, [] => (0, 0)
 | pr, i, q :: l => if qE Q pr q ≠ 0 then ((i : Int), qE Q pr q) else runQ Q (some q.1) (i + 1) l
def sysE (s : Sys) : Int × Int := if (filE s.1).2 ≠ 0 then filE s.1 else if s.2.length > 6 then (0, 2) else runQ s.2 none 0 s.2
structure Few (s : Sys) : Prop where
 file : FewF s.1
 len : s.2.length ≤ 7
 each : ∀ q ∈ s.2, FewQ q
def prevQ (l : List Que) (i : Nat) : Option ByteArray := if i = 0 then none else l[i - 1]?.map (·.1)
theorem prevQ_succ {l : List Que} {i : Nat} {x : Que} (h : l[i]? = some x) : prevQ l (i + 1) = some x.1 := by
 unfold prevQ
 rw [if_neg (by omega), Nat.add_sub_cancel, h]; rfl
theorem f739p0q {R : Type} (k0 : Int × Int × List Que × Int × Int × List Dsc × List Que × Unit → Option R) (k1 : List Que × Int × Int × List Dsc × List Que × Unit → Option R) (F : List Dsc) {l : List Que} {i : Nat} {x : Que} (hl : l.length ≤ 7) (hx : l[i]? = some x) (hd : FewQ x) (n : Int) :
  f739p0 1000 k0 k1 (l, n, (i : Int), F, l, ()) = if qE l (prevQ l i) x ≠ 0 then k0 ((i : Int), qE l (prevQ l i) x, l, n, (i : Int), F, l, ()) else k1 (l, n, (i : Int), F, l, ()) := by
 have hi : i < l.length := (List.getElem?_eq_some_iff.1 hx).1
 unfold f739p0
 simp only [inb hi, cond_true, Int.toNat_natCast, getD_of hx, f782q, f761q, f783q F l (show l.length < 1000 by omega) hd, bind_some', f760q _ (show ([_, _, _] : List Int).length < 1000 by simp), fst0_3]
 cases i with
 | zero =>
  simp only [show decide (((0 : Nat) : Int) > 0) = false from rfl, cond_false, prevQ, if_true, qE]
  cases isNm x.1 with
  | false => simp
  | true =>
   by_cases hz : queE l x = 0
   ·simp [hz]
   ·simp [hz, bne0 hz]
 | succ j =>
  have hj : j < l.length := by omega
  obtain ⟨p, hp⟩ : ∃ p, l[j]? = some p := ⟨_, List.getElem?_eq_getElem hj⟩
  have hw : mxI (IntKind.i64.wrap (((j + 1 : Nat) : Int) - 1)) 0 = (j : Int) := by
   rw [wi (by omega) (by omega)]; unfold mxI; split <;> omega
  simp only [show decide (((j + 1 : Nat) : Int) > 0) = true by simp, cond_true, hw, inb hj, Int.toNat_natCast, getD_of hp]
  rw [prevQ_succ hp]
  unfold qE
  cases isNm x.1 with
  | false => simp
  | true =>
   cases hlt : strLt p.1 x.1 with
   | false => simp [hlt]
   | true =>
    by_cases hz : queE l x = 0
    ·simp [hlt, hz]
    ·simp [hlt, hz, bne0 hz]
theorem f739q {s : Sys} (h : Few s) : f739F 1000 (s.1, s.2) = some (sysE s) := by
 obtain ⟨h0, h1, h2⟩ := h
 unfold f739F sysE
 simp only [f746q h0, bind_some']
 by_cases hf : (filE s.1).2 = 0
 ·rw [if_neg (by simpa using hf), bif_false (by simpa using hf)]
  by_cases h6 : s.2.length > 6
  ·rw [if_pos h6, bif_true (by simp; omega)]
  ·rw [if_neg h6, bif_false (by simp; omega)]
   unfold f739l1
   refine iter_list (k := 1000) (R := Int × Int) (A := Nat × Option ByteArray) s.2 (fun i _ => (s.2, (s.2.length : Int), (i : Int), s.1, s.2, ())) (fun m a => some (runQ s.2 a.2 a.1 m)) (fun i a => a = (i, prevQ s.2 i)) ?_ ?_ (by omega) (0, none) rfl
   ·intro rec a _
    unfold f739l1s
    simp [runQ]
   ·intro rec i a x hx hi ha
    subst ha
    unfold f739l1s
    simp only [ltn hi, cond_true, f739p0q _ _ _ h1 hx (h2 x (List.mem_of_getElem? hx)), wi_succ (i := i) (by omega)]
    by_cases hz : qE s.2 (prevQ s.2 i) x = 0
    ·refine .inl ⟨_, rfl, by simp [hz], ?_⟩
     simp [runQ, hz, prevQ_succ hx]
    ·exact .inr (by simp [runQ, hz])
 ·rw [if_pos (by simpa using hf), bif_true (by simpa using hf)]
theorem key_eq {last nx : Int} (m : Msg) (h0 : 0 ≤ last) (h1 : last ≤ 1000000) (h2 : 1 ≤ nx) (h3 : nx ≤ 1000000) :
  (!(decide (IntKind.i64.wrap (last + 1) ≤ m.1) && decide (m.1 ≤ IntKind.i64.wrap (nx - 1)))) = keyB last nx m := by
 rw [wi (by omega) (by omega), wi (by omega) (by omega)]
 unfold keyB
 rw [Bool.eq_iff_iff]
 simp
 omega
theorem f741l1q {R : Type} (k0 : Int × Int × Int × List Dsc × List Que × Unit → Option R) (k1 : Int × List Dsc × List Que × Unit → Option R) (i0 : Int) (F : List Dsc) (Q : List Que) (q : Que) (hQ : Q.length < 1000) (h : FewQ q) (n1 : 1 ≤ q.2.2.2.1) (n2 : q.2.2.2.1 ≤ 1000000) :
  f741l1 1000 k0 k1 (i0, 0, 0, F, Q, q.1, q.2.1, q.2.2.1, q.2.2.2.1, q.2.2.2.2, ()) = if runM Q q.2.2.2.1 0 q.2.2.2.2 ≠ 0 then k0 (i0, runM Q q.2.2.2.1 0 q.2.2.2.2, i0, F, Q, ()) else k1 (i0, F, Q, ()) := by
 obtain ⟨h1, h2⟩ := h
 unfold f741l1
 refine iter_list (k := 1000) (A := Int) q.2.2.2.2 (fun i a => (i0, a, (i : Int), F, Q, q.1, q.2.1, q.2.2.1, q.2.2.2.1, q.2.2.2.2, ())) (fun m a => if runM Q q.2.2.2.1 a m ≠ 0 then k0 (i0, runM Q q.2.2.2.1 a m, i0, F, Q, ()) else k1 (i0, F, Q, ())) (fun _ a => 0 ≤ a ∧ a ≤ 1000000) ?_ ?_ (by omega) 0 (by decide)
 ·intro rec a _
  unfold f741l1s
  simp [runM]
 ·intro rec i a x hx hi ha
  unfold f741l1s
  have ht : x.2.2.2.1.size < 1000 := by have := h2 x (List.mem_of_getElem? hx); omega
  simp only [ltn hi, nn, Bool.and_self, cond_true, Int.toNat_natCast, getD_of hx, f786q F Q x hQ ht, f48w, key_eq x ha.1 ha.2 n1 n2, bind_some', wi_succ (i := i) (by omega)]
  cases hk : keyB a q.2.2.2.1 x with
  | true => exact .inr (by simp [runM, hk])
  | false =>
   by_cases hz : msgE Q x = 0
   ·refine .inl ⟨x.1, ?_, by simp [hz], by simp [runM, hk, hz]⟩
    unfold keyB at hk
    simp only [Bool.or_eq_false_iff, decide_eq_false_iff_not] at hk
    omega
   ·exact .inr (by simp [runM, hk, hz, bne0 hz])
theorem f741q {s : Sys} (h : Few s) : f741F 1000 (s.1, s.2) = some (sysE s) := by
 obtain ⟨h0, h1, h2⟩ := h
 unfold f741F sysE
 simp only [f748q h0, bind_some']
 by_cases hf : (filE s.1).2 = 0
 ·rw [if_neg (by simpa using hf), bif_false (by simpa using hf)]
  by_cases h6 : s.2.length > 6
  ·rw [if_pos h6, bif_true (by simp; omega)]
  ·rw [if_neg h6, bif_false (by simp; omega)]
   unfold f741l2
   refine iter_list (k := 1000) (R := Int × Int) (A := Nat × Option ByteArray) s.2 (fun i _ => ((i : Int), s.1, s.2, ())) (fun m a => some (runQ s.2 a.2 a.1 m)) (fun i a => a = (i, prevQ s.2 i)) ?_ ?_ (by omega) (0, none) rfl
   ·intro rec a _
    unfold f741l2s
    simp [runQ]
   ·intro rec i a x hx hi ha
    subst ha
    have hq := h2 x (List.mem_of_getElem? hx)
    have step : f741l2s 1000 rec (fun w16 : Int × Int × Unit => some (w16.1, w16.2.1)) (fun w17 : Unit => some (0, 0)) ((i : Int), s.1, s.2, ()) = if qE s.2 (prevQ s.2 i) x ≠ 0 then some ((i : Int), qE s.2 (prevQ s.2 i) x) else rec (((i + 1 : Nat) : Int), s.1, s.2, ()) := by
     unfold f741l2s f741p0
     simp only [ltn hi, nn, Bool.and_self, cond_true, Int.toNat_natCast, getD_of hx, f785q, f48w, bind_some']
     have tail : ∀ c : Bool, c = (match prevQ s.2 i with | none => false | some p => !strLt p x.1) → (bif isNm x.1 then (bif c then some ((i : Int), (14 : Int)) else
       bif !(decide (1 ≤ x.2.1) && decide (x.2.1 ≤ 12)) then some ((i : Int), (3 : Int)) else bif !(decide (1 ≤ x.2.2.2.1) && decide (x.2.2.2.1 ≤ 1000000)) then some ((i : Int), (3 : Int)) else
       bif decide ((x.2.2.2.2.length : Int) > x.2.1) then some ((i : Int), (2 : Int)) else
       f741l1 1000 (fun w14 : Int × Int × Int × List Dsc × List Que × Unit => some (w14.1, w14.2.1)) (fun w15 : Int × List Dsc × List Que × Unit => rec (IntKind.i64.wrap (w15.1 + 1), w15.2.1, w15.2.2.1, ())) ((i : Int), 0, 0, s.1, s.2, x.1, x.2.1, x.2.2.1, x.2.2.2.1, x.2.2.2.2, ())) else some ((i : Int), (7 : Int))) = if qE s.2 (prevQ s.2 i) x ≠ 0 then some ((i : Int), qE s.2 (prevQ s.2 i) x) else rec (((i + 1 : Nat) : Int), s.1, s.2, ()) := by
      intro c hc
      unfold qE
      rw [← hc]
      cases isNm x.1 with
      | false => simp
      | true =>
       cases c with
       | true => simp
       | false =>
        unfold queE
        cases (decide (1 ≤ x.2.1) && decide (x.2.1 ≤ 12)) with
        | false => simp
        | true =>
         cases hn : (decide (1 ≤ x.2.2.2.1) && decide (x.2.2.2.1 ≤ 1000000)) with
         | false => simp
         | true =>
          rw [Bool.and_eq_true, decide_eq_true_eq, decide_eq_true_eq] at hn
          by_cases hl : (x.2.2.2.2.length : Int) > x.2.1
          ·rw [decide_eq_true hl]; simp [hl]
          ·rw [decide_eq_false hl, f741l1q _ _ _ _ _ _ (by omega) hq hn.1 hn.2]
           by_cases hz : runM s.2 x.2.2.2.1 0 x.2.2.2.2 = 0
           ·simp only [hz, wi_succ (i := i) (show i < 9223372036854775807 by omega)]; simp [hl]
           ·simp [hl, hz]
     cases i with
     | zero =>
      have t0 := tail false (by simp [prevQ])
      simp only [show decide (((0 : Nat) : Int) > 0) = false from rfl, cond_false]
      rw [← t0]
      cases isNm x.1 <;> rfl
     | succ j =>
      have hj : j < s.2.length := by omega
      obtain ⟨p, hp⟩ : ∃ p, s.2[j]? = some p := ⟨_, List.getElem?_eq_getElem hj⟩
      have hw : IntKind.i64.wrap (((j + 1 : Nat) : Int) - 1) = (j : Int) := by
       rw [wi (by omega) (by omega)]; omega
      have t0 := tail (!strLt p.1 x.1) (by rw [prevQ_succ hp])
      simp only [show decide (((j + 1 : Nat) : Int) > 0) = true by simp, cond_true, hw, inb hj, Int.toNat_natCast, getD_of hp, ← strLt_tot]
      rw [← t0]
      cases isNm x.1 <;> rfl
    rw [step]
    by_cases hz : qE s.2 (prevQ s.2 i) x = 0
    ·refine .inl ⟨_, rfl, by simp [hz], ?_⟩
     simp [runQ, hz, prevQ_succ hx]
    ·exact .inr (by simp [runQ, hz])
 ·rw [if_pos (by simpa using hf), bif_true (by simpa using hf)]
end Go.Proofs.YthcmomgkfjjajaaGreatDoor
set_option linter.unusedVariables false
set_option linter.unusedSimpArgs false
namespace Go.Proofs.YthcmomgkfjjajaaGreatDoor
open Go.Ab
def fewQ (q : Que) : Bool := decide (q.2.2.2.2.length ≤ 14) && q.2.2.2.2.all fun m => decide (m.2.2.2.1.size ≤ 300)
def fewS (s : Sys) : Bool := fewDs s.1 && (decide (s.2.length ≤ 7) && s.2.all fewQ)
theorem fewQ_iff {q : Que} : fewQ q = true ↔ FewQ q := by
 unfold fewQ
 rw [Bool.and_eq_true, decide_eq_true_eq, List.all_eq_true]
 exact ⟨fun h => ⟨h.1, fun m hm => by simpa using h.2 m hm⟩, fun h => ⟨h.1, fun m hm => by simpa using h.2 m hm⟩⟩
theorem fewS_iff {s : Sys} : fewS s = true ↔ Few s := by
 unfold fewS
 rw [Bool.and_eq_true, Bool.and_eq_true, decide_eq_true_eq, List.all_eq_true]
 exact ⟨fun h => ⟨fewDs_iff.1 h.1, h.2.1, fun q hq => fewQ_iff.1 (h.2.2 q hq)⟩, fun h => ⟨fewDs_iff.2 h.1, h.2, fun q hq => fewQ_iff.2 (h.3 q hq)⟩⟩
theorem f713l0q {R : Type} (k0 : Bool × Int × List Dsc × List Que × Unit → Option R) (k1 : Int × List Dsc × List Que × Unit → Option R) (F : List Dsc) (Q : List Que) {j : Nat} {q : Que} (hq : Q[j]? = some q) (hl : q.2.2.2.2.length ≤ 14) :
  f713l0 1000 k0 k1 ((j : Int), 0, F, Q, ()) = bif q.2.2.2.2.all (fun m => decide (m.2.2.2.1.size ≤ 300)) then k1 ((j : Int), F, Q, ()) else k0 (false, (j : Int), F, Q, ()) := by
 have hj : j < Q.length := (List.getElem?_eq_some_iff.1 hq).1
 unfold f713l0
 refine iter_list (k := 1000) (A := Unit) q.2.2.2.2 (fun i _ => ((j : Int), (i : Int), F, Q, ())) (fun m _ => bif m.all (fun m => decide (m.2.2.2.1.size ≤ 300)) then k1 ((j : Int), F, Q, ()) else k0 (false, (j : Int), F, Q, ())) (fun _ _ => True) ?_ ?_ (by omega) () trivial
 ·intro rec _ _
  unfold f713l0s
  simp only [nn, ltn hj, Bool.and_self, cond_true, Int.toNat_natCast, getD_of hq]
  simp
 ·intro rec i _ x hx hi _
  unfold f713l0s
  simp only [nn, ltn hj, ltn hi, Bool.and_self, cond_true, Int.toNat_natCast, getD_of hq, getD_of hx, wi_succ (i := i) (by omega), List.all_cons]
  by_cases h : x.2.2.2.1.size ≤ 300
  ·exact .inl ⟨(), trivial, by rw [bif_false (by simp; omega)], by simp [h]⟩
  ·exact .inr (by rw [bif_true (by simp; omega)]; simp [h])
theorem f713q (s : Sys) : f713F 1000 (s.1, s.2) = some (fewS s) := by
 unfold f713F fewS
 simp only [f745q, bind_some']
 cases fewDs s.1 with
 | false => rfl
 | true =>
  simp only [Bool.not_true, cond_false, Bool.true_and]
  by_cases h : s.2.length ≤ 7
  ·rw [decide_eq_true h, Bool.true_and, bif_false (by simp; omega)]
   unfold f713l1
   refine iter_list (k := 1000) (R := Bool) (A := Unit) s.2 (fun i _ => ((i : Int), s.1, s.2, ())) (fun m _ => some (m.all fewQ)) (fun _ _ => True) ?_ ?_ (by omega) () trivial
   ·intro rec _ _
    unfold f713l1s
    simp
   ·intro rec i _ x hx hi _
    unfold f713l1s
    simp only [ltn hi, nn, Bool.and_self, cond_true, Int.toNat_natCast, getD_of hx, List.all_cons]
    by_cases hl : x.2.2.2.2.length ≤ 14
    ·rw [bif_false (by simp; omega), f713l0q _ _ _ _ hx hl]
     simp only [wi_succ (i := i) (show i < 9223372036854775807 by omega)]
     unfold fewQ
     rw [decide_eq_true hl, Bool.true_and]
     cases x.2.2.2.2.all (fun m => decide (m.2.2.2.1.size ≤ 300)) with
     | true => exact .inl ⟨(), trivial, rfl, by rw [Bool.true_and]⟩
     | false => exact .inr rfl
    ·exact .inr (by rw [bif_true (by simp; omega)]; unfold fewQ; simp [hl])
  ·rw [decide_eq_false h, bif_true (by simp; omega)]; rfl
theorem f716q {s : Sys} (h : Few s) : f716F 1000 (s.1, s.2) = some s := by
 obtain ⟨F, Q⟩ := s
 obtain ⟨h0, h1, h2⟩ := h
 simp only at h0 h1 h2
 unfold f716F f716p2
 simp only [f736q h0, bind_some']
 have lp : ∀ (q : Que) (m : List Que), Q = q :: m → f716l0 1000 (fun w7 : List Dsc × List Que × List Dsc × List Que × Unit => some (w7.2.2.1, w7.2.2.2.1)) (1, F, Q, [], [], F, [q], ()) = some (F, Q) := by
  intro q m hq
  have key := iter_from (k := 1000) (R := Sys) (A := List Que) (Step := fun rec v => f716l0s 1000 rec (fun w7 : List Dsc × List Que × List Dsc × List Que × Unit => some (w7.2.2.1, w7.2.2.2.1)) v) Q (fun i a => ((i : Int), F, Q, [], [], F, a, ())) (fun m a => some (F, a ++ m)) (fun i a => a.length = i) ?_ ?_ (by omega) 1 [q] (by rw [hq]; simp) rfl
  ·unfold f716l0
   rw [show ((1 : Int)) = ((1 : Nat) : Int) from rfl, key, hq]
   rfl
  ·intro rec a _
   unfold f716l0s
   simp
  ·intro rec i a x hx hi ha
   have hd := h2 x (List.mem_of_getElem? hx)
   obtain ⟨g1, g2⟩ := hd
   refine .inl ⟨a ++ [x], by simp [ha], ?_, by simp⟩
   unfold f716l0s
   simp only [ltn hi, nn, Bool.and_self, cond_true, Int.toNat_natCast, getD_of hx, wi_succ (i := i) (by omega), List.nil_append]
   rw [bif_true (szN (by simp; omega) (by decide)), bif_true (szN (by simp; omega) (by decide))]
 unfold f716l1
 rw [iterS_1000]
 cases Q with
 | nil => rfl
 | cons q m =>
  unfold f716l1s
  have hq : FewQ q := h2 q (by simp)
  obtain ⟨g1, g2⟩ := hq
  have hc : decide ((0 : Int) < (((q :: m).length : Nat) : Int)) = true := by simp
  simp only [hc, decide_true, Bool.and_self, cond_true, Int.toNat_zero, List.getD_cons_zero, List.nil_append]
  rw [bif_true (by simp), bif_true (szN (by simp; omega) (by decide)), bif_true (szN (by simp) (by decide))]
  exact lp q m rfl
theorem f727q {s : Sys} (h : Few s) : f727F 1000 (s.1, s.2) = some (sysE s).2 := by
 unfold f727F
 simp only [f741q h, bind_some']
def qErr (s : Sys) (nm : ByteArray) : Int := if (sysE s).2 ≠ 0 then (sysE s).2 else if ix (isQ nm) s.2 == -1 then 11 else 0
theorem f742q {s : Sys} (h : Few s) (nm : ByteArray) : f742F 1000 ((s.1, s.2), nm) = some (qErr s nm) := by
 have := h.len
 unfold f742F qErr
 simp only [f727q h, bind_some', f731q s.1 s.2 nm (by omega), f69q]
 by_cases hz : (sysE s).2 = 0
 ·rw [bif_false (by simpa using hz)]
  simp only [hz, ne_eq, not_true_eq_false, if_false]
  cases ix (isQ nm) s.2 == -1 <;> rfl
 ·rw [bif_true (bne0 hz), if_pos hz]
theorem f821q (F : List Dsc) (Q : List Que) (l : List ByteArray) (hQ : Q.length < 1000) (hl : l.length < 1000) : f821v0F 1000 (l, F, Q, ()) = some (ix (fun n => ix (isQ n) Q == -1) l, F, Q, ()) := by
 unfold f821v0F f821v0l0
 refine iter_find l (fun n => ix (isQ n) Q == -1) (fun i => (l, (l.length : Int), (i : Int), F, Q, ())) (fun i => some (i, F, Q, ())) ?_ ?_ hl
 ·intro rec
  unfold f821v0l0s
  simp
 ·intro rec i x hx hi
  unfold f821v0l0s f794v0F
  simp only [ltn hi, nn, Bool.and_self, cond_true, Int.toNat_natCast, getD_of hx, f752q F Q _ hQ, bind_some', wi_succ (i := i) (by omega), ← ix_neg]
theorem f751q {s : Sys} (h : Few s) (l : List ByteArray) (hl : l.length < 1000) : f751F 1000 ((s.1, s.2), l) = some (if (sysE s).2 ≠ 0 then (sysE s).2 else if l.any (fun n => ix (isQ n) s.2 == -1) then 11 else 0) := by
 have := h.len
 unfold f751F f793v0F
 simp only [f739q h, bind_some', f821q s.1 s.2 l (by omega) hl, f761q, ix_nonneg, ix_any]
 by_cases hz : (sysE s).2 = 0
 ·rw [bif_false (by simpa using hz), if_neg (by simpa using hz)]
  cases l.any (fun n => ix (isQ n) s.2 == -1) <;> rfl
 ·rw [bif_true (bne0 hz), if_pos hz]
theorem f751one {s : Sys} (h : Few s) (nm : ByteArray) : f751F 1000 ((s.1, s.2), [nm]) = some (qErr s nm) := by
 rw [f751q h _ (by simp)]
 simp [qErr]
def opn (m : Msg) : Bool := m.2.1 == 1 && !m.2.2.2.2.2.2.1
theorem f784q (k : Nat) (m : Msg) : f784F k (m.1, (m.2.1, (m.2.2.1, (m.2.2.2.1, (m.2.2.2.2.1, (m.2.2.2.2.2.1, (m.2.2.2.2.2.2.1, m.2.2.2.2.2.2.2))))))) = some (opn m) := by
 unfold f784F opn
 cases m.2.1 == 1 <;> rfl
theorem f787q (k : Nat) (m : Msg) : f787F k (m.1, (m.2.1, (m.2.2.1, (m.2.2.2.1, (m.2.2.2.2.1, (m.2.2.2.2.2.1, (m.2.2.2.2.2.2.1, m.2.2.2.2.2.2.2))))))) = some (opn m) := by
 unfold f787F opn
 cases m.2.1 == 1 <;> rfl
theorem ix_get {α : Type} (p : α → Bool) (l : List α) (h : (ix p l == -1) = false) : ∃ (j : Nat) (x : α), ix p l = (j : Int) ∧ l[j]? = some x ∧ j < l.length ∧ p x = true := by
 rcases ix_spec p l with ⟨e, _⟩ | ⟨j, x, e, hx, hp, _⟩
 ·rw [e] at h; cases h
 ·exact ⟨j, x, e, hx, (List.getElem?_eq_some_iff.1 hx).1, hp⟩
end Go.Proofs.YthcmomgkfjjajaaGreatDoor
set_option linter.unusedVariables false
set_option linter.unusedSimpArgs false
namespace Go.Proofs.YthcmomgkfjjajaaGreatDoor
open Go.Ab
def decS (u : Nat) : ByteArray := ⟨(Lib.decDigits u).toArray⟩
end Go.Proofs.YthcmomgkfjjajaaGreatDoor
set_option linter.unusedVariables false
set_option linter.unusedSimpArgs false
namespace Go.Proofs.YthcmomgkfjjajaaGreatDoor
open Go.Ab
end Go.Proofs.YthcmomgkfjjajaaGreatDoor
set_option linter.unusedVariables false
set_option linter.unusedSimpArgs false
namespace Go.Proofs.YthcmomgkfjjajaaGreatDoor
open Go.Ab
def wd (t : Typ) : Int := if tyErr t.1 t.2.1 t.2.2 ≠ 0 then 0 else if t.1 = 4 then 16 else szOf t.1 t.2.1
end Go.Proofs.YthcmomgkfjjajaaGreatDoor
set_option linter.unusedVariables false
set_option linter.unusedSimpArgs false
namespace Go.Proofs.YthcmomgkfjjajaaGreatDoor
open Go.Ab
end Go.Proofs.YthcmomgkfjjajaaGreatDoor
set_option linter.unusedVariables false
set_option linter.unusedSimpArgs false
namespace Go.Proofs.YthcmomgkfjjajaaGreatDoor
open Go.Ab
def starN : ByteArray := ⟨#[42, 78]⟩
def off (l : List Typ) : Nat → Int
 | 0 => 0
 | i + 1 => off l i + wd (l.getD i (0, (0, 0)))
end Go.Proofs.YthcmomgkfjjajaaGreatDoor
