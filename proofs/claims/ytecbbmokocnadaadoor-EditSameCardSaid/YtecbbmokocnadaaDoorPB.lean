/- Plain laws: the parts of a word: EditParts. -/
import Derived.Test.YtecbbmokocnadaaDoorPA
import Derived.Test.YtecbbmokocnadaaDoorFbJ
import Derived.Lib.SplitLaws
import Derived.Lib.ReplaceLaws
/-! Plain laws: the parts of a word. -/
set_option linter.unusedVariables false
set_option linter.unusedSimpArgs false
namespace Go.Ab

theorem ieq (a b : Int) : (a == b) = decide (a = b) := by rw [Bool.eq_iff_iff]; simp
theorem ine (a b : Int) : (a != b) = decide (a ≠ b) := by rw [Bool.eq_iff_iff]; simp
theorem idx_ok {i n : Nat} (h : i < n) : (decide ((0 : Int) ≤ (i : Int)) && decide ((i : Int) < (n : Int))) = true := by simp; omega
theorem S_nil : ByteArray.empty = S [] := rfl

/-! ### Where something stands -/
theorem findIdx_snoc {q : UInt8 → Bool} (m : List UInt8) (b : UInt8) : (m ++ [b]).findIdx q = if m.findIdx q < m.length then m.findIdx q else if q b = true then m.length else m.length + 1 := by
  induction m with
  | nil => cases h : q b <;> simp [List.findIdx_cons, h]
  | cons a m ih =>
    simp only [List.cons_append, List.findIdx_cons, List.length_cons]
    cases h : q a with
    | true => simp
    | false =>
      simp only [cond_false, ih]
      by_cases c : m.findIdx q < m.length
      · have c2 : m.findIdx q + 1 < m.length + 1 := by omega
        simp only [if_pos c, if_pos c2]
      · have c2 : ¬ m.findIdx q + 1 < m.length + 1 := by omega
        simp only [if_neg c, if_neg c2]
        split <;> rfl
def isStop (b : UInt8) : Bool := b == 48 || b == 42
/-- The place of the first zero or star; the length, if there is none. -/
def stopN (l : List UInt8) : Nat := l.findIdx isStop
def stopI (l : List UInt8) : Int := if stopN l < l.length then (stopN l : Int) else -1
def astB (l : List UInt8) : Bool := decide (stopN l < l.length) && (l.getD (stopN l) 0 == 42)
/-- The place behind the last blank; 0, if there is none. -/
def lastB (l : List UInt8) : Nat := l.length - l.reverse.findIdx (· == 32)
def bodyN (l : List UInt8) : Nat := max (lastB l) (if stopN l < l.length then stopN l + 1 else 0)
/-- Does a sign stand there? -/
def isSt (l : List UInt8) (i : Nat) : Bool := l.getD i 0 == 45 || (l.getD i 0 == 67 && (decide (i + 1 < l.length) && l.getD (i + 1) 0 == 82))
def statI (l : List UInt8) : Int := match (List.range' (bodyN l) (l.length - bodyN l)).find? (isSt l) with | some j => (j : Int) | none => -1

theorem getD_take {l : List UInt8} {i j : Nat} (h : j < i) : (l.take i).getD j 0 = l.getD j 0 := by
  simp [List.getD_eq_getElem?_getD, List.getElem?_take, h]
theorem lastB_snoc {l : List UInt8} {i : Nat} (h : i < l.length) : lastB (l.take (i + 1)) = if l.getD i 0 = 32 then i + 1 else lastB (l.take i) := by
  have e : l.take (i + 1) = l.take i ++ [l.getD i 0] := by
    rw [List.take_succ_eq_append_getElem h]
    simp [List.getD_eq_getElem?_getD, h]
  unfold lastB
  rw [e, List.reverse_append]
  simp only [List.reverse_cons, List.reverse_nil, List.nil_append, List.cons_append, List.findIdx_cons, List.length_append, List.length_take, List.length_cons, List.length_nil]
  by_cases c : l.getD i 0 = 32
  · rw [if_pos c, c]
    simp
    omega
  · rw [if_neg c]
    have : (l.getD i 0 == 32) = false := by simpa using c
    rw [this]
    simp only [cond_false]
    have := List.findIdx_le_length (p := (· == 32)) (xs := (l.take i).reverse)
    simp at this
    omega
theorem stopN_snoc {l : List UInt8} {i : Nat} (h : i < l.length) : stopN (l.take (i + 1)) = if stopN (l.take i) < i then stopN (l.take i) else if isStop (l.getD i 0) = true then i else i + 1 := by
  have e : l.take (i + 1) = l.take i ++ [l.getD i 0] := by
    rw [List.take_succ_eq_append_getElem h]
    simp [List.getD_eq_getElem?_getD, h]
  unfold stopN
  rw [e, findIdx_snoc]
  simp only [List.length_take, Nat.min_eq_left (Nat.le_of_lt h)]
theorem stopN_take_le {l : List UInt8} {i : Nat} (h : i ≤ l.length) : stopN (l.take i) ≤ i := by
  unfold stopN
  exact Nat.le_trans List.findIdx_le_length (by simp; omega)
theorem stopN_is {l : List UInt8} (h : stopN l < l.length) : isStop (l.getD (stopN l) 0) = true := by
  have := List.findIdx_getElem (p := isStop) (xs := l) (w := h)
  have h2 : List.findIdx isStop l < l.length := h
  unfold stopN
  rw [List.getD_eq_getElem?_getD, List.getElem?_eq_getElem h2]
  exact this
theorem stopI_snoc {l : List UInt8} {i : Nat} (h : i < l.length) : stopI (l.take (i + 1)) = if stopI (l.take i) = -1 then (if isStop (l.getD i 0) = true then (i : Int) else -1) else stopI (l.take i) := by
  have h1 := stopN_take_le (l := l) (i := i) (by omega)
  unfold stopI
  simp only [stopN_snoc h, List.length_take, Nat.min_eq_left (Nat.le_of_lt h), Nat.min_eq_left (Nat.succ_le_of_lt h)]
  by_cases c : stopN (l.take i) < i
  · rw [if_pos c, if_pos c, if_pos (by omega), if_neg (by omega)]
  · rw [if_neg c, if_neg c]
    by_cases q : isStop (l.getD i 0) = true
    · simp only [if_pos q]
      rw [if_pos (by omega), if_pos trivial]
    · simp only [if_neg q]
      rw [if_neg (by omega), if_pos trivial]
theorem astB_snoc {l : List UInt8} {i : Nat} (h : i < l.length) : astB (l.take (i + 1)) = if stopI (l.take i) = -1 then (l.getD i 0 == 42) else astB (l.take i) := by
  have h1 := stopN_take_le (l := l) (i := i) (by omega)
  unfold astB stopI
  simp only [stopN_snoc h, List.length_take, Nat.min_eq_left (Nat.le_of_lt h), Nat.min_eq_left (Nat.succ_le_of_lt h)]
  by_cases c : stopN (l.take i) < i
  · rw [if_pos c, if_pos c, if_neg (by omega), getD_take (by omega), getD_take (by omega)]
    simp [c]
    omega
  · rw [if_neg c, if_neg c, if_pos rfl]
    by_cases q : isStop (l.getD i 0) = true
    · rw [if_pos q, getD_take (by omega)]
      simp
    · rw [if_neg q]
      have : (l.getD i 0 == 42) = false := by
        unfold isStop at q
        simp at q
        simpa using q.2
      rw [this]
      simp
theorem indexAny_find' {qs : List UInt8} : ∀ (v : List UInt8), Lib.indexAny v qs = if v.findIdx (fun b => qs.contains b) < v.length then ((v.findIdx (fun b => qs.contains b) : Nat) : Int) else -1
  | [] => rfl
  | x :: v => by
    have ih := indexAny_find' (qs := qs) v
    simp only [Lib.indexAny, List.findIdx_cons, List.length_cons]
    cases h : qs.contains x with
    | true => simp
    | false =>
      simp only [Bool.false_eq_true, if_false, cond_false]
      rw [ih]
      by_cases hc : v.findIdx (fun b => qs.contains b) < v.length
      · have e1 : v.findIdx (fun b => qs.contains b) + 1 < v.length + 1 := by omega
        simp only [if_pos hc, if_pos e1]
        rw [if_neg (by simp; try omega)]
        omega
      · have e1 : ¬ v.findIdx (fun b => qs.contains b) + 1 < v.length + 1 := by omega
        simp only [if_neg hc, if_neg e1]
        rfl
theorem indexAny_stop (l : List UInt8) : Lib.indexAny l [48, 42] = stopI l := by
  rw [indexAny_find']
  have e : (fun b => ([48, 42] : List UInt8).contains b) = isStop := by
    funext b
    rw [Bool.eq_iff_iff]
    simp [isStop]
  rw [e]
  rfl
end Go.Ab
namespace Go.Proofs.YtecbbmokocnadaaDoor
open Go.Ab

theorem find_congr {α : Type} {p q : α → Bool} : ∀ {l : List α}, (∀ x ∈ l, p x = q x) → l.find? p = l.find? q
  | [], _ => rfl
  | a :: l, h => by
    rw [List.find?_cons, List.find?_cons, h a (by simp), find_congr fun x hx => h x (by simp [hx])]
theorem u8i {b c : UInt8} : ((b.toNat : Int) == (c.toNat : Int)) = (b == c) := by
  rw [Bool.eq_iff_iff]
  simp only [beq_iff_eq]
  constructor
  · intro h
    exact UInt8.toNat_inj.1 (by omega)
  · rintro rfl
    rfl
theorem u8c32 {b : UInt8} : ((b.toNat : Int) == 32) = (b == 32) := u8i (c := 32)
theorem u8c38 {b : UInt8} : ((b.toNat : Int) == 38) = (b == 38) := u8i (c := 38)
theorem u8c42 {b : UInt8} : ((b.toNat : Int) == 42) = (b == 42) := u8i (c := 42)
theorem u8c45 {b : UInt8} : ((b.toNat : Int) == 45) = (b == 45) := u8i (c := 45)
theorem u8c48 {b : UInt8} : ((b.toNat : Int) == 48) = (b == 48) := u8i (c := 48)
theorem u8c67 {b : UInt8} : ((b.toNat : Int) == 67) = (b == 67) := u8i (c := 67)
theorem u8c82 {b : UInt8} : ((b.toNat : Int) == 82) = (b == 82) := u8i (c := 82)
theorem u8k {b : UInt8} {c : Nat} (h : c < 256) : ((b.toNat : Int) == (c : Int)) = (b == UInt8.ofNat c) := by
  have e : (UInt8.ofNat c).toNat = c := by rw [UInt8.toNat_ofNat']; omega
  rw [← u8i (c := UInt8.ofNat c), e]

theorem f380s (l : List UInt8) (ha : asc l) (hl : l.length ≤ 900) : f380F 1000 (S l, (⟨#[48, 42]⟩ : ByteArray)) = some (stopI l) := by
  have h : asciiB (S l) = true := by
    unfold asciiB
    rw [S_list]
    exact List.all_eq_true.2 fun b hb => decide_eq_true (ha b hb)
  have h2 : asciiB (⟨#[48, 42]⟩ : ByteArray) = true := by decide
  have e : (⟨#[48, 42]⟩ : ByteArray).data.toList = [48, 42] := rfl
  unfold f380F
  simp only [S_size, h, h2, S_list, e, indexAny_stop]
  have e2 : (⟨#[48, 42]⟩ : ByteArray).size = 2 := rfl
  rw [e2]
  simp (disch := omega) only [decide_eq_true, Bool.and_self, cond_true]

/-- A loop downwards that ends at the first place of some kind. -/
theorem last_find (l : List UInt8) (q : UInt8 → Bool) : (match (List.range' 0 l.length).find? (fun j => q (l.getD (l.length - 1 - j) 0)) with | some j => ((l.length - 1 - j : Nat) : Int) | none => -1) = ((l.length - l.reverse.findIdx q : Nat) : Int) - 1 := by
  have key : ∀ (m : List UInt8), (match (List.range' 0 m.length).find? (fun j => q (m.getD j 0)) with | some j => ((m.length - 1 - j : Nat) : Int) | none => -1) = ((m.length - m.findIdx q : Nat) : Int) - 1 := by
    intro m
    have hf : (List.range' 0 m.length).find? (fun j => q (m.getD j 0)) = if m.findIdx q < m.length then some (m.findIdx q) else none := by
      have : ∀ (v : List UInt8) (i : Nat), (∀ j, j < v.length → m.getD (i + j) 0 = v.getD j 0) → (List.range' i v.length).find? (fun j => q (m.getD j 0)) = if v.findIdx q < v.length then some (i + v.findIdx q) else none := by
        intro v
        induction v with
        | nil => intro i _; rfl
        | cons a v ih =>
          intro i hv
          have h0 := hv 0 (by simp)
          simp only [List.length_cons, List.range'_succ, List.find?_cons, List.findIdx_cons]
          rw [Nat.add_zero] at h0
          rw [h0]
          have ea : (a :: v).getD 0 0 = a := rfl
          rw [ea]
          cases h : q a with
          | true => simp
          | false =>
            simp only [cond_false]
            rw [ih (i + 1) fun j hj => by
              have := hv (j + 1) (by simpa using hj)
              rw [show i + 1 + j = i + (j + 1) by omega, this]
              rfl]
            by_cases c : v.findIdx q < v.length
            · rw [if_pos c, if_pos (by omega)]
              congr 1
              omega
            · rw [if_neg c, if_neg (by omega)]
      have := this m 0 fun j _ => by rw [Nat.zero_add]
      rw [this]
      simp
    rw [hf]
    by_cases c : m.findIdx q < m.length
    · rw [if_pos c]
      simp only []
      omega
    · rw [if_neg c]
      simp only []
      have := List.findIdx_le_length (p := q) (xs := m)
      omega
  have := key l.reverse
  simp only [List.length_reverse] at this
  rw [← this]
  have e : (fun j => q (l.getD (l.length - 1 - j) 0)) = (fun j => q (l.getD (l.length - 1 - j) 0)) := rfl
  have : (List.range' 0 l.length).find? (fun j => q (l.getD (l.length - 1 - j) 0)) = (List.range' 0 l.length).find? (fun j => q (l.reverse.getD j 0)) := by
    apply find_congr
    intro j hj
    have hj : j < l.length := by simpa using hj
    simp [List.getD_eq_getElem?_getD, List.getElem?_reverse hj]
  rw [this]
end Go.Proofs.YtecbbmokocnadaaDoor
/-! Plain laws: the parts of a word. -/
set_option linter.unusedVariables false
set_option linter.unusedSimpArgs false
namespace Go.Proofs.YtecbbmokocnadaaDoor
open Go.Ab

theorem f381q (l : List UInt8) (hl : l.length ≤ 900) : f381F 1000 (S l, 32) = some ((lastB l : Int) - 1) := by
  unfold f381F f402F f402l0
  have key := iter_scan (R := Int) (Step := fun rec v => f402l0s 1000 rec (fun (w1 : Int × Unit) => some w1.1) (fun (w2 : Unit) => some (-1 : Int)) v) (fun i => (S l, 32, (l.length : Int) - 1 - (i : Int), ())) (fun j => (fun b : UInt8 => b == 32) (l.getD (l.length - 1 - j) 0)) (fun j => some ((l.length - 1 - j : Nat) : Int)) (fin := some (-1)) l.length 0 1000
    (fun rec j _ hj hp => by
      unfold f402l0s
      have e : (l.length : Int) - 1 - (j : Int) = ((l.length - 1 - j : Nat) : Int) := by omega
      have hp : l.getD (l.length - 1 - j) 0 = 32 := by simpa using hp
      simp only [S_size, e]
      rw [bif_true (by simp), bif_true (by simp <;> omega), S_bt l _ (by omega), bif_true (by rw [hp]; rfl)])
    (fun rec j _ hj hp => by
      unfold f402l0s
      have e : (l.length : Int) - 1 - (j : Int) = ((l.length - 1 - j : Nat) : Int) := by omega
      have hp : (l.getD (l.length - 1 - j) 0 == 32) = false := hp
      simp only [S_size, e]
      rw [bif_true (by simp), bif_true (by simp <;> omega), S_bt l _ (by omega), bif_false (by rw [← hp]; exact u8c32), wi (by omega) (by omega), show ((l.length - 1 - j : Nat) : Int) - 1 = (l.length : Int) - 1 - ((j + 1 : Nat) : Int) by omega])
    (fun rec => by
      unfold f402l0s
      rw [bif_false (by simp; omega)]) (by omega)
  have e0 : IntKind.i64.wrap (((S l).size : Int) - 1) = (l.length : Int) - 1 - ((0 : Nat) : Int) := by
    rw [S_size, wi (by omega) (by omega)]
    omega
  simp only [e0]
  have e1 : ∀ z : Option Int, (Option.bind (Option.bind z fun y1 => some y1) fun y1 => some y1) = z := fun z => by cases z <;> rfl
  have e2 : ∀ z : Option Int, (Option.bind z fun y1 => some y1) = z := fun z => by cases z <;> rfl
  simp only [e2]
  refine key.trans ?_
  have hf := last_find l (· == 32)
  unfold lastB
  rw [← hf]
  cases (List.range' 0 l.length).find? (fun j => (fun b : UInt8 => b == 32) (l.getD (l.length - 1 - j) 0)) <;> rfl

theorem f382q (l : List UInt8) (i : Nat) (h : i < l.length) (hl : l.length ≤ 900) : f382F 1000 (S (l.drop i), (⟨#[67, 82]⟩ : ByteArray)) = some (l.getD i 0 == 67 && (decide (i + 1 < l.length) && l.getD (i + 1) 0 == 82)) := by
  have e2 : (⟨#[67, 82]⟩ : ByteArray) = S [67, 82] := rfl
  unfold f382F f403F
  simp only [e2, S_size, List.length_drop, List.length_cons, List.length_nil, Int.toNat_natCast, S_cut, List.drop_zero, S_eq]
  have d0 : l.drop i = l.getD i 0 :: l.drop (i + 1) := by
    rw [List.drop_eq_getElem_cons h]
    simp [List.getD_eq_getElem?_getD, h]
  by_cases c : i + 1 < l.length
  · have d1 : l.drop (i + 1) = l.getD (i + 1) 0 :: l.drop (i + 2) := by
      rw [List.drop_eq_getElem_cons c]
      simp [List.getD_eq_getElem?_getD, c]
    rw [bif_true (by simp; omega), bif_true (sliceB0 (by omega)), d0, d1, bind_some']
    simp only [Nat.zero_add, Nat.reduceAdd, List.take_succ_cons, List.take_zero, List.cons.injEq, and_true, c, decide_true, Bool.true_and]
    congr 1
    rw [Bool.eq_iff_iff]
    simp
  · rw [bif_false (by simp; omega), bind_some']
    simp [c]

/-- A word's parts, found. -/
def ptsL (l : List UInt8) : Int × (Int × (Int × Bool)) := ((bodyN l : Int), (statI l, (stopI l, astB l)))
theorem max_body {l : List UInt8} : mxI ((lastB l : Int) - 1) (stopI l) + 1 = (bodyN l : Int) := by
  unfold mxI bodyN stopI
  by_cases c : stopN l < l.length
  · simp only [if_pos c]
    split <;> omega
  · simp only [if_neg c]
    split <;> omega
theorem bodyN_le {l : List UInt8} : bodyN l ≤ l.length := by
  unfold bodyN lastB
  split <;> omega

theorem f339l0q {R : Type} (k0 : Int × Int × Int × Bool × Int × Int × Int × Bool × Unit → Option R) (l : List UInt8) (hl : l.length ≤ 900) (B : Int) :
    f339l0 1000 k0 (S l, (bodyN l : Int), 0, 0, 0, false, B, -1, stopI l, astB l, ()) = k0 (0, 0, 0, false, B, statI l, stopI l, astB l, ()) := by
  unfold f339l0
  have hb := bodyN_le (l := l)
  have key := iter_scan (R := R) (Step := fun rec v => f339l0s 1000 rec k0 v) (fun i => (S l, (i : Int), 0, 0, 0, false, B, -1, stopI l, astB l, ())) (isSt l) (fun j => k0 (0, 0, 0, false, B, (j : Int), stopI l, astB l, ())) (fin := k0 (0, 0, 0, false, B, -1, stopI l, astB l, ())) (l.length - bodyN l) (bodyN l) 1000
    (fun rec j _ hj hp => by
      unfold f339l0s
      simp only [S_size, Int.toNat_natCast, S_cut, List.take_length]
      rw [bif_true (by simp; omega), bif_true (by simp; omega), S_bt l j (by omega)]
      unfold isSt at hp
      cases h45 : (l.getD j 0 == 45) with
      | true => rw [bif_true (u8c45.trans h45)]
      | false =>
        rw [h45, Bool.false_or] at hp
        rw [bif_false (u8c45.trans h45), bif_true (sliceB (by omega) (Nat.le_refl _)), f382q l j (by omega) hl, hp, bind_some', cond_true])
    (fun rec j _ hj hp => by
      unfold f339l0s
      simp only [S_size, Int.toNat_natCast, S_cut, List.take_length]
      rw [bif_true (by simp; omega), bif_true (by simp; omega), S_bt l j (by omega)]
      unfold isSt at hp
      rw [Bool.or_eq_false_iff] at hp
      rw [bif_false (u8c45.trans hp.1), bif_true (sliceB (by omega) (Nat.le_refl _)), f382q l j (by omega) hl, hp.2, bind_some', cond_false, wi (by omega) (by omega)]
      rfl)
    (fun rec => by
      unfold f339l0s
      simp only [S_size]
      rw [bif_false (by simp; omega)]) (by omega)
  refine key.trans ?_
  unfold statI
  cases (List.range' (bodyN l) (l.length - bodyN l)).find? (isSt l) <;> rfl

theorem f339q (l : List UInt8) (ha : asc l) (hl : l.length ≤ 900) : f339F 1000 (S l) = some (ptsL l, decide (bodyN l ≠ 0)) := by
  have hb := bodyN_le (l := l)
  unfold f339F
  rw [f380s l ha hl, bind_some', f381q l hl]
  have e1 : IntKind.i64.wrap (mxI ((lastB l : Int) - 1) (stopI l) + 1) = (bodyN l : Int) := by rw [max_body, wi (by omega) (by omega)]
  have e3 : decide ((bodyN l : Int) > 0) = decide (bodyN l ≠ 0) := by rw [decide_eq_decide]; omega
  simp only [bind_some', e1, S_size]
  have hs : stopI l = if stopN l < l.length then (stopN l : Int) else -1 := rfl
  by_cases c : stopN l < l.length
  · rw [if_pos c] at hs
    have ea : (bt (S l) (stopI l) == 42) = astB l := by
      rw [hs, S_bt l _ c]
      unfold astB
      rw [decide_eq_true c, Bool.true_and]
      exact u8c42
    rw [bif_true (by simp; omega), bif_true (by simp; omega), ea, f339l0q _ l hl, e3]
    rfl
  · rw [if_neg c] at hs
    have ea : astB l = false := by
      unfold astB
      rw [decide_eq_false c, Bool.false_and]
    have := f339l0q (R := (Int × (Int × (Int × Bool))) × Bool) (fun (w6 : Int × Int × Int × Bool × Int × Int × Int × Bool × Unit) =>
      some ((w6.2.2.2.2.1, (w6.2.2.2.2.2.1, (w6.2.2.2.2.2.2.1, w6.2.2.2.2.2.2.2.1))), (decide (w6.2.2.2.2.1 > (0 : Int))))) l hl (bodyN l)
    rw [ea] at this
    rw [bif_false (by simp; omega), this, e3]
    unfold ptsL
    rw [ea]

/-! ### PartsOf -/
def badN (l : List UInt8) (j : Nat) : Bool := decide ((l.getD j 0).toNat < 32) || decide (126 < (l.getD j 0).toNat)
/-- What both come to. -/
def pfin (l : List UInt8) : (Int × (Int × (Int × Bool))) × Int × Int :=
  if l.length = 0 then ((0, (0, (0, false))), 0, 1)
  else if 40 < l.length then ((0, (0, (0, false))), 0, 2)
  else match (List.range' 0 l.length).find? (badN l) with
    | some j => ((0, (0, (0, false))), (j : Int), 8)
    | none => if bodyN l = 0 then ((0, (0, (0, false))), 0, 6) else (ptsL l, 0, 0)
theorem no_bad {l : List UInt8} (h : (List.range' 0 l.length).find? (badN l) = none) : ∀ b ∈ l, 32 ≤ b.toNat ∧ b.toNat ≤ 126 := by
  intro b hb
  obtain ⟨j, hj, rfl⟩ := List.getElem_of_mem hb
  have := List.find?_eq_none.1 h j (by simpa using hj)
  unfold badN at this
  rw [List.getD_eq_getElem?_getD, List.getElem?_eq_getElem hj] at this
  simp at this
  omega
theorem S_empty (l : List UInt8) : strEq (S l) ByteArray.empty = decide (l.length = 0) := by
  rw [S_nil, S_eq, decide_eq_decide]
  simp

theorem f316q (l : List UInt8) : f316F 1000 (S l) = some (pfin l) := by
  unfold f316F pfin
  simp only [f338q, f334q, bind_some', S_empty, S_size]
  by_cases h0 : l.length = 0
  · rw [if_pos h0]
    simp [h0]
  · rw [if_neg h0]
    simp only [h0, decide_false, Bool.false_eq_true, if_false]
    by_cases h4 : 40 < l.length
    · have : (l.length : Int) > 40 := by omega
      rw [if_pos h4]
      simp [this]
    · have : ¬ (l.length : Int) > 40 := by omega
      rw [if_neg h4]
      simp only [this, decide_false, Bool.false_eq_true, if_false, if_true, bne_self_eq_false, cond_false]
      unfold f316l0
      have key := iter_scan (R := (Int × (Int × (Int × Bool))) × Int × Int) (Step := fun rec v => f316l0s 1000 rec (fun (w4 : ByteArray × Int × Int × Int × Int × Int × Bool × Unit) =>
      some ((w4.2.2.2.1, (w4.2.2.2.2.1, (w4.2.2.2.2.2.1, w4.2.2.2.2.2.2.1))), w4.2.1, w4.2.2.1))
    (fun (w5 : ByteArray × Int × Int × Int × Bool × Unit) =>
      Option.bind (f339F 1000 w5.1) fun y6 =>
      bif (!y6.2) then
        some (((0 : Int), ((0 : Int), ((0 : Int), false))), (0 : Int), (6 : Int))
      else
      some ((y6.1.1, (y6.1.2.1, (y6.1.2.2.1, y6.1.2.2.2))), (0 : Int), (0 : Int))) v) (fun i => (S l, (l.length : Int), (i : Int), 0, 0, 0, false, ())) (badN l) (fun j => some ((0, (0, (0, false))), (j : Int), 8)) (fin := Option.bind (f339F 1000 (S l)) fun y6 =>
      bif (!y6.2) then
        some (((0 : Int), ((0 : Int), ((0 : Int), false))), (0 : Int), (6 : Int))
      else
      some ((y6.1.1, (y6.1.2.1, (y6.1.2.2.1, y6.1.2.2.2))), (0 : Int), (0 : Int))) l.length 0 1000
        (fun rec j _ hj hp => by
          unfold f316l0s
          simp only [S_size]
          rw [bif_true (by simp; omega), bif_true (by simp; omega), S_bt l j (by omega)]
          unfold badN at hp
          by_cases c : (l.getD j 0).toNat < 32
          · rw [bif_true (decide_eq_true (by omega))]
          · rw [decide_eq_false c, Bool.false_or] at hp
            have hp := of_decide_eq_true hp
            rw [bif_false (decide_eq_false (by omega)), bif_true (idx_ok (by omega)), bif_true (decide_eq_true (by omega))])
        (fun rec j _ hj hp => by
          unfold f316l0s
          simp only [S_size]
          unfold badN at hp
          simp only [Bool.or_eq_false_iff, decide_eq_false_iff_not] at hp
          rw [bif_true (decide_eq_true (by omega)), bif_true (idx_ok (by omega)), S_bt l j (by omega), bif_false (decide_eq_false (by omega)), bif_true (idx_ok (by omega)), bif_false (decide_eq_false (by omega)), wi (by omega) (by omega)]
          rfl)
        (fun rec => by
          unfold f316l0s
          rw [bif_false (by simp)]) (by omega)
      refine key.trans ?_
      cases hf : (List.range' 0 l.length).find? (badN l) with
      | some j => rfl
      | none =>
        have hn := no_bad hf
        simp only []
        rw [f339q l (fun b hb => by have := hn b hb; omega) (by omega), bind_some']
        by_cases hb : bodyN l = 0
        · simp [hb]
        · simp [hb]
end Go.Proofs.YtecbbmokocnadaaDoor
/-! Plain laws: the parts of a word, as the reference finds them. -/
set_option linter.unusedVariables false
set_option linter.unusedSimpArgs false
namespace Go.Proofs.YtecbbmokocnadaaDoor
open Go.Ab

theorem f317p2q {R : Type} (k0 : ByteArray × Int × Int × Int × Int × Bool × Int × Int × Int × Bool × Int × Int × Int × Bool × Unit → Option R) (l : List UInt8) (i : Nat) (hi : i < l.length) (hl : l.length ≤ 900) (a1 a2 a3 : Int) (a4 : Bool) (b1 b2 b3 : Int) (b4 : Bool) (st : Int) :
    f317p2 1000 k0 (S l, (i : Int), a1, a2, a3, a4, b1, b2, b3, b4, (lastB (l.take i) : Int), st, stopI (l.take i), astB (l.take i), ()) =
      k0 (S l, (i : Int), a1, a2, a3, a4, b1, b2, b3, b4, (lastB (l.take (i + 1)) : Int), st, stopI (l.take (i + 1)), astB (l.take (i + 1)), ()) := by
  have tail : ∀ (s : Int) (a : Bool), (bif ((decide ((0 : Int) ≤ (i : Int))) && (decide ((i : Int) < ((S l).size : Int)))) then
      bif ((bt (S l) (i : Int)) == (32 : Int)) then
        k0 (S l, (i : Int), a1, a2, a3, a4, b1, b2, b3, b4, IntKind.i64.wrap ((i : Int) + 1), st, s, a, ())
      else k0 (S l, (i : Int), a1, a2, a3, a4, b1, b2, b3, b4, (lastB (l.take i) : Int), st, s, a, ())
      else none) = k0 (S l, (i : Int), a1, a2, a3, a4, b1, b2, b3, b4, (lastB (l.take (i + 1)) : Int), st, s, a, ()) := by
    intro s a
    rw [S_size, bif_true (idx_ok hi), S_bt l i hi, lastB_snoc hi, u8c32]
    by_cases c : l.getD i 0 = 32
    · rw [if_pos c, c, wi (by omega) (by omega)]
      rfl
    · rw [if_neg c, bif_false (by simpa using c)]
  unfold f317p2 f317p1
  simp only [tail]
  rw [stopI_snoc hi, astB_snoc hi]
  by_cases c : stopI (l.take i) = -1
  · rw [if_pos c, if_pos c, c, bif_true (by rfl), S_size, bif_true (idx_ok hi), S_bt l i hi, u8c48, u8c42]
    unfold isStop
    by_cases c8 : l.getD i 0 = 48
    · have e8 : (l.getD i 0 == 48) = true := by rw [c8]; rfl
      rw [e8, cond_true, bif_true (idx_ok hi)]
      rfl
    · have e8 : (l.getD i 0 == 48) = false := by simpa using c8
      rw [e8, cond_false, bif_true (idx_ok hi), Bool.false_or]
      cases e2 : (l.getD i 0 == 42) with
      | true => rw [cond_true, bif_true (idx_ok hi)]; rfl
      | false =>
        rw [cond_false]
        have ha : astB (l.take i) = false := by
          unfold astB
          unfold stopI at c
          have : ¬ stopN (l.take i) < (l.take i).length := by
            intro h
            rw [if_pos h] at c
            omega
          rw [decide_eq_false this, Bool.false_and]
        rw [ha]
        rfl
  · rw [if_neg c, if_neg c, bif_false (by simpa using c)]

theorem f317l3q {R : Type} (k0 : ByteArray × Int × Int × Int × Bool × Int × Int × Int × Bool × Int × Int × Int × Bool × Unit → Option R) (l : List UInt8) (hl : l.length ≤ 900) (a1 a2 a3 : Int) (a4 : Bool) (b1 b2 b3 : Int) (b4 : Bool) :
    f317l3 1000 k0 (S l, 0, a1, a2, a3, a4, b1, b2, b3, b4, 0, -1, -1, false, ()) = k0 (S l, a1, a2, a3, a4, b1, b2, b3, b4, (lastB l : Int), -1, stopI l, astB l, ()) := by
  unfold f317l3
  have key := iter_for (R := R) (Step := fun rec v => f317l3s 1000 rec k0 v) (fun i => (S l, (i : Int), a1, a2, a3, a4, b1, b2, b3, b4, (lastB (l.take i) : Int), -1, stopI (l.take i), astB (l.take i), ())) l.length (fin := k0 (S l, a1, a2, a3, a4, b1, b2, b3, b4, (lastB l : Int), -1, stopI l, astB l, ()))
    (fun rec i hi => by
      unfold f317l3s
      simp only [S_size]
      rw [bif_true (decide_eq_true (by omega)), f317p2q _ l i hi hl]
      simp only []
      rw [wi (x := (i : Int) + 1) (by omega) (by omega)]
      rfl)
    (fun rec => by
      unfold f317l3s
      simp only [S_size]
      rw [bif_false (decide_eq_false (by omega)), List.take_length]) (k := 1000) (by omega)
  exact key

/-- The first sign at or behind a place. -/
def stFrom (l : List UInt8) (d : Nat) : Int := match (List.range' (l.length - d) d).find? (isSt l) with | some j => (j : Int) | none => -1
theorem stFrom_succ {l : List UInt8} {d : Nat} (h : d < l.length) : stFrom l (d + 1) = if isSt l (l.length - 1 - d) = true then ((l.length - 1 - d : Nat) : Int) else stFrom l d := by
  unfold stFrom
  rw [show l.length - (d + 1) = l.length - 1 - d by omega, List.range'_succ, List.find?_cons, show l.length - 1 - d + 1 = l.length - d by omega]
  cases isSt l (l.length - 1 - d) <;> rfl

theorem f317p4q {R : Type} (k0 : ByteArray × Int × Int × Int × Int × Bool × Int × Int × Int × Bool × Unit → Option R) (l : List UInt8) (i : Nat) (hi : i < l.length) (hl : l.length ≤ 900) (a1 a2 a3 : Int) (a4 : Bool) (b1 b2 b3 : Int) (b4 : Bool) :
    f317p4 1000 k0 (S l, (i : Int), a1, a2, a3, a4, b1, b2, b3, b4, ()) = k0 (S l, (i : Int), a1, a2, a3, a4, b1, (if isSt l i = true then (i : Int) else b2), b3, b4, ()) := by
  unfold f317p4 isSt
  rw [S_size, bif_true (idx_ok hi), S_bt l i hi, u8c45, bif_true (idx_ok hi), u8c67, wi (x := (i : Int) + 1) (by omega) (by omega), show (i : Int) + 1 = ((i + 1 : Nat) : Int) by omega]
  cases h45 : (l.getD i 0 == 45) with
  | true => rfl
  | false =>
    rw [cond_false, Bool.false_or]
    cases h67 : (l.getD i 0 == 67) with
    | false => rfl
    | true =>
      rw [cond_true, Bool.true_and]
      by_cases c : i + 1 < l.length
      · rw [bif_true (decide_eq_true (by omega)), bif_true (idx_ok c), S_bt l (i + 1) c, u8c82, decide_eq_true c, Bool.true_and]
        cases l.getD (i + 1) 0 == 82 <;> rfl
      · rw [bif_false (decide_eq_false (by omega)), decide_eq_false c, Bool.false_and]
        rfl

theorem f317l5q {R : Type} (k0 : Int × Int × Int × Bool × Int × Int × Int × Bool × Unit → Option R) (l : List UInt8) (hl : l.length ≤ 900) (a1 a2 a3 : Int) (a4 : Bool) (B : Nat) (hB : B ≤ l.length) (b3 : Int) (b4 : Bool) :
    f317l5 1000 k0 (S l, (l.length : Int) - 1, a1, a2, a3, a4, (B : Int), -1, b3, b4, ()) = k0 (a1, a2, a3, a4, (B : Int), stFrom l (l.length - B), b3, b4, ()) := by
  unfold f317l5
  have key := iter_for (R := R) (Step := fun rec v => f317l5s 1000 rec k0 v) (fun d => (S l, (l.length : Int) - 1 - (d : Int), a1, a2, a3, a4, (B : Int), stFrom l d, b3, b4, ())) (l.length - B) (fin := k0 (a1, a2, a3, a4, (B : Int), stFrom l (l.length - B), b3, b4, ()))
    (fun rec d hd => by
      have e : (l.length : Int) - 1 - (d : Int) = ((l.length - 1 - d : Nat) : Int) := by omega
      unfold f317l5s
      simp only [e]
      rw [bif_true (decide_eq_true (by omega)), f317p4q _ l _ (by omega) hl, stFrom_succ (by omega)]
      simp only []
      rw [wi (x := ((l.length - 1 - d : Nat) : Int) - 1) (by omega) (by omega), show ((l.length - 1 - d : Nat) : Int) - 1 = (l.length : Int) - 1 - ((d + 1 : Nat) : Int) by omega])
    (fun rec => by
      unfold f317l5s
      simp only []
      rw [bif_false (decide_eq_false (by omega))]) (k := 1000) (by omega)
  have e0 : (l.length : Int) - 1 - ((0 : Nat) : Int) = (l.length : Int) - 1 := by omega
  rw [e0] at key
  exact key
theorem stFrom_body {l : List UInt8} : stFrom l (l.length - bodyN l) = statI l := by
  have := bodyN_le (l := l)
  unfold stFrom statI
  rw [show l.length - (l.length - bodyN l) = bodyN l by omega] <;> rfl

theorem f317q (l : List UInt8) : f317F 1000 (S l) = some (pfin l) := by
  have hb := bodyN_le (l := l)
  unfold f317F pfin
  simp only [S_empty, S_size]
  by_cases h0 : l.length = 0
  · rw [if_pos h0, bif_true (decide_eq_true h0)]
  · rw [if_neg h0, bif_false (decide_eq_false h0)]
    by_cases h4 : 40 < l.length
    · rw [if_pos h4, bif_true (decide_eq_true (by omega))]
    · rw [if_neg h4, bif_false (decide_eq_false (by omega))]
      have em : mxI (lastB l : Int) (IntKind.i64.wrap (stopI l + 1)) = (bodyN l : Int) := by
        have h1 : -1 ≤ stopI l ∧ stopI l ≤ 900 := by unfold stopI; split <;> omega
        rw [wi (by omega) (by omega)]
        unfold mxI bodyN stopI
        split <;> split <;> omega
      unfold f317l0
      refine Eq.trans (iter_scan (R := (Int × (Int × (Int × Bool))) × Int × Int) (fun i => (S l, (i : Int), 0, 0, 0, false, 0, 0, 0, false, ())) (badN l) (fun j => some ((0, (0, (0, false))), (j : Int), 8)) (fin := if bodyN l = 0 then some ((0, (0, (0, false))), 0, 6) else some (ptsL l, 0, 0)) l.length 0 1000
        (fun rec j _ hj hp => by
          unfold f317l0s
          simp only [S_size]
          rw [bif_true (decide_eq_true (by omega)), bif_true (idx_ok (by omega)), S_bt l j (by omega)]
          unfold badN at hp
          by_cases c : (l.getD j 0).toNat < 32
          · rw [bif_true (decide_eq_true (by omega))]
          · rw [decide_eq_false c, Bool.false_or] at hp
            have hp := of_decide_eq_true hp
            rw [bif_false (decide_eq_false (by omega)), bif_true (idx_ok (by omega)), bif_true (decide_eq_true (by omega))])
        (fun rec j _ hj hp => by
          unfold f317l0s
          simp only [S_size]
          unfold badN at hp
          simp only [Bool.or_eq_false_iff, decide_eq_false_iff_not] at hp
          rw [bif_true (decide_eq_true (by omega)), bif_true (idx_ok (by omega)), S_bt l j (by omega), bif_false (decide_eq_false (by omega)), bif_true (idx_ok (by omega)), bif_false (decide_eq_false (by omega)), wi (by omega) (by omega)]
          rfl)
        (fun rec => by
          unfold f317l0s
          simp only [S_size]
          rw [bif_false (decide_eq_false (by omega)), f317l3q _ l (by omega)]
          simp only [em, S_size]
          by_cases c : bodyN l = 0
          · rw [if_pos c, bif_true (by simpa using c)]
          · rw [if_neg c, bif_false (by simpa using c), wi (by omega) (by omega), f317l5q _ l (by omega) _ _ _ _ _ hb, stFrom_body]
            rfl) (by omega)) ?_
      cases hf : (List.range' 0 l.length).find? (badN l) with
      | some j => rfl
      | none =>
        simp only []
        split <;> rfl

theorem editParts (x : ByteArray) : f304F 1000 x = some true := by
  obtain ⟨l, rfl⟩ : ∃ l, x = S l := ⟨_, (S_of x).symm⟩
  unfold f304F
  simp only [awake_q, f316q, f317q, bind_some', Bool.not_true, cond_false, beq_self_eq_true, Bool.and_self, cond_true]
  cases decide (((S l).size : Int) > 100) <;> rfl
end Go.Proofs.YtecbbmokocnadaaDoor
/-! Plain laws: digit positions of a word; which types and words are right. -/
set_option linter.unusedVariables false
set_option linter.unusedSimpArgs false
namespace Go.Ab

/-- A character, a blank in the place of an ampersand. -/
def amp (c : UInt8) : UInt8 := if c = 38 then 32 else c
theorem replaceK_amp : ∀ (s : List UInt8), Lib.replaceK [38] [32] (Lib.count s [38]) s = s.map amp
  | [] => rfl
  | b :: l => by
    have ih := replaceK_amp l
    by_cases hb : b = 38
    · subst hb
      rw [Lib.count_cons_eq, Nat.add_comm]
      have hi : Lib.index (38 :: l) [38] = 0 := by simp [Lib.index]
      simp only [Lib.replaceK, hi]
      rw [if_neg (by decide)]
      simp [amp, ih]
    · rw [Lib.count_cons_ne _ _ _ hb]
      have hp : ([38] : List UInt8).isPrefixOf (b :: l) = false := by simp [List.isPrefixOf, Ne.symm hb]
      have hi : Lib.index (b :: l) [38] = if Lib.index l [38] == -1 then -1 else Lib.index l [38] + 1 := by simp [Lib.index, hp]
      have he : amp b = b := by unfold amp; rw [if_neg hb]
      cases hk : Lib.count l [38] with
      | zero =>
        rw [hk] at ih
        simp only [Lib.replaceK] at ih ⊢
        rw [List.map_cons, ← ih, he]
      | succ k =>
        obtain ⟨i, hi2⟩ := Lib.index_of_count (s := l) (old := [38]) (by omega)
        rw [hk] at ih
        rw [Lib.replaceK_hit _ _ _ _ i hi2] at ih
        have hi3 : Lib.index (b :: l) [38] = ((i + 1 : Nat) : Int) := by
          rw [hi, hi2, if_neg (by simp <;> omega)]
          omega
        rw [Lib.replaceK_hit _ _ _ _ (i + 1) hi3, List.map_cons, ← ih, he]
        simp
theorem replaceAll_amp (s : List UInt8) : Lib.replaceAll s [38] [32] = s.map amp := by
  unfold Lib.replaceAll Lib.replace Lib.replaceNum
  rw [if_neg (by decide), if_pos (.inl (by decide)), replaceK_amp]

/-! ### Digit positions -/
def isPl (l : List UInt8) (sp : Int) (i : Nat) : Bool := l.getD i 0 == 32 || decide ((i : Int) = sp)
def plN (l : List UInt8) (sp : Int) : Nat → Nat
  | 0 => 0
  | i + 1 => plN l sp i + (if isPl l sp i = true then 1 else 0)
theorem plN_mono {l : List UInt8} {sp : Int} : ∀ {i j : Nat}, i ≤ j → plN l sp i ≤ plN l sp j := by
  intro i j h
  induction j with
  | zero =>
    have : i = 0 := by omega
    subst this
    exact Nat.le_refl _
  | succ j ih =>
    by_cases e : i = j + 1
    · subst e; exact Nat.le_refl _
    · have := ih (by omega)
      simp only [plN]
      omega
theorem plN_lt {l : List UInt8} {sp : Int} {i j : Nat} (h : isPl l sp i = true) (hij : i < j) : plN l sp i < plN l sp j := by
  have := plN_mono (l := l) (sp := sp) (show i + 1 ≤ j by omega)
  simp only [plN, if_pos h] at this
  omega
theorem plN_le {l : List UInt8} {sp : Int} : ∀ (i : Nat), plN l sp i ≤ i
  | 0 => Nat.le_refl _
  | i + 1 => by
    have := plN_le (l := l) (sp := sp) i
    simp only [plN]
    split <;> omega
theorem count_snoc {l : List UInt8} {i : Nat} (h : i < l.length) (c : UInt8) : (l.take (i + 1)).count c = (l.take i).count c + (if l.getD i 0 = c then 1 else 0) := by
  have e : l.take (i + 1) = l.take i ++ [l.getD i 0] := by
    rw [List.take_succ_eq_append_getElem h]
    simp [List.getD_eq_getElem?_getD, h]
  rw [e, List.count_append, List.count_singleton]
  by_cases c' : l.getD i 0 = c
  · rw [if_pos c', c']; simp
  · rw [if_neg c']
    rw [if_neg (by simpa using c')]
theorem plN_count {l : List UInt8} : ∀ (i : Nat), i ≤ l.length → plN l (stopI l) i = (l.take i).count 32 + (if 0 ≤ stopI l ∧ stopI l < (i : Int) then 1 else 0)
  | 0, _ => by
    rw [List.take_zero, List.count_nil, if_neg (by omega)]
    rfl
  | i + 1, h => by
    have ih := plN_count (l := l) i (by omega)
    rw [count_snoc (by omega), plN, ih]
    unfold isPl
    by_cases hs : (i : Int) = stopI l
    · have hc : stopN l < l.length := by
        unfold stopI at hs
        split at hs
        · assumption
        · omega
      have e : stopI l = (stopN l : Int) := by unfold stopI; rw [if_pos hc]
      have hi : i = stopN l := by omega
      have hq := stopN_is hc
      rw [← hi] at hq
      have hn : ¬ l.getD i 0 = 32 := by
        intro c
        rw [c] at hq
        exact absurd hq (by decide)
      have a1 : ¬ (0 ≤ stopI l ∧ stopI l < (i : Int)) := by omega
      have a2 : (l.getD i 0 == 32 || decide ((i : Int) = stopI l)) = true := by rw [decide_eq_true hs, Bool.or_true]
      have a3 : 0 ≤ stopI l ∧ stopI l < ((i + 1 : Nat) : Int) := by omega
      rw [if_neg hn, if_neg a1, if_pos a2, if_pos a3]
    · have e : (0 ≤ stopI l ∧ stopI l < ((i + 1 : Nat) : Int)) ↔ (0 ≤ stopI l ∧ stopI l < (i : Int)) := by omega
      simp only [e]
      have e2 : (l.getD i 0 == 32 || decide ((i : Int) = stopI l)) = true ↔ l.getD i 0 = 32 := by simp [hs]
      simp only [e2]
      omega
theorem plN_all (l : List UInt8) : plN l (stopI l) l.length = l.count 32 + (if 0 ≤ stopI l then 1 else 0) := by
  rw [plN_count _ (Nat.le_refl _), List.take_length]
  have : stopI l < (l.length : Int) := by unfold stopI; split <;> omega
  simp [this]
end Go.Ab
namespace Go.Proofs.YtecbbmokocnadaaDoor
open Go.Ab

theorem f383q (l : List UInt8) (hl : l.length ≤ 900) (b s : Int) (a : Bool) : f383F 1000 (S l, (b, (s, (stopI l, a)))) = some (plN l (stopI l) l.length : Int) := by
  have h := plN_all l
  have hle := plN_le (l := l) (sp := stopI l) l.length
  have e : f404F 1000 (S l, (⟨#[32]⟩ : ByteArray)) = some ((l.count 32 : Nat) : Int) := by
    unfold f404F
    simp only [S_list]
    rfl
  unfold f383F f383p0
  rw [e, bind_some']
  by_cases c : 0 ≤ stopI l
  · rw [if_pos c] at h
    rw [bif_true (decide_eq_true c), wi (by omega) (by omega)]
    have h2 : ((l.count 32 : Nat) : Int) + 1 = (plN l (stopI l) l.length : Int) := by omega
    exact congrArg some h2
  · rw [if_neg c] at h
    rw [bif_false (decide_eq_false c)]
    have h2 : ((l.count 32 : Nat) : Int) = (plN l (stopI l) l.length : Int) := by omega
    exact congrArg some h2

/-- The digit positions themselves. -/
def plL (l : List UInt8) (sp : Int) : Nat → List Int
  | 0 => []
  | i + 1 => plL l sp i ++ (if isPl l sp i = true then [(i : Int)] else [])
theorem plL_length {l : List UInt8} {sp : Int} : ∀ (i : Nat), (plL l sp i).length = plN l sp i
  | 0 => rfl
  | i + 1 => by
    simp only [plL, plN, List.length_append, plL_length i]
    split <;> rfl
theorem f361q (l : List UInt8) (hl : l.length ≤ 900) (b s sp : Int) (a : Bool) : f361F 1000 (S l, (b, (s, (sp, a)))) = some (plL l sp l.length) := by
  unfold f361F f361l1
  exact iter_for (R := List Int) (fun i => (S l, (i : Int), b, s, sp, a, plL l sp i, ())) l.length
    (fun rec i hi => by
      have hle := plN_le (l := l) (sp := sp) i
      have hlen := plL_length (l := l) (sp := sp) i
      unfold f361l1s f361p0
      simp only [S_size]
      rw [bif_true (decide_eq_true (by omega)), bif_true (idx_ok hi), S_bt l i hi, u8c32, ieq]
      simp only [hlen, List.length_cons, List.length_nil]
      have hb : (decide ((plN l sp i + (0 + 1)) * 8 ≤ 140737488355328) && decide (plN l sp i + (0 + 1) ≤ 9223372036854775807)) = true := by simp; omega
      rw [bif_true hb, wi (by omega) (by omega)]
      simp only [plL, isPl]
      by_cases c1 : l.getD i 0 = 32
      · have h1 : (l.getD i 0 == 32) = true := by rw [c1]; rfl
        simp only [h1, Bool.true_or, if_true, cond_true]
        rfl
      · have h1 : (l.getD i 0 == 32) = false := by simpa using c1
        simp only [h1, cond_false, Bool.false_or]
        by_cases h2 : (i : Int) = sp
        · rw [bif_true (decide_eq_true h2), if_pos (decide_eq_true h2)]
          rfl
        · rw [bif_false (decide_eq_false h2), if_neg (by simpa using h2), List.append_nil]
          rfl)
    (fun rec => by
      unfold f361l1s
      simp only [S_size]
      rw [bif_false (decide_eq_false (by omega))]) (by omega)

/-- The error of a type and a word. -/
def wErr (kd ln sc : Int) (l : List UInt8) : Int :=
  if tyErr kd ln sc ≠ 0 then tyErr kd ln sc
  else if ¬ (1 ≤ kd ∧ kd ≤ 3) then 17
  else if (pfin l).2.2 ≠ 0 then (pfin l).2.2
  else if (plN l (stopI l) l.length : Int) ≠ ln then 18 else 0
theorem pfin_ok {l : List UInt8} (h : (pfin l).2.2 = 0) : pfin l = (ptsL l, 0, 0) ∧ 0 < l.length ∧ l.length ≤ 40 ∧ bodyN l ≠ 0 ∧ ∀ b ∈ l, 32 ≤ b.toNat ∧ b.toNat ≤ 126 := by
  unfold pfin at *
  split at h
  · exact absurd h (by decide)
  · rename_i h0
    rw [if_neg h0]
    split at h
    · exact absurd h (by decide)
    · rename_i h4
      rw [if_neg h4]
      cases hf : (List.range' 0 l.length).find? (badN l) with
      | some j => rw [hf] at h; exact absurd h (by simp)
      | none =>
        rw [hf] at h
        simp only [] at h ⊢
        split at h
        · exact absurd h (by decide)
        · rename_i hb
          rw [if_neg hb]
          exact ⟨rfl, by omega, by omega, hb, no_bad hf⟩

theorem f340q (kd ln sc : Int) (l : List UInt8) : f340F 1000 ((kd, (ln, sc)), S l) = some (if wErr kd ln sc l = 0 ∨ wErr kd ln sc l = 18 ∧ tyErr kd ln sc = 0 ∧ (1 ≤ kd ∧ kd ≤ 3) ∧ (pfin l).2.2 = 0 then (ptsL l, wErr kd ln sc l) else ((0, (0, (0, false))), wErr kd ln sc l)) := by
  unfold f340F
  simp only [f365q, f316q, bind_some']
  have hb : (if tyErr kd ln sc ≠ 0 then tyErr kd ln sc else if ¬ (1 ≤ kd ∧ kd ≤ 3) then (17 : Int) else 0) ≠ 0 ↔ ¬ (tyErr kd ln sc = 0 ∧ (1 ≤ kd ∧ kd ≤ 3)) := by
    by_cases h1 : tyErr kd ln sc = 0
    · by_cases h2 : 1 ≤ kd ∧ kd ≤ 3 <;> simp [h1, h2]
    · simp [h1]
  by_cases hc : tyErr kd ln sc = 0 ∧ (1 ≤ kd ∧ kd ≤ 3)
  · have hz : (if tyErr kd ln sc ≠ 0 then tyErr kd ln sc else if ¬ (1 ≤ kd ∧ kd ≤ 3) then (17 : Int) else 0) = 0 := by
      apply Decidable.byContradiction
      intro c
      exact hb.1 c hc
    have hw : wErr kd ln sc l = if (pfin l).2.2 ≠ 0 then (pfin l).2.2 else if (plN l (stopI l) l.length : Int) ≠ ln then 18 else 0 := by
      unfold wErr
      rw [if_neg (fun c => c hc.1), if_neg (fun c => c hc.2)]
    rw [hz, bif_false (by rfl)]
    by_cases hp : (pfin l).2.2 = 0
    · obtain ⟨e, e0, e4, eb, ec⟩ := pfin_ok hp
      rw [if_neg (fun c => c hp)] at hw
      rw [bif_false (by rw [hp]; rfl)]
      simp only [e, ptsL, f383q l (by omega), bind_some', f338q, hw, hc.1, hc.2, ine, true_and, and_true]
      by_cases hn : (plN l (stopI l) l.length : Int) = ln
      · simp [hn]
      · simp [hn]
    · rw [if_pos (fun c => hp c)] at hw
      rw [bif_true (by simpa using hp), hw, if_neg (by
        rintro (c | ⟨_, _, _, c⟩)
        · exact hp c
        · exact hp c)]
  · have hz := hb.2 hc
    have hw : wErr kd ln sc l = (if tyErr kd ln sc ≠ 0 then tyErr kd ln sc else if ¬ (1 ≤ kd ∧ kd ≤ 3) then (17 : Int) else 0) := by
      unfold wErr
      by_cases h1 : tyErr kd ln sc = 0
      · have h2 : ¬ (1 ≤ kd ∧ kd ≤ 3) := fun c => hc ⟨h1, c⟩
        simp only [if_neg (show ¬ (tyErr kd ln sc ≠ 0) from fun c => c h1), if_pos h2]
      · simp only [if_pos (show tyErr kd ln sc ≠ 0 from h1)]
    have hcond : ¬ (wErr kd ln sc l = 0 ∨ wErr kd ln sc l = 18 ∧ tyErr kd ln sc = 0 ∧ (1 ≤ kd ∧ kd ≤ 3) ∧ (pfin l).2.2 = 0) := by
      rw [hw]
      rintro (c | ⟨_, c1, c2, _⟩)
      · exact hz c
      · exact hc ⟨c1, c2⟩
    rw [if_neg hcond, hw, bif_true (by simpa using hz)]

theorem f342q (kd ln sc : Int) (l : List UInt8) : f342F 1000 ((kd, (ln, sc)), S l) = some (wErr kd ln sc l) := by
  unfold f342F wErr
  simp only [f27q, f68q, f317q, f69q, bind_some']
  by_cases h1 : tyErr kd ln sc = 0
  · rw [bif_false (by simpa using h1), if_neg (fun c => c h1)]
    by_cases h2 : 1 ≤ kd ∧ kd ≤ 3
    · rw [decide_eq_true h2, if_neg (fun c => c h2)]
      simp only [Bool.not_true, cond_false]
      by_cases hp : (pfin l).2.2 = 0
      · obtain ⟨e, e0, e4, eb, ec⟩ := pfin_ok hp
        rw [if_neg (fun c => c hp), bif_false (by rw [hp]; rfl)]
        simp only [e, ptsL, f361q l (by omega), bind_some', plL_length, ine]
        by_cases hn : (plN l (stopI l) l.length : Int) = ln
        · simp [hn]
          rfl
        · simp [hn]
          rfl
      · rw [if_pos (fun c => hp c), bif_true (by simpa using hp)]
    · rw [decide_eq_false h2, if_pos h2]
      rfl
  · rw [bif_true (by simpa using h1), if_pos h1]
end Go.Proofs.YtecbbmokocnadaaDoor
/-! Plain laws: the text by a word, as the program prints it. -/
set_option linter.unusedVariables false
set_option linter.unusedSimpArgs false
namespace Go.Proofs.YtecbbmokocnadaaDoor
open Go.Ab

/-- What stands in the place of something suppressed. -/
def fl (a : Bool) : UInt8 := if a = true then 42 else 32
/-- A character of the body printed: the digits left, has suppression ended, and what is written. -/
def prS (a : Bool) (sp : Int) (l : List UInt8) (i : Nat) (D : List UInt8) (en : Bool) : List UInt8 × Bool × UInt8 :=
  if isPl l sp i = true then (D.drop 1, (en || D.getD 0 0 != 48) || decide ((i : Int) = sp), if (en || D.getD 0 0 != 48) = true then D.getD 0 0 else fl a)
  else (D, en, if l.getD i 0 = 38 then 32 else if en = true then l.getD i 0 else fl a)

theorem cons_getD {D : List UInt8} (h : D ≠ []) : bt (S D) 0 = ((D.getD 0 0).toNat : Int) := by
  have h0 : 0 < D.length := List.length_pos_iff.2 h
  exact S_bt D 0 h0

theorem f384q (l : List UInt8) (i : Nat) (B St sp : Int) (a : Bool) (D : List UInt8) (en : Bool) (W : List UInt8) (hD : isPl l sp i = true → D ≠ []) (hDl : D.length ≤ 900) (hW : W.length ≤ 900) :
    f384v1F 1000 (((l.getD i 0).toNat : Int), (i : Int), B, St, sp, a, S D, en, ints W, ()) =
      some (B, St, sp, a, S (prS a sp l i D en).1, (prS a sp l i D en).2.1, ints (W ++ [(prS a sp l i D en).2.2]), ()) := by
  have hb : ∀ z : Int, (decide (((ints W).length + [z].length) * 1 ≤ 140737488355328) && decide ((ints W).length + [z].length ≤ 9223372036854775807)) = true := by
    intro z
    have : (ints W).length = W.length := by simp [ints]
    simp [this]
    omega
  have e1 : ∀ z : UInt8, ints W ++ [(z.toNat : Int)] = ints (W ++ [z]) := by intro z; rw [ints_app]; rfl
  have e42 : ints W ++ [(42 : Int)] = ints (W ++ [42]) := e1 42
  have e32 : ints W ++ [(32 : Int)] = ints (W ++ [32]) := e1 32
  have efl : ∀ b : Bool, (f405v1F 1000 (B, St, sp, a, S D, b, ints W, ()) = some (((fl a).toNat : Int), B, St, sp, a, S D, b, ints W, ())) := by
    intro b
    unfold f405v1F fl
    cases a <;> rfl
  have efl' : ∀ (b : Bool) (D' : List UInt8), (f405v1F 1000 (B, St, sp, a, S D', b, ints W, ()) = some (((fl a).toNat : Int), B, St, sp, a, S D', b, ints W, ())) := by
    intro b D'
    unfold f405v1F fl
    cases a <;> rfl
  unfold f384v1F f384v1p0 f384v1p1 prS
  by_cases hp : isPl l sp i = true
  · have hne := hD hp
    have hpos : 0 < D.length := List.length_pos_iff.2 hne
    have hsl : sliceBds (1 : Int) (D.length : Int) (D.length : Int) = true := sliceB (a := 1) (by omega) (Nat.le_refl _)
    have hd : (decide ((0 : Int) < (D.length : Int))) = true := decide_eq_true (by omega)
    have ex : (S D).extract 1 D.length = S (D.drop 1) := by rw [S_cut, List.take_length]
    have hne48 : (((D.getD 0 0).toNat : Int) != 48) = (D.getD 0 0 != 48) := by
      have := u8c48 (b := D.getD 0 0)
      simp only [bne, this]
    have hie : ((i : Int) == sp) = decide ((i : Int) = sp) := ieq _ _
    simp only [if_pos hp, S_size, hd, hsl, Int.toNat_natCast, ex, cons_getD hne, hne48, cond_true, Bool.not_true, cond_false, efl', hb, bind_some', e1, u8c32, hie]
    have hor : (bif l.getD i 0 == 32 then true else decide ((i : Int) = sp)) = true := by
      unfold isPl at hp
      cases h : l.getD i 0 == 32 with
      | true => rfl
      | false => rw [h, Bool.false_or] at hp; simpa using hp
    cases h : l.getD i 0 == 32 with
    | true =>
      cases en with
      | true => rfl
      | false =>
        simp only [cond_true, cond_false, Bool.false_or]
        cases D.getD 0 0 != 48 <;> rfl
    | false =>
      rw [h] at hor
      have hor : decide ((i : Int) = sp) = true := hor
      rw [hor]
      cases en with
      | true => rfl
      | false =>
        simp only [cond_true, cond_false, Bool.false_or]
        cases D.getD 0 0 != 48 <;> rfl
  · have hp2 : isPl l sp i = false := by simpa using hp
    unfold isPl at hp2
    rw [Bool.or_eq_false_iff] at hp2
    have hie : ((i : Int) == sp) = false := (ieq _ _).trans hp2.2
    simp only [if_neg hp, u8c32, hp2.1, hie, cond_false, Bool.not_false, cond_true, u8c38, efl, hb, bind_some', e1, e32]
    by_cases c : l.getD i 0 = 38
    · have c2 : (l.getD i 0 == 38) = true := by rw [c]; rfl
      simp only [c2, if_pos c, cond_true, e32]
      cases en <;> rfl
    · have c2 : (l.getD i 0 == 38) = false := by simpa using c
      simp only [c2, if_neg c, cond_false]
      cases en <;> rfl

theorem f384q0 (l : List UInt8) (i : Nat) (B St sp : Int) (a : Bool) (D : List UInt8) (en : Bool) (hD : isPl l sp i = true → D ≠ []) (hDl : D.length ≤ 900) :
    f384v0F 1000 (((l.getD i 0).toNat : Int), (i : Int), B, St, sp, a, S D, en, ()) =
      some (B, St, sp, a, S (prS a sp l i D en).1, (prS a sp l i D en).2.1, ints ([] ++ [(prS a sp l i D en).2.2]), ()) := by
  have h := f384q l i B St sp a D en [] hD hDl (by simp)
  have e : ∀ (x : Int × Int × Int × Int × Int × Bool × ByteArray × Bool × Unit), f384v0F 1000 x = f384v1F 1000 (x.1, x.2.1, x.2.2.1, x.2.2.2.1, x.2.2.2.2.1, x.2.2.2.2.2.1, x.2.2.2.2.2.2.1, x.2.2.2.2.2.2.2.1, [], ()) := by
    rintro ⟨c, i, B, St, sp, a, D, en, u⟩
    unfold f384v0F f384v1F f384v0p0 f384v0p1 f384v1p0 f384v1p1 f405v0F f405v1F
    cases a <;> rfl
  rw [e]
  exact h

/-- The printer behind some characters: the digits left, has suppression ended, what is written. -/
def stP (a : Bool) (sp : Int) (l D : List UInt8) : Nat → List UInt8 × Bool × List UInt8
  | 0 => (D, false, [])
  | i + 1 => ((prS a sp l i (stP a sp l D i).1 (stP a sp l D i).2.1).1, (prS a sp l i (stP a sp l D i).1 (stP a sp l D i).2.1).2.1, (stP a sp l D i).2.2 ++ [(prS a sp l i (stP a sp l D i).1 (stP a sp l D i).2.1).2.2])
theorem stP_drop {a : Bool} {sp : Int} {l D : List UInt8} : ∀ (i : Nat), (stP a sp l D i).1 = D.drop (plN l sp i)
  | 0 => rfl
  | i + 1 => by
    simp only [stP, prS, stP_drop i, plN]
    by_cases h : isPl l sp i = true
    · rw [if_pos h, if_pos h, List.drop_drop]
    · rw [if_neg h, if_neg h]
      rfl
theorem stP_len {a : Bool} {sp : Int} {l D : List UInt8} : ∀ (i : Nat), (stP a sp l D i).2.2.length = i
  | 0 => rfl
  | i + 1 => by simp [stP, stP_len i]
theorem stP_ne {a : Bool} {sp : Int} {l D : List UInt8} {i B : Nat} (hB : plN l sp B ≤ D.length) (hi : i < B) (h : isPl l sp i = true) : (stP a sp l D i).1 ≠ [] := by
  rw [stP_drop]
  have := plN_lt (l := l) (sp := sp) h hi
  intro c
  have := congrArg List.length c
  simp at this
  omega

/-- The loop, behind its first round. -/
theorem f341l0q {R : Type} (k0 : ByteArray × Int × ByteArray × Int × Int × Int × Bool × Int × Int × Int × Bool × ByteArray × Bool × List Int × Unit → Option R) (l D : List UInt8) (hl : l.length ≤ 900) (hD : D.length ≤ 900) (B : Nat) (hB : B ≤ l.length) (sp : Int) (hp : plN l sp B ≤ D.length) (a : Bool) (n : Int) (vs : ByteArray) (b0 b1 b2 : Int) (b3 : Bool) (c0 c1 : Int) (i : Nat) (hi : i ≤ B) :
    f341l0 1000 k0 (S l, (B : Int), (i : Int), n, vs, b0, b1, b2, b3, c0, c1, sp, a, S (stP a sp l D i).1, (stP a sp l D i).2.1, ints (stP a sp l D i).2.2, ()) =
      k0 (S l, n, vs, b0, b1, b2, b3, c0, c1, sp, a, S (stP a sp l D B).1, (stP a sp l D B).2.1, ints (stP a sp l D B).2.2, ()) := by
  unfold f341l0
  have key := iter_for (R := R) (Step := fun rec v => f341l0s 1000 rec k0 v) (fun j => (S l, (B : Int), ((i + j : Nat) : Int), n, vs, b0, b1, b2, b3, c0, c1, sp, a, S (stP a sp l D (i + j)).1, (stP a sp l D (i + j)).2.1, ints (stP a sp l D (i + j)).2.2, ())) (B - i) (fin := k0 (S l, n, vs, b0, b1, b2, b3, c0, c1, sp, a, S (stP a sp l D B).1, (stP a sp l D B).2.1, ints (stP a sp l D B).2.2, ()))
    (fun rec j hj => by
      have hlen := stP_len (a := a) (sp := sp) (l := l) (D := D) (i + j)
      have hdl : (stP a sp l D (i + j)).1.length ≤ 900 := by rw [stP_drop]; simp; omega
      unfold f341l0s
      simp only [S_size]
      rw [bif_true (decide_eq_true (by omega)), bif_true (idx_ok (by omega)), S_bt l (i + j) (by omega), f384q l (i + j) _ _ _ _ _ _ _ (fun h => stP_ne hp (by omega) h) hdl (by omega), bind_some', wi (x := ((i + j : Nat) : Int) + 1) (by omega) (by omega)]
      rfl)
    (fun rec => by
      have e : i + (B - i) = B := by omega
      unfold f341l0s
      simp only [e]
      rw [bif_false (decide_eq_false (by omega))]) (k := 1000) (by omega)
  exact key

theorem f341l1q {R : Type} (k0 : ByteArray × Int × ByteArray × Int × Int × Int × Bool × Int × Int × Int × Bool × ByteArray × Bool × List Int × Unit → Option R) (k1 : ByteArray × Int × ByteArray × Int × Int × Int × Bool × Int × Int × Int × Bool × ByteArray × Bool × Unit → Option R) (l D : List UInt8) (hl : l.length ≤ 900) (hD : D.length ≤ 900) (B : Nat) (hB : B ≤ l.length) (h0 : B ≠ 0) (sp : Int) (hp : plN l sp B ≤ D.length) (a : Bool) (n : Int) (vs : ByteArray) (b0 b1 b2 : Int) (b3 : Bool) (c0 c1 : Int) :
    f341l1 1000 k0 k1 (S l, (B : Int), 0, n, vs, b0, b1, b2, b3, c0, c1, sp, a, S D, false, ()) =
      k0 (S l, n, vs, b0, b1, b2, b3, c0, c1, sp, a, S (stP a sp l D B).1, (stP a sp l D B).2.1, ints (stP a sp l D B).2.2, ()) := by
  have e0 : ∀ (Step : (ByteArray × Int × Int × Int × ByteArray × Int × Int × Int × Bool × Int × Int × Int × Bool × ByteArray × Bool × Unit → Option R) → ByteArray × Int × Int × Int × ByteArray × Int × Int × Int × Bool × Int × Int × Int × Bool × ByteArray × Bool × Unit → Option R) v, iterS Step 1000 v = Step (iterS Step 999) v := fun _ _ => rfl
  unfold f341l1
  rw [e0]
  have hs : S D = S (stP a sp l D 0).1 := rfl
  have key := f341l0q k0 l D hl hD B hB sp hp a n vs b0 b1 b2 b3 c0 c1 1 (by omega)
  have z : ((0 : Nat) : Int) = 0 := rfl
  have hq := f384q0 l 0 c0 c1 sp a D false (fun h => by
    have := stP_ne (a := a) hp (show 0 < B by omega) h
    exact this) hD
  have hq : f384v0F 1000 (((l.getD 0 0).toNat : Int), 0, c0, c1, sp, a, S D, false, ()) = some (c0, c1, sp, a, S (prS a sp l 0 D false).1, (prS a sp l 0 D false).2.1, ints ([] ++ [(prS a sp l 0 D false).2.2]), ()) := hq
  have hbt : bt (S l) 0 = ((l.getD 0 0).toNat : Int) := S_bt l 0 (by omega)
  unfold f341l1s
  simp only [S_size]
  rw [bif_true (decide_eq_true (by omega)), bif_true (by simp; omega), hbt, hq, bind_some']
  exact key
end Go.Proofs.YtecbbmokocnadaaDoor
/-! Plain laws: the text by a word: the program's end, and the reference's text. -/
set_option linter.unusedVariables false
set_option linter.unusedSimpArgs false
namespace Go.Proofs.YtecbbmokocnadaaDoor
open Go.Ab

/-! ### What stands behind the body -/
/-- As the program makes it. -/
def tlP (l : List UInt8) (n : Int) : List UInt8 :=
  if 0 ≤ statI l ∧ 0 ≤ n then
    (if ((l.drop (bodyN l)).map amp).getD ((statI l).toNat - bodyN l) 0 = 67 then ((l.drop (bodyN l)).map amp).set ((statI l).toNat - bodyN l + 1) 32 else (l.drop (bodyN l)).map amp).set ((statI l).toNat - bodyN l) 32
  else (l.drop (bodyN l)).map amp
theorem stat_some {l : List UInt8} (h : 0 ≤ statI l) : ∃ j : Nat, statI l = j ∧ bodyN l ≤ j ∧ j < l.length ∧ isSt l j = true := by
  have hb := bodyN_le (l := l)
  unfold statI at *
  cases hf : (List.range' (bodyN l) (l.length - bodyN l)).find? (isSt l) with
  | none => rw [hf] at h; exact absurd h (by decide)
  | some j =>
    have hm := List.mem_of_find?_eq_some hf
    have hp := List.find?_some hf
    simp at hm
    exact ⟨j, rfl, by omega, by omega, hp⟩
theorem stat_none {l : List UInt8} (h : ¬ 0 ≤ statI l) : statI l = -1 := by
  unfold statI at *
  split at h
  · exact absurd (Int.natCast_nonneg _) h
  · rfl
theorem stat_cr {l : List UInt8} {j : Nat} (h : isSt l j = true) (h67 : l.getD j 0 = 67) : j + 1 < l.length := by
  unfold isSt at h
  rw [h67] at h
  simp at h
  exact h.1
theorem ints_getD (r : List UInt8) (i : Nat) : (ints r).getD i 0 = ((r.getD i 0).toNat : Int) := by
  unfold ints
  by_cases h : i < r.length
  · simp [List.getD_eq_getElem?_getD, h]
  · simp [List.getD_eq_getElem?_getD, h]
theorem ints_set (r : List UInt8) (i : Nat) (b : UInt8) : (ints r).set i (b.toNat : Int) = ints (r.set i b) := by
  unfold ints
  rw [List.map_set]
theorem ints_set32 (r : List UInt8) (i : Nat) : (ints r).set i 32 = ints (r.set i 32) := ints_set r i 32
theorem ints_len (r : List UInt8) : (ints r).length = r.length := by simp [ints]
theorem amp_getD {l : List UInt8} {i : Nat} (h : i < l.length) : (l.map amp).getD i 0 = amp (l.getD i 0) := by
  simp [List.getD_eq_getElem?_getD, h]
theorem drop_getD {l : List UInt8} (b i : Nat) : (l.drop b).getD i 0 = l.getD (b + i) 0 := by
  simp [List.getD_eq_getElem?_getD]
theorem tlP_len (l : List UInt8) (n : Int) : (tlP l n).length = l.length - bodyN l := by
  unfold tlP
  split
  · split <;> simp
  · simp
theorem f385q (s : List UInt8) (hs : s.length ≤ 900) : f385F 1000 (S s, (⟨#[38]⟩ : ByteArray), (⟨#[32]⟩ : ByteArray)) = some (S (s.map amp)) := by
  have e38 : (⟨#[38]⟩ : ByteArray).data.toList = [38] := rfl
  have e32 : (⟨#[32]⟩ : ByteArray).data.toList = [32] := rfl
  have s38 : (⟨#[38]⟩ : ByteArray).size = 1 := rfl
  have s32 : (⟨#[32]⟩ : ByteArray).size = 1 := rfl
  have hc : Lib.countB (S s) ⟨#[38]⟩ ≤ (S s).size := Lib.countB_le _ (by decide) _ _ (Nat.le_refl _)
  rw [S_size] at hc
  unfold f385F
  simp only [S_size, s38, s32, S_list, e38, e32, replaceAll_amp, Nat.mul_one]
  have e1 : (decide (s.length < 4294967281) && (decide (1 ≤ 1) && decide (s.length + Lib.countB (S s) ⟨#[38]⟩ ≤ 140737488355328))) = true := by
    rw [decide_eq_true (by omega), decide_eq_true (by omega), decide_eq_true (by omega)]
    rfl
  rw [e1, cond_true]
  rfl

theorem str_ints (l : List UInt8) : strOfNums (ints l) = S l := S_back l
theorem bytes_ints (l : List UInt8) : bytesOf (S l) = ints l := S_bytes l

/-- What the program does with the characters behind the body. -/
theorem f341tq {R : Type} (k0 : Int × Int × Int × Bool × ByteArray × Bool × List Int × List Int × Unit → Option R) (k1 : Int × ByteArray × Int × Int × Int × Bool × Int × Int × Int × Bool × ByteArray × Bool × List Int × List Int × Unit → Option R)
    (l : List UInt8) (hl : l.length ≤ 900) (n : Int) (vs : ByteArray) (b2 : Int) (b3 : Bool) (c0 c1 sp : Int) (a : Bool) (D : ByteArray) (en : Bool) (W : List Int) (r : R)
    (h0 : k0 (c0, c1, sp, a, D, en, ints (tlP l n), W, ()) = some r) (h1 : k1 (n, vs, (bodyN l : Int), statI l, b2, b3, c0, c1, sp, a, D, en, ints (tlP l n), W, ()) = some r) :
    f341p4 1000 k0 k1 (n, vs, (bodyN l : Int), statI l, b2, b3, c0, c1, sp, a, D, en, ints ((l.drop (bodyN l)).map amp), W, ()) = some r := by
  have hb := bodyN_le (l := l)
  unfold f341p4 f341p3
  by_cases hs : 0 ≤ statI l
  · rw [bif_true (decide_eq_true hs)]
    by_cases hn : 0 ≤ n
    · rw [bif_true (decide_eq_true hn)]
      obtain ⟨j, hj, j1, j2, j3⟩ := stat_some hs
      have ew : IntKind.i64.wrap ((j : Int) - (bodyN l : Int)) = ((j - bodyN l : Nat) : Int) := by
        rw [wi (by omega) (by omega)]
        omega
      have hlen : (ints ((l.drop (bodyN l)).map amp)).length = l.length - bodyN l := by simp [ints]
      have ht : tlP l n = (if ((l.drop (bodyN l)).map amp).getD (j - bodyN l) 0 = 67 then ((l.drop (bodyN l)).map amp).set (j - bodyN l + 1) 32 else (l.drop (bodyN l)).map amp).set (j - bodyN l) 32 := by
        unfold tlP
        rw [if_pos ⟨hs, hn⟩, hj]
        rfl
      have hg : ((l.drop (bodyN l)).map amp).getD (j - bodyN l) 0 = amp (l.getD j 0) := by
        rw [amp_getD (by simp; omega), drop_getD, show bodyN l + (j - bodyN l) = j by omega]
      rw [ht] at h0
      simp only [hj, ew, hlen, Int.toNat_natCast, ints_getD, u8c67]
      rw [bif_true (idx_ok (by omega))]
      by_cases c : ((l.drop (bodyN l)).map amp).getD (j - bodyN l) 0 = 67
      · have h67 : l.getD j 0 = 67 := by
          rw [hg] at c
          unfold amp at c
          split at c
          · exact absurd c (by decide)
          · exact c
        have hcr := stat_cr j3 h67
        rw [if_pos c] at h0
        rw [bif_true (by rw [c]; rfl), wi (x := ((j - bodyN l : Nat) : Int) + 1) (by omega) (by omega), show ((j - bodyN l : Nat) : Int) + 1 = ((j - bodyN l + 1 : Nat) : Int) by omega, bif_true (idx_ok (by omega))]
        simp only [Int.toNat_natCast, List.length_set, hlen, ints_set32]
        rw [bif_true (idx_ok (by rw [ints_len]; simp; omega))]
        exact h0
      · rw [if_neg c] at h0
        rw [bif_false (by simpa using c), bif_true (idx_ok (by omega)), ints_set32]
        exact h0
    · have ht : tlP l n = (l.drop (bodyN l)).map amp := by
        unfold tlP
        rw [if_neg (fun c => hn c.2)]
      rw [ht] at h1
      rw [bif_false (decide_eq_false hn)]
      exact h1
  · have ht : tlP l n = (l.drop (bodyN l)).map amp := by
      unfold tlP
      rw [if_neg (fun c => hs c.1)]
    rw [ht] at h1
    rw [bif_false (decide_eq_false hs)]
    exact h1

/-- The text by a word. -/
def wordL (l : List UInt8) (n : Int) (L : Nat) : List UInt8 := (stP (astB l) (stopI l) l (dgL (amt n) L) (bodyN l)).2.2 ++ tlP l n
theorem f341q {kd sc n : Int} {s : ByteArray} {L : Nat} (l : List UInt8) (hl : l.length ≤ 100) (h0 : -1000000000000000 ≤ n) (h1 : n ≤ 1000000000000000) (hL : L ≤ 15) (hb0 : bodyN l ≠ 0) (hp : plN l (stopI l) l.length = L) :
    f341F 1000 ((kd, ((L : Int), sc)), (n, s), S l, ptsL l) = some (S (wordL l n L)) := by
  have hb := bodyN_le (l := l)
  have hD : (dgL (amt n) L).length = L := dgL_length _ _
  have hpb : plN l (stopI l) (bodyN l) ≤ (dgL (amt n) L).length := by
    have := plN_mono (l := l) (sp := stopI l) hb
    omega
  have hsl : sliceBds (bodyN l : Int) (l.length : Int) (l.length : Int) = true := sliceB hb (Nat.le_refl _)
  unfold f341F f341p2
  simp only [ptsL, f367q h0 h1 (show L ≤ 900 by omega), bind_some']
  rw [f341l1q _ _ l _ (by omega) (by omega) _ hb hb0 _ hpb]
  simp only [S_size, hsl, cond_true, Int.toNat_natCast, S_cut, List.take_length]
  rw [f385q _ (by simp; omega), bind_some', bif_true (decide_eq_true (by rw [S_size]; simp; omega)), bytes_ints]
  have hlen := stP_len (a := astB l) (sp := stopI l) (l := l) (D := dgL (amt n) L) (bodyN l)
  have htl := tlP_len l n
  refine f341tq _ _ l (by omega) n s _ _ _ _ _ _ _ _ _ _ ?_ ?_
  · simp only [ints_len, hlen, htl]
    rw [bif_true (by simp; omega), ← ints_app, str_ints]
    rfl
  · simp only [ints_len, hlen, htl]
    rw [bif_true (by simp; omega), ← ints_app, str_ints]
    rfl
end Go.Proofs.YtecbbmokocnadaaDoor
/-! Plain laws: the text by a word is as the reference says. -/
set_option linter.unusedVariables false
set_option linter.unusedSimpArgs false
namespace Go.Proofs.YtecbbmokocnadaaDoor
open Go.Ab

theorem f343p2q {R : Type} (k0 : Int × ByteArray × ByteArray × Int × Bool × Int × Int × Int × Int × Int × Int × Bool × List Int × Unit → Option R) (n : Int) (l D : List UInt8) (a en : Bool) (k i : Nat) (B St sp : Int) (b : Bool) (W : List Int) (hk : isPl l sp i = true → k < D.length) (hD : D.length ≤ 900) :
    f343p2 1000 k0 (n, S l, S D, ((fl a).toNat : Int), !en, (k : Int), (i : Int), ((l.getD i 0).toNat : Int), B, St, sp, b, W, ()) =
      k0 (n, S l, S D, ((fl a).toNat : Int), !(prS a sp l i (D.drop k) en).2.1, ((k + (if isPl l sp i = true then 1 else 0) : Nat) : Int), (i : Int), (((prS a sp l i (D.drop k) en).2.2).toNat : Int), B, St, sp, b, W, ()) := by
  have hg : (D.drop k).getD 0 0 = D.getD k 0 := by rw [drop_getD, Nat.add_zero]
  have hie : ((i : Int) == sp) = decide ((i : Int) = sp) := ieq _ _
  have hin : ((i : Int) != sp) = !decide ((i : Int) = sp) := by rw [bne, hie]
  unfold f343p2 f343p1 prS
  simp only [hg, S_size, u8c32, u8c38, hie, hin]
  by_cases hp : isPl l sp i = true
  · have hk := hk hp
    simp only [if_pos hp, S_bt D k hk, idx_ok hk, cond_true, wi (x := (k : Int) + 1) (by omega) (by omega), u8c48]
    have hsel : ∀ (X Y : Option R), (bif (l.getD i 0 == 32) then X else bif decide ((i : Int) = sp) then X else Y) = X := by
      intro X Y
      unfold isPl at hp
      cases h : l.getD i 0 == 32 with
      | true => rfl
      | false => rw [h, Bool.false_or] at hp; rw [hp]; rfl
    rw [hsel]
    have e1 : (k : Int) + 1 = ((k + 1 : Nat) : Int) := by omega
    rw [e1]
    have hb : (D.getD k 0 != 48) = !(D.getD k 0 == 48) := rfl
    rw [hb]
    cases en <;> cases (D.getD k 0 == 48) <;> cases decide ((i : Int) = sp) <;> rfl
  · have hp2 : isPl l sp i = false := by simpa using hp
    unfold isPl at hp2
    rw [Bool.or_eq_false_iff] at hp2
    simp only [if_neg hp, hp2.1, hp2.2, cond_false, Nat.add_zero]
    by_cases c : l.getD i 0 = 38
    · have c2 : (l.getD i 0 == 38) = true := by rw [c]; rfl
      simp only [c2, if_pos c, cond_true]
      rfl
    · have c2 : (l.getD i 0 == 38) = false := by simpa using c
      simp only [c2, if_neg c, cond_false]
      cases en <;> rfl

theorem app_ok {W : List Int} {z : Int} (h : W.length ≤ 1000) : (decide ((W.length + [z].length) * 1 ≤ 140737488355328) && decide (W.length + [z].length ≤ 9223372036854775807)) = true := by
  simp
  omega
theorem ints_snoc (W : List UInt8) (z : UInt8) : ints W ++ [(z.toNat : Int)] = ints (W ++ [z]) := by rw [ints_app]; rfl

theorem f343l3q {R : Type} (k0 : Int × ByteArray × Int × Int × Int × Bool × List Int × Unit → Option R) (n : Int) (l D : List UInt8) (hl : l.length ≤ 900) (hD : D.length ≤ 900) (B : Nat) (hB : B ≤ l.length) (sp : Int) (hp : plN l sp B ≤ D.length) (a : Bool) (St : Int) (b : Bool) :
    f343l3 1000 k0 (n, S l, S D, ((fl a).toNat : Int), true, 0, 0, (B : Int), St, sp, b, [], ()) = k0 (n, S l, (B : Int), St, sp, b, ints (stP a sp l D B).2.2, ()) := by
  unfold f343l3
  exact iter_for (R := R) (fun i => (n, S l, S D, ((fl a).toNat : Int), !(stP a sp l D i).2.1, (plN l sp i : Int), (i : Int), (B : Int), St, sp, b, ints (stP a sp l D i).2.2, ())) B
    (fun rec i hi => by
      have hlen := stP_len (a := a) (sp := sp) (l := l) (D := D) i
      unfold f343l3s
      simp only [S_size]
      rw [bif_true (decide_eq_true (by omega)), bif_true (idx_ok (by omega)), S_bt l i (by omega), f343p2q _ n l D a _ _ i _ _ _ _ _ (fun h => by have := plN_lt h hi; omega) hD]
      simp only []
      rw [bif_true (app_ok (by rw [ints_len]; omega)), ints_snoc, wi (x := (i : Int) + 1) (by omega) (by omega), ← stP_drop (a := a)]
      rfl)
    (fun rec => by
      unfold f343l3s
      simp only []
      rw [bif_false (decide_eq_false (by omega))]) (by omega)

/-- A character behind the body, as the reference makes it. -/
def tlC (l : List UInt8) (n : Int) (i : Nat) : UInt8 :=
  if l.getD i 0 = 38 then 32 else if 0 ≤ statI l ∧ (statI l ≤ (i : Int) ∧ (i : Int) ≤ statI l + (if l.getD (statI l).toNat 0 = 67 then 1 else 0)) ∧ 0 ≤ n then 32 else l.getD i 0
def tlG (l : List UInt8) (n : Int) (B : Nat) : Nat → List UInt8
  | 0 => []
  | j + 1 => tlG l n B j ++ [tlC l n (B + j)]
theorem tlG_len {l : List UInt8} {n : Int} {B : Nat} : ∀ j, (tlG l n B j).length = j
  | 0 => rfl
  | j + 1 => by simp [tlG, tlG_len j]
theorem tlG_get {l : List UInt8} {n : Int} {B : Nat} : ∀ (j i : Nat), i < j → (tlG l n B j).getD i 0 = tlC l n (B + i)
  | 0, i, h => by omega
  | j + 1, i, h => by
    have hl := tlG_len (l := l) (n := n) (B := B) j
    simp only [tlG]
    by_cases c : i < j
    · rw [List.getD_eq_getElem?_getD, List.getElem?_append_left (by omega), ← List.getD_eq_getElem?_getD]
      exact tlG_get j i c
    · have : i = j := by omega
      subst this
      rw [List.getD_eq_getElem?_getD, List.getElem?_append_right (by omega), hl, Nat.sub_self]
      rfl
theorem set_getD {r : List UInt8} {i j : Nat} {b : UInt8} (hi : i < r.length) : (r.set j b).getD i 0 = if j = i then b else r.getD i 0 := by
  rw [List.getD_eq_getElem?_getD, List.getElem?_set]
  by_cases c : j = i
  · subst c
    simp [hi]
  · rw [if_neg c, if_neg c, List.getD_eq_getElem?_getD]
theorem list_ext {r s : List UInt8} (h : r.length = s.length) (hg : ∀ i, i < r.length → r.getD i 0 = s.getD i 0) : r = s := by
  apply List.ext_getElem h
  intro i h1 h2
  have := hg i h1
  simpa [List.getD_eq_getElem?_getD, h1, h2] using this
theorem tlG_tlP (l : List UInt8) (n : Int) : tlG l n (bodyN l) (l.length - bodyN l) = tlP l n := by
  have hb := bodyN_le (l := l)
  refine list_ext (by rw [tlG_len, tlP_len]) fun i hi => ?_
  rw [tlG_len] at hi
  rw [tlG_get _ _ hi]
  have hbase : ((l.drop (bodyN l)).map amp).getD i 0 = amp (l.getD (bodyN l + i) 0) := by rw [amp_getD (by simp; omega), drop_getD]
  unfold tlC tlP
  by_cases hs : 0 ≤ statI l ∧ 0 ≤ n
  · rw [if_pos hs]
    obtain ⟨j, hj, j1, j2, j3⟩ := stat_some hs.1
    have hjt : (statI l).toNat = j := by omega
    have hg : ((l.drop (bodyN l)).map amp).getD (j - bodyN l) 0 = amp (l.getD j 0) := by
      rw [amp_getD (by simp; omega), drop_getD, show bodyN l + (j - bodyN l) = j by omega]
    have hne : l.getD j 0 ≠ 38 := by
      intro c
      unfold isSt at j3
      rw [c] at j3
      exact absurd j3 (by simp)
    have hamp : amp (l.getD j 0) = l.getD j 0 := by unfold amp; rw [if_neg hne]
    rw [hjt, hg, hamp]
    have hlm : ((l.drop (bodyN l)).map amp).length = l.length - bodyN l := by simp
    by_cases c67 : l.getD j 0 = 67
    · have hcr := stat_cr j3 c67
      have h82 : l.getD (j + 1) 0 = 82 := by
        unfold isSt at j3
        rw [c67] at j3
        simp at j3
        simpa using j3.2
      rw [if_pos c67, if_pos c67, set_getD (by rw [List.length_set, hlm]; omega), set_getD (by rw [hlm]; omega), hbase]
      by_cases c1 : j - bodyN l = i
      · have : bodyN l + i = j := by omega
        rw [if_pos c1, this, if_neg hne, if_pos ⟨by omega, by omega, hs.2⟩]
      · rw [if_neg c1]
        by_cases c2 : j - bodyN l + 1 = i
        · have : bodyN l + i = j + 1 := by omega
          rw [if_pos c2, this, h82, if_neg (by decide), if_pos ⟨by omega, by omega, hs.2⟩]
        · have a3 : ¬ (0 ≤ statI l ∧ (statI l ≤ ((bodyN l + i : Nat) : Int) ∧ ((bodyN l + i : Nat) : Int) ≤ statI l + 1) ∧ 0 ≤ n) := by omega
          rw [if_neg c2, if_neg a3]
          rfl
    · rw [if_neg c67, if_neg c67, set_getD (by rw [hlm]; omega), hbase]
      by_cases c1 : j - bodyN l = i
      · have : bodyN l + i = j := by omega
        rw [if_pos c1, this, if_neg hne, if_pos ⟨by omega, by omega, hs.2⟩]
      · have a3 : ¬ (0 ≤ statI l ∧ (statI l ≤ ((bodyN l + i : Nat) : Int) ∧ ((bodyN l + i : Nat) : Int) ≤ statI l + 0) ∧ 0 ≤ n) := by omega
        rw [if_neg c1, if_neg a3]
        rfl
  · have a3 : ¬ (0 ≤ statI l ∧ (statI l ≤ ((bodyN l + i : Nat) : Int) ∧ ((bodyN l + i : Nat) : Int) ≤ statI l + (if l.getD (statI l).toNat 0 = 67 then 1 else 0)) ∧ 0 ≤ n) := fun c => hs ⟨c.1, c.2.2⟩
    rw [if_neg hs, hbase, if_neg a3]
    rfl

/-- The characters of the sign. -/
def sgS (l : List UInt8) : ByteArray := if 0 ≤ statI l then (if l.getD (statI l).toNat 0 = 67 then ⟨#[67, 82]⟩ else ⟨#[45]⟩) else ByteArray.empty
theorem f343p5q {R : Type} (k0 : Int × ByteArray × ByteArray × Int × Int × Int × Int × Int × Bool × List Int × Unit → Option R) (n : Int) (l : List UInt8) (hl : l.length ≤ 900) (i : Nat) (B sp : Int) (b : Bool) (W : List Int) :
    f343p5 1000 k0 (n, S l, sgS l, (i : Int), ((l.getD i 0).toNat : Int), B, statI l, sp, b, W, ()) = k0 (n, S l, sgS l, (i : Int), ((tlC l n i).toNat : Int), B, statI l, sp, b, W, ()) := by
  unfold f343p5 tlC
  simp only [u8c38, f48q, bind_some']
  by_cases c : l.getD i 0 = 38
  · rw [if_pos c, bif_true (by rw [c]; rfl)]
    rfl
  · rw [if_neg c, bif_false (by simpa using c)]
    by_cases hs : 0 ≤ statI l
    · obtain ⟨j, hj, j1, j2, j3⟩ := stat_some hs
      have hsz : ((sgS l).size : Int) = 1 + (if l.getD (statI l).toNat 0 = 67 then 1 else 0) := by
        unfold sgS
        rw [if_pos hs]
        split <;> rfl
      have hx : 0 ≤ (if l.getD (statI l).toNat 0 = 67 then (1 : Int) else 0) ∧ (if l.getD (statI l).toNat 0 = 67 then (1 : Int) else 0) ≤ 1 := by split <;> omega
      rw [bif_true (by rw [ine]; exact decide_eq_true (by omega)), hsz]
      generalize (if l.getD (statI l).toNat 0 = 67 then (1 : Int) else 0) = x at *
      rw [wi (x := statI l + (1 + x)) (by omega) (by omega), wi (by omega) (by omega)]
      have ha : 0 ≤ statI l := hs
      by_cases h1 : statI l ≤ (i : Int) ∧ (i : Int) ≤ statI l + (1 + x) - 1
      · rw [decide_eq_true h1, cond_true]
        by_cases h2 : 0 ≤ n
        · rw [bif_true (decide_eq_true h2), if_pos ⟨hs, by omega, h2⟩]
          rfl
        · rw [bif_false (decide_eq_false h2), if_neg (fun c => h2 c.2.2)]
      · rw [decide_eq_false h1, cond_false, if_neg (by omega)]
    · rw [bif_false (by rw [stat_none hs]; rfl), if_neg (fun c => hs c.1)]

theorem f343p0q {R : Type} (k0 : Int × ByteArray × ByteArray × Int × Int × Int × Int × Bool × Unit → Option R) (n : Int) (w d : ByteArray) (B St sp : Int) (a : Bool) :
    f343p0 1000 k0 (n, w, d, 32, B, St, sp, a, ()) = k0 (n, w, d, ((fl a).toNat : Int), B, St, sp, a, ()) := by
  unfold f343p0
  cases a <;> rfl
theorem f343q {kd sc n : Int} {L : Nat} (l : List UInt8) (hl : l.length ≤ 100) (h0 : -1000000000000000 ≤ n) (h1 : n ≤ 1000000000000000) (hL1 : 1 ≤ L) (hL : L ≤ 15) (hn : amt n < 10 ^ L) (hw : (pfin l).2.2 = 0) (hp : plN l (stopI l) l.length = L) :
    f343F 1000 ((kd, ((L : Int), sc)), n, S l) = some (S (wordL l n L)) := by
  obtain ⟨e, e0, e4, eb, ec⟩ := pfin_ok hw
  have hb := bodyN_le (l := l)
  have hD : (dgL (amt n) L).length = L := dgL_length _ _
  have hpb : plN l (stopI l) (bodyN l) ≤ (dgL (amt n) L).length := by
    have := plN_mono (l := l) (sp := stopI l) hb
    omega
  have hlen := stP_len (a := astB l) (sp := stopI l) (l := l) (D := dgL (amt n) L) (bodyN l)
  have key : ∀ (k0 : List Int × Unit → Option ByteArray), f343l6 1000 k0 (n, S l, sgS l, (bodyN l : Int), (bodyN l : Int), statI l, stopI l, astB l, ints (stP (astB l) (stopI l) l (dgL (amt n) L) (bodyN l)).2.2, ()) = k0 (ints (wordL l n L), ()) := by
    intro k0
    unfold f343l6
    have := iter_for (R := ByteArray) (Step := fun rec v => f343l6s 1000 rec k0 v) (fun j => (n, S l, sgS l, ((bodyN l + j : Nat) : Int), (bodyN l : Int), statI l, stopI l, astB l, ints ((stP (astB l) (stopI l) l (dgL (amt n) L) (bodyN l)).2.2 ++ tlG l n (bodyN l) j), ())) (l.length - bodyN l) (fin := k0 (ints (wordL l n L), ()))
      (fun rec j hj => by
        have hg := tlG_len (l := l) (n := n) (B := bodyN l) j
        unfold f343l6s
        simp only [S_size]
        rw [bif_true (decide_eq_true (by omega)), bif_true (idx_ok (by omega)), S_bt l _ (by omega), f343p5q _ n l (by omega)]
        simp only []
        rw [bif_true (app_ok (by rw [ints_len, List.length_append]; omega)), ints_snoc, wi (x := ((bodyN l + j : Nat) : Int) + 1) (by omega) (by omega), List.append_assoc]
        rfl)
      (fun rec => by
        unfold f343l6s
        simp only [S_size]
        rw [bif_false (decide_eq_false (by omega)), tlG_tlP]
        rfl) (k := 1000) (by omega)
    have z : ints ((stP (astB l) (stopI l) l (dgL (amt n) L) (bodyN l)).2.2 ++ tlG l n (bodyN l) 0) = ints (stP (astB l) (stopI l) l (dgL (amt n) L) (bodyN l)).2.2 := by simp [tlG]
    simp only [Nat.add_zero, z] at this
    exact this
  unfold f343F
  simp only [f317q, f375q hL1 hL hn h0 h1, e, ptsL, bind_some', f343p0q]
  rw [f343l3q _ n l _ (by omega) (by omega) _ hb _ hpb]
  unfold f343p4
  simp only [S_size]
  by_cases hs : 0 ≤ statI l
  · obtain ⟨j, hj, j1, j2, j3⟩ := stat_some hs
    rw [bif_true (by rw [ine]; exact decide_eq_true (by omega)), hj, bif_true (idx_ok (by omega)), S_bt l j (by omega), u8c67]
    by_cases c : l.getD j 0 = 67
    · rw [bif_true (by rw [c]; rfl)]
      have es : sgS l = ⟨#[67, 82]⟩ := by
        unfold sgS
        rw [if_pos hs, hj, Int.toNat_natCast, if_pos c]
      rw [← es, ← hj, key, str_ints]
    · rw [bif_false (by simpa using c)]
      have es : sgS l = ⟨#[45]⟩ := by
        unfold sgS
        rw [if_pos hs, hj, Int.toNat_natCast, if_neg c]
      rw [← es, ← hj, key, str_ints]
  · have es : sgS l = ByteArray.empty := by
      unfold sgS
      rw [if_neg hs]
    rw [bif_false (by rw [stat_none hs]; rfl), ← es, key, str_ints]

theorem w_ok {kd ln sc : Int} {l : List UInt8} (h : wErr kd ln sc l = 0) : tyErr kd ln sc = 0 ∧ (1 ≤ kd ∧ kd ≤ 3) ∧ (1 ≤ ln ∧ ln ≤ 15) ∧ (pfin l).2.2 = 0 ∧ (plN l (stopI l) l.length : Int) = ln := by
  unfold wErr at h
  split at h
  · rename_i c; exact absurd h c
  · rename_i c1
    have c1 : tyErr kd ln sc = 0 := by omega
    split at h
    · exact absurd h (by decide)
    · rename_i c2
      have c2 : 1 ≤ kd ∧ kd ≤ 3 := by omega
      split at h
      · rename_i c; exact absurd h c
      · rename_i c3
        split at h
        · exact absurd h (by decide)
        · rename_i c4
          have ht := ty_ok c1
          exact ⟨c1, c2, ht.2.2.2.1 c2, by omega, by omega⟩

/-- What both say of a value and a word. -/
def ebR (kd ln sc n : Int) (s : ByteArray) (l : List UInt8) : ByteArray × Int :=
  if wErr kd ln sc l ≠ 0 then (ByteArray.empty, wErr kd ln sc l) else if valErr kd ln sc n s ≠ 0 then (ByteArray.empty, valErr kd ln sc n s) else (S (wordL l n ln.toNat), 0)
theorem f318q (kd ln sc n : Int) (s : ByteArray) (l : List UInt8) : f318F 1000 ((kd, (ln, sc)), (n, s), S l) = some (ebR kd ln sc n s l) := by
  unfold f318F ebR
  simp only [f340q, f29q, bind_some']
  by_cases hw : wErr kd ln sc l = 0
  · obtain ⟨ht, hk, hl, hpf, hpl⟩ := w_ok hw
    obtain ⟨e, e0, e4, eb, ec⟩ := pfin_ok hpf
    have hw' : ¬ (wErr kd ln sc l ≠ 0) := fun c => c hw
    rw [if_neg hw', if_pos (Or.inl hw)]
    simp only [hw, f334q, bind_some', if_true]
    by_cases hv : valErr kd ln sc n s = 0
    · obtain ⟨⟨n0, n1⟩, ha⟩ := val_amt hv hk hl
      have hv' : ¬ (valErr kd ln sc n s ≠ 0) := fun c => c hv
      rw [if_neg hv', hv, bif_false (by rfl)]
      have hln : ln = ((ln.toNat : Nat) : Int) := by omega
      have hq := f341q (kd := kd) (sc := sc) (s := s) (L := ln.toNat) l (by omega) n0 n1 (by omega) eb (by omega)
      rw [← hln] at hq
      simp only [ptsL] at hq ⊢
      rw [hq, bind_some']
    · rw [if_pos hv, bif_true (by simpa using hv)]
  · rw [if_pos hw]
    have h2 : ∀ (x : Int × (Int × (Int × Bool))), Option.bind (f334F 1000 [wErr kd ln sc l, valErr kd ln sc n s]) (fun y3 => bif (y3 != (0 : Int)) then some (ByteArray.empty, y3) else Option.bind (f341F 1000 ((kd, (ln, sc)), (n, s), S l, x)) fun y4 => some (y4, (0 : Int))) = some (ByteArray.empty, wErr kd ln sc l) := by
      intro x
      rw [f334q, bind_some', if_neg hw, bif_true (by simpa using hw)]
    split <;> exact h2 _
theorem f319q (kd ln sc n : Int) (s : ByteArray) (l : List UInt8) : f319F 1000 ((kd, (ln, sc)), (n, s), S l) = some (ebR kd ln sc n s l) := by
  unfold f319F ebR
  simp only [f342q, f30q, bind_some']
  by_cases hw : wErr kd ln sc l = 0
  · obtain ⟨ht, hk, hl, hpf, hpl⟩ := w_ok hw
    obtain ⟨e, e0, e4, eb, ec⟩ := pfin_ok hpf
    have hw' : ¬ (wErr kd ln sc l ≠ 0) := fun c => c hw
    rw [if_neg hw', bif_false (by simpa using hw)]
    by_cases hv : valErr kd ln sc n s = 0
    · obtain ⟨⟨n0, n1⟩, ha⟩ := val_amt hv hk hl
      have hv' : ¬ (valErr kd ln sc n s ≠ 0) := fun c => c hv
      rw [if_neg hv', bif_false (by simpa using hv)]
      have hln : ln = ((ln.toNat : Nat) : Int) := by omega
      have hq := f343q (kd := kd) (sc := sc) (L := ln.toNat) l (by omega) n0 n1 (by omega) (by omega) ha hpf (by omega)
      rw [← hln] at hq
      rw [hq, bind_some']
    · rw [if_pos hv, bif_true (by simpa using hv)]
  · rw [if_pos hw, bif_true (by simpa using hw)]

theorem editWords (x : (Int × (Int × Int)) × (Int × ByteArray) × ByteArray) : f305F 1000 x = some true := by
  obtain ⟨⟨kd, ln, sc⟩, ⟨n, s⟩, w⟩ := x
  obtain ⟨l, rfl⟩ : ∃ l, w = S l := ⟨_, (S_of w).symm⟩
  unfold f305F
  simp only [awake_q, f318q, f319q, bind_some', Bool.not_true, cond_false, beq_self_eq_true, cond_true, strEq_self]
  cases decide (((S l).size : Int) > 100)
  · cases decide ((s.size : Int) > 300) <;> rfl
  · rfl
end Go.Proofs.YtecbbmokocnadaaDoor
