/- Plain laws: the parts of a word: EditParts. -/
import Derived.Test.YtecbbmokocnadaaDoorPA
import Derived.Test.YtecbbmokocnadaaDoorFbJ
/-! Plain laws: the parts of a word. -/
set_option linter.unusedVariables false
set_option linter.unusedSimpArgs false
namespace Go.Ab

theorem ieq (a b : Int) : (a == b) = decide (a = b) := by rw [Bool.eq_iff_iff]; simp
theorem ine (a b : Int) : (a != b) = decide (a ≠ b) := by rw [Bool.eq_iff_iff]; simp
theorem idx_ok {i n : Nat} (h : i < n) : (decide ((0 : Int) ≤ (i : Int)) && decide ((i : Int) < (n : Int))) = true := by simp; omega
theorem S_nil : ByteArray.empty = S [] := rfl

/-! ### Where something stands -/
theorem findIdx_snoc {q : UInt8 → Bool} (m : List UInt8) (b : UInt8) : (m ++ [b]).findIdx q = if m.findIdx q < m.length then m.findIdx q else if q b = true then m.length else m.length + 1 := by
  induction m with
  | nil => cases h : q b <;> simp [List.findIdx_cons, h]
  | cons a m ih =>
    simp only [List.cons_append, List.findIdx_cons, List.length_cons]
    cases h : q a with
    | true => simp
    | false =>
      simp only [cond_false, ih]
      by_cases c : m.findIdx q < m.length
      · have c2 : m.findIdx q + 1 < m.length + 1 := by omega
        simp only [if_pos c, if_pos c2]
      · have c2 : ¬ m.findIdx q + 1 < m.length + 1 := by omega
        simp only [if_neg c, if_neg c2]
        split <;> rfl
def isStop (b : UInt8) : Bool := b == 48 || b == 42
/-- The place of the first zero or star; the length, if there is none. -/
def stopN (l : List UInt8) : Nat := l.findIdx isStop
def stopI (l : List UInt8) : Int := if stopN l < l.length then (stopN l : Int) else -1
def astB (l : List UInt8) : Bool := decide (stopN l < l.length) && (l.getD (stopN l) 0 == 42)
/-- The place behind the last blank; 0, if there is none. -/
def lastB (l : List UInt8) : Nat := l.length - l.reverse.findIdx (· == 32)
def bodyN (l : List UInt8) : Nat := max (lastB l) (if stopN l < l.length then stopN l + 1 else 0)
/-- Does a sign stand there? -/
def isSt (l : List UInt8) (i : Nat) : Bool := l.getD i 0 == 45 || (l.getD i 0 == 67 && (decide (i + 1 < l.length) && l.getD (i + 1) 0 == 82))
def statI (l : List UInt8) : Int := match (List.range' (bodyN l) (l.length - bodyN l)).find? (isSt l) with | some j => (j : Int) | none => -1

theorem getD_take {l : List UInt8} {i j : Nat} (h : j < i) : (l.take i).getD j 0 = l.getD j 0 := by
  simp [List.getD_eq_getElem?_getD, List.getElem?_take, h]
theorem lastB_snoc {l : List UInt8} {i : Nat} (h : i < l.length) : lastB (l.take (i + 1)) = if l.getD i 0 = 32 then i + 1 else lastB (l.take i) := by
  have e : l.take (i + 1) = l.take i ++ [l.getD i 0] := by
    rw [List.take_succ_eq_append_getElem h]
    simp [List.getD_eq_getElem?_getD, h]
  unfold lastB
  rw [e, List.reverse_append]
  simp only [List.reverse_cons, List.reverse_nil, List.nil_append, List.cons_append, List.findIdx_cons, List.length_append, List.length_take, List.length_cons, List.length_nil]
  by_cases c : l.getD i 0 = 32
  · rw [if_pos c, c]
    simp
    omega
  · rw [if_neg c]
    have : (l.getD i 0 == 32) = false := by simpa using c
    rw [this]
    simp only [cond_false]
    have := List.findIdx_le_length (p := (· == 32)) (xs := (l.take i).reverse)
    simp at this
    omega
theorem stopN_snoc {l : List UInt8} {i : Nat} (h : i < l.length) : stopN (l.take (i + 1)) = if stopN (l.take i) < i then stopN (l.take i) else if isStop (l.getD i 0) = true then i else i + 1 := by
  have e : l.take (i + 1) = l.take i ++ [l.getD i 0] := by
    rw [List.take_succ_eq_append_getElem h]
    simp [List.getD_eq_getElem?_getD, h]
  unfold stopN
  rw [e, findIdx_snoc]
  simp only [List.length_take, Nat.min_eq_left (Nat.le_of_lt h)]
theorem stopN_take_le {l : List UInt8} {i : Nat} (h : i ≤ l.length) : stopN (l.take i) ≤ i := by
  unfold stopN
  exact Nat.le_trans List.findIdx_le_length (by simp; omega)
theorem stopN_is {l : List UInt8} (h : stopN l < l.length) : isStop (l.getD (stopN l) 0) = true := by
  have := List.findIdx_getElem (p := isStop) (xs := l) (w := h)
  have h2 : List.findIdx isStop l < l.length := h
  unfold stopN
  rw [List.getD_eq_getElem?_getD, List.getElem?_eq_getElem h2]
  exact this
theorem stopI_snoc {l : List UInt8} {i : Nat} (h : i < l.length) : stopI (l.take (i + 1)) = if stopI (l.take i) = -1 then (if isStop (l.getD i 0) = true then (i : Int) else -1) else stopI (l.take i) := by
  have h1 := stopN_take_le (l := l) (i := i) (by omega)
  unfold stopI
  simp only [stopN_snoc h, List.length_take, Nat.min_eq_left (Nat.le_of_lt h), Nat.min_eq_left (Nat.succ_le_of_lt h)]
  by_cases c : stopN (l.take i) < i
  · rw [if_pos c, if_pos c, if_pos (by omega), if_neg (by omega)]
  · rw [if_neg c, if_neg c]
    by_cases q : isStop (l.getD i 0) = true
    · simp only [if_pos q]
      rw [if_pos (by omega), if_pos trivial]
    · simp only [if_neg q]
      rw [if_neg (by omega), if_pos trivial]
theorem astB_snoc {l : List UInt8} {i : Nat} (h : i < l.length) : astB (l.take (i + 1)) = if stopI (l.take i) = -1 then (l.getD i 0 == 42) else astB (l.take i) := by
  have h1 := stopN_take_le (l := l) (i := i) (by omega)
  unfold astB stopI
  simp only [stopN_snoc h, List.length_take, Nat.min_eq_left (Nat.le_of_lt h), Nat.min_eq_left (Nat.succ_le_of_lt h)]
  by_cases c : stopN (l.take i) < i
  · rw [if_pos c, if_pos c, if_neg (by omega), getD_take (by omega), getD_take (by omega)]
    simp [c]
    omega
  · rw [if_neg c, if_neg c, if_pos rfl]
    by_cases q : isStop (l.getD i 0) = true
    · rw [if_pos q, getD_take (by omega)]
      simp
    · rw [if_neg q]
      have : (l.getD i 0 == 42) = false := by
        unfold isStop at q
        simp at q
        simpa using q.2
      rw [this]
      simp
theorem indexAny_find' {qs : List UInt8} : ∀ (v : List UInt8), Lib.indexAny v qs = if v.findIdx (fun b => qs.contains b) < v.length then ((v.findIdx (fun b => qs.contains b) : Nat) : Int) else -1
  | [] => rfl
  | x :: v => by
    have ih := indexAny_find' (qs := qs) v
    simp only [Lib.indexAny, List.findIdx_cons, List.length_cons]
    cases h : qs.contains x with
    | true => simp
    | false =>
      simp only [Bool.false_eq_true, if_false, cond_false]
      rw [ih]
      by_cases hc : v.findIdx (fun b => qs.contains b) < v.length
      · have e1 : v.findIdx (fun b => qs.contains b) + 1 < v.length + 1 := by omega
        simp only [if_pos hc, if_pos e1]
        rw [if_neg (by simp; try omega)]
        omega
      · have e1 : ¬ v.findIdx (fun b => qs.contains b) + 1 < v.length + 1 := by omega
        simp only [if_neg hc, if_neg e1]
        rfl
theorem indexAny_stop (l : List UInt8) : Lib.indexAny l [48, 42] = stopI l := by
  rw [indexAny_find']
  have e : (fun b => ([48, 42] : List UInt8).contains b) = isStop := by
    funext b
    rw [Bool.eq_iff_iff]
    simp [isStop]
  rw [e]
  rfl
end Go.Ab
namespace Go.Proofs.YtecbbmokocnadaaDoor
open Go.Ab

theorem find_congr {α : Type} {p q : α → Bool} : ∀ {l : List α}, (∀ x ∈ l, p x = q x) → l.find? p = l.find? q
  | [], _ => rfl
  | a :: l, h => by
    rw [List.find?_cons, List.find?_cons, h a (by simp), find_congr fun x hx => h x (by simp [hx])]
theorem u8i {b c : UInt8} : ((b.toNat : Int) == (c.toNat : Int)) = (b == c) := by
  rw [Bool.eq_iff_iff]
  simp only [beq_iff_eq]
  constructor
  · intro h
    exact UInt8.toNat_inj.1 (by omega)
  · rintro rfl
    rfl
theorem u8c32 {b : UInt8} : ((b.toNat : Int) == 32) = (b == 32) := u8i (c := 32)
theorem u8c38 {b : UInt8} : ((b.toNat : Int) == 38) = (b == 38) := u8i (c := 38)
theorem u8c42 {b : UInt8} : ((b.toNat : Int) == 42) = (b == 42) := u8i (c := 42)
theorem u8c45 {b : UInt8} : ((b.toNat : Int) == 45) = (b == 45) := u8i (c := 45)
theorem u8c48 {b : UInt8} : ((b.toNat : Int) == 48) = (b == 48) := u8i (c := 48)
theorem u8c67 {b : UInt8} : ((b.toNat : Int) == 67) = (b == 67) := u8i (c := 67)
theorem u8c82 {b : UInt8} : ((b.toNat : Int) == 82) = (b == 82) := u8i (c := 82)
theorem u8k {b : UInt8} {c : Nat} (h : c < 256) : ((b.toNat : Int) == (c : Int)) = (b == UInt8.ofNat c) := by
  have e : (UInt8.ofNat c).toNat = c := by rw [UInt8.toNat_ofNat']; omega
  rw [← u8i (c := UInt8.ofNat c), e]

theorem f380s (l : List UInt8) (ha : asc l) (hl : l.length ≤ 900) : f380F 1000 (S l, (⟨#[48, 42]⟩ : ByteArray)) = some (stopI l) := by
  have h : asciiB (S l) = true := by
    unfold asciiB
    rw [S_list]
    exact List.all_eq_true.2 fun b hb => decide_eq_true (ha b hb)
  have h2 : asciiB (⟨#[48, 42]⟩ : ByteArray) = true := by decide
  have e : (⟨#[48, 42]⟩ : ByteArray).data.toList = [48, 42] := rfl
  unfold f380F
  simp only [S_size, h, h2, S_list, e, indexAny_stop]
  have e2 : (⟨#[48, 42]⟩ : ByteArray).size = 2 := rfl
  rw [e2]
  simp (disch := omega) only [decide_eq_true, Bool.and_self, cond_true]

/-- A loop downwards that ends at the first place of some kind. -/
theorem last_find (l : List UInt8) (q : UInt8 → Bool) : (match (List.range' 0 l.length).find? (fun j => q (l.getD (l.length - 1 - j) 0)) with | some j => ((l.length - 1 - j : Nat) : Int) | none => -1) = ((l.length - l.reverse.findIdx q : Nat) : Int) - 1 := by
  have key : ∀ (m : List UInt8), (match (List.range' 0 m.length).find? (fun j => q (m.getD j 0)) with | some j => ((m.length - 1 - j : Nat) : Int) | none => -1) = ((m.length - m.findIdx q : Nat) : Int) - 1 := by
    intro m
    have hf : (List.range' 0 m.length).find? (fun j => q (m.getD j 0)) = if m.findIdx q < m.length then some (m.findIdx q) else none := by
      have : ∀ (v : List UInt8) (i : Nat), (∀ j, j < v.length → m.getD (i + j) 0 = v.getD j 0) → (List.range' i v.length).find? (fun j => q (m.getD j 0)) = if v.findIdx q < v.length then some (i + v.findIdx q) else none := by
        intro v
        induction v with
        | nil => intro i _; rfl
        | cons a v ih =>
          intro i hv
          have h0 := hv 0 (by simp)
          simp only [List.length_cons, List.range'_succ, List.find?_cons, List.findIdx_cons]
          rw [Nat.add_zero] at h0
          rw [h0]
          have ea : (a :: v).getD 0 0 = a := rfl
          rw [ea]
          cases h : q a with
          | true => simp
          | false =>
            simp only [cond_false]
            rw [ih (i + 1) fun j hj => by
              have := hv (j + 1) (by simpa using hj)
              rw [show i + 1 + j = i + (j + 1) by omega, this]
              rfl]
            by_cases c : v.findIdx q < v.length
            · rw [if_pos c, if_pos (by omega)]
              congr 1
              omega
            · rw [if_neg c, if_neg (by omega)]
      have := this m 0 fun j _ => by rw [Nat.zero_add]
      rw [this]
      simp
    rw [hf]
    by_cases c : m.findIdx q < m.length
    · rw [if_pos c]
      simp only []
      omega
    · rw [if_neg c]
      simp only []
      have := List.findIdx_le_length (p := q) (xs := m)
      omega
  have := key l.reverse
  simp only [List.length_reverse] at this
  rw [← this]
  have e : (fun j => q (l.getD (l.length - 1 - j) 0)) = (fun j => q (l.getD (l.length - 1 - j) 0)) := rfl
  have : (List.range' 0 l.length).find? (fun j => q (l.getD (l.length - 1 - j) 0)) = (List.range' 0 l.length).find? (fun j => q (l.reverse.getD j 0)) := by
    apply find_congr
    intro j hj
    have hj : j < l.length := by simpa using hj
    simp [List.getD_eq_getElem?_getD, List.getElem?_reverse hj]
  rw [this]
end Go.Proofs.YtecbbmokocnadaaDoor
/-! Plain laws: the parts of a word. -/
set_option linter.unusedVariables false
set_option linter.unusedSimpArgs false
namespace Go.Proofs.YtecbbmokocnadaaDoor
open Go.Ab

theorem f381q (l : List UInt8) (hl : l.length ≤ 900) : f381F 1000 (S l, 32) = some ((lastB l : Int) - 1) := by
  unfold f381F f402F f402l0
  have key := iter_scan (R := Int) (Step := fun rec v => f402l0s 1000 rec (fun (w1 : Int × Unit) => some w1.1) (fun (w2 : Unit) => some (-1 : Int)) v) (fun i => (S l, 32, (l.length : Int) - 1 - (i : Int), ())) (fun j => (fun b : UInt8 => b == 32) (l.getD (l.length - 1 - j) 0)) (fun j => some ((l.length - 1 - j : Nat) : Int)) (fin := some (-1)) l.length 0 1000
    (fun rec j _ hj hp => by
      unfold f402l0s
      have e : (l.length : Int) - 1 - (j : Int) = ((l.length - 1 - j : Nat) : Int) := by omega
      have hp : l.getD (l.length - 1 - j) 0 = 32 := by simpa using hp
      simp only [S_size, e]
      rw [bif_true (by simp), bif_true (by simp <;> omega), S_bt l _ (by omega), bif_true (by rw [hp]; rfl)])
    (fun rec j _ hj hp => by
      unfold f402l0s
      have e : (l.length : Int) - 1 - (j : Int) = ((l.length - 1 - j : Nat) : Int) := by omega
      have hp : (l.getD (l.length - 1 - j) 0 == 32) = false := hp
      simp only [S_size, e]
      rw [bif_true (by simp), bif_true (by simp <;> omega), S_bt l _ (by omega), bif_false (by rw [← hp]; exact u8c32), wi (by omega) (by omega), show ((l.length - 1 - j : Nat) : Int) - 1 = (l.length : Int) - 1 - ((j + 1 : Nat) : Int) by omega])
    (fun rec => by
      unfold f402l0s
      rw [bif_false (by simp; omega)]) (by omega)
  have e0 : IntKind.i64.wrap (((S l).size : Int) - 1) = (l.length : Int) - 1 - ((0 : Nat) : Int) := by
    rw [S_size, wi (by omega) (by omega)]
    omega
  simp only [e0]
  have e1 : ∀ z : Option Int, (Option.bind (Option.bind z fun y1 => some y1) fun y1 => some y1) = z := fun z => by cases z <;> rfl
  have e2 : ∀ z : Option Int, (Option.bind z fun y1 => some y1) = z := fun z => by cases z <;> rfl
  simp only [e2]
  refine key.trans ?_
  have hf := last_find l (· == 32)
  unfold lastB
  rw [← hf]
  cases (List.range' 0 l.length).find? (fun j => (fun b : UInt8 => b == 32) (l.getD (l.length - 1 - j) 0)) <;> rfl

theorem f382q (l : List UInt8) (i : Nat) (h : i < l.length) (hl : l.length ≤ 900) : f382F 1000 (S (l.drop i), (⟨#[67, 82]⟩ : ByteArray)) = some (l.getD i 0 == 67 && (decide (i + 1 < l.length) && l.getD (i + 1) 0 == 82)) := by
  have e2 : (⟨#[67, 82]⟩ : ByteArray) = S [67, 82] := rfl
  unfold f382F f403F
  simp only [e2, S_size, List.length_drop, List.length_cons, List.length_nil, Int.toNat_natCast, S_cut, List.drop_zero, S_eq]
  have d0 : l.drop i = l.getD i 0 :: l.drop (i + 1) := by
    rw [List.drop_eq_getElem_cons h]
    simp [List.getD_eq_getElem?_getD, h]
  by_cases c : i + 1 < l.length
  · have d1 : l.drop (i + 1) = l.getD (i + 1) 0 :: l.drop (i + 2) := by
      rw [List.drop_eq_getElem_cons c]
      simp [List.getD_eq_getElem?_getD, c]
    rw [bif_true (by simp; omega), bif_true (sliceB0 (by omega)), d0, d1, bind_some']
    simp only [Nat.zero_add, Nat.reduceAdd, List.take_succ_cons, List.take_zero, List.cons.injEq, and_true, c, decide_true, Bool.true_and]
    congr 1
    rw [Bool.eq_iff_iff]
    simp
  · rw [bif_false (by simp; omega), bind_some']
    simp [c]

/-- A word's parts, found. -/
def ptsL (l : List UInt8) : Int × (Int × (Int × Bool)) := ((bodyN l : Int), (statI l, (stopI l, astB l)))
theorem max_body {l : List UInt8} : mxI ((lastB l : Int) - 1) (stopI l) + 1 = (bodyN l : Int) := by
  unfold mxI bodyN stopI
  by_cases c : stopN l < l.length
  · simp only [if_pos c]
    split <;> omega
  · simp only [if_neg c]
    split <;> omega
theorem bodyN_le {l : List UInt8} : bodyN l ≤ l.length := by
  unfold bodyN lastB
  split <;> omega

theorem f339l0q {R : Type} (k0 : Int × Int × Int × Bool × Int × Int × Int × Bool × Unit → Option R) (l : List UInt8) (hl : l.length ≤ 900) (B : Int) :
    f339l0 1000 k0 (S l, (bodyN l : Int), 0, 0, 0, false, B, -1, stopI l, astB l, ()) = k0 (0, 0, 0, false, B, statI l, stopI l, astB l, ()) := by
  unfold f339l0
  have hb := bodyN_le (l := l)
  have key := iter_scan (R := R) (Step := fun rec v => f339l0s 1000 rec k0 v) (fun i => (S l, (i : Int), 0, 0, 0, false, B, -1, stopI l, astB l, ())) (isSt l) (fun j => k0 (0, 0, 0, false, B, (j : Int), stopI l, astB l, ())) (fin := k0 (0, 0, 0, false, B, -1, stopI l, astB l, ())) (l.length - bodyN l) (bodyN l) 1000
    (fun rec j _ hj hp => by
      unfold f339l0s
      simp only [S_size, Int.toNat_natCast, S_cut, List.take_length]
      rw [bif_true (by simp; omega), bif_true (by simp; omega), S_bt l j (by omega)]
      unfold isSt at hp
      cases h45 : (l.getD j 0 == 45) with
      | true => rw [bif_true (u8c45.trans h45)]
      | false =>
        rw [h45, Bool.false_or] at hp
        rw [bif_false (u8c45.trans h45), bif_true (sliceB (by omega) (Nat.le_refl _)), f382q l j (by omega) hl, hp, bind_some', cond_true])
    (fun rec j _ hj hp => by
      unfold f339l0s
      simp only [S_size, Int.toNat_natCast, S_cut, List.take_length]
      rw [bif_true (by simp; omega), bif_true (by simp; omega), S_bt l j (by omega)]
      unfold isSt at hp
      rw [Bool.or_eq_false_iff] at hp
      rw [bif_false (u8c45.trans hp.1), bif_true (sliceB (by omega) (Nat.le_refl _)), f382q l j (by omega) hl, hp.2, bind_some', cond_false, wi (by omega) (by omega)]
      rfl)
    (fun rec => by
      unfold f339l0s
      simp only [S_size]
      rw [bif_false (by simp; omega)]) (by omega)
  refine key.trans ?_
  unfold statI
  cases (List.range' (bodyN l) (l.length - bodyN l)).find? (isSt l) <;> rfl

theorem f339q (l : List UInt8) (ha : asc l) (hl : l.length ≤ 900) : f339F 1000 (S l) = some (ptsL l, decide (bodyN l ≠ 0)) := by
  have hb := bodyN_le (l := l)
  unfold f339F
  rw [f380s l ha hl, bind_some', f381q l hl]
  have e1 : IntKind.i64.wrap (mxI ((lastB l : Int) - 1) (stopI l) + 1) = (bodyN l : Int) := by rw [max_body, wi (by omega) (by omega)]
  have e3 : decide ((bodyN l : Int) > 0) = decide (bodyN l ≠ 0) := by rw [decide_eq_decide]; omega
  simp only [bind_some', e1, S_size]
  have hs : stopI l = if stopN l < l.length then (stopN l : Int) else -1 := rfl
  by_cases c : stopN l < l.length
  · rw [if_pos c] at hs
    have ea : (bt (S l) (stopI l) == 42) = astB l := by
      rw [hs, S_bt l _ c]
      unfold astB
      rw [decide_eq_true c, Bool.true_and]
      exact u8c42
    rw [bif_true (by simp; omega), bif_true (by simp; omega), ea, f339l0q _ l hl, e3]
    rfl
  · rw [if_neg c] at hs
    have ea : astB l = false := by
      unfold astB
      rw [decide_eq_false c, Bool.false_and]
    have := f339l0q (R := (Int × (Int × (Int × Bool))) × Bool) (fun (w6 : Int × Int × Int × Bool × Int × Int × Int × Bool × Unit) =>
      some ((w6.2.2.2.2.1, (w6.2.2.2.2.2.1, (w6.2.2.2.2.2.2.1, w6.2.2.2.2.2.2.2.1))), (decide (w6.2.2.2.2.1 > (0 : Int))))) l hl (bodyN l)
    rw [ea] at this
    rw [bif_false (by simp; omega), this, e3]
    unfold ptsL
    rw [ea]

/-! ### PartsOf -/
def badN (l : List UInt8) (j : Nat) : Bool := decide ((l.getD j 0).toNat < 32) || decide (126 < (l.getD j 0).toNat)
/-- What both come to. -/
def pfin (l : List UInt8) : (Int × (Int × (Int × Bool))) × Int × Int :=
  if l.length = 0 then ((0, (0, (0, false))), 0, 1)
  else if 40 < l.length then ((0, (0, (0, false))), 0, 2)
  else match (List.range' 0 l.length).find? (badN l) with
    | some j => ((0, (0, (0, false))), (j : Int), 8)
    | none => if bodyN l = 0 then ((0, (0, (0, false))), 0, 6) else (ptsL l, 0, 0)
theorem no_bad {l : List UInt8} (h : (List.range' 0 l.length).find? (badN l) = none) : ∀ b ∈ l, 32 ≤ b.toNat ∧ b.toNat ≤ 126 := by
  intro b hb
  obtain ⟨j, hj, rfl⟩ := List.getElem_of_mem hb
  have := List.find?_eq_none.1 h j (by simpa using hj)
  unfold badN at this
  rw [List.getD_eq_getElem?_getD, List.getElem?_eq_getElem hj] at this
  simp at this
  omega
theorem S_empty (l : List UInt8) : strEq (S l) ByteArray.empty = decide (l.length = 0) := by
  rw [S_nil, S_eq, decide_eq_decide]
  simp

theorem f316q (l : List UInt8) : f316F 1000 (S l) = some (pfin l) := by
  unfold f316F pfin
  simp only [f338q, f334q, bind_some', S_empty, S_size]
  by_cases h0 : l.length = 0
  · rw [if_pos h0]
    simp [h0]
  · rw [if_neg h0]
    simp only [h0, decide_false, Bool.false_eq_true, if_false]
    by_cases h4 : 40 < l.length
    · have : (l.length : Int) > 40 := by omega
      rw [if_pos h4]
      simp [this]
    · have : ¬ (l.length : Int) > 40 := by omega
      rw [if_neg h4]
      simp only [this, decide_false, Bool.false_eq_true, if_false, if_true, bne_self_eq_false, cond_false]
      unfold f316l0
      have key := iter_scan (R := (Int × (Int × (Int × Bool))) × Int × Int) (Step := fun rec v => f316l0s 1000 rec (fun (w4 : ByteArray × Int × Int × Int × Int × Int × Bool × Unit) =>
      some ((w4.2.2.2.1, (w4.2.2.2.2.1, (w4.2.2.2.2.2.1, w4.2.2.2.2.2.2.1))), w4.2.1, w4.2.2.1))
    (fun (w5 : ByteArray × Int × Int × Int × Bool × Unit) =>
      Option.bind (f339F 1000 w5.1) fun y6 =>
      bif (!y6.2) then
        some (((0 : Int), ((0 : Int), ((0 : Int), false))), (0 : Int), (6 : Int))
      else
      some ((y6.1.1, (y6.1.2.1, (y6.1.2.2.1, y6.1.2.2.2))), (0 : Int), (0 : Int))) v) (fun i => (S l, (l.length : Int), (i : Int), 0, 0, 0, false, ())) (badN l) (fun j => some ((0, (0, (0, false))), (j : Int), 8)) (fin := Option.bind (f339F 1000 (S l)) fun y6 =>
      bif (!y6.2) then
        some (((0 : Int), ((0 : Int), ((0 : Int), false))), (0 : Int), (6 : Int))
      else
      some ((y6.1.1, (y6.1.2.1, (y6.1.2.2.1, y6.1.2.2.2))), (0 : Int), (0 : Int))) l.length 0 1000
        (fun rec j _ hj hp => by
          unfold f316l0s
          simp only [S_size]
          rw [bif_true (by simp; omega), bif_true (by simp; omega), S_bt l j (by omega)]
          unfold badN at hp
          by_cases c : (l.getD j 0).toNat < 32
          · rw [bif_true (decide_eq_true (by omega))]
          · rw [decide_eq_false c, Bool.false_or] at hp
            have hp := of_decide_eq_true hp
            rw [bif_false (decide_eq_false (by omega)), bif_true (idx_ok (by omega)), bif_true (decide_eq_true (by omega))])
        (fun rec j _ hj hp => by
          unfold f316l0s
          simp only [S_size]
          unfold badN at hp
          simp only [Bool.or_eq_false_iff, decide_eq_false_iff_not] at hp
          rw [bif_true (decide_eq_true (by omega)), bif_true (idx_ok (by omega)), S_bt l j (by omega), bif_false (decide_eq_false (by omega)), bif_true (idx_ok (by omega)), bif_false (decide_eq_false (by omega)), wi (by omega) (by omega)]
          rfl)
        (fun rec => by
          unfold f316l0s
          rw [bif_false (by simp)]) (by omega)
      refine key.trans ?_
      cases hf : (List.range' 0 l.length).find? (badN l) with
      | some j => rfl
      | none =>
        have hn := no_bad hf
        simp only []
        rw [f339q l (fun b hb => by have := hn b hb; omega) (by omega), bind_some']
        by_cases hb : bodyN l = 0
        · simp [hb]
        · simp [hb]
end Go.Proofs.YtecbbmokocnadaaDoor
/-! Plain laws: the parts of a word, as the reference finds them. -/
set_option linter.unusedVariables false
set_option linter.unusedSimpArgs false
namespace Go.Proofs.YtecbbmokocnadaaDoor
open Go.Ab

theorem f317p2q {R : Type} (k0 : ByteArray × Int × Int × Int × Int × Bool × Int × Int × Int × Bool × Int × Int × Int × Bool × Unit → Option R) (l : List UInt8) (i : Nat) (hi : i < l.length) (hl : l.length ≤ 900) (a1 a2 a3 : Int) (a4 : Bool) (b1 b2 b3 : Int) (b4 : Bool) (st : Int) :
    f317p2 1000 k0 (S l, (i : Int), a1, a2, a3, a4, b1, b2, b3, b4, (lastB (l.take i) : Int), st, stopI (l.take i), astB (l.take i), ()) =
      k0 (S l, (i : Int), a1, a2, a3, a4, b1, b2, b3, b4, (lastB (l.take (i + 1)) : Int), st, stopI (l.take (i + 1)), astB (l.take (i + 1)), ()) := by
  have tail : ∀ (s : Int) (a : Bool), (bif ((decide ((0 : Int) ≤ (i : Int))) && (decide ((i : Int) < ((S l).size : Int)))) then
      bif ((bt (S l) (i : Int)) == (32 : Int)) then
        k0 (S l, (i : Int), a1, a2, a3, a4, b1, b2, b3, b4, IntKind.i64.wrap ((i : Int) + 1), st, s, a, ())
      else k0 (S l, (i : Int), a1, a2, a3, a4, b1, b2, b3, b4, (lastB (l.take i) : Int), st, s, a, ())
      else none) = k0 (S l, (i : Int), a1, a2, a3, a4, b1, b2, b3, b4, (lastB (l.take (i + 1)) : Int), st, s, a, ()) := by
    intro s a
    rw [S_size, bif_true (idx_ok hi), S_bt l i hi, lastB_snoc hi, u8c32]
    by_cases c : l.getD i 0 = 32
    · rw [if_pos c, c, wi (by omega) (by omega)]
      rfl
    · rw [if_neg c, bif_false (by simpa using c)]
  unfold f317p2 f317p1
  simp only [tail]
  rw [stopI_snoc hi, astB_snoc hi]
  by_cases c : stopI (l.take i) = -1
  · rw [if_pos c, if_pos c, c, bif_true (by rfl), S_size, bif_true (idx_ok hi), S_bt l i hi, u8c48, u8c42]
    unfold isStop
    by_cases c8 : l.getD i 0 = 48
    · have e8 : (l.getD i 0 == 48) = true := by rw [c8]; rfl
      rw [e8, cond_true, bif_true (idx_ok hi)]
      rfl
    · have e8 : (l.getD i 0 == 48) = false := by simpa using c8
      rw [e8, cond_false, bif_true (idx_ok hi), Bool.false_or]
      cases e2 : (l.getD i 0 == 42) with
      | true => rw [cond_true, bif_true (idx_ok hi)]; rfl
      | false =>
        rw [cond_false]
        have ha : astB (l.take i) = false := by
          unfold astB
          unfold stopI at c
          have : ¬ stopN (l.take i) < (l.take i).length := by
            intro h
            rw [if_pos h] at c
            omega
          rw [decide_eq_false this, Bool.false_and]
        rw [ha]
        rfl
  · rw [if_neg c, if_neg c, bif_false (by simpa using c)]

theorem f317l3q {R : Type} (k0 : ByteArray × Int × Int × Int × Bool × Int × Int × Int × Bool × Int × Int × Int × Bool × Unit → Option R) (l : List UInt8) (hl : l.length ≤ 900) (a1 a2 a3 : Int) (a4 : Bool) (b1 b2 b3 : Int) (b4 : Bool) :
    f317l3 1000 k0 (S l, 0, a1, a2, a3, a4, b1, b2, b3, b4, 0, -1, -1, false, ()) = k0 (S l, a1, a2, a3, a4, b1, b2, b3, b4, (lastB l : Int), -1, stopI l, astB l, ()) := by
  unfold f317l3
  have key := iter_for (R := R) (Step := fun rec v => f317l3s 1000 rec k0 v) (fun i => (S l, (i : Int), a1, a2, a3, a4, b1, b2, b3, b4, (lastB (l.take i) : Int), -1, stopI (l.take i), astB (l.take i), ())) l.length (fin := k0 (S l, a1, a2, a3, a4, b1, b2, b3, b4, (lastB l : Int), -1, stopI l, astB l, ()))
    (fun rec i hi => by
      unfold f317l3s
      simp only [S_size]
      rw [bif_true (decide_eq_true (by omega)), f317p2q _ l i hi hl]
      simp only []
      rw [wi (x := (i : Int) + 1) (by omega) (by omega)]
      rfl)
    (fun rec => by
      unfold f317l3s
      simp only [S_size]
      rw [bif_false (decide_eq_false (by omega)), List.take_length]) (k := 1000) (by omega)
  exact key

/-- The first sign at or behind a place. -/
def stFrom (l : List UInt8) (d : Nat) : Int := match (List.range' (l.length - d) d).find? (isSt l) with | some j => (j : Int) | none => -1
theorem stFrom_succ {l : List UInt8} {d : Nat} (h : d < l.length) : stFrom l (d + 1) = if isSt l (l.length - 1 - d) = true then ((l.length - 1 - d : Nat) : Int) else stFrom l d := by
  unfold stFrom
  rw [show l.length - (d + 1) = l.length - 1 - d by omega, List.range'_succ, List.find?_cons, show l.length - 1 - d + 1 = l.length - d by omega]
  cases isSt l (l.length - 1 - d) <;> rfl

theorem f317p4q {R : Type} (k0 : ByteArray × Int × Int × Int × Int × Bool × Int × Int × Int × Bool × Unit → Option R) (l : List UInt8) (i : Nat) (hi : i < l.length) (hl : l.length ≤ 900) (a1 a2 a3 : Int) (a4 : Bool) (b1 b2 b3 : Int) (b4 : Bool) :
    f317p4 1000 k0 (S l, (i : Int), a1, a2, a3, a4, b1, b2, b3, b4, ()) = k0 (S l, (i : Int), a1, a2, a3, a4, b1, (if isSt l i = true then (i : Int) else b2), b3, b4, ()) := by
  unfold f317p4 isSt
  rw [S_size, bif_true (idx_ok hi), S_bt l i hi, u8c45, bif_true (idx_ok hi), u8c67, wi (x := (i : Int) + 1) (by omega) (by omega), show (i : Int) + 1 = ((i + 1 : Nat) : Int) by omega]
  cases h45 : (l.getD i 0 == 45) with
  | true => rfl
  | false =>
    rw [cond_false, Bool.false_or]
    cases h67 : (l.getD i 0 == 67) with
    | false => rfl
    | true =>
      rw [cond_true, Bool.true_and]
      by_cases c : i + 1 < l.length
      · rw [bif_true (decide_eq_true (by omega)), bif_true (idx_ok c), S_bt l (i + 1) c, u8c82, decide_eq_true c, Bool.true_and]
        cases l.getD (i + 1) 0 == 82 <;> rfl
      · rw [bif_false (decide_eq_false (by omega)), decide_eq_false c, Bool.false_and]
        rfl

theorem f317l5q {R : Type} (k0 : Int × Int × Int × Bool × Int × Int × Int × Bool × Unit → Option R) (l : List UInt8) (hl : l.length ≤ 900) (a1 a2 a3 : Int) (a4 : Bool) (B : Nat) (hB : B ≤ l.length) (b3 : Int) (b4 : Bool) :
    f317l5 1000 k0 (S l, (l.length : Int) - 1, a1, a2, a3, a4, (B : Int), -1, b3, b4, ()) = k0 (a1, a2, a3, a4, (B : Int), stFrom l (l.length - B), b3, b4, ()) := by
  unfold f317l5
  have key := iter_for (R := R) (Step := fun rec v => f317l5s 1000 rec k0 v) (fun d => (S l, (l.length : Int) - 1 - (d : Int), a1, a2, a3, a4, (B : Int), stFrom l d, b3, b4, ())) (l.length - B) (fin := k0 (a1, a2, a3, a4, (B : Int), stFrom l (l.length - B), b3, b4, ()))
    (fun rec d hd => by
      have e : (l.length : Int) - 1 - (d : Int) = ((l.length - 1 - d : Nat) : Int) := by omega
      unfold f317l5s
      simp only [e]
      rw [bif_true (decide_eq_true (by omega)), f317p4q _ l _ (by omega) hl, stFrom_succ (by omega)]
      simp only []
      rw [wi (x := ((l.length - 1 - d : Nat) : Int) - 1) (by omega) (by omega), show ((l.length - 1 - d : Nat) : Int) - 1 = (l.length : Int) - 1 - ((d + 1 : Nat) : Int) by omega])
    (fun rec => by
      unfold f317l5s
      simp only []
      rw [bif_false (decide_eq_false (by omega))]) (k := 1000) (by omega)
  have e0 : (l.length : Int) - 1 - ((0 : Nat) : Int) = (l.length : Int) - 1 := by omega
  rw [e0] at key
  exact key
theorem stFrom_body {l : List UInt8} : stFrom l (l.length - bodyN l) = statI l := by
  have := bodyN_le (l := l)
  unfold stFrom statI
  rw [show l.length - (l.length - bodyN l) = bodyN l by omega] <;> rfl

theorem f317q (l : List UInt8) : f317F 1000 (S l) = some (pfin l) := by
  have hb := bodyN_le (l := l)
  unfold f317F pfin
  simp only [S_empty, S_size]
  by_cases h0 : l.length = 0
  · rw [if_pos h0, bif_true (decide_eq_true h0)]
  · rw [if_neg h0, bif_false (decide_eq_false h0)]
    by_cases h4 : 40 < l.length
    · rw [if_pos h4, bif_true (decide_eq_true (by omega))]
    · rw [if_neg h4, bif_false (decide_eq_false (by omega))]
      have em : mxI (lastB l : Int) (IntKind.i64.wrap (stopI l + 1)) = (bodyN l : Int) := by
        have h1 : -1 ≤ stopI l ∧ stopI l ≤ 900 := by unfold stopI; split <;> omega
        rw [wi (by omega) (by omega)]
        unfold mxI bodyN stopI
        split <;> split <;> omega
      unfold f317l0
      refine Eq.trans (iter_scan (R := (Int × (Int × (Int × Bool))) × Int × Int) (fun i => (S l, (i : Int), 0, 0, 0, false, 0, 0, 0, false, ())) (badN l) (fun j => some ((0, (0, (0, false))), (j : Int), 8)) (fin := if bodyN l = 0 then some ((0, (0, (0, false))), 0, 6) else some (ptsL l, 0, 0)) l.length 0 1000
        (fun rec j _ hj hp => by
          unfold f317l0s
          simp only [S_size]
          rw [bif_true (decide_eq_true (by omega)), bif_true (idx_ok (by omega)), S_bt l j (by omega)]
          unfold badN at hp
          by_cases c : (l.getD j 0).toNat < 32
          · rw [bif_true (decide_eq_true (by omega))]
          · rw [decide_eq_false c, Bool.false_or] at hp
            have hp := of_decide_eq_true hp
            rw [bif_false (decide_eq_false (by omega)), bif_true (idx_ok (by omega)), bif_true (decide_eq_true (by omega))])
        (fun rec j _ hj hp => by
          unfold f317l0s
          simp only [S_size]
          unfold badN at hp
          simp only [Bool.or_eq_false_iff, decide_eq_false_iff_not] at hp
          rw [bif_true (decide_eq_true (by omega)), bif_true (idx_ok (by omega)), S_bt l j (by omega), bif_false (decide_eq_false (by omega)), bif_true (idx_ok (by omega)), bif_false (decide_eq_false (by omega)), wi (by omega) (by omega)]
          rfl)
        (fun rec => by
          unfold f317l0s
          simp only [S_size]
          rw [bif_false (decide_eq_false (by omega)), f317l3q _ l (by omega)]
          simp only [em, S_size]
          by_cases c : bodyN l = 0
          · rw [if_pos c, bif_true (by simpa using c)]
          · rw [if_neg c, bif_false (by simpa using c), wi (by omega) (by omega), f317l5q _ l (by omega) _ _ _ _ _ hb, stFrom_body]
            rfl) (by omega)) ?_
      cases hf : (List.range' 0 l.length).find? (badN l) with
      | some j => rfl
      | none =>
        simp only []
        split <;> rfl

theorem editParts (x : ByteArray) : f304F 1000 x = some true := by
  obtain ⟨l, rfl⟩ : ∃ l, x = S l := ⟨_, (S_of x).symm⟩
  unfold f304F
  simp only [awake_q, f316q, f317q, bind_some', Bool.not_true, cond_false, beq_self_eq_true, Bool.and_self, cond_true]
  cases decide (((S l).size : Int) > 100) <;> rfl
end Go.Proofs.YtecbbmokocnadaaDoor
