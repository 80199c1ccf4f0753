/- Plain laws: the word of a code: EditWordsOf. -/
import Derived.Test.YtecbbmokocnadaaDoorPB
/-! Plain laws: the word of a code. -/
set_option linter.unusedVariables false
set_option linter.unusedSimpArgs false
namespace Go.Proofs.YtecbbmokocnadaaDoor
open Go.Ab

/-- The whole digit positions of the word of a code. -/
def ptL (nz : Bool) (cut C : Nat) (fill : Int) : List UInt8 :=
  if nz = true then List.replicate cut 32 else (List.replicate cut 32).set (if C = 0 then cut - 2 else cut - 1) (if fill = 1 then 42 else 48)
def sgL (sg : Int) : List UInt8 := if sg = 1 then [67, 82] else if sg = 2 then [45] else []
def wdL (cm nz : Bool) (sg : Int) (cut C : Nat) (fill : Int) : List UInt8 :=
  wV cm true (ptL nz cut C fill) ++ (if 0 < C then 46 :: List.replicate C 32 else []) ++ sgL sg
theorem ptL_len {nz : Bool} {cut C : Nat} {fill : Int} : (ptL nz cut C fill).length = cut := by
  unfold ptL
  split <;> simp
/-- Is there no word of a code? -/
def noWd (ln sc code fill : Int) : Prop := fill = 2 ∨ 78 ≤ code ∨ (nzOf code = true ∧ (0 < sc ∨ fill = 1)) ∨ (nzOf code = false ∧ (sc = ln ∨ ln = 1))
instance {ln sc code fill : Int} : Decidable (noWd ln sc code fill) := by unfold noWd; infer_instance
/-- What both say. -/
def wdR (kd ln sc code fill : Int) : ByteArray × Int :=
  if edErr kd ln sc code fill ≠ 0 then (ByteArray.empty, edErr kd ln sc code fill)
  else if noWd ln sc code fill then (ByteArray.empty, 39)
  else (S (wdL (cmOf code) (nzOf code) (sgOf code) (ln.toNat - sc.toNat) sc.toNat fill), 0)

theorem plain78 {code : Int} (h : plainC code) : sgOf code = 3 ↔ 78 ≤ code := by
  unfold sgOf
  rcases h with rfl | rfl | rfl | rfl | rfl | rfl | rfl | rfl | rfl | rfl | rfl | rfl | rfl | rfl | rfl | rfl <;> decide
theorem sg_range {code : Int} : 0 ≤ sgOf code ∧ sgOf code ≤ 3 := by
  unfold sgOf
  repeat' split
  all_goals omega

theorem f326p0q {R : Type} (k0 : ByteArray × Int × Int × Int × Int × Int × Int × Int × Bool × Bool × Unit → Option R) (k1 : Int × Int × Int × Int × Int × Int × Bool × Bool × Unit → Option R) (kd ln sc code fill sg : Int) (cm nz : Bool) :
    f326p0 1000 k0 k1 (kd, ln, sc, code, fill, sg, cm, nz, ()) = if (nz = true ∧ (0 < sc ∨ fill = 1)) ∨ (nz = false ∧ (sc = ln ∨ ln = 1)) then k0 (ByteArray.empty, 39, kd, ln, sc, code, fill, sg, cm, nz, ()) else k1 (kd, ln, sc, code, fill, sg, cm, nz, ()) := by
  unfold f326p0
  simp only [ieq]
  cases nz with
  | true =>
    by_cases h1 : sc > 0
    · simp [h1]
    · have h1' : ¬ 0 < sc := h1
      by_cases h2 : fill = 1 <;> simp [h1', h2]
  | false =>
    by_cases h1 : sc = ln
    · simp [h1]
    · by_cases h2 : ln = 1 <;> simp [h1, h2]

theorem set_take {l : List UInt8} {i n : Nat} {b : UInt8} (h : i < n) : (l.set i b).take n = (l.take n).set i b := by
  rw [List.take_set]

theorem f326wq {kd code fill sg : Int} {cm nz : Bool} {L C : Nat} (hL : 1 ≤ L ∧ L ≤ 15) (hC : C ≤ L) (hf : fill = 0 ∨ fill = 1) (hn : ¬ ((nz = true ∧ (0 < (C : Int) ∨ fill = 1)) ∨ (nz = false ∧ ((C : Int) = (L : Int) ∨ (L : Int) = 1))))
    {R : Type} (k0 : Int × Int × Int × Int × Bool × Bool × List Int × Unit → Option R) :
    f326p2 1000 k0 (kd, (L : Int), (C : Int), code, fill, sg, cm, nz, ints (List.replicate L 32), ()) = k0 (kd, (L : Int), (C : Int), sg, cm, nz, ints (ptL nz (L - C) C fill ++ List.replicate C 32), ()) := by
  have hcat : List.replicate L (32 : UInt8) = List.replicate (L - C) 32 ++ List.replicate C 32 := by
    rw [List.replicate_append_replicate]
    congr 1
    omega
  unfold f326p2 f326p1
  cases nz with
  | true =>
    simp only [Bool.not_true, cond_false, ptL, if_true]
    rw [hcat]
  | false =>
    have hn : ¬ ((C : Int) = (L : Int) ∨ (L : Int) = 1) := fun c => hn (.inr ⟨rfl, c⟩)
    have hb : ∀ (z : Option R), (bif ((decide ((0 : Int) ≤ fill)) && (decide (fill < (2 : Int)))) then z else none) = z := by
      intro z
      rcases hf with rfl | rfl <;> rfl
    have hbt : bt (⟨#[48, 42]⟩ : ByteArray) fill = (((if fill = 1 then 42 else 48 : UInt8)).toNat : Int) := by
      rcases hf with rfl | rfl
      · exact S_bt [48, 42] 0 (by decide)
      · exact S_bt [48, 42] 1 (by decide)
    simp only [Bool.not_false, cond_true, hb, hbt, ieq, ints_len, List.length_replicate]
    by_cases h0 : C = 0
    · have e : IntKind.i64.wrap (IntKind.i64.wrap (IntKind.i64.wrap ((L : Int) - (C : Int)) - 1) - 1) = ((L - 2 : Nat) : Int) := by
        rw [wi (x := (L : Int) - (C : Int)) (by omega) (by omega), wi (x := (L : Int) - (C : Int) - 1) (by omega) (by omega), wi (by omega) (by omega)]
        omega
      rw [bif_true (decide_eq_true (by omega)), e, bif_true (idx_ok (by omega)), Int.toNat_natCast, ints_set]
      subst h0
      simp only [ptL, Nat.sub_zero, List.replicate_zero, List.append_nil, Bool.false_eq_true, if_false, if_true]
    · have e : IntKind.i64.wrap (IntKind.i64.wrap ((L : Int) - (C : Int)) - 1) = ((L - C - 1 : Nat) : Int) := by
        rw [wi (x := (L : Int) - (C : Int)) (by omega) (by omega), wi (by omega) (by omega)]
        omega
      rw [bif_false (decide_eq_false (by omega)), e, bif_true (idx_ok (by omega)), Int.toNat_natCast, ints_set]
      simp only [ptL, Bool.false_eq_true, if_false, if_neg h0]
      rw [hcat, List.set_append_left _ _ (by simp; omega)]

theorem f326q {kd ln sc code fill : Int} (h0 : 0 ≤ code) (h1 : code ≤ 255) : f326F 1000 ((kd, (ln, sc)), (code, fill)) = some (wdR kd ln sc code fill) := by
  unfold f326F wdR
  simp only [f335q h0 h1, bind_some']
  by_cases he : edErr kd ln sc code fill = 0
  · obtain ⟨ht, hk, hl, hsc, hf, hc, h78, hY⟩ := ed_ok he
    have he' : ¬ (edErr kd ln sc code fill ≠ 0) := fun c => c he
    rw [bif_false (by simpa using he), if_neg he']
    obtain ⟨sg, cm, nz, hst⟩ := f352s h0 h1
    rw [hst, bind_some']
    simp only [ieq]
    by_cases f2 : fill = 2
    · rw [bif_true (decide_eq_true f2), if_pos (show noWd ln sc code fill from Or.inl f2)]
    · rw [bif_false (decide_eq_false f2)]
      have h53 : f353F 1000 code = some (decide (code = 88 ∨ code = 89 ∨ code = 90)) := by
        unfold f353F
        rcases hc with hp | rfl | rfl | rfl
        · rcases hp with rfl | rfl | rfl | rfl | rfl | rfl | rfl | rfl | rfl | rfl | rfl | rfl | rfl | rfl | rfl | rfl <;> rfl
        · rfl
        · rfl
        · rfl
      rw [h53, bind_some']
      by_cases ho : code = 88 ∨ code = 89 ∨ code = 90
      · rw [bif_true (decide_eq_true ho), if_pos (show noWd ln sc code fill from Or.inr (Or.inl (by omega)))]
      · rw [bif_false (decide_eq_false ho)]
        have hp : plainC code := by
          rcases hc with hp | rfl | rfl | rfl
          · exact hp
          · exact absurd (Or.inl rfl) ho
          · exact absurd (Or.inr (Or.inl rfl)) ho
          · exact absurd (Or.inr (Or.inr rfl)) ho
        have hs2 := (style hp).1
        rw [hst] at hs2
        injection hs2 with hs2
        injection hs2 with e1 e2
        injection e2 with e2 e3
        subst e1 e2 e3
        have h7 := plain78 hp
        by_cases c3 : sgOf code = 3
        · rw [bif_true (decide_eq_true c3), if_pos (show noWd ln sc code fill from Or.inr (Or.inl (h7.1 c3)))]
        · have c78 : ¬ 78 ≤ code := fun c => c3 (h7.2 c)
          rw [bif_false (decide_eq_false c3), f326p0q]
          by_cases hn : (nzOf code = true ∧ (0 < sc ∨ fill = 1)) ∨ (nzOf code = false ∧ (sc = ln ∨ ln = 1))
          · rw [if_pos hn, if_pos (show noWd ln sc code fill from Or.inr (Or.inr hn))]
          · have hno : ¬ noWd ln sc code fill := by
              rintro (c | c | c)
              · exact f2 c
              · exact c78 c
              · exact hn c
            rw [if_neg hn, if_neg hno]
            obtain ⟨L, rfl⟩ : ∃ L : Nat, ln = L := ⟨ln.toNat, by omega⟩
            obtain ⟨C, rfl⟩ : ∃ C : Nat, sc = C := ⟨sc.toNat, by omega⟩
            have hf01 : fill = 0 ∨ fill = 1 := by omega
            have hw := wV_length (c := cmOf code) (m := ptL (nzOf code) (L - C) C fill) (first := true)
            rw [ptL_len] at hw
            simp only [f354q (show L ≤ 900 by omega), bind_some', S_size, List.length_replicate, bytes_ints]
            rw [bif_true (decide_eq_true (by omega)), f326wq (by omega) (by omega) hf01 hn]
            have hpl := ptL_len (nz := nzOf code) (cut := L - C) (C := C) (fill := fill)
            have ew : IntKind.i64.wrap ((L : Int) - (C : Int)) = ((L - C : Nat) : Int) := by
              rw [wi (by omega) (by omega)]
              omega
            have et : (ints (ptL (nzOf code) (L - C) C fill ++ List.replicate C 32)).take (L - C) = ints (ptL (nzOf code) (L - C) C fill) := by
              rw [ints_app, List.take_left' (by rw [ints_len, hpl])]
            have ed : (ints (ptL (nzOf code) (L - C) C fill ++ List.replicate C 32)).drop (L - C) = ints (List.replicate C 32) := by
              rw [ints_app, List.drop_left' (by rw [ints_len, hpl])]
            have hll : (ints (ptL (nzOf code) (L - C) C fill ++ List.replicate C 32)).length = L := by
              rw [ints_len, List.length_append, hpl, List.length_replicate]
              omega
            simp only [ew, Int.toNat_natCast, List.drop_zero, et, str_ints, hll, f355q _ _ (show (ptL (nzOf code) (L - C) C fill).length ≤ 100 by rw [hpl]; omega), bind_some']
            rw [bif_true (sliceB0 (by omega))]
            have hsg : ∀ (w : List UInt8), w.length ≤ 900 → (bif ((decide ((0 : Int) ≤ sgOf code)) && (decide (sgOf code < ([ByteArray.empty, (⟨#[67, 82]⟩ : ByteArray), (⟨#[45]⟩ : ByteArray)].length : Int)))) then
              bif (decide ((S w).size + ([ByteArray.empty, (⟨#[67, 82]⟩ : ByteArray), (⟨#[45]⟩ : ByteArray)].getD (Int.toNat (sgOf code)) ByteArray.empty).size ≤ 9223372036854775807)) then
              some ((S w ++ ([ByteArray.empty, (⟨#[67, 82]⟩ : ByteArray), (⟨#[45]⟩ : ByteArray)].getD (Int.toNat (sgOf code)) ByteArray.empty)), (0 : Int))
              else none
              else none) = some (S (w ++ sgL (sgOf code)), 0) := by
              intro w hwl
              have hsr := sg_range (code := code)
              have hs3 : sgOf code = 0 ∨ sgOf code = 1 ∨ sgOf code = 2 := by omega
              have e0 : ByteArray.empty = S [] := rfl
              have e1 : (⟨#[67, 82]⟩ : ByteArray) = S [67, 82] := rfl
              have e2 : (⟨#[45]⟩ : ByteArray) = S [45] := rfl
              rw [e0, e1, e2]
              rcases hs3 with h | h | h <;> rw [h]
              · have : ([S [], S [67, 82], S [45]].getD (Int.toNat 0) (S [])) = S [] := rfl
                rw [this, bif_true (by rfl), bif_true (decide_eq_true (by rw [S_size, S_size]; simp; omega)), S_app]
                rfl
              · have : ([S [], S [67, 82], S [45]].getD (Int.toNat 1) (S [])) = S [67, 82] := rfl
                rw [this, bif_true (by rfl), bif_true (decide_eq_true (by rw [S_size, S_size]; simp; omega)), S_app]
                rfl
              · have : ([S [], S [67, 82], S [45]].getD (Int.toNat 2) (S [])) = S [45] := rfl
                rw [this, bif_true (by rfl), bif_true (decide_eq_true (by rw [S_size, S_size]; simp; omega)), S_app]
                rfl
            unfold f326p3 wdL
            by_cases hC0 : 0 < C
            · have e46 : (⟨#[46]⟩ : ByteArray) = S [46] := rfl
              simp only []
              rw [bif_true (decide_eq_true (by omega))]
              simp only [hll, Int.toNat_natCast, e46, if_pos hC0]
              rw [bif_true (sliceB (by omega) (Nat.le_refl _)), List.take_of_length_le (by rw [hll]; omega), ed, str_ints]
              simp only [S_app, S_size]
              rw [bif_true (decide_eq_true (by simp; omega)), bif_true (decide_eq_true (by simp; omega))]
              have := hsg (wV (cmOf code) true (ptL (nzOf code) (L - C) C fill) ++ ([46] ++ List.replicate C 32)) (by simp; omega)
              exact this
            · simp only []
              rw [bif_false (decide_eq_false (by omega)), if_neg hC0, List.append_nil]
              exact hsg _ (by omega)
  · rw [bif_true (by simpa using he), if_pos (show edErr kd ln sc code fill ≠ 0 from he)]
end Go.Proofs.YtecbbmokocnadaaDoor
/-! Plain laws: the word of a code, as the reference makes it. -/
set_option linter.unusedVariables false
set_option linter.unusedSimpArgs false
namespace Go.Proofs.YtecbbmokocnadaaDoor
open Go.Ab

theorem f327p0q {R : Type} (k0 : ByteArray × Int × Bool × Int × Int × Int × Int × Int × Unit → Option R) (k1 : Bool × Int × Int × Int × Int × Int × Unit → Option R) (kd ln sc code fill : Int) (nz b78 : Bool) (hin : f346F 1000 (code, (⟨#[78, 79, 80, 81, 88, 89, 90]⟩ : ByteArray)) = some b78) :
    f327p0 1000 k0 k1 (nz, kd, ln, sc, code, fill, ()) = if fill = 2 ∨ b78 = true ∨ (nz = true ∧ (0 < sc ∨ fill = 1)) ∨ (nz = false ∧ (sc = ln ∨ ln = 1)) then k0 (ByteArray.empty, 39, nz, kd, ln, sc, code, fill, ()) else k1 (nz, kd, ln, sc, code, fill, ()) := by
  unfold f327p0
  simp only [ieq, hin, bind_some']
  by_cases f2 : fill = 2
  · simp [f2]
  · cases b78 with
    | true => simp [f2]
    | false =>
      cases nz with
      | true =>
        by_cases h1 : sc > 0
        · have h1' : 0 < sc := h1
          simp [f2, h1']
        · have h1' : ¬ 0 < sc := h1
          by_cases h2 : fill = 1
          · subst h2; simp [h1']
          · simp [f2, h1', h2]
      | false =>
        by_cases h1 : sc = ln
        · simp [f2, h1]
        · by_cases h2 : ln = 1
          · subst h2; simp [f2, h1]
          · simp [f2, h1, h2]

theorem any_code {code : Int} (l : List UInt8) (hl : l.length ≤ 900) : f346F 1000 (code, S l) = some (l.any fun b => (b.toNat : Int) == code) := f346q code l hl

/-- The place of the zero or star. -/
def stopAt (nz : Bool) (cut C : Nat) : Int := if nz = true then -1 else if C = 0 then (cut : Int) - 2 else (cut : Int) - 1
theorem pt_get {nz : Bool} {cut C : Nat} {fill : Int} {i : Nat} (hi : i < cut) (hc : nz = false → 2 ≤ cut ∨ 0 < C) : (ptL nz cut C fill).getD i 0 = if (i : Int) = stopAt nz cut C then (if fill = 1 then 42 else 48) else 32 := by
  unfold ptL stopAt
  cases nz with
  | true =>
    simp only [if_true]
    rw [if_neg (by omega), List.getD_eq_getElem?_getD, List.getElem?_replicate, if_pos hi]
    rfl
  | false =>
    simp only [Bool.false_eq_true, if_false]
    rw [set_getD (by simpa using hi)]
    have hr : (List.replicate cut (32 : UInt8)).getD i 0 = 32 := by
      rw [List.getD_eq_getElem?_getD, List.getElem?_replicate, if_pos hi]
      rfl
    rw [hr]
    by_cases h0 : C = 0
    · have hc := hc rfl
      simp only [if_pos h0]
      by_cases e : cut - 2 = i
      · have e2 : (i : Int) = (cut : Int) - 2 := by omega
        simp only [if_pos e, if_pos e2]
      · have e2 : ¬ (i : Int) = (cut : Int) - 2 := by omega
        simp only [if_neg e, if_neg e2]
    · simp only [if_neg h0]
      by_cases e : cut - 1 = i
      · have e2 : (i : Int) = (cut : Int) - 1 := by omega
        simp only [if_pos e, if_pos e2]
      · have e2 : ¬ (i : Int) = (cut : Int) - 1 := by omega
        simp only [if_neg e, if_neg e2]

theorem f327p3q {R : Type} (k0 : Int × Int × ByteArray × Int × Int × Int × Int × Int × Int × Unit → Option R) {kd ln sc code fill : Int} {cm : Bool} {m : List UInt8} {i : Nat} (sp : Int) (hi : i < m.length) (hm : m.length ≤ 100) (hf : fill = 0 ∨ fill = 1)
    (hcm : f346F 1000 (code, (⟨#[49, 50, 65, 66, 74, 75]⟩ : ByteArray)) = some cm) (hg : m.getD i 0 = if (i : Int) = sp then (if fill = 1 then 42 else 48) else 32) :
    f327p3 1000 k0 (sp, (m.length : Int), S (oP cm m i), (i : Int), kd, ln, sc, code, fill, ()) = k0 (sp, (m.length : Int), S (oP cm m (i + 1)), (i : Int), kd, ln, sc, code, fill, ()) := by
  have hol := oP_length cm m i
  have e44 : (⟨#[44]⟩ : ByteArray) = S [44] := rfl
  have e42 : (⟨#[42]⟩ : ByteArray) = S [42] := rfl
  have e48 : (⟨#[48]⟩ : ByteArray) = S [48] := rfl
  have e32 : (⟨#[32]⟩ : ByteArray) = S [32] := rfl
  have tail : ∀ (o : List UInt8), o.length ≤ 900 → (bif ((i : Int) == sp) then
        bif (fill == (1 : Int)) then
          bif (decide ((S o).size + (⟨#[42]⟩ : ByteArray).size ≤ 9223372036854775807)) then
          k0 (sp, (m.length : Int), (S o ++ (⟨#[42]⟩ : ByteArray)), (i : Int), kd, ln, sc, code, fill, ())
          else none
        else
        bif ((i : Int) == sp) then
          bif (decide ((S o).size + (⟨#[48]⟩ : ByteArray).size ≤ 9223372036854775807)) then
          k0 (sp, (m.length : Int), (S o ++ (⟨#[48]⟩ : ByteArray)), (i : Int), kd, ln, sc, code, fill, ())
          else none
        else
        bif (decide ((S o).size + (⟨#[32]⟩ : ByteArray).size ≤ 9223372036854775807)) then
        k0 (sp, (m.length : Int), (S o ++ (⟨#[32]⟩ : ByteArray)), (i : Int), kd, ln, sc, code, fill, ())
        else none
      else
      bif ((i : Int) == sp) then
        bif (decide ((S o).size + (⟨#[48]⟩ : ByteArray).size ≤ 9223372036854775807)) then
        k0 (sp, (m.length : Int), (S o ++ (⟨#[48]⟩ : ByteArray)), (i : Int), kd, ln, sc, code, fill, ())
        else none
      else
      bif (decide ((S o).size + (⟨#[32]⟩ : ByteArray).size ≤ 9223372036854775807)) then
      k0 (sp, (m.length : Int), (S o ++ (⟨#[32]⟩ : ByteArray)), (i : Int), kd, ln, sc, code, fill, ())
      else none) = k0 (sp, (m.length : Int), S (o ++ [m.getD i 0]), (i : Int), kd, ln, sc, code, fill, ()) := by
    intro o ho
    rw [hg]
    simp only [ieq, e42, e48, e32, S_app, S_size, List.length_cons, List.length_nil]
    have hb : decide (o.length + (0 + 1) ≤ 9223372036854775807) = true := decide_eq_true (by omega)
    simp only [hb, cond_true]
    by_cases c : (i : Int) = sp
    · simp only [decide_eq_true c, if_pos c, cond_true]
      rcases hf with rfl | rfl
      · rfl
      · rfl
    · simp only [decide_eq_false c, if_neg c, cond_false]
  unfold f327p3 f327p2
  simp only [hcm, bind_some', mod3 (show i ≤ m.length by omega) (by omega)]
  simp only [oP]
  cases cm with
  | false =>
    rw [cond_false]
    simp only [Bool.false_and, Bool.false_eq_true, if_false, List.nil_append]
    exact tail _ (by omega)
  | true =>
    rw [cond_true]
    by_cases h0 : 0 < i
    · rw [bif_true (decide_eq_true (by omega))]
      simp only [h0, decide_true, Bool.and_self, Bool.true_and]
      by_cases h3 : ((m.length - i) % 3 == 0) = true
      · rw [bif_true h3, if_pos h3]
        simp only [e44, S_app, S_size]
        rw [bif_true (decide_eq_true (by simp; omega))]
        have := tail (oP true m i ++ [44]) (by simp; omega)
        rw [List.append_assoc] at this
        exact this
      · rw [bif_false (by simpa using h3), if_neg h3, List.nil_append]
        exact tail _ (by omega)
    · have hi0 : i = 0 := by omega
      rw [bif_false (decide_eq_false (by omega))]
      simp only [h0, decide_false, Bool.and_false, Bool.false_and, Bool.false_eq_true, if_false, List.nil_append]
      exact tail _ (by omega)

theorem f327q {kd ln sc code fill : Int} (h0 : 0 ≤ code) (h1 : code ≤ 255) : f327F 1000 ((kd, (ln, sc)), (code, fill)) = some (wdR kd ln sc code fill) := by
  unfold f327F wdR
  simp only [f321q h0 h1, bind_some']
  by_cases he : edErr kd ln sc code fill = 0
  · obtain ⟨ht, hk, hl, hsc, hf, hc, h78, hY⟩ := ed_ok he
    have he' : ¬ (edErr kd ln sc code fill ≠ 0) := fun c => c he
    rw [bif_false (by simpa using he), if_neg he']
    have eZ : (⟨#[50, 52, 66, 68, 75, 77]⟩ : ByteArray) = S [50, 52, 66, 68, 75, 77] := rfl
    have eN : (⟨#[78, 79, 80, 81, 88, 89, 90]⟩ : ByteArray) = S [78, 79, 80, 81, 88, 89, 90] := rfl
    have eC : (⟨#[49, 50, 65, 66, 74, 75]⟩ : ByteArray) = S [49, 50, 65, 66, 74, 75] := rfl
    have eA : (⟨#[65, 66, 67, 68]⟩ : ByteArray) = S [65, 66, 67, 68] := rfl
    have eJ : (⟨#[74, 75, 76, 77]⟩ : ByteArray) = S [74, 75, 76, 77] := rfl
    have hN : f346F 1000 (code, (⟨#[78, 79, 80, 81, 88, 89, 90]⟩ : ByteArray)) = some (decide (78 ≤ code)) := by
      rw [eN, f346q _ _ (by simp)]
      rcases hc with hp | rfl | rfl | rfl
      · rcases hp with rfl | rfl | rfl | rfl | rfl | rfl | rfl | rfl | rfl | rfl | rfl | rfl | rfl | rfl | rfl | rfl <;> decide
      · decide
      · decide
      · decide
    obtain ⟨bz, hbz⟩ : ∃ b, f346F 1000 (code, (⟨#[50, 52, 66, 68, 75, 77]⟩ : ByteArray)) = some b := ⟨_, by rw [eZ]; exact f346q _ _ (by simp)⟩
    rw [hbz, bind_some', f327p0q _ _ _ _ _ _ _ _ _ hN]
    by_cases c78 : 78 ≤ code
    · rw [if_pos (Or.inr (Or.inl (decide_eq_true c78))), if_pos (show noWd ln sc code fill from Or.inr (Or.inl c78))]
    · have hp : plainC code := by
        rcases hc with hp | rfl | rfl | rfl
        · exact hp
        · exact absurd (by decide) c78
        · exact absurd (by decide) c78
        · exact absurd (by decide) c78
      have hb : bz = nzOf code := by
        rw [eZ, f346q _ _ (by simp)] at hbz
        injection hbz with hbz
        rw [← hbz]
        rcases hp with rfl | rfl | rfl | rfl | rfl | rfl | rfl | rfl | rfl | rfl | rfl | rfl | rfl | rfl | rfl | rfl <;> first | decide | exact absurd (by decide) c78
      subst hb
      have hiff : (fill = 2 ∨ decide (78 ≤ code) = true ∨ (nzOf code = true ∧ (0 < sc ∨ fill = 1)) ∨ (nzOf code = false ∧ (sc = ln ∨ ln = 1))) ↔ noWd ln sc code fill := by
        unfold noWd
        rw [decide_eq_true_eq]
      simp only [hiff]
      by_cases hn : noWd ln sc code fill
      · rw [if_pos hn, if_pos hn]
      · rw [if_neg hn, if_neg hn]
        obtain ⟨L, rfl⟩ : ∃ L : Nat, ln = L := ⟨ln.toNat, by omega⟩
        obtain ⟨C, rfl⟩ : ∃ C : Nat, sc = C := ⟨sc.toNat, by omega⟩
        have hf01 : fill = 0 ∨ fill = 1 := by
          have : fill ≠ 2 := fun c => hn (Or.inl c)
          omega
        have hnz : nzOf code = false → ¬ (C = L ∨ L = 1) := fun c d => hn (Or.inr (Or.inr (Or.inr ⟨c, by omega⟩)))
        have hC : f346F 1000 (code, (⟨#[49, 50, 65, 66, 74, 75]⟩ : ByteArray)) = some (cmOf code) := by
          rw [eC, f346q _ _ (by simp)]
          rcases hp with rfl | rfl | rfl | rfl | rfl | rfl | rfl | rfl | rfl | rfl | rfl | rfl | rfl | rfl | rfl | rfl <;> first | decide | exact absurd (by decide) c78
        have hA : f346F 1000 (code, (⟨#[65, 66, 67, 68]⟩ : ByteArray)) = some (decide (sgOf code = 1)) := by
          rw [eA, f346q _ _ (by simp)]
          rcases hp with rfl | rfl | rfl | rfl | rfl | rfl | rfl | rfl | rfl | rfl | rfl | rfl | rfl | rfl | rfl | rfl <;> decide
        have hJ : f346F 1000 (code, (⟨#[74, 75, 76, 77]⟩ : ByteArray)) = some (decide (sgOf code = 2)) := by
          rw [eJ, f346q _ _ (by simp)]
          rcases hp with rfl | rfl | rfl | rfl | rfl | rfl | rfl | rfl | rfl | rfl | rfl | rfl | rfl | rfl | rfl | rfl <;> decide
        have ew : IntKind.i64.wrap ((L : Int) - (C : Int)) = ((L - C : Nat) : Int) := by
          rw [wi (by omega) (by omega)]
          omega
        have hpl := ptL_len (nz := nzOf code) (cut := L - C) (C := C) (fill := fill)
        have hst : ∀ {R : Type} (k0 : Int × Int × Int × Int × Int × Int × Int × Unit → Option R), f327p1 1000 k0 (nzOf code, -1, ((L - C : Nat) : Int), kd, (L : Int), (C : Int), code, fill, ()) = k0 (stopAt (nzOf code) (L - C) C, ((L - C : Nat) : Int), kd, (L : Int), (C : Int), code, fill, ()) := by
          intro R k0
          unfold f327p1 stopAt
          simp only [f69q, bind_some', ieq]
          cases hz : nzOf code with
          | true => rfl
          | false =>
            have := hnz hz
            simp only [Bool.not_false, cond_true, Bool.false_eq_true, if_false]
            by_cases c0 : C = 0
            · rw [if_pos (decide_eq_true (by omega)), if_pos c0, wi (x := ((L - C : Nat) : Int) - 1) (by omega) (by omega), wi (by omega) (by omega)]
              congr 2
              omega
            · rw [if_neg (by simpa using c0), if_neg c0, wi (x := ((L - C : Nat) : Int) - 1) (by omega) (by omega), wi (by omega) (by omega)]
              congr 2
              omega
        have hloop : ∀ {R : Type} (k0 : ByteArray × Int × Int × Int × Int × Int × Unit → Option R), f327l4 1000 k0 (stopAt (nzOf code) (L - C) C, ((L - C : Nat) : Int), ByteArray.empty, 0, kd, (L : Int), (C : Int), code, fill, ()) = k0 (S (wV (cmOf code) true (ptL (nzOf code) (L - C) C fill)), kd, (L : Int), (C : Int), code, fill, ()) := by
          intro R k0
          unfold f327l4
          have := iter_for (R := R) (Step := fun rec v => f327l4s 1000 rec k0 v) (fun i => (stopAt (nzOf code) (L - C) C, ((ptL (nzOf code) (L - C) C fill).length : Int), S (oP (cmOf code) (ptL (nzOf code) (L - C) C fill) i), (i : Int), kd, (L : Int), (C : Int), code, fill, ())) (L - C) (fin := k0 (S (wV (cmOf code) true (ptL (nzOf code) (L - C) C fill)), kd, (L : Int), (C : Int), code, fill, ()))
            (fun rec i hi => by
              unfold f327l4s
              simp only []
              rw [bif_true (decide_eq_true (by rw [hpl]; omega)), f327p3q _ _ (by omega) (by omega) hf01 hC (pt_get hi (fun c => by have := hnz c; omega)), wi (x := (i : Int) + 1) (by omega) (by omega)]
              rfl)
            (fun rec => by
              unfold f327l4s
              simp only []
              have := oP_all (cmOf code) (ptL (nzOf code) (L - C) C fill)
              rw [hpl] at this
              rw [bif_false (decide_eq_false (by rw [hpl]; omega)), this]) (k := 1000) (by omega)
          rw [hpl] at this
          exact this
        simp only [ew, hst, hloop]
        have hw := wV_length (c := cmOf code) (m := ptL (nzOf code) (L - C) C fill) (first := true)
        rw [hpl] at hw
        have hsg : ∀ (w : List UInt8), w.length ≤ 900 → f327p6 1000 (fun (w16 : ByteArray × Int × Int × Unit) =>
                      f327p7 1000
                        (fun (w18 : ByteArray × Int × Int × Unit) =>
                          some (w18.1, (0 : Int)))
                        (w16.1, w16.2.1, w16.2.2.1, ())) (S w, code, fill, ()) = some (S (w ++ sgL (sgOf code)), 0) := by
          intro w hwl
          have e1 : (⟨#[67, 82]⟩ : ByteArray) = S [67, 82] := rfl
          have e2 : (⟨#[45]⟩ : ByteArray) = S [45] := rfl
          unfold f327p6 f327p7 sgL
          simp only [hA, hJ, bind_some', e1, e2, S_app, S_size]
          by_cases c1 : sgOf code = 1
          · rw [bif_true (decide_eq_true c1), bif_true (decide_eq_true (by simp; omega)), bif_false (decide_eq_false (by omega)), if_pos c1]
          · rw [bif_false (decide_eq_false c1), if_neg c1]
            by_cases c2 : sgOf code = 2
            · rw [bif_true (decide_eq_true c2), bif_true (decide_eq_true (by simp; omega)), if_pos c2]
            · rw [bif_false (decide_eq_false c2), if_neg c2, List.append_nil]
        unfold f327p5 wdL
        simp only [Int.toNat_natCast]
        by_cases hC0 : 0 < C
        · have e46 : (⟨#[46]⟩ : ByteArray) = S [46] := rfl
          have hb32 := f72q (c := 32) (n := C) (by omega)
          have hb32 : f72F 1000 (32, (C : Int)) = some (S (List.replicate C 32)) := hb32
          rw [bif_true (decide_eq_true (by omega)), if_pos hC0, hb32]
          simp only [e46, S_app, S_size, bind_some']
          rw [bif_true (decide_eq_true (by simp; omega)), bif_true (decide_eq_true (by simp; omega))]
          have := hsg (wV (cmOf code) true (ptL (nzOf code) (L - C) C fill) ++ [46] ++ List.replicate C 32) (by simp; omega)
          rw [List.append_assoc (wV _ _ _)] at this ⊢
          exact this
        · rw [bif_false (decide_eq_false (by omega)), if_neg hC0, List.append_nil]
          exact hsg _ (by omega)
  · rw [bif_true (by simpa using he), if_pos (show edErr kd ln sc code fill ≠ 0 from he)]

theorem editWordsOf (x : (Int × (Int × Int)) × (Int × Int)) (hc : 0 ≤ x.2.1 ∧ x.2.1 ≤ 255) : f308F 1000 x = some true := by
  obtain ⟨⟨kd, ln, sc⟩, ⟨code, fill⟩⟩ := x
  unfold f308F
  simp only [awake_q, f326q hc.1 hc.2, f327q hc.1 hc.2, bind_some', Bool.not_true, cond_false, beq_self_eq_true, cond_true, strEq_self]
end Go.Proofs.YtecbbmokocnadaaDoor
