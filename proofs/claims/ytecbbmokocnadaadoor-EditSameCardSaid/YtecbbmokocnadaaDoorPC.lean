/- Plain laws: the word of a code: EditWordsOf. -/
import Derived.Test.YtecbbmokocnadaaDoorPB
import Derived.Test.YtecbbmokocnadaaDoorPA
/-! Plain laws: the word of a code. -/
set_option linter.unusedVariables false
set_option linter.unusedSimpArgs false
namespace Go.Proofs.YtecbbmokocnadaaDoor
open Go.Ab

/-- The whole digit positions of the word of a code. -/
def ptL (nz : Bool) (cut C : Nat) (fill : Int) : List UInt8 :=
  if nz = true then List.replicate cut 32 else (List.replicate cut 32).set (if C = 0 then cut - 2 else cut - 1) (if fill = 1 then 42 else 48)
def sgL (sg : Int) : List UInt8 := if sg = 1 then [67, 82] else if sg = 2 then [45] else []
def wdL (cm nz : Bool) (sg : Int) (cut C : Nat) (fill : Int) : List UInt8 :=
  wV cm true (ptL nz cut C fill) ++ (if 0 < C then 46 :: List.replicate C 32 else []) ++ sgL sg
theorem ptL_len {nz : Bool} {cut C : Nat} {fill : Int} : (ptL nz cut C fill).length = cut := by
  unfold ptL
  split <;> simp
/-- Is there no word of a code? -/
def noWd (ln sc code fill : Int) : Prop := fill = 2 ∨ 78 ≤ code ∨ (nzOf code = true ∧ (0 < sc ∨ fill = 1)) ∨ (nzOf code = false ∧ (sc = ln ∨ ln = 1))
instance {ln sc code fill : Int} : Decidable (noWd ln sc code fill) := by unfold noWd; infer_instance
/-- What both say. -/
def wdR (kd ln sc code fill : Int) : ByteArray × Int :=
  if edErr kd ln sc code fill ≠ 0 then (ByteArray.empty, edErr kd ln sc code fill)
  else if noWd ln sc code fill then (ByteArray.empty, 39)
  else (S (wdL (cmOf code) (nzOf code) (sgOf code) (ln.toNat - sc.toNat) sc.toNat fill), 0)

theorem plain78 {code : Int} (h : plainC code) : sgOf code = 3 ↔ 78 ≤ code := by
  unfold sgOf
  rcases h with rfl | rfl | rfl | rfl | rfl | rfl | rfl | rfl | rfl | rfl | rfl | rfl | rfl | rfl | rfl | rfl <;> decide
theorem sg_range {code : Int} : 0 ≤ sgOf code ∧ sgOf code ≤ 3 := by
  unfold sgOf
  repeat' split
  all_goals omega

theorem f326p0q {R : Type} (k0 : ByteArray × Int × Int × Int × Int × Int × Int × Int × Bool × Bool × Unit → Option R) (k1 : Int × Int × Int × Int × Int × Int × Bool × Bool × Unit → Option R) (kd ln sc code fill sg : Int) (cm nz : Bool) :
    f326p0 1000 k0 k1 (kd, ln, sc, code, fill, sg, cm, nz, ()) = if (nz = true ∧ (0 < sc ∨ fill = 1)) ∨ (nz = false ∧ (sc = ln ∨ ln = 1)) then k0 (ByteArray.empty, 39, kd, ln, sc, code, fill, sg, cm, nz, ()) else k1 (kd, ln, sc, code, fill, sg, cm, nz, ()) := by
  unfold f326p0
  simp only [ieq]
  cases nz with
  | true =>
    by_cases h1 : sc > 0
    · simp [h1]
    · have h1' : ¬ 0 < sc := h1
      by_cases h2 : fill = 1 <;> simp [h1', h2]
  | false =>
    by_cases h1 : sc = ln
    · simp [h1]
    · by_cases h2 : ln = 1 <;> simp [h1, h2]

theorem set_take {l : List UInt8} {i n : Nat} {b : UInt8} (h : i < n) : (l.set i b).take n = (l.take n).set i b := by
  rw [List.take_set]

theorem f326wq {kd code fill sg : Int} {cm nz : Bool} {L C : Nat} (hL : 1 ≤ L ∧ L ≤ 15) (hC : C ≤ L) (hf : fill = 0 ∨ fill = 1) (hn : ¬ ((nz = true ∧ (0 < (C : Int) ∨ fill = 1)) ∨ (nz = false ∧ ((C : Int) = (L : Int) ∨ (L : Int) = 1))))
    {R : Type} (k0 : Int × Int × Int × Int × Bool × Bool × List Int × Unit → Option R) :
    f326p2 1000 k0 (kd, (L : Int), (C : Int), code, fill, sg, cm, nz, ints (List.replicate L 32), ()) = k0 (kd, (L : Int), (C : Int), sg, cm, nz, ints (ptL nz (L - C) C fill ++ List.replicate C 32), ()) := by
  have hcat : List.replicate L (32 : UInt8) = List.replicate (L - C) 32 ++ List.replicate C 32 := by
    rw [List.replicate_append_replicate]
    congr 1
    omega
  unfold f326p2 f326p1
  cases nz with
  | true =>
    simp only [Bool.not_true, cond_false, ptL, if_true]
    rw [hcat]
  | false =>
    have hn : ¬ ((C : Int) = (L : Int) ∨ (L : Int) = 1) := fun c => hn (.inr ⟨rfl, c⟩)
    have hb : ∀ (z : Option R), (bif ((decide ((0 : Int) ≤ fill)) && (decide (fill < (2 : Int)))) then z else none) = z := by
      intro z
      rcases hf with rfl | rfl <;> rfl
    have hbt : bt (⟨#[48, 42]⟩ : ByteArray) fill = (((if fill = 1 then 42 else 48 : UInt8)).toNat : Int) := by
      rcases hf with rfl | rfl
      · exact S_bt [48, 42] 0 (by decide)
      · exact S_bt [48, 42] 1 (by decide)
    simp only [Bool.not_false, cond_true, hb, hbt, ieq, ints_len, List.length_replicate]
    by_cases h0 : C = 0
    · have e : IntKind.i64.wrap (IntKind.i64.wrap (IntKind.i64.wrap ((L : Int) - (C : Int)) - 1) - 1) = ((L - 2 : Nat) : Int) := by
        rw [wi (x := (L : Int) - (C : Int)) (by omega) (by omega), wi (x := (L : Int) - (C : Int) - 1) (by omega) (by omega), wi (by omega) (by omega)]
        omega
      rw [bif_true (decide_eq_true (by omega)), e, bif_true (idx_ok (by omega)), Int.toNat_natCast, ints_set]
      subst h0
      simp only [ptL, Nat.sub_zero, List.replicate_zero, List.append_nil, Bool.false_eq_true, if_false, if_true]
    · have e : IntKind.i64.wrap (IntKind.i64.wrap ((L : Int) - (C : Int)) - 1) = ((L - C - 1 : Nat) : Int) := by
        rw [wi (x := (L : Int) - (C : Int)) (by omega) (by omega), wi (by omega) (by omega)]
        omega
      rw [bif_false (decide_eq_false (by omega)), e, bif_true (idx_ok (by omega)), Int.toNat_natCast, ints_set]
      simp only [ptL, Bool.false_eq_true, if_false, if_neg h0]
      rw [hcat, List.set_append_left _ _ (by simp; omega)]

theorem f326q {kd ln sc code fill : Int} (h0 : 0 ≤ code) (h1 : code ≤ 255) : f326F 1000 ((kd, (ln, sc)), (code, fill)) = some (wdR kd ln sc code fill) := by
  unfold f326F wdR
  simp only [f335q h0 h1, bind_some']
  by_cases he : edErr kd ln sc code fill = 0
  · obtain ⟨ht, hk, hl, hsc, hf, hc, h78, hY⟩ := ed_ok he
    have he' : ¬ (edErr kd ln sc code fill ≠ 0) := fun c => c he
    rw [bif_false (by simpa using he), if_neg he']
    obtain ⟨sg, cm, nz, hst⟩ := f352s h0 h1
    rw [hst, bind_some']
    simp only [ieq]
    by_cases f2 : fill = 2
    · rw [bif_true (decide_eq_true f2), if_pos (show noWd ln sc code fill from Or.inl f2)]
    · rw [bif_false (decide_eq_false f2)]
      have h53 : f353F 1000 code = some (decide (code = 88 ∨ code = 89 ∨ code = 90)) := by
        unfold f353F
        rcases hc with hp | rfl | rfl | rfl
        · rcases hp with rfl | rfl | rfl | rfl | rfl | rfl | rfl | rfl | rfl | rfl | rfl | rfl | rfl | rfl | rfl | rfl <;> rfl
        · rfl
        · rfl
        · rfl
      rw [h53, bind_some']
      by_cases ho : code = 88 ∨ code = 89 ∨ code = 90
      · rw [bif_true (decide_eq_true ho), if_pos (show noWd ln sc code fill from Or.inr (Or.inl (by omega)))]
      · rw [bif_false (decide_eq_false ho)]
        have hp : plainC code := by
          rcases hc with hp | rfl | rfl | rfl
          · exact hp
          · exact absurd (Or.inl rfl) ho
          · exact absurd (Or.inr (Or.inl rfl)) ho
          · exact absurd (Or.inr (Or.inr rfl)) ho
        have hs2 := (style hp).1
        rw [hst] at hs2
        injection hs2 with hs2
        injection hs2 with e1 e2
        injection e2 with e2 e3
        subst e1 e2 e3
        have h7 := plain78 hp
        by_cases c3 : sgOf code = 3
        · rw [bif_true (decide_eq_true c3), if_pos (show noWd ln sc code fill from Or.inr (Or.inl (h7.1 c3)))]
        · have c78 : ¬ 78 ≤ code := fun c => c3 (h7.2 c)
          rw [bif_false (decide_eq_false c3), f326p0q]
          by_cases hn : (nzOf code = true ∧ (0 < sc ∨ fill = 1)) ∨ (nzOf code = false ∧ (sc = ln ∨ ln = 1))
          · rw [if_pos hn, if_pos (show noWd ln sc code fill from Or.inr (Or.inr hn))]
          · have hno : ¬ noWd ln sc code fill := by
              rintro (c | c | c)
              · exact f2 c
              · exact c78 c
              · exact hn c
            rw [if_neg hn, if_neg hno]
            obtain ⟨L, rfl⟩ : ∃ L : Nat, ln = L := ⟨ln.toNat, by omega⟩
            obtain ⟨C, rfl⟩ : ∃ C : Nat, sc = C := ⟨sc.toNat, by omega⟩
            have hf01 : fill = 0 ∨ fill = 1 := by omega
            have hw := wV_length (c := cmOf code) (m := ptL (nzOf code) (L - C) C fill) (first := true)
            rw [ptL_len] at hw
            simp only [f354q (show L ≤ 900 by omega), bind_some', S_size, List.length_replicate, bytes_ints]
            rw [bif_true (decide_eq_true (by omega)), f326wq (by omega) (by omega) hf01 hn]
            have hpl := ptL_len (nz := nzOf code) (cut := L - C) (C := C) (fill := fill)
            have ew : IntKind.i64.wrap ((L : Int) - (C : Int)) = ((L - C : Nat) : Int) := by
              rw [wi (by omega) (by omega)]
              omega
            have et : (ints (ptL (nzOf code) (L - C) C fill ++ List.replicate C 32)).take (L - C) = ints (ptL (nzOf code) (L - C) C fill) := by
              rw [ints_app, List.take_left' (by rw [ints_len, hpl])]
            have ed : (ints (ptL (nzOf code) (L - C) C fill ++ List.replicate C 32)).drop (L - C) = ints (List.replicate C 32) := by
              rw [ints_app, List.drop_left' (by rw [ints_len, hpl])]
            have hll : (ints (ptL (nzOf code) (L - C) C fill ++ List.replicate C 32)).length = L := by
              rw [ints_len, List.length_append, hpl, List.length_replicate]
              omega
            simp only [ew, Int.toNat_natCast, List.drop_zero, et, str_ints, hll, f355q _ _ (show (ptL (nzOf code) (L - C) C fill).length ≤ 100 by rw [hpl]; omega), bind_some']
            rw [bif_true (sliceB0 (by omega))]
            have hsg : ∀ (w : List UInt8), w.length ≤ 900 → (bif ((decide ((0 : Int) ≤ sgOf code)) && (decide (sgOf code < ([ByteArray.empty, (⟨#[67, 82]⟩ : ByteArray), (⟨#[45]⟩ : ByteArray)].length : Int)))) then
              bif (decide ((S w).size + ([ByteArray.empty, (⟨#[67, 82]⟩ : ByteArray), (⟨#[45]⟩ : ByteArray)].getD (Int.toNat (sgOf code)) ByteArray.empty).size ≤ 9223372036854775807)) then
              some ((S w ++ ([ByteArray.empty, (⟨#[67, 82]⟩ : ByteArray), (⟨#[45]⟩ : ByteArray)].getD (Int.toNat (sgOf code)) ByteArray.empty)), (0 : Int))
              else none
              else none) = some (S (w ++ sgL (sgOf code)), 0) := by
              intro w hwl
              have hsr := sg_range (code := code)
              have hs3 : sgOf code = 0 ∨ sgOf code = 1 ∨ sgOf code = 2 := by omega
              have e0 : ByteArray.empty = S [] := rfl
              have e1 : (⟨#[67, 82]⟩ : ByteArray) = S [67, 82] := rfl
              have e2 : (⟨#[45]⟩ : ByteArray) = S [45] := rfl
              rw [e0, e1, e2]
              rcases hs3 with h | h | h <;> rw [h]
              · have : ([S [], S [67, 82], S [45]].getD (Int.toNat 0) (S [])) = S [] := rfl
                rw [this, bif_true (by rfl), bif_true (decide_eq_true (by rw [S_size, S_size]; simp; omega)), S_app]
                rfl
              · have : ([S [], S [67, 82], S [45]].getD (Int.toNat 1) (S [])) = S [67, 82] := rfl
                rw [this, bif_true (by rfl), bif_true (decide_eq_true (by rw [S_size, S_size]; simp; omega)), S_app]
                rfl
              · have : ([S [], S [67, 82], S [45]].getD (Int.toNat 2) (S [])) = S [45] := rfl
                rw [this, bif_true (by rfl), bif_true (decide_eq_true (by rw [S_size, S_size]; simp; omega)), S_app]
                rfl
            unfold f326p3 wdL
            by_cases hC0 : 0 < C
            · have e46 : (⟨#[46]⟩ : ByteArray) = S [46] := rfl
              simp only []
              rw [bif_true (decide_eq_true (by omega))]
              simp only [hll, Int.toNat_natCast, e46, if_pos hC0]
              rw [bif_true (sliceB (by omega) (Nat.le_refl _)), List.take_of_length_le (by rw [hll]; omega), ed, str_ints]
              simp only [S_app, S_size]
              rw [bif_true (decide_eq_true (by simp; omega)), bif_true (decide_eq_true (by simp; omega))]
              have := hsg (wV (cmOf code) true (ptL (nzOf code) (L - C) C fill) ++ ([46] ++ List.replicate C 32)) (by simp; omega)
              exact this
            · simp only []
              rw [bif_false (decide_eq_false (by omega)), if_neg hC0, List.append_nil]
              exact hsg _ (by omega)
  · rw [bif_true (by simpa using he), if_pos (show edErr kd ln sc code fill ≠ 0 from he)]
end Go.Proofs.YtecbbmokocnadaaDoor
/-! Plain laws: the word of a code, as the reference makes it. -/
set_option linter.unusedVariables false
set_option linter.unusedSimpArgs false
namespace Go.Proofs.YtecbbmokocnadaaDoor
open Go.Ab

theorem f327p0q {R : Type} (k0 : ByteArray × Int × Bool × Int × Int × Int × Int × Int × Unit → Option R) (k1 : Bool × Int × Int × Int × Int × Int × Unit → Option R) (kd ln sc code fill : Int) (nz b78 : Bool) (hin : f346F 1000 (code, (⟨#[78, 79, 80, 81, 88, 89, 90]⟩ : ByteArray)) = some b78) :
    f327p0 1000 k0 k1 (nz, kd, ln, sc, code, fill, ()) = if fill = 2 ∨ b78 = true ∨ (nz = true ∧ (0 < sc ∨ fill = 1)) ∨ (nz = false ∧ (sc = ln ∨ ln = 1)) then k0 (ByteArray.empty, 39, nz, kd, ln, sc, code, fill, ()) else k1 (nz, kd, ln, sc, code, fill, ()) := by
  unfold f327p0
  simp only [ieq, hin, bind_some']
  by_cases f2 : fill = 2
  · simp [f2]
  · cases b78 with
    | true => simp [f2]
    | false =>
      cases nz with
      | true =>
        by_cases h1 : sc > 0
        · have h1' : 0 < sc := h1
          simp [f2, h1']
        · have h1' : ¬ 0 < sc := h1
          by_cases h2 : fill = 1
          · subst h2; simp [h1']
          · simp [f2, h1', h2]
      | false =>
        by_cases h1 : sc = ln
        · simp [f2, h1]
        · by_cases h2 : ln = 1
          · subst h2; simp [f2, h1]
          · simp [f2, h1, h2]

theorem any_code {code : Int} (l : List UInt8) (hl : l.length ≤ 900) : f346F 1000 (code, S l) = some (l.any fun b => (b.toNat : Int) == code) := f346q code l hl

/-- The place of the zero or star. -/
def stopAt (nz : Bool) (cut C : Nat) : Int := if nz = true then -1 else if C = 0 then (cut : Int) - 2 else (cut : Int) - 1
theorem pt_get {nz : Bool} {cut C : Nat} {fill : Int} {i : Nat} (hi : i < cut) (hc : nz = false → 2 ≤ cut ∨ 0 < C) : (ptL nz cut C fill).getD i 0 = if (i : Int) = stopAt nz cut C then (if fill = 1 then 42 else 48) else 32 := by
  unfold ptL stopAt
  cases nz with
  | true =>
    simp only [if_true]
    rw [if_neg (by omega), List.getD_eq_getElem?_getD, List.getElem?_replicate, if_pos hi]
    rfl
  | false =>
    simp only [Bool.false_eq_true, if_false]
    rw [set_getD (by simpa using hi)]
    have hr : (List.replicate cut (32 : UInt8)).getD i 0 = 32 := by
      rw [List.getD_eq_getElem?_getD, List.getElem?_replicate, if_pos hi]
      rfl
    rw [hr]
    by_cases h0 : C = 0
    · have hc := hc rfl
      simp only [if_pos h0]
      by_cases e : cut - 2 = i
      · have e2 : (i : Int) = (cut : Int) - 2 := by omega
        simp only [if_pos e, if_pos e2]
      · have e2 : ¬ (i : Int) = (cut : Int) - 2 := by omega
        simp only [if_neg e, if_neg e2]
    · simp only [if_neg h0]
      by_cases e : cut - 1 = i
      · have e2 : (i : Int) = (cut : Int) - 1 := by omega
        simp only [if_pos e, if_pos e2]
      · have e2 : ¬ (i : Int) = (cut : Int) - 1 := by omega
        simp only [if_neg e, if_neg e2]

theorem f327p3q {R : Type} (k0 : Int × Int × ByteArray × Int × Int × Int × Int × Int × Int × Unit → Option R) {kd ln sc code fill : Int} {cm : Bool} {m : List UInt8} {i : Nat} (sp : Int) (hi : i < m.length) (hm : m.length ≤ 100) (hf : fill = 0 ∨ fill = 1)
    (hcm : f346F 1000 (code, (⟨#[49, 50, 65, 66, 74, 75]⟩ : ByteArray)) = some cm) (hg : m.getD i 0 = if (i : Int) = sp then (if fill = 1 then 42 else 48) else 32) :
    f327p3 1000 k0 (sp, (m.length : Int), S (oP cm m i), (i : Int), kd, ln, sc, code, fill, ()) = k0 (sp, (m.length : Int), S (oP cm m (i + 1)), (i : Int), kd, ln, sc, code, fill, ()) := by
  have hol := oP_length cm m i
  have e44 : (⟨#[44]⟩ : ByteArray) = S [44] := rfl
  have e42 : (⟨#[42]⟩ : ByteArray) = S [42] := rfl
  have e48 : (⟨#[48]⟩ : ByteArray) = S [48] := rfl
  have e32 : (⟨#[32]⟩ : ByteArray) = S [32] := rfl
  have tail : ∀ (o : List UInt8), o.length ≤ 900 → (bif ((i : Int) == sp) then
        bif (fill == (1 : Int)) then
          bif (decide ((S o).size + (⟨#[42]⟩ : ByteArray).size ≤ 9223372036854775807)) then
          k0 (sp, (m.length : Int), (S o ++ (⟨#[42]⟩ : ByteArray)), (i : Int), kd, ln, sc, code, fill, ())
          else none
        else
        bif ((i : Int) == sp) then
          bif (decide ((S o).size + (⟨#[48]⟩ : ByteArray).size ≤ 9223372036854775807)) then
          k0 (sp, (m.length : Int), (S o ++ (⟨#[48]⟩ : ByteArray)), (i : Int), kd, ln, sc, code, fill, ())
          else none
        else
        bif (decide ((S o).size + (⟨#[32]⟩ : ByteArray).size ≤ 9223372036854775807)) then
        k0 (sp, (m.length : Int), (S o ++ (⟨#[32]⟩ : ByteArray)), (i : Int), kd, ln, sc, code, fill, ())
        else none
      else
      bif ((i : Int) == sp) then
        bif (decide ((S o).size + (⟨#[48]⟩ : ByteArray).size ≤ 9223372036854775807)) then
        k0 (sp, (m.length : Int), (S o ++ (⟨#[48]⟩ : ByteArray)), (i : Int), kd, ln, sc, code, fill, ())
        else none
      else
      bif (decide ((S o).size + (⟨#[32]⟩ : ByteArray).size ≤ 9223372036854775807)) then
      k0 (sp, (m.length : Int), (S o ++ (⟨#[32]⟩ : ByteArray)), (i : Int), kd, ln, sc, code, fill, ())
      else none) = k0 (sp, (m.length : Int), S (o ++ [m.getD i 0]), (i : Int), kd, ln, sc, code, fill, ()) := by
    intro o ho
    rw [hg]
    simp only [ieq, e42, e48, e32, S_app, S_size, List.length_cons, List.length_nil]
    have hb : decide (o.length + (0 + 1) ≤ 9223372036854775807) = true := decide_eq_true (by omega)
    simp only [hb, cond_true]
    by_cases c : (i : Int) = sp
    · simp only [decide_eq_true c, if_pos c, cond_true]
      rcases hf with rfl | rfl
      · rfl
      · rfl
    · simp only [decide_eq_false c, if_neg c, cond_false]
  unfold f327p3 f327p2
  simp only [hcm, bind_some', mod3 (show i ≤ m.length by omega) (by omega)]
  simp only [oP]
  cases cm with
  | false =>
    rw [cond_false]
    simp only [Bool.false_and, Bool.false_eq_true, if_false, List.nil_append]
    exact tail _ (by omega)
  | true =>
    rw [cond_true]
    by_cases h0 : 0 < i
    · rw [bif_true (decide_eq_true (by omega))]
      simp only [h0, decide_true, Bool.and_self, Bool.true_and]
      by_cases h3 : ((m.length - i) % 3 == 0) = true
      · rw [bif_true h3, if_pos h3]
        simp only [e44, S_app, S_size]
        rw [bif_true (decide_eq_true (by simp; omega))]
        have := tail (oP true m i ++ [44]) (by simp; omega)
        rw [List.append_assoc] at this
        exact this
      · rw [bif_false (by simpa using h3), if_neg h3, List.nil_append]
        exact tail _ (by omega)
    · have hi0 : i = 0 := by omega
      rw [bif_false (decide_eq_false (by omega))]
      simp only [h0, decide_false, Bool.and_false, Bool.false_and, Bool.false_eq_true, if_false, List.nil_append]
      exact tail _ (by omega)

theorem f327q {kd ln sc code fill : Int} (h0 : 0 ≤ code) (h1 : code ≤ 255) : f327F 1000 ((kd, (ln, sc)), (code, fill)) = some (wdR kd ln sc code fill) := by
  unfold f327F wdR
  simp only [f321q h0 h1, bind_some']
  by_cases he : edErr kd ln sc code fill = 0
  · obtain ⟨ht, hk, hl, hsc, hf, hc, h78, hY⟩ := ed_ok he
    have he' : ¬ (edErr kd ln sc code fill ≠ 0) := fun c => c he
    rw [bif_false (by simpa using he), if_neg he']
    have eZ : (⟨#[50, 52, 66, 68, 75, 77]⟩ : ByteArray) = S [50, 52, 66, 68, 75, 77] := rfl
    have eN : (⟨#[78, 79, 80, 81, 88, 89, 90]⟩ : ByteArray) = S [78, 79, 80, 81, 88, 89, 90] := rfl
    have eC : (⟨#[49, 50, 65, 66, 74, 75]⟩ : ByteArray) = S [49, 50, 65, 66, 74, 75] := rfl
    have eA : (⟨#[65, 66, 67, 68]⟩ : ByteArray) = S [65, 66, 67, 68] := rfl
    have eJ : (⟨#[74, 75, 76, 77]⟩ : ByteArray) = S [74, 75, 76, 77] := rfl
    have hN : f346F 1000 (code, (⟨#[78, 79, 80, 81, 88, 89, 90]⟩ : ByteArray)) = some (decide (78 ≤ code)) := by
      rw [eN, f346q _ _ (by simp)]
      rcases hc with hp | rfl | rfl | rfl
      · rcases hp with rfl | rfl | rfl | rfl | rfl | rfl | rfl | rfl | rfl | rfl | rfl | rfl | rfl | rfl | rfl | rfl <;> decide
      · decide
      · decide
      · decide
    obtain ⟨bz, hbz⟩ : ∃ b, f346F 1000 (code, (⟨#[50, 52, 66, 68, 75, 77]⟩ : ByteArray)) = some b := ⟨_, by rw [eZ]; exact f346q _ _ (by simp)⟩
    rw [hbz, bind_some', f327p0q _ _ _ _ _ _ _ _ _ hN]
    by_cases c78 : 78 ≤ code
    · rw [if_pos (Or.inr (Or.inl (decide_eq_true c78))), if_pos (show noWd ln sc code fill from Or.inr (Or.inl c78))]
    · have hp : plainC code := by
        rcases hc with hp | rfl | rfl | rfl
        · exact hp
        · exact absurd (by decide) c78
        · exact absurd (by decide) c78
        · exact absurd (by decide) c78
      have hb : bz = nzOf code := by
        rw [eZ, f346q _ _ (by simp)] at hbz
        injection hbz with hbz
        rw [← hbz]
        rcases hp with rfl | rfl | rfl | rfl | rfl | rfl | rfl | rfl | rfl | rfl | rfl | rfl | rfl | rfl | rfl | rfl <;> first | decide | exact absurd (by decide) c78
      subst hb
      have hiff : (fill = 2 ∨ decide (78 ≤ code) = true ∨ (nzOf code = true ∧ (0 < sc ∨ fill = 1)) ∨ (nzOf code = false ∧ (sc = ln ∨ ln = 1))) ↔ noWd ln sc code fill := by
        unfold noWd
        rw [decide_eq_true_eq]
      simp only [hiff]
      by_cases hn : noWd ln sc code fill
      · rw [if_pos hn, if_pos hn]
      · rw [if_neg hn, if_neg hn]
        obtain ⟨L, rfl⟩ : ∃ L : Nat, ln = L := ⟨ln.toNat, by omega⟩
        obtain ⟨C, rfl⟩ : ∃ C : Nat, sc = C := ⟨sc.toNat, by omega⟩
        have hf01 : fill = 0 ∨ fill = 1 := by
          have : fill ≠ 2 := fun c => hn (Or.inl c)
          omega
        have hnz : nzOf code = false → ¬ (C = L ∨ L = 1) := fun c d => hn (Or.inr (Or.inr (Or.inr ⟨c, by omega⟩)))
        have hC : f346F 1000 (code, (⟨#[49, 50, 65, 66, 74, 75]⟩ : ByteArray)) = some (cmOf code) := by
          rw [eC, f346q _ _ (by simp)]
          rcases hp with rfl | rfl | rfl | rfl | rfl | rfl | rfl | rfl | rfl | rfl | rfl | rfl | rfl | rfl | rfl | rfl <;> first | decide | exact absurd (by decide) c78
        have hA : f346F 1000 (code, (⟨#[65, 66, 67, 68]⟩ : ByteArray)) = some (decide (sgOf code = 1)) := by
          rw [eA, f346q _ _ (by simp)]
          rcases hp with rfl | rfl | rfl | rfl | rfl | rfl | rfl | rfl | rfl | rfl | rfl | rfl | rfl | rfl | rfl | rfl <;> decide
        have hJ : f346F 1000 (code, (⟨#[74, 75, 76, 77]⟩ : ByteArray)) = some (decide (sgOf code = 2)) := by
          rw [eJ, f346q _ _ (by simp)]
          rcases hp with rfl | rfl | rfl | rfl | rfl | rfl | rfl | rfl | rfl | rfl | rfl | rfl | rfl | rfl | rfl | rfl <;> decide
        have ew : IntKind.i64.wrap ((L : Int) - (C : Int)) = ((L - C : Nat) : Int) := by
          rw [wi (by omega) (by omega)]
          omega
        have hpl := ptL_len (nz := nzOf code) (cut := L - C) (C := C) (fill := fill)
        have hst : ∀ {R : Type} (k0 : Int × Int × Int × Int × Int × Int × Int × Unit → Option R), f327p1 1000 k0 (nzOf code, -1, ((L - C : Nat) : Int), kd, (L : Int), (C : Int), code, fill, ()) = k0 (stopAt (nzOf code) (L - C) C, ((L - C : Nat) : Int), kd, (L : Int), (C : Int), code, fill, ()) := by
          intro R k0
          unfold f327p1 stopAt
          simp only [f69q, bind_some', ieq]
          cases hz : nzOf code with
          | true => rfl
          | false =>
            have := hnz hz
            simp only [Bool.not_false, cond_true, Bool.false_eq_true, if_false]
            by_cases c0 : C = 0
            · rw [if_pos (decide_eq_true (by omega)), if_pos c0, wi (x := ((L - C : Nat) : Int) - 1) (by omega) (by omega), wi (by omega) (by omega)]
              congr 2
              omega
            · rw [if_neg (by simpa using c0), if_neg c0, wi (x := ((L - C : Nat) : Int) - 1) (by omega) (by omega), wi (by omega) (by omega)]
              congr 2
              omega
        have hloop : ∀ {R : Type} (k0 : ByteArray × Int × Int × Int × Int × Int × Unit → Option R), f327l4 1000 k0 (stopAt (nzOf code) (L - C) C, ((L - C : Nat) : Int), ByteArray.empty, 0, kd, (L : Int), (C : Int), code, fill, ()) = k0 (S (wV (cmOf code) true (ptL (nzOf code) (L - C) C fill)), kd, (L : Int), (C : Int), code, fill, ()) := by
          intro R k0
          unfold f327l4
          have := iter_for (R := R) (Step := fun rec v => f327l4s 1000 rec k0 v) (fun i => (stopAt (nzOf code) (L - C) C, ((ptL (nzOf code) (L - C) C fill).length : Int), S (oP (cmOf code) (ptL (nzOf code) (L - C) C fill) i), (i : Int), kd, (L : Int), (C : Int), code, fill, ())) (L - C) (fin := k0 (S (wV (cmOf code) true (ptL (nzOf code) (L - C) C fill)), kd, (L : Int), (C : Int), code, fill, ()))
            (fun rec i hi => by
              unfold f327l4s
              simp only []
              rw [bif_true (decide_eq_true (by rw [hpl]; omega)), f327p3q _ _ (by omega) (by omega) hf01 hC (pt_get hi (fun c => by have := hnz c; omega)), wi (x := (i : Int) + 1) (by omega) (by omega)]
              rfl)
            (fun rec => by
              unfold f327l4s
              simp only []
              have := oP_all (cmOf code) (ptL (nzOf code) (L - C) C fill)
              rw [hpl] at this
              rw [bif_false (decide_eq_false (by rw [hpl]; omega)), this]) (k := 1000) (by omega)
          rw [hpl] at this
          exact this
        simp only [ew, hst, hloop]
        have hw := wV_length (c := cmOf code) (m := ptL (nzOf code) (L - C) C fill) (first := true)
        rw [hpl] at hw
        have hsg : ∀ (w : List UInt8), w.length ≤ 900 → f327p6 1000 (fun (w16 : ByteArray × Int × Int × Unit) =>
                      f327p7 1000
                        (fun (w18 : ByteArray × Int × Int × Unit) =>
                          some (w18.1, (0 : Int)))
                        (w16.1, w16.2.1, w16.2.2.1, ())) (S w, code, fill, ()) = some (S (w ++ sgL (sgOf code)), 0) := by
          intro w hwl
          have e1 : (⟨#[67, 82]⟩ : ByteArray) = S [67, 82] := rfl
          have e2 : (⟨#[45]⟩ : ByteArray) = S [45] := rfl
          unfold f327p6 f327p7 sgL
          simp only [hA, hJ, bind_some', e1, e2, S_app, S_size]
          by_cases c1 : sgOf code = 1
          · rw [bif_true (decide_eq_true c1), bif_true (decide_eq_true (by simp; omega)), bif_false (decide_eq_false (by omega)), if_pos c1]
          · rw [bif_false (decide_eq_false c1), if_neg c1]
            by_cases c2 : sgOf code = 2
            · rw [bif_true (decide_eq_true c2), bif_true (decide_eq_true (by simp; omega)), if_pos c2]
            · rw [bif_false (decide_eq_false c2), if_neg c2, List.append_nil]
        unfold f327p5 wdL
        simp only [Int.toNat_natCast]
        by_cases hC0 : 0 < C
        · have e46 : (⟨#[46]⟩ : ByteArray) = S [46] := rfl
          have hb32 := f72q (c := 32) (n := C) (by omega)
          have hb32 : f72F 1000 (32, (C : Int)) = some (S (List.replicate C 32)) := hb32
          rw [bif_true (decide_eq_true (by omega)), if_pos hC0, hb32]
          simp only [e46, S_app, S_size, bind_some']
          rw [bif_true (decide_eq_true (by simp; omega)), bif_true (decide_eq_true (by simp; omega))]
          have := hsg (wV (cmOf code) true (ptL (nzOf code) (L - C) C fill) ++ [46] ++ List.replicate C 32) (by simp; omega)
          rw [List.append_assoc (wV _ _ _)] at this ⊢
          exact this
        · rw [bif_false (decide_eq_false (by omega)), if_neg hC0, List.append_nil]
          exact hsg _ (by omega)
  · rw [bif_true (by simpa using he), if_pos (show edErr kd ln sc code fill ≠ 0 from he)]

theorem editWordsOf (x : (Int × (Int × Int)) × (Int × Int)) (hc : 0 ≤ x.2.1 ∧ x.2.1 ≤ 255) : f308F 1000 x = some true := by
  obtain ⟨⟨kd, ln, sc⟩, ⟨code, fill⟩⟩ := x
  unfold f308F
  simp only [awake_q, f326q hc.1 hc.2, f327q hc.1 hc.2, bind_some', Bool.not_true, cond_false, beq_self_eq_true, cond_true, strEq_self]
end Go.Proofs.YtecbbmokocnadaaDoor
/-! Plain laws: by the word of a code each value has the text that it has by the code. -/
set_option linter.unusedVariables false
set_option linter.unusedSimpArgs false
namespace Go.Proofs.YtecbbmokocnadaaDoor
open Go.Ab

/-! ### A word printed, character by character -/
def stepC (a : Bool) (c : UInt8) (D : List UInt8) (en : Bool) : List UInt8 × Bool × UInt8 :=
  if (c == 32 || isStop c) = true then (D.drop 1, (en || D.getD 0 0 != 48) || isStop c, if (en || D.getD 0 0 != 48) = true then D.getD 0 0 else fl a)
  else (D, en, if c = 38 then 32 else if en = true then c else fl a)
def run (a : Bool) : List UInt8 → List UInt8 × Bool × List UInt8 → List UInt8 × Bool × List UInt8
  | [], s => s
  | c :: w, s => run a w ((stepC a c s.1 s.2.1).1, (stepC a c s.1 s.2.1).2.1, s.2.2 ++ [(stepC a c s.1 s.2.1).2.2])
theorem run_app {a : Bool} : ∀ (u v : List UInt8) (s : List UInt8 × Bool × List UInt8), run a (u ++ v) s = run a v (run a u s)
  | [], _, _ => rfl
  | c :: u, v, s => by simp only [List.cons_append, run]; exact run_app u v _
theorem take_snoc' {m : List UInt8} {i : Nat} (h : i < m.length) : m.take (i + 1) = m.take i ++ [m.getD i 0] := by
  rw [List.take_succ_eq_append_getElem h]
  simp [List.getD_eq_getElem?_getD, h]
theorem stP_run {a : Bool} {sp : Int} {l D : List UInt8} : ∀ (B : Nat), B ≤ l.length → (∀ i, i < B → ((i : Int) = sp ↔ isStop (l.getD i 0) = true)) → stP a sp l D B = run a (l.take B) (D, false, [])
  | 0, _, _ => rfl
  | B + 1, hB, h => by
    have ih := stP_run (a := a) (sp := sp) (l := l) (D := D) B (by omega) fun i hi => h i (by omega)
    have hs := h B (by omega)
    have hd : decide ((B : Int) = sp) = isStop (l.getD B 0) := by
      rw [Bool.eq_iff_iff, decide_eq_true_eq]
      exact hs
    rw [take_snoc' (by omega), run_app, ← ih]
    simp only [run, stP, prS, stepC, isPl, hd] <;> split <;> rfl

/-! ### Patterns -/
/-- Digits with commas, f in the place of what is suppressed; a pattern tells where suppression ends. -/
def wP (f : UInt8) (c : Bool) : Bool → Bool → List UInt8 → List UInt8 → List UInt8
  | _, _, [], _ => []
  | _, _, _ :: _, [] => []
  | first, en, x :: p, d :: m => (if (c && !first && (p.length + 1) % 3 == 0) = true then [if en = true then 44 else f] else []) ++ (if (en || d != 48) = true then d else f) :: wP f c false ((en || d != 48) || isStop x) p m
def enE : Bool → List UInt8 → List UInt8 → Bool
  | en, [], _ => en
  | en, _ :: _, [] => en
  | en, x :: p, d :: m => enE ((en || d != 48) || isStop x) p m
def okP (p : List UInt8) : Prop := ∀ x ∈ p, (x == 32 || isStop x) = true
theorem step44 {a en : Bool} {D : List UInt8} : stepC a 44 D en = (D, en, if en = true then 44 else fl a) := by
  unfold stepC
  rw [if_neg (by decide), if_neg (by decide)]
theorem run_wV {a c : Bool} : ∀ (p m : List UInt8) (first en : Bool) (D' out : List UInt8), p.length = m.length → okP p →
    run a (wV c first p) (m ++ D', en, out) = (D', enE en p m, out ++ wP (fl a) c first en p m)
  | [], [], first, en, D', out, _, _ => by simp [wV, run, enE, wP]
  | [], _ :: _, _, _, _, _, h, _ => by simp at h
  | _ :: _, [], _, _, _, _, h, _ => by simp at h
  | x :: p, d :: m, first, en, D', out, h, hp => by
    have hx := hp x (by simp)
    have ih := fun en2 out2 => run_wV (a := a) (c := c) p m false en2 D' out2 (by simpa using h) fun y hy => hp y (by simp [hy])
    have core : ∀ out2, run a (x :: wV c false p) (d :: (m ++ D'), en, out2) = (D', enE ((en || d != 48) || isStop x) p m, out2 ++ (if (en || d != 48) = true then d else fl a) :: wP (fl a) c false ((en || d != 48) || isStop x) p m) := by
      intro out2
      simp only [run, stepC, if_pos hx, List.drop_succ_cons, List.drop_zero]
      have hg : (d :: (m ++ D')).getD 0 0 = d := rfl
      simp only [hg]
      rw [ih]
      simp
    simp only [wV, wP, enE]
    by_cases hc : (c && !first && (p.length + 1) % 3 == 0) = true
    · simp only [if_pos hc, List.cons_append, List.nil_append]
      have := core (out ++ [if en = true then 44 else fl a])
      simp only [run, step44] at this ⊢
      rw [this]
      simp
    · simp only [if_neg hc, List.nil_append]
      exact core out

/-- Digits with commas, f in the place of leading zeros. -/
def wRf (f : UInt8) (c kl : Bool) : Bool → Bool → List UInt8 → List UInt8
  | _, _, [] => []
  | first, cnt, d :: m => (if (c && !first && (m.length + 1) % 3 == 0) = true then [if cnt = true then 44 else f] else []) ++
      (if (cnt || d != 48 || (kl && m.isEmpty)) = true then d else f) :: wRf f c kl false (cnt || d != 48 || (kl && m.isEmpty)) m
theorem wRf_wR {c kl : Bool} : ∀ (m : List UInt8) (first cnt : Bool), wRf 32 c kl first cnt m = wR c kl first cnt m
  | [], _, _ => rfl
  | d :: m, first, cnt => by simp only [wRf, wR, wRf_wR m]
theorem wRf_true {f : UInt8} {c kl : Bool} : ∀ (m : List UInt8) (first : Bool), wRf f c kl first true m = wV c first m
  | [], _ => rfl
  | d :: m, first => by simp only [wRf, wV, Bool.true_or, if_true, wRf_true m]
theorem wP_rep {f : UInt8} {c : Bool} : ∀ (m : List UInt8) (first en : Bool), wP f c first en (List.replicate m.length 32) m = wRf f c false first en m
  | [], _, _ => rfl
  | d :: m, first, en => by
    have h32 : isStop 32 = false := by decide
    simp only [List.length_cons, List.replicate_succ, wP, wRf, h32, Bool.or_false, Bool.false_and, List.length_replicate, wP_rep m]
theorem wP_last {f s : UInt8} (hs : isStop s = true) {c : Bool} : ∀ (m : List UInt8) (first en : Bool), m ≠ [] → wP f c first en ((List.replicate m.length 32).set (m.length - 1) s) m = wRf f c false first en m ∧ enE en ((List.replicate m.length 32).set (m.length - 1) s) m = true
  | [], _, _, h => absurd rfl h
  | [d], first, en, _ => by
    simp [wP, wRf, enE, hs]
  | d :: d2 :: m, first, en, _ => by
    have h32 : isStop 32 = false := by decide
    have ih := fun en2 => wP_last hs (f := f) (c := c) (d2 :: m) false en2 (by simp)
    have e : (List.replicate (d :: d2 :: m).length (32 : UInt8)).set ((d :: d2 :: m).length - 1) s = 32 :: (List.replicate (d2 :: m).length 32).set ((d2 :: m).length - 1) s := by
      simp only [List.length_cons, List.replicate_succ, Nat.add_sub_cancel]
      rfl
    rw [e]
    simp only [wP, wRf, enE, h32, Bool.or_false, Bool.false_and, List.length_set, List.length_replicate]
    exact ⟨by rw [(ih _).1]; simp only [wRf, Bool.false_and, Bool.or_false], (ih _).2⟩
theorem wP_last2 {f s : UInt8} (hs : isStop s = true) {c : Bool} : ∀ (m : List UInt8) (first en : Bool), 2 ≤ m.length → wP f c first en ((List.replicate m.length 32).set (m.length - 2) s) m = wRf f c true first en m
  | [], _, _, h => by simp at h
  | [d], _, _, h => by simp at h
  | [d, d2], first, en, _ => by
    simp [wP, wRf, hs]
  | d :: d2 :: d3 :: m, first, en, _ => by
    have h32 : isStop 32 = false := by decide
    have ih := fun en2 => wP_last2 hs (f := f) (c := c) (d2 :: d3 :: m) false en2 (by simp)
    have e : (List.replicate (d :: d2 :: d3 :: m).length (32 : UInt8)).set ((d :: d2 :: d3 :: m).length - 2) s = 32 :: (List.replicate (d2 :: d3 :: m).length 32).set ((d2 :: d3 :: m).length - 2) s := by
      have e1 : (d :: d2 :: d3 :: m).length - 2 = ((d2 :: d3 :: m).length - 2) + 1 := by simp
      rw [e1]
      simp only [List.length_cons, List.replicate_succ, List.set_cons_succ]
    rw [e]
    simp only [wP, wRf, h32, Bool.or_false, List.length_set, List.length_replicate, List.isEmpty_cons, Bool.and_false, ih]
theorem wRf_kl {f : UInt8} {c : Bool} : ∀ (m : List UInt8) (first en : Bool), (en || m.any (· != 48)) = true → wRf f c false first en m = wRf f c true first en m
  | [], _, _, _ => rfl
  | d :: m, first, en, h => by
    simp only [wRf, Bool.false_and, Bool.or_false, Bool.true_and]
    cases he : (en || d != 48) with
    | true => simp only [Bool.true_or, if_true, wRf_true]
    | false =>
      have h2 : m.any (· != 48) = true := by
        simp only [List.any_cons] at h
        rw [← Bool.or_assoc, he, Bool.false_or] at h
        exact h
      have hm : m.isEmpty = false := by
        cases m with
        | nil => simp at h2
        | cons _ _ => rfl
      simp only [hm, Bool.or_false, Bool.false_eq_true, if_false]
      rw [wRf_kl m false false (by rw [h2]; rfl)]
theorem wRf_zero {c : Bool} : ∀ (m : List UInt8) (first : Bool), (∀ d ∈ m, d = 48) → wRf 32 c false first false m = List.replicate (wV c first m).length 32
  | [], _, _ => rfl
  | d :: m, first, h => by
    have hd := h d (by simp)
    have ih := wRf_zero (c := c) m false fun x hx => h x (by simp [hx])
    subst hd
    have h0 : (false || (48 : UInt8) != 48 || (false && m.isEmpty)) = false := by simp
    simp only [wRf, wV, h0, Bool.false_eq_true, if_false, ih, List.length_append, List.length_cons]
    by_cases hc : (c && !first && (m.length + 1) % 3 == 0) = true
    · simp only [if_pos hc, List.length_cons, List.length_nil]
      have e : ∀ k, 0 + 1 + (k + 1) = k + 1 + 1 := by omega
      rw [e, List.replicate_succ, List.replicate_succ]
      rfl
    · simp only [if_neg hc]
      simp [List.replicate_succ]

/-! ### Stars -/
theorem star_cons (x : UInt8) (s : List UInt8) : starL (x :: s) = if x = 32 then 42 :: starL s else x :: s := by
  unfold starL blN rsL
  simp only [List.takeWhile_cons, List.dropWhile_cons]
  by_cases h : x = 32
  · subst h
    simp [List.replicate_succ]
  · have : (x == 32) = false := by simpa using h
    simp [this, h]
theorem dig32 {d : UInt8} (h : dig d) : d ≠ 32 := by
  intro e
  subst e
  exact absurd h (by unfold dig; decide)
theorem star_wR {c kl : Bool} {t : List UInt8} : ∀ (m : List UInt8) (first : Bool), (∀ d ∈ m, dig d) → starL (wRf 32 c kl first false m ++ t) = wRf 42 c kl first false m ++ (if (m.any (· != 48) || (kl && !m.isEmpty)) = true then t else starL t)
  | [], _, _ => by simp [wRf]
  | d :: m, first, h => by
    have hd := dig32 (h d (by simp))
    have ih := star_wR (c := c) (kl := kl) (t := t) m false fun x hx => h x (by simp [hx])
    simp only [wRf, Bool.false_or, Bool.false_eq_true, if_false, List.any_cons, List.isEmpty_cons, Bool.not_false, Bool.and_true]
    have core : starL (((if (d != 48 || (kl && m.isEmpty)) = true then d else 32) :: wRf 32 c kl false (d != 48 || (kl && m.isEmpty)) m) ++ t) =
        ((if (d != 48 || (kl && m.isEmpty)) = true then d else 42) :: wRf 42 c kl false (d != 48 || (kl && m.isEmpty)) m) ++ (if ((d != 48 || m.any (· != 48)) || kl) = true then t else starL t) := by
      rw [List.cons_append, star_cons]
      cases hq : (d != 48 || (kl && m.isEmpty)) with
      | true =>
        have h2 : ((d != 48 || m.any (· != 48)) || kl) = true := by
          revert hq
          cases (d != 48) <;> cases kl <;> simp
        simp only [if_true, if_neg hd, wRf_true, if_pos h2, List.cons_append]
      | false =>
        rw [Bool.or_eq_false_iff] at hq
        simp only [Bool.false_eq_true, if_false, if_true, ih, hq.1, Bool.false_or, List.cons_append]
        cases kl with
        | false => simp
        | true =>
          have : m.isEmpty = false := by simpa using hq.2
          simp [this]
    by_cases hc : (c && !first && (m.length + 1) % 3 == 0) = true
    · simp only [if_pos hc, List.cons_append, List.nil_append]
      rw [star_cons, if_pos rfl]
      rw [List.cons_append] at core
      rw [core]
      simp
    · simp only [if_neg hc, List.nil_append]
      exact core
end Go.Proofs.YtecbbmokocnadaaDoor
/-! Plain laws: by the word of a code each value has the text that it has by the code. -/
set_option linter.unusedVariables false
set_option linter.unusedSimpArgs false
namespace Go.Proofs.YtecbbmokocnadaaDoor
open Go.Ab

/-! ### What the word of a code is -/
theorem mem_wV {c : Bool} {b : UInt8} : ∀ {m : List UInt8} {first : Bool}, b ∈ wV c first m → b = 44 ∨ b ∈ m
  | [], _, h => by simp [wV] at h
  | d :: m, first, h => by
    simp only [wV, List.mem_append, List.mem_cons] at h
    rcases h with h | rfl | h
    · split at h
      · simp at h; exact .inl h
      · simp at h
    · exact .inr (by simp)
    · rcases mem_wV h with h | h
      · exact .inl h
      · exact .inr (by simp [h])
theorem mem_of_wV {c : Bool} {b : UInt8} : ∀ {m : List UInt8} {first : Bool}, b ∈ m → b ∈ wV c first m
  | d :: m, first, h => by
    simp only [wV, List.mem_append, List.mem_cons]
    rcases List.mem_cons.1 h with rfl | h
    · exact .inr (.inl rfl)
    · exact .inr (.inr (mem_of_wV h))
theorem countP_wV {c : Bool} {q : UInt8 → Bool} (hq : q 44 = false) : ∀ (m : List UInt8) (first : Bool), (wV c first m).countP q = m.countP q
  | [], _ => rfl
  | d :: m, first => by
    simp only [wV, List.countP_append, List.countP_cons, countP_wV hq m]
    split
    · simp [hq]
    · simp
theorem wV_snoc {c : Bool} {x : UInt8} : ∀ (p : List UInt8) (first : Bool), ∃ Q, wV c first (p ++ [x]) = Q ++ [x]
  | [], first => ⟨_, rfl⟩
  | d :: p, first => by
    obtain ⟨Q, hQ⟩ := wV_snoc (c := c) (x := x) p false
    simp only [List.cons_append, wV, hQ]
    refine ⟨(if (c && !first && ((p ++ [x]).length + 1) % 3 == 0) = true then [44] else []) ++ d :: Q, ?_⟩
    rw [List.append_assoc]
    rfl

structure Wd (nz : Bool) (sg : Int) (cut C : Nat) (fill : Int) : Prop where
  cut1 : 1 ≤ cut
  len : cut + C ≤ 15
  nz1 : nz = true → C = 0 ∧ fill = 0
  nz0 : nz = false → 2 ≤ cut + C
  sgr : sg = 0 ∨ sg = 1 ∨ sg = 2
  fl : fill = 0 ∨ fill = 1

def baseL (cm nz : Bool) (cut C : Nat) (fill : Int) : List UInt8 := wV cm true (ptL nz cut C fill) ++ (if 0 < C then 46 :: List.replicate C 32 else [])
def sC (fill : Int) : UInt8 := if fill = 1 then 42 else 48
theorem sC_stop (fill : Int) : isStop (sC fill) = true := by unfold sC; split <;> decide
section
variable {cm nz : Bool} {sg : Int} {cut C : Nat} {fill : Int} (h : Wd nz sg cut C fill)
include h
omit h in theorem wd_eq : wdL cm nz sg cut C fill = baseL cm nz cut C fill ++ sgL sg := rfl
theorem mem_pt {b : UInt8} (hb : b ∈ ptL nz cut C fill) : b = 32 ∨ (nz = false ∧ b = sC fill) := by
  unfold ptL at hb
  cases nz with
  | true =>
    rw [if_pos rfl] at hb
    exact .inl (List.eq_of_mem_replicate hb)
  | false =>
    rw [if_neg (by decide)] at hb
    rcases List.mem_or_eq_of_mem_set hb with hb | hb
    · exact .inl (List.eq_of_mem_replicate hb)
    · exact .inr ⟨rfl, hb⟩
theorem mem_base {b : UInt8} (hb : b ∈ baseL cm nz cut C fill) : b = 32 ∨ b = 44 ∨ b = 46 ∨ (nz = false ∧ b = sC fill) := by
  unfold baseL at hb
  rcases List.mem_append.1 hb with hb | hb
  · rcases mem_wV hb with rfl | hb
    · exact .inr (.inl rfl)
    · rcases mem_pt h hb with rfl | hb
      · exact .inl rfl
      · exact .inr (.inr (.inr hb))
  · split at hb
    · rcases List.mem_cons.1 hb with rfl | hb
      · exact .inr (.inr (.inl rfl))
      · exact .inl (List.eq_of_mem_replicate hb)
    · simp at hb
omit h in theorem mem_sg {b : UInt8} (hb : b ∈ sgL sg) : b = 67 ∨ b = 82 ∨ b = 45 := by
  unfold sgL at hb
  split at hb
  · simp at hb
    rcases hb with rfl | rfl <;> decide
  · split at hb
    · simp at hb
      subst hb
      decide
    · simp at hb
theorem stop_base {b : UInt8} (hb : b ∈ baseL cm nz cut C fill) (hs : isStop b = true) : nz = false ∧ b = sC fill := by
  rcases mem_base h hb with rfl | rfl | rfl | hb
  · exact absurd hs (by decide)
  · exact absurd hs (by decide)
  · exact absurd hs (by decide)
  · exact hb
omit h in theorem stop_sg {b : UInt8} (hb : b ∈ sgL sg) : isStop b = false := by
  rcases mem_sg hb with rfl | rfl | rfl <;> decide
theorem base_last : ∃ Q, baseL cm nz cut C fill = Q ++ [32] := by
  have h1 := h.cut1
  unfold baseL
  by_cases c : 0 < C
  · rw [if_pos c, show C = (C - 1) + 1 by omega, List.replicate_succ']
    exact ⟨wV cm true (ptL nz cut (C - 1 + 1) fill) ++ 46 :: List.replicate (C - 1) 32, by simp⟩
  · rw [if_neg c, List.append_nil]
    have hp : ∃ p, ptL nz cut C fill = p ++ [32] := by
      unfold ptL
      cases hz : nz with
      | true =>
        refine ⟨List.replicate (cut - 1) 32, ?_⟩
        rw [if_pos rfl, ← List.replicate_succ']
        congr 1
        omega
      | false =>
        have h2 := h.nz0 hz
        refine ⟨(List.replicate (cut - 1) 32).set (cut - 2) (sC fill), ?_⟩
        rw [if_neg (by decide), if_pos (by omega)]
        have e : List.replicate cut (32 : UInt8) = List.replicate (cut - 1) 32 ++ [32] := by
          rw [← List.replicate_succ']
          congr 1
          omega
        rw [e, List.set_append_left _ _ (by simp; omega)]
        rfl
    obtain ⟨p, hp⟩ := hp
    rw [hp]
    exact wV_snoc p true
theorem base_len : 1 ≤ (baseL cm nz cut C fill).length ∧ (baseL cm nz cut C fill).length ≤ 2 * cut + C + 1 := by
  obtain ⟨Q, hQ⟩ := base_last (cm := cm) h
  have hw := wV_length (c := cm) (m := ptL nz cut C fill) (first := true)
  rw [ptL_len] at hw
  refine ⟨by rw [hQ]; simp, ?_⟩
  unfold baseL
  split
  · simp; omega
  · simp; omega
omit h in theorem sg_len : (sgL sg).length ≤ 2 := by
  unfold sgL
  split
  · simp
  · split <;> simp
theorem wd_lastB : lastB (wdL cm nz sg cut C fill) = (baseL cm nz cut C fill).length := by
  obtain ⟨Q, hQ⟩ := base_last (cm := cm) h
  have key : ∀ (t : List UInt8), (∀ b ∈ t, b ≠ 32) → (t.reverse ++ (Q ++ [32]).reverse).findIdx (· == 32) = t.length := by
    intro t ht
    have : ∀ (u v : List UInt8), (∀ b ∈ u, b ≠ 32) → (u ++ 32 :: v).findIdx (· == 32) = u.length := by
      intro u v hu
      induction u with
      | nil => simp [List.findIdx_cons]
      | cons x u ih =>
        have hx := hu x (by simp)
        have : (x == 32) = false := by simpa using hx
        simp only [List.cons_append, List.findIdx_cons, this, cond_false, List.length_cons]
        rw [ih fun b hb => hu b (by simp [hb])]
    have := this t.reverse Q.reverse fun b hb => ht b (by simpa using hb)
    simpa using this
  have hns : ∀ b ∈ sgL sg, b ≠ 32 := by
    intro b hb e
    subst e
    rcases mem_sg hb with h | h | h <;> exact absurd h (by decide)
  unfold lastB
  rw [wd_eq, List.reverse_append, hQ, key _ hns]
  simp
  omega
theorem wd_stop_lt (hc : stopN (wdL cm nz sg cut C fill) < (wdL cm nz sg cut C fill).length) : stopN (wdL cm nz sg cut C fill) < (baseL cm nz cut C fill).length := by
  have hs := stopN_is hc
  have _ := h.cut1
  apply Decidable.byContradiction
  intro c
  rw [wd_eq, List.getD_eq_getElem?_getD, List.getElem?_append_right (by rw [wd_eq] at c; omega)] at hs
  have hlt : stopN (baseL cm nz cut C fill ++ sgL sg) - (baseL cm nz cut C fill).length < (sgL sg).length := by
    rw [wd_eq, List.length_append] at hc
    rw [wd_eq] at c
    omega
  rw [List.getElem?_eq_getElem hlt] at hs
  have := stop_sg (List.getElem_mem hlt)
  rw [Option.getD_some, this] at hs
  exact absurd hs (by decide)
theorem wd_body : bodyN (wdL cm nz sg cut C fill) = (baseL cm nz cut C fill).length := by
  unfold bodyN
  rw [wd_lastB h]
  split
  · rename_i hc
    have := wd_stop_lt h hc
    omega
  · omega
theorem wd_uniq (i : Nat) (hi : i < (baseL cm nz cut C fill).length) : ((i : Int) = stopI (wdL cm nz sg cut C fill) ↔ isStop ((wdL cm nz sg cut C fill).getD i 0) = true) := by
  have hlen : (baseL cm nz cut C fill).length ≤ (wdL cm nz sg cut C fill).length := by rw [wd_eq, List.length_append]; omega
  have hcount : (wdL cm nz sg cut C fill).countP isStop ≤ 1 := by
    have h1 : (ptL nz cut C fill).countP isStop ≤ 1 := by
      unfold ptL
      have h0 : (List.replicate cut (32 : UInt8)).countP isStop = 0 := by
        rw [List.countP_eq_zero]
        intro b hb
        rw [List.eq_of_mem_replicate hb]
        decide
      split
      · omega
      · rename_i hz
        have hlt : (if C = 0 then cut - 2 else cut - 1) < (List.replicate cut (32 : UInt8)).length := by
          have := h.cut1
          simp
          split <;> omega
        rw [List.countP_set hlt, h0, Nat.zero_sub, Nat.zero_add]
        generalize isStop (if fill = 1 then 42 else 48) = b
        cases b <;> decide
    have h2 : (wdL cm nz sg cut C fill).countP isStop = (ptL nz cut C fill).countP isStop := by
      unfold wdL
      rw [List.countP_append, List.countP_append, countP_wV (by decide)]
      have e1 : (sgL sg).countP isStop = 0 := by
        rw [List.countP_eq_zero]
        intro b hb
        rw [stop_sg hb]
        decide
      have e2 : (if 0 < C then (46 : UInt8) :: List.replicate C 32 else []).countP isStop = 0 := by
        rw [List.countP_eq_zero]
        intro b hb
        split at hb
        · rcases List.mem_cons.1 hb with rfl | hb
          · decide
          · rw [List.eq_of_mem_replicate hb]; decide
        · simp at hb
      rw [e1, e2]
      omega
    omega
  generalize wdL cm nz sg cut C fill = l at *
  constructor
  · intro e
    unfold stopI at e
    split at e
    · rename_i hc
      have : i = stopN l := by omega
      rw [this]
      exact stopN_is hc
    · omega
  · intro hs
    have hil : i < l.length := by omega
    have hle : stopN l ≤ i := by
      apply Decidable.byContradiction
      intro c
      have := List.not_of_lt_findIdx (p := isStop) (xs := l) (i := i) (by unfold stopN at c; omega)
      rw [List.getD_eq_getElem?_getD, List.getElem?_eq_getElem hil, Option.getD_some] at hs
      rw [hs] at this
      exact absurd this (by decide)
    have hc : stopN l < l.length := by omega
    unfold stopI
    rw [if_pos hc]
    by_cases e : stopN l = i
    · omega
    · exfalso
      have hs2 := stopN_is hc
      have e1 : 0 < (l.take i).countP isStop := by
        rw [List.countP_pos_iff]
        have hlt : stopN l < (l.take i).length := by simp; omega
        refine ⟨(l.take i)[stopN l], List.getElem_mem hlt, ?_⟩
        rw [List.getElem_take]
        rw [List.getD_eq_getElem?_getD, List.getElem?_eq_getElem hc] at hs2
        exact hs2
      have e2 : 0 < (l.drop i).countP isStop := by
        rw [List.countP_pos_iff]
        have hlt : 0 < (l.drop i).length := by simp; omega
        refine ⟨(l.drop i)[0], List.getElem_mem hlt, ?_⟩
        rw [List.getElem_drop]
        rw [List.getD_eq_getElem?_getD, List.getElem?_eq_getElem hil] at hs
        simpa using hs
      have e3 : l.countP isStop = (l.take i).countP isStop + (l.drop i).countP isStop := by rw [← List.countP_append, List.take_append_drop]
      omega
theorem wd_stop (hz : nz = false) : stopN (wdL cm nz sg cut C fill) < (wdL cm nz sg cut C fill).length := by
  unfold stopN
  rw [List.findIdx_lt_length]
  refine ⟨sC fill, ?_, sC_stop fill⟩
  rw [wd_eq]
  refine List.mem_append_left _ ?_
  unfold baseL
  refine List.mem_append_left _ (mem_of_wV ?_)
  unfold ptL
  rw [if_neg (by rw [hz]; decide)]
  apply List.mem_set
  simp
  have := h.cut1
  split <;> omega
theorem wd_ast : astB (wdL cm nz sg cut C fill) = (!nz && decide (fill = 1)) := by
  unfold astB
  by_cases hc : stopN (wdL cm nz sg cut C fill) < (wdL cm nz sg cut C fill).length
  · have hs := stopN_is hc
    have hlt := wd_stop_lt h hc
    have hm : (wdL cm nz sg cut C fill).getD (stopN (wdL cm nz sg cut C fill)) 0 ∈ baseL cm nz cut C fill := by
      have e : (wdL cm nz sg cut C fill).getD (stopN (wdL cm nz sg cut C fill)) 0 = (baseL cm nz cut C fill)[stopN (wdL cm nz sg cut C fill)]'hlt := by
        rw [List.getD_eq_getElem?_getD]
        conv => lhs; rw [wd_eq (cm := cm) (nz := nz) (sg := sg) (cut := cut) (C := C) (fill := fill)]
        rw [List.getElem?_append_left (by rw [← wd_eq]; exact hlt)]
        simp [wd_eq] at hlt ⊢
        simp [hlt]
      rw [e]
      exact List.getElem_mem hlt
    obtain ⟨hz, he⟩ := stop_base h hm hs
    rw [he, decide_eq_true hc, hz]
    unfold sC
    rcases h.fl with rfl | rfl <;> decide
  · have : nz = true := by
      cases hz : nz with
      | true => rfl
      | false => subst hz; exact absurd (wd_stop (cm := cm) (sg := sg) h rfl) hc
    rw [decide_eq_false hc, this]
    rfl
end
end Go.Proofs.YtecbbmokocnadaaDoor
/-! Plain laws: by the word of a code each value has the text that it has by the code. -/
set_option linter.unusedVariables false
set_option linter.unusedSimpArgs false
namespace Go.Proofs.YtecbbmokocnadaaDoor
open Go.Ab

section
variable {cm nz : Bool} {sg : Int} {cut C : Nat} {fill : Int} (h : Wd nz sg cut C fill)
include h
theorem wd_stat : statI (wdL cm nz sg cut C fill) = if sg = 0 then -1 else ((baseL cm nz cut C fill).length : Int) := by
  have hl : (wdL cm nz sg cut C fill).length = (baseL cm nz cut C fill).length + (sgL sg).length := by rw [wd_eq, List.length_append]
  have hg : ∀ j, (wdL cm nz sg cut C fill).getD ((baseL cm nz cut C fill).length + j) 0 = (sgL sg).getD j 0 := by
    intro j
    rw [wd_eq, List.getD_eq_getElem?_getD, List.getElem?_append_right (by omega), ← List.getD_eq_getElem?_getD]
    congr 1
    omega
  have hg0 := hg 0
  have hg1 := hg 1
  rw [Nat.add_zero] at hg0
  unfold statI
  rw [wd_body h, hl]
  rcases h.sgr with rfl | rfl | rfl
  · have e : (sgL 0).length = 0 := rfl
    rw [e, if_pos rfl, Nat.add_zero, Nat.sub_self]
    rfl
  · have e : (sgL 1).length = 2 := rfl
    have i1 : isSt (wdL cm nz 1 cut C fill) (baseL cm nz cut C fill).length = true := by
      unfold isSt
      rw [hg0, hg1, hl, e, decide_eq_true (by omega)]
      decide
    rw [e, if_neg (by decide), show (baseL cm nz cut C fill).length + 2 - (baseL cm nz cut C fill).length = 2 by omega, List.range'_succ, List.find?_cons, i1]
  · have e : (sgL 2).length = 1 := rfl
    have i1 : isSt (wdL cm nz 2 cut C fill) (baseL cm nz cut C fill).length = true := by
      unfold isSt
      rw [hg0]
      rfl
    rw [e, if_neg (by decide), show (baseL cm nz cut C fill).length + 1 - (baseL cm nz cut C fill).length = 1 by omega, List.range'_succ, List.find?_cons, i1]

/-- The sign of a value. -/
def sgT (sg n : Int) : List UInt8 := if sg = 1 then (if n < 0 then [67, 82] else [32, 32]) else if sg = 2 then (if n < 0 then [45] else [32]) else []
theorem wd_tail (n : Int) : tlP (wdL cm nz sg cut C fill) n = sgT sg n := by
  have hd : (wdL cm nz sg cut C fill).drop (bodyN (wdL cm nz sg cut C fill)) = sgL sg := by
    rw [wd_body h, wd_eq, List.drop_left' rfl]
  have hs := wd_stat (cm := cm) h
  have hb := wd_body (cm := cm) h
  rcases h.sgr with rfl | rfl | rfl
  · have hs' : statI (wdL cm nz 0 cut C fill) = -1 := hs
    unfold tlP
    rw [hd, hs', if_neg (by omega)]
    rfl
  · have hs' : statI (wdL cm nz 1 cut C fill) = ((baseL cm nz cut C fill).length : Int) := hs
    unfold tlP
    rw [hd, hs', hb, Int.toNat_natCast, Nat.sub_self]
    by_cases hn : n < 0
    · rw [if_neg (by omega)]
      unfold sgT
      simp only [if_pos hn]
      rfl
    · rw [if_pos ⟨by omega, by omega⟩]
      unfold sgT
      simp only [if_neg hn]
      rfl
  · have hs' : statI (wdL cm nz 2 cut C fill) = ((baseL cm nz cut C fill).length : Int) := hs
    unfold tlP
    rw [hd, hs', hb, Int.toNat_natCast, Nat.sub_self]
    by_cases hn : n < 0
    · rw [if_neg (by omega)]
      unfold sgT
      simp only [if_pos hn]
      rfl
    · rw [if_pos ⟨by omega, by omega⟩]
      unfold sgT
      simp only [if_neg hn]
      rfl

theorem wd_okP : okP (ptL nz cut C fill) := by
  intro x hx
  rcases mem_pt h hx with rfl | ⟨_, rfl⟩
  · rfl
  · rw [sC_stop, Bool.or_true]
omit h in theorem run_blanks {a : Bool} : ∀ (m D' out : List UInt8), run a (List.replicate m.length 32) (m ++ D', true, out) = (D', true, out ++ m)
  | [], D', out => by simp [run]
  | d :: m, D', out => by
    have e : stepC a 32 (d :: (m ++ D')) true = (m ++ D', true, d) := by
      unfold stepC
      rw [if_pos (by decide)]
      rfl
    simp only [List.length_cons, List.replicate_succ, run, List.cons_append, e]
    rw [run_blanks m]
    simp
/-- The body of a text by the word of a code. -/
theorem wd_run (D : List UInt8) (hD : D.length = cut + C) (a : Bool) : (run a (baseL cm nz cut C fill) (D, false, [])).2.2 =
    wP (fl a) cm true false (ptL nz cut C fill) (D.take cut) ++ (if 0 < C then 46 :: D.drop cut else []) := by
  have h1 := h.cut1
  have ht : (D.take cut).length = cut := by simp; omega
  have hd : (D.drop cut).length = C := by simp; omega
  have hr := run_wV (a := a) (c := cm) (ptL nz cut C fill) (D.take cut) true false (D.drop cut) [] (by rw [ptL_len, ht]) (wd_okP h)
  rw [List.take_append_drop, List.nil_append] at hr
  unfold baseL
  rw [run_app, hr]
  by_cases hC : 0 < C
  · have hz : nz = false := by
      cases hz : nz with
      | false => rfl
      | true => have := (h.nz1 hz).1; omega
    subst hz
    have he : enE false (ptL false cut C fill) (D.take cut) = true := by
      unfold ptL
      rw [if_neg (by decide), if_neg (by omega)]
      have := (wP_last (f := 32) (sC_stop fill) (c := cm) (D.take cut) true false (by intro c; rw [c] at ht; simp at ht; omega)).2
      rw [ht] at this
      exact this
    rw [if_pos hC, if_pos hC, he]
    have e46 : stepC a 46 (D.drop cut) true = (D.drop cut, true, 46) := by
      unfold stepC
      rw [if_neg (by decide), if_neg (by decide)]
      rfl
    simp only [run, e46]
    have := run_blanks (a := a) (D.drop cut) [] (wP (fl a) cm true false (ptL false cut C fill) (D.take cut) ++ [46])
    rw [hd, List.append_nil] at this
    rw [this]
    simp
  · rw [if_neg hC, if_neg hC]
    simp [run]
theorem wd_body_run (D : List UInt8) : (stP (astB (wdL cm nz sg cut C fill)) (stopI (wdL cm nz sg cut C fill)) (wdL cm nz sg cut C fill) D (bodyN (wdL cm nz sg cut C fill))).2.2 = (run (!nz && decide (fill = 1)) (baseL cm nz cut C fill) (D, false, [])).2.2 := by
  have hle : (baseL cm nz cut C fill).length ≤ (wdL cm nz sg cut C fill).length := by rw [wd_eq, List.length_append]; omega
  rw [wd_body h, stP_run _ hle (fun i hi => wd_uniq h i hi), wd_ast h]
  have : (wdL cm nz sg cut C fill).take (baseL cm nz cut C fill).length = baseL cm nz cut C fill := by rw [wd_eq, List.take_left' rfl]
  rw [this]

/-- One text. -/
theorem wd_text (n : Int) (hn : amt n < 10 ^ (cut + C)) (hz : n = 0 → ∀ d ∈ dgL (amt n) (cut + C), d = 48) (hnz : n ≠ 0 → (dgL (amt n) (cut + C)).any (· != 48) = true) :
    wordL (wdL cm nz sg cut C fill) n (cut + C) = txL n fill sg nz (numL cm cut C (dgL (amt n) (cut + C))) := by
  have h1 := h.cut1
  have hD : (dgL (amt n) (cut + C)).length = cut + C := dgL_length _ _
  have hdg : ∀ d ∈ dgL (amt n) (cut + C), dig d := dgL_dig
  unfold wordL
  rw [wd_body_run h, wd_tail h, wd_run h _ hD]
  generalize dgL (amt n) (cut + C) = D at *
  have ht : (D.take cut).length = cut := by simp; omega
  have hdt : ∀ d ∈ D.take cut, dig d := fun d hd => hdg d (List.mem_of_mem_take hd)
  have hne : D.take cut ≠ [] := by intro c; rw [c] at ht; simp at ht; omega
  have hsg3 : ¬ sg = 3 := by rcases h.sgr with rfl | rfl | rfl <;> decide
  have hf2 : ¬ fill = 2 := by rcases h.fl with rfl | rfl <;> decide
  have es1 : ∀ s0 : List UInt8, (if sg = 1 then s0 ++ (if n < 0 then [67, 82] else [32, 32]) else if sg = 2 then s0 ++ (if n < 0 then [45] else [32]) else if sg = 3 then aflL s0 (if n < 0 then [45] else [32]) else s0) = s0 ++ sgT sg n := by
    intro s0
    unfold sgT
    rcases h.sgr with rfl | rfl | rfl
    · simp
    · simp
    · simp
  unfold txL
  simp only [es1, if_neg hf2]
  cases nz with
  | true =>
    obtain ⟨rfl, rfl⟩ := h.nz1 rfl
    have htk : D.take cut = D := List.take_of_length_le (by omega)
    have hp : ptL true cut 0 0 = List.replicate D.length 32 := by
      unfold ptL
      rw [if_pos rfl, hD]
      rfl
    have e32 : fl (!true && decide ((0 : Int) = 1)) = 32 := rfl
    have hnum : numL cm cut 0 D = wRf 32 cm true true false D := by
      unfold numL
      rw [if_neg (by omega), htk, sup_wV hdg, wRf_wR]
    rw [hp, htk, e32, wP_rep, if_neg (by omega), List.append_nil, hnum]
    by_cases hn0 : n = 0
    · have hz0 := hz hn0
      rw [if_pos ⟨hn0, rfl⟩, wRf_zero D true hz0]
      have hl : ∀ (m : List UInt8) (first cnt : Bool), (wRf 32 cm true first cnt m).length = (wV cm first m).length := by
        intro m
        induction m with
        | nil => intros; rfl
        | cons d m ih =>
          intro first cnt
          simp only [wRf, wV, List.length_append, List.length_cons, ih]
          split <;> rfl
      have hs : sgT sg n = List.replicate (sgT sg n).length 32 := by
        unfold sgT
        have : ¬ n < 0 := by omega
        simp only [if_neg this]
        rcases h.sgr with rfl | rfl | rfl <;> rfl
      rw [List.length_append, hl, ← List.replicate_append_replicate, ← hs]
    · rw [if_neg (fun c => hn0 c.1), if_neg (by decide), wRf_kl D true false (by rw [hnz hn0]; rfl)]
  | false =>
    have hx : ¬ (n = 0 ∧ false = true) := by simp
    rw [if_neg hx]
    have hpt : ∀ (f : UInt8), wP f cm true false (ptL false cut C fill) (D.take cut) = wRf f cm (decide (C = 0)) true false (D.take cut) := by
      intro f
      unfold ptL
      rw [if_neg (by decide)]
      by_cases hC : C = 0
      · have h2 := h.nz0 rfl
        have := wP_last2 (f := f) (sC_stop fill) (c := cm) (D.take cut) true false (by omega)
        rw [ht] at this
        rw [if_pos hC, decide_eq_true hC]
        exact this
      · have := (wP_last (f := f) (sC_stop fill) (c := cm) (D.take cut) true false hne).1
        rw [ht] at this
        rw [if_neg hC, decide_eq_false hC]
        exact this
    have hnum : numL cm cut C D = wRf 32 cm (decide (C = 0)) true false (D.take cut) ++ (if 0 < C then 46 :: D.drop cut else []) := by
      unfold numL
      by_cases hC : 0 < C
      · rw [if_pos hC, if_pos hC, decide_eq_false (by omega), sup_wV hdt, wRf_wR]
      · rw [if_neg hC, if_neg hC, decide_eq_true (by omega), sup_wV hdt, wRf_wR, List.append_nil]
    rw [hpt, hnum]
    rcases h.fl with rfl | rfl
    · rw [if_neg (show ¬ ((0 : Int) = 1) by decide)]
      rfl
    · rw [if_pos (show (1 : Int) = 1 from rfl), List.append_assoc, List.append_assoc, star_wR _ _ hdt]
      have e42 : fl (!false && decide ((1 : Int) = 1)) = 42 := rfl
      rw [e42]
      congr 1
      by_cases hC : 0 < C
      · rw [if_pos hC]
        split
        · rfl
        · rw [List.cons_append, star_cons, if_neg (by decide)]
      · have hk : ((D.take cut).any (· != 48) || (decide (C = 0) && !(D.take cut).isEmpty)) = true := by
          have : (D.take cut).isEmpty = false := by
            cases hq : D.take cut with
            | nil => exact absurd hq hne
            | cons _ _ => rfl
          rw [this, decide_eq_true (by omega)]
          simp
        rw [if_pos hk]

/-- The word of a code is right. -/
theorem wd_right {kd : Int} (ht : tyErr kd ((cut + C : Nat) : Int) (C : Int) = 0) (hk : 1 ≤ kd ∧ kd ≤ 3) : wErr kd ((cut + C : Nat) : Int) (C : Int) (wdL cm nz sg cut C fill) = 0 := by
  have hb := base_len (cm := cm) h
  have hsl := sg_len (sg := sg)
  have hl : (wdL cm nz sg cut C fill).length = (baseL cm nz cut C fill).length + (sgL sg).length := by rw [wd_eq, List.length_append]
  have h15 := h.len
  have hch : ∀ b ∈ wdL cm nz sg cut C fill, 32 ≤ b.toNat ∧ b.toNat ≤ 126 := by
    intro b hb
    rw [wd_eq] at hb
    rcases List.mem_append.1 hb with hb | hb
    · rcases mem_base h hb with rfl | rfl | rfl | ⟨_, rfl⟩
      · decide
      · decide
      · decide
      · unfold sC
        split <;> decide
    · rcases mem_sg hb with rfl | rfl | rfl <;> decide
  have hbad : (List.range' 0 (wdL cm nz sg cut C fill).length).find? (badN (wdL cm nz sg cut C fill)) = none := by
    rw [List.find?_eq_none]
    intro j hj
    have hj : j < (wdL cm nz sg cut C fill).length := by simpa using hj
    have := hch _ (List.getElem_mem hj)
    unfold badN
    rw [List.getD_eq_getElem?_getD, List.getElem?_eq_getElem hj, Option.getD_some]
    simp
    omega
  have hpf : (pfin (wdL cm nz sg cut C fill)).2.2 = 0 := by
    have hc1 := h.cut1
    unfold pfin
    rw [if_neg (by omega), if_neg (by omega), hbad]
    simp only []
    rw [wd_body h, if_neg (by omega)]
  have hpl : plN (wdL cm nz sg cut C fill) (stopI (wdL cm nz sg cut C fill)) (wdL cm nz sg cut C fill).length = cut + C := by
    rw [plN_all]
    have c1 : (sgL sg).count 32 = 0 := by rcases h.sgr with rfl | rfl | rfl <;> decide
    have c2 : (if 0 < C then (46 : UInt8) :: List.replicate C 32 else []).count 32 = C := by
      split
      · rw [List.count_cons_of_ne (by decide), List.count_replicate_self]
      · simp; omega
    have c3 : (wV cm true (ptL nz cut C fill)).count 32 = (ptL nz cut C fill).count 32 := by
      unfold List.count
      exact countP_wV (by decide) _ _
    have c4 : (wdL cm nz sg cut C fill).count 32 = (ptL nz cut C fill).count 32 + C := by
      unfold wdL
      rw [List.count_append, List.count_append, c1, c2, c3]
      omega
    rw [c4]
    cases hz : nz with
    | true =>
      have hst : ¬ 0 ≤ stopI (wdL cm true sg cut C fill) := by
        intro c
        unfold stopI at c
        split at c
        · rename_i hlt
          subst hz
          have hlt2 := wd_stop_lt h hlt
          have hs := stopN_is hlt
          have hu := (wd_uniq (cm := cm) h _ hlt2)
          have ha := wd_ast (cm := cm) h
          have hm : (wdL cm true sg cut C fill)[stopN (wdL cm true sg cut C fill)] ∈ wdL cm true sg cut C fill := List.getElem_mem hlt
          rw [List.getD_eq_getElem?_getD, List.getElem?_eq_getElem hlt, Option.getD_some] at hs
          rcases List.mem_append.1 (by rw [← wd_eq]; exact hm) with hm | hm
          · exact absurd (stop_base h hm hs).1 (by decide)
          · rw [stop_sg hm] at hs
            exact absurd hs (by decide)
        · omega
      rw [if_neg hst]
      unfold ptL
      rw [if_pos rfl, List.count_replicate_self]
      omega
    | false =>
      have hst : 0 ≤ stopI (wdL cm false sg cut C fill) := by
        subst hz
        have := wd_stop (cm := cm) h rfl
        unfold stopI
        rw [if_pos this]
        omega
      have h1 := h.cut1
      rw [if_pos hst]
      unfold ptL
      rw [if_neg (by decide)]
      have hlt : (if C = 0 then cut - 2 else cut - 1) < (List.replicate cut (32 : UInt8)).length := by
        simp
        split <;> omega
      have hcs : ((List.replicate cut (32 : UInt8)).set (if C = 0 then cut - 2 else cut - 1) (if fill = 1 then 42 else 48)).count 32 = cut - 1 := by
        rw [List.count_set hlt, List.count_replicate_self, List.getElem_replicate]
        rcases h.fl with rfl | rfl <;> simp
      rw [hcs]
      omega
  unfold wErr
  rw [if_neg (fun c => c ht), if_neg (fun c => c hk), if_neg (fun c => c hpf), hpl, if_neg (fun c => c rfl)]
end
end Go.Proofs.YtecbbmokocnadaaDoor
/-! Plain laws: by the word of a code each value has the text that it has by the code. -/
set_option linter.unusedVariables false
set_option linter.unusedSimpArgs false
namespace Go.Proofs.YtecbbmokocnadaaDoor
open Go.Ab

theorem got_zero : ∀ (l : List UInt8), (∀ d ∈ l, d = 48) → gotL 0 l = 0
  | [], _ => rfl
  | d :: l, h => by
    have hd := h d (by simp)
    subst hd
    rw [got_dig (by unfold dig; decide)]
    exact got_zero l fun x hx => h x (by simp [hx])
theorem dgL_some {L : Nat} {n : Int} (hn : amt n < 10 ^ L) (h0 : n ≠ 0) : (dgL (amt n) L).any (· != 48) = true := by
  have a0 : 0 < amt n := by unfold amt; split <;> omega
  obtain ⟨u, hu⟩ : ∃ u : Nat, amt n = u := ⟨(amt n).toNat, by omega⟩
  have hu2 : u < 10 ^ L := by
    have e : ((10 ^ L : Nat) : Int) = (10 : Int) ^ L := by simp
    omega
  have hg := got_dg L u hu2
  rw [hu]
  apply Decidable.byContradiction
  intro c
  have hall : ∀ d ∈ dgL (u : Int) L, d = 48 := by
    intro d hd
    apply Decidable.byContradiction
    intro c2
    exact c (List.any_eq_true.2 ⟨d, hd, by simpa using c2⟩)
  rw [got_zero _ hall] at hg
  omega

theorem editSame (x : (Int × (Int × Int)) × (Int × ByteArray) × (Int × Int)) (hc : 0 ≤ x.2.2.1 ∧ x.2.2.1 ≤ 255) : f309F 1000 x = some true := by
  obtain ⟨⟨kd, ln, sc⟩, ⟨n, s⟩, ⟨code, fill⟩⟩ := x
  unfold f309F
  simp only [awake_q, f326q hc.1 hc.2, f30q, bind_some', Bool.not_true, cond_false]
  by_cases hs : (s.size : Int) > 300
  · rw [bif_true (decide_eq_true hs)]
  · rw [bif_false (decide_eq_false hs)]
    by_cases he : edErr kd ln sc code fill = 0
    · by_cases hno : noWd ln sc code fill
      · have e : (wdR kd ln sc code fill).2 = 39 := by
          unfold wdR
          rw [if_neg (fun c => c he), if_pos hno]
        rw [bif_true (by rw [e]; rfl)]
      · have e : wdR kd ln sc code fill = (S (wdL (cmOf code) (nzOf code) (sgOf code) (ln.toNat - sc.toNat) sc.toNat fill), 0) := by
          unfold wdR
          rw [if_neg (fun c => c he), if_neg hno]
        rw [e, bif_false (by rfl)]
        obtain ⟨ht, hk, hl, hsc, hf, hcd, h78, hY⟩ := ed_ok he
        by_cases hv : valErr kd ln sc n s = 0
        · obtain ⟨⟨n0, n1⟩, ha⟩ := val_amt hv hk hl
          have hp : plainC code ∧ ¬ 78 ≤ code := by
            have h7 : ¬ 78 ≤ code := fun c => hno (Or.inr (Or.inl c))
            refine ⟨?_, h7⟩
            rcases hcd with hp | rfl | rfl | rfl
            · exact hp
            · exact absurd (by decide) h7
            · exact absurd (by decide) h7
            · exact absurd (by decide) h7
          have hs3 : sgOf code ≠ 3 := fun c => hp.2 ((plain78 hp.1).1 c)
          have hsr := sg_range (code := code)
          have hf2 : fill ≠ 2 := fun c => hno (Or.inl c)
          have hw : Wd (nzOf code) (sgOf code) (ln.toNat - sc.toNat) sc.toNat fill := by
            refine ⟨?_, by omega, fun hz => ?_, fun hz => ?_, by omega, by omega⟩
            · cases hz : nzOf code with
              | true =>
                have : ¬ (0 < sc ∨ fill = 1) := fun c => hno (Or.inr (Or.inr (Or.inl ⟨hz, c⟩)))
                omega
              | false =>
                have : ¬ (sc = ln ∨ ln = 1) := fun c => hno (Or.inr (Or.inr (Or.inr ⟨hz, c⟩)))
                omega
            · have : ¬ (0 < sc ∨ fill = 1) := fun c => hno (Or.inr (Or.inr (Or.inl ⟨hz, c⟩)))
              omega
            · have : ¬ (sc = ln ∨ ln = 1) := fun c => hno (Or.inr (Or.inr (Or.inr ⟨hz, c⟩)))
              omega
          have hcC : ln.toNat - sc.toNat + sc.toNat = ln.toNat := by omega
          have eL : ((ln.toNat - sc.toNat + sc.toNat : Nat) : Int) = ln := by omega
          have eC : ((sc.toNat : Nat) : Int) = sc := by omega
          have hr := wd_right (cm := cmOf code) hw (kd := kd) (by rw [eL, eC]; exact ht) hk
          rw [eL, eC] at hr
          have hr' : ¬ (wErr kd ln sc (wdL (cmOf code) (nzOf code) (sgOf code) (ln.toNat - sc.toNat) sc.toNat fill) ≠ 0) := fun c => c hr
          have hv' : ¬ (valErr kd ln sc n s ≠ 0) := fun c => c hv
          have he' : ¬ (edErr kd ln sc code fill ≠ 0) := fun c => c he
          have hx := wd_text (cm := cmOf code) hw n (by rw [hcC]; exact ha) (fun hz d hd => by
            subst hz
            have hd : d ∈ dgL 0 _ := hd
            rw [dgL_zero] at hd
            exact List.eq_of_mem_replicate hd) (fun hz => dgL_some (by rw [hcC]; exact ha) hz)
          rw [hcC] at hx
          rw [bif_false (by simpa using hv), f314q hc.1 hc.2]
          simp only [f318q, bind_some', if_neg he', if_neg hv']
          have hq : ebR kd ln sc n s (wdL (cmOf code) (nzOf code) (sgOf code) (ln.toNat - sc.toNat) sc.toNat fill) = (S (textL ln sc n code fill), 0) := by
            unfold ebR
            rw [if_neg hr', if_neg hv', hx]
            unfold textL
            simp only []
            rw [if_neg (by omega), if_neg (by omega), if_neg (by omega)]
          rw [hq]
          simp only [beq_self_eq_true, cond_true, strEq_self]
        · rw [bif_true (by simpa using hv)]
    · have e : (wdR kd ln sc code fill).2 = edErr kd ln sc code fill := by
        unfold wdR
        rw [if_pos (show edErr kd ln sc code fill ≠ 0 from he)]
      rw [bif_true (by rw [e]; simpa using he)]
end Go.Proofs.YtecbbmokocnadaaDoor
