/- Plain laws: products of the reference's long numbers. -/
import Derived.Test.YtioagofpofamiaaPB
/-! Plain laws: products of long numbers. -/
set_option linter.unusedVariables false
set_option linter.unusedSimpArgs false
namespace Go.Proofs.Ytioagofpofamiaa
open Go.Ab

theorem dig_getD {l : List Int} (h : Dig l) (i : Nat) : ∃ x : Nat, l.getD i 0 = (x : Int) ∧ x ≤ 9 := by
  by_cases hi : i < l.length
  · have e : l.getD i 0 = l[i] := by rw [List.getD_eq_getElem?_getD, List.getElem?_eq_getElem hi]; rfl
    have := h l[i] (List.getElem_mem hi)
    exact ⟨l[i].toNat, by rw [e]; omega, by omega⟩
  · exact ⟨0, by rw [List.getD_eq_getElem?_getD, List.getElem?_eq_none (by omega)]; rfl, by decide⟩
theorem dval_drop {l : List Int} {i x : Nat} (hx : l.getD i 0 = (x : Int)) : dval (l.drop i) = x + 10 * dval (l.drop (i + 1)) := by
  by_cases hi : i < l.length
  · rw [List.drop_eq_getElem_cons hi, dval]
    rw [List.getD_eq_getElem?_getD, List.getElem?_eq_getElem hi] at hx
    have hx : l[i] = (x : Int) := hx
    rw [hx, Int.toNat_natCast]
  · rw [List.drop_eq_nil_of_le (by omega), List.drop_eq_nil_of_le (by omega)]
    rw [List.getD_eq_getElem?_getD, List.getElem?_eq_none (by omega)] at hx
    simp only [Option.getD_none] at hx
    simp [dval]; omega

theorem f92l3_g {R : Type} (rec : List Int × List Int × Int × Int × List Int × Unit → Option R) (k0 : List Int × Unit → Option R) (la lb : List Int) (c i x y : Nat) (out : List Int) (hc : c ≤ 1) (hi : i < 1000) (ho : out.length < 1000)
    (hx : la.getD i 0 = (x : Int)) (hy : lb.getD i 0 = (y : Int)) (x9 : x ≤ 9) (y9 : y ≤ 9) :
    f92l3s 1000 rec k0 (la, lb, (c : Int), (i : Int), out, ()) = if i < la.length ∨ i < lb.length ∨ 0 < c then
      rec (la, lb, (((x + y + c) / 10 : Nat) : Int), ((i + 1 : Nat) : Int), out ++ [(((x + y + c) % 10 : Nat) : Int)], ()) else k0 (out, ()) := by
  have eo : ∀ z : Int, (decide ((out.length + [z].length) * 8 ≤ 140737488355328) && decide (out.length + [z].length ≤ 9223372036854775807)) = true := fun z => by simp; omega
  have ei : IntKind.i64.wrap ((i : Int) + 1) = ((i + 1 : Nat) : Int) := by rw [wi (by omega) (by omega)]; omega
  have e2 : Int.tmod ((x + y + c : Nat) : Int) 10 = (((x + y + c) % 10 : Nat) : Int) := by rw [Int.tmod_eq_emod_of_nonneg (by omega)]; omega
  have e3 : IntKind.i64.wrap (Int.tdiv ((x + y + c : Nat) : Int) 10) = (((x + y + c) / 10 : Nat) : Int) := by
    rw [Int.tdiv_eq_ediv_of_nonneg (by omega), wi (by omega) (by omega)]; omega
  have e1 : (c : Int) + x + y = ((x + y + c : Nat) : Int) := by omega
  have p1 : ∀ k0 : List Int × List Int × Int × Int × List Int × Unit → Option R, f92p1 1000 k0 (la, lb, (i : Int), (c : Int), out, ()) = k0 (la, lb, (i : Int), (c : Int) + x, out, ()) := by
    intro k0
    unfold f92p1
    simp only [Int.toNat_natCast, hx]
    by_cases h : i < la.length
    · rw [bif_true (by simp; omega), bif_true (by simp; omega), wi (by omega) (by omega)]
    · rw [bif_false (by simp; omega)]
      rw [List.getD_eq_getElem?_getD, List.getElem?_eq_none (by omega)] at hx
      simp only [Option.getD_none] at hx
      rw [← hx, Int.add_zero]
  have p2 : ∀ (k0 : List Int × List Int × Int × Int × List Int × Unit → Option R) (z : Int), 0 ≤ z → z ≤ 100 → f92p2 1000 k0 (la, lb, (i : Int), z, out, ()) = k0 (la, lb, (i : Int), z + y, out, ()) := by
    intro k0 z z0 z1
    unfold f92p2
    simp only [Int.toNat_natCast, hy]
    by_cases h : i < lb.length
    · rw [bif_true (by simp; omega), bif_true (by simp; omega), wi (by omega) (by omega)]
    · rw [bif_false (by simp; omega)]
      rw [List.getD_eq_getElem?_getD, List.getElem?_eq_none (by omega)] at hy
      simp only [Option.getD_none] at hy
      rw [← hy, Int.add_zero]
  unfold f92l3s
  simp only [p1]
  have body : ∀ (k0 : List Int × List Int × Int × Int × List Int × Unit → Option R), f92p2 1000 k0 (la, lb, (i : Int), (c : Int) + x, out, ()) = k0 (la, lb, (i : Int), ((x + y + c : Nat) : Int), out, ()) := fun k0 => by
    rw [p2 k0 _ (by omega) (by omega), e1]
  unfold f92p0
  simp only [p1, body, e2, e3, eo, ei, cond_true]
  by_cases h1 : i < la.length
  · rw [if_pos (.inl h1), bif_true (by simp; omega)]
  rw [bif_false (by simp; omega)]
  by_cases h2 : i < lb.length
  · rw [if_pos (.inr (.inl h2)), bif_true (by simp; omega)]
  rw [bif_false (by simp; omega)]
  by_cases h3 : 0 < c
  · rw [if_pos (.inr (.inr h3)), bif_true (by simp; omega)]
  · rw [if_neg (by omega), bif_false (by simp; omega)]

theorem f92g {la lb : List Int} (ha : Dig la) (hb : Dig lb) (hal : la.length ≤ 400) (hbl : lb.length ≤ 400) :
    ∃ L, f92F 1000 (la, lb) = some L ∧ Dig L ∧ dval L = dval la + dval lb ∧ L.length ≤ max la.length lb.length + 1 := by
  unfold f92F f92l3
  have key : ∀ (d i c : Nat) (out : List Int), max la.length lb.length - i = d → c ≤ 1 → i + d ≤ 401 → out.length ≤ i →
      ∃ L, iterS (fun rec v => f92l3s 1000 rec (fun (w7 : List Int × Unit) => some w7.1) v) (1000 - i) (la, lb, (c : Int), (i : Int), out, ()) = some (out ++ L) ∧ Dig L ∧ dval L = dval (la.drop i) + dval (lb.drop i) + c ∧ L.length ≤ d + 1 := by
    intro d
    induction d with
    | zero =>
      intro i c out hd hc hi ho
      obtain ⟨x, hx, x9⟩ := dig_getD ha i
      obtain ⟨y, hy, y9⟩ := dig_getD hb i
      have l1 : la.length ≤ i := by omega
      have l2 : lb.length ≤ i := by omega
      rw [show 1000 - i = (1000 - (i + 1)) + 1 by omega, iter_one, f92l3_g _ _ _ _ _ _ _ _ _ hc (by omega) (by omega) hx hy x9 y9]
      rw [List.getD_eq_getElem?_getD, List.getElem?_eq_none (by omega)] at hx hy
      simp only [Option.getD_none] at hx hy
      have hx0 : x = 0 := by omega
      have hy0 : y = 0 := by omega
      subst hx0 hy0
      rw [List.drop_eq_nil_of_le l1, List.drop_eq_nil_of_le l2]
      by_cases h : 0 < c
      · have hc1 : c = 1 := by omega
        subst hc1
        rw [if_pos (by omega), show 1000 - (i + 1) = (1000 - (i + 2)) + 1 by omega, iter_one]
        rw [f92l3_g _ _ la lb ((0 + 0 + 1) / 10) (i + 1) 0 0 _ (by decide) (by omega) (by simp; omega) (by rw [List.getD_eq_getElem?_getD, List.getElem?_eq_none (by omega)]; rfl) (by rw [List.getD_eq_getElem?_getD, List.getElem?_eq_none (by omega)]; rfl) (by decide) (by decide), if_neg (by omega)]
        exact ⟨[1], rfl, Dig.cons.2 ⟨by omega, Dig.nil⟩, rfl, by simp⟩
      · have hc0 : c = 0 := by omega
        subst hc0
        rw [if_neg (by omega)]
        exact ⟨[], by simp, Dig.nil, rfl, by simp⟩
    | succ d ih =>
      intro i c out hd hc hi ho
      obtain ⟨x, hx, x9⟩ := dig_getD ha i
      obtain ⟨y, hy, y9⟩ := dig_getD hb i
      rw [show 1000 - i = (1000 - (i + 1)) + 1 by omega, iter_one, f92l3_g _ _ _ _ _ _ _ _ _ hc (by omega) (by omega) hx hy x9 y9, if_pos (by omega)]
      obtain ⟨L, h1, h2, h3, h4⟩ := ih (i + 1) ((x + y + c) / 10) (out ++ [(((x + y + c) % 10 : Nat) : Int)]) (by omega) (by omega) (by omega) (by simp; omega)
      rw [h1]
      refine ⟨(((x + y + c) % 10 : Nat) : Int) :: L, by simp, Dig.cons.2 ⟨by omega, h2⟩, ?_, by simp; omega⟩
      rw [dval, h3, dval_drop hx, dval_drop hy, Int.toNat_natCast]
      omega
  obtain ⟨L, h1, h2, h3, h4⟩ := key (max la.length lb.length) 0 0 [] (by omega) (by decide) (by omega) (by simp)
  rw [Nat.sub_zero] at h1
  exact ⟨L, by rw [show (0 : Int) = ((0 : Nat) : Int) from rfl, h1, List.nil_append], h2, by simpa using h3, h4⟩
end Go.Proofs.Ytioagofpofamiaa
/-! Plain laws: products of long numbers. -/
set_option linter.unusedVariables false
set_option linter.unusedSimpArgs false
namespace Go.Proofs.Ytioagofpofamiaa
open Go.Ab

theorem f98l2_step {R : Type} (rec : Int × Int × Int × Bool × List Int × Bool × List Int × Bool × List Int × List Int × Unit → Option R) (k0 : Int × Bool × List Int × Bool × List Int × Bool × List Int × List Int × Unit → Option R)
    (A B i k c : Nat) (ba bb fl : Bool) (out row : List Int) (hc : c ≤ 9) (hi : i < (dg B).length) (hk : k < 1000) (hr : row.length < 1000) :
    f98l2s 1000 rec k0 ((i : Int), (c : Int), (k : Int), ba, dg A, bb, dg B, fl, out, row, ()) = if k < (dg A).length ∨ 0 < c then
      rec ((i : Int), (((A / 10 ^ k % 10 * (B / 10 ^ i % 10) + c) / 10 : Nat) : Int), ((k + 1 : Nat) : Int), ba, dg A, bb, dg B, fl, out, row ++ [(((A / 10 ^ k % 10 * (B / 10 ^ i % 10) + c) % 10 : Nat) : Int)], ())
      else k0 ((i : Int), ba, dg A, bb, dg B, fl, out, row, ()) := by
  have hx : A / 10 ^ k % 10 ≤ 9 := Nat.le_of_lt_succ (Nat.mod_lt _ (by decide))
  have hy : B / 10 ^ i % 10 ≤ 9 := Nat.le_of_lt_succ (Nat.mod_lt _ (by decide))
  have hxy : A / 10 ^ k % 10 * (B / 10 ^ i % 10) ≤ 9 * 9 := Nat.mul_le_mul hx hy
  have p1 : ∀ k0 : Int × Int × Int × Bool × List Int × Bool × List Int × Bool × List Int × List Int × Unit → Option R, f98p1 1000 k0 ((i : Int), (k : Int), (c : Int), ba, dg A, bb, dg B, fl, out, row, ()) = k0 ((i : Int), (k : Int), ((A / 10 ^ k % 10 * (B / 10 ^ i % 10) + c : Nat) : Int), ba, dg A, bb, dg B, fl, out, row, ()) := by
    intro k0
    unfold f98p1
    simp only [Int.toNat_natCast, dg_getD]
    by_cases h : k < (dg A).length
    · rw [bif_true (by simp; omega), bif_true (by simp; omega), bif_true (by simp; omega)]
      have e : ((A / 10 ^ k % 10 : Nat) : Int) * ((B / 10 ^ i % 10 : Nat) : Int) = ((A / 10 ^ k % 10 * (B / 10 ^ i % 10) : Nat) : Int) := by simp
      rw [e]
      generalize A / 10 ^ k % 10 * (B / 10 ^ i % 10) = z at *
      rw [wi (x := (z : Int)) (by omega) (by omega), wi (by omega) (by omega), show (c : Int) + z = ((z + c : Nat) : Int) by omega]
    · rw [bif_false (by simp; omega)]
      have : A / 10 ^ k = 0 := Nat.eq_zero_of_not_pos (fun c => h (at_len.2 c))
      rw [this]
      simp
  unfold f98l2s
  simp only [p1]
  generalize A / 10 ^ k % 10 * (B / 10 ^ i % 10) = z at *
  have eo : ∀ z : Int, (decide ((row.length + [z].length) * 8 ≤ 140737488355328) && decide (row.length + [z].length ≤ 9223372036854775807)) = true := fun z => by simp; omega
  have ei : IntKind.i64.wrap ((k : Int) + 1) = ((k + 1 : Nat) : Int) := by rw [wi (by omega) (by omega)]; omega
  have e2 : Int.tmod ((z + c : Nat) : Int) 10 = (((z + c) % 10 : Nat) : Int) := by rw [Int.tmod_eq_emod_of_nonneg (by omega)]; omega
  have e3 : IntKind.i64.wrap (Int.tdiv ((z + c : Nat) : Int) 10) = (((z + c) / 10 : Nat) : Int) := by
    rw [Int.tdiv_eq_ediv_of_nonneg (by omega), wi (by omega) (by omega)]; omega
  unfold f98p0
  simp only [p1, e2, e3, eo, ei, cond_true]
  by_cases h1 : k < (dg A).length
  · rw [if_pos (.inl h1), bif_true (by simp; omega)]
  rw [bif_false (by simp; omega)]
  by_cases h3 : 0 < c
  · rw [if_pos (.inr h3), bif_true (by simp; omega)]
  · rw [if_neg (by omega), bif_false (by simp; omega)]

theorem f98l2q {R : Type} (k0 : Int × Bool × List Int × Bool × List Int × Bool × List Int × List Int × Unit → Option R) (A B i : Nat) (ba bb fl : Bool) (out : List Int) (hi : i < (dg B).length) (hA : (dg A).length ≤ 200) :
    ∀ (d k c : Nat) (row : List Int), (dg A).length - k = d → c ≤ 9 → k ≤ 201 → row.length + d < 500 →
      ∃ L, iterS (fun rec v => f98l2s 1000 rec k0 v) (1000 - k) ((i : Int), (c : Int), (k : Int), ba, dg A, bb, dg B, fl, out, row, ()) = k0 ((i : Int), ba, dg A, bb, dg B, fl, out, row ++ L, ()) ∧ Dig L ∧ dval L = A / 10 ^ k * (B / 10 ^ i % 10) + c ∧ L.length ≤ d + 1 := by
  have hy : B / 10 ^ i % 10 ≤ 9 := Nat.le_of_lt_succ (Nat.mod_lt _ (by decide))
  have hx : ∀ k, A / 10 ^ k % 10 ≤ 9 := fun k => Nat.le_of_lt_succ (Nat.mod_lt _ (by decide))
  have hxy : ∀ k, A / 10 ^ k % 10 * (B / 10 ^ i % 10) ≤ 9 * 9 := fun k => Nat.mul_le_mul (hx k) hy
  intro d
  induction d with
  | zero =>
    intro k c row hd hc hk hr
    have hz : A / 10 ^ k = 0 := Nat.eq_zero_of_not_pos (fun c => by have := (at_len (a := A) (i := k)).2 c; omega)
    have hz1 : A / 10 ^ (k + 1) = 0 := by rw [Nat.pow_succ, ← Nat.div_div_eq_div_mul, hz]
    rw [show 1000 - k = (1000 - (k + 1)) + 1 by omega, iter_one, f98l2_step _ _ _ _ _ _ _ _ _ _ _ _ hc hi (by omega) (by omega)]
    by_cases h : 0 < c
    · rw [if_pos (.inr h), hz, Nat.zero_mod, Nat.zero_mul, Nat.zero_add, show 1000 - (k + 1) = (1000 - (k + 2)) + 1 by omega, iter_one]
      rw [f98l2_step _ _ _ _ _ _ _ _ _ _ _ _ (by omega) hi (by omega) (by simp; omega), if_neg (by omega)]
      exact ⟨[((c % 10 : Nat) : Int)], rfl, Dig.cons.2 ⟨by omega, Dig.nil⟩, by simp [dval]; omega, by simp⟩
    · have hc0 : c = 0 := by omega
      subst hc0
      rw [if_neg (by omega), hz]
      exact ⟨[], by simp, Dig.nil, by simp [dval], by simp⟩
  | succ d ih =>
    intro k c row hd hc hk hr
    have hz := hxy k
    rw [show 1000 - k = (1000 - (k + 1)) + 1 by omega, iter_one, f98l2_step _ _ _ _ _ _ _ _ _ _ _ _ hc hi (by omega) (by omega), if_pos (.inl (by omega))]
    obtain ⟨L, h1, h2, h3, h4⟩ := ih (k + 1) ((A / 10 ^ k % 10 * (B / 10 ^ i % 10) + c) / 10) (row ++ [(((A / 10 ^ k % 10 * (B / 10 ^ i % 10) + c) % 10 : Nat) : Int)]) (by omega) (by omega) (by omega) (by simp; omega)
    rw [h1]
    refine ⟨(((A / 10 ^ k % 10 * (B / 10 ^ i % 10) + c) % 10 : Nat) : Int) :: L, by simp, Dig.cons.2 ⟨by omega, h2⟩, ?_, by simp; omega⟩
    rw [dval, h3, Int.toNat_natCast]
    have e : A / 10 ^ k = A / 10 ^ k % 10 + 10 * (A / 10 ^ (k + 1)) := by
      rw [Nat.pow_succ, ← Nat.div_div_eq_div_mul]; omega
    have e2 : A / 10 ^ k * (B / 10 ^ i % 10) = A / 10 ^ k % 10 * (B / 10 ^ i % 10) + 10 * (A / 10 ^ (k + 1) * (B / 10 ^ i % 10)) := by
      rw [← Nat.mul_assoc, ← Nat.add_mul, ← e]
    rw [e2]
    generalize A / 10 ^ k % 10 * (B / 10 ^ i % 10) = z at *
    generalize A / 10 ^ (k + 1) * (B / 10 ^ i % 10) = w at *
    omega

theorem f98l3_step {R : Type} (rec : Int × Bool × List Int × Bool × List Int × Bool × List Int × Unit → Option R) (k0 : Bool × List Int × Bool × List Int × Bool × List Int × Unit → Option R)
    (A B i : Nat) (ba bb fl : Bool) (out : List Int) (hi : i < (dg B).length) (hA : (dg A).length ≤ 100) (hB : (dg B).length ≤ 100) (ho : Dig out) (hol : out.length ≤ (dg A).length + 1 + i) (hv : dval out = A * (B % 10 ^ i)) :
    ∃ out', f98l3s 1000 rec k0 ((i : Int), ba, dg A, bb, dg B, fl, out, ()) = rec (((i + 1 : Nat) : Int), ba, dg A, bb, dg B, fl, out', ()) ∧ Dig out' ∧ out'.length ≤ (dg A).length + 1 + (i + 1) ∧ dval out' = A * (B % 10 ^ (i + 1)) := by
  unfold f98l3s
  simp only [Int.toNat_natCast]
  rw [bif_true (by simp; omega), bif_true (by simp; omega)]
  unfold f98l2
  obtain ⟨L, h1, h2, h3, h4⟩ := f98l2q (fun (w5 : Int × Bool × List Int × Bool × List Int × Bool × List Int × List Int × Unit) =>
        Option.bind (f92F 1000 (w5.2.2.2.2.2.2.1, w5.2.2.2.2.2.2.2.1)) fun y6 =>
        rec ((IntKind.i64.wrap (w5.1 + (1 : Int))), w5.2.1, w5.2.2.1, w5.2.2.2.1, w5.2.2.2.2.1, w5.2.2.2.2.2.1, y6, ())) A B i ba bb fl out hi (by omega) (dg A).length 0 0 (List.replicate i 0) (by omega) (by decide) (by decide) (by simp; omega)
  rw [Nat.sub_zero] at h1
  obtain ⟨M, g1, g2, g3, g4⟩ := f92g ho (Dig.app.2 ⟨Dig.zeros i, h2⟩) (by omega) (by simp; omega)
  refine ⟨M, ?_, g2, ?_, ?_⟩
  · refine h1.trans ?_
    simp only []
    rw [g1, bind_some', wi (by omega) (by omega)]
    rfl
  · simp only [List.length_append, List.length_replicate] at g4
    omega
  · rw [g3, hv, dval_app, dval_zeros, h3, List.length_replicate, Nat.pow_zero, Nat.div_one, Nat.mod_pow_succ, Nat.add_zero, Nat.zero_add, Nat.mul_add A, Nat.mul_left_comm A]

theorem f98q {A B : Nat} {ba bb : Bool} (hA : (dg A).length ≤ 100) (hB : (dg B).length ≤ 100) : f98F 1000 ((ba, dg A), (bb, dg B)) = some ((ba != bb) && decide (0 < A * B), dg (A * B)) := by
  unfold f98F f98l3
  have key : ∀ (d i : Nat) (out : List Int), (dg B).length - i = d → i ≤ (dg B).length → Dig out → out.length ≤ (dg A).length + 1 + i → dval out = A * (B % 10 ^ i) →
      iterS (fun rec v => f98l3s 1000 rec (fun (w7 : Bool × List Int × Bool × List Int × Bool × List Int × Unit) =>
      Option.bind (f95F 1000 w7.2.2.2.2.2.1) fun y8 =>
      bif (!(w7.1 == w7.2.2.1)) then
        some ((decide ((y8.length : Int) > (0 : Int))), y8)
      else
      some (false, y8)) v) (1000 - i) ((i : Int), ba, dg A, bb, dg B, false, out, ()) = some ((ba != bb) && decide (0 < A * B), dg (A * B)) := by
    intro d
    induction d with
    | zero =>
      intro i out hd hi ho hl hv
      have hi' : i = (dg B).length := by omega
      subst hi'
      rw [show 1000 - (dg B).length = (999 - (dg B).length) + 1 by omega, iter_one]
      unfold f98l3s
      rw [bif_false (by simp)]
      simp only []
      rw [f95q ho (by omega), bind_some', tr, hv, Nat.mod_eq_of_lt (dg_len_pow B), dec_len]
      cases ba <;> cases bb <;> simp
    | succ d ih =>
      intro i out hd hi ho hl hv
      rw [show 1000 - i = (1000 - (i + 1)) + 1 by omega, iter_one]
      obtain ⟨out', e, h1, h2, h3⟩ := f98l3_step (iterS (fun rec v => f98l3s 1000 rec (fun (w7 : Bool × List Int × Bool × List Int × Bool × List Int × Unit) =>
        Option.bind (f95F 1000 w7.2.2.2.2.2.1) fun y8 =>
        bif (!(w7.1 == w7.2.2.1)) then
          some ((decide ((y8.length : Int) > (0 : Int))), y8)
        else
        some (false, y8)) v) (1000 - (i + 1))) (fun (w7 : Bool × List Int × Bool × List Int × Bool × List Int × Unit) =>
        Option.bind (f95F 1000 w7.2.2.2.2.2.1) fun y8 =>
        bif (!(w7.1 == w7.2.2.1)) then
          some ((decide ((y8.length : Int) > (0 : Int))), y8)
        else
        some (false, y8)) A B i ba bb false out (by omega) hA hB ho hl hv
      rw [e, ih (i + 1) out' (by omega) (by omega) h1 h2 h3]
  have := key (dg B).length 0 [] (by omega) (by omega) Dig.nil (by simp) (by simp [Nat.mod_one, dval])
  rw [Nat.sub_zero] at this
  exact this
end Go.Proofs.Ytioagofpofamiaa
/-! Plain laws: the exact result of two numbers, by the code. -/
set_option linter.unusedVariables false
set_option linter.unusedSimpArgs false
namespace Go.Proofs.Ytioagofpofamiaa
open Go.Ab

theorem f107any (k : Nat) {a b : Wd} (h : OkW a) (g : OkW b) : ∃ c, f107F k (a, b) = some c := by
  obtain ⟨a0, a1, a2, a3⟩ := a
  obtain ⟨b0, b1, b2, b3⟩ := b
  obtain ⟨h1, h2, h3, h4, h5, h6, h7, h8⟩ := h
  obtain ⟨g1, g2, g3, g4, g5, g6, g7, g8⟩ := g
  simp only at h1 h2 h3 h4 h5 h6 h7 h8 g1 g2 g3 g4 g5 g6 g7 g8
  unfold f107F
  simp only
  have c0 : (decide ((0 : Int) ≤ a0) && (decide ((0 : Int) ≤ b0) && (decide (b0 ≤ 18446744073709551615) && (decide ((0 : Int) ≤ (0 : Int)) && decide ((0 : Int) ≤ 1))))) = true := by simp; omega
  rw [c0]
  simp only [cond_true]
  generalize e1 : (if a0 < b0 + 0 then (1 : Int) else 0) = k1
  have x1 : 0 ≤ k1 ∧ k1 ≤ 1 ∧ (k1 = 1 ↔ a0 < b0) := by rw [← e1]; split <;> omega
  have c1 : (decide ((0 : Int) ≤ a1) && (decide ((0 : Int) ≤ b1) && (decide (b1 ≤ 18446744073709551615) && (decide ((0 : Int) ≤ k1) && decide (k1 ≤ 1))))) = true := by simp; omega
  rw [c1]
  simp only [cond_true]
  generalize e2 : (if a1 < b1 + k1 then (1 : Int) else 0) = k2
  have x2 : 0 ≤ k2 ∧ k2 ≤ 1 ∧ (k2 = 1 ↔ a1 < b1 + k1) := by rw [← e2]; split <;> omega
  have c2 : (decide ((0 : Int) ≤ a2) && (decide ((0 : Int) ≤ b2) && (decide (b2 ≤ 18446744073709551615) && (decide ((0 : Int) ≤ k2) && decide (k2 ≤ 1))))) = true := by simp; omega
  rw [c2]
  simp only [cond_true]
  generalize e3 : (if a2 < b2 + k2 then (1 : Int) else 0) = k3
  have x3 : 0 ≤ k3 ∧ k3 ≤ 1 ∧ (k3 = 1 ↔ a2 < b2 + k2) := by rw [← e3]; split <;> omega
  have c3 : (decide ((0 : Int) ≤ a3) && (decide ((0 : Int) ≤ b3) && (decide (b3 ≤ 18446744073709551615) && (decide ((0 : Int) ≤ k3) && decide (k3 ≤ 1))))) = true := by simp; omega
  rw [c3]
  simp only [cond_true]
  exact ⟨_, rfl⟩

/-- A fraction that the code has made. -/
def CodeRes (f : Option (Bool × ((Int × (Int × (Int × Int))) × (Int × (Int × (Int × Int)))))) (num : Int) (den : Nat) : Prop :=
  ∃ (bl : Bool) (a d : Wd) (t : Nat), f = some (bl, ((a.1, (a.2.1, (a.2.2.1, a.2.2.2))), (d.1, (d.2.1, (d.2.2.1, d.2.2.2))))) ∧ OkW a ∧ OkW d ∧ W a = (t : Int) ∧ W d = (den : Int) ∧ sg (bl, t) = num ∧ t ≤ 10 ^ 31

theorem amt_le {n : Int} {z : Nat} (a0 : -999999999999999 ≤ n) (a1 : n ≤ 999999999999999) (hz : z ≤ 15) : n.natAbs * 10 ^ z ≤ 999999999999999 * 1000000000000000 :=
  Nat.mul_le_mul (by omega) (Nat.pow_le_pow_right (n := 10) (by decide) hz)
theorem pow_le31 {z : Nat} (hz : z ≤ 30) : 10 ^ z ≤ 1000000000000000000000000000000 := Nat.pow_le_pow_right (n := 10) (by decide) hz

theorem f85one {z : Nat} (hz : z ≤ 30) : ∃ d, f85F 1000 (((1 : Int), ((0 : Int), ((0 : Int), (0 : Int)))), (z : Int)) = some d ∧ OkW d ∧ W d = ((10 ^ z : Nat) : Int) := by
  have h := pow_le31 hz
  obtain ⟨d, hd, od, wd⟩ := f85q (a := (1, 0, 0, 0)) (n := z) one_ok.1 (by omega) (by rw [one_ok.2, Int.one_mul, pow_nat]; unfold big; omega)
  rw [one_ok.2, Int.one_mul, pow_nat] at wd
  exact ⟨d, hd, od, wd⟩

theorem f109q {n1 s1 n2 s2 : Int} (a0 : -999999999999999 ≤ n1) (a1 : n1 ≤ 999999999999999) (b0 : -999999999999999 ≤ n2) (b1 : n2 ≤ 999999999999999) (s10 : 0 ≤ s1) (s11 : s1 ≤ 15) (s20 : 0 ≤ s2) (s21 : s2 ≤ 15) :
    CodeRes (f109F 1000 ((n1, s1), (n2, s2))) (n1 * 10 ^ (max s1 s2 - s1).toNat + n2 * 10 ^ (max s1 s2 - s2).toNat) (10 ^ (max s1 s2).toNat) := by
  have m1 : s1 ≤ max s1 s2 := Int.le_max_left ..
  have m2 : s2 ≤ max s1 s2 := Int.le_max_right ..
  have m3 : max s1 s2 ≤ 15 := Int.max_le.2 ⟨s11, s21⟩
  obtain ⟨M, hM⟩ : ∃ M : Nat, max s1 s2 = M := ⟨(max s1 s2).toNat, by omega⟩
  obtain ⟨a, b, hab, oa, ob, wa, wb⟩ := f62q a0 a1 b0 b1 s10 s11 s20 s21
  have la := amt_le (z := (max s1 s2 - s1).toNat) a0 a1 (by omega)
  have lb := amt_le (z := (max s1 s2 - s2).toNat) b0 b1 (by omega)
  have g1 := sg_long n1 (max s1 s2 - s1).toNat
  have g2 := sg_long n2 (max s1 s2 - s2).toNat
  rw [← g1, ← g2]
  generalize n1.natAbs * 10 ^ (max s1 s2 - s1).toNat = x at *
  generalize n2.natAbs * 10 ^ (max s1 s2 - s2).toNat = y at *
  obtain ⟨d, hd, od, wd⟩ := f85one (z := M) (by omega)
  obtain ⟨c, hc, oc, wc⟩ := f87q 1000 oa ob (by rw [wa, wb]; unfold big; omega)
  rw [wa, wb] at wc
  have hc' : f87F 1000 ((a.1, (a.2.1, (a.2.2.1, a.2.2.2))), (b.1, (b.2.1, (b.2.2.1, b.2.2.2)))) = some c := hc
  have e1 : f63F 1000 ((a.1, (a.2.1, (a.2.2.1, a.2.2.2))), (b.1, (b.2.1, (b.2.2.1, b.2.2.2)))) = some (if W a < W b then -1 else if W b < W a then 1 else 0) := f63q 1000 oa ob
  have e0 : (max s1 s2).toNat = M := by omega
  rw [e0]
  rw [hM] at hab
  unfold f109F f84F f109p0
  rw [hab]
  simp only [bind_some', hc', hd]
  by_cases hs : decide (n1 < 0) = decide (n2 < 0)
  · rw [bif_false (by simp [hs])]
    refine ⟨decide (n1 < 0), c, d, x + y, rfl, oc, od, by rw [wc]; simp, wd, ?_, by omega⟩
    rw [hs]
    unfold sg
    cases decide (n2 < 0) <;> simp
    omega
  · rw [bif_true (by simp only [Bool.not_eq_true', beq_eq_false_iff_ne]; exact hs)]
    obtain ⟨u, hu⟩ := f107any 1000 oa ob
    have hu' : f107F 1000 ((a.1, (a.2.1, (a.2.2.1, a.2.2.2))), (b.1, (b.2.1, (b.2.2.1, b.2.2.2)))) = some u := hu
    simp only [hu', e1, bind_some']
    by_cases hl : x < y
    · obtain ⟨v, hv, ov, wv⟩ := f107q 1000 ob oa (by rw [wa, wb]; omega)
      have hv' : f107F 1000 ((b.1, (b.2.1, (b.2.2.1, b.2.2.2))), (a.1, (a.2.1, (a.2.2.1, a.2.2.2)))) = some v := hv
      rw [wa, wb] at wv
      have hlt : decide ((if W a < W b then (-1 : Int) else if W b < W a then 1 else 0) < 0) = true := by
        rw [wa, wb, if_pos (by omega)]; rfl
      rw [hlt, hv']
      simp only [cond_true, bind_some']
      refine ⟨decide (n2 < 0), v, d, y - x, rfl, ov, od, by rw [wv]; omega, wd, ?_, by omega⟩
      unfold sg
      cases h1 : decide (n1 < 0) <;> cases h2 : decide (n2 < 0) <;> simp [h1, h2] at hs ⊢ <;> omega
    · obtain ⟨v, hv, ov, wv⟩ := f107q 1000 oa ob (by rw [wa, wb]; omega)
      have huv : u = v := by rw [hu] at hv; exact Option.some.inj hv
      subst huv
      rw [wa, wb] at wv
      have hlt : decide ((if W a < W b then (-1 : Int) else if W b < W a then 1 else 0) < 0) = false := by
        rw [wa, wb, if_neg (by omega)]
        split <;> rfl
      rw [hlt]
      simp only [cond_false]
      refine ⟨decide (n1 < 0), u, d, x - y, rfl, ov, od, by rw [wv]; omega, wd, ?_, by omega⟩
      unfold sg
      cases h1 : decide (n1 < 0) <;> cases h2 : decide (n2 < 0) <;> simp [h1, h2] at hs ⊢ <;> omega

/-- The exact result of two numbers. -/
def resN (op n1 s1 n2 s2 : Int) : Int × Nat :=
  if op = 0 then (n1 * 10 ^ (max s1 s2 - s1).toNat + n2 * 10 ^ (max s1 s2 - s2).toNat, 10 ^ (max s1 s2).toNat)
  else if op = 1 then (n1 * 10 ^ (max s1 s2 - s1).toNat - n2 * 10 ^ (max s1 s2 - s2).toNat, 10 ^ (max s1 s2).toNat)
  else if op = 2 then (n1 * n2, 10 ^ (s1 + s2).toNat)
  else if op = 3 then (sg (decide (n1 < 0) != decide (n2 < 0), n1.natAbs * 10 ^ s2.toNat), n2.natAbs * 10 ^ s1.toNat)
  else (sg (decide (n1 < 0), (n1.natAbs * 10 ^ (max s1 s2 - s1).toNat) % (n2.natAbs * 10 ^ (max s1 s2 - s2).toNat)), 10 ^ (max s1 s2).toNat)

theorem f97q {op n1 s1 n2 s2 : Int} (o0 : 0 ≤ op) (o1 : op ≤ 4) (a0 : -999999999999999 ≤ n1) (a1 : n1 ≤ 999999999999999) (b0 : -999999999999999 ≤ n2) (b1 : n2 ≤ 999999999999999) (s10 : 0 ≤ s1) (s11 : s1 ≤ 15) (s20 : 0 ≤ s2) (s21 : s2 ≤ 15)
    (hz : op = 3 ∨ op = 4 → n2 ≠ 0) : CodeRes (f97F 1000 (op, (n1, s1), (n2, s2))) (resN op n1 s1 n2 s2).1 (resN op n1 s1 n2 s2).2 := by
  have m1 : s1 ≤ max s1 s2 := Int.le_max_left ..
  have m2 : s2 ≤ max s1 s2 := Int.le_max_right ..
  have m3 : max s1 s2 ≤ 15 := Int.max_le.2 ⟨s11, s21⟩
  have cases5 : op = 0 ∨ op = 1 ∨ op = 2 ∨ op = 3 ∨ op = 4 := by omega
  rcases cases5 with rfl | rfl | rfl | rfl | rfl
  · obtain ⟨bl, a, d, t, h, r⟩ := f109q a0 a1 b0 b1 s10 s11 s20 s21
    refine ⟨bl, a, d, t, ?_, r⟩
    unfold f97F
    simp only []
    rw [bif_true (by rfl), h]
    rfl
  · obtain ⟨bl, a, d, t, h, r⟩ := f109q (n2 := 0 - n2) a0 a1 (by omega) (by omega) s10 s11 s20 s21
    refine ⟨bl, a, d, t, ?_, ?_⟩
    · unfold f97F
      simp only []
      rw [bif_false (by rfl), bif_true (by rfl), wi (by omega) (by omega), h]
      rfl
    · have e : (0 - n2) * 10 ^ (max s1 s2 - s2).toNat = -(n2 * 10 ^ (max s1 s2 - s2).toNat) := by rw [Int.zero_sub, Int.neg_mul]
      rw [e, ← Int.sub_eq_add_neg] at r
      exact r
  · obtain ⟨S1, rfl⟩ : ∃ S : Nat, s1 = S := ⟨s1.toNat, by omega⟩
    obtain ⟨S2, rfl⟩ : ∃ S : Nat, s2 = S := ⟨s2.toNat, by omega⟩
    obtain ⟨a, ha, oa, wa⟩ := f83q (n := n1) (s := (S1 : Int)) (m := 0) a0 a1 (by omega)
    rw [Int.pow_zero, Int.mul_one, amt_nat] at wa
    have ha' : f83F 1000 ((n1, (S1 : Int)), (0 : Int)) = some a := ha
    have hm : IntKind.u64.wrap (mxI n2 (IntKind.i64.wrap (0 - n2))) = (n2.natAbs : Int) := by
      have h := mx_abs (n := n2) (by omega) (by omega)
      rw [h, wu64]
      split <;> omega
    have hp : n1.natAbs * n2.natAbs ≤ 999999999999999 * 999999999999999 := Nat.mul_le_mul (by omega) (by omega)
    have hpi : (n1.natAbs : Int) * (n2.natAbs : Int) = ((n1.natAbs * n2.natAbs : Nat) : Int) := by simp
    obtain ⟨b, hb, ob, wb⟩ := f106q 1000 (a := a) (n := (n2.natAbs : Int)) oa (by omega) (by omega) (by rw [wa, hpi]; unfold big; omega)
    rw [wa, hpi] at wb
    have hb' : f106F 1000 ((a.1, (a.2.1, (a.2.2.1, a.2.2.2))), (n2.natAbs : Int)) = some b := hb
    obtain ⟨d, hd, od, wd⟩ := f85one (z := S1 + S2) (by omega)
    have hS : IntKind.i64.wrap ((S1 : Int) + (S2 : Int)) = ((S1 + S2 : Nat) : Int) := by rw [wi (by omega) (by omega)]; omega
    refine ⟨!(decide (n1 < 0) == decide (n2 < 0)), b, d, n1.natAbs * n2.natAbs, ?_, ob, od, wb, ?_, ?_, by omega⟩
    · unfold f97F f84F
      simp only []
      rw [bif_false (by rfl), bif_false (by rfl), bif_true (by rfl), ha']
      simp only [bind_some', hm, hb', hS, hd]
    · rw [wd]
      unfold resN
      rw [if_neg (by decide), if_neg (by decide), if_pos rfl, show ((S1 : Int) + S2).toNat = S1 + S2 by omega]
    · unfold resN
      rw [if_neg (by decide), if_neg (by decide), if_pos rfl]
      unfold sg
      simp only []
      by_cases h1 : n1 < 0
      · by_cases h2 : n2 < 0
        · rw [show (n1.natAbs : Nat) = (-n1).natAbs by simp, show (n2.natAbs : Nat) = (-n2).natAbs by simp]
          simp only [h1, h2, decide_true, beq_self_eq_true, Bool.not_true, Bool.false_eq_true, if_false]
          have e : (((-n1).natAbs * (-n2).natAbs : Nat) : Int) = (-n1) * (-n2) := by rw [← Int.natAbs_mul]; exact Int.natAbs_of_nonneg (Int.mul_nonneg (by omega) (by omega))
          rw [e, Int.neg_mul_neg]
        · simp only [h1, h2, decide_true, decide_false]
          have e : ((n1.natAbs * n2.natAbs : Nat) : Int) = (-n1) * n2 := by
            rw [show n1.natAbs = (-n1).natAbs by simp, ← Int.natAbs_mul]; exact Int.natAbs_of_nonneg (Int.mul_nonneg (by omega) (by omega))
          rw [e]
          simp only [Bool.true_beq, Bool.not_false, if_true]
          rw [Int.neg_mul, Int.neg_neg]
      · by_cases h2 : n2 < 0
        · simp only [h1, h2, decide_true, decide_false]
          have e : ((n1.natAbs * n2.natAbs : Nat) : Int) = n1 * (-n2) := by
            rw [show n2.natAbs = (-n2).natAbs by simp, ← Int.natAbs_mul]; exact Int.natAbs_of_nonneg (Int.mul_nonneg (by omega) (by omega))
          rw [e]
          simp only [Bool.false_beq, Bool.not_true, Bool.not_false, if_true]
          rw [Int.mul_neg, Int.neg_neg]
        · simp only [h1, h2, decide_false]
          have e : ((n1.natAbs * n2.natAbs : Nat) : Int) = n1 * n2 := by
            rw [← Int.natAbs_mul]; exact Int.natAbs_of_nonneg (Int.mul_nonneg (by omega) (by omega))
          rw [e]
          simp
  · obtain ⟨S1, rfl⟩ : ∃ S : Nat, s1 = S := ⟨s1.toNat, by omega⟩
    obtain ⟨S2, rfl⟩ : ∃ S : Nat, s2 = S := ⟨s2.toNat, by omega⟩
    obtain ⟨a, ha, oa, wa⟩ := f83q (n := n1) (s := (S1 : Int)) (m := S2) a0 a1 (by omega)
    obtain ⟨b, hb, ob, wb⟩ := f83q (n := n2) (s := (S2 : Int)) (m := S1) b0 b1 (by omega)
    rw [amt_nat, pow_nat] at wa wb
    have la := amt_le (z := S2) a0 a1 (by omega)
    refine ⟨!(decide (n1 < 0) == decide (n2 < 0)), a, b, n1.natAbs * 10 ^ S2, ?_, oa, ob, by rw [wa]; simp, ?_, ?_, by omega⟩
    · unfold f97F
      simp only []
      rw [bif_false (by rfl), bif_false (by rfl), bif_false (by rfl), bif_true (by rfl), ha, bind_some', hb, bind_some']
    · unfold resN
      rw [if_neg (by decide), if_neg (by decide), if_neg (by decide), if_pos rfl, wb, Int.toNat_natCast]
      simp
    · unfold resN
      rw [if_neg (by decide), if_neg (by decide), if_neg (by decide), if_pos rfl, Int.toNat_natCast]
      rfl
  · have hn2 := hz (.inr rfl)
    obtain ⟨M, hM⟩ : ∃ M : Nat, max s1 s2 = M := ⟨(max s1 s2).toNat, by omega⟩
    obtain ⟨a, b, hab, oa, ob, wa, wb⟩ := f62q a0 a1 b0 b1 s10 s11 s20 s21
    have la := amt_le (z := (max s1 s2 - s1).toNat) a0 a1 (by omega)
    have lb := amt_le (z := (max s1 s2 - s2).toNat) b0 b1 (by omega)
    have y0 : 0 < n2.natAbs * 10 ^ (max s1 s2 - s2).toNat := Nat.mul_pos (by omega) (Nat.pow_pos (by decide))
    obtain ⟨d, hd, od, wd⟩ := f85one (z := M) (by omega)
    obtain ⟨q, r, hqr, oq, or_, wq, wr⟩ := f86q (a := a) (b := b) oa ob (by rw [wb]; omega) (by rw [wb]; unfold big; omega)
    rw [wa, wb] at wr
    have hqr' : f86F 1000 ((a.1, (a.2.1, (a.2.2.1, a.2.2.2))), (b.1, (b.2.1, (b.2.2.1, b.2.2.2)))) = some (q, r) := hqr
    have hmod := Nat.mod_le (n1.natAbs * 10 ^ (max s1 s2 - s1).toNat) (n2.natAbs * 10 ^ (max s1 s2 - s2).toNat)
    refine ⟨decide (n1 < 0), r, d, (n1.natAbs * 10 ^ (max s1 s2 - s1).toNat) % (n2.natAbs * 10 ^ (max s1 s2 - s2).toNat), ?_, or_, od, by rw [wr]; simp, ?_, ?_, by omega⟩
    · rw [hM] at hab
      unfold f97F f84F
      simp only []
      rw [bif_false (by rfl), bif_false (by rfl), bif_false (by rfl), bif_false (by rfl), hab]
      simp only [bind_some', hqr', hd]
    · unfold resN
      rw [if_neg (by decide), if_neg (by decide), if_neg (by decide), if_neg (by decide), wd, hM, Int.toNat_natCast]
    · unfold resN
      rw [if_neg (by decide), if_neg (by decide), if_neg (by decide), if_neg (by decide)]
end Go.Proofs.Ytioagofpofamiaa
/-! Plain laws: the exact result of two numbers, by the reference. -/
set_option linter.unusedVariables false
set_option linter.unusedSimpArgs false
namespace Go.Proofs.Ytioagofpofamiaa
open Go.Ab

/-- A fraction put into a type. -/
def putZ (num : Int) (den : Nat) (sc ln : Int) (half : Bool) : Int × Int := putR (decide (num < 0)) (num.natAbs : Nat) den sc ln half
theorem whole_zero {B sc : Nat} (hB : 0 < B) (half : Bool) : wholeN 0 B sc half = 0 := by
  unfold wholeN
  rw [Nat.zero_mul, Nat.zero_mod, Nat.zero_div, if_neg (by omega)]
theorem putR_sg {bl : Bool} {t B : Nat} (hB : 0 < B) (sc ln : Int) (half : Bool) : putR bl t B sc ln half = putZ (sg (bl, t)) B sc ln half := by
  unfold putZ
  rw [sg_natAbs, putR_nat, putR_nat]
  by_cases ht : t = 0
  · subst ht
    have hw := whole_zero (sc := sc.toNat) hB half
    simp only [hw]
    split
    · rfl
    · cases bl <;> rfl
  · have : decide (sg (bl, t) < 0) = bl := by
      unfold sg
      cases bl <;> simp <;> omega
    rw [this]
theorem putZ_scale {num : Int} {den c : Nat} (hc : 0 < c) (sc ln : Int) (half : Bool) : putZ (num * c) (den * c) sc ln half = putZ num den sc ln half := by
  unfold putZ
  rw [putR_nat, putR_nat, Int.natAbs_mul, Int.natAbs_natCast, whole_scale hc]
  have : decide (num * (c : Int) < 0) = decide (num < 0) := by
    by_cases h : num < 0
    · rw [decide_eq_true h, decide_eq_true (Int.mul_neg_of_neg_of_pos h (by omega))]
    · rw [decide_eq_false h, decide_eq_false]
      have := Int.mul_nonneg (a := num) (b := (c : Int)) (by omega) (by omega)
      omega
  rw [this]

/-- A fraction that the reference has made. -/
def RefRes (f : Option (((Bool × (List Int)) × (List Int)) × Int)) (num : Int) (den : Nat) : Prop :=
  ∃ (bl : Bool) (t B c c' : Nat), f = some (((bl, dg t), dg B), 0) ∧ 0 < B ∧ (dg t).length ≤ 200 ∧ (dg B).length ≤ 200 ∧ 0 < c ∧ 0 < c' ∧ sg (bl, t) * (c : Int) = num * (c' : Int) ∧ B * c = den * c'

theorem f66q {op n1 s1 n2 s2 : Int} (o0 : 0 ≤ op) (o1 : op ≤ 4) (a0 : -999999999999999 ≤ n1) (a1 : n1 ≤ 999999999999999) (b0 : -999999999999999 ≤ n2) (b1 : n2 ≤ 999999999999999) (s10 : 0 ≤ s1) (s11 : s1 ≤ 15) (s20 : 0 ≤ s2) (s21 : s2 ≤ 15)
    (hz : op = 3 ∨ op = 4 → n2 ≠ 0) : RefRes (f66F 1000 (op, (n1, s1), (n2, s2))) (resN op n1 s1 n2 s2).1 (resN op n1 s1 n2 s2).2 := by
  have m1 : s1 ≤ max s1 s2 := Int.le_max_left ..
  have m2 : s2 ≤ max s1 s2 := Int.le_max_right ..
  have m3 : max s1 s2 ≤ 15 := Int.max_le.2 ⟨s11, s21⟩
  obtain ⟨M, hM⟩ : ∃ M : Nat, max s1 s2 = M := ⟨(max s1 s2).toNat, by omega⟩
  have l1 := long_len (z := (max s1 s2 - s1).toNat) a0 a1
  have l2 := long_len (z := (max s1 s2 - s2).toNat) b0 b1
  have hal : f91F 1000 ((n1, s1), (n2, s2)) = some ((decide (n1 < 0), dg (n1.natAbs * 10 ^ (max s1 s2 - s1).toNat)), (decide (n2 < 0), dg (n2.natAbs * 10 ^ (max s1 s2 - s2).toNat)), (M : Int)) := by
    unfold f91F
    simp only [mxI_eq]
    rw [wi (by omega) (by omega), wi (by omega) (by omega), f61q' a0 a1 (by omega) (by omega), bind_some', f61q' b0 b1 (by omega) (by omega), bind_some', hM]
  have g1 := sg_long n1 (max s1 s2 - s1).toNat
  have g2 := sg_long n2 (max s1 s2 - s2).toNat
  have y0 : n2 ≠ 0 → 0 < n2.natAbs * 10 ^ (max s1 s2 - s2).toNat := fun h => Nat.mul_pos (by omega) (Nat.pow_pos (by decide))
  have p0 : 0 < 10 ^ M := Nat.pow_pos (by decide)
  have pl : (dg (10 ^ M)).length ≤ 200 := dg_len_le.2 (Nat.pow_lt_pow_right (by decide) (by omega))
  have hpow : f90F 1000 (M : Int) = some (dg (10 ^ M)) := f90q (by omega)
  have cases5 : op = 0 ∨ op = 1 ∨ op = 2 ∨ op = 3 ∨ op = 4 := by omega
  unfold f66F
  simp only []
  rw [hal]
  simp only [bind_some']
  unfold f66p0
  simp only [len_zero]
  rcases cases5 with rfl | rfl | rfl | rfl | rfl
  · -- the sum
    rw [bif_false (by rfl), bif_false (by rfl), bif_false (by rfl), bif_false (by rfl), bif_false (by rfl), bif_false (by rfl)]
    rw [f60q (by omega) (by omega), bind_some', hpow, bind_some']
    have hle := sumN_le (decide (n1 < 0), n1.natAbs * 10 ^ (max s1 s2 - s1).toNat) (decide (n2 < 0), n2.natAbs * 10 ^ (max s1 s2 - s2).toNat)
    dsimp only at hle
    refine ⟨_, _, 10 ^ M, 1, 1, rfl, p0, Nat.le_trans (dg_len_mono hle) (Nat.le_trans (dg_len_add (k := 100) (by omega) (by omega)) (by decide)), pl, by decide, by decide, ?_, ?_⟩
    · have hs := sumN_sg (decide (n1 < 0), n1.natAbs * 10 ^ (max s1 s2 - s1).toNat) (decide (n2 < 0), n2.natAbs * 10 ^ (max s1 s2 - s2).toNat)
      have e : ∀ x : Bool × Nat, (x.1, x.2) = x := fun _ => rfl
      rw [e, hs, g1, g2]
      unfold resN
      rw [if_pos rfl]
    · unfold resN
      rw [if_pos rfl, hM, Int.toNat_natCast]
  · -- the difference
    rw [bif_false (by rfl), bif_false (by rfl), bif_true (by rfl)]
    have key : ∀ by' : Bool, sg (by', n2.natAbs * 10 ^ (max s1 s2 - s2).toNat) = -(n2 * 10 ^ (max s1 s2 - s2).toNat) →
        RefRes (Option.bind (f60F 1000 ((decide (n1 < 0), dg (n1.natAbs * 10 ^ (max s1 s2 - s1).toNat)), (by', dg (n2.natAbs * 10 ^ (max s1 s2 - s2).toNat)))) fun y4 => Option.bind (f90F 1000 (M : Int)) fun y5 => some (((y4.1, y4.2), y5), (0 : Int))) (resN 1 n1 s1 n2 s2).1 (resN 1 n1 s1 n2 s2).2 := by
      intro by' hby
      rw [f60q (by omega) (by omega), bind_some', hpow, bind_some']
      have hle := sumN_le (decide (n1 < 0), n1.natAbs * 10 ^ (max s1 s2 - s1).toNat) (by', n2.natAbs * 10 ^ (max s1 s2 - s2).toNat)
      dsimp only at hle
      refine ⟨_, _, 10 ^ M, 1, 1, rfl, p0, Nat.le_trans (dg_len_mono hle) (Nat.le_trans (dg_len_add (k := 100) (by omega) (by omega)) (by decide)), pl, by decide, by decide, ?_, ?_⟩
      · have hs := sumN_sg (decide (n1 < 0), n1.natAbs * 10 ^ (max s1 s2 - s1).toNat) (by', n2.natAbs * 10 ^ (max s1 s2 - s2).toNat)
        have e : ∀ x : Bool × Nat, (x.1, x.2) = x := fun _ => rfl
        rw [e, hs, g1, hby]
        unfold resN
        rw [if_neg (by decide), if_pos rfl]
        rfl
      · unfold resN
        rw [if_neg (by decide), if_pos rfl, hM, Int.toNat_natCast]
    by_cases h2 : n2 < 0
    · rw [bif_false (by simp [h2])]
      refine key false ?_
      rw [← g2, ← sg_flip, decide_eq_true h2]
      rfl
    · rw [bif_true (by simp [h2]), dec_len]
      refine key _ ?_
      rw [← g2, ← sg_flip, decide_eq_false h2]
      generalize n2.natAbs * 10 ^ (max s1 s2 - s2).toNat = y
      unfold sg
      by_cases hy : 0 < y
      · simp [hy]
      · have : y = 0 := by omega
        subst this
        simp
  · -- the product
    rw [bif_false (by rfl), bif_false (by rfl), bif_false (by rfl), bif_true (by rfl)]
    have w2 : IntKind.i64.wrap (2 * (M : Int)) = ((2 * M : Nat) : Int) := by rw [wi (by omega) (by omega)]; omega
    rw [f98q (by omega) (by omega), bind_some', w2, f90q (by omega), bind_some']
    have hl : (dg (n1.natAbs * 10 ^ (max s1 s2 - s1).toNat * (n2.natAbs * 10 ^ (max s1 s2 - s2).toNat))).length ≤ 60 := dg_len_le.2 (by
      have q1 := dg_len_le.1 (Nat.le_trans l1 (show _ ≤ 30 by omega))
      have q2 := dg_len_le.1 (Nat.le_trans l2 (show _ ≤ 30 by omega))
      exact Nat.lt_of_lt_of_le (Nat.mul_lt_mul'' q1 q2) (by decide))
    refine ⟨_, _, 10 ^ (2 * M), 1, 10 ^ ((max s1 s2 - s1).toNat + (max s1 s2 - s2).toNat), rfl, Nat.pow_pos (by decide), Nat.le_trans hl (by decide), dg_len_le.2 (Nat.pow_lt_pow_right (by decide) (by omega)), by decide, Nat.pow_pos (by decide), ?_, ?_⟩
    · have hn : sg (decide (n1 < 0) != decide (n2 < 0), n1.natAbs * 10 ^ (max s1 s2 - s1).toNat * (n2.natAbs * 10 ^ (max s1 s2 - s2).toNat)) = n1 * 10 ^ (max s1 s2 - s1).toNat * (n2 * 10 ^ (max s1 s2 - s2).toNat) := by
        rw [← g1, ← g2]
        generalize n1.natAbs * 10 ^ (max s1 s2 - s1).toNat = x
        generalize n2.natAbs * 10 ^ (max s1 s2 - s2).toNat = y
        unfold sg
        cases decide (n1 < 0) <;> cases decide (n2 < 0) <;> simp [Int.neg_mul, Int.mul_neg]
      have hb : sg ((decide (n1 < 0) != decide (n2 < 0)) && decide (0 < n1.natAbs * 10 ^ (max s1 s2 - s1).toNat * (n2.natAbs * 10 ^ (max s1 s2 - s2).toNat)), n1.natAbs * 10 ^ (max s1 s2 - s1).toNat * (n2.natAbs * 10 ^ (max s1 s2 - s2).toNat)) = sg (decide (n1 < 0) != decide (n2 < 0), n1.natAbs * 10 ^ (max s1 s2 - s1).toNat * (n2.natAbs * 10 ^ (max s1 s2 - s2).toNat)) := by
        generalize n1.natAbs * 10 ^ (max s1 s2 - s1).toNat * (n2.natAbs * 10 ^ (max s1 s2 - s2).toNat) = z
        by_cases hz : 0 < z
        · simp [hz]
        · have : z = 0 := by omega
          subst this
          unfold sg
          cases (decide (n1 < 0) != decide (n2 < 0)) <;> simp
      rw [hb, hn]
      unfold resN
      rw [if_neg (by decide), if_neg (by decide), if_pos rfl, Nat.pow_add]
      simp only [Int.natCast_mul, Int.mul_assoc, Int.natCast_one, Int.mul_one]
      rw [← pow_nat, ← pow_nat]
      congr 1
      rw [← Int.mul_assoc, ← Int.mul_assoc, Int.mul_comm (10 ^ (max s1 s2 - s1).toNat) n2, Int.mul_assoc]
    · unfold resN
      rw [if_neg (by decide), if_neg (by decide), if_pos rfl, Nat.mul_one]
      simp only []
      rw [← Nat.pow_add]
      congr 1
      omega
  · -- the quotient
    have hn2 := hz (.inl rfl)
    have hy := y0 hn2
    rw [bif_true (by rfl), bif_false (by simp; omega), bif_false (by rfl), bif_false (by rfl), bif_true (by rfl)]
    have hmin : (max s1 s2 - s1).toNat + (min s1 s2).toNat = s2.toNat ∧ (max s1 s2 - s2).toNat + (min s1 s2).toNat = s1.toNat := by
      have h1 := Int.max_def s1 s2
      have h2 := Int.min_def s1 s2
      rw [h1, h2]
      split <;> omega
    refine ⟨_, _, n2.natAbs * 10 ^ (max s1 s2 - s2).toNat, 10 ^ (min s1 s2).toNat, 1, rfl, hy, by omega, by omega, Nat.pow_pos (by decide), by decide, ?_, ?_⟩
    · unfold resN
      rw [if_neg (by decide), if_neg (by decide), if_neg (by decide), if_pos rfl]
      have e : ∀ (b : Bool) (x c : Nat), sg (b, x) * (c : Int) = sg (b, x * c) := fun b x c => by unfold sg; cases b <;> simp [Int.neg_mul]
      rw [e, Nat.mul_assoc, ← Nat.pow_add, hmin.1]
      simp only [Int.natCast_one, Int.mul_one]
      cases decide (n1 < 0) <;> cases decide (n2 < 0) <;> rfl
    · unfold resN
      rw [if_neg (by decide), if_neg (by decide), if_neg (by decide), if_pos rfl, Nat.mul_assoc, ← Nat.pow_add, hmin.2, Nat.mul_one]
  · -- the remainder
    have hn2 := hz (.inr rfl)
    have hy := y0 hn2
    rw [bif_false (by rfl), bif_true (by rfl), bif_false (by simp; omega), bif_false (by rfl), bif_false (by rfl), bif_false (by rfl), bif_true (by rfl)]
    rw [f99q hy (by omega) (by omega), bind_some', hpow, bind_some']
    refine ⟨_, _, 10 ^ M, 1, 1, rfl, p0, Nat.le_trans (dg_len_mono (Nat.mod_le _ _)) (by omega), pl, by decide, by decide, ?_, ?_⟩
    · unfold resN
      rw [if_neg (by decide), if_neg (by decide), if_neg (by decide), if_neg (by decide)]
    · unfold resN
      rw [if_neg (by decide), if_neg (by decide), if_neg (by decide), if_neg (by decide), hM, Int.toNat_natCast]
end Go.Proofs.Ytioagofpofamiaa
/-! Plain laws: the result of two numbers put into a type. -/
set_option linter.unusedVariables false
set_option linter.unusedSimpArgs false
namespace Go.Proofs.Ytioagofpofamiaa
open Go.Ab

theorem f42q5 (a b c d e : Int) : f42F 1000 [a, b, c, d, e] = some (if a = 0 then (if b = 0 then (if c = 0 then (if d = 0 then e else d) else c) else b) else a) := by
  have e0 : ∀ {R : Type} (Step : (List Int × Int × Int × Unit → Option R) → List Int × Int × Int × Unit → Option R) v, iterS Step 1000 v = Step (fun v => Step (fun v => Step (fun v => Step (fun v => Step (fun v => Step (iterS Step 994) v) v) v) v) v) v := fun _ _ => rfl
  unfold f42F f42l0
  rw [e0]
  have s0 := fun rec k0 k1 => f42l0_step (R := Int) 1000 rec k0 k1 [a, b, c, d, e] 0 (by simp) (by simp)
  have s1 := fun rec k0 k1 => f42l0_step (R := Int) 1000 rec k0 k1 [a, b, c, d, e] 1 (by simp) (by simp)
  have s2 := fun rec k0 k1 => f42l0_step (R := Int) 1000 rec k0 k1 [a, b, c, d, e] 2 (by simp) (by simp)
  have s3 := fun rec k0 k1 => f42l0_step (R := Int) 1000 rec k0 k1 [a, b, c, d, e] 3 (by simp) (by simp)
  have s4 := fun rec k0 k1 => f42l0_step (R := Int) 1000 rec k0 k1 [a, b, c, d, e] 4 (by simp) (by simp)
  have s5 : ∀ rec k0 k1, f42l0s (R := Int) 1000 rec k0 k1 ([a, b, c, d, e], (([a, b, c, d, e].length : Nat) : Int), ((5 : Nat) : Int), ()) = k1 () := fun _ _ _ => rfl
  have z0 : ((0 : Nat) : Int) = 0 := rfl
  rw [z0] at s0
  rw [s0]
  simp only [Nat.zero_add, s1, Nat.reduceAdd, s2, s3, s4, s5]
  by_cases ha : a = 0 <;> by_cases hb : b = 0 <;> by_cases hc : c = 0 <;> by_cases hd : d = 0 <;> by_cases he : e = 0 <;> simp [ha, hb, hc, hd, he]

/-- The result of two numbers put into a type: the value, and the error. -/
def calcS (op n1 s1 n2 s2 kd ln sc : Int) (half : Bool) : Int × Int :=
  if ¬ (0 ≤ op ∧ op ≤ 4) then (0, 4) else if numErr n1 s1 ≠ 0 then (0, numErr n1 s1) else if numErr n2 s2 ≠ 0 then (0, numErr n2 s2)
  else if tyErr kd ln sc ≠ 0 then (0, tyErr kd ln sc) else if ¬ (1 ≤ kd ∧ kd ≤ 3) then (0, 17) else if (op = 3 ∨ op = 4) ∧ n2 = 0 then (0, 20)
  else putZ (resN op n1 s1 n2 s2).1 (resN op n1 s1 n2 s2).2 sc ln half

theorem resN_den {op n1 s1 n2 s2 : Int} (s10 : 0 ≤ s1) (s11 : s1 ≤ 15) (s20 : 0 ≤ s2) (s21 : s2 ≤ 15) (b0 : -999999999999999 ≤ n2) (b1 : n2 ≤ 999999999999999) (hz : ¬ ((op = 3 ∨ op = 4) ∧ n2 = 0)) :
    0 < (resN op n1 s1 n2 s2).2 ∧ (resN op n1 s1 n2 s2).2 ≤ 1000000000000000000000000000000 := by
  have m3 : max s1 s2 ≤ 15 := Int.max_le.2 ⟨s11, s21⟩
  have p := fun z => Nat.pow_pos (n := z) (show 0 < 10 by decide)
  unfold resN
  split
  · exact ⟨p _, pow_le31 (by omega)⟩
  split
  · exact ⟨p _, pow_le31 (by omega)⟩
  split
  · exact ⟨p _, pow_le31 (by omega)⟩
  split
  · refine ⟨Nat.mul_pos (by omega) (p _), ?_⟩
    have := amt_le (z := s1.toNat) b0 b1 (by omega)
    simp only
    omega
  · exact ⟨p _, pow_le31 (by omega)⟩

theorem f65q {op n1 s1 n2 s2 kd ln sc : Int} {half : Bool} (o : 0 ≤ op ∧ op ≤ 4) (h1 : numErr n1 s1 = 0) (h2 : numErr n2 s2 = 0) (h3 : tyErr kd ln sc = 0) (h4 : 1 ≤ kd ∧ kd ≤ 3) :
    f65F 1000 (op, (n1, s1), (n2, s2), (kd, (ln, sc)), half) = some (if (op = 3 ∨ op = 4) ∧ n2 = 0 then ((0, ByteArray.empty), 20) else (((putZ (resN op n1 s1 n2 s2).1 (resN op n1 s1 n2 s2).2 sc ln half).1, ByteArray.empty), (putZ (resN op n1 s1 n2 s2).1 (resN op n1 s1 n2 s2).2 sc ln half).2)) := by
  have c1 := numErr_ok h1
  have c2 := numErr_ok h2
  obtain ⟨a1', a2', a3', a4', a5', a6', a7', a8', a9'⟩ := ty_ok h3
  obtain ⟨l0, l1⟩ := a4' h4
  have s9 := a9' h4
  have h96 : f96F 1000 op = some (decide (op = 3 ∨ op = 4)) := by
    unfold f96F
    by_cases h : op = 3
    · subst h; rfl
    · have : (op == 3) = false := by simpa using h
      rw [this, cond_false]
      congr 1
      by_cases h4 : op = 4
      · subst h4; rfl
      · rw [decide_eq_false (by omega)]; simpa using h4
  unfold f65F f65p0
  simp only [h96, bind_some']
  have body : ¬ ((op = 3 ∨ op = 4) ∧ n2 = 0) → (Option.bind (f97F 1000 (op, (n1, s1), (n2, s2))) fun y4 =>
      Option.bind (f55F 1000 ((y4.1, ((y4.2.1.1, (y4.2.1.2.1, (y4.2.1.2.2.1, y4.2.1.2.2.2))), (y4.2.2.1, (y4.2.2.2.1, (y4.2.2.2.2.1, y4.2.2.2.2.2))))), (kd, (ln, sc)), half)) fun y5 =>
      some ((y5.1.1, y5.1.2), y5.2)) = some (((putZ (resN op n1 s1 n2 s2).1 (resN op n1 s1 n2 s2).2 sc ln half).1, ByteArray.empty), (putZ (resN op n1 s1 n2 s2).1 (resN op n1 s1 n2 s2).2 sc ln half).2) := by
    intro hz
    obtain ⟨bl, a, d, t, hf, oa, od, wa, wd, hs, ht⟩ := f97q o.1 o.2 c1.1 c1.2.1 c2.1 c2.2.1 c1.2.2.1 c1.2.2.2 c2.2.2.1 c2.2.2.2 (fun h c => hz ⟨h, c⟩)
    obtain ⟨d0, d1⟩ := resN_den (op := op) (n1 := n1) c1.2.2.1 c1.2.2.2 c2.2.2.1 c2.2.2.2 c2.1 c2.2.1 hz
    have psc : 10 ^ sc.toNat ≤ 1000000000000000 := Nat.le_trans (Nat.pow_le_pow_right (n := 10) (j := 15) (by decide) (by omega)) (by decide)
    have hA : t * 10 ^ sc.toNat ≤ 10 ^ 31 * 1000000000000000 := Nat.mul_le_mul ht psc
    have hAi : (t : Int) * 10 ^ sc.toNat = ((t * 10 ^ sc.toNat : Nat) : Int) := by simp
    have hput := f55q (below := bl) (half := half) (a := a) (b := d) (kd := kd) (ln := ln) (sc := sc) oa od (by rw [wd]; omega) (by rw [wd]; unfold big; omega) a7' (by omega) l0 l1 (by rw [wa, hAi]; unfold big; omega) (by rw [wa, hAi]; unfold big; omega)
    rw [wa, wd, putR_sg d0, hs] at hput
    rw [hf, bind_some']
    have hput' : f55F 1000 ((bl, ((a.1, (a.2.1, (a.2.2.1, a.2.2.2))), (d.1, (d.2.1, (d.2.2.1, d.2.2.2))))), (kd, (ln, sc)), half) = _ := hput
    simp only []
    rw [hput', bind_some']
  by_cases h34 : op = 3 ∨ op = 4
  · rw [bif_true (by simpa using h34)]
    by_cases h0 : n2 = 0
    · rw [if_pos ⟨h34, h0⟩, bif_true (by simpa using h0)]
    · rw [if_neg (fun c => h0 c.2), bif_false (by simpa using h0)]
      exact body (fun c => h0 c.2)
  · rw [if_neg (fun c => h34 c.1), bif_false (by simpa using h34)]
    exact body (fun c => h34 c.1)

theorem f22q (op n1 s1 n2 s2 kd ln sc : Int) (half : Bool) : f22F 1000 (op, (n1, s1), (n2, s2), (kd, (ln, sc)), half) = some (((calcS op n1 s1 n2 s2 kd ln sc half).1, ByteArray.empty), (calcS op n1 s1 n2 s2 kd ln sc half).2) := by
  have h64 : f64F 1000 op = some (decide (0 ≤ op ∧ op ≤ 4)) := by
    unfold f64F
    rw [f70q, bind_some']
  unfold f22F calcS
  simp only [h64, f52q, f28q, f53q, f43q, f42q5, bind_some']
  by_cases ho : 0 ≤ op ∧ op ≤ 4
  · simp only [ho, and_self, not_true_eq_false, if_false, decide_true, Bool.not_true, Bool.false_eq_true, if_true]
    by_cases h1 : numErr n1 s1 = 0
    · simp only [h1, ne_eq, not_true_eq_false, if_false, if_true]
      by_cases h2 : numErr n2 s2 = 0
      · simp only [h2, ne_eq, not_true_eq_false, if_false, if_true]
        by_cases h3 : tyErr kd ln sc = 0
        · simp only [h3, ne_eq, not_true_eq_false, if_false, if_true]
          by_cases h4 : 1 ≤ kd ∧ kd ≤ 3
          · simp only [h4, and_self, not_true_eq_false, if_false, decide_true, Bool.not_true, Bool.false_eq_true, bne_self_eq_false, cond_false]
            rw [f65q ho h1 h2 h3 h4, bind_some']
            split <;> rfl
          · simp only [h4, not_false_eq_true, if_true, decide_false, Bool.not_false]
            rfl
        · simp only [h3, not_false_eq_true, if_false, if_true, ne_eq]
          rw [bif_true (by simpa using h3)]
      · simp only [h2, not_false_eq_true, if_false, if_true, ne_eq]
        rw [bif_true (by simpa using h2)]
    · simp only [h1, not_false_eq_true, if_false, if_true, ne_eq]
      rw [bif_true (by simpa using h1)]
  · simp only [ho, not_false_eq_true, if_true, decide_false, Bool.not_false]
    rfl

theorem f66z {op n1 s1 n2 s2 : Int} (hz : (op = 3 ∨ op = 4) ∧ n2 = 0) (a0 : -999999999999999 ≤ n1) (a1 : n1 ≤ 999999999999999) (s10 : 0 ≤ s1) (s11 : s1 ≤ 15) (s20 : 0 ≤ s2) (s21 : s2 ≤ 15) :
    ∃ v, f66F 1000 (op, (n1, s1), (n2, s2)) = some (v, 20) := by
  obtain ⟨h, rfl⟩ := hz
  have m1 : s1 ≤ max s1 s2 := Int.le_max_left ..
  have m2 : s2 ≤ max s1 s2 := Int.le_max_right ..
  have m3 : max s1 s2 ≤ 15 := Int.max_le.2 ⟨s11, s21⟩
  unfold f66F f91F
  simp only [mxI_eq]
  rw [wi (by omega) (by omega), wi (by omega) (by omega), f61q' a0 a1 (by omega) (by omega), bind_some', f61q' (by decide) (by decide) (by omega) (by omega), bind_some', bind_some']
  unfold f66p0
  simp only [len_zero, Int.natAbs_zero, Nat.zero_mul, decide_true, cond_true]
  rcases h with rfl | rfl
  · exact ⟨_, rfl⟩
  · exact ⟨_, rfl⟩

theorem f23q (op n1 s1 n2 s2 kd ln sc : Int) (half : Bool) : f23F 1000 ((op, ((kd, (ln, sc)), half)), (n1, s1), (n2, s2)) = some (((calcS op n1 s1 n2 s2 kd ln sc half).1, ByteArray.empty), (calcS op n1 s1 n2 s2 kd ln sc half).2) := by
  unfold f23F calcS
  simp only [f48q, f34q, f56q, bind_some']
  by_cases ho : 0 ≤ op ∧ op ≤ 4
  · simp only [ho, and_self, not_true_eq_false, if_false, decide_true, Bool.not_true, cond_false]
    by_cases h1 : numErr n1 s1 = 0
    · simp only [h1, ne_eq, not_true_eq_false, if_false, bne_self_eq_false, cond_false]
      by_cases h2 : numErr n2 s2 = 0
      · simp only [h2, ne_eq, not_true_eq_false, if_false, bne_self_eq_false, cond_false]
        by_cases h3 : tyErr kd ln sc = 0
        · simp only [h3, ne_eq, not_true_eq_false, if_false, if_true]
          by_cases h4 : 1 ≤ kd ∧ kd ≤ 3
          · simp only [h4, and_self, not_true_eq_false, if_false, if_true, bne_self_eq_false, cond_false]
            have c1 := numErr_ok h1
            have c2 := numErr_ok h2
            obtain ⟨a1', a2', a3', a4', a5', a6', a7', a8', a9'⟩ := ty_ok h3
            obtain ⟨l0, l1⟩ := a4' h4
            have s9 := a9' h4
            by_cases hz : (op = 3 ∨ op = 4) ∧ n2 = 0
            · obtain ⟨v, hv⟩ := f66z hz c1.1 c1.2.1 c1.2.2.1 c1.2.2.2 c2.2.2.1 c2.2.2.2
              rw [if_pos hz, hv, bind_some']
              rfl
            · rw [if_neg hz]
              obtain ⟨bl, t, B, c, c', hf, B0, tl, Bl, hc, hc', hs, hB⟩ := f66q ho.1 ho.2 c1.1 c1.2.1 c2.1 c2.2.1 c1.2.2.1 c1.2.2.2 c2.2.2.1 c2.2.2.2 (fun h c => hz ⟨h, c⟩)
              rw [hf, bind_some']
              simp only [bne_self_eq_false, cond_false]
              rw [f57q B0 (by omega) (by omega) a7' (by omega) (by omega) (by omega), bind_some']
              have e : putR bl t B sc ln half = putZ (resN op n1 s1 n2 s2).1 (resN op n1 s1 n2 s2).2 sc ln half := by
                rw [putR_sg B0, ← putZ_scale hc, hs, hB, putZ_scale hc']
              rw [e]
          · simp only [h4, not_false_eq_true, if_true, if_false]
            rfl
        · simp only [h3, not_false_eq_true, if_false, if_true, ne_eq]
          rw [bif_true (by simpa using h3)]
      · simp only [h2, not_false_eq_true, if_true, ne_eq]
        rw [bif_true (by simpa using h2)]
    · simp only [h1, not_false_eq_true, if_true, ne_eq]
      rw [bif_true (by simpa using h1)]
  · simp only [ho, not_false_eq_true, if_true, decide_false, Bool.not_false, cond_true]

theorem putZ_err {num : Int} {den : Nat} {sc ln : Int} {half : Bool} (h : (putZ num den sc ln half).2 ≠ 0) : (putZ num den sc ln half).1 = 0 := putR_err h
theorem calcS_err {op n1 s1 n2 s2 kd ln sc : Int} {half : Bool} (h : (calcS op n1 s1 n2 s2 kd ln sc half).2 ≠ 0) : (calcS op n1 s1 n2 s2 kd ln sc half).1 = 0 := by
  unfold calcS at *
  generalize hp : putZ (resN op n1 s1 n2 s2).1 (resN op n1 s1 n2 s2).2 sc ln half = p at *
  have hpe : p.2 ≠ 0 → p.1 = 0 := by rw [← hp]; exact putZ_err
  repeat' split
  all_goals first | rfl | skip
  all_goals simp_all

theorem calculates (x : (Int × ((Int × (Int × Int)) × Bool)) × ((Int × Int) × (Int × Int))) : f8F 1000 x = some true := by
  obtain ⟨⟨op, ⟨kd, ln, sc⟩, half⟩, ⟨n1, s1⟩, ⟨n2, s2⟩⟩ := x
  unfold f8F
  rw [awake_ok, bind_some']
  simp only [Bool.not_true, cond_false, f22q, f23q, bind_some', beq_self_eq_true, cond_true, strEq_self, Bool.and_true]
  have h := calcS_err (op := op) (n1 := n1) (s1 := s1) (n2 := n2) (s2 := s2) (kd := kd) (ln := ln) (sc := sc) (half := half)
  generalize calcS op n1 s1 n2 s2 kd ln sc half = r at *
  obtain ⟨v, e⟩ := r
  by_cases he : e = 0
  · subst he; rfl
  · have hv : v = 0 := h he
    subst hv
    have : (e != 0) = true := by simpa using he
    simp [this]
end Go.Proofs.Ytioagofpofamiaa
/-! Plain laws: sums, differences, products, quotients and remainders agree. -/
set_option linter.unusedVariables false
set_option linter.unusedSimpArgs false
namespace Go.Proofs.Ytioagofpofamiaa
open Go.Ab

theorem calcS_ok {op n1 s1 n2 s2 kd ln sc : Int} {half : Bool} (o : 0 ≤ op ∧ op ≤ 4) (h1 : numErr n1 s1 = 0) (h2 : numErr n2 s2 = 0) (h3 : tyErr kd ln sc = 0) (h4 : 1 ≤ kd ∧ kd ≤ 3) (hz : ¬ ((op = 3 ∨ op = 4) ∧ n2 = 0)) :
    calcS op n1 s1 n2 s2 kd ln sc half = putZ (resN op n1 s1 n2 s2).1 (resN op n1 s1 n2 s2).2 sc ln half := by
  unfold calcS
  rw [if_neg (fun c => c o), if_neg (fun c => c h1), if_neg (fun c => c h2), if_neg (fun c => c h3), if_neg (fun c => c h4), if_neg hz]
theorem calcS_zero {op n1 s1 s2 kd ln sc : Int} {half : Bool} (o : op = 3 ∨ op = 4) (h1 : numErr n1 s1 = 0) (h2 : numErr 0 s2 = 0) (h3 : tyErr kd ln sc = 0) (h4 : 1 ≤ kd ∧ kd ≤ 3) :
    calcS op n1 s1 0 s2 kd ln sc half = (0, 20) := by
  unfold calcS
  rw [if_neg (fun c => c (by omega)), if_neg (fun c => c h1), if_neg (fun c => c h2), if_neg (fun c => c h3), if_neg (fun c => c h4), if_pos ⟨o, rfl⟩]

/-- A number that fits into fifteen digits, or the error. -/
def fit (v : Int) : Int × Int := if 10 ^ 15 ≤ v.natAbs then (0, 19) else (v, 0)
theorem put_fit {num : Int} {S M : Nat} (h : S ≤ M) : putZ num (10 ^ S) (M : Int) 15 false = fit (num * 10 ^ (M - S)) := by
  unfold putZ fit
  rw [putR_nat, Int.toNat_natCast, whole_exact h, Int.natAbs_mul, pow_nat, Int.natAbs_natCast]
  have e15 : (15 : Int).toNat = 15 := rfl
  rw [e15]
  by_cases c : 10 ^ 15 ≤ num.natAbs * 10 ^ (M - S)
  · rw [if_pos c, if_pos c]
  · rw [if_neg c, if_neg c, sg_long, pow_nat]
theorem fit_ok {v : Int} (h : (fit v).2 = 0) : fit v = (v, 0) ∧ -999999999999999 ≤ v ∧ v ≤ 999999999999999 := by
  unfold fit at *
  by_cases c : 10 ^ 15 ≤ v.natAbs
  · rw [if_pos c] at h; exact absurd h (by decide)
  · rw [if_neg c]
    exact ⟨rfl, by omega, by omega⟩
theorem fit_err (v : Int) : (fit v).2 = 0 ∨ (fit v).2 = 19 := by unfold fit; split <;> simp
theorem putZ_e (num : Int) (den : Nat) (sc ln : Int) (half : Bool) : (putZ num den sc ln half).2 = 0 ∨ (putZ num den sc ln half).2 = 19 := by
  unfold putZ
  rw [putR_nat]
  split <;> simp
theorem wide_ty {m : Int} (h0 : 0 ≤ m) (h1 : m ≤ 15) : tyErr 1 15 m = 0 := by
  unfold tyErr
  rw [if_neg (by omega), if_neg (by simp), if_neg (by simp; omega)]
theorem numErr_of {n s : Int} (h0 : -999999999999999 ≤ n) (h1 : n ≤ 999999999999999) (s0 : 0 ≤ s) (s1 : s ≤ 15) : numErr n s = 0 := by
  unfold numErr
  rw [if_pos ⟨h0, h1, s0, s1⟩]

theorem conv_fit {n : Int} {S M : Nat} (h : numErr n S = 0) (hS : S ≤ M) (hM : M ≤ 15) : convS n S 1 15 (M : Int) false = (((fit (n * 10 ^ (M - S))).1, ByteArray.empty), (fit (n * 10 ^ (M - S))).2) := by
  rw [convS_ok h (wide_ty (by omega) (by omega)) (by decide), Int.toNat_natCast]
  have e : putR (decide (n < 0)) (amt n) (10 ^ S) (M : Int) 15 false = fit (n * 10 ^ (M - S)) := by
    rw [← put_fit hS, amt_nat, pow_nat]
    rfl
  rw [e]

theorem f10l0_go {R : Type} (k0 : Bool × Int × Int × Int × Int × Int × Int × Int × Int × Unit → Option R) (k1 : Int × Int × Int × Int × Int × Int × Int × Int × Unit → Option R) (n1 s1 n2 s2 kd ln sc sc2 : Int)
    (h0 : calcS 0 n1 s1 n2 s2 kd ln sc false = calcS 0 n2 s2 n1 s1 kd ln sc false) (h2 : calcS 2 n1 s1 n2 s2 kd ln sc false = calcS 2 n2 s2 n1 s1 kd ln sc false) :
    f10l0 1000 k0 k1 (sc2, 0, n1, s1, n2, s2, kd, ln, sc, ()) = k1 (sc2, n1, s1, n2, s2, kd, ln, sc, ()) := by
  have step : ∀ (rec : Int × Int × Int × Int × Int × Int × Int × Int × Int × Unit → Option R) (op : Int), calcS op n1 s1 n2 s2 kd ln sc false = calcS op n2 s2 n1 s1 kd ln sc false → op ≤ 2 →
      f10l0s 1000 rec k0 k1 (sc2, op, n1, s1, n2, s2, kd, ln, sc, ()) = rec (sc2, IntKind.i64.wrap (op + 2), n1, s1, n2, s2, kd, ln, sc, ()) := by
    intro rec op he ho
    unfold f10l0s
    rw [bif_true (by simpa using ho)]
    simp only [f22q, bind_some', he, bne_self_eq_false, cond_false, beq_self_eq_true, strEq_self, Bool.and_true, Bool.not_true]
  unfold f10l0
  have e3 : ∀ (Step : (Int × Int × Int × Int × Int × Int × Int × Int × Int × Unit → Option R) → (Int × Int × Int × Int × Int × Int × Int × Int × Int × Unit) → Option R) v, iterS Step 1000 v = Step (fun v => Step (fun v => Step (iterS Step 997) v) v) v := fun _ _ => rfl
  rw [e3]
  rw [step _ 0 h0 (by decide)]
  rw [show IntKind.i64.wrap (0 + 2) = 2 from rfl, step _ 2 h2 (by decide)]
  rw [show IntKind.i64.wrap (2 + 2) = 4 from rfl]
  unfold f10l0s
  rfl

theorem laws (x : (Int × Int) × (Int × Int)) : f10F 1000 x = some true := by
  obtain ⟨⟨n1, s1⟩, ⟨n2, s2⟩⟩ := x
  unfold f10F
  rw [awake_ok, bind_some']
  simp only [Bool.not_true, cond_false, f34q, bind_some']
  by_cases h1 : numErr n1 s1 = 0
  · rw [bif_false (by simpa using h1)]
    by_cases h2 : numErr n2 s2 = 0
    · rw [bif_false (by simpa using h2)]
      have c1 := numErr_ok h1
      have c2 := numErr_ok h2
      obtain ⟨S1, rfl⟩ : ∃ S : Nat, s1 = S := ⟨s1.toNat, by omega⟩
      obtain ⟨S2, rfl⟩ : ∃ S : Nat, s2 = S := ⟨s2.toNat, by omega⟩
      obtain ⟨M, hM, hM1, hM2, hM3⟩ : ∃ M : Nat, max S1 S2 = M ∧ S1 ≤ M ∧ S2 ≤ M ∧ M ≤ 15 := ⟨max S1 S2, rfl, Nat.le_max_left .., Nat.le_max_right .., by omega⟩
      have hm : max (S1 : Int) (S2 : Int) = (M : Int) := by omega
      have hm' : max (S2 : Int) (S1 : Int) = (M : Int) := by omega
      rw [mxI_eq, hm]
      have ty := wide_ty (m := (M : Int)) (by omega) (by omega)
      have r0 : ∀ {a b : Int} {s t : Nat}, numErr a s = 0 → numErr b t = 0 → max (s : Int) (t : Int) = (M : Int) → calcS 0 a s b t 1 15 M false = fit (a * 10 ^ (M - s) + b * 10 ^ (M - t)) := by
        intro a b s t ha hb hst
        rw [calcS_ok (by decide) ha hb ty (by decide) (by simp)]
        unfold resN
        rw [if_pos rfl, hst, Int.toNat_natCast, put_fit (Nat.le_refl M), Nat.sub_self, Int.pow_zero, Int.mul_one, show ((M : Int) - s).toNat = M - s by omega, show ((M : Int) - t).toNat = M - t by omega]
      have r1 : ∀ {a b : Int} {s t : Nat}, numErr a s = 0 → numErr b t = 0 → max (s : Int) (t : Int) = (M : Int) → calcS 1 a s b t 1 15 M false = fit (a * 10 ^ (M - s) - b * 10 ^ (M - t)) := by
        intro a b s t ha hb hst
        rw [calcS_ok (by decide) ha hb ty (by decide) (by simp)]
        unfold resN
        rw [if_neg (by decide), if_pos rfl, hst, Int.toNat_natCast, put_fit (Nat.le_refl M), Nat.sub_self, Int.pow_zero, Int.mul_one, show ((M : Int) - s).toNat = M - s by omega, show ((M : Int) - t).toNat = M - t by omega]
      have hsym0 : calcS 0 n1 S1 n2 S2 1 15 M false = calcS 0 n2 S2 n1 S1 1 15 M false := by
        rw [r0 h1 h2 hm, r0 h2 h1 hm', Int.add_comm]
      have hsym2 : calcS 2 n1 S1 n2 S2 1 15 M false = calcS 2 n2 S2 n1 S1 1 15 M false := by
        rw [calcS_ok (by decide) h1 h2 ty (by decide) (by simp), calcS_ok (by decide) h2 h1 ty (by decide) (by simp)]
        unfold resN
        rw [if_neg (by decide), if_neg (by decide), if_pos rfl, if_neg (by decide), if_neg (by decide), if_pos rfl, Int.mul_comm, Int.add_comm]
      rw [f10l0_go _ _ _ _ _ _ _ _ _ _ hsym0 hsym2]
      simp only []
      -- the sum, and what is taken away of it
      have hp1 : ∀ {R : Type} (k0 : Bool × Int × Int × Int × Int × Int × Int × Int × Int × Unit → Option R) (k1 : Int × Int × Int × Int × Int × Int × Int × Int × Unit → Option R),
          f10p1 1000 k0 k1 ((M : Int), n1, (S1 : Int), n2, (S2 : Int), 1, 15, (M : Int), ()) = k1 ((M : Int), n1, (S1 : Int), n2, (S2 : Int), 1, 15, (M : Int), ()) := by
        intro R k0 k1
        unfold f10p1
        simp only [f22q, f18q, bind_some']
        by_cases he : (calcS 0 n1 S1 n2 S2 1 15 M false).2 = 0
        · rw [bif_true (by simpa using he)]
          rw [r0 h1 h2 hm] at he ⊢
          obtain ⟨e, v0, v1⟩ := fit_ok he
          rw [e]
          have hv : numErr (n1 * 10 ^ (M - S1) + n2 * 10 ^ (M - S2)) (M : Int) = 0 := numErr_of v0 v1 (by omega) (by omega)
          rw [r1 hv h1 (by omega), Nat.sub_self, Int.pow_zero, Int.mul_one, conv_fit h2 hM2 hM3]
          have e2 : n1 * 10 ^ (M - S1) + n2 * 10 ^ (M - S2) - n1 * 10 ^ (M - S1) = n2 * 10 ^ (M - S2) := by omega
          rw [e2]
          simp only [bne_self_eq_false, cond_false, beq_self_eq_true, strEq_self, Bool.and_true, Bool.not_true]
        · rw [bif_false (by simpa using he)]
      rw [hp1]
      simp only [f22q, bind_some']
      have ty0 : tyErr 1 15 0 = 0 := by decide
      by_cases hn : n2 = 0
      · subst hn
        rw [calcS_zero (.inl rfl) h1 h2 ty0 (by decide), calcS_zero (.inr rfl) h1 h2 ty (by decide)]
        rfl
      · have nz : ∀ op : Int, ¬ ((op = 3 ∨ op = 4) ∧ n2 = 0) := fun op c => hn c.2
        have hq := calcS_ok (op := 3) (half := false) (by decide) h1 h2 ty0 (by decide) (nz 3)
        have hr := calcS_ok (op := 4) (half := false) (by decide) h1 h2 ty (by decide) (nz 4)
        have eq := putZ_e (resN 3 n1 S1 n2 S2).1 (resN 3 n1 S1 n2 S2).2 0 15 false
        have er := putZ_e (resN 4 n1 S1 n2 S2).1 (resN 4 n1 S1 n2 S2).2 M 15 false
        rw [← hq] at eq
        rw [← hr] at er
        by_cases q0 : (calcS 3 n1 S1 n2 S2 1 15 0 false).2 = 0
        · by_cases r0' : (calcS 4 n1 S1 n2 S2 1 15 M false).2 = 0
          · rw [bif_false (by simpa using q0), bif_false (by simpa using r0')]
            -- X and Y: the two numbers with one scale
            have y0 : 0 < n2.natAbs * 10 ^ (M - S2) := Nat.mul_pos (by omega) (Nat.pow_pos (by decide))
            have gx := sg_long n1 (M - S1)
            have gy := sg_long n2 (M - S2)
            have hQ : calcS 3 n1 S1 n2 S2 1 15 0 false = fit (sg (decide (n1 < 0) != decide (n2 < 0), (n1.natAbs * 10 ^ (M - S1)) / (n2.natAbs * 10 ^ (M - S2)))) := by
              rw [hq]
              unfold resN
              rw [if_neg (by decide), if_neg (by decide), if_neg (by decide), if_pos rfl, Int.toNat_natCast, Int.toNat_natCast]
              have e1 : n1.natAbs * 10 ^ S2 * 10 ^ (M - S1) * 1 = n1.natAbs * 10 ^ (M - S1) * 10 ^ S2 := by rw [Nat.mul_one, Nat.mul_right_comm]
              have hsc : wholeN (n1.natAbs * 10 ^ S2) (n2.natAbs * 10 ^ S1) 0 false = (n1.natAbs * 10 ^ (M - S1)) / (n2.natAbs * 10 ^ (M - S2)) := by
                unfold wholeN
                rw [if_neg (by simp), Nat.pow_zero, Nat.mul_one]
                have k1 : n1.natAbs * 10 ^ S2 * 10 ^ (M - S2) = n1.natAbs * 10 ^ M := by rw [Nat.mul_assoc, ← Nat.pow_add, Nat.add_sub_cancel' hM2]
                have k2 : n1.natAbs * 10 ^ (M - S1) * 10 ^ S1 = n1.natAbs * 10 ^ M := by rw [Nat.mul_assoc, ← Nat.pow_add, Nat.sub_add_cancel hM1]
                have k3 : n2.natAbs * 10 ^ S1 * 10 ^ (M - S2) = n2.natAbs * 10 ^ (M - S2) * 10 ^ S1 := Nat.mul_right_comm ..
                rw [← Nat.mul_div_mul_right (n1.natAbs * 10 ^ S2) (n2.natAbs * 10 ^ S1) (m := 10 ^ (M - S2)) (Nat.pow_pos (by decide)), k1, ← k2, k3, Nat.mul_div_mul_right _ _ (Nat.pow_pos (by decide))]
              rw [← putR_sg (Nat.mul_pos (by omega) (Nat.pow_pos (by decide))), putR_nat]
              have e0 : (0 : Int).toNat = 0 := rfl
              have e15 : (15 : Int).toNat = 15 := rfl
              rw [e0, e15, hsc]
              unfold fit
              rw [sg_natAbs]
            have hR : calcS 4 n1 S1 n2 S2 1 15 M false = fit (sg (decide (n1 < 0), (n1.natAbs * 10 ^ (M - S1)) % (n2.natAbs * 10 ^ (M - S2)))) := by
              rw [hr]
              unfold resN
              rw [if_neg (by decide), if_neg (by decide), if_neg (by decide), if_neg (by decide), hm, Int.toNat_natCast, put_fit (Nat.le_refl M), Nat.sub_self, Int.pow_zero, Int.mul_one, show ((M : Int) - S1).toNat = M - S1 by omega, show ((M : Int) - S2).toNat = M - S2 by omega]
            rw [hQ] at q0 ⊢
            rw [hR] at r0' ⊢
            obtain ⟨fq, q1, q2⟩ := fit_ok q0
            obtain ⟨fr, r1', r2'⟩ := fit_ok r0'
            rw [fq, fr]
            simp only []
            have hdm := Nat.div_add_mod (n1.natAbs * 10 ^ (M - S1)) (n2.natAbs * 10 ^ (M - S2))
            have hX : sg (decide (n1 < 0) != decide (n2 < 0), (n1.natAbs * 10 ^ (M - S1)) / (n2.natAbs * 10 ^ (M - S2))) * (n2 * 10 ^ (M - S2)) + sg (decide (n1 < 0), (n1.natAbs * 10 ^ (M - S1)) % (n2.natAbs * 10 ^ (M - S2))) = n1 * 10 ^ (M - S1) := by
              rw [← gx, ← gy]
              generalize n1.natAbs * 10 ^ (M - S1) = X at *
              generalize n2.natAbs * 10 ^ (M - S2) = Y at *
              have hdi : (X : Int) = (Y : Int) * ((X / Y : Nat) : Int) + ((X % Y : Nat) : Int) := by
                rw [← Int.natCast_mul, ← Int.natCast_add, hdm]
              generalize X / Y = q at *
              generalize X % Y = r at *
              unfold sg
              have hc : (q : Int) * (Y : Int) = (Y : Int) * (q : Int) := Int.mul_comm ..
              cases decide (n1 < 0) <;> cases decide (n2 < 0) <;> simp [Int.neg_mul, Int.mul_neg, hc] <;> omega
            have hnq : numErr (sg (decide (n1 < 0) != decide (n2 < 0), (n1.natAbs * 10 ^ (M - S1)) / (n2.natAbs * 10 ^ (M - S2)))) 0 = 0 := numErr_of q1 q2 (by decide) (by decide)
            have hnr : numErr (sg (decide (n1 < 0), (n1.natAbs * 10 ^ (M - S1)) % (n2.natAbs * 10 ^ (M - S2)))) (M : Int) = 0 := numErr_of r1' r2' (by omega) (by omega)
            generalize sg (decide (n1 < 0) != decide (n2 < 0), (n1.natAbs * 10 ^ (M - S1)) / (n2.natAbs * 10 ^ (M - S2))) = Q at *
            generalize sg (decide (n1 < 0), (n1.natAbs * 10 ^ (M - S1)) % (n2.natAbs * 10 ^ (M - S2))) = R at *
            have hp : calcS 2 Q 0 n2 S2 1 15 M false = fit (Q * (n2 * 10 ^ (M - S2))) := by
              rw [calcS_ok (by decide) hnq h2 ty (by decide) (by simp)]
              unfold resN
              rw [if_neg (by decide), if_neg (by decide), if_pos rfl, Int.zero_add, Int.toNat_natCast, put_fit hM2, Int.mul_assoc]
            rw [hp]
            by_cases hpe : (fit (Q * (n2 * 10 ^ (M - S2)))).2 = 0
            · rw [bif_false (by simpa using hpe)]
              obtain ⟨fp, p1, p2⟩ := fit_ok hpe
              rw [fp]
              simp only []
              have hnp := numErr_of p1 p2 (s := (M : Int)) (by omega) (by omega)
              have e0 := r0 hnp hnr (by omega)
              rw [Nat.sub_self, Int.pow_zero, Int.mul_one, Int.mul_one, hX] at e0
              rw [e0, f18q, bind_some', conv_fit h1 hM1 hM3]
              simp only [beq_self_eq_true, cond_true, strEq_self, Bool.and_true]
            · rw [bif_true (by simpa using hpe)]
              rcases fit_err (Q * (n2 * 10 ^ (M - S2))) with h | h
              · exact absurd h hpe
              · rw [h]; rfl
          · have hr19 : (calcS 4 n1 S1 n2 S2 1 15 M false).2 = 19 := er.resolve_left r0'
            rw [q0, hr19]
            rfl
        · have hq19 : (calcS 3 n1 S1 n2 S2 1 15 0 false).2 = 19 := eq.resolve_left q0
          rw [hq19]
          rcases er with h | h <;> rw [h] <;> rfl
    · rw [bif_true (by simpa using h2)]
  · rw [bif_true (by simpa using h1)]
end Go.Proofs.Ytioagofpofamiaa
/-! Plain laws: what is read of bytes is a right value. -/
set_option linter.unusedVariables false
set_option linter.unusedSimpArgs false
namespace Go.Proofs.Ytioagofpofamiaa
open Go.Ab

theorem scanB_bound2 {bad : Nat → Bool} {val : Nat → Int} {N z : Nat} (hv : ∀ i, i < N → bad i = false → 0 ≤ val i ∧ val i ≤ 9 ∧ (i < z → val i = 0)) : ∀ {r i : Nat} {n m : Int}, i + r ≤ N → 0 ≤ n → n < 10 ^ (i - z) → scanB bad val r i n = .inr m → 0 ≤ m ∧ m < 10 ^ (i + r - z)
  | 0, i, n, m, _, h0, h1, h => by
    simp only [scanB, Sum.inr.injEq] at h
    subst h
    exact ⟨h0, h1⟩
  | r + 1, i, n, m, hN, h0, h1, h => by
    simp only [scanB] at h
    cases hb : bad i with
    | true => rw [hb] at h; cases h
    | false =>
      rw [hb] at h
      simp only [cond_false] at h
      obtain ⟨v0, v1, v2⟩ := hv i (by omega) hb
      have hn : n * 10 + val i < 10 ^ (i + 1 - z) := by
        by_cases hz : i < z
        · have e1 : i - z = 0 := by omega
          have e2 : i + 1 - z = 0 := by omega
          rw [e1, Int.pow_zero] at h1
          rw [e2, Int.pow_zero, v2 hz]
          omega
        · rw [show i + 1 - z = (i - z) + 1 by omega, Int.pow_succ]
          omega
      have := scanB_bound2 hv (r := r) (i := i + 1) (n := n * 10 + val i) (by omega) (by omega) hn h
      rwa [show i + 1 + r - z = i + (r + 1) - z by omega] at this

theorem decR_fit {h a : Nat → Int} {N : Nat} {ln : Int} (h0 : 1 ≤ ln) (hN : ln ≤ N) (hb : ∀ i, 0 ≤ h i ∧ h i ≤ 15) (he : (decR (badN h N ln) h a N).2.2 = 0) :
    -(pw ln - 1) ≤ (decR (badN h N ln) h a N).1 ∧ (decR (badN h N ln) h a N).1 ≤ pw ln - 1 := by
  unfold decR at *
  cases hs : scanB (badN h N ln) h N 0 0 with
  | inl j => rw [hs] at he; exact absurd he (by simp)
  | inr m =>
    rw [hs] at he
    simp only [] at he ⊢
    have hb2 := scanB_bound2 (bad := badN h N ln) (val := h) (N := N) (z := N - ln.toNat) (fun i hi hbad => by
      simp only [badN, Bool.or_eq_false_iff, decide_eq_false_iff_not, Bool.and_eq_false_iff] at hbad
      obtain ⟨b0, b1⟩ := hb i
      refine ⟨b0, by omega, fun hz => ?_⟩
      rcases hbad.2 with c | c
      · omega
      · omega) (r := N) (i := 0) (n := 0) (m := m) (by omega) (by omega) (by rw [Nat.zero_sub, Int.pow_zero]; omega) hs
    rw [show 0 + N - (N - ln.toNat) = ln.toNat by omega] at hb2
    have hp : pw ln = 10 ^ ln.toNat := rfl
    rw [← hp] at hb2
    by_cases c : h N < 10
    · rw [if_pos c] at he; exact absurd he (by simp)
    · rw [if_neg c]
      unfold sgn
      split <;> simp only <;> omega

theorem dec1_fit {ln sc : Int} {s : ByteArray} (h0 : 1 ≤ ln) (h1 : ln ≤ 15) (hs : (s.size : Int) = ln / 2 + 1) : ∃ n a e, f46F 1000 ((1, ln, sc), s) = some (n, a, e) ∧ (e = 0 → -(pw ln - 1) ≤ n ∧ n ≤ pw ln - 1) := by
  obtain ⟨z, hz⟩ : ∃ z, s.size = z := ⟨_, rfl⟩
  have hz0 : 1 ≤ z := by omega
  have hz1 : z ≤ 8 := by omega
  have hl : ((List.range (2 * z)).map (half s)).length = (2 * z - 1) + 1 := by simp; omega
  have al : ((List.range (2 * z)).map atH).length = (2 * z - 1) + 1 := by simp; omega
  have hg : ∀ i, i < 2 * z → ((List.range (2 * z)).map (half s)).getD i 0 = half s i := fun i hi => by simp [List.getD_eq_getElem?_getD, hi]
  have hb : ∀ i, 0 ≤ ((List.range (2 * z)).map (half s)).getD i 0 ∧ ((List.range (2 * z)).map (half s)).getD i 0 ≤ 15 := fun i => by
    by_cases hi : i < 2 * z
    · rw [hg i hi]; exact half_bound s i
    · rw [List.getD_eq_getElem?_getD, List.getElem?_eq_none (by simp; omega)]; decide
  have hv := halves1 (ln := ln) (sc := sc) s (by omega)
  rw [hz] at hv
  have A := f46q hv hl al (by omega) (by omega) (by omega) hb
  exact ⟨_, _, _, A, fun he => decR_fit h0 (by omega) hb he⟩

theorem dec2_fit {ln sc : Int} {s : ByteArray} (h0 : 1 ≤ ln) (h1 : ln ≤ 15) (hs : (s.size : Int) = ln) : ∃ n a e, f46F 1000 ((2, ln, sc), s) = some (n, a, e) ∧ (e = 0 → -(pw ln - 1) ≤ n ∧ n ≤ pw ln - 1) := by
  obtain ⟨L, hL⟩ : ∃ L, s.size = L := ⟨_, rfl⟩
  obtain ⟨g0, g1⟩ := bytes_get s (L - 1)
  have hl : ((List.range L).map (lowh s) ++ [(bytesOf s).getD (L - 1) 0 / 16]).length = L + 1 := by simp
  have al : ((List.range L).map atZ ++ [((L - 1 : Nat) : Int)]).length = L + 1 := by simp
  have hg : ∀ i, i ≤ L → ((List.range L).map (lowh s) ++ [(bytesOf s).getD (L - 1) 0 / 16]).getD i 0 = if i = L then (bytesOf s).getD (L - 1) 0 / 16 else lowh s i := fun i hi => by
    by_cases h : i = L
    · subst h; rw [if_pos rfl, List.getD_eq_getElem?_getD, List.getElem?_append_right (by simp)]; simp
    · rw [if_neg h, List.getD_eq_getElem?_getD, List.getElem?_append_left (by simp; omega)]; simp [show i < L by omega]
  have hb : ∀ i, 0 ≤ ((List.range L).map (lowh s) ++ [(bytesOf s).getD (L - 1) 0 / 16]).getD i 0 ∧ ((List.range L).map (lowh s) ++ [(bytesOf s).getD (L - 1) 0 / 16]).getD i 0 ≤ 15 := fun i => by
    by_cases hi : i ≤ L
    · rw [hg i hi]
      have := bytes_get s i
      unfold lowh
      split <;> omega
    · rw [List.getD_eq_getElem?_getD, List.getElem?_eq_none (by rw [hl]; omega)]; decide
  have hv := halves2 (ln := ln) (sc := sc) s (by omega) (by omega)
  rw [hL] at hv
  have A := f46q hv hl al (by omega) (by omega) (by omega) hb
  exact ⟨_, _, _, A, fun he => decR_fit h0 (by omega) hb he⟩

theorem val_num {kd ln sc n : Int} (ht : tyErr kd ln sc = 0) (hk : 1 ≤ kd ∧ kd ≤ 3) (h : -(pw ln - 1) ≤ n ∧ n ≤ pw ln - 1) : valErr kd ln sc n ByteArray.empty = 0 := by
  unfold valErr
  rw [if_neg (fun c => c ht), if_neg (by omega), if_neg (by omega), strEq_self, if_neg (by decide), if_neg (fun c => c h)]
theorem val_bound {kd ln sc n : Int} {s : ByteArray} (h : valErr kd ln sc n s = 0) (hk : 1 ≤ kd ∧ kd ≤ 3) : tyErr kd ln sc = 0 ∧ s = ByteArray.empty ∧ -(pw ln - 1) ≤ n ∧ n ≤ pw ln - 1 := by
  have ht : tyErr kd ln sc = 0 := by
    apply Decidable.byContradiction
    intro c
    unfold valErr at h
    rw [if_pos c] at h
    exact c h
  refine ⟨ht, ?_⟩
  unfold valErr at h
  rw [if_neg (fun c => c ht), if_neg (by omega), if_neg (by omega)] at h
  by_cases c : strEq s ByteArray.empty = false
  · rw [if_pos c] at h; exact absurd h (by decide)
  · rw [if_neg c] at h
    refine ⟨strEq_iff.1 (by simpa using c), ?_⟩
    apply Decidable.byContradiction
    intro c2
    rw [if_pos c2] at h
    exact absurd h (by decide)

/-- What is read of bytes is a right value. -/
theorem dec_right {kd ln sc : Int} {s : ByteArray} {r : (Int × ByteArray) × Int × Int} (hf : f16F 1000 ((kd, ln, sc), s) = some r) (he : r.2.2 = 0) : valErr kd ln sc r.1.1 r.1.2 = 0 := by
  by_cases ht : tyErr kd ln sc = 0
  · obtain ⟨a1, a2, a3, a4, a5, a6, a7, a8, a9⟩ := ty_ok ht
    by_cases h4 : kd = 4
    · subst h4
      unfold f16F f16p0 at hf
      simp only [f28q, ht, f43q, f42q, bind_some'] at hf
      cases hf
      exact absurd he (by decide)
    · obtain ⟨g44, g31⟩ := size_q ht h4
      have k4 : (kd == 4) = false := by simpa using h4
      have z0 : ((0 : Int) == 0) = true := rfl
      have tt : (if false = true then (17 : Int) else 0) = 0 := rfl
      have t0 : (if (0 : Int) = 0 then (0 : Int) else 0) = 0 := rfl
      by_cases hs : (s.size : Int) = szOf kd ln
      · have e18 : ((s.size : Int) != szOf kd ln) = false := by rw [hs]; simp
        have : kd = 0 ∨ kd = 1 ∨ kd = 2 ∨ kd = 3 := by omega
        rcases this with rfl | rfl | rfl | rfl
        · unfold f16F f16p0 at hf
          simp only [f28q, ht, f43q, f42q, bind_some', k4, tt, t0, z0, cond_true, g44, e18] at hf
          cases hf
          unfold valErr
          rw [if_neg (fun c => c ht), if_neg (by decide), if_pos rfl, if_neg (fun c => c rfl), if_neg (fun c => c hs)]
        · obtain ⟨l0, l1⟩ := a4 (by omega)
          obtain ⟨n, a, e, A, B⟩ := dec1_fit (sc := sc) l0 l1 hs
          unfold f16F f16p0 at hf
          simp only [f28q, ht, f43q, f42q, bind_some', k4, tt, t0, z0, cond_true, g44, e18, A] at hf
          cases hf
          exact val_num ht (by decide) (B he)
        · obtain ⟨l0, l1⟩ := a4 (by omega)
          obtain ⟨n, a, e, A, B⟩ := dec2_fit (sc := sc) l0 l1 hs
          unfold f16F f16p0 at hf
          simp only [f28q, ht, f43q, f42q, bind_some', k4, tt, t0, z0, cond_true, g44, e18, A] at hf
          cases hf
          exact val_num ht (by decide) (B he)
        · obtain ⟨z, hz⟩ : ∃ z, s.size = z := ⟨_, rfl⟩
          have hz24 : z = 2 ∨ z = 4 := by
            unfold szOf at hs
            rcases a5 rfl with rfl | rfl
            · simp at hs; omega
            · simp at hs; omega
          have F := f45q (s := s) (by omega) (by omega)
          generalize fold ((bytesOf s).drop 1) (if (bytesOf s).getD 0 0 ≥ 128 then (bytesOf s).getD 0 0 - 256 else (bytesOf s).getD 0 0) (s.size - 1) = n at F
          unfold f16F f16p0 at hf
          simp only [f28q, ht, f43q, f42q, bind_some', g44, e18, F, f29q] at hf
          by_cases hv : valErr 3 ln sc n ByteArray.empty = 0
          · rw [hv] at hf
            cases hf
            exact hv
          · have hvb : (valErr 3 ln sc n ByteArray.empty != 0) = true := by simpa using hv
            rw [hvb] at hf
            cases hf
            exact absurd he hv
      · have e18 : ((s.size : Int) != szOf kd ln) = true := by simpa using hs
        unfold f16F f16p0 at hf
        simp only [f28q, ht, f43q, f42q, bind_some', k4, tt, t0, z0, cond_true, g44, e18] at hf
        cases hf
        exact absurd he (by decide)
  · have hn : (tyErr kd ln sc != 0) = true := by simpa using ht
    have hz : (tyErr kd ln sc == 0) = false := by simpa using ht
    unfold f16F f16p0 at hf
    simp only [f28q, f43q, f42q, bind_some', if_neg ht, hz, cond_false, hn, cond_true] at hf
    cases hf
    exact absurd he ht
end Go.Proofs.Ytioagofpofamiaa
/-! Plain laws: the bytes of a result of two operands. -/
set_option linter.unusedVariables false
set_option linter.unusedSimpArgs false
namespace Go.Proofs.Ytioagofpofamiaa
open Go.Ab

theorem putZ_val {num : Int} {den : Nat} {sc ln : Int} {half : Bool} (h : (putZ num den sc ln half).2 = 0) : -(pw ln - 1) ≤ (putZ num den sc ln half).1 ∧ (putZ num den sc ln half).1 ≤ pw ln - 1 := by
  unfold putZ at *
  rw [putR_nat] at *
  have hp : pw ln = ((10 ^ ln.toNat : Nat) : Int) := by unfold pw; simp
  by_cases c : 10 ^ ln.toNat ≤ wholeN num.natAbs den sc.toNat half
  · rw [if_pos c] at h; exact absurd h (by decide)
  · rw [if_neg c]
    unfold sg
    simp only [hp]
    split <;> omega

theorem num_bound {kd ln sc n : Int} {s : ByteArray} (h : valErr kd ln sc n s = 0) (hk : 1 ≤ kd ∧ kd ≤ 3) : numErr n sc = 0 := by
  obtain ⟨ht, _, b0, b1⟩ := val_bound h hk
  obtain ⟨a1, a2, a3, a4, a5, a6, a7, a8, a9⟩ := ty_ok ht
  obtain ⟨l0, l1⟩ := a4 hk
  have s9 := a9 hk
  have p := pw_bound l0 l1
  exact numErr_of (by omega) (by omega) a7 (by omega)

theorem f36l0_step {R : Type} (rec : Int × Int × Int × Int × Int × Bool × Int × Int × Int × ByteArray × Int × Int × Int × ByteArray × ByteArray × Int × Int × List (Int × (Int × Int)) × Unit → Option R) (k0 k1 : Int × Int × Int × Int × Bool × Int × Int × Int × ByteArray × Int × Int × Int × ByteArray × ByteArray × Int × Int × List (Int × (Int × Int)) × Unit → Option R)
    (op kd ln sc : Int) (half : Bool) (ka la sa : Int) (A : ByteArray) (kb lb sb : Int) (B o1 : ByteArray) (o2 o3 : Int) (l : List (Int × (Int × Int))) (i : Nat) (hi : i < l.length) (hl : l.length < 1000) (k n s : Int) (hg : l.getD i ((0 : Int), ((0 : Int), (0 : Int))) = (k, (n, s))) :
    f36l0s 1000 rec k0 k1 ((i : Int), op, kd, ln, sc, half, ka, la, sa, A, kb, lb, sb, B, o1, o2, o3, l, ()) = if tyErr k n s ≠ 0 then k0 (op, kd, ln, sc, half, ka, la, sa, A, kb, lb, sb, B, ByteArray.empty, 0, tyErr k n s, l, ())
      else rec (((i + 1 : Nat) : Int), op, kd, ln, sc, half, ka, la, sa, A, kb, lb, sb, B, o1, o2, o3, l, ()) := by
  unfold f36l0s
  simp only [Int.toNat_natCast, hg]
  rw [bif_true (by simp; omega), bif_true (by simp; omega)]
  simp only [f27q, bind_some']
  by_cases h : tyErr k n s = 0
  · rw [if_neg (fun c => c h), bif_false (by simpa using h), wi (by omega) (by omega)]
    rfl
  · rw [if_pos h, bif_true (by simpa using h)]
theorem f36l1_step {R : Type} (rec : Int × Int × Int × Int × Int × Bool × Int × Int × Int × ByteArray × Int × Int × Int × ByteArray × ByteArray × Int × Int × List (Int × (Int × Int)) × Unit → Option R) (k0 k1 : Int × Int × Int × Int × Bool × Int × Int × Int × ByteArray × Int × Int × Int × ByteArray × ByteArray × Int × Int × Unit → Option R)
    (op kd ln sc : Int) (half : Bool) (ka la sa : Int) (A : ByteArray) (kb lb sb : Int) (B o1 : ByteArray) (o2 o3 : Int) (l : List (Int × (Int × Int))) (i : Nat) (hi : i < l.length) (hl : l.length < 1000) (k n s : Int) (hg : l.getD i ((0 : Int), ((0 : Int), (0 : Int))) = (k, (n, s))) :
    f36l1s 1000 rec k0 k1 ((i : Int), op, kd, ln, sc, half, ka, la, sa, A, kb, lb, sb, B, o1, o2, o3, l, ()) = if ¬ (1 ≤ k ∧ k ≤ 3) then k0 (op, kd, ln, sc, half, ka, la, sa, A, kb, lb, sb, B, ByteArray.empty, 0, 17, ())
      else rec (((i + 1 : Nat) : Int), op, kd, ln, sc, half, ka, la, sa, A, kb, lb, sb, B, o1, o2, o3, l, ()) := by
  unfold f36l1s
  simp only [Int.toNat_natCast, hg]
  rw [bif_true (by simp; omega), bif_true (by simp; omega)]
  simp only [f68q, bind_some']
  by_cases h : 1 ≤ k ∧ k ≤ 3
  · rw [if_neg (fun c => c h), bif_false (by simp [h]), wi (by omega) (by omega)]
    rfl
  · rw [if_pos h, bif_true (by simp [h])]

theorem iter_three {V R : Type} {Step : (V → Option R) → V → Option R} (v : V) : iterS Step 1000 v = Step (fun v => Step (fun v => Step (fun v => Step (iterS Step 996) v) v) v) v := rfl

/-- The error ahead of two operands' values. -/
def opErr (op : Int) (a b t : Int × Int × Int) : Int :=
  if ¬ (0 ≤ op ∧ op ≤ 4) then 4 else if tyErr a.1 a.2.1 a.2.2 ≠ 0 then tyErr a.1 a.2.1 a.2.2 else if tyErr b.1 b.2.1 b.2.2 ≠ 0 then tyErr b.1 b.2.1 b.2.2
  else if tyErr t.1 t.2.1 t.2.2 ≠ 0 then tyErr t.1 t.2.1 t.2.2 else if ¬ ((1 ≤ a.1 ∧ a.1 ≤ 3) ∧ (1 ≤ b.1 ∧ b.1 ≤ 3) ∧ (1 ≤ t.1 ∧ t.1 ≤ 3)) then 17 else 0
theorem opErr_ok {op : Int} {a b t : Int × Int × Int} (h : opErr op a b t = 0) : (0 ≤ op ∧ op ≤ 4) ∧ tyErr a.1 a.2.1 a.2.2 = 0 ∧ tyErr b.1 b.2.1 b.2.2 = 0 ∧ tyErr t.1 t.2.1 t.2.2 = 0 ∧ (1 ≤ a.1 ∧ a.1 ≤ 3) ∧ (1 ≤ b.1 ∧ b.1 ≤ 3) ∧ (1 ≤ t.1 ∧ t.1 ≤ 3) := by
  unfold opErr at h
  by_cases c1 : 0 ≤ op ∧ op ≤ 4
  · rw [if_neg (fun c => c c1)] at h
    by_cases c2 : tyErr a.1 a.2.1 a.2.2 = 0
    · rw [if_neg (fun c => c c2)] at h
      by_cases c3 : tyErr b.1 b.2.1 b.2.2 = 0
      · rw [if_neg (fun c => c c3)] at h
        by_cases c4 : tyErr t.1 t.2.1 t.2.2 = 0
        · rw [if_neg (fun c => c c4)] at h
          by_cases c5 : (1 ≤ a.1 ∧ a.1 ≤ 3) ∧ (1 ≤ b.1 ∧ b.1 ≤ 3) ∧ (1 ≤ t.1 ∧ t.1 ≤ 3)
          · exact ⟨c1, c2, c3, c4, c5⟩
          · rw [if_pos c5] at h; exact absurd h (by decide)
        · rw [if_pos c4] at h; exact absurd h c4
      · rw [if_pos c3] at h; exact absurd h c3
    · rw [if_pos c2] at h; exact absurd h c2
  · rw [if_pos c1] at h; exact absurd h (by decide)

/-- What is made of right operands' bytes, by the code and by the reference. -/
theorem tail_eq {op ka la sa kb lb sb kd ln sc : Int} {A B : ByteArray} {half : Bool} (h : opErr op (ka, la, sa) (kb, lb, sb) (kd, ln, sc) = 0) :
    ∃ r : ByteArray × Int × Int,
      (Option.bind (f16F 1000 ((ka, (la, sa)), A)) fun y11 =>
        bif (y11.2.2 != (0 : Int)) then some (ByteArray.empty, y11.2.1, y11.2.2) else
        Option.bind (f16F 1000 ((kb, (lb, sb)), B)) fun y12 =>
        bif (y12.2.2 != (0 : Int)) then some (ByteArray.empty, y12.2.1, y12.2.2) else
        Option.bind (f65F 1000 (op, (y11.1.1, sa), (y12.1.1, sb), (kd, (ln, sc)), half)) fun y13 =>
        bif (y13.2 != (0 : Int)) then some (ByteArray.empty, (0 : Int), y13.2) else
        Option.bind (f40F 1000 ((kd, (ln, sc)), (y13.1.1, y13.1.2))) fun y14 =>
        some (y14, (0 : Int), (0 : Int))) = some r ∧
      (Option.bind (f17F 1000 ((ka, (la, sa)), A)) fun y13 =>
        bif (y13.2.2 != (0 : Int)) then some (ByteArray.empty, (y13.2.1, y13.2.2)) else
        Option.bind (f17F 1000 ((kb, (lb, sb)), B)) fun y14 =>
        bif (y14.2.2 != (0 : Int)) then some (ByteArray.empty, (y14.2.1, y14.2.2)) else
        Option.bind (f23F 1000 ((op, ((kd, (ln, sc)), half)), (y13.1.1, sa), (y14.1.1, sb))) fun y15 =>
        bif (y15.2 != (0 : Int)) then some (ByteArray.empty, ((0 : Int), y15.2)) else
        Option.bind (f41F 1000 ((kd, (ln, sc)), (y15.1.1, y15.1.2))) fun y16 =>
        some (y16, ((0 : Int), (0 : Int)))) = some r := by
  obtain ⟨ho, ha, hb, ht, ka3, kb3, kt3⟩ := opErr_ok h
  simp only [] at ha hb ht ka3 kb3 kt3
  obtain ⟨r1, p1, q1⟩ := f16q ka la sa A
  obtain ⟨r2, p2, q2⟩ := f16q kb lb sb B
  rw [p1, q1]
  simp only [bind_some']
  by_cases e1 : r1.2.2 = 0
  · rw [bif_false (by simpa using e1), bif_false (by simpa using e1), p2, q2]
    simp only [bind_some']
    by_cases e2 : r2.2.2 = 0
    · rw [bif_false (by simpa using e2), bif_false (by simpa using e2)]
      have n1 := num_bound (dec_right p1 e1) ka3
      have n2 := num_bound (dec_right p2 e2) kb3
      rw [f65q ho n1 n2 ht kt3, f23q]
      simp only [bind_some']
      by_cases hz : (op = 3 ∨ op = 4) ∧ r2.1.1 = 0
      · have c : calcS op r1.1.1 sa r2.1.1 sb kd ln sc half = (0, 20) := by
          rw [hz.2]
          rw [hz.2] at n2
          exact calcS_zero hz.1 n1 n2 ht kt3
        rw [if_pos hz, c]
        exact ⟨_, rfl, rfl⟩
      · rw [if_neg hz, calcS_ok ho n1 n2 ht kt3 hz]
        have hv := putZ_val (num := (resN op r1.1.1 sa r2.1.1 sb).1) (den := (resN op r1.1.1 sa r2.1.1 sb).2) (sc := sc) (ln := ln) (half := half)
        generalize putZ (resN op r1.1.1 sa r2.1.1 sb).1 (resN op r1.1.1 sa r2.1.1 sb).2 sc ln half = p at *
        by_cases e3 : p.2 = 0
        · rw [bif_false (by simpa using e3), bif_false (by simpa using e3)]
          obtain ⟨C, g1, g2⟩ := bytes_eq (val_num ht kt3 (hv e3))
          have g1' : f40F 1000 ((kd, (ln, sc)), (p.1, ByteArray.empty)) = some C := g1
          have g2' : f41F 1000 ((kd, (ln, sc)), (p.1, ByteArray.empty)) = some C := g2
          simp only [g1', g2', bind_some']
          exact ⟨_, rfl, rfl⟩
        · rw [bif_true (by simpa using e3), bif_true (by simpa using e3)]
          exact ⟨_, rfl, rfl⟩
    · rw [bif_true (by simpa using e2), bif_true (by simpa using e2)]
      exact ⟨_, rfl, rfl⟩
  · rw [bif_true (by simpa using e1), bif_true (by simpa using e1)]
    exact ⟨_, rfl, rfl⟩

theorem bytesq (op ka la sa kb lb sb kd ln sc : Int) (A B : ByteArray) (half : Bool) :
    ∃ r : ByteArray × Int × Int, f35F 1000 (op, ((ka, (la, sa)), A), ((kb, (lb, sb)), B), (kd, (ln, sc)), half) = some r ∧ f36F 1000 ((op, ((kd, (ln, sc)), half)), ((ka, (la, sa)), A), ((kb, (lb, sb)), B)) = some r := by
  have h64 : f64F 1000 op = some (decide (0 ≤ op ∧ op ≤ 4)) := by
    unfold f64F
    rw [f70q, bind_some']
  have e35 : f35F 1000 (op, ((ka, (la, sa)), A), ((kb, (lb, sb)), B), (kd, (ln, sc)), half) = bif (opErr op (ka, la, sa) (kb, lb, sb) (kd, ln, sc) != 0) then some (ByteArray.empty, (0 : Int), opErr op (ka, la, sa) (kb, lb, sb) (kd, ln, sc)) else
      (Option.bind (f16F 1000 ((ka, (la, sa)), A)) fun y11 =>
        bif (y11.2.2 != (0 : Int)) then some (ByteArray.empty, y11.2.1, y11.2.2) else
        Option.bind (f16F 1000 ((kb, (lb, sb)), B)) fun y12 =>
        bif (y12.2.2 != (0 : Int)) then some (ByteArray.empty, y12.2.1, y12.2.2) else
        Option.bind (f65F 1000 (op, (y11.1.1, sa), (y12.1.1, sb), (kd, (ln, sc)), half)) fun y13 =>
        bif (y13.2 != (0 : Int)) then some (ByteArray.empty, (0 : Int), y13.2) else
        Option.bind (f40F 1000 ((kd, (ln, sc)), (y13.1.1, y13.1.2))) fun y14 =>
        some (y14, (0 : Int), (0 : Int))) := by
    have tab : ∀ f : Bool, (f = !decide ((1 ≤ ka ∧ ka ≤ 3) ∧ (1 ≤ kb ∧ kb ≤ 3) ∧ (1 ≤ kd ∧ kd ≤ 3))) →
        (if (if (!decide (0 ≤ op ∧ op ≤ 4)) = true then (4 : Int) else 0) = 0 then (if tyErr ka la sa = 0 then (if tyErr kb lb sb = 0 then (if tyErr kd ln sc = 0 then (if f = true then (17 : Int) else 0) else tyErr kd ln sc) else tyErr kb lb sb) else tyErr ka la sa) else (if (!decide (0 ≤ op ∧ op ≤ 4)) = true then (4 : Int) else 0)) = opErr op (ka, la, sa) (kb, lb, sb) (kd, ln, sc) := by
      rintro f rfl
      unfold opErr
      simp only []
      by_cases c1 : 0 ≤ op ∧ op ≤ 4
      · simp only [c1, and_self, decide_true, Bool.not_true, Bool.false_eq_true, if_false, if_true, not_true_eq_false]
        by_cases c2 : tyErr ka la sa = 0
        · simp only [c2, if_true, ne_eq, not_true_eq_false, if_false]
          by_cases c3 : tyErr kb lb sb = 0
          · simp only [c3, if_true, ne_eq, not_true_eq_false, if_false]
            by_cases c4 : tyErr kd ln sc = 0
            · simp only [c4, if_true, ne_eq, not_true_eq_false, if_false]
              by_cases c5 : (1 ≤ ka ∧ ka ≤ 3) ∧ (1 ≤ kb ∧ kb ≤ 3) ∧ (1 ≤ kd ∧ kd ≤ 3)
              · rw [decide_eq_true c5, if_neg (c := ¬ ((1 ≤ ka ∧ ka ≤ 3) ∧ (1 ≤ kb ∧ kb ≤ 3) ∧ (1 ≤ kd ∧ kd ≤ 3))) (fun c => c c5)]; rfl
              · rw [decide_eq_false c5, if_pos c5]; rfl
            · simp only [c4, if_false, ne_eq, not_false_eq_true, if_true]
          · simp only [c3, if_false, ne_eq, not_false_eq_true, if_true]
        · simp only [c2, if_false, ne_eq, not_false_eq_true, if_true]
      · simp only [c1, decide_false, Bool.not_false, if_true, not_false_eq_true]
        rfl
    unfold f35F
    simp only [f53q, h64, f43q, f28q, f42q5, bind_some']
    by_cases c1 : 1 ≤ ka ∧ ka ≤ 3
    · rw [decide_eq_true c1, cond_true]
      by_cases c2 : 1 ≤ kb ∧ kb ≤ 3
      · rw [decide_eq_true c2, cond_true, tab _ (by simp [c1, c2])]
      · have tt := tab true (by simp [c2])
        simp only [if_true] at tt
        simp only [if_true]
        rw [decide_eq_false c2, cond_false, tt]
    · have tt := tab true (by simp [c1])
      simp only [if_true] at tt
      simp only [if_true]
      rw [decide_eq_false c1, cond_false, tt]
  have e36 : f36F 1000 ((op, ((kd, (ln, sc)), half)), ((ka, (la, sa)), A), ((kb, (lb, sb)), B)) = bif (opErr op (ka, la, sa) (kb, lb, sb) (kd, ln, sc) != 0) then some (ByteArray.empty, (0 : Int), opErr op (ka, la, sa) (kb, lb, sb) (kd, ln, sc)) else
      (Option.bind (f17F 1000 ((ka, (la, sa)), A)) fun y13 =>
        bif (y13.2.2 != (0 : Int)) then some (ByteArray.empty, (y13.2.1, y13.2.2)) else
        Option.bind (f17F 1000 ((kb, (lb, sb)), B)) fun y14 =>
        bif (y14.2.2 != (0 : Int)) then some (ByteArray.empty, (y14.2.1, y14.2.2)) else
        Option.bind (f23F 1000 ((op, ((kd, (ln, sc)), half)), (y13.1.1, sa), (y14.1.1, sb))) fun y15 =>
        bif (y15.2 != (0 : Int)) then some (ByteArray.empty, ((0 : Int), y15.2)) else
        Option.bind (f41F 1000 ((kd, (ln, sc)), (y15.1.1, y15.1.2))) fun y16 =>
        some (y16, ((0 : Int), (0 : Int)))) := by
    unfold f36F opErr
    simp only [f48q, bind_some']
    by_cases c1 : 0 ≤ op ∧ op ≤ 4
    · simp only [c1, and_self, decide_true, Bool.not_true, cond_false, not_true_eq_false, if_false]
      unfold f36l0 f36l1
      have z0 : (0 : Int) = ((0 : Nat) : Int) := rfl
      rw [iter_three]
      rw [show ∀ (rec k0 k1), f36l0s (R := ByteArray × Int × Int) 1000 rec k0 k1 (0, op, kd, ln, sc, half, ka, la, sa, A, kb, lb, sb, B, ByteArray.empty, 0, 0, [(ka, (la, sa)), (kb, (lb, sb)), (kd, (ln, sc))], ()) = _ from fun rec k0 k1 => f36l0_step rec k0 k1 op kd ln sc half ka la sa A kb lb sb B ByteArray.empty 0 0 [(ka, (la, sa)), (kb, (lb, sb)), (kd, (ln, sc))] 0 (by simp) (by simp) ka la sa rfl]
      by_cases c2 : tyErr ka la sa = 0
      · rw [if_neg (fun c => c c2), if_neg (fun c => c c2)]
        rw [f36l0_step _ _ _ op kd ln sc half ka la sa A kb lb sb B ByteArray.empty 0 0 [(ka, (la, sa)), (kb, (lb, sb)), (kd, (ln, sc))] 1 (by simp) (by simp) kb lb sb rfl]
        by_cases c3 : tyErr kb lb sb = 0
        · rw [if_neg (fun c => c c3), if_neg (fun c => c c3)]
          rw [f36l0_step _ _ _ op kd ln sc half ka la sa A kb lb sb B ByteArray.empty 0 0 [(ka, (la, sa)), (kb, (lb, sb)), (kd, (ln, sc))] 2 (by simp) (by simp) kd ln sc rfl]
          by_cases c4 : tyErr kd ln sc = 0
          · rw [if_neg (fun c => c c4), if_neg (fun c => c c4)]
            have e3 : ∀ (rec k0 k1), f36l0s (R := ByteArray × Int × Int) 1000 rec k0 k1 (((2 + 1 : Nat) : Int), op, kd, ln, sc, half, ka, la, sa, A, kb, lb, sb, B, ByteArray.empty, 0, 0, [(ka, (la, sa)), (kb, (lb, sb)), (kd, (ln, sc))], ()) = k1 (op, kd, ln, sc, half, ka, la, sa, A, kb, lb, sb, B, ByteArray.empty, 0, 0, [(ka, (la, sa)), (kb, (lb, sb)), (kd, (ln, sc))], ()) := fun _ _ _ => rfl
            rw [e3]
            simp only []
            rw [iter_three]
            rw [show ∀ (rec k0 k1), f36l1s (R := ByteArray × Int × Int) 1000 rec k0 k1 (0, op, kd, ln, sc, half, ka, la, sa, A, kb, lb, sb, B, ByteArray.empty, 0, 0, [(ka, (la, sa)), (kb, (lb, sb)), (kd, (ln, sc))], ()) = _ from fun rec k0 k1 => f36l1_step rec k0 k1 op kd ln sc half ka la sa A kb lb sb B ByteArray.empty 0 0 [(ka, (la, sa)), (kb, (lb, sb)), (kd, (ln, sc))] 0 (by simp) (by simp) ka la sa rfl]
            by_cases d1 : 1 ≤ ka ∧ ka ≤ 3
            · rw [if_neg (fun c => c d1)]
              rw [f36l1_step _ _ _ op kd ln sc half ka la sa A kb lb sb B ByteArray.empty 0 0 [(ka, (la, sa)), (kb, (lb, sb)), (kd, (ln, sc))] 1 (by simp) (by simp) kb lb sb rfl]
              by_cases d2 : 1 ≤ kb ∧ kb ≤ 3
              · rw [if_neg (fun c => c d2)]
                rw [f36l1_step _ _ _ op kd ln sc half ka la sa A kb lb sb B ByteArray.empty 0 0 [(ka, (la, sa)), (kb, (lb, sb)), (kd, (ln, sc))] 2 (by simp) (by simp) kd ln sc rfl]
                by_cases d3 : 1 ≤ kd ∧ kd ≤ 3
                · rw [if_neg (fun c => c d3), if_neg (fun c => c ⟨d1, d2, d3⟩)]
                  have e4 : ∀ (rec k0 k1), f36l1s (R := ByteArray × Int × Int) 1000 rec k0 k1 (((2 + 1 : Nat) : Int), op, kd, ln, sc, half, ka, la, sa, A, kb, lb, sb, B, ByteArray.empty, 0, 0, [(ka, (la, sa)), (kb, (lb, sb)), (kd, (ln, sc))], ()) = k1 (op, kd, ln, sc, half, ka, la, sa, A, kb, lb, sb, B, ByteArray.empty, 0, 0, ()) := fun _ _ _ => rfl
                  rw [e4]
                  rfl
                · rw [if_pos d3, if_pos (fun c => d3 c.2.2)]
                  rfl
              · rw [if_pos d2, if_pos (fun c => d2 c.2.1)]
                rfl
            · rw [if_pos d1, if_pos (fun c => d1 c.1)]
              rfl
          · rw [if_pos c4, if_pos c4, bif_true (by simpa using c4)]
        · rw [if_pos c3, if_pos c3, bif_true (by simpa using c3)]
      · rw [if_pos c2, if_pos c2, bif_true (by simpa using c2)]
    · simp only [c1, decide_false, Bool.not_false, cond_true, not_false_eq_true, if_true]
      rfl
  rw [e35, e36]
  by_cases h : opErr op (ka, la, sa) (kb, lb, sb) (kd, ln, sc) = 0
  · rw [bif_false (by simpa using h), bif_false (by simpa using h)]
    exact tail_eq h
  · rw [bif_true (by simpa using h), bif_true (by simpa using h)]
    exact ⟨_, rfl, rfl⟩

theorem bytesLaw (x : (Int × ((Int × (Int × Int)) × Bool)) × ((Int × (Int × Int)) × ByteArray) × ((Int × (Int × Int)) × ByteArray)) : f11F 1000 x = some true := by
  obtain ⟨⟨op, ⟨kd, ln, sc⟩, half⟩, ⟨⟨ka, la, sa⟩, A⟩, ⟨⟨kb, lb, sb⟩, B⟩⟩ := x
  obtain ⟨r, h1, h2⟩ := bytesq op ka la sa kb lb sb kd ln sc A B half
  unfold f11F
  simp only [awake_ok, bind_some', h1, h2]
  by_cases hA : (A.size : Int) > 700
  · simp [hA]
  · by_cases hB : (B.size : Int) > 700
    · simp [hA, hB]
    · simp [hA, hB, strEq_self]
end Go.Proofs.Ytioagofpofamiaa
