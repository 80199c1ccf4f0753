/- Plain laws: the bytes of a value are as the reference has them. -/
import Derived.Test.YtioagofpofamiaaPl5
/-! Plain laws: the bytes of a value are as the reference has them. -/
set_option linter.unusedVariables false
set_option linter.unusedSimpArgs false
namespace Go.Proofs.Ytioagofpofamiaa
open Go.Ab

theorem f40p1q {R : Type} (k0 : Int × ByteArray × List Int × Unit → Option R) (n : Int) (s : ByteArray) (z : List Int) (h0 : 1 ≤ z.length) (h1 : z.length ≤ 900) :
    f40p1 1000 k0 (n, s, z, ()) = if n < 0 then k0 (n, s, z.set (z.length - 1) (IntKind.u8.wrap (z.getD (z.length - 1) 0 - 32)), ()) else k0 (n, s, z, ()) := by
  unfold f40p1
  have w : IntKind.i64.wrap ((z.length : Int) - 1) = ((z.length - 1 : Nat) : Int) := by rw [wi (by omega) (by omega)]; omega
  have e0 : (decide ((0 : Int) ≤ ((z.length - 1 : Nat) : Int))) = true := by simp <;> omega
  have e1 : (decide (((z.length - 1 : Nat) : Int) < (z.length : Int))) = true := by simp; omega
  simp only [w, e0, e1, Bool.and_self, cond_true, Int.toNat_natCast]
  by_cases h : n < 0 <;> simp [h]
theorem f41p2q {R : Type} (k0 : Int × Int × Int × Int × ByteArray × List Int × List Int × Unit → Option R) (kd sc n : Int) (s : ByteArray) (y z : List Int) (h0 : 1 ≤ y.length) (h1 : y.length ≤ 900) (hz : z.length = y.length) :
    f41p2 1000 k0 (kd, (y.length : Int), sc, n, s, y, z, ()) = if n < 0 then k0 (kd, (y.length : Int), sc, n, s, y, z.set (y.length - 1) (IntKind.u8.wrap (IntKind.i64.wrap (208 + y.getD (y.length - 1) 0))), ()) else k0 (kd, (y.length : Int), sc, n, s, y, z, ()) := by
  unfold f41p2
  have w : IntKind.i64.wrap ((y.length : Int) - 1) = ((y.length - 1 : Nat) : Int) := by rw [wi (by omega) (by omega)]; omega
  have e0 : (decide ((0 : Int) ≤ ((y.length - 1 : Nat) : Int))) = true := by simp <;> omega
  have e1 : (decide (((y.length - 1 : Nat) : Int) < (y.length : Int))) = true := by simp; omega
  simp only [w, hz, e0, e1, Bool.and_self, cond_true, Int.toNat_natCast]
  by_cases h : n < 0 <;> simp [h]

theorem zoned_eq {y : List Int} (hd : ∀ d ∈ y, 0 ≤ d ∧ d < 10) : y.map z240 = y.map r240 := by
  refine List.map_congr_left fun d h => ?_
  obtain ⟨h0, h1⟩ := hd d h
  unfold z240 r240
  rw [wi (by omega) (by omega), wu8 (by omega) (by omega), wu8 (by omega) (by omega)]
  omega
theorem last_eq {y : List Int} (hd : ∀ d ∈ y, 0 ≤ d ∧ d < 10) (h0 : 1 ≤ y.length) : IntKind.u8.wrap ((y.map z240).getD (y.length - 1) 0 - 32) = IntKind.u8.wrap (IntKind.i64.wrap (208 + y.getD (y.length - 1) 0)) := by
  obtain ⟨a0, a1⟩ := getD_mem hd (i := y.length - 1) (by omega)
  have : (y.map z240).getD (y.length - 1) 0 = z240 (y.getD (y.length - 1) 0) := by
    simp only [List.getD_eq_getElem?_getD, List.getElem?_map]
    rw [List.getElem?_eq_getElem (by omega)]
    rfl
  rw [this]
  unfold z240
  rw [wu8 (x := y.getD (y.length - 1) 0 + 240) (by omega) (by omega), wi (by omega) (by omega)]
  congr 1
  omega

/-- A number's amount. -/
def amt (n : Int) : Int := if n < 0 then -n else n

theorem zoned {ln sc n : Int} {s : ByteArray} (h0 : 1 ≤ ln) (h1 : ln ≤ 15) (n0 : -1000000000000000 ≤ n) (n1 : n ≤ 1000000000000000) : ∃ B, f40F 1000 ((2, ln, sc), n, s) = some B ∧ f41F 1000 ((2, ln, sc), n, s) = some B := by
  obtain ⟨L, rfl⟩ : ∃ L : Nat, ln = L := ⟨ln.toNat, by omega⟩
  have ha0 : 0 ≤ amt n := by unfold amt; split <;> omega
  have ha1 : amt n ≤ 1000000000000000 := by unfold amt; split <;> omega
  have hm : mxI n (IntKind.i64.wrap (0 - n)) = amt n := mx_abs n0 n1
  have hL : L ≤ 900 := by omega
  have hd : ∀ d ∈ low 10 (amt n) L, 0 ≤ d ∧ d < 10 := fun d h => low_mem (by decide) h
  have hlen : (low 10 (amt n) L).length = L := low_length _ _ _
  have A : f40F 1000 ((2, (L : Int), sc), n, s) = some (strOfNums (if n < 0 then ((low 10 (amt n) L).map r240).set (L - 1) (IntKind.u8.wrap (IntKind.i64.wrap (208 + (low 10 (amt n) L).getD (L - 1) 0))) else (low 10 (amt n) L).map r240)) := by
    unfold f40F
    simp only [hm, f75q ha0 (by omega) hL, bind_some']
    have e : ((2 : Int) == 2) = true := rfl
    rw [e, cond_true, f40l0q _ _ _ _ (by omega), f40p1q _ _ _ _ (by simp; omega) (by simp; omega)]
    simp only [List.length_map]
    rw [last_eq hd (by omega), zoned_eq hd, hlen]
    split <;> rfl
  have B : f41F 1000 ((2, (L : Int), sc), n, s) = some (strOfNums (if n < 0 then ((low 10 (amt n) L).map r240).set (L - 1) (IntKind.u8.wrap (IntKind.i64.wrap (208 + (low 10 (amt n) L).getD (L - 1) 0))) else (low 10 (amt n) L).map r240)) := by
    unfold f41F f79F
    have e0 : ((2 : Int) == 0) = false := rfl
    have e3 : ((2 : Int) == 3) = false := rfl
    have e2 : ((2 : Int) == 2) = true := rfl
    have c1 : (((decide ((0 : Int) ≤ (L : Int))) && (decide (((L : Int) * 1) ≤ (140737488355328 : Int)))) && (decide ((L : Int) ≤ (281474976710656 : Int)))) = true := by
      simp; omega
    simp only [e0, e3, e2, cond_false, cond_true, bind_some', hm, f78q ha0 (by omega) hL, c1, Int.toNat_natCast]
    have q := f41l1q (R := ByteArray) (fun w9 => f41p2 1000 (fun w12 => some (strOfNums w12.2.2.2.2.2.2.1)) (w9.1, w9.2.1, w9.2.2.1, w9.2.2.2.1, w9.2.2.2.2.1, w9.2.2.2.2.2.1, w9.2.2.2.2.2.2.1, ())) 2 sc n s (low 10 (amt n) L) (by omega)
    rw [hlen] at q
    rw [q]
    have q2 := f41p2q (R := ByteArray) (fun w12 => some (strOfNums w12.2.2.2.2.2.2.1)) 2 sc n s (low 10 (amt n) L) ((low 10 (amt n) L).map r240) (by omega) (by omega) (by simp)
    rw [hlen] at q2
    rw [q2]
    split <;> rfl
  exact ⟨_, A, B⟩

theorem packed {ln sc n : Int} {s : ByteArray} (h0 : 1 ≤ ln) (h1 : ln ≤ 15) (n0 : -1000000000000000 ≤ n) (n1 : n ≤ 1000000000000000) : ∃ B, f40F 1000 ((1, ln, sc), n, s) = some B ∧ f41F 1000 ((1, ln, sc), n, s) = some B := by
  obtain ⟨L, rfl⟩ : ∃ L : Nat, ln = L := ⟨ln.toNat, by omega⟩
  have ha0 : 0 ≤ amt n := by unfold amt; split <;> omega
  have ha1 : amt n ≤ 1000000000000000 := by unfold amt; split <;> omega
  have hm : mxI n (IntKind.i64.wrap (0 - n)) = amt n := mx_abs n0 n1
  have hL : L ≤ 900 := by omega
  have hd : ∀ d ∈ low 10 (amt n) L, 0 ≤ d ∧ d < 10 := fun d h => low_mem (by decide) h
  have hlen : (low 10 (amt n) L).length = L := low_length _ _ _
  let sg : Int := if n < 0 then 13 else 15
  let l : List Int := (if L % 2 = 0 then [0] ++ low 10 (amt n) L else low 10 (amt n) L) ++ [sg]
  let m : Nat := L / 2 + 1
  have hl : l.length = 2 * m := by
    show ((if L % 2 = 0 then [0] ++ low 10 (amt n) L else low 10 (amt n) L) ++ [sg]).length = 2 * (L / 2 + 1)
    split <;> simp [hlen] <;> omega
  have hsg : 0 ≤ sg ∧ sg ≤ 15 := by show 0 ≤ (if n < 0 then (13 : Int) else 15) ∧ (if n < 0 then (13 : Int) else 15) ≤ 15; split <;> omega
  have hl15 : ∀ d ∈ l, 0 ≤ d ∧ d ≤ 15 := by
    intro d h
    have h : d ∈ (if L % 2 = 0 then [0] ++ low 10 (amt n) L else low 10 (amt n) L) ++ [sg] := h
    rcases List.mem_append.1 h with h | h
    · split at h
      · rcases List.mem_append.1 h with h | h
        · simp at h; omega
        · have := hd d h; omega
      · have := hd d h; omega
    · simp at h; rw [h]; exact hsg
  have hm450 : m ≤ 450 := by show L / 2 + 1 ≤ 450; omega
  have A : f40F 1000 ((1, (L : Int), sc), n, s) = some (strOfNums ((List.range m).map (pair16 l))) := by
    unfold f40F f40p2 f40p3
    simp only [hm, f75q ha0 (by omega) hL, bind_some', hlen]
    have e2 : ((1 : Int) == 2) = false := rfl
    have e1 : ((1 : Int) == 1) = true := rfl
    rw [Int.tmod_eq_emod_of_nonneg (by omega)]
    simp only [e1, e2, cond_false, cond_true]
    have f := f76q l m hl hm450 hl15
    have fin : ∀ d : List Int, d.length ≤ 16 → d ++ [sg] = l → (bif (decide ((d.length + [sg].length) * 1 ≤ 140737488355328) && decide (d.length + [sg].length ≤ 9223372036854775807)) then Option.bind (f76F 1000 (d ++ [sg])) fun y9 => some y9 else none) = some (strOfNums ((List.range m).map (pair16 l))) := by
      intro d hd he
      have e4 : (decide ((d.length + [sg].length) * 1 ≤ 140737488355328) && decide (d.length + [sg].length ≤ 9223372036854775807)) = true := by simp; omega
      rw [e4, cond_true, he, f]
      rfl
    have par : (((L : Int) % 2) == 0) = decide (L % 2 = 0) := by
      by_cases hp : L % 2 = 0
      · have : (L : Int) % 2 = 0 := by omega
        simp [hp, this]
      · have : (L : Int) % 2 ≠ 0 := by omega
        simp [hp, this]
    have e5 : (decide (([(0 : Int)].length + L) * 1 ≤ 140737488355328) && decide ([(0 : Int)].length + L ≤ 9223372036854775807)) = true := by simp; omega
    rw [par]
    by_cases hn : n < 0
    · have hs : sg = 13 := if_pos hn
      simp only [hn, decide_true, cond_true, e5]
      rw [hs] at fin
      by_cases hp : L % 2 = 0
      · simp only [hp, decide_true, cond_true]
        exact fin ([0] ++ low 10 (amt n) L) (by simp [hlen]; omega) (by show _ = (if L % 2 = 0 then [0] ++ low 10 (amt n) L else low 10 (amt n) L) ++ [sg]; rw [if_pos hp, hs])
      · simp only [hp, decide_false, cond_false]
        have g := fin (low 10 (amt n) L) (by simp [hlen]; omega) (by show _ = (if L % 2 = 0 then [0] ++ low 10 (amt n) L else low 10 (amt n) L) ++ [sg]; rw [if_neg hp, hs])
        rw [hlen] at g
        exact g
    · have hs : sg = 15 := if_neg hn
      simp only [hn, decide_false, cond_false, e5, cond_true]
      rw [hs] at fin
      by_cases hp : L % 2 = 0
      · simp only [hp, decide_true, cond_true]
        exact fin ([0] ++ low 10 (amt n) L) (by simp [hlen]; omega) (by show _ = (if L % 2 = 0 then [0] ++ low 10 (amt n) L else low 10 (amt n) L) ++ [sg]; rw [if_pos hp, hs])
      · simp only [hp, decide_false, cond_false]
        have g := fin (low 10 (amt n) L) (by simp [hlen]; omega) (by show _ = (if L % 2 = 0 then [0] ++ low 10 (amt n) L else low 10 (amt n) L) ++ [sg]; rw [if_neg hp, hs])
        rw [hlen] at g
        exact g
  have B : f41F 1000 ((1, (L : Int), sc), n, s) = some (strOfNums ((List.range m).map (pair16 l))) := by
    unfold f41F f79F f41p3
    have e0 : ((1 : Int) == 0) = false := rfl
    have e3 : ((1 : Int) == 3) = false := rfl
    have e2 : ((1 : Int) == 2) = false := rfl
    simp only [e0, e3, e2, cond_false, bind_some', hm, f78q ha0 (by omega) hL, f69q, hlen]
    rw [Int.tmod_eq_emod_of_nonneg (a := (L : Int)) (by omega)]
    have par : (((L : Int) % 2) == 0) = decide (L % 2 = 0) := by
      by_cases hp : L % 2 = 0
      · have : (L : Int) % 2 = 0 := by omega
        simp [hp, this]
      · have : (L : Int) % 2 ≠ 0 := by omega
        simp [hp, this]
    have e5 : (decide (([(0 : Int)].length + L) * 8 ≤ 140737488355328) && decide ([(0 : Int)].length + L ≤ 9223372036854775807)) = true := by simp; omega
    have hs : IntKind.i64.wrap (15 - IntKind.i64.wrap (2 * (if (decide (n < 0)) = true then 1 else 0))) = sg := by
      show _ = if n < 0 then (13 : Int) else 15
      by_cases hn : n < 0 <;> simp [hn] <;> rfl
    have fin : ∀ d : List Int, d.length ≤ 16 → d ++ [sg] = l → (bif (decide ((d.length + [sg].length) * 8 ≤ 140737488355328) && decide (d.length + [sg].length ≤ 9223372036854775807)) then
        (bif (((decide ((0 : Int) ≤ (IntKind.i64.wrap (Int.tdiv ((d ++ [sg]).length : Int) (2 : Int))))) && (decide (((IntKind.i64.wrap (Int.tdiv ((d ++ [sg]).length : Int) (2 : Int))) * 1) ≤ (140737488355328 : Int)))) && (decide ((IntKind.i64.wrap (Int.tdiv ((d ++ [sg]).length : Int) (2 : Int))) ≤ (281474976710656 : Int)))) then
        f41l4 1000 (fun (w20 : List Int × Unit) => some (strOfNums w20.1)) ((0 : Int), (d ++ [sg]), (List.replicate (Int.toNat (IntKind.i64.wrap (Int.tdiv ((d ++ [sg]).length : Int) (2 : Int)))) (0 : Int)), ())
        else none) else none) = some (strOfNums ((List.range m).map (pair16 l))) := by
      intro d hd he
      have e4 : (decide ((d.length + [sg].length) * 8 ≤ 140737488355328) && decide (d.length + [sg].length ≤ 9223372036854775807)) = true := by simp; omega
      rw [e4, cond_true, he, hl, Int.tdiv_eq_ediv_of_nonneg (by omega), show (((2 * m : Nat) : Int) / 2) = (m : Int) by omega, wi (by omega) (by omega)]
      have e6 : (((decide ((0 : Int) ≤ (m : Int))) && (decide (((m : Int) * 1) ≤ (140737488355328 : Int)))) && (decide ((m : Int) ≤ (281474976710656 : Int)))) = true := by simp; omega
      rw [e6, cond_true, Int.toNat_natCast, f41l4q _ l m hl hm450 hl15]
    rw [par]
    by_cases hp : L % 2 = 0
    · simp only [hp, decide_true, cond_true, e5, hs]
      exact fin ([0] ++ low 10 (amt n) L) (by simp [hlen]; omega) (by show _ = (if L % 2 = 0 then [0] ++ low 10 (amt n) L else low 10 (amt n) L) ++ [sg]; rw [if_pos hp])
    · simp only [hp, decide_false, cond_false, hs]
      have g := fin (low 10 (amt n) L) (by simp [hlen]; omega) (by show _ = (if L % 2 = 0 then [0] ++ low 10 (amt n) L else low 10 (amt n) L) ++ [sg]; rw [if_neg hp])
      rw [hlen] at g
      exact g
  exact ⟨_, A, B⟩
end Go.Proofs.Ytioagofpofamiaa
