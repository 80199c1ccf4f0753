/- Joined texts. -/
import Derived.Test.YthcmomgkfjjajaaGreatDoorPA
set_option linter.unusedVariables false
set_option linter.unusedSimpArgs false
namespace Go.Proofs.YthcmomgkfjjajaaGreatDoor
open Go.Ab

theorem chrT_size (s : ByteArray) : (chrT s).size ≤ s.size := by
  unfold chrT
  rw [strOfNums_size, List.length_map, ints_length, List.length_take]
  have := trimN_le s.data.toList s.data.toList.length
  rw [ba_len] at *
  omega
theorem txtS_size {n s : Int} (h : numErr n s = 0) : (txtS n s.toNat).size ≤ 60 := by
  have c := numErr_ok h
  have hd := decS_size (u := n.natAbs) (by omega)
  have p1 := pad_size (decS n.natAbs) s.toNat
  have p2 := pt_size (padS (decS n.natAbs) s.toNat) s.toNat (by omega)
  have h1 : (⟨#[45]⟩ : ByteArray).size = 1 := rfl
  unfold txtS
  split
  · rw [app_size, h1]; omega
  · omega
theorem fTx_size {l : List Typ} {data : ByteArray} {i : Nat} (hw : ∀ t ∈ l, wrT t = false) (hi : i < l.length) : (fTx l data i).size ≤ 300 := by
  have hx : l[i]? = some (l[i]'hi) := List.getElem?_eq_getElem hi
  have hg : l.getD i (0, (0, 0)) = l[i]'hi := getD_of hx
  obtain ⟨ht, h4⟩ := wrT_ok (hw _ (List.mem_of_getElem? hx))
  obtain ⟨o1, o2⟩ := off_rng l i
  obtain ⟨w1, w2⟩ := wd_rng (l[i]'hi)
  unfold fTx
  rw [hg]
  split
  · decide
  · rename_i hc
    have hsz : (data.extract (off l i).toNat (off l i + wd (l[i]'hi)).toNat).size ≤ 256 := by
      rw [ext_size _ _ _ (by omega)]; omega
    generalize data.extract (off l i).toNat (off l i + wd (l[i]'hi)).toNat = s at hsz
    unfold fT
    split
    · have := chrT_size s; omega
    · split
      · decide
      · rename_i h0 he
        obtain ⟨a1, a2, a3, a4, a5, a6, a7, a8, a9⟩ := ty_ok ht
        have := txtS_size (dec_num (s := s) ht (by omega) (by simpa using he))
        omega

def subL (fl : List ByteArray) : List UInt8 → List UInt8
  | [] => []
  | [c] => [c]
  | c :: d :: r => if c = 38 ∧ 49 ≤ d.toNat ∧ d.toNat - 48 ≤ fl.length then (fl.getD (d.toNat - 49) ByteArray.empty).data.toList ++ subL fl r else c :: subL fl (d :: r)
theorem sub_cases (fl : List ByteArray) (l : List UInt8) (i : Nat) (hi : i < l.length) :
    (∃ d, l[i]? = some 38 ∧ l[i + 1]? = some d ∧ 49 ≤ d.toNat ∧ d.toNat - 48 ≤ fl.length ∧ subL fl (l.drop i) = (fl.getD (d.toNat - 49) ByteArray.empty).data.toList ++ subL fl (l.drop (i + 1 + 1))) ∨
    ∃ x, l[i]? = some x ∧ (∀ d, x = 38 → l[i + 1]? = some d → ¬ (49 ≤ d.toNat ∧ d.toNat - 48 ≤ fl.length)) ∧ subL fl (l.drop i) = x :: subL fl (l.drop (i + 1)) := by
  have e : l.drop i = l[i]'hi :: l.drop (i + 1) := List.drop_eq_getElem_cons hi
  have hx : l[i]? = some (l[i]'hi) := List.getElem?_eq_getElem hi
  by_cases h1 : i + 1 < l.length
  · have e1 : l.drop (i + 1) = l[i + 1]'h1 :: l.drop (i + 1 + 1) := List.drop_eq_getElem_cons h1
    have hd : l[i + 1]? = some (l[i + 1]'h1) := List.getElem?_eq_getElem h1
    by_cases c : l[i]'hi = 38 ∧ 49 ≤ (l[i + 1]'h1).toNat ∧ (l[i + 1]'h1).toNat - 48 ≤ fl.length
    · refine .inl ⟨_, by rw [hx, c.1], hd, c.2.1, c.2.2, ?_⟩
      rw [e, e1, subL, if_pos c]
    · refine .inr ⟨_, hx, ?_, ?_⟩
      · intro d h2 h3 h4
        rw [hd] at h3
        cases h3
        exact c ⟨h2, h4⟩
      · rw [e, e1, subL, if_neg c]
  · refine .inr ⟨_, hx, ?_, ?_⟩
    · intro d _ h3
      rw [List.getElem?_eq_none (by omega)] at h3
      cases h3
    · rw [e, List.drop_eq_nil_of_le (by omega)]
      simp [subL]
theorem f808p0n {R : Type} (k0 : ByteArray × List ByteArray × Int × List Int × Unit → Option R) (k1 : ByteArray × List ByteArray × Int × Unit → Option R) {l : List UInt8} {fl : List ByteArray} {i : Nat} {x : UInt8} (hx : l[i]? = some x) (hb : l.length < 10000)
    (hno : ∀ d, x = 38 → l[i + 1]? = some d → ¬ (49 ≤ d.toNat ∧ d.toNat - 48 ≤ fl.length)) : f808p0 1000 k0 k1 (S l, fl, (i : Int), ()) = k1 (S l, fl, (i : Int), ()) := by
  have hi : i < l.length := (List.getElem?_eq_some_iff.1 hx).1
  have hg : l.getD i 0 = x := getD_of hx
  unfold f808p0
  simp only [S_size, nn, ltn hi, Bool.and_self, cond_true, S_bt l i hi, hg, wi_succ (i := i) (by omega)]
  by_cases c : x = 38
  · subst c
    by_cases h1 : i + 1 < l.length
    · have hd : l[i + 1]? = some (l[i + 1]'h1) := List.getElem?_eq_getElem h1
      have hgd : l.getD (i + 1) 0 = l[i + 1]'h1 := getD_of hd
      have := hno _ rfl hd
      have hr := byte_rng (l[i + 1]'h1)
      simp only [nn, ltn h1, Bool.and_self, cond_true, S_bt l (i + 1) h1, hgd]
      by_cases h49 : 49 ≤ (l[i + 1]'h1).toNat
      · rw [bif_true (by rfl), bif_true (by simp; omega), wu8 (x := ((l[i + 1]'h1).toNat : Int) - 48) (by omega) (by omega), wi (by omega) (by omega), bif_false (by simp; omega)]
      · rw [bif_true (by rfl), bif_false (by simp; omega)]
    · rw [bif_true (by rfl), bif_false (by simp; omega)]
  · rw [bif_false]
    rw [beq_eq_false_iff_ne]
    intro h
    apply c
    apply UInt8.toNat_inj.1
    have : x.toNat = 38 := by omega
    rw [this]; rfl
theorem f808p2n {R : Type} (k0 k1 : ByteArray × List ByteArray × Int × List Int × Unit → Option R) {l : List UInt8} {fl : List ByteArray} {i : Nat} {x : UInt8} (A : List Int) (hx : l[i]? = some x) (hb : l.length < 10000)
    (hno : ∀ d, x = 38 → l[i + 1]? = some d → ¬ (49 ≤ d.toNat ∧ d.toNat - 48 ≤ fl.length)) : f808p2 1000 k0 k1 (S l, fl, (i : Int), A, ()) = k1 (S l, fl, (i : Int), A, ()) := by
  have hi : i < l.length := (List.getElem?_eq_some_iff.1 hx).1
  have hg : l.getD i 0 = x := getD_of hx
  unfold f808p2
  simp only [S_size, nn, ltn hi, Bool.and_self, cond_true, S_bt l i hi, hg, wi_succ (i := i) (by omega)]
  by_cases c : x = 38
  · subst c
    by_cases h1 : i + 1 < l.length
    · have hd : l[i + 1]? = some (l[i + 1]'h1) := List.getElem?_eq_getElem h1
      have hgd : l.getD (i + 1) 0 = l[i + 1]'h1 := getD_of hd
      have := hno _ rfl hd
      have hr := byte_rng (l[i + 1]'h1)
      simp only [nn, ltn h1, Bool.and_self, cond_true, S_bt l (i + 1) h1, hgd]
      by_cases h49 : 49 ≤ (l[i + 1]'h1).toNat
      · rw [bif_true (by rfl), bif_true (by simp; omega), wu8 (x := ((l[i + 1]'h1).toNat : Int) - 48) (by omega) (by omega), wi (by omega) (by omega), bif_false (by simp; omega)]
      · rw [bif_true (by rfl), bif_false (by simp; omega)]
    · rw [bif_true (by rfl), bif_false (by simp; omega)]
  · rw [bif_false]
    rw [beq_eq_false_iff_ne]
    intro h
    apply c
    apply UInt8.toNat_inj.1
    have : x.toNat = 38 := by omega
    rw [this]; rfl
theorem f808p0m {R : Type} (k0 : ByteArray × List ByteArray × Int × List Int × Unit → Option R) (k1 : ByteArray × List ByteArray × Int × Unit → Option R) {l : List UInt8} {fl : List ByteArray} {i : Nat} {d : UInt8} (hx : l[i]? = some 38) (hd : l[i + 1]? = some d) (hb : l.length < 10000)
    (h49 : 49 ≤ d.toNat) (hn : d.toNat - 48 ≤ fl.length) (hs : ∀ s ∈ fl, s.size ≤ 300) : f808p0 1000 k0 k1 (S l, fl, (i : Int), ()) = k0 (S l, fl, ((i + 1 : Nat) : Int), [] ++ bytesOf (fl.getD (d.toNat - 49) ByteArray.empty), ()) := by
  have hi : i < l.length := (List.getElem?_eq_some_iff.1 hx).1
  have h1 : i + 1 < l.length := (List.getElem?_eq_some_iff.1 hd).1
  have hg : l.getD i 0 = 38 := getD_of hx
  have hgd : l.getD (i + 1) 0 = d := getD_of hd
  have hr := byte_rng d
  have hj : d.toNat - 49 < fl.length := by omega
  have hm : (fl.getD (d.toNat - 49) ByteArray.empty).size ≤ 300 := by
    have e := List.getElem?_eq_getElem hj
    rw [getD_of e]
    exact hs _ (List.mem_of_getElem? e)
  have hl : (bytesOf (fl.getD (d.toNat - 49) ByteArray.empty)).length = (fl.getD (d.toNat - 49) ByteArray.empty).size := by unfold bytesOf; rw [List.length_map]; rfl
  have e49 : IntKind.u8.wrap ((d.toNat : Int) - 49) = ((d.toNat - 49 : Nat) : Int) := by rw [wu8 (by omega) (by omega)]; omega
  have e48 : IntKind.i64.wrap (IntKind.u8.wrap ((d.toNat : Int) - 48)) = ((d.toNat - 48 : Nat) : Int) := by rw [wu8 (by omega) (by omega), wi (by omega) (by omega)]; omega
  unfold f808p0
  simp only [S_size, nn, ltn hi, ltn h1, ltn hj, Bool.and_self, cond_true, S_bt l i hi, hg, wi_succ (i := i) (by omega), S_bt l (i + 1) h1, hgd, e49, e48, Int.toNat_natCast]
  rw [bif_true (by rfl), bif_true (by simp; omega), bif_true (by simp; omega)]
  unfold f825v0F
  simp only [hl]
  rw [bif_true (szN (by simp only [List.length_nil]; omega) (by decide)), bind_some']
theorem f808p2m {R : Type} (k0 k1 : ByteArray × List ByteArray × Int × List Int × Unit → Option R) {l : List UInt8} {fl : List ByteArray} {i : Nat} {d : UInt8} {A : List Int} (hA : A.length ≤ 1000000) (hx : l[i]? = some 38) (hd : l[i + 1]? = some d) (hb : l.length < 10000)
    (h49 : 49 ≤ d.toNat) (hn : d.toNat - 48 ≤ fl.length) (hs : ∀ s ∈ fl, s.size ≤ 300) : f808p2 1000 k0 k1 (S l, fl, (i : Int), A, ()) = k0 (S l, fl, ((i + 1 : Nat) : Int), A ++ bytesOf (fl.getD (d.toNat - 49) ByteArray.empty), ()) := by
  have hi : i < l.length := (List.getElem?_eq_some_iff.1 hx).1
  have h1 : i + 1 < l.length := (List.getElem?_eq_some_iff.1 hd).1
  have hg : l.getD i 0 = 38 := getD_of hx
  have hgd : l.getD (i + 1) 0 = d := getD_of hd
  have hr := byte_rng d
  have hj : d.toNat - 49 < fl.length := by omega
  have hm : (fl.getD (d.toNat - 49) ByteArray.empty).size ≤ 300 := by
    have e := List.getElem?_eq_getElem hj
    rw [getD_of e]
    exact hs _ (List.mem_of_getElem? e)
  have hl : (bytesOf (fl.getD (d.toNat - 49) ByteArray.empty)).length = (fl.getD (d.toNat - 49) ByteArray.empty).size := by unfold bytesOf; rw [List.length_map]; rfl
  have e49 : IntKind.u8.wrap ((d.toNat : Int) - 49) = ((d.toNat - 49 : Nat) : Int) := by rw [wu8 (by omega) (by omega)]; omega
  have e48 : IntKind.i64.wrap (IntKind.u8.wrap ((d.toNat : Int) - 48)) = ((d.toNat - 48 : Nat) : Int) := by rw [wu8 (by omega) (by omega), wi (by omega) (by omega)]; omega
  unfold f808p2
  simp only [S_size, nn, ltn hi, ltn h1, ltn hj, Bool.and_self, cond_true, S_bt l i hi, hg, wi_succ (i := i) (by omega), S_bt l (i + 1) h1, hgd, e49, e48, Int.toNat_natCast]
  rw [bif_true (by rfl), bif_true (by simp; omega), bif_true (by simp; omega)]
  unfold f825v1F
  simp only [hl]
  rw [bif_true (szN (by omega) (by decide)), bind_some']

theorem bytes_ints (s : ByteArray) : bytesOf s = ints s.data.toList := rfl
theorem f808l4m {R : Type} (rec : ByteArray × List ByteArray × Int × List Int × Unit → Option R) (k0 : List Int × Unit → Option R) {l : List UInt8} {fl : List ByteArray} {i : Nat} {d : UInt8} {A : List UInt8} (hA : A.length ≤ 1000000) (hx : l[i]? = some 38) (hd : l[i + 1]? = some d) (hb : l.length < 10000)
    (h49 : 49 ≤ d.toNat) (hn : d.toNat - 48 ≤ fl.length) (hs : ∀ s ∈ fl, s.size ≤ 300) : f808l4s 1000 rec k0 (S l, fl, (i : Int), ints A, ()) = rec (S l, fl, ((i + 1 + 1 : Nat) : Int), ints (A ++ (fl.getD (d.toNat - 49) ByteArray.empty).data.toList), ()) := by
  have hi : i < l.length := (List.getElem?_eq_some_iff.1 hx).1
  have h1 : i + 1 < l.length := (List.getElem?_eq_some_iff.1 hd).1
  unfold f808l4s f808p3
  simp only [S_size, ltn hi, cond_true]
  rw [f808p2m _ _ (by rw [ints_length]; omega) hx hd hb h49 hn hs]
  simp only [wi_succ (i := i + 1) (by omega), bytes_ints, ← ints_app]
theorem f808l4n {R : Type} (rec : ByteArray × List ByteArray × Int × List Int × Unit → Option R) (k0 : List Int × Unit → Option R) {l : List UInt8} {fl : List ByteArray} {i : Nat} {x : UInt8} {A : List UInt8} (hA : A.length ≤ 1000000) (hx : l[i]? = some x) (hb : l.length < 10000)
    (hno : ∀ d, x = 38 → l[i + 1]? = some d → ¬ (49 ≤ d.toNat ∧ d.toNat - 48 ≤ fl.length)) : f808l4s 1000 rec k0 (S l, fl, (i : Int), ints A, ()) = rec (S l, fl, ((i + 1 : Nat) : Int), ints (A ++ [x]), ()) := by
  have hi : i < l.length := (List.getElem?_eq_some_iff.1 hx).1
  have hg : l.getD i 0 = x := getD_of hx
  unfold f808l4s f808p3
  simp only [S_size, ltn hi, cond_true]
  rw [f808p2n _ _ _ hx hb hno]
  simp only [S_size, nn, ltn hi, Bool.and_self, cond_true, S_bt l i hi, hg]
  unfold f826v1F
  simp only []
  rw [bif_true (by rw [ints_length]; simp; omega), bind_some']
  have hc : ints A ++ [(x.toNat : Int)] = ints (A ++ [x]) := by rw [ints_app]; rfl
  simp only [wi_succ (i := i) (show i < 9223372036854775807 by omega), hc]
theorem f808l4q {R : Type} (k0 : List Int × Unit → Option R) {l : List UInt8} {fl : List ByteArray} (hb : l.length < 1000) (hs : ∀ s ∈ fl, s.size ≤ 300) : ∀ (n i K : Nat) (A : List UInt8), l.length - i ≤ n → l.length - i < K → A.length ≤ 300 * i → i ≤ l.length →
    iterS (fun rec v => f808l4s 1000 rec k0 v) K (S l, fl, (i : Int), ints A, ()) = k0 (ints (A ++ subL fl (l.drop i)), ()) := by
  have fin : ∀ (K : Nat) (A : List UInt8), 0 < K → iterS (fun rec v => f808l4s 1000 rec k0 v) K (S l, fl, (l.length : Int), ints A, ()) = k0 (ints (A ++ subL fl (l.drop l.length)), ()) := by
    intro K A hK
    obtain ⟨K, rfl⟩ : ∃ q, K = q + 1 := ⟨K - 1, by omega⟩
    rw [iter_one]
    unfold f808l4s
    simp [S_size, subL]
  intro n
  induction n with
  | zero =>
    intro i K A hn hK hA hi
    obtain rfl : i = l.length := by omega
    exact fin K A (by omega)
  | succ n ih =>
    intro i K A hn hK hA hi
    by_cases he : i = l.length
    · subst he; exact fin K A (by omega)
    have hi : i < l.length := by omega
    obtain ⟨K, rfl⟩ : ∃ q, K = q + 1 := ⟨K - 1, by omega⟩
    rw [iter_one]
    rcases sub_cases fl l i hi with ⟨d, hx, hd, h49, hn2, e⟩ | ⟨x, hx, hno, e⟩
    · have h1 : i + 1 < l.length := (List.getElem?_eq_some_iff.1 hd).1
      have hj : d.toNat - 49 < fl.length := by omega
      have hm : (fl.getD (d.toNat - 49) ByteArray.empty).data.toList.length ≤ 300 := by
        have e := List.getElem?_eq_getElem hj
        rw [getD_of e]
        exact hs _ (List.mem_of_getElem? e)
      rw [f808l4m _ _ (by omega) hx hd (by omega) h49 hn2 hs, e, ih (i + 1 + 1) K _ (by omega) (by omega) (by rw [List.length_append]; omega) (by omega), List.append_assoc]
    · rw [f808l4n _ _ (by omega) hx (by omega) hno, e, ih (i + 1) K _ (by omega) (by omega) (by simp; omega) (by omega), List.append_assoc]
      rfl
theorem ints_ok (l : List UInt8) : (List.all (ints l) fun x => decide (0 ≤ x) && decide (x ≤ 255)) = true := by
  rw [List.all_eq_true]
  intro x hx
  unfold ints at hx
  obtain ⟨b, _, rfl⟩ := List.mem_map.1 hx
  have := byte_rng b
  simp; omega
theorem f808q {s : ByteArray} {fl : List ByteArray} (hb : s.size < 1000) (hs : ∀ s ∈ fl, s.size ≤ 300) : f808F 1000 (s, fl) = some (S (subL fl s.data.toList)) := by
  obtain ⟨l, rfl⟩ : ∃ l, s = S l := ⟨_, (S_of s).symm⟩
  rw [S_size] at hb
  rw [S_list]
  unfold f808F f808p6 f808l5
  simp only []
  rw [iterS_1000]
  unfold f808l5s f808p1
  cases hl : l with
  | nil => rfl
  | cons x0 r =>
    have hi : 0 < l.length := by rw [hl]; simp
    rw [← hl]
    have h0 : decide ((0 : Int) < (l.length : Int)) = true := by simp; omega
    have i0 : ((0 : Int)) = ((0 : Nat) : Int) := rfl
    simp only [S_size, h0, cond_true]
    have fin : ∀ (B : List UInt8), (bif (List.all (ints B) fun x => decide (0 ≤ x) && decide (x ≤ 255)) then some (strOfNums (ints B)) else none) = some (S B) := fun B => by
      rw [ints_ok, cond_true, S_back]
    rw [i0]
    rcases sub_cases fl l 0 hi with ⟨d, hx, hd, h49, hn2, e⟩ | ⟨x, hx, hno, e⟩
    · have h1 : 0 + 1 < l.length := (List.getElem?_eq_some_iff.1 hd).1
      have hj : d.toNat - 49 < fl.length := by omega
      have hm : (fl.getD (d.toNat - 49) ByteArray.empty).data.toList.length ≤ 300 := by
        have e := List.getElem?_eq_getElem hj
        rw [getD_of e]
        exact hs _ (List.mem_of_getElem? e)
      rw [f808p0m _ _ hx hd (by omega) h49 hn2 hs]
      simp only [wi_succ (i := 0 + 1) (by omega), bytes_ints, List.nil_append]
      unfold f808l4
      rw [f808l4q _ hb hs l.length (0 + 1 + 1) 1000 _ (by omega) (by omega) (by omega) (by omega)]
      refine (fin _).trans ?_
      rw [← e]
      rfl
    · have hg : l.getD 0 0 = x := getD_of hx
      rw [f808p0n _ _ hx (by omega) hno]
      simp only [S_size, nn, ltn hi, Bool.and_self, cond_true, S_bt l 0 hi, hg]
      unfold f826v0F
      simp only []
      rw [bif_true (szN (by simp) (by decide)), bind_some']
      have hc : [] ++ [(x.toNat : Int)] = ints [x] := rfl
      simp only [wi_succ (i := 0) (by omega), hc]
      unfold f808l4
      rw [f808l4q _ hb hs l.length (0 + 1) 1000 _ (by omega) (by omega) (by simp) (by omega)]
      refine (fin _).trans ?_
      rw [show [x] ++ subL fl (l.drop (0 + 1)) = subL fl (l.drop 0) from e.symm]
      rfl
end Go.Proofs.YthcmomgkfjjajaaGreatDoor
set_option linter.unusedVariables false
set_option linter.unusedSimpArgs false
namespace Go.Proofs.YthcmomgkfjjajaaGreatDoor
open Go.Ab

abbrev Sub := ByteArray × ByteArray × ByteArray × Int × ByteArray × Int × ByteArray × ByteArray × List Typ × ByteArray × List ByteArray × Unit
noncomputable def fls (l : List Typ) (data : ByteArray) : List ByteArray := (List.range l.length).map (fTx l data)
theorem fls_len (l : List Typ) (data : ByteArray) : (fls l data).length = l.length := by simp [fls]
theorem fls_get {l : List Typ} {data : ByteArray} {i : Nat} (h : i < l.length) : (fls l data).getD i ByteArray.empty = fTx l data i := by
  unfold fls
  rw [List.getD_eq_getElem?_getD, List.getElem?_map, List.getElem?_range h]; rfl
theorem fls_size {l : List Typ} {data : ByteArray} (hw : ∀ t ∈ l, wrT t = false) : ∀ s ∈ fls l data, s.size ≤ 300 := by
  intro s hs
  obtain ⟨i, hi, rfl⟩ := List.mem_map.1 hs
  exact fTx_size hw (List.mem_range.1 hi)
theorem f781p0n {R : Type} (k0 k1 : Sub → Option R) {l : List UInt8} {ty : List Typ} {i : Nat} {x : UInt8} (data A id : ByteArray) (sv : Int) (a b df : ByteArray) (rp : List ByteArray) (hx : l[i]? = some x) (hb : l.length < 10000)
    (hno : ∀ d, x = 38 → l[i + 1]? = some d → ¬ (49 ≤ d.toNat ∧ d.toNat - 48 ≤ ty.length)) : f781p0 1000 k0 k1 (S l, data, A, (i : Int), id, sv, a, b, ty, df, rp, ()) = k1 (S l, data, A, (i : Int), id, sv, a, b, ty, df, rp, ()) := by
  have hi : i < l.length := (List.getElem?_eq_some_iff.1 hx).1
  have hg : l.getD i 0 = x := getD_of hx
  unfold f781p0
  simp only [S_size, nn, ltn hi, Bool.and_self, cond_true, S_bt l i hi, hg, wi_succ (i := i) (by omega)]
  by_cases c : x = 38
  · subst c
    by_cases h1 : i + 1 < l.length
    · have hd : l[i + 1]? = some (l[i + 1]'h1) := List.getElem?_eq_getElem h1
      have hgd : l.getD (i + 1) 0 = l[i + 1]'h1 := getD_of hd
      have := hno _ rfl hd
      have hr := byte_rng (l[i + 1]'h1)
      have e48 : IntKind.i64.wrap (IntKind.i64.wrap ((l[i + 1]'h1).toNat : Int) - 48) = ((l[i + 1]'h1).toNat : Int) - 48 := by rw [wi (x := ((l[i + 1]'h1).toNat : Int)) (by omega) (by omega), wi (by omega) (by omega)]
      simp only [nn, ltn h1, Bool.and_self, cond_true, S_bt l (i + 1) h1, hgd, e48, f48w, bind_some']
      rw [bif_true (by rfl), bif_false (by rw [Bool.and_eq_false_iff, decide_eq_false_iff_not, decide_eq_false_iff_not]; omega)]
    · rw [bif_true (by rfl), bif_false (by simp; omega)]
  · rw [bif_false]
    rw [beq_eq_false_iff_ne]
    intro h
    apply c
    apply UInt8.toNat_inj.1
    have : x.toNat = 38 := by omega
    rw [this]; rfl
theorem f781p0m {R : Type} (k0 k1 : Sub → Option R) {l : List UInt8} {ty : List Typ} {i : Nat} {d : UInt8} {data A : ByteArray} (id : ByteArray) (sv : Int) (a b df : ByteArray) (rp : List ByteArray) (hA : A.size ≤ 1000000) (hx : l[i]? = some 38) (hd : l[i + 1]? = some d) (hb : l.length < 10000)
    (h49 : 49 ≤ d.toNat) (hn : d.toNat - 48 ≤ ty.length) (hty : ty.length ≤ 12) (hw : ∀ t ∈ ty, wrT t = false) (hdt : data.size ≤ 600) :
    f781p0 1000 k0 k1 (S l, data, A, (i : Int), id, sv, a, b, ty, df, rp, ()) = k0 (S l, data, A ++ fTx ty data (d.toNat - 49), ((i + 1 : Nat) : Int), id, sv, a, b, ty, df, rp, ()) := by
  have hi : i < l.length := (List.getElem?_eq_some_iff.1 hx).1
  have h1 : i + 1 < l.length := (List.getElem?_eq_some_iff.1 hd).1
  have hg : l.getD i 0 = 38 := getD_of hx
  have hgd : l.getD (i + 1) 0 = d := getD_of hd
  have hr := byte_rng d
  have hj : d.toNat - 49 < ty.length := by omega
  have hm := fTx_size (data := data) hw hj
  have e48 : IntKind.i64.wrap (IntKind.i64.wrap (d.toNat : Int) - 48) = ((d.toNat - 48 : Nat) : Int) := by rw [wi (x := (d.toNat : Int)) (by omega) (by omega), wi (by omega) (by omega)]; omega
  have e49 : IntKind.i64.wrap (IntKind.i64.wrap (d.toNat : Int) - 49) = ((d.toNat - 49 : Nat) : Int) := by rw [wi (x := (d.toNat : Int)) (by omega) (by omega), wi (by omega) (by omega)]; omega
  unfold f781p0
  simp only [S_size, nn, ltn hi, ltn h1, Bool.and_self, cond_true, S_bt l i hi, hg, wi_succ (i := i) (by omega), S_bt l (i + 1) h1, hgd, e49, e48, f48w, bind_some', f809q hty hw hdt hj]
  rw [bif_true (by rfl), bif_true (by rw [Bool.and_eq_true, decide_eq_true_eq, decide_eq_true_eq]; omega), bif_true (by rw [decide_eq_true_eq]; omega)]
theorem cut_one {l : List UInt8} {i : Nat} {x : UInt8} (hx : l[i]? = some x) : (S l).extract i (i + 1) = S [x] := by
  have hi : i < l.length := (List.getElem?_eq_some_iff.1 hx).1
  have hg : l[i] = x := (List.getElem?_eq_some_iff.1 hx).2
  rw [S_cut, List.take_succ_eq_append_getElem hi, List.drop_append_of_le_length (by rw [List.length_take]; omega), List.drop_of_length_le (by rw [List.length_take]; omega), hg]; rfl
theorem f781l2q {R : Type} (k0 : ByteArray × Unit → Option R) {l : List UInt8} {ty : List Typ} {data : ByteArray} (id : ByteArray) (sv : Int) (a b df : ByteArray) (rp : List ByteArray) (hb : l.length < 1000) (hty : ty.length ≤ 12) (hw : ∀ t ∈ ty, wrT t = false) (hdt : data.size ≤ 600) : ∀ (n i K : Nat) (A : List UInt8), l.length - i ≤ n → l.length - i < K → A.length ≤ 300 * i → i ≤ l.length →
    iterS (fun rec v => f781l2s 1000 rec k0 v) K (S l, data, S A, (i : Int), id, sv, a, b, ty, df, rp, ()) = k0 (S (A ++ subL (fls ty data) (l.drop i)), ()) := by
  have stm : ∀ (rec : Sub → Option R) (i : Nat) (A : List UInt8) (d : UInt8), A.length ≤ 1000000 → l[i]? = some 38 → l[i + 1]? = some d → 49 ≤ d.toNat → d.toNat - 48 ≤ ty.length →
      f781l2s 1000 rec k0 (S l, data, S A, (i : Int), id, sv, a, b, ty, df, rp, ()) = rec (S l, data, S (A ++ ((fls ty data).getD (d.toNat - 49) ByteArray.empty).data.toList), ((i + 1 + 1 : Nat) : Int), id, sv, a, b, ty, df, rp, ()) := by
    intro rec i A d hA hx hd h49 hn
    have hi : i < l.length := (List.getElem?_eq_some_iff.1 hx).1
    have h1 : i + 1 < l.length := (List.getElem?_eq_some_iff.1 hd).1
    unfold f781l2s f781p1
    simp only [S_size, ltn hi, cond_true]
    rw [f781p0m _ _ _ _ _ _ _ _ (by rw [S_size]; omega) hx hd (by omega) h49 hn hty hw hdt]
    simp only [wi_succ (i := i + 1) (by omega)]
    rw [fls_get (by omega), ← S_app, S_of]
  have stn : ∀ (rec : Sub → Option R) (i : Nat) (A : List UInt8) (x : UInt8), A.length ≤ 1000000 → l[i]? = some x → (∀ d, x = 38 → l[i + 1]? = some d → ¬ (49 ≤ d.toNat ∧ d.toNat - 48 ≤ ty.length)) →
      f781l2s 1000 rec k0 (S l, data, S A, (i : Int), id, sv, a, b, ty, df, rp, ()) = rec (S l, data, S (A ++ [x]), ((i + 1 : Nat) : Int), id, sv, a, b, ty, df, rp, ()) := by
    intro rec i A x hA hx hno
    have hi : i < l.length := (List.getElem?_eq_some_iff.1 hx).1
    unfold f781l2s f781p1
    simp only [S_size, ltn hi, cond_true]
    rw [f781p0n _ _ _ _ _ _ _ _ _ _ hx (by omega) hno]
    have hs : sliceBds (i : Int) ((i + 1 : Nat) : Int) (l.length : Int) = true := sliceB (by omega) (by omega)
    simp only [S_size, wi_succ (i := i) (show i < 9223372036854775807 by omega), hs, cond_true, Int.toNat_natCast, cut_one hx]
    rw [bif_true (by rw [decide_eq_true_eq]; simp; omega), S_app]
  have fin : ∀ (K : Nat) (A : List UInt8), 0 < K → iterS (fun rec v => f781l2s 1000 rec k0 v) K (S l, data, S A, (l.length : Int), id, sv, a, b, ty, df, rp, ()) = k0 (S (A ++ subL (fls ty data) (l.drop l.length)), ()) := by
    intro K A hK
    obtain ⟨K, rfl⟩ : ∃ q, K = q + 1 := ⟨K - 1, by omega⟩
    rw [iter_one]
    unfold f781l2s
    simp [S_size, subL]
  intro n
  induction n with
  | zero =>
    intro i K A hn hK hA hi
    obtain rfl : i = l.length := by omega
    exact fin K A (by omega)
  | succ n ih =>
    intro i K A hn hK hA hi
    by_cases he : i = l.length
    · subst he; exact fin K A (by omega)
    have hi : i < l.length := by omega
    obtain ⟨K, rfl⟩ : ∃ q, K = q + 1 := ⟨K - 1, by omega⟩
    rw [iter_one]
    rcases sub_cases (fls ty data) l i hi with ⟨d, hx, hd, h49, hn2, e⟩ | ⟨x, hx, hno, e⟩
    · have h1 : i + 1 < l.length := (List.getElem?_eq_some_iff.1 hd).1
      have hj : d.toNat - 49 < (fls ty data).length := by omega
      have hm : ((fls ty data).getD (d.toNat - 49) ByteArray.empty).data.toList.length ≤ 300 := by
        have e := List.getElem?_eq_getElem hj
        rw [getD_of e]
        exact fls_size hw _ (List.mem_of_getElem? e)
      rw [stm _ _ _ _ (by omega) hx hd h49 (by rw [fls_len] at hn2; exact hn2), e, ih (i + 1 + 1) K _ (by omega) (by omega) (by rw [List.length_append]; omega) (by omega), List.append_assoc]
    · rw [stn _ _ _ _ (by omega) hx (by rw [fls_len] at hno; exact hno), e, ih (i + 1) K _ (by omega) (by omega) (by simp; omega) (by omega), List.append_assoc]
      rfl
noncomputable def subT (d : Dsc) (data s : ByteArray) : ByteArray := S (subL (fls d.2.2.2.2.1 data) s.data.toList)
theorem f781q {d : Dsc} {data s : ByteArray} (hs : s.size < 1000) (hty : d.2.2.2.2.1.length ≤ 12) (hw : ∀ t ∈ d.2.2.2.2.1, wrT t = false) (hdt : data.size ≤ 600) : f781F 1000 ((d.1, (d.2.1, (d.2.2.1, (d.2.2.2.1, (d.2.2.2.2.1, (d.2.2.2.2.2.1, d.2.2.2.2.2.2)))))), s, data) = some (subT d data s) := by
  obtain ⟨l, rfl⟩ : ∃ l, s = S l := ⟨_, (S_of s).symm⟩
  rw [S_size] at hs
  unfold f781F f781l2 subT
  simp only []
  rw [← S_nil, show ((0 : Int)) = ((0 : Nat) : Int) from rfl, f781l2q _ _ _ _ _ _ _ hs hty hw hdt l.length 0 1000 [] (by omega) (by omega) (by simp) (by omega), S_list]
  rfl

theorem runD_right : ∀ (l : List Dsc) (p : Option ByteArray) (i : Nat), (runD p i l).2 = 0 → ∀ d ∈ l, dscE d = 0 ∧ isId d.1 = true
  | [], _, _, _, _, h => by cases h
  | x :: l, p, i, h, d, hd => by
    unfold runD at h
    by_cases hz : dE p x ≠ 0
    · rw [if_pos hz] at h; exact absurd h hz
    · rw [if_neg hz] at h
      rcases List.mem_cons.1 hd with e | hd
      · subst e
        simp only [ne_eq, Decidable.not_not] at hz
        unfold dE at hz
        cases hI : isId d.1 with
        | false => rw [hI] at hz; simp at hz
        | true =>
          rw [hI] at hz
          refine ⟨?_, rfl⟩
          cases p with
          | none => simpa using hz
          | some q =>
            cases hq : strLt q d.1 with
            | false => simp [hq] at hz
            | true => simpa [hq] using hz
      · exact runD_right l _ _ h d hd
theorem file_right {l : List Dsc} (h : (filE l).2 = 0) : ∀ d ∈ l, dscE d = 0 ∧ isId d.1 = true := by
  unfold filE at h
  split at h
  · cases h
  · exact runD_right l _ _ h
theorem tys_right {l : List Typ} (h : tysE l = 0) : l.length ≤ 9 ∧ ∀ t ∈ l, wrT t = false := by
  unfold tysE at h
  split at h
  · cases h
  · split at h
    · cases h
    · rename_i h1 h2
      refine ⟨by omega, fun t ht => ?_⟩
      cases hw : wrT t with
      | false => rfl
      | true => exact absurd (List.any_eq_true.2 ⟨t, ht, hw⟩) h2
structure RightD (d : Dsc) : Prop where
  first : d.2.2.1.size ≤ 200
  second : d.2.2.2.1.size ≤ 200
  ne : d.2.2.1 ≠ ByteArray.empty
  t1 : isTx d.2.2.1 = true
  t2 : isTx d.2.2.2.1 = true
  types : d.2.2.2.2.1.length ≤ 9
  tys : ∀ t ∈ d.2.2.2.2.1, wrT t = false
  dflt : txE d.2.2.2.2.2.1 32 = 0
  reps : rpsE d.2.2.2.2.2.2 = 0
theorem dsc_right {d : Dsc} (h : dscE d = 0) : RightD d := by
  unfold dscE at h
  split at h
  · cases h
  split at h
  · cases h
  split at h
  · cases h
  split at h
  · cases h
  split at h
  · rename_i hc; exact absurd h hc
  split at h
  · rename_i hc; exact absurd h hc
  rename_i h1 h2 h3 h4 h5 h6
  obtain ⟨g1, g2⟩ := tys_right (show tysE d.2.2.2.2.1 = 0 by simpa using h5)
  have h4 : isTx d.2.2.1 = true ∧ isTx d.2.2.2.1 = true := by simpa using h4
  refine ⟨by omega, by omega, ?_, h4.1, h4.2, g1, g2, by simpa using h6, h⟩
  intro e
  rw [e] at h2
  exact h2 (strEq_self _)
theorem f778q {l : List Dsc} (h : FewF l) : f778F 1000 l = some (filE l).2 := by
  unfold f778F
  simp only [f746q h, bind_some']
theorem f780q {l : List Dsc} (h : FewF l) : f780F 1000 l = some (filE l).2 := by
  unfold f780F
  simp only [f748q h, bind_some']

noncomputable def txs (d : Dsc) (data : ByteArray) : ByteArray × ByteArray × Int :=
  if data.size > 512 then (ByteArray.empty, ByteArray.empty, 2)
  else if (subT d data d.2.2.1).size > 256 ∨ (subT d data d.2.2.2.1).size > 256 then (ByteArray.empty, ByteArray.empty, 2)
  else (subT d data d.2.2.1, subT d data d.2.2.2.1, 0)
theorem f779q {d : Dsc} {data : ByteArray} (h : RightD d) (hdt : data.size ≤ 600) : f779F 1000 ((d.1, (d.2.1, (d.2.2.1, (d.2.2.2.1, (d.2.2.2.2.1, (d.2.2.2.2.2.1, d.2.2.2.2.2.2)))))), data) = some (txs d data) := by
  obtain ⟨g1, g2, g3, g4, g5, g6, g7, g8, g9⟩ := h
  unfold f779F txs
  simp only []
  by_cases hc : data.size > 512
  · rw [if_pos hc, bif_true (by rw [decide_eq_true_eq]; omega)]
  · rw [if_neg hc, bif_false (by rw [decide_eq_false_iff_not]; omega), f807q (by omega) g7 hdt]
    have e1 : f808F 1000 (d.2.2.1, (List.range d.2.2.2.2.1.length).map (fTx d.2.2.2.2.1 data)) = some (subT d data d.2.2.1) := f808q (by omega) (fls_size g7)
    have e2 : f808F 1000 (d.2.2.2.1, (List.range d.2.2.2.2.1.length).map (fTx d.2.2.2.2.1 data)) = some (subT d data d.2.2.2.1) := f808q (by omega) (fls_size g7)
    simp only [bind_some', e1, e2]
    by_cases c1 : (subT d data d.2.2.1).size > 256
    · rw [if_pos (.inl c1), bif_true (by rw [decide_eq_true_eq]; omega)]
    · rw [bif_false (by rw [decide_eq_false_iff_not]; omega)]
      by_cases c2 : (subT d data d.2.2.2.1).size > 256
      · rw [if_pos (.inr c2), bif_true (by rw [decide_eq_true_eq]; omega)]
      · rw [if_neg (by omega), bif_false (by rw [decide_eq_false_iff_not]; omega)]
theorem few_one {d : Dsc} (h : FewD d) : FewF [d] := ⟨by simp, fun x hx => by rw [List.mem_singleton.1 hx]; exact h⟩
theorem f738q {d : Dsc} {data : ByteArray} (h : FewD d) (hdt : data.size ≤ 600) : f738F 1000 ((d.1, (d.2.1, (d.2.2.1, (d.2.2.2.1, (d.2.2.2.2.1, (d.2.2.2.2.2.1, d.2.2.2.2.2.2)))))), data) = some (if (filE [d]).2 ≠ 0 then (ByteArray.empty, ByteArray.empty, (filE [d]).2) else txs d data) := by
  unfold f738F
  simp only []
  rw [show f780F 1000 [(d.1, (d.2.1, (d.2.2.1, (d.2.2.2.1, (d.2.2.2.2.1, (d.2.2.2.2.2.1, d.2.2.2.2.2.2))))))] = some (filE [d]).2 from f780q (few_one h), bind_some']
  by_cases hz : (filE [d]).2 = 0
  · obtain ⟨g1, g2, g3, g4, g5, g6, g7, g8, g9⟩ := dsc_right (file_right hz d (by simp)).1
    rw [if_neg (by simpa using hz), bif_false (by simpa using hz)]
    unfold txs
    by_cases hc : data.size > 512
    · rw [if_pos hc, bif_true (by rw [decide_eq_true_eq]; omega)]
    · rw [if_neg hc, bif_false (by rw [decide_eq_false_iff_not]; omega), f781q (by omega) (by omega) g7 hdt, bind_some', f781q (by omega) (by omega) g7 hdt, bind_some']
      by_cases c1 : (subT d data d.2.2.1).size > 256
      · rw [if_pos (.inl c1), bif_true (by rw [decide_eq_true_eq]; omega)]
      · rw [bif_false (by rw [decide_eq_false_iff_not]; omega)]
        by_cases c2 : (subT d data d.2.2.2.1).size > 256
        · rw [if_pos (.inr c2), bif_true (by rw [decide_eq_true_eq]; omega)]
        · rw [if_neg (by omega), bif_false (by rw [decide_eq_false_iff_not]; omega)]
  · rw [if_pos hz, bif_true (bne0 hz)]
theorem f737q {d : Dsc} {data : ByteArray} (h : FewD d) (hdt : data.size ≤ 600) : f737F 1000 ((d.1, (d.2.1, (d.2.2.1, (d.2.2.2.1, (d.2.2.2.2.1, (d.2.2.2.2.2.1, d.2.2.2.2.2.2)))))), data) = some (if (filE [d]).2 ≠ 0 then (ByteArray.empty, ByteArray.empty, (filE [d]).2) else txs d data) := by
  unfold f737F
  simp only []
  rw [show f778F 1000 [(d.1, (d.2.1, (d.2.2.1, (d.2.2.2.1, (d.2.2.2.2.1, (d.2.2.2.2.2.1, d.2.2.2.2.2.2))))))] = some (filE [d]).2 from f778q (few_one h), bind_some']
  by_cases hz : (filE [d]).2 = 0
  · rw [if_neg (by simpa using hz), bif_false (by simpa using hz), f779q (dsc_right (file_right hz d (by simp)).1) hdt, bind_some']
  · rw [if_pos hz, bif_true (bne0 hz)]

theorem texts (x : Dsc × ByteArray) : f709F 1000 x = some true := by
  obtain ⟨d, data⟩ := x
  unfold f709F
  simp only [awake18, f735q, bind_some', Bool.not_true, cond_false]
  cases hf : fewD d with
  | false => rfl
  | true =>
    have hF := fewD_iff.1 hf
    rw [Bool.not_true, cond_false]
    by_cases hc : data.size > 600
    · rw [bif_true (by rw [decide_eq_true_eq]; omega)]
    · rw [bif_false (by rw [decide_eq_false_iff_not]; omega)]
      rw [show f736F 1000 [(d.1, (d.2.1, (d.2.2.1, (d.2.2.2.1, (d.2.2.2.2.1, (d.2.2.2.2.2.1, d.2.2.2.2.2.2))))))] = some [d] from f736q (few_one hF), bind_some']
      rw [bif_true (by simp)]
      simp only [List.getD_cons_zero]
      rw [f737q hF (by omega), f738q hF (by omega), bind_some', bind_some']
      generalize (if (filE [d]).2 ≠ 0 then (ByteArray.empty, ByteArray.empty, (filE [d]).2) else txs d data) = r
      rw [beq_self_eq_true, cond_true, strEq_self, cond_true, strEq_self]
end Go.Proofs.YthcmomgkfjjajaaGreatDoor
