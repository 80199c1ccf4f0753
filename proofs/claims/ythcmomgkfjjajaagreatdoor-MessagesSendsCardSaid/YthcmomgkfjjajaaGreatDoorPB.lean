/- Joined texts. -/
import Derived.Test.YthcmomgkfjjajaaGreatDoorPA
set_option linter.unusedVariables false
set_option linter.unusedSimpArgs false
namespace Go.Proofs.YthcmomgkfjjajaaGreatDoor
open Go.Ab
theorem chrT_size (s : ByteArray) : (chrT s).size ≤ s.size := by
 unfold chrT
 rw [strOfNums_size, List.length_map, ints_length, List.length_take]
 have := trimN_le s.data.toList s.data.toList.length
 rw [ba_len] at *
 omega
theorem txtS_size {n s : Int} (h : numErr n s = 0) : (txtS n s.toNat).size ≤ 60 := by
 have c := numErr_ok h
 have hd := decS_size (u := n.natAbs) (by omega)
 have p1 := pad_size (decS n.natAbs) s.toNat
 have p2 := pt_size (padS (decS n.natAbs) s.toNat) s.toNat (by omega)
 have h1 : (⟨#[45]⟩ : ByteArray).size = 1 := rfl
 unfold txtS
 split
 ·rw [app_size, h1]; omega
 ·omega
theorem fTx_size {l : List Typ} {data : ByteArray} {i : Nat} (hw : ∀ t ∈ l, wrT t = false) (hi : i < l.length) : (fTx l data i).size ≤ 300 := by
 have hx : l[i]? = some (l[i]'hi) := List.getElem?_eq_getElem hi
 have hg : l.getD i (0, (0, 0)) = l[i]'hi := getD_of hx
 obtain ⟨ht, h4⟩ := wrT_ok (hw _ (List.mem_of_getElem? hx))
 obtain ⟨o1, o2⟩ := off_rng l i
 obtain ⟨w1, w2⟩ := wd_rng (l[i]'hi)
 unfold fTx
 rw [hg]
 split
 ·decide
 ·rename_i hc
  have hsz : (data.extract (off l i).toNat (off l i + wd (l[i]'hi)).toNat).size ≤ 256 := by
   rw [ext_size _ _ _ (by omega)]; omega
  generalize data.extract (off l i).toNat (off l i + wd (l[i]'hi)).toNat = s at hsz
  unfold fT
  split
  ·have := chrT_size s; omega
  ·split
   ·decide
   ·rename_i h0 he
    obtain ⟨a1, a2, a3, a4, a5, a6, a7, a8, a9⟩ := ty_ok ht
    have := txtS_size (dec_num (s := s) ht (by omega) (by simpa using he))
    omega
def subL (fl : List ByteArray) : List UInt8 → List UInt8
 | [] => []
 | [c] => [c]
 | c :: d :: r => if c = 38 ∧ 49 ≤ d.toNat ∧ d.toNat - 48 ≤ fl.length then (fl.getD (d.toNat - 49) ByteArray.empty).data.toList ++ subL fl r else c :: subL fl (d :: r)
theorem sub_cases (fl : List ByteArray) (l : List UInt8) (i : Nat) (hi : i < l.length) :
  (∃ d, l[i]? = some 38 ∧ l[i + 1]? = some d ∧ 49 ≤ d.toNat ∧ d.toNat - 48 ≤ fl.length ∧ subL fl (l.drop i) = (fl.getD (d.toNat - 49) ByteArray.empty).data.toList ++ subL fl (l.drop (i + 1 + 1))) ∨
  ∃ x, l[i]? = some x ∧ (∀ d, x = 38 → l[i + 1]? = some d → ¬ (49 ≤ d.toNat ∧ d.toNat - 48 ≤ fl.length)) ∧ subL fl (l.drop i) = x :: subL fl (l.drop (i + 1)) := by
 have e : l.drop i = l[i]'hi :: l.drop (i + 1) := List.drop_eq_getElem_cons hi
 have hx : l[i]? = some (l[i]'hi) := List.getElem?_eq_getElem hi
 by_cases h1 : i + 1 < l.length
 ·have e1 : l.drop (i + 1) = l[i + 1]'h1 :: l.drop (i + 1 + 1) := List.drop_eq_getElem_cons h1
  have hd : l[i + 1]? = some (l[i + 1]'h1) := List.getElem?_eq_getElem h1
  by_cases c : l[i]'hi = 38 ∧ 49 ≤ (l[i + 1]'h1).toNat ∧ (l[i + 1]'h1).toNat - 48 ≤ fl.length
  ·refine .inl ⟨_, by rw [hx, c.1], hd, c.2.1, c.2.2, ?_⟩
   rw [e, e1, subL, if_pos c]
  ·refine .inr ⟨_, hx, ?_, ?_⟩
   ·intro d h2 h3 h4
    rw [hd] at h3
    cases h3
    exact c ⟨h2, h4⟩
   ·rw [e, e1, subL, if_neg c]
 ·refine .inr ⟨_, hx, ?_, ?_⟩
  ·intro d _ h3
   rw [List.getElem?_eq_none (by omega)] at h3
   cases h3
  ·rw [e, List.drop_eq_nil_of_le (by omega)]
   simp [subL]
theorem f808p0n {R : Type} (k0 : ByteArray × List ByteArray × Int × List Int × Unit → Option R) (k1 : ByteArray × List ByteArray × Int × Unit → Option R) {l : List UInt8} {fl : List ByteArray} {i : Nat} {x : UInt8} (hx : l[i]? = some x) (hb : l.length < 10000)
  (hno : ∀ d, x = 38 → l[i + 1]? = some d → ¬ (49 ≤ d.toNat ∧ d.toNat - 48 ≤ fl.length)) : f808p0 1000 k0 k1 (S l, fl, (i : Int), ()) = k1 (S l, fl, (i : Int), ()) := by
 have hi : i < l.length := (List.getElem?_eq_some_iff.1 hx).1
 have hg : l.getD i 0 = x := getD_of hx
 unfold f808p0
 simp only [S_size, nn, ltn hi, Bool.and_self, cond_true, S_bt l i hi, hg, wi_succ (i := i) (by omega)]
 by_cases c : x = 38
 ·subst c
  by_cases h1 : i + 1 < l.length
  ·have hd : l[i + 1]? = some (l[i + 1]'h1) := List.getElem?_eq_getElem h1
   have hgd : l.getD (i + 1) 0 = l[i + 1]'h1 := getD_of hd
   have := hno _ rfl hd
   have hr := byte_rng (l[i + 1]'h1)
   simp only [nn, ltn h1, Bool.and_self, cond_true, S_bt l (i + 1) h1, hgd]
   by_cases h49 : 49 ≤ (l[i + 1]'h1).toNat
   ·rw [bif_true (by rfl), bif_true (by simp; omega), wu8 (x := ((l[i + 1]'h1).toNat : Int) - 48) (by omega) (by omega), wi (by omega) (by omega), bif_false (by simp; omega)]
   ·rw [bif_true (by rfl), bif_false (by simp; omega)]
  ·rw [bif_true (by rfl), bif_false (by simp; omega)]
 ·rw [bif_false]
  rw [beq_eq_false_iff_ne]
  intro h
  apply c
  apply UInt8.toNat_inj.1
  have : x.toNat = 38 := by omega
  rw [this]; rfl
theorem f808p2n {R : Type} (k0 k1 : ByteArray × List ByteArray × Int × List Int × Unit → Option R) {l : List UInt8} {fl : List ByteArray} {i : Nat} {x : UInt8} (A : List Int) (hx : l[i]? = some x) (hb : l.length < 10000)
  (hno : ∀ d, x = 38 → l[i + 1]? = some d → ¬ (49 ≤ d.toNat ∧ d.toNat - 48 ≤ fl.length)) : f808p2 1000 k0 k1 (S l, fl, (i : Int), A, ()) = k1 (S l, fl, (i : Int), A, ()) := by
 have hi : i < l.length := (List.getElem?_eq_some_iff.1 hx).1
 have hg : l.getD i 0 = x := getD_of hx
 unfold f808p2
 simp only [S_size, nn, ltn hi, Bool.and_self, cond_true, S_bt l i hi, hg, wi_succ (i := i) (by omega)]
 by_cases c : x = 38
 ·subst c
  by_cases h1 : i + 1 < l.length
  ·have hd : l[i + 1]? = some (l[i + 1]'h1) := List.getElem?_eq_getElem h1
   have hgd : l.getD (i + 1) 0 = l[i + 1]'h1 := getD_of hd
   have := hno _ rfl hd
   have hr := byte_rng (l[i + 1]'h1)
   simp only [nn, ltn h1, Bool.and_self, cond_true, S_bt l (i + 1) h1, hgd]
   by_cases h49 : 49 ≤ (l[i + 1]'h1).toNat
   ·rw [bif_true (by rfl), bif_true (by simp; omega), wu8 (x := ((l[i + 1]'h1).toNat : Int) - 48) (by omega) (by omega), wi (by omega) (by omega), bif_false (by simp; omega)]
   ·rw [bif_true (by rfl), bif_false (by simp; omega)]
  ·rw [bif_true (by rfl), bif_false (by simp; omega)]
 ·rw [bif_false]
  rw [beq_eq_false_iff_ne]
  intro h
  apply c
  apply UInt8.toNat_inj.1
  have : x.toNat = 38 := by omega
  rw [this]; rfl
theorem f808p0m {R : Type} (k0 : ByteArray × List ByteArray × Int × List Int × Unit → Option R) (k1 : ByteArray × List ByteArray × Int × Unit → Option R) {l : List UInt8} {fl : List ByteArray} {i : Nat} {d : UInt8} (hx : l[i]? = some 38) (hd : l[i + 1]? = some d) (hb : l.length < 10000)
  (h49 : 49 ≤ d.toNat) (hn : d.toNat - 48 ≤ fl.length) (hs : ∀ s ∈ fl, s.size ≤ 300) : f808p0 1000 k0 k1 (S l, fl, (i : Int), ()) = k0 (S l, fl, ((i + 1 : Nat) : Int), [] ++ bytesOf (fl.getD (d.toNat - 49) ByteArray.empty), ()) := by
 have hi : i < l.length := (List.getElem?_eq_some_iff.1 hx).1
 have h1 : i + 1 < l.length := (List.getElem?_eq_some_iff.1 hd).1
 have hg : l.getD i 0 = 38 := getD_of hx
 have hgd : l.getD (i + 1) 0 = d := getD_of hd
 have hr := byte_rng d
 have hj : d.toNat - 49 < fl.length := by omega
 have hm : (fl.getD (d.toNat - 49) ByteArray.empty).size ≤ 300 := by
  have e := List.getElem?_eq_getElem hj
  rw [getD_of e]
  exact hs _ (List.mem_of_getElem? e)
 have hl : (bytesOf (fl.getD (d.toNat - 49) ByteArray.empty)).length = (fl.getD (d.toNat - 49) ByteArray.empty).size := by unfold bytesOf; rw [List.length_map]; rfl
 have e49 : IntKind.u8.wrap ((d.toNat : Int) - 49) = ((d.toNat - 49 : Nat) : Int) := by rw [wu8 (by omega) (by omega)]; omega
 have e48 : IntKind.i64.wrap (IntKind.u8.wrap ((d.toNat : Int) - 48)) = ((d.toNat - 48 : Nat) : Int) := by rw [wu8 (by omega) (by omega), wi (by omega) (by omega)]; omega
 unfold f808p0
 simp only [S_size, nn, ltn hi, ltn h1, ltn hj, Bool.and_self, cond_true, S_bt l i hi, hg, wi_succ (i := i) (by omega), S_bt l (i + 1) h1, hgd, e49, e48, Int.toNat_natCast]
 rw [bif_true (by rfl), bif_true (by simp; omega), bif_true (by simp; omega)]
 unfold f825v0F
 simp only [hl]
 rw [bif_true (szN (by simp only [List.length_nil]; omega) (by decide)), bind_some']
theorem f808p2m {R : Type} (k0 k1 : ByteArray × List ByteArray × Int × List Int × Unit → Option R) {l : List UInt8} {fl : List ByteArray} {i : Nat} {d : UInt8} {A : List Int} (hA : A.length ≤ 1000000) (hx : l[i]? = some 38) (hd : l[i + 1]? = some d) (hb : l.length < 10000)
  (h49 : 49 ≤ d.toNat) (hn : d.toNat - 48 ≤ fl.length) (hs : ∀ s ∈ fl, s.size ≤ 300) : f808p2 1000 k0 k1 (S l, fl, (i : Int), A, ()) = k0 (S l, fl, ((i + 1 : Nat) : Int), A ++ bytesOf (fl.getD (d.toNat - 49) ByteArray.empty), ()) := by
 have hi : i < l.length := (List.getElem?_eq_some_iff.1 hx).1
 have h1 : i + 1 < l.length := (List.getElem?_eq_some_iff.1 hd).1
 have hg : l.getD i 0 = 38 := getD_of hx
 have hgd : l.getD (i + 1) 0 = d := getD_of hd
 have hr := byte_rng d
 have hj : d.toNat - 49 < fl.length := by omega
 have hm : (fl.getD (d.toNat - 49) ByteArray.empty).size ≤ 300 := by
  have e := List.getElem?_eq_getElem hj
  rw [getD_of e]
  exact hs _ (List.mem_of_getElem? e)
 have hl : (bytesOf (fl.getD (d.toNat - 49) ByteArray.empty)).length = (fl.getD (d.toNat - 49) ByteArray.empty).size := by unfold bytesOf; rw [List.length_map]; rfl
 have e49 : IntKind.u8.wrap ((d.toNat : Int) - 49) = ((d.toNat - 49 : Nat) : Int) := by rw [wu8 (by omega) (by omega)]; omega
 have e48 : IntKind.i64.wrap (IntKind.u8.wrap ((d.toNat : Int) - 48)) = ((d.toNat - 48 : Nat) : Int) := by rw [wu8 (by omega) (by omega), wi (by omega) (by omega)]; omega
 unfold f808p2
 simp only [S_size, nn, ltn hi, ltn h1, ltn hj, Bool.and_self, cond_true, S_bt l i hi, hg, wi_succ (i := i) (by omega), S_bt l (i + 1) h1, hgd, e49, e48, Int.toNat_natCast]
 rw [bif_true (by rfl), bif_true (by simp; omega), bif_true (by simp; omega)]
 unfold f825v1F
 simp only [hl]
 rw [bif_true (szN (by omega) (by decide)), bind_some']
theorem bytes_ints (s : ByteArray) : bytesOf s = ints s.data.toList := rfl
theorem f808l4m {R : Type} (rec : ByteArray × List ByteArray × Int × List Int × Unit → Option R) (k0 : List Int × Unit → Option R) {l : List UInt8} {fl : List ByteArray} {i : Nat} {d : UInt8} {A : List UInt8} (hA : A.length ≤ 1000000) (hx : l[i]? = some 38) (hd : l[i + 1]? = some d) (hb : l.length < 10000)
  (h49 : 49 ≤ d.toNat) (hn : d.toNat - 48 ≤ fl.length) (hs : ∀ s ∈ fl, s.size ≤ 300) : f808l4s 1000 rec k0 (S l, fl, (i : Int), ints A, ()) = rec (S l, fl, ((i + 1 + 1 : Nat) : Int), ints (A ++ (fl.getD (d.toNat - 49) ByteArray.empty).data.toList), ()) := by
 have hi : i < l.length := (List.getElem?_eq_some_iff.1 hx).1
 have h1 : i + 1 < l.length := (List.getElem?_eq_some_iff.1 hd).1
 unfold f808l4s f808p3
 simp only [S_size, ltn hi, cond_true]
 rw [f808p2m _ _ (by rw [ints_length]; omega) hx hd hb h49 hn hs]
 simp only [wi_succ (i := i + 1) (by omega), bytes_ints, ← ints_app]
theorem f808l4n {R : Type} (rec : ByteArray × List ByteArray × Int × List Int × Unit → Option R) (k0 : List Int × Unit → Option R) {l : List UInt8} {fl : List ByteArray} {i : Nat} {x : UInt8} {A : List UInt8} (hA : A.length ≤ 1000000) (hx : l[i]? = some x) (hb : l.length < 10000)
  (hno : ∀ d, x = 38 → l[i + 1]? = some d → ¬ (49 ≤ d.toNat ∧ d.toNat - 48 ≤ fl.length)) : f808l4s 1000 rec k0 (S l, fl, (i : Int), ints A, ()) = rec (S l, fl, ((i + 1 : Nat) : Int), ints (A ++ [x]), ()) := by
 have hi : i < l.length := (List.getElem?_eq_some_iff.1 hx).1
 have hg : l.getD i 0 = x := getD_of hx
 unfold f808l4s f808p3
 simp only [S_size, ltn hi, cond_true]
 rw [f808p2n _ _ _ hx hb hno]
 simp only [S_size, nn, ltn hi, Bool.and_self, cond_true, S_bt l i hi, hg]
 unfold f826v1F
 simp only []
 rw [bif_true (by rw [ints_length]; simp; omega), bind_some']
 have hc : ints A ++ [(x.toNat : Int)] = ints (A ++ [x]) := by rw [ints_app]; rfl
 simp only [wi_succ (i := i) (show i < 9223372036854775807 by omega), hc]
theorem f808l4q {R : Type} (k0 : List Int × Unit → Option R) {l : List UInt8} {fl : List ByteArray} (hb : l.length < 1000) (hs : ∀ s ∈ fl, s.size ≤ 300) : ∀ (n i K : Nat) (A : List UInt8), l.length - i ≤ n → l.length - i < K → A.length ≤ 300 * i → i ≤ l.length →
  iterS (fun rec v => f808l4s 1000 rec k0 v) K (S l, fl, (i : Int), ints A, ()) = k0 (ints (A ++ subL fl (l.drop i)), ()) := by
 have fin : ∀ (K : Nat) (A : List UInt8), 0 < K → iterS (fun rec v => f808l4s 1000 rec k0 v) K (S l, fl, (l.length : Int), ints A, ()) = k0 (ints (A ++ subL fl (l.drop l.length)), ()) := by
  intro K A hK
  obtain ⟨K, rfl⟩ : ∃ q, K = q + 1 := ⟨K - 1, by omega⟩
  rw [iter_one]
  unfold f808l4s
  simp [S_size, subL]
 intro n
 induction n with
 | zero =>
  intro i K A hn hK hA hi
  obtain rfl : i = l.length := by omega
  exact fin K A (by omega)
 | succ n ih =>
  intro i K A hn hK hA hi
  by_cases he : i = l.length
  ·subst he; exact fin K A (by omega)
  have hi : i < l.length := by omega
  obtain ⟨K, rfl⟩ : ∃ q, K = q + 1 := ⟨K - 1, by omega⟩
  rw [iter_one]
  rcases sub_cases fl l i hi with ⟨d, hx, hd, h49, hn2, e⟩ | ⟨x, hx, hno, e⟩
  ·have h1 : i + 1 < l.length := (List.getElem?_eq_some_iff.1 hd).1
   have hj : d.toNat - 49 < fl.length := by omega
   have hm : (fl.getD (d.toNat - 49) ByteArray.empty).data.toList.length ≤ 300 := by
    have e := List.getElem?_eq_getElem hj
    rw [getD_of e]
    exact hs _ (List.mem_of_getElem? e)
   rw [f808l4m _ _ (by omega) hx hd (by omega) h49 hn2 hs, e, ih (i + 1 + 1) K _ (by omega) (by omega) (by rw [List.length_append]; omega) (by omega), List.append_assoc]
  ·rw [f808l4n _ _ (by omega) hx (by omega) hno, e, ih (i + 1) K _ (by omega) (by omega) (by simp; omega) (by omega), List.append_assoc]
   rfl
theorem ints_ok (l : List UInt8) : (List.all (ints l) fun x => decide (0 ≤ x) && decide (x ≤ 255)) = true := by
 rw [List.all_eq_true]
 intro x hx
 unfold ints at hx
 obtain ⟨b, _, rfl⟩ := List.mem_map.1 hx
 have := byte_rng b
 simp; omega
theorem f808q {s : ByteArray} {fl : List ByteArray} (hb : s.size < 1000) (hs : ∀ s ∈ fl, s.size ≤ 300) : f808F 1000 (s, fl) = some (S (subL fl s.data.toList)) := by
 obtain ⟨l, rfl⟩ : ∃ l, s = S l := ⟨_, (S_of s).symm⟩
 rw [S_size] at hb
 rw [S_list]
 unfold f808F f808p6 f808l5
 simp only []
 rw [iterS_1000]
 unfold f808l5s f808p1
 cases hl : l with
 | nil => rfl
 | cons x0 r =>
  have hi : 0 < l.length := by rw [hl]; simp
  rw [← hl]
  have h0 : decide ((0 : Int) < (l.length : Int)) = true := by simp; omega
  have i0 : ((0 : Int)) = ((0 : Nat) : Int) := rfl
  simp only [S_size, h0, cond_true]
  have fin : ∀ (B : List UInt8), (bif (List.all (ints B) fun x => decide (0 ≤ x) && decide (x ≤ 255)) then some (strOfNums (ints B)) else none) = some (S B) := fun B => by
   rw [ints_ok, cond_true, S_back]
  rw [i0]
  rcases sub_cases fl l 0 hi with ⟨d, hx, hd, h49, hn2, e⟩ | ⟨x, hx, hno, e⟩
  ·have h1 : 0 + 1 < l.length := (List.getElem?_eq_some_iff.1 hd).1
   have hj : d.toNat - 49 < fl.length := by omega
   have hm : (fl.getD (d.toNat - 49) ByteArray.empty).data.toList.length ≤ 300 := by
    have e := List.getElem?_eq_getElem hj
    rw [getD_of e]
    exact hs _ (List.mem_of_getElem? e)
   rw [f808p0m _ _ hx hd (by omega) h49 hn2 hs]
   simp only [wi_succ (i := 0 + 1) (by omega), bytes_ints, List.nil_append]
   unfold f808l4
   rw [f808l4q _ hb hs l.length (0 + 1 + 1) 1000 _ (by omega) (by omega) (by omega) (by omega)]
   refine (fin _).trans ?_
   rw [← e]
   rfl
  ·have hg : l.getD 0 0 = x := getD_of hx
   rw [f808p0n _ _ hx (by omega) hno]
   simp only [S_size, nn, ltn hi, Bool.and_self, cond_true, S_bt l 0 hi, hg]
   unfold f826v0F
   simp only []
   rw [bif_true (szN (by simp) (by decide)), bind_some']
   have hc : [] ++ [(x.toNat : Int)] = ints [x] := rfl
   simp only [wi_succ (i := 0) (by omega), hc]
   unfold f808l4
   rw [f808l4q _ hb hs l.length (0 + 1) 1000 _ (by omega) (by omega) (by simp) (by omega)]
   refine (fin _).trans ?_
   rw [show [x] ++ subL fl (l.drop (0 + 1)) = subL fl (l.drop 0) from e.symm]
   rfl
end Go.Proofs.YthcmomgkfjjajaaGreatDoor
set_option linter.unusedVariables false
set_option linter.unusedSimpArgs false
namespace Go.Proofs.YthcmomgkfjjajaaGreatDoor
open Go.Ab
abbrev Sub := ByteArray × ByteArray × ByteArray × Int × ByteArray × Int × ByteArray × ByteArray × List Typ × ByteArray × List ByteArray × Unit
noncomputable def fls (l : List Typ) (data : ByteArray) : List ByteArray := (List.range l.length).map (fTx l data)
theorem fls_len (l : List Typ) (data : ByteArray) : (fls l data).length = l.length := by simp [fls]
theorem fls_get {l : List Typ} {data : ByteArray} {i : Nat} (h : i < l.length) : (fls l data).getD i ByteArray.empty = fTx l data i := by
 unfold fls
 rw [List.getD_eq_getElem?_getD, List.getElem?_map, List.getElem?_range h]; rfl
theorem fls_size {l : List Typ} {data : ByteArray} (hw : ∀ t ∈ l, wrT t = false) : ∀ s ∈ fls l data, s.size ≤ 300 := by
 intro s hs
 obtain ⟨i, hi, rfl⟩ := List.mem_map.1 hs
 exact fTx_size hw (List.mem_range.1 hi)
theorem f781p0n {R : Type} (k0 k1 : Sub → Option R) {l : List UInt8} {ty : List Typ} {i : Nat} {x : UInt8} (data A id : ByteArray) (sv : Int) (a b df : ByteArray) (rp : List ByteArray) (hx : l[i]? = some x) (hb : l.length < 10000)
  (hno : ∀ d, x = 38 → l[i + 1]? = some d → ¬ (49 ≤ d.toNat ∧ d.toNat - 48 ≤ ty.length)) : f781p0 1000 k0 k1 (S l, data, A, (i : Int), id, sv, a, b, ty, df, rp, ()) = k1 (S l, data, A, (i : Int), id, sv, a, b, ty, df, rp, ()) := by
 have hi : i < l.length := (List.getElem?_eq_some_iff.1 hx).1
 have hg : l.getD i 0 = x := getD_of hx
 unfold f781p0
 simp only [S_size, nn, ltn hi, Bool.and_self, cond_true, S_bt l i hi, hg, wi_succ (i := i) (by omega)]
 by_cases c : x = 38
 ·subst c
  by_cases h1 : i + 1 < l.length
  ·have hd : l[i + 1]? = some (l[i + 1]'h1) := List.getElem?_eq_getElem h1
   have hgd : l.getD (i + 1) 0 = l[i + 1]'h1 := getD_of hd
   have := hno _ rfl hd
   have hr := byte_rng (l[i + 1]'h1)
   have e48 : IntKind.i64.wrap (IntKind.i64.wrap ((l[i + 1]'h1).toNat : Int) - 48) = ((l[i + 1]'h1).toNat : Int) - 48 := by rw [wi (x := ((l[i + 1]'h1).toNat : Int)) (by omega) (by omega), wi (by omega) (by omega)]
   simp only [nn, ltn h1, Bool.and_self, cond_true, S_bt l (i + 1) h1, hgd, e48, f48w, bind_some']
   rw [bif_true (by rfl), bif_false (by rw [Bool.and_eq_false_iff, decide_eq_false_iff_not, decide_eq_false_iff_not]; omega)]
  ·rw [bif_true (by rfl), bif_false (by simp; omega)]
 ·rw [bif_false]
  rw [beq_eq_false_iff_ne]
  intro h
  apply c
  apply UInt8.toNat_inj.1
  have : x.toNat = 38 := by omega
  rw [this]; rfl
theorem f781p0m {R : Type} (k0 k1 : Sub → Option R) {l : List UInt8} {ty : List Typ} {i : Nat} {d : UInt8} {data A : ByteArray} (id : ByteArray) (sv : Int) (a b df : ByteArray) (rp : List ByteArray) (hA : A.size ≤ 1000000) (hx : l[i]? = some 38) (hd : l[i + 1]? = some d) (hb : l.length < 10000)
  (h49 : 49 ≤ d.toNat) (hn : d.toNat - 48 ≤ ty.length) (hty : ty.length ≤ 12) (hw : ∀ t ∈ ty, wrT t = false) (hdt : data.size ≤ 600) :
  f781p0 1000 k0 k1 (S l, data, A, (i : Int), id, sv, a, b, ty, df, rp, ()) = k0 (S l, data, A ++ fTx ty data (d.toNat - 49), ((i + 1 : Nat) : Int), id, sv, a, b, ty, df, rp, ()) := by
 have hi : i < l.length := (List.getElem?_eq_some_iff.1 hx).1
 have h1 : i + 1 < l.length := (List.getElem?_eq_some_iff.1 hd).1
 have hg : l.getD i 0 = 38 := getD_of hx
 have hgd : l.getD (i + 1) 0 = d := getD_of hd
 have hr := byte_rng d
 have hj : d.toNat - 49 < ty.length := by omega
 have hm := fTx_size (data := data) hw hj
 have e48 : IntKind.i64.wrap (IntKind.i64.wrap (d.toNat : Int) - 48) = ((d.toNat - 48 : Nat) : Int) := by rw [wi (x := (d.toNat : Int)) (by omega) (by omega), wi (by omega) (by omega)]; omega
 have e49 : IntKind.i64.wrap (IntKind.i64.wrap (d.toNat : Int) - 49) = ((d.toNat - 49 : Nat) : Int) := by rw [wi (x := (d.toNat : Int)) (by omega) (by omega), wi (by omega) (by omega)]; omega
 unfold f781p0
 simp only [S_size, nn, ltn hi, ltn h1, Bool.and_self, cond_true, S_bt l i hi, hg, wi_succ (i := i) (by omega), S_bt l (i + 1) h1, hgd, e49, e48, f48w, bind_some', f809q hty hw hdt hj]
 rw [bif_true (by rfl), bif_true (by rw [Bool.and_eq_true, decide_eq_true_eq, decide_eq_true_eq]; omega), bif_true (by rw [decide_eq_true_eq]; omega)]
theorem cut_one {l : List UInt8} {i : Nat} {x : UInt8} (hx : l[i]? = some x) : (S l).extract i (i + 1) = S [x] := by
 have hi : i < l.length := (List.getElem?_eq_some_iff.1 hx).1
 have hg : l[i] = x := (List.getElem?_eq_some_iff.1 hx).2
 rw [S_cut, List.take_succ_eq_append_getElem hi, List.drop_append_of_le_length (by rw [List.length_take]; omega), List.drop_of_length_le (by rw [List.length_take]; omega), hg]; rfl
theorem f781l2q {R : Type} (k0 : ByteArray × Unit → Option R) {l : List UInt8} {ty : List Typ} {data : ByteArray} (id : ByteArray) (sv : Int) (a b df : ByteArray) (rp : List ByteArray) (hb : l.length < 1000) (hty : ty.length ≤ 12) (hw : ∀ t ∈ ty, wrT t = false) (hdt : data.size ≤ 600) : ∀ (n i K : Nat) (A : List UInt8), l.length - i ≤ n → l.length - i < K → A.length ≤ 300 * i → i ≤ l.length →
  iterS (fun rec v => f781l2s 1000 rec k0 v) K (S l, data, S A, (i : Int), id, sv, a, b, ty, df, rp, ()) = k0 (S (A ++ subL (fls ty data) (l.drop i)), ()) := by
 have stm : ∀ (rec : Sub → Option R) (i : Nat) (A : List UInt8) (d : UInt8), A.length ≤ 1000000 → l[i]? = some 38 → l[i + 1]? = some d → 49 ≤ d.toNat → d.toNat - 48 ≤ ty.length →
   f781l2s 1000 rec k0 (S l, data, S A, (i : Int), id, sv, a, b, ty, df, rp, ()) = rec (S l, data, S (A ++ ((fls ty data).getD (d.toNat - 49) ByteArray.empty).data.toList), ((i + 1 + 1 : Nat) : Int), id, sv, a, b, ty, df, rp, ()) := by
  intro rec i A d hA hx hd h49 hn
  have hi : i < l.length := (List.getElem?_eq_some_iff.1 hx).1
  have h1 : i + 1 < l.length := (List.getElem?_eq_some_iff.1 hd).1
  unfold f781l2s f781p1
  simp only [S_size, ltn hi, cond_true]
  rw [f781p0m _ _ _ _ _ _ _ _ (by rw [S_size]; omega) hx hd (by omega) h49 hn hty hw hdt]
  simp only [wi_succ (i := i + 1) (by omega)]
  rw [fls_get (by omega), ← S_app, S_of]
 have stn : ∀ (rec : Sub → Option R) (i : Nat) (A : List UInt8) (x : UInt8), A.length ≤ 1000000 → l[i]? = some x → (∀ d, x = 38 → l[i + 1]? = some d → ¬ (49 ≤ d.toNat ∧ d.toNat - 48 ≤ ty.length)) →
   f781l2s 1000 rec k0 (S l, data, S A, (i : Int), id, sv, a, b, ty, df, rp, ()) = rec (S l, data, S (A ++ [x]), ((i + 1 : Nat) : Int), id, sv, a, b, ty, df, rp, ()) := by
  intro rec i A x hA hx hno
  have hi : i < l.length := (List.getElem?_eq_some_iff.1 hx).1
  unfold f781l2s f781p1
  simp only [S_size, ltn hi, cond_true]
  rw [f781p0n _ _ _ _ _ _ _ _ _ _ hx (by omega) hno]
  have hs : sliceBds (i : Int) ((i + 1 : Nat) : Int) (l.length : Int) = true := sliceB (by omega) (by omega)
  simp only [S_size, wi_succ (i := i) (show i < 9223372036854775807 by omega), hs, cond_true, Int.toNat_natCast, cut_one hx]
  rw [bif_true (by rw [decide_eq_true_eq]; simp; omega), S_app]
 have fin : ∀ (K : Nat) (A : List UInt8), 0 < K → iterS (fun rec v => f781l2s 1000 rec k0 v) K (S l, data, S A, (l.length : Int), id, sv, a, b, ty, df, rp, ()) = k0 (S (A ++ subL (fls ty data) (l.drop l.length)), ()) := by
  intro K A hK
  obtain ⟨K, rfl⟩ : ∃ q, K = q + 1 := ⟨K - 1, by omega⟩
  rw [iter_one]
  unfold f781l2s
  simp [S_size, subL]
 intro n
 induction n with
 | zero =>
  intro i K A hn hK hA hi
  obtain rfl : i = l.length := by omega
  exact fin K A (by omega)
 | succ n ih =>
  intro i K A hn hK hA hi
  by_cases he : i = l.length
  ·subst he; exact fin K A (by omega)
  have hi : i < l.length := by omega
  obtain ⟨K, rfl⟩ : ∃ q, K = q + 1 := ⟨K - 1, by omega⟩
  rw [iter_one]
  rcases sub_cases (fls ty data) l i hi with ⟨d, hx, hd, h49, hn2, e⟩ | ⟨x, hx, hno, e⟩
  ·have h1 : i + 1 < l.length := (List.getElem?_eq_some_iff.1 hd).1
   have hj : d.toNat - 49 < (fls ty data).length := by omega
   have hm : ((fls ty data).getD (d.toNat - 49) ByteArray.empty).data.toList.length ≤ 300 := by
    have e := List.getElem?_eq_getElem hj
    rw [getD_of e]
    exact fls_size hw _ (List.mem_of_getElem? e)
   rw [stm _ _ _ _ (by omega) hx hd h49 (by rw [fls_len] at hn2; exact hn2), e, ih (i + 1 + 1) K _ (by omega) (by omega) (by rw [List.length_append]; omega) (by omega), List.append_assoc]
  ·rw [stn _ _ _ _ (by omega) hx (by rw [fls_len] at hno; exact hno), e, ih (i + 1) K _ (by omega) (by omega) (by simp; omega) (by omega), List.append_assoc]
   rfl
noncomputable def subT (d : Dsc) (data s : ByteArray) : ByteArray := S (subL (fls d.2.2.2.2.1 data) s.data.toList)
theorem f781q {d : Dsc} {data s : ByteArray} (hs : s.size < 1000) (hty : d.2.2.2.2.1.length ≤ 12) (hw : ∀ t ∈ d.2.2.2.2.1, wrT t = false) (hdt : data.size ≤ 600) : f781F 1000 ((d.1, (d.2.1, (d.2.2.1, (d.2.2.2.1, (d.2.2.2.2.1, (d.2.2.2.2.2.1, d.2.2.2.2.2.2)))))), s, data) = some (subT d data s) := by
 obtain ⟨l, rfl⟩ : ∃ l, s = S l := ⟨_, (S_of s).symm⟩
 rw [S_size] at hs
 unfold f781F f781l2 subT
 simp only []
 rw [← S_nil, show ((0 : Int)) = ((0 : Nat) : Int) from rfl, f781l2q _ _ _ _ _ _ _ hs hty hw hdt l.length 0 1000 [] (by omega) (by omega) (by simp) (by omega), S_list]
 rfl
theorem runD_right : ∀ (l : List Dsc) (p : Option ByteArray) (i : Nat), (runD p i l).2 = 0 → ∀ d ∈ l, dscE d = 0 ∧ isId d.1 = true
 | [], _, _, _, _, h => by cases h
 | x :: l, p, i, h, d, hd => by
  unfold runD at h
  by_cases hz : dE p x ≠ 0
  ·rw [if_pos hz] at h; exact absurd h hz
  ·rw [if_neg hz] at h
   rcases List.mem_cons.1 hd with e | hd
   ·subst e
    simp only [ne_eq, Decidable.not_not] at hz
    unfold dE at hz
    cases hI : isId d.1 with
    | false => rw [hI] at hz; simp at hz
    | true =>
     rw [hI] at hz
     refine ⟨?_, rfl⟩
     cases p with
     | none => simpa using hz
     | some q =>
      cases hq : strLt q d.1 with
      | false => simp [hq] at hz
      | true => simpa [hq] using hz
   ·exact runD_right l _ _ h d hd
theorem file_right {l : List Dsc} (h : (filE l).2 = 0) : ∀ d ∈ l, dscE d = 0 ∧ isId d.1 = true := by
 unfold filE at h
 split at h
 ·cases h
 ·exact runD_right l _ _ h
theorem tys_right {l : List Typ} (h : tysE l = 0) : l.length ≤ 9 ∧ ∀ t ∈ l, wrT t = false := by
 unfold tysE at h
 split at h
 ·cases h
 ·split at h
  ·cases h
  ·rename_i h1 h2
   refine ⟨by omega, fun t ht => ?_⟩
   cases hw : wrT t with
   | false => rfl
   | true => exact absurd (List.any_eq_true.2 ⟨t, ht, hw⟩) h2
structure RightD (d : Dsc) : Prop where
 first : d.2.2.1.size ≤ 200
 second : d.2.2.2.1.size ≤ 200
 ne : d.2.2.1 ≠ ByteArray.empty
 t1 : isTx d.2.2.1 = true
 t2 : isTx d.2.2.2.1 = true
 types : d.2.2.2.2.1.length ≤ 9
 tys : ∀ t ∈ d.2.2.2.2.1, wrT t = false
 dflt : txE d.2.2.2.2.2.1 32 = 0
 reps : rpsE d.2.2.2.2.2.2 = 0
theorem dsc_right {d : Dsc} (h : dscE d = 0) : RightD d := by
 unfold dscE at h
 split at h
 ·cases h
 split at h
 ·cases h
 split at h
 ·cases h
 split at h
 ·cases h
 split at h
 ·rename_i hc; exact absurd h hc
 split at h
 ·rename_i hc; exact absurd h hc
 rename_i h1 h2 h3 h4 h5 h6
 obtain ⟨g1, g2⟩ := tys_right (show tysE d.2.2.2.2.1 = 0 by simpa using h5)
 have h4 : isTx d.2.2.1 = true ∧ isTx d.2.2.2.1 = true := by simpa using h4
 refine ⟨by omega, by omega, ?_, h4.1, h4.2, g1, g2, by simpa using h6, h⟩
 intro e
 rw [e] at h2
 exact h2 (strEq_self _)
theorem f780q {l : List Dsc} (h : FewF l) : f780F 1000 l = some (filE l).2 := by
 unfold f780F
 simp only [f748q h, bind_some']
noncomputable def txs (d : Dsc) (data : ByteArray) : ByteArray × ByteArray × Int :=
 if data.size > 512 then (ByteArray.empty, ByteArray.empty, 2)
 else if (subT d data d.2.2.1).size > 256 ∨ (subT d data d.2.2.2.1).size > 256 then (ByteArray.empty, ByteArray.empty, 2)
 else (subT d data d.2.2.1, subT d data d.2.2.2.1, 0)
theorem f779q {d : Dsc} {data : ByteArray} (h : RightD d) (hdt : data.size ≤ 600) : f779F 1000 ((d.1, (d.2.1, (d.2.2.1, (d.2.2.2.1, (d.2.2.2.2.1, (d.2.2.2.2.2.1, d.2.2.2.2.2.2)))))), data) = some (txs d data) := by
 obtain ⟨g1, g2, g3, g4, g5, g6, g7, g8, g9⟩ := h
 unfold f779F txs
 simp only []
 by_cases hc : data.size > 512
 ·rw [if_pos hc, bif_true (by rw [decide_eq_true_eq]; omega)]
 ·rw [if_neg hc, bif_false (by rw [decide_eq_false_iff_not]; omega), f807q (by omega) g7 hdt]
  have e1 : f808F 1000 (d.2.2.1, (List.range d.2.2.2.2.1.length).map (fTx d.2.2.2.2.1 data)) = some (subT d data d.2.2.1) := f808q (by omega) (fls_size g7)
  have e2 : f808F 1000 (d.2.2.2.1, (List.range d.2.2.2.2.1.length).map (fTx d.2.2.2.2.1 data)) = some (subT d data d.2.2.2.1) := f808q (by omega) (fls_size g7)
  simp only [bind_some', e1, e2]
  by_cases c1 : (subT d data d.2.2.1).size > 256
  ·rw [if_pos (.inl c1), bif_true (by rw [decide_eq_true_eq]; omega)]
  ·rw [bif_false (by rw [decide_eq_false_iff_not]; omega)]
   by_cases c2 : (subT d data d.2.2.2.1).size > 256
   ·rw [if_pos (.inr c2), bif_true (by rw [decide_eq_true_eq]; omega)]
   ·rw [if_neg (by omega), bif_false (by rw [decide_eq_false_iff_not]; omega)]
theorem few_one {d : Dsc} (h : FewD d) : FewF [d] := ⟨by simp, fun x hx => by rw [List.mem_singleton.1 hx]; exact h⟩
theorem f738q {d : Dsc} {data : ByteArray} (h : FewD d) (hdt : data.size ≤ 600) : f738F 1000 ((d.1, (d.2.1, (d.2.2.1, (d.2.2.2.1, (d.2.2.2.2.1, (d.2.2.2.2.2.1, d.2.2.2.2.2.2)))))), data) = some (if (filE [d]).2 ≠ 0 then (ByteArray.empty, ByteArray.empty, (filE [d]).2) else txs d data) := by
 unfold f738F
 simp only []
 rw [show f780F 1000 [(d.1, (d.2.1, (d.2.2.1, (d.2.2.2.1, (d.2.2.2.2.1, (d.2.2.2.2.2.1, d.2.2.2.2.2.2))))))] = some (filE [d]).2 from f780q (few_one h), bind_some']
 by_cases hz : (filE [d]).2 = 0
 ·obtain ⟨g1, g2, g3, g4, g5, g6, g7, g8, g9⟩ := dsc_right (file_right hz d (by simp)).1
  rw [if_neg (by simpa using hz), bif_false (by simpa using hz)]
  unfold txs
  by_cases hc : data.size > 512
  ·rw [if_pos hc, bif_true (by rw [decide_eq_true_eq]; omega)]
  ·rw [if_neg hc, bif_false (by rw [decide_eq_false_iff_not]; omega), f781q (by omega) (by omega) g7 hdt, bind_some', f781q (by omega) (by omega) g7 hdt, bind_some']
   by_cases c1 : (subT d data d.2.2.1).size > 256
   ·rw [if_pos (.inl c1), bif_true (by rw [decide_eq_true_eq]; omega)]
   ·rw [bif_false (by rw [decide_eq_false_iff_not]; omega)]
    by_cases c2 : (subT d data d.2.2.2.1).size > 256
    ·rw [if_pos (.inr c2), bif_true (by rw [decide_eq_true_eq]; omega)]
    ·rw [if_neg (by omega), bif_false (by rw [decide_eq_false_iff_not]; omega)]
 ·rw [if_pos hz, bif_true (bne0 hz)]
end Go.Proofs.YthcmomgkfjjajaaGreatDoor
set_option linter.unusedVariables false
set_option linter.unusedSimpArgs false
namespace Go.Proofs.YthcmomgkfjjajaaGreatDoor
open Go.Ab
abbrev Row := ByteArray × (Int × (Bool × (Int × Nat)))
abbrev Hep := List (Kid Msg)
theorem kget_of {α : Type} {H : List (Kid α)} {id : Nat} {xs : List α} {c : Nat} (h : kidAt H id = .own xs c) : kget H id = xs := by unfold kget; rw [h]
theorem kroom_of {α : Type} {H : List (Kid α)} {id : Nat} {xs : List α} {c : Nat} (h : kidAt H id = .own xs c) : kroom H id = c := by unfold kroom; rw [h]
theorem kalive_of {α : Type} {H : List (Kid α)} {id : Nat} {xs : List α} {c : Nat} (h : kidAt H id = .own xs c) : kalive H id = true := by unfold kalive; rw [h]
theorem kcap_of {α : Type} {H : List (Kid α)} {id : Nat} {xs : List α} {c : Nat} (h : kidAt H id = .own xs c) : kcap H id = max c xs.length := by unfold kcap; rw [kroom_of h, kget_of h]
theorem kid_pos {α : Type} {H : List (Kid α)} {id : Nat} {xs : List α} {c : Nat} (h : kidAt H id = .own xs c) : ∃ j, id = j + 1 ∧ H[j]? = some (.own xs c) := by
 cases id with
 | zero => cases h
 | succ j =>
  refine ⟨j, rfl, ?_⟩
  simp only [kidAt] at h
  cases hj : H[j]? with
  | none => rw [hj] at h; cases h
  | some k => rw [hj] at h; simp only at h; rw [h]
theorem kid_le {α : Type} {H : List (Kid α)} {id : Nat} {xs : List α} {c : Nat} (h : kidAt H id = .own xs c) : 0 < id ∧ id ≤ H.length := by
 obtain ⟨j, rfl, hj⟩ := kid_pos h
 have := (List.getElem?_eq_some_iff.1 hj).1
 omega
theorem kown_of {α : Type} {H : List (Kid α)} {id : Nat} {xs : List α} {c : Nat} (h : kidAt H id = .own xs c) : kown H id = true := by
 obtain ⟨j, rfl, hj⟩ := kid_pos h
 unfold kown
 simp only [hj]
theorem kid_app {α : Type} (H L : List (Kid α)) {id : Nat} (h : id ≤ H.length) : kidAt (H ++ L) id = kidAt H id := by
 cases id with
 | zero => rfl
 | succ j =>
  simp only [kidAt]
  rw [List.getElem?_append_left (by omega)]
theorem kid_new {α : Type} (H : List (Kid α)) (k : Kid α) : kidAt (H ++ [k]) (H.length + 1) = k := by
 simp [kidAt]
theorem kid_set {α : Type} {H : List (Kid α)} {j : Nat} (k : Kid α) (h : j < H.length) : kidAt (H.set j k) (j + 1) = k := by
 simp only [kidAt]
 rw [List.getElem?_set_self h]
theorem kid_set_ne {α : Type} (H : List (Kid α)) {j id : Nat} (k : Kid α) (h : id ≠ j + 1) : kidAt (H.set j k) id = kidAt H id := by
 cases id with
 | zero => rfl
 | succ i =>
  simp only [kidAt]
  rw [List.getElem?_set_ne (by omega)]
theorem kkill_len {α : Type} (H : List (Kid α)) (id : Nat) : (kkill H id).length = H.length := by
 cases id <;> simp [kkill]
theorem kapp_len {α : Type} (H : List (Kid α)) (id n : Nat) (ys : List α) : (kapp H id n ys).length = H.length + 1 := by
 unfold kapp
 simp [kkill_len]
theorem kapp_new {α : Type} (H : List (Kid α)) (id n : Nat) (ys : List α) : kidAt (kapp H id n ys) (H.length + 1) = .own ((kget H id).take n ++ ys) (max (kroom H id) (n + ys.length)) := by
 unfold kapp
 rw [← kkill_len H id, kid_new]
theorem kapp_old {α : Type} (H : List (Kid α)) {id i : Nat} (n : Nat) (ys : List α) (h : i ≠ id) (hl : i ≤ H.length) : kidAt (kapp H id n ys) i = kidAt H i := by
 unfold kapp
 rw [kid_app _ _ (by rw [kkill_len]; exact hl)]
 cases id with
 | zero => rfl
 | succ j => exact kid_set_ne _ _ h
theorem kwrt_at {α : Type} {H : List (Kid α)} {id : Nat} {xs : List α} {c : Nat} (h : kidAt H id = .own xs c) (lo : Nat) (ys : List α) : kidAt (kwrt H id lo ys) id = .own (wrt xs lo ys) c := by
 obtain ⟨j, rfl, hj⟩ := kid_pos h
 unfold kwrt
 simp only [kget_of h, kroom_of h]
 exact kid_set _ (List.getElem?_eq_some_iff.1 hj).1
theorem kwrt_ne {α : Type} (H : List (Kid α)) {id i : Nat} (h : i ≠ id) (lo : Nat) (ys : List α) : kidAt (kwrt H id lo ys) i = kidAt H i := by
 cases id with
 | zero => rfl
 | succ j => exact kid_set_ne _ _ h
theorem kwrt_len {α : Type} (H : List (Kid α)) (id lo : Nat) (ys : List α) : (kwrt H id lo ys).length = H.length := by
 cases id <;> simp [kwrt]
theorem wrt_end {α : Type} (xs ys : List α) : wrt xs xs.length ys = xs := by
 unfold wrt
 rw [List.take_length, List.take_left]
def kidOk (H : Hep) (id : Nat) : Prop := ∃ xs c, kidAt H id = .own xs c ∧ xs.length ≤ c
structure Hp (H : Hep) (R : List Row) : Prop where
 ok : ∀ r ∈ R, kidOk H r.2.2.2.2
 nd : (R.map fun r => r.2.2.2.2).Nodup
def qOf (H : Hep) (r : Row) : Que := (r.1, (r.2.1, (r.2.2.1, (r.2.2.2.1, kget H r.2.2.2.2))))
def qs (H : Hep) (R : List Row) : List Que := R.map (qOf H)
theorem qs_len (H : Hep) (R : List Row) : (qs H R).length = R.length := by simp [qs]
theorem qs_get {H : Hep} {R : List Row} {j : Nat} {r : Row} (h : R[j]? = some r) : (qs H R)[j]? = some (qOf H r) := by
 unfold qs
 rw [List.getElem?_map, h]; rfl
theorem Hp.kid {H : Hep} {R : List Row} (h : Hp H R) {j : Nat} {r : Row} (hr : R[j]? = some r) : kidOk H r.2.2.2.2 := h.ok r (List.mem_of_getElem? hr)
theorem Hp.alive {H : Hep} {R : List Row} (h : Hp H R) : (R.all fun q => (true && (true && (true && (true && (kalive H q.2.2.2.2)))))) = true := by
 rw [List.all_eq_true]
 intro r hr
 obtain ⟨xs, c, hk, _⟩ := h.ok r hr
 simp only [Bool.true_and]
 exact kalive_of hk
theorem Hp.frz {H : Hep} {R : List Row} (h : Hp H R) : (R.all fun q => (true && (true && (true && (true && (kro (List.map Kid.frz H) q.2.2.2.2)))))) = true := by
 rw [List.all_eq_true]
 intro r hr
 obtain ⟨xs, c, hk, _⟩ := h.ok r hr
 simp only [Bool.true_and]
 rw [kro_frz]
 exact kalive_of hk
theorem qs_frz (H : Hep) (R : List Row) : (R.map fun q => (q.1, (q.2.1, (q.2.2.1, (q.2.2.2.1, (kget (List.map Kid.frz H) q.2.2.2.2)))))) = qs H R := by
 unfold qs qOf
 refine List.map_congr_left fun q _ => ?_
 rw [kget_frz]
theorem qs_map (H : Hep) (R : List Row) : (R.map fun q => (q.1, (q.2.1, (q.2.2.1, (q.2.2.2.1, (kget H q.2.2.2.2)))))) = qs H R := rfl
theorem Hp.upd {H H' : Hep} {R : List Row} (h : Hp H R) {j : Nat} {r : Row} (hr : R[j]? = some r) (r' : Row) (hk : kidOk H' r'.2.2.2.2) (hid : r'.2.2.2.2 = r.2.2.2.2 ∨ H.length < r'.2.2.2.2)
  (hold : ∀ i, i ≠ r.2.2.2.2 → i ≤ H.length → kidAt H' i = kidAt H i) : Hp H' (R.set j r') ∧ qs H' (R.set j r') = (qs H R).set j (qOf H' r') := by
 have hj : j < R.length := (List.getElem?_eq_some_iff.1 hr).1
 have hrj : R[j] = r := (List.getElem?_eq_some_iff.1 hr).2
 have nd := h.nd
 have other : ∀ i x, i ≠ j → R[i]? = some x → x.2.2.2.2 ≠ r.2.2.2.2 := by
  intro i x hij hx e
  have hi : i < R.length := (List.getElem?_eq_some_iff.1 hx).1
  have a : (R.map fun r => r.2.2.2.2)[i]? = some x.2.2.2.2 := by rw [List.getElem?_map, hx]; rfl
  have b : (R.map fun r => r.2.2.2.2)[j]? = some r.2.2.2.2 := by rw [List.getElem?_map, hr]; rfl
  rw [e] at a
  exact hij ((List.getElem?_inj (by simpa using hi) nd).1 (a.trans b.symm))
 have oldk : ∀ i x, i ≠ j → R[i]? = some x → kidAt H' x.2.2.2.2 = kidAt H x.2.2.2.2 := by
  intro i x hij hx
  obtain ⟨xs, c, hk2, _⟩ := h.kid hx
  exact hold _ (other i x hij hx) (kid_le hk2).2
 refine ⟨⟨fun x hx => ?_, ?_⟩, ?_⟩
 ·obtain ⟨i, hi⟩ := List.mem_iff_getElem?.1 hx
  by_cases e : i = j
  ·subst e
   rw [List.getElem?_set_self hj] at hi
   injection hi with hi
   subst hi
   exact hk
  ·rw [List.getElem?_set_ne (fun c => e c.symm)] at hi
   obtain ⟨xs, c, hk2, hl⟩ := h.kid hi
   exact ⟨xs, c, by rw [oldk i x e hi]; exact hk2, hl⟩
 ·rw [List.map_set]
  unfold List.Nodup
  rw [List.pairwise_iff_getElem]
  intro a b ha hb hab
  simp only [List.length_set, List.length_map] at ha hb
  rw [List.getElem_set, List.getElem_set]
  have na : ∀ i (hi : i < R.length), i ≠ j → R[i].2.2.2.2 ≠ r'.2.2.2.2 := by
   intro i hi hij e
   have hx : R[i]? = some R[i] := List.getElem?_eq_getElem hi
   rcases hid with e2 | e2
   ·exact other i _ hij hx (e.trans e2)
   ·obtain ⟨xs, c, hk2, _⟩ := h.kid hx
    have := (kid_le hk2).2
    omega
  by_cases c1 : j = a
  ·rw [if_pos c1]
   rw [if_neg (by omega)]
   simp only [List.getElem_map]
   exact fun e => na b hb (by omega) e.symm
  ·rw [if_neg c1]
   by_cases c2 : j = b
   ·rw [if_pos c2]
    simp only [List.getElem_map]
    exact na a ha (by omega)
   ·rw [if_neg c2]
    have := (List.pairwise_iff_getElem.1 nd) a b (by simpa using ha) (by simpa using hb) hab
    exact this
 ·apply List.ext_getElem?
  intro i
  by_cases e : i = j
  ·subst e
   rw [List.getElem?_set_self (by rw [qs_len]; exact hj)]
   unfold qs
   rw [List.getElem?_map, List.getElem?_set_self hj]; rfl
  ·rw [List.getElem?_set_ne (fun c => e c.symm)]
   unfold qs
   rw [List.getElem?_map, List.getElem?_map, List.getElem?_set_ne (fun c => e c.symm)]
   cases hx : R[i]? with
   | none => rfl
   | some x =>
    simp only [Option.map_some]
    congr 1
    unfold qOf kget
    rw [oldk i x e hx]
theorem Hp.row {H : Hep} {R : List Row} (h : Hp H R) {j : Nat} {r : Row} (hr : R[j]? = some r) (r' : Row) (hid : r'.2.2.2.2 = r.2.2.2.2) : Hp H (R.set j r') ∧ qs H (R.set j r') = (qs H R).set j (qOf H r') :=
 h.upd hr r' (by rw [hid]; exact h.kid hr) (.inl hid) (fun _ _ _ => rfl)
end Go.Proofs.YthcmomgkfjjajaaGreatDoor
set_option linter.unusedVariables false
set_option linter.unusedSimpArgs false
namespace Go.Proofs.YthcmomgkfjjajaaGreatDoor
open Go.Ab
def ownK (Q : List Que) : Hep := Q.map fun q => kidOf q.2.2.2.2
def rowQ (q : Que) (id : Nat) : Row := (q.1, (q.2.1, (q.2.2.1, (q.2.2.2.1, id))))
def ownR : List Que → Nat → List Row
 | [], _ => []
 | q :: l, n => rowQ q (n + 1) :: ownR l (n + 1)
theorem ownR_len : ∀ (Q : List Que) (n : Nat), (ownR Q n).length = Q.length
 | [], _ => rfl
 | q :: l, n => by simp [ownR, ownR_len l (n + 1)]
theorem ownR_get : ∀ (Q : List Que) (n i : Nat), (ownR Q n)[i]? = (Q[i]?).map fun q => rowQ q (n + i + 1)
 | [], _, _ => by simp [ownR]
 | q :: l, n, 0 => by simp [ownR]
 | q :: l, n, i + 1 => by
  simp only [ownR, List.getElem?_cons_succ, ownR_get l (n + 1) i]
  congr 1
  funext q
  rw [show n + 1 + i + 1 = n + (i + 1) + 1 by omega]
theorem ownK_get (Q : List Que) (i : Nat) : (ownK Q)[i]? = (Q[i]?).map fun q => kidOf q.2.2.2.2 := by
 unfold ownK; rw [List.getElem?_map]
theorem ownK_at {H : Hep} {Q : List Que} {i : Nat} {q : Que} (h : Q[i]? = some q) : kidAt (H ++ ownK Q) (H.length + i + 1) = .own q.2.2.2.2 q.2.2.2.2.length := by
 simp only [kidAt]
 rw [List.getElem?_append_right (by omega), show H.length + i - H.length = i by omega, ownK_get, h]; rfl
theorem own_hp (H : Hep) (Q : List Que) : Hp (H ++ ownK Q) (ownR Q H.length) ∧ qs (H ++ ownK Q) (ownR Q H.length) = Q := by
 have key : ∀ i r, (ownR Q H.length)[i]? = some r → ∃ q, Q[i]? = some q ∧ r = rowQ q (H.length + i + 1) := by
  intro i r hr
  rw [ownR_get] at hr
  cases hq : Q[i]? with
  | none => rw [hq] at hr; cases hr
  | some q => rw [hq] at hr; exact ⟨q, rfl, by simpa using hr.symm⟩
 refine ⟨⟨fun r hr => ?_, ?_⟩, ?_⟩
 ·obtain ⟨i, hi⟩ := List.mem_iff_getElem?.1 hr
  obtain ⟨q, hq, rfl⟩ := key i r hi
  exact ⟨_, _, ownK_at hq, Nat.le_refl _⟩
 ·unfold List.Nodup
  rw [List.pairwise_iff_getElem]
  intro a b ha hb hab
  simp only [List.length_map] at ha hb
  obtain ⟨q, _, e1⟩ := key a _ (List.getElem?_eq_getElem ha)
  obtain ⟨q', _, e2⟩ := key b _ (List.getElem?_eq_getElem hb)
  simp only [List.getElem_map, e1, e2, rowQ]
  omega
 ·apply List.ext_getElem?
  intro i
  unfold qs
  rw [List.getElem?_map, ownR_get]
  cases hq : Q[i]? with
  | none => rfl
  | some q =>
   simp only [Option.map_some, qOf, rowQ, kget_of (ownK_at (H := H) hq)]
theorem f716v0q {F : List Dsc} {Q : List Que} (H : Hep) (hF : FewF F) (hl : Q.length ≤ 100) (hm : ∀ q ∈ Q, q.2.2.2.2.length ≤ 100) : f716v0F 1000 (F, Q, H, ()) = some (H ++ ownK Q, F, ownR Q H.length, ()) := by
 unfold f716v0F f716v0p2
 simp only [f736q hF, bind_some']
 have snoc : ∀ (l : List Que) (n : Nat) (q : Que), ownR (l ++ [q]) n = ownR l n ++ [rowQ q (n + l.length + 1)] := by
  intro l
  induction l with
  | nil => intro n q; simp [ownR]
  | cons x l ih =>
   intro n q
   simp only [List.cons_append, ownR, ih, List.length_cons]
   rw [show n + 1 + l.length + 1 = n + (l.length + 1) + 1 by omega]
 have lp : ∀ (q : Que) (m : List Que), Q = q :: m → f716v0l0 1000 (fun w7 : Hep × List Dsc × List Row × List Dsc × List Row × Unit => some (w7.1, w7.2.2.2.1, w7.2.2.2.2.1, ())) (1, H ++ ownK [q], F, Q, [], [], F, ownR [q] H.length, ()) = some (H ++ ownK Q, F, ownR Q H.length, ()) := by
  intro q m hq
  have key := iter_from (k := 1000) (R := Hep × List Dsc × List Row × Unit) (A := List Que) (Step := fun rec v => f716v0l0s 1000 rec (fun w7 : Hep × List Dsc × List Row × List Dsc × List Row × Unit => some (w7.1, w7.2.2.2.1, w7.2.2.2.2.1, ())) v) Q (fun i a => ((i : Int), H ++ ownK a, F, Q, [], [], F, ownR a H.length, ())) (fun m a => some (H ++ ownK (a ++ m), F, ownR (a ++ m) H.length, ())) (fun i a => a.length = i) ?_ ?_ (by omega) 1 [q] (by rw [hq]; simp) rfl
  ·unfold f716v0l0
   rw [show ((1 : Int)) = ((1 : Nat) : Int) from rfl, key, hq]
   rfl
  ·intro rec a _
   unfold f716v0l0s
   simp
  ·intro rec i a x hx hi ha
   have hd := hm x (List.mem_of_getElem? hx)
   refine .inl ⟨a ++ [x], by simp [ha], ?_, by simp⟩
   unfold f716v0l0s
   simp only [ltn hi, nn, Bool.and_self, cond_true, Int.toNat_natCast, getD_of hx, wi_succ (i := i) (by omega), List.nil_append]
   rw [bif_true (szN (by simp; omega) (by decide)), bif_true (szN (by simp [ownR_len]; omega) (by decide)), snoc, ha]
   have e1 : (H ++ ownK a).length = H.length + i := by simp [ownK, ha]
   rw [e1]
   simp [ownK, rowQ]
 unfold f716v0l1
 rw [iterS_1000]
 cases Q with
 | nil => unfold f716v0l1s; simp [ownK, ownR]
 | cons q m =>
  unfold f716v0l1s
  have hq := hm q (by simp)
  have hc : decide ((0 : Int) < (((q :: m).length : Nat) : Int)) = true := by simp
  simp only [hc, decide_true, Bool.and_self, cond_true, Int.toNat_zero, List.getD_cons_zero, List.nil_append]
  rw [bif_true (by simp), bif_true (szN (by simp; omega) (by decide)), bif_true (szN (by simp) (by decide))]
  exact lp q m rfl
@[reducible] def MsgT : Ty := .pair (.int .i64) (.pair (.int .i64) (.pair .str (.pair .str (.pair .str (.pair .bool (.pair .bool (.int .i64)))))))
@[reducible] def RowT : Ty := .pair .str (.pair (.int .i64) (.pair .bool (.pair (.int .i64) (.ref MsgT))))
def roK (Q : List Que) : Hep := Q.map fun q => .ro q.2.2.2.2
theorem deepQ : ∀ (Q : List Que) (n : Nat), deepL MsgT RowT Q n = (ownR Q n, roK Q)
 | [], _ => rfl
 | q :: l, n => by
  have h : deepL MsgT RowT (q :: l) n = (rowQ q (n + 1) :: (deepL MsgT RowT l (n + 1)).1, .ro q.2.2.2.2 :: (deepL MsgT RowT l (n + 1)).2) := rfl
  have e := deepQ l (n + 1)
  exact h.trans (congr (congrArg Prod.mk (congrArg (List.cons _) (congrArg Prod.fst e))) (congrArg (List.cons _) (congrArg Prod.snd e)))
theorem f798q {Q : List Que} (hl : Q.length ≤ 1000) : f798F 1000 Q = some Q := by
 unfold f798F cloneF
 rw [bif_true (szN (by omega) (by decide))]
theorem f799q {l : List Msg} (hl : l.length ≤ 1000) : f799F 1000 l = some l := by
 unfold f799F cloneF
 rw [bif_true (szN (by omega) (by decide))]
theorem f754v0q {F : List Dsc} {Q : List Que} (hl : Q.length ≤ 100) (hm : ∀ q ∈ Q, q.2.2.2.2.length ≤ 100) : f754v0F 1000 (F, Q, [], ()) = some (F, roK Q ++ ownK Q, ownR Q Q.length, ()) := by
 have hro : (roK Q).length = Q.length := by simp [roK]
 unfold f754v0F
 simp only [f798q (show Q.length ≤ 1000 by omega), bind_some']
 have hD : ∀ n, deepL MsgT RowT Q n = (ownR Q n, roK Q) := deepQ Q
 simp only [hD, List.length_nil, List.nil_append, ownR_len]
 have rows : ∀ i, i ≤ Q.length → (ownR (Q.take i) Q.length ++ (ownR Q 0).drop i).length = Q.length := by
  intro i hi
  rw [List.length_append, ownR_len, List.length_drop, ownR_len, List.length_take]; omega
 have snoc : ∀ (l : List Que) (n : Nat) (q : Que), ownR (l ++ [q]) n = ownR l n ++ [rowQ q (n + l.length + 1)] := by
  intro l
  induction l with
  | nil => intro n q; simp [ownR]
  | cons x l ih =>
   intro n q
   simp only [List.cons_append, ownR, ih, List.length_cons]
   rw [show n + 1 + l.length + 1 = n + (l.length + 1) + 1 by omega]
 unfold f754v0l0
 have key := iter_for (k := 1000) (R := List Dsc × Hep × List Row × Unit) (Step := fun rec v => f754v0l0s 1000 rec (fun w5 : Hep × List Dsc × List Row × List Dsc × List Row × Unit => some (w5.2.1, w5.1, w5.2.2.1, ())) v) (fun i => ((Q.length : Int), (i : Int), roK Q ++ ownK (Q.take i), F, ownR (Q.take i) Q.length ++ (ownR Q 0).drop i, [], [], ())) Q.length (fin := some (F, roK Q ++ ownK Q, ownR Q Q.length, ())) ?_ ?_ (by omega)
 ·have e0 : roK Q ++ ownK (Q.take 0) = roK Q := by simp [ownK]
  have e1 : ownR (Q.take 0) Q.length ++ (ownR Q 0).drop 0 = ownR Q 0 := by simp [ownR]
  simp only [e0, e1] at key
  exact key
 ·intro rec i hi
  have hx : Q[i]? = some (Q[i]'hi) := List.getElem?_eq_getElem hi
  generalize Q[i]'hi = x at hx
  have hm1 := hm x (List.mem_of_getElem? hx)
  have hr0 : (ownR Q 0)[i]? = some (rowQ x (i + 1)) := by rw [ownR_get, hx]; simp
  have hi0 : i < (ownR Q 0).length := by rw [ownR_len]; exact hi
  have hdr : (ownR Q 0).drop i = rowQ x (i + 1) :: (ownR Q 0).drop (i + 1) := by
   rw [List.drop_eq_getElem_cons hi0, (List.getElem?_eq_some_iff.1 hr0).2]
  have tl : (ownR (Q.take i) Q.length).length = i := by rw [ownR_len, List.length_take]; omega
  have hget : (ownR (Q.take i) Q.length ++ (ownR Q 0).drop i)[i]? = some (rowQ x (i + 1)) := by
   rw [List.getElem?_append_right (by omega), tl, Nat.sub_self, hdr]; rfl
  have hk : kidAt (roK Q ++ ownK (Q.take i)) (i + 1) = .ro x.2.2.2.2 := by
   simp only [kidAt]
   rw [List.getElem?_append_left (by omega)]
   unfold roK
   rw [List.getElem?_map, hx]; rfl
  have hal : kalive (roK Q ++ ownK (Q.take i)) (i + 1) = true := by unfold kalive; rw [hk]
  have hkg : kget (roK Q ++ ownK (Q.take i)) (i + 1) = x.2.2.2.2 := by unfold kget; rw [hk]
  have hlen : (roK Q ++ ownK (Q.take i)).length = Q.length + i := by
   rw [List.length_append, hro]; simp [ownK]; omega
  have htk : Q.take (i + 1) = Q.take i ++ [x] := by rw [List.take_add_one, hx]; rfl
  unfold f754v0l0s
  simp only [ltn hi, nn, cond_true, rows i (by omega), Int.toNat_natCast, getD_of hget, rowQ, hal, hkg, Bool.and_self, f799q (l := x.2.2.2.2) (by omega), bind_some', hlen, wi_succ (i := i) (by omega)]
  congr 1
  rw [htk]
  have e1 : ownK (Q.take i ++ [x]) = ownK (Q.take i) ++ [kidOf x.2.2.2.2] := by simp [ownK]
  have e2 : (ownR (Q.take i) Q.length ++ (ownR Q 0).drop i).set i (x.1, (x.2.1, (x.2.2.1, (x.2.2.2.1, Q.length + i + 1)))) = ownR (Q.take i ++ [x]) Q.length ++ (ownR Q 0).drop (i + 1) := by
   rw [List.set_append_right _ _ (by omega), tl, Nat.sub_self, hdr, List.set_cons_zero, snoc, List.length_take, show min i Q.length = i by omega]
   simp [rowQ]
  rw [e1, e2, List.append_assoc]
 ·intro rec
  unfold f754v0l0s
  rw [bif_false (by simp)]
  rw [List.take_length, List.drop_of_length_le (by rw [ownR_len]; omega), List.append_nil]
theorem own_prog (Q : List Que) : Hp (roK Q ++ ownK Q) (ownR Q Q.length) ∧ qs (roK Q ++ ownK Q) (ownR Q Q.length) = Q := by
 have h := own_hp (roK Q) Q
 have e : (roK Q).length = Q.length := by simp [roK]
 rw [e] at h
 exact h
end Go.Proofs.YthcmomgkfjjajaaGreatDoor
set_option linter.unusedVariables false
set_option linter.unusedSimpArgs false
namespace Go.Proofs.YthcmomgkfjjajaaGreatDoor
open Go.Ab
abbrev Bdy := Int × (ByteArray × (ByteArray × (ByteArray × (Bool × (Bool × Int)))))
def dropI (l : List Msg) (i : Nat) : List Msg := l.take i ++ l.drop (i + 1)
theorem dropI_len {l : List Msg} {i : Nat} (h : i < l.length) : (dropI l i).length = l.length - 1 := by
 unfold dropI
 rw [List.length_append, List.length_take, List.length_drop]; omega
def shut (m : Msg) : Bool := !opn m
def putQ (q : Que) (m : Bdy) : Int × Que :=
 if q.2.2.2.1 = 1000000 then (3, q)
 else if (q.2.2.2.2.length : Int) = q.2.1 then
  if q.2.2.1 = false ∨ ix shut q.2.2.2.2 < 0 then (30, q)
  else (0, (q.1, (q.2.1, (q.2.2.1, (q.2.2.2.1 + 1, dropI q.2.2.2.2 (ix shut q.2.2.2.2).toNat ++ [(q.2.2.2.1, m)])))))
 else (0, (q.1, (q.2.1, (q.2.2.1, (q.2.2.2.1 + 1, q.2.2.2.2 ++ [(q.2.2.2.1, m)])))))
structure Fit (q : Que) : Prop where
 lim : q.2.1 ≤ 12
 len : (q.2.2.2.2.length : Int) ≤ q.2.1
 n1 : 1 ≤ q.2.2.2.1
 n2 : q.2.2.2.1 ≤ 1000000
theorem f802v0q {H : Hep} {id : Nat} {xs : List Msg} {c : Nat} (hk : kidAt H id = .own xs c) (hc : xs.length ≤ c) (hl : xs.length ≤ 1000) {i : Nat} (hi : i < xs.length) :
  ∃ H', f802v0F 1000 (id, (i : Int), ((i + 1 : Nat) : Int), H, ()) = some (H.length + 1, H', ()) ∧ (∃ c', kidAt H' (H.length + 1) = .own (dropI xs i) c' ∧ (dropI xs i).length ≤ c') ∧ (∀ j, j ≠ id → j ≤ H.length → kidAt H' j = kidAt H j) ∧ H'.length = H.length + 1 := by
 have hcap : (xs.length : Int) ≤ ((max c xs.length : Nat) : Int) := by omega
 have hk1 := kapp_new H id i (xs.drop (i + 1))
 rw [kget_of hk, kroom_of hk] at hk1
 have hd := dropI_len hi
 have hk1 : kidAt (kapp H id i (xs.drop (i + 1))) (H.length + 1) = .own (dropI xs i) (max c (i + (xs.drop (i + 1)).length)) := hk1
 have hdl : (xs.drop (i + 1)).length = xs.length - (i + 1) := by simp
 generalize hC : max c (i + (xs.drop (i + 1)).length) = c1 at hk1
 have hc1 : (dropI xs i).length ≤ c1 := by omega
 have hc2 : xs.length ≤ c1 := by omega
 have hk2 := kwrt_at hk1 (dropI xs i).length (List.replicate (xs.length - (dropI xs i).length) (0, (0, (ByteArray.empty, (ByteArray.empty, (ByteArray.empty, (false, (false, 0))))))))
 rw [wrt_end] at hk2
 have sub : Int.toNat ((xs.length : Int) - ((dropI xs i).length : Int)) = xs.length - (dropI xs i).length := by omega
 refine ⟨kwrt (kapp H id i (xs.drop (i + 1))) (H.length + 1) (dropI xs i).length (List.replicate (xs.length - (dropI xs i).length) (0, (0, (ByteArray.empty, (ByteArray.empty, (ByteArray.empty, (false, (false, 0)))))))), ?_, ⟨_, hk2, hc1⟩, ?_, ?_⟩
 ·unfold f802v0F
  simp only [kalive_of hk, kget_of hk, kown_of hk, kcap_of hk, Bool.true_and, cond_true, Int.toNat_natCast, List.take_length, kalive_of hk1, kget_of hk1, kown_of hk1, kcap_of hk1, sub]
  rw [bif_true (by simp; omega), bif_false (by simp; omega), bif_true (sliceB0 (by omega)), bif_true (sliceB (by omega) (by omega)), bif_true (by simp; omega), bif_true (sliceB (by omega) (by omega))]
 ·intro j hj hjl
  rw [kwrt_ne _ (by omega), kapp_old _ _ _ hj hjl]
 ·rw [kwrt_len, kapp_len]
theorem f801q (m : Msg) : f801F 1000 (m.1, (m.2.1, (m.2.2.1, (m.2.2.2.1, (m.2.2.2.2.1, (m.2.2.2.2.2.1, (m.2.2.2.2.2.2.1, m.2.2.2.2.2.2.2))))))) = some (shut m) := by
 unfold f801F shut
 simp only [f784q, bind_some']
theorem f800v2q {H : Hep} {id : Nat} {xs : List Msg} {c : Nat} (hk : kidAt H id = .own xs c) (hl : xs.length < 1000) : f800v2F 1000 (id, H, ()) = some (ix shut xs, H, ()) := by
 unfold f800v2F f800v2l0
 simp only [kalive_of hk, kget_of hk, cond_true]
 refine iter_find xs shut (fun i => (id, (xs.length : Int), (i : Int), H, ())) (fun i => some (i, H, ())) ?_ ?_ hl
 ·intro rec
  unfold f800v2l0s
  simp
 ·intro rec i x hx hi
  unfold f800v2l0s
  simp only [ltn hi, nn, Bool.and_self, cond_true, Int.toNat_natCast, kalive_of hk, kget_of hk, getD_of hx, f801q, bind_some', wi_succ (i := i) (by omega)]
theorem getD_set {α : Type} {l : List α} {j : Nat} (h : j < l.length) (x d : α) : (l.set j x).getD j d = x := by
 rw [List.getD_eq_getElem?_getD, List.getElem?_set_self h]; rfl
theorem f755v0q {F : List Dsc} {H : Hep} {R : List Row} (h : Hp H R) {nm : ByteArray} {j : Nat} {r : Row} (hj : ix (isQ nm) (qs H R) = (j : Int)) (hr : R[j]? = some r) (hl : R.length ≤ 100) (hf : Fit (qOf H r)) (k0 : Int) (m : Bdy) :
  ∃ H' R', f755v0F 1000 (F, nm, k0, m.1, m.2.1, m.2.2.1, m.2.2.2.1, m.2.2.2.2.1, m.2.2.2.2.2.1, m.2.2.2.2.2.2, R, H, ()) = some (if (putQ (qOf H r) m).1 = 0 then r.2.2.2.1 else 0, (putQ (qOf H r) m).1, R', H', ()) ∧
   ((putQ (qOf H r) m).1 = 0 → Hp H' R' ∧ qs H' R' = (qs H R).set j (putQ (qOf H r) m).2) := by
 have hjl : j < R.length := (List.getElem?_eq_some_iff.1 hr).1
 obtain ⟨xs, c, hk, hc⟩ := h.kid hr
 obtain ⟨nm0, lim, wr0, nx, id⟩ := r
 obtain ⟨f1, f2, f3, f4⟩ := hf
 simp only [qOf, kget_of hk] at f1 f2 f3 f4 hk ⊢
 have hxs : xs.length ≤ 12 := by omega
 have hw : IntKind.i64.wrap (nx + 1) = nx + 1 := wi (by omega) (by omega)
 unfold f755v0F
 simp only [h.alive, Bool.and_self, cond_true, qs_map, f752q F (qs H R) nm (by rw [qs_len]; omega), hj, bind_some', nn, ltn hjl, Int.toNat_natCast, getD_of hr, kalive_of hk, kget_of hk]
 unfold putQ
 simp only []
 by_cases h3 : nx = 1000000
 ·rw [if_pos h3, bif_true (by simpa using h3)]
  exact ⟨H, R, rfl, fun e => by cases e⟩
 rw [if_neg h3, bif_false (by simpa using h3)]
 by_cases hfull : (xs.length : Int) = lim
 ·rw [if_pos hfull, bif_true (by simpa using hfull)]
  simp only [f800v2q hk (by omega), bind_some']
  cases wr0 with
  | false => exact ⟨H, R, rfl, fun e => by cases e⟩
  | true =>
   simp only [Bool.not_true, cond_false, Bool.true_eq_false, false_or]
   rcases ix_spec shut xs with ⟨e, _⟩ | ⟨i, x, e, hx, hp, _⟩
   ·rw [e]
    exact ⟨H, R, rfl, fun e => by cases e⟩
   ·have hi : i < xs.length := (List.getElem?_eq_some_iff.1 hx).1
    rw [e]
    obtain ⟨H1, e1, ⟨c1, hk1, hc1⟩, hold1, hlen1⟩ := f802v0q hk hc (by omega) hi
    rw [if_neg (show ¬ ((i : Int) < 0) by omega), bif_false (show decide ((i : Int) < 0) = false by simp)]
    simp only [wi_succ (i := i) (by omega), e1, bind_some', getD_set hjl, List.set_set, List.length_set, hw, kown_of hk1, kget_of hk1, Bool.true_and, Int.toNat_natCast]
    have hd := dropI_len hi
    rw [bif_true (szN (by simp; omega) (by decide))]
    have hk2 := kapp_new H1 (H.length + 1) (dropI xs i).length [(nx, m)]
    rw [kget_of hk1, kroom_of hk1, List.take_length] at hk2
    refine ⟨_, _, rfl, fun _ => ?_⟩
    have U := h.upd (H' := kapp H1 (H.length + 1) (dropI xs i).length [(nx, m)]) hr (nm0, (lim, (true, (nx + 1, H1.length + 1)))) ⟨_, _, hk2, by simp; omega⟩ (.inr (by simp only; omega)) (fun a ha hal => by
     rw [kapp_old _ _ _ (by omega) (by omega)]
     exact hold1 a ha hal)
    refine ⟨U.1, U.2.trans ?_⟩
    simp only [qOf, kget_of hk2]
 ·rw [if_neg hfull, bif_false (by simpa using hfull)]
  simp only [getD_set hjl, List.set_set, List.length_set, hw, kown_of hk, kget_of hk, Bool.true_and]
  rw [bif_true (szN (by simp; omega) (by decide))]
  have hk2 := kapp_new H id xs.length [(nx, m)]
  rw [kget_of hk, kroom_of hk, List.take_length] at hk2
  refine ⟨_, _, rfl, fun _ => ?_⟩
  have U := h.upd (H' := kapp H id xs.length [(nx, m)]) hr (nm0, (lim, (wr0, (nx + 1, H.length + 1)))) ⟨_, _, hk2, by simp; omega⟩ (.inr (by simp only; omega)) (fun a ha hal => kapp_old _ _ _ ha hal)
  refine ⟨U.1, U.2.trans ?_⟩
  simp only [qOf, kget_of hk2]
end Go.Proofs.YthcmomgkfjjajaaGreatDoor
set_option linter.unusedVariables false
set_option linter.unusedSimpArgs false
namespace Go.Proofs.YthcmomgkfjjajaaGreatDoor
open Go.Ab
theorem f757v0l1q {R0 : Type} (K0 : Int × Int × Hep × Int × Int × ByteArray × ByteArray × ByteArray × Bool × Bool × Int × ByteArray × Int × Bool × Int × Nat × List Dsc × List Row × List Dsc × List Row × Unit → Option R0) (j : Int) {G : Hep} (k0 : Int) (m : Bdy) (nm0 : ByteArray) (lim : Int) (wr0 : Bool) (nx : Int) {id : Nat} (F : List Dsc) (R : List Row) {xs : List Msg} {c0 : Nat} (hk : kidAt G id = .own xs c0) (hxs : xs.length ≤ 12) :
  f757v0l1 1000 K0 (j, (-1 : Int), 0, G, k0, m.1, m.2.1, m.2.2.1, m.2.2.2.1, m.2.2.2.2.1, m.2.2.2.2.2.1, m.2.2.2.2.2.2, nm0, lim, wr0, nx, id, [], [], F, R, ()) =
  K0 (j, ix shut xs, G, k0, m.1, m.2.1, m.2.2.1, m.2.2.2.1, m.2.2.2.2.1, m.2.2.2.2.2.1, m.2.2.2.2.2.2, nm0, lim, wr0, nx, id, [], [], F, R, ()) := by
 unfold f757v0l1
 refine iter_list (k := 1000) (A := Int × Nat) xs (fun i a => (j, a.1, (i : Int), G, k0, m.1, m.2.1, m.2.2.1, m.2.2.2.1, m.2.2.2.2.1, m.2.2.2.2.2.1, m.2.2.2.2.2.2, nm0, lim, wr0, nx, id, [], [], F, R, ())) (fun l a => K0 (j, (if a.1 = -1 then ixF shut a.2 l else a.1), G, k0, m.1, m.2.1, m.2.2.1, m.2.2.2.1, m.2.2.2.2.1, m.2.2.2.2.2.1, m.2.2.2.2.2.2, nm0, lim, wr0, nx, id, [], [], F, R, ())) (fun i a => a.2 = i ∧ (a.1 = -1 ∨ 0 ≤ a.1)) ?_ ?_ (by omega) (-1, 0) ⟨rfl, .inl rfl⟩
 ·intro rec a ha
  unfold f757v0l1s
  simp only [kalive_of hk, kget_of hk, cond_true]
  rw [bif_false (by simp)]
  obtain ⟨b, c⟩ := a
  by_cases e : b = -1
  ·simp [e, ixF]
  ·simp [e]
 ·intro rec i a x hx hi ha
  obtain ⟨b, c⟩ := a
  obtain ⟨ha1, ha2⟩ := ha
  simp only at ha1 ha2
  subst ha1
  unfold f757v0l1s f757v0p0
  simp only [kalive_of hk, kget_of hk, cond_true, ltn hi, nn, Bool.and_self, Int.toNat_natCast, getD_of hx, wi_succ (i := c) (by omega)]
  by_cases e : b = -1
  ·refine .inl ⟨(if shut x = true then (c : Int) else -1, c + 1), ⟨rfl, by split <;> simp⟩, ?_, ?_⟩
   ·rw [bif_true (by simpa using e)]
    subst e
    unfold shut opn
    by_cases h1 : x.2.1 = 1
    ·rw [bif_false (by simpa using h1)]
     cases h6 : x.2.2.2.2.2.2.1 with
     | true => simp [h1, h6]
     | false => simp [h1, h6]
    ·rw [bif_true (bne_iff_ne.2 h1)]
     simp [h1]
   ·simp only [e, if_true]
    congr 1
    congr 1
    congr 1
    rw [show ixF shut c (x :: xs.drop (c + 1)) = bif shut x then (c : Int) else ixF shut (c + 1) (xs.drop (c + 1)) from rfl]
    cases shut x with
    | true => simp only [cond_true, if_true]; rw [if_neg (by omega)]
    | false => simp
  ·exact .inr (by rw [bif_false (by simpa using e), if_neg e])
set_option maxHeartbeats 8000000 in
theorem f757v0q {F : List Dsc} {Q : List Que} (H : Hep) (hF : FewF F) (hl : Q.length ≤ 100) (hm : ∀ q ∈ Q, q.2.2.2.2.length ≤ 100) {j : Nat} {q : Que} (hq : Q[j]? = some q) (hf : Fit q) (k0 : Int) (m : Bdy) :
  ∃ H' F' R', f757v0F 1000 (F, Q, (j : Int), k0, m.1, m.2.1, m.2.2.1, m.2.2.2.1, m.2.2.2.2.1, m.2.2.2.2.2.1, m.2.2.2.2.2.2, H, ()) = some (if (putQ q m).1 = 0 then q.2.2.2.1 else 0, (putQ q m).1, H', F', R', ()) ∧
   ((putQ q m).1 = 0 → F' = F ∧ Hp H' R' ∧ qs H' R' = Q.set j (putQ q m).2) ∧ ((putQ q m).1 ≠ 0 → F' = [] ∧ R' = []) := by
 have hjl : j < Q.length := (List.getElem?_eq_some_iff.1 hq).1
 obtain ⟨hp, hqs⟩ := own_hp H Q
 have hr : (ownR Q H.length)[j]? = some (rowQ q (H.length + j + 1)) := by rw [ownR_get, hq]; rfl
 have hk := ownK_at (H := H) hq
 have hjr : j < (ownR Q H.length).length := by rw [ownR_len]; exact hjl
 obtain ⟨nm0, lim, wr0, nx, xs⟩ := q
 obtain ⟨f1, f2, f3, f4⟩ := hf
 simp only [rowQ] at f1 f2 f3 f4 hk hr ⊢
 have hxs : xs.length ≤ 12 := by omega
 have hw : IntKind.i64.wrap (nx + 1) = nx + 1 := wi (by omega) (by omega)
 unfold f757v0F
 simp only [f716v0q H hF hl hm, bind_some', inb hjr, cond_true, Int.toNat_natCast, getD_of hr]
 generalize hG : H ++ ownK Q = G at hk hp hqs
 generalize hRR : ownR Q H.length = R at hr hjr hp hqs
 generalize hid : H.length + j + 1 = id at hk hr
 unfold putQ
 simp only []
 by_cases h3 : nx = 1000000
 ·rw [if_pos h3, bif_true (by simp; omega)]
  exact ⟨_, _, _, rfl, fun e => (by cases e), fun _ => ⟨rfl, rfl⟩⟩
 rw [if_neg h3, bif_false (by simp; omega)]
 unfold f757v0p2
 simp only [kalive_of hk, cond_true, kget_of hk]
 by_cases hfull : (xs.length : Int) = lim
 ·rw [if_pos hfull, bif_true (by simp; omega)]
  rw [f757v0l1q _ _ _ _ _ _ _ _ _ _ hk hxs]
  simp only []
  cases wr0 with
  | false => exact ⟨_, _, _, rfl, fun e => (by cases e), fun _ => ⟨rfl, rfl⟩⟩
  | true =>
   simp only [Bool.not_true, cond_false, Bool.true_eq_false, false_or]
   rcases ix_spec shut xs with ⟨e, _⟩ | ⟨i, x, e, hx, hsh, _⟩
   ·rw [e]
    exact ⟨_, _, _, rfl, fun e => (by cases e), fun _ => ⟨rfl, rfl⟩⟩
   ·have hi : i < xs.length := (List.getElem?_eq_some_iff.1 hx).1
    have hcap : (xs.length : Int) ≤ ((max xs.length xs.length : Nat) : Int) := by omega
    have hk1 := kapp_new G id i (xs.drop (i + 1))
    rw [kget_of hk, kroom_of hk] at hk1
    have hk1 : kidAt (kapp G id i (xs.drop (i + 1))) (G.length + 1) = .own (dropI xs i) (max xs.length (i + (xs.drop (i + 1)).length)) := hk1
    have hd := dropI_len hi
    have hdl : (xs.drop (i + 1)).length = xs.length - (i + 1) := by simp
    rw [e, if_neg (show ¬ ((i : Int) < 0) by omega), bif_false (by simp)]
    simp only [wi_succ (i := i) (by omega), kalive_of hk, kown_of hk, kcap_of hk, kget_of hk, Bool.true_and, Bool.and_true, Int.toNat_natCast, List.take_length]
    rw [bif_true (sliceB0 (by omega)), bif_true (sliceB (by omega) (by omega)), bif_true (by simp; omega)]
    simp only [kown_of hk1, kget_of hk1, Bool.true_and]
    rw [bif_true (szN (by simp; omega) (by decide)), bif_true (inb hjr)]
    have hk2 := kapp_new (kapp G id i (xs.drop (i + 1))) (G.length + 1) (dropI xs i).length [(nx, m)]
    rw [kget_of hk1, kroom_of hk1, List.take_length] at hk2
    have hlen1 := kapp_len G id i (xs.drop (i + 1))
    rw [hlen1] at hk2
    have U := hp.upd (H' := kapp (kapp G id i (xs.drop (i + 1))) (G.length + 1) (dropI xs i).length [(nx, m)]) hr (nm0, (lim, (true, (nx + 1, G.length + 1 + 1)))) ⟨_, _, hk2, by simp; omega⟩ (.inr (by simp only; omega)) (fun a ha hal => by
     rw [kapp_old _ _ _ (by omega) (by omega), kapp_old _ _ _ ha hal])
    simp only [hlen1, hw]
    refine ⟨_, _, _, rfl, fun _ => ⟨rfl, U.1, U.2.trans ?_⟩, fun e => absurd rfl e⟩
    rw [hqs]
    simp only [qOf, kget_of hk2]
 ·rw [if_neg hfull, bif_false (by simp; omega)]
  simp only [kown_of hk, kget_of hk, Bool.true_and]
  rw [bif_true (szN (by simp; omega) (by decide)), bif_true (inb hjr)]
  have hk2 := kapp_new G id xs.length [(nx, m)]
  rw [kget_of hk, kroom_of hk, List.take_length] at hk2
  have U := hp.upd (H' := kapp G id xs.length [(nx, m)]) hr (nm0, (lim, (wr0, (nx + 1, G.length + 1)))) ⟨_, _, hk2, by simp⟩ (.inr (by simp only; omega)) (fun a ha hal => kapp_old _ _ _ ha hal)
  simp only [hw, Int.toNat_natCast]
  refine ⟨_, _, _, rfl, fun _ => ⟨rfl, U.1, U.2.trans ?_⟩, fun e => absurd rfl e⟩
  rw [hqs]
  simp only [qOf, kget_of hk2]
def txL (l : List UInt8) : Bool := (ints l).all shc
theorem isTx_S (l : List UInt8) : isTx (S l) = txL l := by unfold isTx txL; rw [S_bytes]
theorem txL_of (s : ByteArray) : txL s.data.toList = isTx s := rfl
theorem txL_app (l m : List UInt8) : txL (l ++ m) = (txL l && txL m) := by unfold txL; rw [ints_app, List.all_append]
theorem txL_cons (x : UInt8) (l : List UInt8) : txL (x :: l) = (shc (x.toNat : Int) && txL l) := rfl
theorem sub_tx {fl : List ByteArray} (hs : ∀ s ∈ fl, isTx s = true) : ∀ (n : Nat) (l : List UInt8), l.length ≤ n → txL l = true → txL (subL fl l) = true
 | 0, [], _, _ => rfl
 | 0, _ :: _, h, _ => by simp at h
 | n + 1, [], _, _ => rfl
 | n + 1, [c], _, h => h
 | n + 1, c :: d :: r, hn, h => by
  have hr : r.length + 1 ≤ n := by simpa using hn
  rw [subL]
  rw [txL_cons, Bool.and_eq_true] at h
  have h2 := h.2
  rw [txL_cons, Bool.and_eq_true] at h2
  split
  ·rename_i hc
   rw [txL_app, Bool.and_eq_true]
   refine ⟨?_, sub_tx hs n r (by omega) h2.2⟩
   have hj : d.toNat - 49 < fl.length := by omega
   have e := List.getElem?_eq_getElem hj
   rw [getD_of e, txL_of]
   exact hs _ (List.mem_of_getElem? e)
  ·rw [txL_cons, Bool.and_eq_true]
   exact ⟨h.1, sub_tx hs n (d :: r) (by simpa using hr) h.2⟩
theorem isTx_app' (a b : ByteArray) : isTx (a ++ b) = (isTx a && isTx b) := by
 have e : (a ++ b).data.toList = a.data.toList ++ b.data.toList := by simp
 rw [← txL_of, e, txL_app]; rfl
theorem txL_mem {l m : List UInt8} (h : txL l = true) (hs : ∀ x ∈ m, x ∈ l) : txL m = true := by
 unfold txL ints at *
 rw [List.all_eq_true] at *
 intro x hx
 obtain ⟨b, hb, rfl⟩ := List.mem_map.1 hx
 exact h _ (List.mem_map.2 ⟨b, hs b hb, rfl⟩)
theorem isTx_cut {s : ByteArray} (h : isTx s = true) (i j : Nat) : isTx (s.extract i j) = true := by
 rw [← txL_of] at h ⊢
 rw [Lib.extract_data]
 exact txL_mem h (fun x hx => List.mem_of_mem_drop (List.mem_of_mem_take hx))
theorem nums_tx {xs : List Int} (h : ∀ x ∈ xs, 32 ≤ x ∧ x ≤ 126) : isTx (strOfNums xs) = true := by
 rw [S_nums, isTx_S]
 unfold txL ints
 rw [List.all_eq_true]
 intro y hy
 obtain ⟨b, hb, rfl⟩ := List.mem_map.1 hy
 obtain ⟨x, hx, rfl⟩ := List.mem_map.1 hb
 obtain ⟨h1, h2⟩ := h x hx
 have e : (UInt8.ofNat x.toNat).toNat = x.toNat := by rw [UInt8.toNat_ofNat']; omega
 rw [e]
 unfold shc
 rw [decide_eq_true (by omega), decide_eq_true (by omega)]; rfl
theorem dec_tx : ∀ (n u : Nat), u ≤ n → txL (Lib.decDigits u) = true := by
 intro n
 induction n with
 | zero =>
  intro u hu
  obtain rfl : u = 0 := by omega
  rw [Lib.decDigits, dif_pos (by omega)]; rfl
 | succ n ih =>
  intro u hu
  have one : ∀ d : Nat, d < 10 → txL [UInt8.ofNat (48 + d)] = true := by
   intro d hd
   rw [txL_cons]
   have e : (UInt8.ofNat (48 + d)).toNat = 48 + d := by rw [UInt8.toNat_ofNat']; omega
   rw [e]
   unfold shc
   rw [decide_eq_true (by omega), decide_eq_true (by omega)]; rfl
  by_cases h : u < 10
  ·rw [Lib.decDigits, dif_pos h]; exact one u h
  ·rw [Lib.decDigits, dif_neg h, txL_app, ih (u / 10) (by omega), one (u % 10) (by omega)]; rfl
theorem txt_tx (n : Int) (sc : Nat) : isTx (txtS n sc) = true := by
 have hd : isTx (decS n.natAbs) = true := by
  rw [← txL_of, decS_list]; exact dec_tx _ _ (Nat.le_refl _)
 have hp : isTx (padS (decS n.natAbs) sc) = true := by
  unfold padS
  rw [isTx_app', hd, Bool.and_true]
  unfold copies
  refine nums_tx fun x hx => ?_
  rw [(List.mem_replicate.1 hx).2]; decide
 have ht : isTx (ptS (padS (decS n.natAbs) sc) sc) = true := by
  unfold ptS
  split
  ·rw [isTx_app', isTx_app', isTx_cut hp, isTx_cut hp]; rfl
  ·exact hp
 unfold txtS
 split
 ·rw [isTx_app', ht]; rfl
 ·exact ht
theorem fT_tx (t : Typ) (s : ByteArray) : isTx (fT t s) = true := by
 unfold fT
 split
 ·unfold chrT
  refine nums_tx fun x hx => ?_
  obtain ⟨c, _, rfl⟩ := List.mem_map.1 hx
  unfold cl
  split <;> omega
 ·split
  ·rfl
  ·exact txt_tx _ _
theorem fls_tx (l : List Typ) (data : ByteArray) : ∀ s ∈ fls l data, isTx s = true := by
 intro s hs
 obtain ⟨i, _, rfl⟩ := List.mem_map.1 hs
 unfold fTx
 split
 ·rfl
 ·exact fT_tx _ _
theorem subT_tx {d : Dsc} {data s : ByteArray} (h : isTx s = true) : isTx (subT d data s) = true := by
 unfold subT
 rw [isTx_S]
 exact sub_tx (fls_tx _ _) _ _ (Nat.le_refl _) (by rw [txL_of]; exact h)
end Go.Proofs.YthcmomgkfjjajaaGreatDoor
set_option linter.unusedVariables false
set_option linter.unusedSimpArgs false
namespace Go.Proofs.YthcmomgkfjjajaaGreatDoor
open Go.Ab
theorem runQ_right : ∀ (Q : List Que) (l : List Que) (p : Option ByteArray) (i : Nat), (runQ Q p i l).2 = 0 → ∀ q ∈ l, queE Q q = 0 ∧ isNm q.1 = true
 | _, [], _, _, _, _, h => by cases h
 | Q, x :: l, p, i, h, d, hd => by
  unfold runQ at h
  by_cases hz : qE Q p x ≠ 0
  ·rw [if_pos hz] at h; exact absurd h hz
  ·rw [if_neg hz] at h
   rcases List.mem_cons.1 hd with e | hd
   ·subst e
    simp only [ne_eq, Decidable.not_not] at hz
    unfold qE at hz
    cases hI : isNm d.1 with
    | false => rw [hI] at hz; simp at hz
    | true =>
     rw [hI] at hz
     refine ⟨?_, rfl⟩
     cases p with
     | none => simpa using hz
     | some q =>
      cases hq : strLt q d.1 with
      | false => simp [hq] at hz
      | true => simpa [hq] using hz
   ·exact runQ_right Q l _ _ h d hd
structure RightQ (Q : List Que) (q : Que) : Prop where
 nm : isNm q.1 = true
 l0 : 1 ≤ q.2.1
 l1 : q.2.1 ≤ 12
 n1 : 1 ≤ q.2.2.2.1
 n2 : q.2.2.2.1 ≤ 1000000
 len : (q.2.2.2.2.length : Int) ≤ q.2.1
 msgs : runM Q q.2.2.2.1 0 q.2.2.2.2 = 0
theorem RightQ.fit {Q : List Que} {q : Que} (h : RightQ Q q) : Fit q := ⟨h.l1, h.len, h.n1, h.n2⟩
theorem que_right {Q : List Que} {q : Que} (hn : isNm q.1 = true) (h : queE Q q = 0) : RightQ Q q := by
 unfold queE at h
 split at h
 ·cases h
 ·rename_i h1
  split at h
  ·cases h
  ·rename_i h2
   simp only [Bool.or_eq_true, Bool.not_eq_true', Bool.and_eq_false_iff, decide_eq_false_iff_not, not_or, Decidable.not_not] at h1
   exact ⟨hn, h1.1.1, h1.1.2, h1.2.1, h1.2.2, by omega, h⟩
structure RightS (s : Sys) : Prop where
 file : FewF s.1
 fe : (filE s.1).2 = 0
 len : s.2.length ≤ 6
 each : ∀ q ∈ s.2, RightQ s.2 q
theorem sys_right {s : Sys} (hF : FewF s.1) (h : (sysE s).2 = 0) : RightS s := by
 unfold sysE at h
 split at h
 ·rename_i h1; exact absurd h h1
 ·rename_i h1
  split at h
  ·cases h
  ·rename_i h2
   exact ⟨hF, by simpa using h1, by omega, fun q hq => (runQ_right _ _ _ _ h q hq).elim fun a b => que_right b a⟩
theorem RightS.msgs {s : Sys} (h : RightS s) : ∀ q ∈ s.2, q.2.2.2.2.length ≤ 100 := by
 intro q hq
 have := (h.each q hq).len
 have := (h.each q hq).l1
 omega
theorem f758q (l : List ByteArray) (hl : l.length < 1000) : f758F 1000 (l, l) = some true := by
 unfold f758F
 rw [bif_false (by simp)]
 unfold f758l0
 refine iter_list (k := 1000) (R := Bool) (A := Unit) l (fun i _ => (l, l, (i : Int), ())) (fun _ _ => some true) (fun _ _ => True) ?_ ?_ hl () trivial
 ·intro rec _ _
  unfold f758l0s
  simp
 ·intro rec i _ x hx hi _
  refine .inl ⟨(), trivial, ?_, rfl⟩
  unfold f758l0s
  simp only [ltn hi, nn, Bool.and_self, cond_true, Int.toNat_natCast, strEq_self, Bool.not_true, cond_false, wi_succ (i := i) (by omega)]
theorem f759q (q : Que) (hl : q.2.2.2.2.length < 1000) : f759F 1000 ((q.1, (q.2.1, (q.2.2.1, (q.2.2.2.1, q.2.2.2.2)))), (q.1, (q.2.1, (q.2.2.1, (q.2.2.2.1, q.2.2.2.2))))) = some true := by
 obtain ⟨nm, lim, wr0, nx, l⟩ := q
 simp only at hl
 unfold f759F
 simp only [strEq_self, Bool.not_true, cond_false, bne_self_eq_false, beq_self_eq_true]
 unfold f759l0
 refine iter_list (k := 1000) (R := Bool) (A := Unit) l (fun i _ => ((i : Int), nm, lim, wr0, nx, l, nm, lim, wr0, nx, l, ())) (fun _ _ => some true) (fun _ _ => True) ?_ ?_ hl () trivial
 ·intro rec _ _
  unfold f759l0s
  simp
 ·intro rec i _ x hx hi _
  refine .inl ⟨(), trivial, ?_, rfl⟩
  unfold f759l0s
  simp only [ltn hi, nn, Bool.and_self, cond_true, Int.toNat_natCast, strEq_self, beq_self_eq_true, Bool.not_true, cond_false, wi_succ (i := i) (by omega)]
theorem f718l0q {R0 : Type} (k0 : Bool × Int × List Dsc × List Que × List Dsc × List Que × Unit → Option R0) (k1 : Int × List Dsc × List Que × List Dsc × List Que × Unit → Option R0) (i0 : Int) (F1 F2 : List Dsc) (Q1 Q2 : List Que) (a1 : ByteArray) (a2 : Int) (a3 a4 : ByteArray) (l : List Typ) (a6 : ByteArray) (a7 : List ByteArray) (b1 : ByteArray) (b2 : Int) (b3 b4 : ByteArray) (b6 : ByteArray) (b7 : List ByteArray) (hl : l.length < 1000) :
  f718l0 1000 k0 k1 (i0, 0, F1, Q1, F2, Q2, a1, a2, a3, a4, l, a6, a7, b1, b2, b3, b4, l, b6, b7, ()) = k1 (i0, F1, Q1, F2, Q2, ()) := by
 unfold f718l0
 refine iter_list (k := 1000) (A := Unit) l (fun i _ => (i0, (i : Int), F1, Q1, F2, Q2, a1, a2, a3, a4, l, a6, a7, b1, b2, b3, b4, l, b6, b7, ())) (fun _ _ => k1 (i0, F1, Q1, F2, Q2, ())) (fun _ _ => True) ?_ ?_ hl () trivial
 ·intro rec _ _
  unfold f718l0s
  simp
 ·intro rec i _ x hx hi _
  refine .inl ⟨(), trivial, ?_, rfl⟩
  unfold f718l0s
  simp only [ltn hi, nn, Bool.and_self, cond_true, Int.toNat_natCast, beq_self_eq_true, Bool.not_true, cond_false, wi_succ (i := i) (by omega)]
theorem f718q (s : Sys) (hF : FewF s.1) (hl : s.2.length < 1000) (hm : ∀ q ∈ s.2, q.2.2.2.2.length ≤ 100) : f718F 1000 ((s.1, s.2), (s.1, s.2)) = some true := by
 obtain ⟨F, Q⟩ := s
 simp only at hF hl hm
 unfold f718F
 simp only [bne_self_eq_false, cond_false]
 have l2 : f718l2 1000 (fun w14 : Bool × Unit => some w14.1) (fun w15 : Unit => some true) (0, F, Q, F, Q, ()) = some true := by
  unfold f718l2
  refine iter_list (k := 1000) (R := Bool) (A := Unit) Q (fun i _ => ((i : Int), F, Q, F, Q, ())) (fun _ _ => some true) (fun _ _ => True) ?_ ?_ hl () trivial
  ·intro rec _ _
   unfold f718l2s
   simp
  ·intro rec i _ x hx hi _
   refine .inl ⟨(), trivial, ?_, rfl⟩
   unfold f718l2s
   have := hm x (List.mem_of_getElem? hx)
   simp only [ltn hi, nn, Bool.and_self, cond_true, Int.toNat_natCast, getD_of hx, f759q x (by omega), bind_some', Bool.not_true, cond_false, wi_succ (i := i) (by omega)]
 unfold f718l1
 have hFl := hF.len
 refine iter_list (k := 1000) (R := Bool) (A := Unit) F (fun i _ => ((i : Int), F, Q, F, Q, ())) (fun _ _ => some true) (fun _ _ => True) ?_ ?_ (by omega) () trivial
 ·intro rec _ _
  unfold f718l1s
  rw [bif_false (by simp)]
  exact l2
 ·intro rec i _ x hx hi _
  refine .inl ⟨(), trivial, ?_, rfl⟩
  unfold f718l1s
  obtain ⟨g1, g2, g3, g4, g5, g6⟩ := hF.each x (List.mem_of_getElem? hx)
  simp only [ltn hi, nn, Bool.and_self, cond_true, Int.toNat_natCast, getD_of hx, strEq_self, bne_self_eq_false, f758q x.2.2.2.2.2.2 (by omega), bind_some', Bool.not_true, cond_false]
  rw [f718l0q _ _ _ _ _ _ _ _ _ _ _ _ _ _ _ _ _ _ _ _ (by omega)]
  simp only [wi_succ (i := i) (show i < 9223372036854775807 by omega)]
theorem few_nil : FewF [] := ⟨by simp, fun x h => by cases h⟩
end Go.Proofs.YthcmomgkfjjajaaGreatDoor
set_option linter.unusedVariables false
set_option linter.unusedSimpArgs false
namespace Go.Proofs.YthcmomgkfjjajaaGreatDoor
open Go.Ab
abbrev Snd := ByteArray × (ByteArray × (ByteArray × (ByteArray × (ByteArray × Bool))))
def dD : Dsc := (ByteArray.empty, (0, (ByteArray.empty, (ByteArray.empty, ([], (ByteArray.empty, []))))))
def dQ : Que := (ByteArray.empty, (0, (false, (0, []))))
noncomputable def textE (s : Sys) (x : Snd) : ByteArray × Int :=
 if (strEq x.2.2.1 ByteArray.empty && strEq x.2.2.2.2.1 ByteArray.empty) = true then (ByteArray.empty, 1)
 else if ((!strEq x.2.2.1 ByteArray.empty && !strEq x.2.2.2.2.1 ByteArray.empty) || (strEq x.2.2.1 ByteArray.empty && !strEq x.2.2.2.1 ByteArray.empty)) = true then (ByteArray.empty, 5)
 else if strEq x.2.2.1 ByteArray.empty = true then (x.2.2.2.2.1, txE x.2.2.2.2.1 256)
 else if ix (isD x.2.2.1) s.1 < 0 then (ByteArray.empty, 11)
 else ((txs (s.1.getD (ix (isD x.2.2.1) s.1).toNat dD) x.2.2.2.1).1, if (txs (s.1.getD (ix (isD x.2.2.1) s.1).toNat dD) x.2.2.2.1).2.2 ≠ 0 then (txs (s.1.getD (ix (isD x.2.2.1) s.1).toNat dD) x.2.2.2.1).2.2 else if strEq (txs (s.1.getD (ix (isD x.2.2.1) s.1).toNat dD) x.2.2.2.1).1 ByteArray.empty = true then 1 else 0)
theorem desc_get {s : Sys} (h : RightS s) {id : ByteArray} (hi : ¬ ix (isD id) s.1 < 0) : ∃ (j : Nat) (d : Dsc), ix (isD id) s.1 = (j : Int) ∧ s.1[j]? = some d ∧ j < s.1.length ∧ RightD d ∧ FewD d ∧ (filE [d]).2 = 0 := by
 rcases ix_spec (isD id) s.1 with ⟨e, _⟩ | ⟨j, d, e, hd, _, _⟩
 ·omega
 ·have hm := List.mem_of_getElem? hd
  have hr := file_right h.fe d hm
  refine ⟨j, d, e, hd, (List.getElem?_eq_some_iff.1 hd).1, dsc_right hr.1, h.file.each d hm, ?_⟩
  unfold filE runD runD dE
  simp [hr.1, hr.2]
theorem f753q {s : Sys} (h : RightS s) {x : Snd} (h1 : x.2.2.2.1.size ≤ 600) (h2 : x.2.2.2.2.1.size < 1000) : f753F 1000 ((s.1, s.2), (x.1, (x.2.1, (x.2.2.1, (x.2.2.2.1, (x.2.2.2.2.1, x.2.2.2.2.2)))))) = some (textE s x) := by
 have hl := h.file.len
 obtain ⟨fr, tw, id, data, text, inq⟩ := x
 unfold f753F f753p0 textE
 simp only at h1 h2 ⊢
 have two : ∀ a b : Int, f760F 1000 [a, b] = some (if a ≠ 0 then a else b) := fun a b => by rw [f760q _ (by simp), fst0_2]
 cases e1 : strEq id ByteArray.empty with
 | true =>
  cases e2 : strEq text ByteArray.empty with
  | true => cases e3 : strEq data ByteArray.empty <;> simp [f761q, two]
  | false =>
   cases e3 : strEq data ByteArray.empty with
   | false => simp [f761q, two]
   | true => simp [f761q, two, f797q text 256 h2]
 | false =>
  cases e2 : strEq text ByteArray.empty with
  | false => simp [f761q, two]
  | true =>
   simp only [f761q, two, bind_some', Bool.not_false, Bool.not_true, cond_true, cond_false, Bool.false_and, Bool.and_false, Bool.false_or, Bool.or_false, Bool.false_eq_true, if_false, f790q s.1 id (by omega), ne_eq, not_true_eq_false, bne_self_eq_false]
   by_cases hi : ix (isD id) s.1 < 0
   ·rw [if_pos hi, bif_true (by simpa using hi)]
   ·obtain ⟨j, d, e, hd, hj, hR, hF, _⟩ := desc_get h hi
    rw [if_neg hi, bif_false (by simpa using hi), e, bif_true (inb hj)]
    simp only [Int.toNat_natCast, getD_of hd, f779q hR h1, bind_some']
    congr 2
    cases strEq (txs d data).1 ByteArray.empty <;> rfl
theorem f715p0q {R0 : Type} (k0 : Int × Int × List Dsc × List Que × ByteArray × ByteArray × ByteArray × ByteArray × ByteArray × Bool × Hep × Unit → Option R0) (k1 : List Dsc × List Que × ByteArray × ByteArray × ByteArray × ByteArray × ByteArray × Bool × List Dsc × List Row × Hep × Unit → Option R0)
  (F : List Dsc) (Q : List Que) (fr tw id data text : ByteArray) (inq : Bool) (F1 : List Dsc) (R1 : List Row) (H : Hep) (hl : Q.length < 1000) :
  f715p0 1000 k0 k1 (F, Q, fr, tw, id, data, text, inq, F1, R1, H, ()) = if (!strEq fr ByteArray.empty || inq) = true ∧ ix (isQ fr) Q < 0 then k0 (0, 11, F, Q, fr, tw, id, data, text, inq, H, ()) else k1 (F, Q, fr, tw, id, data, text, inq, F1, R1, H, ()) := by
 unfold f715p0
 simp only [f752q F Q fr hl, bind_some']
 by_cases hi : ix (isQ fr) Q < 0
 ·cases strEq fr ByteArray.empty <;> cases inq <;> simp [hi]
 ·cases strEq fr ByteArray.empty <;> cases inq <;> simp [hi]
def bdy (x : Snd) (t : ByteArray) : Bdy := ((if x.2.2.2.2.2 = true then 1 else 0), (x.2.2.1, (t, (x.1, (false, (false, 0))))))
def queI (s : Sys) (nm : ByteArray) : Nat := (ix (isQ nm) s.2).toNat
def queS (s : Sys) (nm : ByteArray) : Que := s.2.getD (queI s nm) dQ
noncomputable def sentE (s : Sys) (x : Snd) : Sys × Int × Int :=
 if qErr s x.2.1 ≠ 0 then (([], []), 0, qErr s x.2.1)
 else if (!strEq x.1 ByteArray.empty || x.2.2.2.2.2) = true ∧ ix (isQ x.1) s.2 < 0 then (([], []), 0, 11)
 else if (textE s x).2 ≠ 0 then (([], []), 0, (textE s x).2)
 else if (putQ (queS s x.2.1) (bdy x (textE s x).1)).1 ≠ 0 then (([], []), 0, (putQ (queS s x.2.1) (bdy x (textE s x).1)).1)
 else ((s.1, s.2.set (queI s x.2.1) (putQ (queS s x.2.1) (bdy x (textE s x).1)).2), (queS s x.2.1).2.2.2.1, 0)
theorem que_get {s : Sys} (hF : Few s) {nm : ByteArray} (h : qErr s nm = 0) : RightS s ∧ ∃ q, s.2[queI s nm]? = some q ∧ queS s nm = q ∧ ix (isQ nm) s.2 = (queI s nm : Int) ∧ q.1 = nm := by
 unfold qErr at h
 split at h
 ·rename_i h1; exact absurd h h1
 ·rename_i h1
  split at h
  ·cases h
  ·rename_i h2
   have hR := sys_right hF.file (by simpa using h1)
   obtain ⟨j, q, e, hq, hj, hn⟩ := ix_get (isQ nm) s.2 (by simpa using h2)
   have hi : queI s nm = j := by unfold queI; rw [e]; rfl
   refine ⟨hR, q, by rw [hi]; exact hq, ?_, by rw [hi]; exact e, strEq_iff.1 hn⟩
   unfold queS
   rw [hi, getD_of hq]
theorem f715q {s : Sys} (hF : Few s) {x : Snd} (h1 : x.2.2.2.1.size ≤ 600) (h2 : x.2.2.2.2.1.size < 1000) : f715F 1000 ((s.1, s.2), (x.1, (x.2.1, (x.2.2.1, (x.2.2.2.1, (x.2.2.2.2.1, x.2.2.2.2.2)))))) = some (sentE s x) := by
 have hl := hF.len
 unfold f715F sentE
 simp only [f751one hF, bind_some']
 by_cases hz : qErr s x.2.1 = 0
 ·obtain ⟨hR, q, hq, hqs, hqi, hqn⟩ := que_get hF hz
  rw [bif_false (by simpa using hz), if_neg (by simpa using hz), f715p0q _ _ _ _ _ _ _ _ _ _ _ _ _ (by omega)]
  by_cases hc : (!strEq x.1 ByteArray.empty || x.2.2.2.2.2) = true ∧ ix (isQ x.1) s.2 < 0
  ·rw [if_pos hc, if_pos hc]
  rw [if_neg hc, if_neg hc]
  simp only [f753q hR h1 h2, bind_some']
  by_cases ht : (textE s x).2 = 0
  ·rw [bif_false (by simpa using ht), if_neg (by simpa using ht)]
   obtain ⟨hp, hqq⟩ := own_prog s.2
   have hr : (ownR s.2 s.2.length)[queI s x.2.1]? = some (rowQ q (s.2.length + queI s x.2.1 + 1)) := by rw [ownR_get, hq]; rfl
   have hqo : qOf (roK s.2 ++ ownK s.2) (rowQ q (s.2.length + queI s x.2.1 + 1)) = q := by
    have := qs_get (H := roK s.2 ++ ownK s.2) hr
    rw [hqq, hq] at this
    injection this with this
    exact this.symm
   have hfit : Fit q := (hR.each q (List.mem_of_getElem? hq)).fit
   have P := f755v0q (F := s.1) hp (nm := x.2.1) (j := queI s x.2.1) (by rw [hqq]; exact hqi) hr (by rw [ownR_len]; omega) (by rw [hqo]; exact hfit) 0 (bdy x (textE s x).1)
   rw [hqo, hqq] at P
   obtain ⟨H', R', e1, e2⟩ := P
   have e1 : f755v0F 1000 (s.1, x.2.1, 0, (if x.2.2.2.2.2 = true then 1 else 0), x.2.2.1, (textE s x).1, x.1, false, false, 0, ownR s.2 s.2.length, roK s.2 ++ ownK s.2, ()) = _ := e1
   have hp1 : ∀ {R0 : Type} (K : List Dsc × List Que × ByteArray × ByteArray × ByteArray × ByteArray × ByteArray × Bool × Int × Int × ByteArray × ByteArray × ByteArray × Bool × Bool × Int × List Dsc × List Row × Hep × Unit → Option R0) (t : ByteArray), f715p1 1000 K (s.1, s.2, x.1, x.2.1, x.2.2.1, x.2.2.2.1, x.2.2.2.2.1, x.2.2.2.2.2, 0, 0, x.2.2.1, t, x.1, false, false, 0, [], [], [], ()) = K (s.1, s.2, x.1, x.2.1, x.2.2.1, x.2.2.2.1, x.2.2.2.2.1, x.2.2.2.2.2, 0, (if x.2.2.2.2.2 = true then 1 else 0), x.2.2.1, t, x.1, false, false, 0, [], [], [], ()) := by
    intro R0 K t
    unfold f715p1
    cases x.2.2.2.2.2 <;> rfl
   rw [hp1]
   simp only [f754v0q (F := s.1) (show s.2.length ≤ 100 by omega) hR.msgs, bind_some', e1, hqs]
   by_cases hp0 : (putQ q (bdy x (textE s x).1)).1 = 0
   ·obtain ⟨u1, u2⟩ := e2 hp0
    rw [if_pos hp0, bif_false (by simpa using hp0), if_neg (not_not_intro hp0), u1.frz, qs_frz, u2]
    rfl
   ·rw [if_pos hp0, bif_true (bne0 hp0)]
  ·rw [bif_true (bne0 ht), if_pos ht]
 ·rw [bif_true (bne0 hz), if_pos hz]
theorem f717p0q {R0 : Type} (k0 : Int × Int × List Dsc × List Que × ByteArray × ByteArray × ByteArray × ByteArray × ByteArray × Bool × Hep × Unit → Option R0) (k1 : List Dsc × List Que × ByteArray × ByteArray × ByteArray × ByteArray × ByteArray × Bool × List Dsc × List Row × Hep × Unit → Option R0)
  (F : List Dsc) (Q : List Que) (fr tw id data text : ByteArray) (inq : Bool) (F1 : List Dsc) (R1 : List Row) (H : Hep) (hl : Q.length < 1000) :
  f717p0 1000 k0 k1 (F, Q, fr, tw, id, data, text, inq, F1, R1, H, ()) = if (!strEq fr ByteArray.empty || inq) = true ∧ ix (isQ fr) Q < 0 then k0 (0, 11, F, Q, fr, tw, id, data, text, inq, H, ()) else k1 (F, Q, fr, tw, id, data, text, inq, F1, R1, H, ()) := by
 unfold f717p0
 simp only [f731q F Q fr hl, bind_some', ix_neg]
 by_cases hi : ix (isQ fr) Q < 0
 ·cases strEq fr ByteArray.empty <;> cases inq <;> simp [hi]
 ·cases strEq fr ByteArray.empty <;> cases inq <;> simp [hi]
theorem f717p1q {R0 : Type} (k0 : Int × Int × List Dsc × List Que × ByteArray × ByteArray × ByteArray × ByteArray × ByteArray × Bool × Hep × Unit → Option R0) (k1 : List Dsc × List Que × ByteArray × ByteArray × ByteArray × ByteArray × ByteArray × Bool × List Dsc × List Row × Hep × Unit → Option R0)
  (F : List Dsc) (Q : List Que) (fr tw id data text : ByteArray) (inq : Bool) (F1 : List Dsc) (R1 : List Row) (H : Hep) :
  f717p1 1000 k0 k1 (F, Q, fr, tw, id, data, text, inq, F1, R1, H, ()) = if (strEq id ByteArray.empty && strEq text ByteArray.empty) = true then k0 (0, 1, F, Q, fr, tw, id, data, text, inq, H, ()) else k1 (F, Q, fr, tw, id, data, text, inq, F1, R1, H, ()) := by
 unfold f717p1
 cases strEq id ByteArray.empty <;> cases strEq text ByteArray.empty <;> simp
theorem f717p2q {R0 : Type} (k0 : Int × Int × List Dsc × List Que × ByteArray × ByteArray × ByteArray × ByteArray × ByteArray × Bool × Hep × Unit → Option R0) (k1 : List Dsc × List Que × ByteArray × ByteArray × ByteArray × ByteArray × ByteArray × Bool × List Dsc × List Row × Hep × Unit → Option R0)
  (F : List Dsc) (Q : List Que) (fr tw id data text : ByteArray) (inq : Bool) (F1 : List Dsc) (R1 : List Row) (H : Hep) :
  f717p2 1000 k0 k1 (F, Q, fr, tw, id, data, text, inq, F1, R1, H, ()) = if ((!strEq id ByteArray.empty && !strEq text ByteArray.empty) || (strEq id ByteArray.empty && !strEq data ByteArray.empty)) = true then k0 (0, 5, F, Q, fr, tw, id, data, text, inq, H, ()) else k1 (F, Q, fr, tw, id, data, text, inq, F1, R1, H, ()) := by
 unfold f717p2
 cases strEq id ByteArray.empty <;> cases strEq text ByteArray.empty <;> cases strEq data ByteArray.empty <;> simp
theorem f717p3q {R0 : Type} (k0 : Int × Int × ByteArray × List Dsc × List Que × ByteArray × ByteArray × ByteArray × ByteArray × ByteArray × Bool × Hep × Unit → Option R0) (k1 : ByteArray × List Dsc × List Que × ByteArray × ByteArray × ByteArray × ByteArray × ByteArray × Bool × List Dsc × List Row × Hep × Unit → Option R0)
  {s : Sys} (hR : RightS s) (t0 fr tw id data text : ByteArray) (inq : Bool) (F1 : List Dsc) (R1 : List Row) (H : Hep) (h1 : data.size ≤ 600) :
  f717p3 1000 k0 k1 (t0, s.1, s.2, fr, tw, id, data, text, inq, F1, R1, H, ()) = if strEq id ByteArray.empty = true then k1 (t0, s.1, s.2, fr, tw, id, data, text, inq, F1, R1, H, ())
   else if ix (isD id) s.1 < 0 then k0 (0, 11, t0, s.1, s.2, fr, tw, id, data, text, inq, H, ())
   else if (txs (s.1.getD (ix (isD id) s.1).toNat dD) data).2.2 ≠ 0 then k0 (0, (txs (s.1.getD (ix (isD id) s.1).toNat dD) data).2.2, t0, s.1, s.2, fr, tw, id, data, text, inq, H, ())
   else k1 ((txs (s.1.getD (ix (isD id) s.1).toNat dD) data).1, s.1, s.2, fr, tw, id, data, text, inq, F1, R1, H, ()) := by
 have hl := hR.file.len
 unfold f717p3
 cases e1 : strEq id ByteArray.empty with
 | true => simp
 | false =>
  simp only [Bool.not_false, cond_true, Bool.false_eq_true, if_false, f749q s.1 id (by omega), bind_some', ix_neg]
  by_cases hi : ix (isD id) s.1 < 0
  ·rw [if_pos hi, bif_true (by simpa using hi)]
  ·obtain ⟨j, d, e, hd, hj, hRd, hFd, hfe⟩ := desc_get hR hi
   rw [if_neg hi, bif_false (by simpa using hi), e, bif_true (inb hj)]
   simp only [Int.toNat_natCast, getD_of hd, f738q hFd h1, bind_some', hfe, ne_eq, not_true_eq_false, if_false]
   by_cases hz2 : (txs d data).2.2 = 0
   ·rw [bif_false (by simpa using hz2), if_neg (not_not_intro hz2)]
   ·rw [bif_true (bne0 hz2), if_pos hz2]
theorem txs_ok {d : Dsc} {data : ByteArray} (hR : RightD d) (hz : (txs d data).2.2 = 0) : (txs d data).1.size ≤ 256 ∧ isTx (txs d data).1 = true := by
 unfold txs at hz ⊢
 split
 ·rename_i h; rw [if_pos h] at hz; cases hz
 ·rename_i h
  rw [if_neg h] at hz
  split
  ·rename_i h4; rw [if_pos h4] at hz; cases hz
  ·rename_i h4
   refine ⟨?_, subT_tx hR.t1⟩
   show (subT d data d.2.2.1).size ≤ 256
   omega
set_option maxHeartbeats 2000000 in
theorem f717q {s : Sys} (hF : Few s) {x : Snd} (h1 : x.2.2.2.1.size ≤ 600) (h2 : x.2.2.2.2.1.size < 1000) : f717F 1000 ((s.1, s.2), (x.1, (x.2.1, (x.2.2.1, (x.2.2.2.1, (x.2.2.2.2.1, x.2.2.2.2.2)))))) = some (sentE s x) := by
 have hl := hF.len
 unfold f717F sentE
 simp only [f742q hF, bind_some']
 by_cases hz : qErr s x.2.1 = 0
 ·obtain ⟨hR, q, hq, hqs, hqi, hqn⟩ := que_get hF hz
  rw [bif_false (by simpa using hz), if_neg (by simpa using hz), f717p0q _ _ _ _ _ _ _ _ _ _ _ _ _ (by omega)]
  by_cases hc : (!strEq x.1 ByteArray.empty || x.2.2.2.2.2) = true ∧ ix (isQ x.1) s.2 < 0
  ·rw [if_pos hc, if_pos hc]
  rw [if_neg hc, if_neg hc]
  have hfl := hR.file.len
  have hfit : Fit q := (hR.each q (List.mem_of_getElem? hq)).fit
  -- what is put
  have fin : ∀ (t : ByteArray), (Option.bind (f731F 1000 ((s.1, s.2), x.2.1)) fun y16 => Option.bind (f69F 1000 x.2.2.2.2.2) fun y17 => Option.bind (f757v0F 1000 (s.1, s.2, y16, 0, y17, x.2.2.1, t, x.1, false, false, 0, [], ())) fun y18 =>
    bif (((y18.2.2.2.2.1.all fun q => (true && (true && (true && (true && (kro (List.map Kid.frz y18.2.2.1) q.2.2.2.2)))))) && true) && true) then
     some ((y18.2.2.2.1, (y18.2.2.2.2.1.map fun q => (q.1, (q.2.1, (q.2.2.1, (q.2.2.2.1, (kget (List.map Kid.frz y18.2.2.1) q.2.2.2.2))))))), y18.1, y18.2.1) else none) =
    some (if (putQ q (bdy x t)).1 ≠ 0 then (([], []), 0, (putQ q (bdy x t)).1) else ((s.1, s.2.set (queI s x.2.1) (putQ q (bdy x t)).2), q.2.2.2.1, 0)) := by
   intro t
   obtain ⟨H', F', R', e1, e2, e3⟩ := f757v0q [] hR.file (show s.2.length ≤ 100 by omega) hR.msgs hq hfit 0 (bdy x t)
   have e1 : f757v0F 1000 (s.1, s.2, (queI s x.2.1 : Int), 0, (if x.2.2.2.2.2 = true then 1 else 0), x.2.2.1, t, x.1, false, false, 0, [], ()) = _ := e1
   simp only [f731q s.1 s.2 x.2.1 (by omega), hqi, bind_some', f69q, e1]
   by_cases hp0 : (putQ q (bdy x t)).1 = 0
   ·obtain ⟨u0, u1, u2⟩ := e2 hp0
    rw [if_pos hp0, if_neg (not_not_intro hp0), u1.frz, qs_frz, u2, u0, hp0]
    rfl
   ·obtain ⟨u0, u1⟩ := e3 hp0
    rw [if_pos hp0, if_neg hp0, u0, u1]
    rfl
  rw [f717p1q]
  by_cases c1 : (strEq x.2.2.1 ByteArray.empty && strEq x.2.2.2.2.1 ByteArray.empty) = true
  ·have ht : textE s x = (ByteArray.empty, 1) := by unfold textE; rw [if_pos c1]
   rw [if_pos c1, ht, if_pos (by decide)]
  rw [if_neg c1]
  simp only []
  rw [f717p2q]
  by_cases c2 : ((!strEq x.2.2.1 ByteArray.empty && !strEq x.2.2.2.2.1 ByteArray.empty) || (strEq x.2.2.1 ByteArray.empty && !strEq x.2.2.2.1 ByteArray.empty)) = true
  ·have ht : textE s x = (ByteArray.empty, 5) := by unfold textE; rw [if_neg c1, if_pos c2]
   rw [if_pos c2, ht, if_pos (by decide)]
  rw [if_neg c2]
  simp only []
  rw [f717p3q _ _ hR _ _ _ _ _ _ _ _ _ _ h1, hqs]
  by_cases c3 : strEq x.2.2.1 ByteArray.empty = true
  ·have ht : textE s x = (x.2.2.2.2.1, txE x.2.2.2.2.1 256) := by unfold textE; rw [if_neg c1, if_neg c2, if_pos c3]
   have hne : strEq x.2.2.2.2.1 ByteArray.empty = false := by
    rw [c3, Bool.true_and] at c1
    simpa using c1
   rw [if_pos c3, ht]
   simp only [size_empty, hne, cond_false, f756q _ h2, bind_some', fin]
   unfold txE
   by_cases hs : (x.2.2.2.2.1.size : Int) > 256
   ·rw [bif_true (by simpa using hs), if_pos hs, if_pos (by decide)]
   ·rw [bif_false (by simpa using hs), if_neg hs]
    cases isTx x.2.2.2.2.1 with
    | false => rfl
    | true => rfl
  rw [if_neg c3]
  by_cases hi : ix (isD x.2.2.1) s.1 < 0
  ·have ht : textE s x = (ByteArray.empty, 11) := by unfold textE; rw [if_neg c1, if_neg c2, if_neg c3, if_pos hi]
   rw [if_pos hi, ht, if_pos (by decide)]
  rw [if_neg hi]
  obtain ⟨j, d, e, hd, hj, hRd, hFd, hfe⟩ := desc_get hR hi
  have hg : s.1.getD (ix (isD x.2.2.1) s.1).toNat dD = d := by rw [e, Int.toNat_natCast, getD_of hd]
  have ht : textE s x = ((txs d x.2.2.2.1).1, if (txs d x.2.2.2.1).2.2 ≠ 0 then (txs d x.2.2.2.1).2.2 else if strEq (txs d x.2.2.2.1).1 ByteArray.empty = true then 1 else 0) := by
   unfold textE; rw [if_neg c1, if_neg c2, if_neg c3, if_neg hi, hg]
  rw [hg, ht]
  by_cases hz2 : (txs d x.2.2.2.1).2.2 = 0
  ·obtain ⟨s1, s2⟩ := txs_ok hRd hz2
   rw [if_neg (not_not_intro hz2), if_neg (not_not_intro hz2)]
   simp only [size_empty]
   cases e5 : strEq (txs d x.2.2.2.1).1 ByteArray.empty with
   | true => rfl
   | false =>
    simp only [cond_false, Bool.false_eq_true, if_false, f756q _ (show (txs d x.2.2.2.1).1.size < 1000 by omega), s2, bind_some', Bool.not_true, fin]
    rw [bif_false (by rw [decide_eq_false_iff_not]; omega)]
    rfl
  ·rw [if_pos hz2, if_pos hz2, if_pos hz2]
 ·rw [bif_true (bne0 hz), if_pos hz]
structure Small (s : Sys) : Prop where
 file : FewF s.1
 len : s.2.length ≤ 100
 each : ∀ q ∈ s.2, q.2.2.2.2.length ≤ 100
theorem small_none : Small ([], []) := ⟨few_nil, by simp, fun q h => by cases h⟩
theorem Small.same {s : Sys} (h : Small s) : f718F 1000 ((s.1, s.2), (s.1, s.2)) = some true := f718q s h.file (by have := h.len; omega) h.each
theorem RightS.small {s : Sys} (h : RightS s) : Small s := ⟨h.file, by have := h.len; omega, h.msgs⟩
theorem Small.set {s : Sys} (h : Small s) (j : Nat) {q : Que} (hq : q.2.2.2.2.length ≤ 100) : Small (s.1, s.2.set j q) := by
 refine ⟨h.file, by rw [List.length_set]; exact h.len, fun x hx => ?_⟩
 rcases List.mem_or_eq_of_mem_set hx with hx | rfl
 ·exact h.each x hx
 ·exact hq
theorem put_len {q : Que} (hf : Fit q) (m : Bdy) : (putQ q m).2.2.2.2.2.length ≤ 100 := by
 obtain ⟨h1, h2, h3, h4⟩ := hf
 unfold putQ
 split
 ·show q.2.2.2.2.length ≤ 100; omega
 ·split
  ·split
   ·show q.2.2.2.2.length ≤ 100; omega
   ·rename_i hc
    rcases ix_spec shut q.2.2.2.2 with ⟨e, _⟩ | ⟨i, x, e, hx, _, _⟩
    ·exact absurd (Or.inr (by rw [e]; decide)) hc
    ·have hi := (List.getElem?_eq_some_iff.1 hx).1
     have := dropI_len hi
     rw [e]
     simp only [List.length_append, Int.toNat_natCast, this, List.length_singleton]
     omega
  ·simp; omega
theorem sent_small {s : Sys} (hF : Few s) (x : Snd) : Small (sentE s x).1 := by
 unfold sentE
 split
 ·exact small_none
 ·rename_i hz
  obtain ⟨hR, q, hq, hqs, hqi, hqn⟩ := que_get hF (by simpa using hz)
  split
  ·exact small_none
  ·split
   ·exact small_none
   ·split
    ·exact small_none
    ·rw [hqs]
     exact hR.small.set _ (put_len (hR.each q (List.mem_of_getElem? hq)).fit _)
theorem f714q (x : Snd) : f714F 1000 (x.1, (x.2.1, (x.2.2.1, (x.2.2.2.1, (x.2.2.2.2.1, x.2.2.2.2.2))))) = some (decide (x.2.2.2.1.size ≤ 514) && decide (x.2.2.2.2.1.size ≤ 300)) := by
 unfold f714F
 simp only []
 by_cases h : x.2.2.2.1.size ≤ 514
 ·rw [bif_true (by simp; omega), decide_eq_true h, Bool.true_and]
  congr 1
  by_cases h2 : x.2.2.2.2.1.size ≤ 300
  ·rw [decide_eq_true h2, decide_eq_true (by omega)]
  ·rw [decide_eq_false h2, decide_eq_false (by omega)]
 ·rw [bif_false (by simp; omega), decide_eq_false h]; rfl
theorem sends (y : Sys × Snd) : f703F 1000 y = some true := by
 obtain ⟨s, x⟩ := y
 unfold f703F
 simp only [awake18, f713q, bind_some', Bool.not_true, cond_false, f714q]
 cases hf : fewS s with
 | false => rfl
 | true =>
  have hF := fewS_iff.1 hf
  rw [Bool.not_true, cond_false]
  by_cases hb : x.2.2.2.1.size ≤ 514 ∧ x.2.2.2.2.1.size ≤ 300
  ·rw [bif_false (by simp [hb])]
   simp only [f716q hF, f715q hF (x := x) (by omega) (by omega), f717q hF (x := x) (by omega) (by omega), bind_some', beq_self_eq_true, cond_true, (sent_small hF x).same]
  ·rw [bif_true (by simp; omega)]
end Go.Proofs.YthcmomgkfjjajaaGreatDoor
