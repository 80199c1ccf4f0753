/- Joined texts. -/
import Derived.Test.YthcmomgkfjjajaaGreatDoorPA
set_option linter.unusedVariables false
set_option linter.unusedSimpArgs false
namespace Go.Proofs.YthcmomgkfjjajaaGreatDoor
open Go.Ab
end Go.Proofs.YthcmomgkfjjajaaGreatDoor
set_option linter.unusedVariables false
set_option linter.unusedSimpArgs false
namespace Go.Proofs.YthcmomgkfjjajaaGreatDoor
open Go.Ab
theorem runD_right : ∀ (l : List Dsc) (p : Option ByteArray) (i : Nat), (runD p i l).2 = 0 → ∀ d ∈ l, dscE d = 0 ∧ isId d.1 = true
 | [], _, _, _, _, h => by cases h
 | x :: l, p, i, h, d, hd => by
  unfold runD at h
  by_cases hz : dE p x ≠ 0
  ·rw [if_pos hz] at h; exact absurd h hz
  ·rw [if_neg hz] at h
   rcases List.mem_cons.1 hd with e | hd
   ·subst e
    simp only [ne_eq, Decidable.not_not] at hz
    unfold dE at hz
    cases hI : isId d.1 with
    | false => rw [hI] at hz; simp at hz
    | true =>
     rw [hI] at hz
     refine ⟨?_, rfl⟩
     cases p with
     | none => simpa using hz
     | some q =>
      cases hq : strLt q d.1 with
      | false => simp [hq] at hz
      | true => simpa [hq] using hz
   ·exact runD_right l _ _ h d hd
theorem file_right {l : List Dsc} (h : (filE l).2 = 0) : ∀ d ∈ l, dscE d = 0 ∧ isId d.1 = true := by
 unfold filE at h
 split at h
 ·cases h
 ·exact runD_right l _ _ h
theorem tys_right {l : List Typ} (h : tysE l = 0) : l.length ≤ 9 ∧ ∀ t ∈ l, wrT t = false := by
 unfold tysE at h
 split at h
 ·cases h
 ·split at h
  ·cases h
  ·rename_i h1 h2
   refine ⟨by omega, fun t ht => ?_⟩
   cases hw : wrT t with
   | false => rfl
   | true => exact absurd (List.any_eq_true.2 ⟨t, ht, hw⟩) h2
structure RightD (d : Dsc) : Prop where
 first : d.2.2.1.size ≤ 200
 second : d.2.2.2.1.size ≤ 200
 ne : d.2.2.1 ≠ ByteArray.empty
 t1 : isTx d.2.2.1 = true
 t2 : isTx d.2.2.2.1 = true
 types : d.2.2.2.2.1.length ≤ 9
 tys : ∀ t ∈ d.2.2.2.2.1, wrT t = false
 dflt : txE d.2.2.2.2.2.1 32 = 0
 reps : rpsE d.2.2.2.2.2.2 = 0
theorem dsc_right {d : Dsc} (h : dscE d = 0) : RightD d := by
 unfold dscE at h
 split at h
 ·cases h
 split at h
 ·cases h
 split at h
 ·cases h
 split at h
 ·cases h
 split at h
 ·rename_i hc; exact absurd h hc
 split at h
 ·rename_i hc; exact absurd h hc
 rename_i h1 h2 h3 h4 h5 h6
 obtain ⟨g1, g2⟩ := tys_right (show tysE d.2.2.2.2.1 = 0 by simpa using h5)
 have h4 : isTx d.2.2.1 = true ∧ isTx d.2.2.2.1 = true := by simpa using h4
 refine ⟨by omega, by omega, ?_, h4.1, h4.2, g1, g2, by simpa using h6, h⟩
 intro e
 rw [e] at h2
 exact h2 (strEq_self _)
end Go.Proofs.YthcmomgkfjjajaaGreatDoor
set_option linter.unusedVariables false
set_option linter.unusedSimpArgs false
namespace Go.Proofs.YthcmomgkfjjajaaGreatDoor
open Go.Ab
abbrev Row := ByteArray × (Int × (Bool × (Int × Nat)))
abbrev Hep := List (Kid Msg)
theorem kget_of {α : Type} {H : List (Kid α)} {id : Nat} {xs : List α} {c : Nat} (h : kidAt H id = .own xs c) : kget H id = xs := by unfold kget; rw [h]
theorem kroom_of {α : Type} {H : List (Kid α)} {id : Nat} {xs : List α} {c : Nat} (h : kidAt H id = .own xs c) : kroom H id = c := by unfold kroom; rw [h]
theorem kalive_of {α : Type} {H : List (Kid α)} {id : Nat} {xs : List α} {c : Nat} (h : kidAt H id = .own xs c) : kalive H id = true := by unfold kalive; rw [h]
theorem kcap_of {α : Type} {H : List (Kid α)} {id : Nat} {xs : List α} {c : Nat} (h : kidAt H id = .own xs c) : kcap H id = max c xs.length := by unfold kcap; rw [kroom_of h, kget_of h]
theorem kid_pos {α : Type} {H : List (Kid α)} {id : Nat} {xs : List α} {c : Nat} (h : kidAt H id = .own xs c) : ∃ j, id = j + 1 ∧ H[j]? = some (.own xs c) := by
 cases id with
 | zero => cases h
 | succ j =>
  refine ⟨j, rfl, ?_⟩
  simp only [kidAt] at h
  cases hj : H[j]? with
  | none => rw [hj] at h; cases h
  | some k => rw [hj] at h; simp only at h; rw [h]
theorem kid_le {α : Type} {H : List (Kid α)} {id : Nat} {xs : List α} {c : Nat} (h : kidAt H id = .own xs c) : 0 < id ∧ id ≤ H.length := by
 obtain ⟨j, rfl, hj⟩ := kid_pos h
 have := (List.getElem?_eq_some_iff.1 hj).1
 omega
theorem kown_of {α : Type} {H : List (Kid α)} {id : Nat} {xs : List α} {c : Nat} (h : kidAt H id = .own xs c) : kown H id = true := by
 obtain ⟨j, rfl, hj⟩ := kid_pos h
 unfold kown
 simp only [hj]
theorem kid_app {α : Type} (H L : List (Kid α)) {id : Nat} (h : id ≤ H.length) : kidAt (H ++ L) id = kidAt H id := by
 cases id with
 | zero => rfl
 | succ j =>
  simp only [kidAt]
  rw [List.getElem?_append_left (by omega)]
theorem kid_new {α : Type} (H : List (Kid α)) (k : Kid α) : kidAt (H ++ [k]) (H.length + 1) = k := by
 simp [kidAt]
theorem kid_set {α : Type} {H : List (Kid α)} {j : Nat} (k : Kid α) (h : j < H.length) : kidAt (H.set j k) (j + 1) = k := by
 simp only [kidAt]
 rw [List.getElem?_set_self h]
theorem kid_set_ne {α : Type} (H : List (Kid α)) {j id : Nat} (k : Kid α) (h : id ≠ j + 1) : kidAt (H.set j k) id = kidAt H id := by
 cases id with
 | zero => rfl
 | succ i =>
  simp only [kidAt]
  rw [List.getElem?_set_ne (by omega)]
theorem kkill_len {α : Type} (H : List (Kid α)) (id : Nat) : (kkill H id).length = H.length := by
 cases id <;> simp [kkill]
theorem kapp_len {α : Type} (H : List (Kid α)) (id n : Nat) (ys : List α) : (kapp H id n ys).length = H.length + 1 := by
 unfold kapp
 simp [kkill_len]
theorem kapp_new {α : Type} (H : List (Kid α)) (id n : Nat) (ys : List α) : kidAt (kapp H id n ys) (H.length + 1) = .own ((kget H id).take n ++ ys) (max (kroom H id) (n + ys.length)) := by
 unfold kapp
 rw [← kkill_len H id, kid_new]
theorem kapp_old {α : Type} (H : List (Kid α)) {id i : Nat} (n : Nat) (ys : List α) (h : i ≠ id) (hl : i ≤ H.length) : kidAt (kapp H id n ys) i = kidAt H i := by
 unfold kapp
 rw [kid_app _ _ (by rw [kkill_len]; exact hl)]
 cases id with
 | zero => rfl
 | succ j => exact kid_set_ne _ _ h
theorem kset_at {α : Type} {H : List (Kid α)} {id : Nat} {xs : List α} {c : Nat} (h : kidAt H id = .own xs c) (k : Nat) (z : α) : kidAt (kset H id k z) id = .own (xs.set k z) c := by
 obtain ⟨j, rfl, hj⟩ := kid_pos h
 unfold kset
 simp only [kget_of h, kroom_of h]
 exact kid_set _ (List.getElem?_eq_some_iff.1 hj).1
theorem kset_ne {α : Type} (H : List (Kid α)) {id i : Nat} (h : i ≠ id) (k : Nat) (z : α) : kidAt (kset H id k z) i = kidAt H i := by
 cases id with
 | zero => rfl
 | succ j => exact kid_set_ne _ _ h
theorem kwrt_at {α : Type} {H : List (Kid α)} {id : Nat} {xs : List α} {c : Nat} (h : kidAt H id = .own xs c) (lo : Nat) (ys : List α) : kidAt (kwrt H id lo ys) id = .own (wrt xs lo ys) c := by
 obtain ⟨j, rfl, hj⟩ := kid_pos h
 unfold kwrt
 simp only [kget_of h, kroom_of h]
 exact kid_set _ (List.getElem?_eq_some_iff.1 hj).1
theorem kwrt_ne {α : Type} (H : List (Kid α)) {id i : Nat} (h : i ≠ id) (lo : Nat) (ys : List α) : kidAt (kwrt H id lo ys) i = kidAt H i := by
 cases id with
 | zero => rfl
 | succ j => exact kid_set_ne _ _ h
theorem kwrt_len {α : Type} (H : List (Kid α)) (id lo : Nat) (ys : List α) : (kwrt H id lo ys).length = H.length := by
 cases id <;> simp [kwrt]
theorem wrt_end {α : Type} (xs ys : List α) : wrt xs xs.length ys = xs := by
 unfold wrt
 rw [List.take_length, List.take_left]
def kidOk (H : Hep) (id : Nat) : Prop := ∃ xs c, kidAt H id = .own xs c ∧ xs.length ≤ c
structure Hp (H : Hep) (R : List Row) : Prop where
 ok : ∀ r ∈ R, kidOk H r.2.2.2.2
 nd : (R.map fun r => r.2.2.2.2).Nodup
def qOf (H : Hep) (r : Row) : Que := (r.1, (r.2.1, (r.2.2.1, (r.2.2.2.1, kget H r.2.2.2.2))))
def qs (H : Hep) (R : List Row) : List Que := R.map (qOf H)
theorem qs_len (H : Hep) (R : List Row) : (qs H R).length = R.length := by simp [qs]
theorem qs_row {H : Hep} {R : List Row} {j : Nat} {q : Que} (h : (qs H R)[j]? = some q) : ∃ r, R[j]? = some r ∧ qOf H r = q := by
 unfold qs at h
 rw [List.getElem?_map] at h
 cases hr : R[j]? with
 | none => rw [hr] at h; cases h
 | some r => rw [hr] at h; exact ⟨r, rfl, by simpa using h⟩
theorem Hp.kid {H : Hep} {R : List Row} (h : Hp H R) {j : Nat} {r : Row} (hr : R[j]? = some r) : kidOk H r.2.2.2.2 := h.ok r (List.mem_of_getElem? hr)
theorem Hp.alive {H : Hep} {R : List Row} (h : Hp H R) : (R.all fun q => (true && (true && (true && (true && (kalive H q.2.2.2.2)))))) = true := by
 rw [List.all_eq_true]
 intro r hr
 obtain ⟨xs, c, hk, _⟩ := h.ok r hr
 simp only [Bool.true_and]
 exact kalive_of hk
theorem Hp.frz {H : Hep} {R : List Row} (h : Hp H R) : (R.all fun q => (true && (true && (true && (true && (kro (List.map Kid.frz H) q.2.2.2.2)))))) = true := by
 rw [List.all_eq_true]
 intro r hr
 obtain ⟨xs, c, hk, _⟩ := h.ok r hr
 simp only [Bool.true_and]
 rw [kro_frz]
 exact kalive_of hk
theorem qs_frz (H : Hep) (R : List Row) : (R.map fun q => (q.1, (q.2.1, (q.2.2.1, (q.2.2.2.1, (kget (List.map Kid.frz H) q.2.2.2.2)))))) = qs H R := by
 unfold qs qOf
 refine List.map_congr_left fun q _ => ?_
 rw [kget_frz]
theorem qs_map (H : Hep) (R : List Row) : (R.map fun q => (q.1, (q.2.1, (q.2.2.1, (q.2.2.2.1, (kget H q.2.2.2.2)))))) = qs H R := rfl
theorem Hp.upd {H H' : Hep} {R : List Row} (h : Hp H R) {j : Nat} {r : Row} (hr : R[j]? = some r) (r' : Row) (hk : kidOk H' r'.2.2.2.2) (hid : r'.2.2.2.2 = r.2.2.2.2 ∨ H.length < r'.2.2.2.2)
  (hold : ∀ i, i ≠ r.2.2.2.2 → i ≤ H.length → kidAt H' i = kidAt H i) : Hp H' (R.set j r') ∧ qs H' (R.set j r') = (qs H R).set j (qOf H' r') := by
 have hj : j < R.length := (List.getElem?_eq_some_iff.1 hr).1
 have hrj : R[j] = r := (List.getElem?_eq_some_iff.1 hr).2
 have nd := h.nd
 have other : ∀ i x, i ≠ j → R[i]? = some x → x.2.2.2.2 ≠ r.2.2.2.2 := by
  intro i x hij hx e
  have hi : i < R.length := (List.getElem?_eq_some_iff.1 hx).1
  have a : (R.map fun r => r.2.2.2.2)[i]? = some x.2.2.2.2 := by rw [List.getElem?_map, hx]; rfl
  have b : (R.map fun r => r.2.2.2.2)[j]? = some r.2.2.2.2 := by rw [List.getElem?_map, hr]; rfl
  rw [e] at a
  exact hij ((List.getElem?_inj (by simpa using hi) nd).1 (a.trans b.symm))
 have oldk : ∀ i x, i ≠ j → R[i]? = some x → kidAt H' x.2.2.2.2 = kidAt H x.2.2.2.2 := by
  intro i x hij hx
  obtain ⟨xs, c, hk2, _⟩ := h.kid hx
  exact hold _ (other i x hij hx) (kid_le hk2).2
 refine ⟨⟨fun x hx => ?_, ?_⟩, ?_⟩
 ·obtain ⟨i, hi⟩ := List.mem_iff_getElem?.1 hx
  by_cases e : i = j
  ·subst e
   rw [List.getElem?_set_self hj] at hi
   injection hi with hi
   subst hi
   exact hk
  ·rw [List.getElem?_set_ne (fun c => e c.symm)] at hi
   obtain ⟨xs, c, hk2, hl⟩ := h.kid hi
   exact ⟨xs, c, by rw [oldk i x e hi]; exact hk2, hl⟩
 ·rw [List.map_set]
  unfold List.Nodup
  rw [List.pairwise_iff_getElem]
  intro a b ha hb hab
  simp only [List.length_set, List.length_map] at ha hb
  rw [List.getElem_set, List.getElem_set]
  have na : ∀ i (hi : i < R.length), i ≠ j → R[i].2.2.2.2 ≠ r'.2.2.2.2 := by
   intro i hi hij e
   have hx : R[i]? = some R[i] := List.getElem?_eq_getElem hi
   rcases hid with e2 | e2
   ·exact other i _ hij hx (e.trans e2)
   ·obtain ⟨xs, c, hk2, _⟩ := h.kid hx
    have := (kid_le hk2).2
    omega
  by_cases c1 : j = a
  ·rw [if_pos c1]
   rw [if_neg (by omega)]
   simp only [List.getElem_map]
   exact fun e => na b hb (by omega) e.symm
  ·rw [if_neg c1]
   by_cases c2 : j = b
   ·rw [if_pos c2]
    simp only [List.getElem_map]
    exact na a ha (by omega)
   ·rw [if_neg c2]
    have := (List.pairwise_iff_getElem.1 nd) a b (by simpa using ha) (by simpa using hb) hab
    exact this
 ·apply List.ext_getElem?
  intro i
  by_cases e : i = j
  ·subst e
   rw [List.getElem?_set_self (by rw [qs_len]; exact hj)]
   unfold qs
   rw [List.getElem?_map, List.getElem?_set_self hj]; rfl
  ·rw [List.getElem?_set_ne (fun c => e c.symm)]
   unfold qs
   rw [List.getElem?_map, List.getElem?_map, List.getElem?_set_ne (fun c => e c.symm)]
   cases hx : R[i]? with
   | none => rfl
   | some x =>
    simp only [Option.map_some]
    congr 1
    unfold qOf kget
    rw [oldk i x e hx]
theorem Hp.row {H : Hep} {R : List Row} (h : Hp H R) {j : Nat} {r : Row} (hr : R[j]? = some r) (r' : Row) (hid : r'.2.2.2.2 = r.2.2.2.2) : Hp H (R.set j r') ∧ qs H (R.set j r') = (qs H R).set j (qOf H r') :=
 h.upd hr r' (by rw [hid]; exact h.kid hr) (.inl hid) (fun _ _ _ => rfl)
end Go.Proofs.YthcmomgkfjjajaaGreatDoor
set_option linter.unusedVariables false
set_option linter.unusedSimpArgs false
namespace Go.Proofs.YthcmomgkfjjajaaGreatDoor
open Go.Ab
def ownK (Q : List Que) : Hep := Q.map fun q => kidOf q.2.2.2.2
def rowQ (q : Que) (id : Nat) : Row := (q.1, (q.2.1, (q.2.2.1, (q.2.2.2.1, id))))
def ownR : List Que → Nat → List Row
 | [], _ => []
 | q :: l, n => rowQ q (n + 1) :: ownR l (n + 1)
theorem ownR_len : ∀ (Q : List Que) (n : Nat), (ownR Q n).length = Q.length
 | [], _ => rfl
 | q :: l, n => by simp [ownR, ownR_len l (n + 1)]
theorem ownR_get : ∀ (Q : List Que) (n i : Nat), (ownR Q n)[i]? = (Q[i]?).map fun q => rowQ q (n + i + 1)
 | [], _, _ => by simp [ownR]
 | q :: l, n, 0 => by simp [ownR]
 | q :: l, n, i + 1 => by
  simp only [ownR, List.getElem?_cons_succ, ownR_get l (n + 1) i]
  congr 1
  funext q
  rw [show n + 1 + i + 1 = n + (i + 1) + 1 by omega]
theorem ownK_get (Q : List Que) (i : Nat) : (ownK Q)[i]? = (Q[i]?).map fun q => kidOf q.2.2.2.2 := by
 unfold ownK; rw [List.getElem?_map]
theorem ownK_at {H : Hep} {Q : List Que} {i : Nat} {q : Que} (h : Q[i]? = some q) : kidAt (H ++ ownK Q) (H.length + i + 1) = .own q.2.2.2.2 q.2.2.2.2.length := by
 simp only [kidAt]
 rw [List.getElem?_append_right (by omega), show H.length + i - H.length = i by omega, ownK_get, h]; rfl
theorem own_hp (H : Hep) (Q : List Que) : Hp (H ++ ownK Q) (ownR Q H.length) ∧ qs (H ++ ownK Q) (ownR Q H.length) = Q := by
 have key : ∀ i r, (ownR Q H.length)[i]? = some r → ∃ q, Q[i]? = some q ∧ r = rowQ q (H.length + i + 1) := by
  intro i r hr
  rw [ownR_get] at hr
  cases hq : Q[i]? with
  | none => rw [hq] at hr; cases hr
  | some q => rw [hq] at hr; exact ⟨q, rfl, by simpa using hr.symm⟩
 refine ⟨⟨fun r hr => ?_, ?_⟩, ?_⟩
 ·obtain ⟨i, hi⟩ := List.mem_iff_getElem?.1 hr
  obtain ⟨q, hq, rfl⟩ := key i r hi
  exact ⟨_, _, ownK_at hq, Nat.le_refl _⟩
 ·unfold List.Nodup
  rw [List.pairwise_iff_getElem]
  intro a b ha hb hab
  simp only [List.length_map] at ha hb
  obtain ⟨q, _, e1⟩ := key a _ (List.getElem?_eq_getElem ha)
  obtain ⟨q', _, e2⟩ := key b _ (List.getElem?_eq_getElem hb)
  simp only [List.getElem_map, e1, e2, rowQ]
  omega
 ·apply List.ext_getElem?
  intro i
  unfold qs
  rw [List.getElem?_map, ownR_get]
  cases hq : Q[i]? with
  | none => rfl
  | some q =>
   simp only [Option.map_some, qOf, rowQ, kget_of (ownK_at (H := H) hq)]
theorem f716v0q {F : List Dsc} {Q : List Que} (H : Hep) (hF : FewF F) (hl : Q.length ≤ 100) (hm : ∀ q ∈ Q, q.2.2.2.2.length ≤ 100) : f716v0F 1000 (F, Q, H, ()) = some (H ++ ownK Q, F, ownR Q H.length, ()) := by
 unfold f716v0F f716v0p2
 simp only [f736q hF, bind_some']
 have snoc : ∀ (l : List Que) (n : Nat) (q : Que), ownR (l ++ [q]) n = ownR l n ++ [rowQ q (n + l.length + 1)] := by
  intro l
  induction l with
  | nil => intro n q; simp [ownR]
  | cons x l ih =>
   intro n q
   simp only [List.cons_append, ownR, ih, List.length_cons]
   rw [show n + 1 + l.length + 1 = n + (l.length + 1) + 1 by omega]
 have lp : ∀ (q : Que) (m : List Que), Q = q :: m → f716v0l0 1000 (fun w7 : Hep × List Dsc × List Row × List Dsc × List Row × Unit => some (w7.1, w7.2.2.2.1, w7.2.2.2.2.1, ())) (1, H ++ ownK [q], F, Q, [], [], F, ownR [q] H.length, ()) = some (H ++ ownK Q, F, ownR Q H.length, ()) := by
  intro q m hq
  have key := iter_from (k := 1000) (R := Hep × List Dsc × List Row × Unit) (A := List Que) (Step := fun rec v => f716v0l0s 1000 rec (fun w7 : Hep × List Dsc × List Row × List Dsc × List Row × Unit => some (w7.1, w7.2.2.2.1, w7.2.2.2.2.1, ())) v) Q (fun i a => ((i : Int), H ++ ownK a, F, Q, [], [], F, ownR a H.length, ())) (fun m a => some (H ++ ownK (a ++ m), F, ownR (a ++ m) H.length, ())) (fun i a => a.length = i) ?_ ?_ (by omega) 1 [q] (by rw [hq]; simp) rfl
  ·unfold f716v0l0
   rw [show ((1 : Int)) = ((1 : Nat) : Int) from rfl, key, hq]
   rfl
  ·intro rec a _
   unfold f716v0l0s
   simp
  ·intro rec i a x hx hi ha
   have hd := hm x (List.mem_of_getElem? hx)
   refine .inl ⟨a ++ [x], by simp [ha], ?_, by simp⟩
   unfold f716v0l0s
   simp only [ltn hi, nn, Bool.and_self, cond_true, Int.toNat_natCast, getD_of hx, wi_succ (i := i) (by omega), List.nil_append]
   rw [bif_true (szN (by simp; omega) (by decide)), bif_true (szN (by simp [ownR_len]; omega) (by decide)), snoc, ha]
   have e1 : (H ++ ownK a).length = H.length + i := by simp [ownK, ha]
   rw [e1]
   simp [ownK, rowQ]
 unfold f716v0l1
 rw [iterS_1000]
 cases Q with
 | nil => unfold f716v0l1s; simp [ownK, ownR]
 | cons q m =>
  unfold f716v0l1s
  have hq := hm q (by simp)
  have hc : decide ((0 : Int) < (((q :: m).length : Nat) : Int)) = true := by simp
  simp only [hc, decide_true, Bool.and_self, cond_true, Int.toNat_zero, List.getD_cons_zero, List.nil_append]
  rw [bif_true (by simp), bif_true (szN (by simp; omega) (by decide)), bif_true (szN (by simp) (by decide))]
  exact lp q m rfl
@[reducible] def MsgT : Ty := .pair (.int .i64) (.pair (.int .i64) (.pair .str (.pair .str (.pair .str (.pair .bool (.pair .bool (.int .i64)))))))
@[reducible] def RowT : Ty := .pair .str (.pair (.int .i64) (.pair .bool (.pair (.int .i64) (.ref MsgT))))
def roK (Q : List Que) : Hep := Q.map fun q => .ro q.2.2.2.2
theorem deepQ : ∀ (Q : List Que) (n : Nat), deepL MsgT RowT Q n = (ownR Q n, roK Q)
 | [], _ => rfl
 | q :: l, n => by
  have h : deepL MsgT RowT (q :: l) n = (rowQ q (n + 1) :: (deepL MsgT RowT l (n + 1)).1, .ro q.2.2.2.2 :: (deepL MsgT RowT l (n + 1)).2) := rfl
  have e := deepQ l (n + 1)
  exact h.trans (congr (congrArg Prod.mk (congrArg (List.cons _) (congrArg Prod.fst e))) (congrArg (List.cons _) (congrArg Prod.snd e)))
theorem f798q {Q : List Que} (hl : Q.length ≤ 1000) : f798F 1000 Q = some Q := by
 unfold f798F cloneF
 rw [bif_true (szN (by omega) (by decide))]
theorem f799q {l : List Msg} (hl : l.length ≤ 1000) : f799F 1000 l = some l := by
 unfold f799F cloneF
 rw [bif_true (szN (by omega) (by decide))]
theorem f754v0q {F : List Dsc} {Q : List Que} (hl : Q.length ≤ 100) (hm : ∀ q ∈ Q, q.2.2.2.2.length ≤ 100) : f754v0F 1000 (F, Q, [], ()) = some (F, roK Q ++ ownK Q, ownR Q Q.length, ()) := by
 have hro : (roK Q).length = Q.length := by simp [roK]
 unfold f754v0F
 simp only [f798q (show Q.length ≤ 1000 by omega), bind_some']
 have hD : ∀ n, deepL MsgT RowT Q n = (ownR Q n, roK Q) := deepQ Q
 simp only [hD, List.length_nil, List.nil_append, ownR_len]
 have rows : ∀ i, i ≤ Q.length → (ownR (Q.take i) Q.length ++ (ownR Q 0).drop i).length = Q.length := by
  intro i hi
  rw [List.length_append, ownR_len, List.length_drop, ownR_len, List.length_take]; omega
 have snoc : ∀ (l : List Que) (n : Nat) (q : Que), ownR (l ++ [q]) n = ownR l n ++ [rowQ q (n + l.length + 1)] := by
  intro l
  induction l with
  | nil => intro n q; simp [ownR]
  | cons x l ih =>
   intro n q
   simp only [List.cons_append, ownR, ih, List.length_cons]
   rw [show n + 1 + l.length + 1 = n + (l.length + 1) + 1 by omega]
 unfold f754v0l0
 have key := iter_for (k := 1000) (R := List Dsc × Hep × List Row × Unit) (Step := fun rec v => f754v0l0s 1000 rec (fun w5 : Hep × List Dsc × List Row × List Dsc × List Row × Unit => some (w5.2.1, w5.1, w5.2.2.1, ())) v) (fun i => ((Q.length : Int), (i : Int), roK Q ++ ownK (Q.take i), F, ownR (Q.take i) Q.length ++ (ownR Q 0).drop i, [], [], ())) Q.length (fin := some (F, roK Q ++ ownK Q, ownR Q Q.length, ())) ?_ ?_ (by omega)
 ·have e0 : roK Q ++ ownK (Q.take 0) = roK Q := by simp [ownK]
  have e1 : ownR (Q.take 0) Q.length ++ (ownR Q 0).drop 0 = ownR Q 0 := by simp [ownR]
  simp only [e0, e1] at key
  exact key
 ·intro rec i hi
  have hx : Q[i]? = some (Q[i]'hi) := List.getElem?_eq_getElem hi
  generalize Q[i]'hi = x at hx
  have hm1 := hm x (List.mem_of_getElem? hx)
  have hr0 : (ownR Q 0)[i]? = some (rowQ x (i + 1)) := by rw [ownR_get, hx]; simp
  have hi0 : i < (ownR Q 0).length := by rw [ownR_len]; exact hi
  have hdr : (ownR Q 0).drop i = rowQ x (i + 1) :: (ownR Q 0).drop (i + 1) := by
   rw [List.drop_eq_getElem_cons hi0, (List.getElem?_eq_some_iff.1 hr0).2]
  have tl : (ownR (Q.take i) Q.length).length = i := by rw [ownR_len, List.length_take]; omega
  have hget : (ownR (Q.take i) Q.length ++ (ownR Q 0).drop i)[i]? = some (rowQ x (i + 1)) := by
   rw [List.getElem?_append_right (by omega), tl, Nat.sub_self, hdr]; rfl
  have hk : kidAt (roK Q ++ ownK (Q.take i)) (i + 1) = .ro x.2.2.2.2 := by
   simp only [kidAt]
   rw [List.getElem?_append_left (by omega)]
   unfold roK
   rw [List.getElem?_map, hx]; rfl
  have hal : kalive (roK Q ++ ownK (Q.take i)) (i + 1) = true := by unfold kalive; rw [hk]
  have hkg : kget (roK Q ++ ownK (Q.take i)) (i + 1) = x.2.2.2.2 := by unfold kget; rw [hk]
  have hlen : (roK Q ++ ownK (Q.take i)).length = Q.length + i := by
   rw [List.length_append, hro]; simp [ownK]; omega
  have htk : Q.take (i + 1) = Q.take i ++ [x] := by rw [List.take_add_one, hx]; rfl
  unfold f754v0l0s
  simp only [ltn hi, nn, cond_true, rows i (by omega), Int.toNat_natCast, getD_of hget, rowQ, hal, hkg, Bool.and_self, f799q (l := x.2.2.2.2) (by omega), bind_some', hlen, wi_succ (i := i) (by omega)]
  congr 1
  rw [htk]
  have e1 : ownK (Q.take i ++ [x]) = ownK (Q.take i) ++ [kidOf x.2.2.2.2] := by simp [ownK]
  have e2 : (ownR (Q.take i) Q.length ++ (ownR Q 0).drop i).set i (x.1, (x.2.1, (x.2.2.1, (x.2.2.2.1, Q.length + i + 1)))) = ownR (Q.take i ++ [x]) Q.length ++ (ownR Q 0).drop (i + 1) := by
   rw [List.set_append_right _ _ (by omega), tl, Nat.sub_self, hdr, List.set_cons_zero, snoc, List.length_take, show min i Q.length = i by omega]
   simp [rowQ]
  rw [e1, e2, List.append_assoc]
 ·intro rec
  unfold f754v0l0s
  rw [bif_false (by simp)]
  rw [List.take_length, List.drop_of_length_le (by rw [ownR_len]; omega), List.append_nil]
theorem own_prog (Q : List Que) : Hp (roK Q ++ ownK Q) (ownR Q Q.length) ∧ qs (roK Q ++ ownK Q) (ownR Q Q.length) = Q := by
 have h := own_hp (roK Q) Q
 have e : (roK Q).length = Q.length := by simp [roK]
 rw [e] at h
 exact h
end Go.Proofs.YthcmomgkfjjajaaGreatDoor
set_option linter.unusedVariables false
set_option linter.unusedSimpArgs false
namespace Go.Proofs.YthcmomgkfjjajaaGreatDoor
open Go.Ab
abbrev Bdy := Int × (ByteArray × (ByteArray × (ByteArray × (Bool × (Bool × Int)))))
def dropI (l : List Msg) (i : Nat) : List Msg := l.take i ++ l.drop (i + 1)
theorem dropI_len {l : List Msg} {i : Nat} (h : i < l.length) : (dropI l i).length = l.length - 1 := by
 unfold dropI
 rw [List.length_append, List.length_take, List.length_drop]; omega
def shut (m : Msg) : Bool := !opn m
def putQ (q : Que) (m : Bdy) : Int × Que :=
 if q.2.2.2.1 = 1000000 then (3, q)
 else if (q.2.2.2.2.length : Int) = q.2.1 then
  if q.2.2.1 = false ∨ ix shut q.2.2.2.2 < 0 then (30, q)
  else (0, (q.1, (q.2.1, (q.2.2.1, (q.2.2.2.1 + 1, dropI q.2.2.2.2 (ix shut q.2.2.2.2).toNat ++ [(q.2.2.2.1, m)])))))
 else (0, (q.1, (q.2.1, (q.2.2.1, (q.2.2.2.1 + 1, q.2.2.2.2 ++ [(q.2.2.2.1, m)])))))
structure Fit (q : Que) : Prop where
 lim : q.2.1 ≤ 12
 len : (q.2.2.2.2.length : Int) ≤ q.2.1
 n1 : 1 ≤ q.2.2.2.1
 n2 : q.2.2.2.1 ≤ 1000000
theorem f802v0q {H : Hep} {id : Nat} {xs : List Msg} {c : Nat} (hk : kidAt H id = .own xs c) (hc : xs.length ≤ c) (hl : xs.length ≤ 1000) {i : Nat} (hi : i < xs.length) :
  ∃ H', f802v0F 1000 (id, (i : Int), ((i + 1 : Nat) : Int), H, ()) = some (H.length + 1, H', ()) ∧ (∃ c', kidAt H' (H.length + 1) = .own (dropI xs i) c' ∧ (dropI xs i).length ≤ c') ∧ (∀ j, j ≠ id → j ≤ H.length → kidAt H' j = kidAt H j) ∧ H'.length = H.length + 1 := by
 have hcap : (xs.length : Int) ≤ ((max c xs.length : Nat) : Int) := by omega
 have hk1 := kapp_new H id i (xs.drop (i + 1))
 rw [kget_of hk, kroom_of hk] at hk1
 have hd := dropI_len hi
 have hk1 : kidAt (kapp H id i (xs.drop (i + 1))) (H.length + 1) = .own (dropI xs i) (max c (i + (xs.drop (i + 1)).length)) := hk1
 have hdl : (xs.drop (i + 1)).length = xs.length - (i + 1) := by simp
 generalize hC : max c (i + (xs.drop (i + 1)).length) = c1 at hk1
 have hc1 : (dropI xs i).length ≤ c1 := by omega
 have hc2 : xs.length ≤ c1 := by omega
 have hk2 := kwrt_at hk1 (dropI xs i).length (List.replicate (xs.length - (dropI xs i).length) (0, (0, (ByteArray.empty, (ByteArray.empty, (ByteArray.empty, (false, (false, 0))))))))
 rw [wrt_end] at hk2
 have sub : Int.toNat ((xs.length : Int) - ((dropI xs i).length : Int)) = xs.length - (dropI xs i).length := by omega
 refine ⟨kwrt (kapp H id i (xs.drop (i + 1))) (H.length + 1) (dropI xs i).length (List.replicate (xs.length - (dropI xs i).length) (0, (0, (ByteArray.empty, (ByteArray.empty, (ByteArray.empty, (false, (false, 0)))))))), ?_, ⟨_, hk2, hc1⟩, ?_, ?_⟩
 ·unfold f802v0F
  simp only [kalive_of hk, kget_of hk, kown_of hk, kcap_of hk, Bool.true_and, cond_true, Int.toNat_natCast, List.take_length, kalive_of hk1, kget_of hk1, kown_of hk1, kcap_of hk1, sub]
  rw [bif_true (by simp; omega), bif_false (by simp; omega), bif_true (sliceB0 (by omega)), bif_true (sliceB (by omega) (by omega)), bif_true (by simp; omega), bif_true (sliceB (by omega) (by omega))]
 ·intro j hj hjl
  rw [kwrt_ne _ (by omega), kapp_old _ _ _ hj hjl]
 ·rw [kwrt_len, kapp_len]
theorem f801q (m : Msg) : f801F 1000 (m.1, (m.2.1, (m.2.2.1, (m.2.2.2.1, (m.2.2.2.2.1, (m.2.2.2.2.2.1, (m.2.2.2.2.2.2.1, m.2.2.2.2.2.2.2))))))) = some (shut m) := by
 unfold f801F shut
 simp only [f784q, bind_some']
theorem f800v2q {H : Hep} {id : Nat} {xs : List Msg} {c : Nat} (hk : kidAt H id = .own xs c) (hl : xs.length < 1000) : f800v2F 1000 (id, H, ()) = some (ix shut xs, H, ()) := by
 unfold f800v2F f800v2l0
 simp only [kalive_of hk, kget_of hk, cond_true]
 refine iter_find xs shut (fun i => (id, (xs.length : Int), (i : Int), H, ())) (fun i => some (i, H, ())) ?_ ?_ hl
 ·intro rec
  unfold f800v2l0s
  simp
 ·intro rec i x hx hi
  unfold f800v2l0s
  simp only [ltn hi, nn, Bool.and_self, cond_true, Int.toNat_natCast, kalive_of hk, kget_of hk, getD_of hx, f801q, bind_some', wi_succ (i := i) (by omega)]
theorem getD_set {α : Type} {l : List α} {j : Nat} (h : j < l.length) (x d : α) : (l.set j x).getD j d = x := by
 rw [List.getD_eq_getElem?_getD, List.getElem?_set_self h]; rfl
theorem f755v0q {F : List Dsc} {H : Hep} {R : List Row} (h : Hp H R) {nm : ByteArray} {j : Nat} {r : Row} (hj : ix (isQ nm) (qs H R) = (j : Int)) (hr : R[j]? = some r) (hl : R.length ≤ 100) (hf : Fit (qOf H r)) (k0 : Int) (m : Bdy) :
  ∃ H' R', f755v0F 1000 (F, nm, k0, m.1, m.2.1, m.2.2.1, m.2.2.2.1, m.2.2.2.2.1, m.2.2.2.2.2.1, m.2.2.2.2.2.2, R, H, ()) = some (if (putQ (qOf H r) m).1 = 0 then r.2.2.2.1 else 0, (putQ (qOf H r) m).1, R', H', ()) ∧
   ((putQ (qOf H r) m).1 = 0 → Hp H' R' ∧ qs H' R' = (qs H R).set j (putQ (qOf H r) m).2) := by
 have hjl : j < R.length := (List.getElem?_eq_some_iff.1 hr).1
 obtain ⟨xs, c, hk, hc⟩ := h.kid hr
 obtain ⟨nm0, lim, wr0, nx, id⟩ := r
 obtain ⟨f1, f2, f3, f4⟩ := hf
 simp only [qOf, kget_of hk] at f1 f2 f3 f4 hk ⊢
 have hxs : xs.length ≤ 12 := by omega
 have hw : IntKind.i64.wrap (nx + 1) = nx + 1 := wi (by omega) (by omega)
 unfold f755v0F
 simp only [h.alive, Bool.and_self, cond_true, qs_map, f752q F (qs H R) nm (by rw [qs_len]; omega), hj, bind_some', nn, ltn hjl, Int.toNat_natCast, getD_of hr, kalive_of hk, kget_of hk]
 unfold putQ
 simp only []
 by_cases h3 : nx = 1000000
 ·rw [if_pos h3, bif_true (by simpa using h3)]
  exact ⟨H, R, rfl, fun e => by cases e⟩
 rw [if_neg h3, bif_false (by simpa using h3)]
 by_cases hfull : (xs.length : Int) = lim
 ·rw [if_pos hfull, bif_true (by simpa using hfull)]
  simp only [f800v2q hk (by omega), bind_some']
  cases wr0 with
  | false => exact ⟨H, R, rfl, fun e => by cases e⟩
  | true =>
   simp only [Bool.not_true, cond_false, Bool.true_eq_false, false_or]
   rcases ix_spec shut xs with ⟨e, _⟩ | ⟨i, x, e, hx, hp, _⟩
   ·rw [e]
    exact ⟨H, R, rfl, fun e => by cases e⟩
   ·have hi : i < xs.length := (List.getElem?_eq_some_iff.1 hx).1
    rw [e]
    obtain ⟨H1, e1, ⟨c1, hk1, hc1⟩, hold1, hlen1⟩ := f802v0q hk hc (by omega) hi
    rw [if_neg (show ¬ ((i : Int) < 0) by omega), bif_false (show decide ((i : Int) < 0) = false by simp)]
    simp only [wi_succ (i := i) (by omega), e1, bind_some', getD_set hjl, List.set_set, List.length_set, hw, kown_of hk1, kget_of hk1, Bool.true_and, Int.toNat_natCast]
    have hd := dropI_len hi
    rw [bif_true (szN (by simp; omega) (by decide))]
    have hk2 := kapp_new H1 (H.length + 1) (dropI xs i).length [(nx, m)]
    rw [kget_of hk1, kroom_of hk1, List.take_length] at hk2
    refine ⟨_, _, rfl, fun _ => ?_⟩
    have U := h.upd (H' := kapp H1 (H.length + 1) (dropI xs i).length [(nx, m)]) hr (nm0, (lim, (true, (nx + 1, H1.length + 1)))) ⟨_, _, hk2, by simp; omega⟩ (.inr (by simp only; omega)) (fun a ha hal => by
     rw [kapp_old _ _ _ (by omega) (by omega)]
     exact hold1 a ha hal)
    refine ⟨U.1, U.2.trans ?_⟩
    simp only [qOf, kget_of hk2]
 ·rw [if_neg hfull, bif_false (by simpa using hfull)]
  simp only [getD_set hjl, List.set_set, List.length_set, hw, kown_of hk, kget_of hk, Bool.true_and]
  rw [bif_true (szN (by simp; omega) (by decide))]
  have hk2 := kapp_new H id xs.length [(nx, m)]
  rw [kget_of hk, kroom_of hk, List.take_length] at hk2
  refine ⟨_, _, rfl, fun _ => ?_⟩
  have U := h.upd (H' := kapp H id xs.length [(nx, m)]) hr (nm0, (lim, (wr0, (nx + 1, H.length + 1)))) ⟨_, _, hk2, by simp; omega⟩ (.inr (by simp only; omega)) (fun a ha hal => kapp_old _ _ _ ha hal)
  refine ⟨U.1, U.2.trans ?_⟩
  simp only [qOf, kget_of hk2]
end Go.Proofs.YthcmomgkfjjajaaGreatDoor
set_option linter.unusedVariables false
set_option linter.unusedSimpArgs false
namespace Go.Proofs.YthcmomgkfjjajaaGreatDoor
open Go.Ab
theorem f757v0l1q {R0 : Type} (K0 : Int × Int × Hep × Int × Int × ByteArray × ByteArray × ByteArray × Bool × Bool × Int × ByteArray × Int × Bool × Int × Nat × List Dsc × List Row × List Dsc × List Row × Unit → Option R0) (j : Int) {G : Hep} (k0 : Int) (m : Bdy) (nm0 : ByteArray) (lim : Int) (wr0 : Bool) (nx : Int) {id : Nat} (F : List Dsc) (R : List Row) {xs : List Msg} {c0 : Nat} (hk : kidAt G id = .own xs c0) (hxs : xs.length ≤ 12) :
  f757v0l1 1000 K0 (j, (-1 : Int), 0, G, k0, m.1, m.2.1, m.2.2.1, m.2.2.2.1, m.2.2.2.2.1, m.2.2.2.2.2.1, m.2.2.2.2.2.2, nm0, lim, wr0, nx, id, [], [], F, R, ()) =
  K0 (j, ix shut xs, G, k0, m.1, m.2.1, m.2.2.1, m.2.2.2.1, m.2.2.2.2.1, m.2.2.2.2.2.1, m.2.2.2.2.2.2, nm0, lim, wr0, nx, id, [], [], F, R, ()) := by
 unfold f757v0l1
 refine iter_list (k := 1000) (A := Int × Nat) xs (fun i a => (j, a.1, (i : Int), G, k0, m.1, m.2.1, m.2.2.1, m.2.2.2.1, m.2.2.2.2.1, m.2.2.2.2.2.1, m.2.2.2.2.2.2, nm0, lim, wr0, nx, id, [], [], F, R, ())) (fun l a => K0 (j, (if a.1 = -1 then ixF shut a.2 l else a.1), G, k0, m.1, m.2.1, m.2.2.1, m.2.2.2.1, m.2.2.2.2.1, m.2.2.2.2.2.1, m.2.2.2.2.2.2, nm0, lim, wr0, nx, id, [], [], F, R, ())) (fun i a => a.2 = i ∧ (a.1 = -1 ∨ 0 ≤ a.1)) ?_ ?_ (by omega) (-1, 0) ⟨rfl, .inl rfl⟩
 ·intro rec a ha
  unfold f757v0l1s
  simp only [kalive_of hk, kget_of hk, cond_true]
  rw [bif_false (by simp)]
  obtain ⟨b, c⟩ := a
  by_cases e : b = -1
  ·simp [e, ixF]
  ·simp [e]
 ·intro rec i a x hx hi ha
  obtain ⟨b, c⟩ := a
  obtain ⟨ha1, ha2⟩ := ha
  simp only at ha1 ha2
  subst ha1
  unfold f757v0l1s f757v0p0
  simp only [kalive_of hk, kget_of hk, cond_true, ltn hi, nn, Bool.and_self, Int.toNat_natCast, getD_of hx, wi_succ (i := c) (by omega)]
  by_cases e : b = -1
  ·refine .inl ⟨(if shut x = true then (c : Int) else -1, c + 1), ⟨rfl, by split <;> simp⟩, ?_, ?_⟩
   ·rw [bif_true (by simpa using e)]
    subst e
    unfold shut opn
    by_cases h1 : x.2.1 = 1
    ·rw [bif_false (by simpa using h1)]
     cases h6 : x.2.2.2.2.2.2.1 with
     | true => simp [h1, h6]
     | false => simp [h1, h6]
    ·rw [bif_true (bne_iff_ne.2 h1)]
     simp [h1]
   ·simp only [e, if_true]
    congr 1
    congr 1
    congr 1
    rw [show ixF shut c (x :: xs.drop (c + 1)) = bif shut x then (c : Int) else ixF shut (c + 1) (xs.drop (c + 1)) from rfl]
    cases shut x with
    | true => simp only [cond_true, if_true]; rw [if_neg (by omega)]
    | false => simp
  ·exact .inr (by rw [bif_false (by simpa using e), if_neg e])
set_option maxHeartbeats 8000000 in
theorem f757v0q {F : List Dsc} {Q : List Que} (H : Hep) (hF : FewF F) (hl : Q.length ≤ 100) (hm : ∀ q ∈ Q, q.2.2.2.2.length ≤ 100) {j : Nat} {q : Que} (hq : Q[j]? = some q) (hf : Fit q) (k0 : Int) (m : Bdy) :
  ∃ H' F' R', f757v0F 1000 (F, Q, (j : Int), k0, m.1, m.2.1, m.2.2.1, m.2.2.2.1, m.2.2.2.2.1, m.2.2.2.2.2.1, m.2.2.2.2.2.2, H, ()) = some (if (putQ q m).1 = 0 then q.2.2.2.1 else 0, (putQ q m).1, H', F', R', ()) ∧
   ((putQ q m).1 = 0 → F' = F ∧ Hp H' R' ∧ qs H' R' = Q.set j (putQ q m).2) ∧ ((putQ q m).1 ≠ 0 → F' = [] ∧ R' = []) := by
 have hjl : j < Q.length := (List.getElem?_eq_some_iff.1 hq).1
 obtain ⟨hp, hqs⟩ := own_hp H Q
 have hr : (ownR Q H.length)[j]? = some (rowQ q (H.length + j + 1)) := by rw [ownR_get, hq]; rfl
 have hk := ownK_at (H := H) hq
 have hjr : j < (ownR Q H.length).length := by rw [ownR_len]; exact hjl
 obtain ⟨nm0, lim, wr0, nx, xs⟩ := q
 obtain ⟨f1, f2, f3, f4⟩ := hf
 simp only [rowQ] at f1 f2 f3 f4 hk hr ⊢
 have hxs : xs.length ≤ 12 := by omega
 have hw : IntKind.i64.wrap (nx + 1) = nx + 1 := wi (by omega) (by omega)
 unfold f757v0F
 simp only [f716v0q H hF hl hm, bind_some', inb hjr, cond_true, Int.toNat_natCast, getD_of hr]
 generalize hG : H ++ ownK Q = G at hk hp hqs
 generalize hRR : ownR Q H.length = R at hr hjr hp hqs
 generalize hid : H.length + j + 1 = id at hk hr
 unfold putQ
 simp only []
 by_cases h3 : nx = 1000000
 ·rw [if_pos h3, bif_true (by simp; omega)]
  exact ⟨_, _, _, rfl, fun e => (by cases e), fun _ => ⟨rfl, rfl⟩⟩
 rw [if_neg h3, bif_false (by simp; omega)]
 unfold f757v0p2
 simp only [kalive_of hk, cond_true, kget_of hk]
 by_cases hfull : (xs.length : Int) = lim
 ·rw [if_pos hfull, bif_true (by simp; omega)]
  rw [f757v0l1q _ _ _ _ _ _ _ _ _ _ hk hxs]
  simp only []
  cases wr0 with
  | false => exact ⟨_, _, _, rfl, fun e => (by cases e), fun _ => ⟨rfl, rfl⟩⟩
  | true =>
   simp only [Bool.not_true, cond_false, Bool.true_eq_false, false_or]
   rcases ix_spec shut xs with ⟨e, _⟩ | ⟨i, x, e, hx, hsh, _⟩
   ·rw [e]
    exact ⟨_, _, _, rfl, fun e => (by cases e), fun _ => ⟨rfl, rfl⟩⟩
   ·have hi : i < xs.length := (List.getElem?_eq_some_iff.1 hx).1
    have hcap : (xs.length : Int) ≤ ((max xs.length xs.length : Nat) : Int) := by omega
    have hk1 := kapp_new G id i (xs.drop (i + 1))
    rw [kget_of hk, kroom_of hk] at hk1
    have hk1 : kidAt (kapp G id i (xs.drop (i + 1))) (G.length + 1) = .own (dropI xs i) (max xs.length (i + (xs.drop (i + 1)).length)) := hk1
    have hd := dropI_len hi
    have hdl : (xs.drop (i + 1)).length = xs.length - (i + 1) := by simp
    rw [e, if_neg (show ¬ ((i : Int) < 0) by omega), bif_false (by simp)]
    simp only [wi_succ (i := i) (by omega), kalive_of hk, kown_of hk, kcap_of hk, kget_of hk, Bool.true_and, Bool.and_true, Int.toNat_natCast, List.take_length]
    rw [bif_true (sliceB0 (by omega)), bif_true (sliceB (by omega) (by omega)), bif_true (by simp; omega)]
    simp only [kown_of hk1, kget_of hk1, Bool.true_and]
    rw [bif_true (szN (by simp; omega) (by decide)), bif_true (inb hjr)]
    have hk2 := kapp_new (kapp G id i (xs.drop (i + 1))) (G.length + 1) (dropI xs i).length [(nx, m)]
    rw [kget_of hk1, kroom_of hk1, List.take_length] at hk2
    have hlen1 := kapp_len G id i (xs.drop (i + 1))
    rw [hlen1] at hk2
    have U := hp.upd (H' := kapp (kapp G id i (xs.drop (i + 1))) (G.length + 1) (dropI xs i).length [(nx, m)]) hr (nm0, (lim, (true, (nx + 1, G.length + 1 + 1)))) ⟨_, _, hk2, by simp; omega⟩ (.inr (by simp only; omega)) (fun a ha hal => by
     rw [kapp_old _ _ _ (by omega) (by omega), kapp_old _ _ _ ha hal])
    simp only [hlen1, hw]
    refine ⟨_, _, _, rfl, fun _ => ⟨rfl, U.1, U.2.trans ?_⟩, fun e => absurd rfl e⟩
    rw [hqs]
    simp only [qOf, kget_of hk2]
 ·rw [if_neg hfull, bif_false (by simp; omega)]
  simp only [kown_of hk, kget_of hk, Bool.true_and]
  rw [bif_true (szN (by simp; omega) (by decide)), bif_true (inb hjr)]
  have hk2 := kapp_new G id xs.length [(nx, m)]
  rw [kget_of hk, kroom_of hk, List.take_length] at hk2
  have U := hp.upd (H' := kapp G id xs.length [(nx, m)]) hr (nm0, (lim, (wr0, (nx + 1, G.length + 1)))) ⟨_, _, hk2, by simp⟩ (.inr (by simp only; omega)) (fun a ha hal => kapp_old _ _ _ ha hal)
  simp only [hw, Int.toNat_natCast]
  refine ⟨_, _, _, rfl, fun _ => ⟨rfl, U.1, U.2.trans ?_⟩, fun e => absurd rfl e⟩
  rw [hqs]
  simp only [qOf, kget_of hk2]
end Go.Proofs.YthcmomgkfjjajaaGreatDoor
set_option linter.unusedVariables false
set_option linter.unusedSimpArgs false
namespace Go.Proofs.YthcmomgkfjjajaaGreatDoor
open Go.Ab
theorem runQ_right : ∀ (Q : List Que) (l : List Que) (p : Option ByteArray) (i : Nat), (runQ Q p i l).2 = 0 → ∀ q ∈ l, queE Q q = 0 ∧ isNm q.1 = true
 | _, [], _, _, _, _, h => by cases h
 | Q, x :: l, p, i, h, d, hd => by
  unfold runQ at h
  by_cases hz : qE Q p x ≠ 0
  ·rw [if_pos hz] at h; exact absurd h hz
  ·rw [if_neg hz] at h
   rcases List.mem_cons.1 hd with e | hd
   ·subst e
    simp only [ne_eq, Decidable.not_not] at hz
    unfold qE at hz
    cases hI : isNm d.1 with
    | false => rw [hI] at hz; simp at hz
    | true =>
     rw [hI] at hz
     refine ⟨?_, rfl⟩
     cases p with
     | none => simpa using hz
     | some q =>
      cases hq : strLt q d.1 with
      | false => simp [hq] at hz
      | true => simpa [hq] using hz
   ·exact runQ_right Q l _ _ h d hd
structure RightQ (Q : List Que) (q : Que) : Prop where
 nm : isNm q.1 = true
 l0 : 1 ≤ q.2.1
 l1 : q.2.1 ≤ 12
 n1 : 1 ≤ q.2.2.2.1
 n2 : q.2.2.2.1 ≤ 1000000
 len : (q.2.2.2.2.length : Int) ≤ q.2.1
 msgs : runM Q q.2.2.2.1 0 q.2.2.2.2 = 0
theorem RightQ.fit {Q : List Que} {q : Que} (h : RightQ Q q) : Fit q := ⟨h.l1, h.len, h.n1, h.n2⟩
theorem que_right {Q : List Que} {q : Que} (hn : isNm q.1 = true) (h : queE Q q = 0) : RightQ Q q := by
 unfold queE at h
 split at h
 ·cases h
 ·rename_i h1
  split at h
  ·cases h
  ·rename_i h2
   simp only [Bool.or_eq_true, Bool.not_eq_true', Bool.and_eq_false_iff, decide_eq_false_iff_not, not_or, Decidable.not_not] at h1
   exact ⟨hn, h1.1.1, h1.1.2, h1.2.1, h1.2.2, by omega, h⟩
structure RightS (s : Sys) : Prop where
 file : FewF s.1
 fe : (filE s.1).2 = 0
 len : s.2.length ≤ 6
 each : ∀ q ∈ s.2, RightQ s.2 q
theorem sys_right {s : Sys} (hF : FewF s.1) (h : (sysE s).2 = 0) : RightS s := by
 unfold sysE at h
 split at h
 ·rename_i h1; exact absurd h h1
 ·rename_i h1
  split at h
  ·cases h
  ·rename_i h2
   exact ⟨hF, by simpa using h1, by omega, fun q hq => (runQ_right _ _ _ _ h q hq).elim fun a b => que_right b a⟩
theorem RightS.msgs {s : Sys} (h : RightS s) : ∀ q ∈ s.2, q.2.2.2.2.length ≤ 100 := by
 intro q hq
 have := (h.each q hq).len
 have := (h.each q hq).l1
 omega
theorem f758q (l : List ByteArray) (hl : l.length < 1000) : f758F 1000 (l, l) = some true := by
 unfold f758F
 rw [bif_false (by simp)]
 unfold f758l0
 refine iter_list (k := 1000) (R := Bool) (A := Unit) l (fun i _ => (l, l, (i : Int), ())) (fun _ _ => some true) (fun _ _ => True) ?_ ?_ hl () trivial
 ·intro rec _ _
  unfold f758l0s
  simp
 ·intro rec i _ x hx hi _
  refine .inl ⟨(), trivial, ?_, rfl⟩
  unfold f758l0s
  simp only [ltn hi, nn, Bool.and_self, cond_true, Int.toNat_natCast, strEq_self, Bool.not_true, cond_false, wi_succ (i := i) (by omega)]
theorem f759q (q : Que) (hl : q.2.2.2.2.length < 1000) : f759F 1000 ((q.1, (q.2.1, (q.2.2.1, (q.2.2.2.1, q.2.2.2.2)))), (q.1, (q.2.1, (q.2.2.1, (q.2.2.2.1, q.2.2.2.2))))) = some true := by
 obtain ⟨nm, lim, wr0, nx, l⟩ := q
 simp only at hl
 unfold f759F
 simp only [strEq_self, Bool.not_true, cond_false, bne_self_eq_false, beq_self_eq_true]
 unfold f759l0
 refine iter_list (k := 1000) (R := Bool) (A := Unit) l (fun i _ => ((i : Int), nm, lim, wr0, nx, l, nm, lim, wr0, nx, l, ())) (fun _ _ => some true) (fun _ _ => True) ?_ ?_ hl () trivial
 ·intro rec _ _
  unfold f759l0s
  simp
 ·intro rec i _ x hx hi _
  refine .inl ⟨(), trivial, ?_, rfl⟩
  unfold f759l0s
  simp only [ltn hi, nn, Bool.and_self, cond_true, Int.toNat_natCast, strEq_self, beq_self_eq_true, Bool.not_true, cond_false, wi_succ (i := i) (by omega)]
theorem f718l0q {R0 : Type} (k0 : Bool × Int × List Dsc × List Que × List Dsc × List Que × Unit → Option R0) (k1 : Int × List Dsc × List Que × List Dsc × List Que × Unit → Option R0) (i0 : Int) (F1 F2 : List Dsc) (Q1 Q2 : List Que) (a1 : ByteArray) (a2 : Int) (a3 a4 : ByteArray) (l : List Typ) (a6 : ByteArray) (a7 : List ByteArray) (b1 : ByteArray) (b2 : Int) (b3 b4 : ByteArray) (b6 : ByteArray) (b7 : List ByteArray) (hl : l.length < 1000) :
  f718l0 1000 k0 k1 (i0, 0, F1, Q1, F2, Q2, a1, a2, a3, a4, l, a6, a7, b1, b2, b3, b4, l, b6, b7, ()) = k1 (i0, F1, Q1, F2, Q2, ()) := by
 unfold f718l0
 refine iter_list (k := 1000) (A := Unit) l (fun i _ => (i0, (i : Int), F1, Q1, F2, Q2, a1, a2, a3, a4, l, a6, a7, b1, b2, b3, b4, l, b6, b7, ())) (fun _ _ => k1 (i0, F1, Q1, F2, Q2, ())) (fun _ _ => True) ?_ ?_ hl () trivial
 ·intro rec _ _
  unfold f718l0s
  simp
 ·intro rec i _ x hx hi _
  refine .inl ⟨(), trivial, ?_, rfl⟩
  unfold f718l0s
  simp only [ltn hi, nn, Bool.and_self, cond_true, Int.toNat_natCast, beq_self_eq_true, Bool.not_true, cond_false, wi_succ (i := i) (by omega)]
theorem f718q (s : Sys) (hF : FewF s.1) (hl : s.2.length < 1000) (hm : ∀ q ∈ s.2, q.2.2.2.2.length ≤ 100) : f718F 1000 ((s.1, s.2), (s.1, s.2)) = some true := by
 obtain ⟨F, Q⟩ := s
 simp only at hF hl hm
 unfold f718F
 simp only [bne_self_eq_false, cond_false]
 have l2 : f718l2 1000 (fun w14 : Bool × Unit => some w14.1) (fun w15 : Unit => some true) (0, F, Q, F, Q, ()) = some true := by
  unfold f718l2
  refine iter_list (k := 1000) (R := Bool) (A := Unit) Q (fun i _ => ((i : Int), F, Q, F, Q, ())) (fun _ _ => some true) (fun _ _ => True) ?_ ?_ hl () trivial
  ·intro rec _ _
   unfold f718l2s
   simp
  ·intro rec i _ x hx hi _
   refine .inl ⟨(), trivial, ?_, rfl⟩
   unfold f718l2s
   have := hm x (List.mem_of_getElem? hx)
   simp only [ltn hi, nn, Bool.and_self, cond_true, Int.toNat_natCast, getD_of hx, f759q x (by omega), bind_some', Bool.not_true, cond_false, wi_succ (i := i) (by omega)]
 unfold f718l1
 have hFl := hF.len
 refine iter_list (k := 1000) (R := Bool) (A := Unit) F (fun i _ => ((i : Int), F, Q, F, Q, ())) (fun _ _ => some true) (fun _ _ => True) ?_ ?_ (by omega) () trivial
 ·intro rec _ _
  unfold f718l1s
  rw [bif_false (by simp)]
  exact l2
 ·intro rec i _ x hx hi _
  refine .inl ⟨(), trivial, ?_, rfl⟩
  unfold f718l1s
  obtain ⟨g1, g2, g3, g4, g5, g6⟩ := hF.each x (List.mem_of_getElem? hx)
  simp only [ltn hi, nn, Bool.and_self, cond_true, Int.toNat_natCast, getD_of hx, strEq_self, bne_self_eq_false, f758q x.2.2.2.2.2.2 (by omega), bind_some', Bool.not_true, cond_false]
  rw [f718l0q _ _ _ _ _ _ _ _ _ _ _ _ _ _ _ _ _ _ _ _ (by omega)]
  simp only [wi_succ (i := i) (show i < 9223372036854775807 by omega)]
theorem few_nil : FewF [] := ⟨by simp, fun x h => by cases h⟩
end Go.Proofs.YthcmomgkfjjajaaGreatDoor
set_option linter.unusedVariables false
set_option linter.unusedSimpArgs false
namespace Go.Proofs.YthcmomgkfjjajaaGreatDoor
open Go.Ab
def dD : Dsc := (ByteArray.empty, (0, (ByteArray.empty, (ByteArray.empty, ([], (ByteArray.empty, []))))))
def dQ : Que := (ByteArray.empty, (0, (false, (0, []))))
theorem desc_get {s : Sys} (h : RightS s) {id : ByteArray} (hi : ¬ ix (isD id) s.1 < 0) : ∃ (j : Nat) (d : Dsc), ix (isD id) s.1 = (j : Int) ∧ s.1[j]? = some d ∧ j < s.1.length ∧ RightD d ∧ FewD d ∧ (filE [d]).2 = 0 := by
 rcases ix_spec (isD id) s.1 with ⟨e, _⟩ | ⟨j, d, e, hd, _, _⟩
 ·omega
 ·have hm := List.mem_of_getElem? hd
  have hr := file_right h.fe d hm
  refine ⟨j, d, e, hd, (List.getElem?_eq_some_iff.1 hd).1, dsc_right hr.1, h.file.each d hm, ?_⟩
  unfold filE runD runD dE
  simp [hr.1, hr.2]
def queI (s : Sys) (nm : ByteArray) : Nat := (ix (isQ nm) s.2).toNat
def queS (s : Sys) (nm : ByteArray) : Que := s.2.getD (queI s nm) dQ
theorem que_get {s : Sys} (hF : Few s) {nm : ByteArray} (h : qErr s nm = 0) : RightS s ∧ ∃ q, s.2[queI s nm]? = some q ∧ queS s nm = q ∧ ix (isQ nm) s.2 = (queI s nm : Int) ∧ q.1 = nm := by
 unfold qErr at h
 split at h
 ·rename_i h1; exact absurd h h1
 ·rename_i h1
  split at h
  ·cases h
  ·rename_i h2
   have hR := sys_right hF.file (by simpa using h1)
   obtain ⟨j, q, e, hq, hj, hn⟩ := ix_get (isQ nm) s.2 (by simpa using h2)
   have hi : queI s nm = j := by unfold queI; rw [e]; rfl
   refine ⟨hR, q, by rw [hi]; exact hq, ?_, by rw [hi]; exact e, strEq_iff.1 hn⟩
   unfold queS
   rw [hi, getD_of hq]
structure Small (s : Sys) : Prop where
 file : FewF s.1
 len : s.2.length ≤ 100
 each : ∀ q ∈ s.2, q.2.2.2.2.length ≤ 100
theorem small_none : Small ([], []) := ⟨few_nil, by simp, fun q h => by cases h⟩
theorem Small.same {s : Sys} (h : Small s) : f718F 1000 ((s.1, s.2), (s.1, s.2)) = some true := f718q s h.file (by have := h.len; omega) h.each
theorem RightS.small {s : Sys} (h : RightS s) : Small s := ⟨h.file, by have := h.len; omega, h.msgs⟩
theorem Small.set {s : Sys} (h : Small s) (j : Nat) {q : Que} (hq : q.2.2.2.2.length ≤ 100) : Small (s.1, s.2.set j q) := by
 refine ⟨h.file, by rw [List.length_set]; exact h.len, fun x hx => ?_⟩
 rcases List.mem_or_eq_of_mem_set hx with hx | rfl
 ·exact h.each x hx
 ·exact hq
theorem put_len {q : Que} (hf : Fit q) (m : Bdy) : (putQ q m).2.2.2.2.2.length ≤ 100 := by
 obtain ⟨h1, h2, h3, h4⟩ := hf
 unfold putQ
 split
 ·show q.2.2.2.2.length ≤ 100; omega
 ·split
  ·split
   ·show q.2.2.2.2.length ≤ 100; omega
   ·rename_i hc
    rcases ix_spec shut q.2.2.2.2 with ⟨e, _⟩ | ⟨i, x, e, hx, _, _⟩
    ·exact absurd (Or.inr (by rw [e]; decide)) hc
    ·have hi := (List.getElem?_eq_some_iff.1 hx).1
     have := dropI_len hi
     rw [e]
     simp only [List.length_append, Int.toNat_natCast, this, List.length_singleton]
     omega
  ·simp; omega
end Go.Proofs.YthcmomgkfjjajaaGreatDoor
set_option linter.unusedVariables false
set_option linter.unusedSimpArgs false
namespace Go.Proofs.YthcmomgkfjjajaaGreatDoor
open Go.Ab
theorem runM_iff (Q : List Que) (nx : Int) : ∀ (l : List Msg) (last : Int), runM Q nx last l = 0 ↔ (∀ m ∈ l, msgE Q m = 0 ∧ last < m.1 ∧ m.1 < nx) ∧ l.Pairwise fun a b => a.1 < b.1
 | [], last => by simp [runM]
 | m :: l, last => by
  have ih := runM_iff Q nx l m.1
  unfold runM
  have hk : keyB last nx m = true ↔ m.1 ≤ last ∨ m.1 ≥ nx := by
   unfold keyB; rw [Bool.or_eq_true, decide_eq_true_eq, decide_eq_true_eq]
  by_cases h : keyB last nx m = true
  ·rw [if_pos h]
   have := hk.1 h
   constructor
   ·intro c; cases c
   ·intro c
    have := (c.1 m (by simp)).2
    omega
  ·rw [if_neg h]
   have hn : ¬ (m.1 ≤ last ∨ m.1 ≥ nx) := fun c => h (hk.2 c)
   by_cases hz : msgE Q m = 0
   ·rw [if_neg (not_not_intro hz), ih]
    constructor
    ·rintro ⟨a, b⟩
     refine ⟨fun x hx => ?_, List.pairwise_cons.2 ⟨fun x hx => (a x hx).2.1, b⟩⟩
     rcases List.mem_cons.1 hx with rfl | hx
     ·exact ⟨hz, by omega, by omega⟩
     ·have := a x hx
      exact ⟨this.1, by omega, this.2.2⟩
    ·rintro ⟨a, b⟩
     rw [List.pairwise_cons] at b
     exact ⟨fun x hx => ⟨(a x (by simp [hx])).1, b.1 x hx, (a x (by simp [hx])).2.2⟩, b.2⟩
   ·rw [if_pos hz]
    constructor
    ·intro c; exact absurd c hz
    ·intro c; exact absurd (c.1 m (by simp)).1 hz
def nms (Q : List Que) : List ByteArray := Q.map (·.1)
theorem ixF_map {α β : Type} (p : β → Bool) (g : α → β) : ∀ (l : List α) (i : Nat), ixF (fun x => p (g x)) i l = ixF p i (l.map g)
 | [], _ => rfl
 | x :: l, i => by simp only [ixF, List.map_cons, ixF_map p g l (i + 1)]
theorem ix_names {Q Q' : List Que} (h : nms Q = nms Q') (nm : ByteArray) : ix (isQ nm) Q = ix (isQ nm) Q' := by
 unfold ix
 have e : ∀ Q : List Que, ixF (isQ nm) 0 Q = ixF (fun n => strEq n nm) 0 (nms Q) := fun Q => ixF_map (fun n => strEq n nm) (fun q : Que => q.1) Q 0
 rw [e, e, h]
theorem msgE_names {Q Q' : List Que} (h : nms Q = nms Q') (m : Msg) : msgE Q m = msgE Q' m := by
 unfold msgE
 rw [ix_names h]
theorem nms_set {Q : List Que} {j : Nat} {q q' : Que} (hq : Q[j]? = some q) (hn : q'.1 = q.1) : nms (Q.set j q') = nms Q := by
 unfold nms
 rw [List.map_set, hn]
 apply List.ext_getElem?
 intro i
 by_cases e : j = i
 ·subst e
  rw [List.getElem?_set_self (by simpa using (List.getElem?_eq_some_iff.1 hq).1), List.getElem?_map, hq]; rfl
 ·rw [List.getElem?_set_ne e]
def ltO : Option ByteArray → ByteArray → Bool
 | none, _ => true
 | some p, n => strLt p n
def ordN : Option ByteArray → List ByteArray → Bool
 | _, [] => true
 | p, n :: l => ltO p n && ordN (some n) l
theorem runQ_ord (Q : List Que) : ∀ (l : List Que) (p : Option ByteArray) (i : Nat), (runQ Q p i l).2 = 0 → ordN p (nms l) = true
 | [], _, _, _ => rfl
 | x :: l, p, i, h => by
  unfold runQ at h
  by_cases hz : qE Q p x ≠ 0
  ·rw [if_pos hz] at h; exact absurd h hz
  ·rw [if_neg hz] at h
   show (ltO p x.1 && ordN (some x.1) (nms l)) = true
   rw [runQ_ord Q l _ _ h, Bool.and_true]
   simp only [ne_eq, Decidable.not_not] at hz
   unfold qE at hz
   cases p with
   | none => rfl
   | some q =>
    cases hI : isNm x.1 with
    | false => rw [hI] at hz; simp at hz
    | true =>
     rw [hI] at hz
     cases hq : strLt q x.1 with
     | false => simp [hq] at hz
     | true => exact hq
theorem que_zero {Q : List Que} {q : Que} (h : RightQ Q q) : queE Q q = 0 := by
 unfold queE
 rw [if_neg, if_neg (by have := h.len; omega), h.msgs]
 simp only [Bool.or_eq_true, Bool.not_eq_true', Bool.and_eq_false_iff, decide_eq_false_iff_not, not_or, Decidable.not_not]
 exact ⟨⟨h.l0, h.l1⟩, h.n1, h.n2⟩
theorem runQ_zero (Q : List Que) : ∀ (l : List Que) (p : Option ByteArray) (i : Nat), (∀ q ∈ l, RightQ Q q) → ordN p (nms l) = true → runQ Q p i l = (0, 0)
 | [], _, _, _, _ => rfl
 | x :: l, p, i, h, ho => by
  have ho : (ltO p x.1 && ordN (some x.1) (nms l)) = true := ho
  rw [Bool.and_eq_true] at ho
  have hx := h x (by simp)
  have hz : qE Q p x = 0 := by
   unfold qE
   rw [hx.nm, que_zero hx]
   cases p with
   | none => rfl
   | some q =>
    have : strLt q x.1 = true := ho.1
    simp [this]
  unfold runQ
  rw [if_neg (not_not_intro hz)]
  exact runQ_zero Q l _ _ (fun q hq => h q (by simp [hq])) ho.2
structure Right (s : Sys) : Prop where
 r : RightS s
 ord : ordN none (nms s.2) = true
theorem sys_Right {s : Sys} (hF : FewF s.1) (h : (sysE s).2 = 0) : Right s := by
 refine ⟨sys_right hF h, ?_⟩
 unfold sysE at h
 split at h
 ·rename_i h1; exact absurd h h1
 ·split at h
  ·cases h
  ·exact runQ_ord _ _ _ _ h
theorem Right.zero {s : Sys} (h : Right s) : sysE s = (0, 0) := by
 unfold sysE
 rw [if_neg (not_not_intro h.r.fe), if_neg (by have := h.r.len; omega)]
 exact runQ_zero _ _ _ _ h.r.each h.ord
theorem Right.set {s : Sys} (h : Right s) {j : Nat} {q q' : Que} (hq : s.2[j]? = some q) (hn : q'.1 = q.1) (hr : RightQ s.2 q') : Right (s.1, s.2.set j q') := by
 have hns := nms_set hq hn
 have cong : ∀ x, RightQ s.2 x → RightQ (s.2.set j q') x := by
  intro x hx
  obtain ⟨a1, a2, a3, a4, a5, a6, a7⟩ := hx
  refine ⟨a1, a2, a3, a4, a5, a6, ?_⟩
  rw [runM_iff] at a7 ⊢
  exact ⟨fun m hm => by rw [msgE_names hns]; exact a7.1 m hm, a7.2⟩
 refine ⟨⟨h.r.file, h.r.fe, by rw [List.length_set]; exact h.r.len, fun x hx => ?_⟩, by rw [hns]; exact h.ord⟩
 rcases List.mem_or_eq_of_mem_set hx with hx | rfl
 ·exact cong x (h.r.each x hx)
 ·exact cong _ hr
theorem RightQ.iff {Q : List Que} {q : Que} (h : RightQ Q q) : (∀ m ∈ q.2.2.2.2, msgE Q m = 0 ∧ 0 < m.1 ∧ m.1 < q.2.2.2.1) ∧ q.2.2.2.2.Pairwise fun a b => a.1 < b.1 := (runM_iff Q _ _ _).1 h.msgs
theorem RightQ.uniq {Q : List Que} {q : Que} (h : RightQ Q q) {a b : Msg} (ha : a ∈ q.2.2.2.2) (hb : b ∈ q.2.2.2.2) (e : a.1 = b.1) : a = b := by
 have hp := h.iff.2
 obtain ⟨i, hi⟩ := List.mem_iff_getElem?.1 ha
 obtain ⟨k, hk⟩ := List.mem_iff_getElem?.1 hb
 obtain ⟨hi1, hi2⟩ := List.getElem?_eq_some_iff.1 hi
 obtain ⟨hk1, hk2⟩ := List.getElem?_eq_some_iff.1 hk
 rcases Nat.lt_trichotomy i k with c | c | c
 ·have := (List.pairwise_iff_getElem.1 hp) i k hi1 hk1 c
  rw [hi2, hk2] at this; omega
 ·subst c; rw [← hi2, ← hk2]
 ·have := (List.pairwise_iff_getElem.1 hp) k i hk1 hi1 c
  rw [hi2, hk2] at this; omega
theorem drop_sub (l : List Msg) (i : Nat) : (dropI l i).Sublist l := by
 unfold dropI
 have h := (List.drop_sublist 1 (l.drop i)).append_left (l.take i)
 rw [List.drop_drop, List.take_append_drop] at h
 exact h
theorem RightQ.sub {Q : List Que} {q : Que} (h : RightQ Q q) {l : List Msg} (hs : l.Sublist q.2.2.2.2) : RightQ Q (q.1, (q.2.1, (q.2.2.1, (q.2.2.2.1, l)))) := by
 obtain ⟨a1, a2, a3, a4, a5, a6, a7⟩ := h
 refine ⟨a1, a2, a3, a4, a5, ?_, ?_⟩
 ·have := hs.length_le
  show (l.length : Int) ≤ q.2.1
  omega
 ·rw [runM_iff] at a7 ⊢
  exact ⟨fun m hm => a7.1 m (hs.subset hm), a7.2.sublist hs⟩
theorem RightQ.turn {Q : List Que} {q : Que} (h : RightQ Q q) {i : Nat} {m m' : Msg} (hm : q.2.2.2.2[i]? = some m) (hk : m'.1 = m.1) (he : msgE Q m' = 0) : RightQ Q (q.1, (q.2.1, (q.2.2.1, (q.2.2.2.1, q.2.2.2.2.set i m')))) := by
 have hit := h.iff
 obtain ⟨a1, a2, a3, a4, a5, a6, a7⟩ := h
 obtain ⟨hi, hmi⟩ := List.getElem?_eq_some_iff.1 hm
 refine ⟨a1, a2, a3, a4, a5, by simpa using a6, ?_⟩
 rw [runM_iff]
 refine ⟨fun x hx => ?_, ?_⟩
 ·rcases List.mem_or_eq_of_mem_set hx with hx | rfl
  ·exact hit.1 x hx
  ·have := hit.1 m (List.mem_of_getElem? hm)
   rw [hk]
   exact ⟨he, this.2⟩
 ·rw [List.pairwise_iff_getElem]
  intro a b ha hb hab
  simp only [List.length_set] at ha hb
  have key : ∀ c (hc : c < (q.2.2.2.2.set i m').length) (hc' : c < q.2.2.2.2.length), (q.2.2.2.2.set i m')[c].1 = q.2.2.2.2[c].1 := by
   intro c hc hc'
   rw [List.getElem_set]
   split
   ·rename_i e; subst e; rw [hk, hmi]
   ·rfl
  rw [key a (by simpa using ha) ha, key b (by simpa using hb) hb]
  exact (List.pairwise_iff_getElem.1 hit.2) a b ha hb hab
theorem put_name (q : Que) (m : Bdy) : (putQ q m).2.1 = q.1 := by
 unfold putQ
 repeat' split
 all_goals rfl
theorem RightQ.put {Q : List Que} {q : Que} (h : RightQ Q q) {m : Bdy} (hp : (putQ q m).1 = 0) (he : msgE Q (q.2.2.2.1, m) = 0) : RightQ Q (putQ q m).2 := by
 have hit := h.iff
 have hlen := put_len h.fit m
 have snoc : ∀ l : List Msg, l.Sublist q.2.2.2.2 → (l.length : Int) + 1 ≤ q.2.1 → q.2.2.2.1 ≠ 1000000 → RightQ Q (q.1, (q.2.1, (q.2.2.1, (q.2.2.2.1 + 1, l ++ [(q.2.2.2.1, m)])))) := by
  intro l hs hl hn
  obtain ⟨a1, a2, a3, a4, a5, a6, a7⟩ := h
  refine ⟨a1, a2, a3, by show 1 ≤ q.2.2.2.1 + 1; omega, by show q.2.2.2.1 + 1 ≤ 1000000; omega, by simpa using hl, ?_⟩
  show runM Q (q.2.2.2.1 + 1) 0 (l ++ [(q.2.2.2.1, m)]) = 0
  rw [runM_iff]
  refine ⟨fun x hx => ?_, ?_⟩
  ·rcases List.mem_append.1 hx with hx | hx
   ·have := hit.1 x (hs.subset hx)
    exact ⟨this.1, this.2.1, by omega⟩
   ·rw [List.mem_singleton.1 hx]
    exact ⟨he, by show 0 < q.2.2.2.1; omega, by show q.2.2.2.1 < q.2.2.2.1 + 1; omega⟩
  ·rw [List.pairwise_append]
   refine ⟨hit.2.sublist hs, by simp, fun a ha b hb => ?_⟩
   rw [List.mem_singleton.1 hb]
   exact (hit.1 a (hs.subset ha)).2.2
 unfold putQ at hp ⊢
 by_cases h3 : q.2.2.2.1 = 1000000
 ·rw [if_pos h3] at hp; cases hp
 rw [if_neg h3] at hp ⊢
 by_cases hf : (q.2.2.2.2.length : Int) = q.2.1
 ·rw [if_pos hf] at hp ⊢
  by_cases hw : q.2.2.1 = false ∨ ix shut q.2.2.2.2 < 0
  ·rw [if_pos hw] at hp; cases hp
  ·rw [if_neg hw]
   rcases ix_spec shut q.2.2.2.2 with ⟨e, _⟩ | ⟨i, x, e, hx, _, _⟩
   ·exact absurd (Or.inr (by rw [e]; decide)) hw
   ·have hi := (List.getElem?_eq_some_iff.1 hx).1
    have hd := dropI_len hi
    rw [e]
    exact snoc _ (drop_sub _ _) (by rw [Int.toNat_natCast, hd]; omega) h3
 ·rw [if_neg hf]
  have := h.len
  exact snoc _ (List.Sublist.refl _) (by omega) h3
theorem put_mem {q : Que} {b : Bdy} (hp : (putQ q b).1 = 0) {m : Msg} (hm : m ∈ q.2.2.2.2) (ho : opn m = true) : m ∈ (putQ q b).2.2.2.2.2 := by
 unfold putQ at hp ⊢
 by_cases h3 : q.2.2.2.1 = 1000000
 ·rw [if_pos h3] at hp; cases hp
 rw [if_neg h3] at hp ⊢
 by_cases hf : (q.2.2.2.2.length : Int) = q.2.1
 ·rw [if_pos hf] at hp ⊢
  by_cases hw : q.2.2.1 = false ∨ ix shut q.2.2.2.2 < 0
  ·rw [if_pos hw] at hp; cases hp
  ·rw [if_neg hw]
   rcases ix_spec shut q.2.2.2.2 with ⟨e, _⟩ | ⟨i, x, e, hx, hs, _⟩
   ·exact absurd (Or.inr (by rw [e]; decide)) hw
   ·rw [e]
    show m ∈ dropI q.2.2.2.2 ((i : Int).toNat) ++ [_]
    rw [List.mem_append, Int.toNat_natCast]
    left
    obtain ⟨k, hk⟩ := List.mem_iff_getElem?.1 hm
    have hki : k ≠ i := by
     intro c
     subst c
     rw [hx] at hk
     injection hk with hk
     subst hk
     unfold shut at hs
     rw [ho] at hs
     cases hs
    unfold dropI
    rw [List.mem_append]
    rcases Nat.lt_or_gt_of_ne hki with c | c
    ·left
     refine List.mem_iff_getElem?.2 ⟨k, ?_⟩
     rw [List.getElem?_take, if_pos c, hk]
    ·right
     refine List.mem_iff_getElem?.2 ⟨k - (i + 1), ?_⟩
     rw [List.getElem?_drop, show i + 1 + (k - (i + 1)) = k by omega, hk]
 ·rw [if_neg hf]
  exact List.mem_append.2 (.inl hm)
theorem key_found {l : List Msg} {m : Msg} (h : m ∈ l) : ∃ (i : Nat) (x : Msg), ix (isK m.1) l = (i : Int) ∧ l[i]? = some x ∧ i < l.length ∧ x.1 = m.1 := by
 rcases ix_spec (isK m.1) l with ⟨_, g⟩ | ⟨i, x, e, hx, hp, _⟩
 ·have := g m h
  unfold isK at this
  simp at this
 ·exact ⟨i, x, e, hx, (List.getElem?_eq_some_iff.1 hx).1, by unfold isK at hp; simpa using hp⟩
end Go.Proofs.YthcmomgkfjjajaaGreatDoor
set_option linter.unusedVariables false
set_option linter.unusedSimpArgs false
namespace Go.Proofs.YthcmomgkfjjajaaGreatDoor
open Go.Ab
def dM : Msg := (0, (0, (ByteArray.empty, (ByteArray.empty, (ByteArray.empty, (false, (false, 0)))))))
def setAns (m : Msg) : Msg := (m.1, (m.2.1, (m.2.2.1, (m.2.2.2.1, (m.2.2.2.2.1, (m.2.2.2.2.2.1, (true, m.2.2.2.2.2.2.2)))))))
def atK (l : List Msg) (key : Int) : Nat := (ix (isK key) l).toNat
def markL (l : List Msg) (key : Int) : List Msg := l.set (atK l key) (setAns (l.getD (atK l key) dM))
def withL (q : Que) (l : List Msg) : Que := (q.1, (q.2.1, (q.2.2.1, (q.2.2.2.1, l))))
def rep (m : Msg) (nm t : ByteArray) : Bdy := (2, (ByteArray.empty, (t, (nm, (false, (false, m.1))))))
def dfl (F : List Dsc) (m : Msg) : ByteArray := if ix (isD m.2.2.1) F < 0 then starN else if strEq (F.getD (ix (isD m.2.2.1) F).toNat dD).2.2.2.2.2.1 ByteArray.empty = true then starN else (F.getD (ix (isD m.2.2.1) F).toNat dD).2.2.2.2.2.1
def fromI (Q : List Que) (m : Msg) : Nat := (ix (isQ m.2.2.2.2.1) Q).toNat
def answerE (Q : List Que) (j : Nat) (m : Msg) (t : ByteArray) : Int × List Que :=
 if (putQ (Q.getD (fromI Q m) dQ) (rep m (Q.getD j dQ).1 t)).1 ≠ 0 then ((putQ (Q.getD (fromI Q m) dQ) (rep m (Q.getD j dQ).1 t)).1, Q)
 else (0, (Q.set (fromI Q m) (putQ (Q.getD (fromI Q m) dQ) (rep m (Q.getD j dQ).1 t)).2).set j
  (withL ((Q.set (fromI Q m) (putQ (Q.getD (fromI Q m) dQ) (rep m (Q.getD j dQ).1 t)).2).getD j dQ) (markL ((Q.set (fromI Q m) (putQ (Q.getD (fromI Q m) dQ) (rep m (Q.getD j dQ).1 t)).2).getD j dQ).2.2.2.2 m.1)))
def removeE (s : Sys) (j : Nat) (key : Int) : Int × List Que :=
 if ix (isK key) (s.2.getD j dQ).2.2.2.2 < 0 then (0, s.2)
 else if opn ((s.2.getD j dQ).2.2.2.2.getD (atK (s.2.getD j dQ).2.2.2.2 key) dM) = true then
  if (answerE s.2 j ((s.2.getD j dQ).2.2.2.2.getD (atK (s.2.getD j dQ).2.2.2.2 key) dM) (dfl s.1 ((s.2.getD j dQ).2.2.2.2.getD (atK (s.2.getD j dQ).2.2.2.2 key) dM))).1 ≠ 0 then
   ((answerE s.2 j ((s.2.getD j dQ).2.2.2.2.getD (atK (s.2.getD j dQ).2.2.2.2 key) dM) (dfl s.1 ((s.2.getD j dQ).2.2.2.2.getD (atK (s.2.getD j dQ).2.2.2.2 key) dM))).1, s.2)
  else (0, (answerE s.2 j ((s.2.getD j dQ).2.2.2.2.getD (atK (s.2.getD j dQ).2.2.2.2 key) dM) (dfl s.1 ((s.2.getD j dQ).2.2.2.2.getD (atK (s.2.getD j dQ).2.2.2.2 key) dM))).2.set j
   (withL ((answerE s.2 j ((s.2.getD j dQ).2.2.2.2.getD (atK (s.2.getD j dQ).2.2.2.2 key) dM) (dfl s.1 ((s.2.getD j dQ).2.2.2.2.getD (atK (s.2.getD j dQ).2.2.2.2 key) dM))).2.getD j dQ)
    (dropI ((answerE s.2 j ((s.2.getD j dQ).2.2.2.2.getD (atK (s.2.getD j dQ).2.2.2.2 key) dM) (dfl s.1 ((s.2.getD j dQ).2.2.2.2.getD (atK (s.2.getD j dQ).2.2.2.2 key) dM))).2.getD j dQ).2.2.2.2
     (atK ((answerE s.2 j ((s.2.getD j dQ).2.2.2.2.getD (atK (s.2.getD j dQ).2.2.2.2 key) dM) (dfl s.1 ((s.2.getD j dQ).2.2.2.2.getD (atK (s.2.getD j dQ).2.2.2.2 key) dM))).2.getD j dQ).2.2.2.2 key))))
 else (0, s.2.set j (withL (s.2.getD j dQ) (dropI (s.2.getD j dQ).2.2.2.2 (atK (s.2.getD j dQ).2.2.2.2 key))))
theorem open_kind {m : Msg} (h : opn m = true) : m.2.1 = 1 ∧ m.2.2.2.2.2.2.1 = false := by
 unfold opn at h
 simpa using h
theorem open_from {Q : List Que} {m : Msg} (h : msgE Q m = 0) (ho : m.2.1 = 1) : ∃ q, Q[fromI Q m]? = some q ∧ ix (isQ m.2.2.2.2.1) Q = (fromI Q m : Int) ∧ q.1 = m.2.2.2.2.1 := by
 unfold msgE at h
 split at h
 ·cases h
 split at h
 ·cases h
 split at h
 ·cases h
 split at h
 ·rename_i hc; exact absurd h hc
 split at h
 ·cases h
 rename_i h5
 split at h
 ·cases h
 rename_i h6
 have he : strEq m.2.2.2.2.1 ByteArray.empty = false := by
  cases hs : strEq m.2.2.2.2.1 ByteArray.empty with
  | false => rfl
  | true => rw [hs, ho] at h6; simp at h6
 rw [he] at h5
 obtain ⟨j, q, e, hq, hj, hn⟩ := ix_get (isQ m.2.2.2.2.1) Q (by simpa using h5)
 have hi : fromI Q m = j := by unfold fromI; rw [e]; rfl
 exact ⟨q, by rw [hi]; exact hq, by rw [hi]; exact e, strEq_iff.1 hn⟩
theorem answer_eq {Q : List Que} {j : Nat} {q qf : Que} (hj : Q[j]? = some q) {m : Msg} (hf : Q[fromI Q m]? = some qf) (t : ByteArray) {qj : Que} (hqj : (Q.set (fromI Q m) (putQ qf (rep m q.1 t)).2)[j]? = some qj) :
  answerE Q j m t = if (putQ qf (rep m q.1 t)).1 ≠ 0 then ((putQ qf (rep m q.1 t)).1, Q) else (0, (Q.set (fromI Q m) (putQ qf (rep m q.1 t)).2).set j (withL qj (markL qj.2.2.2.2 m.1))) := by
 unfold answerE
 rw [getD_of hj, getD_of hf, getD_of hqj]
theorem f768q (q : Que) (key : Int) (hl : q.2.2.2.2.length < 1000) : f768F 1000 ((q.1, (q.2.1, (q.2.2.1, (q.2.2.2.1, q.2.2.2.2)))), key) = some (ix (isK key) q.2.2.2.2) := by
 unfold f768F f800v1F f800v1l0
 have := iter_find (k := 1000) (R := Int × Int × Unit) (Step := fun rec v => f800v1l0s 1000 rec (fun w3 => some (w3.1, w3.2.1, ())) (fun w4 => some (-1, w4.1, ())) v) q.2.2.2.2 (isK key) (fun i => (q.2.2.2.2, (q.2.2.2.2.length : Int), (i : Int), key, ())) (fun i => some (i, key, ())) ?_ ?_ hl
 ·simp only [] at this ⊢
  rw [show ((0 : Int)) = ((0 : Nat) : Int) from rfl, this]
  rfl
 ·intro rec
  unfold f800v1l0s
  simp
 ·intro rec i x hx hi
  unfold f800v1l0s f805v0F
  simp only [ltn hi, nn, Bool.and_self, cond_true, Int.toNat_natCast, getD_of hx, bind_some', wi_succ (i := i) (by omega)]
  rfl
theorem f770q (F : List Dsc) (Q : List Que) (m : Msg) (hl : F.length < 1000) : f770F 1000 ((F, Q), (m.1, (m.2.1, (m.2.2.1, (m.2.2.2.1, (m.2.2.2.2.1, (m.2.2.2.2.2.1, (m.2.2.2.2.2.2.1, m.2.2.2.2.2.2.2)))))))) = some (dfl F m) := by
 unfold f770F f770p0 dfl
 simp only [f790q F m.2.2.1 hl, bind_some']
 rcases ix_spec (isD m.2.2.1) F with ⟨e, _⟩ | ⟨j, d, e, hd, _, _⟩
 ·rw [e]; rfl
 ·have hj := (List.getElem?_eq_some_iff.1 hd).1
  rw [e, if_neg (by omega), bif_true (by simp), bif_true (inb hj)]
  simp only [Int.toNat_natCast, getD_of hd]
  cases strEq d.2.2.2.2.2.1 ByteArray.empty with
  | true => rfl
  | false => simp only [Bool.not_false, cond_true, Bool.false_eq_true, if_false]; rw [bif_true (inb hj)]
theorem answer_place {Q : List Que} {j : Nat} {q qf : Que} (hj : Q[j]? = some q) {m : Msg} (hm : m ∈ q.2.2.2.2) (ho : opn m = true) (hf : Q[fromI Q m]? = some qf) {t : ByteArray} (hz : (putQ qf (rep m q.1 t)).1 = 0) :
  ∃ qj, (Q.set (fromI Q m) (putQ qf (rep m q.1 t)).2)[j]? = some qj ∧ m ∈ qj.2.2.2.2 ∧ qj.1 = q.1 ∧ (qj = q ∨ qj = (putQ qf (rep m q.1 t)).2 ∧ qf = q) := by
 have hjl := (List.getElem?_eq_some_iff.1 hj).1
 by_cases e : fromI Q m = j
 ·rw [e] at hf ⊢
  rw [hj] at hf
  injection hf with hf
  subst hf
  exact ⟨_, List.getElem?_set_self hjl, put_mem hz hm ho, put_name _ _, .inr ⟨rfl, rfl⟩⟩
 ·rw [List.getElem?_set_ne e]
  exact ⟨q, hj, hm, rfl, .inl rfl⟩
theorem f771v0q {s : Sys} (hR : RightS s) {H : Hep} {R : List Row} (hp : Hp H R) (hq : qs H R = s.2) {j : Nat} {q : Que} (hi : ix (isQ q.1) s.2 = (j : Int)) (hj : s.2[j]? = some q) {m : Msg} (hm : m ∈ q.2.2.2.2) (ho : opn m = true) (t : ByteArray) :
  ∃ H' R', f771v0F 1000 (s.1, q.1, m.1, m.2.1, m.2.2.1, m.2.2.2.1, m.2.2.2.2.1, m.2.2.2.2.2.1, m.2.2.2.2.2.2.1, m.2.2.2.2.2.2.2, t, R, H, ()) = some ((answerE s.2 j m t).1, R', H', ()) ∧
   ((answerE s.2 j m t).1 = 0 → Hp H' R' ∧ qs H' R' = (answerE s.2 j m t).2) := by
 have hrq := hR.each q (List.mem_of_getElem? hj)
 obtain ⟨qf, hf, hfi, hfn⟩ := open_from (hrq.iff.1 m hm).1 (open_kind ho).1
 obtain ⟨r, hr, hrf⟩ := qs_row (H := H) (R := R) (by rw [hq]; exact hf)
 have hRl : R.length = s.2.length := by rw [← hq, qs_len]
 have hl := hR.len
 have P := f755v0q (F := s.1) hp (nm := m.2.2.2.2.1) (j := fromI s.2 m) (by rw [hq]; exact hfi) hr (by omega) (by rw [hrf]; exact (hR.each qf (List.mem_of_getElem? hf)).fit) 0 (rep m q.1 t)
 rw [hrf, hq] at P
 obtain ⟨H1, R1, e1, e2⟩ := P
 have e1 : f755v0F 1000 (s.1, m.2.2.2.2.1, 0, 2, ByteArray.empty, t, q.1, false, false, m.1, R, H, ()) = _ := e1
 unfold f771v0F
 simp only [e1, bind_some']
 by_cases hz : (putQ qf (rep m q.1 t)).1 = 0
 ·obtain ⟨hp1, hq1⟩ := e2 hz
  obtain ⟨qj, hqj, hmj, hnj, hor⟩ := answer_place hj hm ho hf hz
  have hns : nms (s.2.set (fromI s.2 m) (putQ qf (rep m q.1 t)).2) = nms s.2 := nms_set hf (put_name _ _)
  obtain ⟨r1, hr1, hrj⟩ := qs_row (H := H1) (R := R1) (by rw [hq1]; exact hqj)
  have hR1l : R1.length = s.2.length := by rw [← qs_len H1 R1, hq1, List.length_set]
  have hi1 : ix (isQ q.1) (qs H1 R1) = (j : Int) := by rw [hq1, ix_names hns, hi]
  have hj1 : j < R1.length := (List.getElem?_eq_some_iff.1 hr1).1
  obtain ⟨xs, c, hk, hc⟩ := hp1.kid hr1
  have hxs : qj.2.2.2.2 = xs := by rw [← hrj]; exact kget_of hk
  have hlen : xs.length ≤ 100 := by
   rw [← hxs]
   rcases hor with e | ⟨e, e'⟩
   ·rw [e]; exact hR.msgs q (List.mem_of_getElem? hj)
   ·rw [e]; exact put_len (hR.each qf (List.mem_of_getElem? hf)).fit _
  obtain ⟨i, x, hix, hx, hil, hxk⟩ := key_found (l := xs) (m := m) (by rw [← hxs]; exact hmj)
  have hplace : ∀ a b c d, f768F 1000 ((a, (b, (c, (d, xs)))), m.1) = some (i : Int) := by
   intro a b c d
   rw [f768q (a, (b, (c, (d, xs)))) m.1 (by show xs.length < 1000; omega), hix]
  rw [bif_false (by simpa using hz)]
  simp only [hp1.alive, Bool.and_self, cond_true, qs_map, f752q s.1 (qs H1 R1) q.1 (by rw [qs_len]; omega), hi1, bind_some', nn, ltn hj1, ltn hil, Int.toNat_natCast, getD_of hr1, kalive_of hk, kget_of hk, kown_of hk, hplace, getD_of hx]
  have hk2 := kset_at hk i (setAns x)
  have U := hp1.upd (H' := kset H1 r1.2.2.2.2 i (setAns x)) hr1 r1 ⟨_, _, hk2, by rw [List.length_set]; exact hc⟩ (.inl rfl) (fun a ha hal => kset_ne _ ha _ _)
  have hself : R1.set j r1 = R1 := by
   apply List.ext_getElem?
   intro a
   by_cases e : j = a
   ·subst e; rw [List.getElem?_set_self hj1, hr1]
   ·rw [List.getElem?_set_ne e]
  rw [hself] at U
  rw [answer_eq hj hf t hqj, if_neg (not_not_intro hz)]
  refine ⟨kset H1 r1.2.2.2.2 i (setAns x), R1, rfl, fun _ => ⟨U.1, U.2.trans ?_⟩⟩
  rw [hq1]
  congr 1
  have hat : atK xs m.1 = i := by unfold atK; rw [hix]; rfl
  rw [← hrj]
  simp only [withL, qOf, kget_of hk, kget_of hk2, markL, hat, getD_of hx]
 ·have hqj : ∃ qj, (s.2.set (fromI s.2 m) (putQ qf (rep m q.1 t)).2)[j]? = some qj := ⟨_, List.getElem?_eq_getElem (by rw [List.length_set]; exact (List.getElem?_eq_some_iff.1 hj).1)⟩
  obtain ⟨qj, hqj⟩ := hqj
  rw [bif_true (bne0 hz), answer_eq hj hf t hqj, if_pos hz]
  exact ⟨H1, R1, rfl, fun e => absurd e hz⟩
end Go.Proofs.YthcmomgkfjjajaaGreatDoor
set_option linter.unusedVariables false
set_option linter.unusedSimpArgs false
namespace Go.Proofs.YthcmomgkfjjajaaGreatDoor
open Go.Ab
theorem remove_none {s : Sys} {j : Nat} {q : Que} (hj : s.2[j]? = some q) {key : Int} (h : ix (isK key) q.2.2.2.2 < 0) : removeE s j key = (0, s.2) := by
 unfold removeE
 rw [getD_of hj, if_pos h]
theorem remove_shut {s : Sys} {j : Nat} {q : Que} (hj : s.2[j]? = some q) {key : Int} {i : Nat} {m : Msg} (hi : ix (isK key) q.2.2.2.2 = (i : Int)) (hm : q.2.2.2.2[i]? = some m) (ho : opn m = false) : removeE s j key = (0, s.2.set j (withL q (dropI q.2.2.2.2 i))) := by
 have hat : atK q.2.2.2.2 key = i := by unfold atK; rw [hi]; rfl
 unfold removeE
 rw [getD_of hj, hi, if_neg (by omega), hat, getD_of hm, ho, if_neg (by decide)]
theorem remove_open {s : Sys} {j : Nat} {q : Que} (hj : s.2[j]? = some q) {key : Int} {i : Nat} {m : Msg} (hi : ix (isK key) q.2.2.2.2 = (i : Int)) (hm : q.2.2.2.2[i]? = some m) (ho : opn m = true) :
  removeE s j key = if (answerE s.2 j m (dfl s.1 m)).1 ≠ 0 then ((answerE s.2 j m (dfl s.1 m)).1, s.2) else (0, (answerE s.2 j m (dfl s.1 m)).2.set j (withL ((answerE s.2 j m (dfl s.1 m)).2.getD j dQ) (dropI ((answerE s.2 j m (dfl s.1 m)).2.getD j dQ).2.2.2.2 (atK ((answerE s.2 j m (dfl s.1 m)).2.getD j dQ).2.2.2.2 key)))) := by
 have hat : atK q.2.2.2.2 key = i := by unfold atK; rw [hi]; rfl
 unfold removeE
 rw [getD_of hj, hi, if_neg (by omega), hat, getD_of hm, ho, if_pos rfl]
theorem answer_post {s : Sys} (hR : RightS s) {j : Nat} {q : Que} (hj : s.2[j]? = some q) {m : Msg} (hm : m ∈ q.2.2.2.2) (ho : opn m = true) (t : ByteArray) (hz : (answerE s.2 j m t).1 = 0) :
  ∃ q', (answerE s.2 j m t).2[j]? = some q' ∧ q'.1 = q.1 ∧ nms (answerE s.2 j m t).2 = nms s.2 ∧ (∃ x ∈ q'.2.2.2.2, x.1 = m.1) ∧ q'.2.2.2.2.length ≤ 100 ∧ (answerE s.2 j m t).2.length = s.2.length := by
 have hrq := hR.each q (List.mem_of_getElem? hj)
 obtain ⟨qf, hf, hfi, hfn⟩ := open_from (hrq.iff.1 m hm).1 (open_kind ho).1
 have hjl := (List.getElem?_eq_some_iff.1 hj).1
 obtain ⟨qj0, hqj0⟩ : ∃ qj, (s.2.set (fromI s.2 m) (putQ qf (rep m q.1 t)).2)[j]? = some qj := ⟨_, List.getElem?_eq_getElem (by rw [List.length_set]; exact hjl)⟩
 have hz1 : (putQ qf (rep m q.1 t)).1 = 0 := by
  rw [answer_eq hj hf t hqj0] at hz
  apply Decidable.byContradiction
  intro c
  rw [if_pos c] at hz
  exact c hz
 obtain ⟨qj, hqj, hmj, hnj, hor⟩ := answer_place hj hm ho hf hz1
 rw [answer_eq hj hf t hqj, if_neg (not_not_intro hz1)]
 obtain ⟨i, x, hix, hx, hil, hxk⟩ := key_found hmj
 have hat : atK qj.2.2.2.2 m.1 = i := by unfold atK; rw [hix]; rfl
 refine ⟨_, List.getElem?_set_self (by rw [List.length_set]; exact hjl), hnj, ?_, ⟨setAns x, ?_, hxk⟩, ?_, by rw [List.length_set, List.length_set]⟩
 ·exact (nms_set (q' := withL qj (markL qj.2.2.2.2 m.1)) hqj rfl).trans (nms_set hf (put_name _ _))
 ·show setAns x ∈ markL qj.2.2.2.2 m.1
  unfold markL
  rw [hat, getD_of hx]
  exact List.mem_iff_getElem?.2 ⟨i, List.getElem?_set_self hil⟩
 ·show (markL qj.2.2.2.2 m.1).length ≤ 100
  unfold markL
  rw [List.length_set]
  rcases hor with e | ⟨e, e'⟩
  ·rw [e]; exact hR.msgs q (List.mem_of_getElem? hj)
  ·rw [e]; exact put_len (hR.each qf (List.mem_of_getElem? hf)).fit _
theorem f764v0q {s : Sys} (hR : RightS s) {H : Hep} {R : List Row} (hp : Hp H R) (hq : qs H R = s.2) {j : Nat} {q : Que} (hi : ix (isQ q.1) s.2 = (j : Int)) (hj : s.2[j]? = some q) (key : Int) :
  ∃ H' R', f764v0F 1000 (s.1, q.1, key, R, H, ()) = some ((removeE s j key).1, R', H', ()) ∧ ((removeE s j key).1 = 0 → Hp H' R' ∧ qs H' R' = (removeE s j key).2) := by
 have hl := hR.len
 have hF := hR.file.len
 have hRl : R.length = s.2.length := by rw [← hq, qs_len]
 have hjl := (List.getElem?_eq_some_iff.1 hj).1
 have hjR : j < R.length := by omega
 obtain ⟨r, hr, hrq⟩ := qs_row (H := H) (R := R) (by rw [hq]; exact hj)
 obtain ⟨xs, c, hk, hc⟩ := hp.kid hr
 have hxs : q.2.2.2.2 = xs := by rw [← hrq]; exact kget_of hk
 have hxl : xs.length ≤ 100 := by rw [← hxs]; exact hR.msgs q (List.mem_of_getElem? hj)
 have hplace : ∀ a b c d, f768F 1000 ((a, (b, (c, (d, xs)))), key) = some (ix (isK key) xs) := by
  intro a b c d
  exact f768q (a, (b, (c, (d, xs)))) key (by show xs.length < 1000; omega)
 unfold f764v0F
 simp only [hp.alive, Bool.and_self, cond_true, qs_map, hq, f752q s.1 s.2 q.1 (by omega), hi, bind_some', nn, ltn hjR, Int.toNat_natCast, getD_of hr, kalive_of hk, kget_of hk, hplace]
 rcases ix_spec (isK key) xs with ⟨e, _⟩ | ⟨i, m, e, hm, hkm, _⟩
 ·rw [e, remove_none hj (by rw [hxs, e]; decide), bif_true (by decide)]
  exact ⟨H, R, rfl, fun _ => ⟨hp, hq⟩⟩
 have hil := (List.getElem?_eq_some_iff.1 hm).1
 have hmk : m.1 = key := by unfold isK at hkm; simpa using hkm
 rw [e, bif_false (by simp)]
 simp only [nn, ltn hil, Bool.and_self, cond_true, Int.toNat_natCast, getD_of hm, f784q, bind_some']
 cases ho : opn m with
 | false =>
  obtain ⟨H1, e1, ⟨c1, hk1, hc1⟩, hold1, hlen1⟩ := f802v0q hk hc (by omega) hil
  simp only [cond_false, wi_succ (i := i) (show i < 9223372036854775807 by omega), e1, bind_some']
  have U := hp.upd (H' := H1) hr (r.1, (r.2.1, (r.2.2.1, (r.2.2.2.1, H.length + 1)))) ⟨_, _, hk1, hc1⟩ (.inr (by simp only; omega)) hold1
  rw [remove_shut hj (by rw [hxs]; exact e) (by rw [hxs]; exact hm) ho]
  refine ⟨_, _, rfl, fun _ => ⟨U.1, U.2.trans ?_⟩⟩
  rw [hq]
  congr 1
  rw [← hrq]
  simp only [withL, qOf, kget_of hk, kget_of hk1]
 | true =>
  have hmem : m ∈ q.2.2.2.2 := by rw [hxs]; exact List.mem_of_getElem? hm
  obtain ⟨H1, R1, e1, e2⟩ := f771v0q hR hp hq hi hj hmem ho (dfl s.1 m)
  simp only [cond_true, f770q s.1 s.2 m (by omega), bind_some', e1]
  rw [remove_open hj (by rw [hxs]; exact e) (by rw [hxs]; exact hm) ho]
  by_cases hz : (answerE s.2 j m (dfl s.1 m)).1 = 0
  ·obtain ⟨hp1, hq1⟩ := e2 hz
   obtain ⟨q', hq', hn', _, ⟨x', hx', hxk'⟩, hl', hlen'⟩ := answer_post hR hj hmem ho _ hz
   obtain ⟨r1, hr1, hrq1⟩ := qs_row (H := H1) (R := R1) (by rw [hq1]; exact hq')
   obtain ⟨ys, c1, hk1, hc1⟩ := hp1.kid hr1
   have hys : q'.2.2.2.2 = ys := by rw [← hrq1]; exact kget_of hk1
   rw [hys] at hl' hx'
   obtain ⟨i1, x1, e3, hx1, hi1, _⟩ := key_found hx'
   rw [hxk', hmk] at e3
   have hplace1 : ∀ a b c d, f768F 1000 ((a, (b, (c, (d, ys)))), key) = some (i1 : Int) := by
    intro a b c d
    rw [← e3]
    exact f768q (a, (b, (c, (d, ys)))) key (by show ys.length < 1000; omega)
   have hj1 : j < R1.length := (List.getElem?_eq_some_iff.1 hr1).1
   obtain ⟨H2, e4, ⟨c2, hk2, hc2⟩, hold2, hlen2⟩ := f802v0q hk1 hc1 (by omega) hi1
   rw [if_neg (not_not_intro hz), bif_false (by simpa using hz)]
   simp only [getD_of hr1, kalive_of hk1, kget_of hk1, Bool.and_self, cond_true, hplace1, bind_some', wi_succ (i := i1) (show i1 < 9223372036854775807 by omega), e4]
   have U := hp1.upd (H' := H2) hr1 (r1.1, (r1.2.1, (r1.2.2.1, (r1.2.2.2.1, H1.length + 1)))) ⟨_, _, hk2, hc2⟩ (.inr (by simp only; omega)) hold2
   refine ⟨_, _, rfl, fun _ => ⟨U.1, U.2.trans ?_⟩⟩
   rw [hq1, getD_of hq']
   congr 1
   have hat : atK ys key = i1 := by unfold atK; rw [e3]; rfl
   rw [← hrq1]
   simp only [withL, qOf, kget_of hk1, kget_of hk2, hat]
  ·rw [if_pos hz, bif_true (bne0 hz)]
   exact ⟨H1, R1, rfl, fun c => absurd c hz⟩
theorem f772q (F : List Dsc) (Q : List Que) (m : Msg) (hl : F.length < 1000) : f772F 1000 ((F, Q), (m.1, (m.2.1, (m.2.2.1, (m.2.2.2.1, (m.2.2.2.2.1, (m.2.2.2.2.2.1, (m.2.2.2.2.2.2.1, m.2.2.2.2.2.2.2)))))))) = some (dfl F m) := by
 unfold f772F dfl
 simp only [f749q F m.2.2.1 hl, bind_some']
 rcases ix_spec (isD m.2.2.1) F with ⟨e, _⟩ | ⟨j, d, e, hd, _, _⟩
 ·rw [e]; rfl
 ·have hj := (List.getElem?_eq_some_iff.1 hd).1
  rw [e, if_neg (by omega), bif_false (by simp), bif_true (inb hj)]
  simp only [Int.toNat_natCast, getD_of hd]
  cases strEq d.2.2.2.2.2.1 ByteArray.empty with
  | true => rfl
  | false => simp only [cond_false, Bool.false_eq_true, if_false]; rw [bif_true (inb hj)]
theorem f774v0q {s : Sys} (hR : RightS s) (H : Hep) {j : Nat} {q : Que} (hj : s.2[j]? = some q) {i : Nat} {m : Msg} (hi : ix (isK m.1) q.2.2.2.2 = (i : Int)) (hm : q.2.2.2.2[i]? = some m) (ho : opn m = true) (t : ByteArray) :
  ∃ H' F' R', f774v0F 1000 (s.1, s.2, (j : Int), m.1, t, H, ()) = some ((answerE s.2 j m t).1, H', F', R', ()) ∧
   ((answerE s.2 j m t).1 = 0 → F' = s.1 ∧ Hp H' R' ∧ qs H' R' = (answerE s.2 j m t).2) ∧ ((answerE s.2 j m t).1 ≠ 0 → F' = [] ∧ R' = []) := by
 have hrq := hR.each q (List.mem_of_getElem? hj)
 have hmem := List.mem_of_getElem? hm
 obtain ⟨qf, hf, hfi, hfn⟩ := open_from (hrq.iff.1 m hmem).1 (open_kind ho).1
 have hl := hR.len
 have hjl := (List.getElem?_eq_some_iff.1 hj).1
 have hil := (List.getElem?_eq_some_iff.1 hm).1
 have hql := hR.msgs q (List.mem_of_getElem? hj)
 obtain ⟨H1, F1, R1, e1, e2, e3⟩ := f757v0q H hR.file (show s.2.length ≤ 100 by omega) hR.msgs hf (hR.each qf (List.mem_of_getElem? hf)).fit 0 (rep m q.1 t)
 have e1 : f757v0F 1000 (s.1, s.2, (fromI s.2 m : Int), 0, 2, ByteArray.empty, t, q.1, false, false, m.1, H, ()) = _ := e1
 unfold f774v0F
 simp only [inb hjl, cond_true, Int.toNat_natCast, getD_of hj, f733q q m.1 (by omega), hi, bind_some', inb hil, getD_of hm, f731q s.1 s.2 m.2.2.2.2.1 (by omega), hfi, e1]
 by_cases hz : (putQ qf (rep m q.1 t)).1 = 0
 ·obtain ⟨hF1, hp1, hq1⟩ := e2 hz
  obtain ⟨qj, hqj, hmj, hnj, hor⟩ := answer_place hj hmem ho hf hz
  obtain ⟨r1, hr1, hrj⟩ := qs_row (H := H1) (R := R1) (by rw [hq1]; exact hqj)
  have hj1 : j < R1.length := (List.getElem?_eq_some_iff.1 hr1).1
  obtain ⟨xs, c, hk, hc⟩ := hp1.kid hr1
  have hxs : qj.2.2.2.2 = xs := by rw [← hrj]; exact kget_of hk
  have hlen : xs.length ≤ 100 := by
   rw [← hxs]
   rcases hor with e | ⟨e, e'⟩
   ·rw [e]; exact hql
   ·rw [e]; exact put_len (hR.each qf (List.mem_of_getElem? hf)).fit _
  obtain ⟨i1, x, hix, hx, hil1, hxk⟩ := key_found (l := xs) (m := m) (by rw [← hxs]; exact hmj)
  have hplace : ∀ a b c d, f733F 1000 ((a, (b, (c, (d, xs)))), m.1) = some (i1 : Int) := by
   intro a b c d
   rw [f733q (a, (b, (c, (d, xs)))) m.1 (by show xs.length < 1000; omega), hix]
  rw [bif_false (by simpa using hz)]
  simp only [Bool.and_self, Bool.and_true, cond_true, Int.toNat_natCast, getD_of hr1, kalive_of hk, kget_of hk, kown_of hk, hplace, bind_some', nn, ltn hj1, ltn hil1, getD_of hx]
  have hk2 := kset_at hk i1 (setAns x)
  have U := hp1.upd (H' := kset H1 r1.2.2.2.2 i1 (setAns x)) hr1 r1 ⟨_, _, hk2, by rw [List.length_set]; exact hc⟩ (.inl rfl) (fun a ha hal => kset_ne _ ha _ _)
  have hself : R1.set j r1 = R1 := by
   apply List.ext_getElem?
   intro a
   by_cases e : j = a
   ·subst e; rw [List.getElem?_set_self hj1, hr1]
   ·rw [List.getElem?_set_ne e]
  rw [hself] at U
  rw [answer_eq hj hf t hqj, if_neg (not_not_intro hz)]
  refine ⟨kset H1 r1.2.2.2.2 i1 (setAns x), F1, R1, rfl, fun _ => ⟨hF1, U.1, U.2.trans ?_⟩, fun c => absurd rfl c⟩
  rw [hq1]
  congr 1
  have hat : atK xs m.1 = i1 := by unfold atK; rw [hix]; rfl
  rw [← hrj]
  simp only [withL, qOf, kget_of hk, kget_of hk2, markL, hat, getD_of hx]
 ·obtain ⟨qj, hqj⟩ : ∃ qj, (s.2.set (fromI s.2 m) (putQ qf (rep m q.1 t)).2)[j]? = some qj := ⟨_, List.getElem?_eq_getElem (by rw [List.length_set]; exact hjl)⟩
  rw [bif_true (bne0 hz), answer_eq hj hf t hqj, if_pos hz]
  exact ⟨H1, F1, R1, rfl, fun e => absurd e hz, fun _ => e3 hz⟩
theorem f767p1q {R0 : Type} (k0 : Int × Int × ByteArray × Int × Bool × Int × Nat × List Dsc × List Row × List Dsc × List Row × Hep × Unit → Option R0) {G : Hep} {id : Nat} {xs : List Msg} {c : Nat} (hk : kidAt G id = .own xs c) (hc : xs.length ≤ c) (hl : xs.length ≤ 100) {i : Nat} (hi : i < xs.length) (jj key : Int) (nm : ByteArray) (lim : Int) (wr0 : Bool) (nx : Int) (F1 : List Dsc) (R1 : List Row) (F : List Dsc) (R : List Row) :
  f767p1 1000 k0 ((i : Int), jj, key, nm, lim, wr0, nx, id, F1, R1, F, R, G, ()) = k0 (jj, key, nm, lim, wr0, nx, G.length + 1, F1, R1, F, R, kapp G id i (xs.drop (i + 1)), ()) := by
 unfold f767p1
 have hcap : (xs.length : Int) ≤ ((max c xs.length : Nat) : Int) := by omega
 rw [bif_true (by simp)]
 simp only [wi_succ (i := i) (show i < 9223372036854775807 by omega), kalive_of hk, kown_of hk, kcap_of hk, kget_of hk, Bool.true_and, Int.toNat_natCast, List.take_length]
 rw [bif_true (sliceB0 (by omega)), bif_true (sliceB (by omega) (by omega)), bif_true (by simp; omega)]
set_option maxHeartbeats 4000000 in
theorem f767q {s : Sys} (hR : RightS s) {j : Nat} {q : Que} (hj : s.2[j]? = some q) {i : Nat} {m : Msg} (hi : ix (isK m.1) q.2.2.2.2 = (i : Int)) (hm : q.2.2.2.2[i]? = some m) :
  f767F 1000 ((s.1, s.2), ((j : Int), m.1)) = some ((if (removeE s j m.1).1 ≠ 0 then ([], []) else (s.1, (removeE s j m.1).2)), (removeE s j m.1).1) := by
 have hl := hR.len
 have hF := hR.file.len
 have hjl := (List.getElem?_eq_some_iff.1 hj).1
 have hil := (List.getElem?_eq_some_iff.1 hm).1
 have hql := hR.msgs q (List.mem_of_getElem? hj)
 have hmem := List.mem_of_getElem? hm
 -- behind what may be answered
 have tail : ∀ (H : Hep) (R : List Row) (q' : Que), Hp H R → (qs H R)[j]? = some q' → (∃ x ∈ q'.2.2.2.2, x.1 = m.1) → q'.2.2.2.2.length ≤ 100 →
   (bif ((decide ((0 : Int) ≤ (j : Int))) && (decide ((j : Int) < (R.length : Int)))) then
    Option.bind (bif (((kalive H (R.getD (Int.toNat (j : Int)) (ByteArray.empty, (0, (false, (0, (0 : Nat)))))).2.2.2.2 && true) && true) && true) then f733F 1000 (((R.getD (Int.toNat (j : Int)) (ByteArray.empty, (0, (false, (0, (0 : Nat)))))).1, ((R.getD (Int.toNat (j : Int)) (ByteArray.empty, (0, (false, (0, (0 : Nat)))))).2.1, ((R.getD (Int.toNat (j : Int)) (ByteArray.empty, (0, (false, (0, (0 : Nat)))))).2.2.1, ((R.getD (Int.toNat (j : Int)) (ByteArray.empty, (0, (false, (0, (0 : Nat)))))).2.2.2.1, (kget H (R.getD (Int.toNat (j : Int)) (ByteArray.empty, (0, (false, (0, (0 : Nat)))))).2.2.2.2))))), m.1) else none) fun y16 =>
    f767p1 1000
     (fun (w18 : Int × Int × ByteArray × Int × Bool × Int × Nat × List Dsc × List Row × List Dsc × List Row × Hep × Unit) =>
      bif ((decide ((0 : Int) ≤ w18.1)) && (decide (w18.1 < (w18.2.2.2.2.2.2.2.2.2.2.1.length : Int)))) then
      let t19 := (w18.2.2.2.2.2.2.2.2.2.2.1.set (Int.toNat w18.1) (w18.2.2.1, (w18.2.2.2.1, (w18.2.2.2.2.1, (w18.2.2.2.2.2.1, w18.2.2.2.2.2.2.1)))))
      bif (((t19.all fun q => (true && (true && (true && (true && (kro (List.map Kid.frz w18.2.2.2.2.2.2.2.2.2.2.2.1) q.2.2.2.2)))))) && true) && true) then
      some ((w18.2.2.2.2.2.2.2.2.2.1, (t19.map fun q => (q.1, (q.2.1, (q.2.2.1, (q.2.2.2.1, (kget (List.map Kid.frz w18.2.2.2.2.2.2.2.2.2.2.2.1) q.2.2.2.2))))))), (0 : Int))
      else none
      else none)
     (y16, (j : Int), m.1, (R.getD (Int.toNat (j : Int)) (ByteArray.empty, (0, (false, (0, (0 : Nat)))))).1, (R.getD (Int.toNat (j : Int)) (ByteArray.empty, (0, (false, (0, (0 : Nat)))))).2.1, (R.getD (Int.toNat (j : Int)) (ByteArray.empty, (0, (false, (0, (0 : Nat)))))).2.2.1, (R.getD (Int.toNat (j : Int)) (ByteArray.empty, (0, (false, (0, (0 : Nat)))))).2.2.2.1, (R.getD (Int.toNat (j : Int)) (ByteArray.empty, (0, (false, (0, (0 : Nat)))))).2.2.2.2, [], [], s.1, R, H, ())
   else none) = some ((s.1, (qs H R).set j (withL q' (dropI q'.2.2.2.2 (atK q'.2.2.2.2 m.1)))), 0) := by
  intro H R q' hp hq' hx' hl'
  obtain ⟨r, hr, hrq⟩ := qs_row hq'
  have hjR := (List.getElem?_eq_some_iff.1 hr).1
  obtain ⟨xs, c, hk, hc⟩ := hp.kid hr
  have hxs : q'.2.2.2.2 = xs := by rw [← hrq]; exact kget_of hk
  rw [hxs] at hx' hl'
  obtain ⟨x', hx', hxk'⟩ := hx'
  obtain ⟨i1, x1, e3, hx1, hi1, _⟩ := key_found hx'
  rw [hxk'] at e3
  have hplace : ∀ a b c d, f733F 1000 ((a, (b, (c, (d, xs)))), m.1) = some (i1 : Int) := by
   intro a b c d
   rw [← e3]
   exact f733q (a, (b, (c, (d, xs)))) m.1 (by show xs.length < 1000; omega)
  have hk2 := kapp_new H r.2.2.2.2 i1 (xs.drop (i1 + 1))
  rw [kget_of hk, kroom_of hk] at hk2
  have hd := dropI_len hi1
  have hk2 : kidAt (kapp H r.2.2.2.2 i1 (xs.drop (i1 + 1))) (H.length + 1) = .own (dropI xs i1) (max c (i1 + (xs.drop (i1 + 1)).length)) := hk2
  have U := hp.upd (H' := kapp H r.2.2.2.2 i1 (xs.drop (i1 + 1))) hr (r.1, (r.2.1, (r.2.2.1, (r.2.2.2.1, H.length + 1)))) ⟨_, _, hk2, by omega⟩ (.inr (by simp only; omega)) (fun a ha hal => kapp_old _ _ _ ha hal)
  simp only [inb hjR, cond_true, Int.toNat_natCast, getD_of hr, kalive_of hk, kget_of hk, Bool.and_self, Bool.and_true, hplace, bind_some']
  rw [f767p1q _ hk hc hl' hi1]
  simp only [inb hjR, cond_true, Int.toNat_natCast, U.1.frz, Bool.and_self, qs_frz, U.2]
  congr 3
  have hat : atK xs m.1 = i1 := by unfold atK; rw [e3]; rfl
  rw [← hrq]
  simp only [withL, qOf, kget_of hk, kget_of hk2, hat]
 unfold f767F
 obtain ⟨hp0, hq0⟩ := own_hp [] s.2
 simp only [inb hjl, cond_true, Int.toNat_natCast, getD_of hj, f733q q m.1 (by omega), hi, bind_some', inb hil, getD_of hm, f716v0q [] hR.file (show s.2.length ≤ 100 by omega) hR.msgs]
 unfold f767p0
 simp only [f787q, bind_some']
 cases ho : opn m with
 | false =>
  rw [cond_false, remove_shut hj hi hm ho, if_neg (not_not_intro rfl)]
  have hat : atK q.2.2.2.2 m.1 = i := by unfold atK; rw [hi]; rfl
  have T := tail ([] ++ ownK s.2) (ownR s.2 ([] : Hep).length) q hp0 (by rw [hq0]; exact hj) ⟨m, hmem, rfl⟩ hql
  rw [hq0, hat] at T
  exact T
 | true =>
  obtain ⟨H1, F1, R1, e1, e2, e3⟩ := f774v0q hR ([] ++ ownK s.2) hj hi hm ho (dfl s.1 m)
  simp only [cond_true, f772q s.1 s.2 m (by omega), bind_some', e1]
  rw [remove_open hj hi hm ho]
  by_cases hz : (answerE s.2 j m (dfl s.1 m)).1 = 0
  ·obtain ⟨hF1, hp1, hq1⟩ := e2 hz
   obtain ⟨q', hq', hn', _, hx', hl', _⟩ := answer_post hR hj hmem ho _ hz
   subst hF1
   have T := tail H1 R1 q' hp1 (by rw [hq1]; exact hq') hx' hl'
   rw [bif_false (by simpa using hz), if_neg (not_not_intro hz), getD_of hq']
   rw [hq1] at T
   exact T
  ·rw [bif_true (bne0 hz), if_pos hz]
   simp only []
   rw [if_pos hz]
end Go.Proofs.YthcmomgkfjjajaaGreatDoor
set_option linter.unusedVariables false
set_option linter.unusedSimpArgs false
namespace Go.Proofs.YthcmomgkfjjajaaGreatDoor
open Go.Ab
structure TxtOk (t : ByteArray) : Prop where
 ne : strEq t ByteArray.empty = false
 tx : txE t 256 = 0
theorem txE_mono {t : ByteArray} {n : Int} (h : txE t n = 0) (hn : n ≤ 256) : txE t 256 = 0 := by
 unfold txE at *
 split at h
 ·cases h
 ·rename_i h1
  rw [if_neg (by omega)]
  exact h
theorem dfl_ok {s : Sys} (h : RightS s) (m : Msg) : TxtOk (dfl s.1 m) := by
 unfold dfl
 split
 ·exact ⟨by kernel_rfl, by kernel_rfl⟩
 ·rename_i hi
  obtain ⟨j, d, e, hd, hj, hR, _, _⟩ := desc_get h hi
  rw [e, Int.toNat_natCast, getD_of hd]
  split
  ·exact ⟨by kernel_rfl, by kernel_rfl⟩
  ·rename_i hs
   exact ⟨by simpa using hs, txE_mono hR.dflt (by decide)⟩
theorem nm_ne {nm : ByteArray} (h : isNm nm = true) : strEq nm ByteArray.empty = false := by
 cases he : strEq nm ByteArray.empty with
 | false => rfl
 | true =>
  rw [strEq_iff.1 he] at h
  exact absurd h (by decide)
theorem rep_ok {Q : List Que} {m : Msg} {nm t : ByteArray} (nx : Int) (hn : isNm nm = true) (hi : ix (isQ nm) Q ≠ -1) (ht : TxtOk t) (h1 : 1 ≤ m.1) (h2 : m.1 ≤ 1000000) : msgE Q (nx, rep m nm t) = 0 := by
 have hne := nm_ne hn
 have hq : (ix (isQ nm) Q == -1) = false := by simpa using hi
 have hk : (decide (1 ≤ m.1) && decide (m.1 ≤ 1000000)) = true := by rw [decide_eq_true h1, decide_eq_true h2]; rfl
 have he : strEq ByteArray.empty ByteArray.empty = true := strEq_self _
 unfold msgE rep frmB
 simp only [ht.ne, ht.tx, hne, hq, hk, he]
 simp
theorem frm_ans {m : Msg} (hk : m.2.1 = 1) (h : frmB m = false) : frmB (setAns m) = false := by
 unfold frmB setAns at *
 simp only [hk] at *
 simpa using h
theorem msg_ans {Q : List Que} {m : Msg} (h : msgE Q m = 0) (hk : m.2.1 = 1) : msgE Q (setAns m) = 0 := by
 have hf : frmB m = false := by
  cases hf : frmB m with
  | false => rfl
  | true =>
   exfalso
   unfold msgE at h
   rw [hf] at h
   repeat' split at h
   all_goals first | (cases h; done) | (rename_i hc; exact absurd h hc) | (rename_i hc _; exact absurd h hc) | (rename_i _ hc _ _; exact absurd h hc) | simp at *
 have h2 := frm_ans hk hf
 unfold msgE at h ⊢
 rw [h2]
 rw [hf] at h
 exact h
theorem Right.names {s : Sys} (h : Right s) {j : Nat} {q : Que} (hj : s.2[j]? = some q) : ix (isQ q.1) s.2 ≠ -1 := by
 rcases ix_spec (isQ q.1) s.2 with ⟨_, g⟩ | ⟨i, x, e, _, _, _⟩
 ·have := g q (List.mem_of_getElem? hj)
  unfold isQ at this
  rw [strEq_self] at this
  cases this
 ·rw [e]; omega
theorem answer_right {s : Sys} (h : Right s) {j : Nat} {q : Que} (hj : s.2[j]? = some q) {m : Msg} (hm : m ∈ q.2.2.2.2) (ho : opn m = true) {t : ByteArray} (ht : TxtOk t) (hz : (answerE s.2 j m t).1 = 0) : Right (s.1, (answerE s.2 j m t).2) := by
 have hrq := h.r.each q (List.mem_of_getElem? hj)
 obtain ⟨qf, hf, hfi, hfn⟩ := open_from (hrq.iff.1 m hm).1 (open_kind ho).1
 have hjl := (List.getElem?_eq_some_iff.1 hj).1
 obtain ⟨qj0, hqj0⟩ : ∃ qj, (s.2.set (fromI s.2 m) (putQ qf (rep m q.1 t)).2)[j]? = some qj := ⟨_, List.getElem?_eq_getElem (by rw [List.length_set]; exact hjl)⟩
 have hz1 : (putQ qf (rep m q.1 t)).1 = 0 := by
  rw [answer_eq hj hf t hqj0] at hz
  apply Decidable.byContradiction
  intro c
  rw [if_pos c] at hz
  exact c hz
 obtain ⟨qj, hqj, hmj, hnj, hor⟩ := answer_place hj hm ho hf hz1
 rw [answer_eq hj hf t hqj, if_neg (not_not_intro hz1)]
 have hk := hrq.iff.1 m hm
 have hnx := hrq.n2
 have h1 : Right (s.1, s.2.set (fromI s.2 m) (putQ qf (rep m q.1 t)).2) := h.set hf (put_name _ _) ((h.r.each qf (List.mem_of_getElem? hf)).put hz1 (rep_ok _ hrq.nm (h.names hj) ht (by omega) (by omega)))
 obtain ⟨i, x, hix, hx, hil, hxk⟩ := key_found hmj
 have hrj : RightQ (s.2.set (fromI s.2 m) (putQ qf (rep m q.1 t)).2) qj := h1.r.each qj (List.mem_of_getElem? hqj)
 have hxm : x = m := hrj.uniq (List.mem_of_getElem? hx) hmj hxk
 subst hxm
 have hat : atK qj.2.2.2.2 x.1 = i := by unfold atK; rw [hix]; rfl
 have hw : markL qj.2.2.2.2 x.1 = qj.2.2.2.2.set i (setAns x) := by unfold markL; rw [hat, getD_of hx]
 rw [hw]
 have hmx : msgE (s.2.set (fromI s.2 x) (putQ qf (rep x q.1 t)).2) x = 0 := (hrj.iff.1 x hmj).1
 exact h1.set (q' := withL qj (qj.2.2.2.2.set i (setAns x))) hqj rfl (hrj.turn (m' := setAns x) hx rfl (msg_ans hmx (open_kind ho).1))
theorem remove_right {s : Sys} (h : Right s) {j : Nat} {q : Que} (hj : s.2[j]? = some q) {key : Int} (hz : (removeE s j key).1 = 0) : Right (s.1, (removeE s j key).2) ∧ nms (removeE s j key).2 = nms s.2 := by
 rcases ix_spec (isK key) q.2.2.2.2 with ⟨e, _⟩ | ⟨i, m, e, hm, hkm, _⟩
 ·rw [remove_none hj (by rw [e]; decide)]
  exact ⟨h, rfl⟩
 have hmk : m.1 = key := by unfold isK at hkm; simpa using hkm
 have hrq := h.r.each q (List.mem_of_getElem? hj)
 cases ho : opn m with
 | false =>
  rw [remove_shut hj e hm ho]
  exact ⟨h.set (q' := withL q (dropI q.2.2.2.2 i)) hj rfl (hrq.sub (drop_sub _ _)), nms_set (q' := withL q (dropI q.2.2.2.2 i)) hj rfl⟩
 | true =>
  have hmem := List.mem_of_getElem? hm
  rw [remove_open hj e hm ho] at hz ⊢
  by_cases hz1 : (answerE s.2 j m (dfl s.1 m)).1 = 0
  ·rw [if_neg (not_not_intro hz1)]
   have h1 := answer_right h hj hmem ho (dfl_ok h.r m) hz1
   obtain ⟨q', hq', hn', hns, _, _, _⟩ := answer_post h.r hj hmem ho _ hz1
   rw [getD_of hq']
   have hr' : RightQ (answerE s.2 j m (dfl s.1 m)).2 q' := h1.r.each q' (List.mem_of_getElem? hq')
   exact ⟨h1.set (q' := withL q' _) hq' rfl (hr'.sub (drop_sub _ _)), (nms_set (q' := withL q' (dropI q'.2.2.2.2 (atK q'.2.2.2.2 key))) hq' rfl).trans hns⟩
  ·rw [if_pos hz1] at hz; exact absurd hz hz1
theorem nms_get {Q Q' : List Que} (h : nms Q' = nms Q) {j : Nat} {q : Que} (hj : Q[j]? = some q) : ∃ q', Q'[j]? = some q' ∧ q'.1 = q.1 := by
 have a : (nms Q)[j]? = some q.1 := by unfold nms; rw [List.getElem?_map, hj]; rfl
 rw [← h] at a
 unfold nms at a
 rw [List.getElem?_map] at a
 cases hq : Q'[j]? with
 | none => rw [hq] at a; cases a
 | some q' => rw [hq] at a; exact ⟨q', rfl, by simpa using a⟩
end Go.Proofs.YthcmomgkfjjajaaGreatDoor
set_option linter.unusedVariables false
set_option linter.unusedSimpArgs false
namespace Go.Proofs.YthcmomgkfjjajaaGreatDoor
open Go.Ab
theorem que_Right {s : Sys} (hF : Few s) {nm : ByteArray} (h : qErr s nm = 0) : Right s := by
 unfold qErr at h
 split at h
 ·rename_i h1; exact absurd h h1
 ·rename_i h1
  exact sys_Right hF.file (by simpa using h1)
end Go.Proofs.YthcmomgkfjjajaaGreatDoor
set_option linter.unusedVariables false
set_option linter.unusedSimpArgs false
namespace Go.Proofs.YthcmomgkfjjajaaGreatDoor
open Go.Ab
abbrev Rply := ByteArray × (Int × ByteArray)
def refE (F : List Dsc) (m : Msg) (t : ByteArray) : Int :=
 if txE t 32 ≠ 0 then txE t 32 else if (strEq t ByteArray.empty || strEq t (dfl F m)) = true then 0
 else if ix (isD m.2.2.1) F < 0 then 0
 else if (F.getD (ix (isD m.2.2.1) F).toNat dD).2.2.2.2.2.2.length = 0 ∨ has (F.getD (ix (isD m.2.2.1) F).toNat dD).2.2.2.2.2.2 t = true then 0 else 39
def repT (F : List Dsc) (m : Msg) (t : ByteArray) : ByteArray := if strEq t ByteArray.empty = true then dfl F m else t
def repliedE (s : Sys) (x : Rply) : Sys × Int :=
 if qErr s x.1 ≠ 0 then (([], []), qErr s x.1)
 else if ix (isK x.2.1) (queS s x.1).2.2.2.2 < 0 then (([], []), 11)
 else if ((queS s x.1).2.2.2.2.getD (atK (queS s x.1).2.2.2.2 x.2.1) dM).2.1 ≠ 1 then (([], []), 4)
 else if ((queS s x.1).2.2.2.2.getD (atK (queS s x.1).2.2.2.2 x.2.1) dM).2.2.2.2.2.2.1 = true then (([], []), 26)
 else if refE s.1 ((queS s x.1).2.2.2.2.getD (atK (queS s x.1).2.2.2.2 x.2.1) dM) x.2.2 ≠ 0 then (([], []), refE s.1 ((queS s x.1).2.2.2.2.getD (atK (queS s x.1).2.2.2.2 x.2.1) dM) x.2.2)
 else if (answerE s.2 (queI s x.1) ((queS s x.1).2.2.2.2.getD (atK (queS s x.1).2.2.2.2 x.2.1) dM) (repT s.1 ((queS s x.1).2.2.2.2.getD (atK (queS s x.1).2.2.2.2 x.2.1) dM) x.2.2)).1 ≠ 0 then
  (([], []), (answerE s.2 (queI s x.1) ((queS s x.1).2.2.2.2.getD (atK (queS s x.1).2.2.2.2 x.2.1) dM) (repT s.1 ((queS s x.1).2.2.2.2.getD (atK (queS s x.1).2.2.2.2 x.2.1) dM) x.2.2)).1)
 else ((s.1, (answerE s.2 (queI s x.1) ((queS s x.1).2.2.2.2.getD (atK (queS s x.1).2.2.2.2 x.2.1) dM) (repT s.1 ((queS s x.1).2.2.2.2.getD (atK (queS s x.1).2.2.2.2 x.2.1) dM) x.2.2)).2), 0)
theorem f769q {s : Sys} (hR : RightS s) (m : Msg) {t : ByteArray} (ht : t.size < 1000) : f769F 1000 ((s.1, s.2), (m.1, (m.2.1, (m.2.2.1, (m.2.2.2.1, (m.2.2.2.2.1, (m.2.2.2.2.2.1, (m.2.2.2.2.2.2.1, m.2.2.2.2.2.2.2))))))), t) = some (refE s.1 m t) := by
 have hF := hR.file.len
 unfold f769F refE
 simp only [f797q t 32 ht, bind_some', f770q s.1 s.2 m (by omega), f790q s.1 m.2.2.1 (by omega), f761q]
 by_cases hz : txE t 32 = 0
 ·rw [if_neg (not_not_intro hz), hz, bif_false (by rfl)]
  cases strEq t ByteArray.empty with
  | true => rfl
  | false =>
   cases strEq t (dfl s.1 m) with
   | true => rfl
   | false =>
    simp only [Bool.or_self, Bool.false_eq_true, if_false, cond_false]
    rcases ix_spec (isD m.2.2.1) s.1 with ⟨e, _⟩ | ⟨j, d, e, hd, _, _⟩
    ·rw [e]; rfl
    ·have hj := (List.getElem?_eq_some_iff.1 hd).1
     have hm : mxI (j : Int) 0 = (j : Int) := by unfold mxI; split <;> omega
     have hrl := (hR.file.each d (List.mem_of_getElem? hd)).reps
     rw [e, if_neg (show ¬ ((j : Int) < 0) by omega), bif_true (by simp)]
     simp only [hm, inb hj, cond_true, Int.toNat_natCast, getD_of hd]
     by_cases h0 : d.2.2.2.2.2.2.length = 0
     ·rw [if_pos (.inl h0), bif_false (by rw [h0]; rfl)]
     ·rw [bif_true (by rw [decide_eq_true_eq]; omega)]
      simp only [f806q _ t (show d.2.2.2.2.2.2.length < 1000 by omega), bind_some']
      cases hh : has d.2.2.2.2.2.2 t with
      | true => rw [if_pos (.inr rfl)]; rfl
      | false => rw [if_neg (fun c => c.elim h0 (by decide))]; rfl
 ·rw [if_pos hz, bif_true (bne0 hz)]
theorem opn_of {m : Msg} (h1 : m.2.1 = 1) (h2 : m.2.2.2.2.2.2.1 = false) : opn m = true := by
 unfold opn
 rw [h1, h2]; rfl
theorem f721q {s : Sys} (hF : Few s) (x : Rply) (ht : x.2.2.size < 1000) : f721F 1000 ((s.1, s.2), x.1, x.2.1, x.2.2) = some (repliedE s x) := by
 have hl := hF.len
 unfold f721F repliedE
 simp only [f751one hF, bind_some']
 by_cases hz : qErr s x.1 = 0
 ·obtain ⟨hR, q, hq, hqs, hqi, hqn⟩ := que_get hF hz
  have hql := hR.msgs q (List.mem_of_getElem? hq)
  have hj := (List.getElem?_eq_some_iff.1 hq).1
  have hFl := hR.file.len
  rw [hqs, if_neg (not_not_intro hz), bif_false (by simpa using hz)]
  simp only [f752q s.1 s.2 x.1 (by omega), hqi, bind_some', inb hj, cond_true, Int.toNat_natCast, getD_of hq, f768q q x.2.1 (by omega), f761q, f760q _ (show ([_, _] : List Int).length < 1000 by simp), fst0_2]
  rcases ix_spec (isK x.2.1) q.2.2.2.2 with ⟨e, _⟩ | ⟨i, m, e, hm, hkm, _⟩
  ·rw [e]; rfl
  have hi := (List.getElem?_eq_some_iff.1 hm).1
  have hat : atK q.2.2.2.2 x.2.1 = i := by unfold atK; rw [e]; rfl
  rw [e, if_neg (show ¬ ((i : Int) < 0) by omega), bif_false (by simp), bif_true (inb hi), hat]
  simp only [Int.toNat_natCast, getD_of hm]
  by_cases hk : m.2.1 = 1
  ·rw [if_neg (not_not_intro hk)]
   simp only [hk, bne_self_eq_false, cond_false, ne_eq, not_true_eq_false, if_false]
   cases ha : m.2.2.2.2.2.2.1 with
   | true => rfl
   | false =>
    have ho := opn_of hk ha
    have f769 := f769q hR m ht
    simp only [hk, ha] at f769
    simp only [cond_false, bne_self_eq_false, Bool.false_eq_true, if_false, f769, bind_some']
    by_cases hr : refE s.1 m x.2.2 = 0
    ·rw [if_neg (not_not_intro hr), bif_false (by simpa using hr)]
     have hp0 : ∀ {R0 : Type} (K : ByteArray × ByteArray × List Dsc × List Que × Int × Int × ByteArray × ByteArray × ByteArray × Bool × Bool × Int × List Dsc × List Row × Hep × Unit → Option R0),
       f721p0 1000 K (x.1, x.2.2, s.1, s.2, m.1, 1, m.2.2.1, m.2.2.2.1, m.2.2.2.2.1, m.2.2.2.2.2.1, false, m.2.2.2.2.2.2.2, [], [], [], ()) = K (x.1, repT s.1 m x.2.2, s.1, s.2, m.1, 1, m.2.2.1, m.2.2.2.1, m.2.2.2.2.1, m.2.2.2.2.2.1, false, m.2.2.2.2.2.2.2, [], [], [], ()) := by
      intro R0 K
      have hd := f770q s.1 s.2 m (by omega)
      simp only [hk, ha] at hd
      unfold f721p0 repT
      cases strEq x.2.2 ByteArray.empty with
      | true => simp only [cond_true, hd, bind_some', if_true]
      | false => rfl
     rw [hp0]
     obtain ⟨hp, hqq⟩ := own_prog s.2
     obtain ⟨H1, R1, e1, e2⟩ := f771v0q hR hp hqq (by rw [hqn]; exact hqi) hq (List.mem_of_getElem? hm) ho (repT s.1 m x.2.2)
     rw [hqn, hk, ha] at e1
     simp only [f754v0q (F := s.1) (show s.2.length ≤ 100 by omega) hR.msgs, bind_some', e1]
     by_cases hz2 : (answerE s.2 (queI s x.1) m (repT s.1 m x.2.2)).1 = 0
     ·obtain ⟨hp1, hq1⟩ := e2 hz2
      rw [bif_false (by simpa using hz2), if_neg (not_not_intro hz2), hp1.frz, qs_frz, hq1]
      rfl
     ·rw [bif_true (bne0 hz2), if_pos hz2]
    ·rw [if_pos hr, bif_true (bne0 hr)]
  ·rw [if_pos hk]
   simp only [bne_iff_ne.2 hk, cond_true]
   rfl
 ·rw [if_pos hz, bif_true (bne0 hz)]
theorem ix_has (l : List ByteArray) (t : ByteArray) : (ix (fun y => strEq y t) l == -1) = !has l t := by
 have := ix_any (fun y => strEq y t) l
 unfold has
 rw [← this, Bool.not_not]
set_option maxHeartbeats 2000000 in
theorem f722q {s : Sys} (hF : Few s) (x : Rply) (ht : x.2.2.size < 1000) : f722F 1000 ((s.1, s.2), (x.1, (x.2.1, x.2.2))) = some (repliedE s x) := by
 have hl := hF.len
 unfold f722F repliedE
 simp only [f742q hF, bind_some']
 by_cases hz : qErr s x.1 = 0
 ·obtain ⟨hR, q, hq, hqs, hqi, hqn⟩ := que_get hF hz
  have hql := hR.msgs q (List.mem_of_getElem? hq)
  have hj := (List.getElem?_eq_some_iff.1 hq).1
  have hFl := hR.file.len
  rw [hqs, if_neg (not_not_intro hz), bif_false (by simpa using hz)]
  simp only [f731q s.1 s.2 x.1 (by omega), hqi, bind_some', inb hj, cond_true, Int.toNat_natCast, getD_of hq, f733q q x.2.1 (by omega)]
  rcases ix_spec (isK x.2.1) q.2.2.2.2 with ⟨e, _⟩ | ⟨i, m, e, hm, hkm, _⟩
  ·rw [e]; rfl
  have hi := (List.getElem?_eq_some_iff.1 hm).1
  have hmk : m.1 = x.2.1 := by unfold isK at hkm; simpa using hkm
  have hat : atK q.2.2.2.2 x.2.1 = i := by unfold atK; rw [e]; rfl
  rw [e, if_neg (show ¬ ((i : Int) < 0) by omega), bif_false (by rw [beq_eq_false_iff_ne]; omega), bif_true (inb hi), hat]
  simp only [Int.toNat_natCast, getD_of hm]
  by_cases hk : m.2.1 = 1
  ·rw [if_neg (not_not_intro hk)]
   simp only [hk, bne_self_eq_false, cond_false]
   cases ha : m.2.2.2.2.2.2.1 with
   | true => rfl
   | false =>
    have ho := opn_of hk ha
    simp only [cond_false, Bool.false_eq_true, if_false, f756q _ ht, bind_some']
    have hdf := f772q s.1 s.2 m (by omega)
    simp only [hk, ha] at hdf
    -- texts that are wrong
    by_cases h32 : (x.2.2.size : Int) > 32
    ·have hr : refE s.1 m x.2.2 = 2 := by unfold refE txE; rw [if_pos h32]; rfl
     rw [hr, bif_true (by simpa using h32)]; rfl
    cases hx : isTx x.2.2 with
    | false =>
     have hr : refE s.1 m x.2.2 = 5 := by unfold refE txE; rw [if_neg h32, hx]; rfl
     rw [hr, bif_false (by simpa using h32)]; rfl
    | true =>
     have htx : txE x.2.2 32 = 0 := by unfold txE; rw [if_neg h32, hx]; rfl
     rw [bif_false (by simpa using h32)]
     simp only [Bool.not_true, cond_false]
     have hp0 : ∀ {R0 : Type} (K : Int × ByteArray × List Dsc × List Que × ByteArray × Int × ByteArray × Int × Int × ByteArray × ByteArray × ByteArray × Bool × Bool × Int × List Dsc × List Row × Hep × Unit → Option R0),
       f722p0 1000 K ((queI s x.1 : Int), x.2.2, s.1, s.2, x.1, x.2.1, x.2.2, m.1, 1, m.2.2.1, m.2.2.2.1, m.2.2.2.2.1, m.2.2.2.2.2.1, false, m.2.2.2.2.2.2.2, [], [], [], ()) = K ((queI s x.1 : Int), repT s.1 m x.2.2, s.1, s.2, x.1, x.2.1, x.2.2, m.1, 1, m.2.2.1, m.2.2.2.1, m.2.2.2.2.1, m.2.2.2.2.2.1, false, m.2.2.2.2.2.2.2, [], [], [], ()) := by
      intro R0 K
      unfold f722p0 repT
      cases strEq x.2.2 ByteArray.empty with
      | true => simp only [cond_true, hdf, bind_some', if_true]
      | false => rfl
     rw [hp0]
     simp only [f749q s.1 m.2.2.1 (by omega), bind_some']
     have hp1 : ∀ {R0 : Type} (K0 : Int × Int × ByteArray × List Dsc × List Que × ByteArray × Int × ByteArray × Hep × Unit → Option R0) (K1 : Int × ByteArray × List Dsc × List Que × ByteArray × Int × ByteArray × List Dsc × List Row × Hep × Unit → Option R0),
       f722p1 1000 K0 K1 ((queI s x.1 : Int), repT s.1 m x.2.2, ix (isD m.2.2.1) s.1, s.1, s.2, x.1, x.2.1, x.2.2, m.1, 1, m.2.2.1, m.2.2.2.1, m.2.2.2.2.1, m.2.2.2.2.2.1, false, m.2.2.2.2.2.2.2, [], [], [], ()) =
        if refE s.1 m x.2.2 ≠ 0 then K0 (refE s.1 m x.2.2, (queI s x.1 : Int), repT s.1 m x.2.2, s.1, s.2, x.1, x.2.1, x.2.2, [], ()) else K1 ((queI s x.1 : Int), repT s.1 m x.2.2, s.1, s.2, x.1, x.2.1, x.2.2, [], [], [], ()) := by
      intro R0 K0 K1
      unfold f722p1 refE
      rw [htx, if_neg (not_not_intro rfl)]
      rcases ix_spec (isD m.2.2.1) s.1 with ⟨e, _⟩ | ⟨j, d, e, hd, _, _⟩
      ·rw [e]
       simp
      ·have hjd := (List.getElem?_eq_some_iff.1 hd).1
       have hrl := (hR.file.each d (List.mem_of_getElem? hd)).reps
       rw [e, if_neg (show ¬ ((j : Int) < 0) by omega)]
       simp only [bif_true (show ((j : Int) != -1) = true by simp), inb hjd, cond_true, Int.toNat_natCast, getD_of hd, hdf, bind_some']
       by_cases h0 : d.2.2.2.2.2.2.length = 0
       ·rw [bif_false (by rw [h0]; rfl)]
        simp [h0]
       ·rw [bif_true (by rw [decide_eq_true_eq]; omega)]
        simp only [h0, false_or, f773q _ _ (show d.2.2.2.2.2.2.length < 1000 by omega), ix_has, bind_some']
        unfold repT
        cases h1 : strEq x.2.2 ByteArray.empty with
        | true => simp [strEq_self]
        | false =>
         cases h2 : strEq x.2.2 (dfl s.1 m) with
         | true => simp [h2]
         | false => cases h3 : has d.2.2.2.2.2.2 x.2.2 <;> simp [h2, h3]
     rw [hp1]
     by_cases hr : refE s.1 m x.2.2 = 0
     ·rw [if_neg (not_not_intro hr), if_neg (not_not_intro hr)]
      obtain ⟨H1, F1, R1, e1, e2, e3⟩ := f774v0q hR [] hq (i := i) (m := m) (by rw [hmk]; exact e) hm ho (repT s.1 m x.2.2)
      rw [hmk] at e1
      simp only [e1, bind_some']
      by_cases hz2 : (answerE s.2 (queI s x.1) m (repT s.1 m x.2.2)).1 = 0
      ·obtain ⟨u0, hp1, hq1⟩ := e2 hz2
       rw [if_neg (not_not_intro hz2), hp1.frz, qs_frz, hq1, u0, hz2]
       rfl
      ·obtain ⟨u0, u1⟩ := e3 hz2
       rw [if_pos hz2, u0, u1]
       rfl
     ·rw [if_pos hr, if_pos hr]
  ·rw [if_pos hk]
   simp only [bne_iff_ne.2 hk, cond_true]
 ·rw [if_pos hz, bif_true (bne0 hz)]
theorem ref_ok {F : List Dsc} {m : Msg} {t : ByteArray} (h : refE F m t = 0) (hd : TxtOk (dfl F m)) : TxtOk (repT F m t) := by
 unfold repT
 split
 ·exact hd
 ·rename_i he
  refine ⟨by simpa using he, ?_⟩
  unfold refE at h
  split at h
  ·rename_i hc; exact absurd h hc
  ·rename_i hc
   exact txE_mono (n := 32) (by simpa using hc) (by decide)
theorem replied_right {s : Sys} (hF : Few s) (x : Rply) : (repliedE s x).1 = ([], []) ∧ (repliedE s x).2 ≠ 0 ∨ (repliedE s x).2 = 0 ∧ Right (repliedE s x).1 ∧ nms (repliedE s x).1.2 = nms s.2 ∧ (repliedE s x).1.1 = s.1 := by
 unfold repliedE
 by_cases hz : qErr s x.1 = 0
 ·obtain ⟨hR, q, hq, hqs, hqi, hqn⟩ := que_get hF hz
  rw [hqs, if_neg (not_not_intro hz)]
  rcases ix_spec (isK x.2.1) q.2.2.2.2 with ⟨e, _⟩ | ⟨i, m, e, hm, hkm, _⟩
  ·rw [e, if_pos (by decide)]; exact .inl ⟨rfl, by decide⟩
  have hat : atK q.2.2.2.2 x.2.1 = i := by unfold atK; rw [e]; rfl
  rw [e, if_neg (show ¬ ((i : Int) < 0) by omega), hat, getD_of hm]
  split
  ·exact .inl ⟨rfl, by decide⟩
  ·rename_i hk
   split
   ·exact .inl ⟨rfl, by decide⟩
   ·rename_i ha
    have ho : opn m = true := opn_of (by simpa using hk) (by simpa using ha)
    have hmem := List.mem_of_getElem? hm
    split
    ·rename_i hr; exact .inl ⟨rfl, hr⟩
    ·rename_i hr
     split
     ·rename_i hz2; exact .inl ⟨rfl, hz2⟩
     ·rename_i hz2
      have hz2 : (answerE s.2 (queI s x.1) m (repT s.1 m x.2.2)).1 = 0 := by simpa using hz2
      have hRt := que_Right hF hz
      obtain ⟨_, _, _, hns, _⟩ := answer_post hR hq hmem ho _ hz2
      exact .inr ⟨rfl, answer_right hRt hq hmem ho (ref_ok (by simpa using hr) (dfl_ok hR m)) hz2, hns, rfl⟩
 ·rw [if_pos hz]; exact .inl ⟨rfl, hz⟩
end Go.Proofs.YthcmomgkfjjajaaGreatDoor
set_option linter.unusedVariables false
set_option linter.unusedSimpArgs false
namespace Go.Proofs.YthcmomgkfjjajaaGreatDoor
open Go.Ab
def removeL (s : Sys) (j : Nat) : List Int → Sys × Int
 | [] => (s, 0)
 | k :: l => if (removeE s j k).1 ≠ 0 then (([], []), (removeE s j k).1) else removeL (s.1, (removeE s j k).2) j l
def keysOf (l : List Msg) : List Int := l.map (·.1)
def removedE (s : Sys) (nm : ByteArray) (key : Int) : Sys × Int :=
 if qErr s nm ≠ 0 then (([], []), qErr s nm)
 else if key = -1 then removeL s (queI s nm) (keysOf (queS s nm).2.2.2.2)
 else if ix (isK key) (queS s nm).2.2.2.2 < 0 then (([], []), 11)
 else removeL s (queI s nm) [key]
theorem removeL_one (s : Sys) (j : Nat) (k : Int) : removeL s j [k] = if (removeE s j k).1 ≠ 0 then (([], []), (removeE s j k).1) else ((s.1, (removeE s j k).2), 0) := rfl
theorem f723l2q {s : Sys} (h : Right s) {H : Hep} {R : List Row} (hp : Hp H R) (hq : qs H R = s.2) {j : Nat} {q : Que} (hi : ix (isQ q.1) s.2 = (j : Int)) (hj : s.2[j]? = some q) (l : List Int) (hl : l.length < 1000) :
  f723l2 1000 (fun (w10 : Int × List Dsc × List Row × Hep × Unit) => some ((([], []) : Sys), w10.1))
   (fun (w11 : List Dsc × List Dsc × List Row × List Row × Hep × Unit) =>
    bif (((w11.2.2.2.1.all fun q => (true && (true && (true && (true && (kro (List.map Kid.frz w11.2.2.2.2.1) q.2.2.2.2)))))) && true) && true) then
    some ((w11.1, (w11.2.2.2.1.map fun q => (q.1, (q.2.1, (q.2.2.1, (q.2.2.2.1, (kget (List.map Kid.frz w11.2.2.2.2.1) q.2.2.2.2))))))), (0 : Int))
    else none)
   (q.1, (l.length : Int), 0, s.1, l, [], [], R, H, ()) = some (removeL s j l) := by
 unfold f723l2
 refine iter_list (k := 1000) (A := Hep × List Row) l (fun i a => (q.1, (l.length : Int), (i : Int), s.1, l, [], [], a.2, a.1, ())) (fun m a => some (removeL (s.1, qs a.1 a.2) j m)) (fun _ a => Hp a.1 a.2 ∧ Right (s.1, qs a.1 a.2) ∧ nms (qs a.1 a.2) = nms s.2) ?_ ?_ hl (H, R) ⟨hp, by rw [hq]; exact h, by rw [hq]⟩ |>.trans (by rw [hq])
 ·intro rec a ha
  unfold f723l2s
  rw [bif_false (by simp)]
  simp only [ha.1.frz, Bool.and_self, cond_true, qs_frz]
  rfl
 ·intro rec i a k hk hil ha
  obtain ⟨h1, h2, h3⟩ := ha
  obtain ⟨q', hq', hn'⟩ := nms_get (Q := s.2) (Q' := qs a.1 a.2) h3 hj
  have hi' : ix (isQ q'.1) (qs a.1 a.2) = (j : Int) := by rw [hn', ix_names h3, hi]
  obtain ⟨H1, R1, e1, e2⟩ := f764v0q (s := (s.1, qs a.1 a.2)) h2.r h1 rfl hi' hq' k
  rw [hn'] at e1
  unfold f723l2s
  have hg : l.getD i 0 = k := getD_of hk
  simp only [ltn hil, nn, Bool.and_self, cond_true, Int.toNat_natCast, hg, wi_succ (i := i) (show i < 9223372036854775807 by omega)]
  simp only [] at e1
  rw [e1, bind_some']
  simp only [removeL]
  by_cases hz : (removeE (s.1, qs a.1 a.2) j k).1 = 0
  ·obtain ⟨hp1, hq1⟩ := e2 hz
   obtain ⟨hr1, hr2⟩ := remove_right h2 hq' hz
   refine .inl ⟨(H1, R1), ⟨hp1, by rw [hq1]; exact hr1, by rw [hq1]; exact hr2.trans h3⟩, ?_, ?_⟩
   ·rw [bif_false (by simpa using hz)]
   ·rw [if_neg (not_not_intro hz), hq1]
  ·exact .inr (by rw [bif_true (bne0 hz), if_pos hz])
theorem f723l0q {R0 : Type} (K : ByteArray × List Dsc × List Que × List Int × List Dsc × List Row × Hep × Unit → Option R0) (nm : ByteArray) (F : List Dsc) (Q : List Que) (l : List Msg) (hl : l.length ≤ 100) :
  f723l0 1000 K (nm, l, (l.length : Int), 0, F, Q, [], [], [], [], ()) = K (nm, F, Q, keysOf l, [], [], [], ()) := by
 unfold f723l0
 refine iter_list (k := 1000) (A := List Int) l (fun i a => (nm, l, (l.length : Int), (i : Int), F, Q, a, [], [], [], ())) (fun m a => K (nm, F, Q, a ++ keysOf m, [], [], [], ())) (fun i a => a.length = i) ?_ ?_ (by omega) [] rfl
 ·intro rec a ha
  unfold f723l0s
  simp [keysOf]
 ·intro rec i a x hx hi ha
  refine .inl ⟨a ++ [x.1], by simp [ha], ?_, by simp [keysOf]⟩
  unfold f723l0s
  simp only [ltn hi, nn, Bool.and_self, cond_true, Int.toNat_natCast, getD_of hx, wi_succ (i := i) (show i < 9223372036854775807 by omega)]
  rw [bif_true (szN (by simp; omega) (by decide))]
theorem f723q {s : Sys} (hF : Few s) (nm : ByteArray) (key : Int) : f723F 1000 ((s.1, s.2), nm, key) = some (removedE s nm key) := by
 have hl := hF.len
 unfold f723F removedE
 simp only [f751one hF, bind_some']
 by_cases hz : qErr s nm = 0
 ·obtain ⟨hR, q, hq, hqs, hqi, hqn⟩ := que_get hF hz
  have hql := hR.msgs q (List.mem_of_getElem? hq)
  have hj := (List.getElem?_eq_some_iff.1 hq).1
  obtain ⟨hp, hqq⟩ := own_prog s.2
  have hRt := que_Right hF hz
  rw [hqs, if_neg (not_not_intro hz), bif_false (by simpa using hz)]
  simp only [f752q s.1 s.2 nm (by omega), hqi, bind_some', inb hj, cond_true, Int.toNat_natCast, getD_of hq]
  unfold f723p1
  simp only []
  by_cases hk : key = -1
  ·rw [if_pos hk, bif_true (by rw [hk]; rfl), f723l0q _ _ _ _ _ hql]
   simp only [f754v0q (F := s.1) (show s.2.length ≤ 100 by omega) hR.msgs, bind_some']
   have := f723l2q hRt hp hqq (by rw [hqn]; exact hqi) hq (keysOf q.2.2.2.2) (by unfold keysOf; rw [List.length_map]; omega)
   rw [hqn] at this
   exact this
  ·rw [if_neg hk, bif_false (by simpa using hk)]
   simp only [f768q q key (by omega), bind_some']
   by_cases hx : ix (isK key) q.2.2.2.2 < 0
   ·rw [if_pos hx, bif_true (by simpa using hx)]
   ·rw [if_neg hx, bif_false (by simpa using hx)]
    simp only [f754v0q (F := s.1) (show s.2.length ≤ 100 by omega) hR.msgs, bind_some']
    have := f723l2q hRt hp hqq (by rw [hqn]; exact hqi) hq [key] (by simp)
    rw [hqn] at this
    exact this
 ·rw [if_pos hz, bif_true (bne0 hz)]
theorem ix_nn {l : List Msg} {key : Int} (h : ¬ ix (isK key) l < 0) : ∃ (i : Nat) (m : Msg), ix (isK key) l = (i : Int) ∧ l[i]? = some m ∧ m.1 = key := by
 rcases ix_spec (isK key) l with ⟨e, _⟩ | ⟨i, m, e, hm, hk, _⟩
 ·omega
 ·exact ⟨i, m, e, hm, by unfold isK at hk; simpa using hk⟩
theorem f724l1q {s : Sys} (h : Right s) {j : Nat} {q : Que} (hj : s.2[j]? = some q) (l : List Msg) (hl : l.length ≤ 100) :
  f724l1 1000 (fun (w15 : Int × List Dsc × List Que × Unit) => some ((([], []) : Sys), w15.1)) (fun (w16 : List Dsc × List Que × List Dsc × List Que × Unit) => some ((w16.1, w16.2.1), (0 : Int))) ((j : Int), l, 0, s.1, s.2, [], [], ()) = some (removeL s j (keysOf l)) := by
 unfold f724l1
 refine iter_list (k := 1000) (A := List Que) l (fun i a => ((j : Int), l, (i : Int), s.1, a, [], [], ())) (fun m a => some (removeL (s.1, a) j (keysOf m))) (fun _ a => Right (s.1, a) ∧ nms a = nms s.2) ?_ ?_ (by omega) s.2 ⟨h, rfl⟩
 ·intro rec a ha
  unfold f724l1s
  rw [bif_false (by simp)]
  rfl
 ·intro rec i a k hk hil ha
  obtain ⟨h2, h3⟩ := ha
  obtain ⟨q', hq', hn'⟩ := nms_get (Q := s.2) (Q' := a) h3 hj
  have hja := (List.getElem?_eq_some_iff.1 hq').1
  have hql : q'.2.2.2.2.length ≤ 100 := h2.r.msgs q' (List.mem_of_getElem? hq')
  unfold f724l1s f724p0
  simp only [ltn hil, ltn hja, nn, Bool.and_self, cond_true, Int.toNat_natCast, getD_of hk, getD_of hq', f733q q' k.1 (by omega), bind_some', wi_succ (i := i) (show i < 9223372036854775807 by omega)]
  have hc : keysOf (k :: l.drop (i + 1)) = k.1 :: keysOf (l.drop (i + 1)) := rfl
  rw [hc]
  simp only [removeL]
  by_cases hx : ix (isK k.1) q'.2.2.2.2 < 0
  ·rw [remove_none (s := (s.1, a)) hq' hx]
   refine .inl ⟨a, ⟨h2, h3⟩, ?_, ?_⟩
   ·rw [bif_true (by rw [ix_neg]; simpa using hx)]
   ·rw [if_neg (not_not_intro rfl)]
  ·obtain ⟨i1, m, e, hm, hmk⟩ := ix_nn hx
   have T := f767q (s := (s.1, a)) h2.r hq' (m := m) (by rw [hmk]; exact e) hm
   rw [hmk] at T
   simp only [] at T
   rw [bif_false (by rw [ix_neg]; simpa using hx), T, bind_some']
   by_cases hz : (removeE (s.1, a) j k.1).1 = 0
   ·obtain ⟨hr1, hr2⟩ := remove_right (s := (s.1, a)) h2 hq' hz
    refine .inl ⟨(removeE (s.1, a) j k.1).2, ⟨hr1, hr2.trans h3⟩, ?_, ?_⟩
    ·rw [bif_false (by simpa using hz), if_neg (not_not_intro hz)]
    ·rw [if_neg (not_not_intro hz)]
   ·exact .inr (by rw [bif_true (bne0 hz), if_pos hz, if_pos hz])
theorem f724q {s : Sys} (hF : Few s) (nm : ByteArray) (key : Int) : f724F 1000 ((s.1, s.2), nm, key) = some (removedE s nm key) := by
 have hl := hF.len
 unfold f724F removedE
 simp only [f742q hF, bind_some']
 by_cases hz : qErr s nm = 0
 ·obtain ⟨hR, q, hq, hqs, hqi, hqn⟩ := que_get hF hz
  have hql := hR.msgs q (List.mem_of_getElem? hq)
  have hj := (List.getElem?_eq_some_iff.1 hq).1
  have hRt := que_Right hF hz
  rw [hqs, if_neg (not_not_intro hz), bif_false (by simpa using hz)]
  simp only [f731q s.1 s.2 nm (by omega), hqi, bind_some', inb hj, cond_true, Int.toNat_natCast, getD_of hq, f733q q key (by omega), f716q hF, ix_neg]
  by_cases hk : key = -1
  ·rw [if_pos hk, bif_false (by rw [hk]; rfl)]
   exact f724l1q hRt hq q.2.2.2.2 hql
  ·rw [if_neg hk, bif_true (by simpa using hk)]
   by_cases hx : ix (isK key) q.2.2.2.2 < 0
   ·rw [if_pos hx, bif_true (by simpa using hx)]
   ·obtain ⟨i1, m, e, hm, hmk⟩ := ix_nn hx
    have T := f767q hR hq (m := m) (by rw [hmk]; exact e) hm
    rw [hmk] at T
    rw [if_neg hx, bif_false (by simpa using hx), T, bind_some', removeL_one]
    by_cases hz2 : (removeE s (queI s nm) key).1 = 0
    ·rw [if_neg (not_not_intro hz2), if_neg (not_not_intro hz2), hz2]
    ·rw [if_pos hz2, if_pos hz2]
 ·rw [if_pos hz, bif_true (bne0 hz)]
theorem removeL_right {s : Sys} (h : Right s) {j : Nat} {q : Que} (hj : s.2[j]? = some q) : ∀ (l : List Int) (a : List Que), Right (s.1, a) → nms a = nms s.2 →
  (removeL (s.1, a) j l).1 = ([], []) ∧ (removeL (s.1, a) j l).2 ≠ 0 ∨ (removeL (s.1, a) j l).2 = 0 ∧ Right (removeL (s.1, a) j l).1 ∧ nms (removeL (s.1, a) j l).1.2 = nms s.2 ∧ (removeL (s.1, a) j l).1.1 = s.1
 | [], a, h1, h2 => .inr ⟨rfl, h1, h2, rfl⟩
 | k :: l, a, h1, h2 => by
  unfold removeL
  obtain ⟨q', hq', hn'⟩ := nms_get (Q := s.2) (Q' := a) h2 hj
  split
  ·rename_i hz; exact .inl ⟨rfl, hz⟩
  ·rename_i hz
   obtain ⟨hr1, hr2⟩ := remove_right (s := (s.1, a)) h1 hq' (by simpa using hz)
   exact removeL_right h hj l _ hr1 (hr2.trans h2)
theorem removed_right {s : Sys} (hF : Few s) (nm : ByteArray) (key : Int) : (removedE s nm key).1 = ([], []) ∧ (removedE s nm key).2 ≠ 0 ∨ (removedE s nm key).2 = 0 ∧ Right (removedE s nm key).1 ∧ nms (removedE s nm key).1.2 = nms s.2 ∧ (removedE s nm key).1.1 = s.1 := by
 unfold removedE
 by_cases hz : qErr s nm = 0
 ·obtain ⟨hR, q, hq, hqs, hqi, hqn⟩ := que_get hF hz
  have hRt := que_Right hF hz
  rw [if_neg (not_not_intro hz)]
  split
  ·exact removeL_right hRt hq _ s.2 hRt rfl
  ·split
   ·exact .inl ⟨rfl, by decide⟩
   ·exact removeL_right hRt hq _ s.2 hRt rfl
 ·rw [if_pos hz]; exact .inl ⟨rfl, hz⟩
theorem small_of {r : Sys × Int} {s : Sys} (h : r.1 = ([], []) ∧ r.2 ≠ 0 ∨ r.2 = 0 ∧ Right r.1 ∧ nms r.1.2 = nms s.2 ∧ r.1.1 = s.1) : Small r.1 := by
 rcases h with ⟨h, _⟩ | ⟨_, h, _⟩
 ·rw [h]; exact small_none
 ·exact h.r.small
theorem replies (y : Sys × Rply) : f705F 1000 y = some true := by
 obtain ⟨s, x⟩ := y
 unfold f705F
 simp only [awake18, f713q, bind_some', Bool.not_true, cond_false]
 cases hf : fewS s with
 | false => rfl
 | true =>
  have hF := fewS_iff.1 hf
  rw [Bool.not_true, cond_false]
  by_cases hb : x.2.2.size > 100
  ·rw [bif_true (by rw [decide_eq_true_eq]; omega)]
  ·rw [bif_false (by rw [decide_eq_false_iff_not]; omega)]
   have s1 := (small_of (replied_right hF x)).same
   have s2 := (small_of (removed_right hF x.1 x.2.1)).same
   simp only [f716q hF, f721q hF x (by omega), f722q hF x (by omega), f723q hF, f724q hF, bind_some', bne_self_eq_false, beq_self_eq_true, cond_true, cond_false, s1, s2, Bool.not_true]
end Go.Proofs.YthcmomgkfjjajaaGreatDoor
