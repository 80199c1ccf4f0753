/- Plain laws of chapter 34: lists of tables read by the program. -/
import Derived.Test.YtobgkcamonlnkaaGreatDoorPA
import Derived.Test.YtobgkcamonlnkaaGreatDoorFcJ
/-! Plain laws of chapter 34: lists of tables read by the program. -/
set_option linter.unusedVariables false
set_option linter.unusedSimpArgs false
namespace Go.Proofs.YtobgkcamonlnkaaGreatDoor
open Go.Ab

theorem l0e {R : Type} (k0 : TabS → Option R) (n : Int) (s : ByteArray) {e : Int} (he : e ≠ 0) (a1 a2 : ByteArray) (a3 : Bool) (a4 a5 : ByteArray) (a6 : Bool) (b7 : List Fld) (b8 : List Key) (b9 : List Rcd) (fs : List Fld) (ks : List Key) (rs : List Rcd) :
    f577v0l0 1000 k0 (n, s, e, a1, a2, a3, a4, a5, a6, b7, b8, b9, fs, ks, rs, ()) = k0 (s, e, a1, a2, a3, a4, a5, a6, b7, b8, b9, fs, ks, rs, ()) := by
  unfold f577v0l0
  rw [iterS_1000]
  unfold f577v0l0s
  simp only [beq0 he, cond_false, Bool.cond_self]
theorem l1e {R : Type} (k0 : TabS → Option R) (n : Int) (s : ByteArray) {e : Int} (he : e ≠ 0) (a1 a2 : ByteArray) (a3 : Bool) (a4 a5 : ByteArray) (a6 : Bool) (b7 : List Fld) (b8 : List Key) (b9 : List Rcd) (fs : List Fld) (ks : List Key) (rs : List Rcd) :
    f577v0l1 1000 k0 (n, s, e, a1, a2, a3, a4, a5, a6, b7, b8, b9, fs, ks, rs, ()) = k0 (s, e, a1, a2, a3, a4, a5, a6, b7, b8, b9, fs, ks, rs, ()) := by
  unfold f577v0l1
  rw [iterS_1000]
  unfold f577v0l1s
  simp only [beq0 he, cond_false, Bool.cond_self]
theorem l3e {R : Type} (k0 : TabS → Option R) (sz : Int) (n : Int) (s : ByteArray) {e : Int} (he : e ≠ 0) (a1 a2 : ByteArray) (a3 : Bool) (a4 a5 : ByteArray) (a6 : Bool) (b7 : List Fld) (b8 : List Key) (b9 : List Rcd) (fs : List Fld) (ks : List Key) (rs : List Rcd) :
    f577v0l3 1000 k0 (sz, n, s, e, a1, a2, a3, a4, a5, a6, b7, b8, b9, fs, ks, rs, ()) = k0 (s, e, a1, a2, a3, a4, a5, a6, b7, b8, b9, fs, ks, rs, ()) := by
  unfold f577v0l3
  rw [iterS_1000]
  unfold f577v0l3s
  simp only [beq0 he, cond_false, Bool.cond_self]

abbrev RET := ByteArray × ByteArray × List Fld × List Key × Bool × List Rcd × ByteArray × Int × Unit
/-- What the reader of a table does when the file is read. -/
noncomputable def tabT (f : Fil) (s : ByteArray) (e : Int) : Option RET :=
  bif (e != 0) then some (f.1, f.2.1.1, f.2.1.2, f.2.2.1, f.2.2.2, [], s, e, ())
  else Option.bind (f569F 1000 (f.1, ((f.2.1.1, f.2.1.2), (f.2.2.1, f.2.2.2)))) fun y14 =>
    bif (y14.2 != (0 : Int)) then Option.bind (f578v0F 1000 (y14.2, s, e, ())) fun y15 => some (f.1, f.2.1.1, f.2.1.2, f.2.2.1, f.2.2.2, [], y15.1, y15.2.1, ())
    else Option.bind (f613F 1000 (f.2.1.1, f.2.1.2)) fun y16 => Option.bind (f576v0F 1000 ((60 : Int), s, e, ())) fun y17 =>
      f577v0l3 1000 (fun w22 => some (w22.2.2.2.2.2.1, w22.2.2.2.2.2.2.1, w22.2.2.2.2.2.2.2.2.2.2.2.1, w22.2.2.2.2.2.2.2.2.2.2.2.2.1, w22.2.2.2.2.2.2.2.1, w22.2.2.2.2.2.2.2.2.2.2.2.2.2.1, w22.1, w22.2.1, ()))
        (y16.1, y17.1, y17.2.1, y17.2.2.1, ByteArray.empty, ByteArray.empty, false, f.1, f.2.1.1, f.2.2.2, [], [], [], f.2.1.2, f.2.2.1, [], ())
theorem f577a (l : List UInt8) : PR (pFile l) fun f s e => f577v0F 1000 (S l, 0, ()) = tabT f s e := by
  unfold pFile
  have n20 : ∀ t, PR (pNum 20 t) fun v t' e => f576v0F 1000 (20, S t, 0, ()) = some ((v : Int), t', e, ()) := f576r 20
  have n4 : ∀ t, PR (pNum 4 t) fun v t' e => f576v0F 1000 (4, S t, 0, ()) = some ((v : Int), t', e, ()) := f576r 4
  refine (f611r l).bd (fun fn t h1 => ?_) (fun e fn t he h1 => ⟨(fn, ((ByteArray.empty, []), ([], false))), t, ?_⟩)
  rotate_left
  · unfold f577v0F tabT
    simp only [h1, bind_some', f611e _ he, f576e _ _ he, f612e _ he, l0e _ _ _ he, l1e _ _ _ he, bne0 he, cond_true]
  refine (f611r t).bd (fun nm t h2 => ?_) (fun e nm t he h2 => ⟨(fn, ((nm, []), ([], false))), t, ?_⟩)
  rotate_left
  · unfold f577v0F tabT
    simp only [h1, h2, bind_some', f611e _ he, f576e _ _ he, f612e _ he, l0e _ _ _ he, l1e _ _ _ he, bne0 he, cond_true]
  refine (n20 t).bdE (fun n t hn h3 => ?_) (fun e n t he h3 => ⟨(fn, ((nm, []), ([], false))), t, ?_⟩)
  rotate_left
  · unfold f577v0F tabT
    simp only [h1, h2, h3, bind_some', f611e _ he, f576e _ _ he, f612e _ he, l0e _ _ _ he, l1e _ _ _ he, bne0 he, cond_true]
  have hn := pNum_le hn
  refine (f577l0q (R := RET) ByteArray.empty ByteArray.empty false fn nm false [] [] [] [] [] n (by omega) t).bd (fun fs t h4 => ?_) (fun e fs t he h4 => ⟨(fn, ((nm, fs), ([], false))), t, ?_⟩)
  rotate_left
  · unfold f577v0F tabT
    simp only [h1, h2, h3, h4, bind_some', f611e _ he, f576e _ _ he, f612e _ he, l0e _ _ _ he, l1e _ _ _ he, bne0 he, cond_true]
  refine (n4 t).bdE (fun m t hm h5 => ?_) (fun e m t he h5 => ⟨(fn, ((nm, fs), ([], false))), t, ?_⟩)
  rotate_left
  · unfold f577v0F tabT
    simp only [h1, h2, h3, h4, h5, bind_some', f611e _ he, f576e _ _ he, f612e _ he, l0e _ _ _ he, l1e _ _ _ he, bne0 he, cond_true]
  have hm := pNum_le hm
  refine (f577l1q (R := RET) ByteArray.empty ByteArray.empty false fn nm false [] [] [] fs [] m (by omega) t).bd (fun ks t h6 => ?_) (fun e ks t he h6 => ⟨(fn, ((nm, fs), (ks, false))), t, ?_⟩)
  rotate_left
  · unfold f577v0F tabT
    simp only [h1, h2, h3, h4, h5, h6, bind_some', f611e _ he, f576e _ _ he, f612e _ he, l0e _ _ _ he, l1e _ _ _ he, bne0 he, cond_true]
  refine (f612r t).bd (fun u t h7 => ?_) (fun e u t he h7 => ⟨(fn, ((nm, fs), (ks, u == 1))), t, ?_⟩)
  rotate_left
  · unfold f577v0F tabT
    simp only [h1, h2, h3, h4, h5, h6, h7, bind_some', f611e _ he, f576e _ _ he, f612e _ he, l0e _ _ _ he, l1e _ _ _ he, bne0 he, cond_true]
  show _ = _
  unfold f577v0F tabT
  simp only [h1, h2, h3, h4, h5, h6, h7, bind_some']
theorem f613q {f : Fil} (hf : (chkFile f).2 = 0) : f613F 1000 f.2.1 = some (sumW f.2.1.2, 0) := by
  obtain ⟨h1, h2, h3, h4⟩ := file_ok hf
  obtain ⟨g1, g2, g3⟩ := fmt_ok h2
  unfold f613F
  rw [show ((f.2.1.1, f.2.1.2) : Fmt) = f.2.1 from rfl, f607q, bind_some', bif_false (by rw [h2]; rfl), show f.2.1 = (f.2.1.1, f.2.1.2) from rfl, f645q f.2.1.1 f.2.1.2 (by omega), bind_some']
theorem sumW_nat (fs : List Fld) : ((sumW fs).toNat : Int) = sumW fs := Int.toNat_of_nonneg (sumW_rng fs).1
abbrev tabR (t : Tbl) (s : ByteArray) (e : Int) : Option RET := some (t.1.1, t.1.2.1.1, t.1.2.1.2, t.1.2.2.1, t.1.2.2.2, t.2, s, e, ())
theorem f577q (l : List UInt8) : PR (pTable l) fun t s e => f577v0F 1000 (S l, 0, ()) = tabR t s e := by
  unfold pTable
  refine (f577a l).bd (fun f t h => ?_) (fun e f t he h => ⟨(f, []), t, ?_⟩)
  rotate_left
  · rw [h]
    unfold tabT
    simp only [bne0 he, cond_true]
  simp only [tabT, bne00, cond_false] at h
  rw [show ((f.1, ((f.2.1.1, f.2.1.2), (f.2.2.1, f.2.2.2))) : Fil) = f from rfl, f569q, bind_some'] at h
  by_cases hf : (chkFile f).2 = 0
  · rw [if_neg (fun c => c hf)]
    rw [bif_false (by rw [hf]; rfl), show ((f.2.1.1, f.2.1.2) : Fmt) = f.2.1 from rfl, f613q hf, bind_some'] at h
    have n60 : PR (pNum 60 t) fun v t' e => f576v0F 1000 (60, S t, 0, ()) = some ((v : Int), t', e, ()) := f576r 60 t
    refine n60.bdE (fun n t hn h3 => ?_) (fun e n t he h3 => ⟨(f, []), t, ?_⟩)
    rotate_left
    · rw [h]
      simp only [h3, bind_some', l3e _ _ _ _ he]
    have hn := pNum_le hn
    refine (f577l3q (R := RET) (sumW f.2.1.2).toNat ByteArray.empty ByteArray.empty false f.1 f.2.1.1 f.2.2.2 [] [] [] f.2.1.2 f.2.2.1 n (by omega) t).bd (fun rs t h4 => ?_) (fun e rs t he h4 => ⟨(f, rs), t, ?_⟩)
    · show _ = _
      rw [h, h3, bind_some']
      rw [sumW_nat] at h4
      exact h4 _
    · rw [h, h3, bind_some']
      rw [sumW_nat] at h4
      exact h4 _
  · rw [if_pos hf]
    refine ⟨hf, (f, []), S t, ?_⟩
    rw [h, bif_true (bne0 hf), f578z]
    rfl

abbrev TsS := ByteArray × Int × List Tbl × Unit
noncomputable def tblP (s : ByteArray) (e : Int) : Option (Tbl × ByteArray × Int × Unit) :=
  Option.bind (f577v0F 1000 (s, e, ())) fun y => some (((y.1, ((y.2.1, y.2.2.1), (y.2.2.2.1, y.2.2.2.2.1))), y.2.2.2.2.2.1), y.2.2.2.2.2.2.1, y.2.2.2.2.2.2.2.1, ())
theorem tblP_r (l : List UInt8) : PR (pTable l) fun t s e => tblP (S l) 0 = some (t, s, e, ()) := by
  refine (f577q l).imp fun t s e h => ?_
  unfold tblP
  rw [h]
  rfl
theorem f532l0q (n : Nat) (hn : n ≤ 8) (l : List UInt8) :
    PR (pMany pTable n l) fun vs t e => ∀ k0 : TsS → Option (List Tbl × Int), f532l0 1000 k0 ((n : Int), S l, 0, [], ()) = k0 (t, e, vs, ()) := by
  unfold f532l0
  refine many_dn (Step := fun k0 rec v => f532l0s 1000 rec k0 v) pTable tblP tblP_r 1000 (fun n s e acc => (n, s, e, acc, ())) (fun (k0 : TsS → Option (List Tbl × Int)) s e acc => k0 (s, e, acc, ())) ?_ ?_ ?_ n 1000 (by omega) (by omega) l [] (by simp; omega)
  · intro K rec s e acc
    show f532l0s _ _ _ _ = _
    unfold f532l0s
    rfl
  · intro K rec n s e acc he
    unfold f532l0s
    simp only [beq0 he, cond_false, Bool.cond_self]
  · intro K rec n s acc v t e hn ha hb
    unfold f532l0s
    simp only [gt_succ, cond_true, beq00, wpred hn]
    unfold tblP at hb
    cases h1 : f577v0F 1000 (s, 0, ()) with
    | none => rw [h1] at hb; exact absurd hb (by simp)
    | some y1 =>
    rw [h1] at hb
    simp only [bind_some', Option.some.injEq, Prod.mk.injEq, and_true] at hb ⊢
    obtain ⟨rfl, rfl, rfl⟩ := hb
    rw [bif_true (by simp; omega)]
theorem l532e {R : Type} (k0 : TsS → Option R) (n : Int) (s : ByteArray) {e : Int} (he : e ≠ 0) (ts : List Tbl) : f532l0 1000 k0 (n, s, e, ts, ()) = k0 (s, e, ts, ()) := by
  unfold f532l0
  rw [iterS_1000]
  unfold f532l0s
  simp only [beq0 he, cond_false, Bool.cond_self]
theorem f532q (l : List UInt8) : f532F 1000 (S l) = some (tblsIn l) := by
  have n8 : PR (pNum 8 l) fun v t' e => f576v0F 1000 (8, S l, 0, ()) = some ((v : Int), t', e, ()) := f576r 8 l
  unfold tblsIn f532F
  match hl : pNum 8 l, n8 with
  | .error e, h =>
    obtain ⟨he, v, t, h⟩ := h
    simp only [h, bind_some', l532e _ _ _ he, f532p1, beq0 he, bne0 he, cond_true, cond_false]
    rfl
  | .ok (n, t), h =>
    have h : f576v0F 1000 (8, S l, 0, ()) = some ((n : Int), S t, 0, ()) := h
    have hn := pNum_le hl
    show _ = some (match pMany pTable n t with
      | .error e => ([], e)
      | .ok (ts, t) => if t ≠ [] then ([], 10) else if (chkTs ts).2 ≠ 0 then ([], (chkTs ts).2) else (ts, 0))
    have h2 := f532l0q n hn t
    match pMany pTable n t, h2 with
    | .error e, h2 =>
      obtain ⟨he, v, t, h2⟩ := h2
      simp only [h, bind_some', h2, f532p1, beq0 he, bne0 he, cond_true, cond_false]
    | .ok (ts, t'), h2 =>
      have h2 : ∀ k0 : TsS → Option (List Tbl × Int), f532l0 1000 k0 ((n : Int), S t, 0, [], ()) = k0 (S t', 0, ts, ()) := h2
      simp only [h, bind_some', h2, f532p1, beq00, bne00, cond_true, cond_false]
      by_cases ht : t' = []
      · subst ht
        simp only [S_nil, strEq_self, Bool.not_true, cond_false, bne00, f515q, bind_some']
        rw [if_neg (by simp)]
        by_cases hc : (chkTs ts).2 = 0
        · rw [bif_false (by rw [hc]; rfl), if_neg (fun c => c hc)]
        · rw [bif_true (bne0 hc), if_pos hc]
      · have : strEq (S t') ByteArray.empty = false := by
          rw [← S_nil, S_eq]; simpa using ht
        simp only [this, Bool.not_false, cond_true, f578z, bind_some']
        rw [if_pos ht]
        rfl
end Go.Proofs.YtobgkcamonlnkaaGreatDoor
/-! Plain laws of chapter 34: the reference's reader. -/
set_option linter.unusedVariables false
set_option linter.unusedSimpArgs false
namespace Go.Proofs.YtobgkcamonlnkaaGreatDoor
open Go.Ab

def RR (L : List UInt8) {α : Type} (r : PE α) (Q : α → Int → Int → Prop) : Prop :=
  match r with
  | .ok (v, t) => ∃ a : Nat, a ≤ L.length ∧ t = L.drop a ∧ Q v a 0
  | .error e => e ≠ 0 ∧ ∃ v a, Q v a e
theorem RR.bdE {L : List UInt8} {α β : Type} {r : PE α} {Q : α → Int → Int → Prop} {g : α → List UInt8 → PE β} {Q' : β → Int → Int → Prop} (h : RR L r Q)
    (h1 : ∀ v (a : Nat), r = .ok (v, L.drop a) → a ≤ L.length → Q v a 0 → RR L (g v (L.drop a)) Q') (h2 : ∀ e v a, e ≠ 0 → Q v a e → ∃ v' a', Q' v' a' e) : RR L (PE.bd r g) Q' := by
  match r, h with
  | .ok (v, t), h =>
    obtain ⟨a, ha, rfl, hq⟩ := h
    exact h1 v a rfl ha hq
  | .error e, h =>
    obtain ⟨he, v, a, hq⟩ := h
    exact ⟨he, h2 e v a he hq⟩
theorem RR.imp {L : List UInt8} {α : Type} {r : PE α} {Q Q' : α → Int → Int → Prop} (h : RR L r Q) (hi : ∀ v t e, Q v t e → Q' v t e) : RR L r Q' := by
  match r, h with
  | .ok (v, t), h =>
    obtain ⟨a, ha, rfl, hq⟩ := h
    exact ⟨a, ha, rfl, hi _ _ _ hq⟩
  | .error e, h =>
    obtain ⟨he, v, t, hq⟩ := h
    exact ⟨he, v, t, hi _ _ _ hq⟩

theorem f614e {n : Nat} (hn : n ≤ 900) (s : ByteArray) (a : Int) {e : Int} (h : e ≠ 0) : f614v0F 1000 ((n : Int), s, a, e, ()) = some (S (List.replicate n 0), s, a, e, ()) := by
  unfold f614v0F
  simp only [bne0 h, cond_true, f72z hn, bind_some']
theorem f614r (L : List UInt8) (hL : L.length ≤ 1000000) {n : Nat} (hn : n ≤ 900) {a : Nat} (ha : a ≤ L.length) :
    RR L (pTake n (L.drop a)) fun v a' e => f614v0F 1000 ((n : Int), S L, (a : Int), 0, ()) = some (S v, S L, a', e, ()) := by
  have e1 : IntKind.i64.wrap ((L.length : Int) - (a : Int)) = ((L.length - a : Nat) : Int) := by
    rw [show (L.length : Int) - (a : Int) = ((L.length - a : Nat) : Int) by omega]; exact wi (by omega) (by omega)
  have e2 : IntKind.i64.wrap ((a : Int) + (n : Int)) = ((a + n : Nat) : Int) := by
    rw [show (a : Int) + (n : Int) = ((a + n : Nat) : Int) by omega]; exact wi (by omega) (by omega)
  have e3 : IntKind.i64.wrap (((a + n : Nat) : Int) - (n : Int)) = (a : Int) := by
    rw [show ((a + n : Nat) : Int) - (n : Int) = (a : Int) by omega]; exact wi (by omega) (by omega)
  unfold pTake f614v0F
  simp only [bne00, cond_false, S_size, e1, e2, e3, List.length_drop]
  by_cases h : L.length - a < n
  · rw [if_pos h]
    refine ⟨by decide, List.replicate n 0, a, ?_⟩
    rw [bif_true (by simp; omega), f72z hn]
    rfl
  · rw [if_neg h]
    refine ⟨a + n, by omega, by rw [List.drop_drop], ?_⟩
    rw [bif_false (by simp; omega), bif_true (sliceB (by omega) (by omega))]
    simp only [S_cut, Int.toNat_natCast]
    rw [List.drop_take, show a + n - a = n by omega]
theorem f615e (b : Bool) (s : ByteArray) (a : Int) {e : Int} (h : e ≠ 0) : f615v0F 1000 (b, s, a, e, ()) = some (s, a, e, ()) := by
  unfold f615v0F
  cases b
  · rfl
  · simp only [cond_true, beq0 h, cond_false]
theorem f615z (b : Bool) (s : ByteArray) (a : Int) : f615v0F 1000 (b, s, a, 0, ()) = some (s, a, if b = true then 5 else 0, ()) := by
  unfold f615v0F
  cases b <;> simp
theorem f579e (m : Nat) (s : ByteArray) (a : Int) {e : Int} (h : e ≠ 0) : f579v0F 1000 ((m : Int), s, a, e, ()) = some (0, s, a, e, ()) := by
  unfold f579v0F
  have h1 := f614e (n := 1) (by omega) s a h
  rw [show ((1 : Nat) : Int) = 1 from rfl, show List.replicate 1 (0 : UInt8) = [0] from rfl] at h1
  simp only [h1, bind_some', S_size, List.length_singleton, f615e _ _ _ h, f69b, beq0 h, bt_head]
  rfl
theorem f579w (L : List UInt8) (hL : L.length ≤ 1000000) (m : Nat) {a : Nat} (ha : a ≤ L.length) :
    RR L (pNum m (L.drop a)) fun v a' e => f579v0F 1000 ((m : Int), S L, (a : Int), 0, ()) = some ((v : Int), S L, a', e, ()) ∧ (e ≠ 0 → v = 0) := by
  have h := f614r L hL (n := 1) (by omega) ha
  unfold f579v0F
  rw [show ((1 : Nat) : Int) = 1 from rfl] at h
  match hd : L.drop a, h with
  | [], h =>
    obtain ⟨_, v, a', h⟩ := h
    refine ⟨by decide, 0, a', ?_, fun _ => rfl⟩
    have h0 : v = [0] := by
      have hl : ((L.length : Int) - (a : Int)) = 0 := by
        have := congrArg List.length hd
        simp at this; omega
      unfold f614v0F at h
      have e := f72z (n := 1) (by omega)
      rw [show ((1 : Nat) : Int) = 1 from rfl] at e
      simp only [bne00, cond_false, S_size, hl, e, bind_some'] at h
      have := congrArg (fun z : Option (ByteArray × ByteArray × Int × Int × Unit) => z.map (·.1)) h
      simp only [show IntKind.i64.wrap 0 = 0 from rfl, Int.reduceLT, decide_true, cond_true, Option.map_some, Option.some.injEq, S_inj] at this
      exact this.symm
    subst h0
    rw [h]
    simp only [bind_some', S_size, List.length_singleton, f615e _ _ _ (show (9 : Int) ≠ 0 by decide), f69b, bt_head]
    rfl
  | b :: t, h =>
    obtain ⟨a', ha', ht, h⟩ := h
    have h : f614v0F 1000 (1, S L, (a : Int), 0, ()) = some (S [b], S L, (a' : Int), 0, ()) := h
    have ht : t = L.drop a' := ht
    unfold pNum
    simp only [h, bind_some', S_size, List.length_singleton, bt_head, wi_byte, f615z]
    by_cases hm : m < b.toNat
    · rw [if_pos hm]
      refine ⟨by decide, 0, a', ?_, fun _ => rfl⟩
      have : decide ((b.toNat : Int) > (m : Int)) = true := by simp; omega
      simp only [this, if_true, f69b, bind_some']
      simp
      rfl
    · rw [if_neg hm]
      refine ⟨a', ha', ht, ?_, fun h => absurd rfl h⟩
      have : decide ((b.toNat : Int) > (m : Int)) = false := by simp; omega
      simp only [this, Bool.false_eq_true, if_false, f69b, bind_some', beq00, if_true, Int.mul_one, wi_byte]
      rfl
theorem f579r (L : List UInt8) (hL : L.length ≤ 1000000) (m : Nat) {a : Nat} (ha : a ≤ L.length) :
    RR L (pNum m (L.drop a)) fun v a' e => f579v0F 1000 ((m : Int), S L, (a : Int), 0, ()) = some ((v : Int), S L, a', e, ()) :=
  (f579w L hL m ha).imp fun _ _ _ h => h.1

theorem trm_snoc (l : List UInt8) (c : UInt8) : trm (l ++ [c]) = if c = 32 then trm l else l ++ [c] := by
  unfold trm Lib.trimRightB
  rw [List.reverse_append]
  by_cases h : c = 32
  · subst h; simp
  · simp [h, List.dropWhile]
theorem trm_pre (l : List UInt8) : trm l = l.take (trm l).length := by
  refine List.prefix_iff_eq_take.1 ?_
  unfold trm Lib.trimRightB
  have := List.reverse_prefix.2 (List.dropWhile_suffix (· == (32 : UInt8)) (l := l.reverse))
  rwa [List.reverse_reverse] at this
theorem trm_le (l : List UInt8) : (trm l).length ≤ l.length := by
  have := congrArg List.length (trm_pre l)
  rw [List.length_take] at this
  omega
theorem f616l0q {R : Type} (k0 : ByteArray × Int × ByteArray × Int × Int × Unit → Option R) (b : List UInt8) (s : ByteArray) (a e : Int) : ∀ (n r : Nat), n < r → n ≤ b.length → b.length ≤ 900 →
    iterS (fun rec v => f616v0l0s 1000 rec k0 v) r (S b, (n : Int), s, a, e, ()) = k0 (S b, ((trm (b.take n)).length : Int), s, a, e, ()) := by
  intro n
  induction n with
  | zero =>
    intro r hr hn hb
    obtain ⟨r, rfl⟩ : ∃ r', r = r' + 1 := ⟨r - 1, by omega⟩
    show f616v0l0s 1000 _ _ _ = _
    unfold f616v0l0s
    rw [List.take_zero, trm_nil]
    rfl
  | succ n ih =>
    intro r hr hn hb
    obtain ⟨r, rfl⟩ : ∃ r', r = r' + 1 := ⟨r - 1, by omega⟩
    show f616v0l0s 1000 _ _ _ = _
    unfold f616v0l0s
    have hx : b[n]? = some (b[n]'(by omega)) := List.getElem?_eq_getElem (by omega)
    have ht : b.take (n + 1) = b.take n ++ [b[n]'(by omega)] := by rw [List.take_add_one, hx]; rfl
    simp only [gt_succ, cond_true, wpred (n := n) (by omega), S_size, inb (show n < b.length by omega), S_bt b n (by omega), getD_of hx]
    rw [ht, trm_snoc]
    by_cases hc : b[n]'(by omega) = 32
    · rw [if_pos hc, bif_true (by rw [hc]; rfl)]
      exact ih r (by omega) (by omega) hb
    · rw [if_neg hc, bif_false (by
        have : (b[n]'(by omega)).toNat ≠ 32 := fun h => hc (UInt8.toNat_inj.1 h)
        simp; omega), ← ht, List.length_take, Nat.min_eq_left (by omega)]
def nmErr (m : List UInt8) (e : Int) : Int := if e ≠ 0 then e else if (32 : UInt8) ∈ m then 5 else 0
theorem f616l1q {R : Type} (k0 : ByteArray × Int × ByteArray × Int × Int × Unit → Option R) (b : List UInt8) (s : ByteArray) (a e : Int) (n : Nat) (hn : n ≤ b.length) (hb : b.length ≤ 900) :
    f616v0l1 1000 k0 (S b, (n : Int), 0, s, a, e, ()) = k0 (S b, (n : Int), s, a, nmErr (b.take n) e, ()) := by
  unfold f616v0l1
  have hl : (b.take n).length = n := by rw [List.length_take]; omega
  have := iter_list (k := 1000) (Step := fun rec v => f616v0l1s 1000 rec k0 v) (A := Int) (b.take n) (fun i e => (S b, (n : Int), (i : Int), s, a, e, ())) (fun m e => k0 (S b, (n : Int), s, a, nmErr m e, ())) (fun i e => True) ?_ ?_ (by omega) e trivial
  · exact this
  · intro rec e _
    unfold f616v0l1s
    rw [hl]
    simp only [ltn_self, cond_false]
    unfold nmErr
    by_cases he : e = 0 <;> simp [he]
  · intro rec i e x hx hi _
    rw [hl] at hi
    have hx' : b[i]? = some x := by rw [List.getElem?_take] at hx; rw [if_pos hi] at hx; exact hx
    unfold f616v0l1s
    simp only [ltn hi, cond_true, S_size, inb (show i < b.length by omega), S_bt b i (by omega), getD_of hx', wi_succ (i := i) (by omega)]
    by_cases he : e = 0
    · subst he
      simp only [f615z, bind_some']
      refine .inl ⟨_, trivial, rfl, ?_⟩
      by_cases hc : x = 32
      · subst hc
        simp [nmErr]
      · have : x.toNat ≠ 32 := fun h => hc (UInt8.toNat_inj.1 h)
        have h2 : (((x.toNat : Int)) == 32) = false := by simp; omega
        simp only [h2, Bool.false_eq_true, if_false]
        simp [nmErr, Ne.symm hc]
    · simp only [f615e _ _ _ he, bind_some']
      exact .inl ⟨_, trivial, rfl, by simp [nmErr, he]⟩
theorem f616x (b : List UInt8) (s : ByteArray) (a e : Int) (hb : b.length = 10) {s0 : ByteArray} {a0 e0 : Int} (h : f614v0F 1000 ((10 : Int), s0, a0, e0, ()) = some (S b, s, a, e, ())) :
    f616v0F 1000 (s0, a0, e0, ()) = some (S (trm b), s, a, nmErr (trm b) e, ()) := by
  unfold f616v0F
  simp only [h, bind_some']
  have hl := trm_le b
  have h0 : ∀ k0 : ByteArray × Int × ByteArray × Int × Int × Unit → Option (ByteArray × ByteArray × Int × Int × Unit), f616v0l0 1000 k0 (S b, 10, s, a, e, ()) = k0 (S b, ((trm b).length : Int), s, a, e, ()) := fun k0 => by
    have := f616l0q k0 b s a e 10 1000 (by omega) (by omega) (by omega)
    rw [List.take_of_length_le (by omega)] at this
    exact this
  rw [h0]
  simp only [f616l1q _ b s a e (trm b).length hl (by omega)]
  rw [bif_true (by rw [S_size]; exact sliceB0 hl)]
  simp only [S_cut, Int.toNat_natCast, List.drop_zero, ← trm_pre]
theorem trm_z : trm (List.replicate 10 0) = List.replicate 10 0 := by decide
theorem f616e (s : ByteArray) (a : Int) {e : Int} (h : e ≠ 0) : f616v0F 1000 (s, a, e, ()) = some (S (List.replicate 10 0), s, a, e, ()) := by
  have := f616x (List.replicate 10 0) s a e (by simp) (f614e (n := 10) (by omega) s a h)
  rw [this, trm_z, show nmErr (List.replicate 10 0) e = e from if_pos h]
theorem f616r (L : List UInt8) (hL : L.length ≤ 1000000) {a : Nat} (ha : a ≤ L.length) :
    RR L (pName (L.drop a)) fun v a' e => f616v0F 1000 (S L, (a : Int), 0, ()) = some (v, S L, a', e, ()) := by
  have h := f614r L hL (n := 10) (by omega) ha
  unfold pTake at h
  unfold pName
  by_cases hl : (L.drop a).length < 10
  · rw [if_pos hl] at h ⊢
    obtain ⟨_, v, a', h⟩ := h
    have h : f614v0F 1000 ((10 : Int), S L, (a : Int), 0, ()) = some (S v, S L, a', 9, ()) := h
    have hv : v.length = 10 := by
      unfold f614v0F at h
      have e := f72z (n := 10) (by omega)
      rw [show ((10 : Nat) : Int) = 10 from rfl] at e
      have e1 : IntKind.i64.wrap ((L.length : Int) - (a : Int)) = ((L.length - a : Nat) : Int) := by
        rw [show (L.length : Int) - (a : Int) = ((L.length - a : Nat) : Int) by omega]; exact wi (by omega) (by omega)
      simp only [bne00, cond_false, S_size, e1] at h
      rw [bif_true (by rw [List.length_drop] at hl; simp; omega), e, bind_some'] at h
      have := congrArg (fun z : Option (ByteArray × ByteArray × Int × Int × Unit) => z.map (·.1)) h
      simp only [Option.map_some, Option.some.injEq, S_inj] at this
      rw [← this]; simp
    exact ⟨by decide, _, _, (f616x v (S L) a' 9 hv h).trans (by rw [show nmErr (trm v) 9 = 9 from if_pos (by decide)])⟩
  · rw [if_neg hl] at h ⊢
    obtain ⟨a', ha', ht, h⟩ := h
    have h := f616x ((L.drop a).take 10) (S L) a' 0 (by rw [List.length_take]; omega) h
    have hz : ∀ m, nmErr m 0 = if (32 : UInt8) ∈ m then 5 else 0 := fun m => if_neg (by simp)
    rw [hz] at h
    by_cases hm : (32 : UInt8) ∈ trm ((L.drop a).take 10)
    · rw [if_pos hm] at h ⊢
      exact ⟨by decide, _, _, h⟩
    · rw [if_neg hm] at h ⊢
      exact ⟨a', ha', ht, h⟩
theorem f617e (s : ByteArray) (a : Int) {e : Int} (h : e ≠ 0) : f617v0F 1000 (s, a, e, ()) = some (S (List.replicate 10 0), 0, 0, 0, s, a, e, ()) := by
  unfold f617v0F
  have h5 : ∀ s a, f579v0F 1000 (255, s, a, e, ()) = some (0, s, a, e, ()) := fun s a => f579e 255 s a h
  simp only [f616e _ _ h, bind_some', h5]
theorem f617r (L : List UInt8) (hL : L.length ≤ 1000000) {a : Nat} (ha : a ≤ L.length) :
    RR L (pField (L.drop a)) fun v a' e => f617v0F 1000 (S L, (a : Int), 0, ()) = some (v.1, v.2.1, v.2.2.1, v.2.2.2, S L, a', e, ()) := by
  have h5 : ∀ {e : Int}, e ≠ 0 → ∀ s a, f579v0F 1000 (255, s, a, e, ()) = some (0, s, a, e, ()) := fun h s a => f579e 255 s a h
  have r5 : ∀ {a : Nat}, a ≤ L.length → RR L (pNum 255 (L.drop a)) fun v a' e => f579v0F 1000 (255, S L, (a : Int), 0, ()) = some ((v : Int), S L, a', e, ()) := fun ha => f579r L hL 255 ha
  unfold pField
  refine (f616r L hL ha).bdE (fun v a _ ha h1 => ?_) (fun e v a he h1 => ⟨(v, (0, (0, 0))), a, ?_⟩)
  rotate_left
  · unfold f617v0F
    simp only [h1, bind_some', h5 he]
  refine (r5 ha).bdE (fun x a _ ha h2 => ?_) (fun e x a he h2 => ⟨(v, ((x : Int), (0, 0))), a, ?_⟩)
  rotate_left
  · unfold f617v0F
    simp only [h1, h2, bind_some', h5 he]
  refine (r5 ha).bdE (fun y a _ ha h3 => ?_) (fun e y a he h3 => ⟨(v, ((x : Int), ((y : Int), 0))), a, ?_⟩)
  rotate_left
  · unfold f617v0F
    simp only [h1, h2, h3, bind_some', h5 he]
  refine (r5 ha).bdE (fun z a _ ha h4 => ?_) (fun e z a he h4 => ⟨(v, ((x : Int), ((y : Int), (z : Int)))), a, ?_⟩)
  · refine ⟨a, ha, rfl, ?_⟩
    unfold f617v0F
    simp only [h1, h2, h3, h4, bind_some']
  · unfold f617v0F
    simp only [h1, h2, h3, h4, bind_some']
end Go.Proofs.YtobgkcamonlnkaaGreatDoor
/-! Plain laws of chapter 34: tables read by the reference; the law of reading. -/
set_option linter.unusedVariables false
set_option linter.unusedSimpArgs false
namespace Go.Proofs.YtobgkcamonlnkaaGreatDoor
open Go.Ab

/-- A loop that counts up. -/
theorem many_up {α V R κ : Type} {Step : κ → (V → Option R) → V → Option R} (L : List UInt8) (p : List UInt8 → PE α) (sL : ByteArray) (body : Int → Int → Option (α × ByteArray × Int × Int))
    (hb : ∀ a : Nat, a ≤ L.length → RR L (p (L.drop a)) fun v a' e => body (a : Int) 0 = some (v, sL, a', e)) (n : Nat) (mk : Int → Int → Int → List α → V) (k0 : κ → Int → Int → List α → Option R)
    (h0 : ∀ K rec a e acc, Step K rec (mk (n : Int) a e acc) = k0 K a e acc)
    (he : ∀ (d i : Nat), i + d = n → ∀ a e acc, e ≠ 0 → acc.length = i → ∃ vs, ∀ K r, d < r → iterS (Step K) r (mk (i : Int) a e acc) = k0 K a e (acc ++ vs))
    (h1 : ∀ K rec (i : Nat) a acc v a' e, i < n → acc.length = i → body a 0 = some (v, sL, a', e) → Step K rec (mk (i : Int) a 0 acc) = rec (mk ((i + 1 : Nat) : Int) a' e (acc ++ [v]))) :
    ∀ (d i r : Nat), d < r → i + d = n → ∀ (a : Nat) (acc : List α), a ≤ L.length → acc.length = i →
      RR L (pMany p d (L.drop a)) fun vs a' e => ∀ K, iterS (Step K) r (mk (i : Int) (a : Int) 0 acc) = k0 K a' e (acc ++ vs) := by
  intro d
  induction d with
  | zero =>
    intro i r hr hi a acc ha hc
    obtain ⟨r, rfl⟩ : ∃ r', r = r' + 1 := ⟨r - 1, by omega⟩
    obtain rfl : i = n := by omega
    refine ⟨a, ha, rfl, fun K => ?_⟩
    show Step K (iterS (Step K) r) _ = _
    rw [List.append_nil]
    exact h0 _ _ _ _ _
  | succ d ih =>
    intro i r hr hi a acc ha hc
    obtain ⟨r, rfl⟩ : ∃ r', r = r' + 1 := ⟨r - 1, by omega⟩
    unfold pMany
    refine (hb a ha).bdE (fun v a' _ ha' h => ?_) (fun e v a' hne h => ?_)
    · have hs : ∀ K, iterS (Step K) (r + 1) (mk (i : Int) (a : Int) 0 acc) = iterS (Step K) r (mk ((i + 1 : Nat) : Int) (a' : Int) 0 (acc ++ [v])) := fun K => h1 K _ i _ acc v _ _ (by omega) hc h
      refine (ih (i + 1) r (by omega) (by omega) a' (acc ++ [v]) ha' (by simp [hc])).bdE (fun vs a2 _ ha2 h => ?_) (fun e vs a2 hne h => ?_)
      · refine ⟨a2, ha2, rfl, fun K => ?_⟩
        rw [hs, h, List.append_assoc]
        rfl
      · exact ⟨v :: vs, a2, fun K => by rw [hs, h, List.append_assoc]; rfl⟩
    · have hs : ∀ K, iterS (Step K) (r + 1) (mk (i : Int) (a : Int) 0 acc) = iterS (Step K) r (mk ((i + 1 : Nat) : Int) a' e (acc ++ [v])) := fun K => h1 K _ i _ acc v _ _ (by omega) hc h
      obtain ⟨vs, h2⟩ := he d (i + 1) (by omega) a' e (acc ++ [v]) hne (by simp [hc])
      refine ⟨v :: vs, a', fun K => ?_⟩
      rw [hs, h2 K r (by omega), List.append_assoc]
      rfl
/-- A loop that goes on at an error. -/
theorem run_on {α V R κ : Type} {Step : κ → (V → Option R) → V → Option R} (n : Nat) (mk : Int → Int → Int → List α → V) (k0 : κ → Int → Int → List α → Option R) (z : α)
    (h0 : ∀ K rec a e acc, Step K rec (mk (n : Int) a e acc) = k0 K a e acc)
    (h1 : ∀ K rec (i : Nat) a e acc, i < n → acc.length = i → e ≠ 0 → Step K rec (mk (i : Int) a e acc) = rec (mk ((i + 1 : Nat) : Int) a e (acc ++ [z]))) :
    ∀ (d i : Nat), i + d = n → ∀ a e acc, e ≠ 0 → acc.length = i → ∃ vs, ∀ K r, d < r → iterS (Step K) r (mk (i : Int) a e acc) = k0 K a e (acc ++ vs) := by
  intro d
  induction d with
  | zero =>
    intro i hi a e acc he hc
    obtain rfl : i = n := by omega
    refine ⟨[], fun K r hr => ?_⟩
    obtain ⟨r, rfl⟩ : ∃ r', r = r' + 1 := ⟨r - 1, by omega⟩
    rw [List.append_nil]
    exact h0 _ _ _ _ _
  | succ d ih =>
    intro i hi a e acc he hc
    obtain ⟨vs, h⟩ := ih (i + 1) (by omega) a e (acc ++ [z]) he (by simp [hc])
    refine ⟨z :: vs, fun K r hr => ?_⟩
    obtain ⟨r, rfl⟩ : ∃ r', r = r' + 1 := ⟨r - 1, by omega⟩
    have hs : iterS (Step K) (r + 1) (mk (i : Int) a e acc) = iterS (Step K) r (mk ((i + 1 : Nat) : Int) a e (acc ++ [z])) := h1 K _ i a e acc (by omega) hc he
    rw [hs, h K r (by omega), List.append_assoc]
    rfl

noncomputable def fldU (s : ByteArray) (a e : Int) : Option (Fld × ByteArray × Int × Int) :=
  Option.bind (f617v0F 1000 (s, a, e, ())) fun y => some ((y.1, (y.2.1, (y.2.2.1, y.2.2.2.1))), y.2.2.2.2.1, y.2.2.2.2.2.1, y.2.2.2.2.2.2.1)
noncomputable def keyU (s : ByteArray) (a e : Int) : Option (Key × ByteArray × Int × Int) :=
  Option.bind (f616v0F 1000 (s, a, e, ())) fun y8 => Option.bind (f579v0F 1000 ((1 : Int), y8.2.1, y8.2.2.1, y8.2.2.2.1, ())) fun y9 =>
  some ((y8.1, y9.1 == (1 : Int)), y9.2.1, y9.2.2.1, y9.2.2.2.1)
noncomputable def recU (sz : Int) (s : ByteArray) (a e : Int) : Option (Rcd × ByteArray × Int × Int) :=
  Option.bind (f579v0F 1000 ((1 : Int), s, a, e, ())) fun y =>
  bif y.1 == 0 then some ((true, ByteArray.empty), y.2.1, y.2.2.1, y.2.2.2.1) else Option.bind (f614v0F 1000 (sz, y.2.1, y.2.2.1, y.2.2.2.1, ())) fun z => some ((false, z.1), z.2.1, z.2.2.1, z.2.2.2.1)
theorem r1e (s : ByteArray) (a : Int) {e : Int} (h : e ≠ 0) : f579v0F 1000 ((1 : Int), s, a, e, ()) = some (0, s, a, e, ()) := f579e 1 s a h
theorem r1r (L : List UInt8) (hL : L.length ≤ 1000000) {a : Nat} (ha : a ≤ L.length) :
    RR L (pNum 1 (L.drop a)) fun v a' e => f579v0F 1000 ((1 : Int), S L, (a : Int), 0, ()) = some ((v : Int), S L, a', e, ()) := f579r L hL 1 ha
theorem nat_one (v : Nat) : (((v : Int)) == 1) = (v == 1) := by
  rw [Bool.eq_iff_iff]; simp; omega
theorem fldU_r (L : List UInt8) (hL : L.length ≤ 1000000) (a : Nat) (ha : a ≤ L.length) : RR L (pField (L.drop a)) fun v a' e => fldU (S L) (a : Int) 0 = some (v, S L, a', e) :=
  (f617r L hL ha).imp fun v t e h => by
    unfold fldU
    rw [h]
    rfl
theorem keyU_r (L : List UInt8) (hL : L.length ≤ 1000000) (a : Nat) (ha : a ≤ L.length) : RR L (pKey (L.drop a)) fun v a' e => keyU (S L) (a : Int) 0 = some (v, S L, a', e) := by
  unfold pKey
  refine (f616r L hL ha).bdE (fun v a _ ha h1 => ?_) (fun e v a he h1 => ⟨(v, false), a, ?_⟩)
  · refine (r1r L hL ha).bdE (fun b a _ ha h2 => ?_) (fun e b a he h2 => ⟨(v, b == 1), a, ?_⟩)
    · refine ⟨a, ha, rfl, ?_⟩
      unfold keyU
      simp only [h1, h2, bind_some', nat_one]
    · unfold keyU
      simp only [h1, h2, bind_some', nat_one]
  · unfold keyU
    simp only [h1, bind_some', r1e _ _ he]
    rfl
theorem recU_r (L : List UInt8) (hL : L.length ≤ 1000000) (sz : Nat) (hz : sz ≤ 900) (a : Nat) (ha : a ≤ L.length) : RR L (pRec sz (L.drop a)) fun v a' e => recU (sz : Int) (S L) (a : Int) 0 = some (v, S L, a', e) := by
  unfold pRec
  refine (r1r L hL ha).bdE (fun v a hv ha h1 => ?_) (fun e v a he h1 => ?_)
  · have hv := pNum_le hv
    by_cases h : v = 1
    · subst h
      rw [if_pos rfl]
      refine (f614r L hL hz ha).bdE (fun b a _ ha h2 => ?_) (fun e b a he h2 => ⟨(false, S b), a, ?_⟩)
      · refine ⟨a, ha, rfl, ?_⟩
        unfold recU
        simp only [h1, h2, bind_some', show (((1 : Nat) : Int) == 0) = false from rfl, cond_false]
      · unfold recU
        simp only [h1, h2, bind_some', show (((1 : Nat) : Int) == 0) = false from rfl, cond_false]
    · rw [if_neg h]
      obtain rfl : v = 0 := by omega
      refine ⟨a, ha, rfl, ?_⟩
      unfold recU
      simp only [h1, bind_some', show (((0 : Nat) : Int) == 0) = true from rfl, cond_true]
  · cases hv : (((v : Nat) : Int) == 0) with
    | true =>
      refine ⟨(true, ByteArray.empty), a, ?_⟩
      unfold recU
      simp only [h1, bind_some', hv, cond_true]
    | false =>
      refine ⟨(false, S (List.replicate sz 0)), a, ?_⟩
      unfold recU
      simp only [h1, bind_some', hv, cond_false, f614e hz _ _ he]

abbrev TabU := ByteArray × Int × Int × ByteArray × ByteArray × Bool × ByteArray × ByteArray × Bool × List Fld × List Key × List Rcd × List Fld × List Key × List Rcd × Unit
theorem f580l0q {R : Type} (L : List UInt8) (hL : L.length ≤ 1000000) (a1 a2 : ByteArray) (a3 : Bool) (a4 a5 : ByteArray) (a6 : Bool) (b7 : List Fld) (b8 : List Key) (b9 : List Rcd) (ks : List Key) (rs : List Rcd) (n : Nat) (hn : n ≤ 900) (a : Nat) (ha : a ≤ L.length) :
    RR L (pMany pField n (L.drop a)) fun vs a' e => ∀ k0 : TabU → Option R, f580v0l0 1000 k0 ((n : Int), (0 : Int), S L, (a : Int), 0, a1, a2, a3, a4, a5, a6, b7, b8, b9, [], ks, rs, ()) = k0 (S L, a', e, a1, a2, a3, a4, a5, a6, b7, b8, b9, vs, ks, rs, ()) := by
  unfold f580v0l0
  refine many_up (Step := fun k0 rec v => f580v0l0s 1000 rec k0 v) L pField (S L) (fldU (S L)) (fldU_r L hL) n (fun i a e acc => ((n : Int), i, S L, a, e, a1, a2, a3, a4, a5, a6, b7, b8, b9, acc, ks, rs, ())) (fun (k0 : TabU → Option R) a e acc => k0 (S L, a, e, a1, a2, a3, a4, a5, a6, b7, b8, b9, acc, ks, rs, ())) ?_ (run_on (Step := fun k0 rec v => f580v0l0s 1000 rec k0 v) n (fun i a e acc => ((n : Int), i, S L, a, e, a1, a2, a3, a4, a5, a6, b7, b8, b9, acc, ks, rs, ())) (fun (k0 : TabU → Option R) a e acc => k0 (S L, a, e, a1, a2, a3, a4, a5, a6, b7, b8, b9, acc, ks, rs, ())) ((S (List.replicate 10 0), (0, (0, 0))) : Fld) ?_ ?_) ?_ n 0 1000 (by omega) (by omega) a [] ha rfl
  · intro K rec a e acc
    unfold f580v0l0s
    simp only [ltn_self, cond_false]
  · intro K rec a e acc
    unfold f580v0l0s
    simp only [ltn_self, cond_false]
  · intro K rec i a e acc hi hc he
    unfold f580v0l0s
    simp only [ltn hi, cond_true, f617e _ _ he, bind_some', wi_succ (i := i) (by omega)]
    rw [bif_true (by simp; omega)]
  · intro K rec i a acc v a' e hi hc hb
    unfold f580v0l0s
    simp only [ltn hi, cond_true, wi_succ (i := i) (by omega)]
    unfold fldU at hb
    cases h1 : f617v0F 1000 (S L, a, 0, ()) with
    | none => rw [h1] at hb; exact absurd hb (by simp)
    | some y =>
    rw [h1] at hb
    simp only [bind_some', Option.some.injEq, Prod.mk.injEq] at hb ⊢
    obtain ⟨rfl, hs, rfl, rfl⟩ := hb
    rw [bif_true (by simp; omega), hs]
theorem f580l1q {R : Type} (L : List UInt8) (hL : L.length ≤ 1000000) (a1 a2 : ByteArray) (a3 : Bool) (a4 a5 : ByteArray) (a6 : Bool) (b7 : List Fld) (b8 : List Key) (b9 : List Rcd) (fs : List Fld) (rs : List Rcd) (n : Nat) (hn : n ≤ 900) (a : Nat) (ha : a ≤ L.length) :
    RR L (pMany pKey n (L.drop a)) fun vs a' e => ∀ k0 : TabU → Option R, f580v0l1 1000 k0 ((n : Int), (0 : Int), S L, (a : Int), 0, a1, a2, a3, a4, a5, a6, b7, b8, b9, fs, [], rs, ()) = k0 (S L, a', e, a1, a2, a3, a4, a5, a6, b7, b8, b9, fs, vs, rs, ()) := by
  unfold f580v0l1
  refine many_up (Step := fun k0 rec v => f580v0l1s 1000 rec k0 v) L pKey (S L) (keyU (S L)) (keyU_r L hL) n (fun i a e acc => ((n : Int), i, S L, a, e, a1, a2, a3, a4, a5, a6, b7, b8, b9, fs, acc, rs, ())) (fun (k0 : TabU → Option R) a e acc => k0 (S L, a, e, a1, a2, a3, a4, a5, a6, b7, b8, b9, fs, acc, rs, ())) ?_ (run_on (Step := fun k0 rec v => f580v0l1s 1000 rec k0 v) n (fun i a e acc => ((n : Int), i, S L, a, e, a1, a2, a3, a4, a5, a6, b7, b8, b9, fs, acc, rs, ())) (fun (k0 : TabU → Option R) a e acc => k0 (S L, a, e, a1, a2, a3, a4, a5, a6, b7, b8, b9, fs, acc, rs, ())) ((S (List.replicate 10 0), false) : Key) ?_ ?_) ?_ n 0 1000 (by omega) (by omega) a [] ha rfl
  · intro K rec a e acc
    unfold f580v0l1s
    simp only [ltn_self, cond_false]
  · intro K rec a e acc
    unfold f580v0l1s
    simp only [ltn_self, cond_false]
  · intro K rec i a e acc hi hc he
    unfold f580v0l1s
    simp only [ltn hi, cond_true, f616e _ _ he, r1e _ _ he, bind_some', wi_succ (i := i) (by omega)]
    rw [bif_true (by simp; omega)]
    rfl
  · intro K rec i a acc v a' e hi hc hb
    unfold f580v0l1s
    simp only [ltn hi, cond_true, wi_succ (i := i) (by omega)]
    unfold keyU at hb
    cases h1 : f616v0F 1000 (S L, a, 0, ()) with
    | none => rw [h1] at hb; exact absurd hb (by simp)
    | some y =>
    rw [h1] at hb
    simp only [bind_some'] at hb ⊢
    cases h2 : f579v0F 1000 (1, y.2.1, y.2.2.1, y.2.2.2.1, ()) with
    | none => rw [h2] at hb; exact absurd hb (by simp)
    | some z =>
    rw [h2] at hb
    simp only [bind_some', Option.some.injEq, Prod.mk.injEq] at hb ⊢
    obtain ⟨rfl, hs2, rfl, rfl⟩ := hb
    rw [bif_true (by simp; omega), hs2]
theorem f580l4q {R : Type} (L : List UInt8) (hL : L.length ≤ 1000000) (a1 a2 : ByteArray) (a3 : Bool) (a4 a5 : ByteArray) (a6 : Bool) (b7 : List Fld) (b8 : List Key) (b9 : List Rcd) (fs : List Fld) (ks : List Key) (sz : Nat) (hz : sz ≤ 900) (n : Nat) (hn : n ≤ 900) (a : Nat) (ha : a ≤ L.length) :
    RR L (pMany (pRec sz) n (L.drop a)) fun vs a' e => ∀ k0 : TabU → Option R, f580v0l4 1000 k0 ((sz : Int), (n : Int), (0 : Int), S L, (a : Int), 0, a1, a2, a3, a4, a5, a6, b7, b8, b9, fs, ks, [], ()) = k0 (S L, a', e, a1, a2, a3, a4, a5, a6, b7, b8, b9, fs, ks, vs, ()) := by
  unfold f580v0l4
  refine many_up (Step := fun k0 rec v => f580v0l4s 1000 rec k0 v) L (pRec sz) (S L) (recU (sz : Int) (S L)) (recU_r L hL sz hz) n (fun i a e acc => ((sz : Int), (n : Int), i, S L, a, e, a1, a2, a3, a4, a5, a6, b7, b8, b9, fs, ks, acc, ())) (fun (k0 : TabU → Option R) a e acc => k0 (S L, a, e, a1, a2, a3, a4, a5, a6, b7, b8, b9, fs, ks, acc, ())) ?_ (run_on (Step := fun k0 rec v => f580v0l4s 1000 rec k0 v) n (fun i a e acc => ((sz : Int), (n : Int), i, S L, a, e, a1, a2, a3, a4, a5, a6, b7, b8, b9, fs, ks, acc, ())) (fun (k0 : TabU → Option R) a e acc => k0 (S L, a, e, a1, a2, a3, a4, a5, a6, b7, b8, b9, fs, ks, acc, ())) ((true, ByteArray.empty) : Rcd) ?_ ?_) ?_ n 0 1000 (by omega) (by omega) a [] ha rfl
  · intro K rec a e acc
    unfold f580v0l4s
    simp only [ltn_self, cond_false]
  · intro K rec a e acc
    unfold f580v0l4s
    simp only [ltn_self, cond_false]
  · intro K rec i a e acc hi hc he
    unfold f580v0l4s f580v0p3
    simp only [ltn hi, cond_true, r1e _ _ he, bind_some', wi_succ (i := i) (by omega), beq00, Bool.not_true, cond_false]
    rw [bif_true (by simp; omega)]
  · intro K rec i a acc v a' e hi hc hb
    unfold f580v0l4s f580v0p3
    simp only [ltn hi, cond_true, wi_succ (i := i) (by omega)]
    unfold recU at hb
    cases h1 : f579v0F 1000 (1, S L, a, 0, ()) with
    | none => rw [h1] at hb; exact absurd hb (by simp)
    | some y =>
    rw [h1] at hb
    simp only [bind_some'] at hb ⊢
    cases hy : (y.1 == 0) with
    | true =>
      rw [hy] at hb
      simp only [cond_true, Option.some.injEq, Prod.mk.injEq] at hb
      obtain ⟨rfl, hs, rfl, rfl⟩ := hb
      simp only [Bool.not_true, cond_false]
      rw [bif_true (by simp; omega), hs]
    | false =>
      rw [hy] at hb
      simp only [cond_false] at hb
      simp only [Bool.not_false, cond_true]
      cases h2 : f614v0F 1000 ((sz : Int), y.2.1, y.2.2.1, y.2.2.2.1, ()) with
      | none => rw [h2] at hb; exact absurd hb (by simp)
      | some z =>
      rw [h2] at hb
      simp only [bind_some', Option.some.injEq, Prod.mk.injEq] at hb ⊢
      obtain ⟨rfl, hs2, rfl, rfl⟩ := hb
      rw [bif_true (by simp; omega), hs2]
end Go.Proofs.YtobgkcamonlnkaaGreatDoor
/-! Plain laws of chapter 34: lists of tables read by the reference; the law of reading. -/
set_option linter.unusedVariables false
set_option linter.unusedSimpArgs false
namespace Go.Proofs.YtobgkcamonlnkaaGreatDoor
open Go.Ab

theorem u0z {R : Type} (k0 : TabU → Option R) (s : ByteArray) (a e : Int) (a1 a2 : ByteArray) (a3 : Bool) (a4 a5 : ByteArray) (a6 : Bool) (b7 : List Fld) (b8 : List Key) (b9 : List Rcd) (fs : List Fld) (ks : List Key) (rs : List Rcd) :
    f580v0l0 1000 k0 (0, 0, s, a, e, a1, a2, a3, a4, a5, a6, b7, b8, b9, fs, ks, rs, ()) = k0 (s, a, e, a1, a2, a3, a4, a5, a6, b7, b8, b9, fs, ks, rs, ()) := by
  unfold f580v0l0
  rw [iterS_1000]
  unfold f580v0l0s
  rfl
theorem u1z {R : Type} (k0 : TabU → Option R) (s : ByteArray) (a e : Int) (a1 a2 : ByteArray) (a3 : Bool) (a4 a5 : ByteArray) (a6 : Bool) (b7 : List Fld) (b8 : List Key) (b9 : List Rcd) (fs : List Fld) (ks : List Key) (rs : List Rcd) :
    f580v0l1 1000 k0 (0, 0, s, a, e, a1, a2, a3, a4, a5, a6, b7, b8, b9, fs, ks, rs, ()) = k0 (s, a, e, a1, a2, a3, a4, a5, a6, b7, b8, b9, fs, ks, rs, ()) := by
  unfold f580v0l1
  rw [iterS_1000]
  unfold f580v0l1s
  rfl
theorem u4z {R : Type} (k0 : TabU → Option R) (sz : Int) (s : ByteArray) (a e : Int) (a1 a2 : ByteArray) (a3 : Bool) (a4 a5 : ByteArray) (a6 : Bool) (b7 : List Fld) (b8 : List Key) (b9 : List Rcd) (fs : List Fld) (ks : List Key) (rs : List Rcd) :
    f580v0l4 1000 k0 (sz, 0, 0, s, a, e, a1, a2, a3, a4, a5, a6, b7, b8, b9, fs, ks, rs, ()) = k0 (s, a, e, a1, a2, a3, a4, a5, a6, b7, b8, b9, fs, ks, rs, ()) := by
  unfold f580v0l4
  rw [iterS_1000]
  unfold f580v0l4s
  rfl
abbrev RETU := ByteArray × ByteArray × List Fld × List Key × Bool × List Rcd × ByteArray × Int × Int × Unit
/-- What the reference's reader of a table does when the file is read. -/
noncomputable def tabU (s : ByteArray) (f : Fil) (a e : Int) : Option RETU :=
  f580v0p2 1000 (fun w13 =>
      bif (w13.2.2.1 != (0 : Int)) then
        some (w13.2.2.2.2.2.2.1, w13.2.2.2.2.2.2.2.1, w13.2.2.2.2.2.2.2.2.2.2.2.2.1, w13.2.2.2.2.2.2.2.2.2.2.2.2.2.1, w13.2.2.2.2.2.2.2.2.1, w13.2.2.2.2.2.2.2.2.2.2.2.2.2.2.1, w13.1, w13.2.1, w13.2.2.1, ())
      else
      Option.bind (f618F 1000 (w13.2.2.2.2.2.2.2.1, w13.2.2.2.2.2.2.2.2.2.2.2.2.1)) fun y14 =>
      Option.bind (f579v0F 1000 ((60 : Int), w13.1, w13.2.1, w13.2.2.1, ())) fun y15 =>
      f580v0l4 1000
        (fun w20 => some (w20.2.2.2.2.2.2.1, w20.2.2.2.2.2.2.2.1, w20.2.2.2.2.2.2.2.2.2.2.2.2.1, w20.2.2.2.2.2.2.2.2.2.2.2.2.2.1, w20.2.2.2.2.2.2.2.2.1, w20.2.2.2.2.2.2.2.2.2.2.2.2.2.2.1, w20.1, w20.2.1, w20.2.2.1, ()))
        (y14, y15.1, (0 : Int), y15.2.1, y15.2.2.1, y15.2.2.2.1, w13.2.2.2.1, w13.2.2.2.2.1, w13.2.2.2.2.2.1, w13.2.2.2.2.2.2.1, w13.2.2.2.2.2.2.2.1, w13.2.2.2.2.2.2.2.2.1, w13.2.2.2.2.2.2.2.2.2.1, w13.2.2.2.2.2.2.2.2.2.2.1, w13.2.2.2.2.2.2.2.2.2.2.2.1, w13.2.2.2.2.2.2.2.2.2.2.2.2.1, w13.2.2.2.2.2.2.2.2.2.2.2.2.2.1, w13.2.2.2.2.2.2.2.2.2.2.2.2.2.2.1, ()))
    (s, a, e, ByteArray.empty, ByteArray.empty, false, f.1, f.2.1.1, f.2.2.2, [], [], [], f.2.1.2, f.2.2.1, [], ())
theorem f580a (L : List UInt8) (hL : L.length ≤ 1000000) {a : Nat} (ha : a ≤ L.length) : RR L (pFile (L.drop a)) fun f a' e => f580v0F 1000 (S L, (a : Int), 0, ()) = tabU (S L) f a' e := by
  unfold pFile
  have u20 : ∀ {e : Int}, e ≠ 0 → ∀ s a, f579v0F 1000 (20, s, a, e, ()) = some (0, s, a, e, ()) := fun h s a => f579e 20 s a h
  have u4 : ∀ {e : Int}, e ≠ 0 → ∀ s a, f579v0F 1000 (4, s, a, e, ()) = some (0, s, a, e, ()) := fun h s a => f579e 4 s a h
  have n20 : ∀ {a : Nat}, a ≤ L.length → RR L (pNum 20 (L.drop a)) fun v a' e => f579v0F 1000 (20, S L, (a : Int), 0, ()) = some ((v : Int), S L, a', e, ()) ∧ (e ≠ 0 → v = 0) := fun ha => f579w L hL 20 ha
  have n4 : ∀ {a : Nat}, a ≤ L.length → RR L (pNum 4 (L.drop a)) fun v a' e => f579v0F 1000 (4, S L, (a : Int), 0, ()) = some ((v : Int), S L, a', e, ()) ∧ (e ≠ 0 → v = 0) := fun ha => f579w L hL 4 ha
  refine (f616r L hL ha).bdE (fun fn a _ ha h1 => ?_) (fun e fn a he h1 => ⟨(fn, ((S (List.replicate 10 0), []), ([], false))), a, ?_⟩)
  rotate_left
  · unfold f580v0F tabU f580v0p2
    simp only [h1, bind_some', f616e _ _ he, u20 he, u4 he, r1e _ _ he, u0z, u1z, beq0 he, bne0 he, cond_true, cond_false]
    try rfl
  refine (f616r L hL ha).bdE (fun nm a _ ha h2 => ?_) (fun e nm a he h2 => ⟨(fn, ((nm, []), ([], false))), a, ?_⟩)
  rotate_left
  · unfold f580v0F tabU f580v0p2
    simp only [h1, h2, bind_some', f616e _ _ he, u20 he, u4 he, r1e _ _ he, u0z, u1z, beq0 he, bne0 he, cond_true, cond_false]
    try rfl
  refine (n20 ha).bdE (fun n a hn ha h3 => ?_) (fun e n a he h3 => ⟨(fn, ((nm, []), ([], false))), a, ?_⟩)
  rotate_left
  · obtain ⟨h3, h0⟩ := h3
    obtain rfl := h0 he
    rw [show ((0 : Nat) : Int) = 0 from rfl] at h3
    unfold f580v0F tabU f580v0p2
    simp only [h1, h2, h3, bind_some', f616e _ _ he, u20 he, u4 he, r1e _ _ he, u0z, u1z, beq0 he, bne0 he, cond_true, cond_false]
    try rfl
  have hn := pNum_le hn
  have h3 := h3.1
  refine (f580l0q (R := RETU) L hL ByteArray.empty ByteArray.empty false fn nm false [] [] [] [] [] n (by omega) a ha).bdE (fun fs a _ ha h4 => ?_) (fun e fs a he h4 => ⟨(fn, ((nm, fs), ([], false))), a, ?_⟩)
  rotate_left
  · unfold f580v0F tabU f580v0p2
    simp only [h1, h2, h3, h4, bind_some', f616e _ _ he, u20 he, u4 he, r1e _ _ he, u0z, u1z, beq0 he, bne0 he, cond_true, cond_false]
    try rfl
  refine (n4 ha).bdE (fun m a hm ha h5 => ?_) (fun e m a he h5 => ⟨(fn, ((nm, fs), ([], false))), a, ?_⟩)
  rotate_left
  · obtain ⟨h5, h0⟩ := h5
    obtain rfl := h0 he
    rw [show ((0 : Nat) : Int) = 0 from rfl] at h5
    unfold f580v0F tabU f580v0p2
    simp only [h1, h2, h3, h4, h5, bind_some', f616e _ _ he, u20 he, u4 he, r1e _ _ he, u0z, u1z, beq0 he, bne0 he, cond_true, cond_false]
    try rfl
  have hm := pNum_le hm
  have h5 := h5.1
  refine (f580l1q (R := RETU) L hL ByteArray.empty ByteArray.empty false fn nm false [] [] [] fs [] m (by omega) a ha).bdE (fun ks a _ ha h6 => ?_) (fun e ks a he h6 => ⟨(fn, ((nm, fs), (ks, false))), a, ?_⟩)
  rotate_left
  · unfold f580v0F tabU f580v0p2
    simp only [h1, h2, h3, h4, h5, h6, bind_some', f616e _ _ he, u20 he, u4 he, r1e _ _ he, u0z, u1z, beq0 he, bne0 he, cond_true, cond_false]
    try rfl
  refine (r1r L hL ha).bdE (fun u a _ ha h7 => ?_) (fun e u a he h7 => ⟨(fn, ((nm, fs), (ks, u == 1))), a, ?_⟩)
  rotate_left
  · unfold f580v0F tabU f580v0p2
    simp only [h1, h2, h3, h4, h5, h6, h7, nat_one, bind_some', f616e _ _ he, u20 he, u4 he, r1e _ _ he, u0z, u1z, beq0 he, bne0 he, cond_true, cond_false]
    try rfl
  refine ⟨a, ha, rfl, ?_⟩
  unfold f580v0F tabU
  simp only [h1, h2, h3, h4, h5, h6, h7, bind_some', nat_one]
abbrev tabV (L : List UInt8) (t : Tbl) (a e : Int) : Option RETU := some (t.1.1, t.1.2.1.1, t.1.2.1.2, t.1.2.2.1, t.1.2.2.2, t.2, S L, a, e, ())
theorem f580q (L : List UInt8) (hL : L.length ≤ 1000000) {a : Nat} (ha : a ≤ L.length) : RR L (pTable (L.drop a)) fun t a' e => f580v0F 1000 (S L, (a : Int), 0, ()) = tabV L t a' e := by
  unfold pTable
  refine (f580a L hL ha).bdE (fun f a _ ha h => ?_) (fun e f a he h => ⟨(f, []), a, ?_⟩)
  rotate_left
  · rw [h]
    unfold tabU f580v0p2
    simp only [beq0 he, bne0 he, cond_true, cond_false]
  simp only [tabU, f580v0p2, beq00, cond_true] at h
  rw [show ((f.1, ((f.2.1.1, f.2.1.2), (f.2.2.1, f.2.2.2))) : Fil) = f from rfl, f527q, bind_some'] at h
  by_cases hf : (chkFile f).2 = 0
  · rw [if_neg (fun c => c hf)]
    have hfo := file_ok hf
    have hfm := fmt_ok hfo.2.1
    rw [hf] at h
    simp only [bne00, cond_false] at h
    rw [show ((f.2.1.1, f.2.1.2) : Fmt) = f.2.1 from rfl, f618q hfo.2.1, bind_some'] at h
    have n60 : RR L (pNum 60 (L.drop a)) fun v a' e => f579v0F 1000 (60, S L, (a : Int), 0, ()) = some ((v : Int), S L, a', e, ()) ∧ (e ≠ 0 → v = 0) := f579w L hL 60 ha
    refine n60.bdE (fun n a hn ha h3 => ?_) (fun e n a he h3 => ⟨(f, []), a, ?_⟩)
    rotate_left
    · obtain ⟨h3, h0⟩ := h3
      obtain rfl := h0 he
      rw [show ((0 : Nat) : Int) = 0 from rfl] at h3
      rw [h]
      simp only [h3, bind_some', u4z]
    have hn := pNum_le hn
    have hw := sumW_nat f.2.1.2
    refine (f580l4q (R := RETU) L hL ByteArray.empty ByteArray.empty false f.1 f.2.1.1 f.2.2.2 [] [] [] f.2.1.2 f.2.2.1 (sumW f.2.1.2).toNat (by omega) n (by omega) a ha).bdE (fun rs a _ ha h4 => ?_) (fun e rs a he h4 => ⟨(f, rs), a, ?_⟩)
    · refine ⟨a, ha, rfl, ?_⟩
      rw [h, h3.1, bind_some']
      rw [hw] at h4
      exact h4 _
    · rw [h, h3.1, bind_some']
      rw [hw] at h4
      exact h4 _
  · rw [if_pos hf]
    refine ⟨hf, (f, []), a, ?_⟩
    rw [h, bif_true (bne0 hf)]

noncomputable def tblU (s : ByteArray) (a e : Int) : Option (Tbl × ByteArray × Int × Int) :=
  Option.bind (f580v0F 1000 (s, a, e, ())) fun y => some (((y.1, ((y.2.1, y.2.2.1), (y.2.2.2.1, y.2.2.2.2.1))), y.2.2.2.2.2.1), y.2.2.2.2.2.2.1, y.2.2.2.2.2.2.2.1, y.2.2.2.2.2.2.2.2.1)
theorem tblU_r (L : List UInt8) (hL : L.length ≤ 1000000) (a : Nat) (ha : a ≤ L.length) : RR L (pTable (L.drop a)) fun v a' e => tblU (S L) (a : Int) 0 = some (v, S L, a', e) :=
  (f580q L hL ha).imp fun v t e h => by
    unfold tblU
    rw [h]
    rfl
abbrev TsU := ByteArray × ByteArray × Int × Int × List Tbl × Unit
theorem l533e {R : Type} (k0 : TsU → Option R) (st : ByteArray) (n i : Int) (s : ByteArray) (a : Int) {e : Int} (he : e ≠ 0) (ts : List Tbl) (rec : _ → Option R) : f533l0s 1000 rec k0 (st, n, i, s, a, e, ts, ()) = k0 (st, s, a, e, ts, ()) := by
  unfold f533l0s
  simp only [beq0 he, cond_false, Bool.cond_self]
theorem f533l0q {R : Type} (L : List UInt8) (hL : L.length ≤ 1000000) (n : Nat) (hn : n ≤ 8) (a : Nat) (ha : a ≤ L.length) :
    RR L (pMany pTable n (L.drop a)) fun vs a' e => ∀ k0 : TsU → Option R, f533l0 1000 k0 (S L, (n : Int), (0 : Int), S L, (a : Int), 0, [], ()) = k0 (S L, S L, a', e, vs, ()) := by
  unfold f533l0
  refine many_up (Step := fun k0 rec v => f533l0s 1000 rec k0 v) L pTable (S L) (tblU (S L)) (tblU_r L hL) n (fun i a e acc => (S L, (n : Int), i, S L, a, e, acc, ())) (fun (k0 : TsU → Option R) a e acc => k0 (S L, S L, a, e, acc, ())) ?_ ?_ ?_ n 0 1000 (by omega) (by omega) a [] ha rfl
  · intro K rec a e acc
    unfold f533l0s
    simp only [ltn_self, cond_false]
  · intro d i hi a e acc he hc
    refine ⟨[], fun K r hr => ?_⟩
    obtain ⟨r, rfl⟩ : ∃ r', r = r' + 1 := ⟨r - 1, by omega⟩
    show f533l0s 1000 _ _ _ = _
    rw [l533e _ _ _ _ _ _ he, List.append_nil]
  · intro K rec i a acc v a' e hi hc hb
    unfold f533l0s
    simp only [ltn hi, cond_true, wi_succ (i := i) (by omega), beq00]
    unfold tblU at hb
    cases h1 : f580v0F 1000 (S L, a, 0, ()) with
    | none => rw [h1] at hb; exact absurd hb (by simp)
    | some y =>
    rw [h1] at hb
    simp only [bind_some', Option.some.injEq, Prod.mk.injEq] at hb ⊢
    obtain ⟨rfl, hs, rfl, rfl⟩ := hb
    rw [bif_true (by simp; omega), hs]
theorem l533z {R : Type} (k0 : TsU → Option R) (st : ByteArray) (s : ByteArray) (a e : Int) (ts : List Tbl) : f533l0 1000 k0 (st, 0, 0, s, a, e, ts, ()) = k0 (st, s, a, e, ts, ()) := by
  unfold f533l0
  rw [iterS_1000]
  unfold f533l0s
  rfl
theorem f533q (L : List UInt8) (hL : L.length ≤ 1000000) : f533F 1000 (S L) = some (tblsIn L) := by
  have n8 : RR L (pNum 8 (L.drop 0)) fun v a' e => f579v0F 1000 (8, S L, ((0 : Nat) : Int), 0, ()) = some ((v : Int), S L, a', e, ()) ∧ (e ≠ 0 → v = 0) := f579w L hL 8 (Nat.zero_le _)
  rw [List.drop_zero, show ((0 : Nat) : Int) = 0 from rfl] at n8
  unfold tblsIn f533F
  match hl : pNum 8 L, n8 with
  | .error e, h =>
    obtain ⟨he, v, a, h, h0⟩ := h
    obtain rfl := h0 he
    rw [show ((0 : Nat) : Int) = 0 from rfl] at h
    simp only [h, bind_some', l533z, bne0 he, cond_true]
    rfl
  | .ok (n, t), h =>
    obtain ⟨a, ha, rfl, h, -⟩ := h
    have hn := pNum_le hl
    show _ = some (match pMany pTable n (L.drop a) with
      | .error e => ([], e)
      | .ok (ts, t) => if t ≠ [] then ([], 10) else if (chkTs ts).2 ≠ 0 then ([], (chkTs ts).2) else (ts, 0))
    have h2 := f533l0q (R := List Tbl × Int) L hL n hn a ha
    match pMany pTable n (L.drop a), h2 with
    | .error e, h2 =>
      obtain ⟨he, v, t, h2⟩ := h2
      simp only [h, bind_some', h2, bne0 he, cond_true]
    | .ok (ts, t'), h2 =>
      obtain ⟨b, hb, rfl, h2⟩ := h2
      simp only [h, bind_some', h2, bne00, cond_false, S_size]
      by_cases ht : L.drop b = []
      · rw [if_neg (fun c => c ht)]
        have : L.length - b = 0 := by have := congrArg List.length ht; simpa using this
        rw [bif_false (by simp; omega), f563q, bind_some']
        by_cases hc : (chkTs ts).2 = 0
        · rw [bif_false (by rw [hc]; rfl), if_neg (fun c => c hc)]
        · rw [bif_true (bne0 hc), if_pos hc]
      · rw [if_pos ht]
        have : b < L.length := by
          rcases Nat.lt_or_ge b L.length with h | h
          · exact h
          · exact (ht (List.drop_eq_nil_of_le h)).elim
        rw [bif_true (by simp; omega)]
end Go.Proofs.YtobgkcamonlnkaaGreatDoor
/-! Plain laws of chapter 34: a list of tables is the same as itself; the law of reading. -/
set_option linter.unusedVariables false
set_option linter.unusedSimpArgs false
namespace Go.Proofs.YtobgkcamonlnkaaGreatDoor
open Go.Ab

theorem f629q (nm : ByteArray) (fs : List Fld) (h : fs.length ≤ 900) : f629F 1000 ((nm, fs), (nm, fs)) = some true := by
  unfold f629F
  simp only [strEq_self, Bool.not_true, cond_false, len_eq (rfl : fs.length = fs.length)]
  unfold f629l0
  refine iter_list (k := 1000) (A := Unit) fs (fun i _ => ((i : Int), nm, fs, nm, fs, ())) (fun m _ => some true) (fun i a => True) ?_ ?_ (by omega) () trivial
  · intro rec a _
    unfold f629l0s
    simp only [ltn_self, cond_false]
  · intro rec i a x hx hi _
    unfold f629l0s
    simp only [ltn hi, nn, Bool.and_self, cond_true, Int.toNat_natCast, getD_of hx, wi_succ (i := i) (by omega), strEq_self, beq_self_eq_true, Bool.not_true, cond_false]
    exact .inl ⟨(), trivial, trivial, trivial⟩
theorem f591q (f : Fil) (h : f.2.1.2.length ≤ 900) (h2 : f.2.2.1.length ≤ 900) : f591F 1000 (f, f) = some true := by
  obtain ⟨fn, ⟨nm, fs⟩, ks, u⟩ := f
  unfold f591F
  simp only at h h2
  simp only [strEq_self, Bool.not_true, cond_false, beq_self_eq_true, f629q nm fs h, bind_some', len_eq (rfl : ks.length = ks.length)]
  unfold f591l0
  refine iter_list (k := 1000) (A := Unit) ks (fun i _ => ((i : Int), fn, nm, fs, ks, u, fn, nm, fs, ks, u, ())) (fun m _ => some true) (fun i a => True) ?_ ?_ (by omega) () trivial
  · intro rec a _
    unfold f591l0s
    simp only [ltn_self, cond_false]
  · intro rec i a x hx hi _
    unfold f591l0s
    simp only [ltn hi, nn, Bool.and_self, cond_true, Int.toNat_natCast, getD_of hx, wi_succ (i := i) (by omega), strEq_self, beq_self_eq_true, Bool.not_true, cond_false]
    exact .inl ⟨(), trivial, trivial, trivial⟩
theorem f546q (t : Tbl) (h : t.1.2.1.2.length ≤ 900) (h2 : t.1.2.2.1.length ≤ 900) (h3 : t.2.length ≤ 900) : f546F 1000 (t, t) = some true := by
  unfold f546F
  rw [show ((t.1.1, ((t.1.2.1.1, t.1.2.1.2), (t.1.2.2.1, t.1.2.2.2))) : Fil) = t.1 from rfl, f591q t.1 h h2, bind_some', cond_true, f575q t.2 t.2 h3, bind_some']
  simp
theorem f534q (l : List Tbl) (h : l.length ≤ 900) (ht : ∀ t ∈ l, t.1.2.1.2.length ≤ 900 ∧ t.1.2.2.1.length ≤ 900 ∧ t.2.length ≤ 900) : f534F 1000 (l, l) = some true := by
  unfold f534F
  simp only [len_eq (rfl : l.length = l.length), cond_false]
  unfold f534l0
  refine iter_list (k := 1000) (A := Unit) l (fun i _ => (l, l, (i : Int), ())) (fun m _ => some true) (fun i a => True) ?_ ?_ (by omega) () trivial
  · intro rec a _
    unfold f534l0s
    simp only [ltn_self, cond_false]
  · intro rec i a x hx hi _
    obtain ⟨h1, h2, h3⟩ := ht x (List.mem_of_getElem? hx)
    have := f546q x h1 h2 h3
    unfold f534l0s
    simp only [ltn hi, nn, Bool.and_self, cond_true, Int.toNat_natCast, getD_of hx, wi_succ (i := i) (by omega), this, bind_some', Bool.not_true, cond_false]
    exact .inl ⟨(), trivial, trivial, trivial⟩
theorem ts_few {l : List Tbl} (h : (chkTs l).2 = 0) : l.length ≤ 900 ∧ ∀ t ∈ l, t.1.2.1.2.length ≤ 900 ∧ t.1.2.2.1.length ≤ 900 ∧ t.2.length ≤ 900 := by
  refine ⟨by have := (ts_ok h).1; omega, fun t ht => ?_⟩
  have h1 := tbl_ok (ts_mem h ht)
  obtain ⟨h2, -, h3, -⟩ := file_sizes h1.1
  exact ⟨by omega, by omega, by omega⟩
theorem tblsIn_ok (L : List UInt8) : (tblsIn L).1 = [] ∨ (chkTs (tblsIn L).1).2 = 0 ∧ (tblsIn L).2 = 0 := by
  unfold tblsIn
  match PE.bd (pNum 8 L) fun n l => pMany pTable n l with
  | .error e => exact .inl rfl
  | .ok (ts, t) =>
    by_cases ht : t = []
    · by_cases hc : (chkTs ts).2 = 0
      · refine .inr ?_
        show (chkTs (if t ≠ [] then ([], 10) else if (chkTs ts).2 ≠ 0 then ([], (chkTs ts).2) else (ts, 0) : List Tbl × Int).1).2 = 0 ∧ (if t ≠ [] then ([], 10) else if (chkTs ts).2 ≠ 0 then ([], (chkTs ts).2) else (ts, 0) : List Tbl × Int).2 = 0
        rw [if_neg (fun c => c ht), if_neg (fun c => c hc)]
        exact ⟨hc, rfl⟩
      · refine .inl ?_
        show (if t ≠ [] then ([], 10) else if (chkTs ts).2 ≠ 0 then ([], (chkTs ts).2) else (ts, 0) : List Tbl × Int).1 = []
        rw [if_neg (fun c => c ht), if_pos hc]
    · refine .inl ?_
      show (if t ≠ [] then ([], 10) else if (chkTs ts).2 ≠ 0 then ([], (chkTs ts).2) else (ts, 0) : List Tbl × Int).1 = []
      rw [if_pos ht]
theorem f534r (L : List UInt8) : f534F 1000 ((tblsIn L).1, (tblsIn L).1) = some true := by
  rcases tblsIn_ok L with h | ⟨h, -⟩
  · rw [h]; exact f534q [] (by simp) (by simp)
  · obtain ⟨h1, h2⟩ := ts_few h
    exact f534q _ h1 h2
end Go.Proofs.YtobgkcamonlnkaaGreatDoor
/-! Plain laws of chapter 34: blocks read. -/
set_option linter.unusedVariables false
set_option linter.unusedSimpArgs false
namespace Go.Proofs.YtobgkcamonlnkaaGreatDoor
open Go.Ab

/-- The number that bytes are, the highest one first. -/
def val (l : List UInt8) : Int := l.foldl (fun a b => a * 256 + (b.toNat : Int)) 0
theorem val_snoc (l : List UInt8) (b : UInt8) : val (l ++ [b]) = val l * 256 + (b.toNat : Int) := by unfold val; rw [List.foldl_append]; rfl
theorem low_succ (n : Int) : ∀ (L : Nat), low 256 n (L + 1) = low 256 (n / 256) L ++ [n % 256]
  | 0 => by simp [low]
  | L + 1 => by
    have e : n / 256 ^ (L + 1) = n / 256 / 256 ^ L := by
      rw [Int.ediv_ediv_of_nonneg (by decide), Int.pow_succ, Int.mul_comm]
    rw [low, low_succ n L, e]
    rfl
theorem bg_succ (n : Int) (L : Nat) : bg n (L + 1) = bg (n / 256) L ++ [oneB n] := by
  unfold bg
  rw [low_succ, List.map_append]
  rfl
theorem val_rng : ∀ (L : Nat) (l : List UInt8), l.length = L → 0 ≤ val l ∧ val l < 256 ^ L := by
  intro L
  induction L with
  | zero => intro l h; rw [List.length_eq_zero_iff.1 h]; exact ⟨by decide, by decide⟩
  | succ L ih =>
    intro l h
    have hne : l ≠ [] := by intro c; rw [c] at h; simp at h
    rw [← List.dropLast_concat_getLast hne, val_snoc]
    have := ih l.dropLast (by simp [h])
    have hb := byte_rng (l.getLast hne)
    have e : (256 : Int) ^ (L + 1) = 256 ^ L * 256 := Int.pow_succ ..
    omega
theorem bg_val : ∀ (L : Nat) (l : List UInt8), l.length = L → bg (val l) L = l := by
  intro L
  induction L with
  | zero => intro l h; rw [List.length_eq_zero_iff.1 h]; rfl
  | succ L ih =>
    intro l h
    have hne : l ≠ [] := by intro c; rw [c] at h; simp at h
    have h1 := ih l.dropLast (by simp [h])
    have hb := byte_rng (l.getLast hne)
    conv => lhs; rw [← List.dropLast_concat_getLast hne, val_snoc, bg_succ]
    have e1 : (val l.dropLast * 256 + ((l.getLast hne).toNat : Int)) / 256 = val l.dropLast := by omega
    have e2 : oneB (val l.dropLast * 256 + ((l.getLast hne).toNat : Int)) = l.getLast hne := by
      refine UInt8.toNat_inj.1 ?_
      have := oneB_int (val l.dropLast * 256 + ((l.getLast hne).toNat : Int))
      omega
    rw [e1, e2, h1, List.dropLast_concat_getLast]
theorem val_bg : ∀ (L : Nat) (n : Int), 0 ≤ n → n < 256 ^ L → val (bg n L) = n := by
  intro L
  induction L with
  | zero => intro n h0 h1; have : n = 0 := by have e : (256 : Int) ^ 0 = 1 := rfl; omega
            subst this; rfl
  | succ L ih =>
    intro n h0 h1
    have e : (256 : Int) ^ (L + 1) = 256 ^ L * 256 := Int.pow_succ ..
    rw [bg_succ, val_snoc, ih (n / 256) (by omega) (by omega), oneB_int]
    omega
theorem bg_iff {n : Int} {l : List UInt8} (h0 : 0 ≤ n) (h1 : n < 256 ^ l.length) : bg n l.length = l ↔ val l = n :=
  ⟨fun h => by rw [← h, val_bg _ _ h0 h1], fun h => by rw [← h, bg_val _ _ rfl]⟩

theorem take_snoc {α : Type} {l : List α} {i : Nat} (h : i < l.length) : l.take (i + 1) = l.take i ++ [l[i]] := by
  rw [List.take_add_one, List.getElem?_eq_getElem h]; rfl
theorem f47v (l : List UInt8) (at0 n : Nat) (hn : n ≤ 7) (h : at0 + n ≤ l.length) (hl : l.length ≤ 1000000) : f47F 1000 (S l, (at0 : Int), (n : Int)) = some (val ((l.drop at0).take n)) := by
  unfold f47F f47l0
  refine iter_up (k := 1000) (A := Unit) n (fun i _ => (S l, (at0 : Int), (n : Int), val ((l.drop at0).take i), (i : Int), ())) (fun i _ => some (val ((l.drop at0).take n))) (fun i a => True) ?_ ?_ (by omega) () trivial
  · intro rec a _
    unfold f47l0s
    simp only [ltn_self, cond_false]
  · intro rec i a hi _
    unfold f47l0s
    have w1 : IntKind.i64.wrap ((at0 : Int) + (i : Int)) = ((at0 + i : Nat) : Int) := by rw [show (at0 : Int) + (i : Int) = ((at0 + i : Nat) : Int) by omega]; exact wi (by omega) (by omega)
    have hx : l[at0 + i]? = some (l[at0 + i]'(by omega)) := List.getElem?_eq_getElem (by omega)
    have hv := val_rng i ((l.drop at0).take i) (by rw [List.length_take, List.length_drop]; omega)
    have hp : (256 : Int) ^ i ≤ 256 ^ 6 := by
      have : i ≤ 6 := by omega
      rcases (show i = 0 ∨ i = 1 ∨ i = 2 ∨ i = 3 ∨ i = 4 ∨ i = 5 ∨ i = 6 by omega) with rfl | rfl | rfl | rfl | rfl | rfl | rfl <;> decide
    have h6 : (256 : Int) ^ 6 = 281474976710656 := by decide
    have hb := byte_rng (l[at0 + i]'(by omega))
    have e : (l.drop at0).take (i + 1) = (l.drop at0).take i ++ [l[at0 + i]'(by omega)] := by
      rw [take_snoc (by rw [List.length_drop]; omega)]
      simp only [List.getElem_drop]
    have hbt := S_bt l (at0 + i) (by omega)
    rw [getD_of hx] at hbt
    simp only [ltn hi, cond_true, w1, S_size, inb (show at0 + i < l.length by omega), hbt, wi_byte, wi_succ (i := i) (by omega)]
    rw [wi (x := val ((l.drop at0).take i) * 256) (by omega) (by omega), wi (by omega) (by omega), e, val_snoc]
    exact .inl ⟨(), trivial, rfl, trivial⟩

def zs (l : List UInt8) : Bool := l.all fun b => b == 0
theorem zs_iff (l : List UInt8) : zs l = decide (l = List.replicate l.length 0) := by
  unfold zs
  rw [Bool.eq_iff_iff]
  simp only [List.all_eq_true, beq_iff_eq, decide_eq_true_eq]
  exact (List.eq_replicate_iff.trans ⟨fun h => h.2, fun h => ⟨rfl, h⟩⟩).symm
theorem zs_rep (l : List UInt8) {n : Nat} (h : l.length = n) : strEq (S l) (S (List.replicate n 0)) = zs l := by
  subst h
  rw [S_eq, zs_iff]
theorem dw_nil (l : List UInt8) : l.dropWhile (fun b => b == 0) = [] ↔ zs l = true := by
  unfold zs
  induction l with
  | nil => simp
  | cons b l ih =>
    by_cases h : b = 0
    · simp [List.dropWhile, h, ih]
    · have : (b == 0) = false := by simpa using h
      simp [List.dropWhile, this]
theorem zs_rev (l : List UInt8) : zs l.reverse = zs l := by unfold zs; rw [List.all_reverse]
theorem trim_nil (l : List UInt8) : Lib.trimB l 0 = [] ↔ zs l = true := by
  unfold Lib.trimB Lib.trimLeftB Lib.trimRightB
  constructor
  · intro h
    rw [dw_nil, zs_rev] at h
    by_cases hz : zs l.reverse = true
    · rwa [zs_rev] at hz
    · exfalso
      have : l.reverse.dropWhile (fun b => b == 0) ≠ [] := fun c => hz ((dw_nil _).1 c)
      match hd : l.reverse.dropWhile (fun b => b == 0) with
      | [] => exact this hd
      | b :: t =>
        rw [hd] at h
        have hb : (b == 0) = false := by
          have := List.head_dropWhile_not (p := fun b : UInt8 => b == 0) (l := l.reverse) (by rw [hd]; simp)
          simpa [hd] using this
        unfold zs at h
        rw [List.all_cons, hb] at h
        exact absurd h (by simp)
  · intro h
    have h2 := (dw_nil l.reverse).2 (by rw [zs_rev, h])
    rw [h2]
    rfl
theorem f648q (l : List UInt8) (h : l.length ≤ 1000000) : f648F 1000 (S l) = some (zs l) := by
  unfold f648F f667F
  simp only [show (⟨#[0]⟩ : ByteArray).data.toList = [0] from rfl, S_list, S_size]
  rw [bif_true (by simp; omega), bind_some']
  show some (strEq (S (Lib.trimB l 0)) ByteArray.empty) = _
  rw [← S_nil, S_eq]
  congr 1
  rw [Bool.eq_iff_iff, decide_eq_true_eq, trim_nil]
end Go.Proofs.YtobgkcamonlnkaaGreatDoor
/-! Plain laws of chapter 34: errors of blocks. -/
set_option linter.unusedVariables false
set_option linter.unusedSimpArgs false
namespace Go.Proofs.YtobgkcamonlnkaaGreatDoor
open Go.Ab

/-- How many bytes of data a block says to have; whether it says to be the last one. -/
def bsz (l : List UInt8) : Nat := (l.getD 3 0).toNat % 128
def bsay (l : List UInt8) : Bool := decide (128 ≤ (l.getD 3 0).toNat)
def frmB (l : List UInt8) (last : Bool) : Bool :=
  decide (1 ≤ bsz l ∧ bsz l ≤ 52) && (last || decide (52 ≤ bsz l)) && (zs ((l.take 56).drop (4 + bsz l)) && zs ((l.take 60).drop 57))
def ordB (l : List UInt8) (vol num : Int) : Bool := decide (((l.getD 0 0).toNat : Int) = vol) && decide (val ((l.drop 1).take 2) = num)
/-- The error of a block. -/
def blkE (l : List UInt8) (vol num vols : Int) (last : Bool) : Int :=
  if l.length ≠ 64 then 18
  else if val (l.drop 60) ≠ sumG 1 (l.take 60) then 33
  else if frmB l last = false then 5
  else if ordB l vol num = false then 14
  else if ((l.getD 56 0).toNat : Int) ≠ vols then 6
  else if bsay l = true then (if last = true then 0 else 10) else if last = true then 9 else 0

theorem tmod_byte (b : UInt8) : Int.tmod (b.toNat : Int) 128 = ((b.toNat % 128 : Nat) : Int) := by
  rw [Int.tmod_eq_emod_of_nonneg (by omega)]
  omega
theorem f583q (l : List UInt8) (vol num vols : Int) (last : Bool) : f583F 1000 (S l, (vol, (num, (ByteArray.empty, (last, vols))))) = some (blkE l vol num vols last) := by
  unfold f583F blkE
  simp only [S_size]
  by_cases hl : l.length = 64
  · rw [bif_false (by rw [hl]; rfl), if_neg (fun c => c hl)]
    have e1 : f47F 1000 (S l, (60 : Int), (4 : Int)) = some (val (l.drop 60)) := by
      have := f47v l 60 4 (by omega) (by omega) (by omega)
      rw [List.take_of_length_le (by rw [List.length_drop]; omega)] at this
      exact this
    have e2 : f573F 1000 (S (l.take 60)) = some (sumG 1 (l.take 60)) := f573q _ (by rw [List.length_take]; omega)
    have hb3 := S_bt l 3 (by omega)
    rw [show ((3 : Nat) : Int) = 3 from rfl] at hb3
    have hb0 := S_bt l 0 (by omega)
    rw [show ((0 : Nat) : Int) = 0 from rfl] at hb0
    have hb56 := S_bt l 56 (by omega)
    rw [show ((56 : Nat) : Int) = 56 from rfl] at hb56
    have e12 : f47F 1000 (S l, (1 : Int), (2 : Int)) = some (val ((l.drop 1).take 2)) := f47v l 1 2 (by omega) (by omega) (by omega)
    rw [e1, bind_some', bif_true (by rw [hl]; exact sliceB0 (b := 60) (by omega)), S_cut, List.drop_zero, e2, bind_some']
    by_cases hc : val (l.drop 60) = sumG 1 (l.take 60)
    · rw [bif_false (by simpa using hc), if_neg (fun c => c hc)]
      have d3 : decide ((3 : Int) < (l.length : Int)) = true := by rw [hl]; rfl
      rw [bif_true d3, bif_true d3]
      rw [hb3, wi_byte, tmod_byte]
      rw [show decide (((l.getD 3 0).toNat : Int) ≥ 128) = bsay l by unfold bsay; congr 1; apply propext; omega, show (l.getD 3 0).toNat % 128 = bsz l from rfl]
      unfold f583p0
      simp only [f48w, bind_some', S_size]
      have hs : bsz l < 128 := Nat.mod_lt _ (by decide)
      -- the rest, when the form is right
      have rest : frmB l last = true → (bif decide ((0 : Int) < (l.length : Int)) then
          bif IntKind.i64.wrap (bt (S l) 0) != vol then some 14
          else Option.bind (f47F 1000 (S l, 1, 2)) fun y12 => bif y12 != num then some 14
            else bif decide ((56 : Int) < (l.length : Int)) then bif IntKind.i64.wrap (bt (S l) 56) != vols then some 6
              else f583p1 1000 (fun w13 => some w13.1)
                (fun w14 => bif w14.2.2.2.2.1 then Option.bind (f69F 1000 (!w14.1)) fun y15 => some (IntKind.i64.wrap (9 * y15)) else Option.bind (f69F 1000 false) fun y16 => some (IntKind.i64.wrap (9 * y16)))
                (bsay l, vol, num, ByteArray.empty, last, vols, ())
              else none
          else none : Option Int) = some (if ordB l vol num = false then 14 else if ((l.getD 56 0).toNat : Int) ≠ vols then 6 else if bsay l = true then (if last = true then 0 else 10) else if last = true then 9 else 0) := by
        intro hf
        rw [bif_true (by rw [hl]; rfl), hb0, wi_byte, e12, bind_some', bif_true (c := decide ((56 : Int) < (l.length : Int))) (by rw [hl]; rfl), hb56, wi_byte]
        unfold ordB f583p1
        by_cases h0 : ((l.getD 0 0).toNat : Int) = vol
        · rw [bif_false (by simpa using h0)]
          by_cases h1 : val ((l.drop 1).take 2) = num
          · rw [bif_false (by simpa using h1)]
            simp only [h0, h1, decide_true, Bool.and_self, Bool.true_eq_false, if_false]
            by_cases h2 : ((l.getD 56 0).toNat : Int) = vols
            · rw [bif_false (by simpa using h2), if_neg (fun c => c h2)]
              cases bsay l <;> cases last <;> rfl
            · rw [bif_true (by simpa using h2), if_pos h2]
          · rw [bif_true (by simpa using h1)]
            have : decide (val ((l.drop 1).take 2) = num) = false := by simpa using h1
            rw [this, Bool.and_false]
            rfl
        · rw [bif_true (by simpa using h0)]
          have : decide (((l.getD 0 0).toNat : Int) = vol) = false := by simpa using h0
          rw [this]
          rfl
      by_cases h1 : 1 ≤ bsz l ∧ bsz l ≤ 52
      · have e48 : decide ((1 : Int) ≤ (bsz l : Int) ∧ (bsz l : Int) ≤ 52) = true := by simp; omega
        have ew : IntKind.i64.wrap (4 + (bsz l : Int)) = ((4 + bsz l : Nat) : Int) := by rw [show (4 : Int) + (bsz l : Int) = ((4 + bsz l : Nat) : Int) by omega]; exact wi (by omega) (by omega)
        have ew2 : IntKind.i64.wrap (52 - (bsz l : Int)) = ((52 - bsz l : Nat) : Int) := by rw [show (52 : Int) - (bsz l : Int) = ((52 - bsz l : Nat) : Int) by omega]; exact wi (by omega) (by omega)
        have s1 : sliceBds ((4 + bsz l : Nat) : Int) 56 (l.length : Int) = true := by rw [hl]; exact sliceB (b := 56) (n := 64) (by omega) (by omega)
        have s2 : sliceBds 57 60 (l.length : Int) = true := by rw [hl]; exact sliceB (a := 57) (b := 60) (n := 64) (by omega) (by omega)
        have r3 := f72z (n := 3) (by omega)
        rw [show ((3 : Nat) : Int) = 3 from rfl] at r3
        have z1 : strEq (S ((l.take 56).drop (4 + bsz l))) (S (List.replicate (52 - bsz l) 0)) = zs ((l.take 56).drop (4 + bsz l)) := zs_rep _ (by rw [List.length_drop, List.length_take]; omega)
        have z2 : strEq (S ((l.take 60).drop 57)) (S (List.replicate 3 0)) = zs ((l.take 60).drop 57) := zs_rep _ (by rw [List.length_drop, List.length_take]; omega)
        simp only [e48, Bool.not_true, cond_false, ew, ew2, s1, s2, cond_true, S_cut, Int.toNat_natCast, show Int.toNat 4 = 4 from rfl, f72z (n := 52 - bsz l) (by omega), bind_some', r3, z1, z2]
        by_cases h2 : bsz l < 52
        · have : decide ((bsz l : Int) < 52) = true := by simp; omega
          rw [bif_true this]
          have hd : decide (52 ≤ bsz l) = false := by simp; omega
          cases last with
          | false =>
            have hf : frmB l false = false := by unfold frmB; simp [hd]
            rw [hf]; rfl
          | true =>
            cases hz1 : zs ((l.take 56).drop (4 + bsz l)) with
            | false =>
              have hf : frmB l true = false := by unfold frmB; simp [hz1]
              rw [hf]; rfl
            | true =>
              cases hz2 : zs ((l.take 60).drop 57) with
              | false =>
                have hf : frmB l true = false := by unfold frmB; simp [hz2]
                rw [hf]; rfl
              | true =>
                have hf : frmB l true = true := by unfold frmB; simp [hz1, hz2, h1]
                simp only [Bool.not_true, cond_false]
                rw [if_neg (by rw [hf]; simp)]
                exact rest hf
        · have : decide ((bsz l : Int) < 52) = false := by simp; omega
          rw [bif_false this]
          have hd : decide (52 ≤ bsz l) = true := by simp; omega
          cases hz1 : zs ((l.take 56).drop (4 + bsz l)) with
          | false =>
            have hf : frmB l last = false := by unfold frmB; simp [hz1]
            rw [hf]; rfl
          | true =>
            cases hz2 : zs ((l.take 60).drop 57) with
            | false =>
              have hf : frmB l last = false := by unfold frmB; simp [hz2]
              rw [hf]; rfl
            | true =>
              have hf : frmB l last = true := by unfold frmB; simp [hz1, hz2, h1, hd]
              simp only [Bool.not_true, cond_false]
              rw [if_neg (by rw [hf]; simp)]
              exact rest hf
      · have e48 : decide ((1 : Int) ≤ (bsz l : Int) ∧ (bsz l : Int) ≤ 52) = false := by
          rw [Bool.eq_false_iff]; intro h; simp at h; omega
        have hf : frmB l last = false := by unfold frmB; simp [h1]
        rw [e48, hf]
        rfl
    · rw [bif_true (by simpa using hc), if_pos hc]
  · rw [bif_true (by simp; omega), if_pos hl]

theorem and127 : ∀ x : Fin 256, bits .and .u8 (x.val : Int) 127 = (x.val % 128 : Nat) := by decide +kernel
theorem and127' (b : UInt8) : bits .and .u8 (b.toNat : Int) 127 = ((b.toNat % 128 : Nat) : Int) := and127 ⟨b.toNat, by have := byte_rng b; omega⟩
theorem f621q (l : List UInt8) (vol vols : Int) {num : Int} (hn : 0 ≤ num) (hn2 : num < 65536) (last : Bool) :
    f621F 1000 (S l, vol, num, vols, last) = some (if blkE l vol num vols last = 0 then ((bsz l : Int), 0) else (0, blkE l vol num vols last)) := by
  unfold f621F blkE
  simp only [S_size]
  by_cases hl : l.length = 64
  · rw [bif_false (by rw [hl]; rfl)]
    simp only [hl, ne_eq, not_true_eq_false, if_false]
    have e1 : f562F 1000 (S (l.take 60)) = some (sumG 1 (l.take 60)) := f562q _ (by rw [List.length_take]; omega)
    have hb3 := S_bt l 3 (by omega)
    rw [show ((3 : Nat) : Int) = 3 from rfl] at hb3
    have hb0 := S_bt l 0 (by omega)
    rw [show ((0 : Nat) : Int) = 0 from rfl] at hb0
    have hb56 := S_bt l 56 (by omega)
    rw [show ((56 : Nat) : Int) = 56 from rfl] at hb56
    have sr := sumG_rng (l.take 60) 1 (by decide) (by decide)
    have e2 : f561F 1000 (sumG 1 (l.take 60), (4 : Int)) = some (ints (bg (sumG 1 (l.take 60)) 4)) := f561q (L := 4) (by omega) (by omega) (by omega)
    have hl60 : (l.take 60).length = 60 := by rw [List.length_take]; omega
    rw [bif_true (by exact sliceB0 (b := 60) (n := 64) (by omega)), S_cut, List.drop_zero, e1, bind_some', e2, bind_some', S_size, hl60, bif_true (by exact sliceB (a := 60) (b := 64) (n := 64) (by omega) (by omega)), S_cut, S_back]
    simp only [show Int.toNat ((60 : Nat) : Int) = 60 from rfl, show Int.toNat ((64 : Nat) : Int) = 64 from rfl]
    rw [List.take_of_length_le (show l.length ≤ 64 by omega), S_eq]
    have h4 : (256 : Int) ^ (l.drop 60).length = 4294967296 := by rw [List.length_drop, hl]; decide
    have hi := bg_iff (n := sumG 1 (l.take 60)) (l := l.drop 60) sr.1 (by omega)
    rw [List.length_drop, hl, show 64 - 60 = 4 from rfl] at hi
    by_cases hc : val (l.drop 60) = sumG 1 (l.take 60)
    · rw [bif_false (by rw [hi.2 hc]; simp)]
      simp only [hc, not_true_eq_false, if_false]
      rw [bif_true (show decide ((3 : Int) < ((64 : Nat) : Int)) = true from rfl), bif_true (show decide ((3 : Int) < ((64 : Nat) : Int)) = true from rfl), hb3, and127']
      rw [show decide (((l.getD 3 0).toNat : Int) ≥ 128) = bsay l by unfold bsay; congr 1; apply propext; omega, show (l.getD 3 0).toNat % 128 = bsz l from rfl]
      have hs : bsz l < 128 := Nat.mod_lt _ (by decide)
      rw [wi (x := (bsz l : Int)) (by omega) (by omega)]
      have hn3 := f561q (n := num) (L := 2) hn (by omega) (by omega)
      rw [show ((2 : Nat) : Int) = 2 from rfl] at hn3
      have e12 : ((l.drop 1).take 2).length = 2 := by rw [List.length_take, List.length_drop]; omega
      have h2p : (256 : Int) ^ ((l.drop 1).take 2).length = 65536 := by rw [e12]; decide
      have hi2 := bg_iff (n := num) (l := (l.drop 1).take 2) hn (by omega)
      rw [e12] at hi2
      have rest : frmB l last = true → f621p1 1000 (fun (w13 : Int × Int × Int × Unit) => some (w13.1, w13.2.1)) (fun (w14 : Int × Unit) => some (w14.1, (0 : Int))) (S l, vol, num, vols, last, (bsz l : Int), bsay l, ()) =
          some (if (if ordB l vol num = false then 14 else if ¬((l.getD 56 0).toNat : Int) = vols then 6 else if bsay l = true then (if last = true then 0 else 10) else if last = true then 9 else 0 : Int) = 0 then ((bsz l : Int), 0)
            else (0, if ordB l vol num = false then 14 else if ¬((l.getD 56 0).toNat : Int) = vols then 6 else if bsay l = true then (if last = true then 0 else 10) else if last = true then 9 else 0)) := by
        intro hf
        unfold f621p1
        simp only [S_size, hl]
        have sA : sliceBds 1 3 ((64 : Nat) : Int) = true := sliceB (a := 1) (b := 3) (n := 64) (by omega) (by omega)
        simp only [show decide ((0 : Int) < ((64 : Nat) : Int)) = true from rfl, show decide ((56 : Int) < ((64 : Nat) : Int)) = true from rfl, cond_true, hb0, hb56, wi_byte, sA, hn3, bind_some', S_cut, S_back, S_eq]
        rw [show (l.take 3).drop 1 = (l.drop 1).take 2 by rw [List.drop_take]]
        unfold ordB
        by_cases h0 : ((l.getD 0 0).toNat : Int) = vol
        · rw [bif_false (by simpa using h0)]
          by_cases h1 : val ((l.drop 1).take 2) = num
          · rw [bif_false (by rw [hi2.2 h1]; simp)]
            simp only [h0, h1, decide_true, Bool.and_self, Bool.true_eq_false, if_false]
            by_cases h2 : ((l.getD 56 0).toNat : Int) = vols
            · rw [bif_false (by simpa using h2)]
              simp only [h2, not_true_eq_false, if_false]
              cases bsay l <;> cases last <;> rfl
            · rw [bif_true (by simpa using h2)]
              simp only [h2, not_false_eq_true, if_true]
              rfl
          · have h3 : ¬ (l.drop 1).take 2 = bg num 2 := fun c => h1 (hi2.1 c.symm)
            rw [bif_true (by simpa using h3)]
            have : decide (val ((l.drop 1).take 2) = num) = false := by simpa using h1
            rw [this, Bool.and_false]
            rfl
        · rw [bif_true (by simpa using h0)]
          have : decide (((l.getD 0 0).toNat : Int) = vol) = false := by simpa using h0
          rw [this]
          rfl
      unfold f621p0
      simp only [S_size, hl, hl60]
      by_cases h1 : 1 ≤ bsz l ∧ bsz l ≤ 52
      · have ea : decide ((bsz l : Int) < 1) = false := by simp; omega
        have eb : decide ((bsz l : Int) > 52) = false := by simp; omega
        have ew : IntKind.i64.wrap (4 + (bsz l : Int)) = ((4 + bsz l : Nat) : Int) := by rw [show (4 : Int) + (bsz l : Int) = ((4 + bsz l : Nat) : Int) by omega]; exact wi (by omega) (by omega)
        have s1 : sliceBds ((4 + bsz l : Nat) : Int) 56 ((64 : Nat) : Int) = true := sliceB (b := 56) (n := 64) (by omega) (by omega)
        have s2 : sliceBds 57 ((60 : Nat) : Int) ((64 : Nat) : Int) = true := sliceB (a := 57) (b := 60) (n := 64) (by omega) (by omega)
        have z1 := f648q ((l.take 56).drop (4 + bsz l)) (by rw [List.length_drop, List.length_take]; omega)
        have z2 := f648q ((l.take 60).drop 57) (by rw [List.length_drop, List.length_take]; omega)
        simp only [ea, eb, cond_false, ew, s1, s2, cond_true, S_cut, Int.toNat_natCast, z1, z2, bind_some']
        by_cases h2 : bsz l < 52
        · have : decide ((bsz l : Int) < 52) = true := by simp; omega
          rw [bif_true this]
          have hd : decide (52 ≤ bsz l) = false := by simp; omega
          cases last with
          | false =>
            have hf : frmB l false = false := by unfold frmB; simp [hd]
            rw [hf]; rfl
          | true =>
            cases hz1 : zs ((l.take 56).drop (4 + bsz l)) with
            | false =>
              have hf : frmB l true = false := by unfold frmB; simp [hz1]
              rw [hf]; rfl
            | true =>
              cases hz2 : zs ((l.take 60).drop 57) with
              | false =>
                have hf : frmB l true = false := by unfold frmB; simp [hz2]
                rw [hf]; rfl
              | true =>
                have hf : frmB l true = true := by unfold frmB; simp [hz1, hz2, h1]
                have hr := rest hf
                simp only [Bool.not_true, cond_false]
                rw [hf]
                exact hr
        · have : decide ((bsz l : Int) < 52) = false := by simp; omega
          rw [bif_false this]
          have hd : decide (52 ≤ bsz l) = true := by simp; omega
          cases hz1 : zs ((l.take 56).drop (4 + bsz l)) with
          | false =>
            have hf : frmB l last = false := by unfold frmB; simp [hz1]
            rw [hf]; rfl
          | true =>
            cases hz2 : zs ((l.take 60).drop 57) with
            | false =>
              have hf : frmB l last = false := by unfold frmB; simp [hz2]
              rw [hf]; rfl
            | true =>
              have hf : frmB l last = true := by unfold frmB; simp [hz1, hz2, h1, hd]
              have hr := rest hf
              simp only [Bool.not_true, cond_false]
              rw [hf]
              exact hr
      · have hf : frmB l last = false := by unfold frmB; simp [h1]
        rw [hf]
        by_cases h2 : bsz l < 1
        · rw [bif_true (by simp; omega)]
          rfl
        · rw [bif_false (by simp; omega), bif_true (by simp; omega)]
          rfl
    · have h3 : ¬ bg (sumG 1 (l.take 60)) 4 = l.drop 60 := fun c => hc (hi.1 c)
      rw [bif_true (by simpa using h3)]
      simp only [hc, not_false_eq_true, if_true]
      rfl
  · rw [bif_true (by simp; omega), if_pos (c := l.length ≠ 64) hl, if_neg (by decide)]
end Go.Proofs.YtobgkcamonlnkaaGreatDoor
/-! Plain laws of chapter 34: volumes read by the program. -/
set_option linter.unusedVariables false
set_option linter.unusedSimpArgs false
namespace Go.Proofs.YtobgkcamonlnkaaGreatDoor
open Go.Ab

def bL (b : ByteArray) : List UInt8 := b.data.toList
theorem S_bL (b : ByteArray) : S (bL b) = b := S_of b
/-- The data of a block. -/
def pay (b : ByteArray) : List UInt8 := ((bL b).take (4 + bsz (bL b))).drop 4
/-- The error of a block in its place. -/
def bE (V i n k num : Nat) (b : ByteArray) : Int := blkE (bL b) ((i + 1 : Nat) : Int) ((num + 1 : Nat) : Int) (V : Int) (i + 1 == V && k + 1 == n)
def rdBs (V i n : Nat) : List ByteArray → Nat → Nat → List UInt8 → (Nat × Int × Nat × List UInt8) ⊕ (Nat × List UInt8)
  | [], _, num, d => .inr (num, d)
  | b :: t, k, num, d => if bE V i n k num b ≠ 0 then .inl (k, bE V i n k num b, num + 1, d) else rdBs V i n t (k + 1) (num + 1) (d ++ pay b)
def volE (pre : List Vol) (v : Vol) : Int :=
  if isNm v.1 = false then 7 else if (pre.any fun y => strEq y.1 v.1) = true then 13 else if v.2.length > 60 then 2 else if v.2.length = 0 then 1 else 0
def rdVs (vs : List Vol) (V : Nat) : List Vol → Nat → Nat → List UInt8 → (Nat × Nat × Int × List UInt8) ⊕ List UInt8
  | [], _, _, d => .inr d
  | v :: t, i, num, d => if volE (vs.take i) v ≠ 0 then .inl (i, 0, volE (vs.take i) v, d) else
    match rdBs V i v.2.length v.2 0 num d with
    | .inl (k, e, _, d') => .inl (i, k, e, d')
    | .inr (nu, d') => rdVs vs V t (i + 1) nu d'
def rd (vs : List Vol) : (Nat × Nat × Int) ⊕ List UInt8 :=
  if vs.length = 0 then .inl (0, 0, 1) else if vs.length > 6 then .inl (0, 0, 2) else
  match rdVs vs vs.length vs 0 0 [] with
  | .inl (i, k, e, _) => .inl (i, k, e)
  | .inr d => .inr d

theorem blkE_ok {l : List UInt8} {vol num vols : Int} {last : Bool} (h : blkE l vol num vols last = 0) : l.length = 64 ∧ 1 ≤ bsz l ∧ bsz l ≤ 52 := by
  unfold blkE at h
  by_cases h1 : l.length = 64
  · rw [if_neg (fun c => c h1)] at h
    by_cases h2 : val (l.drop 60) = sumG 1 (l.take 60)
    · rw [if_neg (fun c => c h2)] at h
      cases h3 : frmB l last with
      | false => rw [h3, if_pos rfl] at h; exact absurd h (by decide)
      | true =>
        unfold frmB at h3
        simp only [Bool.and_eq_true, decide_eq_true_eq] at h3
        exact ⟨h1, h3.1.1.1, h3.1.1.2⟩
    · rw [if_pos h2] at h; exact absurd h (by decide)
  · rw [if_pos h1] at h; exact absurd h (by decide)
theorem bE_ok {V i n k num : Nat} {b : ByteArray} (h : bE V i n k num b = 0) : (bL b).length = 64 ∧ 1 ≤ bsz (bL b) ∧ bsz (bL b) ≤ 52 := blkE_ok h
theorem ext_pay (b : ByteArray) : b.extract 4 (4 + bsz (bL b)) = S (pay b) := by
  have := S_cut (bL b) 4 (4 + bsz (bL b))
  rw [S_bL] at this
  exact this
theorem pay_len {b : ByteArray} (h : (bL b).length = 64 ∧ 1 ≤ bsz (bL b) ∧ bsz (bL b) ≤ 52) : (pay b).length = bsz (bL b) := by
  unfold pay; rw [List.length_drop, List.length_take]; omega
theorem rdBs_ok {V i n : Nat} : ∀ {m : List ByteArray} {k num : Nat} {d : List UInt8} {nu : Nat} {d' : List UInt8}, rdBs V i n m k num d = .inr (nu, d') →
    nu = num + m.length ∧ d' = d ++ m.flatMap pay ∧ ∀ b ∈ m, (bL b).length = 64 ∧ 1 ≤ bsz (bL b) ∧ bsz (bL b) ≤ 52
  | [], k, num, d, nu, d', h => by
    unfold rdBs at h; cases h
    exact ⟨rfl, by simp, by simp⟩
  | b :: m, k, num, d, nu, d', h => by
    unfold rdBs at h
    by_cases he : bE V i n k num b = 0
    · rw [if_neg (fun c => c he)] at h
      obtain ⟨h1, h2, h3⟩ := rdBs_ok h
      refine ⟨by simp only [List.length_cons]; omega, by rw [h2, List.append_assoc]; rfl, fun x hx => ?_⟩
      rcases List.mem_cons.1 hx with rfl | hx
      · exact bE_ok he
      · exact h3 x hx
    · rw [if_pos he] at h; cases h
theorem pays_len : ∀ {m : List ByteArray}, (∀ b ∈ m, (bL b).length = 64 ∧ 1 ≤ bsz (bL b) ∧ bsz (bL b) ≤ 52) → (m.flatMap pay).length ≤ 52 * m.length := fun h =>
  flat_len pay 52 _ fun x hx => by rw [pay_len (h x hx)]; exact (h x hx).2.2
theorem volE_ok {pre : List Vol} {v : Vol} (h : volE pre v = 0) : isNm v.1 = true ∧ 1 ≤ v.2.length ∧ v.2.length ≤ 60 := by
  unfold volE at h
  cases h1 : isNm v.1 with
  | false => rw [h1, if_pos rfl] at h; exact absurd h (by decide)
  | true =>
    rw [h1, if_neg (by decide)] at h
    cases h2 : (pre.any fun y => strEq y.1 v.1) with
    | true => rw [h2, if_pos rfl] at h; exact absurd h (by decide)
    | false =>
      rw [h2, if_neg (by decide)] at h
      by_cases h3 : v.2.length > 60
      · rw [if_pos h3] at h; exact absurd h (by decide)
      · rw [if_neg h3] at h
        by_cases h4 : v.2.length = 0
        · rw [if_pos h4] at h; exact absurd h (by decide)
        · exact ⟨rfl, by omega, by omega⟩

theorem f622a (m : List UInt8) (h : m.length ≤ 1000000) : f622v0F 1000 (S m, ()) = some ((m.length : Int), ints m, ()) := by
  unfold f622v0F
  simp only [S_bytes, S_size]
  rw [bif_true (by simp [ints_length]; omega), List.nil_append]
theorem f622b (m d : List UInt8) (h : m.length + d.length ≤ 1000000) : f622v1F 1000 (S m, ints d, ()) = some ((m.length : Int), ints (d ++ m), ()) := by
  unfold f622v1F
  simp only [S_bytes, S_size]
  rw [bif_true (by simp [ints_length]; omega), ints_app]

theorem lastB {R : Type} {V i n k : Nat} (hV : 1 ≤ V) (hV2 : V ≤ 100) (hn : 1 ≤ n) (hn2 : n ≤ 100) (F : Bool → Option R) :
    (bif ((i : Int) == IntKind.i64.wrap ((V : Int) - 1)) then F ((k : Int) == IntKind.i64.wrap ((n : Int) - 1)) else F false) = F (i + 1 == V && k + 1 == n) := by
  have e1 : IntKind.i64.wrap ((V : Int) - 1) = ((V - 1 : Nat) : Int) := by rw [show (V : Int) - 1 = ((V - 1 : Nat) : Int) by omega]; exact wi (by omega) (by omega)
  have e2 : IntKind.i64.wrap ((n : Int) - 1) = ((n - 1 : Nat) : Int) := by rw [show (n : Int) - 1 = ((n - 1 : Nat) : Int) by omega]; exact wi (by omega) (by omega)
  rw [e1, e2]
  have e3 : ((i : Int) == ((V - 1 : Nat) : Int)) = (i + 1 == V) := by rw [Bool.eq_iff_iff]; simp; omega
  have e4 : ((k : Int) == ((n - 1 : Nat) : Int)) = (k + 1 == n) := by rw [Bool.eq_iff_iff]; simp; omega
  rw [e3, e4]
  cases (i + 1 == V) <;> rfl

theorem f581p1q {R : Type} (k0 : List Vol × ByteArray × Int × Int × Int × Int × Int × List Vol × Int × Int × List ByteArray × Int × Int × ByteArray × List ByteArray × List Int × Unit → Option R)
    (k1 : List Vol × Int × Int × List Vol × Int × Int × List ByteArray × Int × Int × ByteArray × List ByteArray × List Int × Unit → Option R)
    (vs xs : List Vol) (V2 i2 nb : Int) (i num k : Nat) (nm : ByteArray) (bl : List ByteArray) (d : List UInt8) (b : ByteArray) (hb : bl[k]? = some b)
    (hV : 1 ≤ vs.length) (hV2 : vs.length ≤ 6) (hi : i ≤ 6) (hbl : bl.length ≤ 60) (hnum : num ≤ 1000) (hd : d.length ≤ 100000) :
    f581p1 1000 k0 k1 (vs, (num : Int), (i : Int), xs, V2, i2, bl, nb, (k : Int), nm, bl, ints d, ()) =
      if bE vs.length i bl.length k num b ≠ 0 then k0 (vs, ByteArray.empty, (i : Int), (k : Int), bE vs.length i bl.length k num b, ((num + 1 : Nat) : Int), (i : Int), xs, V2, i2, bl, nb, (k : Int), nm, bl, ints d, ())
      else k1 (vs, ((num + 1 : Nat) : Int), (i : Int), xs, V2, i2, bl, nb, (k : Int), nm, bl, ints (d ++ pay b), ()) := by
  have hk := (List.getElem?_eq_some_iff.1 hb).1
  unfold f581p1
  simp only [inb hk, cond_true, Int.toNat_natCast, getD_of hb, wi_succ (i := i) (by omega), wi_succ (i := num) (by omega)]
  have key : ∀ last : Bool, (Option.bind (f621F 1000 (b, ((i + 1 : Nat) : Int), ((num + 1 : Nat) : Int), (vs.length : Int), last)) fun y16 =>
      bif (y16.2 != (0 : Int)) then
        k0 (vs, ByteArray.empty, (i : Int), (k : Int), y16.2, ((num + 1 : Nat) : Int), (i : Int), xs, V2, i2, bl, nb, (k : Int), nm, bl, ints d, ())
      else
      bif (sliceBds (4 : Int) (IntKind.i64.wrap ((4 : Int) + y16.1)) (b.size : Int)) then
        Option.bind (f622v1F 1000 (b.extract 4 (Int.toNat (IntKind.i64.wrap ((4 : Int) + y16.1))), ints d, ())) fun y18 =>
        k1 (vs, ((num + 1 : Nat) : Int), (i : Int), xs, V2, i2, bl, nb, (k : Int), nm, bl, y18.2.1, ())
      else none) = if blkE (bL b) ((i + 1 : Nat) : Int) ((num + 1 : Nat) : Int) (vs.length : Int) last ≠ 0 then k0 (vs, ByteArray.empty, (i : Int), (k : Int), blkE (bL b) ((i + 1 : Nat) : Int) ((num + 1 : Nat) : Int) (vs.length : Int) last, ((num + 1 : Nat) : Int), (i : Int), xs, V2, i2, bl, nb, (k : Int), nm, bl, ints d, ())
      else k1 (vs, ((num + 1 : Nat) : Int), (i : Int), xs, V2, i2, bl, nb, (k : Int), nm, bl, ints (d ++ pay b), ()) := by
    intro last
    have hq := f621q (bL b) ((i + 1 : Nat) : Int) (vs.length : Int) (num := ((num + 1 : Nat) : Int)) (by omega) (by omega) last
    rw [S_bL] at hq
    rw [hq, bind_some']
    by_cases he : blkE (bL b) ((i + 1 : Nat) : Int) ((num + 1 : Nat) : Int) (vs.length : Int) last = 0
    · rw [if_pos he, if_neg (fun c => c he)]
      obtain ⟨o1, o2, o3⟩ := blkE_ok he
      have ew : IntKind.i64.wrap (4 + (bsz (bL b) : Int)) = ((4 + bsz (bL b) : Nat) : Int) := by rw [show (4 : Int) + (bsz (bL b) : Int) = ((4 + bsz (bL b) : Nat) : Int) by omega]; exact wi (by omega) (by omega)
      have hsz : (b.size : Int) = ((64 : Nat) : Int) := by rw [← S_bL b, S_size, o1]
      have hpl := pay_len ⟨o1, o2, o3⟩
      rw [bif_false (by rfl)]
      simp only [ew, hsz]
      rw [bif_true (by exact sliceB (a := 4) (n := 64) (by omega) (by omega))]
      simp only [Int.toNat_natCast, ext_pay]
      rw [f622b (pay b) d (by omega), bind_some']
    · rw [if_neg he, if_pos he, bif_true (bne0 he)]
  have hl := lastB (R := R) (V := vs.length) (i := i) (n := bl.length) (k := k) hV (by omega) (by omega) (by omega) (fun last => Option.bind (f621F 1000 (b, ((i + 1 : Nat) : Int), ((num + 1 : Nat) : Int), (vs.length : Int), last)) fun y16 =>
      bif (y16.2 != (0 : Int)) then
        k0 (vs, ByteArray.empty, (i : Int), (k : Int), y16.2, ((num + 1 : Nat) : Int), (i : Int), xs, V2, i2, bl, nb, (k : Int), nm, bl, ints d, ())
      else
      bif (sliceBds (4 : Int) (IntKind.i64.wrap ((4 : Int) + y16.1)) (b.size : Int)) then
        Option.bind (f622v1F 1000 (b.extract 4 (Int.toNat (IntKind.i64.wrap ((4 : Int) + y16.1))), ints d, ())) fun y18 =>
        k1 (vs, ((num + 1 : Nat) : Int), (i : Int), xs, V2, i2, bl, nb, (k : Int), nm, bl, y18.2.1, ())
      else none)
  exact hl.trans (key _)
theorem f581p0q {R : Type} (k0 : List Vol × ByteArray × Int × Int × Int × Int × Int × List Vol × Int × Int × List ByteArray × Int × Int × ByteArray × List ByteArray × Unit → Option R)
    (k1 : List Vol × Int × Int × List Vol × Int × Int × List ByteArray × Int × Int × ByteArray × List ByteArray × List Int × Unit → Option R)
    (vs xs : List Vol) (V2 i2 nb : Int) (i num k : Nat) (nm : ByteArray) (bl : List ByteArray) (b : ByteArray) (hb : bl[k]? = some b)
    (hV : 1 ≤ vs.length) (hV2 : vs.length ≤ 6) (hi : i ≤ 6) (hbl : bl.length ≤ 60) (hnum : num ≤ 1000) :
    f581p0 1000 k0 k1 (vs, (num : Int), (i : Int), xs, V2, i2, bl, nb, (k : Int), nm, bl, ()) =
      if bE vs.length i bl.length k num b ≠ 0 then k0 (vs, ByteArray.empty, (i : Int), (k : Int), bE vs.length i bl.length k num b, ((num + 1 : Nat) : Int), (i : Int), xs, V2, i2, bl, nb, (k : Int), nm, bl, ())
      else k1 (vs, ((num + 1 : Nat) : Int), (i : Int), xs, V2, i2, bl, nb, (k : Int), nm, bl, ints (pay b), ()) := by
  have hk := (List.getElem?_eq_some_iff.1 hb).1
  unfold f581p0
  simp only [inb hk, cond_true, Int.toNat_natCast, getD_of hb, wi_succ (i := i) (by omega), wi_succ (i := num) (by omega)]
  have key : ∀ last : Bool, (Option.bind (f621F 1000 (b, ((i + 1 : Nat) : Int), ((num + 1 : Nat) : Int), (vs.length : Int), last)) fun y16 =>
      bif (y16.2 != (0 : Int)) then
        k0 (vs, ByteArray.empty, (i : Int), (k : Int), y16.2, ((num + 1 : Nat) : Int), (i : Int), xs, V2, i2, bl, nb, (k : Int), nm, bl, ())
      else
      bif (sliceBds (4 : Int) (IntKind.i64.wrap ((4 : Int) + y16.1)) (b.size : Int)) then
        Option.bind (f622v0F 1000 (b.extract 4 (Int.toNat (IntKind.i64.wrap ((4 : Int) + y16.1))), ())) fun y18 =>
        k1 (vs, ((num + 1 : Nat) : Int), (i : Int), xs, V2, i2, bl, nb, (k : Int), nm, bl, y18.2.1, ())
      else none) = if blkE (bL b) ((i + 1 : Nat) : Int) ((num + 1 : Nat) : Int) (vs.length : Int) last ≠ 0 then k0 (vs, ByteArray.empty, (i : Int), (k : Int), blkE (bL b) ((i + 1 : Nat) : Int) ((num + 1 : Nat) : Int) (vs.length : Int) last, ((num + 1 : Nat) : Int), (i : Int), xs, V2, i2, bl, nb, (k : Int), nm, bl, ())
      else k1 (vs, ((num + 1 : Nat) : Int), (i : Int), xs, V2, i2, bl, nb, (k : Int), nm, bl, ints (pay b), ()) := by
    intro last
    have hq := f621q (bL b) ((i + 1 : Nat) : Int) (vs.length : Int) (num := ((num + 1 : Nat) : Int)) (by omega) (by omega) last
    rw [S_bL] at hq
    rw [hq, bind_some']
    by_cases he : blkE (bL b) ((i + 1 : Nat) : Int) ((num + 1 : Nat) : Int) (vs.length : Int) last = 0
    · rw [if_pos he, if_neg (fun c => c he)]
      obtain ⟨o1, o2, o3⟩ := blkE_ok he
      have ew : IntKind.i64.wrap (4 + (bsz (bL b) : Int)) = ((4 + bsz (bL b) : Nat) : Int) := by rw [show (4 : Int) + (bsz (bL b) : Int) = ((4 + bsz (bL b) : Nat) : Int) by omega]; exact wi (by omega) (by omega)
      have hsz : (b.size : Int) = ((64 : Nat) : Int) := by rw [← S_bL b, S_size, o1]
      have hpl := pay_len ⟨o1, o2, o3⟩
      rw [bif_false (by rfl)]
      simp only [ew, hsz]
      rw [bif_true (by exact sliceB (a := 4) (n := 64) (by omega) (by omega))]
      simp only [Int.toNat_natCast, ext_pay]
      rw [f622a (pay b) (by omega), bind_some']
    · rw [if_neg he, if_pos he, bif_true (bne0 he)]
  have hl := lastB (R := R) (V := vs.length) (i := i) (n := bl.length) (k := k) hV (by omega) (by omega) (by omega) (fun last => Option.bind (f621F 1000 (b, ((i + 1 : Nat) : Int), ((num + 1 : Nat) : Int), (vs.length : Int), last)) fun y16 =>
      bif (y16.2 != (0 : Int)) then
        k0 (vs, ByteArray.empty, (i : Int), (k : Int), y16.2, ((num + 1 : Nat) : Int), (i : Int), xs, V2, i2, bl, nb, (k : Int), nm, bl, ())
      else
      bif (sliceBds (4 : Int) (IntKind.i64.wrap ((4 : Int) + y16.1)) (b.size : Int)) then
        Option.bind (f622v0F 1000 (b.extract 4 (Int.toNat (IntKind.i64.wrap ((4 : Int) + y16.1))), ())) fun y18 =>
        k1 (vs, ((num + 1 : Nat) : Int), (i : Int), xs, V2, i2, bl, nb, (k : Int), nm, bl, y18.2.1, ())
      else none)
  exact hl.trans (key _)
end Go.Proofs.YtobgkcamonlnkaaGreatDoor
/-! Plain laws of chapter 34: volumes read by the program: the loops. -/
set_option linter.unusedVariables false
set_option linter.unusedSimpArgs false
namespace Go.Proofs.YtobgkcamonlnkaaGreatDoor
open Go.Ab

theorem f581l2q {R : Type} (k0 : List Vol × ByteArray × Int × Int × Int × Int × List Vol × Int × Int × List Int × Unit → Option R) (k1 : List Vol × Int × List Vol × Int × Int × List Int × Unit → Option R)
    (vs xs : List Vol) (V2 i2 : Int) (i : Nat) (nm : ByteArray) (bl : List ByteArray)
    (hV : 1 ≤ vs.length) (hV2 : vs.length ≤ 6) (hi : i ≤ 6) (hbl : bl.length ≤ 60) (k num : Nat) (d : List UInt8) (hk : k ≤ bl.length) (hnum : num ≤ 500 + k) (hd : d.length ≤ 50000 + 52 * k) :
    f581l2 1000 k0 k1 (vs, (num : Int), (i : Int), xs, V2, i2, bl, (bl.length : Int), (k : Int), nm, bl, ints d, ()) =
      match rdBs vs.length i bl.length (bl.drop k) k num d with
      | .inl (k, e, nu, d) => k0 (vs, ByteArray.empty, (i : Int), (k : Int), e, (nu : Int), xs, V2, i2, ints d, ())
      | .inr (nu, d) => k1 (vs, (nu : Int), xs, V2, i2, ints d, ()) := by
  unfold f581l2
  refine iter_from (A := Nat × List UInt8 × Nat) bl (fun k a => (vs, (a.1 : Int), (i : Int), xs, V2, i2, bl, (bl.length : Int), (k : Int), nm, bl, ints a.2.1, ()))
    (fun m a => match rdBs vs.length i bl.length m a.2.2 a.1 a.2.1 with
      | .inl (k, e, nu, d) => k0 (vs, ByteArray.empty, (i : Int), (k : Int), e, (nu : Int), xs, V2, i2, ints d, ())
      | .inr (nu, d) => k1 (vs, (nu : Int), xs, V2, i2, ints d, ()))
    (fun k a => a.2.2 = k ∧ a.1 ≤ 500 + k ∧ a.2.1.length ≤ 50000 + 52 * k) ?_ ?_ (k := 1000) (by omega) k (num, d, k) hk ⟨rfl, hnum, hd⟩
  · intro rec a _
    unfold f581l2s
    simp only [ltn_self, cond_false]
    rfl
  · intro rec j a x hx hj hp
    obtain ⟨nu, d, k⟩ := a
    obtain ⟨h1, h2, h3⟩ := hp
    simp only at h1 h2 h3
    subst h1
    unfold f581l2s
    simp only [ltn hj, cond_true]
    rw [f581p1q _ _ vs xs V2 i2 _ i nu k nm bl d x hx hV hV2 hi hbl (by omega) (by omega)]
    by_cases he : bE vs.length i bl.length k nu x = 0
    · obtain ho := bE_ok he
      have hp := pay_len ho
      rw [if_neg (fun c => c he)]
      refine .inl ⟨(nu + 1, d ++ pay x, k + 1), ⟨rfl, by simp only; omega, by simp only [List.length_append]; omega⟩, by simp only [wi_succ (i := k) (by omega)], ?_⟩
      simp only [rdBs]
      rw [if_neg (fun c => c he)]
    · rw [if_pos he]
      refine .inr ?_
      simp only [rdBs]
      rw [if_pos he]

theorem f581l3q {R : Type} (k0 : List Vol × ByteArray × Int × Int × Int × Int × List Vol × Int × Int × Unit → Option R) (k1 : List Vol × ByteArray × Int × Int × Int × Int × List Vol × Int × Int × List Int × Unit → Option R)
    (k2 : List Vol × Int × List Vol × Int × Int × List Int × Unit → Option R) (k3 : List Vol × Int × List Vol × Int × Int × Unit → Option R)
    (vs xs : List Vol) (V2 i2 : Int) (i : Nat) (nm : ByteArray) (b : ByteArray) (bl : List ByteArray)
    (hV : 1 ≤ vs.length) (hV2 : vs.length ≤ 6) (hi : i ≤ 6) (hbl : (b :: bl).length ≤ 60) (num : Nat) (hnum : num ≤ 400) :
    f581l3 1000 k0 k1 k2 k3 (vs, (num : Int), (i : Int), xs, V2, i2, b :: bl, ((b :: bl).length : Int), (0 : Int), nm, b :: bl, ()) =
      if bE vs.length i (b :: bl).length 0 num b ≠ 0 then k0 (vs, ByteArray.empty, (i : Int), 0, bE vs.length i (b :: bl).length 0 num b, ((num + 1 : Nat) : Int), xs, V2, i2, ())
      else match rdBs vs.length i (b :: bl).length bl 1 (num + 1) (pay b) with
      | .inl (k, e, nu, d) => k1 (vs, ByteArray.empty, (i : Int), (k : Int), e, (nu : Int), xs, V2, i2, ints d, ())
      | .inr (nu, d) => k2 (vs, (nu : Int), xs, V2, i2, ints d, ()) := by
  unfold f581l3
  rw [iterS_1000]
  unfold f581l3s
  have h0 : decide ((0 : Int) < ((b :: bl).length : Int)) = true := by simp
  simp only [h0, cond_true]
  have hp := f581p0q (R := R) (k := 0) (k0 := fun w10 => k0 (w10.1, w10.2.1, w10.2.2.1, w10.2.2.2.1, w10.2.2.2.2.1, w10.2.2.2.2.2.1, w10.2.2.2.2.2.2.2.1, w10.2.2.2.2.2.2.2.2.1, w10.2.2.2.2.2.2.2.2.2.1, ()))
    (k1 := fun w11 => f581l2 1000 (fun w21 => k1 (w21.1, w21.2.1, w21.2.2.1, w21.2.2.2.1, w21.2.2.2.2.1, w21.2.2.2.2.2.1, w21.2.2.2.2.2.2.1, w21.2.2.2.2.2.2.2.1, w21.2.2.2.2.2.2.2.2.1, w21.2.2.2.2.2.2.2.2.2.1, ()))
          (fun w22 => k2 (w22.1, w22.2.1, w22.2.2.1, w22.2.2.2.1, w22.2.2.2.2.1, w22.2.2.2.2.2.1, ()))
          (w11.1, w11.2.1, w11.2.2.1, w11.2.2.2.1, w11.2.2.2.2.1, w11.2.2.2.2.2.1, w11.2.2.2.2.2.2.1, w11.2.2.2.2.2.2.2.1, (IntKind.i64.wrap (w11.2.2.2.2.2.2.2.2.1 + (1 : Int))), w11.2.2.2.2.2.2.2.2.2.1, w11.2.2.2.2.2.2.2.2.2.2.1, w11.2.2.2.2.2.2.2.2.2.2.2.1, ()))
    vs xs V2 i2 ((b :: bl).length : Int) i num nm (b :: bl) b rfl hV hV2 hi hbl (by omega)
  rw [show ((0 : Nat) : Int) = 0 from rfl] at hp
  refine hp.trans ?_
  by_cases he : bE vs.length i (b :: bl).length 0 num b = 0
  · have ho := bE_ok he
    have hpl := pay_len ho
    rw [if_neg (fun c => c he), if_neg (fun c => c he)]
    simp only [show IntKind.i64.wrap ((0 : Int) + 1) = ((1 : Nat) : Int) from rfl]
    rw [f581l2q _ _ vs xs V2 i2 i nm (b :: bl) hV hV2 hi hbl 1 (num + 1) (pay b) (by simp) (by omega) (by omega)]
    rfl
  · rw [if_pos he, if_pos he]

theorem f619q (pre : List Vol) (v : Vol) (h : pre.length ≤ 900) : f619v0F 1000 (pre, v.1, v.2, ()) = some ((pre.any fun y => strEq y.1 v.1), v.1, v.2, ()) := by
  unfold f619v0F f647v0F f647v0l0
  have key := iter_list (k := 1000) (A := Nat) (R := Int × ByteArray × List ByteArray × Unit) (Step := fun rec v => f647v0l0s 1000 rec (fun w2 => some (w2.1, w2.2.1, w2.2.2.1, ())) (fun w3 => some ((-1 : Int), w3.1, w3.2.1, ())) v) pre (fun i _ => (pre, (pre.length : Int), (i : Int), v.1, v.2, ()))
    (fun m i => some (idxN (fun y : Vol => strEq y.1 v.1) m i, v.1, v.2, ())) (fun i a => a = i) ?_ ?_ (by omega) 0 rfl
  · refine (congrArg (fun z => Option.bind z fun y1 => some ((decide (y1.1 ≥ (0 : Int))), y1.2.1, y1.2.2.1, ())) key).trans ?_
    simp only [bind_some']
    rcases idxN_cases (fun y : Vol => strEq y.1 v.1) pre 0 with ⟨h1, h2⟩ | ⟨j, x, h1, h2, h3⟩
    · rw [h1, h2]; rfl
    · have : (pre.any fun y => strEq y.1 v.1) = true := List.any_eq_true.2 ⟨x, List.mem_of_getElem? h2, h3⟩
      rw [h1, this]
      simp
  · intro rec a ha
    unfold f647v0l0s
    simp only [ltn_self, cond_false]
    rfl
  · intro rec i a x hx hi ha
    subst ha
    unfold f647v0l0s f620v0F
    simp only [ltn hi, nn, Bool.and_self, cond_true, Int.toNat_natCast, getD_of hx, wi_succ (i := a) (by omega), bind_some']
    cases hs : strEq x.1 v.1 with
    | true =>
      refine .inr ?_
      simp only [idxN, hs, cond_true, if_true]
    | false =>
      refine .inl ⟨a + 1, rfl, rfl, ?_⟩
      simp only [idxN, hs, Bool.false_eq_true, if_false, cond_false]

theorem f581p5q {R : Type} (k0 : List Vol × ByteArray × Int × Int × Int × Int × List Vol × Int × Int × List Int × Unit → Option R) (k1 : List Vol × Int × List Vol × Int × Int × List Int × Unit → Option R)
    (vs : List Vol) (v : Vol) (V2 : Int) (i num : Nat) (d : List UInt8) (hv : vs[i]? = some v) (hV2 : vs.length ≤ 6) (hnum : num ≤ 400) (hd : d.length ≤ 50000) :
    f581p5 1000 k0 k1 (vs, (num : Int), vs, V2, (i : Int), ints d, ()) =
      if volE (vs.take i) v ≠ 0 then k0 (vs, ByteArray.empty, (i : Int), 0, volE (vs.take i) v, (num : Int), vs, V2, (i : Int), ints d, ())
      else match rdBs vs.length i v.2.length v.2 0 num d with
      | .inl (k, e, nu, d) => k0 (vs, ByteArray.empty, (i : Int), (k : Int), e, (nu : Int), vs, V2, (i : Int), ints d, ())
      | .inr (nu, d) => k1 (vs, (nu : Int), vs, V2, (i : Int), ints d, ()) := by
  have hi := (List.getElem?_eq_some_iff.1 hv).1
  have hsl : sliceBds (0 : Int) (i : Int) (vs.length : Int) = true := sliceB0 (by omega)
  have h619 := f619q (vs.take i) v (by rw [List.length_take]; omega)
  unfold f581p5
  simp only [inb hi, cond_true, Int.toNat_natCast, getD_of hv, f602q 1000 (by decide), bind_some', hsl, List.drop_zero, h619]
  cases h1 : isNm v.1 with
  | false =>
    have : volE (vs.take i) v = 7 := by unfold volE; rw [h1, if_pos rfl]
    rw [this, if_pos (by decide)]; rfl
  | true =>
  simp only [Bool.not_true, cond_false]
  cases h2 : ((vs.take i).any fun y => strEq y.1 v.1) with
  | true =>
    have : volE (vs.take i) v = 13 := by unfold volE; rw [h1, h2, if_neg (by decide), if_pos rfl]
    rw [this, if_pos (by decide)]; rfl
  | false =>
  simp only [cond_false]
  by_cases h3 : v.2.length > 60
  · have : volE (vs.take i) v = 2 := by unfold volE; rw [h1, h2, if_neg (by decide), if_neg (by decide), if_pos h3]
    rw [this, if_pos (by decide), bif_true (by simp; omega)]
  · by_cases h4 : v.2.length = 0
    · have : volE (vs.take i) v = 1 := by unfold volE; rw [h1, h2, if_neg (by decide), if_neg (by decide), if_neg h3, if_pos h4]
      rw [this, if_pos (by decide), bif_false (by simp; omega), bif_true (by rw [h4]; rfl)]
    · have : volE (vs.take i) v = 0 := by unfold volE; rw [h1, h2, if_neg (by decide), if_neg (by decide), if_neg h3, if_neg h4]
      rw [this, if_neg (by decide), bif_false (by simp; omega), bif_false (beq0 (by omega))]
      exact f581l2q _ _ vs vs V2 (i : Int) i v.1 v.2 (by omega) hV2 (by omega) (by omega) 0 num d (by omega) (by omega) (by omega)

theorem rdVs_bnd {V i n num : Nat} {d : List UInt8} {nu : Nat} {d' : List UInt8} {m : List ByteArray} {k : Nat} (h : rdBs V i n m k num d = .inr (nu, d')) (hm : m.length ≤ 60) : nu ≤ num + 60 ∧ d'.length ≤ d.length + 3120 := by
  obtain ⟨h1, h2, h3⟩ := rdBs_ok h
  have := pays_len h3
  rw [h2, List.length_append]
  omega
theorem f581l6q {R : Type} (k0 : ByteArray × Int × Int × Int × List Int × Unit → Option R) (k1 : List Int × Unit → Option R)
    (vs : List Vol) (hV2 : vs.length ≤ 6) (i num : Nat) (d : List UInt8) (hi : i ≤ vs.length) (hnum : num ≤ 60 * i) (hd : d.length ≤ 3120 * i) :
    f581l6 1000 k0 k1 (vs, (num : Int), vs, (vs.length : Int), (i : Int), ints d, ()) =
      match rdVs vs vs.length (vs.drop i) i num d with
      | .inl (i, k, e, d) => k0 (ByteArray.empty, (i : Int), (k : Int), e, ints d, ())
      | .inr d => k1 (ints d, ()) := by
  unfold f581l6
  refine iter_from (A := Nat × List UInt8 × Nat) vs (fun i a => (vs, (a.1 : Int), vs, (vs.length : Int), (i : Int), ints a.2.1, ()))
    (fun m a => match rdVs vs vs.length m a.2.2 a.1 a.2.1 with
      | .inl (i, k, e, d) => k0 (ByteArray.empty, (i : Int), (k : Int), e, ints d, ())
      | .inr d => k1 (ints d, ()))
    (fun i a => a.2.2 = i ∧ a.1 ≤ 60 * i ∧ a.2.1.length ≤ 3120 * i) ?_ ?_ (k := 1000) (by omega) i (num, d, i) hi ⟨rfl, hnum, hd⟩
  · intro rec a _
    unfold f581l6s
    simp only [ltn_self, cond_false]
    rfl
  · intro rec j a v hv hj hp
    obtain ⟨nu, d, i⟩ := a
    obtain ⟨h1, h2, h3⟩ := hp
    simp only at h1 h2 h3
    subst h1
    unfold f581l6s
    simp only [ltn hj, cond_true]
    rw [f581p5q _ _ vs v _ i nu d hv hV2 (by omega) (by omega)]
    by_cases he : volE (vs.take i) v = 0
    · rw [if_neg (fun c => c he)]
      match hr : rdBs vs.length i v.2.length v.2 0 nu d with
      | .inl (k, e, nu', d') =>
        refine .inr ?_
        simp only [rdVs]
        rw [if_neg (fun c => c he), hr]
      | .inr (nu', d') =>
        have hb := rdVs_bnd hr (volE_ok he).2.2
        refine .inl ⟨(nu', d', i + 1), ⟨rfl, by simp only; omega, by simp only; omega⟩, by simp only [wi_succ (i := i) (by omega)], ?_⟩
        simp only [rdVs]
        rw [if_neg (fun c => c he), hr]
    · rw [if_pos he]
      refine .inr ?_
      simp only [rdVs]
      rw [if_pos he]
      rfl
end Go.Proofs.YtobgkcamonlnkaaGreatDoor
/-! Plain laws of chapter 34: volumes read by the program: the first volume, and all. -/
set_option linter.unusedVariables false
set_option linter.unusedSimpArgs false
namespace Go.Proofs.YtobgkcamonlnkaaGreatDoor
open Go.Ab

theorem f581p4q {R : Type} (k0 : List Vol × ByteArray × Int × Int × Int × Int × List Vol × Int × Int × Unit → Option R) (k1 : List Vol × ByteArray × Int × Int × Int × Int × List Vol × Int × Int × List Int × Unit → Option R)
    (k2 : List Vol × Int × List Vol × Int × Int × List Int × Unit → Option R) (k3 : List Vol × Int × List Vol × Int × Int × Unit → Option R)
    (v : Vol) (vs : List Vol) (V2 : Int) (hV2 : (v :: vs).length ≤ 6) :
    f581p4 1000 k0 k1 k2 k3 (v :: vs, 0, v :: vs, V2, 0, ()) =
      if volE [] v ≠ 0 then k0 (v :: vs, ByteArray.empty, 0, 0, volE [] v, 0, v :: vs, V2, 0, ())
      else match v.2 with
      | [] => none
      | b :: bl => if bE (v :: vs).length 0 (b :: bl).length 0 0 b ≠ 0 then k0 (v :: vs, ByteArray.empty, 0, 0, bE (v :: vs).length 0 (b :: bl).length 0 0 b, 1, v :: vs, V2, 0, ())
        else match rdBs (v :: vs).length 0 (b :: bl).length bl 1 1 (pay b) with
        | .inl (k, e, nu, d) => k1 (v :: vs, ByteArray.empty, 0, (k : Int), e, (nu : Int), v :: vs, V2, 0, ints d, ())
        | .inr (nu, d) => k2 (v :: vs, (nu : Int), v :: vs, V2, 0, ints d, ()) := by
  have hi : 0 < (v :: vs).length := by simp
  have hsl : sliceBds (0 : Int) 0 ((v :: vs).length : Int) = true := sliceB0 (b := 0) (by omega)
  have h619 := f619q [] v (by simp)
  have hin := inb hi
  rw [show ((0 : Nat) : Int) = 0 from rfl] at hin
  unfold f581p4
  simp only [hin, cond_true, show Int.toNat 0 = 0 from rfl, getD_of (show (v :: vs)[0]? = some v from rfl), f602q 1000 (by decide), bind_some', hsl, List.drop_zero, List.take_zero, h619]
  cases h1 : isNm v.1 with
  | false =>
    have : volE [] v = 7 := by unfold volE; rw [h1, if_pos rfl]
    rw [this, if_pos (by decide)]; rfl
  | true =>
  simp only [Bool.not_true, cond_false, List.any_nil]
  by_cases h3 : v.2.length > 60
  · have : volE [] v = 2 := by unfold volE; rw [h1, List.any_nil, if_neg (by decide), if_neg (by decide), if_pos h3]
    rw [this, if_pos (by decide), bif_true (by simp; omega)]
  · match hb : v.2 with
    | [] =>
      have : volE [] v = 1 := by unfold volE; rw [h1, List.any_nil, if_neg (by decide), if_neg (by decide), if_neg h3, if_pos (by rw [hb]; rfl)]
      rw [this, if_pos (by decide)]; rfl
    | b :: bl =>
      have hl : (b :: bl).length ≤ 60 := by rw [← hb]; omega
      have : volE [] v = 0 := by unfold volE; rw [h1, List.any_nil, if_neg (by decide), if_neg (by decide), if_neg h3, if_neg (by rw [hb]; simp)]
      rw [this, if_neg (by decide), bif_false (by rw [decide_eq_false_iff_not]; omega), bif_false (beq0 (by simp only [List.length_cons]; omega))]
      have h := f581l3q (fun w23 => k0 (w23.1, w23.2.1, w23.2.2.1, w23.2.2.2.1, w23.2.2.2.2.1, w23.2.2.2.2.2.1, w23.2.2.2.2.2.2.1, w23.2.2.2.2.2.2.2.1, w23.2.2.2.2.2.2.2.2.1, ()))
        (fun w24 => k1 (w24.1, w24.2.1, w24.2.2.1, w24.2.2.2.1, w24.2.2.2.2.1, w24.2.2.2.2.2.1, w24.2.2.2.2.2.2.1, w24.2.2.2.2.2.2.2.1, w24.2.2.2.2.2.2.2.2.1, w24.2.2.2.2.2.2.2.2.2.1, ()))
        (fun w25 => k2 (w25.1, w25.2.1, w25.2.2.1, w25.2.2.2.1, w25.2.2.2.2.1, w25.2.2.2.2.2.1, ()))
        (fun w26 => k3 (w26.1, w26.2.1, w26.2.2.1, w26.2.2.2.1, w26.2.2.2.2.1, ()))
        (v :: vs) (v :: vs) V2 0 0 v.1 b bl (by simp) hV2 (by omega) hl 0 (by omega)
      exact h

theorem rdVs_pre {vs : List Vol} {V : Nat} : ∀ {m : List Vol} {i num : Nat} {d d' : List UInt8}, rdVs vs V m i num d = .inr d' →
    d' = d ++ (m.flatMap fun v => v.2.flatMap pay) ∧ ∀ v ∈ m, v.2.length ≤ 60 ∧ ∀ b ∈ v.2, (bL b).length = 64 ∧ 1 ≤ bsz (bL b) ∧ bsz (bL b) ≤ 52
  | [], i, num, d, d', h => by
    simp only [rdVs] at h; cases h
    exact ⟨by simp, by simp⟩
  | v :: m, i, num, d, d', h => by
    simp only [rdVs] at h
    by_cases he : volE (vs.take i) v = 0
    · rw [if_neg (fun c => c he)] at h
      match hr : rdBs V i v.2.length v.2 0 num d, h with
      | .inl (k, e, nu, x), h => cases h
      | .inr (nu, x), h =>
        obtain ⟨h1, h2, h3⟩ := rdBs_ok hr
        obtain ⟨h4, h5⟩ := rdVs_pre h
        refine ⟨by rw [h4, h2, List.append_assoc]; rfl, fun x hx => ?_⟩
        rcases List.mem_cons.1 hx with rfl | hx
        · exact ⟨(volE_ok he).2.2, h3⟩
        · exact h5 x hx
    · rw [if_pos he] at h; cases h
theorem rdVs_err {vs : List Vol} {V : Nat} : ∀ {m : List Vol} {i num : Nat} {d : List UInt8} {i' k : Nat} {e : Int} {d' : List UInt8}, rdVs vs V m i num d = .inl (i', k, e, d') → e ≠ 0
  | [], i, num, d, i', k, e, d', h => by simp only [rdVs] at h; cases h
  | v :: m, i, num, d, i', k, e, d', h => by
    simp only [rdVs] at h
    by_cases he : volE (vs.take i) v = 0
    · rw [if_neg (fun c => c he)] at h
      match hr : rdBs V i v.2.length v.2 0 num d, h with
      | .inl (k, e, nu, x), h =>
        cases h
        have : ∀ {V i n : Nat} {m : List ByteArray} {k num : Nat} {d : List UInt8} {k' nu : Nat} {e : Int} {d' : List UInt8}, rdBs V i n m k num d = .inl (k', e, nu, d') → e ≠ 0 := by
          intro V i n m
          induction m with
          | nil => intro k num d k' nu e d' h; simp only [rdBs] at h; cases h
          | cons b m ih =>
            intro k num d k' nu e d' h
            simp only [rdBs] at h
            by_cases hb : bE V i n k num b = 0
            · rw [if_neg (fun c => c hb)] at h; exact ih h
            · rw [if_pos hb] at h; cases h; exact hb
        exact this hr
      | .inr (nu, x), h => exact rdVs_err h
    · rw [if_pos he] at h; cases h; exact he
theorem rd_err {vs : List Vol} {i k : Nat} {e : Int} (h : rd vs = .inl (i, k, e)) : e ≠ 0 := by
  unfold rd at h
  by_cases h0 : vs.length = 0
  · rw [if_pos h0] at h; cases h; decide
  · rw [if_neg h0] at h
    by_cases h6 : vs.length > 6
    · rw [if_pos h6] at h; cases h; decide
    · rw [if_neg h6] at h
      match hr : rdVs vs vs.length vs 0 0 [], h with
      | .inl (i, k, e, d), h => cases h; exact rdVs_err hr
      | .inr d, h => cases h
theorem rd_ok {vs : List Vol} {d : List UInt8} (h : rd vs = .inr d) : 1 ≤ vs.length ∧ vs.length ≤ 6 ∧ d = (vs.flatMap fun v => v.2.flatMap pay) ∧ ∀ v ∈ vs, v.2.length ≤ 60 ∧ ∀ b ∈ v.2, (bL b).length = 64 ∧ 1 ≤ bsz (bL b) ∧ bsz (bL b) ≤ 52 := by
  unfold rd at h
  by_cases h0 : vs.length = 0
  · rw [if_pos h0] at h; cases h
  · rw [if_neg h0] at h
    by_cases h6 : vs.length > 6
    · rw [if_pos h6] at h; cases h
    · rw [if_neg h6] at h
      match hr : rdVs vs vs.length vs 0 0 [], h with
      | .inl (i, k, e, d), h => cases h
      | .inr d, h =>
        cases h
        obtain ⟨h1, h2⟩ := rdVs_pre hr
        exact ⟨by omega, by omega, by rw [h1]; rfl, h2⟩
theorem rd_len {vs : List Vol} {d : List UInt8} (h : rd vs = .inr d) : d.length ≤ 18720 := by
  obtain ⟨h1, h2, h3, h4⟩ := rd_ok h
  rw [h3]
  have := flat_len (fun v : Vol => v.2.flatMap pay) 3120 vs fun v hv => by
    have := pays_len (h4 v hv).2
    have := (h4 v hv).1
    omega
  omega

theorem range_ints (l : List UInt8) : (List.all (ints l) fun x => decide ((0 : Int) ≤ x) && decide (x ≤ 255)) = true := by
  rw [List.all_eq_true]
  intro x hx
  obtain ⟨b, -, rfl⟩ := List.mem_map.1 hx
  have := byte_rng b
  simp; omega
theorem f581q (vs : List Vol) : f581F 1000 vs = some (match rd vs with | .inl (i, k, e) => (ByteArray.empty, (i : Int), (k : Int), e) | .inr d => (S d, 0, 0, 0)) := by
  unfold f581F rd
  by_cases h0 : vs.length = 0
  · rw [bif_true (by rw [h0]; rfl), if_pos h0]; rfl
  · rw [bif_false (beq0 (by omega)), if_neg h0]
    by_cases h6 : vs.length > 6
    · rw [bif_true (by simp; omega), if_pos h6]; rfl
    · rw [bif_false (by simp; omega), if_neg h6]
      match vs, h0, h6 with
      | v :: vs, h0, h6 =>
        unfold f581p8 f581l7
        rw [iterS_1000]
        unfold f581l7s
        have hd : decide ((0 : Int) < ((v :: vs).length : Int)) = true := by simp
        simp only [hd, cond_true]
        rw [f581p4q _ _ _ _ v vs _ (by omega)]
        have hst : rdVs (v :: vs) (v :: vs).length (v :: vs) 0 0 [] = if volE [] v ≠ 0 then .inl (0, 0, volE [] v, []) else
          match rdBs (v :: vs).length 0 v.2.length v.2 0 0 [] with
          | .inl (k, e, _, d') => .inl (0, k, e, d')
          | .inr (nu, d') => rdVs (v :: vs) (v :: vs).length vs 1 nu d' := rfl
        rw [hst]
        by_cases he : volE [] v = 0
        · rw [if_neg (fun c => c he), if_neg (fun c => c he)]
          obtain ⟨o1, o2, o3⟩ := volE_ok he
          match hb : v.2 with
          | [] => rw [hb] at o2; simp at o2
          | b :: bl =>
            rw [hb] at o3
            simp only
            have hs1 : rdBs (v :: vs).length 0 (b :: bl).length (b :: bl) 0 0 [] = if bE (v :: vs).length 0 (b :: bl).length 0 0 b ≠ 0 then .inl (0, bE (v :: vs).length 0 (b :: bl).length 0 0 b, 1, []) else rdBs (v :: vs).length 0 (b :: bl).length bl 1 1 (pay b) := by
              simp only [rdBs, List.nil_append, Nat.zero_add]
            rw [hs1]
            by_cases hbe : bE (v :: vs).length 0 (b :: bl).length 0 0 b = 0
            · rw [if_neg (fun c => c hbe), if_neg (fun c => c hbe)]
              have hpl := pay_len (bE_ok hbe)
              have hok := bE_ok hbe
              match hr : rdBs (v :: vs).length 0 (b :: bl).length bl 1 1 (pay b) with
              | .inl (k, e, nu, d) => rfl
              | .inr (nu, d) =>
                obtain ⟨q1, q2, q3⟩ := rdBs_ok hr
                have q4 := pays_len q3
                have o4 : bl.length ≤ 59 := by simpa using o3
                have hdl : d.length ≤ 3120 := by rw [q2, List.length_append]; omega
                have h6q := f581l6q (R := ByteArray × Int × Int × Int) (fun w36 => some (w36.1, w36.2.1, w36.2.2.1, w36.2.2.2.1)) (fun w37 => bif (!(List.isEmpty w37.1) && (List.all w37.1 fun x => decide ((0 : Int) ≤ x) && decide (x ≤ 255))) then some ((strOfNums w37.1), (0 : Int), (0 : Int), (0 : Int)) else none)
                  (v :: vs) (by omega) 1 nu d (by simp) (by omega) (by omega)
                refine h6q.trans ?_
                rw [show (v :: vs).drop 1 = vs from rfl]
                show _ = some (match (match rdVs (v :: vs) (v :: vs).length vs 1 nu d with | .inl (i, k, e, _) => .inl (i, k, e) | .inr d => .inr d : (Nat × Nat × Int) ⊕ List UInt8) with | .inl (i, k, e) => (ByteArray.empty, (i : Int), (k : Int), e) | .inr d => (S d, 0, 0, 0))
                match hv : rdVs (v :: vs) (v :: vs).length vs 1 nu d with
                | .inl (i, k, e, d') => rfl
                | .inr d' =>
                  obtain ⟨p1, p2⟩ := rdVs_pre hv
                  have hne : 1 ≤ d'.length := by rw [p1, q2, List.length_append, List.length_append]; omega
                  show (bif (!(List.isEmpty (ints d')) && (List.all (ints d') fun x => decide ((0 : Int) ≤ x) && decide (x ≤ 255))) then some ((strOfNums (ints d')), (0 : Int), (0 : Int), (0 : Int)) else none) = _
                  rw [range_ints, S_back, bif_true]
                  cases d' with
                  | nil => simp at hne
                  | cons x d' => rfl
            · rw [if_pos hbe, if_pos hbe]
              rfl
        · rw [if_pos he, if_pos he]
          rfl
theorem f536q (vs : List Vol) : f536F 1000 vs = some (match rd vs with | .inl (i, k, e) => ((i : Int), (k : Int), e) | .inr d => ((d.length : Int), 0, 0)) := by
  unfold f536F
  rw [f581q, bind_some']
  match hr : rd vs with
  | .inl (i, k, e) => simp only; rw [bif_true (bne0 (rd_err hr))]
  | .inr d => simp only [bne00, cond_false, S_size]
theorem f538q (vs : List Vol) : f538F 1000 vs = some (match rd vs with | .inl (i, k, e) => ([], e) | .inr d => tblsIn d) := by
  unfold f538F
  rw [f581q, bind_some']
  match hr : rd vs with
  | .inl (i, k, e) => simp only; rw [bif_true (bne0 (rd_err hr))]
  | .inr d => simp only [bne00, cond_false, f532q, bind_some']
end Go.Proofs.YtobgkcamonlnkaaGreatDoor
/-! Plain laws of chapter 34: volumes read by the reference; the law of checks. -/
set_option linter.unusedVariables false
set_option linter.unusedSimpArgs false
namespace Go.Proofs.YtobgkcamonlnkaaGreatDoor
open Go.Ab

theorem f582q (vs : List Vol) (v : Vol) (i : Nat) (hv : vs[i]? = some v) (h : vs.length ≤ 900) : f582F 1000 (vs, (i : Int)) = some (volE (vs.take i) v) := by
  have hi := (List.getElem?_eq_some_iff.1 hv).1
  unfold f582F
  simp only [inb hi, cond_true, Int.toNat_natCast, getD_of hv, f603q 1000 (by decide), bind_some']
  cases h1 : isNm v.1 with
  | false =>
    have : volE (vs.take i) v = 7 := by unfold volE; rw [h1, if_pos rfl]
    rw [this]; rfl
  | true =>
  simp only [Bool.not_true, cond_false]
  unfold f582l0
  have hl : (vs.take i).length = i := by rw [List.length_take]; omega
  have key := iter_list (k := 1000) (A := Unit) (R := Int) (Step := fun rec v => f582l0s 1000 rec (fun w3 => some w3.2.2.1) (fun w4 =>
      bif ((decide ((0 : Int) ≤ w4.2.1)) && (decide (w4.2.1 < (w4.1.length : Int)))) then
      let t5 := (decide (((w4.1.getD (Int.toNat w4.2.1) (ByteArray.empty, [])).2.length : Int) > (60 : Int)))
      bif t5 then
        some (2 : Int)
      else
      bif ((decide ((0 : Int) ≤ w4.2.1)) && (decide (w4.2.1 < (w4.1.length : Int)))) then
      let t6 := (((w4.1.getD (Int.toNat w4.2.1) (ByteArray.empty, [])).2.length : Int) == (0 : Int))
      Option.bind (f69F 1000 t6) fun y7 =>
      some (IntKind.i64.wrap ((1 : Int) * y7))
      else none
      else none) v) (vs.take i) (fun j _ => (vs, (i : Int), (j : Int), ()))
    (fun m _ => some (if (m.any fun y => strEq y.1 v.1) = true then 13 else if v.2.length > 60 then 2 else if v.2.length = 0 then 1 else 0)) (fun _ _ => True) ?_ ?_ (by rw [hl]; omega) () trivial
  · refine key.trans ?_
    unfold volE
    rw [if_neg (show ¬ isNm v.1 = false by rw [h1]; decide)]
  · intro rec a _
    unfold f582l0s
    rw [hl]
    simp only [ltn_self, cond_false, inb hi, cond_true, Int.toNat_natCast, getD_of hv]
    rw [if_neg (show ¬ (([] : List Vol).any fun y => strEq y.1 v.1) = true by simp)]
    by_cases h3 : v.2.length > 60
    · rw [if_pos h3, bif_true (by simp; omega)]
    · rw [if_neg h3, bif_false (by simp; omega), f69b, bind_some']
      by_cases h4 : v.2.length = 0
      · rw [if_pos h4, if_pos (by rw [h4]; rfl)]; rfl
      · rw [if_neg h4, if_neg (by simp; intro c; exact h4 (by rw [c]; rfl))]; rfl
  · intro rec j a y hy hj _
    rw [hl] at hj
    have hy' : vs[j]? = some y := by rw [List.getElem?_take, if_pos hj] at hy; exact hy
    unfold f582l0s
    simp only [ltn hj, cond_true, inb (show j < vs.length by omega), inb hi, Int.toNat_natCast, getD_of hy', getD_of hv, wi_succ (i := j) (by omega)]
    cases hs : strEq y.1 v.1 with
    | true =>
      refine .inr ?_
      simp only [cond_true, List.any_cons, hs, Bool.true_or, if_true]
    | false =>
      refine .inl ⟨(), trivial, rfl, ?_⟩
      simp only [List.any_cons, hs, Bool.false_or]

theorem f539p0q {R : Type} (k0 k1 : List Vol × Int × Int × Int × Int × Int × Int × Int × Unit → Option R) (vs : List Vol) (v : Vol) (i k num : Nat) (n : Nat) (A B C : Int) (b : ByteArray)
    (hv : vs[i]? = some v) (hb : v.2[k]? = some b) (hV2 : vs.length ≤ 6) (hbl : v.2.length ≤ 60) (hnum : num ≤ 1000) (hn : n ≤ 100000) :
    f539p0 1000 k0 k1 (vs, (n : Int), (num : Int), (i : Int), (k : Int), A, B, C, ()) =
      if bE vs.length i v.2.length k num b ≠ 0 then k0 (vs, (n : Int), ((num + 1 : Nat) : Int), (i : Int), (k : Int), (i : Int), (k : Int), bE vs.length i v.2.length k num b, ())
      else k1 (vs, ((n + (pay b).length : Nat) : Int), ((num + 1 : Nat) : Int), (i : Int), (k : Int), A, B, C, ()) := by
  have hi := (List.getElem?_eq_some_iff.1 hv).1
  have hk := (List.getElem?_eq_some_iff.1 hb).1
  unfold f539p0
  simp only [inb hi, inb hk, cond_true, Int.toNat_natCast, getD_of hv, getD_of hb, wi_succ (i := i) (by omega), wi_succ (i := num) (by omega)]
  have key : ∀ last : Bool, (Option.bind (f583F 1000 (b, (((i + 1 : Nat) : Int), (((num + 1 : Nat) : Int), (ByteArray.empty, (last, (vs.length : Int))))))) fun y5 =>
      bif (y5 != (0 : Int)) then
        k0 (vs, (n : Int), ((num + 1 : Nat) : Int), (i : Int), (k : Int), (i : Int), (k : Int), y5, ())
      else
      bif (decide ((3 : Int) < (b.size : Int))) then
      k1 (vs, IntKind.i64.wrap ((n : Int) + Int.tmod (IntKind.i64.wrap (bt b (3 : Int))) (128 : Int)), ((num + 1 : Nat) : Int), (i : Int), (k : Int), A, B, C, ())
      else none) = if blkE (bL b) ((i + 1 : Nat) : Int) ((num + 1 : Nat) : Int) (vs.length : Int) last ≠ 0 then k0 (vs, (n : Int), ((num + 1 : Nat) : Int), (i : Int), (k : Int), (i : Int), (k : Int), blkE (bL b) ((i + 1 : Nat) : Int) ((num + 1 : Nat) : Int) (vs.length : Int) last, ())
      else k1 (vs, ((n + (pay b).length : Nat) : Int), ((num + 1 : Nat) : Int), (i : Int), (k : Int), A, B, C, ()) := by
    intro last
    have hq := f583q (bL b) ((i + 1 : Nat) : Int) ((num + 1 : Nat) : Int) (vs.length : Int) last
    rw [S_bL] at hq
    rw [hq, bind_some']
    by_cases he : blkE (bL b) ((i + 1 : Nat) : Int) ((num + 1 : Nat) : Int) (vs.length : Int) last = 0
    · rw [if_neg (fun c => c he), bif_false (by rw [he]; rfl)]
      obtain ⟨o1, o2, o3⟩ := blkE_ok he
      have hpl := pay_len ⟨o1, o2, o3⟩
      have hsz : b.size = 64 := by rw [← S_bL b, S_size, o1]
      have hb3 := S_bt (bL b) 3 (by omega)
      rw [S_bL, show ((3 : Nat) : Int) = 3 from rfl] at hb3
      rw [bif_true (by rw [hsz]; rfl), hb3, wi_byte, tmod_byte, show ((bL b).getD 3 0).toNat % 128 = bsz (bL b) from rfl, hpl, show (n : Int) + (bsz (bL b) : Int) = ((n + bsz (bL b) : Nat) : Int) by omega, wi (x := ((n + bsz (bL b) : Nat) : Int)) (by omega) (by omega)]
    · rw [if_pos he, bif_true (bne0 he)]
  have hl := lastB (R := R) (V := vs.length) (i := i) (n := v.2.length) (k := k) (by omega) (by omega) (by omega) (by omega) (fun last => Option.bind (f583F 1000 (b, (((i + 1 : Nat) : Int), (((num + 1 : Nat) : Int), (ByteArray.empty, (last, (vs.length : Int))))))) fun y5 =>
      bif (y5 != (0 : Int)) then
        k0 (vs, (n : Int), ((num + 1 : Nat) : Int), (i : Int), (k : Int), (i : Int), (k : Int), y5, ())
      else
      bif (decide ((3 : Int) < (b.size : Int))) then
      k1 (vs, IntKind.i64.wrap ((n : Int) + Int.tmod (IntKind.i64.wrap (bt b (3 : Int))) (128 : Int)), ((num + 1 : Nat) : Int), (i : Int), (k : Int), A, B, C, ())
      else none)
  exact hl.trans (key _)
theorem f539l1q {R : Type} (k0 k1 : List Vol × Int × Int × Int × Int × Int × Int × Unit → Option R) (vs : List Vol) (v : Vol) (i num : Nat) (A B C : Int) (d : List UInt8)
    (hv : vs[i]? = some v) (hV2 : vs.length ≤ 6) (hbl : v.2.length ≤ 60) (hnum : num ≤ 500) (hd : d.length ≤ 50000) :
    f539l1 1000 k0 k1 (vs, (d.length : Int), (num : Int), (i : Int), 0, A, B, C, ()) =
      match rdBs vs.length i v.2.length v.2 0 num d with
      | .inl (k, e, nu, d) => k0 (vs, (d.length : Int), (nu : Int), (i : Int), (i : Int), (k : Int), e, ())
      | .inr (nu, d) => k1 (vs, (d.length : Int), (nu : Int), (i : Int), A, B, C, ()) := by
  have hi := (List.getElem?_eq_some_iff.1 hv).1
  unfold f539l1
  have := iter_list (Step := fun rec v => f539l1s 1000 rec k0 k1 v) (A := Nat × List UInt8 × Nat) v.2 (fun k a => (vs, (a.2.1.length : Int), (a.1 : Int), (i : Int), (k : Int), A, B, C, ()))
    (fun m a => match rdBs vs.length i v.2.length m a.2.2 a.1 a.2.1 with
      | .inl (k, e, nu, d) => k0 (vs, (d.length : Int), (nu : Int), (i : Int), (i : Int), (k : Int), e, ())
      | .inr (nu, d) => k1 (vs, (d.length : Int), (nu : Int), (i : Int), A, B, C, ()))
    (fun k a => a.2.2 = k ∧ a.1 ≤ 500 + k ∧ a.2.1.length ≤ 50000 + 52 * k) ?_ ?_ (k := 1000) (by omega) (num, d, 0) ⟨rfl, hnum, by simp only; omega⟩
  · exact this
  · intro rec a _
    unfold f539l1s
    simp only [inb hi, Int.toNat_natCast, getD_of hv, cond_true, ltn_self, cond_false]
    rfl
  · intro rec j a x hx hj hp
    obtain ⟨nu, d, k⟩ := a
    obtain ⟨h1, h2, h3⟩ := hp
    simp only at h1 h2 h3
    subst h1
    unfold f539l1s
    simp only [inb hi, Int.toNat_natCast, getD_of hv, cond_true, ltn hj]
    rw [f539p0q _ _ vs v i k nu d.length A B C x hv hx hV2 hbl (by omega) (by omega)]
    by_cases he : bE vs.length i v.2.length k nu x = 0
    · have hp := pay_len (bE_ok he)
      have hq := (bE_ok he).2.2
      rw [if_neg (fun c => c he)]
      refine .inl ⟨(nu + 1, d ++ pay x, k + 1), ⟨rfl, by simp only; omega, by simp only [List.length_append]; omega⟩, by simp only [wi_succ (i := k) (by omega), List.length_append], ?_⟩
      simp only [rdBs]
      rw [if_neg (fun c => c he)]
    · rw [if_pos he]
      refine .inr ?_
      simp only [rdBs]
      rw [if_pos he]
theorem f539q (vs : List Vol) : f539F 1000 vs = some (match rd vs with | .inl (i, k, e) => ((i : Int), ((k : Int), e)) | .inr d => ((d.length : Int), (0, 0))) := by
  unfold f539F rd
  by_cases h0 : vs.length = 0
  · rw [bif_true (by rw [h0]; rfl), if_pos h0]; rfl
  · rw [bif_false (beq0 (by omega)), if_neg h0]
    by_cases h6 : vs.length > 6
    · rw [bif_true (by simp; omega), if_pos h6]; rfl
    · rw [bif_false (by simp; omega), if_neg h6]
      unfold f539l2
      have key := iter_list (R := Int × Int × Int) (Step := fun rec v => f539l2s 1000 rec (fun w16 => some (w16.2.1, (w16.2.2.1, w16.2.2.2.1))) (fun w17 => some (w17.1, ((0 : Int), (0 : Int)))) v) (A := Nat × List UInt8 × Nat) vs (fun i a => (vs, (a.2.1.length : Int), (a.1 : Int), (i : Int), (0 : Int), (0 : Int), (0 : Int), ()))
        (fun m a => some (match rdVs vs vs.length m a.2.2 a.1 a.2.1 with | .inl (i, k, e, d) => ((i : Int), ((k : Int), e)) | .inr d => ((d.length : Int), (0, 0))))
        (fun i a => a.2.2 = i ∧ a.1 ≤ 60 * i ∧ a.2.1.length ≤ 3120 * i) ?_ ?_ (k := 1000) (by omega) (0, [], 0) ⟨rfl, by simp, by simp⟩
      · refine key.trans ?_
        show some (match rdVs vs vs.length vs 0 0 [] with | .inl (i, k, e, d) => ((i : Int), ((k : Int), e)) | .inr d => ((d.length : Int), (0, 0))) = _
        cases rdVs vs vs.length vs 0 0 [] <;> rfl
      · intro rec a _
        unfold f539l2s
        simp only [ltn_self, cond_false]
        rfl
      · intro rec j a v hv hj hp
        obtain ⟨nu, d, i⟩ := a
        obtain ⟨h1, h2, h3⟩ := hp
        simp only at h1 h2 h3
        subst h1
        unfold f539l2s
        simp only [ltn hj, cond_true, f582q vs v i hv (by omega), bind_some']
        by_cases he : volE (vs.take i) v = 0
        · rw [bif_false (by rw [he]; rfl)]
          rw [f539l1q _ _ vs v i nu 0 0 0 d hv (by omega) (volE_ok he).2.2 (by omega) (by omega)]
          match hr : rdBs vs.length i v.2.length v.2 0 nu d with
          | .inl (k, e, nu', d') =>
            refine .inr ?_
            simp only [rdVs]
            rw [if_neg (fun c => c he), hr]
          | .inr (nu', d') =>
            have hb := rdVs_bnd hr (volE_ok he).2.2
            refine .inl ⟨(nu', d', i + 1), ⟨rfl, by simp only; omega, by simp only; omega⟩, by simp only [wi_succ (i := i) (by omega)], ?_⟩
            simp only [rdVs]
            rw [if_neg (fun c => c he), hr]
        · rw [bif_true (bne0 he)]
          refine .inr ?_
          simp only [rdVs]
          rw [if_pos he]
          rfl
theorem f584q (vs : List Vol) (hV2 : vs.length ≤ 6) (h : ∀ v ∈ vs, v.2.length ≤ 60 ∧ ∀ b ∈ v.2, (bL b).length = 64 ∧ 1 ≤ bsz (bL b) ∧ bsz (bL b) ≤ 52) :
    f584F 1000 vs = some (S (vs.flatMap fun v => v.2.flatMap pay)) := by
  unfold f584F f584l1
  refine (iter_list (A := List UInt8) vs (fun i a => (vs, S a, (i : Int), ())) (fun m a => some (S (a ++ m.flatMap fun v => v.2.flatMap pay))) (fun i a => a.length ≤ 3120 * i) ?_ ?_ (k := 1000) (by omega) [] (by simp)).trans rfl
  · intro rec a _
    unfold f584l1s
    simp only [ltn_self, cond_false, List.flatMap_nil, List.append_nil]
  · intro rec i a v hv hi hp
    obtain ⟨hb, hok⟩ := h v (List.mem_of_getElem? hv)
    have hpl := pays_len hok
    unfold f584l1s f584l0
    simp only [ltn hi, cond_true]
    have key := iter_list (Step := fun rec' v => f584l0s 1000 rec' (fun w4 => rec (w4.1, w4.2.1, (IntKind.i64.wrap (w4.2.2.1 + (1 : Int))), ())) v) (A := List UInt8) v.2 (fun k a => (vs, S a, (i : Int), (k : Int), ())) (fun m a => rec (vs, S (a ++ m.flatMap pay), ((i + 1 : Nat) : Int), ())) (fun k a => a.length ≤ 50000 + 52 * k) ?_ ?_ (k := 1000) (by omega) a (by omega)
    · refine .inl ⟨a ++ v.2.flatMap pay, by rw [List.length_append]; omega, key, ?_⟩
      simp only [List.flatMap_cons, List.append_assoc]
    · intro rec' a _
      unfold f584l0s
      simp only [inb hi, cond_true, Int.toNat_natCast, getD_of hv, ltn_self, cond_false, wi_succ (i := i) (by omega), List.flatMap_nil, List.append_nil]
    · intro rec' k a b hb' hk hp
      obtain ⟨o1, o2, o3⟩ := hok b (List.mem_of_getElem? hb')
      have hpl := pay_len ⟨o1, o2, o3⟩
      have hsz : b.size = 64 := by rw [← S_bL b, S_size, o1]
      have hb3 := S_bt (bL b) 3 (by omega)
      rw [S_bL, show ((3 : Nat) : Int) = 3 from rfl] at hb3
      have ew : IntKind.i64.wrap (4 + (bsz (bL b) : Int)) = ((4 + bsz (bL b) : Nat) : Int) := by rw [show (4 : Int) + (bsz (bL b) : Int) = ((4 + bsz (bL b) : Nat) : Int) by omega]; exact wi (by omega) (by omega)
      have d3 : decide ((3 : Int) < (b.size : Int)) = true := by rw [hsz]; rfl
      have s1 : sliceBds (4 : Int) ((4 + bsz (bL b) : Nat) : Int) (b.size : Int) = true := by rw [hsz]; exact sliceB (a := 4) (n := 64) (by omega) (by omega)
      unfold f584l0s
      simp only [ltn hi, cond_true, Int.toNat_natCast, getD_of hv, ltn hk, nn, Bool.and_self, getD_of hb', d3, hb3, wi_byte, tmod_byte, show ((bL b).getD 3 0).toNat % 128 = bsz (bL b) from rfl, ew, s1, ext_pay, S_app, S_size, wi_succ (i := k) (by omega)]
      rw [bif_true (by simp; omega)]
      refine .inl ⟨a ++ pay b, by rw [List.length_append]; omega, rfl, ?_⟩
      simp only [List.flatMap_cons, List.append_assoc]
theorem f540q (vs : List Vol) : f540F 1000 vs = some (match rd vs with | .inl (i, k, e) => ([], e) | .inr d => tblsIn d) := by
  unfold f540F
  rw [f539q, bind_some']
  match hr : rd vs with
  | .inl (i, k, e) => simp only; rw [bif_true (bne0 (rd_err hr))]
  | .inr d =>
    obtain ⟨h1, h2, h3, h4⟩ := rd_ok hr
    have hl := rd_len hr
    simp only [bne00, cond_false]
    rw [f584q vs h2 h4, bind_some', ← h3, f533q d (by omega), bind_some']

/-! ### Few volumes -/
def fewV (v : Vol) : Bool := decide (v.2.length ≤ 62) && v.2.all fun b => decide (b.size ≤ 84)
def fewVs (vs : List Vol) : Bool := decide (vs.length ≤ 8) && vs.all fewV
theorem f535q (vs : List Vol) : f535F 1000 vs = some (fewVs vs) := by
  unfold f535F fewVs
  by_cases h8 : vs.length > 8
  · have : decide (vs.length ≤ 8) = false := by simp; omega
    rw [bif_true (by simp; omega), this]; rfl
  · have : decide (vs.length ≤ 8) = true := by simp; omega
    rw [bif_false (by simp; omega), this, Bool.true_and]
    unfold f535l1
    refine iter_list (A := Unit) vs (fun i a => (vs, (i : Int), ())) (fun m a => some (m.all fewV)) (fun _ _ => True) ?_ ?_ (k := 1000) (by omega) () trivial
    · intro rec a _
      unfold f535l1s
      simp only [ltn_self, cond_false]
      rfl
    · intro rec i a v hv hi _
      unfold f535l1s
      simp only [ltn hi, nn, Bool.and_self, cond_true, Int.toNat_natCast, getD_of hv]
      by_cases h62 : v.2.length > 62
      · refine .inr ?_
        have : fewV v = false := by unfold fewV; rw [decide_eq_false (by omega)]; rfl
        rw [bif_true (by simp; omega), List.all_cons, this]; rfl
      · rw [bif_false (by simp; omega)]
        unfold f535l0
        have key := iter_list (Step := fun rec' v => f535l0s 1000 rec' (fun w4 => some w4.2.1) (fun w5 => rec (w5.1, (IntKind.i64.wrap (w5.2.1 + (1 : Int))), ())) v) (A := Unit) v.2 (fun k _ => (vs, (i : Int), (k : Int), ())) (fun m _ => bif (m.all fun b => decide (b.size ≤ 84)) then rec (vs, ((i + 1 : Nat) : Int), ()) else some false) (fun _ _ => True) ?_ ?_ (k := 1000) (by omega) () trivial
        · by_cases hf : (v.2.all fun b => decide (b.size ≤ 84)) = true
          · have h2 : fewV v = true := by unfold fewV; rw [hf, decide_eq_true (by omega)]; rfl
            refine .inl ⟨(), trivial, key.trans (by rw [bif_true hf]), ?_⟩
            rw [List.all_cons, h2]; rfl
          · have h2 : fewV v = false := by unfold fewV; rw [Bool.eq_false_iff.2 hf, Bool.and_false]
            refine .inr (key.trans ?_)
            rw [bif_false (Bool.eq_false_iff.2 hf), List.all_cons, h2]; rfl
        · intro rec' a _
          unfold f535l0s
          simp only [inb hi, cond_true, Int.toNat_natCast, getD_of hv, ltn_self, cond_false, wi_succ (i := i) (by omega), List.all_nil]
        · intro rec' k a b hb hk _
          unfold f535l0s
          simp only [ltn hi, cond_true, Int.toNat_natCast, getD_of hv, ltn hk, nn, Bool.and_self, getD_of hb, wi_succ (i := k) (by omega), List.all_cons]
          by_cases h84 : b.size > 84
          · refine .inr ?_
            rw [bif_true (by simp; omega), decide_eq_false (show ¬ b.size ≤ 84 by omega)]
            rfl
          · refine .inl ⟨(), trivial, by rw [bif_false (by simp; omega)], ?_⟩
            rw [decide_eq_true (show b.size ≤ 84 by omega), Bool.true_and]
theorem f537q (vs : List Vol) (h : vs.length ≤ 900) (h2 : ∀ v ∈ vs, v.2.length ≤ 900) : f537F 1000 vs = some vs := by
  unfold f537F f537l0
  refine (iter_list (A := List Vol) vs (fun i a => (vs, (i : Int), a, ())) (fun m a => some (a ++ m)) (fun i a => a.length = i) ?_ ?_ (k := 1000) (by omega) [] rfl).trans rfl
  · intro rec a _
    unfold f537l0s
    simp only [ltn_self, cond_false, List.append_nil]
  · intro rec i a v hv hi hp
    unfold f537l0s
    simp only [ltn hi, nn, Bool.and_self, cond_true, Int.toNat_natCast, getD_of hv, f522q v.2 (by have := h2 v (List.mem_of_getElem? hv); omega), bind_some', wi_succ (i := i) (by omega)]
    rw [bif_true (by simp; omega)]
    refine .inl ⟨a ++ [v], by simp [hp], rfl, by simp⟩
theorem fewVs_ok {vs : List Vol} (h : fewVs vs = true) : vs.length ≤ 8 ∧ ∀ v ∈ vs, v.2.length ≤ 62 := by
  unfold fewVs at h
  simp only [Bool.and_eq_true, decide_eq_true_eq, List.all_eq_true] at h
  refine ⟨h.1, fun v hv => ?_⟩
  have := h.2 v hv
  unfold fewV at this
  simp only [Bool.and_eq_true, decide_eq_true_eq] at this
  exact this.1
theorem f534n : f534F 1000 ([], []) = some true := f534q [] (by simp) (by simp)
theorem checks (x : List Vol) : f508F 1000 x = some true := by
  unfold f508F
  rw [awake34]
  simp only [bind_some', Bool.not_true, cond_false]
  rw [f535q, bind_some']
  cases hf : fewVs x with
  | false => rfl
  | true =>
    obtain ⟨h1, h2⟩ := fewVs_ok hf
    simp only [Bool.not_true, cond_false]
    rw [f537q x (by omega) (fun v hv => by have := h2 v hv; omega)]
    simp only [bind_some']
    rw [f536q, f538q, f539q, f540q]
    simp only [bind_some']
    match rd x with
    | .inl (i, k, e) => simp only [beq_self_eq_true, cond_true, f534n, bind_some']
    | .inr d => simp only [beq_self_eq_true, cond_true, f534r, bind_some']
end Go.Proofs.YtobgkcamonlnkaaGreatDoor
