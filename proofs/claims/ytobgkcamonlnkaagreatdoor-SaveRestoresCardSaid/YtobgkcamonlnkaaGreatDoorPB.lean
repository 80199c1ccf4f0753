/- Joined texts. -/
import Derived.Test.YtobgkcamonlnkaaGreatDoorPA
import Derived.Test.YtobgkcamonlnkaaGreatDoorFcJ
set_option linter.unusedVariables false
set_option linter.unusedSimpArgs false
namespace Go.Proofs.YtobgkcamonlnkaaGreatDoor
open Go.Ab

end Go.Proofs.YtobgkcamonlnkaaGreatDoor
set_option linter.unusedVariables false
set_option linter.unusedSimpArgs false
namespace Go.Proofs.YtobgkcamonlnkaaGreatDoor
open Go.Ab

end Go.Proofs.YtobgkcamonlnkaaGreatDoor
set_option linter.unusedVariables false
set_option linter.unusedSimpArgs false
namespace Go.Proofs.YtobgkcamonlnkaaGreatDoor
open Go.Ab

theorem f629q (nm : ByteArray) (fs : List Fld) (h : fs.length ≤ 900) : f629F 1000 ((nm, fs), (nm, fs)) = some true := by
  unfold f629F
  simp only [strEq_self, Bool.not_true, cond_false, len_eq (rfl : fs.length = fs.length)]
  unfold f629l0
  refine iter_list (k := 1000) (A := Unit) fs (fun i _ => ((i : Int), nm, fs, nm, fs, ())) (fun m _ => some true) (fun i a => True) ?_ ?_ (by omega) () trivial
  · intro rec a _
    unfold f629l0s
    simp only [ltn_self, cond_false]
  · intro rec i a x hx hi _
    unfold f629l0s
    simp only [ltn hi, nn, Bool.and_self, cond_true, Int.toNat_natCast, getD_of hx, wi_succ (i := i) (by omega), strEq_self, beq_self_eq_true, Bool.not_true, cond_false]
    exact .inl ⟨(), trivial, trivial, trivial⟩
theorem f591q (f : Fil) (h : f.2.1.2.length ≤ 900) (h2 : f.2.2.1.length ≤ 900) : f591F 1000 (f, f) = some true := by
  obtain ⟨fn, ⟨nm, fs⟩, ks, u⟩ := f
  unfold f591F
  simp only at h h2
  simp only [strEq_self, Bool.not_true, cond_false, beq_self_eq_true, f629q nm fs h, bind_some', len_eq (rfl : ks.length = ks.length)]
  unfold f591l0
  refine iter_list (k := 1000) (A := Unit) ks (fun i _ => ((i : Int), fn, nm, fs, ks, u, fn, nm, fs, ks, u, ())) (fun m _ => some true) (fun i a => True) ?_ ?_ (by omega) () trivial
  · intro rec a _
    unfold f591l0s
    simp only [ltn_self, cond_false]
  · intro rec i a x hx hi _
    unfold f591l0s
    simp only [ltn hi, nn, Bool.and_self, cond_true, Int.toNat_natCast, getD_of hx, wi_succ (i := i) (by omega), strEq_self, beq_self_eq_true, Bool.not_true, cond_false]
    exact .inl ⟨(), trivial, trivial, trivial⟩
theorem f546q (t : Tbl) (h : t.1.2.1.2.length ≤ 900) (h2 : t.1.2.2.1.length ≤ 900) (h3 : t.2.length ≤ 900) : f546F 1000 (t, t) = some true := by
  unfold f546F
  rw [show ((t.1.1, ((t.1.2.1.1, t.1.2.1.2), (t.1.2.2.1, t.1.2.2.2))) : Fil) = t.1 from rfl, f591q t.1 h h2, bind_some', cond_true, f575q t.2 t.2 h3, bind_some']
  simp
theorem ts_few {l : List Tbl} (h : (chkTs l).2 = 0) : l.length ≤ 900 ∧ ∀ t ∈ l, t.1.2.1.2.length ≤ 900 ∧ t.1.2.2.1.length ≤ 900 ∧ t.2.length ≤ 900 := by
  refine ⟨by have := (ts_ok h).1; omega, fun t ht => ?_⟩
  have h1 := tbl_ok (ts_mem h ht)
  obtain ⟨h2, -, h3, -⟩ := file_sizes h1.1
  exact ⟨by omega, by omega, by omega⟩
theorem tblsIn_ok (L : List UInt8) : (tblsIn L).1 = [] ∨ (chkTs (tblsIn L).1).2 = 0 ∧ (tblsIn L).2 = 0 := by
  unfold tblsIn
  match PE.bd (pNum 8 L) fun n l => pMany pTable n l with
  | .error e => exact .inl rfl
  | .ok (ts, t) =>
    by_cases ht : t = []
    · by_cases hc : (chkTs ts).2 = 0
      · refine .inr ?_
        show (chkTs (if t ≠ [] then ([], 10) else if (chkTs ts).2 ≠ 0 then ([], (chkTs ts).2) else (ts, 0) : List Tbl × Int).1).2 = 0 ∧ (if t ≠ [] then ([], 10) else if (chkTs ts).2 ≠ 0 then ([], (chkTs ts).2) else (ts, 0) : List Tbl × Int).2 = 0
        rw [if_neg (fun c => c ht), if_neg (fun c => c hc)]
        exact ⟨hc, rfl⟩
      · refine .inl ?_
        show (if t ≠ [] then ([], 10) else if (chkTs ts).2 ≠ 0 then ([], (chkTs ts).2) else (ts, 0) : List Tbl × Int).1 = []
        rw [if_neg (fun c => c ht), if_pos hc]
    · refine .inl ?_
      show (if t ≠ [] then ([], 10) else if (chkTs ts).2 ≠ 0 then ([], (chkTs ts).2) else (ts, 0) : List Tbl × Int).1 = []
      rw [if_pos ht]
end Go.Proofs.YtobgkcamonlnkaaGreatDoor
set_option linter.unusedVariables false
set_option linter.unusedSimpArgs false
namespace Go.Proofs.YtobgkcamonlnkaaGreatDoor
open Go.Ab

def val (l : List UInt8) : Int := l.foldl (fun a b => a * 256 + (b.toNat : Int)) 0
theorem val_snoc (l : List UInt8) (b : UInt8) : val (l ++ [b]) = val l * 256 + (b.toNat : Int) := by unfold val; rw [List.foldl_append]; rfl
theorem low_succ (n : Int) : ∀ (L : Nat), low 256 n (L + 1) = low 256 (n / 256) L ++ [n % 256]
  | 0 => by simp [low]
  | L + 1 => by
    have e : n / 256 ^ (L + 1) = n / 256 / 256 ^ L := by
      rw [Int.ediv_ediv_of_nonneg (by decide), Int.pow_succ, Int.mul_comm]
    rw [low, low_succ n L, e]
    rfl
theorem bg_succ (n : Int) (L : Nat) : bg n (L + 1) = bg (n / 256) L ++ [oneB n] := by
  unfold bg
  rw [low_succ, List.map_append]
  rfl
theorem bg_val : ∀ (L : Nat) (l : List UInt8), l.length = L → bg (val l) L = l := by
  intro L
  induction L with
  | zero => intro l h; rw [List.length_eq_zero_iff.1 h]; rfl
  | succ L ih =>
    intro l h
    have hne : l ≠ [] := by intro c; rw [c] at h; simp at h
    have h1 := ih l.dropLast (by simp [h])
    have hb := byte_rng (l.getLast hne)
    conv => lhs; rw [← List.dropLast_concat_getLast hne, val_snoc, bg_succ]
    have e1 : (val l.dropLast * 256 + ((l.getLast hne).toNat : Int)) / 256 = val l.dropLast := by omega
    have e2 : oneB (val l.dropLast * 256 + ((l.getLast hne).toNat : Int)) = l.getLast hne := by
      refine UInt8.toNat_inj.1 ?_
      have := oneB_int (val l.dropLast * 256 + ((l.getLast hne).toNat : Int))
      omega
    rw [e1, e2, h1, List.dropLast_concat_getLast]
theorem val_bg : ∀ (L : Nat) (n : Int), 0 ≤ n → n < 256 ^ L → val (bg n L) = n := by
  intro L
  induction L with
  | zero => intro n h0 h1; have : n = 0 := by have e : (256 : Int) ^ 0 = 1 := rfl; omega
            subst this; rfl
  | succ L ih =>
    intro n h0 h1
    have e : (256 : Int) ^ (L + 1) = 256 ^ L * 256 := Int.pow_succ ..
    rw [bg_succ, val_snoc, ih (n / 256) (by omega) (by omega), oneB_int]
    omega
theorem bg_iff {n : Int} {l : List UInt8} (h0 : 0 ≤ n) (h1 : n < 256 ^ l.length) : bg n l.length = l ↔ val l = n :=
  ⟨fun h => by rw [← h, val_bg _ _ h0 h1], fun h => by rw [← h, bg_val _ _ rfl]⟩

def zs (l : List UInt8) : Bool := l.all fun b => b == 0
theorem dw_nil (l : List UInt8) : l.dropWhile (fun b => b == 0) = [] ↔ zs l = true := by
  unfold zs
  induction l with
  | nil => simp
  | cons b l ih =>
    by_cases h : b = 0
    · simp [List.dropWhile, h, ih]
    · have : (b == 0) = false := by simpa using h
      simp [List.dropWhile, this]
theorem zs_rev (l : List UInt8) : zs l.reverse = zs l := by unfold zs; rw [List.all_reverse]
theorem trim_nil (l : List UInt8) : Lib.trimB l 0 = [] ↔ zs l = true := by
  unfold Lib.trimB Lib.trimLeftB Lib.trimRightB
  constructor
  · intro h
    rw [dw_nil, zs_rev] at h
    by_cases hz : zs l.reverse = true
    · rwa [zs_rev] at hz
    · exfalso
      have : l.reverse.dropWhile (fun b => b == 0) ≠ [] := fun c => hz ((dw_nil _).1 c)
      match hd : l.reverse.dropWhile (fun b => b == 0) with
      | [] => exact this hd
      | b :: t =>
        rw [hd] at h
        have hb : (b == 0) = false := by
          have := List.head_dropWhile_not (p := fun b : UInt8 => b == 0) (l := l.reverse) (by rw [hd]; simp)
          simpa [hd] using this
        unfold zs at h
        rw [List.all_cons, hb] at h
        exact absurd h (by simp)
  · intro h
    have h2 := (dw_nil l.reverse).2 (by rw [zs_rev, h])
    rw [h2]
    rfl
theorem f648q (l : List UInt8) (h : l.length ≤ 1000000) : f648F 1000 (S l) = some (zs l) := by
  unfold f648F f667F
  simp only [show (⟨#[0]⟩ : ByteArray).data.toList = [0] from rfl, S_list, S_size]
  rw [bif_true (by simp; omega), bind_some']
  show some (strEq (S (Lib.trimB l 0)) ByteArray.empty) = _
  rw [← S_nil, S_eq]
  congr 1
  rw [Bool.eq_iff_iff, decide_eq_true_eq, trim_nil]
end Go.Proofs.YtobgkcamonlnkaaGreatDoor
set_option linter.unusedVariables false
set_option linter.unusedSimpArgs false
namespace Go.Proofs.YtobgkcamonlnkaaGreatDoor
open Go.Ab

def bsz (l : List UInt8) : Nat := (l.getD 3 0).toNat % 128
def bsay (l : List UInt8) : Bool := decide (128 ≤ (l.getD 3 0).toNat)
def frmB (l : List UInt8) (last : Bool) : Bool :=
  decide (1 ≤ bsz l ∧ bsz l ≤ 52) && (last || decide (52 ≤ bsz l)) && (zs ((l.take 56).drop (4 + bsz l)) && zs ((l.take 60).drop 57))
def ordB (l : List UInt8) (vol num : Int) : Bool := decide (((l.getD 0 0).toNat : Int) = vol) && decide (val ((l.drop 1).take 2) = num)
def blkE (l : List UInt8) (vol num vols : Int) (last : Bool) : Int :=
  if l.length ≠ 64 then 18
  else if val (l.drop 60) ≠ sumG 1 (l.take 60) then 33
  else if frmB l last = false then 5
  else if ordB l vol num = false then 14
  else if ((l.getD 56 0).toNat : Int) ≠ vols then 6
  else if bsay l = true then (if last = true then 0 else 10) else if last = true then 9 else 0

theorem and127 : ∀ x : Fin 256, bits .and .u8 (x.val : Int) 127 = (x.val % 128 : Nat) := by decide +kernel
theorem and127' (b : UInt8) : bits .and .u8 (b.toNat : Int) 127 = ((b.toNat % 128 : Nat) : Int) := and127 ⟨b.toNat, by have := byte_rng b; omega⟩
theorem f621q (l : List UInt8) (vol vols : Int) {num : Int} (hn : 0 ≤ num) (hn2 : num < 65536) (last : Bool) :
    f621F 1000 (S l, vol, num, vols, last) = some (if blkE l vol num vols last = 0 then ((bsz l : Int), 0) else (0, blkE l vol num vols last)) := by
  unfold f621F blkE
  simp only [S_size]
  by_cases hl : l.length = 64
  · rw [bif_false (by rw [hl]; rfl)]
    simp only [hl, ne_eq, not_true_eq_false, if_false]
    have e1 : f562F 1000 (S (l.take 60)) = some (sumG 1 (l.take 60)) := f562q _ (by rw [List.length_take]; omega)
    have hb3 := S_bt l 3 (by omega)
    rw [show ((3 : Nat) : Int) = 3 from rfl] at hb3
    have hb0 := S_bt l 0 (by omega)
    rw [show ((0 : Nat) : Int) = 0 from rfl] at hb0
    have hb56 := S_bt l 56 (by omega)
    rw [show ((56 : Nat) : Int) = 56 from rfl] at hb56
    have sr := sumG_rng (l.take 60) 1 (by decide) (by decide)
    have e2 : f561F 1000 (sumG 1 (l.take 60), (4 : Int)) = some (ints (bg (sumG 1 (l.take 60)) 4)) := f561q (L := 4) (by omega) (by omega) (by omega)
    have hl60 : (l.take 60).length = 60 := by rw [List.length_take]; omega
    rw [bif_true (by exact sliceB0 (b := 60) (n := 64) (by omega)), S_cut, List.drop_zero, e1, bind_some', e2, bind_some', S_size, hl60, bif_true (by exact sliceB (a := 60) (b := 64) (n := 64) (by omega) (by omega)), S_cut, S_back]
    simp only [show Int.toNat ((60 : Nat) : Int) = 60 from rfl, show Int.toNat ((64 : Nat) : Int) = 64 from rfl]
    rw [List.take_of_length_le (show l.length ≤ 64 by omega), S_eq]
    have h4 : (256 : Int) ^ (l.drop 60).length = 4294967296 := by rw [List.length_drop, hl]; decide
    have hi := bg_iff (n := sumG 1 (l.take 60)) (l := l.drop 60) sr.1 (by omega)
    rw [List.length_drop, hl, show 64 - 60 = 4 from rfl] at hi
    by_cases hc : val (l.drop 60) = sumG 1 (l.take 60)
    · rw [bif_false (by rw [hi.2 hc]; simp)]
      simp only [hc, not_true_eq_false, if_false]
      rw [bif_true (show decide ((3 : Int) < ((64 : Nat) : Int)) = true from rfl), bif_true (show decide ((3 : Int) < ((64 : Nat) : Int)) = true from rfl), hb3, and127']
      rw [show decide (((l.getD 3 0).toNat : Int) ≥ 128) = bsay l by unfold bsay; congr 1; apply propext; omega, show (l.getD 3 0).toNat % 128 = bsz l from rfl]
      have hs : bsz l < 128 := Nat.mod_lt _ (by decide)
      rw [wi (x := (bsz l : Int)) (by omega) (by omega)]
      have hn3 := f561q (n := num) (L := 2) hn (by omega) (by omega)
      rw [show ((2 : Nat) : Int) = 2 from rfl] at hn3
      have e12 : ((l.drop 1).take 2).length = 2 := by rw [List.length_take, List.length_drop]; omega
      have h2p : (256 : Int) ^ ((l.drop 1).take 2).length = 65536 := by rw [e12]; decide
      have hi2 := bg_iff (n := num) (l := (l.drop 1).take 2) hn (by omega)
      rw [e12] at hi2
      have rest : frmB l last = true → f621p1 1000 (fun (w13 : Int × Int × Int × Unit) => some (w13.1, w13.2.1)) (fun (w14 : Int × Unit) => some (w14.1, (0 : Int))) (S l, vol, num, vols, last, (bsz l : Int), bsay l, ()) =
          some (if (if ordB l vol num = false then 14 else if ¬((l.getD 56 0).toNat : Int) = vols then 6 else if bsay l = true then (if last = true then 0 else 10) else if last = true then 9 else 0 : Int) = 0 then ((bsz l : Int), 0)
            else (0, if ordB l vol num = false then 14 else if ¬((l.getD 56 0).toNat : Int) = vols then 6 else if bsay l = true then (if last = true then 0 else 10) else if last = true then 9 else 0)) := by
        intro hf
        unfold f621p1
        simp only [S_size, hl]
        have sA : sliceBds 1 3 ((64 : Nat) : Int) = true := sliceB (a := 1) (b := 3) (n := 64) (by omega) (by omega)
        simp only [show decide ((0 : Int) < ((64 : Nat) : Int)) = true from rfl, show decide ((56 : Int) < ((64 : Nat) : Int)) = true from rfl, cond_true, hb0, hb56, wi_byte, sA, hn3, bind_some', S_cut, S_back, S_eq]
        rw [show (l.take 3).drop 1 = (l.drop 1).take 2 by rw [List.drop_take]]
        unfold ordB
        by_cases h0 : ((l.getD 0 0).toNat : Int) = vol
        · rw [bif_false (by simpa using h0)]
          by_cases h1 : val ((l.drop 1).take 2) = num
          · rw [bif_false (by rw [hi2.2 h1]; simp)]
            simp only [h0, h1, decide_true, Bool.and_self, Bool.true_eq_false, if_false]
            by_cases h2 : ((l.getD 56 0).toNat : Int) = vols
            · rw [bif_false (by simpa using h2)]
              simp only [h2, not_true_eq_false, if_false]
              cases bsay l <;> cases last <;> rfl
            · rw [bif_true (by simpa using h2)]
              simp only [h2, not_false_eq_true, if_true]
              rfl
          · have h3 : ¬ (l.drop 1).take 2 = bg num 2 := fun c => h1 (hi2.1 c.symm)
            rw [bif_true (by simpa using h3)]
            have : decide (val ((l.drop 1).take 2) = num) = false := by simpa using h1
            rw [this, Bool.and_false]
            rfl
        · rw [bif_true (by simpa using h0)]
          have : decide (((l.getD 0 0).toNat : Int) = vol) = false := by simpa using h0
          rw [this]
          rfl
      unfold f621p0
      simp only [S_size, hl, hl60]
      by_cases h1 : 1 ≤ bsz l ∧ bsz l ≤ 52
      · have ea : decide ((bsz l : Int) < 1) = false := by simp; omega
        have eb : decide ((bsz l : Int) > 52) = false := by simp; omega
        have ew : IntKind.i64.wrap (4 + (bsz l : Int)) = ((4 + bsz l : Nat) : Int) := by rw [show (4 : Int) + (bsz l : Int) = ((4 + bsz l : Nat) : Int) by omega]; exact wi (by omega) (by omega)
        have s1 : sliceBds ((4 + bsz l : Nat) : Int) 56 ((64 : Nat) : Int) = true := sliceB (b := 56) (n := 64) (by omega) (by omega)
        have s2 : sliceBds 57 ((60 : Nat) : Int) ((64 : Nat) : Int) = true := sliceB (a := 57) (b := 60) (n := 64) (by omega) (by omega)
        have z1 := f648q ((l.take 56).drop (4 + bsz l)) (by rw [List.length_drop, List.length_take]; omega)
        have z2 := f648q ((l.take 60).drop 57) (by rw [List.length_drop, List.length_take]; omega)
        simp only [ea, eb, cond_false, ew, s1, s2, cond_true, S_cut, Int.toNat_natCast, z1, z2, bind_some']
        by_cases h2 : bsz l < 52
        · have : decide ((bsz l : Int) < 52) = true := by simp; omega
          rw [bif_true this]
          have hd : decide (52 ≤ bsz l) = false := by simp; omega
          cases last with
          | false =>
            have hf : frmB l false = false := by unfold frmB; simp [hd]
            rw [hf]; rfl
          | true =>
            cases hz1 : zs ((l.take 56).drop (4 + bsz l)) with
            | false =>
              have hf : frmB l true = false := by unfold frmB; simp [hz1]
              rw [hf]; rfl
            | true =>
              cases hz2 : zs ((l.take 60).drop 57) with
              | false =>
                have hf : frmB l true = false := by unfold frmB; simp [hz2]
                rw [hf]; rfl
              | true =>
                have hf : frmB l true = true := by unfold frmB; simp [hz1, hz2, h1]
                have hr := rest hf
                simp only [Bool.not_true, cond_false]
                rw [hf]
                exact hr
        · have : decide ((bsz l : Int) < 52) = false := by simp; omega
          rw [bif_false this]
          have hd : decide (52 ≤ bsz l) = true := by simp; omega
          cases hz1 : zs ((l.take 56).drop (4 + bsz l)) with
          | false =>
            have hf : frmB l last = false := by unfold frmB; simp [hz1]
            rw [hf]; rfl
          | true =>
            cases hz2 : zs ((l.take 60).drop 57) with
            | false =>
              have hf : frmB l last = false := by unfold frmB; simp [hz2]
              rw [hf]; rfl
            | true =>
              have hf : frmB l last = true := by unfold frmB; simp [hz1, hz2, h1, hd]
              have hr := rest hf
              simp only [Bool.not_true, cond_false]
              rw [hf]
              exact hr
      · have hf : frmB l last = false := by unfold frmB; simp [h1]
        rw [hf]
        by_cases h2 : bsz l < 1
        · rw [bif_true (by simp; omega)]
          rfl
        · rw [bif_false (by simp; omega), bif_true (by simp; omega)]
          rfl
    · have h3 : ¬ bg (sumG 1 (l.take 60)) 4 = l.drop 60 := fun c => hc (hi.1 c)
      rw [bif_true (by simpa using h3)]
      simp only [hc, not_false_eq_true, if_true]
      rfl
  · rw [bif_true (by simp; omega), if_pos (c := l.length ≠ 64) hl, if_neg (by decide)]
end Go.Proofs.YtobgkcamonlnkaaGreatDoor
set_option linter.unusedVariables false
set_option linter.unusedSimpArgs false
namespace Go.Proofs.YtobgkcamonlnkaaGreatDoor
open Go.Ab

def bL (b : ByteArray) : List UInt8 := b.data.toList
theorem bL_S (l : List UInt8) : bL (S l) = l := S_list l
theorem S_bL (b : ByteArray) : S (bL b) = b := S_of b
def pay (b : ByteArray) : List UInt8 := ((bL b).take (4 + bsz (bL b))).drop 4
def bE (V i n k num : Nat) (b : ByteArray) : Int := blkE (bL b) ((i + 1 : Nat) : Int) ((num + 1 : Nat) : Int) (V : Int) (i + 1 == V && k + 1 == n)
def rdBs (V i n : Nat) : List ByteArray → Nat → Nat → List UInt8 → (Nat × Int × Nat × List UInt8) ⊕ (Nat × List UInt8)
  | [], _, num, d => .inr (num, d)
  | b :: t, k, num, d => if bE V i n k num b ≠ 0 then .inl (k, bE V i n k num b, num + 1, d) else rdBs V i n t (k + 1) (num + 1) (d ++ pay b)
def volE (pre : List Vol) (v : Vol) : Int :=
  if isNm v.1 = false then 7 else if (pre.any fun y => strEq y.1 v.1) = true then 13 else if v.2.length > 60 then 2 else if v.2.length = 0 then 1 else 0
def rdVs (vs : List Vol) (V : Nat) : List Vol → Nat → Nat → List UInt8 → (Nat × Nat × Int × List UInt8) ⊕ List UInt8
  | [], _, _, d => .inr d
  | v :: t, i, num, d => if volE (vs.take i) v ≠ 0 then .inl (i, 0, volE (vs.take i) v, d) else
    match rdBs V i v.2.length v.2 0 num d with
    | .inl (k, e, _, d') => .inl (i, k, e, d')
    | .inr (nu, d') => rdVs vs V t (i + 1) nu d'
def rd (vs : List Vol) : (Nat × Nat × Int) ⊕ List UInt8 :=
  if vs.length = 0 then .inl (0, 0, 1) else if vs.length > 6 then .inl (0, 0, 2) else
  match rdVs vs vs.length vs 0 0 [] with
  | .inl (i, k, e, _) => .inl (i, k, e)
  | .inr d => .inr d

theorem blkE_ok {l : List UInt8} {vol num vols : Int} {last : Bool} (h : blkE l vol num vols last = 0) : l.length = 64 ∧ 1 ≤ bsz l ∧ bsz l ≤ 52 := by
  unfold blkE at h
  by_cases h1 : l.length = 64
  · rw [if_neg (fun c => c h1)] at h
    by_cases h2 : val (l.drop 60) = sumG 1 (l.take 60)
    · rw [if_neg (fun c => c h2)] at h
      cases h3 : frmB l last with
      | false => rw [h3, if_pos rfl] at h; exact absurd h (by decide)
      | true =>
        unfold frmB at h3
        simp only [Bool.and_eq_true, decide_eq_true_eq] at h3
        exact ⟨h1, h3.1.1.1, h3.1.1.2⟩
    · rw [if_pos h2] at h; exact absurd h (by decide)
  · rw [if_pos h1] at h; exact absurd h (by decide)
theorem bE_ok {V i n k num : Nat} {b : ByteArray} (h : bE V i n k num b = 0) : (bL b).length = 64 ∧ 1 ≤ bsz (bL b) ∧ bsz (bL b) ≤ 52 := blkE_ok h
theorem ext_pay (b : ByteArray) : b.extract 4 (4 + bsz (bL b)) = S (pay b) := by
  have := S_cut (bL b) 4 (4 + bsz (bL b))
  rw [S_bL] at this
  exact this
theorem pay_len {b : ByteArray} (h : (bL b).length = 64 ∧ 1 ≤ bsz (bL b) ∧ bsz (bL b) ≤ 52) : (pay b).length = bsz (bL b) := by
  unfold pay; rw [List.length_drop, List.length_take]; omega
theorem rdBs_ok {V i n : Nat} : ∀ {m : List ByteArray} {k num : Nat} {d : List UInt8} {nu : Nat} {d' : List UInt8}, rdBs V i n m k num d = .inr (nu, d') →
    nu = num + m.length ∧ d' = d ++ m.flatMap pay ∧ ∀ b ∈ m, (bL b).length = 64 ∧ 1 ≤ bsz (bL b) ∧ bsz (bL b) ≤ 52
  | [], k, num, d, nu, d', h => by
    unfold rdBs at h; cases h
    exact ⟨rfl, by simp, by simp⟩
  | b :: m, k, num, d, nu, d', h => by
    unfold rdBs at h
    by_cases he : bE V i n k num b = 0
    · rw [if_neg (fun c => c he)] at h
      obtain ⟨h1, h2, h3⟩ := rdBs_ok h
      refine ⟨by simp only [List.length_cons]; omega, by rw [h2, List.append_assoc]; rfl, fun x hx => ?_⟩
      rcases List.mem_cons.1 hx with rfl | hx
      · exact bE_ok he
      · exact h3 x hx
    · rw [if_pos he] at h; cases h
theorem pays_len : ∀ {m : List ByteArray}, (∀ b ∈ m, (bL b).length = 64 ∧ 1 ≤ bsz (bL b) ∧ bsz (bL b) ≤ 52) → (m.flatMap pay).length ≤ 52 * m.length := fun h =>
  flat_len pay 52 _ fun x hx => by rw [pay_len (h x hx)]; exact (h x hx).2.2
theorem volE_ok {pre : List Vol} {v : Vol} (h : volE pre v = 0) : isNm v.1 = true ∧ 1 ≤ v.2.length ∧ v.2.length ≤ 60 := by
  unfold volE at h
  cases h1 : isNm v.1 with
  | false => rw [h1, if_pos rfl] at h; exact absurd h (by decide)
  | true =>
    rw [h1, if_neg (by decide)] at h
    cases h2 : (pre.any fun y => strEq y.1 v.1) with
    | true => rw [h2, if_pos rfl] at h; exact absurd h (by decide)
    | false =>
      rw [h2, if_neg (by decide)] at h
      by_cases h3 : v.2.length > 60
      · rw [if_pos h3] at h; exact absurd h (by decide)
      · rw [if_neg h3] at h
        by_cases h4 : v.2.length = 0
        · rw [if_pos h4] at h; exact absurd h (by decide)
        · exact ⟨rfl, by omega, by omega⟩

theorem f622a (m : List UInt8) (h : m.length ≤ 1000000) : f622v0F 1000 (S m, ()) = some ((m.length : Int), ints m, ()) := by
  unfold f622v0F
  simp only [S_bytes, S_size]
  rw [bif_true (by simp [ints_length]; omega), List.nil_append]
theorem f622b (m d : List UInt8) (h : m.length + d.length ≤ 1000000) : f622v1F 1000 (S m, ints d, ()) = some ((m.length : Int), ints (d ++ m), ()) := by
  unfold f622v1F
  simp only [S_bytes, S_size]
  rw [bif_true (by simp [ints_length]; omega), ints_app]

theorem lastB {R : Type} {V i n k : Nat} (hV : 1 ≤ V) (hV2 : V ≤ 100) (hn : 1 ≤ n) (hn2 : n ≤ 100) (F : Bool → Option R) :
    (bif ((i : Int) == IntKind.i64.wrap ((V : Int) - 1)) then F ((k : Int) == IntKind.i64.wrap ((n : Int) - 1)) else F false) = F (i + 1 == V && k + 1 == n) := by
  have e1 : IntKind.i64.wrap ((V : Int) - 1) = ((V - 1 : Nat) : Int) := by rw [show (V : Int) - 1 = ((V - 1 : Nat) : Int) by omega]; exact wi (by omega) (by omega)
  have e2 : IntKind.i64.wrap ((n : Int) - 1) = ((n - 1 : Nat) : Int) := by rw [show (n : Int) - 1 = ((n - 1 : Nat) : Int) by omega]; exact wi (by omega) (by omega)
  rw [e1, e2]
  have e3 : ((i : Int) == ((V - 1 : Nat) : Int)) = (i + 1 == V) := by rw [Bool.eq_iff_iff]; simp; omega
  have e4 : ((k : Int) == ((n - 1 : Nat) : Int)) = (k + 1 == n) := by rw [Bool.eq_iff_iff]; simp; omega
  rw [e3, e4]
  cases (i + 1 == V) <;> rfl

theorem f581p1q {R : Type} (k0 : List Vol × ByteArray × Int × Int × Int × Int × Int × List Vol × Int × Int × List ByteArray × Int × Int × ByteArray × List ByteArray × List Int × Unit → Option R)
    (k1 : List Vol × Int × Int × List Vol × Int × Int × List ByteArray × Int × Int × ByteArray × List ByteArray × List Int × Unit → Option R)
    (vs xs : List Vol) (V2 i2 nb : Int) (i num k : Nat) (nm : ByteArray) (bl : List ByteArray) (d : List UInt8) (b : ByteArray) (hb : bl[k]? = some b)
    (hV : 1 ≤ vs.length) (hV2 : vs.length ≤ 6) (hi : i ≤ 6) (hbl : bl.length ≤ 60) (hnum : num ≤ 1000) (hd : d.length ≤ 100000) :
    f581p1 1000 k0 k1 (vs, (num : Int), (i : Int), xs, V2, i2, bl, nb, (k : Int), nm, bl, ints d, ()) =
      if bE vs.length i bl.length k num b ≠ 0 then k0 (vs, ByteArray.empty, (i : Int), (k : Int), bE vs.length i bl.length k num b, ((num + 1 : Nat) : Int), (i : Int), xs, V2, i2, bl, nb, (k : Int), nm, bl, ints d, ())
      else k1 (vs, ((num + 1 : Nat) : Int), (i : Int), xs, V2, i2, bl, nb, (k : Int), nm, bl, ints (d ++ pay b), ()) := by
  have hk := (List.getElem?_eq_some_iff.1 hb).1
  unfold f581p1
  simp only [inb hk, cond_true, Int.toNat_natCast, getD_of hb, wi_succ (i := i) (by omega), wi_succ (i := num) (by omega)]
  have key : ∀ last : Bool, (Option.bind (f621F 1000 (b, ((i + 1 : Nat) : Int), ((num + 1 : Nat) : Int), (vs.length : Int), last)) fun y16 =>
      bif (y16.2 != (0 : Int)) then
        k0 (vs, ByteArray.empty, (i : Int), (k : Int), y16.2, ((num + 1 : Nat) : Int), (i : Int), xs, V2, i2, bl, nb, (k : Int), nm, bl, ints d, ())
      else
      bif (sliceBds (4 : Int) (IntKind.i64.wrap ((4 : Int) + y16.1)) (b.size : Int)) then
        Option.bind (f622v1F 1000 (b.extract 4 (Int.toNat (IntKind.i64.wrap ((4 : Int) + y16.1))), ints d, ())) fun y18 =>
        k1 (vs, ((num + 1 : Nat) : Int), (i : Int), xs, V2, i2, bl, nb, (k : Int), nm, bl, y18.2.1, ())
      else none) = if blkE (bL b) ((i + 1 : Nat) : Int) ((num + 1 : Nat) : Int) (vs.length : Int) last ≠ 0 then k0 (vs, ByteArray.empty, (i : Int), (k : Int), blkE (bL b) ((i + 1 : Nat) : Int) ((num + 1 : Nat) : Int) (vs.length : Int) last, ((num + 1 : Nat) : Int), (i : Int), xs, V2, i2, bl, nb, (k : Int), nm, bl, ints d, ())
      else k1 (vs, ((num + 1 : Nat) : Int), (i : Int), xs, V2, i2, bl, nb, (k : Int), nm, bl, ints (d ++ pay b), ()) := by
    intro last
    have hq := f621q (bL b) ((i + 1 : Nat) : Int) (vs.length : Int) (num := ((num + 1 : Nat) : Int)) (by omega) (by omega) last
    rw [S_bL] at hq
    rw [hq, bind_some']
    by_cases he : blkE (bL b) ((i + 1 : Nat) : Int) ((num + 1 : Nat) : Int) (vs.length : Int) last = 0
    · rw [if_pos he, if_neg (fun c => c he)]
      obtain ⟨o1, o2, o3⟩ := blkE_ok he
      have ew : IntKind.i64.wrap (4 + (bsz (bL b) : Int)) = ((4 + bsz (bL b) : Nat) : Int) := by rw [show (4 : Int) + (bsz (bL b) : Int) = ((4 + bsz (bL b) : Nat) : Int) by omega]; exact wi (by omega) (by omega)
      have hsz : (b.size : Int) = ((64 : Nat) : Int) := by rw [← S_bL b, S_size, o1]
      have hpl := pay_len ⟨o1, o2, o3⟩
      rw [bif_false (by rfl)]
      simp only [ew, hsz]
      rw [bif_true (by exact sliceB (a := 4) (n := 64) (by omega) (by omega))]
      simp only [Int.toNat_natCast, ext_pay]
      rw [f622b (pay b) d (by omega), bind_some']
    · rw [if_neg he, if_pos he, bif_true (bne0 he)]
  have hl := lastB (R := R) (V := vs.length) (i := i) (n := bl.length) (k := k) hV (by omega) (by omega) (by omega) (fun last => Option.bind (f621F 1000 (b, ((i + 1 : Nat) : Int), ((num + 1 : Nat) : Int), (vs.length : Int), last)) fun y16 =>
      bif (y16.2 != (0 : Int)) then
        k0 (vs, ByteArray.empty, (i : Int), (k : Int), y16.2, ((num + 1 : Nat) : Int), (i : Int), xs, V2, i2, bl, nb, (k : Int), nm, bl, ints d, ())
      else
      bif (sliceBds (4 : Int) (IntKind.i64.wrap ((4 : Int) + y16.1)) (b.size : Int)) then
        Option.bind (f622v1F 1000 (b.extract 4 (Int.toNat (IntKind.i64.wrap ((4 : Int) + y16.1))), ints d, ())) fun y18 =>
        k1 (vs, ((num + 1 : Nat) : Int), (i : Int), xs, V2, i2, bl, nb, (k : Int), nm, bl, y18.2.1, ())
      else none)
  exact hl.trans (key _)
theorem f581p0q {R : Type} (k0 : List Vol × ByteArray × Int × Int × Int × Int × Int × List Vol × Int × Int × List ByteArray × Int × Int × ByteArray × List ByteArray × Unit → Option R)
    (k1 : List Vol × Int × Int × List Vol × Int × Int × List ByteArray × Int × Int × ByteArray × List ByteArray × List Int × Unit → Option R)
    (vs xs : List Vol) (V2 i2 nb : Int) (i num k : Nat) (nm : ByteArray) (bl : List ByteArray) (b : ByteArray) (hb : bl[k]? = some b)
    (hV : 1 ≤ vs.length) (hV2 : vs.length ≤ 6) (hi : i ≤ 6) (hbl : bl.length ≤ 60) (hnum : num ≤ 1000) :
    f581p0 1000 k0 k1 (vs, (num : Int), (i : Int), xs, V2, i2, bl, nb, (k : Int), nm, bl, ()) =
      if bE vs.length i bl.length k num b ≠ 0 then k0 (vs, ByteArray.empty, (i : Int), (k : Int), bE vs.length i bl.length k num b, ((num + 1 : Nat) : Int), (i : Int), xs, V2, i2, bl, nb, (k : Int), nm, bl, ())
      else k1 (vs, ((num + 1 : Nat) : Int), (i : Int), xs, V2, i2, bl, nb, (k : Int), nm, bl, ints (pay b), ()) := by
  have hk := (List.getElem?_eq_some_iff.1 hb).1
  unfold f581p0
  simp only [inb hk, cond_true, Int.toNat_natCast, getD_of hb, wi_succ (i := i) (by omega), wi_succ (i := num) (by omega)]
  have key : ∀ last : Bool, (Option.bind (f621F 1000 (b, ((i + 1 : Nat) : Int), ((num + 1 : Nat) : Int), (vs.length : Int), last)) fun y16 =>
      bif (y16.2 != (0 : Int)) then
        k0 (vs, ByteArray.empty, (i : Int), (k : Int), y16.2, ((num + 1 : Nat) : Int), (i : Int), xs, V2, i2, bl, nb, (k : Int), nm, bl, ())
      else
      bif (sliceBds (4 : Int) (IntKind.i64.wrap ((4 : Int) + y16.1)) (b.size : Int)) then
        Option.bind (f622v0F 1000 (b.extract 4 (Int.toNat (IntKind.i64.wrap ((4 : Int) + y16.1))), ())) fun y18 =>
        k1 (vs, ((num + 1 : Nat) : Int), (i : Int), xs, V2, i2, bl, nb, (k : Int), nm, bl, y18.2.1, ())
      else none) = if blkE (bL b) ((i + 1 : Nat) : Int) ((num + 1 : Nat) : Int) (vs.length : Int) last ≠ 0 then k0 (vs, ByteArray.empty, (i : Int), (k : Int), blkE (bL b) ((i + 1 : Nat) : Int) ((num + 1 : Nat) : Int) (vs.length : Int) last, ((num + 1 : Nat) : Int), (i : Int), xs, V2, i2, bl, nb, (k : Int), nm, bl, ())
      else k1 (vs, ((num + 1 : Nat) : Int), (i : Int), xs, V2, i2, bl, nb, (k : Int), nm, bl, ints (pay b), ()) := by
    intro last
    have hq := f621q (bL b) ((i + 1 : Nat) : Int) (vs.length : Int) (num := ((num + 1 : Nat) : Int)) (by omega) (by omega) last
    rw [S_bL] at hq
    rw [hq, bind_some']
    by_cases he : blkE (bL b) ((i + 1 : Nat) : Int) ((num + 1 : Nat) : Int) (vs.length : Int) last = 0
    · rw [if_pos he, if_neg (fun c => c he)]
      obtain ⟨o1, o2, o3⟩ := blkE_ok he
      have ew : IntKind.i64.wrap (4 + (bsz (bL b) : Int)) = ((4 + bsz (bL b) : Nat) : Int) := by rw [show (4 : Int) + (bsz (bL b) : Int) = ((4 + bsz (bL b) : Nat) : Int) by omega]; exact wi (by omega) (by omega)
      have hsz : (b.size : Int) = ((64 : Nat) : Int) := by rw [← S_bL b, S_size, o1]
      have hpl := pay_len ⟨o1, o2, o3⟩
      rw [bif_false (by rfl)]
      simp only [ew, hsz]
      rw [bif_true (by exact sliceB (a := 4) (n := 64) (by omega) (by omega))]
      simp only [Int.toNat_natCast, ext_pay]
      rw [f622a (pay b) (by omega), bind_some']
    · rw [if_neg he, if_pos he, bif_true (bne0 he)]
  have hl := lastB (R := R) (V := vs.length) (i := i) (n := bl.length) (k := k) hV (by omega) (by omega) (by omega) (fun last => Option.bind (f621F 1000 (b, ((i + 1 : Nat) : Int), ((num + 1 : Nat) : Int), (vs.length : Int), last)) fun y16 =>
      bif (y16.2 != (0 : Int)) then
        k0 (vs, ByteArray.empty, (i : Int), (k : Int), y16.2, ((num + 1 : Nat) : Int), (i : Int), xs, V2, i2, bl, nb, (k : Int), nm, bl, ())
      else
      bif (sliceBds (4 : Int) (IntKind.i64.wrap ((4 : Int) + y16.1)) (b.size : Int)) then
        Option.bind (f622v0F 1000 (b.extract 4 (Int.toNat (IntKind.i64.wrap ((4 : Int) + y16.1))), ())) fun y18 =>
        k1 (vs, ((num + 1 : Nat) : Int), (i : Int), xs, V2, i2, bl, nb, (k : Int), nm, bl, y18.2.1, ())
      else none)
  exact hl.trans (key _)
end Go.Proofs.YtobgkcamonlnkaaGreatDoor
set_option linter.unusedVariables false
set_option linter.unusedSimpArgs false
namespace Go.Proofs.YtobgkcamonlnkaaGreatDoor
open Go.Ab

theorem f581l2q {R : Type} (k0 : List Vol × ByteArray × Int × Int × Int × Int × List Vol × Int × Int × List Int × Unit → Option R) (k1 : List Vol × Int × List Vol × Int × Int × List Int × Unit → Option R)
    (vs xs : List Vol) (V2 i2 : Int) (i : Nat) (nm : ByteArray) (bl : List ByteArray)
    (hV : 1 ≤ vs.length) (hV2 : vs.length ≤ 6) (hi : i ≤ 6) (hbl : bl.length ≤ 60) (k num : Nat) (d : List UInt8) (hk : k ≤ bl.length) (hnum : num ≤ 500 + k) (hd : d.length ≤ 50000 + 52 * k) :
    f581l2 1000 k0 k1 (vs, (num : Int), (i : Int), xs, V2, i2, bl, (bl.length : Int), (k : Int), nm, bl, ints d, ()) =
      match rdBs vs.length i bl.length (bl.drop k) k num d with
      | .inl (k, e, nu, d) => k0 (vs, ByteArray.empty, (i : Int), (k : Int), e, (nu : Int), xs, V2, i2, ints d, ())
      | .inr (nu, d) => k1 (vs, (nu : Int), xs, V2, i2, ints d, ()) := by
  unfold f581l2
  refine iter_from (A := Nat × List UInt8 × Nat) bl (fun k a => (vs, (a.1 : Int), (i : Int), xs, V2, i2, bl, (bl.length : Int), (k : Int), nm, bl, ints a.2.1, ()))
    (fun m a => match rdBs vs.length i bl.length m a.2.2 a.1 a.2.1 with
      | .inl (k, e, nu, d) => k0 (vs, ByteArray.empty, (i : Int), (k : Int), e, (nu : Int), xs, V2, i2, ints d, ())
      | .inr (nu, d) => k1 (vs, (nu : Int), xs, V2, i2, ints d, ()))
    (fun k a => a.2.2 = k ∧ a.1 ≤ 500 + k ∧ a.2.1.length ≤ 50000 + 52 * k) ?_ ?_ (k := 1000) (by omega) k (num, d, k) hk ⟨rfl, hnum, hd⟩
  · intro rec a _
    unfold f581l2s
    simp only [ltn_self, cond_false]
    rfl
  · intro rec j a x hx hj hp
    obtain ⟨nu, d, k⟩ := a
    obtain ⟨h1, h2, h3⟩ := hp
    simp only at h1 h2 h3
    subst h1
    unfold f581l2s
    simp only [ltn hj, cond_true]
    rw [f581p1q _ _ vs xs V2 i2 _ i nu k nm bl d x hx hV hV2 hi hbl (by omega) (by omega)]
    by_cases he : bE vs.length i bl.length k nu x = 0
    · obtain ho := bE_ok he
      have hp := pay_len ho
      rw [if_neg (fun c => c he)]
      refine .inl ⟨(nu + 1, d ++ pay x, k + 1), ⟨rfl, by simp only; omega, by simp only [List.length_append]; omega⟩, by simp only [wi_succ (i := k) (by omega)], ?_⟩
      simp only [rdBs]
      rw [if_neg (fun c => c he)]
    · rw [if_pos he]
      refine .inr ?_
      simp only [rdBs]
      rw [if_pos he]

theorem f581l3q {R : Type} (k0 : List Vol × ByteArray × Int × Int × Int × Int × List Vol × Int × Int × Unit → Option R) (k1 : List Vol × ByteArray × Int × Int × Int × Int × List Vol × Int × Int × List Int × Unit → Option R)
    (k2 : List Vol × Int × List Vol × Int × Int × List Int × Unit → Option R) (k3 : List Vol × Int × List Vol × Int × Int × Unit → Option R)
    (vs xs : List Vol) (V2 i2 : Int) (i : Nat) (nm : ByteArray) (b : ByteArray) (bl : List ByteArray)
    (hV : 1 ≤ vs.length) (hV2 : vs.length ≤ 6) (hi : i ≤ 6) (hbl : (b :: bl).length ≤ 60) (num : Nat) (hnum : num ≤ 400) :
    f581l3 1000 k0 k1 k2 k3 (vs, (num : Int), (i : Int), xs, V2, i2, b :: bl, ((b :: bl).length : Int), (0 : Int), nm, b :: bl, ()) =
      if bE vs.length i (b :: bl).length 0 num b ≠ 0 then k0 (vs, ByteArray.empty, (i : Int), 0, bE vs.length i (b :: bl).length 0 num b, ((num + 1 : Nat) : Int), xs, V2, i2, ())
      else match rdBs vs.length i (b :: bl).length bl 1 (num + 1) (pay b) with
      | .inl (k, e, nu, d) => k1 (vs, ByteArray.empty, (i : Int), (k : Int), e, (nu : Int), xs, V2, i2, ints d, ())
      | .inr (nu, d) => k2 (vs, (nu : Int), xs, V2, i2, ints d, ()) := by
  unfold f581l3
  rw [iterS_1000]
  unfold f581l3s
  have h0 : decide ((0 : Int) < ((b :: bl).length : Int)) = true := by simp
  simp only [h0, cond_true]
  have hp := f581p0q (R := R) (k := 0) (k0 := fun w10 => k0 (w10.1, w10.2.1, w10.2.2.1, w10.2.2.2.1, w10.2.2.2.2.1, w10.2.2.2.2.2.1, w10.2.2.2.2.2.2.2.1, w10.2.2.2.2.2.2.2.2.1, w10.2.2.2.2.2.2.2.2.2.1, ()))
    (k1 := fun w11 => f581l2 1000 (fun w21 => k1 (w21.1, w21.2.1, w21.2.2.1, w21.2.2.2.1, w21.2.2.2.2.1, w21.2.2.2.2.2.1, w21.2.2.2.2.2.2.1, w21.2.2.2.2.2.2.2.1, w21.2.2.2.2.2.2.2.2.1, w21.2.2.2.2.2.2.2.2.2.1, ()))
          (fun w22 => k2 (w22.1, w22.2.1, w22.2.2.1, w22.2.2.2.1, w22.2.2.2.2.1, w22.2.2.2.2.2.1, ()))
          (w11.1, w11.2.1, w11.2.2.1, w11.2.2.2.1, w11.2.2.2.2.1, w11.2.2.2.2.2.1, w11.2.2.2.2.2.2.1, w11.2.2.2.2.2.2.2.1, (IntKind.i64.wrap (w11.2.2.2.2.2.2.2.2.1 + (1 : Int))), w11.2.2.2.2.2.2.2.2.2.1, w11.2.2.2.2.2.2.2.2.2.2.1, w11.2.2.2.2.2.2.2.2.2.2.2.1, ()))
    vs xs V2 i2 ((b :: bl).length : Int) i num nm (b :: bl) b rfl hV hV2 hi hbl (by omega)
  rw [show ((0 : Nat) : Int) = 0 from rfl] at hp
  refine hp.trans ?_
  by_cases he : bE vs.length i (b :: bl).length 0 num b = 0
  · have ho := bE_ok he
    have hpl := pay_len ho
    rw [if_neg (fun c => c he), if_neg (fun c => c he)]
    simp only [show IntKind.i64.wrap ((0 : Int) + 1) = ((1 : Nat) : Int) from rfl]
    rw [f581l2q _ _ vs xs V2 i2 i nm (b :: bl) hV hV2 hi hbl 1 (num + 1) (pay b) (by simp) (by omega) (by omega)]
    rfl
  · rw [if_pos he, if_pos he]

theorem f619q (pre : List Vol) (v : Vol) (h : pre.length ≤ 900) : f619v0F 1000 (pre, v.1, v.2, ()) = some ((pre.any fun y => strEq y.1 v.1), v.1, v.2, ()) := by
  unfold f619v0F f647v0F f647v0l0
  have key := iter_list (k := 1000) (A := Nat) (R := Int × ByteArray × List ByteArray × Unit) (Step := fun rec v => f647v0l0s 1000 rec (fun w2 => some (w2.1, w2.2.1, w2.2.2.1, ())) (fun w3 => some ((-1 : Int), w3.1, w3.2.1, ())) v) pre (fun i _ => (pre, (pre.length : Int), (i : Int), v.1, v.2, ()))
    (fun m i => some (idxN (fun y : Vol => strEq y.1 v.1) m i, v.1, v.2, ())) (fun i a => a = i) ?_ ?_ (by omega) 0 rfl
  · refine (congrArg (fun z => Option.bind z fun y1 => some ((decide (y1.1 ≥ (0 : Int))), y1.2.1, y1.2.2.1, ())) key).trans ?_
    simp only [bind_some']
    rcases idxN_cases (fun y : Vol => strEq y.1 v.1) pre 0 with ⟨h1, h2⟩ | ⟨j, x, h1, h2, h3⟩
    · rw [h1, h2]; rfl
    · have : (pre.any fun y => strEq y.1 v.1) = true := List.any_eq_true.2 ⟨x, List.mem_of_getElem? h2, h3⟩
      rw [h1, this]
      simp
  · intro rec a ha
    unfold f647v0l0s
    simp only [ltn_self, cond_false]
    rfl
  · intro rec i a x hx hi ha
    subst ha
    unfold f647v0l0s f620v0F
    simp only [ltn hi, nn, Bool.and_self, cond_true, Int.toNat_natCast, getD_of hx, wi_succ (i := a) (by omega), bind_some']
    cases hs : strEq x.1 v.1 with
    | true =>
      refine .inr ?_
      simp only [idxN, hs, cond_true, if_true]
    | false =>
      refine .inl ⟨a + 1, rfl, rfl, ?_⟩
      simp only [idxN, hs, Bool.false_eq_true, if_false, cond_false]

theorem f581p5q {R : Type} (k0 : List Vol × ByteArray × Int × Int × Int × Int × List Vol × Int × Int × List Int × Unit → Option R) (k1 : List Vol × Int × List Vol × Int × Int × List Int × Unit → Option R)
    (vs : List Vol) (v : Vol) (V2 : Int) (i num : Nat) (d : List UInt8) (hv : vs[i]? = some v) (hV2 : vs.length ≤ 6) (hnum : num ≤ 400) (hd : d.length ≤ 50000) :
    f581p5 1000 k0 k1 (vs, (num : Int), vs, V2, (i : Int), ints d, ()) =
      if volE (vs.take i) v ≠ 0 then k0 (vs, ByteArray.empty, (i : Int), 0, volE (vs.take i) v, (num : Int), vs, V2, (i : Int), ints d, ())
      else match rdBs vs.length i v.2.length v.2 0 num d with
      | .inl (k, e, nu, d) => k0 (vs, ByteArray.empty, (i : Int), (k : Int), e, (nu : Int), vs, V2, (i : Int), ints d, ())
      | .inr (nu, d) => k1 (vs, (nu : Int), vs, V2, (i : Int), ints d, ()) := by
  have hi := (List.getElem?_eq_some_iff.1 hv).1
  have hsl : sliceBds (0 : Int) (i : Int) (vs.length : Int) = true := sliceB0 (by omega)
  have h619 := f619q (vs.take i) v (by rw [List.length_take]; omega)
  unfold f581p5
  simp only [inb hi, cond_true, Int.toNat_natCast, getD_of hv, f602q 1000 (by decide), bind_some', hsl, List.drop_zero, h619]
  cases h1 : isNm v.1 with
  | false =>
    have : volE (vs.take i) v = 7 := by unfold volE; rw [h1, if_pos rfl]
    rw [this, if_pos (by decide)]; rfl
  | true =>
  simp only [Bool.not_true, cond_false]
  cases h2 : ((vs.take i).any fun y => strEq y.1 v.1) with
  | true =>
    have : volE (vs.take i) v = 13 := by unfold volE; rw [h1, h2, if_neg (by decide), if_pos rfl]
    rw [this, if_pos (by decide)]; rfl
  | false =>
  simp only [cond_false]
  by_cases h3 : v.2.length > 60
  · have : volE (vs.take i) v = 2 := by unfold volE; rw [h1, h2, if_neg (by decide), if_neg (by decide), if_pos h3]
    rw [this, if_pos (by decide), bif_true (by simp; omega)]
  · by_cases h4 : v.2.length = 0
    · have : volE (vs.take i) v = 1 := by unfold volE; rw [h1, h2, if_neg (by decide), if_neg (by decide), if_neg h3, if_pos h4]
      rw [this, if_pos (by decide), bif_false (by simp; omega), bif_true (by rw [h4]; rfl)]
    · have : volE (vs.take i) v = 0 := by unfold volE; rw [h1, h2, if_neg (by decide), if_neg (by decide), if_neg h3, if_neg h4]
      rw [this, if_neg (by decide), bif_false (by simp; omega), bif_false (beq0 (by omega))]
      exact f581l2q _ _ vs vs V2 (i : Int) i v.1 v.2 (by omega) hV2 (by omega) (by omega) 0 num d (by omega) (by omega) (by omega)

theorem rdVs_bnd {V i n num : Nat} {d : List UInt8} {nu : Nat} {d' : List UInt8} {m : List ByteArray} {k : Nat} (h : rdBs V i n m k num d = .inr (nu, d')) (hm : m.length ≤ 60) : nu ≤ num + 60 ∧ d'.length ≤ d.length + 3120 := by
  obtain ⟨h1, h2, h3⟩ := rdBs_ok h
  have := pays_len h3
  rw [h2, List.length_append]
  omega
theorem f581l6q {R : Type} (k0 : ByteArray × Int × Int × Int × List Int × Unit → Option R) (k1 : List Int × Unit → Option R)
    (vs : List Vol) (hV2 : vs.length ≤ 6) (i num : Nat) (d : List UInt8) (hi : i ≤ vs.length) (hnum : num ≤ 60 * i) (hd : d.length ≤ 3120 * i) :
    f581l6 1000 k0 k1 (vs, (num : Int), vs, (vs.length : Int), (i : Int), ints d, ()) =
      match rdVs vs vs.length (vs.drop i) i num d with
      | .inl (i, k, e, d) => k0 (ByteArray.empty, (i : Int), (k : Int), e, ints d, ())
      | .inr d => k1 (ints d, ()) := by
  unfold f581l6
  refine iter_from (A := Nat × List UInt8 × Nat) vs (fun i a => (vs, (a.1 : Int), vs, (vs.length : Int), (i : Int), ints a.2.1, ()))
    (fun m a => match rdVs vs vs.length m a.2.2 a.1 a.2.1 with
      | .inl (i, k, e, d) => k0 (ByteArray.empty, (i : Int), (k : Int), e, ints d, ())
      | .inr d => k1 (ints d, ()))
    (fun i a => a.2.2 = i ∧ a.1 ≤ 60 * i ∧ a.2.1.length ≤ 3120 * i) ?_ ?_ (k := 1000) (by omega) i (num, d, i) hi ⟨rfl, hnum, hd⟩
  · intro rec a _
    unfold f581l6s
    simp only [ltn_self, cond_false]
    rfl
  · intro rec j a v hv hj hp
    obtain ⟨nu, d, i⟩ := a
    obtain ⟨h1, h2, h3⟩ := hp
    simp only at h1 h2 h3
    subst h1
    unfold f581l6s
    simp only [ltn hj, cond_true]
    rw [f581p5q _ _ vs v _ i nu d hv hV2 (by omega) (by omega)]
    by_cases he : volE (vs.take i) v = 0
    · rw [if_neg (fun c => c he)]
      match hr : rdBs vs.length i v.2.length v.2 0 nu d with
      | .inl (k, e, nu', d') =>
        refine .inr ?_
        simp only [rdVs]
        rw [if_neg (fun c => c he), hr]
      | .inr (nu', d') =>
        have hb := rdVs_bnd hr (volE_ok he).2.2
        refine .inl ⟨(nu', d', i + 1), ⟨rfl, by simp only; omega, by simp only; omega⟩, by simp only [wi_succ (i := i) (by omega)], ?_⟩
        simp only [rdVs]
        rw [if_neg (fun c => c he), hr]
    · rw [if_pos he]
      refine .inr ?_
      simp only [rdVs]
      rw [if_pos he]
      rfl
end Go.Proofs.YtobgkcamonlnkaaGreatDoor
set_option linter.unusedVariables false
set_option linter.unusedSimpArgs false
namespace Go.Proofs.YtobgkcamonlnkaaGreatDoor
open Go.Ab

theorem f581p4q {R : Type} (k0 : List Vol × ByteArray × Int × Int × Int × Int × List Vol × Int × Int × Unit → Option R) (k1 : List Vol × ByteArray × Int × Int × Int × Int × List Vol × Int × Int × List Int × Unit → Option R)
    (k2 : List Vol × Int × List Vol × Int × Int × List Int × Unit → Option R) (k3 : List Vol × Int × List Vol × Int × Int × Unit → Option R)
    (v : Vol) (vs : List Vol) (V2 : Int) (hV2 : (v :: vs).length ≤ 6) :
    f581p4 1000 k0 k1 k2 k3 (v :: vs, 0, v :: vs, V2, 0, ()) =
      if volE [] v ≠ 0 then k0 (v :: vs, ByteArray.empty, 0, 0, volE [] v, 0, v :: vs, V2, 0, ())
      else match v.2 with
      | [] => none
      | b :: bl => if bE (v :: vs).length 0 (b :: bl).length 0 0 b ≠ 0 then k0 (v :: vs, ByteArray.empty, 0, 0, bE (v :: vs).length 0 (b :: bl).length 0 0 b, 1, v :: vs, V2, 0, ())
        else match rdBs (v :: vs).length 0 (b :: bl).length bl 1 1 (pay b) with
        | .inl (k, e, nu, d) => k1 (v :: vs, ByteArray.empty, 0, (k : Int), e, (nu : Int), v :: vs, V2, 0, ints d, ())
        | .inr (nu, d) => k2 (v :: vs, (nu : Int), v :: vs, V2, 0, ints d, ()) := by
  have hi : 0 < (v :: vs).length := by simp
  have hsl : sliceBds (0 : Int) 0 ((v :: vs).length : Int) = true := sliceB0 (b := 0) (by omega)
  have h619 := f619q [] v (by simp)
  have hin := inb hi
  rw [show ((0 : Nat) : Int) = 0 from rfl] at hin
  unfold f581p4
  simp only [hin, cond_true, show Int.toNat 0 = 0 from rfl, getD_of (show (v :: vs)[0]? = some v from rfl), f602q 1000 (by decide), bind_some', hsl, List.drop_zero, List.take_zero, h619]
  cases h1 : isNm v.1 with
  | false =>
    have : volE [] v = 7 := by unfold volE; rw [h1, if_pos rfl]
    rw [this, if_pos (by decide)]; rfl
  | true =>
  simp only [Bool.not_true, cond_false, List.any_nil]
  by_cases h3 : v.2.length > 60
  · have : volE [] v = 2 := by unfold volE; rw [h1, List.any_nil, if_neg (by decide), if_neg (by decide), if_pos h3]
    rw [this, if_pos (by decide), bif_true (by simp; omega)]
  · match hb : v.2 with
    | [] =>
      have : volE [] v = 1 := by unfold volE; rw [h1, List.any_nil, if_neg (by decide), if_neg (by decide), if_neg h3, if_pos (by rw [hb]; rfl)]
      rw [this, if_pos (by decide)]; rfl
    | b :: bl =>
      have hl : (b :: bl).length ≤ 60 := by rw [← hb]; omega
      have : volE [] v = 0 := by unfold volE; rw [h1, List.any_nil, if_neg (by decide), if_neg (by decide), if_neg h3, if_neg (by rw [hb]; simp)]
      rw [this, if_neg (by decide), bif_false (by rw [decide_eq_false_iff_not]; omega), bif_false (beq0 (by simp only [List.length_cons]; omega))]
      have h := f581l3q (fun w23 => k0 (w23.1, w23.2.1, w23.2.2.1, w23.2.2.2.1, w23.2.2.2.2.1, w23.2.2.2.2.2.1, w23.2.2.2.2.2.2.1, w23.2.2.2.2.2.2.2.1, w23.2.2.2.2.2.2.2.2.1, ()))
        (fun w24 => k1 (w24.1, w24.2.1, w24.2.2.1, w24.2.2.2.1, w24.2.2.2.2.1, w24.2.2.2.2.2.1, w24.2.2.2.2.2.2.1, w24.2.2.2.2.2.2.2.1, w24.2.2.2.2.2.2.2.2.1, w24.2.2.2.2.2.2.2.2.2.1, ()))
        (fun w25 => k2 (w25.1, w25.2.1, w25.2.2.1, w25.2.2.2.1, w25.2.2.2.2.1, w25.2.2.2.2.2.1, ()))
        (fun w26 => k3 (w26.1, w26.2.1, w26.2.2.1, w26.2.2.2.1, w26.2.2.2.2.1, ()))
        (v :: vs) (v :: vs) V2 0 0 v.1 b bl (by simp) hV2 (by omega) hl 0 (by omega)
      exact h

theorem rdVs_pre {vs : List Vol} {V : Nat} : ∀ {m : List Vol} {i num : Nat} {d d' : List UInt8}, rdVs vs V m i num d = .inr d' →
    d' = d ++ (m.flatMap fun v => v.2.flatMap pay) ∧ ∀ v ∈ m, v.2.length ≤ 60 ∧ ∀ b ∈ v.2, (bL b).length = 64 ∧ 1 ≤ bsz (bL b) ∧ bsz (bL b) ≤ 52
  | [], i, num, d, d', h => by
    simp only [rdVs] at h; cases h
    exact ⟨by simp, by simp⟩
  | v :: m, i, num, d, d', h => by
    simp only [rdVs] at h
    by_cases he : volE (vs.take i) v = 0
    · rw [if_neg (fun c => c he)] at h
      match hr : rdBs V i v.2.length v.2 0 num d, h with
      | .inl (k, e, nu, x), h => cases h
      | .inr (nu, x), h =>
        obtain ⟨h1, h2, h3⟩ := rdBs_ok hr
        obtain ⟨h4, h5⟩ := rdVs_pre h
        refine ⟨by rw [h4, h2, List.append_assoc]; rfl, fun x hx => ?_⟩
        rcases List.mem_cons.1 hx with rfl | hx
        · exact ⟨(volE_ok he).2.2, h3⟩
        · exact h5 x hx
    · rw [if_pos he] at h; cases h
theorem rdVs_err {vs : List Vol} {V : Nat} : ∀ {m : List Vol} {i num : Nat} {d : List UInt8} {i' k : Nat} {e : Int} {d' : List UInt8}, rdVs vs V m i num d = .inl (i', k, e, d') → e ≠ 0
  | [], i, num, d, i', k, e, d', h => by simp only [rdVs] at h; cases h
  | v :: m, i, num, d, i', k, e, d', h => by
    simp only [rdVs] at h
    by_cases he : volE (vs.take i) v = 0
    · rw [if_neg (fun c => c he)] at h
      match hr : rdBs V i v.2.length v.2 0 num d, h with
      | .inl (k, e, nu, x), h =>
        cases h
        have : ∀ {V i n : Nat} {m : List ByteArray} {k num : Nat} {d : List UInt8} {k' nu : Nat} {e : Int} {d' : List UInt8}, rdBs V i n m k num d = .inl (k', e, nu, d') → e ≠ 0 := by
          intro V i n m
          induction m with
          | nil => intro k num d k' nu e d' h; simp only [rdBs] at h; cases h
          | cons b m ih =>
            intro k num d k' nu e d' h
            simp only [rdBs] at h
            by_cases hb : bE V i n k num b = 0
            · rw [if_neg (fun c => c hb)] at h; exact ih h
            · rw [if_pos hb] at h; cases h; exact hb
        exact this hr
      | .inr (nu, x), h => exact rdVs_err h
    · rw [if_pos he] at h; cases h; exact he
theorem rd_err {vs : List Vol} {i k : Nat} {e : Int} (h : rd vs = .inl (i, k, e)) : e ≠ 0 := by
  unfold rd at h
  by_cases h0 : vs.length = 0
  · rw [if_pos h0] at h; cases h; decide
  · rw [if_neg h0] at h
    by_cases h6 : vs.length > 6
    · rw [if_pos h6] at h; cases h; decide
    · rw [if_neg h6] at h
      match hr : rdVs vs vs.length vs 0 0 [], h with
      | .inl (i, k, e, d), h => cases h; exact rdVs_err hr
      | .inr d, h => cases h
theorem range_ints (l : List UInt8) : (List.all (ints l) fun x => decide ((0 : Int) ≤ x) && decide (x ≤ 255)) = true := by
  rw [List.all_eq_true]
  intro x hx
  obtain ⟨b, -, rfl⟩ := List.mem_map.1 hx
  have := byte_rng b
  simp; omega
theorem f581q (vs : List Vol) : f581F 1000 vs = some (match rd vs with | .inl (i, k, e) => (ByteArray.empty, (i : Int), (k : Int), e) | .inr d => (S d, 0, 0, 0)) := by
  unfold f581F rd
  by_cases h0 : vs.length = 0
  · rw [bif_true (by rw [h0]; rfl), if_pos h0]; rfl
  · rw [bif_false (beq0 (by omega)), if_neg h0]
    by_cases h6 : vs.length > 6
    · rw [bif_true (by simp; omega), if_pos h6]; rfl
    · rw [bif_false (by simp; omega), if_neg h6]
      match vs, h0, h6 with
      | v :: vs, h0, h6 =>
        unfold f581p8 f581l7
        rw [iterS_1000]
        unfold f581l7s
        have hd : decide ((0 : Int) < ((v :: vs).length : Int)) = true := by simp
        simp only [hd, cond_true]
        rw [f581p4q _ _ _ _ v vs _ (by omega)]
        have hst : rdVs (v :: vs) (v :: vs).length (v :: vs) 0 0 [] = if volE [] v ≠ 0 then .inl (0, 0, volE [] v, []) else
          match rdBs (v :: vs).length 0 v.2.length v.2 0 0 [] with
          | .inl (k, e, _, d') => .inl (0, k, e, d')
          | .inr (nu, d') => rdVs (v :: vs) (v :: vs).length vs 1 nu d' := rfl
        rw [hst]
        by_cases he : volE [] v = 0
        · rw [if_neg (fun c => c he), if_neg (fun c => c he)]
          obtain ⟨o1, o2, o3⟩ := volE_ok he
          match hb : v.2 with
          | [] => rw [hb] at o2; simp at o2
          | b :: bl =>
            rw [hb] at o3
            simp only
            have hs1 : rdBs (v :: vs).length 0 (b :: bl).length (b :: bl) 0 0 [] = if bE (v :: vs).length 0 (b :: bl).length 0 0 b ≠ 0 then .inl (0, bE (v :: vs).length 0 (b :: bl).length 0 0 b, 1, []) else rdBs (v :: vs).length 0 (b :: bl).length bl 1 1 (pay b) := by
              simp only [rdBs, List.nil_append, Nat.zero_add]
            rw [hs1]
            by_cases hbe : bE (v :: vs).length 0 (b :: bl).length 0 0 b = 0
            · rw [if_neg (fun c => c hbe), if_neg (fun c => c hbe)]
              have hpl := pay_len (bE_ok hbe)
              have hok := bE_ok hbe
              match hr : rdBs (v :: vs).length 0 (b :: bl).length bl 1 1 (pay b) with
              | .inl (k, e, nu, d) => rfl
              | .inr (nu, d) =>
                obtain ⟨q1, q2, q3⟩ := rdBs_ok hr
                have q4 := pays_len q3
                have o4 : bl.length ≤ 59 := by simpa using o3
                have hdl : d.length ≤ 3120 := by rw [q2, List.length_append]; omega
                have h6q := f581l6q (R := ByteArray × Int × Int × Int) (fun w36 => some (w36.1, w36.2.1, w36.2.2.1, w36.2.2.2.1)) (fun w37 => bif (!(List.isEmpty w37.1) && (List.all w37.1 fun x => decide ((0 : Int) ≤ x) && decide (x ≤ 255))) then some ((strOfNums w37.1), (0 : Int), (0 : Int), (0 : Int)) else none)
                  (v :: vs) (by omega) 1 nu d (by simp) (by omega) (by omega)
                refine h6q.trans ?_
                rw [show (v :: vs).drop 1 = vs from rfl]
                show _ = some (match (match rdVs (v :: vs) (v :: vs).length vs 1 nu d with | .inl (i, k, e, _) => .inl (i, k, e) | .inr d => .inr d : (Nat × Nat × Int) ⊕ List UInt8) with | .inl (i, k, e) => (ByteArray.empty, (i : Int), (k : Int), e) | .inr d => (S d, 0, 0, 0))
                match hv : rdVs (v :: vs) (v :: vs).length vs 1 nu d with
                | .inl (i, k, e, d') => rfl
                | .inr d' =>
                  obtain ⟨p1, p2⟩ := rdVs_pre hv
                  have hne : 1 ≤ d'.length := by rw [p1, q2, List.length_append, List.length_append]; omega
                  show (bif (!(List.isEmpty (ints d')) && (List.all (ints d') fun x => decide ((0 : Int) ≤ x) && decide (x ≤ 255))) then some ((strOfNums (ints d')), (0 : Int), (0 : Int), (0 : Int)) else none) = _
                  rw [range_ints, S_back, bif_true]
                  cases d' with
                  | nil => simp at hne
                  | cons x d' => rfl
            · rw [if_pos hbe, if_pos hbe]
              rfl
        · rw [if_pos he, if_pos he]
          rfl
theorem f538q (vs : List Vol) : f538F 1000 vs = some (match rd vs with | .inl (i, k, e) => ([], e) | .inr d => tblsIn d) := by
  unfold f538F
  rw [f581q, bind_some']
  match hr : rd vs with
  | .inl (i, k, e) => simp only; rw [bif_true (bne0 (rd_err hr))]
  | .inr d => simp only [bne00, cond_false, f532q, bind_some']
end Go.Proofs.YtobgkcamonlnkaaGreatDoor
set_option linter.unusedVariables false
set_option linter.unusedSimpArgs false
namespace Go.Proofs.YtobgkcamonlnkaaGreatDoor
open Go.Ab

end Go.Proofs.YtobgkcamonlnkaaGreatDoor
set_option linter.unusedVariables false
set_option linter.unusedSimpArgs false
namespace Go.Proofs.YtobgkcamonlnkaaGreatDoor
open Go.Ab

theorem bd_ok {α β : Type} (v : α) (t : List UInt8) (g : α → List UInt8 → PE β) : PE.bd (.ok (v, t) : PE α) g = g v t := rfl
theorem nmL_no32 : ∀ (l : List UInt8) (b : Bool), nmL b (ints l) = true → (32 : UInt8) ∉ l
  | [], _, _ => by simp
  | c :: l, b, h => by
    have h : nmL b ((c.toNat : Int) :: ints l) = true := h
    unfold nmL at h
    intro hm
    rcases List.mem_cons.1 hm with rfl | hm
    · cases b <;> simp [nmA, nmB] at h
    · cases b with
      | true => simp only [Bool.and_eq_true] at h; exact nmL_no32 l _ h.2 hm
      | false => simp only [Bool.and_eq_true] at h; exact nmL_no32 l _ h.2 hm
theorem isNm_no32 {s : ByteArray} (h : isNm s = true) : (32 : UInt8) ∉ bL s := by
  unfold isNm at h
  simp only [Bool.and_eq_true] at h
  have h2 := h.2
  rw [← S_bL s, S_bytes] at h2
  exact nmL_no32 _ _ h2
theorem trm_spaces (l : List UInt8) (h : (32 : UInt8) ∉ l) : ∀ n, trm (l ++ List.replicate n 32) = l := by
  intro n
  induction n with
  | zero =>
    rw [List.replicate_zero, List.append_nil]
    rcases List.eq_nil_or_concat l with rfl | ⟨m, c, rfl⟩
    · rfl
    · rw [List.concat_eq_append] at h ⊢
      rw [trm_snoc, if_neg]
      intro e; subst e; exact h (by simp)
  | succ n ih => rw [List.replicate_succ', ← List.append_assoc, trm_snoc, if_pos rfl, ih]
theorem pName_pad {s : ByteArray} (h : isNm s = true) (t : List UInt8) : pName (padL s ++ t) = .ok (s, t) := by
  have hs := (nm_size h).2
  have hl := padL_length hs
  have hn := isNm_no32 h
  have e1 : (padL s ++ t).take 10 = padL s := by rw [List.take_append_of_le_length (by omega), List.take_of_length_le (by omega)]
  have e2 : (padL s ++ t).drop 10 = t := by rw [List.drop_append_of_le_length (by omega), List.drop_of_length_le (by omega), List.nil_append]
  have e3 : trm (padL s) = bL s := trm_spaces _ hn _
  unfold pName
  rw [if_neg (by rw [List.length_append]; omega), e1, e2, e3, if_neg hn, S_bL]
theorem pNum_one {m : Nat} {n : Int} (h0 : 0 ≤ n) (h1 : n ≤ m) (h2 : n ≤ 255) (t : List UInt8) : pNum m (oneB n :: t) = .ok (n.toNat, t) := by
  have := oneB_int n
  show (if m < (oneB n).toNat then .error 5 else .ok ((oneB n).toNat, t) : PE Nat) = _
  rw [if_neg (by omega)]
  congr 2
  omega
theorem pNum_bB (b : Bool) (t : List UInt8) : pNum 1 (bB b :: t) = .ok (if b = true then 1 else 0, t) := by
  cases b <;> rfl
theorem pMany_flat {α : Type} (p : List UInt8 → PE α) (f : α → List UInt8) : ∀ (l : List α), (∀ x ∈ l, ∀ t, p (f x ++ t) = .ok (x, t)) → ∀ t, pMany p l.length (l.flatMap f ++ t) = .ok (l, t)
  | [], _, t => rfl
  | x :: l, h, t => by
    rw [List.flatMap_cons, List.append_assoc]
    show PE.bd (p (f x ++ (l.flatMap f ++ t))) (fun v t => PE.bd (pMany p l.length t) fun vs t => .ok (v :: vs, t)) = _
    rw [h x (by simp), bd_ok, pMany_flat p f l (fun y hy => h y (by simp [hy])), bd_ok]
theorem pField_shp {x : Fld} (hn : isNm x.1 = true) (ht : tyErr x.2.1 x.2.2.1 x.2.2.2 = 0) (hw : wd x.2 ≤ 200) (h4 : x.2.1 ≠ 4) (t : List UInt8) : pField (shpF x ++ t) = .ok (x, t) := by
  obtain ⟨nm, kd, ln, sc⟩ := x
  simp only at hn ht hw h4
  obtain ⟨a1, a2, a3, a4, a5, a6, a7, a8, a9⟩ := ty_ok ht
  have hln : 0 ≤ ln ∧ ln ≤ 255 := by
    by_cases hk : kd = 0
    · have e : wd (kd, ln, sc) = ln := by subst hk; unfold wd; rw [if_neg (fun c => c ht), if_neg (show ¬ (0 : Int) = 4 by decide)]; rfl
      omega
    · have := a4 (by omega); omega
  have hsc : sc ≤ 255 := by
    by_cases hk : kd = 0
    · have := a8 (.inl hk); omega
    · have := a9 (by omega); omega
  unfold pField shpF
  rw [List.append_assoc, pName_pad hn, bd_ok]
  simp only [List.cons_append, List.nil_append]
  rw [pNum_one a1 (by omega) (by omega), bd_ok, pNum_one hln.1 hln.2 hln.2, bd_ok, pNum_one a7 hsc hsc, bd_ok, Int.toNat_of_nonneg a1, Int.toNat_of_nonneg hln.1, Int.toNat_of_nonneg a7]
theorem pKey_shp {x : Key} (hn : isNm x.1 = true) (t : List UInt8) : pKey (shpK x ++ t) = .ok (x, t) := by
  obtain ⟨nm, b⟩ := x
  unfold pKey shpK
  rw [List.append_assoc, pName_pad hn, bd_ok, List.singleton_append, pNum_bB, bd_ok]
  cases b <;> rfl
theorem pRec_rcB {r : Rcd} {sz : Nat} (h1 : r.1 = true → r.2 = ByteArray.empty) (h2 : r.1 = false → r.2.size = sz) (t : List UInt8) : pRec sz (rcB r ++ t) = .ok (r, t) := by
  obtain ⟨b, s⟩ := r
  unfold pRec rcB
  rw [List.cons_append, pNum_bB, bd_ok]
  cases b with
  | true =>
    obtain rfl := h1 rfl
    rfl
  | false =>
    have hs : (bL s).length = sz := h2 rfl
    show PE.bd (pTake sz (bL s ++ t)) _ = _
    unfold pTake
    rw [if_neg (by rw [List.length_append]; omega), bd_ok, List.take_append_of_le_length (by omega), List.take_of_length_le (by omega), List.drop_append_of_le_length (by omega), List.drop_of_length_le (by omega), S_bL]
    rfl
theorem pTable_tblB {tb : Tbl} (h : (chkTbl tb).2 = 0) (t : List UInt8) : pTable (tblB tb ++ t) = .ok (tb, t) := by
  obtain ⟨hf, h60, hrec⟩ := tbl_ok h
  obtain ⟨hn, hfm, hk4, hkn⟩ := file_ok hf
  obtain ⟨hfl, hsw, h20⟩ := fmt_ok hfm
  have hfn := (fmt_few hfm).1
  have hwd : ∀ x ∈ tb.1.2.1.2, wd x.2 ≤ 200 := by
    have : ∀ (l : List Fld), ∀ x ∈ l, wd x.2 ≤ sumW l := by
      intro l
      induction l with
      | nil => intro x hx; simp at hx
      | cons y l ih =>
        intro x hx
        simp only [sumW]
        have := sumW_rng l
        have := wd_rng y.2
        rcases List.mem_cons.1 hx with rfl | hx
        · omega
        · have := ih x hx; omega
    intro x hx
    have := this _ x hx
    omega
  unfold pTable pFile tblB
  rw [List.append_assoc, pName_pad hn, bd_ok, List.append_assoc, pName_pad hfn, bd_ok]
  unfold shp
  simp only [List.append_assoc, List.cons_append]
  rw [pNum_one (by omega) (by omega) (by omega), bd_ok, Int.toNat_natCast, pMany_flat pField shpF tb.1.2.1.2 (fun x hx t => pField_shp (hfl x hx).1 (hfl x hx).2.1 (hwd x hx) (hfl x hx).2.2 t), bd_ok,
    pNum_one (by omega) (by omega) (by omega), bd_ok, Int.toNat_natCast, pMany_flat pKey shpK tb.1.2.2.1 (fun x hx t => pKey_shp (hkn x hx) t), bd_ok, pNum_bB, bd_ok, bd_ok]
  have hu : ((if tb.1.2.2.2 = true then 1 else 0 : Nat) == 1) = tb.1.2.2.2 := by cases tb.1.2.2.2 <;> rfl
  rw [hu, show ((tb.1.1, ((tb.1.2.1.1, tb.1.2.1.2), (tb.1.2.2.1, tb.1.2.2.2))) : Fil) = tb.1 from rfl, if_neg (fun c => c hf)]
  rw [pNum_one (by omega) (by omega) (by omega), bd_ok, Int.toNat_natCast]
  have hrs := pMany_flat (pRec (sumW tb.1.2.1.2).toNat) rcB tb.2 (fun r hr t => pRec_rcB (rE_ok hfm (hrec r hr)).1 (fun hb => by have := (rE_ok hfm (hrec r hr)).2 hb; omega) t) t
  rw [hrs, bd_ok]
theorem tblsIn_strm {l : List Tbl} (h : (chkTs l).2 = 0) : tblsIn (strm l) = (l, 0) := by
  have h8 := (ts_ok h).1
  have hm := pMany_flat pTable tblB l (fun tb htb t => pTable_tblB (ts_mem h htb) t) []
  rw [List.append_nil] at hm
  unfold tblsIn strm
  rw [pNum_one (by omega) (by omega) (by omega), bd_ok, Int.toNat_natCast, hm]
  show (if ([] : List UInt8) ≠ [] then ([], 10) else if (chkTs l).2 ≠ 0 then ([], (chkTs l).2) else (l, 0) : List Tbl × Int) = _
  rw [if_neg (by simp), if_neg (fun c => c h)]
end Go.Proofs.YtobgkcamonlnkaaGreatDoor
set_option linter.unusedVariables false
set_option linter.unusedSimpArgs false
namespace Go.Proofs.YtobgkcamonlnkaaGreatDoor
open Go.Ab

theorem blk_ok {vol num vols : Nat} {data : List UInt8} {last : Bool} (hv : vol ≤ 255) (hn : num < 65536) (hw : vols ≤ 255) (hd : 1 ≤ data.length ∧ data.length ≤ 52) (hl : last = true ∨ data.length = 52) :
    blkE (blkB (vol : Int) (num : Int) data last (vols : Int)) (vol : Int) (num : Int) (vols : Int) last = 0 ∧ pay (S (blkB (vol : Int) (num : Int) data last (vols : Int))) = data := by
  have hH := blkH_length (vol := (vol : Int)) (num := (num : Int)) (last := last) (vols := (vols : Int)) hd.2
  have hcl : ∀ x : Int, (bg x 4).length = 4 := fun x => bg_length x 4
  generalize hX : blkB (vol : Int) (num : Int) data last (vols : Int) = X
  have e0 : X = blkH (vol : Int) (num : Int) data last (vols : Int) ++ bg (sumG 1 (blkH (vol : Int) (num : Int) data last (vols : Int))) 4 := hX.symm
  have hlen : X.length = 64 := by rw [e0, List.length_append, hH, hcl]
  have t60 : X.take 60 = blkH (vol : Int) (num : Int) data last (vols : Int) := by rw [e0]; exact List.take_left' hH
  have d60 : X.drop 60 = bg (sumG 1 (blkH (vol : Int) (num : Int) data last (vols : Int))) 4 := by rw [e0]; exact List.drop_left' hH
  obtain ⟨b1, b2, hb⟩ : ∃ b1 b2, bg (num : Int) 2 = [b1, b2] := by
    have h2 := bg_length (num : Int) 2
    match hb : bg (num : Int) 2, h2 with
    | [b1, b2], _ => exact ⟨b1, b2, rfl⟩
  let c := oneB ((data.length : Int) + if last = true then 128 else 0)
  have hc : (c.toNat : Int) = (data.length : Int) + if last = true then 128 else 0 := by
    have := oneB_int ((data.length : Int) + if last = true then 128 else 0)
    show ((oneB ((data.length : Int) + if last = true then 128 else 0)).toNat : Int) = _
    rw [this]
    cases last <;> simp <;> omega
  have eH : blkH (vol : Int) (num : Int) data last (vols : Int) = oneB (vol : Int) :: b1 :: b2 :: c :: (data ++ (List.replicate (52 - data.length) 0 ++ [oneB (vols : Int), 0, 0, 0])) := by
    unfold blkH
    rw [hb]
    simp only [List.singleton_append, List.cons_append, List.nil_append, List.append_assoc]
    rfl
  have eX : X = oneB (vol : Int) :: b1 :: b2 :: c :: (data ++ (List.replicate (52 - data.length) 0 ++ (oneB (vols : Int) :: 0 :: 0 :: 0 :: bg (sumG 1 (blkH (vol : Int) (num : Int) data last (vols : Int))) 4))) := by
    rw [e0]
    conv => lhs; rw [eH]
    simp only [List.cons_append, List.append_assoc, List.nil_append]
    rw [← eH]
  have g0 : X.getD 0 0 = oneB (vol : Int) := by rw [eX]; rfl
  have g3 : X.getD 3 0 = c := by rw [eX]; rfl
  have g12 : (X.drop 1).take 2 = bg (num : Int) 2 := by rw [eX, hb]; rfl
  let A := oneB (vol : Int) :: b1 :: b2 :: c :: data
  have lA : A.length = 4 + data.length := by show (oneB (vol : Int) :: b1 :: b2 :: c :: data).length = _; simp only [List.length_cons]; omega
  have eA : X = (A ++ List.replicate (52 - data.length) 0) ++ (oneB (vols : Int) :: 0 :: 0 :: 0 :: bg (sumG 1 (blkH (vol : Int) (num : Int) data last (vols : Int))) 4) := by
    conv => lhs; rw [eX]
    show _ = ((oneB (vol : Int) :: b1 :: b2 :: c :: data) ++ _) ++ _
    simp only [List.cons_append, List.append_assoc]
  have lB : (A ++ List.replicate (52 - data.length) 0).length = 56 := by rw [List.length_append, lA, List.length_replicate]; omega
  have t56 : X.take 56 = A ++ List.replicate (52 - data.length) 0 := by rw [eA]; exact List.take_left' lB
  have g56 : X.getD 56 0 = oneB (vols : Int) := by
    have : X[56]? = some (oneB (vols : Int)) := by
      rw [eA, List.getElem?_append_right (by omega), lB]; rfl
    exact getD_of this
  have z1 : zs ((X.take 56).drop (4 + data.length)) = true := by
    rw [t56, List.drop_left' lA]
    unfold zs
    simp
  have z2 : zs ((X.take 60).drop 57) = true := by
    rw [t60, eH]
    have : (oneB (vol : Int) :: b1 :: b2 :: c :: (data ++ (List.replicate (52 - data.length) 0 ++ [oneB (vols : Int), 0, 0, 0]))) = (A ++ List.replicate (52 - data.length) 0 ++ [oneB (vols : Int)]) ++ [0, 0, 0] := by
      show _ = ((oneB (vol : Int) :: b1 :: b2 :: c :: data) ++ _ ++ _) ++ _
      simp only [List.cons_append, List.append_assoc, List.nil_append]
    rw [this, List.drop_left' (by rw [List.length_append, lB]; rfl)]
    rfl
  have hsz : bsz X = data.length := by
    unfold bsz
    rw [g3]
    cases last <;> simp at hc <;> omega
  have hsay : bsay X = last := by
    unfold bsay
    rw [g3]
    cases last <;> simp at hc ⊢ <;> omega
  have hfrm : frmB X last = true := by
    unfold frmB
    rw [hsz, z1, z2]
    rcases hl with rfl | hl
    · simp; omega
    · simp [hl]
  have hord : ordB X (vol : Int) (num : Int) = true := by
    unfold ordB
    have h2 : (256 : Int) ^ 2 = 65536 := by decide
    rw [g0, g12, oneB_int, val_bg 2 (num : Int) (by omega) (by omega)]
    simp
    omega
  have hsum : val (X.drop 60) = sumG 1 (X.take 60) := by
    rw [t60, d60]
    have sr := sumG_rng (blkH (vol : Int) (num : Int) data last (vols : Int)) 1 (by decide) (by decide)
    have h4 : (256 : Int) ^ 4 = 4294967296 := by decide
    exact val_bg 4 _ sr.1 (by omega)
  refine ⟨?_, ?_⟩
  · unfold blkE
    rw [if_neg (fun c => c hlen), if_neg (fun c => c hsum), hfrm, hord, if_neg (show ¬ true = false by decide), if_neg (show ¬ true = false by decide), g56, oneB_int, if_neg (by omega), hsay]
    cases last <;> rfl
  · unfold pay
    rw [bL_S, hsz]
    have : X.take (4 + data.length) = A := by
      rw [eA, List.append_assoc]; exact List.take_left' lA
    rw [this]
    rfl

def cnt (r n v : Nat) : Nat := min r (n - v * r)
theorem filt (r v : Nat) (hr : 1 ≤ r) : ∀ n, (List.range n).filter (fun j => j / r == v) = List.range' (v * r) (cnt r n v) := by
  intro n
  induction n with
  | zero => unfold cnt; simp
  | succ n ih =>
    rw [List.range_succ, List.filter_append, ih]
    have hdm := Nat.div_add_mod n r
    have hml := Nat.mod_lt n hr
    by_cases h : n / r = v
    · have h1 : (n / r == v) = true := by simpa using h
      have hm : v * r = r * (n / r) := by rw [h, Nat.mul_comm]
      have hc : cnt r n v = n - v * r := by unfold cnt; omega
      have hc2 : cnt r (n + 1) v = (n - v * r) + 1 := by unfold cnt; omega
      rw [hc, hc2, List.range'_concat]
      simp only [List.filter_cons, h1, if_true, List.filter_nil]
      congr 2
      omega
    · have h1 : (n / r == v) = false := by simpa using h
      simp only [List.filter_cons, h1, List.filter_nil, List.append_nil]
      have : cnt r (n + 1) v = cnt r n v := by
        unfold cnt
        rcases Nat.lt_or_gt_of_ne h with h2 | h2
        · have : (n / r + 1) * r ≤ v * r := Nat.mul_le_mul_right _ h2
          have e : (n / r + 1) * r = r * (n / r) + r := by rw [Nat.add_mul, Nat.one_mul, Nat.mul_comm]
          omega
        · have : (v + 1) * r ≤ n / r * r := Nat.mul_le_mul_right _ h2
          have e : (v + 1) * r = v * r + r := by rw [Nat.add_mul, Nat.one_mul]
          have e2 : n / r * r = r * (n / r) := Nat.mul_comm _ _
          omega
      rw [this]
      simp
theorem bls_rng (s : List UInt8) (r v : Nat) (hr : 1 ≤ r) (n : Nat) : bls s r v n = (List.range' (v * r) (cnt r n v)).map (bk s r) := by
  unfold bls
  rw [filt r v hr]
theorem chks (s : List UInt8) : ∀ (c a : Nat), (List.range' a c).flatMap (chk s) = (s.drop (a * 52)).take (c * 52) := by
  intro c
  induction c with
  | zero => intro a; simp
  | succ c ih =>
    intro a
    rw [List.range'_succ, List.flatMap_cons, ih, show (c + 1) * 52 = 52 + c * 52 by omega, List.take_add, List.drop_drop]
    unfold chk
    rw [show a * 52 + 52 = (a + 1) * 52 by omega]

theorem bk_ok {s : List UInt8} {r v k : Nat} (hr : 1 ≤ r) (hr2 : r ≤ 60) (hk : k < cnt r (nbl s) v) (hn : nbl s ≤ 360) (hV : vls (nbl s) r ≤ 6) :
    bE (vls (nbl s) r) v (cnt r (nbl s) v) k (v * r + k) (bk s r (v * r + k)) = 0 ∧ pay (bk s r (v * r + k)) = chk s (v * r + k) := by
  have hk1 : k < r ∧ v * r + k < nbl s := by unfold cnt at hk; omega
  have hdv : (v * r + k) / r = v := by
    rw [Nat.mul_comm, Nat.mul_add_div hr, Nat.div_eq_of_lt hk1.1, Nat.add_zero]
  have hlt := vls_lt hr hk1.2
  rw [hdv] at hlt
  have hlast : (v * r + k == nbl s - 1) = (v + 1 == vls (nbl s) r && k + 1 == cnt r (nbl s) v) := by
    rw [Bool.eq_iff_iff]
    simp only [beq_iff_eq, Bool.and_eq_true]
    constructor
    · intro h
      have e : nbl s = (v * r + k) + 1 := by omega
      have e2 := vls_succ (r := r) (i := v * r + k) hr
      rw [← e, hdv] at e2
      refine ⟨e2.symm, ?_⟩
      unfold cnt
      omega
    · intro ⟨h1, h2⟩
      have e := vls_le (n := nbl s) (r := r) (V := v + 1) hr (by omega)
      have e2 : (v + 1) * r = v * r + r := by rw [Nat.add_mul, Nat.one_mul]
      unfold cnt at h2
      omega
  have hcl : 1 ≤ (chk s (v * r + k)).length ∧ (chk s (v * r + k)).length ≤ 52 := by
    have := nbl_lt hk1.2
    unfold chk
    rw [List.length_take, List.length_drop]
    omega
  have hfull : (v * r + k == nbl s - 1) = true ∨ (chk s (v * r + k)).length = 52 := by
    by_cases h : v * r + k = nbl s - 1
    · exact .inl (by simpa using h)
    · refine .inr ?_
      have := nbl_lt (s := s) (i := v * r + k + 1) (by omega)
      unfold chk
      rw [List.length_take, List.length_drop]
      omega
  have h := blk_ok (vol := v + 1) (num := v * r + k + 1) (vols := vls (nbl s) r) (data := chk s (v * r + k)) (last := (v * r + k == nbl s - 1)) (by omega) (by omega) (by omega) hcl hfull
  have hbk : bk s r (v * r + k) = S (blkB ((v + 1 : Nat) : Int) ((v * r + k + 1 : Nat) : Int) (chk s (v * r + k)) (v * r + k == nbl s - 1) (vls (nbl s) r : Nat)) := by
    unfold bk
    rw [hdv]
  rw [hbk]
  refine ⟨?_, h.2⟩
  unfold bE
  rw [bL_S, ← hlast]
  exact h.1
theorem rdBs_vol {s : List UInt8} {r v : Nat} (hr : 1 ≤ r) (hr2 : r ≤ 60) (hn : nbl s ≤ 360) (hV : vls (nbl s) r ≤ 6) : ∀ (c k : Nat) (d : List UInt8), k + c = cnt r (nbl s) v →
    rdBs (vls (nbl s) r) v (cnt r (nbl s) v) ((List.range' (v * r + k) c).map (bk s r)) k (v * r + k) d = .inr (v * r + k + c, d ++ (List.range' (v * r + k) c).flatMap (chk s)) := by
  intro c
  induction c with
  | zero => intro k d h; simp [rdBs]
  | succ c ih =>
    intro k d h
    obtain ⟨h1, h2⟩ := bk_ok (s := s) (r := r) (v := v) (k := k) hr hr2 (by omega) hn hV
    rw [List.range'_succ, List.map_cons]
    simp only [rdBs]
    rw [if_neg (fun c => c h1), h2]
    have := ih (k + 1) (d ++ chk s (v * r + k)) (by omega)
    rw [show v * r + (k + 1) = v * r + k + 1 by omega] at this
    rw [this, List.flatMap_cons, List.append_assoc, show v * r + k + 1 + c = v * r + k + (c + 1) by omega]
theorem nms_ok {l : List ByteArray} : ∀ {m : List ByteArray} {i : Nat}, nmsE l m i = 0 → ∀ (j : Nat) x, m[j]? = some x → isNm x = true ∧ ((l.take (i + j)).any fun y => strEq y x) = false
  | [], i, h, j, x, hx => by simp at hx
  | y :: m, i, h, j, x, hx => by
    unfold nmsE at h
    cases h1 : isNm y with
    | false => rw [h1, if_pos rfl] at h; exact absurd h (by decide)
    | true =>
      rw [if_neg (show ¬ isNm y = false by rw [h1]; decide)] at h
      cases h2 : ((l.take i).any fun z => strEq z y) with
      | true => rw [if_pos h2] at h; exact absurd h (by decide)
      | false =>
        rw [if_neg (show ¬ ((l.take i).any fun z => strEq z y) = true by rw [h2]; decide)] at h
        cases j with
        | zero =>
          simp only [List.getElem?_cons_zero, Option.some.injEq] at hx
          subst hx
          exact ⟨h1, h2⟩
        | succ j =>
          rw [List.getElem?_cons_succ] at hx
          have := nms_ok h j x hx
          rwa [show i + 1 + j = i + (j + 1) by omega] at this
theorem rd_vol {names : List ByteArray} {s : List UInt8} {r : Nat} (hr : 1 ≤ r) (hr2 : r ≤ 60) (hN : nmsE names names 0 = 0) (hV : vls (nbl s) r ≤ names.length) (h6 : names.length ≤ 6) (hs : 1 ≤ s.length) :
    rd (volL names s r) = .inr s := by
  have hn : nbl s ≤ 360 := by have := vls_le (n := nbl s) (r := r) (V := 6) hr (by omega); omega
  have hn1 : 1 ≤ nbl s := by unfold nbl; omega
  have hV1 : 1 ≤ vls (nbl s) r := by have := vls_lt (n := nbl s) (r := r) (i := 0) hr (by omega); rw [Nat.zero_div] at this; omega
  have hlen : (volL names s r).length = vls (nbl s) r := by unfold volL; simp
  let f : Nat → Vol := fun v => (names.getD v ByteArray.empty, bls s r v (nbl s))
  have hvf : volL names s r = (List.range' 0 (vls (nbl s) r)).map f := by unfold volL; rw [List.range_eq_range']
  have key : ∀ (c v : Nat) (d : List UInt8), v + c = vls (nbl s) r → rdVs (volL names s r) (vls (nbl s) r) ((List.range' v c).map f) v (v * r) d = .inr (d ++ (List.range' (v * r) (nbl s - v * r)).flatMap (chk s)) := by
    intro c
    induction c with
    | zero =>
      intro v d h
      have := vls_le (n := nbl s) (r := r) (V := v) hr (by omega)
      rw [show nbl s - v * r = 0 by omega]
      simp [rdVs]
    | succ c ih =>
      intro v d h
      have hvn : v < names.length := by omega
      have hx : names[v]? = some names[v] := List.getElem?_eq_getElem hvn
      obtain ⟨n1, n2⟩ := nms_ok hN v _ hx
      rw [Nat.zero_add] at n2
      have hvr : v * r < nbl s := by
        rcases Nat.lt_or_ge (v * r) (nbl s) with h1 | h1
        · exact h1
        · exfalso
          have e : vls (nbl s) r ≤ v := by
            have : vls (nbl s) r = (nbl s + r - 1) / r := rfl
            rw [this]
            have h2 : nbl s + r - 1 < (v + 1) * r := by rw [Nat.add_mul]; omega
            have := (Nat.div_lt_iff_lt_mul hr).2 h2
            omega
          omega
      have hcnt : 1 ≤ cnt r (nbl s) v ∧ cnt r (nbl s) v ≤ 60 := by unfold cnt; omega
      have hbl : (f v).2 = (List.range' (v * r) (cnt r (nbl s) v)).map (bk s r) := bls_rng s r v hr (nbl s)
      have hbll : (f v).2.length = cnt r (nbl s) v := by rw [hbl]; simp
      have hnm : (f v).1 = names[v] := getD_of hx
      have hany : (((volL names s r).take v).any fun y => strEq y.1 (f v).1) = false := by
        rw [hnm]
        rw [Bool.eq_false_iff]
        intro ha
        obtain ⟨y, hy, he⟩ := List.any_eq_true.1 ha
        obtain ⟨j, hj⟩ := List.mem_iff_getElem?.1 hy
        rw [List.getElem?_take] at hj
        by_cases hjv : j < v
        · rw [if_pos hjv] at hj
          have hj2 : (volL names s r)[j]? = some (f j) := by
            rw [hvf, List.getElem?_map, List.getElem?_range' (by omega)]
            simp
          rw [hj2] at hj
          cases hj
          have hxj : names[j]? = some names[j] := List.getElem?_eq_getElem (by omega)
          have e : (f j).1 = names[j] := getD_of hxj
          rw [e] at he
          have : ((names.take v).any fun y => strEq y names[v]) = true := List.any_eq_true.2 ⟨names[j], List.mem_iff_getElem?.2 ⟨j, by rw [List.getElem?_take, if_pos hjv, hxj]⟩, he⟩
          rw [this] at n2
          exact absurd n2 (by decide)
        · rw [if_neg hjv] at hj; cases hj
      have hvolE : volE ((volL names s r).take v) (f v) = 0 := by
        unfold volE
        rw [if_neg (show ¬ isNm (f v).1 = false by rw [hnm, n1]; decide), if_neg (by rw [hany]; decide), if_neg (by omega), if_neg (by omega)]
      rw [List.range'_succ, List.map_cons]
      simp only [rdVs]
      rw [if_neg (fun c => c hvolE)]
      have hb := rdBs_vol (s := s) (r := r) (v := v) hr hr2 hn (by omega) (cnt r (nbl s) v) 0 d (by omega)
      rw [Nat.add_zero] at hb
      have hb2 : rdBs (vls (nbl s) r) v (f v).2.length (f v).2 0 (v * r) d = .inr (v * r + cnt r (nbl s) v, d ++ (List.range' (v * r) (cnt r (nbl s) v)).flatMap (chk s)) := by
        rw [hbll, hbl]; exact hb
      rw [hb2]
      simp only
      cases c with
      | zero =>
        have := vls_le (n := nbl s) (r := r) (V := v + 1) hr (by omega)
        have e2 : (v + 1) * r = v * r + r := by rw [Nat.add_mul, Nat.one_mul]
        have : cnt r (nbl s) v = nbl s - v * r := by unfold cnt; omega
        rw [this]
        simp [rdVs]
      | succ c =>
        have e2 : (v + 1) * r = v * r + r := by rw [Nat.add_mul, Nat.one_mul]
        have hfull : cnt r (nbl s) v = r := by
          have h1 : (v + 1) * r < nbl s := by
            rcases Nat.lt_or_ge ((v + 1) * r) (nbl s) with h1 | h1
            · exact h1
            · exfalso
              have e : vls (nbl s) r ≤ v + 1 := by
                have : vls (nbl s) r = (nbl s + r - 1) / r := rfl
                rw [this]
                have h2 : nbl s + r - 1 < (v + 1 + 1) * r := by rw [Nat.add_mul]; omega
                have := (Nat.div_lt_iff_lt_mul hr).2 h2
                omega
              omega
          unfold cnt
          omega
        rw [hfull, ← e2, ih (v + 1) _ (by omega), List.append_assoc, ← List.flatMap_append]
        congr 2
        have := List.range'_append (s := v * r) (m := r) (n := nbl s - (v + 1) * r) (step := 1)
        rw [Nat.one_mul, ← e2] at this
        rw [this]
        congr 2
        unfold cnt at hfull
        omega
  unfold rd
  rw [if_neg (by omega), if_neg (by omega), hlen]
  have h := key (vls (nbl s) r) 0 [] (by omega)
  rw [← hvf, Nat.zero_mul, Nat.sub_zero, chks] at h
  rw [h]
  have : s.take (nbl s * 52) = s := List.take_of_length_le (by unfold nbl; omega)
  simp only [List.nil_append, Nat.zero_mul, List.drop_zero, this]
theorem savedS_ok {l : List Tbl} {names : List ByteArray} {room : Int} (h : (savedS l names room).2 = 0) : (chkTs l).2 = 0 ∧ rd (savedS l names room).1 = .inr (strm l) := by
  unfold savedS at h ⊢
  by_cases h1 : (chkTs l).2 = 0
  · rw [if_neg (fun c => c h1)] at h ⊢
    by_cases h2 : room < 1 ∨ room > 60
    · rw [if_pos h2] at h; exact absurd h (by decide)
    · rw [if_neg h2] at h ⊢
      by_cases h3 : names.length > 6
      · rw [if_pos h3] at h; exact absurd h (by decide)
      · rw [if_neg h3] at h ⊢
        by_cases h4 : nmsE names names 0 = 0
        · rw [if_neg (fun c => c h4)] at h ⊢
          by_cases h5 : vls (nbl (strm l)) room.toNat > names.length
          · rw [if_pos h5] at h; exact absurd h (by decide)
          · rw [if_neg h5]
            exact ⟨h1, rd_vol (by omega) (by omega) h4 (by omega) (by omega) (strm_length h1).1⟩
        · rw [if_pos h4] at h; exact absurd h h4
  · rw [if_pos h1] at h; exact absurd h h1
end Go.Proofs.YtobgkcamonlnkaaGreatDoor
set_option linter.unusedVariables false
set_option linter.unusedSimpArgs false
namespace Go.Proofs.YtobgkcamonlnkaaGreatDoor
open Go.Ab

abbrev dT : Tbl := ((ByteArray.empty, ((ByteArray.empty, []), ([], false))), [])
def nE (l saved : List Tbl) (names : List ByteArray) : List ByteArray → Nat → Int
  | [], _ => 0
  | s :: m, i => if tAt s saved < 0 then 11 else if ((names.take i).any fun y => strEq y s) = true then 13
    else if 0 ≤ tAt s l ∧ lev (l.getD (tAt s l).toNat dT).1 ≠ lev (saved.getD (tAt s saved).toNat dT).1 then 15 else nE l saved names m (i + 1)
def was (l : List Tbl) (s : ByteArray) : Int := if 0 ≤ tAt s l then 1 else 0
def ov (l : List Tbl) (names : List ByteArray) : List Tbl → List Tbl → List Tbl
  | [], o => o
  | t :: m, o => if (names.any fun y => strEq y t.1.1) = false then ov l names m o else if 0 ≤ tAt t.1.1 l then ov l names m (o.set (tAt t.1.1 l).toNat t) else ov l names m (o ++ [t])
noncomputable def resV (vs : List Vol) : List Tbl × Int := match rd vs with | .inl (_, _, e) => ([], e) | .inr d => tblsIn d
noncomputable def ovr (l : List Tbl) (vs : List Vol) (names : List ByteArray) : List Tbl × List Int × Int :=
  if (chkTs l).2 ≠ 0 then ([], [], (chkTs l).2) else if (resV vs).2 ≠ 0 then ([], [], (resV vs).2) else if names.length > 8 then ([], [], 2)
  else if nE l (resV vs).1 names names 0 ≠ 0 then ([], [], nE l (resV vs).1 names names 0)
  else if (ov l names (resV vs).1 l).length > 8 then ([], [], 30) else (ov l names (resV vs).1 l, names.map (was l), 0)
theorem resV_ok (vs : List Vol) (h : (resV vs).2 = 0) : (chkTs (resV vs).1).2 = 0 := by
  unfold resV at h ⊢
  match hr : rd vs with
  | .inl (i, k, e) => rw [hr] at h; exact absurd h (rd_err hr)
  | .inr d =>
    simp only
    rcases tblsIn_ok d with h1 | h1
    · rw [h1]; rfl
    · exact h1.1

theorem f588q (l : List Tbl) (h : l.length ≤ 900) (ht : ∀ t ∈ l, t.1.2.1.2.length ≤ 900 ∧ t.1.2.2.1.length ≤ 900 ∧ t.2.length ≤ 900) : f588F 1000 l = some l := by
  unfold f588F f588l0
  refine (iter_list (A := List Tbl) l (fun i a => (l, (l.length : Int), (i : Int), a, ())) (fun m a => some (a ++ m)) (fun i a => a.length = i) ?_ ?_ (k := 1000) (by omega) [] rfl).trans rfl
  · intro rec a _
    unfold f588l0s
    simp only [ltn_self, cond_false, List.append_nil]
  · intro rec i a t hx hi hp
    obtain ⟨h1, h2, h3⟩ := ht t (List.mem_of_getElem? hx)
    have c1 : f626F 1000 t.1.2.1.2 = some t.1.2.1.2 := by unfold f626F cloneF; rw [bif_true (by simp; omega)]
    have c2 : f627F 1000 t.1.2.2.1 = some t.1.2.2.1 := by unfold f627F cloneF; rw [bif_true (by simp; omega)]
    have c3 : f628F 1000 t.2 = some t.2 := by unfold f628F cloneF; rw [bif_true (by simp; omega)]
    unfold f588l0s
    simp only [ltn hi, nn, Bool.and_self, cond_true, Int.toNat_natCast, getD_of hx, c1, c2, c3, bind_some', wi_succ (i := i) (by omega)]
    rw [bif_true (by simp; omega)]
    refine .inl ⟨a ++ [t], by simp [hp], rfl, by simp⟩

theorem lt_neg1 : decide ((-1 : Int) < 0) = true := rfl
theorem nat_ge (j : Nat) : decide ((j : Int) ≥ 0) = true := by simp
theorem nat_nlt (j : Nat) : decide ((j : Int) < 0) = false := by simp
theorem f542l2q (l saved : List Tbl) (names : List ByteArray) (hl : (chkTs l).2 = 0) (hs : (chkTs saved).2 = 0) (hn : names.length ≤ 8) (k1 : List Tbl × List ByteArray × List Tbl × List Int × Unit → Option (List Tbl × List Int × Int)) :
    f542l2 1000 (fun w18 => some ([], [], w18.2.2.1)) k1 (l, names, names, (names.length : Int), 0, saved, [], ()) =
      if nE l saved names names 0 ≠ 0 then some ([], [], nE l saved names names 0) else k1 (l, names, saved, names.map (was l), ()) := by
  have hl9 := (ts_few hl).1
  have hs9 := (ts_few hs).1
  unfold f542l2
  refine (iter_list (A := List Int) names (fun i w => (l, names, names, (names.length : Int), (i : Int), saved, w, ())) (fun m w => if nE l saved names m w.length ≠ 0 then some ([], [], nE l saved names m w.length) else k1 (l, names, saved, w ++ m.map (was l), ())) (fun i w => w.length = i) ?_ ?_ (k := 1000) (by omega) [] rfl).trans rfl
  · intro rec w _
    unfold f542l2s
    simp only [ltn_self, cond_false]
    rw [if_neg (show ¬ nE l saved names [] w.length ≠ 0 from fun c => c rfl), List.map_nil, List.append_nil]
  · intro rec i w s hx hi hp
    subst hp
    have hsl : sliceBds (0 : Int) (w.length : Int) (names.length : Int) = true := sliceB0 (by omega)
    have h587 := f587q (names.take w.length) s (by rw [List.length_take]; omega)
    unfold f542l2s f542p1
    simp only [ltn hi, nn, Bool.and_self, cond_true, Int.toNat_natCast, getD_of hx, f550q saved s hs9, f550q l s hl9, bind_some', hsl, List.drop_zero, h587, wi_succ (i := w.length) (by omega)]
    have key : ∀ e : Int, e ≠ 0 → nE l saved names (s :: names.drop (w.length + 1)) w.length = e →
        (some ([], [], e) : Option (List Tbl × List Int × Int)) = if nE l saved names (s :: names.drop (w.length + 1)) w.length ≠ 0 then some ([], [], nE l saved names (s :: names.drop (w.length + 1)) w.length) else k1 (l, names, saved, w ++ (s :: names.drop (w.length + 1)).map (was l), ()) := by
      intro e he h
      rw [h, if_pos he]
    rcases tAt_cases s saved with ⟨e1, -⟩ | ⟨j, ts, e1, hj, -⟩
    · refine .inr ?_
      rw [e1, lt_neg1, cond_true]
      refine key 11 (by decide) ?_
      simp only [nE]
      rw [if_pos (by rw [e1]; decide)]
    · rw [e1, nat_nlt, cond_false]
      cases ha : ((names.take w.length).any fun y => strEq y s) with
      | true =>
        refine .inr ?_
        rw [cond_true]
        refine key 13 (by decide) ?_
        simp only [nE]
        rw [if_neg (by rw [e1]; omega), if_pos ha]
      | false =>
        rw [cond_false]
        have hjs := (List.getElem?_eq_some_iff.1 hj).1
        have lev2 := f570q (tbl_ok (ts_mem hs (List.mem_of_getElem? hj))).1
        have step : ∀ (x : Int), was l s = x → nE l saved names (s :: names.drop (w.length + 1)) w.length = nE l saved names (names.drop (w.length + 1)) (w.length + 1) →
            (if nE l saved names (s :: names.drop (w.length + 1)) w.length ≠ 0 then some ([], [], nE l saved names (s :: names.drop (w.length + 1)) w.length) else k1 (l, names, saved, w ++ (s :: names.drop (w.length + 1)).map (was l), ())) =
            if nE l saved names (names.drop (w.length + 1)) (w ++ [x]).length ≠ 0 then some ([], [], nE l saved names (names.drop (w.length + 1)) (w ++ [x]).length) else k1 (l, names, saved, (w ++ [x]) ++ (names.drop (w.length + 1)).map (was l), ()) := by
          intro x hx h
          rw [h, List.length_append, List.length_singleton, List.map_cons, hx, List.append_assoc, List.singleton_append]
        unfold f542p0
        rcases tAt_cases s l with ⟨e2, -⟩ | ⟨p, tl, e2, hp2, -⟩
        · simp only [e2, show decide ((-1 : Int) ≥ 0) = false from rfl, cond_false]
          rw [bif_true (by simp; omega)]
          refine .inl ⟨w ++ [0], by simp, by rw [wi_succ (by omega)], step 0 (by unfold was; rw [e2]; rfl) ?_⟩
          simp only [nE]
          rw [if_neg (by rw [e1]; omega), if_neg (by rw [ha]; decide), if_neg (by rw [e2]; omega)]
        · have hpl := (List.getElem?_eq_some_iff.1 hp2).1
          have lev1 := f570q (tbl_ok (ts_mem hl (List.mem_of_getElem? hp2))).1
          simp only [e2, nat_ge, cond_true, nn, ltn hpl, ltn hjs, Bool.and_self, Int.toNat_natCast, getD_of hp2, getD_of hj]
          rw [show ((tl.1.1, ((tl.1.2.1.1, tl.1.2.1.2), (tl.1.2.2.1, tl.1.2.2.2))) : Fil) = tl.1 from rfl, show ((ts.1.1, ((ts.1.2.1.1, ts.1.2.1.2), (ts.1.2.2.1, ts.1.2.2.2))) : Fil) = ts.1 from rfl, lev1, lev2]
          simp only [bind_some']
          by_cases hv : lev tl.1 = lev ts.1
          · rw [bif_false (by simpa using hv), bif_true (by simp; omega)]
            refine .inl ⟨w ++ [1], by simp, by rw [wi_succ (by omega)], step 1 (by unfold was; rw [e2, if_pos (by omega)]) ?_⟩
            simp only [nE]
            rw [if_neg (by rw [e1]; omega), if_neg (by rw [ha]; decide), if_neg]
            rw [e1, e2, Int.toNat_natCast, Int.toNat_natCast, getD_of hp2, getD_of hj]
            exact fun c => c.2 hv
          · refine .inr ?_
            rw [bif_true (by simpa using hv)]
            refine key 15 (by decide) ?_
            simp only [nE]
            rw [if_neg (by rw [e1]; omega), if_neg (by rw [ha]; decide), if_pos]
            rw [e1, e2, Int.toNat_natCast, Int.toNat_natCast, getD_of hp2, getD_of hj]
            exact ⟨by omega, hv⟩
theorem f542l4q {R : Type} (k0 : List Int × List Tbl × Unit → Option R) (l saved : List Tbl) (names : List ByteArray) (hl : l.length ≤ 8) (hs : saved.length ≤ 8) (hn : names.length ≤ 8) (w : List Int) :
    f542l4 1000 k0 (l, names, (saved.length : Int), 0, w, l, saved, ()) = k0 (w, ov l names saved l, ()) := by
  unfold f542l4
  refine iter_list (A := List Tbl) saved (fun i o => (l, names, (saved.length : Int), (i : Int), w, o, saved, ())) (fun m o => k0 (w, ov l names m o, ())) (fun i o => l.length ≤ o.length ∧ o.length ≤ 8 + i) ?_ ?_ (k := 1000) (by omega) l ⟨Nat.le_refl _, by omega⟩
  · intro rec o _
    unfold f542l4s
    simp only [ltn_self, cond_false, ov]
  · intro rec i o t hx hi hp
    unfold f542l4s f542p3
    simp only [ltn hi, nn, Bool.and_self, cond_true, Int.toNat_natCast, getD_of hx, f587q names t.1.1 (by omega), f550q l t.1.1 (by omega), bind_some', wi_succ (i := i) (by omega)]
    cases ha : (names.any fun y => strEq y t.1.1) with
    | false =>
      refine .inl ⟨o, by omega, rfl, ?_⟩
      simp only [ov]
      rw [if_pos ha]
    | true =>
      simp only [Bool.not_true, cond_false]
      rcases tAt_cases t.1.1 l with ⟨e2, -⟩ | ⟨p, tl, e2, hp2, -⟩
      · simp only [e2, show decide ((-1 : Int) ≥ 0) = false from rfl, cond_false]
        rw [bif_true (by simp; omega)]
        refine .inl ⟨o ++ [t], by simp; omega, rfl, ?_⟩
        simp only [ov]
        rw [if_neg (by rw [ha]; decide), if_neg (by rw [e2]; decide)]
      · have hpl := (List.getElem?_eq_some_iff.1 hp2).1
        simp only [e2, nat_ge, cond_true, nn, ltn (show p < o.length by omega), Bool.and_self, Int.toNat_natCast]
        refine .inl ⟨o.set p t, by simp; omega, rfl, ?_⟩
        simp only [ov]
        rw [if_neg (by rw [ha]; decide), if_pos (by rw [e2]; omega), e2, Int.toNat_natCast]
theorem f538r (vs : List Vol) : f538F 1000 vs = some (resV vs) := by
  rw [f538q]
  unfold resV
  cases rd vs <;> rfl
theorem f542q (l : List Tbl) (vs : List Vol) (names : List ByteArray) : f542F 1000 (l, vs, names) = some (ovr l vs names) := by
  unfold f542F ovr
  simp only [f515q, bind_some', f538r]
  by_cases h1 : (chkTs l).2 = 0
  · rw [bif_false (by rw [h1]; rfl), if_neg (fun c => c h1)]
    by_cases h2 : (resV vs).2 = 0
    · rw [bif_false (by rw [h2]; rfl), if_neg (fun c => c h2)]
      have hs := resV_ok vs h2
      obtain ⟨l9, lf⟩ := ts_few h1
      have hl8 := (ts_ok h1).1
      have hs8 := (ts_ok hs).1
      by_cases h3 : names.length > 8
      · rw [bif_true (by simp; omega), if_pos h3]
      · rw [bif_false (by simp; omega), if_neg h3]
        rw [f542l2q l (resV vs).1 names h1 hs (by omega)]
        by_cases h4 : nE l (resV vs).1 names names 0 = 0
        · rw [if_neg (fun c => c h4), if_neg (fun c => c h4)]
          simp only [f588q l l9 lf, bind_some']
          rw [f542l4q _ l (resV vs).1 names hl8 hs8 (by omega)]
          by_cases h5 : (ov l names (resV vs).1 l).length > 8
          · rw [bif_true (by simp; omega), if_pos h5]
          · rw [bif_false (by simp; omega), if_neg h5]
        · rw [if_pos h4, if_pos h4]
    · rw [bif_true (bne0 h2), if_pos h2]
  · rw [bif_true (bne0 h1), if_pos h1]
end Go.Proofs.YtobgkcamonlnkaaGreatDoor
set_option linter.unusedVariables false
set_option linter.unusedSimpArgs false
namespace Go.Proofs.YtobgkcamonlnkaaGreatDoor
open Go.Ab

theorem tAt_m1 (s : ByteArray) (l : List Tbl) : (tAt s l == -1) = decide (tAt s l < 0) := by
  rcases tAt_cases s l with ⟨e, -⟩ | ⟨j, t, e, -⟩
  · rw [e]; rfl
  · rw [e]
    rw [Bool.eq_iff_iff]; simp
def nw (l : List Tbl) (names : List ByteArray) (t : Tbl) : Bool := (names.any fun y => strEq y t.1.1) && decide (tAt t.1.1 l < 0)
theorem nodup_of {l : List ByteArray} (h : ∀ (j : Nat) s, l[j]? = some s → ((l.take j).any fun y => strEq y s) = false) : l.Nodup := by
  rw [List.nodup_iff_pairwise_ne, List.pairwise_iff_getElem]
  intro i j hi hj hij e
  have hx : l[j]? = some l[j] := List.getElem?_eq_getElem hj
  have h1 := h j _ hx
  have : ((l.take j).any fun y => strEq y l[j]) = true := List.any_eq_true.2 ⟨l[i], List.mem_iff_getElem?.2 ⟨i, by rw [List.getElem?_take, if_pos hij, List.getElem?_eq_getElem hi]⟩, strEq_iff.2 e⟩
  rw [this] at h1
  exact absurd h1 (by decide)
theorem tAt_m1' (s : ByteArray) (l : List Tbl) : (tAt s l != -1) = decide (0 ≤ tAt s l) := by
  rw [bne, tAt_m1, Bool.eq_iff_iff]; simp
theorem was_b (s : ByteArray) (l : List Tbl) : f69F 1000 (tAt s l != -1) = some (was l s) := by
  rw [f69b, tAt_m1']
  unfold was
  by_cases h : 0 ≤ tAt s l <;> simp [h]
theorem ov_mem {l : List Tbl} {names : List ByteArray} : ∀ {m o : List Tbl} {t : Tbl}, t ∈ ov l names m o → t ∈ o ∨ t ∈ m
  | [], o, t, h => .inl h
  | x :: m, o, t, h => by
    simp only [ov] at h
    split at h
    · rcases ov_mem h with h | h
      · exact .inl h
      · exact .inr (by simp [h])
    · split at h
      · rcases ov_mem h with h | h
        · rcases List.mem_or_eq_of_mem_set h with h | rfl
          · exact .inl h
          · exact .inr (by simp)
        · exact .inr (by simp [h])
      · rcases ov_mem h with h | h
        · rcases List.mem_append.1 h with h | h
          · exact .inl h
          · exact .inr (by rw [List.mem_singleton.1 h]; simp)
        · exact .inr (by simp [h])
end Go.Proofs.YtobgkcamonlnkaaGreatDoor
set_option linter.unusedVariables false
set_option linter.unusedSimpArgs false
namespace Go.Proofs.YtobgkcamonlnkaaGreatDoor
open Go.Ab

abbrev nmT (t : Tbl) : ByteArray := t.1.1
theorem runT_of {ts : List Tbl} : ∀ (l : List Tbl) (i : Nat), (∀ j t, l[j]? = some t → tE (ts.take (i + j)) t = 0) → runT ts l i = (0, 0)
  | [], i, _ => rfl
  | t :: l, i, h => by
    have h0 := h 0 t rfl
    rw [Nat.add_zero] at h0
    unfold runT
    rw [if_neg (fun c => c h0)]
    exact runT_of l (i + 1) fun j x hx => by have := h (j + 1) x (by simpa using hx); rwa [show i + 1 + j = i + (j + 1) by omega]
theorem chkTs_of {l : List Tbl} (h8 : l.length ≤ 8) (hc : ∀ t ∈ l, (chkTbl t).2 = 0) (hn : (l.map nmT).Nodup) : (chkTs l).2 = 0 := by
  unfold chkTs
  rw [if_neg (by omega), runT_of l 0 fun j t ht => ?_]
  unfold tE
  rw [if_neg (fun c => c (hc t (List.mem_of_getElem? ht))), if_neg]
  intro ha
  rw [Nat.zero_add] at ha
  obtain ⟨y, hy, he⟩ := List.any_eq_true.1 ha
  obtain ⟨i, hi⟩ := List.mem_iff_getElem?.1 hy
  rw [List.getElem?_take] at hi
  by_cases hij : i < j
  · rw [if_pos hij] at hi
    rw [List.nodup_iff_pairwise_ne, List.pairwise_iff_getElem] at hn
    have hj := (List.getElem?_eq_some_iff.1 ht).1
    have hil := (List.getElem?_eq_some_iff.1 hi).1
    have := hn i j (by simpa using hil) (by simpa using hj) hij
    rw [List.getElem_map, List.getElem_map, (List.getElem?_eq_some_iff.1 hi).2, (List.getElem?_eq_some_iff.1 ht).2] at this
    exact this (strEq_iff.1 he)
  · rw [if_neg hij] at hi; cases hi
theorem names_nd {l : List Tbl} (h : (chkTs l).2 = 0) : (l.map nmT).Nodup := nodup_of fun j s hj => by
  rw [List.getElem?_map] at hj
  match ht : l[j]?, hj with
  | some t, hj =>
    cases hj
    have := ((ts_ok h).2 j t ht).2
    rw [← List.map_take, List.any_map]
    exact this
theorem tAt_mem {l : List Tbl} (hn : (l.map nmT).Nodup) {t : Tbl} (ht : t ∈ l) : ∃ j : Nat, tAt t.1.1 l = (j : Int) ∧ l[j]? = some t := by
  rcases tAt_cases t.1.1 l with ⟨-, h⟩ | ⟨j, t', e, hj, h⟩
  · have : (l.any fun y => strEq y.1.1 t.1.1) = true := List.any_eq_true.2 ⟨t, ht, strEq_self _⟩
    rw [this] at h; exact absurd h (by decide)
  · refine ⟨j, e, ?_⟩
    obtain ⟨q, hq⟩ := List.mem_iff_getElem?.1 ht
    rw [List.nodup_iff_pairwise_ne, List.pairwise_iff_getElem] at hn
    have h1 := (List.getElem?_eq_some_iff.1 hj).1
    have h2 := (List.getElem?_eq_some_iff.1 hq).1
    have e1 := (List.getElem?_eq_some_iff.1 hj).2
    have e2 := (List.getElem?_eq_some_iff.1 hq).2
    rcases Nat.lt_trichotomy j q with hlt | rfl | hlt
    · have := hn j q (by simpa using h1) (by simpa using h2) hlt
      rw [List.getElem_map, List.getElem_map, e1, e2] at this
      exact absurd h this
    · exact hq
    · have := hn q j (by simpa using h2) (by simpa using h1) hlt
      rw [List.getElem_map, List.getElem_map, e1, e2] at this
      exact absurd h.symm this
theorem tAt_neg {s : ByteArray} {l : List Tbl} (h : tAt s l < 0) : s ∉ l.map nmT := by
  intro hm
  obtain ⟨t, ht, rfl⟩ := List.mem_map.1 hm
  rcases tAt_cases t.1.1 l with ⟨-, h2⟩ | ⟨j, t', e, hj, h2⟩
  · have : (l.any fun y => strEq y.1.1 t.1.1) = true := List.any_eq_true.2 ⟨t, ht, strEq_self _⟩
    rw [this] at h2; exact absurd h2 (by decide)
  · have e' : tAt (nmT t) l = (j : Int) := e
    omega
theorem set_map_same {α β : Type} (f : α → β) (l : List α) (p : Nat) (t : α) {x : α} (h : l[p]? = some x) (hf : f x = f t) : (l.set p t).map f = l.map f := by
  refine List.ext_getElem? fun i => ?_
  rw [List.getElem?_map, List.getElem?_map, List.getElem?_set]
  by_cases hi : p = i
  · subst hi
    have hl := (List.getElem?_eq_some_iff.1 h).1
    rw [if_pos rfl, if_pos hl, h]
    simp [hf]
  · rw [if_neg hi]
theorem ov_all {l : List Tbl} {names : List ByteArray} : ∀ {m o : List Tbl} {x : List ByteArray}, (m.map nmT).Nodup → (∀ t ∈ m, (names.any fun y => strEq y t.1.1) = true) → o.map nmT = l.map nmT ++ x →
    (ov l names m o).map nmT = o.map nmT ++ (m.filter (nw l names)).map nmT ∧ (∀ t ∈ m, t ∈ ov l names m o) ∧ (∀ t ∈ o, t.1.1 ∉ m.map nmT → t ∈ ov l names m o)
  | [], o, x, _, _, _ => ⟨by simp [ov], by simp, fun t ht _ => ht⟩
  | t :: m, o, x, hn, ha, ho => by
    obtain ⟨hn1, hn2⟩ := List.nodup_cons.1 hn
    have hat := ha t (by simp)
    simp only [ov]
    rw [hat, if_neg (show ¬ true = false by decide)]
    rcases tAt_cases t.1.1 l with ⟨e, -⟩ | ⟨p, tl, e, hp, hname⟩
    · rw [if_neg (by rw [e]; decide)]
      have hnw : nw l names t = true := by unfold nw; rw [hat, e]; rfl
      have ih := ov_all (l := l) (names := names) (m := m) (o := o ++ [t]) (x := x ++ [nmT t]) hn2 (fun y hy => ha y (by simp [hy])) (by rw [List.map_append, ho, List.append_assoc]; rfl)
      refine ⟨?_, fun y hy => ?_, fun y hy hyn => ?_⟩
      · rw [ih.1, List.filter_cons_of_pos hnw, List.map_append, List.append_assoc]; rfl
      · rcases List.mem_cons.1 hy with rfl | hy
        · exact ih.2.2 y (by simp) hn1
        · exact ih.2.1 y hy
      · exact ih.2.2 y (by simp [hy]) fun c => hyn (by rw [List.map_cons]; exact List.mem_cons_of_mem _ c)
    · rw [if_pos (by rw [e]; omega), e, Int.toNat_natCast]
      have hnw : nw l names t = false := by unfold nw; rw [e, decide_eq_false (show ¬ (p : Int) < 0 by omega), Bool.and_false]
      have hpl := (List.getElem?_eq_some_iff.1 hp).1
      have hop : (o.map nmT)[p]? = some (nmT t) := by
        rw [ho, List.getElem?_append_left (by simpa using hpl), List.getElem?_map, hp]
        show some tl.1.1 = _
        rw [hname]
      rw [List.getElem?_map] at hop
      match hq : o[p]?, hop with
      | some q, hop =>
        have hqn : nmT q = nmT t := by simpa using hop
        have hol := (List.getElem?_eq_some_iff.1 hq).1
        have hsm := set_map_same nmT o p t hq hqn
        have ih := ov_all (l := l) (names := names) (m := m) (o := o.set p t) (x := x) hn2 (fun y hy => ha y (by simp [hy])) (by rw [hsm, ho])
        refine ⟨?_, fun y hy => ?_, fun y hy hyn => ?_⟩
        · rw [ih.1, hsm, List.filter_cons_of_neg (by rw [hnw]; decide)]
        · rcases List.mem_cons.1 hy with rfl | hy
          · exact ih.2.2 y (List.mem_iff_getElem?.2 ⟨p, by rw [List.getElem?_set_self hol]⟩) hn1
          · exact ih.2.1 y hy
        · refine ih.2.2 y ?_ fun c => hyn (by rw [List.map_cons]; exact List.mem_cons_of_mem _ c)
          obtain ⟨r, hr⟩ := List.mem_iff_getElem?.1 hy
          refine List.mem_iff_getElem?.2 ⟨r, ?_⟩
          rw [List.getElem?_set]
          by_cases hpr : p = r
          · subst hpr
            rw [hq] at hr
            cases hr
            exact absurd (by rw [List.map_cons, ← hqn]; exact List.mem_cons_self ..) hyn
          · rw [if_neg hpr]; exact hr
theorem ovr_ok {l : List Tbl} {vs : List Vol} {names : List ByteArray} (h : (ovr l vs names).2.2 = 0) :
    (chkTs l).2 = 0 ∧ (resV vs).2 = 0 ∧ names.length ≤ 8 ∧ (ov l names (resV vs).1 l).length ≤ 8 ∧ ovr l vs names = (ov l names (resV vs).1 l, names.map (was l), 0) := by
  unfold ovr at h ⊢
  by_cases h1 : (chkTs l).2 = 0
  · rw [if_neg (fun c => c h1)] at h ⊢
    by_cases h2 : (resV vs).2 = 0
    · rw [if_neg (fun c => c h2)] at h ⊢
      by_cases h3 : names.length > 8
      · rw [if_pos h3] at h; exact absurd h (by decide)
      · rw [if_neg h3] at h ⊢
        by_cases h4 : nE l (resV vs).1 names names 0 = 0
        · have hne : ¬ nE l (resV vs).1 names names 0 ≠ 0 := fun c => c h4
          rw [if_neg hne] at h ⊢
          by_cases h5 : (ov l names (resV vs).1 l).length > 8
          · rw [if_pos h5] at h; exact absurd h (by decide)
          · rw [if_neg h5]
            exact ⟨h1, h2, by omega, by omega, rfl⟩
        · rw [if_pos h4] at h; exact absurd h h4
    · rw [if_pos h2] at h; exact absurd h h2
  · rw [if_pos h1] at h; exact absurd h h1
theorem fewTs_of {l : List Tbl} (h8 : l.length ≤ 8) (hc : ∀ t ∈ l, (chkTbl t).2 = 0) : fewTs l = true := by
  unfold fewTs
  rw [decide_eq_true (by omega), Bool.true_and, List.all_eq_true]
  intro t ht
  have h6 := hc t ht
  have h7 := tbl_ok h6
  obtain ⟨q1, -, q3, -⟩ := file_sizes h7.1
  unfold fewT fewR
  rw [decide_eq_true ⟨by omega, by omega, by omega⟩, Bool.true_and, List.all_eq_true]
  intro r hr
  have := rec_small h6 hr
  exact decide_eq_true (by omega)

theorem l512a {R : Type} (k0 : List Tbl × List Tbl × Bool × List ByteArray × List Tbl × List Int × Unit → Option R) (k1 : List Tbl × List Tbl × List ByteArray × List Tbl × List Int × Unit → Option R) (l saved : List Tbl) (names : List ByteArray) (out : List Tbl) (w : List Int) (d : List (ByteArray × Int)) (hd : ∀ x ∈ d, x.2 = 1) (hl : d.length ≤ 900) :
    f512l1 1000 k0 k1 (l, saved, 0, names, out, w, d, ()) = k1 (l, saved, names, out, w, ()) := by
  unfold f512l1
  refine iter_list (A := Unit) d (fun i _ => (l, saved, (i : Int), names, out, w, d, ())) (fun m _ => k1 (l, saved, names, out, w, ())) (fun _ _ => True) ?_ ?_ (k := 1000) (by omega) () trivial
  · intro rec a _
    unfold f512l1s
    simp only [ltn_self, cond_false]
  · intro rec i a x hx hi _
    have h1 := hd x (List.mem_of_getElem? hx)
    unfold f512l1s
    simp only [ltn hi, nn, Bool.and_self, cond_true, Int.toNat_natCast, getD_of hx, h1, show ((1 : Int) != 1) = false from rfl, cond_false, wi_succ (i := i) (by omega)]
    exact .inl ⟨(), trivial, trivial, trivial⟩
theorem difs_kind {saved out : List Tbl} (hn : (out.map nmT).Nodup) (h : ∀ t ∈ saved, t ∈ out) : ∀ x ∈ difs saved out, x.2 = 1 := by
  intro x hx
  unfold difs at hx
  rcases List.mem_append.1 hx with hx | hx
  · obtain ⟨t, ht, hx⟩ := List.mem_flatMap.1 hx
    obtain ⟨j, e, hj⟩ := tAt_mem hn (h t ht)
    unfold difA at hx
    rw [if_neg (by rw [e]; omega), e, Int.toNat_natCast, hj] at hx
    simp at hx
  · obtain ⟨t, ht, hx⟩ := List.mem_flatMap.1 hx
    unfold difB at hx
    split at hx
    · rw [List.mem_singleton.1 hx]
    · simp at hx
theorem l512b {R : Type} (k0 : List Tbl × Bool × List ByteArray × List Int × Unit → Option R) (k1 : List Tbl × List ByteArray × List Int × Unit → Option R) (l saved : List Tbl) (names : List ByteArray) (out : List Tbl) (w : List Int)
    (hl : l.length ≤ 8) (hs : saved.length ≤ 8) (ho : out.length ≤ 8) (hlf : ∀ t ∈ l, t.1.2.1.2.length ≤ 900 ∧ t.1.2.2.1.length ≤ 900 ∧ t.2.length ≤ 900)
    (h1 : ∀ t ∈ l, 0 ≤ tAt t.1.1 out) (h2 : ∀ t ∈ l, tAt t.1.1 saved < 0 → ∃ j : Nat, tAt t.1.1 out = (j : Int) ∧ out[j]? = some t) :
    f512l3 1000 k0 k1 (l, saved, 0, names, out, w, ()) = k1 (l, names, w, ()) := by
  unfold f512l3
  refine iter_list (A := Unit) l (fun i _ => (l, saved, (i : Int), names, out, w, ())) (fun m _ => k1 (l, names, w, ())) (fun _ _ => True) ?_ ?_ (k := 1000) (by omega) () trivial
  · intro rec a _
    unfold f512l3s
    simp only [ltn_self, cond_false]
  · intro rec i a t hx hi _
    have ht := List.mem_of_getElem? hx
    have g1 := h1 t ht
    have m1 : (tAt t.1.1 out == -1) = false := by rw [tAt_m1, decide_eq_false (by omega)]
    unfold f512l3s f512p2
    simp only [ltn hi, nn, Bool.and_self, cond_true, Int.toNat_natCast, getD_of hx, f545q out t.1.1 (by omega), f545q saved t.1.1 (by omega), bind_some', m1, cond_false, tAt_m1, wi_succ (i := i) (by omega)]
    by_cases hs0 : tAt t.1.1 saved < 0
    · obtain ⟨j, e, hj⟩ := h2 t ht hs0
      have hjo := (List.getElem?_eq_some_iff.1 hj).1
      obtain ⟨q1, q2, q3⟩ := hlf t ht
      have h546 := f546q t q1 q2 q3
      rw [bif_true (decide_eq_true hs0)]
      simp only [e, nn, ltn hjo, Bool.and_self, cond_true, Int.toNat_natCast, getD_of hj]
      rw [show ((t.1.1, ((t.1.2.1.1, t.1.2.1.2), (t.1.2.2.1, t.1.2.2.2))), t.2) = t from rfl, h546]
      exact .inl ⟨(), trivial, rfl, trivial⟩
    · rw [bif_false (decide_eq_false hs0)]
      exact .inl ⟨(), trivial, rfl, trivial⟩
theorem l512c (l : List Tbl) (names : List ByteArray) (hl : l.length ≤ 8) (hn : names.length ≤ 8) :
    f512l4 (R := Bool) 1000 (fun w36 => some w36.1) (fun w37 => some true) (l, 0, names, names.map (was l), ()) = some true := by
  unfold f512l4
  refine iter_list (A := Unit) names (fun i _ => (l, (i : Int), names, names.map (was l), ())) (fun m _ => some true) (fun _ _ => True) ?_ ?_ (k := 1000) (by omega) () trivial
  · intro rec a _
    unfold f512l4s
    simp only [ltn_self, cond_false]
  · intro rec i a s hx hi _
    have hm : (names.map (was l))[i]? = some (was l s) := by rw [List.getElem?_map, hx]; rfl
    unfold f512l4s
    simp only [ltn hi, nn, Bool.and_self, cond_true, Int.toNat_natCast, getD_of hx, List.length_map, f545q l s (by omega), bind_some', was_b, getD_of hm, bne_self_eq_false, cond_false, wi_succ (i := i) (by omega)]
    exact .inl ⟨(), trivial, trivial, trivial⟩
theorem restores (x : List Tbl × List Tbl) : f512F 1000 x = some true := by
  obtain ⟨l, saved⟩ := x
  unfold f512F
  rw [awake34]
  simp only [bind_some', Bool.not_true, cond_false, f514q]
  cases hf : fewTs l with
  | false => rfl
  | true =>
  simp only [Bool.not_true, cond_false]
  cases hf2 : fewTs saved with
  | false => rfl
  | true =>
  simp only [Bool.not_true, cond_false, f516q hf2, bind_some', f521q]
  generalize hsv : savedS saved [(⟨#[65]⟩ : ByteArray), (⟨#[66]⟩ : ByteArray), (⟨#[67]⟩ : ByteArray), (⟨#[68]⟩ : ByteArray), (⟨#[69]⟩ : ByteArray), (⟨#[70]⟩ : ByteArray)] 60 = sv
  by_cases he : sv.2 = 0
  · obtain ⟨s1, s2⟩ := savedS_ok (l := saved) (names := [(⟨#[65]⟩ : ByteArray), (⟨#[66]⟩ : ByteArray), (⟨#[67]⟩ : ByteArray), (⟨#[68]⟩ : ByteArray), (⟨#[69]⟩ : ByteArray), (⟨#[70]⟩ : ByteArray)]) (room := 60) (by rw [hsv]; exact he)
    rw [hsv] at s2
    have hres : resV sv.1 = (saved, 0) := by
      unfold resV; rw [s2]; exact tblsIn_strm s1
    rw [bif_false (by rw [he]; rfl)]
    have hs8 := (ts_ok s1).1
    have l10 := (fewTs_ok hf).1
    unfold f512l0
    refine iter_list (A := List ByteArray) saved (fun i a => (l, saved, sv.1, (i : Int), a, ())) (fun m a => some true) (fun i a => a = (saved.take i).map nmT) ?_ ?_ (k := 1000) (by omega) [] rfl
    · intro rec a ha
      rw [List.take_length] at ha
      subst ha
      unfold f512l0s
      simp only [ltn_self, cond_false, f516q hf, bind_some', f542q]
      by_cases h0 : (ovr l sv.1 (saved.map nmT)).2.2 = 0
      · obtain ⟨c1, c2, c3, c4, c5⟩ := ovr_ok h0
        rw [hres] at c4 c5
        simp only at c4 c5
        rw [c5]
        simp only [bne00, cond_false]
        have hany : ∀ t ∈ saved, ((saved.map nmT).any fun y => strEq y t.1.1) = true := fun t ht => List.any_eq_true.2 ⟨nmT t, List.mem_map.2 ⟨t, ht, rfl⟩, strEq_self _⟩
        obtain ⟨d1, d2, d3⟩ := ov_all (l := l) (names := saved.map nmT) (m := saved) (o := l) (x := []) (names_nd s1) hany (by rw [List.append_nil])
        have hnd : ((ov l (saved.map nmT) saved l).map nmT).Nodup := by
          rw [d1]
          refine List.nodup_append.2 ⟨names_nd c1, (names_nd s1).sublist ((List.filter_sublist (p := nw l (saved.map nmT))).map _), ?_⟩
          intro x hx y hy e
          subst e
          obtain ⟨t, ht, rfl⟩ := List.mem_map.1 hy
          have h2 := (List.mem_filter.1 ht).2
          unfold nw at h2
          simp only [Bool.and_eq_true, decide_eq_true_eq] at h2
          exact tAt_neg h2.2 hx
        have hck : ∀ t ∈ ov l (saved.map nmT) saved l, (chkTbl t).2 = 0 := fun t ht => by
          rcases ov_mem ht with h | h
          · exact ts_mem c1 h
          · exact ts_mem s1 h
        have hfo := fewTs_of c4 hck
        have hco := chkTs_of c4 hck hnd
        rw [hfo]
        simp only [Bool.not_true, cond_false, List.length_map]
        rw [bif_false (len_eq (n := saved.length) rfl), f516q hf2, bind_some', f516q hfo, bind_some', f529q, bind_some']
        rw [if_neg (fun c => c s1), if_neg (fun c => c hco)]
        simp only [bne00, cond_false]
        have hl8 := (ts_ok c1).1
        have hdl : (difs saved (ov l (saved.map nmT) saved l)).length ≤ 900 := by
          unfold difs
          have e1 := flat_len' (difA (ov l (saved.map nmT) saved l)) (difA_len _) saved
          have e2 := flat_len' (difB saved) (difB_len _) (ov l (saved.map nmT) saved l)
          rw [List.length_append]
          omega
        rw [l512a _ _ l saved (saved.map nmT) _ _ _ (difs_kind hnd d2) hdl]
        have hin : ∀ t ∈ l, 0 ≤ tAt t.1.1 (ov l (saved.map nmT) saved l) := fun t ht => by
          have hm : nmT t ∈ (ov l (saved.map nmT) saved l).map nmT := by
            rw [d1]; exact List.mem_append_left _ (List.mem_map.2 ⟨t, ht, rfl⟩)
          rcases Int.lt_or_le (tAt t.1.1 (ov l (saved.map nmT) saved l)) 0 with h | h
          · exact absurd hm (tAt_neg h)
          · exact h
        have hse : ∀ t ∈ l, tAt t.1.1 saved < 0 → ∃ j : Nat, tAt t.1.1 (ov l (saved.map nmT) saved l) = (j : Int) ∧ (ov l (saved.map nmT) saved l)[j]? = some t := fun t ht h =>
          tAt_mem hnd (d3 t ht (tAt_neg h))
        simp only
        rw [l512b _ _ l saved (saved.map nmT) _ _ hl8 hs8 c4 (ts_few c1).2 hin hse]
        simp only
        exact l512c l (saved.map nmT) hl8 (by rw [List.length_map]; exact hs8)
      · rw [bif_true (bne0 h0)]
    · intro rec i a t hx hi hp
      subst hp
      unfold f512l0s
      simp only [ltn hi, nn, Bool.and_self, cond_true, Int.toNat_natCast, getD_of hx, wi_succ (i := i) (by omega)]
      rw [bif_true (by simp; omega)]
      exact .inl ⟨(saved.take i).map nmT ++ [t.1.1], by rw [List.take_add_one, hx, List.map_append]; rfl, rfl, trivial⟩
  · rw [bif_true (bne0 he)]
end Go.Proofs.YtobgkcamonlnkaaGreatDoor
