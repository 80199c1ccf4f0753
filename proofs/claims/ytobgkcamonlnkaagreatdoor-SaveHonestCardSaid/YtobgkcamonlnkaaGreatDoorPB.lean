/- Joined texts. -/
import Derived.Test.YtobgkcamonlnkaaGreatDoorPA
import Derived.Test.YtobgkcamonlnkaaGreatDoorFcJ
set_option linter.unusedVariables false
set_option linter.unusedSimpArgs false
namespace Go.Proofs.YtobgkcamonlnkaaGreatDoor
open Go.Ab

end Go.Proofs.YtobgkcamonlnkaaGreatDoor
set_option linter.unusedVariables false
set_option linter.unusedSimpArgs false
namespace Go.Proofs.YtobgkcamonlnkaaGreatDoor
open Go.Ab

end Go.Proofs.YtobgkcamonlnkaaGreatDoor
set_option linter.unusedVariables false
set_option linter.unusedSimpArgs false
namespace Go.Proofs.YtobgkcamonlnkaaGreatDoor
open Go.Ab

end Go.Proofs.YtobgkcamonlnkaaGreatDoor
set_option linter.unusedVariables false
set_option linter.unusedSimpArgs false
namespace Go.Proofs.YtobgkcamonlnkaaGreatDoor
open Go.Ab

def val (l : List UInt8) : Int := l.foldl (fun a b => a * 256 + (b.toNat : Int)) 0
theorem val_snoc (l : List UInt8) (b : UInt8) : val (l ++ [b]) = val l * 256 + (b.toNat : Int) := by unfold val; rw [List.foldl_append]; rfl
theorem low_succ (n : Int) : ∀ (L : Nat), low 256 n (L + 1) = low 256 (n / 256) L ++ [n % 256]
  | 0 => by simp [low]
  | L + 1 => by
    have e : n / 256 ^ (L + 1) = n / 256 / 256 ^ L := by
      rw [Int.ediv_ediv_of_nonneg (by decide), Int.pow_succ, Int.mul_comm]
    rw [low, low_succ n L, e]
    rfl
theorem bg_succ (n : Int) (L : Nat) : bg n (L + 1) = bg (n / 256) L ++ [oneB n] := by
  unfold bg
  rw [low_succ, List.map_append]
  rfl
theorem bg_val : ∀ (L : Nat) (l : List UInt8), l.length = L → bg (val l) L = l := by
  intro L
  induction L with
  | zero => intro l h; rw [List.length_eq_zero_iff.1 h]; rfl
  | succ L ih =>
    intro l h
    have hne : l ≠ [] := by intro c; rw [c] at h; simp at h
    have h1 := ih l.dropLast (by simp [h])
    have hb := byte_rng (l.getLast hne)
    conv => lhs; rw [← List.dropLast_concat_getLast hne, val_snoc, bg_succ]
    have e1 : (val l.dropLast * 256 + ((l.getLast hne).toNat : Int)) / 256 = val l.dropLast := by omega
    have e2 : oneB (val l.dropLast * 256 + ((l.getLast hne).toNat : Int)) = l.getLast hne := by
      refine UInt8.toNat_inj.1 ?_
      have := oneB_int (val l.dropLast * 256 + ((l.getLast hne).toNat : Int))
      omega
    rw [e1, e2, h1, List.dropLast_concat_getLast]
theorem val_bg : ∀ (L : Nat) (n : Int), 0 ≤ n → n < 256 ^ L → val (bg n L) = n := by
  intro L
  induction L with
  | zero => intro n h0 h1; have : n = 0 := by have e : (256 : Int) ^ 0 = 1 := rfl; omega
            subst this; rfl
  | succ L ih =>
    intro n h0 h1
    have e : (256 : Int) ^ (L + 1) = 256 ^ L * 256 := Int.pow_succ ..
    rw [bg_succ, val_snoc, ih (n / 256) (by omega) (by omega), oneB_int]
    omega
theorem bg_iff {n : Int} {l : List UInt8} (h0 : 0 ≤ n) (h1 : n < 256 ^ l.length) : bg n l.length = l ↔ val l = n :=
  ⟨fun h => by rw [← h, val_bg _ _ h0 h1], fun h => by rw [← h, bg_val _ _ rfl]⟩

def zs (l : List UInt8) : Bool := l.all fun b => b == 0
theorem dw_nil (l : List UInt8) : l.dropWhile (fun b => b == 0) = [] ↔ zs l = true := by
  unfold zs
  induction l with
  | nil => simp
  | cons b l ih =>
    by_cases h : b = 0
    · simp [List.dropWhile, h, ih]
    · have : (b == 0) = false := by simpa using h
      simp [List.dropWhile, this]
theorem zs_rev (l : List UInt8) : zs l.reverse = zs l := by unfold zs; rw [List.all_reverse]
theorem trim_nil (l : List UInt8) : Lib.trimB l 0 = [] ↔ zs l = true := by
  unfold Lib.trimB Lib.trimLeftB Lib.trimRightB
  constructor
  · intro h
    rw [dw_nil, zs_rev] at h
    by_cases hz : zs l.reverse = true
    · rwa [zs_rev] at hz
    · exfalso
      have : l.reverse.dropWhile (fun b => b == 0) ≠ [] := fun c => hz ((dw_nil _).1 c)
      match hd : l.reverse.dropWhile (fun b => b == 0) with
      | [] => exact this hd
      | b :: t =>
        rw [hd] at h
        have hb : (b == 0) = false := by
          have := List.head_dropWhile_not (p := fun b : UInt8 => b == 0) (l := l.reverse) (by rw [hd]; simp)
          simpa [hd] using this
        unfold zs at h
        rw [List.all_cons, hb] at h
        exact absurd h (by simp)
  · intro h
    have h2 := (dw_nil l.reverse).2 (by rw [zs_rev, h])
    rw [h2]
    rfl
theorem f648q (l : List UInt8) (h : l.length ≤ 1000000) : f648F 1000 (S l) = some (zs l) := by
  unfold f648F f667F
  simp only [show (⟨#[0]⟩ : ByteArray).data.toList = [0] from rfl, S_list, S_size]
  rw [bif_true (by simp; omega), bind_some']
  show some (strEq (S (Lib.trimB l 0)) ByteArray.empty) = _
  rw [← S_nil, S_eq]
  congr 1
  rw [Bool.eq_iff_iff, decide_eq_true_eq, trim_nil]
end Go.Proofs.YtobgkcamonlnkaaGreatDoor
set_option linter.unusedVariables false
set_option linter.unusedSimpArgs false
namespace Go.Proofs.YtobgkcamonlnkaaGreatDoor
open Go.Ab

def bsz (l : List UInt8) : Nat := (l.getD 3 0).toNat % 128
def bsay (l : List UInt8) : Bool := decide (128 ≤ (l.getD 3 0).toNat)
def frmB (l : List UInt8) (last : Bool) : Bool :=
  decide (1 ≤ bsz l ∧ bsz l ≤ 52) && (last || decide (52 ≤ bsz l)) && (zs ((l.take 56).drop (4 + bsz l)) && zs ((l.take 60).drop 57))
def ordB (l : List UInt8) (vol num : Int) : Bool := decide (((l.getD 0 0).toNat : Int) = vol) && decide (val ((l.drop 1).take 2) = num)
def blkE (l : List UInt8) (vol num vols : Int) (last : Bool) : Int :=
  if l.length ≠ 64 then 18
  else if val (l.drop 60) ≠ sumG 1 (l.take 60) then 33
  else if frmB l last = false then 5
  else if ordB l vol num = false then 14
  else if ((l.getD 56 0).toNat : Int) ≠ vols then 6
  else if bsay l = true then (if last = true then 0 else 10) else if last = true then 9 else 0

theorem and127 : ∀ x : Fin 256, bits .and .u8 (x.val : Int) 127 = (x.val % 128 : Nat) := by decide +kernel
theorem and127' (b : UInt8) : bits .and .u8 (b.toNat : Int) 127 = ((b.toNat % 128 : Nat) : Int) := and127 ⟨b.toNat, by have := byte_rng b; omega⟩
theorem f621q (l : List UInt8) (vol vols : Int) {num : Int} (hn : 0 ≤ num) (hn2 : num < 65536) (last : Bool) :
    f621F 1000 (S l, vol, num, vols, last) = some (if blkE l vol num vols last = 0 then ((bsz l : Int), 0) else (0, blkE l vol num vols last)) := by
  unfold f621F blkE
  simp only [S_size]
  by_cases hl : l.length = 64
  · rw [bif_false (by rw [hl]; rfl)]
    simp only [hl, ne_eq, not_true_eq_false, if_false]
    have e1 : f562F 1000 (S (l.take 60)) = some (sumG 1 (l.take 60)) := f562q _ (by rw [List.length_take]; omega)
    have hb3 := S_bt l 3 (by omega)
    rw [show ((3 : Nat) : Int) = 3 from rfl] at hb3
    have hb0 := S_bt l 0 (by omega)
    rw [show ((0 : Nat) : Int) = 0 from rfl] at hb0
    have hb56 := S_bt l 56 (by omega)
    rw [show ((56 : Nat) : Int) = 56 from rfl] at hb56
    have sr := sumG_rng (l.take 60) 1 (by decide) (by decide)
    have e2 : f561F 1000 (sumG 1 (l.take 60), (4 : Int)) = some (ints (bg (sumG 1 (l.take 60)) 4)) := f561q (L := 4) (by omega) (by omega) (by omega)
    have hl60 : (l.take 60).length = 60 := by rw [List.length_take]; omega
    rw [bif_true (by exact sliceB0 (b := 60) (n := 64) (by omega)), S_cut, List.drop_zero, e1, bind_some', e2, bind_some', S_size, hl60, bif_true (by exact sliceB (a := 60) (b := 64) (n := 64) (by omega) (by omega)), S_cut, S_back]
    simp only [show Int.toNat ((60 : Nat) : Int) = 60 from rfl, show Int.toNat ((64 : Nat) : Int) = 64 from rfl]
    rw [List.take_of_length_le (show l.length ≤ 64 by omega), S_eq]
    have h4 : (256 : Int) ^ (l.drop 60).length = 4294967296 := by rw [List.length_drop, hl]; decide
    have hi := bg_iff (n := sumG 1 (l.take 60)) (l := l.drop 60) sr.1 (by omega)
    rw [List.length_drop, hl, show 64 - 60 = 4 from rfl] at hi
    by_cases hc : val (l.drop 60) = sumG 1 (l.take 60)
    · rw [bif_false (by rw [hi.2 hc]; simp)]
      simp only [hc, not_true_eq_false, if_false]
      rw [bif_true (show decide ((3 : Int) < ((64 : Nat) : Int)) = true from rfl), bif_true (show decide ((3 : Int) < ((64 : Nat) : Int)) = true from rfl), hb3, and127']
      rw [show decide (((l.getD 3 0).toNat : Int) ≥ 128) = bsay l by unfold bsay; congr 1; apply propext; omega, show (l.getD 3 0).toNat % 128 = bsz l from rfl]
      have hs : bsz l < 128 := Nat.mod_lt _ (by decide)
      rw [wi (x := (bsz l : Int)) (by omega) (by omega)]
      have hn3 := f561q (n := num) (L := 2) hn (by omega) (by omega)
      rw [show ((2 : Nat) : Int) = 2 from rfl] at hn3
      have e12 : ((l.drop 1).take 2).length = 2 := by rw [List.length_take, List.length_drop]; omega
      have h2p : (256 : Int) ^ ((l.drop 1).take 2).length = 65536 := by rw [e12]; decide
      have hi2 := bg_iff (n := num) (l := (l.drop 1).take 2) hn (by omega)
      rw [e12] at hi2
      have rest : frmB l last = true → f621p1 1000 (fun (w13 : Int × Int × Int × Unit) => some (w13.1, w13.2.1)) (fun (w14 : Int × Unit) => some (w14.1, (0 : Int))) (S l, vol, num, vols, last, (bsz l : Int), bsay l, ()) =
          some (if (if ordB l vol num = false then 14 else if ¬((l.getD 56 0).toNat : Int) = vols then 6 else if bsay l = true then (if last = true then 0 else 10) else if last = true then 9 else 0 : Int) = 0 then ((bsz l : Int), 0)
            else (0, if ordB l vol num = false then 14 else if ¬((l.getD 56 0).toNat : Int) = vols then 6 else if bsay l = true then (if last = true then 0 else 10) else if last = true then 9 else 0)) := by
        intro hf
        unfold f621p1
        simp only [S_size, hl]
        have sA : sliceBds 1 3 ((64 : Nat) : Int) = true := sliceB (a := 1) (b := 3) (n := 64) (by omega) (by omega)
        simp only [show decide ((0 : Int) < ((64 : Nat) : Int)) = true from rfl, show decide ((56 : Int) < ((64 : Nat) : Int)) = true from rfl, cond_true, hb0, hb56, wi_byte, sA, hn3, bind_some', S_cut, S_back, S_eq]
        rw [show (l.take 3).drop 1 = (l.drop 1).take 2 by rw [List.drop_take]]
        unfold ordB
        by_cases h0 : ((l.getD 0 0).toNat : Int) = vol
        · rw [bif_false (by simpa using h0)]
          by_cases h1 : val ((l.drop 1).take 2) = num
          · rw [bif_false (by rw [hi2.2 h1]; simp)]
            simp only [h0, h1, decide_true, Bool.and_self, Bool.true_eq_false, if_false]
            by_cases h2 : ((l.getD 56 0).toNat : Int) = vols
            · rw [bif_false (by simpa using h2)]
              simp only [h2, not_true_eq_false, if_false]
              cases bsay l <;> cases last <;> rfl
            · rw [bif_true (by simpa using h2)]
              simp only [h2, not_false_eq_true, if_true]
              rfl
          · have h3 : ¬ (l.drop 1).take 2 = bg num 2 := fun c => h1 (hi2.1 c.symm)
            rw [bif_true (by simpa using h3)]
            have : decide (val ((l.drop 1).take 2) = num) = false := by simpa using h1
            rw [this, Bool.and_false]
            rfl
        · rw [bif_true (by simpa using h0)]
          have : decide (((l.getD 0 0).toNat : Int) = vol) = false := by simpa using h0
          rw [this]
          rfl
      unfold f621p0
      simp only [S_size, hl, hl60]
      by_cases h1 : 1 ≤ bsz l ∧ bsz l ≤ 52
      · have ea : decide ((bsz l : Int) < 1) = false := by simp; omega
        have eb : decide ((bsz l : Int) > 52) = false := by simp; omega
        have ew : IntKind.i64.wrap (4 + (bsz l : Int)) = ((4 + bsz l : Nat) : Int) := by rw [show (4 : Int) + (bsz l : Int) = ((4 + bsz l : Nat) : Int) by omega]; exact wi (by omega) (by omega)
        have s1 : sliceBds ((4 + bsz l : Nat) : Int) 56 ((64 : Nat) : Int) = true := sliceB (b := 56) (n := 64) (by omega) (by omega)
        have s2 : sliceBds 57 ((60 : Nat) : Int) ((64 : Nat) : Int) = true := sliceB (a := 57) (b := 60) (n := 64) (by omega) (by omega)
        have z1 := f648q ((l.take 56).drop (4 + bsz l)) (by rw [List.length_drop, List.length_take]; omega)
        have z2 := f648q ((l.take 60).drop 57) (by rw [List.length_drop, List.length_take]; omega)
        simp only [ea, eb, cond_false, ew, s1, s2, cond_true, S_cut, Int.toNat_natCast, z1, z2, bind_some']
        by_cases h2 : bsz l < 52
        · have : decide ((bsz l : Int) < 52) = true := by simp; omega
          rw [bif_true this]
          have hd : decide (52 ≤ bsz l) = false := by simp; omega
          cases last with
          | false =>
            have hf : frmB l false = false := by unfold frmB; simp [hd]
            rw [hf]; rfl
          | true =>
            cases hz1 : zs ((l.take 56).drop (4 + bsz l)) with
            | false =>
              have hf : frmB l true = false := by unfold frmB; simp [hz1]
              rw [hf]; rfl
            | true =>
              cases hz2 : zs ((l.take 60).drop 57) with
              | false =>
                have hf : frmB l true = false := by unfold frmB; simp [hz2]
                rw [hf]; rfl
              | true =>
                have hf : frmB l true = true := by unfold frmB; simp [hz1, hz2, h1]
                have hr := rest hf
                simp only [Bool.not_true, cond_false]
                rw [hf]
                exact hr
        · have : decide ((bsz l : Int) < 52) = false := by simp; omega
          rw [bif_false this]
          have hd : decide (52 ≤ bsz l) = true := by simp; omega
          cases hz1 : zs ((l.take 56).drop (4 + bsz l)) with
          | false =>
            have hf : frmB l last = false := by unfold frmB; simp [hz1]
            rw [hf]; rfl
          | true =>
            cases hz2 : zs ((l.take 60).drop 57) with
            | false =>
              have hf : frmB l last = false := by unfold frmB; simp [hz2]
              rw [hf]; rfl
            | true =>
              have hf : frmB l last = true := by unfold frmB; simp [hz1, hz2, h1, hd]
              have hr := rest hf
              simp only [Bool.not_true, cond_false]
              rw [hf]
              exact hr
      · have hf : frmB l last = false := by unfold frmB; simp [h1]
        rw [hf]
        by_cases h2 : bsz l < 1
        · rw [bif_true (by simp; omega)]
          rfl
        · rw [bif_false (by simp; omega), bif_true (by simp; omega)]
          rfl
    · have h3 : ¬ bg (sumG 1 (l.take 60)) 4 = l.drop 60 := fun c => hc (hi.1 c)
      rw [bif_true (by simpa using h3)]
      simp only [hc, not_false_eq_true, if_true]
      rfl
  · rw [bif_true (by simp; omega), if_pos (c := l.length ≠ 64) hl, if_neg (by decide)]
end Go.Proofs.YtobgkcamonlnkaaGreatDoor
set_option linter.unusedVariables false
set_option linter.unusedSimpArgs false
namespace Go.Proofs.YtobgkcamonlnkaaGreatDoor
open Go.Ab

def bL (b : ByteArray) : List UInt8 := b.data.toList
theorem bL_S (l : List UInt8) : bL (S l) = l := S_list l
theorem S_bL (b : ByteArray) : S (bL b) = b := S_of b
def pay (b : ByteArray) : List UInt8 := ((bL b).take (4 + bsz (bL b))).drop 4
def bE (V i n k num : Nat) (b : ByteArray) : Int := blkE (bL b) ((i + 1 : Nat) : Int) ((num + 1 : Nat) : Int) (V : Int) (i + 1 == V && k + 1 == n)
def rdBs (V i n : Nat) : List ByteArray → Nat → Nat → List UInt8 → (Nat × Int × Nat × List UInt8) ⊕ (Nat × List UInt8)
  | [], _, num, d => .inr (num, d)
  | b :: t, k, num, d => if bE V i n k num b ≠ 0 then .inl (k, bE V i n k num b, num + 1, d) else rdBs V i n t (k + 1) (num + 1) (d ++ pay b)
def volE (pre : List Vol) (v : Vol) : Int :=
  if isNm v.1 = false then 7 else if (pre.any fun y => strEq y.1 v.1) = true then 13 else if v.2.length > 60 then 2 else if v.2.length = 0 then 1 else 0
def rdVs (vs : List Vol) (V : Nat) : List Vol → Nat → Nat → List UInt8 → (Nat × Nat × Int × List UInt8) ⊕ List UInt8
  | [], _, _, d => .inr d
  | v :: t, i, num, d => if volE (vs.take i) v ≠ 0 then .inl (i, 0, volE (vs.take i) v, d) else
    match rdBs V i v.2.length v.2 0 num d with
    | .inl (k, e, _, d') => .inl (i, k, e, d')
    | .inr (nu, d') => rdVs vs V t (i + 1) nu d'
def rd (vs : List Vol) : (Nat × Nat × Int) ⊕ List UInt8 :=
  if vs.length = 0 then .inl (0, 0, 1) else if vs.length > 6 then .inl (0, 0, 2) else
  match rdVs vs vs.length vs 0 0 [] with
  | .inl (i, k, e, _) => .inl (i, k, e)
  | .inr d => .inr d

theorem blkE_ok {l : List UInt8} {vol num vols : Int} {last : Bool} (h : blkE l vol num vols last = 0) : l.length = 64 ∧ 1 ≤ bsz l ∧ bsz l ≤ 52 := by
  unfold blkE at h
  by_cases h1 : l.length = 64
  · rw [if_neg (fun c => c h1)] at h
    by_cases h2 : val (l.drop 60) = sumG 1 (l.take 60)
    · rw [if_neg (fun c => c h2)] at h
      cases h3 : frmB l last with
      | false => rw [h3, if_pos rfl] at h; exact absurd h (by decide)
      | true =>
        unfold frmB at h3
        simp only [Bool.and_eq_true, decide_eq_true_eq] at h3
        exact ⟨h1, h3.1.1.1, h3.1.1.2⟩
    · rw [if_pos h2] at h; exact absurd h (by decide)
  · rw [if_pos h1] at h; exact absurd h (by decide)
theorem bE_ok {V i n k num : Nat} {b : ByteArray} (h : bE V i n k num b = 0) : (bL b).length = 64 ∧ 1 ≤ bsz (bL b) ∧ bsz (bL b) ≤ 52 := blkE_ok h
theorem ext_pay (b : ByteArray) : b.extract 4 (4 + bsz (bL b)) = S (pay b) := by
  have := S_cut (bL b) 4 (4 + bsz (bL b))
  rw [S_bL] at this
  exact this
theorem pay_len {b : ByteArray} (h : (bL b).length = 64 ∧ 1 ≤ bsz (bL b) ∧ bsz (bL b) ≤ 52) : (pay b).length = bsz (bL b) := by
  unfold pay; rw [List.length_drop, List.length_take]; omega
theorem rdBs_ok {V i n : Nat} : ∀ {m : List ByteArray} {k num : Nat} {d : List UInt8} {nu : Nat} {d' : List UInt8}, rdBs V i n m k num d = .inr (nu, d') →
    nu = num + m.length ∧ d' = d ++ m.flatMap pay ∧ ∀ b ∈ m, (bL b).length = 64 ∧ 1 ≤ bsz (bL b) ∧ bsz (bL b) ≤ 52
  | [], k, num, d, nu, d', h => by
    unfold rdBs at h; cases h
    exact ⟨rfl, by simp, by simp⟩
  | b :: m, k, num, d, nu, d', h => by
    unfold rdBs at h
    by_cases he : bE V i n k num b = 0
    · rw [if_neg (fun c => c he)] at h
      obtain ⟨h1, h2, h3⟩ := rdBs_ok h
      refine ⟨by simp only [List.length_cons]; omega, by rw [h2, List.append_assoc]; rfl, fun x hx => ?_⟩
      rcases List.mem_cons.1 hx with rfl | hx
      · exact bE_ok he
      · exact h3 x hx
    · rw [if_pos he] at h; cases h
theorem pays_len : ∀ {m : List ByteArray}, (∀ b ∈ m, (bL b).length = 64 ∧ 1 ≤ bsz (bL b) ∧ bsz (bL b) ≤ 52) → (m.flatMap pay).length ≤ 52 * m.length := fun h =>
  flat_len pay 52 _ fun x hx => by rw [pay_len (h x hx)]; exact (h x hx).2.2
theorem volE_ok {pre : List Vol} {v : Vol} (h : volE pre v = 0) : isNm v.1 = true ∧ 1 ≤ v.2.length ∧ v.2.length ≤ 60 := by
  unfold volE at h
  cases h1 : isNm v.1 with
  | false => rw [h1, if_pos rfl] at h; exact absurd h (by decide)
  | true =>
    rw [h1, if_neg (by decide)] at h
    cases h2 : (pre.any fun y => strEq y.1 v.1) with
    | true => rw [h2, if_pos rfl] at h; exact absurd h (by decide)
    | false =>
      rw [h2, if_neg (by decide)] at h
      by_cases h3 : v.2.length > 60
      · rw [if_pos h3] at h; exact absurd h (by decide)
      · rw [if_neg h3] at h
        by_cases h4 : v.2.length = 0
        · rw [if_pos h4] at h; exact absurd h (by decide)
        · exact ⟨rfl, by omega, by omega⟩

theorem f622a (m : List UInt8) (h : m.length ≤ 1000000) : f622v0F 1000 (S m, ()) = some ((m.length : Int), ints m, ()) := by
  unfold f622v0F
  simp only [S_bytes, S_size]
  rw [bif_true (by simp [ints_length]; omega), List.nil_append]
theorem f622b (m d : List UInt8) (h : m.length + d.length ≤ 1000000) : f622v1F 1000 (S m, ints d, ()) = some ((m.length : Int), ints (d ++ m), ()) := by
  unfold f622v1F
  simp only [S_bytes, S_size]
  rw [bif_true (by simp [ints_length]; omega), ints_app]

theorem lastB {R : Type} {V i n k : Nat} (hV : 1 ≤ V) (hV2 : V ≤ 100) (hn : 1 ≤ n) (hn2 : n ≤ 100) (F : Bool → Option R) :
    (bif ((i : Int) == IntKind.i64.wrap ((V : Int) - 1)) then F ((k : Int) == IntKind.i64.wrap ((n : Int) - 1)) else F false) = F (i + 1 == V && k + 1 == n) := by
  have e1 : IntKind.i64.wrap ((V : Int) - 1) = ((V - 1 : Nat) : Int) := by rw [show (V : Int) - 1 = ((V - 1 : Nat) : Int) by omega]; exact wi (by omega) (by omega)
  have e2 : IntKind.i64.wrap ((n : Int) - 1) = ((n - 1 : Nat) : Int) := by rw [show (n : Int) - 1 = ((n - 1 : Nat) : Int) by omega]; exact wi (by omega) (by omega)
  rw [e1, e2]
  have e3 : ((i : Int) == ((V - 1 : Nat) : Int)) = (i + 1 == V) := by rw [Bool.eq_iff_iff]; simp; omega
  have e4 : ((k : Int) == ((n - 1 : Nat) : Int)) = (k + 1 == n) := by rw [Bool.eq_iff_iff]; simp; omega
  rw [e3, e4]
  cases (i + 1 == V) <;> rfl

theorem f581p1q {R : Type} (k0 : List Vol × ByteArray × Int × Int × Int × Int × Int × List Vol × Int × Int × List ByteArray × Int × Int × ByteArray × List ByteArray × List Int × Unit → Option R)
    (k1 : List Vol × Int × Int × List Vol × Int × Int × List ByteArray × Int × Int × ByteArray × List ByteArray × List Int × Unit → Option R)
    (vs xs : List Vol) (V2 i2 nb : Int) (i num k : Nat) (nm : ByteArray) (bl : List ByteArray) (d : List UInt8) (b : ByteArray) (hb : bl[k]? = some b)
    (hV : 1 ≤ vs.length) (hV2 : vs.length ≤ 6) (hi : i ≤ 6) (hbl : bl.length ≤ 60) (hnum : num ≤ 1000) (hd : d.length ≤ 100000) :
    f581p1 1000 k0 k1 (vs, (num : Int), (i : Int), xs, V2, i2, bl, nb, (k : Int), nm, bl, ints d, ()) =
      if bE vs.length i bl.length k num b ≠ 0 then k0 (vs, ByteArray.empty, (i : Int), (k : Int), bE vs.length i bl.length k num b, ((num + 1 : Nat) : Int), (i : Int), xs, V2, i2, bl, nb, (k : Int), nm, bl, ints d, ())
      else k1 (vs, ((num + 1 : Nat) : Int), (i : Int), xs, V2, i2, bl, nb, (k : Int), nm, bl, ints (d ++ pay b), ()) := by
  have hk := (List.getElem?_eq_some_iff.1 hb).1
  unfold f581p1
  simp only [inb hk, cond_true, Int.toNat_natCast, getD_of hb, wi_succ (i := i) (by omega), wi_succ (i := num) (by omega)]
  have key : ∀ last : Bool, (Option.bind (f621F 1000 (b, ((i + 1 : Nat) : Int), ((num + 1 : Nat) : Int), (vs.length : Int), last)) fun y16 =>
      bif (y16.2 != (0 : Int)) then
        k0 (vs, ByteArray.empty, (i : Int), (k : Int), y16.2, ((num + 1 : Nat) : Int), (i : Int), xs, V2, i2, bl, nb, (k : Int), nm, bl, ints d, ())
      else
      bif (sliceBds (4 : Int) (IntKind.i64.wrap ((4 : Int) + y16.1)) (b.size : Int)) then
        Option.bind (f622v1F 1000 (b.extract 4 (Int.toNat (IntKind.i64.wrap ((4 : Int) + y16.1))), ints d, ())) fun y18 =>
        k1 (vs, ((num + 1 : Nat) : Int), (i : Int), xs, V2, i2, bl, nb, (k : Int), nm, bl, y18.2.1, ())
      else none) = if blkE (bL b) ((i + 1 : Nat) : Int) ((num + 1 : Nat) : Int) (vs.length : Int) last ≠ 0 then k0 (vs, ByteArray.empty, (i : Int), (k : Int), blkE (bL b) ((i + 1 : Nat) : Int) ((num + 1 : Nat) : Int) (vs.length : Int) last, ((num + 1 : Nat) : Int), (i : Int), xs, V2, i2, bl, nb, (k : Int), nm, bl, ints d, ())
      else k1 (vs, ((num + 1 : Nat) : Int), (i : Int), xs, V2, i2, bl, nb, (k : Int), nm, bl, ints (d ++ pay b), ()) := by
    intro last
    have hq := f621q (bL b) ((i + 1 : Nat) : Int) (vs.length : Int) (num := ((num + 1 : Nat) : Int)) (by omega) (by omega) last
    rw [S_bL] at hq
    rw [hq, bind_some']
    by_cases he : blkE (bL b) ((i + 1 : Nat) : Int) ((num + 1 : Nat) : Int) (vs.length : Int) last = 0
    · rw [if_pos he, if_neg (fun c => c he)]
      obtain ⟨o1, o2, o3⟩ := blkE_ok he
      have ew : IntKind.i64.wrap (4 + (bsz (bL b) : Int)) = ((4 + bsz (bL b) : Nat) : Int) := by rw [show (4 : Int) + (bsz (bL b) : Int) = ((4 + bsz (bL b) : Nat) : Int) by omega]; exact wi (by omega) (by omega)
      have hsz : (b.size : Int) = ((64 : Nat) : Int) := by rw [← S_bL b, S_size, o1]
      have hpl := pay_len ⟨o1, o2, o3⟩
      rw [bif_false (by rfl)]
      simp only [ew, hsz]
      rw [bif_true (by exact sliceB (a := 4) (n := 64) (by omega) (by omega))]
      simp only [Int.toNat_natCast, ext_pay]
      rw [f622b (pay b) d (by omega), bind_some']
    · rw [if_neg he, if_pos he, bif_true (bne0 he)]
  have hl := lastB (R := R) (V := vs.length) (i := i) (n := bl.length) (k := k) hV (by omega) (by omega) (by omega) (fun last => Option.bind (f621F 1000 (b, ((i + 1 : Nat) : Int), ((num + 1 : Nat) : Int), (vs.length : Int), last)) fun y16 =>
      bif (y16.2 != (0 : Int)) then
        k0 (vs, ByteArray.empty, (i : Int), (k : Int), y16.2, ((num + 1 : Nat) : Int), (i : Int), xs, V2, i2, bl, nb, (k : Int), nm, bl, ints d, ())
      else
      bif (sliceBds (4 : Int) (IntKind.i64.wrap ((4 : Int) + y16.1)) (b.size : Int)) then
        Option.bind (f622v1F 1000 (b.extract 4 (Int.toNat (IntKind.i64.wrap ((4 : Int) + y16.1))), ints d, ())) fun y18 =>
        k1 (vs, ((num + 1 : Nat) : Int), (i : Int), xs, V2, i2, bl, nb, (k : Int), nm, bl, y18.2.1, ())
      else none)
  exact hl.trans (key _)
theorem f581p0q {R : Type} (k0 : List Vol × ByteArray × Int × Int × Int × Int × Int × List Vol × Int × Int × List ByteArray × Int × Int × ByteArray × List ByteArray × Unit → Option R)
    (k1 : List Vol × Int × Int × List Vol × Int × Int × List ByteArray × Int × Int × ByteArray × List ByteArray × List Int × Unit → Option R)
    (vs xs : List Vol) (V2 i2 nb : Int) (i num k : Nat) (nm : ByteArray) (bl : List ByteArray) (b : ByteArray) (hb : bl[k]? = some b)
    (hV : 1 ≤ vs.length) (hV2 : vs.length ≤ 6) (hi : i ≤ 6) (hbl : bl.length ≤ 60) (hnum : num ≤ 1000) :
    f581p0 1000 k0 k1 (vs, (num : Int), (i : Int), xs, V2, i2, bl, nb, (k : Int), nm, bl, ()) =
      if bE vs.length i bl.length k num b ≠ 0 then k0 (vs, ByteArray.empty, (i : Int), (k : Int), bE vs.length i bl.length k num b, ((num + 1 : Nat) : Int), (i : Int), xs, V2, i2, bl, nb, (k : Int), nm, bl, ())
      else k1 (vs, ((num + 1 : Nat) : Int), (i : Int), xs, V2, i2, bl, nb, (k : Int), nm, bl, ints (pay b), ()) := by
  have hk := (List.getElem?_eq_some_iff.1 hb).1
  unfold f581p0
  simp only [inb hk, cond_true, Int.toNat_natCast, getD_of hb, wi_succ (i := i) (by omega), wi_succ (i := num) (by omega)]
  have key : ∀ last : Bool, (Option.bind (f621F 1000 (b, ((i + 1 : Nat) : Int), ((num + 1 : Nat) : Int), (vs.length : Int), last)) fun y16 =>
      bif (y16.2 != (0 : Int)) then
        k0 (vs, ByteArray.empty, (i : Int), (k : Int), y16.2, ((num + 1 : Nat) : Int), (i : Int), xs, V2, i2, bl, nb, (k : Int), nm, bl, ())
      else
      bif (sliceBds (4 : Int) (IntKind.i64.wrap ((4 : Int) + y16.1)) (b.size : Int)) then
        Option.bind (f622v0F 1000 (b.extract 4 (Int.toNat (IntKind.i64.wrap ((4 : Int) + y16.1))), ())) fun y18 =>
        k1 (vs, ((num + 1 : Nat) : Int), (i : Int), xs, V2, i2, bl, nb, (k : Int), nm, bl, y18.2.1, ())
      else none) = if blkE (bL b) ((i + 1 : Nat) : Int) ((num + 1 : Nat) : Int) (vs.length : Int) last ≠ 0 then k0 (vs, ByteArray.empty, (i : Int), (k : Int), blkE (bL b) ((i + 1 : Nat) : Int) ((num + 1 : Nat) : Int) (vs.length : Int) last, ((num + 1 : Nat) : Int), (i : Int), xs, V2, i2, bl, nb, (k : Int), nm, bl, ())
      else k1 (vs, ((num + 1 : Nat) : Int), (i : Int), xs, V2, i2, bl, nb, (k : Int), nm, bl, ints (pay b), ()) := by
    intro last
    have hq := f621q (bL b) ((i + 1 : Nat) : Int) (vs.length : Int) (num := ((num + 1 : Nat) : Int)) (by omega) (by omega) last
    rw [S_bL] at hq
    rw [hq, bind_some']
    by_cases he : blkE (bL b) ((i + 1 : Nat) : Int) ((num + 1 : Nat) : Int) (vs.length : Int) last = 0
    · rw [if_pos he, if_neg (fun c => c he)]
      obtain ⟨o1, o2, o3⟩ := blkE_ok he
      have ew : IntKind.i64.wrap (4 + (bsz (bL b) : Int)) = ((4 + bsz (bL b) : Nat) : Int) := by rw [show (4 : Int) + (bsz (bL b) : Int) = ((4 + bsz (bL b) : Nat) : Int) by omega]; exact wi (by omega) (by omega)
      have hsz : (b.size : Int) = ((64 : Nat) : Int) := by rw [← S_bL b, S_size, o1]
      have hpl := pay_len ⟨o1, o2, o3⟩
      rw [bif_false (by rfl)]
      simp only [ew, hsz]
      rw [bif_true (by exact sliceB (a := 4) (n := 64) (by omega) (by omega))]
      simp only [Int.toNat_natCast, ext_pay]
      rw [f622a (pay b) (by omega), bind_some']
    · rw [if_neg he, if_pos he, bif_true (bne0 he)]
  have hl := lastB (R := R) (V := vs.length) (i := i) (n := bl.length) (k := k) hV (by omega) (by omega) (by omega) (fun last => Option.bind (f621F 1000 (b, ((i + 1 : Nat) : Int), ((num + 1 : Nat) : Int), (vs.length : Int), last)) fun y16 =>
      bif (y16.2 != (0 : Int)) then
        k0 (vs, ByteArray.empty, (i : Int), (k : Int), y16.2, ((num + 1 : Nat) : Int), (i : Int), xs, V2, i2, bl, nb, (k : Int), nm, bl, ())
      else
      bif (sliceBds (4 : Int) (IntKind.i64.wrap ((4 : Int) + y16.1)) (b.size : Int)) then
        Option.bind (f622v0F 1000 (b.extract 4 (Int.toNat (IntKind.i64.wrap ((4 : Int) + y16.1))), ())) fun y18 =>
        k1 (vs, ((num + 1 : Nat) : Int), (i : Int), xs, V2, i2, bl, nb, (k : Int), nm, bl, y18.2.1, ())
      else none)
  exact hl.trans (key _)
end Go.Proofs.YtobgkcamonlnkaaGreatDoor
set_option linter.unusedVariables false
set_option linter.unusedSimpArgs false
namespace Go.Proofs.YtobgkcamonlnkaaGreatDoor
open Go.Ab

theorem f581l2q {R : Type} (k0 : List Vol × ByteArray × Int × Int × Int × Int × List Vol × Int × Int × List Int × Unit → Option R) (k1 : List Vol × Int × List Vol × Int × Int × List Int × Unit → Option R)
    (vs xs : List Vol) (V2 i2 : Int) (i : Nat) (nm : ByteArray) (bl : List ByteArray)
    (hV : 1 ≤ vs.length) (hV2 : vs.length ≤ 6) (hi : i ≤ 6) (hbl : bl.length ≤ 60) (k num : Nat) (d : List UInt8) (hk : k ≤ bl.length) (hnum : num ≤ 500 + k) (hd : d.length ≤ 50000 + 52 * k) :
    f581l2 1000 k0 k1 (vs, (num : Int), (i : Int), xs, V2, i2, bl, (bl.length : Int), (k : Int), nm, bl, ints d, ()) =
      match rdBs vs.length i bl.length (bl.drop k) k num d with
      | .inl (k, e, nu, d) => k0 (vs, ByteArray.empty, (i : Int), (k : Int), e, (nu : Int), xs, V2, i2, ints d, ())
      | .inr (nu, d) => k1 (vs, (nu : Int), xs, V2, i2, ints d, ()) := by
  unfold f581l2
  refine iter_from (A := Nat × List UInt8 × Nat) bl (fun k a => (vs, (a.1 : Int), (i : Int), xs, V2, i2, bl, (bl.length : Int), (k : Int), nm, bl, ints a.2.1, ()))
    (fun m a => match rdBs vs.length i bl.length m a.2.2 a.1 a.2.1 with
      | .inl (k, e, nu, d) => k0 (vs, ByteArray.empty, (i : Int), (k : Int), e, (nu : Int), xs, V2, i2, ints d, ())
      | .inr (nu, d) => k1 (vs, (nu : Int), xs, V2, i2, ints d, ()))
    (fun k a => a.2.2 = k ∧ a.1 ≤ 500 + k ∧ a.2.1.length ≤ 50000 + 52 * k) ?_ ?_ (k := 1000) (by omega) k (num, d, k) hk ⟨rfl, hnum, hd⟩
  · intro rec a _
    unfold f581l2s
    simp only [ltn_self, cond_false]
    rfl
  · intro rec j a x hx hj hp
    obtain ⟨nu, d, k⟩ := a
    obtain ⟨h1, h2, h3⟩ := hp
    simp only at h1 h2 h3
    subst h1
    unfold f581l2s
    simp only [ltn hj, cond_true]
    rw [f581p1q _ _ vs xs V2 i2 _ i nu k nm bl d x hx hV hV2 hi hbl (by omega) (by omega)]
    by_cases he : bE vs.length i bl.length k nu x = 0
    · obtain ho := bE_ok he
      have hp := pay_len ho
      rw [if_neg (fun c => c he)]
      refine .inl ⟨(nu + 1, d ++ pay x, k + 1), ⟨rfl, by simp only; omega, by simp only [List.length_append]; omega⟩, by simp only [wi_succ (i := k) (by omega)], ?_⟩
      simp only [rdBs]
      rw [if_neg (fun c => c he)]
    · rw [if_pos he]
      refine .inr ?_
      simp only [rdBs]
      rw [if_pos he]

theorem f581l3q {R : Type} (k0 : List Vol × ByteArray × Int × Int × Int × Int × List Vol × Int × Int × Unit → Option R) (k1 : List Vol × ByteArray × Int × Int × Int × Int × List Vol × Int × Int × List Int × Unit → Option R)
    (k2 : List Vol × Int × List Vol × Int × Int × List Int × Unit → Option R) (k3 : List Vol × Int × List Vol × Int × Int × Unit → Option R)
    (vs xs : List Vol) (V2 i2 : Int) (i : Nat) (nm : ByteArray) (b : ByteArray) (bl : List ByteArray)
    (hV : 1 ≤ vs.length) (hV2 : vs.length ≤ 6) (hi : i ≤ 6) (hbl : (b :: bl).length ≤ 60) (num : Nat) (hnum : num ≤ 400) :
    f581l3 1000 k0 k1 k2 k3 (vs, (num : Int), (i : Int), xs, V2, i2, b :: bl, ((b :: bl).length : Int), (0 : Int), nm, b :: bl, ()) =
      if bE vs.length i (b :: bl).length 0 num b ≠ 0 then k0 (vs, ByteArray.empty, (i : Int), 0, bE vs.length i (b :: bl).length 0 num b, ((num + 1 : Nat) : Int), xs, V2, i2, ())
      else match rdBs vs.length i (b :: bl).length bl 1 (num + 1) (pay b) with
      | .inl (k, e, nu, d) => k1 (vs, ByteArray.empty, (i : Int), (k : Int), e, (nu : Int), xs, V2, i2, ints d, ())
      | .inr (nu, d) => k2 (vs, (nu : Int), xs, V2, i2, ints d, ()) := by
  unfold f581l3
  rw [iterS_1000]
  unfold f581l3s
  have h0 : decide ((0 : Int) < ((b :: bl).length : Int)) = true := by simp
  simp only [h0, cond_true]
  have hp := f581p0q (R := R) (k := 0) (k0 := fun w10 => k0 (w10.1, w10.2.1, w10.2.2.1, w10.2.2.2.1, w10.2.2.2.2.1, w10.2.2.2.2.2.1, w10.2.2.2.2.2.2.2.1, w10.2.2.2.2.2.2.2.2.1, w10.2.2.2.2.2.2.2.2.2.1, ()))
    (k1 := fun w11 => f581l2 1000 (fun w21 => k1 (w21.1, w21.2.1, w21.2.2.1, w21.2.2.2.1, w21.2.2.2.2.1, w21.2.2.2.2.2.1, w21.2.2.2.2.2.2.1, w21.2.2.2.2.2.2.2.1, w21.2.2.2.2.2.2.2.2.1, w21.2.2.2.2.2.2.2.2.2.1, ()))
          (fun w22 => k2 (w22.1, w22.2.1, w22.2.2.1, w22.2.2.2.1, w22.2.2.2.2.1, w22.2.2.2.2.2.1, ()))
          (w11.1, w11.2.1, w11.2.2.1, w11.2.2.2.1, w11.2.2.2.2.1, w11.2.2.2.2.2.1, w11.2.2.2.2.2.2.1, w11.2.2.2.2.2.2.2.1, (IntKind.i64.wrap (w11.2.2.2.2.2.2.2.2.1 + (1 : Int))), w11.2.2.2.2.2.2.2.2.2.1, w11.2.2.2.2.2.2.2.2.2.2.1, w11.2.2.2.2.2.2.2.2.2.2.2.1, ()))
    vs xs V2 i2 ((b :: bl).length : Int) i num nm (b :: bl) b rfl hV hV2 hi hbl (by omega)
  rw [show ((0 : Nat) : Int) = 0 from rfl] at hp
  refine hp.trans ?_
  by_cases he : bE vs.length i (b :: bl).length 0 num b = 0
  · have ho := bE_ok he
    have hpl := pay_len ho
    rw [if_neg (fun c => c he), if_neg (fun c => c he)]
    simp only [show IntKind.i64.wrap ((0 : Int) + 1) = ((1 : Nat) : Int) from rfl]
    rw [f581l2q _ _ vs xs V2 i2 i nm (b :: bl) hV hV2 hi hbl 1 (num + 1) (pay b) (by simp) (by omega) (by omega)]
    rfl
  · rw [if_pos he, if_pos he]

theorem f619q (pre : List Vol) (v : Vol) (h : pre.length ≤ 900) : f619v0F 1000 (pre, v.1, v.2, ()) = some ((pre.any fun y => strEq y.1 v.1), v.1, v.2, ()) := by
  unfold f619v0F f647v0F f647v0l0
  have key := iter_list (k := 1000) (A := Nat) (R := Int × ByteArray × List ByteArray × Unit) (Step := fun rec v => f647v0l0s 1000 rec (fun w2 => some (w2.1, w2.2.1, w2.2.2.1, ())) (fun w3 => some ((-1 : Int), w3.1, w3.2.1, ())) v) pre (fun i _ => (pre, (pre.length : Int), (i : Int), v.1, v.2, ()))
    (fun m i => some (idxN (fun y : Vol => strEq y.1 v.1) m i, v.1, v.2, ())) (fun i a => a = i) ?_ ?_ (by omega) 0 rfl
  · refine (congrArg (fun z => Option.bind z fun y1 => some ((decide (y1.1 ≥ (0 : Int))), y1.2.1, y1.2.2.1, ())) key).trans ?_
    simp only [bind_some']
    rcases idxN_cases (fun y : Vol => strEq y.1 v.1) pre 0 with ⟨h1, h2⟩ | ⟨j, x, h1, h2, h3⟩
    · rw [h1, h2]; rfl
    · have : (pre.any fun y => strEq y.1 v.1) = true := List.any_eq_true.2 ⟨x, List.mem_of_getElem? h2, h3⟩
      rw [h1, this]
      simp
  · intro rec a ha
    unfold f647v0l0s
    simp only [ltn_self, cond_false]
    rfl
  · intro rec i a x hx hi ha
    subst ha
    unfold f647v0l0s f620v0F
    simp only [ltn hi, nn, Bool.and_self, cond_true, Int.toNat_natCast, getD_of hx, wi_succ (i := a) (by omega), bind_some']
    cases hs : strEq x.1 v.1 with
    | true =>
      refine .inr ?_
      simp only [idxN, hs, cond_true, if_true]
    | false =>
      refine .inl ⟨a + 1, rfl, rfl, ?_⟩
      simp only [idxN, hs, Bool.false_eq_true, if_false, cond_false]

theorem f581p5q {R : Type} (k0 : List Vol × ByteArray × Int × Int × Int × Int × List Vol × Int × Int × List Int × Unit → Option R) (k1 : List Vol × Int × List Vol × Int × Int × List Int × Unit → Option R)
    (vs : List Vol) (v : Vol) (V2 : Int) (i num : Nat) (d : List UInt8) (hv : vs[i]? = some v) (hV2 : vs.length ≤ 6) (hnum : num ≤ 400) (hd : d.length ≤ 50000) :
    f581p5 1000 k0 k1 (vs, (num : Int), vs, V2, (i : Int), ints d, ()) =
      if volE (vs.take i) v ≠ 0 then k0 (vs, ByteArray.empty, (i : Int), 0, volE (vs.take i) v, (num : Int), vs, V2, (i : Int), ints d, ())
      else match rdBs vs.length i v.2.length v.2 0 num d with
      | .inl (k, e, nu, d) => k0 (vs, ByteArray.empty, (i : Int), (k : Int), e, (nu : Int), vs, V2, (i : Int), ints d, ())
      | .inr (nu, d) => k1 (vs, (nu : Int), vs, V2, (i : Int), ints d, ()) := by
  have hi := (List.getElem?_eq_some_iff.1 hv).1
  have hsl : sliceBds (0 : Int) (i : Int) (vs.length : Int) = true := sliceB0 (by omega)
  have h619 := f619q (vs.take i) v (by rw [List.length_take]; omega)
  unfold f581p5
  simp only [inb hi, cond_true, Int.toNat_natCast, getD_of hv, f602q 1000 (by decide), bind_some', hsl, List.drop_zero, h619]
  cases h1 : isNm v.1 with
  | false =>
    have : volE (vs.take i) v = 7 := by unfold volE; rw [h1, if_pos rfl]
    rw [this, if_pos (by decide)]; rfl
  | true =>
  simp only [Bool.not_true, cond_false]
  cases h2 : ((vs.take i).any fun y => strEq y.1 v.1) with
  | true =>
    have : volE (vs.take i) v = 13 := by unfold volE; rw [h1, h2, if_neg (by decide), if_pos rfl]
    rw [this, if_pos (by decide)]; rfl
  | false =>
  simp only [cond_false]
  by_cases h3 : v.2.length > 60
  · have : volE (vs.take i) v = 2 := by unfold volE; rw [h1, h2, if_neg (by decide), if_neg (by decide), if_pos h3]
    rw [this, if_pos (by decide), bif_true (by simp; omega)]
  · by_cases h4 : v.2.length = 0
    · have : volE (vs.take i) v = 1 := by unfold volE; rw [h1, h2, if_neg (by decide), if_neg (by decide), if_neg h3, if_pos h4]
      rw [this, if_pos (by decide), bif_false (by simp; omega), bif_true (by rw [h4]; rfl)]
    · have : volE (vs.take i) v = 0 := by unfold volE; rw [h1, h2, if_neg (by decide), if_neg (by decide), if_neg h3, if_neg h4]
      rw [this, if_neg (by decide), bif_false (by simp; omega), bif_false (beq0 (by omega))]
      exact f581l2q _ _ vs vs V2 (i : Int) i v.1 v.2 (by omega) hV2 (by omega) (by omega) 0 num d (by omega) (by omega) (by omega)

theorem rdVs_bnd {V i n num : Nat} {d : List UInt8} {nu : Nat} {d' : List UInt8} {m : List ByteArray} {k : Nat} (h : rdBs V i n m k num d = .inr (nu, d')) (hm : m.length ≤ 60) : nu ≤ num + 60 ∧ d'.length ≤ d.length + 3120 := by
  obtain ⟨h1, h2, h3⟩ := rdBs_ok h
  have := pays_len h3
  rw [h2, List.length_append]
  omega
theorem f581l6q {R : Type} (k0 : ByteArray × Int × Int × Int × List Int × Unit → Option R) (k1 : List Int × Unit → Option R)
    (vs : List Vol) (hV2 : vs.length ≤ 6) (i num : Nat) (d : List UInt8) (hi : i ≤ vs.length) (hnum : num ≤ 60 * i) (hd : d.length ≤ 3120 * i) :
    f581l6 1000 k0 k1 (vs, (num : Int), vs, (vs.length : Int), (i : Int), ints d, ()) =
      match rdVs vs vs.length (vs.drop i) i num d with
      | .inl (i, k, e, d) => k0 (ByteArray.empty, (i : Int), (k : Int), e, ints d, ())
      | .inr d => k1 (ints d, ()) := by
  unfold f581l6
  refine iter_from (A := Nat × List UInt8 × Nat) vs (fun i a => (vs, (a.1 : Int), vs, (vs.length : Int), (i : Int), ints a.2.1, ()))
    (fun m a => match rdVs vs vs.length m a.2.2 a.1 a.2.1 with
      | .inl (i, k, e, d) => k0 (ByteArray.empty, (i : Int), (k : Int), e, ints d, ())
      | .inr d => k1 (ints d, ()))
    (fun i a => a.2.2 = i ∧ a.1 ≤ 60 * i ∧ a.2.1.length ≤ 3120 * i) ?_ ?_ (k := 1000) (by omega) i (num, d, i) hi ⟨rfl, hnum, hd⟩
  · intro rec a _
    unfold f581l6s
    simp only [ltn_self, cond_false]
    rfl
  · intro rec j a v hv hj hp
    obtain ⟨nu, d, i⟩ := a
    obtain ⟨h1, h2, h3⟩ := hp
    simp only at h1 h2 h3
    subst h1
    unfold f581l6s
    simp only [ltn hj, cond_true]
    rw [f581p5q _ _ vs v _ i nu d hv hV2 (by omega) (by omega)]
    by_cases he : volE (vs.take i) v = 0
    · rw [if_neg (fun c => c he)]
      match hr : rdBs vs.length i v.2.length v.2 0 nu d with
      | .inl (k, e, nu', d') =>
        refine .inr ?_
        simp only [rdVs]
        rw [if_neg (fun c => c he), hr]
      | .inr (nu', d') =>
        have hb := rdVs_bnd hr (volE_ok he).2.2
        refine .inl ⟨(nu', d', i + 1), ⟨rfl, by simp only; omega, by simp only; omega⟩, by simp only [wi_succ (i := i) (by omega)], ?_⟩
        simp only [rdVs]
        rw [if_neg (fun c => c he), hr]
    · rw [if_pos he]
      refine .inr ?_
      simp only [rdVs]
      rw [if_pos he]
      rfl
end Go.Proofs.YtobgkcamonlnkaaGreatDoor
set_option linter.unusedVariables false
set_option linter.unusedSimpArgs false
namespace Go.Proofs.YtobgkcamonlnkaaGreatDoor
open Go.Ab

theorem f581p4q {R : Type} (k0 : List Vol × ByteArray × Int × Int × Int × Int × List Vol × Int × Int × Unit → Option R) (k1 : List Vol × ByteArray × Int × Int × Int × Int × List Vol × Int × Int × List Int × Unit → Option R)
    (k2 : List Vol × Int × List Vol × Int × Int × List Int × Unit → Option R) (k3 : List Vol × Int × List Vol × Int × Int × Unit → Option R)
    (v : Vol) (vs : List Vol) (V2 : Int) (hV2 : (v :: vs).length ≤ 6) :
    f581p4 1000 k0 k1 k2 k3 (v :: vs, 0, v :: vs, V2, 0, ()) =
      if volE [] v ≠ 0 then k0 (v :: vs, ByteArray.empty, 0, 0, volE [] v, 0, v :: vs, V2, 0, ())
      else match v.2 with
      | [] => none
      | b :: bl => if bE (v :: vs).length 0 (b :: bl).length 0 0 b ≠ 0 then k0 (v :: vs, ByteArray.empty, 0, 0, bE (v :: vs).length 0 (b :: bl).length 0 0 b, 1, v :: vs, V2, 0, ())
        else match rdBs (v :: vs).length 0 (b :: bl).length bl 1 1 (pay b) with
        | .inl (k, e, nu, d) => k1 (v :: vs, ByteArray.empty, 0, (k : Int), e, (nu : Int), v :: vs, V2, 0, ints d, ())
        | .inr (nu, d) => k2 (v :: vs, (nu : Int), v :: vs, V2, 0, ints d, ()) := by
  have hi : 0 < (v :: vs).length := by simp
  have hsl : sliceBds (0 : Int) 0 ((v :: vs).length : Int) = true := sliceB0 (b := 0) (by omega)
  have h619 := f619q [] v (by simp)
  have hin := inb hi
  rw [show ((0 : Nat) : Int) = 0 from rfl] at hin
  unfold f581p4
  simp only [hin, cond_true, show Int.toNat 0 = 0 from rfl, getD_of (show (v :: vs)[0]? = some v from rfl), f602q 1000 (by decide), bind_some', hsl, List.drop_zero, List.take_zero, h619]
  cases h1 : isNm v.1 with
  | false =>
    have : volE [] v = 7 := by unfold volE; rw [h1, if_pos rfl]
    rw [this, if_pos (by decide)]; rfl
  | true =>
  simp only [Bool.not_true, cond_false, List.any_nil]
  by_cases h3 : v.2.length > 60
  · have : volE [] v = 2 := by unfold volE; rw [h1, List.any_nil, if_neg (by decide), if_neg (by decide), if_pos h3]
    rw [this, if_pos (by decide), bif_true (by simp; omega)]
  · match hb : v.2 with
    | [] =>
      have : volE [] v = 1 := by unfold volE; rw [h1, List.any_nil, if_neg (by decide), if_neg (by decide), if_neg h3, if_pos (by rw [hb]; rfl)]
      rw [this, if_pos (by decide)]; rfl
    | b :: bl =>
      have hl : (b :: bl).length ≤ 60 := by rw [← hb]; omega
      have : volE [] v = 0 := by unfold volE; rw [h1, List.any_nil, if_neg (by decide), if_neg (by decide), if_neg h3, if_neg (by rw [hb]; simp)]
      rw [this, if_neg (by decide), bif_false (by rw [decide_eq_false_iff_not]; omega), bif_false (beq0 (by simp only [List.length_cons]; omega))]
      have h := f581l3q (fun w23 => k0 (w23.1, w23.2.1, w23.2.2.1, w23.2.2.2.1, w23.2.2.2.2.1, w23.2.2.2.2.2.1, w23.2.2.2.2.2.2.1, w23.2.2.2.2.2.2.2.1, w23.2.2.2.2.2.2.2.2.1, ()))
        (fun w24 => k1 (w24.1, w24.2.1, w24.2.2.1, w24.2.2.2.1, w24.2.2.2.2.1, w24.2.2.2.2.2.1, w24.2.2.2.2.2.2.1, w24.2.2.2.2.2.2.2.1, w24.2.2.2.2.2.2.2.2.1, w24.2.2.2.2.2.2.2.2.2.1, ()))
        (fun w25 => k2 (w25.1, w25.2.1, w25.2.2.1, w25.2.2.2.1, w25.2.2.2.2.1, w25.2.2.2.2.2.1, ()))
        (fun w26 => k3 (w26.1, w26.2.1, w26.2.2.1, w26.2.2.2.1, w26.2.2.2.2.1, ()))
        (v :: vs) (v :: vs) V2 0 0 v.1 b bl (by simp) hV2 (by omega) hl 0 (by omega)
      exact h

theorem rdVs_pre {vs : List Vol} {V : Nat} : ∀ {m : List Vol} {i num : Nat} {d d' : List UInt8}, rdVs vs V m i num d = .inr d' →
    d' = d ++ (m.flatMap fun v => v.2.flatMap pay) ∧ ∀ v ∈ m, v.2.length ≤ 60 ∧ ∀ b ∈ v.2, (bL b).length = 64 ∧ 1 ≤ bsz (bL b) ∧ bsz (bL b) ≤ 52
  | [], i, num, d, d', h => by
    simp only [rdVs] at h; cases h
    exact ⟨by simp, by simp⟩
  | v :: m, i, num, d, d', h => by
    simp only [rdVs] at h
    by_cases he : volE (vs.take i) v = 0
    · rw [if_neg (fun c => c he)] at h
      match hr : rdBs V i v.2.length v.2 0 num d, h with
      | .inl (k, e, nu, x), h => cases h
      | .inr (nu, x), h =>
        obtain ⟨h1, h2, h3⟩ := rdBs_ok hr
        obtain ⟨h4, h5⟩ := rdVs_pre h
        refine ⟨by rw [h4, h2, List.append_assoc]; rfl, fun x hx => ?_⟩
        rcases List.mem_cons.1 hx with rfl | hx
        · exact ⟨(volE_ok he).2.2, h3⟩
        · exact h5 x hx
    · rw [if_pos he] at h; cases h
theorem rdVs_err {vs : List Vol} {V : Nat} : ∀ {m : List Vol} {i num : Nat} {d : List UInt8} {i' k : Nat} {e : Int} {d' : List UInt8}, rdVs vs V m i num d = .inl (i', k, e, d') → e ≠ 0
  | [], i, num, d, i', k, e, d', h => by simp only [rdVs] at h; cases h
  | v :: m, i, num, d, i', k, e, d', h => by
    simp only [rdVs] at h
    by_cases he : volE (vs.take i) v = 0
    · rw [if_neg (fun c => c he)] at h
      match hr : rdBs V i v.2.length v.2 0 num d, h with
      | .inl (k, e, nu, x), h =>
        cases h
        have : ∀ {V i n : Nat} {m : List ByteArray} {k num : Nat} {d : List UInt8} {k' nu : Nat} {e : Int} {d' : List UInt8}, rdBs V i n m k num d = .inl (k', e, nu, d') → e ≠ 0 := by
          intro V i n m
          induction m with
          | nil => intro k num d k' nu e d' h; simp only [rdBs] at h; cases h
          | cons b m ih =>
            intro k num d k' nu e d' h
            simp only [rdBs] at h
            by_cases hb : bE V i n k num b = 0
            · rw [if_neg (fun c => c hb)] at h; exact ih h
            · rw [if_pos hb] at h; cases h; exact hb
        exact this hr
      | .inr (nu, x), h => exact rdVs_err h
    · rw [if_pos he] at h; cases h; exact he
theorem rd_err {vs : List Vol} {i k : Nat} {e : Int} (h : rd vs = .inl (i, k, e)) : e ≠ 0 := by
  unfold rd at h
  by_cases h0 : vs.length = 0
  · rw [if_pos h0] at h; cases h; decide
  · rw [if_neg h0] at h
    by_cases h6 : vs.length > 6
    · rw [if_pos h6] at h; cases h; decide
    · rw [if_neg h6] at h
      match hr : rdVs vs vs.length vs 0 0 [], h with
      | .inl (i, k, e, d), h => cases h; exact rdVs_err hr
      | .inr d, h => cases h
theorem rd_ok {vs : List Vol} {d : List UInt8} (h : rd vs = .inr d) : 1 ≤ vs.length ∧ vs.length ≤ 6 ∧ d = (vs.flatMap fun v => v.2.flatMap pay) ∧ ∀ v ∈ vs, v.2.length ≤ 60 ∧ ∀ b ∈ v.2, (bL b).length = 64 ∧ 1 ≤ bsz (bL b) ∧ bsz (bL b) ≤ 52 := by
  unfold rd at h
  by_cases h0 : vs.length = 0
  · rw [if_pos h0] at h; cases h
  · rw [if_neg h0] at h
    by_cases h6 : vs.length > 6
    · rw [if_pos h6] at h; cases h
    · rw [if_neg h6] at h
      match hr : rdVs vs vs.length vs 0 0 [], h with
      | .inl (i, k, e, d), h => cases h
      | .inr d, h =>
        cases h
        obtain ⟨h1, h2⟩ := rdVs_pre hr
        exact ⟨by omega, by omega, by rw [h1]; rfl, h2⟩
theorem range_ints (l : List UInt8) : (List.all (ints l) fun x => decide ((0 : Int) ≤ x) && decide (x ≤ 255)) = true := by
  rw [List.all_eq_true]
  intro x hx
  obtain ⟨b, -, rfl⟩ := List.mem_map.1 hx
  have := byte_rng b
  simp; omega
theorem f581q (vs : List Vol) : f581F 1000 vs = some (match rd vs with | .inl (i, k, e) => (ByteArray.empty, (i : Int), (k : Int), e) | .inr d => (S d, 0, 0, 0)) := by
  unfold f581F rd
  by_cases h0 : vs.length = 0
  · rw [bif_true (by rw [h0]; rfl), if_pos h0]; rfl
  · rw [bif_false (beq0 (by omega)), if_neg h0]
    by_cases h6 : vs.length > 6
    · rw [bif_true (by simp; omega), if_pos h6]; rfl
    · rw [bif_false (by simp; omega), if_neg h6]
      match vs, h0, h6 with
      | v :: vs, h0, h6 =>
        unfold f581p8 f581l7
        rw [iterS_1000]
        unfold f581l7s
        have hd : decide ((0 : Int) < ((v :: vs).length : Int)) = true := by simp
        simp only [hd, cond_true]
        rw [f581p4q _ _ _ _ v vs _ (by omega)]
        have hst : rdVs (v :: vs) (v :: vs).length (v :: vs) 0 0 [] = if volE [] v ≠ 0 then .inl (0, 0, volE [] v, []) else
          match rdBs (v :: vs).length 0 v.2.length v.2 0 0 [] with
          | .inl (k, e, _, d') => .inl (0, k, e, d')
          | .inr (nu, d') => rdVs (v :: vs) (v :: vs).length vs 1 nu d' := rfl
        rw [hst]
        by_cases he : volE [] v = 0
        · rw [if_neg (fun c => c he), if_neg (fun c => c he)]
          obtain ⟨o1, o2, o3⟩ := volE_ok he
          match hb : v.2 with
          | [] => rw [hb] at o2; simp at o2
          | b :: bl =>
            rw [hb] at o3
            simp only
            have hs1 : rdBs (v :: vs).length 0 (b :: bl).length (b :: bl) 0 0 [] = if bE (v :: vs).length 0 (b :: bl).length 0 0 b ≠ 0 then .inl (0, bE (v :: vs).length 0 (b :: bl).length 0 0 b, 1, []) else rdBs (v :: vs).length 0 (b :: bl).length bl 1 1 (pay b) := by
              simp only [rdBs, List.nil_append, Nat.zero_add]
            rw [hs1]
            by_cases hbe : bE (v :: vs).length 0 (b :: bl).length 0 0 b = 0
            · rw [if_neg (fun c => c hbe), if_neg (fun c => c hbe)]
              have hpl := pay_len (bE_ok hbe)
              have hok := bE_ok hbe
              match hr : rdBs (v :: vs).length 0 (b :: bl).length bl 1 1 (pay b) with
              | .inl (k, e, nu, d) => rfl
              | .inr (nu, d) =>
                obtain ⟨q1, q2, q3⟩ := rdBs_ok hr
                have q4 := pays_len q3
                have o4 : bl.length ≤ 59 := by simpa using o3
                have hdl : d.length ≤ 3120 := by rw [q2, List.length_append]; omega
                have h6q := f581l6q (R := ByteArray × Int × Int × Int) (fun w36 => some (w36.1, w36.2.1, w36.2.2.1, w36.2.2.2.1)) (fun w37 => bif (!(List.isEmpty w37.1) && (List.all w37.1 fun x => decide ((0 : Int) ≤ x) && decide (x ≤ 255))) then some ((strOfNums w37.1), (0 : Int), (0 : Int), (0 : Int)) else none)
                  (v :: vs) (by omega) 1 nu d (by simp) (by omega) (by omega)
                refine h6q.trans ?_
                rw [show (v :: vs).drop 1 = vs from rfl]
                show _ = some (match (match rdVs (v :: vs) (v :: vs).length vs 1 nu d with | .inl (i, k, e, _) => .inl (i, k, e) | .inr d => .inr d : (Nat × Nat × Int) ⊕ List UInt8) with | .inl (i, k, e) => (ByteArray.empty, (i : Int), (k : Int), e) | .inr d => (S d, 0, 0, 0))
                match hv : rdVs (v :: vs) (v :: vs).length vs 1 nu d with
                | .inl (i, k, e, d') => rfl
                | .inr d' =>
                  obtain ⟨p1, p2⟩ := rdVs_pre hv
                  have hne : 1 ≤ d'.length := by rw [p1, q2, List.length_append, List.length_append]; omega
                  show (bif (!(List.isEmpty (ints d')) && (List.all (ints d') fun x => decide ((0 : Int) ≤ x) && decide (x ≤ 255))) then some ((strOfNums (ints d')), (0 : Int), (0 : Int), (0 : Int)) else none) = _
                  rw [range_ints, S_back, bif_true]
                  cases d' with
                  | nil => simp at hne
                  | cons x d' => rfl
            · rw [if_pos hbe, if_pos hbe]
              rfl
        · rw [if_pos he, if_pos he]
          rfl
theorem f536q (vs : List Vol) : f536F 1000 vs = some (match rd vs with | .inl (i, k, e) => ((i : Int), (k : Int), e) | .inr d => ((d.length : Int), 0, 0)) := by
  unfold f536F
  rw [f581q, bind_some']
  match hr : rd vs with
  | .inl (i, k, e) => simp only; rw [bif_true (bne0 (rd_err hr))]
  | .inr d => simp only [bne00, cond_false, S_size]
theorem f538q (vs : List Vol) : f538F 1000 vs = some (match rd vs with | .inl (i, k, e) => ([], e) | .inr d => tblsIn d) := by
  unfold f538F
  rw [f581q, bind_some']
  match hr : rd vs with
  | .inl (i, k, e) => simp only; rw [bif_true (bne0 (rd_err hr))]
  | .inr d => simp only [bne00, cond_false, f532q, bind_some']
end Go.Proofs.YtobgkcamonlnkaaGreatDoor
set_option linter.unusedVariables false
set_option linter.unusedSimpArgs false
namespace Go.Proofs.YtobgkcamonlnkaaGreatDoor
open Go.Ab

def fewV (v : Vol) : Bool := decide (v.2.length ≤ 62) && v.2.all fun b => decide (b.size ≤ 84)
def fewVs (vs : List Vol) : Bool := decide (vs.length ≤ 8) && vs.all fewV
theorem f535q (vs : List Vol) : f535F 1000 vs = some (fewVs vs) := by
  unfold f535F fewVs
  by_cases h8 : vs.length > 8
  · have : decide (vs.length ≤ 8) = false := by simp; omega
    rw [bif_true (by simp; omega), this]; rfl
  · have : decide (vs.length ≤ 8) = true := by simp; omega
    rw [bif_false (by simp; omega), this, Bool.true_and]
    unfold f535l1
    refine iter_list (A := Unit) vs (fun i a => (vs, (i : Int), ())) (fun m a => some (m.all fewV)) (fun _ _ => True) ?_ ?_ (k := 1000) (by omega) () trivial
    · intro rec a _
      unfold f535l1s
      simp only [ltn_self, cond_false]
      rfl
    · intro rec i a v hv hi _
      unfold f535l1s
      simp only [ltn hi, nn, Bool.and_self, cond_true, Int.toNat_natCast, getD_of hv]
      by_cases h62 : v.2.length > 62
      · refine .inr ?_
        have : fewV v = false := by unfold fewV; rw [decide_eq_false (by omega)]; rfl
        rw [bif_true (by simp; omega), List.all_cons, this]; rfl
      · rw [bif_false (by simp; omega)]
        unfold f535l0
        have key := iter_list (Step := fun rec' v => f535l0s 1000 rec' (fun w4 => some w4.2.1) (fun w5 => rec (w5.1, (IntKind.i64.wrap (w5.2.1 + (1 : Int))), ())) v) (A := Unit) v.2 (fun k _ => (vs, (i : Int), (k : Int), ())) (fun m _ => bif (m.all fun b => decide (b.size ≤ 84)) then rec (vs, ((i + 1 : Nat) : Int), ()) else some false) (fun _ _ => True) ?_ ?_ (k := 1000) (by omega) () trivial
        · by_cases hf : (v.2.all fun b => decide (b.size ≤ 84)) = true
          · have h2 : fewV v = true := by unfold fewV; rw [hf, decide_eq_true (by omega)]; rfl
            refine .inl ⟨(), trivial, key.trans (by rw [bif_true hf]), ?_⟩
            rw [List.all_cons, h2]; rfl
          · have h2 : fewV v = false := by unfold fewV; rw [Bool.eq_false_iff.2 hf, Bool.and_false]
            refine .inr (key.trans ?_)
            rw [bif_false (Bool.eq_false_iff.2 hf), List.all_cons, h2]; rfl
        · intro rec' a _
          unfold f535l0s
          simp only [inb hi, cond_true, Int.toNat_natCast, getD_of hv, ltn_self, cond_false, wi_succ (i := i) (by omega), List.all_nil]
        · intro rec' k a b hb hk _
          unfold f535l0s
          simp only [ltn hi, cond_true, Int.toNat_natCast, getD_of hv, ltn hk, nn, Bool.and_self, getD_of hb, wi_succ (i := k) (by omega), List.all_cons]
          by_cases h84 : b.size > 84
          · refine .inr ?_
            rw [bif_true (by simp; omega), decide_eq_false (show ¬ b.size ≤ 84 by omega)]
            rfl
          · refine .inl ⟨(), trivial, by rw [bif_false (by simp; omega)], ?_⟩
            rw [decide_eq_true (show b.size ≤ 84 by omega), Bool.true_and]
theorem f537q (vs : List Vol) (h : vs.length ≤ 900) (h2 : ∀ v ∈ vs, v.2.length ≤ 900) : f537F 1000 vs = some vs := by
  unfold f537F f537l0
  refine (iter_list (A := List Vol) vs (fun i a => (vs, (i : Int), a, ())) (fun m a => some (a ++ m)) (fun i a => a.length = i) ?_ ?_ (k := 1000) (by omega) [] rfl).trans rfl
  · intro rec a _
    unfold f537l0s
    simp only [ltn_self, cond_false, List.append_nil]
  · intro rec i a v hv hi hp
    unfold f537l0s
    simp only [ltn hi, nn, Bool.and_self, cond_true, Int.toNat_natCast, getD_of hv, f522q v.2 (by have := h2 v (List.mem_of_getElem? hv); omega), bind_some', wi_succ (i := i) (by omega)]
    rw [bif_true (by simp; omega)]
    refine .inl ⟨a ++ [v], by simp [hp], rfl, by simp⟩
end Go.Proofs.YtobgkcamonlnkaaGreatDoor
set_option linter.unusedVariables false
set_option linter.unusedSimpArgs false
namespace Go.Proofs.YtobgkcamonlnkaaGreatDoor
open Go.Ab

end Go.Proofs.YtobgkcamonlnkaaGreatDoor
set_option linter.unusedVariables false
set_option linter.unusedSimpArgs false
namespace Go.Proofs.YtobgkcamonlnkaaGreatDoor
open Go.Ab

theorem blk_ok {vol num vols : Nat} {data : List UInt8} {last : Bool} (hv : vol ≤ 255) (hn : num < 65536) (hw : vols ≤ 255) (hd : 1 ≤ data.length ∧ data.length ≤ 52) (hl : last = true ∨ data.length = 52) :
    blkE (blkB (vol : Int) (num : Int) data last (vols : Int)) (vol : Int) (num : Int) (vols : Int) last = 0 ∧ pay (S (blkB (vol : Int) (num : Int) data last (vols : Int))) = data := by
  have hH := blkH_length (vol := (vol : Int)) (num := (num : Int)) (last := last) (vols := (vols : Int)) hd.2
  have hcl : ∀ x : Int, (bg x 4).length = 4 := fun x => bg_length x 4
  generalize hX : blkB (vol : Int) (num : Int) data last (vols : Int) = X
  have e0 : X = blkH (vol : Int) (num : Int) data last (vols : Int) ++ bg (sumG 1 (blkH (vol : Int) (num : Int) data last (vols : Int))) 4 := hX.symm
  have hlen : X.length = 64 := by rw [e0, List.length_append, hH, hcl]
  have t60 : X.take 60 = blkH (vol : Int) (num : Int) data last (vols : Int) := by rw [e0]; exact List.take_left' hH
  have d60 : X.drop 60 = bg (sumG 1 (blkH (vol : Int) (num : Int) data last (vols : Int))) 4 := by rw [e0]; exact List.drop_left' hH
  obtain ⟨b1, b2, hb⟩ : ∃ b1 b2, bg (num : Int) 2 = [b1, b2] := by
    have h2 := bg_length (num : Int) 2
    match hb : bg (num : Int) 2, h2 with
    | [b1, b2], _ => exact ⟨b1, b2, rfl⟩
  let c := oneB ((data.length : Int) + if last = true then 128 else 0)
  have hc : (c.toNat : Int) = (data.length : Int) + if last = true then 128 else 0 := by
    have := oneB_int ((data.length : Int) + if last = true then 128 else 0)
    show ((oneB ((data.length : Int) + if last = true then 128 else 0)).toNat : Int) = _
    rw [this]
    cases last <;> simp <;> omega
  have eH : blkH (vol : Int) (num : Int) data last (vols : Int) = oneB (vol : Int) :: b1 :: b2 :: c :: (data ++ (List.replicate (52 - data.length) 0 ++ [oneB (vols : Int), 0, 0, 0])) := by
    unfold blkH
    rw [hb]
    simp only [List.singleton_append, List.cons_append, List.nil_append, List.append_assoc]
    rfl
  have eX : X = oneB (vol : Int) :: b1 :: b2 :: c :: (data ++ (List.replicate (52 - data.length) 0 ++ (oneB (vols : Int) :: 0 :: 0 :: 0 :: bg (sumG 1 (blkH (vol : Int) (num : Int) data last (vols : Int))) 4))) := by
    rw [e0]
    conv => lhs; rw [eH]
    simp only [List.cons_append, List.append_assoc, List.nil_append]
    rw [← eH]
  have g0 : X.getD 0 0 = oneB (vol : Int) := by rw [eX]; rfl
  have g3 : X.getD 3 0 = c := by rw [eX]; rfl
  have g12 : (X.drop 1).take 2 = bg (num : Int) 2 := by rw [eX, hb]; rfl
  let A := oneB (vol : Int) :: b1 :: b2 :: c :: data
  have lA : A.length = 4 + data.length := by show (oneB (vol : Int) :: b1 :: b2 :: c :: data).length = _; simp only [List.length_cons]; omega
  have eA : X = (A ++ List.replicate (52 - data.length) 0) ++ (oneB (vols : Int) :: 0 :: 0 :: 0 :: bg (sumG 1 (blkH (vol : Int) (num : Int) data last (vols : Int))) 4) := by
    conv => lhs; rw [eX]
    show _ = ((oneB (vol : Int) :: b1 :: b2 :: c :: data) ++ _) ++ _
    simp only [List.cons_append, List.append_assoc]
  have lB : (A ++ List.replicate (52 - data.length) 0).length = 56 := by rw [List.length_append, lA, List.length_replicate]; omega
  have t56 : X.take 56 = A ++ List.replicate (52 - data.length) 0 := by rw [eA]; exact List.take_left' lB
  have g56 : X.getD 56 0 = oneB (vols : Int) := by
    have : X[56]? = some (oneB (vols : Int)) := by
      rw [eA, List.getElem?_append_right (by omega), lB]; rfl
    exact getD_of this
  have z1 : zs ((X.take 56).drop (4 + data.length)) = true := by
    rw [t56, List.drop_left' lA]
    unfold zs
    simp
  have z2 : zs ((X.take 60).drop 57) = true := by
    rw [t60, eH]
    have : (oneB (vol : Int) :: b1 :: b2 :: c :: (data ++ (List.replicate (52 - data.length) 0 ++ [oneB (vols : Int), 0, 0, 0]))) = (A ++ List.replicate (52 - data.length) 0 ++ [oneB (vols : Int)]) ++ [0, 0, 0] := by
      show _ = ((oneB (vol : Int) :: b1 :: b2 :: c :: data) ++ _ ++ _) ++ _
      simp only [List.cons_append, List.append_assoc, List.nil_append]
    rw [this, List.drop_left' (by rw [List.length_append, lB]; rfl)]
    rfl
  have hsz : bsz X = data.length := by
    unfold bsz
    rw [g3]
    cases last <;> simp at hc <;> omega
  have hsay : bsay X = last := by
    unfold bsay
    rw [g3]
    cases last <;> simp at hc ⊢ <;> omega
  have hfrm : frmB X last = true := by
    unfold frmB
    rw [hsz, z1, z2]
    rcases hl with rfl | hl
    · simp; omega
    · simp [hl]
  have hord : ordB X (vol : Int) (num : Int) = true := by
    unfold ordB
    have h2 : (256 : Int) ^ 2 = 65536 := by decide
    rw [g0, g12, oneB_int, val_bg 2 (num : Int) (by omega) (by omega)]
    simp
    omega
  have hsum : val (X.drop 60) = sumG 1 (X.take 60) := by
    rw [t60, d60]
    have sr := sumG_rng (blkH (vol : Int) (num : Int) data last (vols : Int)) 1 (by decide) (by decide)
    have h4 : (256 : Int) ^ 4 = 4294967296 := by decide
    exact val_bg 4 _ sr.1 (by omega)
  refine ⟨?_, ?_⟩
  · unfold blkE
    rw [if_neg (fun c => c hlen), if_neg (fun c => c hsum), hfrm, hord, if_neg (show ¬ true = false by decide), if_neg (show ¬ true = false by decide), g56, oneB_int, if_neg (by omega), hsay]
    cases last <;> rfl
  · unfold pay
    rw [bL_S, hsz]
    have : X.take (4 + data.length) = A := by
      rw [eA, List.append_assoc]; exact List.take_left' lA
    rw [this]
    rfl

def cnt (r n v : Nat) : Nat := min r (n - v * r)
theorem filt (r v : Nat) (hr : 1 ≤ r) : ∀ n, (List.range n).filter (fun j => j / r == v) = List.range' (v * r) (cnt r n v) := by
  intro n
  induction n with
  | zero => unfold cnt; simp
  | succ n ih =>
    rw [List.range_succ, List.filter_append, ih]
    have hdm := Nat.div_add_mod n r
    have hml := Nat.mod_lt n hr
    by_cases h : n / r = v
    · have h1 : (n / r == v) = true := by simpa using h
      have hm : v * r = r * (n / r) := by rw [h, Nat.mul_comm]
      have hc : cnt r n v = n - v * r := by unfold cnt; omega
      have hc2 : cnt r (n + 1) v = (n - v * r) + 1 := by unfold cnt; omega
      rw [hc, hc2, List.range'_concat]
      simp only [List.filter_cons, h1, if_true, List.filter_nil]
      congr 2
      omega
    · have h1 : (n / r == v) = false := by simpa using h
      simp only [List.filter_cons, h1, List.filter_nil, List.append_nil]
      have : cnt r (n + 1) v = cnt r n v := by
        unfold cnt
        rcases Nat.lt_or_gt_of_ne h with h2 | h2
        · have : (n / r + 1) * r ≤ v * r := Nat.mul_le_mul_right _ h2
          have e : (n / r + 1) * r = r * (n / r) + r := by rw [Nat.add_mul, Nat.one_mul, Nat.mul_comm]
          omega
        · have : (v + 1) * r ≤ n / r * r := Nat.mul_le_mul_right _ h2
          have e : (v + 1) * r = v * r + r := by rw [Nat.add_mul, Nat.one_mul]
          have e2 : n / r * r = r * (n / r) := Nat.mul_comm _ _
          omega
      rw [this]
      simp
theorem bls_rng (s : List UInt8) (r v : Nat) (hr : 1 ≤ r) (n : Nat) : bls s r v n = (List.range' (v * r) (cnt r n v)).map (bk s r) := by
  unfold bls
  rw [filt r v hr]
theorem chks (s : List UInt8) : ∀ (c a : Nat), (List.range' a c).flatMap (chk s) = (s.drop (a * 52)).take (c * 52) := by
  intro c
  induction c with
  | zero => intro a; simp
  | succ c ih =>
    intro a
    rw [List.range'_succ, List.flatMap_cons, ih, show (c + 1) * 52 = 52 + c * 52 by omega, List.take_add, List.drop_drop]
    unfold chk
    rw [show a * 52 + 52 = (a + 1) * 52 by omega]

theorem bk_ok {s : List UInt8} {r v k : Nat} (hr : 1 ≤ r) (hr2 : r ≤ 60) (hk : k < cnt r (nbl s) v) (hn : nbl s ≤ 360) (hV : vls (nbl s) r ≤ 6) :
    bE (vls (nbl s) r) v (cnt r (nbl s) v) k (v * r + k) (bk s r (v * r + k)) = 0 ∧ pay (bk s r (v * r + k)) = chk s (v * r + k) := by
  have hk1 : k < r ∧ v * r + k < nbl s := by unfold cnt at hk; omega
  have hdv : (v * r + k) / r = v := by
    rw [Nat.mul_comm, Nat.mul_add_div hr, Nat.div_eq_of_lt hk1.1, Nat.add_zero]
  have hlt := vls_lt hr hk1.2
  rw [hdv] at hlt
  have hlast : (v * r + k == nbl s - 1) = (v + 1 == vls (nbl s) r && k + 1 == cnt r (nbl s) v) := by
    rw [Bool.eq_iff_iff]
    simp only [beq_iff_eq, Bool.and_eq_true]
    constructor
    · intro h
      have e : nbl s = (v * r + k) + 1 := by omega
      have e2 := vls_succ (r := r) (i := v * r + k) hr
      rw [← e, hdv] at e2
      refine ⟨e2.symm, ?_⟩
      unfold cnt
      omega
    · intro ⟨h1, h2⟩
      have e := vls_le (n := nbl s) (r := r) (V := v + 1) hr (by omega)
      have e2 : (v + 1) * r = v * r + r := by rw [Nat.add_mul, Nat.one_mul]
      unfold cnt at h2
      omega
  have hcl : 1 ≤ (chk s (v * r + k)).length ∧ (chk s (v * r + k)).length ≤ 52 := by
    have := nbl_lt hk1.2
    unfold chk
    rw [List.length_take, List.length_drop]
    omega
  have hfull : (v * r + k == nbl s - 1) = true ∨ (chk s (v * r + k)).length = 52 := by
    by_cases h : v * r + k = nbl s - 1
    · exact .inl (by simpa using h)
    · refine .inr ?_
      have := nbl_lt (s := s) (i := v * r + k + 1) (by omega)
      unfold chk
      rw [List.length_take, List.length_drop]
      omega
  have h := blk_ok (vol := v + 1) (num := v * r + k + 1) (vols := vls (nbl s) r) (data := chk s (v * r + k)) (last := (v * r + k == nbl s - 1)) (by omega) (by omega) (by omega) hcl hfull
  have hbk : bk s r (v * r + k) = S (blkB ((v + 1 : Nat) : Int) ((v * r + k + 1 : Nat) : Int) (chk s (v * r + k)) (v * r + k == nbl s - 1) (vls (nbl s) r : Nat)) := by
    unfold bk
    rw [hdv]
  rw [hbk]
  refine ⟨?_, h.2⟩
  unfold bE
  rw [bL_S, ← hlast]
  exact h.1
theorem rdBs_vol {s : List UInt8} {r v : Nat} (hr : 1 ≤ r) (hr2 : r ≤ 60) (hn : nbl s ≤ 360) (hV : vls (nbl s) r ≤ 6) : ∀ (c k : Nat) (d : List UInt8), k + c = cnt r (nbl s) v →
    rdBs (vls (nbl s) r) v (cnt r (nbl s) v) ((List.range' (v * r + k) c).map (bk s r)) k (v * r + k) d = .inr (v * r + k + c, d ++ (List.range' (v * r + k) c).flatMap (chk s)) := by
  intro c
  induction c with
  | zero => intro k d h; simp [rdBs]
  | succ c ih =>
    intro k d h
    obtain ⟨h1, h2⟩ := bk_ok (s := s) (r := r) (v := v) (k := k) hr hr2 (by omega) hn hV
    rw [List.range'_succ, List.map_cons]
    simp only [rdBs]
    rw [if_neg (fun c => c h1), h2]
    have := ih (k + 1) (d ++ chk s (v * r + k)) (by omega)
    rw [show v * r + (k + 1) = v * r + k + 1 by omega] at this
    rw [this, List.flatMap_cons, List.append_assoc, show v * r + k + 1 + c = v * r + k + (c + 1) by omega]
theorem nms_ok {l : List ByteArray} : ∀ {m : List ByteArray} {i : Nat}, nmsE l m i = 0 → ∀ (j : Nat) x, m[j]? = some x → isNm x = true ∧ ((l.take (i + j)).any fun y => strEq y x) = false
  | [], i, h, j, x, hx => by simp at hx
  | y :: m, i, h, j, x, hx => by
    unfold nmsE at h
    cases h1 : isNm y with
    | false => rw [h1, if_pos rfl] at h; exact absurd h (by decide)
    | true =>
      rw [if_neg (show ¬ isNm y = false by rw [h1]; decide)] at h
      cases h2 : ((l.take i).any fun z => strEq z y) with
      | true => rw [if_pos h2] at h; exact absurd h (by decide)
      | false =>
        rw [if_neg (show ¬ ((l.take i).any fun z => strEq z y) = true by rw [h2]; decide)] at h
        cases j with
        | zero =>
          simp only [List.getElem?_cons_zero, Option.some.injEq] at hx
          subst hx
          exact ⟨h1, h2⟩
        | succ j =>
          rw [List.getElem?_cons_succ] at hx
          have := nms_ok h j x hx
          rwa [show i + 1 + j = i + (j + 1) by omega] at this
theorem rd_vol {names : List ByteArray} {s : List UInt8} {r : Nat} (hr : 1 ≤ r) (hr2 : r ≤ 60) (hN : nmsE names names 0 = 0) (hV : vls (nbl s) r ≤ names.length) (h6 : names.length ≤ 6) (hs : 1 ≤ s.length) :
    rd (volL names s r) = .inr s := by
  have hn : nbl s ≤ 360 := by have := vls_le (n := nbl s) (r := r) (V := 6) hr (by omega); omega
  have hn1 : 1 ≤ nbl s := by unfold nbl; omega
  have hV1 : 1 ≤ vls (nbl s) r := by have := vls_lt (n := nbl s) (r := r) (i := 0) hr (by omega); rw [Nat.zero_div] at this; omega
  have hlen : (volL names s r).length = vls (nbl s) r := by unfold volL; simp
  let f : Nat → Vol := fun v => (names.getD v ByteArray.empty, bls s r v (nbl s))
  have hvf : volL names s r = (List.range' 0 (vls (nbl s) r)).map f := by unfold volL; rw [List.range_eq_range']
  have key : ∀ (c v : Nat) (d : List UInt8), v + c = vls (nbl s) r → rdVs (volL names s r) (vls (nbl s) r) ((List.range' v c).map f) v (v * r) d = .inr (d ++ (List.range' (v * r) (nbl s - v * r)).flatMap (chk s)) := by
    intro c
    induction c with
    | zero =>
      intro v d h
      have := vls_le (n := nbl s) (r := r) (V := v) hr (by omega)
      rw [show nbl s - v * r = 0 by omega]
      simp [rdVs]
    | succ c ih =>
      intro v d h
      have hvn : v < names.length := by omega
      have hx : names[v]? = some names[v] := List.getElem?_eq_getElem hvn
      obtain ⟨n1, n2⟩ := nms_ok hN v _ hx
      rw [Nat.zero_add] at n2
      have hvr : v * r < nbl s := by
        rcases Nat.lt_or_ge (v * r) (nbl s) with h1 | h1
        · exact h1
        · exfalso
          have e : vls (nbl s) r ≤ v := by
            have : vls (nbl s) r = (nbl s + r - 1) / r := rfl
            rw [this]
            have h2 : nbl s + r - 1 < (v + 1) * r := by rw [Nat.add_mul]; omega
            have := (Nat.div_lt_iff_lt_mul hr).2 h2
            omega
          omega
      have hcnt : 1 ≤ cnt r (nbl s) v ∧ cnt r (nbl s) v ≤ 60 := by unfold cnt; omega
      have hbl : (f v).2 = (List.range' (v * r) (cnt r (nbl s) v)).map (bk s r) := bls_rng s r v hr (nbl s)
      have hbll : (f v).2.length = cnt r (nbl s) v := by rw [hbl]; simp
      have hnm : (f v).1 = names[v] := getD_of hx
      have hany : (((volL names s r).take v).any fun y => strEq y.1 (f v).1) = false := by
        rw [hnm]
        rw [Bool.eq_false_iff]
        intro ha
        obtain ⟨y, hy, he⟩ := List.any_eq_true.1 ha
        obtain ⟨j, hj⟩ := List.mem_iff_getElem?.1 hy
        rw [List.getElem?_take] at hj
        by_cases hjv : j < v
        · rw [if_pos hjv] at hj
          have hj2 : (volL names s r)[j]? = some (f j) := by
            rw [hvf, List.getElem?_map, List.getElem?_range' (by omega)]
            simp
          rw [hj2] at hj
          cases hj
          have hxj : names[j]? = some names[j] := List.getElem?_eq_getElem (by omega)
          have e : (f j).1 = names[j] := getD_of hxj
          rw [e] at he
          have : ((names.take v).any fun y => strEq y names[v]) = true := List.any_eq_true.2 ⟨names[j], List.mem_iff_getElem?.2 ⟨j, by rw [List.getElem?_take, if_pos hjv, hxj]⟩, he⟩
          rw [this] at n2
          exact absurd n2 (by decide)
        · rw [if_neg hjv] at hj; cases hj
      have hvolE : volE ((volL names s r).take v) (f v) = 0 := by
        unfold volE
        rw [if_neg (show ¬ isNm (f v).1 = false by rw [hnm, n1]; decide), if_neg (by rw [hany]; decide), if_neg (by omega), if_neg (by omega)]
      rw [List.range'_succ, List.map_cons]
      simp only [rdVs]
      rw [if_neg (fun c => c hvolE)]
      have hb := rdBs_vol (s := s) (r := r) (v := v) hr hr2 hn (by omega) (cnt r (nbl s) v) 0 d (by omega)
      rw [Nat.add_zero] at hb
      have hb2 : rdBs (vls (nbl s) r) v (f v).2.length (f v).2 0 (v * r) d = .inr (v * r + cnt r (nbl s) v, d ++ (List.range' (v * r) (cnt r (nbl s) v)).flatMap (chk s)) := by
        rw [hbll, hbl]; exact hb
      rw [hb2]
      simp only
      cases c with
      | zero =>
        have := vls_le (n := nbl s) (r := r) (V := v + 1) hr (by omega)
        have e2 : (v + 1) * r = v * r + r := by rw [Nat.add_mul, Nat.one_mul]
        have : cnt r (nbl s) v = nbl s - v * r := by unfold cnt; omega
        rw [this]
        simp [rdVs]
      | succ c =>
        have e2 : (v + 1) * r = v * r + r := by rw [Nat.add_mul, Nat.one_mul]
        have hfull : cnt r (nbl s) v = r := by
          have h1 : (v + 1) * r < nbl s := by
            rcases Nat.lt_or_ge ((v + 1) * r) (nbl s) with h1 | h1
            · exact h1
            · exfalso
              have e : vls (nbl s) r ≤ v + 1 := by
                have : vls (nbl s) r = (nbl s + r - 1) / r := rfl
                rw [this]
                have h2 : nbl s + r - 1 < (v + 1 + 1) * r := by rw [Nat.add_mul]; omega
                have := (Nat.div_lt_iff_lt_mul hr).2 h2
                omega
              omega
          unfold cnt
          omega
        rw [hfull, ← e2, ih (v + 1) _ (by omega), List.append_assoc, ← List.flatMap_append]
        congr 2
        have := List.range'_append (s := v * r) (m := r) (n := nbl s - (v + 1) * r) (step := 1)
        rw [Nat.one_mul, ← e2] at this
        rw [this]
        congr 2
        unfold cnt at hfull
        omega
  unfold rd
  rw [if_neg (by omega), if_neg (by omega), hlen]
  have h := key (vls (nbl s) r) 0 [] (by omega)
  rw [← hvf, Nat.zero_mul, Nat.sub_zero, chks] at h
  rw [h]
  have : s.take (nbl s * 52) = s := List.take_of_length_le (by unfold nbl; omega)
  simp only [List.nil_append, Nat.zero_mul, List.drop_zero, this]
theorem savedS_ok {l : List Tbl} {names : List ByteArray} {room : Int} (h : (savedS l names room).2 = 0) : (chkTs l).2 = 0 ∧ rd (savedS l names room).1 = .inr (strm l) := by
  unfold savedS at h ⊢
  by_cases h1 : (chkTs l).2 = 0
  · rw [if_neg (fun c => c h1)] at h ⊢
    by_cases h2 : room < 1 ∨ room > 60
    · rw [if_pos h2] at h; exact absurd h (by decide)
    · rw [if_neg h2] at h ⊢
      by_cases h3 : names.length > 6
      · rw [if_pos h3] at h; exact absurd h (by decide)
      · rw [if_neg h3] at h ⊢
        by_cases h4 : nmsE names names 0 = 0
        · rw [if_neg (fun c => c h4)] at h ⊢
          by_cases h5 : vls (nbl (strm l)) room.toNat > names.length
          · rw [if_pos h5] at h; exact absurd h (by decide)
          · rw [if_neg h5]
            exact ⟨h1, rd_vol (by omega) (by omega) h4 (by omega) (by omega) (strm_length h1).1⟩
        · rw [if_pos h4] at h; exact absurd h h4
  · rw [if_pos h1] at h; exact absurd h h1
end Go.Proofs.YtobgkcamonlnkaaGreatDoor
set_option linter.unusedVariables false
set_option linter.unusedSimpArgs false
namespace Go.Proofs.YtobgkcamonlnkaaGreatDoor
open Go.Ab

noncomputable def resV (vs : List Vol) : List Tbl × Int := match rd vs with | .inl (_, _, e) => ([], e) | .inr d => tblsIn d
end Go.Proofs.YtobgkcamonlnkaaGreatDoor
set_option linter.unusedVariables false
set_option linter.unusedSimpArgs false
namespace Go.Proofs.YtobgkcamonlnkaaGreatDoor
open Go.Ab

end Go.Proofs.YtobgkcamonlnkaaGreatDoor
set_option linter.unusedVariables false
set_option linter.unusedSimpArgs false
namespace Go.Proofs.YtobgkcamonlnkaaGreatDoor
open Go.Ab

end Go.Proofs.YtobgkcamonlnkaaGreatDoor
set_option linter.unusedVariables false
set_option linter.unusedSimpArgs false
namespace Go.Proofs.YtobgkcamonlnkaaGreatDoor
open Go.Ab

def nb (vs : List Vol) : Nat := (vs.map fun v => v.2.length).sum
theorem nb_cons (v : Vol) (vs : List Vol) : nb (v :: vs) = v.2.length + nb vs := by unfold nb; rw [List.map_cons, List.sum_cons]
theorem nb_snoc (v : Vol) (vs : List Vol) : nb (vs ++ [v]) = nb vs + v.2.length := by
  unfold nb; rw [List.map_append, List.sum_append]; simp
theorem rdBs_at {V i n : Nat} : ∀ {m : List ByteArray} {k num : Nat} {d : List UInt8} {nu : Nat} {d' : List UInt8}, rdBs V i n m k num d = .inr (nu, d') →
    ∀ (j : Nat) b, m[j]? = some b → bE V i n (k + j) (num + j) b = 0
  | [], k, num, d, nu, d', h, j, b, hb => by simp at hb
  | x :: m, k, num, d, nu, d', h, j, b, hb => by
    simp only [rdBs] at h
    by_cases he : bE V i n k num x = 0
    · rw [if_neg (fun c => c he)] at h
      cases j with
      | zero =>
        simp only [List.getElem?_cons_zero, Option.some.injEq] at hb
        subst hb
        exact he
      | succ j =>
        rw [List.getElem?_cons_succ] at hb
        have := rdBs_at h j b hb
        rwa [show k + 1 + j = k + (j + 1) by omega, show num + 1 + j = num + (j + 1) by omega] at this
    · rw [if_pos he] at h; cases h
theorem rdVs_at {vs : List Vol} {V : Nat} : ∀ {m : List Vol} {i num : Nat} {d d' : List UInt8}, rdVs vs V m i num d = .inr d' →
    ∀ (j : Nat) v, m[j]? = some v → volE (vs.take (i + j)) v = 0 ∧ ∀ (k : Nat) b, v.2[k]? = some b → bE V (i + j) v.2.length k (num + nb (m.take j) + k) b = 0
  | [], i, num, d, d', h, j, v, hv => by simp at hv
  | x :: m, i, num, d, d', h, j, v, hv => by
    simp only [rdVs] at h
    by_cases he : volE (vs.take i) x = 0
    · rw [if_neg (fun c => c he)] at h
      match hr : rdBs V i x.2.length x.2 0 num d, h with
      | .inl (k, e, nu, y), h => cases h
      | .inr (nu, y), h =>
        have hat := rdBs_at hr
        obtain ⟨h1, -, -⟩ := rdBs_ok hr
        cases j with
        | zero =>
          simp only [List.getElem?_cons_zero, Option.some.injEq] at hv
          subst hv
          refine ⟨he, fun k b hb => ?_⟩
          have := hat k b hb
          rw [Nat.zero_add] at this
          simpa [nb] using this
        | succ j =>
          rw [List.getElem?_cons_succ] at hv
          obtain ⟨g1, g2⟩ := rdVs_at (m := m) h j v hv
          rw [show i + 1 + j = i + (j + 1) by omega] at g1 g2
          refine ⟨g1, fun k b hb => ?_⟩
          have := g2 k b hb
          rw [List.take_succ_cons, nb_cons]
          rwa [h1, show num + x.2.length + nb (m.take j) + k = num + (x.2.length + nb (m.take j)) + k by omega] at this
    · rw [if_pos he] at h; cases h
theorem rd_at {vs : List Vol} {d : List UInt8} (h : rd vs = .inr d) (i : Nat) (v : Vol) (hv : vs[i]? = some v) :
    1 ≤ v.2.length ∧ ∀ (k : Nat) b, v.2[k]? = some b → bE vs.length i v.2.length k (nb (vs.take i) + k) b = 0 := by
  unfold rd at h
  by_cases h0 : vs.length = 0
  · rw [if_pos h0] at h; cases h
  · rw [if_neg h0] at h
    by_cases h6 : vs.length > 6
    · rw [if_pos h6] at h; cases h
    · rw [if_neg h6] at h
      match hr : rdVs vs vs.length vs 0 0 [], h with
      | .inl (i, k, e, d), h => cases h
      | .inr d, h =>
        obtain ⟨g1, g2⟩ := rdVs_at hr i v hv
        rw [Nat.zero_add] at g1 g2
        refine ⟨(volE_ok g1).2.1, fun k b hb => ?_⟩
        have := g2 k b hb
        rwa [Nat.zero_add] at this
theorem blkE_says {l : List UInt8} {vol num vols : Int} {last : Bool} (h : blkE l vol num vols last = 0) : val ((l.drop 1).take 2) = num ∧ bsay l = last ∧ l.length = 64 ∧ val (l.drop 60) = sumG 1 (l.take 60) := by
  unfold blkE at h
  by_cases h1 : l.length = 64
  · rw [if_neg (fun c => c h1)] at h
    by_cases h2 : val (l.drop 60) = sumG 1 (l.take 60)
    · rw [if_neg (fun c => c h2)] at h
      cases h3 : frmB l last with
      | false => rw [h3, if_pos rfl] at h; exact absurd h (by decide)
      | true =>
        rw [h3, if_neg (show ¬ true = false by decide)] at h
        cases h4 : ordB l vol num with
        | false => rw [h4, if_pos rfl] at h; exact absurd h (by decide)
        | true =>
          rw [h4, if_neg (show ¬ true = false by decide)] at h
          unfold ordB at h4
          simp only [Bool.and_eq_true, decide_eq_true_eq] at h4
          by_cases h5 : ((l.getD 56 0).toNat : Int) = vols
          · rw [if_neg (fun c => c h5)] at h
            refine ⟨h4.2, ?_, h1, h2⟩
            cases hb : bsay l <;> cases last <;> rw [hb] at h <;> first | rfl | (exact absurd h (by decide))
          · rw [if_pos h5] at h; exact absurd h (by decide)
    · rw [if_pos h2] at h; exact absurd h (by decide)
  · rw [if_pos h1] at h; exact absurd h (by decide)
theorem bE_num {V i n k num V' i' n' k' num' : Nat} {b : ByteArray} (h : bE V i n k num b = 0) (h' : bE V' i' n' k' num' b = 0) : num = num' ∧ (i + 1 == V && k + 1 == n) = (i' + 1 == V' && k' + 1 == n') := by
  obtain ⟨a1, a2, -, -⟩ := blkE_says h
  obtain ⟨c1, c2, -, -⟩ := blkE_says h'
  refine ⟨?_, by rw [← a2, ← c2]⟩
  have : ((num + 1 : Nat) : Int) = ((num' + 1 : Nat) : Int) := by rw [← a1, ← c1]
  omega

theorem sumG_inj : ∀ (l : List UInt8) {c c' : Int}, 0 ≤ c → c < 4294967291 → 0 ≤ c' → c' < 4294967291 → sumG c l = sumG c' l → c = c'
  | [], c, c', _, _, _, _, h => h
  | b :: l, c, c', h0, h1, h2, h3, h => by
    simp only [sumG] at h
    have hb := byte_rng b
    have := sumG_inj l (sum_rng _).1 (sum_rng _).2 (sum_rng _).1 (sum_rng _).2 h
    omega
theorem sumG_app : ∀ (a t : List UInt8) (c : Int), sumG c (a ++ t) = sumG (sumG c a) t
  | [], t, c => rfl
  | b :: a, t, c => by simp only [List.cons_append, sumG]; exact sumG_app a t _
theorem sumG_one {a t : List UInt8} {x y : UInt8} (h : sumG 1 (a ++ x :: t) = sumG 1 (a ++ y :: t)) : x = y := by
  rw [sumG_app, sumG_app] at h
  simp only [sumG] at h
  have := sumG_inj t (sum_rng _).1 (sum_rng _).2 (sum_rng _).1 (sum_rng _).2 h
  have hx := byte_rng x
  have hy := byte_rng y
  refine UInt8.toNat_inj.1 ?_
  omega
theorem val_inj {l m : List UInt8} (hl : l.length = m.length) (h : val l = val m) : l = m := by
  rw [← bg_val l.length l rfl, ← bg_val l.length m hl.symm, h]
theorem one_byte_off {l : List UInt8} {p : Nat} {x : UInt8} {vol num vols vol' num' vols' : Int} {last last' : Bool} (h : blkE l vol num vols last = 0) (h' : blkE (l.set p x) vol' num' vols' last' = 0) (hp : p < 64) : l.set p x = l := by
  obtain ⟨-, -, h1, h2⟩ := blkE_says h
  obtain ⟨-, -, -, h3⟩ := blkE_says h'
  have hpl : p < l.length := by omega
  by_cases hp60 : p < 60
  · have e1 : (l.set p x).drop 60 = l.drop 60 := by rw [List.drop_set, if_pos hp60]
    have e2 : (l.set p x).take 60 = (l.take 60).set p x := by rw [List.take_set]
    rw [e1, e2, h2] at h3
    have hl : p < (l.take 60).length := by rw [List.length_take]; omega
    have e3 : l.take 60 = (l.take 60).take p ++ l[p] :: (l.take 60).drop (p + 1) := by
      have := List.take_append_drop p (l.take 60)
      conv => lhs; rw [← this, List.drop_eq_getElem_cons hl]
      rw [List.getElem_take]
    have e4 : (l.take 60).set p x = (l.take 60).take p ++ x :: (l.take 60).drop (p + 1) := List.set_eq_take_append_cons_drop .. |>.trans (by rw [if_pos hl])
    rw [e4] at h3
    conv at h3 => lhs; rw [e3]
    have := sumG_one h3
    rw [← this]
    exact List.set_getElem_self hpl
  · have e2 : (l.set p x).take 60 = l.take 60 := by rw [List.take_set, List.set_eq_of_length_le (by rw [List.length_take]; omega)]
    rw [e2, ← h2] at h3
    have hd := val_inj (by simp) h3
    have := List.take_append_drop 60 (l.set p x)
    rw [e2, hd, List.take_append_drop] at this
    exact this.symm

theorem nb_take_set (vs : List Vol) (i : Nat) (w : Vol) (j : Nat) (h : j ≤ i) : nb ((vs.set i w).take j) = nb (vs.take j) := by
  rw [List.take_set, List.set_eq_of_length_le (by rw [List.length_take]; omega)]
theorem honest0 {vs : List Vol} {d d' : List UInt8} (h : rd vs = .inr d) {i k : Nat} {v : Vol} (hv : vs[i]? = some v) {b b' : ByteArray} (hb : v.2[k]? = some b) {p : Nat} {x : UInt8} (hp : p < 64) (hb' : bL b' = (bL b).set p x) (hne : b' ≠ b) :
    rd (vs.set i (v.1, v.2.set k b')) ≠ .inr d' := by
  intro h'
  have hi := (List.getElem?_eq_some_iff.1 hv).1
  have hk := (List.getElem?_eq_some_iff.1 hb).1
  have a := (rd_at h i v hv).2 k b hb
  have c := (rd_at h' i (v.1, v.2.set k b') (List.getElem?_set_self hi)).2 k b' (List.getElem?_set_self hk)
  unfold bE at a c
  rw [hb'] at c
  have := one_byte_off a c hp
  exact hne (by rw [← S_bL b', ← S_bL b, hb', this])
theorem honest1 {vs : List Vol} {d d' : List UInt8} (h : rd vs = .inr d) {i k : Nat} {v : Vol} (hv : vs[i]? = some v) (hk : k < v.2.length) :
    rd (vs.set i (v.1, v.2.take k ++ v.2.drop (k + 1))) ≠ .inr d' := by
  intro h'
  have hi := (List.getElem?_eq_some_iff.1 hv).1
  obtain ⟨a1, a2⟩ := rd_at h i v hv
  obtain ⟨c1, c2⟩ := rd_at h' i (v.1, v.2.take k ++ v.2.drop (k + 1)) (List.getElem?_set_self hi)
  have hlen : (v.2.take k ++ v.2.drop (k + 1)).length = v.2.length - 1 := by rw [List.length_append, List.length_take, List.length_drop]; omega
  rw [hlen] at c1
  simp only [hlen, List.length_set, nb_take_set vs i _ i (Nat.le_refl _)] at c2
  by_cases hk1 : k + 1 < v.2.length
  · have hx : v.2[k + 1]? = some (v.2[k + 1]) := List.getElem?_eq_getElem hk1
    have hy : (v.2.take k ++ v.2.drop (k + 1))[k]? = some (v.2[k + 1]) := by
      rw [List.getElem?_append_right (by rw [List.length_take]; omega), List.getElem?_drop, List.length_take, show k + 1 + (k - min k v.2.length) = k + 1 by omega]
      exact hx
    have := (bE_num (a2 _ _ hx) (c2 _ _ hy)).1
    omega
  · by_cases hV : i + 1 < vs.length
    · have hw : vs[i + 1]? = some (vs[i + 1]) := List.getElem?_eq_getElem hV
      have hw' : (vs.set i (v.1, v.2.take k ++ v.2.drop (k + 1)))[i + 1]? = some (vs[i + 1]) := by rw [List.getElem?_set_ne (by omega)]; exact hw
      obtain ⟨e1, e2⟩ := rd_at h (i + 1) _ hw
      obtain ⟨f1, f2⟩ := rd_at h' (i + 1) _ hw'
      have hx : (vs[i + 1]).2[0]? = some ((vs[i + 1]).2[0]'(by omega)) := List.getElem?_eq_getElem (by omega)
      have := (bE_num (e2 _ _ hx) (f2 _ _ hx)).1
      have g1 : nb (vs.take (i + 1)) = nb (vs.take i) + v.2.length := by rw [List.take_add_one, hv]; exact nb_snoc ..
      have g2 : nb ((vs.set i (v.1, v.2.take k ++ v.2.drop (k + 1))).take (i + 1)) = nb (vs.take i) + (v.2.length - 1) := by
        rw [List.take_add_one, List.getElem?_set_self hi]
        show nb (_ ++ [_]) = _
        rw [nb_snoc, nb_take_set vs i _ i (Nat.le_refl _), hlen]
      omega
    · have hx : v.2[k - 1]? = some (v.2[k - 1]'(by omega)) := List.getElem?_eq_getElem (by omega)
      have hy : (v.2.take k ++ v.2.drop (k + 1))[k - 1]? = some (v.2[k - 1]'(by omega)) := by
        rw [List.getElem?_append_left (by rw [List.length_take]; omega), List.getElem?_take, if_pos (by omega)]
        exact hx
      have := (bE_num (a2 _ _ hx) (c2 _ _ hy)).2
      have t1 : (i + 1 == vs.length && k - 1 + 1 == v.2.length) = false := by
        rw [Bool.and_eq_false_iff]; right; simp; omega
      have t2 : (i + 1 == vs.length && k - 1 + 1 == v.2.length - 1) = true := by
        rw [Bool.and_eq_true]; constructor <;> simp <;> omega
      rw [t1, t2] at this
      exact absurd this (by decide)
theorem honest2 {vs : List Vol} {d d' : List UInt8} (h : rd vs = .inr d) {i k : Nat} {v : Vol} (hv : vs[i]? = some v) (hk : k < v.2.length) :
    rd (vs.set i (v.1, v.2.take (k + 1) ++ v.2.drop k)) ≠ .inr d' := by
  intro h'
  have hi := (List.getElem?_eq_some_iff.1 hv).1
  obtain ⟨a1, a2⟩ := rd_at h i v hv
  obtain ⟨c1, c2⟩ := rd_at h' i (v.1, v.2.take (k + 1) ++ v.2.drop k) (List.getElem?_set_self hi)
  simp only [List.length_set, nb_take_set vs i _ i (Nat.le_refl _)] at c2
  have hx : v.2[k]? = some (v.2[k]) := List.getElem?_eq_getElem hk
  have hy : (v.2.take (k + 1) ++ v.2.drop k)[k + 1]? = some (v.2[k]) := by
    rw [List.getElem?_append_right (by rw [List.length_take]; omega), List.getElem?_drop, List.length_take, show k + (k + 1 - min (k + 1) v.2.length) = k by omega]
    exact hx
  have := (bE_num (a2 _ _ hx) (c2 _ _ hy)).1
  omega
theorem honest3 {vs ws : List Vol} {d d' : List UInt8} (h : rd vs = .inr d) {i k m o : Nat} {v w u : Vol} (hw : vs[m]? = some w) {b : ByteArray} (hb : w.2[o]? = some b)
    (hu : ws[i]? = some u) (hub : u.2[k]? = some b) (hn : nb (ws.take i) + k ≠ nb (vs.take m) + o) : rd ws ≠ .inr d' := by
  intro h'
  have := (bE_num ((rd_at h m w hw).2 o b hb) ((rd_at h' i u hu).2 k b hub)).1
  omega
end Go.Proofs.YtobgkcamonlnkaaGreatDoor
set_option linter.unusedVariables false
set_option linter.unusedSimpArgs false
namespace Go.Proofs.YtobgkcamonlnkaaGreatDoor
open Go.Ab

def hK (vs : List Vol) : List (Kid ByteArray) := vs.map fun v => kidOf v.2
def rK : List Vol → Nat → List (ByteArray × Nat)
  | [], _ => []
  | v :: vs, n => (v.1, n + 1) :: rK vs (n + 1)
theorem rK_length : ∀ (vs : List Vol) (n : Nat), (rK vs n).length = vs.length
  | [], _ => rfl
  | v :: vs, n => by simp [rK, rK_length vs (n + 1)]
theorem rK_get : ∀ (vs : List Vol) (n i : Nat) (v : Vol), vs[i]? = some v → (rK vs n)[i]? = some (v.1, n + i + 1)
  | [], _, _, _, h => by simp at h
  | x :: vs, n, 0, v, h => by simp at h; subst h; rfl
  | x :: vs, n, i + 1, v, h => by
    simp only [rK, List.getElem?_cons_succ]
    rw [rK_get vs (n + 1) i v (by simpa using h)]
    congr 2
    omega
theorem hK_at {vs : List Vol} {i : Nat} {v : Vol} (h : vs[i]? = some v) : (hK vs)[i]? = some (.own v.2 v.2.length) := by
  unfold hK
  rw [List.getElem?_map, h]
  rfl
theorem kidAt_hK {vs : List Vol} {i : Nat} {v : Vol} (h : vs[i]? = some v) : kidAt (hK vs) (i + 1) = .own v.2 v.2.length := by
  simp only [kidAt, hK_at h]
theorem kget_of {α : Type} {H : List (Kid α)} {id : Nat} {xs : List α} {c : Nat} (h : kidAt H id = .own xs c) : kget H id = xs := by unfold kget; rw [h]
theorem kalive_of {α : Type} {H : List (Kid α)} {id : Nat} {xs : List α} {c : Nat} (h : kidAt H id = .own xs c) : kalive H id = true := by unfold kalive; rw [h]
theorem kown_of {α : Type} {H : List (Kid α)} {id : Nat} {xs : List α} {c : Nat} (h : kidAt H (id + 1) = .own xs c) : kown H (id + 1) = true := by
  unfold kown
  simp only [kidAt] at h
  cases hj : H[id]? with
  | none => rw [hj] at h; cases h
  | some k => rw [hj] at h; simp only at h; subst h; simp only [hj]
theorem kset_at {α : Type} {H : List (Kid α)} {id : Nat} {xs : List α} {c : Nat} (h : kidAt H (id + 1) = .own xs c) (k : Nat) (z : α) : kidAt (kset H (id + 1) k z) (id + 1) = .own (xs.set k z) c := by
  have hk := kget_of h
  have hr : kroom H (id + 1) = c := by unfold kroom; rw [h]
  unfold kset
  simp only [hk, hr, kidAt]
  have hl : id < H.length := by
    simp only [kidAt] at h
    cases hj : H[id]? with
    | none => rw [hj] at h; cases h
    | some k => exact (List.getElem?_eq_some_iff.1 hj).1
  rw [List.getElem?_set_self hl]
theorem kset_ne {α : Type} (H : List (Kid α)) {id j : Nat} (h : id ≠ j) (k : Nat) (z : α) : kidAt (kset H (id + 1) k z) (j + 1) = kidAt H (j + 1) := by
  unfold kset
  simp only [kidAt]
  rw [List.getElem?_set_ne h]
def rdK (r : List (ByteArray × Nat)) (H : List (Kid ByteArray)) : List Vol := r.map fun q => (q.1, kget H q.2)
theorem rdK_frz (r : List (ByteArray × Nat)) (H : List (Kid ByteArray)) : (r.map fun q => (q.1, kget (List.map Kid.frz H) q.2)) = rdK r H := by
  unfold rdK
  refine List.map_congr_left fun q _ => ?_
  rw [kget_frz]
theorem rdK_get {r : List (ByteArray × Nat)} {H : List (Kid ByteArray)} {j : Nat} {q : ByteArray × Nat} (h : r[j]? = some q) : (rdK r H)[j]? = some (q.1, kget H q.2) := by
  unfold rdK
  rw [List.getElem?_map, h]
  rfl
theorem rK_mem {vs : List Vol} {n : Nat} {q : ByteArray × Nat} (h : q ∈ rK vs n) : ∃ i v, vs[i]? = some v ∧ q = (v.1, n + i + 1) := by
  obtain ⟨i, hi⟩ := List.mem_iff_getElem?.1 h
  have hl : i < vs.length := by rw [← rK_length vs n]; exact (List.getElem?_eq_some_iff.1 hi).1
  have hv : vs[i]? = some vs[i] := List.getElem?_eq_getElem hl
  refine ⟨i, _, hv, ?_⟩
  rw [rK_get vs n i _ hv] at hi
  injection hi with hi
  exact hi.symm

theorem f537v0q (vs : List Vol) (h : vs.length ≤ 900) (h2 : ∀ v ∈ vs, v.2.length ≤ 900) : f537v0F 1000 (vs, [], ()) = some (hK vs, rK vs 0, ()) := by
  unfold f537v0F f537v0l0
  refine (iter_list (A := List (Kid ByteArray) × List (ByteArray × Nat)) vs (fun i a => (vs, (i : Int), a.1, a.2, ())) (fun m a => some (a.1 ++ hK m, a.2 ++ rK m a.1.length, ())) (fun i a => a.1.length = i ∧ a.2.length = i) ?_ ?_ (k := 1000) (by omega) ([], []) ⟨rfl, rfl⟩).trans rfl
  · intro rec a _
    unfold f537v0l0s
    simp only [ltn_self, cond_false]
    simp [hK, rK]
  · intro rec i a v hv hi hp
    unfold f537v0l0s
    simp only [ltn hi, nn, Bool.and_self, cond_true, Int.toNat_natCast, getD_of hv, f522q v.2 (by have := h2 v (List.mem_of_getElem? hv); omega), bind_some', wi_succ (i := i) (by omega)]
    rw [bif_true (by simp [hp.2]; omega)]
    refine .inl ⟨(a.1 ++ [kidOf v.2], a.2 ++ [(v.1, a.1.length + 1)]), by simp [hp.1, hp.2], rfl, by simp [hK, rK]⟩

theorem iterS_s {V R : Type} (St : (V → Option R) → V → Option R) (n : Nat) (v : V) : iterS St (n + 1) v = St (iterS St n) v := rfl
theorem nb_le : ∀ {vs : List Vol} {m : Nat}, (∀ v ∈ vs, v.2.length ≤ m) → nb vs ≤ vs.length * m
  | [], _, _ => by simp [nb]
  | v :: vs, m, h => by
    have h1 := nb_le (vs := vs) fun x hx => h x (by simp [hx])
    have h2 := h v (by simp)
    rw [nb_cons, List.length_cons, Nat.add_mul]
    omega
theorem f585q (vs : List Vol) (n : Nat) (hn : n < nb vs) (h : vs.length ≤ 900) (h2 : nb vs ≤ 100000) :
    ∃ (i k : Nat) (v : Vol), f585F 1000 (vs, (n : Int)) = some ((i : Int), (k : Int)) ∧ vs[i]? = some v ∧ k < v.2.length ∧ nb (vs.take i) + k = n := by
  unfold f585F f585l0
  have main : ∀ (d i m kk : Nat), i + d = vs.length → d < kk → m < nb (vs.drop i) → ∃ (i' k : Nat) (v : Vol), iterS (fun rec v => f585l0s 1000 rec (fun (w3 : Int × Int × Unit) => some (w3.1, w3.2.1)) (fun (w4 : Unit) => some ((0 : Int), (0 : Int))) v) kk (vs, (m : Int), (i : Int), ()) = some ((i' : Int), (k : Int)) ∧ vs[i']? = some v ∧ k < v.2.length ∧ nb (vs.take i') + k = nb (vs.take i) + m := by
    intro d
    induction d with
    | zero =>
      intro i m kk hi _ hm
      rw [List.drop_of_length_le (by omega)] at hm
      simp [nb] at hm
    | succ d ih =>
      intro i m kk hi hk hm
      cases kk with
      | zero => omega
      | succ kk =>
        have hil : i < vs.length := by omega
        have hv : vs[i]? = some vs[i] := List.getElem?_eq_getElem hil
        rw [List.drop_eq_getElem_cons hil, nb_cons] at hm
        rw [iterS_s]
        unfold f585l0s
        simp only [ltn hil, nn, Bool.and_self, cond_true, Int.toNat_natCast, getD_of hv]
        by_cases hlt : m < vs[i].2.length
        · refine ⟨i, m, vs[i], ?_, hv, hlt, rfl⟩
          rw [bif_true (ltn hlt)]
        · rw [bif_false (by simp; omega)]
          have e1 : IntKind.i64.wrap ((m : Int) - (vs[i].2.length : Int)) = ((m - vs[i].2.length : Nat) : Int) := by
            have hle : nb (vs.drop (i + 1)) + vs[i].2.length ≤ nb vs := by
              have := List.take_append_drop i vs
              have h3 : nb vs = nb (vs.take i) + nb (vs.drop i) := by
                conv => lhs; rw [← this]
                unfold nb
                rw [List.map_append, List.sum_append]
              rw [h3, List.drop_eq_getElem_cons hil, nb_cons]
              omega
            rw [wi (by omega) (by omega)]
            omega
          rw [e1, wi_succ (i := i) (by omega)]
          obtain ⟨i', k, v, g1, g2, g3, g4⟩ := ih (i + 1) (m - vs[i].2.length) kk (by omega) (by omega) (by omega)
          refine ⟨i', k, v, g1, g2, g3, ?_⟩
          rw [g4, List.take_add_one, hv]
          show nb (_ ++ [_]) + _ = _
          rw [nb_snoc]
          omega
  obtain ⟨i, k, v, g1, g2, g3, g4⟩ := main vs.length 0 n 1000 (by omega) (by omega) (by simpa using hn)
  exact ⟨i, k, v, g1, g2, g3, by simpa [nb] using g4⟩
theorem f541l0q {R : Type} (k0 : List Vol × Int × Int × Int × Int × Int × Int × List (ByteArray × Nat) × List (Kid ByteArray) × Unit → Option R) (vs : List Vol) (kd bl ot at_ bt_ : Int) (r : List (ByteArray × Nat)) (H : List (Kid ByteArray)) (h : vs.length ≤ 900) (h2 : nb vs ≤ 100000) :
    f541l0 1000 k0 (vs, (0 : Int), (0 : Int), kd, bl, ot, at_, bt_, r, H, ()) = k0 (vs, (nb vs : Int), kd, bl, ot, at_, bt_, r, H, ()) := by
  unfold f541l0
  refine (iter_list (A := Nat) vs (fun i a => (vs, (a : Int), (i : Int), kd, bl, ot, at_, bt_, r, H, ())) (fun m a => k0 (vs, ((a + nb m : Nat) : Int), kd, bl, ot, at_, bt_, r, H, ())) (fun i a => a + nb (vs.drop i) = nb vs) ?_ ?_ (k := 1000) (by omega) 0 (by simp)).trans (by simp)
  · intro rec a hp
    unfold f541l0s
    simp only [ltn_self, cond_false]
    simp [nb]
  · intro rec i a v hv hi hp
    have hil : i < vs.length := hi
    have hd : vs.drop i = v :: vs.drop (i + 1) := by
      rw [List.drop_eq_getElem_cons hil]
      rw [List.getElem?_eq_getElem hil] at hv
      injection hv with hv
      rw [hv]
    rw [hd, nb_cons] at hp
    unfold f541l0s
    simp only [ltn hi, nn, Bool.and_self, cond_true, Int.toNat_natCast, getD_of hv, wi_succ (i := i) (by omega)]
    have e1 : IntKind.i64.wrap ((a : Int) + (v.2.length : Int)) = ((a + v.2.length : Nat) : Int) := by rw [wi (by omega) (by omega)]; omega
    rw [e1]
    exact .inl ⟨a + v.2.length, by omega, rfl, by rw [nb_cons, Nat.add_assoc]⟩

theorem f586q (b : ByteArray) (p : Nat) (z : Int) (hp : p < b.size) (hb : b.size ≤ 1000) : ∃ b', f586F 1000 (b, (p : Int), strOfNums [z]) = some b' ∧ bL b' = (bL b).set p (UInt8.ofNat z.toNat) := by
  obtain ⟨l, rfl⟩ : ∃ l, b = S l := ⟨_, (S_bL b).symm⟩
  rw [S_size] at hp hb
  have hs : strOfNums [z] = S [UInt8.ofNat z.toNat] := S_nums _
  refine ⟨S (l.set p (UInt8.ofNat z.toNat)), ?_, by rw [bL_S, bL_S]⟩
  unfold f586F
  rw [hs]
  simp only [S_size, List.length_singleton, Int.toNat_natCast]
  have e1 : IntKind.i64.wrap ((p : Int) + ((1 : Nat) : Int)) = ((p + 1 : Nat) : Int) := by rw [wi (by omega) (by omega)]; omega
  rw [e1, bif_true (sliceB0 (by omega)), S_cut, S_size, bif_true (by simp; omega), bif_true (sliceB (by omega) (by omega))]
  simp only [Int.toNat_natCast, S_cut, S_app, S_size]
  rw [bif_true (by simp; omega)]
  congr 2
  rw [List.drop_zero, List.take_length, List.set_eq_take_append_cons_drop, if_pos hp, List.append_assoc]
  rfl
theorem rd_bad {ws : List Vol} (h : ∀ d, rd ws ≠ .inr d) : ∃ i k e, rd ws = .inl (i, k, e) ∧ e ≠ 0 := by
  cases hr : rd ws with
  | inr d => exact absurd hr (h d)
  | inl x => obtain ⟨i, k, e⟩ := x; exact ⟨i, k, e, rfl, rd_err hr⟩

theorem set_rdK {vs : List Vol} {i : Nat} {v : Vol} (hv : vs[i]? = some v) {H : List (Kid ByteArray)} {l : List ByteArray} (hi : kget H (i + 1) = l) (ho : ∀ j w, j ≠ i → vs[j]? = some w → kget H (j + 1) = w.2) : rdK (rK vs 0) H = vs.set i (v.1, l) := by
  apply List.ext_getElem?
  intro j
  cases hj : vs[j]? with
  | none =>
    have hl : vs.length ≤ j := by simpa using hj
    rw [List.getElem?_eq_none (by unfold rdK; rw [List.length_map, rK_length]; exact hl), List.getElem?_eq_none (by rw [List.length_set]; exact hl)]
  | some w =>
    rw [rdK_get (rK_get vs 0 j w hj)]
    by_cases e : j = i
    · subst e
      rw [hv] at hj
      injection hj with hj
      subst hj
      rw [List.getElem?_set_self (List.getElem?_eq_some_iff.1 hv).1]
      simp only [Nat.zero_add, hi]
    · rw [List.getElem?_set_ne (Ne.symm e), hj]
      simp only [Nat.zero_add, ho j w e hj]
theorem set_rdK2 {vs : List Vol} {i : Nat} {v : Vol} (hv : vs[i]? = some v) {l : List ByteArray} {c : Nat} :
    rdK ((rK vs 0).set i (v.1, (hK vs).length + 1)) (hK vs ++ [.own l c]) = vs.set i (v.1, l) := by
  have hlen : (hK vs).length = vs.length := by unfold hK; rw [List.length_map]
  apply List.ext_getElem?
  intro j
  cases hj : vs[j]? with
  | none =>
    have hl : vs.length ≤ j := by simpa using hj
    rw [List.getElem?_eq_none (by unfold rdK; rw [List.length_map, List.length_set, rK_length]; exact hl), List.getElem?_eq_none (by rw [List.length_set]; exact hl)]
  | some w =>
    have hjl := (List.getElem?_eq_some_iff.1 hj).1
    by_cases e : j = i
    · subst e
      rw [rdK_get (List.getElem?_set_self (by rw [rK_length]; exact hjl)), List.getElem?_set_self hjl]
      simp only [kget, kidAt]
      rw [List.getElem?_append_right (Nat.le_refl _), Nat.sub_self]
      rfl
    · rw [List.getElem?_set_ne (Ne.symm e), hj, rdK_get (by rw [List.getElem?_set_ne (Ne.symm e)]; exact rK_get vs 0 j w hj)]
      simp only [kget, kidAt, Nat.zero_add]
      rw [List.getElem?_append_left (by omega), hK_at hj]
theorem alive_set2 {vs : List Vol} {i : Nat} {v : Vol} (hv : vs[i]? = some v) {l : List ByteArray} {c : Nat} : ∀ q ∈ (rK vs 0).set i (v.1, (hK vs).length + 1), kalive (hK vs ++ [.own l c]) q.2 = true := by
  have hlen : (hK vs).length = vs.length := by unfold hK; rw [List.length_map]
  intro q hq
  rcases List.mem_or_eq_of_mem_set hq with hq | rfl
  · obtain ⟨j, w, hj, rfl⟩ := rK_mem hq
    have hjl := (List.getElem?_eq_some_iff.1 hj).1
    simp only [kalive, kidAt, Nat.zero_add]
    rw [List.getElem?_append_left (by omega), hK_at hj]
  · simp only [kalive, kidAt]
    rw [List.getElem?_append_right (Nat.le_refl _), Nat.sub_self]
    rfl
end Go.Proofs.YtobgkcamonlnkaaGreatDoor
set_option linter.unusedVariables false
set_option linter.unusedSimpArgs false
namespace Go.Proofs.YtobgkcamonlnkaaGreatDoor
open Go.Ab

theorem rK_get0 {vs : List Vol} {i : Nat} {v : Vol} (h : vs[i]? = some v) : (rK vs 0)[i]? = some (v.1, i + 1) := by
  have := rK_get vs 0 i v h
  rwa [Nat.zero_add] at this
theorem alive_of {vs : List Vol} {H : List (Kid ByteArray)} (h : ∀ j w, vs[j]? = some w → kalive H (j + 1) = true) : ∀ q ∈ rK vs 0, kalive H q.2 = true := by
  intro q hq
  obtain ⟨j, w, hj, rfl⟩ := rK_mem hq
  simp only [Nat.zero_add]
  exact h j w hj
theorem nb_set_len {vs : List Vol} : ∀ {ws : List Vol}, (ws.map fun v => v.2.length) = (vs.map fun v => v.2.length) → ∀ i, nb (ws.take i) = nb (vs.take i) := by
  intro ws h i
  unfold nb
  rw [List.map_take, List.map_take, h]
theorem strEq_ne {a b : ByteArray} (h : a ≠ b) : strEq a b = false := by
  cases e : strEq a b with
  | false => rfl
  | true => exact absurd (strEq_iff.1 e) h
theorem kcap_of {α : Type} {H : List (Kid α)} {id : Nat} {xs : List α} {c : Nat} (h : kidAt H id = .own xs c) : kcap H id = max c xs.length := by
  unfold kcap kroom
  rw [h, kget_of h]

theorem rdK_ok2 {r : List (ByteArray × Nat)} {H : List (Kid ByteArray)} (h : ∀ q ∈ r, kalive H q.2 = true) : (r.all fun q => kro (List.map Kid.frz H) q.2) = true := by
  rw [List.all_eq_true]
  intro q hq
  rw [kro_frz]
  exact h q hq
theorem f541q {vs : List Vol} {d : List UInt8} (h : rd vs = .inr d) (kd bl ot at_ bt_ : Int) :
    (∃ x, f541F 1000 (vs, kd, bl, ot, at_, bt_) = some (x, false)) ∨ ∃ ws, f541F 1000 (vs, kd, bl, ot, at_, bt_) = some (ws, true) ∧ ws.length ≤ 6 ∧ (∀ v ∈ ws, v.2.length ≤ 120) ∧ ∀ d', rd ws ≠ .inr d' := by
  obtain ⟨g1, g2, -, g4⟩ := rd_ok h
  have hl60 : ∀ v ∈ vs, v.2.length ≤ 60 := fun v hv => (g4 v hv).1
  have hnb : nb vs ≤ 360 := Nat.le_trans (nb_le hl60) (by omega)
  unfold f541F
  rw [f537v0q vs (by omega) (fun v hv => by have := hl60 v hv; omega), bind_some']
  rw [f541l0q _ vs kd bl ot at_ bt_ (rK vs 0) (hK vs) (by omega) (by omega)]
  have e1 : IntKind.i64.wrap ((nb vs : Int) - 1) = (nb vs : Int) - 1 := wi (by omega) (by omega)
  simp only [f48q, bind_some', e1]
  by_cases hB : (0 : Int) ≤ bl ∧ bl ≤ (nb vs : Int) - 1
  case neg => exact .inl ⟨[], by rw [decide_eq_false hB]; rfl⟩
  by_cases hO : (0 : Int) ≤ ot ∧ ot ≤ (nb vs : Int) - 1
  case neg => exact .inl ⟨[], by rw [decide_eq_true hB, decide_eq_false hO]; rfl⟩
  by_cases hA : (0 : Int) ≤ at_ ∧ at_ ≤ 63
  case neg => exact .inl ⟨[], by rw [decide_eq_true hB, decide_eq_true hO, decide_eq_false hA]; rfl⟩
  rw [decide_eq_true hB, decide_eq_true hO, decide_eq_true hA]
  obtain ⟨B, rfl⟩ := Int.eq_ofNat_of_zero_le hB.1
  obtain ⟨O, rfl⟩ := Int.eq_ofNat_of_zero_le hO.1
  obtain ⟨A, rfl⟩ := Int.eq_ofNat_of_zero_le hA.1
  obtain ⟨i, k, v, hp1, hv, hk, hin⟩ := f585q vs B (by omega) (by omega) (by omega)
  obtain ⟨m, o, w, hp2, hw, ho, hmo⟩ := f585q vs O (by omega) (by omega) (by omega)
  simp only [Bool.not_true, cond_false, hp1, hp2, bind_some']
  have hi := (List.getElem?_eq_some_iff.1 hv).1
  have hm := (List.getElem?_eq_some_iff.1 hw).1
  have hri := rK_get0 hv
  have hrm := rK_get0 hw
  have hvm := List.mem_of_getElem? hv
  have hwm := List.mem_of_getElem? hw
  have hbk : v.2[k]? = some v.2[k] := List.getElem?_eq_getElem hk
  have hwo : w.2[o]? = some w.2[o] := List.getElem?_eq_getElem ho
  have hlv := hl60 v hvm
  have hlw := hl60 w hwm
  have Ki := kidAt_hK hv
  have Km := kidAt_hK hw
  have hbs : (bL v.2[k]).length = 64 := ((g4 v hvm).2 _ (List.mem_of_getElem? hbk)).1
  have hbs2 : v.2[k].size = 64 := by rw [← S_bL v.2[k], S_size]; exact hbs
  have hrange : ∀ q ∈ vs, q.2.length ≤ 120 := fun q hq => by have := hl60 q hq; omega
  simp only [rK_length, ltn hi, ltn hm, nn, Bool.and_self, cond_true, Int.toNat_natCast, getD_of hri, getD_of hrm]
  by_cases h0 : kd = 0
  · subst h0
    obtain ⟨b', hb1, hb2⟩ := f586q v.2[k] A bt_ (by omega) (by omega)
    have Ks := kset_at Ki k b'
    simp only [beq_self_eq_true, cond_true, kalive_of Ki, kget_of Ki, kown_of Ki, ltn hk, nn, Bool.and_self, getD_of hbk, hb1, bind_some', kalive_of Ks, kget_of Ks, List.length_set, Int.toNat_natCast]
    simp only [getD_of (List.getElem?_set_self hk), getD_of hv, Bool.true_and, ltn hk, cond_true, getD_of hbk]
    have hal : ∀ j u, vs[j]? = some u → kalive (kset (hK vs) (i + 1) k b') (j + 1) = true := by
      intro j u hj
      by_cases e : i = j
      · subst e; exact kalive_of Ks
      · exact kalive_of ((kset_ne (hK vs) e k b').trans (kidAt_hK hj))
    simp only [Bool.true_and, Bool.and_true, rdK_ok2 (alive_of hal), cond_true, rdK_frz]
    have hws : rdK (rK vs 0) (kset (hK vs) (i + 1) k b') = vs.set i (v.1, v.2.set k b') := set_rdK hv (kget_of Ks) fun j u hj hu => kget_of ((kset_ne (hK vs) (Ne.symm hj) k b').trans (kidAt_hK hu))
    by_cases hbb : b' = v.2[k]
    · exact .inl ⟨_, by rw [hbb, strEq_self]; rfl⟩
    · refine .inr ⟨vs.set i (v.1, v.2.set k b'), by rw [hws, strEq_ne hbb]; rfl, by rw [List.length_set]; exact g2, fun q hq => ?_, fun d' => honest0 h hv hbk (by omega) hb2 hbb⟩
      rcases List.mem_or_eq_of_mem_set hq with hq | rfl
      · exact hrange q hq
      · rw [List.length_set]; exact hrange v hvm
  · rw [bif_false (show (kd == 0) = false by simpa using h0)]
    by_cases h1 : kd = 1
    · subst h1
      have e2 := wi_succ (i := k) (by omega)
      simp only [beq_self_eq_true, cond_true, kalive_of Ki, kget_of Ki, kcap_of Ki, Nat.max_self, Bool.true_and, Bool.and_true, sliceB0 (Nat.le_of_lt hk), e2, sliceB (show k + 1 ≤ v.2.length by omega) (Nat.le_refl _), Int.toNat_natCast, List.drop_zero]
      rw [bif_true (by simp; omega), f522q _ (by rw [List.length_take]; omega), bind_some', List.take_length]
      rw [bif_true (by simp; omega)]
      rw [show kidOf (List.take k v.2 ++ List.drop (k + 1) v.2) = Kid.own (List.take k v.2 ++ List.drop (k + 1) v.2) (List.take k v.2 ++ List.drop (k + 1) v.2).length from rfl]
      simp only [Bool.true_and, Bool.and_true, rdK_ok2 (alive_set2 hv), cond_true, rdK_frz, set_rdK2 hv]
      refine .inr ⟨_, rfl, by rw [List.length_set]; exact g2, fun q hq => ?_, fun d' => honest1 h hv hk⟩
      rcases List.mem_or_eq_of_mem_set hq with hq | rfl
      · exact hrange q hq
      · simp; omega
    · rw [bif_false (show (kd == 1) = false by simpa using h1)]
      by_cases h2 : kd = 2
      · subst h2
        have e2 := wi_succ (i := k) (by omega)
        simp only [beq_self_eq_true, cond_true, kalive_of Ki, kget_of Ki, kcap_of Ki, Nat.max_self, Bool.true_and, Bool.and_true, sliceB0 (show k + 1 ≤ v.2.length by omega), e2, sliceB (Nat.le_of_lt hk) (Nat.le_refl _), Int.toNat_natCast, List.drop_zero]
        rw [bif_true (by simp; omega), f522q _ (by rw [List.length_take]; omega), bind_some', List.take_length]
        rw [bif_true (by simp; omega)]
        rw [show kidOf (List.take (k + 1) v.2 ++ List.drop k v.2) = Kid.own (List.take (k + 1) v.2 ++ List.drop k v.2) (List.take (k + 1) v.2 ++ List.drop k v.2).length from rfl]
        simp only [Bool.true_and, Bool.and_true, rdK_ok2 (alive_set2 hv), cond_true, rdK_frz, set_rdK2 hv]
        refine .inr ⟨_, rfl, by rw [List.length_set]; exact g2, fun q hq => ?_, fun d' => honest2 h hv hk⟩
        rcases List.mem_or_eq_of_mem_set hq with hq | rfl
        · exact hrange q hq
        · simp; omega
      · rw [bif_false (show (kd == 2) = false by simpa using h2)]
        by_cases h3 : kd = 3
        · subst h3
          have Ks := kset_at Ki k w.2[o]
          -- the other one, in the heap where the first is turned
          have Kt : ∃ xs c, kidAt (kset (hK vs) (i + 1) k w.2[o]) (m + 1) = .own xs c ∧ xs.length = w.2.length := by
            by_cases e : i = m
            · subst e
              rw [hv] at hw
              injection hw with hw
              exact ⟨_, _, Ks, by rw [List.length_set, hw]⟩
            · exact ⟨_, _, (kset_ne (hK vs) e k _).trans Km, rfl⟩
          obtain ⟨xs, c, Kt, hxl⟩ := Kt
          have ho' : o < xs.length := by omega
          have Ku := kset_at Kt o v.2[k]
          simp only [beq_self_eq_true, cond_true, kalive_of Ki, kget_of Ki, kown_of Ki, kalive_of Km, kget_of Km, kalive_of Kt, kget_of Kt, kown_of Kt, ltn hk, ltn ho, ltn ho', nn, Bool.and_self, getD_of hbk, getD_of hwo, Int.toNat_natCast]
          have hkid : ∀ j u, vs[j]? = some u → ∃ ys c', kidAt (kset (kset (hK vs) (i + 1) k w.2[o]) (m + 1) o v.2[k]) (j + 1) = .own ys c' ∧ ys.length = u.2.length := by
            intro j u hj
            by_cases e : m = j
            · subst e
              rw [hw] at hj
              injection hj with hj
              subst hj
              exact ⟨_, _, Ku, by rw [List.length_set, hxl]⟩
            · by_cases e' : i = j
              · subst e'
                rw [hv] at hj
                injection hj with hj
                subst hj
                exact ⟨_, _, (kset_ne _ e o _).trans Ks, by rw [List.length_set]⟩
              · exact ⟨_, _, ((kset_ne _ e o _).trans (kset_ne _ e' k _)).trans (kidAt_hK hj), rfl⟩
          have hal : ∀ j u, vs[j]? = some u → kalive (kset (kset (hK vs) (i + 1) k w.2[o]) (m + 1) o v.2[k]) (j + 1) = true := fun j u hj => by
            obtain ⟨ys, c', q, _⟩ := hkid j u hj
            exact kalive_of q
          simp only [Bool.true_and, Bool.and_true, rdK_ok2 (alive_of hal), cond_true, rdK_frz]
          by_cases hBO : B = O
          · subst hBO
            exact .inl ⟨_, by rw [show (((B : Nat) : Int) != (B : Int)) = false by simp]⟩
          · have hne : (((B : Nat) : Int) != (O : Int)) = true := by simp; omega
            rw [hne]
            have hlen : (rdK (rK vs 0) (kset (kset (hK vs) (i + 1) k w.2[o]) (m + 1) o v.2[k])).length = vs.length := by unfold rdK; rw [List.length_map, rK_length]
            have hsame : ((rdK (rK vs 0) (kset (kset (hK vs) (i + 1) k w.2[o]) (m + 1) o v.2[k])).map fun v => v.2.length) = vs.map fun v => v.2.length := by
              apply List.ext_getElem?
              intro j
              rw [List.getElem?_map, List.getElem?_map]
              cases hj : vs[j]? with
              | none =>
                have hl : vs.length ≤ j := by simpa using hj
                rw [List.getElem?_eq_none (by rw [hlen]; exact hl)]
              | some u =>
                obtain ⟨ys, c', q, q2⟩ := hkid j u hj
                rw [rdK_get (rK_get0 hj)]
                simp only [Option.map_some, kget_of q, q2]
            refine .inr ⟨_, rfl, by rw [hlen]; exact g2, fun q hq => ?_, fun d' => ?_⟩
            · obtain ⟨j, hj⟩ := List.mem_iff_getElem?.1 hq
              have hjl : j < vs.length := by rw [← hlen]; exact (List.getElem?_eq_some_iff.1 hj).1
              have hu : vs[j]? = some vs[j] := List.getElem?_eq_getElem hjl
              obtain ⟨ys, c', q1, q2⟩ := hkid j _ hu
              rw [rdK_get (rK_get0 hu)] at hj
              injection hj with hj
              rw [← hj]
              simp only [kget_of q1, q2]
              exact hrange _ (List.mem_of_getElem? hu)
            · -- the block that stands now at the first place is the other's
              have hu : ∃ u : Vol, (rdK (rK vs 0) (kset (kset (hK vs) (i + 1) k w.2[o]) (m + 1) o v.2[k]))[i]? = some u ∧ u.2[k]? = some w.2[o] := by
                refine ⟨_, rdK_get hri, ?_⟩
                by_cases e : m = i
                · have hko : o ≠ k := by
                    intro hok
                    subst e
                    omega
                  have hxk : xs[k]? = some w.2[o] := by
                    subst e
                    rw [hw] at hv
                    injection hv with hv
                    have h9 := Ks.symm.trans Kt
                    injection h9 with h9 _
                    rw [← h9, List.getElem?_set_self hk]
                  have Ku' := Ku
                  rw [e] at Ku' ⊢
                  simp only [kget_of Ku']
                  rw [List.getElem?_set_ne hko]
                  exact hxk
                · simp only [kget_of ((kset_ne _ e o _).trans Ks)]
                  rw [List.getElem?_set_self hk]
              obtain ⟨u, hu1, hu2⟩ := hu
              exact honest3 (v := v) h hw hwo hu1 hu2 (by rw [nb_set_len hsame]; omega)
        · rw [bif_false (show (kd == 3) = false by simpa using h3)]
          exact .inl ⟨[], rfl⟩

theorem f510l1q {R : Type} (k0 : Bool × List Vol × Int × Int × Int × Int × Int × Unit → Option R) (k1 : List Vol × Int × Int × Int × Int × Int × Unit → Option R) (vs : List Vol) (a b c e f : Int) (h : vs.length ≤ 900) (h2 : ∀ v ∈ vs, v.2.length ≤ 900 ∧ ∀ b ∈ v.2, (bL b).length = 64) :
    f510l1 1000 k0 k1 (vs, (0 : Int), a, b, c, e, f, ()) = k1 (vs, a, b, c, e, f, ()) := by
  unfold f510l1
  refine iter_list (A := Unit) vs (fun i _ => (vs, (i : Int), a, b, c, e, f, ())) (fun _ _ => k1 (vs, a, b, c, e, f, ())) (fun _ _ => True) ?_ ?_ (k := 1000) (by omega) () trivial
  · intro rec u _
    unfold f510l1s
    simp only [ltn_self, cond_false]
  · intro rec i u v hv hi _
    obtain ⟨h3, h4⟩ := h2 v (List.mem_of_getElem? hv)
    unfold f510l1s
    simp only [ltn hi, cond_true]
    unfold f510l0
    refine .inl ⟨(), trivial, (iter_list (A := Unit) v.2 (fun k _ => (vs, (i : Int), (k : Int), a, b, c, e, f, ())) (fun _ _ => rec (vs, ((i + 1 : Nat) : Int), a, b, c, e, f, ())) (fun _ _ => True) ?_ ?_ (k := 1000) (by omega) () trivial), trivial⟩
    · intro rec' u _
      unfold f510l0s
      simp only [ltn hi, nn, Bool.and_self, cond_true, Int.toNat_natCast, getD_of hv, ltn_self, cond_false, wi_succ (i := i) (by omega)]
    · intro rec' k u q hq hk _
      have h64 := h4 q (List.mem_of_getElem? hq)
      have hs : (q.size : Int) = 64 := by rw [← S_bL q, S_size, h64]; rfl
      unfold f510l0s
      simp only [ltn hi, nn, Bool.and_self, cond_true, Int.toNat_natCast, getD_of hv, ltn hk, getD_of hq, hs, wi_succ (i := k) (by omega)]
      exact .inl ⟨(), trivial, rfl, trivial⟩
theorem honest (x : List Tbl × Int × Int × Int × Int × Int × Int) : f510F 1000 x = some true := by
  obtain ⟨l, room, kd, bl, ot, at_, bt_⟩ := x
  unfold f510F
  rw [awake34]
  simp only [bind_some', Bool.not_true, cond_false, f514q]
  cases hf : fewTs l with
  | false => rfl
  | true =>
    simp only [Bool.not_true, cond_false, f516q hf, bind_some', f521q]
    by_cases hs : (savedS l [(⟨#[65]⟩ : ByteArray), (⟨#[66]⟩ : ByteArray), (⟨#[67]⟩ : ByteArray), (⟨#[68]⟩ : ByteArray), (⟨#[69]⟩ : ByteArray), (⟨#[70]⟩ : ByteArray)] room).2 = 0
    · obtain ⟨s1, s2⟩ := savedS_ok hs
      generalize savedS l [(⟨#[65]⟩ : ByteArray), (⟨#[66]⟩ : ByteArray), (⟨#[67]⟩ : ByteArray), (⟨#[68]⟩ : ByteArray), (⟨#[69]⟩ : ByteArray), (⟨#[70]⟩ : ByteArray)] room = p at *
      obtain ⟨vs, e⟩ := p
      simp only at hs s2
      subst hs
      obtain ⟨g1, g2, -, g4⟩ := rd_ok s2
      have hfew : fewVs vs = true := by
        unfold fewVs fewV
        simp only [Bool.and_eq_true, decide_eq_true_eq, List.all_eq_true]
        refine ⟨by omega, fun v hv => ⟨by have := (g4 v hv).1; omega, fun b hb => ?_⟩⟩
        have := ((g4 v hv).2 b hb).1
        rw [← S_bL b, S_size, this]
        decide
      simp only [bne00, cond_false, f535q, hfew, bind_some', Bool.not_true]
      rw [f510l1q _ _ vs kd bl ot at_ bt_ (by omega) fun v hv => ⟨by have := (g4 v hv).1; omega, fun b hb => ((g4 v hv).2 b hb).1⟩]
      simp only
      rcases f541q s2 kd bl ot at_ bt_ with ⟨x, hx⟩ | ⟨ws, hx, w1, w2, w3⟩
      · rw [hx]
        rfl
      · rw [hx]
        simp only [bind_some', Bool.not_true, cond_false]
        rw [f537q ws (by omega) (fun v hv => by have := w2 v hv; omega)]
        obtain ⟨i, k, e, hr, he⟩ := rd_bad w3
        simp only [bind_some', f536q, f538q, hr, bne0 he, cond_true]
    · rw [bif_true (bne0 hs)]
end Go.Proofs.YtobgkcamonlnkaaGreatDoor
