/- Plain laws: loops, wrapping, digits. -/
import Derived.Test.YtobgkcamonlnkaaGreatDoorAC
import Derived.Laws.Strings
import Derived.Test.YtobgkcamonlnkaaGreatDoorFcJ
/-! Plain laws: loops, wrapping, digits. -/
set_option linter.unusedVariables false
set_option linter.unusedSimpArgs false
namespace Go.Ab

/-- The lowest digits of a number, the highest of them first. -/
def low (b n : Int) : Nat → List Int
  | 0 => []
  | i + 1 => (n / b ^ i % b) :: low b n i
end Go.Ab
/-! Plain laws: types and values checked. -/
set_option linter.unusedVariables false
set_option linter.unusedSimpArgs false
namespace Go.Proofs.YtobgkcamonlnkaaGreatDoor
open Go.Ab

end Go.Proofs.YtobgkcamonlnkaaGreatDoor
/-! Plain laws: values checked. -/
set_option linter.unusedVariables false
set_option linter.unusedSimpArgs false
namespace Go.Proofs.YtobgkcamonlnkaaGreatDoor
open Go.Ab

end Go.Proofs.YtobgkcamonlnkaaGreatDoor
/-! Plain laws: digits. -/
set_option linter.unusedVariables false
set_option linter.unusedSimpArgs false
namespace Go.Proofs.YtobgkcamonlnkaaGreatDoor
open Go.Ab

end Go.Proofs.YtobgkcamonlnkaaGreatDoor
/-! Plain laws: the bytes of values. -/
set_option linter.unusedVariables false
set_option linter.unusedSimpArgs false
namespace Go.Proofs.YtobgkcamonlnkaaGreatDoor
open Go.Ab

end Go.Proofs.YtobgkcamonlnkaaGreatDoor
/-! Plain laws: the bytes of a value are as the reference has them. -/
set_option linter.unusedVariables false
set_option linter.unusedSimpArgs false
namespace Go.Proofs.YtobgkcamonlnkaaGreatDoor
open Go.Ab

end Go.Proofs.YtobgkcamonlnkaaGreatDoor
/-! Plain law: the bytes of a value are as specified, or the error. -/
set_option linter.unusedVariables false
set_option linter.unusedSimpArgs false
namespace Go.Proofs.YtobgkcamonlnkaaGreatDoor
open Go.Ab

end Go.Proofs.YtobgkcamonlnkaaGreatDoor
/-! Plain laws: bytes and half bytes; loops that may end early. -/
set_option linter.unusedVariables false
set_option linter.unusedSimpArgs false
namespace Go.Proofs.YtobgkcamonlnkaaGreatDoor
open Go.Ab

/-! ### Half bytes, as the code of numeric lays them -/
end Go.Proofs.YtobgkcamonlnkaaGreatDoor
/-! Plain laws: decimal numbers read. -/
set_option linter.unusedVariables false
set_option linter.unusedSimpArgs false
namespace Go.Proofs.YtobgkcamonlnkaaGreatDoor
open Go.Ab

end Go.Proofs.YtobgkcamonlnkaaGreatDoor
/-! Plain laws: packed and binary numbers read. -/
set_option linter.unusedVariables false
set_option linter.unusedSimpArgs false
namespace Go.Proofs.YtobgkcamonlnkaaGreatDoor
open Go.Ab

end Go.Proofs.YtobgkcamonlnkaaGreatDoor
/-! Plain law: the value with bytes is as specified. -/
set_option linter.unusedVariables false
set_option linter.unusedSimpArgs false
namespace Go.Proofs.YtobgkcamonlnkaaGreatDoor
open Go.Ab

end Go.Proofs.YtobgkcamonlnkaaGreatDoor
/-! Plain laws: strings as lists of bytes; loops over lists. -/
set_option linter.unusedVariables false
set_option linter.unusedSimpArgs false
namespace Go.Ab

/-- A string of some bytes. -/
def S (l : List UInt8) : ByteArray := ⟨l.toArray⟩
/-! ### Names -/
end Go.Ab
/-! Plain laws of chapter 34: names. -/
set_option linter.unusedVariables false
set_option linter.unusedSimpArgs false
namespace Go.Proofs.YtobgkcamonlnkaaGreatDoor
open Go.Ab

end Go.Proofs.YtobgkcamonlnkaaGreatDoor
/-! Plain laws of chapter 34: formats and files checked. -/
set_option linter.unusedVariables false
set_option linter.unusedSimpArgs false
namespace Go.Proofs.YtobgkcamonlnkaaGreatDoor
open Go.Ab

end Go.Proofs.YtobgkcamonlnkaaGreatDoor
/-! Plain laws of chapter 34: files checked. -/
set_option linter.unusedVariables false
set_option linter.unusedSimpArgs false
namespace Go.Proofs.YtobgkcamonlnkaaGreatDoor
open Go.Ab

end Go.Proofs.YtobgkcamonlnkaaGreatDoor
/-! Plain laws of chapter 34: records and tables checked. -/
set_option linter.unusedVariables false
set_option linter.unusedSimpArgs false
namespace Go.Proofs.YtobgkcamonlnkaaGreatDoor
open Go.Ab

/-! ### The reference -/
/-! ### Tables -/
end Go.Proofs.YtobgkcamonlnkaaGreatDoor
/-! Plain laws of chapter 34: what right tables are; the bytes of files and tables. -/
set_option linter.unusedVariables false
set_option linter.unusedSimpArgs false
namespace Go.Proofs.YtobgkcamonlnkaaGreatDoor
open Go.Ab

/-! ### Bytes -/
/-- The lowest byte of a number. -/
def oneB (n : Int) : UInt8 := UInt8.ofNat (n % 256).toNat
/-! ### What the program writes -/
end Go.Proofs.YtobgkcamonlnkaaGreatDoor
/-! Plain laws of chapter 34: streams written. -/
set_option linter.unusedVariables false
set_option linter.unusedSimpArgs false
namespace Go.Proofs.YtobgkcamonlnkaaGreatDoor
open Go.Ab

/-! ### The reference -/
end Go.Proofs.YtobgkcamonlnkaaGreatDoor
/-! Plain laws of chapter 34: checksums, levels; the laws of levels and streams. -/
set_option linter.unusedVariables false
set_option linter.unusedSimpArgs false
namespace Go.Proofs.YtobgkcamonlnkaaGreatDoor
open Go.Ab

/-- The checksum, from a number on. -/
def sumG : Int → List UInt8 → Int
  | c, [] => c
  | c, b :: l => sumG ((257 * c + (b.toNat : Int) + 1) % 4294967291) l
/-! ### Bounds -/
/-! ### Copies -/
/-! ### The laws -/
end Go.Proofs.YtobgkcamonlnkaaGreatDoor
/-! Plain laws of chapter 34: differences. -/
set_option linter.unusedVariables false
set_option linter.unusedSimpArgs false
namespace Go.Proofs.YtobgkcamonlnkaaGreatDoor
open Go.Ab

end Go.Proofs.YtobgkcamonlnkaaGreatDoor
/-! Plain laws of chapter 34: slices of the heap; names of volumes; numbers in bytes; blocks. -/
set_option linter.unusedVariables false
set_option linter.unusedSimpArgs false
namespace Go.Ab

/-- Slices of the heap, each one's own, with what they hold. -/
structure Kds {α : Type} (ids : List Nat) (H : List (Kid α)) (f : Nat → List α) : Prop where
  kid : ∀ (v id : Nat), ids[v]? = some id → id = 0 ∧ f v = [] ∨ ∃ c, 1 ≤ id ∧ H[id - 1]? = some (.own (f v) c)
  ne : ∀ (v v' id : Nat), ids[v]? = some id → ids[v']? = some id → id ≠ 0 → v = v'
theorem Kds.read {α : Type} {ids : List Nat} {H : List (Kid α)} {f : Nat → List α} (h : Kds ids H f) {v id : Nat} (hv : ids[v]? = some id) : kget H id = f v ∧ kown H id = true := by
  rcases h.kid v id hv with ⟨rfl, h2⟩ | ⟨c, h1, h2⟩
  · rw [h2]; exact ⟨rfl, rfl⟩
  · obtain ⟨j, rfl⟩ : ∃ j, id = j + 1 := ⟨id - 1, by omega⟩
    rw [Nat.add_sub_cancel] at h2
    constructor
    · simp only [kget, kidAt, h2]
    · simp only [kown, h2]
theorem kill_len {α : Type} (H : List (Kid α)) : ∀ id, (kkill H id).length = H.length
  | 0 => rfl
  | j + 1 => by simp [kkill]
theorem kill_get {α : Type} (H : List (Kid α)) {id j : Nat} (h : j + 1 ≠ id) : (kkill H id)[j]? = H[j]? := by
  cases id with
  | zero => rfl
  | succ i =>
    simp only [kkill]
    rw [List.getElem?_set_ne (by omega)]
theorem Kds.app {α : Type} {ids : List Nat} {H : List (Kid α)} {f : Nat → List α} (h : Kds ids H f) {v id : Nat} (hv : ids[v]? = some id) (ys : List α) :
    Kds (ids.set v (H.length + 1)) (kapp H id (kget H id).length ys) (fun u => if u = v then f v ++ ys else f u) := by
  have hr := (h.read hv).1
  have hlt : v < ids.length := (List.getElem?_eq_some_iff.1 hv).1
  have hold : ∀ u k, u ≠ v → ids[u]? = some k → k ≠ 0 → k ≠ H.length + 1 := by
    intro u k _ hu hk
    rcases h.kid u k hu with ⟨h0, _⟩ | ⟨c, h1, h2⟩
    · exact absurd h0 hk
    · have := (List.getElem?_eq_some_iff.1 h2).1
      omega
  refine ⟨fun u k hu => ?_, fun u u' k hu hu' hk => ?_⟩
  · by_cases e : u = v
    · subst e
      rw [List.getElem?_set_self hlt] at hu
      injection hu with hu
      subst hu
      refine .inr ⟨max (kroom H id) ((kget H id).length + ys.length), by omega, ?_⟩
      rw [Nat.add_sub_cancel, if_pos rfl]
      unfold kapp
      rw [List.getElem?_append_right (by rw [kill_len]; omega), kill_len, Nat.sub_self, hr, List.take_of_length_le (Nat.le_refl _)]
      rfl
    · rw [List.getElem?_set_ne (fun c => e c.symm)] at hu
      rw [if_neg e]
      rcases h.kid u k hu with h0 | ⟨c, h1, h2⟩
      · exact .inl h0
      · refine .inr ⟨c, h1, ?_⟩
        have hl := (List.getElem?_eq_some_iff.1 h2).1
        unfold kapp
        rw [List.getElem?_append_left (by rw [kill_len]; omega), kill_get H (fun c => ?_)]
        · exact h2
        · have : k = id := by omega
          subst this
          exact e (h.ne u v k hu hv (by omega))
  · by_cases e : u = v <;> by_cases e' : u' = v
    · rw [e, e']
    · subst e
      rw [List.getElem?_set_self hlt] at hu
      rw [List.getElem?_set_ne (fun c => e' c.symm)] at hu'
      injection hu with hu
      exact absurd hu.symm (hold u' k e' hu' hk)
    · subst e'
      rw [List.getElem?_set_self hlt] at hu'
      rw [List.getElem?_set_ne (fun c => e c.symm)] at hu
      injection hu' with hu'
      exact absurd hu'.symm (hold u k e hu hk)
    · rw [List.getElem?_set_ne (fun c => e c.symm)] at hu
      rw [List.getElem?_set_ne (fun c => e' c.symm)] at hu'
      exact h.ne u u' k hu hu' hk
theorem Kds.congr {α : Type} {ids : List Nat} {H : List (Kid α)} {f g : Nat → List α} (h : Kds ids H f) (he : ∀ v, v < ids.length → g v = f v) : Kds ids H g :=
  ⟨fun v id hv => by rw [he v (List.getElem?_eq_some_iff.1 hv).1]; exact h.kid v id hv, h.ne⟩
theorem Kds.frz {α : Type} {ids : List Nat} {H : List (Kid α)} {f : Nat → List α} (h : Kds ids H f) {v id : Nat} (hv : ids[v]? = some id) : kro (List.map Kid.frz H) id = true ∧ kget (List.map Kid.frz H) id = f v := by
  rcases h.kid v id hv with ⟨rfl, h2⟩ | ⟨c, h1, h2⟩
  · rw [h2]; exact ⟨rfl, rfl⟩
  · obtain ⟨j, rfl⟩ : ∃ j, id = j + 1 := ⟨id - 1, by omega⟩
    rw [Nat.add_sub_cancel] at h2
    have h3 : (List.map Kid.frz H)[j]? = some (.ro (f v)) := by rw [List.getElem?_map, h2]; rfl
    constructor
    · simp only [kro, kidAt, h3]
    · simp only [kget, kidAt, h3]
theorem Kds.nil {α : Type} (H : List (Kid α)) (f : Nat → List α) : Kds [] H f := ⟨fun v id h => by simp at h, fun v v' id h => by simp at h⟩
end Go.Ab

namespace Go.Proofs.YtobgkcamonlnkaaGreatDoor
open Go.Ab

/-! ### Names of volumes -/
/-! ### Numbers in bytes -/
/-- The lowest bytes of a number, the highest of them first. -/
def bg (n : Int) (L : Nat) : List UInt8 := (low 256 n L).map fun d => UInt8.ofNat d.toNat
/-! ### Blocks -/
/-- What a block has ahead of its checksum. -/
def blkH (vol num : Int) (data : List UInt8) (last : Bool) (vols : Int) : List UInt8 :=
  [oneB vol] ++ bg num 2 ++ [oneB ((data.length : Int) + if last = true then 128 else 0)] ++ data ++ List.replicate (52 - data.length) 0 ++ [oneB vols, 0, 0, 0]
def blkB (vol num : Int) (data : List UInt8) (last : Bool) (vols : Int) : List UInt8 := blkH vol num data last vols ++ bg (sumG 1 (blkH vol num data last vols)) 4
end Go.Proofs.YtobgkcamonlnkaaGreatDoor
/-! Plain laws of chapter 34: volumes. -/
set_option linter.unusedVariables false
set_option linter.unusedSimpArgs false
namespace Go.Proofs.YtobgkcamonlnkaaGreatDoor
open Go.Ab

def nbl (s : List UInt8) : Nat := (s.length + 51) / 52
def vls (n r : Nat) : Nat := (n + r - 1) / r
def chk (s : List UInt8) (i : Nat) : List UInt8 := (s.drop (i * 52)).take 52
/-- The block with a number. -/
def bk (s : List UInt8) (r i : Nat) : ByteArray := S (blkB ((i / r + 1 : Nat) : Int) ((i + 1 : Nat) : Int) (chk s i) (i == nbl s - 1) (vls (nbl s) r : Nat))
/-- The blocks of a volume, of those with the first numbers. -/
def bls (s : List UInt8) (r v i : Nat) : List ByteArray := ((List.range i).filter fun j => j / r == v).map (bk s r)
theorem bls_succ (s : List UInt8) (r v i : Nat) : bls s r v (i + 1) = if v = i / r then bls s r v i ++ [bk s r i] else bls s r v i := by
  unfold bls
  rw [List.range_succ, List.filter_append, List.map_append]
  by_cases h : v = i / r
  · rw [if_pos h]
    simp [h]
  · rw [if_neg h]
    have : (i / r == v) = false := by simpa using fun e : i / r = v => h e.symm
    simp [this]
/-- The states of the loop over blocks. -/
structure VolI (names : List ByteArray) (s : List UInt8) (r V i : Nat) (out : List (ByteArray × Nat)) (H : List (Kid ByteArray)) : Prop where
  len : out.length = V
  nam : ∀ (v : Nat) e, out[v]? = some e → e.1 = if v * r < i then names.getD v ByteArray.empty else ByteArray.empty
  kds : Kds (out.map (·.2)) H fun v => bls s r v i

theorem VolI.step {names : List ByteArray} {s : List UInt8} {r V i : Nat} {out : List (ByteArray × Nat)} {H : List (Kid ByteArray)} (hr : 1 ≤ r) (h : VolI names s r V i out H) {e : ByteArray × Nat} (he : out[i / r]? = some e) :
    VolI names s r V (i + 1) (out.set (i / r) (names.getD (i / r) ByteArray.empty, H.length + 1)) (kapp H e.2 (kget H e.2).length [bk s r i]) := by
  have hlt : i / r < out.length := (List.getElem?_eq_some_iff.1 he).1
  have hk : (out.map (·.2))[i / r]? = some e.2 := by rw [List.getElem?_map, he]; rfl
  have hdm := Nat.div_mul_le_self i r
  refine ⟨by rw [List.length_set]; exact h.len, fun v q hq => ?_, ?_⟩
  · by_cases e' : v = i / r
    · subst e'
      rw [List.getElem?_set_self hlt] at hq
      injection hq with hq
      subst hq
      rw [if_pos (by omega)]
    · rw [List.getElem?_set_ne (fun c => e' c.symm)] at hq
      rw [h.nam v q hq]
      have : v * r < i + 1 ↔ v * r < i := by
        constructor
        · intro h1
          rcases Nat.lt_or_ge (v * r) i with h2 | h2
          · exact h2
          · exfalso
            apply e'
            have : i = v * r := by omega
            rw [this, Nat.mul_div_cancel _ hr]
        · omega
      simp only [this]
  · have := h.kds.app hk [bk s r i]
    rw [List.map_set]
    refine this.congr fun v hv => ?_
    rw [bls_succ]
    by_cases e' : v = i / r
    · rw [if_pos e', if_pos e', e']
    · rw [if_neg e', if_neg e']

/-- The states of the reference's loop over blocks. -/
structure VolR (names : List ByteArray) (s : List UInt8) (r i : Nat) (out : List (ByteArray × Nat)) (H : List (Kid ByteArray)) : Prop where
  len : out.length = vls i r
  nam : ∀ (v : Nat) e, out[v]? = some e → e.1 = names.getD v ByteArray.empty
  kds : Kds (out.map (·.2)) H fun v => bls s r v i

/-! ### The law -/
end Go.Proofs.YtobgkcamonlnkaaGreatDoor
/-! Plain laws of chapter 34: streams read. -/
set_option linter.unusedVariables false
set_option linter.unusedSimpArgs false
namespace Go.Proofs.YtobgkcamonlnkaaGreatDoor
open Go.Ab

/-! ### What stands in a stream -/
/-- Something read, and the bytes behind it; or the error. -/
abbrev PE (α : Type) := Except Int (α × List UInt8)
/-! ### The program -/
def PR {α : Type} (r : PE α) (Q : α → ByteArray → Int → Prop) : Prop :=
  match r with
  | .ok (v, t) => Q v (S t) 0
  | .error e => e ≠ 0 ∧ ∃ v t, Q v t e
theorem PR.imp {α : Type} {r : PE α} {Q Q' : α → ByteArray → Int → Prop} (h : PR r Q) (hi : ∀ v t e, Q v t e → Q' v t e) : PR r Q' := by
  match r, h with
  | .ok (v, t), h => exact hi _ _ _ h
  | .error e, h =>
    obtain ⟨he, v, t, hq⟩ := h
    exact ⟨he, v, t, hi _ _ _ hq⟩

end Go.Proofs.YtobgkcamonlnkaaGreatDoor
/-! Plain laws of chapter 34: tables read by the program. -/
set_option linter.unusedVariables false
set_option linter.unusedSimpArgs false
namespace Go.Proofs.YtobgkcamonlnkaaGreatDoor
open Go.Ab

end Go.Proofs.YtobgkcamonlnkaaGreatDoor
