/- Plain laws of chapter 34: lists of tables read by the program. -/
import Derived.Test.YtobgkcamonlnkaaGreatDoorPA
import Derived.Test.YtobgkcamonlnkaaGreatDoorFcJ
/-! Plain laws of chapter 34: lists of tables read by the program. -/
set_option linter.unusedVariables false
set_option linter.unusedSimpArgs false
namespace Go.Proofs.YtobgkcamonlnkaaGreatDoor
open Go.Ab

end Go.Proofs.YtobgkcamonlnkaaGreatDoor
/-! Plain laws of chapter 34: the reference's reader. -/
set_option linter.unusedVariables false
set_option linter.unusedSimpArgs false
namespace Go.Proofs.YtobgkcamonlnkaaGreatDoor
open Go.Ab

def RR (L : List UInt8) {α : Type} (r : PE α) (Q : α → Int → Int → Prop) : Prop :=
  match r with
  | .ok (v, t) => ∃ a : Nat, a ≤ L.length ∧ t = L.drop a ∧ Q v a 0
  | .error e => e ≠ 0 ∧ ∃ v a, Q v a e
theorem RR.imp {L : List UInt8} {α : Type} {r : PE α} {Q Q' : α → Int → Int → Prop} (h : RR L r Q) (hi : ∀ v t e, Q v t e → Q' v t e) : RR L r Q' := by
  match r, h with
  | .ok (v, t), h =>
    obtain ⟨a, ha, rfl, hq⟩ := h
    exact ⟨a, ha, rfl, hi _ _ _ hq⟩
  | .error e, h =>
    obtain ⟨he, v, t, hq⟩ := h
    exact ⟨he, v, t, hi _ _ _ hq⟩

end Go.Proofs.YtobgkcamonlnkaaGreatDoor
/-! Plain laws of chapter 34: tables read by the reference; the law of reading. -/
set_option linter.unusedVariables false
set_option linter.unusedSimpArgs false
namespace Go.Proofs.YtobgkcamonlnkaaGreatDoor
open Go.Ab

end Go.Proofs.YtobgkcamonlnkaaGreatDoor
/-! Plain laws of chapter 34: lists of tables read by the reference; the law of reading. -/
set_option linter.unusedVariables false
set_option linter.unusedSimpArgs false
namespace Go.Proofs.YtobgkcamonlnkaaGreatDoor
open Go.Ab

end Go.Proofs.YtobgkcamonlnkaaGreatDoor
/-! Plain laws of chapter 34: a list of tables is the same as itself; the law of reading. -/
set_option linter.unusedVariables false
set_option linter.unusedSimpArgs false
namespace Go.Proofs.YtobgkcamonlnkaaGreatDoor
open Go.Ab

end Go.Proofs.YtobgkcamonlnkaaGreatDoor
/-! Plain laws of chapter 34: blocks read. -/
set_option linter.unusedVariables false
set_option linter.unusedSimpArgs false
namespace Go.Proofs.YtobgkcamonlnkaaGreatDoor
open Go.Ab

/-- The number that bytes are, the highest one first. -/
def val (l : List UInt8) : Int := l.foldl (fun a b => a * 256 + (b.toNat : Int)) 0
end Go.Proofs.YtobgkcamonlnkaaGreatDoor
/-! Plain laws of chapter 34: errors of blocks. -/
set_option linter.unusedVariables false
set_option linter.unusedSimpArgs false
namespace Go.Proofs.YtobgkcamonlnkaaGreatDoor
open Go.Ab

end Go.Proofs.YtobgkcamonlnkaaGreatDoor
/-! Plain laws of chapter 34: volumes read by the program. -/
set_option linter.unusedVariables false
set_option linter.unusedSimpArgs false
namespace Go.Proofs.YtobgkcamonlnkaaGreatDoor
open Go.Ab

end Go.Proofs.YtobgkcamonlnkaaGreatDoor
/-! Plain laws of chapter 34: volumes read by the program: the loops. -/
set_option linter.unusedVariables false
set_option linter.unusedSimpArgs false
namespace Go.Proofs.YtobgkcamonlnkaaGreatDoor
open Go.Ab

end Go.Proofs.YtobgkcamonlnkaaGreatDoor
/-! Plain laws of chapter 34: volumes read by the program: the first volume, and all. -/
set_option linter.unusedVariables false
set_option linter.unusedSimpArgs false
namespace Go.Proofs.YtobgkcamonlnkaaGreatDoor
open Go.Ab

end Go.Proofs.YtobgkcamonlnkaaGreatDoor
/-! Plain laws of chapter 34: volumes read by the reference; the law of checks. -/
set_option linter.unusedVariables false
set_option linter.unusedSimpArgs false
namespace Go.Proofs.YtobgkcamonlnkaaGreatDoor
open Go.Ab

/-! ### Few volumes -/
end Go.Proofs.YtobgkcamonlnkaaGreatDoor
/-! Plain laws of chapter 34: what is written is read. -/
set_option linter.unusedVariables false
set_option linter.unusedSimpArgs false
namespace Go.Proofs.YtobgkcamonlnkaaGreatDoor
open Go.Ab

end Go.Proofs.YtobgkcamonlnkaaGreatDoor
/-! Plain laws of chapter 34: what is saved is restored. -/
set_option linter.unusedVariables false
set_option linter.unusedSimpArgs false
namespace Go.Proofs.YtobgkcamonlnkaaGreatDoor
open Go.Ab

end Go.Proofs.YtobgkcamonlnkaaGreatDoor
