/- Joined texts. -/
import Derived.Test.YtobgkcamonlnkaaGreatDoorAC
import Derived.Shelf.Strings.Builder1
import Derived.Shelf.SlicesE.Clone
import Derived.Test.YtobgkcamonlnkaaGreatDoorProg
import Derived.Shelf.Small.Strs
import Derived.Shelf.Strings.Repeat
import Derived.Shelf.Strings.Search3
import Derived.Shelf.Strings.Trim
set_option linter.unusedVariables false
set_option linter.unusedSimpArgs false
namespace Go.Proofs
open Go.Shelf Go.RowKit
variable {P : Program} {ρ : Ren}

theorem addr_add' (g j : Nat) : (⟨g, 0, none⟩ : Addr).add j = ⟨g, j, none⟩ := by
  cases j <;> simp [Addr.add]

set_option maxHeartbeats 1000000 in
set_option maxRecDepth 100000 in
theorem bld_string (L : Lays.n169 P ρ) (X : Builder.Extra P ρ) (b g cap : Nat) (p : Value) (cur : Array Value) (l : List UInt8) (w : World) (hbk : w.heap[b]? = some (.cells #[p, .slice (some ⟨g, 0, none⟩) l.length cap] (ρ.t 72) (0, 0)))
    (hg : w.heap[g]? = some (.cells cur (ρ.t 5) (0, 0))) (hnc : l.length ≤ cap) (hcm : cap ≤ maxLen) (hcs : cur.size = cap) (htake : cur.toList.take l.length = l.map fun b => Value.int .u8 b.toNat) (h0 : l ≠ []) :
    Calls P (ρ.f 169) #[.pointer (some ⟨b, 0, none⟩)] w fun e w' => e = .returned (.string ⟨l.toArray⟩) ∧ w' = w.drew.freeze ⟨g, 0, none⟩ l.length := by
  have hl0 : l.length ≠ 0 := by simpa using h0
  have c1 : w.drew.cell? ⟨b, 1, none⟩ = some (.slice (some ⟨g, 0, none⟩) l.length cap) := by
    have : w.drew.heap[b]? = some (.cells #[p, .slice (some ⟨g, 0, none⟩) l.length cap] (ρ.t 72) (0, 0)) := hbk
    rw [Lib.cell_of_heap this]; rfl
  have hSD : (Builtin.unsafeSliceData_ #[(ρ.t 37)] (ρ.t 127) #[.slice (some ⟨g, 0, none⟩) l.length cap]).run P w.drew = .ok (.pointer (some ⟨g, 0, none⟩)) w.drew :=
    Lib.run_unsafeSliceData_row _ _ _ _ _ _ (by omega)
  have hUS : (Builtin.unsafeString_ #[(ρ.t 127), (ρ.t 3)] (ρ.t 9) #[.pointer (some ⟨g, 0, none⟩), .int .i64 l.length]).run P w.drew = .ok (.string ⟨l.toArray⟩) (w.drew.freeze ⟨g, 0, none⟩ l.length) := by
    have hg' : w.drew.heap[g]? = some (.cells cur (ρ.t 5) (0, 0)) := hg
    refine Lib.run_unsafeString_row w.drew (ρ.t 127) (ρ.t 3) (ρ.t 9) (ρ.t 5) L.t127 X.cellsByte g cur.size (by simp [World.shape?, hg']) l h0 (by omega) (by unfold maxLen at hcm; omega) ?_
    intro j x hx
    rw [addr_add', Lib.cell_of_heap hg']
    have hj : j < l.length := (List.getElem?_eq_some_iff.1 hx).1
    have := congrArg (fun m => m[j]?) htake
    simp only [List.getElem?_take, if_pos hj, List.getElem?_map, hx, Option.map_some] at this
    simpa using this
  have mixed := L.mixed
  have t72 := L.t72; have a72 := L.a72; have z72 := L.z72; have v72 := L.v72; have u72 := run_underlying L.t72
  have t70 := L.t70; have a70 := L.a70; have z70 := L.z70; have v70 := L.v70; have u70 := run_underlying L.t70
  have t37 := L.t37; have a37 := L.a37; have z37 := L.z37; have v37 := L.v37; have u37 := run_underlying L.t37
  have t127 := L.t127; have a127 := L.a127; have z127 := L.z127; have v127 := L.v127; have u127 := run_underlying L.t127
  have t3 := L.t3; have a3 := L.a3; have z3 := L.z3; have v3 := L.v3; have u3 := run_underlying L.t3
  have t9 := L.t9; have a9 := L.a9; have z9 := L.z9; have v9 := L.v9; have u9 := run_underlying L.t9
  have t5 := X.t5; have a5 := X.a5; have z5 := X.z5; have v5 := X.v5; have u5 := run_underlying X.t5
  go_enter L.f169, Body.n169_ntmps ρ
  go_wp2
  go_region_o
  all_goals (go_wp2; go_ret; exact ⟨rfl, rfl⟩)

set_option maxHeartbeats 2000000 in
set_option maxRecDepth 100000 in
theorem bld_string_nil (L : Lays.n169 P ρ) (X : Builder.Extra P ρ) (b : Nat) (p : Value) (w : World) (hbk : w.heap[b]? = some (.cells #[p, .slice none 0 0] (ρ.t 72) (0, 0))) :
    Calls P (ρ.f 169) #[.pointer (some ⟨b, 0, none⟩)] w fun e w' => e = .returned (.string ⟨#[]⟩) ∧ w' = w.drew := by
  have hUS := Any.unsafeString_none L X
  have c1 : w.drew.cell? ⟨b, 1, none⟩ = some (.slice none 0 0) := by
    have : w.drew.heap[b]? = some (.cells #[p, .slice none 0 0] (ρ.t 72) (0, 0)) := hbk
    rw [Lib.cell_of_heap this]; rfl
  have hSD : (Builtin.unsafeSliceData_ #[(ρ.t 37)] (ρ.t 127) #[.slice none 0 0]).run P w.drew = .ok (.pointer none) w.drew := rfl
  have mixed := L.mixed
  have t72 := L.t72; have a72 := L.a72; have z72 := L.z72; have v72 := L.v72; have u72 := run_underlying L.t72
  have t70 := L.t70; have a70 := L.a70; have z70 := L.z70; have v70 := L.v70; have u70 := run_underlying L.t70
  have t37 := L.t37; have a37 := L.a37; have z37 := L.z37; have v37 := L.v37; have u37 := run_underlying L.t37
  have t127 := L.t127; have a127 := L.a127; have z127 := L.z127; have v127 := L.v127; have u127 := run_underlying L.t127
  have t3 := L.t3; have a3 := L.a3; have z3 := L.z3; have v3 := L.v3; have u3 := run_underlying L.t3
  have t9 := L.t9; have a9 := L.a9; have z9 := L.z9; have v9 := L.v9; have u9 := run_underlying L.t9
  have t5 := X.t5; have a5 := X.a5; have z5 := X.z5; have v5 := X.v5; have u5 := run_underlying X.t5
  go_enter L.f169, Body.n169_ntmps ρ
  go_wp2
  go_region_o
  all_goals (go_wp2; go_ret; exact ⟨rfl, rfl⟩)
end Go.Proofs

namespace Go.Ab
open Go.Shelf Go.Proofs

def copyCheckE (T : Nat) (args : List AV) (S : Store) : Res := match args with
  | [.v (.one (.ptr t 0))] => match look S t with
    | some (.var E [.nil .ptr, c]) => bif Nat.beq E T then .ok (.tup []) (upd S t (.var E [.ptr t 0, c])) else .fail
    | some (.var E [.ptr t' 0, c]) => bif Nat.beq t' t then .ok (.tup []) S else .fail
    | _ => .fail
  | _ => .fail
def rowU8 (E : Nat) : Blk → Option (List Int)
  | .row E' (.int .u8) .plain xs => bif Nat.beq E' E then some xs else none
  | _ => none
theorem rowU8_eq {E : Nat} {x : Blk} {xs : List Int} (h : rowU8 E x = some xs) : x = .row E (.int .u8) .plain xs := by
  unfold rowU8 at h
  split at h
  · rename_i E' ys
    obtain ⟨h1, h2⟩ := bif_some (x := some ys) h
    simp only [Nat.beq_eq] at h1
    injection h2 with h2
    rw [h1, h2]
  · cases h
def bldStringE (T E : Nat) (args : List AV) (S : Store) : Res := match args with
  | [.v (.one (.ptr t 0))] => match look S t with
    | some (.var T' [_, .emp]) => bif Nat.beq T' T then .ok (one (.str ByteArray.empty)) S else .fail
    | some (.var T' [_, .own r]) => bif Nat.beq T' T then (match (look S r).bind (rowU8 E) with
      | some xs => .chk (!xs.isEmpty && xs.all fun x => decide (0 ≤ x) && decide (x ≤ 255)) (one (.str (strOfNums xs))) (upd S r (.row E (.int .u8) .frz xs))
      | none => .fail) else .fail
    | _ => .fail
  | _ => .fail

theorem Post.drewW {fr : Nat} {γ : Nat → G} {F : FK} {w : World} {S : Store} (h : Inv F γ S w) : Post fr γ F w S γ F w.drew S :=
  ⟨rfl, rfl, rfl, Nat.le_refl _, fun _ _ _ => rfl, fun _ _ => rfl, FK.Le.refl _, fun _ h => .inl h, fun _ h => .inl h, fun _ _ => rfl,
    ⟨fun t x hx => (h.blk t x hx).lasts ⟨FK.Le.refl _, fun _ _ => rfl⟩ rfl (fun _ _ => rfl) (fun _ _ => ⟨rfl, id⟩) fun _ => ⟨rfl, fun _ _ _ => ⟨rfl, id⟩⟩, h.inj, ⟨h.fz.lt, h.fz.gnd.mono (fun _ h => h) fun _ _ => rfl⟩, h.hp⟩, fun _ => rfl⟩

theorem Post.turnFrz {fr : Nat} {γ : Nat → G} {F : FK} {w w' : World} {S : Store} {tok b E : Nat} {e : Ty} {m : RowK} {xs : List e.den} (hI : Inv F γ S w) (hS : look S tok = some (.row E e m xs)) (hb : (γ tok).blk = some b) (hF : ¬ F b) (h : Turned w w' b)
    (hc : ∀ cur fz, w.heap[b]? = some (.cells cur E fz) → ∃ fz', w'.heap[b]? = some (.cells cur E fz')) : Post fr γ F w S γ (F.add fun c => c = b) w' (upd S tok (.row E e .frz xs)) := by
  have hl : Lasts F (F.add fun c => c = b) w w' := ⟨FK.Le.add F _, fun c hc => h.old c fun e => hF (e ▸ hc)⟩
  have hHas : ∀ t, Has (upd S tok (.row E e .frz xs)) t → Has S t := by
    rintro t ⟨z, hz⟩
    rw [look_upd] at hz
    split at hz
    · rename_i e; subst e; exact ⟨_, hS⟩
    · exact ⟨z, hz⟩
  have hrow : RowOk F (γ tok) w E e m xs := hI.blk tok _ hS
  refine ⟨h.os, h.tape, h.output, Nat.le_of_eq h.size.symm, fun c hc hm => h.old c fun e => hm (.tok ⟨_, hS⟩ (by rw [e]; exact hb)), fun _ _ => rfl, FK.Le.add F _, fun c hc => ?_, ?_, fun c hc => hl.heap c hc, ?_, fun _ => rfl⟩
  · rcases hc with hc | hc
    · exact .inl hc
    · exact .inr (.inl (.tok ⟨_, hS⟩ (by rw [hc]; exact hb)))
  · rintro c (⟨t, ht, hc⟩ | ⟨j, hc⟩)
    · exact .inl (.tok (hHas t ht) hc)
    · exact .inl (.inr ⟨j, hc.upd rfl rfl⟩)
  · refine ⟨fun t z hz => ?_, fun t t' c ht ht' => hI.inj t t' c (hHas t ht) (hHas t' ht'), ⟨fun c hc => ?_, hI.fz.gnd.mono (fun _ h => .inl h) hl.heap⟩, HpInv.upd (F' := F.add _) hI.hp rfl (y := .row E e .frz xs) rfl ⟨_, hS⟩⟩
    · rw [look_upd] at hz
      split at hz
      · rename_i e1
        subst e1
        injection hz with hz
        subst hz
        obtain ⟨h1, h2, h3⟩ := hrow
        refine ⟨h1, h2, ?_⟩
        rcases h3 with h3 | ⟨b', cur, fz, flat, g1, g2, g3, g4, g5, g6, g7, g8⟩
        · rw [h3.1] at hb; cases hb
        · rw [g1] at hb
          injection hb with hb
          subst hb
          obtain ⟨fz', hfz⟩ := hc cur fz g2
          exact .inr ⟨b', cur, fz', flat, g1, hfz, g3, g4, g5, g6, g7.lasts hl, .inr rfl⟩
      · rename_i hne
        refine (hI.blk t z hz).lasts hl rfl (fun _ _ => rfl) (fun c hc' => ⟨h.old c fun e => hne (hI.inj tok t b ⟨_, hS⟩ ⟨z, hz⟩ hb (e ▸ hc')), fun h => ?_⟩) fun _ => ⟨rfl, fun j c hc' => ⟨h.old c fun e => hI.hp.sep j c tok ⟨t, z, hz, hc'⟩ ⟨_, hS⟩ (e ▸ hb), fun h => ?_⟩⟩
        · rcases h with h | h
          · exact h
          · have h : c = b := h
            subst h
            exact absurd (hI.inj tok t _ ⟨_, hS⟩ ⟨z, hz⟩ hb hc') hne
        · rcases h with h | h
          · exact h
          · have h : c = b := h
            exact absurd (h ▸ hb) (hI.hp.sep j c tok ⟨t, z, hz, hc'⟩ ⟨_, hS⟩)
    · rcases hc with hc | hc
      · rw [h.size]; exact hI.fz c hc
      · rw [h.size]; exact hI.mine_lt (.tok ⟨_, hS⟩ (by rw [hc]; exact hb))

theorem turned_setCell (w : World) (b : Nat) (v : Value) : Turned w (w.setCell ⟨b, 0, none⟩ v) b :=
  ⟨rfl, rfl, rfl, by simp [World.setCell], fun c hc => by simp only [World.setCell, Array.getElem?_modify]; rw [if_neg (fun e => hc e.symm)]⟩
theorem turned_freeze (w : World) (b n : Nat) : Turned w (w.drew.freeze ⟨b, 0, none⟩ n) b := by
  unfold World.freeze
  split
  · exact ⟨rfl, rfl, rfl, rfl, fun _ _ => rfl⟩
  · exact ⟨rfl, rfl, rfl, by simp, fun c hc => by
      simp only [Array.getElem?_modify]
      rw [if_neg (fun e => hc e.symm)]
      rfl⟩

theorem flat_u8 {F : FK} {w : World} : ∀ {xs : List Int} {l : List Value}, Flat F w (.int .u8) xs l → l = xs.map (Value.int .u8)
  | [], l, h => h
  | x :: xs, l, h => by
    obtain ⟨a, b, rfl, ha, hb⟩ := h
    have ha : a = [Value.int .u8 x] := ha
    rw [ha, flat_u8 hb]
    rfl

theorem u8_back {xs : List Int} (h : (xs.all fun x => decide (0 ≤ x) && decide (x ≤ 255)) = true) : xs.map (Value.int .u8) = (xs.map fun n => UInt8.ofNat n.toNat).map fun b => Value.int .u8 b.toNat := by
  rw [List.map_map]
  refine List.map_congr_left fun x hx => ?_
  have := List.all_eq_true.1 h x hx
  simp only [Bool.and_eq_true, decide_eq_true_eq] at this
  show Value.int .u8 x = Value.int .u8 ((UInt8.ofNat x.toNat).toNat : Int)
  rw [UInt8.toNat_ofNat']
  congr 1
  omega

section
variable {P : Program} {ρ : Ren}

theorem copyCheck_ok0 (L : Lays.n240 P ρ) (X : Builder.X72 P ρ) : ∀ args S, ResSem (fun v S' => FnSem P (ρ.f 240) args S S.length v S') (copyCheckE (ρ.t 72) args S) := by
  intro args S
  unfold copyCheckE
  split
  · rename_i t
    split
    · rename_i E c hS
      cases hE : Nat.beq E (ρ.t 72) with
      | false => trivial
      | true =>
        simp only [cond_true]
        have hE : E = ρ.t 72 := by simpa using hE
        subst hE
        intro γ F w vals hI hlt hal hA _
        match vals, hA with
        | [v], ⟨hv, _⟩ =>
          obtain ⟨b, hb, rfl⟩ := hv
          obtain ⟨b', cur, h1, h2, h3, h4⟩ := hI.blk t _ hS
          rw [h1] at hb
          injection hb with hb
          subst hb
          obtain ⟨v0, v1, hcur⟩ : ∃ v0 v1, cur = #[v0, v1] := by
            obtain ⟨l⟩ := cur
            match l, h4 with
            | [v0, v1], _ => exact ⟨v0, v1, rfl⟩
          subst hcur
          obtain ⟨k0, k1, _⟩ := h4
          have k0 : v0 = .pointer none := k0
          subst k0
          refine (Any.Builder_copyCheck_fresh L X b' w (by rw [Lib.cell_of_heap h2]; rfl) (by simp [World.shape?, h2]) (by simp [World.frozen?, h2])).mono ?_
          rintro e w' ⟨rfl, rfl⟩
          refine ⟨_, γ, F, rfl, Post.write hI hS h1 h3 (turned_setCell _ _ _) ⟨b', #[.pointer (some ⟨b', 0, none⟩), v1], h1, ?_, h3, ⟨b', h1, rfl⟩, ?_, trivial⟩, ⟨[], rfl, trivial⟩⟩
          · simp only [World.setCell, Array.getElem?_modify]
            simp [h2]
          · exact RepC.lasts (F := F) (w := w) ⟨FK.Le.refl _, fun c hc => (turned_setCell w b' _).old c fun e => h3 (by rw [← e]; exact hc)⟩ (fun _ _ => rfl) k1
    · rename_i E t' c hS
      cases hE : Nat.beq t' t with
      | false => trivial
      | true =>
        simp only [cond_true]
        have hE : t' = t := by simpa using hE
        subst hE
        intro γ F w vals hI hlt hal hA _
        match vals, hA with
        | [v], ⟨hv, _⟩ =>
          obtain ⟨b, hb, rfl⟩ := hv
          obtain ⟨b', cur, h1, h2, h3, h4⟩ := hI.blk t' _ hS
          rw [h1] at hb
          injection hb with hb
          subst hb
          obtain ⟨v0, v1, hcur⟩ : ∃ v0 v1, cur = #[v0, v1] := by
            obtain ⟨l⟩ := cur
            match l, h4 with
            | [v0, v1], _ => exact ⟨v0, v1, rfl⟩
          subst hcur
          obtain ⟨k0, k1, _⟩ := h4
          obtain ⟨b2, k0, k2⟩ := k0
          rw [h1] at k0
          injection k0 with k0
          subst k0
          subst k2
          refine (Any.Builder_copyCheck_used L X b' w (by rw [Lib.cell_of_heap h2]; rfl)).mono ?_
          rintro e w' ⟨rfl, rfl⟩
          exact ⟨_, γ, F, rfl, Post.same hI, ⟨[], rfl, trivial⟩⟩
    · trivial
  · trivial
theorem copyCheck_ok (L : Lays.n240 P ρ) (X : Builder.X72 P ρ) : EntOk P (ρ.f 240) (copyCheckE (ρ.t 72)) := fun args S => ⟨by
  unfold copyCheckE
  repeat' (first | trivial | split)
  all_goals (generalize Nat.beq _ _ = c; cases c <;> (repeat' (first | trivial | split))), copyCheck_ok0 L X args S⟩

theorem bldString_ok0 (L : Lays.n169 P ρ) (X : Builder.Extra P ρ) : ∀ args S, ResSem (fun v S' => FnSem P (ρ.f 169) args S S.length v S') (bldStringE (ρ.t 72) (ρ.t 5) args S) := by
  intro args S
  unfold bldStringE
  split
  · rename_i t
    split
    · rename_i T' c hS
      cases hE : Nat.beq T' (ρ.t 72) with
      | false => trivial
      | true =>
        simp only [cond_true]
        have hE : T' = ρ.t 72 := by simpa using hE
        subst hE
        intro γ F w vals hI hlt hal hA _
        match vals, hA with
        | [v], ⟨hv, _⟩ =>
          obtain ⟨b, hb, rfl⟩ := hv
          obtain ⟨b', cur, h1, h2, h3, h4⟩ := hI.blk t _ hS
          rw [h1] at hb
          injection hb with hb
          subst hb
          obtain ⟨v0, v1, hcur⟩ : ∃ v0 v1, cur = #[v0, v1] := by
            obtain ⟨l⟩ := cur
            match l, h4 with
            | [v0, v1], _ => exact ⟨v0, v1, rfl⟩
          subst hcur
          obtain ⟨k0, k1, _⟩ := h4
          have k1 : v1 = .slice none 0 0 := k1
          subst k1
          refine (bld_string_nil L X b' v0 w h2).mono ?_
          rintro e w' ⟨rfl, rfl⟩
          exact ⟨_, γ, F, rfl, Post.drewW hI, rfl⟩
    · rename_i T' c r hS
      cases hE : Nat.beq T' (ρ.t 72) with
      | false => trivial
      | true =>
        simp only [cond_true]
        have hE : T' = ρ.t 72 := by simpa using hE
        subst hE
        split
        · rename_i xs hr
          obtain ⟨x, hx, hr2⟩ := Option.bind_eq_some_iff.1 hr
          have := rowU8_eq hr2
          subst this
          intro hc
          simp only [Bool.and_eq_true, Bool.not_eq_true', List.isEmpty_eq_false_iff] at hc
          obtain ⟨hne, hall⟩ := hc
          intro γ F w vals hI hlt hal hA _
          match vals, hA with
          | [v], ⟨hv, _⟩ =>
            obtain ⟨b, hb, rfl⟩ := hv
            obtain ⟨b', cur, h1, h2, h3, h4⟩ := hI.blk t _ hS
            rw [h1] at hb
            injection hb with hb
            subst hb
            obtain ⟨v0, v1, hcur⟩ : ∃ v0 v1, cur = #[v0, v1] := by
              obtain ⟨l⟩ := cur
              match l, h4 with
              | [v0, v1], _ => exact ⟨v0, v1, rfl⟩
            subst hcur
            obtain ⟨k0, k1, _⟩ := h4
            have k1 : v1 = (γ r).val := k1
            have hrow : RowOk F (γ r) w (ρ.t 5) (.int .u8) .plain xs := hI.blk r _ hx
            obtain ⟨q1, q2, q3⟩ := hrow
            rcases q3 with q3 | ⟨g, gc, fz, flat, g1, g2, g3, g4, g5, g6, g7, g8⟩
            · exact absurd q3.2 hne
            · obtain ⟨g8, g9⟩ := g8
              subst g9
              have hlen : (xs.map fun n => UInt8.ofNat n.toNat).length = xs.length := by simp
              have hv1 : v1 = .slice (some ⟨g, 0, none⟩) (xs.map fun n => UInt8.ofNat n.toNat).length (γ r).cap := by
                rw [k1, hlen, ← q1]
                unfold G.val
                rw [g1]
              subst hv1
              have hflat := flat_u8 g7
              refine (bld_string L X b' g (γ r).cap v0 gc (xs.map fun n => UInt8.ofNat n.toNat) w h2 g2 (by rw [hlen]; exact g3) g4 (by simpa [Ty.size] using g5) ?_ (by simpa using hne)).mono ?_
              · rw [hlen, ← u8_back hall, ← hflat, ← g6]
                simp [Ty.size]
              · rintro e w' ⟨rfl, rfl⟩
                refine ⟨_, γ, _, rfl, Post.turnFrz hI hx g1 g8 (turned_freeze w g _) fun cur fz hcur => ?_, rfl⟩
                unfold World.freeze
                split
                · exact ⟨fz, hcur⟩
                · obtain ⟨lo, hi⟩ := fz
                  have hcur' : w.drew.heap[g]? = some (.cells cur (ρ.t 5) (lo, hi)) := hcur
                  exact ⟨_, (by simp only [Array.getElem?_modify, hcur', if_pos, Option.map_some]; rfl)⟩
        · trivial
    · trivial
  · trivial
theorem bldString_ok (L : Lays.n169 P ρ) (X : Builder.Extra P ρ) : EntOk P (ρ.f 169) (bldStringE (ρ.t 72) (ρ.t 5)) := fun args S => ⟨by
  unfold bldStringE
  repeat' (first | trivial | split)
  all_goals (generalize Nat.beq _ _ = c; cases c <;> (repeat' (first | trivial | split))), bldString_ok0 L X args S⟩

end
end Go.Ab
set_option linter.unusedVariables false
set_option linter.unusedSimpArgs false
namespace Go.Proofs
open Go.Shelf Go.RowKit Go.Lib
variable {P : Program} {ρ : Ren}

end Go.Proofs

namespace Go.Ab
open Go.Shelf Go.Proofs Go.RowKit Go.Lib
variable {P : Program} {ρ : Ren}

theorem RoSl.flat {F : FK} {w : World} {e : Ty} {b off : Nat} : ∀ {xs : List e.den} (n : Nat), (∀ i x, xs[i]? = some x → ∃ l, RepD F w e x l ∧ l.length = e.size ∧ ∀ j v, l[j]? = some v → w.cell? ⟨b, off + ((n + i) * e.size + j), none⟩ = some v) →
    ∃ l, Flat F w e xs l ∧ ∀ j v, l[j]? = some v → w.cell? ⟨b, off + (n * e.size + j), none⟩ = some v
  | [], n, _ => ⟨[], rfl, fun j v h => by simp at h⟩
  | x :: xs, n, h => by
    obtain ⟨l1, h1, h2, h3⟩ := h 0 x (by simp)
    obtain ⟨l2, h4, h5⟩ := RoSl.flat (xs := xs) (n + 1) fun i y hy => by
      obtain ⟨l, a, b, c⟩ := h (i + 1) y (by simpa using hy)
      exact ⟨l, a, b, fun j v hv => by rw [show n + 1 + i = n + (i + 1) by omega]; exact c j v hv⟩
    refine ⟨l1 ++ l2, ⟨l1, l2, rfl, h1, h4⟩, fun j v hv => ?_⟩
    by_cases hj : j < l1.length
    · rw [List.getElem?_append_left hj] at hv
      simpa using h3 j v hv
    · rw [List.getElem?_append_right (by omega)] at hv
      have := h5 (j - l1.length) v hv
      rw [h2] at this
      rw [show off + (n * e.size + j) = off + ((n + 1) * e.size + (j - e.size)) by rw [Nat.add_mul]; omega]
      exact this

end Go.Ab
set_option linter.unusedVariables false
namespace Go.Proofs.YtobgkcamonlnkaaGreatDoor
open Go.Shelf Go.Ab Go.RowKit
theorem same_ok {P : Program} {f : Nat} {sig : List ASh} {res : List RSh} {x : argDen sig} {y : resDen res} (u : Value) (hsto : resSto 0 res y = []) (hu : ∀ (γ : Nat → G) (F : FK) (w : World), RepA γ F w (packV (resVals 0 res y)) u)
    (h : ∀ (γ : Nat → G) (F : FK) (w : World) (vals : List Value), Frz F w → All2 (RepA γ F w) (argsV sig x) vals → Calls P f vals.toArray w fun e w' => e = .returned u ∧ Below w.heap.size w w') : FnOk P f sig res x y := by
  intro γ F w vals hF hvals
  refine (h γ F w vals hF hvals).mono fun e w' ⟨he, hw⟩ => ?_
  refine ⟨u, γ, F, he, ?_, hu γ F w'⟩
  rw [hsto]
  exact ⟨hw.os, hw.tape, hw.output, hw.size, fun b hb _ => hw.block b hb, fun _ _ => rfl, FK.Le.refl F, fun _ h => .inl h, fun b h => absurd h no_mine, fun b h => hw.block b (hF b h),
    Inv.nil ⟨fun b h => Nat.lt_of_lt_of_le (hF b h) hw.size, hF.gnd.mono (fun _ h => h) (fun b h => hw.block b (hF b h))⟩, fun _ => rfl⟩
theorem one_byte {s : ByteArray} {c : UInt8} (h : s.data.toList = [c]) : s = ⟨#[c]⟩ := by
  cases s with
  | mk d =>
    congr
    exact Array.ext' h
theorem same_world {P : Program} {f : Nat} {vals : Array Value} {w : World} {u : Value} (h : Calls P f vals w fun e w' => e = .returned u ∧ w' = w) : Calls P f vals w fun e w' => e = .returned u ∧ Below w.heap.size w w' :=
  h.mono fun e w' ⟨he, hw⟩ => by subst hw; exact ⟨he, Below.refl _ _⟩
theorem drew_world {P : Program} {f : Nat} {vals : Array Value} {w : World} {u : Value} (h : Calls P f vals w fun e w' => e = .returned u ∧ (w' = w ∨ w' = w.drew)) : Calls P f vals w fun e w' => e = .returned u ∧ Below w.heap.size w w' :=
  h.mono fun e w' ⟨he, hw⟩ => by
    rcases hw with hw | hw
    · subst hw; exact ⟨he, Below.refl _ _⟩
    · subst hw; exact ⟨he, rfl, rfl, rfl, Nat.le_refl _, fun _ _ => rfl⟩
def lays137_ren : Go.Shelf.Ren := ⟨fun | 137 => 136 | 217 => 156 | 266 => 172 | n => n, fun | 9 => 9 | 5 => 5 | 3 => 3 | n => n, fun | n => n⟩
theorem lays137 : Go.Proofs.Lays.n137 Tryz.prog lays137_ren := {
  mixed := by kernel_rfl
  f137 := Tryz.func136.trans (congrArg some (by kernel_rfl))
  f217 := Tryz.func156.trans (congrArg some (by kernel_rfl))
  f266 := Tryz.func172.trans (congrArg some (by kernel_rfl))
  t3 := Tryz.underlying3
  a3 := Tryz.isAgg3
  z3 := Tryz.sizeOf3
  v3 := Tryz.zeroValue3
  t5 := Tryz.underlying5
  a5 := Tryz.isAgg5
  z5 := Tryz.sizeOf5
  v5 := Tryz.zeroValue5
  t9 := Tryz.underlying9
  a9 := Tryz.isAgg9
  z9 := Tryz.sizeOf9
  v9 := Tryz.zeroValue9 }
def f636F (k : Nat) (x : ByteArray × Int) : Option Int := some (Lib.indexByte x.1.data.toList x.2.toNat.toUInt8)
theorem f636B : HasBody Go.Proofs.Tryz.prog 136 := ⟨Go.Proofs.Tryz.f136, Go.Proofs.Tryz.func136, by kernel_rfl, by kernel_rfl⟩
theorem f636Ok (k : Nat) (x : ByteArray × Int) (y : Int) (h : f636F k x = some y) : FnOk Go.Proofs.Tryz.prog 136 [.dat .str, .dat (.int .u8)] [.dat (.int .i64)] x y := by
  obtain ⟨s, c⟩ := x
  unfold f636F at h
  cases h
  refine same_ok (.int .i64 (Lib.indexByte s.data.toList c.toNat.toUInt8)) rfl (fun _ _ _ => rfl) fun γ F w vals _ hvals => ?_
  match vals, hvals with
  | [a, b], ⟨ha, hb, _⟩ =>
    have ha : a = .string s := ha
    have hb : b = .int .u8 c := hb
    subst ha hb
    exact same_world (Any.strings_IndexByte lays137 s c w)
def lays162_ren : Go.Shelf.Ren := ⟨fun | 162 => 143 | 232 => 161 | 227 => 162 | 234 => 163 | 236 => 164 | 228 => 178 | 271 => 179 | 151 => 180 | 120 => 190 | 197 => 191 | 152 => 192 | 260 => 203 | 137 => 136 | 119 => 204 | 224 => 194 | 225 => 193 | 217 => 156 | 266 => 172 | n => n, fun | 9 => 9 | 4 => 4 | 3 => 3 | 5 => 5 | 117 => 217 | 116 => 216 | 0 => 0 | 124 => 220 | 21 => 21 | 105 => 227 | 46 => 161 | 119 => 250 | 139 => 253 | 138 => 252 | n => n, fun | 3 => 1 | 4 => 2 | n => n⟩
theorem lays162 : Go.Proofs.Lays.n162 Tryz.prog lays162_ren := {
  mixed := by kernel_rfl
  f119 := Tryz.func204.trans (congrArg some (by kernel_rfl))
  f120 := Tryz.func190.trans (congrArg some (by kernel_rfl))
  f137 := Tryz.func136.trans (congrArg some (by kernel_rfl))
  f151 := Tryz.func180.trans (congrArg some (by kernel_rfl))
  f152 := Tryz.func192.trans (congrArg some (by kernel_rfl))
  f162 := Tryz.func143.trans (congrArg some (by kernel_rfl))
  f197 := Tryz.func191.trans (congrArg some (by kernel_rfl))
  f217 := Tryz.func156.trans (congrArg some (by kernel_rfl))
  f224 := Tryz.func194.trans (congrArg some (by kernel_rfl))
  f225 := Tryz.func193.trans (congrArg some (by kernel_rfl))
  f227 := Tryz.func162.trans (congrArg some (by kernel_rfl))
  f228 := Tryz.func178.trans (congrArg some (by kernel_rfl))
  f232 := Tryz.func161.trans (congrArg some (by kernel_rfl))
  f234 := Tryz.func163.trans (congrArg some (by kernel_rfl))
  f236 := Tryz.func164.trans (congrArg some (by kernel_rfl))
  f260 := Tryz.func203.trans (congrArg some (by kernel_rfl))
  f266 := Tryz.func172.trans (congrArg some (by kernel_rfl))
  f271 := Tryz.func179.trans (congrArg some (by kernel_rfl))
  t0 := Tryz.underlying0
  a0 := Tryz.isAgg0
  z0 := Tryz.sizeOf0
  v0 := Tryz.zeroValue0
  t3 := Tryz.underlying3
  a3 := Tryz.isAgg3
  z3 := Tryz.sizeOf3
  v3 := Tryz.zeroValue3
  t4 := Tryz.underlying4
  a4 := Tryz.isAgg4
  z4 := Tryz.sizeOf4
  v4 := Tryz.zeroValue4
  t5 := Tryz.underlying5
  a5 := Tryz.isAgg5
  z5 := Tryz.sizeOf5
  v5 := Tryz.zeroValue5
  t9 := Tryz.underlying9
  a9 := Tryz.isAgg9
  z9 := Tryz.sizeOf9
  v9 := Tryz.zeroValue9
  t21 := Tryz.underlying21
  a21 := Tryz.isAgg21
  z21 := Tryz.sizeOf21
  v21 := Tryz.zeroValue21
  t46 := Tryz.underlying161
  a46 := Tryz.isAgg161
  z46 := Tryz.sizeOf161
  v46 := Tryz.zeroValue161
  t105 := Tryz.underlying227
  a105 := Tryz.isAgg227
  z105 := Tryz.sizeOf227
  v105 := Tryz.zeroValue227
  t116 := Tryz.underlying216
  a116 := Tryz.isAgg216
  z116 := Tryz.sizeOf216
  t117 := Tryz.underlying217
  a117 := Tryz.isAgg217
  z117 := Tryz.sizeOf217
  v117 := Tryz.zeroValue217
  t119 := Tryz.underlying250
  a119 := Tryz.isAgg250
  z119 := Tryz.sizeOf250
  t124 := Tryz.underlying220
  a124 := Tryz.isAgg220
  z124 := Tryz.sizeOf220
  v124 := Tryz.zeroValue220
  t138 := Tryz.underlying252
  a138 := Tryz.isAgg252
  z138 := Tryz.sizeOf252
  v138 := Tryz.zeroValue252
  t139 := Tryz.underlying253
  a139 := Tryz.isAgg253
  z139 := Tryz.sizeOf253
  v139 := Tryz.zeroValue253
  g3 := by kernel_rfl
  g4 := by kernel_rfl }
def f643F (k : Nat) (x : ByteArray × ByteArray) : Option ByteArray :=
  match x.2.data.toList with
  | [c] => bif (decide (c.toNat < 128) && decide (x.1.size ≤ 9223372036854775807)) then some ⟨(Lib.trimRightB x.1.data.toList c).toArray⟩ else none
  | _ => none
theorem f643B : HasBody Go.Proofs.Tryz.prog 143 := ⟨Go.Proofs.Tryz.f143, Go.Proofs.Tryz.func143, by kernel_rfl, by kernel_rfl⟩
theorem f643Ok (k : Nat) (x : ByteArray × ByteArray) (y : ByteArray) (h : f643F k x = some y) : FnOk Go.Proofs.Tryz.prog 143 [.dat .str, .dat .str] [.dat .str] x y := by
  obtain ⟨s, t⟩ := x
  unfold f643F at h
  simp only [] at h
  split at h
  · rename_i c hc
    have ht := one_byte hc
    subst ht
    cases hcc : (decide (c.toNat < 128) && decide (s.size ≤ 9223372036854775807)) with
    | false => rw [hcc] at h; cases h
    | true =>
      rw [hcc] at h
      cases h
      simp only [Bool.and_eq_true, decide_eq_true_eq] at hcc
      obtain ⟨hlt, hs⟩ := hcc
      refine same_ok (.string ⟨(Lib.trimRightB s.data.toList c).toArray⟩) rfl (fun _ _ _ => rfl) fun γ F w vals _ hvals => ?_
      match vals, hvals with
      | [a, b], ⟨ha, hb, _⟩ =>
        have ha : a = .string s := ha
        have hb : b = .string ⟨#[c]⟩ := hb
        subst ha hb
        exact same_world (Any.strings_TrimRight_one lays162 s c hlt w hs)
  · cases h
def lays160_ren : Go.Shelf.Ren := ⟨fun | 160 => 167 | 232 => 161 | 231 => 182 | 227 => 162 | 234 => 163 | 233 => 183 | 236 => 164 | 235 => 184 | 228 => 178 | 271 => 179 | 151 => 180 | 197 => 191 | 120 => 190 | 152 => 192 | 260 => 203 | 137 => 136 | 119 => 204 | 224 => 194 | 225 => 193 | 217 => 156 | 266 => 172 | n => n, fun | 9 => 9 | 4 => 4 | 3 => 3 | 5 => 5 | 117 => 217 | 116 => 216 | 0 => 0 | 124 => 220 | 21 => 21 | 105 => 227 | 46 => 161 | 119 => 250 | 139 => 253 | 138 => 252 | n => n, fun | 3 => 1 | 4 => 2 | n => n⟩
theorem lays160 : Go.Proofs.Lays.n160 Tryz.prog lays160_ren := {
  mixed := by kernel_rfl
  f119 := Tryz.func204.trans (congrArg some (by kernel_rfl))
  f120 := Tryz.func190.trans (congrArg some (by kernel_rfl))
  f137 := Tryz.func136.trans (congrArg some (by kernel_rfl))
  f151 := Tryz.func180.trans (congrArg some (by kernel_rfl))
  f152 := Tryz.func192.trans (congrArg some (by kernel_rfl))
  f160 := Tryz.func167.trans (congrArg some (by kernel_rfl))
  f197 := Tryz.func191.trans (congrArg some (by kernel_rfl))
  f217 := Tryz.func156.trans (congrArg some (by kernel_rfl))
  f224 := Tryz.func194.trans (congrArg some (by kernel_rfl))
  f225 := Tryz.func193.trans (congrArg some (by kernel_rfl))
  f227 := Tryz.func162.trans (congrArg some (by kernel_rfl))
  f228 := Tryz.func178.trans (congrArg some (by kernel_rfl))
  f231 := Tryz.func182.trans (congrArg some (by kernel_rfl))
  f232 := Tryz.func161.trans (congrArg some (by kernel_rfl))
  f233 := Tryz.func183.trans (congrArg some (by kernel_rfl))
  f234 := Tryz.func163.trans (congrArg some (by kernel_rfl))
  f235 := Tryz.func184.trans (congrArg some (by kernel_rfl))
  f236 := Tryz.func164.trans (congrArg some (by kernel_rfl))
  f260 := Tryz.func203.trans (congrArg some (by kernel_rfl))
  f266 := Tryz.func172.trans (congrArg some (by kernel_rfl))
  f271 := Tryz.func179.trans (congrArg some (by kernel_rfl))
  t0 := Tryz.underlying0
  a0 := Tryz.isAgg0
  z0 := Tryz.sizeOf0
  v0 := Tryz.zeroValue0
  t3 := Tryz.underlying3
  a3 := Tryz.isAgg3
  z3 := Tryz.sizeOf3
  v3 := Tryz.zeroValue3
  t4 := Tryz.underlying4
  a4 := Tryz.isAgg4
  z4 := Tryz.sizeOf4
  v4 := Tryz.zeroValue4
  t5 := Tryz.underlying5
  a5 := Tryz.isAgg5
  z5 := Tryz.sizeOf5
  v5 := Tryz.zeroValue5
  t9 := Tryz.underlying9
  a9 := Tryz.isAgg9
  z9 := Tryz.sizeOf9
  v9 := Tryz.zeroValue9
  t21 := Tryz.underlying21
  a21 := Tryz.isAgg21
  z21 := Tryz.sizeOf21
  v21 := Tryz.zeroValue21
  t46 := Tryz.underlying161
  a46 := Tryz.isAgg161
  z46 := Tryz.sizeOf161
  v46 := Tryz.zeroValue161
  t105 := Tryz.underlying227
  a105 := Tryz.isAgg227
  z105 := Tryz.sizeOf227
  v105 := Tryz.zeroValue227
  t116 := Tryz.underlying216
  a116 := Tryz.isAgg216
  z116 := Tryz.sizeOf216
  t117 := Tryz.underlying217
  a117 := Tryz.isAgg217
  z117 := Tryz.sizeOf217
  v117 := Tryz.zeroValue217
  t119 := Tryz.underlying250
  a119 := Tryz.isAgg250
  z119 := Tryz.sizeOf250
  t124 := Tryz.underlying220
  a124 := Tryz.isAgg220
  z124 := Tryz.sizeOf220
  v124 := Tryz.zeroValue220
  t138 := Tryz.underlying252
  a138 := Tryz.isAgg252
  z138 := Tryz.sizeOf252
  v138 := Tryz.zeroValue252
  t139 := Tryz.underlying253
  a139 := Tryz.isAgg253
  z139 := Tryz.sizeOf253
  v139 := Tryz.zeroValue253
  g3 := by kernel_rfl
  g4 := by kernel_rfl }
def f667F (k : Nat) (x : ByteArray × ByteArray) : Option ByteArray :=
  match x.2.data.toList with
  | [c] => bif (decide (c.toNat < 128) && decide (x.1.size ≤ 9223372036854775807)) then some ⟨(Lib.trimB x.1.data.toList c).toArray⟩ else none
  | _ => none
theorem f667B : HasBody Go.Proofs.Tryz.prog 167 := ⟨Go.Proofs.Tryz.f167, Go.Proofs.Tryz.func167, by kernel_rfl, by kernel_rfl⟩
theorem f667Ok (k : Nat) (x : ByteArray × ByteArray) (y : ByteArray) (h : f667F k x = some y) : FnOk Go.Proofs.Tryz.prog 167 [.dat .str, .dat .str] [.dat .str] x y := by
  obtain ⟨s, t⟩ := x
  unfold f667F at h
  simp only [] at h
  split at h
  · rename_i c hc
    have ht := one_byte hc
    subst ht
    cases hcc : (decide (c.toNat < 128) && decide (s.size ≤ 9223372036854775807)) with
    | false => rw [hcc] at h; cases h
    | true =>
      rw [hcc] at h
      cases h
      simp only [Bool.and_eq_true, decide_eq_true_eq] at hcc
      obtain ⟨hlt, hs⟩ := hcc
      refine same_ok (.string ⟨(Lib.trimB s.data.toList c).toArray⟩) rfl (fun _ _ _ => rfl) fun γ F w vals _ hvals => ?_
      match vals, hvals with
      | [a, b], ⟨ha, hb, _⟩ =>
        have ha : a = .string s := ha
        have hb : b = .string ⟨#[c]⟩ := hb
        subst ha hb
        exact drew_world (Any.strings_Trim_one lays160 s c hlt w hs)
  · cases h
def lays144_ren : Go.Shelf.Ren := ⟨fun | 144 => 144 | 143 => 165 | 219 => 181 | 217 => 156 | 225 => 193 | 224 => 194 | 267 => 195 | 266 => 172 | 314 => 205 | n => n, fun | 9 => 9 | 4 => 4 | 3 => 3 | 5 => 5 | 46 => 161 | 146 => 206 | 51 => 205 | n => n, fun | 1 => 0 | n => n⟩
theorem lays144 : Go.Proofs.Lays.n144 Tryz.prog lays144_ren := {
  mixed := by kernel_rfl
  f143 := Tryz.func165.trans (congrArg some (by kernel_rfl))
  f144 := Tryz.func144.trans (congrArg some (by kernel_rfl))
  f217 := Tryz.func156.trans (congrArg some (by kernel_rfl))
  f219 := Tryz.func181.trans (congrArg some (by kernel_rfl))
  f224 := Tryz.func194.trans (congrArg some (by kernel_rfl))
  f225 := Tryz.func193.trans (congrArg some (by kernel_rfl))
  f266 := Tryz.func172.trans (congrArg some (by kernel_rfl))
  f267 := Tryz.func195.trans (congrArg some (by kernel_rfl))
  f314 := Tryz.func205.trans (congrArg some (by kernel_rfl))
  t3 := Tryz.underlying3
  a3 := Tryz.isAgg3
  z3 := Tryz.sizeOf3
  v3 := Tryz.zeroValue3
  t4 := Tryz.underlying4
  a4 := Tryz.isAgg4
  z4 := Tryz.sizeOf4
  v4 := Tryz.zeroValue4
  t5 := Tryz.underlying5
  a5 := Tryz.isAgg5
  z5 := Tryz.sizeOf5
  v5 := Tryz.zeroValue5
  t9 := Tryz.underlying9
  a9 := Tryz.isAgg9
  z9 := Tryz.sizeOf9
  v9 := Tryz.zeroValue9
  t46 := Tryz.underlying161
  a46 := Tryz.isAgg161
  z46 := Tryz.sizeOf161
  v46 := Tryz.zeroValue161
  t51 := Tryz.underlying205
  a51 := Tryz.isAgg205
  z51 := Tryz.sizeOf205
  v51 := Tryz.zeroValue205
  t146 := Tryz.underlying206
  a146 := Tryz.isAgg206
  z146 := Tryz.sizeOf206
  v146 := Tryz.zeroValue206
  g1 := by kernel_rfl }
def f644F (k : Nat) (x : ByteArray × ByteArray) : Option Bool :=
  match x.2.data.toList with
  | [c] => some (decide (0 ≤ Lib.indexByte x.1.data.toList c))
  | _ => none
theorem f644B : HasBody Go.Proofs.Tryz.prog 144 := ⟨Go.Proofs.Tryz.f144, Go.Proofs.Tryz.func144, by kernel_rfl, by kernel_rfl⟩
theorem f644Ok (k : Nat) (x : ByteArray × ByteArray) (y : Bool) (h : f644F k x = some y) : FnOk Go.Proofs.Tryz.prog 144 [.dat .str, .dat .str] [.dat .bool] x y := by
  obtain ⟨s, t⟩ := x
  unfold f644F at h
  simp only [] at h
  split at h
  · rename_i c hc
    have ht := one_byte hc
    subst ht
    cases h
    refine same_ok (.bool (decide (0 ≤ Lib.indexByte s.data.toList c))) rfl (fun _ _ _ => rfl) fun γ F w vals _ hvals => ?_
    match vals, hvals with
    | [a, b], ⟨ha, hb, _⟩ =>
      have ha : a = .string s := ha
      have hb : b = .string ⟨#[c]⟩ := hb
      subst ha hb
      exact same_world (Any.strings_Contains_one lays144 s c w)
  · cases h
def lays105_ren : Go.Shelf.Ren := ⟨fun | 105 => 98 | 212 => 131 | 99 => 132 | 165 => 133 | 166 => 122 | 170 => 134 | 169 => 123 | 263 => 151 | 264 => 152 | 206 => 153 | 240 => 149 | 241 => 154 | 276 => 168 | 277 => 170 | n => n, fun | 9 => 9 | 3 => 3 | 4 => 4 | 20 => 20 | 0 => 0 | 46 => 161 | 109 => 189 | 5 => 5 | 72 => 174 | 76 => 180 | 51 => 205 | 146 => 206 | 53 => 208 | 148 => 209 | 70 => 172 | 37 => 104 | 75 => 179 | 127 => 201 | 164 => 223 | 80 => 168 | n => n, fun | n => n⟩
theorem lays105 : Go.Proofs.Lays.n105 Tryz.prog lays105_ren := {
  mixed := by kernel_rfl
  f99 := Tryz.func132.trans (congrArg some (by kernel_rfl))
  f105 := Tryz.func98.trans (congrArg some (by kernel_rfl))
  f165 := Tryz.func133.trans (congrArg some (by kernel_rfl))
  f166 := Tryz.func122.trans (congrArg some (by kernel_rfl))
  f169 := Tryz.func123.trans (congrArg some (by kernel_rfl))
  f170 := Tryz.func134.trans (congrArg some (by kernel_rfl))
  f206 := Tryz.func153.trans (congrArg some (by kernel_rfl))
  f212 := Tryz.func131.trans (congrArg some (by kernel_rfl))
  f240 := Tryz.func149.trans (congrArg some (by kernel_rfl))
  f241 := Tryz.func154.trans (congrArg some (by kernel_rfl))
  f263 := Tryz.func151.trans (congrArg some (by kernel_rfl))
  f264 := Tryz.func152.trans (congrArg some (by kernel_rfl))
  f276 := Tryz.func168.trans (congrArg some (by kernel_rfl))
  f277 := Tryz.func170.trans (congrArg some (by kernel_rfl))
  t0 := Tryz.underlying0
  a0 := Tryz.isAgg0
  z0 := Tryz.sizeOf0
  v0 := Tryz.zeroValue0
  t3 := Tryz.underlying3
  a3 := Tryz.isAgg3
  z3 := Tryz.sizeOf3
  v3 := Tryz.zeroValue3
  t4 := Tryz.underlying4
  a4 := Tryz.isAgg4
  z4 := Tryz.sizeOf4
  v4 := Tryz.zeroValue4
  t5 := Tryz.underlying5
  a5 := Tryz.isAgg5
  z5 := Tryz.sizeOf5
  v5 := Tryz.zeroValue5
  t9 := Tryz.underlying9
  a9 := Tryz.isAgg9
  z9 := Tryz.sizeOf9
  v9 := Tryz.zeroValue9
  t20 := Tryz.underlying20
  a20 := Tryz.isAgg20
  z20 := Tryz.sizeOf20
  v20 := Tryz.zeroValue20
  t37 := Tryz.underlying104
  a37 := Tryz.isAgg104
  z37 := Tryz.sizeOf104
  v37 := Tryz.zeroValue104
  t46 := Tryz.underlying161
  a46 := Tryz.isAgg161
  z46 := Tryz.sizeOf161
  v46 := Tryz.zeroValue161
  t51 := Tryz.underlying205
  a51 := Tryz.isAgg205
  z51 := Tryz.sizeOf205
  v51 := Tryz.zeroValue205
  t53 := Tryz.underlying208
  a53 := Tryz.isAgg208
  z53 := Tryz.sizeOf208
  v53 := Tryz.zeroValue208
  t70 := Tryz.underlying172
  a70 := Tryz.isAgg172
  z70 := Tryz.sizeOf172
  v70 := Tryz.zeroValue172
  t72 := Tryz.underlying174
  a72 := Tryz.isAgg174
  z72 := Tryz.sizeOf174
  v72 := Tryz.zeroValue174
  t75 := Tryz.underlying179
  a75 := Tryz.isAgg179
  z75 := Tryz.sizeOf179
  v75 := Tryz.zeroValue179
  t76 := Tryz.underlying180
  a76 := Tryz.isAgg180
  z76 := Tryz.sizeOf180
  v76 := Tryz.zeroValue180
  t109 := Tryz.underlying189
  a109 := Tryz.isAgg189
  z109 := Tryz.sizeOf189
  v109 := Tryz.zeroValue189
  t127 := Tryz.underlying201
  a127 := Tryz.isAgg201
  z127 := Tryz.sizeOf201
  v127 := Tryz.zeroValue201
  t146 := Tryz.underlying206
  a146 := Tryz.isAgg206
  z146 := Tryz.sizeOf206
  v146 := Tryz.zeroValue206
  t148 := Tryz.underlying209
  a148 := Tryz.isAgg209
  z148 := Tryz.sizeOf209
  v148 := Tryz.zeroValue209
  t164 := Tryz.underlying223
  a164 := Tryz.isAgg223
  z164 := Tryz.sizeOf223
  v164 := Tryz.zeroValue223 }
theorem extra105 : Builder.Extra Tryz.prog lays105_ren := {
  sizeBuilder := by kernel_rfl
  liesBuilder := by kernel_rfl
  t5 := Tryz.underlying5
  a5 := Tryz.isAgg5
  z5 := Tryz.sizeOf5
  v5 := Tryz.zeroValue5
  infoByte := by kernel_rfl
  cellsByte := by kernel_rfl
  sizeByte := by kernel_rfl
  neB5 := by decide }
def f73F (k : Nat) (x : ByteArray × Int) : Option ByteArray :=
  bif decide (0 ≤ x.2) && (decide (x.2 ≤ 9223372036854775807) && decide ((x.1.size : Int) * x.2 ≤ 140737488355328)) then some ⟨(Lib.repeatL x.1.data.toList x.2.toNat).toArray⟩ else none
theorem f73B : HasBody Go.Proofs.Tryz.prog 98 := ⟨Go.Proofs.Tryz.f98, Go.Proofs.Tryz.func98, by kernel_rfl, by kernel_rfl⟩
theorem f73Ok (k : Nat) (x : ByteArray × Int) (y : ByteArray) (h : f73F k x = some y) : FnOk Go.Proofs.Tryz.prog 98 [.dat .str, .dat (.int .i64)] [.dat .str] x y := by
  obtain ⟨s, c⟩ := x
  unfold f73F at h
  cases hc : (decide (0 ≤ c) && (decide (c ≤ 9223372036854775807) && decide ((s.size : Int) * c ≤ 140737488355328))) with
  | false => rw [hc] at h; cases h
  | true =>
    rw [hc] at h
    simp only [Bool.and_eq_true, decide_eq_true_eq] at hc
    obtain ⟨c0, c1, c2⟩ := hc
    obtain ⟨C, rfl⟩ : ∃ C : Nat, c = C := ⟨c.toNat, by omega⟩
    have hy : y = ⟨(Lib.repeatL s.data.toList C).toArray⟩ := by
      simp only [cond_true, Int.toNat_natCast] at h
      exact (Option.some.inj h).symm
    subst hy
    have hlen : s.size * C ≤ 140737488355328 := by
      have e : (s.size : Int) * (C : Int) = ((s.size * C : Nat) : Int) := by simp
      omega
    refine same_ok (.string ⟨(Lib.repeatL s.data.toList C).toArray⟩) rfl (fun _ _ _ => rfl) fun γ F w vals _ hvals => ?_
    match vals, hvals with
    | [a, b], ⟨ha, hb, _⟩ =>
      have ha : a = .string s := ha
      have hb : b = .int .i64 (C : Int) := hb
      subst ha hb
      exact Any.strings_Repeat lays105 extra105 s C w (by omega) hlen
def lays169_ren : Go.Shelf.Ren := ⟨fun | 169 => 123 | n => n, fun | 70 => 172 | 9 => 9 | 0 => 0 | 72 => 174 | 37 => 104 | 127 => 201 | 3 => 3 | 5 => 5 | n => n, fun | n => n⟩
theorem lays169 : Go.Proofs.Lays.n169 Tryz.prog lays169_ren := {
  mixed := by kernel_rfl
  f169 := Tryz.func123.trans (congrArg some (by kernel_rfl))
  t0 := Tryz.underlying0
  a0 := Tryz.isAgg0
  z0 := Tryz.sizeOf0
  v0 := Tryz.zeroValue0
  t3 := Tryz.underlying3
  a3 := Tryz.isAgg3
  z3 := Tryz.sizeOf3
  v3 := Tryz.zeroValue3
  t9 := Tryz.underlying9
  a9 := Tryz.isAgg9
  z9 := Tryz.sizeOf9
  v9 := Tryz.zeroValue9
  t37 := Tryz.underlying104
  a37 := Tryz.isAgg104
  z37 := Tryz.sizeOf104
  v37 := Tryz.zeroValue104
  t70 := Tryz.underlying172
  a70 := Tryz.isAgg172
  z70 := Tryz.sizeOf172
  v70 := Tryz.zeroValue172
  t72 := Tryz.underlying174
  a72 := Tryz.isAgg174
  z72 := Tryz.sizeOf174
  v72 := Tryz.zeroValue174
  t127 := Tryz.underlying201
  a127 := Tryz.isAgg201
  z127 := Tryz.sizeOf201
  v127 := Tryz.zeroValue201 }
theorem extra169 : Builder.Extra Tryz.prog lays169_ren := {
  sizeBuilder := by kernel_rfl
  liesBuilder := by kernel_rfl
  t5 := Tryz.underlying5
  a5 := Tryz.isAgg5
  z5 := Tryz.sizeOf5
  v5 := Tryz.zeroValue5
  infoByte := by kernel_rfl
  cellsByte := by kernel_rfl
  sizeByte := by kernel_rfl
  neB5 := by decide }
def bcE : List AV → Store → Res := copyCheckE 174
theorem bc_ok : EntOk Go.Proofs.Tryz.prog 149 bcE := copyCheck_ok (ρ := lays105_ren) { lays105 with } extra105.toX72
def bsE : List AV → Store → Res := bldStringE 174 5
theorem bs_ok : EntOk Go.Proofs.Tryz.prog 123 bsE := bldString_ok (ρ := lays169_ren) lays169 extra169
end Go.Proofs.YtobgkcamonlnkaaGreatDoor
