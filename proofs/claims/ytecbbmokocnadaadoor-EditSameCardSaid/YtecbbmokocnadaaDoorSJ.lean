/- strings.Builder: its copyCheck and its String, told of variables and rows: over any program that bears the shelf's closures. -/
import Derived.Test.YtecbbmokocnadaaDoorAB
import Derived.Shelf.Strings.Builder1
import Derived.Test.YtecbbmokocnadaaDoorProg
import Derived.Shelf.LaysM
import Derived.Shelf.Small.Strs
import Derived.Shelf.Strings.Count
import Derived.Shelf.Strings.IndexAnyAll
import Derived.Shelf.Strings.Repeat
import Derived.Shelf.Strings.Replace
import Derived.Shelf.Strings.Trim
/-! strings.Builder's copyCheck and String, told of variables and rows. -/
set_option linter.unusedVariables false
set_option linter.unusedSimpArgs false
namespace Go.Proofs
open Go.Shelf Go.RowKit
variable {P : Program} {ρ : Ren}

theorem addr_add' (g j : Nat) : (⟨g, 0, none⟩ : Addr).add j = ⟨g, j, none⟩ := by
  cases j <;> simp [Addr.add]

set_option maxHeartbeats 1000000 in
set_option maxRecDepth 100000 in
theorem bld_string (L : Lays.n169 P ρ) (X : Builder.Extra P ρ) (b g cap : Nat) (p : Value) (cur : Array Value) (l : List UInt8) (w : World) (hbk : w.heap[b]? = some (.cells #[p, .slice (some ⟨g, 0, none⟩) l.length cap] (ρ.t 72) (0, 0)))
    (hg : w.heap[g]? = some (.cells cur (ρ.t 5) (0, 0))) (hnc : l.length ≤ cap) (hcm : cap ≤ maxLen) (hcs : cur.size = cap) (htake : cur.toList.take l.length = l.map fun b => Value.int .u8 b.toNat) (h0 : l ≠ []) :
    Calls P (ρ.f 169) #[.pointer (some ⟨b, 0, none⟩)] w fun e w' => e = .returned (.string ⟨l.toArray⟩) ∧ w' = w.drew.freeze ⟨g, 0, none⟩ l.length := by
  have hl0 : l.length ≠ 0 := by simpa using h0
  have c1 : w.drew.cell? ⟨b, 1, none⟩ = some (.slice (some ⟨g, 0, none⟩) l.length cap) := by
    have : w.drew.heap[b]? = some (.cells #[p, .slice (some ⟨g, 0, none⟩) l.length cap] (ρ.t 72) (0, 0)) := hbk
    rw [Lib.cell_of_heap this]; rfl
  have hSD : (Builtin.unsafeSliceData_ #[(ρ.t 37)] (ρ.t 127) #[.slice (some ⟨g, 0, none⟩) l.length cap]).run P w.drew = .ok (.pointer (some ⟨g, 0, none⟩)) w.drew :=
    Lib.run_unsafeSliceData_row _ _ _ _ _ _ (by omega)
  have hUS : (Builtin.unsafeString_ #[(ρ.t 127), (ρ.t 3)] (ρ.t 9) #[.pointer (some ⟨g, 0, none⟩), .int .i64 l.length]).run P w.drew = .ok (.string ⟨l.toArray⟩) (w.drew.freeze ⟨g, 0, none⟩ l.length) := by
    have hg' : w.drew.heap[g]? = some (.cells cur (ρ.t 5) (0, 0)) := hg
    refine Lib.run_unsafeString_row w.drew (ρ.t 127) (ρ.t 3) (ρ.t 9) (ρ.t 5) L.t127 X.cellsByte g cur.size (by simp [World.shape?, hg']) l h0 (by omega) (by unfold maxLen at hcm; omega) ?_
    intro j x hx
    rw [addr_add', Lib.cell_of_heap hg']
    have hj : j < l.length := (List.getElem?_eq_some_iff.1 hx).1
    have := congrArg (fun m => m[j]?) htake
    simp only [List.getElem?_take, if_pos hj, List.getElem?_map, hx, Option.map_some] at this
    simpa using this
  have mixed := L.mixed
  have t72 := L.t72; have a72 := L.a72; have z72 := L.z72; have v72 := L.v72; have u72 := run_underlying L.t72
  have t70 := L.t70; have a70 := L.a70; have z70 := L.z70; have v70 := L.v70; have u70 := run_underlying L.t70
  have t37 := L.t37; have a37 := L.a37; have z37 := L.z37; have v37 := L.v37; have u37 := run_underlying L.t37
  have t127 := L.t127; have a127 := L.a127; have z127 := L.z127; have v127 := L.v127; have u127 := run_underlying L.t127
  have t3 := L.t3; have a3 := L.a3; have z3 := L.z3; have v3 := L.v3; have u3 := run_underlying L.t3
  have t9 := L.t9; have a9 := L.a9; have z9 := L.z9; have v9 := L.v9; have u9 := run_underlying L.t9
  have t5 := X.t5; have a5 := X.a5; have z5 := X.z5; have v5 := X.v5; have u5 := run_underlying X.t5
  go_enter L.f169, Body.n169_ntmps ρ
  go_wp2
  go_region_o
  all_goals (go_wp2; go_ret; exact ⟨rfl, rfl⟩)

set_option maxHeartbeats 2000000 in
set_option maxRecDepth 100000 in
theorem bld_string_nil (L : Lays.n169 P ρ) (X : Builder.Extra P ρ) (b : Nat) (p : Value) (w : World) (hbk : w.heap[b]? = some (.cells #[p, .slice none 0 0] (ρ.t 72) (0, 0))) :
    Calls P (ρ.f 169) #[.pointer (some ⟨b, 0, none⟩)] w fun e w' => e = .returned (.string ⟨#[]⟩) ∧ w' = w.drew := by
  have hUS := Any.unsafeString_none L X
  have c1 : w.drew.cell? ⟨b, 1, none⟩ = some (.slice none 0 0) := by
    have : w.drew.heap[b]? = some (.cells #[p, .slice none 0 0] (ρ.t 72) (0, 0)) := hbk
    rw [Lib.cell_of_heap this]; rfl
  have hSD : (Builtin.unsafeSliceData_ #[(ρ.t 37)] (ρ.t 127) #[.slice none 0 0]).run P w.drew = .ok (.pointer none) w.drew := rfl
  have mixed := L.mixed
  have t72 := L.t72; have a72 := L.a72; have z72 := L.z72; have v72 := L.v72; have u72 := run_underlying L.t72
  have t70 := L.t70; have a70 := L.a70; have z70 := L.z70; have v70 := L.v70; have u70 := run_underlying L.t70
  have t37 := L.t37; have a37 := L.a37; have z37 := L.z37; have v37 := L.v37; have u37 := run_underlying L.t37
  have t127 := L.t127; have a127 := L.a127; have z127 := L.z127; have v127 := L.v127; have u127 := run_underlying L.t127
  have t3 := L.t3; have a3 := L.a3; have z3 := L.z3; have v3 := L.v3; have u3 := run_underlying L.t3
  have t9 := L.t9; have a9 := L.a9; have z9 := L.z9; have v9 := L.v9; have u9 := run_underlying L.t9
  have t5 := X.t5; have a5 := X.a5; have z5 := X.z5; have v5 := X.v5; have u5 := run_underlying X.t5
  go_enter L.f169, Body.n169_ntmps ρ
  go_wp2
  go_region_o
  all_goals (go_wp2; go_ret; exact ⟨rfl, rfl⟩)
end Go.Proofs

namespace Go.Ab
open Go.Shelf Go.Proofs

/-- What copyCheck does to a builder of type T. -/
def copyCheckE (T : Nat) (args : List AV) (S : Store) : Res := match args with
  | [.v (.one (.ptr t 0))] => match look S t with
    | some (.var E [.nil .ptr, c]) => bif Nat.beq E T then .ok (.tup []) (upd S t (.var E [.ptr t 0, c])) else .fail
    | some (.var E [.ptr t' 0, c]) => bif Nat.beq t' t then .ok (.tup []) S else .fail
    | _ => .fail
  | _ => .fail
def rowU8 (E : Nat) : Blk → Option (List Int)
  | .row E' (.int .u8) .plain xs => bif Nat.beq E' E then some xs else none
  | _ => none
theorem rowU8_eq {E : Nat} {x : Blk} {xs : List Int} (h : rowU8 E x = some xs) : x = .row E (.int .u8) .plain xs := by
  unfold rowU8 at h
  split at h
  · rename_i E' ys
    obtain ⟨h1, h2⟩ := bif_some (x := some ys) h
    simp only [Nat.beq_eq] at h1
    injection h2 with h2
    rw [h1, h2]
  · cases h
/-- What String answers of a builder of type T, its bytes of type E. -/
def bldStringE (T E : Nat) (args : List AV) (S : Store) : Res := match args with
  | [.v (.one (.ptr t 0))] => match look S t with
    | some (.var T' [_, .emp]) => bif Nat.beq T' T then .ok (one (.str ByteArray.empty)) S else .fail
    | some (.var T' [_, .own r]) => bif Nat.beq T' T then (match (look S r).bind (rowU8 E) with
      | some xs => .chk (!xs.isEmpty && xs.all fun x => decide (0 ≤ x) && decide (x ≤ 255)) (one (.str (strOfNums xs))) (upd S r (.row E (.int .u8) .frz xs))
      | none => .fail) else .fail
    | _ => .fail
  | _ => .fail

theorem Post.drewW {fr : Nat} {γ : Nat → G} {F : Nat → Prop} {w : World} {S : Store} (h : Inv F γ S w) : Post fr γ F w S γ F w.drew S :=
  ⟨rfl, rfl, rfl, Nat.le_refl _, fun _ _ _ => rfl, fun _ _ => rfl, fun _ h => h, fun _ h => .inl h, fun _ h => .inl h, fun _ _ => rfl,
    ⟨fun t x hx => (h.blk t x hx).lasts ⟨fun _ h => h, fun _ _ => rfl⟩ rfl (fun _ _ => rfl) fun _ _ => ⟨rfl, id⟩, h.inj, ⟨h.fz.lt, h.fz.gnd.mono (fun _ h => h) fun _ _ => rfl⟩⟩⟩

/-- A row whose cells the model has frozen. -/
theorem Post.turnFrz {fr : Nat} {γ : Nat → G} {F : Nat → Prop} {w w' : World} {S : Store} {tok b E : Nat} {e : Ty} {m : RowK} {xs : List e.den} (hI : Inv F γ S w) (hS : look S tok = some (.row E e m xs)) (hb : (γ tok).blk = some b) (hF : ¬ F b) (h : Turned w w' b)
    (hc : ∀ cur fz, w.heap[b]? = some (.cells cur E fz) → ∃ fz', w'.heap[b]? = some (.cells cur E fz')) : Post fr γ F w S γ (fun c => F c ∨ c = b) w' (upd S tok (.row E e .frz xs)) := by
  have hl : Lasts F (fun c => F c ∨ c = b) w w' := ⟨fun _ h => .inl h, fun c hc => h.old c fun e => hF (e ▸ hc)⟩
  have hHas : ∀ t, Has (upd S tok (.row E e .frz xs)) t → Has S t := by
    rintro t ⟨z, hz⟩
    rw [look_upd] at hz
    split at hz
    · rename_i e; subst e; exact ⟨_, hS⟩
    · exact ⟨z, hz⟩
  have hrow : RowOk F (γ tok) w E e m xs := hI.blk tok _ hS
  refine ⟨h.os, h.tape, h.output, Nat.le_of_eq h.size.symm, fun c hc hm => h.old c fun e => hm ⟨tok, ⟨_, hS⟩, by rw [e]; exact hb⟩, fun _ _ => rfl, fun _ h => .inl h, fun c hc => ?_, ?_, fun c hc => hl.heap c hc, ?_⟩
  · rcases hc with hc | rfl
    · exact .inl hc
    · exact .inr (.inl ⟨tok, ⟨_, hS⟩, hb⟩)
  · rintro c ⟨t, ht, hc⟩
    exact .inl ⟨t, hHas t ht, hc⟩
  · refine ⟨fun t z hz => ?_, fun t t' c ht ht' => hI.inj t t' c (hHas t ht) (hHas t' ht'), ⟨fun c hc => ?_, hI.fz.gnd.mono (fun _ h => .inl h) hl.heap⟩⟩
    · rw [look_upd] at hz
      split at hz
      · rename_i e1
        subst e1
        injection hz with hz
        subst hz
        obtain ⟨h1, h2, h3⟩ := hrow
        refine ⟨h1, h2, ?_⟩
        rcases h3 with h3 | ⟨b', cur, fz, flat, g1, g2, g3, g4, g5, g6, g7, g8⟩
        · rw [h3.1] at hb; cases hb
        · rw [g1] at hb
          injection hb with hb
          subst hb
          obtain ⟨fz', hfz⟩ := hc cur fz g2
          exact .inr ⟨b', cur, fz', flat, g1, hfz, g3, g4, g5, g6, g7.lasts hl, .inr rfl⟩
      · rename_i hne
        refine (hI.blk t z hz).lasts hl rfl (fun _ _ => rfl) fun c hc' => ⟨h.old c fun e => hne (hI.inj tok t b ⟨_, hS⟩ ⟨z, hz⟩ hb (e ▸ hc')), fun h => ?_⟩
        rcases h with h | h
        · exact h
        · subst h
          exact absurd (hI.inj tok t _ ⟨_, hS⟩ ⟨z, hz⟩ hb hc') hne
    · rcases hc with hc | rfl
      · rw [h.size]; exact hI.fz c hc
      · rw [h.size]; exact hI.mine_lt ⟨tok, ⟨_, hS⟩, hb⟩

theorem turned_setCell (w : World) (b : Nat) (v : Value) : Turned w (w.setCell ⟨b, 0, none⟩ v) b :=
  ⟨rfl, rfl, rfl, by simp [World.setCell], fun c hc => by simp only [World.setCell, Array.getElem?_modify]; rw [if_neg (fun e => hc e.symm)]⟩
theorem turned_freeze (w : World) (b n : Nat) : Turned w (w.drew.freeze ⟨b, 0, none⟩ n) b := by
  unfold World.freeze
  split
  · exact ⟨rfl, rfl, rfl, rfl, fun _ _ => rfl⟩
  · exact ⟨rfl, rfl, rfl, by simp, fun c hc => by
      simp only [Array.getElem?_modify]
      rw [if_neg (fun e => hc e.symm)]
      rfl⟩

/-- Bytes in a row, as the row's cells. -/
theorem flat_u8 {F : Nat → Prop} {w : World} : ∀ {xs : List Int} {l : List Value}, Flat F w (.int .u8) xs l → l = xs.map (Value.int .u8)
  | [], l, h => h
  | x :: xs, l, h => by
    obtain ⟨a, b, rfl, ha, hb⟩ := h
    have ha : a = [Value.int .u8 x] := ha
    rw [ha, flat_u8 hb]
    rfl

theorem u8_back {xs : List Int} (h : (xs.all fun x => decide (0 ≤ x) && decide (x ≤ 255)) = true) : xs.map (Value.int .u8) = (xs.map fun n => UInt8.ofNat n.toNat).map fun b => Value.int .u8 b.toNat := by
  rw [List.map_map]
  refine List.map_congr_left fun x hx => ?_
  have := List.all_eq_true.1 h x hx
  simp only [Bool.and_eq_true, decide_eq_true_eq] at this
  show Value.int .u8 x = Value.int .u8 ((UInt8.ofNat x.toNat).toNat : Int)
  rw [UInt8.toNat_ofNat']
  congr 1
  omega

section
variable {P : Program} {ρ : Ren}

theorem copyCheck_ok (L : Lays.n240 P ρ) (X : Builder.X72 P ρ) : EntOk P (ρ.f 240) (copyCheckE (ρ.t 72)) := by
  intro args S
  unfold copyCheckE
  split
  · rename_i t
    split
    · rename_i E c hS
      cases hE : Nat.beq E (ρ.t 72) with
      | false => trivial
      | true =>
        simp only [cond_true]
        have hE : E = ρ.t 72 := by simpa using hE
        subst hE
        intro γ F w vals hI hlt hal hA
        match vals, hA with
        | [v], ⟨hv, _⟩ =>
          obtain ⟨b, hb, rfl⟩ := hv
          obtain ⟨b', cur, h1, h2, h3, h4⟩ := hI.blk t _ hS
          rw [h1] at hb
          injection hb with hb
          subst hb
          obtain ⟨v0, v1, hcur⟩ : ∃ v0 v1, cur = #[v0, v1] := by
            obtain ⟨l⟩ := cur
            match l, h4 with
            | [v0, v1], _ => exact ⟨v0, v1, rfl⟩
          subst hcur
          obtain ⟨k0, k1, _⟩ := h4
          have k0 : v0 = .pointer none := k0
          subst k0
          refine (Any.Builder_copyCheck_fresh L X b' w (by rw [Lib.cell_of_heap h2]; rfl) (by simp [World.shape?, h2]) (by simp [World.frozen?, h2])).mono ?_
          rintro e w' ⟨rfl, rfl⟩
          refine ⟨_, γ, F, rfl, Post.write hI hS h1 h3 (turned_setCell _ _ _) ⟨b', #[.pointer (some ⟨b', 0, none⟩), v1], h1, ?_, h3, ⟨b', h1, rfl⟩, ?_, trivial⟩, ⟨[], rfl, trivial⟩⟩
          · simp only [World.setCell, Array.getElem?_modify]
            simp [h2]
          · exact RepC.lasts (F := F) (w := w) ⟨fun _ h => h, fun c hc => (turned_setCell w b' _).old c fun e => h3 (by rw [← e]; exact hc)⟩ (fun _ _ => rfl) k1
    · rename_i E t' c hS
      cases hE : Nat.beq t' t with
      | false => trivial
      | true =>
        simp only [cond_true]
        have hE : t' = t := by simpa using hE
        subst hE
        intro γ F w vals hI hlt hal hA
        match vals, hA with
        | [v], ⟨hv, _⟩ =>
          obtain ⟨b, hb, rfl⟩ := hv
          obtain ⟨b', cur, h1, h2, h3, h4⟩ := hI.blk t' _ hS
          rw [h1] at hb
          injection hb with hb
          subst hb
          obtain ⟨v0, v1, hcur⟩ : ∃ v0 v1, cur = #[v0, v1] := by
            obtain ⟨l⟩ := cur
            match l, h4 with
            | [v0, v1], _ => exact ⟨v0, v1, rfl⟩
          subst hcur
          obtain ⟨k0, k1, _⟩ := h4
          obtain ⟨b2, k0, k2⟩ := k0
          rw [h1] at k0
          injection k0 with k0
          subst k0
          subst k2
          refine (Any.Builder_copyCheck_used L X b' w (by rw [Lib.cell_of_heap h2]; rfl)).mono ?_
          rintro e w' ⟨rfl, rfl⟩
          exact ⟨_, γ, F, rfl, Post.same hI, ⟨[], rfl, trivial⟩⟩
    · trivial
  · trivial

theorem bldString_ok (L : Lays.n169 P ρ) (X : Builder.Extra P ρ) : EntOk P (ρ.f 169) (bldStringE (ρ.t 72) (ρ.t 5)) := by
  intro args S
  unfold bldStringE
  split
  · rename_i t
    split
    · rename_i T' c hS
      cases hE : Nat.beq T' (ρ.t 72) with
      | false => trivial
      | true =>
        simp only [cond_true]
        have hE : T' = ρ.t 72 := by simpa using hE
        subst hE
        intro γ F w vals hI hlt hal hA
        match vals, hA with
        | [v], ⟨hv, _⟩ =>
          obtain ⟨b, hb, rfl⟩ := hv
          obtain ⟨b', cur, h1, h2, h3, h4⟩ := hI.blk t _ hS
          rw [h1] at hb
          injection hb with hb
          subst hb
          obtain ⟨v0, v1, hcur⟩ : ∃ v0 v1, cur = #[v0, v1] := by
            obtain ⟨l⟩ := cur
            match l, h4 with
            | [v0, v1], _ => exact ⟨v0, v1, rfl⟩
          subst hcur
          obtain ⟨k0, k1, _⟩ := h4
          have k1 : v1 = .slice none 0 0 := k1
          subst k1
          refine (bld_string_nil L X b' v0 w h2).mono ?_
          rintro e w' ⟨rfl, rfl⟩
          exact ⟨_, γ, F, rfl, Post.drewW hI, rfl⟩
    · rename_i T' c r hS
      cases hE : Nat.beq T' (ρ.t 72) with
      | false => trivial
      | true =>
        simp only [cond_true]
        have hE : T' = ρ.t 72 := by simpa using hE
        subst hE
        split
        · rename_i xs hr
          obtain ⟨x, hx, hr2⟩ := Option.bind_eq_some_iff.1 hr
          have := rowU8_eq hr2
          subst this
          intro hc
          simp only [Bool.and_eq_true, Bool.not_eq_true', List.isEmpty_eq_false_iff] at hc
          obtain ⟨hne, hall⟩ := hc
          intro γ F w vals hI hlt hal hA
          match vals, hA with
          | [v], ⟨hv, _⟩ =>
            obtain ⟨b, hb, rfl⟩ := hv
            obtain ⟨b', cur, h1, h2, h3, h4⟩ := hI.blk t _ hS
            rw [h1] at hb
            injection hb with hb
            subst hb
            obtain ⟨v0, v1, hcur⟩ : ∃ v0 v1, cur = #[v0, v1] := by
              obtain ⟨l⟩ := cur
              match l, h4 with
              | [v0, v1], _ => exact ⟨v0, v1, rfl⟩
            subst hcur
            obtain ⟨k0, k1, _⟩ := h4
            have k1 : v1 = (γ r).val := k1
            have hrow : RowOk F (γ r) w (ρ.t 5) (.int .u8) .plain xs := hI.blk r _ hx
            obtain ⟨q1, q2, q3⟩ := hrow
            rcases q3 with q3 | ⟨g, gc, fz, flat, g1, g2, g3, g4, g5, g6, g7, g8⟩
            · exact absurd q3.2 hne
            · obtain ⟨g8, g9⟩ := g8
              subst g9
              have hlen : (xs.map fun n => UInt8.ofNat n.toNat).length = xs.length := by simp
              have hv1 : v1 = .slice (some ⟨g, 0, none⟩) (xs.map fun n => UInt8.ofNat n.toNat).length (γ r).cap := by
                rw [k1, hlen, ← q1]
                unfold G.val
                rw [g1]
              subst hv1
              have hflat := flat_u8 g7
              refine (bld_string L X b' g (γ r).cap v0 gc (xs.map fun n => UInt8.ofNat n.toNat) w h2 g2 (by rw [hlen]; exact g3) g4 (by simpa [Ty.size] using g5) ?_ (by simpa using hne)).mono ?_
              · rw [hlen, ← u8_back hall, ← hflat, ← g6]
                simp [Ty.size]
              · rintro e w' ⟨rfl, rfl⟩
                refine ⟨_, γ, _, rfl, Post.turnFrz hI hx g1 g8 (turned_freeze w g _) fun cur fz hcur => ?_, rfl⟩
                unfold World.freeze
                split
                · exact ⟨fz, hcur⟩
                · obtain ⟨lo, hi⟩ := fz
                  have hcur' : w.drew.heap[g]? = some (.cells cur (ρ.t 5) (lo, hi)) := hcur
                  exact ⟨_, (by simp only [Array.getElem?_modify, hcur', if_pos, Option.map_some]; rfl)⟩
        · trivial
    · trivial
  · trivial
end
end Go.Ab
/-! Functions of Go's library at this program. -/
set_option linter.unusedVariables false
namespace Go.Proofs.YtecbbmokocnadaaDoor
open Go.Shelf Go.Ab Go.RowKit
theorem same_ok {P : Program} {f : Nat} {sig : List ASh} {res : List RSh} {x : argDen sig} {y : resDen res} (u : Value) (hsto : resSto 0 res y = []) (hu : ∀ (γ : Nat → G) (F : Nat → Prop) (w : World), RepA γ F w (packV (resVals 0 res y)) u)
    (h : ∀ (γ : Nat → G) (F : Nat → Prop) (w : World) (vals : List Value), Frz F w → All2 (RepA γ F w) (argsV sig x) vals → Calls P f vals.toArray w fun e w' => e = .returned u ∧ Below w.heap.size w w') : FnOk P f sig res x y := by
  intro γ F w vals hF hvals
  refine (h γ F w vals hF hvals).mono fun e w' ⟨he, hw⟩ => ?_
  refine ⟨u, γ, F, he, ?_, hu γ F w'⟩
  rw [hsto]
  exact ⟨hw.os, hw.tape, hw.output, hw.size, fun b hb _ => hw.block b hb, fun _ _ => rfl, fun _ h => h, fun _ h => .inl h, fun b h => absurd h no_mine, fun b h => hw.block b (hF b h),
    ⟨fun t x hx => (by cases hx), fun t t' c ⟨x, hx⟩ => (by cases hx), ⟨fun b h => Nat.lt_of_lt_of_le (hF b h) hw.size, hF.gnd.mono (fun _ h => h) (fun b h => hw.block b (hF b h))⟩⟩⟩
theorem one_byte {s : ByteArray} {c : UInt8} (h : s.data.toList = [c]) : s = ⟨#[c]⟩ := by
  cases s with
  | mk d =>
    congr
    exact Array.ext' h
theorem same_world {P : Program} {f : Nat} {vals : Array Value} {w : World} {u : Value} (h : Calls P f vals w fun e w' => e = .returned u ∧ w' = w) : Calls P f vals w fun e w' => e = .returned u ∧ Below w.heap.size w w' :=
  h.mono fun e w' ⟨he, hw⟩ => by subst hw; exact ⟨he, Below.refl _ _⟩
def lays137_ren : Go.Shelf.Ren := ⟨fun | 137 => 66 | 217 => 89 | 266 => 108 | n => n, fun | 9 => 9 | 5 => 5 | 3 => 3 | n => n, fun | n => n⟩
theorem lays137 : Go.Proofs.Lays.n137 Tryd.prog lays137_ren := {
  mixed := by kernel_rfl
  f137 := Tryd.func66.trans (congrArg some (by kernel_rfl))
  f217 := Tryd.func89.trans (congrArg some (by kernel_rfl))
  f266 := Tryd.func108.trans (congrArg some (by kernel_rfl))
  t3 := Tryd.underlying3
  a3 := Tryd.isAgg3
  z3 := Tryd.sizeOf3
  v3 := Tryd.zeroValue3
  t5 := Tryd.underlying5
  a5 := Tryd.isAgg5
  z5 := Tryd.sizeOf5
  v5 := Tryd.zeroValue5
  t9 := Tryd.underlying9
  a9 := Tryd.isAgg9
  z9 := Tryd.sizeOf9
  v9 := Tryd.zeroValue9 }
/-- Where a byte stands in a string. -/
def f366F (k : Nat) (x : ByteArray × Int) : Option Int := some (Lib.indexByte x.1.data.toList x.2.toNat.toUInt8)
theorem f366B : HasBody Go.Proofs.Tryd.prog 66 := ⟨Go.Proofs.Tryd.f66, Go.Proofs.Tryd.func66, by kernel_rfl, by kernel_rfl⟩
theorem f366Ok (k : Nat) (x : ByteArray × Int) (y : Int) (h : f366F k x = some y) : FnOk Go.Proofs.Tryd.prog 66 [.dat .str, .dat (.int .u8)] [.dat (.int .i64)] x y := by
  obtain ⟨s, c⟩ := x
  unfold f366F at h
  cases h
  refine same_ok (.int .i64 (Lib.indexByte s.data.toList c.toNat.toUInt8)) rfl (fun _ _ _ => rfl) fun γ F w vals _ hvals => ?_
  match vals, hvals with
  | [a, b], ⟨ha, hb, _⟩ =>
    have ha : a = .string s := ha
    have hb : b = .int .u8 c := hb
    subst ha hb
    exact same_world (Any.strings_IndexByte lays137 s c w)
def lays153_ren : Go.Shelf.Ren := ⟨fun | 153 => 80 | 152 => 99 | 226 => 100 | 227 => 91 | 228 => 101 | 137 => 66 | 119 => 114 | 224 => 115 | 225 => 116 | 217 => 89 | 266 => 108 | n => n, fun | 9 => 9 | 3 => 3 | 4 => 4 | 5 => 5 | 21 => 21 | 117 => 123 | 116 => 122 | 0 => 0 | 46 => 127 | 124 => 126 | n => n, fun | n => n⟩
theorem lays153 : Go.Proofs.Lays.n153 Tryd.prog lays153_ren := {
  mixed := by kernel_rfl
  f119 := Tryd.func114.trans (congrArg some (by kernel_rfl))
  f137 := Tryd.func66.trans (congrArg some (by kernel_rfl))
  f152 := Tryd.func99.trans (congrArg some (by kernel_rfl))
  f153 := Tryd.func80.trans (congrArg some (by kernel_rfl))
  f217 := Tryd.func89.trans (congrArg some (by kernel_rfl))
  f224 := Tryd.func115.trans (congrArg some (by kernel_rfl))
  f225 := Tryd.func116.trans (congrArg some (by kernel_rfl))
  f226 := Tryd.func100.trans (congrArg some (by kernel_rfl))
  f227 := Tryd.func91.trans (congrArg some (by kernel_rfl))
  f228 := Tryd.func101.trans (congrArg some (by kernel_rfl))
  f266 := Tryd.func108.trans (congrArg some (by kernel_rfl))
  t0 := Tryd.underlying0
  a0 := Tryd.isAgg0
  z0 := Tryd.sizeOf0
  v0 := Tryd.zeroValue0
  t3 := Tryd.underlying3
  a3 := Tryd.isAgg3
  z3 := Tryd.sizeOf3
  v3 := Tryd.zeroValue3
  t4 := Tryd.underlying4
  a4 := Tryd.isAgg4
  z4 := Tryd.sizeOf4
  v4 := Tryd.zeroValue4
  t5 := Tryd.underlying5
  a5 := Tryd.isAgg5
  z5 := Tryd.sizeOf5
  v5 := Tryd.zeroValue5
  t9 := Tryd.underlying9
  a9 := Tryd.isAgg9
  z9 := Tryd.sizeOf9
  v9 := Tryd.zeroValue9
  t21 := Tryd.underlying21
  a21 := Tryd.isAgg21
  z21 := Tryd.sizeOf21
  v21 := Tryd.zeroValue21
  t46 := Tryd.underlying127
  a46 := Tryd.isAgg127
  z46 := Tryd.sizeOf127
  v46 := Tryd.zeroValue127
  t116 := Tryd.underlying122
  a116 := Tryd.isAgg122
  z116 := Tryd.sizeOf122
  t117 := Tryd.underlying123
  a117 := Tryd.isAgg123
  z117 := Tryd.sizeOf123
  v117 := Tryd.zeroValue123
  t124 := Tryd.underlying126
  a124 := Tryd.isAgg126
  z124 := Tryd.sizeOf126
  v124 := Tryd.zeroValue126 }
/-- Are all bytes of a string small? -/
def asciiB (s : ByteArray) : Bool := s.data.toList.all fun b => decide (b.toNat < 128)
theorem asciiB_get {s : ByteArray} (h : asciiB s = true) (j : Nat) (b : UInt8) (hb : s.data.toList[j]? = some b) : b.toNat < 128 := by
  have := List.all_eq_true.1 h b (List.mem_of_getElem? hb)
  simpa using this
/-- Where the first byte of some stands in a string. -/
def f380F (k : Nat) (x : ByteArray × ByteArray) : Option Int := bif (decide (x.1.size < 4294967281) && decide (x.2.size < 4294967281)) && (asciiB x.1 && asciiB x.2) then some (Lib.indexAny x.1.data.toList x.2.data.toList) else none
theorem f380B : HasBody Go.Proofs.Tryd.prog 80 := ⟨Go.Proofs.Tryd.f80, Go.Proofs.Tryd.func80, by kernel_rfl, by kernel_rfl⟩
theorem f380Ok (k : Nat) (x : ByteArray × ByteArray) (y : Int) (h : f380F k x = some y) : FnOk Go.Proofs.Tryd.prog 80 [.dat .str, .dat .str] [.dat (.int .i64)] x y := by
  obtain ⟨s, c⟩ := x
  unfold f380F at h
  cases hc : (decide (s.size < 4294967281) && decide (c.size < 4294967281)) && (asciiB s && asciiB c) with
  | false => rw [hc] at h; cases h
  | true =>
    rw [hc] at h
    cases h
    simp only [Bool.and_eq_true, decide_eq_true_eq] at hc
    obtain ⟨⟨c1, c2⟩, c3, c4⟩ := hc
    refine same_ok (.int .i64 (Lib.indexAny s.data.toList c.data.toList)) rfl (fun _ _ _ => rfl) fun γ F w vals _ hvals => ?_
    match vals, hvals with
    | [a, b], ⟨ha, hb, _⟩ =>
      have ha : a = .string s := ha
      have hb : b = .string c := hb
      subst ha hb
      exact Any.strings_IndexAny_laid lays153 (by kernel_rfl) s c w c1 c2 (asciiB_get c3) (asciiB_get c4)
def lays161_ren : Go.Shelf.Ren := ⟨fun | 161 => 73 | 231 => 90 | 227 => 91 | 233 => 92 | 235 => 93 | 228 => 101 | 197 => 109 | 151 => 110 | 260 => 121 | 152 => 99 | 137 => 66 | 119 => 114 | 224 => 115 | 225 => 116 | 217 => 89 | 266 => 108 | n => n, fun | 9 => 9 | 4 => 4 | 3 => 3 | 5 => 5 | 117 => 123 | 116 => 122 | 0 => 0 | 124 => 126 | 105 => 138 | 21 => 21 | 119 => 152 | 46 => 127 | 139 => 155 | 138 => 154 | n => n, fun | 3 => 1 | 4 => 2 | n => n⟩
theorem lays161 : Go.Proofs.Lays.n161 Tryd.prog lays161_ren := {
  mixed := by kernel_rfl
  f119 := Tryd.func114.trans (congrArg some (by kernel_rfl))
  f137 := Tryd.func66.trans (congrArg some (by kernel_rfl))
  f151 := Tryd.func110.trans (congrArg some (by kernel_rfl))
  f152 := Tryd.func99.trans (congrArg some (by kernel_rfl))
  f161 := Tryd.func73.trans (congrArg some (by kernel_rfl))
  f197 := Tryd.func109.trans (congrArg some (by kernel_rfl))
  f217 := Tryd.func89.trans (congrArg some (by kernel_rfl))
  f224 := Tryd.func115.trans (congrArg some (by kernel_rfl))
  f225 := Tryd.func116.trans (congrArg some (by kernel_rfl))
  f227 := Tryd.func91.trans (congrArg some (by kernel_rfl))
  f228 := Tryd.func101.trans (congrArg some (by kernel_rfl))
  f231 := Tryd.func90.trans (congrArg some (by kernel_rfl))
  f233 := Tryd.func92.trans (congrArg some (by kernel_rfl))
  f235 := Tryd.func93.trans (congrArg some (by kernel_rfl))
  f260 := Tryd.func121.trans (congrArg some (by kernel_rfl))
  f266 := Tryd.func108.trans (congrArg some (by kernel_rfl))
  t0 := Tryd.underlying0
  a0 := Tryd.isAgg0
  z0 := Tryd.sizeOf0
  v0 := Tryd.zeroValue0
  t3 := Tryd.underlying3
  a3 := Tryd.isAgg3
  z3 := Tryd.sizeOf3
  v3 := Tryd.zeroValue3
  t4 := Tryd.underlying4
  a4 := Tryd.isAgg4
  z4 := Tryd.sizeOf4
  v4 := Tryd.zeroValue4
  t5 := Tryd.underlying5
  a5 := Tryd.isAgg5
  z5 := Tryd.sizeOf5
  v5 := Tryd.zeroValue5
  t9 := Tryd.underlying9
  a9 := Tryd.isAgg9
  z9 := Tryd.sizeOf9
  v9 := Tryd.zeroValue9
  t21 := Tryd.underlying21
  a21 := Tryd.isAgg21
  z21 := Tryd.sizeOf21
  v21 := Tryd.zeroValue21
  t46 := Tryd.underlying127
  a46 := Tryd.isAgg127
  z46 := Tryd.sizeOf127
  v46 := Tryd.zeroValue127
  t105 := Tryd.underlying138
  a105 := Tryd.isAgg138
  z105 := Tryd.sizeOf138
  v105 := Tryd.zeroValue138
  t116 := Tryd.underlying122
  a116 := Tryd.isAgg122
  z116 := Tryd.sizeOf122
  t117 := Tryd.underlying123
  a117 := Tryd.isAgg123
  z117 := Tryd.sizeOf123
  v117 := Tryd.zeroValue123
  t119 := Tryd.underlying152
  a119 := Tryd.isAgg152
  z119 := Tryd.sizeOf152
  t124 := Tryd.underlying126
  a124 := Tryd.isAgg126
  z124 := Tryd.sizeOf126
  v124 := Tryd.zeroValue126
  t138 := Tryd.underlying154
  a138 := Tryd.isAgg154
  z138 := Tryd.sizeOf154
  v138 := Tryd.zeroValue154
  t139 := Tryd.underlying155
  a139 := Tryd.isAgg155
  z139 := Tryd.sizeOf155
  v139 := Tryd.zeroValue155
  g3 := by kernel_rfl
  g4 := by kernel_rfl }
/-- A string without some byte at its start. -/
def f373F (k : Nat) (x : ByteArray × ByteArray) : Option ByteArray :=
  match x.2.data.toList with
  | [c] => bif decide (c.toNat < 128) then some ⟨(Lib.trimLeftB x.1.data.toList c).toArray⟩ else none
  | _ => none
theorem f373B : HasBody Go.Proofs.Tryd.prog 73 := ⟨Go.Proofs.Tryd.f73, Go.Proofs.Tryd.func73, by kernel_rfl, by kernel_rfl⟩
theorem f373Ok (k : Nat) (x : ByteArray × ByteArray) (y : ByteArray) (h : f373F k x = some y) : FnOk Go.Proofs.Tryd.prog 73 [.dat .str, .dat .str] [.dat .str] x y := by
  obtain ⟨s, t⟩ := x
  unfold f373F at h
  simp only [] at h
  split at h
  · rename_i c hc
    have ht := one_byte hc
    subst ht
    by_cases hlt : c.toNat < 128
    · rw [decide_eq_true hlt] at h
      cases h
      refine same_ok (.string ⟨(Lib.trimLeftB s.data.toList c).toArray⟩) rfl (fun _ _ _ => rfl) fun γ F w vals _ hvals => ?_
      match vals, hvals with
      | [a, b], ⟨ha, hb, _⟩ =>
        have ha : a = .string s := ha
        have hb : b = .string ⟨#[c]⟩ := hb
        subst ha hb
        exact same_world (Any.strings_TrimLeft_one lays161 s c hlt w)
    · rw [decide_eq_false hlt] at h
      cases h
  · cases h
def lays138_ren : Go.Shelf.Ren := ⟨fun | 138 => 104 | 195 => 117 | 218 => 118 | 143 => 119 | 219 => 123 | 217 => 89 | 225 => 116 | 224 => 115 | 267 => 124 | 266 => 108 | 314 => 125 | n => n, fun | 9 => 9 | 3 => 3 | 4 => 4 | 5 => 5 | 0 => 0 | 46 => 127 | 146 => 142 | 51 => 141 | n => n, fun | 1 => 0 | n => n⟩
theorem lays138 : Go.Proofs.Lays.n138 Tryd.prog lays138_ren := {
  mixed := by kernel_rfl
  f138 := Tryd.func104.trans (congrArg some (by kernel_rfl))
  f143 := Tryd.func119.trans (congrArg some (by kernel_rfl))
  f195 := Tryd.func117.trans (congrArg some (by kernel_rfl))
  f217 := Tryd.func89.trans (congrArg some (by kernel_rfl))
  f218 := Tryd.func118.trans (congrArg some (by kernel_rfl))
  f219 := Tryd.func123.trans (congrArg some (by kernel_rfl))
  f224 := Tryd.func115.trans (congrArg some (by kernel_rfl))
  f225 := Tryd.func116.trans (congrArg some (by kernel_rfl))
  f266 := Tryd.func108.trans (congrArg some (by kernel_rfl))
  f267 := Tryd.func124.trans (congrArg some (by kernel_rfl))
  f314 := Tryd.func125.trans (congrArg some (by kernel_rfl))
  t0 := Tryd.underlying0
  a0 := Tryd.isAgg0
  z0 := Tryd.sizeOf0
  v0 := Tryd.zeroValue0
  t3 := Tryd.underlying3
  a3 := Tryd.isAgg3
  z3 := Tryd.sizeOf3
  v3 := Tryd.zeroValue3
  t4 := Tryd.underlying4
  a4 := Tryd.isAgg4
  z4 := Tryd.sizeOf4
  v4 := Tryd.zeroValue4
  t5 := Tryd.underlying5
  a5 := Tryd.isAgg5
  z5 := Tryd.sizeOf5
  v5 := Tryd.zeroValue5
  t9 := Tryd.underlying9
  a9 := Tryd.isAgg9
  z9 := Tryd.sizeOf9
  v9 := Tryd.zeroValue9
  t46 := Tryd.underlying127
  a46 := Tryd.isAgg127
  z46 := Tryd.sizeOf127
  v46 := Tryd.zeroValue127
  t51 := Tryd.underlying141
  a51 := Tryd.isAgg141
  z51 := Tryd.sizeOf141
  v51 := Tryd.zeroValue141
  t146 := Tryd.underlying142
  a146 := Tryd.isAgg142
  z146 := Tryd.sizeOf142
  v146 := Tryd.zeroValue142
  g1 := by kernel_rfl }
/-- How often a byte stands in a string. -/
def f404F (k : Nat) (x : ByteArray × ByteArray) : Option Int :=
  match x.2.data.toList with
  | [c] => some ((Lib.countByte x.1.data.toList c : Nat) : Int)
  | _ => none
theorem f404B : HasBody Go.Proofs.Tryd.prog 104 := ⟨Go.Proofs.Tryd.f104, Go.Proofs.Tryd.func104, by kernel_rfl, by kernel_rfl⟩
theorem f404Ok (k : Nat) (x : ByteArray × ByteArray) (y : Int) (h : f404F k x = some y) : FnOk Go.Proofs.Tryd.prog 104 [.dat .str, .dat .str] [.dat (.int .i64)] x y := by
  obtain ⟨s, t⟩ := x
  unfold f404F at h
  simp only [] at h
  split at h
  · rename_i c hc
    have ht := one_byte hc
    subst ht
    cases h
    refine same_ok (.int .i64 ((Lib.countByte s.data.toList c : Nat) : Int)) rfl (fun _ _ _ => rfl) fun γ F w vals _ hvals => ?_
    match vals, hvals with
    | [a, b], ⟨ha, hb, _⟩ =>
      have ha : a = .string s := ha
      have hb : b = .string ⟨#[c]⟩ := hb
      subst ha hb
      exact same_world (Any.strings_Count_one lays138 s c w)
  · cases h
def lays155_ren : Go.Shelf.Ren := ⟨fun | 155 => 85 | 154 => 106 | 138 => 104 | 165 => 95 | 143 => 119 | 166 => 96 | 197 => 109 | 169 => 87 | 195 => 117 | 218 => 118 | 240 => 107 | 241 => 113 | 219 => 123 | 260 => 121 | 276 => 120 | 277 => 122 | 217 => 89 | 225 => 116 | 224 => 115 | 267 => 124 | 266 => 108 | 314 => 125 | n => n, fun | 9 => 9 | 3 => 3 | 4 => 4 | 72 => 115 | 0 => 0 | 76 => 131 | 105 => 138 | 21 => 21 | 5 => 5 | 70 => 113 | 20 => 20 | 37 => 83 | 75 => 117 | 127 => 137 | 164 => 149 | 46 => 127 | 119 => 152 | 139 => 155 | 138 => 154 | 146 => 142 | 51 => 141 | 80 => 119 | n => n, fun | 1 => 0 | 3 => 1 | 4 => 2 | n => n⟩
theorem lays155 : Go.Proofs.Lays.n155 Tryd.prog lays155_ren := {
  mixed := by kernel_rfl
  f138 := Tryd.func104.trans (congrArg some (by kernel_rfl))
  f143 := Tryd.func119.trans (congrArg some (by kernel_rfl))
  f154 := Tryd.func106.trans (congrArg some (by kernel_rfl))
  f155 := Tryd.func85.trans (congrArg some (by kernel_rfl))
  f165 := Tryd.func95.trans (congrArg some (by kernel_rfl))
  f166 := Tryd.func96.trans (congrArg some (by kernel_rfl))
  f169 := Tryd.func87.trans (congrArg some (by kernel_rfl))
  f195 := Tryd.func117.trans (congrArg some (by kernel_rfl))
  f197 := Tryd.func109.trans (congrArg some (by kernel_rfl))
  f217 := Tryd.func89.trans (congrArg some (by kernel_rfl))
  f218 := Tryd.func118.trans (congrArg some (by kernel_rfl))
  f219 := Tryd.func123.trans (congrArg some (by kernel_rfl))
  f224 := Tryd.func115.trans (congrArg some (by kernel_rfl))
  f225 := Tryd.func116.trans (congrArg some (by kernel_rfl))
  f240 := Tryd.func107.trans (congrArg some (by kernel_rfl))
  f241 := Tryd.func113.trans (congrArg some (by kernel_rfl))
  f260 := Tryd.func121.trans (congrArg some (by kernel_rfl))
  f266 := Tryd.func108.trans (congrArg some (by kernel_rfl))
  f267 := Tryd.func124.trans (congrArg some (by kernel_rfl))
  f276 := Tryd.func120.trans (congrArg some (by kernel_rfl))
  f277 := Tryd.func122.trans (congrArg some (by kernel_rfl))
  f314 := Tryd.func125.trans (congrArg some (by kernel_rfl))
  t0 := Tryd.underlying0
  a0 := Tryd.isAgg0
  z0 := Tryd.sizeOf0
  v0 := Tryd.zeroValue0
  t3 := Tryd.underlying3
  a3 := Tryd.isAgg3
  z3 := Tryd.sizeOf3
  v3 := Tryd.zeroValue3
  t4 := Tryd.underlying4
  a4 := Tryd.isAgg4
  z4 := Tryd.sizeOf4
  v4 := Tryd.zeroValue4
  t5 := Tryd.underlying5
  a5 := Tryd.isAgg5
  z5 := Tryd.sizeOf5
  v5 := Tryd.zeroValue5
  t9 := Tryd.underlying9
  a9 := Tryd.isAgg9
  z9 := Tryd.sizeOf9
  v9 := Tryd.zeroValue9
  t20 := Tryd.underlying20
  a20 := Tryd.isAgg20
  z20 := Tryd.sizeOf20
  v20 := Tryd.zeroValue20
  t21 := Tryd.underlying21
  a21 := Tryd.isAgg21
  z21 := Tryd.sizeOf21
  v21 := Tryd.zeroValue21
  t37 := Tryd.underlying83
  a37 := Tryd.isAgg83
  z37 := Tryd.sizeOf83
  v37 := Tryd.zeroValue83
  t46 := Tryd.underlying127
  a46 := Tryd.isAgg127
  z46 := Tryd.sizeOf127
  v46 := Tryd.zeroValue127
  t51 := Tryd.underlying141
  a51 := Tryd.isAgg141
  z51 := Tryd.sizeOf141
  v51 := Tryd.zeroValue141
  t70 := Tryd.underlying113
  a70 := Tryd.isAgg113
  z70 := Tryd.sizeOf113
  v70 := Tryd.zeroValue113
  t72 := Tryd.underlying115
  a72 := Tryd.isAgg115
  z72 := Tryd.sizeOf115
  v72 := Tryd.zeroValue115
  t75 := Tryd.underlying117
  a75 := Tryd.isAgg117
  z75 := Tryd.sizeOf117
  v75 := Tryd.zeroValue117
  t76 := Tryd.underlying131
  a76 := Tryd.isAgg131
  z76 := Tryd.sizeOf131
  v76 := Tryd.zeroValue131
  t105 := Tryd.underlying138
  a105 := Tryd.isAgg138
  z105 := Tryd.sizeOf138
  v105 := Tryd.zeroValue138
  t119 := Tryd.underlying152
  a119 := Tryd.isAgg152
  z119 := Tryd.sizeOf152
  t127 := Tryd.underlying137
  a127 := Tryd.isAgg137
  z127 := Tryd.sizeOf137
  v127 := Tryd.zeroValue137
  t138 := Tryd.underlying154
  a138 := Tryd.isAgg154
  z138 := Tryd.sizeOf154
  v138 := Tryd.zeroValue154
  t139 := Tryd.underlying155
  a139 := Tryd.isAgg155
  z139 := Tryd.sizeOf155
  v139 := Tryd.zeroValue155
  t146 := Tryd.underlying142
  a146 := Tryd.isAgg142
  z146 := Tryd.sizeOf142
  v146 := Tryd.zeroValue142
  t164 := Tryd.underlying149
  a164 := Tryd.isAgg149
  z164 := Tryd.sizeOf149
  v164 := Tryd.zeroValue149
  g1 := by kernel_rfl
  g3 := by kernel_rfl
  g4 := by kernel_rfl }
theorem extra155 : Builder.Extra Tryd.prog lays155_ren := {
  sizeBuilder := by kernel_rfl
  liesBuilder := by kernel_rfl
  t5 := Tryd.underlying5
  a5 := Tryd.isAgg5
  z5 := Tryd.sizeOf5
  v5 := Tryd.zeroValue5
  infoByte := by kernel_rfl
  cellsByte := by kernel_rfl
  sizeByte := by kernel_rfl
  neB5 := by decide }
/-- A string with one string in the place of another one. -/
def f385F (k : Nat) (x : ByteArray × ByteArray × ByteArray) : Option ByteArray := bif decide (x.1.size < 4294967281) && (decide (1 ≤ x.2.1.size) && decide (x.1.size + Lib.countB x.1 x.2.1 * x.2.2.size ≤ 140737488355328)) then some ⟨(Lib.replaceAll x.1.data.toList x.2.1.data.toList x.2.2.data.toList).toArray⟩ else none
theorem f385B : HasBody Go.Proofs.Tryd.prog 85 := ⟨Go.Proofs.Tryd.f85, Go.Proofs.Tryd.func85, by kernel_rfl, by kernel_rfl⟩
theorem f385Ok (k : Nat) (x : ByteArray × ByteArray × ByteArray) (y : ByteArray) (h : f385F k x = some y) : FnOk Go.Proofs.Tryd.prog 85 [.dat .str, .dat .str, .dat .str] [.dat .str] x y := by
  obtain ⟨s, p, q⟩ := x
  unfold f385F at h
  cases hc : decide (s.size < 4294967281) && (decide (1 ≤ p.size) && decide (s.size + Lib.countB s p * q.size ≤ 140737488355328)) with
  | false => simp only [hc] at h; cases h
  | true =>
    simp only [hc] at h
    cases h
    simp only [Bool.and_eq_true, decide_eq_true_eq] at hc
    obtain ⟨c1, c2, c3⟩ := hc
    refine same_ok (.string ⟨(Lib.replaceAll s.data.toList p.data.toList q.data.toList).toArray⟩) rfl (fun _ _ _ => rfl) fun γ F w vals hF hvals => ?_
    match vals, hvals with
    | [a, b, c], ⟨ha, hb, hc, _⟩ =>
      have ha : a = .string s := ha
      have hb : b = .string p := hb
      have hc : c = .string q := hc
      subst ha hb hc
      obtain ⟨m, hm⟩ := (hF.gnd.2 0 (by decide)).2
      exact Any.strings_ReplaceAll lays155 extra155 s p q m w c1 hm c2 c3
def lays105_ren : Go.Shelf.Ren := ⟨fun | 105 => 74 | 212 => 94 | 99 => 82 | 165 => 95 | 166 => 96 | 170 => 97 | 169 => 87 | 263 => 111 | 264 => 112 | 206 => 103 | 240 => 107 | 241 => 113 | 276 => 120 | 277 => 122 | n => n, fun | 9 => 9 | 3 => 3 | 4 => 4 | 20 => 20 | 0 => 0 | 46 => 127 | 109 => 128 | 5 => 5 | 72 => 115 | 76 => 131 | 51 => 141 | 146 => 142 | 53 => 144 | 148 => 145 | 70 => 113 | 37 => 83 | 75 => 117 | 127 => 137 | 164 => 149 | 80 => 119 | n => n, fun | n => n⟩
theorem lays105 : Go.Proofs.Lays.n105 Tryd.prog lays105_ren := {
  mixed := by kernel_rfl
  f99 := Tryd.func82.trans (congrArg some (by kernel_rfl))
  f105 := Tryd.func74.trans (congrArg some (by kernel_rfl))
  f165 := Tryd.func95.trans (congrArg some (by kernel_rfl))
  f166 := Tryd.func96.trans (congrArg some (by kernel_rfl))
  f169 := Tryd.func87.trans (congrArg some (by kernel_rfl))
  f170 := Tryd.func97.trans (congrArg some (by kernel_rfl))
  f206 := Tryd.func103.trans (congrArg some (by kernel_rfl))
  f212 := Tryd.func94.trans (congrArg some (by kernel_rfl))
  f240 := Tryd.func107.trans (congrArg some (by kernel_rfl))
  f241 := Tryd.func113.trans (congrArg some (by kernel_rfl))
  f263 := Tryd.func111.trans (congrArg some (by kernel_rfl))
  f264 := Tryd.func112.trans (congrArg some (by kernel_rfl))
  f276 := Tryd.func120.trans (congrArg some (by kernel_rfl))
  f277 := Tryd.func122.trans (congrArg some (by kernel_rfl))
  t0 := Tryd.underlying0
  a0 := Tryd.isAgg0
  z0 := Tryd.sizeOf0
  v0 := Tryd.zeroValue0
  t3 := Tryd.underlying3
  a3 := Tryd.isAgg3
  z3 := Tryd.sizeOf3
  v3 := Tryd.zeroValue3
  t4 := Tryd.underlying4
  a4 := Tryd.isAgg4
  z4 := Tryd.sizeOf4
  v4 := Tryd.zeroValue4
  t5 := Tryd.underlying5
  a5 := Tryd.isAgg5
  z5 := Tryd.sizeOf5
  v5 := Tryd.zeroValue5
  t9 := Tryd.underlying9
  a9 := Tryd.isAgg9
  z9 := Tryd.sizeOf9
  v9 := Tryd.zeroValue9
  t20 := Tryd.underlying20
  a20 := Tryd.isAgg20
  z20 := Tryd.sizeOf20
  v20 := Tryd.zeroValue20
  t37 := Tryd.underlying83
  a37 := Tryd.isAgg83
  z37 := Tryd.sizeOf83
  v37 := Tryd.zeroValue83
  t46 := Tryd.underlying127
  a46 := Tryd.isAgg127
  z46 := Tryd.sizeOf127
  v46 := Tryd.zeroValue127
  t51 := Tryd.underlying141
  a51 := Tryd.isAgg141
  z51 := Tryd.sizeOf141
  v51 := Tryd.zeroValue141
  t53 := Tryd.underlying144
  a53 := Tryd.isAgg144
  z53 := Tryd.sizeOf144
  v53 := Tryd.zeroValue144
  t70 := Tryd.underlying113
  a70 := Tryd.isAgg113
  z70 := Tryd.sizeOf113
  v70 := Tryd.zeroValue113
  t72 := Tryd.underlying115
  a72 := Tryd.isAgg115
  z72 := Tryd.sizeOf115
  v72 := Tryd.zeroValue115
  t75 := Tryd.underlying117
  a75 := Tryd.isAgg117
  z75 := Tryd.sizeOf117
  v75 := Tryd.zeroValue117
  t76 := Tryd.underlying131
  a76 := Tryd.isAgg131
  z76 := Tryd.sizeOf131
  v76 := Tryd.zeroValue131
  t109 := Tryd.underlying128
  a109 := Tryd.isAgg128
  z109 := Tryd.sizeOf128
  v109 := Tryd.zeroValue128
  t127 := Tryd.underlying137
  a127 := Tryd.isAgg137
  z127 := Tryd.sizeOf137
  v127 := Tryd.zeroValue137
  t146 := Tryd.underlying142
  a146 := Tryd.isAgg142
  z146 := Tryd.sizeOf142
  v146 := Tryd.zeroValue142
  t148 := Tryd.underlying145
  a148 := Tryd.isAgg145
  z148 := Tryd.sizeOf145
  v148 := Tryd.zeroValue145
  t164 := Tryd.underlying149
  a164 := Tryd.isAgg149
  z164 := Tryd.sizeOf149
  v164 := Tryd.zeroValue149 }
theorem extra105 : Builder.Extra Tryd.prog lays105_ren := {
  sizeBuilder := by kernel_rfl
  liesBuilder := by kernel_rfl
  t5 := Tryd.underlying5
  a5 := Tryd.isAgg5
  z5 := Tryd.sizeOf5
  v5 := Tryd.zeroValue5
  infoByte := by kernel_rfl
  cellsByte := by kernel_rfl
  sizeByte := by kernel_rfl
  neB5 := by decide }
/-- Copies of a string. -/
def f73F (k : Nat) (x : ByteArray × Int) : Option ByteArray :=
  bif decide (0 ≤ x.2) && (decide (x.2 ≤ 9223372036854775807) && decide ((x.1.size : Int) * x.2 ≤ 140737488355328)) then some ⟨(Lib.repeatL x.1.data.toList x.2.toNat).toArray⟩ else none
theorem f73B : HasBody Go.Proofs.Tryd.prog 74 := ⟨Go.Proofs.Tryd.f74, Go.Proofs.Tryd.func74, by kernel_rfl, by kernel_rfl⟩
theorem f73Ok (k : Nat) (x : ByteArray × Int) (y : ByteArray) (h : f73F k x = some y) : FnOk Go.Proofs.Tryd.prog 74 [.dat .str, .dat (.int .i64)] [.dat .str] x y := by
  obtain ⟨s, c⟩ := x
  unfold f73F at h
  cases hc : (decide (0 ≤ c) && (decide (c ≤ 9223372036854775807) && decide ((s.size : Int) * c ≤ 140737488355328))) with
  | false => rw [hc] at h; cases h
  | true =>
    rw [hc] at h
    simp only [Bool.and_eq_true, decide_eq_true_eq] at hc
    obtain ⟨c0, c1, c2⟩ := hc
    obtain ⟨C, rfl⟩ : ∃ C : Nat, c = C := ⟨c.toNat, by omega⟩
    have hy : y = ⟨(Lib.repeatL s.data.toList C).toArray⟩ := by
      simp only [cond_true, Int.toNat_natCast] at h
      exact (Option.some.inj h).symm
    subst hy
    have hlen : s.size * C ≤ 140737488355328 := by
      have e : (s.size : Int) * (C : Int) = ((s.size * C : Nat) : Int) := by simp
      omega
    refine same_ok (.string ⟨(Lib.repeatL s.data.toList C).toArray⟩) rfl (fun _ _ _ => rfl) fun γ F w vals _ hvals => ?_
    match vals, hvals with
    | [a, b], ⟨ha, hb, _⟩ =>
      have ha : a = .string s := ha
      have hb : b = .int .i64 (C : Int) := hb
      subst ha hb
      exact Any.strings_Repeat lays105 extra105 s C w (by omega) hlen
def lays169_ren : Go.Shelf.Ren := ⟨fun | 169 => 87 | n => n, fun | 70 => 113 | 9 => 9 | 0 => 0 | 72 => 115 | 37 => 83 | 127 => 137 | 3 => 3 | 5 => 5 | n => n, fun | n => n⟩
theorem lays169 : Go.Proofs.Lays.n169 Tryd.prog lays169_ren := {
  mixed := by kernel_rfl
  f169 := Tryd.func87.trans (congrArg some (by kernel_rfl))
  t0 := Tryd.underlying0
  a0 := Tryd.isAgg0
  z0 := Tryd.sizeOf0
  v0 := Tryd.zeroValue0
  t3 := Tryd.underlying3
  a3 := Tryd.isAgg3
  z3 := Tryd.sizeOf3
  v3 := Tryd.zeroValue3
  t9 := Tryd.underlying9
  a9 := Tryd.isAgg9
  z9 := Tryd.sizeOf9
  v9 := Tryd.zeroValue9
  t37 := Tryd.underlying83
  a37 := Tryd.isAgg83
  z37 := Tryd.sizeOf83
  v37 := Tryd.zeroValue83
  t70 := Tryd.underlying113
  a70 := Tryd.isAgg113
  z70 := Tryd.sizeOf113
  v70 := Tryd.zeroValue113
  t72 := Tryd.underlying115
  a72 := Tryd.isAgg115
  z72 := Tryd.sizeOf115
  v72 := Tryd.zeroValue115
  t127 := Tryd.underlying137
  a127 := Tryd.isAgg137
  z127 := Tryd.sizeOf137
  v127 := Tryd.zeroValue137 }
theorem extra169 : Builder.Extra Tryd.prog lays169_ren := {
  sizeBuilder := by kernel_rfl
  liesBuilder := by kernel_rfl
  t5 := Tryd.underlying5
  a5 := Tryd.isAgg5
  z5 := Tryd.sizeOf5
  v5 := Tryd.zeroValue5
  infoByte := by kernel_rfl
  cellsByte := by kernel_rfl
  sizeByte := by kernel_rfl
  neB5 := by decide }
theorem f113B : HasBody Go.Proofs.Tryd.prog 107 := ⟨Go.Proofs.Tryd.f107, Go.Proofs.Tryd.func107, by kernel_rfl, by kernel_rfl⟩
def bcE : List AV → Store → Res := copyCheckE 115
theorem bc_ok : EntOk Go.Proofs.Tryd.prog 107 bcE := copyCheck_ok (ρ := lays105_ren) { lays105 with } extra105.toX72
theorem f105B : HasBody Go.Proofs.Tryd.prog 87 := ⟨Go.Proofs.Tryd.f87, Go.Proofs.Tryd.func87, by kernel_rfl, by kernel_rfl⟩
def bsE : List AV → Store → Res := bldStringE 115 5
theorem bs_ok : EntOk Go.Proofs.Tryd.prog 87 bsE := bldString_ok (ρ := lays169_ren) lays169 extra169
end Go.Proofs.YtecbbmokocnadaaDoor
