/- What a law is handed, read as data. -/
import Derived.Test.YtioagofpofamiaaAb26
import Derived.Deep.Slices
import Derived.Below
import Derived.SizedLaws
import Derived.ChangeOld
import Derived.OpenShut
import Derived.WalkKit
import Derived.ProofKit
/-! What a law is handed, read as data. -/
set_option linter.unusedVariables false
set_option linter.unusedSimpArgs false
namespace Go.Ab
open Go.Deep

/-- Data as a program's own values are: whole numbers in their kinds. -/
def Ty.ok : (t : Ty) → t.den → Prop
  | .int k, n => (Lit.int k n).wf = true
  | .bool, _ => True
  | .str, s => s.size ≤ maxLen
  | .pair a b, x => a.ok x.1 ∧ b.ok x.2
  | .slice e, xs => xs.length ≤ maxLen ∧ ∀ x ∈ xs, e.ok x

def fieldsIs (P : Program) (rec : TypeId → Ty → Bool) : List Field → Nat → Ty → Bool
  | [f], off, ty => rec f.type ty && (Nat.beq f.offset off && Nat.beq (P.cellsOf f.type) ty.size)
  | f :: fs, off, .pair a b => rec f.type a && (Nat.beq f.offset off && (Nat.beq (P.cellsOf f.type) a.size && fieldsIs P rec fs (off + a.size) b))
  | _, _, _ => false
def elemsIs (P : Program) (rec : TypeId → Ty → Bool) (e : TypeId) : Nat → Ty → Bool
  | 0, _ => false
  | 1, ty => rec e ty && Nat.beq (P.cellsOf e) ty.size
  | n + 2, .pair a b => rec e a && (Nat.beq (P.cellsOf e) a.size && elemsIs P rec e (n + 1) b)
  | _, _ => false
def tyIs (P : Program) : Nat → TypeId → Ty → Bool
  | 0, _, _ => false
  | n + 1, t, ty =>
    match P.underlying t with
    | some (.int k) => (match ty with | .int k' => decide (k = k') | _ => false)
    | some .bool => (match ty with | .bool => true | _ => false)
    | some .string => (match ty with | .str => true | _ => false)
    | some (.slice e) => (match ty with | .slice te => tyIs P n e te && Nat.beq (P.cellsOf e) te.size | _ => false)
    | some (.struct fs) => fieldsIs P (tyIs P n) fs.toList 0 ty && Nat.beq (P.cellsOf t) ty.size
    | some (.array m e) => elemsIs P (tyIs P n) e m ty && Nat.beq (P.cellsOf t) ty.size
    | _ => false

section
variable {H : Type} {enc : TypeId × Value → H} {P : Program} {w : World} {held : Bool}

def Opens (P : Program) (enc : TypeId × Value → H) (w : World) (held : Bool) (t : TypeId) (ty : Ty) : Prop :=
  ∀ (fuel : Nat) (cs : List Value) (x : DataW H × List MemPlace), DataW.trod enc P w 0 (fun _ => true) held fuel t cs = some x → ∃ v : ty.den, RepD (fun b => b < w.heap.size) w ty v cs ∧ ty.ok v

theorem fields_open {rec : TypeId → Ty → Bool} {cs : List Value} (hrec : ∀ t ty, rec t ty = true → Opens P enc w held t ty) {fuel : Nat} : ∀ {fs : List Field} {off : Nat} {ty : Ty} {xs : List (DataW H × List MemPlace)}, fieldsIs P rec fs off ty = true →
    fs.mapM (fun f => DataW.trod enc P w 0 (fun _ => true) held fuel f.type ((cs.drop f.offset).take (P.cellsOf f.type))) = some xs → cs.length = off + ty.size → ∃ v : ty.den, RepD (fun b => b < w.heap.size) w ty v (cs.drop off) ∧ ty.ok v
  | [], _, _, _, h, _, _ => by simp [fieldsIs] at h
  | [f], off, ty, xs, h, hm, hl => by
    simp only [fieldsIs, Bool.and_eq_true, Nat.beq_eq] at h
    obtain ⟨h1, h2, h3⟩ := h
    rw [List.mapM_cons] at hm
    obtain ⟨x, hx, _⟩ := Option.bind_eq_some_iff.1 hm
    obtain ⟨v, hv⟩ := hrec _ _ h1 fuel _ _ hx
    rw [h2, h3, List.take_of_length_le (by simp; omega)] at hv
    exact ⟨v, hv⟩
  | f :: g :: fs, off, .pair a b, xs, h, hm, hl => by
    simp only [fieldsIs, Bool.and_eq_true, Nat.beq_eq] at h
    obtain ⟨h1, h2, h3, h4⟩ := h
    rw [List.mapM_cons] at hm
    obtain ⟨x, hx, hm⟩ := Option.bind_eq_some_iff.1 hm
    obtain ⟨ys, hys, _⟩ := Option.bind_eq_some_iff.1 hm
    obtain ⟨v, hv, ho⟩ := hrec _ _ h1 fuel _ _ hx
    rw [h2, h3] at hv
    simp only [Ty.size] at hl
    obtain ⟨v', hv', ho'⟩ := fields_open hrec (fs := g :: fs) h4 hys (by omega)
    refine ⟨(v, v'), ⟨_, _, ?_, hv, hv'⟩, ho, ho'⟩
    rw [← List.drop_drop, List.take_append_drop]
  | _ :: _ :: _, _, .int _, _, h, _, _ => by simp [fieldsIs] at h
  | _ :: _ :: _, _, .bool, _, h, _, _ => by simp [fieldsIs] at h
  | _ :: _ :: _, _, .str, _, h, _, _ => by simp [fieldsIs] at h
  | _ :: _ :: _, _, .slice _, _, h, _, _ => by simp [fieldsIs] at h

theorem elems_open {rec : TypeId → Ty → Bool} {cs : List Value} (hrec : ∀ t ty, rec t ty = true → Opens P enc w held t ty) {fuel : Nat} {e : TypeId} : ∀ {n i : Nat} {ty : Ty} {xs : List (DataW H × List MemPlace)}, elemsIs P rec e n ty = true →
    (List.range' i n).mapM (fun i => DataW.trod enc P w 0 (fun _ => true) held fuel e ((cs.drop (i * P.cellsOf e)).take (P.cellsOf e))) = some xs → cs.length = i * P.cellsOf e + ty.size → ∃ v : ty.den, RepD (fun b => b < w.heap.size) w ty v (cs.drop (i * P.cellsOf e)) ∧ ty.ok v
  | 0, _, _, _, h, _, _ => by simp [elemsIs] at h
  | 1, i, ty, xs, h, hm, hl => by
    simp only [elemsIs, Bool.and_eq_true, Nat.beq_eq] at h
    obtain ⟨h1, h3⟩ := h
    rw [List.range'_succ, List.mapM_cons] at hm
    obtain ⟨x, hx, _⟩ := Option.bind_eq_some_iff.1 hm
    obtain ⟨v, hv⟩ := hrec _ _ h1 fuel _ _ hx
    rw [List.take_of_length_le (by simp; omega)] at hv
    exact ⟨v, hv⟩
  | n + 2, i, .pair a b, xs, h, hm, hl => by
    simp only [elemsIs, Bool.and_eq_true, Nat.beq_eq] at h
    obtain ⟨h1, h3, h4⟩ := h
    rw [List.range'_succ, List.mapM_cons] at hm
    obtain ⟨x, hx, hm⟩ := Option.bind_eq_some_iff.1 hm
    obtain ⟨ys, hys, _⟩ := Option.bind_eq_some_iff.1 hm
    obtain ⟨v, hv, ho⟩ := hrec _ _ h1 fuel _ _ hx
    simp only [Ty.size] at hl
    obtain ⟨v', hv', ho'⟩ := elems_open hrec (n := n + 1) h4 hys (by rw [Nat.add_mul]; omega)
    refine ⟨(v, v'), ⟨_, _, ?_, hv, hv'⟩, ho, ho'⟩
    rw [Nat.add_mul, Nat.one_mul, ← List.drop_drop, List.take_append_drop]
  | _ + 2, _, .int _, _, h, _, _ => by simp [elemsIs] at h
  | _ + 2, _, .bool, _, h, _, _ => by simp [elemsIs] at h
  | _ + 2, _, .str, _, h, _, _ => by simp [elemsIs] at h
  | _ + 2, _, .slice _, _, h, _, _ => by simp [elemsIs] at h

theorem cell_spot {a : Addr} {v : Value} (h : w.cell? a = some v) : a.spot = none := by
  unfold World.cell? at h
  split at h
  · split at h
    · cases h
    · rename_i hs
      cases hq : a.spot with
      | none => rfl
      | some s => rw [hq] at hs; simp at hs
  · cases h

theorem opens_ty : ∀ (n : Nat) {t : TypeId} {ty : Ty}, tyIs P n t ty = true → Opens P enc w held t ty
  | 0, _, _, h => by simp [tyIs] at h
  | n + 1, t, ty, h => by
    intro fuel cs x hx
    simp only [tyIs] at h
    cases fuel with
    | zero => simp [DataW.trod] at hx
    | succ fuel =>
    split at h
    · rename_i k hu
      split at h
      · rename_i k'
        obtain rfl : k = k' := by simpa using h
        obtain ⟨m, rfl, rfl, hw⟩ := DataW.trod_int hu hx
        exact ⟨m, rfl, hw⟩
      · cases h
    · rename_i hu
      split at h
      · obtain ⟨m, rfl, rfl⟩ := DataW.trod_bool hu hx
        exact ⟨m, rfl, trivial⟩
      · cases h
    · rename_i hu
      split at h
      · obtain ⟨m, rfl, rfl, hw⟩ := DataW.trod_string hu hx
        exact ⟨m, rfl, hw⟩
      · cases h
    · rename_i e hu
      split at h
      · rename_i te
        simp only [Bool.and_eq_true, Nat.beq_eq] at h
        obtain ⟨h1, h2⟩ := h
        rcases open_slice hu hx with ⟨rfl, rfl⟩ | ⟨a, len, cap, m, fu, D, Pl, rfl, hb, hl, hm, hmm, rfl, hel⟩
        · exact ⟨[], ⟨_, rfl, none, 0, 0, rfl, rfl, Nat.le_refl _, fun h => by omega⟩, by simp, by simp⟩
        · simp only [if_true] at hmm
          subst hmm
          have hall : ∀ i : Nat, ∃ v : te.den, i < len → ∃ l, RepD (fun b => b < w.heap.size) w te v l ∧ te.ok v ∧ w.cells? 0 (a.add (i * te.size)) te.size = some l := by
            intro i
            by_cases hi : i < len
            · obtain ⟨l, hc, ht⟩ := hel i (by omega)
              obtain ⟨v, hv, ho⟩ := opens_ty n h1 _ _ _ ht
              rw [h2] at hc
              exact ⟨v, fun _ => ⟨l, hv, ho, hc⟩⟩
            · exact ⟨te.dflt, fun h => absurd h hi⟩
          obtain ⟨V, hV⟩ := Classical.skolem.1 hall
          refine ⟨(List.range len).map V, ⟨_, rfl, some a, len, m, rfl, by simp, hl, fun h0 => ?_⟩, by simp; omega, fun x hx => ?_⟩
          · obtain ⟨l, hv, _, hc⟩ := hV 0 h0
            obtain ⟨_, hlen, hcell⟩ := World.cells?_some hc
            have hpos := te.size_pos
            have h00 : w.cell? ((a.add (0 * te.size)).add 0) = some (l[0]'(by omega)) := by rw [hcell 0 hpos]; exact List.getElem?_eq_getElem _
            have hspot : a.spot = none := by
              have := cell_spot h00
              simpa [Addr.add] using this
            refine ⟨a, rfl, hspot, by simpa [Addr.add] using World.cells?_block hc hpos, fun i x hx => ?_⟩
            have hi : i < len := by
              have := (List.getElem?_eq_some_iff.1 hx).1
              simpa using this
            rw [List.getElem?_map, List.getElem?_range hi] at hx
            simp only [Option.map_some, Option.some.injEq] at hx
            subst hx
            obtain ⟨l, hv, _, hc⟩ := hV i hi
            obtain ⟨_, hlen, hcell⟩ := World.cells?_some hc
            refine ⟨l, hv, hlen, fun j u hu => ?_⟩
            have hj : j < te.size := by rw [← hlen]; exact (List.getElem?_eq_some_iff.1 hu).1
            have := hcell j hj
            rw [hu] at this
            rw [← this]
            congr 1
            obtain ⟨ab, ao, as⟩ := a
            simp only at hspot
            subst hspot
            simp only [Addr.add]
            split <;> split <;> simp_all [Nat.add_assoc]
          · obtain ⟨i, hi, rfl⟩ := List.mem_map.1 hx
            obtain ⟨_, _, ho, _⟩ := hV i (List.mem_range.1 hi)
            exact ho
      · cases h
    · rename_i fs hu
      simp only [Bool.and_eq_true, Nat.beq_eq] at h
      unfold DataW.trod at hx
      rw [hu] at hx
      simp only at hx
      split at hx
      · rename_i hlen
        obtain ⟨xs, hxs, _⟩ := Option.map_eq_some_iff.1 hx
        have := fields_open (fun t ty => opens_ty n) h.1 hxs (by rw [hlen, h.2]; simp)
        simpa using this
      · cases hx
    · rename_i m e hu
      simp only [Bool.and_eq_true, Nat.beq_eq] at h
      unfold DataW.trod at hx
      rw [hu] at hx
      simp only at hx
      split at hx
      · rename_i hlen
        obtain ⟨xs, hxs, _⟩ := Option.map_eq_some_iff.1 hx
        rw [List.range_eq_range'] at hxs
        have := elems_open (fun t ty => opens_ty n) h.1 hxs (by rw [hlen, h.2]; simp)
        simpa using this
      · cases hx
    · cases h
end
end Go.Ab
