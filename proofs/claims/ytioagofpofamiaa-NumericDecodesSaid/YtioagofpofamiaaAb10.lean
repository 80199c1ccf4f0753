/- Stores. -/
import Derived.Test.YtioagofpofamiaaAb9
/-! Stores. -/
set_option linter.unusedVariables false
set_option linter.unusedSimpArgs false
namespace Go.Ab

def spl {α : Type} (cs : List α) (off : Nat) (new : List α) : List α := cs.take off ++ new ++ cs.drop (off + new.length)
theorem spl_length {α : Type} (cs : List α) (off : Nat) (new : List α) (h : off + new.length ≤ cs.length) : (spl cs off new).length = cs.length := by
  simp [spl]; omega
theorem spl_cons {α : Type} (cs : List α) (off : Nat) (v : α) (new : List α) (h : off + (v :: new).length ≤ cs.length) : spl (cs.set off v) (off + 1) new = spl cs off (v :: new) := by
  have hlt : off < cs.length := by simp at h; omega
  simp only [spl, List.length_cons]
  rw [List.take_set, List.drop_set_of_lt (by omega)]
  have : (cs.take (off + 1)).set off v = cs.take off ++ [v] := by
    rw [List.take_add_one, List.getElem?_eq_getElem hlt, Option.toList_some, List.set_append_right _ _ (by simp; omega)]
    simp [Nat.min_eq_left (Nat.le_of_lt hlt)]
  rw [this]
  have e1 : off + 1 + new.length = off + (new.length + 1) := by omega
  rw [e1]
  simp

theorem spl_get {α : Type} (cs : List α) (off : Nat) (new : List α) (h : off + new.length ≤ cs.length) (q : Nat) : (spl cs off new)[q]? = if off ≤ q ∧ q < off + new.length then new[q - off]? else cs[q]? := by
  unfold spl
  rw [List.getElem?_append, List.length_append, List.length_take, Nat.min_eq_left (by omega)]
  by_cases h2 : q < off + new.length
  · rw [if_pos h2, List.getElem?_append, List.length_take, Nat.min_eq_left (by omega)]
    by_cases h1 : q < off
    · rw [if_pos h1, if_neg (by omega), List.getElem?_take, if_pos h1]
    · rw [if_neg h1, if_pos ⟨by omega, h2⟩]
  · rw [if_neg h2, if_neg (by omega), List.getElem?_drop]
    congr 1
    omega

theorem spl_elem {α : Type} (L : List α) (i e fo n : Nat) (ys : List α) (h1 : i + e ≤ n) (h2 : fo + ys.length ≤ e) (h3 : n ≤ L.length) :
    (spl L (i + fo) ys).take n = (L.take n).take i ++ spl ((L.drop i).take e) fo ys ++ (L.take n).drop (i + e) := by
  have hm : ((L.drop i).take e).length = e := by simp; omega
  have hsl : (spl ((L.drop i).take e) fo ys).length = e := by rw [spl_length _ _ _ (by omega), hm]
  have hti : ((L.take n).take i).length = i := by simp; omega
  apply List.ext_getElem?
  intro q
  rw [List.getElem?_take, spl_get _ _ _ (by omega), List.getElem?_append, List.length_append, hsl, hti]
  by_cases hq : q < n
  · rw [if_pos hq]
    by_cases ha : q < i + e
    · rw [if_pos ha, List.getElem?_append, hti]
      by_cases hb : q < i
      · rw [if_pos hb, if_neg (by omega), List.getElem?_take, if_pos hb, List.getElem?_take, if_pos hq]
      · rw [if_neg hb, spl_get _ _ _ (by omega)]
        by_cases hc : i + fo ≤ q ∧ q < i + fo + ys.length
        · rw [if_pos hc, if_pos (by omega)]
          congr 1
          omega
        · rw [if_neg hc, if_neg (by omega), List.getElem?_take, if_pos (by omega), List.getElem?_drop]
          congr 1
          omega
    · rw [if_neg ha, if_neg (by omega), List.getElem?_drop, List.getElem?_take, if_pos (by omega)]
      congr 1
      omega
  · rw [if_neg hq, if_neg (by omega), List.getElem?_drop, List.getElem?_take, if_neg (by omega)]

theorem spl_set {α : Type} (L : List α) (off n j : Nat) (v : α) (h1 : off + n ≤ L.length) (hj : j < n) : spl L (off + j) [v] = spl L off (((L.drop off).take n).set j v) := by
  have hm : ((L.drop off).take n).length = n := by simp; omega
  apply List.ext_getElem?
  intro q
  rw [spl_get _ _ _ (by simp; omega), spl_get _ _ _ (by rw [List.length_set, hm]; exact h1), List.length_set, hm, List.getElem?_set, hm, List.getElem?_take, List.getElem?_drop]
  by_cases h : off ≤ q ∧ q < off + n
  · rw [if_pos h]
    by_cases e : q = off + j
    · subst e
      rw [if_pos (by simp), if_pos (by omega), if_pos (by omega)]
      simp
    · rw [if_neg (by simp; omega), if_neg (by omega), if_pos (by omega)]
      congr 1
      omega
  · rw [if_neg h, if_neg (by simp; omega)]

/-- Cells stored into a block that is known. -/
theorem run_storeCells_blk {P : Program} (g o : Nat) (t : TypeId) (fz : Nat × Nat) : ∀ (vs : List Value) (i : Nat) (cur : Array Value) (w : World), w.heap[g]? = some (.cells cur t fz) → (fz = (0, 0) ∨ cur.size ≤ fz.1) → o + i + vs.length ≤ cur.size → (∀ v ∈ vs, v.oneCell' = true) →
    ∃ w' cur', (storeCells ⟨g, o, none⟩ vs i).run P w = .ok () w' ∧ Turned w w' g ∧ w'.heap[g]? = some (.cells cur' t fz) ∧ cur'.toList = spl cur.toList (o + i) vs
  | [], i, cur, w, hg, _, hl, _ => by
    refine ⟨w, cur, rfl, ⟨rfl, rfl, rfl, rfl, fun _ _ => rfl⟩, hg, by simp [spl]⟩
  | v :: rest, i, cur, w, hg, hz, hl, h1 => by
    have hi : o + i < cur.size := by simp at hl; omega
    have hadd : (⟨g, o, none⟩ : Addr).add i = ⟨g, o + i, none⟩ := by unfold Addr.add; split <;> simp_all
    have hcell : w.cell? ⟨g, o + i, none⟩ = some cur[o + i] := by simp [World.cell?, hg, hi]
    have hfro : w.frozen? ⟨g, o + i, none⟩ = false := by
      simp only [World.frozen?, hg]
      rcases hz with rfl | hz
      · simp
      · have : ¬ fz.1 ≤ o + i := by omega
        simp [this]
    have hst : (store ((⟨g, o, none⟩ : Addr).add i) v).run P w = .ok () (w.setCell ⟨g, o + i, none⟩ v) := by
      rw [hadd, run_store P w _ v _ (h1 v (by simp)), hcell]
      simp [hfro]
    have hblk : (w.setCell ⟨g, o + i, none⟩ v).heap[g]? = some (.cells (cur.setIfInBounds (o + i) v) t fz) := by
      show (w.heap.modify g _)[g]? = _
      rw [Array.getElem?_modify, if_pos rfl, hg]
      rfl
    obtain ⟨w', cur', hr, ht, hb, hc⟩ := run_storeCells_blk (P := P) g o t fz rest (i + 1) (cur.setIfInBounds (o + i) v) (w.setCell ⟨g, o + i, none⟩ v) hblk (by simpa using hz) (by simp at hl ⊢; omega) (fun x hx => h1 x (by simp [hx]))
    refine ⟨w', cur', by simp only [storeCells, Sem.run_bind, hst, Result.andThen_ok, hr], ?_, hb, ?_⟩
    · refine ⟨ht.os, ht.tape, ht.output, by rw [ht.size]; simp, fun c hc => ?_⟩
      rw [ht.old c hc]
      exact heap_setCell_other w _ c v hc
    · rw [hc, Array.toList_setIfInBounds, ← Nat.add_assoc]
      exact spl_cons _ _ _ _ (by simp at hl ⊢; omega)

theorem splice_eq (cs : List C) (off : Nat) (new : List C) : splice cs off new = spl cs off new := rfl

theorem All2.spl {α β : Type} {R : α → β → Prop} {l : List α} {m : List β} {x : List α} {y : List β} (off : Nat) (h : All2 R l m) (h' : All2 R x y) : All2 R (spl l off x) (spl m off y) := by
  have e : x.length = y.length := h'.length
  unfold Ab.spl
  rw [e]
  exact ((h.take off).append h').append (h.drop _)

section
variable {P : Program} {dst : Option Tmp} {ty : TypeId} {pos : String} {aft : Array Edge} {gd : Option (Nat × Bool)} {fr : Nat} {S : Store} {Γ : Tab}

theorem run_storeVar {w w' : World} {t : Nat} {r : TR} {d : TypeDesc} {i : TypeInfo} (ok : TrOk P t r d i) {ad : Addr} {v : Value} (hl : v.cells.size = r.size) (h : (storeCells ad v.cells.toList 0).run P w = .ok () w') :
    (storeVar t ad v).run P w = .ok () w' := by
  unfold storeVar
  simp only [Sem.run_bind, ok.sizeOf, Result.andThen_ok]
  simp [hl, h]

theorem sem_store (hΓ : tabIs P Γ = true) (t : TypeId) (x y : Operand) (ax ay : AV) : ResSem (OpSem P ⟨dst, .store t x y, ty, pos, aft, gd⟩ [ax, ay] fr S) (storeA Γ t ax ay S) := by
  unfold storeA
  split
  · rename_i r av hr
    obtain ⟨d, i, ok⟩ := trOf_ok hΓ hr
    cases hb : Nat.beq av.cells.length r.size && av.cells.all C.live with
    | false => trivial
    | true =>
      simp only [cond_true]
      simp only [Bool.and_eq_true, Nat.beq_eq] at hb
      obtain ⟨hsz, hlive⟩ := hb
      have fin : ∀ (a : Act) (w w' : World) (ad : Addr), a.eval x = .pointer (some ad) → (storeVar t ad (a.eval y)).run P w = .ok () w' → (execOp a.eval ⟨dst, .store t x y, ty, pos, aft, gd⟩).run P w = .ok .skip w' := by
        intro a w w' ad h1 h2
        simp [execOp, Instr.storeAt, h1, Instr.sureAddr, h2]
      split
      · rename_i tok off
        split
        · rename_i cs hS
          cases hfit : Nat.ble (off + r.size) cs.length with
          | false => trivial
          | true =>
            intro γ F w a hI hlt _ hA next Q hn
            have hfit' : off + r.size ≤ cs.length := by simpa using hfit
            obtain ⟨b, hbk, hp⟩ := hA.1
            obtain ⟨b', cur, E, h1, h2, h3, h4⟩ := hI.blk tok _ hS
            rw [h1] at hbk
            injection hbk with hbk
            subst hbk
            have hcl := cells_of_rep hA.2.1 hlive
            have hlen := hcl.length
            have hlen4 := h4.length
            obtain ⟨w', cur', hrun, htn, hb', hc'⟩ := run_storeCells_blk (P := P) b' off E (0, 0) (a.eval y).cells.toList 0 cur w h2 (.inl rfl) (by simp at hlen hlen4 ⊢; omega) (ones_of_RepC hcl hlive)
            refine wp_of_skip (fin a w w' _ hp (run_storeVar ok (by simp at hlen; omega) hrun)) (hn Go.undef γ F w' ?_ trivial)
            refine Post.write hI hS h1 h3 htn ⟨b', cur', E, h1, hb', h3, ?_⟩
            rw [hc', splice_eq]
            have hl : Lasts F F w w' := ⟨fun _ h => h, fun c hc => htn.old c fun e => h3 (e ▸ hc)⟩
            exact (RepCs.lasts hl (fun _ _ => rfl) h4).spl off (RepCs.lasts hl (fun _ _ => rfl) hcl)
        · trivial
      · rename_i tok j fo
        have row : ∀ (E : Nat) (e : Ty) (m : RowK) (xs : List e.den) (z : e.den), m ≠ .frz → look S tok = some (.row E e m xs) → e.whole (splice (e.explode (xs.getD j.toNat e.dflt)) fo av.cells) = some z → fo + r.size ≤ e.size →
            OpSem P ⟨dst, .store t x y, ty, pos, aft, gd⟩ [one (.eptr tok j fo), .v av] fr S .undef (upd S tok (.row E e m (xs.set j.toNat z))) := by
          intro E e m xs z hm hS hz hfo γ F w a hI hlt _ hA next Q hn
          obtain ⟨b, hbk, h0, hjl, hp⟩ := hA.1
          have hrow : RowOk F (γ tok) w E e m xs := hI.blk tok _ hS
          have hrow' := hrow
          obtain ⟨g1, g2, ⟨g3, g4⟩ | ⟨b', cur, fz, flat, g3, g4, g5, g6, g7, g8, g9, g10⟩⟩ := hrow'
          · rw [g3] at hbk; cases hbk
          · rw [g3] at hbk
            injection hbk with hbk
            subst hbk
            have hjx : j.toNat < xs.length := by omega
            have hget : xs[j.toNat]? = some (xs.getD j.toNat e.dflt) := by simp [List.getD, List.getElem?_eq_getElem hjx]
            obtain ⟨l, hl, hlc⟩ := g9.at _ _ hget
            have hll := hl.length
            have hcl := cells_of_rep hA.2.1 hlive
            have hlen := hcl.length
            have hnF : ¬ F b' := by
              cases m with
              | plain => exact g10.1
              | mark => exact g10.1
              | frz => exact absurd rfl hm
            have hfz : fz = (0, 0) ∨ cur.size ≤ fz.1 := by
              cases m with
              | plain => exact .inl g10.2
              | mark => exact .inr g10.2
              | frz => exact absurd rfl hm
            have hmul : (j.toNat + 1) * e.size ≤ xs.length * e.size := Nat.mul_le_mul_right _ (by omega)
            have hmul2 : xs.length * e.size ≤ cur.size := by rw [g7]; exact Nat.mul_le_mul_right _ g5
            rw [Nat.add_mul, Nat.one_mul] at hmul
            obtain ⟨w', cur', hrun, htn, hb', hc'⟩ := run_storeCells_blk (P := P) b' (j.toNat * e.size + fo) E fz (a.eval y).cells.toList 0 cur w g4 hfz (by simp at hlen ⊢; omega) (ones_of_RepC hcl hlive)
            refine wp_of_skip (fin a w w' _ hp ?_) (hn Go.undef γ F w' ?_ trivial)
            · rw [g2]
              exact run_storeVar ok (by simp at hlen; omega) hrun
            · refine Post.write hI hS g3 hnF htn ?_
              have hlst : Lasts F F w w' := ⟨fun _ h => h, fun c hc => htn.old c fun e => hnF (e ▸ hc)⟩
              have hnew : RepD F w e z (spl l fo (a.eval y).cells.toList) := whole_rep (γ := γ) hz (by rw [splice_eq]; exact (explode_rep hl).spl fo hcl)
              have hset := (g9.lasts hlst).set j.toNat z _ hjx (hnew.lasts hlst)
              refine ⟨by rw [List.length_set]; exact g1, g2, .inr ⟨b', cur', fz, _, g3, hb', by rw [List.length_set]; exact g5, g6, ?_, rfl, ?_, ?_⟩⟩
              · have h5 := congrArg List.length hc'
                rw [spl_length _ _ _ (by simp at hlen ⊢; omega)] at h5
                simp at h5
                omega
              · rw [List.length_set, hc']
                have hcells : cur.toList.take (xs.length * e.size) = flat := g8
                have hmid : (cur.toList.drop (j.toNat * e.size)).take e.size = l := by
                  apply List.ext_getElem?
                  intro q
                  rw [List.getElem?_take]
                  split
                  · rename_i hq
                    rw [List.getElem?_drop]
                    have hql : q < l.length := by omega
                    have := hlc q _ (List.getElem?_eq_getElem hql)
                    rw [← hcells, List.getElem?_take, if_pos (by omega)] at this
                    rw [this, List.getElem?_eq_getElem hql]
                  · rw [List.getElem?_eq_none (by omega)]
                have e1 : (spl cur.toList (j.toNat * e.size + fo + 0) (a.eval y).cells.toList).take (xs.length * e.size) = flat.take (j.toNat * e.size) ++ spl l fo (a.eval y).cells.toList ++ flat.drop (j.toNat * e.size + e.size) := by
                  rw [← hcells, ← hmid, Nat.add_zero]
                  exact spl_elem _ _ _ _ _ _ hmul (by omega) (by simp; omega)
                rw [e1]
                exact hset
              · cases m with
                | plain => exact ⟨g10.1, g10.2⟩
                | mark =>
                  refine ⟨g10.1, ?_⟩
                  have h5 := congrArg List.length hc'
                  rw [spl_length _ _ _ (by simp at hlen ⊢; omega)] at h5
                  simp at h5
                  have := g10.2
                  omega
                | frz => exact absurd rfl hm
        split
        · rename_i E e xs hS
          split
          · rename_i z hz
            cases hfo : Nat.ble (fo + r.size) e.size with
            | false => trivial
            | true => exact row E e .plain xs z (by simp) hS hz (by simpa using hfo)
          · trivial
        · rename_i E e xs hS
          split
          · rename_i z hz
            cases hfo : Nat.ble (fo + r.size) e.size with
            | false => trivial
            | true => exact row E e .mark xs z (by simp) hS hz (by simpa using hfo)
          · trivial
        · trivial
      · rename_i tok off n j
        split
        · rename_i _ cs k z hS
          cases hfit : Nat.ble (off + n) cs.length with
          | false => trivial
          | true =>
            simp only [cond_true]
            split
            · rename_i k' ns hns
              split
              · rename_i hk
                subst hk
                intro γ F w a hI hlt _ hA next Q hn
                have hfit' : off + n ≤ cs.length := by simpa using hfit
                obtain ⟨b, hbk, h0, hjn, hp⟩ := hA.1
                obtain ⟨b', cur, E, h1, h2, h3, h4⟩ := hI.blk tok _ hS
                rw [h1] at hbk
                injection hbk with hbk
                subst hbk
                have hy : a.eval y = .int k z := hA.2.1
                have hlen4 := h4.length
                obtain ⟨hl, hcs⟩ := intCells_rep hns ((h4.drop off).take n)
                have hnl : ns.length = n := by
                  have := congrArg List.length hcs
                  simp at this
                  omega
                have hsz1 : r.size = 1 := by simpa [V1.cells] using hsz.symm
                obtain ⟨w', cur', hrun, htn, hb', hc'⟩ := run_storeCells_blk (P := P) b' (off + j.toNat) E (0, 0) [Value.int k z] 0 cur w h2 (.inl rfl) (by simp at hlen4 ⊢; omega) (by simp [Value.oneCell'])
                refine wp_of_skip (fin a w w' _ hp (run_storeVar ok (by rw [hy, hsz1]; rfl) (by rw [hy]; exact hrun))) (hn Go.undef γ F w' ?_ trivial)
                refine Post.write hI hS h1 h3 htn ⟨b', cur', E, h1, hb', h3, ?_⟩
                have hlst : Lasts F F w w' := ⟨fun _ h => h, fun c hc => htn.old c fun e => h3 (e ▸ hc)⟩
                have hcur : cur'.toList = spl cur.toList off ((setNth ns j.toNat z).map (Value.int k)) := by
                  rw [hc']
                  have e2 : (setNth ns j.toNat z).map (Value.int k) = ((cur.toList.drop off).take n).set j.toNat (Value.int k z) := by rw [hl]; simp [setNth, List.map_set]
                  rw [e2, Nat.add_zero]
                  exact spl_set _ _ _ _ _ (by omega) hjn
                rw [hcur, splice_eq]
                refine (RepCs.lasts hlst (fun _ _ => rfl) h4).spl off ?_
                generalize setNth ns j.toNat z = ms
                induction ms with
                | nil => trivial
                | cons m ms ih => exact ⟨rfl, ih⟩
              · trivial
            · trivial
        · trivial
      · trivial
  · trivial
end
end Go.Ab
