/- Loads, elements, cuts, lengths. -/
import Derived.Test.YtioagofpofamiaaAb5
import Derived.Laws.Cells
/-! Loads, elements, cuts, lengths. -/
set_option linter.unusedVariables false
set_option linter.unusedSimpArgs false
namespace Go.Ab

theorem addr_add (b o n : Nat) : (⟨b, o, none⟩ : Addr).add n = ⟨b, o + n, none⟩ := by unfold Addr.add; split <;> simp_all

/-- A datum's cells, taken apart. -/
theorem explode_rep {γ : Nat → G} {F : Nat → Prop} {w : World} : ∀ {t : Ty} {x : t.den} {l : List Value}, RepD F w t x l → All2 (RepC γ F w) (t.explode x) l
  | .int _, _, _, h => by simp only [RepD] at h; subst h; exact ⟨rfl, trivial⟩
  | .bool, _, _, h => by simp only [RepD] at h; subst h; exact ⟨rfl, trivial⟩
  | .str, _, _, h => by simp only [RepD] at h; subst h; exact ⟨rfl, trivial⟩
  | .pair a b, _, _, h => by
    simp only [RepD] at h
    obtain ⟨l1, l2, rfl, h1, h2⟩ := h
    exact (explode_rep h1).append (explode_rep h2)
  | .slice e, _, _, h => by
    simp only [RepD] at h
    obtain ⟨v, rfl, h⟩ := h
    exact ⟨h, trivial⟩

theorem emp_ro {F : Nat → Prop} {w : World} {e : Ty} : RoSl F w (RepD F w e) e.size ([] : List e.den) (.slice none 0 0) :=
  ⟨none, 0, 0, rfl, rfl, Nat.le_refl _, fun h => by omega⟩

theorem implode_rep {γ : Nat → G} {F : Nat → Prop} {w : World} : ∀ {t : Ty} {cs cs' : List C} {x : t.den} {l : List Value}, t.implode cs = some (x, cs') → All2 (RepC γ F w) cs l →
    ∃ l1 l2, l = l1 ++ l2 ∧ RepD F w t x l1 ∧ All2 (RepC γ F w) cs' l2
  | .int k, cs, cs', x, l, h, hr => by
    simp only [Ty.implode] at h
    split at h
    · rename_i k' n r
      split at h
      · rename_i hc
        subst hc
        injection h with h
        injection h with h1 h2
        subst h1 h2
        match l, hr with
        | v :: l, hr => exact ⟨[v], l, rfl, by have := hr.1; simp only [RepC] at this; rw [this]; rfl, hr.2⟩
      · cases h
    · cases h
  | .bool, cs, cs', x, l, h, hr => by
    simp only [Ty.implode] at h
    split at h
    · injection h with h
      injection h with h1 h2
      subst h1 h2
      match l, hr with
      | v :: l, hr => exact ⟨[v], l, rfl, by have := hr.1; simp only [RepC] at this; rw [this]; rfl, hr.2⟩
    · cases h
  | .str, cs, cs', x, l, h, hr => by
    simp only [Ty.implode] at h
    split at h
    · injection h with h
      injection h with h1 h2
      subst h1 h2
      match l, hr with
      | v :: l, hr => exact ⟨[v], l, rfl, by have := hr.1; simp only [RepC] at this; rw [this]; rfl, hr.2⟩
    · cases h
  | .slice e, cs, cs', x, l, h, hr => by
    simp only [Ty.implode] at h
    split at h
    · rename_i e' xs r
      split at h
      · rename_i hc
        subst hc
        injection h with h
        injection h with h1 h2
        subst h1 h2
        match l, hr with
        | v :: l, hr => exact ⟨[v], l, rfl, ⟨v, rfl, hr.1⟩, hr.2⟩
      · cases h
    · injection h with h
      injection h with h1 h2
      subst h1 h2
      match l, hr with
      | v :: l, hr => exact ⟨[v], l, rfl, ⟨v, rfl, by have := hr.1; simp only [RepC] at this; rw [this]; exact emp_ro⟩, hr.2⟩
    · cases h
  | .pair a b, cs, cs', x, l, h, hr => by
    simp only [Ty.implode] at h
    split at h
    · rename_i y c1 h1
      split at h
      · rename_i z c2 h2
        injection h with h
        injection h with e1 e2
        subst e1 e2
        obtain ⟨l1, l2, rfl, r1, hr⟩ := implode_rep h1 hr
        obtain ⟨l3, l4, rfl, r2, hr⟩ := implode_rep h2 hr
        exact ⟨l1 ++ l3, l4, by simp, ⟨l1, l3, rfl, r1, r2⟩, hr⟩
      · cases h
    · cases h

theorem whole_rep {γ : Nat → G} {F : Nat → Prop} {w : World} {t : Ty} {cs : List C} {x : t.den} {l : List Value} (h : t.whole cs = some x) (hr : All2 (RepC γ F w) cs l) : RepD F w t x l := by
  unfold Ty.whole at h
  split at h
  · rename_i y hy
    injection h with h
    subst h
    obtain ⟨l1, l2, rfl, r1, r2⟩ := implode_rep hy hr
    match l2, r2 with
    | [], _ => simpa using r1
  · cases h

section
variable {P : Program} {dst : Option Tmp} {ty : TypeId} {pos : String} {aft : Array Edge} {gd : Option (Nat × Bool)} {fr : Nat} {S : Store} {Γ : Tab}

/-- A load out of cells that are known. -/
theorem run_loadVar_cells {w : World} {t : Nat} {r : TR} {d : TypeDesc} {i : TypeInfo} (ok : TrOk P t r d i) {b o off : Nat} {cs : List C} {l : List Value} {γ : Nat → G} {F : Nat → Prop} {w0 : World} {v : AV}
    (hcell : ∀ j u, l[j]? = some u → w.cell? ⟨b, o + j, none⟩ = some u) (hv : partA r.agg r.size off cs = some v) (hr : All2 (RepC γ F w0) cs l) :
    ∃ u, (loadVar t ⟨b, o + off, none⟩).run P w = .ok u w ∧ RepA γ F w0 v u := by
  unfold partA at hv
  unfold loadVar
  simp only [Sem.run_bind, ok.isAgg, Result.andThen_ok, Sem.run_ite, ok.sizeOf]
  cases ha : r.agg with
  | true =>
    rw [ha] at hv
    simp only [cond_true] at hv
    cases hb : Nat.ble (off + r.size) cs.length with
    | false => simp [hb] at hv
    | true =>
      simp only [hb, cond_true, Option.some.injEq] at hv
      subst hv
      have hlen := hr.length
      have hbl : off + r.size ≤ cs.length := by simpa using hb
      have hl := run_loadCells_list (P := P) w ⟨b, o + off, none⟩ ((l.drop off).take r.size) (fun j u hj => by
        rw [addr_add, Nat.add_assoc]
        simp only [List.getElem?_take, List.getElem?_drop] at hj
        split at hj
        · exact hcell _ _ hj
        · cases hj)
      have hn : ((l.drop off).take r.size).length = r.size := by simp; omega
      rw [hn] at hl
      refine ⟨_, by simp [hl], _, rfl, (hr.drop off).take r.size⟩
  | false =>
    rw [ha] at hv
    simp only [cond_false] at hv
    split at hv
    · rename_i c hco
      injection hv with hv
      subst hv
      obtain ⟨u, hu, hrep⟩ := hr.get off c hco
      refine ⟨u, ?_, hrep⟩
      have := hcell _ _ hu
      simp [this]
    · cases hv

theorem cell_of_heap {w : World} {b j : Nat} {cur : Array Value} {E : TypeId} {fz : Nat × Nat} (h : w.heap[b]? = some (.cells cur E fz)) : w.cell? ⟨b, j, none⟩ = cur[j]? := by simp [World.cell?, h]

/-- An element of a row. -/
theorem row_elem {F : Nat → Prop} {g : G} {w : World} {E : Nat} {e : Ty} {m : RowK} {xs : List e.den} (h : RowOk F g w E e m xs) {b : Nat} (hb : g.blk = some b) {i : Nat} {x : e.den} (hx : xs[i]? = some x) :
    ∃ l, RepD F w e x l ∧ ∀ j u, l[j]? = some u → w.cell? ⟨b, i * e.size + j, none⟩ = some u := by
  obtain ⟨_, _, ⟨hn, _⟩ | ⟨b', cur, fz, flat, h1, h2, h3, h4, h5, h6, h7, _⟩⟩ := h
  · rw [hn] at hb; cases hb
  · rw [h1] at hb
    injection hb with hb
    subst hb
    obtain ⟨l, hl, hc⟩ := h7.at i x hx
    refine ⟨l, hl, fun j u hu => ?_⟩
    have := hc j u hu
    rw [← h6, List.getElem?_take] at this
    split at this
    · rw [cell_of_heap h2]; simpa using this
    · cases this

theorem intCells_rep {γ : Nat → G} {F : Nat → Prop} {w : World} : ∀ {cs : List C} {l : List Value} {k : IntKind} {ns : List Int}, intCells cs = some (k, ns) → All2 (RepC γ F w) cs l → l = ns.map (Value.int k) ∧ cs = ns.map (C.int k)
  | [], _, _, _, h, _ => by simp [intCells] at h
  | [.int k n], l, k', ns, h, hr => by
    simp only [intCells, Option.some.injEq, Prod.mk.injEq] at h
    obtain ⟨rfl, rfl⟩ := h
    obtain ⟨v, rfl, hv⟩ := all2_one hr
    simp only [RepC] at hv
    subst hv
    exact ⟨rfl, rfl⟩
  | .int k n :: c :: cs, l, k', ns, h, hr => by
    rw [intCells] at h
    · split at h
      · rename_i k2 ns2 h2
        split at h
        · rename_i hk
          subst hk
          simp only [Option.some.injEq, Prod.mk.injEq] at h
          obtain ⟨rfl, rfl⟩ := h
          match l, hr with
          | v :: l, hr =>
            obtain ⟨h3, h4⟩ := intCells_rep h2 hr.2
            have := hr.1
            simp only [RepC] at this
            subst this
            exact ⟨by rw [h3]; rfl, by rw [h4]; rfl⟩
        · cases h
      · cases h
    · intro h; cases h
  | .bool _ :: _, _, _, _, h, _ => by simp [intCells] at h
  | .str _ :: _, _, _, _, h, _ => by simp [intCells] at h
  | .ro _ _ :: _, _, _, _, h, _ => by simp [intCells] at h
  | .emp :: _, _, _, _, h, _ => by simp [intCells] at h
  | .own _ :: _, _, _, _, h, _ => by simp [intCells] at h
  | .ptr _ _ :: _, _, _, _, h, _ => by simp [intCells] at h
  | .eptr _ _ _ :: _, _, _, _, h, _ => by simp [intCells] at h
  | .aptr _ _ _ _ :: _, _, _, _, h, _ => by simp [intCells] at h
  | .rptr _ _ _ :: _, _, _, _, h, _ => by simp [intCells] at h
  | .fn _ _ :: _, _, _, _, h, _ => by simp [intCells] at h
  | .nil _ :: _, _, _, _, h, _ => by simp [intCells] at h
  | .dead :: _, _, _, _, h, _ => by simp [intCells] at h

theorem sem_load (hΓ : tabIs P Γ = true) (t : TypeId) (x : Operand) (ax : AV) : ResSem (OpSem P ⟨dst, .load t x, ty, pos, aft, gd⟩ [ax] fr S) (loadA Γ t ax S) := by
  unfold loadA
  split
  · trivial
  · rename_i r hr
    obtain ⟨d, i, ok⟩ := trOf_ok hΓ hr
    have fin : ∀ (a : Act) (w : World) (ad : Addr) (u : Value), a.eval x = .pointer (some ad) → (loadVar t ad).run P w = .ok u w → (execOp a.eval ⟨dst, .load t x, ty, pos, aft, gd⟩).run P w = .ok (.value u) w := by
      intro a w ad u h1 h2
      simp [execOp, Instr.loadAt, h1, Instr.sureAddr, h2]
    split
    · rename_i tok off
      split
      · rename_i cs hS
        split
        · rename_i v hv
          refine OpSem.pure fun γ F w a hI hA => ?_
          obtain ⟨b, hb, hp⟩ := hA.1
          obtain ⟨b', cur, E, h1, h2, h3, h4⟩ := hI.blk tok _ hS
          rw [h1] at hb
          injection hb with hb
          subst hb
          obtain ⟨u, hu, hrep⟩ := run_loadVar_cells ok (b := b') (o := 0) (off := off) (w := w) (fun j u hj => by rw [Nat.zero_add, cell_of_heap h2]; simpa using hj) hv h4
          rw [Nat.zero_add] at hu
          exact ⟨u, fin a w _ u hp hu, hrep⟩
        · trivial
      · trivial
    · rename_i tok j fo
      split
      · rename_i E e m xs hS
        split
        · rename_i v hv
          refine OpSem.pure fun γ F w a hI hA => ?_
          obtain ⟨b, hb, h0, hlt, hp⟩ := hA.1
          have hrow : RowOk F (γ tok) w E e m xs := hI.blk tok _ hS
          have hlen : j.toNat < xs.length := by rw [← hrow.1]; exact hlt
          have hget : xs[j.toNat]? = some (xs.getD j.toNat e.dflt) := by simp [List.getD, List.getElem?_eq_getElem hlen]
          obtain ⟨l, hl, hc⟩ := row_elem hrow hb hget
          obtain ⟨u, hu, hrep⟩ := run_loadVar_cells ok (b := b) (o := j.toNat * e.size) (off := fo) (w := w) hc hv (explode_rep (γ := γ) hl)
          refine ⟨u, fin a w _ u hp ?_, hrep⟩
          rw [hrow.2.1]
          exact hu
        · trivial
      · trivial
    · rename_i e y fo
      split
      · rename_i v hv
        refine OpSem.pure fun γ F w a hI hA => ?_
        obtain ⟨ad, l, h1, h2, h3, h4⟩ := hA.1
        obtain ⟨u, hu, hrep⟩ := run_loadVar_cells ok (b := ad.block) (o := ad.off) (off := fo) (w := w) h3 hv (explode_rep (γ := γ) h2)
        exact ⟨u, fin a w _ u h4 hu, hrep⟩
      · trivial
    · rename_i tok off n j
      split
      · rename_i cs hS
        cases hb : Nat.ble (off + n) cs.length with
        | false => trivial
        | true =>
          simp only [cond_true]
          split
          · rename_i k ns hns hag
            refine OpSem.pure fun γ F w a hI hA => ?_
            obtain ⟨b, hbk, h0, hlt, hp⟩ := hA.1
            obtain ⟨b', cur, E, h1, h2, h3, h4⟩ := hI.blk tok _ hS
            rw [h1] at hbk
            injection hbk with hbk
            subst hbk
            obtain ⟨hl, hcs⟩ := intCells_rep hns ((h4.drop off).take n)
            have hbl : off + n ≤ cs.length := by simpa using hb
            have hlen4 := h4.length
            have hnl : ns.length = n := by
              have := congrArg List.length hcs
              simp at this
              omega
            have hju : cur.toList[off + j.toNat]? = some (.int k (ns.getD j.toNat 0)) := by
              have h5 := congrArg (·[j.toNat]?) hl
              simp only [List.getElem?_take, List.getElem?_drop, if_pos hlt, List.getElem?_map] at h5
              rw [h5, List.getElem?_eq_getElem (by omega)]
              simp [List.getD, List.getElem?_eq_getElem (show j.toNat < ns.length by omega)]
            refine ⟨_, fin a w _ (.int k (ns.getD j.toNat 0)) hp ?_, rfl⟩
            unfold loadVar
            have hag' : r.agg = false := hag
            simp only [Sem.run_bind, ok.isAgg, Result.andThen_ok, Sem.run_ite, hag', Bool.false_eq_true, if_false, run_load, cell_of_heap h2]
            have : cur[off + j.toNat]? = some (.int k (ns.getD j.toNat 0)) := by simpa using hju
            simp [this]
          · trivial
      · trivial
    · trivial
end
end Go.Ab
