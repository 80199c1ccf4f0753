/- Values built; rows made. -/
import Derived.Test.YtioagofpofamiaaAb10
/-! Values built; rows made. -/
set_option linter.unusedVariables false
set_option linter.unusedSimpArgs false
namespace Go.Ab

theorem foldl_zip {α : Type} (off : Nat) : ∀ (l : List α) (k : Nat) (cs : Array α), off + k + l.length ≤ cs.size → ((l.zipIdx k).foldl (fun cs (p : α × Nat) => cs.setIfInBounds (off + p.2) p.1) cs).toList = spl cs.toList (off + k) l
  | [], k, cs, _ => by simp [spl]
  | v :: l, k, cs, h => by
    simp only [List.zipIdx_cons, List.foldl_cons]
    rw [foldl_zip off l (k + 1) _ (by simp at h ⊢; omega), Array.toList_setIfInBounds, ← Nat.add_assoc]
    exact spl_cons _ _ _ _ (by simp at h ⊢; omega)

section
variable {P : Program} {dst : Option Tmp} {ty : TypeId} {pos : String} {aft : Array Edge} {gd : Option (Nat × Bool)} {fr : Nat} {S : Store} {Γ : Tab}

theorem fill_rep {γ : Nat → G} {F : Nat → Prop} {w : World} {place places : Nat → Option (Nat × Nat)} : ∀ {is : List Nat} {avs : List AV} {vs : List Value} {zs cs : List C} {cells : Array Value}, partsA places is avs zs = some cs → (∀ i ∈ is, ∀ p, places i = some p → place i = some p) →
    All2 (RepC γ F w) zs cells.toList → All2 (RepA γ F w) avs vs → (∀ x ∈ avs, match x with | .v y => y.cells.all C.live = true | _ => True) → ∃ cells', Instr.fill place cells (is.zip vs) = some cells' ∧ All2 (RepC γ F w) cs cells'.toList
  | [], [], vs, zs, cs, cells, h, _, hz, hv, _ => by
    simp only [partsA, Option.some.injEq] at h
    subst h
    exact ⟨cells, by simp [Instr.fill], hz⟩
  | i :: is, .v x :: avs, v :: vs, zs, cs, cells, h, hp, hz, hv, hl => by
    simp only [partsA] at h
    split at h
    · rename_i off size hpl
      cases hb : Nat.beq x.cells.length size && Nat.ble (off + size) zs.length with
      | false => rw [hb] at h; cases h
      | true =>
        rw [hb] at h
        simp only [cond_true] at h
        simp only [Bool.and_eq_true, Nat.beq_eq, Nat.ble_eq] at hb
        have hcl := cells_of_rep hv.1 (hl (.v x) (by simp))
        have hlen := hcl.length
        have hlz := hz.length
        have hvs : v.cells.size = size := by simp at hlen; omega
        have hfit : off + v.cells.size ≤ cells.size := by simp at hlz; omega
        have hf := foldl_zip off v.cells.toList 0 cells (by simpa using hfit)
        obtain ⟨cells', h1, h2⟩ := fill_rep (cells := (v.cells.toList.zipIdx 0).foldl (fun cs (p : Value × Nat) => cs.setIfInBounds (off + p.2) p.1) cells) h (fun j hj => hp j (by simp [hj])) (by rw [hf]; exact hz.spl _ hcl) hv.2 (fun y hy => hl y (by simp [hy]))
        refine ⟨cells', ?_, h2⟩
        rw [← h1]
        simp only [List.zip_cons_cons, Instr.fill, hp i (by simp) _ hpl]
        rw [if_neg (by simp [hvs]; omega)]
        congr 1
        rw [← Array.foldl_toList]
        simp
    · cases h
  | [], _ :: _, _, _, _, _, h, _, _, _, _ => by simp [partsA] at h
  | _ :: _, [], _, _, _, _, h, _, _, _, _ => by simp [partsA] at h
  | _ :: _, .tup _ :: _, _, _, _, _, h, _, _, _, _ => by simp [partsA] at h
  | _ :: _, .undef :: _, _, _, _, _, h, _, _, _, _ => by simp [partsA] at h
  | _ :: _, .v _ :: _, [], _, _, _, _, _, _, h, _ => h.elim

theorem zip_map_operands {a : Act} (ps : List (Nat × Operand)) : (ps.map fun p => (p.1, a.eval p.2)) = (ps.map (·.1)).zip ((ps.map (·.2)).map a.eval) := by
  induction ps with
  | nil => rfl
  | cons p ps ih => simp [ih]

theorem run_places {w : World} : ∀ (fs : List Field) (l : List (Nat × Nat × Nat)), fieldsAre P fs l = true → (fs.mapM (fun f : Field => (do let s ← Go.sizeOf f.type; pure (f.offset, s) : Sem (Nat × Nat)))).run P w = .ok (l.map fun p => (p.2.1, p.2.2)) w
  | [], [], _ => by simp
  | f :: fs, (t, o, s) :: l, h => by
    simp only [fieldsAre, Bool.and_eq_true, Nat.beq_eq] at h
    obtain ⟨⟨rfl, rfl, hs⟩, h⟩ := h
    have ih := run_places (w := w) fs l h
    have hi : ∃ i, P.info? f.type = some i ∧ i.size = s := by
      split at hs
      · rename_i i hi; exact ⟨i, hi, by simpa using hs⟩
      · cases hs
    obtain ⟨i, hi, hsz⟩ := hi
    simp only [List.mapM_cons, Sem.run_bind, Go.sizeOf, typeInfo, run_program, hi, Result.andThen_ok, Sem.run_pure, hsz, List.map_cons]
    simp only [Go.sizeOf, typeInfo] at ih
    rw [ih]
    rfl
  | [], _ :: _, h => by simp [fieldsAre] at h
  | _ :: _, [], h => by simp [fieldsAre] at h

theorem sem_build (hΓ : tabIs P Γ = true) (t : TypeId) (ps : Array (Nat × Operand)) (vs : List AV) (hl : vs.all liveA = true) : ResSem (OpSem P ⟨dst, .build t ps, ty, pos, aft, gd⟩ vs fr S) (buildA Γ t (ps.toList.map (·.1)) vs S) := by
  have hl' : ∀ x ∈ vs, match x with | .v y => y.cells.all C.live = true | _ => True := by
    intro x hx
    have := List.all_eq_true.1 hl x hx
    cases x <;> simp_all [liveA]
  unfold buildA
  split
  · rename_i fs sz by_ ag z eq hr
    split
    · rename_i cs hcs
      obtain ⟨d, i, ok⟩ := trOf_ok hΓ hr
      obtain ⟨sf, hd, hfs⟩ := descIs_struct ok.desc rfl
      obtain ⟨v, hv, hzs, hsz, _⟩ := ok.zero z rfl
      have hund : P.underlying t = some (.struct sf) := by rw [ok.und, hd]
      refine OpSem.pure fun γ F w a hI hA => ?_
      have hA' : All2 (RepA γ F w) vs ((ps.toList.map (·.2)).map a.eval) := by
        have := all2_args hA
        simpa [Op.operands] using this
      obtain ⟨cells', h1, h2⟩ := fill_rep (place := fun i => (fs.map fun p => (p.2.1, p.2.2)).toArray[i]?) hcs (fun i _ p hp => by
        simp only [List.getElem?_toArray, List.getElem?_map]
        split at hp
        · rename_i t' o' s' hfi
          injection hp with hp
          subst hp
          simp [hfi]
        · cases hp) (zerosAre_rep hzs) hA' hl'
      have hp := run_places (P := P) (w := w) sf.toList fs hfs
      refine ⟨.agg cells', ?_, cells'.toList, by simp, h2⟩
      have hm : (sf.mapM (fun f : Field => (do let s ← Go.sizeOf f.type; pure (f.offset, s) : Sem (Nat × Nat)))).run P w = .ok (fs.map fun p => (p.2.1, p.2.2)).toArray w := by
        rw [Array.mapM_eq_mapM_toList, Sem.run_map, hp]
        rfl
      have hparts : (Array.map (fun (i, x) => (i, a.eval x)) ps).toList = (ps.toList.map (·.1)).zip ((ps.toList.map (·.2)).map a.eval) := by
        rw [Array.toList_map]
        exact zip_map_operands _
      simp only [execOp, Instr.build, Sem.run_bind, zeroValue, typeInfo, run_program, ok.inf, Result.andThen_ok, Sem.run_pure, hv, run_underlying hund]
      rw [hm]
      simp only [Result.andThen_ok, hparts, h1, Sem.run_pure]
    · trivial
  · rename_i n e sz by_ ag z eq hr
    split
    · rename_i r hre
      split
      · rename_i cs hcs
        obtain ⟨d, i, ok⟩ := trOf_ok hΓ hr
        have hd := descIs_array ok.desc rfl
        obtain ⟨v, hv, hzs, hsz, _⟩ := ok.zero z rfl
        have hund : P.underlying t = some (.array n e) := by rw [ok.und, hd]
        obtain ⟨d', i', ok'⟩ := trOf_ok hΓ hre
        refine OpSem.pure fun γ F w a hI hA => ?_
        have hA' : All2 (RepA γ F w) vs ((ps.toList.map (·.2)).map a.eval) := by
          have := all2_args hA
          simpa [Op.operands] using this
        obtain ⟨cells', h1, h2⟩ := fill_rep (place := fun i => some (i * r.size, r.size)) hcs (fun i _ p hp => hp) (zerosAre_rep hzs) hA' hl'
        refine ⟨.agg cells', ?_, cells'.toList, by simp, h2⟩
        have hparts : (Array.map (fun (i, x) => (i, a.eval x)) ps).toList = (ps.toList.map (·.1)).zip ((ps.toList.map (·.2)).map a.eval) := by
          rw [Array.toList_map]
          exact zip_map_operands _
        simp only [execOp, Instr.build, Sem.run_bind, zeroValue, typeInfo, run_program, ok.inf, Result.andThen_ok, Sem.run_pure, hv, run_underlying hund, ok'.sizeOf, hparts, h1]
      · trivial
    · trivial
  · trivial

/-- A new row, of which the cells are known. -/
theorem sem_newRow {γ : Nat → G} {F : Nat → Prop} {w w' : World} {E cap : Nat} {e : Ty} {m : RowK} {xs : List e.den} {arr : Array Value} {fz : Nat × Nat} (hI : Inv F γ S w) (hlt : StoLt fr S) (h : NewBlk w w' (.cells arr E fz))
    (hc : xs.length ≤ cap) (hm : cap ≤ maxLen) (hs : arr.size = cap * e.size) (hf : Flat F w e xs (arr.toList.take (xs.length * e.size))) (hz : match m with | .plain => fz = (0, 0) | .mark => arr.size ≤ fz.1 | .frz => False) :
    ∃ γ', Post fr γ F w S γ' F w' (S ++ [(fr, .row E e m xs)]) ∧ RepA γ' F w' (one (.own fr)) (.slice (some ⟨w.heap.size, 0, none⟩) xs.length cap) := by
  refine ⟨setG γ fr ⟨some w.heap.size, xs.length, cap, e.size⟩, Post.new hI hlt h rfl ?_, ?_⟩
  · show RowOk F (setG γ fr _ fr) w' E e m xs
    rw [setG_self]
    have hnF : ¬ F w.heap.size := fun hF => by have := hI.fz _ hF; omega
    refine ⟨rfl, rfl, .inr ⟨w.heap.size, arr, fz, _, rfl, h.new, hc, hm, hs, rfl, hf.lasts (hI.lasts_new h), ?_⟩⟩
    cases m with
    | plain => exact ⟨hnF, hz⟩
    | mark => exact ⟨hnF, hz⟩
    | frz => exact hz.elim
  · show _ = (setG γ fr _ fr).val
    rw [setG_self]
    rfl

theorem zeros_flat {F : Nat → Prop} {w : World} {e : Ty} {z : List Value} (hz : RepD F w e e.dflt z) : ∀ n, Flat F w e (List.replicate n e.dflt) ((List.replicate n z).flatten)
  | 0 => by simp [Flat]
  | n + 1 => ⟨z, _, by simp [List.replicate_succ], hz, zeros_flat hz n⟩

theorem madeCells_flat (z : Array Value) (n : Nat) (hz : 0 < z.size) : (madeCells z (n * z.size)).toList = (List.replicate n z.toList).flatten := by
  apply List.ext_getElem?
  intro q
  simp only [madeCells, Array.toList_map, Array.toList_range, List.getElem?_map]
  by_cases hq : q < n * z.size
  · have h1 : (List.range (n * z.size))[q]? = some q := by simp [hq]
    rw [h1]
    have hm : q % z.size < z.size := Nat.mod_lt _ hz
    simp only [Option.map_some]
    have : ∀ (k : Nat) (q : Nat), q < k * z.size → ((List.replicate k z.toList).flatten)[q]? = some (z[q % z.size]!) := by
      intro k
      induction k with
      | zero => intro q h; simp at h
      | succ k ih =>
        intro q h
        rw [List.replicate_succ, List.flatten_cons, List.getElem?_append]
        simp only [Array.length_toList]
        by_cases h2 : q < z.size
        · rw [if_pos h2, Nat.mod_eq_of_lt h2]
          simp [h2]
        · rw [if_neg h2, ih (q - z.size) (by rw [Nat.add_mul] at h; omega)]
          congr 2
          rw [← Nat.mod_eq_sub_mod (by omega)]
    rw [this n q hq]
  · have h1 : (List.range (n * z.size))[q]? = none := by simp; omega
    rw [h1]
    simp only [Option.map_none]
    symm
    apply List.getElem?_eq_none
    rw [List.length_flatten]
    simp
    omega

theorem run_make_new {w : World} {t E : Nat} {i : TypeInfo} {z : Value} (ht : P.underlying t = some (.slice E)) (hi : P.info? E = some i) (hz : i.zero = some z) (l c : Int) (h0 : 0 ≤ l) (hlc : l ≤ c) (hbytes : c * i.bytes ≤ 281474976710656) (h63 : c ≤ 9223372036854775807) :
    (Instr.makeSlice t (.int .i64 l) (.int .i64 c)).run P w = .ok (.slice (some ⟨w.heap.size, 0, none⟩) l.toNat c.toNat) (w.alloc (.cells (madeCells z.cells (c.toNat * i.size)) E)) :=
  run_make w t E i z ht hi hz .i64 .i64 l c h0 hlc (by rw [Int.mul_comm]; exact hbytes) h63

theorem sameOp_eq {a : Act} {x y : Operand} {n m : Int} (h : sameOp x y = true) (hx : a.eval x = .int .i64 n) (hy : a.eval y = .int .i64 m) : n = m := by
  unfold sameOp at h
  split at h
  · rename_i i j
    rw [Nat.beq_eq] at h
    subst h
    rw [hx] at hy
    injection hy
  · rename_i p q
    simp only [decide_eq_true_eq] at h
    subst h
    rw [hx] at hy
    injection hy
  · cases h

theorem sem_make (hΓ : tabIs P Γ = true) (t : TypeId) (x y : Operand) (ax ay : AV) : ResSem (OpSem P ⟨dst, .makeSlice t x y, ty, pos, aft, gd⟩ [ax, ay] fr S) (makeA Γ t (sameOp x y) ax ay fr S) := by
  unfold makeA
  split
  · rename_i E te sz by_ ag z eq n c hr
    obtain ⟨d, i, ok⟩ := trOf_ok hΓ hr
    obtain ⟨hd, ei, hei, hsz, hdf⟩ := descIs_slice ok.desc rfl
    have hund : P.underlying t = some (.slice E) := by rw [ok.und, hd]
    split
    · rename_i hre
      obtain ⟨d', i', ok'⟩ := trOf_ok hΓ hre
      have hii : i' = ei := by have := ok'.inf; rw [hei] at this; injection this with this; exact this.symm
      subst hii
      obtain ⟨v, hv, hzs, hvs, _⟩ := ok'.zero _ rfl
      have hdfl := hdf v hv
      have hby := ok'.bytes
      simp only at hby
      have hvsz : v.cells.size = te.size := by rw [hvs, ← hsz]; exact ok'.size.symm
      have hdr : ∀ (F : Nat → Prop) (w : World), RepD F w te te.dflt v.cells.toList := by
        intro F w
        obtain ⟨m, hm, hr⟩ := dfltIs_rep (F := F) (w := w) hdfl
        rw [List.append_nil] at hm
        rw [hm]
        exact hr
      cases hsame : sameOp x y with
      | true =>
        intro hc
        simp only [Bool.and_eq_true, decide_eq_true_eq] at hc
        intro γ F w a hI hlt _ hA next Q hn
        have hx : a.eval x = .int .i64 n := hA.1
        have hy : a.eval y = .int .i64 c := hA.2.1
        have hnc := sameOp_eq hsame hx hy
        subst hnc
        have hrun := run_make_new (P := P) (w := w) hund hei hv n n hc.1.1 (Int.le_refl _) (by rw [hby]; omega) (by omega)
        rw [hsz, ← hvsz] at hrun
        have hflat := madeCells_flat v.cells n.toNat (by rw [hvsz]; exact te.size_pos)
        obtain ⟨γ', hp, hrp⟩ := sem_newRow (m := .plain) (e := te) (xs := List.replicate n.toNat te.dflt) (cap := n.toNat) hI hlt (NewBlk.alloc w (.cells (madeCells v.cells (n.toNat * v.cells.size)) E))
          (by simp) (by simp only [maxLen]; omega) (by rw [size_madeCells, hvsz]) (by
            rw [hflat, List.take_of_length_le (by simp [hvsz])]
            exact zeros_flat (hdr F w) _) rfl
        rw [List.length_replicate] at hrp
        exact wp_of_value (by simp only [execOp, hx, hy]; rw [Sem.run_bind, hrun]; rfl) (hn _ γ' F _ hp hrp)
      | false =>
        simp only [cond_false]
        cases hn0 : decide (n = 0) with
        | false => trivial
        | true =>
          intro hc
          simp only [Bool.and_eq_true, decide_eq_true_eq] at hc hn0
          intro γ F w a hI hlt _ hA next Q hn
          have hx : a.eval x = .int .i64 n := hA.1
          have hy : a.eval y = .int .i64 c := hA.2.1
          subst hn0
          have hrun := run_make_new (P := P) (w := w) hund hei hv 0 c (Int.le_refl _) hc.1.1 (by rw [hby]; omega) (by omega)
          rw [hsz, ← hvsz] at hrun
          obtain ⟨γ', hp, hrp⟩ := sem_newRow (m := .plain) (e := te) (xs := []) (cap := c.toNat) hI hlt (NewBlk.alloc w (.cells (madeCells v.cells (c.toNat * v.cells.size)) E))
            (by simp) (by simp only [maxLen]; omega) (by rw [size_madeCells, hvsz]) (by simp [Flat]) rfl
          exact wp_of_value (by simp only [execOp, hx, hy]; rw [Sem.run_bind, hrun]; rfl) (hn _ γ' F _ hp hrp)
    · trivial
  · trivial

theorem elemsA_flat {γ : Nat → G} {F : Nat → Prop} {w : World} {e : Ty} : ∀ {avs : List AV} {vs : List Value} {xs : List e.den}, elemsA e avs = some xs → All2 (RepA γ F w) avs vs → Flat F w e xs (vs.flatMap fun v => v.cells.toList)
  | [], [], xs, h, _ => by simp only [elemsA, Option.some.injEq] at h; subst h; rfl
  | .v x :: avs, v :: vs, xs, h, hr => by
    simp only [elemsA] at h
    split at h
    · rename_i y ys hy hys
      injection h with h
      subst h
      have hlive : x.cells.all C.live = true := by
        have : ∀ (t : Ty) (cs : List C) (z : t.den) (r : List C), t.implode cs = some (z, r) → (∀ c ∈ cs, c ∈ r ∨ c.live = true) := by
          intro t
          induction t with
          | int k => intro cs z r h c hc; simp only [Ty.implode] at h; split at h <;> try (cases h; done)
                     split at h <;> try (cases h; done)
                     injection h with h; injection h with h1 h2; subst h2
                     rcases List.mem_cons.1 hc with rfl | hc
                     · exact .inr rfl
                     · exact .inl hc
          | bool => intro cs z r h c hc; simp only [Ty.implode] at h; split at h <;> try (cases h; done)
                    injection h with h; injection h with h1 h2; subst h2
                    rcases List.mem_cons.1 hc with rfl | hc
                    · exact .inr rfl
                    · exact .inl hc
          | str => intro cs z r h c hc; simp only [Ty.implode] at h; split at h <;> try (cases h; done)
                   injection h with h; injection h with h1 h2; subst h2
                   rcases List.mem_cons.1 hc with rfl | hc
                   · exact .inr rfl
                   · exact .inl hc
          | slice e _ =>
            intro cs z r h c hc
            simp only [Ty.implode] at h
            split at h
            · split at h <;> try (cases h; done)
              injection h with h; injection h with h1 h2; subst h2
              rcases List.mem_cons.1 hc with rfl | hc
              · exact .inr rfl
              · exact .inl hc
            · injection h with h; injection h with h1 h2; subst h2
              rcases List.mem_cons.1 hc with rfl | hc
              · exact .inr rfl
              · exact .inl hc
            · cases h
          | pair a b iha ihb =>
            intro cs z r h c hc
            simp only [Ty.implode] at h
            split at h <;> try (cases h; done)
            rename_i y c1 h1
            split at h <;> try (cases h; done)
            rename_i y' c2 h2
            injection h with h; injection h with e1 e2; subst e2
            rcases iha _ _ _ h1 c hc with hc | hc
            · exact ihb _ _ _ h2 c hc
            · exact .inr hc
        unfold Ty.whole at hy
        split at hy <;> try (cases hy; done)
        rename_i z hz
        rw [List.all_eq_true]
        intro c hc
        rcases this _ _ _ _ hz c hc with h | h
        · simp at h
        · exact h
      have hcl := cells_of_rep hr.1 hlive
      exact ⟨v.cells.toList, _, rfl, whole_rep hy hcl, elemsA_flat hys hr.2⟩
    · cases h
  | [], _ :: _, _, _, h => h.elim
  | .v _ :: _, [], _, _, h => h.elim
  | .tup _ :: _, _, _, h, _ => by simp [elemsA] at h
  | .undef :: _, _, _, h, _ => by simp [elemsA] at h
end
end Go.Ab
