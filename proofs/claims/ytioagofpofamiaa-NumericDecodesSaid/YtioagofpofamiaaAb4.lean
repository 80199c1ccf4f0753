/- Operations that reckon, and that read. -/
import Derived.Test.YtioagofpofamiaaAb3
import Derived.Laws.StructEq
/-! Operations that reckon, and that read. -/
set_option linter.unusedVariables false
set_option linter.unusedSimpArgs false
namespace Go.Ab
section
variable {P : Program} {dst : Option Tmp} {ty : TypeId} {pos : String} {aft : Array Edge} {gd : Option (Nat × Bool)} {fr : Nat} {S : Store}

theorem run_bin {op : BinOp} {t yt : TypeId} {x y : Operand} {a : Act} {w : World} {u : Value} (hg : (eqGuard op t x y (a.eval x) (a.eval y)).run P w = .ok () w) (hb : (Go.binOp op t (a.eval x) (a.eval y)).run P w = .ok u w) :
    (execOp a.eval ⟨dst, .binOp op t x y yt, ty, pos, aft, gd⟩).run P w = .ok (.value u) w := by
  simp [execOp, hg, hb]

/-- The result of an operation on two values that reckons in no memory. -/
theorem sem_bin_of {op : BinOp} {t yt : TypeId} {x y : Operand} {ax ay : AV} {v : AV} {u : Value} (vx vy : Value)
    (hx : ∀ γ F w z, RepA γ F w ax z → z = vx) (hy : ∀ γ F w z, RepA γ F w ay z → z = vy)
    (hg : ∀ w, (eqGuard op t x y vx vy).run P w = .ok () w) (hb : ∀ w, (Go.binOp op t vx vy).run P w = .ok u w) (hv : ∀ γ F w, RepA γ F w v u) :
    OpSem P ⟨dst, .binOp op t x y yt, ty, pos, aft, gd⟩ [ax, ay] fr S v S := by
  refine OpSem.pure fun γ F w a _ hA => ⟨u, ?_, hv γ F w⟩
  have h1 := hx _ _ _ _ hA.1
  have h2 := hy _ _ _ _ hA.2.1
  exact run_bin (by rw [h1, h2]; exact hg w) (by rw [h1, h2]; exact hb w)

theorem sem_int {op : BinOp} {t yt : TypeId} {x y : Operand} {k : IntKind} {m n : Int} (hop : (match op with | .shl | .shr => true | _ => false) = false) :
    ResSem (OpSem P ⟨dst, .binOp op t x y yt, ty, pos, aft, gd⟩ [one (.int k m), one (.int k n)] fr S) (intBin op k m n S) := by
  have go : ∀ (v : AV) (u : Value), (∀ w, (Go.binOp op t (.int k m) (.int k n)).run P w = .ok u w) → (∀ γ F w, RepA γ F w v u) → OpSem P ⟨dst, .binOp op t x y yt, ty, pos, aft, gd⟩ [one (.int k m), one (.int k n)] fr S v S :=
    fun v u hb hv => sem_bin_of (.int k m) (.int k n) (fun _ _ _ _ h => h) (fun _ _ _ _ h => h) (eqGuard_int op t x y k k m n) hb hv
  cases op <;> simp only [intBin] <;> try trivial
  case quo => exact fun hc => go _ (.int k (k.wrap (m.tdiv n))) (fun w => by simp at hc; simp [Go.binOp, Op.intDiv, hc]) fun _ _ _ => rfl
  case rem => exact fun hc => go _ (.int k (m.tmod n)) (fun w => by simp at hc; simp [Go.binOp, Op.intDiv, hc]) fun _ _ _ => rfl
  case add => exact go _ (.int k (k.wrap (m + n))) (fun w => by simp [Go.binOp, Op.intArith]) fun _ _ _ => rfl
  case sub => exact go _ (.int k (k.wrap (m - n))) (fun w => by simp [Go.binOp, Op.intArith]) fun _ _ _ => rfl
  case mul => exact go _ (.int k (k.wrap (m * n))) (fun w => by simp [Go.binOp, Op.intArith]) fun _ _ _ => rfl
  case and => exact go _ (.int k (bits .and k m n)) (fun w => by simp [Go.binOp, Op.intBits, bits]) fun _ _ _ => rfl
  case or => exact go _ (.int k (bits .or k m n)) (fun w => by simp [Go.binOp, Op.intBits, bits]) fun _ _ _ => rfl
  case xor => exact go _ (.int k (bits .xor k m n)) (fun w => by simp [Go.binOp, Op.intBits, bits]) fun _ _ _ => rfl
  case andNot => exact go _ (.int k (bits .andNot k m n)) (fun w => by simp [Go.binOp, Op.intBits, bits]) fun _ _ _ => rfl
  case eql => exact go _ (.bool (m == n)) (fun w => by simp [Go.binOp, Op.intCmp]) fun _ _ _ => rfl
  case neq => exact go _ (.bool (m != n)) (fun w => by simp [Go.binOp, Op.intCmp]) fun _ _ _ => rfl
  case lss => exact go _ (.bool (decide (m < n))) (fun w => by simp [Go.binOp, Op.intCmp]) fun _ _ _ => rfl
  case leq => exact go _ (.bool (decide (m ≤ n))) (fun w => by simp [Go.binOp, Op.intCmp]) fun _ _ _ => rfl
  case gtr => exact go _ (.bool (decide (m > n))) (fun w => by simp [Go.binOp, Op.intCmp]) fun _ _ _ => rfl
  case geq => exact go _ (.bool (decide (m ≥ n))) (fun w => by simp [Go.binOp, Op.intCmp]) fun _ _ _ => rfl

theorem sem_str {op : BinOp} {t yt : TypeId} {x y : Operand} {m n : ByteArray} :
    ResSem (OpSem P ⟨dst, .binOp op t x y yt, ty, pos, aft, gd⟩ [one (.str m), one (.str n)] fr S) (strBin op m n S) := by
  have go : ∀ (v : AV) (u : Value), (∀ w, (Go.binOp op t (.string m) (.string n)).run P w = .ok u w) → (∀ γ F w, RepA γ F w v u) → OpSem P ⟨dst, .binOp op t x y yt, ty, pos, aft, gd⟩ [one (.str m), one (.str n)] fr S v S :=
    fun v u hb hv => sem_bin_of (.string m) (.string n) (fun _ _ _ _ h => h) (fun _ _ _ _ h => h) (eqGuard_str op t x y m n) hb hv
  cases op <;> simp only [strBin] <;> try trivial
  case add => exact fun hc => go _ (.string (m ++ n)) (fun w => by
    have h : ¬ (9223372036854775807 : Int) < (m.size : Int) + (n.size : Int) := by have := of_decide_eq_true hc; omega
    simp [Go.binOp, Op.stringOp, IntKind.max, IntKind.signed, IntKind.bits, h]) fun _ _ _ => rfl
  case eql => exact go _ (.bool (strEq m n)) (fun w => by simp [Go.binOp, Op.stringOp, strEq]) fun _ _ _ => rfl
  case neq => exact go _ (.bool (!strEq m n)) (fun w => by simp [Go.binOp, Op.stringOp, strEq]) fun _ _ _ => rfl
  case lss => exact go _ (.bool (strLt m n)) (fun w => by simp [Go.binOp, Op.stringOp, strLt]) fun _ _ _ => rfl
  case leq => exact go _ (.bool (strLt m n || strEq m n)) (fun w => by simp [Go.binOp, Op.stringOp, strLt, strEq]) fun _ _ _ => rfl
  case gtr => exact go _ (.bool (!(strLt m n || strEq m n))) (fun w => by simp [Go.binOp, Op.stringOp, strLt, strEq]) fun _ _ _ => rfl
  case geq => exact go _ (.bool (!strLt m n)) (fun w => by simp [Go.binOp, Op.stringOp, strLt, strEq]) fun _ _ _ => rfl

variable {Γ : Tab}

theorem TrOk.isAgg {t : Nat} {r : TR} {d : TypeDesc} {i : TypeInfo} (h : TrOk P t r d i) (w : World) : (isAgg t).run P w = .ok r.agg w := by
  have ha := h.agg
  unfold Go.isAgg
  simp only [Sem.run_bind, run_underlying h.und, Result.andThen_ok]
  cases d <;> simp_all [aggOf]
theorem TrOk.sizeOf {t : Nat} {r : TR} {d : TypeDesc} {i : TypeInfo} (h : TrOk P t r d i) (w : World) : (Go.sizeOf t).run P w = .ok r.size w := by
  simp [Go.sizeOf, typeInfo, h.inf, h.size]

/-- A part of a value, as the abstract one tells it. -/
theorem partA_run {γ : Nat → G} {F : Nat → Prop} {w0 : World} {t : Nat} {r : TR} {d : TypeDesc} {i : TypeInfo} (h : TrOk P t r d i) {off : Nat} {cs : List C} {vs : List Value} {v : AV} (hv : partA r.agg r.size off cs = some v)
    (hc : All2 (RepC γ F w0) cs vs) (w : World) : ∃ u, (part t vs.toArray off).run P w = .ok u w ∧ RepA γ F w0 v u := by
  unfold partA at hv
  unfold part
  simp only [Sem.run_bind, h.isAgg, h.sizeOf, Result.andThen_ok, Sem.run_ite]
  cases ha : r.agg with
  | true =>
    rw [ha] at hv
    simp only [cond_true] at hv
    cases hb : Nat.ble (off + r.size) cs.length with
    | false => simp [hb] at hv
    | true =>
      simp only [hb, cond_true, Option.some.injEq] at hv
      subst hv
      refine ⟨.agg (vs.toArray.extract off (off + r.size)), by simp, _, ?_, (hc.drop off).take r.size⟩
      congr 1
      apply Array.ext'
      simp [List.extract_eq_take_drop]
  | false =>
    rw [ha] at hv
    simp only [cond_false] at hv
    split at hv
    · rename_i c hco
      injection hv with hv
      subst hv
      obtain ⟨u, hu, hr⟩ := hc.get off c hco
      exact ⟨u, by simp [hu], hr⟩
    · cases hv

theorem eqFs_run {f : Nat → List C → List C → Option Bool} {d : Nat} {γ : Nat → G} {F : Nat → Prop} {w0 : World} {xs ys : List C} {vs us : List Value} (hx : All2 (RepC γ F w0) xs vs) (hy : All2 (RepC γ F w0) ys us)
    (hf : ∀ t o s r, f t ((xs.drop o).take s) ((ys.drop o).take s) = some r → (∃ i, P.info? t = some i ∧ i.size = s) → ∀ w : World, ∃ a b, (part t vs.toArray o).run P w = .ok a w ∧ (part t us.toArray o).run P w = .ok b w ∧ (Op.equalIn d t a b).run P w = .ok r w) :
    ∀ {fs : List Field} {l : List (Nat × Nat × Nat)} {r : Bool}, fieldsAre P fs l = true → (fs.all fun f => f.name != "_") = true → eqFs f l xs ys = some r → ∀ w : World, (Op.eqFields d vs.toArray us.toArray fs).run P w = .ok r w
  | [], [], r, _, _, h, w => by
    simp only [eqFs, Option.some.injEq] at h
    subst h
    simp [Op.eqFields]
  | g :: fs, (t, o, s) :: l, r, hfs, hn, h, w => by
    simp only [fieldsAre, Bool.and_eq_true, Nat.beq_eq] at hfs
    obtain ⟨⟨rfl, rfl, hs⟩, hfs⟩ := hfs
    simp only [List.all_cons, Bool.and_eq_true, bne_iff_ne] at hn
    simp only [eqFs] at h
    split at h
    · rename_i a b ha hb
      injection h with h
      subst h
      have hi : ∃ i, P.info? g.type = some i ∧ i.size = s := by
        split at hs
        · rename_i i hi; exact ⟨i, hi, by simpa using hs⟩
        · cases hs
      obtain ⟨u, v, h1, h2, h3⟩ := hf _ _ _ _ ha hi w
      have ih := eqFs_run hx hy hf hfs hn.2 hb
      simp only [Op.eqFields, hn.1, ne_eq, not_false_eq_true, if_true, Sem.run_bind, h1, h2, h3, Result.andThen_ok]
      cases a
      · simp
      · simp [ih w]
    · cases h
  | [], _ :: _, _, h, _, _, _ => by simp [fieldsAre] at h
  | _ :: _, [], _, h, _, _, _ => by simp [fieldsAre] at h

theorem info_TrOk {t : Nat} {r : TR} {d : TypeDesc} {i j : TypeInfo} (h : TrOk P t r d i) (hj : P.info? t = some j) : j = i := by
  have := h.inf
  rw [hj] at this
  injection this

theorem eqTy_run (hΓ : tabIs P Γ = true) {γ : Nat → G} {F : Nat → Prop} {w0 : World} : ∀ (n : Nat) {t : Nat} {xs ys : List C} {vs us : List Value} {r : Bool}, All2 (RepC γ F w0) xs vs → All2 (RepC γ F w0) ys us → eqTy Γ n t xs ys = some r →
    ∀ (d : Nat), n ≤ d → ∀ (tr : TR), trOf Γ t = some tr → ∀ w : World, ∃ a b, (if tr.agg then a = .agg vs.toArray ∧ b = .agg us.toArray else vs = [a] ∧ us = [b]) ∧ (Op.equalIn d t a b).run P w = .ok r w
  | 0, _, _, _, _, _, _, _, _, h => by simp [eqTy] at h
  | n + 1, t, xs, ys, vs, us, r, hx, hy, h => by
    intro d hd tr htr w
    obtain ⟨d, rfl⟩ : ∃ m, d = m + 1 := ⟨d - 1, by omega⟩
    simp only [eqTy, htr] at h
    obtain ⟨td, ti, ok⟩ := trOf_ok hΓ htr
    have hagg := ok.agg
    have hdesc := ok.desc
    split at h
    · rename_i q k a k' b hq
      split at h
      · rename_i hk
        subst hk
        injection h with h
        subst h
        obtain ⟨v, rfl, hv⟩ := all2_one hx
        obtain ⟨u, rfl, hu⟩ := all2_one hy
        simp only [RepC] at hv hu
        subst hv hu
        unfold descIs at hdesc
        rw [hq] at hdesc
        split at hdesc <;> try (simp_all; done)
        simp only [aggOf] at hagg
        exact ⟨_, _, by rw [← hagg]; exact ⟨rfl, rfl⟩, run_equalIn_int w d t _ _ a b ok.und⟩
      · cases h
    · rename_i a b hq
      injection h with h
      subst h
      obtain ⟨v, rfl, hv⟩ := all2_one hx
      obtain ⟨u, rfl, hu⟩ := all2_one hy
      simp only [RepC] at hv hu
      subst hv hu
      unfold descIs at hdesc
      rw [hq] at hdesc
      split at hdesc <;> try (simp_all; done)
      simp only [aggOf] at hagg
      exact ⟨_, _, by rw [← hagg]; exact ⟨rfl, rfl⟩, run_equalIn_bool' w d t a b ok.und⟩
    · rename_i a b hq
      injection h with h
      subst h
      obtain ⟨v, rfl, hv⟩ := all2_one hx
      obtain ⟨u, rfl, hu⟩ := all2_one hy
      simp only [RepC] at hv hu
      subst hv hu
      unfold descIs at hdesc
      rw [hq] at hdesc
      split at hdesc <;> try (simp_all; done)
      simp only [aggOf] at hagg
      exact ⟨_, _, by rw [← hagg]; exact ⟨rfl, rfl⟩, run_equalIn_string w d t a b ok.und⟩
    · rename_i fs hq
      cases he : tr.eq with
      | false => simp [he] at h
      | true =>
        simp only [he, cond_true] at h
        have heq := ok.eq he
        simp only [eqIs, Bool.and_eq_true, Bool.not_eq_true'] at heq
        unfold descIs at hdesc
        rw [hq] at hdesc
        split at hdesc <;> try (simp_all; done)
        rename_i sf l hl
        have hl' : fs = l := by simpa using hl
        subst hl'
        simp only [aggOf] at hagg
        refine ⟨_, _, by rw [← hagg]; exact ⟨rfl, rfl⟩, ?_⟩
        have hfo : P.fieldsOf t = sf := by simp [Program.fieldsOf, ok.und]
        rw [run_equalIn_struct w d t _ _ (by rw [hfo]; exact ok.und) heq.2.2, hfo]
        refine eqFs_run hx hy (f := eqTy Γ n) ?_ hdesc heq.1 h w
        intro t' o s r' hr' hi w'
        obtain ⟨i', hi', hs'⟩ := hi
        cases htr' : trOf Γ t' with
        | none =>
          cases n with
          | zero => simp [eqTy] at hr'
          | succ n => simp [eqTy, htr'] at hr'
        | some tr' =>
          obtain ⟨td', ti', ok'⟩ := trOf_ok hΓ htr'
          have hsz : tr'.size = s := by rw [← ok'.size, ← info_TrOk ok' hi', hs']
          obtain ⟨a, b, hab, hrun⟩ := eqTy_run hΓ n ((hx.drop o).take s) ((hy.drop o).take s) hr' d (by omega) tr' htr' w'
          refine ⟨a, b, ?_, ?_, hrun⟩
          · unfold part
            simp only [Sem.run_bind, ok'.isAgg, ok'.sizeOf, Result.andThen_ok, Sem.run_ite]
            cases ha : tr'.agg with
            | true =>
              simp only [ha, if_true] at hab ⊢
              rw [hab.1, hsz]
              simp only [Sem.run_pure]
              congr 2
              apply Array.ext'
              simp [List.extract_eq_take_drop]
            | false =>
              simp only [ha, Bool.false_eq_true, if_false] at hab ⊢
              have := congrArg (·[0]?) hab.1
              simp only [List.getElem?_take, List.getElem?_drop, List.getElem?_cons_zero, Nat.add_zero] at this
              split at this
              · simp [this]
              · cases this
          · unfold part
            simp only [Sem.run_bind, ok'.isAgg, ok'.sizeOf, Result.andThen_ok, Sem.run_ite]
            cases ha : tr'.agg with
            | true =>
              simp only [ha, if_true] at hab ⊢
              rw [hab.2, hsz]
              simp only [Sem.run_pure]
              congr 2
              apply Array.ext'
              simp [List.extract_eq_take_drop]
            | false =>
              simp only [ha, Bool.false_eq_true, if_false] at hab ⊢
              have := congrArg (·[0]?) hab.2
              simp only [List.getElem?_take, List.getElem?_drop, List.getElem?_cons_zero, Nat.add_zero] at this
              split at this
              · simp [this]
              · cases this
    · cases h
end
end Go.Ab
