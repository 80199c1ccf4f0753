/- Operations that read: tests, parts, elements, cuts, lengths. -/
import Derived.Test.YtioagofpofamiaaAb4
/-! Operations that read: tests, parts, elements, cuts, lengths. -/
set_option linter.unusedVariables false
set_option linter.unusedSimpArgs false
namespace Go.Ab
section
variable {P : Program} {dst : Option Tmp} {ty : TypeId} {pos : String} {aft : Array Edge} {gd : Option (Nat × Bool)} {fr : Nat} {S : Store} {Γ : Tab}

theorem descIs_bool {d : TypeDesc} {r : TR} (h : descIs P d r = true) (hr : r.d = .bool) : d = .bool := by
  unfold descIs at h; rw [hr] at h; cases d <;> simp_all
theorem descIs_str {d : TypeDesc} {r : TR} (h : descIs P d r = true) (hr : r.d = .str) : d = .string := by
  unfold descIs at h; rw [hr] at h; cases d <;> simp_all
theorem descIs_int {d : TypeDesc} {r : TR} {k : IntKind} (h : descIs P d r = true) (hr : r.d = .int k) : d = .int k := by
  unfold descIs at h; rw [hr] at h; cases d <;> simp_all
theorem descIs_array {d : TypeDesc} {r : TR} {n e : Nat} (h : descIs P d r = true) (hr : r.d = .array n e) : d = .array n e := by
  unfold descIs at h; rw [hr] at h; cases d <;> simp_all
theorem descIs_struct {d : TypeDesc} {r : TR} {l : List (Nat × Nat × Nat)} (h : descIs P d r = true) (hr : r.d = .struct l) : ∃ fs, d = .struct fs ∧ fieldsAre P fs.toList l = true := by
  unfold descIs at h; rw [hr] at h; cases d <;> simp_all
/-- A slice type's row: its elements' size, and their default. -/
theorem descIs_slice {d : TypeDesc} {r : TR} {e : Nat} {t : Ty} (h : descIs P d r = true) (hr : r.d = .slice e t) :
    d = .slice e ∧ ∃ i, P.info? e = some i ∧ i.size = t.size ∧ ∀ z, i.zero = some z → dfltIs t z.cells.toList = some [] := by
  unfold descIs at h; rw [hr] at h
  cases d <;> simp only [Bool.and_eq_true, Nat.beq_eq] at h <;> try (cases h; done)
  rename_i e'
  obtain ⟨rfl, h⟩ := h
  refine ⟨rfl, ?_⟩
  split at h
  · rename_i i hi
    simp only [Bool.and_eq_true, Nat.beq_eq] at h
    refine ⟨i, hi, h.1, fun z hz => ?_⟩
    have h2 := h.2
    rw [hz] at h2
    simp only at h2
    split at h2
    · assumption
    · cases h2
  · cases h

theorem fieldsAre_get {fs : List Field} {l : List (Nat × Nat × Nat)} (h : fieldsAre P fs l = true) : ∀ (f : Nat) (t o s : Nat), l[f]? = some (t, o, s) → ∃ g, fs[f]? = some g ∧ g.type = t ∧ g.offset = o ∧ ∃ i, P.info? t = some i ∧ i.size = s := by
  induction l generalizing fs with
  | nil => intro f t o s hf; simp at hf
  | cons p l ih =>
    obtain ⟨t', o', s'⟩ := p
    cases fs with
    | nil => simp [fieldsAre] at h
    | cons g fs =>
      simp only [fieldsAre, Bool.and_eq_true, Nat.beq_eq] at h
      intro f t o s hf
      cases f with
      | zero =>
        simp only [List.getElem?_cons_zero, Option.some.injEq, Prod.mk.injEq] at hf
        obtain ⟨rfl, rfl, rfl⟩ := hf
        refine ⟨g, rfl, h.1.1, h.1.2.1, ?_⟩
        have h3 := h.1.2.2
        split at h3
        · rename_i i hi; exact ⟨i, hi, by simpa using h3⟩
        · cases h3
      | succ f => simpa using ih h.2 f t o s (by simpa using hf)

theorem sem_bin (hΓ : tabIs P Γ = true) (op : BinOp) (t yt : TypeId) (x y : Operand) (ax ay : AV) : ResSem (OpSem P ⟨dst, .binOp op t x y yt, ty, pos, aft, gd⟩ [ax, ay] fr S) (binA Γ op t ax ay S) := by
  unfold binA
  split
  · rename_i k a k' b
    split
    · intro hc
      have h0 : ¬ b < 0 := by have := of_decide_eq_true hc; omega
      refine sem_bin_of (.int k a) (.int k' b) (fun _ _ _ _ h => h) (fun _ _ _ _ h => h) (eqGuard_int _ t x y k k' a b) (u := .int k (shlI k a b)) (fun w => ?_) fun _ _ _ => rfl
      simp [Go.binOp, Op.shift, h0, shlI]
    · intro hc
      have h0 : ¬ b < 0 := by have := of_decide_eq_true hc; omega
      refine sem_bin_of (.int k a) (.int k' b) (fun _ _ _ _ h => h) (fun _ _ _ _ h => h) (eqGuard_int _ t x y k k' a b) (u := .int k (shrI k a b)) (fun w => ?_) fun _ _ _ => rfl
      simp [Go.binOp, Op.shift, h0, shrI]
    · rename_i h1 h2
      split
      · rename_i hk
        subst hk
        exact sem_int (by cases op <;> simp_all)
      · trivial
  · exact sem_str
  · rename_i a b
    split
    · rename_i sz by_ ag z eq hr
      obtain ⟨d, i, ok⟩ := trOf_ok hΓ hr
      have hb := descIs_bool ok.desc rfl
      refine sem_bin_of (.bool a) (.bool b) (fun _ _ _ _ h => h) (fun _ _ _ _ h => h) (eqGuard_bool _ t x y a b) (u := .bool (a == b)) (fun w => ?_) fun _ _ _ => rfl
      simp [Go.binOp, Op.equal, Op.maxDepth, run_equalIn_bool' w 9999 t a b (by rw [ok.und, hb])]
    · rename_i sz by_ ag z eq hr
      obtain ⟨d, i, ok⟩ := trOf_ok hΓ hr
      have hb := descIs_bool ok.desc rfl
      refine sem_bin_of (.bool a) (.bool b) (fun _ _ _ _ h => h) (fun _ _ _ _ h => h) (eqGuard_bool _ t x y a b) (u := .bool (!(a == b))) (fun w => ?_) fun _ _ _ => rfl
      simp [Go.binOp, Op.equal, Op.maxDepth, run_equalIn_bool' w 9999 t a b (by rw [ok.und, hb])]
    · trivial
  · rename_i xs ys
    have key : ∀ (l : List (Nat × Nat × Nat)) (sz by_ : Nat) (ag : Bool) (z : Option (List C)) (b : Bool), trOf Γ t = some { d := .struct l, size := sz, bytes := by_, agg := ag, zero := z, eq := true } → eqTy Γ 20 t xs ys = some b →
        ∀ γ F w (vx vy : Value), RepA γ F w (aggr xs) vx → RepA γ F w (aggr ys) vy → (∀ op', (eqGuard op' t x y vx vy).run P w = .ok () w) ∧ (Go.binOp .eql t vx vy).run P w = .ok (.bool b) w ∧ (Go.binOp .neq t vx vy).run P w = .ok (.bool (!b)) w := by
      intro l sz by_ ag z b hr he γ F w vx vy hx hy
      obtain ⟨vs, rfl, hxs⟩ := hx
      obtain ⟨us, rfl, hys⟩ := hy
      obtain ⟨d, i, ok⟩ := trOf_ok hΓ hr
      obtain ⟨fs, hd, _⟩ := descIs_struct ok.desc rfl
      have hag := ok.agg
      rw [hd] at hag
      have heq := ok.eq rfl
      simp only [eqIs, Bool.and_eq_true, Bool.not_eq_true'] at heq
      obtain ⟨a, c, hab, hrun⟩ := eqTy_run hΓ 20 hxs hys he 10000 (by omega) _ hr w
      have hag' : ag = true := by simpa [aggOf] using hag.symm
      simp only [hag', if_true] at hab
      obtain ⟨rfl, rfl⟩ := hab
      exact ⟨fun op' => run_eqGuard_agg w op' t x y _ _ heq.2.1, by rw [run_eql_struct, hrun]; rfl, by rw [run_neq_struct, hrun]; rfl⟩
    split
    · rename_i l sz by_ ag z b hr he
      refine OpSem.pure fun γ F w a _ hA => ?_
      obtain ⟨h1, h2, h3⟩ := key _ _ _ _ _ _ hr he γ F w _ _ hA.1 hA.2.1
      exact ⟨_, run_bin (h1 _) h2, rfl⟩
    · rename_i l sz by_ ag z b hr he
      refine OpSem.pure fun γ F w a _ hA => ?_
      obtain ⟨h1, h2, h3⟩ := key _ _ _ _ _ _ hr he γ F w _ _ hA.1 hA.2.1
      exact ⟨_, run_bin (h1 _) h3, rfl⟩
    · trivial
  · trivial

theorem sem_field (hΓ : tabIs P Γ = true) (s : TypeId) (x : Operand) (f : Nat) (ax : AV) : ResSem (OpSem P ⟨dst, .field s x f, ty, pos, aft, gd⟩ [ax] fr S) (fieldA Γ s ax f S) := by
  unfold fieldA
  split
  · rename_i fs sz by_ ag z eq cs hr
    split
    · rename_i ft off fsz hf
      split
      · rename_i r hft
        split
        · rename_i v hv
          refine OpSem.pure fun γ F w a _ hA => ?_
          obtain ⟨d, i, ok⟩ := trOf_ok hΓ hr
          obtain ⟨sf, hd, hfs⟩ := descIs_struct ok.desc rfl
          obtain ⟨g, hg, rfl, rfl, _⟩ := fieldsAre_get hfs f _ _ _ hf
          obtain ⟨d', i', ok'⟩ := trOf_ok hΓ hft
          obtain ⟨vs, h1, h2⟩ := hA.1
          obtain ⟨u, hu, hrep⟩ := partA_run ok' hv h2 w
          refine ⟨u, ?_, hrep⟩
          have hund : P.underlying s = some (.struct sf) := by rw [ok.und, hd]
          have hg' : sf[f]? = some g := by simpa using hg
          simp [execOp, Instr.field, run_underlying hund, hg', h1, asAgg, hu]
        · trivial
      · trivial
    · trivial
  · trivial

theorem sem_fieldAddr (hΓ : tabIs P Γ = true) (s : TypeId) (x : Operand) (f : Nat) (ax : AV) : ResSem (OpSem P ⟨dst, .fieldAddr s x f, ty, pos, aft, gd⟩ [ax] fr S) (fieldAddrA Γ s ax f S) := by
  unfold fieldAddrA
  split
  · rename_i fs sz by_ ag z eq hr
    split
    · rename_i ft off fsz hf
      cases h0 : Nat.beq fsz 0 with
      | true => trivial
      | false =>
        simp only [cond_false]
        have hne : fsz ≠ 0 := fun e => by rw [e] at h0; cases h0
        obtain ⟨d, i, ok⟩ := trOf_ok hΓ hr
        obtain ⟨sf, hd, hfs⟩ := descIs_struct ok.desc rfl
        obtain ⟨g, hg, rfl, rfl, fi, hfi, hfsz⟩ := fieldsAre_get hfs f _ _ _ hf
        have hund : P.underlying s = some (.struct sf) := by rw [ok.und, hd]
        have hg' : sf[f]? = some g := by simpa using hg
        have run : ∀ (a : Act) (w : World) (b o : Nat), a.eval x = .pointer (some ⟨b, o, none⟩) → (execOp a.eval ⟨dst, .fieldAddr s x f, ty, pos, aft, gd⟩).run P w = .ok (.value (.pointer (some ⟨b, o + g.offset, none⟩))) w := by
          intro a w b o he
          have hadd : (⟨b, o, none⟩ : Addr).add g.offset = ⟨b, o + g.offset, none⟩ := by unfold Addr.add; split <;> simp_all
          have hs0 : ¬ fi.size = 0 := by rw [hfsz]; exact hne
          simp [execOp, Instr.fieldAt, run_underlying hund, hg', he, Instr.sureAddr, fieldPlace, Go.sizeOf, typeInfo, hfi, hs0, hadd]
        split
        · rename_i tok o
          refine OpSem.pure fun γ F w a _ hA => ?_
          obtain ⟨b, h1, h2⟩ := hA.1
          exact ⟨_, run a w b o h2, b, h1, rfl⟩
        · rename_i tok j o
          refine OpSem.pure fun γ F w a _ hA => ?_
          obtain ⟨b, h1, h2, h3, h4⟩ := hA.1
          refine ⟨_, run a w b _ h4, b, h1, h2, h3, ?_⟩
          rw [Nat.add_assoc]
        · rename_i e y o
          refine OpSem.pure fun γ F w a _ hA => ?_
          obtain ⟨ad, l, h1, h2, h3, h4⟩ := hA.1
          refine ⟨_, run a w _ _ h4, ad, l, h1, h2, h3, ?_⟩
          rw [Nat.add_assoc]
        · trivial
    · trivial
  · trivial

theorem sem_nilCheck (x : Operand) (ax : AV) (h : match ax with | .v (.one (.ptr ..)) | .v (.one (.eptr ..)) | .v (.one (.rptr ..)) | .v (.one (.aptr ..)) | .v (.one (.fn ..)) => True | _ => False) :
    OpSem P ⟨dst, .nilCheck x, ty, pos, aft, gd⟩ [ax] fr S ax S := by
  refine OpSem.pure fun γ F w a _ hA => ⟨a.eval x, ?_, hA.1⟩
  have hx := hA.1
  split at h <;> try (exact h.elim)
  · obtain ⟨b, _, h2⟩ := hx; simp [execOp, h2]
  · obtain ⟨b, _, _, _, h2⟩ := hx; simp [execOp, h2]
  · obtain ⟨b, l, _, _, _, h2⟩ := hx; simp [execOp, h2]
  · obtain ⟨b, _, _, _, h2⟩ := hx; simp [execOp, h2]
  · obtain ⟨bs, h2, _⟩ := hx; simp [execOp, h2]
end
end Go.Ab
