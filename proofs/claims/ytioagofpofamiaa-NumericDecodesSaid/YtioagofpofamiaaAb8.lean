/- Cuts, conversions, lengths, values built. -/
import Derived.Test.YtioagofpofamiaaAb7
/-! Cuts, conversions, lengths, values built. -/
set_option linter.unusedVariables false
set_option linter.unusedSimpArgs false
namespace Go.Ab
section
variable {P : Program} {dst : Option Tmp} {ty : TypeId} {pos : String} {aft : Array Edge} {gd : Option (Nat × Bool)} {fr : Nat} {S : Store} {Γ : Tab}

/-- An index that may be left out. -/
def OptRep (γ : Nat → G) (F : Nat → Prop) (w : World) (a : Act) : Option Operand → Option AV → Prop
  | none, none => True
  | some y, some v => RepA γ F w v (a.eval y)
  | _, _ => False

theorem intA_some {v : AV} {d l : Int} (h : intA (some v) d = some l) : ∃ k, v = one (.int k l) := by
  cases v with
  | v x =>
    cases x with
    | one c =>
      cases c <;> simp only [intA] at h <;> try (cases h; done)
      injection h with h
      subst h
      exact ⟨_, rfl⟩
    | agg _ => simp [intA] at h
  | tup _ => simp [intA] at h
  | undef => simp [intA] at h

theorem intA_ok {lo : Option Operand} {al : Option AV} {d l : Int} {γ : Nat → G} {F : Nat → Prop} {w : World} {a : Act} (h : intA al d = some l) (hr : OptRep γ F w a lo al) :
    (lo.map a.eval = none ∧ l = d) ∨ ∃ k, lo.map a.eval = some (.int k l) := by
  cases lo with
  | none =>
    cases al with
    | none => simp only [intA, Option.some.injEq] at h; exact .inl ⟨rfl, h.symm⟩
    | some v => exact hr.elim
  | some y =>
    cases al with
    | none => exact hr.elim
    | some v =>
      obtain ⟨k, rfl⟩ := intA_some h
      exact .inr ⟨k, by simp only [Option.map_some]; exact congrArg some hr⟩

/-- A row's block no longer written. -/
theorem Post.freeze {γ : Nat → G} {F : Nat → Prop} {w : World} {tok E : Nat} {e : Ty} {m : RowK} {xs : List e.den} (hI : Inv F γ S w) (hS : look S tok = some (.row E e m xs)) :
    ∃ F', Post fr γ F w S γ F' w (upd S tok (.row E e .frz xs)) ∧ (∀ b, F b → F' b) ∧ ∀ b, (γ tok).blk = some b → F' b := by
  have hrow : RowOk F (γ tok) w E e m xs := hI.blk tok _ hS
  refine ⟨fun b => F b ∨ (γ tok).blk = some b, ⟨rfl, rfl, rfl, Nat.le_refl _, fun _ _ _ => rfl, fun _ _ => rfl, fun _ h => .inl h, fun b h => ?_, fun b hb => .inl ?_, fun _ _ => rfl, ?_⟩, fun _ h => .inl h, fun b h => .inr h⟩
  · rcases h with h | h
    · exact .inl h
    · exact .inr (.inl ⟨tok, ⟨_, hS⟩, h⟩)
  · obtain ⟨t, ⟨x, hx⟩, hb⟩ := hb
    rw [look_upd] at hx
    split at hx
    · rename_i e; subst e; exact ⟨_, ⟨_, hS⟩, hb⟩
    · exact ⟨t, ⟨x, hx⟩, hb⟩
  · have hl : Lasts F (fun b => F b ∨ (γ tok).blk = some b) w w := ⟨fun _ h => .inl h, fun _ _ => rfl⟩
    have hHas : ∀ t, Has (upd S tok (.row E e .frz xs)) t → Has S t := by
      rintro t ⟨x, hx⟩
      rw [look_upd] at hx
      split at hx
      · rename_i e; subst e; exact ⟨_, hS⟩
      · exact ⟨x, hx⟩
    refine ⟨fun t b hb => ?_, fun t t' b ht ht' => hI.inj t t' b (hHas t ht) (hHas t' ht'), fun b hb => ?_⟩
    · rw [look_upd] at hb
      split at hb
      · rename_i et
        subst et
        injection hb with hb
        subst hb
        obtain ⟨h1, h2, h3⟩ := hrow
        refine ⟨h1, h2, ?_⟩
        rcases h3 with h3 | ⟨b, cur, fz, flat, g1, g2, g3, g4, g5, g6, g7, g8⟩
        · exact .inl h3
        · exact .inr ⟨b, cur, fz, flat, g1, g2, g3, g4, g5, g6, g7.lasts hl, .inr g1⟩
      · rename_i hne
        have hS' := hI.blk t b hb
        refine hS'.lasts hl rfl (fun _ _ => rfl) fun c hc => ⟨rfl, fun hF => ?_⟩
        rcases hF with hF | hF
        · exact hF
        · exact absurd (hI.inj t tok c ⟨b, hb⟩ ⟨_, hS⟩ hc hF) (fun e => hne e.symm)
    · rcases hb with hb | hb
      · exact hI.fz b hb
      · exact hI.mine_lt ⟨tok, ⟨_, hS⟩, hb⟩

theorem getElem?_cut {α : Type} (xs : List α) (l h i : Nat) (hi : i < h - l) : ((xs.take h).drop l)[i]? = xs[l + i]? := by
  rw [List.getElem?_drop, List.getElem?_take, if_pos (by omega)]

/-- What is cut of a slice that is read. -/
theorem RoSl.cut {F : Nat → Prop} {w : World} {e : Ty} {xs : List e.den} {b o n cap : Nat} {A : Option Addr} (l h : Nat) (hlh : l ≤ h) (hh : h ≤ xs.length) (hn : xs.length = n) (hc : n ≤ cap) (hF : 0 < n → A = some ⟨b, o, none⟩ ∧ F b)
    (hx : ∀ i x, xs[i]? = some x → ∃ m, RepD F w e x m ∧ m.length = e.size ∧ ∀ j u, m[j]? = some u → w.cell? ⟨b, o + (i * e.size + j), none⟩ = some u) :
    RoSl F w (RepD F w e) e.size ((xs.take h).drop l) (.slice (if cap = l then A else A.map (·.add (l * e.size))) (h - l) (cap - l)) := by
  refine ⟨_, _, _, rfl, by simp; omega, by omega, fun h0 => ?_⟩
  obtain ⟨hA, hFb⟩ := hF (by omega)
  subst hA
  rw [if_neg (by omega)]
  refine ⟨⟨b, o + l * e.size, none⟩, by simp [addr_add], rfl, hFb, fun i x hi => ?_⟩
  have hil : i < h - l := by
    have := (List.getElem?_eq_some_iff.1 hi).1
    simp at this
    omega
  rw [getElem?_cut xs l h i hil] at hi
  obtain ⟨m, h1, h2, h3⟩ := hx _ _ hi
  refine ⟨m, h1, h2, fun j u hu => ?_⟩
  have := h3 j u hu
  rw [Nat.add_mul] at this
  have e1 : o + l * e.size + (i * e.size + j) = o + (l * e.size + i * e.size + j) := by omega
  simp only
  rw [e1]
  exact this

theorem run_slice_sl {w : World} {t E : Nat} {i : TypeInfo} (hu : P.underlying t = some (.slice E)) (hi : P.info? E = some i) {A : Option Addr} {n cap : Nat} {l h : Int} {lo hi' : Option Value} (hlo : (lo = none ∧ l = 0) ∨ ∃ k, lo = some (.int k l)) (hhi : (hi' = none ∧ h = n) ∨ ∃ k, hi' = some (.int k h))
    (h0 : 0 ≤ l) (h1 : l ≤ h) (h2 : h ≤ n) (hc : n ≤ cap) :
    (Instr.sliceAt t (.slice A n cap) lo hi' none).run P w = .ok (.slice (if cap = l.toNat then A else A.map (·.add (l.toNat * i.size))) (h.toNat - l.toNat) (cap - l.toNat)) w := by
  simp [Instr.sliceAt, Instr.slice, run_underlying hu, run_sliceBounds hlo hhi h0 h1 h2 hc, Go.sizeOf, typeInfo, hi]

theorem sem_slice (hΓ : tabIs P Γ = true) (t : TypeId) (x : Operand) (lo hi : Option Operand) (ax : AV) (al ah : Option AV) (args : List AV)
    (hargs : ∀ γ F w (a : Act), All2 (fun x av => RepA γ F w av (a.eval x)) (Op.slice t x lo hi none).operands.toList args → RepA γ F w ax (a.eval x) ∧ OptRep γ F w a lo al ∧ OptRep γ F w a hi ah) :
    ResSem (OpSem P ⟨dst, .slice t x lo hi none, ty, pos, aft, gd⟩ args fr S) (sliceA Γ t ax al ah S) := by
  unfold sliceA
  split
  · rename_i sz by_ ag z eq s hr
    obtain ⟨d, i, ok⟩ := trOf_ok hΓ hr
    have hd := descIs_str ok.desc rfl
    have hund : P.underlying t = some .string := by rw [ok.und, hd]
    split
    · rename_i l h hl hh
      intro hc
      simp only [sliceBds, Bool.and_eq_true, decide_eq_true_eq] at hc
      refine OpSem.pure fun γ F w a hI hA => ?_
      obtain ⟨h1, h2, h3⟩ := hargs γ F w a hA
      have hx : a.eval x = .string s := h1
      have hb := run_sliceBounds (P := P) (w := w) (isS := false) (len := s.size) (cap := s.size) (intA_ok hl h2) (intA_ok hh h3) hc.1 hc.2.1 hc.2.2 (Nat.le_refl _)
      exact ⟨.string (s.extract l.toNat h.toNat), by simp [execOp, Instr.sliceAt, Instr.slice, hx, run_underlying hund, hb], rfl⟩
    · trivial
  · rename_i E te sz by_ ag z eq e xs hr
    obtain ⟨d, i, ok⟩ := trOf_ok hΓ hr
    obtain ⟨hd, ei, hei, hsz, _⟩ := descIs_slice ok.desc rfl
    have hund : P.underlying t = some (.slice E) := by rw [ok.und, hd]
    split
    · rename_i l h hl hh hte
      have hte' : e.size = te.size := (beq_iff _ _).1 hte
      intro hc
      simp only [sliceBds, Bool.and_eq_true, decide_eq_true_eq] at hc
      refine OpSem.pure fun γ F w a hI hA => ?_
      obtain ⟨h1, h2, h3⟩ := hargs γ F w a hA
      obtain ⟨A, n, cap, hv, hn, hcap, hcell⟩ := h1
      have hb := run_slice_sl (P := P) (w := w) hund hei (A := A) (intA_ok hl h2) (hn ▸ intA_ok hh h3) hc.1 hc.2.1 (by omega) hcap
      refine ⟨_, by simp only [execOp, hv, Option.map_none]; rw [Sem.run_bind, hb]; rfl, ?_⟩
      rw [hsz, ← hte']
      by_cases hn0 : 0 < n
      · obtain ⟨ad, hA, hs, hF, hcl⟩ := hcell hn0
        obtain ⟨b, o, sp⟩ := ad
        simp only at hs
        subst hs
        exact RoSl.cut l.toNat h.toNat (by omega) (by omega) hn hcap (fun _ => ⟨hA, hF⟩) hcl
      · refine RoSl.cut (b := 0) (o := 0) l.toNat h.toNat (by omega) (by omega) hn hcap (fun h => absurd h hn0) fun i x hx => ?_
        have : xs = [] := List.eq_nil_of_length_eq_zero (by omega)
        subst this
        simp at hx
    · trivial
  · rename_i E te sz by_ ag z eq tok hr
    obtain ⟨d, i, ok⟩ := trOf_ok hΓ hr
    obtain ⟨hd, ei, hei, hsz, _⟩ := descIs_slice ok.desc rfl
    have hund : P.underlying t = some (.slice E) := by rw [ok.und, hd]
    split
    · rename_i E' e m xs hS
      split
      · rename_i l h hl hh hte
        have hte' : e.size = te.size := (beq_iff _ _).1 hte
        intro hc
        simp only [sliceBds, Bool.and_eq_true, decide_eq_true_eq] at hc
        intro γ F w a hI hlt _ hA next Q hnext
        obtain ⟨h1, h2, h3⟩ := hargs γ F w a hA
        have hrow : RowOk F (γ tok) w E' e m xs := hI.blk tok _ hS
        obtain ⟨A, n, cap, hv, hn, hcap, hcell⟩ := hrow.reads
        have hx : a.eval x = .slice A n cap := by rw [← hv]; exact h1
        have hb := run_slice_sl (P := P) (w := w) hund hei (A := A) (intA_ok hl h2) (hn ▸ intA_ok hh h3) hc.1 hc.2.1 (by omega) hcap
        obtain ⟨F', hp, hsub, hF'⟩ := Post.freeze (fr := fr) hI hS
        refine wp_of_value (w' := w) (by simp only [execOp, hx, Option.map_none]; rw [Sem.run_bind, hb]; rfl) (hnext _ γ F' w hp ?_)
        rw [hsz, ← hte']
        by_cases hn0 : 0 < n
        · obtain ⟨g1, g2, ⟨g3, g4⟩ | ⟨b, cur, fz, flat, g3, g4, g5, g6, g7, g8, g9, g10⟩⟩ := hrow
          · subst g4; simp at hn; omega
          · have hgv : (γ tok).val = .slice (some ⟨b, 0, none⟩) (γ tok).len (γ tok).cap := by simp [G.val, g3]
            rw [hgv] at hv
            injection hv with hA hn' hc'
            refine RoSl.cut (b := b) (o := 0) l.toNat h.toNat (by omega) (by omega) hn hcap (fun _ => ⟨hA.symm, hF' b g3⟩) fun i x hx => ?_
            obtain ⟨m', hm, hmc⟩ := row_elem (hI.blk tok _ hS) g3 hx
            exact ⟨m', hm.lasts hp.lasts, hm.length, fun j u hu => by rw [Nat.zero_add]; exact hmc j u hu⟩
        · refine RoSl.cut (b := 0) (o := 0) l.toNat h.toNat (by omega) (by omega) hn hcap (fun h => absurd h hn0) fun i x hx => ?_
          have : xs = [] := List.eq_nil_of_length_eq_zero (by omega)
          subst this
          simp at hx
      · trivial
    · trivial
  · trivial

theorem run_len_slice {w : World} {t e : Nat} (hu : P.underlying t = some (.slice e)) (l : List TypeId) (tr : TypeId) (A : Option Addr) (n c : Nat) (rest : List Value) :
    (Builtin.len_ (t :: l).toArray tr (Value.slice A n c :: rest).toArray).run P w = .ok (goInt n) w := by
  simp [Builtin.len_, run_underlying hu]

theorem run_call_builtin {a : Act} {w w' : World} {b : Builtin} {xs : Array Operand} {ts : Array TypeId} {u : Value} (f : Sem Value) (hb : ∀ cs, builtin b ts ty cs (xs.map a.eval) = (do pure (Next.value (← f))))
    (h : f.run P w = .ok u w') : (execOp a.eval ⟨dst, .call { callee := .builtin b, args := xs, argTypes := ts }, ty, pos, aft, gd⟩).run P w = .ok (.value u) w' := by
  simp only [execOp, resolve, Sem.run_bind, Sem.run_pure, Result.andThen_ok, invoke]
  rw [hb]
  simp [h]

theorem all2_args {γ : Nat → G} {F : Nat → Prop} {w : World} {a : Act} : ∀ {xs : List Operand} {args : List AV}, All2 (fun x av => RepA γ F w av (a.eval x)) xs args → All2 (RepA γ F w) args (xs.map a.eval)
  | [], [], _ => trivial
  | _ :: _, _ :: _, h => ⟨h.1, all2_args h.2⟩
  | [], _ :: _, h => h.elim
  | _ :: _, [], h => h.elim

theorem sem_len (hΓ : tabIs P Γ = true) (xs : Array Operand) (ts : Array TypeId) (ax : AV) : ResSem (OpSem P ⟨dst, .call { callee := .builtin .len, args := xs, argTypes := ts }, ty, pos, aft, gd⟩ [ax] fr S) (lenA Γ ts.toList ax S) := by
  have hops : ((Op.call { callee := .builtin .len, args := xs, argTypes := ts }).operands).toList = xs.toList := by simp [Op.operands, Call.operands]
  have fin : ∀ (γ : Nat → G) (F : Nat → Prop) (w : World) (a : Act), All2 (fun x av => RepA γ F w av (a.eval x)) ((Op.call { callee := .builtin .len, args := xs, argTypes := ts }).operands).toList [ax] →
      ∃ v, xs.map a.eval = #[v] ∧ RepA γ F w ax v := by
    intro γ F w a hA
    rw [hops] at hA
    obtain ⟨v, hv, hr⟩ := all2_one (all2_args hA)
    exact ⟨v, by apply Array.ext'; simpa using hv, hr⟩
  unfold lenA
  cases hts : ts.toList with
  | nil => trivial
  | cons t tl =>
    have hts0 : ts[0]? = some t := by rw [← Array.getElem?_toList, hts]; rfl
    simp only
    cases hr : trOf Γ t with
    | none => trivial
    | some r =>
      obtain ⟨d, i, ok⟩ := trOf_ok hΓ hr
      obtain ⟨rd, sz, by_, ag, z, eq⟩ := r
      cases rd <;> try trivial
      · have hd := descIs_str ok.desc rfl
        have hund : P.underlying t = some .string := by rw [ok.und, hd]
        simp only
        split
        · rename_i s
          refine OpSem.pure fun γ F w a hI hA => ?_
          obtain ⟨v, hxs, hv⟩ := fin γ F w a hA
          have hv' : v = .string s := hv
          subst hv'
          refine ⟨.int .i64 s.size, run_call_builtin (Builtin.len_ ts ty (xs.map a.eval)) (fun _ => rfl) ?_, rfl⟩
          rw [hxs]
          simp [Builtin.len_, hts0, run_underlying hund, goInt]
        · trivial
      · rename_i E te
        obtain ⟨hd, ei, hei, hsz, _⟩ := descIs_slice ok.desc rfl
        have hund : P.underlying t = some (.slice E) := by rw [ok.und, hd]
        have rd : ∀ (n : Nat), (∀ γ F w v, Inv F γ S w → RepA γ F w ax v → ∃ A cap, v = .slice A n cap) → OpSem P ⟨dst, .call { callee := .builtin .len, args := xs, argTypes := ts }, ty, pos, aft, gd⟩ [ax] fr S (one (.int .i64 (n : Int))) S := by
          intro n hn
          refine OpSem.pure fun γ F w a hI hA => ?_
          obtain ⟨v, hxs, hv⟩ := fin γ F w a hA
          obtain ⟨A, cap, rfl⟩ := hn γ F w v hI hv
          refine ⟨.int .i64 n, run_call_builtin (Builtin.len_ ts ty (xs.map a.eval)) (fun _ => rfl) ?_, rfl⟩
          rw [hxs]
          simp [Builtin.len_, hts0, run_underlying hund, goInt]
        simp only
        split
        · exact rd 0 fun γ F w v hI hv => ⟨none, 0, hv⟩
        · split
          · rename_i q hq
            refine rd q.xs.length fun γ F w v hI hv => ?_
            obtain ⟨A, n, cap, h1, h2, _⟩ := seqOf_reads hI hq hv
            exact ⟨A, cap, by rw [h1, h2]⟩
          · trivial
      · rename_i n e
        have hd := descIs_array ok.desc rfl
        have hund : P.underlying t = some (.array n e) := by rw [ok.und, hd]
        refine OpSem.pure fun γ F w a hI hA => ?_
        obtain ⟨v, hxs, hv⟩ := fin γ F w a hA
        refine ⟨.int .i64 n, run_call_builtin (Builtin.len_ ts ty (xs.map a.eval)) (fun _ => rfl) ?_, rfl⟩
        rw [hxs]
        simp [Builtin.len_, hts0, run_underlying hund, goInt]

theorem foldI_run {γ : Nat → G} {F : Nat → Prop} {w : World} {g : Int → Int → Int} {m2 : Value → Value → Sem Value} (hm : ∀ k x y (w : World), (m2 (.int k x) (.int k y)).run P w = .ok (.int k (g x y)) w) {k : IntKind} : ∀ {l : List AV} {vs : List Value} {x z : Int}, foldI g k x l = some z → All2 (RepA γ F w) l vs →
    (vs.foldlM m2 (.int k x)).run P w = .ok (.int k z) w
  | [], [], x, z, h, _ => by simp only [foldI, Option.some.injEq] at h; subst h; simp
  | y :: l, v :: vs, x, z, h, hr => by
    unfold foldI at h
    split at h
    · rename_i e; cases e
    · rename_i x' k' n l' e
      injection e with e1 e2
      subst e1 e2
      split at h
      · rename_i hk
        subst hk
        have hv : v = .int k n := hr.1
        subst hv
        simp only [List.foldlM_cons, Sem.run_bind, hm, Result.andThen_ok]
        exact foldI_run hm h hr.2
      · cases h
    · cases h
  | [], _ :: _, _, _, _, h => h.elim
  | _ :: _, [], _, _, _, h => h.elim

theorem sem_maxmin (xs : Array Operand) (ts : Array TypeId) (k : IntKind) (x : Int) (l : List AV) (b : Builtin) (g : Int → Int → Int) (hbg : b = .max ∧ g = mxI ∨ b = .min ∧ g = mnI) (z : Int) (hz : foldI g k x l = some z) :
    OpSem P ⟨dst, .call { callee := .builtin b, args := xs, argTypes := ts }, ty, pos, aft, gd⟩ (one (.int k x) :: l) fr S (one (.int k z)) S := by
  have hops : ((Op.call { callee := .builtin b, args := xs, argTypes := ts }).operands).toList = xs.toList := by simp [Op.operands, Call.operands]
  refine OpSem.pure fun γ F w a hI hA => ⟨.int k z, ?_, rfl⟩
  simp only [hops] at hA
  have hA' := all2_args hA
  match hvs : xs.toList.map a.eval, hA' with
  | v :: vs, hA' =>
    have hv : v = .int k x := hA'.1
    subst hv
    have htl : (xs.map a.eval).toList = .int k x :: vs := by simpa using hvs
    rcases hbg with ⟨rfl, rfl⟩ | ⟨rfl, rfl⟩
    · refine run_call_builtin (Builtin.max_ ts ty (xs.map a.eval)) (fun _ => rfl) ?_
      unfold Builtin.max_
      rw [htl]
      exact foldI_run (fun k x y w => by simp [Builtin.max2, mxI]) hz hA'.2
    · refine run_call_builtin (Builtin.min_ ts ty (xs.map a.eval)) (fun _ => rfl) ?_
      unfold Builtin.min_
      rw [htl]
      exact foldI_run (fun k x y w => by simp [Builtin.min2, mnI]) hz hA'.2
end
end Go.Ab
