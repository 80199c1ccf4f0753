/- Regions whose order is drawn: their law. -/
import Derived.Test.YtioagofpofamiaaAb21
/-! Regions whose order is drawn: their law. -/
set_option linter.unusedVariables false
set_option linter.unusedSimpArgs false
namespace Go.Ab

def Tr.out (t : Tr) : Store := if t.quiet = true then t.part else t.S'

def Fact (P : Program) (ops : Array Oper) (t : Tr) (st : St) : Prop :=
  (guardA ops st.env t.o = some (some false) ∧ t.v = .tup [] ∧ t.part = [] ∧ t.ts = [] ∧ t.quiet = true) ∨
  ((∃ g, guardA ops st.env t.o = some g ∧ g ≠ some false) ∧ t.args = argsOf st.env t.o ∧ t.part = keep (memb t.ts) st.sto ∧ OpSem P t.o t.args t.fr t.part t.v t.out)
def Facts (P : Program) (N : Nat) (ops : Array Oper) : List Tr → St → Prop
  | [], _ => True
  | t :: l, st => (GoodT N t ∧ Fact P ops t st) ∧ Facts P N ops l (t.put st)

theorem Facts.good {P : Program} {N : Nat} {ops : Array Oper} : ∀ {L : List Tr} {st : St}, Facts P N ops L st → ∀ t ∈ L, GoodT N t
  | [], _, _, t, h => by simp at h
  | x :: l, st, hf, t, h => by
    rcases List.mem_cons.1 h with rfl | h
    · exact hf.1.1
    · exact hf.2.good t h
theorem Facts.get {P : Program} {N : Nat} {ops : Array Oper} : ∀ {L : List Tr} {st : St}, Facts P N ops L st → ∀ (n : Nat) {k : Nat} {t : Tr}, L[k]? = some t → Fact P ops t (play (fun i => decide (i < n + k)) L n st)
  | [], _, _, n, k, t, h => by simp at h
  | x :: l, st, hf, n, 0, t, h => by
    simp only [List.getElem?_cons_zero, Option.some.injEq] at h
    subst h
    rw [play_none fun j hj => by simp; omega]
    exact hf.1.2
  | x :: l, st, hf, n, k + 1, t, h => by
    simp only [List.getElem?_cons_succ] at h
    have := hf.2.get (n + 1) h
    rw [show n + 1 + k = n + (k + 1) by omega] at this
    simp only [play]
    rw [show decide (n < n + (k + 1)) = true by simp]
    exact this

theorem evDr_facts {P : Program} {Γ : Tab} {T : Table} {N : Nat} {ops : Array Oper} (hΓ : tabIs P Γ = true) (hT : Sound P T) {R : Type} {K : List Tr → St → Option R} {r : R} : ∀ {l : List Oper} {st : St} {acc : List Tr} (n : Nat),
    evDr Γ T N ops l st acc K = some r → ∃ L : List Tr, L.map (·.o) = l ∧ Facts P N ops L st ∧ K (acc ++ L) (play (fun _ => true) L n st) = some r
  | [], st, acc, n, h => ⟨[], rfl, trivial, by simpa [play, evDr] using h⟩
  | o :: l, st, acc, n, h => by
    unfold evDr at h
    have next : ∀ t : Tr, t.o = o → t.good N = true → Fact P ops t st → evDr Γ T N ops l (t.put st) (acc ++ [t]) K = some r → ∃ L : List Tr, L.map (·.o) = o :: l ∧ Facts P N ops L st ∧ K (acc ++ L) (play (fun _ => true) L n st) = some r := by
      intro t ho hg hf he
      obtain ⟨L, h1, h2, h3⟩ := evDr_facts hΓ hT (n + 1) he
      refine ⟨t :: L, by simp [ho, h1], ⟨⟨good_ok hg, hf⟩, h2⟩, ?_⟩
      rw [List.append_assoc] at h3
      exact h3
    split at h
    · cases h
    · rename_i hg
      simp only at h
      cases hgood : Tr.good N ⟨o, [], [], st.nxt, st.nxt, [], .tup [], [], true⟩ with
      | false => rw [hgood] at h; cases h
      | true =>
        rw [hgood] at h
        exact next _ rfl hgood (.inl ⟨hg, rfl, rfl, rfl, rfl⟩) h
    · rename_i g hnf hg
      simp only at h
      obtain ⟨dst, op, ty, pos, aft, gd⟩ := o
      have hs := stepOp_sound (P := P) (dst := dst) (ty := ty) (pos := pos) (aft := aft) (gd := gd) (fr := st.nxt) (S := keep (memb (reach st.sto (argsOf st.env ⟨dst, op, ty, pos, aft, gd⟩))) st.sto) hΓ hT op (argsOf st.env ⟨dst, op, ty, pos, aft, gd⟩)
      have key : ∀ (v : AV) (S' : Store), (quietK op = true → S' = keep (memb (reach st.sto (argsOf st.env ⟨dst, op, ty, pos, aft, gd⟩))) st.sto) →
          OpSem P ⟨dst, op, ty, pos, aft, gd⟩ (argsOf st.env ⟨dst, op, ty, pos, aft, gd⟩) st.nxt (keep (memb (reach st.sto (argsOf st.env ⟨dst, op, ty, pos, aft, gd⟩))) st.sto) v S' →
          (splitB (isGuard ops ⟨dst, op, ty, pos, aft, gd⟩) v fun v => bif Tr.good N ⟨⟨dst, op, ty, pos, aft, gd⟩, argsOf st.env ⟨dst, op, ty, pos, aft, gd⟩, reach st.sto (argsOf st.env ⟨dst, op, ty, pos, aft, gd⟩), st.nxt, bif quietK op then st.nxt else topKey S' st.nxt, keep (memb (reach st.sto (argsOf st.env ⟨dst, op, ty, pos, aft, gd⟩))) st.sto, v, bif quietK op then [] else S', quietK op⟩ then
            evDr Γ T N ops l (Tr.put ⟨⟨dst, op, ty, pos, aft, gd⟩, argsOf st.env ⟨dst, op, ty, pos, aft, gd⟩, reach st.sto (argsOf st.env ⟨dst, op, ty, pos, aft, gd⟩), st.nxt, bif quietK op then st.nxt else topKey S' st.nxt, keep (memb (reach st.sto (argsOf st.env ⟨dst, op, ty, pos, aft, gd⟩))) st.sto, v, bif quietK op then [] else S', quietK op⟩ st) (acc ++ [⟨⟨dst, op, ty, pos, aft, gd⟩, argsOf st.env ⟨dst, op, ty, pos, aft, gd⟩, reach st.sto (argsOf st.env ⟨dst, op, ty, pos, aft, gd⟩), st.nxt, bif quietK op then st.nxt else topKey S' st.nxt, keep (memb (reach st.sto (argsOf st.env ⟨dst, op, ty, pos, aft, gd⟩))) st.sto, v, bif quietK op then [] else S', quietK op⟩]) K else none) = some r →
          ∃ L : List Tr, L.map (·.o) = ⟨dst, op, ty, pos, aft, gd⟩ :: l ∧ Facts P N ops L st ∧ K (acc ++ L) (play (fun _ => true) L n st) = some r := by
        intro v S' hq hsem he
        replace he := splitB_eq he
        cases hgood : Tr.good N ⟨⟨dst, op, ty, pos, aft, gd⟩, argsOf st.env ⟨dst, op, ty, pos, aft, gd⟩, reach st.sto (argsOf st.env ⟨dst, op, ty, pos, aft, gd⟩), st.nxt, bif quietK op then st.nxt else topKey S' st.nxt, keep (memb (reach st.sto (argsOf st.env ⟨dst, op, ty, pos, aft, gd⟩))) st.sto, v, bif quietK op then [] else S', quietK op⟩ with
        | false => rw [hgood] at he; cases he
        | true =>
          rw [hgood] at he
          refine next _ rfl hgood (.inr ⟨⟨g, hg, hnf⟩, rfl, rfl, ?_⟩) he
          unfold Tr.out
          cases hk : quietK op with
          | true =>
            rw [hq hk] at hsem
            simpa using hsem
          | false => simpa using hsem
      have hquiet := fun hk => quiet_step (Γ := Γ) (T := T) (op := op) hk (argsOf st.env ⟨dst, op, ty, pos, aft, gd⟩) st.nxt (keep (memb (reach st.sto (argsOf st.env ⟨dst, op, ty, pos, aft, gd⟩))) st.sto)
      unfold runRes at h
      split at h
      · rename_i v S' hres
        rw [hres] at hs hquiet
        exact key v S' hquiet hs h
      · rename_i c v S' hres
        rw [hres] at hs hquiet
        cases c with
        | true => exact key v S' hquiet (hs rfl) h
        | false => cases h
      · rename_i R' m g hres
        rw [hres] at hs hquiet
        obtain ⟨x, hx, h⟩ := Option.bind_eq_some_iff.1 h
        exact key _ _ (fun hk => (hquiet hk).elim) (hs x hx) h
      · cases h

/-! ### One more -/
theorem Inv.splitN {F : Nat → Prop} {γ : Nat → G} {S : Store} {w : World} {ts : List Nat} {γ' : Nat → G} {F' : Nat → Prop} {w' : World} {S' part : Store} {New : Nat → Prop} (h : Inv F γ S w)
    (hN : ∀ t b, look S t = some b → ¬ New t ∧ ∀ u ∈ b.toks, ¬ New u) (hpart : ∀ t, Has part t → t ∈ ts ∧ Has S t)
    (heap : ∀ b, b < w.heap.size → ¬ Mine γ part b → w'.heap[b]? = w.heap[b]?) (fnew : ∀ b, F' b → F b ∨ Mine γ part b ∨ w.heap.size ≤ b) (mine : ∀ b, Mine γ' S' b → Mine γ part b ∨ w.heap.size ≤ b)
    (hl : Lasts F F' w w') (gam : ∀ t, ¬ New t → γ' t = γ t) (inv : Inv F' γ' S' w') : Inv F' γ' (keep (fun t => !memb ts t) S ++ S') w' := by
  have notMine : ∀ t b, Has S t → t ∉ ts → (γ t).blk = some b → ¬ Mine γ part b := by
    rintro t b ht hts hb ⟨u, hu, hub⟩
    have hu' := hpart u hu
    exact hts (by rw [h.inj t u b ht hu'.2 hb hub]; exact hu'.1)
  have restHas : ∀ t, Has (keep (fun t => !memb ts t) S) t → t ∉ ts ∧ Has S t := by
    intro t ht
    have := Has.keep.1 ht
    refine ⟨fun hm => ?_, this.2⟩
    have h2 := this.1
    rw [(memb_iff ts t).2 hm] at h2
    cases h2
  have hfix : ∀ t, Has S t → γ' t = γ t := fun t ⟨b, hb⟩ => gam t (hN t b hb).1
  refine ⟨fun t b hb => ?_, fun t t' b ht ht' hb hb' => ?_, inv.fz⟩
  · rw [look_append] at hb
    cases hl' : look (keep (fun t => !memb ts t) S) t with
    | some x =>
      rw [hl'] at hb
      simp only [Option.some.injEq] at hb
      subst hb
      have ht := restHas t ⟨x, hl'⟩
      have hS : look S t = some x := by
        rw [look_keep] at hl'
        split at hl'
        · exact hl'
        · cases hl'
      refine (h.blk t x hS).lasts hl (hfix t ht.2) (fun u hu => gam u ((hN t x hS).2 u hu)) fun b hb => ?_
      have hbl := (h.blk t x hS).lt hb
      have hnm := notMine t b ht.2 ht.1 hb
      exact ⟨heap b hbl hnm, fun hF => (fnew b hF).resolve_right (fun hh => hh.elim hnm (fun hh => by omega))⟩
    | none =>
      rw [hl'] at hb
      exact inv.blk t b hb
  · rcases Has.append.1 ht with h1 | h1 <;> rcases Has.append.1 ht' with h2 | h2
    · have e1 := restHas t h1
      have e2 := restHas t' h2
      rw [hfix t e1.2] at hb
      rw [hfix t' e2.2] at hb'
      exact h.inj t t' b e1.2 e2.2 hb hb'
    · have e1 := restHas t h1
      rw [hfix t e1.2] at hb
      obtain ⟨x, hx⟩ := e1.2
      have hbl := (h.blk t x hx).lt hb
      exact absurd ((mine b ⟨t', h2, hb'⟩).resolve_right (by omega)) (notMine t b e1.2 e1.1 hb)
    · have e1 := restHas t' h2
      rw [hfix t' e1.2] at hb'
      obtain ⟨x, hx⟩ := e1.2
      have hbl := (h.blk t' x hx).lt hb'
      exact absurd ((mine b ⟨t, h1, hb⟩).resolve_right (by omega)) (notMine t' b e1.2 e1.1 hb')
    · exact inv.inj t t' b h1 h2 hb hb'

theorem Inv.congrG {F : Nat → Prop} {γ γ' : Nat → G} {S : Store} {w : World} (h : Inv F γ S w) (hγ : ∀ t b, look S t = some b → γ' t = γ t ∧ ∀ u ∈ b.toks, γ' u = γ u) : Inv F γ' S w := by
  refine ⟨fun t b hb => ?_, fun t t' b ht ht' hb hb' => ?_, h.fz⟩
  · obtain ⟨h1, h2⟩ := hγ t b hb
    exact (h.blk t b hb).lasts (Lasts.refl F w) h1 h2 fun b _ => ⟨rfl, id⟩
  · obtain ⟨x, hx⟩ := ht
    obtain ⟨x', hx'⟩ := ht'
    rw [(hγ t x hx).1] at hb
    rw [(hγ t' x' hx').1] at hb'
    exact h.inj t t' b ⟨x, hx⟩ ⟨x', hx'⟩ hb hb'

section
variable {P : Program} {b : Start} {N : Nat}

/-- One more of the operations has been done. -/
theorem Ok.more {st : St} {a : Act} {w w' : World} {γ γ1 : Nat → G} {F F' : Nat → Prop} {t : Tr} (h : Ok b N st a w γ F) (hg : GoodT N t) {u : Value}
    (hN : ∀ x z, look st.sto x = some z → ¬ (t.fr ≤ x ∧ x < t.nx) ∧ ∀ y ∈ z.toks, ¬ (t.fr ≤ y ∧ y < t.nx)) (hNe : ∀ i v, look st.env i = some v → ∀ y ∈ v.toks, ¬ (t.fr ≤ y ∧ y < t.nx)) (hNa : ∀ (j x : Nat), st.args[j]? = some (some x) → x < t.fr)
    (hpart : ∀ x z, look t.part x = some z → x ∈ t.ts ∧ look st.sto x = some z)
    (hp : Post t.fr γ F w t.part γ1 F' w' t.out) (hr : RepA γ1 F' w' t.v u) (hnx : t.nx ≤ st.nxt) (hquiet : t.quiet = true → ∀ x, x ∈ t.ts → look t.part x = look st.sto x)
    {env' : Env} {sto' : Store} (henv : ∀ i v, look env' i = some v → if t.o.dst = some i then v = t.v else look st.env i = some v)
    (hsto : ∀ x z, look sto' x = some z → look (if t.quiet = true then st.sto else keep (fun t' => !memb t.ts t') st.sto ++ t.S') x = some z) :
    ∃ γ', Ok b N { env := env', sto := sto', nxt := st.nxt, args := st.args } (a.put t.o.dst u) w' γ' F' := by
  let New : Nat → Prop := fun x => t.fr ≤ x ∧ x < t.nx
  have : DecidablePred New := fun x => inferInstanceAs (Decidable (_ ∧ _))
  let γ' : Nat → G := fun x => if New x then γ1 x else γ x
  have hγ1 : ∀ x, x < t.nx → γ' x = γ1 x := by
    intro x hx
    by_cases hn : New x
    · exact if_pos hn
    · show (if New x then γ1 x else γ x) = γ1 x
      rw [if_neg hn, hp.gam x (by have : ¬ (t.fr ≤ x ∧ x < t.nx) := hn; omega)]
  have hγ : ∀ x, ¬ New x → γ' x = γ x := fun x hn => if_neg hn
  have hin : ∀ x, inT t x = true → x < t.nx := fun x hx => hg.lt hx
  -- what the operation leaves
  have outLt : ∀ x z, look t.out x = some z → x < t.nx ∧ ∀ y ∈ z.toks, y < t.nx := by
    intro x z hz
    unfold Tr.out at hz
    split at hz
    · obtain ⟨h1, h2⟩ := hg.part x z hz
      exact ⟨Nat.lt_of_lt_of_le h1 hg.le, fun y hy => Nat.lt_of_lt_of_le (h2 y hy) hg.le⟩
    · obtain ⟨h1, h2⟩ := hg.sto hz
      exact ⟨hin x h1, fun y hy => hin y (h2 y hy)⟩
  have hinv' : Inv F' γ' t.out w' := hp.inv.congrG fun x z hz => ⟨hγ1 x (outLt x z hz).1, fun y hy => hγ1 y ((outLt x z hz).2 y hy)⟩
  have hr' : RepA γ' F' w' t.v u := RepA.lasts (Lasts.refl F' w') (fun x hx => hγ1 x (hin x (hg.val x hx))) hr
  have hml : ∀ c, Mine γ t.part c → Mine γ st.sto c := fun c ⟨x, ⟨z, hz⟩, hb⟩ => ⟨x, ⟨z, (hpart x z hz).2⟩, hb⟩
  have hmine' : ∀ c, Mine γ' t.out c → Mine γ t.part c ∨ w.heap.size ≤ c := by
    rintro c ⟨x, ⟨z, hz⟩, hb⟩
    rw [hγ1 x (outLt x z hz).1] at hb
    exact hp.mine c ⟨x, ⟨z, hz⟩, hb⟩
  have hsplit : Inv F' γ' (keep (fun x => !memb t.ts x) st.sto ++ t.out) w' :=
    Inv.splitN (New := New) h.inv hN (fun x ⟨z, hz⟩ => ⟨(hpart x z hz).1, ⟨z, (hpart x z hz).2⟩⟩) hp.heap hp.fnew hmine' hp.lasts hγ hinv'
  -- the new store is part of that
  have hsub : ∀ x z, look sto' x = some z → look (keep (fun x => !memb t.ts x) st.sto ++ t.out) x = some z := by
    intro x z hz
    have := hsto x z hz
    unfold Tr.out
    split at this
    · rename_i hq
      rw [if_pos hq, look_append, look_keep]
      by_cases hm : x ∈ t.ts
      · rw [(memb_iff _ _).2 hm]
        simp only [Bool.not_true, Bool.false_eq_true, if_false]
        rw [hquiet hq x hm]
        exact this
      · have hm' : memb t.ts x = false := by
          cases hh : memb t.ts x
          · rfl
          · exact absurd ((memb_iff _ _).1 hh) hm
        rw [hm']
        simp only [Bool.not_false, if_true]
        rw [this]
    · rename_i hq
      rw [if_neg hq]
      exact this
  have hmineNew : ∀ c, Mine γ' sto' c → Mine γ st.sto c ∨ w.heap.size ≤ c := by
    rintro c ⟨x, ⟨z, hz⟩, hb⟩
    have h1 := hsub x z hz
    rw [look_append] at h1
    cases hk : look (keep (fun x => !memb t.ts x) st.sto) x with
    | some z' =>
      rw [look_keep] at hk
      split at hk
      · rw [hγ x (hN x z' hk).1] at hb
        exact .inl ⟨x, ⟨z', hk⟩, hb⟩
      · cases hk
    | none =>
      rw [hk] at h1
      rcases hmine' c ⟨x, ⟨z, h1⟩, hb⟩ with h2 | h2
      · exact .inl (hml c h2)
      · exact .inr h2
  refine ⟨γ', fun i v hv => ?_, fun i v hv y hy => ?_, ?_, ?_, hsplit.sub hsub, fun x z hz => ?_, fun j x hj => ?_, hp.os.trans h.os, hp.tape.trans h.tape, hp.output.trans h.output, Nat.le_trans h.size hp.size, fun c hc hm => ?_, fun c hc => hp.sub c (h.sub c hc), fun c hc => ?_, fun c hc => ?_, fun c hc => ?_⟩
  · have := henv i v hv
    rw [put_getD, h.num]
    by_cases hi : t.o.dst = some i
    · rw [if_pos hi] at this
      subst this
      have : i < N := by have hd := hg.dst; rw [hi] at hd; simpa [dstOk, Nat.blt_eq] using hd
      rw [if_pos ⟨hi, this⟩]
      exact hr'
    · rw [if_neg hi] at this
      rw [if_neg (fun hh => hi hh.1)]
      exact (h.env i v this).lasts hp.lasts fun x hx => hγ x (hNe i v this x hx)
  · have := henv i v hv
    by_cases hi : t.o.dst = some i
    · rw [if_pos hi] at this
      subst this
      exact Nat.lt_of_lt_of_le (hin y (hg.val y hy)) hnx
    · rw [if_neg hi] at this
      exact h.envLt i v this y hy
  · cases hd : t.o.dst <;> simp [Act.put, h.num]
  · cases hd : t.o.dst <;> exact h.defers
  · have h1 := hsub x z hz
    rw [look_append] at h1
    cases hk : look (keep (fun x => !memb t.ts x) st.sto) x with
    | some z' =>
      rw [hk] at h1
      injection h1 with h1
      subst h1
      rw [look_keep] at hk
      split at hk
      · exact h.lt x _ hk
      · cases hk
    | none =>
      rw [hk] at h1
      obtain ⟨a1, a2⟩ := outLt x z h1
      exact ⟨Nat.lt_of_lt_of_le a1 hnx, fun y hy => Nat.lt_of_lt_of_le (a2 y hy) hnx⟩
  · obtain ⟨h1, h2⟩ := h.args j x hj
    have hlt := hNa j x hj
    exact ⟨(hγ x fun hn => by have : t.fr ≤ x ∧ x < t.nx := hn; omega).trans h1, h2⟩
  · by_cases hm2 : Mine γ t.part c
    · rcases h.mine c (hml c hm2) with h1 | h1
      · exact absurd h1 hm
      · omega
    · rw [hp.heap c (Nat.lt_of_lt_of_le hc h.size) hm2]
      exact h.heap c hc hm
  · rcases hp.fnew c hc with h1 | h1 | h1
    · exact h.fnew c h1
    · exact .inr (h.mine c (hml c h1))
    · exact .inr (.inr (Nat.le_trans h.size h1))
  · rcases hmineNew c hc with h1 | h1
    · exact h.mine c h1
    · exact .inr (Nat.le_trans h.size h1)
  · rw [hp.frz c (h.sub c hc)]
    exact h.frz c hc
end
end Go.Ab
