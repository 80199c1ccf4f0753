/- Regions whose order is drawn: every order. -/
import Derived.Test.YtioagofpofamiaaAb22
/-! Regions whose order is drawn: every order. -/
set_option linter.unusedVariables false
set_option linter.unusedSimpArgs false
namespace Go.Ab

def Pairs (ops : Array Oper) (n0 nF : Nat) (L : List Tr) : Prop :=
  ∀ j y, L[j]? = some y → n0 ≤ y.fr ∧ y.nx ≤ nF ∧ ∀ i x, L[i]? = some x → i < j → x.nx ≤ y.fr ∧ (Imp ops j i ∨ free2 ops x y = true)

theorem free_disj {N : Nat} {ops : Array Oper} {x y : Tr} (gx : GoodT N x) (gy : GoodT N y) (h : free2 ops x y = true ∨ free2 ops y x = true) (hlt : x.nx ≤ y.fr ∨ y.nx ≤ x.fr) (hq : ¬ (x.quiet = true ∧ y.quiet = true)) {u : Nat} (hx : inT x u = true) (hy : inT y u = true) : False := by
  have key : noneIn y x.ts = true ∧ noneIn x y.ts = true := by
    rcases h with h | h <;> simp only [free2, Bool.and_eq_true, Bool.or_eq_true] at h
    · rcases h.2 with h | h
      · exact absurd h hq
      · exact h
    · rcases h.2 with h | h
      · exact absurd ⟨h.2, h.1⟩ hq
      · exact ⟨h.2, h.1⟩
  rcases inT_iff.1 hx with h1 | h1
  · rw [noneIn_mem key.1 u h1] at hy; cases hy
  · rcases inT_iff.1 hy with h2 | h2
    · rw [noneIn_mem key.2 u h2] at hx; cases hx
    · omega

theorem free_apart {ops : Array Oper} {x y : Tr} (h : free2 ops x y = true ∨ free2 ops y x = true) : (∀ d, x.o.dst = some d → d ∉ y.o.looksAt ops) ∧ (∀ d, x.o.dst = some d → y.o.dst ≠ some d) := by
  rcases h with h | h <;> simp only [free2, Bool.and_eq_true] at h
  · obtain ⟨a, b, c⟩ := Oper.apart_spec h.1
    exact ⟨a, b⟩
  · obtain ⟨a, b, c⟩ := Oper.apart_spec h.1
    exact ⟨c, fun d hd hd' => b d hd' hd⟩

theorem guardA_congr {ops : Array Oper} {env env' : Env} {o : Oper} (h : ∀ d ∈ o.looksAt ops, look env d = look env' d) : guardA ops env o = guardA ops env' o := by
  unfold guardA
  cases hg : o.guard with
  | none => rfl
  | some p =>
    obtain ⟨j, want⟩ := p
    simp only
    cases hd : (ops[j]?).bind (·.dst) with
    | none => rfl
    | some d =>
      simp only
      rw [h d (by simp only [Oper.looksAt]; exact List.mem_append_right _ (by rw [hg]; simp [hd]))]

theorem argsOf_congr {ops : Array Oper} {env env' : Env} {o : Oper} (h : ∀ d ∈ o.looksAt ops, look env d = look env' d) : argsOf env o = argsOf env' o := by
  unfold argsOf
  refine List.map_congr_left fun x hx => ?_
  cases x with
  | tmp t =>
    simp only [evalA]
    rw [h t (by simp only [Oper.looksAt]; exact List.mem_append_left _ (List.mem_filterMap.2 ⟨.tmp t, hx, rfl⟩))]
  | _ => rfl

section
variable {P : Program} {b : Start} {N : Nat} {ops : Array Oper} {L : List Tr} {st0 : St} {nF : Nat}

def Doing (b : Start) (N : Nat) (L : List Tr) (st0 : St) (nF : Nat) (f : Nat → Bool) (a : Act) (w : World) : Prop :=
  Good b N { env := (play f L 0 st0).env, sto := (play f L 0 st0).sto, nxt := nF, args := st0.args } a w

def DownF (ops : Array Oper) (f : Nat → Bool) : Prop := ∀ j o, ops[j]? = some o → f j = true → ∀ e ∈ edgesOf o.after.toList, f e = true

theorem opsGet (hL : L.map (·.o) = ops.toList) {j : Nat} {x : Tr} (h : L[j]? = some x) : ops[j]? = some x.o := by
  rw [← Array.getElem?_toList, ← hL, List.getElem?_map, h]
  rfl

theorem agree (hL : L.map (·.o) = ops.toList) (hC : Pairs ops st0.nxt nF L) {f : Nat → Bool} (hdown : DownF ops f) {k : Nat} {t : Tr} (hk : L[k]? = some t) (hfk : f k = false) (hready : ∀ e ∈ edgesOf t.o.after.toList, f e = true)
    {j : Nat} {x : Tr} (hx : L[j]? = some x) (hjk : j ≠ k) (hfree : ¬ (free2 ops x t = true ∨ free2 ops t x = true)) : f j = decide (j < k) := by
  rcases Nat.lt_or_gt_of_ne hjk with hlt | hgt
  · rw [decide_eq_true hlt]
    rcases ((hC k t hk).2.2 j x hx hlt).2 with h | h
    · have := h (fun i => f i = true ∨ i = k) (fun i o ho hi e he => by
        rcases hi with hi | rfl
        · exact .inl (hdown i o ho hi e he)
        · rw [opsGet hL hk] at ho
          injection ho with ho
          subst ho
          exact .inl (hready e he)) (.inr rfl)
      exact this.resolve_right hjk
    · exact absurd (.inl h) hfree
  · have : ¬ (j < k) := by omega
    rw [decide_eq_false this]
    rcases ((hC j x hx).2.2 k t hk hgt).2 with h | h
    · cases hf : f j with
      | false => rfl
      | true =>
        have := h (fun i => f i = true) (fun i o ho hi e he => hdown i o ho hi e he) hf
        rw [hfk] at this
        cases this
    · exact absurd (.inr h) hfree

/-- Where the operations stand that are not in order with one of them. -/
theorem far {f : Nat → Bool} (hL : L.map (·.o) = ops.toList) (hC : Pairs ops st0.nxt nF L) (hG : ∀ t ∈ L, GoodT N t) (hdown : DownF ops f) {k : Nat} {t : Tr} (hk : L[k]? = some t) (hfk : f k = false)
    {j : Nat} {x : Tr} (hx : L[j]? = some x) (hfj : f j = true) {u : Nat} (hu : inT x u = true) : ¬ (t.fr ≤ u ∧ u < t.nx) := by
  intro hn
  have gx := hG x (List.mem_of_getElem? hx)
  have gt := hG t (List.mem_of_getElem? hk)
  have hjk : j ≠ k := fun e => by subst e; rw [hfk] at hfj; cases hfj
  rcases Nat.lt_or_gt_of_ne hjk with hlt | hgt
  · have := ((hC k t hk).2.2 j x hx hlt).1
    have := gx.lt hu
    omega
  · obtain ⟨h1, h2⟩ := (hC j x hx).2.2 k t hk hgt
    rcases h2 with h | h
    · have := h (fun i => f i = true) (fun i o ho hi e he => hdown i o ho hi e he) hfj
      rw [hfk] at this
      cases this
    · refine free_disj gt gx (.inl h) (.inl h1) (fun hq => ?_) (u := u) (inT_iff.2 (.inr hn)) hu
      have := gt.qt hq.1
      omega

theorem draw_step (hL : L.map (·.o) = ops.toList) (hC : Pairs ops st0.nxt nF L) (hF : Facts P N ops L st0) (hA : ∀ (j x : Nat), st0.args[j]? = some (some x) → x < st0.nxt) (hS : StoLt st0.nxt st0.sto) (hE : ∀ i v, look st0.env i = some v → ∀ y ∈ v.toks, y < st0.nxt)
    {f : Nat → Bool} (hdown : DownF ops f) {k : Nat} {t : Tr} (hk : L[k]? = some t) (hfk : f k = false) (hready : ∀ e ∈ edgesOf t.o.after.toList, f e = true)
    {f' : Nat → Bool} (hf' : ∀ j, f' j = (f j || j == k)) {a : Act} {w : World} (hg : Doing b N L st0 nF f a w) {next : Act → World → Prop} {Q : Exit → Act → World → Prop} (hn : ∀ a' w', Doing b N L st0 nF f' a' w' → next a' w') : wpOp P ops Q k next a w := by
  obtain ⟨γ, F, h⟩ := hg
  have hG := hF.good
  have gt := hG t (List.mem_of_getElem? hk)
  have hfact := hF.get 0 hk
  obtain ⟨hlo, hhi, hpairs⟩ := hC k t hk
  -- what is known of the others
  have agr : ∀ j x, L[j]? = some x → ¬ (free2 ops x t = true ∨ free2 ops t x = true) → f (0 + j) = decide (0 + j < 0 + k) := by
    intro j x hx hfree
    rw [Nat.zero_add, Nat.zero_add]
    by_cases hjk : j = k
    · subst hjk; rw [hfk]; simp
    · exact agree hL hC hdown hk hfk hready hx hjk hfree
  have agr' : ∀ j x, L[j]? = some x → ¬ (free2 ops x t = true ∨ free2 ops t x = true) → f' (0 + j) = decide (0 + j < 0 + k + 1) := by
    intro j x hx hfree
    have := agr j x hx hfree
    rw [hf', this]
    by_cases hjk : j = k
    · subst hjk; simp
    · have hb : ((0 + j) == k) = false := by simpa using hjk
      rw [hb, Bool.or_false]
      rw [decide_eq_decide]
      omega
  have looks : ∀ d ∈ t.o.looksAt ops, look (play f L 0 st0).env d = look (play (fun i => decide (i < 0 + k)) L 0 st0).env d := fun d hd =>
    play_env (fun j x hx hdst => agr j x hx fun hfree => (free_apart hfree).1 d hdst hd) rfl
  have mono : ∀ j x, L[j]? = some x → j ≠ k → x.nx ≤ t.fr ∨ t.nx ≤ x.fr := by
    intro j x hx hjk
    rcases Nat.lt_or_gt_of_ne hjk with hlt | hgt
    · exact .inl (hpairs j x hx hlt).1
    · exact .inr ((hC j x hx).2.2 k t hk hgt).1
  have touch : ∀ j x, L[j]? = some x → j ≠ k → ¬ (x.quiet = true ∧ t.quiet = true) → ∀ u, inT x u = true → inT t u = true → ¬ (free2 ops x t = true ∨ free2 ops t x = true) := fun j x hx hjk hq u h1 h2 hfree =>
    free_disj (hG x (List.mem_of_getElem? hx)) gt hfree (mono j x hx hjk) hq h1 h2
  have stoK : ∀ u, inT t u = true → look (play f L 0 st0).sto u = look (play (fun i => decide (i < 0 + k)) L 0 st0).sto u := fun u hu =>
    play_sto hG (fun j x hx hq hxu => by
      by_cases hjk : j = k
      · subst hjk; rw [Nat.zero_add, hfk]; simp
      · exact agr j x hx (touch j x hx hjk (fun hh => by rw [hq] at hh; cases hh.1) u hxu hu)) rfl
  have inTs : ∀ u, u ∈ t.ts → inT t u = true := fun u hu => inT_iff.2 (.inl hu)
  -- the new state
  have henv : ∀ i v, look (play f' L 0 st0).env i = some v → if t.o.dst = some i then v = t.v else look (play f L 0 st0).env i = some v := by
    intro i v hv
    by_cases hi : t.o.dst = some i
    · rw [if_pos hi]
      have e1 : look (play f' L 0 st0).env i = look (play (fun i => decide (i < 0 + k + 1)) L 0 st0).env i :=
        play_env (fun j x hx hdst => by
          by_cases hjk : j = k
          · subst hjk; rw [hf']; simp
          · exact agr' j x hx fun hfree => (free_apart hfree).2 i hdst hi) rfl
      rw [e1, play_succ hk, put_env, if_pos hi] at hv
      injection hv with hv
      exact hv.symm
    · rw [if_neg hi]
      rw [← hv]
      refine play_env (fun j x hx hdst => ?_) rfl
      rw [hf']
      by_cases hjk : j = k
      · subst hjk
        rw [hk] at hx
        injection hx with hx
        subst hx
        exact absurd hdst hi
      · have hb : ((0 + j) == k) = false := by simpa using hjk
        rw [hb, Bool.or_false]
  have hsto : ∀ x z, look (play f' L 0 st0).sto x = some z → look (if t.quiet = true then (play f L 0 st0).sto else keep (fun t' => !memb t.ts t') (play f L 0 st0).sto ++ t.S') x = some z := by
    intro x z hz
    have other : t.quiet = true ∨ inT t x = false → look (play f' L 0 st0).sto x = look (play f L 0 st0).sto x := by
      intro hh
      refine play_sto hG (fun j y hy hq hyu => ?_) rfl
      rw [hf']
      by_cases hjk : j = k
      · subst hjk
        rw [hk] at hy
        injection hy with hy
        subst hy
        rcases hh with hh | hh
        · rw [hh] at hq; cases hq
        · rw [hh] at hyu; cases hyu
      · have hb : ((0 + j) == k) = false := by simpa using hjk
        rw [hb, Bool.or_false]
    by_cases hq : t.quiet = true
    · rw [if_pos hq, ← other (.inl hq)]
      exact hz
    · rw [if_neg hq]
      have hq' : t.quiet = false := by simpa using hq
      cases hu : inT t x with
      | false =>
        rw [other (.inr hu)] at hz
        have hm : memb t.ts x = false := by
          cases hm : memb t.ts x with
          | false => rfl
          | true => rw [inTs x ((memb_iff _ _).1 hm)] at hu; cases hu
        rw [look_append, look_keep, hm]
        simp only [Bool.not_false, if_true, hz]
      | true =>
        have e1 : look (play f' L 0 st0).sto x = look (play (fun i => decide (i < 0 + k + 1)) L 0 st0).sto x :=
          play_sto hG (fun j y hy hqy hyu => by
            by_cases hjk : j = k
            · subst hjk; rw [hf']; simp
            · exact agr' j y hy (touch j y hy hjk (fun hh => by rw [hqy] at hh; cases hh.1) x hyu hu)) rfl
        rw [e1, play_succ hk, put_sto hq', ← stoK x hu] at hz
        rw [look_append, look_keep]
        cases hm : memb t.ts x with
        | true =>
          rw [hm] at hz
          simp only [if_true] at hz
          simp only [Bool.not_true, Bool.false_eq_true, if_false]
          exact hz
        | false =>
          rw [hm] at hz
          simp only [Bool.false_eq_true, if_false] at hz
          simp only [Bool.not_false, if_true]
          cases hs : look (play f L 0 st0).sto x <;> rw [hs] at hz <;> exact hz
  have hN : ∀ x z, look (play f L 0 st0).sto x = some z → ¬ (t.fr ≤ x ∧ x < t.nx) ∧ ∀ y ∈ z.toks, ¬ (t.fr ≤ y ∧ y < t.nx) := by
    intro x z hz
    rcases play_src hz with h1 | ⟨j, y, hy, hfj, hq, h1⟩
    · obtain ⟨a1, a2⟩ := hS x z h1
      refine ⟨fun hn => by omega, fun y hy hn => ?_⟩
      have := a2 y hy
      omega
    · rw [Nat.zero_add] at hfj
      obtain ⟨a1, a2⟩ := (hG y (List.mem_of_getElem? hy)).sto h1
      exact ⟨far hL hC hG hdown hk hfk hy hfj a1, fun u hu => far hL hC hG hdown hk hfk hy hfj (a2 u hu)⟩
  have hNe : ∀ i v, look (play f L 0 st0).env i = some v → ∀ y ∈ v.toks, ¬ (t.fr ≤ y ∧ y < t.nx) := by
    intro i v hv y hy hn
    rcases play_srcE hv with h1 | ⟨j, x, hx, hfj, rfl⟩
    · have := hE i v h1 y hy
      omega
    · rw [Nat.zero_add] at hfj
      exact far hL hC hG hdown hk hfk hx hfj ((hG x (List.mem_of_getElem? hx)).val y hy) hn
  have hNa : ∀ (j x : Nat), st0.args[j]? = some (some x) → x < t.fr := fun j x hj => Nat.lt_of_lt_of_le (hA j x hj) hlo
  have fin : ∀ (u : Value) (γ1 : Nat → G) (F' : Nat → Prop) (w' : World), (∀ x z, look t.part x = some z → x ∈ t.ts ∧ look (play f L 0 st0).sto x = some z) → (t.quiet = true → ∀ x, x ∈ t.ts → look t.part x = look (play f L 0 st0).sto x) →
      Post t.fr γ F w t.part γ1 F' w' t.out → RepA γ1 F' w' t.v u → next (a.put t.o.dst u) w' := by
    intro u γ1 F' w' h1 h2 hp hr
    obtain ⟨γ', h'⟩ := Ok.more h gt hN hNe hNa h1 hp hr hhi h2 henv hsto
    exact hn _ _ ⟨γ', F', h'⟩
  unfold wpOp
  rw [opsGet hL hk]
  simp only
  rcases hfact with ⟨hgd, hv, hpt, hts, hq⟩ | ⟨⟨g, hgd, hgf⟩, hargs, hpt, hsem⟩
  · rw [← guardA_congr looks] at hgd
    have := yielded_rep h hgd
    simp only at this
    rw [this]
    simp only [Bool.false_eq_true, if_false]
    have hinv : Inv F γ [] w := ⟨fun t x hx => (by cases hx), fun t t' c ht => (by obtain ⟨x, hx⟩ := ht; cases hx), h.inv.fz⟩
    refine fin undef γ F w (fun x z hz => by rw [hpt] at hz; cases hz) (fun hq x hx => ?_) ?_ (by rw [hv]; exact ⟨[], rfl, trivial⟩)
    · rw [hts] at hx; simp at hx
    · unfold Tr.out
      rw [if_pos hq, hpt]
      exact Post.same hinv
  · rw [← guardA_congr looks] at hgd
    have hw : Region.wanted t.o (yielded ops a.tmps) = true := by
      cases g with
      | none => exact yielded_rep h hgd
      | some x =>
        cases x with
        | true => exact yielded_rep h hgd
        | false => exact absurd rfl hgf
    rw [hw]
    simp only [if_true]
    refine .inl ?_
    have hparts : ∀ x z, look t.part x = some z → x ∈ t.ts ∧ look (play f L 0 st0).sto x = some z := by
      intro x z hz
      rw [hpt, look_keep] at hz
      split at hz
      · rename_i hm
        have hm := (memb_iff _ _).1 hm
        rw [stoK x (inTs x hm)]
        exact ⟨hm, hz⟩
      · cases hz
    obtain ⟨hA1, _⟩ := h.evals t.o.op.operands.toList
    have hargs' : t.args = t.o.op.operands.toList.map (evalA (play f L 0 st0).env) := by
      rw [hargs, ← argsOf_congr looks]
      rfl
    rw [← hargs'] at hA1
    refine hsem γ F w a (h.inv.sub fun x z hz => (hparts x z hz).2) gt.part gt.args hA1 next Q fun u γ' F' w' hp hr => fin u γ' F' w' hparts (fun _ x hx => ?_) hp hr
    rw [hpt, look_keep, (memb_iff _ _).2 hx]
    simp only [if_true]
    exact (stoK x (inTs x hx)).symm
end
end Go.Ab
