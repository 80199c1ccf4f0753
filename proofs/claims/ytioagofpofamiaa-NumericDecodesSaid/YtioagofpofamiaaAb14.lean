/- Append. -/
import Derived.Test.YtioagofpofamiaaAb13
/-! Append. -/
set_option linter.unusedVariables false
set_option linter.unusedSimpArgs false
namespace Go.Ab
section
variable {P : Program} {dst : Option Tmp} {ty : TypeId} {pos : String} {aft : Array Edge} {gd : Option (Nat × Bool)} {fr : Nat} {S : Store} {Γ : Tab}

theorem keep_ne_new {tok : Nat} {x : Blk} (h : tok < fr) : keep (fun i => !Nat.beq i tok) (S ++ [(fr, x)]) = keep (fun i => !Nat.beq i tok) S ++ [(fr, x)] := by
  rw [keep_append]
  congr 1
  simp only [keep]
  rw [beq_no (by omega)]
  rfl

/-- A row grown in its place: the old token is gone, the new one has its block. -/
theorem Post.move {γ : Nat → G} {F : Nat → Prop} {w w' : World} {tok b : Nat} {x y : Blk} {g : G} (hI : Inv F γ S w) (hlt : StoLt fr S) (hS : look S tok = some x) (hb : (γ tok).blk = some b) (hF : ¬ F b) (h : Turned w w' b)
    (hg : g.blk = some b) (hy : BlkOk F (setG γ fr g) w' fr y) : Post fr γ F w S (setG γ fr g) F w' (keep (fun i => !Nat.beq i tok) S ++ [(fr, y)]) := by
  have hl : Lasts F F w w' := ⟨fun _ h => h, fun c hc => h.old c fun e => hF (e ▸ hc)⟩
  have hne : ∀ t, t < fr → setG γ fr g t = γ t := fun t ht => setG_ne γ g (by omega)
  have hnew : ∀ t z, look (keep (fun i => !Nat.beq i tok) S ++ [(fr, y)]) t = some z → (look S t = some z ∧ t < fr ∧ t ≠ tok) ∨ (t = fr ∧ z = y) := by
    intro t z hz
    rw [look_append, look_keep] at hz
    by_cases ht : t = tok
    · subst ht
      rw [beq_yes] at hz
      simp only [Bool.not_true, Bool.false_eq_true, if_false, look] at hz
      have := (hlt t x hS).1
      rw [beq_no (by omega)] at hz
      cases hz
    · rw [beq_no ht] at hz
      simp only [Bool.not_false, if_true] at hz
      cases hSt : look S t with
      | some c => rw [hSt] at hz; injection hz with hz; subst hz; exact .inl ⟨rfl, (hlt t _ hSt).1, ht⟩
      | none =>
        rw [hSt] at hz
        simp only [look] at hz
        by_cases e : fr = t
        · subst e
          rw [beq_yes] at hz
          injection hz with hz
          exact .inr ⟨rfl, hz.symm⟩
        · rw [beq_no e] at hz; cases hz
  refine ⟨h.os, h.tape, h.output, Nat.le_of_eq h.size.symm, fun c hc hm => h.old c fun e => hm ⟨tok, ⟨x, hS⟩, by rw [e]; exact hb⟩, hne, fun _ h => h, fun _ h => .inl h, ?_, hl.heap, ?_⟩
  · rintro c ⟨t, ⟨z, hz⟩, hc⟩
    rcases hnew t z hz with ⟨h1, h2, h3⟩ | ⟨rfl, rfl⟩
    · rw [hne t h2] at hc
      exact .inl ⟨t, ⟨z, h1⟩, hc⟩
    · rw [setG_self, hg] at hc
      injection hc with hc
      exact .inl ⟨tok, ⟨x, hS⟩, by rw [← hc]; exact hb⟩
  · refine ⟨fun t z hz => ?_, fun t t' c ht ht' hc hc' => ?_, fun c hc => by rw [h.size]; exact hI.fz c hc⟩
    · rcases hnew t z hz with ⟨h1, h2, h3⟩ | ⟨rfl, rfl⟩
      · exact (hI.blk t z h1).lasts hl (hne t h2) (fun u hu => hne u ((hlt t z h1).2 u hu)) fun c hc => ⟨h.old c fun e => h3 (hI.inj t tok b ⟨z, h1⟩ ⟨x, hS⟩ (e ▸ hc) hb), fun h => h⟩
      · exact hy
    · obtain ⟨z, hz⟩ := ht
      obtain ⟨z', hz'⟩ := ht'
      rcases hnew t z hz with ⟨h1, h2, h3⟩ | ⟨e1, e2⟩ <;> rcases hnew t' z' hz' with ⟨h4, h5, h6⟩ | ⟨e3, e4⟩
      · rw [hne t h2] at hc
        rw [hne t' h5] at hc'
        exact hI.inj t t' c ⟨z, h1⟩ ⟨z', h4⟩ hc hc'
      · subst e3
        rw [hne t h2] at hc
        rw [setG_self, hg] at hc'
        injection hc' with hc'
        subst hc'
        exact absurd (hI.inj t tok b ⟨z, h1⟩ ⟨x, hS⟩ hc hb) h3
      · subst e1
        rw [hne t' h5] at hc'
        rw [setG_self, hg] at hc
        injection hc with hc
        subst hc
        exact absurd (hI.inj t' tok b ⟨z', h4⟩ ⟨x, hS⟩ hc' hb) h6
      · omega

/-- What an append comes to, its first operand being nil, or a row of one's own. -/
theorem run_append_abs {γ : Nat → G} {F : Nat → Prop} {w : World} (hI : Inv F γ S w) (hlt : StoLt fr S) {t tx tr E : Nat} {i : TypeInfo} {z : Value} {e : Ty} (ht : P.underlying t = some (.slice E)) (hi : P.info? E = some i) (hz : i.zero = some z)
    (hsz : i.size = e.size) (hzs : z.cells.size = e.size) {xs ys : List e.den} {v x : Value} {news : List Value} (hf : Flat F w e ys news) (hs : Src P e.size tx x ys.length news w)
    (hb : (xs.length + ys.length) * i.bytes ≤ 140737488355328) (h63 : xs.length + ys.length ≤ 9223372036854775807) (S0 : Store)
    (hv : (v = .slice none 0 0 ∧ xs = [] ∧ S0 = S) ∨ ∃ tok, v = (γ tok).val ∧ look S tok = some (.row E e .plain xs) ∧ S0 = keep (fun i => !Nat.beq i tok) S) :
    ∃ u w' γ', (Builtin.append_ #[t, tx] tr #[v, x]).run P w = .ok u w' ∧ Post fr γ F w S γ' F w' (S0 ++ [(fr, .row E e .plain (xs ++ ys))]) ∧ RepA γ' F w' (one (.own fr)) u := by
  rw [← hsz] at hs
  have newsl : news.length = ys.length * i.size := by rw [hf.length, hsz]
  -- a new row
  have grow : ∀ (base : Option Addr) (sCap : Nat) (olds : List Value), Flat F w e xs olds → (Builtin.firstCells i.size xs.length (.slice base xs.length sCap)).run P w.drew = .ok olds.toArray w.drew → sCap < xs.length + ys.length →
      ∃ u w' γ', (Builtin.append_ #[t, tx] tr #[.slice base xs.length sCap, x]).run P w = .ok u w' ∧ Post fr γ F w S γ' F w' (S ++ [(fr, .row E e .plain (xs ++ ys))]) ∧ RepA γ' F w' (one (.own fr)) u := by
    intro base sCap olds hfo hfirst hlt'
    have hr := run_append_grow_src (P := P) w t tx tr E i z ht hi hz base xs.length sCap olds hfirst x ys.length news hs hlt' (by omega) (growslice_fits hlt' hb)
    have hge := grownCap_ge w (xs.length + ys.length) sCap E
    have hcm : grownCap w (xs.length + ys.length) sCap E ≤ maxLen := grownCap_le_maxLen w _ sCap E (by simp only [maxLen]; omega)
    have hfl := hfo.append hf
    have hlen : (olds ++ news).length = (xs.length + ys.length) * e.size := by rw [hfl.length, List.length_append]
    have hnb : NewBlk w (w.drew.alloc (.cells ((olds ++ news).toArray ++ Builtin.zeroCells z.cells (grownCap w (xs.length + ys.length) sCap E - (xs.length + ys.length))) E)) (.cells ((olds ++ news).toArray ++ Builtin.zeroCells z.cells (grownCap w (xs.length + ys.length) sCap E - (xs.length + ys.length))) E) :=
      ⟨rfl, rfl, rfl, by simp, fun {b} hb => heap_alloc_old w.drew _ b hb, heap_alloc_new w.drew _⟩
    obtain ⟨γ', hp, hrp⟩ := sem_newRow (m := .plain) (e := e) (xs := xs ++ ys) (cap := grownCap w (xs.length + ys.length) sCap E) hI hlt hnb (by rw [List.length_append]; exact hge) hcm (by
      rw [Array.size_append, size_zeroCells, hzs, List.size_toArray, hlen, ← Nat.add_mul]
      congr 1
      omega) (by
      rw [List.length_append, Array.toList_append, List.take_left' (by rw [← hlen])]
      exact hfl) rfl
    rw [List.length_append] at hrp
    exact ⟨_, _, γ', hr, hp, hrp⟩
  rcases hv with ⟨rfl, rfl, rfl⟩ | ⟨tok, rfl, hS, rfl⟩
  · by_cases h0 : ys.length = 0
    · have : ys = [] := List.eq_nil_of_length_eq_zero h0
      subst this
      refine ⟨.slice none 0 0, w, setG γ fr ⟨none, 0, 0, e.size⟩, ?_, Post.nilRow hI hlt, by show _ = (setG γ fr _ fr).val; rw [setG_self]; rfl⟩
      have hn0 : news = [] := List.eq_nil_of_length_eq_zero (by simpa using newsl)
      subst hn0
      have hc0 : (Builtin.firstCells i.size 0 x).run P w = .ok #[] w := hs.cells
      have hl0 : ∀ w', (Builtin.lenOf x).run P w' = .ok 0 w' := hs.len
      rcases hs.kind with ⟨e', hk⟩ | hk <;> simp [Builtin.append_, run_underlying ht, run_underlying hk, Go.sizeOf, typeInfo, hi, hl0, hc0]
    · have := grow none 0 [] rfl (by simp [Builtin.firstCells]) (by simp; omega)
      exact this
  · have hrow : RowOk F (γ tok) w E e .plain xs := hI.blk tok _ hS
    have htl := (hlt tok _ hS).1
    have drop : ∀ {u : Value} {w' : World} {γ' : Nat → G} {r : Result Value}, (r = .ok u w' ∧ Post fr γ F w S γ' F w' (S ++ [(fr, .row E e .plain (xs ++ ys))]) ∧ RepA γ' F w' (one (.own fr)) u) →
        r = .ok u w' ∧ Post fr γ F w S γ' F w' (keep (fun i => !Nat.beq i tok) S ++ [(fr, .row E e .plain (xs ++ ys))]) ∧ RepA γ' F w' (one (.own fr)) u := by
      intro u w' γ' r h
      refine ⟨h.1, ?_, h.2.2⟩
      rw [← keep_ne_new htl]
      exact h.2.1.drop _
    have hrow' := hrow
    obtain ⟨g1, g2, ⟨g3, g4⟩ | ⟨b, cur, fz, flat, g3, g4, g5, g6, g7, g8, g9, g10⟩⟩ := hrow'
    · subst g4
      have hval : (γ tok).val = .slice none 0 0 := by simp [G.val, g3]
      rw [hval]
      by_cases h0 : ys.length = 0
      · have : ys = [] := List.eq_nil_of_length_eq_zero h0
        subst this
        refine ⟨.slice none 0 0, w, setG γ fr ⟨none, 0, 0, e.size⟩, drop ⟨?_, Post.nilRow hI hlt, by show _ = (setG γ fr _ fr).val; rw [setG_self]; rfl⟩⟩
        have hn0 : news = [] := List.eq_nil_of_length_eq_zero (by simpa using newsl)
        subst hn0
        have hc0 : (Builtin.firstCells i.size 0 x).run P w = .ok #[] w := hs.cells
        have hl0 : ∀ w', (Builtin.lenOf x).run P w' = .ok 0 w' := hs.len
        rcases hs.kind with ⟨e', hk⟩ | hk <;> simp [Builtin.append_, run_underlying ht, run_underlying hk, Go.sizeOf, typeInfo, hi, hl0, hc0]
      · obtain ⟨u, w', γ', h⟩ := grow none 0 [] rfl (by simp [Builtin.firstCells]) (by simp; omega)
        exact ⟨u, w', γ', drop h⟩
    · have hval : (γ tok).val = .slice (some ⟨b, 0, none⟩) xs.length (γ tok).cap := by simp [G.val, g3, g1]
      rw [hval]
      by_cases hroom : xs.length + ys.length ≤ (γ tok).cap
      · -- in its place
        obtain ⟨hnF, hfz⟩ := g10
        subst hfz
        have hmul : (xs.length + ys.length) * e.size ≤ (γ tok).cap * e.size := Nat.mul_le_mul_right _ hroom
        rw [Nat.add_mul] at hmul
        have hfl := hf.length
        obtain ⟨w', cur', hst, htn, hb', hc'⟩ := run_storeCells_blk (P := P) b (xs.length * e.size) E (0, 0) news 0 cur w g4 (.inl rfl) (by omega) hs.one
        have hrun : (Builtin.append_ #[t, tx] tr #[.slice (some ⟨b, 0, none⟩) xs.length (γ tok).cap, x]).run P w = .ok (.slice (some ⟨b, 0, none⟩) (xs.length + ys.length) (γ tok).cap) w' := by
          have hst' : (storeCells ((⟨b, 0, none⟩ : Addr).add (xs.length * i.size)) news).run P w = .ok () w' := by
            rw [addr_add, Nat.zero_add, hsz]
            exact hst
          rcases hs.kind with ⟨e', hk⟩ | hk <;> simp [Builtin.append_, run_underlying ht, run_underlying hk, Go.sizeOf, typeInfo, hi, hs.len, hroom, hs.cells, hst']
        have hlst : Lasts F F w w' := ⟨fun _ h => h, fun c hc => htn.old c fun e => hnF (e ▸ hc)⟩
        refine ⟨_, w', setG γ fr ⟨some b, xs.length + ys.length, (γ tok).cap, e.size⟩, hrun, Post.move hI hlt hS g3 hnF htn rfl ?_, by show _ = (setG γ fr _ fr).val; rw [setG_self]; rfl⟩
        show RowOk F (setG γ fr _ fr) w' E e .plain (xs ++ ys)
        rw [setG_self]
        refine ⟨by simp, rfl, .inr ⟨b, cur', (0, 0), _, rfl, hb', by rw [List.length_append]; exact hroom, g6, ?_, rfl, ?_, hnF, rfl⟩⟩
        · have h5 := congrArg List.length hc'
          rw [spl_length _ _ _ (by simp; omega)] at h5
          simp at h5
          show cur'.size = (γ tok).cap * e.size
          omega
        · rw [hc', Nat.add_zero, List.length_append, Nat.add_mul]
          have h6 : (spl cur.toList (xs.length * e.size) news).take (xs.length * e.size + ys.length * e.size) = flat ++ news := by
            unfold spl
            rw [List.take_left' (by simp; omega), g8]
          rw [h6]
          exact (g9.lasts hlst).append (hf.lasts hlst)
      · obtain ⟨u, w', γ', h⟩ := grow (some ⟨b, 0, none⟩) (γ tok).cap flat g9 (run_firstCells_some w.drew i.size xs.length ⟨b, 0, none⟩ xs.length (γ tok).cap flat (by rw [g9.length, hsz]) (by
          intro j u hu
          rw [addr_add, Nat.zero_add]
          have hc := cell_of_heap (w := w.drew) (j := j) (show w.drew.heap[b]? = _ from g4)
          rw [hc]
          rw [← g8, List.getElem?_take] at hu
          split at hu
          · simpa using hu
          · cases hu)) (by omega)
        exact ⟨u, w', γ', drop h⟩

theorem castSeq_eq {e : Ty} {q : Seq} {xs : List e.den} (h : castSeq e q = some xs) : q = ⟨e, xs⟩ := by
  obtain ⟨e', ys⟩ := q
  unfold castSeq at h
  split at h
  · rename_i he
    simp only at he
    subst he
    injection h with h
    subst h
    rfl
  · cases h

theorem sem_append (hΓ : tabIs P Γ = true) (xs : Array Operand) (ts : Array TypeId) (ax ay : AV) : ResSem (OpSem P ⟨dst, .call { callee := .builtin .append, args := xs, argTypes := ts }, ty, pos, aft, gd⟩ [ax, ay] fr S) (appendA Γ ts.toList ax ay fr S) := by
  have hops : ((Op.call { callee := .builtin .append, args := xs, argTypes := ts }).operands).toList = xs.toList := by simp [Op.operands, Call.operands]
  unfold appendA
  split
  · rename_i t tx hts
    split
    · trivial
    · rename_i E te b hzr
      unfold zeroRow at hzr
      split at hzr <;> try (cases hzr; done)
      rename_i E' te' sz by_ ag z eq hr
      split at hzr <;> try (cases hzr; done)
      rename_i hre
      injection hzr with hzr
      injection hzr with e1 hzr
      injection hzr with e2 e3
      subst e1 e2 e3
      obtain ⟨d, i, ok⟩ := trOf_ok hΓ hr
      obtain ⟨hd, ei, hei, hsz, hdf⟩ := descIs_slice ok.desc rfl
      have hund : P.underlying t = some (.slice E') := by rw [ok.und, hd]
      obtain ⟨d', i', ok'⟩ := trOf_ok hΓ hre
      have hii : i' = ei := by have := ok'.inf; rw [hei] at this; injection this with this; exact this.symm
      subst hii
      obtain ⟨z0, hz0, _, hz0s, _⟩ := ok'.zero _ rfl
      have hz0s' : z0.cells.size = te'.size := by rw [hz0s, ← hsz]; exact ok'.size.symm
      have hby := ok'.bytes
      simp only at hby
      split
      · trivial
      · rename_i ys hys
        -- what is appended reads so
        have src : ∀ γ F w v, Inv F γ S w → RepA γ F w ay v → ∃ news, Flat F w te' ys news ∧ Src P te'.size tx v ys.length news w := by
          intro γ F w v hI hv
          unfold srcA at hys
          split at hys
          · rename_i E2 te2 _ _ _ _ _ hrx
            obtain ⟨dx, ix, okx⟩ := trOf_ok hΓ hrx
            obtain ⟨hdx, _⟩ := descIs_slice okx.desc rfl
            have hk : P.underlying tx = some (.slice E2) := by rw [okx.und, hdx]
            split at hys
            · injection hys with hys
              subst hys
              have hv' : v = .slice none 0 0 := hv
              subst hv'
              exact ⟨[], rfl, Src.ofNil w hk 0⟩
            · split at hys
              · rename_i q hq
                have := castSeq_eq hys
                subst this
                exact reads_src (seqOf_reads hI hq hv) hk
              · cases hys
          · rename_i hrx
            obtain ⟨dx, ix, okx⟩ := trOf_ok hΓ hrx
            have hdx := descIs_str okx.desc rfl
            have hk : P.underlying tx = some .string := by rw [okx.und, hdx]
            split at hys
            · rename_i z
              have h := castSeq_eq hys
              have h1 : te' = .int .u8 := by injection h with h1 _; exact h1.symm
              subst h1
              have h2 : ys = bytesOf z := by injection h with _ h2; exact h2.symm
              subst h2
              have hv' : v = .string z := hv
              subst hv'
              have hbl : (bytesOf z).length = z.size := by
                unfold bytesOf
                rw [List.length_map, Array.length_toList]
                rfl
              refine ⟨byteCells z, bytes_flat _, ?_⟩
              rw [hbl]
              exact Src.ofString w hk z
            · cases hys
          · cases hys
        have fin : ∀ (xs0 : List te'.den) (S0 : Store), (∀ γ F w v, Inv F γ S w → RepA γ F w ax v → (v = .slice none 0 0 ∧ xs0 = [] ∧ S0 = S) ∨ ∃ tok, v = (γ tok).val ∧ look S tok = some (.row E' te' .plain xs0) ∧ S0 = keep (fun i => !Nat.beq i tok) S) →
            ∀ by2, i'.bytes = by2 → ResSem (OpSem P ⟨dst, .call { callee := .builtin .append, args := xs, argTypes := ts }, ty, pos, aft, gd⟩ [ax, ay] fr S) (appendTo E' te' by2 xs0 ys fr S0) := by
          intro xs0 S0 hcase by2 hby2 hc
          simp only [Bool.and_eq_true, decide_eq_true_eq] at hc
          intro γ F w a hI hlt _ hA next Q hn
          rw [hops] at hA
          obtain ⟨v1, v2, hvs, hr1, hr2⟩ := all2_two (all2_args hA)
          have hxs : xs.map a.eval = #[v1, v2] := by apply Array.ext'; simpa using hvs
          obtain ⟨news, hf, hs⟩ := src γ F w v2 hI hr2
          obtain ⟨u, w', γ', hrun, hp, hrp⟩ := run_append_abs (tr := ty) hI hlt hund hei hz0 hsz hz0s' hf hs (by rw [hby2]; exact hc.1) hc.2 S0 (hcase γ F w v1 hI hr1)
          have htsa : ts = #[t, tx] := by apply Array.ext'; simpa using hts
          refine wp_of_value (run_call_builtin (Builtin.append_ ts ty (xs.map a.eval)) (fun _ => rfl) ?_) (hn u γ' F w' hp hrp)
          rw [hxs, htsa]
          exact hrun
        split
        · exact fin [] S (fun γ F w v hI hv => .inl ⟨hv, rfl, rfl⟩) _ hby
        · rename_i tok
          cases htk : tokOf ay tok with
          | true => trivial
          | false =>
            simp only [cond_false]
            split
            · rename_i E3 e3 xs3 hS
              split
              · rename_i hE
                subst hE
                split
                · rename_i xs0 hcs
                  have := castSeq_eq hcs
                  injection this with h1 h2
                  subst h1
                  have h2' := eq_of_heq h2
                  subst h2'
                  exact fin xs3 _ (fun γ F w v hI hv => .inr ⟨tok, hv, hS, rfl⟩) _ hby
                · trivial
              · trivial
            · trivial
        · trivial
  · trivial
end
end Go.Ab
