/- Regions whose order is drawn: the whole. -/
import Derived.Test.YtioagofpofamiaaAb23
/-! Regions whose order is drawn: the whole. -/
set_option linter.unusedVariables false
set_option linter.unusedSimpArgs false
namespace Go.Ab

section
variable {P : Program} {b : Start} {N : Nat} {ops : Array Oper} {L : List Tr} {st0 : St} {nF : Nat}

theorem Doing.congr {f g : Nat → Bool} {a : Act} {w : World} (h : Doing b N L st0 nF f a w) (he : ∀ j, j < L.length → f j = g j) : Doing b N L st0 nF g a w := by
  unfold Doing at *
  rwa [play_congr (f := g) (g := f) fun j hj => by rw [Nat.zero_add]; exact (he j hj).symm]

theorem count_set_false {l : List Bool} {i : Nat} (h : l[i]? = some false) : (l.set i true).count false + 1 = l.count false := by
  induction l generalizing i with
  | nil => simp at h
  | cons x l ih =>
    cases i with
    | zero =>
      simp only [List.getElem?_cons_zero, Option.some.injEq] at h
      subst h
      simp
    | succ i =>
      have := ih (i := i) (by simpa using h)
      simp only [List.set_cons_succ, List.count_cons]
      omega

theorem draw_any (hL : L.map (·.o) = ops.toList) (hC : Pairs ops st0.nxt nF L) (hF : Facts P N ops L st0) (hA : ∀ (j x : Nat), st0.args[j]? = some (some x) → x < st0.nxt) (hS : StoLt st0.nxt st0.sto) (hE : ∀ i v, look st0.env i = some v → ∀ y ∈ v.toks, y < st0.nxt)
    (hB : backOk ops.toList 0 = true) {Q : Exit → Act → World → Prop} (hQ : ∀ a w, Doing b N L st0 nF (fun _ => true) a w → Q .normal a w) :
    ∀ (fuel : Nat) (listed : Array Bool) (a : Act) (w : World), listed.size = ops.size → DownF ops (fun i => listed.getD i false) → listed.toList.count false ≤ fuel → Doing b N L st0 nF (fun i => listed.getD i false) a w → wpAny P .any ops Q fuel listed a w := by
  have hlen : L.length = ops.size := by have := congrArg List.length hL; simpa using this
  have done : ∀ (listed : Array Bool) (a : Act) (w : World), listed.size = ops.size → Region.ready .any ops listed = [] → Doing b N L st0 nF (fun i => listed.getD i false) a w → Q .normal a w := by
    intro listed a w hsz hr hd
    have all : ∀ i, i < ops.size → listed.getD i false = true := by
      intro i
      induction i using Nat.strongRecOn with
      | ind i ih =>
        intro hi
        cases hl : listed.getD i false with
        | true => rfl
        | false =>
          have hmem : i ∈ Region.ready .any ops listed := by
            rw [mem_ready]
            refine ⟨?_, ops[i], Array.getElem?_eq_getElem hi, fun e he hb => ?_⟩
            · rw [Array.getD_eq_getD_getElem?, Array.getElem?_eq_getElem (by omega)] at hl ⊢
              simpa using hl
            · have h1 := backOk_lt hB i ops[i] (by rw [Array.getElem?_toList, Array.getElem?_eq_getElem hi]) e.on (mem_edgesOf (by simpa using he) hb)
              exact ih e.on (by omega) (by omega)
          rw [hr] at hmem
          cases hmem
    exact hQ a w (hd.congr fun j hj => all j (by omega))
  intro fuel
  induction fuel with
  | zero =>
    intro listed a w hsz hdown hcnt hd
    have hr : Region.ready .any ops listed = [] := by
      rw [List.eq_nil_iff_forall_not_mem]
      intro i hi
      obtain ⟨h1, o, ho, _⟩ := mem_ready.1 hi
      have hlt : i < listed.size := by rw [hsz]; exact (Array.getElem?_eq_some_iff.1 ho).1
      rw [Array.getD_eq_getD_getElem?, Array.getElem?_eq_getElem hlt] at h1
      have hm : false ∈ listed.toList := by
        have h1 : listed[i] = false := by simpa using h1
        rw [← h1]
        simp
      have := List.count_pos_iff.2 hm
      omega
    exact ⟨hr, done listed a w hsz hr hd⟩
  | succ fuel ih =>
    intro listed a w hsz hdown hcnt hd
    refine ⟨fun hr => done listed a w hsz hr hd, fun i hi => ?_⟩
    obtain ⟨h1, o, ho, hedges⟩ := mem_ready.1 hi
    have hio : i < ops.size := (Array.getElem?_eq_some_iff.1 ho).1
    have hlt : i < listed.size := by omega
    have hget : listed[i]? = some false := by
      rw [Array.getD_eq_getD_getElem?, Array.getElem?_eq_getElem hlt] at h1
      rw [Array.getElem?_eq_getElem hlt]
      simpa using h1
    have hfk : listed.getD i false = false := by rw [Array.getD_eq_getD_getElem?, hget]; rfl
    have hset : ∀ j, (listed.setIfInBounds i true).getD j false = (listed.getD j false || j == i) := by
      intro j
      by_cases hji : j = i
      · subst hji
        simp [hlt]
      · rw [getD_set_ne false (Ne.symm hji)]
        have : (j == i) = false := by simpa using hji
        rw [this, Bool.or_false]
    obtain ⟨t, ht⟩ : ∃ t, L[i]? = some t := ⟨L[i]'(by omega), List.getElem?_eq_getElem (by omega)⟩
    have hto : t.o = o := by
      have := opsGet hL ht
      rw [ho] at this
      injection this with this
      exact this.symm
    have hready : ∀ e ∈ edgesOf t.o.after.toList, listed.getD e false = true := by
      intro e he
      obtain ⟨x, hx, hb, rfl⟩ := edgesOf_mem he
      rw [hto] at hx
      exact hedges x (by simpa using hx) hb
    refine draw_step hL hC hF hA hS hE (f := fun i => listed.getD i false) hdown ht hfk hready (f' := fun j => (listed.setIfInBounds i true).getD j false) hset hd fun a' w' hd' => ?_
    refine ih _ a' w' (by simpa using hsz) ?_ ?_ hd'
    · intro j o' ho' hj e he
      have hj' : (listed.getD j false || j == i) = true := by rw [← hset]; exact hj
      show (listed.setIfInBounds i true).getD e false = true
      rw [hset]
      simp only [Bool.or_eq_true, beq_iff_eq] at hj'
      rcases hj' with hj' | rfl
      · rw [show listed.getD e false = true from hdown j o' ho' hj' e he]; rfl
      · rw [ho] at ho'
        injection ho' with ho'
        subst ho'
        rw [← hto] at he
        rw [hready e he]
        rfl
    · have := count_set_false (l := listed.toList) (i := i) (by simpa using hget)
      have h2 : (listed.setIfInBounds i true).toList = listed.toList.set i true := by simp
      rw [h2]
      omega

theorem Ok.drawn {st : St} {a : Act} {w : World} {γ : Nat → G} {F : Nat → Prop} (h : Ok b N st a w γ F) (n : Nat) : Ok b N st a { w with drawn := n } γ F := by
  have hl : Lasts F F w { w with drawn := n } := ⟨fun _ h => h, fun _ _ => rfl⟩
  refine ⟨fun i v hv => (h.env i v hv).lasts hl fun _ _ => rfl, h.envLt, h.num, h.defers, ⟨fun t x hx => ?_, h.inv.inj, h.inv.fz⟩, h.lt, h.args, h.os, h.tape, h.output, h.size, h.heap, h.sub, h.fnew, h.mine, h.frz⟩
  exact (h.inv.blk t x hx).lasts hl rfl (fun _ _ => rfl) fun _ _ => ⟨rfl, id⟩

theorem draw_ok {Γ : Tab} {T : Table} (hΓ : tabIs P Γ = true) (hT : Sound P T) (hm : P.follows .mixedOrders = true) (R : Type) (b : Start) (N : Nat) : DrawOk P b N (R := R) (evDraw Γ T N) := by
  intro id ops st K r a w he hg
  unfold evDraw at he
  cases hB : backOk ops.toList 0 with
  | false => rw [hB] at he; cases he
  | true =>
    rw [hB] at he
    simp only [cond_true] at he
    obtain ⟨L, hL, hF, hK⟩ := evDr_facts hΓ hT 0 he
    simp only [List.nil_append] at hK
    let st' := play (fun _ => true) L 0 st
    cases hc : chkAll ops st.nxt st'.nxt (befs ops.toList []) [] L && Nat.ble st.nxt st'.nxt with
    | false => rw [show (chkAll ops st.nxt (play (fun _ => true) L 0 st).nxt (befs ops.toList []) [] L && Nat.ble st.nxt (play (fun _ => true) L 0 st).nxt) = false from hc] at hK; cases hK
    | true =>
      rw [show (chkAll ops st.nxt (play (fun _ => true) L 0 st).nxt (befs ops.toList []) [] L && Nat.ble st.nxt (play (fun _ => true) L 0 st).nxt) = true from hc] at hK
      simp only [cond_true] at hK
      simp only [Bool.and_eq_true] at hc
      obtain ⟨hc, hle⟩ := hc
      have hle : st.nxt ≤ st'.nxt := by simpa using hle
      have hC : Pairs ops st.nxt st'.nxt L := by
        intro j y hy
        have h := chkAll_ok hc (fun k bs hk i hi => by
          have := befs_imp (ops := ops) (l := ops.toList) (acc := []) (by simp) (fun k bs hk => by simp at hk) k bs hk i hi
          simpa using this) j y hy
        simpa using h
      obtain ⟨γ, F, h⟩ := hg
      refine wp_region_any hm ?_
      refine draw_any (b := b) (N := N) (nF := st'.nxt) hL hC hF (fun j x hj => (h.args j x hj).2) h.lt h.envLt hB ?_ ops.size _ a _ (by simp) ?_ ?_ ?_
      · intro a w hd
        exact ⟨st', hK, by
          have e : ({ env := (play (fun _ => true) L 0 st).env, sto := (play (fun _ => true) L 0 st).sto, nxt := st'.nxt, args := st.args } : St) = st' := by
            rw [← play_args (f := fun _ => true) (L := L) (n := 0) (st := st)]
          unfold Doing at hd
          rw [e] at hd
          exact hd⟩
      · intro j o ho hj e he
        exfalso
        have hj' : (Array.replicate ops.size false).getD j false = true := hj
        rw [Array.getD_eq_getD_getElem?, Array.getElem?_replicate] at hj'
        split at hj' <;> simp at hj'
      · simp
      · have hf : ∀ j, (Array.replicate ops.size false).getD j false = false := by
          intro j
          rw [Array.getD_eq_getD_getElem?, Array.getElem?_replicate]
          split <;> simp
        refine ⟨γ, F, ?_⟩
        rw [play_none fun j _ => hf j]
        have h' := h.drawn (w.drawn + 1)
        exact ⟨h'.env, fun i v hv t ht => Nat.lt_of_lt_of_le (h'.envLt i v hv t ht) hle, h'.num, h'.defers, h'.inv, fun t x hx => by
          obtain ⟨h1, h2⟩ := h'.lt t x hx
          exact ⟨Nat.lt_of_lt_of_le h1 hle, fun u hu => Nat.lt_of_lt_of_le (h2 u hu) hle⟩, fun j t hj => by
          obtain ⟨h1, h2⟩ := h'.args j t hj
          exact ⟨h1, Nat.lt_of_lt_of_le h2 hle⟩, h'.os, h'.tape, h'.output, h'.size, h'.heap, h'.sub, h'.fnew, h'.mine, h'.frz⟩

/-- A function's code over what it is handed. -/
def evF (Γ : Tab) (T : Table) (ns : Notes) (k : Nat) (n : Nat) (rv : List ResultVar) (c : Code) (args : List AV) (res : List RSh) : Option (resDen res) :=
  evFn Γ T (fun R N => evDraw Γ T N) ns k n rv c args res

theorem evF_sound {Γ : Tab} {T : Table} (hΓ : tabIs P Γ = true) (hT : Sound P T) (hm : P.follows .mixedOrders = true) {ns : Notes} {k : Nat} {f : Nat} {fn : Func} {c : Code} (hf : P.funcs[f]? = some fn) (hb : fn.body = some c)
    {sig : List ASh} {res : List RSh} {x : argDen sig} {y : resDen res} (h : evF Γ T ns k fn.ntmps fn.results.toList c (argsV sig x) res = some y) : FnOk P f sig res x y :=
  fn_sound hΓ hT (fun R b N => draw_ok hΓ hT hm R b N) hf hb h
end
end Go.Ab
