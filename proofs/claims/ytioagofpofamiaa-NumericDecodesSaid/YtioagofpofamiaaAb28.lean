/- A law's row, from what its function comes to. -/
import Derived.Test.YtioagofpofamiaaAb27
import Derived.Carry
/-! A law's row, from what its function comes to. -/
set_option linter.unusedVariables false
set_option linter.unusedSimpArgs false
namespace Go.Ab
open Go.ChangeShapes Go.WideShapes Go.ChangeAt Go.RowKit

def aggT (P : Program) (t : TypeId) : Bool := match P.underlying t with
  | some (.struct _) => true
  | some (.array _ _) => true
  | _ => false
def sigIs (P : Program) : List TypeId → List ASh → Bool
  | [], [] => true
  | t :: ts, .dat ty :: l => tyIs P 40 t ty && (!aggT P t && sigIs P ts l)
  | t :: ts, .agg ty :: l => tyIs P 40 t ty && (aggT P t && sigIs P ts l)
  | _, _ => false
def ASh.ok : (a : ASh) → a.den → Prop
  | .dat t, x => t.ok x
  | .agg t, x => t.ok x
def ArgOk : (l : List ASh) → argDen l → Prop
  | [], _ => True
  | [a], x => a.ok x
  | a :: a' :: l, x => a.ok x.1 ∧ ArgOk (a' :: l) x.2

section
variable {H : Type} {enc : TypeId × Value → H} {P : Program} {w : World} {held : Bool}

theorem tyIs_one {n : Nat} {t : TypeId} {ty : Ty} (h1 : tyIs P (n + 1) t ty = true) (hs2 : aggT P t = false) {base : Nat} {v : Value} (hval : Value.okWide P w .any base t v) : v.cells.toList = [v] := by
  simp only [tyIs] at h1
  unfold aggT at hs2
  split at h1
  · rename_i hu; obtain ⟨n, rfl⟩ := okWide_int hu hval; rfl
  · rename_i hu; obtain ⟨n, rfl⟩ := okWide_bool hu hval; rfl
  · rename_i hu; obtain ⟨n, rfl⟩ := okWide_string hu hval; rfl
  · rename_i hu; obtain ⟨n, _, _, rfl⟩ := okWide_slice hu hval; rfl
  · rename_i hu; simp only [hu] at hs2; cases hs2
  · rename_i hu; simp only [hu] at hs2; cases hs2
  · cases h1

theorem open_one {t : TypeId} {a : ASh} (hs : sigIs P [t] [a] = true) {base : Nat} {v : Value} {d : DataW H} {ps : List MemPlace} (hval : Value.okWide P w .any base t v) (h : DataW.Trod enc P w 0 (fun _ => true) held t v d ps) {γ : Nat → G} :
    ∃ x : a.den, RepA γ (fun b => b < w.heap.size) w (a.val x) v ∧ a.ok x := by
  obtain ⟨fuel, hf⟩ := h
  cases a with
  | agg ty =>
    simp only [sigIs, Bool.and_eq_true, Bool.and_true] at hs
    obtain ⟨x, hx, ho⟩ := opens_ty (held := held) 40 hs.1 _ _ _ hf
    have hv : ∃ cs, v = .agg cs := by
      have hs2 := hs.2
      unfold aggT at hs2
      unfold Value.okWide at hval
      split at hs2
      · rename_i hu
        rw [hu] at hval
        obtain ⟨cs, rfl, _⟩ := hval
        exact ⟨cs, rfl⟩
      · rename_i hu
        rw [hu] at hval
        obtain ⟨cs, rfl, _⟩ := hval
        exact ⟨cs, rfl⟩
      · cases hs2
    obtain ⟨cs, rfl⟩ := hv
    exact ⟨x, ⟨cs.toList, by simp, explode_rep hx⟩, ho⟩
  | dat ty =>
    simp only [sigIs, Bool.and_eq_true, Bool.and_true, Bool.not_eq_true'] at hs
    obtain ⟨x, hx, ho⟩ := opens_ty (held := held) 40 hs.1 _ _ _ hf
    refine ⟨x, ?_, ho⟩
    have hc : v.cells.toList = [v] := tyIs_one hs.1 hs.2 hval
    rw [hc] at hx
    exact explode_one' hx
where
  explode_one' {t : Ty} {x : t.den} {v : Value} {γ : Nat → G} {F : Nat → Prop} (h : RepD F w t x [v]) : RepA γ F w (ASh.val (.dat t) x) v := by
    have := explode_rep (γ := γ) h
    simp only [ASh.val]
    split
    · rename_i c cs hc
      rw [hc] at this
      match cs, this with
      | [], h => exact h.1
    · rename_i hc
      rw [hc] at this
      exact this.elim

theorem open_all {base : Nat} {γ : Nat → G} : ∀ {ts : List TypeId} {l : List ASh} {vs : List Value} {ds : List (DataW H)} {ps : List MemPlace}, sigIs P ts l = true → (∀ (j : Nat) t v, ts[j]? = some t → vs[j]? = some v → Value.okWide P w .any base t v) →
    DataW.TrodAll enc P w 0 (fun _ => true) held ts vs ds ps → ∃ x : argDen l, All2 (RepA γ (fun b => b < w.heap.size) w) (argsV l x) vs ∧ ArgOk l x
  | [], [], vs, ds, ps, _, _, h => by
    match vs, ds, h with
    | [], [], _ => exact ⟨(), trivial, trivial⟩
  | [], _ :: _, _, _, _, hs, _, _ => by simp [sigIs] at hs
  | _ :: _, [], _, _, _, hs, _, _ => by simp [sigIs] at hs
  | t :: ts, a :: l, vs, ds, ps, hs, hval, h => by
    obtain ⟨v, vs, d, ds, p, q, rfl, rfl, rfl, h1, h2⟩ := trodAll_cons h
    have hs1 : sigIs P [t] [a] = true := by cases a <;> simp_all [sigIs]
    have hs2 : sigIs P ts l = true := by cases a <;> simp_all [sigIs]
    obtain ⟨x, hx, ho⟩ := open_one (γ := γ) hs1 (hval 0 t v rfl rfl) h1
    obtain ⟨xs, hxs, hos⟩ := open_all (γ := γ) hs2 (fun j t' v' ht hv => hval (j + 1) t' v' (by simpa using ht) (by simpa using hv)) h2
    match l, xs, hxs, hos with
    | [], _, hxs, _ =>
      match vs, hxs with
      | [], _ => exact ⟨x, ⟨hx, trivial⟩, ho⟩
    | a' :: l, xs, hxs, hos => exact ⟨(x, xs), ⟨hx, hxs⟩, ho, hos⟩

def rowsOk (P : Program) : List TypeId → Bool
  | [] => true
  | t :: ts => P.readableRec t && (Nat.blt t P.types.size && rowsOk P ts)

theorem trodAll_stays (hl : laidOutB P = true) {W W' : World} (hb : Below W.heap.size W W') : ∀ {ts : List TypeId} {vs : List Value} {ds : List (DataW H)} {ps : List MemPlace}, rowsOk P ts = true → DataW.TrodAll enc P W 0 (fun _ => true) true ts vs ds ps →
    DataW.TrodAll enc P W' 0 (fun b => decide (b < W.heap.size)) true ts vs ds ps
  | [], vs, ds, ps, _, h => by
    match vs, ds, h with
    | [], [], h => exact h
  | t :: ts, vs, ds, ps, hr, h => by
    obtain ⟨v, vs, d, ds, p, q, rfl, rfl, rfl, h1, h2⟩ := trodAll_cons h
    simp only [rowsOk, Bool.and_eq_true, Nat.blt_eq] at hr
    refine trodAll_cons_mk ?_ (trodAll_stays hl hb hr.2.2 h2)
    refine Below.trod hl hr.1 hr.2.1 h1 hb ?_
    obtain ⟨m, hm⟩ := h1
    exact DataW.trod_lt m _ _ _ hm

theorem trodAll_length : ∀ {ts : List TypeId} {vs : List Value} {ds : List (DataW H)} {ps : List MemPlace}, DataW.TrodAll enc P w 0 (fun _ => true) held ts vs ds ps → ds.length = ts.length
  | [], vs, ds, ps, h => by
    match vs, ds, h with
    | [], [], _ => rfl
  | t :: ts, vs, ds, ps, h => by
    obtain ⟨v, vs, d, ds, p, q, rfl, rfl, rfl, h1, h2⟩ := trodAll_cons h
    simp [trodAll_length h2]

/-- A law that is true whatever it is handed. -/
theorem law_contract {f : Nat} {fn : Func} {rt : TypeId} (hres : fn.resultTypes = #[rt]) (hrt : P.underlying rt = some .bool) {sig : List ASh} (hsig : sigIs P fn.params.toList sig = true) (hlaid : laidOutB P = true) (hrows : rowsOk P fn.params.toList = true)
    {s : ChangeSpec} (hvars : s.vars = []) (hs : ∀ (H : Type) (ds : List (DataW H)), ds.length = fn.params.toList.length → s.fn H ds = { results := [.lit (.bool true)], args := ds })
    (hlaw : ∀ x : argDen sig, ArgOk sig x → FnOk P f sig [.dat .bool] x true)
    (W : World) (base : Nat) (args : Array Value) (ds gs : List (DataW H)) (before : List MemPlace)
    (hval : ∀ (j : Nat) t v, fn.params[j]? = some t → args[j]? = some v → Value.okWide P W .any base t v) (hW : DataW.Whole enc P fn.params.toList s.vars false W args.toList ds gs before) :
    Calls P f args W fun e W' => ∃ v, e = .returned v ∧ s.post enc P fn false true false false W args v W' := by
  have hW' := hW
  obtain ⟨p, q, hA, hV, rfl, hfz, hnd⟩ := hW
  rw [hvars] at hV
  obtain ⟨rfl, rfl⟩ := trodVars_none hV
  let γ : Nat → G := fun _ => ⟨none, 0, 0, 0⟩
  obtain ⟨x, hx, ho⟩ := open_all (γ := γ) hsig (fun j t v ht hv => hval j t v (by simpa using ht) (by simpa using hv)) hA
  have := hlaw x ho γ (fun b => b < W.heap.size) W args.toList (fun c hc => hc) hx
  rw [Array.toArray_toList] at this
  refine this.mono ?_
  rintro e W' ⟨u, γ', F', rfl, hp, hr⟩
  have hu : u = .bool true := hr
  subst hu
  have bel : Below W.heap.size W W' := ⟨hp.os, hp.tape, hp.output, hp.size, fun k hk => hp.heap k hk no_mine⟩
  have hf := hs H (ds ++ []) (by rw [List.append_nil]; exact trodAll_length hA)
  refine ⟨_, rfl, ds, [], _, [], p, [], hW', ?_, ?_, ?_, bel.frame _, fun h => by cases h⟩
  · rw [hf, hres]
    exact trodAll_mk1 (shut_bool hrt _)
  · rw [hf]
    simp only [List.append_nil]
    exact trodAll_stays hlaid bel hrows hA
  · rw [hf, hvars]
    rfl
end
end Go.Ab
