/- Regions whose order is drawn: why any order comes to the same. -/
import Derived.Test.YtioagofpofamiaaAb20
/-! Regions whose order is drawn: why any order comes to the same. -/
set_option linter.unusedVariables false
set_option linter.unusedSimpArgs false
namespace Go.Ab

/-! ### What must be before what -/
def Imp (ops : Array Oper) (j i : Nat) : Prop :=
  ∀ f : Nat → Prop, (∀ k o, ops[k]? = some o → f k → ∀ e ∈ edgesOf o.after.toList, f e) → f j → f i

theorem uni_mem : ∀ {l m : List Nat} {i : Nat}, i ∈ uni l m → i ∈ l ∨ i ∈ m
  | [], _, _, h => .inr h
  | x :: l, m, i, h => by
    simp only [uni] at h
    cases hm : memb m x with
    | true =>
      rw [hm] at h
      rcases uni_mem h with h | h
      · exact .inl (by simp [h])
      · exact .inr h
    | false =>
      rw [hm] at h
      rcases uni_mem h with h | h
      · exact .inl (by simp [h])
      · rcases List.mem_cons.1 h with rfl | h
        · exact .inl (by simp)
        · exact .inr h
theorem closeL_mem {acc : List (List Nat)} : ∀ {es m : List Nat} {i : Nat}, i ∈ closeL acc es m → i ∈ m ∨ ∃ e ∈ es, i = e ∨ i ∈ nthL acc e
  | [], _, _, h => .inl h
  | e :: es, m, i, h => by
    simp only [closeL] at h
    rcases closeL_mem h with h | ⟨e', h1, h2⟩
    · rcases uni_mem h with h | h
      · exact .inr ⟨e, by simp, .inr h⟩
      · rcases uni_mem h with h | h
        · exact .inr ⟨e, by simp, .inl (by simpa using h)⟩
        · exact .inl h
    · exact .inr ⟨e', by simp [h1], h2⟩
theorem befs_imp {ops : Array Oper} : ∀ {l : List Oper} {acc : List (List Nat)}, ops.toList.drop acc.length = l → (∀ k bs, acc[k]? = some bs → ∀ i ∈ bs, Imp ops k i) → ∀ k bs, (befs l acc)[k]? = some bs → ∀ i ∈ bs, Imp ops k i
  | [], acc, _, ha => ha
  | o :: l, acc, hd, ha => by
    have ho : ops[acc.length]? = some o := by
      have := congrArg (·[0]?) hd
      simpa using this
    refine befs_imp (l := l) ?_ fun k bs hk i hi => ?_
    · have := congrArg List.tail hd
      rw [List.tail_drop] at this
      rw [List.length_append]
      simpa using this
    · rw [List.getElem?_append] at hk
      split at hk
      · exact ha k bs hk i hi
      · rename_i hlt
        have hk0 : k - acc.length = 0 := by
          have := (List.getElem?_eq_some_iff.1 hk).1
          simpa using this
        rw [hk0] at hk
        simp only [List.getElem?_cons_zero, Option.some.injEq] at hk
        subst hk
        have hke : k = acc.length := by omega
        subst hke
        rcases closeL_mem hi with h | ⟨e, he, h⟩
        · simp at h
        · intro f hf hk
          have hfe : f e := hf _ o ho hk e he
          rcases h with rfl | h
          · exact hfe
          · unfold nthL at h
            rw [List.getD_eq_getElem?_getD] at h
            cases hq : acc[e]? with
            | none => rw [hq] at h; simp at h
            | some bs => rw [hq] at h; exact ha e bs hq i h f hf hfe

theorem chkPair_ok {ops : Array Oper} {bs : List Nat} {y : Tr} : ∀ {l : List Tr} {n : Nat}, chkPair ops bs y l n = true → ∀ k x, l[k]? = some x → x.nx ≤ y.fr ∧ (n + k ∈ bs ∨ free2 ops x y = true)
  | [], _, _, k, x, h => by simp at h
  | z :: l, n, hc, k, x, h => by
    simp only [chkPair, Bool.and_eq_true, Bool.or_eq_true] at hc
    obtain ⟨h1, h2, h3⟩ := hc
    cases k with
    | zero =>
      simp only [List.getElem?_cons_zero, Option.some.injEq] at h
      subst h
      refine ⟨by simpa using h1, ?_⟩
      rcases h2 with h2 | h2
      · exact .inl ((memb_iff _ _).1 h2)
      · exact .inr h2
    | succ k =>
      have := chkPair_ok h3 k x (by simpa using h)
      rwa [show n + 1 + k = n + (k + 1) by omega] at this

theorem chkAll_ok {ops : Array Oper} {n0 nF : Nat} : ∀ {B : List (List Nat)} {acc l : List Tr}, chkAll ops n0 nF B acc l = true → (∀ k bs, B[k]? = some bs → ∀ i ∈ bs, Imp ops (acc.length + k) i) →
    ∀ j y, l[j]? = some y → n0 ≤ y.fr ∧ y.nx ≤ nF ∧ ∀ i x, (acc ++ l)[i]? = some x → i < acc.length + j → x.nx ≤ y.fr ∧ (Imp ops (acc.length + j) i ∨ free2 ops x y = true)
  | _, _, [], _, _, j, y, h => by simp at h
  | [], _, _ :: _, hc, _, j, y, h => by simp [chkAll] at hc
  | bs :: B, acc, z :: l, hc, hB, j, y, h => by
    simp only [chkAll, Bool.and_eq_true] at hc
    obtain ⟨h1, h2, h3, h4⟩ := hc
    cases j with
    | zero =>
      simp only [List.getElem?_cons_zero, Option.some.injEq] at h
      subst h
      refine ⟨by simpa using h1, by simpa using h2, fun i x hx hi => ?_⟩
      rw [List.getElem?_append_left (by omega)] at hx
      obtain ⟨a1, a2⟩ := chkPair_ok h3 i x hx
      refine ⟨a1, a2.imp (fun hm => ?_) id⟩
      exact hB 0 bs rfl i (by simpa using hm)
    | succ j =>
      have := chkAll_ok h4 (fun k bs hk i hi => by
        have := hB (k + 1) bs (by simpa using hk) i hi
        rw [List.length_append]
        rwa [show acc.length + (k + 1) = acc.length + [z].length + k by simp; omega] at this) j y (by simpa using h)
      rw [List.append_assoc, List.length_append] at this
      rwa [show acc.length + [z].length + j = acc.length + (j + 1) by simp; omega] at this

theorem mem_edgesOf {l : List Edge} {e : Edge} (he : e ∈ l) (hb : Region.binds .any e = true) : e.on ∈ edgesOf l := by
  induction l with
  | nil => simp at he
  | cons x l ih =>
    simp only [edgesOf]
    rcases List.mem_cons.1 he with rfl | he
    · rw [hb]; simp
    · cases Region.binds .any x
      · exact ih he
      · exact List.mem_cons_of_mem _ (ih he)
theorem edgesOf_mem {l : List Edge} {i : Nat} (h : i ∈ edgesOf l) : ∃ e ∈ l, Region.binds .any e = true ∧ e.on = i := by
  induction l with
  | nil => simp [edgesOf] at h
  | cons x l ih =>
    simp only [edgesOf] at h
    cases hb : Region.binds .any x with
    | true =>
      rw [hb] at h
      rcases List.mem_cons.1 h with rfl | h
      · exact ⟨x, by simp, hb, rfl⟩
      · obtain ⟨e, h1, h2⟩ := ih h
        exact ⟨e, by simp [h1], h2⟩
    | false =>
      rw [hb] at h
      obtain ⟨e, h1, h2⟩ := ih h
      exact ⟨e, by simp [h1], h2⟩
theorem backOk_lt {l : List Oper} : ∀ {n : Nat}, backOk l n = true → ∀ k o, l[k]? = some o → ∀ e ∈ edgesOf o.after.toList, e < n + k := by
  induction l with
  | nil => intro n _ k o h; simp at h
  | cons x l ih =>
    intro n h k o ho e he
    simp only [backOk, Bool.and_eq_true] at h
    cases k with
    | zero =>
      simp only [List.getElem?_cons_zero, Option.some.injEq] at ho
      subst ho
      exact allLt_mem h.1 e he
    | succ k =>
      have := ih h.2 k o (by simpa using ho) e he
      omega

/-! ### The walk in order -/
def resS (S : Store) : Res → Prop
  | .ok _ S' => S' = S
  | .chk _ _ S' => S' = S
  | .call .. => False
  | .fail => True

theorem resS_bif {S : Store} {c : Bool} {a b : Res} (ha : resS S a) (hb : resS S b) : resS S (bif c then a else b) := by
  cases c
  · exact hb
  · exact ha
theorem resS_ok {S : Store} {v : AV} : resS S (.ok v S) := rfl
theorem resS_chk {S : Store} {c : Bool} {v : AV} : resS S (.chk c v S) := rfl
theorem resS_fail {S : Store} : resS S .fail := True.intro

theorem quiet_step {Γ : Tab} {T : Table} {op : Op} (h : quietK op = true) (args : List AV) (fr : Nat) (S : Store) : resS S (stepOp Γ T op args fr S) := by
  unfold quietK at h
  split at h
  · match args with
    | [x] => exact resS_ok
    | [] => exact resS_fail
    | _ :: _ :: _ => exact resS_fail
  · match args with
    | [x] =>
      simp only [stepOp, loadA]
      repeat' (first | exact resS_ok | exact resS_chk | exact resS_fail | apply resS_bif | split)
    | [] => exact resS_fail
    | _ :: _ :: _ => exact resS_fail
  · match args with
    | [x] =>
      simp only [stepOp, fieldAddrA]
      repeat' (first | exact resS_ok | exact resS_chk | exact resS_fail | apply resS_bif | split)
    | [] => exact resS_fail
    | _ :: _ :: _ => exact resS_fail
  · match args with
    | [x, i] =>
      simp only [stepOp, indexAddrA]
      repeat' (first | exact resS_ok | exact resS_chk | exact resS_fail | apply resS_bif | split)
    | [] => exact resS_fail
    | [_] => exact resS_fail
    | _ :: _ :: _ :: _ => exact resS_fail
  · match args with
    | [x] =>
      simp only [stepOp]
      repeat' (first | exact resS_ok | exact resS_chk | exact resS_fail | apply resS_bif | split)
    | [] => exact resS_fail
    | _ :: _ :: _ => exact resS_fail
  · match args with
    | [.tup l] =>
      simp only [stepOp]
      repeat' (first | exact resS_ok | exact resS_chk | exact resS_fail | apply resS_bif | split)
    | [.v _] => exact resS_fail
    | [.undef] => exact resS_fail
    | [] => exact resS_fail
    | .tup _ :: _ :: _ => exact resS_fail
    | .v _ :: _ :: _ => exact resS_fail
    | .undef :: _ :: _ => exact resS_fail
  · simp only [stepOp, builtinA, lenA]
    repeat' (first | exact resS_ok | exact resS_chk | exact resS_fail | apply resS_bif | split)
    all_goals (first | (rename_i he; cases he; done) | skip)
  · cases h

end Go.Ab
