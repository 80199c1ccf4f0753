/- Elements, cuts, lengths. -/
import Derived.Test.YtioagofpofamiaaAb6
/-! Elements, cuts, lengths. -/
set_option linter.unusedVariables false
set_option linter.unusedSimpArgs false
namespace Go.Ab

/-- What a slice's value is, whichever way it is known. -/
def Reads (F : Nat → Prop) (w : World) (e : Ty) (xs : List e.den) (v : Value) : Prop :=
  ∃ A n cap, v = .slice A n cap ∧ xs.length = n ∧ n ≤ cap ∧ (0 < n → ∃ b o, A = some ⟨b, o, none⟩ ∧ ∀ i x, xs[i]? = some x → ∃ l, RepD F w e x l ∧ ∀ j u, l[j]? = some u → w.cell? ⟨b, o + (i * e.size + j), none⟩ = some u)

theorem RoSl.reads {F : Nat → Prop} {w : World} {e : Ty} {xs : List e.den} {v : Value} (h : RoSl F w (RepD F w e) e.size xs v) : Reads F w e xs v := by
  obtain ⟨A, n, cap, hv, hn, hc, h⟩ := h
  refine ⟨A, n, cap, hv, hn, hc, fun h0 => ?_⟩
  obtain ⟨a, hA, hs, hF, h⟩ := h h0
  refine ⟨a.block, a.off, by rw [hA]; cases a; simp_all, fun i x hx => ?_⟩
  obtain ⟨l, h1, h2, h3⟩ := h i x hx
  exact ⟨l, h1, h3⟩

theorem RowOk.reads {F : Nat → Prop} {g : G} {w : World} {E : Nat} {e : Ty} {m : RowK} {xs : List e.den} (h : RowOk F g w E e m xs) : Reads F w e xs g.val := by
  have h' := h
  obtain ⟨h1, h2, ⟨h3, h4⟩ | ⟨b, cur, fz, flat, h3, h4, h5, _⟩⟩ := h'
  · subst h4
    exact ⟨none, 0, 0, by simp [G.val, h3], rfl, Nat.le_refl _, fun h => by omega⟩
  · refine ⟨some ⟨b, 0, none⟩, g.len, g.cap, by simp [G.val, h3], h1.symm, by omega, fun _ => ⟨b, 0, rfl, fun i x hx => ?_⟩⟩
    obtain ⟨l, hl, hc⟩ := row_elem h h3 hx
    exact ⟨l, hl, fun j u hu => by rw [Nat.zero_add]; exact hc j u hu⟩

theorem seqOf_reads {γ : Nat → G} {F : Nat → Prop} {S : Store} {w : World} (hI : Inv F γ S w) {x : AV} {q : Seq} (h : seqOf S x = some q) {v : Value} (hr : RepA γ F w x v) : Reads F w q.e q.xs v := by
  unfold seqOf at h
  split at h
  · rename_i t
    split at h
    · rename_i E e m xs hS
      injection h with h
      subst h
      have hv : v = (γ t).val := hr
      rw [hv]
      exact RowOk.reads (hI.blk t _ hS)
    · cases h
  · injection h with h
    subst h
    exact RoSl.reads hr
  · cases h

section
variable {P : Program} {dst : Option Tmp} {ty : TypeId} {pos : String} {aft : Array Edge} {gd : Option (Nat × Bool)} {fr : Nat} {S : Store} {Γ : Tab}

theorem run_index_addr {w : World} {t e : Nat} {i : TypeInfo} (hu : P.underlying t = some (.slice e)) (hi : P.info? e = some i) {a : Act} {x y : Operand} {b o n cap : Nat} {k : IntKind} {j : Int}
    (hx : a.eval x = .slice (some ⟨b, o, none⟩) n cap) (hy : a.eval y = .int k j) (h0 : 0 ≤ j) (hlt : j < n) :
    (execOp a.eval ⟨dst, .indexAddr t x y, ty, pos, aft, gd⟩).run P w = .ok (.value (.pointer (some ⟨b, o + j.toNat * i.size, none⟩))) w := by
  have hc : 0 ≤ j ∧ j < (n : Int) := ⟨h0, hlt⟩
  simp [execOp, Instr.indexAt, hx, hy, asIntOf, run_underlying hu, hc, Go.sizeOf, typeInfo, hi, addr_add]

theorem sem_indexAddr (hΓ : tabIs P Γ = true) (t : TypeId) (x y : Operand) (ax ay : AV) : ResSem (OpSem P ⟨dst, .indexAddr t x y, ty, pos, aft, gd⟩ [ax, ay] fr S) (indexAddrA Γ t ax ay S) := by
  unfold indexAddrA
  split
  · rename_i E te sz by_ ag z eq k n hr
    obtain ⟨d, i, ok⟩ := trOf_ok hΓ hr
    obtain ⟨hd, ei, hei, hsz, _⟩ := descIs_slice ok.desc rfl
    have hund : P.underlying t = some (.slice E) := by rw [ok.und, hd]
    split
    · rename_i tok
      split
      · rename_i E' e m xs hS
        cases hte : Nat.beq e.size te.size with
        | false => trivial
        | true =>
          intro hc
          have hte' : e.size = te.size := (beq_iff _ _).1 hte
          simp only [Bool.and_eq_true, decide_eq_true_eq] at hc
          refine OpSem.pure fun γ F w a hI hA => ?_
          have hx : a.eval x = (γ tok).val := hA.1
          have hy : a.eval y = .int k n := hA.2.1
          have hrow : RowOk F (γ tok) w E' e m xs := hI.blk tok _ hS
          obtain ⟨h1, h2, ⟨h3, h4⟩ | ⟨b, cur, fz, flat, h3, h4, h5, h6⟩⟩ := hrow
          · subst h4; simp at hc; omega
          · have hv : a.eval x = .slice (some ⟨b, 0, none⟩) (γ tok).len (γ tok).cap := by rw [hx]; simp [G.val, h3]
            refine ⟨_, run_index_addr hund hei hv hy hc.1 (by rw [h1]; exact hc.2), b, h3, hc.1, ?_, ?_⟩
            · rw [h1]; omega
            · rw [Nat.zero_add, Nat.add_zero, hsz, h2, hte']
      · trivial
    · rename_i e xs
      cases hte : Nat.beq e.size te.size with
      | false => trivial
      | true =>
        intro hc
        have hte' : e.size = te.size := (beq_iff _ _).1 hte
        simp only [Bool.and_eq_true, decide_eq_true_eq] at hc
        refine OpSem.pure fun γ F w a hI hA => ?_
        obtain ⟨A, n', cap, hv, hn, hcap, h⟩ := hA.1
        have hy : a.eval y = .int k n := hA.2.1
        have hn' : n < (n' : Int) := by omega
        obtain ⟨ad, hAd, hs, hF, h⟩ := h (by omega)
        have hlen : n.toNat < xs.length := by omega
        have hget : xs[n.toNat]? = some (xs.getD n.toNat e.dflt) := by simp [List.getD, List.getElem?_eq_getElem hlen]
        obtain ⟨l, h1, h2, h3⟩ := h _ _ hget
        obtain ⟨b, o, sp⟩ := ad
        simp only at hs
        subst hs
        have hv' : a.eval x = .slice (some ⟨b, o, none⟩) n' cap := by rw [hv, hAd]
        refine ⟨_, run_index_addr hund hei hv' hy hc.1 hn', ⟨b, o + n.toNat * e.size, none⟩, l, hF, h1, fun j u hu => ?_, ?_⟩
        · have := h3 j u hu
          rw [← Nat.add_assoc] at this
          exact this
        · rw [Nat.add_zero, hsz, hte']
    · trivial
  · rename_i len e sz by_ ag z eq k n hr
    obtain ⟨d, i, ok⟩ := trOf_ok hΓ hr
    have hd := descIs_array ok.desc rfl
    have hund : P.underlying t = some (.array len e) := by rw [ok.und, hd]
    split
    · rename_i tok off r hre
      cases hc0 : Nat.beq r.size 1 && !r.agg with
      | false => trivial
      | true =>
        intro hc
        simp only [Bool.and_eq_true, decide_eq_true_eq, Nat.beq_eq] at hc hc0
        obtain ⟨d', i', ok'⟩ := trOf_ok hΓ hre
        refine OpSem.pure fun γ F w a hI hA => ?_
        obtain ⟨b, hb, hp⟩ := hA.1
        have hy : a.eval y = .int k n := hA.2.1
        refine ⟨.pointer (some ⟨b, off + n.toNat, none⟩), ?_, b, hb, hc.1, by omega, rfl⟩
        have hi1 : i'.size = 1 := by rw [ok'.size]; exact hc0.1
        simp [execOp, Instr.indexAt, hp, hy, asIntOf, run_underlying hund, hc.1, hc.2, Go.sizeOf, typeInfo, ok'.inf, hi1, addr_add, Instr.sureAddr]
    · trivial
  · trivial

theorem sem_index (hΓ : tabIs P Γ = true) (t : TypeId) (x y : Operand) (ax ay : AV) : ResSem (OpSem P ⟨dst, .index t x y, ty, pos, aft, gd⟩ [ax, ay] fr S) (indexA Γ t ax ay S) := by
  unfold indexA
  split
  · rename_i s k n
    split
    · rename_i sz by_ ag z eq hr
      intro hc
      simp only [Bool.and_eq_true, decide_eq_true_eq] at hc
      obtain ⟨d, i, ok⟩ := trOf_ok hΓ hr
      have hd := descIs_str ok.desc rfl
      have hund : P.underlying t = some .string := by rw [ok.und, hd]
      refine OpSem.pure fun γ F w a hI hA => ?_
      have hx : a.eval x = .string s := hA.1
      have hy : a.eval y = .int k n := hA.2.1
      have hlt : n.toNat < s.size := by omega
      refine ⟨.int .u8 (bt s n), ?_, rfl⟩
      have hg : s[n.toNat]? = some (s[n.toNat]'hlt) := getElem?_pos s n.toNat hlt
      simp [execOp, Instr.index, hx, hy, asIntOf, run_underlying hund, hc.1, hg, bt, hlt]
    · trivial
  · rename_i cs k n
    split
    · rename_i len e sz by_ ag z eq hr
      split
      · rename_i r k' ns hre hns
        cases hc0 : Nat.beq r.size 1 && !r.agg && Nat.beq len cs.length with
        | false => trivial
        | true =>
          intro hc
          simp only [Bool.and_eq_true, decide_eq_true_eq, Nat.beq_eq, Bool.not_eq_true'] at hc hc0
          obtain ⟨d, i, ok⟩ := trOf_ok hΓ hr
          have hd := descIs_array ok.desc rfl
          have hund : P.underlying t = some (.array len e) := by rw [ok.und, hd]
          obtain ⟨d', i', ok'⟩ := trOf_ok hΓ hre
          refine OpSem.pure fun γ F w a hI hA => ?_
          obtain ⟨vs, hv, hcs⟩ := hA.1
          have hy : a.eval y = .int k n := hA.2.1
          obtain ⟨h1, h2⟩ := intCells_rep hns hcs
          have hlen : ns.length = len := by rw [hc0.2, h2]; simp
          have hi1 : i'.size = 1 := by rw [ok'.size]; exact hc0.1.1
          refine ⟨.int k' (ns.getD n.toNat 0), ?_, rfl⟩
          have hlt : n.toNat < ns.length := by omega
          have hg : vs[n.toNat]? = some (.int k' (ns.getD n.toNat 0)) := by rw [h1]; simp [List.getD, List.getElem?_eq_getElem hlt]
          simp [execOp, Instr.index, hv, hy, asIntOf, run_underlying hund, hc.1, hc.2, Go.sizeOf, typeInfo, ok'.inf, hi1, part, ok'.isAgg, hc0.1.2, hg]
      · trivial
    · trivial
  · trivial

/-- An index of a cut, as the abstract one tells it. -/
def BndOk (a : Act) (x : Option Operand) (v : Option AV) (d : Int) (n : Int) : Prop :=
  match x with
  | none => v = none ∧ n = d
  | some y => ∃ k, a.eval y = .int k n

theorem run_sliceBounds {w : World} {isS : Bool} {len cap : Nat} {l h : Int} {lo hi : Option Value} (hlo : (lo = none ∧ l = 0) ∨ ∃ k, lo = some (.int k l)) (hhi : (hi = none ∧ h = len) ∨ ∃ k, hi = some (.int k h))
    (h0 : 0 ≤ l) (h1 : l ≤ h) (h2 : h ≤ len) (hcap : len ≤ cap) : (Instr.sliceBounds isS len cap lo hi none).run P w = .ok (l.toNat, h.toNat, cap) w := by
  have c1 : 0 ≤ h ∧ h ≤ (cap : Int) := ⟨by omega, by omega⟩
  have c2 : 0 ≤ l ∧ l ≤ h := ⟨h0, h1⟩
  have c3 : max h 0 = h := by omega
  have c4 : ((h.toNat : Nat) : Int) = h := by omega
  rcases hlo with ⟨rfl, rfl⟩ | ⟨k, rfl⟩ <;> rcases hhi with ⟨rfl, rfl⟩ | ⟨k', rfl⟩
  · simp [Instr.sliceBounds]
  · simp [Instr.sliceBounds, Instr.sliceBound, asIntOf, c1]
  · simp [Instr.sliceBounds, Instr.sliceBound, asIntOf, c2]
  · simp [Instr.sliceBounds, Instr.sliceBound, asIntOf, c1, c2, c3, c4]
end
end Go.Ab
