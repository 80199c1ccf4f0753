/- Slice literals, conversions, append. -/
import Derived.Test.YtioagofpofamiaaAb11
/-! Slice literals, conversions, append. -/
set_option linter.unusedVariables false
set_option linter.unusedSimpArgs false
namespace Go.Ab

theorem fill_up {size : Nat} : ∀ {is : List Nat} {vs : List Value} {k : Nat} {cells : Array Value}, isUp is k = true → is.length = vs.length → (∀ v ∈ vs, v.cells.size = size) → cells.size = (k + is.length) * size →
    ∃ cells', Instr.fill (fun i => some (i * size, size)) cells (is.zip vs) = some cells' ∧ cells'.toList = cells.toList.take (k * size) ++ vs.flatMap fun v => v.cells.toList
  | [], [], k, cells, _, _, _, hs => by
    refine ⟨cells, rfl, ?_⟩
    rw [List.take_of_length_le (by simp at hs ⊢; omega)]
    simp
  | i :: is, v :: vs, k, cells, hu, hl, hv, hs => by
    simp only [isUp, Bool.and_eq_true, Nat.beq_eq] at hu
    obtain ⟨rfl, hu⟩ := hu
    have hvs := hv v (by simp)
    have e1 : (i + (is.length + 1)) * size = i * size + size + is.length * size := by rw [Nat.add_mul, Nat.add_mul]; omega
    simp only [List.length_cons] at hs
    rw [e1] at hs
    have hfit : i * size + v.cells.size ≤ cells.size := by omega
    have hf := foldl_zip (i * size) v.cells.toList 0 cells (by simpa using hfit)
    have hfs := congrArg List.length hf
    rw [spl_length _ _ _ (by simpa using hfit)] at hfs
    simp only [Array.length_toList] at hfs
    obtain ⟨cells', h1, h2⟩ := fill_up (cells := (v.cells.toList.zipIdx 0).foldl (fun cs (p : Value × Nat) => cs.setIfInBounds (i * size + p.2) p.1) cells) hu (by simpa using hl) (fun u hu => hv u (by simp [hu])) (by
      rw [hfs, Nat.add_mul, Nat.add_mul]; omega)
    refine ⟨cells', ?_, ?_⟩
    · rw [← h1]
      simp only [List.zip_cons_cons, Instr.fill]
      rw [if_neg (by simp [hvs]; omega)]
      congr 1
      rw [← Array.foldl_toList]
      simp
    · rw [h2, hf]
      simp only [List.flatMap_cons, ← List.append_assoc]
      congr 1
      unfold spl
      rw [Nat.add_zero, List.take_append_of_le_length (by simp [Nat.add_mul]; omega), List.take_of_length_le (by simp [Nat.add_mul]; omega), Nat.add_zero]
  | [], _ :: _, _, _, _, h, _, _ => by simp at h
  | _ :: _, [], _, _, _, h, _, _ => by simp at h

section
variable {P : Program} {dst : Option Tmp} {ty : TypeId} {pos : String} {aft : Array Edge} {gd : Option (Nat × Bool)} {fr : Nat} {S : Store} {Γ : Tab}

theorem elemsA_sizes {γ : Nat → G} {F : Nat → Prop} {w : World} {e : Ty} : ∀ {avs : List AV} {vs : List Value} {xs : List e.den}, elemsA e avs = some xs → All2 (RepA γ F w) avs vs → (∀ v ∈ vs, v.cells.size = e.size) ∧ xs.length = vs.length
  | [], [], xs, h, _ => by simp only [elemsA, Option.some.injEq] at h; subst h; simp
  | .v x :: avs, v :: vs, xs, h, hr => by
    have h0 := h
    simp only [elemsA] at h
    split at h
    · rename_i y ys hy hys
      injection h with h
      subst h
      have h1 : elemsA e [.v x] = some [y] := by simp [elemsA, hy]
      have hf := elemsA_flat (γ := γ) (F := F) (w := w) (vs := [v]) h1 ⟨hr.1, trivial⟩
      have hl := hf.length
      simp at hl
      obtain ⟨h2, h3⟩ := elemsA_sizes hys hr.2
      refine ⟨fun u hu => ?_, by simp [h3]⟩
      rcases List.mem_cons.1 hu with rfl | hu
      · exact hl
      · exact h2 u hu
    · cases h
  | [], _ :: _, _, _, h => h.elim
  | .v _ :: _, [], _, _, h => h.elim
  | .tup _ :: _, _, _, h, _ => by simp [elemsA] at h
  | .undef :: _, _, _, h, _ => by simp [elemsA] at h

theorem sem_buildSlice (hΓ : tabIs P Γ = true) (t len : Nat) (ps : Array (Nat × Operand)) (vs : List AV) : ResSem (OpSem P ⟨dst, .buildSlice t len ps, ty, pos, aft, gd⟩ vs fr S) (buildSliceA Γ t len (ps.toList.map (·.1)) vs fr S) := by
  unfold buildSliceA
  split
  · rename_i E te sz by_ ag z eq hr
    obtain ⟨d, i, ok⟩ := trOf_ok hΓ hr
    obtain ⟨hd, ei, hei, hsz, hdf⟩ := descIs_slice ok.desc rfl
    have hund : P.underlying t = some (.slice E) := by rw [ok.und, hd]
    split
    · rename_i xs hre hxs
      obtain ⟨d', i', ok'⟩ := trOf_ok hΓ hre
      have hii : i' = ei := by have := ok'.inf; rw [hei] at this; injection this with this; exact this.symm
      subst hii
      obtain ⟨v, hv, hzs, hvs, _⟩ := ok'.zero _ rfl
      cases hb : isUp (ps.toList.map (·.1)) 0 && Nat.beq (ps.toList.map (·.1)).length len && Nat.ble (len * te.size) 1000 with
      | false => trivial
      | true =>
        simp only [Bool.and_eq_true, Nat.beq_eq, Nat.ble_eq] at hb
        obtain ⟨⟨hup, hlen⟩, hsmall⟩ := hb
        intro γ F w a hI hlt _ hA next Q hn
        have hA' : All2 (RepA γ F w) vs ((ps.toList.map (·.2)).map a.eval) := by
          have := all2_args hA
          simpa [Op.operands] using this
        obtain ⟨hsizes, hxl⟩ := elemsA_sizes hxs hA'
        have hflat := elemsA_flat hxs hA'
        have hxlen : xs.length = len := by rw [hxl]; simp at hlen ⊢; exact hlen
        obtain ⟨cells', h1, h2⟩ := fill_up (size := te.size) (is := ps.toList.map (·.1)) (vs := (ps.toList.map (·.2)).map a.eval) (k := 0) (cells := (Array.range (len * te.size)).map ((if len * te.size = 0 then #[] else v.cells)[· % (if len * te.size = 0 then #[] else v.cells).size]!)) hup (by simp) hsizes (by rw [Array.size_map, Array.size_range, hlen, Nat.zero_add])
        simp only [Nat.zero_mul, List.take_zero, List.nil_append] at h2
        have hparts : (Array.map (fun (i, x) => (i, a.eval x)) ps).toList = (ps.toList.map (·.1)).zip ((ps.toList.map (·.2)).map a.eval) := by
          rw [Array.toList_map]
          exact zip_map_operands _
        have hcs : cells'.size = len * te.size := by
          have := congrArg List.length h2
          rw [hflat.length, hxlen] at this
          simpa using this
        obtain ⟨γ', hp, hrp⟩ := sem_newRow (m := .plain) (e := te) (xs := xs) (cap := len) hI hlt (NewBlk.alloc w (.cells cells' E)) (by omega) (by
          have := te.size_pos
          have h3 : len * 1 ≤ len * te.size := Nat.mul_le_mul_left _ this
          simp only [maxLen]; omega) hcs (by rw [h2, List.take_of_length_le (by rw [hflat.length]; exact Nat.le_refl _)]; exact hflat) rfl
        rw [hxlen] at hrp
        refine wp_of_value ?_ (hn _ γ' F _ hp hrp)
        have h24 : ¬ (len * te.size > 2 ^ 24) := by omega
        simp only [execOp, Instr.buildSlice, Sem.run_bind, run_underlying hund, Result.andThen_ok, Go.sizeOf, typeInfo, run_program, hei, Sem.run_pure, hsz, if_neg h24, hparts]
        by_cases h0 : len * te.size = 0
        · simp only [h0, if_true] at h1 ⊢
          simp only [Sem.run_pure, Result.andThen_ok, h1, newRow, Sem.run_bind, run_newObj]
          rfl
        · simp only [if_neg h0] at h1 ⊢
          simp only [zeroValue, typeInfo, hv, Sem.run_bind, run_program, hei, Sem.run_pure, Result.andThen_ok, h1, newRow, run_newObj]
          rfl
    · trivial
  · trivial
end
end Go.Ab
