/- Conversions, append. -/
import Derived.Test.YtioagofpofamiaaAb12
/-! Conversions, append. -/
set_option linter.unusedVariables false
set_option linter.unusedSimpArgs false
namespace Go.Ab

theorem keep_append {α : Type} (f : Nat → Bool) (l m : List (Nat × α)) : keep f (l ++ m) = keep f l ++ keep f m := by
  induction l with
  | nil => rfl
  | cons p l ih =>
    simp only [List.cons_append, keep]
    cases f p.1 <;> simp [ih]

theorem bytes_flat {F : Nat → Prop} {w : World} : ∀ (l : List UInt8), Flat F w (.int .u8) (l.map fun b => (b.toNat : Int)) (l.map fun b => Value.int .u8 b.toNat)
  | [] => rfl
  | b :: l => ⟨[_], _, rfl, rfl, bytes_flat l⟩

/-- Elements that are read, as one list of cells. -/
theorem flat_of_cells {F : Nat → Prop} {w : World} {e : Ty} {b : Nat} : ∀ {xs : List e.den} {o : Nat}, (∀ i x, xs[i]? = some x → ∃ l, RepD F w e x l ∧ ∀ j u, l[j]? = some u → w.cell? ⟨b, o + (i * e.size + j), none⟩ = some u) →
    ∃ news, Flat F w e xs news ∧ ∀ j u, news[j]? = some u → w.cell? ⟨b, o + j, none⟩ = some u
  | [], o, _ => ⟨[], rfl, fun j u h => by simp at h⟩
  | x :: xs, o, h => by
    obtain ⟨l, hl, hc⟩ := h 0 x rfl
    obtain ⟨news, hn, hnc⟩ := flat_of_cells (xs := xs) (o := o + e.size) fun i y hy => by
      obtain ⟨m, hm, hmc⟩ := h (i + 1) y (by simpa using hy)
      refine ⟨m, hm, fun j u hu => ?_⟩
      have := hmc j u hu
      rw [Nat.add_mul] at this
      have e1 : o + e.size + (i * e.size + j) = o + (i * e.size + 1 * e.size + j) := by omega
      rw [e1]
      exact this
    refine ⟨l ++ news, ⟨l, news, rfl, hl, hn⟩, fun j u hu => ?_⟩
    rw [List.getElem?_append] at hu
    split at hu
    · have := hc j u hu
      simpa using this
    · have := hnc _ u hu
      have hll := hl.length
      have e1 : o + e.size + (j - l.length) = o + j := by omega
      rw [e1] at this
      exact this

section
variable {P : Program} {dst : Option Tmp} {ty : TypeId} {pos : String} {aft : Array Edge} {gd : Option (Nat × Bool)} {fr : Nat} {S : Store} {Γ : Tab}

theorem Post.drop {γ γ' : Nat → G} {F F' : Nat → Prop} {w w' : World} {S' : Store} (h : Post fr γ F w S γ' F' w' S') (f : Nat → Bool) : Post fr γ F w S γ' F' w' (keep f S') :=
  ⟨h.os, h.tape, h.output, h.size, h.heap, h.gam, h.sub, h.fnew, fun b ⟨t, ht, hb⟩ => h.mine b ⟨t, (Has.keep.1 ht).2, hb⟩, h.frz, h.inv.part f⟩

theorem reads_src {F : Nat → Prop} {w : World} {e : Ty} {ys : List e.den} {v : Value} (h : Reads F w e ys v) {tx e' : TypeId} (hk : P.underlying tx = some (.slice e')) :
    ∃ news, Flat F w e ys news ∧ Src P e.size tx v ys.length news w := by
  obtain ⟨A, n, cap, rfl, hn, hc, h⟩ := h
  by_cases h0 : 0 < n
  · obtain ⟨b, o, hA, h'⟩ := h h0
    subst hA
    obtain ⟨news, hf, hnc⟩ := flat_of_cells h'
    refine ⟨news, hf, ?_⟩
    rw [hn]
    exact Src.ofSlice w hk _ n cap news (by rw [hf.length, hn]) (fun j u hu => by rw [addr_add]; exact hnc j u hu) hf.ones
  · have : n = 0 := by omega
    subst this
    have : ys = [] := List.eq_nil_of_length_eq_zero hn
    subst this
    refine ⟨[], rfl, ?_⟩
    cases A with
    | none => exact Src.ofNil w hk cap
    | some a => exact Src.ofSlice w hk a 0 cap [] (by simp) (fun j u hu => by simp at hu) (fun u hu => by simp at hu)

theorem sem_convert (hΓ : tabIs P Γ = true) (s d : TypeId) (x : Operand) (ax : AV) : ResSem (OpSem P ⟨dst, .convert s d x, ty, pos, aft, gd⟩ [ax] fr S) (convertA Γ s d ax fr S) := by
  unfold convertA
  split
  · rename_i ra rb hra hrb
    obtain ⟨da, ia, oka⟩ := trOf_ok hΓ hra
    obtain ⟨db, ib, okb⟩ := trOf_ok hΓ hrb
    split
    · rename_i k1 k k2 n h1 h2
      have hda := descIs_int oka.desc h1
      have hdb := descIs_int okb.desc h2
      refine OpSem.pure fun γ F w a hI hA => ⟨.int k (k.wrap n), ?_, rfl⟩
      have hx : a.eval x = .int k2 n := hA.1
      simp [execOp, convert, run_underlying (oka.und.trans (congrArg some hda)), run_underlying (okb.und.trans (congrArg some hdb)), hx, Conv.intToInt]
    · rename_i z h1 h2
      have hda := descIs_str oka.desc h1
      have hdb := descIs_str okb.desc h2
      refine OpSem.pure fun γ F w a hI hA => ⟨.string z, ?_, rfl⟩
      have hx : a.eval x = .string z := hA.1
      simp [execOp, convert, run_underlying (oka.und.trans (congrArg some hda)), run_underlying (okb.und.trans (congrArg some hdb)), hx]
    · rename_i E z h1 h2
      have hda := descIs_str oka.desc h1
      obtain ⟨hdb, ei, hei, hsz, _⟩ := descIs_slice okb.desc h2
      split
      · rename_i hre
        obtain ⟨de, ie, oke⟩ := trOf_ok hΓ hre
        have hde := descIs_int oke.desc rfl
        intro hc
        have hsz63 : z.size ≤ 9223372036854775807 := of_decide_eq_true hc
        intro γ F w a hI hlt _ hA next Q hn
        have hx : a.eval x = .string z := hA.1
        let cap := grownCap w z.size 0 E
        have hcap : z.size ≤ cap := grownCap_ge w z.size 0 E
        have hcm : cap ≤ maxLen := grownCap_le_maxLen w z.size 0 E (by simp only [maxLen]; omega)
        let arr : Array Value := z.data.map (fun b => Value.int .u8 b.toNat) ++ Array.replicate (cap - z.size) (.int .u8 0)
        have harr : arr.size = cap := by
          show (z.data.map (fun b => Value.int .u8 b.toNat) ++ Array.replicate (cap - z.size) (Value.int .u8 0)).size = cap
          simp only [Array.size_append, Array.size_map, Array.size_replicate]
          have : z.data.size = z.size := rfl
          omega
        let w1 := w.drew.alloc (.cells arr E)
        let w2 := w1.freeze { block := w.heap.size, off := arr.size } 1
        have hsh : w1.shape? w.heap.size = some (E, arr.size) := by
          show (match w1.heap[w.heap.size]? with | some (.cells c elem _) => some (elem, c.size) | _ => none) = _
          have : w1.heap[w.heap.size]? = some (.cells arr E) := heap_alloc_new w.drew _
          rw [this]
        have hrun : (execOp a.eval ⟨dst, .convert s d x, ty, pos, aft, gd⟩).run P w = .ok (.value (.slice (some ⟨w.heap.size, 0, none⟩) z.size cap)) w2 := by
          simp only [execOp, convert, Sem.run_bind, run_underlying (oka.und.trans (congrArg some hda)), run_underlying (okb.und.trans (congrArg some hdb)), Result.andThen_ok, hx, run_underlying (oke.und.trans (congrArg some hde)), Conv.stringToBytes, run_choose, Question.forced, Bool.false_eq_true, if_false, newRow, run_newObj, Sem.run_pure, markStringish, run_shape]
          have hsh' : World.shape? { heap := w.heap.push (.cells arr E), tape := w.tape, drawn := w.drawn + 1, os := w.os, output := w.output } w.heap.size = some (E, arr.size) := hsh
          rw [show (Question.appendCap z.size 0 E).cut (w.tape w.drawn (Question.appendCap z.size 0 E)) = cap from rfl]
          rw [show (Array.map (fun b => Value.int IntKind.u8 ↑(UInt8.toNat b)) z.data ++ Array.replicate (cap - z.size) (Value.int IntKind.u8 0)) = arr from rfl]
          simp only [hsh', Result.andThen_ok, run_freeze]
          rfl
        have hnb : NewBlk w w2 (.cells arr E (arr.size, arr.size + 1)) := by
          refine ⟨rfl, rfl, rfl, ?_, ?_, ?_⟩
          · show (w1.heap.modify _ _).size = _
            rw [Array.size_modify]
            exact World.size_alloc w.drew _
          · intro b hb
            show (w1.heap.modify w.heap.size _)[b]? = _
            rw [Array.getElem?_modify, if_neg (by omega)]
            exact heap_alloc_old w.drew _ b hb
          · show (w1.heap.modify w.heap.size _)[w.heap.size]? = _
            have : w1.heap[w.heap.size]? = some (.cells arr E) := heap_alloc_new w.drew _
            rw [Array.getElem?_modify, if_pos rfl, this]
            rfl
        have hbl : (bytesOf z).length = z.size := by
          unfold bytesOf
          rw [List.length_map, Array.length_toList]
          rfl
        obtain ⟨γ', hp, hrp⟩ := sem_newRow (m := .mark) (e := .int .u8) (xs := bytesOf z) (cap := cap) hI hlt hnb (by omega) hcm (by rw [harr]; simp [Ty.size]) (by
          have h3 : arr.toList = (z.data.toList.map fun b => Value.int .u8 b.toNat) ++ List.replicate (cap - z.size) (Value.int .u8 0) := by
            show (z.data.map (fun b => Value.int .u8 b.toNat) ++ Array.replicate (cap - z.size) (Value.int .u8 0)).toList = _
            simp
          rw [h3, List.take_left' (by
            rw [List.length_map, hbl, Array.length_toList]
            show z.size = z.size * 1
            omega)]
          exact bytes_flat _) (Nat.le_refl _)
        rw [hbl] at hrp
        exact wp_of_value hrun (hn _ γ' F _ hp hrp)
      · trivial
    · rename_i E h1 h2
      obtain ⟨hda, ei, hei, hsz, _⟩ := descIs_slice oka.desc h1
      have hdb := descIs_str okb.desc h2
      split
      · rename_i xs hre hq
        obtain ⟨de, ie, oke⟩ := trOf_ok hΓ hre
        have hde := descIs_int oke.desc rfl
        refine OpSem.pure fun γ F w a hI hA => ⟨.string (strOfNums xs), ?_, rfl⟩
        obtain ⟨A, n, cap, hv, hn, _, h⟩ := seqOf_reads hI hq hA.1
        have hs := oka.und.trans (congrArg some hda)
        have he := oke.und.trans (congrArg some hde)
        have hdd := okb.und.trans (congrArg some hdb)
        by_cases h0 : 0 < n
        · obtain ⟨b, o, hA', h'⟩ := h h0
          subst hA'
          have := run_convert_bytes_arg (P := P) w s E hs he b o n cap xs hn (fun i hi => by
            have hix : i < xs.length := by rw [hn]; exact hi
            obtain ⟨l, hl, hc⟩ := h' i _ (List.getElem?_eq_getElem hix)
            simp only [RepD] at hl
            subst hl
            have := hc 0 _ rfl
            simp only [Ty.size, Nat.mul_one, Nat.add_zero] at this
            rw [this]
            simp [List.getD, List.getElem?_eq_getElem hix]) d hdd
          simp [execOp, hv, this]
        · have hn0 : n = 0 := by omega
          subst hn0
          have hx0 : xs = [] := List.eq_nil_of_length_eq_zero hn
          subst hx0
          cases A with
          | none =>
            have := run_convert_bytes_nil (P := P) w s E hs he 0 cap d hdd
            simp [execOp, hv, this]
            rfl
          | some ad =>
            have := run_convert_bytes_string (P := P) w s d E (some ad) 0 cap hs he hdd
            have h2 := run_bytesToString (P := P) w ad 0 cap [] (by simp [loadCells, loadCellsFrom])
            simp [execOp, hv, this, h2]
            rfl
      · trivial
    · trivial
  · trivial
end
end Go.Ab
