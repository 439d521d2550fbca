/- Large structs kept whole: slice literals of one, a variable that is laid and filled at once. -/
import Derived.Test.YtodhaaaodmcplaaGreatBig
import Derived.Test.YtodhaaaodmcplaaGreatFs
import Derived.Great.BuildSlice
set_option linter.all false
namespace Go.Proofs.YtodhaaaodmcplaaGreat
open Go.RowKit
section
variable {P : Program}
/-- A slice literal of one struct, known whole. -/
theorem wp_slice1 {o : Oper} {a : Act} {w : World} {K : Act → World → Prop} {Q : Exit → Act → World → Prop} (t e : TypeId) (x : Operand) (ho : o.op = .buildSlice t 1 #[(0, x)]) (cs : List Value) (hx : a.eval x = .agg cs.toArray)
    (i : TypeInfo) (z : Value) (hu : P.underlying t = some (.slice e)) (hi : P.info? e = some i) (hz : i.zero = some z) (hs : i.size = cs.length) (h0 : 0 < cs.length) (h2 : cs.length ≤ 2 ^ 24)
    (h : K (a.put o.dst (.slice (some ⟨w.heap.size, 0, none⟩) 1 1)) (w.alloc (.cells cs.toArray e))) : o.wp P a w K Q := by
  refine wp_buildSlice t e 1 _ ho cs.toArray i z hu hi hz (by rw [hs]; omega) (by rw [hs]; omega) ?_ h
  have hf := Great.fill_whole (s := i.size) (by rw [hs]; exact h0) [Value.agg cs.toArray] ((Array.range (1 * i.size)).map (z.cells[· % z.cells.size]!)) (by intro v hv; obtain rfl := List.mem_singleton.1 hv; rw [hs]; simp [Value.cells]) (by simp)
  have e1 : ([Value.agg cs.toArray].flatMap fun v => v.cells.toList).toArray = cs.toArray := by simp [Value.cells]
  rw [e1] at hf
  rw [← hf]
  simp [hx]
theorem wpList_slice1 {ops : Array Oper} {rest : List Oper} {o : Oper} {a : Act} {w : World} {Q : Exit → Act → World → Prop} (hg : Region.wanted o (yielded ops a.tmps) = true) (t e : TypeId) (x : Operand) (ho : o.op = .buildSlice t 1 #[(0, x)]) (cs : List Value) (hx : a.eval x = .agg cs.toArray)
    (i : TypeInfo) (z : Value) (hu : P.underlying t = some (.slice e)) (hi : P.info? e = some i) (hz : i.zero = some z) (hs : i.size = cs.length) (h0 : 0 < cs.length) (h2 : cs.length ≤ 2 ^ 24)
    (h : wpList P ops Q rest (a.put o.dst (.slice (some ⟨w.heap.size, 0, none⟩) 1 1)) (w.alloc (.cells cs.toArray e))) : wpList P ops Q (o :: rest) a w :=
  BigFrame.wpList_want hg fun _ hK => wp_slice1 t e x ho cs hx i z hu hi hz hs h0 h2 (hK _ _ h)
theorem range_zip {α : Type} (f : Nat → α) (n : Nat) : ((((List.range n).map f).zipIdx 0).map fun x => (x.2, x.1)) = (List.range n).map fun i => (i, f i) := by
  apply List.ext_getElem?
  intro i
  simp only [List.getElem?_map, List.getElem?_zipIdx]
  rcases Nat.lt_or_ge i n with h | h
  · simp [List.getElem?_range h]
  · simp [List.getElem?_eq_none (by simpa using h : (List.range n).length ≤ i)]
theorem range_flat (F : Nat → List Value) : ∀ n, (((List.range n).map fun i => Value.agg (F i).toArray).flatMap fun v => v.cells.toList) = flatS F n
  | 0 => rfl
  | n + 1 => by
    rw [List.range_succ, List.map_append, List.flatMap_append, range_flat F n]
    simp [flatS, Value.cells]
/-- A slice literal of structs, known whole. -/
theorem wpList_sliceK {ops : Array Oper} {rest : List Oper} {o : Oper} {a : Act} {w : World} {Q : Exit → Act → World → Prop} (hg : Region.wanted o (yielded ops a.tmps) = true) (t e : TypeId) (len s : Nat) (parts : Array (Nat × Operand)) (ho : o.op = .buildSlice t len parts) (F : Nat → List Value)
    (hp : (parts.map fun (i, x) => (i, a.eval x)).toList = (List.range len).map fun i => (i, Value.agg (F i).toArray)) (i : TypeInfo) (z : Value) (hu : P.underlying t = some (.slice e)) (hi : P.info? e = some i) (hz : i.zero = some z) (hs : i.size = s) (hF : ∀ k, k < len → (F k).length = s) (h0 : 0 < s) (h1 : 0 < len) (h2 : len * s ≤ 2 ^ 24)
    (h : wpList P ops Q rest (a.put o.dst (.slice (some ⟨w.heap.size, 0, none⟩) len len)) (w.alloc (.cells (flatS F len).toArray e))) : wpList P ops Q (o :: rest) a w :=
  BigFrame.wpList_want hg fun _ hK => by
    subst hs
    refine wp_buildSlice t e len _ ho (flatS F len).toArray i z hu hi hz (by omega) (by have := Nat.mul_pos h1 h0; omega) ?_ (hK _ _ h)
    have hf := Great.fill_whole (s := i.size) h0 ((List.range len).map fun k => Value.agg (F k).toArray) ((Array.range (len * i.size)).map (z.cells[· % z.cells.size]!)) (fun v hv => by
      obtain ⟨k, hk, rfl⟩ := List.mem_map.1 hv
      simpa [Value.cells] using hF k (List.mem_range.1 hk)) (by simp)
    rw [range_zip, range_flat] at hf
    rw [hp]
    exact hf
/-- A variable of a struct's type, laid: its noughts are a list. -/
theorem wpList_laid {ops : Array Oper} {rest : List Oper} {o : Oper} {a : Act} {w : World} {Q : Exit → Act → World → Prop} (hg : Region.wanted o (yielded ops a.tmps) = true) (t : TypeId) (ho : o.op = .alloc t) (z : List Value) (hz : (zeroValue t).run P w = .ok (.agg z.toArray) w)
    (h : wpList P ops Q rest (a.put o.dst (.pointer (some ⟨w.heap.size, 0, none⟩))) (w.alloc (.cells z.toArray t))) : wpList P ops Q (o :: rest) a w :=
  BigFrame.wpList_want hg fun K hK => by
    unfold Oper.wp execOp
    simp only [ho, Sem.run_bind]
    have h1 : (Instr.alloc t true (.tuple #[])).run P w = .ok (.pointer (some ⟨w.heap.size, 0, none⟩)) (w.alloc (.cells z.toArray t)) := by
      simp [Instr.alloc, hz, newVar, newRow, Value.cells, Result.andThen]
    rw [h1]
    simp only [Result.andThen_ok, Sem.run_pure]
    exact hK _ _ h
theorem splice_whole {α : Type} (L ys : List α) (h : L.length = ys.length) : splice L 0 ys = ys := by
  unfold splice
  simp [h]
/-- A round's key and value. -/
theorem wpList_entryG {ops : Array Oper} {rest : List Oper} {op : Oper} {a : Act} {w : World} {Q : Exit → Act → World → Prop} (hg : Region.wanted op (yielded ops a.tmps) = true) (it : Operand) (ho : op.op = .entry it) (v : Value)
    (hx : (Instr.entry (a.eval it)).run P w = .ok v w) (h : wpList P ops Q rest (a.put op.dst v) w) : wpList P ops Q (op :: rest) a w :=
  BigFrame.wpList_want hg fun K hK => by
    unfold Oper.wp execOp
    simp only [ho, Sem.run_bind, hx, Result.andThen_ok, Sem.run_pure]
    exact hK _ _ h
/-- A variable of a struct's type, laid and filled at once. -/
theorem wpList_boxed {ops : Array Oper} {rest : List Oper} {o1 o2 : Oper} {a : Act} {w : World} {Q : Exit → Act → World → Prop} (hg1 : Region.wanted o1 (yielded ops a.tmps) = true) (t : TypeId) (p : Tmp) (ho1 : o1.op = .alloc t) (_hd1 : o1.dst = some p) (z : List Value) (hz : (zeroValue t).run P w = .ok (.agg z.toArray) w)
    (x : Operand) (hg2 : Region.wanted o2 (yielded ops (a.put o1.dst (.pointer (some ⟨w.heap.size, 0, none⟩))).tmps) = true) (ho2 : o2.op = .store t (.tmp p) x) (hd2 : o2.dst = none) (vs : List Value) (hp : (a.put o1.dst (.pointer (some ⟨w.heap.size, 0, none⟩))).eval (.tmp p) = .pointer (some ⟨w.heap.size, 0, none⟩)) (hx : (a.put o1.dst (.pointer (some ⟨w.heap.size, 0, none⟩))).eval x = .agg vs.toArray)
    (hs : (P.info? t).map (·.size) = some vs.length) (hl : z.length = vs.length) (h1 : ∀ v ∈ vs, v.oneCell' = true)
    (h : ∀ w', Below w.heap.size w w' → w'.heap[w.heap.size]? = some (.cells vs.toArray t (0, 0)) → w'.heap.size = w.heap.size + 1 → wpList P ops Q rest (a.put o1.dst (.pointer (some ⟨w.heap.size, 0, none⟩))) w') : wpList P ops Q (o1 :: o2 :: rest) a w := by
  refine wpList_laid hg1 t ho1 z hz ?_
  refine wpList_store_segK hg2 t (.tmp p) x ho2 w.heap.size 0 hp vs hx z t (heap_new w _) hs (by omega) h1 hd2 fun w' h2 h3 h4 => h w' ?_ ?_ (by rw [h4]; simp)
  · exact ((Below.refl w.heap.size w).alloc (Nat.le_refl _) (.cells z.toArray t)).trans (h3.below (fun k hk => by rw [hk]; exact Nat.le_refl _) (by simp))
  · rw [splice_whole _ _ hl] at h2; exact h2
end
end Go.Proofs.YtodhaaaodmcplaaGreat
