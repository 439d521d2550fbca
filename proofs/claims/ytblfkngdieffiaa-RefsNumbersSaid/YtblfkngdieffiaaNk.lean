/- Layer 24 (refs): more words for structs kept whole; keys of one byte. -/
import Derived.Test.YtblfkngdieffiaaLc
namespace Go.Proofs.Ytblfkngdieffiaa
open Go.RowKit Go.Maps Go.WideMaps
section
variable {P : Program}
theorem wpList_laidB {ops : Array Oper} {rest : List Oper} {o : Oper} {a : Act} {w : World} {Q : Exit → Act → World → Prop} (hg : Region.wanted o (yielded ops a.tmps) = true) (t : TypeId) (ho : o.op = .alloc t) (z : List Value) (hz : (zeroValue t).run P w = .ok (.agg z.toArray) w)
    (h : ∀ w', Below w.heap.size w w' → w'.heap[w.heap.size]? = some (.cells z.toArray t (0, 0)) → w'.heap.size = w.heap.size + 1 → wpList P ops Q rest (a.put o.dst (.pointer (some ⟨w.heap.size, 0, none⟩))) w') : wpList P ops Q (o :: rest) a w :=
  wpList_laid hg t ho z hz (h _ ((Below.refl w.heap.size w).alloc (Nat.le_refl _) _) (heap_new w _) (by simp))
/-- The slice literal, one operation. -/
theorem wp_sliceK {o : Oper} {a : Act} {w : World} {K : Act → World → Prop} {Q : Exit → Act → World → Prop} (t e : TypeId) (len s : Nat) (parts : Array (Nat × Operand)) (ho : o.op = .buildSlice t len parts) (F : Nat → List Value)
    (hp : (parts.map fun (i, x) => (i, a.eval x)).toList = (List.range len).map fun i => (i, Value.agg (F i).toArray)) (i : TypeInfo) (z : Value) (hu : P.underlying t = some (.slice e)) (hi : P.info? e = some i) (hz : i.zero = some z) (hs : i.size = s) (hF : ∀ k, k < len → (F k).length = s) (h0 : 0 < s) (h1 : 0 < len) (h2 : len * s ≤ 2 ^ 24)
    (h : ∀ w', Below w.heap.size w w' → w'.heap[w.heap.size]? = some (.cells (flatS F len).toArray e (0, 0)) → w'.heap.size = w.heap.size + 1 → K (a.put o.dst (.slice (some ⟨w.heap.size, 0, none⟩) len len)) w') : o.wp P a w K Q := by
  subst hs
  refine wp_buildSlice t e len _ ho (flatS F len).toArray i z hu hi hz (by omega) (by have := Nat.mul_pos h1 h0; omega) ?_ (h _ ((Below.refl w.heap.size w).alloc (Nat.le_refl _) _) (heap_new w _) (by simp))
  have hf := Great.fill_whole (s := i.size) h0 ((List.range len).map fun k => Value.agg (F k).toArray) ((Array.range (len * i.size)).map (z.cells[· % z.cells.size]!)) (fun v hv => by
    obtain ⟨k, hk, rfl⟩ := List.mem_map.1 hv
    simpa [Value.cells] using hF k (List.mem_range.1 hk)) (by simp)
  rw [range_zip, range_flat] at hf
  rw [hp]
  exact hf
end
/-- Numbers at the edges. -/
def nums (i : Nat) : Int := match i with | 0 => -9223372036854775808 | 1 => -1 | 2 => 0 | 3 => 1 | _ => 9223372036854775807
theorem nums_wf (i : Nat) : (Lit.int .i64 (nums i)).wf = true := by
  unfold nums
  split <;> exact wf_i64 (by omega)
def two (x y : Int) (a b : Int) (hx : 0 ≤ x ∧ x < 256) (hy : 0 ≤ y ∧ y < 256) (ha : (Lit.int .i64 a).wf = true) (hb : (Lit.int .i64 b).wf = true) : Nat → ElC := fun j => match j with | 0 => ctE x a hx ha | _ => ctE y b hy hb
theorem lit_sarr {w : World} {g n : Nat} {L : Nat → ElC} (h : w.heap[g]? = some (.cells (flatS (fun i => cellsC (L i)) n).toArray 45 (0, 0))) : SArr w w.heap.size (some ⟨g, 0, none⟩) n 33 (fun i => cellsC (L i)) := SArr.ofCells (wideC L) h fun _ _ => rfl
theorem lit_sarrI {w : World} {g n : Nat} {L : Nat → ElIt} (h : w.heap[g]? = some (.cells (flatS (fun i => cellsIt (L i)) n).toArray 42 (0, 0))) : SArr w w.heap.size (some ⟨g, 0, none⟩) n 73 (fun i => cellsIt (L i)) := SArr.ofCells (wideIt L) h fun _ _ => rfl
def kOne (i : Nat) (v : Int) : List Int := (List.replicate 32 0).set i v
theorem kOne_ok (i : Nat) {v : Int} (h : 0 ≤ v ∧ v < 256) : KeyOk 32 (kOne i v) := ⟨by simp [kOne], fun y hy => by
  rcases List.mem_or_eq_of_mem_set hy with h1 | h1
  · have := List.eq_of_mem_replicate h1; omega
  · omega⟩
theorem zK_set (i : Nat) (v : Int) : zK.set i (.int .u8 v) = u8l (kOne i v) := by unfold zK u8l kOne; rw [List.map_set, List.map_replicate]
end Go.Proofs.Ytblfkngdieffiaa
