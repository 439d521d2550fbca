/- How a space lies in memory (layer 19, space): its cells, and what is done to it, as plain functions. -/
import Derived.Test.YtgoblbmekhcekaaLC
import Derived.Test.YtgoblbmekhcekaaMem
import Derived.StillTailTactics
namespace Go.Proofs.Ytgoblbmekhcekaa
open Go.RowKit
/-- How a space is now: which of its segments are free, which one is open, how far it is filled. -/
structure Nw where
  fr : List Bool
  op : Int
  fl : Int
def usedC (fr : List Bool) : List Value := fr.map (fun b => Value.bool (!b)) ++ List.replicate (256 - fr.length) (.bool false)
def Nw.cells (n : Nw) : List Value := usedC n.fr ++ [.int .i64 n.op, .int .i64 n.fl]
def spC (g : Geo) (n : Nw) (row : Value) : List Value := n.cells ++ ((gcs g).toList ++ [row])
/-- What a space that is one may be. -/
structure Nw.Ok (g : Geo) (n : Nw) : Prop where
  len : (n.fr.length : Int) = g.S
  op : (n.op = -1 ∧ n.fl = 0) ∨ (0 ≤ n.op ∧ n.op < g.S ∧ n.fr[n.op.toNat]? = some false)
  f1 : 0 ≤ n.fl
  f2 : n.fl ≤ g.G
theorem usedC_len {fr : List Bool} (h : fr.length ≤ 256) : (usedC fr).length = 256 := by simp [usedC]; omega
theorem Nw.Ok.le {g : Geo} {n : Nw} (h : n.Ok g) (hf : Fine g) : n.fr.length ≤ 256 := by have := h.len; have := hf.s2; omega
theorem cells_len {n : Nw} (h : n.fr.length ≤ 256) : n.cells.length = 258 := by simp [Nw.cells, usedC_len h]
theorem spC_len {g : Geo} {n : Nw} {row : Value} (h : n.fr.length ≤ 256) : (spC g n row).length = 264 := by simp [spC, cells_len h]
theorem usedC_one {fr : List Bool} : ∀ v ∈ usedC fr, v.oneCell' = true := by
  intro v hv
  rcases List.mem_append.1 hv with hv | hv
  · obtain ⟨b, _, rfl⟩ := List.mem_map.1 hv; rfl
  · rw [List.eq_of_mem_replicate hv]; rfl
theorem cells_one {n : Nw} : ∀ v ∈ n.cells, v.oneCell' = true := by
  intro v hv
  rcases List.mem_append.1 hv with hv | hv
  · exact usedC_one v hv
  · simp at hv; rcases hv with rfl | rfl <;> rfl
/-- Which one of a space's segments is used. -/
theorem used_at {fr : List Bool} {k : Nat} (h : k < fr.length) : (usedC fr)[k]? = some (.bool (!fr[k])) := by
  simp [usedC, h, List.getElem?_append]
theorem used_set {fr : List Bool} {k : Nat} {v : Bool} (h : k < fr.length) : (usedC fr).set k (.bool (!v)) = usedC (fr.set k v) := by
  simp only [usedC, List.set_append, List.length_map, h, if_true, List.map_set, List.length_set]
/-- Where a space lies: its block. -/
structure Sp (w : World) (b : Nat) (g : Geo) (n : Nw) (was : List Nw) (row : Value) : Prop where
  blk : w.heap[b]? = some (.cells (spC g n row).toArray 59 (0, 0))
  own : w.ownsRow 0 56 258 row was.length (was.flatMap Nw.cells)
  apart : row.ownBlock ≠ some b
  ok : n.Ok g
  okw : ∀ m ∈ was, m.Ok g
  right : rightB g = true
theorem Sp.fine {w : World} {b : Nat} {g : Geo} {n : Nw} {was : List Nw} {row : Value} (h : Sp w b g n was row) : Fine g := fine_right h.right
theorem Sp.le {w : World} {b : Nat} {g : Geo} {n : Nw} {was : List Nw} {row : Value} (h : Sp w b g n was row) : n.fr.length ≤ 256 := h.ok.le h.fine
theorem Sp.keeps {w w' : World} {b : Nat} {g : Geo} {n : Nw} {was : List Nw} {row : Value} {S : Nat → Prop} (h : Sp w b g n was row) (hk : Keeps S w w') (hb : ¬ S b) (hr : ∀ k, row.ownBlock = some k → ¬ S k) : Sp w' b g n was row :=
  ⟨hk.heap h.blk hb, hk.row h.own hr, h.apart, h.ok, h.okw, h.right⟩
theorem Sp.go {w w' : World} {b : Nat} {g : Geo} {n : Nw} {was : List Nw} {row : Value} (h : Sp w b g n was row) (hb : Below w.heap.size w w') : Sp w' b g n was row :=
  h.keeps (S := fun _ => False) (Keeps.fresh hb) (fun h => h) (fun _ _ h => h)
theorem spC_at {g : Geo} {n : Nw} {row : Value} (h : n.fr.length ≤ 256) (j : Nat) : (spC g n row)[258 + j]? = ((gcs g).toList ++ [row])[j]? := by
  rw [spC, List.getElem?_append_right (by rw [cells_len h]; omega), cells_len h, Nat.add_sub_cancel_left]
theorem cells_at {n : Nw} (h : n.fr.length ≤ 256) (j : Nat) : n.cells[256 + j]? = [Value.int .i64 n.op, .int .i64 n.fl][j]? := by
  rw [Nw.cells, List.getElem?_append_right (by rw [usedC_len h]; omega), usedC_len h, Nat.add_sub_cancel_left]
theorem spC_now {g : Geo} {n : Nw} {row : Value} (h : n.fr.length ≤ 256) {j : Nat} (hj : j < 258) : (spC g n row)[j]? = n.cells[j]? := by
  rw [spC, List.getElem?_append_left (by rw [cells_len h]; exact hj)]
theorem spC_used {g : Geo} {n : Nw} {row : Value} (h : n.fr.length ≤ 256) {j : Nat} (hj : j < 256) : (spC g n row)[j]? = (usedC n.fr)[j]? := by
  rw [spC_now h (by omega), Nw.cells, List.getElem?_append_left (by rw [usedC_len h]; exact hj)]
/-- A space's cells, one by one. -/
theorem sp_cells {w : World} {b : Nat} {g : Geo} {n : Nw} {row : Value} (h : w.heap[b]? = some (.cells (spC g n row).toArray 59 (0, 0))) (hl : n.fr.length ≤ 256) :
    w.cell? ⟨b, 256, none⟩ = some (.int .i64 n.op) ∧ w.cell? ⟨b, 257, none⟩ = some (.int .i64 n.fl) ∧ w.cell? ⟨b, 258, none⟩ = some (.int .i64 g.V) ∧ w.cell? ⟨b, 259, none⟩ = some (.int .i64 g.S) ∧ w.cell? ⟨b, 260, none⟩ = some (.int .i64 g.G) ∧
    w.cell? ⟨b, 261, none⟩ = some (.int .i64 g.U) ∧ w.cell? ⟨b, 262, none⟩ = some (.int .i64 g.J) ∧ w.cell? ⟨b, 263, none⟩ = some row := by
  refine ⟨block_cell h 256 _ ?_, block_cell h 257 _ ?_, block_cell h 258 _ ?_, block_cell h 259 _ ?_, block_cell h 260 _ ?_, block_cell h 261 _ ?_, block_cell h 262 _ ?_, block_cell h 263 _ ?_⟩
  · rw [List.getElem?_toArray, spC_now hl (by omega)]; exact cells_at hl 0
  · rw [List.getElem?_toArray, spC_now hl (by omega)]; exact cells_at hl 1
  · rw [List.getElem?_toArray]; exact spC_at hl 0
  · rw [List.getElem?_toArray]; exact spC_at hl 1
  · rw [List.getElem?_toArray]; exact spC_at hl 2
  · rw [List.getElem?_toArray]; exact spC_at hl 3
  · rw [List.getElem?_toArray]; exact spC_at hl 4
  · rw [List.getElem?_toArray]; exact spC_at hl 5
theorem sp_used {w : World} {b : Nat} {g : Geo} {n : Nw} {row : Value} (h : w.heap[b]? = some (.cells (spC g n row).toArray 59 (0, 0))) (hl : n.fr.length ≤ 256) (k : Nat) (hk : k < n.fr.length) :
    w.cell? ⟨b, k, none⟩ = some (.bool (!n.fr[k])) := block_cell h k _ (by rw [List.getElem?_toArray, spC_used hl (by omega)]; exact used_at hk)
theorem sp_all {w : World} {b : Nat} {g : Geo} {n : Nw} {row : Value} (h : w.heap[b]? = some (.cells (spC g n row).toArray 59 (0, 0))) : w.rangeAt b 0 n.cells := fun j v hj => by
  rw [Nat.zero_add]
  refine block_cell h j v ?_
  rw [List.getElem?_toArray, spC, List.getElem?_append_left (List.getElem?_eq_some_iff.1 hj).1]
  exact hj
theorem sp_geo {w : World} {b : Nat} {g : Geo} {n : Nw} {row : Value} (h : w.heap[b]? = some (.cells (spC g n row).toArray 59 (0, 0))) (hl : n.fr.length ≤ 256) : w.rangeAt b 258 (gcs g).toList := fun j v hj => by
  refine block_cell h (258 + j) v ?_
  rw [List.getElem?_toArray, spC_at hl, List.getElem?_append_left (List.getElem?_eq_some_iff.1 hj).1]
  exact hj
/-- Turned: the free ones, the open one, how far it is filled, the row. -/
theorem spC_used_set {g : Geo} {n : Nw} {row : Value} (k : Nat) (v : Bool) (hk : k < n.fr.length) (hl : n.fr.length ≤ 256) : (spC g n row).set k (.bool (!v)) = spC g ⟨n.fr.set k v, n.op, n.fl⟩ row := by
  rw [spC, List.set_append, if_pos (by rw [cells_len hl]; omega), Nw.cells, List.set_append, if_pos (by rw [usedC_len hl]; omega), used_set hk]
  rfl
theorem spC_op_set {g : Geo} {n : Nw} {row : Value} (o : Int) (hl : n.fr.length ≤ 256) : (spC g n row).set 256 (.int .i64 o) = spC g ⟨n.fr, o, n.fl⟩ row := by
  rw [spC, List.set_append, if_pos (by rw [cells_len hl]; omega), Nw.cells, List.set_append, if_neg (by rw [usedC_len hl]; omega), usedC_len hl]
  rfl
theorem spC_fl_set {g : Geo} {n : Nw} {row : Value} (o : Int) (hl : n.fr.length ≤ 256) : (spC g n row).set 257 (.int .i64 o) = spC g ⟨n.fr, n.op, o⟩ row := by
  rw [spC, List.set_append, if_pos (by rw [cells_len hl]; omega), Nw.cells, List.set_append, if_neg (by rw [usedC_len hl]; omega), usedC_len hl]
  rfl
theorem spC_row_set {g : Geo} {n : Nw} {row : Value} (v : Value) (hl : n.fr.length ≤ 256) : (spC g n row).set 263 v = spC g n v := by
  rw [spC, List.set_append, if_neg (by rw [cells_len hl]; omega), cells_len hl]
  rfl
theorem spC_now_put {g : Geo} {n m : Nw} {row : Value} (hl : n.fr.length ≤ 256) (hm : m.fr.length ≤ 256) : splice (spC g n row) 0 m.cells = spC g m row := by
  unfold splice
  rw [List.take_zero, List.nil_append, cells_len hm, spC, List.drop_append, cells_len hl, List.drop_of_length_le (by rw [cells_len hl]; omega)]
  rfl
section
variable {P : Program}
/-- A struct or array goes into a block known whole. -/
theorem wpList_store_segK {ops : Array Oper} {rest : List Oper} {op : Oper} {a : Act} {w : World} {Q : Exit → Act → World → Prop} (hg : Region.wanted op (yielded ops a.tmps) = true) (ty : TypeId) (x y : Operand) (ho : op.op = .store ty x y)
    (b o : Nat) (hx : a.eval x = .pointer (some ⟨b, o, none⟩)) (vs : List Value) (hy : a.eval y = .agg vs.toArray) (cur : List Value) (t : TypeId) (hb : w.heap[b]? = some (.cells cur.toArray t (0, 0)))
    (hs : (P.info? ty).map (·.size) = some vs.length) (hfit : o + vs.length ≤ cur.length) (h1 : ∀ v ∈ vs, v.oneCell' = true) (hd : op.dst = none)
    (h : ∀ w', Hid (w'.heap[b]? = some (.cells (splice cur o vs).toArray t (0, 0)) ∧ Keeps (fun k => k = b) w w') → w'.heap.size = w.heap.size → wpList P ops Q rest a w') : wpList P ops Q (op :: rest) a w := by
  refine BigFrame.wpList_want hg fun _ hK => ?_
  unfold Oper.wp execOp
  simp only [ho, hx, hy, Instr.storeAt, Instr.sureAddr, Sem.run_bind, Sem.run_pure, Result.andThen_ok, run_storeVar_seg w b o ty vs cur t hb hfit hs h1]
  have := h _ (Lib.hid ⟨setRow_heap w b _ _ t _ hb, Keeps.setRow w b _⟩) (by simp)
  exact hK _ _ (by rw [hd]; exact this)
end
/-- Reads, one by one, ahead of a region's tail (a name, so that nothing unfolds it). -/
structure WS (P : Program) (ops : Array Oper) (w : World) (Q : Act → Prop) (l : List Oper) (a : Act) : Prop where
  out : wpStill P ops w Q l a
section
variable {P : Program} {ops : Array Oper} {w : World} {Q : Act → Prop}
theorem WS.nil {a : Act} (h : Q a) : WS P ops w Q [] a := ⟨h⟩
theorem WS.take {o : Oper} {rest : List Oper} {a : Act} {v : Value} (hw : Region.wanted o (yielded ops a.tmps) = true) (hr : (execOp a.eval o).run P w = .ok (.value v) w) (h : WS P ops w Q rest (a.put o.dst v)) : WS P ops w Q (o :: rest) a :=
  ⟨by rw [wpStill, if_pos hw, Oper.still, hr, Oper.stillUpon_value]; exact h.out⟩
theorem WS.skip {o : Oper} {rest : List Oper} {a : Act} (hw : Region.wanted o (yielded ops a.tmps) = false) (h : WS P ops w Q rest (a.put o.dst undef)) : WS P ops w Q (o :: rest) a :=
  ⟨by rw [wpStill, if_neg (by rw [hw]; exact Bool.false_ne_true)]; exact h.out⟩
theorem WS.call {o : Oper} {rest : List Oper} {a : Act} {f : FuncId} {args : Array Value} {v : Value} (hw : Region.wanted o (yielded ops a.tmps) = true) (hr : (execOp a.eval o).run P w = .ok (.enter f args) w)
    (hc : Calls P f args w fun e w'' => e = .returned v ∧ w = w'') (h : WS P ops w Q rest (a.put o.dst v)) : WS P ops w Q (o :: rest) a :=
  ⟨by rw [wpStill, if_pos hw, Oper.still, hr]; exact ⟨rfl, v, hc.mono fun _ _ ⟨h1, h2⟩ => ⟨h1, h2.symm⟩, h.out⟩⟩
theorem ws_region {id : Nat} {Q : Exit → Act → World → Prop} {a : Act} {w : World} {l : List Oper} (n : Nat) (hm : P.follows .mixedOrders = true) (hB : Region.lexTailB .any l.toArray n = true)
    (h : WS P l.toArray w.drew (fun a' => wpList P l.toArray Q (l.drop n) a' w.drew) (l.take n) a) : (Code.region id l.toArray true).wp P Q a w := wp_region_still_tail n hm hB h.out
end
/-- One cell of a block known whole turned. -/
theorem set_blk {w : World} {b o : Nat} {v : Value} {cur : List Value} {t : TypeId} (h : w.heap[b]? = some (.cells cur.toArray t (0, 0))) : (w.setCell ⟨b, o, none⟩ v).heap[b]? = some (.cells (cur.set o v).toArray t (0, 0)) := by
  rw [heap_setCell_same w b o _ _ _ h]; simp
theorem set_keep (w : World) (b o : Nat) (v : Value) : Keeps (fun k => k = b) w (w.setCell ⟨b, o, none⟩ v) := Keeps.setCell _ w ⟨b, o, none⟩ v rfl
theorem set_size (w : World) (p : Addr) (v : Value) : (w.setCell p v).heap.size = w.heap.size := by simp [World.setCell]
end Go.Proofs.Ytgoblbmekhcekaa
