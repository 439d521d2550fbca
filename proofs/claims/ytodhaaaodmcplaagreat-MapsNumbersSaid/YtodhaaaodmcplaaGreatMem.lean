/- Words for memory: the blocks that a call has made, each known whole; parts of a block stored and loaded whole. -/
import Derived.Test.YtodhaaaodmcplaaGreatKeep
import Derived.Deep.MidRow
import Derived.Laws.CopyOwn
import Derived.BigFrame
import Derived.Lib.Hide
set_option linter.all false
namespace Go.Proofs.YtodhaaaodmcplaaGreat
open Go.RowKit
/-- The blocks of L (place, cells, type), made since W; all that W had lies as it lay. -/
structure Mem (W w : World) (L : List (Nat × List Value × TypeId)) : Prop where
  below : Below W.heap.size W w
  fresh : ∀ x ∈ L, W.heap.size ≤ x.1
  dist : (L.map (·.1)).Nodup
  has : ∀ x ∈ L, w.heap[x.1]? = some (.cells x.2.1.toArray x.2.2 (0, 0))
theorem Mem.nil (W : World) : Mem W W [] := ⟨Below.refl _ _, by simp, by simp, by simp⟩
theorem Mem.get {W w : World} {L : List (Nat × List Value × TypeId)} (h : Mem W w L) (i : Nat) {b : Nat} {c : List Value} {t : TypeId} (hi : L[i]? = some (b, c, t)) : w.heap[b]? = some (.cells c.toArray t (0, 0)) :=
  h.has _ (List.mem_of_getElem? hi)
theorem Mem.cell {W w : World} {L : List (Nat × List Value × TypeId)} (h : Mem W w L) (i : Nat) {b : Nat} {c : List Value} {t : TypeId} (hi : L[i]? = some (b, c, t)) (o : Nat) {v : Value} (hv : c[o]? = some v) : w.cell? ⟨b, o, none⟩ = some v :=
  block_cell (h.get i hi) o v (by simpa using hv)
theorem Mem.froz {W w : World} {L : List (Nat × List Value × TypeId)} (h : Mem W w L) (i : Nat) {b : Nat} {c : List Value} {t : TypeId} (hi : L[i]? = some (b, c, t)) (o : Nat) : w.frozen? ⟨b, o, none⟩ = false :=
  frozen_of_row w b _ _ _ (h.get i hi)
theorem Mem.range {W w : World} {L : List (Nat × List Value × TypeId)} (h : Mem W w L) (i : Nat) {b : Nat} {c : List Value} {t : TypeId} (hi : L[i]? = some (b, c, t)) (o : Nat) (vs : List Value) (hv : (c.drop o).take vs.length = vs) : w.rangeAt b o vs := fun j v hj => by
  refine h.cell i hi (o + j) ?_
  rw [← hv, List.getElem?_take] at hj
  split at hj
  · rw [List.getElem?_drop] at hj; exact hj
  · cases hj
theorem Mem.lt {W w : World} {L : List (Nat × List Value × TypeId)} (h : Mem W w L) (i : Nat) {b : Nat} {c : List Value} {t : TypeId} (hi : L[i]? = some (b, c, t)) : b < w.heap.size := heap_lt (h.get i hi)
theorem Mem.fresh' {W w : World} {L : List (Nat × List Value × TypeId)} (h : Mem W w L) (i : Nat) {b : Nat} {c : List Value} {t : TypeId} (hi : L[i]? = some (b, c, t)) : W.heap.size ≤ b := h.fresh _ (List.mem_of_getElem? hi)
theorem Mem.ne {W w : World} {L : List (Nat × List Value × TypeId)} (h : Mem W w L) (i j : Nat) {b c : Nat} {x y : List Value × TypeId} (hi : L[i]? = some (b, x)) (hj : L[j]? = some (c, y)) (hij : i ≠ j) : b ≠ c := fun e => by
  have h1 : (L.map (·.1))[i]? = some b := by simp [hi]
  have h2 : (L.map (·.1))[j]? = some c := by simp [hj]
  have hl : i < (L.map (·.1)).length := (List.getElem?_eq_some_iff.1 h1).1
  exact hij ((List.getElem?_inj hl h.dist).1 (by rw [h1, h2, e]))
/-- One block turned. -/
theorem Mem.put {W w w' : World} {L : List (Nat × List Value × TypeId)} (h : Mem W w L) (i : Nat) {b : Nat} {c c' : List Value} {t : TypeId} (hi : L[i]? = some (b, c, t)) (hk : Keeps (fun k => k = b) w w') (hc : w'.heap[b]? = some (.cells c'.toArray t (0, 0))) : Mem W w' (L.set i (b, c', t)) := by
  have hb := h.fresh' i hi
  have hl : i < L.length := (List.getElem?_eq_some_iff.1 hi).1
  have hm : (L.set i (b, c', t)).map (·.1) = L.map (·.1) := by
    rw [List.map_set]
    refine List.ext_getElem? fun k => ?_
    rw [List.getElem?_set]
    split
    · rename_i e; subst e
      rw [List.getElem?_map, hi]; simp [hl]
    · rfl
  refine ⟨h.below.trans (hk.below (by rintro k rfl; exact hb) h.below.size), fun x hx => ?_, by rw [hm]; exact h.dist, fun x hx => ?_⟩
  · rcases List.mem_or_eq_of_mem_set hx with hx | rfl
    · exact h.fresh x hx
    · exact hb
  · obtain ⟨k, hkx⟩ := List.mem_iff_getElem?.1 hx
    rw [List.getElem?_set] at hkx
    split at hkx
    · rename_i e; subst e
      try rw [if_pos hl] at hkx
      obtain rfl := Option.some.inj hkx
      exact hc
    · rename_i e
      obtain ⟨x1, x2⟩ := x
      exact hk.heap (h.has _ (List.mem_of_getElem? hkx)) (h.ne k i hkx hi (fun e2 => e e2.symm))
theorem Mem.setCell {W w : World} {L : List (Nat × List Value × TypeId)} (h : Mem W w L) (i : Nat) {b : Nat} {c : List Value} {t : TypeId} (hi : L[i]? = some (b, c, t)) (o : Nat) (v : Value) : Mem W (w.setCell ⟨b, o, none⟩ v) (L.set i (b, c.set o v, t)) := by
  refine h.put i hi (Keeps.setCell _ w ⟨b, o, none⟩ v rfl) ?_
  rw [Go.heap_setCell_same w b o _ _ _ (h.get i hi)]
  simp
/-- Nothing of it turned. -/
theorem Mem.go {W w w' : World} {L : List (Nat × List Value × TypeId)} (h : Mem W w L) (hb : Below w.heap.size w w') : Mem W w' L :=
  ⟨h.below.trans (hb.mono h.below.size), h.fresh, h.dist, fun x hx => (hb.block x.1 (heap_lt (h.has x hx))).trans (h.has x hx)⟩
theorem Mem.push {W w : World} {L : List (Nat × List Value × TypeId)} (h : Mem W w L) (c : List Value) (t : TypeId) : Mem W (w.alloc (.cells c.toArray t)) (L ++ [(w.heap.size, c, t)]) := by
  refine ⟨h.below.alloc h.below.size _, fun x hx => ?_, ?_, fun x hx => ?_⟩
  · rcases List.mem_append.1 hx with hx | hx
    · exact h.fresh x hx
    · obtain rfl := List.mem_singleton.1 hx
      exact h.below.size
  · rw [List.map_append, List.map_singleton, List.nodup_append]
    refine ⟨h.dist, by simp, fun a ha b hb => ?_⟩
    obtain rfl := List.mem_singleton.1 hb
    obtain ⟨x, hx, rfl⟩ := List.mem_map.1 ha
    exact Nat.ne_of_lt (heap_lt (h.has x hx))
  · rcases List.mem_append.1 hx with hx | hx
    · exact heap_old (h.has x hx)
    · obtain rfl := List.mem_singleton.1 hx
      exact heap_new w _
theorem Mem.perm {W w : World} {L L' : List (Nat × List Value × TypeId)} (h : Mem W w L) (hp : L.Perm L') : Mem W w L' :=
  ⟨h.below, fun x hx => h.fresh x (hp.mem_iff.2 hx), (hp.map _).nodup_iff.1 h.dist, fun x hx => h.has x (hp.mem_iff.2 hx)⟩
theorem Mem.drew {W w : World} {L : List (Nat × List Value × TypeId)} (h : Mem W w L) (n : Nat) : Mem W (w.drewN n) L := h.go (below_drewN (Below.refl _ w) n)
theorem Keeps.setRow (w : World) (g : Nat) (cs : Array Value) : Keeps (fun k => k = g) w (w.setRow g cs) := ⟨rfl, rfl, rfl, by simp, fun k _ hn => setRow_other w g k cs hn⟩
section
variable {P : Program}
/-- A value of as many cells as the variable has goes into a block known whole. -/
theorem run_storeVar_seg (w : World) (b o : Nat) (ty : TypeId) (vs cur : List Value) (t : TypeId) (hb : w.heap[b]? = some (.cells cur.toArray t (0, 0))) (hfit : o + vs.length ≤ cur.length) (hi : (P.info? ty).map (·.size) = some vs.length) (h1 : ∀ v ∈ vs, v.oneCell' = true) :
    (storeVar ty ⟨b, o, none⟩ (.agg vs.toArray)).run P w = .ok () (w.setRow b (splice cur o vs).toArray) := by
  have := run_storeCells_at P b o t vs 0 cur.toArray w hb (by simpa using hfit) h1
  cases hq : P.info? ty with
  | none => simp [hq] at hi
  | some i =>
    have hs : vs.length = i.size := by simp [hq] at hi; omega
    simp only [Nat.add_zero] at this
    simp [storeVar, sizeOf, typeInfo, hq, Value.cells, hs, this, splice]
theorem wp_store_seg {op : Oper} {a : Act} {w : World} {K : Act → World → Prop} {Q : Exit → Act → World → Prop} (ty : TypeId) (x y : Operand) (ho : op.op = .store ty x y)
    (b o : Nat) (hx : a.eval x = .pointer (some ⟨b, o, none⟩)) (vs : List Value) (hy : a.eval y = .agg vs.toArray) {W : World} {L : List (Nat × List Value × TypeId)} (M : Mem W w L) (i : Nat) (cur : List Value) (t : TypeId) (hi : L[i]? = some (b, cur, t))
    (hs : (P.info? ty).map (·.size) = some vs.length) (hfit : o + vs.length ≤ cur.length) (h1 : ∀ v ∈ vs, v.oneCell' = true)
    (h : ∀ w', Hid (Mem W w' (L.set i (b, splice cur o vs, t))) → w'.heap.size = w.heap.size → K (a.put op.dst undef) w') : op.wp P a w K Q := by
  have hb := M.get i hi
  unfold Oper.wp execOp
  simp only [ho, hx, hy, Instr.storeAt, Instr.sureAddr, Sem.run_bind, Sem.run_pure, Result.andThen_ok, run_storeVar_seg w b o ty vs cur t hb hfit hs h1]
  exact h _ (Lib.hid (M.put i hi (Keeps.setRow w b _) (setRow_heap w b _ _ t _ hb))) (by simp)
theorem wpList_store_seg {ops : Array Oper} {rest : List Oper} {op : Oper} {a : Act} {w : World} {Q : Exit → Act → World → Prop} (hg : Region.wanted op (yielded ops a.tmps) = true) (ty : TypeId) (x y : Operand) (ho : op.op = .store ty x y)
    (b o : Nat) (hx : a.eval x = .pointer (some ⟨b, o, none⟩)) (vs : List Value) (hy : a.eval y = .agg vs.toArray) {W : World} {L : List (Nat × List Value × TypeId)} (M : Mem W w L) (i : Nat) (cur : List Value) (t : TypeId) (hi : L[i]? = some (b, cur, t))
    (hs : (P.info? ty).map (·.size) = some vs.length) (hfit : o + vs.length ≤ cur.length) (h1 : ∀ v ∈ vs, v.oneCell' = true) (hd : op.dst = none)
    (h : ∀ w', Hid (Mem W w' (L.set i (b, splice cur o vs, t))) → w'.heap.size = w.heap.size → wpList P ops Q rest a w') : wpList P ops Q (op :: rest) a w :=
  BigFrame.wpList_want hg fun _ hK => wp_store_seg ty x y ho b o hx vs hy M i cur t hi hs hfit h1 fun w' m e => hK _ _ (by rw [hd]; exact h w' m e)
/-- One cell goes into a block known whole. -/
theorem run_storeVar_one (w : World) (b o : Nat) (ty : TypeId) (k : IntKind) (z : Int) (cur : List Value) (t : TypeId) (hb : w.heap[b]? = some (.cells cur.toArray t (0, 0))) (hfit : o < cur.length) (hi : (P.info? ty).map (·.size) = some 1) :
    (storeVar ty ⟨b, o, none⟩ (.int k z)).run P w = .ok () (w.setRow b (splice cur o [.int k z]).toArray) := by
  have := run_storeCells_at P b o t [.int k z] 0 cur.toArray w hb (by simp; omega) (by simp [Value.oneCell'])
  cases hq : P.info? ty with
  | none => simp [hq] at hi
  | some i =>
    have hs : i.size = 1 := by simpa [hq] using hi
    simp only [Nat.add_zero] at this
    simp [storeVar, sizeOf, typeInfo, hq, Value.cells, hs, this, splice]
theorem wp_store_one {op : Oper} {a : Act} {w : World} {K : Act → World → Prop} {Q : Exit → Act → World → Prop} (ty : TypeId) (x y : Operand) (ho : op.op = .store ty x y)
    (b o : Nat) (hx : a.eval x = .pointer (some ⟨b, o, none⟩)) (k : IntKind) (z : Int) (hy : a.eval y = .int k z) {W : World} {L : List (Nat × List Value × TypeId)} (M : Mem W w L) (i : Nat) (cur : List Value) (t : TypeId) (hi : L[i]? = some (b, cur, t))
    (hs : (P.info? ty).map (·.size) = some 1) (hfit : o < cur.length)
    (h : ∀ w', Hid (Mem W w' (L.set i (b, splice cur o [.int k z], t))) → w'.heap.size = w.heap.size → K (a.put op.dst undef) w') : op.wp P a w K Q := by
  have hb := M.get i hi
  unfold Oper.wp execOp
  simp only [ho, hx, hy, Instr.storeAt, Instr.sureAddr, Sem.run_bind, Sem.run_pure, Result.andThen_ok, run_storeVar_one w b o ty k z cur t hb hfit hs]
  exact h _ (Lib.hid (M.put i hi (Keeps.setRow w b _) (setRow_heap w b _ _ t _ hb))) (by simp)
theorem wpList_store_one {ops : Array Oper} {rest : List Oper} {op : Oper} {a : Act} {w : World} {Q : Exit → Act → World → Prop} (hg : Region.wanted op (yielded ops a.tmps) = true) (ty : TypeId) (x y : Operand) (ho : op.op = .store ty x y)
    (b o : Nat) (hx : a.eval x = .pointer (some ⟨b, o, none⟩)) (k : IntKind) (z : Int) (hy : a.eval y = .int k z) {W : World} {L : List (Nat × List Value × TypeId)} (M : Mem W w L) (i : Nat) (cur : List Value) (t : TypeId) (hi : L[i]? = some (b, cur, t))
    (hs : (P.info? ty).map (·.size) = some 1) (hfit : o < cur.length) (hd : op.dst = none)
    (h : ∀ w', Hid (Mem W w' (L.set i (b, splice cur o [.int k z], t))) → w'.heap.size = w.heap.size → wpList P ops Q rest a w') : wpList P ops Q (op :: rest) a w :=
  BigFrame.wpList_want hg fun _ hK => wp_store_one ty x y ho b o hx k z hy M i cur t hi hs hfit fun w' m e => hK _ _ (by rw [hd]; exact h w' m e)
/-- copy(d, s): both known. -/
theorem wpList_copy_seg {ops : Array Oper} {rest : List Oper} {op : Oper} {a : Act} {w : World} {Q : Exit → Act → World → Prop} (hgd : op.guard = none) (d s : Operand) (dT sT : TypeId)
    (ho : op.op = .call { callee := .builtin .copy, args := #[d, s], argTypes := #[dT, sT] }) (elem : TypeId) (hu : P.underlying dT = some (.slice elem)) (hsz : (P.info? elem).map (·.size) = some 1)
    (b o dLen dCap b2 o2 sLen sCap : Nat) (hd : a.eval d = .slice (some ⟨b, o, none⟩) dLen dCap) (hs : a.eval s = .slice (some ⟨b2, o2, none⟩) sLen sCap)
    {W : World} {L : List (Nat × List Value × TypeId)} (M : Mem W w L) (i : Nat) (cur : List Value) (t : TypeId) (hi : L[i]? = some (b, cur, t)) (vs : List Value) (hv : w.rangeAt b2 o2 vs) (hn : vs.length = Nat.min sLen dLen) (hfit : o + vs.length ≤ cur.length) (h1 : ∀ v ∈ vs, v.oneCell' = true)
    (h : ∀ w', Hid (Mem W w' (L.set i (b, splice cur o vs, t))) → w'.heap.size = w.heap.size → wpList P ops Q rest (a.put op.dst (goInt vs.length)) w') : wpList P ops Q (op :: rest) a w := by
  refine wpList_copy_own hgd d s dT sT ho elem hu hsz b o dLen dCap ⟨b2, o2, none⟩ sLen sCap hd hs cur.toArray t (M.get i hi) vs hn (fun j v hj => by rw [Addr.add_mid]; exact hv j v hj) (by simpa using hfit) h1 ?_
  refine h _ (Lib.hid (M.put i hi (Keeps.setRow w b _) ?_)) (by simp)
  rw [setRow_heap w b _ _ t _ (M.get i hi)]
  try simp [splice]
end
end Go.Proofs.YtodhaaaodmcplaaGreat
