/- Words for memory: blocks known whole, and rows that grow by append, all apart. -/
import Derived.Test.YtmckngkmlhemoaaMem
import Derived.Deep.Onto
namespace Go.Proofs.Ytmckngkmlhemoaa
open Go.RowKit
/-- The blocks of L, and the rows R (value, cells) of elements of one cell of type e, all apart, made since W. -/
structure Mr (W w : World) (e : TypeId) (L : List (Nat × List Value × TypeId)) (R : List (Value × List Value)) : Prop where
  mem : Mem W w L
  rows : ∀ r ∈ R, w.ownsRow W.heap.size e 1 r.1 r.2.length r.2
  apart : ∀ (i j : Nat) (ri rj : Value × List Value), i ≠ j → R[i]? = some ri → R[j]? = some rj → ∀ g, ri.1.ownBlock = some g → rj.1.ownBlock ≠ some g
  sep : ∀ x ∈ L, ∀ r ∈ R, r.1.ownBlock ≠ some x.1
section
variable {W w w' : World} {e : TypeId} {L : List (Nat × List Value × TypeId)} {R : List (Value × List Value)}
theorem Mr.ofMem (h : Mem W w L) : Mr W w e L [] := ⟨h, by simp, by simp, by simp⟩
theorem Mr.row (h : Mr W w e L R) (i : Nat) {v : Value} {xs : List Value} (hi : R[i]? = some (v, xs)) : w.ownsRow W.heap.size e 1 v xs.length xs := h.rows _ (List.mem_of_getElem? hi)
theorem Mr.base (h : Mr W w e L R) : W.heap.size ≤ w.heap.size := h.mem.below.size
/-- Nothing of it turned. -/
theorem Mr.go (h : Mr W w e L R) (hb : Below w.heap.size w w') : Mr W w' e L R :=
  ⟨h.mem.go hb, fun r hr => (h.rows r hr).kept (row := none) ⟨hb.os, hb.tape, hb.output, hb.size, fun k hk _ => hb.block k hk⟩ (by
    rcases hv : r.1.ownBlock with _ | g
    · exact .inl rfl
    · exact .inr (by simp)), h.apart, h.sep⟩
theorem Mr.drew (h : Mr W w e L R) (n : Nat) : Mr W (w.drewN n) e L R := h.go (below_drewN (Below.refl _ w) n)
/-- A block turned. -/
theorem Mr.put (h : Mr W w e L R) (i : Nat) {b : Nat} {c c' : List Value} {t : TypeId} (hi : L[i]? = some (b, c, t)) (hk : Keeps (fun k => k = b) w w') (hm : Mem W w' (L.set i (b, c', t))) : Mr W w' e (L.set i (b, c', t)) R :=
  ⟨hm, fun r hr => hk.row (h.rows r hr) fun k hk' e => h.sep _ (List.mem_of_getElem? hi) r hr (by rw [hk', e]), h.apart, fun x hx r hr => by
    rcases List.mem_or_eq_of_mem_set hx with hx | rfl
    · exact h.sep x hx r hr
    · exact h.sep _ (List.mem_of_getElem? hi) r hr⟩
theorem Mr.setCell (h : Mr W w e L R) (i : Nat) {b : Nat} {c : List Value} {t : TypeId} (hi : L[i]? = some (b, c, t)) (o : Nat) (v : Value) : Mr W (w.setCell ⟨b, o, none⟩ v) e (L.set i (b, c.set o v, t)) R :=
  h.put i hi (Keeps.setCell _ w ⟨b, o, none⟩ v rfl) (h.mem.setCell i hi o v)
/-- A block more. -/
theorem Mr.push (h : Mr W w e L R) (c : List Value) (t : TypeId) : Mr W (w.alloc (.cells c.toArray t)) e (L ++ [(w.heap.size, c, t)]) R := by
  have h1 := h.go (w' := w.alloc (.cells c.toArray t)) ((Below.refl _ w).alloc (Nat.le_refl _) _)
  refine ⟨h.mem.push c t, h1.rows, h.apart, fun x hx r hr => ?_⟩
  rcases List.mem_append.1 hx with hx | hx
  · exact h.sep x hx r hr
  · obtain rfl := List.mem_singleton.1 hx
    intro e
    exact Nat.lt_irrefl _ ((h.rows r hr).lt _ e).2
/-- A row more: a block just made. -/
theorem Mr.make (h : Mr W w e L R) (c : List Value) (hc : c.length ≤ maxLen) : Mr W (w.alloc (.cells c.toArray e)) e L (R ++ [(.slice (some ⟨w.heap.size, 0, none⟩) c.length c.length, c)]) := by
  have h1 := h.go (w' := w.alloc (.cells c.toArray e)) ((Below.refl _ w).alloc (Nat.le_refl _) _)
  have hnew : ∀ r ∈ R, r.1.ownBlock ≠ some w.heap.size := fun r hr e => Nat.lt_irrefl _ ((h.rows r hr).lt _ e).2
  refine ⟨h1.mem, fun r hr => ?_, fun i j ri rj hij hi hj g hg => ?_, fun x hx r hr => ?_⟩
  · rcases List.mem_append.1 hr with hr | hr
    · exact h1.rows r hr
    · obtain rfl := List.mem_singleton.1 hr
      exact ⟨by simp, .inr ⟨w.heap.size, c.length, c.toArray, rfl, h.base, heap_new w _, Nat.le_refl _, hc, by simp, by simp⟩⟩
  · rw [List.getElem?_append] at hi hj
    split at hi
    · split at hj
      · exact h.apart i j ri rj hij hi hj g hg
      · obtain rfl : rj = _ := (List.mem_singleton.1 (List.mem_of_getElem? hj))
        intro e
        simp only [Value.ownBlock, Option.some.injEq] at e
        exact hnew ri (List.mem_of_getElem? hi) (by rw [hg, e])
    · obtain rfl : ri = _ := (List.mem_singleton.1 (List.mem_of_getElem? hi))
      split at hj
      · simp only [Value.ownBlock, Option.some.injEq] at hg
        subst hg
        exact hnew rj (List.mem_of_getElem? hj)
      · rename_i q1 q2
        have l1 := (List.getElem?_eq_some_iff.1 hi).1
        have l2 := (List.getElem?_eq_some_iff.1 hj).1
        simp at l1 l2
        omega
  · rcases List.mem_append.1 hr with hr | hr
    · exact h.sep x hx r hr
    · obtain rfl := List.mem_singleton.1 hr
      intro e
      simp only [Value.ownBlock, Option.some.injEq] at e
      exact Nat.lt_irrefl _ (e ▸ heap_lt (h.mem.has x hx))
/-- A nil row more. -/
theorem Mr.nil (h : Mr W w e L R) : Mr W w e L (R ++ [(.slice none 0 0, [])]) := by
  refine ⟨h.mem, fun r hr => ?_, fun i j ri rj hij hi hj g hg => ?_, fun x hx r hr => ?_⟩
  · rcases List.mem_append.1 hr with hr | hr
    · exact h.rows r hr
    · obtain rfl := List.mem_singleton.1 hr
      exact World.ownsRow_nil _ _ _ _
  · rw [List.getElem?_append] at hi hj
    split at hi
    · split at hj
      · exact h.apart i j ri rj hij hi hj g hg
      · obtain rfl : rj = _ := (List.mem_singleton.1 (List.mem_of_getElem? hj))
        simp [Value.ownBlock]
    · obtain rfl : ri = _ := (List.mem_singleton.1 (List.mem_of_getElem? hi))
      simp [Value.ownBlock] at hg
  · rcases List.mem_append.1 hr with hr | hr
    · exact h.sep x hx r hr
    · obtain rfl := List.mem_singleton.1 hr
      simp [Value.ownBlock]
/-- A row grown by append. -/
theorem Mr.grow (h : Mr W w e L R) (i : Nat) {v : Value} {xs : List Value} (hi : R[i]? = some (v, xs)) {g cap : Nat} {news : List Value} {n : Nat} (hown : w'.ownsRow W.heap.size e 1 (.slice (some ⟨g, 0, none⟩) n cap) n (xs ++ news)) (hg : w.grownBy w' v.ownBlock) (hgb : v.ownBlock = some g ∨ g = w.heap.size) :
    Mr W w' e L (R.set i (.slice (some ⟨g, 0, none⟩) n cap, xs ++ news)) := by
  have hn : (xs ++ news).length = n := by have := hown.1; omega
  have hir := List.mem_of_getElem? hi
  have hlen : i < R.length := (List.getElem?_eq_some_iff.1 hi).1
  have hfree : ∀ r ∈ R, r.1.ownBlock ≠ some w.heap.size := fun r hr e => Nat.lt_irrefl _ ((h.rows r hr).lt _ e).2
  have hoth : ∀ (j : Nat) (rj : Value × List Value), j ≠ i → R[j]? = some rj → rj.1.ownBlock ≠ some g := fun j rj hji hj => by
    rcases hgb with hv | rfl
    · exact h.apart i j _ rj (Ne.symm hji) hi hj g hv
    · exact hfree rj (List.mem_of_getElem? hj)
  have hget : ∀ (j : Nat) (rj : Value × List Value), (R.set i (.slice (some ⟨g, 0, none⟩) n cap, xs ++ news))[j]? = some rj → (j = i ∧ rj = (.slice (some ⟨g, 0, none⟩) n cap, xs ++ news)) ∨ (j ≠ i ∧ R[j]? = some rj) := fun j rj hj => by
    rw [List.getElem?_set] at hj
    split at hj
    · rename_i e; subst e
      simp only [Option.some.injEq] at hj
      exact .inl ⟨rfl, hj.symm⟩
    · rename_i e
      exact .inr ⟨Ne.symm e, hj⟩
  have hsepv : ∀ k, k ∈ L.map (·.1) → v.ownBlock ≠ some k := fun k hk => by
    obtain ⟨x, hx, rfl⟩ := List.mem_map.1 hk
    exact h.sep x hx _ hir
  refine ⟨⟨?_, h.mem.fresh, h.mem.dist, fun x hx => ?_⟩, fun r hr => ?_, fun a b ra rb hab ha hb q hq => ?_, fun x hx r hr => ?_⟩
  · exact h.mem.below.trans ⟨hg.os, hg.tape, hg.output, hg.size, fun k hk => hg.block k (Nat.lt_of_lt_of_le hk h.base) fun e => by
      have := ((h.rows _ hir).lt _ e.symm).1
      omega⟩
  · rw [hg.block x.1 (heap_lt (h.mem.has x hx)) fun e => hsepv x.1 (List.mem_map_of_mem hx) e.symm]
    exact h.mem.has x hx
  · obtain ⟨j, hj⟩ := List.mem_iff_getElem?.1 hr
    rcases hget j r hj with ⟨_, rfl⟩ | ⟨hji, hj⟩
    · show w'.ownsRow W.heap.size e 1 (.slice (some ⟨g, 0, none⟩) n cap) (xs ++ news).length (xs ++ news)
      rw [hn]; exact hown
    · refine (h.rows r (List.mem_of_getElem? hj)).kept hg ?_
      rcases hq : r.1.ownBlock with _ | q
      · exact .inl rfl
      · right
        intro e
        exact h.apart j i r _ hji hj hi q hq e.symm
  · rcases hget a ra ha with ⟨rfl, rfl⟩ | ⟨hai, ha2⟩
    · rcases hget b rb hb with ⟨rfl, _⟩ | ⟨hbi, hb2⟩
      · exact absurd rfl hab
      · simp only [Value.ownBlock, Option.some.injEq] at hq
        subst hq
        exact hoth b rb hbi hb2
    · rcases hget b rb hb with ⟨rfl, rfl⟩ | ⟨hbi, hb2⟩
      · intro e
        simp only [Value.ownBlock, Option.some.injEq] at e
        subst e
        exact hoth a ra hai ha2 hq
      · exact h.apart a b ra rb hab ha2 hb2 q hq
  · obtain ⟨j, hj⟩ := List.mem_iff_getElem?.1 hr
    rcases hget j r hj with ⟨_, rfl⟩ | ⟨_, hj⟩
    · intro e
      simp only [Value.ownBlock, Option.some.injEq] at e
      rcases hgb with hv | rfl
      · exact hsepv x.1 (List.mem_map_of_mem hx) (by rw [hv, e])
      · exact Nat.lt_irrefl _ (e ▸ heap_lt (h.mem.has x hx))
    · exact h.sep x hx r (List.mem_of_getElem? hj)
/-- A row forgotten. -/
theorem Mr.erase (h : Mr W w e L R) (i : Nat) : Mr W w e L (R.eraseIdx i) := by
  refine ⟨h.mem, fun r hr => h.rows r (List.mem_of_mem_eraseIdx hr), fun a b ra rb hab ha hb g hg => ?_, fun x hx r hr => h.sep x hx r (List.mem_of_mem_eraseIdx hr)⟩
  rw [List.getElem?_eraseIdx] at ha hb
  split at ha <;> split at hb
  · exact h.apart a b ra rb hab ha hb g hg
  · exact h.apart a (b + 1) ra rb (by omega) ha hb g hg
  · exact h.apart (a + 1) b ra rb (by omega) ha hb g hg
  · exact h.apart (a + 1) (b + 1) ra rb (by omega) ha hb g hg
/-- A row's cells. -/
theorem Mr.at_ (h : Mr W w e L R) (i : Nat) {A : Option Addr} {n cap : Nat} {xs : List Value} (hi : R[i]? = some (.slice A n cap, xs)) (j : Nat) {v : Value} (hj : xs[j]? = some v) : ∃ g, A = some ⟨g, 0, none⟩ ∧ w.cell? ⟨g, j, none⟩ = some v := by
  have h1 := h.row i hi
  have hl : j < xs.length := (List.getElem?_eq_some_iff.1 hj).1
  rcases h1.2 with ⟨_, h0⟩ | ⟨g, c2, cur, e1, _⟩
  · omega
  · injection e1 with e1 e2 e3
    subst e1
    refine ⟨g, rfl, ?_⟩
    rw [← e2] at h1
    rw [World.ownsRow.cellAt h1 j (by omega), hj]
end
section
variable {P : Program} {W w : World} {e : TypeId} {L : List (Nat × List Value × TypeId)} {R : List (Value × List Value)}
/-- append(s, x...): a row grows. -/
theorem wp_append_row {o : Oper} {a : Act} {K : Act → World → Prop} {Q : Exit → Act → World → Prop} (s x : Operand) (t : TypeId)
    (ho : o.op = .call { callee := .builtin .append, args := #[s, x], argTypes := #[t, t] })
    (inf : TypeInfo) (z : Value) (ht : P.underlying t = some (.slice e)) (hi : P.info? e = some inf) (hz : inf.zero = some z) (hsize : inf.size = 1) (hby : inf.bytes ≤ 1024) (hzs : z.cells.size = 1)
    (M : Mr W w e L R) (i : Nat) (v : Value) (xs : List Value) (hr : R[i]? = some (v, xs)) (hs : a.eval s = v)
    (b off m c : Nat) (news : List Value) (hx : a.eval x = .slice (some ⟨b, off, none⟩) m c) (hl : news.length = m) (hnews : w.rangeAt b off news) (h1 : ∀ u ∈ news, u.oneCell' = true) (hm : 0 < m) (hn : xs.length + m ≤ 65536)
    (h : ∀ g cap w', Hid (Mr W w' e L (R.set i (.slice (some ⟨g, 0, none⟩) (xs.length + m) cap, xs ++ news))) → K (a.put o.dst (.slice (some ⟨g, 0, none⟩) (xs.length + m) cap)) w') : o.wp P a w K Q :=
  wp_append_lies w s x t ho W.heap.size e inf z 1 inf.bytes ht hi hz hsize rfl hzs (by omega) v xs.length xs hs (M.row i hr) ⟨b, off, none⟩ m c news hx (by omega) (fun j u hj => by rw [Addr.add_mid]; exact hnews j u hj) h1 hm (by unfold maxLen; omega)
    (Nat.le_trans (Nat.mul_le_mul hn hby) (by omega)) M.base w.heap.size rfl fun g cap w' h2 h3 h4 _ => h g cap w' (Lib.hid (M.grow i hr h2 h3 h4))
theorem wpList_append_row {ops : Array Oper} {rest : List Oper} {o : Oper} {a : Act} {Q : Exit → Act → World → Prop} (hg : Region.wanted o (yielded ops a.tmps) = true) (s x : Operand) (t : TypeId)
    (ho : o.op = .call { callee := .builtin .append, args := #[s, x], argTypes := #[t, t] })
    (inf : TypeInfo) (z : Value) (ht : P.underlying t = some (.slice e)) (hi : P.info? e = some inf) (hz : inf.zero = some z) (hsize : inf.size = 1) (hby : inf.bytes ≤ 1024) (hzs : z.cells.size = 1)
    (M : Mr W w e L R) (i : Nat) (v : Value) (xs : List Value) (hr : R[i]? = some (v, xs)) (hs : a.eval s = v)
    (b off m c : Nat) (news : List Value) (hx : a.eval x = .slice (some ⟨b, off, none⟩) m c) (hl : news.length = m) (hnews : w.rangeAt b off news) (h1 : ∀ u ∈ news, u.oneCell' = true) (hm : 0 < m) (hn : xs.length + m ≤ 65536)
    (h : ∀ g cap w', Hid (Mr W w' e L (R.set i (.slice (some ⟨g, 0, none⟩) (xs.length + m) cap, xs ++ news))) → wpList P ops Q rest (a.put o.dst (.slice (some ⟨g, 0, none⟩) (xs.length + m) cap)) w') : wpList P ops Q (o :: rest) a w :=
  BigFrame.wpList_want hg fun _ hK => wp_append_row s x t ho inf z ht hi hz hsize hby hzs M i v xs hr hs b off m c news hx hl hnews h1 hm hn fun g cap w' q => hK _ _ (h g cap w' q)
end
end Go.Proofs.Ytmckngkmlhemoaa
