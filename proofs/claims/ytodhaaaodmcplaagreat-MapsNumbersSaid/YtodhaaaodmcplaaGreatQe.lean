/- Layer 23 (maps): how the document's rows change when a snapshot comes or goes, in plain Lean. -/
import Derived.Test.YtodhaaaodmcplaaGreatQc
set_option linter.all false
namespace Go.Proofs.YtodhaaaodmcplaaGreat
open Go.RowKit Go.Maps Go.WideMaps
theorem ins_take {id : Int} {F : Mp1} : ∀ {L : List (Int × Mp1)} {j : Nat}, (∀ i x, i < j → L[i]? = some x → x.1 < id) → j ≤ L.length → (∀ x, L[j]? = some x → ¬ x.1 < id) → insS id F L = L.take j ++ (id, F) :: L.drop j
  | [], 0, _, _, _ => rfl
  | [], j + 1, _, h, _ => by simp at h
  | x :: L, 0, _, _, h => by
    unfold insS
    rw [if_neg (h x rfl)]
    rfl
  | x :: L, j + 1, h1, h2, h3 => by
    unfold insS
    rw [if_pos (h1 0 x (by omega) rfl), ins_take (j := j) (fun i y hi hy => h1 (i + 1) y (by omega) hy) (by simpa using h2) fun y hy => h3 y hy]
    rfl
theorem all_ins {st : MS} {id : Int} {F : Mp1} {m : Nat} (h1 : ∀ j, 1 ≤ j → j < m → idA st j < id) (hm : 1 ≤ m) (hm2 : m ≤ (allS st).length) (h3 : m < (allS st).length → ¬ idA st m < id) : allS { st with snaps := insS id F st.snaps } = (allS st).take m ++ (id, F) :: (allS st).drop m := by
  obtain ⟨j, rfl⟩ : ∃ j, m = j + 1 := ⟨m - 1, by omega⟩
  rw [all_len] at hm2 h3
  have e := ins_take (id := id) (F := F) (L := st.snaps) (j := j) (fun i x hi hx => by
    have := h1 (i + 1) (by omega) (by omega)
    rwa [idA_at (show (allS st)[i + 1]? = some x from hx)] at this) (by omega) (fun x hx => by
    have hlt := (List.getElem?_eq_some_iff.1 hx).1
    have := h3 (by omega)
    rwa [idA_at (show (allS st)[j + 1]? = some x from hx)] at this)
  show (0, st.now) :: insS id F st.snaps = _
  rw [e]
  rfl
theorem del_take {id : Int} : ∀ {L : List (Int × Mp1)} {i : Nat} {x : Int × Mp1}, L[i]? = some x → x.1 = id → (∀ j y, j ≠ i → L[j]? = some y → y.1 ≠ id) → (L.filter fun x => decide (x.1 ≠ id)) = L.take i ++ L.drop (i + 1)
  | [], i, x, h, _, _ => by simp at h
  | y :: L, 0, x, h, hx, hn => by
    have : y = x := by simpa using h
    subst this
    rw [List.filter_cons, if_neg (by simp [hx]), List.filter_eq_self.2 fun z hz => by
      obtain ⟨j, hj⟩ := List.mem_iff_getElem?.1 hz
      simpa using hn (j + 1) z (by omega) hj]
    rfl
  | y :: L, i + 1, x, h, hx, hn => by
    rw [List.filter_cons, if_pos (by simpa using hn 0 y (by omega) rfl), del_take (L := L) (i := i) h hx fun j z hj hz => hn (j + 1) z (by omega) hz]
    rfl
theorem all_del {st : MS} (hi : Inv st) {id : Int} {i : Nat} (h1 : 1 ≤ i) (h2 : i < (allS st).length) (he : idA st i = id) : allS (dropM st id) = (allS st).take i ++ (allS st).drop (i + 1) := by
  obtain ⟨j, rfl⟩ : ∃ j, i = j + 1 := ⟨i - 1, by omega⟩
  have hx := all_at h2
  rw [he] at hx
  have e := del_take (L := st.snaps) (i := j) (x := (id, mpA st (j + 1))) hx rfl fun k y hk hy => by
    have hlt : k + 1 < (allS st).length := (List.getElem?_eq_some_iff.1 (show (allS st)[k + 1]? = some y from hy)).1
    have e1 := idA_at (show (allS st)[k + 1]? = some y from hy)
    rw [← e1, ← he]
    rcases Nat.lt_trichotomy k j with h | h | h
    · have := idA_lt hi (show k + 1 < j + 1 by omega) h2; omega
    · exact absurd h hk
    · have := idA_lt hi (show j + 1 < k + 1 by omega) hlt; omega
  show (0, st.now) :: (st.snaps.filter fun x => decide (x.1 ≠ id)) = _
  rw [e]
  rfl
section
variable {st : MS} {V : Nat → Value} {v : Value} {id : Int} {m : Nat}
def insV (V : Nat → Value) (m : Nat) (v : Value) (i : Nat) : Value := if i < m then V i else if i = m then v else V (i - 1)
def delV (V : Nat → Value) (m : Nat) (i : Nat) : Value := if i < m then V i else V (i + 1)
theorem idA_of {s s2 : MS} {i j : Nat} (h : (allS s)[i]? = (allS s2)[j]?) : idA s i = idA s2 j := by unfold idA; rw [h]
theorem mpA_of {s s2 : MS} {i j : Nat} (h : (allS s)[i]? = (allS s2)[j]?) : mpA s i = mpA s2 j := by unfold mpA; rw [h]
theorem ins_lt {s : MS} {F : Mp1} (h : allS s = (allS st).take m ++ (id, F) :: (allS st).drop m) (hm : m ≤ (allS st).length) {i : Nat} (hi : i < m) : (allS s)[i]? = (allS st)[i]? := by
  rw [h, List.getElem?_append_left (by rw [List.length_take]; omega), List.getElem?_take, if_pos hi]
theorem ins_at {s : MS} {F : Mp1} (h : allS s = (allS st).take m ++ (id, F) :: (allS st).drop m) (hm : m ≤ (allS st).length) : (allS s)[m]? = some (id, F) := by
  rw [h, List.getElem?_append_right (by rw [List.length_take]; omega), List.length_take, Nat.min_eq_left hm, Nat.sub_self]
  rfl
theorem ins_gt {s : MS} {F : Mp1} (h : allS s = (allS st).take m ++ (id, F) :: (allS st).drop m) (hm : m ≤ (allS st).length) {i : Nat} (hi : m ≤ i) : (allS s)[i + 1]? = (allS st)[i]? := by
  rw [h, List.getElem?_append_right (by rw [List.length_take]; omega), List.length_take, Nat.min_eq_left hm, show i + 1 - m = (i - m) + 1 by omega, List.getElem?_cons_succ, List.getElem?_drop, show m + (i - m) = i by omega]
theorem row_ins {s : MS} {F : Mp1} (h : allS s = (allS st).take m ++ (id, F) :: (allS st).drop m) (hm : m ≤ (allS st).length) : flatS (rowC s (insV V m v)) ((allS st).length + 1) = flatS (rowC st V) m ++ [.int .i64 id, v] ++ flatS (fun i => rowC st V (m + i)) ((allS st).length - m) := by
  have e : (allS st).length + 1 = (m + 1) + ((allS st).length - m) := by omega
  rw [e, flatS_split, flatS]
  congr 1
  · congr 1
    · refine flatS_congr fun i hi => ?_
      unfold rowC insV
      rw [idA_of (ins_lt h hm hi), if_pos hi]
    · unfold rowC insV
      rw [idA_at (ins_at h hm), if_neg (by omega), if_pos rfl]
  · refine flatS_congr fun i hi => ?_
    unfold rowC insV
    rw [show m + 1 + i = (m + i) + 1 by omega, idA_of (ins_gt h hm (show m ≤ m + i by omega)), if_neg (by omega), if_neg (by omega)]
    rfl
theorem del_lt {s : MS} (h : allS s = (allS st).take m ++ (allS st).drop (m + 1)) (hm : m < (allS st).length) {i : Nat} (hi : i < m) : (allS s)[i]? = (allS st)[i]? := by
  rw [h, List.getElem?_append_left (by rw [List.length_take]; omega), List.getElem?_take, if_pos hi]
theorem del_ge {s : MS} (h : allS s = (allS st).take m ++ (allS st).drop (m + 1)) (hm : m < (allS st).length) {i : Nat} (hi : m ≤ i) : (allS s)[i]? = (allS st)[i + 1]? := by
  rw [h, List.getElem?_append_right (by rw [List.length_take]; omega), List.length_take, Nat.min_eq_left (by omega), List.getElem?_drop, show m + 1 + (i - m) = i + 1 by omega]
theorem row_del {s : MS} (h : allS s = (allS st).take m ++ (allS st).drop (m + 1)) (hm : m < (allS st).length) : flatS (rowC s (delV V m)) ((allS st).length - 1) = flatS (rowC st V) m ++ flatS (fun i => rowC st V (m + 1 + i)) ((allS st).length - (m + 1)) := by
  have e : (allS st).length - 1 = m + ((allS st).length - (m + 1)) := by omega
  rw [e, flatS_split]
  congr 1
  · refine flatS_congr fun i hi => ?_
    unfold rowC delV
    rw [idA_of (del_lt h hm hi), if_pos hi]
  · refine flatS_congr fun i hi => ?_
    unfold rowC delV
    rw [idA_of (del_ge h hm (show m ≤ m + i by omega)), if_neg (by omega), show m + i + 1 = m + 1 + i by omega]
/-- A snapshot more. -/
theorem Rm.ins {n0 : Nat} {w w1 w2 : World} {p g cap : Nat} {s : MS} {F : Mp1} {g2 cap2 : Nat} (hx : Rm n0 w p g cap st V) (hb : Below w.heap.size w w1) (hn0 : n0 ≤ w.heap.size) (h : allS s = (allS st).take m ++ (id, F) :: (allS st).drop m) (h1 : 1 ≤ m) (hm : m ≤ (allS st).length) (hs : s.n = st.n) (hi : Inv s)
    (hv : w1.ownsRow w.heap.size 33 34 v st.n (unitsC F st.n))
    (hr : w1.ownsRow w.heap.size 56 2 (.slice (some ⟨g2, 0, none⟩) ((allS st).length + 1) cap2) ((allS st).length + 1) (flatS (rowC st V) m ++ [.int .i64 id, v] ++ flatS (fun i => rowC st V (m + i)) ((allS st).length - m)))
    (hw : w2 = w1.setCell ⟨p, 0, none⟩ (.slice (some ⟨g2, 0, none⟩) ((allS st).length + 1) cap2)) : OutR n0 w w2 p s := by
  have H1 := hx.go hb
  have hk : Keeps (fun k => k = p) w1 w2 := by rw [hw]; exact Keeps.setCell (fun k => k = p) w1 ⟨p, 0, none⟩ _ rfl
  have hl : (allS s).length = (allS st).length + 1 := by
    rw [h, List.length_append, List.length_cons, List.length_take, List.length_drop]
    omega
  have hty : ∀ {base : Nat} {e : TypeId} {sz n : Nat} {u : Value} {xs : List Value}, e ≠ 59 → w1.ownsRow base e sz u n xs → w2.ownsRow base e sz u n xs := fun he ho => hk.row ho fun k hb2 e2 => by
    obtain ⟨_, cs, h5⟩ := own_cells ho hb2
    exact cells_ne h5 H1.cell he e2
  refine ⟨⟨g2, cap2, insV V m v, ?_, ?_, fun i hi2 => ?_, fun i hi1 hi2 b hb0 => ?_, hi, hx.lp⟩, (KR.fresh hb).trans (KR.of hk hx.lp H1.cell (.inl rfl))⟩
  · rw [hw, hl, heap_setCell_same w1 p 0 _ _ _ H1.cell]
    rfl
  · rw [hl, row_ins h hm]
    exact row_more (hty (by decide) hr) hn0
  · rw [hs]
    rw [hl] at hi2
    unfold insV
    rcases Nat.lt_trichotomy i m with h5 | h5 | h5
    · rw [if_pos h5, mpA_of (ins_lt h hm h5)]
      exact hty (by decide) (H1.sl i (by omega))
    · subst h5
      rw [if_neg (by omega), if_pos rfl, mpA_at (ins_at h hm)]
      exact row_more (hty (by decide) hv) hn0
    · obtain ⟨j, rfl⟩ : ∃ j, i = j + 1 := ⟨i - 1, by omega⟩
      rw [if_neg (by omega), if_neg (by omega), mpA_of (ins_gt h hm (show m ≤ j by omega)), Nat.add_sub_cancel]
      exact hty (by decide) (H1.sl j (by omega))
  · have e0 : insV V m v 0 = V 0 := if_pos h1
    rw [e0] at hb0
    rw [hl] at hi2
    unfold insV
    rcases Nat.lt_trichotomy i m with h5 | h5 | h5
    · rw [if_pos h5]
      exact hx.own i hi1 (by omega) b hb0
    · rw [if_neg (by omega), if_pos h5]
      intro e
      have h6 := (row_lt hv e).1
      have h7 := (row_lt (hx.sl 0 hx.pos) hb0).2
      omega
    · rw [if_neg (by omega), if_neg (by omega)]
      exact hx.own (i - 1) (by omega) (by omega) b hb0
/-- A snapshot less. -/
theorem Rm.del {n0 : Nat} {w w1 w2 : World} {p g cap : Nat} {s : MS} {g2 cap2 : Nat} (hx : Rm n0 w p g cap st V) (hb : Below w.heap.size w w1) (hn0 : n0 ≤ w.heap.size) (h : allS s = (allS st).take m ++ (allS st).drop (m + 1)) (h1 : 1 ≤ m) (hm : m < (allS st).length) (hs : s.n = st.n) (hi : Inv s)
    (hr : w1.ownsRow w.heap.size 56 2 (.slice (some ⟨g2, 0, none⟩) ((allS st).length - 1) cap2) ((allS st).length - 1) (flatS (rowC st V) m ++ flatS (fun i => rowC st V (m + 1 + i)) ((allS st).length - (m + 1))))
    (hw : w2 = w1.setCell ⟨p, 0, none⟩ (.slice (some ⟨g2, 0, none⟩) ((allS st).length - 1) cap2)) : OutR n0 w w2 p s := by
  have H1 := hx.go hb
  have hk : Keeps (fun k => k = p) w1 w2 := by rw [hw]; exact Keeps.setCell (fun k => k = p) w1 ⟨p, 0, none⟩ _ rfl
  have hl : (allS s).length = (allS st).length - 1 := by
    rw [h, List.length_append, List.length_take, List.length_drop]
    omega
  have hty : ∀ {base : Nat} {e : TypeId} {sz n : Nat} {u : Value} {xs : List Value}, e ≠ 59 → w1.ownsRow base e sz u n xs → w2.ownsRow base e sz u n xs := fun he ho => hk.row ho fun k hb2 e2 => by
    obtain ⟨_, cs, h5⟩ := own_cells ho hb2
    exact cells_ne h5 H1.cell he e2
  refine ⟨⟨g2, cap2, delV V m, ?_, ?_, fun i hi2 => ?_, fun i hi1 hi2 b hb0 => ?_, hi, hx.lp⟩, (KR.fresh hb).trans (KR.of hk hx.lp H1.cell (.inl rfl))⟩
  · rw [hw, hl, heap_setCell_same w1 p 0 _ _ _ H1.cell]
    rfl
  · rw [hl, row_del h hm]
    exact row_more (hty (by decide) hr) hn0
  · rw [hs]
    rw [hl] at hi2
    unfold delV
    by_cases h5 : i < m
    · rw [if_pos h5, mpA_of (del_lt h hm h5)]
      exact hty (by decide) (H1.sl i (by omega))
    · rw [if_neg h5, mpA_of (del_ge h hm (by omega))]
      exact hty (by decide) (H1.sl (i + 1) (by omega))
  · have e0 : delV V m 0 = V 0 := if_pos h1
    rw [e0] at hb0
    rw [hl] at hi2
    unfold delV
    by_cases h5 : i < m
    · rw [if_pos h5]
      exact hx.own i hi1 (by omega) b hb0
    · rw [if_neg h5]
      exact hx.own (i + 1) (by omega) (by omega) b hb0
/-- The current map is another row. -/
theorem Rm.back {n0 : Nat} {w w1 w2 : World} {p g cap : Nat} {F : Mp1} (hx : Rm n0 w p g cap st V) (hb : Below w.heap.size w w1) (hn0 : n0 ≤ w.heap.size) (hv : w1.ownsRow w.heap.size 33 34 v st.n (unitsC F st.n))
    (hw : w2 = w1.setCell ⟨g, 1, none⟩ v) : OutR n0 w w2 p { st with now := F } := by
  have H1 := hx.go hb
  have hgl := row_lt hx.row (k := g) rfl
  have hk : Keeps (fun k => k = g) w1 w2 := by rw [hw]; exact Keeps.setCell (fun k => k = g) w1 ⟨g, 1, none⟩ _ rfl
  obtain ⟨_, gs, hgc⟩ := own_cells H1.row (k := g) rfl
  have hrow := (H1.row.stored 1 v).1
  rw [← hw] at hrow
  have hset : (flatS (rowC st V) (allS st).length).set 1 v = flatS (rowC { st with now := F } (fun i => if i = 0 then v else V i)) (allS st).length := by
    have := flatS_set (F := rowC st V) (G := rowC { st with now := F } (fun i => if i = 0 then v else V i)) (s := 2) (i := 0) (q := 1) (u := v) (wideR st V) rfl (by omega) (fun j hj => by
      obtain ⟨j, rfl⟩ : ∃ k, j = k + 1 := ⟨j - 1, by omega⟩
      show [_, if j + 1 = 0 then v else V (j + 1)] = _
      rw [if_neg (by omega)]
      rfl) hx.pos
    simpa using this
  rw [hset] at hrow
  have hty : ∀ {base : Nat} {e : TypeId} {sz n : Nat} {u : Value} {xs : List Value}, e ≠ 56 → w1.ownsRow base e sz u n xs → w2.ownsRow base e sz u n xs := fun he ho => hk.row ho fun k hb2 e2 => by
    obtain ⟨_, cs, h5⟩ := own_cells ho hb2
    exact cells_ne h5 hgc he e2
  refine ⟨⟨g, cap, fun i => if i = 0 then v else V i, hk.heap H1.cell fun e => cells_ne H1.cell hgc (by decide) e, hrow, fun i hi2 => ?_, fun i hi1 hi2 b hb0 => ?_, ⟨hx.inv.n, hx.inv.rise, hx.inv.ids, hx.inv.len⟩, hx.lp⟩, (KR.fresh hb).trans (KR.of hk hgl.1 hgc (.inr (.inr rfl)))⟩
  · rcases i with _ | i
    · exact row_more (hty (by decide) hv) hn0
    · exact hty (by decide) (H1.sl (i + 1) hi2)
  · have e0 : v.ownBlock = some b := hb0
    obtain ⟨j, rfl⟩ : ∃ j, i = j + 1 := ⟨i - 1, by omega⟩
    intro e
    have h6 := (row_lt hv e0).1
    have h7 := (row_lt (hx.sl (j + 1) hi2) (show (V (j + 1)).ownBlock = some b from e)).2
    omega
end
theorem own_empty {w : World} {base g size : Nat} {e : TypeId} (h : w.heap[g]? = some (.cells #[] e (0, 0))) (hb : base ≤ g) : w.ownsRow base e size (.slice (some ⟨g, 0, none⟩) 0 0) 0 [] :=
  ⟨by simp, .inr ⟨g, 0, #[], rfl, hb, h, Nat.le_refl _, Nat.zero_le _, by simp, by simp⟩⟩
theorem infoOneR : (Tryz.prog.info? 56).map (fun i => (i.zero, i.size, i.bytes)) = some (some (.agg #[.int .i64 0, .slice none 0 0]), 2, 32) := by kernel_rfl
end Go.Proofs.YtodhaaaodmcplaaGreat
set_option linter.all false
namespace Go.Proofs.YtodhaaaodmcplaaGreat
open Go.RowKit Go.Maps Go.WideMaps
theorem own_news {w : World} {base g n c s : Nat} {e : TypeId} {xs : List Value} (h : w.ownsRow base e s (.slice (some ⟨g, 0, none⟩) n c) n xs) {m : Nat} {ys : List Value} (hm : m * s ≤ n * s) (hl : ys.length = m * s) (hy : ∀ (j : Nat) (u : Value), ys[j]? = some u → xs[j]? = some u) : ∀ ad, (some ⟨g, 0, none⟩ : Option Addr) = some ad → ∀ (j : Nat) (u : Value), ys[j]? = some u → w.cell? (ad.add j) = some u := by
  intro ad e j u hj
  injection e with e
  subst e
  rw [Go.WideShapes.add_plain, Nat.zero_add]
  have hlt := (List.getElem?_eq_some_iff.1 hj).1
  rw [h.cellAt j (by omega)]
  exact hy j u hj
/-- What find tells. -/
theorem find_two {n0 : Nat} {w : World} {p g cap : Nat} {st : MS} {V : Nat → Value} (h : Rm n0 w p g cap st V) (id : Int) :
    (findS id st.snaps = none ∧ ∃ k : Int, k < 1 ∧ Calls Tryz.prog 35 #[.pointer (some ⟨p, 0, none⟩), .int .i64 id] w fun e w' => e = .returned (.int .i64 k) ∧ w = w') ∨
    (∃ (i : Nat) (F : Mp1), 1 ≤ i ∧ i < (allS st).length ∧ idA st i = id ∧ mpA st i = F ∧ findS id st.snaps = some F ∧ Calls Tryz.prog 35 #[.pointer (some ⟨p, 0, none⟩), .int .i64 id] w fun e w' => e = .returned (.int .i64 i) ∧ w = w') := by
  by_cases h0 : id = 0
  · left
    refine ⟨find_none.2 fun x hx => ?_, 0, by omega, find_yes h id 0 h.pos (by rw [h0]; rfl) fun j hj => absurd hj (by omega)⟩
    have := h.inv.ids x hx
    omega
  · have hof : ofM st id = findS id st.snaps := if_neg h0
    rcases hf : findS id st.snaps with _ | F
    · left
      exact ⟨rfl, -1, by omega, find_no h id (hof.trans hf)⟩
    · right
      obtain ⟨i, hi, he, hF, hj⟩ := of_pos h.inv (hof.trans hf)
      refine ⟨i, F, ?_, hi, he, hF, rfl, find_yes h id i hi he hj⟩
      rcases i with _ | i
      · exact absurd (he.symm.trans (idA_zero st)) h0
      · omega
theorem headR {m n c : Nat} {g : Nat} (hm : m ≤ n) (hc : n ≤ c) (w : World) : (Instr.sliceAt 57 (.slice (some ⟨g, 0, none⟩) n c) none (some (.int .i64 m)) none).run Tryz.prog w = .ok (.slice (some ⟨g, 0, none⟩) m c) w :=
  slice_head Tryz.underlying57 (s := 2) (by kernel_rfl) (fun ad e => by injection e with e; rw [← e]) n c m hm hc w
theorem tailR {m n c : Nat} {g : Nat} (hm : m ≤ n) (w : World) : (Instr.sliceAt 57 (.slice (some ⟨g, 0, none⟩) n c) (some (.int .i64 m)) none none).run Tryz.prog w = .ok (.slice (if c = m then some ⟨g, 0, none⟩ else (some ⟨g, 0, none⟩ : Option Addr).map (·.add (m * 2))) (n - m) (c - m)) w :=
  slice_tail Tryz.underlying57 (s := 2) (by kernel_rfl) (some ⟨g, 0, none⟩) n c m hm w
theorem row_ones {st : MS} {V : Nat → Value} (hV : ∀ i, (V i).oneCell' = true) (n k : Nat) : ∀ v ∈ flatS (fun i => rowC st V (k + i)) n, v.oneCell' = true := flatS_one fun j _ u hu => by
  unfold rowC at hu
  simp at hu
  rcases hu with rfl | rfl
  · rfl
  · exact hV _
theorem Rm.cap_le {n0 : Nat} {w : World} {p g cap : Nat} {st : MS} {V : Nat → Value} (h : Rm n0 w p g cap st V) : (allS st).length ≤ cap := by
  rcases h.row.2 with ⟨h1, _⟩ | ⟨g2, cap2, cur, h1, _, _, h4, _⟩
  · simp at h1
  · injection h1 with _ _ h9
    rw [h9]; exact h4
theorem Rm.sarr {n0 : Nat} {w : World} {p g cap : Nat} {st : MS} {V : Nat → Value} (h : Rm n0 w p g cap st V) : SArr w w.heap.size (some ⟨g, 0, none⟩) (allS st).length 2 (rowC st V) := by
  obtain ⟨A, c, e, ha, _⟩ := srow_arr (wideR st V) h.row
  injection e with e
  subst e
  exact ha
set_option maxRecDepth 100000 in
set_option maxHeartbeats 4000000 in
theorem rback_p {n0 : Nat} {w : World} {p : Nat} {st : MS} (h : Rs n0 w p st) (hn0 : n0 ≤ w.heap.size) (id : Int) : Calls Tryz.prog 30 #[.pointer (some ⟨p, 0, none⟩), .int .i64 id] w fun e w' => e = .returned (.int .i64 (dropE st id)) ∧ OutR n0 w w' p (backM st id) := by
  have HS := Lib.hid h
  have HN0 := Lib.hid hn0
  obtain ⟨i0, hi, hz0, hz1, hz2⟩ := infoParts infoSlP
  have HI := Lib.hid (And.intro hi (And.intro hz0 (And.intro hz1 hz2)))
  obtain ⟨g, cap, V, hx⟩ := h
  have H := Lib.hid hx
  clear hi hz0 hz1 hz2 hn0
  rcases find_two hx id with ⟨hf, k, hk, hc⟩ | ⟨i, F, h1, hi, he, hF, hf, hc⟩
  · have HE := Lib.hid (And.intro (drop_none hf).1 (back_none hf))
    have HC := Lib.hid hc
    have d1 : decide (k < 1) = true := by simpa using hk
    clear hx hf hk hc
    go_enter Tryz.func30, Tryz.ntmps30
    go_wp2_with fail
    refine HC.out.mono ?_
    rintro e _ ⟨rfl, rfl⟩
    go_wp2_with fail
    go_ret
    exact ⟨ret_int HE.out.1.symm, by rw [HE.out.2]; exact outRB (Below.refl _ _) HS.out⟩
  · have HE := Lib.hid (And.intro (drop_some hf) (back_some hf))
    have HC := Lib.hid hc
    obtain ⟨b, c, hV, _, hb, _⟩ := hx.opened hi
    have c0 := hx.at0
    have cv := hx.sl_cell hi
    have ho := hx.sl i hi
    rw [hF] at ho
    rw [hV] at cv ho
    have hn := hx.inv.n
    have hgl := row_lt hx.row (k := g) rfl
    have c1 : w.cell? ⟨g, 1, none⟩ = some (V 0) := by have h9 := hx.sl_cell hx.pos; simpa using h9
    obtain ⟨V0, hV0⟩ : ∃ V0, V0 = V 0 := ⟨_, rfl⟩
    rw [← hV0] at c1
    obtain ⟨_, gs, hgc⟩ := own_cells hx.row (k := g) rfl
    obtain ⟨K, hK⟩ : ∃ K, K = (allS st).length := ⟨_, rfl⟩
    rw [← hK] at c0 hi
    obtain ⟨n, hn1⟩ : ∃ n, n = st.n := ⟨_, rfl⟩
    rw [← hn1] at cv ho hn
    have HN1 := Lib.hid hn1
    have hK9 : K ≤ 9 := by have := hx.inv.len; rw [hK, all_len]; omega
    have d1 : decide ((i : Int) < 1) = false := by simp; omega
    have j1 : (0 : Int) ≤ i := by omega
    have j2 : (i : Int) < K := by omega
    have j3 : (0 : Int) < K := by omega
    have j4 : 0 < K := by omega
    have HS0 : Hid (∀ W, Below w.heap.size w W → W.cell? ⟨p, 0, none⟩ = some (.slice (some ⟨g, 0, none⟩) K cap) ∧ W.cell? ⟨g, i * 2 + 1, none⟩ = some (.slice (some ⟨b, 0, none⟩) n c)) := Lib.hid fun W hb2 => ⟨(hb2.cell (p := ⟨p, 0, none⟩) hx.lt).trans c0, (hb2.cell (p := ⟨g, i * 2 + 1, none⟩) hgl.2).trans cv⟩
    have HG : Hid (∀ W, Below w.heap.size w W → W.cell? ⟨g, 1, none⟩ = some V0 ∧ W.frozen? ⟨g, 1, none⟩ = false) := Lib.hid fun W hb2 => ⟨(hb2.cell (p := ⟨g, 1, none⟩) hgl.2).trans c1, frozen_of_row W g _ _ _ ((hb2.block g hgl.2).trans hgc)⟩
    have HO : Hid (∀ W, Below w.heap.size w W → W.ownsRow n0 33 34 (.slice (some ⟨b, 0, none⟩) n c) n (unitsC F n)) := Lib.hid fun W hb2 => (Keeps.fresh (S := fun _ => False) hb2).row ho fun _ _ h => h
    have HN5 : Hid (1 ≤ n ∧ n ≤ 512) := Lib.hid hn
    have HPG : Hid (p ≠ g) := Lib.hid fun e => cells_ne hx.cell hgc (by decide) e
    have HI1 := Lib.hid h1
    clear hx hf hc hV hb cv ho hn hgl c0 c1 hgc hK he hF hV0 hn1
    go_enter Tryz.func30, Tryz.ntmps30
    go_wp2_with fail
    refine HC.out.mono ?_
    rintro e _ ⟨rfl, rfl⟩
    go_wp2_with fail
    obtain ⟨wq, hwq⟩ : ∃ z, z = w.drew := ⟨_, rfl⟩
    have BQ : Hid (Below w.heap.size w wq) := Lib.hid (by rw [hwq]; exact below_drewN (Below.refl _ _) 1)
    refine wp_region_held_drew (S := (fun w' : World => w'.cell? ⟨p, 0, none⟩ = some (.slice (some ⟨g, 0, none⟩) K cap) ∧ w'.cell? ⟨g, i * 2 + 1, none⟩ = some (.slice (some ⟨b, 0, none⟩) n c))) follows (HS0.out _ (below_drewN (Below.refl _ _) 1)) (fun hHeld => ?_)
    rw [← hwq] at hHeld ⊢
    obtain ⟨g0, hg0⟩ : ∃ z, z = wq.heap.size := ⟨_, rfl⟩
    obtain ⟨w6, hw6⟩ : ∃ z, z = wq.alloc (.cells #[] 33) := ⟨_, rfl⟩
    have B6 : Hid (Below w.heap.size w w6) := Lib.hid (by rw [hw6]; exact BQ.out.alloc BQ.out.size _)
    have HG0 : Hid (g0 = wq.heap.size) := Lib.hid hg0
    have HW6 : Hid (wq.alloc (.cells #[] 33) = w6) := Lib.hid hw6.symm
    have OW0 := Lib.hid (own_empty (w := w6) (base := w.heap.size) (size := 34) (e := 33) (by rw [hw6]; exact heap_new_at _ hg0) (by rw [hg0]; exact BQ.out.size))
    have NW6 := Lib.hid (own_news (HO.out w6 B6.out) (Nat.le_refl _) (unitsC_len F n) fun _ _ h => h)
    clear hwq hg0 hw6
    refine wpAnyH_take (i := 0) (v := ?_) (by simp only [List.getElem?_toArray, List.getElem?_cons_zero]; rfl) (by kernel_rfl) (by kernel_rfl) (by kernel_rfl) (by intro _ _ _ h; exact h) (Or.inl ⟨by rfl, ?_⟩) hHeld ?_
    rotate_left
    · (intro w hSw; (try dsimp only at hSw); go_simp; try with_reducible rfl)
    try simp only [Act.put, List.setIfInBounds_toArray, List.set_cons_zero, List.set_cons_succ]
    refine wpAnyH_take (i := 1) (v := ?_) (by simp only [List.getElem?_toArray, List.getElem?_cons_zero, List.getElem?_cons_succ]; rfl) (by kernel_rfl) (by kernel_rfl) (by kernel_rfl) (by intro _ _ _ h; exact h) (Or.inl ⟨by rfl, ?_⟩) hHeld ?_
    rotate_left
    · (intro w hSw; (try dsimp only at hSw); go_simp; try with_reducible rfl)
    try simp only [Act.put, List.setIfInBounds_toArray, List.set_cons_zero, List.set_cons_succ]
    refine wpAnyH_take (i := 2) (v := ?_) (by simp only [List.getElem?_toArray, List.getElem?_cons_zero, List.getElem?_cons_succ]; rfl) (by kernel_rfl) (by kernel_rfl) (by kernel_rfl) (by intro _ _ _ h; exact h) (Or.inl ⟨by rfl, ?_⟩) hHeld ?_
    rotate_left
    · (intro w hSw; (try dsimp only at hSw); go_simp; try with_reducible rfl)
    try simp only [Act.put, List.setIfInBounds_toArray, List.set_cons_zero, List.set_cons_succ]
    refine wpAnyH_take (i := 3) (v := ?_) (by simp only [List.getElem?_toArray, List.getElem?_cons_zero, List.getElem?_cons_succ]; rfl) (by kernel_rfl) (by kernel_rfl) (by kernel_rfl) (by intro _ _ _ h; exact h) (Or.inl ⟨by rfl, ?_⟩) hHeld ?_
    rotate_left
    · (intro w hSw; (try dsimp only at hSw); go_simp; try with_reducible rfl)
    try simp only [Act.put, List.setIfInBounds_toArray, List.set_cons_zero, List.set_cons_succ]
    refine wpAnyH_take (i := 5) (v := ?_) (by simp only [List.getElem?_toArray, List.getElem?_cons_zero, List.getElem?_cons_succ]; rfl) (by kernel_rfl) (by kernel_rfl) (by kernel_rfl) (by intro _ _ _ h; exact h) (Or.inl ⟨by rfl, ?_⟩) hHeld ?_
    rotate_left
    · (intro w hSw; (try dsimp only at hSw); go_simp; try with_reducible rfl)
    try simp only [Act.put, List.setIfInBounds_toArray, List.set_cons_zero, List.set_cons_succ]
    refine wpAnyH_take (i := 6) (v := ?_) (by simp only [List.getElem?_toArray, List.getElem?_cons_zero, List.getElem?_cons_succ]; rfl) (by kernel_rfl) (by kernel_rfl) (by kernel_rfl) (by intro _ _ _ h; exact h) (Or.inl ⟨by rfl, ?_⟩) hHeld ?_
    rotate_left
    · (intro w hSw; (try dsimp only at hSw); go_simp; try with_reducible rfl)
    try simp only [Act.put, List.setIfInBounds_toArray, List.set_cons_zero, List.set_cons_succ]
    refine wpAnyH_take (i := 7) (v := ?_) (by simp only [List.getElem?_toArray, List.getElem?_cons_zero, List.getElem?_cons_succ]; rfl) (by kernel_rfl) (by kernel_rfl) (by kernel_rfl) (by intro _ _ _ h; exact h) (Or.inl ⟨by rfl, ?_⟩) hHeld ?_
    rotate_left
    · (intro w hSw; (try dsimp only at hSw); go_simp; try with_reducible rfl)
    try simp only [Act.put, List.setIfInBounds_toArray, List.set_cons_zero, List.set_cons_succ]
    refine wpAnyH_take (i := 8) (v := ?_) (by simp only [List.getElem?_toArray, List.getElem?_cons_zero, List.getElem?_cons_succ]; rfl) (by kernel_rfl) (by kernel_rfl) (by kernel_rfl) (by intro _ _ _ h; exact h) (Or.inl ⟨by rfl, ?_⟩) hHeld ?_
    rotate_left
    · (intro w hSw; (try dsimp only at hSw); go_simp; try with_reducible rfl)
    try simp only [Act.put, List.setIfInBounds_toArray, List.set_cons_zero, List.set_cons_succ]
    refine wpAnyH_take (i := 9) (v := ?_) (by simp only [List.getElem?_toArray, List.getElem?_cons_zero, List.getElem?_cons_succ]; rfl) (by kernel_rfl) (by kernel_rfl) (by kernel_rfl) (by intro _ _ _ h; exact h) (Or.inl ⟨by rfl, ?_⟩) hHeld ?_
    rotate_left
    · (intro w hSw; (try dsimp only at hSw); go_simp; try with_reducible rfl)
    try simp only [Act.put, List.setIfInBounds_toArray, List.set_cons_zero, List.set_cons_succ]
    refine wpAnyH_take (i := 10) (v := ?_) (by simp only [List.getElem?_toArray, List.getElem?_cons_zero, List.getElem?_cons_succ]; rfl) (by kernel_rfl) (by kernel_rfl) (by kernel_rfl) (by intro _ _ _ h; exact h) (Or.inl ⟨by rfl, ?_⟩) hHeld ?_
    rotate_left
    · (intro w hSw; (try dsimp only at hSw); go_simp; try with_reducible rfl)
    try simp only [Act.put, List.setIfInBounds_toArray, List.set_cons_zero, List.set_cons_succ]
    refine wpAnyH_take (i := 11) (v := ?_) (by simp only [List.getElem?_toArray, List.getElem?_cons_zero, List.getElem?_cons_succ]; rfl) (by kernel_rfl) (by kernel_rfl) (by kernel_rfl) (by intro _ _ _ h; exact h) (Or.inl ⟨by rfl, ?_⟩) hHeld ?_
    rotate_left
    · (intro w hSw; (try dsimp only at hSw); go_simp; try with_reducible rfl)
    try simp only [Act.put, List.setIfInBounds_toArray, List.set_cons_zero, List.set_cons_succ]
    refine wpAnyH_take (i := 12) (v := ?_) (by simp only [List.getElem?_toArray, List.getElem?_cons_zero, List.getElem?_cons_succ]; rfl) (by kernel_rfl) (by kernel_rfl) (by kernel_rfl) (by intro _ _ _ h; exact h) (Or.inl ⟨by rfl, ?_⟩) hHeld ?_
    rotate_left
    · (intro w hSw; (try dsimp only at hSw); go_simp; try with_reducible rfl)
    try simp only [Act.put, List.setIfInBounds_toArray, List.set_cons_zero, List.set_cons_succ]
    refine wpAnyH_ready (rs := [4]) (by kernel_rfl) (by simp) ?_
    refine AllReadyH.cons (by simp only [List.getElem?_toArray, List.getElem?_cons_zero, List.getElem?_cons_succ]; rfl) (fun K hK => ?_) AllReadyH.nil
    rw [if_pos (by rfl)]
    go_simp
    try rw [HW6.out, ← HG0.out]
    refine hK.out _ _ (HS0.out _ B6.out) (fun hHeld => ?_)
    clear hK K
    try simp only [Act.put, List.setIfInBounds_toArray, List.set_cons_zero, List.set_cons_succ]
    refine wpAnyH_ready (rs := [13]) (by kernel_rfl) (by simp) ?_
    refine AllReadyH.cons (by simp only [List.getElem?_toArray, List.getElem?_cons_zero, List.getElem?_cons_succ]; rfl) (fun K hK => ?_) AllReadyH.nil
    rw [if_pos (by rfl)]
    refine wp_append_any (.tmp 15) (.tmp 23) 54 rfl w.heap.size 33 i0 (.agg zS.toArray) 34 48 Tryz.underlying54 HI.out.1 HI.out.2.1 HI.out.2.2.1 HI.out.2.2.2 rfl (by decide) (.slice (some ⟨g0, 0, none⟩) 0 0) 0 [] rfl OW0.out (some ⟨b, 0, none⟩) n c (unitsC F n) rfl (fun h => by cases h) (unitsC_len F n) NW6.out (unitsC_one F n) (by have := HN5.out; unfold maxLen; omega) (by have := HN5.out; omega) B6.out.size ?_
    intro v7 w7 ho7 hg7
    rw [Nat.zero_add, List.nil_append] at ho7
    obtain ⟨A7, c7, rfl⟩ := row_shapeS ho7
    have O7 := Lib.hid ho7
    have B7 : Hid (Below w.heap.size w w7) := Lib.hid (B6.out.grown hg7 B6.out.size (fun k e => by have e2 : g0 = k := (by simpa [Value.ownBlock] using e); rw [← e2, HG0.out]; exact BQ.out.size))
    have q1 := (HG.out w7 B7.out).1
    have q2 := (HG.out w7 B7.out).2
    clear ho7 hg7
    refine hK.out _ _ (HS0.out _ B7.out) (fun hHeld => ?_)
    clear hK K
    try simp only [Act.put, List.setIfInBounds_toArray, List.set_cons_zero, List.set_cons_succ]
    refine wpAnyH_take (i := 14) (v := ?_) (by simp only [List.getElem?_toArray, List.getElem?_cons_zero, List.getElem?_cons_succ]; rfl) (by kernel_rfl) (by kernel_rfl) (by kernel_rfl) (by intro _ _ _ h; exact h) (Or.inl ⟨by rfl, ?_⟩) hHeld ?_
    rotate_left
    · (intro w hSw; (try dsimp only at hSw); go_simp; try with_reducible rfl)
    try simp only [Act.put, List.setIfInBounds_toArray, List.set_cons_zero, List.set_cons_succ]
    refine wpAnyH_take (i := 15) (v := ?_) (by simp only [List.getElem?_toArray, List.getElem?_cons_zero, List.getElem?_cons_succ]; rfl) (by kernel_rfl) (by kernel_rfl) (by kernel_rfl) (by intro _ _ _ h; exact h) (Or.inl ⟨by rfl, ?_⟩) hHeld ?_
    rotate_left
    · (intro w hSw; (try dsimp only at hSw); go_simp; try with_reducible rfl)
    try simp only [Act.put, List.setIfInBounds_toArray, List.set_cons_zero, List.set_cons_succ]
    refine wpAnyH_ready (rs := [16]) (by kernel_rfl) (by simp) ?_
    refine AllReadyH.cons (by simp only [List.getElem?_toArray, List.getElem?_cons_zero, List.getElem?_cons_succ]; rfl) (fun K hK => ?_) AllReadyH.nil
    rw [if_pos (by rfl)]
    go_simp
    refine hK.out _ _ ?_ (fun hHeld => ?_)
    rotate_left
    · clear hK K
      try simp only [Act.put, List.setIfInBounds_toArray, List.set_cons_zero, List.set_cons_succ]
      refine wpAnyH_done (by kernel_rfl) ?_ _
      clear hHeld
      obtain ⟨w8, hw8⟩ : ∃ w8, w8 = w7.setCell ⟨g, 1, none⟩ (.slice A7 n c7) := ⟨_, rfl⟩
      have HR := Lib.hid (H.out.back (F := F) B7.out HN0.out (by rw [← HN1.out]; exact O7.out) hw8)
      rw [← hw8]
      clear hw8 q1 q2
      go_wp2_with fail
      go_ret
      exact ⟨ret_int HE.out.1.symm, by rw [HE.out.2]; exact HR.out⟩
    · obtain ⟨s1, s2⟩ := HS0.out w7 B7.out
      refine ⟨?_, ?_⟩
      · exact (World.cell?_setCell_other w7 _ _ _ (by intro e; injection e with e1; exact HPG.out e1.symm)).trans s1
      · exact (World.cell?_setCell_other w7 _ _ _ (by intro e; injection e with _ e2; have := HI1.out; omega)).trans s2

set_option maxRecDepth 100000 in
set_option maxHeartbeats 8000000 in
theorem rdrop_p {n0 : Nat} {w : World} {p : Nat} {st : MS} (h : Rs n0 w p st) (hn0 : n0 ≤ w.heap.size) (id : Int) : Calls Tryz.prog 29 #[.pointer (some ⟨p, 0, none⟩), .int .i64 id] w fun e w' => e = .returned (.int .i64 (dropE st id)) ∧ OutR n0 w w' p (dropM st id) := by
  have HS := Lib.hid h
  have HN0 := Lib.hid hn0
  obtain ⟨i0, hi, hz0, hz1, hz2⟩ := infoParts infoOneR
  have HI := Lib.hid (And.intro hi (And.intro hz0 (And.intro hz1 hz2)))
  obtain ⟨g, cap, V, hx⟩ := h
  have H := Lib.hid hx
  clear hi hz0 hz1 hz2 hn0
  rcases find_two hx id with ⟨hf, k, hk, hc⟩ | ⟨m, F, h1, hi, he, hF, hf, hc⟩
  · have HE := Lib.hid (drop_none hf)
    have HC := Lib.hid hc
    have d1 : decide (k < 1) = true := by simpa using hk
    clear hx hf hk hc
    go_enter Tryz.func29, Tryz.ntmps29
    go_wp2_with fail
    refine HC.out.mono ?_
    rintro e _ ⟨rfl, rfl⟩
    go_wp2_with fail
    go_ret
    exact ⟨ret_int HE.out.1.symm, by rw [HE.out.2]; exact outRB (Below.refl _ _) HS.out⟩
  · have HE := Lib.hid (drop_some hf)
    have HC := Lib.hid hc
    have HDEL := Lib.hid (all_del hx.inv h1 hi he)
    have HINV := Lib.hid (inv_drop hx.inv id)
    have HI1 := Lib.hid h1
    have HIL := Lib.hid hi
    obtain ⟨T, hT⟩ : ∃ T, T = (allS st).length := ⟨_, rfl⟩
    have HKL := Lib.hid hT
    have HV1 : Hid (∀ i, i < T → (V i).oneCell' = true) := Lib.hid fun i hi2 => by
      obtain ⟨b, c, e, _⟩ := hx.opened (i := i) (by omega)
      rw [e]; rfl
    have HCAP : Hid (T ≤ cap) := Lib.hid (by rw [hT]; exact hx.cap_le)
    have hK9 : T ≤ 9 := by have := hx.inv.len; rw [hT, all_len]; omega
    rw [← hT] at hi
    have hmk : m ≤ T := by omega
    have hmk1 : m + 1 ≤ T := by omega
    have HSA : Hid (∀ W, Below w.heap.size w W → SArr W w.heap.size (some ⟨g, 0, none⟩) T 2 (rowC st V)) := Lib.hid fun W hb => by rw [hT]; exact hx.sarr.below hb (Nat.le_refl _)
    have HP0 : Hid (∀ W, Below w.heap.size w W → W.cell? ⟨p, 0, none⟩ = some (.slice (some ⟨g, 0, none⟩) T cap) ∧ W.frozen? ⟨p, 0, none⟩ = false) := Lib.hid fun W hb => ⟨by rw [hT]; exact (hx.go hb).at0, frozen_of_row W p _ _ _ (hx.go hb).cell⟩
    obtain ⟨A8, hA8⟩ : ∃ A8, A8 = if cap = m + 1 then (some ⟨g, 0, none⟩ : Option Addr) else (some ⟨g, 0, none⟩ : Option Addr).map (·.add ((m + 1) * 2)) := ⟨_, rfl⟩
    have hrest : ∀ W, Below w.heap.size w W → SArr W w.heap.size A8 (T - (m + 1)) 2 (fun i => rowC st V (m + 1 + i)) ∧ (A8 = none → T - (m + 1) = 0 ∧ cap - (m + 1) = 0) := fun W hb => by rw [hA8]; exact sarr_rest (HSA.out W hb) (fun h => by cases h) HCAP.out hmk1
    have HN8 := Lib.hid (hrest w (Below.refl _ _)).2
    have HS8 : Hid (∀ W, Below w.heap.size w W → SArr W w.heap.size A8 (T - (m + 1)) 2 (fun i => rowC st V (m + 1 + i))) := Lib.hid fun W hb => (hrest W hb).1
    have HTL : Hid (∀ W, (Instr.sliceAt 57 (.slice (some ⟨g, 0, none⟩) T cap) (some (.int .i64 ((m + 1 : Nat) : Int))) none none).run Tryz.prog W = .ok (.slice A8 (T - (m + 1)) (cap - (m + 1))) W) := Lib.hid fun W => by rw [hA8]; exact tailR hmk1 W
    have HHD : Hid (∀ W, (Instr.sliceAt 57 (.slice (some ⟨g, 0, none⟩) T cap) none (some (.int .i64 m)) none).run Tryz.prog W = .ok (.slice (some ⟨g, 0, none⟩) m cap) W) := Lib.hid fun W => headR hmk HCAP.out W
    have HFL : Hid ((flatS (rowC st V) m).length = m * 2) := Lib.hid (flatS_len (wideR st V) m)
    have HFL8 : Hid ((flatS (fun i => rowC st V (m + 1 + i)) (T - (m + 1))).length = (T - (m + 1)) * 2) := Lib.hid (flatS_len (F := fun i => rowC st V (m + 1 + i)) (fun i => rfl) _)
    have HO1 : Hid (∀ u ∈ flatS (rowC st V) m, u.oneCell' = true) := Lib.hid (flatS_one fun j hj u hu => by
      unfold rowC at hu
      simp at hu
      rcases hu with rfl | rfl
      · rfl
      · exact HV1.out j (by omega))
    have HO8 : Hid (∀ u ∈ flatS (fun i => rowC st V (m + 1 + i)) (T - (m + 1)), u.oneCell' = true) := Lib.hid (flatS_one fun j hj u hu => by
      unfold rowC at hu
      simp at hu
      rcases hu with rfl | rfl
      · rfl
      · exact HV1.out _ (by omega))
    have hw5 : IntKind.i64.wrap ((m : Int) + 1) = ((m + 1 : Nat) : Int) := by rw [IntWalk.i64_in _ (by omega)]; push_cast; rfl
    have d1 : decide ((m : Int) < 1) = false := by simp; omega
    clear hx hf hc hT he hF hA8 hrest
    go_enter Tryz.func29, Tryz.ntmps29
    go_wp2_with fail
    refine HC.out.mono ?_
    rintro e _ ⟨rfl, rfl⟩
    go_wp2_with fail
    refine wp_region_held_drew (S := fun _ : World => True) follows trivial (fun hHeld => ?_)
    obtain ⟨wq, hwq⟩ : ∃ z, z = w.drew := ⟨_, rfl⟩
    have BQ : Hid (Below w.heap.size w wq) := Lib.hid (by rw [hwq]; exact below_drewN (Below.refl _ _) 1)
    rw [← hwq]
    obtain ⟨g0, hg0⟩ : ∃ z, z = wq.heap.size := ⟨_, rfl⟩
    obtain ⟨w6, hw6⟩ : ∃ z, z = wq.alloc (.cells #[] 56) := ⟨_, rfl⟩
    have B6 : Hid (Below w.heap.size w w6) := Lib.hid (by rw [hw6]; exact BQ.out.alloc BQ.out.size _)
    have HG0 : Hid (g0 = wq.heap.size) := Lib.hid hg0
    have HW6 : Hid (wq.alloc (.cells #[] 56) = w6) := Lib.hid hw6.symm
    have OW0 := Lib.hid (own_empty (w := w6) (base := w.heap.size) (size := 2) (e := 56) (by rw [hw6]; exact heap_new_at _ hg0) (by rw [hg0]; exact BQ.out.size))
    have cq := (HP0.out wq BQ.out).1
    have c6 := (HP0.out w6 B6.out).1
    clear hwq hg0 hw6
    refine wpAnyH_take (i := 0) (v := ?_) (by simp only [List.getElem?_toArray, List.getElem?_cons_zero]; rfl) (by kernel_rfl) (by kernel_rfl) (by kernel_rfl) (by intro _ _ _ h; exact h) (Or.inl ⟨by rfl, ?_⟩) hHeld ?_
    rotate_left
    · (intro w hSw; (try dsimp only at hSw); go_simp; try with_reducible rfl)
    try simp only [Act.put, List.setIfInBounds_toArray, List.set_cons_zero, List.set_cons_succ]
    refine wpAnyH_take (i := 2) (v := ?_) (by simp only [List.getElem?_toArray, List.getElem?_cons_zero, List.getElem?_cons_succ]; rfl) (by kernel_rfl) (by kernel_rfl) (by kernel_rfl) (by intro _ _ _ h; exact h) (Or.inl ⟨by rfl, ?_⟩) hHeld ?_
    rotate_left
    · (intro w hSw; (try dsimp only at hSw); go_simp; try with_reducible rfl)
    try simp only [Act.put, List.setIfInBounds_toArray, List.set_cons_zero, List.set_cons_succ]
    refine wpAnyH_take (i := 3) (v := ?_) (by simp only [List.getElem?_toArray, List.getElem?_cons_zero, List.getElem?_cons_succ]; rfl) (by kernel_rfl) (by kernel_rfl) (by kernel_rfl) (by intro _ _ _ h; exact h) (Or.inl ⟨by rfl, ?_⟩) hHeld ?_
    rotate_left
    · (intro w hSw; (try dsimp only at hSw); go_simp; try with_reducible rfl)
    try simp only [Act.put, List.setIfInBounds_toArray, List.set_cons_zero, List.set_cons_succ]
    refine wpAnyH_take (i := 4) (v := ?_) (by simp only [List.getElem?_toArray, List.getElem?_cons_zero, List.getElem?_cons_succ]; rfl) (by kernel_rfl) (by kernel_rfl) (by kernel_rfl) (by intro _ _ _ h; exact h) (Or.inl ⟨by rfl, ?_⟩) hHeld ?_
    rotate_left
    · (intro w hSw; (try dsimp only at hSw); go_simp; try with_reducible rfl)
    try simp only [Act.put, List.setIfInBounds_toArray, List.set_cons_zero, List.set_cons_succ]
    refine wpAnyH_take (i := 6) (v := ?_) (by simp only [List.getElem?_toArray, List.getElem?_cons_zero, List.getElem?_cons_succ]; rfl) (by kernel_rfl) (by kernel_rfl) (by kernel_rfl) (by intro _ _ _ h; exact h) (Or.inl ⟨by rfl, ?_⟩) hHeld ?_
    rotate_left
    · (intro w hSw; (try dsimp only at hSw); go_simp; try with_reducible rfl)
    try simp only [Act.put, List.setIfInBounds_toArray, List.set_cons_zero, List.set_cons_succ]
    refine wpAnyH_take (i := 9) (v := ?_) (by simp only [List.getElem?_toArray, List.getElem?_cons_zero, List.getElem?_cons_succ]; rfl) (by kernel_rfl) (by kernel_rfl) (by kernel_rfl) (by intro _ _ _ h; exact h) (Or.inl ⟨by rfl, ?_⟩) hHeld ?_
    rotate_left
    · (intro w hSw; (try dsimp only at hSw); go_simp; try with_reducible rfl)
    try simp only [Act.put, List.setIfInBounds_toArray, List.set_cons_zero, List.set_cons_succ]
    refine wpAnyH_take (i := 10) (v := ?_) (by simp only [List.getElem?_toArray, List.getElem?_cons_zero, List.getElem?_cons_succ]; rfl) (by kernel_rfl) (by kernel_rfl) (by kernel_rfl) (by intro _ _ _ h; exact h) (Or.inl ⟨by rfl, ?_⟩) hHeld ?_
    rotate_left
    · (intro w hSw; (try dsimp only at hSw); go_simp; try with_reducible rfl)
    try simp only [Act.put, List.setIfInBounds_toArray, List.set_cons_zero, List.set_cons_succ]
    refine wpAnyH_take (i := 11) (v := ?_) (by simp only [List.getElem?_toArray, List.getElem?_cons_zero, List.getElem?_cons_succ]; rfl) (by kernel_rfl) (by kernel_rfl) (by kernel_rfl) (by intro _ _ _ h; exact h) (Or.inl ⟨by rfl, ?_⟩) hHeld ?_
    rotate_left
    · (intro w hSw; (try dsimp only at hSw); go_simp; try with_reducible rfl)
    try simp only [Act.put, List.setIfInBounds_toArray, List.set_cons_zero, List.set_cons_succ]
    refine wpAnyH_take (i := 13) (v := ?_) (by simp only [List.getElem?_toArray, List.getElem?_cons_zero, List.getElem?_cons_succ]; rfl) (by kernel_rfl) (by kernel_rfl) (by kernel_rfl) (by intro _ _ _ h; exact h) (Or.inl ⟨by rfl, ?_⟩) hHeld ?_
    rotate_left
    · (intro w hSw; (try dsimp only at hSw); go_simp; try with_reducible rfl)
    try simp only [Act.put, List.setIfInBounds_toArray, List.set_cons_zero, List.set_cons_succ]
    refine wpAnyH_take (i := 14) (v := ?_) (by simp only [List.getElem?_toArray, List.getElem?_cons_zero, List.getElem?_cons_succ]; rfl) (by kernel_rfl) (by kernel_rfl) (by kernel_rfl) (by intro _ _ _ h; exact h) (Or.inl ⟨by rfl, ?_⟩) hHeld ?_
    rotate_left
    · (intro w hSw; (try dsimp only at hSw); go_simp; try with_reducible rfl)
    try simp only [Act.put, List.setIfInBounds_toArray, List.set_cons_zero, List.set_cons_succ]
    refine wpAnyH_ready (rs := [1, 5, 12]) (by kernel_rfl) (by simp) ?_
    refine AllReadyH.cons (by simp only [List.getElem?_toArray, List.getElem?_cons_zero, List.getElem?_cons_succ]; rfl) (fun KK hKK => ?_) (AllReadyH.cons (by simp only [List.getElem?_toArray, List.getElem?_cons_zero, List.getElem?_cons_succ]; rfl) (fun KK hKK => ?_) (AllReadyH.cons (by simp only [List.getElem?_toArray, List.getElem?_cons_zero, List.getElem?_cons_succ]; rfl) (fun KK hKK => ?_) AllReadyH.nil))
    · rw [if_pos (by rfl)]
      go_simp
      try rw [HW6.out, ← HG0.out]
      refine hKK.out _ _ trivial (fun hHeld => ?_)
      clear hKK KK
      try simp only [Act.put, List.setIfInBounds_toArray, List.set_cons_zero, List.set_cons_succ]
      refine wpAnyH_ready (rs := [5, 12]) (by kernel_rfl) (by simp) ?_
      refine AllReadyH.cons (by simp only [List.getElem?_toArray, List.getElem?_cons_zero, List.getElem?_cons_succ]; rfl) (fun KK hKK => ?_) (AllReadyH.cons (by simp only [List.getElem?_toArray, List.getElem?_cons_zero, List.getElem?_cons_succ]; rfl) (fun KK hKK => ?_) AllReadyH.nil)
      · rw [if_pos (by rfl)]
        go_simp
        refine hKK.out _ _ trivial (fun hHeld => ?_)
        clear hKK KK
        try simp only [Act.put, List.setIfInBounds_toArray, List.set_cons_zero, List.set_cons_succ]
        refine wpAnyH_take (i := 7) (v := _) (by simp only [List.getElem?_toArray, List.getElem?_cons_zero, List.getElem?_cons_succ]; rfl) (by kernel_rfl) (by kernel_rfl) (by kernel_rfl) (by intro _ _ _ h; exact h) (yields_slice (by rfl) 57 (.tmp 16) none (some (.tmp 17)) rfl (.slice (some ⟨g, 0, none⟩) T cap) rfl none (some (.int .i64 m)) rfl rfl (.slice (some ⟨g, 0, none⟩) m cap) HHD.out) hHeld ?_
        try simp only [Act.put, List.setIfInBounds_toArray, List.set_cons_zero, List.set_cons_succ]
        refine wpAnyH_ready (rs := [8, 12]) (by kernel_rfl) (by simp) ?_
        refine AllReadyH.cons (by simp only [List.getElem?_toArray, List.getElem?_cons_zero, List.getElem?_cons_succ]; rfl) (fun KK hKK => ?_) (AllReadyH.cons (by simp only [List.getElem?_toArray, List.getElem?_cons_zero, List.getElem?_cons_succ]; rfl) (fun KK hKK => ?_) AllReadyH.nil)
        · rw [if_pos (by rfl)]
          have HBS : Hid (w.heap.size ≤ w6.heap.size) := Lib.hid B6.out.size
          refine wp_append_any (.tmp 12) (.tmp 18) 57 rfl w.heap.size 56 i0 (.agg #[.int .i64 0, .slice none 0 0]) 2 32 Tryz.underlying57 HI.out.1 HI.out.2.1 HI.out.2.2.1 HI.out.2.2.2 rfl (by decide) (.slice (some ⟨g0, 0, none⟩) 0 0) 0 [] rfl OW0.out (some ⟨g, 0, none⟩) m cap (flatS (rowC st V) m) rfl (fun h => by cases h) HFL.out (fun ad e => ((HSA.out w6 B6.out).less hmk).cellsAt (wideR st V) ad e) HO1.out (by unfold maxLen; omega) (by omega) HBS.out ?_
          intro v7 w7 ho7 hg7
          rw [Nat.zero_add, List.nil_append] at ho7
          have O7 := Lib.hid ho7
          have B7 : Hid (Below w.heap.size w w7) := Lib.hid (B6.out.grown hg7 B6.out.size (fun k e => by have e2 : g0 = k := (by simpa [Value.ownBlock] using e); rw [← e2, HG0.out]; exact BQ.out.size))
          have c7 := (HP0.out w7 B7.out).1
          clear ho7 hg7
          refine hKK.out _ _ trivial (fun hHeld => ?_)
          clear hKK KK
          try simp only [Act.put, List.setIfInBounds_toArray, List.set_cons_zero, List.set_cons_succ]
          refine wpAnyH_ready (rs := [12]) (by kernel_rfl) (by simp) ?_
          refine AllReadyH.cons (by simp only [List.getElem?_toArray, List.getElem?_cons_zero, List.getElem?_cons_succ]; rfl) (fun KK hKK => ?_) AllReadyH.nil
          rw [if_pos (by rfl)]
          go_simp
          refine hKK.out _ _ trivial (fun hHeld => ?_)
          clear hKK KK
          try simp only [Act.put, List.setIfInBounds_toArray, List.set_cons_zero, List.set_cons_succ]
          refine wpAnyH_take (i := 15) (v := _) (by simp only [List.getElem?_toArray, List.getElem?_cons_zero, List.getElem?_cons_succ]; rfl) (by kernel_rfl) (by kernel_rfl) (by kernel_rfl) (by intro _ _ _ h; exact h) (yields_slice (by rfl) 57 (.tmp 23) (some (.tmp 25)) none rfl (.slice (some ⟨g, 0, none⟩) T cap) rfl (some (.int .i64 ((m + 1 : Nat) : Int))) none rfl rfl (.slice A8 (T - (m + 1)) (cap - (m + 1))) HTL.out) hHeld ?_
          try simp only [Act.put, List.setIfInBounds_toArray, List.set_cons_zero, List.set_cons_succ]
          refine wpAnyH_ready (rs := [16]) (by kernel_rfl) (by simp) ?_
          refine AllReadyH.cons (by simp only [List.getElem?_toArray, List.getElem?_cons_zero, List.getElem?_cons_succ]; rfl) (fun KK hKK => ?_) AllReadyH.nil
          rw [if_pos (by rfl)]
          have HBS : Hid (w.heap.size ≤ w7.heap.size) := Lib.hid B7.out.size
          refine wp_append_any (.tmp 19) (.tmp 26) 57 rfl w.heap.size 56 i0 (.agg #[.int .i64 0, .slice none 0 0]) 2 32 Tryz.underlying57 HI.out.1 HI.out.2.1 HI.out.2.2.1 HI.out.2.2.2 rfl (by decide) v7 m (flatS (rowC st V) m) rfl O7.out A8 (T - (m + 1)) (cap - (m + 1)) (flatS (fun i => rowC st V (m + 1 + i)) (T - (m + 1))) rfl HN8.out HFL8.out (fun ad e => (HS8.out w7 B7.out).cellsAt (F := fun i => rowC st V (m + 1 + i)) (fun i => rfl) ad e) HO8.out (by unfold maxLen; omega) (by omega) HBS.out ?_
          intro v8 w8 ho8 hg8
          rw [show m + (T - (m + 1)) = T - 1 by omega] at ho8
          obtain ⟨g9, c9, rfl⟩ := own_shapeR ho8 (by have := HI1.out; omega)
          have O8 := Lib.hid ho8
          have B8 : Hid (Below w.heap.size w w8) := Lib.hid (B7.out.grown hg8 B7.out.size (fun k hk => (row_lt O7.out hk).1))
          have c8 := (HP0.out w8 B8.out).1
          have f8 := (HP0.out w8 B8.out).2
          clear ho8 hg8
          refine hKK.out _ _ trivial (fun hHeld => ?_)
          clear hKK KK
          try simp only [Act.put, List.setIfInBounds_toArray, List.set_cons_zero, List.set_cons_succ]
          refine wpAnyH_take (i := 17) (v := ?_) (by simp only [List.getElem?_toArray, List.getElem?_cons_zero, List.getElem?_cons_succ]; rfl) (by kernel_rfl) (by kernel_rfl) (by kernel_rfl) (by intro _ _ _ h; exact h) (Or.inl ⟨by rfl, ?_⟩) hHeld ?_
          rotate_left
          · (intro w hSw; (try dsimp only at hSw); go_simp; try with_reducible rfl)
          try simp only [Act.put, List.setIfInBounds_toArray, List.set_cons_zero, List.set_cons_succ]
          refine wpAnyH_take (i := 18) (v := ?_) (by simp only [List.getElem?_toArray, List.getElem?_cons_zero, List.getElem?_cons_succ]; rfl) (by kernel_rfl) (by kernel_rfl) (by kernel_rfl) (by intro _ _ _ h; exact h) (Or.inl ⟨by rfl, ?_⟩) hHeld ?_
          rotate_left
          · (intro w hSw; (try dsimp only at hSw); go_simp; try with_reducible rfl)
          try simp only [Act.put, List.setIfInBounds_toArray, List.set_cons_zero, List.set_cons_succ]
          refine wpAnyH_ready (rs := [19]) (by kernel_rfl) (by simp) ?_
          refine AllReadyH.cons (by simp only [List.getElem?_toArray, List.getElem?_cons_zero, List.getElem?_cons_succ]; rfl) (fun KK hKK => ?_) AllReadyH.nil
          rw [if_pos (by rfl)]
          go_simp
          refine hKK.out _ _ trivial (fun hHeld => ?_)
          clear hKK KK
          try simp only [Act.put, List.setIfInBounds_toArray, List.set_cons_zero, List.set_cons_succ]
          refine wpAnyH_done (by kernel_rfl) ?_ _
          clear hHeld
          obtain ⟨w9, hw9⟩ : ∃ w9, w9 = w8.setCell ⟨p, 0, none⟩ (.slice (some ⟨g9, 0, none⟩) (T - 1) c9) := ⟨_, rfl⟩
          have HR := Lib.hid (H.out.del (m := m) (w2 := w9) B8.out HN0.out HDEL.out HI1.out HIL.out rfl HINV.out (by rw [← HKL.out]; exact O8.out) (by rw [← HKL.out]; exact hw9))
          rw [← hw9]
          clear hw9 c8 f8
          go_wp2_with fail
          go_ret
          exact ⟨ret_int HE.out.symm, HR.out⟩
        · rw [if_pos (by rfl)]
          go_simp
          refine hKK.out _ _ trivial (fun hHeld => ?_)
          clear hKK KK
          try simp only [Act.put, List.setIfInBounds_toArray, List.set_cons_zero, List.set_cons_succ]
          refine wpAnyH_take (i := 15) (v := _) (by simp only [List.getElem?_toArray, List.getElem?_cons_zero, List.getElem?_cons_succ]; rfl) (by kernel_rfl) (by kernel_rfl) (by kernel_rfl) (by intro _ _ _ h; exact h) (yields_slice (by rfl) 57 (.tmp 23) (some (.tmp 25)) none rfl (.slice (some ⟨g, 0, none⟩) T cap) rfl (some (.int .i64 ((m + 1 : Nat) : Int))) none rfl rfl (.slice A8 (T - (m + 1)) (cap - (m + 1))) HTL.out) hHeld ?_
          try simp only [Act.put, List.setIfInBounds_toArray, List.set_cons_zero, List.set_cons_succ]
          refine wpAnyH_ready (rs := [8]) (by kernel_rfl) (by simp) ?_
          refine AllReadyH.cons (by simp only [List.getElem?_toArray, List.getElem?_cons_zero, List.getElem?_cons_succ]; rfl) (fun KK hKK => ?_) AllReadyH.nil
          rw [if_pos (by rfl)]
          have HBS : Hid (w.heap.size ≤ w6.heap.size) := Lib.hid B6.out.size
          refine wp_append_any (.tmp 12) (.tmp 18) 57 rfl w.heap.size 56 i0 (.agg #[.int .i64 0, .slice none 0 0]) 2 32 Tryz.underlying57 HI.out.1 HI.out.2.1 HI.out.2.2.1 HI.out.2.2.2 rfl (by decide) (.slice (some ⟨g0, 0, none⟩) 0 0) 0 [] rfl OW0.out (some ⟨g, 0, none⟩) m cap (flatS (rowC st V) m) rfl (fun h => by cases h) HFL.out (fun ad e => ((HSA.out w6 B6.out).less hmk).cellsAt (wideR st V) ad e) HO1.out (by unfold maxLen; omega) (by omega) HBS.out ?_
          intro v7 w7 ho7 hg7
          rw [Nat.zero_add, List.nil_append] at ho7
          have O7 := Lib.hid ho7
          have B7 : Hid (Below w.heap.size w w7) := Lib.hid (B6.out.grown hg7 B6.out.size (fun k e => by have e2 : g0 = k := (by simpa [Value.ownBlock] using e); rw [← e2, HG0.out]; exact BQ.out.size))
          have c7 := (HP0.out w7 B7.out).1
          clear ho7 hg7
          refine hKK.out _ _ trivial (fun hHeld => ?_)
          clear hKK KK
          try simp only [Act.put, List.setIfInBounds_toArray, List.set_cons_zero, List.set_cons_succ]
          refine wpAnyH_ready (rs := [16]) (by kernel_rfl) (by simp) ?_
          refine AllReadyH.cons (by simp only [List.getElem?_toArray, List.getElem?_cons_zero, List.getElem?_cons_succ]; rfl) (fun KK hKK => ?_) AllReadyH.nil
          rw [if_pos (by rfl)]
          have HBS : Hid (w.heap.size ≤ w7.heap.size) := Lib.hid B7.out.size
          refine wp_append_any (.tmp 19) (.tmp 26) 57 rfl w.heap.size 56 i0 (.agg #[.int .i64 0, .slice none 0 0]) 2 32 Tryz.underlying57 HI.out.1 HI.out.2.1 HI.out.2.2.1 HI.out.2.2.2 rfl (by decide) v7 m (flatS (rowC st V) m) rfl O7.out A8 (T - (m + 1)) (cap - (m + 1)) (flatS (fun i => rowC st V (m + 1 + i)) (T - (m + 1))) rfl HN8.out HFL8.out (fun ad e => (HS8.out w7 B7.out).cellsAt (F := fun i => rowC st V (m + 1 + i)) (fun i => rfl) ad e) HO8.out (by unfold maxLen; omega) (by omega) HBS.out ?_
          intro v8 w8 ho8 hg8
          rw [show m + (T - (m + 1)) = T - 1 by omega] at ho8
          obtain ⟨g9, c9, rfl⟩ := own_shapeR ho8 (by have := HI1.out; omega)
          have O8 := Lib.hid ho8
          have B8 : Hid (Below w.heap.size w w8) := Lib.hid (B7.out.grown hg8 B7.out.size (fun k hk => (row_lt O7.out hk).1))
          have c8 := (HP0.out w8 B8.out).1
          have f8 := (HP0.out w8 B8.out).2
          clear ho8 hg8
          refine hKK.out _ _ trivial (fun hHeld => ?_)
          clear hKK KK
          try simp only [Act.put, List.setIfInBounds_toArray, List.set_cons_zero, List.set_cons_succ]
          refine wpAnyH_take (i := 17) (v := ?_) (by simp only [List.getElem?_toArray, List.getElem?_cons_zero, List.getElem?_cons_succ]; rfl) (by kernel_rfl) (by kernel_rfl) (by kernel_rfl) (by intro _ _ _ h; exact h) (Or.inl ⟨by rfl, ?_⟩) hHeld ?_
          rotate_left
          · (intro w hSw; (try dsimp only at hSw); go_simp; try with_reducible rfl)
          try simp only [Act.put, List.setIfInBounds_toArray, List.set_cons_zero, List.set_cons_succ]
          refine wpAnyH_take (i := 18) (v := ?_) (by simp only [List.getElem?_toArray, List.getElem?_cons_zero, List.getElem?_cons_succ]; rfl) (by kernel_rfl) (by kernel_rfl) (by kernel_rfl) (by intro _ _ _ h; exact h) (Or.inl ⟨by rfl, ?_⟩) hHeld ?_
          rotate_left
          · (intro w hSw; (try dsimp only at hSw); go_simp; try with_reducible rfl)
          try simp only [Act.put, List.setIfInBounds_toArray, List.set_cons_zero, List.set_cons_succ]
          refine wpAnyH_ready (rs := [19]) (by kernel_rfl) (by simp) ?_
          refine AllReadyH.cons (by simp only [List.getElem?_toArray, List.getElem?_cons_zero, List.getElem?_cons_succ]; rfl) (fun KK hKK => ?_) AllReadyH.nil
          rw [if_pos (by rfl)]
          go_simp
          refine hKK.out _ _ trivial (fun hHeld => ?_)
          clear hKK KK
          try simp only [Act.put, List.setIfInBounds_toArray, List.set_cons_zero, List.set_cons_succ]
          refine wpAnyH_done (by kernel_rfl) ?_ _
          clear hHeld
          obtain ⟨w9, hw9⟩ : ∃ w9, w9 = w8.setCell ⟨p, 0, none⟩ (.slice (some ⟨g9, 0, none⟩) (T - 1) c9) := ⟨_, rfl⟩
          have HR := Lib.hid (H.out.del (m := m) (w2 := w9) B8.out HN0.out HDEL.out HI1.out HIL.out rfl HINV.out (by rw [← HKL.out]; exact O8.out) (by rw [← HKL.out]; exact hw9))
          rw [← hw9]
          clear hw9 c8 f8
          go_wp2_with fail
          go_ret
          exact ⟨ret_int HE.out.symm, HR.out⟩
      · rw [if_pos (by rfl)]
        go_simp
        refine hKK.out _ _ trivial (fun hHeld => ?_)
        clear hKK KK
        try simp only [Act.put, List.setIfInBounds_toArray, List.set_cons_zero, List.set_cons_succ]
        refine wpAnyH_take (i := 15) (v := _) (by simp only [List.getElem?_toArray, List.getElem?_cons_zero, List.getElem?_cons_succ]; rfl) (by kernel_rfl) (by kernel_rfl) (by kernel_rfl) (by intro _ _ _ h; exact h) (yields_slice (by rfl) 57 (.tmp 23) (some (.tmp 25)) none rfl (.slice (some ⟨g, 0, none⟩) T cap) rfl (some (.int .i64 ((m + 1 : Nat) : Int))) none rfl rfl (.slice A8 (T - (m + 1)) (cap - (m + 1))) HTL.out) hHeld ?_
        try simp only [Act.put, List.setIfInBounds_toArray, List.set_cons_zero, List.set_cons_succ]
        refine wpAnyH_ready (rs := [5]) (by kernel_rfl) (by simp) ?_
        refine AllReadyH.cons (by simp only [List.getElem?_toArray, List.getElem?_cons_zero, List.getElem?_cons_succ]; rfl) (fun KK hKK => ?_) AllReadyH.nil
        rw [if_pos (by rfl)]
        go_simp
        refine hKK.out _ _ trivial (fun hHeld => ?_)
        clear hKK KK
        try simp only [Act.put, List.setIfInBounds_toArray, List.set_cons_zero, List.set_cons_succ]
        refine wpAnyH_take (i := 7) (v := _) (by simp only [List.getElem?_toArray, List.getElem?_cons_zero, List.getElem?_cons_succ]; rfl) (by kernel_rfl) (by kernel_rfl) (by kernel_rfl) (by intro _ _ _ h; exact h) (yields_slice (by rfl) 57 (.tmp 16) none (some (.tmp 17)) rfl (.slice (some ⟨g, 0, none⟩) T cap) rfl none (some (.int .i64 m)) rfl rfl (.slice (some ⟨g, 0, none⟩) m cap) HHD.out) hHeld ?_
        try simp only [Act.put, List.setIfInBounds_toArray, List.set_cons_zero, List.set_cons_succ]
        refine wpAnyH_ready (rs := [8]) (by kernel_rfl) (by simp) ?_
        refine AllReadyH.cons (by simp only [List.getElem?_toArray, List.getElem?_cons_zero, List.getElem?_cons_succ]; rfl) (fun KK hKK => ?_) AllReadyH.nil
        rw [if_pos (by rfl)]
        have HBS : Hid (w.heap.size ≤ w6.heap.size) := Lib.hid B6.out.size
        refine wp_append_any (.tmp 12) (.tmp 18) 57 rfl w.heap.size 56 i0 (.agg #[.int .i64 0, .slice none 0 0]) 2 32 Tryz.underlying57 HI.out.1 HI.out.2.1 HI.out.2.2.1 HI.out.2.2.2 rfl (by decide) (.slice (some ⟨g0, 0, none⟩) 0 0) 0 [] rfl OW0.out (some ⟨g, 0, none⟩) m cap (flatS (rowC st V) m) rfl (fun h => by cases h) HFL.out (fun ad e => ((HSA.out w6 B6.out).less hmk).cellsAt (wideR st V) ad e) HO1.out (by unfold maxLen; omega) (by omega) HBS.out ?_
        intro v7 w7 ho7 hg7
        rw [Nat.zero_add, List.nil_append] at ho7
        have O7 := Lib.hid ho7
        have B7 : Hid (Below w.heap.size w w7) := Lib.hid (B6.out.grown hg7 B6.out.size (fun k e => by have e2 : g0 = k := (by simpa [Value.ownBlock] using e); rw [← e2, HG0.out]; exact BQ.out.size))
        have c7 := (HP0.out w7 B7.out).1
        clear ho7 hg7
        refine hKK.out _ _ trivial (fun hHeld => ?_)
        clear hKK KK
        try simp only [Act.put, List.setIfInBounds_toArray, List.set_cons_zero, List.set_cons_succ]
        refine wpAnyH_ready (rs := [16]) (by kernel_rfl) (by simp) ?_
        refine AllReadyH.cons (by simp only [List.getElem?_toArray, List.getElem?_cons_zero, List.getElem?_cons_succ]; rfl) (fun KK hKK => ?_) AllReadyH.nil
        rw [if_pos (by rfl)]
        have HBS : Hid (w.heap.size ≤ w7.heap.size) := Lib.hid B7.out.size
        refine wp_append_any (.tmp 19) (.tmp 26) 57 rfl w.heap.size 56 i0 (.agg #[.int .i64 0, .slice none 0 0]) 2 32 Tryz.underlying57 HI.out.1 HI.out.2.1 HI.out.2.2.1 HI.out.2.2.2 rfl (by decide) v7 m (flatS (rowC st V) m) rfl O7.out A8 (T - (m + 1)) (cap - (m + 1)) (flatS (fun i => rowC st V (m + 1 + i)) (T - (m + 1))) rfl HN8.out HFL8.out (fun ad e => (HS8.out w7 B7.out).cellsAt (F := fun i => rowC st V (m + 1 + i)) (fun i => rfl) ad e) HO8.out (by unfold maxLen; omega) (by omega) HBS.out ?_
        intro v8 w8 ho8 hg8
        rw [show m + (T - (m + 1)) = T - 1 by omega] at ho8
        obtain ⟨g9, c9, rfl⟩ := own_shapeR ho8 (by have := HI1.out; omega)
        have O8 := Lib.hid ho8
        have B8 : Hid (Below w.heap.size w w8) := Lib.hid (B7.out.grown hg8 B7.out.size (fun k hk => (row_lt O7.out hk).1))
        have c8 := (HP0.out w8 B8.out).1
        have f8 := (HP0.out w8 B8.out).2
        clear ho8 hg8
        refine hKK.out _ _ trivial (fun hHeld => ?_)
        clear hKK KK
        try simp only [Act.put, List.setIfInBounds_toArray, List.set_cons_zero, List.set_cons_succ]
        refine wpAnyH_take (i := 17) (v := ?_) (by simp only [List.getElem?_toArray, List.getElem?_cons_zero, List.getElem?_cons_succ]; rfl) (by kernel_rfl) (by kernel_rfl) (by kernel_rfl) (by intro _ _ _ h; exact h) (Or.inl ⟨by rfl, ?_⟩) hHeld ?_
        rotate_left
        · (intro w hSw; (try dsimp only at hSw); go_simp; try with_reducible rfl)
        try simp only [Act.put, List.setIfInBounds_toArray, List.set_cons_zero, List.set_cons_succ]
        refine wpAnyH_take (i := 18) (v := ?_) (by simp only [List.getElem?_toArray, List.getElem?_cons_zero, List.getElem?_cons_succ]; rfl) (by kernel_rfl) (by kernel_rfl) (by kernel_rfl) (by intro _ _ _ h; exact h) (Or.inl ⟨by rfl, ?_⟩) hHeld ?_
        rotate_left
        · (intro w hSw; (try dsimp only at hSw); go_simp; try with_reducible rfl)
        try simp only [Act.put, List.setIfInBounds_toArray, List.set_cons_zero, List.set_cons_succ]
        refine wpAnyH_ready (rs := [19]) (by kernel_rfl) (by simp) ?_
        refine AllReadyH.cons (by simp only [List.getElem?_toArray, List.getElem?_cons_zero, List.getElem?_cons_succ]; rfl) (fun KK hKK => ?_) AllReadyH.nil
        rw [if_pos (by rfl)]
        go_simp
        refine hKK.out _ _ trivial (fun hHeld => ?_)
        clear hKK KK
        try simp only [Act.put, List.setIfInBounds_toArray, List.set_cons_zero, List.set_cons_succ]
        refine wpAnyH_done (by kernel_rfl) ?_ _
        clear hHeld
        obtain ⟨w9, hw9⟩ : ∃ w9, w9 = w8.setCell ⟨p, 0, none⟩ (.slice (some ⟨g9, 0, none⟩) (T - 1) c9) := ⟨_, rfl⟩
        have HR := Lib.hid (H.out.del (m := m) (w2 := w9) B8.out HN0.out HDEL.out HI1.out HIL.out rfl HINV.out (by rw [← HKL.out]; exact O8.out) (by rw [← HKL.out]; exact hw9))
        rw [← hw9]
        clear hw9 c8 f8
        go_wp2_with fail
        go_ret
        exact ⟨ret_int HE.out.symm, HR.out⟩
    · rw [if_pos (by rfl)]
      go_simp
      refine hKK.out _ _ trivial (fun hHeld => ?_)
      clear hKK KK
      try simp only [Act.put, List.setIfInBounds_toArray, List.set_cons_zero, List.set_cons_succ]
      refine wpAnyH_take (i := 7) (v := _) (by simp only [List.getElem?_toArray, List.getElem?_cons_zero, List.getElem?_cons_succ]; rfl) (by kernel_rfl) (by kernel_rfl) (by kernel_rfl) (by intro _ _ _ h; exact h) (yields_slice (by rfl) 57 (.tmp 16) none (some (.tmp 17)) rfl (.slice (some ⟨g, 0, none⟩) T cap) rfl none (some (.int .i64 m)) rfl rfl (.slice (some ⟨g, 0, none⟩) m cap) HHD.out) hHeld ?_
      try simp only [Act.put, List.setIfInBounds_toArray, List.set_cons_zero, List.set_cons_succ]
      refine wpAnyH_ready (rs := [1, 12]) (by kernel_rfl) (by simp) ?_
      refine AllReadyH.cons (by simp only [List.getElem?_toArray, List.getElem?_cons_zero, List.getElem?_cons_succ]; rfl) (fun KK hKK => ?_) (AllReadyH.cons (by simp only [List.getElem?_toArray, List.getElem?_cons_zero, List.getElem?_cons_succ]; rfl) (fun KK hKK => ?_) AllReadyH.nil)
      · rw [if_pos (by rfl)]
        go_simp
        try rw [HW6.out, ← HG0.out]
        refine hKK.out _ _ trivial (fun hHeld => ?_)
        clear hKK KK
        try simp only [Act.put, List.setIfInBounds_toArray, List.set_cons_zero, List.set_cons_succ]
        refine wpAnyH_ready (rs := [8, 12]) (by kernel_rfl) (by simp) ?_
        refine AllReadyH.cons (by simp only [List.getElem?_toArray, List.getElem?_cons_zero, List.getElem?_cons_succ]; rfl) (fun KK hKK => ?_) (AllReadyH.cons (by simp only [List.getElem?_toArray, List.getElem?_cons_zero, List.getElem?_cons_succ]; rfl) (fun KK hKK => ?_) AllReadyH.nil)
        · rw [if_pos (by rfl)]
          have HBS : Hid (w.heap.size ≤ w6.heap.size) := Lib.hid B6.out.size
          refine wp_append_any (.tmp 12) (.tmp 18) 57 rfl w.heap.size 56 i0 (.agg #[.int .i64 0, .slice none 0 0]) 2 32 Tryz.underlying57 HI.out.1 HI.out.2.1 HI.out.2.2.1 HI.out.2.2.2 rfl (by decide) (.slice (some ⟨g0, 0, none⟩) 0 0) 0 [] rfl OW0.out (some ⟨g, 0, none⟩) m cap (flatS (rowC st V) m) rfl (fun h => by cases h) HFL.out (fun ad e => ((HSA.out w6 B6.out).less hmk).cellsAt (wideR st V) ad e) HO1.out (by unfold maxLen; omega) (by omega) HBS.out ?_
          intro v7 w7 ho7 hg7
          rw [Nat.zero_add, List.nil_append] at ho7
          have O7 := Lib.hid ho7
          have B7 : Hid (Below w.heap.size w w7) := Lib.hid (B6.out.grown hg7 B6.out.size (fun k e => by have e2 : g0 = k := (by simpa [Value.ownBlock] using e); rw [← e2, HG0.out]; exact BQ.out.size))
          have c7 := (HP0.out w7 B7.out).1
          clear ho7 hg7
          refine hKK.out _ _ trivial (fun hHeld => ?_)
          clear hKK KK
          try simp only [Act.put, List.setIfInBounds_toArray, List.set_cons_zero, List.set_cons_succ]
          refine wpAnyH_ready (rs := [12]) (by kernel_rfl) (by simp) ?_
          refine AllReadyH.cons (by simp only [List.getElem?_toArray, List.getElem?_cons_zero, List.getElem?_cons_succ]; rfl) (fun KK hKK => ?_) AllReadyH.nil
          rw [if_pos (by rfl)]
          go_simp
          refine hKK.out _ _ trivial (fun hHeld => ?_)
          clear hKK KK
          try simp only [Act.put, List.setIfInBounds_toArray, List.set_cons_zero, List.set_cons_succ]
          refine wpAnyH_take (i := 15) (v := _) (by simp only [List.getElem?_toArray, List.getElem?_cons_zero, List.getElem?_cons_succ]; rfl) (by kernel_rfl) (by kernel_rfl) (by kernel_rfl) (by intro _ _ _ h; exact h) (yields_slice (by rfl) 57 (.tmp 23) (some (.tmp 25)) none rfl (.slice (some ⟨g, 0, none⟩) T cap) rfl (some (.int .i64 ((m + 1 : Nat) : Int))) none rfl rfl (.slice A8 (T - (m + 1)) (cap - (m + 1))) HTL.out) hHeld ?_
          try simp only [Act.put, List.setIfInBounds_toArray, List.set_cons_zero, List.set_cons_succ]
          refine wpAnyH_ready (rs := [16]) (by kernel_rfl) (by simp) ?_
          refine AllReadyH.cons (by simp only [List.getElem?_toArray, List.getElem?_cons_zero, List.getElem?_cons_succ]; rfl) (fun KK hKK => ?_) AllReadyH.nil
          rw [if_pos (by rfl)]
          have HBS : Hid (w.heap.size ≤ w7.heap.size) := Lib.hid B7.out.size
          refine wp_append_any (.tmp 19) (.tmp 26) 57 rfl w.heap.size 56 i0 (.agg #[.int .i64 0, .slice none 0 0]) 2 32 Tryz.underlying57 HI.out.1 HI.out.2.1 HI.out.2.2.1 HI.out.2.2.2 rfl (by decide) v7 m (flatS (rowC st V) m) rfl O7.out A8 (T - (m + 1)) (cap - (m + 1)) (flatS (fun i => rowC st V (m + 1 + i)) (T - (m + 1))) rfl HN8.out HFL8.out (fun ad e => (HS8.out w7 B7.out).cellsAt (F := fun i => rowC st V (m + 1 + i)) (fun i => rfl) ad e) HO8.out (by unfold maxLen; omega) (by omega) HBS.out ?_
          intro v8 w8 ho8 hg8
          rw [show m + (T - (m + 1)) = T - 1 by omega] at ho8
          obtain ⟨g9, c9, rfl⟩ := own_shapeR ho8 (by have := HI1.out; omega)
          have O8 := Lib.hid ho8
          have B8 : Hid (Below w.heap.size w w8) := Lib.hid (B7.out.grown hg8 B7.out.size (fun k hk => (row_lt O7.out hk).1))
          have c8 := (HP0.out w8 B8.out).1
          have f8 := (HP0.out w8 B8.out).2
          clear ho8 hg8
          refine hKK.out _ _ trivial (fun hHeld => ?_)
          clear hKK KK
          try simp only [Act.put, List.setIfInBounds_toArray, List.set_cons_zero, List.set_cons_succ]
          refine wpAnyH_take (i := 17) (v := ?_) (by simp only [List.getElem?_toArray, List.getElem?_cons_zero, List.getElem?_cons_succ]; rfl) (by kernel_rfl) (by kernel_rfl) (by kernel_rfl) (by intro _ _ _ h; exact h) (Or.inl ⟨by rfl, ?_⟩) hHeld ?_
          rotate_left
          · (intro w hSw; (try dsimp only at hSw); go_simp; try with_reducible rfl)
          try simp only [Act.put, List.setIfInBounds_toArray, List.set_cons_zero, List.set_cons_succ]
          refine wpAnyH_take (i := 18) (v := ?_) (by simp only [List.getElem?_toArray, List.getElem?_cons_zero, List.getElem?_cons_succ]; rfl) (by kernel_rfl) (by kernel_rfl) (by kernel_rfl) (by intro _ _ _ h; exact h) (Or.inl ⟨by rfl, ?_⟩) hHeld ?_
          rotate_left
          · (intro w hSw; (try dsimp only at hSw); go_simp; try with_reducible rfl)
          try simp only [Act.put, List.setIfInBounds_toArray, List.set_cons_zero, List.set_cons_succ]
          refine wpAnyH_ready (rs := [19]) (by kernel_rfl) (by simp) ?_
          refine AllReadyH.cons (by simp only [List.getElem?_toArray, List.getElem?_cons_zero, List.getElem?_cons_succ]; rfl) (fun KK hKK => ?_) AllReadyH.nil
          rw [if_pos (by rfl)]
          go_simp
          refine hKK.out _ _ trivial (fun hHeld => ?_)
          clear hKK KK
          try simp only [Act.put, List.setIfInBounds_toArray, List.set_cons_zero, List.set_cons_succ]
          refine wpAnyH_done (by kernel_rfl) ?_ _
          clear hHeld
          obtain ⟨w9, hw9⟩ : ∃ w9, w9 = w8.setCell ⟨p, 0, none⟩ (.slice (some ⟨g9, 0, none⟩) (T - 1) c9) := ⟨_, rfl⟩
          have HR := Lib.hid (H.out.del (m := m) (w2 := w9) B8.out HN0.out HDEL.out HI1.out HIL.out rfl HINV.out (by rw [← HKL.out]; exact O8.out) (by rw [← HKL.out]; exact hw9))
          rw [← hw9]
          clear hw9 c8 f8
          go_wp2_with fail
          go_ret
          exact ⟨ret_int HE.out.symm, HR.out⟩
        · rw [if_pos (by rfl)]
          go_simp
          refine hKK.out _ _ trivial (fun hHeld => ?_)
          clear hKK KK
          try simp only [Act.put, List.setIfInBounds_toArray, List.set_cons_zero, List.set_cons_succ]
          refine wpAnyH_take (i := 15) (v := _) (by simp only [List.getElem?_toArray, List.getElem?_cons_zero, List.getElem?_cons_succ]; rfl) (by kernel_rfl) (by kernel_rfl) (by kernel_rfl) (by intro _ _ _ h; exact h) (yields_slice (by rfl) 57 (.tmp 23) (some (.tmp 25)) none rfl (.slice (some ⟨g, 0, none⟩) T cap) rfl (some (.int .i64 ((m + 1 : Nat) : Int))) none rfl rfl (.slice A8 (T - (m + 1)) (cap - (m + 1))) HTL.out) hHeld ?_
          try simp only [Act.put, List.setIfInBounds_toArray, List.set_cons_zero, List.set_cons_succ]
          refine wpAnyH_ready (rs := [8]) (by kernel_rfl) (by simp) ?_
          refine AllReadyH.cons (by simp only [List.getElem?_toArray, List.getElem?_cons_zero, List.getElem?_cons_succ]; rfl) (fun KK hKK => ?_) AllReadyH.nil
          rw [if_pos (by rfl)]
          have HBS : Hid (w.heap.size ≤ w6.heap.size) := Lib.hid B6.out.size
          refine wp_append_any (.tmp 12) (.tmp 18) 57 rfl w.heap.size 56 i0 (.agg #[.int .i64 0, .slice none 0 0]) 2 32 Tryz.underlying57 HI.out.1 HI.out.2.1 HI.out.2.2.1 HI.out.2.2.2 rfl (by decide) (.slice (some ⟨g0, 0, none⟩) 0 0) 0 [] rfl OW0.out (some ⟨g, 0, none⟩) m cap (flatS (rowC st V) m) rfl (fun h => by cases h) HFL.out (fun ad e => ((HSA.out w6 B6.out).less hmk).cellsAt (wideR st V) ad e) HO1.out (by unfold maxLen; omega) (by omega) HBS.out ?_
          intro v7 w7 ho7 hg7
          rw [Nat.zero_add, List.nil_append] at ho7
          have O7 := Lib.hid ho7
          have B7 : Hid (Below w.heap.size w w7) := Lib.hid (B6.out.grown hg7 B6.out.size (fun k e => by have e2 : g0 = k := (by simpa [Value.ownBlock] using e); rw [← e2, HG0.out]; exact BQ.out.size))
          have c7 := (HP0.out w7 B7.out).1
          clear ho7 hg7
          refine hKK.out _ _ trivial (fun hHeld => ?_)
          clear hKK KK
          try simp only [Act.put, List.setIfInBounds_toArray, List.set_cons_zero, List.set_cons_succ]
          refine wpAnyH_ready (rs := [16]) (by kernel_rfl) (by simp) ?_
          refine AllReadyH.cons (by simp only [List.getElem?_toArray, List.getElem?_cons_zero, List.getElem?_cons_succ]; rfl) (fun KK hKK => ?_) AllReadyH.nil
          rw [if_pos (by rfl)]
          have HBS : Hid (w.heap.size ≤ w7.heap.size) := Lib.hid B7.out.size
          refine wp_append_any (.tmp 19) (.tmp 26) 57 rfl w.heap.size 56 i0 (.agg #[.int .i64 0, .slice none 0 0]) 2 32 Tryz.underlying57 HI.out.1 HI.out.2.1 HI.out.2.2.1 HI.out.2.2.2 rfl (by decide) v7 m (flatS (rowC st V) m) rfl O7.out A8 (T - (m + 1)) (cap - (m + 1)) (flatS (fun i => rowC st V (m + 1 + i)) (T - (m + 1))) rfl HN8.out HFL8.out (fun ad e => (HS8.out w7 B7.out).cellsAt (F := fun i => rowC st V (m + 1 + i)) (fun i => rfl) ad e) HO8.out (by unfold maxLen; omega) (by omega) HBS.out ?_
          intro v8 w8 ho8 hg8
          rw [show m + (T - (m + 1)) = T - 1 by omega] at ho8
          obtain ⟨g9, c9, rfl⟩ := own_shapeR ho8 (by have := HI1.out; omega)
          have O8 := Lib.hid ho8
          have B8 : Hid (Below w.heap.size w w8) := Lib.hid (B7.out.grown hg8 B7.out.size (fun k hk => (row_lt O7.out hk).1))
          have c8 := (HP0.out w8 B8.out).1
          have f8 := (HP0.out w8 B8.out).2
          clear ho8 hg8
          refine hKK.out _ _ trivial (fun hHeld => ?_)
          clear hKK KK
          try simp only [Act.put, List.setIfInBounds_toArray, List.set_cons_zero, List.set_cons_succ]
          refine wpAnyH_take (i := 17) (v := ?_) (by simp only [List.getElem?_toArray, List.getElem?_cons_zero, List.getElem?_cons_succ]; rfl) (by kernel_rfl) (by kernel_rfl) (by kernel_rfl) (by intro _ _ _ h; exact h) (Or.inl ⟨by rfl, ?_⟩) hHeld ?_
          rotate_left
          · (intro w hSw; (try dsimp only at hSw); go_simp; try with_reducible rfl)
          try simp only [Act.put, List.setIfInBounds_toArray, List.set_cons_zero, List.set_cons_succ]
          refine wpAnyH_take (i := 18) (v := ?_) (by simp only [List.getElem?_toArray, List.getElem?_cons_zero, List.getElem?_cons_succ]; rfl) (by kernel_rfl) (by kernel_rfl) (by kernel_rfl) (by intro _ _ _ h; exact h) (Or.inl ⟨by rfl, ?_⟩) hHeld ?_
          rotate_left
          · (intro w hSw; (try dsimp only at hSw); go_simp; try with_reducible rfl)
          try simp only [Act.put, List.setIfInBounds_toArray, List.set_cons_zero, List.set_cons_succ]
          refine wpAnyH_ready (rs := [19]) (by kernel_rfl) (by simp) ?_
          refine AllReadyH.cons (by simp only [List.getElem?_toArray, List.getElem?_cons_zero, List.getElem?_cons_succ]; rfl) (fun KK hKK => ?_) AllReadyH.nil
          rw [if_pos (by rfl)]
          go_simp
          refine hKK.out _ _ trivial (fun hHeld => ?_)
          clear hKK KK
          try simp only [Act.put, List.setIfInBounds_toArray, List.set_cons_zero, List.set_cons_succ]
          refine wpAnyH_done (by kernel_rfl) ?_ _
          clear hHeld
          obtain ⟨w9, hw9⟩ : ∃ w9, w9 = w8.setCell ⟨p, 0, none⟩ (.slice (some ⟨g9, 0, none⟩) (T - 1) c9) := ⟨_, rfl⟩
          have HR := Lib.hid (H.out.del (m := m) (w2 := w9) B8.out HN0.out HDEL.out HI1.out HIL.out rfl HINV.out (by rw [← HKL.out]; exact O8.out) (by rw [← HKL.out]; exact hw9))
          rw [← hw9]
          clear hw9 c8 f8
          go_wp2_with fail
          go_ret
          exact ⟨ret_int HE.out.symm, HR.out⟩
      · rw [if_pos (by rfl)]
        go_simp
        refine hKK.out _ _ trivial (fun hHeld => ?_)
        clear hKK KK
        try simp only [Act.put, List.setIfInBounds_toArray, List.set_cons_zero, List.set_cons_succ]
        refine wpAnyH_take (i := 15) (v := _) (by simp only [List.getElem?_toArray, List.getElem?_cons_zero, List.getElem?_cons_succ]; rfl) (by kernel_rfl) (by kernel_rfl) (by kernel_rfl) (by intro _ _ _ h; exact h) (yields_slice (by rfl) 57 (.tmp 23) (some (.tmp 25)) none rfl (.slice (some ⟨g, 0, none⟩) T cap) rfl (some (.int .i64 ((m + 1 : Nat) : Int))) none rfl rfl (.slice A8 (T - (m + 1)) (cap - (m + 1))) HTL.out) hHeld ?_
        try simp only [Act.put, List.setIfInBounds_toArray, List.set_cons_zero, List.set_cons_succ]
        refine wpAnyH_ready (rs := [1]) (by kernel_rfl) (by simp) ?_
        refine AllReadyH.cons (by simp only [List.getElem?_toArray, List.getElem?_cons_zero, List.getElem?_cons_succ]; rfl) (fun KK hKK => ?_) AllReadyH.nil
        rw [if_pos (by rfl)]
        go_simp
        try rw [HW6.out, ← HG0.out]
        refine hKK.out _ _ trivial (fun hHeld => ?_)
        clear hKK KK
        try simp only [Act.put, List.setIfInBounds_toArray, List.set_cons_zero, List.set_cons_succ]
        refine wpAnyH_ready (rs := [8]) (by kernel_rfl) (by simp) ?_
        refine AllReadyH.cons (by simp only [List.getElem?_toArray, List.getElem?_cons_zero, List.getElem?_cons_succ]; rfl) (fun KK hKK => ?_) AllReadyH.nil
        rw [if_pos (by rfl)]
        have HBS : Hid (w.heap.size ≤ w6.heap.size) := Lib.hid B6.out.size
        refine wp_append_any (.tmp 12) (.tmp 18) 57 rfl w.heap.size 56 i0 (.agg #[.int .i64 0, .slice none 0 0]) 2 32 Tryz.underlying57 HI.out.1 HI.out.2.1 HI.out.2.2.1 HI.out.2.2.2 rfl (by decide) (.slice (some ⟨g0, 0, none⟩) 0 0) 0 [] rfl OW0.out (some ⟨g, 0, none⟩) m cap (flatS (rowC st V) m) rfl (fun h => by cases h) HFL.out (fun ad e => ((HSA.out w6 B6.out).less hmk).cellsAt (wideR st V) ad e) HO1.out (by unfold maxLen; omega) (by omega) HBS.out ?_
        intro v7 w7 ho7 hg7
        rw [Nat.zero_add, List.nil_append] at ho7
        have O7 := Lib.hid ho7
        have B7 : Hid (Below w.heap.size w w7) := Lib.hid (B6.out.grown hg7 B6.out.size (fun k e => by have e2 : g0 = k := (by simpa [Value.ownBlock] using e); rw [← e2, HG0.out]; exact BQ.out.size))
        have c7 := (HP0.out w7 B7.out).1
        clear ho7 hg7
        refine hKK.out _ _ trivial (fun hHeld => ?_)
        clear hKK KK
        try simp only [Act.put, List.setIfInBounds_toArray, List.set_cons_zero, List.set_cons_succ]
        refine wpAnyH_ready (rs := [16]) (by kernel_rfl) (by simp) ?_
        refine AllReadyH.cons (by simp only [List.getElem?_toArray, List.getElem?_cons_zero, List.getElem?_cons_succ]; rfl) (fun KK hKK => ?_) AllReadyH.nil
        rw [if_pos (by rfl)]
        have HBS : Hid (w.heap.size ≤ w7.heap.size) := Lib.hid B7.out.size
        refine wp_append_any (.tmp 19) (.tmp 26) 57 rfl w.heap.size 56 i0 (.agg #[.int .i64 0, .slice none 0 0]) 2 32 Tryz.underlying57 HI.out.1 HI.out.2.1 HI.out.2.2.1 HI.out.2.2.2 rfl (by decide) v7 m (flatS (rowC st V) m) rfl O7.out A8 (T - (m + 1)) (cap - (m + 1)) (flatS (fun i => rowC st V (m + 1 + i)) (T - (m + 1))) rfl HN8.out HFL8.out (fun ad e => (HS8.out w7 B7.out).cellsAt (F := fun i => rowC st V (m + 1 + i)) (fun i => rfl) ad e) HO8.out (by unfold maxLen; omega) (by omega) HBS.out ?_
        intro v8 w8 ho8 hg8
        rw [show m + (T - (m + 1)) = T - 1 by omega] at ho8
        obtain ⟨g9, c9, rfl⟩ := own_shapeR ho8 (by have := HI1.out; omega)
        have O8 := Lib.hid ho8
        have B8 : Hid (Below w.heap.size w w8) := Lib.hid (B7.out.grown hg8 B7.out.size (fun k hk => (row_lt O7.out hk).1))
        have c8 := (HP0.out w8 B8.out).1
        have f8 := (HP0.out w8 B8.out).2
        clear ho8 hg8
        refine hKK.out _ _ trivial (fun hHeld => ?_)
        clear hKK KK
        try simp only [Act.put, List.setIfInBounds_toArray, List.set_cons_zero, List.set_cons_succ]
        refine wpAnyH_take (i := 17) (v := ?_) (by simp only [List.getElem?_toArray, List.getElem?_cons_zero, List.getElem?_cons_succ]; rfl) (by kernel_rfl) (by kernel_rfl) (by kernel_rfl) (by intro _ _ _ h; exact h) (Or.inl ⟨by rfl, ?_⟩) hHeld ?_
        rotate_left
        · (intro w hSw; (try dsimp only at hSw); go_simp; try with_reducible rfl)
        try simp only [Act.put, List.setIfInBounds_toArray, List.set_cons_zero, List.set_cons_succ]
        refine wpAnyH_take (i := 18) (v := ?_) (by simp only [List.getElem?_toArray, List.getElem?_cons_zero, List.getElem?_cons_succ]; rfl) (by kernel_rfl) (by kernel_rfl) (by kernel_rfl) (by intro _ _ _ h; exact h) (Or.inl ⟨by rfl, ?_⟩) hHeld ?_
        rotate_left
        · (intro w hSw; (try dsimp only at hSw); go_simp; try with_reducible rfl)
        try simp only [Act.put, List.setIfInBounds_toArray, List.set_cons_zero, List.set_cons_succ]
        refine wpAnyH_ready (rs := [19]) (by kernel_rfl) (by simp) ?_
        refine AllReadyH.cons (by simp only [List.getElem?_toArray, List.getElem?_cons_zero, List.getElem?_cons_succ]; rfl) (fun KK hKK => ?_) AllReadyH.nil
        rw [if_pos (by rfl)]
        go_simp
        refine hKK.out _ _ trivial (fun hHeld => ?_)
        clear hKK KK
        try simp only [Act.put, List.setIfInBounds_toArray, List.set_cons_zero, List.set_cons_succ]
        refine wpAnyH_done (by kernel_rfl) ?_ _
        clear hHeld
        obtain ⟨w9, hw9⟩ : ∃ w9, w9 = w8.setCell ⟨p, 0, none⟩ (.slice (some ⟨g9, 0, none⟩) (T - 1) c9) := ⟨_, rfl⟩
        have HR := Lib.hid (H.out.del (m := m) (w2 := w9) B8.out HN0.out HDEL.out HI1.out HIL.out rfl HINV.out (by rw [← HKL.out]; exact O8.out) (by rw [← HKL.out]; exact hw9))
        rw [← hw9]
        clear hw9 c8 f8
        go_wp2_with fail
        go_ret
        exact ⟨ret_int HE.out.symm, HR.out⟩
    · rw [if_pos (by rfl)]
      go_simp
      refine hKK.out _ _ trivial (fun hHeld => ?_)
      clear hKK KK
      try simp only [Act.put, List.setIfInBounds_toArray, List.set_cons_zero, List.set_cons_succ]
      refine wpAnyH_take (i := 15) (v := _) (by simp only [List.getElem?_toArray, List.getElem?_cons_zero, List.getElem?_cons_succ]; rfl) (by kernel_rfl) (by kernel_rfl) (by kernel_rfl) (by intro _ _ _ h; exact h) (yields_slice (by rfl) 57 (.tmp 23) (some (.tmp 25)) none rfl (.slice (some ⟨g, 0, none⟩) T cap) rfl (some (.int .i64 ((m + 1 : Nat) : Int))) none rfl rfl (.slice A8 (T - (m + 1)) (cap - (m + 1))) HTL.out) hHeld ?_
      try simp only [Act.put, List.setIfInBounds_toArray, List.set_cons_zero, List.set_cons_succ]
      refine wpAnyH_ready (rs := [1, 5]) (by kernel_rfl) (by simp) ?_
      refine AllReadyH.cons (by simp only [List.getElem?_toArray, List.getElem?_cons_zero, List.getElem?_cons_succ]; rfl) (fun KK hKK => ?_) (AllReadyH.cons (by simp only [List.getElem?_toArray, List.getElem?_cons_zero, List.getElem?_cons_succ]; rfl) (fun KK hKK => ?_) AllReadyH.nil)
      · rw [if_pos (by rfl)]
        go_simp
        try rw [HW6.out, ← HG0.out]
        refine hKK.out _ _ trivial (fun hHeld => ?_)
        clear hKK KK
        try simp only [Act.put, List.setIfInBounds_toArray, List.set_cons_zero, List.set_cons_succ]
        refine wpAnyH_ready (rs := [5]) (by kernel_rfl) (by simp) ?_
        refine AllReadyH.cons (by simp only [List.getElem?_toArray, List.getElem?_cons_zero, List.getElem?_cons_succ]; rfl) (fun KK hKK => ?_) AllReadyH.nil
        rw [if_pos (by rfl)]
        go_simp
        refine hKK.out _ _ trivial (fun hHeld => ?_)
        clear hKK KK
        try simp only [Act.put, List.setIfInBounds_toArray, List.set_cons_zero, List.set_cons_succ]
        refine wpAnyH_take (i := 7) (v := _) (by simp only [List.getElem?_toArray, List.getElem?_cons_zero, List.getElem?_cons_succ]; rfl) (by kernel_rfl) (by kernel_rfl) (by kernel_rfl) (by intro _ _ _ h; exact h) (yields_slice (by rfl) 57 (.tmp 16) none (some (.tmp 17)) rfl (.slice (some ⟨g, 0, none⟩) T cap) rfl none (some (.int .i64 m)) rfl rfl (.slice (some ⟨g, 0, none⟩) m cap) HHD.out) hHeld ?_
        try simp only [Act.put, List.setIfInBounds_toArray, List.set_cons_zero, List.set_cons_succ]
        refine wpAnyH_ready (rs := [8]) (by kernel_rfl) (by simp) ?_
        refine AllReadyH.cons (by simp only [List.getElem?_toArray, List.getElem?_cons_zero, List.getElem?_cons_succ]; rfl) (fun KK hKK => ?_) AllReadyH.nil
        rw [if_pos (by rfl)]
        have HBS : Hid (w.heap.size ≤ w6.heap.size) := Lib.hid B6.out.size
        refine wp_append_any (.tmp 12) (.tmp 18) 57 rfl w.heap.size 56 i0 (.agg #[.int .i64 0, .slice none 0 0]) 2 32 Tryz.underlying57 HI.out.1 HI.out.2.1 HI.out.2.2.1 HI.out.2.2.2 rfl (by decide) (.slice (some ⟨g0, 0, none⟩) 0 0) 0 [] rfl OW0.out (some ⟨g, 0, none⟩) m cap (flatS (rowC st V) m) rfl (fun h => by cases h) HFL.out (fun ad e => ((HSA.out w6 B6.out).less hmk).cellsAt (wideR st V) ad e) HO1.out (by unfold maxLen; omega) (by omega) HBS.out ?_
        intro v7 w7 ho7 hg7
        rw [Nat.zero_add, List.nil_append] at ho7
        have O7 := Lib.hid ho7
        have B7 : Hid (Below w.heap.size w w7) := Lib.hid (B6.out.grown hg7 B6.out.size (fun k e => by have e2 : g0 = k := (by simpa [Value.ownBlock] using e); rw [← e2, HG0.out]; exact BQ.out.size))
        have c7 := (HP0.out w7 B7.out).1
        clear ho7 hg7
        refine hKK.out _ _ trivial (fun hHeld => ?_)
        clear hKK KK
        try simp only [Act.put, List.setIfInBounds_toArray, List.set_cons_zero, List.set_cons_succ]
        refine wpAnyH_ready (rs := [16]) (by kernel_rfl) (by simp) ?_
        refine AllReadyH.cons (by simp only [List.getElem?_toArray, List.getElem?_cons_zero, List.getElem?_cons_succ]; rfl) (fun KK hKK => ?_) AllReadyH.nil
        rw [if_pos (by rfl)]
        have HBS : Hid (w.heap.size ≤ w7.heap.size) := Lib.hid B7.out.size
        refine wp_append_any (.tmp 19) (.tmp 26) 57 rfl w.heap.size 56 i0 (.agg #[.int .i64 0, .slice none 0 0]) 2 32 Tryz.underlying57 HI.out.1 HI.out.2.1 HI.out.2.2.1 HI.out.2.2.2 rfl (by decide) v7 m (flatS (rowC st V) m) rfl O7.out A8 (T - (m + 1)) (cap - (m + 1)) (flatS (fun i => rowC st V (m + 1 + i)) (T - (m + 1))) rfl HN8.out HFL8.out (fun ad e => (HS8.out w7 B7.out).cellsAt (F := fun i => rowC st V (m + 1 + i)) (fun i => rfl) ad e) HO8.out (by unfold maxLen; omega) (by omega) HBS.out ?_
        intro v8 w8 ho8 hg8
        rw [show m + (T - (m + 1)) = T - 1 by omega] at ho8
        obtain ⟨g9, c9, rfl⟩ := own_shapeR ho8 (by have := HI1.out; omega)
        have O8 := Lib.hid ho8
        have B8 : Hid (Below w.heap.size w w8) := Lib.hid (B7.out.grown hg8 B7.out.size (fun k hk => (row_lt O7.out hk).1))
        have c8 := (HP0.out w8 B8.out).1
        have f8 := (HP0.out w8 B8.out).2
        clear ho8 hg8
        refine hKK.out _ _ trivial (fun hHeld => ?_)
        clear hKK KK
        try simp only [Act.put, List.setIfInBounds_toArray, List.set_cons_zero, List.set_cons_succ]
        refine wpAnyH_take (i := 17) (v := ?_) (by simp only [List.getElem?_toArray, List.getElem?_cons_zero, List.getElem?_cons_succ]; rfl) (by kernel_rfl) (by kernel_rfl) (by kernel_rfl) (by intro _ _ _ h; exact h) (Or.inl ⟨by rfl, ?_⟩) hHeld ?_
        rotate_left
        · (intro w hSw; (try dsimp only at hSw); go_simp; try with_reducible rfl)
        try simp only [Act.put, List.setIfInBounds_toArray, List.set_cons_zero, List.set_cons_succ]
        refine wpAnyH_take (i := 18) (v := ?_) (by simp only [List.getElem?_toArray, List.getElem?_cons_zero, List.getElem?_cons_succ]; rfl) (by kernel_rfl) (by kernel_rfl) (by kernel_rfl) (by intro _ _ _ h; exact h) (Or.inl ⟨by rfl, ?_⟩) hHeld ?_
        rotate_left
        · (intro w hSw; (try dsimp only at hSw); go_simp; try with_reducible rfl)
        try simp only [Act.put, List.setIfInBounds_toArray, List.set_cons_zero, List.set_cons_succ]
        refine wpAnyH_ready (rs := [19]) (by kernel_rfl) (by simp) ?_
        refine AllReadyH.cons (by simp only [List.getElem?_toArray, List.getElem?_cons_zero, List.getElem?_cons_succ]; rfl) (fun KK hKK => ?_) AllReadyH.nil
        rw [if_pos (by rfl)]
        go_simp
        refine hKK.out _ _ trivial (fun hHeld => ?_)
        clear hKK KK
        try simp only [Act.put, List.setIfInBounds_toArray, List.set_cons_zero, List.set_cons_succ]
        refine wpAnyH_done (by kernel_rfl) ?_ _
        clear hHeld
        obtain ⟨w9, hw9⟩ : ∃ w9, w9 = w8.setCell ⟨p, 0, none⟩ (.slice (some ⟨g9, 0, none⟩) (T - 1) c9) := ⟨_, rfl⟩
        have HR := Lib.hid (H.out.del (m := m) (w2 := w9) B8.out HN0.out HDEL.out HI1.out HIL.out rfl HINV.out (by rw [← HKL.out]; exact O8.out) (by rw [← HKL.out]; exact hw9))
        rw [← hw9]
        clear hw9 c8 f8
        go_wp2_with fail
        go_ret
        exact ⟨ret_int HE.out.symm, HR.out⟩
      · rw [if_pos (by rfl)]
        go_simp
        refine hKK.out _ _ trivial (fun hHeld => ?_)
        clear hKK KK
        try simp only [Act.put, List.setIfInBounds_toArray, List.set_cons_zero, List.set_cons_succ]
        refine wpAnyH_take (i := 7) (v := _) (by simp only [List.getElem?_toArray, List.getElem?_cons_zero, List.getElem?_cons_succ]; rfl) (by kernel_rfl) (by kernel_rfl) (by kernel_rfl) (by intro _ _ _ h; exact h) (yields_slice (by rfl) 57 (.tmp 16) none (some (.tmp 17)) rfl (.slice (some ⟨g, 0, none⟩) T cap) rfl none (some (.int .i64 m)) rfl rfl (.slice (some ⟨g, 0, none⟩) m cap) HHD.out) hHeld ?_
        try simp only [Act.put, List.setIfInBounds_toArray, List.set_cons_zero, List.set_cons_succ]
        refine wpAnyH_ready (rs := [1]) (by kernel_rfl) (by simp) ?_
        refine AllReadyH.cons (by simp only [List.getElem?_toArray, List.getElem?_cons_zero, List.getElem?_cons_succ]; rfl) (fun KK hKK => ?_) AllReadyH.nil
        rw [if_pos (by rfl)]
        go_simp
        try rw [HW6.out, ← HG0.out]
        refine hKK.out _ _ trivial (fun hHeld => ?_)
        clear hKK KK
        try simp only [Act.put, List.setIfInBounds_toArray, List.set_cons_zero, List.set_cons_succ]
        refine wpAnyH_ready (rs := [8]) (by kernel_rfl) (by simp) ?_
        refine AllReadyH.cons (by simp only [List.getElem?_toArray, List.getElem?_cons_zero, List.getElem?_cons_succ]; rfl) (fun KK hKK => ?_) AllReadyH.nil
        rw [if_pos (by rfl)]
        have HBS : Hid (w.heap.size ≤ w6.heap.size) := Lib.hid B6.out.size
        refine wp_append_any (.tmp 12) (.tmp 18) 57 rfl w.heap.size 56 i0 (.agg #[.int .i64 0, .slice none 0 0]) 2 32 Tryz.underlying57 HI.out.1 HI.out.2.1 HI.out.2.2.1 HI.out.2.2.2 rfl (by decide) (.slice (some ⟨g0, 0, none⟩) 0 0) 0 [] rfl OW0.out (some ⟨g, 0, none⟩) m cap (flatS (rowC st V) m) rfl (fun h => by cases h) HFL.out (fun ad e => ((HSA.out w6 B6.out).less hmk).cellsAt (wideR st V) ad e) HO1.out (by unfold maxLen; omega) (by omega) HBS.out ?_
        intro v7 w7 ho7 hg7
        rw [Nat.zero_add, List.nil_append] at ho7
        have O7 := Lib.hid ho7
        have B7 : Hid (Below w.heap.size w w7) := Lib.hid (B6.out.grown hg7 B6.out.size (fun k e => by have e2 : g0 = k := (by simpa [Value.ownBlock] using e); rw [← e2, HG0.out]; exact BQ.out.size))
        have c7 := (HP0.out w7 B7.out).1
        clear ho7 hg7
        refine hKK.out _ _ trivial (fun hHeld => ?_)
        clear hKK KK
        try simp only [Act.put, List.setIfInBounds_toArray, List.set_cons_zero, List.set_cons_succ]
        refine wpAnyH_ready (rs := [16]) (by kernel_rfl) (by simp) ?_
        refine AllReadyH.cons (by simp only [List.getElem?_toArray, List.getElem?_cons_zero, List.getElem?_cons_succ]; rfl) (fun KK hKK => ?_) AllReadyH.nil
        rw [if_pos (by rfl)]
        have HBS : Hid (w.heap.size ≤ w7.heap.size) := Lib.hid B7.out.size
        refine wp_append_any (.tmp 19) (.tmp 26) 57 rfl w.heap.size 56 i0 (.agg #[.int .i64 0, .slice none 0 0]) 2 32 Tryz.underlying57 HI.out.1 HI.out.2.1 HI.out.2.2.1 HI.out.2.2.2 rfl (by decide) v7 m (flatS (rowC st V) m) rfl O7.out A8 (T - (m + 1)) (cap - (m + 1)) (flatS (fun i => rowC st V (m + 1 + i)) (T - (m + 1))) rfl HN8.out HFL8.out (fun ad e => (HS8.out w7 B7.out).cellsAt (F := fun i => rowC st V (m + 1 + i)) (fun i => rfl) ad e) HO8.out (by unfold maxLen; omega) (by omega) HBS.out ?_
        intro v8 w8 ho8 hg8
        rw [show m + (T - (m + 1)) = T - 1 by omega] at ho8
        obtain ⟨g9, c9, rfl⟩ := own_shapeR ho8 (by have := HI1.out; omega)
        have O8 := Lib.hid ho8
        have B8 : Hid (Below w.heap.size w w8) := Lib.hid (B7.out.grown hg8 B7.out.size (fun k hk => (row_lt O7.out hk).1))
        have c8 := (HP0.out w8 B8.out).1
        have f8 := (HP0.out w8 B8.out).2
        clear ho8 hg8
        refine hKK.out _ _ trivial (fun hHeld => ?_)
        clear hKK KK
        try simp only [Act.put, List.setIfInBounds_toArray, List.set_cons_zero, List.set_cons_succ]
        refine wpAnyH_take (i := 17) (v := ?_) (by simp only [List.getElem?_toArray, List.getElem?_cons_zero, List.getElem?_cons_succ]; rfl) (by kernel_rfl) (by kernel_rfl) (by kernel_rfl) (by intro _ _ _ h; exact h) (Or.inl ⟨by rfl, ?_⟩) hHeld ?_
        rotate_left
        · (intro w hSw; (try dsimp only at hSw); go_simp; try with_reducible rfl)
        try simp only [Act.put, List.setIfInBounds_toArray, List.set_cons_zero, List.set_cons_succ]
        refine wpAnyH_take (i := 18) (v := ?_) (by simp only [List.getElem?_toArray, List.getElem?_cons_zero, List.getElem?_cons_succ]; rfl) (by kernel_rfl) (by kernel_rfl) (by kernel_rfl) (by intro _ _ _ h; exact h) (Or.inl ⟨by rfl, ?_⟩) hHeld ?_
        rotate_left
        · (intro w hSw; (try dsimp only at hSw); go_simp; try with_reducible rfl)
        try simp only [Act.put, List.setIfInBounds_toArray, List.set_cons_zero, List.set_cons_succ]
        refine wpAnyH_ready (rs := [19]) (by kernel_rfl) (by simp) ?_
        refine AllReadyH.cons (by simp only [List.getElem?_toArray, List.getElem?_cons_zero, List.getElem?_cons_succ]; rfl) (fun KK hKK => ?_) AllReadyH.nil
        rw [if_pos (by rfl)]
        go_simp
        refine hKK.out _ _ trivial (fun hHeld => ?_)
        clear hKK KK
        try simp only [Act.put, List.setIfInBounds_toArray, List.set_cons_zero, List.set_cons_succ]
        refine wpAnyH_done (by kernel_rfl) ?_ _
        clear hHeld
        obtain ⟨w9, hw9⟩ : ∃ w9, w9 = w8.setCell ⟨p, 0, none⟩ (.slice (some ⟨g9, 0, none⟩) (T - 1) c9) := ⟨_, rfl⟩
        have HR := Lib.hid (H.out.del (m := m) (w2 := w9) B8.out HN0.out HDEL.out HI1.out HIL.out rfl HINV.out (by rw [← HKL.out]; exact O8.out) (by rw [← HKL.out]; exact hw9))
        rw [← hw9]
        clear hw9 c8 f8
        go_wp2_with fail
        go_ret
        exact ⟨ret_int HE.out.symm, HR.out⟩
end Go.Proofs.YtodhaaaodmcplaaGreat
