/- Layer 23 (maps): the document's maps in memory; New, find. -/
import Derived.Test.YtodhaaaodmcplaaGreatNl
import Derived.OwnWalk
set_option linter.all false
namespace Go.Proofs.YtodhaaaodmcplaaGreat
open Go.RowKit Go.Maps Go.WideMaps
def mpA (st : MS) (i : Nat) : Mp1 := (((allS st)[i]?).map fun x => x.2).getD F0
theorem mpA_at {st : MS} {j : Nat} {x : Int × Mp1} (h : (allS st)[j]? = some x) : mpA st j = x.2 := by unfold mpA; rw [h]; rfl
theorem all_len (st : MS) : (allS st).length = st.snaps.length + 1 := rfl
theorem all_at {st : MS} {i : Nat} (h : i < (allS st).length) : (allS st)[i]? = some (idA st i, mpA st i) := by
  have e := List.getElem?_eq_getElem h
  rw [e, idA_at e, mpA_at e]
theorem idA_zero (st : MS) : idA st 0 = 0 := rfl
theorem mpA_zero (st : MS) : mpA st 0 = st.now := rfl
/-- Each map's number and row. -/
def rowC (st : MS) (V : Nat → Value) (i : Nat) : List Value := [.int .i64 (idA st i), V i]
theorem wideR (st : MS) (V : Nat → Value) : Wide 2 (rowC st V) := fun _ => rfl
def unitsC (F : Mp1) (n : Nat) : List Value := flatS (fun u => slcC (F u)) n
theorem unitsC_len (F : Mp1) (n : Nat) : (unitsC F n).length = n * 34 := flatS_len (wideC F) n
theorem unitsC_one (F : Mp1) (n : Nat) : ∀ v ∈ unitsC F n, v.oneCell' = true := flatS_one fun _ _ u hu => oneC _ u hu
structure Rm (n0 : Nat) (w : World) (p g cap : Nat) (st : MS) (V : Nat → Value) : Prop where
  cell : w.heap[p]? = some (.cells #[.slice (some ⟨g, 0, none⟩) (allS st).length cap] 59 (0, 0))
  row : w.ownsRow n0 56 2 (.slice (some ⟨g, 0, none⟩) (allS st).length cap) (allS st).length (flatS (rowC st V) (allS st).length)
  sl : ∀ i, i < (allS st).length → w.ownsRow n0 33 34 (V i) st.n (unitsC (mpA st i) st.n)
  own : ∀ i, 1 ≤ i → i < (allS st).length → ∀ b, (V 0).ownBlock = some b → (V i).ownBlock ≠ some b
  inv : Inv st
  lp : n0 ≤ p
/-- The document's maps, wherever their rows lie. -/
def Rs (n0 : Nat) (w : World) (p : Nat) (st : MS) : Prop := ∃ g cap V, Rm n0 w p g cap st V
/-- Only blocks of the document's maps are turned. -/
def KR (n0 : Nat) (w w2 : World) : Prop := Keeps (fun k => n0 ≤ k ∧ ∃ cs t z, w.heap[k]? = some (.cells cs t z) ∧ (t = 59 ∨ t = 33 ∨ t = 56)) w w2
theorem KR.fresh {n0 : Nat} {w w2 : World} (h : Below w.heap.size w w2) : KR n0 w w2 := Keeps.fresh h
theorem KR.trans {n0 : Nat} {a b c : World} (h : KR n0 a b) (k : KR n0 b c) : KR n0 a c := Keeps.trans h k fun i hi hx => by
  by_cases e : n0 ≤ i ∧ ∃ cs t z, a.heap[i]? = some (.cells cs t z) ∧ (t = 59 ∨ t = 33 ∨ t = 56)
  · exact e
  · obtain ⟨h1, cs, t, z, h2, h3⟩ := hx
    exact ⟨h1, cs, t, z, (h.block i hi e).symm.trans h2, h3⟩
theorem KR.below {n0 : Nat} {w w2 : World} (h : KR n0 w w2) (hn : n0 ≤ w.heap.size) : Below n0 w w2 := Keeps.below h (fun _ hk => hk.1) hn
theorem KR.of {n0 : Nat} {w w2 : World} {k : Nat} {cs : Array Value} {t : TypeId} {z : Nat × Nat} (h : Keeps (fun j => j = k) w w2) (hn : n0 ≤ k) (hk : w.heap[k]? = some (.cells cs t z)) (ht : t = 59 ∨ t = 33 ∨ t = 56) : KR n0 w w2 := Keeps.mono h fun i _ e => by subst e; exact ⟨hn, cs, t, z, hk, ht⟩
/-- The program's maps stay, whatever the document's do. -/
theorem KR.ms {n0 n1 : Nat} {w w2 : World} {p mb : Nat} {st : MS} (h : KR n0 w w2) (hm : Ms n1 w p mb st) : Ms n1 w2 p mb st := by
  obtain ⟨A, hm⟩ := hm
  refine ⟨A, hm.keeps h fun k e => ?_⟩
  obtain ⟨_, cs, t, z, h1, h2⟩ := e
  refine ⟨fun e => cells_ne h1 hm.blk (by rcases h2 with rfl | rfl | rfl <;> decide) e, fun e => gm_ne h1 hm.map e, fun ds y e => cells_ne h1 e (by rcases h2 with rfl | rfl | rfl <;> decide) rfl⟩
/-- The block of a row. -/
theorem own_cells {w : World} {base n s k : Nat} {e : TypeId} {v : Value} {xs : List Value} (h : w.ownsRow base e s v n xs) (hk : v.ownBlock = some k) : base ≤ k ∧ ∃ cs, w.heap[k]? = some (.cells cs e (0, 0)) := by
  rcases h.2 with ⟨h1, _⟩ | ⟨g, cap, cur, h1, h2, hg, _⟩
  · rw [h1] at hk; cases hk
  · rw [h1] at hk
    injection hk with hk
    subst hk
    exact ⟨h2, cur, hg⟩
theorem own_shapeR {w : World} {base n s : Nat} {e : TypeId} {v : Value} {xs : List Value} (h : w.ownsRow base e s v n xs) (h0 : 0 < n) : ∃ g c, v = .slice (some ⟨g, 0, none⟩) n c := by
  rcases h.2 with ⟨_, h1⟩ | ⟨g, cap, cur, h1, _⟩
  · omega
  · exact ⟨g, cap, h1⟩
section
variable {n0 : Nat} {w w2 : World} {p g cap : Nat} {st : MS} {V : Nat → Value}
theorem Rm.lt (h : Rm n0 w p g cap st V) : p < w.heap.size := heap_lt h.cell
theorem Rm.pos (h : Rm n0 w p g cap st V) : 0 < (allS st).length := Nat.succ_pos _
theorem Rm.keeps {S : Nat → Prop} (h : Rm n0 w p g cap st V) (hk : Keeps S w w2) (hS : ∀ k, S k → ∀ cs t z, w.heap[k]? = some (.cells cs t z) → t ≠ 59 ∧ t ≠ 33 ∧ t ≠ 56) : Rm n0 w2 p g cap st V :=
  ⟨hk.heap h.cell fun e => (hS _ e _ _ _ h.cell).1 rfl, hk.row h.row fun k hb e => by obtain ⟨_, cs, h1⟩ := own_cells h.row hb; exact (hS _ e _ _ _ h1).2.2 rfl, fun i hi => hk.row (h.sl i hi) fun k hb e => by obtain ⟨_, cs, h1⟩ := own_cells (h.sl i hi) hb; exact (hS _ e _ _ _ h1).2.1 rfl, h.own, h.inv, h.lp⟩
theorem Rm.go (h : Rm n0 w p g cap st V) (hb : Below w.heap.size w w2) : Rm n0 w2 p g cap st V :=
  h.keeps (Keeps.fresh (S := fun _ => False) hb) fun _ h => h.elim
theorem Rs.go (h : Rs n0 w p st) (hb : Below w.heap.size w w2) : Rs n0 w2 p st := by
  obtain ⟨g, cap, V, h⟩ := h
  exact ⟨g, cap, V, h.go hb⟩
/-- The document's maps stay, whatever the program's do. -/
theorem Rs.other {q mb : Nat} {s s2 : MS} {n1 : Nat} (h : Rs n0 w p st) (hm : Ms n1 w q mb s) (hO : OutM n1 w w2 q mb s2) : Rs n0 w2 p st := by
  obtain ⟨g, cap, V, h⟩ := h
  obtain ⟨A, hm⟩ := hm
  refine ⟨g, cap, V, h.keeps hO.2 fun k e cs t z hk => ?_⟩
  rcases e with rfl | rfl
  · have := hm.blk
    rw [hk] at this
    injection this with this
    injection this with _ h2
    subst h2
    decide
  · exact absurd rfl (gm_ne hk hm.map)
theorem Rs.inv (h : Rs n0 w p st) : Inv st := by
  obtain ⟨g, cap, V, h⟩ := h
  exact h.inv
theorem Rm.at0 (h : Rm n0 w p g cap st V) : w.cell? ⟨p, 0, none⟩ = some (.slice (some ⟨g, 0, none⟩) (allS st).length cap) := block_cell h.cell 0 _ rfl
theorem Rm.id_cell (h : Rm n0 w p g cap st V) {i : Nat} (hi : i < (allS st).length) : w.cell? ⟨g, i * 2, none⟩ = some (.int .i64 (idA st i)) := by
  have h1 := h.row.cellAt (i * 2 + 0) (by omega)
  rw [flatS_at (wideR st V) (by omega) hi] at h1
  exact h1
theorem Rm.sl_cell (h : Rm n0 w p g cap st V) {i : Nat} (hi : i < (allS st).length) : w.cell? ⟨g, i * 2 + 1, none⟩ = some (V i) := by
  have h1 := h.row.cellAt (i * 2 + 1) (by omega)
  rw [flatS_at (wideR st V) (by omega) hi] at h1
  exact h1
/-- A map's row, opened. -/
theorem Rm.opened (h : Rm n0 w p g cap st V) {i : Nat} (hi : i < (allS st).length) : ∃ b c, V i = .slice (some ⟨b, 0, none⟩) st.n c ∧ n0 ≤ b ∧ b < w.heap.size ∧ ∀ u, u < st.n → w.rangeAt b (u * 34) (slcC (mpA st i u)) := by
  have ho := h.sl i hi
  obtain ⟨b, c, e⟩ := own_shapeR ho (by have := h.inv.n; omega)
  have hlt := row_lt ho (k := b) (by rw [e]; rfl)
  refine ⟨b, c, e, hlt.1, hlt.2, fun u hu j v hj => ?_⟩
  rw [e] at ho
  have hj34 : j < 34 := by rw [← lenC (mpA st i u)]; exact (List.getElem?_eq_some_iff.1 hj).1
  have hm : (u + 1) * 34 ≤ st.n * 34 := Nat.mul_le_mul_right _ hu
  have h1 := ho.cellAt (u * 34 + j) (by omega)
  unfold unitsC at h1
  rw [flatS_at (wideC (mpA st i)) hj34 hu, hj] at h1
  exact h1
/-- The current map is turned. -/
theorem Rm.turn (h : Rm n0 w p g cap st V) {F : Mp1} (hk : Keeps (fun k => (V 0).ownBlock = some k) w w2) (ho : w2.ownsRow n0 33 34 (V 0) st.n (unitsC F st.n)) : Rm n0 w2 p g cap { st with now := F } V := by
  have hty : ∀ k, (V 0).ownBlock = some k → ∃ cs, w.heap[k]? = some (.cells cs 33 (0, 0)) := fun k e => (own_cells (h.sl 0 h.pos) e).2
  have hrow : flatS (rowC { st with now := F } V) (allS st).length = flatS (rowC st V) (allS st).length := flatS_congr fun i _ => by
    unfold rowC idA
    rcases i with _ | i <;> rfl
  refine ⟨hk.heap h.cell fun e => ?_, ?_, fun i hi => ?_, h.own, ⟨h.inv.n, h.inv.rise, h.inv.ids, h.inv.len⟩, h.lp⟩
  · obtain ⟨cs, h1⟩ := hty _ e
    exact cells_ne h1 h.cell (by decide) rfl
  · show w2.ownsRow n0 _ 2 _ (allS st).length (flatS (rowC { st with now := F } V) (allS st).length)
    rw [hrow]
    refine hk.row h.row fun k hb e => ?_
    obtain ⟨cs, h1⟩ := hty _ e
    obtain ⟨_, ds, h2⟩ := own_cells h.row hb
    exact cells_ne h1 h2 (by decide) rfl
  · rcases i with _ | i
    · exact ho
    · exact hk.row (h.sl (i + 1) hi) fun k hb e => h.own (i + 1) (by omega) hi k e hb
theorem Rm.turnK (h : Rm n0 w p g cap st V) (hk : Keeps (fun k => (V 0).ownBlock = some k) w w2) : KR n0 w w2 := Keeps.mono hk fun i _ e => by
  obtain ⟨h1, cs, h2⟩ := own_cells (h.sl 0 h.pos) e
  exact ⟨h1, cs, _, _, h2, .inr (.inl rfl)⟩
end
theorem made_flat (zl : List Value) (k : Nat) (hs : 0 < zl.length) : (madeCells zl.toArray (k * zl.length)).toList = flatS (fun _ => zl) k := by
  apply List.ext_getElem?
  intro i
  have hw : Wide zl.length fun _ => zl := fun _ => rfl
  by_cases hi : i < k * zl.length
  · have hq := Nat.mod_lt i hs
    have hj : i / zl.length < k := Nat.div_lt_of_lt_mul (by rw [Nat.mul_comm]; exact hi)
    have h := flatS_at hw hq hj
    have e : i / zl.length * zl.length + i % zl.length = i := by rw [Nat.mul_comm]; exact Nat.div_add_mod i _
    rw [e] at h
    rw [h]
    simp [madeCells, hi, hq]
  · rw [List.getElem?_eq_none (by simp [madeCells]; omega), List.getElem?_eq_none (by rw [flatS_len hw]; omega)]
theorem infoSlP : (Tryz.prog.info? 33).map (fun i => (i.zero, i.size, i.bytes)) = some (some (.agg zS.toArray), 34, 48) := by kernel_rfl
theorem rnew_no (n : Int) (w : World) (h : n < 1 ∨ 512 < n) : Calls Tryz.prog 6 #[.int .i64 n] w fun e w' => e = .returned (.tuple #[.pointer none, .bool false]) ∧ w = w' := by
  by_cases h1 : n < 1
  · have d1 : decide (n < 1) = true := by simpa using h1
    go_enter Tryz.func6, Tryz.ntmps6
    go_wp2_with fail
    go_ret2
    exact ⟨rfl, rfl⟩
  · have h2 : 512 < n := by omega
    have d1 : decide (n < 1) = false := by simpa using h1
    have d2 : decide (512 < n) = true := by simpa using h2
    clear h
    go_enter Tryz.func6, Tryz.ntmps6
    go_wp2_with fail
    go_ret2
    exact ⟨rfl, rfl⟩
set_option maxRecDepth 100000 in
theorem rnew_yes (n : Nat) (w : World) (h : 1 ≤ n ∧ n ≤ 512) : Calls Tryz.prog 6 #[.int .i64 n] w fun e w' => ∃ p, e = .returned (.tuple #[.pointer (some ⟨p, 0, none⟩), .bool true]) ∧ Rs w.heap.size w' p (st0 n) ∧ Below w.heap.size w w' := by
  obtain ⟨i0, hi, hz0, hz1, hz2⟩ := infoParts infoSlP
  have HI := Lib.hid (And.intro hi (And.intro hz0 (And.intro hz1 hz2)))
  have H := Lib.hid h
  have HB2 : Hid (i0.bytes * n ≤ 281474976710656) := Lib.hid (by rw [hz2]; omega)
  have HML : Hid (n ≤ maxLen) := Lib.hid (by unfold maxLen; omega)
  have HLE : Hid (w.heap.size ≤ w.heap.size) := Lib.hid (Nat.le_refl _)
  have d1 : decide ((n : Int) < 1) = false := by simp; omega
  have d2 : decide ((512 : Int) < n) = false := by simp; omega
  have e1 : ¬ ((n : Int) < 1) := by omega
  have e2 : ¬ ((512 : Int) < n) := by omega
  clear h hi hz0 hz1 hz2
  go_enter Tryz.func6, Tryz.ntmps6
  go_upto_region 3 with fail
  go_wp2_with (refine wpList_make_full _ rfl (.tmp 10) (.tmp 10) 54 rfl w.heap.size 33 i0 (.agg zS.toArray) 34 Tryz.underlying54 HI.out.1 HI.out.2.1 HI.out.2.2.1 .i64 .i64 n n n rfl rfl rfl rfl HB2.out HML.out HLE.out ?_; intro w1 ho hg; have HO := Lib.hid ho; have HG := Lib.hid hg; clear ho hg)
  go_ret2
  have ho := HO.out
  have hmf := made_flat zS n (by rw [zS_len]; omega)
  rw [zS_len] at hmf
  rw [show (Value.agg zS.toArray).cells = zS.toArray from rfl, hmf] at ho
  have hb : Below w.heap.size w w1 := (Below.refl _ w).grown HG.out (Nat.le_refl _) (fun _ e => by cases e)
  obtain ⟨w2, hw2⟩ : ∃ w2, w2 = w1.alloc (.cells #[.int .i64 0, .slice (some ⟨w.heap.size, 0, none⟩) n n] 56) := ⟨_, rfl⟩
  have hb2 : Below w1.heap.size w1 w2 := by rw [hw2]; exact (Below.refl _ _).alloc (Nat.le_refl _) _
  have hc2 : w2.heap[w1.heap.size]? = some (.cells [.int .i64 0, .slice (some ⟨w.heap.size, 0, none⟩) n n].toArray 56 (0, 0)) := by rw [hw2]; exact heap_new _ _
  have hb3 : ∀ o, Below w2.heap.size w2 (w2.alloc o) := fun o => (Below.refl _ _).alloc (Nat.le_refl _) _
  refine ⟨w2.heap.size, by rw [hw2]; simp, ⟨w1.heap.size, 1, fun _ => .slice (some ⟨w.heap.size, 0, none⟩) n n, ?_, ?_, fun i hi => ?_, fun i h1 h2 => ?_, inv_st0 H.out, ?_⟩, ?_⟩
  · rw [← hw2]
    exact heap_new _ _
  · rw [← hw2]
    have h1 := own_one (w := w2) (base := w.heap.size) (s := 2) hc2 rfl hb.size
    exact (Keeps.fresh (S := fun _ => False) (hb3 _)).row h1 fun _ _ h => h
  · rw [← hw2]
    have e : i = 0 := by simp [allS, st0] at hi; exact hi
    subst e
    exact ((Keeps.fresh (S := fun _ => False) (hb3 _)).row ((Keeps.fresh (S := fun _ => False) hb2).row ho fun _ _ h => h) fun _ _ h => h)
  · simp [allS, st0] at h2
    omega
  · exact Nat.le_trans hb.size hb2.size
  · rw [← hw2]
    exact (hb.trans (hb2.mono hb.size)).trans ((hb3 _).mono (Nat.le_trans hb.size hb2.size))
end Go.Proofs.YtodhaaaodmcplaaGreat
