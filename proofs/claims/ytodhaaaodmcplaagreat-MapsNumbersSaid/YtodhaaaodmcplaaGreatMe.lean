/- Layer 23 (maps): maps in memory. -/
import Derived.Test.YtodhaaaodmcplaaGreatMb
import Derived.Test.YtodhaaaodmcplaaGreatMp
import Derived.Test.YtodhaaaodmcplaaGreatGm
import Derived.Test.YtodhaaaodmcplaaGreatApp
import Derived.Test.YtodhaaaodmcplaaGreatCn
import Derived.Lib.SlKeysI
import Derived.Test.YtodhaaaodmcplaaGreatChecked
set_option linter.all false
namespace Go.Proofs.YtodhaaaodmcplaaGreat
open Go.RowKit Go.Maps Go.WideMaps
theorem follows : Tryz.prog.follows .mixedOrders = true := by kernel_rfl
def okP (v : Value) : Prop := ∃ b : Nat, v = .pointer (some ⟨b, 0, none⟩)
abbrev TI : KeyT Tryz.prog 3 Int := intT Tryz.underlying3
/-- What the map of snapshots tells. -/
def snapL (A : Int → Nat) (L : List (Int × Mp1)) (id : Int) : Option Value := (findS id L).map fun _ => Value.pointer (some ⟨A id, 0, none⟩)
/-- Maps, as they lie: their block, the map of snapshots, a block for each snapshot. -/
structure Mx (n0 : Nat) (w : World) (p mb : Nat) (st : MS) (A : Int → Nat) : Prop where
  blk : w.heap[p]? = some (.cells (mxL st.n st.now (.map (some mb))).toArray 53 (0, 0))
  map : Gm Tryz.prog w TI okP mb st.snaps.length (snapL A st.snaps)
  snap : ∀ id F, findS id st.snaps = some F → w.heap[A id]? = some (.cells (oneL F).toArray 51 (0, 0)) ∧ n0 ≤ A id
  inv : Inv st
  lp : n0 ≤ p
  lm : n0 ≤ mb
/-- Maps, wherever their snapshots lie. -/
def Ms (n0 : Nat) (w : World) (p mb : Nat) (st : MS) : Prop := ∃ A, Mx n0 w p mb st A
def OutM (n0 : Nat) (w w' : World) (p mb : Nat) (st : MS) : Prop := Ms n0 w' p mb st ∧ Keeps (fun k => k = p ∨ k = mb) w w'
theorem cells_ne {w : World} {a b : Nat} {cs ds : Array Value} {t e : TypeId} {y z : Nat × Nat} (h : w.heap[a]? = some (.cells cs t y)) (h2 : w.heap[b]? = some (.cells ds e z)) (ht : t ≠ e) : a ≠ b := by
  rintro rfl
  rw [h] at h2
  injection h2 with h2
  injection h2 with _ h3
  exact ht h3
theorem gm_ne {w : World} {a b c : Nat} {cs : Array Value} {t : TypeId} {y : Nat × Nat} {ok : Value → Prop} {L : Int → Option Value} (h : w.heap[a]? = some (.cells cs t y)) (hg : Gm Tryz.prog w TI ok b c L) : a ≠ b := by
  rintro rfl
  obtain ⟨D, ⟨es, clock, hb, _⟩, _⟩ := hg
  rw [hb] at h
  injection h with h
  cases h
section
variable {n0 : Nat} {w w2 : World} {p mb : Nat} {st : MS} {A : Int → Nat}
theorem Mx.ne (h : Mx n0 w p mb st A) : p ≠ mb := gm_ne h.blk h.map
theorem Mx.lt (h : Mx n0 w p mb st A) : p < w.heap.size ∧ mb < w.heap.size := ⟨heap_lt h.blk, h.map.lt⟩
theorem Mx.keeps {S : Nat → Prop} (h : Mx n0 w p mb st A) (hk : Keeps S w w2) (hS : ∀ k, S k → k ≠ p ∧ k ≠ mb ∧ ∀ cs z, w.heap[k]? ≠ some (.cells cs 51 z)) : Mx n0 w2 p mb st A :=
  ⟨hk.heap h.blk fun e => (hS _ e).1 rfl, h.map.keeps (hk.block mb h.map.lt fun e => (hS _ e).2.1 rfl), fun id F hf => ⟨hk.heap (h.snap id F hf).1 fun e => (hS _ e).2.2 _ _ (h.snap id F hf).1, (h.snap id F hf).2⟩, h.inv, h.lp, h.lm⟩
theorem Ms.keeps {S : Nat → Prop} (h : Ms n0 w p mb st) (hk : Keeps S w w2) (hS : ∀ k, S k → k ≠ p ∧ k ≠ mb ∧ ∀ cs z, w.heap[k]? ≠ some (.cells cs 51 z)) : Ms n0 w2 p mb st := by
  obtain ⟨A, h⟩ := h
  exact ⟨A, h.keeps hk hS⟩
theorem Mx.go (h : Mx n0 w p mb st A) (hb : Below w.heap.size w w2) : Mx n0 w2 p mb st A :=
  h.keeps (Keeps.fresh (S := fun _ => False) hb) fun _ h => h.elim
theorem Ms.go (h : Ms n0 w p mb st) (hb : Below w.heap.size w w2) : Ms n0 w2 p mb st := by
  obtain ⟨A, h⟩ := h
  exact ⟨A, h.go hb⟩
theorem Ms.inv (h : Ms n0 w p mb st) : Inv st := by
  obtain ⟨A, h⟩ := h
  exact h.inv
theorem Ms.lt (h : Ms n0 w p mb st) : p < w.heap.size ∧ mb < w.heap.size := by
  obtain ⟨A, h⟩ := h
  exact h.lt
theorem Ms.lo (h : Ms n0 w p mb st) : n0 ≤ p ∧ n0 ≤ mb := by
  obtain ⟨A, h⟩ := h
  exact ⟨h.lp, h.lm⟩
/-- Another one's doings leave maps as they are. -/
theorem Ms.other {p2 mb2 : Nat} {st2 : MS} (h : Ms n0 w p mb st) (h2 : Ms n0 w p2 mb2 st2) (hk : Keeps (fun k => k = p2 ∨ k = mb2) w w2) (hp : p2 ≠ p) (hm : mb2 ≠ mb) : Ms n0 w2 p mb st := by
  obtain ⟨A, h⟩ := h
  obtain ⟨A2, h2⟩ := h2
  refine ⟨A, h.keeps hk fun k e => ?_⟩
  rcases e with rfl | rfl
  · exact ⟨hp, gm_ne h2.blk h.map, fun cs z e => cells_ne h2.blk e (by decide) rfl⟩
  · exact ⟨fun e => gm_ne h.blk h2.map e.symm, hm, fun cs z e => gm_ne e h2.map rfl⟩
/-- The current map is turned. -/
theorem Mx.turn (h : Mx n0 w p mb st A) {F : Mp1} {S : Nat → Prop} (hk : Keeps S w w2) (hS : ∀ k, S k → k = p) (hb : w2.heap[p]? = some (.cells (mxL st.n F (.map (some mb))).toArray 53 (0, 0))) : Mx n0 w2 p mb { st with now := F } A :=
  ⟨hb, h.map.keeps (hk.block mb h.map.lt fun e => h.ne (hS _ e).symm), fun id G hf => ⟨hk.heap (h.snap id G hf).1 (fun e => cells_ne (h.snap id G hf).1 h.blk (by decide) (hS _ e)), (h.snap id G hf).2⟩, ⟨h.inv.n, h.inv.rise, h.inv.ids, h.inv.len⟩, h.lp, h.lm⟩
theorem Mx.n_cell (h : Mx n0 w p mb st A) : w.cell? ⟨p, 0, none⟩ = some (.int .i64 st.n) := block_cell h.blk 0 _ (by rw [List.getElem?_toArray]; exact mxL_n _ _ _)
theorem Mx.map_cell (h : Mx n0 w p mb st A) : w.cell? ⟨p, 17409, none⟩ = some (.map (some mb)) := block_cell h.blk 17409 _ (by rw [List.getElem?_toArray]; exact mxL_v _ _ _)
theorem Mx.now_at (h : Mx n0 w p mb st A) : w.rangeAt p 1 (oneL st.now) := fun j v hj => by
  have hl : j < 17408 := by
    have := (List.getElem?_eq_some_iff.1 hj).1
    rwa [oneL_len] at this
  exact block_cell h.blk (1 + j) v (by rw [List.getElem?_toArray, mxL_at _ _ _ hl]; exact hj)
theorem Mx.unit_at (h : Mx n0 w p mb st A) {u : Nat} (hu : u < 512) : w.rangeAt p (1 + u * 34) (slcC (st.now u)) := fun j v hj => by
  have hl : j < 34 := by
    have := (List.getElem?_eq_some_iff.1 hj).1
    rwa [lenC] at this
  have := h.now_at (u * 34 + j) v (by rw [oneL_at _ hu hl]; exact hj)
  rwa [← Nat.add_assoc] at this
theorem Mx.snap_at (h : Mx n0 w p mb st A) {id : Int} {F : Mp1} (hf : findS id st.snaps = some F) : w.rangeAt (A id) 0 (oneL F) := range_of (h.snap id F hf).1
theorem Mx.snap_unit (h : Mx n0 w p mb st A) {id : Int} {F : Mp1} (hf : findS id st.snaps = some F) {u : Nat} (hu : u < 512) : w.rangeAt (A id) (u * 34) (slcC (F u)) := fun j v hj => by
  have hl : j < 34 := by
    have := (List.getElem?_eq_some_iff.1 hj).1
    rwa [lenC] at this
  have := h.snap_at hf (u * 34 + j) v (by rw [oneL_at _ hu hl]; exact hj)
  rwa [Nat.zero_add] at this
end
end Go.Proofs.YtodhaaaodmcplaaGreat
