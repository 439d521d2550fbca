/- Words for memory: an array of cells that a slice reads; a block known whole. -/
import Derived.WalkKit
import Derived.Laws.OwnMore
import Derived.Maps.AppendAt
import Derived.Deep.Draws
set_option linter.all false
namespace Go.Proofs.YtodhaaaodmcplaaGreat
open Go.RowKit
/-- The slice value's array: n cells from its address on, in a block below B. -/
def Arr (w : World) (B : Nat) (A : Option Addr) (n : Nat) (f : Nat → Value) : Prop :=
  0 < n → ∃ b off, A = some ⟨b, off, none⟩ ∧ b < B ∧ ∀ j, j < n → w.cell? ⟨b, off + j, none⟩ = some (f j)
theorem Arr.below {w w' : World} {B B' : Nat} {A : Option Addr} {n : Nat} {f : Nat → Value} (h : Arr w B A n f) (hb : Below B' w w') (hB : B ≤ B') : Arr w' B A n f := fun hn => by
  obtain ⟨b, off, e, hlt, hc⟩ := h hn
  exact ⟨b, off, e, hlt, fun j hj => (hb.cell (p := ⟨b, off + j, none⟩) (by show b < B'; omega)).trans (hc j hj)⟩
theorem Arr.more {w : World} {B B' : Nat} {A : Option Addr} {n : Nat} {f : Nat → Value} (h : Arr w B A n f) (hB : B ≤ B') : Arr w B' A n f := fun hn => by
  obtain ⟨b, off, e, hlt, hc⟩ := h hn
  exact ⟨b, off, e, by omega, hc⟩
theorem Arr.drewN {w : World} {B : Nat} {A : Option Addr} {n : Nat} {f : Nat → Value} (h : Arr w B A n f) (k : Nat) : Arr (w.drewN k) B A n f := h
theorem Arr.cellsAt {w : World} {B : Nat} {A : Option Addr} {n : Nat} {f : Nat → Value} (h : Arr w B A n f) (ad : Addr) (hA : A = some ad) (j : Nat) (u : Value) (hj : ((List.range n).map f)[j]? = some u) : w.cell? (ad.add j) = some u := by
  rw [List.getElem?_map] at hj
  by_cases hlt : j < n
  · rw [List.getElem?_range hlt] at hj
    obtain ⟨b, off, e, _, hc⟩ := h (by omega)
    rw [e] at hA
    obtain rfl : (⟨b, off, none⟩ : Addr) = ad := by simpa using hA
    have : (⟨b, off, none⟩ : Addr).add j = ⟨b, off + j, none⟩ := by unfold Addr.add; split <;> simp_all
    rw [this, hc j hlt]; simpa using hj
  · rw [List.getElem?_eq_none (by simpa using hlt)] at hj; simp at hj
theorem block_cell {w : World} {g : Nat} {cs : Array Value} {t : TypeId} {z : Nat × Nat} (h : w.heap[g]? = some (.cells cs t z)) (k : Nat) (u : Value) (hk : cs[k]? = some u) : w.cell? ⟨g, k, none⟩ = some u := by
  simp [World.cell?, h, hk]
/-- A whole block known reads as an array. -/
theorem Arr.ofBlock {w : World} {g : Nat} {cs : Array Value} {t : TypeId} {z : Nat × Nat} (n : Nat) (f : Nat → Value) (h : w.heap[g]? = some (.cells cs t z)) (hf : ∀ j, j < n → cs[j]? = some (f j)) : Arr w w.heap.size (some ⟨g, 0, none⟩) n f := fun _ =>
  ⟨g, 0, rfl, (Array.getElem?_eq_some_iff.1 h).1, fun j hj => by rw [Nat.zero_add]; exact block_cell h j _ (hf j hj)⟩
theorem quiet_left {P : Program} {f : FuncId} {args : Array Value} {w : World} {n : Nat} {v : Value}
    (h : Calls P f args (w.drewN n) fun e w' => e = .returned v ∧ w.drewN n = w') : Calls P f args (w.drewN n) fun e w'' => e = .returned v ∧ ∃ m, w'' = w.drewN m :=
  h.mono fun _ _ ⟨he, hm⟩ => ⟨he, n, hm.symm⟩
theorem quiet_add_left {P : Program} {f : FuncId} {args : Array Value} {w : World} {a n : Nat} {v : Value}
    (h : Calls P f args (w.drewN (a + n)) fun e w' => e = .returned v ∧ w.drewN (a + n) = w') :
    Calls P f args (w.drewN (a + n)) fun e w'' => e = .returned v ∧ ∃ m, w'' = w.drewN (a + m) :=
  h.mono fun _ _ ⟨he, hm⟩ => ⟨he, n, hm.symm⟩
theorem below_drewN {B : Nat} {a w : World} (h : Below B a w) (n : Nat) : Below B a (w.drewN n) := ⟨h.os, h.tape, h.output, h.size, h.block⟩
theorem bcell {W w1 : World} {B : Nat} (hb : Below B W w1) : (∀ b o, b < B → w1.cell? ⟨b, o, none⟩ = W.cell? ⟨b, o, none⟩) :=
  fun b o h => hb.cell (p := ⟨b, o, none⟩) h
theorem heap_new (w : World) (o : Obj) : (w.alloc o).heap[w.heap.size]? = some o := by
  show (w.heap.push o)[w.heap.size]? = some o
  simp
theorem heap_new_at {w : World} {b : Nat} (o : Obj) (h : b = w.heap.size) : (w.alloc o).heap[b]? = some o := h ▸ heap_new w o
theorem heap_old {w : World} {b : Nat} {o o' : Obj} (h : w.heap[b]? = some o) : (w.alloc o').heap[b]? = some o :=
  (Below.heap_alloc w o' b (Array.getElem?_eq_some_iff.1 h).1).trans h
theorem heap_lt {w : World} {b : Nat} {o : Obj} (h : w.heap[b]? = some o) : b < w.heap.size := (Array.getElem?_eq_some_iff.1 h).1
theorem ret_int {k : IntKind} {a b : Int} (h : a = b) : Ending.returned (.int k a) = .returned (.int k b) := by rw [h]
end Go.Proofs.YtodhaaaodmcplaaGreat
