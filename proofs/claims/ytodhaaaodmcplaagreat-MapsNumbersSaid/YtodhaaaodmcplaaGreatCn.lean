/- Words for memory: a new block's cells; a block known whole as a range. -/
import Derived.Test.YtodhaaaodmcplaaGreatKeep
import Derived.Deep.MidRow
set_option linter.all false
namespace Go.Proofs.YtodhaaaodmcplaaGreat
open Go.RowKit
theorem cells_new (w : World) (l : List Value) (t : TypeId) (j : Nat) (u : Value) (h : l[j]? = some u) : (w.alloc (.cells l.toArray t)).cell? ((⟨w.heap.size, 0, none⟩ : Addr).add j) = some u := by
  have : (⟨w.heap.size, 0, none⟩ : Addr).add j = ⟨w.heap.size, j, none⟩ := by unfold Addr.add; simp; exact fun h => h.symm
  rw [this]
  exact block_cell (heap_new w _) j u (by simpa using h)
theorem range_of {w : World} {b : Nat} {cs : List Value} {t : TypeId} {z : Nat × Nat} (h : w.heap[b]? = some (.cells cs.toArray t z)) : w.rangeAt b 0 cs := fun j v hj => block_cell h _ v (by rw [Nat.zero_add]; simpa using hj)
end Go.Proofs.YtodhaaaodmcplaaGreat
