/- The kit's LentOp, KeptOp, OverOp. -/
import Derived.Test.YthdllbbjajddiaaGreatDoorBkP
import Derived.Test.YthdllbbjajddiaaGreatDoorGa
set_option linter.all false
namespace Go.Proofs.YthdllbbjajddiaaGreatDoor
open Go.RowKit Go.Maps Go.WideMaps
def lrF (I : Nat → ElF) (n : Nat) : List Value := flatS (fun i => cellsF (I i)) n ++ mkRowF 1 12
def lrP (P : Nat → ElP) (n : Nat) : List Value := flatS (fun i => cellsP (P i)) n ++ mkRowP 1 12
theorem lrF_len (I : Nat → ElF) (n : Nat) : (lrF I n).length = (n + 12) * 36 := by unfold lrF; rw [List.length_append, flatS_len (wideF I), mkRowF_len]; omega
theorem lrP_len (P : Nat → ElP) (n : Nat) : (lrP P n).length = (n + 12) * 35 := by unfold lrP; rw [List.length_append, flatS_len (wideP P), mkRowP_len]; omega
theorem blk_ne {w : World} {a b : Nat} {cs ds : Array Value} {t e : TypeId} {y z : Nat × Nat} (h : w.heap[a]? = some (.cells cs t y)) (h2 : w.heap[b]? = some (.cells ds e z)) (ht : t ≠ e) : a ≠ b := by
  rintro rfl
  rw [h] at h2
  injection h2 with h2
  injection h2 with _ h3
  exact ht h3
/-- An op that is lent: its rows in blocks of their own. -/
structure LentO (W w' : World) (I : Nat → ElF) (P : Nat → ElP) (g1 n1 g2 n2 : Nat) : Prop where
  lo1 : W.heap.size ≤ g1
  lo2 : W.heap.size ≤ g2
  h1 : w'.heap[g1]? = some (.cells (lrF I n1).toArray 53 (0, 0))
  h2 : w'.heap[g2]? = some (.cells (lrP P n2).toArray 48 (0, 0))
  below : Below W.heap.size W w'
theorem LentO.r1 {W w' : World} {I : Nat → ElF} {P : Nat → ElP} {g1 n1 g2 n2 : Nat} (h : LentO W w' I P g1 n1 g2 n2) : SArr w' w'.heap.size (some ⟨g1, 0, none⟩) n1 36 (fun i => cellsF (I i)) := lent_sarrF h.h1
theorem LentO.r2 {W w' : World} {I : Nat → ElF} {P : Nat → ElP} {g1 n1 g2 n2 : Nat} (h : LentO W w' I P g1 n1 g2 n2) : SArr w' w'.heap.size (some ⟨g2, 0, none⟩) n2 35 (fun i => cellsP (P i)) := lent_sarrP h.h2
theorem LentO.go {W w w2 : World} {I : Nat → ElF} {P : Nat → ElP} {g1 n1 g2 n2 : Nat} (h : LentO W w I P g1 n1 g2 n2) (hb : Below w.heap.size w w2) : LentO W w2 I P g1 n1 g2 n2 :=
  ⟨h.lo1, h.lo2, (hb.block _ (heap_lt h.h1)).trans h.h1, (hb.block _ (heap_lt h.h2)).trans h.h2, h.below.trans (hb.mono h.below.size)⟩
end Go.Proofs.YthdllbbjajddiaaGreatDoor
