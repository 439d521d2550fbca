/- The kit's LentOp, KeptOp, OverOp. -/
import Derived.Test.YthdllbbjajddiaaDoorBkP
import Derived.Test.YthdllbbjajddiaaDoorGa
namespace Go.Proofs.YthdllbbjajddiaaDoor
open Go.RowKit Go.Maps Go.WideMaps
def lrF (I : Nat → ElF) (n : Nat) : List Value := flatS (fun i => cellsF (I i)) n ++ mkRowF 1 12
def lrP (P : Nat → ElP) (n : Nat) : List Value := flatS (fun i => cellsP (P i)) n ++ mkRowP 1 12
theorem lrF_len (I : Nat → ElF) (n : Nat) : (lrF I n).length = (n + 12) * 36 := by unfold lrF; rw [List.length_append, flatS_len (wideF I), mkRowF_len]; omega
theorem lrP_len (P : Nat → ElP) (n : Nat) : (lrP P n).length = (n + 12) * 35 := by unfold lrP; rw [List.length_append, flatS_len (wideP P), mkRowP_len]; omega
theorem blk_ne {w : World} {a b : Nat} {cs ds : Array Value} {t e : TypeId} {y z : Nat × Nat} (h : w.heap[a]? = some (.cells cs t y)) (h2 : w.heap[b]? = some (.cells ds e z)) (ht : t ≠ e) : a ≠ b := by
  rintro rfl
  rw [h] at h2
  injection h2 with h2
  injection h2 with _ h3
  exact ht h3
/-- An op that is lent: its rows in blocks of their own. -/
structure LentO (W w' : World) (I : Nat → ElF) (P : Nat → ElP) (g1 n1 g2 n2 : Nat) : Prop where
  lo1 : W.heap.size ≤ g1
  lo2 : W.heap.size ≤ g2
  h1 : w'.heap[g1]? = some (.cells (lrF I n1).toArray 64 (0, 0))
  h2 : w'.heap[g2]? = some (.cells (lrP P n2).toArray 72 (0, 0))
  below : Below W.heap.size W w'
theorem LentO.r1 {W w' : World} {I : Nat → ElF} {P : Nat → ElP} {g1 n1 g2 n2 : Nat} (h : LentO W w' I P g1 n1 g2 n2) : SArr w' w'.heap.size (some ⟨g1, 0, none⟩) n1 36 (fun i => cellsF (I i)) := lent_sarrF h.h1
theorem LentO.r2 {W w' : World} {I : Nat → ElF} {P : Nat → ElP} {g1 n1 g2 n2 : Nat} (h : LentO W w' I P g1 n1 g2 n2) : SArr w' w'.heap.size (some ⟨g2, 0, none⟩) n2 35 (fun i => cellsP (P i)) := lent_sarrP h.h2
theorem LentO.go {W w w2 : World} {I : Nat → ElF} {P : Nat → ElP} {g1 n1 g2 n2 : Nat} (h : LentO W w I P g1 n1 g2 n2) (hb : Below w.heap.size w w2) : LentO W w2 I P g1 n1 g2 n2 :=
  ⟨h.lo1, h.lo2, (hb.block _ (heap_lt h.h1)).trans h.h1, (hb.block _ (heap_lt h.h2)).trans h.h2, h.below.trans (hb.mono h.below.size)⟩
set_option maxRecDepth 100000 in
set_option maxHeartbeats 2000000 in
theorem lent9 (I : Nat → ElF) (P : Nat → ElP) (kd x n s : Int) (A1 : Option Addr) (n1 c1 : Nat) (A2 : Option Addr) (n2 c2 : Nat) (W : World) (hn1 : n1 ≤ 500) (hn2 : n2 ≤ 500)
    (S1 : SArr W W.heap.size A1 n1 36 fun i => cellsF (I i)) (S2 : SArr W W.heap.size A2 n2 35 fun i => cellsP (P i)) (Z1 : A1 = none → n1 = 0 ∧ c1 = 0) (Z2 : A2 = none → n2 = 0 ∧ c2 = 0) :
    Calls Tryd.prog 9 #[opV kd x n s A1 n1 c1 A2 n2 c2] W fun e W' => ∃ g1 g2, e = .returned (opV kd x n s (some ⟨g1, 0, none⟩) n1 (n1 + 12) (some ⟨g2, 0, none⟩) n2 (n2 + 12)) ∧ LentO W W' I P g1 n1 g2 n2 := by
  have S1 := Lib.hid S1
  have S2 := Lib.hid S2
  have Z1 := Lib.hid Z1
  have Z2 := Lib.hid Z2
  unfold opV
  go_enter Tryd.func9, Tryd.ntmps9
  go_upto_region 1 with (refine wpList_laid rfl 26 rfl zOp (zeroVOp _) ?_)
  obtain ⟨w0, hw0⟩ : ∃ w1, w1 = W.alloc (.cells #[.int .u8 kd, .int .i64 x, .int .i64 n, .int .i64 s, .slice A1 n1 c1, .slice A2 n2 c2] 26) := ⟨_, rfl⟩
  rw [← hw0]
  obtain ⟨w1, hw1⟩ : ∃ w1, w1 = w0.alloc (.cells zOp.toArray 26) := ⟨_, rfl⟩
  rw [← hw1]
  obtain ⟨p, hp⟩ : ∃ p, p = W.heap.size := ⟨_, rfl⟩
  have Q0 : w0.heap[W.heap.size]? = some (.cells (opL kd x n s A1 n1 c1 A2 n2 c2).toArray 26 (0, 0)) := by rw [hw0]; exact heap_new W _
  have hs0 : w0.heap.size = W.heap.size + 1 := by rw [hw0]; simp
  have Q : Hid (w1.heap[W.heap.size]? = some (.cells (opL kd x n s A1 n1 c1 A2 n2 c2).toArray 26 (0, 0))) := Lib.hid (by rw [hw1]; exact heap_old Q0)
  have R : Hid (w1.heap[w0.heap.size]? = some (.cells zOp.toArray 26 (0, 0))) := Lib.hid (by rw [hw1]; exact heap_new w0 _)
  have B : Hid (Below W.heap.size W w1) := Lib.hid (by rw [hw1]; exact ((hw0 ▸ (Below.refl _ _).alloc (Nat.le_refl _) _ : Below W.heap.size W w0)).alloc (by omega) _)
  rw [← hp] at Q ⊢
  have HP := Lib.hid hp
  obtain ⟨q, hq⟩ : ∃ q, q = w0.heap.size := ⟨_, rfl⟩
  rw [← hq] at R ⊢
  have HQ : Hid (q = p + 1) := Lib.hid (by omega)
  clear hw0 hw1 hp hq hs0 Q0
  have c4 : w1.cell? ⟨p, 4, none⟩ = some (.slice A1 n1 c1) := block_cell Q.out 4 _ rfl
  go_wp2_with fail
  refine (lentF I A1 n1 c1 w1 (by omega) ((S1.out.below B.out (Nat.le_refl _)).more B.out.size) Z1.out).mono ?_
  rintro e w2 ⟨g1, rfl, hg1, h1, b2⟩
  have Q := Lib.hid ((b2.block _ (heap_lt Q.out)).trans Q.out)
  have R := Lib.hid ((b2.block _ (heap_lt R.out)).trans R.out)
  have B0 := Lib.hid B.out.size
  have B := Lib.hid (B.out.trans (b2.mono B.out.size))
  have G1 := Lib.hid h1
  have L1 := Lib.hid (Nat.le_trans B0.out hg1)
  clear c4 b2 hg1 h1 B0
  have c4 := block_cell Q.out 4 _ rfl
  have f4 := frozen_of_row w2 p 4 _ _ Q.out
  go_upto_region 2 with fail
  obtain ⟨w3, hw3⟩ : ∃ w3, w3 = w2.setCell ⟨p, 4, none⟩ (.slice (some ⟨g1, 0, none⟩) n1 (n1 + 12)) := ⟨_, rfl⟩
  rw [← hw3]
  have K3 : Hid (Keeps (fun k => k = p) w2 w3) := Lib.hid (by rw [hw3]; exact Keeps.setCell _ w2 ⟨p, 4, none⟩ _ rfl)
  have Q0 := Q
  have Q : Hid (w3.heap[p]? = some (.cells (opL kd x n s (some ⟨g1, 0, none⟩) n1 (n1 + 12) A2 n2 c2).toArray 26 (0, 0))) := Lib.hid (by rw [hw3]; exact heap_setCell_same w2 p 4 _ _ _ Q.out)
  have R := Lib.hid (K3.out.heap R.out (by have := HQ.out; omega))
  have G1 := Lib.hid (K3.out.heap G1.out (fun e => blk_ne G1.out Q0.out (by decide) e))
  have B := Lib.hid (B.out.trans (K3.out.below (fun k e => by have := HP.out; omega) B.out.size))
  clear hw3 K3 c4 f4 Q0
  have c5 := block_cell Q.out 5 _ rfl
  go_wp2_with fail
  refine (lentP P A2 n2 c2 w3 (by omega) ((S2.out.below B.out (Nat.le_refl _)).more B.out.size) Z2.out).mono ?_
  rintro e w4 ⟨g2, rfl, hg2, h2, b4⟩
  have Q := Lib.hid ((b4.block _ (heap_lt Q.out)).trans Q.out)
  have R := Lib.hid ((b4.block _ (heap_lt R.out)).trans R.out)
  have G1 := Lib.hid ((b4.block _ (heap_lt G1.out)).trans G1.out)
  have B0 := Lib.hid B.out.size
  have B := Lib.hid (B.out.trans (b4.mono B.out.size))
  have G2 := Lib.hid h2
  have L2 := Lib.hid (Nat.le_trans B0.out hg2)
  clear c5 b4 hg2 h2 B0
  have c5 := block_cell Q.out 5 _ rfl
  have f5 := frozen_of_row w4 p 5 _ _ Q.out
  go_upto_region 3 with fail
  obtain ⟨w5, hw5⟩ : ∃ w5, w5 = w4.setCell ⟨p, 5, none⟩ (.slice (some ⟨g2, 0, none⟩) n2 (n2 + 12)) := ⟨_, rfl⟩
  rw [← hw5]
  have K5 : Hid (Keeps (fun k => k = p) w4 w5) := Lib.hid (by rw [hw5]; exact Keeps.setCell _ w4 ⟨p, 5, none⟩ _ rfl)
  have Q0 := Q
  have Q : Hid (w5.heap[p]? = some (.cells (opL kd x n s (some ⟨g1, 0, none⟩) n1 (n1 + 12) (some ⟨g2, 0, none⟩) n2 (n2 + 12)).toArray 26 (0, 0))) := Lib.hid (by rw [hw5]; exact heap_setCell_same w4 p 5 _ _ _ Q.out)
  have R := Lib.hid (K5.out.heap R.out (by have := HQ.out; omega))
  have G1 := Lib.hid (K5.out.heap G1.out (fun e => blk_ne G1.out Q0.out (by decide) e))
  have G2 := Lib.hid (K5.out.heap G2.out (fun e => blk_ne G2.out Q0.out (by decide) e))
  have B := Lib.hid (B.out.trans (K5.out.below (fun k e => by have := HP.out; omega) B.out.size))
  clear hw5 K5 c5 f5 Q0
  have RA : Hid (w5.rangeAt p 0 (opL kd x n s (some ⟨g1, 0, none⟩) n1 (n1 + 12) (some ⟨g2, 0, none⟩) n2 (n2 + 12))) := Lib.hid (range_of Q.out)
  have OO := Lib.hid (opL_one kd x n s (some ⟨g1, 0, none⟩) n1 (n1 + 12) (some ⟨g2, 0, none⟩) n2 (n2 + 12))
  have SPL : Hid (splice zOp 0 (opL kd x n s (some ⟨g1, 0, none⟩) n1 (n1 + 12) (some ⟨g2, 0, none⟩) n2 (n2 + 12)) = opL kd x n s (some ⟨g1, 0, none⟩) n1 (n1 + 12) (some ⟨g2, 0, none⟩) n2 (n2 + 12)) := Lib.hid (splice_whole _ _ rfl)
  go_wp2_with (first | (refine wpList_load_midG rfl 26 (.tmp 1) rfl p 0 rfl (opL kd x n s (some ⟨g1, 0, none⟩) n1 (n1 + 12) (some ⟨g2, 0, none⟩) n2 (n2 + 12)) _ RA.out Tryd.underlying26 rfl sizeOp ?_) | (refine wpList_store_segK rfl 26 (.tmp 2) (.tmp 11) rfl q 0 rfl (opL kd x n s (some ⟨g1, 0, none⟩) n1 (n1 + 12) (some ⟨g2, 0, none⟩) n2 (n2 + 12)) rfl zOp 26 R.out sizeOp (Nat.le_refl _) OO.out rfl ?_; intro w9 h9 k9 s9))
  rw [SPL.out] at h9
  have hz : w9.rangeAt q 0 (opL kd x n s (some ⟨g1, 0, none⟩) n1 (n1 + 12) (some ⟨g2, 0, none⟩) n2 (n2 + 12)) := fun j v hj => block_cell h9 _ v (by rw [Nat.zero_add]; simpa using hj)
  refine bodyPost_ret (results_cell_one rfl _ _ q _ _ rfl hz Tryd.underlying26 rfl sizeOp) rfl ?_
  exact ⟨g1, g2, rfl, ⟨L1.out, L2.out, k9.heap G1.out (fun e => blk_ne G1.out R.out (by decide) e), k9.heap G2.out (fun e => blk_ne G2.out R.out (by decide) e), B.out.trans (k9.below (fun k e => by have e : k = q := e; have := HQ.out; have := HP.out; omega) B.out.size)⟩⟩
set_option maxRecDepth 100000 in
set_option maxHeartbeats 2000000 in
theorem kept13 (I : Nat → ElF) (P : Nat → ElP) (kd x n s : Int) (g1 g2 : Nat) (A1 : Option Addr) (n1 c1 : Nat) (A2 : Option Addr) (n2 c2 : Nat) (W : World) (hn1 : n1 ≤ 500) (hn2 : n2 ≤ 500)
    (h1 : W.heap[g1]? = some (.cells (lrF I n1).toArray 64 (0, 0))) (h2 : W.heap[g2]? = some (.cells (lrP P n2).toArray 72 (0, 0)))
    (S1 : SArr W W.heap.size A1 n1 36 fun i => cellsF (I i)) (S2 : SArr W W.heap.size A2 n2 35 fun i => cellsP (P i)) :
    Calls Tryd.prog 13 #[opV kd x n s (some ⟨g1, 0, none⟩) n1 (n1 + 12) (some ⟨g2, 0, none⟩) n2 (n2 + 12), opV kd x n s A1 n1 c1 A2 n2 c2] W fun e W' => e = .returned (.bool true) ∧ Below W.heap.size W W' := by
  have S1 := Lib.hid S1
  have S2 := Lib.hid S2
  have G1 := Lib.hid h1
  have G2 := Lib.hid h2
  clear h1 h2
  unfold opV
  go_enter Tryd.func13, Tryd.ntmps13
  go_upto_region 1 with fail
  obtain ⟨w0, hw0⟩ : ∃ w1, w1 = W.alloc (.cells #[.int .u8 kd, .int .i64 x, .int .i64 n, .int .i64 s, .slice (some ⟨g1, 0, none⟩) n1 (n1 + 12), .slice (some ⟨g2, 0, none⟩) n2 (n2 + 12)] 26) := ⟨_, rfl⟩
  rw [← hw0]
  obtain ⟨w1, hw1⟩ : ∃ w1, w1 = w0.alloc (.cells #[.int .u8 kd, .int .i64 x, .int .i64 n, .int .i64 s, .slice A1 n1 c1, .slice A2 n2 c2] 26) := ⟨_, rfl⟩
  rw [← hw1]
  have hs0 : w0.heap.size = W.heap.size + 1 := by rw [hw0]; simp
  have Q : Hid (w1.heap[W.heap.size]? = some (.cells (opL kd x n s (some ⟨g1, 0, none⟩) n1 (n1 + 12) (some ⟨g2, 0, none⟩) n2 (n2 + 12)).toArray 26 (0, 0))) := Lib.hid (by rw [hw1]; exact heap_old (hw0 ▸ heap_new W _))
  have R : Hid (w1.heap[w0.heap.size]? = some (.cells (opL kd x n s A1 n1 c1 A2 n2 c2).toArray 26 (0, 0))) := Lib.hid (by rw [hw1]; exact heap_new w0 _)
  have B : Hid (Below W.heap.size W w1) := Lib.hid (by rw [hw1]; exact ((hw0 ▸ (Below.refl _ _).alloc (Nat.le_refl _) _ : Below W.heap.size W w0)).alloc (by omega) _)
  obtain ⟨p, hp⟩ : ∃ p, p = W.heap.size := ⟨_, rfl⟩
  have hq1 : W.heap.size + 1 = w0.heap.size := by omega
  rw [hq1]
  rw [← hp] at Q ⊢
  obtain ⟨q, hq⟩ : ∃ q, q = w0.heap.size := ⟨_, rfl⟩

  rw [← hq] at R ⊢
  have HB := Lib.hid hp
  clear hw0 hw1 hp hq hs0 hq1
  have G1 := Lib.hid ((B.out.block _ (heap_lt G1.out)).trans G1.out)
  have G2 := Lib.hid ((B.out.block _ (heap_lt G2.out)).trans G2.out)
  have S1 := Lib.hid ((S1.out.below B.out (Nat.le_refl _)).more B.out.size)
  have S2 := Lib.hid ((S2.out.below B.out (Nat.le_refl _)).more B.out.size)
  have RQ := Lib.hid (range_of Q.out)
  have RR := Lib.hid (range_of R.out)
  go_wp2_with (first | (refine wpList_load_midG rfl 26 (.tmp 2) rfl p 0 rfl (opL kd x n s (some ⟨g1, 0, none⟩) n1 (n1 + 12) (some ⟨g2, 0, none⟩) n2 (n2 + 12)) _ RQ.out Tryd.underlying26 rfl sizeOp ?_) | (refine wpList_load_midG rfl 26 (.tmp 3) rfl q 0 rfl (opL kd x n s A1 n1 c1 A2 n2 c2) _ RR.out Tryd.underlying26 rfl sizeOp ?_))
  refine (same23 I P kd x n s (some ⟨g1, 0, none⟩) A1 n1 (n1 + 12) c1 (some ⟨g2, 0, none⟩) A2 n2 (n2 + 12) c2 w1 (by omega) (by omega) (lent_sarrF G1.out) (lent_sarrP G2.out) S1.out S2.out).mono ?_
  rintro e w2 ⟨rfl, b2⟩
  have Q := Lib.hid ((b2.block _ (heap_lt Q.out)).trans Q.out)
  have R := Lib.hid ((b2.block _ (heap_lt R.out)).trans R.out)
  have G1 := Lib.hid ((b2.block _ (heap_lt G1.out)).trans G1.out)
  have G2 := Lib.hid ((b2.block _ (heap_lt G2.out)).trans G2.out)
  have S1 := Lib.hid ((S1.out.below b2 (Nat.le_refl _)).more b2.size)
  have S2 := Lib.hid ((S2.out.below b2 (Nat.le_refl _)).more b2.size)
  have B := Lib.hid (B.out.trans (b2.mono B.out.size))
  clear b2 RQ RR
  have c4 := block_cell Q.out 4 _ rfl
  have d4 := block_cell R.out 4 _ rfl
  go_wp2_with fail
  refine (keptF I A1 g1 n1 c1 w2 (by omega) S1.out G1.out).mono ?_
  rintro e w3 ⟨rfl, b3⟩
  have Q := Lib.hid ((b3.block _ (heap_lt Q.out)).trans Q.out)
  have R := Lib.hid ((b3.block _ (heap_lt R.out)).trans R.out)
  have G2 := Lib.hid ((b3.block _ (heap_lt G2.out)).trans G2.out)
  have S2 := Lib.hid ((S2.out.below b3 (Nat.le_refl _)).more b3.size)
  have B := Lib.hid (B.out.trans (b3.mono B.out.size))
  clear b3 c4 d4
  have c5 := block_cell Q.out 5 _ rfl
  have d5 := block_cell R.out 5 _ rfl
  go_wp2_with fail
  refine (keptP P A2 g2 n2 c2 w3 (by omega) S2.out G2.out).mono ?_
  rintro e w4 ⟨rfl, b4⟩
  have B := Lib.hid (B.out.trans (b4.mono B.out.size))
  clear b4 c5 d5
  go_wp2_with fail
  go_ret
  exact ⟨rfl, B.out⟩
set_option maxRecDepth 100000 in
set_option maxHeartbeats 2000000 in
theorem over14 (kd x n s : Int) (g1 n1 g2 n2 : Nat) (l1 l2 : List Value) (W : World) (hn1 : n1 ≤ 500) (hn2 : n2 ≤ 500)
    (h1 : W.heap[g1]? = some (.cells l1.toArray 64 (0, 0))) (h2 : W.heap[g2]? = some (.cells l2.toArray 72 (0, 0))) (e1 : l1.length = (n1 + 12) * 36) (e2 : l2.length = (n2 + 12) * 35) :
    Calls Tryd.prog 14 #[opV kd x n s (some ⟨g1, 0, none⟩) n1 (n1 + 12) (some ⟨g2, 0, none⟩) n2 (n2 + 12)] W fun e W' => e = .returned undef ∧ Keeps (fun k => k = g1 ∨ k = g2) W W' := by
  have G1 := Lib.hid h1
  have G2 := Lib.hid h2
  have E1 := Lib.hid e1
  have E2 := Lib.hid e2
  clear h1 h2 e1 e2
  unfold opV
  go_enter Tryd.func14, Tryd.ntmps14
  go_upto_region 1 with fail
  obtain ⟨w1, hw1⟩ : ∃ w1, w1 = W.alloc (.cells #[.int .u8 kd, .int .i64 x, .int .i64 n, .int .i64 s, .slice (some ⟨g1, 0, none⟩) n1 (n1 + 12), .slice (some ⟨g2, 0, none⟩) n2 (n2 + 12)] 26) := ⟨_, rfl⟩
  rw [← hw1]
  have Q : Hid (w1.heap[W.heap.size]? = some (.cells (opL kd x n s (some ⟨g1, 0, none⟩) n1 (n1 + 12) (some ⟨g2, 0, none⟩) n2 (n2 + 12)).toArray 26 (0, 0))) := Lib.hid (by rw [hw1]; exact heap_new W _)
  have K : Hid (Keeps (fun k => k = g1 ∨ k = g2) W w1) := Lib.hid (by rw [hw1]; exact Keeps.alloc _ W _)
  have G1 : Hid (w1.heap[g1]? = some (.cells l1.toArray 64 (0, 0))) := Lib.hid (by rw [hw1]; exact heap_old G1.out)
  have G2 : Hid (w1.heap[g2]? = some (.cells l2.toArray 72 (0, 0))) := Lib.hid (by rw [hw1]; exact heap_old G2.out)
  obtain ⟨p, hp⟩ : ∃ p, p = W.heap.size := ⟨_, rfl⟩
  rw [← hp] at Q ⊢
  clear hw1 hp
  have c4 := block_cell Q.out 4 _ rfl
  go_wp2_with fail
  refine (overF g1 n1 l1 w1 (by omega) G1.out E1.out (by omega)).mono ?_
  rintro e w2 ⟨rfl, k2⟩
  have Q := Lib.hid (k2.heap Q.out (fun e => blk_ne Q.out G1.out (show (26 : TypeId) ≠ 64 by decide) e))
  have G2 := Lib.hid (k2.heap G2.out (fun e => blk_ne G2.out G1.out (show (72 : TypeId) ≠ 64 by decide) e))
  have K := Lib.hid (K.out.trans k2 (fun _ _ h => .inl h))
  clear c4 k2
  have c5 := block_cell Q.out 5 _ rfl
  go_wp2_with fail
  refine (overP g2 n2 l2 w2 (by omega) G2.out E2.out (by omega)).mono ?_
  rintro e w3 ⟨rfl, k3⟩
  have K := Lib.hid (K.out.trans k3 (fun _ _ h => .inr h))
  clear c5 k3
  go_wp2_with fail
  refine bodyPost_end (results_none rfl _ _ _) rfl ?_
  exact ⟨rfl, K.out⟩
end Go.Proofs.YthdllbbjajddiaaDoor
