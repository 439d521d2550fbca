/- Part of the proof of the statements of layer 11 (layout): what the functions of the layer compute, at every input. No condition. -/
import Derived.Test.YthhmhcfahlnmpaaLA
import Derived.LoopN
namespace Go.Proofs.Ythhmhcfahlnmpaa
open Go.RowKit
/-- The five numbers of a geometry that was boxed lie as they lay. -/
theorem geo_cells {W w1 : World} {B : Nat} {g : Geo} {b : Nat} {z : Nat × Nat} (hb : Below B W w1) (h : W.heap[b]? = some (.cells (gcs g) 23 z)) (hlt : b < B) :
    w1.cell? ⟨b, 0, none⟩ = some (.int .i64 g.V) ∧ w1.cell? ⟨b, 1, none⟩ = some (.int .i64 g.S) ∧ w1.cell? ⟨b, 2, none⟩ = some (.int .i64 g.G) ∧ w1.cell? ⟨b, 3, none⟩ = some (.int .i64 g.U) ∧ w1.cell? ⟨b, 4, none⟩ = some (.int .i64 g.J) := by
  have h1 := (hb.block b hlt).trans h
  exact ⟨block_cell h1 0 _ rfl, block_cell h1 1 _ rfl, block_cell h1 2 _ rfl, block_cell h1 3 _ rfl, block_cell h1 4 _ rfl⟩
theorem four_cells {W w1 : World} {B : Nat} {x0 x1 x2 x3 : Value} {t : TypeId} {b : Nat} (hb : Below B W w1) (h : W.heap[b]? = some (.cells #[x0, x1, x2, x3] t (0, 0))) (hlt : b < B) :
    (w1.cell? ⟨b, 0, none⟩ = some x0 ∧ w1.cell? ⟨b, 1, none⟩ = some x1 ∧ w1.cell? ⟨b, 2, none⟩ = some x2 ∧ w1.cell? ⟨b, 3, none⟩ = some x3) ∧
    w1.frozen? ⟨b, 0, none⟩ = false ∧ w1.frozen? ⟨b, 1, none⟩ = false ∧ w1.frozen? ⟨b, 2, none⟩ = false ∧ w1.frozen? ⟨b, 3, none⟩ = false := by
  have h1 := (hb.block b hlt).trans h
  exact ⟨⟨block_cell h1 0 _ rfl, block_cell h1 1 _ rfl, block_cell h1 2 _ rfl, block_cell h1 3 _ rfl⟩, by simp [World.frozen?, h1], by simp [World.frozen?, h1], by simp [World.frozen?, h1], by simp [World.frozen?, h1]⟩
theorem ix0 (x0 x1 x2 : Int) (w : World) : (Instr.index 106 (.agg #[.int .i64 x0, .int .i64 x1, .int .i64 x2]) (.int .i64 0)).run Try.prog w = .ok (.int .i64 x0) w := by kernel_rfl
theorem ix1 (x0 x1 x2 : Int) (w : World) : (Instr.index 106 (.agg #[.int .i64 x0, .int .i64 x1, .int .i64 x2]) (.int .i64 1)).run Try.prog w = .ok (.int .i64 x1) w := by kernel_rfl
theorem ix2 (x0 x1 x2 : Int) (w : World) : (Instr.index 106 (.agg #[.int .i64 x0, .int .i64 x1, .int .i64 x2]) (.int .i64 2)).run Try.prog w = .ok (.int .i64 x2) w := by kernel_rfl
def SomeFour (w : World) (e : Ending) (w' : World) : Prop := ∃ a b c d : Int, e = .returned (.agg #[.int .i64 a, .int .i64 b, .int .i64 c, .int .i64 d]) ∧ Below w.heap.size w w'
set_option maxHeartbeats 1000000 in
theorem plan28any (g : Geo) (w : World) : Calls Try.prog 36 #[gv g] w (SomeFour w) := by
  go_enter Try.func36, Try.ntmps36
  go_wp2_with fail
  obtain ⟨W0, hW0⟩ : ∃ W0, ((w.alloc (.cells (gcs g) 23)).alloc (.cells #[.int .i64 0, .int .i64 0, .int .i64 0, .int .i64 0] 79)).alloc (.cells #[.int .i64 0, .int .i64 0, .int .i64 0, .int .i64 0] 79) = W0 := ⟨_, rfl⟩
  have hz0 : W0.heap.size = w.heap.size + 3 := by rw [← hW0]; simp
  have hb0 : Below w.heap.size w W0 := hW0 ▸ (((Below.refl _ w).alloc (Nat.le_refl _) _).alloc (by simp) _).alloc (by simp; omega) _
  have k0 : W0.heap[w.heap.size]? = some (.cells (gcs g) 23 (0, 0)) := hW0 ▸ heap_old (heap_old (heap_new w _))
  have k1 : W0.heap[w.heap.size + 1]? = some (.cells #[.int .i64 0, .int .i64 0, .int .i64 0, .int .i64 0] 79 (0, 0)) := hW0 ▸ heap_old (heap_new_at _ (by simp))
  have k2 : W0.heap[w.heap.size + 1 + 1]? = some (.cells #[.int .i64 0, .int .i64 0, .int .i64 0, .int .i64 0] 79 (0, 0)) := hW0 ▸ heap_new_at _ (by simp)
  have K0 := Lib.hid k0
  have K1 := Lib.hid k1
  have K2 := Lib.hid k2
  have HZ := Lib.hid hz0
  have HB0 := Lib.hid hb0
  rw [hW0]
  obtain ⟨c0, c1, c2, c3, c4⟩ := geo_cells (Below.refl W0.heap.size W0) k0 (by omega)
  clear hW0 k0 k1 k2 hz0 hb0
  go_region_held3 (fun w' => w'.cell? ⟨w.heap.size, 0, none⟩ = some (.int .i64 g.V) ∧ w'.cell? ⟨w.heap.size, 1, none⟩ = some (.int .i64 g.S) ∧ w'.cell? ⟨w.heap.size, 2, none⟩ = some (.int .i64 g.G) ∧ w'.cell? ⟨w.heap.size, 3, none⟩ = some (.int .i64 g.U) ∧ w'.cell? ⟨w.heap.size, 4, none⟩ = some (.int .i64 g.J)) (go_keep)
    (first | (go_at_call 64; refine (pages31any g _).mono ?_; rintro e w1 ⟨p, rfl, hb1⟩; obtain ⟨e0, e1, e2, e3, e4⟩ := geo_cells hb1 K0.out (by have := HZ.out; show _ < W0.heap.size; omega)))
  have HB1 : Hid (Below W0.heap.size W0 w1) := Lib.hid (((Below.refl W0.heap.size W0).drew).trans hb1)
  clear c0 c1 c2 c3 c4
  obtain ⟨⟨f0, f1, f2, f3⟩, m0, m1, m2, m3⟩ := four_cells HB1.out K2.out (by have := HZ.out; omega)
  obtain ⟨⟨r0, r1, r2, r3⟩, n0, n1, n2, n3⟩ := four_cells HB1.out K1.out (by have := HZ.out; omega)
  clear hb1
  go_wp2_with fail
  refine wp_loop_rounds 4 ?_
  have i0 := ix0
  have i1 := ix1
  have i2 := ix2
  iterate 4 (rw [rounds_succ]; go_wp2)
  have hbt : Below w.heap.size w w1 := HB0.out.trans (HB1.out.mono (by have := HZ.out; omega))
  generalize hWF : World.setCell _ _ _ = WF
  have hbf : Below w.heap.size w WF := by
    rw [← hWF]
    exact (((((((hbt.setCell (by simp; omega) _).setCell (by simp; omega) _).setCell (by simp; omega) _).setCell (by simp; omega) _).setCell (by simp) _).setCell (by simp) _).setCell (by simp) _).setCell (by simp) _
  have q0 : WF.cell? ⟨w.heap.size + 1, 0, none⟩ = some (.int .i64 2) := by rw [← hWF]; simp [go_sem, r0]
  have q1 : WF.cell? ⟨w.heap.size + 1, 1, none⟩ = some (.int .i64 (wrap64 (2 + wrap64 (2 * g.J)))) := by rw [← hWF]; simp [go_sem, r1]
  have q2 : WF.cell? ⟨w.heap.size + 1, 2, none⟩ = some (.int .i64 (wrap64 (wrap64 (2 + wrap64 (2 * g.J)) + wrap64 (4 * p)))) := by rw [← hWF]; simp [go_sem, r2]
  have q3 : WF.cell? ⟨w.heap.size + 1, 3, none⟩ = some (.int .i64 (wrap64 (wrap64 (wrap64 (2 + wrap64 (2 * g.J)) + wrap64 (4 * p)) + wrap64 (g.S * g.G)))) := by rw [← hWF]; simp [go_sem, r3]
  clear hWF hbt r0 r1 r2 r3 n0 n1 n2 n3 m0 m1 m2 m3 f0 f1 f2 f3 e0 e1 e2 e3 e4
  exact bodyPost_ret (v := .agg #[.int .i64 2, .int .i64 (wrap64 (2 + wrap64 (2 * g.J))), .int .i64 (wrap64 (wrap64 (2 + wrap64 (2 * g.J)) + wrap64 (4 * p))), .int .i64 (wrap64 (wrap64 (wrap64 (2 + wrap64 (2 * g.J)) + wrap64 (4 * p)) + wrap64 (g.S * g.G)))]) (by simp [results, Try.f36, go_sem, q0, q1, q2, q3]) rfl ⟨_, _, _, _, rfl, hbf⟩
set_option maxHeartbeats 1000000 in
theorem plan28 (g : Geo) (w : World) (h1 : 0 ≤ g.V) (h2 : g.V ≤ 4096) (h3 : 0 ≤ g.S * g.G) (h4 : g.S * g.G ≤ 262144) (h5 : 0 ≤ g.J) (h6 : g.J ≤ 64) (h7 : 0 ≤ pagesN g) (h8 : pagesN g ≤ 100000) : Calls Try.prog 36 #[gv g] w (fun e w' => e = .returned (.agg #[.int .i64 2, .int .i64 (2 + 2 * g.J), .int .i64 (2 + 2 * g.J + 4 * pagesN g), .int .i64 (total g)]) ∧ Below w.heap.size w w') := by
  go_enter Try.func36, Try.ntmps36
  go_wp2_with fail
  obtain ⟨W0, hW0⟩ : ∃ W0, ((w.alloc (.cells (gcs g) 23)).alloc (.cells #[.int .i64 0, .int .i64 0, .int .i64 0, .int .i64 0] 79)).alloc (.cells #[.int .i64 0, .int .i64 0, .int .i64 0, .int .i64 0] 79) = W0 := ⟨_, rfl⟩
  have hz0 : W0.heap.size = w.heap.size + 3 := by rw [← hW0]; simp
  have hb0 : Below w.heap.size w W0 := hW0 ▸ (((Below.refl _ w).alloc (Nat.le_refl _) _).alloc (by simp) _).alloc (by simp; omega) _
  have k0 : W0.heap[w.heap.size]? = some (.cells (gcs g) 23 (0, 0)) := hW0 ▸ heap_old (heap_old (heap_new w _))
  have k1 : W0.heap[w.heap.size + 1]? = some (.cells #[.int .i64 0, .int .i64 0, .int .i64 0, .int .i64 0] 79 (0, 0)) := hW0 ▸ heap_old (heap_new_at _ (by simp))
  have k2 : W0.heap[w.heap.size + 1 + 1]? = some (.cells #[.int .i64 0, .int .i64 0, .int .i64 0, .int .i64 0] 79 (0, 0)) := hW0 ▸ heap_new_at _ (by simp)
  have K0 := Lib.hid k0
  have K1 := Lib.hid k1
  have K2 := Lib.hid k2
  have HZ := Lib.hid hz0
  have HB0 := Lib.hid hb0
  rw [hW0]
  obtain ⟨c0, c1, c2, c3, c4⟩ := geo_cells (Below.refl W0.heap.size W0) k0 (by omega)
  clear hW0 k0 k1 k2 hz0 hb0
  go_region_held3 (fun w' => w'.cell? ⟨w.heap.size, 0, none⟩ = some (.int .i64 g.V) ∧ w'.cell? ⟨w.heap.size, 1, none⟩ = some (.int .i64 g.S) ∧ w'.cell? ⟨w.heap.size, 2, none⟩ = some (.int .i64 g.G) ∧ w'.cell? ⟨w.heap.size, 3, none⟩ = some (.int .i64 g.U) ∧ w'.cell? ⟨w.heap.size, 4, none⟩ = some (.int .i64 g.J)) (go_keep)
    (first | (go_at_call 64; refine (pages31 g _ h1 h2 h3 h4).mono ?_; rintro e w1 ⟨rfl, hb1⟩; obtain ⟨e0, e1, e2, e3, e4⟩ := geo_cells hb1 K0.out (by have := HZ.out; show _ < W0.heap.size; omega)))
  have HB1 : Hid (Below W0.heap.size W0 w1) := Lib.hid (((Below.refl W0.heap.size W0).drew).trans hb1)
  clear c0 c1 c2 c3 c4
  obtain ⟨⟨f0, f1, f2, f3⟩, m0, m1, m2, m3⟩ := four_cells HB1.out K2.out (by have := HZ.out; omega)
  obtain ⟨⟨r0, r1, r2, r3⟩, n0, n1, n2, n3⟩ := four_cells HB1.out K1.out (by have := HZ.out; omega)
  clear hb1
  go_wp2_with fail
  refine wp_loop_rounds 4 ?_
  have i0 := ix0
  have i1 := ix1
  have i2 := ix2
  iterate 4 (rw [rounds_succ]; go_wp2)
  have hbt : Below w.heap.size w w1 := HB0.out.trans (HB1.out.mono (by have := HZ.out; omega))
  generalize hWF : World.setCell _ _ _ = WF
  have hbf : Below w.heap.size w WF := by
    rw [← hWF]
    exact (((((((hbt.setCell (by simp; omega) _).setCell (by simp; omega) _).setCell (by simp; omega) _).setCell (by simp; omega) _).setCell (by simp) _).setCell (by simp) _).setCell (by simp) _).setCell (by simp) _
  have q0 : WF.cell? ⟨w.heap.size + 1, 0, none⟩ = some (.int .i64 2) := by rw [← hWF]; simp [go_sem, r0]
  have q1 : WF.cell? ⟨w.heap.size + 1, 1, none⟩ = some (.int .i64 (2 + 2 * g.J)) := by rw [← hWF]; simp [go_sem, r1]
  have q2 : WF.cell? ⟨w.heap.size + 1, 2, none⟩ = some (.int .i64 (2 + 2 * g.J + 4 * pagesN g)) := by rw [← hWF]; simp [go_sem, r2]
  have q3 : WF.cell? ⟨w.heap.size + 1, 3, none⟩ = some (.int .i64 (2 + 2 * g.J + 4 * pagesN g + g.S * g.G)) := by rw [← hWF]; simp [go_sem, r3]
  clear hWF hbt r0 r1 r2 r3 n0 n1 n2 n3 m0 m1 m2 m3 f0 f1 f2 f3 e0 e1 e2 e3 e4
  exact bodyPost_ret (v := .agg #[.int .i64 2, .int .i64 (2 + 2 * g.J), .int .i64 (2 + 2 * g.J + 4 * pagesN g), .int .i64 (2 + 2 * g.J + 4 * pagesN g + g.S * g.G)]) (by simp [results, Try.f36, go_sem, q0, q1, q2, q3]) rfl ⟨rfl, hbf⟩
end Go.Proofs.Ythhmhcfahlnmpaa
