/- Part of the proof of the statements of layer 11 (layout): what the functions of the layer and of the reference compute, at every input. No condition. -/
import Derived.Test.YtlkbghjeclicmaaD
namespace Go.Proofs.Ytlkbghjeclicmaa
open Go.RowKit
theorem right10t (g : Geo) (w : World) (h : rightB g = true) : Calls Try.prog 10 #[gv g] w fun e w' => e = .returned (.bool true) ∧ Below w.heap.size w w' := h ▸ right10 g w
theorem right10f (g : Geo) (w : World) (h : rightB g = false) : Calls Try.prog 10 #[gv g] w fun e w' => e = .returned (.bool false) ∧ Below w.heap.size w w' := h ▸ right10 g w
theorem fields29t (g : Geo) (w : World) (h : fieldsB g = true) : Calls Try.prog 29 #[gv g] w fun e w' => e = .returned (.bool true) ∧ Below w.heap.size w w' := h ▸ fields29 g w
theorem fields29f (g : Geo) (w : World) (h : fieldsB g = false) : Calls Try.prog 29 #[gv g] w fun e w' => e = .returned (.bool false) ∧ Below w.heap.size w w' := h ▸ fields29 g w
theorem geo_at {W : World} {g : Geo} {b : Nat} {z : Nat × Nat} (h1 : W.heap[b]? = some (.cells (gcs g) 24 z)) :
    W.cell? ⟨b, 0, none⟩ = some (.int .i64 g.V) ∧ W.cell? ⟨b, 1, none⟩ = some (.int .i64 g.S) ∧ W.cell? ⟨b, 2, none⟩ = some (.int .i64 g.G) ∧ W.cell? ⟨b, 3, none⟩ = some (.int .i64 g.U) ∧ W.cell? ⟨b, 4, none⟩ = some (.int .i64 g.J) :=
  ⟨block_cell h1 0 _ rfl, block_cell h1 1 _ rfl, block_cell h1 2 _ rfl, block_cell h1 3 _ rfl, block_cell h1 4 _ rfl⟩
set_option maxHeartbeats 1000000 in
theorem sectors30 (g : Geo) (w : World) (h : Fine g) : Calls Try.prog 30 #[gv g] w fun e w' => e = .returned (.int .i64 (total g)) ∧ Below w.heap.size w w' := by
  have hp := h.prod
  have hq := h.pages
  have v1 := h.v1
  have v2 := h.v2
  have j1 := h.j1
  have j2 := h.j2
  go_enter Try.func30, Try.ntmps30
  go_wp2_with fail
  have K0 := Lib.hid (heap_new w (.cells (gcs g) 24))
  go_region_held3 (fun w' => w'.cell? ⟨w.heap.size, 0, none⟩ = some (.int .i64 g.V) ∧ w'.cell? ⟨w.heap.size, 1, none⟩ = some (.int .i64 g.S) ∧ w'.cell? ⟨w.heap.size, 2, none⟩ = some (.int .i64 g.G) ∧ w'.cell? ⟨w.heap.size, 3, none⟩ = some (.int .i64 g.U) ∧ w'.cell? ⟨w.heap.size, 4, none⟩ = some (.int .i64 g.J)) (go_keep)
    (first | (go_at_call 32; refine (pages32 g _ (by omega) v2 (by omega) hp.2).mono ?_; rintro e w1 ⟨rfl, hb1⟩; obtain ⟨e0, e1, e2, e3, e4⟩ := geo_cells hb1 K0.out (by simp)))
  go_wp2_with fail
  go_ret
  refine ⟨ret_int ?_, (((Below.refl _ w).alloc (Nat.le_refl _) _).drew).trans (hb1.mono (by simp))⟩
  show IntKind.i64.wrap (IntKind.i64.wrap (IntKind.i64.wrap (2 + IntKind.i64.wrap (2 * g.J)) + IntKind.i64.wrap (4 * pagesN g)) + IntKind.i64.wrap (g.S * g.G)) = total g
  rw [IntWalk.i64_in (2 * g.J) (by omega), IntWalk.i64_in (4 * pagesN g) (by omega), IntWalk.i64_in (g.S * g.G) (by omega), IntWalk.i64_in (2 + 2 * g.J) (by omega), IntWalk.i64_in (2 + 2 * g.J + 4 * pagesN g) (by omega), IntWalk.i64_in _ (by omega)]
  rfl
set_option maxHeartbeats 1000000 in
theorem right11 (g : Geo) (w : World) : Calls Try.prog 11 #[gv g] w fun e w' => e = .returned (.bool (rightB g)) ∧ Below w.heap.size w w' := by
  have hB : Below w.heap.size w (w.alloc (.cells (gcs g) 24)) := (Below.refl _ w).alloc (Nat.le_refl _) _
  by_cases h1 : fieldsB g = true
  · have hf := fine_of h1
    by_cases h2 : total g ≤ 262144
    · have R := Lib.hid (show rightB g = true by simp [rightB, h1, h2])
      go_enter Try.func11, Try.ntmps11
      go_wp2_with (first | (go_at_call 29; refine (fields29t g _ h1).mono ?_; rintro e w1 ⟨rfl, hb1⟩; obtain ⟨e0, e1, e2, e3, e4⟩ := geo_cells hb1 (heap_new w _) (by simp)) | (go_at_call 30; refine (sectors30 g _ hf).mono ?_; rintro e w2 ⟨rfl, hb2⟩))
      go_ret
      exact ⟨ret_bool R.out.symm, hB.trans ((hb1.mono hB.size).trans (hb2.mono (Nat.le_trans hB.size hb1.size)))⟩
    · have R := Lib.hid (show rightB g = false by simp [rightB, h2])
      have d2 : decide (total g ≤ 262144) = false := by simpa using h2
      go_enter Try.func11, Try.ntmps11
      go_wp2_with (first | (go_at_call 29; refine (fields29t g _ h1).mono ?_; rintro e w1 ⟨rfl, hb1⟩; obtain ⟨e0, e1, e2, e3, e4⟩ := geo_cells hb1 (heap_new w _) (by simp)) | (go_at_call 30; refine (sectors30 g _ hf).mono ?_; rintro e w2 ⟨rfl, hb2⟩))
      go_ret
      exact ⟨ret_bool R.out.symm, hB.trans ((hb1.mono hB.size).trans (hb2.mono (Nat.le_trans hB.size hb1.size)))⟩
  · have h1' : fieldsB g = false := by simpa using h1
    have R := Lib.hid (show rightB g = false by simp [rightB, h1'])
    clear h1
    go_enter Try.func11, Try.ntmps11
    go_wp2_with (first | (go_at_call 29; refine (fields29f g _ h1').mono ?_; rintro e w1 ⟨rfl, hb1⟩))
    go_ret
    exact ⟨ret_bool R.out.symm, hB.trans (hb1.mono hB.size)⟩
theorem right11t (g : Geo) (w : World) (h : rightB g = true) : Calls Try.prog 11 #[gv g] w fun e w' => e = .returned (.bool true) ∧ Below w.heap.size w w' := h ▸ right11 g w
theorem right11f (g : Geo) (w : World) (h : rightB g = false) : Calls Try.prog 11 #[gv g] w fun e w' => e = .returned (.bool false) ∧ Below w.heap.size w w' := h ▸ right11 g w
def totalV (g : Geo) : Int := if rightB g then total g else 0
def pagesV (g : Geo) : Int := if rightB g then pagesN g else 0
set_option maxHeartbeats 1000000 in
theorem sectors12 (g : Geo) (w : World) : Calls Try.prog 12 #[gv g] w fun e w' => e = .returned (.int .i64 (totalV g)) ∧ Below w.heap.size w w' := by
  have hB : Below w.heap.size w (w.alloc (.cells (gcs g) 24)) := (Below.refl _ w).alloc (Nat.le_refl _) _
  by_cases h : rightB g = true
  · have R := Lib.hid (show totalV g = total g by simp [totalV, h])
    have hf := fine_right h
    have ht := total_right h
    have hp := hf.prod
    have hq := hf.pages
    have v1 := hf.v1
    have v2 := hf.v2
    have s1 := hf.s1
    have s2 := hf.s2
    have g1 := hf.g1
    have g2 := hf.g2
    have j1 := hf.j1
    have j2 := hf.j2
    have u1 := hf.u1
    have K := jx3
    go_enter Try.func12, Try.ntmps12
    go_wp2_with (first | (go_at_call 10; refine (right10t g _ h).mono ?_; rintro e w1 ⟨rfl, hb1⟩; obtain ⟨e0, e1, e2, e3, e4⟩ := geo_cells hb1 (heap_new w _) (by simp)) | (go_at_call 28; refine (plan28 g _ (by omega) v2 (by omega) hp.2 (by omega) j2 (by omega) hq.2).mono ?_; rintro e w2 ⟨rfl, hb2⟩))
    go_ret
    exact ⟨ret_int R.out.symm, hB.trans ((hb1.mono hB.size).trans (hb2.mono (Nat.le_trans hB.size hb1.size)))⟩
  · have R := Lib.hid (show totalV g = 0 by simp [totalV, h])
    have h2 : rightB g = false := by simpa using h
    clear h
    go_enter Try.func12, Try.ntmps12
    go_wp2_with (first | (go_at_call 10; refine (right10f g _ h2).mono ?_; rintro e w1 ⟨rfl, hb1⟩; obtain ⟨e0, e1, e2, e3, e4⟩ := geo_cells hb1 (heap_new w _) (by simp)))
    go_ret
    exact ⟨ret_int R.out.symm, hB.trans (hb1.mono hB.size)⟩
set_option maxHeartbeats 1000000 in
theorem sectors13 (g : Geo) (w : World) : Calls Try.prog 13 #[gv g] w fun e w' => e = .returned (.int .i64 (totalV g)) ∧ Below w.heap.size w w' := by
  have hB : Below w.heap.size w (w.alloc (.cells (gcs g) 24)) := (Below.refl _ w).alloc (Nat.le_refl _) _
  by_cases h : rightB g = true
  · have R := Lib.hid (show totalV g = total g by simp [totalV, h])
    have hf := fine_right h
    have ht := total_right h
    have hp := hf.prod
    have hq := hf.pages
    have v1 := hf.v1
    have v2 := hf.v2
    have s1 := hf.s1
    have s2 := hf.s2
    have g1 := hf.g1
    have g2 := hf.g2
    have j1 := hf.j1
    have j2 := hf.j2
    have u1 := hf.u1
    go_enter Try.func13, Try.ntmps13
    go_wp2_with (first | (go_at_call 11; refine (right11t g _ h).mono ?_; rintro e w1 ⟨rfl, hb1⟩; obtain ⟨e0, e1, e2, e3, e4⟩ := geo_cells hb1 (heap_new w _) (by simp)) | (go_at_call 30; refine (sectors30 g _ hf).mono ?_; rintro e w2 ⟨rfl, hb2⟩))
    go_ret
    exact ⟨ret_int R.out.symm, hB.trans ((hb1.mono hB.size).trans (hb2.mono (Nat.le_trans hB.size hb1.size)))⟩
  · have R := Lib.hid (show totalV g = 0 by simp [totalV, h])
    have h2 : rightB g = false := by simpa using h
    clear h
    go_enter Try.func13, Try.ntmps13
    go_wp2_with (first | (go_at_call 11; refine (right11f g _ h2).mono ?_; rintro e w1 ⟨rfl, hb1⟩; obtain ⟨e0, e1, e2, e3, e4⟩ := geo_cells hb1 (heap_new w _) (by simp)))
    go_ret
    exact ⟨ret_int R.out.symm, hB.trans (hb1.mono hB.size)⟩
set_option maxHeartbeats 1000000 in
theorem pages17 (g : Geo) (w : World) : Calls Try.prog 17 #[gv g] w fun e w' => e = .returned (.int .i64 (pagesV g)) ∧ Below w.heap.size w w' := by
  have hB : Below w.heap.size w (w.alloc (.cells (gcs g) 24)) := (Below.refl _ w).alloc (Nat.le_refl _) _
  by_cases h : rightB g = true
  · have R := Lib.hid (show pagesV g = pagesN g by simp [pagesV, h])
    have hf := fine_right h
    have ht := total_right h
    have hp := hf.prod
    have hq := hf.pages
    have v1 := hf.v1
    have v2 := hf.v2
    have s1 := hf.s1
    have s2 := hf.s2
    have g1 := hf.g1
    have g2 := hf.g2
    have j1 := hf.j1
    have j2 := hf.j2
    have u1 := hf.u1
    go_enter Try.func17, Try.ntmps17
    go_wp2_with (first | (go_at_call 10; refine (right10t g _ h).mono ?_; rintro e w1 ⟨rfl, hb1⟩; obtain ⟨e0, e1, e2, e3, e4⟩ := geo_cells hb1 (heap_new w _) (by simp)) | (go_at_call 31; refine (pages31 g _ (by omega) v2 (by omega) hp.2).mono ?_; rintro e w2 ⟨rfl, hb2⟩))
    go_ret
    exact ⟨ret_int R.out.symm, hB.trans ((hb1.mono hB.size).trans (hb2.mono (Nat.le_trans hB.size hb1.size)))⟩
  · have R := Lib.hid (show pagesV g = 0 by simp [pagesV, h])
    have h2 : rightB g = false := by simpa using h
    clear h
    go_enter Try.func17, Try.ntmps17
    go_wp2_with (first | (go_at_call 10; refine (right10f g _ h2).mono ?_; rintro e w1 ⟨rfl, hb1⟩; obtain ⟨e0, e1, e2, e3, e4⟩ := geo_cells hb1 (heap_new w _) (by simp)))
    go_ret
    exact ⟨ret_int R.out.symm, hB.trans (hb1.mono hB.size)⟩
set_option maxHeartbeats 1000000 in
theorem pages18 (g : Geo) (w : World) : Calls Try.prog 18 #[gv g] w fun e w' => e = .returned (.int .i64 (pagesV g)) ∧ Below w.heap.size w w' := by
  have hB : Below w.heap.size w (w.alloc (.cells (gcs g) 24)) := (Below.refl _ w).alloc (Nat.le_refl _) _
  by_cases h : rightB g = true
  · have R := Lib.hid (show pagesV g = pagesN g by simp [pagesV, h])
    have hf := fine_right h
    have ht := total_right h
    have hp := hf.prod
    have hq := hf.pages
    have v1 := hf.v1
    have v2 := hf.v2
    have s1 := hf.s1
    have s2 := hf.s2
    have g1 := hf.g1
    have g2 := hf.g2
    have j1 := hf.j1
    have j2 := hf.j2
    have u1 := hf.u1
    go_enter Try.func18, Try.ntmps18
    go_wp2_with (first | (go_at_call 11; refine (right11t g _ h).mono ?_; rintro e w1 ⟨rfl, hb1⟩; obtain ⟨e0, e1, e2, e3, e4⟩ := geo_cells hb1 (heap_new w _) (by simp)) | (go_at_call 32; refine (pages32 g _ (by omega) v2 (by omega) hp.2).mono ?_; rintro e w2 ⟨rfl, hb2⟩))
    go_ret
    exact ⟨ret_int R.out.symm, hB.trans ((hb1.mono hB.size).trans (hb2.mono (Nat.le_trans hB.size hb1.size)))⟩
  · have R := Lib.hid (show pagesV g = 0 by simp [pagesV, h])
    have h2 : rightB g = false := by simpa using h
    clear h
    go_enter Try.func18, Try.ntmps18
    go_wp2_with (first | (go_at_call 11; refine (right11f g _ h2).mono ?_; rintro e w1 ⟨rfl, hb1⟩; obtain ⟨e0, e1, e2, e3, e4⟩ := geo_cells hb1 (heap_new w _) (by simp)))
    go_ret
    exact ⟨ret_int R.out.symm, hB.trans (hb1.mono hB.size)⟩
end Go.Proofs.Ytlkbghjeclicmaa
