/- Part of the proof of the statements of layer 11 (layout): what the functions of the layer and of the reference compute, at every input. No condition. -/
import Derived.Test.YtlkbghjeclicmaaE
namespace Go.Proofs.Ytlkbghjeclicmaa
open Go.RowKit
set_option maxHeartbeats 1000000 in
theorem one33t (g : Geo) (i a s : Int) (w : World) (h : rightB g = true) (hi : 0 ≤ i) (ha : 0 ≤ a) (ha2 : a ≤ 1000000) (h1 : 0 ≤ i % 2 * s) (h2 : i % 2 * s ≤ 1000000) :
    Calls Try.prog 33 #[gv g, .int .i64 i, .int .i64 a, .int .i64 s] w fun e w' => e = .returned (.int .i64 (a + i % 2 * s)) ∧ Below w.heap.size w w' := by
  have hB : Below w.heap.size w (w.alloc (.cells (gcs g) 24)) := (Below.refl _ w).alloc (Nat.le_refl _) _
  go_enter Try.func33, Try.ntmps33
  go_wp2_with (go_at_call 10; refine (right10t g _ h).mono ?_; rintro e w1 ⟨rfl, hb1⟩; obtain ⟨e0, e1, e2, e3, e4⟩ := geo_cells hb1 (heap_new w _) (by simp))
  go_ret
  exact ⟨rfl, hB.trans (hb1.mono hB.size)⟩
set_option maxHeartbeats 1000000 in
theorem one33n (g : Geo) (i a s : Int) (w : World) (h : rightB g = true) (hi : i < 0) :
    Calls Try.prog 33 #[gv g, .int .i64 i, .int .i64 a, .int .i64 s] w fun e w' => e = .returned (.int .i64 (-1)) ∧ Below w.heap.size w w' := by
  have hB : Below w.heap.size w (w.alloc (.cells (gcs g) 24)) := (Below.refl _ w).alloc (Nat.le_refl _) _
  go_enter Try.func33, Try.ntmps33
  go_wp2_with (go_at_call 10; refine (right10t g _ h).mono ?_; rintro e w1 ⟨rfl, hb1⟩; obtain ⟨e0, e1, e2, e3, e4⟩ := geo_cells hb1 (heap_new w _) (by simp))
  go_ret
  exact ⟨rfl, hB.trans (hb1.mono hB.size)⟩
set_option maxHeartbeats 1000000 in
theorem one33f (g : Geo) (i a s : Int) (w : World) (h : rightB g = false) :
    Calls Try.prog 33 #[gv g, .int .i64 i, .int .i64 a, .int .i64 s] w fun e w' => e = .returned (.int .i64 (-1)) ∧ Below w.heap.size w w' := by
  have hB : Below w.heap.size w (w.alloc (.cells (gcs g) 24)) := (Below.refl _ w).alloc (Nat.le_refl _) _
  go_enter Try.func33, Try.ntmps33
  go_wp2_with (go_at_call 10; refine (right10f g _ h).mono ?_; rintro e w1 ⟨rfl, hb1⟩; obtain ⟨e0, e1, e2, e3, e4⟩ := geo_cells hb1 (heap_new w _) (by simp))
  go_ret
  exact ⟨rfl, hB.trans (hb1.mono hB.size)⟩
def slotV (g : Geo) (i : Int) : Int := if rightB g = true ∧ 0 ≤ i then i % 2 else -1
def halfV (g : Geo) (i : Int) : Int := if rightB g = true ∧ 0 ≤ i then 2 + i % 2 * g.J else -1
def areaV (g : Geo) (i : Int) : Int := if rightB g = true ∧ 0 ≤ i then 2 + 2 * g.J + i % 2 * (2 * pagesN g) else -1
def segV (g : Geo) (k : Int) : Int := if rightB g = true ∧ 0 ≤ k ∧ k < g.S then 2 + 2 * g.J + 4 * pagesN g + k * g.G else -1
theorem two_bd {i s m : Int} (h0 : 0 ≤ s) (h1 : s ≤ m) : 0 ≤ i % 2 * s ∧ i % 2 * s ≤ m := by
  have h : i % 2 = 0 ∨ i % 2 = 1 := by omega
  rcases h with h | h <;> rw [h] <;> omega
theorem seg_bd {g : Geo} {k : Int} (h : Fine g) (h0 : 0 ≤ k) (h1 : k < g.S) : 0 ≤ k * g.G ∧ k * g.G + g.G ≤ g.S * g.G := by
  have hg : 0 ≤ g.G := by have := h.u1; have := h.g1; omega
  constructor
  · exact Int.mul_nonneg h0 hg
  · have := Int.mul_le_mul_of_nonneg_right (show k + 1 ≤ g.S by omega) hg
    rw [Int.add_mul] at this; omega
set_option maxHeartbeats 1000000 in
theorem slot19 (g : Geo) (i : Int) (w : World) : Calls Try.prog 19 #[gv g, .int .i64 i] w fun e w' => e = .returned (.int .i64 (slotV g i)) ∧ Below w.heap.size w w' := by
  have hB : Below w.heap.size w (w.alloc (.cells (gcs g) 24)) := (Below.refl _ w).alloc (Nat.le_refl _) _
  by_cases h : rightB g = true
  · by_cases hi : 0 ≤ i
    · have R := Lib.hid (show slotV g i = i % 2 by simp [slotV, h, hi])
      have hf := fine_right h
      have ht := total_right h
      have hp := hf.prod
      have hq := hf.pages
      have v1 := hf.v1
      have v2 := hf.v2
      have s1 := hf.s1
      have s2 := hf.s2
      have g1 := hf.g1
      have g2 := hf.g2
      have j1 := hf.j1
      have j2 := hf.j2
      have u1 := hf.u1
      go_enter Try.func19, Try.ntmps19
      go_wp2_with (go_at_call 33; refine (one33t g i 0 1 _ h hi (by omega) (by omega) (by omega) (by omega)).mono ?_; rintro e w1 ⟨rfl, hb1⟩)
      go_ret
      exact ⟨ret_int R.out.symm, hB.trans (hb1.mono hB.size)⟩
    · have R := Lib.hid (show slotV g i = -1 by simp [slotV, hi])
      have hn : i < 0 := by omega
      clear hi
      have hf := fine_right h
      have ht := total_right h
      have hp := hf.prod
      have hq := hf.pages
      have v1 := hf.v1
      have v2 := hf.v2
      have s1 := hf.s1
      have s2 := hf.s2
      have g1 := hf.g1
      have g2 := hf.g2
      have j1 := hf.j1
      have j2 := hf.j2
      have u1 := hf.u1
      go_enter Try.func19, Try.ntmps19
      go_wp2_with (go_at_call 33; refine (one33n g _ _ _ _ h hn).mono ?_; rintro e w1 ⟨rfl, hb1⟩)
      go_ret
      exact ⟨ret_int R.out.symm, hB.trans (hb1.mono hB.size)⟩
  · have R := Lib.hid (show slotV g i = -1 by simp [slotV, h])
    have h2 : rightB g = false := by simpa using h
    clear h
    go_enter Try.func19, Try.ntmps19
    go_wp2_with (go_at_call 33; refine (one33f g _ _ _ _ h2).mono ?_; rintro e w1 ⟨rfl, hb1⟩)
    go_ret
    exact ⟨ret_int R.out.symm, hB.trans (hb1.mono hB.size)⟩
set_option maxHeartbeats 1000000 in
theorem half21 (g : Geo) (i : Int) (w : World) : Calls Try.prog 21 #[gv g, .int .i64 i] w fun e w' => e = .returned (.int .i64 (halfV g i)) ∧ Below w.heap.size w w' := by
  have hB : Below w.heap.size w (w.alloc (.cells (gcs g) 24)) := (Below.refl _ w).alloc (Nat.le_refl _) _
  by_cases h : rightB g = true
  · by_cases hi : 0 ≤ i
    · have R := Lib.hid (show halfV g i = 2 + i % 2 * g.J by simp [halfV, h, hi])
      have hf := fine_right h
      have ht := total_right h
      have hp := hf.prod
      have hq := hf.pages
      have v1 := hf.v1
      have v2 := hf.v2
      have s1 := hf.s1
      have s2 := hf.s2
      have g1 := hf.g1
      have g2 := hf.g2
      have j1 := hf.j1
      have j2 := hf.j2
      have u1 := hf.u1
      have hm := two_bd (i := i) (s := g.J) (m := 64) (by omega) (by omega)
      go_enter Try.func21, Try.ntmps21
      go_wp2_with (go_at_call 33; refine (one33t g i 2 g.J _ h hi (by omega) (by omega) hm.1 (by omega)).mono ?_; rintro e w1 ⟨rfl, hb1⟩)
      go_ret
      exact ⟨ret_int R.out.symm, hB.trans (hb1.mono hB.size)⟩
    · have R := Lib.hid (show halfV g i = -1 by simp [halfV, hi])
      have hn : i < 0 := by omega
      clear hi
      have hf := fine_right h
      have ht := total_right h
      have hp := hf.prod
      have hq := hf.pages
      have v1 := hf.v1
      have v2 := hf.v2
      have s1 := hf.s1
      have s2 := hf.s2
      have g1 := hf.g1
      have g2 := hf.g2
      have j1 := hf.j1
      have j2 := hf.j2
      have u1 := hf.u1
      go_enter Try.func21, Try.ntmps21
      go_wp2_with (go_at_call 33; refine (one33n g _ _ _ _ h hn).mono ?_; rintro e w1 ⟨rfl, hb1⟩)
      go_ret
      exact ⟨ret_int R.out.symm, hB.trans (hb1.mono hB.size)⟩
  · have R := Lib.hid (show halfV g i = -1 by simp [halfV, h])
    have h2 : rightB g = false := by simpa using h
    clear h
    go_enter Try.func21, Try.ntmps21
    go_wp2_with (go_at_call 33; refine (one33f g _ _ _ _ h2).mono ?_; rintro e w1 ⟨rfl, hb1⟩)
    go_ret
    exact ⟨ret_int R.out.symm, hB.trans (hb1.mono hB.size)⟩
set_option maxHeartbeats 1000000 in
theorem slot20 (g : Geo) (i : Int) (w : World) : Calls Try.prog 20 #[gv g, .int .i64 i] w fun e w' => e = .returned (.int .i64 (slotV g i)) ∧ Below w.heap.size w w' := by
  have hB : Below w.heap.size w (w.alloc (.cells (gcs g) 24)) := (Below.refl _ w).alloc (Nat.le_refl _) _
  by_cases h : rightB g = true
  · by_cases hi : 0 ≤ i
    · have R := Lib.hid (show slotV g i = i % 2 by simp [slotV, h, hi])
      have hf := fine_right h
      have ht := total_right h
      have hp := hf.prod
      have hq := hf.pages
      have v1 := hf.v1
      have v2 := hf.v2
      have s1 := hf.s1
      have s2 := hf.s2
      have g1 := hf.g1
      have g2 := hf.g2
      have j1 := hf.j1
      have j2 := hf.j2
      have u1 := hf.u1
      go_enter Try.func20, Try.ntmps20
      go_wp2_with (go_at_call 11; refine (right11t g _ h).mono ?_; rintro e w1 ⟨rfl, hb1⟩; obtain ⟨e0, e1, e2, e3, e4⟩ := geo_cells hb1 (heap_new w _) (by simp))
      go_ret
      exact ⟨ret_int R.out.symm, hB.trans (hb1.mono hB.size)⟩
    · have R := Lib.hid (show slotV g i = -1 by simp [slotV, hi])
      have hn : i < 0 := by omega
      clear hi
      have hf := fine_right h
      have ht := total_right h
      have hp := hf.prod
      have hq := hf.pages
      have v1 := hf.v1
      have v2 := hf.v2
      have s1 := hf.s1
      have s2 := hf.s2
      have g1 := hf.g1
      have g2 := hf.g2
      have j1 := hf.j1
      have j2 := hf.j2
      have u1 := hf.u1
      go_enter Try.func20, Try.ntmps20
      go_wp2_with (go_at_call 11; refine (right11t g _ h).mono ?_; rintro e w1 ⟨rfl, hb1⟩; obtain ⟨e0, e1, e2, e3, e4⟩ := geo_cells hb1 (heap_new w _) (by simp))
      go_ret
      exact ⟨ret_int R.out.symm, hB.trans (hb1.mono hB.size)⟩
  · have R := Lib.hid (show slotV g i = -1 by simp [slotV, h])
    have h2 : rightB g = false := by simpa using h
    clear h
    go_enter Try.func20, Try.ntmps20
    go_wp2_with (go_at_call 11; refine (right11f g _ h2).mono ?_; rintro e w1 ⟨rfl, hb1⟩; obtain ⟨e0, e1, e2, e3, e4⟩ := geo_cells hb1 (heap_new w _) (by simp))
    go_ret
    exact ⟨ret_int R.out.symm, hB.trans (hb1.mono hB.size)⟩
set_option maxHeartbeats 1000000 in
theorem half22 (g : Geo) (i : Int) (w : World) : Calls Try.prog 22 #[gv g, .int .i64 i] w fun e w' => e = .returned (.int .i64 (halfV g i)) ∧ Below w.heap.size w w' := by
  have hB : Below w.heap.size w (w.alloc (.cells (gcs g) 24)) := (Below.refl _ w).alloc (Nat.le_refl _) _
  by_cases h : rightB g = true
  · by_cases hi : 0 ≤ i
    · have R := Lib.hid (show halfV g i = 2 + i % 2 * g.J by simp [halfV, h, hi])
      have hf := fine_right h
      have ht := total_right h
      have hp := hf.prod
      have hq := hf.pages
      have v1 := hf.v1
      have v2 := hf.v2
      have s1 := hf.s1
      have s2 := hf.s2
      have g1 := hf.g1
      have g2 := hf.g2
      have j1 := hf.j1
      have j2 := hf.j2
      have u1 := hf.u1
      have hm := two_bd (i := i) (s := g.J) (m := 64) (by omega) (by omega)
      go_enter Try.func22, Try.ntmps22
      go_wp2_with (go_at_call 11; refine (right11t g _ h).mono ?_; rintro e w1 ⟨rfl, hb1⟩; obtain ⟨e0, e1, e2, e3, e4⟩ := geo_cells hb1 (heap_new w _) (by simp))
      go_ret
      exact ⟨ret_int R.out.symm, hB.trans (hb1.mono hB.size)⟩
    · have R := Lib.hid (show halfV g i = -1 by simp [halfV, hi])
      have hn : i < 0 := by omega
      clear hi
      have hf := fine_right h
      have ht := total_right h
      have hp := hf.prod
      have hq := hf.pages
      have v1 := hf.v1
      have v2 := hf.v2
      have s1 := hf.s1
      have s2 := hf.s2
      have g1 := hf.g1
      have g2 := hf.g2
      have j1 := hf.j1
      have j2 := hf.j2
      have u1 := hf.u1
      go_enter Try.func22, Try.ntmps22
      go_wp2_with (go_at_call 11; refine (right11t g _ h).mono ?_; rintro e w1 ⟨rfl, hb1⟩; obtain ⟨e0, e1, e2, e3, e4⟩ := geo_cells hb1 (heap_new w _) (by simp))
      go_ret
      exact ⟨ret_int R.out.symm, hB.trans (hb1.mono hB.size)⟩
  · have R := Lib.hid (show halfV g i = -1 by simp [halfV, h])
    have h2 : rightB g = false := by simpa using h
    clear h
    go_enter Try.func22, Try.ntmps22
    go_wp2_with (go_at_call 11; refine (right11f g _ h2).mono ?_; rintro e w1 ⟨rfl, hb1⟩; obtain ⟨e0, e1, e2, e3, e4⟩ := geo_cells hb1 (heap_new w _) (by simp))
    go_ret
    exact ⟨ret_int R.out.symm, hB.trans (hb1.mono hB.size)⟩
end Go.Proofs.Ytlkbghjeclicmaa
