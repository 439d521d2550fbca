/- Layer 11 (layout) for the statements of layer 19: Segment and In; the kit's Pick. Turned from the proofs of layer 11 by port2.py. -/
import Derived.Test.YthhmhcfahlnmpaaLD
import Derived.IntWalk
namespace Go.Proofs.Ythhmhcfahlnmpaa
open Go.RowKit
theorem right10t (g : Geo) (w : World) (h : rightB g = true) : Calls Try.prog 17 #[gv g] w fun e w' => e = .returned (.bool true) ∧ Below w.heap.size w w' := h ▸ right10 g w
theorem right10f (g : Geo) (w : World) (h : rightB g = false) : Calls Try.prog 17 #[gv g] w fun e w' => e = .returned (.bool false) ∧ Below w.heap.size w w' := h ▸ right10 g w
theorem fields29t (g : Geo) (w : World) (h : fieldsB g = true) : Calls Try.prog 40 #[gv g] w fun e w' => e = .returned (.bool true) ∧ Below w.heap.size w w' := h ▸ fields29 g w
theorem fields29f (g : Geo) (w : World) (h : fieldsB g = false) : Calls Try.prog 40 #[gv g] w fun e w' => e = .returned (.bool false) ∧ Below w.heap.size w w' := h ▸ fields29 g w
theorem geo_at {W : World} {g : Geo} {b : Nat} {z : Nat × Nat} (h1 : W.heap[b]? = some (.cells (gcs g) 23 z)) :
    W.cell? ⟨b, 0, none⟩ = some (.int .i64 g.V) ∧ W.cell? ⟨b, 1, none⟩ = some (.int .i64 g.S) ∧ W.cell? ⟨b, 2, none⟩ = some (.int .i64 g.G) ∧ W.cell? ⟨b, 3, none⟩ = some (.int .i64 g.U) ∧ W.cell? ⟨b, 4, none⟩ = some (.int .i64 g.J) :=
  ⟨block_cell h1 0 _ rfl, block_cell h1 1 _ rfl, block_cell h1 2 _ rfl, block_cell h1 3 _ rfl, block_cell h1 4 _ rfl⟩
set_option maxHeartbeats 1000000 in
theorem sectors30 (g : Geo) (w : World) (h : Fine g) : Calls Try.prog 41 #[gv g] w fun e w' => e = .returned (.int .i64 (total g)) ∧ Below w.heap.size w w' := by
  have hp := h.prod
  have hq := h.pages
  have v1 := h.v1
  have v2 := h.v2
  have j1 := h.j1
  have j2 := h.j2
  go_enter Try.func41, Try.ntmps41
  go_wp2_with fail
  have K0 := Lib.hid (heap_new w (.cells (gcs g) 23))
  go_region_held3 (fun w' => w'.cell? ⟨w.heap.size, 0, none⟩ = some (.int .i64 g.V) ∧ w'.cell? ⟨w.heap.size, 1, none⟩ = some (.int .i64 g.S) ∧ w'.cell? ⟨w.heap.size, 2, none⟩ = some (.int .i64 g.G) ∧ w'.cell? ⟨w.heap.size, 3, none⟩ = some (.int .i64 g.U) ∧ w'.cell? ⟨w.heap.size, 4, none⟩ = some (.int .i64 g.J)) (go_keep)
    (first | (go_at_call 75; refine (pages32 g _ (by omega) v2 (by omega) hp.2).mono ?_; rintro e w1 ⟨rfl, hb1⟩; obtain ⟨e0, e1, e2, e3, e4⟩ := geo_cells hb1 K0.out (by simp)))
  go_wp2_with fail
  go_ret
  refine ⟨ret_int ?_, (((Below.refl _ w).alloc (Nat.le_refl _) _).drew).trans (hb1.mono (by simp))⟩
  show IntKind.i64.wrap (IntKind.i64.wrap (IntKind.i64.wrap (2 + IntKind.i64.wrap (2 * g.J)) + IntKind.i64.wrap (4 * pagesN g)) + IntKind.i64.wrap (g.S * g.G)) = total g
  rw [IntWalk.i64_in (2 * g.J) (by omega), IntWalk.i64_in (4 * pagesN g) (by omega), IntWalk.i64_in (g.S * g.G) (by omega), IntWalk.i64_in (2 + 2 * g.J) (by omega), IntWalk.i64_in (2 + 2 * g.J + 4 * pagesN g) (by omega), IntWalk.i64_in _ (by omega)]
  rfl
set_option maxHeartbeats 1000000 in
theorem right11 (g : Geo) (w : World) : Calls Try.prog 30 #[gv g] w fun e w' => e = .returned (.bool (rightB g)) ∧ Below w.heap.size w w' := by
  have hB : Below w.heap.size w (w.alloc (.cells (gcs g) 23)) := (Below.refl _ w).alloc (Nat.le_refl _) _
  by_cases h1 : fieldsB g = true
  · have hf := fine_of h1
    by_cases h2 : total g ≤ 262144
    · have R := Lib.hid (show rightB g = true by simp [rightB, h1, h2])
      go_enter Try.func30, Try.ntmps30
      go_wp2_with (first | (go_at_call 40; refine (fields29t g _ h1).mono ?_; rintro e w1 ⟨rfl, hb1⟩; obtain ⟨e0, e1, e2, e3, e4⟩ := geo_cells hb1 (heap_new w _) (by simp)) | (go_at_call 41; refine (sectors30 g _ hf).mono ?_; rintro e w2 ⟨rfl, hb2⟩))
      go_ret
      exact ⟨ret_bool R.out.symm, hB.trans ((hb1.mono hB.size).trans (hb2.mono (Nat.le_trans hB.size hb1.size)))⟩
    · have R := Lib.hid (show rightB g = false by simp [rightB, h2])
      have d2 : decide (total g ≤ 262144) = false := by simpa using h2
      go_enter Try.func30, Try.ntmps30
      go_wp2_with (first | (go_at_call 40; refine (fields29t g _ h1).mono ?_; rintro e w1 ⟨rfl, hb1⟩; obtain ⟨e0, e1, e2, e3, e4⟩ := geo_cells hb1 (heap_new w _) (by simp)) | (go_at_call 41; refine (sectors30 g _ hf).mono ?_; rintro e w2 ⟨rfl, hb2⟩))
      go_ret
      exact ⟨ret_bool R.out.symm, hB.trans ((hb1.mono hB.size).trans (hb2.mono (Nat.le_trans hB.size hb1.size)))⟩
  · have h1' : fieldsB g = false := by simpa using h1
    have R := Lib.hid (show rightB g = false by simp [rightB, h1'])
    clear h1
    go_enter Try.func30, Try.ntmps30
    go_wp2_with (first | (go_at_call 40; refine (fields29f g _ h1').mono ?_; rintro e w1 ⟨rfl, hb1⟩))
    go_ret
    exact ⟨ret_bool R.out.symm, hB.trans (hb1.mono hB.size)⟩
theorem right11t (g : Geo) (w : World) (h : rightB g = true) : Calls Try.prog 30 #[gv g] w fun e w' => e = .returned (.bool true) ∧ Below w.heap.size w w' := h ▸ right11 g w
theorem right11f (g : Geo) (w : World) (h : rightB g = false) : Calls Try.prog 30 #[gv g] w fun e w' => e = .returned (.bool false) ∧ Below w.heap.size w w' := h ▸ right11 g w
def segV (g : Geo) (k : Int) : Int := if rightB g = true ∧ 0 ≤ k ∧ k < g.S then 2 + 2 * g.J + 4 * pagesN g + k * g.G else -1
theorem seg_bd {g : Geo} {k : Int} (h : Fine g) (h0 : 0 ≤ k) (h1 : k < g.S) : 0 ≤ k * g.G ∧ k * g.G + g.G ≤ g.S * g.G := by
  have hg : 0 ≤ g.G := by have := h.u1; have := h.g1; omega
  constructor
  · exact Int.mul_nonneg h0 hg
  · have := Int.mul_le_mul_of_nonneg_right (show k + 1 ≤ g.S by omega) hg
    rw [Int.add_mul] at this; omega
set_option maxHeartbeats 1000000 in
theorem seg25 (g : Geo) (i : Int) (w : World) : Calls Try.prog 42 #[gv g, .int .i64 i] w fun e w' => e = .returned (.int .i64 (segV g i)) ∧ Below w.heap.size w w' := by
  have hB : Below w.heap.size w (w.alloc (.cells (gcs g) 23)) := (Below.refl _ w).alloc (Nat.le_refl _) _
  by_cases h : rightB g = true
  · by_cases hi : 0 ≤ i
    · by_cases hs : i < g.S
      · have R := Lib.hid (show segV g i = 2 + 2 * g.J + 4 * pagesN g + i * g.G by simp [segV, h, hi, hs])
        have hf := fine_right h
        have ht := total_right h
        have hp := hf.prod
        have hq := hf.pages
        have v1 := hf.v1
        have v2 := hf.v2
        have s1 := hf.s1
        have s2 := hf.s2
        have g1 := hf.g1
        have g2 := hf.g2
        have j1 := hf.j1
        have j2 := hf.j2
        have u1 := hf.u1
        have hm := seg_bd hf hi hs
        go_enter Try.func42, Try.ntmps42
        go_wp2_with fail
        have K0 := Lib.hid (heap_new w (.cells (gcs g) 23))
        refine (right11t g _ h).mono ?_
        rintro e w1 ⟨rfl, hb1⟩
        have K1 := Lib.hid ((hb1.block w.heap.size (by simp)).trans K0.out)
        obtain ⟨e0, e1, e2, e3, e4⟩ := geo_at K1.out
        go_wp2_with fail
        go_region_held3 (fun w' => w'.cell? ⟨w.heap.size, 0, none⟩ = some (.int .i64 g.V) ∧ w'.cell? ⟨w.heap.size, 1, none⟩ = some (.int .i64 g.S) ∧ w'.cell? ⟨w.heap.size, 2, none⟩ = some (.int .i64 g.G) ∧ w'.cell? ⟨w.heap.size, 3, none⟩ = some (.int .i64 g.U) ∧ w'.cell? ⟨w.heap.size, 4, none⟩ = some (.int .i64 g.J)) (go_keep)
          (first | (go_at_call 75; refine (pages32 g _ (by omega) v2 (by omega) hp.2).mono ?_; rintro e w2 ⟨rfl, hb2⟩; have K2 := Lib.hid ((hb2.block w.heap.size (heap_lt K1.out)).trans K1.out); obtain ⟨e5, e6, e7, e8, e9⟩ := geo_at K2.out))
        go_wp2_with fail
        have hB1 : Below w.heap.size w w1.drew := (hB.trans (hb1.mono hB.size)).drew
        go_ret
        refine ⟨ret_int (Eq.trans ?_ R.out.symm), hB1.trans (hb2.mono hB1.size)⟩
        show IntKind.i64.wrap (IntKind.i64.wrap (IntKind.i64.wrap (2 + IntKind.i64.wrap (2 * g.J)) + IntKind.i64.wrap (4 * pagesN g)) + IntKind.i64.wrap (i * g.G)) = _
        rw [IntWalk.i64_in (2 * g.J) (by omega), IntWalk.i64_in (2 + 2 * g.J) (by omega), IntWalk.i64_in (4 * pagesN g) (by omega), IntWalk.i64_in (2 + 2 * g.J + 4 * pagesN g) (by omega), IntWalk.i64_in (i * g.G) (by omega), IntWalk.i64_in _ (by omega)]
      · have R := Lib.hid (show segV g i = -1 by simp [segV, hs])
        have hf := fine_right h
        have ht := total_right h
        have hp := hf.prod
        have hq := hf.pages
        have v1 := hf.v1
        have v2 := hf.v2
        have s1 := hf.s1
        have s2 := hf.s2
        have g1 := hf.g1
        have g2 := hf.g2
        have j1 := hf.j1
        have j2 := hf.j2
        have u1 := hf.u1
        go_enter Try.func42, Try.ntmps42
        go_wp2_with (go_at_call 30; refine (right11t g _ h).mono ?_; rintro e w1 ⟨rfl, hb1⟩; obtain ⟨e0, e1, e2, e3, e4⟩ := geo_cells hb1 (heap_new w _) (by simp))
        go_ret
        exact ⟨ret_int R.out.symm, hB.trans (hb1.mono hB.size)⟩
    · have R := Lib.hid (show segV g i = -1 by simp [segV, hi])
      have hn : i < 0 := by omega
      clear hi
      have hf := fine_right h
      have ht := total_right h
      have hp := hf.prod
      have hq := hf.pages
      have v1 := hf.v1
      have v2 := hf.v2
      have s1 := hf.s1
      have s2 := hf.s2
      have g1 := hf.g1
      have g2 := hf.g2
      have j1 := hf.j1
      have j2 := hf.j2
      have u1 := hf.u1
      go_enter Try.func42, Try.ntmps42
      go_wp2_with (go_at_call 30; refine (right11t g _ h).mono ?_; rintro e w1 ⟨rfl, hb1⟩; obtain ⟨e0, e1, e2, e3, e4⟩ := geo_cells hb1 (heap_new w _) (by simp))
      go_ret
      exact ⟨ret_int R.out.symm, hB.trans (hb1.mono hB.size)⟩
  · have R := Lib.hid (show segV g i = -1 by simp [segV, h])
    have h2 : rightB g = false := by simpa using h
    clear h
    go_enter Try.func42, Try.ntmps42
    go_wp2_with (go_at_call 30; refine (right11f g _ h2).mono ?_; rintro e w1 ⟨rfl, hb1⟩; obtain ⟨e0, e1, e2, e3, e4⟩ := geo_cells hb1 (heap_new w _) (by simp))
    go_ret
    exact ⟨ret_int R.out.symm, hB.trans (hb1.mono hB.size)⟩
set_option maxHeartbeats 1000000 in
theorem seg15 (g : Geo) (i : Int) (w : World) : Calls Try.prog 19 #[gv g, .int .i64 i] w fun e w' => e = .returned (.int .i64 (segV g i)) ∧ Below w.heap.size w w' := by
  have hB : Below w.heap.size w (w.alloc (.cells (gcs g) 23)) := (Below.refl _ w).alloc (Nat.le_refl _) _
  have K := jx2
  by_cases h : rightB g = true
  · by_cases hi : 0 ≤ i
    · by_cases hs : i < g.S
      · have R := Lib.hid (show segV g i = 2 + 2 * g.J + 4 * pagesN g + i * g.G by simp [segV, h, hi, hs])
        have hf := fine_right h
        have ht := total_right h
        have hp := hf.prod
        have hq := hf.pages
        have v1 := hf.v1
        have v2 := hf.v2
        have s1 := hf.s1
        have s2 := hf.s2
        have g1 := hf.g1
        have g2 := hf.g2
        have j1 := hf.j1
        have j2 := hf.j2
        have u1 := hf.u1
        have hm := seg_bd hf hi hs
        go_enter Try.func19, Try.ntmps19
        go_wp2_with fail
        have K0 := Lib.hid (heap_new w (.cells (gcs g) 23))
        refine (right10t g _ h).mono ?_
        rintro e w1 ⟨rfl, hb1⟩
        have K1 := Lib.hid ((hb1.block w.heap.size (by simp)).trans K0.out)
        obtain ⟨e0, e1, e2, e3, e4⟩ := geo_at K1.out
        go_wp2_with fail
        go_region_held3 (fun w' => w'.cell? ⟨w.heap.size, 0, none⟩ = some (.int .i64 g.V) ∧ w'.cell? ⟨w.heap.size, 1, none⟩ = some (.int .i64 g.S) ∧ w'.cell? ⟨w.heap.size, 2, none⟩ = some (.int .i64 g.G) ∧ w'.cell? ⟨w.heap.size, 3, none⟩ = some (.int .i64 g.U) ∧ w'.cell? ⟨w.heap.size, 4, none⟩ = some (.int .i64 g.J)) (go_keep)
          (first | (go_at_call 36; refine (plan28 g _ (by omega) v2 (by omega) hp.2 (by omega) j2 (by omega) hq.2).mono ?_; rintro e w2 ⟨rfl, hb2⟩; have K2 := Lib.hid ((hb2.block w.heap.size (heap_lt K1.out)).trans K1.out); obtain ⟨e5, e6, e7, e8, e9⟩ := geo_at K2.out))
        go_wp2_with fail
        have hB1 : Below w.heap.size w w1.drew := (hB.trans (hb1.mono hB.size)).drew
        go_ret
        refine ⟨ret_int (Eq.trans ?_ R.out.symm), hB1.trans (hb2.mono hB1.size)⟩
        show IntKind.i64.wrap (2 + 2 * g.J + 4 * pagesN g + IntKind.i64.wrap (i * g.G)) = _
        rw [IntWalk.i64_in (i * g.G) (by omega), IntWalk.i64_in _ (by omega)]
      · have R := Lib.hid (show segV g i = -1 by simp [segV, hs])
        have hf := fine_right h
        have ht := total_right h
        have hp := hf.prod
        have hq := hf.pages
        have v1 := hf.v1
        have v2 := hf.v2
        have s1 := hf.s1
        have s2 := hf.s2
        have g1 := hf.g1
        have g2 := hf.g2
        have j1 := hf.j1
        have j2 := hf.j2
        have u1 := hf.u1
        go_enter Try.func19, Try.ntmps19
        go_wp2_with (go_at_call 17; refine (right10t g _ h).mono ?_; rintro e w1 ⟨rfl, hb1⟩; obtain ⟨e0, e1, e2, e3, e4⟩ := geo_cells hb1 (heap_new w _) (by simp))
        go_ret
        exact ⟨ret_int R.out.symm, hB.trans (hb1.mono hB.size)⟩
    · have R := Lib.hid (show segV g i = -1 by simp [segV, hi])
      have hn : i < 0 := by omega
      clear hi
      have hf := fine_right h
      have ht := total_right h
      have hp := hf.prod
      have hq := hf.pages
      have v1 := hf.v1
      have v2 := hf.v2
      have s1 := hf.s1
      have s2 := hf.s2
      have g1 := hf.g1
      have g2 := hf.g2
      have j1 := hf.j1
      have j2 := hf.j2
      have u1 := hf.u1
      go_enter Try.func19, Try.ntmps19
      go_wp2_with (go_at_call 17; refine (right10t g _ h).mono ?_; rintro e w1 ⟨rfl, hb1⟩; obtain ⟨e0, e1, e2, e3, e4⟩ := geo_cells hb1 (heap_new w _) (by simp))
      go_ret
      exact ⟨ret_int R.out.symm, hB.trans (hb1.mono hB.size)⟩
  · have R := Lib.hid (show segV g i = -1 by simp [segV, h])
    have h2 : rightB g = false := by simpa using h
    clear h
    go_enter Try.func19, Try.ntmps19
    go_wp2_with (go_at_call 17; refine (right10f g _ h2).mono ?_; rintro e w1 ⟨rfl, hb1⟩; obtain ⟨e0, e1, e2, e3, e4⟩ := geo_cells hb1 (heap_new w _) (by simp))
    go_ret
    exact ⟨ret_int R.out.symm, hB.trans (hb1.mono hB.size)⟩
def segs (g : Geo) : Int := 2 + 2 * g.J + 4 * pagesN g
theorem total_segs (g : Geo) : total g = segs g + g.S * g.G := rfl
def inV (g : Geo) (a : Int) : Int × Bool := if rightB g = true ∧ segs g ≤ a ∧ a < total g then ((a - segs g) / g.G, true) else (0, false)
theorem ret_in {a b : Int × Bool} (h : a = b) : Ending.returned (.tuple #[.int .i64 a.1, .bool a.2]) = .returned (.tuple #[.int .i64 b.1, .bool b.2]) := by rw [h]
def TwoPost (x : Int × Bool) (w : World) (e : Ending) (w' : World) : Prop := e = .returned (.tuple #[.int .i64 x.1, .bool x.2]) ∧ Below w.heap.size w w'
set_option maxHeartbeats 2000000 in
theorem in14 (g : Geo) (a : Int) (w : World) (_ha : a ≤ 9223372036854775807) : Calls Try.prog 18 #[gv g, .int .i64 a] w fun e w' => e = .returned (.tuple #[.int .i64 (inV g a).1, .bool (inV g a).2]) ∧ Below w.heap.size w w' := by
  have hB : Below w.heap.size w (w.alloc (.cells (gcs g) 23)) := (Below.refl _ w).alloc (Nat.le_refl _) _
  by_cases h : rightB g = true
  · have e1 : segs g = 2 + 2 * g.J + 4 * pagesN g := rfl
    have e2 := total_segs g
    have hf := fine_right h
    have ht := total_right h
    have hp := hf.prod
    have hq := hf.pages
    have v1 := hf.v1
    have v2 := hf.v2
    have s1 := hf.s1
    have s2 := hf.s2
    have g1 := hf.g1
    have g2 := hf.g2
    have j1 := hf.j1
    have j2 := hf.j2
    have u1 := hf.u1
    by_cases c1 : a < segs g
    · have R := Lib.hid (show inV g a = (0, false) by simp [inV]; omega)
      have c1' : a < 2 + 2 * g.J + 4 * pagesN g := c1
      clear c1 e1 e2
      go_enter Try.func18, Try.ntmps18
      go_wp2_with (first | (go_at_call 17; refine (right10t g _ h).mono ?_; rintro e w1 ⟨rfl, hb1⟩; obtain ⟨e0, e1, e2, e3, e4⟩ := geo_cells hb1 (heap_new w _) (by simp)) | (go_at_call 36; refine (plan28 g _ (by omega) v2 (by omega) hp.2 (by omega) j2 (by omega) hq.2).mono ?_; rintro e w2 ⟨rfl, hb2⟩))
      go_ret2
      exact ⟨ret_in R.out.symm, ((hB.trans (hb1.mono hB.size)).trans (hb2.mono (Nat.le_trans hB.size hb1.size))).alloc (Nat.le_trans (Nat.le_trans hB.size hb1.size) hb2.size) _⟩
    · by_cases c2 : a < total g
      · have R := Lib.hid (show inV g a = ((a - segs g) / g.G, true) by simp [inV, h]; omega)
        have c1' : 2 + 2 * g.J + 4 * pagesN g ≤ a := by omega
        have c3 : decide (a < 2 + 2 * g.J + 4 * pagesN g) = false := by simp; omega
        have hbox := Lib.hid (heap_new w (.cells (gcs g) 23))
        have g0 : ¬ g.G = 0 := by omega
        clear c1 e1 e2
        go_enter Try.func18, Try.ntmps18
        go_wp2_with (first | (go_at_call 17; refine (right10t g _ h).mono ?_; rintro e w1 ⟨rfl, hb1⟩; obtain ⟨e0, e1, e2, e3, e4⟩ := geo_cells hb1 (heap_new w _) (by simp)) | (go_at_call 36; refine (plan28 g _ (by omega) v2 (by omega) hp.2 (by omega) j2 (by omega) hq.2).mono ?_; rintro e w2 ⟨rfl, hb2⟩; have K2 := Lib.hid ((hb2.block w.heap.size (Nat.lt_of_lt_of_le (by simp) hb1.size)).trans ((hb1.block w.heap.size (by simp)).trans hbox.out)); obtain ⟨e5, e6, e7, e8, e9⟩ := geo_at K2.out; have hlt := heap_lt K2.out))
        go_ret2
        exact ⟨ret_in R.out.symm, ((hB.trans (hb1.mono hB.size)).trans (hb2.mono (Nat.le_trans hB.size hb1.size))).alloc (Nat.le_trans (Nat.le_trans hB.size hb1.size) hb2.size) _⟩
      · have R := Lib.hid (show inV g a = (0, false) by simp [inV]; omega)
        have c1' : 2 + 2 * g.J + 4 * pagesN g ≤ a := by omega
        have c3 : decide (a < 2 + 2 * g.J + 4 * pagesN g) = false := by simp; omega
        clear c1 e1 e2
        go_enter Try.func18, Try.ntmps18
        go_wp2_with (first | (go_at_call 17; refine (right10t g _ h).mono ?_; rintro e w1 ⟨rfl, hb1⟩; obtain ⟨e0, e1, e2, e3, e4⟩ := geo_cells hb1 (heap_new w _) (by simp)) | (go_at_call 36; refine (plan28 g _ (by omega) v2 (by omega) hp.2 (by omega) j2 (by omega) hq.2).mono ?_; rintro e w2 ⟨rfl, hb2⟩))
        go_ret2
        exact ⟨ret_in R.out.symm, ((hB.trans (hb1.mono hB.size)).trans (hb2.mono (Nat.le_trans hB.size hb1.size))).alloc (Nat.le_trans (Nat.le_trans hB.size hb1.size) hb2.size) _⟩
  · have R := Lib.hid (show inV g a = (0, false) by simp [inV, h])
    have h2 : rightB g = false := by simpa using h
    clear h
    go_enter Try.func18, Try.ntmps18
    go_wp2_with (go_at_call 17; refine (right10f g _ h2).mono ?_; rintro e w1 ⟨rfl, hb1⟩; obtain ⟨e0, e1, e2, e3, e4⟩ := geo_cells hb1 (heap_new w _) (by simp))
    go_ret2
    exact ⟨ret_in R.out.symm, hB.trans (hb1.mono hB.size)⟩
theorem in_here {g : Geo} {a k : Int} (h : rightB g = true) (h0 : 0 ≤ k) (hk : k < g.S) (h1 : segs g + k * g.G ≤ a) (h2 : a - (segs g + k * g.G) < g.G) : inV g a = (k, true) := by
  have hf := fine_right h
  have hm := seg_bd hf h0 hk
  have e2 := total_segs g
  have hg : 0 < g.G := by have := hf.u1; have := hf.g1; omega
  have e : (a - segs g) / g.G = k := by
    have : a - segs g = (a - (segs g + k * g.G)) + k * g.G := by omega
    rw [this, Int.add_mul_ediv_right _ _ (by omega), Int.ediv_eq_zero_of_lt (by omega) (by omega), Int.zero_add]
  simp [inV, h, e]; omega
theorem tmod_cases (x n : Int) (h1 : 1 ≤ n) (hx : x < 0) : (x.tmod n < 0 ∧ x.tmod n + n = x % n ∧ -n < x.tmod n) ∨ (¬ x.tmod n < 0 ∧ x.tmod n = x % n) := by
  have h := Int.tmod_eq_emod (a := x) (b := n)
  have hb := Int.emod_nonneg x (show n ≠ 0 by omega)
  have hc := Int.emod_lt_of_pos x (show 0 < n by omega)
  by_cases hd : n ∣ x
  · right
    rw [if_pos (.inr hd)] at h
    omega
  · left
    rw [if_neg (by intro h5; rcases h5 with h5 | h5; · omega
                   · exact hd h5)] at h
    have : 0 < x % n := by
      rcases Int.lt_or_eq_of_le hb with h6 | h6
      · exact h6
      · exact absurd (Int.dvd_of_emod_eq_zero h6.symm) hd
    omega
set_option maxHeartbeats 400000 in
theorem pick9 (x n : Int) (w : World) (h1 : 1 ≤ n) (h2 : n ≤ 9223372036854775807) :
    Calls Try.prog 20 #[.int .i64 x, .int .i64 n] w fun e w' => e = .returned (.int .i64 (x % n)) ∧ w = w' := by
  have hz : ¬ n = 0 := by omega
  by_cases hx : x < 0
  · have hc := tmod_cases x n h1 hx
    obtain ⟨r, hr⟩ : ∃ r, x.tmod n = r := ⟨_, rfl⟩
    rw [hr] at hc
    have HR := Lib.hid hr
    rcases hc with ⟨h5, h6, h7⟩ | ⟨h5, h6⟩
    · have H6 := Lib.hid h6
      clear h6
      go_enter Try.func20, Try.ntmps20
      go_wp2
      go_ret
      exact ⟨ret_int H6.out, rfl⟩
    · have H6 := Lib.hid h6
      clear h6
      go_enter Try.func20, Try.ntmps20
      go_wp2
      go_ret
      exact ⟨ret_int H6.out, rfl⟩
  · have h5 := Int.emod_nonneg x hz
    go_enter Try.func20, Try.ntmps20
    go_wp2
    go_ret
    exact ⟨rfl, rfl⟩
set_option maxHeartbeats 2000000 in
theorem in16 (g : Geo) (a : Int) (w : World) (_ha : a ≤ 9223372036854775807) : Calls Try.prog 31 #[gv g, .int .i64 a] w fun e w' => e = .returned (.tuple #[.int .i64 (inV g a).1, .bool (inV g a).2]) ∧ Below w.heap.size w w' := by
  have hB : Below w.heap.size w (w.alloc (.cells (gcs g) 23)) := (Below.refl _ w).alloc (Nat.le_refl _) _
  have K0 := Lib.hid (heap_new w (.cells (gcs g) 23))
  by_cases h : rightB g = true
  · have e2 := total_segs g
    have e3 : segs g = 2 + 2 * g.J + 4 * pagesN g := rfl
    have hf := fine_right h
    have ht := total_right h
    have hp := hf.prod
    have hq := hf.pages
    have v1 := hf.v1
    have v2 := hf.v2
    have s1 := hf.s1
    have s2 := hf.s2
    have g1 := hf.g1
    have g2 := hf.g2
    have j1 := hf.j1
    have j2 := hf.j2
    have u1 := hf.u1
    go_enter Try.func31, Try.ntmps31
    go_wp2_with fail
    go_loopw [6] (fun i wr => ∃ k : Nat, (k : Int) ≤ g.S ∧ i = .int .i64 k ∧ (a < segs g ∨ segs g + k * g.G ≤ a) ∧ Below w.heap.size w wr ∧ wr.heap[w.heap.size]? = some (.cells (gcs g) 23 (0, 0))) (fun i _ => g.S.toNat - (intOf i).toNat)
    case atStart => exact ⟨0, by omega, rfl, by omega, hB, K0.out⟩
    case round =>
      obtain ⟨k, hk, rfl, hc, hBr, hbox⟩ := hrel
      obtain ⟨q0, q1, q2, q3, q4⟩ := geo_at hbox
      have K1 := Lib.hid hbox
      have EE := Lib.hid e2
      have HC := Lib.hid hc
      have HQ := Lib.hid e3
      clear hbox e2 hc e3
      by_cases hlt : (k : Int) < g.S
      · have hm := seg_bd hf (k := k) (by omega) hlt
        have hsv : segV g k = segs g + k * g.G := by simp [segV, h, hlt, HQ.out]
        have hs0 : 0 ≤ segs g ∧ segs g ≤ 400200 := by rw [HQ.out]; omega
        have HS := Lib.hid hsv
        clear hsv
        go_wp2_with fail
        refine (right11t g _ h).mono ?_
        rintro e w1 ⟨rfl, hb1⟩
        have hz1 := Nat.lt_of_lt_of_le (heap_lt K1.out) hb1.size
        have K2 := Lib.hid ((hb1.block w.heap.size (heap_lt K1.out)).trans K1.out)
        obtain ⟨p0, p1, p2, p3, p4⟩ := geo_at K2.out
        clear q0 q1 q2 q3 q4
        go_wp2_with fail
        refine (seg25 g k _).mono ?_
        rintro e w2 ⟨rfl, hb2⟩
        rw [HS.out]
        have K3 := Lib.hid ((hb2.block w.heap.size hz1).trans K2.out)
        obtain ⟨r0, r1, r2, r3, r4⟩ := geo_at K3.out
        clear p0 p1 p2 p3 p4
        have hBt : Below w.heap.size w w2 := hBr.trans ((hb1.mono hBr.size).trans (hb2.mono (Nat.le_trans hBr.size hb1.size)))
        by_cases c1 : segs g + k * g.G ≤ a
        · by_cases c2 : a - (segs g + k * g.G) < g.G
          · have R := Lib.hid (in_here h (by omega) hlt c1 c2)
            go_wp2_with fail
            go_ret2
            exact ⟨ret_in R.out.symm, hBt⟩
          · have d2 : decide (a - (segs g + k * g.G) < g.G) = false := by simp; omega
            go_wp2_with fail
            go_roundw
            case rel => exact ⟨k + 1, by omega, by go_num, .inr (by have : ((k + 1 : Nat) : Int) * g.G = k * g.G + g.G := by rw [Int.natCast_add, Int.add_mul]; simp
                                                                    rw [this]; omega), hBt, K3.out⟩
            case measure => simp [intOf]; omega
        · have d1 : decide (segs g + k * g.G ≤ a) = false := by simp; omega
          have c3 : a < segs g := by rcases HC.out with h5 | h5 <;> omega
          go_wp2_with fail
          go_roundw
          case rel => exact ⟨k + 1, by omega, by go_num, .inl c3, hBt, K3.out⟩
          case measure => simp [intOf]; omega
      · have hk2 : (k : Int) = g.S := by omega
        have R := Lib.hid (show inV g a = (0, false) by
          have e5 := EE.out
          have h5 := HC.out
          rw [hk2] at h5
          simp [inV]; omega)
        have d1 : decide ((k : Int) < g.S) = false := by simp; omega
        clear hk2
        go_wp2_with fail
        go_ret2
        exact ⟨ret_in R.out.symm, hBr⟩
  · have R := Lib.hid (show inV g a = (0, false) by simp [inV, h])
    have h2 : rightB g = false := by simpa using h
    clear h
    by_cases hs : 0 < g.S
    · go_enter Try.func31, Try.ntmps31
      go_wp2_with fail
      refine wp_loop_rounds 1 ?_
      rw [rounds_succ]
      go_wp2_with (go_at_call 30; refine (right11f g _ h2).mono ?_; rintro e w1 ⟨rfl, hb1⟩; obtain ⟨e0, e1, e2, e3, e4⟩ := geo_cells hb1 (heap_new w _) (by simp))
      go_ret2
      exact ⟨ret_in R.out.symm, hB.trans (hb1.mono hB.size)⟩
    · have d1 : decide (0 < g.S) = false := by simpa using hs
      go_enter Try.func31, Try.ntmps31
      go_wp2_with fail
      refine wp_loop_rounds 1 ?_
      rw [rounds_succ]
      go_wp2_with fail
      go_ret2
      exact ⟨ret_in R.out.symm, hB⟩
end Go.Proofs.Ythhmhcfahlnmpaa
