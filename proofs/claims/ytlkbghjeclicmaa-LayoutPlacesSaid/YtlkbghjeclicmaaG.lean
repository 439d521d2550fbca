/- Part of the proof of the statements of layer 11 (layout): what the functions of the layer and of the reference compute, at every input. No condition. -/
import Derived.Test.YtlkbghjeclicmaaF
namespace Go.Proofs.Ytlkbghjeclicmaa
open Go.RowKit
set_option maxHeartbeats 1000000 in
theorem area23 (g : Geo) (i : Int) (w : World) : Calls Try.prog 23 #[gv g, .int .i64 i] w fun e w' => e = .returned (.int .i64 (areaV g i)) ∧ Below w.heap.size w w' := by
  have hB : Below w.heap.size w (w.alloc (.cells (gcs g) 24)) := (Below.refl _ w).alloc (Nat.le_refl _) _
  have K := jx1
  by_cases h : rightB g = true
  · by_cases hi : 0 ≤ i
    · have R := Lib.hid (show areaV g i = 2 + 2 * g.J + i % 2 * (2 * pagesN g) by simp [areaV, h, hi])
      have hf := fine_right h
      have ht := total_right h
      have hp := hf.prod
      have hq := hf.pages
      have v1 := hf.v1
      have v2 := hf.v2
      have s1 := hf.s1
      have s2 := hf.s2
      have g1 := hf.g1
      have g2 := hf.g2
      have j1 := hf.j1
      have j2 := hf.j2
      have u1 := hf.u1
      have hm := two_bd (i := i) (s := 2 * pagesN g) (m := 200000) (by omega) (by omega)
      have hw : IntKind.i64.wrap (2 * pagesN g) = 2 * pagesN g := IntWalk.i64_in _ (by omega)
      go_enter Try.func23, Try.ntmps23
      go_wp2_with fail
      have K0 := Lib.hid (heap_new w (.cells (gcs g) 24))
      go_region_held3 (fun w' => w'.cell? ⟨w.heap.size, 0, none⟩ = some (.int .i64 g.V) ∧ w'.cell? ⟨w.heap.size, 1, none⟩ = some (.int .i64 g.S) ∧ w'.cell? ⟨w.heap.size, 2, none⟩ = some (.int .i64 g.G) ∧ w'.cell? ⟨w.heap.size, 3, none⟩ = some (.int .i64 g.U) ∧ w'.cell? ⟨w.heap.size, 4, none⟩ = some (.int .i64 g.J)) (go_keep)
        (first | (go_at_call 28; refine (plan28 g _ (by omega) v2 (by omega) hp.2 (by omega) j2 (by omega) hq.2).mono ?_; rintro e w1 ⟨rfl, hb1⟩; have K1 := Lib.hid ((hb1.block w.heap.size (by simp)).trans K0.out); obtain ⟨e0, e1, e2, e3, e4⟩ := geo_at K1.out) | (go_at_call 31; refine (pages31 g _ (by omega) v2 (by omega) hp.2).mono ?_; rintro e w2 ⟨rfl, hb2⟩; have K2 := Lib.hid ((hb2.block w.heap.size (heap_lt K1.out)).trans K1.out); obtain ⟨e5, e6, e7, e8, e9⟩ := geo_at K2.out) | (go_at_call 33; refine (one33t g i _ _ _ h hi (by omega) (by omega) hm.1 (by omega)).mono ?_; rintro e w3 ⟨rfl, hb3⟩; have K3 := Lib.hid ((hb3.block w.heap.size (heap_lt K2.out)).trans K2.out); obtain ⟨k0, k1, k2, k3, k4⟩ := geo_at K3.out))
      all_goals go_wp2_with fail
      all_goals (have hB0 : Below w.heap.size w (w.alloc (.cells (gcs g) 24)).drew := hB.drew)
      all_goals go_ret
      all_goals exact ⟨ret_int R.out.symm, hB0.trans ((hb1.mono hB0.size).trans ((hb2.mono (Nat.le_trans hB0.size hb1.size)).trans (hb3.mono (Nat.le_trans (Nat.le_trans hB0.size hb1.size) hb2.size))))⟩
    · have R := Lib.hid (show areaV g i = -1 by simp [areaV, hi])
      have hn : i < 0 := by omega
      clear hi
      have hf := fine_right h
      have ht := total_right h
      have hp := hf.prod
      have hq := hf.pages
      have v1 := hf.v1
      have v2 := hf.v2
      have s1 := hf.s1
      have s2 := hf.s2
      have g1 := hf.g1
      have g2 := hf.g2
      have j1 := hf.j1
      have j2 := hf.j2
      have u1 := hf.u1
      go_enter Try.func23, Try.ntmps23
      go_wp2_with fail
      have K0 := Lib.hid (heap_new w (.cells (gcs g) 24))
      go_region_held3 (fun w' => w'.cell? ⟨w.heap.size, 0, none⟩ = some (.int .i64 g.V) ∧ w'.cell? ⟨w.heap.size, 1, none⟩ = some (.int .i64 g.S) ∧ w'.cell? ⟨w.heap.size, 2, none⟩ = some (.int .i64 g.G) ∧ w'.cell? ⟨w.heap.size, 3, none⟩ = some (.int .i64 g.U) ∧ w'.cell? ⟨w.heap.size, 4, none⟩ = some (.int .i64 g.J)) (go_keep)
        (first | (go_at_call 28; refine (plan28any g _).mono ?_; rintro e w1 ⟨pa, pb, pc, pd, rfl, hb1⟩; have K1 := Lib.hid ((hb1.block w.heap.size (by simp)).trans K0.out); obtain ⟨e0, e1, e2, e3, e4⟩ := geo_at K1.out) | (go_at_call 31; refine (pages31any g _).mono ?_; rintro e w2 ⟨pn, rfl, hb2⟩; have K2 := Lib.hid ((hb2.block w.heap.size (heap_lt K1.out)).trans K1.out); obtain ⟨e5, e6, e7, e8, e9⟩ := geo_at K2.out) | (go_at_call 33; refine (one33n g _ _ _ _ h hn).mono ?_; rintro e w3 ⟨rfl, hb3⟩; have K3 := Lib.hid ((hb3.block w.heap.size (heap_lt K2.out)).trans K2.out); obtain ⟨k0, k1, k2, k3, k4⟩ := geo_at K3.out))
      all_goals go_wp2_with fail
      all_goals (have hB0 : Below w.heap.size w (w.alloc (.cells (gcs g) 24)).drew := hB.drew)
      all_goals go_ret
      all_goals exact ⟨ret_int R.out.symm, hB0.trans ((hb1.mono hB0.size).trans ((hb2.mono (Nat.le_trans hB0.size hb1.size)).trans (hb3.mono (Nat.le_trans (Nat.le_trans hB0.size hb1.size) hb2.size))))⟩
  · have R := Lib.hid (show areaV g i = -1 by simp [areaV, h])
    have h2 : rightB g = false := by simpa using h
    clear h
    go_enter Try.func23, Try.ntmps23
    go_wp2_with fail
    have K0 := Lib.hid (heap_new w (.cells (gcs g) 24))
    go_region_held3 (fun w' => w'.cell? ⟨w.heap.size, 0, none⟩ = some (.int .i64 g.V) ∧ w'.cell? ⟨w.heap.size, 1, none⟩ = some (.int .i64 g.S) ∧ w'.cell? ⟨w.heap.size, 2, none⟩ = some (.int .i64 g.G) ∧ w'.cell? ⟨w.heap.size, 3, none⟩ = some (.int .i64 g.U) ∧ w'.cell? ⟨w.heap.size, 4, none⟩ = some (.int .i64 g.J)) (go_keep)
      (first | (go_at_call 28; refine (plan28any g _).mono ?_; rintro e w1 ⟨pa, pb, pc, pd, rfl, hb1⟩; have K1 := Lib.hid ((hb1.block w.heap.size (by simp)).trans K0.out); obtain ⟨e0, e1, e2, e3, e4⟩ := geo_at K1.out) | (go_at_call 31; refine (pages31any g _).mono ?_; rintro e w2 ⟨pn, rfl, hb2⟩; have K2 := Lib.hid ((hb2.block w.heap.size (heap_lt K1.out)).trans K1.out); obtain ⟨e5, e6, e7, e8, e9⟩ := geo_at K2.out) | (go_at_call 33; refine (one33f g _ _ _ _ h2).mono ?_; rintro e w3 ⟨rfl, hb3⟩; have K3 := Lib.hid ((hb3.block w.heap.size (heap_lt K2.out)).trans K2.out); obtain ⟨k0, k1, k2, k3, k4⟩ := geo_at K3.out))
    all_goals go_wp2_with fail
    all_goals (have hB0 : Below w.heap.size w (w.alloc (.cells (gcs g) 24)).drew := hB.drew)
    all_goals go_ret
    all_goals exact ⟨ret_int R.out.symm, hB0.trans ((hb1.mono hB0.size).trans ((hb2.mono (Nat.le_trans hB0.size hb1.size)).trans (hb3.mono (Nat.le_trans (Nat.le_trans hB0.size hb1.size) hb2.size))))⟩
set_option maxHeartbeats 1000000 in
theorem area24 (g : Geo) (i : Int) (w : World) : Calls Try.prog 24 #[gv g, .int .i64 i] w fun e w' => e = .returned (.int .i64 (areaV g i)) ∧ Below w.heap.size w w' := by
  have hB : Below w.heap.size w (w.alloc (.cells (gcs g) 24)) := (Below.refl _ w).alloc (Nat.le_refl _) _
  by_cases h : rightB g = true
  · by_cases hi : 0 ≤ i
    · have R := Lib.hid (show areaV g i = 2 + 2 * g.J + i % 2 * (2 * pagesN g) by simp [areaV, h, hi])
      have hf := fine_right h
      have ht := total_right h
      have hp := hf.prod
      have hq := hf.pages
      have v1 := hf.v1
      have v2 := hf.v2
      have s1 := hf.s1
      have s2 := hf.s2
      have g1 := hf.g1
      have g2 := hf.g2
      have j1 := hf.j1
      have j2 := hf.j2
      have u1 := hf.u1
      have hm := two_bd (i := i) (s := 2 * pagesN g) (m := 200000) (by omega) (by omega)
      go_enter Try.func24, Try.ntmps24
      go_wp2_with fail
      have K0 := Lib.hid (heap_new w (.cells (gcs g) 24))
      refine (right11t g _ h).mono ?_
      rintro e w1 ⟨rfl, hb1⟩
      have K1 := Lib.hid ((hb1.block w.heap.size (by simp)).trans K0.out)
      obtain ⟨e0, e1, e2, e3, e4⟩ := geo_at K1.out
      go_wp2_with fail
      go_region_held3 (fun w' => w'.cell? ⟨w.heap.size, 0, none⟩ = some (.int .i64 g.V) ∧ w'.cell? ⟨w.heap.size, 1, none⟩ = some (.int .i64 g.S) ∧ w'.cell? ⟨w.heap.size, 2, none⟩ = some (.int .i64 g.G) ∧ w'.cell? ⟨w.heap.size, 3, none⟩ = some (.int .i64 g.U) ∧ w'.cell? ⟨w.heap.size, 4, none⟩ = some (.int .i64 g.J)) (go_keep)
        (first | (go_at_call 32; refine (pages32 g _ (by omega) v2 (by omega) hp.2).mono ?_; rintro e w2 ⟨rfl, hb2⟩; have K2 := Lib.hid ((hb2.block w.heap.size (heap_lt K1.out)).trans K1.out); obtain ⟨e5, e6, e7, e8, e9⟩ := geo_at K2.out))
      go_wp2_with fail
      have hB1 : Below w.heap.size w w1.drew := (hB.trans (hb1.mono hB.size)).drew
      go_ret
      refine ⟨ret_int (Eq.trans ?_ R.out.symm), hB1.trans (hb2.mono hB1.size)⟩
      show IntKind.i64.wrap (IntKind.i64.wrap (2 + IntKind.i64.wrap (2 * g.J)) + IntKind.i64.wrap (IntKind.i64.wrap (i.tmod 2 * 2) * pagesN g)) = _
      rw [Int.tmod_eq_emod_of_nonneg hi, IntWalk.i64_in (2 * g.J) (by omega), IntWalk.i64_in (2 + 2 * g.J) (by omega), IntWalk.i64_in (i % 2 * 2) (by omega), Int.mul_assoc, IntWalk.i64_in (i % 2 * (2 * pagesN g)) (by omega), IntWalk.i64_in _ (by omega)]
    · have R := Lib.hid (show areaV g i = -1 by simp [areaV, hi])
      have hn : i < 0 := by omega
      clear hi
      have hf := fine_right h
      have ht := total_right h
      have hp := hf.prod
      have hq := hf.pages
      have v1 := hf.v1
      have v2 := hf.v2
      have s1 := hf.s1
      have s2 := hf.s2
      have g1 := hf.g1
      have g2 := hf.g2
      have j1 := hf.j1
      have j2 := hf.j2
      have u1 := hf.u1
      go_enter Try.func24, Try.ntmps24
      go_wp2_with (go_at_call 11; refine (right11t g _ h).mono ?_; rintro e w1 ⟨rfl, hb1⟩; obtain ⟨e0, e1, e2, e3, e4⟩ := geo_cells hb1 (heap_new w _) (by simp))
      go_ret
      exact ⟨ret_int R.out.symm, hB.trans (hb1.mono hB.size)⟩
  · have R := Lib.hid (show areaV g i = -1 by simp [areaV, h])
    have h2 : rightB g = false := by simpa using h
    clear h
    go_enter Try.func24, Try.ntmps24
    go_wp2_with (go_at_call 11; refine (right11f g _ h2).mono ?_; rintro e w1 ⟨rfl, hb1⟩; obtain ⟨e0, e1, e2, e3, e4⟩ := geo_cells hb1 (heap_new w _) (by simp))
    go_ret
    exact ⟨ret_int R.out.symm, hB.trans (hb1.mono hB.size)⟩
set_option maxHeartbeats 1000000 in
theorem seg25 (g : Geo) (i : Int) (w : World) : Calls Try.prog 25 #[gv g, .int .i64 i] w fun e w' => e = .returned (.int .i64 (segV g i)) ∧ Below w.heap.size w w' := by
  have hB : Below w.heap.size w (w.alloc (.cells (gcs g) 24)) := (Below.refl _ w).alloc (Nat.le_refl _) _
  by_cases h : rightB g = true
  · by_cases hi : 0 ≤ i
    · by_cases hs : i < g.S
      · have R := Lib.hid (show segV g i = 2 + 2 * g.J + 4 * pagesN g + i * g.G by simp [segV, h, hi, hs])
        have hf := fine_right h
        have ht := total_right h
        have hp := hf.prod
        have hq := hf.pages
        have v1 := hf.v1
        have v2 := hf.v2
        have s1 := hf.s1
        have s2 := hf.s2
        have g1 := hf.g1
        have g2 := hf.g2
        have j1 := hf.j1
        have j2 := hf.j2
        have u1 := hf.u1
        have hm := seg_bd hf hi hs
        go_enter Try.func25, Try.ntmps25
        go_wp2_with fail
        have K0 := Lib.hid (heap_new w (.cells (gcs g) 24))
        refine (right11t g _ h).mono ?_
        rintro e w1 ⟨rfl, hb1⟩
        have K1 := Lib.hid ((hb1.block w.heap.size (by simp)).trans K0.out)
        obtain ⟨e0, e1, e2, e3, e4⟩ := geo_at K1.out
        go_wp2_with fail
        go_region_held3 (fun w' => w'.cell? ⟨w.heap.size, 0, none⟩ = some (.int .i64 g.V) ∧ w'.cell? ⟨w.heap.size, 1, none⟩ = some (.int .i64 g.S) ∧ w'.cell? ⟨w.heap.size, 2, none⟩ = some (.int .i64 g.G) ∧ w'.cell? ⟨w.heap.size, 3, none⟩ = some (.int .i64 g.U) ∧ w'.cell? ⟨w.heap.size, 4, none⟩ = some (.int .i64 g.J)) (go_keep)
          (first | (go_at_call 32; refine (pages32 g _ (by omega) v2 (by omega) hp.2).mono ?_; rintro e w2 ⟨rfl, hb2⟩; have K2 := Lib.hid ((hb2.block w.heap.size (heap_lt K1.out)).trans K1.out); obtain ⟨e5, e6, e7, e8, e9⟩ := geo_at K2.out))
        go_wp2_with fail
        have hB1 : Below w.heap.size w w1.drew := (hB.trans (hb1.mono hB.size)).drew
        go_ret
        refine ⟨ret_int (Eq.trans ?_ R.out.symm), hB1.trans (hb2.mono hB1.size)⟩
        show IntKind.i64.wrap (IntKind.i64.wrap (IntKind.i64.wrap (2 + IntKind.i64.wrap (2 * g.J)) + IntKind.i64.wrap (4 * pagesN g)) + IntKind.i64.wrap (i * g.G)) = _
        rw [IntWalk.i64_in (2 * g.J) (by omega), IntWalk.i64_in (2 + 2 * g.J) (by omega), IntWalk.i64_in (4 * pagesN g) (by omega), IntWalk.i64_in (2 + 2 * g.J + 4 * pagesN g) (by omega), IntWalk.i64_in (i * g.G) (by omega), IntWalk.i64_in _ (by omega)]
      · have R := Lib.hid (show segV g i = -1 by simp [segV, hs])
        have hf := fine_right h
        have ht := total_right h
        have hp := hf.prod
        have hq := hf.pages
        have v1 := hf.v1
        have v2 := hf.v2
        have s1 := hf.s1
        have s2 := hf.s2
        have g1 := hf.g1
        have g2 := hf.g2
        have j1 := hf.j1
        have j2 := hf.j2
        have u1 := hf.u1
        go_enter Try.func25, Try.ntmps25
        go_wp2_with (go_at_call 11; refine (right11t g _ h).mono ?_; rintro e w1 ⟨rfl, hb1⟩; obtain ⟨e0, e1, e2, e3, e4⟩ := geo_cells hb1 (heap_new w _) (by simp))
        go_ret
        exact ⟨ret_int R.out.symm, hB.trans (hb1.mono hB.size)⟩
    · have R := Lib.hid (show segV g i = -1 by simp [segV, hi])
      have hn : i < 0 := by omega
      clear hi
      have hf := fine_right h
      have ht := total_right h
      have hp := hf.prod
      have hq := hf.pages
      have v1 := hf.v1
      have v2 := hf.v2
      have s1 := hf.s1
      have s2 := hf.s2
      have g1 := hf.g1
      have g2 := hf.g2
      have j1 := hf.j1
      have j2 := hf.j2
      have u1 := hf.u1
      go_enter Try.func25, Try.ntmps25
      go_wp2_with (go_at_call 11; refine (right11t g _ h).mono ?_; rintro e w1 ⟨rfl, hb1⟩; obtain ⟨e0, e1, e2, e3, e4⟩ := geo_cells hb1 (heap_new w _) (by simp))
      go_ret
      exact ⟨ret_int R.out.symm, hB.trans (hb1.mono hB.size)⟩
  · have R := Lib.hid (show segV g i = -1 by simp [segV, h])
    have h2 : rightB g = false := by simpa using h
    clear h
    go_enter Try.func25, Try.ntmps25
    go_wp2_with (go_at_call 11; refine (right11f g _ h2).mono ?_; rintro e w1 ⟨rfl, hb1⟩; obtain ⟨e0, e1, e2, e3, e4⟩ := geo_cells hb1 (heap_new w _) (by simp))
    go_ret
    exact ⟨ret_int R.out.symm, hB.trans (hb1.mono hB.size)⟩
set_option maxHeartbeats 1000000 in
theorem seg15 (g : Geo) (i : Int) (w : World) : Calls Try.prog 15 #[gv g, .int .i64 i] w fun e w' => e = .returned (.int .i64 (segV g i)) ∧ Below w.heap.size w w' := by
  have hB : Below w.heap.size w (w.alloc (.cells (gcs g) 24)) := (Below.refl _ w).alloc (Nat.le_refl _) _
  have K := jx2
  by_cases h : rightB g = true
  · by_cases hi : 0 ≤ i
    · by_cases hs : i < g.S
      · have R := Lib.hid (show segV g i = 2 + 2 * g.J + 4 * pagesN g + i * g.G by simp [segV, h, hi, hs])
        have hf := fine_right h
        have ht := total_right h
        have hp := hf.prod
        have hq := hf.pages
        have v1 := hf.v1
        have v2 := hf.v2
        have s1 := hf.s1
        have s2 := hf.s2
        have g1 := hf.g1
        have g2 := hf.g2
        have j1 := hf.j1
        have j2 := hf.j2
        have u1 := hf.u1
        have hm := seg_bd hf hi hs
        go_enter Try.func15, Try.ntmps15
        go_wp2_with fail
        have K0 := Lib.hid (heap_new w (.cells (gcs g) 24))
        refine (right10t g _ h).mono ?_
        rintro e w1 ⟨rfl, hb1⟩
        have K1 := Lib.hid ((hb1.block w.heap.size (by simp)).trans K0.out)
        obtain ⟨e0, e1, e2, e3, e4⟩ := geo_at K1.out
        go_wp2_with fail
        go_region_held3 (fun w' => w'.cell? ⟨w.heap.size, 0, none⟩ = some (.int .i64 g.V) ∧ w'.cell? ⟨w.heap.size, 1, none⟩ = some (.int .i64 g.S) ∧ w'.cell? ⟨w.heap.size, 2, none⟩ = some (.int .i64 g.G) ∧ w'.cell? ⟨w.heap.size, 3, none⟩ = some (.int .i64 g.U) ∧ w'.cell? ⟨w.heap.size, 4, none⟩ = some (.int .i64 g.J)) (go_keep)
          (first | (go_at_call 28; refine (plan28 g _ (by omega) v2 (by omega) hp.2 (by omega) j2 (by omega) hq.2).mono ?_; rintro e w2 ⟨rfl, hb2⟩; have K2 := Lib.hid ((hb2.block w.heap.size (heap_lt K1.out)).trans K1.out); obtain ⟨e5, e6, e7, e8, e9⟩ := geo_at K2.out))
        go_wp2_with fail
        have hB1 : Below w.heap.size w w1.drew := (hB.trans (hb1.mono hB.size)).drew
        go_ret
        refine ⟨ret_int (Eq.trans ?_ R.out.symm), hB1.trans (hb2.mono hB1.size)⟩
        show IntKind.i64.wrap (2 + 2 * g.J + 4 * pagesN g + IntKind.i64.wrap (i * g.G)) = _
        rw [IntWalk.i64_in (i * g.G) (by omega), IntWalk.i64_in _ (by omega)]
      · have R := Lib.hid (show segV g i = -1 by simp [segV, hs])
        have hf := fine_right h
        have ht := total_right h
        have hp := hf.prod
        have hq := hf.pages
        have v1 := hf.v1
        have v2 := hf.v2
        have s1 := hf.s1
        have s2 := hf.s2
        have g1 := hf.g1
        have g2 := hf.g2
        have j1 := hf.j1
        have j2 := hf.j2
        have u1 := hf.u1
        go_enter Try.func15, Try.ntmps15
        go_wp2_with (go_at_call 10; refine (right10t g _ h).mono ?_; rintro e w1 ⟨rfl, hb1⟩; obtain ⟨e0, e1, e2, e3, e4⟩ := geo_cells hb1 (heap_new w _) (by simp))
        go_ret
        exact ⟨ret_int R.out.symm, hB.trans (hb1.mono hB.size)⟩
    · have R := Lib.hid (show segV g i = -1 by simp [segV, hi])
      have hn : i < 0 := by omega
      clear hi
      have hf := fine_right h
      have ht := total_right h
      have hp := hf.prod
      have hq := hf.pages
      have v1 := hf.v1
      have v2 := hf.v2
      have s1 := hf.s1
      have s2 := hf.s2
      have g1 := hf.g1
      have g2 := hf.g2
      have j1 := hf.j1
      have j2 := hf.j2
      have u1 := hf.u1
      go_enter Try.func15, Try.ntmps15
      go_wp2_with (go_at_call 10; refine (right10t g _ h).mono ?_; rintro e w1 ⟨rfl, hb1⟩; obtain ⟨e0, e1, e2, e3, e4⟩ := geo_cells hb1 (heap_new w _) (by simp))
      go_ret
      exact ⟨ret_int R.out.symm, hB.trans (hb1.mono hB.size)⟩
  · have R := Lib.hid (show segV g i = -1 by simp [segV, h])
    have h2 : rightB g = false := by simpa using h
    clear h
    go_enter Try.func15, Try.ntmps15
    go_wp2_with (go_at_call 10; refine (right10f g _ h2).mono ?_; rintro e w1 ⟨rfl, hb1⟩; obtain ⟨e0, e1, e2, e3, e4⟩ := geo_cells hb1 (heap_new w _) (by simp))
    go_ret
    exact ⟨ret_int R.out.symm, hB.trans (hb1.mono hB.size)⟩
end Go.Proofs.Ytlkbghjeclicmaa
