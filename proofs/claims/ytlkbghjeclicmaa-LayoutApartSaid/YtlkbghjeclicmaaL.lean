/- Part of the proof of the statements of layer 11 (layout): the law LayoutIn returns true at every input. No condition. -/
import Derived.Test.YtlkbghjeclicmaaI
namespace Go.Proofs.Ytlkbghjeclicmaa
open Go.RowKit
theorem in_below {g : Geo} {a : Int} (h : a < segs g) : inV g a = (0, false) := by simp [inV]; omega
theorem in_past {g : Geo} {a : Int} (h : total g ≤ a) : inV g a = (0, false) := by simp [inV]; omega
set_option maxHeartbeats 8000000 in
theorem in4 (g : Geo) (k off : Int) (w : World) : Calls Try.prog 4 #[gv g, .int .i64 k, .int .i64 off] w fun e w' => e = .returned (.bool true) ∧ Below w.heap.size w w' := by
  have K0 := Lib.hid (heap_new w (.cells (gcs g) 24))
  have hz0 : w.heap.size < (w.alloc (.cells (gcs g) 24)).heap.size := by simp
  have hT0 : Below w.heap.size w (w.alloc (.cells (gcs g) 24)) := (Below.refl _ w).alloc (Nat.le_refl _) _
  obtain ⟨e0, e1, e2, e3, e4⟩ := geo_at K0.out
  by_cases h : rightB g = true
  · have e5 := total_segs g
    have hf := fine_right h
    have ht := total_right h
    have hp := hf.prod
    have hq := hf.pages
    have v1 := hf.v1
    have v2 := hf.v2
    have s1 := hf.s1
    have s2 := hf.s2
    have g1 := hf.g1
    have g2 := hf.g2
    have j1 := hf.j1
    have j2 := hf.j2
    have u1 := hf.u1
    have hn0 := Int.emod_nonneg k (show g.S ≠ 0 by omega)
    have hn1 := Int.emod_lt_of_pos k (show 0 < g.S by omega)
    have ho0 := Int.emod_nonneg off (show g.G ≠ 0 by omega)
    have ho1 := Int.emod_lt_of_pos off (show 0 < g.G by omega)
    obtain ⟨n, hn⟩ : ∃ n, k % g.S = n := ⟨_, rfl⟩
    rw [hn] at hn0 hn1
    have HN := Lib.hid hn
    have hm := seg_bd hf hn0 hn1
    have es : segs g = 2 + 2 * g.J + 4 * pagesN g := rfl
    have q1 : segV g n = segs g + n * g.G := by simp [segV, h, hn0, hn1, es]
    have q2 : segV g 0 = segs g := by
      have : (0 : Int) < g.S := by omega
      simp [segV, h, this, es]
    have q3 : totalV g = total g := by simp [totalV, h]
    have V1 := Lib.hid (show inV g (segV g n + off % g.G) = (n, true) from in_here h hn0 hn1 (by omega) (by omega))
    have V2 := Lib.hid (show inV g (segV g 0 - 1) = (0, false) from in_below (by omega))
    have V3 := Lib.hid (show inV g (totalV g) = (0, false) from in_past (by omega))
    have V4 := Lib.hid (show inV g (-1) = (0, false) from in_below (by omega))
    have y1 : 0 ≤ segV g n ∧ segV g n ≤ 1000000 := by omega
    have y2 : 0 ≤ segV g 0 ∧ segV g 0 ≤ 1000000 := by omega
    have y3 : 0 ≤ totalV g ∧ totalV g ≤ 1000000 := by omega
    have z1 : IntKind.i64.wrap (segV g n + off % g.G) = segV g n + off % g.G := IntWalk.i64_in _ (by omega)
    have z2 : IntKind.i64.wrap (segV g 0 - 1) = segV g 0 - 1 := IntWalk.i64_in _ (by omega)
    clear hn q1 q2 q3 es e5
    go_enter Try.func4, Try.ntmps4
    go_wp2_with fail
    refine (awake7 _).mono ?_
    rintro e w1 ⟨rfl, hb1⟩
    have hz1 := Nat.lt_of_lt_of_le hz0 hb1.size
    have K1 := Lib.hid ((hb1.block (w.heap.size) hz0).trans K0.out)
    have hT1 : Below w.heap.size w w1 := hT0.trans (hb1.mono hT0.size)
    clear e0 e1 e2 e3 e4 hb1
    obtain ⟨e0, e1, e2, e3, e4⟩ := geo_at K1.out
    go_wp2_with fail
    refine (right10t g _ h).mono ?_
    rintro e w2 ⟨rfl, hb2⟩
    have hz2 := Nat.lt_of_lt_of_le hz1 hb2.size
    have K2 := Lib.hid ((hb2.block (w.heap.size) hz1).trans K1.out)
    have hT2 : Below w.heap.size w w2 := hT1.trans (hb2.mono hT1.size)
    clear e0 e1 e2 e3 e4 hb2
    obtain ⟨e0, e1, e2, e3, e4⟩ := geo_at K2.out
    go_wp2_with fail
    refine (pick9 k g.S _ (by omega) (by omega)).mono ?_
    rintro e _ ⟨rfl, rfl⟩
    rw [HN.out]
    go_wp2_with fail
    go_region_held3 (fun w' => w'.cell? ⟨w.heap.size, 0, none⟩ = some (.int .i64 g.V) ∧ w'.cell? ⟨w.heap.size, 1, none⟩ = some (.int .i64 g.S) ∧ w'.cell? ⟨w.heap.size, 2, none⟩ = some (.int .i64 g.G) ∧ w'.cell? ⟨w.heap.size, 3, none⟩ = some (.int .i64 g.U) ∧ w'.cell? ⟨w.heap.size, 4, none⟩ = some (.int .i64 g.J)) (go_keep)
      (first | (go_at_call 15; refine (seg15 g n _).mono ?_; rintro e w3 ⟨rfl, hb3⟩; have K3 := Lib.hid ((hb3.block w.heap.size (heap_lt K2.out)).trans K2.out); obtain ⟨x30, x31, x32, x33, x34⟩ := geo_at K3.out) | (go_at_call 9; refine (pick9 off g.G _ (by omega) (by omega)).mono ?_; rintro e _ ⟨rfl, rfl⟩) | (go_at_call 14; refine (in14 g (segV g n + off % g.G) _ (by omega)).mono ?_; rintro e w4 ⟨rfl, hb4⟩; have K4 := Lib.hid ((hb4.block w.heap.size (heap_lt K3.out)).trans K3.out); obtain ⟨x40, x41, x42, x43, x44⟩ := geo_at K4.out))
    have hT3 : Below w.heap.size w w3 := ((hT2).drew).trans (hb3.mono hT2.size)
    have hT4 : Below w.heap.size w w4 := (hT3).trans (hb4.mono hT3.size)
    clear e0 e1 e2 e3 e4 hb3 hb4
    try clear x30 x31 x32 x33 x34 x40 x41 x42 x43 x44
    obtain ⟨e0, e1, e2, e3, e4⟩ := geo_at K4.out
    rw [V1.out]
    go_wp2_with fail
    go_region_held3 (fun w' => w'.cell? ⟨w.heap.size, 0, none⟩ = some (.int .i64 g.V) ∧ w'.cell? ⟨w.heap.size, 1, none⟩ = some (.int .i64 g.S) ∧ w'.cell? ⟨w.heap.size, 2, none⟩ = some (.int .i64 g.G) ∧ w'.cell? ⟨w.heap.size, 3, none⟩ = some (.int .i64 g.U) ∧ w'.cell? ⟨w.heap.size, 4, none⟩ = some (.int .i64 g.J)) (go_keep)
      (first | (go_at_call 15; refine (seg15 g 0 _).mono ?_; rintro e w5 ⟨rfl, hb5⟩; have K5 := Lib.hid ((hb5.block w.heap.size (heap_lt K4.out)).trans K4.out); obtain ⟨x50, x51, x52, x53, x54⟩ := geo_at K5.out) | (go_at_call 14; refine (in14 g (segV g 0 - 1) _ (by omega)).mono ?_; rintro e w6 ⟨rfl, hb6⟩; have K6 := Lib.hid ((hb6.block w.heap.size (heap_lt K5.out)).trans K5.out); obtain ⟨x60, x61, x62, x63, x64⟩ := geo_at K6.out))
    have hT5 : Below w.heap.size w w5 := ((hT4).drew).trans (hb5.mono hT4.size)
    have hT6 : Below w.heap.size w w6 := (hT5).trans (hb6.mono hT5.size)
    clear e0 e1 e2 e3 e4 hb5 hb6
    try clear x50 x51 x52 x53 x54 x60 x61 x62 x63 x64
    obtain ⟨e0, e1, e2, e3, e4⟩ := geo_at K6.out
    rw [V2.out]
    go_wp2_with fail
    go_region_held3 (fun w' => w'.cell? ⟨w.heap.size, 0, none⟩ = some (.int .i64 g.V) ∧ w'.cell? ⟨w.heap.size, 1, none⟩ = some (.int .i64 g.S) ∧ w'.cell? ⟨w.heap.size, 2, none⟩ = some (.int .i64 g.G) ∧ w'.cell? ⟨w.heap.size, 3, none⟩ = some (.int .i64 g.U) ∧ w'.cell? ⟨w.heap.size, 4, none⟩ = some (.int .i64 g.J)) (go_keep)
      (first | (go_at_call 12; refine (sectors12 g _).mono ?_; rintro e w7 ⟨rfl, hb7⟩; have K7 := Lib.hid ((hb7.block w.heap.size (heap_lt K6.out)).trans K6.out); obtain ⟨x70, x71, x72, x73, x74⟩ := geo_at K7.out) | (go_at_call 14; refine (in14 g (totalV g) _ (by omega)).mono ?_; rintro e w8 ⟨rfl, hb8⟩; have K8 := Lib.hid ((hb8.block w.heap.size (heap_lt K7.out)).trans K7.out); obtain ⟨x80, x81, x82, x83, x84⟩ := geo_at K8.out))
    have hT7 : Below w.heap.size w w7 := ((hT6).drew).trans (hb7.mono hT6.size)
    have hT8 : Below w.heap.size w w8 := (hT7).trans (hb8.mono hT7.size)
    clear e0 e1 e2 e3 e4 hb7 hb8
    try clear x70 x71 x72 x73 x74 x80 x81 x82 x83 x84
    obtain ⟨e0, e1, e2, e3, e4⟩ := geo_at K8.out
    rw [V3.out]
    go_wp2_with fail
    refine (in14 g (-1) _ (by omega)).mono ?_
    rintro e wl ⟨rfl, hbl⟩
    rw [V4.out]
    go_wp2_with fail
    go_ret
    exact ⟨rfl, hT8.trans (hbl.mono hT8.size)⟩
  · have h2 : rightB g = false := by simpa using h
    clear h
    go_enter Try.func4, Try.ntmps4
    go_wp2_with fail
    refine (awake7 _).mono ?_
    rintro e w1 ⟨rfl, hb1⟩
    have hz1 := Nat.lt_of_lt_of_le hz0 hb1.size
    have K1 := Lib.hid ((hb1.block (w.heap.size) hz0).trans K0.out)
    have hT1 : Below w.heap.size w w1 := hT0.trans (hb1.mono hT0.size)
    clear e0 e1 e2 e3 e4 hb1
    obtain ⟨e0, e1, e2, e3, e4⟩ := geo_at K1.out
    go_wp2_with fail
    refine (right10f g _ h2).mono ?_
    rintro e w2 ⟨rfl, hb2⟩
    have hz2 := Nat.lt_of_lt_of_le hz1 hb2.size
    have K2 := Lib.hid ((hb2.block (w.heap.size) hz1).trans K1.out)
    have hT2 : Below w.heap.size w w2 := hT1.trans (hb2.mono hT1.size)
    clear e0 e1 e2 e3 e4 hb2
    obtain ⟨e0, e1, e2, e3, e4⟩ := geo_at K2.out
    go_wp2_with fail
    go_ret
    exact ⟨rfl, hT2⟩
end Go.Proofs.Ytlkbghjeclicmaa
