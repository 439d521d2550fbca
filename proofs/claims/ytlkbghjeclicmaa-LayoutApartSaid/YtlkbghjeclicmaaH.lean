/- Part of the proof of the statements of layer 11 (layout): what the functions of the layer and of the reference compute, at every input. No condition. -/
import Derived.Test.YtlkbghjeclicmaaG
namespace Go.Proofs.Ytlkbghjeclicmaa
open Go.RowKit
def segs (g : Geo) : Int := 2 + 2 * g.J + 4 * pagesN g
theorem total_segs (g : Geo) : total g = segs g + g.S * g.G := rfl
def inV (g : Geo) (a : Int) : Int × Bool := if rightB g = true ∧ segs g ≤ a ∧ a < total g then ((a - segs g) / g.G, true) else (0, false)
theorem ret_in {a b : Int × Bool} (h : a = b) : Ending.returned (.tuple #[.int .i64 a.1, .bool a.2]) = .returned (.tuple #[.int .i64 b.1, .bool b.2]) := by rw [h]
def TwoPost (x : Int × Bool) (w : World) (e : Ending) (w' : World) : Prop := e = .returned (.tuple #[.int .i64 x.1, .bool x.2]) ∧ Below w.heap.size w w'
set_option maxHeartbeats 2000000 in
theorem in14 (g : Geo) (a : Int) (w : World) (_ha : a ≤ 9223372036854775807) : Calls Try.prog 14 #[gv g, .int .i64 a] w fun e w' => e = .returned (.tuple #[.int .i64 (inV g a).1, .bool (inV g a).2]) ∧ Below w.heap.size w w' := by
  have hB : Below w.heap.size w (w.alloc (.cells (gcs g) 24)) := (Below.refl _ w).alloc (Nat.le_refl _) _
  by_cases h : rightB g = true
  · have e1 : segs g = 2 + 2 * g.J + 4 * pagesN g := rfl
    have e2 := total_segs g
    have hf := fine_right h
    have ht := total_right h
    have hp := hf.prod
    have hq := hf.pages
    have v1 := hf.v1
    have v2 := hf.v2
    have s1 := hf.s1
    have s2 := hf.s2
    have g1 := hf.g1
    have g2 := hf.g2
    have j1 := hf.j1
    have j2 := hf.j2
    have u1 := hf.u1
    by_cases c1 : a < segs g
    · have R := Lib.hid (show inV g a = (0, false) by simp [inV]; omega)
      have c1' : a < 2 + 2 * g.J + 4 * pagesN g := c1
      clear c1 e1 e2
      go_enter Try.func14, Try.ntmps14
      go_wp2_with (first | (go_at_call 10; refine (right10t g _ h).mono ?_; rintro e w1 ⟨rfl, hb1⟩; obtain ⟨e0, e1, e2, e3, e4⟩ := geo_cells hb1 (heap_new w _) (by simp)) | (go_at_call 28; refine (plan28 g _ (by omega) v2 (by omega) hp.2 (by omega) j2 (by omega) hq.2).mono ?_; rintro e w2 ⟨rfl, hb2⟩))
      go_ret2
      exact ⟨ret_in R.out.symm, ((hB.trans (hb1.mono hB.size)).trans (hb2.mono (Nat.le_trans hB.size hb1.size))).alloc (Nat.le_trans (Nat.le_trans hB.size hb1.size) hb2.size) _⟩
    · by_cases c2 : a < total g
      · have R := Lib.hid (show inV g a = ((a - segs g) / g.G, true) by simp [inV, h]; omega)
        have c1' : 2 + 2 * g.J + 4 * pagesN g ≤ a := by omega
        have c3 : decide (a < 2 + 2 * g.J + 4 * pagesN g) = false := by simp; omega
        have hbox := Lib.hid (heap_new w (.cells (gcs g) 24))
        have g0 : ¬ g.G = 0 := by omega
        clear c1 e1 e2
        go_enter Try.func14, Try.ntmps14
        go_wp2_with (first | (go_at_call 10; refine (right10t g _ h).mono ?_; rintro e w1 ⟨rfl, hb1⟩; obtain ⟨e0, e1, e2, e3, e4⟩ := geo_cells hb1 (heap_new w _) (by simp)) | (go_at_call 28; refine (plan28 g _ (by omega) v2 (by omega) hp.2 (by omega) j2 (by omega) hq.2).mono ?_; rintro e w2 ⟨rfl, hb2⟩; have K2 := Lib.hid ((hb2.block w.heap.size (Nat.lt_of_lt_of_le (by simp) hb1.size)).trans ((hb1.block w.heap.size (by simp)).trans hbox.out)); obtain ⟨e5, e6, e7, e8, e9⟩ := geo_at K2.out; have hlt := heap_lt K2.out))
        go_ret2
        exact ⟨ret_in R.out.symm, ((hB.trans (hb1.mono hB.size)).trans (hb2.mono (Nat.le_trans hB.size hb1.size))).alloc (Nat.le_trans (Nat.le_trans hB.size hb1.size) hb2.size) _⟩
      · have R := Lib.hid (show inV g a = (0, false) by simp [inV]; omega)
        have c1' : 2 + 2 * g.J + 4 * pagesN g ≤ a := by omega
        have c3 : decide (a < 2 + 2 * g.J + 4 * pagesN g) = false := by simp; omega
        clear c1 e1 e2
        go_enter Try.func14, Try.ntmps14
        go_wp2_with (first | (go_at_call 10; refine (right10t g _ h).mono ?_; rintro e w1 ⟨rfl, hb1⟩; obtain ⟨e0, e1, e2, e3, e4⟩ := geo_cells hb1 (heap_new w _) (by simp)) | (go_at_call 28; refine (plan28 g _ (by omega) v2 (by omega) hp.2 (by omega) j2 (by omega) hq.2).mono ?_; rintro e w2 ⟨rfl, hb2⟩))
        go_ret2
        exact ⟨ret_in R.out.symm, ((hB.trans (hb1.mono hB.size)).trans (hb2.mono (Nat.le_trans hB.size hb1.size))).alloc (Nat.le_trans (Nat.le_trans hB.size hb1.size) hb2.size) _⟩
  · have R := Lib.hid (show inV g a = (0, false) by simp [inV, h])
    have h2 : rightB g = false := by simpa using h
    clear h
    go_enter Try.func14, Try.ntmps14
    go_wp2_with (go_at_call 10; refine (right10f g _ h2).mono ?_; rintro e w1 ⟨rfl, hb1⟩; obtain ⟨e0, e1, e2, e3, e4⟩ := geo_cells hb1 (heap_new w _) (by simp))
    go_ret2
    exact ⟨ret_in R.out.symm, hB.trans (hb1.mono hB.size)⟩
theorem in_here {g : Geo} {a k : Int} (h : rightB g = true) (h0 : 0 ≤ k) (hk : k < g.S) (h1 : segs g + k * g.G ≤ a) (h2 : a - (segs g + k * g.G) < g.G) : inV g a = (k, true) := by
  have hf := fine_right h
  have hm := seg_bd hf h0 hk
  have e2 := total_segs g
  have hg : 0 < g.G := by have := hf.u1; have := hf.g1; omega
  have e : (a - segs g) / g.G = k := by
    have : a - segs g = (a - (segs g + k * g.G)) + k * g.G := by omega
    rw [this, Int.add_mul_ediv_right _ _ (by omega), Int.ediv_eq_zero_of_lt (by omega) (by omega), Int.zero_add]
  simp [inV, h, e]; omega
set_option maxHeartbeats 2000000 in
theorem in16 (g : Geo) (a : Int) (w : World) (_ha : a ≤ 9223372036854775807) : Calls Try.prog 16 #[gv g, .int .i64 a] w fun e w' => e = .returned (.tuple #[.int .i64 (inV g a).1, .bool (inV g a).2]) ∧ Below w.heap.size w w' := by
  have hB : Below w.heap.size w (w.alloc (.cells (gcs g) 24)) := (Below.refl _ w).alloc (Nat.le_refl _) _
  have K0 := Lib.hid (heap_new w (.cells (gcs g) 24))
  by_cases h : rightB g = true
  · have e2 := total_segs g
    have e3 : segs g = 2 + 2 * g.J + 4 * pagesN g := rfl
    have hf := fine_right h
    have ht := total_right h
    have hp := hf.prod
    have hq := hf.pages
    have v1 := hf.v1
    have v2 := hf.v2
    have s1 := hf.s1
    have s2 := hf.s2
    have g1 := hf.g1
    have g2 := hf.g2
    have j1 := hf.j1
    have j2 := hf.j2
    have u1 := hf.u1
    go_enter Try.func16, Try.ntmps16
    go_wp2_with fail
    go_loopw [6] (fun i wr => ∃ k : Nat, (k : Int) ≤ g.S ∧ i = .int .i64 k ∧ (a < segs g ∨ segs g + k * g.G ≤ a) ∧ Below w.heap.size w wr ∧ wr.heap[w.heap.size]? = some (.cells (gcs g) 24 (0, 0))) (fun i _ => g.S.toNat - (intOf i).toNat)
    case atStart => exact ⟨0, by omega, rfl, by omega, hB, K0.out⟩
    case round =>
      obtain ⟨k, hk, rfl, hc, hBr, hbox⟩ := hrel
      obtain ⟨q0, q1, q2, q3, q4⟩ := geo_at hbox
      have K1 := Lib.hid hbox
      have EE := Lib.hid e2
      have HC := Lib.hid hc
      have HQ := Lib.hid e3
      clear hbox e2 hc e3
      by_cases hlt : (k : Int) < g.S
      · have hm := seg_bd hf (k := k) (by omega) hlt
        have hsv : segV g k = segs g + k * g.G := by simp [segV, h, hlt, HQ.out]
        have hs0 : 0 ≤ segs g ∧ segs g ≤ 400200 := by rw [HQ.out]; omega
        have HS := Lib.hid hsv
        clear hsv
        go_wp2_with fail
        refine (right11t g _ h).mono ?_
        rintro e w1 ⟨rfl, hb1⟩
        have hz1 := Nat.lt_of_lt_of_le (heap_lt K1.out) hb1.size
        have K2 := Lib.hid ((hb1.block w.heap.size (heap_lt K1.out)).trans K1.out)
        obtain ⟨p0, p1, p2, p3, p4⟩ := geo_at K2.out
        clear q0 q1 q2 q3 q4
        go_wp2_with fail
        refine (seg25 g k _).mono ?_
        rintro e w2 ⟨rfl, hb2⟩
        rw [HS.out]
        have K3 := Lib.hid ((hb2.block w.heap.size hz1).trans K2.out)
        obtain ⟨r0, r1, r2, r3, r4⟩ := geo_at K3.out
        clear p0 p1 p2 p3 p4
        have hBt : Below w.heap.size w w2 := hBr.trans ((hb1.mono hBr.size).trans (hb2.mono (Nat.le_trans hBr.size hb1.size)))
        by_cases c1 : segs g + k * g.G ≤ a
        · by_cases c2 : a - (segs g + k * g.G) < g.G
          · have R := Lib.hid (in_here h (by omega) hlt c1 c2)
            go_wp2_with fail
            go_ret2
            exact ⟨ret_in R.out.symm, hBt⟩
          · have d2 : decide (a - (segs g + k * g.G) < g.G) = false := by simp; omega
            go_wp2_with fail
            go_roundw
            case rel => exact ⟨k + 1, by omega, by go_num, .inr (by have : ((k + 1 : Nat) : Int) * g.G = k * g.G + g.G := by rw [Int.natCast_add, Int.add_mul]; simp
                                                                    rw [this]; omega), hBt, K3.out⟩
            case measure => simp [intOf]; omega
        · have d1 : decide (segs g + k * g.G ≤ a) = false := by simp; omega
          have c3 : a < segs g := by rcases HC.out with h5 | h5 <;> omega
          go_wp2_with fail
          go_roundw
          case rel => exact ⟨k + 1, by omega, by go_num, .inl c3, hBt, K3.out⟩
          case measure => simp [intOf]; omega
      · have hk2 : (k : Int) = g.S := by omega
        have R := Lib.hid (show inV g a = (0, false) by
          have e5 := EE.out
          have h5 := HC.out
          rw [hk2] at h5
          simp [inV]; omega)
        have d1 : decide ((k : Int) < g.S) = false := by simp; omega
        clear hk2
        go_wp2_with fail
        go_ret2
        exact ⟨ret_in R.out.symm, hBr⟩
  · have R := Lib.hid (show inV g a = (0, false) by simp [inV, h])
    have h2 : rightB g = false := by simpa using h
    clear h
    by_cases hs : 0 < g.S
    · go_enter Try.func16, Try.ntmps16
      go_wp2_with fail
      refine wp_loop_rounds 1 ?_
      rw [rounds_succ]
      go_wp2_with (go_at_call 11; refine (right11f g _ h2).mono ?_; rintro e w1 ⟨rfl, hb1⟩; obtain ⟨e0, e1, e2, e3, e4⟩ := geo_cells hb1 (heap_new w _) (by simp))
      go_ret2
      exact ⟨ret_in R.out.symm, hB.trans (hb1.mono hB.size)⟩
    · have d1 : decide (0 < g.S) = false := by simpa using hs
      go_enter Try.func16, Try.ntmps16
      go_wp2_with fail
      refine wp_loop_rounds 1 ?_
      rw [rounds_succ]
      go_wp2_with fail
      go_ret2
      exact ⟨ret_in R.out.symm, hB⟩
end Go.Proofs.Ytlkbghjeclicmaa
