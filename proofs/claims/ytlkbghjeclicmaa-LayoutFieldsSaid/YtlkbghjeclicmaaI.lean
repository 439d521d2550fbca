/- Part of the proof of the statements of layer 11 (layout): the examples of the chapter; a number brought into a range. No condition. -/
import Derived.Test.YtlkbghjeclicmaaH
namespace Go.Proofs.Ytlkbghjeclicmaa
open Go.RowKit
theorem tmod_cases (x n : Int) (h1 : 1 ≤ n) (hx : x < 0) : (x.tmod n < 0 ∧ x.tmod n + n = x % n ∧ -n < x.tmod n) ∨ (¬ x.tmod n < 0 ∧ x.tmod n = x % n) := by
  have h := Int.tmod_eq_emod (a := x) (b := n)
  have hb := Int.emod_nonneg x (show n ≠ 0 by omega)
  have hc := Int.emod_lt_of_pos x (show 0 < n by omega)
  by_cases hd : n ∣ x
  · right
    rw [if_pos (.inr hd)] at h
    omega
  · left
    rw [if_neg (by intro h5; rcases h5 with h5 | h5; · omega
                   · exact hd h5)] at h
    have : 0 < x % n := by
      rcases Int.lt_or_eq_of_le hb with h6 | h6
      · exact h6
      · exact absurd (Int.dvd_of_emod_eq_zero h6.symm) hd
    omega
set_option maxHeartbeats 400000 in
theorem pick9 (x n : Int) (w : World) (h1 : 1 ≤ n) (h2 : n ≤ 9223372036854775807) :
    Calls Try.prog 9 #[.int .i64 x, .int .i64 n] w fun e w' => e = .returned (.int .i64 (x % n)) ∧ w = w' := by
  have hz : ¬ n = 0 := by omega
  by_cases hx : x < 0
  · have hc := tmod_cases x n h1 hx
    obtain ⟨r, hr⟩ : ∃ r, x.tmod n = r := ⟨_, rfl⟩
    rw [hr] at hc
    have HR := Lib.hid hr
    rcases hc with ⟨h5, h6, h7⟩ | ⟨h5, h6⟩
    · have H6 := Lib.hid h6
      clear h6
      go_enter Try.func9, Try.ntmps9
      go_wp2
      go_ret
      exact ⟨ret_int H6.out, rfl⟩
    · have H6 := Lib.hid h6
      clear h6
      go_enter Try.func9, Try.ntmps9
      go_wp2
      go_ret
      exact ⟨ret_int H6.out, rfl⟩
  · have h5 := Int.emod_nonneg x hz
    go_enter Try.func9, Try.ntmps9
    go_wp2
    go_ret
    exact ⟨rfl, rfl⟩
/-- The example's geometry, and that of noughts. -/
def exG : Geo := ⟨64, 4, 32, 1, 8⟩
def noG : Geo := ⟨0, 0, 0, 0, 0⟩
set_option maxHeartbeats 400000 in
theorem small8 (w : World) : Calls Try.prog 8 #[] w fun e w' => e = .returned (gv exG) ∧ Below w.heap.size w w' := by
  go_enter Try.func8, Try.ntmps8
  go_wp2
  refine bodyPost_ret (v := gv exG) (by simp [results, Try.f8, go_sem, exG]) rfl ⟨rfl, ?_⟩
  exact (Below.refl _ w).alloc (Nat.le_refl _) _
theorem ex_in : inV exG 267 = (1, true) := by decide
theorem ex_right : rightB exG = true := by decide
theorem ex_pages : pagesV exG = 54 := by decide
theorem ex_sectors : totalV exG = 362 := by decide
theorem ex_half : halfV exG 1 = 10 := by decide
theorem ex_area : areaV exG 2 = 18 := by decide
theorem ex_seg : segV exG 0 = 234 := by decide
theorem no_right : rightB noG = false := by decide
set_option maxHeartbeats 2000000 in
theorem awake7 (w : World) : Calls Try.prog 7 #[] w fun e w' => e = .returned (.bool true) ∧ Below w.heap.size w w' := by
  go_enter Try.func7, Try.ntmps7
  go_wp2_with fail
  refine (small8 _).mono ?_
  rintro e ws ⟨rfl, hbs⟩
  go_wp2_with fail
  have K0 := Lib.hid (heap_new ws (.cells (gcs exG) 24))
  have hz0 : ws.heap.size < (ws.alloc (.cells (gcs exG) 24)).heap.size := by simp
  have hT0 : Below w.heap.size w (ws.alloc (.cells (gcs exG) 24)) := hbs.alloc hbs.size _
  obtain ⟨e0, e1, e2, e3, e4⟩ := geo_at K0.out
  refine (in14 exG 267 _ (by omega)).mono ?_
  rintro e w1 ⟨rfl, hb1⟩
  have hz1 := Nat.lt_of_lt_of_le hz0 hb1.size
  have K1 := Lib.hid ((hb1.block (ws.heap.size) hz0).trans K0.out)
  have hT1 : Below w.heap.size w w1 := hT0.trans (hb1.mono hT0.size)
  clear e0 e1 e2 e3 e4 hb1
  obtain ⟨e0, e1, e2, e3, e4⟩ := geo_at K1.out
  rw [ex_in]
  go_wp2_with fail
  refine (right10t exG _ ex_right).mono ?_
  rintro e w2 ⟨rfl, hb2⟩
  have hz2 := Nat.lt_of_lt_of_le hz1 hb2.size
  have K2 := Lib.hid ((hb2.block (ws.heap.size) hz1).trans K1.out)
  have hT2 : Below w.heap.size w w2 := hT1.trans (hb2.mono hT1.size)
  clear e0 e1 e2 e3 e4 hb2
  obtain ⟨e0, e1, e2, e3, e4⟩ := geo_at K2.out
  go_wp2_with fail
  refine (pages17 exG _).mono ?_
  rintro e w3 ⟨rfl, hb3⟩
  have hz3 := Nat.lt_of_lt_of_le hz2 hb3.size
  have K3 := Lib.hid ((hb3.block (ws.heap.size) hz2).trans K2.out)
  have hT3 : Below w.heap.size w w3 := hT2.trans (hb3.mono hT2.size)
  clear e0 e1 e2 e3 e4 hb3
  obtain ⟨e0, e1, e2, e3, e4⟩ := geo_at K3.out
  rw [ex_pages]
  go_wp2_with fail
  refine (sectors12 exG _).mono ?_
  rintro e w4 ⟨rfl, hb4⟩
  have hz4 := Nat.lt_of_lt_of_le hz3 hb4.size
  have K4 := Lib.hid ((hb4.block (ws.heap.size) hz3).trans K3.out)
  have hT4 : Below w.heap.size w w4 := hT3.trans (hb4.mono hT3.size)
  clear e0 e1 e2 e3 e4 hb4
  obtain ⟨e0, e1, e2, e3, e4⟩ := geo_at K4.out
  rw [ex_sectors]
  go_wp2_with fail
  refine (half21 exG 1 _).mono ?_
  rintro e w5 ⟨rfl, hb5⟩
  have hz5 := Nat.lt_of_lt_of_le hz4 hb5.size
  have K5 := Lib.hid ((hb5.block (ws.heap.size) hz4).trans K4.out)
  have hT5 : Below w.heap.size w w5 := hT4.trans (hb5.mono hT4.size)
  clear e0 e1 e2 e3 e4 hb5
  obtain ⟨e0, e1, e2, e3, e4⟩ := geo_at K5.out
  rw [ex_half]
  go_wp2_with fail
  refine (area23 exG 2 _).mono ?_
  rintro e w6 ⟨rfl, hb6⟩
  have hz6 := Nat.lt_of_lt_of_le hz5 hb6.size
  have K6 := Lib.hid ((hb6.block (ws.heap.size) hz5).trans K5.out)
  have hT6 : Below w.heap.size w w6 := hT5.trans (hb6.mono hT5.size)
  clear e0 e1 e2 e3 e4 hb6
  obtain ⟨e0, e1, e2, e3, e4⟩ := geo_at K6.out
  rw [ex_area]
  go_wp2_with fail
  refine (seg15 exG 0 _).mono ?_
  rintro e w7 ⟨rfl, hb7⟩
  have hz7 := Nat.lt_of_lt_of_le hz6 hb7.size
  have K7 := Lib.hid ((hb7.block (ws.heap.size) hz6).trans K6.out)
  have hT7 : Below w.heap.size w w7 := hT6.trans (hb7.mono hT6.size)
  clear e0 e1 e2 e3 e4 hb7
  obtain ⟨e0, e1, e2, e3, e4⟩ := geo_at K7.out
  rw [ex_seg]
  go_wp2_with fail
  refine (right10f noG _ no_right).mono ?_
  rintro e w8 ⟨rfl, hb8⟩
  have hz8 := Nat.lt_of_lt_of_le hz7 hb8.size
  have K8 := Lib.hid ((hb8.block (ws.heap.size) hz7).trans K7.out)
  have hT8 : Below w.heap.size w w8 := hT7.trans (hb8.mono hT7.size)
  clear e0 e1 e2 e3 e4 hb8
  obtain ⟨e0, e1, e2, e3, e4⟩ := geo_at K8.out
  go_wp2_with fail
  go_ret
  exact ⟨rfl, hT8⟩
end Go.Proofs.Ytlkbghjeclicmaa
