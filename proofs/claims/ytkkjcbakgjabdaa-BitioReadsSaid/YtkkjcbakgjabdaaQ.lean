/- The law BitioNil of layer 3 (bitio): it returns true at every input. -/
import Derived.Test.YtkkjcbakgjabdaaP
namespace Go.Proofs.Ytkkjcbakgjabdaa
open Go.RowKit
/-- Writers and readers that nobody made, in a call's own memory. -/
structure Nz (W w : World) (s p t q : Nat) : Prop where
  bs : w.heap[s]? = some (.cells #[.pointer none, .pointer (some ⟨p, 0, none⟩)] 25)
  bp : w.heap[p]? = some (.cells #[.bool false, .slice none 0 0, .int .u64 0, .int .i64 0] 56)
  bt : w.heap[t]? = some (.cells #[.pointer none, .pointer (some ⟨q, 0, none⟩)] 27)
  bq : w.heap[q]? = some (.cells #[.bool false, .slice none 0 0, .int .i64 0] 59)
  below : Below W.heap.size W w
  low : W.heap.size ≤ q
theorem Nz.fresh {W w w' : World} {s p t q : Nat} (h : Nz W w s p t q) (hb : Below w.heap.size w w') : Nz W w' s p t q :=
  ⟨(hb.block s (heap_lt h.bs)).trans h.bs, (hb.block p (heap_lt h.bp)).trans h.bp, (hb.block t (heap_lt h.bt)).trans h.bt, (hb.block q (heap_lt h.bq)).trans h.bq, h.below.trans (hb.mono h.below.size), h.low⟩
theorem Nz.drewN {W w : World} {s p t q : Nat} (h : Nz W w s p t q) (m : Nat) : Nz W (w.drewN m) s p t q := ⟨h.bs, h.bp, h.bt, h.bq, below_drewN h.below m, h.low⟩
theorem Nz.set_ {W w : World} {s p t q : Nat} (h : Nz W w s p t q) : Nz W (w.setCell ⟨q, 2, none⟩ (.int .i64 0)) s p t q :=
  ⟨(Below.heap_setCell w _ _ s (blk_blk_ne h.bs h.bq (by decide))).trans h.bs, (Below.heap_setCell w _ _ p (blk_blk_ne h.bp h.bq (by decide))).trans h.bp, (Below.heap_setCell w _ _ t (blk_blk_ne h.bt h.bq (by decide))).trans h.bt,
    heap_setCell_same w q 2 _ 59 _ h.bq, h.below.setCell (p := ⟨q, 2, none⟩) h.low _, h.low⟩
def IsW (v : Value) (p : Nat) : Prop := v = .pointer none ∨ v = .pointer (some ⟨p, 0, none⟩)
section
variable {W w : World} {s p t q : Nat} {v : Value}
theorem nalign19 (h : Nz W w s p t q) (hv : IsW v p) : Calls Try.prog 19 #[v] w fun e w' => e = .returned undef ∧ Nz W w' s p t q := by
  have H := Lib.hid h
  rcases hv with rfl | rfl
  · clear h
    go_enter Try.func19, Try.ntmps19
    go_wp2_with fail
    exact bodyPost_end (results_none rfl _ _ _) rfl ⟨rfl, H.out⟩
  · obtain ⟨c0, c1, c2, c3, f0⟩ := wr_at h.bp
    clear h
    go_enter Try.func19, Try.ntmps19
    go_wp2_with fail
    exact bodyPost_end (results_none rfl _ _ _) rfl ⟨rfl, H.out⟩
theorem nalign28 (h : Nz W w s p t q) (hv : IsW v q) : Calls Try.prog 28 #[v] w fun e w' => e = .returned undef ∧ Nz W w' s p t q := by
  have H := Lib.hid h
  rcases hv with rfl | rfl
  · clear h
    go_enter Try.func28, Try.ntmps28
    go_wp2_with fail
    exact bodyPost_end (results_none rfl _ _ _) rfl ⟨rfl, H.out⟩
  · obtain ⟨c0, c1, c2, f0⟩ := rd_at h.bq
    clear h
    have e7 : bits .andNot .i64 7 7 = 0 := by kernel_rfl
    go_enter Try.func28, Try.ntmps28
    go_wp2_with fail
    exact bodyPost_end (results_none rfl _ _ _) rfl ⟨rfl, H.out.set_⟩
theorem nget14 (n : Int) (h : Nz W w s p t q) (hv : IsW v q) : Calls Try.prog 14 #[v, .int .i64 n] w fun e w' => e = .returned (.tuple #[.int .u32 0, .bool false]) ∧ Nz W w' s p t q := by
  have H := Lib.hid h
  rcases hv with rfl | rfl
  · clear h
    go_enter Try.func14, Try.ntmps14
    go_wp2_with fail
    go_ret2
    exact ⟨rfl, H.out⟩
  · obtain ⟨c0, c1, c2, f0⟩ := rd_at h.bq
    clear h
    go_enter Try.func14, Try.ntmps14
    go_wp2_with fail
    go_ret2
    exact ⟨rfl, H.out⟩
theorem nput15 (x n : Int) (h : Nz W w s p t q) (hv : IsW v p) : Calls Try.prog 15 #[v, .int .u32 x, .int .i64 n] w fun e w' => e = .returned (.bool false) ∧ Nz W w' s p t q := by
  have H := Lib.hid h
  rcases hv with rfl | rfl
  · clear h
    go_enter Try.func15, Try.ntmps15
    go_wp2_with fail
    go_ret
    exact ⟨rfl, H.out⟩
  · obtain ⟨c0, c1, c2, c3, f0⟩ := wr_at h.bp
    clear h
    go_enter Try.func15, Try.ntmps15
    go_wp2_with fail
    go_ret
    exact ⟨rfl, H.out⟩
theorem nlen16 (h : Nz W w s p t q) (hv : IsW v p) : Calls Try.prog 16 #[v] w fun e w' => e = .returned (.int .i64 0) ∧ Nz W w' s p t q := by
  have H := Lib.hid h
  rcases hv with rfl | rfl
  · clear h
    go_enter Try.func16, Try.ntmps16
    go_wp2_with fail
    go_ret
    exact ⟨rfl, H.out⟩
  · obtain ⟨c0, c1, c2, c3, f0⟩ := wr_at h.bp
    clear h
    go_enter Try.func16, Try.ntmps16
    go_wp2_with fail
    go_region
    go_wp2_with fail
    go_ret
    exact ⟨rfl, H.out.drewN 1⟩
theorem nbytes18 (h : Nz W w s p t q) (hv : IsW v p) : Calls Try.prog 18 #[v] w fun e w' => (∃ A c, e = .returned (.slice A 0 c)) ∧ Nz W w' s p t q := by
  have H := Lib.hid h
  rcases hv with rfl | rfl
  · clear h
    go_enter Try.func18, Try.ntmps18
    go_wp2_with fail
    go_ret
    exact ⟨⟨_, _, rfl⟩, H.out⟩
  · obtain ⟨c0, c1, c2, c3, f0⟩ := wr_at h.bp
    clear h
    go_enter Try.func18, Try.ntmps18
    go_wp2_with fail
    refine (clone33 w (fun _ => undef) none 0 0 (by omega) (fun h => absurd h (by omega)) (fun _ => ⟨rfl, rfl⟩) (fun j hj => absurd hj (by omega))).mono ?_
    rintro e w1 ⟨v1, rfl, hb1, hrow1⟩
    obtain ⟨A1, cap1, rfl, _⟩ := row_arr hrow1
    have H1 := Lib.hid (H.out.fresh hb1)
    clear hb1 hrow1 c0 c1 c2 c3 f0
    obtain ⟨c0, c1, c2, c3, f0⟩ := wr_at H1.out.bp
    go_wp2_with fail
    go_ret
    exact ⟨⟨_, _, rfl⟩, H1.out⟩
theorem nat31 (h : Nz W w s p t q) (hv : IsW v q) : Calls Try.prog 31 #[v] w fun e w' => e = .returned (.int .i64 0) ∧ Nz W w' s p t q := by
  have H := Lib.hid h
  rcases hv with rfl | rfl
  · clear h
    go_enter Try.func31, Try.ntmps31
    go_wp2_with fail
    go_ret
    exact ⟨rfl, H.out⟩
  · obtain ⟨c0, c1, c2, f0⟩ := rd_at h.bq
    clear h
    go_enter Try.func31, Try.ntmps31
    go_wp2_with fail
    go_ret
    exact ⟨rfl, H.out⟩
theorem nleft12 (h : Nz W w s p t q) (hv : IsW v q) : Calls Try.prog 12 #[v] w fun e w' => e = .returned (.int .i64 0) ∧ Nz W w' s p t q := by
  have H := Lib.hid h
  rcases hv with rfl | rfl
  · clear h
    go_enter Try.func12, Try.ntmps12
    go_wp2_with fail
    go_ret
    exact ⟨rfl, H.out⟩
  · obtain ⟨c0, c1, c2, f0⟩ := rd_at h.bq
    clear h
    go_enter Try.func12, Try.ntmps12
    go_wp2_with fail
    go_region
    go_wp2_with fail
    go_ret
    exact ⟨rfl, H.out.drewN 1⟩
end
set_option maxRecDepth 100000 in
set_option maxHeartbeats 4000000 in
theorem nil6 (x n : Int) (W : World) : Calls Try.prog 6 #[.int .u32 x, .int .i64 n] W fun e W' => e = .returned (.bool true) ∧ Below W.heap.size W W' := by
  go_enter Try.func6, Try.ntmps6
  go_wp2_with fail
  refine (awake9 W).mono ?_
  rintro e w1 ⟨rfl, hb1⟩
  have B1 := Lib.hid hb1
  clear hb1
  go_wp2_with fail
  have h0 : Nz W ((((w1.alloc (.cells #[.bool false, .slice none 0 0, .int .u64 0, .int .i64 0] 56)).alloc (.cells #[.pointer none, .pointer (some ⟨w1.heap.size, 0, none⟩)] 25)).alloc (.cells #[.bool false, .slice none 0 0, .int .i64 0] 59)).alloc (.cells #[.pointer none, .pointer (some ⟨w1.heap.size + 2, 0, none⟩)] 27)) (w1.heap.size + 1) w1.heap.size (w1.heap.size + 3) (w1.heap.size + 2) :=
    ⟨heap_old (heap_old (heap_new_at _ (by simp))), heap_old (heap_old (heap_old (heap_new w1 _))), heap_new_at _ (by simp), heap_old (heap_new_at _ (by simp)), (((B1.out.alloc B1.out.size _).alloc (by have := B1.out.size; simp; omega) _).alloc (by have := B1.out.size; simp; omega) _).alloc (by have := B1.out.size; simp; omega) _, by have := B1.out.size; omega⟩
  have H0 := Lib.hid h0
  clear h0 B1
  obtain ⟨p, hp⟩ : ∃ p, p = w1.heap.size := ⟨_, rfl⟩
  rw [← hp] at H0 ⊢
  clear hp
  go_loopw [7] (fun i wr => ∃ k : Nat, k ≤ 2 ∧ i = .int .i64 k ∧ Nz W wr (p + 1) p (p + 3) (p + 2)) (fun i _ => 2 - (intOf i).toNat)
  case atStart => exact ⟨0, Nat.zero_le _, rfl, H0.out⟩
  case round =>
    clear H0
    obtain ⟨k, hk, rfl, hw⟩ := hrel
    have H0 := Lib.hid hw
    clear hw
    by_cases hlt : k < 2
    · have i1 : (0 : Int) ≤ k := by omega
      have i2 : (k : Int) < 2 := by omega
      obtain ⟨v, hv, hcv⟩ : ∃ v, IsW v p ∧ ∀ w', Nz W w' (p + 1) p (p + 3) (p + 2) → w'.cell? ⟨p + 1, k, none⟩ = some v := by
        rcases (show k = 0 ∨ k = 1 by omega) with rfl | rfl
        · exact ⟨_, .inl rfl, fun w' h => block_cell h.bs 0 _ rfl⟩
        · exact ⟨_, .inr rfl, fun w' h => block_cell h.bs 1 _ rfl⟩
      obtain ⟨u, hu, hcu⟩ : ∃ v, IsW v (p + 2) ∧ ∀ w', Nz W w' (p + 1) p (p + 3) (p + 2) → w'.cell? ⟨p + 3, k, none⟩ = some v := by
        rcases (show k = 0 ∨ k = 1 by omega) with rfl | rfl
        · exact ⟨_, .inl rfl, fun w' h => block_cell h.bt 0 _ rfl⟩
        · exact ⟨_, .inr rfl, fun w' h => block_cell h.bt 1 _ rfl⟩
      have HV := Lib.hid hv
      have HU := Lib.hid hu
      have CV := Lib.hid hcv
      have CU := Lib.hid hcu
      clear hv hu hcv hcu
      have cells : ∀ w', Nz W w' (p + 1) p (p + 3) (p + 2) → w'.cell? ⟨p + 1, k, none⟩ = some v ∧ w'.cell? ⟨p + 3, k, none⟩ = some u := fun _ h => ⟨CV.out _ h, CU.out _ h⟩
      have CELLS := Lib.hid cells
      clear cells
      obtain ⟨d0, d1⟩ := CELLS.out _ H0.out
      go_wp2_with fail
      refine (nalign19 H0.out HV.out).mono ?_
      rintro e w' ⟨rfl, h'⟩
      clear d0 d1
      have H1 := Lib.hid h'
      clear h' H0
      have H0 := Lib.hid H1.out
      clear H1
      obtain ⟨d0, d1⟩ := CELLS.out _ H0.out
      go_wp2_with fail
      refine (nalign28 H0.out HU.out).mono ?_
      rintro e w' ⟨rfl, h'⟩
      clear d0 d1
      have H1 := Lib.hid h'
      clear h' H0
      have H0 := Lib.hid H1.out
      clear H1
      obtain ⟨d0, d1⟩ := CELLS.out _ H0.out
      go_wp2_with fail
      refine (nget14 n H0.out HU.out).mono ?_
      rintro e w' ⟨rfl, h'⟩
      clear d0 d1
      have H1 := Lib.hid h'
      clear h' H0
      have H0 := Lib.hid H1.out
      clear H1
      obtain ⟨d0, d1⟩ := CELLS.out _ H0.out
      go_wp2_with fail
      refine (nput15 x n H0.out HV.out).mono ?_
      rintro e w' ⟨rfl, h'⟩
      clear d0 d1
      have H1 := Lib.hid h'
      clear h' H0
      have H0 := Lib.hid H1.out
      clear H1
      obtain ⟨d0, d1⟩ := CELLS.out _ H0.out
      go_wp2_with fail
      refine (nlen16 H0.out HV.out).mono ?_
      rintro e w' ⟨rfl, h'⟩
      clear d0 d1
      have H1 := Lib.hid h'
      clear h' H0
      have H0 := Lib.hid H1.out
      clear H1
      obtain ⟨d0, d1⟩ := CELLS.out _ H0.out
      go_wp2_with fail
      refine (nbytes18 H0.out HV.out).mono ?_
      rintro e w' ⟨⟨A', c', rfl⟩, h'⟩
      clear d0 d1
      have H1 := Lib.hid h'
      clear h' H0
      have H0 := Lib.hid H1.out
      clear H1
      obtain ⟨d0, d1⟩ := CELLS.out _ H0.out
      go_wp2_with fail
      refine (nat31 H0.out HU.out).mono ?_
      rintro e w' ⟨rfl, h'⟩
      clear d0 d1
      have H1 := Lib.hid h'
      clear h' H0
      have H0 := Lib.hid H1.out
      clear H1
      obtain ⟨d0, d1⟩ := CELLS.out _ H0.out
      go_wp2_with fail
      refine (nleft12 H0.out HU.out).mono ?_
      rintro e w' ⟨rfl, h'⟩
      clear d0 d1
      have H1 := Lib.hid h'
      clear h' H0
      have H0 := Lib.hid H1.out
      clear H1
      obtain ⟨d0, d1⟩ := CELLS.out _ H0.out
      go_wp2_with fail
      go_roundw
      case rel => exact ⟨k + 1, by omega, by go_num, H0.out⟩
      case measure => simp [intOf]; omega
    · obtain rfl : k = 2 := by omega
      go_wp2_with fail
      go_ret
      exact ⟨rfl, H0.out.below⟩
end Go.Proofs.Ytkkjcbakgjabdaa
