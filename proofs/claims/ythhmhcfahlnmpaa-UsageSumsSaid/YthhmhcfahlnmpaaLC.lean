/- Part of the proof of the statements of layer 11 (layout): what the functions of the layer compute, at every input. No condition. -/
import Derived.Test.YthhmhcfahlnmpaaLB
namespace Go.Proofs.Ythhmhcfahlnmpaa
open Go.RowKit
theorem jx0 (x0 x1 x2 x3 : Int) (w : World) : (Instr.index 79 (.agg #[.int .i64 x0, .int .i64 x1, .int .i64 x2, .int .i64 x3]) (.int .i64 0)).run Try.prog w = .ok (.int .i64 x0) w := by kernel_rfl
theorem jx1 (x0 x1 x2 x3 : Int) (w : World) : (Instr.index 79 (.agg #[.int .i64 x0, .int .i64 x1, .int .i64 x2, .int .i64 x3]) (.int .i64 1)).run Try.prog w = .ok (.int .i64 x1) w := by kernel_rfl
theorem jx2 (x0 x1 x2 x3 : Int) (w : World) : (Instr.index 79 (.agg #[.int .i64 x0, .int .i64 x1, .int .i64 x2, .int .i64 x3]) (.int .i64 2)).run Try.prog w = .ok (.int .i64 x2) w := by kernel_rfl
theorem jx3 (x0 x1 x2 x3 : Int) (w : World) : (Instr.index 79 (.agg #[.int .i64 x0, .int .i64 x1, .int .i64 x2, .int .i64 x3]) (.int .i64 3)).run Try.prog w = .ok (.int .i64 x3) w := by kernel_rfl
theorem ret_bool {a b : Bool} (h : a = b) : Ending.returned (.bool a) = .returned (.bool b) := by rw [h]
/-- What right numbers are. -/
structure Fine (g : Geo) : Prop where
  v1 : 8 ≤ g.V
  v2 : g.V ≤ 4096
  v3 : g.V % 8 = 0
  s1 : 2 ≤ g.S
  s2 : g.S ≤ 256
  u1 : 1 ≤ g.U
  u2 : g.U ≤ 16
  g1 : 2 * (8 * g.U + 1) ≤ g.G
  g2 : g.G ≤ 1024
  j1 : 8 ≤ g.J
  j2 : g.J ≤ 64
theorem fine_of {g : Geo} (h : fieldsB g = true) : Fine g := by
  simp only [fieldsB, Bool.and_eq_true, frm, decide_eq_true_eq, beq_iff_eq] at h
  obtain ⟨⟨⟨⟨⟨⟨a1, a2⟩, a3⟩, a4, a5⟩, a6, a7⟩, a8, a9⟩, a10, a11⟩ := h
  exact ⟨a1, a2, a3, a4, a5, a6, a7, a8, a9, a10, a11⟩
theorem Fine.prod {g : Geo} (h : Fine g) : 32 ≤ g.S * g.G ∧ g.S * g.G ≤ 262144 := prod_bd h.s1 h.s2 (by have := h.u1; have := h.g1; omega) h.g2
theorem Fine.pages {g : Geo} (h : Fine g) : 2 ≤ pagesN g ∧ pagesN g ≤ 100000 := by
  have := h.prod; have := h.v1; have := h.v2
  unfold pagesN; omega
theorem fine_right {g : Geo} (h : rightB g = true) : Fine g := fine_of (by simp only [rightB, Bool.and_eq_true] at h; exact h.1)
theorem total_right {g : Geo} (h : rightB g = true) : total g ≤ 262144 := by simp only [rightB, Bool.and_eq_true, decide_eq_true_eq] at h; exact h.2
set_option maxHeartbeats 4000000 in
theorem right10 (g : Geo) (w : World) : Calls Try.prog 17 #[gv g] w fun e w' => e = .returned (.bool (rightB g)) ∧ Below w.heap.size w w' := by
  have K := jx3
  have hB : Below w.heap.size w (w.alloc (.cells (gcs g) 23)) := (Below.refl _ w).alloc (Nat.le_refl _) _
  by_cases c1 : frm g.V 8 4096 = true
  rotate_left
  · have d1 : frm g.V 8 4096 = false := by simpa using c1
    have R := Lib.hid (show rightB g = false by simp only [rightB, fieldsB, d1, Bool.false_and])
    clear c1
    go_enter Try.func17, Try.ntmps17
    go_wp2_with (first | (go_at_call 35; ((with_reducible refine (from27t _ _ _ _ (by assumption)).mono ?_); rintro e w1 ⟨rfl, rfl⟩)) | (go_at_call 35; ((with_reducible refine (from27f _ _ _ _ (by assumption)).mono ?_); rintro e w1 ⟨rfl, rfl⟩)))
    go_ret
    exact ⟨ret_bool R.out.symm, hB⟩
  have ⟨v1, v2⟩ := frm_true c1
  by_cases c2 : (g.V % 8 == 0) = true
  rotate_left
  · have d2 : (g.V % 8 == 0) = false := by simpa using c2
    have R := Lib.hid (show rightB g = false by simp only [rightB, fieldsB, d2, Bool.and_false, Bool.false_and])
    clear c2
    go_enter Try.func17, Try.ntmps17
    go_wp2_with (first | (go_at_call 35; ((with_reducible refine (from27t _ _ _ _ (by assumption)).mono ?_); rintro e w1 ⟨rfl, rfl⟩)) | (go_at_call 35; ((with_reducible refine (from27f _ _ _ _ (by assumption)).mono ?_); rintro e w1 ⟨rfl, rfl⟩)))
    go_ret
    exact ⟨ret_bool R.out.symm, hB⟩
  by_cases c3 : frm g.S 2 256 = true
  rotate_left
  · have d3 : frm g.S 2 256 = false := by simpa using c3
    have R := Lib.hid (show rightB g = false by simp only [rightB, fieldsB, d3, Bool.and_false, Bool.false_and])
    clear c3
    go_enter Try.func17, Try.ntmps17
    go_wp2_with (first | (go_at_call 35; ((with_reducible refine (from27t _ _ _ _ (by assumption)).mono ?_); rintro e w1 ⟨rfl, rfl⟩)) | (go_at_call 35; ((with_reducible refine (from27f _ _ _ _ (by assumption)).mono ?_); rintro e w1 ⟨rfl, rfl⟩)))
    go_ret
    exact ⟨ret_bool R.out.symm, hB⟩
  have ⟨s1, s2⟩ := frm_true c3
  by_cases c4 : frm g.U 1 16 = true
  rotate_left
  · have d4 : frm g.U 1 16 = false := by simpa using c4
    have R := Lib.hid (show rightB g = false by simp only [rightB, fieldsB, d4, Bool.and_false, Bool.false_and])
    clear c4
    go_enter Try.func17, Try.ntmps17
    go_wp2_with (first | (go_at_call 35; ((with_reducible refine (from27t _ _ _ _ (by assumption)).mono ?_); rintro e w1 ⟨rfl, rfl⟩)) | (go_at_call 35; ((with_reducible refine (from27f _ _ _ _ (by assumption)).mono ?_); rintro e w1 ⟨rfl, rfl⟩)))
    go_ret
    exact ⟨ret_bool R.out.symm, hB⟩
  have ⟨u1, u2⟩ := frm_true c4
  by_cases c5 : frm g.G (2 * (8 * g.U + 1)) 1024 = true
  rotate_left
  · have d5 : frm g.G (2 * (8 * g.U + 1)) 1024 = false := by simpa using c5
    have R := Lib.hid (show rightB g = false by simp only [rightB, fieldsB, d5, Bool.and_false, Bool.false_and])
    clear c5
    go_enter Try.func17, Try.ntmps17
    go_wp2_with (first | (go_at_call 35; ((with_reducible refine (from27t _ _ _ _ (by assumption)).mono ?_); rintro e w1 ⟨rfl, rfl⟩)) | (go_at_call 35; ((with_reducible refine (from27f _ _ _ _ (by assumption)).mono ?_); rintro e w1 ⟨rfl, rfl⟩)))
    go_ret
    exact ⟨ret_bool R.out.symm, hB⟩
  have ⟨g1, g2⟩ := frm_true c5
  by_cases c6 : frm g.J 8 64 = true
  rotate_left
  · have d6 : frm g.J 8 64 = false := by simpa using c6
    have R := Lib.hid (show rightB g = false by simp only [rightB, fieldsB, d6, Bool.and_false, Bool.false_and])
    clear c6
    go_enter Try.func17, Try.ntmps17
    go_wp2_with (first | (go_at_call 35; ((with_reducible refine (from27t _ _ _ _ (by assumption)).mono ?_); rintro e w1 ⟨rfl, rfl⟩)) | (go_at_call 35; ((with_reducible refine (from27f _ _ _ _ (by assumption)).mono ?_); rintro e w1 ⟨rfl, rfl⟩)))
    go_ret
    exact ⟨ret_bool R.out.symm, hB⟩
  have ⟨j1, j2⟩ := frm_true c6
  by_cases c7 : decide (total g ≤ 262144) = true
  rotate_left
  · have d7 : decide (total g ≤ 262144) = false := by simpa using c7
    have R := Lib.hid (show rightB g = false by simp only [rightB, fieldsB, d7, Bool.and_false])
    clear c7
    have hp := prod_bd s1 s2 (by omega) g2
    have hg : Fine g := ⟨v1, v2, by simpa using c2, s1, s2, u1, u2, g1, g2, j1, j2⟩
    have hq := hg.pages
    clear hg
    go_enter Try.func17, Try.ntmps17
    go_wp2_with (first | (go_at_call 35; ((with_reducible refine (from27t _ _ _ _ (by assumption)).mono ?_); rintro e w1 ⟨rfl, rfl⟩)) | (go_at_call 35; ((with_reducible refine (from27f _ _ _ _ (by assumption)).mono ?_); rintro e w1 ⟨rfl, rfl⟩)) | (go_at_call 36; refine (plan28 g _ (by omega) v2 (by omega) hp.2 (by omega) j2 (by omega) hq.2).mono ?_; rintro e w1 ⟨rfl, hb1⟩))
    go_ret
    exact ⟨ret_bool R.out.symm, hB.trans (hb1.mono hB.size)⟩
  have R := Lib.hid (show rightB g = true by simp only [rightB, fieldsB, c1, c2, c3, c4, c5, c6, c7, Bool.and_self])
  have hp := prod_bd s1 s2 (by omega) g2
  have hg : Fine g := ⟨v1, v2, by simpa using c2, s1, s2, u1, u2, g1, g2, j1, j2⟩
  have hq := hg.pages
  clear hg
  go_enter Try.func17, Try.ntmps17
  go_wp2_with (first | (go_at_call 35; ((with_reducible refine (from27t _ _ _ _ (by assumption)).mono ?_); rintro e w1 ⟨rfl, rfl⟩)) | (go_at_call 35; ((with_reducible refine (from27f _ _ _ _ (by assumption)).mono ?_); rintro e w1 ⟨rfl, rfl⟩)) | (go_at_call 36; refine (plan28 g _ (by omega) v2 (by omega) hp.2 (by omega) j2 (by omega) hq.2).mono ?_; rintro e w1 ⟨rfl, hb1⟩))
  go_ret
  exact ⟨ret_bool R.out.symm, hB.trans (hb1.mono hB.size)⟩
end Go.Proofs.Ythhmhcfahlnmpaa
