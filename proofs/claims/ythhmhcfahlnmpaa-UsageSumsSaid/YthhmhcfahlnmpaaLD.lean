/- Part of the proof of the statements of layer 11 (layout): what the reference computes, at every input. No condition. -/
import Derived.Test.YthhmhcfahlnmpaaLC
namespace Go.Proofs.Ythhmhcfahlnmpaa
open Go.RowKit
theorem fields_false {g : Geo} (h : ¬ Fine g) : fieldsB g = false := by
  cases e : fieldsB g
  · rfl
  · exact absurd (fine_of e) h
theorem fields_true {g : Geo} (h : Fine g) : fieldsB g = true := by
  obtain ⟨a1, a2, a3, a4, a5, a6, a7, a8, a9, a10, a11⟩ := h
  simp [fieldsB, frm, a1, a2, a3, a4, a5, a6, a7, a8, a9, a10, a11]
set_option maxHeartbeats 4000000 in
theorem fields29 (g : Geo) (w : World) : Calls Try.prog 40 #[gv g] w fun e w' => e = .returned (.bool (fieldsB g)) ∧ Below w.heap.size w w' := by
  have hB : Below w.heap.size w (w.alloc (.cells (gcs g) 23)) := (Below.refl _ w).alloc (Nat.le_refl _) _
  by_cases v1 : 8 ≤ g.V
  rotate_left
  · have dv1 : decide (g.V < 8) = true := by simp; omega
    have R := Lib.hid (fields_false (g := g) fun h => v1 h.v1)
    clear v1
    go_enter Try.func40, Try.ntmps40
    go_wp2
    go_ret
    exact ⟨ret_bool R.out.symm, hB⟩
  by_cases v2 : g.V ≤ 4096
  rotate_left
  · have dv2 : decide (4096 < g.V) = true := by simp; omega
    have R := Lib.hid (fields_false (g := g) fun h => v2 h.v2)
    clear v2
    go_enter Try.func40, Try.ntmps40
    go_wp2
    go_ret
    exact ⟨ret_bool R.out.symm, hB⟩
  by_cases v3 : (g.V % 8 == 0) = true
  rotate_left
  · have dv3 : (g.V % 8 != 0) = true := by simp at v3; simp [v3]
    have R := Lib.hid (fields_false (g := g) fun h => v3 (by simp [h.v3]))
    clear v3
    go_enter Try.func40, Try.ntmps40
    go_wp2
    go_ret
    exact ⟨ret_bool R.out.symm, hB⟩
  have v4 : (g.V % 8 != 0) = false := by simp at v3; simp [v3]
  by_cases s1 : 2 ≤ g.S
  rotate_left
  · have ds1 : decide (g.S < 2) = true := by simp; omega
    have R := Lib.hid (fields_false (g := g) fun h => s1 h.s1)
    clear s1
    go_enter Try.func40, Try.ntmps40
    go_wp2
    go_ret
    exact ⟨ret_bool R.out.symm, hB⟩
  by_cases s2 : g.S ≤ 256
  rotate_left
  · have ds2 : decide (256 < g.S) = true := by simp; omega
    have R := Lib.hid (fields_false (g := g) fun h => s2 h.s2)
    clear s2
    go_enter Try.func40, Try.ntmps40
    go_wp2
    go_ret
    exact ⟨ret_bool R.out.symm, hB⟩
  by_cases u1 : 1 ≤ g.U
  rotate_left
  · have du1 : decide (g.U < 1) = true := by simp; omega
    have R := Lib.hid (fields_false (g := g) fun h => u1 h.u1)
    clear u1
    go_enter Try.func40, Try.ntmps40
    go_wp2
    go_ret
    exact ⟨ret_bool R.out.symm, hB⟩
  by_cases u2 : g.U ≤ 16
  rotate_left
  · have du2 : decide (16 < g.U) = true := by simp; omega
    have R := Lib.hid (fields_false (g := g) fun h => u2 h.u2)
    clear u2
    go_enter Try.func40, Try.ntmps40
    go_wp2
    go_ret
    exact ⟨ret_bool R.out.symm, hB⟩
  by_cases g0 : 16 ≤ g.G
  rotate_left
  · have dg0 : decide (g.G < 16) = true := by simp; omega
    have R := Lib.hid (fields_false (g := g) fun h => g0 (by have := h.u1; have := h.g1; omega))
    clear g0
    go_enter Try.func40, Try.ntmps40
    go_wp2
    go_ret
    exact ⟨ret_bool R.out.symm, hB⟩
  by_cases g2 : g.G ≤ 1024
  rotate_left
  · have dg2 : decide (1024 < g.G) = true := by simp; omega
    have R := Lib.hid (fields_false (g := g) fun h => g2 h.g2)
    clear g2
    go_enter Try.func40, Try.ntmps40
    go_wp2
    go_ret
    exact ⟨ret_bool R.out.symm, hB⟩
  by_cases g1 : 2 * (8 * g.U + 1) ≤ g.G
  rotate_left
  · have dg1 : decide (g.G < 2 * (8 * g.U + 1)) = true := by simp; omega
    have R := Lib.hid (fields_false (g := g) fun h => g1 h.g1)
    clear g1
    go_enter Try.func40, Try.ntmps40
    go_wp2
    go_ret
    exact ⟨ret_bool R.out.symm, hB⟩
  by_cases j1 : 8 ≤ g.J
  rotate_left
  · have dj1 : decide (8 ≤ g.J) = false := by simp; omega
    have R := Lib.hid (fields_false (g := g) fun h => j1 h.j1)
    clear j1
    go_enter Try.func40, Try.ntmps40
    go_wp2
    go_ret
    exact ⟨ret_bool R.out.symm, hB⟩
  by_cases j2 : g.J ≤ 64
  rotate_left
  · have dj2 : decide (g.J ≤ 64) = false := by simp; omega
    have R := Lib.hid (fields_false (g := g) fun h => j2 h.j2)
    clear j2
    go_enter Try.func40, Try.ntmps40
    go_wp2
    go_ret
    exact ⟨ret_bool R.out.symm, hB⟩
  have R := Lib.hid (fields_true (g := g) ⟨v1, v2, by simpa using v3, s1, s2, u1, u2, g1, g2, j1, j2⟩)
  go_enter Try.func40, Try.ntmps40
  go_wp2
  go_ret
  exact ⟨ret_bool R.out.symm, hB⟩
end Go.Proofs.Ythhmhcfahlnmpaa
