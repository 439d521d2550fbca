/- Layer 25 (op): the document's side: is an op right? -/
import Derived.Test.YthdllbbjajddiaaGreatDoorRc
set_option linter.all false
namespace Go.Proofs.YthdllbbjajddiaaGreatDoor
open Go.RowKit Go.Maps Go.WideMaps
set_option maxRecDepth 100000 in
set_option maxHeartbeats 4000000 in
theorem rright11 (I : Nat → ElF) (P : Nat → ElP) (kd x n s : Int) (A1 : Option Addr) (n1 c1 : Nat) (A2 : Option Addr) (n2 c2 : Nat) (W : World) (hn1 : n1 ≤ 1000000000000) (hn2 : n2 ≤ 1000000000000)
    (ha1 : SArr W W.heap.size A1 n1 36 fun i => cellsF (I i)) (ha2 : SArr W W.heap.size A2 n2 35 fun i => cellsP (P i)) :
    Calls Tryz.prog 12 #[opV kd x n s A1 n1 c1 A2 n2 c2] W fun e W' => e = .returned (.bool (rightB (opR kd x n s I n1 P n2))) ∧ Below W.heap.size W W' := by
  have H1 := Lib.hid ha1
  have H2 := Lib.hid ha2
  obtain ⟨R, hR⟩ : ∃ R, R = rightB (opR kd x n s I n1 P n2) := ⟨_, rfl⟩
  have HR := Lib.hid hR
  rw [← hR]
  clear ha1 ha2 hR
  unfold opV
  go_enter Tryz.func12, Tryz.ntmps12
  go_upto_region 1 with fail
  obtain ⟨w1, hw1⟩ : ∃ w1, w1 = W.alloc (.cells #[.int .u8 kd, .int .i64 x, .int .i64 n, .int .i64 s, .slice A1 n1 c1, .slice A2 n2 c2] 26) := ⟨_, rfl⟩
  have Q1 : Hid (w1.heap[W.heap.size]? = some (.cells #[.int .u8 kd, .int .i64 x, .int .i64 n, .int .i64 s, .slice A1 n1 c1, .slice A2 n2 c2] 26 (0, 0))) := Lib.hid (by rw [hw1]; exact heap_new W _)
  have B1 : Hid (Below W.heap.size W w1) := Lib.hid (by rw [hw1]; exact (Below.refl _ _).alloc (Nat.le_refl _) _)
  rw [← hw1]
  obtain ⟨q0, hq0⟩ : ∃ q, q = W.heap.size := ⟨_, rfl⟩
  rw [← hq0] at Q1 ⊢
  have RA : Hid (w1.rangeAt q0 0 [.int .u8 kd, .int .i64 x, .int .i64 n, .int .i64 s, .slice A1 n1 c1, .slice A2 n2 c2]) := Lib.hid (range_of Q1.out)
  have c0 : w1.cell? ⟨q0, 0, none⟩ = some (.int .u8 kd) := block_cell Q1.out 0 _ rfl
  have c1' : w1.cell? ⟨q0, 1, none⟩ = some (.int .i64 x) := block_cell Q1.out 1 _ rfl
  have c2' : w1.cell? ⟨q0, 2, none⟩ = some (.int .i64 n) := block_cell Q1.out 2 _ rfl
  have c3 : w1.cell? ⟨q0, 3, none⟩ = some (.int .i64 s) := block_cell Q1.out 3 _ rfl
  have c4 : w1.cell? ⟨q0, 4, none⟩ = some (.slice A1 n1 c1) := block_cell Q1.out 4 _ rfl
  have c5 : w1.cell? ⟨q0, 5, none⟩ = some (.slice A2 n2 c2) := block_cell Q1.out 5 _ rfl
  have SZ : Hid ((Tryz.prog.info? 26).map (·.size) = some 6) := Lib.hid (by kernel_rfl)
  have H11 := Lib.hid ((H1.out.below B1.out (Nat.le_refl _)).more B1.out.size)
  have H21 := Lib.hid ((H2.out.below B1.out (Nat.le_refl _)).more B1.out.size)
  clear hw1 hq0
  obtain ⟨bb, hbb⟩ : ∃ bb, bb = (decide (n1 = 0) && decide (n2 = 0)) := ⟨_, rfl⟩
  have HBB := Lib.hid hbb
  clear hbb
  go_cut [3] from 4 to 13 (fun s3 wx => s3 = .bool bb ∧ w1 = wx)
  case first =>
    by_cases hx : n1 = 0
    · have z1 : ((n1 : Int) == 0) = true := by simp; omega
      by_cases hn : n2 = 0
      · have z2 : ((n2 : Int) == 0) = true := by simp; omega
        have e : Hid (true = bb) := Lib.hid (by rw [HBB.out, decide_eq_true hx, decide_eq_true hn]; rfl)
        clear hx hn
        go_wp2_with fail
        go_meet
        exact ⟨by rw [e.out], rfl⟩
      · have z2 : ((n2 : Int) == 0) = false := by simp; omega
        have e : Hid (false = bb) := Lib.hid (by rw [HBB.out, decide_eq_false hn, Bool.and_false])
        clear hx hn
        go_wp2_with fail
        go_meet
        exact ⟨by rw [e.out], rfl⟩
    · have z1 : ((n1 : Int) == 0) = false := by simp; omega
      have e : Hid (false = bb) := Lib.hid (by rw [HBB.out, decide_eq_false hx]; rfl)
      clear hx
      go_wp2_with fail
      go_meet
      exact ⟨by rw [e.out], rfl⟩
  case rest =>
    obtain ⟨rfl, rfl⟩ := hcut
    clear c4 c5
    by_cases k1 : kd = 1
    · have LAW := Lib.hid (right_1 (x := x) (n := n) (s := s) (I := I) (n1 := n1) (P := P) (n2 := n2) k1)
      have z1 : (kd == 1) = true := by simp [k1]
      clear k1
      by_cases hx : x = 0
      rotate_left
      · have HF : Hid (false = R) := Lib.hid (by rw [HR.out, LAW.out]; simp [hx])
        have z_hx : (x == 0) = false := by simp [hx]
        clear hx
        go_wp2_with fail
        go_ret
        exact ⟨ret_bool HF.out, B1.out⟩
      have z_hx : (x == 0) = true := by simp [hx]
      by_cases hn : n = 0
      rotate_left
      · have HF : Hid (false = R) := Lib.hid (by rw [HR.out, LAW.out]; simp [hn])
        have z_hn : (n == 0) = false := by simp [hn]
        clear hx hn
        go_wp2_with fail
        go_ret
        exact ⟨ret_bool HF.out, B1.out⟩
      have z_hn : (n == 0) = true := by simp [hn]
      by_cases hs : s = 0
      rotate_left
      · have HF : Hid (false = R) := Lib.hid (by rw [HR.out, LAW.out]; simp [hs])
        have z_hs : (s == 0) = false := by simp [hs]
        clear hx hn hs
        go_wp2_with fail
        go_ret
        exact ⟨ret_bool HF.out, B1.out⟩
      have z_hs : (s == 0) = true := by simp [hs]
      have HF : Hid (rowsB (nl I n1) (pl P n2) = R) := Lib.hid (by rw [HR.out, LAW.out]; simp [hx, hn, hs])
      clear hx hn hs
      go_wp2_with (refine wpList_load_midG rfl 26 (.tmp 1) rfl q0 0 rfl (opL kd x n s A1 n1 c1 A2 n2 c2) _ RA.out Tryz.underlying26 rfl SZ.out ?_)
      refine (rwrite31 I P kd x n s A1 n1 c1 A2 n2 c2 w1 hn1 hn2 H11.out H21.out).mono ?_
      rw [HF.out]
      rintro e w2 ⟨rfl, hb2⟩
      have B2 := Lib.hid (B1.out.trans (hb2.mono B1.out.size))
      clear hb2
      go_wp2_with fail
      go_ret
      exact ⟨rfl, B2.out⟩
    have z1 : (kd == 1) = false := by simpa using k1
    by_cases k2 : kd = 2
    · have LAW := Lib.hid (right_2 (x := x) (n := n) (s := s) (I := I) (n1 := n1) (P := P) (n2 := n2) k2)
      have z2 : (kd == 2) = true := by simp [k2]
      clear k1 k2
      cases bb with
      | false =>
        have HF : Hid (false = R) := Lib.hid (by rw [HR.out, LAW.out, ← HBB.out]; rfl)
        go_wp2_with fail
        go_ret
        exact ⟨ret_bool HF.out, B1.out⟩
      | true =>
        by_cases hs : s = 0
        rotate_left
        · have HF : Hid (false = R) := Lib.hid (by rw [HR.out, LAW.out]; simp [hs])
          have z_hs : (s == 0) = false := by simp [hs]
          clear hs
          go_wp2_with fail
          go_ret
          exact ⟨ret_bool HF.out, B1.out⟩
        have z_hs : (s == 0) = true := by simp [hs]
        by_cases hx0 : 0 ≤ x
        rotate_left
        · have HF : Hid (false = R) := Lib.hid (by rw [HR.out, LAW.out]; simp [hx0])
          have z_hx0 : decide (0 ≤ x) = false := by simp [hx0]
          clear hs hx0
          go_wp2_with fail
          go_ret
          exact ⟨ret_bool HF.out, B1.out⟩
        have z_hx0 : decide (0 ≤ x) = true := by simp [hx0]
        by_cases hx1 : x ≤ 4096
        rotate_left
        · have HF : Hid (false = R) := Lib.hid (by rw [HR.out, LAW.out]; simp [hx1])
          have z_hx1 : decide (x ≤ 4096) = false := by simp [hx1]
          clear hs hx0 hx1
          go_wp2_with fail
          go_ret
          exact ⟨ret_bool HF.out, B1.out⟩
        have z_hx1 : decide (x ≤ 4096) = true := by simp [hx1]
        by_cases hm0 : 0 ≤ n
        rotate_left
        · have HF : Hid (false = R) := Lib.hid (by rw [HR.out, LAW.out]; simp [hm0])
          have z_hm0 : decide (0 ≤ n) = false := by simp [hm0]
          clear hs hx0 hx1 hm0
          go_wp2_with fail
          go_ret
          exact ⟨ret_bool HF.out, B1.out⟩
        have z_hm0 : decide (0 ≤ n) = true := by simp [hm0]
        by_cases hm1 : n ≤ 4096
        rotate_left
        · have HF : Hid (false = R) := Lib.hid (by rw [HR.out, LAW.out]; simp [hm1])
          have z_hm1 : decide (n ≤ 4096) = false := by simp [hm1]
          clear hs hx0 hx1 hm0 hm1
          go_wp2_with fail
          go_ret
          exact ⟨ret_bool HF.out, B1.out⟩
        have z_hm1 : decide (n ≤ 4096) = true := by simp [hm1]
        have HF : Hid (true = R) := Lib.hid (by rw [HR.out, LAW.out, ← HBB.out]; simp [hs, hx0, hx1, hm0, hm1])
        clear hs hx0 hx1 hm0 hm1
        go_wp2_with fail
        go_ret
        exact ⟨ret_bool HF.out, B1.out⟩
    have z2 : (kd == 2) = false := by simpa using k2
    by_cases k345 : kd = 3 ∨ kd = 4 ∨ kd = 5
    rotate_left
    · have HF : Hid (false = R) := Lib.hid (by rw [HR.out, right_0 k1 k2 k345])
      have z3 : (kd == 3) = false := by simp; omega
      have z4 : (kd == 4) = false := by simp; omega
      have z5 : (kd == 5) = false := by simp; omega
      clear k1 k2 k345
      go_wp2_with fail
      go_ret
      exact ⟨ret_bool HF.out, B1.out⟩
    have LAW := Lib.hid (right_3 (x := x) (n := n) (s := s) (I := I) (n1 := n1) (P := P) (n2 := n2) k345)
    rcases k345 with k3 | k4 | k5
    · subst k3
      clear k1 k2 z1 z2
      cases bb with
      | false =>
        have HF : Hid (false = R) := Lib.hid (by rw [HR.out, LAW.out, ← HBB.out]; rfl)
        go_wp2_with fail
        go_ret
        exact ⟨ret_bool HF.out, B1.out⟩
      | true =>
        by_cases hx : x = 0
        rotate_left
        · have HF : Hid (false = R) := Lib.hid (by rw [HR.out, LAW.out]; simp [hx])
          have z_hx : (x == 0) = false := by simp [hx]
          clear hx
          go_wp2_with fail
          go_ret
          exact ⟨ret_bool HF.out, B1.out⟩
        have z_hx : (x == 0) = true := by simp [hx]
        by_cases hn : n = 0
        rotate_left
        · have HF : Hid (false = R) := Lib.hid (by rw [HR.out, LAW.out]; simp [hn])
          have z_hn : (n == 0) = false := by simp [hn]
          clear hx hn
          go_wp2_with fail
          go_ret
          exact ⟨ret_bool HF.out, B1.out⟩
        have z_hn : (n == 0) = true := by simp [hn]
        by_cases hs0 : 1 ≤ s
        rotate_left
        · have HF : Hid (false = R) := Lib.hid (by rw [HR.out, LAW.out]; simp [hs0])
          have z_hs0 : decide (1 ≤ s) = false := by simp [hs0]
          clear hx hn hs0
          go_wp2_with fail
          go_ret
          exact ⟨ret_bool HF.out, B1.out⟩
        have z_hs0 : decide (1 ≤ s) = true := by simp [hs0]
        by_cases hs1 : s ≤ 1073741824
        rotate_left
        · have HF : Hid (false = R) := Lib.hid (by rw [HR.out, LAW.out]; simp [hs1])
          have z_hs1 : decide (s ≤ 1073741824) = false := by simp [hs1]
          clear hx hn hs0 hs1
          go_wp2_with fail
          go_ret
          exact ⟨ret_bool HF.out, B1.out⟩
        have z_hs1 : decide (s ≤ 1073741824) = true := by simp [hs1]
        have HF : Hid (true = R) := Lib.hid (by rw [HR.out, LAW.out, ← HBB.out]; simp [hx, hn, hs0, hs1])
        clear hx hn hs0 hs1
        go_wp2_with fail
        go_ret
        exact ⟨ret_bool HF.out, B1.out⟩
    · subst k4
      clear k1 k2 z1 z2
      cases bb with
      | false =>
        have HF : Hid (false = R) := Lib.hid (by rw [HR.out, LAW.out, ← HBB.out]; rfl)
        go_wp2_with fail
        go_ret
        exact ⟨ret_bool HF.out, B1.out⟩
      | true =>
        by_cases hx : x = 0
        rotate_left
        · have HF : Hid (false = R) := Lib.hid (by rw [HR.out, LAW.out]; simp [hx])
          have z_hx : (x == 0) = false := by simp [hx]
          clear hx
          go_wp2_with fail
          go_ret
          exact ⟨ret_bool HF.out, B1.out⟩
        have z_hx : (x == 0) = true := by simp [hx]
        by_cases hn : n = 0
        rotate_left
        · have HF : Hid (false = R) := Lib.hid (by rw [HR.out, LAW.out]; simp [hn])
          have z_hn : (n == 0) = false := by simp [hn]
          clear hx hn
          go_wp2_with fail
          go_ret
          exact ⟨ret_bool HF.out, B1.out⟩
        have z_hn : (n == 0) = true := by simp [hn]
        by_cases hs0 : 1 ≤ s
        rotate_left
        · have HF : Hid (false = R) := Lib.hid (by rw [HR.out, LAW.out]; simp [hs0])
          have z_hs0 : decide (1 ≤ s) = false := by simp [hs0]
          clear hx hn hs0
          go_wp2_with fail
          go_ret
          exact ⟨ret_bool HF.out, B1.out⟩
        have z_hs0 : decide (1 ≤ s) = true := by simp [hs0]
        by_cases hs1 : s ≤ 1073741824
        rotate_left
        · have HF : Hid (false = R) := Lib.hid (by rw [HR.out, LAW.out]; simp [hs1])
          have z_hs1 : decide (s ≤ 1073741824) = false := by simp [hs1]
          clear hx hn hs0 hs1
          go_wp2_with fail
          go_ret
          exact ⟨ret_bool HF.out, B1.out⟩
        have z_hs1 : decide (s ≤ 1073741824) = true := by simp [hs1]
        have HF : Hid (true = R) := Lib.hid (by rw [HR.out, LAW.out, ← HBB.out]; simp [hx, hn, hs0, hs1])
        clear hx hn hs0 hs1
        go_wp2_with fail
        go_ret
        exact ⟨ret_bool HF.out, B1.out⟩
    · subst k5
      clear k1 k2 z1 z2
      cases bb with
      | false =>
        have HF : Hid (false = R) := Lib.hid (by rw [HR.out, LAW.out, ← HBB.out]; rfl)
        go_wp2_with fail
        go_ret
        exact ⟨ret_bool HF.out, B1.out⟩
      | true =>
        by_cases hx : x = 0
        rotate_left
        · have HF : Hid (false = R) := Lib.hid (by rw [HR.out, LAW.out]; simp [hx])
          have z_hx : (x == 0) = false := by simp [hx]
          clear hx
          go_wp2_with fail
          go_ret
          exact ⟨ret_bool HF.out, B1.out⟩
        have z_hx : (x == 0) = true := by simp [hx]
        by_cases hn : n = 0
        rotate_left
        · have HF : Hid (false = R) := Lib.hid (by rw [HR.out, LAW.out]; simp [hn])
          have z_hn : (n == 0) = false := by simp [hn]
          clear hx hn
          go_wp2_with fail
          go_ret
          exact ⟨ret_bool HF.out, B1.out⟩
        have z_hn : (n == 0) = true := by simp [hn]
        by_cases hs0 : 1 ≤ s
        rotate_left
        · have HF : Hid (false = R) := Lib.hid (by rw [HR.out, LAW.out]; simp [hs0])
          have z_hs0 : decide (1 ≤ s) = false := by simp [hs0]
          clear hx hn hs0
          go_wp2_with fail
          go_ret
          exact ⟨ret_bool HF.out, B1.out⟩
        have z_hs0 : decide (1 ≤ s) = true := by simp [hs0]
        by_cases hs1 : s ≤ 1073741824
        rotate_left
        · have HF : Hid (false = R) := Lib.hid (by rw [HR.out, LAW.out]; simp [hs1])
          have z_hs1 : decide (s ≤ 1073741824) = false := by simp [hs1]
          clear hx hn hs0 hs1
          go_wp2_with fail
          go_ret
          exact ⟨ret_bool HF.out, B1.out⟩
        have z_hs1 : decide (s ≤ 1073741824) = true := by simp [hs1]
        have HF : Hid (true = R) := Lib.hid (by rw [HR.out, LAW.out, ← HBB.out]; simp [hx, hn, hs0, hs1])
        clear hx hn hs0 hs1
        go_wp2_with fail
        go_ret
        exact ⟨ret_bool HF.out, B1.out⟩
end Go.Proofs.YthdllbbjajddiaaGreatDoor

