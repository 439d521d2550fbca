/- Layer 25 (op): is an op right? Printed by genRight.py. -/
import Derived.Test.YthdllbbjajddiaaGreatDoorPx
import Derived.Deep.CutBlock
set_option linter.all false
namespace Go.Proofs.YthdllbbjajddiaaGreatDoor
open Go.RowKit Go.Maps Go.WideMaps
def opR (kd x n s : Int) (I : Nat → ElF) (n1 : Nat) (P : Nat → ElP) (n2 : Nat) : OpR := ⟨kd, x, n, s, nl I n1, pl P n2⟩
theorem right_1 {kd x n s : Int} {I : Nat → ElF} {n1 : Nat} {P : Nat → ElP} {n2 : Nat} (h : kd = 1) : rightB (opR kd x n s I n1 P n2) = ((decide (x = 0) && decide (n = 0)) && (decide (s = 0) && rowsB (nl I n1) (pl P n2))) := by
  unfold rightB opR
  rw [if_pos h, write_rows]
  simp only [Bool.and_assoc]
theorem right_2 {kd x n s : Int} {I : Nat → ElF} {n1 : Nat} {P : Nat → ElP} {n2 : Nat} (h : kd = 2) : rightB (opR kd x n s I n1 P n2) = ((decide (n1 = 0) && decide (n2 = 0)) && (decide (s = 0) && (decide (0 ≤ x ∧ x ≤ 4096) && decide (0 ≤ n ∧ n ≤ 4096)))) := by
  unfold rightB opR
  rw [if_neg (by dsimp only; omega), if_pos h]
  simp only [nl_len, pl_len, Bool.and_assoc]
theorem right_3 {kd x n s : Int} {I : Nat → ElF} {n1 : Nat} {P : Nat → ElP} {n2 : Nat} (h : kd = 3 ∨ kd = 4 ∨ kd = 5) : rightB (opR kd x n s I n1 P n2) = ((decide (n1 = 0) && decide (n2 = 0)) && ((decide (x = 0) && decide (n = 0)) && decide (1 ≤ s ∧ s ≤ 1073741824))) := by
  unfold rightB opR
  rw [if_neg (by dsimp only; omega), if_neg (by dsimp only; omega), if_pos h]
  simp only [nl_len, pl_len, Bool.and_assoc]
theorem right_0 {kd x n s : Int} {I : Nat → ElF} {n1 : Nat} {P : Nat → ElP} {n2 : Nat} (h1 : kd ≠ 1) (h2 : kd ≠ 2) (h3 : ¬ (kd = 3 ∨ kd = 4 ∨ kd = 5)) : rightB (opR kd x n s I n1 P n2) = false := by
  unfold rightB opR
  rw [if_neg h1, if_neg h2, if_neg h3]
set_option maxRecDepth 100000 in
set_option maxHeartbeats 4000000 in
theorem right10 (I : Nat → ElF) (P : Nat → ElP) (kd x n s : Int) (A1 : Option Addr) (n1 c1 : Nat) (A2 : Option Addr) (n2 c2 : Nat) (W : World) (hn1 : n1 ≤ 1000000000000) (hn2 : n2 ≤ 1000000000000)
    (ha1 : SArr W W.heap.size A1 n1 36 fun i => cellsF (I i)) (ha2 : SArr W W.heap.size A2 n2 35 fun i => cellsP (P i)) :
    Calls Tryz.prog 6 #[opV kd x n s A1 n1 c1 A2 n2 c2] W fun e W' => e = .returned (.bool (rightB (opR kd x n s I n1 P n2))) ∧ Below W.heap.size W W' := by
  have H1 := Lib.hid ha1
  have H2 := Lib.hid ha2
  obtain ⟨R, hR⟩ : ∃ R, R = rightB (opR kd x n s I n1 P n2) := ⟨_, rfl⟩
  have HR := Lib.hid hR
  rw [← hR]
  clear ha1 ha2 hR
  unfold opV
  go_enter Tryz.func6, Tryz.ntmps6
  go_upto_region 1 with fail
  obtain ⟨w1, hw1⟩ : ∃ w1, w1 = W.alloc (.cells #[.int .u8 kd, .int .i64 x, .int .i64 n, .int .i64 s, .slice A1 n1 c1, .slice A2 n2 c2] 26) := ⟨_, rfl⟩
  have Q1 : Hid (w1.heap[W.heap.size]? = some (.cells #[.int .u8 kd, .int .i64 x, .int .i64 n, .int .i64 s, .slice A1 n1 c1, .slice A2 n2 c2] 26 (0, 0))) := Lib.hid (by rw [hw1]; exact heap_new W _)
  have B1 : Hid (Below W.heap.size W w1) := Lib.hid (by rw [hw1]; exact (Below.refl _ _).alloc (Nat.le_refl _) _)
  rw [← hw1]
  obtain ⟨q0, hq0⟩ : ∃ q, q = W.heap.size := ⟨_, rfl⟩
  rw [← hq0] at Q1 ⊢
  have RA : Hid (w1.rangeAt q0 0 [.int .u8 kd, .int .i64 x, .int .i64 n, .int .i64 s, .slice A1 n1 c1, .slice A2 n2 c2]) := Lib.hid (range_of Q1.out)
  have c0 : w1.cell? ⟨q0, 0, none⟩ = some (.int .u8 kd) := block_cell Q1.out 0 _ rfl
  have c1' : w1.cell? ⟨q0, 1, none⟩ = some (.int .i64 x) := block_cell Q1.out 1 _ rfl
  have c2' : w1.cell? ⟨q0, 2, none⟩ = some (.int .i64 n) := block_cell Q1.out 2 _ rfl
  have c3 : w1.cell? ⟨q0, 3, none⟩ = some (.int .i64 s) := block_cell Q1.out 3 _ rfl
  have c4 : w1.cell? ⟨q0, 4, none⟩ = some (.slice A1 n1 c1) := block_cell Q1.out 4 _ rfl
  have c5 : w1.cell? ⟨q0, 5, none⟩ = some (.slice A2 n2 c2) := block_cell Q1.out 5 _ rfl
  have SZ : Hid ((Tryz.prog.info? 26).map (·.size) = some 6) := Lib.hid (by kernel_rfl)
  clear hw1 hq0
  obtain ⟨nn, hnn⟩ : ∃ nn, nn = (decide (x = 0) && decide (n = 0)) := ⟨_, rfl⟩
  obtain ⟨bb, hbb⟩ : ∃ bb, bb = (decide (n1 = 0) && decide (n2 = 0)) := ⟨_, rfl⟩
  have HNN := Lib.hid hnn
  have HBB := Lib.hid hbb
  clear hnn hbb
  go_cut [3] from 5 to 12 (fun s3 wx => s3 = .bool nn ∧ w1 = wx)
  case first =>
    by_cases hx : x = 0
    · have z1 : (x == 0) = true := by simpa using hx
      by_cases hn : n = 0
      · have z2 : (n == 0) = true := by simpa using hn
        have e : Hid (true = nn) := Lib.hid (by rw [HNN.out, decide_eq_true hx, decide_eq_true hn]; rfl)
        clear hx hn
        go_wp2_with fail
        go_meet
        exact ⟨by rw [e.out], rfl⟩
      · have z2 : (n == 0) = false := by simpa using hn
        have e : Hid (false = nn) := Lib.hid (by rw [HNN.out, decide_eq_false hn, Bool.and_false])
        clear hx hn
        go_wp2_with fail
        go_meet
        exact ⟨by rw [e.out], rfl⟩
    · have z1 : (x == 0) = false := by simpa using hx
      have e : Hid (false = nn) := Lib.hid (by rw [HNN.out, decide_eq_false hx]; rfl)
      clear hx
      go_wp2_with fail
      go_meet
      exact ⟨by rw [e.out], rfl⟩
  case rest =>
    obtain ⟨rfl, rfl⟩ := hcut
    go_upto_region 2 with fail
    go_cut [4] from 13 to 22 (fun s4 wx => s4 = .bool bb ∧ w1 = wx)
    case first =>
      by_cases hx : n1 = 0
      · have z1 : (n1 == 0) = true := by simpa using hx
        have z1' : ((n1 : Int) == 0) = true := by simpa using hx
        by_cases hn : n2 = 0
        · have z2 : (n2 == 0) = true := by simpa using hn
          have z2' : ((n2 : Int) == 0) = true := by simpa using hn
          have e : Hid (true = bb) := Lib.hid (by rw [HBB.out, decide_eq_true hx, decide_eq_true hn]; rfl)
          clear hx hn
          go_wp2_with fail
          go_meet
          exact ⟨by rw [e.out], rfl⟩
        · have z2 : (n2 == 0) = false := by simpa using hn
          have z2' : ((n2 : Int) == 0) = false := by simpa using hn
          have e : Hid (false = bb) := Lib.hid (by rw [HBB.out, decide_eq_false hn, Bool.and_false])
          clear hx hn
          go_wp2_with fail
          go_meet
          exact ⟨by rw [e.out], rfl⟩
      · have z1 : (n1 == 0) = false := by simpa using hx
        have z1' : ((n1 : Int) == 0) = false := by simpa using hx
        have e : Hid (false = bb) := Lib.hid (by rw [HBB.out, decide_eq_false hx]; rfl)
        clear hx
        go_wp2_with fail
        go_meet
        exact ⟨by rw [e.out], rfl⟩
    case rest =>
      obtain ⟨rfl, rfl⟩ := hcut
      by_cases h1 : kd = 1
      · have t1 : (kd == 1) = true := by simpa using h1
        have HV : Hid (R = (nn && (decide (s = 0) && rowsB (nl I n1) (pl P n2)))) := Lib.hid (by rw [HR.out, HNN.out]; exact right_1 h1)
        clear h1
        cases nn with
        | false =>
          have E : Hid (false = R) := Lib.hid (by rw [HV.out]; rfl)
          go_wp2_with fail
          go_ret
          exact ⟨ret_bool E.out, B1.out⟩
        | true =>
          by_cases hs : s = 0
          · have z3 : (s == 0) = true := by simpa using hs
            have E : Hid (rowsB (nl I n1) (pl P n2) = R) := Lib.hid (by rw [HV.out, decide_eq_true hs]; rfl)
            clear hs
            go_wp2_with (refine wpList_load_midG rfl 26 (.tmp 1) rfl q0 0 rfl [.int .u8 kd, .int .i64 x, .int .i64 n, .int .i64 s, .slice A1 n1 c1, .slice A2 n2 c2] _ RA.out Tryz.underlying26 rfl SZ.out ?_)
            refine (write29 I P kd x n s A1 n1 c1 A2 n2 c2 w1 hn1 hn2 ((H1.out.below B1.out (Nat.le_refl _)).more B1.out.size) ((H2.out.below B1.out (Nat.le_refl _)).more B1.out.size)).mono ?_
            rintro e w2 ⟨rfl, hb⟩
            have B2 := Lib.hid (B1.out.trans (hb.mono B1.out.size))
            clear hb
            rw [E.out]
            go_wp2_with fail
            go_ret
            exact ⟨rfl, B2.out⟩
          · have z3 : (s == 0) = false := by simpa using hs
            have E : Hid (false = R) := Lib.hid (by rw [HV.out, decide_eq_false hs]; rfl)
            clear hs
            go_wp2_with fail
            go_ret
            exact ⟨ret_bool E.out, B1.out⟩
      have t1 : (kd == 1) = false := by simpa using h1
      by_cases h2 : kd = 2
      · have t2 : (kd == 2) = true := by simpa using h2
        have HV : Hid (R = (bb && (decide (s = 0) && (decide (0 ≤ x ∧ x ≤ 4096) && decide (0 ≤ n ∧ n ≤ 4096))))) := Lib.hid (by rw [HR.out, HBB.out]; exact right_2 h2)
        clear h1 h2
        cases bb with
        | false =>
          have E : Hid (false = R) := Lib.hid (by rw [HV.out]; rfl)
          go_wp2_with fail
          go_ret
          exact ⟨ret_bool E.out, B1.out⟩
        | true =>
          by_cases hs : s = 0
          · have z3 : (s == 0) = true := by simpa using hs
            by_cases hx : 0 ≤ x ∧ x ≤ 4096
            · have E : Hid (decide (0 ≤ n ∧ n ≤ 4096) = R) := Lib.hid (by rw [HV.out, decide_eq_true hs, decide_eq_true hx]; rfl)
              have HX := Lib.hid hx
              clear hs hx
              go_wp2_with fail
              refine (withinT x 0 4096 w1 HX.out).mono ?_
              rintro e _ ⟨rfl, rfl⟩
              go_wp2_with fail
              refine (within30 n 0 4096 w1).mono ?_
              rw [E.out]
              rintro e _ ⟨rfl, rfl⟩
              go_wp2_with fail
              go_ret
              exact ⟨rfl, B1.out⟩
            · have E : Hid (false = R) := Lib.hid (by rw [HV.out, decide_eq_false hx, Bool.false_and, Bool.and_false, Bool.and_false])
              have HX := Lib.hid hx
              clear hs hx
              go_wp2_with fail
              refine (withinF x 0 4096 w1 HX.out).mono ?_
              rintro e _ ⟨rfl, rfl⟩
              go_wp2_with fail
              go_ret
              exact ⟨ret_bool E.out, B1.out⟩
          · have z3 : (s == 0) = false := by simpa using hs
            have E : Hid (false = R) := Lib.hid (by rw [HV.out, decide_eq_false hs]; rfl)
            clear hs
            go_wp2_with fail
            go_ret
            exact ⟨ret_bool E.out, B1.out⟩
      have t2 : (kd == 2) = false := by simpa using h2
      by_cases h3 : kd = 3 ∨ kd = 4 ∨ kd = 5
      · have HV : Hid (R = (bb && (nn && decide (1 ≤ s ∧ s ≤ 1073741824)))) := Lib.hid (by rw [HR.out, HBB.out, HNN.out]; exact right_3 h3)
        have HT : Hid ((kd == 3) = true ∨ ((kd == 3) = false ∧ (kd == 4) = true) ∨ ((kd == 3) = false ∧ (kd == 4) = false ∧ (kd == 5) = true)) := Lib.hid (by
          rcases h3 with h | h | h
          · exact .inl (by simpa using h)
          · exact .inr (.inl ⟨by rw [h]; rfl, by simpa using h⟩)
          · exact .inr (.inr ⟨by rw [h]; rfl, by rw [h]; rfl, by simpa using h⟩))
        clear h1 h2 h3
        rcases HT.out with t3 | ⟨t3, t4⟩ | ⟨t3, t4, t5⟩
        all_goals
          cases bb with
          | false =>
            have E : Hid (false = R) := Lib.hid (by rw [HV.out]; rfl)
            go_wp2_with fail
            go_ret
            exact ⟨ret_bool E.out, B1.out⟩
          | true =>
            cases nn with
            | false =>
              have E : Hid (false = R) := Lib.hid (by rw [HV.out]; rfl)
              go_wp2_with fail
              go_ret
              exact ⟨ret_bool E.out, B1.out⟩
            | true =>
              have E : Hid (decide (1 ≤ s ∧ s ≤ 1073741824) = R) := Lib.hid (by rw [HV.out]; rfl)
              go_wp2_with fail
              refine (within30 s 1 1073741824 w1).mono ?_
              rw [E.out]
              rintro e _ ⟨rfl, rfl⟩
              go_wp2_with fail
              go_ret
              exact ⟨rfl, B1.out⟩
      have E : Hid (false = R) := Lib.hid (by rw [HR.out]; exact (right_0 h1 h2 h3).symm)
      have t3 : (kd == 3) = false := by simp; omega
      have t4 : (kd == 4) = false := by simp; omega
      have t5 : (kd == 5) = false := by simp; omega
      clear h1 h2 h3
      go_wp2_with fail
      go_ret
      exact ⟨ret_bool E.out, B1.out⟩
end Go.Proofs.YthdllbbjajddiaaGreatDoor
