/- The law OpPuts of layer 25 (op): it returns true at every input. Printed by genPl.py. -/
import Derived.Test.YthdllbbjajddiaaDoorLk
import Derived.Test.YthdllbbjajddiaaDoorAp
import Derived.Test.YthdllbbjajddiaaDoorOo
import Derived.Test.YthdllbbjajddiaaDoorRe
namespace Go.Proofs.YthdllbbjajddiaaDoor
open Go.RowKit Go.Maps Go.WideMaps
set_option maxRecDepth 100000 in
set_option maxHeartbeats 8000000 in
theorem puts3 {v : Value} {kd x n s : Int} {A1 : Option Addr} {n1 c1 : Nat} {I : Nat → ElF} {A2 : Option Addr} {n2 c2 : Nat} {P_ : Nat → ElP} (W : World) (h : OpIn W v kd x n s A1 n1 c1 I A2 n2 c2 P_) :
    Calls Tryd.prog 3 #[v] W fun e W' => e = .returned (.bool true) ∧ Below W.heap.size W W' := by
  have hkd := h.kd
  have hl1 := h.l1
  have hl2 := h.l2
  have S1 := Lib.hid h.r1
  have S2 := Lib.hid h.r2
  have Z1 := Lib.hid h.z1
  have Z2 := Lib.hid h.z2
  obtain rfl := h.is
  clear h
  have OO := Lib.hid (opL_one kd x n s A1 n1 c1 A2 n2 c2)
  unfold opV
  go_enter Tryd.func3, Tryd.ntmps3
  go_upto_region 1 with fail
  obtain ⟨w1, hw1⟩ : ∃ w1, w1 = W.alloc (.cells #[.int .u8 kd, .int .i64 x, .int .i64 n, .int .i64 s, .slice A1 n1 c1, .slice A2 n2 c2] 26) := ⟨_, rfl⟩
  have P : Hid (w1.heap[W.heap.size]? = some (.cells (opL kd x n s A1 n1 c1 A2 n2 c2).toArray 26 (0, 0))) := Lib.hid (by rw [hw1]; exact heap_new W _)
  have B : Hid (Below W.heap.size W w1) := Lib.hid (by rw [hw1]; exact (Below.refl _ _).alloc (Nat.le_refl _) _)
  rw [← hw1]
  obtain ⟨p, hp⟩ : ∃ q, q = W.heap.size := ⟨_, rfl⟩
  rw [← hp] at P ⊢
  have RP := Lib.hid (range_of P.out)
  clear hw1 hp
  go_wp2_with (refine wpList_load_midG rfl 26 (.tmp 1) rfl p 0 rfl (opL kd x n s A1 n1 c1 A2 n2 c2) _ RP.out Tryd.underlying26 rfl sizeOp ?_)
  refine (great7 kd x n s A1 n1 c1 A2 n2 c2 w1 hl1 hl2).mono ?_
  rintro e w2 ⟨rfl, b2⟩
  have P := Lib.hid ((b2.block _ (heap_lt P.out)).trans P.out)
  have B := Lib.hid (B.out.trans (b2.mono B.out.size))
  have RP := Lib.hid (range_of P.out)
  clear b2
  by_cases hg : (500 : Int) < n1 + n2
  · rw [decide_eq_true hg]
    clear hg
    go_wp2_with fail
    refine (awake8 w2).mono ?_
    rintro e w3 ⟨rfl, b3⟩
    have B := Lib.hid (B.out.trans (b3.mono B.out.size))
    clear b3
    go_wp2_with fail
    go_ret
    exact ⟨rfl, B.out⟩
  rw [decide_eq_false hg]
  have hn1 : n1 ≤ 500 := by omega
  have hn2 : n2 ≤ 500 := by omega
  clear hg
  go_wp2_with (refine wpList_load_midG rfl 26 (.tmp 1) rfl p 0 rfl (opL kd x n s A1 n1 c1 A2 n2 c2) _ RP.out Tryd.underlying26 rfl sizeOp ?_)
  refine (lent9 I P_ kd x n s A1 n1 c1 A2 n2 c2 w2 hn1 hn2 ((S1.out.below B.out (Nat.le_refl _)).more B.out.size) ((S2.out.below B.out (Nat.le_refl _)).more B.out.size) Z1.out Z2.out).mono ?_
  rintro e w3 ⟨g1, g2, rfl, hl⟩
  have L := Lib.hid hl
  have b3 := hl.below
  have B0 := Lib.hid B.out.size
  have P := Lib.hid ((b3.block _ (heap_lt P.out)).trans P.out)
  have B := Lib.hid (B.out.trans (b3.mono B.out.size))
  have RP := Lib.hid (range_of P.out)
  have G1 := Lib.hid (Nat.le_trans B.out.size (Nat.le_refl _))
  have GL : Hid (W.heap.size ≤ g1 ∧ W.heap.size ≤ g2) := Lib.hid ⟨Nat.le_trans B0.out hl.lo1, Nat.le_trans B0.out hl.lo2⟩
  have OI := Lib.hid (opL_one kd x n s (some ⟨g1, 0, none⟩) n1 (n1 + 12) (some ⟨g2, 0, none⟩) n2 (n2 + 12))
  clear hl b3 G1
  go_upto_region 4 with (refine wpList_boxed rfl 26 3 rfl rfl zOp (zeroVOp _) (.tmp 15) rfl rfl rfl (opL kd x n s (some ⟨g1, 0, none⟩) n1 (n1 + 12) (some ⟨g2, 0, none⟩) n2 (n2 + 12)) rfl rfl sizeOp rfl OI.out ?_; intro w4 b4 Q s4)
  obtain ⟨q, hq⟩ : ∃ q, q = w3.heap.size := ⟨_, rfl⟩
  rw [← hq] at Q ⊢
  have Q := Lib.hid Q
  have P := Lib.hid ((b4.block _ (heap_lt P.out)).trans P.out)
  have L := Lib.hid (L.out.go b4)
  have B := Lib.hid (B.out.trans (b4.mono B.out.size))
  have RP := Lib.hid (range_of P.out)
  have RQ := Lib.hid (range_of Q.out)
  clear b4 s4 hq
  cases hr : rightB (opR kd x n s I n1 P_ n2) with
  | false =>
    have HR := Lib.hid hr
    clear hr
    refine wp_region_held_drew (S := fun w' => w'.rangeAt q 0 (opL kd x n s (some ⟨g1, 0, none⟩) n1 (n1 + 12) (some ⟨g2, 0, none⟩) n2 (n2 + 12)) ∧ w'.rangeAt p 0 (opL kd x n s A1 n1 c1 A2 n2 c2)) (by kernel_rfl) ⟨RQ.out, RP.out⟩ (fun hHeld => ?_)
    refine wpAnyH_take (i := 0) (v := _) (by simp only [List.getElem?_toArray, List.getElem?_cons_zero]; rfl) (by kernel_rfl) (by kernel_rfl) (by kernel_rfl) (by intro _ _ _ h; exact h) (yieldsIf_load_mid (by rfl) 26 (.tmp 3) rfl q 0 rfl (opL kd x n s (some ⟨g1, 0, none⟩) n1 (n1 + 12) (some ⟨g2, 0, none⟩) n2 (n2 + 12)) _ (fun _ h => h.1) Tryd.underlying26 rfl sizeOp) hHeld ?_
    try simp only [Act.put, List.setIfInBounds_toArray, List.set_cons_zero, List.set_cons_succ]
    refine wpAnyH_take (i := 2) (v := _) (by simp only [List.getElem?_toArray, List.getElem?_cons_zero, List.getElem?_cons_succ]; rfl) (by kernel_rfl) (by kernel_rfl) (by kernel_rfl) (by intro _ _ _ h; exact h) (yieldsIf_load_mid (by rfl) 26 (.tmp 1) rfl p 0 rfl (opL kd x n s A1 n1 c1 A2 n2 c2) _ (fun _ h => h.2) Tryd.underlying26 rfl sizeOp) hHeld ?_
    try simp only [Act.put, List.setIfInBounds_toArray, List.set_cons_zero, List.set_cons_succ]
    have L : Hid (LentO w2 w4.drew I P_ g1 n1 g2 n2) := Lib.hid (L.out.go ((Below.refl _ _).drew))
    have P : Hid (w4.drew.heap[p]? = _) := P
    have Q : Hid (w4.drew.heap[q]? = _) := Q
    have B : Hid (Below W.heap.size W w4.drew) := Lib.hid B.out.drew
    refine wpAnyH_ready (rs := [1]) (by kernel_rfl) (by simp) ?_
    refine AllReadyH.cons (by simp only [List.getElem?_toArray, List.getElem?_cons_zero, List.getElem?_cons_succ]; rfl) (fun K hK => ?_) AllReadyH.nil
    rw [if_pos (by rfl)]
    go_simp
    refine (right10 I P_ kd x n s (some ⟨g1, 0, none⟩) n1 (n1 + 12) (some ⟨g2, 0, none⟩) n2 (n2 + 12) w4.drew (by omega) (by omega) L.out.r1 L.out.r2).mono ?_
    rw [HR.out]
    rintro e w5 ⟨rfl, b5⟩
    have P := Lib.hid ((b5.block _ (heap_lt P.out)).trans P.out)
    have L := Lib.hid (L.out.go b5)
    have Q := Lib.hid ((b5.block _ (heap_lt Q.out)).trans Q.out)
    have B := Lib.hid (B.out.trans (b5.mono B.out.size))
    have RP := Lib.hid (range_of P.out)
    have RQ := Lib.hid (range_of Q.out)
    refine hK.out _ _ ⟨RQ.out, RP.out⟩ (fun hHeld => ?_)
    clear hK K b5
    try simp only [Act.put, List.setIfInBounds_toArray, List.set_cons_zero, List.set_cons_succ]
    refine wpAnyH_ready (rs := [3]) (by kernel_rfl) (by simp) ?_
    refine AllReadyH.cons (by simp only [List.getElem?_toArray, List.getElem?_cons_zero, List.getElem?_cons_succ]; rfl) (fun K hK => ?_) AllReadyH.nil
    rw [if_pos (by rfl)]
    go_simp
    refine (rright11 I P_ kd x n s A1 n1 c1 A2 n2 c2 w5 (by omega) (by omega) ((S1.out.below B.out (Nat.le_refl _)).more B.out.size) ((S2.out.below B.out (Nat.le_refl _)).more B.out.size)).mono ?_
    rw [HR.out]
    rintro e w6 ⟨rfl, b6⟩
    have P := Lib.hid ((b6.block _ (heap_lt P.out)).trans P.out)
    have L := Lib.hid (L.out.go b6)
    have Q := Lib.hid ((b6.block _ (heap_lt Q.out)).trans Q.out)
    have B := Lib.hid (B.out.trans (b6.mono B.out.size))
    have RP := Lib.hid (range_of P.out)
    have RQ := Lib.hid (range_of Q.out)
    refine hK.out _ _ ⟨RQ.out, RP.out⟩ (fun hHeld => ?_)
    clear hK K b6
    try simp only [Act.put, List.setIfInBounds_toArray, List.set_cons_zero, List.set_cons_succ]
    refine wpAnyH_take (i := 4) (v := ?_) (by simp only [List.getElem?_toArray, List.getElem?_cons_zero, List.getElem?_cons_succ]; rfl) (by kernel_rfl) (by kernel_rfl) (by kernel_rfl) (by intro _ _ _ h; exact h) (Or.inl ⟨by rfl, ?_⟩) hHeld ?_
    rotate_left
    · (intro w hSw; (try dsimp only at hSw); go_simp; try with_reducible rfl)
    try simp only [Act.put, List.setIfInBounds_toArray, List.set_cons_zero, List.set_cons_succ]
    refine wpAnyH_take (i := 5) (v := ?_) (by simp only [List.getElem?_toArray, List.getElem?_cons_zero, List.getElem?_cons_succ]; rfl) (by kernel_rfl) (by kernel_rfl) (by kernel_rfl) (by intro _ _ _ h; exact h) (Or.inl ⟨by rfl, ?_⟩) hHeld ?_
    rotate_left
    · (intro w hSw; (try dsimp only at hSw); go_simp; try with_reducible rfl)
    try simp only [Act.put, List.setIfInBounds_toArray, List.set_cons_zero, List.set_cons_succ]
    refine wpAnyH_done (by kernel_rfl) ?_ _
    clear hHeld
    go_wp2_with (refine wpList_load_midG rfl 26 (.tmp 3) rfl q 0 rfl (opL kd x n s (some ⟨g1, 0, none⟩) n1 (n1 + 12) (some ⟨g2, 0, none⟩) n2 (n2 + 12)) _ RQ.out Tryd.underlying26 rfl sizeOp ?_)
    refine (put12 I P_ kd x n s (some ⟨g1, 0, none⟩) n1 (n1 + 12) (some ⟨g2, 0, none⟩) n2 (n2 + 12) w6 (by omega) (by omega) hkd L.out.r1 L.out.r2).mono ?_
    rintro e w7 h7
    obtain ⟨rfl, b7⟩ := put_no h7 HR.out
    clear h7
    have P := Lib.hid ((b7.block _ (heap_lt P.out)).trans P.out)
    have L := Lib.hid (L.out.go b7)
    have Q := Lib.hid ((b7.block _ (heap_lt Q.out)).trans Q.out)
    have B := Lib.hid (B.out.trans (b7.mono B.out.size))
    have RP := Lib.hid (range_of P.out)
    have RQ := Lib.hid (range_of Q.out)
    clear b7
    go_wp2_with (refine wpList_load_midG rfl 26 (.tmp 3) rfl q 0 rfl (opL kd x n s (some ⟨g1, 0, none⟩) n1 (n1 + 12) (some ⟨g2, 0, none⟩) n2 (n2 + 12)) _ RQ.out Tryd.underlying26 rfl sizeOp ?_)
    refine (put12 I P_ kd x n s (some ⟨g1, 0, none⟩) n1 (n1 + 12) (some ⟨g2, 0, none⟩) n2 (n2 + 12) w7 (by omega) (by omega) hkd L.out.r1 L.out.r2).mono ?_
    rintro e w8 h8
    obtain ⟨rfl, b8⟩ := put_no h8 HR.out
    clear h8
    have P := Lib.hid ((b8.block _ (heap_lt P.out)).trans P.out)
    have L := Lib.hid (L.out.go b8)
    have Q := Lib.hid ((b8.block _ (heap_lt Q.out)).trans Q.out)
    have B := Lib.hid (B.out.trans (b8.mono B.out.size))
    have RP := Lib.hid (range_of P.out)
    have RQ := Lib.hid (range_of Q.out)
    clear b8
    go_wp2_with (first | (refine wpList_load_midG rfl 26 (.tmp 3) rfl q 0 rfl (opL kd x n s (some ⟨g1, 0, none⟩) n1 (n1 + 12) (some ⟨g2, 0, none⟩) n2 (n2 + 12)) _ RQ.out Tryd.underlying26 rfl sizeOp ?_) | (refine wpList_load_midG rfl 26 (.tmp 1) rfl p 0 rfl (opL kd x n s A1 n1 c1 A2 n2 c2) _ RP.out Tryd.underlying26 rfl sizeOp ?_))
    refine (kept13 I P_ kd x n s g1 g2 A1 n1 c1 A2 n2 c2 w8 hn1 hn2 L.out.h1 L.out.h2 ((S1.out.below B.out (Nat.le_refl _)).more B.out.size) ((S2.out.below B.out (Nat.le_refl _)).more B.out.size)).mono ?_
    rintro e w9 ⟨rfl, b9⟩
    have P := Lib.hid ((b9.block _ (heap_lt P.out)).trans P.out)
    have L := Lib.hid (L.out.go b9)
    have Q := Lib.hid ((b9.block _ (heap_lt Q.out)).trans Q.out)
    have B := Lib.hid (B.out.trans (b9.mono B.out.size))
    have RP := Lib.hid (range_of P.out)
    have RQ := Lib.hid (range_of Q.out)
    clear b9
    go_wp2_with (refine wpList_load_midG rfl 26 (.tmp 3) rfl q 0 rfl (opL kd x n s (some ⟨g1, 0, none⟩) n1 (n1 + 12) (some ⟨g2, 0, none⟩) n2 (n2 + 12)) _ RQ.out Tryd.underlying26 rfl sizeOp ?_)
    refine (over14 kd x n s g1 n1 g2 n2 (lrF I n1) (lrP P_ n2) w9 hn1 hn2 L.out.h1 L.out.h2 (lrF_len I n1) (lrP_len P_ n2)).mono ?_
    rintro e w10 ⟨rfl, k10⟩
    have P := Lib.hid (k10.heap P.out (fun e => e.elim (fun e => blk_ne P.out L.out.h1 (by decide) e) (fun e => blk_ne P.out L.out.h2 (by decide) e)))
    have RP := Lib.hid (range_of P.out)
    have B := Lib.hid (B.out.trans (k10.below (fun k e => e.elim (fun e => by rw [e]; exact GL.out.1) (fun e => by rw [e]; exact GL.out.2)) B.out.size))
    clear k10 L Q RQ
    go_wp2_with (refine wpList_load_midG rfl 26 (.tmp 1) rfl p 0 rfl (opL kd x n s A1 n1 c1 A2 n2 c2) _ RP.out Tryd.underlying26 rfl sizeOp ?_)
    refine (rput15 I P_ kd x n s A1 n1 c1 A2 n2 c2 w10 (by omega) (by omega) hkd ((S1.out.below B.out (Nat.le_refl _)).more B.out.size) ((S2.out.below B.out (Nat.le_refl _)).more B.out.size)).mono ?_
    rintro e w11 h11
    obtain ⟨rfl, b11⟩ := put_no h11 HR.out
    clear h11
    have B := Lib.hid (B.out.trans (b11.mono B.out.size))
    clear b11
    go_wp2_with fail
    refine (same16 (fun _ => 0) none none 0 0 0 0 0 w11 (by omega) (fun h => absurd h (by omega)) (fun h => absurd h (by omega))).mono ?_
    rintro e _ ⟨rfl, m, rfl⟩
    have B : Hid (Below W.heap.size W (w11.drewN m)) := Lib.hid (below_drewN B.out m)
    obtain ⟨w12, hw12⟩ : ∃ w, w = w11.drewN m := ⟨_, rfl⟩
    rw [← hw12] at B ⊢
    clear hw12
    go_wp2_with fail
    refine (apart2 w12 W.heap.size none none 0 0 0 0 [] [] rfl rfl (World.ownsRow_nil _ _ _ _) (World.ownsRow_nil _ _ _ _) (by omega) (by omega) (fun k h => by cases h) B.out.size).mono ?_
    rintro e w13 ⟨rfl, b13⟩
    have B := Lib.hid (B.out.trans b13)
    clear b13
    go_wp2_with fail
    refine (awake8 w13).mono ?_
    rintro e w14 ⟨rfl, b14⟩
    have B := Lib.hid (B.out.trans (b14.mono B.out.size))
    clear b14
    go_wp2_with fail
    go_ret
    exact ⟨rfl, B.out⟩
  | true =>
    have HR := Lib.hid hr
    clear hr
    refine wp_region_held_drew (S := fun w' => w'.rangeAt q 0 (opL kd x n s (some ⟨g1, 0, none⟩) n1 (n1 + 12) (some ⟨g2, 0, none⟩) n2 (n2 + 12)) ∧ w'.rangeAt p 0 (opL kd x n s A1 n1 c1 A2 n2 c2)) (by kernel_rfl) ⟨RQ.out, RP.out⟩ (fun hHeld => ?_)
    refine wpAnyH_take (i := 0) (v := _) (by simp only [List.getElem?_toArray, List.getElem?_cons_zero]; rfl) (by kernel_rfl) (by kernel_rfl) (by kernel_rfl) (by intro _ _ _ h; exact h) (yieldsIf_load_mid (by rfl) 26 (.tmp 3) rfl q 0 rfl (opL kd x n s (some ⟨g1, 0, none⟩) n1 (n1 + 12) (some ⟨g2, 0, none⟩) n2 (n2 + 12)) _ (fun _ h => h.1) Tryd.underlying26 rfl sizeOp) hHeld ?_
    try simp only [Act.put, List.setIfInBounds_toArray, List.set_cons_zero, List.set_cons_succ]
    refine wpAnyH_take (i := 2) (v := _) (by simp only [List.getElem?_toArray, List.getElem?_cons_zero, List.getElem?_cons_succ]; rfl) (by kernel_rfl) (by kernel_rfl) (by kernel_rfl) (by intro _ _ _ h; exact h) (yieldsIf_load_mid (by rfl) 26 (.tmp 1) rfl p 0 rfl (opL kd x n s A1 n1 c1 A2 n2 c2) _ (fun _ h => h.2) Tryd.underlying26 rfl sizeOp) hHeld ?_
    try simp only [Act.put, List.setIfInBounds_toArray, List.set_cons_zero, List.set_cons_succ]
    have L : Hid (LentO w2 w4.drew I P_ g1 n1 g2 n2) := Lib.hid (L.out.go ((Below.refl _ _).drew))
    have P : Hid (w4.drew.heap[p]? = _) := P
    have Q : Hid (w4.drew.heap[q]? = _) := Q
    have B : Hid (Below W.heap.size W w4.drew) := Lib.hid B.out.drew
    refine wpAnyH_ready (rs := [1]) (by kernel_rfl) (by simp) ?_
    refine AllReadyH.cons (by simp only [List.getElem?_toArray, List.getElem?_cons_zero, List.getElem?_cons_succ]; rfl) (fun K hK => ?_) AllReadyH.nil
    rw [if_pos (by rfl)]
    go_simp
    refine (right10 I P_ kd x n s (some ⟨g1, 0, none⟩) n1 (n1 + 12) (some ⟨g2, 0, none⟩) n2 (n2 + 12) w4.drew (by omega) (by omega) L.out.r1 L.out.r2).mono ?_
    rw [HR.out]
    rintro e w5 ⟨rfl, b5⟩
    have P := Lib.hid ((b5.block _ (heap_lt P.out)).trans P.out)
    have L := Lib.hid (L.out.go b5)
    have Q := Lib.hid ((b5.block _ (heap_lt Q.out)).trans Q.out)
    have B := Lib.hid (B.out.trans (b5.mono B.out.size))
    have RP := Lib.hid (range_of P.out)
    have RQ := Lib.hid (range_of Q.out)
    refine hK.out _ _ ⟨RQ.out, RP.out⟩ (fun hHeld => ?_)
    clear hK K b5
    try simp only [Act.put, List.setIfInBounds_toArray, List.set_cons_zero, List.set_cons_succ]
    refine wpAnyH_ready (rs := [3]) (by kernel_rfl) (by simp) ?_
    refine AllReadyH.cons (by simp only [List.getElem?_toArray, List.getElem?_cons_zero, List.getElem?_cons_succ]; rfl) (fun K hK => ?_) AllReadyH.nil
    rw [if_pos (by rfl)]
    go_simp
    refine (rright11 I P_ kd x n s A1 n1 c1 A2 n2 c2 w5 (by omega) (by omega) ((S1.out.below B.out (Nat.le_refl _)).more B.out.size) ((S2.out.below B.out (Nat.le_refl _)).more B.out.size)).mono ?_
    rw [HR.out]
    rintro e w6 ⟨rfl, b6⟩
    have P := Lib.hid ((b6.block _ (heap_lt P.out)).trans P.out)
    have L := Lib.hid (L.out.go b6)
    have Q := Lib.hid ((b6.block _ (heap_lt Q.out)).trans Q.out)
    have B := Lib.hid (B.out.trans (b6.mono B.out.size))
    have RP := Lib.hid (range_of P.out)
    have RQ := Lib.hid (range_of Q.out)
    refine hK.out _ _ ⟨RQ.out, RP.out⟩ (fun hHeld => ?_)
    clear hK K b6
    try simp only [Act.put, List.setIfInBounds_toArray, List.set_cons_zero, List.set_cons_succ]
    refine wpAnyH_take (i := 4) (v := ?_) (by simp only [List.getElem?_toArray, List.getElem?_cons_zero, List.getElem?_cons_succ]; rfl) (by kernel_rfl) (by kernel_rfl) (by kernel_rfl) (by intro _ _ _ h; exact h) (Or.inl ⟨by rfl, ?_⟩) hHeld ?_
    rotate_left
    · (intro w hSw; (try dsimp only at hSw); go_simp; try with_reducible rfl)
    try simp only [Act.put, List.setIfInBounds_toArray, List.set_cons_zero, List.set_cons_succ]
    refine wpAnyH_take (i := 5) (v := ?_) (by simp only [List.getElem?_toArray, List.getElem?_cons_zero, List.getElem?_cons_succ]; rfl) (by kernel_rfl) (by kernel_rfl) (by kernel_rfl) (by intro _ _ _ h; exact h) (Or.inl ⟨by rfl, ?_⟩) hHeld ?_
    rotate_left
    · (intro w hSw; (try dsimp only at hSw); go_simp; try with_reducible rfl)
    try simp only [Act.put, List.setIfInBounds_toArray, List.set_cons_zero, List.set_cons_succ]
    refine wpAnyH_done (by kernel_rfl) ?_ _
    clear hHeld
    go_wp2_with (refine wpList_load_midG rfl 26 (.tmp 3) rfl q 0 rfl (opL kd x n s (some ⟨g1, 0, none⟩) n1 (n1 + 12) (some ⟨g2, 0, none⟩) n2 (n2 + 12)) _ RQ.out Tryd.underlying26 rfl sizeOp ?_)
    refine (put12 I P_ kd x n s (some ⟨g1, 0, none⟩) n1 (n1 + 12) (some ⟨g2, 0, none⟩) n2 (n2 + 12) w6 (by omega) (by omega) hkd L.out.r1 L.out.r2).mono ?_
    rintro e w7 h7
    obtain ⟨l, hl⟩ : ∃ l, enc (opR kd x n s I n1 P_ n2) = l := ⟨_, rfl⟩
    have HE := Lib.hid hl
    obtain ⟨N, hN⟩ : ∃ N, l.length = N := ⟨_, rfl⟩
    have HN := Lib.hid hN
    have hN2 : N ≤ 1353 := by
      have := enc_len HR.out ⟨nl_ko I n1, pl_ko P_ n2⟩
      rw [hl, hN] at this
      exact this.2
    obtain ⟨A7, c7, rfl, o7, -, -, -, b7⟩ := put_yes h7 HR.out HE.out HN.out
    have OA : Hid (w7.ownsRow W.heap.size 5 1 (.slice A7 N c7) N (u8l l)) := Lib.hid (own_lower o7 B.out.size)
    have LT : Hid (∀ k, (Value.slice A7 N c7).ownBlock = some k → k < w7.heap.size) := Lib.hid fun k hk => (row_lt o7 hk).2
    clear hl hN o7 h7
    have P := Lib.hid ((b7.block _ (heap_lt P.out)).trans P.out)
    have L := Lib.hid (L.out.go b7)
    have Q := Lib.hid ((b7.block _ (heap_lt Q.out)).trans Q.out)
    have B := Lib.hid (B.out.trans (b7.mono B.out.size))
    have RP := Lib.hid (range_of P.out)
    have RQ := Lib.hid (range_of Q.out)
    clear b7
    go_wp2_with (refine wpList_load_midG rfl 26 (.tmp 3) rfl q 0 rfl (opL kd x n s (some ⟨g1, 0, none⟩) n1 (n1 + 12) (some ⟨g2, 0, none⟩) n2 (n2 + 12)) _ RQ.out Tryd.underlying26 rfl sizeOp ?_)
    refine (put12 I P_ kd x n s (some ⟨g1, 0, none⟩) n1 (n1 + 12) (some ⟨g2, 0, none⟩) n2 (n2 + 12) w7 (by omega) (by omega) hkd L.out.r1 L.out.r2).mono ?_
    rintro e w8 h8
    obtain ⟨A8, c8, rfl, o8, -, -, -, b8⟩ := put_yes h8 HR.out HE.out HN.out
    have OB : Hid (w8.ownsRow W.heap.size 5 1 (.slice A8 N c8) N (u8l l)) := Lib.hid (own_lower o8 B.out.size)
    have DAB : Hid (∀ k, (Value.slice A7 N c7).ownBlock = some k → (Value.slice A8 N c8).ownBlock ≠ some k) := Lib.hid fun k h1 h2 => Nat.lt_irrefl _ (Nat.lt_of_lt_of_le (LT.out k h1) (row_lt o8 h2).1)
    clear o8 h8 LT
    have P := Lib.hid ((b8.block _ (heap_lt P.out)).trans P.out)
    have L := Lib.hid (L.out.go b8)
    have Q := Lib.hid ((b8.block _ (heap_lt Q.out)).trans Q.out)
    have OA := Lib.hid ((Keeps.fresh (S := fun _ => False) b8).row OA.out fun _ _ h => h)
    have B := Lib.hid (B.out.trans (b8.mono B.out.size))
    have RP := Lib.hid (range_of P.out)
    have RQ := Lib.hid (range_of Q.out)
    clear b8
    go_wp2_with (first | (refine wpList_load_midG rfl 26 (.tmp 3) rfl q 0 rfl (opL kd x n s (some ⟨g1, 0, none⟩) n1 (n1 + 12) (some ⟨g2, 0, none⟩) n2 (n2 + 12)) _ RQ.out Tryd.underlying26 rfl sizeOp ?_) | (refine wpList_load_midG rfl 26 (.tmp 1) rfl p 0 rfl (opL kd x n s A1 n1 c1 A2 n2 c2) _ RP.out Tryd.underlying26 rfl sizeOp ?_))
    refine (kept13 I P_ kd x n s g1 g2 A1 n1 c1 A2 n2 c2 w8 hn1 hn2 L.out.h1 L.out.h2 ((S1.out.below B.out (Nat.le_refl _)).more B.out.size) ((S2.out.below B.out (Nat.le_refl _)).more B.out.size)).mono ?_
    rintro e w9 ⟨rfl, b9⟩
    have P := Lib.hid ((b9.block _ (heap_lt P.out)).trans P.out)
    have L := Lib.hid (L.out.go b9)
    have Q := Lib.hid ((b9.block _ (heap_lt Q.out)).trans Q.out)
    have OA := Lib.hid ((Keeps.fresh (S := fun _ => False) b9).row OA.out fun _ _ h => h)
    have OB := Lib.hid ((Keeps.fresh (S := fun _ => False) b9).row OB.out fun _ _ h => h)
    have B := Lib.hid (B.out.trans (b9.mono B.out.size))
    have RP := Lib.hid (range_of P.out)
    have RQ := Lib.hid (range_of Q.out)
    clear b9
    go_wp2_with (refine wpList_load_midG rfl 26 (.tmp 3) rfl q 0 rfl (opL kd x n s (some ⟨g1, 0, none⟩) n1 (n1 + 12) (some ⟨g2, 0, none⟩) n2 (n2 + 12)) _ RQ.out Tryd.underlying26 rfl sizeOp ?_)
    refine (over14 kd x n s g1 n1 g2 n2 (lrF I n1) (lrP P_ n2) w9 hn1 hn2 L.out.h1 L.out.h2 (lrF_len I n1) (lrP_len P_ n2)).mono ?_
    rintro e w10 ⟨rfl, k10⟩
    have P := Lib.hid (k10.heap P.out (fun e => e.elim (fun e => blk_ne P.out L.out.h1 (by decide) e) (fun e => blk_ne P.out L.out.h2 (by decide) e)))
    have RP := Lib.hid (range_of P.out)
    have OA := Lib.hid (k10.row OA.out fun k h1 e => e.elim (fun e => row_ne_cells OA.out L.out.h1 (by decide) (e ▸ h1)) (fun e => row_ne_cells OA.out L.out.h2 (by decide) (e ▸ h1)))
    have OB := Lib.hid (k10.row OB.out fun k h1 e => e.elim (fun e => row_ne_cells OB.out L.out.h1 (by decide) (e ▸ h1)) (fun e => row_ne_cells OB.out L.out.h2 (by decide) (e ▸ h1)))
    have B := Lib.hid (B.out.trans (k10.below (fun k e => e.elim (fun e => by rw [e]; exact GL.out.1) (fun e => by rw [e]; exact GL.out.2)) B.out.size))
    clear k10 L Q RQ
    go_wp2_with (refine wpList_load_midG rfl 26 (.tmp 1) rfl p 0 rfl (opL kd x n s A1 n1 c1 A2 n2 c2) _ RP.out Tryd.underlying26 rfl sizeOp ?_)
    refine (rput15 I P_ kd x n s A1 n1 c1 A2 n2 c2 w10 (by omega) (by omega) hkd ((S1.out.below B.out (Nat.le_refl _)).more B.out.size) ((S2.out.below B.out (Nat.le_refl _)).more B.out.size)).mono ?_
    rintro e w11 h11
    obtain ⟨A11, c11, rfl, -, a11, -, -, b11⟩ := put_yes h11 HR.out HE.out HN.out
    have X11 := Lib.hid a11
    clear h11 a11
    have OA := Lib.hid ((Keeps.fresh (S := fun _ => False) b11).row OA.out fun _ _ h => h)
    have OB := Lib.hid ((Keeps.fresh (S := fun _ => False) b11).row OB.out fun _ _ h => h)
    have B := Lib.hid (B.out.trans (b11.mono B.out.size))
    clear b11
    have XA : Hid (Arr w11 w11.heap.size A7 N fun j => .int .u8 (l.getD j 0)) := Lib.hid (arr_own OA.out HN.out)
    go_wp2_with fail
    refine (same16 (fun j => l.getD j 0) A7 A11 N c7 c11 _ _ w11 (by omega) XA.out X11.out).mono ?_
    rintro e _ ⟨rfl, m, rfl⟩
    have OA : Hid ((w11.drewN m).ownsRow W.heap.size 5 1 (.slice A7 N c7) N (u8l l)) := Lib.hid OA.out
    have OB : Hid ((w11.drewN m).ownsRow W.heap.size 5 1 (.slice A8 N c8) N (u8l l)) := Lib.hid OB.out
    have B : Hid (Below W.heap.size W (w11.drewN m)) := Lib.hid (below_drewN B.out m)
    obtain ⟨w12, hw12⟩ : ∃ w, w = w11.drewN m := ⟨_, rfl⟩
    rw [← hw12] at OA OB B ⊢
    clear hw12 XA X11
    go_wp2_with fail
    refine (apart2 w12 W.heap.size A7 A8 N N c7 c8 l l HN.out HN.out OA.out OB.out (by omega) (by omega) DAB.out B.out.size).mono ?_
    rintro e w13 ⟨rfl, b13⟩
    have B := Lib.hid (B.out.trans b13)
    clear b13
    go_wp2_with fail
    refine (awake8 w13).mono ?_
    rintro e w14 ⟨rfl, b14⟩
    have B := Lib.hid (B.out.trans (b14.mono B.out.size))
    clear b14
    go_wp2_with fail
    go_ret
    exact ⟨rfl, B.out⟩
end Go.Proofs.YthdllbbjajddiaaDoor
