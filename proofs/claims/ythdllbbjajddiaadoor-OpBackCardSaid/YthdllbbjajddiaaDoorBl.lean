/- The law OpBack of layer 25 (op): it returns true at every input. -/
import Derived.Test.YthdllbbjajddiaaDoorBk
import Derived.Test.YthdllbbjajddiaaDoorOo
import Derived.Test.YthdllbbjajddiaaDoorPick
namespace Go.Proofs.YthdllbbjajddiaaDoor
open Go.RowKit Go.Maps Go.WideMaps
set_option maxRecDepth 100000 in
set_option maxHeartbeats 4000000 in
theorem back5 {v : Value} {kd x n s : Int} {A1 : Option Addr} {n1 c1 : Nat} {I : Nat → ElF} {A2 : Option Addr} {n2 c2 : Nat} {P : Nat → ElP} (W : World) (h : OpIn W v kd x n s A1 n1 c1 I A2 n2 c2 P)
    (f : Nat → Int) (A3 : Option Addr) (n3 c3 : Nat) (hnc3 : n3 ≤ c3) (ha3 : Arr W W.heap.size A3 n3 fun j => .int .u8 (f j)) (hz3 : A3 = none → n3 = 0 ∧ c3 = 0) (hf : ∀ i, i < n3 → 0 ≤ f i ∧ f i < 256) (hl3 : n3 ≤ 140737488355328) (cut : Int) :
    Calls Tryd.prog 5 #[v, .slice A3 n3 c3, .int .i64 cut] W fun e W' => e = .returned (.bool true) ∧ Below W.heap.size W W' := by
  have hkd := h.kd
  have hl1 := h.l1
  have hl2 := h.l2
  have S1 := Lib.hid h.r1
  have S2 := Lib.hid h.r2
  have HB3 := Lib.hid (lF_byt hf)
  have HZ3 := Lib.hid hz3
  have X3 : Hid (Arr W W.heap.size A3 n3 fun j => .int .u8 ((lF f n3).getD j 0)) := Lib.hid (arr_congr ha3 fun j hj => by rw [lF_at hj])
  obtain ⟨mo, hmo⟩ : ∃ l, l = lF f n3 := ⟨_, rfl⟩
  have LM : Hid (mo.length = n3) := Lib.hid (by rw [hmo]; exact lF_len f n3)
  rw [← hmo] at X3 HB3
  obtain rfl := h.is
  clear h ha3 hz3 hf hmo
  have OO := Lib.hid (opL_one kd x n s A1 n1 c1 A2 n2 c2)
  unfold opV
  go_enter Tryd.func5, Tryd.ntmps5
  go_upto_region 1 with fail
  obtain ⟨w1, hw1⟩ : ∃ w1, w1 = W.alloc (.cells #[.int .u8 kd, .int .i64 x, .int .i64 n, .int .i64 s, .slice A1 n1 c1, .slice A2 n2 c2] 26) := ⟨_, rfl⟩
  have Q1 : Hid (w1.heap[W.heap.size]? = some (.cells (opL kd x n s A1 n1 c1 A2 n2 c2).toArray 26 (0, 0))) := Lib.hid (by rw [hw1]; exact heap_new W _)
  have B1 : Hid (Below W.heap.size W w1) := Lib.hid (by rw [hw1]; exact (Below.refl _ _).alloc (Nat.le_refl _) _)
  rw [← hw1]
  obtain ⟨p, hp⟩ : ∃ q, q = W.heap.size := ⟨_, rfl⟩
  rw [← hp] at Q1 ⊢
  have HP := Lib.hid hp
  have S1 := Lib.hid ((S1.out.below B1.out (Nat.le_refl _)).more B1.out.size)
  have S2 := Lib.hid ((S2.out.below B1.out (Nat.le_refl _)).more B1.out.size)
  have X3 := Lib.hid ((X3.out.below B1.out (Nat.le_refl _)).more B1.out.size)
  clear hw1 hp
  go_wp2_with fail
  refine (awake8 w1).mono ?_
  rintro e w2 ⟨rfl, b2⟩
  have B2 := Lib.hid (B1.out.trans (b2.mono B1.out.size))
  have Q2 := Lib.hid ((b2.block p (heap_lt Q1.out)).trans Q1.out)
  have S1 := Lib.hid ((S1.out.below b2 (Nat.le_refl _)).more b2.size)
  have S2 := Lib.hid ((S2.out.below b2 (Nat.le_refl _)).more b2.size)
  have X3 := Lib.hid ((X3.out.below b2 (Nat.le_refl _)).more b2.size)
  have RA : Hid (w2.rangeAt p 0 (opL kd x n s A1 n1 c1 A2 n2 c2)) := Lib.hid (range_of Q2.out)
  clear b2 Q1 B1
  go_wp2_with (refine wpList_load_midG rfl 26 (.tmp 3) rfl p 0 rfl (opL kd x n s A1 n1 c1 A2 n2 c2) _ RA.out Tryd.underlying26 rfl sizeOp ?_)
  refine (great7 kd x n s A1 n1 c1 A2 n2 c2 w2 hl1 hl2).mono ?_
  rintro e w3 ⟨rfl, b3⟩
  have B3 := Lib.hid (B2.out.trans (b3.mono B2.out.size))
  have Q3 := Lib.hid ((b3.block p (heap_lt Q2.out)).trans Q2.out)
  have S1 := Lib.hid ((S1.out.below b3 (Nat.le_refl _)).more b3.size)
  have S2 := Lib.hid ((S2.out.below b3 (Nat.le_refl _)).more b3.size)
  have X3 := Lib.hid ((X3.out.below b3 (Nat.le_refl _)).more b3.size)
  have RA : Hid (w3.rangeAt p 0 (opL kd x n s A1 n1 c1 A2 n2 c2)) := Lib.hid (range_of Q3.out)
  clear b3 Q2 B2
  by_cases hg : (500 : Int) < n1 + n2
  · rw [decide_eq_true hg]
    clear hg
    go_wp2_with fail
    go_ret
    exact ⟨rfl, B3.out⟩
  rw [decide_eq_false hg]
  by_cases h5 : 5000 < n3
  · have t1 : decide ((5000 : Int) < n3) = true := by simp; omega
    go_wp2_with fail
    go_ret
    exact ⟨rfl, B3.out⟩
  have t1 : decide ((5000 : Int) < n3) = false := by simp; omega
  have hn1 : n1 ≤ 500 := by omega
  have hn2 : n2 ≤ 500 := by omega
  have hn3 : n3 ≤ 5000 := by omega
  clear hg h5
  go_wp2_with (refine wpList_load_midG rfl 26 (.tmp 3) rfl p 0 rfl (opL kd x n s A1 n1 c1 A2 n2 c2) _ RA.out Tryd.underlying26 rfl sizeOp ?_)
  refine (put12 I P kd x n s A1 n1 c1 A2 n2 c2 w3 (by omega) (by omega) hkd S1.out S2.out).mono ?_
  rintro e w4 h4
  cases hr : rightB (opR kd x n s I n1 P n2) with
  | false =>
    have HR := Lib.hid hr
    obtain ⟨rfl, b4⟩ := put_no h4 hr
    have B4 := Lib.hid (B3.out.trans (b4.mono B3.out.size))
    have Q4 := Lib.hid ((b4.block p (heap_lt Q3.out)).trans Q3.out)
    have S1 := Lib.hid ((S1.out.below b4 (Nat.le_refl _)).more b4.size)
    have S2 := Lib.hid ((S2.out.below b4 (Nat.le_refl _)).more b4.size)
    have RA : Hid (w4.rangeAt p 0 (opL kd x n s A1 n1 c1 A2 n2 c2)) := Lib.hid (range_of Q4.out)
    clear b4 Q3 B3 h4 hr t1
    go_wp2_with (refine wpList_load_midG rfl 26 (.tmp 3) rfl p 0 rfl (opL kd x n s A1 n1 c1 A2 n2 c2) _ RA.out Tryd.underlying26 rfl sizeOp ?_)
    refine (right10 I P kd x n s A1 n1 c1 A2 n2 c2 w4 (by omega) (by omega) S1.out S2.out).mono ?_
    rw [HR.out]
    rintro e w5 ⟨rfl, b5⟩
    have B5 := Lib.hid (B4.out.trans (b5.mono B4.out.size))
    clear b5
    go_wp2_with fail
    go_ret
    exact ⟨rfl, B5.out⟩
  | true =>
    have HR := Lib.hid hr
    obtain ⟨l, hl⟩ : ∃ l, enc (opR kd x n s I n1 P n2) = l := ⟨_, rfl⟩
    have HL := Lib.hid hl
    obtain ⟨N, hN⟩ : ∃ N, l.length = N := ⟨_, rfl⟩
    have HN := Lib.hid hN
    have hlen := enc_len hr ⟨nl_ko I n1, pl_ko P n2⟩
    rw [hl, hN] at hlen
    have hN1 : 1 ≤ N := hlen.1
    have hN2 : N ≤ 1353 := hlen.2
    have HBl : Hid (Byt l) := Lib.hid (hl ▸ enc_byt kd x n s I n1 P n2)
    obtain ⟨A4, c4, rfl, -, a4, l4, n4, b4⟩ := put_yes h4 hr hl hN
    have X4 := Lib.hid a4
    have Z4 := Lib.hid n4
    have B4 := Lib.hid (B3.out.trans (b4.mono B3.out.size))
    have Q4 := Lib.hid ((b4.block p (heap_lt Q3.out)).trans Q3.out)
    have S1 := Lib.hid ((S1.out.below b4 (Nat.le_refl _)).more b4.size)
    have S2 := Lib.hid ((S2.out.below b4 (Nat.le_refl _)).more b4.size)
    have X3 := Lib.hid ((X3.out.below b4 (Nat.le_refl _)).more b4.size)
    have RA : Hid (w4.rangeAt p 0 (opL kd x n s A1 n1 c1 A2 n2 c2)) := Lib.hid (range_of Q4.out)
    clear b4 Q3 B3 h4 hr hl hN hlen a4 n4 t1
    go_wp2_with (refine wpList_load_midG rfl 26 (.tmp 3) rfl p 0 rfl (opL kd x n s A1 n1 c1 A2 n2 c2) _ RA.out Tryd.underlying26 rfl sizeOp ?_)
    refine (right10 I P kd x n s A1 n1 c1 A2 n2 c2 w4 (by omega) (by omega) S1.out S2.out).mono ?_
    rw [HR.out]
    rintro e w5 ⟨rfl, b5⟩
    have B5 := Lib.hid (B4.out.trans (b5.mono B4.out.size))
    have Q5 := Lib.hid ((b5.block p (heap_lt Q4.out)).trans Q4.out)
    have S1 := Lib.hid ((S1.out.below b5 (Nat.le_refl _)).more b5.size)
    have S2 := Lib.hid ((S2.out.below b5 (Nat.le_refl _)).more b5.size)
    have X3 := Lib.hid ((X3.out.below b5 (Nat.le_refl _)).more b5.size)
    have X4 := Lib.hid ((X4.out.below b5 (Nat.le_refl _)).more b5.size)
    clear b5 Q4 B4 RA
    go_wp2_with fail
    refine (get_yes I P kd x n s n1 n2 A4 N c4 w5 HR.out l HL.out HN.out (by omega) l4 X4.out).mono ?_
    rintro e w6 ⟨A5, c5, A6, c6, rfl, t1, t2, b6⟩
    have B6 := Lib.hid (B5.out.trans (b6.mono B5.out.size))
    have Q6 := Lib.hid ((b6.block p (heap_lt Q5.out)).trans Q5.out)
    have S1 := Lib.hid ((S1.out.below b6 (Nat.le_refl _)).more b6.size)
    have S2 := Lib.hid ((S2.out.below b6 (Nat.le_refl _)).more b6.size)
    have X3 := Lib.hid ((X3.out.below b6 (Nat.le_refl _)).more b6.size)
    have X4 := Lib.hid ((X4.out.below b6 (Nat.le_refl _)).more b6.size)
    have T1 := Lib.hid t1
    have T2 := Lib.hid t2
    have OO2 := Lib.hid (opL_one kd x n s A5 n1 c5 A6 n2 c6)
    clear b6 Q5 B5 t1 t2
    go_upto_region 9 with (refine wpList_boxed rfl 26 9 rfl rfl zOp (zeroVOp _) (.tmp 42) rfl rfl rfl (opL kd x n s A5 n1 c5 A6 n2 c6) rfl rfl sizeOp rfl OO2.out ?_; intro w7 hb7 hh7 hs7)
    obtain ⟨q, hq⟩ : ∃ q, q = w6.heap.size := ⟨_, rfl⟩
    rw [← hq] at hh7 ⊢
    have QQ := Lib.hid hh7
    have B7 := Lib.hid (B6.out.trans (hb7.mono B6.out.size))
    have Q7 := Lib.hid ((hb7.block p (heap_lt Q6.out)).trans Q6.out)
    have S1 := Lib.hid ((S1.out.below hb7 (Nat.le_refl _)).more hb7.size)
    have S2 := Lib.hid ((S2.out.below hb7 (Nat.le_refl _)).more hb7.size)
    have T1 := Lib.hid ((T1.out.below hb7 (Nat.le_refl _)).more hb7.size)
    have T2 := Lib.hid ((T2.out.below hb7 (Nat.le_refl _)).more hb7.size)
    have X3 := Lib.hid ((X3.out.below hb7 (Nat.le_refl _)).more hb7.size)
    have X4 := Lib.hid ((X4.out.below hb7 (Nat.le_refl _)).more hb7.size)
    have RA : Hid (w7.rangeAt p 0 (opL kd x n s A1 n1 c1 A2 n2 c2)) := Lib.hid (range_of Q7.out)
    have RB : Hid (w7.rangeAt q 0 (opL kd x n s A5 n1 c5 A6 n2 c6)) := Lib.hid (range_of QQ.out)
    have t1 : decide ((1353 : Int) < N) = false := by simp; omega
    clear hb7 hh7 hs7 hq Q6 B6
    go_wp2_with (first | (refine wpList_load_midG rfl 26 (.tmp 3) rfl p 0 rfl (opL kd x n s A1 n1 c1 A2 n2 c2) _ RA.out Tryd.underlying26 rfl sizeOp ?_) | (refine wpList_load_midG rfl 26 (.tmp 9) rfl q 0 rfl (opL kd x n s A5 n1 c5 A6 n2 c6) _ RB.out Tryd.underlying26 rfl sizeOp ?_))
    refine (same23 I P kd x n s A1 A5 n1 c1 c5 A2 A6 n2 c2 c6 w7 (by omega) (by omega) S1.out S2.out T1.out T2.out).mono ?_
    rintro e w8 ⟨rfl, b8⟩
    have B8 := Lib.hid (B7.out.trans (b8.mono B7.out.size))
    have X3 := Lib.hid ((X3.out.below b8 (Nat.le_refl _)).more b8.size)
    have X4 := Lib.hid ((X4.out.below b8 (Nat.le_refl _)).more b8.size)
    clear b8 B7 Q7 QQ S1 S2 T1 T2 RA RB t1
    go_upto_region 11 with fail
    have ZO := Lib.hid (opL_one 0 0 0 0 none 0 0 none 0 0)
    by_cases h0 : n3 = 0
    · have t1 : decide ((0 : Int) < n3) = false := by simp; omega
      go_wp2_with fail
      refine (pick9 cut N w8 (by omega) (by omega)).mono ?_
      have hm0 := Int.emod_nonneg cut (b := (N : Int)) (by omega)
      have hm1 := Int.emod_lt_of_pos cut (b := (N : Int)) (by omega)
      obtain ⟨m, hm⟩ : ∃ m : Nat, cut % (N : Int) = m := ⟨(cut % (N : Int)).toNat, by omega⟩
      rw [hm] at hm0 hm1 ⊢
      rintro e _ ⟨rfl, rfl⟩
      have hmN : m < N := by omega
      obtain ⟨bb, of, rfl, hbb, hcc⟩ := X4.out (by omega)
      have hd := slice_head (P := Tryd.prog) Tryd.underlying30 size5 (A := some ⟨bb, of, none⟩) (fun ad e => by cases e; rfl) N c4 m (by omega) l4
      have hd4 : ∀ W, (Instr.sliceAt 30 (.slice (some ⟨bb, of, none⟩) N c4) none (some (.int .i64 m)) none).run Tryd.prog W = .ok (.slice (some ⟨bb, of, none⟩) m c4) W := fun W => hd W
      have X10 : Hid (Arr w8 w8.heap.size (some ⟨bb, of, none⟩) m fun j => .int .u8 ((l.take m).getD j 0)) := Lib.hid fun _ => ⟨bb, of, rfl, hbb, fun j hj => (hcc j (by omega)).trans (by dsimp only; rw [List.getD_eq_getElem?_getD, List.getD_eq_getElem?_getD, List.getElem?_take, if_pos hj])⟩
      have HT : Hid ((l.take m).length = m) := Lib.hid (by rw [List.length_take, HN.out]; omega)
      have HBt : Hid (Byt (l.take m)) := Lib.hid fun x hx => HBl.out x (List.mem_of_mem_take hx)
      have HD : Hid (dec (l.take m) = none) := Lib.hid (by
        have hq : Byt (enc (opR kd x n s I n1 P n2)) := by rw [HL.out]; exact HBl.out
        have := dec_cut HR.out ⟨nl_ko I n1, pl_ko P n2⟩ hq (c := m) (by rw [HL.out, HN.out]; exact hmN)
        rwa [HL.out] at this)
      clear hm hm0 hm1 hbb hcc hd
      go_wp2_with fail
      refine (get_no (l.take m) (some ⟨bb, of, none⟩) m c4 w8 HT.out (by omega) (by omega) HBt.out X10.out HD.out).mono ?_
      rintro e w11 ⟨rfl, b11⟩
      have B11 := Lib.hid (B8.out.trans (b11.mono B8.out.size))
      clear b11 hd4
      go_upto_region 16 with (refine wpList_boxed rfl 26 13 rfl rfl zOp (zeroVOp _) (.tmp 82) rfl rfl rfl zOp rfl rfl sizeOp rfl ZO.out ?_; intro w12 hb12 hh12 hs12)
      have B12 := Lib.hid (B11.out.trans (hb12.mono B11.out.size))
      clear hb12 hh12 hs12
      go_wp2_with fail
      go_ret
      exact ⟨rfl, B12.out⟩
    have t1 : decide ((0 : Int) < n3) = true := by simp; omega
    go_wp2_with fail
    refine (copy25 l A4 N c4 w8 HN.out (by omega) X4.out Z4.out).mono ?_
    rintro e w9 ⟨v9, rfl, o9, b9⟩
    obtain ⟨i0, hi, hz0, hz1, hz2⟩ := infoParts info5
    have HI := Lib.hid (And.intro hi (And.intro hz0 (And.intro hz1 hz2)))
    have X48 := X4
    have X3 := Lib.hid ((X3.out.below b9 (Nat.le_refl _)).more b9.size)
    have O9 := Lib.hid o9
    have Z9 := Lib.hid b9.size
    have HNm := Lib.hid (arr_news X3.out LM.out)
    have HLm : Hid ((u8l mo).length = n3 * 1) := Lib.hid (by rw [u8l_len, LM.out, Nat.mul_one])
    have HOm := Lib.hid (u8l_one mo)
    have HM : Hid (N + n3 ≤ maxLen) := Lib.hid (by unfold maxLen; omega)
    have HM2 : Hid ((N + n3) * 1 ≤ 140737488355328) := Lib.hid (by omega)
    have B9 := Lib.hid (B8.out.trans (b9.mono B8.out.size))
    have B89 := Lib.hid b9
    clear b9 o9 hi hz0 hz1 hz2
    go_wp2_with (refine wpList_append_any rfl (.tmp 66) (.tmp 67) 30 rfl w8.heap.size 5 i0 (.int .u8 0) 1 1 Tryd.underlying30 HI.out.1 HI.out.2.1 HI.out.2.2.1 HI.out.2.2.2 rfl (by decide) v9 N (u8l l) rfl O9.out A3 n3 c3 (u8l mo) rfl HZ3.out HLm.out HNm.out HOm.out HM.out HM2.out Z9.out ?_; intro v10 w10 ho10 hg10)
    have b10 : Below w8.heap.size w8 w10 := B89.out.grown hg10 Z9.out (fun k e => (O9.out.lt k e).1)
    have hll : (l ++ mo).length = N + n3 := by rw [List.length_append, HN.out, LM.out]
    have hu : u8l l ++ u8l mo = u8l (l ++ mo) := by simp [u8l]
    rw [hu, ← hll] at ho10
    obtain ⟨A10, c10, rfl, a10, h10, -⟩ := bytes_arr ho10
    rw [hll] at a10 h10 ⊢
    have B10 := Lib.hid (B8.out.trans (b10.mono B8.out.size))
    have X4 : Hid (Arr w10 w10.heap.size A4 N fun j => .int .u8 (l.getD j 0)) := Lib.hid ((X48.out.below b10 (Nat.le_refl _)).more b10.size)
    have X10 := Lib.hid a10
    have HBm := Lib.hid (byt_app HBl.out HB3.out)
    have HD : Hid (dec (l ++ mo) = none) := Lib.hid (by rw [← HL.out]; exact dec_more HR.out ⟨nl_ko I n1, pl_ko P n2⟩ (by intro h; rw [h] at LM; have := LM.out; simp at this; omega))
    have HLL := Lib.hid hll
    clear ho10 hg10 b10 hu a10 B89 B9 hll
    refine (get_no (l ++ mo) A10 (N + n3) c10 w10 HLL.out (by omega) h10 HBm.out X10.out HD.out).mono ?_
    rintro e w11 ⟨rfl, b11⟩
    have B11 := Lib.hid (B10.out.trans (b11.mono B10.out.size))
    have X4 := Lib.hid ((X4.out.below b11 (Nat.le_refl _)).more b11.size)
    clear b11
    go_upto_region 13 with (refine wpList_boxed rfl 26 11 rfl rfl zOp (zeroVOp _) (.tmp 70) rfl rfl rfl zOp rfl rfl sizeOp rfl ZO.out ?_; intro w12 hb12 hh12 hs12)
    have B12 := Lib.hid (B11.out.trans (hb12.mono B11.out.size))
    have X4 := Lib.hid ((X4.out.below hb12 (Nat.le_refl _)).more hb12.size)
    clear hb12 hh12 hs12
    go_wp2_with fail
    refine (pick9 cut N w12 (by omega) (by omega)).mono ?_
    have hm0 := Int.emod_nonneg cut (b := (N : Int)) (by omega)
    have hm1 := Int.emod_lt_of_pos cut (b := (N : Int)) (by omega)
    obtain ⟨m, hm⟩ : ∃ m : Nat, cut % (N : Int) = m := ⟨(cut % (N : Int)).toNat, by omega⟩
    rw [hm] at hm0 hm1 ⊢
    rintro e _ ⟨rfl, rfl⟩
    have hmN : m < N := by omega
    obtain ⟨bb, of, rfl, hbb, hcc⟩ := X4.out (by omega)
    have hd := slice_head (P := Tryd.prog) Tryd.underlying30 size5 (A := some ⟨bb, of, none⟩) (fun ad e => by cases e; rfl) N c4 m (by omega) l4
    have hd4 : ∀ W, (Instr.sliceAt 30 (.slice (some ⟨bb, of, none⟩) N c4) none (some (.int .i64 m)) none).run Tryd.prog W = .ok (.slice (some ⟨bb, of, none⟩) m c4) W := fun W => hd W
    have X10 : Hid (Arr w12 w12.heap.size (some ⟨bb, of, none⟩) m fun j => .int .u8 ((l.take m).getD j 0)) := Lib.hid fun _ => ⟨bb, of, rfl, hbb, fun j hj => (hcc j (by omega)).trans (by dsimp only; rw [List.getD_eq_getElem?_getD, List.getD_eq_getElem?_getD, List.getElem?_take, if_pos hj])⟩
    have HT : Hid ((l.take m).length = m) := Lib.hid (by rw [List.length_take, HN.out]; omega)
    have HBt : Hid (Byt (l.take m)) := Lib.hid fun x hx => HBl.out x (List.mem_of_mem_take hx)
    have HD : Hid (dec (l.take m) = none) := Lib.hid (by
      have hq : Byt (enc (opR kd x n s I n1 P n2)) := by rw [HL.out]; exact HBl.out
      have := dec_cut HR.out ⟨nl_ko I n1, pl_ko P n2⟩ hq (c := m) (by rw [HL.out, HN.out]; exact hmN)
      rwa [HL.out] at this)
    clear hm hm0 hm1 hbb hcc hd
    go_wp2_with fail
    refine (get_no (l.take m) (some ⟨bb, of, none⟩) m c4 w12 HT.out (by omega) (by omega) HBt.out X10.out HD.out).mono ?_
    rintro e w11 ⟨rfl, b11⟩
    have B11 := Lib.hid (B12.out.trans (b11.mono B12.out.size))
    clear b11 hd4
    go_upto_region 16 with (refine wpList_boxed rfl 26 13 rfl rfl zOp (zeroVOp _) (.tmp 82) rfl rfl rfl zOp rfl rfl sizeOp rfl ZO.out ?_; intro w12 hb12 hh12 hs12)
    have B12 := Lib.hid (B11.out.trans (hb12.mono B11.out.size))
    clear hb12 hh12 hs12
    go_wp2_with fail
    go_ret
    exact ⟨rfl, B12.out⟩
end Go.Proofs.YthdllbbjajddiaaDoor
