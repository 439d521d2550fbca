/- Layer 24 (refs): the law RefsNumbers. -/
import Derived.Test.YtblfkngdieffiaaNk
namespace Go.Proofs.Ytblfkngdieffiaa
open Go.RowKit Go.Maps Go.WideMaps
theorem setC {w : World} {b o : Nat} {cs : List Value} {t : TypeId} (v : Value) (h : w.heap[b]? = some (.cells cs.toArray t (0, 0))) : (w.setCell ⟨b, o, none⟩ v).heap[b]? = some (.cells (cs.set o v).toArray t (0, 0)) := by
  have := heap_setCell_same w b o _ _ v h
  rw [this]
  simp
theorem zK_at {i : Nat} (h : i < 32) : zK[i]? = some (.int .u8 0) := by unfold zK; rw [List.getElem?_replicate, if_pos h]
theorem setN {w : World} {b b' o : Nat} {ob : Obj} (v : Value) (h : w.heap[b]? = some ob) (hn : b ≠ b') : (w.setCell ⟨b', o, none⟩ v).heap[b]? = some ob := (Below.heap_setCell _ _ _ _ hn).trans h
theorem enter20 : ∀ args w, (callFunc 20 args).run Try.prog w = .ok (.enter 20 args) w := enters_of Try.func20 (by kernel_rfl) rfl
theorem enter4 : ∀ args w, (callFunc 4 args).run Try.prog w = .ok (.enter 4 args) w := enters_of Try.func4 (by kernel_rfl) rfl
def itX (ks : List Int) (hk : KeyOk 32 ks) : ElIt := ⟨⟨2, List.replicate 32 0, 0, 0, 0, 0, 0, 0, ks, 0, 1⟩, ⟨wf2u, keyOk_zero 32, wf0, wf0, wf0, wf0, wf0, wf0, hk, wf0, wf1⟩⟩
theorem itX_splice {ks : List Int} (hk : KeyOk 32 ks) (h0 : (0 : Int) ≤ 0 ∧ (0 : Int) < 256) : splice (cellsIt (itE 0 h0)) 39 (u8l ks) = cellsIt (itX ks hk) := by
  unfold splice
  rw [u8l_len, hk.len]
  simp [cellsIt, itmCells, itE, itS, itX, u8l, k8, List.replicate]
theorem infoKeyK {ks : List Int} (hk : KeyOk 32 ks) : (Try.prog.info? 35).map (·.size) = some (u8l ks).length := by rw [u8l_len, hk.len]; exact infoKey
theorem wpList_moveG {P : Program} {ops : Array Oper} {rest : List Oper} {op : Oper} {a : Act} {w : World} {Q : Exit → Act → World → Prop} (hg : Region.wanted op (yielded ops a.tmps) = true) (x : Operand) (ho : op.op = .move x) (v : Value) (hv : a.eval x = v) (h : wpList P ops Q rest (a.put op.dst v) w) : wpList P ops Q (op :: rest) a w :=
  BigFrame.wpList_want hg fun K hK => by
    subst hv
    unfold Oper.wp execOp
    simp only [ho, Sem.run_pure, Result.andThen_ok]
    exact hK _ _ h
theorem item0_run (u : World) : BuildRun Try.prog 42 #[] u (.agg (itmCells (itm0 0)).toArray) := ⟨by kernel_rfl⟩
def itS3 : Itm := ⟨3, List.replicate 32 0, 0, 0, 0, 0, 1, 0, List.replicate 32 0, 0, 0⟩
theorem wf3u : (Lit.int .u8 3).wf = true := by kernel_rfl
def elS3 : ElIt := ⟨itS3, ⟨wf3u, keyOk_zero 32, wf0, wf0, wf0, wf0, wf1, wf0, keyOk_zero 32, wf0, wf0⟩⟩
def elS0 : ElIt := ⟨itm0 0, itm0_ok wf0⟩
theorem item3_run (u : World) : BuildRun Try.prog 42 #[(0, .int .u8 3), (3, .int .i64 1)] u (.agg (itmCells itS3).toArray) := ⟨by kernel_rfl⟩
def elN : Nat → ElIt := fun j => match j with | 0 => elS0 | _ => elS3
theorem loopB (W : World) (wN : World) (bN : Nat) (hN : wN.heap[bN]? = some (.cells #[.int .i64 (nums 0), .int .i64 (nums 1), .int .i64 (nums 2), .int .i64 (nums 3), .int .i64 (nums 4)] 3 (0, 0))) : ∀ i wr, i < 5 → Below wN.heap.size wN wr → wr.cell? ⟨bN, i, none⟩ = some (.int .i64 (nums i)) := fun i wr hi hb => by
  have hh := (hb.block bN (heap_lt hN)).trans hN
  match i, hi with
  | 0, _ => exact block_cell hh 0 _ rfl
  | 1, _ => exact block_cell hh 1 _ rfl
  | 2, _ => exact block_cell hh 2 _ rfl
  | 3, _ => exact block_cell hh 3 _ rfl
  | 4, _ => exact block_cell hh 4 _ rfl
set_option maxRecDepth 100000 in
set_option maxHeartbeats 2000000 in
theorem numbers5 (W : World) : Calls Try.prog 5 #[] W fun e W' => e = .returned (.bool true) ∧ Below W.heap.size W W' := by
  obtain ⟨i0, hi, hz0, hz1, hz2⟩ := infoParts infoC
  have HI := Lib.hid (And.intro hi (And.intro hz0 hz1))
  clear hi hz0 hz1 hz2
  obtain ⟨j0, hi, hz0, hz1, hz2⟩ := infoParts infoIt
  have HJ := Lib.hid (And.intro hi (And.intro hz0 hz1))
  clear hi hz0 hz1 hz2
  go_enter Try.func5, Try.ntmps5
  go_wp2_with fail
  go_loopw [1] (fun i wr => ∃ k : Nat, k ≤ 32 ∧ i = .int .i64 k ∧ Below W.heap.size W wr) (fun i _ => 32 - (intOf i).toNat)
  case atStart => exact ⟨0, Nat.zero_le _, rfl, Below.refl _ _⟩
  case round =>
    obtain ⟨i, hi, rfl, hb⟩ := hrel
    have HB := Lib.hid hb
    clear hb
    by_cases hlt : i < 32
    · obtain ⟨j, hj⟩ : ∃ j : Nat, (31 : Int) - i = j := ⟨31 - i, by omega⟩
      have hj2 : j < 32 := by omega
      have i1 : (0 : Int) ≤ i := by omega
      have i2 : (i : Int) < 32 := by omega
      have j1 : (0 : Int) ≤ j := by omega
      have j2 : (j : Int) < 32 := by omega
      have hw : IntKind.i64.wrap ((31 : Int) - i) = j := by rw [hj]; exact IntWalk.i64_in _ (by omega)
      go_upto_region 5 with (refine wpList_laid rfl 35 rfl zK (zeroVK _) ?_)
      obtain ⟨w2, hw2⟩ : ∃ w2, w2 = (wr.alloc (.cells zK.toArray 35)).alloc (.cells zK.toArray 35) := ⟨_, rfl⟩
      have h2 : w2.heap[wr.heap.size]? = some (.cells zK.toArray 35) := by rw [hw2]; exact heap_old (heap_new wr _)
      have h3 : w2.heap[wr.heap.size + 1]? = some (.cells zK.toArray 35) := by rw [hw2]; exact heap_new_at _ (by simp)
      have B2 : Hid (Below W.heap.size W w2) := Lib.hid (by rw [hw2]; exact (HB.out.alloc HB.out.size _).alloc (by have := HB.out.size; simp; omega) _)
      obtain ⟨b3, hb3⟩ : ∃ b3, b3 = (wr.alloc (.cells zK.toArray 35)).heap.size := ⟨_, rfl⟩
      obtain ⟨b, hbb⟩ : ∃ b, b = wr.heap.size := ⟨_, rfl⟩
      have hb9 : b3 = b + 1 := by rw [hb3, hbb]; simp
      rw [← hw2, ← hb3, ← hbb]
      rw [← hbb] at h2 h3
      rw [← hb9] at h3
      have HWB : Hid (W.heap.size ≤ b) := Lib.hid (by rw [hbb]; exact HB.out.size)
      have HB9 := Lib.hid hb9
      have hne9 : ¬ b3 = b := by omega
      have hne8 : ¬ b = b3 := by omega
      clear hw2 hbb hb3 hb9
      have H2 := Lib.hid h2
      have H3 := Lib.hid h3
      have c2 : w2.cell? ⟨b, i, none⟩ = some (.int .u8 0) := block_cell h2 i _ (by rw [List.getElem?_toArray]; exact zK_at hlt)
      have c3 : w2.cell? ⟨b3, j, none⟩ = some (.int .u8 0) := block_cell h3 j _ (by rw [List.getElem?_toArray]; exact zK_at hj2)
      have z2 : w2.frozen? ⟨b, i, none⟩ = false := frozen_of_row w2 _ _ _ _ h2
      have z3 : w2.frozen? ⟨b3, j, none⟩ = false := frozen_of_row w2 _ _ _ _ h3
      clear h2 h3
      go_upto_region 6 with fail
      clear c2 c3 z2 z3
      obtain ⟨w3, hw3⟩ : ∃ w3, w3 = (w2.setCell ⟨b, i, none⟩ (.int .u8 1)).setCell ⟨b3, j, none⟩ (.int .u8 255) := ⟨_, rfl⟩
      have K2 : Hid (w3.heap[b]? = some (.cells (u8l (kOne i 1)).toArray 35 (0, 0))) := Lib.hid (by rw [hw3, ← zK_set]; exact setN _ (setC _ H2.out) hne8)
      have K3 : Hid (w3.heap[b3]? = some (.cells (u8l (kOne j 255)).toArray 35 (0, 0))) := Lib.hid (by rw [hw3, ← zK_set]; exact setC _ (setN _ H3.out hne9))
      have B3 : Hid (Below W.heap.size W w3) := Lib.hid (by rw [hw3]; exact (B2.out.setCell HWB.out _).setCell (by show _ ≤ b3; have := HWB.out; have := HB9.out; omega) _)
      rw [← hw3]
      have HKA := Lib.hid (kOne_ok i (v := 1) (by omega))
      have HKB := Lib.hid (kOne_ok j (v := 255) (by omega))
      obtain ⟨ka, hka⟩ : ∃ ka, ka = kOne i 1 := ⟨_, rfl⟩
      obtain ⟨kb, hkb⟩ : ∃ kb, kb = kOne j 255 := ⟨_, rfl⟩
      rw [← hka] at K2 HKA
      rw [← hkb] at K3 HKB
      clear hw3 hka hkb H2 H3 B2 hw hj
      go_wp2_with fail
      refine (slice19 0 (by omega) w3).mono ?_
      rintro e w4 ⟨rfl, hb4⟩
      have B34 := Lib.hid hb4
      clear hb4
      go_wp2_with fail
      refine (slice19 0 (by omega) w4).mono ?_
      rintro e w5 ⟨rfl, hb5⟩
      have B35 := Lib.hid (B34.out.trans (hb5.mono B34.out.size))
      clear hb5 B34
      have HSZ : Hid ((Try.prog.info? 42).map (·.size) = some (cellsIt (itE 0 (by omega))).length) := Lib.hid (sizeIt0 _)
      have HL : Hid ((cellsIt (itE 0 (by omega))).length = 73) := Lib.hid (lenIt _)
      have HO := Lib.hid (oneIt (itE 0 (by omega)))
      obtain ⟨cs, hcs⟩ : ∃ cs, cs = cellsIt (itE 0 (by omega)) := ⟨_, rfl⟩
      rw [← hcs] at HSZ HL HO ⊢
      have HCS := Lib.hid hcs
      obtain ⟨b4, hb4⟩ : ∃ b4, b4 = w5.heap.size := ⟨_, rfl⟩
      obtain ⟨w6, hw6⟩ : ∃ w6, w6 = w5.alloc (.cells zIt.toArray 42) := ⟨_, rfl⟩
      obtain ⟨b5, hb5⟩ : ∃ b5, b5 = w6.heap.size := ⟨_, rfl⟩
      obtain ⟨w7, hw7⟩ : ∃ w7, w7 = w6.alloc (.cells zIt.toArray 42) := ⟨_, rfl⟩
      have hb9 : b5 = b4 + 1 := by rw [hb5, hw6, hb4]; simp
      have M4 : Hid (w7.heap[b4]? = some (.cells zIt.toArray 42 (0, 0))) := Lib.hid (by rw [hw7, hw6, hb4]; exact heap_old (heap_new w5 _))
      have M5 : Hid (w7.heap[b5]? = some (.cells zIt.toArray 42 (0, 0))) := Lib.hid (by rw [hw7, hb5]; exact heap_new w6 _)
      have B37 : Hid (Below w3.heap.size w3 w7) := Lib.hid (by rw [hw7, hw6]; exact (B35.out.alloc B35.out.size _).alloc (by have := B35.out.size; simp; omega) _)
      have HGE : Hid (w3.heap.size ≤ b4 ∧ b5 = b4 + 1) := Lib.hid ⟨by rw [hb4]; exact B35.out.size, hb9⟩
      clear hcs B35 hlt hne8 hne9
      go_upto_region 7 with (first | (refine wpList_laid rfl 42 rfl zIt (zeroVIt _) ?_; (first | rw [← hw6, ← hb4] | rw [← hw7, ← hb5])) | (refine wpList_store_segK rfl 42 (.tmp 4) (.tmp 18) rfl b4 0 rfl cs rfl zIt 42 M4.out HSZ.out (by rw [HL.out, zlIt]; omega) HO.out rfl ?_; intro w8 h8 k8 s8; rw [splice_whole _ _ (by rw [HL.out, zlIt])] at h8; have M45 : Hid (w8.heap[b5]? = some (.cells zIt.toArray 42 (0, 0))) := Lib.hid (k8.heap M5.out (by omega))) | (refine wpList_store_segK rfl 42 (.tmp 5) (.tmp 19) rfl b5 0 rfl cs rfl zIt 42 M45.out HSZ.out (by rw [HL.out, zlIt]; omega) HO.out rfl ?_; intro w9 h9 k9 s9; rw [splice_whole _ _ (by rw [HL.out, zlIt])] at h9))
      have hb0 : b < w3.heap.size := heap_lt K2.out
      have hb30 : b3 < w3.heap.size := heap_lt K3.out
      have hge := HGE.out
      have N4 : Hid (w9.heap[b4]? = some (.cells cs.toArray 42 (0, 0))) := Lib.hid (k9.heap h8 (by omega))
      have N5 := Lib.hid h9
      have B39 : Hid (Below w3.heap.size w3 w9) := Lib.hid ((B37.out.trans (k8.below (fun z hz => by rw [hz]; exact hge.1) B37.out.size)).trans (k9.below (fun z hz => by rw [hz]; omega) (by rw [s8]; exact B37.out.size)))
      have R2 : Hid (∀ wr, Below w3.heap.size w3 wr → wr.rangeAt b 0 (u8l ka)) := Lib.hid fun wr h => range_of ((h.block b hb0).trans K2.out)
      have R3 : Hid (∀ wr, Below w3.heap.size w3 wr → wr.rangeAt b3 0 (u8l kb)) := Lib.hid fun wr h => range_of ((h.block b3 hb30).trans K3.out)
      have HKLA := Lib.hid (infoKeyK HKA.out)
      have HKLB := Lib.hid (infoKeyK HKB.out)
      have HLA : Hid ((u8l ka).length = 32) := Lib.hid (by rw [u8l_len, HKA.out.len])
      have HLB : Hid ((u8l kb).length = 32) := Lib.hid (by rw [u8l_len, HKB.out.len])
      have HSA : Hid (splice cs 39 (u8l ka) = cellsIt (itX ka HKA.out)) := Lib.hid (by rw [HCS.out]; exact itX_splice HKA.out _)
      have HSB : Hid (splice cs 39 (u8l kb) = cellsIt (itX kb HKB.out)) := Lib.hid (by rw [HCS.out]; exact itX_splice HKB.out _)
      clear h8 h9 k8 k9 s8 s9 M45 M4 M5 B37 hge hb9 hb5 hb4 hw7 hw6
      refine wp_region_held_drew (S := fun w' => w'.rangeAt b 0 (u8l ka) ∧ w'.rangeAt b3 0 (u8l kb)) (by kernel_rfl) ⟨R2.out _ B39.out.drew, R3.out _ B39.out.drew⟩ (fun hHeld => ?_)
      refine wpAnyH_take (i := 0) (v := _) (by simp only [List.getElem?_toArray, List.getElem?_cons_zero]; rfl) (by kernel_rfl) (by kernel_rfl) (by kernel_rfl) (by intro _ _ _ h; exact h) (yieldsIf_load_mid (by rfl) 35 (.tmp 2) rfl b 0 rfl (u8l ka) _ (fun _ h => h.1) Try.underlying35 rfl HKLA.out) hHeld ?_
      try simp only [Act.put, List.setIfInBounds_toArray, List.set_cons_zero, List.set_cons_succ]
      refine wpAnyH_take (i := 1) (v := _) (by simp only [List.getElem?_toArray, List.getElem?_cons_zero, List.getElem?_cons_succ]; rfl) (by kernel_rfl) (by kernel_rfl) (by kernel_rfl) (by intro _ _ _ h; exact h) (yieldsIf_load_mid (by rfl) 35 (.tmp 3) rfl b3 0 rfl (u8l kb) _ (fun _ h => h.2) Try.underlying35 rfl HKLB.out) hHeld ?_
      try simp only [Act.put, List.setIfInBounds_toArray, List.set_cons_zero, List.set_cons_succ]
      refine wpAnyH_take (i := 2) (v := ?_) (by simp only [List.getElem?_toArray, List.getElem?_cons_zero, List.getElem?_cons_succ]; rfl) (by kernel_rfl) (by kernel_rfl) (by kernel_rfl) (by intro _ _ _ h; exact h) (Or.inl ⟨by rfl, ?_⟩) hHeld ?_
      rotate_left
      · (intro w hSw; (try dsimp only at hSw); go_simp; try with_reducible rfl)
      try simp only [Act.put, List.setIfInBounds_toArray, List.set_cons_zero, List.set_cons_succ]
      refine wpAnyH_take (i := 3) (v := ?_) (by simp only [List.getElem?_toArray, List.getElem?_cons_zero, List.getElem?_cons_succ]; rfl) (by kernel_rfl) (by kernel_rfl) (by kernel_rfl) (by intro _ _ _ h; exact h) (Or.inl ⟨by rfl, ?_⟩) hHeld ?_
      rotate_left
      · (intro w hSw; (try dsimp only at hSw); go_simp; try with_reducible rfl)
      try simp only [Act.put, List.setIfInBounds_toArray, List.set_cons_zero, List.set_cons_succ]
      refine wpAnyH_ready (rs := [4]) (by kernel_rfl) (by simp) ?_
      refine AllReadyH.cons (by simp only [List.getElem?_toArray, List.getElem?_cons_zero, List.getElem?_cons_succ]; rfl) (fun K hK => ?_) AllReadyH.nil
      rw [if_pos (by rfl)]
      refine wp_store_segK 35 (.tmp 23) (.tmp 20) rfl b4 39 rfl (u8l ka) rfl cs 42 N4.out HKLA.out (by rw [HLA.out, HL.out]; omega) (u8l_one ka) ?_
      intro wa ha9 ka9 sa9
      have Ba : Hid (Below w3.heap.size w3 wa) := Lib.hid (B39.out.drew.trans (ka9.below (fun z hz => by rw [hz]; exact HGE.out.1) B39.out.size))
      have P4 := Lib.hid ha9
      have P5 : Hid (wa.heap[b5]? = some (.cells cs.toArray 42 (0, 0))) := Lib.hid (ka9.heap N5.out (by have := HGE.out; omega))
      refine hK.out _ _ ⟨R2.out _ Ba.out, R3.out _ Ba.out⟩ (fun hHeld => ?_)
      clear hK K ha9 ka9 sa9
      try simp only [Act.put, List.setIfInBounds_toArray, List.set_cons_zero, List.set_cons_succ]
      refine wpAnyH_take (i := 5) (v := ?_) (by simp only [List.getElem?_toArray, List.getElem?_cons_zero, List.getElem?_cons_succ]; rfl) (by kernel_rfl) (by kernel_rfl) (by kernel_rfl) (by intro _ _ _ h; exact h) (Or.inl ⟨by rfl, ?_⟩) hHeld ?_
      rotate_left
      · (intro w hSw; (try dsimp only at hSw); go_simp; try with_reducible rfl)
      try simp only [Act.put, List.setIfInBounds_toArray, List.set_cons_zero, List.set_cons_succ]
      refine wpAnyH_take (i := 6) (v := ?_) (by simp only [List.getElem?_toArray, List.getElem?_cons_zero, List.getElem?_cons_succ]; rfl) (by kernel_rfl) (by kernel_rfl) (by kernel_rfl) (by intro _ _ _ h; exact h) (Or.inl ⟨by rfl, ?_⟩) hHeld ?_
      rotate_left
      · (intro w hSw; (try dsimp only at hSw); go_simp; try with_reducible rfl)
      try simp only [Act.put, List.setIfInBounds_toArray, List.set_cons_zero, List.set_cons_succ]
      refine wpAnyH_ready (rs := [7]) (by kernel_rfl) (by simp) ?_
      refine AllReadyH.cons (by simp only [List.getElem?_toArray, List.getElem?_cons_zero, List.getElem?_cons_succ]; rfl) (fun K hK => ?_) AllReadyH.nil
      rw [if_pos (by rfl)]
      refine wp_store_segK 35 (.tmp 25) (.tmp 21) rfl b5 39 rfl (u8l kb) rfl cs 42 P5.out HKLB.out (by rw [HLB.out, HL.out]; omega) (u8l_one kb) ?_
      intro wb hb9 kb9 sb9
      have Bb : Hid (Below w3.heap.size w3 wb) := Lib.hid (Ba.out.trans (kb9.below (fun z hz => by rw [hz]; have := HGE.out; omega) Ba.out.size))
      have Q4 : Hid (∀ wr, Below wb.heap.size wb wr → wr.rangeAt b4 0 (cellsIt (itX ka HKA.out))) := Lib.hid fun wr h => by
        have h4 : wb.heap[b4]? = some (.cells (splice cs 39 (u8l ka)).toArray 42 (0, 0)) := kb9.heap P4.out (by have := HGE.out; omega)
        rw [HSA.out] at h4
        exact range_of ((h.block b4 (heap_lt h4)).trans h4)
      have Q5 : Hid (∀ wr, Below wb.heap.size wb wr → wr.rangeAt b5 0 (cellsIt (itX kb HKB.out))) := Lib.hid fun wr h => by
        rw [HSB.out] at hb9
        exact range_of ((h.block b5 (heap_lt hb9)).trans hb9)
      refine hK.out _ _ ⟨R2.out _ Bb.out, R3.out _ Bb.out⟩ (fun hHeld => ?_)
      clear hK K hb9 kb9 sb9
      try simp only [Act.put, List.setIfInBounds_toArray, List.set_cons_zero, List.set_cons_succ]
      refine wpAnyH_done (by kernel_rfl) ?_ _
      clear hHeld
      clear N4 N5 B39 P4 P5 Ba HCS HSA HSB HSZ HL HO HLA HLB
      have HZA := Lib.hid (sizeIt0 (itX ka HKA.out))
      have HZB := Lib.hid (sizeIt0 (itX kb HKB.out))
      obtain ⟨eX, heX⟩ : ∃ eX : Nat → ElIt, eX = fun i => match i with | 0 => itX ka HKA.out | 1 => itX kb HKB.out | _ => itX ka HKA.out := ⟨_, rfl⟩
      obtain ⟨F8, hF8⟩ : ∃ F8 : Nat → List Value, F8 = fun i => cellsIt (eX i) := ⟨_, rfl⟩
      have f0 : cellsIt (itX ka HKA.out) = F8 0 := by rw [hF8, heX]; rfl
      have f1 : cellsIt (itX kb HKB.out) = F8 1 := by rw [hF8, heX]; rfl
      have f2 : F8 0 = F8 2 := by rw [hF8, heX]; rfl
      rw [f0] at Q4 HZA
      rw [f1] at Q5 HZB
      have F2 := Lib.hid f2
      have HF8 := Lib.hid hF8
      have HL8 : Hid (∀ k, k < 3 → (F8 k).length = 73) := Lib.hid (by rw [hF8]; exact fun k _ => lenIt _)
      clear f0 f1 f2 hF8 heX
      have HP8 : Hid (∀ x y z : Value, x = .agg (F8 0).toArray → y = .agg (F8 1).toArray → z = .agg (F8 0).toArray → ([((0 : Nat), x), (1, y), (2, z)] = (List.range 3).map fun i => (i, Value.agg (F8 i).toArray))) := Lib.hid fun x y z hx hy hz => by
        rw [hx, hy, hz]
        show [((0 : Nat), Value.agg (F8 0).toArray), (1, Value.agg (F8 1).toArray), (2, Value.agg (F8 0).toArray)] = [(0, Value.agg (F8 0).toArray), (1, Value.agg (F8 1).toArray), (2, Value.agg (F8 2).toArray)]
        rw [F2.out]
      go_upto_region 8 with fail
      go_step
      refine wpList_load_midG rfl 42 (.tmp 4) rfl b4 0 rfl (F8 0) _ (Q4.out _ (Below.refl _ _)) Try.underlying42 rfl HZA.out ?_
      try simp only [Act.put, List.setIfInBounds_toArray, List.set_cons_zero, List.set_cons_succ]
      refine wpList_load_midG rfl 42 (.tmp 5) rfl b5 0 rfl (F8 1) _ (Q5.out _ (Below.refl _ _)) Try.underlying42 rfl HZB.out ?_
      try simp only [Act.put, List.setIfInBounds_toArray, List.set_cons_zero, List.set_cons_succ]
      refine wpList_load_midG rfl 42 (.tmp 4) rfl b4 0 rfl (F8 0) _ (Q4.out _ (Below.refl _ _)) Try.underlying42 rfl HZA.out ?_
      try simp only [Act.put, List.setIfInBounds_toArray, List.set_cons_zero, List.set_cons_succ]
      refine wpList_sliceK rfl 22 42 3 73 #[(0, .tmp 26), (1, .tmp 27), (2, .tmp 28)] rfl F8 ?_ j0 (.agg zIt.toArray) Try.underlying22 HJ.out.1 HJ.out.2.1 HJ.out.2.2 HL8.out (by decide) (by decide) (by decide) ?_
      · simp only [List.map_toArray, List.map_cons, List.map_nil]; exact HP8.out _ _ _ rfl rfl rfl
      try simp only [Act.put, List.setIfInBounds_toArray, List.set_cons_zero, List.set_cons_succ]
      obtain ⟨wc, hwc⟩ : ∃ wc, wc = wb.alloc (.cells (flatS F8 3).toArray 42) := ⟨_, rfl⟩
      obtain ⟨sc, hsc⟩ : ∃ sc, sc = wb.heap.size := ⟨_, rfl⟩
      have Bc : Hid (Below w3.heap.size w3 wc) := Lib.hid (by rw [hwc]; exact Bb.out.alloc Bb.out.size _)
      have Sc : Hid (SArr wc wc.heap.size (some ⟨sc, 0, none⟩) 3 73 fun i => cellsIt (eX i)) := Lib.hid (lit_sarrI (n := 3) (by rw [hwc, hsc, HF8.out]; exact heap_new wb _))
      rw [← hwc, ← hsc]
      clear hwc hsc
      go_wp2_with fail
      refine (count3 eX _ 3 3 wc (fun h => by cases h) Sc.out).mono ?_
      rintro e wd ⟨rfl, hbd⟩
      have Bd := Lib.hid (Bc.out.trans (hbd.mono Bc.out.size))
      clear hbd Sc Bc Q4 Q5 HZA HZB HL8 HF8 HP8 F2
      obtain ⟨cA, hcA⟩ : ∃ cA : Nat → ElC, cA = fun j => match j with | 0 => ⟨⟨ka, 1⟩, ⟨HKA.out, wf1⟩⟩ | _ => ⟨⟨kb, 2⟩, ⟨HKB.out, wf2⟩⟩ := ⟨_, rfl⟩
      have wfi : (Lit.int .i64 (i : Int)).wf = true := wf_i64 (by omega)
      obtain ⟨cB, hcB⟩ : ∃ cB : Nat → ElC, cB = fun j => match j with | 0 => ⟨⟨kb, 1⟩, ⟨HKB.out, wf1⟩⟩ | 1 => ⟨⟨ka, 2⟩, ⟨HKA.out, wf2⟩⟩ | _ => ⟨⟨kb, (i : Int)⟩, ⟨HKB.out, wfi⟩⟩ := ⟨_, rfl⟩
      obtain ⟨FA, hFA⟩ : ∃ FA : Nat → List Value, FA = fun i => cellsC (cA i) := ⟨_, rfl⟩
      obtain ⟨FB, hFB⟩ : ∃ FB : Nat → List Value, FB = fun i => cellsC (cB i) := ⟨_, rfl⟩
      have BA0 : Hid (∀ u, BuildRun Try.prog 45 #[(0, .agg (u8l ka).toArray), (1, .int .i64 1)] u (.agg (FA 0).toArray)) := Lib.hid fun u => by rw [hFA, hcA]; exact buildCt ka HKA.out 1 u
      have BA1 : Hid (∀ u, BuildRun Try.prog 45 #[(0, .agg (u8l kb).toArray), (1, .int .i64 2)] u (.agg (FA 1).toArray)) := Lib.hid fun u => by rw [hFA, hcA]; exact buildCt kb HKB.out 2 u
      have BB0 : Hid (∀ u, BuildRun Try.prog 45 #[(0, .agg (u8l kb).toArray), (1, .int .i64 1)] u (.agg (FB 0).toArray)) := Lib.hid fun u => by rw [hFB, hcB]; exact buildCt kb HKB.out 1 u
      have BB1 : Hid (∀ u, BuildRun Try.prog 45 #[(0, .agg (u8l ka).toArray), (1, .int .i64 2)] u (.agg (FB 1).toArray)) := Lib.hid fun u => by rw [hFB, hcB]; exact buildCt ka HKA.out 2 u
      have BB2 : Hid (∀ u, BuildRun Try.prog 45 #[(0, .agg (u8l kb).toArray), (1, .int .i64 (i : Int))] u (.agg (FB 2).toArray)) := Lib.hid fun u => by rw [hFB, hcB]; exact buildCt kb HKB.out i u
      have LA : Hid (∀ k, k < 2 → (FA k).length = 33) := Lib.hid (by rw [hFA]; exact fun k _ => lenC _)
      have LB : Hid (∀ k, k < 3 → (FB k).length = 33) := Lib.hid (by rw [hFB]; exact fun k _ => lenC _)
      have EA := Lib.hid hFA
      have EB := Lib.hid hFB
      have HPA : Hid (∀ x y : Value, x = .agg (FA 0).toArray → y = .agg (FA 1).toArray → ([((0 : Nat), x), (1, y)] = (List.range 2).map fun i => (i, Value.agg (FA i).toArray))) := Lib.hid fun x y hx hy => by rw [hx, hy]; rfl
      have HPB : Hid (∀ x y z : Value, x = .agg (FB 0).toArray → y = .agg (FB 1).toArray → z = .agg (FB 2).toArray → ([((0 : Nat), x), (1, y), (2, z)] = (List.range 3).map fun i => (i, Value.agg (FB i).toArray))) := Lib.hid fun x y z hx hy hz => by rw [hx, hy, hz]; rfl
      clear hFA hFB hcA hcB wfi
      dsimp only
      repeat ((fail_if_success (refine wpList_load_midG rfl 35 (.tmp 2) rfl b 0 rfl (u8l ka) _ ?_ Try.underlying35 rfl HKLA.out ?_)); go_step)
      refine wpList_load_midG rfl 35 (.tmp 2) rfl b 0 rfl (u8l ka) _ (R2.out _ Bd.out) Try.underlying35 rfl HKLA.out ?_
      try simp only [Act.put, List.setIfInBounds_toArray, List.set_cons_zero, List.set_cons_succ]
      refine wpList_buildG rfl 45 [(0, .tmp 33), (1, .const (.int .i64 1))] rfl [(0, .agg (u8l ka).toArray), (1, .int .i64 1)] rfl _ (BA0.out _) ?_
      try simp only [Act.put, List.setIfInBounds_toArray, List.set_cons_zero, List.set_cons_succ]
      refine wpList_load_midG rfl 35 (.tmp 3) rfl b3 0 rfl (u8l kb) _ (R3.out _ Bd.out) Try.underlying35 rfl HKLB.out ?_
      try simp only [Act.put, List.setIfInBounds_toArray, List.set_cons_zero, List.set_cons_succ]
      refine wpList_buildG rfl 45 [(0, .tmp 35), (1, .const (.int .i64 2))] rfl [(0, .agg (u8l kb).toArray), (1, .int .i64 2)] rfl _ (BA1.out _) ?_
      try simp only [Act.put, List.setIfInBounds_toArray, List.set_cons_zero, List.set_cons_succ]
      refine wpList_sliceK rfl 25 45 2 33 #[(0, .tmp 34), (1, .tmp 36)] rfl FA ?_ i0 (.agg zC.toArray) Try.underlying25 HI.out.1 HI.out.2.1 HI.out.2.2 LA.out (by decide) (by decide) (by decide) ?_
      · simp only [List.map_toArray, List.map_cons, List.map_nil]; exact HPA.out _ _ rfl rfl
      try simp only [Act.put, List.setIfInBounds_toArray, List.set_cons_zero, List.set_cons_succ]
      obtain ⟨we, hwe⟩ : ∃ we, we = wd.alloc (.cells (flatS FA 2).toArray 45) := ⟨_, rfl⟩
      obtain ⟨se, hse⟩ : ∃ se, se = wd.heap.size := ⟨_, rfl⟩
      have Be : Hid (Below w3.heap.size w3 we) := Lib.hid (by rw [hwe]; exact Bd.out.alloc Bd.out.size _)
      have Se : Hid (SArr we we.heap.size (some ⟨se, 0, none⟩) 2 33 fun i => cellsC (cA i)) := Lib.hid (lit_sarr (n := 2) (by rw [hwe, hse, EA.out]; exact heap_new wd _))
      rw [← hwe, ← hse]
      clear hwe hse
      refine wpList_load_midG rfl 35 (.tmp 3) rfl b3 0 rfl (u8l kb) _ (R3.out _ Be.out) Try.underlying35 rfl HKLB.out ?_
      try simp only [Act.put, List.setIfInBounds_toArray, List.set_cons_zero, List.set_cons_succ]
      refine wpList_buildG rfl 45 [(0, .tmp 38), (1, .const (.int .i64 1))] rfl [(0, .agg (u8l kb).toArray), (1, .int .i64 1)] rfl _ (BB0.out _) ?_
      try simp only [Act.put, List.setIfInBounds_toArray, List.set_cons_zero, List.set_cons_succ]
      refine wpList_load_midG rfl 35 (.tmp 2) rfl b 0 rfl (u8l ka) _ (R2.out _ Be.out) Try.underlying35 rfl HKLA.out ?_
      try simp only [Act.put, List.setIfInBounds_toArray, List.set_cons_zero, List.set_cons_succ]
      refine wpList_buildG rfl 45 [(0, .tmp 40), (1, .const (.int .i64 2))] rfl [(0, .agg (u8l ka).toArray), (1, .int .i64 2)] rfl _ (BB1.out _) ?_
      try simp only [Act.put, List.setIfInBounds_toArray, List.set_cons_zero, List.set_cons_succ]
      refine wpList_load_midG rfl 35 (.tmp 3) rfl b3 0 rfl (u8l kb) _ (R3.out _ Be.out) Try.underlying35 rfl HKLB.out ?_
      try simp only [Act.put, List.setIfInBounds_toArray, List.set_cons_zero, List.set_cons_succ]
      refine wpList_moveG rfl (.tmp 1) rfl (.int .i64 (i : Int)) rfl ?_
      try simp only [Act.put, List.setIfInBounds_toArray, List.set_cons_zero, List.set_cons_succ]
      refine wpList_buildG rfl 45 [(0, .tmp 42), (1, .tmp 43)] rfl [(0, .agg (u8l kb).toArray), (1, .int .i64 (i : Int))] rfl _ (BB2.out _) ?_
      try simp only [Act.put, List.setIfInBounds_toArray, List.set_cons_zero, List.set_cons_succ]
      refine wpList_sliceK rfl 25 45 3 33 #[(0, .tmp 39), (1, .tmp 41), (2, .tmp 44)] rfl FB ?_ i0 (.agg zC.toArray) Try.underlying25 HI.out.1 HI.out.2.1 HI.out.2.2 LB.out (by decide) (by decide) (by decide) ?_
      · simp only [List.map_toArray, List.map_cons, List.map_nil]; exact HPB.out _ _ _ rfl rfl rfl
      try simp only [Act.put, List.setIfInBounds_toArray, List.set_cons_zero, List.set_cons_succ]
      obtain ⟨wf, hwf⟩ : ∃ wf, wf = we.alloc (.cells (flatS FB 3).toArray 45) := ⟨_, rfl⟩
      obtain ⟨sf, hsf⟩ : ∃ sf, sf = we.heap.size := ⟨_, rfl⟩
      have Bf : Hid (Below w3.heap.size w3 wf) := Lib.hid (by rw [hwf]; exact Be.out.alloc Be.out.size _)
      have Sf : Hid (SArr wf wf.heap.size (some ⟨sf, 0, none⟩) 3 33 fun i => cellsC (cB i)) := Lib.hid (lit_sarr (n := 3) (by rw [hwf, hsf, EB.out]; exact heap_new we _))
      have Sg : Hid (SArr wf wf.heap.size (some ⟨se, 0, none⟩) 2 33 fun i => cellsC (cA i)) := Lib.hid (by
        have hbf : Below we.heap.size we wf := by rw [hwf]; exact (Below.refl _ _).alloc (Nat.le_refl _) _
        exact (Se.out.below hbf (Nat.le_refl _)).more hbf.size)
      rw [← hwf, ← hsf]
      clear hwf hsf Se
      go_wp2_with fail
      refine (delta4 cA cB _ _ 2 2 3 3 wf (fun h => by cases h) (fun h => by cases h) Sg.out Sf.out).mono ?_
      rintro e wg ⟨rfl, hbg⟩
      have Bg := Lib.hid (B3.out.trans ((Bf.out.trans (hbg.mono Bf.out.size)).mono B3.out.size))
      clear hbg
      go_wp2_with fail
      go_roundw
      case rel => exact ⟨i + 1, by omega, by go_num, Bg.out⟩
      case measure => simp [intOf]; omega
    · obtain rfl : i = 32 := by omega
      go_wp2_with fail
      obtain ⟨bN, hbN⟩ : ∃ bN, bN = wr.heap.size := ⟨_, rfl⟩
      obtain ⟨wN, hwN⟩ : ∃ wN, wN = wr.alloc (.cells #[.int .i64 (-9223372036854775808), .int .i64 (-1), .int .i64 0, .int .i64 1, .int .i64 9223372036854775807] 3) := ⟨_, rfl⟩
      have KN : Hid (wN.heap[bN]? = some (.cells #[.int .i64 (nums 0), .int .i64 (nums 1), .int .i64 (nums 2), .int .i64 (nums 3), .int .i64 (nums 4)] 3 (0, 0))) := Lib.hid (by rw [hwN]; exact heap_new_at (w := wr) _ hbN)
      have BN : Hid (Below W.heap.size W wN) := Lib.hid (by rw [hwN]; exact HB.out.alloc HB.out.size _)
      rw [← hwN, ← hbN]
      clear hbN hwN HB
      go_loopw [7] (fun v wr => ∃ j : Nat, j ≤ 5 ∧ v = .int .i64 j ∧ Below W.heap.size W wr ∧ wr.heap[bN]? = some (.cells #[.int .i64 (nums 0), .int .i64 (nums 1), .int .i64 (nums 2), .int .i64 (nums 3), .int .i64 (nums 4)] 3 (0, 0))) (fun v _ => 5 - (intOf v).toNat)
      case atStart => exact ⟨0, Nat.zero_le _, rfl, BN.out, KN.out⟩
      case round =>
        clear BN KN
        obtain ⟨i, hi, rfl, hbw, hke⟩ := hrel
        have B2 := Lib.hid hbw
        have KE := Lib.hid hke
        clear hbw hke
        by_cases hi5 : i < 5
        · go_wp2_with fail
          go_loopw [8] (fun v wr => ∃ j : Nat, j ≤ 5 ∧ v = .int .i64 j ∧ Below W.heap.size W wr ∧ wr.heap[bN]? = some (.cells #[.int .i64 (nums 0), .int .i64 (nums 1), .int .i64 (nums 2), .int .i64 (nums 3), .int .i64 (nums 4)] 3 (0, 0))) (fun v _ => 5 - (intOf v).toNat)
          case atStart => exact ⟨0, Nat.zero_le _, rfl, B2.out, KE.out⟩
          case round =>
            clear B2 KE
            obtain ⟨k, hk, rfl, hbw, hke⟩ := hrel
            have B2 := Lib.hid hbw
            have KE := Lib.hid hke
            clear hbw hke
            by_cases hk5 : k < 5
            · go_wp2_with fail
              obtain ⟨a, hna⟩ : ∃ a, a = nums i := ⟨_, rfl⟩
              obtain ⟨b, hnb⟩ : ∃ b, b = nums k := ⟨_, rfl⟩
              have WA : Hid ((Lit.int .i64 a).wf = true) := Lib.hid (hna ▸ nums_wf i)
              have WB : Hid ((Lit.int .i64 b).wf = true) := Lib.hid (hnb ▸ nums_wf k)
              obtain ⟨E1, hE1⟩ : ∃ E, E = two 1 2 a b (by omega) (by omega) WA.out WB.out := ⟨_, rfl⟩
              obtain ⟨E2, hE2⟩ : ∃ E, E = two 2 2 a b (by omega) (by omega) WA.out WB.out := ⟨_, rfl⟩
              obtain ⟨F1, hF1⟩ : ∃ F : Nat → List Value, F = fun j => cellsC (E1 j) := ⟨_, rfl⟩
              obtain ⟨F2, hF2⟩ : ∃ F : Nat → List Value, F = fun j => cellsC (E2 j) := ⟨_, rfl⟩
              have HF1 := Lib.hid hF1
              have HF2 := Lib.hid hF2
              have HL1 : Hid (∀ k, k < 2 → (F1 k).length = 33) := Lib.hid (by rw [hF1]; exact fun k _ => lenC _)
              have HL2 : Hid (∀ k, k < 2 → (F2 k).length = 33) := Lib.hid (by rw [hF2]; exact fun k _ => lenC _)
              have HP1 : Hid (∀ x y : Value, x = .agg (cellsC (ctE 1 a (by omega) WA.out)).toArray → y = .agg (cellsC (ctE 2 b (by omega) WB.out)).toArray → ([((0 : Nat), x), (1, y)] = (List.range 2).map fun i => (i, Value.agg (F1 i).toArray))) := Lib.hid fun x y hx hy => by rw [hx, hy, hF1, hE1]; rfl
              have HP2 : Hid (∀ x y : Value, x = .agg (cellsC (ctE 2 a (by omega) WA.out)).toArray → y = .agg (cellsC (ctE 2 b (by omega) WB.out)).toArray → ([((0 : Nat), x), (1, y)] = (List.range 2).map fun i => (i, Value.agg (F2 i).toArray))) := Lib.hid fun x y hx hy => by rw [hx, hy, hF2, hE2]; rfl
              have i1 : (0 : Int) ≤ i := by omega
              have i2 : (i : Int) < 5 := by omega
              have j1 : (0 : Int) ≤ k := by omega
              have j2 : (k : Int) < 5 := by omega
              obtain ⟨w0, hw0⟩ : ∃ w0 : World, w0 = wr := ⟨_, rfl⟩
              have HC : Hid (∀ W, Below w0.heap.size w0 W → (fun w' : World => w'.cell? ⟨bN, i, none⟩ = some (.int .i64 a) ∧ w'.cell? ⟨bN, k, none⟩ = some (.int .i64 b)) W) := Lib.hid (fun W h => by
                subst hw0
                exact ⟨hna ▸ loopB W w0 bN KE.out i W hi5 h, hnb ▸ loopB W w0 bN KE.out k W hk5 h⟩)
              have HD0 : Hid (Below W.heap.size W w0) := Lib.hid (hw0 ▸ B2.out)
              have HE0 : Hid (w0.heap[bN]? = some (.cells #[.int .i64 (nums 0), .int .i64 (nums 1), .int .i64 (nums 2), .int .i64 (nums 3), .int .i64 (nums 4)] 3 (0, 0))) := Lib.hid (hw0 ▸ KE.out)
              have HB1 : Hid (Below w0.heap.size w0 (w0.drewN 1)) := Lib.hid (below_drewN (Below.refl _ _) 1)
              rw [← hw0]
              clear hw0 B2 KE hna hnb hE1 hE2 hF1 hF2
              refine wp_region_held_drew (S := (fun w' : World => w'.cell? ⟨bN, i, none⟩ = some (.int .i64 a) ∧ w'.cell? ⟨bN, k, none⟩ = some (.int .i64 b))) (by kernel_rfl) (HC.out _ HB1.out) (fun hHeld => ?_)
              refine wpAnyH_take (i := 0) (v := ?_) (by simp only [List.getElem?_toArray, List.getElem?_cons_zero]; rfl) (by kernel_rfl) (by kernel_rfl) (by kernel_rfl) (by intro _ _ _ h; exact h) (Or.inl ⟨by rfl, ?_⟩) hHeld ?_
              rotate_left
              · (intro w hSw; (try dsimp only at hSw); go_simp; try with_reducible rfl)
              try simp only [Act.put, List.setIfInBounds_toArray, List.set_cons_zero, List.set_cons_succ]
              refine wpAnyH_take (i := 1) (v := ?_) (by simp only [List.getElem?_toArray, List.getElem?_cons_zero, List.getElem?_cons_succ]; rfl) (by kernel_rfl) (by kernel_rfl) (by kernel_rfl) (by intro _ _ _ h; exact h) (Or.inl ⟨by rfl, ?_⟩) hHeld ?_
              rotate_left
              · (intro w hSw; (try dsimp only at hSw); go_simp; try with_reducible rfl)
              try simp only [Act.put, List.setIfInBounds_toArray, List.set_cons_zero, List.set_cons_succ]
              refine wpAnyH_take (i := 2) (v := ?_) (by simp only [List.getElem?_toArray, List.getElem?_cons_zero, List.getElem?_cons_succ]; rfl) (by kernel_rfl) (by kernel_rfl) (by kernel_rfl) (by intro _ _ _ h; exact h) (Or.inl ⟨by rfl, ?_⟩) hHeld ?_
              rotate_left
              · (intro w hSw; (try dsimp only at hSw); go_simp; try with_reducible rfl)
              try simp only [Act.put, List.setIfInBounds_toArray, List.set_cons_zero, List.set_cons_succ]
              refine wpAnyH_take (i := 3) (v := ?_) (by simp only [List.getElem?_toArray, List.getElem?_cons_zero, List.getElem?_cons_succ]; rfl) (by kernel_rfl) (by kernel_rfl) (by kernel_rfl) (by intro _ _ _ h; exact h) (Or.inl ⟨by rfl, ?_⟩) hHeld ?_
              rotate_left
              · (intro w hSw; (try dsimp only at hSw); go_simp; try with_reducible rfl)
              try simp only [Act.put, List.setIfInBounds_toArray, List.set_cons_zero, List.set_cons_succ]
              refine wpAnyH_take (i := 5) (v := ?_) (by simp only [List.getElem?_toArray, List.getElem?_cons_zero, List.getElem?_cons_succ]; rfl) (by kernel_rfl) (by kernel_rfl) (by kernel_rfl) (by intro _ _ _ h; exact h) (Or.inl ⟨by rfl, ?_⟩) hHeld ?_
              rotate_left
              · (intro w hSw; (try dsimp only at hSw); go_simp; try with_reducible rfl)
              try simp only [Act.put, List.setIfInBounds_toArray, List.set_cons_zero, List.set_cons_succ]
              refine wpAnyH_take (i := 6) (v := ?_) (by simp only [List.getElem?_toArray, List.getElem?_cons_zero, List.getElem?_cons_succ]; rfl) (by kernel_rfl) (by kernel_rfl) (by kernel_rfl) (by intro _ _ _ h; exact h) (Or.inl ⟨by rfl, ?_⟩) hHeld ?_
              rotate_left
              · (intro w hSw; (try dsimp only at hSw); go_simp; try with_reducible rfl)
              try simp only [Act.put, List.setIfInBounds_toArray, List.set_cons_zero, List.set_cons_succ]
              refine wpAnyH_take (i := 7) (v := ?_) (by simp only [List.getElem?_toArray, List.getElem?_cons_zero, List.getElem?_cons_succ]; rfl) (by kernel_rfl) (by kernel_rfl) (by kernel_rfl) (by intro _ _ _ h; exact h) (Or.inl ⟨by rfl, ?_⟩) hHeld ?_
              rotate_left
              · (intro w hSw; (try dsimp only at hSw); go_simp; try with_reducible rfl)
              try simp only [Act.put, List.setIfInBounds_toArray, List.set_cons_zero, List.set_cons_succ]
              refine wpAnyH_take (i := 8) (v := ?_) (by simp only [List.getElem?_toArray, List.getElem?_cons_zero, List.getElem?_cons_succ]; rfl) (by kernel_rfl) (by kernel_rfl) (by kernel_rfl) (by intro _ _ _ h; exact h) (Or.inl ⟨by rfl, ?_⟩) hHeld ?_
              rotate_left
              · (intro w hSw; (try dsimp only at hSw); go_simp; try with_reducible rfl)
              try simp only [Act.put, List.setIfInBounds_toArray, List.set_cons_zero, List.set_cons_succ]
              refine wpAnyH_take (i := 11) (v := ?_) (by simp only [List.getElem?_toArray, List.getElem?_cons_zero, List.getElem?_cons_succ]; rfl) (by kernel_rfl) (by kernel_rfl) (by kernel_rfl) (by intro _ _ _ h; exact h) (Or.inl ⟨by rfl, ?_⟩) hHeld ?_
              rotate_left
              · (intro w hSw; (try dsimp only at hSw); go_simp; try with_reducible rfl)
              try simp only [Act.put, List.setIfInBounds_toArray, List.set_cons_zero, List.set_cons_succ]
              refine wpAnyH_take (i := 12) (v := ?_) (by simp only [List.getElem?_toArray, List.getElem?_cons_zero, List.getElem?_cons_succ]; rfl) (by kernel_rfl) (by kernel_rfl) (by kernel_rfl) (by intro _ _ _ h; exact h) (Or.inl ⟨by rfl, ?_⟩) hHeld ?_
              rotate_left
              · (intro w hSw; (try dsimp only at hSw); go_simp; try with_reducible rfl)
              try simp only [Act.put, List.setIfInBounds_toArray, List.set_cons_zero, List.set_cons_succ]
              refine wpAnyH_take (i := 13) (v := ?_) (by simp only [List.getElem?_toArray, List.getElem?_cons_zero, List.getElem?_cons_succ]; rfl) (by kernel_rfl) (by kernel_rfl) (by kernel_rfl) (by intro _ _ _ h; exact h) (Or.inl ⟨by rfl, ?_⟩) hHeld ?_
              rotate_left
              · (intro w hSw; (try dsimp only at hSw); go_simp; try with_reducible rfl)
              try simp only [Act.put, List.setIfInBounds_toArray, List.set_cons_zero, List.set_cons_succ]
              refine wpAnyH_take (i := 14) (v := ?_) (by simp only [List.getElem?_toArray, List.getElem?_cons_zero, List.getElem?_cons_succ]; rfl) (by kernel_rfl) (by kernel_rfl) (by kernel_rfl) (by intro _ _ _ h; exact h) (Or.inl ⟨by rfl, ?_⟩) hHeld ?_
              rotate_left
              · (intro w hSw; (try dsimp only at hSw); go_simp; try with_reducible rfl)
              try simp only [Act.put, List.setIfInBounds_toArray, List.set_cons_zero, List.set_cons_succ]
              refine wpAnyH_take (i := 16) (v := ?_) (by simp only [List.getElem?_toArray, List.getElem?_cons_zero, List.getElem?_cons_succ]; rfl) (by kernel_rfl) (by kernel_rfl) (by kernel_rfl) (by intro _ _ _ h; exact h) (Or.inl ⟨by rfl, ?_⟩) hHeld ?_
              rotate_left
              · (intro w hSw; (try dsimp only at hSw); go_simp; try with_reducible rfl)
              try simp only [Act.put, List.setIfInBounds_toArray, List.set_cons_zero, List.set_cons_succ]
              refine wpAnyH_take (i := 17) (v := ?_) (by simp only [List.getElem?_toArray, List.getElem?_cons_zero, List.getElem?_cons_succ]; rfl) (by kernel_rfl) (by kernel_rfl) (by kernel_rfl) (by intro _ _ _ h; exact h) (Or.inl ⟨by rfl, ?_⟩) hHeld ?_
              rotate_left
              · (intro w hSw; (try dsimp only at hSw); go_simp; try with_reducible rfl)
              try simp only [Act.put, List.setIfInBounds_toArray, List.set_cons_zero, List.set_cons_succ]
              refine wpAnyH_take (i := 18) (v := ?_) (by simp only [List.getElem?_toArray, List.getElem?_cons_zero, List.getElem?_cons_succ]; rfl) (by kernel_rfl) (by kernel_rfl) (by kernel_rfl) (by intro _ _ _ h; exact h) (Or.inl ⟨by rfl, ?_⟩) hHeld ?_
              rotate_left
              · (intro w hSw; (try dsimp only at hSw); go_simp; try with_reducible rfl)
              try simp only [Act.put, List.setIfInBounds_toArray, List.set_cons_zero, List.set_cons_succ]
              refine wpAnyH_take (i := 19) (v := ?_) (by simp only [List.getElem?_toArray, List.getElem?_cons_zero, List.getElem?_cons_succ]; rfl) (by kernel_rfl) (by kernel_rfl) (by kernel_rfl) (by intro _ _ _ h; exact h) (Or.inl ⟨by rfl, ?_⟩) hHeld ?_
              rotate_left
              · (intro w hSw; (try dsimp only at hSw); go_simp; try with_reducible rfl)
              try simp only [Act.put, List.setIfInBounds_toArray, List.set_cons_zero, List.set_cons_succ]
              refine wpAnyH_ready (rs := [4]) (by kernel_rfl) (by simp) ?_
              refine AllReadyH.cons (by simp only [List.getElem?_toArray, List.getElem?_cons_zero, List.getElem?_cons_succ]; rfl) (fun K hK => ?_) AllReadyH.nil
              rw [if_pos (by rfl)]
              go_simp
              refine (count20 1 a (by omega) WA.out _).mono ?_
              rintro e w2 ⟨rfl, hb⟩
              have HB2 := Lib.hid (HB1.out.trans (hb.mono HB1.out.size))
              clear hb
              refine hK.out _ _ (HC.out _ HB2.out) (fun hHeld => ?_)
              clear hK K
              try simp only [Act.put, List.setIfInBounds_toArray, List.set_cons_zero, List.set_cons_succ]
              refine wpAnyH_ready (rs := [9]) (by kernel_rfl) (by simp) ?_
              refine AllReadyH.cons (by simp only [List.getElem?_toArray, List.getElem?_cons_zero, List.getElem?_cons_succ]; rfl) (fun K hK => ?_) AllReadyH.nil
              rw [if_pos (by rfl)]
              go_simp
              refine (count20 2 b (by omega) WB.out _).mono ?_
              rintro e w3 ⟨rfl, hb⟩
              have HB3 := Lib.hid (HB2.out.trans (hb.mono HB2.out.size))
              clear hb
              refine hK.out _ _ (HC.out _ HB3.out) (fun hHeld => ?_)
              clear hK K
              try simp only [Act.put, List.setIfInBounds_toArray, List.set_cons_zero, List.set_cons_succ]
              refine wpAnyH_ready (rs := [10, 15]) (by kernel_rfl) (by simp) ?_
              refine AllReadyH.cons (by simp only [List.getElem?_toArray, List.getElem?_cons_zero, List.getElem?_cons_succ]; rfl) (fun K hK => ?_) (AllReadyH.cons (by simp only [List.getElem?_toArray, List.getElem?_cons_zero, List.getElem?_cons_succ]; rfl) (fun K hK => ?_) AllReadyH.nil)
              · rw [if_pos (by rfl)]
                refine wp_sliceK 25 45 2 33 #[(0, .tmp 62), (1, .tmp 67)] rfl F1 ?_ i0 (.agg zC.toArray) Try.underlying25 HI.out.1 HI.out.2.1 HI.out.2.2 HL1.out (by decide) (by decide) (by decide) ?_
                · simp only [List.map_toArray, List.map_cons, List.map_nil]; exact HP1.out _ _ rfl rfl
                intro w4 hb hh hz
                have HB4 := Lib.hid (HB3.out.trans (hb.mono HB3.out.size))
                obtain ⟨s1, hs1⟩ : ∃ s, s = w3.heap.size := ⟨_, rfl⟩
                rw [← hs1] at hh ⊢
                have S14 : Hid (SArr w4 w4.heap.size (some ⟨s1, 0, none⟩) 2 33 fun j => cellsC (E1 j)) := Lib.hid (lit_sarr (n := 2) (by rw [HF1.out] at hh; exact hh))
                clear hb hh hz hs1
                refine hK.out _ _ (HC.out _ HB4.out) (fun hHeld => ?_)
                clear hK K
                try simp only [Act.put, List.setIfInBounds_toArray, List.set_cons_zero, List.set_cons_succ]
                refine wpAnyH_ready (rs := [15]) (by kernel_rfl) (by simp) ?_
                refine AllReadyH.cons (by simp only [List.getElem?_toArray, List.getElem?_cons_zero, List.getElem?_cons_succ]; rfl) (fun K hK => ?_) AllReadyH.nil
                rw [if_pos (by rfl)]
                go_simp
                refine (count20 2 a (by omega) WA.out _).mono ?_
                rintro e w5 ⟨rfl, hb⟩
                have HB5 := Lib.hid (HB4.out.trans (hb.mono HB4.out.size))
                have S15 := Lib.hid ((S14.out.below hb (Nat.le_refl _)).more hb.size)
                clear hb
                refine hK.out _ _ (HC.out _ HB5.out) (fun hHeld => ?_)
                clear hK K
                try simp only [Act.put, List.setIfInBounds_toArray, List.set_cons_zero, List.set_cons_succ]
                refine wpAnyH_ready (rs := [20]) (by kernel_rfl) (by simp) ?_
                refine AllReadyH.cons (by simp only [List.getElem?_toArray, List.getElem?_cons_zero, List.getElem?_cons_succ]; rfl) (fun K hK => ?_) AllReadyH.nil
                rw [if_pos (by rfl)]
                go_simp
                refine (count20 2 b (by omega) WB.out _).mono ?_
                rintro e w6 ⟨rfl, hb⟩
                have HB6 := Lib.hid (HB5.out.trans (hb.mono HB5.out.size))
                have S16 := Lib.hid ((S15.out.below hb (Nat.le_refl _)).more hb.size)
                clear hb
                refine hK.out _ _ (HC.out _ HB6.out) (fun hHeld => ?_)
                clear hK K
                try simp only [Act.put, List.setIfInBounds_toArray, List.set_cons_zero, List.set_cons_succ]
                refine wpAnyH_ready (rs := [21]) (by kernel_rfl) (by simp) ?_
                refine AllReadyH.cons (by simp only [List.getElem?_toArray, List.getElem?_cons_zero, List.getElem?_cons_succ]; rfl) (fun K hK => ?_) AllReadyH.nil
                rw [if_pos (by rfl)]
                refine wp_sliceK 25 45 2 33 #[(0, .tmp 73), (1, .tmp 78)] rfl F2 ?_ i0 (.agg zC.toArray) Try.underlying25 HI.out.1 HI.out.2.1 HI.out.2.2 HL2.out (by decide) (by decide) (by decide) ?_
                · simp only [List.map_toArray, List.map_cons, List.map_nil]; exact HP2.out _ _ rfl rfl
                intro w7 hb hh hz
                have HB7 := Lib.hid (HB6.out.trans (hb.mono HB6.out.size))
                obtain ⟨s2, hs2⟩ : ∃ s, s = w6.heap.size := ⟨_, rfl⟩
                rw [← hs2] at hh ⊢
                have S27 : Hid (SArr w7 w7.heap.size (some ⟨s2, 0, none⟩) 2 33 fun j => cellsC (E2 j)) := Lib.hid (lit_sarr (n := 2) (by rw [HF2.out] at hh; exact hh))
                have S17 := Lib.hid ((S16.out.below hb (Nat.le_refl _)).more hb.size)
                clear hb hh hz hs2
                refine hK.out _ _ (HC.out _ HB7.out) (fun hHeld => ?_)
                clear hK K
                try simp only [Act.put, List.setIfInBounds_toArray, List.set_cons_zero, List.set_cons_succ]
                refine wpAnyH_ready (rs := [22]) (by kernel_rfl) (by simp) ?_
                refine AllReadyH.cons (by simp only [List.getElem?_toArray, List.getElem?_cons_zero, List.getElem?_cons_succ]; rfl) (fun K hK => ?_) AllReadyH.nil
                rw [if_pos (by rfl)]
                go_simp
                refine (delta4 E1 E2 _ _ 2 2 2 2 w7 (fun h => by cases h) (fun h => by cases h) S17.out S27.out).mono ?_
                rintro e w8 ⟨rfl, hb⟩
                have HB8 := Lib.hid (HB7.out.trans (hb.mono HB7.out.size))
                clear hb
                refine hK.out _ _ (HC.out _ HB8.out) (fun hHeld => ?_)
                clear hK K
                try simp only [Act.put, List.setIfInBounds_toArray, List.set_cons_zero, List.set_cons_succ]
                refine wpAnyH_take (i := 23) (v := ?_) (by simp only [List.getElem?_toArray, List.getElem?_cons_zero, List.getElem?_cons_succ]; rfl) (by kernel_rfl) (by kernel_rfl) (by kernel_rfl) (by intro _ _ _ h; exact h) (Or.inl ⟨by rfl, ?_⟩) hHeld ?_
                rotate_left
                · (intro w hSw; (try dsimp only at hSw); go_simp; try with_reducible rfl)
                try simp only [Act.put, List.setIfInBounds_toArray, List.set_cons_zero, List.set_cons_succ]
                refine wpAnyH_done (by kernel_rfl) ?_ _
                clear hHeld
                go_wp2_with fail
                go_roundw
                case rel => exact ⟨k + 1, by omega, by go_num, HD0.out.trans (HB8.out.mono HD0.out.size), (HB8.out.block bN (heap_lt HE0.out)).trans HE0.out⟩
                case measure => simp [intOf]; omega
              · rw [if_pos (by rfl)]
                go_simp
                refine (count20 2 a (by omega) WA.out _).mono ?_
                rintro e w4 ⟨rfl, hb⟩
                have HB4 := Lib.hid (HB3.out.trans (hb.mono HB3.out.size))
                clear hb
                refine hK.out _ _ (HC.out _ HB4.out) (fun hHeld => ?_)
                clear hK K
                try simp only [Act.put, List.setIfInBounds_toArray, List.set_cons_zero, List.set_cons_succ]
                refine wpAnyH_ready (rs := [10, 20]) (by kernel_rfl) (by simp) ?_
                refine AllReadyH.cons (by simp only [List.getElem?_toArray, List.getElem?_cons_zero, List.getElem?_cons_succ]; rfl) (fun K hK => ?_) (AllReadyH.cons (by simp only [List.getElem?_toArray, List.getElem?_cons_zero, List.getElem?_cons_succ]; rfl) (fun K hK => ?_) AllReadyH.nil)
                · rw [if_pos (by rfl)]
                  refine wp_sliceK 25 45 2 33 #[(0, .tmp 62), (1, .tmp 67)] rfl F1 ?_ i0 (.agg zC.toArray) Try.underlying25 HI.out.1 HI.out.2.1 HI.out.2.2 HL1.out (by decide) (by decide) (by decide) ?_
                  · simp only [List.map_toArray, List.map_cons, List.map_nil]; exact HP1.out _ _ rfl rfl
                  intro w5 hb hh hz
                  have HB5 := Lib.hid (HB4.out.trans (hb.mono HB4.out.size))
                  obtain ⟨s1, hs1⟩ : ∃ s, s = w4.heap.size := ⟨_, rfl⟩
                  rw [← hs1] at hh ⊢
                  have S15 : Hid (SArr w5 w5.heap.size (some ⟨s1, 0, none⟩) 2 33 fun j => cellsC (E1 j)) := Lib.hid (lit_sarr (n := 2) (by rw [HF1.out] at hh; exact hh))
                  clear hb hh hz hs1
                  refine hK.out _ _ (HC.out _ HB5.out) (fun hHeld => ?_)
                  clear hK K
                  try simp only [Act.put, List.setIfInBounds_toArray, List.set_cons_zero, List.set_cons_succ]
                  refine wpAnyH_ready (rs := [20]) (by kernel_rfl) (by simp) ?_
                  refine AllReadyH.cons (by simp only [List.getElem?_toArray, List.getElem?_cons_zero, List.getElem?_cons_succ]; rfl) (fun K hK => ?_) AllReadyH.nil
                  rw [if_pos (by rfl)]
                  go_simp
                  refine (count20 2 b (by omega) WB.out _).mono ?_
                  rintro e w6 ⟨rfl, hb⟩
                  have HB6 := Lib.hid (HB5.out.trans (hb.mono HB5.out.size))
                  have S16 := Lib.hid ((S15.out.below hb (Nat.le_refl _)).more hb.size)
                  clear hb
                  refine hK.out _ _ (HC.out _ HB6.out) (fun hHeld => ?_)
                  clear hK K
                  try simp only [Act.put, List.setIfInBounds_toArray, List.set_cons_zero, List.set_cons_succ]
                  refine wpAnyH_ready (rs := [21]) (by kernel_rfl) (by simp) ?_
                  refine AllReadyH.cons (by simp only [List.getElem?_toArray, List.getElem?_cons_zero, List.getElem?_cons_succ]; rfl) (fun K hK => ?_) AllReadyH.nil
                  rw [if_pos (by rfl)]
                  refine wp_sliceK 25 45 2 33 #[(0, .tmp 73), (1, .tmp 78)] rfl F2 ?_ i0 (.agg zC.toArray) Try.underlying25 HI.out.1 HI.out.2.1 HI.out.2.2 HL2.out (by decide) (by decide) (by decide) ?_
                  · simp only [List.map_toArray, List.map_cons, List.map_nil]; exact HP2.out _ _ rfl rfl
                  intro w7 hb hh hz
                  have HB7 := Lib.hid (HB6.out.trans (hb.mono HB6.out.size))
                  obtain ⟨s2, hs2⟩ : ∃ s, s = w6.heap.size := ⟨_, rfl⟩
                  rw [← hs2] at hh ⊢
                  have S27 : Hid (SArr w7 w7.heap.size (some ⟨s2, 0, none⟩) 2 33 fun j => cellsC (E2 j)) := Lib.hid (lit_sarr (n := 2) (by rw [HF2.out] at hh; exact hh))
                  have S17 := Lib.hid ((S16.out.below hb (Nat.le_refl _)).more hb.size)
                  clear hb hh hz hs2
                  refine hK.out _ _ (HC.out _ HB7.out) (fun hHeld => ?_)
                  clear hK K
                  try simp only [Act.put, List.setIfInBounds_toArray, List.set_cons_zero, List.set_cons_succ]
                  refine wpAnyH_ready (rs := [22]) (by kernel_rfl) (by simp) ?_
                  refine AllReadyH.cons (by simp only [List.getElem?_toArray, List.getElem?_cons_zero, List.getElem?_cons_succ]; rfl) (fun K hK => ?_) AllReadyH.nil
                  rw [if_pos (by rfl)]
                  go_simp
                  refine (delta4 E1 E2 _ _ 2 2 2 2 w7 (fun h => by cases h) (fun h => by cases h) S17.out S27.out).mono ?_
                  rintro e w8 ⟨rfl, hb⟩
                  have HB8 := Lib.hid (HB7.out.trans (hb.mono HB7.out.size))
                  clear hb
                  refine hK.out _ _ (HC.out _ HB8.out) (fun hHeld => ?_)
                  clear hK K
                  try simp only [Act.put, List.setIfInBounds_toArray, List.set_cons_zero, List.set_cons_succ]
                  refine wpAnyH_take (i := 23) (v := ?_) (by simp only [List.getElem?_toArray, List.getElem?_cons_zero, List.getElem?_cons_succ]; rfl) (by kernel_rfl) (by kernel_rfl) (by kernel_rfl) (by intro _ _ _ h; exact h) (Or.inl ⟨by rfl, ?_⟩) hHeld ?_
                  rotate_left
                  · (intro w hSw; (try dsimp only at hSw); go_simp; try with_reducible rfl)
                  try simp only [Act.put, List.setIfInBounds_toArray, List.set_cons_zero, List.set_cons_succ]
                  refine wpAnyH_done (by kernel_rfl) ?_ _
                  clear hHeld
                  go_wp2_with fail
                  go_roundw
                  case rel => exact ⟨k + 1, by omega, by go_num, HD0.out.trans (HB8.out.mono HD0.out.size), (HB8.out.block bN (heap_lt HE0.out)).trans HE0.out⟩
                  case measure => simp [intOf]; omega
                · rw [if_pos (by rfl)]
                  go_simp
                  refine (count20 2 b (by omega) WB.out _).mono ?_
                  rintro e w5 ⟨rfl, hb⟩
                  have HB5 := Lib.hid (HB4.out.trans (hb.mono HB4.out.size))
                  clear hb
                  refine hK.out _ _ (HC.out _ HB5.out) (fun hHeld => ?_)
                  clear hK K
                  try simp only [Act.put, List.setIfInBounds_toArray, List.set_cons_zero, List.set_cons_succ]
                  refine wpAnyH_ready (rs := [10, 21]) (by kernel_rfl) (by simp) ?_
                  refine AllReadyH.cons (by simp only [List.getElem?_toArray, List.getElem?_cons_zero, List.getElem?_cons_succ]; rfl) (fun K hK => ?_) (AllReadyH.cons (by simp only [List.getElem?_toArray, List.getElem?_cons_zero, List.getElem?_cons_succ]; rfl) (fun K hK => ?_) AllReadyH.nil)
                  · rw [if_pos (by rfl)]
                    refine wp_sliceK 25 45 2 33 #[(0, .tmp 62), (1, .tmp 67)] rfl F1 ?_ i0 (.agg zC.toArray) Try.underlying25 HI.out.1 HI.out.2.1 HI.out.2.2 HL1.out (by decide) (by decide) (by decide) ?_
                    · simp only [List.map_toArray, List.map_cons, List.map_nil]; exact HP1.out _ _ rfl rfl
                    intro w6 hb hh hz
                    have HB6 := Lib.hid (HB5.out.trans (hb.mono HB5.out.size))
                    obtain ⟨s1, hs1⟩ : ∃ s, s = w5.heap.size := ⟨_, rfl⟩
                    rw [← hs1] at hh ⊢
                    have S16 : Hid (SArr w6 w6.heap.size (some ⟨s1, 0, none⟩) 2 33 fun j => cellsC (E1 j)) := Lib.hid (lit_sarr (n := 2) (by rw [HF1.out] at hh; exact hh))
                    clear hb hh hz hs1
                    refine hK.out _ _ (HC.out _ HB6.out) (fun hHeld => ?_)
                    clear hK K
                    try simp only [Act.put, List.setIfInBounds_toArray, List.set_cons_zero, List.set_cons_succ]
                    refine wpAnyH_ready (rs := [21]) (by kernel_rfl) (by simp) ?_
                    refine AllReadyH.cons (by simp only [List.getElem?_toArray, List.getElem?_cons_zero, List.getElem?_cons_succ]; rfl) (fun K hK => ?_) AllReadyH.nil
                    rw [if_pos (by rfl)]
                    refine wp_sliceK 25 45 2 33 #[(0, .tmp 73), (1, .tmp 78)] rfl F2 ?_ i0 (.agg zC.toArray) Try.underlying25 HI.out.1 HI.out.2.1 HI.out.2.2 HL2.out (by decide) (by decide) (by decide) ?_
                    · simp only [List.map_toArray, List.map_cons, List.map_nil]; exact HP2.out _ _ rfl rfl
                    intro w7 hb hh hz
                    have HB7 := Lib.hid (HB6.out.trans (hb.mono HB6.out.size))
                    obtain ⟨s2, hs2⟩ : ∃ s, s = w6.heap.size := ⟨_, rfl⟩
                    rw [← hs2] at hh ⊢
                    have S27 : Hid (SArr w7 w7.heap.size (some ⟨s2, 0, none⟩) 2 33 fun j => cellsC (E2 j)) := Lib.hid (lit_sarr (n := 2) (by rw [HF2.out] at hh; exact hh))
                    have S17 := Lib.hid ((S16.out.below hb (Nat.le_refl _)).more hb.size)
                    clear hb hh hz hs2
                    refine hK.out _ _ (HC.out _ HB7.out) (fun hHeld => ?_)
                    clear hK K
                    try simp only [Act.put, List.setIfInBounds_toArray, List.set_cons_zero, List.set_cons_succ]
                    refine wpAnyH_ready (rs := [22]) (by kernel_rfl) (by simp) ?_
                    refine AllReadyH.cons (by simp only [List.getElem?_toArray, List.getElem?_cons_zero, List.getElem?_cons_succ]; rfl) (fun K hK => ?_) AllReadyH.nil
                    rw [if_pos (by rfl)]
                    go_simp
                    refine (delta4 E1 E2 _ _ 2 2 2 2 w7 (fun h => by cases h) (fun h => by cases h) S17.out S27.out).mono ?_
                    rintro e w8 ⟨rfl, hb⟩
                    have HB8 := Lib.hid (HB7.out.trans (hb.mono HB7.out.size))
                    clear hb
                    refine hK.out _ _ (HC.out _ HB8.out) (fun hHeld => ?_)
                    clear hK K
                    try simp only [Act.put, List.setIfInBounds_toArray, List.set_cons_zero, List.set_cons_succ]
                    refine wpAnyH_take (i := 23) (v := ?_) (by simp only [List.getElem?_toArray, List.getElem?_cons_zero, List.getElem?_cons_succ]; rfl) (by kernel_rfl) (by kernel_rfl) (by kernel_rfl) (by intro _ _ _ h; exact h) (Or.inl ⟨by rfl, ?_⟩) hHeld ?_
                    rotate_left
                    · (intro w hSw; (try dsimp only at hSw); go_simp; try with_reducible rfl)
                    try simp only [Act.put, List.setIfInBounds_toArray, List.set_cons_zero, List.set_cons_succ]
                    refine wpAnyH_done (by kernel_rfl) ?_ _
                    clear hHeld
                    go_wp2_with fail
                    go_roundw
                    case rel => exact ⟨k + 1, by omega, by go_num, HD0.out.trans (HB8.out.mono HD0.out.size), (HB8.out.block bN (heap_lt HE0.out)).trans HE0.out⟩
                    case measure => simp [intOf]; omega
                  · rw [if_pos (by rfl)]
                    refine wp_sliceK 25 45 2 33 #[(0, .tmp 73), (1, .tmp 78)] rfl F2 ?_ i0 (.agg zC.toArray) Try.underlying25 HI.out.1 HI.out.2.1 HI.out.2.2 HL2.out (by decide) (by decide) (by decide) ?_
                    · simp only [List.map_toArray, List.map_cons, List.map_nil]; exact HP2.out _ _ rfl rfl
                    intro w6 hb hh hz
                    have HB6 := Lib.hid (HB5.out.trans (hb.mono HB5.out.size))
                    obtain ⟨s2, hs2⟩ : ∃ s, s = w5.heap.size := ⟨_, rfl⟩
                    rw [← hs2] at hh ⊢
                    have S26 : Hid (SArr w6 w6.heap.size (some ⟨s2, 0, none⟩) 2 33 fun j => cellsC (E2 j)) := Lib.hid (lit_sarr (n := 2) (by rw [HF2.out] at hh; exact hh))
                    clear hb hh hz hs2
                    refine hK.out _ _ (HC.out _ HB6.out) (fun hHeld => ?_)
                    clear hK K
                    try simp only [Act.put, List.setIfInBounds_toArray, List.set_cons_zero, List.set_cons_succ]
                    refine wpAnyH_ready (rs := [10]) (by kernel_rfl) (by simp) ?_
                    refine AllReadyH.cons (by simp only [List.getElem?_toArray, List.getElem?_cons_zero, List.getElem?_cons_succ]; rfl) (fun K hK => ?_) AllReadyH.nil
                    rw [if_pos (by rfl)]
                    refine wp_sliceK 25 45 2 33 #[(0, .tmp 62), (1, .tmp 67)] rfl F1 ?_ i0 (.agg zC.toArray) Try.underlying25 HI.out.1 HI.out.2.1 HI.out.2.2 HL1.out (by decide) (by decide) (by decide) ?_
                    · simp only [List.map_toArray, List.map_cons, List.map_nil]; exact HP1.out _ _ rfl rfl
                    intro w7 hb hh hz
                    have HB7 := Lib.hid (HB6.out.trans (hb.mono HB6.out.size))
                    obtain ⟨s1, hs1⟩ : ∃ s, s = w6.heap.size := ⟨_, rfl⟩
                    rw [← hs1] at hh ⊢
                    have S17 : Hid (SArr w7 w7.heap.size (some ⟨s1, 0, none⟩) 2 33 fun j => cellsC (E1 j)) := Lib.hid (lit_sarr (n := 2) (by rw [HF1.out] at hh; exact hh))
                    have S27 := Lib.hid ((S26.out.below hb (Nat.le_refl _)).more hb.size)
                    clear hb hh hz hs1
                    refine hK.out _ _ (HC.out _ HB7.out) (fun hHeld => ?_)
                    clear hK K
                    try simp only [Act.put, List.setIfInBounds_toArray, List.set_cons_zero, List.set_cons_succ]
                    refine wpAnyH_ready (rs := [22]) (by kernel_rfl) (by simp) ?_
                    refine AllReadyH.cons (by simp only [List.getElem?_toArray, List.getElem?_cons_zero, List.getElem?_cons_succ]; rfl) (fun K hK => ?_) AllReadyH.nil
                    rw [if_pos (by rfl)]
                    go_simp
                    refine (delta4 E1 E2 _ _ 2 2 2 2 w7 (fun h => by cases h) (fun h => by cases h) S17.out S27.out).mono ?_
                    rintro e w8 ⟨rfl, hb⟩
                    have HB8 := Lib.hid (HB7.out.trans (hb.mono HB7.out.size))
                    clear hb
                    refine hK.out _ _ (HC.out _ HB8.out) (fun hHeld => ?_)
                    clear hK K
                    try simp only [Act.put, List.setIfInBounds_toArray, List.set_cons_zero, List.set_cons_succ]
                    refine wpAnyH_take (i := 23) (v := ?_) (by simp only [List.getElem?_toArray, List.getElem?_cons_zero, List.getElem?_cons_succ]; rfl) (by kernel_rfl) (by kernel_rfl) (by kernel_rfl) (by intro _ _ _ h; exact h) (Or.inl ⟨by rfl, ?_⟩) hHeld ?_
                    rotate_left
                    · (intro w hSw; (try dsimp only at hSw); go_simp; try with_reducible rfl)
                    try simp only [Act.put, List.setIfInBounds_toArray, List.set_cons_zero, List.set_cons_succ]
                    refine wpAnyH_done (by kernel_rfl) ?_ _
                    clear hHeld
                    go_wp2_with fail
                    go_roundw
                    case rel => exact ⟨k + 1, by omega, by go_num, HD0.out.trans (HB8.out.mono HD0.out.size), (HB8.out.block bN (heap_lt HE0.out)).trans HE0.out⟩
                    case measure => simp [intOf]; omega
            · obtain rfl : k = 5 := by omega
              go_wp2_with fail
              go_roundw
              case rel => exact ⟨i + 1, by omega, by go_num, B2.out, KE.out⟩
              case measure => simp [intOf]; omega
        · obtain rfl : i = 5 := by omega
          have SZ0 : Hid (SArr wr wr.heap.size none 0 33 fun i => cellsC ((default : ElC))) := Lib.hid (fun h => absurd h (by omega))
          go_wp2_with fail
          refine (delta4 (fun _ => default) (fun _ => default) none none 0 0 0 0 wr (fun _ => ⟨rfl, rfl⟩) (fun _ => ⟨rfl, rfl⟩) (fun h => absurd h (by omega)) (fun h => absurd h (by omega))).mono ?_
          rintro e w2 ⟨rfl, hb⟩
          have B3 := Lib.hid (B2.out.trans (hb.mono B2.out.size))
          clear hb
          obtain ⟨F8, hF8⟩ : ∃ F8 : Nat → List Value, F8 = fun i => cellsIt (elN i) := ⟨_, rfl⟩
          have HF8 := Lib.hid hF8
          have HL8 : Hid (∀ k, k < 2 → (F8 k).length = 73) := Lib.hid (by rw [hF8]; exact fun k _ => lenIt _)
          have BR0 : Hid (∀ u, BuildRun Try.prog 42 #[] u (.agg (F8 0).toArray)) := Lib.hid fun u => by rw [hF8]; exact item0_run u
          have BR1 : Hid (∀ u, BuildRun Try.prog 42 #[(0, .int .u8 3), (3, .int .i64 1)] u (.agg (F8 1).toArray)) := Lib.hid fun u => by rw [hF8]; exact item3_run u
          have HP8 : Hid (∀ x y : Value, x = .agg (F8 0).toArray → y = .agg (F8 1).toArray → ([((0 : Nat), x), (1, y)] = (List.range 2).map fun i => (i, Value.agg (F8 i).toArray))) := Lib.hid fun x y hx hy => by rw [hx, hy]; rfl
          clear hF8
          go_wp2_with (first | (refine wpList_buildG rfl 42 [] rfl [] rfl _ (BR0.out _) ?_) | (refine wpList_buildG rfl 42 [(0, .const (.int .u8 3)), (3, .const (.int .i64 1))] rfl [(0, .int .u8 3), (3, .int .i64 1)] rfl _ (BR1.out _) ?_) | (refine wpList_sliceK rfl 22 42 2 73 #[(0, .tmp 84), (1, .tmp 85)] rfl F8 ?_ j0 (.agg zIt.toArray) Try.underlying22 HJ.out.1 HJ.out.2.1 HJ.out.2.2 HL8.out (by decide) (by decide) (by decide) ?_; (· simp only [List.map_toArray, List.map_cons, List.map_nil]; exact HP8.out _ _ rfl rfl)))
          have BA : Hid (Below w2.heap.size w2 (w2.alloc (.cells (flatS F8 2).toArray 42))) := Lib.hid ((Below.refl _ _).alloc (Nat.le_refl _) _)
          refine (count3 elN _ 2 2 _ (fun h => by cases h) (lit_sarrI (n := 2) (by rw [HF8.out]; exact heap_new w2 _))).mono ?_
          rintro e w3 ⟨rfl, hb⟩
          have B4 := Lib.hid (B3.out.trans ((BA.out.trans (hb.mono BA.out.size)).mono B3.out.size))
          clear hb
          go_wp2_with fail
          refine (awake8 w3).mono ?_
          rintro e w4 ⟨rfl, hb⟩
          have B5 := Lib.hid (B4.out.trans (hb.mono B4.out.size))
          clear hb
          go_wp2_with fail
          go_ret
          exact ⟨rfl, B5.out⟩
end Go.Proofs.Ytblfkngdieffiaa
