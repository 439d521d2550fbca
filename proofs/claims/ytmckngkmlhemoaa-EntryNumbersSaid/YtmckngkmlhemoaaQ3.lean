/- The document's Item (layer 14) at an entry whose first byte is kd. Printed by genQ.py. -/
import Derived.Test.YtmckngkmlhemoaaQ0
namespace Go.Proofs.Ytmckngkmlhemoaa
open Go.RowKit
set_option maxRecDepth 100000 in
set_option maxHeartbeats 4000000 in
theorem item13_0 (ent : Ent) (ok : ent.Ok) (w : World) (kd : Int) (h1 : ent.kd = kd) (n1 : kd ≠ 1) (n2 : kd ≠ 2) : Calls Try.prog 13 #[.agg ent.cells.toArray] w fun e w' => e = .returned (itemOut ent) ∧ Below w.heap.size w w' := by
  have hkd : 0 ≤ kd ∧ kd < 256 := by rw [← h1]; exact getD_byte (Ent.kv_bytes ok) 0
  have t1 : decide (kd = 1) = false := by simp [n1]
  have t2 : decide (kd = 2) = false := by simp [n2]
  have M := Lib.hid (((Mem.nil w).push ent.cells 35).push (zI 0) 30)
  have z35 := zero35
  have z30 := zero30
  have z32 := zero32
  have z33 := zero33
  have hel : Hid ((Try.prog.info? 35).map (·.size) = some ent.cells.length) := Lib.hid (by rw [Ent.len ok]; exact info35)
  have hkl : Hid ((Try.prog.info? 32).map (·.size) = some (u8l ent.k).length) := Lib.hid (by rw [u8l_len, ok.k.1]; exact info32)
  have hvl : Hid ((Try.prog.info? 33).map (·.size) = some (u8l ent.v).length) := Lib.hid (by rw [u8l_len, ok.v.1]; exact info33)
  have hk40 : Hid ((u8l ent.k).length = 40) := Lib.hid (by rw [u8l_len, ok.k.1])
  have hv40 : Hid ((u8l ent.v).length = 40) := Lib.hid (by rw [u8l_len, ok.v.1])
  have HB := Lib.hid (k0_byte ok)
  have HK := Lib.hid h1
  rw [h1] at HB
  clear h1
  go_enter Try.func13, Try.ntmps13
  go_upto_region 1 with fail
  obtain ⟨w1, hw1⟩ : ∃ w1, w1 = (w.alloc (Obj.cells ent.cells.toArray 35)).alloc (.cells (zI 0).toArray 30) := ⟨_, rfl⟩
  obtain ⟨b1, hb1⟩ : ∃ b, b = w.heap.size := ⟨_, rfl⟩
  obtain ⟨b2, hb2⟩ : ∃ b, b = (w.alloc (Obj.cells ent.cells.toArray 35)).heap.size := ⟨_, rfl⟩
  have hb2' : b2 = w.heap.size + 1 := by rw [hb2]; simp
  have M1 : Hid (Mem w w1.drew [(b1, ent.cells, 35), (b2, zI 0, 30)]) := Lib.hid (by rw [hw1, hb1, hb2]; exact M.out.drew 1)
  rw [← hw1, ← hb2', ← hb1]
  clear hw1 hb1 hb2 hb2' M
  go_cut [4, 5] from 11 to 14 (fun s4 s5 w' => ∃ b4 b5, s4 = .pointer (some ⟨b4, 0, none⟩) ∧ s5 = .pointer (some ⟨b5, 0, none⟩) ∧ Mem w w' [(b1, ent.cells, 35), (b2, zI 0, 30), (b4, u8l ent.k, 32), (b5, u8l ent.v, 33)])
  case first =>
    have hH0 : (fun w' => w'.rangeAt b1 0 (u8l ent.k) ∧ w'.rangeAt b1 40 (u8l ent.v)) w1.drew := ⟨M1.out.range 0 rfl 0 (u8l ent.k) (k_sub ent), M1.out.range 0 rfl 40 (u8l ent.v) (v_sub ok)⟩
    refine wp_region_held_drew (S := fun w' => w'.rangeAt b1 0 (u8l ent.k) ∧ w'.rangeAt b1 40 (u8l ent.v)) follows hH0 (fun hHeld => ?_)
    obtain ⟨w2, hw2⟩ : ∃ w2, w2 = w1.drew := ⟨_, rfl⟩
    rw [← hw2] at M1 hHeld ⊢
    clear hw2 hH0
    refine wpAnyH_take (i := 0) (v := ?_) (by simp only [List.getElem?_toArray, List.getElem?_cons_zero]; rfl) (by kernel_rfl) (by kernel_rfl) (by kernel_rfl) (by intro _ _ _ h; exact h) (Or.inl ⟨by rfl, ?_⟩) hHeld ?_
    rotate_left
    · (intro w hSw; (try dsimp only at hSw); go_simp; try with_reducible rfl)
    try simp only [Act.put, List.setIfInBounds_toArray, List.set_cons_zero, List.set_cons_succ]
    refine wpAnyH_take (i := 1) (v := _) (by simp only [List.getElem?_toArray, List.getElem?_cons_zero, List.getElem?_cons_succ]; rfl) (by kernel_rfl) (by kernel_rfl) (by kernel_rfl) (by intro _ _ _ h; exact h) (yieldsIf_load_mid (by rfl) 32 (.tmp 11) rfl b1 0 rfl (u8l ent.k) _ (fun _ h => h.1) Try.underlying32 rfl hkl.out) hHeld ?_
    try simp only [Act.put, List.setIfInBounds_toArray, List.set_cons_zero, List.set_cons_succ]
    refine wpAnyH_take (i := 2) (v := ?_) (by simp only [List.getElem?_toArray, List.getElem?_cons_zero, List.getElem?_cons_succ]; rfl) (by kernel_rfl) (by kernel_rfl) (by kernel_rfl) (by intro _ _ _ h; exact h) (Or.inl ⟨by rfl, ?_⟩) hHeld ?_
    rotate_left
    · (intro w hSw; (try dsimp only at hSw); go_simp; try with_reducible rfl)
    try simp only [Act.put, List.setIfInBounds_toArray, List.set_cons_zero, List.set_cons_succ]
    refine wpAnyH_take (i := 3) (v := _) (by simp only [List.getElem?_toArray, List.getElem?_cons_zero, List.getElem?_cons_succ]; rfl) (by kernel_rfl) (by kernel_rfl) (by kernel_rfl) (by intro _ _ _ h; exact h) (yieldsIf_load_mid (by rfl) 33 (.tmp 13) rfl b1 40 rfl (u8l ent.v) _ (fun _ h => h.2) Try.underlying33 rfl hvl.out) hHeld ?_
    try simp only [Act.put, List.setIfInBounds_toArray, List.set_cons_zero, List.set_cons_succ]
    refine wpAnyH_ready (rs := [4, 5]) (by kernel_rfl) (by simp) ?_
    refine AllReadyH.cons (by simp only [List.getElem?_toArray, List.getElem?_cons_zero, List.getElem?_cons_succ]; rfl) (fun K hK => ?_) (AllReadyH.cons (by simp only [List.getElem?_toArray, List.getElem?_cons_zero, List.getElem?_cons_succ]; rfl) (fun K hK => ?_) AllReadyH.nil)
    · go_simp
      obtain ⟨x1, hx1⟩ : ∃ b, b = w2.heap.size := ⟨_, rfl⟩
      have N1 : Hid (Mem w (w2.alloc (.cells (zb 40).toArray 32)) [(b1, ent.cells, 35), (b2, zI 0, 30), (x1, zb 40, 32)]) := Lib.hid (by rw [hx1]; exact M1.out.push (zb 40) 32)
      rw [← hx1]
      refine hK.out _ _ ⟨N1.out.range 0 rfl 0 (u8l ent.k) (k_sub ent), N1.out.range 0 rfl 40 (u8l ent.v) (v_sub ok)⟩ (fun hHeld => ?_)
      clear hK K hx1
      try simp only [Act.put, List.setIfInBounds_toArray, List.set_cons_zero, List.set_cons_succ]
      refine wpAnyH_ready (rs := [5]) (by kernel_rfl) (by simp) ?_
      refine AllReadyH.cons (by simp only [List.getElem?_toArray, List.getElem?_cons_zero, List.getElem?_cons_succ]; rfl) (fun K hK => ?_) AllReadyH.nil
      go_simp
      obtain ⟨y1, hy1⟩ : ∃ w', w' = w2.alloc (.cells (zb 40).toArray 32) := ⟨_, rfl⟩
      have hs2 : y1.heap.size = w2.heap.size + 1 := by rw [hy1]; simp
      rw [← hy1] at N1
      obtain ⟨x2, hx2⟩ : ∃ b, b = y1.heap.size := ⟨_, rfl⟩
      have N2 : Hid (Mem w (y1.alloc (.cells (zb 40).toArray 33)) [(b1, ent.cells, 35), (b2, zI 0, 30), (x1, zb 40, 32), (x2, zb 40, 33)]) := Lib.hid (by rw [hx2]; exact N1.out.push (zb 40) 33)
      try rw [← hy1]
      try rw [← hs2]
      try rw [← hx2]
      refine hK.out _ _ ⟨N2.out.range 0 rfl 0 (u8l ent.k) (k_sub ent), N2.out.range 0 rfl 40 (u8l ent.v) (v_sub ok)⟩ (fun hHeld => ?_)
      clear hK K hy1 hx2 hs2
      try simp only [Act.put, List.setIfInBounds_toArray, List.set_cons_zero, List.set_cons_succ]
      refine wpAnyH_ready (rs := [6]) (by kernel_rfl) (by simp) ?_
      refine AllReadyH.cons (by simp only [List.getElem?_toArray, List.getElem?_cons_zero, List.getElem?_cons_succ]; rfl) (fun K hK => ?_) AllReadyH.nil
      rw [if_pos (by rfl)]
      refine wp_store_seg 32 (.tmp 4) (.tmp 12) rfl x1 0 rfl (u8l ent.k) rfl N2.out 2 _ 32 rfl hkl.out (by rw [hk40.out]; simp [zb_len]) u8l_one ?_
      intro y3 N3 hs_
      refine hK.out _ _ ⟨N3.out.range 0 rfl 0 (u8l ent.k) (k_sub ent), N3.out.range 0 rfl 40 (u8l ent.v) (v_sub ok)⟩ (fun hHeld => ?_)
      clear hK K hs_
      refine wpAnyH_ready (rs := [7]) (by kernel_rfl) (by simp) ?_
      refine AllReadyH.cons (by simp only [List.getElem?_toArray, List.getElem?_cons_zero, List.getElem?_cons_succ]; rfl) (fun K hK => ?_) AllReadyH.nil
      rw [if_pos (by rfl)]
      refine wp_store_seg 33 (.tmp 5) (.tmp 14) rfl x2 0 rfl (u8l ent.v) rfl N3.out 3 _ 33 rfl hvl.out (by rw [hv40.out]; simp [zb_len]) u8l_one ?_
      intro y4 N4 hs_
      refine hK.out _ _ ⟨N4.out.range 0 rfl 0 (u8l ent.k) (k_sub ent), N4.out.range 0 rfl 40 (u8l ent.v) (v_sub ok)⟩ (fun hHeld => ?_)
      clear hK K hs_
      refine wpAnyH_done (by kernel_rfl) ?_ _
      have N5 : Mem w y4 [(b1, ent.cells, 35), (b2, zI 0, 30), (x1, u8l ent.k, 32), (x2, u8l ent.v, 33)] := by
        have q := N4.out
        rw [splice_all _ _ (by rw [zb_len, hk40.out]), splice_all _ _ (by rw [zb_len, hv40.out])] at q
        exact q
      go_wp2_with fail
      go_meet
      case rel => exact ⟨_, _, rfl, rfl, N5⟩
    · go_simp
      obtain ⟨x1, hx1⟩ : ∃ b, b = w2.heap.size := ⟨_, rfl⟩
      have N1 : Hid (Mem w (w2.alloc (.cells (zb 40).toArray 33)) [(b1, ent.cells, 35), (b2, zI 0, 30), (x1, zb 40, 33)]) := Lib.hid (by rw [hx1]; exact M1.out.push (zb 40) 33)
      rw [← hx1]
      refine hK.out _ _ ⟨N1.out.range 0 rfl 0 (u8l ent.k) (k_sub ent), N1.out.range 0 rfl 40 (u8l ent.v) (v_sub ok)⟩ (fun hHeld => ?_)
      clear hK K hx1
      try simp only [Act.put, List.setIfInBounds_toArray, List.set_cons_zero, List.set_cons_succ]
      refine wpAnyH_ready (rs := [4]) (by kernel_rfl) (by simp) ?_
      refine AllReadyH.cons (by simp only [List.getElem?_toArray, List.getElem?_cons_zero, List.getElem?_cons_succ]; rfl) (fun K hK => ?_) AllReadyH.nil
      go_simp
      obtain ⟨y1, hy1⟩ : ∃ w', w' = w2.alloc (.cells (zb 40).toArray 33) := ⟨_, rfl⟩
      have hs2 : y1.heap.size = w2.heap.size + 1 := by rw [hy1]; simp
      rw [← hy1] at N1
      obtain ⟨x2, hx2⟩ : ∃ b, b = y1.heap.size := ⟨_, rfl⟩
      have N2 : Hid (Mem w (y1.alloc (.cells (zb 40).toArray 32)) [(b1, ent.cells, 35), (b2, zI 0, 30), (x1, zb 40, 33), (x2, zb 40, 32)]) := Lib.hid (by rw [hx2]; exact N1.out.push (zb 40) 32)
      try rw [← hy1]
      try rw [← hs2]
      try rw [← hx2]
      refine hK.out _ _ ⟨N2.out.range 0 rfl 0 (u8l ent.k) (k_sub ent), N2.out.range 0 rfl 40 (u8l ent.v) (v_sub ok)⟩ (fun hHeld => ?_)
      clear hK K hy1 hx2 hs2
      try simp only [Act.put, List.setIfInBounds_toArray, List.set_cons_zero, List.set_cons_succ]
      refine wpAnyH_ready (rs := [6]) (by kernel_rfl) (by simp) ?_
      refine AllReadyH.cons (by simp only [List.getElem?_toArray, List.getElem?_cons_zero, List.getElem?_cons_succ]; rfl) (fun K hK => ?_) AllReadyH.nil
      rw [if_pos (by rfl)]
      refine wp_store_seg 32 (.tmp 4) (.tmp 12) rfl x2 0 rfl (u8l ent.k) rfl N2.out 3 _ 32 rfl hkl.out (by rw [hk40.out]; simp [zb_len]) u8l_one ?_
      intro y3 N3 hs_
      refine hK.out _ _ ⟨N3.out.range 0 rfl 0 (u8l ent.k) (k_sub ent), N3.out.range 0 rfl 40 (u8l ent.v) (v_sub ok)⟩ (fun hHeld => ?_)
      clear hK K hs_
      refine wpAnyH_ready (rs := [7]) (by kernel_rfl) (by simp) ?_
      refine AllReadyH.cons (by simp only [List.getElem?_toArray, List.getElem?_cons_zero, List.getElem?_cons_succ]; rfl) (fun K hK => ?_) AllReadyH.nil
      rw [if_pos (by rfl)]
      refine wp_store_seg 33 (.tmp 5) (.tmp 14) rfl x1 0 rfl (u8l ent.v) rfl N3.out 2 _ 33 rfl hvl.out (by rw [hv40.out]; simp [zb_len]) u8l_one ?_
      intro y4 N4 hs_
      refine hK.out _ _ ⟨N4.out.range 0 rfl 0 (u8l ent.k) (k_sub ent), N4.out.range 0 rfl 40 (u8l ent.v) (v_sub ok)⟩ (fun hHeld => ?_)
      clear hK K hs_
      refine wpAnyH_done (by kernel_rfl) ?_ _
      have N5 : Mem w y4 [(b1, ent.cells, 35), (b2, zI 0, 30), (x1, u8l ent.v, 33), (x2, u8l ent.k, 32)] := by
        have q := N4.out
        rw [splice_all _ _ (by rw [zb_len, hk40.out]), splice_all _ _ (by rw [zb_len, hv40.out])] at q
        exact q
      go_wp2_with fail
      go_meet
      case rel => exact ⟨_, _, rfl, rfl, N5.perm (.cons _ (.cons _ (.swap _ _ _)))⟩
  case rest =>
    obtain ⟨b4, b5, rfl, rfl, hM⟩ := hcut
    have M3 := Lib.hid hM
    clear hM M1
    have HOT : Hid ((itN kd (e8 ent.kv 1)).right = true → (itN kd (e8 ent.kv 1)).ent.kv = ent.kv → itemOut ent = .tuple #[.agg (itN kd (e8 ent.kv 1)).cells.toArray, .int .i64 0]) := Lib.hid (itemOut_tN HK.out n1 n2)
    have HOF : Hid (¬ ((itN kd (e8 ent.kv 1)).right = true ∧ (itN kd (e8 ent.kv 1)).ent.kv = ent.kv) → itemOut ent = .tuple #[.agg (zI 0).toArray, .int .i64 4]) := Lib.hid (itemOut_fN HK.out n1 n2)
    have c0 : wc.cell? ⟨b4, 0, none⟩ = some (.int .u8 kd) := M3.out.cell 2 rfl 0 HB.out
    go_upto_region 3 with first
      | (refine wpList_buildG rfl 30 [(0, .tmp 16)] rfl [(0, .int .u8 kd)] rfl _ (build30 _ _) ?_)
      | (refine wpList_store_seg rfl 30 (.tmp 6) (.tmp 17) rfl wc.heap.size 0 rfl (zI kd) rfl (M3.out.push (zI 0) 30) 4 (zI 0) 30 rfl info30 (by simp [zI, zb]) (zI_one _) rfl ?_; intro w3 M4 hs3)
    obtain ⟨b6, hb6⟩ : ∃ b, b = wc.heap.size := ⟨_, rfl⟩
    rw [← hb6]
    have M5 : Hid (Mem w w3 [(b1, ent.cells, 35), (b2, zI 0, 30), (b4, u8l ent.k, 32), (b5, u8l ent.v, 33), (b6, zI kd, 30)]) := Lib.hid (by rw [hb6]; exact M4.out)
    clear M4 hs3 M3 c0 hb6
    have c0 : w3.cell? ⟨b6, 0, none⟩ = some (.int .u8 kd) := M5.out.cell 4 rfl 0 rfl
    go_wp2_with fail
    refine (number24e ok.k M5.out 2 rfl 1 4 _ (by omega) (by omega)).mono ?_
    rintro r _ ⟨rfl, m1, rfl⟩
    have M6 := Lib.hid (M5.out.drew m1)
    rw [← e8_k ok 1 (by omega)]
    clear M5 c0
    go_upto_region 20 with (refine wpList_store_one rfl 3 (.tmp 22) (.tmp 21) rfl b6 37 rfl .i64 (e8 ent.kv 1) rfl M6.out 4 _ 30 rfl info3 (by simp [zI, zb]) rfl ?_; intro w7 M7 hs7)
    have M8 : Hid (Mem w w7 [(b1, ent.cells, 35), (b2, zI 0, 30), (b4, u8l ent.k, 32), (b5, u8l ent.v, 33), (b6, (itN kd (e8 ent.kv 1)).cells, 30)]) := Lib.hid (by
      have q := M7.out
      rw [itN_put] at q
      exact q)
    clear M7 M6 hs7
    have g6 := M8.out.all 4 rfl
    have hx : Hid ((Try.prog.info? 30).map (·.size) = some (itN kd (e8 ent.kv 1)).cells.length) := Lib.hid (by rw [Itm.len (itN_ok hkd (e8_ok (Ent.kv_bytes ok) _))]; exact info30)
    go_wp2_with (refine wpList_load_midG rfl 30 (.tmp 6) rfl b6 0 rfl (itN kd (e8 ent.kv 1)).cells _ g6 Try.underlying30 rfl hx.out ?_)
    refine (of10 (itN kd (e8 ent.kv 1)) (itN_ok hkd (e8_ok (Ent.kv_bytes ok) _)) _).mono ?_
    rintro r wy ⟨rfl, hb⟩
    have MY := Lib.hid (M8.out.go hb)
    clear hb g6 M8
    cases hR : (itN kd (e8 ent.kv 1)).right
    · rw [ofOut_f hR]
      have HO : Hid (itemOut ent = .tuple #[.agg (zI 0).toArray, .int .i64 4]) := Lib.hid (HOF.out (by rw [hR]; simp))
      clear hR
      go_wp2_with first
        | (refine wpList_store_seg rfl 35 (.tmp 9) (.tmp 78) rfl wy.heap.size 0 rfl zE rfl (MY.out.push zE 35) 5 _ 35 rfl info35 (by simp) zb_one rfl ?_; intro w5 M5 hs5)
        | (refine wpList_buildG rfl 30 [] rfl [] rfl _ (build30z _) ?_)
        | (refine wpList_store_seg rfl 30 (.tmp 2) (.tmp 87) rfl b2 0 rfl (zI 0) rfl M5.out 1 _ 30 rfl info30 (by simp) (zI_one 0) rfl ?_; intro wz Mz hsz)
      have hz : wz.rangeAt b2 0 (zI 0) := by
        have q := Mz.out.all 1 rfl
        rw [splice_all _ _ rfl] at q
        exact q
      have hbz := Mz.out.below
      clear Mz
      refine bodyPost_ret (results_cell_mid rfl _ _ b2 _ _ rfl hz Try.underlying30 rfl info30) rfl ?_
      exact ⟨by rw [HO.out]; rfl, hbz⟩
    · rw [ofOut_t hR]
      have HR := Lib.hid hR
      have hxe : Hid ((Try.prog.info? 35).map (·.size) = some (itN kd (e8 ent.kv 1)).ent.cells.length) := Lib.hid (by rw [ent_len (itN_ok hkd (e8_ok (Ent.kv_bytes ok) _))]; exact info35)
      have hxl : Hid ((itN kd (e8 ent.kv 1)).ent.cells.length = 80) := Lib.hid (ent_len (itN_ok hkd (e8_ok (Ent.kv_bytes ok) _)))
      clear hR
      go_upto_region 21 with (refine wpList_store_seg rfl 35 (.tmp 9) (.tmp 78) rfl wy.heap.size 0 rfl (itN kd (e8 ent.kv 1)).ent.cells rfl (MY.out.push zE 35) 5 _ 35 rfl hxe.out (by rw [hxl.out]; simp [zE, zb]) u8l_one rfl ?_; intro w5 M5 hs5)
      obtain ⟨b7, hb7⟩ : ∃ b, b = wy.heap.size := ⟨_, rfl⟩
      rw [← hb7]
      have M5' : Hid (Mem w w5 [(b1, ent.cells, 35), (b2, zI 0, 30), (b4, u8l ent.k, 32), (b5, u8l ent.v, 33), (b6, (itN kd (e8 ent.kv 1)).cells, 30), (b7, (itN kd (e8 ent.kv 1)).ent.cells, 35)]) := Lib.hid (by
        have q := M5.out
        rw [splice_all _ _ (by rw [hxl.out]; rfl)] at q
        rw [hb7]; exact q)
      clear M5 hs5 MY hb7
      obtain ⟨r, hr, hri⟩ := eqr35 (ent_ok (itN_ok hkd (e8_ok (Ent.kv_bytes ok) _))) ok w5
      have HRI := Lib.hid hri
      clear hri
      have g7 := M5'.out.all 5 rfl
      have g1 := M5'.out.all 0 rfl
      have g6 := M5'.out.all 4 rfl
      cases r
      · have HO : Hid (itemOut ent = .tuple #[.agg (zI 0).toArray, .int .i64 4]) := Lib.hid (HOF.out (by
          rintro ⟨_, h⟩
          have := HRI.out.2 (by rw [Ent.cells_kv, Ent.cells_kv, h])
          cases this))
        clear HRI
        go_wp2_with first
          | (refine wpList_load_midG rfl 35 (.tmp 9) rfl b7 0 rfl (itN kd (e8 ent.kv 1)).ent.cells _ g7 Try.underlying35 rfl hxe.out ?_)
          | (refine wpList_load_midG rfl 35 (.tmp 1) rfl b1 0 rfl ent.cells _ g1 Try.underlying35 rfl hel.out ?_)
          | (refine wpList_neqG rfl 35 (.tmp 83) (.tmp 84) rfl (itN kd (e8 ent.kv 1)).ent.cells.toArray ent.cells.toArray rfl rfl false eqg35 hr ?_)
          | (refine wpList_buildG rfl 30 [] rfl [] rfl _ (build30z _) ?_)
          | (refine wpList_store_seg rfl 30 (.tmp 2) (.tmp 87) rfl b2 0 rfl (zI 0) rfl M5'.out 1 _ 30 rfl info30 (by simp) (zI_one 0) rfl ?_; intro wz Mz hsz)
        have hz : wz.rangeAt b2 0 (zI 0) := by
          have q := Mz.out.all 1 rfl
          rw [splice_all _ _ rfl] at q
          exact q
        have hbz := Mz.out.below
        clear Mz
        refine bodyPost_ret (results_cell_mid rfl _ _ b2 _ _ rfl hz Try.underlying30 rfl info30) rfl ?_
        exact ⟨by rw [HO.out]; rfl, hbz⟩
      · have HO : Hid (itemOut ent = .tuple #[.agg (itN kd (e8 ent.kv 1)).cells.toArray, .int .i64 0]) := Lib.hid (HOT.out HR.out (u8l_inj (HRI.out.1 rfl)))
        have hxc : Hid ((itN kd (e8 ent.kv 1)).cells.length = 73) := Lib.hid (Itm.len (itN_ok hkd (e8_ok (Ent.kv_bytes ok) _)))
        clear HRI
        go_wp2_with first
          | (refine wpList_load_midG rfl 35 (.tmp 9) rfl b7 0 rfl (itN kd (e8 ent.kv 1)).ent.cells _ g7 Try.underlying35 rfl hxe.out ?_)
          | (refine wpList_load_midG rfl 35 (.tmp 1) rfl b1 0 rfl ent.cells _ g1 Try.underlying35 rfl hel.out ?_)
          | (refine wpList_neqG rfl 35 (.tmp 83) (.tmp 84) rfl (itN kd (e8 ent.kv 1)).ent.cells.toArray ent.cells.toArray rfl rfl true eqg35 hr ?_)
          | (refine wpList_load_midG rfl 30 (.tmp 6) rfl b6 0 rfl (itN kd (e8 ent.kv 1)).cells _ g6 Try.underlying30 rfl hx.out ?_)
          | (refine wpList_store_seg rfl 30 (.tmp 2) (.tmp 88) rfl b2 0 rfl (itN kd (e8 ent.kv 1)).cells rfl M5'.out 1 _ 30 rfl hx.out (by rw [hxc.out]; simp [zI, zb]) (item_one (itN_ok hkd (e8_ok (Ent.kv_bytes ok) _))) rfl ?_; intro wz Mz hsz)
        have hz : wz.rangeAt b2 0 (itN kd (e8 ent.kv 1)).cells := by
          have q := Mz.out.all 1 rfl
          rw [splice_all _ _ (by rw [hxc.out]; rfl)] at q
          exact q
        have hbz := Mz.out.below
        clear Mz
        refine bodyPost_ret (results_cell_mid rfl _ _ b2 _ _ rfl hz Try.underlying30 rfl hx.out) rfl ?_
        exact ⟨by rw [HO.out]; rfl, hbz⟩
end Go.Proofs.Ytmckngkmlhemoaa
