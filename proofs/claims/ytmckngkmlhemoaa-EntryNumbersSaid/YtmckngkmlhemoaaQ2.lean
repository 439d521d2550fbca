/- The document's Item (layer 14) at an entry whose first byte is 2. Printed by genQ.py. -/
import Derived.Test.YtmckngkmlhemoaaQ0
namespace Go.Proofs.Ytmckngkmlhemoaa
open Go.RowKit
set_option maxRecDepth 100000 in
set_option maxHeartbeats 4000000 in
theorem item13_2 (ent : Ent) (ok : ent.Ok) (w : World) (h1 : ent.kd = 2) : Calls Try.prog 13 #[.agg ent.cells.toArray] w fun e w' => e = .returned (itemOut ent) ∧ Below w.heap.size w w' := by
  have M := Lib.hid (((Mem.nil w).push ent.cells 35).push (zI 0) 30)
  have z35 := zero35
  have z30 := zero30
  have z32 := zero32
  have z33 := zero33
  have hel : Hid ((Try.prog.info? 35).map (·.size) = some ent.cells.length) := Lib.hid (by rw [Ent.len ok]; exact info35)
  have hkl : Hid ((Try.prog.info? 32).map (·.size) = some (u8l ent.k).length) := Lib.hid (by rw [u8l_len, ok.k.1]; exact info32)
  have hvl : Hid ((Try.prog.info? 33).map (·.size) = some (u8l ent.v).length) := Lib.hid (by rw [u8l_len, ok.v.1]; exact info33)
  have hk40 : Hid ((u8l ent.k).length = 40) := Lib.hid (by rw [u8l_len, ok.k.1])
  have hv40 : Hid ((u8l ent.v).length = 40) := Lib.hid (by rw [u8l_len, ok.v.1])
  have HB := Lib.hid (k0_byte ok)
  have HK := Lib.hid h1
  rw [h1] at HB
  clear h1
  go_enter Try.func13, Try.ntmps13
  go_upto_region 1 with fail
  obtain ⟨w1, hw1⟩ : ∃ w1, w1 = (w.alloc (Obj.cells ent.cells.toArray 35)).alloc (.cells (zI 0).toArray 30) := ⟨_, rfl⟩
  obtain ⟨b1, hb1⟩ : ∃ b, b = w.heap.size := ⟨_, rfl⟩
  obtain ⟨b2, hb2⟩ : ∃ b, b = (w.alloc (Obj.cells ent.cells.toArray 35)).heap.size := ⟨_, rfl⟩
  have hb2' : b2 = w.heap.size + 1 := by rw [hb2]; simp
  have M1 : Hid (Mem w w1.drew [(b1, ent.cells, 35), (b2, zI 0, 30)]) := Lib.hid (by rw [hw1, hb1, hb2]; exact M.out.drew 1)
  rw [← hw1, ← hb2', ← hb1]
  clear hw1 hb1 hb2 hb2' M
  go_cut [4, 5] from 11 to 14 (fun s4 s5 w' => ∃ b4 b5, s4 = .pointer (some ⟨b4, 0, none⟩) ∧ s5 = .pointer (some ⟨b5, 0, none⟩) ∧ Mem w w' [(b1, ent.cells, 35), (b2, zI 0, 30), (b4, u8l ent.k, 32), (b5, u8l ent.v, 33)])
  case first =>
    have hH0 : (fun w' => w'.rangeAt b1 0 (u8l ent.k) ∧ w'.rangeAt b1 40 (u8l ent.v)) w1.drew := ⟨M1.out.range 0 rfl 0 (u8l ent.k) (k_sub ent), M1.out.range 0 rfl 40 (u8l ent.v) (v_sub ok)⟩
    refine wp_region_held_drew (S := fun w' => w'.rangeAt b1 0 (u8l ent.k) ∧ w'.rangeAt b1 40 (u8l ent.v)) follows hH0 (fun hHeld => ?_)
    obtain ⟨w2, hw2⟩ : ∃ w2, w2 = w1.drew := ⟨_, rfl⟩
    rw [← hw2] at M1 hHeld ⊢
    clear hw2 hH0
    refine wpAnyH_take (i := 0) (v := ?_) (by simp only [List.getElem?_toArray, List.getElem?_cons_zero]; rfl) (by kernel_rfl) (by kernel_rfl) (by kernel_rfl) (by intro _ _ _ h; exact h) (Or.inl ⟨by rfl, ?_⟩) hHeld ?_
    rotate_left
    · (intro w hSw; (try dsimp only at hSw); go_simp; try with_reducible rfl)
    try simp only [Act.put, List.setIfInBounds_toArray, List.set_cons_zero, List.set_cons_succ]
    refine wpAnyH_take (i := 1) (v := _) (by simp only [List.getElem?_toArray, List.getElem?_cons_zero, List.getElem?_cons_succ]; rfl) (by kernel_rfl) (by kernel_rfl) (by kernel_rfl) (by intro _ _ _ h; exact h) (yieldsIf_load_mid (by rfl) 32 (.tmp 11) rfl b1 0 rfl (u8l ent.k) _ (fun _ h => h.1) Try.underlying32 rfl hkl.out) hHeld ?_
    try simp only [Act.put, List.setIfInBounds_toArray, List.set_cons_zero, List.set_cons_succ]
    refine wpAnyH_take (i := 2) (v := ?_) (by simp only [List.getElem?_toArray, List.getElem?_cons_zero, List.getElem?_cons_succ]; rfl) (by kernel_rfl) (by kernel_rfl) (by kernel_rfl) (by intro _ _ _ h; exact h) (Or.inl ⟨by rfl, ?_⟩) hHeld ?_
    rotate_left
    · (intro w hSw; (try dsimp only at hSw); go_simp; try with_reducible rfl)
    try simp only [Act.put, List.setIfInBounds_toArray, List.set_cons_zero, List.set_cons_succ]
    refine wpAnyH_take (i := 3) (v := _) (by simp only [List.getElem?_toArray, List.getElem?_cons_zero, List.getElem?_cons_succ]; rfl) (by kernel_rfl) (by kernel_rfl) (by kernel_rfl) (by intro _ _ _ h; exact h) (yieldsIf_load_mid (by rfl) 33 (.tmp 13) rfl b1 40 rfl (u8l ent.v) _ (fun _ h => h.2) Try.underlying33 rfl hvl.out) hHeld ?_
    try simp only [Act.put, List.setIfInBounds_toArray, List.set_cons_zero, List.set_cons_succ]
    refine wpAnyH_ready (rs := [4, 5]) (by kernel_rfl) (by simp) ?_
    refine AllReadyH.cons (by simp only [List.getElem?_toArray, List.getElem?_cons_zero, List.getElem?_cons_succ]; rfl) (fun K hK => ?_) (AllReadyH.cons (by simp only [List.getElem?_toArray, List.getElem?_cons_zero, List.getElem?_cons_succ]; rfl) (fun K hK => ?_) AllReadyH.nil)
    · go_simp
      obtain ⟨x1, hx1⟩ : ∃ b, b = w2.heap.size := ⟨_, rfl⟩
      have N1 : Hid (Mem w (w2.alloc (.cells (zb 40).toArray 32)) [(b1, ent.cells, 35), (b2, zI 0, 30), (x1, zb 40, 32)]) := Lib.hid (by rw [hx1]; exact M1.out.push (zb 40) 32)
      rw [← hx1]
      refine hK.out _ _ ⟨N1.out.range 0 rfl 0 (u8l ent.k) (k_sub ent), N1.out.range 0 rfl 40 (u8l ent.v) (v_sub ok)⟩ (fun hHeld => ?_)
      clear hK K hx1
      try simp only [Act.put, List.setIfInBounds_toArray, List.set_cons_zero, List.set_cons_succ]
      refine wpAnyH_ready (rs := [5]) (by kernel_rfl) (by simp) ?_
      refine AllReadyH.cons (by simp only [List.getElem?_toArray, List.getElem?_cons_zero, List.getElem?_cons_succ]; rfl) (fun K hK => ?_) AllReadyH.nil
      go_simp
      obtain ⟨y1, hy1⟩ : ∃ w', w' = w2.alloc (.cells (zb 40).toArray 32) := ⟨_, rfl⟩
      have hs2 : y1.heap.size = w2.heap.size + 1 := by rw [hy1]; simp
      rw [← hy1] at N1
      obtain ⟨x2, hx2⟩ : ∃ b, b = y1.heap.size := ⟨_, rfl⟩
      have N2 : Hid (Mem w (y1.alloc (.cells (zb 40).toArray 33)) [(b1, ent.cells, 35), (b2, zI 0, 30), (x1, zb 40, 32), (x2, zb 40, 33)]) := Lib.hid (by rw [hx2]; exact N1.out.push (zb 40) 33)
      try rw [← hy1]
      try rw [← hs2]
      try rw [← hx2]
      refine hK.out _ _ ⟨N2.out.range 0 rfl 0 (u8l ent.k) (k_sub ent), N2.out.range 0 rfl 40 (u8l ent.v) (v_sub ok)⟩ (fun hHeld => ?_)
      clear hK K hy1 hx2 hs2
      try simp only [Act.put, List.setIfInBounds_toArray, List.set_cons_zero, List.set_cons_succ]
      refine wpAnyH_ready (rs := [6]) (by kernel_rfl) (by simp) ?_
      refine AllReadyH.cons (by simp only [List.getElem?_toArray, List.getElem?_cons_zero, List.getElem?_cons_succ]; rfl) (fun K hK => ?_) AllReadyH.nil
      rw [if_pos (by rfl)]
      refine wp_store_seg 32 (.tmp 4) (.tmp 12) rfl x1 0 rfl (u8l ent.k) rfl N2.out 2 _ 32 rfl hkl.out (by rw [hk40.out]; simp [zb_len]) u8l_one ?_
      intro y3 N3 hs_
      refine hK.out _ _ ⟨N3.out.range 0 rfl 0 (u8l ent.k) (k_sub ent), N3.out.range 0 rfl 40 (u8l ent.v) (v_sub ok)⟩ (fun hHeld => ?_)
      clear hK K hs_
      refine wpAnyH_ready (rs := [7]) (by kernel_rfl) (by simp) ?_
      refine AllReadyH.cons (by simp only [List.getElem?_toArray, List.getElem?_cons_zero, List.getElem?_cons_succ]; rfl) (fun K hK => ?_) AllReadyH.nil
      rw [if_pos (by rfl)]
      refine wp_store_seg 33 (.tmp 5) (.tmp 14) rfl x2 0 rfl (u8l ent.v) rfl N3.out 3 _ 33 rfl hvl.out (by rw [hv40.out]; simp [zb_len]) u8l_one ?_
      intro y4 N4 hs_
      refine hK.out _ _ ⟨N4.out.range 0 rfl 0 (u8l ent.k) (k_sub ent), N4.out.range 0 rfl 40 (u8l ent.v) (v_sub ok)⟩ (fun hHeld => ?_)
      clear hK K hs_
      refine wpAnyH_done (by kernel_rfl) ?_ _
      have N5 : Mem w y4 [(b1, ent.cells, 35), (b2, zI 0, 30), (x1, u8l ent.k, 32), (x2, u8l ent.v, 33)] := by
        have q := N4.out
        rw [splice_all _ _ (by rw [zb_len, hk40.out]), splice_all _ _ (by rw [zb_len, hv40.out])] at q
        exact q
      go_wp2_with fail
      go_meet
      case rel => exact ⟨_, _, rfl, rfl, N5⟩
    · go_simp
      obtain ⟨x1, hx1⟩ : ∃ b, b = w2.heap.size := ⟨_, rfl⟩
      have N1 : Hid (Mem w (w2.alloc (.cells (zb 40).toArray 33)) [(b1, ent.cells, 35), (b2, zI 0, 30), (x1, zb 40, 33)]) := Lib.hid (by rw [hx1]; exact M1.out.push (zb 40) 33)
      rw [← hx1]
      refine hK.out _ _ ⟨N1.out.range 0 rfl 0 (u8l ent.k) (k_sub ent), N1.out.range 0 rfl 40 (u8l ent.v) (v_sub ok)⟩ (fun hHeld => ?_)
      clear hK K hx1
      try simp only [Act.put, List.setIfInBounds_toArray, List.set_cons_zero, List.set_cons_succ]
      refine wpAnyH_ready (rs := [4]) (by kernel_rfl) (by simp) ?_
      refine AllReadyH.cons (by simp only [List.getElem?_toArray, List.getElem?_cons_zero, List.getElem?_cons_succ]; rfl) (fun K hK => ?_) AllReadyH.nil
      go_simp
      obtain ⟨y1, hy1⟩ : ∃ w', w' = w2.alloc (.cells (zb 40).toArray 33) := ⟨_, rfl⟩
      have hs2 : y1.heap.size = w2.heap.size + 1 := by rw [hy1]; simp
      rw [← hy1] at N1
      obtain ⟨x2, hx2⟩ : ∃ b, b = y1.heap.size := ⟨_, rfl⟩
      have N2 : Hid (Mem w (y1.alloc (.cells (zb 40).toArray 32)) [(b1, ent.cells, 35), (b2, zI 0, 30), (x1, zb 40, 33), (x2, zb 40, 32)]) := Lib.hid (by rw [hx2]; exact N1.out.push (zb 40) 32)
      try rw [← hy1]
      try rw [← hs2]
      try rw [← hx2]
      refine hK.out _ _ ⟨N2.out.range 0 rfl 0 (u8l ent.k) (k_sub ent), N2.out.range 0 rfl 40 (u8l ent.v) (v_sub ok)⟩ (fun hHeld => ?_)
      clear hK K hy1 hx2 hs2
      try simp only [Act.put, List.setIfInBounds_toArray, List.set_cons_zero, List.set_cons_succ]
      refine wpAnyH_ready (rs := [6]) (by kernel_rfl) (by simp) ?_
      refine AllReadyH.cons (by simp only [List.getElem?_toArray, List.getElem?_cons_zero, List.getElem?_cons_succ]; rfl) (fun K hK => ?_) AllReadyH.nil
      rw [if_pos (by rfl)]
      refine wp_store_seg 32 (.tmp 4) (.tmp 12) rfl x2 0 rfl (u8l ent.k) rfl N2.out 3 _ 32 rfl hkl.out (by rw [hk40.out]; simp [zb_len]) u8l_one ?_
      intro y3 N3 hs_
      refine hK.out _ _ ⟨N3.out.range 0 rfl 0 (u8l ent.k) (k_sub ent), N3.out.range 0 rfl 40 (u8l ent.v) (v_sub ok)⟩ (fun hHeld => ?_)
      clear hK K hs_
      refine wpAnyH_ready (rs := [7]) (by kernel_rfl) (by simp) ?_
      refine AllReadyH.cons (by simp only [List.getElem?_toArray, List.getElem?_cons_zero, List.getElem?_cons_succ]; rfl) (fun K hK => ?_) AllReadyH.nil
      rw [if_pos (by rfl)]
      refine wp_store_seg 33 (.tmp 5) (.tmp 14) rfl x1 0 rfl (u8l ent.v) rfl N3.out 2 _ 33 rfl hvl.out (by rw [hv40.out]; simp [zb_len]) u8l_one ?_
      intro y4 N4 hs_
      refine hK.out _ _ ⟨N4.out.range 0 rfl 0 (u8l ent.k) (k_sub ent), N4.out.range 0 rfl 40 (u8l ent.v) (v_sub ok)⟩ (fun hHeld => ?_)
      clear hK K hs_
      refine wpAnyH_done (by kernel_rfl) ?_ _
      have N5 : Mem w y4 [(b1, ent.cells, 35), (b2, zI 0, 30), (x1, u8l ent.v, 33), (x2, u8l ent.k, 32)] := by
        have q := N4.out
        rw [splice_all _ _ (by rw [zb_len, hk40.out]), splice_all _ _ (by rw [zb_len, hv40.out])] at q
        exact q
      go_wp2_with fail
      go_meet
      case rel => exact ⟨_, _, rfl, rfl, N5.perm (.cons _ (.cons _ (.swap _ _ _)))⟩
  case rest =>
    obtain ⟨b4, b5, rfl, rfl, hM⟩ := hcut
    have M3 := Lib.hid hM
    clear hM M1
    have HOT : Hid (ent.it2.right = true → ent.it2.ent.kv = ent.kv → itemOut ent = .tuple #[.agg ent.it2.cells.toArray, .int .i64 0]) := Lib.hid (itemOut_t2 HK.out)
    have HOF : Hid (¬ (ent.it2.right = true ∧ ent.it2.ent.kv = ent.kv) → itemOut ent = .tuple #[.agg (zI 0).toArray, .int .i64 4]) := Lib.hid (itemOut_f2 HK.out)
    have c0 : wc.cell? ⟨b4, 0, none⟩ = some (.int .u8 2) := M3.out.cell 2 rfl 0 HB.out
    go_upto_region 3 with first
      | (refine wpList_buildG rfl 30 [(0, .tmp 16)] rfl [(0, .int .u8 2)] rfl _ (build30 _ _) ?_)
      | (refine wpList_store_seg rfl 30 (.tmp 6) (.tmp 17) rfl wc.heap.size 0 rfl (zI 2) rfl (M3.out.push (zI 0) 30) 4 (zI 0) 30 rfl info30 (by simp [zI, zb]) (zI_one _) rfl ?_; intro w3 M4 hs3)
    obtain ⟨b6, hb6⟩ : ∃ b, b = wc.heap.size := ⟨_, rfl⟩
    rw [← hb6]
    have M5 : Hid (Mem w w3 [(b1, ent.cells, 35), (b2, zI 0, 30), (b4, u8l ent.k, 32), (b5, u8l ent.v, 33), (b6, zI 2, 30)]) := Lib.hid (by rw [hb6]; exact M4.out)
    clear M4 hs3 M3 c0 hb6
    have c0 : w3.cell? ⟨b6, 0, none⟩ = some (.int .u8 2) := M5.out.cell 4 rfl 0 rfl
    go_wp2_with fail
    refine (number24e ok.k M5.out 2 rfl 1 4 _ (by omega) (by omega)).mono ?_
    rintro r _ ⟨rfl, m1, rfl⟩
    have M6 := Lib.hid (M5.out.drew m1)
    rw [← e8_k ok 1 (by omega)]
    clear M5 c0
    go_wp2_with (refine wpList_store_one rfl 3 (.tmp 50) (.tmp 49) rfl b6 37 rfl .i64 ent.it2.sn rfl M6.out 4 _ 30 rfl info3 (by simp [zI, zb]) rfl ?_; intro w7 M7 hs7)
    refine (number24e ok.k M7.out 2 rfl 5 4 _ (by omega) (by omega)).mono ?_
    rintro r _ ⟨rfl, m2, rfl⟩
    have M8 := Lib.hid (M7.out.drew m2)
    rw [← e8_k ok 5 (by omega)]
    clear M7 M6 hs7
    obtain ⟨skey, hskey⟩ : ∃ key, key = ent.it2.skey := ⟨_, rfl⟩
    have hsl : Hid (skey.length = 32) := Lib.hid (by rw [hskey]; exact (it2_ok ok).skey.1)
    have HKey := Lib.hid hskey
    obtain ⟨HD, hHD⟩ : ∃ H, H = [.int .u8 2] ++ zb 32 ++ [.int .i64 0, .int .i64 0, .int .i64 0, .int .i64 0, .int .i64 ent.it2.sn, .int .i64 ent.it2.un] := ⟨_, rfl⟩
    have hHl : Hid (HD.length = 39) := Lib.hid (by rw [hHD]; simp [zb_len])
    have HHD := Lib.hid hHD
    clear hskey hHD
    go_wp2_with (refine wpList_store_one rfl 3 (.tmp 53) (.tmp 52) rfl b6 38 rfl .i64 ent.it2.un rfl M8.out 4 _ 30 rfl info3 (by simp [zI, zb, splice]) rfl ?_; intro w9 M9 hs9)
    have M10 : Hid (Mem w w9 [(b1, ent.cells, 35), (b2, zI 0, 30), (b4, u8l ent.k, 32), (b5, u8l ent.v, 33), (b6, HD ++ (pz 32 (skey.take 0) ++ [.int .i64 0, .int .i64 0]), 30)]) := Lib.hid (by
      have q := M9.out
      rw [it2_head] at q
      rw [List.take_zero, pz_nil, HHD.out]
      exact q)
    clear M9 M8 hs9
    go_loopw [8] (fun i_ wr => ∃ n : Nat, n ≤ 32 ∧ i_ = .int .i64 n ∧ Mem w wr [(b1, ent.cells, 35), (b2, zI 0, 30), (b4, u8l ent.k, 32), (b5, u8l ent.v, 33), (b6, HD ++ (pz 32 (skey.take n) ++ [.int .i64 0, .int .i64 0]), 30)]) (fun i_ _ => 32 - (intOf i_).toNat)
    case atStart => exact ⟨0, Nat.zero_le _, rfl, M10.out⟩
    case round =>
      clear M10
      obtain ⟨n, hn, rfl, hm⟩ := hrel
      have HM := Lib.hid hm
      clear hm
      by_cases hlt : n < 32
      · obtain ⟨x, hx⟩ : ∃ x, skey[n]? = some x := ⟨_, List.getElem?_eq_getElem (by rw [hsl.out]; exact hlt)⟩
        have c1 : wr.cell? ⟨b5, n, none⟩ = some (.int .u8 x) := HM.out.cell 3 rfl n (by
          rw [HKey.out] at hx
          exact skey_cell ok n x hlt hx)
        have hsz : 39 + n < (HD ++ (pz 32 (skey.take n) ++ [Value.int .i64 0, Value.int .i64 0])).length := by
          rw [List.length_append, hHl.out]
          simp [pz, u8l_len, zb_len]; omega
        obtain ⟨u, hu⟩ : ∃ u, wr.cell? ⟨b6, 39 + n, none⟩ = some u := ⟨_, HM.out.cell 4 rfl (39 + n) (List.getElem?_eq_getElem hsz)⟩
        have hfz : wr.frozen? ⟨b6, 39 + n, none⟩ = false := HM.out.froz 4 rfl (39 + n)
        have HX := Lib.hid hx
        have j1 : (0 : Int) ≤ n := by omega
        have j2 : (n : Int) < 32 := by omega
        have j3 : (n : Int) < 40 := by omega
        clear hx hsz
        go_wp2_with fail
        refine ⟨⟨n + 1, by omega, by go_num, ?_⟩, by simp [intOf]; omega⟩
        have q := HM.out.setCell 4 rfl (39 + n) (.int .u8 x)
        rw [pz_set 32 skey n x HX.out (by rw [hsl.out]; omega) HD [.int .i64 0, .int .i64 0] (39 + n) (by rw [hHl.out])] at q
        exact q
      · obtain rfl : n = 32 := by omega
        rw [List.take_of_length_le (by rw [hsl.out]; exact Nat.le_refl _)] at HM
        have wso : IntKind.i64.wrap ent.it2.so = ent.it2.so := so_wrap ok
        have wsm : IntKind.i64.wrap ent.it2.sm = ent.it2.sm := sm_wrap ok
        have d0 : wr.cell? ⟨b5, 32, none⟩ = some (.int .u8 ent.it2.so) := HM.out.cell 3 rfl 32 (v_cell ok 32 (by omega))
        have hpl : Hid ((HD ++ (pz 32 skey ++ [Value.int .i64 0, Value.int .i64 0])).length = 73) := Lib.hid (by
          rw [List.length_append, List.length_append, hHl.out, pz_len 32 _ (by rw [hsl.out]; exact Nat.le_refl _)]; rfl)
        go_upto_region 20 with first
          | (refine wpList_store_one rfl 3 (.tmp 69) (.tmp 67) rfl b6 71 rfl .i64 ent.it2.so rfl HM.out 4 _ 30 rfl info3 (by rw [hpl.out]; omega) rfl ?_; intro w11 M11 hs11; have d1 : w11.cell? ⟨b5, 33, none⟩ = some (.int .u8 ent.it2.sm) := M11.out.cell 3 rfl 33 (v_cell ok 33 (by omega)))
          | (refine wpList_store_one rfl 3 (.tmp 74) (.tmp 72) rfl b6 72 rfl .i64 ent.it2.sm rfl M11.out 4 _ 30 rfl info3 (by rw [length_splice _ _ _ (by rw [hpl.out]; simp), hpl.out]; omega) rfl ?_; intro w12 M12 hs12)
        have M13 : Hid (Mem w w12 [(b1, ent.cells, 35), (b2, zI 0, 30), (b4, u8l ent.k, 32), (b5, u8l ent.v, 33), (b6, ent.it2.cells, 30)]) := Lib.hid (by
          have q := M12.out
          rw [HHD.out, HKey.out, it2_put ok] at q
          exact q)
        clear M12 M11 HM d0 d1 hs11 hs12
        have g6 := M13.out.all 4 rfl
        have hx : Hid ((Try.prog.info? 30).map (·.size) = some ent.it2.cells.length) := Lib.hid (by rw [Itm.len (it2_ok ok)]; exact info30)
        go_wp2_with (refine wpList_load_midG rfl 30 (.tmp 6) rfl b6 0 rfl ent.it2.cells _ g6 Try.underlying30 rfl hx.out ?_)
        refine (of10 ent.it2 (it2_ok ok) _).mono ?_
        rintro r wy ⟨rfl, hb⟩
        have MY := Lib.hid (M13.out.go hb)
        clear hb g6 M13
        cases hR : ent.it2.right
        · rw [ofOut_f hR]
          have HO : Hid (itemOut ent = .tuple #[.agg (zI 0).toArray, .int .i64 4]) := Lib.hid (HOF.out (by rw [hR]; simp))
          clear hR
          go_wp2_with first
            | (refine wpList_store_seg rfl 35 (.tmp 9) (.tmp 78) rfl wy.heap.size 0 rfl zE rfl (MY.out.push zE 35) 5 _ 35 rfl info35 (by simp) zb_one rfl ?_; intro w5 M5 hs5)
            | (refine wpList_buildG rfl 30 [] rfl [] rfl _ (build30z _) ?_)
            | (refine wpList_store_seg rfl 30 (.tmp 2) (.tmp 87) rfl b2 0 rfl (zI 0) rfl M5.out 1 _ 30 rfl info30 (by simp) (zI_one 0) rfl ?_; intro wz Mz hsz)
          have hz : wz.rangeAt b2 0 (zI 0) := by
            have q := Mz.out.all 1 rfl
            rw [splice_all _ _ rfl] at q
            exact q
          have hbz := Mz.out.below
          clear Mz
          refine bodyPost_ret (results_cell_mid rfl _ _ b2 _ _ rfl hz Try.underlying30 rfl info30) rfl ?_
          exact ⟨by rw [HO.out]; rfl, hbz⟩
        · rw [ofOut_t hR]
          have HR := Lib.hid hR
          have hxe : Hid ((Try.prog.info? 35).map (·.size) = some ent.it2.ent.cells.length) := Lib.hid (by rw [ent_len (it2_ok ok)]; exact info35)
          have hxl : Hid (ent.it2.ent.cells.length = 80) := Lib.hid (ent_len (it2_ok ok))
          clear hR
          go_upto_region 21 with (refine wpList_store_seg rfl 35 (.tmp 9) (.tmp 78) rfl wy.heap.size 0 rfl ent.it2.ent.cells rfl (MY.out.push zE 35) 5 _ 35 rfl hxe.out (by rw [hxl.out]; simp [zE, zb]) u8l_one rfl ?_; intro w5 M5 hs5)
          obtain ⟨b7, hb7⟩ : ∃ b, b = wy.heap.size := ⟨_, rfl⟩
          rw [← hb7]
          have M5' : Hid (Mem w w5 [(b1, ent.cells, 35), (b2, zI 0, 30), (b4, u8l ent.k, 32), (b5, u8l ent.v, 33), (b6, ent.it2.cells, 30), (b7, ent.it2.ent.cells, 35)]) := Lib.hid (by
            have q := M5.out
            rw [splice_all _ _ (by rw [hxl.out]; rfl)] at q
            rw [hb7]; exact q)
          clear M5 hs5 MY hb7
          obtain ⟨r, hr, hri⟩ := eqr35 (ent_ok (it2_ok ok)) ok w5
          have HRI := Lib.hid hri
          clear hri
          have g7 := M5'.out.all 5 rfl
          have g1 := M5'.out.all 0 rfl
          have g6 := M5'.out.all 4 rfl
          cases r
          · have HO : Hid (itemOut ent = .tuple #[.agg (zI 0).toArray, .int .i64 4]) := Lib.hid (HOF.out (by
              rintro ⟨_, h⟩
              have := HRI.out.2 (by rw [Ent.cells_kv, Ent.cells_kv, h])
              cases this))
            clear HRI
            go_wp2_with first
              | (refine wpList_load_midG rfl 35 (.tmp 9) rfl b7 0 rfl ent.it2.ent.cells _ g7 Try.underlying35 rfl hxe.out ?_)
              | (refine wpList_load_midG rfl 35 (.tmp 1) rfl b1 0 rfl ent.cells _ g1 Try.underlying35 rfl hel.out ?_)
              | (refine wpList_neqG rfl 35 (.tmp 83) (.tmp 84) rfl ent.it2.ent.cells.toArray ent.cells.toArray rfl rfl false eqg35 hr ?_)
              | (refine wpList_buildG rfl 30 [] rfl [] rfl _ (build30z _) ?_)
              | (refine wpList_store_seg rfl 30 (.tmp 2) (.tmp 87) rfl b2 0 rfl (zI 0) rfl M5'.out 1 _ 30 rfl info30 (by simp) (zI_one 0) rfl ?_; intro wz Mz hsz)
            have hz : wz.rangeAt b2 0 (zI 0) := by
              have q := Mz.out.all 1 rfl
              rw [splice_all _ _ rfl] at q
              exact q
            have hbz := Mz.out.below
            clear Mz
            refine bodyPost_ret (results_cell_mid rfl _ _ b2 _ _ rfl hz Try.underlying30 rfl info30) rfl ?_
            exact ⟨by rw [HO.out]; rfl, hbz⟩
          · have HO : Hid (itemOut ent = .tuple #[.agg ent.it2.cells.toArray, .int .i64 0]) := Lib.hid (HOT.out HR.out (u8l_inj (HRI.out.1 rfl)))
            have hxc : Hid (ent.it2.cells.length = 73) := Lib.hid (Itm.len (it2_ok ok))
            clear HRI
            go_wp2_with first
              | (refine wpList_load_midG rfl 35 (.tmp 9) rfl b7 0 rfl ent.it2.ent.cells _ g7 Try.underlying35 rfl hxe.out ?_)
              | (refine wpList_load_midG rfl 35 (.tmp 1) rfl b1 0 rfl ent.cells _ g1 Try.underlying35 rfl hel.out ?_)
              | (refine wpList_neqG rfl 35 (.tmp 83) (.tmp 84) rfl ent.it2.ent.cells.toArray ent.cells.toArray rfl rfl true eqg35 hr ?_)
              | (refine wpList_load_midG rfl 30 (.tmp 6) rfl b6 0 rfl ent.it2.cells _ g6 Try.underlying30 rfl hx.out ?_)
              | (refine wpList_store_seg rfl 30 (.tmp 2) (.tmp 88) rfl b2 0 rfl ent.it2.cells rfl M5'.out 1 _ 30 rfl hx.out (by rw [hxc.out]; simp [zI, zb]) (item_one (it2_ok ok)) rfl ?_; intro wz Mz hsz)
            have hz : wz.rangeAt b2 0 ent.it2.cells := by
              have q := Mz.out.all 1 rfl
              rw [splice_all _ _ (by rw [hxc.out]; rfl)] at q
              exact q
            have hbz := Mz.out.below
            clear Mz
            refine bodyPost_ret (results_cell_mid rfl _ _ b2 _ _ rfl hz Try.underlying30 rfl hx.out) rfl ?_
            exact ⟨by rw [HO.out]; rfl, hbz⟩
end Go.Proofs.Ytmckngkmlhemoaa
