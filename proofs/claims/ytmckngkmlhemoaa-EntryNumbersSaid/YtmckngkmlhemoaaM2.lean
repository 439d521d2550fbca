/- entry.Of (layer 14) at an item of kind 2. Printed by genM.py. -/
import Derived.Test.YtmckngkmlhemoaaL
namespace Go.Proofs.Ytmckngkmlhemoaa
open Go.RowKit
set_option maxRecDepth 100000 in
set_option maxHeartbeats 4000000 in
theorem of9_2 (i : Itm) (ok : i.Ok) (w : World) (h1 : i.kind = 2) : Calls Try.prog 9 #[.agg i.cells.toArray] w fun e w' => e = .returned (ofOut i) ∧ Below w.heap.size w w' := by
  have M := Lib.hid (((Mem.nil w).push i.cells 30).push zE 35)
  have z35 := zero35
  have z30 := zero30
  have z26 := zero26
  have z28 := zero28
  have HI := Lib.hid (Itm.is ok)
  have hlk : Hid ((Try.prog.info? 24).map (·.size) = some (u8l i.key).length) := Lib.hid (by rw [HI.out.key_len]; exact info24)
  have hls : Hid ((Try.prog.info? 28).map (·.size) = some i.sl.length) := Lib.hid (by rw [HI.out.sl_len]; exact info28)
  have hlc : Hid (i.cells.length = 73) := Lib.hid (Itm.len ok)
  have hlk2 : Hid (i.key.length = 32) := Lib.hid ok.key.1
  have H1 := Lib.hid h1
  go_enter Try.func9, Try.ntmps9
  go_upto_region 1 with fail
  obtain ⟨w1, hw1⟩ : ∃ w1, w1 = (w.alloc (Obj.cells i.cells.toArray 30)).alloc (.cells zE.toArray 35) := ⟨_, rfl⟩
  obtain ⟨b1, hb1⟩ : ∃ b, b = w.heap.size := ⟨_, rfl⟩
  obtain ⟨b2, hb2⟩ : ∃ b, b = (w.alloc (Obj.cells i.cells.toArray 30)).heap.size := ⟨_, rfl⟩
  have hb2' : b2 = w.heap.size + 1 := by rw [hb2]; simp
  have M1 : Hid (Mem w w1 [(b1, i.cells, 30), (b2, zE, 35)]) := Lib.hid (by rw [hw1, hb1, hb2]; exact M.out)
  rw [← hw1, ← hb2', ← hb1]
  have c0 : w1.cell? ⟨b1, 0, none⟩ = some (.int .u8 2) := M1.out.cell 0 rfl 0 (by rw [← h1]; rfl)
  clear hw1 hb1 hb2 hb2' M h1
  go_upto_region 2 with first
    | (refine wpList_buildG rfl 32 [(0, .tmp 15)] rfl [(0, .int .u8 2)] rfl _ (build32 _ _) ?_)
    | (refine wpList_buildG rfl 35 [(0, .tmp 16)] rfl [(0, .agg (.int .u8 2 :: zb 39).toArray)] rfl _ (build35 _ _) ?_)
    | (refine wpList_store_seg rfl 35 (.tmp 4) (.tmp 17) rfl w1.heap.size 0 rfl (.int .u8 2 :: zb 79) rfl (M1.out.push zE 35) 2 zE 35 rfl info35 (by simp [zE, zb]) (by simp [zb, Value.oneCell']) rfl ?_; intro w2 M2 hs2)
  obtain ⟨b4, hb4⟩ : ∃ b, b = w1.heap.size := ⟨_, rfl⟩
  rw [← hb4]
  have M2' : Hid (Mem w w2 [(b1, i.cells, 30), (b2, zE, 35), (b4, .int .u8 2 :: zb 79, 35)]) := Lib.hid (by rw [hb4]; exact M2.out)
  clear M2 hs2 M1 c0 hb4
  go_quiet (fail)
  have M3 : Hid (Mem w (w2.drewN nq) [(b1, i.cells, 30), (b2, zE, 35), (b4, .int .u8 2 :: zb 79, 35)]) := Lib.hid (M2'.out.drew nq)
  clear M2'
  obtain ⟨w3, hw3⟩ : ∃ w3, w3 = w2.drewN nq := ⟨_, rfl⟩
  rw [← hw3] at M3 ⊢
  clear hw3
  have c0 : w3.cell? ⟨b1, 0, none⟩ = some (.int .u8 2) := M3.out.cell 0 rfl 0 (by rw [← H1.out]; rfl)
  go_upto_region 4 with first
    | (refine wpList_buildG rfl 30 [(0, .tmp 23)] rfl [(0, .int .u8 2)] rfl _ (build30 _ _) ?_)
    | (refine wpList_store_seg rfl 30 (.tmp 7) (.tmp 24) rfl w3.heap.size 0 rfl (zI 2) rfl (M3.out.push (zI 0) 30) 3 (zI 0) 30 rfl info30 (by simp [zI, zb]) (zI_one _) rfl ?_; intro w4 M4 hs4)
  --STOP0
  obtain ⟨b7, hb7⟩ : ∃ b, b = w3.heap.size := ⟨_, rfl⟩
  rw [← hb7]
  have M4' : Hid (Mem w w4 [(b1, i.cells, 30), (b2, zE, 35), (b4, .int .u8 2 :: zb 79, 35), (b7, zI 2, 30)]) := Lib.hid (by rw [hb7]; exact M4.out)
  clear M4 hs4 M3 c0 hb7
  have c0 : w4.cell? ⟨b1, 0, none⟩ = some (.int .u8 2) := M4'.out.cell 0 rfl 0 (by rw [← H1.out]; rfl)
  go_upto_region 17 with fail
  have M5 : Hid (Mem w w4.drew [(b1, i.cells, 30), (b2, zE, 35), (b4, .int .u8 2 :: zb 79, 35), (b7, zI 2, 30)]) := Lib.hid (M4'.out.drew 1)
  have hH0 : (fun w' => w'.cell? ⟨b1, 37, none⟩ = some (.int .i64 i.sn) ∧ w'.cell? ⟨b1, 38, none⟩ = some (.int .i64 i.un) ∧ w'.rangeAt b1 39 i.sl) w4.drew := (let g := HI.out.at_ (M5.out.get 0 rfl); ⟨g.2.2.2.1, g.2.2.2.2.1, g.2.2.2.2.2⟩)
  refine wp_region_held_drew (S := fun w' => w'.cell? ⟨b1, 37, none⟩ = some (.int .i64 i.sn) ∧ w'.cell? ⟨b1, 38, none⟩ = some (.int .i64 i.un) ∧ w'.rangeAt b1 39 i.sl) follows hH0 (fun hHeld => ?_)
  obtain ⟨w5, hw5⟩ : ∃ w5, w5 = w4.drew := ⟨_, rfl⟩
  rw [← hw5] at M5 hHeld ⊢
  clear hw5 hH0 M4' c0
  refine wpAnyH_take (i := 0) (v := ?_) (by simp only [List.getElem?_toArray, List.getElem?_cons_zero]; rfl) (by kernel_rfl) (by kernel_rfl) (by kernel_rfl) (by intro _ _ _ h; exact h) (Or.inl ⟨by rfl, ?_⟩) hHeld ?_
  rotate_left
  · (intro w hSw; (try dsimp only at hSw); go_simp; try with_reducible rfl)
  try simp only [Act.put, List.setIfInBounds_toArray, List.set_cons_zero, List.set_cons_succ]
  refine wpAnyH_take (i := 1) (v := ?_) (by simp only [List.getElem?_toArray, List.getElem?_cons_zero, List.getElem?_cons_succ]; rfl) (by kernel_rfl) (by kernel_rfl) (by kernel_rfl) (by intro _ _ _ h; exact h) (Or.inl ⟨by rfl, ?_⟩) hHeld ?_
  rotate_left
  · (intro w hSw; (try dsimp only at hSw); go_simp; try with_reducible rfl)
  try simp only [Act.put, List.setIfInBounds_toArray, List.set_cons_zero, List.set_cons_succ]
  refine wpAnyH_take (i := 2) (v := ?_) (by simp only [List.getElem?_toArray, List.getElem?_cons_zero, List.getElem?_cons_succ]; rfl) (by kernel_rfl) (by kernel_rfl) (by kernel_rfl) (by intro _ _ _ h; exact h) (Or.inl ⟨by rfl, ?_⟩) hHeld ?_
  rotate_left
  · (intro w hSw; (try dsimp only at hSw); go_simp; try with_reducible rfl)
  try simp only [Act.put, List.setIfInBounds_toArray, List.set_cons_zero, List.set_cons_succ]
  refine wpAnyH_take (i := 3) (v := ?_) (by simp only [List.getElem?_toArray, List.getElem?_cons_zero, List.getElem?_cons_succ]; rfl) (by kernel_rfl) (by kernel_rfl) (by kernel_rfl) (by intro _ _ _ h; exact h) (Or.inl ⟨by rfl, ?_⟩) hHeld ?_
  rotate_left
  · (intro w hSw; (try dsimp only at hSw); go_simp; try with_reducible rfl)
  try simp only [Act.put, List.setIfInBounds_toArray, List.set_cons_zero, List.set_cons_succ]
  refine wpAnyH_take (i := 4) (v := ?_) (by simp only [List.getElem?_toArray, List.getElem?_cons_zero, List.getElem?_cons_succ]; rfl) (by kernel_rfl) (by kernel_rfl) (by kernel_rfl) (by intro _ _ _ h; exact h) (Or.inl ⟨by rfl, ?_⟩) hHeld ?_
  rotate_left
  · (intro w hSw; (try dsimp only at hSw); go_simp; try with_reducible rfl)
  try simp only [Act.put, List.setIfInBounds_toArray, List.set_cons_zero, List.set_cons_succ]
  refine wpAnyH_take (i := 5) (v := _) (by simp only [List.getElem?_toArray, List.getElem?_cons_zero, List.getElem?_cons_succ]; rfl) (by kernel_rfl) (by kernel_rfl) (by kernel_rfl) (by intro _ _ _ h; exact h) (yieldsIf_load_mid (by rfl) 28 (.tmp 85) rfl b1 39 rfl i.sl _ (fun _ h => h.2.2) Try.underlying28 rfl hls.out) hHeld ?_
  try simp only [Act.put, List.setIfInBounds_toArray, List.set_cons_zero, List.set_cons_succ]
  refine wpAnyH_take (i := 6) (v := ?_) (by simp only [List.getElem?_toArray, List.getElem?_cons_zero, List.getElem?_cons_succ]; rfl) (by kernel_rfl) (by kernel_rfl) (by kernel_rfl) (by intro _ _ _ h; exact h) (Or.inl ⟨by rfl, ?_⟩) hHeld ?_
  rotate_left
  · (intro w hSw; (try dsimp only at hSw); go_simp; try with_reducible rfl)
  try simp only [Act.put, List.setIfInBounds_toArray, List.set_cons_zero, List.set_cons_succ]
  refine wpAnyH_ready (rs := [7]) (by kernel_rfl) (by simp) ?_
  refine AllReadyH.cons (by simp only [List.getElem?_toArray, List.getElem?_cons_zero, List.getElem?_cons_succ]; rfl) (fun K hK => ?_) AllReadyH.nil
  rw [if_pos (by rfl)]
  refine wp_store_one 3 (.tmp 87) (.tmp 82) rfl b7 37 rfl .i64 i.sn rfl M5.out 3 _ 30 rfl info3 (by simp [zI, zb]) ?_
  intro w6 M6 hs_
  refine hK.out _ _ (let g := HI.out.at_ (M6.out.get 0 rfl); ⟨g.2.2.2.1, g.2.2.2.2.1, g.2.2.2.2.2⟩) (fun hHeld => ?_)
  clear hK K hs_
  refine wpAnyH_take (i := 8) (v := ?_) (by simp only [List.getElem?_toArray, List.getElem?_cons_zero, List.getElem?_cons_succ]; rfl) (by kernel_rfl) (by kernel_rfl) (by kernel_rfl) (by intro _ _ _ h; exact h) (Or.inl ⟨by rfl, ?_⟩) hHeld ?_
  rotate_left
  · (intro w hSw; (try dsimp only at hSw); go_simp; try with_reducible rfl)
  try simp only [Act.put, List.setIfInBounds_toArray, List.set_cons_zero, List.set_cons_succ]
  refine wpAnyH_ready (rs := [9]) (by kernel_rfl) (by simp) ?_
  refine AllReadyH.cons (by simp only [List.getElem?_toArray, List.getElem?_cons_zero, List.getElem?_cons_succ]; rfl) (fun K hK => ?_) AllReadyH.nil
  rw [if_pos (by rfl)]
  refine wp_store_one 3 (.tmp 88) (.tmp 84) rfl b7 38 rfl .i64 i.un rfl M6.out 3 _ 30 rfl info3 (by simp [zI, zb, splice]) ?_
  intro w7 M7 hs_
  refine hK.out _ _ (let g := HI.out.at_ (M7.out.get 0 rfl); ⟨g.2.2.2.1, g.2.2.2.2.1, g.2.2.2.2.2⟩) (fun hHeld => ?_)
  clear hK K hs_
  refine wpAnyH_take (i := 10) (v := ?_) (by simp only [List.getElem?_toArray, List.getElem?_cons_zero, List.getElem?_cons_succ]; rfl) (by kernel_rfl) (by kernel_rfl) (by kernel_rfl) (by intro _ _ _ h; exact h) (Or.inl ⟨by rfl, ?_⟩) hHeld ?_
  rotate_left
  · (intro w hSw; (try dsimp only at hSw); go_simp; try with_reducible rfl)
  try simp only [Act.put, List.setIfInBounds_toArray, List.set_cons_zero, List.set_cons_succ]
  refine wpAnyH_ready (rs := [11]) (by kernel_rfl) (by simp) ?_
  refine AllReadyH.cons (by simp only [List.getElem?_toArray, List.getElem?_cons_zero, List.getElem?_cons_succ]; rfl) (fun K hK => ?_) AllReadyH.nil
  rw [if_pos (by rfl)]
  refine wp_store_seg 28 (.tmp 89) (.tmp 86) rfl b7 39 rfl i.sl rfl M7.out 3 _ 30 rfl hls.out (by rw [HI.out.sl_len]; simp [zI, zb, splice]) (sl_one i) ?_
  intro w8 M8 hs_
  refine hK.out _ _ (let g := HI.out.at_ (M8.out.get 0 rfl); ⟨g.2.2.2.1, g.2.2.2.2.1, g.2.2.2.2.2⟩) (fun hHeld => ?_)
  clear hK K hs_
  refine wpAnyH_done (by kernel_rfl) ?_ _
  have M8' : Hid (Mem w w8 [(b1, i.cells, 30), (b2, zE, 35), (b4, .int .u8 2 :: zb 79, 35), (b7, i.bare2.cells, 30)]) := Lib.hid (by rw [← bare2_eq i ok.skey.1]; exact M8.out)
  clear M8 M7 M6 M5 hHeld
  have g := HI.out.at_ (M8'.out.get 0 rfl)
  have g2 := g.2.2.2.2.2
  clear g
  go_upto_region 19 with first
    | (refine wpList_load_midG rfl 28 (.tmp 90) rfl b1 39 rfl i.sl _ g2 Try.underlying28 rfl hls.out ?_)
    | (refine wpList_store_seg rfl 28 (.tmp 12) (.tmp 91) rfl w8.heap.size 0 rfl i.sl rfl (M8'.out.push (zb 32 ++ [.int .i64 0, .int .i64 0]) 28) 4 _ 28 rfl hls.out (by rw [HI.out.sl_len]; simp [zb]) (sl_one i) rfl ?_; intro w9 M9 hs9)
  obtain ⟨b12, hb12⟩ : ∃ b, b = w8.heap.size := ⟨_, rfl⟩
  rw [← hb12]
  have M9' : Hid (Mem w w9 [(b1, i.cells, 30), (b2, zE, 35), (b4, .int .u8 2 :: zb 79, 35), (b7, i.bare2.cells, 30), (b12, i.sl, 28)]) := Lib.hid (by
    have q := M9.out
    rw [splice_all _ _ (by rw [HI.out.sl_len]; simp [zb])] at q
    rw [hb12]; exact q)
  clear M9 hs9 M8' hb12 g2
  obtain ⟨F, hF⟩ : ∃ F, F = (inB i.sn 0 1073741824 && inB i.un 0 511 && inB i.so 0 15 && inB i.sm 1 255) := ⟨_, rfl⟩
  have HF := Lib.hid hF
  clear hF
  go_cut [8] from 92 to 109 (fun s8 w' => s8 = .bool F ∧ w' = w9)
  case first =>
    have g := HI.out.at_ (M9'.out.get 0 rfl)
    have d0 := g.2.2.2.1
    have d1 := g.2.2.2.2.1
    have d2 : w9.cell? ⟨b12, 32, none⟩ = some (.int .i64 i.so) := M9'.out.cell 4 rfl 32 HI.out.off
    have d3 : w9.cell? ⟨b12, 33, none⟩ = some (.int .i64 i.sm) := M9'.out.cell 4 rfl 33 HI.out.mask
    clear g
    cases p1 : inB i.sn 0 1073741824 <;> cases p2 : inB i.un 0 511 <;> cases p3 : inB i.so 0 15 <;> cases p4 : inB i.sm 1 255
    all_goals
      go_wp2_with (go_at_call 19; refine (within19 _ _ _ _).mono ?_; rintro e w' ⟨rfl, rfl⟩)
      go_meet
      case rel => exact ⟨by rw [HF.out, p1, p2, p3, p4]; rfl, rfl⟩
  case rest =>
    obtain ⟨rfl, rfl⟩ := hcut
    have g := HI.out.at_ (M9'.out.get 0 rfl)
    have d0 := g.2.2.2.1
    clear g
    go_wp2_with fail
    refine (four20M M9'.out 2 rfl 1 39 39 i.sn (by omega) (by simp [zb])).mono ?_
    rintro e w10 ⟨rfl, hM10⟩
    have M10 : Hid (Mem w w10 [(b1, i.cells, 30), (b2, zE, 35), (b4, [.int .u8 2] ++ (fz 39 [i.sn] ++ zb 40), 35), (b7, i.bare2.cells, 30), (b12, i.sl, 28)]) := Lib.hid (by
      rw [show [Value.int .u8 2] ++ (fz 39 [i.sn] ++ zb 40) = _ from (fz_put 39 [] i.sn [.int .u8 2] (zb 40) 1 rfl (by simp)).symm, ← zeroE_parts]
      exact hM10)
    clear hM10 M9' d0
    go_upto_region 21 with fail
    have M11 : Hid (Mem w w10.drew [(b1, i.cells, 30), (b2, zE, 35), (b4, [.int .u8 2] ++ (fz 39 [i.sn] ++ zb 40), 35), (b7, i.bare2.cells, 30), (b12, i.sl, 28)]) := Lib.hid (M10.out.drew 1)
    have hH0 : w10.drew.cell? ⟨b1, 38, none⟩ = some (.int .i64 i.un) := (HI.out.at_ (M11.out.get 0 rfl)).2.2.2.2.1
    refine wp_region_held_drew (S := fun w' => w'.cell? ⟨b1, 38, none⟩ = some (.int .i64 i.un)) follows hH0 (fun hHeld => ?_)
    obtain ⟨w11, hw11⟩ : ∃ w11, w11 = w10.drew := ⟨_, rfl⟩
    rw [← hw11] at M11 hHeld ⊢
    clear hw11 hH0 M10
    refine wpAnyH_take (i := 0) (v := ?_) (by simp only [List.getElem?_toArray, List.getElem?_cons_zero]; rfl) (by kernel_rfl) (by kernel_rfl) (by kernel_rfl) (by intro _ _ _ h; exact h) (Or.inl ⟨by rfl, ?_⟩) hHeld ?_
    rotate_left
    · (intro w hSw; (try dsimp only at hSw); go_simp; try with_reducible rfl)
    try simp only [Act.put, List.setIfInBounds_toArray, List.set_cons_zero, List.set_cons_succ]
    refine wpAnyH_take (i := 1) (v := ?_) (by simp only [List.getElem?_toArray, List.getElem?_cons_zero, List.getElem?_cons_succ]; rfl) (by kernel_rfl) (by kernel_rfl) (by kernel_rfl) (by intro _ _ _ h; exact h) (Or.inl ⟨by rfl, ?_⟩) hHeld ?_
    rotate_left
    · (intro w hSw; (try dsimp only at hSw); go_simp; try with_reducible rfl)
    try simp only [Act.put, List.setIfInBounds_toArray, List.set_cons_zero, List.set_cons_succ]
    refine wpAnyH_take (i := 2) (v := ?_) (by simp only [List.getElem?_toArray, List.getElem?_cons_zero, List.getElem?_cons_succ]; rfl) (by kernel_rfl) (by kernel_rfl) (by kernel_rfl) (by intro _ _ _ h; exact h) (Or.inl ⟨by rfl, ?_⟩) hHeld ?_
    rotate_left
    · (intro w hSw; (try dsimp only at hSw); go_simp; try with_reducible rfl)
    try simp only [Act.put, List.setIfInBounds_toArray, List.set_cons_zero, List.set_cons_succ]
    refine wpAnyH_take (i := 3) (v := ?_) (by simp only [List.getElem?_toArray, List.getElem?_cons_zero, List.getElem?_cons_succ]; rfl) (by kernel_rfl) (by kernel_rfl) (by kernel_rfl) (by intro _ _ _ h; exact h) (Or.inl ⟨by rfl, ?_⟩) hHeld ?_
    rotate_left
    · (intro w hSw; (try dsimp only at hSw); go_simp; try with_reducible rfl)
    try simp only [Act.put, List.setIfInBounds_toArray, List.set_cons_zero, List.set_cons_succ]
    refine wpAnyH_ready (rs := [4]) (by kernel_rfl) (by simp) ?_
    refine AllReadyH.cons (by simp only [List.getElem?_toArray, List.getElem?_cons_zero, List.getElem?_cons_succ]; rfl) (fun K hK => ?_) AllReadyH.nil
    go_simp
    refine (four20M M11.out 2 rfl 5 35 35 i.un (by omega) (by simp [zb_len, fz, u8l_len, fours_len])).mono ?_
    rintro e w12 ⟨rfl, hM12⟩
    have M12 : Hid (Mem w w12 [(b1, i.cells, 30), (b2, zE, 35), (b4, i.h2 ++ zb 40, 35), (b7, i.bare2.cells, 30), (b12, i.sl, 28)]) := Lib.hid (by
      have q := fz_put 39 [i.sn] i.un [.int .u8 2] (zb 40) 5 rfl (by simp)
      rw [Itm.h2, List.append_assoc, show [Value.int .u8 2] ++ (fz 39 [i.sn, i.un] ++ zb 40) = _ from q.symm]
      exact hM12)
    clear hM12
    refine hK.out _ _ (HI.out.at_ (M12.out.get 0 rfl)).2.2.2.2.1 (fun hHeld => ?_)
    clear hK K M11
    try simp only [Act.put, List.setIfInBounds_toArray, List.set_cons_zero, List.set_cons_succ]
    refine wpAnyH_done (by kernel_rfl) ?_ _
    clear hHeld
    have g3 : w12.rangeAt b12 0 (u8l i.skey) := M12.out.range 4 rfl 0 (u8l i.skey) (by simp [Itm.sl])
    go_upto_region 23 with first
      | (refine wpList_copy_seg rfl (.tmp 119) (.tmp 121) 54 54 rfl 5 Try.underlying54 info5 b4 40 40 40 b12 0 32 32 rfl rfl M12.out 2 _ 35 rfl (u8l i.skey) g3 (by rw [u8l_len, ok.skey.1]; rfl) (by simp [u8l_len, ok.skey.1, h2_len, zb_len]) u8l_one ?_; intro w13 M13 hs13)
    have M13' : Hid (Mem w w13 [(b1, i.cells, 30), (b2, zE, 35), (b4, splice (i.h2 ++ zb 40) 40 (u8l i.skey), 35), (b7, i.bare2.cells, 30), (b12, i.sl, 28)]) := Lib.hid M13.out
    clear M13 hs13 M12 g3
    rw [show ((u8l i.skey).length : Int) = 32 from by rw [u8l_len, ok.skey.1]; rfl]
    have d2 : w13.cell? ⟨b12, 32, none⟩ = some (.int .i64 i.so) := M13'.out.cell 4 rfl 32 HI.out.off
    have d3 : w13.cell? ⟨b12, 33, none⟩ = some (.int .i64 i.sm) := M13'.out.cell 4 rfl 33 HI.out.mask
    go_upto_region 28 with first
      | (refine wpList_store_one rfl 5 (.tmp 134) (.tmp 130) rfl b4 72 rfl .u8 (i.so % 256) rfl M13'.out 2 _ 35 rfl info5 (by simp [length_splice, h2_len, zb_len, u8l_len, ok.skey.1]) rfl ?_; intro w14 M14 hs14)
      | (refine wpList_store_one rfl 5 (.tmp 135) (.tmp 133) rfl b4 73 rfl .u8 (i.sm % 256) rfl M14.out 2 _ 35 rfl info5 (by simp [length_splice, h2_len, zb_len, u8l_len, ok.skey.1]) rfl ?_; intro w15 M15 hs15)
    have M15' : Hid (Mem w w15 [(b1, i.cells, 30), (b2, zE, 35), (b4, i.ent.cells, 35), (b7, i.bare2.cells, 30), (b12, i.sl, 28)]) := Lib.hid (by rw [← ent2_eq H1.out ok.skey.1]; exact M15.out)
    clear M15 M14 M13' hs14 hs15 d2 d3
    obtain ⟨r, hr, hri⟩ := eqr30 (bare2_ok ok) ok w15
    have g7 := M15'.out.all 3 rfl
    have g1 := M15'.out.all 0 rfl
    have g4 := M15'.out.all 2 rfl
    have hb : Hid ((Try.prog.info? 30).map (·.size) = some i.bare2.cells.length) := Lib.hid (by rw [Itm.len (bare2_ok ok)]; exact info30)
    have hc : Hid ((Try.prog.info? 30).map (·.size) = some i.cells.length) := Lib.hid (by rw [hlc.out]; exact info30)
    have hRI := Lib.hid (right2_iff ok H1.out)
    have hRR := Lib.hid hri
    have hel : Hid (i.ent.cells.length = 80) := Lib.hid (ent_len ok)
    clear hri
    by_cases hw : F = true ∧ r = true
    · obtain ⟨hF1, hr1⟩ := hw
      have hR : Hid (i.right = true) := Lib.hid (hRI.out.2 ⟨by rw [← HF.out, hF1], hRR.out.1 hr1⟩)
      subst hF1
      subst hr1
      go_wp2_with first
        | (refine wpList_load_midG rfl 30 (.tmp 7) rfl b7 0 rfl i.bare2.cells _ g7 Try.underlying30 rfl hb.out ?_)
        | (refine wpList_load_midG rfl 30 (.tmp 1) rfl b1 0 rfl i.cells _ g1 Try.underlying30 rfl hc.out ?_)
        | (refine wpList_neqG rfl 30 (.tmp 151) (.tmp 152) rfl i.bare2.cells.toArray i.cells.toArray rfl rfl true eqg30 hr ?_)
        | (refine wpList_load_midG rfl 35 (.tmp 4) rfl b4 0 rfl i.ent.cells _ g4 Try.underlying35 rfl (by rw [hel.out]; exact info35) ?_)
        | (refine wpList_store_seg rfl 35 (.tmp 2) (.tmp 156) rfl b2 0 rfl i.ent.cells rfl M15'.out 1 _ 35 rfl (by rw [hel.out]; exact info35) (by rw [hel.out]; simp [zE, zb]) (by intro v hv; obtain ⟨x, _, rfl⟩ := List.mem_map.1 hv; rfl) rfl ?_; intro wz Mz hsz)
      have hz : wz.rangeAt b2 0 i.ent.cells := by
        have q := Mz.out.all 1 rfl
        rw [splice_all _ _ (by rw [hel.out]; simp [zE, zb])] at q
        exact q
      have hbz := Mz.out.below
      clear Mz
      refine bodyPost_ret (results_cell_mid rfl _ _ b2 _ _ rfl hz Try.underlying35 rfl (by rw [hel.out]; exact info35)) rfl ?_
      exact ⟨by rw [ofOut_t hR.out]; rfl, hbz⟩
    · have hR : Hid (i.right = false) := Lib.hid (Bool.eq_false_iff.2 fun h => hw ⟨by rw [HF.out]; exact (hRI.out.1 h).1, hRR.out.2 (hRI.out.1 h).2⟩)
      cases F
      all_goals (try (cases r))
      all_goals (try (exact (hw ⟨rfl, rfl⟩).elim))
      all_goals
        clear hw
        go_wp2_with first
          | (refine wpList_load_midG rfl 30 (.tmp 7) rfl b7 0 rfl i.bare2.cells _ g7 Try.underlying30 rfl hb.out ?_)
          | (refine wpList_load_midG rfl 30 (.tmp 1) rfl b1 0 rfl i.cells _ g1 Try.underlying30 rfl hc.out ?_)
          | (refine wpList_neqG rfl 30 (.tmp 151) (.tmp 152) rfl i.bare2.cells.toArray i.cells.toArray rfl rfl false eqg30 hr ?_)
          | (refine wpList_buildG rfl 35 [] rfl [] rfl _ (build35z _) ?_)
          | (refine wpList_store_seg rfl 35 (.tmp 2) (.tmp 155) rfl b2 0 rfl zE rfl M15'.out 1 _ 35 rfl info35 (by simp [zE, zb]) zb_one rfl ?_; intro wz Mz hsz)
        have hz : wz.rangeAt b2 0 zE := by
          have q := Mz.out.all 1 rfl
          rw [splice_all _ _ rfl] at q
          exact q
        have hbz := Mz.out.below
        clear Mz
        refine bodyPost_ret (results_cell_mid rfl _ _ b2 _ _ rfl hz Try.underlying35 rfl info35) rfl ?_
        exact ⟨by rw [ofOut_f hR.out]; rfl, hbz⟩
end Go.Proofs.Ytmckngkmlhemoaa
