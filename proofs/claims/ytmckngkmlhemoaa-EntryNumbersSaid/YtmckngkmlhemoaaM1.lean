/- entry.Of (layer 14) at an item of kind 1. Printed by genM.py. -/
import Derived.Test.YtmckngkmlhemoaaL
namespace Go.Proofs.Ytmckngkmlhemoaa
open Go.RowKit
set_option maxRecDepth 100000 in
set_option maxHeartbeats 4000000 in
theorem of9_1 (i : Itm) (ok : i.Ok) (w : World) (h1 : i.kind = 1) : Calls Try.prog 9 #[.agg i.cells.toArray] w fun e w' => e = .returned (ofOut i) ∧ Below w.heap.size w w' := by
  have M := Lib.hid (((Mem.nil w).push i.cells 30).push zE 35)
  have z35 := zero35
  have z30 := zero30
  have z26 := zero26
  have z28 := zero28
  have HI := Lib.hid (Itm.is ok)
  have hlk : Hid ((Try.prog.info? 24).map (·.size) = some (u8l i.key).length) := Lib.hid (by rw [HI.out.key_len]; exact info24)
  have hls : Hid ((Try.prog.info? 28).map (·.size) = some i.sl.length) := Lib.hid (by rw [HI.out.sl_len]; exact info28)
  have hlc : Hid (i.cells.length = 73) := Lib.hid (Itm.len ok)
  have hlk2 : Hid (i.key.length = 32) := Lib.hid ok.key.1
  have H1 := Lib.hid h1
  go_enter Try.func9, Try.ntmps9
  go_upto_region 1 with fail
  obtain ⟨w1, hw1⟩ : ∃ w1, w1 = (w.alloc (Obj.cells i.cells.toArray 30)).alloc (.cells zE.toArray 35) := ⟨_, rfl⟩
  obtain ⟨b1, hb1⟩ : ∃ b, b = w.heap.size := ⟨_, rfl⟩
  obtain ⟨b2, hb2⟩ : ∃ b, b = (w.alloc (Obj.cells i.cells.toArray 30)).heap.size := ⟨_, rfl⟩
  have hb2' : b2 = w.heap.size + 1 := by rw [hb2]; simp
  have M1 : Hid (Mem w w1 [(b1, i.cells, 30), (b2, zE, 35)]) := Lib.hid (by rw [hw1, hb1, hb2]; exact M.out)
  rw [← hw1, ← hb2', ← hb1]
  have c0 : w1.cell? ⟨b1, 0, none⟩ = some (.int .u8 1) := M1.out.cell 0 rfl 0 (by rw [← h1]; rfl)
  clear hw1 hb1 hb2 hb2' M h1
  go_upto_region 2 with first
    | (refine wpList_buildG rfl 32 [(0, .tmp 15)] rfl [(0, .int .u8 1)] rfl _ (build32 _ _) ?_)
    | (refine wpList_buildG rfl 35 [(0, .tmp 16)] rfl [(0, .agg (.int .u8 1 :: zb 39).toArray)] rfl _ (build35 _ _) ?_)
    | (refine wpList_store_seg rfl 35 (.tmp 4) (.tmp 17) rfl w1.heap.size 0 rfl (.int .u8 1 :: zb 79) rfl (M1.out.push zE 35) 2 zE 35 rfl info35 (by simp [zE, zb]) (by simp [zb, Value.oneCell']) rfl ?_; intro w2 M2 hs2)
  obtain ⟨b4, hb4⟩ : ∃ b, b = w1.heap.size := ⟨_, rfl⟩
  rw [← hb4]
  have M2' : Hid (Mem w w2 [(b1, i.cells, 30), (b2, zE, 35), (b4, .int .u8 1 :: zb 79, 35)]) := Lib.hid (by rw [hb4]; exact M2.out)
  clear M2 hs2 M1 c0 hb4
  go_quiet (fail)
  have M3 : Hid (Mem w (w2.drewN nq) [(b1, i.cells, 30), (b2, zE, 35), (b4, .int .u8 1 :: zb 79, 35)]) := Lib.hid (M2'.out.drew nq)
  clear M2'
  obtain ⟨w3, hw3⟩ : ∃ w3, w3 = w2.drewN nq := ⟨_, rfl⟩
  rw [← hw3] at M3 ⊢
  clear hw3
  have c0 : w3.cell? ⟨b1, 0, none⟩ = some (.int .u8 1) := M3.out.cell 0 rfl 0 (by rw [← H1.out]; rfl)
  go_upto_region 4 with first
    | (refine wpList_buildG rfl 30 [(0, .tmp 23)] rfl [(0, .int .u8 1)] rfl _ (build30 _ _) ?_)
    | (refine wpList_store_seg rfl 30 (.tmp 7) (.tmp 24) rfl w3.heap.size 0 rfl (zI 1) rfl (M3.out.push (zI 0) 30) 3 (zI 0) 30 rfl info30 (by simp [zI, zb]) (zI_one _) rfl ?_; intro w4 M4 hs4)
  --STOP0
  obtain ⟨b7, hb7⟩ : ∃ b, b = w3.heap.size := ⟨_, rfl⟩
  rw [← hb7]
  have M4' : Hid (Mem w w4 [(b1, i.cells, 30), (b2, zE, 35), (b4, .int .u8 1 :: zb 79, 35), (b7, zI 1, 30)]) := Lib.hid (by rw [hb7]; exact M4.out)
  clear M4 hs4 M3 c0 hb7
  have c0 : w4.cell? ⟨b1, 0, none⟩ = some (.int .u8 1) := M4'.out.cell 0 rfl 0 (by rw [← H1.out]; rfl)
  go_upto_region 7 with fail
  have M5 : Hid (Mem w w4.drew [(b1, i.cells, 30), (b2, zE, 35), (b4, .int .u8 1 :: zb 79, 35), (b7, zI 1, 30)]) := Lib.hid (M4'.out.drew 1)
  have hH0 : w4.drew.rangeAt b1 1 (u8l i.key) ∧ w4.drew.rangeAt b1 33 i.pl := let g := HI.out.at_ (M5.out.get 0 rfl); ⟨g.2.1, g.2.2.1⟩
  refine wp_region_held_drew (S := fun w' => w'.rangeAt b1 1 (u8l i.key) ∧ w'.rangeAt b1 33 i.pl) follows hH0 (fun hHeld => ?_)
  obtain ⟨w5, hw5⟩ : ∃ w5, w5 = w4.drew := ⟨_, rfl⟩
  rw [← hw5] at M5 hHeld ⊢
  clear hw5 hH0 M4' c0
  refine wpAnyH_take (i := 0) (v := ?_) (by simp only [List.getElem?_toArray, List.getElem?_cons_zero]; rfl) (by kernel_rfl) (by kernel_rfl) (by kernel_rfl) (by intro _ _ _ h; exact h) (Or.inl ⟨by rfl, ?_⟩) hHeld ?_
  rotate_left
  · (intro w hSw; (try dsimp only at hSw); go_simp; try with_reducible rfl)
  try simp only [Act.put, List.setIfInBounds_toArray, List.set_cons_zero, List.set_cons_succ]
  refine wpAnyH_take (i := 1) (v := _) (by simp only [List.getElem?_toArray, List.getElem?_cons_zero, List.getElem?_cons_succ]; rfl) (by kernel_rfl) (by kernel_rfl) (by kernel_rfl) (by intro _ _ _ h; exact h) (yieldsIf_load_mid (by rfl) 24 (.tmp 29) rfl b1 1 rfl (u8l i.key) _ (fun _ h => h.1) Try.underlying24 rfl hlk.out) hHeld ?_
  try simp only [Act.put, List.setIfInBounds_toArray, List.set_cons_zero, List.set_cons_succ]
  refine wpAnyH_take (i := 2) (v := ?_) (by simp only [List.getElem?_toArray, List.getElem?_cons_zero, List.getElem?_cons_succ]; rfl) (by kernel_rfl) (by kernel_rfl) (by kernel_rfl) (by intro _ _ _ h; exact h) (Or.inl ⟨by rfl, ?_⟩) hHeld ?_
  rotate_left
  · (intro w hSw; (try dsimp only at hSw); go_simp; try with_reducible rfl)
  try simp only [Act.put, List.setIfInBounds_toArray, List.set_cons_zero, List.set_cons_succ]
  refine wpAnyH_take (i := 3) (v := _) (by simp only [List.getElem?_toArray, List.getElem?_cons_zero, List.getElem?_cons_succ]; rfl) (by kernel_rfl) (by kernel_rfl) (by kernel_rfl) (by intro _ _ _ h; exact h) (yieldsIf_load_mid (by rfl) 26 (.tmp 31) rfl b1 33 rfl i.pl _ (fun _ h => h.2) Try.underlying26 rfl info26) hHeld ?_
  try simp only [Act.put, List.setIfInBounds_toArray, List.set_cons_zero, List.set_cons_succ]
  refine wpAnyH_take (i := 4) (v := ?_) (by simp only [List.getElem?_toArray, List.getElem?_cons_zero, List.getElem?_cons_succ]; rfl) (by kernel_rfl) (by kernel_rfl) (by kernel_rfl) (by intro _ _ _ h; exact h) (Or.inl ⟨by rfl, ?_⟩) hHeld ?_
  rotate_left
  · (intro w hSw; (try dsimp only at hSw); go_simp; try with_reducible rfl)
  try simp only [Act.put, List.setIfInBounds_toArray, List.set_cons_zero, List.set_cons_succ]
  refine wpAnyH_ready (rs := [5]) (by kernel_rfl) (by simp) ?_
  refine AllReadyH.cons (by simp only [List.getElem?_toArray, List.getElem?_cons_zero, List.getElem?_cons_succ]; rfl) (fun K hK => ?_) AllReadyH.nil
  rw [if_pos (by rfl)]
  refine wp_store_seg 24 (.tmp 33) (.tmp 30) rfl b7 1 rfl (u8l i.key) rfl M5.out 3 _ 30 rfl hlk.out (by rw [u8l_len, hlk2.out]; simp [zI, zb]) u8l_one ?_
  intro w6 M6 hs_
  refine hK.out _ _ (let g := HI.out.at_ (M6.out.get 0 rfl); ⟨g.2.1, g.2.2.1⟩) (fun hHeld => ?_)
  clear hK K hs_
  refine wpAnyH_take (i := 6) (v := ?_) (by simp only [List.getElem?_toArray, List.getElem?_cons_zero, List.getElem?_cons_succ]; rfl) (by kernel_rfl) (by kernel_rfl) (by kernel_rfl) (by intro _ _ _ h; exact h) (Or.inl ⟨by rfl, ?_⟩) hHeld ?_
  rotate_left
  · (intro w hSw; (try dsimp only at hSw); go_simp; try with_reducible rfl)
  try simp only [Act.put, List.setIfInBounds_toArray, List.set_cons_zero, List.set_cons_succ]
  refine wpAnyH_ready (rs := [7]) (by kernel_rfl) (by simp) ?_
  refine AllReadyH.cons (by simp only [List.getElem?_toArray, List.getElem?_cons_zero, List.getElem?_cons_succ]; rfl) (fun K hK => ?_) AllReadyH.nil
  rw [if_pos (by rfl)]
  refine wp_store_seg 26 (.tmp 34) (.tmp 32) rfl b7 33 rfl i.pl rfl M6.out 3 _ 30 rfl info26 (by simp [Itm.pl, zI, zb, splice, u8l_len, hlk2.out]) (by intro v hv; simp [Itm.pl] at hv; rcases hv with rfl | rfl | rfl | rfl <;> rfl) ?_
  intro w7 M7 hs_
  refine hK.out _ _ (let g := HI.out.at_ (M7.out.get 0 rfl); ⟨g.2.1, g.2.2.1⟩) (fun hHeld => ?_)
  clear hK K hs_
  refine wpAnyH_done (by kernel_rfl) ?_ _
  have M7' : Hid (Mem w w7 [(b1, i.cells, 30), (b2, zE, 35), (b4, .int .u8 1 :: zb 79, 35), (b7, i.bare1.cells, 30)]) := Lib.hid (by rw [← bare1_eq i hlk2.out]; exact M7.out)
  clear M7 M6 M5 hHeld
  have g := HI.out.at_ (M7'.out.get 0 rfl)
  have g2 := g.2.2.1
  clear g
  go_upto_region 9 with first
    | (refine wpList_load_midG rfl 26 (.tmp 35) rfl b1 33 rfl i.pl _ g2 Try.underlying26 rfl info26 ?_)
    | (refine wpList_store_seg rfl 26 (.tmp 9) (.tmp 36) rfl w7.heap.size 0 rfl i.pl rfl (M7'.out.push [.int .i64 0, .int .i64 0, .int .i64 0, .int .i64 0] 26) 4 _ 26 rfl info26 (by simp [Itm.pl]) (by intro v hv; simp [Itm.pl] at hv; rcases hv with rfl | rfl | rfl | rfl <;> rfl) rfl ?_; intro w8 M8 hs8)
  obtain ⟨b9, hb9⟩ : ∃ b, b = w7.heap.size := ⟨_, rfl⟩
  rw [← hb9]
  have M8' : Hid (Mem w w8 [(b1, i.cells, 30), (b2, zE, 35), (b4, .int .u8 1 :: zb 79, 35), (b7, i.bare1.cells, 30), (b9, i.pl, 26)]) := Lib.hid (by rw [hb9]; exact M8.out)
  clear M8 hs8 M7' hb9 g2
  obtain ⟨F, hF⟩ : ∃ F, F = placeB i.pa i.ps i.pu i.pr true := ⟨_, rfl⟩
  have HF := Lib.hid hF
  clear hF
  go_cut [8] from 37 to 54 (fun s8 w' => s8 = .bool F ∧ w' = w8)
  case first =>
    have d0 : w8.cell? ⟨b9, 0, none⟩ = some (.int .i64 i.pa) := M8'.out.cell 4 rfl 0 rfl
    have d1 : w8.cell? ⟨b9, 1, none⟩ = some (.int .i64 i.ps) := M8'.out.cell 4 rfl 1 rfl
    have d2 : w8.cell? ⟨b9, 2, none⟩ = some (.int .i64 i.pu) := M8'.out.cell 4 rfl 2 rfl
    have d3 : w8.cell? ⟨b9, 3, none⟩ = some (.int .i64 i.pr) := M8'.out.cell 4 rfl 3 rfl
    cases p1 : inB i.pa 0 262144 <;> cases p2 : inB i.ps 1 1024 <;> cases p3 : inB i.pu 1 16 <;> cases p4 : inB i.pr 1 2147483647
    all_goals
      go_wp2_with (go_at_call 19; refine (within19 _ _ _ _).mono ?_; rintro e w' ⟨rfl, rfl⟩)
      go_meet
      case rel => exact ⟨by rw [HF.out, placeB, p1, p2, p3]; simp [p4], rfl⟩
  case rest =>
    obtain ⟨rfl, rfl⟩ := hcut
    have g := HI.out.at_ (M8'.out.get 0 rfl)
    have g1 := g.2.1
    clear g
    go_upto_region 11 with first
      | (refine wpList_copy_seg rfl (.tmp 55) (.tmp 57) 54 54 rfl 5 Try.underlying54 info5 b4 1 39 39 b1 1 32 32 rfl rfl M8'.out 2 _ 35 rfl (u8l i.key) g1 (by rw [u8l_len, hlk2.out]; rfl) (by simp [u8l_len, hlk2.out, zb]) u8l_one ?_; intro w9 M9 hs9)
  
    have M9' : Hid (Mem w w9 [(b1, i.cells, 30), (b2, zE, 35), (b4, i.h1 ++ (fz 40 [] ++ []), 35), (b7, i.bare1.cells, 30), (b9, i.pl, 26)]) := Lib.hid (by rw [← h1_eq hlk2.out]; exact M9.out)
    clear M9 hs9 M8' g1
    try simp only [Act.put, List.setIfInBounds_toArray, List.set_cons_zero, List.set_cons_succ]
    have d0 : w9.cell? ⟨b9, 0, none⟩ = some (.int .i64 i.pa) := M9'.out.cell 4 rfl 0 rfl
    have d1 : w9.cell? ⟨b9, 1, none⟩ = some (.int .i64 i.ps) := M9'.out.cell 4 rfl 1 rfl
    have d2 : w9.cell? ⟨b9, 2, none⟩ = some (.int .i64 i.pu) := M9'.out.cell 4 rfl 2 rfl
    have d3 : w9.cell? ⟨b9, 3, none⟩ = some (.int .i64 i.pr) := M9'.out.cell 4 rfl 3 rfl
    go_wp2_with fail
    clear d0 d1 d2 d3
    obtain ⟨H, hH⟩ : ∃ H, H = i.h1 := ⟨_, rfl⟩
    rw [← hH] at M9'
    have HH := Lib.hid hH
    have hHl : Hid (H.length = 40) := Lib.hid (by rw [hH]; exact h1_len hlk2.out)
    clear hH
    go_loopw [68] (fun i_ wr => ∃ k : Nat, k ≤ 4 ∧ i_ = .int .i64 k ∧ Mem w wr [(b1, i.cells, 30), (b2, zE, 35), (b4, H ++ (fz 40 ([i.pa, i.ps, i.pu, i.pr].take k) ++ []), 35), (b7, i.bare1.cells, 30), (b9, i.pl, 26)]) (fun i_ _ => 4 - (intOf i_).toNat)
    case atStart => exact ⟨0, Nat.zero_le _, rfl, M9'.out⟩
    case round =>
      clear M9'
      obtain ⟨k, hk, rfl, hm⟩ := hrel
      have HM := Lib.hid hm
      clear hm
      obtain rfl | rfl | rfl | rfl | rfl : k = 0 ∨ k = 1 ∨ k = 2 ∨ k = 3 ∨ k = 4 := by omega
      · have ix := index56_0 i.pa i.ps i.pu i.pr
        go_wp2_with fail
        refine (four20M HM.out 2 rfl 40 40 40 i.pa (by omega) (by simp [hHl.out, fz, u8l_len, fours_len, zb_len])).mono ?_
        rintro e w' ⟨rfl, hM⟩
        have hM2 : Mem w w' [(b1, i.cells, 30), (b2, zE, 35), (b4, H ++ (fz 40 [i.pa] ++ []), 35), (b7, i.bare1.cells, 30), (b9, i.pl, 26)] := by
          rw [show H ++ (fz 40 [i.pa] ++ []) = _ from (fz_put 40 [] i.pa H [] 40 (by simp [hHl.out]) (by simp)).symm]
          exact hM
        have HM2 := Lib.hid hM2
        clear hM hM2
        go_wp2_with fail
        go_roundw
        case rel =>
          refine ⟨_, _, _, _, _, _, _, _, _, _, _, _, _, ⟨1, by omega, ?_, HM2.out⟩, rfl⟩
          go_num
        case measure => simp [intOf]
      · have ix := index56_1 i.pa i.ps i.pu i.pr
        go_wp2_with fail
        refine (four20M HM.out 2 rfl 44 36 36 i.ps (by omega) (by simp [hHl.out, fz, u8l_len, fours_len, zb_len])).mono ?_
        rintro e w' ⟨rfl, hM⟩
        have hM2 : Mem w w' [(b1, i.cells, 30), (b2, zE, 35), (b4, H ++ (fz 40 [i.pa, i.ps] ++ []), 35), (b7, i.bare1.cells, 30), (b9, i.pl, 26)] := by
          rw [show H ++ (fz 40 [i.pa, i.ps] ++ []) = _ from (fz_put 40 [i.pa] i.ps H [] 44 (by simp [hHl.out]) (by simp)).symm]
          exact hM
        have HM2 := Lib.hid hM2
        clear hM hM2
        go_wp2_with fail
        go_roundw
        case rel =>
          refine ⟨_, _, _, _, _, _, _, _, _, _, _, _, _, ⟨2, by omega, ?_, HM2.out⟩, rfl⟩
          go_num
        case measure => simp [intOf]
      · have ix := index56_2 i.pa i.ps i.pu i.pr
        go_wp2_with fail
        refine (four20M HM.out 2 rfl 48 32 32 i.pu (by omega) (by simp [hHl.out, fz, u8l_len, fours_len, zb_len])).mono ?_
        rintro e w' ⟨rfl, hM⟩
        have hM2 : Mem w w' [(b1, i.cells, 30), (b2, zE, 35), (b4, H ++ (fz 40 [i.pa, i.ps, i.pu] ++ []), 35), (b7, i.bare1.cells, 30), (b9, i.pl, 26)] := by
          rw [show H ++ (fz 40 [i.pa, i.ps, i.pu] ++ []) = _ from (fz_put 40 [i.pa, i.ps] i.pu H [] 48 (by simp [hHl.out]) (by simp)).symm]
          exact hM
        have HM2 := Lib.hid hM2
        clear hM hM2
        go_wp2_with fail
        go_roundw
        case rel =>
          refine ⟨_, _, _, _, _, _, _, _, _, _, _, _, _, ⟨3, by omega, ?_, HM2.out⟩, rfl⟩
          go_num
        case measure => simp [intOf]
      · have ix := index56_3 i.pa i.ps i.pu i.pr
        go_wp2_with fail
        refine (four20M HM.out 2 rfl 52 28 28 i.pr (by omega) (by simp [hHl.out, fz, u8l_len, fours_len, zb_len])).mono ?_
        rintro e w' ⟨rfl, hM⟩
        have hM2 : Mem w w' [(b1, i.cells, 30), (b2, zE, 35), (b4, H ++ (fz 40 [i.pa, i.ps, i.pu, i.pr] ++ []), 35), (b7, i.bare1.cells, 30), (b9, i.pl, 26)] := by
          rw [show H ++ (fz 40 [i.pa, i.ps, i.pu, i.pr] ++ []) = _ from (fz_put 40 [i.pa, i.ps, i.pu] i.pr H [] 52 (by simp [hHl.out]) (by simp)).symm]
          exact hM
        have HM2 := Lib.hid hM2
        clear hM hM2
        go_wp2_with fail
        go_roundw
        case rel =>
          refine ⟨_, _, _, _, _, _, _, _, _, _, _, _, _, ⟨4, by omega, ?_, HM2.out⟩, rfl⟩
          go_num
        case measure => simp [intOf]
      · have HM1 : Hid (Mem w wr [(b1, i.cells, 30), (b2, zE, 35), (b4, i.h1 ++ (fz 40 [i.pa, i.ps, i.pu, i.pr] ++ []), 35), (b7, i.bare1.cells, 30), (b9, i.pl, 26)]) := Lib.hid (by rw [← HH.out]; exact HM.out)
        clear HM
        rw [ent1_eq H1.out] at HM1
    
        obtain ⟨r, hr, hri⟩ := eqr30 (bare1_ok ok) ok wr
        have g7 := HM1.out.all 3 rfl
        have g1 := HM1.out.all 0 rfl
        have g4 := HM1.out.all 2 rfl
        have hb : Hid ((Try.prog.info? 30).map (·.size) = some i.bare1.cells.length) := Lib.hid (by rw [Itm.len (bare1_ok ok)]; exact info30)
        have hc : Hid ((Try.prog.info? 30).map (·.size) = some i.cells.length) := Lib.hid (by rw [hlc.out]; exact info30)
        have hRI := Lib.hid (right1_iff ok H1.out)
        have hRR := Lib.hid hri
        have hel : Hid (i.ent.cells.length = 80) := Lib.hid (ent_len ok)
        clear hri
        by_cases hw : F = true ∧ r = true
        · obtain ⟨hF1, hr1⟩ := hw
          have hR : Hid (i.right = true) := Lib.hid (hRI.out.2 ⟨by rw [← HF.out, hF1], hRR.out.1 hr1⟩)
          subst hF1
          subst hr1
          go_wp2_with first
            | (refine wpList_load_midG rfl 30 (.tmp 7) rfl b7 0 rfl i.bare1.cells _ g7 Try.underlying30 rfl hb.out ?_)
            | (refine wpList_load_midG rfl 30 (.tmp 1) rfl b1 0 rfl i.cells _ g1 Try.underlying30 rfl hc.out ?_)
            | (refine wpList_neqG rfl 30 (.tmp 151) (.tmp 152) rfl i.bare1.cells.toArray i.cells.toArray rfl rfl true eqg30 hr ?_)
            | (refine wpList_load_midG rfl 35 (.tmp 4) rfl b4 0 rfl i.ent.cells _ g4 Try.underlying35 rfl (by rw [hel.out]; exact info35) ?_)
            | (refine wpList_store_seg rfl 35 (.tmp 2) (.tmp 156) rfl b2 0 rfl i.ent.cells rfl HM1.out 1 _ 35 rfl (by rw [hel.out]; exact info35) (by rw [hel.out]; simp [zE, zb]) (by intro v hv; obtain ⟨x, _, rfl⟩ := List.mem_map.1 hv; rfl) rfl ?_; intro wz Mz hsz)
          have hz : wz.rangeAt b2 0 i.ent.cells := by
            have q := Mz.out.all 1 rfl
            rw [splice_all _ _ (by rw [hel.out]; simp [zE, zb])] at q
            exact q
          have hbz := Mz.out.below
          clear Mz
          refine bodyPost_ret (results_cell_mid rfl _ _ b2 _ _ rfl hz Try.underlying35 rfl (by rw [hel.out]; exact info35)) rfl ?_
          exact ⟨by rw [ofOut_t hR.out]; rfl, hbz⟩
        · have hR : Hid (i.right = false) := Lib.hid (Bool.eq_false_iff.2 fun h => hw ⟨by rw [HF.out]; exact (hRI.out.1 h).1, hRR.out.2 (hRI.out.1 h).2⟩)
          cases F
          all_goals (try (cases r))
          all_goals (try (exact (hw ⟨rfl, rfl⟩).elim))
          all_goals
            clear hw
            go_wp2_with first
              | (refine wpList_load_midG rfl 30 (.tmp 7) rfl b7 0 rfl i.bare1.cells _ g7 Try.underlying30 rfl hb.out ?_)
              | (refine wpList_load_midG rfl 30 (.tmp 1) rfl b1 0 rfl i.cells _ g1 Try.underlying30 rfl hc.out ?_)
              | (refine wpList_neqG rfl 30 (.tmp 151) (.tmp 152) rfl i.bare1.cells.toArray i.cells.toArray rfl rfl false eqg30 hr ?_)
              | (refine wpList_buildG rfl 35 [] rfl [] rfl _ (build35z _) ?_)
              | (refine wpList_store_seg rfl 35 (.tmp 2) (.tmp 155) rfl b2 0 rfl zE rfl HM1.out 1 _ 35 rfl info35 (by simp [zE, zb]) zb_one rfl ?_; intro wz Mz hsz)
            have hz : wz.rangeAt b2 0 zE := by
              have q := Mz.out.all 1 rfl
              rw [splice_all _ _ rfl] at q
              exact q
            have hbz := Mz.out.below
            clear Mz
            refine bodyPost_ret (results_cell_mid rfl _ _ b2 _ _ rfl hz Try.underlying35 rfl info35) rfl ?_
            exact ⟨by rw [ofOut_f hR.out]; rfl, hbz⟩
end Go.Proofs.Ytmckngkmlhemoaa
