/- entry.Item (layer 14) at an entry whose first byte is 2. Printed by genP.py. -/
import Derived.Test.YtmckngkmlhemoaaP0
namespace Go.Proofs.Ytmckngkmlhemoaa
open Go.RowKit
set_option maxRecDepth 100000 in
set_option maxHeartbeats 4000000 in
theorem item12_2 (ent : Ent) (ok : ent.Ok) (w : World) (h1 : ent.kd = 2) : Calls Try.prog 12 #[.agg ent.cells.toArray] w fun e w' => e = .returned (itemOut ent) ∧ Below w.heap.size w w' := by
  have M := Lib.hid (((Mem.nil w).push ent.cells 35).push (zI 0) 30)
  have z35 := zero35
  have z30 := zero30
  have a39 := arrayAt39
  have a40 := arrayAt40
  have hel : Hid ((Try.prog.info? 35).map (·.size) = some ent.cells.length) := Lib.hid (by rw [Ent.len ok]; exact info35)
  have hlen : Hid (ent.cells.length = 80) := Lib.hid (Ent.len ok)
  have HB := Lib.hid (Ent.byte ok 0 (by omega))
  have hkv : ent.kv.getD 0 0 = 2 := h1
  rw [hkv] at HB
  have HIT : Hid (ent.it = ent.it2) := Lib.hid ((if_neg (by omega)).trans (if_pos h1))
  clear hkv h1
  go_enter Try.func12, Try.ntmps12
  go_upto_region 1 with fail
  obtain ⟨w1, hw1⟩ : ∃ w1, w1 = (w.alloc (Obj.cells ent.cells.toArray 35)).alloc (.cells (zI 0).toArray 30) := ⟨_, rfl⟩
  obtain ⟨b1, hb1⟩ : ∃ b, b = w.heap.size := ⟨_, rfl⟩
  obtain ⟨b2, hb2⟩ : ∃ b, b = (w.alloc (Obj.cells ent.cells.toArray 35)).heap.size := ⟨_, rfl⟩
  have hb2' : b2 = w.heap.size + 1 := by rw [hb2]; simp
  have M1 : Hid (Mem w w1 [(b1, ent.cells, 35), (b2, zI 0, 30)]) := Lib.hid (by rw [hw1, hb1, hb2]; exact M.out)
  rw [← hw1, ← hb2', ← hb1]
  clear hw1 hb1 hb2 hb2' M
  go_quiet (fail)
  have M2 : Hid (Mem w (w1.drewN nq) [(b1, ent.cells, 35), (b2, zI 0, 30)]) := Lib.hid (M1.out.drew nq)
  clear M1
  obtain ⟨w2, hw2⟩ : ∃ w2, w2 = w1.drewN nq := ⟨_, rfl⟩
  rw [← hw2] at M2 ⊢
  clear hw2
  have c0 : w2.cell? ⟨b1, 0, none⟩ = some (.int .u8 2) := M2.out.cell 0 rfl 0 HB.out
  go_upto_region 3 with first
    | (refine wpList_buildG rfl 30 [(0, .tmp 15)] rfl [(0, .int .u8 2)] rfl _ (build30 _ _) ?_)
    | (refine wpList_store_seg rfl 30 (.tmp 6) (.tmp 16) rfl w2.heap.size 0 rfl (zI 2) rfl (M2.out.push (zI 0) 30) 2 (zI 0) 30 rfl info30 (by simp [zI, zb]) (zI_one _) rfl ?_; intro w3 M3 hs3)
  obtain ⟨b6, hb6⟩ : ∃ b, b = w2.heap.size := ⟨_, rfl⟩
  rw [← hb6]
  have M3' : Hid (Mem w w3 [(b1, ent.cells, 35), (b2, zI 0, 30), (b6, zI 2, 30)]) := Lib.hid (by rw [hb6]; exact M3.out)
  clear M3 hs3 M2 c0 hb6
  have c0 : w3.cell? ⟨b6, 0, none⟩ = some (.int .u8 2) := M3'.out.cell 2 rfl 0 rfl
  go_upto_region 8 with fail
  have M5 : Hid (Mem w w3.drew [(b1, ent.cells, 35), (b2, zI 0, 30), (b6, zI 2, 30)]) := Lib.hid (M3'.out.drew 1)
  clear c0 M3'
  have hH0 : (fun w' => w'.rangeAt b1 0 ent.cells) w3.drew := M5.out.all 0 rfl
  refine wp_region_held_drew (S := fun w' => w'.rangeAt b1 0 ent.cells) follows hH0 (fun hHeld => ?_)
  obtain ⟨w5, hw5⟩ : ∃ w5, w5 = w3.drew := ⟨_, rfl⟩
  rw [← hw5] at M5 hHeld ⊢
  clear hw5 hH0
  refine wpAnyH_take (i := 0) (v := ?_) (by simp only [List.getElem?_toArray, List.getElem?_cons_zero]; rfl) (by kernel_rfl) (by kernel_rfl) (by kernel_rfl) (by intro _ _ _ h; exact h) (Or.inl ⟨by rfl, ?_⟩) hHeld ?_
  rotate_left
  · (intro w hSw; (try dsimp only at hSw); go_simp; try with_reducible rfl)
  try simp only [Act.put, List.setIfInBounds_toArray, List.set_cons_zero, List.set_cons_succ]
  refine wpAnyH_take (i := 2) (v := ?_) (by simp only [List.getElem?_toArray, List.getElem?_cons_zero, List.getElem?_cons_succ]; rfl) (by kernel_rfl) (by kernel_rfl) (by kernel_rfl) (by intro _ _ _ h; exact h) (Or.inl ⟨by rfl, ?_⟩) hHeld ?_
  rotate_left
  · (intro w hSw; (try dsimp only at hSw); go_simp; try with_reducible rfl)
  try simp only [Act.put, List.setIfInBounds_toArray, List.set_cons_zero, List.set_cons_succ]
  refine wpAnyH_take (i := 3) (v := ?_) (by simp only [List.getElem?_toArray, List.getElem?_cons_zero, List.getElem?_cons_succ]; rfl) (by kernel_rfl) (by kernel_rfl) (by kernel_rfl) (by intro _ _ _ h; exact h) (Or.inl ⟨by rfl, ?_⟩) hHeld ?_
  rotate_left
  · (intro w hSw; (try dsimp only at hSw); go_simp; try with_reducible rfl)
  try simp only [Act.put, List.setIfInBounds_toArray, List.set_cons_zero, List.set_cons_succ]
  refine wpAnyH_ready (rs := [1]) (by kernel_rfl) (by simp) ?_
  refine AllReadyH.cons (by simp only [List.getElem?_toArray, List.getElem?_cons_zero, List.getElem?_cons_succ]; rfl) (fun K hK => ?_) AllReadyH.nil
  go_simp
  refine (said23e ok M5.out 0 rfl 1 39 39 (by omega) (by omega) (by omega) (by omega)).mono ?_
  rintro r _ ⟨rfl, rfl⟩
  refine hK.out _ _ hHeld (fun hHeld => ?_)
  clear hK K
  try simp only [Act.put, List.setIfInBounds_toArray, List.set_cons_zero, List.set_cons_succ]
  refine wpAnyH_take (i := 5) (v := ?_) (by simp only [List.getElem?_toArray, List.getElem?_cons_zero, List.getElem?_cons_succ]; rfl) (by kernel_rfl) (by kernel_rfl) (by kernel_rfl) (by intro _ _ _ h; exact h) (Or.inl ⟨by rfl, ?_⟩) hHeld ?_
  rotate_left
  · (intro w hSw; (try dsimp only at hSw); go_simp; try with_reducible rfl)
  try simp only [Act.put, List.setIfInBounds_toArray, List.set_cons_zero, List.set_cons_succ]
  refine wpAnyH_ready (rs := [4]) (by kernel_rfl) (by simp) ?_
  refine AllReadyH.cons (by simp only [List.getElem?_toArray, List.getElem?_cons_zero, List.getElem?_cons_succ]; rfl) (fun K hK => ?_) AllReadyH.nil
  go_simp
  refine (said23e ok M5.out 0 rfl 5 35 35 (by omega) (by omega) (by omega) (by omega)).mono ?_
  rintro r _ ⟨rfl, rfl⟩
  refine hK.out _ _ hHeld (fun hHeld => ?_)
  clear hK K
  try simp only [Act.put, List.setIfInBounds_toArray, List.set_cons_zero, List.set_cons_succ]
  refine wpAnyH_ready (rs := [6]) (by kernel_rfl) (by simp) ?_
  refine AllReadyH.cons (by simp only [List.getElem?_toArray, List.getElem?_cons_zero, List.getElem?_cons_succ]; rfl) (fun K hK => ?_) AllReadyH.nil
  rw [if_pos (by rfl)]
  refine wp_store_one 3 (.tmp 45) (.tmp 41) rfl b6 37 rfl .i64 ent.it2.sn rfl M5.out 2 _ 30 rfl info3 (by simp [zI, zb]) ?_
  intro w6 M6 hs_
  refine hK.out _ _ (M6.out.all 0 rfl) (fun hHeld => ?_)
  clear hK K hs_
  refine wpAnyH_take (i := 7) (v := ?_) (by simp only [List.getElem?_toArray, List.getElem?_cons_zero, List.getElem?_cons_succ]; rfl) (by kernel_rfl) (by kernel_rfl) (by kernel_rfl) (by intro _ _ _ h; exact h) (Or.inl ⟨by rfl, ?_⟩) hHeld ?_
  rotate_left
  · (intro w hSw; (try dsimp only at hSw); go_simp; try with_reducible rfl)
  try simp only [Act.put, List.setIfInBounds_toArray, List.set_cons_zero, List.set_cons_succ]
  refine wpAnyH_ready (rs := [8]) (by kernel_rfl) (by simp) ?_
  refine AllReadyH.cons (by simp only [List.getElem?_toArray, List.getElem?_cons_zero, List.getElem?_cons_succ]; rfl) (fun K hK => ?_) AllReadyH.nil
  rw [if_pos (by rfl)]
  refine wp_store_one 3 (.tmp 46) (.tmp 44) rfl b6 38 rfl .i64 ent.it2.un rfl M6.out 2 _ 30 rfl info3 (by simp [zI, zb, splice]) ?_
  intro w7 M7 hs_
  refine hK.out _ _ (M7.out.all 0 rfl) (fun hHeld => ?_)
  clear hK K hs_
  refine wpAnyH_done (by kernel_rfl) ?_ _
  clear M6 M5 hHeld
  go_upto_region 9 with fail
  have wso : IntKind.i64.wrap ent.it2.so = ent.it2.so := by
    have := getD_byte (Ent.kv_bytes ok) 72
    rw [IntKind.wrap_i64]
    simp only [Ent.it2]
    omega
  have wsm : IntKind.i64.wrap ent.it2.sm = ent.it2.sm := by
    have := getD_byte (Ent.kv_bytes ok) 73
    rw [IntKind.wrap_i64]
    simp only [Ent.it2]
    omega
  have hsl : Hid (ent.it2.skey.length = 32) := Lib.hid (it2_ok ok).skey.1
  have hlk : Hid ((Try.prog.info? 24).map (·.size) = some (u8l ent.it2.skey).length) := Lib.hid (by rw [u8l_len, hsl.out]; exact info24)
  have hls : Hid ((Try.prog.info? 28).map (·.size) = some ent.it2.sl.length) := Lib.hid (by rw [show ent.it2.sl.length = 34 from by simp [Itm.sl, u8l_len, hsl.out]]; exact info28)
  have M8 : Hid (Mem w w7.drew [(b1, ent.cells, 35), (b2, zI 0, 30), (b6, splice (splice (zI 2) 37 [.int .i64 ent.it2.sn]) 38 [.int .i64 ent.it2.un], 30)]) := Lib.hid (M7.out.drew 1)
  clear M7
  have hH0 : (fun w' => w'.rangeAt b1 40 (u8l ent.it2.skey) ∧ w'.cell? ⟨b1, 72, none⟩ = some (.int .u8 ent.it2.so) ∧ w'.cell? ⟨b1, 73, none⟩ = some (.int .u8 ent.it2.sm)) w7.drew := ⟨M8.out.range 0 rfl 40 (u8l ent.it2.skey) (by rw [u8l_len, hsl.out, Ent.sub]; rfl), M8.out.cell 0 rfl 72 (Ent.byte ok 72 (by omega)), M8.out.cell 0 rfl 73 (Ent.byte ok 73 (by omega))⟩
  refine wp_region_held_drew (S := fun w' => w'.rangeAt b1 40 (u8l ent.it2.skey) ∧ w'.cell? ⟨b1, 72, none⟩ = some (.int .u8 ent.it2.so) ∧ w'.cell? ⟨b1, 73, none⟩ = some (.int .u8 ent.it2.sm)) follows hH0 (fun hHeld => ?_)
  obtain ⟨w8, hw8⟩ : ∃ w8, w8 = w7.drew := ⟨_, rfl⟩
  rw [← hw8] at M8 hHeld ⊢
  clear hw8 hH0
  refine wpAnyH_take (i := 0) (v := ?_) (by simp only [List.getElem?_toArray, List.getElem?_cons_zero]; rfl) (by kernel_rfl) (by kernel_rfl) (by kernel_rfl) (by intro _ _ _ h; exact h) (Or.inl ⟨by rfl, ?_⟩) hHeld ?_
  rotate_left
  · (intro w hSw; (try dsimp only at hSw); go_simp; try with_reducible rfl)
  try simp only [Act.put, List.setIfInBounds_toArray, List.set_cons_zero, List.set_cons_succ]
  refine wpAnyH_take (i := 1) (v := ?_) (by simp only [List.getElem?_toArray, List.getElem?_cons_zero, List.getElem?_cons_succ]; rfl) (by kernel_rfl) (by kernel_rfl) (by kernel_rfl) (by intro _ _ _ h; exact h) (Or.inl ⟨by rfl, ?_⟩) hHeld ?_
  rotate_left
  · (intro w hSw; (try dsimp only at hSw); go_simp; try with_reducible rfl)
  try simp only [Act.put, List.setIfInBounds_toArray, List.set_cons_zero, List.set_cons_succ]
  refine wpAnyH_take (i := 2) (v := _) (by simp only [List.getElem?_toArray, List.getElem?_cons_zero, List.getElem?_cons_succ]; rfl) (by kernel_rfl) (by kernel_rfl) (by kernel_rfl) (by intro _ _ _ h; exact h) (yieldsIf_load_mid (by rfl) 24 (.tmp 48) rfl b1 40 rfl (u8l ent.it2.skey) _ (fun _ h => h.1) Try.underlying24 rfl hlk.out) hHeld ?_
  try simp only [Act.put, List.setIfInBounds_toArray, List.set_cons_zero, List.set_cons_succ]
  refine wpAnyH_take (i := 3) (v := ?_) (by simp only [List.getElem?_toArray, List.getElem?_cons_zero, List.getElem?_cons_succ]; rfl) (by kernel_rfl) (by kernel_rfl) (by kernel_rfl) (by intro _ _ _ h; exact h) (Or.inl ⟨by rfl, ?_⟩) hHeld ?_
  rotate_left
  · (intro w hSw; (try dsimp only at hSw); go_simp; try with_reducible rfl)
  try simp only [Act.put, List.setIfInBounds_toArray, List.set_cons_zero, List.set_cons_succ]
  refine wpAnyH_take (i := 4) (v := ?_) (by simp only [List.getElem?_toArray, List.getElem?_cons_zero, List.getElem?_cons_succ]; rfl) (by kernel_rfl) (by kernel_rfl) (by kernel_rfl) (by intro _ _ _ h; exact h) (Or.inl ⟨by rfl, ?_⟩) hHeld ?_
  rotate_left
  · (intro w hSw; (try dsimp only at hSw); go_simp; try with_reducible rfl)
  try simp only [Act.put, List.setIfInBounds_toArray, List.set_cons_zero, List.set_cons_succ]
  refine wpAnyH_take (i := 5) (v := ?_) (by simp only [List.getElem?_toArray, List.getElem?_cons_zero, List.getElem?_cons_succ]; rfl) (by kernel_rfl) (by kernel_rfl) (by kernel_rfl) (by intro _ _ _ h; exact h) (Or.inl ⟨by rfl, ?_⟩) hHeld ?_
  rotate_left
  · (intro w hSw; (try dsimp only at hSw); go_simp; try with_reducible rfl)
  try simp only [Act.put, List.setIfInBounds_toArray, List.set_cons_zero, List.set_cons_succ]
  refine wpAnyH_take (i := 6) (v := ?_) (by simp only [List.getElem?_toArray, List.getElem?_cons_zero, List.getElem?_cons_succ]; rfl) (by kernel_rfl) (by kernel_rfl) (by kernel_rfl) (by intro _ _ _ h; exact h) (Or.inl ⟨by rfl, ?_⟩) hHeld ?_
  rotate_left
  · (intro w hSw; (try dsimp only at hSw); go_simp; try with_reducible rfl)
  try simp only [Act.put, List.setIfInBounds_toArray, List.set_cons_zero, List.set_cons_succ]
  refine wpAnyH_take (i := 7) (v := ?_) (by simp only [List.getElem?_toArray, List.getElem?_cons_zero, List.getElem?_cons_succ]; rfl) (by kernel_rfl) (by kernel_rfl) (by kernel_rfl) (by intro _ _ _ h; exact h) (Or.inl ⟨by rfl, ?_⟩) hHeld ?_
  rotate_left
  · (intro w hSw; (try dsimp only at hSw); go_simp; try with_reducible rfl)
  try simp only [Act.put, List.setIfInBounds_toArray, List.set_cons_zero, List.set_cons_succ]
  refine wpAnyH_take (i := 8) (v := ?_) (by simp only [List.getElem?_toArray, List.getElem?_cons_zero, List.getElem?_cons_succ]; rfl) (by kernel_rfl) (by kernel_rfl) (by kernel_rfl) (by intro _ _ _ h; exact h) (Or.inl ⟨by rfl, ?_⟩) hHeld ?_
  rotate_left
  · (intro w hSw; (try dsimp only at hSw); go_simp; try with_reducible rfl)
  try simp only [Act.put, List.setIfInBounds_toArray, List.set_cons_zero, List.set_cons_succ]
  refine wpAnyH_take (i := 9) (v := ?_) (by simp only [List.getElem?_toArray, List.getElem?_cons_zero, List.getElem?_cons_succ]; rfl) (by kernel_rfl) (by kernel_rfl) (by kernel_rfl) (by intro _ _ _ h; exact h) (Or.inl ⟨by rfl, ?_⟩) hHeld ?_
  rotate_left
  · (intro w hSw; (try dsimp only at hSw); go_simp; try with_reducible rfl)
  try simp only [Act.put, List.setIfInBounds_toArray, List.set_cons_zero, List.set_cons_succ]
  refine wpAnyH_take (i := 10) (v := ?_) (by simp only [List.getElem?_toArray, List.getElem?_cons_zero, List.getElem?_cons_succ]; rfl) (by kernel_rfl) (by kernel_rfl) (by kernel_rfl) (by intro _ _ _ h; exact h) (Or.inl ⟨by rfl, ?_⟩) hHeld ?_
  rotate_left
  · (intro w hSw; (try dsimp only at hSw); go_simp; try with_reducible rfl)
  try simp only [Act.put, List.setIfInBounds_toArray, List.set_cons_zero, List.set_cons_succ]
  refine wpAnyH_take (i := 11) (v := _) (by simp only [List.getElem?_toArray, List.getElem?_cons_zero, List.getElem?_cons_succ]; rfl) (by kernel_rfl) (by kernel_rfl) (by kernel_rfl) (by intro _ _ _ h; exact h) (yields_build (by rfl) 28 [(0, .tmp 49), (1, .tmp 53), (2, .tmp 57)] rfl [(0, .agg (u8l ent.it2.skey).toArray), (1, .int .i64 ent.it2.so), (2, .int .i64 ent.it2.sm)] rfl _ (fun _ => build28_list _ (by rw [u8l_len, hsl.out]) _ _ _)) hHeld ?_
  try simp only [Act.put, List.setIfInBounds_toArray, List.set_cons_zero, List.set_cons_succ]
  refine wpAnyH_take (i := 12) (v := ?_) (by simp only [List.getElem?_toArray, List.getElem?_cons_zero, List.getElem?_cons_succ]; rfl) (by kernel_rfl) (by kernel_rfl) (by kernel_rfl) (by intro _ _ _ h; exact h) (Or.inl ⟨by rfl, ?_⟩) hHeld ?_
  rotate_left
  · (intro w hSw; (try dsimp only at hSw); go_simp; try with_reducible rfl)
  try simp only [Act.put, List.setIfInBounds_toArray, List.set_cons_zero, List.set_cons_succ]
  refine wpAnyH_ready (rs := [13]) (by kernel_rfl) (by simp) ?_
  refine AllReadyH.cons (by simp only [List.getElem?_toArray, List.getElem?_cons_zero, List.getElem?_cons_succ]; rfl) (fun K hK => ?_) AllReadyH.nil
  rw [if_pos (by rfl)]
  refine wp_store_seg 28 (.tmp 59) (.tmp 58) rfl b6 39 rfl ent.it2.sl rfl M8.out 2 _ 30 rfl hls.out (by simp [Itm.sl, zI, zb, splice, u8l_len, hsl.out]) (sl_one _) ?_
  intro w9 M9 hs_
  refine hK.out _ _ ⟨M9.out.range 0 rfl 40 (u8l ent.it2.skey) (by rw [u8l_len, hsl.out, Ent.sub]; rfl), M9.out.cell 0 rfl 72 (Ent.byte ok 72 (by omega)), M9.out.cell 0 rfl 73 (Ent.byte ok 73 (by omega))⟩ (fun hHeld => ?_)
  clear hK K hs_
  refine wpAnyH_done (by kernel_rfl) ?_ _
  have M10 : Hid (Mem w w9 [(b1, ent.cells, 35), (b2, zI 0, 30), (b6, ent.it2.cells, 30)]) := Lib.hid (by
    have q := M9.out
    rw [show ent.it2.cells = ent.it2.bare2.cells from rfl, ← bare2_eq ent.it2 hsl.out]
    exact q)
  clear M9 M8 hHeld
  have g6 := M10.out.all 2 rfl
  have hx : Hid ((Try.prog.info? 30).map (·.size) = some ent.it2.cells.length) := Lib.hid (by rw [Itm.len (it2_ok ok)]; exact info30)
  go_wp2_with (refine wpList_load_midG rfl 30 (.tmp 6) rfl b6 0 rfl ent.it2.cells _ g6 Try.underlying30 rfl hx.out ?_)
  refine (of9 ent.it2 (it2_ok ok) _).mono ?_
  rintro r wy ⟨rfl, hb⟩
  have MY := Lib.hid (M10.out.go hb)
  clear hb g6 M10
  cases hR : ent.it2.right
  · rw [ofOut_f hR]
    have HO : Hid (itemOut ent = .tuple #[.agg (zI 0).toArray, .int .i64 4]) := Lib.hid (itemOut_f (by rw [HIT.out, hR]; simp))
    clear hR
    go_wp2_with first
      | (refine wpList_store_seg rfl 35 (.tmp 7) (.tmp 68) rfl wy.heap.size 0 rfl zE rfl (MY.out.push zE 35) 3 _ 35 rfl info35 (by simp) zb_one rfl ?_; intro w5 M5 hs5)
      | (refine wpList_buildG rfl 30 [] rfl [] rfl _ (build30z _) ?_)
      | (refine wpList_store_seg rfl 30 (.tmp 2) (.tmp 77) rfl b2 0 rfl (zI 0) rfl M5.out 1 _ 30 rfl info30 (by simp) (zI_one 0) rfl ?_; intro wz Mz hsz)
    have hz : wz.rangeAt b2 0 (zI 0) := by
      have q := Mz.out.all 1 rfl
      rw [splice_all _ _ rfl] at q
      exact q
    have hbz := Mz.out.below
    clear Mz
    refine bodyPost_ret (results_cell_mid rfl _ _ b2 _ _ rfl hz Try.underlying30 rfl info30) rfl ?_
    exact ⟨by rw [HO.out]; rfl, hbz⟩
  · rw [ofOut_t hR]
    have HR := Lib.hid hR
    have hxe : Hid ((Try.prog.info? 35).map (·.size) = some ent.it2.ent.cells.length) := Lib.hid (by rw [ent_len (it2_ok ok)]; exact info35)
    have hxl : Hid (ent.it2.ent.cells.length = 80) := Lib.hid (ent_len (it2_ok ok))
    clear hR
    go_upto_region 13 with (refine wpList_store_seg rfl 35 (.tmp 7) (.tmp 68) rfl wy.heap.size 0 rfl ent.it2.ent.cells rfl (MY.out.push zE 35) 3 _ 35 rfl hxe.out (by rw [hxl.out]; simp [zE, zb]) u8l_one rfl ?_; intro w5 M5 hs5)
    obtain ⟨b7, hb7⟩ : ∃ b, b = wy.heap.size := ⟨_, rfl⟩
    rw [← hb7]
    have M5' : Hid (Mem w w5 [(b1, ent.cells, 35), (b2, zI 0, 30), (b6, ent.it2.cells, 30), (b7, ent.it2.ent.cells, 35)]) := Lib.hid (by
      have q := M5.out
      rw [splice_all _ _ (by rw [hxl.out]; rfl)] at q
      rw [hb7]; exact q)
    clear M5 hs5 MY hb7
    obtain ⟨r, hr, hri⟩ := eqr35 (ent_ok (it2_ok ok)) ok w5
    have HRI := Lib.hid hri
    clear hri
    have g7 := M5'.out.all 3 rfl
    have g1 := M5'.out.all 0 rfl
    have g6 := M5'.out.all 2 rfl
    cases r
    · have HO : Hid (itemOut ent = .tuple #[.agg (zI 0).toArray, .int .i64 4]) := Lib.hid (itemOut_f (by
        rw [HIT.out]
        rintro ⟨_, h⟩
        have := HRI.out.2 (by rw [Ent.cells_kv, Ent.cells_kv, h])
        cases this))
      clear HRI
      go_wp2_with first
        | (refine wpList_load_midG rfl 35 (.tmp 7) rfl b7 0 rfl ent.it2.ent.cells _ g7 Try.underlying35 rfl hxe.out ?_)
        | (refine wpList_load_midG rfl 35 (.tmp 1) rfl b1 0 rfl ent.cells _ g1 Try.underlying35 rfl hel.out ?_)
        | (refine wpList_neqG rfl 35 (.tmp 73) (.tmp 74) rfl ent.it2.ent.cells.toArray ent.cells.toArray rfl rfl false eqg35 hr ?_)
        | (refine wpList_buildG rfl 30 [] rfl [] rfl _ (build30z _) ?_)
        | (refine wpList_store_seg rfl 30 (.tmp 2) (.tmp 77) rfl b2 0 rfl (zI 0) rfl M5'.out 1 _ 30 rfl info30 (by simp) (zI_one 0) rfl ?_; intro wz Mz hsz)
      have hz : wz.rangeAt b2 0 (zI 0) := by
        have q := Mz.out.all 1 rfl
        rw [splice_all _ _ rfl] at q
        exact q
      have hbz := Mz.out.below
      clear Mz
      refine bodyPost_ret (results_cell_mid rfl _ _ b2 _ _ rfl hz Try.underlying30 rfl info30) rfl ?_
      exact ⟨by rw [HO.out]; rfl, hbz⟩
    · have HO : Hid (itemOut ent = .tuple #[.agg ent.it2.cells.toArray, .int .i64 0]) := Lib.hid (by
        have q := itemOut_t (e := ent) (by rw [HIT.out, HR.out]) (by rw [HIT.out]; exact u8l_inj (HRI.out.1 rfl))
        rw [HIT.out] at q
        exact q)
      have hxc : Hid (ent.it2.cells.length = 73) := Lib.hid (Itm.len (it2_ok ok))
      clear HRI
      go_wp2_with first
        | (refine wpList_load_midG rfl 35 (.tmp 7) rfl b7 0 rfl ent.it2.ent.cells _ g7 Try.underlying35 rfl hxe.out ?_)
        | (refine wpList_load_midG rfl 35 (.tmp 1) rfl b1 0 rfl ent.cells _ g1 Try.underlying35 rfl hel.out ?_)
        | (refine wpList_neqG rfl 35 (.tmp 73) (.tmp 74) rfl ent.it2.ent.cells.toArray ent.cells.toArray rfl rfl true eqg35 hr ?_)
        | (refine wpList_load_midG rfl 30 (.tmp 6) rfl b6 0 rfl ent.it2.cells _ g6 Try.underlying30 rfl hx.out ?_)
        | (refine wpList_store_seg rfl 30 (.tmp 2) (.tmp 78) rfl b2 0 rfl ent.it2.cells rfl M5'.out 1 _ 30 rfl hx.out (by rw [hxc.out]; simp [zI, zb]) (item_one (it2_ok ok)) rfl ?_; intro wz Mz hsz)
      have hz : wz.rangeAt b2 0 ent.it2.cells := by
        have q := Mz.out.all 1 rfl
        rw [splice_all _ _ (by rw [hxc.out]; rfl)] at q
        exact q
      have hbz := Mz.out.below
      clear Mz
      refine bodyPost_ret (results_cell_mid rfl _ _ b2 _ _ rfl hz Try.underlying30 rfl hx.out) rfl ?_
      exact ⟨by rw [HO.out]; rfl, hbz⟩
end Go.Proofs.Ytmckngkmlhemoaa
