/- entry.Of (layer 14) at an item of kind 3. Printed by genM.py. -/
import Derived.Test.YtmckngkmlhemoaaL
namespace Go.Proofs.Ytmckngkmlhemoaa
open Go.RowKit
set_option maxRecDepth 100000 in
set_option maxHeartbeats 4000000 in
theorem of9_3 (i : Itm) (ok : i.Ok) (w : World) (h1 : i.kind = 3) : Calls Try.prog 9 #[.agg i.cells.toArray] w fun e w' => e = .returned (ofOut i) ∧ Below w.heap.size w w' := by
  have M := Lib.hid (((Mem.nil w).push i.cells 30).push zE 35)
  have z35 := zero35
  have z30 := zero30
  have z26 := zero26
  have z28 := zero28
  have HI := Lib.hid (Itm.is ok)
  have hlk : Hid ((Try.prog.info? 24).map (·.size) = some (u8l i.key).length) := Lib.hid (by rw [HI.out.key_len]; exact info24)
  have hls : Hid ((Try.prog.info? 28).map (·.size) = some i.sl.length) := Lib.hid (by rw [HI.out.sl_len]; exact info28)
  have hlc : Hid (i.cells.length = 73) := Lib.hid (Itm.len ok)
  have hlk2 : Hid (i.key.length = 32) := Lib.hid ok.key.1
  have H1 := Lib.hid h1
  go_enter Try.func9, Try.ntmps9
  go_upto_region 1 with fail
  obtain ⟨w1, hw1⟩ : ∃ w1, w1 = (w.alloc (Obj.cells i.cells.toArray 30)).alloc (.cells zE.toArray 35) := ⟨_, rfl⟩
  obtain ⟨b1, hb1⟩ : ∃ b, b = w.heap.size := ⟨_, rfl⟩
  obtain ⟨b2, hb2⟩ : ∃ b, b = (w.alloc (Obj.cells i.cells.toArray 30)).heap.size := ⟨_, rfl⟩
  have hb2' : b2 = w.heap.size + 1 := by rw [hb2]; simp
  have M1 : Hid (Mem w w1 [(b1, i.cells, 30), (b2, zE, 35)]) := Lib.hid (by rw [hw1, hb1, hb2]; exact M.out)
  rw [← hw1, ← hb2', ← hb1]
  have c0 : w1.cell? ⟨b1, 0, none⟩ = some (.int .u8 3) := M1.out.cell 0 rfl 0 (by rw [← h1]; rfl)
  clear hw1 hb1 hb2 hb2' M h1
  go_upto_region 2 with first
    | (refine wpList_buildG rfl 32 [(0, .tmp 15)] rfl [(0, .int .u8 3)] rfl _ (build32 _ _) ?_)
    | (refine wpList_buildG rfl 35 [(0, .tmp 16)] rfl [(0, .agg (.int .u8 3 :: zb 39).toArray)] rfl _ (build35 _ _) ?_)
    | (refine wpList_store_seg rfl 35 (.tmp 4) (.tmp 17) rfl w1.heap.size 0 rfl (.int .u8 3 :: zb 79) rfl (M1.out.push zE 35) 2 zE 35 rfl info35 (by simp [zE, zb]) (by simp [zb, Value.oneCell']) rfl ?_; intro w2 M2 hs2)
  obtain ⟨b4, hb4⟩ : ∃ b, b = w1.heap.size := ⟨_, rfl⟩
  rw [← hb4]
  have M2' : Hid (Mem w w2 [(b1, i.cells, 30), (b2, zE, 35), (b4, .int .u8 3 :: zb 79, 35)]) := Lib.hid (by rw [hb4]; exact M2.out)
  clear M2 hs2 M1 c0 hb4
  go_quiet (fail)
  have M3 : Hid (Mem w (w2.drewN nq) [(b1, i.cells, 30), (b2, zE, 35), (b4, .int .u8 3 :: zb 79, 35)]) := Lib.hid (M2'.out.drew nq)
  clear M2'
  obtain ⟨w3, hw3⟩ : ∃ w3, w3 = w2.drewN nq := ⟨_, rfl⟩
  rw [← hw3] at M3 ⊢
  clear hw3
  have c0 : w3.cell? ⟨b1, 0, none⟩ = some (.int .u8 3) := M3.out.cell 0 rfl 0 (by rw [← H1.out]; rfl)
  go_upto_region 4 with first
    | (refine wpList_buildG rfl 30 [(0, .tmp 23)] rfl [(0, .int .u8 3)] rfl _ (build30 _ _) ?_)
    | (refine wpList_store_seg rfl 30 (.tmp 7) (.tmp 24) rfl w3.heap.size 0 rfl (zI 3) rfl (M3.out.push (zI 0) 30) 3 (zI 0) 30 rfl info30 (by simp [zI, zb]) (zI_one _) rfl ?_; intro w4 M4 hs4)
  --STOP0
  obtain ⟨b7, hb7⟩ : ∃ b, b = w3.heap.size := ⟨_, rfl⟩
  rw [← hb7]
  have M4' : Hid (Mem w w4 [(b1, i.cells, 30), (b2, zE, 35), (b4, .int .u8 3 :: zb 79, 35), (b7, zI 3, 30)]) := Lib.hid (by rw [hb7]; exact M4.out)
  clear M4 hs4 M3 c0 hb7
  have c0 : w4.cell? ⟨b1, 0, none⟩ = some (.int .u8 3) := M4'.out.cell 0 rfl 0 (by rw [← H1.out]; rfl)
  have d0 := (HI.out.at_ (M4'.out.get 0 rfl)).2.2.2.1
  obtain ⟨F, hF⟩ : ∃ F, F = inB i.sn 1 1073741824 := ⟨_, rfl⟩
  have HF := Lib.hid hF
  clear hF
  go_wp2_with first
    | (refine wpList_store_one rfl 3 (.tmp 140) (.tmp 139) rfl b7 37 rfl .i64 i.sn rfl M4'.out 3 _ 30 rfl info3 (by simp [zI, zb]) rfl ?_; intro w5 M5 hs5; have d0 := (HI.out.at_ (M5.out.get 0 rfl)).2.2.2.1)
    | (go_at_call 19; refine (within19 _ _ _ _).mono ?_; rintro e w' ⟨rfl, rfl⟩; rw [← HF.out])
  have M5' : Hid (Mem w w5 [(b1, i.cells, 30), (b2, zE, 35), (b4, .int .u8 3 :: zb 79, 35), (b7, i.bare3.cells, 30)]) := Lib.hid (by rw [← bare3_eq i]; exact M5.out)
  refine (four20M M5'.out 2 rfl 1 39 39 i.sn (by omega) (by simp [zb])).mono ?_
  rintro e w10 ⟨rfl, hM10⟩
  have M10 : Hid (Mem w w10 [(b1, i.cells, 30), (b2, zE, 35), (b4, i.ent.cells, 35), (b7, i.bare3.cells, 30)]) := Lib.hid (by
    rw [← ent3_eq H1.out, show [Value.int .u8 3] ++ (fz 39 [i.sn] ++ zb 40) = _ from (fz_put 39 [] i.sn [.int .u8 3] (zb 40) 1 rfl (by simp)).symm, ← zeroE_parts]
    exact hM10)
  clear hM10 M5' M5 M4' d0 hs5
  go_upto_region 28 with fail
  obtain ⟨r, hr, hri⟩ := eqr30 (bare3_ok ok) ok w10
  have g7 := M10.out.all 3 rfl
  have g1 := M10.out.all 0 rfl
  have g4 := M10.out.all 2 rfl
  have hb : Hid ((Try.prog.info? 30).map (·.size) = some i.bare3.cells.length) := Lib.hid (by rw [Itm.len (bare3_ok ok)]; exact info30)
  have hc : Hid ((Try.prog.info? 30).map (·.size) = some i.cells.length) := Lib.hid (by rw [hlc.out]; exact info30)
  have hRI := Lib.hid (right3_iff ok H1.out)
  have hRR := Lib.hid hri
  have hel : Hid (i.ent.cells.length = 80) := Lib.hid (ent_len ok)
  clear hri
  by_cases hw : F = true ∧ r = true
  · obtain ⟨hF1, hr1⟩ := hw
    have hR : Hid (i.right = true) := Lib.hid (hRI.out.2 ⟨by rw [← HF.out, hF1], hRR.out.1 hr1⟩)
    subst hF1
    subst hr1
    go_wp2_with first
      | (refine wpList_load_midG rfl 30 (.tmp 7) rfl b7 0 rfl i.bare3.cells _ g7 Try.underlying30 rfl hb.out ?_)
      | (refine wpList_load_midG rfl 30 (.tmp 1) rfl b1 0 rfl i.cells _ g1 Try.underlying30 rfl hc.out ?_)
      | (refine wpList_neqG rfl 30 (.tmp 151) (.tmp 152) rfl i.bare3.cells.toArray i.cells.toArray rfl rfl true eqg30 hr ?_)
      | (refine wpList_load_midG rfl 35 (.tmp 4) rfl b4 0 rfl i.ent.cells _ g4 Try.underlying35 rfl (by rw [hel.out]; exact info35) ?_)
      | (refine wpList_store_seg rfl 35 (.tmp 2) (.tmp 156) rfl b2 0 rfl i.ent.cells rfl M10.out 1 _ 35 rfl (by rw [hel.out]; exact info35) (by rw [hel.out]; simp [zE, zb]) (by intro v hv; obtain ⟨x, _, rfl⟩ := List.mem_map.1 hv; rfl) rfl ?_; intro wz Mz hsz)
    have hz : wz.rangeAt b2 0 i.ent.cells := by
      have q := Mz.out.all 1 rfl
      rw [splice_all _ _ (by rw [hel.out]; simp [zE, zb])] at q
      exact q
    have hbz := Mz.out.below
    clear Mz
    refine bodyPost_ret (results_cell_mid rfl _ _ b2 _ _ rfl hz Try.underlying35 rfl (by rw [hel.out]; exact info35)) rfl ?_
    exact ⟨by rw [ofOut_t hR.out]; rfl, hbz⟩
  · have hR : Hid (i.right = false) := Lib.hid (Bool.eq_false_iff.2 fun h => hw ⟨by rw [HF.out]; exact (hRI.out.1 h).1, hRR.out.2 (hRI.out.1 h).2⟩)
    cases F
    all_goals (try (cases r))
    all_goals (try (exact (hw ⟨rfl, rfl⟩).elim))
    all_goals
      clear hw
      go_wp2_with first
        | (refine wpList_load_midG rfl 30 (.tmp 7) rfl b7 0 rfl i.bare3.cells _ g7 Try.underlying30 rfl hb.out ?_)
        | (refine wpList_load_midG rfl 30 (.tmp 1) rfl b1 0 rfl i.cells _ g1 Try.underlying30 rfl hc.out ?_)
        | (refine wpList_neqG rfl 30 (.tmp 151) (.tmp 152) rfl i.bare3.cells.toArray i.cells.toArray rfl rfl false eqg30 hr ?_)
        | (refine wpList_buildG rfl 35 [] rfl [] rfl _ (build35z _) ?_)
        | (refine wpList_store_seg rfl 35 (.tmp 2) (.tmp 155) rfl b2 0 rfl zE rfl M10.out 1 _ 35 rfl info35 (by simp [zE, zb]) zb_one rfl ?_; intro wz Mz hsz)
      have hz : wz.rangeAt b2 0 zE := by
        have q := Mz.out.all 1 rfl
        rw [splice_all _ _ rfl] at q
        exact q
      have hbz := Mz.out.below
      clear Mz
      refine bodyPost_ret (results_cell_mid rfl _ _ b2 _ _ rfl hz Try.underlying35 rfl info35) rfl ?_
      exact ⟨by rw [ofOut_f hR.out]; rfl, hbz⟩
end Go.Proofs.Ytmckngkmlhemoaa
