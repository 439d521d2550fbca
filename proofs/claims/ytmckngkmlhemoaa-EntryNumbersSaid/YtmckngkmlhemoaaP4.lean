/- entry.Item (layer 14) at an entry whose first byte is kd. Printed by genP.py. -/
import Derived.Test.YtmckngkmlhemoaaP0
namespace Go.Proofs.Ytmckngkmlhemoaa
open Go.RowKit
set_option maxRecDepth 100000 in
set_option maxHeartbeats 4000000 in
theorem item12_0 (ent : Ent) (ok : ent.Ok) (w : World) (kd : Int) (h1 : ent.kd = kd) (n1 : kd ≠ 1) (n2 : kd ≠ 2) (n3 : kd ≠ 3) : Calls Try.prog 12 #[.agg ent.cells.toArray] w fun e w' => e = .returned (itemOut ent) ∧ Below w.heap.size w w' := by
  have hkd : 0 ≤ kd ∧ kd < 256 := by rw [← h1]; exact getD_byte (Ent.kv_bytes ok) 0
  have t1 : decide (kd = 1) = false := by simp [n1]
  have t2 : decide (kd = 2) = false := by simp [n2]
  have t3 : decide (kd = 3) = false := by simp [n3]
  have M := Lib.hid (((Mem.nil w).push ent.cells 35).push (zI 0) 30)
  have z35 := zero35
  have z30 := zero30
  have a39 := arrayAt39
  have a40 := arrayAt40
  have hel : Hid ((Try.prog.info? 35).map (·.size) = some ent.cells.length) := Lib.hid (by rw [Ent.len ok]; exact info35)
  have hlen : Hid (ent.cells.length = 80) := Lib.hid (Ent.len ok)
  have HB := Lib.hid (Ent.byte ok 0 (by omega))
  have hkv : ent.kv.getD 0 0 = kd := h1
  rw [hkv] at HB
  have HIT : Hid (ent.it = (itN kd 0)) := Lib.hid (((if_neg (by omega)).trans ((if_neg (by omega)).trans (if_neg (by omega)))).trans (by rw [h1]))
  clear hkv h1
  go_enter Try.func12, Try.ntmps12
  go_upto_region 1 with fail
  obtain ⟨w1, hw1⟩ : ∃ w1, w1 = (w.alloc (Obj.cells ent.cells.toArray 35)).alloc (.cells (zI 0).toArray 30) := ⟨_, rfl⟩
  obtain ⟨b1, hb1⟩ : ∃ b, b = w.heap.size := ⟨_, rfl⟩
  obtain ⟨b2, hb2⟩ : ∃ b, b = (w.alloc (Obj.cells ent.cells.toArray 35)).heap.size := ⟨_, rfl⟩
  have hb2' : b2 = w.heap.size + 1 := by rw [hb2]; simp
  have M1 : Hid (Mem w w1 [(b1, ent.cells, 35), (b2, zI 0, 30)]) := Lib.hid (by rw [hw1, hb1, hb2]; exact M.out)
  rw [← hw1, ← hb2', ← hb1]
  clear hw1 hb1 hb2 hb2' M
  go_quiet (fail)
  have M2 : Hid (Mem w (w1.drewN nq) [(b1, ent.cells, 35), (b2, zI 0, 30)]) := Lib.hid (M1.out.drew nq)
  clear M1
  obtain ⟨w2, hw2⟩ : ∃ w2, w2 = w1.drewN nq := ⟨_, rfl⟩
  rw [← hw2] at M2 ⊢
  clear hw2
  have c0 : w2.cell? ⟨b1, 0, none⟩ = some (.int .u8 kd) := M2.out.cell 0 rfl 0 HB.out
  go_upto_region 3 with first
    | (refine wpList_buildG rfl 30 [(0, .tmp 15)] rfl [(0, .int .u8 kd)] rfl _ (build30 _ _) ?_)
    | (refine wpList_store_seg rfl 30 (.tmp 6) (.tmp 16) rfl w2.heap.size 0 rfl (zI kd) rfl (M2.out.push (zI 0) 30) 2 (zI 0) 30 rfl info30 (by simp [zI, zb]) (zI_one _) rfl ?_; intro w3 M3 hs3)
  obtain ⟨b6, hb6⟩ : ∃ b, b = w2.heap.size := ⟨_, rfl⟩
  rw [← hb6]
  have M3' : Hid (Mem w w3 [(b1, ent.cells, 35), (b2, zI 0, 30), (b6, zI kd, 30)]) := Lib.hid (by rw [hb6]; exact M3.out)
  clear M3 hs3 M2 c0 hb6
  have c0 : w3.cell? ⟨b6, 0, none⟩ = some (.int .u8 kd) := M3'.out.cell 2 rfl 0 rfl
  go_upto_region 12 with fail
  have M6 : Hid (Mem w w3 [(b1, ent.cells, 35), (b2, zI 0, 30), (b6, (itN kd 0).cells, 30)]) := Lib.hid (by rw [it_cells0]; exact M3'.out)
  clear M3' c0
  have g6 := M6.out.all 2 rfl
  have hx : Hid ((Try.prog.info? 30).map (·.size) = some (itN kd 0).cells.length) := Lib.hid (by rw [Itm.len (itN_ok hkd okI_zero)]; exact info30)
  go_wp2_with (refine wpList_load_midG rfl 30 (.tmp 6) rfl b6 0 rfl (itN kd 0).cells _ g6 Try.underlying30 rfl hx.out ?_)
  refine (of9 (itN kd 0) (itN_ok hkd okI_zero) _).mono ?_
  rintro r wy ⟨rfl, hb⟩
  have MY := Lib.hid (M6.out.go hb)
  clear hb g6 M6
  cases hR : (itN kd 0).right
  · rw [ofOut_f hR]
    have HO : Hid (itemOut ent = .tuple #[.agg (zI 0).toArray, .int .i64 4]) := Lib.hid (itemOut_f (by rw [HIT.out, hR]; simp))
    clear hR
    go_wp2_with first
      | (refine wpList_store_seg rfl 35 (.tmp 7) (.tmp 68) rfl wy.heap.size 0 rfl zE rfl (MY.out.push zE 35) 3 _ 35 rfl info35 (by simp) zb_one rfl ?_; intro w5 M5 hs5)
      | (refine wpList_buildG rfl 30 [] rfl [] rfl _ (build30z _) ?_)
      | (refine wpList_store_seg rfl 30 (.tmp 2) (.tmp 77) rfl b2 0 rfl (zI 0) rfl M5.out 1 _ 30 rfl info30 (by simp) (zI_one 0) rfl ?_; intro wz Mz hsz)
    have hz : wz.rangeAt b2 0 (zI 0) := by
      have q := Mz.out.all 1 rfl
      rw [splice_all _ _ rfl] at q
      exact q
    have hbz := Mz.out.below
    clear Mz
    refine bodyPost_ret (results_cell_mid rfl _ _ b2 _ _ rfl hz Try.underlying30 rfl info30) rfl ?_
    exact ⟨by rw [HO.out]; rfl, hbz⟩
  · rw [ofOut_t hR]
    have HR := Lib.hid hR
    have hxe : Hid ((Try.prog.info? 35).map (·.size) = some (itN kd 0).ent.cells.length) := Lib.hid (by rw [ent_len (itN_ok hkd okI_zero)]; exact info35)
    have hxl : Hid ((itN kd 0).ent.cells.length = 80) := Lib.hid (ent_len (itN_ok hkd okI_zero))
    clear hR
    go_upto_region 13 with (refine wpList_store_seg rfl 35 (.tmp 7) (.tmp 68) rfl wy.heap.size 0 rfl (itN kd 0).ent.cells rfl (MY.out.push zE 35) 3 _ 35 rfl hxe.out (by rw [hxl.out]; simp [zE, zb]) u8l_one rfl ?_; intro w5 M5 hs5)
    obtain ⟨b7, hb7⟩ : ∃ b, b = wy.heap.size := ⟨_, rfl⟩
    rw [← hb7]
    have M5' : Hid (Mem w w5 [(b1, ent.cells, 35), (b2, zI 0, 30), (b6, (itN kd 0).cells, 30), (b7, (itN kd 0).ent.cells, 35)]) := Lib.hid (by
      have q := M5.out
      rw [splice_all _ _ (by rw [hxl.out]; rfl)] at q
      rw [hb7]; exact q)
    clear M5 hs5 MY hb7
    obtain ⟨r, hr, hri⟩ := eqr35 (ent_ok (itN_ok hkd okI_zero)) ok w5
    have HRI := Lib.hid hri
    clear hri
    have g7 := M5'.out.all 3 rfl
    have g1 := M5'.out.all 0 rfl
    have g6 := M5'.out.all 2 rfl
    cases r
    · have HO : Hid (itemOut ent = .tuple #[.agg (zI 0).toArray, .int .i64 4]) := Lib.hid (itemOut_f (by
        rw [HIT.out]
        rintro ⟨_, h⟩
        have := HRI.out.2 (by rw [Ent.cells_kv, Ent.cells_kv, h])
        cases this))
      clear HRI
      go_wp2_with first
        | (refine wpList_load_midG rfl 35 (.tmp 7) rfl b7 0 rfl (itN kd 0).ent.cells _ g7 Try.underlying35 rfl hxe.out ?_)
        | (refine wpList_load_midG rfl 35 (.tmp 1) rfl b1 0 rfl ent.cells _ g1 Try.underlying35 rfl hel.out ?_)
        | (refine wpList_neqG rfl 35 (.tmp 73) (.tmp 74) rfl (itN kd 0).ent.cells.toArray ent.cells.toArray rfl rfl false eqg35 hr ?_)
        | (refine wpList_buildG rfl 30 [] rfl [] rfl _ (build30z _) ?_)
        | (refine wpList_store_seg rfl 30 (.tmp 2) (.tmp 77) rfl b2 0 rfl (zI 0) rfl M5'.out 1 _ 30 rfl info30 (by simp) (zI_one 0) rfl ?_; intro wz Mz hsz)
      have hz : wz.rangeAt b2 0 (zI 0) := by
        have q := Mz.out.all 1 rfl
        rw [splice_all _ _ rfl] at q
        exact q
      have hbz := Mz.out.below
      clear Mz
      refine bodyPost_ret (results_cell_mid rfl _ _ b2 _ _ rfl hz Try.underlying30 rfl info30) rfl ?_
      exact ⟨by rw [HO.out]; rfl, hbz⟩
    · have HO : Hid (itemOut ent = .tuple #[.agg (itN kd 0).cells.toArray, .int .i64 0]) := Lib.hid (by
        have q := itemOut_t (e := ent) (by rw [HIT.out, HR.out]) (by rw [HIT.out]; exact u8l_inj (HRI.out.1 rfl))
        rw [HIT.out] at q
        exact q)
      have hxc : Hid ((itN kd 0).cells.length = 73) := Lib.hid (Itm.len (itN_ok hkd okI_zero))
      clear HRI
      go_wp2_with first
        | (refine wpList_load_midG rfl 35 (.tmp 7) rfl b7 0 rfl (itN kd 0).ent.cells _ g7 Try.underlying35 rfl hxe.out ?_)
        | (refine wpList_load_midG rfl 35 (.tmp 1) rfl b1 0 rfl ent.cells _ g1 Try.underlying35 rfl hel.out ?_)
        | (refine wpList_neqG rfl 35 (.tmp 73) (.tmp 74) rfl (itN kd 0).ent.cells.toArray ent.cells.toArray rfl rfl true eqg35 hr ?_)
        | (refine wpList_load_midG rfl 30 (.tmp 6) rfl b6 0 rfl (itN kd 0).cells _ g6 Try.underlying30 rfl hx.out ?_)
        | (refine wpList_store_seg rfl 30 (.tmp 2) (.tmp 78) rfl b2 0 rfl (itN kd 0).cells rfl M5'.out 1 _ 30 rfl hx.out (by rw [hxc.out]; simp [zI, zb]) (item_one (itN_ok hkd okI_zero)) rfl ?_; intro wz Mz hsz)
      have hz : wz.rangeAt b2 0 (itN kd 0).cells := by
        have q := Mz.out.all 1 rfl
        rw [splice_all _ _ (by rw [hxc.out]; rfl)] at q
        exact q
      have hbz := Mz.out.below
      clear Mz
      refine bodyPost_ret (results_cell_mid rfl _ _ b2 _ _ rfl hz Try.underlying30 rfl hx.out) rfl ?_
      exact ⟨by rw [HO.out]; rfl, hbz⟩
end Go.Proofs.Ytmckngkmlhemoaa
