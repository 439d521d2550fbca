/- entry.Of (layer 14) at an item of kind kd. Printed by genM.py. -/
import Derived.Test.YtmckngkmlhemoaaL
namespace Go.Proofs.Ytmckngkmlhemoaa
open Go.RowKit
set_option maxRecDepth 100000 in
set_option maxHeartbeats 4000000 in
theorem of9_0 (i : Itm) (ok : i.Ok) (w : World) (kd : Int) (h1 : i.kind = kd) (n1 : kd ≠ 1) (n2 : kd ≠ 2) (n3 : kd ≠ 3) : Calls Try.prog 9 #[.agg i.cells.toArray] w fun e w' => e = .returned (ofOut i) ∧ Below w.heap.size w w' := by
  have M := Lib.hid (((Mem.nil w).push i.cells 30).push zE 35)
  have z35 := zero35
  have z30 := zero30
  have z26 := zero26
  have z28 := zero28
  have HI := Lib.hid (Itm.is ok)
  have hlk : Hid ((Try.prog.info? 24).map (·.size) = some (u8l i.key).length) := Lib.hid (by rw [HI.out.key_len]; exact info24)
  have hls : Hid ((Try.prog.info? 28).map (·.size) = some i.sl.length) := Lib.hid (by rw [HI.out.sl_len]; exact info28)
  have hlc : Hid (i.cells.length = 73) := Lib.hid (Itm.len ok)
  have hlk2 : Hid (i.key.length = 32) := Lib.hid ok.key.1
  have H1 := Lib.hid h1
  go_enter Try.func9, Try.ntmps9
  go_upto_region 1 with fail
  obtain ⟨w1, hw1⟩ : ∃ w1, w1 = (w.alloc (Obj.cells i.cells.toArray 30)).alloc (.cells zE.toArray 35) := ⟨_, rfl⟩
  obtain ⟨b1, hb1⟩ : ∃ b, b = w.heap.size := ⟨_, rfl⟩
  obtain ⟨b2, hb2⟩ : ∃ b, b = (w.alloc (Obj.cells i.cells.toArray 30)).heap.size := ⟨_, rfl⟩
  have hb2' : b2 = w.heap.size + 1 := by rw [hb2]; simp
  have M1 : Hid (Mem w w1 [(b1, i.cells, 30), (b2, zE, 35)]) := Lib.hid (by rw [hw1, hb1, hb2]; exact M.out)
  rw [← hw1, ← hb2', ← hb1]
  have c0 : w1.cell? ⟨b1, 0, none⟩ = some (.int .u8 kd) := M1.out.cell 0 rfl 0 (by rw [← h1]; rfl)
  clear hw1 hb1 hb2 hb2' M h1
  go_upto_region 2 with first
    | (refine wpList_buildG rfl 32 [(0, .tmp 15)] rfl [(0, .int .u8 kd)] rfl _ (build32 _ _) ?_)
    | (refine wpList_buildG rfl 35 [(0, .tmp 16)] rfl [(0, .agg (.int .u8 kd :: zb 39).toArray)] rfl _ (build35 _ _) ?_)
    | (refine wpList_store_seg rfl 35 (.tmp 4) (.tmp 17) rfl w1.heap.size 0 rfl (.int .u8 kd :: zb 79) rfl (M1.out.push zE 35) 2 zE 35 rfl info35 (by simp [zE, zb]) (by simp [zb, Value.oneCell']) rfl ?_; intro w2 M2 hs2)
  obtain ⟨b4, hb4⟩ : ∃ b, b = w1.heap.size := ⟨_, rfl⟩
  rw [← hb4]
  have M2' : Hid (Mem w w2 [(b1, i.cells, 30), (b2, zE, 35), (b4, .int .u8 kd :: zb 79, 35)]) := Lib.hid (by rw [hb4]; exact M2.out)
  clear M2 hs2 M1 c0 hb4
  go_quiet (fail)
  have M3 : Hid (Mem w (w2.drewN nq) [(b1, i.cells, 30), (b2, zE, 35), (b4, .int .u8 kd :: zb 79, 35)]) := Lib.hid (M2'.out.drew nq)
  clear M2'
  obtain ⟨w3, hw3⟩ : ∃ w3, w3 = w2.drewN nq := ⟨_, rfl⟩
  rw [← hw3] at M3 ⊢
  clear hw3
  have c0 : w3.cell? ⟨b1, 0, none⟩ = some (.int .u8 kd) := M3.out.cell 0 rfl 0 (by rw [← H1.out]; rfl)
  go_upto_region 4 with first
    | (refine wpList_buildG rfl 30 [(0, .tmp 23)] rfl [(0, .int .u8 kd)] rfl _ (build30 _ _) ?_)
    | (refine wpList_store_seg rfl 30 (.tmp 7) (.tmp 24) rfl w3.heap.size 0 rfl (zI kd) rfl (M3.out.push (zI 0) 30) 3 (zI 0) 30 rfl info30 (by simp [zI, zb]) (zI_one _) rfl ?_; intro w4 M4 hs4)
  --STOP0
  obtain ⟨b7, hb7⟩ : ∃ b, b = w3.heap.size := ⟨_, rfl⟩
  rw [← hb7]
  have M4' : Hid (Mem w w4 [(b1, i.cells, 30), (b2, zE, 35), (b4, .int .u8 kd :: zb 79, 35), (b7, zI kd, 30)]) := Lib.hid (by rw [hb7]; exact M4.out)
  clear M4 hs4 M3 c0 hb7
  have c0 : w4.cell? ⟨b1, 0, none⟩ = some (.int .u8 kd) := M4'.out.cell 0 rfl 0 (by rw [← H1.out]; rfl)
  have t1 : decide (kd = 1) = false := by simp [n1]
  have t2 : decide (kd = 2) = false := by simp [n2]
  have t3 : decide (kd = 3) = false := by simp [n3]
  have hR : Hid (i.right = false) := Lib.hid (Itm.right0 (by rw [H1.out]; exact n1) (by rw [H1.out]; exact n2) (by rw [H1.out]; exact n3))
  go_wp2_with first
    | (refine wpList_buildG rfl 35 [] rfl [] rfl _ (build35z _) ?_)
    | (refine wpList_store_seg rfl 35 (.tmp 2) (.tmp 155) rfl b2 0 rfl zE rfl M4'.out 1 _ 35 rfl info35 (by simp [zE, zb]) zb_one rfl ?_; intro wz Mz hsz)
  have hz : wz.rangeAt b2 0 zE := by
    have q := Mz.out.all 1 rfl
    rw [splice_all _ _ rfl] at q
    exact q
  have hbz := Mz.out.below
  clear Mz
  refine bodyPost_ret (results_cell_mid rfl _ _ b2 _ _ rfl hz Try.underlying35 rfl info35) rfl ?_
  exact ⟨by rw [ofOut_f hR.out]; rfl, hbz⟩
end Go.Proofs.Ytmckngkmlhemoaa
