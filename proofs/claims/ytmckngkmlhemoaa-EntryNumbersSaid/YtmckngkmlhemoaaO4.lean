/- The document's Of (layer 14) at an item that is not right; of any item. Printed by genO.py. -/
import Derived.Test.YtmckngkmlhemoaaO1
import Derived.Test.YtmckngkmlhemoaaO2
import Derived.Test.YtmckngkmlhemoaaO3
namespace Go.Proofs.Ytmckngkmlhemoaa
open Go.RowKit
set_option maxRecDepth 100000 in
set_option maxHeartbeats 4000000 in
theorem of10_0 (i : Itm) (ok : i.Ok) (w : World) (hr : i.right = false) : Calls Try.prog 10 #[.agg i.cells.toArray] w fun e w' => e = .returned (ofOut i) ∧ Below w.heap.size w w' := by
  have M := Lib.hid (((Mem.nil w).push i.cells 30).push zE 35)
  have z35 := zero35
  have HR := Lib.hid hr
  have hlc : Hid ((Try.prog.info? 30).map (·.size) = some i.cells.length) := Lib.hid (by rw [Itm.len ok]; exact info30)
  clear hr
  go_enter Try.func10, Try.ntmps10
  go_upto_region 1 with fail
  obtain ⟨w1, hw1⟩ : ∃ w1, w1 = (w.alloc (Obj.cells i.cells.toArray 30)).alloc (.cells zE.toArray 35) := ⟨_, rfl⟩
  obtain ⟨b1, hb1⟩ : ∃ b, b = w.heap.size := ⟨_, rfl⟩
  obtain ⟨b2, hb2⟩ : ∃ b, b = (w.alloc (Obj.cells i.cells.toArray 30)).heap.size := ⟨_, rfl⟩
  have hb2' : b2 = w.heap.size + 1 := by rw [hb2]; simp
  have M1 : Hid (Mem w w1 [(b1, i.cells, 30), (b2, zE, 35)]) := Lib.hid (by rw [hw1, hb1, hb2]; exact M.out)
  rw [← hw1, ← hb2', ← hb1]
  clear hw1 hb1 hb2 hb2' M
  have g1 := M1.out.all 0 rfl
  go_wp2_with (refine wpList_load_midG rfl 30 (.tmp 1) rfl b1 0 rfl i.cells _ g1 Try.underlying30 rfl hlc.out ?_)
  refine (right21 i ok _).mono ?_
  rintro e w2 ⟨rfl, hb⟩
  rw [HR.out]
  have M2 := Lib.hid (M1.out.go hb)
  clear hb g1 M1
  go_wp2_with first
    | (refine wpList_buildG rfl 35 [] rfl [] rfl _ (build35z _) ?_)
    | (refine wpList_store_seg rfl 35 (.tmp 2) (.tmp 14) rfl b2 0 rfl zE rfl M2.out 1 _ 35 rfl info35 (by simp [zE, zb]) zb_one rfl ?_; intro wz Mz hsz)
  have hz : wz.rangeAt b2 0 zE := by
    have q := Mz.out.all 1 rfl
    rw [splice_all _ _ rfl] at q
    exact q
  have hbz := Mz.out.below
  clear Mz
  refine bodyPost_ret (results_cell_mid rfl _ _ b2 _ _ rfl hz Try.underlying35 rfl info35) rfl ?_
  exact ⟨by rw [ofOut_f HR.out]; rfl, hbz⟩
theorem of10 (i : Itm) (ok : i.Ok) (w : World) : Calls Try.prog 10 #[.agg i.cells.toArray] w fun e w' => e = .returned (ofOut i) ∧ Below w.heap.size w w' := by
  cases hr : i.right
  · exact of10_0 i ok w hr
  by_cases h1 : i.kind = 1
  · exact of10_1 i ok w h1 hr
  by_cases h2 : i.kind = 2
  · exact of10_2 i ok w h2 hr
  by_cases h3 : i.kind = 3
  · exact of10_3 i ok w h3 hr
  · rw [Itm.right0 h1 h2 h3] at hr
    cases hr
end Go.Proofs.Ytmckngkmlhemoaa
