/- EntryBack (layer 14), a case of eight. Printed by genV.py. -/
import Derived.Test.YtmckngkmlhemoaaV0
namespace Go.Proofs.Ytmckngkmlhemoaa
open Go.RowKit
set_option maxRecDepth 100000 in
set_option maxHeartbeats 4000000 in
theorem law7_4 (i k : Itm) (ent : Ent) (oi : i.Ok) (ok : k.Ok) (oe : ent.Ok) (hi : i.right = false) (hk : k.right = true) (he : (ent.it.right = true ∧ ent.it.ent.kv = ent.kv)) (w : World) : Calls Try.prog 7 #[.agg i.cells.toArray, .agg k.cells.toArray, .agg ent.cells.toArray] w fun r w' => r = .returned (.bool true) ∧ Below w.heap.size w w' := by
  have z30 := zero30
  have z35 := zero35
  have M := Lib.hid ((((Mem.nil w).push i.cells 30).push k.cells 30).push ent.cells 35)
  have hx : Hid ((Try.prog.info? 30).map (·.size) = some i.cells.length) := Lib.hid (by rw [Itm.len oi]; exact info30)
  have hxc : Hid (i.cells.length = 73) := Lib.hid (Itm.len oi)
  have hy : Hid ((Try.prog.info? 30).map (·.size) = some k.cells.length) := Lib.hid (by rw [Itm.len ok]; exact info30)
  have hz : Hid ((Try.prog.info? 35).map (·.size) = some ent.cells.length) := Lib.hid (by rw [Ent.len oe]; exact info35)
  have hzc : Hid (ent.cells.length = 80) := Lib.hid (Ent.len oe)
  have h1 : Hid ((Try.prog.info? 35).map (·.size) = some zE.length) := Lib.hid (by exact info35)
  have h1c : Hid (zE.length = 80) := Lib.hid (rfl)
  have h2 : Hid ((Try.prog.info? 35).map (·.size) = some k.ent.cells.length) := Lib.hid (by rw [ent_len ok]; exact info35)
  have h2c : Hid (k.ent.cells.length = 80) := Lib.hid (ent_len ok)
  have hX : Hid ((Try.prog.info? 30).map (·.size) = some ent.it.cells.length) := Lib.hid (by rw [Itm.len (it_ok oe)]; exact info30)
  have hXc : Hid (ent.it.cells.length = 73) := Lib.hid (Itm.len (it_ok oe))
  have HI := Lib.hid hi
  have HK := Lib.hid hk
  have HE := Lib.hid he
  clear hi hk he
  go_enter Try.func7, Try.ntmps7
  go_upto_region 1 with fail
  obtain ⟨w1, hw1⟩ : ∃ w1, w1 = ((w.alloc (.cells i.cells.toArray 30)).alloc (.cells k.cells.toArray 30)).alloc (.cells ent.cells.toArray 35) := ⟨_, rfl⟩
  obtain ⟨b3, hb3⟩ : ∃ b, b = w.heap.size := ⟨_, rfl⟩
  obtain ⟨b4, hb4⟩ : ∃ b, b = (w.alloc (.cells i.cells.toArray 30)).heap.size := ⟨_, rfl⟩
  obtain ⟨b5, hb5⟩ : ∃ b, b = ((w.alloc (.cells i.cells.toArray 30)).alloc (.cells k.cells.toArray 30)).heap.size := ⟨_, rfl⟩
  have hb4' : b4 = w.heap.size + 1 := by rw [hb4]; simp
  have hb5' : b5 = w.heap.size + 1 + 1 := by rw [hb5]; simp
  have M0 : Hid (Mem w w1 [(b3, i.cells, 30), (b4, k.cells, 30), (b5, ent.cells, 35)]) := Lib.hid (by rw [hw1, hb3, hb4, hb5]; exact M.out)
  rw [← hw1]
  try rw [← hb5']
  try rw [show w.heap.size + 2 = b5 from hb5'.symm]
  rw [← hb4', ← hb3]
  clear hw1 hb3 hb4 hb5 hb4' hb5' M
  go_wp2_with fail
  refine (awake11 _).mono ?_
  rintro r w2 ⟨rfl, hb⟩
  have M1 := Lib.hid (M0.out.go hb)
  clear hb M0
  have ga := M1.out.all 0 rfl
  go_wp2_with (refine wpList_load_midG rfl 30 (.tmp 3) rfl b3 0 rfl i.cells _ ga Try.underlying30 rfl hx.out ?_)
  refine (of9 i oi _).mono ?_
  rintro r v1 ⟨rfl, hb⟩
  rw [ofOut_f HI.out]
  have N1 := Lib.hid (M1.out.go hb)
  clear hb M1 ga
  go_upto_region 4 with (refine wpList_store_seg rfl 35 (.tmp 7) (.tmp 22) rfl v1.heap.size 0 rfl zE rfl (N1.out.push zE 35) 3 _ 35 rfl h1.out (by rw [h1c.out]; exact Nat.le_refl _) zb_one rfl ?_; intro x1 P1 hs1)
  obtain ⟨b7, hq⟩ : ∃ b, b = v1.heap.size := ⟨_, rfl⟩
  rw [← hq]
  have M2 : Hid (Mem w x1 [(b3, i.cells, 30), (b4, k.cells, 30), (b5, ent.cells, 35), (b7, zE, 35)]) := Lib.hid (by
    have q := P1.out
    rw [splice_all _ _ rfl] at q
    rw [hq]; exact q)
  clear P1 N1 hs1 hq
  have ga := M2.out.all 1 rfl
  go_wp2_with (refine wpList_load_midG rfl 30 (.tmp 4) rfl b4 0 rfl k.cells _ ga Try.underlying30 rfl hy.out ?_)
  refine (of9 k ok _).mono ?_
  rintro r v2 ⟨rfl, hb⟩
  rw [ofOut_t HK.out]
  have N2 := Lib.hid (M2.out.go hb)
  clear hb M2 ga
  go_upto_region 5 with (refine wpList_store_seg rfl 35 (.tmp 9) (.tmp 27) rfl v2.heap.size 0 rfl k.ent.cells rfl (N2.out.push zE 35) 4 _ 35 rfl h2.out (by rw [h2c.out]; simp [zE, zb]) u8l_one rfl ?_; intro x2 P2 hs2)
  obtain ⟨b9, hq⟩ : ∃ b, b = v2.heap.size := ⟨_, rfl⟩
  rw [← hq]
  have M3 : Hid (Mem w x2 [(b3, i.cells, 30), (b4, k.cells, 30), (b5, ent.cells, 35), (b7, zE, 35), (b9, k.ent.cells, 35)]) := Lib.hid (by
    have q := P2.out
    rw [splice_all _ _ (by rw [h2c.out]; rfl)] at q
    rw [hq]; exact q)
  clear P2 N2 hs2 hq
  have ga := M3.out.all 3 rfl
  have hq : EqRun Try.prog 35 zE.toArray zE.toArray x2 true := entZ_cells ▸ eqr35_self entZ_ok x2
  go_upto_region 11 with first
    | (refine wpList_load_midG rfl 35 (.tmp 7) rfl b7 0 rfl zE _ ga Try.underlying35 rfl h1.out ?_)
    | (refine wpList_buildG rfl 35 [] rfl [] rfl _ (build35z _) ?_)
    | (refine wpList_neqG rfl 35 (.tmp 46) (.tmp 47) rfl zE.toArray zE.toArray rfl rfl true eqg35 hq ?_)
  clear ga hq
  have R0 := Lib.hid (M3.out.drew 1)
  have hH0 : (fun _ => True) x2.drew := trivial
  refine wp_region_held_drew (S := fun _ => True) follows hH0 (fun hHeld => ?_)
  obtain ⟨u0, hu0⟩ : ∃ w', w' = x2.drew := ⟨_, rfl⟩
  have R1 : Hid (Mem w u0 [(b3, i.cells, 30), (b4, k.cells, 30), (b5, ent.cells, 35), (b7, zE, 35), (b9, k.ent.cells, 35)]) := Lib.hid (by rw [hu0]; exact R0.out)
  rw [← hu0]
  clear hu0 hH0 R0 M3
  refine wpAnyH_take (i := 0) (v := ?_) (by simp only [List.getElem?_toArray, List.getElem?_cons_zero]; rfl) (by kernel_rfl) (by kernel_rfl) (by kernel_rfl) (by intro _ _ _ h; exact h) (Or.inl ⟨by rfl, ?_⟩) hHeld ?_
  rotate_left
  · (intro w hSw; (try dsimp only at hSw); go_simp; try with_reducible rfl)
  try simp only [Act.put, List.setIfInBounds_toArray, List.set_cons_zero, List.set_cons_succ]
  refine wpAnyH_take (i := 1) (v := ?_) (by simp only [List.getElem?_toArray, List.getElem?_cons_zero, List.getElem?_cons_succ]; rfl) (by kernel_rfl) (by kernel_rfl) (by kernel_rfl) (by intro _ _ _ h; exact h) (Or.inl ⟨by rfl, ?_⟩) hHeld ?_
  rotate_left
  · (intro w hSw; (try dsimp only at hSw); go_simp; try with_reducible rfl)
  try simp only [Act.put, List.setIfInBounds_toArray, List.set_cons_zero, List.set_cons_succ]
  refine wpAnyH_take (i := 2) (v := ?_) (by simp only [List.getElem?_toArray, List.getElem?_cons_zero, List.getElem?_cons_succ]; rfl) (by kernel_rfl) (by kernel_rfl) (by kernel_rfl) (by intro _ _ _ h; exact h) (Or.inl ⟨by rfl, ?_⟩) hHeld ?_
  rotate_left
  · (intro w hSw; (try dsimp only at hSw); go_simp; try with_reducible rfl)
  try simp only [Act.put, List.setIfInBounds_toArray, List.set_cons_zero, List.set_cons_succ]
  refine wpAnyH_take (i := 3) (v := undef) (by simp only [List.getElem?_toArray, List.getElem?_cons_zero, List.getElem?_cons_succ]; rfl) (by kernel_rfl) (by kernel_rfl) (by kernel_rfl) (by intro _ _ _ h; exact h) (Or.inr ⟨by rfl, rfl⟩) hHeld ?_
  try simp only [Act.put, List.setIfInBounds_toArray, List.set_cons_zero, List.set_cons_succ]
  refine wpAnyH_take (i := 4) (v := undef) (by simp only [List.getElem?_toArray, List.getElem?_cons_zero, List.getElem?_cons_succ]; rfl) (by kernel_rfl) (by kernel_rfl) (by kernel_rfl) (by intro _ _ _ h; exact h) (Or.inr ⟨by rfl, rfl⟩) hHeld ?_
  try simp only [Act.put, List.setIfInBounds_toArray, List.set_cons_zero, List.set_cons_succ]
  refine wpAnyH_take (i := 5) (v := ?_) (by simp only [List.getElem?_toArray, List.getElem?_cons_zero, List.getElem?_cons_succ]; rfl) (by kernel_rfl) (by kernel_rfl) (by kernel_rfl) (by intro _ _ _ h; exact h) (Or.inl ⟨by rfl, ?_⟩) hHeld ?_
  rotate_left
  · (intro w hSw; (try dsimp only at hSw); go_simp; try with_reducible rfl)
  try simp only [Act.put, List.setIfInBounds_toArray, List.set_cons_zero, List.set_cons_succ]
  refine wpAnyH_take (i := 6) (v := ?_) (by simp only [List.getElem?_toArray, List.getElem?_cons_zero, List.getElem?_cons_succ]; rfl) (by kernel_rfl) (by kernel_rfl) (by kernel_rfl) (by intro _ _ _ h; exact h) (Or.inl ⟨by rfl, ?_⟩) hHeld ?_
  rotate_left
  · (intro w hSw; (try dsimp only at hSw); go_simp; try with_reducible rfl)
  try simp only [Act.put, List.setIfInBounds_toArray, List.set_cons_zero, List.set_cons_succ]
  refine wpAnyH_take (i := 7) (v := undef) (by simp only [List.getElem?_toArray, List.getElem?_cons_zero, List.getElem?_cons_succ]; rfl) (by kernel_rfl) (by kernel_rfl) (by kernel_rfl) (by intro _ _ _ h; exact h) (Or.inr ⟨by rfl, rfl⟩) hHeld ?_
  try simp only [Act.put, List.setIfInBounds_toArray, List.set_cons_zero, List.set_cons_succ]
  refine wpAnyH_take (i := 8) (v := undef) (by simp only [List.getElem?_toArray, List.getElem?_cons_zero, List.getElem?_cons_succ]; rfl) (by kernel_rfl) (by kernel_rfl) (by kernel_rfl) (by intro _ _ _ h; exact h) (Or.inr ⟨by rfl, rfl⟩) hHeld ?_
  try simp only [Act.put, List.setIfInBounds_toArray, List.set_cons_zero, List.set_cons_succ]
  refine wpAnyH_take (i := 9) (v := undef) (by simp only [List.getElem?_toArray, List.getElem?_cons_zero, List.getElem?_cons_succ]; rfl) (by kernel_rfl) (by kernel_rfl) (by kernel_rfl) (by intro _ _ _ h; exact h) (Or.inr ⟨by rfl, rfl⟩) hHeld ?_
  try simp only [Act.put, List.setIfInBounds_toArray, List.set_cons_zero, List.set_cons_succ]
  refine wpAnyH_take (i := 10) (v := undef) (by simp only [List.getElem?_toArray, List.getElem?_cons_zero, List.getElem?_cons_succ]; rfl) (by kernel_rfl) (by kernel_rfl) (by kernel_rfl) (by intro _ _ _ h; exact h) (Or.inr ⟨by rfl, rfl⟩) hHeld ?_
  try simp only [Act.put, List.setIfInBounds_toArray, List.set_cons_zero, List.set_cons_succ]
  refine wpAnyH_take (i := 11) (v := undef) (by simp only [List.getElem?_toArray, List.getElem?_cons_zero, List.getElem?_cons_succ]; rfl) (by kernel_rfl) (by kernel_rfl) (by kernel_rfl) (by intro _ _ _ h; exact h) (Or.inr ⟨by rfl, rfl⟩) hHeld ?_
  try simp only [Act.put, List.setIfInBounds_toArray, List.set_cons_zero, List.set_cons_succ]
  refine wpAnyH_take (i := 12) (v := undef) (by simp only [List.getElem?_toArray, List.getElem?_cons_zero, List.getElem?_cons_succ]; rfl) (by kernel_rfl) (by kernel_rfl) (by kernel_rfl) (by intro _ _ _ h; exact h) (Or.inr ⟨by rfl, rfl⟩) hHeld ?_
  try simp only [Act.put, List.setIfInBounds_toArray, List.set_cons_zero, List.set_cons_succ]
  refine wpAnyH_take (i := 13) (v := undef) (by simp only [List.getElem?_toArray, List.getElem?_cons_zero, List.getElem?_cons_succ]; rfl) (by kernel_rfl) (by kernel_rfl) (by kernel_rfl) (by intro _ _ _ h; exact h) (Or.inr ⟨by rfl, rfl⟩) hHeld ?_
  try simp only [Act.put, List.setIfInBounds_toArray, List.set_cons_zero, List.set_cons_succ]
  refine wpAnyH_take (i := 14) (v := ?_) (by simp only [List.getElem?_toArray, List.getElem?_cons_zero, List.getElem?_cons_succ]; rfl) (by kernel_rfl) (by kernel_rfl) (by kernel_rfl) (by intro _ _ _ h; exact h) (Or.inl ⟨by rfl, ?_⟩) hHeld ?_
  rotate_left
  · (intro w hSw; (try dsimp only at hSw); go_simp; try with_reducible rfl)
  try simp only [Act.put, List.setIfInBounds_toArray, List.set_cons_zero, List.set_cons_succ]
  refine wpAnyH_done (by kernel_rfl) ?_ _
  clear hHeld
  have M20 : Hid (Mem w u0 [(b3, i.cells, 30), (b4, k.cells, 30), (b5, ent.cells, 35), (b7, zE, 35), (b9, k.ent.cells, 35)]) := Lib.hid R1.out
  have ga := M20.out.all 2 rfl
  go_wp2_with (refine wpList_load_midG rfl 35 (.tmp 5) rfl b5 0 rfl ent.cells _ ga Try.underlying35 rfl hz.out ?_)
  refine (item12 ent oe _).mono ?_
  rintro r v20 ⟨rfl, hb⟩
  rw [itemOut_t HE.out.1 HE.out.2]
  have N20 := Lib.hid (M20.out.go hb)
  clear hb M20 ga
  go_upto_region 14 with (refine wpList_store_seg rfl 30 (.tmp 13) (.tmp 68) rfl v20.heap.size 0 rfl ent.it.cells rfl (N20.out.push (zI 0) 30) 5 _ 30 rfl hX.out (by rw [hXc.out]; simp [zI, zb]) (item_one (it_ok oe)) rfl ?_; intro x20 P20 hs20)
  obtain ⟨b13, hq⟩ : ∃ b, b = v20.heap.size := ⟨_, rfl⟩
  rw [← hq]
  have M21 : Hid (Mem w x20 [(b3, i.cells, 30), (b4, k.cells, 30), (b5, ent.cells, 35), (b7, zE, 35), (b9, k.ent.cells, 35), (b13, ent.it.cells, 30)]) := Lib.hid (by
    have q := P20.out
    rw [splice_all _ _ (by rw [hXc.out]; rfl)] at q
    rw [hq]; exact q)
  clear P20 N20 hs20 hq
  have hcv : ent.it.ent.cells = ent.cells := (cells_kv_iff _ _).2 HE.out.2
  have ga := M21.out.all 5 rfl
  go_wp2_with (refine wpList_load_midG rfl 30 (.tmp 13) rfl b13 0 rfl ent.it.cells _ ga Try.underlying30 rfl hX.out ?_)
  refine (of9 ent.it (it_ok oe) _).mono ?_
  rintro r v21 ⟨rfl, hb⟩
  rw [ofOut_t HE.out.1, hcv]
  have N21 := Lib.hid (M21.out.go hb)
  clear hb M21 ga
  go_upto_region 17 with (refine wpList_store_seg rfl 35 (.tmp 15) (.tmp 82) rfl v21.heap.size 0 rfl ent.cells rfl (N21.out.push zE 35) 6 _ 35 rfl hz.out (by rw [hzc.out]; simp [zE, zb]) u8l_one rfl ?_; intro x21 P21 hs21)
  obtain ⟨b15, hq⟩ : ∃ b, b = v21.heap.size := ⟨_, rfl⟩
  rw [← hq]
  have M22 : Hid (Mem w x21 [(b3, i.cells, 30), (b4, k.cells, 30), (b5, ent.cells, 35), (b7, zE, 35), (b9, k.ent.cells, 35), (b13, ent.it.cells, 30), (b15, ent.cells, 35)]) := Lib.hid (by
    have q := P21.out
    rw [splice_all _ _ (by rw [hzc.out]; rfl)] at q
    rw [hq]; exact q)
  clear P21 N21 hs21 hq
  have ga := M22.out.all 6 rfl
  have gb := M22.out.all 2 rfl
  have hq := eqr35_self oe x21
  go_wp2_with first
    | (refine wpList_load_midG rfl 35 (.tmp 15) rfl b15 0 rfl ent.cells _ ga Try.underlying35 rfl hz.out ?_)
    | (refine wpList_load_midG rfl 35 (.tmp 5) rfl b5 0 rfl ent.cells _ gb Try.underlying35 rfl hz.out ?_)
    | (refine wpList_eqlG rfl 35 (.tmp 87) (.tmp 88) rfl ent.cells.toArray ent.cells.toArray rfl rfl true eqg35 hq ?_)
  have hbz := M22.out.below
  clear M22 ga gb hq
  go_ret
  exact ⟨rfl, hbz⟩
end Go.Proofs.Ytmckngkmlhemoaa
