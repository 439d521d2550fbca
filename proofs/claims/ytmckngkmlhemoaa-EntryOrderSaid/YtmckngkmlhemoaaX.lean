/- EntryOrder (layer 14) tells true of any keys, any items. Printed by genX.py. -/
import Derived.Test.YtmckngkmlhemoaaV0
namespace Go.Proofs.Ytmckngkmlhemoaa
open Go.RowKit
set_option maxRecDepth 100000 in
set_option maxHeartbeats 8000000 in
theorem law8 (a b c : List Int) (i k : Itm) (oa : Bytes 40 a) (ob : Bytes 40 b) (oc : Bytes 40 c) (oi : i.Ok) (ok : k.Ok) (w : World) :
    Calls Try.prog 8 #[.agg (u8l a).toArray, .agg (u8l b).toArray, .agg (u8l c).toArray, .agg i.cells.toArray, .agg k.cells.toArray] w fun r w' => r = .returned (.bool true) ∧ Below w.heap.size w w' := by
  have z35 := zero35
  have M := Lib.hid ((((((Mem.nil w).push (u8l a) 32).push (u8l b) 32).push (u8l c) 32).push i.cells 30).push k.cells 30)
  have hal : Hid ((Try.prog.info? 32).map (·.size) = some (u8l a).length) := Lib.hid (by rw [u8l_len, oa.1]; exact info32)
  have hbl : Hid ((Try.prog.info? 32).map (·.size) = some (u8l b).length) := Lib.hid (by rw [u8l_len, ob.1]; exact info32)
  have hcl : Hid ((Try.prog.info? 32).map (·.size) = some (u8l c).length) := Lib.hid (by rw [u8l_len, oc.1]; exact info32)
  have hx : Hid ((Try.prog.info? 30).map (·.size) = some i.cells.length) := Lib.hid (by rw [Itm.len oi]; exact info30)
  have hy : Hid ((Try.prog.info? 30).map (·.size) = some k.cells.length) := Lib.hid (by rw [Itm.len ok]; exact info30)
  have HI := Lib.hid (Itm.is oi)
  have HK := Lib.hid (Itm.is ok)
  obtain ⟨x, hxx⟩ : ∃ x, x = cmpI a b := ⟨_, rfl⟩
  obtain ⟨y, hyy⟩ : ∃ y, y = cmpI b c := ⟨_, rfl⟩
  obtain ⟨z, hzz⟩ : ∃ z, z = cmpI a c := ⟨_, rfl⟩
  have X1 : Hid (Lib.compareBytes (Lib.bytesOf a) (Lib.bytesOf b) = x) := Lib.hid (by rw [hxx]; exact cmpI_eq a b oa.2 ob.2)
  have X2 : Hid (Lib.compareBytes (Lib.bytesOf b) (Lib.bytesOf c) = y) := Lib.hid (by rw [hyy]; exact cmpI_eq b c ob.2 oc.2)
  have X3 : Hid (Lib.compareBytes (Lib.bytesOf a) (Lib.bytesOf c) = z) := Lib.hid (by rw [hzz]; exact cmpI_eq a c oa.2 oc.2)
  have X4 : Hid (Lib.compareBytes (Lib.bytesOf b) (Lib.bytesOf a) = -x) := Lib.hid (by rw [hxx, ← cmp_anti]; exact cmpI_eq b a ob.2 oa.2)
  have XE : Hid (∀ u, ∃ r : Bool, EqRun Try.prog 32 (u8l a).toArray (u8l b).toArray u r ∧ (r = true ↔ x = 0)) := Lib.hid (fun u => by
    obtain ⟨r, hr, hiff⟩ := eqr32 oa ob u
    exact ⟨r, hr, hiff.trans (by rw [hxx]; exact (cmp_eq (by rw [oa.1, ob.1])).symm)⟩)
  have XT : Hid (x ≤ 0 → y ≤ 0 → z ≤ 0 ∧ (z = 0 → x = 0 ∧ y = 0)) := Lib.hid (by rw [hxx, hyy, hzz]; exact cmp_trans)
  have XC : Hid (x = -1 ∨ x = 0 ∨ x = 1) := Lib.hid (by rw [hxx]; exact cmp_cases a b)
  have YC : Hid (y = -1 ∨ y = 0 ∨ y = 1) := Lib.hid (by rw [hyy]; exact cmp_cases b c)
  have ZC : Hid (z = -1 ∨ z = 0 ∨ z = 1) := Lib.hid (by rw [hzz]; exact cmp_cases a c)
  clear hxx hyy hzz
  go_enter Try.func8, Try.ntmps8
  go_upto_region 1 with fail
  obtain ⟨w1, hw1⟩ : ∃ w1, w1 = ((((w.alloc (.cells (u8l a).toArray 32)).alloc (.cells (u8l b).toArray 32)).alloc (.cells (u8l c).toArray 32)).alloc (.cells i.cells.toArray 30)).alloc (.cells k.cells.toArray 30) := ⟨_, rfl⟩
  obtain ⟨b5, hb5⟩ : ∃ b, b = w.heap.size := ⟨_, rfl⟩
  obtain ⟨b6, hb6⟩ : ∃ b, b = w.heap.size + 1 := ⟨_, rfl⟩
  obtain ⟨b7, hb7⟩ : ∃ b, b = w.heap.size + 2 := ⟨_, rfl⟩
  obtain ⟨b8, hb8⟩ : ∃ b, b = w.heap.size + 3 := ⟨_, rfl⟩
  obtain ⟨b9, hb9⟩ : ∃ b, b = w.heap.size + 4 := ⟨_, rfl⟩
  have M0 : Hid (Mem w w1 [(b5, u8l a, 32), (b6, u8l b, 32), (b7, u8l c, 32), (b8, i.cells, 30), (b9, k.cells, 30)]) := Lib.hid (by
    have q := M.out
    simp only [World.size_alloc, List.nil_append, List.cons_append] at q
    rw [hw1, hb5, hb6, hb7, hb8, hb9]; exact q)
  rw [← hw1]
  try rw [show w.heap.size + 1 + 1 + 1 + 1 = b9 from hb9.symm]
  try rw [show w.heap.size + 1 + 1 + 1 = b8 from hb8.symm]
  try rw [show w.heap.size + 1 + 1 = b7 from hb7.symm]
  rw [← hb6, ← hb5]
  clear hw1 hb5 hb6 hb7 hb8 hb9 M
  go_wp2_with fail
  refine (awake11 _).mono ?_
  rintro r w2 ⟨rfl, hb⟩
  have M1 := Lib.hid (M0.out.go hb)
  clear hb M0
  go_upto_region 3 with fail
  have R0 := Lib.hid (M1.out.drew 1)
  have hH0 : (fun w' => w'.rangeAt b5 0 (u8l a) ∧ w'.rangeAt b6 0 (u8l b) ∧ w'.rangeAt b7 0 (u8l c)) w2.drew := ⟨R0.out.all 0 rfl, R0.out.all 1 rfl, R0.out.all 2 rfl⟩
  refine wp_region_held_drew (S := fun w' => w'.rangeAt b5 0 (u8l a) ∧ w'.rangeAt b6 0 (u8l b) ∧ w'.rangeAt b7 0 (u8l c)) follows hH0 (fun hHeld => ?_)
  obtain ⟨u0, hu0⟩ : ∃ w', w' = w2.drew := ⟨_, rfl⟩
  have R1 : Hid (Mem w u0 [(b5, u8l a, 32), (b6, u8l b, 32), (b7, u8l c, 32), (b8, i.cells, 30), (b9, k.cells, 30)]) := Lib.hid (by rw [hu0]; exact R0.out)
  rw [← hu0] at hHeld ⊢
  clear hu0 hH0 R0 M1
  refine wpAnyH_take (i := 0) (v := _) (by simp only [List.getElem?_toArray, List.getElem?_cons_zero]; rfl) (by kernel_rfl) (by kernel_rfl) (by kernel_rfl) (by intro _ _ _ h; exact h) (yieldsIf_load_mid (by rfl) 32 (.tmp 5) rfl b5 0 rfl (u8l a) _ (fun _ h => h.1) Try.underlying32 rfl hal.out) hHeld ?_
  try simp only [Act.put, List.setIfInBounds_toArray, List.set_cons_zero, List.set_cons_succ]
  refine wpAnyH_take (i := 1) (v := _) (by simp only [List.getElem?_toArray, List.getElem?_cons_zero, List.getElem?_cons_succ]; rfl) (by kernel_rfl) (by kernel_rfl) (by kernel_rfl) (by intro _ _ _ h; exact h) (yieldsIf_load_mid (by rfl) 32 (.tmp 6) rfl b6 0 rfl (u8l b) _ (fun _ h => h.2.1) Try.underlying32 rfl hbl.out) hHeld ?_
  try simp only [Act.put, List.setIfInBounds_toArray, List.set_cons_zero, List.set_cons_succ]
  refine wpAnyH_take (i := 3) (v := _) (by simp only [List.getElem?_toArray, List.getElem?_cons_zero, List.getElem?_cons_succ]; rfl) (by kernel_rfl) (by kernel_rfl) (by kernel_rfl) (by intro _ _ _ h; exact h) (yieldsIf_load_mid (by rfl) 32 (.tmp 6) rfl b6 0 rfl (u8l b) _ (fun _ h => h.2.1) Try.underlying32 rfl hbl.out) hHeld ?_
  try simp only [Act.put, List.setIfInBounds_toArray, List.set_cons_zero, List.set_cons_succ]
  refine wpAnyH_take (i := 4) (v := _) (by simp only [List.getElem?_toArray, List.getElem?_cons_zero, List.getElem?_cons_succ]; rfl) (by kernel_rfl) (by kernel_rfl) (by kernel_rfl) (by intro _ _ _ h; exact h) (yieldsIf_load_mid (by rfl) 32 (.tmp 7) rfl b7 0 rfl (u8l c) _ (fun _ h => h.2.2) Try.underlying32 rfl hcl.out) hHeld ?_
  try simp only [Act.put, List.setIfInBounds_toArray, List.set_cons_zero, List.set_cons_succ]
  refine wpAnyH_take (i := 6) (v := _) (by simp only [List.getElem?_toArray, List.getElem?_cons_zero, List.getElem?_cons_succ]; rfl) (by kernel_rfl) (by kernel_rfl) (by kernel_rfl) (by intro _ _ _ h; exact h) (yieldsIf_load_mid (by rfl) 32 (.tmp 5) rfl b5 0 rfl (u8l a) _ (fun _ h => h.1) Try.underlying32 rfl hal.out) hHeld ?_
  try simp only [Act.put, List.setIfInBounds_toArray, List.set_cons_zero, List.set_cons_succ]
  refine wpAnyH_take (i := 7) (v := _) (by simp only [List.getElem?_toArray, List.getElem?_cons_zero, List.getElem?_cons_succ]; rfl) (by kernel_rfl) (by kernel_rfl) (by kernel_rfl) (by intro _ _ _ h; exact h) (yieldsIf_load_mid (by rfl) 32 (.tmp 7) rfl b7 0 rfl (u8l c) _ (fun _ h => h.2.2) Try.underlying32 rfl hcl.out) hHeld ?_
  try simp only [Act.put, List.setIfInBounds_toArray, List.set_cons_zero, List.set_cons_succ]
  refine wpAnyH_ready (rs := [2]) (by kernel_rfl) (by simp) ?_
  refine AllReadyH.cons (by simp only [List.getElem?_toArray, List.getElem?_cons_zero, List.getElem?_cons_succ]; rfl) (fun K hK => ?_) AllReadyH.nil
  go_simp
  refine (compare14 a b _ oa.1 ob.1).mono ?_
  rintro r u1 ⟨rfl, hb⟩
  have R2 := Lib.hid (R1.out.go hb)
  rw [X1.out]
  refine hK.out _ _ ⟨R2.out.all 0 rfl, R2.out.all 1 rfl, R2.out.all 2 rfl⟩ (fun hHeld => ?_)
  clear hK K hb R1
  try simp only [Act.put, List.setIfInBounds_toArray, List.set_cons_zero, List.set_cons_succ]
  refine wpAnyH_ready (rs := [5]) (by kernel_rfl) (by simp) ?_
  refine AllReadyH.cons (by simp only [List.getElem?_toArray, List.getElem?_cons_zero, List.getElem?_cons_succ]; rfl) (fun K hK => ?_) AllReadyH.nil
  go_simp
  refine (compare14 b c _ ob.1 oc.1).mono ?_
  rintro r u2 ⟨rfl, hb⟩
  have R3 := Lib.hid (R2.out.go hb)
  rw [X2.out]
  refine hK.out _ _ ⟨R3.out.all 0 rfl, R3.out.all 1 rfl, R3.out.all 2 rfl⟩ (fun hHeld => ?_)
  clear hK K hb R2
  try simp only [Act.put, List.setIfInBounds_toArray, List.set_cons_zero, List.set_cons_succ]
  refine wpAnyH_ready (rs := [8]) (by kernel_rfl) (by simp) ?_
  refine AllReadyH.cons (by simp only [List.getElem?_toArray, List.getElem?_cons_zero, List.getElem?_cons_succ]; rfl) (fun K hK => ?_) AllReadyH.nil
  go_simp
  refine (compare14 a c _ oa.1 oc.1).mono ?_
  rintro r u3 ⟨rfl, hb⟩
  have R4 := Lib.hid (R3.out.go hb)
  rw [X3.out]
  refine hK.out _ _ ⟨R4.out.all 0 rfl, R4.out.all 1 rfl, R4.out.all 2 rfl⟩ (fun hHeld => ?_)
  clear hK K hb R3
  try simp only [Act.put, List.setIfInBounds_toArray, List.set_cons_zero, List.set_cons_succ]
  refine wpAnyH_take (i := 9) (v := ?_) (by simp only [List.getElem?_toArray, List.getElem?_cons_zero, List.getElem?_cons_succ]; rfl) (by kernel_rfl) (by kernel_rfl) (by kernel_rfl) (by intro _ _ _ h; exact h) (Or.inl ⟨by rfl, ?_⟩) hHeld ?_
  rotate_left
  · (intro w hSw; (try dsimp only at hSw); go_simp; try with_reducible rfl)
  try simp only [Act.put, List.setIfInBounds_toArray, List.set_cons_zero, List.set_cons_succ]
  refine wpAnyH_take (i := 10) (v := ?_) (by simp only [List.getElem?_toArray, List.getElem?_cons_zero, List.getElem?_cons_succ]; rfl) (by kernel_rfl) (by kernel_rfl) (by kernel_rfl) (by intro _ _ _ h; exact h) (Or.inl ⟨by rfl, ?_⟩) hHeld ?_
  rotate_left
  · (intro w hSw; (try dsimp only at hSw); go_simp; try with_reducible rfl)
  try simp only [Act.put, List.setIfInBounds_toArray, List.set_cons_zero, List.set_cons_succ]
  refine wpAnyH_take (i := 11) (v := ?_) (by simp only [List.getElem?_toArray, List.getElem?_cons_zero, List.getElem?_cons_succ]; rfl) (by kernel_rfl) (by kernel_rfl) (by kernel_rfl) (by intro _ _ _ h; exact h) (Or.inl ⟨by rfl, ?_⟩) hHeld ?_
  rotate_left
  · (intro w hSw; (try dsimp only at hSw); go_simp; try with_reducible rfl)
  try simp only [Act.put, List.setIfInBounds_toArray, List.set_cons_zero, List.set_cons_succ]
  refine wpAnyH_done (by kernel_rfl) ?_ _
  clear hHeld
  go_upto_region 4 with fail
  go_cut [67] from 30 to 66 (fun s67 w' => s67 = .bool false ∧ Mem w w' [(b5, u8l a, 32), (b6, u8l b, 32), (b7, u8l c, 32), (b8, i.cells, 30), (b9, k.cells, 30)])
  case first =>
    have ga := R4.out.all 0 rfl
    have gb := R4.out.all 1 rfl
    rcases XC.out with hx1 | hx1 | hx1 <;> rcases YC.out with hy1 | hy1 | hy1 <;> rcases ZC.out with hz1 | hz1 | hz1
    all_goals
      have hT := XT.out
      first
        | (exfalso; revert hT; rw [hx1, hy1, hz1]; intro hT; have := hT (by omega) (by omega); omega)
        | (clear hT
           subst hx1
           subst hy1
           subst hz1
           go_wp2_with first
             | (refine wpList_load_midG rfl 32 (.tmp 6) rfl b6 0 rfl (u8l b) _ gb Try.underlying32 rfl hbl.out ?_)
             | (refine wpList_load_midG rfl 32 (.tmp 5) rfl b5 0 rfl (u8l a) _ ga Try.underlying32 rfl hal.out ?_)
           refine (compare14 b a _ ob.1 oa.1).mono ?_
           rintro r u4 ⟨rfl, hb⟩
           rw [X4.out]
           have R5 := Lib.hid (R4.out.go hb)
           have ga := R5.out.all 0 rfl
           have gb := R5.out.all 1 rfl
           obtain ⟨rr, hq, hri⟩ := XE.out u4
           obtain rfl : rr = _ := Bool.eq_iff_iff.2 (hri.trans (decide_eq_true_iff).symm)
           clear hri hb
           simp only [Int.reduceEq, Int.reduceNeg, decide_true, decide_false] at hq
           go_wp2_with first
             | (refine wpList_load_midG rfl 32 (.tmp 5) rfl b5 0 rfl (u8l a) _ ga Try.underlying32 rfl hal.out ?_)
             | (refine wpList_load_midG rfl 32 (.tmp 6) rfl b6 0 rfl (u8l b) _ gb Try.underlying32 rfl hbl.out ?_)
             | (refine wpList_eqlG rfl 32 (.tmp 39) (.tmp 40) rfl (u8l a).toArray (u8l b).toArray rfl rfl _ eqg32 hq ?_)
           go_meet
           case rel => exact ⟨rfl, R5.out⟩)
  case rest =>
    obtain ⟨rfl, hM⟩ := hcut
    have M5 := Lib.hid hM
    clear hM R4
    
    cases hi : i.right
    · obtain ⟨E2, c2, hE2, hS⟩ := of_shape ok
      have HS := Lib.hid hS
      have HF : Hid (ofOut i = .tuple #[.agg entZ.cells.toArray, .int .i64 2]) := Lib.hid (by rw [ofOut_f hi, entZ_cells])
      clear hS hi
      have h1 : Hid ((Try.prog.info? 35).map (·.size) = some entZ.cells.length) := Lib.hid (by rw [Ent.len entZ_ok]; exact info35)
      have h1c : Hid (entZ.cells.length = 80) := Lib.hid (Ent.len entZ_ok)
      have h2 : Hid ((Try.prog.info? 35).map (·.size) = some E2.cells.length) := Lib.hid (by rw [Ent.len hE2]; exact info35)
      have h2c : Hid (E2.cells.length = 80) := Lib.hid (Ent.len hE2)
      have ga := M5.out.all 3 rfl
      go_wp2_with (refine wpList_load_midG rfl 30 (.tmp 8) rfl b8 0 rfl i.cells _ ga Try.underlying30 rfl hx.out ?_)
      refine (of9 i oi _).mono ?_
      rintro r v1 ⟨rfl, hb⟩
      rw [HF.out]
      have N1 := Lib.hid (M5.out.go hb)
      clear hb M5 ga
      go_upto_region 7 with (refine wpList_store_seg rfl 35 (.tmp 14) (.tmp 71) rfl v1.heap.size 0 rfl entZ.cells rfl (N1.out.push zE 35) 5 _ 35 rfl h1.out (by rw [h1c.out]; simp [zE, zb]) u8l_one rfl ?_; intro v2 N2 hs2)
      obtain ⟨b14, hb14⟩ : ∃ b, b = v1.heap.size := ⟨_, rfl⟩
      rw [← hb14]
      have N3 : Hid (Mem w v2 [(b5, u8l a, 32), (b6, u8l b, 32), (b7, u8l c, 32), (b8, i.cells, 30), (b9, k.cells, 30), (b14, entZ.cells, 35)]) := Lib.hid (by
        have q := N2.out
        rw [splice_all _ _ (by rw [h1c.out]; rfl)] at q
        rw [hb14]; exact q)
      clear N2 N1 hs2 hb14
      have ga := N3.out.all 4 rfl
      go_wp2_with (refine wpList_load_midG rfl 30 (.tmp 9) rfl b9 0 rfl k.cells _ ga Try.underlying30 rfl hy.out ?_)
      refine (of9 k ok _).mono ?_
      rintro r v3 ⟨rfl, hb⟩
      rw [HS.out]
      have N4 := Lib.hid (N3.out.go hb)
      clear hb N3 ga
      go_upto_region 8 with (refine wpList_store_seg rfl 35 (.tmp 16) (.tmp 76) rfl v3.heap.size 0 rfl E2.cells rfl (N4.out.push zE 35) 6 _ 35 rfl h2.out (by rw [h2c.out]; simp [zE, zb]) u8l_one rfl ?_; intro v4 N5 hs5)
      obtain ⟨b16, hb16⟩ : ∃ b, b = v3.heap.size := ⟨_, rfl⟩
      rw [← hb16]
      have M6 : Hid (Mem w v4 [(b5, u8l a, 32), (b6, u8l b, 32), (b7, u8l c, 32), (b8, i.cells, 30), (b9, k.cells, 30), (b14, entZ.cells, 35), (b16, E2.cells, 35)]) := Lib.hid (by
        have q := N5.out
        rw [splice_all _ _ (by rw [h2c.out]; rfl)] at q
        rw [hb16]; exact q)
      clear N5 N4 hs5 hb16
      have hbz := M6.out.below
      clear M6
      go_wp2_with fail
      go_ret
      exact ⟨rfl, hbz⟩
    · cases hk : k.right
      · have HF : Hid (ofOut k = .tuple #[.agg entZ.cells.toArray, .int .i64 2]) := Lib.hid (by rw [ofOut_f hk, entZ_cells])
        have HR := Lib.hid hi
        clear hi hk
        have h1 : Hid ((Try.prog.info? 35).map (·.size) = some i.ent.cells.length) := Lib.hid (by rw [Ent.len (ent_ok oi)]; exact info35)
        have h1c : Hid (i.ent.cells.length = 80) := Lib.hid (Ent.len (ent_ok oi))
        have h2 : Hid ((Try.prog.info? 35).map (·.size) = some entZ.cells.length) := Lib.hid (by rw [Ent.len entZ_ok]; exact info35)
        have h2c : Hid (entZ.cells.length = 80) := Lib.hid (Ent.len entZ_ok)
        have ga := M5.out.all 3 rfl
        go_wp2_with (refine wpList_load_midG rfl 30 (.tmp 8) rfl b8 0 rfl i.cells _ ga Try.underlying30 rfl hx.out ?_)
        refine (of9 i oi _).mono ?_
        rintro r v1 ⟨rfl, hb⟩
        rw [ofOut_t HR.out]
        have N1 := Lib.hid (M5.out.go hb)
        clear hb M5 ga
        go_upto_region 7 with (refine wpList_store_seg rfl 35 (.tmp 14) (.tmp 71) rfl v1.heap.size 0 rfl i.ent.cells rfl (N1.out.push zE 35) 5 _ 35 rfl h1.out (by rw [h1c.out]; simp [zE, zb]) u8l_one rfl ?_; intro v2 N2 hs2)
        obtain ⟨b14, hb14⟩ : ∃ b, b = v1.heap.size := ⟨_, rfl⟩
        rw [← hb14]
        have N3 : Hid (Mem w v2 [(b5, u8l a, 32), (b6, u8l b, 32), (b7, u8l c, 32), (b8, i.cells, 30), (b9, k.cells, 30), (b14, i.ent.cells, 35)]) := Lib.hid (by
          have q := N2.out
          rw [splice_all _ _ (by rw [h1c.out]; rfl)] at q
          rw [hb14]; exact q)
        clear N2 N1 hs2 hb14
        have ga := N3.out.all 4 rfl
        go_wp2_with (refine wpList_load_midG rfl 30 (.tmp 9) rfl b9 0 rfl k.cells _ ga Try.underlying30 rfl hy.out ?_)
        refine (of9 k ok _).mono ?_
        rintro r v3 ⟨rfl, hb⟩
        rw [HF.out]
        have N4 := Lib.hid (N3.out.go hb)
        clear hb N3 ga
        go_upto_region 8 with (refine wpList_store_seg rfl 35 (.tmp 16) (.tmp 76) rfl v3.heap.size 0 rfl entZ.cells rfl (N4.out.push zE 35) 6 _ 35 rfl h2.out (by rw [h2c.out]; simp [zE, zb]) u8l_one rfl ?_; intro v4 N5 hs5)
        obtain ⟨b16, hb16⟩ : ∃ b, b = v3.heap.size := ⟨_, rfl⟩
        rw [← hb16]
        have M6 : Hid (Mem w v4 [(b5, u8l a, 32), (b6, u8l b, 32), (b7, u8l c, 32), (b8, i.cells, 30), (b9, k.cells, 30), (b14, i.ent.cells, 35), (b16, entZ.cells, 35)]) := Lib.hid (by
          have q := N5.out
          rw [splice_all _ _ (by rw [h2c.out]; rfl)] at q
          rw [hb16]; exact q)
        clear N5 N4 hs5 hb16
        have hbz := M6.out.below
        clear M6
        go_wp2_with fail
        go_ret
        exact ⟨rfl, hbz⟩
      · have HR := Lib.hid hi
        have HQ := Lib.hid hk
        clear hi hk
        have h1 : Hid ((Try.prog.info? 35).map (·.size) = some i.ent.cells.length) := Lib.hid (by rw [Ent.len (ent_ok oi)]; exact info35)
        have h1c : Hid (i.ent.cells.length = 80) := Lib.hid (Ent.len (ent_ok oi))
        have h2 : Hid ((Try.prog.info? 35).map (·.size) = some k.ent.cells.length) := Lib.hid (by rw [Ent.len (ent_ok ok)]; exact info35)
        have h2c : Hid (k.ent.cells.length = 80) := Lib.hid (Ent.len (ent_ok ok))
        have ga := M5.out.all 3 rfl
        go_wp2_with (refine wpList_load_midG rfl 30 (.tmp 8) rfl b8 0 rfl i.cells _ ga Try.underlying30 rfl hx.out ?_)
        refine (of9 i oi _).mono ?_
        rintro r v1 ⟨rfl, hb⟩
        rw [ofOut_t HR.out]
        have N1 := Lib.hid (M5.out.go hb)
        clear hb M5 ga
        go_upto_region 7 with (refine wpList_store_seg rfl 35 (.tmp 14) (.tmp 71) rfl v1.heap.size 0 rfl i.ent.cells rfl (N1.out.push zE 35) 5 _ 35 rfl h1.out (by rw [h1c.out]; simp [zE, zb]) u8l_one rfl ?_; intro v2 N2 hs2)
        obtain ⟨b14, hb14⟩ : ∃ b, b = v1.heap.size := ⟨_, rfl⟩
        rw [← hb14]
        have N3 : Hid (Mem w v2 [(b5, u8l a, 32), (b6, u8l b, 32), (b7, u8l c, 32), (b8, i.cells, 30), (b9, k.cells, 30), (b14, i.ent.cells, 35)]) := Lib.hid (by
          have q := N2.out
          rw [splice_all _ _ (by rw [h1c.out]; rfl)] at q
          rw [hb14]; exact q)
        clear N2 N1 hs2 hb14
        have ga := N3.out.all 4 rfl
        go_wp2_with (refine wpList_load_midG rfl 30 (.tmp 9) rfl b9 0 rfl k.cells _ ga Try.underlying30 rfl hy.out ?_)
        refine (of9 k ok _).mono ?_
        rintro r v3 ⟨rfl, hb⟩
        rw [ofOut_t HQ.out]
        have N4 := Lib.hid (N3.out.go hb)
        clear hb N3 ga
        go_upto_region 8 with (refine wpList_store_seg rfl 35 (.tmp 16) (.tmp 76) rfl v3.heap.size 0 rfl k.ent.cells rfl (N4.out.push zE 35) 6 _ 35 rfl h2.out (by rw [h2c.out]; simp [zE, zb]) u8l_one rfl ?_; intro v4 N5 hs5)
        obtain ⟨b16, hb16⟩ : ∃ b, b = v3.heap.size := ⟨_, rfl⟩
        rw [← hb16]
        have M6 : Hid (Mem w v4 [(b5, u8l a, 32), (b6, u8l b, 32), (b7, u8l c, 32), (b8, i.cells, 30), (b9, k.cells, 30), (b14, i.ent.cells, 35), (b16, k.ent.cells, 35)]) := Lib.hid (by
          have q := N5.out
          rw [splice_all _ _ (by rw [h2c.out]; rfl)] at q
          rw [hb16]; exact q)
        clear N5 N4 hs5 hb16
        have hke : Hid ((Try.prog.info? 32).map (·.size) = some (u8l i.ent.k).length) := Lib.hid (by rw [u8l_len, (ent_ok oi).k.1]; exact info32)
        have hkd : Hid ((Try.prog.info? 32).map (·.size) = some (u8l k.ent.k).length) := Lib.hid (by rw [u8l_len, (ent_ok ok).k.1]; exact info32)
        have ga := M6.out.range 5 rfl 0 (u8l i.ent.k) (k_sub i.ent)
        have gb := M6.out.range 6 rfl 0 (u8l k.ent.k) (k_sub k.ent)
        obtain ⟨q0, _, _, q3, q4, _⟩ := HI.out.at_ (M6.out.get 3 rfl)
        obtain ⟨p0, _, _, p3, p4, _⟩ := HK.out.at_ (M6.out.get 4 rfl)
        have wi : IntKind.i64.wrap i.kind = i.kind := by have := oi.kind; rw [IntKind.wrap_i64]; omega
        have wk : IntKind.i64.wrap k.kind = k.kind := by have := ok.kind; rw [IntKind.wrap_i64]; omega
        have HW := Lib.hid (order_want oi ok HR.out HQ.out)
        have HD : Hid (want i k = if sg i.kind k.kind = 0 then (if sg i.sn k.sn = 0 then sg i.un k.un else sg i.sn k.sn) else sg i.kind k.kind) := Lib.hid rfl
        have HC : Hid (Lib.compareBytes (Lib.bytesOf i.ent.k) (Lib.bytesOf k.ent.k) = cmpI i.ent.k k.ent.k) := Lib.hid (cmpI_eq _ _ (ent_ok oi).k.2 (ent_ok ok).k.2)
        have HS1 : Hid (sg i.kind k.kind = 0 → i.kind = k.kind) := Lib.hid sg_zero
        obtain ⟨ki, hki⟩ : ∃ q, q = i.kind := ⟨_, rfl⟩
        obtain ⟨kk, hkk⟩ : ∃ q, q = k.kind := ⟨_, rfl⟩
        obtain ⟨s1, hs1⟩ : ∃ q, q = sg ki kk := ⟨_, rfl⟩
        obtain ⟨s2, hs2⟩ : ∃ q, q = sg i.sn k.sn := ⟨_, rfl⟩
        obtain ⟨s3, hs3⟩ : ∃ q, q = sg i.un k.un := ⟨_, rfl⟩
        rw [← hki, ← hkk] at HW HD HS1
        rw [← hki] at q0 wi
        rw [← hkk] at p0 wk
        rw [← hs1, ← hs2, ← hs3] at HD
        rw [← hs1] at HS1
        have T1 := Lib.hid hs1.symm
        have T2 := Lib.hid hs2.symm
        have T3 := Lib.hid hs3.symm
        clear hki hkk hs1 hs2 hs3
        have fin : ∀ g : Int, g = want i k → ¬ (ki = 1 ∧ kk = 1) → Hid (Lib.compareBytes (Lib.bytesOf i.ent.k) (Lib.bytesOf k.ent.k) = g) := fun g hg hn => Lib.hid (by rw [HC.out, HW.out hn, hg])
        have FN := Lib.hid fin
        clear fin
        by_cases c1 : s1 = 0
        · have hkk := HS1.out c1
          subst hkk
          subst c1
          by_cases c2 : s2 = 0
          · subst c2
            by_cases c3 : ki = 1
            · subst c3
              go_upto_region 15 with (go_at_call 18; refine (sign18 _ _ _).mono ?_; rintro r _ ⟨rfl, rfl⟩; (first | rw [T1.out] | rw [T2.out] | rw [T3.out]))
              go_wp2_with fail
              have hbz := M6.out.below
              go_ret
              exact ⟨rfl, hbz⟩
            · have t3 : decide (ki = 1) = false := by simp [c3]
              go_upto_region 15 with (go_at_call 18; refine (sign18 _ _ _).mono ?_; rintro r _ ⟨rfl, rfl⟩; (first | rw [T1.out] | rw [T2.out] | rw [T3.out]))
              go_wp2_with first
                  | (refine wpList_load_midG rfl 32 (.tmp 114) rfl b14 0 rfl (u8l i.ent.k) _ ga Try.underlying32 rfl hke.out ?_)
                  | (refine wpList_load_midG rfl 32 (.tmp 116) rfl b16 0 rfl (u8l k.ent.k) _ gb Try.underlying32 rfl hkd.out ?_)
              refine (compare14 i.ent.k k.ent.k _ (ent_ok oi).k.1 (ent_ok ok).k.1).mono ?_
              rintro r v5 ⟨rfl, hb⟩
              rw [(FN.out s3 (by rw [HD.out]; simp) (fun h => c3 h.1)).out]
              have hbz := (M6.out.go hb).below
              clear hb
              go_wp2_with fail
              go_ret
              exact ⟨rfl, hbz⟩
          · have t2 : decide (s2 = 0) = false := by simp [c2]
            by_cases c3 : ki = 1
            · subst c3
              go_upto_region 15 with (go_at_call 18; refine (sign18 _ _ _).mono ?_; rintro r _ ⟨rfl, rfl⟩; (first | rw [T1.out] | rw [T2.out] | rw [T3.out]))
              go_wp2_with fail
              have hbz := M6.out.below
              go_ret
              exact ⟨rfl, hbz⟩
            · have t3 : decide (ki = 1) = false := by simp [c3]
              go_upto_region 15 with (go_at_call 18; refine (sign18 _ _ _).mono ?_; rintro r _ ⟨rfl, rfl⟩; (first | rw [T1.out] | rw [T2.out] | rw [T3.out]))
              go_wp2_with first
                  | (refine wpList_load_midG rfl 32 (.tmp 114) rfl b14 0 rfl (u8l i.ent.k) _ ga Try.underlying32 rfl hke.out ?_)
                  | (refine wpList_load_midG rfl 32 (.tmp 116) rfl b16 0 rfl (u8l k.ent.k) _ gb Try.underlying32 rfl hkd.out ?_)
              refine (compare14 i.ent.k k.ent.k _ (ent_ok oi).k.1 (ent_ok ok).k.1).mono ?_
              rintro r v5 ⟨rfl, hb⟩
              rw [(FN.out s2 (by rw [HD.out]; simp [c2]) (fun h => c3 h.1)).out]
              have hbz := (M6.out.go hb).below
              clear hb
              go_wp2_with fail
              go_ret
              exact ⟨rfl, hbz⟩
        · have t1 : decide (s1 = 0) = false := by simp [c1]
          by_cases c3 : ki = 1
          · subst c3
            have hne : kk ≠ 1 := by
              rintro rfl
              exact c1 (by rw [← T1.out]; exact sg_self 1)
            have t4 : decide (kk = 1) = false := by simp [hne]
            have t5 : (kk == 1) = false := by simp [hne]
            go_upto_region 15 with (go_at_call 18; refine (sign18 _ _ _).mono ?_; rintro r _ ⟨rfl, rfl⟩; (first | rw [T1.out] | rw [T2.out] | rw [T3.out]))
            go_wp2_with first
                | (refine wpList_load_midG rfl 32 (.tmp 114) rfl b14 0 rfl (u8l i.ent.k) _ ga Try.underlying32 rfl hke.out ?_)
                | (refine wpList_load_midG rfl 32 (.tmp 116) rfl b16 0 rfl (u8l k.ent.k) _ gb Try.underlying32 rfl hkd.out ?_)
            refine (compare14 i.ent.k k.ent.k _ (ent_ok oi).k.1 (ent_ok ok).k.1).mono ?_
            rintro r v5 ⟨rfl, hb⟩
            rw [(FN.out s1 (by rw [HD.out]; simp [c1]) (fun h => hne h.2)).out]
            have hbz := (M6.out.go hb).below
            clear hb
            go_wp2_with fail
            go_ret
            exact ⟨rfl, hbz⟩
          · have t3 : decide (ki = 1) = false := by simp [c3]
            go_upto_region 15 with (go_at_call 18; refine (sign18 _ _ _).mono ?_; rintro r _ ⟨rfl, rfl⟩; (first | rw [T1.out] | rw [T2.out] | rw [T3.out]))
            go_wp2_with first
                | (refine wpList_load_midG rfl 32 (.tmp 114) rfl b14 0 rfl (u8l i.ent.k) _ ga Try.underlying32 rfl hke.out ?_)
                | (refine wpList_load_midG rfl 32 (.tmp 116) rfl b16 0 rfl (u8l k.ent.k) _ gb Try.underlying32 rfl hkd.out ?_)
            refine (compare14 i.ent.k k.ent.k _ (ent_ok oi).k.1 (ent_ok ok).k.1).mono ?_
            rintro r v5 ⟨rfl, hb⟩
            rw [(FN.out s1 (by rw [HD.out]; simp [c1]) (fun h => c3 h.1)).out]
            have hbz := (M6.out.go hb).below
            clear hb
            go_wp2_with fail
            go_ret
            exact ⟨rfl, hbz⟩
end Go.Proofs.Ytmckngkmlhemoaa
