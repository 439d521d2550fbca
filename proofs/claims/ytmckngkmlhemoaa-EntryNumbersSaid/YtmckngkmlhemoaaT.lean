/- EntryOf, EntryItem, EntryCompare (layer 14): each tells true. Printed by genT.py. -/
import Derived.Test.YtmckngkmlhemoaaR
namespace Go.Proofs.Ytmckngkmlhemoaa
open Go.RowKit
def entZ : Ent := ⟨List.replicate 40 0, List.replicate 40 0⟩
theorem entZ_ok : entZ.Ok := ⟨bytes_zero 40, bytes_zero 40⟩
theorem entZ_cells : entZ.cells = zE := by kernel_rfl
theorem itZ_cells : (itN 0 0).cells = zI 0 := it_cells0 0
theorem itZ_ok : (itN 0 0).Ok := itN_ok (by omega) okI_zero
theorem of_shape {i : Itm} (ok : i.Ok) : ∃ (E : Ent) (c : Int), E.Ok ∧ ofOut i = .tuple #[.agg E.cells.toArray, .int .i64 c] := by
  cases h : i.right
  · exact ⟨entZ, 2, entZ_ok, by rw [ofOut_f h, entZ_cells]⟩
  · exact ⟨i.ent, 0, ent_ok ok, ofOut_t h⟩
theorem item_shape {e : Ent} (ok : e.Ok) : ∃ (I : Itm) (c : Int), I.Ok ∧ itemOut e = .tuple #[.agg I.cells.toArray, .int .i64 c] := by
  by_cases h : e.it.right = true ∧ e.it.ent.kv = e.kv
  · exact ⟨e.it, 0, it_ok ok, itemOut_t h.1 h.2⟩
  · exact ⟨itN 0 0, 4, itZ_ok, by rw [itemOut_f h, itZ_cells]⟩
theorem eqr35_self {e : Ent} (h : e.Ok) (w : World) : EqRun Try.prog 35 e.cells.toArray e.cells.toArray w true := by
  obtain ⟨r, hr, h⟩ := eqr35 h h w
  rwa [h.2 rfl] at hr
set_option maxRecDepth 100000 in
set_option maxHeartbeats 4000000 in
theorem law3 (i : Itm) (ok : i.Ok) (w : World) : Calls Try.prog 3 #[.agg i.cells.toArray] w fun r w' => r = .returned (.bool true) ∧ Below w.heap.size w w' := by
  have z30 := zero30
  have z35 := zero35
  obtain ⟨E, c, hE, hS⟩ := of_shape ok
  have HS := Lib.hid hS
  have hx : Hid ((Try.prog.info? 30).map (·.size) = some i.cells.length) := Lib.hid (by rw [Itm.len ok]; exact info30)
  have he : Hid ((Try.prog.info? 35).map (·.size) = some E.cells.length) := Lib.hid (by rw [Ent.len hE]; exact info35)
  have hel : Hid (E.cells.length = 80) := Lib.hid (Ent.len hE)
  have M := Lib.hid ((Mem.nil w).push i.cells 30)
  clear hS
  go_enter Try.func3, Try.ntmps3
  go_upto_region 1 with fail
  obtain ⟨w1, hw1⟩ : ∃ w1, w1 = w.alloc (.cells i.cells.toArray 30) := ⟨_, rfl⟩
  obtain ⟨b, hb⟩ : ∃ b, b = w.heap.size := ⟨_, rfl⟩
  have M1 : Hid (Mem w w1 [(b, i.cells, 30)]) := Lib.hid (by rw [hw1, hb]; exact M.out)
  rw [← hw1, ← hb]
  clear hw1 hb M
  have g1 := M1.out.all 0 rfl
  go_wp2_with (refine wpList_load_midG rfl 30 (.tmp 1) rfl b 0 rfl i.cells _ g1 Try.underlying30 rfl hx.out ?_)
  refine (of9 i ok _).mono ?_
  rintro r w2 ⟨rfl, hb⟩
  rw [HS.out]
  have M2 := Lib.hid (M1.out.go hb)
  clear hb M1 g1
  go_upto_region 2 with (refine wpList_store_seg rfl 35 (.tmp 3) (.tmp 10) rfl w2.heap.size 0 rfl E.cells rfl (M2.out.push zE 35) 1 _ 35 rfl he.out (by rw [hel.out]; simp [zE, zb]) u8l_one rfl ?_; intro w3 M3 hs3)
  obtain ⟨b3, hb3⟩ : ∃ b, b = w2.heap.size := ⟨_, rfl⟩
  rw [← hb3]
  have M4 : Hid (Mem w w3 [(b, i.cells, 30), (b3, E.cells, 35)]) := Lib.hid (by
    have q := M3.out
    rw [splice_all _ _ (by rw [hel.out]; rfl)] at q
    rw [hb3]; exact q)
  clear M3 M2 hs3 hb3
  have g1 := M4.out.all 0 rfl
  go_wp2_with (refine wpList_load_midG rfl 30 (.tmp 1) rfl b 0 rfl i.cells _ g1 Try.underlying30 rfl hx.out ?_)
  refine (of10 i ok _).mono ?_
  rintro r w4 ⟨rfl, hb⟩
  rw [HS.out]
  have M5 := Lib.hid (M4.out.go hb)
  clear hb M4 g1
  go_upto_region 3 with (refine wpList_store_seg rfl 35 (.tmp 5) (.tmp 15) rfl w4.heap.size 0 rfl E.cells rfl (M5.out.push zE 35) 2 _ 35 rfl he.out (by rw [hel.out]; simp [zE, zb]) u8l_one rfl ?_; intro w5 M6 hs6)
  obtain ⟨b5, hb5⟩ : ∃ b, b = w4.heap.size := ⟨_, rfl⟩
  rw [← hb5]
  have M7 : Hid (Mem w w5 [(b, i.cells, 30), (b3, E.cells, 35), (b5, E.cells, 35)]) := Lib.hid (by
    have q := M6.out
    rw [splice_all _ _ (by rw [hel.out]; rfl)] at q
    rw [hb5]; exact q)
  clear M6 M5 hs6 hb5
  have g3 := M7.out.all 1 rfl
  have g5 := M7.out.all 2 rfl
  have hq := eqr35_self hE w5
  go_wp2_with first
    | (refine wpList_load_midG rfl 35 (.tmp 3) rfl b3 0 rfl E.cells _ g3 Try.underlying35 rfl he.out ?_)
    | (refine wpList_load_midG rfl 35 (.tmp 5) rfl b5 0 rfl E.cells _ g5 Try.underlying35 rfl he.out ?_)
    | (refine wpList_eqlG rfl 35 (.tmp 17) (.tmp 18) rfl E.cells.toArray E.cells.toArray rfl rfl true eqg35 hq ?_)
  refine (awake11 _).mono ?_
  rintro r w6 ⟨rfl, hb⟩
  have hbz := (M7.out.go hb).below
  clear M7 hb g3 g5 hq
  go_wp2_with fail
  go_ret
  exact ⟨rfl, hbz⟩
set_option maxRecDepth 100000 in
set_option maxHeartbeats 4000000 in
theorem law4 (e : Ent) (ok : e.Ok) (w : World) : Calls Try.prog 4 #[.agg e.cells.toArray] w fun r w' => r = .returned (.bool true) ∧ Below w.heap.size w w' := by
  have z30 := zero30
  have z35 := zero35
  obtain ⟨E, c, hE, hS⟩ := item_shape ok
  have HS := Lib.hid hS
  have hx : Hid ((Try.prog.info? 35).map (·.size) = some e.cells.length) := Lib.hid (by rw [Ent.len ok]; exact info35)
  have he : Hid ((Try.prog.info? 30).map (·.size) = some E.cells.length) := Lib.hid (by rw [Itm.len hE]; exact info30)
  have hel : Hid (E.cells.length = 73) := Lib.hid (Itm.len hE)
  have M := Lib.hid ((Mem.nil w).push e.cells 35)
  clear hS
  go_enter Try.func4, Try.ntmps4
  go_upto_region 1 with fail
  obtain ⟨w1, hw1⟩ : ∃ w1, w1 = w.alloc (.cells e.cells.toArray 35) := ⟨_, rfl⟩
  obtain ⟨b, hb⟩ : ∃ b, b = w.heap.size := ⟨_, rfl⟩
  have M1 : Hid (Mem w w1 [(b, e.cells, 35)]) := Lib.hid (by rw [hw1, hb]; exact M.out)
  rw [← hw1, ← hb]
  clear hw1 hb M
  have g1 := M1.out.all 0 rfl
  go_wp2_with (refine wpList_load_midG rfl 35 (.tmp 1) rfl b 0 rfl e.cells _ g1 Try.underlying35 rfl hx.out ?_)
  refine (item12 e ok _).mono ?_
  rintro r w2 ⟨rfl, hb⟩
  rw [HS.out]
  have M2 := Lib.hid (M1.out.go hb)
  clear hb M1 g1
  go_upto_region 2 with (refine wpList_store_seg rfl 30 (.tmp 3) (.tmp 10) rfl w2.heap.size 0 rfl E.cells rfl (M2.out.push (zI 0) 30) 1 _ 30 rfl he.out (by rw [hel.out]; simp [zI, zb]) (item_one hE) rfl ?_; intro w3 M3 hs3)
  obtain ⟨b3, hb3⟩ : ∃ b, b = w2.heap.size := ⟨_, rfl⟩
  rw [← hb3]
  have M4 : Hid (Mem w w3 [(b, e.cells, 35), (b3, E.cells, 30)]) := Lib.hid (by
    have q := M3.out
    rw [splice_all _ _ (by rw [hel.out]; rfl)] at q
    rw [hb3]; exact q)
  clear M3 M2 hs3 hb3
  have g1 := M4.out.all 0 rfl
  go_wp2_with (refine wpList_load_midG rfl 35 (.tmp 1) rfl b 0 rfl e.cells _ g1 Try.underlying35 rfl hx.out ?_)
  refine (item13 e ok _).mono ?_
  rintro r w4 ⟨rfl, hb⟩
  rw [HS.out]
  have M5 := Lib.hid (M4.out.go hb)
  clear hb M4 g1
  go_upto_region 3 with (refine wpList_store_seg rfl 30 (.tmp 5) (.tmp 15) rfl w4.heap.size 0 rfl E.cells rfl (M5.out.push (zI 0) 30) 2 _ 30 rfl he.out (by rw [hel.out]; simp [zI, zb]) (item_one hE) rfl ?_; intro w5 M6 hs6)
  obtain ⟨b5, hb5⟩ : ∃ b, b = w4.heap.size := ⟨_, rfl⟩
  rw [← hb5]
  have M7 : Hid (Mem w w5 [(b, e.cells, 35), (b3, E.cells, 30), (b5, E.cells, 30)]) := Lib.hid (by
    have q := M6.out
    rw [splice_all _ _ (by rw [hel.out]; rfl)] at q
    rw [hb5]; exact q)
  clear M6 M5 hs6 hb5
  have g3 := M7.out.all 1 rfl
  have g5 := M7.out.all 2 rfl
  have hq := eqr30_self hE w5
  go_wp2_with first
    | (refine wpList_load_midG rfl 30 (.tmp 3) rfl b3 0 rfl E.cells _ g3 Try.underlying30 rfl he.out ?_)
    | (refine wpList_load_midG rfl 30 (.tmp 5) rfl b5 0 rfl E.cells _ g5 Try.underlying30 rfl he.out ?_)
    | (refine wpList_eqlG rfl 30 (.tmp 17) (.tmp 18) rfl E.cells.toArray E.cells.toArray rfl rfl true eqg30 hq ?_)
  refine (awake11 _).mono ?_
  rintro r w6 ⟨rfl, hb⟩
  have hbz := (M7.out.go hb).below
  clear M7 hb g3 g5 hq
  go_wp2_with fail
  go_ret
  exact ⟨rfl, hbz⟩
theorem cmp_self : ∀ xs : List Int, cmpI xs xs = 0
  | [] => rfl
  | x :: xs => by
    rw [cmpI, if_neg (by omega), if_neg (by omega)]
    exact cmp_self xs
set_option maxRecDepth 100000 in
set_option maxHeartbeats 4000000 in
theorem law5 (xs ys : List Int) (hx : Bytes 40 xs) (hy : Bytes 40 ys) (w : World) : Calls Try.prog 5 #[.agg (u8l xs).toArray, .agg (u8l ys).toArray] w fun r w' => r = .returned (.bool true) ∧ Below w.heap.size w w' := by
  have M := Lib.hid (((Mem.nil w).push (u8l xs) 32).push (u8l ys) 32)
  have hxl : Hid ((Try.prog.info? 32).map (·.size) = some (u8l xs).length) := Lib.hid (by rw [u8l_len, hx.1]; exact info32)
  have hyl : Hid ((Try.prog.info? 32).map (·.size) = some (u8l ys).length) := Lib.hid (by rw [u8l_len, hy.1]; exact info32)
  obtain ⟨cc, hcc⟩ : ∃ c, c = cmpI xs ys := ⟨_, rfl⟩
  have HE : Hid (Lib.compareBytes (Lib.bytesOf xs) (Lib.bytesOf ys) = cc) := Lib.hid (by rw [hcc]; exact cmpI_eq xs ys hx.2 hy.2)
  have HE2 : Hid (cmpI xs ys = cc) := Lib.hid hcc.symm
  have HE3 : Hid (Lib.compareBytes (Lib.bytesOf xs) (Lib.bytesOf xs) = 0) := Lib.hid ((cmpI_eq xs xs hx.2 hx.2).trans (cmp_self xs))
  clear hcc
  go_enter Try.func5, Try.ntmps5
  go_upto_region 1 with fail
  obtain ⟨w1, hw1⟩ : ∃ w1, w1 = (w.alloc (.cells (u8l xs).toArray 32)).alloc (.cells (u8l ys).toArray 32) := ⟨_, rfl⟩
  obtain ⟨b1, hb1⟩ : ∃ b, b = w.heap.size := ⟨_, rfl⟩
  obtain ⟨b2, hb2⟩ : ∃ b, b = (w.alloc (.cells (u8l xs).toArray 32)).heap.size := ⟨_, rfl⟩
  have hb2' : b2 = w.heap.size + 1 := by rw [hb2]; simp
  have M1 : Hid (Mem w w1.drew [(b1, u8l xs, 32), (b2, u8l ys, 32)]) := Lib.hid (by rw [hw1, hb1, hb2]; exact M.out.drew 1)
  rw [← hw1, ← hb2', ← hb1]
  clear hw1 hb1 hb2 hb2' M
  have hH0 : (fun w' => w'.rangeAt b1 0 (u8l xs) ∧ w'.rangeAt b2 0 (u8l ys)) w1.drew := ⟨M1.out.all 0 rfl, M1.out.all 1 rfl⟩
  refine wp_region_held_drew (S := fun w' => w'.rangeAt b1 0 (u8l xs) ∧ w'.rangeAt b2 0 (u8l ys)) follows hH0 (fun hHeld => ?_)
  obtain ⟨u0, hu0⟩ : ∃ w', w' = w1.drew := ⟨_, rfl⟩
  rw [← hu0] at M1 hHeld ⊢
  clear hu0 hH0
  refine wpAnyH_take (i := 0) (v := _) (by simp only [List.getElem?_toArray, List.getElem?_cons_zero]; rfl) (by kernel_rfl) (by kernel_rfl) (by kernel_rfl) (by intro _ _ _ h; exact h) (yieldsIf_load_mid (by rfl) 32 (.tmp 2) rfl b1 0 rfl (u8l xs) _ (fun _ h => h.1) Try.underlying32 rfl hxl.out) hHeld ?_
  try simp only [Act.put, List.setIfInBounds_toArray, List.set_cons_zero, List.set_cons_succ]
  refine wpAnyH_take (i := 1) (v := _) (by simp only [List.getElem?_toArray, List.getElem?_cons_zero, List.getElem?_cons_succ]; rfl) (by kernel_rfl) (by kernel_rfl) (by kernel_rfl) (by intro _ _ _ h; exact h) (yieldsIf_load_mid (by rfl) 32 (.tmp 3) rfl b2 0 rfl (u8l ys) _ (fun _ h => h.2) Try.underlying32 rfl hyl.out) hHeld ?_
  try simp only [Act.put, List.setIfInBounds_toArray, List.set_cons_zero, List.set_cons_succ]
  refine wpAnyH_take (i := 3) (v := _) (by simp only [List.getElem?_toArray, List.getElem?_cons_zero, List.getElem?_cons_succ]; rfl) (by kernel_rfl) (by kernel_rfl) (by kernel_rfl) (by intro _ _ _ h; exact h) (yieldsIf_load_mid (by rfl) 32 (.tmp 2) rfl b1 0 rfl (u8l xs) _ (fun _ h => h.1) Try.underlying32 rfl hxl.out) hHeld ?_
  try simp only [Act.put, List.setIfInBounds_toArray, List.set_cons_zero, List.set_cons_succ]
  refine wpAnyH_take (i := 4) (v := _) (by simp only [List.getElem?_toArray, List.getElem?_cons_zero, List.getElem?_cons_succ]; rfl) (by kernel_rfl) (by kernel_rfl) (by kernel_rfl) (by intro _ _ _ h; exact h) (yieldsIf_load_mid (by rfl) 32 (.tmp 3) rfl b2 0 rfl (u8l ys) _ (fun _ h => h.2) Try.underlying32 rfl hyl.out) hHeld ?_
  try simp only [Act.put, List.setIfInBounds_toArray, List.set_cons_zero, List.set_cons_succ]
  refine wpAnyH_ready (rs := [2]) (by kernel_rfl) (by simp) ?_
  refine AllReadyH.cons (by simp only [List.getElem?_toArray, List.getElem?_cons_zero, List.getElem?_cons_succ]; rfl) (fun K hK => ?_) AllReadyH.nil
  go_simp
  refine (compare14 xs ys _ hx.1 hy.1).mono ?_
  rintro r u1 ⟨rfl, hb⟩
  have M2 := Lib.hid (M1.out.go hb)
  refine hK.out _ _ ⟨M2.out.all 0 rfl, M2.out.all 1 rfl⟩ (fun hHeld => ?_)
  clear hK K hb M1
  try simp only [Act.put, List.setIfInBounds_toArray, List.set_cons_zero, List.set_cons_succ]
  rw [HE.out]
  refine wpAnyH_ready (rs := [5]) (by kernel_rfl) (by simp) ?_
  refine AllReadyH.cons (by simp only [List.getElem?_toArray, List.getElem?_cons_zero, List.getElem?_cons_succ]; rfl) (fun K hK => ?_) AllReadyH.nil
  go_simp
  refine (compare15 xs ys _ hx.1 hy.1).mono ?_
  rintro r u2 ⟨rfl, hb⟩
  have M3 := Lib.hid (M2.out.go hb)
  refine hK.out _ _ ⟨M3.out.all 0 rfl, M3.out.all 1 rfl⟩ (fun hHeld => ?_)
  clear hK K hb M2
  try simp only [Act.put, List.setIfInBounds_toArray, List.set_cons_zero, List.set_cons_succ]
  rw [HE2.out]
  refine wpAnyH_take (i := 6) (v := ?_) (by simp only [List.getElem?_toArray, List.getElem?_cons_zero, List.getElem?_cons_succ]; rfl) (by kernel_rfl) (by kernel_rfl) (by kernel_rfl) (by intro _ _ _ h; exact h) (Or.inl ⟨by rfl, ?_⟩) hHeld ?_
  rotate_left
  · (intro w hSw; (try dsimp only at hSw); go_simp; try with_reducible rfl)
  try simp only [Act.put, List.setIfInBounds_toArray, List.set_cons_zero, List.set_cons_succ]
  refine wpAnyH_take (i := 7) (v := ?_) (by simp only [List.getElem?_toArray, List.getElem?_cons_zero, List.getElem?_cons_succ]; rfl) (by kernel_rfl) (by kernel_rfl) (by kernel_rfl) (by intro _ _ _ h; exact h) (Or.inl ⟨by rfl, ?_⟩) hHeld ?_
  rotate_left
  · (intro w hSw; (try dsimp only at hSw); go_simp; try with_reducible rfl)
  try simp only [Act.put, List.setIfInBounds_toArray, List.set_cons_zero, List.set_cons_succ]
  refine wpAnyH_take (i := 8) (v := _) (by simp only [List.getElem?_toArray, List.getElem?_cons_zero, List.getElem?_cons_succ]; rfl) (by kernel_rfl) (by kernel_rfl) (by kernel_rfl) (by intro _ _ _ h; exact h) (yieldsIf_load_mid (by rfl) 32 (.tmp 2) rfl b1 0 rfl (u8l xs) _ (fun _ h => h.1) Try.underlying32 rfl hxl.out) hHeld ?_
  try simp only [Act.put, List.setIfInBounds_toArray, List.set_cons_zero, List.set_cons_succ]
  refine wpAnyH_take (i := 9) (v := _) (by simp only [List.getElem?_toArray, List.getElem?_cons_zero, List.getElem?_cons_succ]; rfl) (by kernel_rfl) (by kernel_rfl) (by kernel_rfl) (by intro _ _ _ h; exact h) (yieldsIf_load_mid (by rfl) 32 (.tmp 2) rfl b1 0 rfl (u8l xs) _ (fun _ h => h.1) Try.underlying32 rfl hxl.out) hHeld ?_
  try simp only [Act.put, List.setIfInBounds_toArray, List.set_cons_zero, List.set_cons_succ]
  refine wpAnyH_ready (rs := [10]) (by kernel_rfl) (by simp) ?_
  refine AllReadyH.cons (by simp only [List.getElem?_toArray, List.getElem?_cons_zero, List.getElem?_cons_succ]; rfl) (fun K hK => ?_) AllReadyH.nil
  go_simp
  refine (compare14 xs xs _ hx.1 hx.1).mono ?_
  rintro r u3 ⟨rfl, hb⟩
  have M4 := Lib.hid (M3.out.go hb)
  refine hK.out _ _ ⟨M4.out.all 0 rfl, M4.out.all 1 rfl⟩ (fun hHeld => ?_)
  clear hK K hb M3
  try simp only [Act.put, List.setIfInBounds_toArray, List.set_cons_zero, List.set_cons_succ]
  rw [HE3.out]
  refine wpAnyH_take (i := 11) (v := ?_) (by simp only [List.getElem?_toArray, List.getElem?_cons_zero, List.getElem?_cons_succ]; rfl) (by kernel_rfl) (by kernel_rfl) (by kernel_rfl) (by intro _ _ _ h; exact h) (Or.inl ⟨by rfl, ?_⟩) hHeld ?_
  rotate_left
  · (intro w hSw; (try dsimp only at hSw); go_simp; try with_reducible rfl)
  try simp only [Act.put, List.setIfInBounds_toArray, List.set_cons_zero, List.set_cons_succ]
  refine wpAnyH_take (i := 12) (v := ?_) (by simp only [List.getElem?_toArray, List.getElem?_cons_zero, List.getElem?_cons_succ]; rfl) (by kernel_rfl) (by kernel_rfl) (by kernel_rfl) (by intro _ _ _ h; exact h) (Or.inl ⟨by rfl, ?_⟩) hHeld ?_
  rotate_left
  · (intro w hSw; (try dsimp only at hSw); go_simp; try with_reducible rfl)
  try simp only [Act.put, List.setIfInBounds_toArray, List.set_cons_zero, List.set_cons_succ]
  refine wpAnyH_take (i := 13) (v := ?_) (by simp only [List.getElem?_toArray, List.getElem?_cons_zero, List.getElem?_cons_succ]; rfl) (by kernel_rfl) (by kernel_rfl) (by kernel_rfl) (by intro _ _ _ h; exact h) (Or.inl ⟨by rfl, ?_⟩) hHeld ?_
  rotate_left
  · (intro w hSw; (try dsimp only at hSw); go_simp; try with_reducible rfl)
  try simp only [Act.put, List.setIfInBounds_toArray, List.set_cons_zero, List.set_cons_succ]
  refine wpAnyH_ready (rs := [14]) (by kernel_rfl) (by simp) ?_
  refine AllReadyH.cons (by simp only [List.getElem?_toArray, List.getElem?_cons_zero, List.getElem?_cons_succ]; rfl) (fun K hK => ?_) AllReadyH.nil
  go_simp
  refine (awake11 _).mono ?_
  rintro r u4 ⟨rfl, hb⟩
  have M5 := Lib.hid (M4.out.go hb)
  refine hK.out _ _ ⟨M5.out.all 0 rfl, M5.out.all 1 rfl⟩ (fun hHeld => ?_)
  clear hK K hb M4
  try simp only [Act.put, List.setIfInBounds_toArray, List.set_cons_zero, List.set_cons_succ]
  refine wpAnyH_take (i := 15) (v := ?_) (by simp only [List.getElem?_toArray, List.getElem?_cons_zero, List.getElem?_cons_succ]; rfl) (by kernel_rfl) (by kernel_rfl) (by kernel_rfl) (by intro _ _ _ h; exact h) (Or.inl ⟨by rfl, ?_⟩) hHeld ?_
  rotate_left
  · (intro w hSw; (try dsimp only at hSw); go_simp; try with_reducible rfl)
  try simp only [Act.put, List.setIfInBounds_toArray, List.set_cons_zero, List.set_cons_succ]
  refine wpAnyH_take (i := 16) (v := ?_) (by simp only [List.getElem?_toArray, List.getElem?_cons_zero, List.getElem?_cons_succ]; rfl) (by kernel_rfl) (by kernel_rfl) (by kernel_rfl) (by intro _ _ _ h; exact h) (Or.inl ⟨by rfl, ?_⟩) hHeld ?_
  rotate_left
  · (intro w hSw; (try dsimp only at hSw); go_simp; try with_reducible rfl)
  try simp only [Act.put, List.setIfInBounds_toArray, List.set_cons_zero, List.set_cons_succ]
  refine wpAnyH_done (by kernel_rfl) ?_ _
  have hbz := M5.out.below
  clear M5 hHeld
  go_wp2_with fail
  go_ret
  exact ⟨rfl, hbz⟩
end Go.Proofs.Ytmckngkmlhemoaa
