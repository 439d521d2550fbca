/- The chapter's example (layer 14): slice, awake. Printed by genR.py. -/
import Derived.Test.YtmckngkmlhemoaaQ4
import Derived.Test.YtmckngkmlhemoaaG
namespace Go.Proofs.Ytmckngkmlhemoaa
open Go.RowKit
def exI : Itm := ⟨2, List.replicate 32 0, 0, 0, 0, 0, 3, 5, 9 :: List.replicate 31 0, 2, 255⟩
def exW : Itm := ⟨2, List.replicate 32 0, 0, 0, 0, 0, 3, 5, 9 :: List.replicate 31 0, 2, 0⟩
def exE : Ent := ⟨[2, 0, 0, 0, 3, 0, 0, 0, 5] ++ List.replicate 31 0, 9 :: (List.replicate 31 0 ++ (2 :: 255 :: List.replicate 6 0))⟩
theorem ex_skey : Bytes 32 (9 :: List.replicate 31 0) := ⟨rfl, fun x hx => by
  rcases List.mem_cons.1 hx with rfl | hx
  · omega
  · rw [List.eq_of_mem_replicate hx]; omega⟩
theorem okI_of {x : Int} (h : (Lit.int .i64 x).wf = true) : okI x := h
theorem exI_ok : exI.Ok := ⟨by simp [exI], bytes_zero 32, okI_zero, okI_zero, okI_zero, okI_zero, okI_of (by kernel_rfl), okI_of (by kernel_rfl), ex_skey, okI_of (by kernel_rfl), okI_of (by kernel_rfl)⟩
theorem exW_ok : exW.Ok := ⟨by simp [exW], bytes_zero 32, okI_zero, okI_zero, okI_zero, okI_zero, okI_of (by kernel_rfl), okI_of (by kernel_rfl), ex_skey, okI_of (by kernel_rfl), okI_zero⟩
theorem exI_right : exI.right = true := by kernel_rfl
theorem exW_right : exW.right = false := by kernel_rfl
theorem exI_ent : exI.ent = exE := by kernel_rfl
theorem exE_it : exE.it = exI := by kernel_rfl
theorem exE_ok : exE.Ok := exI_ent ▸ ent_ok exI_ok
theorem exE_out : itemOut exE = .tuple #[.agg exI.cells.toArray, .int .i64 0] := by
  have h := itemOut_t (e := exE) (by rw [exE_it, exI_right]) (by rw [exE_it, exI_ent])
  rw [exE_it] at h
  exact h
theorem exW_put : splice exI.cells 72 [.int .i64 0] = exW.cells := by kernel_rfl
theorem build24x (u : World) : BuildRun Try.prog 24 #[(0, .int .u8 9)] u (.agg (u8l (9 :: List.replicate 31 0)).toArray) := ⟨by kernel_rfl⟩
theorem build28x (u : World) : BuildRun Try.prog 28 #[(0, .agg (u8l (9 :: List.replicate 31 0)).toArray), (1, .int .i64 2), (2, .int .i64 255)] u (.agg exI.sl.toArray) := ⟨by kernel_rfl⟩
theorem build30x (u : World) : BuildRun Try.prog 30 #[(0, .int .u8 2), (3, .int .i64 3), (4, .int .i64 5), (5, .agg exI.sl.toArray)] u (.agg exI.cells.toArray) := ⟨by kernel_rfl⟩
theorem build32x (u : World) : BuildRun Try.prog 32 #[(0, .int .u8 2), (1, .int .u8 0), (2, .int .u8 0), (3, .int .u8 0), (4, .int .u8 3), (5, .int .u8 0), (6, .int .u8 0), (7, .int .u8 0), (8, .int .u8 5)] u (.agg (u8l exE.k).toArray) := ⟨by kernel_rfl⟩
def exT : List Int := 3 :: List.replicate 39 0
theorem build32y (u : World) : BuildRun Try.prog 32 #[(0, .int .u8 3)] u (.agg (u8l exT).toArray) := ⟨by kernel_rfl⟩
theorem eqg32 : Try.prog.eqGuardType Try.prog.depth 32 = false := by kernel_rfl
theorem eqr30_self {i : Itm} (hi : i.Ok) (w : World) : EqRun Try.prog 30 i.cells.toArray i.cells.toArray w true := by
  obtain ⟨r, hr, h⟩ := eqr30 hi hi w
  rwa [h.2 rfl] at hr
theorem eqr32 {xs ys : List Int} (hx : Bytes 40 xs) (hy : Bytes 40 ys) (w : World) : ∃ r : Bool, EqRun Try.prog 32 (u8l xs).toArray (u8l ys).toArray w r ∧ (r = true ↔ xs = ys) := by
  have l1 := (fits_u8l hx).length
  have l2 := (fits_u8l hy).length
  obtain ⟨r, hr, hiff⟩ := eql_fits (P := Try.prog) (t := 32) (m := 5) (d := 5) (by omega) key32 leafs32 (xs := (u8l xs).toArray) (ys := (u8l ys).toArray) (by simp [Value.formed, Try.underlying32, l1]; kernel_rfl) (by simp [Value.formed, Try.underlying32, l2]; kernel_rfl) (by simpa [tkeyK] using fits_u8l hx) (by simpa [tkeyK] using fits_u8l hy) w
  exact ⟨r, ⟨hr⟩, hiff.trans ⟨fun h => u8l_inj (by simpa using h), fun h => by rw [h]⟩⟩
theorem eqr32_self {xs : List Int} (hx : Bytes 40 xs) (w : World) : EqRun Try.prog 32 (u8l xs).toArray (u8l xs).toArray w true := by
  obtain ⟨r, hr, h⟩ := eqr32 hx hx w
  rwa [h.2 rfl] at hr
section
variable {P : Program}
theorem yields_eql {ops : Array Oper} {S : World → Prop} {op : Oper} {a : Act} (hw : Region.wanted op (yielded ops a.tmps) = true) (ty : TypeId) (x y : Operand) (ho : op.op = .binOp .eql ty x y ty)
    (xs ys : Array Value) (hx : a.eval x = .agg xs) (hy : a.eval y = .agg ys) (r : Bool) (hm : P.eqGuardType P.depth ty = false) (hr : ∀ w, EqRun P ty xs ys w r) : YieldsIf P ops S op (.bool r) a :=
  .inl ⟨hw, fun w _ => by
    unfold execOp
    simp only [ho, hx, hy, Sem.run_bind, run_eqGuard_agg w .eql ty x y xs ys hm, Result.andThen_ok, run_eql_struct w ty xs ys, (hr w).run, Sem.run_pure]⟩
end
/-- Results: a block whole. -/
theorem results_cell_one {P : Program} {fn : Func} {p : Tmp} {ty : TypeId} (h : fn.results = #[.cell p ty]) (tmps : Array Value) (w : World) (b : Nat) (cs : List Value) (d : TypeDesc) (hp : tmps.getD p undef = .pointer (some ⟨b, 0, none⟩)) (hc : w.rangeAt b 0 cs)
    (hu : P.underlying ty = some d) (hd : d.isRow = true) (hi : (P.info? ty).map (·.size) = some cs.length) :
    (results fn tmps).run P w = .ok (.agg cs.toArray) w := by
  have h1 : (results fn tmps).run P w = ((asAddr (tmps.getD p undef)).run P w).andThen fun a w₁ => (loadVar ty a).run P w₁ := by
    simp only [results, h]
    simp [Sem.run_bind, Result.andThen]
  rw [h1, hp]
  simp only [asAddr, Sem.run_pure, Result.andThen_ok, run_loadVar_mid w b 0 ty cs d hc hu hd hi]
set_option maxRecDepth 100000 in
set_option maxHeartbeats 4000000 in
theorem slice16 (w : World) : Calls Try.prog 16 #[] w fun e w' => e = .returned (.agg exI.cells.toArray) ∧ Below w.heap.size w w' := by
  have z30 := zero30
  have M := Lib.hid ((Mem.nil w).push (zI 0) 30)
  have hx : Hid ((Try.prog.info? 30).map (·.size) = some exI.cells.length) := Lib.hid (by rw [Itm.len exI_ok]; exact info30)
  have hxc : Hid (exI.cells.length = 73) := Lib.hid (Itm.len exI_ok)
  go_enter Try.func16, Try.ntmps16
  go_upto_region 1 with fail
  obtain ⟨w1, hw1⟩ : ∃ w1, w1 = w.alloc (.cells (zI 0).toArray 30) := ⟨_, rfl⟩
  obtain ⟨b, hb⟩ : ∃ b, b = w.heap.size := ⟨_, rfl⟩
  have M1 : Hid (Mem w w1 [(b, zI 0, 30)]) := Lib.hid (by rw [hw1, hb]; exact M.out)
  rw [← hw1, ← hb]
  clear hw1 hb M
  go_wp2_with first
    | (refine wpList_buildG rfl 24 [(0, .const (.int .u8 9))] rfl [(0, .int .u8 9)] rfl _ (build24x _) ?_)
    | (refine wpList_buildG rfl 28 [(0, .tmp 1), (1, .const (.int .i64 2)), (2, .const (.int .i64 255))] rfl [(0, .agg (u8l (9 :: List.replicate 31 0)).toArray), (1, .int .i64 2), (2, .int .i64 255)] rfl _ (build28x _) ?_)
    | (refine wpList_buildG rfl 30 [(0, .const (.int .u8 2)), (3, .const (.int .i64 3)), (4, .const (.int .i64 5)), (5, .tmp 2)] rfl [(0, .int .u8 2), (3, .int .i64 3), (4, .int .i64 5), (5, .agg exI.sl.toArray)] rfl _ (build30x _) ?_)
    | (refine wpList_store_seg rfl 30 (.tmp 0) (.tmp 3) rfl b 0 rfl exI.cells rfl M1.out 0 _ 30 rfl hx.out (by rw [hxc.out]; simp [zI, zb]) (item_one exI_ok) rfl ?_; intro wz Mz hsz)
  have hz : wz.rangeAt b 0 exI.cells := by
    have q := Mz.out.all 0 rfl
    rw [splice_all _ _ (by rw [hxc.out]; rfl)] at q
    exact q
  have hbz := Mz.out.below
  clear Mz
  refine bodyPost_ret (results_cell_one rfl _ _ b _ _ rfl hz Try.underlying30 rfl hx.out) rfl ?_
  exact ⟨rfl, hbz⟩
set_option maxRecDepth 100000 in
set_option maxHeartbeats 8000000 in
theorem awake11 (w : World) : Calls Try.prog 11 #[] w fun e w' => e = .returned (.bool true) ∧ Below w.heap.size w w' := by
  have z30 := zero30
  have z35 := zero35
  have hx : Hid ((Try.prog.info? 30).map (·.size) = some exI.cells.length) := Lib.hid (by rw [Itm.len exI_ok]; exact info30)
  have hxc : Hid (exI.cells.length = 73) := Lib.hid (Itm.len exI_ok)
  have hwc : Hid (exW.cells.length = 73) := Lib.hid (Itm.len exW_ok)
  have hxw : Hid ((Try.prog.info? 30).map (·.size) = some exW.cells.length) := Lib.hid (by rw [Itm.len exW_ok]; exact info30)
  have hel : Hid ((Try.prog.info? 35).map (·.size) = some exE.cells.length) := Lib.hid (by rw [Ent.len exE_ok]; exact info35)
  have hec : Hid (exE.cells.length = 80) := Lib.hid (Ent.len exE_ok)
  have hkl : Hid ((Try.prog.info? 32).map (·.size) = some (u8l exE.k).length) := Lib.hid (by rw [u8l_len, exE_ok.k.1]; exact info32)
  go_enter Try.func11, Try.ntmps11
  go_wp2_with fail
  refine (slice16 w).mono ?_
  rintro r w1 ⟨rfl, hb1⟩
  have M1 := Lib.hid ((Mem.nil w).go hb1)
  clear hb1
  go_wp2_with fail
  refine (of9 exI exI_ok w1).mono ?_
  rintro r w2 ⟨rfl, hb2⟩
  rw [ofOut_t exI_right, exI_ent]
  have M2 := Lib.hid (M1.out.go hb2)
  clear hb2 M1
  go_upto_region 2 with (refine wpList_store_seg rfl 35 (.tmp 1) (.tmp 11) rfl w2.heap.size 0 rfl exE.cells rfl (M2.out.push zE 35) 0 _ 35 rfl hel.out (by rw [hec.out]; simp [zE, zb]) u8l_one rfl ?_; intro w3 M3 hs3)
  obtain ⟨b1, hb1⟩ : ∃ b, b = w2.heap.size := ⟨_, rfl⟩
  rw [← hb1]
  have M4 : Hid (Mem w w3 [(b1, exE.cells, 35)]) := Lib.hid (by
    have q := M3.out
    rw [splice_all _ _ (by rw [hec.out]; rfl)] at q
    rw [hb1]; exact q)
  clear M3 M2 hs3 hb1
  go_wp2_with fail
  refine (slice16 w3).mono ?_
  rintro r w4 ⟨rfl, hb⟩
  have M5 := Lib.hid (M4.out.go hb)
  clear hb M4
  go_upto_region 3 with (refine wpList_store_seg rfl 30 (.tmp 3) (.tmp 13) rfl w4.heap.size 0 rfl exI.cells rfl (M5.out.push (zI 0) 30) 1 _ 30 rfl hx.out (by rw [hxc.out]; simp [zI, zb]) (item_one exI_ok) rfl ?_; intro w5 M6 hs6)
  obtain ⟨b3, hb3⟩ : ∃ b, b = w4.heap.size := ⟨_, rfl⟩
  rw [← hb3]
  have M7 : Hid (Mem w w5 [(b1, exE.cells, 35), (b3, exI.cells, 30)]) := Lib.hid (by
    have q := M6.out
    rw [splice_all _ _ (by rw [hxc.out]; rfl)] at q
    rw [hb3]; exact q)
  clear M6 M5 hs6 hb3
  go_upto_region 4 with (refine wpList_store_one rfl 3 (.tmp 15) (.const (.int .i64 0)) rfl b3 72 rfl .i64 0 rfl M7.out 1 _ 30 rfl info3 (by rw [hxc.out]; omega) rfl ?_; intro w6 M8 hs8)
  have M9 : Hid (Mem w w6 [(b1, exE.cells, 35), (b3, exW.cells, 30)]) := Lib.hid (by
    have q := M8.out
    rw [exW_put] at q
    exact q)
  clear M8 M7 hs8
  have g3 := M9.out.all 1 rfl
  go_wp2_with (refine wpList_load_midG rfl 30 (.tmp 3) rfl b3 0 rfl exW.cells _ g3 Try.underlying30 rfl hxw.out ?_)
  refine (of9 exW exW_ok w6).mono ?_
  rintro r w7 ⟨rfl, hb⟩
  rw [ofOut_f exW_right]
  have M10 := Lib.hid (M9.out.go hb)
  clear hb M9 g3
  go_upto_region 5 with (refine wpList_store_seg rfl 35 (.tmp 4) (.tmp 19) rfl w7.heap.size 0 rfl zE rfl (M10.out.push zE 35) 2 _ 35 rfl info35 (by simp) zb_one rfl ?_; intro w8 M11 hs11)
  have M12 : Hid (Mem w w8 [(b1, exE.cells, 35), (b3, exW.cells, 30), (w7.heap.size, zE, 35)]) := Lib.hid M11.out
  clear M11 M10 hs11
  have g1 := M12.out.all 0 rfl
  go_wp2_with (refine wpList_load_midG rfl 35 (.tmp 1) rfl b1 0 rfl exE.cells _ g1 Try.underlying35 rfl hel.out ?_)
  refine (item12 exE exE_ok w8).mono ?_
  rintro r w9 ⟨rfl, hb⟩
  rw [exE_out]
  have M13 := Lib.hid (M12.out.go hb)
  clear hb M12 g1
  go_upto_region 6 with (refine wpList_store_seg rfl 30 (.tmp 6) (.tmp 24) rfl w9.heap.size 0 rfl exI.cells rfl (M13.out.push (zI 0) 30) 3 _ 30 rfl hx.out (by rw [hxc.out]; simp [zI, zb]) (item_one exI_ok) rfl ?_; intro w10 M14 hs14)
  obtain ⟨b6, hb6⟩ : ∃ b, b = w9.heap.size := ⟨_, rfl⟩
  rw [← hb6]
  obtain ⟨b7, hb7⟩ : ∃ b, b = w7.heap.size := ⟨_, rfl⟩
  rw [← hb7] at M14 ⊢
  have M15 : Hid (Mem w w10.drew [(b1, exE.cells, 35), (b3, exW.cells, 30), (b7, zE, 35), (b6, exI.cells, 30)]) := Lib.hid (by
    have q := M14.out
    rw [splice_all _ _ (by rw [hxc.out]; rfl)] at q
    rw [hb6]; exact q.drew 1)
  clear M14 M13 hs14 hb6 hb7
  have hH0 : (fun w' => w'.rangeAt b6 0 exI.cells ∧ w'.rangeAt b1 0 (u8l exE.k) ∧ w'.cell? ⟨b1, 40, none⟩ = some (.int .u8 9) ∧ w'.cell? ⟨b1, 72, none⟩ = some (.int .u8 2) ∧ w'.cell? ⟨b1, 73, none⟩ = some (.int .u8 255) ∧ w'.cell? ⟨b1, 74, none⟩ = some (.int .u8 0)) w10.drew := ⟨M15.out.all 3 rfl, M15.out.range 0 rfl 0 (u8l exE.k) (k_sub exE), M15.out.cell 0 rfl 40 rfl, M15.out.cell 0 rfl 72 rfl, M15.out.cell 0 rfl 73 rfl, M15.out.cell 0 rfl 74 rfl⟩
  refine wp_region_held_drew (S := fun w' => w'.rangeAt b6 0 exI.cells ∧ w'.rangeAt b1 0 (u8l exE.k) ∧ w'.cell? ⟨b1, 40, none⟩ = some (.int .u8 9) ∧ w'.cell? ⟨b1, 72, none⟩ = some (.int .u8 2) ∧ w'.cell? ⟨b1, 73, none⟩ = some (.int .u8 255) ∧ w'.cell? ⟨b1, 74, none⟩ = some (.int .u8 0)) follows hH0 (fun hHeld => ?_)
  obtain ⟨u0, hu0⟩ : ∃ w', w' = w10.drew := ⟨_, rfl⟩
  rw [← hu0] at M15 hHeld ⊢
  clear hu0 hH0
  refine wpAnyH_take (i := 0) (v := ?_) (by simp only [List.getElem?_toArray, List.getElem?_cons_zero]; rfl) (by kernel_rfl) (by kernel_rfl) (by kernel_rfl) (by intro _ _ _ h; exact h) (Or.inl ⟨by rfl, ?_⟩) hHeld ?_
  rotate_left
  · (intro w hSw; (try dsimp only at hSw); go_simp; try with_reducible rfl)
  try simp only [Act.put, List.setIfInBounds_toArray, List.set_cons_zero, List.set_cons_succ]
  refine wpAnyH_take (i := 1) (v := ?_) (by simp only [List.getElem?_toArray, List.getElem?_cons_zero, List.getElem?_cons_succ]; rfl) (by kernel_rfl) (by kernel_rfl) (by kernel_rfl) (by intro _ _ _ h; exact h) (Or.inl ⟨by rfl, ?_⟩) hHeld ?_
  rotate_left
  · (intro w hSw; (try dsimp only at hSw); go_simp; try with_reducible rfl)
  try simp only [Act.put, List.setIfInBounds_toArray, List.set_cons_zero, List.set_cons_succ]
  refine wpAnyH_take (i := 2) (v := ?_) (by simp only [List.getElem?_toArray, List.getElem?_cons_zero, List.getElem?_cons_succ]; rfl) (by kernel_rfl) (by kernel_rfl) (by kernel_rfl) (by intro _ _ _ h; exact h) (Or.inl ⟨by rfl, ?_⟩) hHeld ?_
  rotate_left
  · (intro w hSw; (try dsimp only at hSw); go_simp; try with_reducible rfl)
  try simp only [Act.put, List.setIfInBounds_toArray, List.set_cons_zero, List.set_cons_succ]
  refine wpAnyH_take (i := 3) (v := ?_) (by simp only [List.getElem?_toArray, List.getElem?_cons_zero, List.getElem?_cons_succ]; rfl) (by kernel_rfl) (by kernel_rfl) (by kernel_rfl) (by intro _ _ _ h; exact h) (Or.inl ⟨by rfl, ?_⟩) hHeld ?_
  rotate_left
  · (intro w hSw; (try dsimp only at hSw); go_simp; try with_reducible rfl)
  try simp only [Act.put, List.setIfInBounds_toArray, List.set_cons_zero, List.set_cons_succ]
  refine wpAnyH_take (i := 4) (v := ?_) (by simp only [List.getElem?_toArray, List.getElem?_cons_zero, List.getElem?_cons_succ]; rfl) (by kernel_rfl) (by kernel_rfl) (by kernel_rfl) (by intro _ _ _ h; exact h) (Or.inl ⟨by rfl, ?_⟩) hHeld ?_
  rotate_left
  · (intro w hSw; (try dsimp only at hSw); go_simp; try with_reducible rfl)
  try simp only [Act.put, List.setIfInBounds_toArray, List.set_cons_zero, List.set_cons_succ]
  refine wpAnyH_take (i := 5) (v := ?_) (by simp only [List.getElem?_toArray, List.getElem?_cons_zero, List.getElem?_cons_succ]; rfl) (by kernel_rfl) (by kernel_rfl) (by kernel_rfl) (by intro _ _ _ h; exact h) (Or.inl ⟨by rfl, ?_⟩) hHeld ?_
  rotate_left
  · (intro w hSw; (try dsimp only at hSw); go_simp; try with_reducible rfl)
  try simp only [Act.put, List.setIfInBounds_toArray, List.set_cons_zero, List.set_cons_succ]
  refine wpAnyH_take (i := 6) (v := ?_) (by simp only [List.getElem?_toArray, List.getElem?_cons_zero, List.getElem?_cons_succ]; rfl) (by kernel_rfl) (by kernel_rfl) (by kernel_rfl) (by intro _ _ _ h; exact h) (Or.inl ⟨by rfl, ?_⟩) hHeld ?_
  rotate_left
  · (intro w hSw; (try dsimp only at hSw); go_simp; try with_reducible rfl)
  try simp only [Act.put, List.setIfInBounds_toArray, List.set_cons_zero, List.set_cons_succ]
  refine wpAnyH_take (i := 7) (v := ?_) (by simp only [List.getElem?_toArray, List.getElem?_cons_zero, List.getElem?_cons_succ]; rfl) (by kernel_rfl) (by kernel_rfl) (by kernel_rfl) (by intro _ _ _ h; exact h) (Or.inl ⟨by rfl, ?_⟩) hHeld ?_
  rotate_left
  · (intro w hSw; (try dsimp only at hSw); go_simp; try with_reducible rfl)
  try simp only [Act.put, List.setIfInBounds_toArray, List.set_cons_zero, List.set_cons_succ]
  refine wpAnyH_take (i := 8) (v := ?_) (by simp only [List.getElem?_toArray, List.getElem?_cons_zero, List.getElem?_cons_succ]; rfl) (by kernel_rfl) (by kernel_rfl) (by kernel_rfl) (by intro _ _ _ h; exact h) (Or.inl ⟨by rfl, ?_⟩) hHeld ?_
  rotate_left
  · (intro w hSw; (try dsimp only at hSw); go_simp; try with_reducible rfl)
  try simp only [Act.put, List.setIfInBounds_toArray, List.set_cons_zero, List.set_cons_succ]
  refine wpAnyH_take (i := 9) (v := ?_) (by simp only [List.getElem?_toArray, List.getElem?_cons_zero, List.getElem?_cons_succ]; rfl) (by kernel_rfl) (by kernel_rfl) (by kernel_rfl) (by intro _ _ _ h; exact h) (Or.inl ⟨by rfl, ?_⟩) hHeld ?_
  rotate_left
  · (intro w hSw; (try dsimp only at hSw); go_simp; try with_reducible rfl)
  try simp only [Act.put, List.setIfInBounds_toArray, List.set_cons_zero, List.set_cons_succ]
  refine wpAnyH_take (i := 10) (v := ?_) (by simp only [List.getElem?_toArray, List.getElem?_cons_zero, List.getElem?_cons_succ]; rfl) (by kernel_rfl) (by kernel_rfl) (by kernel_rfl) (by intro _ _ _ h; exact h) (Or.inl ⟨by rfl, ?_⟩) hHeld ?_
  rotate_left
  · (intro w hSw; (try dsimp only at hSw); go_simp; try with_reducible rfl)
  try simp only [Act.put, List.setIfInBounds_toArray, List.set_cons_zero, List.set_cons_succ]
  refine wpAnyH_take (i := 11) (v := _) (by simp only [List.getElem?_toArray, List.getElem?_cons_zero, List.getElem?_cons_succ]; rfl) (by kernel_rfl) (by kernel_rfl) (by kernel_rfl) (by intro _ _ _ h; exact h) (yieldsIf_load_mid (by rfl) 30 (.tmp 6) rfl b6 0 rfl exI.cells _ (fun _ h => h.1) Try.underlying30 rfl hx.out) hHeld ?_
  try simp only [Act.put, List.setIfInBounds_toArray, List.set_cons_zero, List.set_cons_succ]
  refine wpAnyH_ready (rs := [12]) (by kernel_rfl) (by simp) ?_
  refine AllReadyH.cons (by simp only [List.getElem?_toArray, List.getElem?_cons_zero, List.getElem?_cons_succ]; rfl) (fun K hK => ?_) AllReadyH.nil
  go_simp
  refine (slice16 _).mono ?_
  rintro r u1 ⟨rfl, hb⟩
  have M16 := Lib.hid (M15.out.go hb)
  refine hK.out _ _ ⟨M16.out.all 3 rfl, M16.out.range 0 rfl 0 (u8l exE.k) (k_sub exE), M16.out.cell 0 rfl 40 rfl, M16.out.cell 0 rfl 72 rfl, M16.out.cell 0 rfl 73 rfl, M16.out.cell 0 rfl 74 rfl⟩ (fun hHeld => ?_)
  clear hK K hb M15
  try simp only [Act.put, List.setIfInBounds_toArray, List.set_cons_zero, List.set_cons_succ]
  refine wpAnyH_take (i := 13) (v := _) (by simp only [List.getElem?_toArray, List.getElem?_cons_zero, List.getElem?_cons_succ]; rfl) (by kernel_rfl) (by kernel_rfl) (by kernel_rfl) (by intro _ _ _ h; exact h) (yields_eql (by rfl) 30 (.tmp 37) (.tmp 38) rfl exI.cells.toArray exI.cells.toArray rfl rfl true eqg30 (fun w => eqr30_self exI_ok w)) hHeld ?_
  try simp only [Act.put, List.setIfInBounds_toArray, List.set_cons_zero, List.set_cons_succ]
  refine wpAnyH_take (i := 14) (v := ?_) (by simp only [List.getElem?_toArray, List.getElem?_cons_zero, List.getElem?_cons_succ]; rfl) (by kernel_rfl) (by kernel_rfl) (by kernel_rfl) (by intro _ _ _ h; exact h) (Or.inl ⟨by rfl, ?_⟩) hHeld ?_
  rotate_left
  · (intro w hSw; (try dsimp only at hSw); go_simp; try with_reducible rfl)
  try simp only [Act.put, List.setIfInBounds_toArray, List.set_cons_zero, List.set_cons_succ]
  refine wpAnyH_take (i := 15) (v := ?_) (by simp only [List.getElem?_toArray, List.getElem?_cons_zero, List.getElem?_cons_succ]; rfl) (by kernel_rfl) (by kernel_rfl) (by kernel_rfl) (by intro _ _ _ h; exact h) (Or.inl ⟨by rfl, ?_⟩) hHeld ?_
  rotate_left
  · (intro w hSw; (try dsimp only at hSw); go_simp; try with_reducible rfl)
  try simp only [Act.put, List.setIfInBounds_toArray, List.set_cons_zero, List.set_cons_succ]
  refine wpAnyH_take (i := 16) (v := ?_) (by simp only [List.getElem?_toArray, List.getElem?_cons_zero, List.getElem?_cons_succ]; rfl) (by kernel_rfl) (by kernel_rfl) (by kernel_rfl) (by intro _ _ _ h; exact h) (Or.inl ⟨by rfl, ?_⟩) hHeld ?_
  rotate_left
  · (intro w hSw; (try dsimp only at hSw); go_simp; try with_reducible rfl)
  try simp only [Act.put, List.setIfInBounds_toArray, List.set_cons_zero, List.set_cons_succ]
  refine wpAnyH_take (i := 17) (v := _) (by simp only [List.getElem?_toArray, List.getElem?_cons_zero, List.getElem?_cons_succ]; rfl) (by kernel_rfl) (by kernel_rfl) (by kernel_rfl) (by intro _ _ _ h; exact h) (yieldsIf_load_mid (by rfl) 32 (.tmp 42) rfl b1 0 rfl (u8l exE.k) _ (fun _ h => h.2.1) Try.underlying32 rfl hkl.out) hHeld ?_
  try simp only [Act.put, List.setIfInBounds_toArray, List.set_cons_zero, List.set_cons_succ]
  refine wpAnyH_take (i := 18) (v := _) (by simp only [List.getElem?_toArray, List.getElem?_cons_zero, List.getElem?_cons_succ]; rfl) (by kernel_rfl) (by kernel_rfl) (by kernel_rfl) (by intro _ _ _ h; exact h) (yields_build (by rfl) 32 [(0, .const (.int .u8 2)), (1, .const (.int .u8 0)), (2, .const (.int .u8 0)), (3, .const (.int .u8 0)), (4, .const (.int .u8 3)), (5, .const (.int .u8 0)), (6, .const (.int .u8 0)), (7, .const (.int .u8 0)), (8, .const (.int .u8 5))] rfl [(0, .int .u8 2), (1, .int .u8 0), (2, .int .u8 0), (3, .int .u8 0), (4, .int .u8 3), (5, .int .u8 0), (6, .int .u8 0), (7, .int .u8 0), (8, .int .u8 5)] rfl _ (fun w => build32x w)) hHeld ?_
  try simp only [Act.put, List.setIfInBounds_toArray, List.set_cons_zero, List.set_cons_succ]
  refine wpAnyH_take (i := 19) (v := _) (by simp only [List.getElem?_toArray, List.getElem?_cons_zero, List.getElem?_cons_succ]; rfl) (by kernel_rfl) (by kernel_rfl) (by kernel_rfl) (by intro _ _ _ h; exact h) (yields_eql (by rfl) 32 (.tmp 43) (.tmp 44) rfl (u8l exE.k).toArray (u8l exE.k).toArray rfl rfl true eqg32 (fun w => eqr32_self exE_ok.k w)) hHeld ?_
  try simp only [Act.put, List.setIfInBounds_toArray, List.set_cons_zero, List.set_cons_succ]
  refine wpAnyH_take (i := 20) (v := ?_) (by simp only [List.getElem?_toArray, List.getElem?_cons_zero, List.getElem?_cons_succ]; rfl) (by kernel_rfl) (by kernel_rfl) (by kernel_rfl) (by intro _ _ _ h; exact h) (Or.inl ⟨by rfl, ?_⟩) hHeld ?_
  rotate_left
  · (intro w hSw; (try dsimp only at hSw); go_simp; try with_reducible rfl)
  try simp only [Act.put, List.setIfInBounds_toArray, List.set_cons_zero, List.set_cons_succ]
  refine wpAnyH_take (i := 21) (v := ?_) (by simp only [List.getElem?_toArray, List.getElem?_cons_zero, List.getElem?_cons_succ]; rfl) (by kernel_rfl) (by kernel_rfl) (by kernel_rfl) (by intro _ _ _ h; exact h) (Or.inl ⟨by rfl, ?_⟩) hHeld ?_
  rotate_left
  · (intro w hSw; (try dsimp only at hSw); go_simp; try with_reducible rfl)
  try simp only [Act.put, List.setIfInBounds_toArray, List.set_cons_zero, List.set_cons_succ]
  refine wpAnyH_take (i := 22) (v := ?_) (by simp only [List.getElem?_toArray, List.getElem?_cons_zero, List.getElem?_cons_succ]; rfl) (by kernel_rfl) (by kernel_rfl) (by kernel_rfl) (by intro _ _ _ h; exact h) (Or.inl ⟨by rfl, ?_⟩) hHeld ?_
  rotate_left
  · (intro w hSw; (try dsimp only at hSw); go_simp; try with_reducible rfl)
  try simp only [Act.put, List.setIfInBounds_toArray, List.set_cons_zero, List.set_cons_succ]
  refine wpAnyH_take (i := 23) (v := ?_) (by simp only [List.getElem?_toArray, List.getElem?_cons_zero, List.getElem?_cons_succ]; rfl) (by kernel_rfl) (by kernel_rfl) (by kernel_rfl) (by intro _ _ _ h; exact h) (Or.inl ⟨by rfl, ?_⟩) hHeld ?_
  rotate_left
  · (intro w hSw; (try dsimp only at hSw); go_simp; try with_reducible rfl)
  try simp only [Act.put, List.setIfInBounds_toArray, List.set_cons_zero, List.set_cons_succ]
  refine wpAnyH_take (i := 24) (v := ?_) (by simp only [List.getElem?_toArray, List.getElem?_cons_zero, List.getElem?_cons_succ]; rfl) (by kernel_rfl) (by kernel_rfl) (by kernel_rfl) (by intro _ _ _ h; exact h) (Or.inl ⟨by rfl, ?_⟩) hHeld ?_
  rotate_left
  · (intro w hSw; (try dsimp only at hSw); go_simp; try with_reducible rfl)
  try simp only [Act.put, List.setIfInBounds_toArray, List.set_cons_zero, List.set_cons_succ]
  refine wpAnyH_take (i := 25) (v := ?_) (by simp only [List.getElem?_toArray, List.getElem?_cons_zero, List.getElem?_cons_succ]; rfl) (by kernel_rfl) (by kernel_rfl) (by kernel_rfl) (by intro _ _ _ h; exact h) (Or.inl ⟨by rfl, ?_⟩) hHeld ?_
  rotate_left
  · (intro w hSw; (try dsimp only at hSw); go_simp; try with_reducible rfl)
  try simp only [Act.put, List.setIfInBounds_toArray, List.set_cons_zero, List.set_cons_succ]
  refine wpAnyH_take (i := 26) (v := ?_) (by simp only [List.getElem?_toArray, List.getElem?_cons_zero, List.getElem?_cons_succ]; rfl) (by kernel_rfl) (by kernel_rfl) (by kernel_rfl) (by intro _ _ _ h; exact h) (Or.inl ⟨by rfl, ?_⟩) hHeld ?_
  rotate_left
  · (intro w hSw; (try dsimp only at hSw); go_simp; try with_reducible rfl)
  try simp only [Act.put, List.setIfInBounds_toArray, List.set_cons_zero, List.set_cons_succ]
  refine wpAnyH_take (i := 27) (v := ?_) (by simp only [List.getElem?_toArray, List.getElem?_cons_zero, List.getElem?_cons_succ]; rfl) (by kernel_rfl) (by kernel_rfl) (by kernel_rfl) (by intro _ _ _ h; exact h) (Or.inl ⟨by rfl, ?_⟩) hHeld ?_
  rotate_left
  · (intro w hSw; (try dsimp only at hSw); go_simp; try with_reducible rfl)
  try simp only [Act.put, List.setIfInBounds_toArray, List.set_cons_zero, List.set_cons_succ]
  refine wpAnyH_take (i := 28) (v := ?_) (by simp only [List.getElem?_toArray, List.getElem?_cons_zero, List.getElem?_cons_succ]; rfl) (by kernel_rfl) (by kernel_rfl) (by kernel_rfl) (by intro _ _ _ h; exact h) (Or.inl ⟨by rfl, ?_⟩) hHeld ?_
  rotate_left
  · (intro w hSw; (try dsimp only at hSw); go_simp; try with_reducible rfl)
  try simp only [Act.put, List.setIfInBounds_toArray, List.set_cons_zero, List.set_cons_succ]
  refine wpAnyH_take (i := 29) (v := ?_) (by simp only [List.getElem?_toArray, List.getElem?_cons_zero, List.getElem?_cons_succ]; rfl) (by kernel_rfl) (by kernel_rfl) (by kernel_rfl) (by intro _ _ _ h; exact h) (Or.inl ⟨by rfl, ?_⟩) hHeld ?_
  rotate_left
  · (intro w hSw; (try dsimp only at hSw); go_simp; try with_reducible rfl)
  try simp only [Act.put, List.setIfInBounds_toArray, List.set_cons_zero, List.set_cons_succ]
  refine wpAnyH_take (i := 30) (v := ?_) (by simp only [List.getElem?_toArray, List.getElem?_cons_zero, List.getElem?_cons_succ]; rfl) (by kernel_rfl) (by kernel_rfl) (by kernel_rfl) (by intro _ _ _ h; exact h) (Or.inl ⟨by rfl, ?_⟩) hHeld ?_
  rotate_left
  · (intro w hSw; (try dsimp only at hSw); go_simp; try with_reducible rfl)
  try simp only [Act.put, List.setIfInBounds_toArray, List.set_cons_zero, List.set_cons_succ]
  refine wpAnyH_take (i := 31) (v := ?_) (by simp only [List.getElem?_toArray, List.getElem?_cons_zero, List.getElem?_cons_succ]; rfl) (by kernel_rfl) (by kernel_rfl) (by kernel_rfl) (by intro _ _ _ h; exact h) (Or.inl ⟨by rfl, ?_⟩) hHeld ?_
  rotate_left
  · (intro w hSw; (try dsimp only at hSw); go_simp; try with_reducible rfl)
  try simp only [Act.put, List.setIfInBounds_toArray, List.set_cons_zero, List.set_cons_succ]
  refine wpAnyH_take (i := 32) (v := ?_) (by simp only [List.getElem?_toArray, List.getElem?_cons_zero, List.getElem?_cons_succ]; rfl) (by kernel_rfl) (by kernel_rfl) (by kernel_rfl) (by intro _ _ _ h; exact h) (Or.inl ⟨by rfl, ?_⟩) hHeld ?_
  rotate_left
  · (intro w hSw; (try dsimp only at hSw); go_simp; try with_reducible rfl)
  try simp only [Act.put, List.setIfInBounds_toArray, List.set_cons_zero, List.set_cons_succ]
  refine wpAnyH_take (i := 33) (v := ?_) (by simp only [List.getElem?_toArray, List.getElem?_cons_zero, List.getElem?_cons_succ]; rfl) (by kernel_rfl) (by kernel_rfl) (by kernel_rfl) (by intro _ _ _ h; exact h) (Or.inl ⟨by rfl, ?_⟩) hHeld ?_
  rotate_left
  · (intro w hSw; (try dsimp only at hSw); go_simp; try with_reducible rfl)
  try simp only [Act.put, List.setIfInBounds_toArray, List.set_cons_zero, List.set_cons_succ]
  refine wpAnyH_take (i := 34) (v := ?_) (by simp only [List.getElem?_toArray, List.getElem?_cons_zero, List.getElem?_cons_succ]; rfl) (by kernel_rfl) (by kernel_rfl) (by kernel_rfl) (by intro _ _ _ h; exact h) (Or.inl ⟨by rfl, ?_⟩) hHeld ?_
  rotate_left
  · (intro w hSw; (try dsimp only at hSw); go_simp; try with_reducible rfl)
  try simp only [Act.put, List.setIfInBounds_toArray, List.set_cons_zero, List.set_cons_succ]
  refine wpAnyH_take (i := 35) (v := ?_) (by simp only [List.getElem?_toArray, List.getElem?_cons_zero, List.getElem?_cons_succ]; rfl) (by kernel_rfl) (by kernel_rfl) (by kernel_rfl) (by intro _ _ _ h; exact h) (Or.inl ⟨by rfl, ?_⟩) hHeld ?_
  rotate_left
  · (intro w hSw; (try dsimp only at hSw); go_simp; try with_reducible rfl)
  try simp only [Act.put, List.setIfInBounds_toArray, List.set_cons_zero, List.set_cons_succ]
  refine wpAnyH_take (i := 36) (v := ?_) (by simp only [List.getElem?_toArray, List.getElem?_cons_zero, List.getElem?_cons_succ]; rfl) (by kernel_rfl) (by kernel_rfl) (by kernel_rfl) (by intro _ _ _ h; exact h) (Or.inl ⟨by rfl, ?_⟩) hHeld ?_
  rotate_left
  · (intro w hSw; (try dsimp only at hSw); go_simp; try with_reducible rfl)
  try simp only [Act.put, List.setIfInBounds_toArray, List.set_cons_zero, List.set_cons_succ]
  refine wpAnyH_take (i := 37) (v := ?_) (by simp only [List.getElem?_toArray, List.getElem?_cons_zero, List.getElem?_cons_succ]; rfl) (by kernel_rfl) (by kernel_rfl) (by kernel_rfl) (by intro _ _ _ h; exact h) (Or.inl ⟨by rfl, ?_⟩) hHeld ?_
  rotate_left
  · (intro w hSw; (try dsimp only at hSw); go_simp; try with_reducible rfl)
  try simp only [Act.put, List.setIfInBounds_toArray, List.set_cons_zero, List.set_cons_succ]
  refine wpAnyH_take (i := 38) (v := ?_) (by simp only [List.getElem?_toArray, List.getElem?_cons_zero, List.getElem?_cons_succ]; rfl) (by kernel_rfl) (by kernel_rfl) (by kernel_rfl) (by intro _ _ _ h; exact h) (Or.inl ⟨by rfl, ?_⟩) hHeld ?_
  rotate_left
  · (intro w hSw; (try dsimp only at hSw); go_simp; try with_reducible rfl)
  try simp only [Act.put, List.setIfInBounds_toArray, List.set_cons_zero, List.set_cons_succ]
  refine wpAnyH_take (i := 39) (v := ?_) (by simp only [List.getElem?_toArray, List.getElem?_cons_zero, List.getElem?_cons_succ]; rfl) (by kernel_rfl) (by kernel_rfl) (by kernel_rfl) (by intro _ _ _ h; exact h) (Or.inl ⟨by rfl, ?_⟩) hHeld ?_
  rotate_left
  · (intro w hSw; (try dsimp only at hSw); go_simp; try with_reducible rfl)
  try simp only [Act.put, List.setIfInBounds_toArray, List.set_cons_zero, List.set_cons_succ]
  refine wpAnyH_take (i := 40) (v := ?_) (by simp only [List.getElem?_toArray, List.getElem?_cons_zero, List.getElem?_cons_succ]; rfl) (by kernel_rfl) (by kernel_rfl) (by kernel_rfl) (by intro _ _ _ h; exact h) (Or.inl ⟨by rfl, ?_⟩) hHeld ?_
  rotate_left
  · (intro w hSw; (try dsimp only at hSw); go_simp; try with_reducible rfl)
  try simp only [Act.put, List.setIfInBounds_toArray, List.set_cons_zero, List.set_cons_succ]
  refine wpAnyH_take (i := 41) (v := ?_) (by simp only [List.getElem?_toArray, List.getElem?_cons_zero, List.getElem?_cons_succ]; rfl) (by kernel_rfl) (by kernel_rfl) (by kernel_rfl) (by intro _ _ _ h; exact h) (Or.inl ⟨by rfl, ?_⟩) hHeld ?_
  rotate_left
  · (intro w hSw; (try dsimp only at hSw); go_simp; try with_reducible rfl)
  try simp only [Act.put, List.setIfInBounds_toArray, List.set_cons_zero, List.set_cons_succ]
  refine wpAnyH_take (i := 42) (v := ?_) (by simp only [List.getElem?_toArray, List.getElem?_cons_zero, List.getElem?_cons_succ]; rfl) (by kernel_rfl) (by kernel_rfl) (by kernel_rfl) (by intro _ _ _ h; exact h) (Or.inl ⟨by rfl, ?_⟩) hHeld ?_
  rotate_left
  · (intro w hSw; (try dsimp only at hSw); go_simp; try with_reducible rfl)
  try simp only [Act.put, List.setIfInBounds_toArray, List.set_cons_zero, List.set_cons_succ]
  refine wpAnyH_take (i := 43) (v := ?_) (by simp only [List.getElem?_toArray, List.getElem?_cons_zero, List.getElem?_cons_succ]; rfl) (by kernel_rfl) (by kernel_rfl) (by kernel_rfl) (by intro _ _ _ h; exact h) (Or.inl ⟨by rfl, ?_⟩) hHeld ?_
  rotate_left
  · (intro w hSw; (try dsimp only at hSw); go_simp; try with_reducible rfl)
  try simp only [Act.put, List.setIfInBounds_toArray, List.set_cons_zero, List.set_cons_succ]
  refine wpAnyH_take (i := 44) (v := ?_) (by simp only [List.getElem?_toArray, List.getElem?_cons_zero, List.getElem?_cons_succ]; rfl) (by kernel_rfl) (by kernel_rfl) (by kernel_rfl) (by intro _ _ _ h; exact h) (Or.inl ⟨by rfl, ?_⟩) hHeld ?_
  rotate_left
  · (intro w hSw; (try dsimp only at hSw); go_simp; try with_reducible rfl)
  try simp only [Act.put, List.setIfInBounds_toArray, List.set_cons_zero, List.set_cons_succ]
  refine wpAnyH_take (i := 45) (v := ?_) (by simp only [List.getElem?_toArray, List.getElem?_cons_zero, List.getElem?_cons_succ]; rfl) (by kernel_rfl) (by kernel_rfl) (by kernel_rfl) (by intro _ _ _ h; exact h) (Or.inl ⟨by rfl, ?_⟩) hHeld ?_
  rotate_left
  · (intro w hSw; (try dsimp only at hSw); go_simp; try with_reducible rfl)
  try simp only [Act.put, List.setIfInBounds_toArray, List.set_cons_zero, List.set_cons_succ]
  refine wpAnyH_take (i := 46) (v := ?_) (by simp only [List.getElem?_toArray, List.getElem?_cons_zero, List.getElem?_cons_succ]; rfl) (by kernel_rfl) (by kernel_rfl) (by kernel_rfl) (by intro _ _ _ h; exact h) (Or.inl ⟨by rfl, ?_⟩) hHeld ?_
  rotate_left
  · (intro w hSw; (try dsimp only at hSw); go_simp; try with_reducible rfl)
  try simp only [Act.put, List.setIfInBounds_toArray, List.set_cons_zero, List.set_cons_succ]
  refine wpAnyH_take (i := 47) (v := _) (by simp only [List.getElem?_toArray, List.getElem?_cons_zero, List.getElem?_cons_succ]; rfl) (by kernel_rfl) (by kernel_rfl) (by kernel_rfl) (by intro _ _ _ h; exact h) (yieldsIf_load_mid (by rfl) 32 (.tmp 72) rfl b1 0 rfl (u8l exE.k) _ (fun _ h => h.2.1) Try.underlying32 rfl hkl.out) hHeld ?_
  try simp only [Act.put, List.setIfInBounds_toArray, List.set_cons_zero, List.set_cons_succ]
  refine wpAnyH_take (i := 48) (v := _) (by simp only [List.getElem?_toArray, List.getElem?_cons_zero, List.getElem?_cons_succ]; rfl) (by kernel_rfl) (by kernel_rfl) (by kernel_rfl) (by intro _ _ _ h; exact h) (yields_build (by rfl) 32 [(0, .const (.int .u8 3))] rfl [(0, .int .u8 3)] rfl _ (fun w => build32y w)) hHeld ?_
  try simp only [Act.put, List.setIfInBounds_toArray, List.set_cons_zero, List.set_cons_succ]
  refine wpAnyH_ready (rs := [49]) (by kernel_rfl) (by simp) ?_
  refine AllReadyH.cons (by simp only [List.getElem?_toArray, List.getElem?_cons_zero, List.getElem?_cons_succ]; rfl) (fun K hK => ?_) AllReadyH.nil
  go_simp
  refine (compare14 exE.k exT _ rfl rfl).mono ?_
  rintro r u2 ⟨rfl, hb⟩
  have M17 := Lib.hid (M16.out.go hb)
  rw [show Lib.compareBytes (Lib.bytesOf exE.k) (Lib.bytesOf exT) = -1 from by kernel_rfl]
  refine hK.out _ _ ⟨M17.out.all 3 rfl, M17.out.range 0 rfl 0 (u8l exE.k) (k_sub exE), M17.out.cell 0 rfl 40 rfl, M17.out.cell 0 rfl 72 rfl, M17.out.cell 0 rfl 73 rfl, M17.out.cell 0 rfl 74 rfl⟩ (fun hHeld => ?_)
  clear hK K hb M16
  try simp only [Act.put, List.setIfInBounds_toArray, List.set_cons_zero, List.set_cons_succ]
  refine wpAnyH_take (i := 50) (v := ?_) (by simp only [List.getElem?_toArray, List.getElem?_cons_zero, List.getElem?_cons_succ]; rfl) (by kernel_rfl) (by kernel_rfl) (by kernel_rfl) (by intro _ _ _ h; exact h) (Or.inl ⟨by rfl, ?_⟩) hHeld ?_
  rotate_left
  · (intro w hSw; (try dsimp only at hSw); go_simp; try with_reducible rfl)
  try simp only [Act.put, List.setIfInBounds_toArray, List.set_cons_zero, List.set_cons_succ]
  refine wpAnyH_take (i := 51) (v := ?_) (by simp only [List.getElem?_toArray, List.getElem?_cons_zero, List.getElem?_cons_succ]; rfl) (by kernel_rfl) (by kernel_rfl) (by kernel_rfl) (by intro _ _ _ h; exact h) (Or.inl ⟨by rfl, ?_⟩) hHeld ?_
  rotate_left
  · (intro w hSw; (try dsimp only at hSw); go_simp; try with_reducible rfl)
  try simp only [Act.put, List.setIfInBounds_toArray, List.set_cons_zero, List.set_cons_succ]
  refine wpAnyH_take (i := 52) (v := ?_) (by simp only [List.getElem?_toArray, List.getElem?_cons_zero, List.getElem?_cons_succ]; rfl) (by kernel_rfl) (by kernel_rfl) (by kernel_rfl) (by intro _ _ _ h; exact h) (Or.inl ⟨by rfl, ?_⟩) hHeld ?_
  rotate_left
  · (intro w hSw; (try dsimp only at hSw); go_simp; try with_reducible rfl)
  try simp only [Act.put, List.setIfInBounds_toArray, List.set_cons_zero]
  refine wpAnyH_done (by kernel_rfl) ?_ _
  have hbz := M17.out.below
  clear M17 hHeld
  go_wp2_with fail
  go_ret
  exact ⟨rfl, hbz⟩
end Go.Proofs.Ytmckngkmlhemoaa
