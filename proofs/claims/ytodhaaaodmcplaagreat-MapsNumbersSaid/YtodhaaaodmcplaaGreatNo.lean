/- Layer 23 (maps): maps that are not, and such as nobody made. -/
import Derived.Test.YtodhaaaodmcplaaGreatNl
import Derived.Test.YtodhaaaodmcplaaGreatDo
set_option linter.all false
namespace Go.Proofs.YtodhaaaodmcplaaGreat
open Go.RowKit Go.Maps Go.WideMaps Go.Sort Go.Shelf
/-- Maps that are not: nil, or a block of noughts. -/
def NoM (w : World) (v : Value) : Prop := v = .pointer none ∨ ∃ p, v = .pointer (some ⟨p, 0, none⟩) ∧ w.heap[p]? = some (.cells (mxL 0 F0 (.map none)).toArray 53 (0, 0))
theorem NoM.go {w w2 : World} {v : Value} (h : NoM w v) (hb : Below w.heap.size w w2) : NoM w2 v := by
  rcases h with h | ⟨p, h1, h2⟩
  · exact .inl h
  · exact .inr ⟨p, h1, (hb.block p (heap_lt h2)).trans h2⟩
theorem known_no {w : World} {v : Value} (h : NoM w v) : Calls Tryz.prog 33 #[v] w fun e w' => e = .returned (.bool false) ∧ w = w' := by
  rcases h with rfl | ⟨p, rfl, hp⟩
  · exact known_nil w
  · exact known_zero (block_cell hp 0 _ (by rw [List.getElem?_toArray]; exact mxL_n _ _ _))
set_option maxRecDepth 100000 in
theorem get_no {w : World} {v : Value} (h : NoM w v) (id un : Int) : Calls Tryz.prog 15 #[v, .int .i64 id, .int .i64 un] w fun e w' => e = .returned (.tuple #[.agg zS.toArray, .bool false]) ∧ Below w.heap.size w w' := by
  have H := Lib.hid h
  have HZO := Lib.hid (oneC sl0)
  clear h
  go_enter Tryz.func15, Tryz.ntmps15
  go_upto_region 1 with (refine wpList_laid rfl 33 rfl zS (zeroVS _) ?_)
  obtain ⟨q, hq⟩ : ∃ q, q = w.heap.size := ⟨_, rfl⟩
  obtain ⟨w1, hw1⟩ : ∃ z, z = w.alloc (.cells zS.toArray 33) := ⟨_, rfl⟩
  have B1 : Hid (Below w.heap.size w w1) := Lib.hid (by rw [hw1]; exact (Below.refl _ _).alloc (Nat.le_refl _) _)
  have Q1 : Hid (w1.heap[q]? = some (.cells zS.toArray 33 (0, 0))) := Lib.hid (by rw [hw1, hq]; exact heap_new w _)
  have H1 : Hid (NoM w1 v) := Lib.hid (H.out.go B1.out)
  rw [← hw1, ← hq]
  have HQ := Lib.hid hq
  clear hw1 hq H
  go_wp2_with fail
  refine (known_no H1.out).mono ?_
  rintro e _ ⟨rfl, rfl⟩
  go_wp2_with (first | (refine wpList_buildG rfl 33 [] rfl [] rfl _ (buildS0 _) ?_) | (refine wpList_store_segK rfl 33 (.tmp 6) (.tmp 24) rfl q 0 rfl zS rfl zS 33 Q1.out sizeZ (Nat.le_refl _) HZO.out rfl ?_; intro w2 h2 k2 s2))
  rw [splice_whole _ _ (by rfl)] at h2
  refine bodyPost_ret (results_cell_mid rfl _ _ q zS _ rfl (range_of h2) Tryz.underlying33 rfl sizeZ) rfl ?_
  exact ⟨rfl, B1.out.trans (k2.below (fun k hk => by rw [hk, HQ.out]; exact Nat.le_refl _) B1.out.size)⟩
set_option maxRecDepth 100000 in
theorem set_no {w : World} {v : Value} (h : NoM w v) (un : Int) (cs : List Value) : Calls Tryz.prog 19 #[v, .int .i64 un, .agg cs.toArray] w fun e w' => e = .returned (.int .i64 1) ∧ Below w.heap.size w w' := by
  have H := Lib.hid h
  clear h
  go_enter Tryz.func19, Tryz.ntmps19
  go_upto_region 1 with (refine Go.Great.wpList_boxTo rfl 33 (.tmp 2) rfl (some 5) rfl _ rfl cs.toArray rfl ?_)
  obtain ⟨w1, hw1⟩ : ∃ z, z = w.alloc (.cells cs.toArray 33) := ⟨_, rfl⟩
  have B1 : Hid (Below w.heap.size w w1) := Lib.hid (by rw [hw1]; exact (Below.refl _ _).alloc (Nat.le_refl _) _)
  have H1 : Hid (NoM w1 v) := Lib.hid (H.out.go B1.out)
  rw [← hw1]
  clear hw1 H
  go_wp2_with fail
  refine (known_no H1.out).mono ?_
  rintro e _ ⟨rfl, rfl⟩
  go_wp2_with fail
  go_ret
  exact ⟨rfl, B1.out⟩
theorem clear_no {w : World} {v : Value} (h : NoM w v) (a n : Int) : Calls Tryz.prog 21 #[v, .int .i64 a, .int .i64 n] w fun e w' => e = .returned (.int .i64 1) ∧ w = w' := by
  have H := Lib.hid h
  clear h
  go_enter Tryz.func21, Tryz.ntmps21
  go_wp2_with fail
  refine (known_no H.out).mono ?_
  rintro e _ ⟨rfl, rfl⟩
  go_wp2_with fail
  go_ret
  exact ⟨rfl, rfl⟩
theorem snap_no {w : World} {v : Value} (h : NoM w v) (id : Int) : Calls Tryz.prog 20 #[v, .int .i64 id] w fun e w' => e = .returned (.int .i64 1) ∧ w = w' := by
  have H := Lib.hid h
  clear h
  go_enter Tryz.func20, Tryz.ntmps20
  go_wp2_with fail
  refine (known_no H.out).mono ?_
  rintro e _ ⟨rfl, rfl⟩
  go_wp2_with fail
  go_ret
  exact ⟨rfl, rfl⟩
theorem drop_no {w : World} {v : Value} (h : NoM w v) (id : Int) : Calls Tryz.prog 24 #[v, .int .i64 id] w fun e w' => e = .returned (.int .i64 1) ∧ w = w' := by
  have H := Lib.hid h
  clear h
  go_enter Tryz.func24, Tryz.ntmps24
  go_wp2_with fail
  refine (known_no H.out).mono ?_
  rintro e _ ⟨rfl, rfl⟩
  go_wp2_with fail
  go_ret
  exact ⟨rfl, rfl⟩
theorem back_no {w : World} {v : Value} (h : NoM w v) (id : Int) : Calls Tryz.prog 23 #[v, .int .i64 id] w fun e w' => e = .returned (.int .i64 1) ∧ w = w' := by
  have H := Lib.hid h
  clear h
  go_enter Tryz.func23, Tryz.ntmps23
  go_wp2_with fail
  refine (known_no H.out).mono ?_
  rintro e _ ⟨rfl, rfl⟩
  go_wp2_with fail
  go_ret
  exact ⟨rfl, rfl⟩
theorem items_no {w : World} {v : Value} (h : NoM w v) : Calls Tryz.prog 13 #[v] w fun e w' => e = .returned (.slice none 0 0) ∧ w = w' := by
  have H := Lib.hid h
  clear h
  go_enter Tryz.func13, Tryz.ntmps13
  go_wp2_with fail
  refine (known_no H.out).mono ?_
  rintro e _ ⟨rfl, rfl⟩
  go_wp2_with fail
  go_ret
  exact ⟨rfl, rfl⟩
set_option maxHeartbeats 1000000 in
theorem sorted_nil (w : World) :
    Calls Tryz.prog 31 #[.func (.func 42) #[] #[.pointer (some ⟨w.heap.size, 0, none⟩)]] (w.alloc (.cells #[.map none] 49)) fun e w' => e = .returned (.slice none 0 0) ∧ Below w.heap.size w w' := by
  refine (callsIn_wide (n := 5)).1 ?_
  have hseq : SeqGives Fence.wide 2 Tryz.prog 42 #[.pointer (some ⟨w.heap.size, 0, none⟩)] encZ (fun ss : List Int => ss = []) 0 (w.alloc (.cells #[.map none] 49)) :=
    AnyZI.keys_gives_nil (ρ := keysA_ren) { keysA with } Fence.wide _ trivial rfl w.heap.size _ (by simp) (by simp)
  have cS := AnyZI.sorted_in sortedA Fence.wide 5 trivial trivial trivial trivial rfl (by omega) (sortsA _) (enters_of Tryz.func41 (by kernel_rfl) rfl) 42 #[.pointer (some ⟨w.heap.size, 0, none⟩)] trivial (enters_of Tryz.func42 (by kernel_rfl) rfl) _ 0 (Nat.zero_le _) (by omega) _ hseq
  change CallsIn _ _ Tryz.prog 31 _ _ _ at cS
  refine cS.mono ?_
  rintro e w' ⟨v, ss, rfl, rfl, hrow, hnil, hb⟩
  obtain rfl : v = .slice none 0 0 := hnil.2 rfl
  exact ⟨rfl, ((Below.refl _ w).alloc (Nat.le_refl _) _).trans (hb.mono (by simp))⟩
theorem ids_no {w : World} {v : Value} (h : NoM w v) : Calls Tryz.prog 10 #[v] w fun e w' => e = .returned (.slice none 0 0) ∧ Below w.heap.size w w' := by
  rcases h with rfl | ⟨p, rfl, hp⟩
  · exact (ids_nil w).mono fun e w' h => ⟨h.1, h.2 ▸ Below.refl _ _⟩
  · have cm : w.cell? ⟨p, 17409, none⟩ = some (.map none) := block_cell hp 17409 _ (by rw [List.getElem?_toArray]; exact mxL_v _ _ _)
    clear hp
    go_enter Tryz.func10, Tryz.ntmps10
    go_wp2_with fail
    refine (keys_c none w).mono ?_
    rintro e _ ⟨rfl, rfl⟩
    go_wp2_with fail
    refine (sorted_nil w).mono ?_
    rintro e w' ⟨rfl, hb⟩
    have HB := Lib.hid hb
    clear hb
    go_wp2_with fail
    go_ret
    exact ⟨rfl, HB.out⟩
def kindsSl : List IntKind := List.replicate 32 .u8 ++ [.i64, .i64]
theorem leafsSl : leafs Tryz.prog 5 33 = some kindsSl := by kernel_rfl
theorem keySl : Tryz.prog.keyTypeAt 5 33 = true := by kernel_rfl
theorem eqgSl : Tryz.prog.eqGuardType Tryz.prog.depth 33 = false := by kernel_rfl
theorem fitsSl {k : List Int} {o m : Int} (hk : KeyOk 32 k) (h1 : (Lit.int .i64 o).wf = true) (h2 : (Lit.int .i64 m).wf = true) : Fits (slC k o m) kindsSl :=
  Fits.join (fits_u8l hk) ⟨⟨_, rfl, h1⟩, ⟨_, rfl, h2⟩, trivial⟩
theorem slc_wf (s : Slc) : (Lit.int .i64 s.1.o).wf = true ∧ (Lit.int .i64 s.1.m).wf = true := ⟨wf_i64 (by have := s.2.o; omega), wf_i64 (by have := s.2.m; omega)⟩
theorem fitsC (a : Slc) : Fits (slcC a) kindsSl := fitsSl a.2.key (slc_wf a).1 (slc_wf a).2
theorem eqSl (a b : Slc) (w : World) : ∃ r : Bool, EqRun Tryz.prog 33 (slcC a).toArray (slcC b).toArray w r ∧ (r = true ↔ slcC a = slcC b) := by
  obtain ⟨r, hr, hiff⟩ := eql_fits (P := Tryz.prog) (t := 33) (m := 5) (d := 5) (by omega) keySl leafsSl (xs := (slcC a).toArray) (ys := (slcC b).toArray) (by simp [Value.formed, Tryz.underlying33, lenC]; kernel_rfl) (by simp [Value.formed, Tryz.underlying33, lenC]; kernel_rfl) (by simpa using fitsC a) (by simpa using fitsC b) w
  exact ⟨r, ⟨hr⟩, hiff.trans (by simp)⟩
theorem eqrSl (a : Slc) (w : World) : EqRun Tryz.prog 33 (slcC a).toArray (slcC a).toArray w true := by
  obtain ⟨r, hr, h⟩ := eqSl a a w
  rwa [h.2 rfl] at hr
end Go.Proofs.YtodhaaaodmcplaaGreat
set_option linter.all false
namespace Go.Proofs.YtodhaaaodmcplaaGreat
open Go.RowKit Go.Maps Go.WideMaps
theorem do_len {d : Dox} (h : KeyOk 32 d.s.k) : d.cells.length = 37 := by
  unfold Dox.cells
  rw [List.length_append, slC_len h.len]
  rfl
theorem do_one (d : Dox) : ∀ v ∈ d.cells, v.oneCell' = true := by
  intro v hv
  unfold Dox.cells at hv
  rcases List.mem_append.1 hv with hv | hv
  · simp at hv; rcases hv with rfl | rfl | rfl <;> rfl
  · exact slC_one _ _ _ v hv
theorem do_at {w : World} {b o : Nat} {d : Dox} (h : w.rangeAt b o d.cells) : w.cell? ⟨b, o, none⟩ = some (.int .i64 d.op) ∧ w.cell? ⟨b, o + 1, none⟩ = some (.int .i64 d.a) ∧ w.cell? ⟨b, o + 2, none⟩ = some (.int .i64 d.b) ∧ w.rangeAt b (o + 3) (slC d.s.k d.s.o d.s.m) := by
  refine ⟨h 0 _ rfl, h 1 _ rfl, h 2 _ rfl, fun j v hj => ?_⟩
  have := h (3 + j) v (by
    unfold Dox.cells
    rw [List.getElem?_append_right (by simp)]
    simpa using hj)
  rwa [← Nat.add_assoc] at this
theorem sizeDo {d : Dox} (h : KeyOk 32 d.s.k) : (Tryz.prog.info? 35).map (·.size) = some d.cells.length := by
  rw [do_len h]; kernel_rfl
end Go.Proofs.YtodhaaaodmcplaaGreat
