/- Layer 23 (maps): maps that are not, and such as nobody made. -/
import Derived.Test.YtodhaaaodmcplaaNl
set_option linter.all false
namespace Go.Proofs.Ytodhaaaodmcplaa
open Go.RowKit Go.Maps Go.WideMaps Go.Sort Go.Shelf
/-- Maps that are not: nil, or a block of noughts. -/
def NoM (w : World) (v : Value) : Prop := v = .pointer none ∨ ∃ p, v = .pointer (some ⟨p, 0, none⟩) ∧ w.heap[p]? = some (.cells (mxL 0 F0 (.map none)).toArray 34 (0, 0))
theorem NoM.go {w w2 : World} {v : Value} (h : NoM w v) (hb : Below w.heap.size w w2) : NoM w2 v := by
  rcases h with h | ⟨p, h1, h2⟩
  · exact .inl h
  · exact .inr ⟨p, h1, (hb.block p (heap_lt h2)).trans h2⟩
theorem known_no {w : World} {v : Value} (h : NoM w v) : Calls Try.prog 22 #[v] w fun e w' => e = .returned (.bool false) ∧ w = w' := by
  rcases h with rfl | ⟨p, rfl, hp⟩
  · exact known_nil w
  · exact known_zero (block_cell hp 0 _ (by rw [List.getElem?_toArray]; exact mxL_n _ _ _))
set_option maxRecDepth 100000 in
theorem get_no {w : World} {v : Value} (h : NoM w v) (id un : Int) : Calls Try.prog 7 #[v, .int .i64 id, .int .i64 un] w fun e w' => e = .returned (.tuple #[.agg zS.toArray, .bool false]) ∧ Below w.heap.size w w' := by
  have H := Lib.hid h
  have HZO := Lib.hid (oneC sl0)
  clear h
  go_enter Try.func7, Try.ntmps7
  go_upto_region 1 with (refine wpList_laid rfl 25 rfl zS (zeroVS _) ?_)
  obtain ⟨q, hq⟩ : ∃ q, q = w.heap.size := ⟨_, rfl⟩
  obtain ⟨w1, hw1⟩ : ∃ z, z = w.alloc (.cells zS.toArray 25) := ⟨_, rfl⟩
  have B1 : Hid (Below w.heap.size w w1) := Lib.hid (by rw [hw1]; exact (Below.refl _ _).alloc (Nat.le_refl _) _)
  have Q1 : Hid (w1.heap[q]? = some (.cells zS.toArray 25 (0, 0))) := Lib.hid (by rw [hw1, hq]; exact heap_new w _)
  have H1 : Hid (NoM w1 v) := Lib.hid (H.out.go B1.out)
  rw [← hw1, ← hq]
  have HQ := Lib.hid hq
  clear hw1 hq H
  go_wp2_with fail
  refine (known_no H1.out).mono ?_
  rintro e _ ⟨rfl, rfl⟩
  go_wp2_with (first | (refine wpList_buildG rfl 25 [] rfl [] rfl _ (buildS0 _) ?_) | (refine wpList_store_segK rfl 25 (.tmp 6) (.tmp 24) rfl q 0 rfl zS rfl zS 25 Q1.out sizeZ (Nat.le_refl _) HZO.out rfl ?_; intro w2 h2 k2 s2))
  rw [splice_whole _ _ (by rfl)] at h2
  refine bodyPost_ret (results_cell_mid rfl _ _ q zS _ rfl (range_of h2) Try.underlying25 rfl sizeZ) rfl ?_
  exact ⟨rfl, B1.out.trans (k2.below (fun k hk => by rw [hk, HQ.out]; exact Nat.le_refl _) B1.out.size)⟩
set_option maxRecDepth 100000 in
theorem set_no {w : World} {v : Value} (h : NoM w v) (un : Int) (cs : List Value) : Calls Try.prog 8 #[v, .int .i64 un, .agg cs.toArray] w fun e w' => e = .returned (.int .i64 1) ∧ Below w.heap.size w w' := by
  have H := Lib.hid h
  clear h
  go_enter Try.func8, Try.ntmps8
  go_upto_region 1 with (refine Go.Great.wpList_boxTo rfl 25 (.tmp 2) rfl (some 5) rfl _ rfl cs.toArray rfl ?_)
  obtain ⟨w1, hw1⟩ : ∃ z, z = w.alloc (.cells cs.toArray 25) := ⟨_, rfl⟩
  have B1 : Hid (Below w.heap.size w w1) := Lib.hid (by rw [hw1]; exact (Below.refl _ _).alloc (Nat.le_refl _) _)
  have H1 : Hid (NoM w1 v) := Lib.hid (H.out.go B1.out)
  rw [← hw1]
  clear hw1 H
  go_wp2_with fail
  refine (known_no H1.out).mono ?_
  rintro e _ ⟨rfl, rfl⟩
  go_wp2_with fail
  go_ret
  exact ⟨rfl, B1.out⟩
theorem clear_no {w : World} {v : Value} (h : NoM w v) (a n : Int) : Calls Try.prog 9 #[v, .int .i64 a, .int .i64 n] w fun e w' => e = .returned (.int .i64 1) ∧ w = w' := by
  have H := Lib.hid h
  clear h
  go_enter Try.func9, Try.ntmps9
  go_wp2_with fail
  refine (known_no H.out).mono ?_
  rintro e _ ⟨rfl, rfl⟩
  go_wp2_with fail
  go_ret
  exact ⟨rfl, rfl⟩
theorem snap_no {w : World} {v : Value} (h : NoM w v) (id : Int) : Calls Try.prog 10 #[v, .int .i64 id] w fun e w' => e = .returned (.int .i64 1) ∧ w = w' := by
  have H := Lib.hid h
  clear h
  go_enter Try.func10, Try.ntmps10
  go_wp2_with fail
  refine (known_no H.out).mono ?_
  rintro e _ ⟨rfl, rfl⟩
  go_wp2_with fail
  go_ret
  exact ⟨rfl, rfl⟩
theorem drop_no {w : World} {v : Value} (h : NoM w v) (id : Int) : Calls Try.prog 11 #[v, .int .i64 id] w fun e w' => e = .returned (.int .i64 1) ∧ w = w' := by
  have H := Lib.hid h
  clear h
  go_enter Try.func11, Try.ntmps11
  go_wp2_with fail
  refine (known_no H.out).mono ?_
  rintro e _ ⟨rfl, rfl⟩
  go_wp2_with fail
  go_ret
  exact ⟨rfl, rfl⟩
theorem back_no {w : World} {v : Value} (h : NoM w v) (id : Int) : Calls Try.prog 12 #[v, .int .i64 id] w fun e w' => e = .returned (.int .i64 1) ∧ w = w' := by
  have H := Lib.hid h
  clear h
  go_enter Try.func12, Try.ntmps12
  go_wp2_with fail
  refine (known_no H.out).mono ?_
  rintro e _ ⟨rfl, rfl⟩
  go_wp2_with fail
  go_ret
  exact ⟨rfl, rfl⟩
theorem items_no {w : World} {v : Value} (h : NoM w v) : Calls Try.prog 14 #[v] w fun e w' => e = .returned (.slice none 0 0) ∧ w = w' := by
  have H := Lib.hid h
  clear h
  go_enter Try.func14, Try.ntmps14
  go_wp2_with fail
  refine (known_no H.out).mono ?_
  rintro e _ ⟨rfl, rfl⟩
  go_wp2_with fail
  go_ret
  exact ⟨rfl, rfl⟩
set_option maxHeartbeats 1000000 in
theorem sorted_nil (w : World) :
    Calls Try.prog 24 #[.func (.func 28) #[] #[.pointer (some ⟨w.heap.size, 0, none⟩)]] (w.alloc (.cells #[.map none] 32)) fun e w' => e = .returned (.slice none 0 0) ∧ Below w.heap.size w w' := by
  refine (callsIn_wide (n := 5)).1 ?_
  have hseq : SeqGives Fence.wide 2 Try.prog 28 #[.pointer (some ⟨w.heap.size, 0, none⟩)] encZ (fun ss : List Int => ss = []) 0 (w.alloc (.cells #[.map none] 32)) :=
    AnyZI.keys_gives_nil (ρ := keysA_ren) { keysA with } Fence.wide _ trivial rfl w.heap.size _ (by simp) (by simp)
  have cS := AnyZI.sorted_in sortedA Fence.wide 5 trivial trivial trivial trivial rfl (by omega) (sortsA _) (enters_of Try.func27 (by kernel_rfl) rfl) 28 #[.pointer (some ⟨w.heap.size, 0, none⟩)] trivial (enters_of Try.func28 (by kernel_rfl) rfl) _ 0 (Nat.zero_le _) (by omega) _ hseq
  change CallsIn _ _ Try.prog 24 _ _ _ at cS
  refine cS.mono ?_
  rintro e w' ⟨v, ss, rfl, rfl, hrow, hnil, hb⟩
  obtain rfl : v = .slice none 0 0 := hnil.2 rfl
  exact ⟨rfl, ((Below.refl _ w).alloc (Nat.le_refl _) _).trans (hb.mono (by simp))⟩
theorem ids_no {w : World} {v : Value} (h : NoM w v) : Calls Try.prog 13 #[v] w fun e w' => e = .returned (.slice none 0 0) ∧ Below w.heap.size w w' := by
  rcases h with rfl | ⟨p, rfl, hp⟩
  · exact (ids_nil w).mono fun e w' h => ⟨h.1, h.2 ▸ Below.refl _ _⟩
  · have cm : w.cell? ⟨p, 17409, none⟩ = some (.map none) := block_cell hp 17409 _ (by rw [List.getElem?_toArray]; exact mxL_v _ _ _)
    clear hp
    go_enter Try.func13, Try.ntmps13
    go_wp2_with fail
    refine (keys_c none w).mono ?_
    rintro e _ ⟨rfl, rfl⟩
    go_wp2_with fail
    refine (sorted_nil w).mono ?_
    rintro e w' ⟨rfl, hb⟩
    have HB := Lib.hid hb
    clear hb
    go_wp2_with fail
    go_ret
    exact ⟨rfl, HB.out⟩
def kindsSl : List IntKind := List.replicate 32 .u8 ++ [.i64, .i64]
theorem leafsSl : leafs Try.prog 5 25 = some kindsSl := by kernel_rfl
theorem keySl : Try.prog.keyTypeAt 5 25 = true := by kernel_rfl
theorem eqgSl : Try.prog.eqGuardType Try.prog.depth 25 = false := by kernel_rfl
theorem fitsSl {k : List Int} {o m : Int} (hk : KeyOk 32 k) (h1 : (Lit.int .i64 o).wf = true) (h2 : (Lit.int .i64 m).wf = true) : Fits (slC k o m) kindsSl :=
  Fits.join (fits_u8l hk) ⟨⟨_, rfl, h1⟩, ⟨_, rfl, h2⟩, trivial⟩
theorem slc_wf (s : Slc) : (Lit.int .i64 s.1.o).wf = true ∧ (Lit.int .i64 s.1.m).wf = true := ⟨wf_i64 (by have := s.2.o; omega), wf_i64 (by have := s.2.m; omega)⟩
theorem fitsC (a : Slc) : Fits (slcC a) kindsSl := fitsSl a.2.key (slc_wf a).1 (slc_wf a).2
theorem eqSl (a b : Slc) (w : World) : ∃ r : Bool, EqRun Try.prog 25 (slcC a).toArray (slcC b).toArray w r ∧ (r = true ↔ slcC a = slcC b) := by
  obtain ⟨r, hr, hiff⟩ := eql_fits (P := Try.prog) (t := 25) (m := 5) (d := 5) (by omega) keySl leafsSl (xs := (slcC a).toArray) (ys := (slcC b).toArray) (by simp [Value.formed, Try.underlying25, lenC]; kernel_rfl) (by simp [Value.formed, Try.underlying25, lenC]; kernel_rfl) (by simpa using fitsC a) (by simpa using fitsC b) w
  exact ⟨r, ⟨hr⟩, hiff.trans (by simp)⟩
theorem eqrSl (a : Slc) (w : World) : EqRun Try.prog 25 (slcC a).toArray (slcC a).toArray w true := by
  obtain ⟨r, hr, h⟩ := eqSl a a w
  rwa [h.2 rfl] at hr
end Go.Proofs.Ytodhaaaodmcplaa
