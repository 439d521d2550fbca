/- The chapter's examples (layer 22). -/
import Derived.Test.YtnindkpgmiafnaaIg
namespace Go.Proofs.Ytnindkpgmiafnaa
open Go.RowKit Go.Maps Go.WideMaps
theorem look_add {R : List Ent} {k : List Int} {p : Pl} (hr : Rise R) (hk : KeyOk 32 k) (hm : mayB p = true) (hn : lookR k R = none) (y : List Int) : lookR y (addR R k p) = if y = k then some p else lookR y R := by
  unfold addR
  rw [if_pos ⟨hm, hn⟩, look_ins hr (by rw [mkE_k hk hm]; exact hn), mkE_k hk hm, mkE_p hk hm]
theorem add_in {R : List Ent} {k : List Int} {p : Pl} (hm : mayB p = true) (h : (lookR k R).isSome = true) : addE R k p = 7 ∧ addR R k p = R := by
  unfold addE addR
  rw [if_neg (by rw [hm]; simp), if_pos h, if_neg (fun hx => by rw [hx.2] at h; cases h)]
  exact ⟨rfl, rfl⟩
theorem add_new {R : List Ent} {k : List Int} {p : Pl} (hm : mayB p = true) (h : lookR k R = none) : addE R k p = 0 ∧ (addR R k p).length = R.length + 1 := by
  unfold addE addR
  rw [if_neg (by rw [hm]; simp), if_neg (by rw [h]; simp), if_pos ⟨hm, h⟩, ins_len]
  exact ⟨rfl, rfl⟩
theorem want_no {R : List Ent} {k : List Int} {q : Pl} {x : Int} (h : lookR k R = some q) (hx : ¬ (-q.r ≤ x ∧ x ≤ 2147483647 - q.r)) : wantE R k x = 2 ∧ wantR R k x = R := by
  unfold wantE wantR
  rw [h]
  exact ⟨if_neg hx, if_neg hx⟩
theorem want_set {R : List Ent} {k : List Int} {q : Pl} {x : Int} (hk : KeyOk 32 k) (h : lookR k R = some q) (hx : -q.r ≤ x ∧ x ≤ 2147483647 - q.r) (hz : q.r + x ≠ 0) : wantE R k x = 0 ∧ (wantR R k x).length = R.length ∧ ∀ y, lookR y (wantR R k x) = if y = k then some { q with r := q.r + x } else lookR y R := by
  have hm := may_want (look_may h) hx
  unfold wantE wantR
  rw [h]
  dsimp only
  rw [if_pos hx, if_pos hx, if_neg hz]
  refine ⟨rfl, set_len _ _, fun y => ?_⟩
  rw [look_set y (by rw [mkE_k hk hm, h]; rfl), mkE_k hk hm, mkE_p hk hm]
theorem want_del {R : List Ent} {k : List Int} {q : Pl} {x : Int} (hr : Rise R) (h : lookR k R = some q) (hx : -q.r ≤ x ∧ x ≤ 2147483647 - q.r) (hz : q.r + x = 0) : wantE R k x = 0 ∧ (wantR R k x).length + 1 = R.length ∧ ∀ y, lookR y (wantR R k x) = if y = k then none else lookR y R := by
  unfold wantE wantR
  rw [h]
  dsimp only
  rw [if_pos hx, if_pos hx, if_pos hz]
  exact ⟨rfl, del_len hr (by rw [h]; rfl), fun y => look_del _ _ _⟩
def k7 : List Int := 7 :: List.replicate 31 0
theorem k7_ok : KeyOk 32 k7 := ⟨rfl, fun x hx => by
  rcases List.mem_cons.1 hx with rfl | hx
  · omega
  · rw [List.eq_of_mem_replicate hx]; omega⟩
def p7 : Pl := ⟨5, 2, 1, 1⟩
theorem p7_may : mayB p7 = true := by decide
theorem buildK7 (u : World) : BuildRun Try.prog 26 #[(0, .int .u8 7)] u (.agg (u8l k7).toArray) := ⟨by kernel_rfl⟩
/-- What the examples come to. -/
structure Ex (R1 R2 R3 : List Ent) : Prop where
  a1 : addE [] k7 p7 = 0
  r1 : addR [] k7 p7 = R1
  a2 : addE R1 k7 p7 = 7
  r2 : addR R1 k7 p7 = R1
  a3 : wantE R1 k7 2 = 0
  r3 : wantR R1 k7 2 = R2
  l2 : lookR k7 R2 = some ⟨5, 2, 1, 3⟩
  a4 : wantE R2 k7 (-4) = 2
  r4 : wantR R2 k7 (-4) = R2
  a5 : wantE R2 k7 (-3) = 0
  r5 : wantR R2 k7 (-3) = R3
  l3 : lookR k7 R3 = none
  n1 : R1.length = 1
  n2 : R2.length = 1
  n3 : R3.length = 0
theorem examples : ∃ R1 R2 R3, Ex R1 R2 R3 := by
  have hr0 : Rise [] := List.Pairwise.nil
  have h1 := add_new (R := []) (k := k7) p7_may rfl
  have l1 := look_add (R := []) hr0 k7_ok p7_may rfl k7
  rw [if_pos rfl] at l1
  have h2 := add_in (R := addR [] k7 p7) p7_may (by rw [l1]; rfl)
  have h3 := want_set (x := 2) k7_ok l1 ⟨by decide, by decide⟩ (by decide)
  have l2 := h3.2.2 k7
  rw [if_pos rfl] at l2
  have hr2 : Rise (wantR (addR [] k7 p7) k7 2) := rise_want (rise_add hr0 k7_ok)
  have h4 := want_no (x := -4) l2 (by decide)
  have h5 := want_del (x := -3) hr2 l2 ⟨by decide, by decide⟩ (by decide)
  have l3 := h5.2.2 k7
  rw [if_pos rfl] at l3
  exact ⟨_, _, _, h1.1, rfl, h2.1, h2.2, h3.1, rfl, l2, h4.1, h4.2, h5.1, rfl, l3, h1.2, h3.2.1.trans h1.2, by have h8 := h5.2.1; have h6 := h3.2.1; have h7 := h1.2; simp only [List.length_nil] at h7; omega⟩

set_option maxRecDepth 100000 in
set_option maxHeartbeats 4000000 in
theorem awake7 (w : World) : Calls Try.prog 7 #[] w fun e w' => e = .returned (.bool true) ∧ Below w.heap.size w w' := by
  obtain ⟨R1, R2, R3, hex⟩ := examples
  have EX := Lib.hid hex
  clear hex
  have HKL : Hid ((Try.prog.info? 26).map (·.size) = some (u8l k7).length) := Lib.hid infoKey
  have HZK : Hid (zK.length = (u8l k7).length) := Lib.hid rfl
  have HK1 := Lib.hid (u8l_one k7)
  go_enter Try.func7, Try.ntmps7
  go_wp2_with fail
  refine (new8 w).mono ?_
  rintro e w1 ⟨p, B, rfl, hi, hb, hp, hB⟩
  have HX := Lib.hid hi
  have B1 := Lib.hid hb
  have HPB := Lib.hid (And.intro hp hB)
  have HBL := Lib.hid hi.lt.2
  clear hi hb hp hB
  obtain ⟨b2, hb2⟩ : ∃ z, z = w1.heap.size := ⟨_, rfl⟩
  go_upto_region 3 with (first | (refine wpList_buildG rfl 26 [(0, .const (.int .u8 7))] rfl [(0, .int .u8 7)] rfl _ (buildK7 _) ?_) | (refine wpList_boxed rfl 26 2 rfl rfl zK (zeroVK _) (.tmp 14) rfl rfl rfl (u8l k7) rfl rfl HKL.out HZK.out HK1.out ?_; intro w2 hb12 hh2 hs2))
  rw [← hb2] at hh2
  have HS2 := Lib.hid hs2
  clear hs2
  obtain ⟨b3, hb3⟩ : ∃ z, z = w2.heap.size := ⟨_, rfl⟩
  go_upto_region 4 with fail
  obtain ⟨w3, hw3⟩ : ∃ z, z = w2.alloc (.cells #[.int .i64 5, .int .i64 2, .int .i64 1, .int .i64 1] 28) := ⟨_, rfl⟩
  have H2 : Hid (w3.heap[b2]? = some (.cells (u8l k7).toArray 26 (0, 0))) := Lib.hid (by rw [hw3]; exact heap_old hh2)
  have H3 : Hid (w3.heap[b3]? = some (.cells (plc p7).toArray 28 (0, 0))) := Lib.hid (by rw [hw3]; exact heap_new_at _ hb3)
  have B13 : Hid (Below w1.heap.size w1 w3) := Lib.hid (by rw [hw3]; exact hb12.alloc hb12.size _)
  have B3 : Hid (Below w.heap.size w w3) := Lib.hid (B1.out.trans (B13.out.mono B1.out.size))
  have HX := Lib.hid (HX.out.below B13.out)
  have HBB : Hid (B < b2 ∧ B < b3 ∧ w.heap.size ≤ B) := Lib.hid ⟨by rw [hb2]; exact HBL.out, by rw [hb3, HS2.out]; exact Nat.lt_succ_of_lt HBL.out, HPB.out.2⟩
  rw [← hw3, ← hb3, ← hb2]
  clear hw3 hb2 hb3 hh2 hb12
  have HS : Hid (∀ W, Keeps (fun z => z = B) w3 W → (fun w' : World => w'.rangeAt b2 0 (u8l k7) ∧ (w'.cell? ⟨b3, 0, none⟩ = some (.int .i64 5) ∧ w'.cell? ⟨b3, 1, none⟩ = some (.int .i64 2) ∧ w'.cell? ⟨b3, 2, none⟩ = some (.int .i64 1) ∧ w'.cell? ⟨b3, 3, none⟩ = some (.int .i64 1))) W) := Lib.hid fun W h => ⟨key_range (h.heap H2.out (by have := HBB.out; omega)), pl_cells (q := p7) (h.heap H3.out (by have := HBB.out; omega))⟩
  have K3 : Hid (Keeps (fun z => z = B) w3 w3.drew) := Lib.hid (Keeps.drew _ _)
  refine wp_region_held_drew (S := (fun w' : World => w'.rangeAt b2 0 (u8l k7) ∧ (w'.cell? ⟨b3, 0, none⟩ = some (.int .i64 5) ∧ w'.cell? ⟨b3, 1, none⟩ = some (.int .i64 2) ∧ w'.cell? ⟨b3, 2, none⟩ = some (.int .i64 1) ∧ w'.cell? ⟨b3, 3, none⟩ = some (.int .i64 1)))) follows (HS.out _ K3.out) (fun hHeld => ?_)
  refine wpAnyH_take (i := 0) (v := ?_) (by simp only [List.getElem?_toArray, List.getElem?_cons_zero]; rfl) (by kernel_rfl) (by kernel_rfl) (by kernel_rfl) (by intro _ _ _ h; exact h) (Or.inl ⟨by rfl, ?_⟩) hHeld ?_
  rotate_left
  · (intro w hSw; (try dsimp only at hSw); go_simp; try with_reducible rfl)
  try simp only [Act.put, List.setIfInBounds_toArray, List.set_cons_zero, List.set_cons_succ]
  refine wpAnyH_take (i := 1) (v := _) (by simp only [List.getElem?_toArray, List.getElem?_cons_zero, List.getElem?_cons_succ]; rfl) (by kernel_rfl) (by kernel_rfl) (by kernel_rfl) (by intro _ _ _ h; exact h) (yieldsIf_load_mid (by rfl) 26 (.tmp 2) rfl b2 0 rfl (u8l k7) _ (fun _ h => h.1) Try.underlying26 rfl HKL.out) hHeld ?_
  try simp only [Act.put, List.setIfInBounds_toArray, List.set_cons_zero, List.set_cons_succ]
  refine wpAnyH_take (i := 2) (v := ?_) (by simp only [List.getElem?_toArray, List.getElem?_cons_zero, List.getElem?_cons_succ]; rfl) (by kernel_rfl) (by kernel_rfl) (by kernel_rfl) (by intro _ _ _ h; exact h) (Or.inl ⟨by rfl, ?_⟩) hHeld ?_
  rotate_left
  · (intro w hSw; (try dsimp only at hSw); go_simp; try with_reducible rfl)
  try simp only [Act.put, List.setIfInBounds_toArray, List.set_cons_zero, List.set_cons_succ]
  refine wpAnyH_take (i := 4) (v := ?_) (by simp only [List.getElem?_toArray, List.getElem?_cons_zero, List.getElem?_cons_succ]; rfl) (by kernel_rfl) (by kernel_rfl) (by kernel_rfl) (by intro _ _ _ h; exact h) (Or.inl ⟨by rfl, ?_⟩) hHeld ?_
  rotate_left
  · (intro w hSw; (try dsimp only at hSw); go_simp; try with_reducible rfl)
  try simp only [Act.put, List.setIfInBounds_toArray, List.set_cons_zero, List.set_cons_succ]
  refine wpAnyH_take (i := 5) (v := _) (by simp only [List.getElem?_toArray, List.getElem?_cons_zero, List.getElem?_cons_succ]; rfl) (by kernel_rfl) (by kernel_rfl) (by kernel_rfl) (by intro _ _ _ h; exact h) (yieldsIf_load_mid (by rfl) 26 (.tmp 2) rfl b2 0 rfl (u8l k7) _ (fun _ h => h.1) Try.underlying26 rfl HKL.out) hHeld ?_
  try simp only [Act.put, List.setIfInBounds_toArray, List.set_cons_zero, List.set_cons_succ]
  refine wpAnyH_take (i := 6) (v := ?_) (by simp only [List.getElem?_toArray, List.getElem?_cons_zero, List.getElem?_cons_succ]; rfl) (by kernel_rfl) (by kernel_rfl) (by kernel_rfl) (by intro _ _ _ h; exact h) (Or.inl ⟨by rfl, ?_⟩) hHeld ?_
  rotate_left
  · (intro w hSw; (try dsimp only at hSw); go_simp; try with_reducible rfl)
  try simp only [Act.put, List.setIfInBounds_toArray, List.set_cons_zero, List.set_cons_succ]
  refine wpAnyH_take (i := 8) (v := ?_) (by simp only [List.getElem?_toArray, List.getElem?_cons_zero, List.getElem?_cons_succ]; rfl) (by kernel_rfl) (by kernel_rfl) (by kernel_rfl) (by intro _ _ _ h; exact h) (Or.inl ⟨by rfl, ?_⟩) hHeld ?_
  rotate_left
  · (intro w hSw; (try dsimp only at hSw); go_simp; try with_reducible rfl)
  try simp only [Act.put, List.setIfInBounds_toArray, List.set_cons_zero, List.set_cons_succ]
  refine wpAnyH_take (i := 9) (v := _) (by simp only [List.getElem?_toArray, List.getElem?_cons_zero, List.getElem?_cons_succ]; rfl) (by kernel_rfl) (by kernel_rfl) (by kernel_rfl) (by intro _ _ _ h; exact h) (yieldsIf_load_mid (by rfl) 26 (.tmp 2) rfl b2 0 rfl (u8l k7) _ (fun _ h => h.1) Try.underlying26 rfl HKL.out) hHeld ?_
  try simp only [Act.put, List.setIfInBounds_toArray, List.set_cons_zero, List.set_cons_succ]
  refine wpAnyH_ready (rs := [3]) (by kernel_rfl) (by simp) ?_
  refine AllReadyH.cons (by simp only [List.getElem?_toArray, List.getElem?_cons_zero, List.getElem?_cons_succ]; rfl) (fun K hK => ?_) AllReadyH.nil
  rw [if_pos (by rfl)]
  go_simp
  refine (add10 p B [] k7 p7 w3.drew k7_ok (HX.out.drewN 1) (by simp)).mono ?_
  rw [EX.out.a1, EX.out.r1]
  rintro e w4 ⟨rfl, hi, hk⟩
  have HX := Lib.hid hi
  have K4 := Lib.hid (K3.out.trans hk (fun _ _ h => h))
  clear hi hk
  refine hK.out _ _ (HS.out _ K4.out) (fun hHeld => ?_)
  clear hK K
  try simp only [Act.put, List.setIfInBounds_toArray, List.set_cons_zero, List.set_cons_succ]
  refine wpAnyH_ready (rs := [7]) (by kernel_rfl) (by simp) ?_
  refine AllReadyH.cons (by simp only [List.getElem?_toArray, List.getElem?_cons_zero, List.getElem?_cons_succ]; rfl) (fun K hK => ?_) AllReadyH.nil
  rw [if_pos (by rfl)]
  go_simp
  refine (add10 p B R1 k7 p7 w4 k7_ok HX.out (by have := EX.out.n1; omega)).mono ?_
  rw [EX.out.a2, EX.out.r2]
  rintro e w5 ⟨rfl, hi, hk⟩
  have HX := Lib.hid hi
  have K5 := Lib.hid (K4.out.trans hk (fun _ _ h => h))
  clear hi hk
  refine hK.out _ _ (HS.out _ K5.out) (fun hHeld => ?_)
  clear hK K
  try simp only [Act.put, List.setIfInBounds_toArray, List.set_cons_zero, List.set_cons_succ]
  refine wpAnyH_ready (rs := [10]) (by kernel_rfl) (by simp) ?_
  refine AllReadyH.cons (by simp only [List.getElem?_toArray, List.getElem?_cons_zero, List.getElem?_cons_succ]; rfl) (fun K hK => ?_) AllReadyH.nil
  rw [if_pos (by rfl)]
  go_simp
  refine (want17 p B R1 k7 2 w5 k7_ok HX.out (by have := EX.out.n1; omega) (by omega)).mono ?_
  rw [EX.out.a3, EX.out.r3]
  rintro e w6 ⟨rfl, hi, hk⟩
  have HX := Lib.hid hi
  have K6 := Lib.hid (K5.out.trans hk (fun _ _ h => h))
  clear hi hk
  refine hK.out _ _ (HS.out _ K6.out) (fun hHeld => ?_)
  clear hK K
  try simp only [Act.put, List.setIfInBounds_toArray, List.set_cons_zero, List.set_cons_succ]
  refine wpAnyH_take (i := 11) (v := ?_) (by simp only [List.getElem?_toArray, List.getElem?_cons_zero, List.getElem?_cons_succ]; rfl) (by kernel_rfl) (by kernel_rfl) (by kernel_rfl) (by intro _ _ _ h; exact h) (Or.inl ⟨by rfl, ?_⟩) hHeld ?_
  rotate_left
  · (intro w hSw; (try dsimp only at hSw); go_simp; try with_reducible rfl)
  try simp only [Act.put, List.setIfInBounds_toArray, List.set_cons_zero, List.set_cons_succ]
  refine wpAnyH_take (i := 12) (v := ?_) (by simp only [List.getElem?_toArray, List.getElem?_cons_zero, List.getElem?_cons_succ]; rfl) (by kernel_rfl) (by kernel_rfl) (by kernel_rfl) (by intro _ _ _ h; exact h) (Or.inl ⟨by rfl, ?_⟩) hHeld ?_
  rotate_left
  · (intro w hSw; (try dsimp only at hSw); go_simp; try with_reducible rfl)
  try simp only [Act.put, List.setIfInBounds_toArray, List.set_cons_zero, List.set_cons_succ]
  refine wpAnyH_take (i := 13) (v := ?_) (by simp only [List.getElem?_toArray, List.getElem?_cons_zero, List.getElem?_cons_succ]; rfl) (by kernel_rfl) (by kernel_rfl) (by kernel_rfl) (by intro _ _ _ h; exact h) (Or.inl ⟨by rfl, ?_⟩) hHeld ?_
  rotate_left
  · (intro w hSw; (try dsimp only at hSw); go_simp; try with_reducible rfl)
  try simp only [Act.put, List.setIfInBounds_toArray, List.set_cons_zero, List.set_cons_succ]
  refine wpAnyH_done (by kernel_rfl) ?_ _
  clear hHeld
  have HKW := Lib.hid (HS.out _ K6.out).1
  go_wp2_with (refine wpList_load_midG rfl 26 (.tmp 2) rfl b2 0 rfl (u8l k7) _ HKW.out Try.underlying26 rfl HKL.out ?_)
  refine (get19 p B R2 k7 w6 k7_ok HX.out (by have := EX.out.n2; omega)).mono ?_
  rw [EX.out.l2]
  rintro e w7 ⟨rfl, hb⟩
  have HX := Lib.hid (HX.out.below hb)
  have K7 := Lib.hid (K6.out.trans (Keeps.fresh (S := fun z => z = B) hb) (fun _ _ h => h))
  clear hb
  go_upto_region 6 with fail
  obtain ⟨b7, hb7⟩ : ∃ z, z = w7.heap.size := ⟨_, rfl⟩
  obtain ⟨w8, hw8⟩ : ∃ z, z = w7.alloc (.cells #[.int .i64 5, .int .i64 2, .int .i64 1, .int .i64 3] 28) := ⟨_, rfl⟩
  have BA : Hid (Below w7.heap.size w7 w8) := Lib.hid (by rw [hw8]; exact (Below.refl _ _).alloc (Nat.le_refl _) _)
  have H7 : Hid (w8.heap[b7]? = some (.cells (plc ⟨5, 2, 1, 3⟩).toArray 28 (0, 0))) := Lib.hid (by rw [hw8]; exact heap_new_at _ hb7)
  have HX := Lib.hid (HX.out.below BA.out)
  have HB7 : Hid (¬ b7 = B) := Lib.hid (fun e => by have h3 := heap_lt H2.out; have := HBB.out.1; have := K7.out.size; omega)
  have K8 := Lib.hid (K7.out.trans (Keeps.fresh (S := fun z => z = B) BA.out) (fun _ _ h => h))
  rw [← hw8, ← hb7]
  clear hw8 hb7 HKW
  have K80 : Hid (Keeps (fun z => z = B) w8 w8.drew) := Lib.hid (Keeps.drew _ _)
  have HSR : Hid (∀ W, Keeps (fun z => z = B) w8 W → (fun w' : World => w'.rangeAt b2 0 (u8l k7) ∧ (w'.cell? ⟨b3, 0, none⟩ = some (.int .i64 5) ∧ w'.cell? ⟨b3, 1, none⟩ = some (.int .i64 2) ∧ w'.cell? ⟨b3, 2, none⟩ = some (.int .i64 1) ∧ w'.cell? ⟨b3, 3, none⟩ = some (.int .i64 1))) W) := Lib.hid fun W h => HS.out W (K8.out.trans h (fun _ _ h => h))
  refine wp_region_held_drew (S := (fun w' : World => w'.rangeAt b2 0 (u8l k7) ∧ (w'.cell? ⟨b3, 0, none⟩ = some (.int .i64 5) ∧ w'.cell? ⟨b3, 1, none⟩ = some (.int .i64 2) ∧ w'.cell? ⟨b3, 2, none⟩ = some (.int .i64 1) ∧ w'.cell? ⟨b3, 3, none⟩ = some (.int .i64 1)))) follows (HSR.out _ K80.out) (fun hHeld => ?_)
  refine wpAnyH_take (i := 0) (v := ?_) (by simp only [List.getElem?_toArray, List.getElem?_cons_zero]; rfl) (by kernel_rfl) (by kernel_rfl) (by kernel_rfl) (by intro _ _ _ h; exact h) (Or.inl ⟨by rfl, ?_⟩) hHeld ?_
  rotate_left
  · (intro w hSw; (try dsimp only at hSw); go_simp; try with_reducible rfl)
  try simp only [Act.put, List.setIfInBounds_toArray, List.set_cons_zero, List.set_cons_succ]
  refine wpAnyH_take (i := 1) (v := _) (by simp only [List.getElem?_toArray, List.getElem?_cons_zero, List.getElem?_cons_succ]; rfl) (by kernel_rfl) (by kernel_rfl) (by kernel_rfl) (by intro _ _ _ h; exact h) (yieldsIf_load_mid (by rfl) 26 (.tmp 2) rfl b2 0 rfl (u8l k7) _ (fun _ h => h.1) Try.underlying26 rfl HKL.out) hHeld ?_
  try simp only [Act.put, List.setIfInBounds_toArray, List.set_cons_zero, List.set_cons_succ]
  refine wpAnyH_take (i := 3) (v := ?_) (by simp only [List.getElem?_toArray, List.getElem?_cons_zero, List.getElem?_cons_succ]; rfl) (by kernel_rfl) (by kernel_rfl) (by kernel_rfl) (by intro _ _ _ h; exact h) (Or.inl ⟨by rfl, ?_⟩) hHeld ?_
  rotate_left
  · (intro w hSw; (try dsimp only at hSw); go_simp; try with_reducible rfl)
  try simp only [Act.put, List.setIfInBounds_toArray, List.set_cons_zero, List.set_cons_succ]
  refine wpAnyH_take (i := 4) (v := _) (by simp only [List.getElem?_toArray, List.getElem?_cons_zero, List.getElem?_cons_succ]; rfl) (by kernel_rfl) (by kernel_rfl) (by kernel_rfl) (by intro _ _ _ h; exact h) (yieldsIf_load_mid (by rfl) 26 (.tmp 2) rfl b2 0 rfl (u8l k7) _ (fun _ h => h.1) Try.underlying26 rfl HKL.out) hHeld ?_
  try simp only [Act.put, List.setIfInBounds_toArray, List.set_cons_zero, List.set_cons_succ]
  refine wpAnyH_ready (rs := [2]) (by kernel_rfl) (by simp) ?_
  refine AllReadyH.cons (by simp only [List.getElem?_toArray, List.getElem?_cons_zero, List.getElem?_cons_succ]; rfl) (fun K hK => ?_) AllReadyH.nil
  rw [if_pos (by rfl)]
  go_simp
  refine (want17 p B R2 k7 (-4) w8.drew k7_ok (HX.out.drewN 1) (by have := EX.out.n2; omega) (by omega)).mono ?_
  rw [EX.out.a4, EX.out.r4]
  rintro e w9 ⟨rfl, hi, hk⟩
  have HX := Lib.hid hi
  have K9 := Lib.hid (K80.out.trans hk (fun _ _ h => h))
  clear hi hk
  refine hK.out _ _ (HSR.out _ K9.out) (fun hHeld => ?_)
  clear hK K
  try simp only [Act.put, List.setIfInBounds_toArray, List.set_cons_zero, List.set_cons_succ]
  refine wpAnyH_ready (rs := [5]) (by kernel_rfl) (by simp) ?_
  refine AllReadyH.cons (by simp only [List.getElem?_toArray, List.getElem?_cons_zero, List.getElem?_cons_succ]; rfl) (fun K hK => ?_) AllReadyH.nil
  rw [if_pos (by rfl)]
  go_simp
  refine (want17 p B R2 k7 (-3) w9 k7_ok HX.out (by have := EX.out.n2; omega) (by omega)).mono ?_
  rw [EX.out.a5, EX.out.r5]
  rintro e w10 ⟨rfl, hi, hk⟩
  have HX := Lib.hid hi
  have K10 := Lib.hid (K9.out.trans hk (fun _ _ h => h))
  clear hi hk
  refine hK.out _ _ (HSR.out _ K10.out) (fun hHeld => ?_)
  clear hK K
  try simp only [Act.put, List.setIfInBounds_toArray, List.set_cons_zero, List.set_cons_succ]
  refine wpAnyH_take (i := 6) (v := ?_) (by simp only [List.getElem?_toArray, List.getElem?_cons_zero, List.getElem?_cons_succ]; rfl) (by kernel_rfl) (by kernel_rfl) (by kernel_rfl) (by intro _ _ _ h; exact h) (Or.inl ⟨by rfl, ?_⟩) hHeld ?_
  rotate_left
  · (intro w hSw; (try dsimp only at hSw); go_simp; try with_reducible rfl)
  try simp only [Act.put, List.setIfInBounds_toArray, List.set_cons_zero, List.set_cons_succ]
  refine wpAnyH_take (i := 7) (v := ?_) (by simp only [List.getElem?_toArray, List.getElem?_cons_zero, List.getElem?_cons_succ]; rfl) (by kernel_rfl) (by kernel_rfl) (by kernel_rfl) (by intro _ _ _ h; exact h) (Or.inl ⟨by rfl, ?_⟩) hHeld ?_
  rotate_left
  · (intro w hSw; (try dsimp only at hSw); go_simp; try with_reducible rfl)
  try simp only [Act.put, List.setIfInBounds_toArray, List.set_cons_zero, List.set_cons_succ]
  refine wpAnyH_done (by kernel_rfl) ?_ _
  clear hHeld
  have HKW := Lib.hid (HSR.out _ K10.out).1
  go_wp2_with (refine wpList_load_midG rfl 26 (.tmp 2) rfl b2 0 rfl (u8l k7) _ HKW.out Try.underlying26 rfl HKL.out ?_)
  refine (get19 p B R3 k7 w10 k7_ok HX.out (by have := EX.out.n3; omega)).mono ?_
  rw [EX.out.l3]
  rintro e w11 ⟨rfl, hb⟩
  have HX := Lib.hid (HX.out.below hb)
  have K11 := Lib.hid (K10.out.trans (Keeps.fresh (S := fun z => z = B) hb) (fun _ _ h => h))
  clear hb
  obtain ⟨d0, d1, d2, d3⟩ := pl_cells (K11.out.heap H7.out HB7.out)
  have hl7 := heap_lt (K11.out.heap H7.out HB7.out)
  have HLN : Hid (∀ W, Below w11.heap.size w11 W → Calls Try.prog 12 #[.pointer (some ⟨p, 0, none⟩)] W fun e W' => e = .returned (.int .i64 0) ∧ W = W') := Lib.hid fun W h => by have := len12 p B R3 W (HX.out.below h); rwa [EX.out.n3] at this
  go_wp2_with fail
  refine (HLN.out _ ((Below.refl _ _).alloc (Nat.le_refl _) _)).mono ?_
  rintro e _ ⟨rfl, rfl⟩
  go_wp2_with fail
  go_ret
  refine ⟨rfl, ?_⟩
  have hf := HBB.out.2.2
  have h1 := (K8.out.trans K11.out (fun _ _ h => h)).below (B := w.heap.size) (fun z hz => by rw [hz]; exact hf) B3.out.size
  exact (B3.out.trans h1).alloc (Nat.le_trans B3.out.size h1.size) _
end Go.Proofs.Ytnindkpgmiafnaa
