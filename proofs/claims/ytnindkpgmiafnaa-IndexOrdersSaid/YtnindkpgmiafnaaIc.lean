/- Layer 22 (index): the program's Add, Get, Len, Move and Want. -/
import Derived.Test.YtnindkpgmiafnaaIb
import Derived.BigQuiet
namespace Go.Proofs.Ytnindkpgmiafnaa
open Go.RowKit Go.Maps Go.WideMaps
section
variable {P : Program}
theorem yields_look {ops : Array Oper} {S : World → Prop} {op : Oper} {a : Act} (hw : Region.wanted op (yielded ops a.tmps) = true) (t : TypeId) (m x : Operand) (cm : Bool) (ho : op.op = .lookup t m x cm) (u v : Value) (hm : a.eval m = u) (hx : a.eval x = v) (r : Value)
    (hr : ∀ w, S w → (Instr.lookup t u v cm).run P w = .ok r w) : YieldsIf P ops S op r a :=
  .inl ⟨hw, fun w hs => by
    unfold execOp
    simp only [ho, hm, hx, Sem.run_bind, hr w hs, Result.andThen_ok, Sem.run_pure]⟩
end
theorem Keeps.from {S : Nat → Prop} {a b c : World} (h1 : Below a.heap.size a b) (h2 : Keeps S b c) : Keeps S a c := (Keeps.fresh (S := S) h1).trans h2 fun _ _ hi => hi
theorem pl_cells {w : World} {b : Nat} {q : Pl} {z : Nat × Nat} (h : w.heap[b]? = some (.cells (plc q).toArray 28 z)) :
    w.cell? ⟨b, 0, none⟩ = some (.int .i64 q.a) ∧ w.cell? ⟨b, 1, none⟩ = some (.int .i64 q.n) ∧ w.cell? ⟨b, 2, none⟩ = some (.int .i64 q.u) ∧ w.cell? ⟨b, 3, none⟩ = some (.int .i64 q.r) :=
  ⟨block_cell h 0 _ rfl, block_cell h 1 _ rfl, block_cell h 2 _ rfl, block_cell h 3 _ rfl⟩
theorem key_range {w : World} {b : Nat} {k : List Int} {z : Nat × Nat} (h : w.heap[b]? = some (.cells (u8l k).toArray 26 z)) : w.rangeAt b 0 (u8l k) := fun j v hj => by
  rw [Nat.zero_add]; exact block_cell h j v (by simpa using hj)
theorem u8l_kv (k : List Int) : Value.agg (u8l k).toArray = kv k := rfl
/-- A place is looked up. -/
theorem look_run {R : List Ent} {k : List Int} (hk : KeyOk 32 k) : ∃ (q : Pl) (is : Bool), is = (lookR k R).isSome ∧ (is = true → lookR k R = some q) ∧ (is = false → q = ⟨0, 0, 0, 0⟩) ∧ ∀ w p B, Ix w p B R → (Instr.lookup 54 (.map (some B)) (kv k) true).run Try.prog w = .ok (.tuple #[plv q, .bool is]) w := by
  cases hL : lookR k R with
  | none =>
    refine ⟨⟨0, 0, 0, 0⟩, false, rfl, (fun h => by cases h), fun _ => rfl, fun w p B h => ?_⟩
    have := h.map.look Try.underlying54 (zeroVPl w) (x := k) hk true
    rw [show valL R k = none by unfold valL; rw [hL]; rfl] at this
    exact this
  | some q =>
    refine ⟨q, true, rfl, fun _ => rfl, (fun h => by cases h), fun w p B h => ?_⟩
    have := h.map.look Try.underlying54 (zeroVPl w) (x := k) hk true
    rw [show valL R k = some (plv q) by unfold valL; rw [hL]; rfl] at this
    exact this
theorem val_ins {R : List Ent} {k : List Int} {q : Pl} (hr : Rise R) (hk : KeyOk 32 k) (hm : mayB q = true) (hn : lookR k R = none) (y : List Int) : (if y = k then some (plv q) else valL R y) = valL (insR (mkE k q) R) y := by
  unfold valL
  rw [look_ins hr (by rw [mkE_k hk hm]; exact hn), mkE_k hk hm, mkE_p hk hm]
  split <;> rfl
theorem val_set {R : List Ent} {k : List Int} {q : Pl} (hk : KeyOk 32 k) (hm : mayB q = true) (hn : (lookR k R).isSome = true) (y : List Int) : (if y = k then some (plv q) else valL R y) = valL (setR (mkE k q) R) y := by
  unfold valL
  rw [look_set y (by rw [mkE_k hk hm]; exact hn), mkE_k hk hm, mkE_p hk hm]
  split <;> rfl
theorem val_del {R : List Ent} {k : List Int} (y : List Int) : (if y = k then none else valL R y) = valL (delR k R) y := by
  unfold valL
  rw [look_del]
  split <;> rfl
theorem del_set {R : List Ent} {k : List Int} {q : Pl} (hk : KeyOk 32 k) (hm : mayB q = true) : delR k (setR (mkE k q) R) = delR k R := by
  have hkk := mkE_k hk hm
  unfold delR setR
  induction R with
  | nil => rfl
  | cons e R ih =>
    rw [List.map_cons]
    by_cases he : e.k = k
    · rw [List.filter_cons_of_neg (by simp [hkk, he]), List.filter_cons_of_neg (by simp [he])]; exact ih
    · rw [List.filter_cons_of_pos (by simp [hkk, he]), List.filter_cons_of_pos (by simp [he]), ih, if_neg (by rw [hkk]; exact he)]

set_option maxRecDepth 100000 in
set_option maxHeartbeats 4000000 in
theorem add10 (p B : Nat) (R : List Ent) (k : List Int) (q : Pl) (w : World) (hk : KeyOk 32 k) (h : Ix w p B R) (hn : R.length < 1000000000) :
    Calls Try.prog 10 #[.pointer (some ⟨p, 0, none⟩), kv k, plv q] w fun e w' => e = .returned (.int .i64 (addE R k q)) ∧ Ix w' p B (addR R k q) ∧ Keeps (fun x => x = B) w w' := by
  have HK := Lib.hid hk
  have HI := Lib.hid h
  have HN := Lib.hid hn
  obtain ⟨q0, is, his, hq1, hq0, hlk⟩ := look_run (R := R) hk
  have HIS := Lib.hid his
  have HQ1 := Lib.hid hq1
  have HQ0 := Lib.hid hq0
  have HLK := Lib.hid hlk
  have HKL : Hid ((Try.prog.info? 26).map (·.size) = some (u8l k).length) := Lib.hid (by rw [u8l_len, hk.len]; exact infoKey)
  change Calls Try.prog 10 #[.pointer (some ⟨p, 0, none⟩), .agg (u8l k).toArray, plv q] w _
  obtain ⟨kc, hkc⟩ : ∃ kc, kc = (u8l k).toArray := ⟨_, rfl⟩
  rw [← hkc]
  have HKC := Lib.hid hkc
  clear hkc hk h hn his hq1 hq0 hlk
  go_enter Try.func10, Try.ntmps10
  go_wp2_with fail
  obtain ⟨b4, hb4⟩ : ∃ b, b = w.heap.size := ⟨_, rfl⟩
  obtain ⟨w1, hw1⟩ : ∃ z, z = (w.alloc (.cells kc 26)).alloc (.cells #[.int .i64 q.a, .int .i64 q.n, .int .i64 q.u, .int .i64 q.r] 28) := ⟨_, rfl⟩
  have H4 : Hid (w1.heap[b4]? = some (.cells (u8l k).toArray 26 (0, 0))) := Lib.hid (by rw [hw1, hb4, HKC.out]; exact heap_old (heap_new w _))
  have H5 : Hid (w1.heap[b4 + 1]? = some (.cells (plc q).toArray 28 (0, 0))) := Lib.hid (by rw [hw1]; exact heap_new_at _ (by simp [hb4]))
  have B1 : Hid (Below w.heap.size w w1) := Lib.hid (by rw [hw1]; exact ((Below.refl _ _).alloc (Nat.le_refl _) _).alloc (by simp) _)
  have HPB : Hid (p < b4 ∧ B < b4) := Lib.hid (by rw [hb4]; exact HI.out.lt)
  have HI := Lib.hid (HI.out.below B1.out)
  rw [← hw1, ← hb4]
  clear hw1 hb4 HKC
  refine (there21 p B w1 HI.out.at0).mono ?_
  rintro e _ ⟨rfl, rfl⟩
  obtain ⟨c0, c1, c2, c3⟩ := pl_cells H5.out
  go_wp2_with fail
  refine (may22 q w1).mono ?_
  rintro e w2 ⟨rfl, hb2⟩
  have B2 := Lib.hid (B1.out.trans (hb2.mono B1.out.size))
  have HI := Lib.hid (HI.out.below hb2)
  have H4 := Lib.hid ((hb2.block _ (heap_lt H4.out)).trans H4.out)
  have H5 := Lib.hid ((hb2.block _ (heap_lt H5.out)).trans H5.out)
  clear hb2 c0 c1 c2 c3
  by_cases hm : mayB q = true
  rotate_left
  · have hm' : mayB q = false := by simpa using hm
    have HE : Hid (addE R k q = 2 ∧ addR R k q = R) := Lib.hid ⟨by unfold addE; rw [if_pos hm'], by unfold addR; rw [if_neg (fun h => hm h.1)]⟩
    rw [hm']
    clear hm hm'
    go_wp2_with fail
    go_ret
    exact ⟨by rw [HE.out.1]; rfl, by rw [HE.out.2]; exact HI.out, Keeps.fresh B2.out⟩
  have HM0 := Lib.hid hm
  rw [hm]
  clear hm
  go_wp2_with fail
  have HSF : Hid (∀ W, Below w2.heap.size w2 W → (fun w' : World => w'.cell? ⟨p, 0, none⟩ = some (.map (some B)) ∧ w'.rangeAt b4 0 (u8l k) ∧ Hid (Ix w' p B R)) W) := Lib.hid fun W h => ⟨(HI.out.below h).at0, key_range ((h.block b4 (heap_lt H4.out)).trans H4.out), Lib.hid (HI.out.below h)⟩
  have BD : Hid (Below w2.heap.size w2 w2.drew) := Lib.hid (below_drewN (Below.refl _ _) 1)
  refine wp_region_held_drew (S := (fun w' : World => w'.cell? ⟨p, 0, none⟩ = some (.map (some B)) ∧ w'.rangeAt b4 0 (u8l k) ∧ Hid (Ix w' p B R))) follows (HSF.out _ BD.out) (fun hHeld => ?_)
  refine wpAnyH_take (i := 0) (v := ?_) (by simp only [List.getElem?_toArray, List.getElem?_cons_zero]; rfl) (by kernel_rfl) (by kernel_rfl) (by kernel_rfl) (by intro _ _ _ h; exact h) (Or.inl ⟨by rfl, ?_⟩) hHeld ?_
  rotate_left
  · (intro w hSw; (try dsimp only at hSw); go_simp; try with_reducible rfl)
  try simp only [Act.put, List.setIfInBounds_toArray, List.set_cons_zero, List.set_cons_succ]
  refine wpAnyH_take (i := 1) (v := ?_) (by simp only [List.getElem?_toArray, List.getElem?_cons_zero, List.getElem?_cons_succ]; rfl) (by kernel_rfl) (by kernel_rfl) (by kernel_rfl) (by intro _ _ _ h; exact h) (Or.inl ⟨by rfl, ?_⟩) hHeld ?_
  rotate_left
  · (intro w hSw; (try dsimp only at hSw); go_simp; try with_reducible rfl)
  try simp only [Act.put, List.setIfInBounds_toArray, List.set_cons_zero, List.set_cons_succ]
  refine wpAnyH_take (i := 2) (v := ?_) (by simp only [List.getElem?_toArray, List.getElem?_cons_zero, List.getElem?_cons_succ]; rfl) (by kernel_rfl) (by kernel_rfl) (by kernel_rfl) (by intro _ _ _ h; exact h) (Or.inl ⟨by rfl, ?_⟩) hHeld ?_
  rotate_left
  · (intro w hSw; (try dsimp only at hSw); go_simp; try with_reducible rfl)
  try simp only [Act.put, List.setIfInBounds_toArray, List.set_cons_zero, List.set_cons_succ]
  refine wpAnyH_take (i := 3) (v := ?_) (by simp only [List.getElem?_toArray, List.getElem?_cons_zero, List.getElem?_cons_succ]; rfl) (by kernel_rfl) (by kernel_rfl) (by kernel_rfl) (by intro _ _ _ h; exact h) (Or.inl ⟨by rfl, ?_⟩) hHeld ?_
  rotate_left
  · (intro w hSw; (try dsimp only at hSw); go_simp; try with_reducible rfl)
  try simp only [Act.put, List.setIfInBounds_toArray, List.set_cons_zero, List.set_cons_succ]
  refine wpAnyH_take (i := 4) (v := _) (by simp only [List.getElem?_toArray, List.getElem?_cons_zero, List.getElem?_cons_succ]; rfl) (by kernel_rfl) (by kernel_rfl) (by kernel_rfl) (by intro _ _ _ h; exact h) (yieldsIf_load_mid (by rfl) 26 (.tmp 4) rfl b4 0 rfl (u8l k) _ (fun _ h => h.2.1) Try.underlying26 rfl HKL.out) hHeld ?_
  try simp only [Act.put, List.setIfInBounds_toArray, List.set_cons_zero, List.set_cons_succ]
  refine wpAnyH_take (i := 5) (v := _) (by simp only [List.getElem?_toArray, List.getElem?_cons_zero, List.getElem?_cons_succ]; rfl) (by kernel_rfl) (by kernel_rfl) (by kernel_rfl) (by intro _ _ _ h; exact h) (yields_look (by rfl) 54 (.tmp 21) (.tmp 22) true rfl (.map (some B)) (kv k) rfl rfl (.tuple #[plv q0, .bool is]) (fun W h => HLK.out W p B h.2.2.out)) hHeld ?_
  try simp only [Act.put, List.setIfInBounds_toArray, List.set_cons_zero, List.set_cons_succ]
  refine wpAnyH_take (i := 6) (v := ?_) (by simp only [List.getElem?_toArray, List.getElem?_cons_zero, List.getElem?_cons_succ]; rfl) (by kernel_rfl) (by kernel_rfl) (by kernel_rfl) (by intro _ _ _ h; exact h) (Or.inl ⟨by rfl, ?_⟩) hHeld ?_
  rotate_left
  · (intro w hSw; (try dsimp only at hSw); go_simp; try with_reducible rfl)
  try simp only [Act.put, List.setIfInBounds_toArray, List.set_cons_zero, List.set_cons_succ]
  refine wpAnyH_take (i := 7) (v := ?_) (by simp only [List.getElem?_toArray, List.getElem?_cons_zero, List.getElem?_cons_succ]; rfl) (by kernel_rfl) (by kernel_rfl) (by kernel_rfl) (by intro _ _ _ h; exact h) (Or.inl ⟨by rfl, ?_⟩) hHeld ?_
  rotate_left
  · (intro w hSw; (try dsimp only at hSw); go_simp; try with_reducible rfl)
  try simp only [Act.put, List.setIfInBounds_toArray, List.set_cons_zero, List.set_cons_succ]
  refine wpAnyH_take (i := 8) (v := ?_) (by simp only [List.getElem?_toArray, List.getElem?_cons_zero, List.getElem?_cons_succ]; rfl) (by kernel_rfl) (by kernel_rfl) (by kernel_rfl) (by intro _ _ _ h; exact h) (Or.inl ⟨by rfl, ?_⟩) hHeld ?_
  rotate_left
  · (intro w hSw; (try dsimp only at hSw); go_simp; try with_reducible rfl)
  try simp only [Act.put, List.setIfInBounds_toArray, List.set_cons_zero, List.set_cons_succ]
  refine wpAnyH_ready (rs := [9]) (by kernel_rfl) (by simp) ?_
  refine AllReadyH.cons (by simp only [List.getElem?_toArray, List.getElem?_cons_zero, List.getElem?_cons_succ]; rfl) (fun K hK => ?_) AllReadyH.nil
  rw [if_pos (by rfl)]
  go_simp
  refine hK.out _ _ (HSF.out _ (BD.out.alloc BD.out.size _)) (fun hHeld => ?_)
  clear hK K
  try simp only [Act.put, List.setIfInBounds_toArray, List.set_cons_zero, List.set_cons_succ]
  refine wpAnyH_ready (rs := [10]) (by kernel_rfl) (by simp) ?_
  refine AllReadyH.cons (by simp only [List.getElem?_toArray, List.getElem?_cons_zero, List.getElem?_cons_succ]; rfl) (fun K hK => ?_) AllReadyH.nil
  rw [if_pos (by rfl)]
  go_simp
  refine hK.out _ _ (HSF.out _ (BD.out.alloc BD.out.size _)) (fun hHeld => ?_)
  clear hK K
  try simp only [Act.put, List.setIfInBounds_toArray, List.set_cons_zero, List.set_cons_succ]
  refine wpAnyH_take (i := 11) (v := ?_) (by simp only [List.getElem?_toArray, List.getElem?_cons_zero, List.getElem?_cons_succ]; rfl) (by kernel_rfl) (by kernel_rfl) (by kernel_rfl) (by intro _ _ _ h; exact h) (Or.inl ⟨by rfl, ?_⟩) hHeld ?_
  rotate_left
  · (intro w hSw; (try dsimp only at hSw); go_simp; try with_reducible rfl)
  try simp only [Act.put, List.setIfInBounds_toArray, List.set_cons_zero, List.set_cons_succ]
  refine wpAnyH_done (by kernel_rfl) ?_ _
  clear hHeld
  obtain ⟨b7, hb7⟩ : ∃ b, b = w2.heap.size := ⟨_, rfl⟩
  obtain ⟨w3, hnw⟩ : ∃ z, z = (w2.alloc (.cells #[.int .i64 q0.a, .int .i64 q0.n, .int .i64 q0.u, .int .i64 q0.r] 28)).drew := ⟨_, rfl⟩
  have BN : Hid (Below w2.heap.size w2 w3) := Lib.hid (by rw [hnw]; exact below_drewN ((Below.refl _ _).alloc (Nat.le_refl _) _) 1)
  have H7 : Hid (w3.heap[b7]? = some (.cells (plc q0).toArray 28 (0, 0))) := Lib.hid (by rw [hnw]; exact heap_new_at (w := w2) _ hb7)
  have HB7 : Hid (b7 = w2.heap.size) := Lib.hid hb7
  rw [← hnw, ← hb7]
  clear hnw hb7 HSF BD
  have HI := Lib.hid (HI.out.below BN.out)
  have B3 := Lib.hid (B2.out.trans (BN.out.mono B2.out.size))
  have H4 := Lib.hid ((BN.out.block _ (heap_lt H4.out)).trans H4.out)
  have H5 := Lib.hid ((BN.out.block _ (heap_lt H5.out)).trans H5.out)
  cases is with
  | true =>
    have HE : Hid (addE R k q = 7 ∧ addR R k q = R) := Lib.hid ⟨by unfold addE; rw [if_neg (by rw [HM0.out]; simp), if_pos HIS.out.symm], by unfold addR; rw [if_neg (fun h => by rw [HQ1.out rfl] at h; cases h.2)]⟩
    go_wp2_with fail
    go_ret
    exact ⟨by rw [HE.out.1]; rfl, by rw [HE.out.2]; exact HI.out, Keeps.fresh B3.out⟩
  | false =>
    have hno : lookR k R = none := by
      have := HIS.out
      cases hL : lookR k R with
      | none => rfl
      | some v => rw [hL] at this; cases this
    have HNO := Lib.hid hno
    have HE : Hid (addE R k q = 0 ∧ addR R k q = insR (mkE k q) R) := Lib.hid ⟨by unfold addE; rw [if_neg (by rw [HM0.out]; simp), if_neg (by rw [hno]; simp)], by unfold addR; rw [if_pos ⟨HM0.out, hno⟩]⟩
    clear hno
    have HM : Hid (Gm Try.prog w3.drew keyT (fun _ => True) B R.length (valL R)) := Lib.hid (HI.out.map.keeps rfl)
    have HLT : Hid (∀ x, x = p ∨ x = b4 ∨ x = b4 + 1 → x < w3.drew.heap.size) := Lib.hid fun x hx => by
      rcases hx with rfl | rfl | rfl
      · exact HI.out.lt.1
      · exact heap_lt H4.out
      · exact heap_lt H5.out
    have HNE : Hid (∀ x, x = p ∨ x = b4 ∨ x = b4 + 1 → B ≠ x) := Lib.hid fun x hx => by
      have := HPB.out
      rcases hx with rfl | rfl | rfl
      · exact fun e => HI.out.ne e.symm
      · omega
      · omega
    go_wp2_with fail
    have HSP : Hid (∀ W, (∀ x, x = p ∨ x = b4 ∨ x = (b4 + 1) → W.heap[x]? = w3.heap[x]?) → (fun w' : World => w'.cell? ⟨p, 0, none⟩ = some (.map (some B)) ∧ w'.rangeAt b4 0 (u8l k) ∧ (w'.cell? ⟨(b4 + 1), 0, none⟩ = some (.int .i64 q.a) ∧ w'.cell? ⟨(b4 + 1), 1, none⟩ = some (.int .i64 q.n) ∧ w'.cell? ⟨(b4 + 1), 2, none⟩ = some (.int .i64 q.u) ∧ w'.cell? ⟨(b4 + 1), 3, none⟩ = some (.int .i64 q.r))) W) := Lib.hid fun W h => ⟨block_cell ((h p (.inl rfl)).trans HI.out.cell) 0 _ rfl, key_range ((h b4 (.inr (.inl rfl))).trans H4.out), pl_cells ((h (b4 + 1) (.inr (.inr rfl))).trans H5.out)⟩
    refine wp_region_held_drew (S := (fun w' : World => w'.cell? ⟨p, 0, none⟩ = some (.map (some B)) ∧ w'.rangeAt b4 0 (u8l k) ∧ (w'.cell? ⟨(b4 + 1), 0, none⟩ = some (.int .i64 q.a) ∧ w'.cell? ⟨(b4 + 1), 1, none⟩ = some (.int .i64 q.n) ∧ w'.cell? ⟨(b4 + 1), 2, none⟩ = some (.int .i64 q.u) ∧ w'.cell? ⟨(b4 + 1), 3, none⟩ = some (.int .i64 q.r)))) follows (HSP.out _ (fun _ _ => rfl)) (fun hHeld => ?_)
    refine wpAnyH_take (i := 0) (v := ?_) (by simp only [List.getElem?_toArray, List.getElem?_cons_zero]; rfl) (by kernel_rfl) (by kernel_rfl) (by kernel_rfl) (by intro _ _ _ h; exact h) (Or.inl ⟨by rfl, ?_⟩) hHeld ?_
    rotate_left
    · (intro w hSw; (try dsimp only at hSw); go_simp; try with_reducible rfl)
    try simp only [Act.put, List.setIfInBounds_toArray, List.set_cons_zero, List.set_cons_succ]
    refine wpAnyH_take (i := 1) (v := ?_) (by simp only [List.getElem?_toArray, List.getElem?_cons_zero, List.getElem?_cons_succ]; rfl) (by kernel_rfl) (by kernel_rfl) (by kernel_rfl) (by intro _ _ _ h; exact h) (Or.inl ⟨by rfl, ?_⟩) hHeld ?_
    rotate_left
    · (intro w hSw; (try dsimp only at hSw); go_simp; try with_reducible rfl)
    try simp only [Act.put, List.setIfInBounds_toArray, List.set_cons_zero, List.set_cons_succ]
    refine wpAnyH_take (i := 2) (v := ?_) (by simp only [List.getElem?_toArray, List.getElem?_cons_zero, List.getElem?_cons_succ]; rfl) (by kernel_rfl) (by kernel_rfl) (by kernel_rfl) (by intro _ _ _ h; exact h) (Or.inl ⟨by rfl, ?_⟩) hHeld ?_
    rotate_left
    · (intro w hSw; (try dsimp only at hSw); go_simp; try with_reducible rfl)
    try simp only [Act.put, List.setIfInBounds_toArray, List.set_cons_zero, List.set_cons_succ]
    refine wpAnyH_take (i := 3) (v := ?_) (by simp only [List.getElem?_toArray, List.getElem?_cons_zero, List.getElem?_cons_succ]; rfl) (by kernel_rfl) (by kernel_rfl) (by kernel_rfl) (by intro _ _ _ h; exact h) (Or.inl ⟨by rfl, ?_⟩) hHeld ?_
    rotate_left
    · (intro w hSw; (try dsimp only at hSw); go_simp; try with_reducible rfl)
    try simp only [Act.put, List.setIfInBounds_toArray, List.set_cons_zero, List.set_cons_succ]
    refine wpAnyH_take (i := 4) (v := _) (by simp only [List.getElem?_toArray, List.getElem?_cons_zero, List.getElem?_cons_succ]; rfl) (by kernel_rfl) (by kernel_rfl) (by kernel_rfl) (by intro _ _ _ h; exact h) (yieldsIf_load_mid (by rfl) 26 (.tmp 4) rfl b4 0 rfl (u8l k) _ (fun _ h => h.2.1) Try.underlying26 rfl HKL.out) hHeld ?_
    try simp only [Act.put, List.setIfInBounds_toArray, List.set_cons_zero, List.set_cons_succ]
    refine wpAnyH_take (i := 5) (v := ?_) (by simp only [List.getElem?_toArray, List.getElem?_cons_zero, List.getElem?_cons_succ]; rfl) (by kernel_rfl) (by kernel_rfl) (by kernel_rfl) (by intro _ _ _ h; exact h) (Or.inl ⟨by rfl, ?_⟩) hHeld ?_
    rotate_left
    · (intro w hSw; (try dsimp only at hSw); go_simp; try with_reducible rfl)
    try simp only [Act.put, List.setIfInBounds_toArray, List.set_cons_zero, List.set_cons_succ]
    refine wpAnyH_ready (rs := [6]) (by kernel_rfl) (by simp) ?_
    refine AllReadyH.cons (by simp only [List.getElem?_toArray, List.getElem?_cons_zero, List.getElem?_cons_succ]; rfl) (fun K hK => ?_) AllReadyH.nil
    rw [if_pos (by rfl)]
    refine wp_gm_put (T := keyT) (.tmp 30) (.tmp 31) (.tmp 32) 54 28 rfl HM.out Try.underlying54 (by have := HN.out; unfold maxLen; omega) rfl k rfl HK.out (plv q) rfl trivial ?_
    intro w9 hm9 hg9
    refine hK.out _ _ (HSP.out _ (fun x hx => hg9.block x (HLT.out x hx) (fun e => HNE.out x hx (by injection e with e; exact e.symm)))) (fun hHeld => ?_)
    clear hK K
    try simp only [Act.put, List.setIfInBounds_toArray, List.set_cons_zero, List.set_cons_succ]
    refine wpAnyH_done (by kernel_rfl) ?_ _
    clear hHeld
    clear hHeld HSP
    go_wp2_with fail
    go_ret
    refine ⟨by rw [HE.out.1]; rfl, ?_, Keeps.from (below_drewN B3.out 1) (Keeps.grown hg9 (fun k e => by injection e with e; exact e.symm))⟩
    rw [HE.out.2]
    exact (HI.out.drewN 1).turn hg9 hm9 (by rw [ins_len, show valL R k = none by unfold valL; rw [HNO.out]; rfl]; rfl) (fun y _ => val_ins HI.out.rise HK.out HM0.out HNO.out y) (rise_ins HI.out.rise (by rw [mkE_k HK.out HM0.out]; exact HNO.out))
set_option maxRecDepth 100000 in
set_option maxHeartbeats 4000000 in
theorem get19 (p B : Nat) (R : List Ent) (k : List Int)  (w : World) (hk : KeyOk 32 k) (h : Ix w p B R) (hn : R.length < 1000000000) :
    Calls Try.prog 19 #[.pointer (some ⟨p, 0, none⟩), kv k] w fun e w' => e = .returned (.tuple #[plv ((lookR k R).getD ⟨0, 0, 0, 0⟩), .bool (lookR k R).isSome]) ∧ Below w.heap.size w w' := by
  have HK := Lib.hid hk
  have HI := Lib.hid h
  have HN := Lib.hid hn
  obtain ⟨q0, is, his, hq1, hq0, hlk⟩ := look_run (R := R) hk
  have HIS := Lib.hid his
  have HQ1 := Lib.hid hq1
  have HQ0 := Lib.hid hq0
  have HLK := Lib.hid hlk
  have HKL : Hid ((Try.prog.info? 26).map (·.size) = some (u8l k).length) := Lib.hid (by rw [u8l_len, hk.len]; exact infoKey)
  change Calls Try.prog 19 #[.pointer (some ⟨p, 0, none⟩), .agg (u8l k).toArray] w _
  obtain ⟨kc, hkc⟩ : ∃ kc, kc = (u8l k).toArray := ⟨_, rfl⟩
  rw [← hkc]
  have HKC := Lib.hid hkc
  clear hkc hk h hn his hq1 hq0 hlk
  go_enter Try.func19, Try.ntmps19
  go_wp2_with fail
  obtain ⟨b4, hb4⟩ : ∃ b, b = w.heap.size := ⟨_, rfl⟩
  obtain ⟨w1, hw1⟩ : ∃ z, z = (w.alloc (.cells kc 26)).alloc (.cells #[.int .i64 0, .int .i64 0, .int .i64 0, .int .i64 0] 28) := ⟨_, rfl⟩
  have H4 : Hid (w1.heap[b4]? = some (.cells (u8l k).toArray 26 (0, 0))) := Lib.hid (by rw [hw1, hb4, HKC.out]; exact heap_old (heap_new w _))
  have H5 : Hid (w1.heap[b4 + 1]? = some (.cells (plc ⟨0, 0, 0, 0⟩).toArray 28 (0, 0))) := Lib.hid (by rw [hw1]; exact heap_new_at _ (by simp [hb4]))
  have B1 : Hid (Below w.heap.size w w1) := Lib.hid (by rw [hw1]; exact ((Below.refl _ _).alloc (Nat.le_refl _) _).alloc (by simp) _)
  have HI := Lib.hid (HI.out.below B1.out)
  have HBW : Hid (w.heap.size ≤ b4 + 1) := Lib.hid (by omega)
  rw [← hw1, ← hb4]
  clear hw1 hb4 HKC
  refine (there21 p B w1 HI.out.at0).mono ?_
  rintro e _ ⟨rfl, rfl⟩
  have H51 := Lib.hid H5.out
  go_wp2_with fail
  have HSF : Hid (∀ W, Below w1.heap.size w1 W → (fun w' : World => w'.cell? ⟨p, 0, none⟩ = some (.map (some B)) ∧ w'.rangeAt b4 0 (u8l k) ∧ Hid (Ix w' p B R)) W) := Lib.hid fun W h => ⟨(HI.out.below h).at0, key_range ((h.block b4 (heap_lt H4.out)).trans H4.out), Lib.hid (HI.out.below h)⟩
  have BD : Hid (Below w1.heap.size w1 w1.drew) := Lib.hid (below_drewN (Below.refl _ _) 1)
  refine wp_region_held_drew (S := (fun w' : World => w'.cell? ⟨p, 0, none⟩ = some (.map (some B)) ∧ w'.rangeAt b4 0 (u8l k) ∧ Hid (Ix w' p B R))) follows (HSF.out _ BD.out) (fun hHeld => ?_)
  refine wpAnyH_take (i := 0) (v := ?_) (by simp only [List.getElem?_toArray, List.getElem?_cons_zero]; rfl) (by kernel_rfl) (by kernel_rfl) (by kernel_rfl) (by intro _ _ _ h; exact h) (Or.inl ⟨by rfl, ?_⟩) hHeld ?_
  rotate_left
  · (intro w hSw; (try dsimp only at hSw); go_simp; try with_reducible rfl)
  try simp only [Act.put, List.setIfInBounds_toArray, List.set_cons_zero, List.set_cons_succ]
  refine wpAnyH_take (i := 1) (v := ?_) (by simp only [List.getElem?_toArray, List.getElem?_cons_zero, List.getElem?_cons_succ]; rfl) (by kernel_rfl) (by kernel_rfl) (by kernel_rfl) (by intro _ _ _ h; exact h) (Or.inl ⟨by rfl, ?_⟩) hHeld ?_
  rotate_left
  · (intro w hSw; (try dsimp only at hSw); go_simp; try with_reducible rfl)
  try simp only [Act.put, List.setIfInBounds_toArray, List.set_cons_zero, List.set_cons_succ]
  refine wpAnyH_take (i := 2) (v := ?_) (by simp only [List.getElem?_toArray, List.getElem?_cons_zero, List.getElem?_cons_succ]; rfl) (by kernel_rfl) (by kernel_rfl) (by kernel_rfl) (by intro _ _ _ h; exact h) (Or.inl ⟨by rfl, ?_⟩) hHeld ?_
  rotate_left
  · (intro w hSw; (try dsimp only at hSw); go_simp; try with_reducible rfl)
  try simp only [Act.put, List.setIfInBounds_toArray, List.set_cons_zero, List.set_cons_succ]
  refine wpAnyH_take (i := 3) (v := ?_) (by simp only [List.getElem?_toArray, List.getElem?_cons_zero, List.getElem?_cons_succ]; rfl) (by kernel_rfl) (by kernel_rfl) (by kernel_rfl) (by intro _ _ _ h; exact h) (Or.inl ⟨by rfl, ?_⟩) hHeld ?_
  rotate_left
  · (intro w hSw; (try dsimp only at hSw); go_simp; try with_reducible rfl)
  try simp only [Act.put, List.setIfInBounds_toArray, List.set_cons_zero, List.set_cons_succ]
  refine wpAnyH_take (i := 4) (v := _) (by simp only [List.getElem?_toArray, List.getElem?_cons_zero, List.getElem?_cons_succ]; rfl) (by kernel_rfl) (by kernel_rfl) (by kernel_rfl) (by intro _ _ _ h; exact h) (yieldsIf_load_mid (by rfl) 26 (.tmp 3) rfl b4 0 rfl (u8l k) _ (fun _ h => h.2.1) Try.underlying26 rfl HKL.out) hHeld ?_
  try simp only [Act.put, List.setIfInBounds_toArray, List.set_cons_zero, List.set_cons_succ]
  refine wpAnyH_take (i := 5) (v := _) (by simp only [List.getElem?_toArray, List.getElem?_cons_zero, List.getElem?_cons_succ]; rfl) (by kernel_rfl) (by kernel_rfl) (by kernel_rfl) (by intro _ _ _ h; exact h) (yields_look (by rfl) 54 (.tmp 16) (.tmp 17) true rfl (.map (some B)) (kv k) rfl rfl (.tuple #[plv q0, .bool is]) (fun W h => HLK.out W p B h.2.2.out)) hHeld ?_
  try simp only [Act.put, List.setIfInBounds_toArray, List.set_cons_zero, List.set_cons_succ]
  refine wpAnyH_take (i := 6) (v := ?_) (by simp only [List.getElem?_toArray, List.getElem?_cons_zero, List.getElem?_cons_succ]; rfl) (by kernel_rfl) (by kernel_rfl) (by kernel_rfl) (by intro _ _ _ h; exact h) (Or.inl ⟨by rfl, ?_⟩) hHeld ?_
  rotate_left
  · (intro w hSw; (try dsimp only at hSw); go_simp; try with_reducible rfl)
  try simp only [Act.put, List.setIfInBounds_toArray, List.set_cons_zero, List.set_cons_succ]
  refine wpAnyH_take (i := 7) (v := ?_) (by simp only [List.getElem?_toArray, List.getElem?_cons_zero, List.getElem?_cons_succ]; rfl) (by kernel_rfl) (by kernel_rfl) (by kernel_rfl) (by intro _ _ _ h; exact h) (Or.inl ⟨by rfl, ?_⟩) hHeld ?_
  rotate_left
  · (intro w hSw; (try dsimp only at hSw); go_simp; try with_reducible rfl)
  try simp only [Act.put, List.setIfInBounds_toArray, List.set_cons_zero, List.set_cons_succ]
  refine wpAnyH_take (i := 8) (v := ?_) (by simp only [List.getElem?_toArray, List.getElem?_cons_zero, List.getElem?_cons_succ]; rfl) (by kernel_rfl) (by kernel_rfl) (by kernel_rfl) (by intro _ _ _ h; exact h) (Or.inl ⟨by rfl, ?_⟩) hHeld ?_
  rotate_left
  · (intro w hSw; (try dsimp only at hSw); go_simp; try with_reducible rfl)
  try simp only [Act.put, List.setIfInBounds_toArray, List.set_cons_zero, List.set_cons_succ]
  refine wpAnyH_ready (rs := [9]) (by kernel_rfl) (by simp) ?_
  refine AllReadyH.cons (by simp only [List.getElem?_toArray, List.getElem?_cons_zero, List.getElem?_cons_succ]; rfl) (fun K hK => ?_) AllReadyH.nil
  rw [if_pos (by rfl)]
  go_simp
  refine hK.out _ _ (HSF.out _ (BD.out.alloc BD.out.size _)) (fun hHeld => ?_)
  clear hK K
  try simp only [Act.put, List.setIfInBounds_toArray, List.set_cons_zero, List.set_cons_succ]
  refine wpAnyH_ready (rs := [10]) (by kernel_rfl) (by simp) ?_
  refine AllReadyH.cons (by simp only [List.getElem?_toArray, List.getElem?_cons_zero, List.getElem?_cons_succ]; rfl) (fun K hK => ?_) AllReadyH.nil
  rw [if_pos (by rfl)]
  go_simp
  refine hK.out _ _ (HSF.out _ (BD.out.alloc BD.out.size _)) (fun hHeld => ?_)
  clear hK K
  try simp only [Act.put, List.setIfInBounds_toArray, List.set_cons_zero, List.set_cons_succ]
  refine wpAnyH_take (i := 11) (v := ?_) (by simp only [List.getElem?_toArray, List.getElem?_cons_zero, List.getElem?_cons_succ]; rfl) (by kernel_rfl) (by kernel_rfl) (by kernel_rfl) (by intro _ _ _ h; exact h) (Or.inl ⟨by rfl, ?_⟩) hHeld ?_
  rotate_left
  · (intro w hSw; (try dsimp only at hSw); go_simp; try with_reducible rfl)
  try simp only [Act.put, List.setIfInBounds_toArray, List.set_cons_zero, List.set_cons_succ]
  refine wpAnyH_done (by kernel_rfl) ?_ _
  clear hHeld
  obtain ⟨b7, hb7⟩ : ∃ b, b = w1.heap.size := ⟨_, rfl⟩
  obtain ⟨w3, hnw⟩ : ∃ z, z = (w1.alloc (.cells #[.int .i64 q0.a, .int .i64 q0.n, .int .i64 q0.u, .int .i64 q0.r] 28)).drew := ⟨_, rfl⟩
  have BN : Hid (Below w1.heap.size w1 w3) := Lib.hid (by rw [hnw]; exact below_drewN ((Below.refl _ _).alloc (Nat.le_refl _) _) 1)
  have H7 : Hid (w3.heap[b7]? = some (.cells (plc q0).toArray 28 (0, 0))) := Lib.hid (by rw [hnw]; exact heap_new_at (w := w1) _ hb7)
  have HB7 : Hid (b7 = w1.heap.size) := Lib.hid hb7
  rw [← hnw, ← hb7]
  clear hnw hb7 HSF BD
  have B3 := Lib.hid (B1.out.trans (BN.out.mono B1.out.size))
  have H5 := Lib.hid ((BN.out.block _ (heap_lt H5.out)).trans H5.out)
  have HNE : ¬ b4 + 1 = b7 := fun e => by have := heap_lt H51.out; have := HB7.out; omega
  obtain ⟨c0, c1, c2, c3⟩ := pl_cells H7.out
  obtain ⟨d0, d1, d2, d3⟩ := pl_cells H5.out
  have f0 := frozen_of_row w3 (b4 + 1) 0 _ _ H5.out
  have f1 := frozen_of_row w3 (b4 + 1) 1 _ _ H5.out
  have f2 := frozen_of_row w3 (b4 + 1) 2 _ _ H5.out
  have f3 := frozen_of_row w3 (b4 + 1) 3 _ _ H5.out
  have HV : Hid ((lookR k R).getD ⟨0, 0, 0, 0⟩ = q0 ∧ (lookR k R).isSome = is) := Lib.hid ⟨(by
    cases is with
    | true => rw [HQ1.out rfl]; rfl
    | false =>
      have := HIS.out
      cases hL : lookR k R with
      | none => rw [HQ0.out rfl]; rfl
      | some v => rw [hL] at this; cases this), HIS.out.symm⟩
  go_wp2_with fail
  exact bodyPost_ret (v := .tuple #[plv q0, .bool is]) (by simp [results, Try.f19, go_sem, plv, d0, d1, d2, d3]) rfl ⟨by rw [HV.out.1, HV.out.2], by refine ((((B3.out.setCell ?_ _).setCell ?_ _).setCell ?_ _).setCell ?_ _) <;> exact HBW.out⟩
theorem len12 (p B : Nat) (R : List Ent) (w : World) (h : Ix w p B R) : Calls Try.prog 12 #[.pointer (some ⟨p, 0, none⟩)] w fun e w' => e = .returned (.int .i64 (R.length : Nat)) ∧ w = w' := by
  have HI := Lib.hid h
  have c0 := h.at0
  clear h
  go_enter Try.func12, Try.ntmps12
  go_wp2_with fail
  refine (there21 p B w c0).mono ?_
  rintro e _ ⟨rfl, rfl⟩
  go_wp2_with (refine wpList_gm_len rfl (.tmp 9) 54 28 rfl HI.out.map Try.underlying54 rfl ?_)
  go_ret
  exact ⟨rfl, rfl⟩
theorem mv29 (b f : Nat) (q : Pl) (x : Int) (w : World) (hb : w.heap[b]? = some (.cells (plc q).toArray 28 (0, 0))) (hf : w.heap[f]? = some (.cells #[.int .i64 x] 3 (0, 0))) (hne : ¬ f = b) :
    Calls Try.prog 29 #[.pointer (some ⟨b, 0, none⟩), .pointer (some ⟨f, 0, none⟩)] w fun e w' => e = .returned (.bool (decide (0 ≤ x ∧ x ≤ 262144))) ∧ w' = w.setCell ⟨b, 0, none⟩ (.int .i64 x) := by
  obtain ⟨c0, c1, c2, c3⟩ := pl_cells hb
  have d0 : w.cell? ⟨f, 0, none⟩ = some (.int .i64 x) := block_cell hf 0 _ rfl
  have f0 := frozen_of_row w b 0 _ _ hb
  have hne2 : ¬ b = f := fun e => hne e.symm
  clear hb hf
  go_enter Try.func29, Try.ntmps29
  go_wp2_with fail
  refine (from30 x 0 262144 _).mono ?_
  rintro e _ ⟨rfl, rfl⟩
  go_wp2_with fail
  go_ret
  exact ⟨by simp, rfl⟩
theorem pl_set {w : World} {b : Nat} {q : Pl} (h : w.heap[b]? = some (.cells (plc q).toArray 28 (0, 0))) (x : Int) : (w.setCell ⟨b, 0, none⟩ (.int .i64 x)).heap[b]? = some (.cells (plc { q with a := x }).toArray 28 (0, 0)) := by
  rw [heap_setCell_same w b 0 _ _ _ h]; rfl
theorem pl_set3 {w : World} {b : Nat} {q : Pl} (h : w.heap[b]? = some (.cells (plc q).toArray 28 (0, 0))) (x : Int) : (w.setCell ⟨b, 3, none⟩ (.int .i64 x)).heap[b]? = some (.cells (plc { q with r := x }).toArray 28 (0, 0)) := by
  rw [heap_setCell_same w b 3 _ _ _ h]; rfl

set_option maxRecDepth 100000 in
set_option maxHeartbeats 4000000 in
theorem move28 (p B : Nat) (R : List Ent) (k : List Int) (x : Int) (fb : Nat) (w : World) (hk : KeyOk 32 k) (h : Ix w p B R) (hn : R.length < 1000000000) (hf : w.heap[fb]? = some (.cells #[.int .i64 x] 3 (0, 0))) :
    Calls Try.prog 28 #[.pointer (some ⟨p, 0, none⟩), kv k, .func (.func 29) #[] #[.pointer (some ⟨fb, 0, none⟩)]] w fun e w' => e = .returned (.int .i64 (moveE R k x)) ∧ Ix w' p B (moveR R k x) ∧ Keeps (fun x => x = B) w w' := by
  have HK := Lib.hid hk
  have HI := Lib.hid h
  have HN := Lib.hid hn
  obtain ⟨q0, is, his, hq1, hq0, hlk⟩ := look_run (R := R) hk
  have HIS := Lib.hid his
  have HQ1 := Lib.hid hq1
  have HQ0 := Lib.hid hq0
  have HLK := Lib.hid hlk
  have HKL : Hid ((Try.prog.info? 26).map (·.size) = some (u8l k).length) := Lib.hid (by rw [u8l_len, hk.len]; exact infoKey)
  change Calls Try.prog 28 #[.pointer (some ⟨p, 0, none⟩), .agg (u8l k).toArray, .func (.func 29) #[] #[.pointer (some ⟨fb, 0, none⟩)]] w _
  obtain ⟨kc, hkc⟩ : ∃ kc, kc = (u8l k).toArray := ⟨_, rfl⟩
  rw [← hkc]
  have HKC := Lib.hid hkc
  clear hkc hk h hn his hq1 hq0 hlk
  have HF := Lib.hid hf
  clear hf
  go_enter Try.func28, Try.ntmps28
  go_wp2_with fail
  obtain ⟨b4, hb4⟩ : ∃ b, b = w.heap.size := ⟨_, rfl⟩
  obtain ⟨w1, hw1⟩ : ∃ z, z = w.alloc (.cells kc 26) := ⟨_, rfl⟩
  have H4 : Hid (w1.heap[b4]? = some (.cells (u8l k).toArray 26 (0, 0))) := Lib.hid (by rw [hw1, hb4, HKC.out]; exact heap_new w _)
  have B1 : Hid (Below w.heap.size w w1) := Lib.hid (by rw [hw1]; exact (Below.refl _ _).alloc (Nat.le_refl _) _)
  have HPB : Hid (p < b4 ∧ B < b4 ∧ fb < b4) := Lib.hid (by rw [hb4]; exact ⟨HI.out.lt.1, HI.out.lt.2, heap_lt HF.out⟩)
  have HB4 := Lib.hid hb4
  have HI := Lib.hid (HI.out.below B1.out)
  have HF := Lib.hid ((B1.out.block _ (heap_lt HF.out)).trans HF.out)
  rw [← hw1, ← hb4]
  clear hw1 hb4 HKC
  refine (there21 p B w1 HI.out.at0).mono ?_
  rintro e _ ⟨rfl, rfl⟩
  go_wp2_with fail
  have H41 := Lib.hid H4.out
  have HSF : Hid (∀ W, Below w1.heap.size w1 W → (fun w' : World => w'.cell? ⟨p, 0, none⟩ = some (.map (some B)) ∧ w'.rangeAt b4 0 (u8l k) ∧ Hid (Ix w' p B R)) W) := Lib.hid fun W h => ⟨(HI.out.below h).at0, key_range ((h.block b4 (heap_lt H4.out)).trans H4.out), Lib.hid (HI.out.below h)⟩
  have BD : Hid (Below w1.heap.size w1 w1.drew) := Lib.hid (below_drewN (Below.refl _ _) 1)
  refine wp_region_held_drew (S := (fun w' : World => w'.cell? ⟨p, 0, none⟩ = some (.map (some B)) ∧ w'.rangeAt b4 0 (u8l k) ∧ Hid (Ix w' p B R))) follows (HSF.out _ BD.out) (fun hHeld => ?_)
  refine wpAnyH_take (i := 0) (v := ?_) (by simp only [List.getElem?_toArray, List.getElem?_cons_zero]; rfl) (by kernel_rfl) (by kernel_rfl) (by kernel_rfl) (by intro _ _ _ h; exact h) (Or.inl ⟨by rfl, ?_⟩) hHeld ?_
  rotate_left
  · (intro w hSw; (try dsimp only at hSw); go_simp; try with_reducible rfl)
  try simp only [Act.put, List.setIfInBounds_toArray, List.set_cons_zero, List.set_cons_succ]
  refine wpAnyH_take (i := 1) (v := ?_) (by simp only [List.getElem?_toArray, List.getElem?_cons_zero, List.getElem?_cons_succ]; rfl) (by kernel_rfl) (by kernel_rfl) (by kernel_rfl) (by intro _ _ _ h; exact h) (Or.inl ⟨by rfl, ?_⟩) hHeld ?_
  rotate_left
  · (intro w hSw; (try dsimp only at hSw); go_simp; try with_reducible rfl)
  try simp only [Act.put, List.setIfInBounds_toArray, List.set_cons_zero, List.set_cons_succ]
  refine wpAnyH_take (i := 2) (v := ?_) (by simp only [List.getElem?_toArray, List.getElem?_cons_zero, List.getElem?_cons_succ]; rfl) (by kernel_rfl) (by kernel_rfl) (by kernel_rfl) (by intro _ _ _ h; exact h) (Or.inl ⟨by rfl, ?_⟩) hHeld ?_
  rotate_left
  · (intro w hSw; (try dsimp only at hSw); go_simp; try with_reducible rfl)
  try simp only [Act.put, List.setIfInBounds_toArray, List.set_cons_zero, List.set_cons_succ]
  refine wpAnyH_take (i := 3) (v := ?_) (by simp only [List.getElem?_toArray, List.getElem?_cons_zero, List.getElem?_cons_succ]; rfl) (by kernel_rfl) (by kernel_rfl) (by kernel_rfl) (by intro _ _ _ h; exact h) (Or.inl ⟨by rfl, ?_⟩) hHeld ?_
  rotate_left
  · (intro w hSw; (try dsimp only at hSw); go_simp; try with_reducible rfl)
  try simp only [Act.put, List.setIfInBounds_toArray, List.set_cons_zero, List.set_cons_succ]
  refine wpAnyH_take (i := 4) (v := _) (by simp only [List.getElem?_toArray, List.getElem?_cons_zero, List.getElem?_cons_succ]; rfl) (by kernel_rfl) (by kernel_rfl) (by kernel_rfl) (by intro _ _ _ h; exact h) (yieldsIf_load_mid (by rfl) 26 (.tmp 4) rfl b4 0 rfl (u8l k) _ (fun _ h => h.2.1) Try.underlying26 rfl HKL.out) hHeld ?_
  try simp only [Act.put, List.setIfInBounds_toArray, List.set_cons_zero, List.set_cons_succ]
  refine wpAnyH_take (i := 5) (v := _) (by simp only [List.getElem?_toArray, List.getElem?_cons_zero, List.getElem?_cons_succ]; rfl) (by kernel_rfl) (by kernel_rfl) (by kernel_rfl) (by intro _ _ _ h; exact h) (yields_look (by rfl) 54 (.tmp 16) (.tmp 17) true rfl (.map (some B)) (kv k) rfl rfl (.tuple #[plv q0, .bool is]) (fun W h => HLK.out W p B h.2.2.out)) hHeld ?_
  try simp only [Act.put, List.setIfInBounds_toArray, List.set_cons_zero, List.set_cons_succ]
  refine wpAnyH_take (i := 6) (v := ?_) (by simp only [List.getElem?_toArray, List.getElem?_cons_zero, List.getElem?_cons_succ]; rfl) (by kernel_rfl) (by kernel_rfl) (by kernel_rfl) (by intro _ _ _ h; exact h) (Or.inl ⟨by rfl, ?_⟩) hHeld ?_
  rotate_left
  · (intro w hSw; (try dsimp only at hSw); go_simp; try with_reducible rfl)
  try simp only [Act.put, List.setIfInBounds_toArray, List.set_cons_zero, List.set_cons_succ]
  refine wpAnyH_take (i := 7) (v := ?_) (by simp only [List.getElem?_toArray, List.getElem?_cons_zero, List.getElem?_cons_succ]; rfl) (by kernel_rfl) (by kernel_rfl) (by kernel_rfl) (by intro _ _ _ h; exact h) (Or.inl ⟨by rfl, ?_⟩) hHeld ?_
  rotate_left
  · (intro w hSw; (try dsimp only at hSw); go_simp; try with_reducible rfl)
  try simp only [Act.put, List.setIfInBounds_toArray, List.set_cons_zero, List.set_cons_succ]
  refine wpAnyH_take (i := 8) (v := ?_) (by simp only [List.getElem?_toArray, List.getElem?_cons_zero, List.getElem?_cons_succ]; rfl) (by kernel_rfl) (by kernel_rfl) (by kernel_rfl) (by intro _ _ _ h; exact h) (Or.inl ⟨by rfl, ?_⟩) hHeld ?_
  rotate_left
  · (intro w hSw; (try dsimp only at hSw); go_simp; try with_reducible rfl)
  try simp only [Act.put, List.setIfInBounds_toArray, List.set_cons_zero, List.set_cons_succ]
  refine wpAnyH_ready (rs := [9]) (by kernel_rfl) (by simp) ?_
  refine AllReadyH.cons (by simp only [List.getElem?_toArray, List.getElem?_cons_zero, List.getElem?_cons_succ]; rfl) (fun K hK => ?_) AllReadyH.nil
  rw [if_pos (by rfl)]
  go_simp
  refine hK.out _ _ (HSF.out _ (BD.out.alloc BD.out.size _)) (fun hHeld => ?_)
  clear hK K
  try simp only [Act.put, List.setIfInBounds_toArray, List.set_cons_zero, List.set_cons_succ]
  refine wpAnyH_ready (rs := [10]) (by kernel_rfl) (by simp) ?_
  refine AllReadyH.cons (by simp only [List.getElem?_toArray, List.getElem?_cons_zero, List.getElem?_cons_succ]; rfl) (fun K hK => ?_) AllReadyH.nil
  rw [if_pos (by rfl)]
  go_simp
  refine hK.out _ _ (HSF.out _ (BD.out.alloc BD.out.size _)) (fun hHeld => ?_)
  clear hK K
  try simp only [Act.put, List.setIfInBounds_toArray, List.set_cons_zero, List.set_cons_succ]
  refine wpAnyH_take (i := 11) (v := ?_) (by simp only [List.getElem?_toArray, List.getElem?_cons_zero, List.getElem?_cons_succ]; rfl) (by kernel_rfl) (by kernel_rfl) (by kernel_rfl) (by intro _ _ _ h; exact h) (Or.inl ⟨by rfl, ?_⟩) hHeld ?_
  rotate_left
  · (intro w hSw; (try dsimp only at hSw); go_simp; try with_reducible rfl)
  try simp only [Act.put, List.setIfInBounds_toArray, List.set_cons_zero, List.set_cons_succ]
  refine wpAnyH_done (by kernel_rfl) ?_ _
  clear hHeld
  obtain ⟨b7, hb7⟩ : ∃ b, b = w1.heap.size := ⟨_, rfl⟩
  obtain ⟨w3, hnw⟩ : ∃ z, z = (w1.alloc (.cells #[.int .i64 q0.a, .int .i64 q0.n, .int .i64 q0.u, .int .i64 q0.r] 28)).drew := ⟨_, rfl⟩
  have BN : Hid (Below w1.heap.size w1 w3) := Lib.hid (by rw [hnw]; exact below_drewN ((Below.refl _ _).alloc (Nat.le_refl _) _) 1)
  have H7 : Hid (w3.heap[b7]? = some (.cells (plc q0).toArray 28 (0, 0))) := Lib.hid (by rw [hnw]; exact heap_new_at (w := w1) _ hb7)
  have HB7 : Hid (b7 = w1.heap.size) := Lib.hid hb7
  rw [← hnw, ← hb7]
  clear hnw hb7 HSF BD
  have HI := Lib.hid (HI.out.below BN.out)
  have B3 := Lib.hid (B1.out.trans (BN.out.mono B1.out.size))
  have H4 := Lib.hid ((BN.out.block _ (heap_lt H4.out)).trans H4.out)
  have HF := Lib.hid ((BN.out.block _ (heap_lt HF.out)).trans HF.out)
  have HW1 : Hid (b4 < b7) := Lib.hid (by have := HB7.out; have := B1.out; have h9 := heap_lt H41.out; omega)

  cases is with
  | false =>
    have hno : lookR k R = none := by
      have := HIS.out
      cases hL : lookR k R with
      | none => rfl
      | some v => rw [hL] at this; cases this
    have HE : Hid (moveE R k x = 6 ∧ moveR R k x = R) := Lib.hid ⟨by unfold moveE; rw [hno], by unfold moveR; rw [hno]⟩
    clear hno
    go_wp2_with fail
    go_ret
    exact ⟨by rw [HE.out.1]; rfl, by rw [HE.out.2]; exact HI.out, Keeps.fresh B3.out⟩
  | true =>
    have hL := HQ1.out rfl
    have HMY := Lib.hid (look_may hL)
    have HL := Lib.hid hL
    have hsep := HPB.out
    have hlt7 := HW1.out
    clear hL
    go_wp2_with fail
    refine (mv29 b7 fb q0 x w3 H7.out HF.out (by omega)).mono ?_
    rintro e w4 ⟨rfl, hw4⟩
    have K4 : Keeps (fun z => z = b7) w3 w4 := by rw [hw4]; exact Keeps.setCell _ _ ⟨b7, 0, none⟩ _ rfl
    have H5 : Hid (w4.heap[b7]? = some (.cells (plc { q0 with a := x }).toArray 28 (0, 0))) := Lib.hid (by rw [hw4]; exact pl_set H7.out x)
    have HI := Lib.hid (HI.out.keeps (w' := w4) fun z hz => K4.block z (by rcases hz with rfl | rfl; exact HI.out.lt.1; exact HI.out.lt.2) (by rcases hz with rfl | rfl <;> omega))
    have H4 := Lib.hid (K4.heap H4.out (by omega))
    have B4 : Hid (Below w.heap.size w w4) := Lib.hid (B3.out.trans (K4.below (fun z hz => by rw [hz]; have := HB4.out; omega) B3.out.size))
    clear hw4 K4 hsep hlt7
    by_cases hx : 0 ≤ x ∧ x ≤ 262144
    rotate_left
    · have HE : Hid (moveE R k x = 2 ∧ moveR R k x = R) := Lib.hid ⟨by unfold moveE; rw [HL.out]; exact if_neg hx, by unfold moveR; rw [HL.out]; exact if_neg hx⟩
      rw [decide_eq_false hx]
      clear hx
      go_wp2_with fail
      go_ret
      exact ⟨by rw [HE.out.1]; rfl, by rw [HE.out.2]; exact HI.out, Keeps.fresh B4.out⟩
    · have HE : Hid (moveE R k x = 0 ∧ moveR R k x = setR (mkE k { q0 with a := x }) R) := Lib.hid ⟨by unfold moveE; rw [HL.out]; exact if_pos hx, by unfold moveR; rw [HL.out]; exact if_pos hx⟩
      have HMX := Lib.hid (may_move HMY.out hx)
      rw [decide_eq_true hx]
      clear hx
      obtain ⟨q1, hq1⟩ : ∃ q1, q1 = { q0 with a := x } := ⟨_, rfl⟩
      rw [← hq1] at H5 HE HMX
      clear hq1
      have HM : Hid (Gm Try.prog w4.drew keyT (fun _ => True) B R.length (valL R)) := Lib.hid (HI.out.map.keeps rfl)
      have HLT : Hid (∀ z, z = p ∨ z = b4 ∨ z = b7 → z < w4.drew.heap.size) := Lib.hid fun z hz => by
        rcases hz with rfl | rfl | rfl
        · exact HI.out.lt.1
        · exact heap_lt H4.out
        · exact heap_lt H5.out
      have HNE : Hid (∀ z, z = p ∨ z = b4 ∨ z = b7 → B ≠ z) := Lib.hid fun z hz => by
        have := HPB.out
        have := HW1.out
        rcases hz with rfl | rfl | rfl
        · exact fun e => HI.out.ne e.symm
        · omega
        · omega
      go_wp2_with fail
      have HSP : Hid (∀ W, (∀ x, x = p ∨ x = b4 ∨ x = b7 → W.heap[x]? = w4.heap[x]?) → (fun w' : World => w'.cell? ⟨p, 0, none⟩ = some (.map (some B)) ∧ w'.rangeAt b4 0 (u8l k) ∧ (w'.cell? ⟨b7, 0, none⟩ = some (.int .i64 q1.a) ∧ w'.cell? ⟨b7, 1, none⟩ = some (.int .i64 q1.n) ∧ w'.cell? ⟨b7, 2, none⟩ = some (.int .i64 q1.u) ∧ w'.cell? ⟨b7, 3, none⟩ = some (.int .i64 q1.r))) W) := Lib.hid fun W h => ⟨block_cell ((h p (.inl rfl)).trans HI.out.cell) 0 _ rfl, key_range ((h b4 (.inr (.inl rfl))).trans H4.out), pl_cells ((h b7 (.inr (.inr rfl))).trans H5.out)⟩
      refine wp_region_held_drew (S := (fun w' : World => w'.cell? ⟨p, 0, none⟩ = some (.map (some B)) ∧ w'.rangeAt b4 0 (u8l k) ∧ (w'.cell? ⟨b7, 0, none⟩ = some (.int .i64 q1.a) ∧ w'.cell? ⟨b7, 1, none⟩ = some (.int .i64 q1.n) ∧ w'.cell? ⟨b7, 2, none⟩ = some (.int .i64 q1.u) ∧ w'.cell? ⟨b7, 3, none⟩ = some (.int .i64 q1.r)))) follows (HSP.out _ (fun _ _ => rfl)) (fun hHeld => ?_)
      refine wpAnyH_take (i := 0) (v := ?_) (by simp only [List.getElem?_toArray, List.getElem?_cons_zero]; rfl) (by kernel_rfl) (by kernel_rfl) (by kernel_rfl) (by intro _ _ _ h; exact h) (Or.inl ⟨by rfl, ?_⟩) hHeld ?_
      rotate_left
      · (intro w hSw; (try dsimp only at hSw); go_simp; try with_reducible rfl)
      try simp only [Act.put, List.setIfInBounds_toArray, List.set_cons_zero, List.set_cons_succ]
      refine wpAnyH_take (i := 1) (v := ?_) (by simp only [List.getElem?_toArray, List.getElem?_cons_zero, List.getElem?_cons_succ]; rfl) (by kernel_rfl) (by kernel_rfl) (by kernel_rfl) (by intro _ _ _ h; exact h) (Or.inl ⟨by rfl, ?_⟩) hHeld ?_
      rotate_left
      · (intro w hSw; (try dsimp only at hSw); go_simp; try with_reducible rfl)
      try simp only [Act.put, List.setIfInBounds_toArray, List.set_cons_zero, List.set_cons_succ]
      refine wpAnyH_take (i := 2) (v := ?_) (by simp only [List.getElem?_toArray, List.getElem?_cons_zero, List.getElem?_cons_succ]; rfl) (by kernel_rfl) (by kernel_rfl) (by kernel_rfl) (by intro _ _ _ h; exact h) (Or.inl ⟨by rfl, ?_⟩) hHeld ?_
      rotate_left
      · (intro w hSw; (try dsimp only at hSw); go_simp; try with_reducible rfl)
      try simp only [Act.put, List.setIfInBounds_toArray, List.set_cons_zero, List.set_cons_succ]
      refine wpAnyH_take (i := 3) (v := ?_) (by simp only [List.getElem?_toArray, List.getElem?_cons_zero, List.getElem?_cons_succ]; rfl) (by kernel_rfl) (by kernel_rfl) (by kernel_rfl) (by intro _ _ _ h; exact h) (Or.inl ⟨by rfl, ?_⟩) hHeld ?_
      rotate_left
      · (intro w hSw; (try dsimp only at hSw); go_simp; try with_reducible rfl)
      try simp only [Act.put, List.setIfInBounds_toArray, List.set_cons_zero, List.set_cons_succ]
      refine wpAnyH_take (i := 4) (v := _) (by simp only [List.getElem?_toArray, List.getElem?_cons_zero, List.getElem?_cons_succ]; rfl) (by kernel_rfl) (by kernel_rfl) (by kernel_rfl) (by intro _ _ _ h; exact h) (yieldsIf_load_mid (by rfl) 26 (.tmp 4) rfl b4 0 rfl (u8l k) _ (fun _ h => h.2.1) Try.underlying26 rfl HKL.out) hHeld ?_
      try simp only [Act.put, List.setIfInBounds_toArray, List.set_cons_zero, List.set_cons_succ]
      refine wpAnyH_take (i := 5) (v := ?_) (by simp only [List.getElem?_toArray, List.getElem?_cons_zero, List.getElem?_cons_succ]; rfl) (by kernel_rfl) (by kernel_rfl) (by kernel_rfl) (by intro _ _ _ h; exact h) (Or.inl ⟨by rfl, ?_⟩) hHeld ?_
      rotate_left
      · (intro w hSw; (try dsimp only at hSw); go_simp; try with_reducible rfl)
      try simp only [Act.put, List.setIfInBounds_toArray, List.set_cons_zero, List.set_cons_succ]
      refine wpAnyH_ready (rs := [6]) (by kernel_rfl) (by simp) ?_
      refine AllReadyH.cons (by simp only [List.getElem?_toArray, List.getElem?_cons_zero, List.getElem?_cons_succ]; rfl) (fun K hK => ?_) AllReadyH.nil
      rw [if_pos (by rfl)]
      refine wp_gm_put (T := keyT) (.tmp 29) (.tmp 30) (.tmp 31) 54 28 rfl HM.out Try.underlying54 (by have := HN.out; unfold maxLen; omega) rfl k rfl HK.out (plv q1) rfl trivial ?_
      intro w9 hm9 hg9
      refine hK.out _ _ (HSP.out _ (fun x hx => hg9.block x (HLT.out x hx) (fun e => HNE.out x hx (by injection e with e; exact e.symm)))) (fun hHeld => ?_)
      clear hK K
      try simp only [Act.put, List.setIfInBounds_toArray, List.set_cons_zero, List.set_cons_succ]
      refine wpAnyH_done (by kernel_rfl) ?_ _
      clear hHeld
      clear hHeld HSP
      go_wp2_with fail
      go_ret
      refine ⟨by rw [HE.out.1]; rfl, ?_, Keeps.from (below_drewN B4.out 1) (Keeps.grown hg9 (fun k e => by injection e with e; exact e.symm))⟩
      rw [HE.out.2]
      have hsome : (lookR k R).isSome = true := by rw [HL.out]; rfl
      exact (HI.out.drewN 1).turn hg9 hm9 (by rw [set_len, show (valL R k).isSome = true by unfold valL; rw [HL.out]; rfl]; rfl) (fun y _ => val_set HK.out HMX.out hsome y) (rise_set HI.out.rise)
theorem move15 (p B : Nat) (R : List Ent) (k : List Int) (x : Int) (w : World) (hk : KeyOk 32 k) (h : Ix w p B R) (hn : R.length < 1000000000) :
    Calls Try.prog 15 #[.pointer (some ⟨p, 0, none⟩), kv k, .int .i64 x] w fun e w' => e = .returned (.int .i64 (moveE R k x)) ∧ Ix w' p B (moveR R k x) ∧ Keeps (fun x => x = B) w w' := by
  have HI := Lib.hid h
  have HKL : Hid ((Try.prog.info? 26).map (·.size) = some (u8l k).length) := Lib.hid (by rw [u8l_len, hk.len]; exact infoKey)
  change Calls Try.prog 15 #[_, .agg (u8l k).toArray, _] w _
  obtain ⟨kc, hkc⟩ : ∃ kc, kc = (u8l k).toArray := ⟨_, rfl⟩
  rw [← hkc]
  have HKC := Lib.hid hkc
  clear hkc h
  go_enter Try.func15, Try.ntmps15
  go_upto_region 1 with fail
  obtain ⟨b4, hb4⟩ : ∃ b, b = w.heap.size := ⟨_, rfl⟩
  obtain ⟨w1, hw1⟩ : ∃ z, z = (w.alloc (.cells kc 26)).alloc (.cells #[.int .i64 x] 3) := ⟨_, rfl⟩
  have H4 : Hid (w1.heap[b4]? = some (.cells (u8l k).toArray 26 (0, 0))) := Lib.hid (by rw [hw1, hb4, HKC.out]; exact heap_old (heap_new w _))
  have HF : Hid (w1.heap[b4 + 1]? = some (.cells #[.int .i64 x] 3 (0, 0))) := Lib.hid (by rw [hw1]; exact heap_new_at _ (by simp [hb4]))
  have B1 : Hid (Below w.heap.size w w1) := Lib.hid (by rw [hw1]; exact ((Below.refl _ _).alloc (Nat.le_refl _) _).alloc (by simp) _)
  have HI := Lib.hid (HI.out.below B1.out)
  have HK4 := Lib.hid (key_range H4.out)
  have HT := Lib.hid (move28 p B R k x (b4 + 1) w1 hk HI.out hn HF.out)
  rw [← hw1, ← hb4]
  clear hw1 hb4 HKC
  go_wp2_with (refine wpList_load_midG rfl 26 (.tmp 4) rfl b4 0 rfl (u8l k) _ HK4.out Try.underlying26 rfl HKL.out ?_)
  refine HT.out.mono ?_
  rintro e w2 ⟨rfl, hi2, hk2⟩
  have HI2 := Lib.hid hi2
  have HK2 := Lib.hid hk2
  clear hi2 hk2
  go_wp2_with fail
  go_ret
  exact ⟨rfl, HI2.out, Keeps.from B1.out HK2.out⟩
/-- What the closure of Want leaves. -/
theorem wn32 (b f g : Nat) (q : Pl) (x : Int) (w : World) (hb : w.heap[b]? = some (.cells (plc q).toArray 28 (0, 0))) (hf : w.heap[f]? = some (.cells #[.int .i64 x] 3 (0, 0))) (hg : w.heap[g]? = some (.cells #[.bool false] 4 (0, 0)))
    (hfb : ¬ f = b) (hgb : ¬ g = b) (hr : 0 ≤ q.r ∧ q.r ≤ 2147483647) (_hx : -9223372036854775808 ≤ x ∧ x ≤ 9223372036854775807) :
    Calls Try.prog 32 #[.pointer (some ⟨b, 0, none⟩), .pointer (some ⟨f, 0, none⟩), .pointer (some ⟨g, 0, none⟩)] w fun e w' => e = .returned (.bool (decide (-q.r ≤ x ∧ x ≤ 2147483647 - q.r))) ∧
      (¬ (-q.r ≤ x ∧ x ≤ 2147483647 - q.r) → ∃ m, w' = w.drewN m) ∧
      (-q.r ≤ x ∧ x ≤ 2147483647 - q.r → Keeps (fun z => z = b ∨ z = g) w w' ∧ w'.heap[b]? = some (.cells (plc { q with r := q.r + x }).toArray 28 (0, 0)) ∧ w'.heap[g]? = some (.cells #[.bool (decide (q.r + x = 0))] 4 (0, 0))) := by
  obtain ⟨c0, c1, c2, c3⟩ := pl_cells hb
  have d0 : w.cell? ⟨f, 0, none⟩ = some (.int .i64 x) := block_cell hf 0 _ rfl
  have f3 := frozen_of_row w b 3 _ _ hb
  have f0 := frozen_of_row w g 0 _ _ hg
  have g0 : w.cell? ⟨g, 0, none⟩ = some (.bool false) := block_cell hg 0 _ rfl
  have hw1 : IntKind.i64.wrap (-q.r) = -q.r := IntWalk.i64_in _ (by omega)
  have hw2 : IntKind.i64.wrap (2147483647 - q.r) = 2147483647 - q.r := IntWalk.i64_in _ (by omega)
  have HFR := Lib.hid fun m => from30 x (-q.r) (2147483647 - q.r) (w.drewN m)
  have HB := Lib.hid hb
  have HG := Lib.hid hg
  clear hb hf hg
  by_cases hin : -q.r ≤ x ∧ x ≤ 2147483647 - q.r
  rotate_left
  · have HFR2 : Hid (∀ m, Calls Try.prog 30 #[.int .i64 x, .int .i64 (-q.r), .int .i64 (2147483647 - q.r)] (w.drewN m) fun e w' => e = .returned (.bool false) ∧ w.drewN m = w') := Lib.hid fun m => by have := HFR.out m; rwa [decide_eq_false hin] at this
    have HIN := Lib.hid hin
    clear HFR hin
    go_enter Try.func32, Try.ntmps32
    go_wp2_with fail
    go_quiet ((go_at_call 30; exact quiet_left (HFR2.out _)))
    go_wp2_with fail
    go_ret
    exact ⟨by rw [decide_eq_false HIN.out]; rfl, fun _ => ⟨_, rfl⟩, fun h => absurd h HIN.out⟩
  · have HFR2 : Hid (∀ m, Calls Try.prog 30 #[.int .i64 x, .int .i64 (-q.r), .int .i64 (2147483647 - q.r)] (w.drewN m) fun e w' => e = .returned (.bool true) ∧ w.drewN m = w') := Lib.hid fun m => by have := HFR.out m; rwa [decide_eq_true hin] at this
    have HIN := Lib.hid hin
    have hw3 : IntKind.i64.wrap (q.r + x) = q.r + x := IntWalk.i64_in _ (by omega)
    have hgb2 : ¬ b = g := fun e => hgb e.symm
    have FIN : Hid (∀ m, Keeps (fun z => z = b ∨ z = g) w (((w.drewN m).setCell ⟨b, 3, none⟩ (.int .i64 (q.r + x))).setCell ⟨g, 0, none⟩ (.bool (q.r + x == 0))) ∧ (((w.drewN m).setCell ⟨b, 3, none⟩ (.int .i64 (q.r + x))).setCell ⟨g, 0, none⟩ (.bool (q.r + x == 0))).heap[b]? = some (.cells (plc { q with r := q.r + x }).toArray 28 (0, 0)) ∧ (((w.drewN m).setCell ⟨b, 3, none⟩ (.int .i64 (q.r + x))).setCell ⟨g, 0, none⟩ (.bool (q.r + x == 0))).heap[g]? = some (.cells #[.bool (decide (q.r + x = 0))] 4 (0, 0))) := Lib.hid fun m => by
      have hbq : (q.r + x == 0) = decide (q.r + x = 0) := by by_cases h : q.r + x = 0 <;> simp [h]
      refine ⟨?_, ?_, ?_⟩
      · exact ((Keeps.drewN _ w _).trans (Keeps.setCell (fun z => z = b ∨ z = g) _ ⟨b, 3, none⟩ _ (.inl rfl)) (fun _ _ h => h)).trans (Keeps.setCell _ _ ⟨g, 0, none⟩ _ (.inr rfl)) (fun _ _ h => h)
      · exact (Below.heap_setCell _ _ _ _ hgb2).trans (pl_set3 (w := w.drewN _) HB.out (q.r + x))
      · rw [heap_setCell_same _ g 0 _ _ _ ((Below.heap_setCell _ _ _ _ hgb).trans (show (w.drewN _).heap[g]? = _ from HG.out)), hbq]; rfl
    clear HFR hin
    go_enter Try.func32, Try.ntmps32
    go_wp2_with fail
    go_quiet ((go_at_call 30; exact quiet_left (HFR2.out _)))
    go_wp2_with fail
    go_region
    all_goals go_wp2_with fail
    all_goals go_ret
    all_goals exact ⟨by rw [decide_eq_true HIN.out]; rfl, fun h => absurd HIN.out h, fun _ => FIN.out _⟩
theorem gone_of {R : List Ent} {k : List Int} {q : Pl} (h : lookR k R = some q) (x : Int) : (∃ q', lookR k R = some q' ∧ (-q'.r ≤ x ∧ x ≤ 2147483647 - q'.r) ∧ q'.r + x = 0) ↔ (-q.r ≤ x ∧ x ≤ 2147483647 - q.r) ∧ q.r + x = 0 := by
  constructor
  · rintro ⟨q', h1, h2⟩
    rw [h] at h1
    obtain rfl := Option.some.inj h1
    exact h2
  · exact fun h2 => ⟨q, h, h2⟩
/-- What Want leaves ahead of deleting. -/
noncomputable def wantS (R : List Ent) (k : List Int) (x : Int) : List Ent := match lookR k R with | none => R | some q => if -q.r ≤ x ∧ x ≤ 2147483647 - q.r then setR (mkE k { q with r := q.r + x }) R else R
def Gone (R : List Ent) (k : List Int) (x : Int) : Prop := ∃ q, lookR k R = some q ∧ (-q.r ≤ x ∧ x ≤ 2147483647 - q.r) ∧ q.r + x = 0
theorem wantS_len (R : List Ent) (k : List Int) (x : Int) : (wantS R k x).length = R.length := by
  unfold wantS; split
  · rfl
  · split
    · exact set_len _ _
    · rfl
theorem want_gone {R : List Ent} {k : List Int} {x : Int} (hk : KeyOk 32 k) (h : Gone R k x) : wantR R k x = delR k (wantS R k x) ∧ (lookR k (wantS R k x)).isSome = true := by
  obtain ⟨q, h1, h2, h3⟩ := h
  have hm := may_want (look_may h1) h2
  unfold wantR wantS
  rw [h1]
  dsimp only
  rw [if_pos h2, if_pos h2, if_pos h3, del_set hk hm]
  refine ⟨rfl, ?_⟩
  rw [look_set k (by rw [mkE_k hk hm, h1]; rfl), mkE_k hk hm, if_pos rfl]; rfl
theorem want_stay {R : List Ent} {k : List Int} {x : Int} (h : ¬ Gone R k x) : wantR R k x = wantS R k x := by
  unfold wantR wantS
  cases hL : lookR k R with
  | none => rfl
  | some q =>
    dsimp only
    by_cases h2 : -q.r ≤ x ∧ x ≤ 2147483647 - q.r
    · rw [if_pos h2, if_pos h2, if_neg (fun h3 => h ⟨q, hL, h2, h3⟩)]
    · rw [if_neg h2, if_neg h2]
def WantPost (p B gb : Nat) (R : List Ent) (k : List Int) (x : Int) (w : World) (e : Ending) (w' : World) : Prop :=
  ∃ z : Bool, e = .returned (.int .i64 (wantE R k x)) ∧ Ix w' p B (wantS R k x) ∧ w'.heap[gb]? = some (.cells #[.bool z] 4 (0, 0)) ∧ (z = true ↔ Gone R k x) ∧ Keeps (fun z => z = B ∨ z = gb) w w'
theorem box_cell {w : World} {b : Nat} {u : Value} {t : TypeId} {z : Nat × Nat} (h : w.heap[b]? = some (.cells #[u] t z)) : w.cell? ⟨b, 0, none⟩ = some u := block_cell h 0 _ rfl

set_option maxRecDepth 100000 in
set_option maxHeartbeats 4000000 in
theorem want28 (p B : Nat) (R : List Ent) (k : List Int) (x : Int) (fb gb : Nat) (w : World) (hk : KeyOk 32 k) (h : Ix w p B R) (hn : R.length < 1000000000) (hf : w.heap[fb]? = some (.cells #[.int .i64 x] 3 (0, 0))) (hg : w.heap[gb]? = some (.cells #[.bool false] 4 (0, 0))) (hgp : ¬ gb = p ∧ ¬ gb = B) (hx : -9223372036854775808 ≤ x ∧ x ≤ 9223372036854775807) :
    Calls Try.prog 28 #[.pointer (some ⟨p, 0, none⟩), kv k, .func (.func 32) #[] #[.pointer (some ⟨fb, 0, none⟩), .pointer (some ⟨gb, 0, none⟩)]] w fun e w' => WantPost p B gb R k x w e w' := by
  have HK := Lib.hid hk
  have HI := Lib.hid h
  have HN := Lib.hid hn
  obtain ⟨q0, is, his, hq1, hq0, hlk⟩ := look_run (R := R) hk
  have HIS := Lib.hid his
  have HQ1 := Lib.hid hq1
  have HQ0 := Lib.hid hq0
  have HLK := Lib.hid hlk
  have HKL : Hid ((Try.prog.info? 26).map (·.size) = some (u8l k).length) := Lib.hid (by rw [u8l_len, hk.len]; exact infoKey)
  change Calls Try.prog 28 #[.pointer (some ⟨p, 0, none⟩), .agg (u8l k).toArray, .func (.func 32) #[] #[.pointer (some ⟨fb, 0, none⟩), .pointer (some ⟨gb, 0, none⟩)]] w _
  obtain ⟨kc, hkc⟩ : ∃ kc, kc = (u8l k).toArray := ⟨_, rfl⟩
  rw [← hkc]
  have HKC := Lib.hid hkc
  clear hkc hk h hn his hq1 hq0 hlk
  have HF := Lib.hid hf
  have HG := Lib.hid hg
  have HGP := Lib.hid hgp
  have HXB := Lib.hid hx
  clear hf hg hgp hx
  go_enter Try.func28, Try.ntmps28
  go_wp2_with fail
  obtain ⟨b4, hb4⟩ : ∃ b, b = w.heap.size := ⟨_, rfl⟩
  obtain ⟨w1, hw1⟩ : ∃ z, z = w.alloc (.cells kc 26) := ⟨_, rfl⟩
  have H4 : Hid (w1.heap[b4]? = some (.cells (u8l k).toArray 26 (0, 0))) := Lib.hid (by rw [hw1, hb4, HKC.out]; exact heap_new w _)
  have B1 : Hid (Below w.heap.size w w1) := Lib.hid (by rw [hw1]; exact (Below.refl _ _).alloc (Nat.le_refl _) _)
  have HPB : Hid (p < b4 ∧ B < b4 ∧ fb < b4 ∧ gb < b4) := Lib.hid (by rw [hb4]; exact ⟨HI.out.lt.1, HI.out.lt.2, heap_lt HF.out, heap_lt HG.out⟩)
  have HB4 := Lib.hid hb4
  have HI := Lib.hid (HI.out.below B1.out)
  have HF := Lib.hid ((B1.out.block _ (heap_lt HF.out)).trans HF.out)
  have HG := Lib.hid ((B1.out.block _ (heap_lt HG.out)).trans HG.out)
  rw [← hw1, ← hb4]
  clear hw1 hb4 HKC
  refine (there21 p B w1 HI.out.at0).mono ?_
  rintro e _ ⟨rfl, rfl⟩
  go_wp2_with fail
  have H41 := Lib.hid H4.out
  have HSF : Hid (∀ W, Below w1.heap.size w1 W → (fun w' : World => w'.cell? ⟨p, 0, none⟩ = some (.map (some B)) ∧ w'.rangeAt b4 0 (u8l k) ∧ Hid (Ix w' p B R)) W) := Lib.hid fun W h => ⟨(HI.out.below h).at0, key_range ((h.block b4 (heap_lt H4.out)).trans H4.out), Lib.hid (HI.out.below h)⟩
  have BD : Hid (Below w1.heap.size w1 w1.drew) := Lib.hid (below_drewN (Below.refl _ _) 1)
  refine wp_region_held_drew (S := (fun w' : World => w'.cell? ⟨p, 0, none⟩ = some (.map (some B)) ∧ w'.rangeAt b4 0 (u8l k) ∧ Hid (Ix w' p B R))) follows (HSF.out _ BD.out) (fun hHeld => ?_)
  refine wpAnyH_take (i := 0) (v := ?_) (by simp only [List.getElem?_toArray, List.getElem?_cons_zero]; rfl) (by kernel_rfl) (by kernel_rfl) (by kernel_rfl) (by intro _ _ _ h; exact h) (Or.inl ⟨by rfl, ?_⟩) hHeld ?_
  rotate_left
  · (intro w hSw; (try dsimp only at hSw); go_simp; try with_reducible rfl)
  try simp only [Act.put, List.setIfInBounds_toArray, List.set_cons_zero, List.set_cons_succ]
  refine wpAnyH_take (i := 1) (v := ?_) (by simp only [List.getElem?_toArray, List.getElem?_cons_zero, List.getElem?_cons_succ]; rfl) (by kernel_rfl) (by kernel_rfl) (by kernel_rfl) (by intro _ _ _ h; exact h) (Or.inl ⟨by rfl, ?_⟩) hHeld ?_
  rotate_left
  · (intro w hSw; (try dsimp only at hSw); go_simp; try with_reducible rfl)
  try simp only [Act.put, List.setIfInBounds_toArray, List.set_cons_zero, List.set_cons_succ]
  refine wpAnyH_take (i := 2) (v := ?_) (by simp only [List.getElem?_toArray, List.getElem?_cons_zero, List.getElem?_cons_succ]; rfl) (by kernel_rfl) (by kernel_rfl) (by kernel_rfl) (by intro _ _ _ h; exact h) (Or.inl ⟨by rfl, ?_⟩) hHeld ?_
  rotate_left
  · (intro w hSw; (try dsimp only at hSw); go_simp; try with_reducible rfl)
  try simp only [Act.put, List.setIfInBounds_toArray, List.set_cons_zero, List.set_cons_succ]
  refine wpAnyH_take (i := 3) (v := ?_) (by simp only [List.getElem?_toArray, List.getElem?_cons_zero, List.getElem?_cons_succ]; rfl) (by kernel_rfl) (by kernel_rfl) (by kernel_rfl) (by intro _ _ _ h; exact h) (Or.inl ⟨by rfl, ?_⟩) hHeld ?_
  rotate_left
  · (intro w hSw; (try dsimp only at hSw); go_simp; try with_reducible rfl)
  try simp only [Act.put, List.setIfInBounds_toArray, List.set_cons_zero, List.set_cons_succ]
  refine wpAnyH_take (i := 4) (v := _) (by simp only [List.getElem?_toArray, List.getElem?_cons_zero, List.getElem?_cons_succ]; rfl) (by kernel_rfl) (by kernel_rfl) (by kernel_rfl) (by intro _ _ _ h; exact h) (yieldsIf_load_mid (by rfl) 26 (.tmp 4) rfl b4 0 rfl (u8l k) _ (fun _ h => h.2.1) Try.underlying26 rfl HKL.out) hHeld ?_
  try simp only [Act.put, List.setIfInBounds_toArray, List.set_cons_zero, List.set_cons_succ]
  refine wpAnyH_take (i := 5) (v := _) (by simp only [List.getElem?_toArray, List.getElem?_cons_zero, List.getElem?_cons_succ]; rfl) (by kernel_rfl) (by kernel_rfl) (by kernel_rfl) (by intro _ _ _ h; exact h) (yields_look (by rfl) 54 (.tmp 16) (.tmp 17) true rfl (.map (some B)) (kv k) rfl rfl (.tuple #[plv q0, .bool is]) (fun W h => HLK.out W p B h.2.2.out)) hHeld ?_
  try simp only [Act.put, List.setIfInBounds_toArray, List.set_cons_zero, List.set_cons_succ]
  refine wpAnyH_take (i := 6) (v := ?_) (by simp only [List.getElem?_toArray, List.getElem?_cons_zero, List.getElem?_cons_succ]; rfl) (by kernel_rfl) (by kernel_rfl) (by kernel_rfl) (by intro _ _ _ h; exact h) (Or.inl ⟨by rfl, ?_⟩) hHeld ?_
  rotate_left
  · (intro w hSw; (try dsimp only at hSw); go_simp; try with_reducible rfl)
  try simp only [Act.put, List.setIfInBounds_toArray, List.set_cons_zero, List.set_cons_succ]
  refine wpAnyH_take (i := 7) (v := ?_) (by simp only [List.getElem?_toArray, List.getElem?_cons_zero, List.getElem?_cons_succ]; rfl) (by kernel_rfl) (by kernel_rfl) (by kernel_rfl) (by intro _ _ _ h; exact h) (Or.inl ⟨by rfl, ?_⟩) hHeld ?_
  rotate_left
  · (intro w hSw; (try dsimp only at hSw); go_simp; try with_reducible rfl)
  try simp only [Act.put, List.setIfInBounds_toArray, List.set_cons_zero, List.set_cons_succ]
  refine wpAnyH_take (i := 8) (v := ?_) (by simp only [List.getElem?_toArray, List.getElem?_cons_zero, List.getElem?_cons_succ]; rfl) (by kernel_rfl) (by kernel_rfl) (by kernel_rfl) (by intro _ _ _ h; exact h) (Or.inl ⟨by rfl, ?_⟩) hHeld ?_
  rotate_left
  · (intro w hSw; (try dsimp only at hSw); go_simp; try with_reducible rfl)
  try simp only [Act.put, List.setIfInBounds_toArray, List.set_cons_zero, List.set_cons_succ]
  refine wpAnyH_ready (rs := [9]) (by kernel_rfl) (by simp) ?_
  refine AllReadyH.cons (by simp only [List.getElem?_toArray, List.getElem?_cons_zero, List.getElem?_cons_succ]; rfl) (fun K hK => ?_) AllReadyH.nil
  rw [if_pos (by rfl)]
  go_simp
  refine hK.out _ _ (HSF.out _ (BD.out.alloc BD.out.size _)) (fun hHeld => ?_)
  clear hK K
  try simp only [Act.put, List.setIfInBounds_toArray, List.set_cons_zero, List.set_cons_succ]
  refine wpAnyH_ready (rs := [10]) (by kernel_rfl) (by simp) ?_
  refine AllReadyH.cons (by simp only [List.getElem?_toArray, List.getElem?_cons_zero, List.getElem?_cons_succ]; rfl) (fun K hK => ?_) AllReadyH.nil
  rw [if_pos (by rfl)]
  go_simp
  refine hK.out _ _ (HSF.out _ (BD.out.alloc BD.out.size _)) (fun hHeld => ?_)
  clear hK K
  try simp only [Act.put, List.setIfInBounds_toArray, List.set_cons_zero, List.set_cons_succ]
  refine wpAnyH_take (i := 11) (v := ?_) (by simp only [List.getElem?_toArray, List.getElem?_cons_zero, List.getElem?_cons_succ]; rfl) (by kernel_rfl) (by kernel_rfl) (by kernel_rfl) (by intro _ _ _ h; exact h) (Or.inl ⟨by rfl, ?_⟩) hHeld ?_
  rotate_left
  · (intro w hSw; (try dsimp only at hSw); go_simp; try with_reducible rfl)
  try simp only [Act.put, List.setIfInBounds_toArray, List.set_cons_zero, List.set_cons_succ]
  refine wpAnyH_done (by kernel_rfl) ?_ _
  clear hHeld
  obtain ⟨b7, hb7⟩ : ∃ b, b = w1.heap.size := ⟨_, rfl⟩
  obtain ⟨w3, hnw⟩ : ∃ z, z = (w1.alloc (.cells #[.int .i64 q0.a, .int .i64 q0.n, .int .i64 q0.u, .int .i64 q0.r] 28)).drew := ⟨_, rfl⟩
  have BN : Hid (Below w1.heap.size w1 w3) := Lib.hid (by rw [hnw]; exact below_drewN ((Below.refl _ _).alloc (Nat.le_refl _) _) 1)
  have H7 : Hid (w3.heap[b7]? = some (.cells (plc q0).toArray 28 (0, 0))) := Lib.hid (by rw [hnw]; exact heap_new_at (w := w1) _ hb7)
  have HB7 : Hid (b7 = w1.heap.size) := Lib.hid hb7
  rw [← hnw, ← hb7]
  clear hnw hb7 HSF BD
  have HI := Lib.hid (HI.out.below BN.out)
  have B3 := Lib.hid (B1.out.trans (BN.out.mono B1.out.size))
  have H4 := Lib.hid ((BN.out.block _ (heap_lt H4.out)).trans H4.out)
  have HF := Lib.hid ((BN.out.block _ (heap_lt HF.out)).trans HF.out)
  have HG := Lib.hid ((BN.out.block _ (heap_lt HG.out)).trans HG.out)
  have HW1 : Hid (b4 < b7) := Lib.hid (by have := HB7.out; have := B1.out; have h9 := heap_lt H41.out; omega)

  cases is with
  | false =>
    have hno : lookR k R = none := by
      have := HIS.out
      cases hL : lookR k R with
      | none => rfl
      | some v => rw [hL] at this; cases this
    have HE : Hid (wantE R k x = 6 ∧ wantS R k x = R ∧ ¬ Gone R k x) := Lib.hid ⟨by unfold wantE; rw [hno], by unfold wantS; rw [hno], fun h => by obtain ⟨q, h1, _⟩ := h; rw [hno] at h1; cases h1⟩
    clear hno
    go_wp2_with fail
    go_ret
    exact ⟨false, by rw [HE.out.1]; rfl, by rw [HE.out.2.1]; exact HI.out, HG.out, ⟨fun h => (by cases h), fun h => absurd h HE.out.2.2⟩, Keeps.fresh B3.out⟩
  | true =>
    have hL := HQ1.out rfl
    have hmr := (may_true.1 (look_may hL)).2.2.2
    have HMY := Lib.hid (look_may hL)
    have HL := Lib.hid hL
    have hsep := HPB.out
    have hlt7 := HW1.out
    clear hL
    go_wp2_with fail
    refine (wn32 b7 fb gb q0 x w3 H7.out HF.out HG.out (by omega) (by omega) hmr HXB.out).mono ?_
    rintro e w4 ⟨rfl, hno, hyes⟩
    by_cases hx : -q0.r ≤ x ∧ x ≤ 2147483647 - q0.r
    rotate_left
    · obtain ⟨m, rfl⟩ := hno hx
      have HE : Hid (wantE R k x = 2 ∧ wantS R k x = R ∧ ¬ Gone R k x) := Lib.hid ⟨by unfold wantE; rw [HL.out]; exact if_neg hx, by unfold wantS; rw [HL.out]; exact if_neg hx, fun h => hx ((gone_of HL.out x).1 h).1⟩
      rw [decide_eq_false hx]
      clear hx hno hyes
      go_wp2_with fail
      go_ret
      exact ⟨false, by rw [HE.out.1]; rfl, by rw [HE.out.2.1]; exact HI.out.drewN _, HG.out, ⟨fun h => (by cases h), fun h => absurd h HE.out.2.2⟩, Keeps.fresh (below_drewN B3.out _)⟩
    · obtain ⟨K4, h5, hg4⟩ := hyes hx
      have H5 := Lib.hid h5
      have HI := Lib.hid (HI.out.keeps (w' := w4) fun z hz => K4.block z (by rcases hz with rfl | rfl; exact HI.out.lt.1; exact HI.out.lt.2) (by have := HGP.out; rcases hz with rfl | rfl <;> omega))
      have H4 := Lib.hid (K4.heap H4.out (by omega))
      have KW : Hid (Keeps (fun z => z = B ∨ z = gb) w w4) := Lib.hid (Keeps.mk (K4.os.trans B3.out.os) (K4.tape.trans B3.out.tape) (K4.output.trans B3.out.output) (Nat.le_trans B3.out.size K4.size) (fun z hz hn => (K4.block z (Nat.lt_of_lt_of_le hz B3.out.size) (fun h => by have := HB4.out; rcases h with rfl | rfl; omega; exact hn (.inr rfl))).trans (B3.out.block z hz)))
      have HG4 := Lib.hid hg4
      have HE : Hid (wantE R k x = 0 ∧ wantS R k x = setR (mkE k { q0 with r := q0.r + x }) R ∧ (Gone R k x ↔ q0.r + x = 0)) := Lib.hid ⟨by unfold wantE; rw [HL.out]; exact if_pos hx, by unfold wantS; rw [HL.out]; exact if_pos hx, (gone_of HL.out x).trans ⟨fun h => h.2, fun h => ⟨hx, h⟩⟩⟩
      have HMX := Lib.hid (may_want HMY.out hx)
      rw [decide_eq_true hx]
      clear hx hno hyes K4 h5 hg4 hsep hlt7 hmr
      obtain ⟨q1, hq1⟩ : ∃ q1, q1 = { q0 with r := q0.r + x } := ⟨_, rfl⟩
      rw [← hq1] at H5 HE HMX
      clear hq1
      have HM : Hid (Gm Try.prog w4.drew keyT (fun _ => True) B R.length (valL R)) := Lib.hid (HI.out.map.keeps rfl)
      have HLT : Hid (∀ z, z = p ∨ z = b4 ∨ z = b7 → z < w4.drew.heap.size) := Lib.hid fun z hz => by
        rcases hz with rfl | rfl | rfl
        · exact HI.out.lt.1
        · exact heap_lt H4.out
        · exact heap_lt H5.out
      have HNE : Hid (∀ z, z = p ∨ z = b4 ∨ z = b7 → B ≠ z) := Lib.hid fun z hz => by
        have := HPB.out
        have := HW1.out
        rcases hz with rfl | rfl | rfl
        · exact fun e => HI.out.ne e.symm
        · omega
        · omega
      go_wp2_with fail
      have HSP : Hid (∀ W, (∀ x, x = p ∨ x = b4 ∨ x = b7 → W.heap[x]? = w4.heap[x]?) → (fun w' : World => w'.cell? ⟨p, 0, none⟩ = some (.map (some B)) ∧ w'.rangeAt b4 0 (u8l k) ∧ (w'.cell? ⟨b7, 0, none⟩ = some (.int .i64 q1.a) ∧ w'.cell? ⟨b7, 1, none⟩ = some (.int .i64 q1.n) ∧ w'.cell? ⟨b7, 2, none⟩ = some (.int .i64 q1.u) ∧ w'.cell? ⟨b7, 3, none⟩ = some (.int .i64 q1.r))) W) := Lib.hid fun W h => ⟨block_cell ((h p (.inl rfl)).trans HI.out.cell) 0 _ rfl, key_range ((h b4 (.inr (.inl rfl))).trans H4.out), pl_cells ((h b7 (.inr (.inr rfl))).trans H5.out)⟩
      refine wp_region_held_drew (S := (fun w' : World => w'.cell? ⟨p, 0, none⟩ = some (.map (some B)) ∧ w'.rangeAt b4 0 (u8l k) ∧ (w'.cell? ⟨b7, 0, none⟩ = some (.int .i64 q1.a) ∧ w'.cell? ⟨b7, 1, none⟩ = some (.int .i64 q1.n) ∧ w'.cell? ⟨b7, 2, none⟩ = some (.int .i64 q1.u) ∧ w'.cell? ⟨b7, 3, none⟩ = some (.int .i64 q1.r)))) follows (HSP.out _ (fun _ _ => rfl)) (fun hHeld => ?_)
      refine wpAnyH_take (i := 0) (v := ?_) (by simp only [List.getElem?_toArray, List.getElem?_cons_zero]; rfl) (by kernel_rfl) (by kernel_rfl) (by kernel_rfl) (by intro _ _ _ h; exact h) (Or.inl ⟨by rfl, ?_⟩) hHeld ?_
      rotate_left
      · (intro w hSw; (try dsimp only at hSw); go_simp; try with_reducible rfl)
      try simp only [Act.put, List.setIfInBounds_toArray, List.set_cons_zero, List.set_cons_succ]
      refine wpAnyH_take (i := 1) (v := ?_) (by simp only [List.getElem?_toArray, List.getElem?_cons_zero, List.getElem?_cons_succ]; rfl) (by kernel_rfl) (by kernel_rfl) (by kernel_rfl) (by intro _ _ _ h; exact h) (Or.inl ⟨by rfl, ?_⟩) hHeld ?_
      rotate_left
      · (intro w hSw; (try dsimp only at hSw); go_simp; try with_reducible rfl)
      try simp only [Act.put, List.setIfInBounds_toArray, List.set_cons_zero, List.set_cons_succ]
      refine wpAnyH_take (i := 2) (v := ?_) (by simp only [List.getElem?_toArray, List.getElem?_cons_zero, List.getElem?_cons_succ]; rfl) (by kernel_rfl) (by kernel_rfl) (by kernel_rfl) (by intro _ _ _ h; exact h) (Or.inl ⟨by rfl, ?_⟩) hHeld ?_
      rotate_left
      · (intro w hSw; (try dsimp only at hSw); go_simp; try with_reducible rfl)
      try simp only [Act.put, List.setIfInBounds_toArray, List.set_cons_zero, List.set_cons_succ]
      refine wpAnyH_take (i := 3) (v := ?_) (by simp only [List.getElem?_toArray, List.getElem?_cons_zero, List.getElem?_cons_succ]; rfl) (by kernel_rfl) (by kernel_rfl) (by kernel_rfl) (by intro _ _ _ h; exact h) (Or.inl ⟨by rfl, ?_⟩) hHeld ?_
      rotate_left
      · (intro w hSw; (try dsimp only at hSw); go_simp; try with_reducible rfl)
      try simp only [Act.put, List.setIfInBounds_toArray, List.set_cons_zero, List.set_cons_succ]
      refine wpAnyH_take (i := 4) (v := _) (by simp only [List.getElem?_toArray, List.getElem?_cons_zero, List.getElem?_cons_succ]; rfl) (by kernel_rfl) (by kernel_rfl) (by kernel_rfl) (by intro _ _ _ h; exact h) (yieldsIf_load_mid (by rfl) 26 (.tmp 4) rfl b4 0 rfl (u8l k) _ (fun _ h => h.2.1) Try.underlying26 rfl HKL.out) hHeld ?_
      try simp only [Act.put, List.setIfInBounds_toArray, List.set_cons_zero, List.set_cons_succ]
      refine wpAnyH_take (i := 5) (v := ?_) (by simp only [List.getElem?_toArray, List.getElem?_cons_zero, List.getElem?_cons_succ]; rfl) (by kernel_rfl) (by kernel_rfl) (by kernel_rfl) (by intro _ _ _ h; exact h) (Or.inl ⟨by rfl, ?_⟩) hHeld ?_
      rotate_left
      · (intro w hSw; (try dsimp only at hSw); go_simp; try with_reducible rfl)
      try simp only [Act.put, List.setIfInBounds_toArray, List.set_cons_zero, List.set_cons_succ]
      refine wpAnyH_ready (rs := [6]) (by kernel_rfl) (by simp) ?_
      refine AllReadyH.cons (by simp only [List.getElem?_toArray, List.getElem?_cons_zero, List.getElem?_cons_succ]; rfl) (fun K hK => ?_) AllReadyH.nil
      rw [if_pos (by rfl)]
      refine wp_gm_put (T := keyT) (.tmp 29) (.tmp 30) (.tmp 31) 54 28 rfl HM.out Try.underlying54 (by have := HN.out; unfold maxLen; omega) rfl k rfl HK.out (plv q1) rfl trivial ?_
      intro w9 hm9 hg9
      refine hK.out _ _ (HSP.out _ (fun x hx => hg9.block x (HLT.out x hx) (fun e => HNE.out x hx (by injection e with e; exact e.symm)))) (fun hHeld => ?_)
      clear hK K
      try simp only [Act.put, List.setIfInBounds_toArray, List.set_cons_zero, List.set_cons_succ]
      refine wpAnyH_done (by kernel_rfl) ?_ _
      clear hHeld
      clear hHeld HSP
      go_wp2_with fail
      go_ret
      have hsome : (lookR k R).isSome = true := by rw [HL.out]; rfl
      refine ⟨_, by rw [HE.out.1]; rfl, ?_, (hg9.block gb (heap_lt HG4.out) (fun e => HGP.out.2 (by injection e))).trans HG4.out, ?_, ?_⟩
      · rw [HE.out.2.1]
        exact (HI.out.drewN 1).turn hg9 hm9 (by rw [set_len, show (valL R k).isSome = true by unfold valL; rw [HL.out]; rfl]; rfl) (fun y _ => val_set HK.out HMX.out hsome y) (rise_set HI.out.rise)
      · rw [HE.out.2.2, decide_eq_true_eq]
      · have hk9 : Keeps (fun z => z = B ∨ z = gb) w4 w9 := (Keeps.drew _ w4).trans (Keeps.grown hg9 (fun k e => by injection e with e; exact .inl e.symm)) (fun _ _ h => h)
        exact KW.out.trans hk9 (fun _ _ h => h)
set_option maxHeartbeats 1000000 in
theorem want17 (p B : Nat) (R : List Ent) (k : List Int) (x : Int) (w : World) (hk : KeyOk 32 k) (h : Ix w p B R) (hn : R.length < 1000000000) (hx : -9223372036854775808 ≤ x ∧ x ≤ 9223372036854775807) :
    Calls Try.prog 17 #[.pointer (some ⟨p, 0, none⟩), kv k, .int .i64 x] w fun e w' => e = .returned (.int .i64 (wantE R k x)) ∧ Ix w' p B (wantR R k x) ∧ Keeps (fun x => x = B) w w' := by
  have HI := Lib.hid h
  have HK := Lib.hid hk
  have HLB := Lib.hid h.lt
  have HKL : Hid ((Try.prog.info? 26).map (·.size) = some (u8l k).length) := Lib.hid (by rw [u8l_len, hk.len]; exact infoKey)
  change Calls Try.prog 17 #[_, .agg (u8l k).toArray, _] w _
  obtain ⟨kc, hkc⟩ : ∃ kc, kc = (u8l k).toArray := ⟨_, rfl⟩
  rw [← hkc]
  have HKC := Lib.hid hkc
  clear hkc h
  go_enter Try.func17, Try.ntmps17
  go_upto_region 2 with fail
  obtain ⟨b4, hb4⟩ : ∃ b, b = w.heap.size := ⟨_, rfl⟩
  obtain ⟨w1, hw1⟩ : ∃ z, z = ((w.alloc (.cells kc 26)).alloc (.cells #[.int .i64 x] 3)).alloc (.cells #[.bool false] 4) := ⟨_, rfl⟩
  have H4 : Hid (w1.heap[b4]? = some (.cells (u8l k).toArray 26 (0, 0))) := Lib.hid (by rw [hw1, hb4, HKC.out]; exact heap_old (heap_old (heap_new w _)))
  have HF : Hid (w1.heap[b4 + 1]? = some (.cells #[.int .i64 x] 3 (0, 0))) := Lib.hid (by rw [hw1]; exact heap_old (heap_new_at _ (by simp [hb4])))
  have HG : Hid (w1.heap[b4 + 2]? = some (.cells #[.bool false] 4 (0, 0))) := Lib.hid (by rw [hw1]; exact heap_new_at _ (by simp [hb4]))
  have B1 : Hid (Below w.heap.size w w1) := Lib.hid (by rw [hw1]; exact (((Below.refl _ _).alloc (Nat.le_refl _) _).alloc (by simp) _).alloc (by simp; omega) _)
  have HI := Lib.hid (HI.out.below B1.out)
  have HK4 := Lib.hid (key_range H4.out)
  have HB4 := Lib.hid hb4
  have HT := Lib.hid (want28 p B R k x (b4 + 1) (b4 + 2) w1 hk HI.out hn HF.out HG.out (by have := HLB.out; omega) hx)
  rw [← hw1, ← hb4]
  clear hw1 hb4 HKC
  go_wp2_with (refine wpList_load_midG rfl 26 (.tmp 4) rfl b4 0 rfl (u8l k) _ HK4.out Try.underlying26 rfl HKL.out ?_)
  refine HT.out.mono ?_
  rintro e w2 ⟨z, rfl, hi2, hg2, hz, hk2⟩
  have HI2 := Lib.hid hi2
  have HZ := Lib.hid hz
  have K2 := Lib.hid hk2
  have H42 := Lib.hid (hk2.heap H4.out (by have := HLB.out; have := HB4.out; omega))
  have cg := box_cell hg2
  have HKB : Hid (Keeps (fun x => x = B) w w2) := Lib.hid ⟨hk2.os.trans B1.out.os, hk2.tape.trans B1.out.tape, hk2.output.trans B1.out.output, Nat.le_trans B1.out.size hk2.size, fun y hy hn => (hk2.block y (Nat.lt_of_lt_of_le hy B1.out.size) (fun h => by have := HB4.out; rcases h with h | h; exact hn h; omega)).trans (B1.out.block y hy)⟩
  clear hi2 hg2 hz hk2 HT
  cases z with
  | false =>
    have HE : Hid (wantR R k x = wantS R k x) := Lib.hid (want_stay fun h => by have := HZ.out.2 h; cases this)
    go_wp2_with fail
    go_ret
    exact ⟨rfl, by rw [HE.out]; exact HI2.out, HKB.out⟩
  | true =>
    have HE := Lib.hid (want_gone HK.out (HZ.out.1 rfl))
    go_wp2_with fail
    refine wp_region_held_drew (S := (fun w' : World => w'.cell? ⟨p, 0, none⟩ = some (.map (some B)) ∧ w'.rangeAt b4 0 (u8l k))) follows ⟨HI2.out.at0, key_range (w := w2.drew) H42.out⟩ (fun hHeld => ?_)
    refine wpAnyH_take (i := 0) (v := ?_) (by simp only [List.getElem?_toArray, List.getElem?_cons_zero]; rfl) (by kernel_rfl) (by kernel_rfl) (by kernel_rfl) (by intro _ _ _ h; exact h) (Or.inl ⟨by rfl, ?_⟩) hHeld ?_
    rotate_left
    · (intro w hSw; (try dsimp only at hSw); go_simp; try with_reducible rfl)
    try simp only [Act.put, List.setIfInBounds_toArray, List.set_cons_zero, List.set_cons_succ]
    refine wpAnyH_take (i := 1) (v := ?_) (by simp only [List.getElem?_toArray, List.getElem?_cons_zero, List.getElem?_cons_succ]; rfl) (by kernel_rfl) (by kernel_rfl) (by kernel_rfl) (by intro _ _ _ h; exact h) (Or.inl ⟨by rfl, ?_⟩) hHeld ?_
    rotate_left
    · (intro w hSw; (try dsimp only at hSw); go_simp; try with_reducible rfl)
    try simp only [Act.put, List.setIfInBounds_toArray, List.set_cons_zero, List.set_cons_succ]
    refine wpAnyH_take (i := 2) (v := ?_) (by simp only [List.getElem?_toArray, List.getElem?_cons_zero, List.getElem?_cons_succ]; rfl) (by kernel_rfl) (by kernel_rfl) (by kernel_rfl) (by intro _ _ _ h; exact h) (Or.inl ⟨by rfl, ?_⟩) hHeld ?_
    rotate_left
    · (intro w hSw; (try dsimp only at hSw); go_simp; try with_reducible rfl)
    try simp only [Act.put, List.setIfInBounds_toArray, List.set_cons_zero, List.set_cons_succ]
    refine wpAnyH_take (i := 3) (v := ?_) (by simp only [List.getElem?_toArray, List.getElem?_cons_zero, List.getElem?_cons_succ]; rfl) (by kernel_rfl) (by kernel_rfl) (by kernel_rfl) (by intro _ _ _ h; exact h) (Or.inl ⟨by rfl, ?_⟩) hHeld ?_
    rotate_left
    · (intro w hSw; (try dsimp only at hSw); go_simp; try with_reducible rfl)
    try simp only [Act.put, List.setIfInBounds_toArray, List.set_cons_zero, List.set_cons_succ]
    refine wpAnyH_take (i := 4) (v := _) (by simp only [List.getElem?_toArray, List.getElem?_cons_zero, List.getElem?_cons_succ]; rfl) (by kernel_rfl) (by kernel_rfl) (by kernel_rfl) (by intro _ _ _ h; exact h) (yieldsIf_load_mid (by rfl) 26 (.tmp 4) rfl b4 0 rfl (u8l k) _ (fun _ h => h.2) Try.underlying26 rfl HKL.out) hHeld ?_
    try simp only [Act.put, List.setIfInBounds_toArray, List.set_cons_zero, List.set_cons_succ]
    refine wpAnyH_ready (rs := [5]) (by kernel_rfl) (by simp) ?_
    refine AllReadyH.cons (by simp only [List.getElem?_toArray, List.getElem?_cons_zero, List.getElem?_cons_succ]; rfl) (fun K hK => ?_) AllReadyH.nil
    rw [if_pos (by rfl)]
    refine wp_gm_del (T := keyT) (.tmp 17) (.tmp 18) 54 28 rfl ((HI2.out.drewN 1).map) Try.underlying54 rfl k rfl HK.out ?_
    intro w3 hm3 hg3
    have HM3 := Lib.hid hm3
    have HG3 := Lib.hid hg3
    refine hK.out _ _ ⟨block_cell ((hg3.block p HI2.out.lt.1 (fun e => HI2.out.ne (by injection e))).trans HI2.out.cell) 0 _ rfl, key_range ((hg3.block b4 (heap_lt H42.out) (fun e => by injection e with e; have := HLB.out; have := HB4.out; omega)).trans H42.out)⟩ (fun hHeld => ?_)
    clear hK K hm3 hg3
    try simp only [Act.put, List.setIfInBounds_toArray, List.set_cons_zero, List.set_cons_succ]
    refine wpAnyH_done (by kernel_rfl) ?_ _
    clear hHeld
    clear hHeld
    go_wp2_with fail
    go_ret
    refine ⟨rfl, ?_, HKB.out.trans ((Keeps.drew _ w2).trans (Keeps.grown HG3.out (S := fun x => x = B) (fun k e => by injection e with e; exact e.symm)) (fun _ _ h => h)) (fun _ _ h => h)⟩
    rw [HE.out.1]
    have hv : (valL (wantS R k x) k).isSome = true := by unfold valL; have := HE.out.2; cases hL : lookR k (wantS R k x) with | none => rw [hL] at this; cases this | some v => rfl
    exact (HI2.out.drewN 1).turn HG3.out HM3.out (by rw [if_pos hv]; have := del_len HI2.out.rise HE.out.2; omega) (fun y _ => val_del y) (rise_del HI2.out.rise)
end Go.Proofs.Ytnindkpgmiafnaa
