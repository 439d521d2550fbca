/- What Take of layer 19 (space) computes where there is room. No condition but where a space lies. Printed by genF.py. -/
import Derived.Test.YtgoblbmekhcekaaF
import Derived.Great.BuildSlice
namespace Go.Proofs.Ytgoblbmekhcekaa
open Go.RowKit
section
variable {P : Program}
/-- A slice literal of one struct, known whole. -/
theorem wp_slice1 {o : Oper} {a : Act} {w : World} {K : Act → World → Prop} {Q : Exit → Act → World → Prop} (t e : TypeId) (x : Operand) (ho : o.op = .buildSlice t 1 #[(0, x)]) (cs : List Value) (hx : a.eval x = .agg cs.toArray)
    (i : TypeInfo) (z : Value) (hu : P.underlying t = some (.slice e)) (hi : P.info? e = some i) (hz : i.zero = some z) (hs : i.size = cs.length) (h0 : 0 < cs.length) (h2 : cs.length ≤ 2 ^ 24)
    (h : K (a.put o.dst (.slice (some ⟨w.heap.size, 0, none⟩) 1 1)) (w.alloc (.cells cs.toArray e))) : o.wp P a w K Q := by
  refine wp_buildSlice t e 1 _ ho cs.toArray i z hu hi hz (by rw [hs]; omega) (by rw [hs]; omega) ?_ h
  have hf := Great.fill_whole (s := i.size) (by rw [hs]; exact h0) [Value.agg cs.toArray] ((Array.range (1 * i.size)).map (z.cells[· % z.cells.size]!)) (by intro v hv; obtain rfl := List.mem_singleton.1 hv; rw [hs]; simp [Value.cells]) (by simp)
  have e1 : ([Value.agg cs.toArray].flatMap fun v => v.cells.toList).toArray = cs.toArray := by simp [Value.cells]
  rw [e1] at hf
  rw [← hf]
  simp [hx]
end
theorem follows : Try.prog.follows .mixedOrders = true := by kernel_rfl
theorem ret_i2 {a b : Int} {c : Value} (h : a = b) : Ending.returned (.tuple #[.int .i64 a, c]) = .returned (.tuple #[.int .i64 b, c]) := by rw [h]
def more (n : Nw) (s : Int) : Nw := ⟨n.fr, n.op, n.fl + s⟩
theorem info56z : (Try.prog.info? 56).map (fun i => (i.zero, i.size, i.bytes)) = some (some (.agg zN.toArray), 258, 272) := by kernel_rfl
section
variable {P : Program} {ops : Array Oper} {w : World} {Q : Act → Prop}
/-- A struct or array read whole, ahead of a region's tail. -/
theorem WS.load {o : Oper} {rest : List Oper} {a : Act} (hw : Region.wanted o (yielded ops a.tmps) = true) (ty : TypeId) (x : Operand) (ho : o.op = .load ty x) (b k : Nat) (hx : a.eval x = .pointer (some ⟨b, k, none⟩)) (cs : List Value) (d : TypeDesc) (hc : w.rangeAt b k cs)
    (hu : P.underlying ty = some d) (hd : d.isRow = true) (hi : (P.info? ty).map (·.size) = some cs.length) (h : WS P ops w Q rest (a.put o.dst (.agg cs.toArray))) : WS P ops w Q (o :: rest) a :=
  WS.take hw (by unfold execOp; simp only [ho, hx, Instr.loadAt, Instr.sureAddr, Sem.run_bind, Sem.run_pure, Result.andThen_ok, run_loadVar_mid w b k ty cs d hc hu hd hi]) h
end
theorem ok_more {g : Geo} {n : Nw} {s : Int} (h : n.Ok g) (h2 : 0 ≤ n.op ∧ n.op < g.S ∧ 0 ≤ n.fl ∧ n.fl + s ≤ g.G ∧ g.G ≤ 1024 ∧ n.fr.length ≤ 256) (hs : 1 ≤ s) : (more n s).Ok g := by
  refine ⟨h.len, .inr ?_, ?_, h2.2.2.2.1⟩
  · rcases h.op with h1 | h1
    · exact absurd h1.1 (by omega)
    · exact h1
  · show 0 ≤ n.fl + s; omega
theorem seg_rng {g : Geo} {k : Int} (h : rightB g = true) (h0 : 0 ≤ k) (h1 : k < g.S) : 0 ≤ segV g k ∧ segV g k + g.G ≤ 262144 := by
  have hf := fine_right h
  have ht := total_right h
  have hq := hf.pages
  have hm := seg_bd hf h0 h1
  have j1 := hf.j1
  have e : segV g k = 2 + 2 * g.J + 4 * pagesN g + k * g.G := by simp [segV, h, h0, h1]
  unfold total at ht
  omega
set_option maxRecDepth 100000 in
set_option maxHeartbeats 4000000 in
theorem take11m (s : Int) (deep : Bool) (w : World) (b : Nat) (g : Geo) (n : Nw) (was : List Nw) (row : Value) (h : Sp w b g n was row) (hwas : was.length ≤ 100000) (hs : 1 ≤ s ∧ s ≤ g.G) (hn : needB g n s = false) :
    Calls Try.prog 11 #[.pointer (some ⟨b, 0, none⟩), .int .i64 s, .bool deep] w (SpPost w b g (more n s) (was ++ [n]) row (.tuple #[.int .i64 (segV g n.op + n.fl), .int .i64 0])) := by
  obtain ⟨c0, c1, c2, c3, c4, c5, c6, c7⟩ := sp_cells h.blk h.le
  have hS := h.fine.s1
  have hG := h.fine.g2
  have hf1 := h.ok.f1
  have hf2 := h.ok.f2
  have H := Lib.hid h
  have call := sp_all h.blk
  have hkl : Hid ((Try.prog.info? 56).map (·.size) = some n.cells.length) := Lib.hid (by rw [cells_len h.le]; exact info56)
  have hkf : Hid (0 + n.cells.length ≤ zN.length) := Lib.hid (by rw [cells_len h.le, zN_len]; omega)
  have hka : Hid (splice zN 0 n.cells = n.cells) := Lib.hid (splice_all _ _ (by rw [cells_len h.le, zN_len]))
  have z56 := zero56
  have s1 := hs.1
  have s2 := hs.2
  have hN := Lib.hid hn
  clear h hs hn
  go_enter Try.func11, Try.ntmps11
  go_upto_region 6 with first
    | (go_at_call 30; refine (there_t b g.S _ c3 (by omega)).mono ?_; rintro e w1 ⟨rfl, rfl⟩)
    | (refine wpList_load_midG rfl 56 (.tmp 29) rfl b 0 rfl n.cells _ call Try.underlying56 rfl hkl.out ?_)
    | (refine wpList_store_segK rfl 56 (.tmp 8) (.tmp 30) rfl w.heap.size 0 rfl n.cells rfl zN 56 (heap_new w _) hkl.out hkf.out cells_one rfl ?_; intro w2 H2 hz2)
  obtain ⟨l, hl⟩ : ∃ l, l = w.heap.size := ⟨_, rfl⟩
  have hbl : b ≠ l := by have := heap_lt H.out.blk; omega
  have K2 : Hid (Keeps (fun _ => False) w w2) := Lib.hid (((Keeps.alloc (fun k => k = w.heap.size) w _).trans H2.out.2 fun _ _ h => h).mono fun i hi e => by omega)
  have B2 : Hid (w2.heap[b]? = some (.cells (spC g n row).toArray 59 (0, 0)) ∧ w2.heap[l]? = some (.cells n.cells.toArray 56 (0, 0)) ∧ w2.ownsRow 0 56 258 row was.length (was.flatMap Nw.cells) ∧ w.heap.size < w2.heap.size) :=
    Lib.hid ⟨K2.out.heap H.out.blk (fun h => h), by rw [hl, H2.out.1, hka.out], K2.out.row H.out.own (fun _ _ h => h), by rw [hz2]; simp⟩
  rw [← hl]
  have HL := Lib.hid (And.intro hl hbl)
  have hcl := Lib.hid (cells_len (n := n) H.out.le)
  clear c0 c1 c2 c3 c4 c5 c6 c7 call hl hbl H2 hz2
  obtain ⟨d0, d1, d2, d3, d4, d5, d6, d7⟩ := sp_cells B2.out.1 H.out.le
  clear d2 d5 d6
  have hop : ¬ n.op = -1 ∧ ¬ g.G - n.fl < s := by have := hN.out; simpa only [needB, Bool.or_eq_false_iff, decide_eq_false_iff_not] using this
  have d : (n.op == -1) = false := by simpa using hop.1
  have hg := hop.2
  have hop2 : 0 ≤ n.op ∧ n.op < g.S := by
    rcases H.out.ok.op with h | h
    · exact absurd h.1 hop.1
    · exact ⟨h.1, h.2.1⟩
  have HO : Hid (0 ≤ n.op ∧ n.op < g.S ∧ 0 ≤ n.fl ∧ n.fl + s ≤ g.G ∧ g.G ≤ 1024 ∧ n.fr.length ≤ 256) := Lib.hid ⟨hop2.1, hop2.2, hf1, by omega, hG, H.out.le⟩
  clear hop hop2
  go_cut [51] from 31 to 51 (fun s51 w' => s51 = .bool false ∧ w' = w2.drew)
  case first =>
    go_wp2_with fail
    refine ws_region 20 (by kernel_rfl) (by kernel_rfl) ?_
    simp only [List.take_succ_cons, List.take_zero, List.drop_succ_cons, List.drop_zero]
    iterate 7 (refine WS.take (v := ?_) (by rfl) ?_ ?_; rotate_left; · (go_simp; try with_reducible rfl); try simp only [Act.put, List.setIfInBounds_toArray, List.set_cons_zero, List.set_cons_succ])
    iterate 13 (refine WS.take (v := ?_) (by kernel_rfl) ?_ ?_; rotate_left; · (go_simp; try with_reducible rfl); try simp only [Act.put, List.setIfInBounds_toArray, List.set_cons_zero, List.set_cons_succ])
    refine WS.nil ?_
    go_wp2_with fail
    go_meet
    exact ⟨by simp; omega, rfl⟩
  case rest =>
    obtain ⟨rfl, rfl⟩ := hcut
    clear d d0 d1 d3 d4 d7 z56 hf1 hf2 hG s2 hg
    obtain ⟨o, ho⟩ : ∃ o, o = n.op := ⟨_, rfl⟩
    obtain ⟨f, hf⟩ : ∃ f, f = n.fl := ⟨_, rfl⟩
    have E6 : Hid (w2.drew.heap[b]? = some (.cells (spC g ⟨n.fr, o, f⟩ row).toArray 59 (0, 0)) ∧ w2.drew.heap[l]? = some (.cells n.cells.toArray 56 (0, 0)) ∧ w2.drew.ownsRow 0 56 258 row was.length (was.flatMap Nw.cells) ∧ w.heap.size < w2.drew.heap.size ∧ Keeps (fun k => k = b) w w2.drew) :=
      Lib.hid ⟨by rw [ho, hf]; exact B2.out.1, B2.out.2.1, B2.out.2.2.1, B2.out.2.2.2, (K2.out.mono fun i _ h => h.elim).trans (Keeps.drew _ w2) fun _ _ h => h⟩
    have HOF := Lib.hid (And.intro ho hf)
    rw [← ho, ← hf] at HO
    clear ho hf K2 B2
    obtain ⟨w6, hw6⟩ : ∃ w6, w6 = w2.drew := ⟨_, rfl⟩
    rw [← hw6] at E6 ⊢
    clear hw6
    have hf := H.out.fine
    obtain ⟨sb1, sb2⟩ := seg_rng H.out.right HO.out.1 HO.out.2.1
    obtain ⟨d0, d1, d2, d3, d4, d5, d6, d7⟩ := sp_cells E6.out.1 HO.out.2.2.2.2.2
    have dg := sp_geo E6.out.1 HO.out.2.2.2.2.2
    obtain ⟨at_, hat⟩ : ∃ x, x = segV g o := ⟨_, rfl⟩
    rw [← hat] at sb1 sb2
    have HAT := Lib.hid hat
    have b1 := HO.out.2.2.1
    have b2 := HO.out.2.2.2.1
    have b3 := HO.out.2.2.2.2.1
    have sm : IntKind.i64.wrap (at_ + f) = at_ + f := IntWalk.i64_in _ (by omega)
    clear hat hf dg
    go_wp2_with fail
    go_region_held3 (fun w' => w'.cell? ⟨b, 256, none⟩ = some (.int .i64 o) ∧ w'.cell? ⟨b, 257, none⟩ = some (.int .i64 f) ∧ w'.cell? ⟨b, 258, none⟩ = some (.int .i64 g.V) ∧ w'.cell? ⟨b, 259, none⟩ = some (.int .i64 g.S) ∧ w'.cell? ⟨b, 260, none⟩ = some (.int .i64 g.G) ∧ w'.cell? ⟨b, 261, none⟩ = some (.int .i64 g.U) ∧ w'.cell? ⟨b, 262, none⟩ = some (.int .i64 g.J)) (go_keep)
      (first | (go_at_call 33; refine (seg15 g o _).mono ?_; rw [← HAT.out]; rintro e w7 ⟨rfl, hb7⟩; have K7 := Lib.hid ((hb7.block b (heap_lt E6.out.1)).trans E6.out.1); obtain ⟨e0, e1, e2, e3, e4, e5, e6, e7⟩ := sp_cells K7.out HO.out.2.2.2.2.2))
    have E7 : Hid (w7.heap[b]? = some (.cells (spC g ⟨n.fr, o, f⟩ row).toArray 59 (0, 0)) ∧ w7.heap[l]? = some (.cells n.cells.toArray 56 (0, 0)) ∧ w7.ownsRow 0 56 258 row was.length (was.flatMap Nw.cells) ∧ w.heap.size < w7.heap.size ∧ Keeps (fun k => k = b) w w7) :=
      Lib.hid ⟨K7.out, (hb7.block l (heap_lt E6.out.2.1)).trans E6.out.2.1, (Keeps.fresh (S := fun _ => False) hb7).row E6.out.2.2.1 (fun _ _ h => h), Nat.lt_of_lt_of_le E6.out.2.2.2.1 hb7.size, E6.out.2.2.2.2.trans ((Keeps.drew (fun k => k = b) w6).trans (Keeps.fresh (S := fun k => k = b) hb7) fun _ _ h => h) fun _ _ h => h⟩
    have hfz7 : w7.frozen? ⟨b, 257, none⟩ = false := frozen_of_row _ _ _ _ _ E7.out.1
    clear sm d0 d1 d2 d3 d4 d5 d6 d7 hb7 K7 E6
    go_upto_region 14 with fail
    obtain ⟨w8, hw8⟩ : ∃ w8, w8 = w7.setCell ⟨b, 257, none⟩ (.int .i64 (f + s)) := ⟨_, rfl⟩
    rw [← hw8]
    have E8 : Hid (w8.drew.heap[b]? = some (.cells (spC g ⟨n.fr, o, f + s⟩ row).toArray 59 (0, 0)) ∧ w8.drew.heap[l]? = some (.cells n.cells.toArray 56 (0, 0)) ∧ w8.drew.ownsRow 0 56 258 row was.length (was.flatMap Nw.cells) ∧ w.heap.size < w8.drew.heap.size ∧ Keeps (fun k => k = b) w w8.drew) := by
      have hk := set_keep w7 b 257 (.int .i64 (f + s))
      rw [← hw8] at hk
      refine Lib.hid ⟨?_, hk.heap E7.out.2.1 (fun e => HL.out.2 e.symm), hk.row E7.out.2.2.1 (fun k h1 h2 => H.out.apart (h2 ▸ h1)), Nat.lt_of_lt_of_le E7.out.2.2.2.1 hk.size, E7.out.2.2.2.2.trans (hk.trans (Keeps.drew _ w8) fun _ _ h => h) fun _ _ h => h⟩
      show w8.heap[b]? = _
      rw [hw8, set_blk E7.out.1, spC_fl_set (n := ⟨n.fr, o, f⟩) _ HO.out.2.2.2.2.2]
    have d7x : w8.cell? ⟨b, 263, none⟩ = some row := (sp_cells E8.out.1 HO.out.2.2.2.2.2).2.2.2.2.2.2.2
    have cl : w8.drew.rangeAt l 0 n.cells := fun j v hj => by
      rw [Nat.zero_add]
      exact block_cell E8.out.2.1 j v (by rw [List.getElem?_toArray]; exact hj)
    obtain ⟨i0, hi, hz0, hz1, hz2⟩ := infoParts info56z
    have HI := Lib.hid (And.intro hi (And.intro hz0 (And.intro hz1 (And.intro hz2 (show (Value.agg zN.toArray).cells.size = 258 by show zN.toArray.size = 258; simp [zN_len])))))
    clear hw8 hfz7 e0 e1 e2 e3 e4 e5 e6 e7 hi hz0 hz1 hz2 E7
    refine wp_region_held_drew (S := fun w' => w'.rangeAt l 0 n.cells) follows cl (fun hHeld => ?_)
    obtain ⟨w9, hw9⟩ : ∃ w9, w9 = w8.drew := ⟨_, rfl⟩
    have d7 : w9.cell? ⟨b, 263, none⟩ = some row := (sp_cells (n := ⟨n.fr, o, f + s⟩) (by rw [hw9]; exact E8.out.1) HO.out.2.2.2.2.2).2.2.2.2.2.2.2
    rw [← hw9] at E8 hHeld ⊢
    clear hw9 cl
    refine wpAnyH_take (i := 0) (v := ?_) (by simp only [List.getElem?_toArray, List.getElem?_cons_zero]; rfl) (by kernel_rfl) (by kernel_rfl) (by kernel_rfl) (by intro _ _ _ h; exact h) (Or.inl ⟨by rfl, ?_⟩) hHeld ?_
    rotate_left
    · (intro w hSw; (try dsimp only at hSw); go_simp; try with_reducible rfl)
    try simp only [Act.put, List.setIfInBounds_toArray, List.set_cons_zero, List.set_cons_succ]
    refine wpAnyH_take (i := 1) (v := ?_) (by simp only [List.getElem?_toArray, List.getElem?_cons_zero, List.getElem?_cons_succ]; rfl) (by kernel_rfl) (by kernel_rfl) (by kernel_rfl) (by intro _ _ _ h; exact h) (Or.inl ⟨by rfl, ?_⟩) hHeld ?_
    rotate_left
    · (intro w hSw; (try dsimp only at hSw); go_simp; try with_reducible rfl)
    try simp only [Act.put, List.setIfInBounds_toArray, List.set_cons_zero, List.set_cons_succ]
    refine wpAnyH_take (i := 2) (v := ?_) (by simp only [List.getElem?_toArray, List.getElem?_cons_zero, List.getElem?_cons_succ]; rfl) (by kernel_rfl) (by kernel_rfl) (by kernel_rfl) (by intro _ _ _ h; exact h) (Or.inl ⟨by rfl, ?_⟩) hHeld ?_
    rotate_left
    · (intro w hSw; (try dsimp only at hSw); go_simp; try with_reducible rfl)
    try simp only [Act.put, List.setIfInBounds_toArray, List.set_cons_zero, List.set_cons_succ]
    refine wpAnyH_take (i := 3) (v := ?_) (by simp only [List.getElem?_toArray, List.getElem?_cons_zero, List.getElem?_cons_succ]; rfl) (by kernel_rfl) (by kernel_rfl) (by kernel_rfl) (by intro _ _ _ h; exact h) (Or.inl ⟨by rfl, ?_⟩) hHeld ?_
    rotate_left
    · (intro w hSw; (try dsimp only at hSw); go_simp; try with_reducible rfl)
    try simp only [Act.put, List.setIfInBounds_toArray, List.set_cons_zero, List.set_cons_succ]
    refine wpAnyH_take (i := 5) (v := _) (by simp only [List.getElem?_toArray, List.getElem?_cons_zero, List.getElem?_cons_succ]; rfl) (by kernel_rfl) (by kernel_rfl) (by kernel_rfl) (by intro _ _ _ h; exact h) (yieldsIf_load_mid (by rfl) 56 (.tmp 8) rfl l 0 rfl n.cells _ (fun _ h => h) Try.underlying56 rfl hkl.out) hHeld ?_
    try simp only [Act.put, List.setIfInBounds_toArray, List.set_cons_zero, List.set_cons_succ]
    refine wpAnyH_ready (rs := [4, 6]) (by kernel_rfl) (by simp) ?_
    refine AllReadyH.cons (by simp only [List.getElem?_toArray, List.getElem?_cons_zero, List.getElem?_cons_succ]; rfl) (fun K hK => ?_) (AllReadyH.cons (by simp only [List.getElem?_toArray, List.getElem?_cons_zero, List.getElem?_cons_succ]; rfl) (fun K hK => ?_) AllReadyH.nil)
    · rw [if_pos (by rfl)]
      go_simp
      refine hK.out _ _ hHeld (fun hHeld => ?_)
      clear hK K
      try simp only [Act.put, List.setIfInBounds_toArray, List.set_cons_zero, List.set_cons_succ]
      refine wpAnyH_ready (rs := [6]) (by kernel_rfl) (by simp) ?_
      refine AllReadyH.cons (by simp only [List.getElem?_toArray, List.getElem?_cons_zero, List.getElem?_cons_succ]; rfl) (fun K hK => ?_) AllReadyH.nil
      rw [if_pos (by rfl)]
      refine wp_slice1 57 56 (.tmp 119) rfl n.cells rfl i0 (.agg zN.toArray) Try.underlying57 HI.out.1 HI.out.2.1 (HI.out.2.2.1.trans hcl.out.symm) (by rw [hcl.out]; omega) (by rw [hcl.out]; omega) ?_
      have hHa : (w9.alloc (.cells n.cells.toArray 56)).rangeAt l 0 n.cells := fun j v hj => by rw [Nat.zero_add]; exact block_cell (heap_old E8.out.2.1) j v (by rw [List.getElem?_toArray]; exact hj)
      have d7a : (w9.alloc (.cells n.cells.toArray 56)).cell? ⟨b, 263, none⟩ = some row := (sp_cells (n := ⟨n.fr, o, f + s⟩) (heap_old E8.out.1) HO.out.2.2.2.2.2).2.2.2.2.2.2.2
      refine hK.out _ _ hHa (fun hHeld => ?_)
      clear hK K
      try simp only [Act.put, List.setIfInBounds_toArray, List.set_cons_zero, List.set_cons_succ]
      refine wpAnyH_ready (rs := [7]) (by kernel_rfl) (by simp) ?_
      refine AllReadyH.cons (by simp only [List.getElem?_toArray, List.getElem?_cons_zero, List.getElem?_cons_succ]; rfl) (fun K hK => ?_) AllReadyH.nil
      rw [if_pos (by rfl)]
      refine wp_append_lies _ (.tmp 118) (.tmp 120) 57 rfl 0 56 i0 (.agg zN.toArray) 258 272 Try.underlying57 HI.out.1 HI.out.2.1 HI.out.2.2.1 HI.out.2.2.2.1 HI.out.2.2.2.2 (by omega) row was.length _ rfl (E8.out.2.2.1.alloc _) ⟨w9.heap.size, 0, none⟩ 1 1 n.cells rfl (by rw [cells_len H.out.le]) (World.news_of_block (heap_new w9 _)) cells_one (by omega) (by unfold maxLen; omega) (by omega) (Nat.zero_le _) _ rfl ?_
      intro g2 cap w10 hown hgr hat2 hlt2
      have E10 := Lib.hid ((hgr.block b (heap_lt (heap_old E8.out.1)) (fun e => H.out.apart e.symm)).trans (heap_old E8.out.1))
      have hrl : row.ownBlock ≠ some l := fun e => by
        have := (H.out.own.lt l e).2
        have := HL.out.1
        omega
      have hL10 := (hgr.block l (heap_lt (heap_old E8.out.2.1)) (fun e => hrl e.symm)).trans (heap_old (o' := .cells n.cells.toArray 56) E8.out.2.1)
      have hH10 : w10.rangeAt l 0 n.cells := fun j v hj => by rw [Nat.zero_add]; exact block_cell hL10 j v (by rw [List.getElem?_toArray]; exact hj)
      have hLf : Hid (∀ v, (w10.setCell ⟨b, 263, none⟩ v).rangeAt l 0 n.cells) := Lib.hid fun v j u hj => by
        rw [Nat.zero_add]
        exact block_cell ((set_keep w10 b 263 v).heap hL10 (fun e => HL.out.2 e.symm)) j u (by rw [List.getElem?_toArray]; exact hj)
      refine hK.out _ _ hH10 (fun hHeld => ?_)
      clear hK K hrl hL10 hH10
      try simp only [Act.put, List.setIfInBounds_toArray, List.set_cons_zero, List.set_cons_succ]
      have HN2 := Lib.hid (And.intro hown (And.intro hgr (And.intro hat2 hlt2)))
      clear hown hgr hat2 hlt2
      refine wpAnyH_take (i := 8) (v := ?_) (by simp only [List.getElem?_toArray, List.getElem?_cons_zero, List.getElem?_cons_succ]; rfl) (by kernel_rfl) (by kernel_rfl) (by kernel_rfl) (by intro _ _ _ h; exact h) (Or.inl ⟨by rfl, ?_⟩) hHeld ?_
      rotate_left
      · (intro w hSw; (try dsimp only at hSw); go_simp; try with_reducible rfl)
      try simp only [Act.put, List.setIfInBounds_toArray, List.set_cons_zero, List.set_cons_succ]
      refine wpAnyH_take (i := 9) (v := ?_) (by simp only [List.getElem?_toArray, List.getElem?_cons_zero, List.getElem?_cons_succ]; rfl) (by kernel_rfl) (by kernel_rfl) (by kernel_rfl) (by intro _ _ _ h; exact h) (Or.inl ⟨by rfl, ?_⟩) hHeld ?_
      rotate_left
      · (intro w hSw; (try dsimp only at hSw); go_simp; try with_reducible rfl)
      try simp only [Act.put, List.setIfInBounds_toArray, List.set_cons_zero, List.set_cons_succ]
      have d7b := (sp_cells (n := ⟨n.fr, o, f + s⟩) E10.out HO.out.2.2.2.2.2).2.2.2.2.2.2.2
      have hfz := frozen_of_row _ b 263 _ _ E10.out
      refine wpAnyH_ready (rs := [10]) (by kernel_rfl) (by simp) ?_
      refine AllReadyH.cons (by simp only [List.getElem?_toArray, List.getElem?_cons_zero, List.getElem?_cons_succ]; rfl) (fun K hK => ?_) AllReadyH.nil
      rw [if_pos (by rfl)]
      go_simp
      refine hK.out _ _ (hLf.out _) (fun hHeld => ?_)
      clear hK K
      refine wpAnyH_done (by kernel_rfl) ?_ _
      clear hHeld d7b hfz
      go_wp2_with fail
      go_ret2
      have hgb : g2 ≠ b := fun e => by
        rcases HN2.out.2.2.1 with h | h
        · exact H.out.apart (e ▸ h)
        · have := heap_lt (heap_old (o' := .cells n.cells.toArray 56) E8.out.1)
          omega
      refine ⟨ret_i2 (by rw [HAT.out, HOF.out.1, HOF.out.2]), .slice (some ⟨g2, 0, none⟩) (was.length + 1) cap, ⟨?_, ?_, fun e => hgb (Option.some.inj e), (by have h2 := HO.out; rw [HOF.out.1, HOF.out.2] at h2; exact ok_more H.out.ok h2 s1), ?_, H.out.right⟩, ?_, ?_⟩
      · rw [set_blk E10.out, spC_row_set (n := ⟨n.fr, o, f + s⟩) _ HO.out.2.2.2.2.2]
        rw [HOF.out.1, HOF.out.2]; rfl
      · have := HN2.out.1
        rw [List.length_append, List.length_singleton, List.flatMap_append, List.flatMap_singleton]
        exact Keeps.row (set_keep w10 b 263 _) this fun k hk e => hgb (by rw [← e]; exact Option.some.inj hk)
      · intro x hx
        rcases List.mem_append.1 hx with hx | hx
        · exact H.out.okw x hx
        · obtain rfl := List.mem_singleton.1 hx
          exact H.out.ok
      · intro k hk
        obtain rfl : g2 = k := Option.some.inj hk
        rcases HN2.out.2.2.1 with h | h
        · exact .inl h
        · right
          have := E8.out.2.2.2.1
          simp at h
          omega
      · have k1 : Keeps (fun k => k = b ∨ row.ownBlock = some k) w w9 := E8.out.2.2.2.2.mono fun _ _ h => .inl h
        have k2 : Keeps (fun k => k = b ∨ row.ownBlock = some k) w9 w10 := (Keeps.alloc _ w9 _).trans (Keeps.grown (S := fun k => k = b ∨ row.ownBlock = some k) HN2.out.2.1 fun k hk => .inr hk) fun _ _ h => h
        exact (k1.trans k2 fun _ _ h => h).trans (set_keep w10 b 263 _) fun _ _ h => .inl h
    · rw [if_pos (by rfl)]
      refine wp_slice1 57 56 (.tmp 119) rfl n.cells rfl i0 (.agg zN.toArray) Try.underlying57 HI.out.1 HI.out.2.1 (HI.out.2.2.1.trans hcl.out.symm) (by rw [hcl.out]; omega) (by rw [hcl.out]; omega) ?_
      have hHa : (w9.alloc (.cells n.cells.toArray 56)).rangeAt l 0 n.cells := fun j v hj => by rw [Nat.zero_add]; exact block_cell (heap_old E8.out.2.1) j v (by rw [List.getElem?_toArray]; exact hj)
      have d7a : (w9.alloc (.cells n.cells.toArray 56)).cell? ⟨b, 263, none⟩ = some row := (sp_cells (n := ⟨n.fr, o, f + s⟩) (heap_old E8.out.1) HO.out.2.2.2.2.2).2.2.2.2.2.2.2
      refine hK.out _ _ hHa (fun hHeld => ?_)
      clear hK K
      try simp only [Act.put, List.setIfInBounds_toArray, List.set_cons_zero, List.set_cons_succ]
      refine wpAnyH_ready (rs := [4]) (by kernel_rfl) (by simp) ?_
      refine AllReadyH.cons (by simp only [List.getElem?_toArray, List.getElem?_cons_zero, List.getElem?_cons_succ]; rfl) (fun K hK => ?_) AllReadyH.nil
      rw [if_pos (by rfl)]
      go_simp
      refine hK.out _ _ hHeld (fun hHeld => ?_)
      clear hK K
      try simp only [Act.put, List.setIfInBounds_toArray, List.set_cons_zero, List.set_cons_succ]
      refine wpAnyH_ready (rs := [7]) (by kernel_rfl) (by simp) ?_
      refine AllReadyH.cons (by simp only [List.getElem?_toArray, List.getElem?_cons_zero, List.getElem?_cons_succ]; rfl) (fun K hK => ?_) AllReadyH.nil
      rw [if_pos (by rfl)]
      refine wp_append_lies _ (.tmp 118) (.tmp 120) 57 rfl 0 56 i0 (.agg zN.toArray) 258 272 Try.underlying57 HI.out.1 HI.out.2.1 HI.out.2.2.1 HI.out.2.2.2.1 HI.out.2.2.2.2 (by omega) row was.length _ rfl (E8.out.2.2.1.alloc _) ⟨w9.heap.size, 0, none⟩ 1 1 n.cells rfl (by rw [cells_len H.out.le]) (World.news_of_block (heap_new w9 _)) cells_one (by omega) (by unfold maxLen; omega) (by omega) (Nat.zero_le _) _ rfl ?_
      intro g2 cap w10 hown hgr hat2 hlt2
      have E10 := Lib.hid ((hgr.block b (heap_lt (heap_old E8.out.1)) (fun e => H.out.apart e.symm)).trans (heap_old E8.out.1))
      have hrl : row.ownBlock ≠ some l := fun e => by
        have := (H.out.own.lt l e).2
        have := HL.out.1
        omega
      have hL10 := (hgr.block l (heap_lt (heap_old E8.out.2.1)) (fun e => hrl e.symm)).trans (heap_old (o' := .cells n.cells.toArray 56) E8.out.2.1)
      have hH10 : w10.rangeAt l 0 n.cells := fun j v hj => by rw [Nat.zero_add]; exact block_cell hL10 j v (by rw [List.getElem?_toArray]; exact hj)
      have hLf : Hid (∀ v, (w10.setCell ⟨b, 263, none⟩ v).rangeAt l 0 n.cells) := Lib.hid fun v j u hj => by
        rw [Nat.zero_add]
        exact block_cell ((set_keep w10 b 263 v).heap hL10 (fun e => HL.out.2 e.symm)) j u (by rw [List.getElem?_toArray]; exact hj)
      refine hK.out _ _ hH10 (fun hHeld => ?_)
      clear hK K hrl hL10 hH10
      try simp only [Act.put, List.setIfInBounds_toArray, List.set_cons_zero, List.set_cons_succ]
      have HN2 := Lib.hid (And.intro hown (And.intro hgr (And.intro hat2 hlt2)))
      clear hown hgr hat2 hlt2
      refine wpAnyH_take (i := 8) (v := ?_) (by simp only [List.getElem?_toArray, List.getElem?_cons_zero, List.getElem?_cons_succ]; rfl) (by kernel_rfl) (by kernel_rfl) (by kernel_rfl) (by intro _ _ _ h; exact h) (Or.inl ⟨by rfl, ?_⟩) hHeld ?_
      rotate_left
      · (intro w hSw; (try dsimp only at hSw); go_simp; try with_reducible rfl)
      try simp only [Act.put, List.setIfInBounds_toArray, List.set_cons_zero, List.set_cons_succ]
      refine wpAnyH_take (i := 9) (v := ?_) (by simp only [List.getElem?_toArray, List.getElem?_cons_zero, List.getElem?_cons_succ]; rfl) (by kernel_rfl) (by kernel_rfl) (by kernel_rfl) (by intro _ _ _ h; exact h) (Or.inl ⟨by rfl, ?_⟩) hHeld ?_
      rotate_left
      · (intro w hSw; (try dsimp only at hSw); go_simp; try with_reducible rfl)
      try simp only [Act.put, List.setIfInBounds_toArray, List.set_cons_zero, List.set_cons_succ]
      have d7b := (sp_cells (n := ⟨n.fr, o, f + s⟩) E10.out HO.out.2.2.2.2.2).2.2.2.2.2.2.2
      have hfz := frozen_of_row _ b 263 _ _ E10.out
      refine wpAnyH_ready (rs := [10]) (by kernel_rfl) (by simp) ?_
      refine AllReadyH.cons (by simp only [List.getElem?_toArray, List.getElem?_cons_zero, List.getElem?_cons_succ]; rfl) (fun K hK => ?_) AllReadyH.nil
      rw [if_pos (by rfl)]
      go_simp
      refine hK.out _ _ (hLf.out _) (fun hHeld => ?_)
      clear hK K
      refine wpAnyH_done (by kernel_rfl) ?_ _
      clear hHeld d7b hfz
      go_wp2_with fail
      go_ret2
      have hgb : g2 ≠ b := fun e => by
        rcases HN2.out.2.2.1 with h | h
        · exact H.out.apart (e ▸ h)
        · have := heap_lt (heap_old (o' := .cells n.cells.toArray 56) E8.out.1)
          omega
      refine ⟨ret_i2 (by rw [HAT.out, HOF.out.1, HOF.out.2]), .slice (some ⟨g2, 0, none⟩) (was.length + 1) cap, ⟨?_, ?_, fun e => hgb (Option.some.inj e), (by have h2 := HO.out; rw [HOF.out.1, HOF.out.2] at h2; exact ok_more H.out.ok h2 s1), ?_, H.out.right⟩, ?_, ?_⟩
      · rw [set_blk E10.out, spC_row_set (n := ⟨n.fr, o, f + s⟩) _ HO.out.2.2.2.2.2]
        rw [HOF.out.1, HOF.out.2]; rfl
      · have := HN2.out.1
        rw [List.length_append, List.length_singleton, List.flatMap_append, List.flatMap_singleton]
        exact Keeps.row (set_keep w10 b 263 _) this fun k hk e => hgb (by rw [← e]; exact Option.some.inj hk)
      · intro x hx
        rcases List.mem_append.1 hx with hx | hx
        · exact H.out.okw x hx
        · obtain rfl := List.mem_singleton.1 hx
          exact H.out.ok
      · intro k hk
        obtain rfl : g2 = k := Option.some.inj hk
        rcases HN2.out.2.2.1 with h | h
        · exact .inl h
        · right
          have := E8.out.2.2.2.1
          simp at h
          omega
      · have k1 : Keeps (fun k => k = b ∨ row.ownBlock = some k) w w9 := E8.out.2.2.2.2.mono fun _ _ h => .inl h
        have k2 : Keeps (fun k => k = b ∨ row.ownBlock = some k) w9 w10 := (Keeps.alloc _ w9 _).trans (Keeps.grown (S := fun k => k = b ∨ row.ownBlock = some k) HN2.out.2.1 fun k hk => .inr hk) fun _ _ h => h
        exact (k1.trans k2 fun _ _ h => h).trans (set_keep w10 b 263 _) fun _ _ h => .inl h
end Go.Proofs.Ytgoblbmekhcekaa
