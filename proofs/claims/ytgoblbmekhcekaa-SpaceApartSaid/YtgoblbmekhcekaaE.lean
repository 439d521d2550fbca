/- What New, Back and Settle of layer 19 (space) compute. No condition but where a space lies. -/
import Derived.Test.YtgoblbmekhcekaaD
import Derived.Deep.CutBlock
namespace Go.Proofs.Ytgoblbmekhcekaa
open Go.RowKit
section
variable {P : Program}
/-- What a build yields (a name, so that nothing unfolds it). -/
structure BuildRun (P : Program) (t : TypeId) (ps : Array (Nat × Value)) (w : World) (r : Value) : Prop where
  run : (Instr.build t ps).run P w = .ok r w
theorem wpList_buildG {ops : Array Oper} {rest : List Oper} {op : Oper} {a : Act} {w : World} {Q : Exit → Act → World → Prop} (hg : Region.wanted op (yielded ops a.tmps) = true) (t : TypeId) (parts : List (Nat × Operand)) (ho : op.op = .build t parts.toArray)
    (ps : List (Nat × Value)) (hps : (parts.map fun x => (x.1, a.eval x.2)) = ps) (r : Value) (hr : BuildRun P t ps.toArray w r) (h : wpList P ops Q rest (a.put op.dst r) w) : wpList P ops Q (op :: rest) a w :=
  BigFrame.wpList_want hg fun K hK => by
    have hr := hr.run
    rw [← hps] at hr
    unfold Oper.wp execOp
    simp only [ho, List.map_toArray, Sem.run_bind, hr, Result.andThen_ok, Sem.run_pure]
    exact hK _ _ h
theorem wpList_load_midG {ops : Array Oper} {rest : List Oper} {op : Oper} {a : Act} {w : World} {Q : Exit → Act → World → Prop} (hg : Region.wanted op (yielded ops a.tmps) = true) (ty : TypeId) (x : Operand) (ho : op.op = .load ty x)
    (b o : Nat) (hx : a.eval x = .pointer (some ⟨b, o, none⟩)) (cs : List Value) (d : TypeDesc) (hc : w.rangeAt b o cs)
    (hu : P.underlying ty = some d) (hd : d.isRow = true) (hi : (P.info? ty).map (·.size) = some cs.length)
    (h : wpList P ops Q rest (a.put op.dst (.agg cs.toArray)) w) : wpList P ops Q (op :: rest) a w :=
  BigFrame.wpList_want hg fun _ hK => wp_load_mid ty x ho b o hx cs d hc hu hd hi (hK _ _ h)
end
theorem run_box_list (w : World) (t : TypeId) (l : List Value) : w.alloc (.cells (Value.agg l.toArray).cells t) = w.alloc (.cells l.toArray t) := rfl
/-- A new space ahead of its counts: nothing used. -/
def newL (g : Geo) : List Value := List.replicate 256 (.bool false) ++ ([.int .i64 0, .int .i64 0] ++ ((gcs g).toList ++ [.slice none 0 0]))
theorem build59 (g : Geo) (u : World) : BuildRun Try.prog 59 #[(1, gv g)] u (.agg (newL g).toArray) := ⟨by kernel_rfl⟩
theorem newL_eq (g : Geo) {S : Nat} (h : S ≤ 256) : newL g = spC g ⟨List.replicate S true, 0, 0⟩ (.slice none 0 0) := by
  have e : usedC (List.replicate S true) = List.replicate 256 (.bool false) := by
    simp only [usedC, List.map_replicate, List.length_replicate, Bool.not_true]
    rw [List.replicate_append_replicate]; congr 1; omega
  rw [spC, Nw.cells, e, newL, List.append_assoc]
theorem info56 : (Try.prog.info? 56).map (·.size) = some 258 := by kernel_rfl
theorem ret_ptr {a b : Option Addr} (h : a = b) : Ending.returned (.pointer a) = .returned (.pointer b) := by rw [h]
def NewPost (w : World) (g : Geo) (n : Nw) (e : Ending) (w' : World) : Prop := ∃ b, e = .returned (.pointer (some ⟨b, 0, none⟩)) ∧ w.heap.size ≤ b ∧ Sp w' b g n [] (.slice none 0 0) ∧ Below w.heap.size w w'
/-- Is there a space of these counts? -/
def newB (g : Geo) (f : Nat → Int) (n : Nat) : Bool := rightB g && countsB g f n
theorem newB_counts {g : Geo} {f : Nat → Int} {n : Nat} (h : newB g f n = true) : rightB g = true ∧ (n : Int) = g.S ∧ n ≤ 256 ∧ fineB g.G f n = true := by
  simp only [newB, countsB, Bool.and_eq_true, decide_eq_true_eq] at h
  have := (fine_right h.1).s2
  exact ⟨h.1, h.2.1, by omega, h.2.2⟩
theorem ok_new {g : Geo} {f : Nat → Int} {n : Nat} (h : newB g f n = true) : Nw.Ok g ⟨freesL f (-1) n, -1, 0⟩ := by
  obtain ⟨h1, h2, h3, h4⟩ := newB_counts h
  have := (fine_right h1).g1
  have := (fine_right h1).u1
  exact ⟨by show ((freesL f (-1) n).length : Int) = g.S; rw [freesL_len]; exact h2, .inl ⟨rfl, rfl⟩, by show (0 : Int) ≤ 0; omega, by show (0 : Int) ≤ g.G; omega⟩
set_option maxRecDepth 100000 in
set_option maxHeartbeats 1000000 in
theorem new9f (g : Geo) (f : Nat → Int) (A : Option Addr) (n c : Nat) (w : World) (hn : n ≤ 140737488351232) (ha : Arr w w.heap.size A n fun j => .int .i64 (f j)) (h : newB g f n = false) :
    Calls Try.prog 9 #[gv g, .slice A n c] w fun e w' => e = .returned (.pointer none) ∧ Below w.heap.size w w' := by
  have hB := Lib.hid ((Below.refl _ w).alloc (Nat.le_refl w.heap.size) (.cells (gcs g) 23))
  have HA := Lib.hid ha
  have K0 := Lib.hid (heap_new w (.cells (gcs g) 23))
  clear ha
  cases hr : rightB g
  · clear h
    go_enter Try.func9, Try.ntmps9
    go_wp2_with (go_at_call 27; refine (right10f g _ hr).mono ?_; rintro e w1 ⟨rfl, hb1⟩)
    go_ret
    exact ⟨rfl, hB.out.trans (hb1.mono hB.out.size)⟩
  · have hcb : countsB g f n = false := by simpa [newB, hr] using h
    clear h
    go_enter Try.func9, Try.ntmps9
    go_wp2_with fail
    refine (right10t g _ hr).mono ?_
    rintro e w1 ⟨rfl, hb1⟩
    have K1 := Lib.hid ((hb1.block w.heap.size (by simp)).trans K0.out)
    obtain ⟨e0, e1, e2, e3, e4⟩ := geo_at K1.out
    have HB1 := Lib.hid (hB.out.trans (hb1.mono hB.out.size))
    clear hb1
    go_wp2_with fail
    refine (right28 g f A n c w1 hn ((HA.out.below HB1.out (Nat.le_refl _)).more HB1.out.size)).mono ?_
    rintro e w2 ⟨rfl, hb2⟩
    have HB2 := Lib.hid (HB1.out.trans (hb2.mono HB1.out.size))
    clear hb2
    rw [hcb]
    go_wp2_with fail
    go_ret
    exact ⟨rfl, HB2.out⟩
set_option maxRecDepth 100000 in
set_option maxHeartbeats 1000000 in
theorem new9t (g : Geo) (f : Nat → Int) (A : Option Addr) (n c : Nat) (w : World) (ha : Arr w w.heap.size A n fun j => .int .i64 (f j)) (h : newB g f n = true) :
    Calls Try.prog 9 #[gv g, .slice A n c] w (NewPost w g ⟨freesL f (-1) n, -1, 0⟩) := by
  obtain ⟨hr, hs, hn, hf⟩ := newB_counts h
  have hB := Lib.hid ((Below.refl _ w).alloc (Nat.le_refl w.heap.size) (.cells (gcs g) 23))
  have HA := Lib.hid ha
  have K0 := Lib.hid (heap_new w (.cells (gcs g) 23))
  have hcb : countsB g f n = true := by simp only [newB, Bool.and_eq_true] at h; exact h.2
  have H := Lib.hid h
  have HS := Lib.hid hs
  have hE := Lib.hid (newL_eq g hn)
  clear ha h hs hf
  go_enter Try.func9, Try.ntmps9
  go_wp2_with fail
  refine (right10t g _ hr).mono ?_
  rintro e w1 ⟨rfl, hb1⟩
  have K1 := Lib.hid ((hb1.block w.heap.size (by simp)).trans K0.out)
  obtain ⟨e0, e1, e2, e3, e4⟩ := geo_at K1.out
  have HB1 := Lib.hid (hB.out.trans (hb1.mono hB.out.size))
  clear hb1
  go_wp2_with fail
  refine (right28 g f A n c w1 (by omega) ((HA.out.below HB1.out (Nat.le_refl _)).more HB1.out.size)).mono ?_
  rintro e w2 ⟨rfl, hb2⟩
  have HB2 := Lib.hid (HB1.out.trans (hb2.mono HB1.out.size))
  have K2 := Lib.hid ((hb2.block w.heap.size (heap_lt K1.out)).trans K1.out)
  clear hb2 e0 e1 e2 e3 e4
  obtain ⟨e0, e1, e2, e3, e4⟩ := geo_at K2.out
  rw [hcb]
  have hW := heap_new w2 (.cells (newL g).toArray 59)
  rw [hE.out] at hW
  obtain ⟨p0, p1, -⟩ := sp_cells hW (by simp only [List.length_replicate]; exact hn)
  have hfz : (w2.alloc (.cells (newL g).toArray 59)).frozen? ⟨w2.heap.size, 256, none⟩ = false := by rw [hE.out]; exact frozen_of_row _ _ 256 _ _ hW
  rw [← hE.out] at p0 p1
  have HW := Lib.hid hW
  clear hW
  go_wp2_with (refine wpList_buildG rfl 59 [(1, .tmp 15)] rfl [(1, gv g)] rfl _ (build59 g _) ?_)
  have hW2 : (w2.alloc (.cells ((newL g).set 256 (.int .i64 (-1))).toArray 59)).heap[w2.heap.size]? = some (.cells (spC g ⟨List.replicate n true, -1, 0⟩ (.slice none 0 0)).toArray 59 (0, 0)) := by
    rw [heap_new, hE.out, spC_op_set _ (by simp only [List.length_replicate]; exact hn)]
  have HW2 := Lib.hid hW2
  have HA2 := Lib.hid ((HA.out.below (HB2.out.alloc HB2.out.size (.cells ((newL g).set 256 (.int .i64 (-1))).toArray 59)) (Nat.le_refl _)))
  have HB3 := Lib.hid (HB2.out.alloc HB2.out.size (.cells ((newL g).set 256 (.int .i64 (-1))).toArray 59))
  clear hW2 p0 p1 hfz e0 e1 e2 e3 e4
  refine (set29 f A n c w.heap.size w2.heap.size g _ _ _ hn (by simp only [List.length_replicate]) HA2.out HW2.out ?_).mono ?_
  · rintro b2 o rfl hbb
    rcases Nat.eq_zero_or_pos n with h0 | h0
    · have := (fine_right hr).s1; have := HS.out; omega
    · obtain ⟨b3, o3, e3, h3, -⟩ := HA.out h0
      have := HB2.out.size
      injection e3 with e3
      injection e3 with e3
      omega
  rintro e w3 ⟨rfl, hb3, hk3⟩
  have H3 := Lib.hid (And.intro hb3 hk3)
  clear hb3 hk3
  go_wp2_with fail
  go_ret
  exact ⟨w2.heap.size, rfl, HB2.out.size, ⟨H3.out.1, ⟨rfl, .inl ⟨rfl, rfl⟩⟩, by simp [Value.ownBlock], ok_new H.out, by simp, hr⟩, HB3.out.trans (H3.out.2.below (by rintro k rfl; exact HB2.out.size) HB3.out.size)⟩
/-- A space turned: its row is the old one or a new one. -/
def SpPost (w : World) (b : Nat) (g : Geo) (n : Nw) (was : List Nw) (row : Value) (v : Value) (e : Ending) (w' : World) : Prop :=
  e = .returned v ∧ ∃ row', Sp w' b g n was row' ∧ (∀ k, row'.ownBlock = some k → row.ownBlock = some k ∨ w.heap.size ≤ k) ∧ Keeps (fun k => k = b ∨ row.ownBlock = some k) w w'
theorem flat_len {g : Geo} (hf : Fine g) : ∀ {was : List Nw}, (∀ m ∈ was, m.Ok g) → (was.flatMap Nw.cells).length = was.length * 258
  | [], _ => rfl
  | m :: was, h => by
    rw [List.flatMap_cons, List.length_append, cells_len ((h m (by simp)).le hf), flat_len hf (fun m hm => h m (List.mem_cons_of_mem _ hm)), List.length_cons]
    omega
theorem flat_split {g : Geo} (hf : Fine g) {was : List Nw} (h : ∀ m ∈ was, m.Ok g) {k : Nat} (hk : k < was.length) :
    (was.flatMap Nw.cells).take (k * 258) = (was.take k).flatMap Nw.cells ∧ ((was.flatMap Nw.cells).drop (k * 258)).take 258 = was[k].cells := by
  have e : was = was.take k ++ (was[k] :: was.drop (k + 1)) := by rw [← List.drop_eq_getElem_cons hk, List.take_append_drop]
  have hl : ((was.take k).flatMap Nw.cells).length = k * 258 := by
    rw [flat_len hf (fun m hm => h m (List.mem_of_mem_take hm)), List.length_take, Nat.min_eq_left (by omega)]
  have e2 : was.flatMap Nw.cells = (was.take k).flatMap Nw.cells ++ (was[k].cells ++ (was.drop (k + 1)).flatMap Nw.cells) := by
    rw [← List.flatMap_cons, ← List.flatMap_append, ← e]
  rw [e2]
  constructor
  · rw [List.take_append_of_le_length (by omega), List.take_of_length_le (by omega)]
  · rw [← hl, List.drop_left, List.take_append_of_le_length (by rw [cells_len ((h _ (List.getElem_mem _)).le hf)]; omega), List.take_of_length_le (by rw [cells_len ((h _ (List.getElem_mem _)).le hf)]; omega)]
/-- The first elements of a row. -/
theorem own_prefix {w : World} {base : Nat} {e : TypeId} {size : Nat} {A : Option Addr} {n c m : Nat} {xs : List Value} (h : w.ownsRow base e size (.slice A n c) n xs) (hm : m ≤ n) : w.ownsRow base e size (.slice A m c) m (xs.take (m * size)) := by
  have hl := h.1
  have hms : m * size ≤ n * size := Nat.mul_le_mul_right _ hm
  refine ⟨by rw [List.length_take]; omega, ?_⟩
  rcases h.2 with ⟨h1, h2⟩ | ⟨g, cap, cur, h1, h2, h3, h4, h5, h6, h7⟩
  · injection h1 with h1 h8 h9
    subst h1 h9 h2
    obtain rfl : m = 0 := by omega
    exact .inl ⟨rfl, rfl⟩
  · injection h1 with h1 h8 h9
    subst h1 h9
    refine .inr ⟨g, c, cur, rfl, h2, h3, by omega, h5, h6, ?_⟩
    rw [← h7, List.take_take, Nat.min_eq_left hms]
theorem ownBlock_len (A : Option Addr) (n c m d : Nat) : (Value.slice A n c).ownBlock = (Value.slice A m d).ownBlock := by cases A <;> rfl
set_option maxRecDepth 100000 in
set_option maxHeartbeats 1000000 in
theorem back15a (mark : Int) (w : World) (b : Nat) (g : Geo) (n : Nw) (was : List Nw) (row : Value) (h : Sp w b g n was row) (hm : mark < 0 ∨ (was.length : Int) < mark) : Calls Try.prog 15 #[.pointer (some ⟨b, 0, none⟩), .int .i64 mark] w fun e w' => e = .returned (.int .i64 2) ∧ w = w' := by
  obtain ⟨c0, c1, c2, c3, c4, c5, c6, c7⟩ := sp_cells h.blk h.le
  have hS := h.fine.s1
  obtain ⟨A, c, rfl, h1, h2, h3⟩ := own_form h.own
  unfold maxLen at h2
  clear h h3
  by_cases h0 : mark < 0
  · clear hm
    go_enter Try.func15, Try.ntmps15
    go_wp2_with (go_at_call 30; refine (there_t b g.S _ c3 (by omega)).mono ?_; rintro e w1 ⟨rfl, rfl⟩)
    go_ret
    exact ⟨rfl, rfl⟩
  · have hm : (was.length : Int) < mark := by omega
    go_enter Try.func15, Try.ntmps15
    go_wp2_with (go_at_call 30; refine (there_t b g.S _ c3 (by omega)).mono ?_; rintro e w1 ⟨rfl, rfl⟩)
    go_ret
    exact ⟨rfl, rfl⟩
set_option maxRecDepth 100000 in
set_option maxHeartbeats 1000000 in
theorem back15s (w : World) (b : Nat) (g : Geo) (n : Nw) (was : List Nw) (row : Value) (h : Sp w b g n was row) : Calls Try.prog 15 #[.pointer (some ⟨b, 0, none⟩), .int .i64 (was.length : Nat)] w fun e w' => e = .returned (.int .i64 0) ∧ w = w' := by
  obtain ⟨c0, c1, c2, c3, c4, c5, c6, c7⟩ := sp_cells h.blk h.le
  have hS := h.fine.s1
  obtain ⟨A, c, rfl, h1, h2, h3⟩ := own_form h.own
  unfold maxLen at h2
  clear h h3
  go_enter Try.func15, Try.ntmps15
  go_wp2_with (go_at_call 30; refine (there_t b g.S _ c3 (by omega)).mono ?_; rintro e w1 ⟨rfl, rfl⟩)
  go_ret
  exact ⟨rfl, rfl⟩
set_option maxRecDepth 100000 in
set_option maxHeartbeats 2000000 in
theorem back15l (k : Nat) (w : World) (b : Nat) (g : Geo) (n : Nw) (was : List Nw) (row : Value) (h : Sp w b g n was row) (hk : k < was.length) :
    Calls Try.prog 15 #[.pointer (some ⟨b, 0, none⟩), .int .i64 (k : Nat)] w (SpPost w b g was[k] (was.take k) row (.int .i64 0)) := by
  obtain ⟨c0, c1, c2, c3, c4, c5, c6, c7⟩ := sp_cells h.blk h.le
  have hS := h.fine.s1
  have hf := h.fine
  obtain ⟨A, c, rfl, h1, h2, h3⟩ := own_form h.own
  unfold maxLen at h2
  obtain ⟨q, hq, hcells⟩ : ∃ q, A = some ⟨q, 0, none⟩ ∧ w.rangeAt q (k * 258) was[k].cells := by
    rcases h.own.2 with ⟨h4, h5⟩ | ⟨q, cap, cur, h4, _, _⟩
    · omega
    · injection h4 with h4
      refine ⟨q, h4, fun j v hj => ?_⟩
      subst h4
      have e := (flat_split hf h.okw hk).2
      have hj2 : j < 258 := by
        have := (List.getElem?_eq_some_iff.1 hj).1
        rwa [cells_len ((h.okw _ (List.getElem_mem _)).le hf)] at this
      have hlt : k * 258 + 258 ≤ was.length * 258 := by omega
      rw [World.ownsRow.cellAt h.own (k * 258 + j) (by omega), ← List.getElem?_drop, ← hj, ← e, List.getElem?_take, if_pos hj2]
  have HK := Lib.hid h
  have hkl : Hid ((Try.prog.info? 56).map (·.size) = some was[k].cells.length) := Lib.hid (by rw [cells_len ((h.okw _ (List.getElem_mem _)).le hf)]; exact info56)
  have hfit : 0 + was[k].cells.length ≤ (spC g n (.slice A was.length c)).length := by rw [cells_len ((h.okw _ (List.getElem_mem _)).le hf), spC_len h.le]; omega
  have HFit := Lib.hid hfit
  clear h h3 hfit
  subst hq
  obtain ⟨m, hm⟩ : ∃ m, m = was[k] := ⟨_, rfl⟩
  obtain ⟨L, hL⟩ : ∃ L, L = was.length := ⟨_, rfl⟩
  have HM := Lib.hid (And.intro hm hL)
  rw [← hm] at hcells hkl HFit
  rw [← hL] at c7 h1 hk
  clear hm hL
  go_enter Try.func15, Try.ntmps15
  go_upto_region 7 with first
    | (go_at_call 30; refine (there_t b g.S _ c3 (by omega)).mono ?_; rintro e w1 ⟨rfl, rfl⟩)
    | (refine wpList_load_midG rfl 56 (.tmp 35) rfl q (k * 258) rfl m.cells _ hcells Try.underlying56 rfl hkl.out ?_)
    | (refine wpList_store_segK rfl 56 (.tmp 38) (.tmp 36) rfl b 0 rfl m.cells rfl _ 59 HK.out.blk hkl.out HFit.out cells_one rfl ?_; intro w2 H2 hz2)
  have hmle : m.fr.length ≤ 256 := by rw [HM.out.1]; exact (HK.out.okw _ (List.getElem_mem _)).le HK.out.fine
  have E2 : w2.heap[b]? = some (.cells (spC g m (.slice (some ⟨q, 0, none⟩) was.length c)).toArray 59 (0, 0)) := by
    rw [H2.out.1, spC_now_put HK.out.le hmle]
  have d7 := (sp_cells E2 hmle).2.2.2.2.2.2.2
  rw [← HM.out.2] at d7
  have hfz : w2.frozen? ⟨b, 263, none⟩ = false := frozen_of_row _ _ _ _ _ E2
  have HE := Lib.hid E2
  have HL := Lib.hid hmle
  clear E2 hmle c0 c1 c2 c3 c4 c5 c6 c7 hcells
  go_wp2_with fail
  go_ret
  refine ⟨rfl, .slice (some ⟨q, 0, none⟩) k c, ⟨?_, ?_, ?_, ?_, fun x hx => HK.out.okw x (List.mem_of_mem_take hx), HK.out.right⟩, fun j hj => .inl hj, ?_⟩
  · rw [set_blk HE.out, spC_row_set _ HL.out, ← HM.out.1]
  · have := own_prefix HK.out.own (Nat.le_of_lt (HM.out.2 ▸ hk))
    rw [(flat_split HK.out.fine HK.out.okw (HM.out.2 ▸ hk)).1] at this
    rw [List.length_take, Nat.min_eq_left (Nat.le_of_lt (HM.out.2 ▸ hk))]
    refine (Keeps.row (S := fun k => k = b) (H2.out.2.trans (set_keep _ _ _ _) fun _ _ h => h) this fun j hj e => HK.out.apart ?_)
    rw [← e]; exact hj
  · exact HK.out.apart
  · exact HK.out.okw _ (List.getElem_mem _)
  · exact (H2.out.2.trans (set_keep _ _ _ _) fun _ _ h => h).mono fun j _ hj => .inl hj
set_option maxRecDepth 100000 in
set_option maxHeartbeats 2000000 in
theorem settle22f (f : Nat → Int) (A : Option Addr) (m c : Nat) (w : World) (b : Nat) (g : Geo) (n : Nw) (was : List Nw) (row : Value) (h : Sp w b g n was row) (hm : m ≤ 140737488351232) (ha : Arr w w.heap.size A m fun j => .int .i64 (f j)) (hc : countsB g f m = false) :
    Calls Try.prog 22 #[.pointer (some ⟨b, 0, none⟩), .slice A m c] w fun e w' => e = .returned (.int .i64 2) ∧ Below w.heap.size w w' := by
  obtain ⟨c0, c1, c2, c3, c4, c5, c6, c7⟩ := sp_cells h.blk h.le
  have hS := h.fine.s1
  have HA := Lib.hid ha
  clear h ha
  go_enter Try.func22, Try.ntmps22
  go_wp2_with (go_at_call 30; refine (there_t b g.S _ c3 (by omega)).mono ?_; rintro e w1 ⟨rfl, rfl⟩)
  refine (right28 g f A m c w hm HA.out).mono ?_
  rintro e w1 ⟨rfl, hb⟩
  rw [hc]
  have HB := Lib.hid hb
  clear hb
  go_wp2_with fail
  go_ret
  exact ⟨rfl, HB.out⟩
/-- A space whose counts are said anew. -/
def Nw.settled (n : Nw) (f : Nat → Int) : Nw := ⟨freesL f n.op n.fr.length, n.op, n.fl⟩
theorem ok_settled {g : Geo} {n : Nw} {f : Nat → Int} (h : n.Ok g) : (n.settled f).Ok g := by
  have hl := h.len
  refine ⟨by show ((freesL f n.op n.fr.length).length : Int) = _; rw [freesL_len]; exact hl, ?_, h.f1, h.f2⟩
  rcases h.op with h1 | ⟨h1, h2, h3⟩
  · exact .inl h1
  · refine .inr ⟨h1, h2, ?_⟩
    show (freesL f n.op n.fr.length)[n.op.toNat]? = _
    rw [freesL_at f n.op (by omega)]
    have : ((n.op.toNat : Nat) : Int) = n.op := by omega
    simp [this]
set_option maxRecDepth 100000 in
set_option maxHeartbeats 2000000 in
theorem settle22t (f : Nat → Int) (A : Option Addr) (m c : Nat) (w : World) (b : Nat) (g : Geo) (n : Nw) (was : List Nw) (row : Value) (h : Sp w b g n was row) (hm : m ≤ 140737488351232) (ha : Arr w w.heap.size A m fun j => .int .i64 (f j)) (hne : ∀ b2 o, A = some ⟨b2, o, none⟩ → b2 ≠ b) (hc : countsB g f m = true) :
    Calls Try.prog 22 #[.pointer (some ⟨b, 0, none⟩), .slice A m c] w (SpPost w b g (n.settled f) [] row (.int .i64 0)) := by
  obtain ⟨c0, c1, c2, c3, c4, c5, c6, c7⟩ := sp_cells h.blk h.le
  have hS := h.fine.s1
  have HA := Lib.hid ha
  have H := Lib.hid h
  have hml : m = n.fr.length := by
    simp only [countsB, Bool.and_eq_true, decide_eq_true_eq] at hc
    have := h.ok.len; omega
  have HM := Lib.hid hml
  have HN := Lib.hid hne
  clear h ha hml hne
  go_enter Try.func22, Try.ntmps22
  go_wp2_with (go_at_call 30; refine (there_t b g.S _ c3 (by omega)).mono ?_; rintro e w1 ⟨rfl, rfl⟩)
  refine (right28 g f A m c w hm HA.out).mono ?_
  rintro e w1 ⟨rfl, hb⟩
  rw [hc]
  have HB := Lib.hid hb
  have H1 := Lib.hid (H.out.go hb)
  clear hb c0 c1 c2 c3 c4 c5 c6 c7
  go_wp2_with fail
  refine (set29 f A m c w.heap.size b g n row w1 (by rw [HM.out]; exact H.out.le) HM.out.symm (HA.out.below HB.out (Nat.le_refl _)) H1.out.blk HN.out).mono ?_
  rintro e w2 ⟨rfl, hb2, hk2⟩
  have hle : (n.settled f).fr.length ≤ 256 := (ok_settled (f := f) H.out.ok).le H.out.fine
  rw [HM.out] at hb2
  have H2 : Hid (w2.heap[b]? = some (.cells (spC g (n.settled f) row).toArray 59 (0, 0)) ∧ Keeps (fun k => k = b) w1 w2) := Lib.hid ⟨hb2, hk2⟩
  have d7 := (sp_cells H2.out.1 hle).2.2.2.2.2.2.2
  have hfz : w2.frozen? ⟨b, 263, none⟩ = false := frozen_of_row _ _ _ _ _ hb2
  have HL := Lib.hid hle
  clear hb2 hk2 hle
  go_wp2_with fail
  go_ret
  refine ⟨rfl, .slice none 0 0, ⟨?_, ⟨rfl, .inl ⟨rfl, rfl⟩⟩, by simp [Value.ownBlock], ok_settled H.out.ok, by simp, H.out.right⟩, by simp [Value.ownBlock], ?_⟩
  · rw [set_blk H2.out.1, spC_row_set _ HL.out]
  · exact ((Keeps.fresh (S := fun k => k = b) HB.out).trans (H2.out.2.trans (set_keep _ _ _ _) fun _ _ h => h) fun _ _ h => h).mono fun j _ hj => .inl hj
end Go.Proofs.Ytgoblbmekhcekaa
