/- What Take of layer 19 (space) computes. No condition but where a space lies. Printed by genF.py. -/
import Derived.Test.YtgoblbmekhcekaaE
import Derived.Deep.CutRange
import Derived.Deep.RegionLaw
namespace Go.Proofs.Ytgoblbmekhcekaa
open Go.RowKit
def zN : List Value := List.replicate 256 (.bool false) ++ [.int .i64 0, .int .i64 0]
theorem zero56 (u : World) : (zeroValue 56).run Try.prog u = .ok (.agg zN.toArray) u := by kernel_rfl
theorem zN_len : zN.length = 258 := by rw [zN, List.length_append, List.length_replicate]; rfl
theorem splice_all (vs cur : List Value) (h : cur.length = vs.length) : splice cur 0 vs = vs := by
  unfold splice; rw [List.take_zero, List.nil_append, List.drop_of_length_le (by omega), List.append_nil]
set_option maxRecDepth 100000 in
set_option maxHeartbeats 1000000 in
theorem take11a (s : Int) (deep : Bool) (w : World) (b : Nat) (g : Geo) (n : Nw) (was : List Nw) (row : Value) (h : Sp w b g n was row) (hs : s < 1 ∨ g.G < s) :
    Calls Try.prog 11 #[.pointer (some ⟨b, 0, none⟩), .int .i64 s, .bool deep] w fun e w' => e = .returned (.tuple #[.int .i64 0, .int .i64 2]) ∧ w = w' := by
  obtain ⟨c0, c1, c2, c3, c4, c5, c6, c7⟩ := sp_cells h.blk h.le
  have hS := h.fine.s1
  clear h
  by_cases h0 : s < 1
  · clear hs
    go_enter Try.func11, Try.ntmps11
    go_wp2_with (go_at_call 30; refine (there_t b g.S _ c3 (by omega)).mono ?_; rintro e w1 ⟨rfl, rfl⟩)
    go_ret2
    exact ⟨rfl, rfl⟩
  · have h1 : g.G < s := by omega
    clear hs
    go_enter Try.func11, Try.ntmps11
    go_wp2_with (go_at_call 30; refine (there_t b g.S _ c3 (by omega)).mono ?_; rintro e w1 ⟨rfl, rfl⟩)
    go_ret2
    exact ⟨rfl, rfl⟩
/-- Must another segment be opened? -/
def needB (g : Geo) (n : Nw) (s : Int) : Bool := decide (n.op = -1) || decide (g.G - n.fl < s)
/-- May none be opened? -/
def noB (n : Nw) (deep : Bool) : Bool := decide (n.fr.count true < 1) || (decide (n.fr.count true < 2) && !deep)
set_option maxRecDepth 100000 in
set_option maxHeartbeats 2000000 in
theorem take11n (s : Int) (deep : Bool) (w : World) (b : Nat) (g : Geo) (n : Nw) (was : List Nw) (row : Value) (h : Sp w b g n was row) (hs : 1 ≤ s ∧ s ≤ g.G) (hn : needB g n s = true) (hno : noB n deep = true) :
    Calls Try.prog 11 #[.pointer (some ⟨b, 0, none⟩), .int .i64 s, .bool deep] w fun e w' => e = .returned (.tuple #[.int .i64 0, .int .i64 11]) ∧ Below w.heap.size w w' := by
  have hno := Lib.hid hno
  obtain ⟨c0, c1, c2, c3, c4, c5, c6, c7⟩ := sp_cells h.blk h.le
  have hS := h.fine.s1
  have hG := h.fine.g2
  have hf1 := h.ok.f1
  have hf2 := h.ok.f2
  have H := Lib.hid h
  have call := sp_all h.blk
  have hkl : Hid ((Try.prog.info? 56).map (·.size) = some n.cells.length) := Lib.hid (by rw [cells_len h.le]; exact info56)
  have hkf : Hid (0 + n.cells.length ≤ zN.length) := Lib.hid (by rw [cells_len h.le, zN_len]; omega)
  have hka : Hid (splice zN 0 n.cells = n.cells) := Lib.hid (splice_all _ _ (by rw [cells_len h.le, zN_len]))
  have z56 := zero56
  have s1 := hs.1
  have s2 := hs.2
  have hN := Lib.hid hn
  clear h hs hn
  go_enter Try.func11, Try.ntmps11
  go_upto_region 6 with first
    | (go_at_call 30; refine (there_t b g.S _ c3 (by omega)).mono ?_; rintro e w1 ⟨rfl, rfl⟩)
    | (refine wpList_load_midG rfl 56 (.tmp 29) rfl b 0 rfl n.cells _ call Try.underlying56 rfl hkl.out ?_)
    | (refine wpList_store_segK rfl 56 (.tmp 8) (.tmp 30) rfl w.heap.size 0 rfl n.cells rfl zN 56 (heap_new w _) hkl.out hkf.out cells_one rfl ?_; intro w2 H2 hz2)
  obtain ⟨l, hl⟩ : ∃ l, l = w.heap.size := ⟨_, rfl⟩
  have hbl : b ≠ l := by have := heap_lt H.out.blk; omega
  have K2 : Hid (Keeps (fun _ => False) w w2) := Lib.hid (((Keeps.alloc (fun k => k = w.heap.size) w _).trans H2.out.2 fun _ _ h => h).mono fun i hi e => by omega)
  have B2 : Hid (w2.heap[b]? = some (.cells (spC g n row).toArray 59 (0, 0)) ∧ w2.heap[l]? = some (.cells n.cells.toArray 56 (0, 0)) ∧ w2.ownsRow 0 56 258 row was.length (was.flatMap Nw.cells) ∧ w.heap.size < w2.heap.size) :=
    Lib.hid ⟨K2.out.heap H.out.blk (fun h => h), by rw [hl, H2.out.1, hka.out], K2.out.row H.out.own (fun _ _ h => h), by rw [hz2]; simp⟩
  rw [← hl]
  have HL := Lib.hid (And.intro hl hbl)
  have hcl := Lib.hid (cells_len (n := n) H.out.le)
  clear c0 c1 c2 c3 c4 c5 c6 c7 call hl hbl H2 hz2
  obtain ⟨d0, d1, d2, d3, d4, d5, d6, d7⟩ := sp_cells B2.out.1 H.out.le
  clear d2 d5 d6
  go_cut [51] from 31 to 51 (fun s51 w' => s51 = .bool true ∧ w' = w2.drew)
  case first =>
    by_cases hop : n.op = -1
    · have d : (n.op == -1) = true := by simpa using hop
      clear hop
      go_wp2_with fail
      refine ws_region 20 (by kernel_rfl) (by kernel_rfl) ?_
      simp only [List.take_succ_cons, List.take_zero, List.drop_succ_cons, List.drop_zero]
      iterate 7 (refine WS.take (v := ?_) (by rfl) ?_ ?_; rotate_left; · (go_simp; try with_reducible rfl); try simp only [Act.put, List.setIfInBounds_toArray, List.set_cons_zero, List.set_cons_succ])
      iterate 13 (refine WS.skip (by kernel_rfl) ?_; try simp only [Act.put, List.setIfInBounds_toArray, List.set_cons_zero, List.set_cons_succ])
      refine WS.nil ?_
      go_wp2_with fail
      go_meet
      exact ⟨rfl, rfl⟩
    · have d : (n.op == -1) = false := by simpa using hop
      have hg : g.G - n.fl < s := by have := hN.out; simp only [needB, Bool.or_eq_true, decide_eq_true_eq] at this; omega
      clear hop
      go_wp2_with fail
      refine ws_region 20 (by kernel_rfl) (by kernel_rfl) ?_
      simp only [List.take_succ_cons, List.take_zero, List.drop_succ_cons, List.drop_zero]
      iterate 7 (refine WS.take (v := ?_) (by rfl) ?_ ?_; rotate_left; · (go_simp; try with_reducible rfl); try simp only [Act.put, List.setIfInBounds_toArray, List.set_cons_zero, List.set_cons_succ])
      iterate 13 (refine WS.take (v := ?_) (by kernel_rfl) ?_ ?_; rotate_left; · (go_simp; try with_reducible rfl); try simp only [Act.put, List.setIfInBounds_toArray, List.set_cons_zero, List.set_cons_succ])
      refine WS.nil ?_
      go_wp2_with fail
      go_meet
      exact ⟨by simp [hg], rfl⟩
  case rest =>
    obtain ⟨rfl, rfl⟩ := hcut
    have SP3 := Lib.hid (show Sp w2.drew b g n was row from ⟨B2.out.1, B2.out.2.2.1, H.out.apart, H.out.ok, H.out.okw, H.out.right⟩)
    have B2w : Hid (Below w.heap.size w w2.drew) := Lib.hid ((K2.out.below (fun k h => h.elim) (Nat.le_refl _)).drew)
    clear d0 d1 d3 d4 d7 z56
    go_wp2_with fail
    refine (free10 _ b g n was row SP3.out).mono ?_
    rintro e w3 ⟨rfl, hb3⟩
    have B3 := Lib.hid (B2w.out.trans (hb3.mono B2w.out.size))
    clear hb3
    have hno2 := hno.out
    unfold noB at hno2
    obtain ⟨k, hk⟩ : ∃ k, k = n.fr.count true := ⟨_, rfl⟩
    rw [← hk] at hno2 ⊢
    clear hk
    by_cases hk1 : k < 1
    · have t1 : decide ((k : Int) < 1) = true := by simp; omega
      clear hno2
      go_wp2_with fail
      go_ret2
      exact ⟨rfl, B3.out⟩
    · have t1 : decide ((k : Int) < 1) = false := by simp; omega
      have t0 : decide (k < 1) = false := by simp; omega
      rw [t0, Bool.false_or, Bool.and_eq_true, decide_eq_true_eq] at hno2
      have t2 : decide ((k : Int) < 2) = true := by simp; omega
      obtain rfl : deep = false := by simpa using hno2.2
      clear hno2 t0
      go_wp2_with fail
      go_ret2
      exact ⟨rfl, B3.out⟩
end Go.Proofs.Ytgoblbmekhcekaa
