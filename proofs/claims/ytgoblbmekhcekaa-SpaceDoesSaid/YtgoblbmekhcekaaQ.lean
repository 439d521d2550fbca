/- The document's space (layer 19): Take. No condition but where it lies. Printed by genQ.py. -/
import Derived.Test.YtgoblbmekhcekaaM
namespace Go.Proofs.Ytgoblbmekhcekaa
open Go.RowKit
theorem Rf.turn {w w' : World} {Y : Nat → Prop} {b : Nat} {g : Geo} {n n' : Nw} {was : List Nw} {fv fv' row : Value} {ws : List (Value × Nw)} (h : Rf w Y b g n was fv row ws) (hk : Keeps (fun k => k = b) w w') (hb : w'.heap[b]? = some (.cells (rfC g fv' n' row).toArray 53 (0, 0)))
    (hfr : Fr w' (fun k => Y k ∧ k ≠ b ∧ row.ownBlock ≠ some k) fv' n'.fr) (ok : n'.Ok g) : Rf w' Y b g n' was fv' row ws :=
  ⟨hb, hk.row h.own (fun _ e hb => h.apart (hb ▸ e)), h.apart, h.yb, h.yr, hfr, fun p hp => (h.frs p hp).keeps hk (fun _ e => e.2.1), h.eq, ok, h.okw, h.right⟩
set_option maxRecDepth 100000 in
set_option maxHeartbeats 1000000 in
theorem rtake24a (s : Int) (deep : Bool) (w : World) (Y : Nat → Prop) (b : Nat) (g : Geo) (n : Nw) (was : List Nw) (h : RfX w Y b g n was) (hs : s < 1 ∨ g.G < s) :
    Calls Try.prog 24 #[.pointer (some ⟨b, 0, none⟩), .int .i64 s, .bool deep] w fun e w' => e = .returned (.tuple #[.int .i64 0, .int .i64 2]) ∧ w = w' := by
  obtain ⟨fv, row, ws, h⟩ := h
  obtain ⟨c0, c1, c2, c3, c4, c5, c6, c7, c8⟩ := rf_cells h.blk
  clear h
  by_cases h0 : s < 1
  · clear hs
    go_enter Try.func24, Try.ntmps24
    go_wp2
    go_ret2
    exact ⟨rfl, rfl⟩
  · have h1 : g.G < s := by omega
    clear hs
    go_enter Try.func24, Try.ntmps24
    go_wp2
    go_ret2
    exact ⟨rfl, rfl⟩
set_option maxRecDepth 100000 in
set_option maxHeartbeats 2000000 in
theorem rtake24n (s : Int) (deep : Bool) (w : World) (Y : Nat → Prop) (b : Nat) (g : Geo) (n : Nw) (was : List Nw) (h : RfX w Y b g n was) (hs : 1 ≤ s ∧ s ≤ g.G) (hn : needB g n s = true) (hno : noB n deep = true) :
    Calls Try.prog 24 #[.pointer (some ⟨b, 0, none⟩), .int .i64 s, .bool deep] w fun e w' => e = .returned (.tuple #[.int .i64 0, .int .i64 11]) ∧ Below w.heap.size w w' := by
  obtain ⟨fv, row, ws, h⟩ := h
  have HX := Lib.hid (show RfX w Y b g n was from ⟨fv, row, ws, h⟩)
  obtain ⟨c0, c1, c2, c3, c4, c5, c6, c7, c8⟩ := rf_cells h.blk
  have hG := h.fine.g2
  have H := Lib.hid h
  have hf1 := h.ok.f1
  have hf2 := h.ok.f2
  obtain ⟨o, ho⟩ : ∃ o, o = n.op := ⟨_, rfl⟩
  obtain ⟨f, hf⟩ : ∃ f, f = n.fl := ⟨_, rfl⟩
  rw [← ho] at c6
  rw [← hf] at c7 hf1 hf2
  have HOF := Lib.hid (And.intro ho hf)
  have hop : o = -1 ∨ (0 ≤ o ∧ o < g.S) := by
    rw [ho]
    rcases h.ok.op with h | h
    · exact .inl h.1
    · exact .inr ⟨h.1, h.2.1⟩
  have HOP := Lib.hid hop
  clear h ho hf hop
  have s1 := hs.1
  have s2 := hs.2
  have hN := Lib.hid hn
  have hNO := Lib.hid hno
  clear hs hn hno
  go_enter Try.func24, Try.ntmps24
  go_upto_region 3 with fail
  go_cut [40] from 22 to 40 (fun s40 w' => s40 = .bool false ∧ w' = w.drew)
  case first =>
    by_cases hop : 0 ≤ o
    · have d : decide (0 ≤ o) = true := by simpa using hop
      have hg : ¬ f + s ≤ g.G := by have := hN.out; simp only [needB, Bool.or_eq_true, decide_eq_true_eq, ← HOF.out.1, ← HOF.out.2] at this; omega
      have d2 : decide (f + s ≤ g.G) = false := by simpa using hg
      clear hop
      go_wp2_with fail
      refine ws_region 18 (by kernel_rfl) (by kernel_rfl) ?_
      simp only [List.take_succ_cons, List.take_zero, List.drop_succ_cons, List.drop_zero]
      iterate 6 (refine WS.take (v := ?_) (by rfl) ?_ ?_; rotate_left; · (go_simp; try with_reducible rfl); try simp only [Act.put, List.setIfInBounds_toArray, List.set_cons_zero, List.set_cons_succ])
      iterate 12 (refine WS.take (v := ?_) (by kernel_rfl) ?_ ?_; rotate_left; · (go_simp; try with_reducible rfl); try simp only [Act.put, List.setIfInBounds_toArray, List.set_cons_zero, List.set_cons_succ])
      refine WS.nil ?_
      go_wp2_with fail
      go_meet
      exact ⟨by simp [hg], rfl⟩
    · have d : decide (0 ≤ o) = false := by simpa using hop
      clear hop
      go_wp2_with fail
      refine ws_region 18 (by kernel_rfl) (by kernel_rfl) ?_
      simp only [List.take_succ_cons, List.take_zero, List.drop_succ_cons, List.drop_zero]
      iterate 6 (refine WS.take (v := ?_) (by rfl) ?_ ?_; rotate_left; · (go_simp; try with_reducible rfl); try simp only [Act.put, List.setIfInBounds_toArray, List.set_cons_zero, List.set_cons_succ])
      iterate 12 (refine WS.skip (by kernel_rfl) ?_; try simp only [Act.put, List.setIfInBounds_toArray, List.set_cons_zero, List.set_cons_succ])
      refine WS.nil ?_
      go_wp2_with fail
      go_meet
      exact ⟨rfl, rfl⟩
  case rest =>
    obtain ⟨rfl, rfl⟩ := hcut
    have H1 := Lib.hid (H.out.go (below_drewN (Below.refl _ w) 1))
    have B1 := Lib.hid (below_drewN (Below.refl w.heap.size w) 1)
    obtain ⟨w1, hw1⟩ : ∃ w1, w1 = w.drewN 1 := ⟨_, rfl⟩
    have hw1' : w.drew = w1 := hw1.symm
    rw [← hw1] at H1 B1
    rw [hw1']
    clear hw1 hw1' c0 c1 c2 c3 c4 c5 c6 c7 c8
    have hno2 := hNO.out
    unfold noB at hno2
    obtain ⟨k, hk⟩ : ∃ k, k = n.fr.count true := ⟨_, rfl⟩
    rw [← hk] at hno2
    have HK := Lib.hid hk
    clear hk
    by_cases hk1 : k < 1
    · have t1 : decide ((k : Int) < 1) = true := by simp; omega
      clear hno2
      go_wp2_with (go_at_call 25; refine (rfree25 w1 Y b g n was fv row ws H1.out).mono ?_; rw [← HK.out]; rintro e w2 ⟨rfl, rfl⟩)
      go_ret2
      exact ⟨rfl, B1.out⟩
    · have t1 : decide ((k : Int) < 1) = false := by simp; omega
      have t0 : decide (k < 1) = false := by simp; omega
      rw [t0, Bool.false_or, Bool.and_eq_true, decide_eq_true_eq] at hno2
      have t2 : decide ((k : Int) < 2) = true := by simp; omega
      obtain rfl : deep = false := by simpa using hno2.2
      clear hno2 t0
      go_wp2_with (go_at_call 25; refine (rfree25 w1 Y b g n was fv row ws H1.out).mono ?_; rw [← HK.out]; rintro e w2 ⟨rfl, rfl⟩)
      go_ret2
      exact ⟨rfl, B1.out⟩
set_option maxRecDepth 100000 in
set_option maxHeartbeats 2000000 in
theorem rtake24m (s : Int) (deep : Bool) (w : World) (Y : Nat → Prop) (b : Nat) (g : Geo) (n : Nw) (was : List Nw) (h : RfX w Y b g n was) (hwas : was.length ≤ 100000) (hs : 1 ≤ s ∧ s ≤ g.G) (hn : needB g n s = false) :
    Calls Try.prog 24 #[.pointer (some ⟨b, 0, none⟩), .int .i64 s, .bool deep] w (RGoes w Y b g (more n s) (was ++ [n]) (.tuple #[.int .i64 (segV g n.op + n.fl), .int .i64 0])) := by
  obtain ⟨fv, row, ws, h⟩ := h
  have HX := Lib.hid (show RfX w Y b g n was from ⟨fv, row, ws, h⟩)
  obtain ⟨c0, c1, c2, c3, c4, c5, c6, c7, c8⟩ := rf_cells h.blk
  have hG := h.fine.g2
  have H := Lib.hid h
  have hf1 := h.ok.f1
  have hf2 := h.ok.f2
  obtain ⟨o, ho⟩ : ∃ o, o = n.op := ⟨_, rfl⟩
  obtain ⟨f, hf⟩ : ∃ f, f = n.fl := ⟨_, rfl⟩
  rw [← ho] at c6
  rw [← hf] at c7 hf1 hf2
  have HOF := Lib.hid (And.intro ho hf)
  have hop : o = -1 ∨ (0 ≤ o ∧ o < g.S) := by
    rw [ho]
    rcases h.ok.op with h | h
    · exact .inl h.1
    · exact .inr ⟨h.1, h.2.1⟩
  have HOP := Lib.hid hop
  clear h ho hf hop
  have s1 := hs.1
  have s2 := hs.2
  have hnn := hn
  simp only [needB, Bool.or_eq_false_iff, decide_eq_false_iff_not, ← HOF.out.1, ← HOF.out.2] at hnn
  have hopr : 0 ≤ o ∧ o < g.S := by have := HOP.out; omega
  have hfs : f + s ≤ g.G := by omega
  have HOR := Lib.hid (And.intro hopr hfs)
  have d : decide (0 ≤ o) = true := by simp [hopr.1]
  have d2 : decide (f + s ≤ g.G) = true := by simpa using hfs
  clear hs hn hnn hopr
  go_enter Try.func24, Try.ntmps24
  go_upto_region 3 with fail
  go_cut [40] from 22 to 40 (fun s40 w' => s40 = .bool true ∧ w' = w.drew)
  case first =>
    go_wp2_with fail
    refine ws_region 18 (by kernel_rfl) (by kernel_rfl) ?_
    simp only [List.take_succ_cons, List.take_zero, List.drop_succ_cons, List.drop_zero]
    iterate 6 (refine WS.take (v := ?_) (by rfl) ?_ ?_; rotate_left; · (go_simp; try with_reducible rfl); try simp only [Act.put, List.setIfInBounds_toArray, List.set_cons_zero, List.set_cons_succ])
    iterate 12 (refine WS.take (v := ?_) (by kernel_rfl) ?_ ?_; rotate_left; · (go_simp; try with_reducible rfl); try simp only [Act.put, List.setIfInBounds_toArray, List.set_cons_zero, List.set_cons_succ])
    refine WS.nil ?_
    go_wp2_with fail
    go_meet
    exact ⟨by simp [hfs], rfl⟩
  case rest =>
    obtain ⟨rfl, rfl⟩ := hcut
    have H1 := Lib.hid (H.out.go (below_drewN (Below.refl _ w) 1))
    clear c0 c1 c2 c3 c4 c5 c6 c7 c8 d d2
    go_wp2_with fail
    refine (rkeep39 w.drew Y b g n was fv row ws H1.out hwas).mono ?_
    rintro e w2 ⟨rfl, ⟨fv2, row2, ws2, h2⟩, hk2⟩
    have H2 := Lib.hid h2
    have K2 := Lib.hid hk2
    obtain ⟨c0, c1, c2, c3, c4, c5, c6, c7, c8⟩ := rf_cells h2.blk
    rw [← HOF.out.1] at c6
    rw [← HOF.out.2] at c7
    obtain ⟨sb1, sb2⟩ := seg_rng H.out.right HOR.out.1.1 HOR.out.1.2
    obtain ⟨at_, hat⟩ : ∃ x, x = segV g o := ⟨_, rfl⟩
    rw [← hat] at sb1 sb2
    have HAT := Lib.hid hat
    have sm : IntKind.i64.wrap (at_ + f) = at_ + f := IntWalk.i64_in _ (by omega)
    clear h2 hk2 hat
    go_wp2_with fail
    go_region_held3 (fun w' => w'.cell? ⟨b, 0, none⟩ = some (.int .i64 g.V) ∧ w'.cell? ⟨b, 1, none⟩ = some (.int .i64 g.S) ∧ w'.cell? ⟨b, 2, none⟩ = some (.int .i64 g.G) ∧ w'.cell? ⟨b, 3, none⟩ = some (.int .i64 g.U) ∧ w'.cell? ⟨b, 4, none⟩ = some (.int .i64 g.J) ∧ w'.cell? ⟨b, 6, none⟩ = some (.int .i64 o) ∧ w'.cell? ⟨b, 7, none⟩ = some (.int .i64 f)) (go_keep)
      (first | (go_at_call 40; refine (seg25 g o _).mono ?_; rw [← HAT.out]; rintro e w3 ⟨rfl, hb3⟩; have K3 := Lib.hid ((hb3.block b (heap_lt H2.out.blk)).trans H2.out.blk); obtain ⟨e0, e1, e2, e3, e4, e5, e6, e7, e8⟩ := rf_cells K3.out; rw [← HOF.out.1] at e6; rw [← HOF.out.2] at e7))
    have B3 := Lib.hid hb3
    have H3 := Lib.hid ((H2.out.go (below_drewN (Below.refl _ w2) 1)).go hb3)
    have hz := frozen_of_row w3 b 7 _ _ H3.out.blk
    clear sm c0 c1 c2 c3 c4 c5 c6 c7 c8 hb3
    go_wp2_with fail
    go_ret2
    refine ⟨ret_i2 (by rw [HAT.out, HOF.out.1, HOF.out.2]), ⟨fv2, row2, ws2, H3.out.turn (set_keep w3 b 7 _) ?_ ?_ ?_⟩, ?_⟩
    · rw [set_blk H3.out.blk, HOF.out.2]; rfl
    · exact H3.out.fr.keeps (set_keep w3 b 7 _) (fun k hk => hk.2.1)
    · exact ok_more H.out.ok (by have := HOR.out; rw [HOF.out.1, HOF.out.2] at this; exact ⟨this.1.1, this.1.2, H.out.ok.f1, this.2, hG, H.out.ok.le H.out.fine⟩) s1
    · exact (((Keeps.drew Y w).trans K2.out fun _ _ h => h).trans ((Keeps.drew Y w2).trans (Keeps.fresh (S := Y) B3.out) fun _ _ h => h) fun _ _ h => h).trans (set_keep w3 b 7 _) fun k _ e => e ▸ H.out.yb
end Go.Proofs.Ytgoblbmekhcekaa
