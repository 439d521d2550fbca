/- What Take of layer 19 (space) computes where another segment is opened. No condition but where a space lies. Printed by genF.py. -/
import Derived.Test.YtgoblbmekhcekaaG
namespace Go.Proofs.Ytgoblbmekhcekaa
open Go.RowKit
/-- The first that is free. -/
def fst : List Bool → Nat
  | [] => 0
  | true :: _ => 0
  | false :: l => fst l + 1
theorem fst_of : ∀ (l : List Bool), 0 < l.count true → fst l < l.length ∧ l[fst l]? = some true ∧ ∀ j, j < fst l → l[j]? = some false
  | [], h => by simp at h
  | true :: l, _ => ⟨by simp [fst], by simp [fst], by simp [fst]⟩
  | false :: l, h => by
    have h2 : 0 < l.count true := by simpa using h
    obtain ⟨h3, h4, h5⟩ := fst_of l h2
    refine ⟨by simp only [fst, List.length_cons]; omega, by simpa [fst] using h4, fun j hj => ?_⟩
    match j with
    | 0 => rfl
    | j + 1 => exact h5 j (by simp only [fst] at hj; omega)
/-- A space whose first free segment is opened. -/
def opened (n : Nw) (s : Int) : Nw := ⟨n.fr.set (fst n.fr) false, (fst n.fr : Nat), s⟩
theorem ok_opened {g : Geo} {n : Nw} {s : Int} (h : n.Ok g) (h0 : 0 < n.fr.count true) (h1 : 0 ≤ s) (h2 : s ≤ g.G) : (opened n s).Ok g := by
  obtain ⟨f1, f2, f3⟩ := fst_of n.fr h0
  have hl := h.len
  refine ⟨by show ((n.fr.set (fst n.fr) false).length : Int) = g.S; rw [List.length_set]; exact hl, .inr ⟨by show (0 : Int) ≤ (fst n.fr : Nat); omega, by show ((fst n.fr : Nat) : Int) < g.S; omega, ?_⟩, h1, h2⟩
  show (n.fr.set (fst n.fr) false)[((fst n.fr : Nat) : Int).toNat]? = some false
  rw [Int.toNat_natCast, List.getElem?_set_self f1]
set_option maxRecDepth 100000 in
set_option maxHeartbeats 4000000 in
theorem take11k (s : Int) (deep : Bool) (w : World) (b : Nat) (g : Geo) (n : Nw) (was : List Nw) (row : Value) (h : Sp w b g n was row) (hwas : was.length ≤ 100000) (hs : 1 ≤ s ∧ s ≤ g.G) (hn : needB g n s = true) (hno : noB n deep = false) :
    Calls Try.prog 11 #[.pointer (some ⟨b, 0, none⟩), .int .i64 s, .bool deep] w (SpPost w b g (opened n s) (was ++ [n]) row (.tuple #[.int .i64 (segV g (fst n.fr : Nat)), .int .i64 0])) := by
  have hno := Lib.hid hno
  have hs2 := Lib.hid hs.2
  obtain ⟨c0, c1, c2, c3, c4, c5, c6, c7⟩ := sp_cells h.blk h.le
  have hS := h.fine.s1
  have hG := h.fine.g2
  have hf1 := h.ok.f1
  have hf2 := h.ok.f2
  have H := Lib.hid h
  have call := sp_all h.blk
  have hkl : Hid ((Try.prog.info? 56).map (·.size) = some n.cells.length) := Lib.hid (by rw [cells_len h.le]; exact info56)
  have hkf : Hid (0 + n.cells.length ≤ zN.length) := Lib.hid (by rw [cells_len h.le, zN_len]; omega)
  have hka : Hid (splice zN 0 n.cells = n.cells) := Lib.hid (splice_all _ _ (by rw [cells_len h.le, zN_len]))
  have z56 := zero56
  have s1 := hs.1
  have s2 := hs.2
  have hN := Lib.hid hn
  clear h hs hn
  go_enter Try.func11, Try.ntmps11
  go_upto_region 6 with first
    | (go_at_call 30; refine (there_t b g.S _ c3 (by omega)).mono ?_; rintro e w1 ⟨rfl, rfl⟩)
    | (refine wpList_load_midG rfl 56 (.tmp 29) rfl b 0 rfl n.cells _ call Try.underlying56 rfl hkl.out ?_)
    | (refine wpList_store_segK rfl 56 (.tmp 8) (.tmp 30) rfl w.heap.size 0 rfl n.cells rfl zN 56 (heap_new w _) hkl.out hkf.out cells_one rfl ?_; intro w2 H2 hz2)
  obtain ⟨l, hl⟩ : ∃ l, l = w.heap.size := ⟨_, rfl⟩
  have hbl : b ≠ l := by have := heap_lt H.out.blk; omega
  have K2 : Hid (Keeps (fun _ => False) w w2) := Lib.hid (((Keeps.alloc (fun k => k = w.heap.size) w _).trans H2.out.2 fun _ _ h => h).mono fun i hi e => by omega)
  have B2 : Hid (w2.heap[b]? = some (.cells (spC g n row).toArray 59 (0, 0)) ∧ w2.heap[l]? = some (.cells n.cells.toArray 56 (0, 0)) ∧ w2.ownsRow 0 56 258 row was.length (was.flatMap Nw.cells) ∧ w.heap.size < w2.heap.size) :=
    Lib.hid ⟨K2.out.heap H.out.blk (fun h => h), by rw [hl, H2.out.1, hka.out], K2.out.row H.out.own (fun _ _ h => h), by rw [hz2]; simp⟩
  rw [← hl]
  have HL := Lib.hid (And.intro hl hbl)
  have hcl := Lib.hid (cells_len (n := n) H.out.le)
  clear c0 c1 c2 c3 c4 c5 c6 c7 call hl hbl H2 hz2
  obtain ⟨d0, d1, d2, d3, d4, d5, d6, d7⟩ := sp_cells B2.out.1 H.out.le
  clear d2 d5 d6
  go_cut [51] from 31 to 51 (fun s51 w' => s51 = .bool true ∧ w' = w2.drew)
  case first =>
    by_cases hop : n.op = -1
    · have d : (n.op == -1) = true := by simpa using hop
      clear hop
      go_wp2_with fail
      refine ws_region 20 (by kernel_rfl) (by kernel_rfl) ?_
      simp only [List.take_succ_cons, List.take_zero, List.drop_succ_cons, List.drop_zero]
      iterate 7 (refine WS.take (v := ?_) (by rfl) ?_ ?_; rotate_left; · (go_simp; try with_reducible rfl); try simp only [Act.put, List.setIfInBounds_toArray, List.set_cons_zero, List.set_cons_succ])
      iterate 13 (refine WS.skip (by kernel_rfl) ?_; try simp only [Act.put, List.setIfInBounds_toArray, List.set_cons_zero, List.set_cons_succ])
      refine WS.nil ?_
      go_wp2_with fail
      go_meet
      exact ⟨rfl, rfl⟩
    · have d : (n.op == -1) = false := by simpa using hop
      have hg : g.G - n.fl < s := by have := hN.out; simp only [needB, Bool.or_eq_true, decide_eq_true_eq] at this; omega
      clear hop
      go_wp2_with fail
      refine ws_region 20 (by kernel_rfl) (by kernel_rfl) ?_
      simp only [List.take_succ_cons, List.take_zero, List.drop_succ_cons, List.drop_zero]
      iterate 7 (refine WS.take (v := ?_) (by rfl) ?_ ?_; rotate_left; · (go_simp; try with_reducible rfl); try simp only [Act.put, List.setIfInBounds_toArray, List.set_cons_zero, List.set_cons_succ])
      iterate 13 (refine WS.take (v := ?_) (by kernel_rfl) ?_ ?_; rotate_left; · (go_simp; try with_reducible rfl); try simp only [Act.put, List.setIfInBounds_toArray, List.set_cons_zero, List.set_cons_succ])
      refine WS.nil ?_
      go_wp2_with fail
      go_meet
      exact ⟨by simp [hg], rfl⟩
  case rest =>
    obtain ⟨rfl, rfl⟩ := hcut
    have SP3 := Lib.hid (show Sp w2.drew b g n was row from ⟨B2.out.1, B2.out.2.2.1, H.out.apart, H.out.ok, H.out.okw, H.out.right⟩)
    clear d0 d1 d3 d4 d7 z56 hf1 hf2
    have hcnt : 1 ≤ n.fr.count true ∧ (2 ≤ n.fr.count true ∨ deep = true) := by
      have := hno.out
      simp only [noB, Bool.or_eq_false_iff, decide_eq_false_iff_not, Bool.and_eq_false_iff, Bool.not_eq_false'] at this
      exact ⟨by omega, this.2.imp (fun h => by omega) id⟩
    obtain ⟨f1, f2, f3⟩ := fst_of n.fr (by omega)
    obtain ⟨k0, hk0⟩ : ∃ k0, k0 = fst n.fr := ⟨_, rfl⟩
    rw [← hk0] at f1 f2 f3
    have HK0 := Lib.hid (And.intro hk0 (And.intro f2 f3))
    have hle := H.out.le
    have hk0l : k0 < 256 := by omega
    have HC := Lib.hid hcnt
    clear f2 f3 hk0 hcnt
    go_wp2_with fail
    refine (free10 _ b g n was row SP3.out).mono ?_
    rintro e w3 ⟨rfl, hb3⟩
    have K3 : Hid (w3.heap[b]? = some (.cells (spC g n row).toArray 59 (0, 0)) ∧ w3.heap[l]? = some (.cells n.cells.toArray 56 (0, 0)) ∧ w3.ownsRow 0 56 258 row was.length (was.flatMap Nw.cells) ∧ w.heap.size < w3.heap.size ∧ Keeps (fun k => k = b) w w3) :=
      Lib.hid ⟨(hb3.block b (heap_lt B2.out.1)).trans B2.out.1, (hb3.block l (heap_lt B2.out.2.1)).trans B2.out.2.1, (Keeps.fresh (S := fun _ => False) hb3).row B2.out.2.2.1 (fun _ _ h => h), Nat.lt_of_lt_of_le B2.out.2.2.2 hb3.size, (K2.out.mono fun i _ h => h.elim).trans ((Keeps.drew (fun k => k = b) w2).trans (Keeps.fresh (S := fun k => k = b) hb3) fun _ _ h => h) fun _ _ h => h⟩
    clear hb3 SP3 K2 B2
    obtain ⟨k, hk⟩ : ∃ k, k = n.fr.count true := ⟨_, rfl⟩
    have HCK : Hid (1 ≤ k ∧ (2 ≤ k ∨ deep = true)) := Lib.hid (by rw [hk]; exact HC.out)
    rw [← hk]
    clear hk
    go_upto_region 8 with fail
    go_cut [63] from 54 to 63 (fun s63 w' => s63 = .bool false ∧ w' = w3)
    case first =>
      have hk1 := HCK.out.1
      have t1 : decide ((k : Int) < 1) = false := by simp; omega
      by_cases h2 : 2 ≤ k
      · have t2 : decide ((k : Int) < 2) = false := by simp; omega
        go_wp2_with fail
        go_meet
        exact ⟨rfl, rfl⟩
      · have t2 : decide ((k : Int) < 2) = true := by simp; omega
        obtain rfl : deep = true := by
          rcases HCK.out.2 with h | h
          · exact absurd h h2
          · exact h
        go_wp2_with fail
        go_meet
        exact ⟨rfl, rfl⟩
    case rest =>
      obtain ⟨rfl, rfl⟩ := hcut
      have u0 : wc.cell? ⟨b, k0, none⟩ = some (.bool false) := by
        have := sp_used K3.out.1 hle k0 f1
        have e : n.fr[k0] = true := by have := HK0.out.2.1; rw [List.getElem?_eq_getElem f1] at this; exact Option.some.inj this
        rw [e] at this; exact this
      have u1 : ∀ j, j < k0 → wc.cell? ⟨b, j, none⟩ = some (.bool true) := fun j hj => by
        have := sp_used K3.out.1 hle j (by omega)
        have e : n.fr[j]'(by omega) = false := by have := HK0.out.2.2 j hj; rw [List.getElem?_eq_getElem (by omega)] at this; exact Option.some.inj this
        rw [e] at this; exact this
      have HU := Lib.hid (And.intro u0 u1)
      obtain ⟨p0, p1, -⟩ := sp_cells K3.out.1 hle
      have q0 : wc.frozen? ⟨b, 256, none⟩ = false := frozen_of_row _ _ _ _ _ K3.out.1
      have q1 : wc.frozen? ⟨b, 257, none⟩ = false := frozen_of_row _ _ _ _ _ K3.out.1
      clear u0 u1
      go_upto_region 11 with (go_at_call 32; refine (index32 b k0 _ _ hk0l HU.out.1 HU.out.2).mono ?_; rintro e w4 ⟨rfl, rfl⟩)
      obtain ⟨w5, hw5⟩ : ∃ w5, w5 = (wc.setCell ⟨b, 256, none⟩ (.int .i64 (k0 : Nat))).setCell ⟨b, 257, none⟩ (.int .i64 0) := ⟨_, rfl⟩
      rw [← hw5]
      have E5 : Hid (w5.drew.heap[b]? = some (.cells (spC g ⟨n.fr, (k0 : Nat), 0⟩ row).toArray 59 (0, 0)) ∧ w5.drew.heap[l]? = some (.cells n.cells.toArray 56 (0, 0)) ∧ w5.drew.ownsRow 0 56 258 row was.length (was.flatMap Nw.cells) ∧ w.heap.size < w5.drew.heap.size ∧ Keeps (fun k => k = b) w w5.drew) := by
        have hk := (set_keep wc b 256 (.int .i64 (k0 : Nat))).trans (set_keep _ b 257 (.int .i64 0)) fun _ _ h => h
        rw [← hw5] at hk
        refine Lib.hid ⟨?_, hk.heap K3.out.2.1 (fun e => HL.out.2 e.symm), hk.row K3.out.2.2.1 (fun k h1 h2 => H.out.apart (h2 ▸ h1)), Nat.lt_of_lt_of_le K3.out.2.2.2.1 hk.size, K3.out.2.2.2.2.trans (hk.trans (Keeps.drew _ w5) fun _ _ h => h) fun _ _ h => h⟩
        show w5.heap[b]? = _
        rw [hw5, set_blk (set_blk K3.out.1), spC_op_set _ hle, spC_fl_set (n := ⟨n.fr, (k0 : Nat), n.fl⟩) _ hle]
      have d0 : w5.cell? ⟨b, 256, none⟩ = some (.int .i64 (k0 : Nat)) := (sp_cells (n := ⟨n.fr, (k0 : Nat), 0⟩) E5.out.1 hle).1
      have HF1 := Lib.hid f1
      have HLE := Lib.hid hle
      have HH : Hid (w5.heap[b]? = some (.cells (spC g ⟨n.fr, (k0 : Nat), 0⟩ row).toArray 59 (0, 0))) := Lib.hid E5.out.1
      have j1 : (0 : Int) ≤ k0 := by omega
      have j2 : (k0 : Int) < 256 := by omega
      clear hw5 p0 p1 q0 q1 HU K3 hle f1
      refine ws_region 10 (by kernel_rfl) (by kernel_rfl) ?_
      simp only [List.take_succ_cons, List.take_zero, List.drop_succ_cons, List.drop_zero]
      iterate 10 (refine WS.take (v := ?_) (by rfl) ?_ ?_; rotate_left; · (go_simp; try with_reducible rfl); try simp only [Act.put, List.setIfInBounds_toArray, List.set_cons_zero, List.set_cons_succ])
      refine WS.nil ?_
      clear d0
      obtain ⟨w5d, hw5d⟩ : ∃ w5d, w5d = w5.drew := ⟨_, rfl⟩
      rw [← hw5d] at E5 ⊢
      have u0 := sp_used (n := ⟨n.fr, (k0 : Nat), 0⟩) E5.out.1 HLE.out k0 HF1.out
      obtain ⟨uu, huu⟩ : ∃ uu, w5d.cell? ⟨b, k0, none⟩ = some uu := ⟨_, u0⟩
      have q0 : w5d.frozen? ⟨b, k0, none⟩ = false := frozen_of_row _ _ _ _ _ E5.out.1
      clear u0 hw5d
      go_upto_region 12 with fail
      obtain ⟨w6, hw6⟩ : ∃ w6, w6 = w5d.setCell ⟨b, k0, none⟩ (.bool true) := ⟨_, rfl⟩
      rw [← hw6]
      have hFR : n.fr.set k0 false = n.fr.set (fst n.fr) false := by rw [HK0.out.1]
      obtain ⟨o, ho⟩ : ∃ o : Int, o = (k0 : Nat) := ⟨_, rfl⟩
      obtain ⟨f, hf⟩ : ∃ f : Int, f = 0 := ⟨_, rfl⟩
      have E6 : Hid (w6.heap[b]? = some (.cells (spC g ⟨n.fr.set k0 false, o, f⟩ row).toArray 59 (0, 0)) ∧ w6.heap[l]? = some (.cells n.cells.toArray 56 (0, 0)) ∧ w6.ownsRow 0 56 258 row was.length (was.flatMap Nw.cells) ∧ w.heap.size < w6.heap.size ∧ Keeps (fun k => k = b) w w6) := by
        have hk := set_keep w5d b k0 (.bool true)
        rw [← hw6] at hk
        refine Lib.hid ⟨?_, hk.heap E5.out.2.1 (fun e => HL.out.2 e.symm), hk.row E5.out.2.2.1 (fun k h1 h2 => H.out.apart (h2 ▸ h1)), Nat.lt_of_lt_of_le E5.out.2.2.2.1 hk.size, E5.out.2.2.2.2.trans hk fun _ _ h => h⟩
        rw [hw6, set_blk E5.out.1, ho, hf]
        exact congrArg (fun l : List Value => some (Obj.cells l.toArray 59 (0, 0))) (spC_used_set (n := ⟨n.fr, (k0 : Nat), 0⟩) k0 false HF1.out HLE.out)
      have HO : Hid (0 ≤ o ∧ o < g.S ∧ 0 ≤ f ∧ f + s ≤ g.G ∧ g.G ≤ 1024 ∧ (n.fr.set k0 false).length ≤ 256) := Lib.hid ⟨by omega, by have := H.out.ok.len; have := HF1.out; omega, by omega, by omega, hG, by rw [List.length_set]; exact HLE.out⟩
      have HOF : Hid (o = (fst n.fr : Nat) ∧ f = 0) := Lib.hid ⟨by rw [ho, HK0.out.1], hf⟩
      have HFR := Lib.hid hFR
      clear ho hf hw6 E5 huu q0 j1 j2 hFR hk0l hG s2
      have hf := H.out.fine
      obtain ⟨sb1, sb2⟩ := seg_rng H.out.right HO.out.1 HO.out.2.1
      obtain ⟨d0, d1, d2, d3, d4, d5, d6, d7⟩ := sp_cells E6.out.1 HO.out.2.2.2.2.2
      have dg := sp_geo E6.out.1 HO.out.2.2.2.2.2
      obtain ⟨at_, hat⟩ : ∃ x, x = segV g o := ⟨_, rfl⟩
      rw [← hat] at sb1 sb2
      have HAT := Lib.hid hat
      have b1 := HO.out.2.2.1
      have b2 := HO.out.2.2.2.1
      have b3 := HO.out.2.2.2.2.1
      have sm : IntKind.i64.wrap (at_ + f) = at_ + f := IntWalk.i64_in _ (by omega)
      clear hat hf dg
      go_wp2_with fail
      go_region_held3 (fun w' => w'.cell? ⟨b, 256, none⟩ = some (.int .i64 o) ∧ w'.cell? ⟨b, 257, none⟩ = some (.int .i64 f) ∧ w'.cell? ⟨b, 258, none⟩ = some (.int .i64 g.V) ∧ w'.cell? ⟨b, 259, none⟩ = some (.int .i64 g.S) ∧ w'.cell? ⟨b, 260, none⟩ = some (.int .i64 g.G) ∧ w'.cell? ⟨b, 261, none⟩ = some (.int .i64 g.U) ∧ w'.cell? ⟨b, 262, none⟩ = some (.int .i64 g.J)) (go_keep)
        (first | (go_at_call 33; refine (seg15 g o _).mono ?_; rw [← HAT.out]; rintro e w7 ⟨rfl, hb7⟩; have K7 := Lib.hid ((hb7.block b (heap_lt E6.out.1)).trans E6.out.1); obtain ⟨e0, e1, e2, e3, e4, e5, e6, e7⟩ := sp_cells K7.out HO.out.2.2.2.2.2))
      have E7 : Hid (w7.heap[b]? = some (.cells (spC g ⟨n.fr.set k0 false, o, f⟩ row).toArray 59 (0, 0)) ∧ w7.heap[l]? = some (.cells n.cells.toArray 56 (0, 0)) ∧ w7.ownsRow 0 56 258 row was.length (was.flatMap Nw.cells) ∧ w.heap.size < w7.heap.size ∧ Keeps (fun k => k = b) w w7) :=
        Lib.hid ⟨K7.out, (hb7.block l (heap_lt E6.out.2.1)).trans E6.out.2.1, (Keeps.fresh (S := fun _ => False) hb7).row E6.out.2.2.1 (fun _ _ h => h), Nat.lt_of_lt_of_le E6.out.2.2.2.1 hb7.size, E6.out.2.2.2.2.trans ((Keeps.drew (fun k => k = b) w6).trans (Keeps.fresh (S := fun k => k = b) hb7) fun _ _ h => h) fun _ _ h => h⟩
      have hfz7 : w7.frozen? ⟨b, 257, none⟩ = false := frozen_of_row _ _ _ _ _ E7.out.1
      clear sm d0 d1 d2 d3 d4 d5 d6 d7 hb7 K7 E6
      go_upto_region 14 with fail
      obtain ⟨w8, hw8⟩ : ∃ w8, w8 = w7.setCell ⟨b, 257, none⟩ (.int .i64 (f + s)) := ⟨_, rfl⟩
      rw [← hw8]
      have E8 : Hid (w8.drew.heap[b]? = some (.cells (spC g ⟨n.fr.set k0 false, o, f + s⟩ row).toArray 59 (0, 0)) ∧ w8.drew.heap[l]? = some (.cells n.cells.toArray 56 (0, 0)) ∧ w8.drew.ownsRow 0 56 258 row was.length (was.flatMap Nw.cells) ∧ w.heap.size < w8.drew.heap.size ∧ Keeps (fun k => k = b) w w8.drew) := by
        have hk := set_keep w7 b 257 (.int .i64 (f + s))
        rw [← hw8] at hk
        refine Lib.hid ⟨?_, hk.heap E7.out.2.1 (fun e => HL.out.2 e.symm), hk.row E7.out.2.2.1 (fun k h1 h2 => H.out.apart (h2 ▸ h1)), Nat.lt_of_lt_of_le E7.out.2.2.2.1 hk.size, E7.out.2.2.2.2.trans (hk.trans (Keeps.drew _ w8) fun _ _ h => h) fun _ _ h => h⟩
        show w8.heap[b]? = _
        rw [hw8, set_blk E7.out.1, spC_fl_set (n := ⟨n.fr.set k0 false, o, f⟩) _ HO.out.2.2.2.2.2]
      have d7x : w8.cell? ⟨b, 263, none⟩ = some row := (sp_cells E8.out.1 HO.out.2.2.2.2.2).2.2.2.2.2.2.2
      have cl : w8.drew.rangeAt l 0 n.cells := fun j v hj => by
        rw [Nat.zero_add]
        exact block_cell E8.out.2.1 j v (by rw [List.getElem?_toArray]; exact hj)
      obtain ⟨i0, hi, hz0, hz1, hz2⟩ := infoParts info56z
      have HI := Lib.hid (And.intro hi (And.intro hz0 (And.intro hz1 (And.intro hz2 (show (Value.agg zN.toArray).cells.size = 258 by show zN.toArray.size = 258; simp [zN_len])))))
      clear hw8 hfz7 e0 e1 e2 e3 e4 e5 e6 e7 hi hz0 hz1 hz2 E7
      refine wp_region_held_drew (S := fun w' => w'.rangeAt l 0 n.cells) follows cl (fun hHeld => ?_)
      obtain ⟨w9, hw9⟩ : ∃ w9, w9 = w8.drew := ⟨_, rfl⟩
      have d7 : w9.cell? ⟨b, 263, none⟩ = some row := (sp_cells (n := ⟨n.fr.set k0 false, o, f + s⟩) (by rw [hw9]; exact E8.out.1) HO.out.2.2.2.2.2).2.2.2.2.2.2.2
      rw [← hw9] at E8 hHeld ⊢
      clear hw9 cl
      refine wpAnyH_take (i := 0) (v := ?_) (by simp only [List.getElem?_toArray, List.getElem?_cons_zero]; rfl) (by kernel_rfl) (by kernel_rfl) (by kernel_rfl) (by intro _ _ _ h; exact h) (Or.inl ⟨by rfl, ?_⟩) hHeld ?_
      rotate_left
      · (intro w hSw; (try dsimp only at hSw); go_simp; try with_reducible rfl)
      try simp only [Act.put, List.setIfInBounds_toArray, List.set_cons_zero, List.set_cons_succ]
      refine wpAnyH_take (i := 1) (v := ?_) (by simp only [List.getElem?_toArray, List.getElem?_cons_zero, List.getElem?_cons_succ]; rfl) (by kernel_rfl) (by kernel_rfl) (by kernel_rfl) (by intro _ _ _ h; exact h) (Or.inl ⟨by rfl, ?_⟩) hHeld ?_
      rotate_left
      · (intro w hSw; (try dsimp only at hSw); go_simp; try with_reducible rfl)
      try simp only [Act.put, List.setIfInBounds_toArray, List.set_cons_zero, List.set_cons_succ]
      refine wpAnyH_take (i := 2) (v := ?_) (by simp only [List.getElem?_toArray, List.getElem?_cons_zero, List.getElem?_cons_succ]; rfl) (by kernel_rfl) (by kernel_rfl) (by kernel_rfl) (by intro _ _ _ h; exact h) (Or.inl ⟨by rfl, ?_⟩) hHeld ?_
      rotate_left
      · (intro w hSw; (try dsimp only at hSw); go_simp; try with_reducible rfl)
      try simp only [Act.put, List.setIfInBounds_toArray, List.set_cons_zero, List.set_cons_succ]
      refine wpAnyH_take (i := 3) (v := ?_) (by simp only [List.getElem?_toArray, List.getElem?_cons_zero, List.getElem?_cons_succ]; rfl) (by kernel_rfl) (by kernel_rfl) (by kernel_rfl) (by intro _ _ _ h; exact h) (Or.inl ⟨by rfl, ?_⟩) hHeld ?_
      rotate_left
      · (intro w hSw; (try dsimp only at hSw); go_simp; try with_reducible rfl)
      try simp only [Act.put, List.setIfInBounds_toArray, List.set_cons_zero, List.set_cons_succ]
      refine wpAnyH_take (i := 5) (v := _) (by simp only [List.getElem?_toArray, List.getElem?_cons_zero, List.getElem?_cons_succ]; rfl) (by kernel_rfl) (by kernel_rfl) (by kernel_rfl) (by intro _ _ _ h; exact h) (yieldsIf_load_mid (by rfl) 56 (.tmp 8) rfl l 0 rfl n.cells _ (fun _ h => h) Try.underlying56 rfl hkl.out) hHeld ?_
      try simp only [Act.put, List.setIfInBounds_toArray, List.set_cons_zero, List.set_cons_succ]
      refine wpAnyH_ready (rs := [4, 6]) (by kernel_rfl) (by simp) ?_
      refine AllReadyH.cons (by simp only [List.getElem?_toArray, List.getElem?_cons_zero, List.getElem?_cons_succ]; rfl) (fun K hK => ?_) (AllReadyH.cons (by simp only [List.getElem?_toArray, List.getElem?_cons_zero, List.getElem?_cons_succ]; rfl) (fun K hK => ?_) AllReadyH.nil)
      · rw [if_pos (by rfl)]
        go_simp
        refine hK.out _ _ hHeld (fun hHeld => ?_)
        clear hK K
        try simp only [Act.put, List.setIfInBounds_toArray, List.set_cons_zero, List.set_cons_succ]
        refine wpAnyH_ready (rs := [6]) (by kernel_rfl) (by simp) ?_
        refine AllReadyH.cons (by simp only [List.getElem?_toArray, List.getElem?_cons_zero, List.getElem?_cons_succ]; rfl) (fun K hK => ?_) AllReadyH.nil
        rw [if_pos (by rfl)]
        refine wp_slice1 57 56 (.tmp 119) rfl n.cells rfl i0 (.agg zN.toArray) Try.underlying57 HI.out.1 HI.out.2.1 (HI.out.2.2.1.trans hcl.out.symm) (by rw [hcl.out]; omega) (by rw [hcl.out]; omega) ?_
        have hHa : (w9.alloc (.cells n.cells.toArray 56)).rangeAt l 0 n.cells := fun j v hj => by rw [Nat.zero_add]; exact block_cell (heap_old E8.out.2.1) j v (by rw [List.getElem?_toArray]; exact hj)
        have d7a : (w9.alloc (.cells n.cells.toArray 56)).cell? ⟨b, 263, none⟩ = some row := (sp_cells (n := ⟨n.fr.set k0 false, o, f + s⟩) (heap_old E8.out.1) HO.out.2.2.2.2.2).2.2.2.2.2.2.2
        refine hK.out _ _ hHa (fun hHeld => ?_)
        clear hK K
        try simp only [Act.put, List.setIfInBounds_toArray, List.set_cons_zero, List.set_cons_succ]
        refine wpAnyH_ready (rs := [7]) (by kernel_rfl) (by simp) ?_
        refine AllReadyH.cons (by simp only [List.getElem?_toArray, List.getElem?_cons_zero, List.getElem?_cons_succ]; rfl) (fun K hK => ?_) AllReadyH.nil
        rw [if_pos (by rfl)]
        refine wp_append_lies _ (.tmp 118) (.tmp 120) 57 rfl 0 56 i0 (.agg zN.toArray) 258 272 Try.underlying57 HI.out.1 HI.out.2.1 HI.out.2.2.1 HI.out.2.2.2.1 HI.out.2.2.2.2 (by omega) row was.length _ rfl (E8.out.2.2.1.alloc _) ⟨w9.heap.size, 0, none⟩ 1 1 n.cells rfl (by rw [cells_len H.out.le]) (World.news_of_block (heap_new w9 _)) cells_one (by omega) (by unfold maxLen; omega) (by omega) (Nat.zero_le _) _ rfl ?_
        intro g2 cap w10 hown hgr hat2 hlt2
        have E10 := Lib.hid ((hgr.block b (heap_lt (heap_old E8.out.1)) (fun e => H.out.apart e.symm)).trans (heap_old E8.out.1))
        have hrl : row.ownBlock ≠ some l := fun e => by
          have := (H.out.own.lt l e).2
          have := HL.out.1
          omega
        have hL10 := (hgr.block l (heap_lt (heap_old E8.out.2.1)) (fun e => hrl e.symm)).trans (heap_old (o' := .cells n.cells.toArray 56) E8.out.2.1)
        have hH10 : w10.rangeAt l 0 n.cells := fun j v hj => by rw [Nat.zero_add]; exact block_cell hL10 j v (by rw [List.getElem?_toArray]; exact hj)
        have hLf : Hid (∀ v, (w10.setCell ⟨b, 263, none⟩ v).rangeAt l 0 n.cells) := Lib.hid fun v j u hj => by
          rw [Nat.zero_add]
          exact block_cell ((set_keep w10 b 263 v).heap hL10 (fun e => HL.out.2 e.symm)) j u (by rw [List.getElem?_toArray]; exact hj)
        refine hK.out _ _ hH10 (fun hHeld => ?_)
        clear hK K hrl hL10 hH10
        try simp only [Act.put, List.setIfInBounds_toArray, List.set_cons_zero, List.set_cons_succ]
        have HN2 := Lib.hid (And.intro hown (And.intro hgr (And.intro hat2 hlt2)))
        clear hown hgr hat2 hlt2
        refine wpAnyH_take (i := 8) (v := ?_) (by simp only [List.getElem?_toArray, List.getElem?_cons_zero, List.getElem?_cons_succ]; rfl) (by kernel_rfl) (by kernel_rfl) (by kernel_rfl) (by intro _ _ _ h; exact h) (Or.inl ⟨by rfl, ?_⟩) hHeld ?_
        rotate_left
        · (intro w hSw; (try dsimp only at hSw); go_simp; try with_reducible rfl)
        try simp only [Act.put, List.setIfInBounds_toArray, List.set_cons_zero, List.set_cons_succ]
        refine wpAnyH_take (i := 9) (v := ?_) (by simp only [List.getElem?_toArray, List.getElem?_cons_zero, List.getElem?_cons_succ]; rfl) (by kernel_rfl) (by kernel_rfl) (by kernel_rfl) (by intro _ _ _ h; exact h) (Or.inl ⟨by rfl, ?_⟩) hHeld ?_
        rotate_left
        · (intro w hSw; (try dsimp only at hSw); go_simp; try with_reducible rfl)
        try simp only [Act.put, List.setIfInBounds_toArray, List.set_cons_zero, List.set_cons_succ]
        have d7b := (sp_cells (n := ⟨n.fr.set k0 false, o, f + s⟩) E10.out HO.out.2.2.2.2.2).2.2.2.2.2.2.2
        have hfz := frozen_of_row _ b 263 _ _ E10.out
        refine wpAnyH_ready (rs := [10]) (by kernel_rfl) (by simp) ?_
        refine AllReadyH.cons (by simp only [List.getElem?_toArray, List.getElem?_cons_zero, List.getElem?_cons_succ]; rfl) (fun K hK => ?_) AllReadyH.nil
        rw [if_pos (by rfl)]
        go_simp
        refine hK.out _ _ (hLf.out _) (fun hHeld => ?_)
        clear hK K
        refine wpAnyH_done (by kernel_rfl) ?_ _
        clear hHeld d7b hfz
        go_wp2_with fail
        go_ret2
        have hgb : g2 ≠ b := fun e => by
          rcases HN2.out.2.2.1 with h | h
          · exact H.out.apart (e ▸ h)
          · have := heap_lt (heap_old (o' := .cells n.cells.toArray 56) E8.out.1)
            omega
        refine ⟨ret_i2 (by rw [HAT.out, HOF.out.1, HOF.out.2, Int.add_zero]), .slice (some ⟨g2, 0, none⟩) (was.length + 1) cap, ⟨?_, ?_, fun e => hgb (Option.some.inj e), (ok_opened H.out.ok (by have := HC.out.1; omega) (by omega) hs2.out), ?_, H.out.right⟩, ?_, ?_⟩
        · rw [set_blk E10.out, spC_row_set (n := ⟨n.fr.set k0 false, o, f + s⟩) _ HO.out.2.2.2.2.2]
          rw [HOF.out.1, HOF.out.2, Int.zero_add, HFR.out]; rfl
        · have := HN2.out.1
          rw [List.length_append, List.length_singleton, List.flatMap_append, List.flatMap_singleton]
          exact Keeps.row (set_keep w10 b 263 _) this fun k hk e => hgb (by rw [← e]; exact Option.some.inj hk)
        · intro x hx
          rcases List.mem_append.1 hx with hx | hx
          · exact H.out.okw x hx
          · obtain rfl := List.mem_singleton.1 hx
            exact H.out.ok
        · intro k hk
          obtain rfl : g2 = k := Option.some.inj hk
          rcases HN2.out.2.2.1 with h | h
          · exact .inl h
          · right
            have := E8.out.2.2.2.1
            simp at h
            omega
        · have k1 : Keeps (fun k => k = b ∨ row.ownBlock = some k) w w9 := E8.out.2.2.2.2.mono fun _ _ h => .inl h
          have k2 : Keeps (fun k => k = b ∨ row.ownBlock = some k) w9 w10 := (Keeps.alloc _ w9 _).trans (Keeps.grown (S := fun k => k = b ∨ row.ownBlock = some k) HN2.out.2.1 fun k hk => .inr hk) fun _ _ h => h
          exact (k1.trans k2 fun _ _ h => h).trans (set_keep w10 b 263 _) fun _ _ h => .inl h
      · rw [if_pos (by rfl)]
        refine wp_slice1 57 56 (.tmp 119) rfl n.cells rfl i0 (.agg zN.toArray) Try.underlying57 HI.out.1 HI.out.2.1 (HI.out.2.2.1.trans hcl.out.symm) (by rw [hcl.out]; omega) (by rw [hcl.out]; omega) ?_
        have hHa : (w9.alloc (.cells n.cells.toArray 56)).rangeAt l 0 n.cells := fun j v hj => by rw [Nat.zero_add]; exact block_cell (heap_old E8.out.2.1) j v (by rw [List.getElem?_toArray]; exact hj)
        have d7a : (w9.alloc (.cells n.cells.toArray 56)).cell? ⟨b, 263, none⟩ = some row := (sp_cells (n := ⟨n.fr.set k0 false, o, f + s⟩) (heap_old E8.out.1) HO.out.2.2.2.2.2).2.2.2.2.2.2.2
        refine hK.out _ _ hHa (fun hHeld => ?_)
        clear hK K
        try simp only [Act.put, List.setIfInBounds_toArray, List.set_cons_zero, List.set_cons_succ]
        refine wpAnyH_ready (rs := [4]) (by kernel_rfl) (by simp) ?_
        refine AllReadyH.cons (by simp only [List.getElem?_toArray, List.getElem?_cons_zero, List.getElem?_cons_succ]; rfl) (fun K hK => ?_) AllReadyH.nil
        rw [if_pos (by rfl)]
        go_simp
        refine hK.out _ _ hHeld (fun hHeld => ?_)
        clear hK K
        try simp only [Act.put, List.setIfInBounds_toArray, List.set_cons_zero, List.set_cons_succ]
        refine wpAnyH_ready (rs := [7]) (by kernel_rfl) (by simp) ?_
        refine AllReadyH.cons (by simp only [List.getElem?_toArray, List.getElem?_cons_zero, List.getElem?_cons_succ]; rfl) (fun K hK => ?_) AllReadyH.nil
        rw [if_pos (by rfl)]
        refine wp_append_lies _ (.tmp 118) (.tmp 120) 57 rfl 0 56 i0 (.agg zN.toArray) 258 272 Try.underlying57 HI.out.1 HI.out.2.1 HI.out.2.2.1 HI.out.2.2.2.1 HI.out.2.2.2.2 (by omega) row was.length _ rfl (E8.out.2.2.1.alloc _) ⟨w9.heap.size, 0, none⟩ 1 1 n.cells rfl (by rw [cells_len H.out.le]) (World.news_of_block (heap_new w9 _)) cells_one (by omega) (by unfold maxLen; omega) (by omega) (Nat.zero_le _) _ rfl ?_
        intro g2 cap w10 hown hgr hat2 hlt2
        have E10 := Lib.hid ((hgr.block b (heap_lt (heap_old E8.out.1)) (fun e => H.out.apart e.symm)).trans (heap_old E8.out.1))
        have hrl : row.ownBlock ≠ some l := fun e => by
          have := (H.out.own.lt l e).2
          have := HL.out.1
          omega
        have hL10 := (hgr.block l (heap_lt (heap_old E8.out.2.1)) (fun e => hrl e.symm)).trans (heap_old (o' := .cells n.cells.toArray 56) E8.out.2.1)
        have hH10 : w10.rangeAt l 0 n.cells := fun j v hj => by rw [Nat.zero_add]; exact block_cell hL10 j v (by rw [List.getElem?_toArray]; exact hj)
        have hLf : Hid (∀ v, (w10.setCell ⟨b, 263, none⟩ v).rangeAt l 0 n.cells) := Lib.hid fun v j u hj => by
          rw [Nat.zero_add]
          exact block_cell ((set_keep w10 b 263 v).heap hL10 (fun e => HL.out.2 e.symm)) j u (by rw [List.getElem?_toArray]; exact hj)
        refine hK.out _ _ hH10 (fun hHeld => ?_)
        clear hK K hrl hL10 hH10
        try simp only [Act.put, List.setIfInBounds_toArray, List.set_cons_zero, List.set_cons_succ]
        have HN2 := Lib.hid (And.intro hown (And.intro hgr (And.intro hat2 hlt2)))
        clear hown hgr hat2 hlt2
        refine wpAnyH_take (i := 8) (v := ?_) (by simp only [List.getElem?_toArray, List.getElem?_cons_zero, List.getElem?_cons_succ]; rfl) (by kernel_rfl) (by kernel_rfl) (by kernel_rfl) (by intro _ _ _ h; exact h) (Or.inl ⟨by rfl, ?_⟩) hHeld ?_
        rotate_left
        · (intro w hSw; (try dsimp only at hSw); go_simp; try with_reducible rfl)
        try simp only [Act.put, List.setIfInBounds_toArray, List.set_cons_zero, List.set_cons_succ]
        refine wpAnyH_take (i := 9) (v := ?_) (by simp only [List.getElem?_toArray, List.getElem?_cons_zero, List.getElem?_cons_succ]; rfl) (by kernel_rfl) (by kernel_rfl) (by kernel_rfl) (by intro _ _ _ h; exact h) (Or.inl ⟨by rfl, ?_⟩) hHeld ?_
        rotate_left
        · (intro w hSw; (try dsimp only at hSw); go_simp; try with_reducible rfl)
        try simp only [Act.put, List.setIfInBounds_toArray, List.set_cons_zero, List.set_cons_succ]
        have d7b := (sp_cells (n := ⟨n.fr.set k0 false, o, f + s⟩) E10.out HO.out.2.2.2.2.2).2.2.2.2.2.2.2
        have hfz := frozen_of_row _ b 263 _ _ E10.out
        refine wpAnyH_ready (rs := [10]) (by kernel_rfl) (by simp) ?_
        refine AllReadyH.cons (by simp only [List.getElem?_toArray, List.getElem?_cons_zero, List.getElem?_cons_succ]; rfl) (fun K hK => ?_) AllReadyH.nil
        rw [if_pos (by rfl)]
        go_simp
        refine hK.out _ _ (hLf.out _) (fun hHeld => ?_)
        clear hK K
        refine wpAnyH_done (by kernel_rfl) ?_ _
        clear hHeld d7b hfz
        go_wp2_with fail
        go_ret2
        have hgb : g2 ≠ b := fun e => by
          rcases HN2.out.2.2.1 with h | h
          · exact H.out.apart (e ▸ h)
          · have := heap_lt (heap_old (o' := .cells n.cells.toArray 56) E8.out.1)
            omega
        refine ⟨ret_i2 (by rw [HAT.out, HOF.out.1, HOF.out.2, Int.add_zero]), .slice (some ⟨g2, 0, none⟩) (was.length + 1) cap, ⟨?_, ?_, fun e => hgb (Option.some.inj e), (ok_opened H.out.ok (by have := HC.out.1; omega) (by omega) hs2.out), ?_, H.out.right⟩, ?_, ?_⟩
        · rw [set_blk E10.out, spC_row_set (n := ⟨n.fr.set k0 false, o, f + s⟩) _ HO.out.2.2.2.2.2]
          rw [HOF.out.1, HOF.out.2, Int.zero_add, HFR.out]; rfl
        · have := HN2.out.1
          rw [List.length_append, List.length_singleton, List.flatMap_append, List.flatMap_singleton]
          exact Keeps.row (set_keep w10 b 263 _) this fun k hk e => hgb (by rw [← e]; exact Option.some.inj hk)
        · intro x hx
          rcases List.mem_append.1 hx with hx | hx
          · exact H.out.okw x hx
          · obtain rfl := List.mem_singleton.1 hx
            exact H.out.ok
        · intro k hk
          obtain rfl : g2 = k := Option.some.inj hk
          rcases HN2.out.2.2.1 with h | h
          · exact .inl h
          · right
            have := E8.out.2.2.2.1
            simp at h
            omega
        · have k1 : Keeps (fun k => k = b ∨ row.ownBlock = some k) w w9 := E8.out.2.2.2.2.mono fun _ _ h => .inl h
          have k2 : Keeps (fun k => k = b ∨ row.ownBlock = some k) w9 w10 := (Keeps.alloc _ w9 _).trans (Keeps.grown (S := fun k => k = b ∨ row.ownBlock = some k) HN2.out.2.1 fun k hk => .inr hk) fun _ _ h => h
          exact (k1.trans k2 fun _ _ h => h).trans (set_keep w10 b 263 _) fun _ _ h => .inl h
end Go.Proofs.Ytgoblbmekhcekaa
