/- The document's space (layer 19): Take where another segment is opened. No condition but where it lies. Printed by genU.py. -/
import Derived.Test.YtgoblbmekhcekaaQ
namespace Go.Proofs.Ytgoblbmekhcekaa
open Go.RowKit
set_option maxRecDepth 100000 in
set_option maxHeartbeats 2000000 in
theorem rtake24k (s : Int) (deep : Bool) (w : World) (Y : Nat → Prop) (b : Nat) (g : Geo) (n : Nw) (was : List Nw) (h : RfX w Y b g n was) (hwas : was.length ≤ 100000) (hs : 1 ≤ s ∧ s ≤ g.G) (hn : needB g n s = true) (hno : noB n deep = false) :
    Calls Try.prog 24 #[.pointer (some ⟨b, 0, none⟩), .int .i64 s, .bool deep] w (RGoes w Y b g (opened n s) (was ++ [n]) (.tuple #[.int .i64 (segV g (fst n.fr : Nat)), .int .i64 0])) := by
  obtain ⟨fv, row, ws, h⟩ := h
  have HX := Lib.hid (show RfX w Y b g n was from ⟨fv, row, ws, h⟩)
  obtain ⟨c0, c1, c2, c3, c4, c5, c6, c7, c8⟩ := rf_cells h.blk
  have hG := h.fine.g2
  have H := Lib.hid h
  have hf1 := h.ok.f1
  have hf2 := h.ok.f2
  obtain ⟨o, ho⟩ : ∃ o, o = n.op := ⟨_, rfl⟩
  obtain ⟨f, hf⟩ : ∃ f, f = n.fl := ⟨_, rfl⟩
  rw [← ho] at c6
  rw [← hf] at c7 hf1 hf2
  have HOF := Lib.hid (And.intro ho hf)
  have hop : o = -1 ∨ (0 ≤ o ∧ o < g.S) := by
    rw [ho]
    rcases h.ok.op with h | h
    · exact .inl h.1
    · exact .inr ⟨h.1, h.2.1⟩
  have HOP := Lib.hid hop
  clear h ho hf hop
  have s1 := hs.1
  have s2 := hs.2
  have HS := Lib.hid hs
  have hN := Lib.hid hn
  have hcnt : 1 ≤ n.fr.count true ∧ (2 ≤ n.fr.count true ∨ deep = true) := by
    simp only [noB, Bool.or_eq_false_iff, decide_eq_false_iff_not, Bool.and_eq_false_iff, Bool.not_eq_false'] at hno
    exact ⟨by omega, hno.2.imp (fun h => by omega) id⟩
  obtain ⟨f1, f2, f3⟩ := fst_of n.fr (by omega)
  obtain ⟨k0, hk0⟩ : ∃ k0, k0 = fst n.fr := ⟨_, rfl⟩
  rw [← hk0] at f1 f2 f3
  have HK0 := Lib.hid (And.intro hk0 (And.intro f2 f3))
  have HC := Lib.hid hcnt
  have hle : n.fr.length ≤ 256 := H.out.ok.le H.out.fine
  obtain ⟨L, hL⟩ : ∃ L, L = n.fr.length := ⟨_, rfl⟩
  have HL := Lib.hid hL
  rw [← hL] at f1 hle
  have hlS : (L : Int) = g.S := by rw [hL]; exact H.out.ok.len
  have HLS := Lib.hid hlS
  obtain ⟨i0, hi, hz0, hz1, hz2⟩ := infoParts info4
  have HI := Lib.hid (And.intro hi (And.intro hz0 (And.intro hz1 hz2)))
  clear hs hn hno hcnt f2 f3 hk0 hL hlS hi hz0 hz1 hz2
  go_enter Try.func24, Try.ntmps24
  go_upto_region 3 with fail
  go_cut [40] from 22 to 40 (fun s40 w' => s40 = .bool false ∧ w' = w.drew)
  case first =>
    by_cases hop : 0 ≤ o
    · have d : decide (0 ≤ o) = true := by simpa using hop
      have hg : ¬ f + s ≤ g.G := by have := hN.out; simp only [needB, Bool.or_eq_true, decide_eq_true_eq, ← HOF.out.1, ← HOF.out.2] at this; omega
      have d2 : decide (f + s ≤ g.G) = false := by simpa using hg
      clear hop
      go_wp2_with fail
      refine ws_region 18 (by kernel_rfl) (by kernel_rfl) ?_
      simp only [List.take_succ_cons, List.take_zero, List.drop_succ_cons, List.drop_zero]
      iterate 6 (refine WS.take (v := ?_) (by rfl) ?_ ?_; rotate_left; · (go_simp; try with_reducible rfl); try simp only [Act.put, List.setIfInBounds_toArray, List.set_cons_zero, List.set_cons_succ])
      iterate 12 (refine WS.take (v := ?_) (by kernel_rfl) ?_ ?_; rotate_left; · (go_simp; try with_reducible rfl); try simp only [Act.put, List.setIfInBounds_toArray, List.set_cons_zero, List.set_cons_succ])
      refine WS.nil ?_
      go_wp2_with fail
      go_meet
      exact ⟨by simp [hg], rfl⟩
    · have d : decide (0 ≤ o) = false := by simpa using hop
      clear hop
      go_wp2_with fail
      refine ws_region 18 (by kernel_rfl) (by kernel_rfl) ?_
      simp only [List.take_succ_cons, List.take_zero, List.drop_succ_cons, List.drop_zero]
      iterate 6 (refine WS.take (v := ?_) (by rfl) ?_ ?_; rotate_left; · (go_simp; try with_reducible rfl); try simp only [Act.put, List.setIfInBounds_toArray, List.set_cons_zero, List.set_cons_succ])
      iterate 12 (refine WS.skip (by kernel_rfl) ?_; try simp only [Act.put, List.setIfInBounds_toArray, List.set_cons_zero, List.set_cons_succ])
      refine WS.nil ?_
      go_wp2_with fail
      go_meet
      exact ⟨rfl, rfl⟩
  case rest =>
    obtain ⟨rfl, rfl⟩ := hcut
    have H1 := Lib.hid (H.out.go (below_drewN (Below.refl _ w) 1))
    obtain ⟨w1, hw1⟩ : ∃ w1, w1 = w.drew := ⟨_, rfl⟩
    have H1' : Hid (Rf w1 Y b g n was fv row ws) := Lib.hid (by rw [hw1]; exact H1.out)
    have B1 : Hid (Below w.heap.size w w1 ∧ Keeps Y w w1) := Lib.hid (by rw [hw1]; exact ⟨below_drewN (Below.refl _ w) 1, Keeps.drew Y w⟩)
    rw [← hw1]
    clear hw1 H1 c0 c1 c2 c3 c4 c5 c6 c7 c8
    go_upto_region 8 with fail
    obtain ⟨k, hk⟩ : ∃ k, k = n.fr.count true := ⟨_, rfl⟩
    have HCK : Hid (1 ≤ k ∧ (2 ≤ k ∨ deep = true)) := Lib.hid (by rw [hk]; exact HC.out)
    have HK := Lib.hid hk
    clear hk
    go_cut [78] from 67 to 78 (fun s78 w' => s78 = .bool false ∧ w' = w1)
    case first =>
      have hk1 := HCK.out.1
      have t1 : decide ((k : Int) < 1) = false := by simp; omega
      cases deep
      · have h2 : 2 ≤ k := by
          rcases HCK.out.2 with h | h
          · exact h
          · cases h
        have t2 : decide ((k : Int) < 2) = false := by simp; omega
        go_wp2_with (go_at_call 25; refine (rfree25 w1 Y b g n was fv row ws H1'.out).mono ?_; rw [← HK.out]; rintro e w2 ⟨rfl, rfl⟩)
        go_meet
        exact ⟨rfl, rfl⟩
      · go_wp2_with (go_at_call 25; refine (rfree25 w1 Y b g n was fv row ws H1'.out).mono ?_; rw [← HK.out]; rintro e w2 ⟨rfl, rfl⟩)
        go_meet
        exact ⟨rfl, rfl⟩
    case rest =>
      obtain ⟨rfl, rfl⟩ := hcut
      go_wp2_with fail
      refine (rkeep39 wc Y b g n was fv row ws H1'.out hwas).mono ?_
      rintro e w2 ⟨rfl, ⟨fv2, row2, ws2, h2⟩, hk2⟩
      obtain ⟨q, cap, hq, hqZ, hql, hqc⟩ := h2.fr
      subst hq
      rw [← HL.out] at h2
      have H2 := Lib.hid h2
      have K2 := Lib.hid hk2
      have HQ := Lib.hid (And.intro hqZ (And.intro hql hqc))
      obtain ⟨c0, c1, c2, c3, c4, c5, c6, c7, c8⟩ := rf_cells h2.blk
      clear h2 hk2 hqZ hql hqc c0 c1 c2 c3 c4 c6 c7 c8
      go_wp2_with fail
      go_loop [9] (fun i => ∃ k : Nat, k ≤ k0 ∧ i = .int .i64 k) (fun i => k0 - (intOf i).toNat)
      case atStart => exact ⟨0, Nat.zero_le _, rfl⟩
      case round =>
        obtain ⟨j, hj, rfl⟩ := hrel
        have jL : j < L := by omega
        by_cases hlt : j < k0
        · have hcj : w2.cell? ⟨q, j, none⟩ = some (.bool false) := HQ.out.2.2 j false (HK0.out.2.2 j hlt)
          go_wp2_with fail
          go_round
          case rel => exact ⟨j + 1, by omega, by go_num⟩
          case measure => simp [intOf]; omega
        · obtain rfl : k0 = j := by omega
          have hcj : w2.cell? ⟨q, k0, none⟩ = some (.bool true) := HQ.out.2.2 k0 true HK0.out.2.1
          have hnews : ∀ j u, (n.fr.map Value.bool)[j]? = some u → (w2.alloc (.cells #[] 4)).cell? ((⟨q, 0, none⟩ : Addr).add j) = some u := fun j u hj => by
            rw [List.getElem?_map] at hj
            obtain ⟨x, hx, rfl⟩ := Option.map_eq_some_iff.1 hj
            rw [Addr.add_mid, Nat.zero_add]
            exact (World.cell?_of_block (a := ⟨q, j, none⟩) (Below.heap_alloc w2 _ q HQ.out.2.1)).trans (HQ.out.2.2 j x hx)
          have HNW := Lib.hid hnews
          have hL2 : (n.fr.map Value.bool).length = L * 1 := by rw [List.length_map, ← HL.out]; omega
          have HL2 := Lib.hid hL2
          have hn5 : (w2.alloc (.cells #[] 4)).cell? ⟨b, 5, none⟩ = some (.slice (some ⟨q, 0, none⟩) L cap) := (World.cell?_of_block (a := ⟨b, 5, none⟩) (Below.heap_alloc w2 _ b (heap_lt H2.out.blk))).trans c5
          clear hnews hL2
          go_upto_region 15 with (at_builtin; refine wpList_append_lies _ rfl (.tmp 91) (.tmp 95) 50 rfl w2.heap.size 4 i0 (.bool false) 1 1 Try.underlying50 HI.out.1 HI.out.2.1 HI.out.2.2.1 HI.out.2.2.2 rfl (by omega) _ 0 [] rfl (World.ownsRow_lit w2 #[] 0 (Nat.le_refl _) (Nat.zero_le _) rfl) ⟨q, 0, none⟩ L cap (n.fr.map .bool) rfl HL2.out HNW.out bools_one (by omega) (by unfold maxLen; omega) (by omega) (by simp) _ rfl ?_; intro q2 cap2 w3 hown hgr hat hlt3)
          rw [Nat.zero_add] at hown
          have hb23 : Below w2.heap.size w2 w3 := ((Below.refl _ w2).alloc (Nat.le_refl _) _).grown hgr (by simp) (fun k e => by
            have e2 : w2.heap.size = k := Option.some.inj e
            omega)
          have hq2 : w2.heap.size ≤ q2 := (hown.lt q2 rfl).1
          obtain ⟨cur, hcur⟩ : ∃ cur : Array Value, w3.heap[q2]? = some (.cells cur 4 (0, 0)) ∧ k0 < cur.size := by
            rcases hown.2 with ⟨h1, _⟩ | ⟨g3, cap3, cur, h1, _, h3, h4, _, h6, _⟩
            · simp at h1
            · injection h1 with h1
              injection h1 with h1
              injection h1 with h1
              subst h1
              exact ⟨cur, h3, by omega⟩
          have H3 := Lib.hid (And.intro hown (And.intro hb23 (And.intro hq2 hlt3)))
          have hck : ∃ u, w3.cell? ⟨q2, k0, none⟩ = some u := ⟨_, block_cell hcur.1 k0 _ (Array.getElem?_eq_getElem hcur.2)⟩
          obtain ⟨uu, hu⟩ := hck
          have hz := frozen_of_row w3 q2 k0 _ _ hcur.1
          have jk : (k0 : Int) < L := by omega
          clear hown hgr hat hlt3 hb23 hq2 hcur c5 hn5 hcj HNW HL2
          go_upto_region 16 with fail
          have hbq : b ≠ q2 := by have := heap_lt H2.out.blk; have := H3.out.2.2.1; omega
          obtain ⟨w4, hw4⟩ : ∃ w4, w4 = w3.setCell ⟨q2, k0, none⟩ (.bool false) := ⟨_, rfl⟩
          have H4 : Hid (w4.ownsRow w2.heap.size 4 1 (.slice (some ⟨q2, 0, none⟩) L cap2) L ((n.fr.set k0 false).map .bool) ∧ Keeps (fun k => w2.heap.size ≤ k) w2 w4 ∧ q2 < w4.heap.size) := Lib.hid (by
            have h5 := (World.ownsRow.stored H3.out.1 k0 (.bool false)).1
            rw [← hw4, List.nil_append, ← List.map_set] at h5
            refine ⟨h5, ?_, (h5.lt q2 rfl).2⟩
            have hk4 : Keeps (fun k => w2.heap.size ≤ k) w3 w4 := by rw [hw4]; exact Keeps.setCell _ w3 ⟨q2, k0, none⟩ _ H3.out.2.2.1
            exact (Keeps.fresh (S := fun k => w2.heap.size ≤ k) H3.out.2.1).trans hk4 fun _ _ h => h)
          have E4 : Hid (w4.heap[b]? = some (.cells (rfC g (.slice (some ⟨q, 0, none⟩) L cap) n row2).toArray 53 (0, 0))) := Lib.hid (H4.out.2.1.heap H2.out.blk (by have := heap_lt H2.out.blk; omega))
          obtain ⟨c0, c1, c2, c3, c4, c5, c6, c7, c8⟩ := rf_cells E4.out
          have z5 := frozen_of_row w4 b 5 _ _ E4.out
          have z6 := frozen_of_row w4 b 6 _ _ E4.out
          have z7 := frozen_of_row w4 b 7 _ _ E4.out
          rw [← hw4]
          have HBQ := Lib.hid (And.intro hbq H3.out.2.2.1)
          clear hw4 hbq hu hz H3
          go_upto_region 19 with fail
          obtain ⟨w5, hw5⟩ : ∃ w5, w5 = ((w4.setCell ⟨b, 5, none⟩ (.slice (some ⟨q2, 0, none⟩) L cap2)).setCell ⟨b, 6, none⟩ (.int .i64 (k0 : Nat))).setCell ⟨b, 7, none⟩ (.int .i64 s) := ⟨_, rfl⟩
          have T5 : Hid (Keeps (fun k => k = b) w4 w5) := Lib.hid (by rw [hw5]; exact ((set_keep w4 b 5 _).trans (set_keep _ b 6 _) fun _ _ h => h).trans (set_keep _ b 7 _) fun _ _ h => h)
          have E5 : Hid (w5.heap[b]? = some (.cells (rfC g (.slice (some ⟨q2, 0, none⟩) L cap2) (opened n s) row2).toArray 53 (0, 0))) := Lib.hid (by rw [hw5, set_blk (set_blk (set_blk E4.out)), HK0.out.1]; rfl)
          rw [← hw5]
          clear hw5 c0 c1 c2 c3 c4 c5 c6 c7 c8 z5 z6 z7
          obtain ⟨c0, c1, c2, c3, c4, c5, c6, c7, c8⟩ := rf_cells E5.out
          obtain ⟨at_, hat⟩ : ∃ x, x = segV g (k0 : Nat) := ⟨_, rfl⟩
          have HAT := Lib.hid hat
          clear hat c5 c6 c7 c8
          go_wp2_with fail
          refine (seg25 g (k0 : Nat) w5).mono ?_
          rw [← HAT.out]
          rintro e w6 ⟨rfl, hb6⟩
          have B6 := Lib.hid hb6
          clear hb6 c0 c1 c2 c3 c4
          go_wp2_with fail
          go_ret2
          have hsz : w.heap.size ≤ w2.heap.size := Nat.le_trans B1.out.1.size K2.out.size
          have hsw : wc.heap.size ≤ w2.heap.size := K2.out.size
          have R4 : Rf w4 (fun k => (Y k ∨ wc.heap.size ≤ k) ∧ k < w2.heap.size) b g n (was ++ [n]) (.slice (some ⟨q, 0, none⟩) L cap) row2 ws2 := (H2.out.mono fun k hk hl => ⟨hk, hl⟩).keeps H4.out.2.1 (fun k hk h => by have := hk.2; omega)
          have R5 := (R4.mono (Y' := fun k => Y k ∨ w.heap.size ≤ k) fun k hk _ => hk.1.imp id fun h => Nat.le_trans B1.out.1.size h).turn (n' := opened n s) (fv' := .slice (some ⟨q2, 0, none⟩) L cap2) T5.out E5.out ?_ ?_
          · refine ⟨ret_i2 (by rw [HAT.out, HK0.out.1]), ⟨_, _, _, R5.go B6.out⟩, ?_⟩
            have k2 : Keeps Y w w2 := B1.out.2.trans K2.out fun _ _ h => h
            have k4 : Keeps Y w w4 := k2.trans H4.out.2.1 fun k hk h => by omega
            exact (k4.trans T5.out fun k _ e => e ▸ H.out.yb).trans (Keeps.fresh (S := Y) B6.out) fun _ _ h => h
          · refine ⟨q2, cap2, by show _ = Value.slice _ (n.fr.set (fst n.fr) false).length _; rw [List.length_set, HL.out], ⟨.inr (by have := HBQ.out.2; omega), fun e => HBQ.out.1 e.symm, fun e => by have := (R4.yr q2 e).2; have := HBQ.out.2; omega⟩, Nat.lt_of_lt_of_le H4.out.2.2 T5.out.size, fun j u hj => ?_⟩
            have hj2 : (n.fr.set k0 false)[j]? = some u := by rw [HK0.out.1]; exact hj
            have hjl : j < L := by have := (List.getElem?_eq_some_iff.1 hj2).1; rw [List.length_set] at this; have := HL.out; omega
            refine T5.out.cell ?_ (fun e => HBQ.out.1 e.symm)
            rw [World.ownsRow.cellAt H4.out.1 j (by omega), List.getElem?_map, hj2]; rfl
          · exact ok_opened H.out.ok (by have := HC.out.1; omega) (by omega) HS.out.2
end Go.Proofs.Ytgoblbmekhcekaa
