/- The law SpaceDoes of layer 19 (space): it returns true at every input. Printed by genW.py. -/
import Derived.Test.YtgoblbmekhcekaaX
import Derived.Test.YtgoblbmekhcekaaO
import Derived.Test.YtgoblbmekhcekaaKi
namespace Go.Proofs.Ytgoblbmekhcekaa
open Go.RowKit
theorem two_cells {W w : World} {b rb : Nat} {g : Geo} {s r : Nw × List Nw} {Z : Nat → Prop} (h : Two W w b rb g s r Z) : w.cell? ⟨rb, 6, none⟩ = some (.int .i64 r.1.op) ∧ ∃ A c, w.cell? ⟨rb, 8, none⟩ = some (.slice A r.2.length c) := by
  obtain ⟨X, Y, h1, ⟨fv, row, ws, h2⟩, -⟩ := h
  obtain ⟨c0, c1, c2, c3, c4, c5, c6, c7, c8⟩ := rf_cells h2.blk
  obtain ⟨A, c, rfl, -⟩ := own_form h2.own
  exact ⟨c6, A, c, by rw [← h2.len]; exact c8⟩
theorem two_free2 {W w : World} {b rb : Nat} {g : Geo} {s r : Nw × List Nw} {Z : Nat → Prop} (h : Two W w b rb g s r Z) : Calls Try.prog 10 #[.pointer (some ⟨b, 0, none⟩)] w fun e w' => e = .returned (.int .i64 (s.1.fr.count true : Nat)) ∧ Two W w' b rb g s r Z ∧ Below w.heap.size w w' := by
  have hh := h
  obtain ⟨X, Y, h1, -⟩ := h
  exact (freeX w X b g s.1 s.2 h1).mono fun e w' hg => ⟨hg.1, hh.go hg.2, hg.2⟩
theorem backR_len (n : Nw) (was : List Nw) (mark : Int) : (backR n was mark).was.length ≤ was.length := by
  unfold backR
  split
  · exact Nat.le_refl _
  · split
    · simp; omega
    · exact Nat.le_refl _
theorem settleR_len (g : Geo) (n : Nw) (was : List Nw) (f : Nat → Int) (m : Nat) : (settleR g n was f m).was.length ≤ was.length := by
  unfold settleR
  split
  · simp
  · exact Nat.le_refl _
theorem takeR_len (g : Geo) (n : Nw) (was : List Nw) (s : Int) (deep : Bool) : (takeR g n was s deep).was.length ≤ was.length + 1 := by
  unfold takeR
  split
  · simp
  · split
    · split
      · simp
      · simp
    · simp
theorem cell_same {w w' : World} {b o : Nat} {v : Value} (h : w'.heap[b]? = w.heap[b]?) (hc : w.cell? ⟨b, o, none⟩ = some v) : w'.cell? ⟨b, o, none⟩ = some v := (World.cell?_of_block (a := ⟨b, o, none⟩) h).trans hc
set_option maxRecDepth 100000 in
set_option maxHeartbeats 8000000 in
theorem does5 (g : Geo) (f : Nat → Int) (A1 : Option Addr) (n1 c1 : Nat) (A2 : Option Addr) (n2 c2 : Nat) (D : Nat → Deed) (W : World) (hn1 : n1 ≤ 140737488351232) (hn2 : n2 ≤ 140737488351232)
    (ha : Arr W W.heap.size A1 n1 fun j => .int .i64 (f j)) (hnul : A1 = none → n1 = 0 ∧ c1 = 0) (hd : DdsAt W A2 n2 D) : Calls Try.prog 5 #[gv g, .slice A1 n1 c1, .slice A2 n2 c2] W fun e W' => e = .returned (.bool true) ∧ Below W.heap.size W W' := by
  have HA := Lib.hid ha
  have HD := Lib.hid hd
  have HNU := Lib.hid hnul
  have hB := Lib.hid ((Below.refl _ W).alloc (Nat.le_refl W.heap.size) (.cells (gcs g) 23))
  have K0 := Lib.hid (heap_new W (.cells (gcs g) 23))
  clear ha hd hnul
  go_enter Try.func5, Try.ntmps5
  go_wp2_with fail
  refine (awake7 _).mono ?_
  rintro e w1 ⟨rfl, hb1⟩
  have B1 := Lib.hid (hB.out.trans (hb1.mono hB.out.size))
  have K1 := Lib.hid ((hb1.block W.heap.size (heap_lt K0.out)).trans K0.out)
  clear hb1 K0 hB
  go_upto_region 3 with fail
  obtain ⟨ok, hok⟩ : ∃ ok, ok = (decide (n1 ≤ 300) && lightB D n2 && !(decide (60 < g.S) && decide (40 < n2))) := ⟨_, rfl⟩
  have HOK := Lib.hid hok
  go_cut [37] from 20 to 37 (fun s37 w' => s37 = .bool (!ok) ∧ w' = w1)
  case first =>
    obtain ⟨e0, e1, e2, e3, e4⟩ := geo_at K1.out
    by_cases q3 : n1 ≤ 300
    · have t3 : decide ((300 : Int) < n1) = false := by simp; omega
      cases q1 : lightB D n2
      · rw [q1, Bool.and_false, Bool.false_and] at hok
        subst hok
        clear q3
        go_wp2_with (go_at_call 8; refine (light8 D A2 n2 c2 _ _ hn2 (HD.out.row.below B1.out (Nat.le_refl _)) (fun i hi => (HD.out.lies i hi).le)).mono ?_; rw [q1]; rintro e _ ⟨rfl, rfl⟩)
        go_meet
        exact ⟨rfl, rfl⟩
      · by_cases q4 : 60 < g.S
        · have t4 : decide ((60 : Int) < g.S) = true := by simpa using q4
          by_cases q5 : 40 < n2
          · have t5 : decide ((40 : Int) < n2) = true := by simp; omega
            have hok2 : ok = false := by rw [hok]; simp [q4, q5]
            subst hok2
            clear q3 q4 q5 hok
            go_wp2_with (go_at_call 8; refine (light8 D A2 n2 c2 _ _ hn2 (HD.out.row.below B1.out (Nat.le_refl _)) (fun i hi => (HD.out.lies i hi).le)).mono ?_; rw [q1]; rintro e _ ⟨rfl, rfl⟩)
            go_meet
            exact ⟨rfl, rfl⟩
          · have t5 : decide ((40 : Int) < n2) = false := by simp; omega
            have hok2 : ok = true := by rw [hok]; simp [q1, q3, q5]
            subst hok2
            clear q3 q4 q5 hok
            go_wp2_with (go_at_call 8; refine (light8 D A2 n2 c2 _ _ hn2 (HD.out.row.below B1.out (Nat.le_refl _)) (fun i hi => (HD.out.lies i hi).le)).mono ?_; rw [q1]; rintro e _ ⟨rfl, rfl⟩)
            go_meet
            exact ⟨rfl, rfl⟩
        · have t4 : decide ((60 : Int) < g.S) = false := by simpa using q4
          have hok2 : ok = true := by rw [hok]; simp [q1, q3, q4]
          subst hok2
          clear q3 q4 hok
          go_wp2_with (go_at_call 8; refine (light8 D A2 n2 c2 _ _ hn2 (HD.out.row.below B1.out (Nat.le_refl _)) (fun i hi => (HD.out.lies i hi).le)).mono ?_; rw [q1]; rintro e _ ⟨rfl, rfl⟩)
          go_meet
          exact ⟨rfl, rfl⟩
    · have t3 : decide ((300 : Int) < n1) = true := by simp; omega
      have hok2 : ok = false := by rw [hok]; simp [q3]
      subst hok2
      clear q3 hok
      go_wp2_with fail
      go_meet
      exact ⟨rfl, rfl⟩
  case rest =>
    obtain ⟨rfl, rfl⟩ := hcut
    clear hok
    cases ok
    · go_wp2_with fail
      go_ret
      exact ⟨rfl, B1.out⟩
    have HOK2 : Hid (n2 ≤ 100 ∧ n1 ≤ 300 ∧ ∀ i, i < n2 → (D i).m ≤ 300) := Lib.hid (by
      have := HOK.out
      simp only [lightB, eq_comm (a := true), Bool.and_eq_true, decide_eq_true_eq] at this
      exact ⟨this.1.2.2, this.1.1, fun i hi => lightL_iff.1 this.1.2.1 i hi⟩)
    obtain ⟨e0, e1, e2, e3, e4⟩ := geo_at K1.out
    have HA1 := Lib.hid ((HA.out.below B1.out (Nat.le_refl _)).more B1.out.size)
    go_wp2_with fail
    refine (lentI f A1 n1 c1 wc (by have := HOK2.out.2.1; omega) HA1.out HNU.out).mono ?_
    rintro e w2 ⟨q0, rfl, hq0, hblk, hb2⟩
    have L2 := Lib.hid (And.intro hq0 (And.intro hblk hb2))
    have B2 := Lib.hid (B1.out.trans (hb2.mono B1.out.size))
    have K2 := Lib.hid ((hb2.block W.heap.size (heap_lt K1.out)).trans K1.out)
    have HA2 := Lib.hid ((HA.out.below B2.out (Nat.le_refl _)).more B2.out.size)
    clear hq0 hblk hb2 e0 e1 e2 e3 e4
    obtain ⟨e0, e1, e2, e3, e4⟩ := geo_at K2.out
    cases hnew : newB g f n1
    · have HNEW := Lib.hid hnew
      clear hnew
      go_wp2_with fail
      refine (new9f g f _ n1 (n1 + 12) w2 (by omega) (lentI_arr L2.out.2.1) HNEW.out).mono ?_
      rintro e w3 ⟨rfl, hb3⟩
      have B3 := Lib.hid (B2.out.trans (hb3.mono B2.out.size))
      have K3 := Lib.hid ((hb3.block W.heap.size (heap_lt K2.out)).trans K2.out)
      have L3 := Lib.hid ((hb3.block q0 (heap_lt L2.out.2.1)).trans L2.out.2.1)
      clear hb3 e0 e1 e2 e3 e4
      obtain ⟨e0, e1, e2, e3, e4⟩ := geo_at K3.out
      go_wp2_with fail
      refine (rnew17f g f A1 n1 c1 w3 hn1 ((HA.out.below B3.out (Nat.le_refl _)).more B3.out.size) HNEW.out).mono ?_
      rintro e w4 ⟨rfl, hb4⟩
      have B4 := Lib.hid (B3.out.trans (hb4.mono B3.out.size))
      have L4 := Lib.hid ((hb4.block q0 (heap_lt L3.out)).trans L3.out)
      clear hb4 e0 e1 e2 e3 e4
      go_wp2_with fail
      refine (keptI f A1 q0 n1 c1 _ w4 (by have := HOK2.out.2.1; omega) ((HA.out.below B4.out (Nat.le_refl _)).more B4.out.size) L4.out).mono ?_
      rintro e _ ⟨rfl, m4, rfl⟩
      go_wp2_with fail
      refine (overI q0 n1 _ (w4.drewN m4) (by have := HOK2.out.2.1; omega) L4.out (by simp [markRowI])).mono ?_
      rintro e w5 ⟨rfl, hk5⟩
      have B5 := Lib.hid ((below_drewN B4.out m4).trans (hk5.below (fun k e => by subst e; have := L2.out.1; have := B1.out.size; omega) (below_drewN B4.out m4).size))
      clear hk5
      go_wp2_with fail
      obtain ⟨w6, hw6⟩ : ∃ w6, w6 = w5 := ⟨_, rfl⟩
      rw [← hw6] at B5 ⊢
      clear hw6
      go_loopw [11] (fun i wr => i = .int .i64 0 ∧ wr = w6) (fun _ _ => 0)
      case atStart => exact ⟨rfl, rfl⟩
      case round =>
        obtain ⟨rfl, rfl⟩ := hrel
        by_cases h0 : 0 < n2
        · have t0 : decide ((0 : Int) < n2) = true := by simp; omega
          go_wp2_with fail
          go_ret
          exact ⟨rfl, B5.out⟩
        · have t0 : decide ((0 : Int) < n2) = false := by simp; omega
          go_wp2_with fail
          go_ret
          exact ⟨rfl, B5.out⟩
    · have HNEW := Lib.hid hnew
      clear hnew
      go_wp2_with fail
      refine (newX g f _ n1 (n1 + 12) w2 (lentI_arr L2.out.2.1) HNEW.out).mono ?_
      rintro e w3 ⟨b, rfl, hs3, hb3⟩
      have S3 := Lib.hid hs3
      have B3 := Lib.hid (B2.out.trans (hb3.mono B2.out.size))
      have K3 := Lib.hid ((hb3.block W.heap.size (heap_lt K2.out)).trans K2.out)
      have L3 := Lib.hid ((hb3.block q0 (heap_lt L2.out.2.1)).trans L2.out.2.1)
      have hs23 := hb3.size
      clear hs3 hb3 e0 e1 e2 e3 e4
      obtain ⟨e0, e1, e2, e3, e4⟩ := geo_at K3.out
      go_wp2_with fail
      refine (rnew17t g f A1 n1 c1 w3 ((HA.out.below B3.out (Nat.le_refl _)).more B3.out.size) HNEW.out).mono ?_
      rintro e w4 ⟨rb, rfl, hr4, hb4⟩
      have B4 := Lib.hid (B3.out.trans (hb4.mono B3.out.size))
      have L4 := Lib.hid ((hb4.block q0 (heap_lt L3.out)).trans L3.out)
      obtain ⟨s0, hs0⟩ : ∃ s0 : Nw × List Nw, s0 = (⟨freesL f (-1) n1, -1, 0⟩, []) := ⟨_, rfl⟩
      have S4 : Hid (Two W w4 b rb g s0 s0 (fun k => k = q0)) := Lib.hid (by
        rw [hs0]
        have hq : q0 < w2.heap.size := heap_lt L2.out.2.1
        have h34 := hb4.size
        have hW : W.heap.size ≤ w2.heap.size := B2.out.size
        refine ⟨fun k => w2.heap.size ≤ k ∧ k < w3.heap.size, fun k => w3.heap.size ≤ k, (S3.out.lt).go hb4, hr4, fun k hx hy => by omega, fun k hx e => by omega, fun k hy e => by omega, fun k hx => by omega, fun k hy => by omega, fun k e => by omega, B4.out⟩)
      have hs0l : s0.2.length = 0 := by rw [hs0]; rfl
      have HS0 := Lib.hid hs0l
      clear hr4 hb4 hs0 hs0l e0 e1 e2 e3 e4 S3
      go_wp2_with fail
      refine (keptI f A1 q0 n1 c1 _ w4 (by have := HOK2.out.2.1; omega) ((HA.out.below B4.out (Nat.le_refl _)).more B4.out.size) L4.out).mono ?_
      rintro e _ ⟨rfl, m4, rfl⟩
      go_wp2_with fail
      refine (overI q0 n1 _ (w4.drewN m4) (by have := HOK2.out.2.1; omega) L4.out (by simp [markRowI])).mono ?_
      rintro e w5 ⟨rfl, hk5⟩
      have S5 : Hid (Two W w5 b rb g s0 s0 (fun _ => False)) := Lib.hid (((S4.out.go (below_drewN (Below.refl _ w4) m4)).turnZ hk5 (fun k e => by subst e; have := L2.out.1; have := B1.out.size; omega)).other)
      clear hk5 S4 L4 B4 B3 K3 L3 B2 K2 L2 HA2 hs23
      go_wp2_with fail
      go_loopw [11] (fun i wr => ∃ (k : Nat) (s : Nw × List Nw), k ≤ n2 ∧ i = .int .i64 k ∧ s.2.length ≤ k ∧ Two W wr b rb g s s (fun _ => False)) (fun i _ => n2 - (intOf i).toNat)
      case atStart => exact ⟨0, s0, Nat.zero_le _, rfl, by rw [HS0.out]; exact Nat.le_refl _, S5.out⟩
      case round =>
        clear S5
        obtain ⟨k, s, hk, rfl, hsl, hsp⟩ := hrel
        have SP := Lib.hid hsp
        clear hsp
        by_cases hlt : k < n2
        · obtain ⟨b2, off, rfl, hb2l, hc⟩ := HD.out.row (by omega)
          obtain ⟨d0, d1, d2, d3⟩ := hc k hlt
          have hbw := SP.out.below
          have d0 := (hbw.cell (p := ⟨b2, off + k * 4, none⟩) hb2l).trans d0
          have d1 := (hbw.cell (p := ⟨b2, off + k * 4 + 1, none⟩) hb2l).trans d1
          have d2 := (hbw.cell (p := ⟨b2, off + k * 4 + 2, none⟩) hb2l).trans d2
          have d3 := (hbw.cell (p := ⟨b2, off + k * 4 + 3, none⟩) hb2l).trans d3
          obtain ⟨d, hdd⟩ : ∃ d, d = D k := ⟨_, rfl⟩
          have hli := HD.out.lies k hlt
          have hm3 := HOK2.out.2.2 k hlt
          have hki := HD.out.kind k hlt
          rw [← hdd] at d0 d1 d2 d3 hli hm3 hki
          have hn100 := HOK2.out.1
          obtain ⟨kd, x, y, A, m, cc, ff⟩ := d
          simp only at d0 d1 d2 d3 hm3 hki
          have HLI := Lib.hid hli
          have hs100 : s.2.length ≤ 100 := by omega
          have j0 : (0 : Int) ≤ k := by omega
          clear hc hdd hli hbw
          go_wp2_with fail
          have hbd := (Below.refl wr.heap.size wr).alloc (Nat.le_refl _) (.cells #[.int .i64 kd, .int .i64 x, .bool y, .slice A m cc] 36)
          have hdk := heap_new wr (.cells #[.int .i64 kd, .int .i64 x, .bool y, .slice A m cc] 36)
          have TD := Lib.hid ((SP.out.fresh hbd).lessZ (Z' := fun q => q = wr.heap.size) (fun q e => .inr ⟨by omega, by subst e; simp⟩))
          obtain ⟨dk, hdk2⟩ : ∃ dk, dk = wr.heap.size := ⟨_, rfl⟩
          have HMF : Hid ((wr.alloc (.cells #[.int .i64 kd, .int .i64 x, .bool y, .slice A m cc] 36)).heap[dk]? = some (.cells #[.int .i64 kd, .int .i64 x, .bool y, .slice A m cc] 36 (0, 0))) := Lib.hid (by rw [hdk2]; exact hdk)
          have TD2 : Hid (Two W (wr.alloc (.cells #[.int .i64 kd, .int .i64 x, .bool y, .slice A m cc] 36)) b rb g s s (fun q => q = dk)) := Lib.hid (by rw [hdk2]; exact TD.out)
          obtain ⟨va, hva⟩ : ∃ va, va = wr.alloc (.cells #[.int .i64 kd, .int .i64 x, .bool y, .slice A m cc] 36) := ⟨_, rfl⟩
          rw [← hva] at HMF TD2 ⊢
          rw [← hdk2]
          have HAr := Lib.hid ((HLI.out.arr.below TD2.out.below (Nat.le_refl _)).more TD2.out.below.size)
          have hdkW : W.heap.size ≤ dk := by rw [hdk2]; exact SP.out.below.size
          clear hdk hbd hva hdk2 TD d0 d1 d2 d3
          refine (lentI ff A m cc va (by omega) HAr.out HLI.out.nul).mono ?_
          rintro e vb ⟨q, rfl, hq, hblk, hb3⟩
          have TB : Hid (Two W vb b rb g s s (fun i => i = dk ∨ i = q)) := Lib.hid ((TD2.out.fresh hb3).lessZ fun i hi => hi.imp id fun e => ⟨by subst e; exact hq, by subst e; exact heap_lt hblk⟩)
          have KB := Lib.hid ((hb3.block dk (heap_lt HMF.out)).trans HMF.out)
          have QB := Lib.hid hblk
          have HAb := Lib.hid ((HLI.out.arr.below TB.out.below (Nat.le_refl _)).more TB.out.below.size)
          have f0 := block_cell KB.out 0 _ rfl
          have f1 := block_cell KB.out 1 _ rfl
          have f2 := block_cell KB.out 2 _ rfl
          have f3 := block_cell KB.out 3 _ rfl
          have HZ0 := Lib.hid (show W.heap.size ≤ dk ∧ W.heap.size ≤ q from ⟨hdkW, by have := TD2.out.below.size; omega⟩)
          clear hq hblk hb3 HAr HMF TD2 hdkW
          go_wp2_with fail
          refine (pick9 kd 6 _ (by omega) (by omega)).mono ?_
          rintro e _ ⟨rfl, rfl⟩
          obtain ⟨pk, hpk⟩ : ∃ pk, pk = kd % 6 := ⟨_, rfl⟩
          rw [← hpk]
          clear hpk
          by_cases p4 : pk = 4
          · have t4 : (pk == 4) = true := by simpa using p4
            obtain ⟨er, her⟩ : ∃ er, er = (backR s.1 s.2 x).err := ⟨_, rfl⟩
            have HER := Lib.hid her
            clear p4 her
            go_wp2_with fail
            go_region_held3 (fun w' => w'.cell? ⟨dk, 1, none⟩ = some (.int .i64 x)) (go_keep)
              (first | (go_at_call 15; refine (two_back x TB.out.drew).mono ?_; rw [← HER.out]; rintro e vc ⟨rfl, hc, zc⟩; have TC := Lib.hid hc; have f1c := cell_same (zc dk (.inl rfl)) f1) | (go_at_call 21; refine (two_rback x TC.out (by omega)).mono ?_; rw [← HER.out]; rintro e vd ⟨rfl, hd', zd⟩; have TE := Lib.hid hd'; have f1d := cell_same (zd dk (.inl rfl)) f1c))
            clear f1 f1c f1d f0 f2 f3
            obtain ⟨s', hs'⟩ : ∃ s', s' = ((backR s.1 s.2 x).n, (backR s.1 s.2 x).was) := ⟨_, rfl⟩
            rw [← hs'] at TE
            have HSL := Lib.hid (show s'.2.length ≤ k + 1 by rw [hs']; have := backR_len s.1 s.2 x; show (backR s.1 s.2 x).was.length ≤ _; omega)
            clear hs' hc zc hd' zd
            obtain ⟨c6, A8, c8, c8'⟩ := two_cells TE.out
            obtain ⟨F, hF⟩ : ∃ F, F = s'.1.fr.count true := ⟨_, rfl⟩
            obtain ⟨O, hO⟩ : ∃ O, O = s'.1.op := ⟨_, rfl⟩
            obtain ⟨NN, hNN⟩ : ∃ NN, NN = s'.2.length := ⟨_, rfl⟩
            rw [← hO] at c6
            rw [← hNN] at c8'
            have HF := Lib.hid (And.intro hF (And.intro hO hNN))
            have hrl := World.block_lt_of_cell? vd _ c6
            clear hF hO hNN
            go_wp2_with fail
            go_region_held3 (fun w' => w'.cell? ⟨rb, 6, none⟩ = some (.int .i64 O) ∧ w'.cell? ⟨rb, 8, none⟩ = some (.slice A8 NN c8)) (go_keep)
              (first | (go_at_call 10; refine (two_free2 TE.out.drew).mono ?_; rw [← HF.out.1]; rintro e wt ⟨rfl, ht, hbt⟩; have TT := Lib.hid ht; have c6t := cell_same (hbt.block rb hrl) c6; have c8t := cell_same (hbt.block rb hrl) c8') | (go_at_call 25; refine (two_rfree TT.out).mono ?_; rw [← HF.out.1]; rintro e _ ⟨rfl, rfl⟩) | (go_at_call 13; refine (two_open TT.out).mono ?_; rw [← HF.out.2.1]; rintro e _ ⟨rfl, rfl⟩) | (go_at_call 14; refine (two_mark TT.out).mono ?_; rw [← HF.out.2.2]; rintro e _ ⟨rfl, rfl⟩))
            go_wp2_with fail
            go_roundw
            case rel => exact ⟨k + 1, s', by omega, by go_num, HSL.out, TT.out.lessZ (fun _ h => h.elim)⟩
            case measure => simp [intOf]; omega
          · have t4 : (pk == 4) = false := by simpa using p4
            by_cases p5 : pk = 5
            · have t5 : (pk == 5) = true := by simpa using p5
              obtain ⟨er, her⟩ : ∃ er, er = (settleR g s.1 s.2 ff m).err := ⟨_, rfl⟩
              have HER := Lib.hid her
              clear p5 her
              go_wp2_with fail
              go_region_held3 (fun w' => w'.cell? ⟨dk, 3, none⟩ = some (.slice A m cc)) (go_keep)
                (first | (go_at_call 22; refine (two_settle ff (some ⟨q, 0, none⟩) m (m + 12) TB.out.drew (by omega) (lentI_arr QB.out) (fun b2 o e => .inr (by injection e with e; injection e with e; exact e.symm))).mono ?_; rw [← HER.out]; rintro e vc ⟨rfl, hc, zc⟩; have TC := Lib.hid hc; have f3c := cell_same (zc dk (.inl rfl)) f3; have QC := Lib.hid ((zc q (.inr rfl)).trans QB.out); have HAc := Lib.hid ((HLI.out.arr.below TC.out.below (Nat.le_refl _)).more TC.out.below.size)) | (go_at_call 23; refine (two_rsettle ff A m cc TC.out (by omega) HAc.out).mono ?_; rw [← HER.out]; rintro e vd ⟨rfl, hd', zd⟩; have TE := Lib.hid hd'; have f3d := cell_same (zd dk (.inl rfl)) f3c; have QD := Lib.hid ((zd q (.inr rfl)).trans QC.out); have HAd := Lib.hid ((HLI.out.arr.below TE.out.below (Nat.le_refl _)).more TE.out.below.size)) | (go_at_call 18; refine (keptI ff A q m cc _ vd (by omega) HAd.out QD.out).mono ?_; rintro e _ ⟨rfl, m5, rfl⟩))
              clear f1 f2 f0 f3 f3c f3d
              obtain ⟨s', hs'⟩ : ∃ s', s' = ((settleR g s.1 s.2 ff m).n, (settleR g s.1 s.2 ff m).was) := ⟨_, rfl⟩
              rw [← hs'] at TE
              have HSL := Lib.hid (show s'.2.length ≤ k + 1 by rw [hs']; have := settleR_len g s.1 s.2 ff m; show (settleR g s.1 s.2 ff m).was.length ≤ _; omega)
              clear hs' hc zc hd' zd
              go_wp2_with fail
              refine (overI q m _ (vd.drewN m5) (by omega) QD.out (by simp [markRowI])).mono ?_
              rintro e ve ⟨rfl, hke⟩
              have HZ := Lib.hid (show W.heap.size ≤ dk ∧ W.heap.size ≤ q from HZ0.out)
              have TF : Hid (Two W ve b rb g s' s' (fun i => i = dk ∨ i = q)) := Lib.hid ((TE.out.go (below_drewN (Below.refl _ vd) m5)).turnZ (hke.mono fun i _ e => .inr e) (fun i hi => by rcases hi with rfl | rfl; exact HZ.out.1; exact HZ.out.2))
              clear hke
              obtain ⟨c6, A8, c8, c8'⟩ := two_cells TF.out
              obtain ⟨F, hF⟩ : ∃ F, F = s'.1.fr.count true := ⟨_, rfl⟩
              obtain ⟨O, hO⟩ : ∃ O, O = s'.1.op := ⟨_, rfl⟩
              obtain ⟨NN, hNN⟩ : ∃ NN, NN = s'.2.length := ⟨_, rfl⟩
              rw [← hO] at c6
              rw [← hNN] at c8'
              have HF := Lib.hid (And.intro hF (And.intro hO hNN))
              have hrl := World.block_lt_of_cell? ve _ c6
              clear hF hO hNN
              go_wp2_with fail
              go_region_held3 (fun w' => w'.cell? ⟨rb, 6, none⟩ = some (.int .i64 O) ∧ w'.cell? ⟨rb, 8, none⟩ = some (.slice A8 NN c8)) (go_keep)
                (first | (go_at_call 10; refine (two_free2 TF.out.drew).mono ?_; rw [← HF.out.1]; rintro e wt ⟨rfl, ht, hbt⟩; have TT := Lib.hid ht; have c6t := cell_same (hbt.block rb hrl) c6; have c8t := cell_same (hbt.block rb hrl) c8') | (go_at_call 25; refine (two_rfree TT.out).mono ?_; rw [← HF.out.1]; rintro e _ ⟨rfl, rfl⟩) | (go_at_call 13; refine (two_open TT.out).mono ?_; rw [← HF.out.2.1]; rintro e _ ⟨rfl, rfl⟩) | (go_at_call 14; refine (two_mark TT.out).mono ?_; rw [← HF.out.2.2]; rintro e _ ⟨rfl, rfl⟩))
              go_wp2_with fail
              go_roundw
              case rel => exact ⟨k + 1, s', by omega, by go_num, HSL.out, TT.out.lessZ (fun _ h => h.elim)⟩
              case measure => simp [intOf]; omega
            · have t5 : (pk == 5) = false := by simpa using p5
              obtain ⟨at_, hat⟩ : ∃ at_, at_ = (takeR g s.1 s.2 x y).at_ := ⟨_, rfl⟩
              obtain ⟨er, her⟩ : ∃ er, er = (takeR g s.1 s.2 x y).err := ⟨_, rfl⟩
              have HER := Lib.hid (And.intro hat her)
              clear p5 her hat
              go_wp2_with fail
              refine (two_take x y TB.out (by omega)).mono ?_
              rw [← HER.out.1, ← HER.out.2]
              rintro e vc ⟨rfl, hc, zc⟩
              have TC := Lib.hid hc
              have f1c := cell_same (zc dk (.inl rfl)) f1
              have f2c := cell_same (zc dk (.inl rfl)) f2
              clear hc zc f0 f1 f2 f3
              go_wp2_with fail
              refine (two_rtake x y TC.out (by omega)).mono ?_
              rw [← HER.out.1, ← HER.out.2]
              rintro e vd ⟨rfl, hd', zd⟩
              have TE := Lib.hid hd'
              obtain ⟨s', hs'⟩ : ∃ s', s' = ((takeR g s.1 s.2 x y).n, (takeR g s.1 s.2 x y).was) := ⟨_, rfl⟩
              rw [← hs'] at TE
              have HSL := Lib.hid (show s'.2.length ≤ k + 1 by rw [hs']; have := takeR_len g s.1 s.2 x y; show (takeR g s.1 s.2 x y).was.length ≤ _; omega)
              clear hs' hd' zd f1c f2c
              obtain ⟨c6, A8, c8, c8'⟩ := two_cells TE.out
              obtain ⟨F, hF⟩ : ∃ F, F = s'.1.fr.count true := ⟨_, rfl⟩
              obtain ⟨O, hO⟩ : ∃ O, O = s'.1.op := ⟨_, rfl⟩
              obtain ⟨NN, hNN⟩ : ∃ NN, NN = s'.2.length := ⟨_, rfl⟩
              rw [← hO] at c6
              rw [← hNN] at c8'
              have HF := Lib.hid (And.intro hF (And.intro hO hNN))
              have hrl := World.block_lt_of_cell? vd _ c6
              clear hF hO hNN
              go_wp2_with fail
              go_region_held3 (fun w' => w'.cell? ⟨rb, 6, none⟩ = some (.int .i64 O) ∧ w'.cell? ⟨rb, 8, none⟩ = some (.slice A8 NN c8)) (go_keep)
                (first | (go_at_call 10; refine (two_free2 TE.out.drew).mono ?_; rw [← HF.out.1]; rintro e wt ⟨rfl, ht, hbt⟩; have TT := Lib.hid ht; have c6t := cell_same (hbt.block rb hrl) c6; have c8t := cell_same (hbt.block rb hrl) c8') | (go_at_call 25; refine (two_rfree TT.out).mono ?_; rw [← HF.out.1]; rintro e _ ⟨rfl, rfl⟩) | (go_at_call 13; refine (two_open TT.out).mono ?_; rw [← HF.out.2.1]; rintro e _ ⟨rfl, rfl⟩) | (go_at_call 14; refine (two_mark TT.out).mono ?_; rw [← HF.out.2.2]; rintro e _ ⟨rfl, rfl⟩))
              go_wp2_with fail
              go_roundw
              case rel => exact ⟨k + 1, s', by omega, by go_num, HSL.out, TT.out.lessZ (fun _ h => h.elim)⟩
              case measure => simp [intOf]; omega
        · obtain rfl : k = n2 := by omega
          go_wp2_with fail
          go_ret
          exact ⟨rfl, SP.out.below⟩
end Go.Proofs.Ytgoblbmekhcekaa
