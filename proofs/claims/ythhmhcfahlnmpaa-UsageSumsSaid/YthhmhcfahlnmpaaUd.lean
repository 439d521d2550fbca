/- Layer 18 (usage): the document's Used. -/
import Derived.Test.YthhmhcfahlnmpaaUb
namespace Go.Proofs.Ythhmhcfahlnmpaa
open Go.RowKit
theorem wrap64_bd (x : Int) : -9223372036854775808 ≤ wrap64 x ∧ wrap64 x ≤ 9223372036854775807 := by
  unfold wrap64; omega
theorem no_fine2 {g : Geo} {L : Nat → Pl} {n k m : Nat} (hk : k < n) (hm : m < k) (h : meet (L k) (L m) = true) : fineB g L n = false := by
  unfold fineB
  rw [decide_eq_false_iff_not]
  intro hx
  rw [hx.2 k hk m hm] at h; cases h
theorem fine_all {g : Geo} {L : Nat → Pl} {n : Nat} (h1 : ∀ i, i < n → okP g (L i) = true) (h2 : ∀ i, i < n → ∀ m, m < i → meet (L i) (L m) = false) : fineB g L n = true := by
  unfold fineB
  rw [decide_eq_true_iff]
  exact ⟨h1, h2⟩
theorem ok_small {g : Geo} {p : Pl} (h : p.n < 1) : okP g p = false := by
  unfold okP; rw [decide_eq_false (by omega : ¬ 1 ≤ p.n)]; simp
theorem ok_great {g : Geo} {p : Pl} (hr : rightB g = true) (h : g.G < p.n) : okP g p = false := by
  rw [Bool.eq_false_iff]
  intro h2
  have := ok_bd hr h2
  omega
theorem in_far {g : Geo} {a : Int} (hr : rightB g = true) (h : 4611686018427387904 < a) : inV g a = (0, false) := by
  unfold inV
  rw [if_neg (fun hx => by have := total_right hr; omega)]
set_option maxRecDepth 100000 in
set_option maxHeartbeats 8000000 in
theorem used9 (g : Geo) (L : Nat → Pl) (A : Option Addr) (n c : Nat) (w : World) (hn : n ≤ 1000000) (ha : SArr w w.heap.size A n 4 (fun i => encP (L i))) (hpa : ∀ i, i < n → -9223372036854775808 ≤ (L i).a ∧ (L i).a ≤ 9223372036854775807 ∧ -9223372036854775808 ≤ (L i).n ∧ (L i).n ≤ 9223372036854775807) :
    Calls Try.prog 9 #[gv g, .slice A n c] w (UsedPost g L n w) := by
  have HA := Lib.hid ha
  have HPA := Lib.hid hpa
  clear ha hpa
  by_cases hr : rightB g = true
  rotate_left
  · have h2 : rightB g = false := by simpa using hr
    have HE : Hid (usedE g L n = 2) := Lib.hid (by unfold usedE; rw [if_pos h2])
    clear hr
    go_enter Try.func9, Try.ntmps9
    go_wp2_with fail
    refine (right11f g _ h2).mono ?_
    rintro e w1 ⟨rfl, hb1⟩
    have HB := Lib.hid (((Below.refl w.heap.size w).alloc (Nat.le_refl _) (.cells (gcs g) 23)).trans (hb1.mono (by simp)))
    clear hb1
    go_wp2_with fail
    go_ret2
    exact ⟨.slice none 0 0, ret_e HE.out.symm, fun h => absurd (HE.out.symm.trans h) (by decide), fun _ => rfl, HB.out⟩
  · have hf := fine_right hr
    obtain ⟨S, hS⟩ : ∃ S : Nat, g.S = S := ⟨g.S.toNat, by have := hf.s1; omega⟩
    have hS1 := hf.s1
    have hS2 := hf.s2
    have hg1 : 0 ≤ g.G := by have := hf.g1; have := hf.u1; omega
    have hg2 : g.G ≤ 1024 := hf.g2
    rw [hS] at hS1 hS2
    obtain ⟨i0, hi, hz0, hz1, hz2⟩ := infoParts infoI
    have HS := Lib.hid hS
    have HR := Lib.hid hr
    clear hS hf
    go_enter Try.func9, Try.ntmps9
    go_wp2_with fail
    refine (right11t g _ hr).mono ?_
    rintro e w1 ⟨rfl, hb1⟩
    have B1 := Lib.hid (((Below.refl w.heap.size w).alloc (Nat.le_refl _) (.cells (gcs g) 23)).trans (hb1.mono (by simp)))
    have K1 := Lib.hid ((hb1.block w.heap.size (by simp)).trans (heap_new w (.cells (gcs g) 23)))
    clear hb1 hr
    obtain ⟨e0, e1, e2, e3, e4⟩ := geo_at K1.out
    rw [HS.out] at e1
    go_wp2_with (at_make; refine wpList_make_full _ rfl _ _ 27 rfl w.heap.size 3 i0 (.int .i64 0) 1 Try.underlying27 hi hz0 hz1 _ _ _ _ S rfl rfl (by rfl) (by rfl) (by rw [hz2]; omega) (by unfold maxLen; omega) B1.out.size ?_; intro w2 hown hg)
    rw [cntRow_0 g L S] at hown
    have B2 := Lib.hid (B1.out.grown hg B1.out.size (fun k e => by cases e))
    have K2 := Lib.hid ((hg.block w.heap.size (heap_lt K1.out) (by simp)).trans K1.out)
    have R2 := Lib.hid hown
    obtain ⟨R, hRR⟩ : ∃ R, R = w1.heap.size := ⟨_, rfl⟩
    rw [← hRR] at R2 ⊢
    clear hown hg e0 e1 e2 e3 e4 B1 K1 hRR hi hz0 hz1 hz2
    go_wp2_with fail
    go_loopw [7] (fun i wr => ∃ k : Nat, k ≤ n ∧ i = .int .i64 k ∧ (∀ j, j < k → okP g (L j) = true) ∧ (∀ i, i < k → ∀ m, m < i → meet (L i) (L m) = false) ∧ wr.ownsRow w.heap.size 3 1 (.slice (some ⟨R, 0, none⟩) S S) S (cntRow g L S k) ∧ Below w.heap.size w wr ∧ wr.heap[w.heap.size]? = some (.cells (gcs g) 23 (0, 0))) (fun i _ => n - (intOf i).toNat)
    case atStart => exact ⟨0, Nat.zero_le _, rfl, fun _ h => absurd h (by omega), fun _ h => absurd h (by omega), R2.out, B2.out, K2.out⟩
    case round =>
      clear R2 B2 K2
      obtain ⟨k, hk, rfl, hok, hmt, hrow, hbw, hgeo⟩ := hrel
      have HOK := Lib.hid hok
      have HMT := Lib.hid hmt
      have HRW := Lib.hid hrow
      have HB := Lib.hid hbw
      have HG := Lib.hid hgeo
      clear hok hrow hbw hgeo hmt
      by_cases hlt : k < n
      · obtain ⟨b, off, rfl, hb, hc⟩ := (HA.out.below HB.out (Nat.le_refl _)) (by omega)
        obtain ⟨c0, c1, c2, c3⟩ := sarr4_at hc hlt
        have hp1 := HPA.out k hlt
        obtain ⟨p, hp⟩ : ∃ p, p = L k := ⟨_, rfl⟩
        rw [← hp] at c0 c1 c2 c3 hp1
        have HP := Lib.hid hp
        obtain ⟨hp0, hp1, hp2, hp3⟩ := hp1
        obtain ⟨g0, g1, g2, g3, g4⟩ := geo_at HG.out
        have hsz := heap_lt HG.out
        have HN4 : Hid (okP g p = false → usedE g L n = 4) := Lib.hid (fun h => used_4 HR.out (no_fine hlt (by rw [← HP.out]; exact h)))
        clear hc hp
        have BA : Below wr.heap.size wr (wr.alloc (.cells #[.int .i64 p.a, .int .i64 p.n, .int .i64 p.u, .int .i64 p.r] 42)) := (Below.refl _ _).alloc (Nat.le_refl _) _
        have BBA := Lib.hid BA
        clear BA
        by_cases h1 : p.n < 1
        · have HE := Lib.hid (HN4.out (ok_small h1))
          have t1 : decide (p.n < 1) = true := by simpa using h1
          go_wp2_with fail
          go_ret2
          exact ⟨.slice none 0 0, ret_e HE.out.symm, fun h => absurd (HE.out.symm.trans h) (by decide), fun _ => rfl, HB.out.trans (BBA.out.mono HB.out.size)⟩
        · have t1 : decide (p.n < 1) = false := by simpa using h1
          by_cases h2 : g.G < p.n
          · have HE := Lib.hid (HN4.out (ok_great HR.out h2))
            have t2 : decide (g.G < p.n) = true := by simpa using h2
            go_wp2_with fail
            go_ret2
            exact ⟨.slice none 0 0, ret_e HE.out.symm, fun h => absurd (HE.out.symm.trans h) (by decide), fun _ => rfl, HB.out.trans (BBA.out.mono HB.out.size)⟩
          · have t2 : decide (g.G < p.n) = false := by simpa using h2
            have HOR := Lib.hid (ok_ref (p := p) HR.out (by omega) (by omega))
            obtain ⟨b8, hb8⟩ : ∃ b8, b8 = wr.heap.size := ⟨_, rfl⟩
            by_cases hbig : 4611686018427387904 < p.a
            · have hin := in16 g p.a (wr.alloc (.cells #[.int .i64 p.a, .int .i64 p.n, .int .i64 p.u, .int .i64 p.r] 42)) hp1
              rw [in_far HR.out hbig] at hin
              dsimp only at hin
              have HE := Lib.hid (HN4.out (by rw [HOR.out, in_far HR.out hbig]; rfl))
              go_wp2_with fail
              refine hin.mono ?_
              clear hin
              rintro e w3 ⟨rfl, hb3⟩
              have HB3 := Lib.hid (BBA.out.trans (hb3.mono BBA.out.size))
              obtain ⟨q0, q1, q2, q3⟩ := box4 (p := p) ((hb3.block b8 (by simp [hb8])).trans (heap_new_at (w := wr) (.cells #[.int .i64 p.a, .int .i64 p.n, .int .i64 p.u, .int .i64 p.r] 42) hb8))
              obtain ⟨r0, r1, r2, r3, r4⟩ := geo_at ((HB3.out.block w.heap.size hsz).trans HG.out)
              rw [← hb8]
              clear hb3 c0 c1 c2 c3 g0 g1 g2 g3 g4 hb8
              go_wp2_with fail
              refine (in16 g _ _ (wrap64_bd _).2).mono ?_
              rintro e w4 ⟨rfl, hb5⟩
              have B4 := Lib.hid (HB.out.trans ((HB3.out.trans (hb5.mono HB3.out.size)).mono HB.out.size))
              clear hb5 q0 q1 q2 q3 r0 r1 r2 r3 r4
              go_wp2_with fail
              go_ret2
              exact ⟨.slice none 0 0, ret_e HE.out.symm, fun h => absurd (HE.out.symm.trans h) (by decide), fun _ => rfl, B4.out⟩
            · obtain ⟨x, y, hxy⟩ : ∃ x y, inV g p.a = (x, y) := ⟨_, _, rfl⟩
              obtain ⟨x2, y2, hxy2⟩ : ∃ x y, inV g (p.a + p.n - 1) = (x, y) := ⟨_, _, rfl⟩
              have hin := in16 g p.a (wr.alloc (.cells #[.int .i64 p.a, .int .i64 p.n, .int .i64 p.u, .int .i64 p.r] 42)) hp1
              rw [hxy] at hin
              dsimp only at hin
              have hin2 := fun W => in16 g (p.a + p.n - 1) W (by omega)
              rw [hxy2] at hin2
              dsimp only at hin2
              have HIN2 := Lib.hid hin2
              have HXY := Lib.hid hxy
              have HXY2 := Lib.hid hxy2
              have HOR2 : Hid (okP g p = (y && y2 && decide (x = x2))) := Lib.hid (by rw [HOR.out, hxy, hxy2])
              clear hxy hxy2 hin2
              go_wp2_with fail
              refine hin.mono ?_
              clear hin
              rintro e w3 ⟨rfl, hb3⟩
              have HB3 := Lib.hid (BBA.out.trans (hb3.mono BBA.out.size))
              have P3 := Lib.hid ((hb3.block b8 (by simp [hb8])).trans (heap_new_at (w := wr) (.cells #[.int .i64 p.a, .int .i64 p.n, .int .i64 p.u, .int .i64 p.r] 42) hb8))
              have G3 := Lib.hid ((HB3.out.block w.heap.size hsz).trans HG.out)
              obtain ⟨q0, q1, q2, q3⟩ := box4 P3.out
              obtain ⟨r0, r1, r2, r3, r4⟩ := geo_at G3.out
              rw [← hb8]
              clear hb3 c0 c1 c2 c3 g0 g1 g2 g3 g4 hb8
              go_wp2_with fail
              refine (HIN2.out _).mono ?_
              rintro e w4 ⟨rfl, hb5⟩
              have HB4 := Lib.hid (HB3.out.trans (hb5.mono HB3.out.size))
              have P4 := Lib.hid ((hb5.block b8 (heap_lt P3.out)).trans P3.out)
              have G4 := Lib.hid ((hb5.block w.heap.size (heap_lt G3.out)).trans G3.out)
              have B4 := Lib.hid (HB.out.trans (HB4.out.mono HB.out.size))
              have R4 := Lib.hid ((Keeps.fresh (S := fun _ => False) HB4.out).row HRW.out (fun _ _ h => h))
              clear hb5 q0 q1 q2 q3 r0 r1 r2 r3 r4 HB3 P3 G3 HRW HG
              cases y with
              | false =>
                have HE := Lib.hid (HN4.out (by rw [HOR2.out]; rfl))
                go_wp2_with fail
                go_ret2
                exact ⟨.slice none 0 0, ret_e HE.out.symm, fun h => absurd (HE.out.symm.trans h) (by decide), fun _ => rfl, B4.out⟩
              | true =>
                cases y2 with
                | false =>
                  have HE := Lib.hid (HN4.out (by rw [HOR2.out]; rfl))
                  go_wp2_with fail
                  go_ret2
                  exact ⟨.slice none 0 0, ret_e HE.out.symm, fun h => absurd (HE.out.symm.trans h) (by decide), fun _ => rfl, B4.out⟩
                | true =>
                  by_cases hx : x = x2
                  rotate_left
                  · have HE := Lib.hid (HN4.out (by rw [HOR2.out, decide_eq_false hx]; rfl))
                    have t3 : (x != x2) = true := by simpa using hx
                    go_wp2_with fail
                    go_ret2
                    exact ⟨.slice none 0 0, ret_e HE.out.symm, fun h => absurd (HE.out.symm.trans h) (by decide), fun _ => rfl, B4.out⟩
                  · have hok1 : okP g p = true := by rw [HOR2.out, decide_eq_true hx]; rfl
                    subst hx
                    have HOK1 : Hid (∀ j, j < k + 1 → okP g (L j) = true) := Lib.hid (fun j hj => by
                      rcases Nat.lt_or_ge j k with h | h
                      · exact HOK.out j h
                      · obtain rfl : j = k := by omega
                        rw [← HP.out]; exact hok1)
                    obtain ⟨kk, rfl, hkS, ha0, ha1, -, -⟩ := in_true HR.out HXY.out
                    have hcb := cnt_bd HR.out kk k HOK.out
                    have hpb := ok_bd HR.out hok1
                    obtain ⟨hpb0, hpb1, hpb2, hpb3⟩ := hpb
                    have hpn : p.n ≤ 1024 := by omega
                    obtain ⟨q, hq⟩ : ∃ q, q = cntP g L kk k := ⟨_, rfl⟩
                    rw [← hq] at hcb
                    have HQ := Lib.hid hq
                    obtain ⟨hcb0, hcb1⟩ := hcb
                    rw [HS.out] at hkS
                    clear hok1 hq HN4 HOR HOR2 HIN2
                    go_wp2_with fail
                    go_loopw [13] (fun i wq => ∃ j : Nat, j ≤ k ∧ i = .int .i64 j ∧ (∀ m, m < j → meet (L k) (L m) = false) ∧ ∃ m, wq = w4.drewN m) (fun i _ => k - (intOf i).toNat)
                    case atStart => exact ⟨0, by omega, rfl, fun _ h => absurd h (by omega), 0, rfl⟩
                    case round =>
                      obtain ⟨j, hj, rfl, hx, m, rfl⟩ := hrel
                      have HX := Lib.hid hx
                      clear hx
                      obtain ⟨q0, q1, q2, q3⟩ := box4 P4.out
                      by_cases hjk : j < k
                      · obtain ⟨b2, off2, e1, hb, hc⟩ := (HA.out.below B4.out (Nat.le_refl _)) (by omega)
                        injection e1 with e1
                        injection e1 with e1 e2
                        subst e1 e2
                        obtain ⟨c0, c1, c2, c3⟩ := sarr4_at hc (k := j) (by omega)
                        have hd := ok_bd HR.out (HOK.out j hjk)
                        obtain ⟨d, hde⟩ : ∃ d, d = L j := ⟨_, rfl⟩
                        rw [← hde] at c0 c1 c2 c3 hd
                        obtain ⟨hd0, hd1, hd2, hd3⟩ := hd
                        have HD := Lib.hid hde
                        clear hc hde
                        by_cases m1 : p.a < d.a + d.n
                        · have t3 : decide (p.a < d.a + d.n) = true := by simpa using m1
                          by_cases m2 : d.a < p.a + p.n
                          · have t4 : decide (d.a < p.a + p.n) = true := by simpa using m2
                            have HE := Lib.hid (used_4 (L := L) (n := n) HR.out (no_fine2 hlt hjk (by rw [← HP.out, ← HD.out]; unfold meet; rw [t3, t4]; rfl)))
                            go_wp2_with fail
                            go_quiet (fail)
                            go_wp2_with fail
                            go_ret2
                            exact ⟨.slice none 0 0, ret_e HE.out.symm, fun h => absurd (HE.out.symm.trans h) (by decide), fun _ => rfl, below_drewN (below_drewN B4.out _) _⟩
                          · have t4 : decide (d.a < p.a + p.n) = false := by simpa using m2
                            have HM : Hid (meet (L k) (L j) = false) := Lib.hid (by rw [← HP.out, ← HD.out]; unfold meet; rw [t4, Bool.and_false])
                            go_wp2_with fail
                            go_quiet (fail)
                            go_wp2_with fail
                            go_roundw
                            case rel => exact ⟨j + 1, by omega, by go_num, fun m hm => by
                              rcases Nat.lt_or_ge m j with h | h
                              · exact HX.out m h
                              · obtain rfl : m = j := by omega
                                exact HM.out, _, rfl⟩
                            case measure => simp [intOf]; omega
                        · have t3 : decide (p.a < d.a + d.n) = false := by simpa using m1
                          have HM : Hid (meet (L k) (L j) = false) := Lib.hid (by rw [← HP.out, ← HD.out]; unfold meet; rw [t3, Bool.false_and])
                          go_wp2_with fail
                          go_quiet (fail)
                          go_wp2_with fail
                          go_roundw
                          case rel => exact ⟨j + 1, by omega, by go_num, fun m hm => by
                            rcases Nat.lt_or_ge m j with h | h
                            · exact HX.out m h
                            · obtain rfl : m = j := by omega
                              exact HM.out, _, rfl⟩
                          case measure => simp [intOf]; omega
                      · obtain rfl : j = k := by omega
                        have R5 := Lib.hid ((Keeps.drewN (fun _ => False) w4 m).row R4.out (fun _ _ h => h))
                        have rc := (R4.out.cellAt kk (by omega)).trans (cntRow_at (by omega))
                        have rf := R4.out.frozenAt kk
                        rw [← HQ.out] at rc
                        have j1 : (0 : Int) ≤ kk := by omega
                        have hw3 : IntKind.i64.wrap (q + p.n) = q + p.n := IntWalk.i64_in _ (by omega)
                        go_wp2_with fail
                        go_region
                        go_wp2_with fail
                        go_roundw
                        case rel =>
                          have hs := R5.out.stored kk (.int .i64 (q + p.n))
                          rw [HQ.out, HP.out, cntRow_s (by omega) (by rw [← HP.out, HXY.out])] at hs
                          have hne : R ≠ w.heap.size := fun e => rows_neG R4.out (e ▸ G4.out) (by decide)
                          have hst : Keeps (fun x => x = R) (w4.drewN m) ((w4.drewN m).setCell ⟨R, kk, none⟩ (.int .i64 (q + p.n))) := Keeps.setCell (fun x => x = R) _ ⟨R, kk, none⟩ _ rfl
                          exact ⟨j + 1, by omega, by go_num, HOK1.out, fun i hi m' hm' => by
                            rcases Nat.lt_or_ge i j with h | h
                            · exact HMT.out i h m' hm'
                            · obtain rfl : i = j := by omega
                              exact HX.out m' hm', by rw [HP.out, HQ.out]; exact (Keeps.drew (fun _ => False) _).row hs.1 (fun _ _ h => h), by rw [HP.out]; exact ((below_drewN B4.out m).setCell (row_lt R4.out (k := R) rfl).1 _).drew, hst.heap (w := w4.drewN m) G4.out (fun e => hne e.symm)⟩
                        case measure => simp [intOf]; omega
      · obtain rfl : k = n := by omega
        have HE : Hid (usedE g L k = 0) := Lib.hid (used_0 HR.out (fine_all HOK.out HMT.out))
        go_wp2_with fail
        go_ret2
        refine ⟨.slice (some ⟨R, 0, none⟩) S S, ret_e HE.out.symm, fun _ => ?_, fun h => absurd HE.out h, HB.out⟩
        rw [HS.out]
        exact HRW.out
end Go.Proofs.Ythhmhcfahlnmpaa
