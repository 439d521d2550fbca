/- Layer 23 (maps): the document's Clear. Printed by genQc.py. -/
import Derived.Test.YtodhaaaodmcplaaGreatQb
set_option linter.all false
namespace Go.Proofs.YtodhaaaodmcplaaGreat
open Go.RowKit Go.Maps Go.WideMaps
set_option maxRecDepth 100000 in
set_option maxHeartbeats 4000000 in
theorem rclear_p {n0 : Nat} {w : World} {p : Nat} {st : MS} (h : Rs n0 w p st) (hn0 : n0 ≤ w.heap.size) (at0 k0 : Int) : Calls Tryz.prog 27 #[.pointer (some ⟨p, 0, none⟩), .int .i64 at0, .int .i64 k0] w fun e w' => e = .returned (.int .i64 (clearE st at0 k0)) ∧ OutR n0 w w' p (clearM st at0 k0) := by
  have HS := Lib.hid h
  obtain ⟨g, cap, V, hx⟩ := h
  have H1 := Lib.hid hx
  have HZO := Lib.hid (oneC sl0)
  obtain ⟨b, c, hV, _, _, _⟩ := hx.opened hx.pos
  have c0 := hx.at0
  have cv := hx.sl_cell hx.pos
  rw [hV] at cv
  have hn := hx.inv.n
  have hK0 := hx.pos
  obtain ⟨K, hK⟩ : ∃ K, K = (allS st).length := ⟨_, rfl⟩
  rw [← hK] at c0 hK0
  obtain ⟨n, hn1⟩ : ∃ n, n = st.n := ⟨_, rfl⟩
  rw [← hn1] at cv hn
  have HN1 := Lib.hid hn1
  have HKK := Lib.hid hK
  simp only [Nat.zero_mul, Nat.zero_add] at cv
  have j1 : (0 : Int) < K := by omega
  obtain ⟨z, hz⟩ : ∃ z : Nat, (8 : Int) * (n : Int) = z := ⟨8 * n, by push_cast; rfl⟩
  have hwz : IntKind.i64.wrap (z : Int) = z := IntWalk.i64_in _ (by omega)
  clear hx hV hK hn1
  go_enter Tryz.func27, Tryz.ntmps27
  go_upto_region 2 with fail
  by_cases h0 : at0 < 0
  · have d0 : decide (at0 < 0) = true := by simpa using h0
    have HE := Lib.hid (clearB_no (st := st) (p := at0) (n := k0) (by have := HN1.out; omega))
    clear hn
    go_wp2_with fail
    go_ret
    exact ⟨ret_int HE.out.1.symm, by rw [HE.out.2]; exact ⟨HS.out, KR.fresh (Below.refl _ _)⟩⟩
  have d0 : decide (at0 < 0) = false := by simpa using h0
  by_cases h1 : k0 < 0
  · have d1 : decide (k0 < 0) = true := by simpa using h1
    have HE := Lib.hid (clearB_no (st := st) (p := at0) (n := k0) (by have := HN1.out; omega))
    clear hn
    go_wp2_with fail
    go_ret
    exact ⟨ret_int HE.out.1.symm, by rw [HE.out.2]; exact ⟨HS.out, KR.fresh (Below.refl _ _)⟩⟩
  have d1 : decide (k0 < 0) = false := by simpa using h1
  obtain ⟨a, rfl⟩ : ∃ a : Nat, at0 = a := ⟨at0.toNat, by omega⟩
  obtain ⟨k, rfl⟩ : ∃ k : Nat, k0 = k := ⟨k0.toNat, by omega⟩
  clear h0 h1
  by_cases h2 : z < a
  · have d2 : decide (z < a) = true := by simpa using h2
    have HE := Lib.hid (clearB_no (st := st) (p := (a : Int)) (n := (k : Int)) (by have := HN1.out; omega))
    clear hn
    go_wp2_with fail
    go_ret
    exact ⟨ret_int HE.out.1.symm, by rw [HE.out.2]; exact ⟨HS.out, KR.fresh (Below.refl _ _)⟩⟩
  have d2 : decide (z < a) = false := by simpa using h2
  have d2i : decide ((z : Int) < a) = false := by simp; omega
  obtain ⟨y, hy⟩ : ∃ y : Nat, (z : Int) - (a : Int) = y := ⟨z - a, by omega⟩
  have hwy : IntKind.i64.wrap (y : Int) = y := IntWalk.i64_in _ (by omega)
  by_cases h3 : y < k
  · have d3 : decide (y < k) = true := by simpa using h3
    have HE := Lib.hid (clearB_no (st := st) (p := (a : Int)) (n := (k : Int)) (by have := HN1.out; omega))
    clear hn
    go_wp2_with fail
    go_ret
    exact ⟨ret_int HE.out.1.symm, by rw [HE.out.2]; exact ⟨HS.out, KR.fresh (Below.refl _ _)⟩⟩
  have d3 : decide (y < k) = false := by simpa using h3
  have d3i : decide ((y : Int) < k) = false := by simp; omega
  obtain ⟨e, he⟩ : ∃ e : Nat, (a : Int) + (k : Int) = e := ⟨a + k, by push_cast; rfl⟩
  have hwe : IntKind.i64.wrap (e : Int) = e := IntWalk.i64_in _ (by omega)
  have hae : a ≤ e := by omega
  have hez : e ≤ 8 * n := by omega
  have HE := Lib.hid (clearB_yes (st := st) (p := a) (n := k) (by have := HN1.out; omega))
  have HAE : Hid ((a : Int).toNat = a ∧ ((a : Int) + (k : Int)).toNat = e) := Lib.hid (by omega)
  have hn5 : n ≤ 512 := hn.2
  clear hn h2 h3 c0 cv HKK hK0 j1 H1
  go_wp2_with fail
  clear hz hwz hy hwy d0 d1 d2 d2i d3 d3i
  go_loopw [8] (fun v wr => ∃ j : Nat, a ≤ j ∧ j ≤ e ∧ v = .int .i64 j ∧ OutR n0 w wr p { st with now := clearF st.now a j }) (fun v _ => e - (Go.RowKit.intOf v).toNat)
  case atStart => exact ⟨a, Nat.le_refl _, hae, rfl, by rw [clear_none]; exact ⟨HS.out, KR.fresh (Below.refl _ _)⟩⟩
  case round =>
    obtain ⟨j, hj1, hj2, rfl, hO⟩ := hrel
    by_cases hlt : j < e
    · obtain ⟨⟨g, cap, V, hM⟩, hKR⟩ := hO
      have HKR := Lib.hid hKR
      obtain ⟨u, hu⟩ : ∃ u, u = j / 8 := ⟨_, rfl⟩
      obtain ⟨f, hf⟩ : ∃ f, f = j % 8 := ⟨_, rfl⟩
      obtain ⟨hcr, _, _, _⟩ := clear_round (F := st.now) (e := j + 1) (t := f + 1) hj1 (by omega) hu hf (by omega)
      rw [show j + (f + 1 - f) = j + 1 by omega] at hcr
      obtain ⟨F, hF⟩ : ∃ F, F = clearF st.now a j := ⟨_, rfl⟩
      rw [← hF] at hcr hM
      have HCR := Lib.hid hcr
      have HRm := Lib.hid hM
      have hf8 : f < 8 := by omega
      have HU : Hid (u < st.n) := Lib.hid (by have := HN1.out; omega)
      have hq1 : (j : Int).tdiv 8 = (u : Int) := by rw [Int.tdiv_eq_ediv_of_nonneg (by omega)]; omega
      have hr1 : (j : Int).tmod 8 = (f : Int) := by rw [Int.tmod_eq_emod_of_nonneg (by omega)]; omega
      have hw3 : IntKind.i64.wrap (u : Int) = u := IntWalk.i64_in _ (by omega)
      have hw4 : IntKind.i64.wrap (f : Int) = f := IntWalk.i64_in _ (by omega)
      have hwu : IntKind.u64.wrap (f : Int) = f := by rw [IntKind.wrap_u64]; omega
      have i0 : (j : Int) < e := by omega
      have i1 : (0 : Int) ≤ u := by omega
      have i2 : (u : Int) < n := by omega
      obtain ⟨b, c, hV, _, hb2, hr⟩ := hM.opened hM.pos
      have HV := Lib.hid hV
      have HR0 : Hid (wr.rangeAt b (u * 34) (slcC (F u))) := Lib.hid (hr u HU.out)
      have c0 := hM.at0
      have cv := hM.sl_cell hM.pos
      rw [hV] at cv
      simp only [Nat.zero_mul, Nat.zero_add] at cv
      have cv' : wr.cell? ⟨g, 1, none⟩ = some (.slice (some ⟨b, 0, none⟩) n c) := by rw [HN1.out]; exact cv
      have hK0 := hM.pos
      obtain ⟨K, hK⟩ : ∃ K, K = (allS { st with now := F }).length := ⟨_, rfl⟩
      rw [← hK] at c0 hK0
      have HKK := Lib.hid hK
      have j1 : (0 : Int) < K := by omega
      have hmk := (F u).2.m
      have HBA := Lib.hid (bits_andNot hmk (show f ≤ f + 1 by omega) (show f + 1 ≤ 8 by omega))
      have HSH : Hid (∀ w, (binOp .shl 3 (.int .i64 1) (.int .u64 (f : Int))).run Tryz.prog w = .ok (.int .i64 (bitsV f (f + 1))) w) := Lib.hid fun w => run_shlb f hf8 w
      obtain ⟨bv, hbv⟩ : ∃ bv, bv = bitsV f (f + 1) := ⟨_, rfl⟩
      obtain ⟨mk, hmk1⟩ : ∃ mk, mk = (F u).1.m := ⟨_, rfl⟩
      obtain ⟨m2, hm2⟩ : ∃ m2, m2 = clrV mk bv := ⟨_, rfl⟩
      rw [← hbv, ← hmk1, ← hm2] at HBA
      rw [← hbv] at HSH
      have HAN : Hid (∀ w, (binOp .andNot 3 (.int .i64 mk) (.int .i64 bv)).run Tryz.prog w = .ok (.int .i64 m2) w) := Lib.hid fun w => by rw [run_andNot1, HBA.out]
      obtain ⟨kk, hkk⟩ : ∃ kk, kk = (F u).1.k := ⟨_, rfl⟩
      obtain ⟨oo, hoo⟩ : ∃ oo, oo = (F u).1.o := ⟨_, rfl⟩
      have HKO : Hid (KeyOk 32 kk) := Lib.hid (by rw [hkk]; exact (F u).2.key)
      have HCY : Hid (m2 ≠ 0 → slcC (clrS (F u) f (f + 1)) = slC kk oo m2) := Lib.hid fun h => by
        rw [clrS_yes (by omega) (by omega) (by rw [← hbv, ← hmk1, ← hm2]; exact h)]
        unfold slcC clr1
        dsimp only
        rw [← hbv, ← hmk1, ← hm2, hkk, hoo]
      have HCN : Hid (m2 = 0 → slcC (clrS (F u) f (f + 1)) = zS) := Lib.hid fun h => by
        rw [clrS_no (by rw [← hbv, ← hmk1, ← hm2]; exact h)]
        rfl
      have ecs : slcC (F u) = slC kk oo mk := by rw [hkk, hoo, hmk1]; rfl
      rw [ecs] at HR0
      have HSZ : Hid (∀ m, (Tryz.prog.info? 33).map (·.size) = some (slC kk oo m).length) := Lib.hid fun m => by rw [slC_len HKO.out.len]; exact infoSl
      have HLN0 : Hid (∀ m, (slC kk oo m).length = 34) := Lib.hid fun m => slC_len HKO.out.len oo m
      have HLZ : Hid (∀ m, zS.length = (slC kk oo m).length) := Lib.hid fun m => by rw [HLN0.out, zS_len]
      have HON : Hid (∀ m, ∀ v ∈ slC kk oo m, v.oneCell' = true) := Lib.hid fun m => slC_one kk oo m
      obtain ⟨q, hq⟩ : ∃ q, q = wr.heap.size := ⟨_, rfl⟩
      have HQ := Lib.hid hq
      have HBQ : Hid (b ≠ q) := Lib.hid (by rw [hq]; exact Nat.ne_of_lt hb2)
      clear hcr hM hKR hF hu hf hV hb2 hr cv hK hbv hmk1 hm2 hkk hoo ecs hq hmk
      go_upto_region 8 with (first | (refine wpList_load_midG rfl 33 (.tmp 54) rfl b (u * 34) rfl (slC kk oo mk) _ HR0.out Tryz.underlying33 rfl (HSZ.out mk) ?_) | (refine wpList_boxed rfl 33 9 rfl rfl zS (zeroVS _) (.tmp 55) rfl rfl rfl (slC kk oo mk) rfl rfl (HSZ.out mk) (HLZ.out mk) (HON.out mk) ?_; intro w7 hb7 h7 s7))
      rw [← HQ.out] at h7 ⊢
      have B7 := Lib.hid hb7
      have Q7 := Lib.hid h7
      have c33 : w7.cell? ⟨q, 33, none⟩ = some (.int .i64 mk) := by have := range_of h7 33 _ (slC_at HKO.out.len oo mk).2; rwa [Nat.zero_add] at this
      have fz : w7.frozen? ⟨q, 33, none⟩ = false := frozen_of_row w7 q _ _ _ h7
      clear hb7 h7 s7 c0 cv' HR0
      go_upto_region 9 with (first | (refine wpList_binG rfl .shl 3 104 (.const (.int .i64 1)) (.tmp 60) rfl ⟨by simp, by simp⟩ (.int .i64 1) (.int .u64 f) rfl rfl (.int .i64 bv) (HSH.out _) ?_) | (refine wpList_binG rfl .andNot 3 3 (.tmp 57) (.tmp 61) rfl ⟨by simp, by simp⟩ (.int .i64 mk) (.int .i64 bv) rfl rfl (.int .i64 m2) (HAN.out _) ?_))
      obtain ⟨w8, hw8⟩ : ∃ w8, w8 = w7.setCell ⟨q, 33, none⟩ (.int .i64 m2) := ⟨_, rfl⟩
      have Q8 : Hid (w8.heap[q]? = some (.cells (slC kk oo m2).toArray 33 (0, 0))) := Lib.hid (by rw [hw8, heap_setCell_same w7 q _ _ _ _ Q7.out, ← slC_set HKO.out.len oo mk m2]; simp)
      have HBW : Hid (Below wr.heap.size wr w8) := Lib.hid (by rw [hw8]; exact B7.out.trans ((Keeps.setCell (fun k => k = q) w7 ⟨q, 33, none⟩ (.int .i64 m2) rfl).below (fun k e => by rw [e, HQ.out]; exact Nat.le_refl _) B7.out.size))
      rw [← hw8]
      clear hw8 c33 fz Q7 B7 hr1
      have c33 : w8.cell? ⟨q, 33, none⟩ = some (.int .i64 m2) := by have := range_of Q8.out 33 _ (slC_at HKO.out.len oo m2).2; rwa [Nat.zero_add] at this
      by_cases h0 : m2 = 0
      · have HEQ := Lib.hid (HCN.out h0)
        have HQ0 : Hid ((slC kk oo m2).length = zS.length) := Lib.hid (HLZ.out m2).symm
        have HFT : Hid (0 + zS.length ≤ (slC kk oo m2).length) := Lib.hid (by rw [HLN0.out, zS_len]; exact Nat.le_refl _)
        have b0 : (m2 == 0) = true := by simp [h0]
        clear h0
        go_upto_region 11 with (first | (refine wpList_buildG rfl 33 [] rfl [] rfl _ (buildS0 _) ?_) | (refine wpList_store_segK rfl 33 (.tmp 9) (.tmp 67) rfl q 0 rfl zS rfl (slC kk oo m2) 33 Q8.out sizeZ HFT.out HZO.out rfl ?_; intro w9 h9 k9 s9))
        rw [splice_whole _ _ HQ0.out] at h9
        have Q9 := Lib.hid h9
        have HBW : Hid (Below wr.heap.size wr w9) := Lib.hid (HBW.out.trans (k9.below (fun k e => by rw [e, HQ.out]; exact Nat.le_refl _) HBW.out.size))
        have HSZ2 := Lib.hid sizeZ
        have HL2 := Lib.hid zS_len
        have HO2 : Hid (∀ v ∈ zS, v.oneCell' = true) := Lib.hid HZO.out
        clear h9 k9 s9 c33 b0
        have HD : Hid (Rm n0 w9.drew p g cap { st with now := F } V) := Lib.hid (HRm.out.go (HBW.out.trans (below_drewN (Below.refl _ _) 1)))
        obtain ⟨cur, hcur, hlen⟩ := row_blk (by have h := HD.out.sl 0 HD.out.pos; rw [HV.out] at h; exact h)
        have HC := Lib.hid hcur
        have HLN : Hid (u * 34 + 34 ≤ cur.length) := Lib.hid (by have h1 := HU.out; have h2 : st.n * 34 ≤ cur.length := hlen; omega)
        have HT : Hid (∀ W, Keeps (fun k => k = b) w9.drew W → (fun w' : World => (w'.cell? ⟨p, 0, none⟩ = some (.slice (some ⟨g, 0, none⟩) K cap) ∧ w'.cell? ⟨g, 1, none⟩ = some (.slice (some ⟨b, 0, none⟩) n c)) ∧ w'.rangeAt q 0 zS) W) := Lib.hid fun W hk => by
          have h1 := HD.out.sl_cell HD.out.pos
          simp only [Nat.zero_mul, Nat.zero_add] at h1
          rw [HV.out] at h1
          have h1' : w9.drew.cell? ⟨g, 1, none⟩ = some (.slice (some ⟨b, 0, none⟩) n c) := by rw [HN1.out]; exact h1
          have h0' : w9.drew.cell? ⟨p, 0, none⟩ = some (.slice (some ⟨g, 0, none⟩) K cap) := by rw [HKK.out]; exact HD.out.at0
          refine ⟨⟨hk.cell h0' fun e => cells_ne HD.out.cell hcur (by decide) e, hk.cell h1' fun e => ?_⟩, range_of (hk.heap (w := w9.drew) Q9.out fun e => HBQ.out e.symm)⟩
          obtain ⟨_, ds, h2⟩ := own_cells HD.out.row (k := g) rfl
          exact cells_ne h2 hcur (by decide) e
        have HBV : Hid (∀ W, Keeps (fun k => k = b) w9.drew W → W.heap[b]? = some (.cells (splice cur (u * 34) zS).toArray 33 (0, 0)) → Rm n0 W p g cap { st with now := clearF st.now a (j + 1) } V ∧ KR n0 w9.drew W) := Lib.hid fun W hk h2 => by
          have h3 := HD.out.stored (b := b) (c := c) HV.out (clrS (F u) f (f + 1)) HU.out hcur (by rw [HEQ.out]; exact h2) hk
          rw [HCR.out]
          exact h3
        clear hcur hlen
        refine wp_region_held_drew (S := (fun w' : World => (w'.cell? ⟨p, 0, none⟩ = some (.slice (some ⟨g, 0, none⟩) K cap) ∧ w'.cell? ⟨g, 1, none⟩ = some (.slice (some ⟨b, 0, none⟩) n c)) ∧ w'.rangeAt q 0 zS)) follows (HT.out _ (Keeps.refl _ _)) (fun hHeld => ?_)
        refine wpAnyH_take (i := 0) (v := ?_) (by simp only [List.getElem?_toArray, List.getElem?_cons_zero]; rfl) (by kernel_rfl) (by kernel_rfl) (by kernel_rfl) (by intro _ _ _ h; exact h) (Or.inl ⟨by rfl, ?_⟩) hHeld ?_
        rotate_left
        · (intro w hSw; (try dsimp only at hSw); go_simp; try with_reducible rfl)
        try simp only [Act.put, List.setIfInBounds_toArray, List.set_cons_zero, List.set_cons_succ]
        refine wpAnyH_take (i := 1) (v := ?_) (by simp only [List.getElem?_toArray, List.getElem?_cons_zero, List.getElem?_cons_succ]; rfl) (by kernel_rfl) (by kernel_rfl) (by kernel_rfl) (by intro _ _ _ h; exact h) (Or.inl ⟨by rfl, ?_⟩) hHeld ?_
        rotate_left
        · (intro w hSw; (try dsimp only at hSw); go_simp; try with_reducible rfl)
        try simp only [Act.put, List.setIfInBounds_toArray, List.set_cons_zero, List.set_cons_succ]
        refine wpAnyH_take (i := 2) (v := ?_) (by simp only [List.getElem?_toArray, List.getElem?_cons_zero, List.getElem?_cons_succ]; rfl) (by kernel_rfl) (by kernel_rfl) (by kernel_rfl) (by intro _ _ _ h; exact h) (Or.inl ⟨by rfl, ?_⟩) hHeld ?_
        rotate_left
        · (intro w hSw; (try dsimp only at hSw); go_simp; try with_reducible rfl)
        try simp only [Act.put, List.setIfInBounds_toArray, List.set_cons_zero, List.set_cons_succ]
        refine wpAnyH_take (i := 3) (v := ?_) (by simp only [List.getElem?_toArray, List.getElem?_cons_zero, List.getElem?_cons_succ]; rfl) (by kernel_rfl) (by kernel_rfl) (by kernel_rfl) (by intro _ _ _ h; exact h) (Or.inl ⟨by rfl, ?_⟩) hHeld ?_
        rotate_left
        · (intro w hSw; (try dsimp only at hSw); go_simp; try with_reducible rfl)
        try simp only [Act.put, List.setIfInBounds_toArray, List.set_cons_zero, List.set_cons_succ]
        refine wpAnyH_take (i := 4) (v := ?_) (by simp only [List.getElem?_toArray, List.getElem?_cons_zero, List.getElem?_cons_succ]; rfl) (by kernel_rfl) (by kernel_rfl) (by kernel_rfl) (by intro _ _ _ h; exact h) (Or.inl ⟨by rfl, ?_⟩) hHeld ?_
        rotate_left
        · (intro w hSw; (try dsimp only at hSw); go_simp; try with_reducible rfl)
        try simp only [Act.put, List.setIfInBounds_toArray, List.set_cons_zero, List.set_cons_succ]
        refine wpAnyH_take (i := 5) (v := ?_) (by simp only [List.getElem?_toArray, List.getElem?_cons_zero, List.getElem?_cons_succ]; rfl) (by kernel_rfl) (by kernel_rfl) (by kernel_rfl) (by intro _ _ _ h; exact h) (Or.inl ⟨by rfl, ?_⟩) hHeld ?_
        rotate_left
        · (intro w hSw; (try dsimp only at hSw); go_simp; try with_reducible rfl)
        try simp only [Act.put, List.setIfInBounds_toArray, List.set_cons_zero, List.set_cons_succ]
        refine wpAnyH_take (i := 6) (v := ?_) (by simp only [List.getElem?_toArray, List.getElem?_cons_zero, List.getElem?_cons_succ]; rfl) (by kernel_rfl) (by kernel_rfl) (by kernel_rfl) (by intro _ _ _ h; exact h) (Or.inl ⟨by rfl, ?_⟩) hHeld ?_
        rotate_left
        · (intro w hSw; (try dsimp only at hSw); go_simp; try with_reducible rfl)
        try simp only [Act.put, List.setIfInBounds_toArray, List.set_cons_zero, List.set_cons_succ]
        refine wpAnyH_take (i := 7) (v := ?_) (by simp only [List.getElem?_toArray, List.getElem?_cons_zero, List.getElem?_cons_succ]; rfl) (by kernel_rfl) (by kernel_rfl) (by kernel_rfl) (by intro _ _ _ h; exact h) (Or.inl ⟨by rfl, ?_⟩) hHeld ?_
        rotate_left
        · (intro w hSw; (try dsimp only at hSw); go_simp; try with_reducible rfl)
        try simp only [Act.put, List.setIfInBounds_toArray, List.set_cons_zero, List.set_cons_succ]
        refine wpAnyH_take (i := 8) (v := ?_) (by simp only [List.getElem?_toArray, List.getElem?_cons_zero, List.getElem?_cons_succ]; rfl) (by kernel_rfl) (by kernel_rfl) (by kernel_rfl) (by intro _ _ _ h; exact h) (Or.inl ⟨by rfl, ?_⟩) hHeld ?_
        rotate_left
        · (intro w hSw; (try dsimp only at hSw); go_simp; try with_reducible rfl)
        try simp only [Act.put, List.setIfInBounds_toArray, List.set_cons_zero, List.set_cons_succ]
        refine wpAnyH_take (i := 9) (v := _) (by simp only [List.getElem?_toArray, List.getElem?_cons_zero, List.getElem?_cons_succ]; rfl) (by kernel_rfl) (by kernel_rfl) (by kernel_rfl) (by intro _ _ _ h; exact h) (yieldsIf_load_mid (by rfl) 33 (.tmp 9) rfl q 0 rfl zS _ (fun _ h => h.2) Tryz.underlying33 rfl HSZ2.out) hHeld ?_
        try simp only [Act.put, List.setIfInBounds_toArray, List.set_cons_zero, List.set_cons_succ]
        refine wpAnyH_take (i := 10) (v := ?_) (by simp only [List.getElem?_toArray, List.getElem?_cons_zero, List.getElem?_cons_succ]; rfl) (by kernel_rfl) (by kernel_rfl) (by kernel_rfl) (by intro _ _ _ h; exact h) (Or.inl ⟨by rfl, ?_⟩) hHeld ?_
        rotate_left
        · (intro w hSw; (try dsimp only at hSw); go_simp; try with_reducible rfl)
        try simp only [Act.put, List.setIfInBounds_toArray, List.set_cons_zero, List.set_cons_succ]
        refine wpAnyH_ready (rs := [11]) (by kernel_rfl) (by simp) ?_
        refine AllReadyH.cons (by simp only [List.getElem?_toArray, List.getElem?_cons_zero, List.getElem?_cons_succ]; rfl) (fun K hK => ?_) AllReadyH.nil
        rw [if_pos (by rfl)]
        refine wp_store_segK 33 (.tmp 78) (.tmp 77) rfl b (u * 34) rfl zS rfl cur 33 HC.out HSZ2.out (by rw [HL2.out]; exact HLN.out) HO2.out (fun w4 h4 k4 s4 => ?_)
        have M4 := Lib.hid (HBV.out w4 k4 h4)
        have S4 := Lib.hid (HT.out w4 k4)
        clear h4 k4 s4
        refine hK.out _ _ S4.out (fun hHeld => ?_)
        clear hK K
        try simp only [Act.put, List.setIfInBounds_toArray, List.set_cons_zero, List.set_cons_succ]
        refine wpAnyH_done (by kernel_rfl) ?_ _
        clear hHeld
        go_wp2_with fail
        exact ⟨⟨j + 1, by omega, by omega, by push_cast; rfl, ⟨g, cap, V, M4.out.1⟩, HKR.out.trans ((KR.fresh (HBW.out.trans (below_drewN (Below.refl _ _) 1))).trans M4.out.2)⟩, by simp [Go.RowKit.intOf]; omega⟩
      · have HEQ := Lib.hid (HCY.out h0)
        have b0 : (m2 == 0) = false := by simpa using h0
        have HSZ2 := Lib.hid (HSZ.out m2)
        have HL2 := Lib.hid (HLN0.out m2)
        have HO2 := Lib.hid (HON.out m2)
        clear h0
        go_upto_region 11 with fail
        clear c33 b0
        have HD : Hid (Rm n0 w8.drew p g cap { st with now := F } V) := Lib.hid (HRm.out.go (HBW.out.trans (below_drewN (Below.refl _ _) 1)))
        obtain ⟨cur, hcur, hlen⟩ := row_blk (by have h := HD.out.sl 0 HD.out.pos; rw [HV.out] at h; exact h)
        have HC := Lib.hid hcur
        have HLN : Hid (u * 34 + 34 ≤ cur.length) := Lib.hid (by have h1 := HU.out; have h2 : st.n * 34 ≤ cur.length := hlen; omega)
        have HT : Hid (∀ W, Keeps (fun k => k = b) w8.drew W → (fun w' : World => (w'.cell? ⟨p, 0, none⟩ = some (.slice (some ⟨g, 0, none⟩) K cap) ∧ w'.cell? ⟨g, 1, none⟩ = some (.slice (some ⟨b, 0, none⟩) n c)) ∧ w'.rangeAt q 0 (slC kk oo m2)) W) := Lib.hid fun W hk => by
          have h1 := HD.out.sl_cell HD.out.pos
          simp only [Nat.zero_mul, Nat.zero_add] at h1
          rw [HV.out] at h1
          have h1' : w8.drew.cell? ⟨g, 1, none⟩ = some (.slice (some ⟨b, 0, none⟩) n c) := by rw [HN1.out]; exact h1
          have h0' : w8.drew.cell? ⟨p, 0, none⟩ = some (.slice (some ⟨g, 0, none⟩) K cap) := by rw [HKK.out]; exact HD.out.at0
          refine ⟨⟨hk.cell h0' fun e => cells_ne HD.out.cell hcur (by decide) e, hk.cell h1' fun e => ?_⟩, range_of (hk.heap (w := w8.drew) Q8.out fun e => HBQ.out e.symm)⟩
          obtain ⟨_, ds, h2⟩ := own_cells HD.out.row (k := g) rfl
          exact cells_ne h2 hcur (by decide) e
        have HBV : Hid (∀ W, Keeps (fun k => k = b) w8.drew W → W.heap[b]? = some (.cells (splice cur (u * 34) (slC kk oo m2)).toArray 33 (0, 0)) → Rm n0 W p g cap { st with now := clearF st.now a (j + 1) } V ∧ KR n0 w8.drew W) := Lib.hid fun W hk h2 => by
          have h3 := HD.out.stored (b := b) (c := c) HV.out (clrS (F u) f (f + 1)) HU.out hcur (by rw [HEQ.out]; exact h2) hk
          rw [HCR.out]
          exact h3
        clear hcur hlen
        refine wp_region_held_drew (S := (fun w' : World => (w'.cell? ⟨p, 0, none⟩ = some (.slice (some ⟨g, 0, none⟩) K cap) ∧ w'.cell? ⟨g, 1, none⟩ = some (.slice (some ⟨b, 0, none⟩) n c)) ∧ w'.rangeAt q 0 (slC kk oo m2))) follows (HT.out _ (Keeps.refl _ _)) (fun hHeld => ?_)
        refine wpAnyH_take (i := 0) (v := ?_) (by simp only [List.getElem?_toArray, List.getElem?_cons_zero]; rfl) (by kernel_rfl) (by kernel_rfl) (by kernel_rfl) (by intro _ _ _ h; exact h) (Or.inl ⟨by rfl, ?_⟩) hHeld ?_
        rotate_left
        · (intro w hSw; (try dsimp only at hSw); go_simp; try with_reducible rfl)
        try simp only [Act.put, List.setIfInBounds_toArray, List.set_cons_zero, List.set_cons_succ]
        refine wpAnyH_take (i := 1) (v := ?_) (by simp only [List.getElem?_toArray, List.getElem?_cons_zero, List.getElem?_cons_succ]; rfl) (by kernel_rfl) (by kernel_rfl) (by kernel_rfl) (by intro _ _ _ h; exact h) (Or.inl ⟨by rfl, ?_⟩) hHeld ?_
        rotate_left
        · (intro w hSw; (try dsimp only at hSw); go_simp; try with_reducible rfl)
        try simp only [Act.put, List.setIfInBounds_toArray, List.set_cons_zero, List.set_cons_succ]
        refine wpAnyH_take (i := 2) (v := ?_) (by simp only [List.getElem?_toArray, List.getElem?_cons_zero, List.getElem?_cons_succ]; rfl) (by kernel_rfl) (by kernel_rfl) (by kernel_rfl) (by intro _ _ _ h; exact h) (Or.inl ⟨by rfl, ?_⟩) hHeld ?_
        rotate_left
        · (intro w hSw; (try dsimp only at hSw); go_simp; try with_reducible rfl)
        try simp only [Act.put, List.setIfInBounds_toArray, List.set_cons_zero, List.set_cons_succ]
        refine wpAnyH_take (i := 3) (v := ?_) (by simp only [List.getElem?_toArray, List.getElem?_cons_zero, List.getElem?_cons_succ]; rfl) (by kernel_rfl) (by kernel_rfl) (by kernel_rfl) (by intro _ _ _ h; exact h) (Or.inl ⟨by rfl, ?_⟩) hHeld ?_
        rotate_left
        · (intro w hSw; (try dsimp only at hSw); go_simp; try with_reducible rfl)
        try simp only [Act.put, List.setIfInBounds_toArray, List.set_cons_zero, List.set_cons_succ]
        refine wpAnyH_take (i := 4) (v := ?_) (by simp only [List.getElem?_toArray, List.getElem?_cons_zero, List.getElem?_cons_succ]; rfl) (by kernel_rfl) (by kernel_rfl) (by kernel_rfl) (by intro _ _ _ h; exact h) (Or.inl ⟨by rfl, ?_⟩) hHeld ?_
        rotate_left
        · (intro w hSw; (try dsimp only at hSw); go_simp; try with_reducible rfl)
        try simp only [Act.put, List.setIfInBounds_toArray, List.set_cons_zero, List.set_cons_succ]
        refine wpAnyH_take (i := 5) (v := ?_) (by simp only [List.getElem?_toArray, List.getElem?_cons_zero, List.getElem?_cons_succ]; rfl) (by kernel_rfl) (by kernel_rfl) (by kernel_rfl) (by intro _ _ _ h; exact h) (Or.inl ⟨by rfl, ?_⟩) hHeld ?_
        rotate_left
        · (intro w hSw; (try dsimp only at hSw); go_simp; try with_reducible rfl)
        try simp only [Act.put, List.setIfInBounds_toArray, List.set_cons_zero, List.set_cons_succ]
        refine wpAnyH_take (i := 6) (v := ?_) (by simp only [List.getElem?_toArray, List.getElem?_cons_zero, List.getElem?_cons_succ]; rfl) (by kernel_rfl) (by kernel_rfl) (by kernel_rfl) (by intro _ _ _ h; exact h) (Or.inl ⟨by rfl, ?_⟩) hHeld ?_
        rotate_left
        · (intro w hSw; (try dsimp only at hSw); go_simp; try with_reducible rfl)
        try simp only [Act.put, List.setIfInBounds_toArray, List.set_cons_zero, List.set_cons_succ]
        refine wpAnyH_take (i := 7) (v := ?_) (by simp only [List.getElem?_toArray, List.getElem?_cons_zero, List.getElem?_cons_succ]; rfl) (by kernel_rfl) (by kernel_rfl) (by kernel_rfl) (by intro _ _ _ h; exact h) (Or.inl ⟨by rfl, ?_⟩) hHeld ?_
        rotate_left
        · (intro w hSw; (try dsimp only at hSw); go_simp; try with_reducible rfl)
        try simp only [Act.put, List.setIfInBounds_toArray, List.set_cons_zero, List.set_cons_succ]
        refine wpAnyH_take (i := 8) (v := ?_) (by simp only [List.getElem?_toArray, List.getElem?_cons_zero, List.getElem?_cons_succ]; rfl) (by kernel_rfl) (by kernel_rfl) (by kernel_rfl) (by intro _ _ _ h; exact h) (Or.inl ⟨by rfl, ?_⟩) hHeld ?_
        rotate_left
        · (intro w hSw; (try dsimp only at hSw); go_simp; try with_reducible rfl)
        try simp only [Act.put, List.setIfInBounds_toArray, List.set_cons_zero, List.set_cons_succ]
        refine wpAnyH_take (i := 9) (v := _) (by simp only [List.getElem?_toArray, List.getElem?_cons_zero, List.getElem?_cons_succ]; rfl) (by kernel_rfl) (by kernel_rfl) (by kernel_rfl) (by intro _ _ _ h; exact h) (yieldsIf_load_mid (by rfl) 33 (.tmp 9) rfl q 0 rfl (slC kk oo m2) _ (fun _ h => h.2) Tryz.underlying33 rfl HSZ2.out) hHeld ?_
        try simp only [Act.put, List.setIfInBounds_toArray, List.set_cons_zero, List.set_cons_succ]
        refine wpAnyH_take (i := 10) (v := ?_) (by simp only [List.getElem?_toArray, List.getElem?_cons_zero, List.getElem?_cons_succ]; rfl) (by kernel_rfl) (by kernel_rfl) (by kernel_rfl) (by intro _ _ _ h; exact h) (Or.inl ⟨by rfl, ?_⟩) hHeld ?_
        rotate_left
        · (intro w hSw; (try dsimp only at hSw); go_simp; try with_reducible rfl)
        try simp only [Act.put, List.setIfInBounds_toArray, List.set_cons_zero, List.set_cons_succ]
        refine wpAnyH_ready (rs := [11]) (by kernel_rfl) (by simp) ?_
        refine AllReadyH.cons (by simp only [List.getElem?_toArray, List.getElem?_cons_zero, List.getElem?_cons_succ]; rfl) (fun K hK => ?_) AllReadyH.nil
        rw [if_pos (by rfl)]
        refine wp_store_segK 33 (.tmp 78) (.tmp 77) rfl b (u * 34) rfl (slC kk oo m2) rfl cur 33 HC.out HSZ2.out (by rw [HL2.out]; exact HLN.out) HO2.out (fun w4 h4 k4 s4 => ?_)
        have M4 := Lib.hid (HBV.out w4 k4 h4)
        have S4 := Lib.hid (HT.out w4 k4)
        clear h4 k4 s4
        refine hK.out _ _ S4.out (fun hHeld => ?_)
        clear hK K
        try simp only [Act.put, List.setIfInBounds_toArray, List.set_cons_zero, List.set_cons_succ]
        refine wpAnyH_done (by kernel_rfl) ?_ _
        clear hHeld
        go_wp2_with fail
        exact ⟨⟨j + 1, by omega, by omega, by push_cast; rfl, ⟨g, cap, V, M4.out.1⟩, HKR.out.trans ((KR.fresh (HBW.out.trans (below_drewN (Below.refl _ _) 1))).trans M4.out.2)⟩, by simp [Go.RowKit.intOf]; omega⟩
    · obtain rfl : j = e := by omega
      have HO := Lib.hid hO
      clear hO
      go_wp2_with fail
      go_ret
      exact ⟨ret_int HE.out.1.symm, by rw [HE.out.2, HAE.out.1, HAE.out.2]; exact HO.out⟩
end Go.Proofs.YtodhaaaodmcplaaGreat
