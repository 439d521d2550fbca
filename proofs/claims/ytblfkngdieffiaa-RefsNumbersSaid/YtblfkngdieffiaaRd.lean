/- Layer 24 (refs): Delta's differences in a map. -/
import Derived.Test.YtblfkngdieffiaaRb
namespace Go.Proofs.Ytblfkngdieffiaa
open Go.RowKit Go.Maps Go.WideMaps
/-- What a row of counts adds, times s. -/
def csN (s : Int) (L : Nat → ElC) : Nat → List Ct
  | 0 => []
  | n + 1 => csN s L n ++ [⟨(L n).1.k, wrap64 (s * (L n).1.r)⟩]
theorem sizeC0 (x : ElC) : (Try.prog.info? 45).map (·.size) = some (cellsC x).length := by
  rw [lenC]; kernel_rfl
theorem ct_k (c : ElC) {w : World} {b : Nat} (h : w.rangeAt b 0 (cellsC c)) : w.rangeAt b 0 (u8l c.1.k) := by
  intro j v hj
  have hlt : j < 32 := by rw [← c.2.key.len, ← u8l_len]; exact (List.getElem?_eq_some_iff.1 hj).1
  refine h j v ?_
  unfold cellsC
  rw [List.getElem?_append_left (by rw [u8l_len, c.2.key.len]; exact hlt)]
  exact hj
theorem ct_r (c : ElC) {w : World} {b : Nat} (h : w.rangeAt b 0 (cellsC c)) : w.cell? ⟨b, 32, none⟩ = some (.int .i64 c.1.r) := by
  have := h 32 (.int .i64 c.1.r) (by
    unfold cellsC
    rw [List.getElem?_append_right (by rw [u8l_len, c.2.key.len]; omega), u8l_len, c.2.key.len]
    rfl)
  rwa [Nat.zero_add] at this
theorem sub_wrap (a x : Int) : wrap64 (a - x) = wrap64 (a + wrap64 (-1 * x)) := by unfold wrap64; omega
theorem add_wrap (a x : Int) : wrap64 (a + x) = wrap64 (a + wrap64 (1 * x)) := by unfold wrap64; omega
set_option maxRecDepth 100000 in
set_option maxHeartbeats 8000000 in
theorem delta16 (P Q : Nat → ElC) (A1 A2 : Option Addr) (n c n2 c2 : Nat) (w : World) (hn : n ≤ 137438953000) (hn2 : n2 ≤ 137438953000) (ha : SArr w w.heap.size A1 n 33 fun i => cellsC (P i)) (ha2 : SArr w w.heap.size A2 n2 33 fun i => cellsC (Q i)) :
    Calls Try.prog 16 #[.slice A1 n c, .slice A2 n2 c2] w fun e w' => RowFinN (csN (-1) P n ++ csN 1 Q n2) (n + n2) e w w' := by
  have HA := Lib.hid ha
  have HA2 := Lib.hid ha2
  have HMM := @run_makeMap Try.prog
  clear ha ha2
  go_enter Try.func16, Try.ntmps16
  go_wp2_with fail
  have HT : Hid (CountMap w.heap.size 0 [] (w.alloc (.map #[] 0))) := Lib.hid (by
    have := tm_made (P := Try.prog) w 35 3 32
    exact this.congr fun ks _ => rfl)
  have HB : Hid (Below w.heap.size w (w.alloc (.map #[] 0))) := Lib.hid ((Below.refl _ _).alloc (Nat.le_refl _) _)
  obtain ⟨B, hB⟩ : ∃ B, B = w.heap.size := ⟨_, rfl⟩
  rw [← hB] at HT ⊢
  have HBL : Hid (w.heap.size ≤ B) := Lib.hid (Nat.le_of_eq hB.symm)
  clear hB HMM
  go_loopw [13] (fun i wr => ∃ k n' : Nat, k ≤ n ∧ n' ≤ k ∧ i = .int .i64 k ∧ CountMap B n' (csN (-1) P k) wr ∧ Below w.heap.size w wr) (fun i _ => n - (intOf i).toNat)
  case atStart => exact ⟨0, 0, Nat.zero_le _, Nat.le_refl _, rfl, HT.out, HB.out⟩
  case round =>
    clear HT HB
    obtain ⟨k, n', hk, hn', rfl, ht, hb⟩ := hrel
    have HT := Lib.hid ht
    have HB := Lib.hid hb
    clear ht hb
    by_cases hlt : k < n
    · obtain ⟨b, off, rfl, hb, hc⟩ := (HA.out.below HB.out (Nat.le_refl _)) (by omega)
      have HC : Hid (wr.rangeAt b (off + k * 33) (cellsC (P k))) := Lib.hid (hc k hlt)
      have HSZ := Lib.hid (sizeC0 (P k))
      have HLN := Lib.hid (lenC (P k))
      have HON := Lib.hid (oneC (P k))
      have HSK := Lib.hid fun (W : World) (q : Nat) => ct_k (P k) (w := W) (b := q)
      have HSR := Lib.hid fun (W : World) (q : Nat) => ct_r (P k) (w := W) (b := q)
      have HKO := Lib.hid (P k).2.key
      have HC2 : Hid (csN (-1) P (k + 1) = (csN (-1) P k) ++ [⟨(P k).1.k, wrap64 (-1 * (P k).1.r)⟩]) := Lib.hid (rfl)
      obtain ⟨x, hx⟩ : ∃ x, x = (P k).1.r := ⟨_, rfl⟩
      obtain ⟨sk, hsk⟩ : ∃ sk, sk = (P k).1.k := ⟨_, rfl⟩
      obtain ⟨cs, hcs⟩ : ∃ cs, cs = cellsC (P k) := ⟨_, rfl⟩
      rw [← hcs] at HC HSZ HLN HON HSK HSR
      rw [← hsk, ← hx] at HC2
      rw [← hsk] at HSK HKO
      rw [← hx] at HSR
      obtain ⟨cz, hcz⟩ : ∃ cz, cz = csN (-1) P k := ⟨_, rfl⟩
      rw [← hcz] at HC2 HT
      have i1 : (0 : Int) ≤ k := by omega
      have i2 : (k : Int) < n := by omega
      clear hc hcs hsk hx hcz
      go_upto_region 5 with (first | (refine wpList_load_midG rfl 45 (.tmp 15) rfl b (off + k * 33) rfl cs _ HC.out Try.underlying45 rfl HSZ.out ?_) | (refine wpList_boxed rfl 45 7 rfl rfl zC (zeroVC _) (.tmp 16) rfl rfl rfl cs rfl rfl HSZ.out (by rw [HLN.out, zlC]) HON.out ?_; intro w2 hb2 hh2 hs2))
      obtain ⟨b5, hb5⟩ : ∃ b5, b5 = wr.heap.size := ⟨_, rfl⟩
      rw [← hb5] at hh2 ⊢
      have R5 := Lib.hid (range_of hh2)
      have HT2 : Hid (CountMap B n' cz w2) := Lib.hid (HT.out.keeps (hb2.block B (Tm.lt HT.out)))
      have HB2 := Lib.hid (HB.out.trans (hb2.mono HB.out.size))
      have HNB : Hid (b5 ≠ B) := Lib.hid (by have := Tm.lt HT.out; omega)
      have HLT5 := Lib.hid (heap_lt hh2)
      clear hb2 hs2 hh2 hb5
      have HS : Hid (∀ W : World, W.heap[b5]? = w2.heap[b5]? → W.rangeAt b5 0 (u8l sk) ∧ W.cell? ⟨b5, 32, none⟩ = some (.int .i64 x)) := Lib.hid fun W h => by
        have : W.rangeAt b5 0 cs := fun j v hj => by
          have := R5.out j v hj
          rw [← this]
          exact World.cell?_of_block h
        exact ⟨HSK.out W b5 this, HSR.out W b5 this⟩
      have HKEY := Lib.hid (keyK HKO.out)
      have HKL : Hid ((Try.prog.info? 35).map (·.size) = some (u8l sk).length) := Lib.hid (by rw [u8l_len, HKO.out.len]; exact infoKey)
      have HT3 : Hid (CountMap B n' cz w2.drew) := Lib.hid (HT2.out.keeps rfl)
      obtain ⟨st, w3, r3, t3, g3, h3⟩ := Tm.entry HT3.out lawK Try.underlying52 Try.underlying3 zero3 (by unfold maxLen; omega) HKO.out HKEY.out (by rw [Lf_at]; exact wf_wrap _)
      rw [Lf_at] at r3 t3
      obtain ⟨r, hr⟩ : ∃ r, r = wrap64 (sumT cz sk) := ⟨_, rfl⟩
      have HR := Lib.hid hr
      rw [← hr] at r3 t3
      have hw : IntKind.i64.wrap (r - x) = wrap64 (r - x) := IntWalk.i64_left _
      obtain ⟨w4, r4, t4, g4⟩ := h3 w3 (wrap64 (r - x)) (wf_wrap _) rfl
      have RUN3 := Lib.hid r3
      have RUN4 := Lib.hid r4
      have T3 := Lib.hid t3
      have S3 := Lib.hid (HS.out w3 (g3.block b5 HLT5.out (by simpa using HNB.out)))
      have S4 := Lib.hid (HS.out w4 ((g4.block b5 (Nat.lt_of_lt_of_le HLT5.out g3.size) (by simpa using HNB.out)).trans (g3.block b5 HLT5.out (by simpa using HNB.out))))
      have T4 : Hid (CountMap B (n' + 1) (csN (-1) P (k + 1)) w4) := Lib.hid (by
        rw [HC2.out]
        refine Tm.congr t4 fun ks _ => ?_
        rw [HR.out, sub_wrap]
        exact Lf_add cz sk _ ks)
      have B4 : Hid (Below w.heap.size w w4) := Lib.hid (((HB2.out.trans ((Below.refl _ w2).drew)).grown g3 HB2.out.size (fun q e => by cases e; exact HBL.out)).grown g4 (Nat.le_trans HB2.out.size g3.size) (fun q e => by cases e; exact HBL.out))
      have S2 := Lib.hid (HS.out w2.drew rfl)
      have L2 := Lib.hid (Lf_at cz sk)
      clear r3 r4 t3 t4 g3 g4 h3 hr
      refine wp_region_held_drew (S := fun w' => w'.rangeAt b5 0 (u8l sk) ∧ w'.cell? ⟨b5, 32, none⟩ = some (.int .i64 x)) (by kernel_rfl) S2.out (fun hHeld => ?_)
      refine wpAnyH_take (i := 0) (v := ?_) (by simp only [List.getElem?_toArray, List.getElem?_cons_zero]; rfl) (by kernel_rfl) (by kernel_rfl) (by kernel_rfl) (by intro _ _ _ h; exact h) (Or.inl ⟨by rfl, ?_⟩) hHeld ?_
      rotate_left
      · (intro w hSw; (try dsimp only at hSw); go_simp; try with_reducible rfl)
      try simp only [Act.put, List.setIfInBounds_toArray, List.set_cons_zero, List.set_cons_succ]
      refine wpAnyH_take (i := 1) (v := ?_) (by simp only [List.getElem?_toArray, List.getElem?_cons_zero, List.getElem?_cons_succ]; rfl) (by kernel_rfl) (by kernel_rfl) (by kernel_rfl) (by intro _ _ _ h; exact h) (Or.inl ⟨by rfl, ?_⟩) hHeld ?_
      rotate_left
      · (intro w hSw; (try dsimp only at hSw); go_simp; try with_reducible rfl)
      try simp only [Act.put, List.setIfInBounds_toArray, List.set_cons_zero, List.set_cons_succ]
      refine wpAnyH_take (i := 2) (v := _) (by simp only [List.getElem?_toArray, List.getElem?_cons_zero, List.getElem?_cons_succ]; rfl) (by kernel_rfl) (by kernel_rfl) (by kernel_rfl) (by intro _ _ _ h; exact h) (yieldsIf_load_mid (by rfl) 35 (.tmp 18) rfl b5 0 rfl (u8l sk) _ (fun _ h => h.1) Try.underlying35 rfl HKL.out) hHeld ?_
      try simp only [Act.put, List.setIfInBounds_toArray, List.set_cons_zero, List.set_cons_succ]
      refine wpAnyH_take (i := 4) (v := ?_) (by simp only [List.getElem?_toArray, List.getElem?_cons_zero, List.getElem?_cons_succ]; rfl) (by kernel_rfl) (by kernel_rfl) (by kernel_rfl) (by intro _ _ _ h; exact h) (Or.inl ⟨by rfl, ?_⟩) hHeld ?_
      rotate_left
      · (intro w hSw; (try dsimp only at hSw); go_simp; try with_reducible rfl)
      try simp only [Act.put, List.setIfInBounds_toArray, List.set_cons_zero, List.set_cons_succ]
      refine wpAnyH_take (i := 5) (v := ?_) (by simp only [List.getElem?_toArray, List.getElem?_cons_zero, List.getElem?_cons_succ]; rfl) (by kernel_rfl) (by kernel_rfl) (by kernel_rfl) (by intro _ _ _ h; exact h) (Or.inl ⟨by rfl, ?_⟩) hHeld ?_
      rotate_left
      · (intro w hSw; have hSw := hSw.2; go_simp; try with_reducible rfl)
      try simp only [Act.put, List.setIfInBounds_toArray, List.set_cons_zero, List.set_cons_succ]
      refine wpAnyH_ready (rs := [3, 7]) (by kernel_rfl) (by simp) ?_
      refine AllReadyH.cons (by simp only [List.getElem?_toArray, List.getElem?_cons_zero, List.getElem?_cons_succ]; rfl) (fun K hK => ?_) (AllReadyH.cons (by simp only [List.getElem?_toArray, List.getElem?_cons_zero, List.getElem?_cons_succ]; rfl) (fun K hK => ?_) AllReadyH.nil)
      · rw [if_pos (by rfl)]
        refine wp_tm_look _ (.tmp 17) (.tmp 19) 52 35 3 rfl HT3.out lawK Try.underlying52 Try.underlying3 zero3 rfl sk rfl HKO.out HKEY.out r (L2.out.trans HR.out.symm) ?_
        refine hK.out _ _ S2.out (fun hHeld => ?_)
        clear hK K
        try simp only [Act.put, List.setIfInBounds_toArray, List.set_cons_zero, List.set_cons_succ]
        refine wpAnyH_take (i := 6) (v := ?_) (by simp only [List.getElem?_toArray, List.getElem?_cons_zero, List.getElem?_cons_succ]; rfl) (by kernel_rfl) (by kernel_rfl) (by kernel_rfl) (by intro _ _ _ h; exact h) (Or.inl ⟨by rfl, ?_⟩) hHeld ?_
        rotate_left
        · (intro w hSw; (try dsimp only at hSw); go_simp; try with_reducible rfl)
        try simp only [Act.put, List.setIfInBounds_toArray, List.set_cons_zero, List.set_cons_succ]
        refine wpAnyH_ready (rs := [7]) (by kernel_rfl) (by simp) ?_
        refine AllReadyH.cons (by simp only [List.getElem?_toArray, List.getElem?_cons_zero, List.getElem?_cons_succ]; rfl) (fun K hK => ?_) AllReadyH.nil
        rw [if_pos (by rfl)]
        refine wp_tm_entry _ (.tmp 17) (.tmp 19) 52 rfl (kv sk) _ w3 RUN3.out rfl rfl ?_
        refine hK.out _ _ S3.out (fun hHeld => ?_)
        clear hK K
        try simp only [Act.put, List.setIfInBounds_toArray, List.set_cons_zero, List.set_cons_succ]
        refine wpAnyH_take (i := 8) (v := ?_) (by simp only [List.getElem?_toArray, List.getElem?_cons_zero, List.getElem?_cons_succ]; rfl) (by kernel_rfl) (by kernel_rfl) (by kernel_rfl) (by intro _ _ _ h; exact h) (Or.inl ⟨by rfl, ?_⟩) hHeld ?_
        rotate_left
        · (intro w hSw; (try dsimp only at hSw); go_simp; try with_reducible rfl)
        try simp only [Act.put, List.setIfInBounds_toArray, List.set_cons_zero, List.set_cons_succ]
        refine wpAnyH_ready (rs := [9]) (by kernel_rfl) (by simp) ?_
        refine AllReadyH.cons (by simp only [List.getElem?_toArray, List.getElem?_cons_zero, List.getElem?_cons_succ]; rfl) (fun K hK => ?_) AllReadyH.nil
        rw [if_pos (by rfl)]
        refine wp_tm_entryStore _ (.tmp 17) (.tmp 25) (.tmp 23) 52 rfl (goInt st) (.int .i64 (wrap64 (r - x))) w4 RUN4.out rfl rfl rfl ?_
        refine hK.out _ _ S4.out (fun hHeld => ?_)
        clear hK K
        try simp only [Act.put, List.setIfInBounds_toArray, List.set_cons_zero, List.set_cons_succ]
        refine wpAnyH_done (by kernel_rfl) ?_ _
        clear hHeld
        go_wp2_with fail
        go_roundw
        case rel => exact ⟨k + 1, n' + 1, by omega, by omega, by go_num, T4.out, B4.out⟩
        case measure => simp [intOf]; omega
      · rw [if_pos (by rfl)]
        refine wp_tm_entry _ (.tmp 17) (.tmp 19) 52 rfl (kv sk) _ w3 RUN3.out rfl rfl ?_
        refine hK.out _ _ S3.out (fun hHeld => ?_)
        clear hK K
        try simp only [Act.put, List.setIfInBounds_toArray, List.set_cons_zero, List.set_cons_succ]
        refine wpAnyH_take (i := 8) (v := ?_) (by simp only [List.getElem?_toArray, List.getElem?_cons_zero, List.getElem?_cons_succ]; rfl) (by kernel_rfl) (by kernel_rfl) (by kernel_rfl) (by intro _ _ _ h; exact h) (Or.inl ⟨by rfl, ?_⟩) hHeld ?_
        rotate_left
        · (intro w hSw; (try dsimp only at hSw); go_simp; try with_reducible rfl)
        try simp only [Act.put, List.setIfInBounds_toArray, List.set_cons_zero, List.set_cons_succ]
        refine wpAnyH_ready (rs := [3]) (by kernel_rfl) (by simp) ?_
        refine AllReadyH.cons (by simp only [List.getElem?_toArray, List.getElem?_cons_zero, List.getElem?_cons_succ]; rfl) (fun K hK => ?_) AllReadyH.nil
        rw [if_pos (by rfl)]
        refine wp_tm_look _ (.tmp 17) (.tmp 19) 52 35 3 rfl T3.out lawK Try.underlying52 Try.underlying3 zero3 rfl sk rfl HKO.out HKEY.out r (by simp) ?_
        refine hK.out _ _ S3.out (fun hHeld => ?_)
        clear hK K
        try simp only [Act.put, List.setIfInBounds_toArray, List.set_cons_zero, List.set_cons_succ]
        refine wpAnyH_take (i := 6) (v := ?_) (by simp only [List.getElem?_toArray, List.getElem?_cons_zero, List.getElem?_cons_succ]; rfl) (by kernel_rfl) (by kernel_rfl) (by kernel_rfl) (by intro _ _ _ h; exact h) (Or.inl ⟨by rfl, ?_⟩) hHeld ?_
        rotate_left
        · (intro w hSw; (try dsimp only at hSw); go_simp; try with_reducible rfl)
        try simp only [Act.put, List.setIfInBounds_toArray, List.set_cons_zero, List.set_cons_succ]
        refine wpAnyH_ready (rs := [9]) (by kernel_rfl) (by simp) ?_
        refine AllReadyH.cons (by simp only [List.getElem?_toArray, List.getElem?_cons_zero, List.getElem?_cons_succ]; rfl) (fun K hK => ?_) AllReadyH.nil
        rw [if_pos (by rfl)]
        refine wp_tm_entryStore _ (.tmp 17) (.tmp 25) (.tmp 23) 52 rfl (goInt st) (.int .i64 (wrap64 (r - x))) w4 RUN4.out rfl rfl rfl ?_
        refine hK.out _ _ S4.out (fun hHeld => ?_)
        clear hK K
        try simp only [Act.put, List.setIfInBounds_toArray, List.set_cons_zero, List.set_cons_succ]
        refine wpAnyH_done (by kernel_rfl) ?_ _
        clear hHeld
        go_wp2_with fail
        go_roundw
        case rel => exact ⟨k + 1, n' + 1, by omega, by omega, by go_num, T4.out, B4.out⟩
        case measure => simp [intOf]; omega
    · obtain ⟨rfl⟩ : k = n := by omega
      have HN := Lib.hid hn'
      clear hlt
      go_wp2_with fail
      go_loopw [29] (fun i wr => ∃ k n' : Nat, k ≤ n2 ∧ n' ≤ n + k ∧ i = .int .i64 k ∧ CountMap B n' (csN (-1) P n ++ csN 1 Q k) wr ∧ Below w.heap.size w wr) (fun i _ => n2 - (intOf i).toNat)
      case atStart => exact ⟨0, n', Nat.zero_le _, HN.out, rfl, by rw [csN, List.append_nil]; exact HT.out, HB.out⟩
      case round =>
        clear HT HB HN
        obtain ⟨k, n', hk, hn', rfl, ht, hb⟩ := hrel
        have HT := Lib.hid ht
        have HB := Lib.hid hb
        clear ht hb
        by_cases hlt : k < n2
        · obtain ⟨b, off, rfl, hb, hc⟩ := (HA2.out.below HB.out (Nat.le_refl _)) (by omega)
          have HC : Hid (wr.rangeAt b (off + k * 33) (cellsC (Q k))) := Lib.hid (hc k hlt)
          have HSZ := Lib.hid (sizeC0 (Q k))
          have HLN := Lib.hid (lenC (Q k))
          have HON := Lib.hid (oneC (Q k))
          have HSK := Lib.hid fun (W : World) (q : Nat) => ct_k (Q k) (w := W) (b := q)
          have HSR := Lib.hid fun (W : World) (q : Nat) => ct_r (Q k) (w := W) (b := q)
          have HKO := Lib.hid (Q k).2.key
          have HC2 : Hid (csN (-1) P n ++ csN 1 Q (k + 1) = (csN (-1) P n ++ csN 1 Q k) ++ [⟨(Q k).1.k, wrap64 (1 * (Q k).1.r)⟩]) := Lib.hid (by rw [csN, List.append_assoc])
          obtain ⟨x, hx⟩ : ∃ x, x = (Q k).1.r := ⟨_, rfl⟩
          obtain ⟨sk, hsk⟩ : ∃ sk, sk = (Q k).1.k := ⟨_, rfl⟩
          obtain ⟨cs, hcs⟩ : ∃ cs, cs = cellsC (Q k) := ⟨_, rfl⟩
          rw [← hcs] at HC HSZ HLN HON HSK HSR
          rw [← hsk, ← hx] at HC2
          rw [← hsk] at HSK HKO
          rw [← hx] at HSR
          obtain ⟨cz, hcz⟩ : ∃ cz, cz = csN (-1) P n ++ csN 1 Q k := ⟨_, rfl⟩
          rw [← hcz] at HC2 HT
          have i1 : (0 : Int) ≤ k := by omega
          have i2 : (k : Int) < n2 := by omega
          clear hc hcs hsk hx hcz
          go_upto_region 10 with (first | (refine wpList_load_midG rfl 45 (.tmp 31) rfl b (off + k * 33) rfl cs _ HC.out Try.underlying45 rfl HSZ.out ?_) | (refine wpList_boxed rfl 45 9 rfl rfl zC (zeroVC _) (.tmp 32) rfl rfl rfl cs rfl rfl HSZ.out (by rw [HLN.out, zlC]) HON.out ?_; intro w2 hb2 hh2 hs2))
          obtain ⟨b5, hb5⟩ : ∃ b5, b5 = wr.heap.size := ⟨_, rfl⟩
          rw [← hb5] at hh2 ⊢
          have R5 := Lib.hid (range_of hh2)
          have HT2 : Hid (CountMap B n' cz w2) := Lib.hid (HT.out.keeps (hb2.block B (Tm.lt HT.out)))
          have HB2 := Lib.hid (HB.out.trans (hb2.mono HB.out.size))
          have HNB : Hid (b5 ≠ B) := Lib.hid (by have := Tm.lt HT.out; omega)
          have HLT5 := Lib.hid (heap_lt hh2)
          clear hb2 hs2 hh2 hb5
          have HS : Hid (∀ W : World, W.heap[b5]? = w2.heap[b5]? → W.rangeAt b5 0 (u8l sk) ∧ W.cell? ⟨b5, 32, none⟩ = some (.int .i64 x)) := Lib.hid fun W h => by
            have : W.rangeAt b5 0 cs := fun j v hj => by
              have := R5.out j v hj
              rw [← this]
              exact World.cell?_of_block h
            exact ⟨HSK.out W b5 this, HSR.out W b5 this⟩
          have HKEY := Lib.hid (keyK HKO.out)
          have HKL : Hid ((Try.prog.info? 35).map (·.size) = some (u8l sk).length) := Lib.hid (by rw [u8l_len, HKO.out.len]; exact infoKey)
          have HT3 : Hid (CountMap B n' cz w2.drew) := Lib.hid (HT2.out.keeps rfl)
          obtain ⟨st, w3, r3, t3, g3, h3⟩ := Tm.entry HT3.out lawK Try.underlying52 Try.underlying3 zero3 (by unfold maxLen; omega) HKO.out HKEY.out (by rw [Lf_at]; exact wf_wrap _)
          rw [Lf_at] at r3 t3
          obtain ⟨r, hr⟩ : ∃ r, r = wrap64 (sumT cz sk) := ⟨_, rfl⟩
          have HR := Lib.hid hr
          rw [← hr] at r3 t3
          have hw : IntKind.i64.wrap (r + x) = wrap64 (r + x) := IntWalk.i64_left _
          obtain ⟨w4, r4, t4, g4⟩ := h3 w3 (wrap64 (r + x)) (wf_wrap _) rfl
          have RUN3 := Lib.hid r3
          have RUN4 := Lib.hid r4
          have T3 := Lib.hid t3
          have S3 := Lib.hid (HS.out w3 (g3.block b5 HLT5.out (by simpa using HNB.out)))
          have S4 := Lib.hid (HS.out w4 ((g4.block b5 (Nat.lt_of_lt_of_le HLT5.out g3.size) (by simpa using HNB.out)).trans (g3.block b5 HLT5.out (by simpa using HNB.out))))
          have T4 : Hid (CountMap B (n' + 1) (csN (-1) P n ++ csN 1 Q (k + 1)) w4) := Lib.hid (by
            rw [HC2.out]
            refine Tm.congr t4 fun ks _ => ?_
            rw [HR.out, add_wrap]
            exact Lf_add cz sk _ ks)
          have B4 : Hid (Below w.heap.size w w4) := Lib.hid (((HB2.out.trans ((Below.refl _ w2).drew)).grown g3 HB2.out.size (fun q e => by cases e; exact HBL.out)).grown g4 (Nat.le_trans HB2.out.size g3.size) (fun q e => by cases e; exact HBL.out))
          have S2 := Lib.hid (HS.out w2.drew rfl)
          have L2 := Lib.hid (Lf_at cz sk)
          clear r3 r4 t3 t4 g3 g4 h3 hr
          refine wp_region_held_drew (S := fun w' => w'.rangeAt b5 0 (u8l sk) ∧ w'.cell? ⟨b5, 32, none⟩ = some (.int .i64 x)) (by kernel_rfl) S2.out (fun hHeld => ?_)
          refine wpAnyH_take (i := 0) (v := ?_) (by simp only [List.getElem?_toArray, List.getElem?_cons_zero]; rfl) (by kernel_rfl) (by kernel_rfl) (by kernel_rfl) (by intro _ _ _ h; exact h) (Or.inl ⟨by rfl, ?_⟩) hHeld ?_
          rotate_left
          · (intro w hSw; (try dsimp only at hSw); go_simp; try with_reducible rfl)
          try simp only [Act.put, List.setIfInBounds_toArray, List.set_cons_zero, List.set_cons_succ]
          refine wpAnyH_take (i := 1) (v := ?_) (by simp only [List.getElem?_toArray, List.getElem?_cons_zero, List.getElem?_cons_succ]; rfl) (by kernel_rfl) (by kernel_rfl) (by kernel_rfl) (by intro _ _ _ h; exact h) (Or.inl ⟨by rfl, ?_⟩) hHeld ?_
          rotate_left
          · (intro w hSw; (try dsimp only at hSw); go_simp; try with_reducible rfl)
          try simp only [Act.put, List.setIfInBounds_toArray, List.set_cons_zero, List.set_cons_succ]
          refine wpAnyH_take (i := 2) (v := _) (by simp only [List.getElem?_toArray, List.getElem?_cons_zero, List.getElem?_cons_succ]; rfl) (by kernel_rfl) (by kernel_rfl) (by kernel_rfl) (by intro _ _ _ h; exact h) (yieldsIf_load_mid (by rfl) 35 (.tmp 34) rfl b5 0 rfl (u8l sk) _ (fun _ h => h.1) Try.underlying35 rfl HKL.out) hHeld ?_
          try simp only [Act.put, List.setIfInBounds_toArray, List.set_cons_zero, List.set_cons_succ]
          refine wpAnyH_take (i := 4) (v := ?_) (by simp only [List.getElem?_toArray, List.getElem?_cons_zero, List.getElem?_cons_succ]; rfl) (by kernel_rfl) (by kernel_rfl) (by kernel_rfl) (by intro _ _ _ h; exact h) (Or.inl ⟨by rfl, ?_⟩) hHeld ?_
          rotate_left
          · (intro w hSw; (try dsimp only at hSw); go_simp; try with_reducible rfl)
          try simp only [Act.put, List.setIfInBounds_toArray, List.set_cons_zero, List.set_cons_succ]
          refine wpAnyH_take (i := 5) (v := ?_) (by simp only [List.getElem?_toArray, List.getElem?_cons_zero, List.getElem?_cons_succ]; rfl) (by kernel_rfl) (by kernel_rfl) (by kernel_rfl) (by intro _ _ _ h; exact h) (Or.inl ⟨by rfl, ?_⟩) hHeld ?_
          rotate_left
          · (intro w hSw; have hSw := hSw.2; go_simp; try with_reducible rfl)
          try simp only [Act.put, List.setIfInBounds_toArray, List.set_cons_zero, List.set_cons_succ]
          refine wpAnyH_ready (rs := [3, 7]) (by kernel_rfl) (by simp) ?_
          refine AllReadyH.cons (by simp only [List.getElem?_toArray, List.getElem?_cons_zero, List.getElem?_cons_succ]; rfl) (fun K hK => ?_) (AllReadyH.cons (by simp only [List.getElem?_toArray, List.getElem?_cons_zero, List.getElem?_cons_succ]; rfl) (fun K hK => ?_) AllReadyH.nil)
          · rw [if_pos (by rfl)]
            refine wp_tm_look _ (.tmp 33) (.tmp 35) 52 35 3 rfl HT3.out lawK Try.underlying52 Try.underlying3 zero3 rfl sk rfl HKO.out HKEY.out r (L2.out.trans HR.out.symm) ?_
            refine hK.out _ _ S2.out (fun hHeld => ?_)
            clear hK K
            try simp only [Act.put, List.setIfInBounds_toArray, List.set_cons_zero, List.set_cons_succ]
            refine wpAnyH_take (i := 6) (v := ?_) (by simp only [List.getElem?_toArray, List.getElem?_cons_zero, List.getElem?_cons_succ]; rfl) (by kernel_rfl) (by kernel_rfl) (by kernel_rfl) (by intro _ _ _ h; exact h) (Or.inl ⟨by rfl, ?_⟩) hHeld ?_
            rotate_left
            · (intro w hSw; (try dsimp only at hSw); go_simp; try with_reducible rfl)
            try simp only [Act.put, List.setIfInBounds_toArray, List.set_cons_zero, List.set_cons_succ]
            refine wpAnyH_ready (rs := [7]) (by kernel_rfl) (by simp) ?_
            refine AllReadyH.cons (by simp only [List.getElem?_toArray, List.getElem?_cons_zero, List.getElem?_cons_succ]; rfl) (fun K hK => ?_) AllReadyH.nil
            rw [if_pos (by rfl)]
            refine wp_tm_entry _ (.tmp 33) (.tmp 35) 52 rfl (kv sk) _ w3 RUN3.out rfl rfl ?_
            refine hK.out _ _ S3.out (fun hHeld => ?_)
            clear hK K
            try simp only [Act.put, List.setIfInBounds_toArray, List.set_cons_zero, List.set_cons_succ]
            refine wpAnyH_take (i := 8) (v := ?_) (by simp only [List.getElem?_toArray, List.getElem?_cons_zero, List.getElem?_cons_succ]; rfl) (by kernel_rfl) (by kernel_rfl) (by kernel_rfl) (by intro _ _ _ h; exact h) (Or.inl ⟨by rfl, ?_⟩) hHeld ?_
            rotate_left
            · (intro w hSw; (try dsimp only at hSw); go_simp; try with_reducible rfl)
            try simp only [Act.put, List.setIfInBounds_toArray, List.set_cons_zero, List.set_cons_succ]
            refine wpAnyH_ready (rs := [9]) (by kernel_rfl) (by simp) ?_
            refine AllReadyH.cons (by simp only [List.getElem?_toArray, List.getElem?_cons_zero, List.getElem?_cons_succ]; rfl) (fun K hK => ?_) AllReadyH.nil
            rw [if_pos (by rfl)]
            refine wp_tm_entryStore _ (.tmp 33) (.tmp 41) (.tmp 39) 52 rfl (goInt st) (.int .i64 (wrap64 (r + x))) w4 RUN4.out rfl rfl rfl ?_
            refine hK.out _ _ S4.out (fun hHeld => ?_)
            clear hK K
            try simp only [Act.put, List.setIfInBounds_toArray, List.set_cons_zero, List.set_cons_succ]
            refine wpAnyH_done (by kernel_rfl) ?_ _
            clear hHeld
            go_wp2_with fail
            go_roundw
            case rel => exact ⟨k + 1, n' + 1, by omega, by omega, by go_num, T4.out, B4.out⟩
            case measure => simp [intOf]; omega
          · rw [if_pos (by rfl)]
            refine wp_tm_entry _ (.tmp 33) (.tmp 35) 52 rfl (kv sk) _ w3 RUN3.out rfl rfl ?_
            refine hK.out _ _ S3.out (fun hHeld => ?_)
            clear hK K
            try simp only [Act.put, List.setIfInBounds_toArray, List.set_cons_zero, List.set_cons_succ]
            refine wpAnyH_take (i := 8) (v := ?_) (by simp only [List.getElem?_toArray, List.getElem?_cons_zero, List.getElem?_cons_succ]; rfl) (by kernel_rfl) (by kernel_rfl) (by kernel_rfl) (by intro _ _ _ h; exact h) (Or.inl ⟨by rfl, ?_⟩) hHeld ?_
            rotate_left
            · (intro w hSw; (try dsimp only at hSw); go_simp; try with_reducible rfl)
            try simp only [Act.put, List.setIfInBounds_toArray, List.set_cons_zero, List.set_cons_succ]
            refine wpAnyH_ready (rs := [3]) (by kernel_rfl) (by simp) ?_
            refine AllReadyH.cons (by simp only [List.getElem?_toArray, List.getElem?_cons_zero, List.getElem?_cons_succ]; rfl) (fun K hK => ?_) AllReadyH.nil
            rw [if_pos (by rfl)]
            refine wp_tm_look _ (.tmp 33) (.tmp 35) 52 35 3 rfl T3.out lawK Try.underlying52 Try.underlying3 zero3 rfl sk rfl HKO.out HKEY.out r (by simp) ?_
            refine hK.out _ _ S3.out (fun hHeld => ?_)
            clear hK K
            try simp only [Act.put, List.setIfInBounds_toArray, List.set_cons_zero, List.set_cons_succ]
            refine wpAnyH_take (i := 6) (v := ?_) (by simp only [List.getElem?_toArray, List.getElem?_cons_zero, List.getElem?_cons_succ]; rfl) (by kernel_rfl) (by kernel_rfl) (by kernel_rfl) (by intro _ _ _ h; exact h) (Or.inl ⟨by rfl, ?_⟩) hHeld ?_
            rotate_left
            · (intro w hSw; (try dsimp only at hSw); go_simp; try with_reducible rfl)
            try simp only [Act.put, List.setIfInBounds_toArray, List.set_cons_zero, List.set_cons_succ]
            refine wpAnyH_ready (rs := [9]) (by kernel_rfl) (by simp) ?_
            refine AllReadyH.cons (by simp only [List.getElem?_toArray, List.getElem?_cons_zero, List.getElem?_cons_succ]; rfl) (fun K hK => ?_) AllReadyH.nil
            rw [if_pos (by rfl)]
            refine wp_tm_entryStore _ (.tmp 33) (.tmp 41) (.tmp 39) 52 rfl (goInt st) (.int .i64 (wrap64 (r + x))) w4 RUN4.out rfl rfl rfl ?_
            refine hK.out _ _ S4.out (fun hHeld => ?_)
            clear hK K
            try simp only [Act.put, List.setIfInBounds_toArray, List.set_cons_zero, List.set_cons_succ]
            refine wpAnyH_done (by kernel_rfl) ?_ _
            clear hHeld
            go_wp2_with fail
            go_roundw
            case rel => exact ⟨k + 1, n' + 1, by omega, by omega, by go_num, T4.out, B4.out⟩
            case measure => simp [intOf]; omega
        · obtain rfl : k = n2 := by omega
          have HN := Lib.hid hn'
          clear hlt
          go_wp2_with fail
          refine (rowN B _ n' _ w wr HT.out HN.out (by omega) HB.out).mono ?_
          rintro e w9 ⟨v, rfl, hO⟩
          have HO := Lib.hid hO
          clear hO
          go_wp2_with fail
          go_ret
          exact HO.out
end Go.Proofs.Ytblfkngdieffiaa
