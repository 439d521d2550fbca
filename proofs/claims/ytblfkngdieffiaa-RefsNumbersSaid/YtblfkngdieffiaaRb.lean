/- Layer 24 (refs): Count's sums in a map. -/
import Derived.Test.YtblfkngdieffiaaRw
namespace Go.Proofs.Ytblfkngdieffiaa
open Go.RowKit Go.Maps Go.WideMaps
/-- A row of counts, laid in memory of the call's own. -/
def RowFinN (cs : List Ct) (n : Nat) (e : Ending) (w w' : World) : Prop := RowOut cs w.heap.size n e w' ∧ Below w.heap.size w w'
theorem rowN (B n n' : Nat) (cs : List Ct) (w w' : World) (h : CountMap B n' cs w') (hn : n' ≤ n) (hn2 : n' ≤ 1000000000000) (hb : Below w.heap.size w w') :
    Calls Try.prog 23 #[.map (some B)] w' fun e w2 => ∃ v, e = .returned v ∧ RowFinN cs n (.returned v) w w2 := by
  refine (row23 B n' cs w' hn2 h).mono ?_
  rintro e w2 ⟨⟨D, v, rfl, h1, h2, h3⟩, h4⟩
  exact ⟨v, rfl, ⟨D, v, rfl, h1, by omega, row_more h3 hb.size⟩, hb.trans (h4.mono hb.size)⟩
set_option maxRecDepth 100000 in
set_option maxHeartbeats 4000000 in
theorem count10 (I : Nat → ElIt) (A : Option Addr) (n c : Nat) (w : World) (hn : n ≤ 137438953000) (ha : SArr w w.heap.size A n 73 fun i => cellsIt (I i)) :
    Calls Try.prog 10 #[.slice A n c] w fun e w' => RowFinN (csI I n) n e w w' := by
  have HA := Lib.hid ha
  have HMM := @run_makeMap Try.prog
  clear ha
  go_enter Try.func10, Try.ntmps10
  go_wp2_with fail
  have HT : Hid (CountMap w.heap.size 0 [] (w.alloc (.map #[] 0))) := Lib.hid (by
    have := tm_made (P := Try.prog) w 35 3 32
    exact this.congr fun ks _ => rfl)
  have HB : Hid (Below w.heap.size w (w.alloc (.map #[] 0))) := Lib.hid ((Below.refl _ _).alloc (Nat.le_refl _) _)
  obtain ⟨B, hB⟩ : ∃ B, B = w.heap.size := ⟨_, rfl⟩
  rw [← hB] at HT ⊢
  have HBL : Hid (w.heap.size ≤ B) := Lib.hid (Nat.le_of_eq hB.symm)
  clear hB HMM
  go_loopw [9] (fun i wr => ∃ k n' : Nat, k ≤ n ∧ n' ≤ k ∧ i = .int .i64 k ∧ CountMap B n' (csI I k) wr ∧ Below w.heap.size w wr) (fun i _ => n - (intOf i).toNat)
  case atStart => exact ⟨0, 0, Nat.zero_le _, Nat.le_refl _, rfl, HT.out, HB.out⟩
  case round =>
    clear HT HB
    obtain ⟨k, n', hk, hn', rfl, ht, hb⟩ := hrel
    have HT := Lib.hid ht
    have HB := Lib.hid hb
    clear ht hb
    by_cases hlt : k < n
    · obtain ⟨b, off, rfl, hb, hc⟩ := (HA.out.below HB.out (Nat.le_refl _)) (by omega)
      have HC : Hid (wr.rangeAt b (off + k * 73) (cellsIt (I k))) := Lib.hid (hc k hlt)
      have HSZ := Lib.hid (sizeIt0 (I k))
      have HLN := Lib.hid (lenIt (I k))
      have HON := Lib.hid (oneIt (I k))
      have HSK := Lib.hid fun (W : World) (q : Nat) => itm_sk (I k) (w := W) (b := q)
      have HKD := Lib.hid fun (W : World) (q : Nat) => itm_kind (I k) (w := W) (b := q) (o := 0)
      have HKO := Lib.hid (I k).2.sk
      have HC1 := Lib.hid fun h => csI_one I (n := k) h
      have HC0 := Lib.hid fun h => csI_no I (n := k) h
      obtain ⟨kd, hkd⟩ : ∃ kd, kd = (I k).1.kind := ⟨_, rfl⟩
      obtain ⟨sk, hsk⟩ : ∃ sk, sk = (I k).1.sk := ⟨_, rfl⟩
      obtain ⟨cs, hcs⟩ : ∃ cs, cs = cellsIt (I k) := ⟨_, rfl⟩
      rw [← hcs] at HC HSZ HLN HON HSK HKD
      rw [← hkd] at HC1 HC0 HKD
      rw [← hsk] at HC1 HSK HKO
      obtain ⟨cz, hcz⟩ : ∃ cz, cz = csI I k := ⟨_, rfl⟩
      rw [← hcz] at HC1 HC0 HT
      have i1 : (0 : Int) ≤ k := by omega
      have i2 : (k : Int) < n := by omega
      clear hc hcs hkd hsk hcz
      go_upto_region 5 with (first | (refine wpList_load_midG rfl 42 (.tmp 11) rfl b (off + k * 73) rfl cs _ HC.out Try.underlying42 rfl HSZ.out ?_) | (refine wpList_boxed rfl 42 5 rfl rfl zIt (zeroVIt _) (.tmp 12) rfl rfl rfl cs rfl rfl HSZ.out (by rw [HLN.out, zlIt]) HON.out ?_; intro w2 hb2 hh2 hs2))
      obtain ⟨b5, hb5⟩ : ∃ b5, b5 = wr.heap.size := ⟨_, rfl⟩
      rw [← hb5] at hh2 ⊢
      have R5 := Lib.hid (range_of hh2)
      have HT2 : Hid (CountMap B n' cz w2) := Lib.hid (HT.out.keeps (hb2.block B (Tm.lt HT.out)))
      have HB2 := Lib.hid (HB.out.trans (hb2.mono HB.out.size))
      have HNB : Hid (b5 ≠ B) := Lib.hid (by have := Tm.lt HT.out; omega)
      have HLT5 := Lib.hid (heap_lt hh2)
      have c0 := HKD.out w2 b5 R5.out
      clear hb2 hs2 hh2 hb5
      by_cases h2 : kd = 2
      · have HC2 := Lib.hid (HC1.out h2)
        rw [h2] at c0
        clear h2
        go_wp2_with fail
        have HS : Hid (∀ W : World, W.heap[b5]? = w2.heap[b5]? → W.rangeAt b5 39 (u8l sk)) := Lib.hid fun W h => by
          refine HSK.out W b5 fun j v hj => ?_
          have := R5.out j v hj
          rw [← this]
          exact World.cell?_of_block h
        have HKEY := Lib.hid (keyK HKO.out)
        have HKL : Hid ((Try.prog.info? 35).map (·.size) = some (u8l sk).length) := Lib.hid (by rw [u8l_len, HKO.out.len]; exact infoKey)
        have HT3 : Hid (CountMap B n' cz w2.drew) := Lib.hid (HT2.out.keeps rfl)
        obtain ⟨st, w3, r3, t3, g3, h3⟩ := Tm.entry HT3.out lawK Try.underlying52 Try.underlying3 zero3 (by unfold maxLen; omega) HKO.out HKEY.out (by rw [Lf_at]; exact wf_wrap _)
        rw [Lf_at] at r3 t3
        obtain ⟨r, hr⟩ : ∃ r, r = wrap64 (sumT cz sk) := ⟨_, rfl⟩
        have HR := Lib.hid hr
        rw [← hr] at r3 t3
        have hw : IntKind.i64.wrap (r + 1) = wrap64 (r + 1) := IntWalk.i64_left _
        obtain ⟨w4, r4, t4, g4⟩ := h3 w3 (wrap64 (r + 1)) (wf_wrap _) rfl
        have RUN3 := Lib.hid r3
        have RUN4 := Lib.hid r4
        have T3 := Lib.hid t3
        have S3 : Hid (w3.rangeAt b5 39 (u8l sk)) := Lib.hid (HS.out w3 (g3.block b5 HLT5.out (by simpa using HNB.out)))
        have S4 : Hid (w4.rangeAt b5 39 (u8l sk)) := Lib.hid (HS.out w4 ((g4.block b5 (Nat.lt_of_lt_of_le HLT5.out g3.size) (by simpa using HNB.out)).trans (g3.block b5 HLT5.out (by simpa using HNB.out))))
        have T4 : Hid (CountMap B (n' + 1) (csI I (k + 1)) w4) := Lib.hid (by
          rw [HC2.out]
          refine Tm.congr t4 fun ks _ => ?_
          rw [HR.out]
          exact Lf_add cz sk 1 ks)
        have B4 : Hid (Below w.heap.size w w4) := Lib.hid (((HB2.out.trans ((Below.refl _ w2).drew)).grown g3 HB2.out.size (fun q e => by cases e; exact HBL.out)).grown g4 (Nat.le_trans HB2.out.size g3.size) (fun q e => by cases e; exact HBL.out))
        have S2 : Hid (w2.drew.rangeAt b5 39 (u8l sk)) := Lib.hid (HS.out w2.drew rfl)
        have L2 := Lib.hid (Lf_at cz sk)
        clear r3 r4 t3 t4 g3 g4 h3 hr
        refine wp_region_held_drew (S := fun w' => w'.rangeAt b5 39 (u8l sk)) (by kernel_rfl) S2.out (fun hHeld => ?_)
        refine wpAnyH_take (i := 0) (v := ?_) (by simp only [List.getElem?_toArray, List.getElem?_cons_zero]; rfl) (by kernel_rfl) (by kernel_rfl) (by kernel_rfl) (by intro _ _ _ h; exact h) (Or.inl ⟨by rfl, ?_⟩) hHeld ?_
        rotate_left
        · (intro w hSw; (try dsimp only at hSw); go_simp; try with_reducible rfl)
        try simp only [Act.put, List.setIfInBounds_toArray, List.set_cons_zero, List.set_cons_succ]
        refine wpAnyH_take (i := 1) (v := ?_) (by simp only [List.getElem?_toArray, List.getElem?_cons_zero, List.getElem?_cons_succ]; rfl) (by kernel_rfl) (by kernel_rfl) (by kernel_rfl) (by intro _ _ _ h; exact h) (Or.inl ⟨by rfl, ?_⟩) hHeld ?_
        rotate_left
        · (intro w hSw; (try dsimp only at hSw); go_simp; try with_reducible rfl)
        try simp only [Act.put, List.setIfInBounds_toArray, List.set_cons_zero, List.set_cons_succ]
        refine wpAnyH_take (i := 2) (v := ?_) (by simp only [List.getElem?_toArray, List.getElem?_cons_zero, List.getElem?_cons_succ]; rfl) (by kernel_rfl) (by kernel_rfl) (by kernel_rfl) (by intro _ _ _ h; exact h) (Or.inl ⟨by rfl, ?_⟩) hHeld ?_
        rotate_left
        · (intro w hSw; (try dsimp only at hSw); go_simp; try with_reducible rfl)
        try simp only [Act.put, List.setIfInBounds_toArray, List.set_cons_zero, List.set_cons_succ]
        refine wpAnyH_take (i := 3) (v := _) (by simp only [List.getElem?_toArray, List.getElem?_cons_zero, List.getElem?_cons_succ]; rfl) (by kernel_rfl) (by kernel_rfl) (by kernel_rfl) (by intro _ _ _ h; exact h) (yieldsIf_load_mid (by rfl) 35 (.tmp 18) rfl b5 39 rfl (u8l sk) _ (fun _ h => h) Try.underlying35 rfl HKL.out) hHeld ?_
        try simp only [Act.put, List.setIfInBounds_toArray, List.set_cons_zero, List.set_cons_succ]
        refine wpAnyH_ready (rs := [4, 6]) (by kernel_rfl) (by simp) ?_
        refine AllReadyH.cons (by simp only [List.getElem?_toArray, List.getElem?_cons_zero, List.getElem?_cons_succ]; rfl) (fun K hK => ?_) (AllReadyH.cons (by simp only [List.getElem?_toArray, List.getElem?_cons_zero, List.getElem?_cons_succ]; rfl) (fun K hK => ?_) AllReadyH.nil)
        · rw [if_pos (by rfl)]
          refine wp_tm_look _ (.tmp 16) (.tmp 19) 52 35 3 rfl HT3.out lawK Try.underlying52 Try.underlying3 zero3 rfl sk rfl HKO.out HKEY.out r (L2.out.trans HR.out.symm) ?_
          refine hK.out _ _ S2.out (fun hHeld => ?_)
          clear hK K
          try simp only [Act.put, List.setIfInBounds_toArray, List.set_cons_zero, List.set_cons_succ]
          refine wpAnyH_take (i := 5) (v := ?_) (by simp only [List.getElem?_toArray, List.getElem?_cons_zero, List.getElem?_cons_succ]; rfl) (by kernel_rfl) (by kernel_rfl) (by kernel_rfl) (by intro _ _ _ h; exact h) (Or.inl ⟨by rfl, ?_⟩) hHeld ?_
          rotate_left
          · (intro w hSw; (try dsimp only at hSw); go_simp; try with_reducible rfl)
          try simp only [Act.put, List.setIfInBounds_toArray, List.set_cons_zero, List.set_cons_succ]
          refine wpAnyH_ready (rs := [6]) (by kernel_rfl) (by simp) ?_
          refine AllReadyH.cons (by simp only [List.getElem?_toArray, List.getElem?_cons_zero, List.getElem?_cons_succ]; rfl) (fun K hK => ?_) AllReadyH.nil
          rw [if_pos (by rfl)]
          refine wp_tm_entry _ (.tmp 16) (.tmp 19) 52 rfl (kv sk) _ w3 RUN3.out rfl rfl ?_
          refine hK.out _ _ S3.out (fun hHeld => ?_)
          clear hK K
          try simp only [Act.put, List.setIfInBounds_toArray, List.set_cons_zero, List.set_cons_succ]
          refine wpAnyH_take (i := 7) (v := ?_) (by simp only [List.getElem?_toArray, List.getElem?_cons_zero, List.getElem?_cons_succ]; rfl) (by kernel_rfl) (by kernel_rfl) (by kernel_rfl) (by intro _ _ _ h; exact h) (Or.inl ⟨by rfl, ?_⟩) hHeld ?_
          rotate_left
          · (intro w hSw; (try dsimp only at hSw); go_simp; try with_reducible rfl)
          try simp only [Act.put, List.setIfInBounds_toArray, List.set_cons_zero, List.set_cons_succ]
          refine wpAnyH_ready (rs := [8]) (by kernel_rfl) (by simp) ?_
          refine AllReadyH.cons (by simp only [List.getElem?_toArray, List.getElem?_cons_zero, List.getElem?_cons_succ]; rfl) (fun K hK => ?_) AllReadyH.nil
          rw [if_pos (by rfl)]
          refine wp_tm_entryStore _ (.tmp 16) (.tmp 23) (.tmp 21) 52 rfl (goInt st) (.int .i64 (wrap64 (r + 1))) w4 RUN4.out rfl rfl rfl ?_
          refine hK.out _ _ S4.out (fun hHeld => ?_)
          clear hK K
          try simp only [Act.put, List.setIfInBounds_toArray, List.set_cons_zero, List.set_cons_succ]
          refine wpAnyH_done (by kernel_rfl) ?_ _
          clear hHeld
          go_wp2_with fail
          go_roundw
          case rel => exact ⟨k + 1, n' + 1, by omega, by omega, by go_num, T4.out, B4.out⟩
          case measure => simp [intOf]; omega
        · rw [if_pos (by rfl)]
          refine wp_tm_entry _ (.tmp 16) (.tmp 19) 52 rfl (kv sk) _ w3 RUN3.out rfl rfl ?_
          refine hK.out _ _ S3.out (fun hHeld => ?_)
          clear hK K
          try simp only [Act.put, List.setIfInBounds_toArray, List.set_cons_zero, List.set_cons_succ]
          refine wpAnyH_take (i := 7) (v := ?_) (by simp only [List.getElem?_toArray, List.getElem?_cons_zero, List.getElem?_cons_succ]; rfl) (by kernel_rfl) (by kernel_rfl) (by kernel_rfl) (by intro _ _ _ h; exact h) (Or.inl ⟨by rfl, ?_⟩) hHeld ?_
          rotate_left
          · (intro w hSw; (try dsimp only at hSw); go_simp; try with_reducible rfl)
          try simp only [Act.put, List.setIfInBounds_toArray, List.set_cons_zero, List.set_cons_succ]
          refine wpAnyH_ready (rs := [4]) (by kernel_rfl) (by simp) ?_
          refine AllReadyH.cons (by simp only [List.getElem?_toArray, List.getElem?_cons_zero, List.getElem?_cons_succ]; rfl) (fun K hK => ?_) AllReadyH.nil
          rw [if_pos (by rfl)]
          refine wp_tm_look _ (.tmp 16) (.tmp 19) 52 35 3 rfl T3.out lawK Try.underlying52 Try.underlying3 zero3 rfl sk rfl HKO.out HKEY.out r (by simp) ?_
          refine hK.out _ _ S3.out (fun hHeld => ?_)
          clear hK K
          try simp only [Act.put, List.setIfInBounds_toArray, List.set_cons_zero, List.set_cons_succ]
          refine wpAnyH_take (i := 5) (v := ?_) (by simp only [List.getElem?_toArray, List.getElem?_cons_zero, List.getElem?_cons_succ]; rfl) (by kernel_rfl) (by kernel_rfl) (by kernel_rfl) (by intro _ _ _ h; exact h) (Or.inl ⟨by rfl, ?_⟩) hHeld ?_
          rotate_left
          · (intro w hSw; (try dsimp only at hSw); go_simp; try with_reducible rfl)
          try simp only [Act.put, List.setIfInBounds_toArray, List.set_cons_zero, List.set_cons_succ]
          refine wpAnyH_ready (rs := [8]) (by kernel_rfl) (by simp) ?_
          refine AllReadyH.cons (by simp only [List.getElem?_toArray, List.getElem?_cons_zero, List.getElem?_cons_succ]; rfl) (fun K hK => ?_) AllReadyH.nil
          rw [if_pos (by rfl)]
          refine wp_tm_entryStore _ (.tmp 16) (.tmp 23) (.tmp 21) 52 rfl (goInt st) (.int .i64 (wrap64 (r + 1))) w4 RUN4.out rfl rfl rfl ?_
          refine hK.out _ _ S4.out (fun hHeld => ?_)
          clear hK K
          try simp only [Act.put, List.setIfInBounds_toArray, List.set_cons_zero, List.set_cons_succ]
          refine wpAnyH_done (by kernel_rfl) ?_ _
          clear hHeld
          go_wp2_with fail
          go_roundw
          case rel => exact ⟨k + 1, n' + 1, by omega, by omega, by go_num, T4.out, B4.out⟩
          case measure => simp [intOf]; omega
      · have h3 : (kd == 2) = false := by simpa using h2
        have HC2 := Lib.hid (HC0.out h2)
        clear h2
        go_wp2_with fail
        go_roundw
        case rel => exact ⟨k + 1, n', by omega, by omega, by go_num, HC2.out ▸ HT2.out, HB2.out⟩
        case measure => simp [intOf]; omega
    · obtain rfl : k = n := by omega
      go_wp2_with fail
      refine (rowN B _ n' (csI I _) w wr HT.out hn' (by omega) HB.out).mono ?_
      rintro e w9 ⟨v, rfl, hO⟩
      have HO := Lib.hid hO
      clear hO
      go_wp2_with fail
      go_ret
      exact HO.out
end Go.Proofs.Ytblfkngdieffiaa
