/- The law IndexOrders (layer 22): it returns true at every input. -/
import Derived.Test.YtnindkpgmiafnaaOb
namespace Go.Proofs.Ytnindkpgmiafnaa
open Go.RowKit Go.Maps Go.WideMaps
theorem yields_convert {P : Program} {ops : Array Oper} {S : World → Prop} {op : Oper} {a : Act} (hw : Region.wanted op (yielded ops a.tmps) = true) (s d : TypeId) (x : Operand) (ho : op.op = .convert s d x) (u : Value) (hx : a.eval x = u) (r : Value)
    (hr : ∀ w, S w → (convert s d u).run P w = .ok r w) : YieldsIf P ops S op r a :=
  .inl ⟨hw, fun w hs => by
    unfold execOp
    simp only [ho, hx, Sem.run_bind, hr w hs, Result.andThen_ok, Sem.run_pure]⟩
theorem yields_geq {P : Program} {ops : Array Oper} {S : World → Prop} {op : Oper} {a : Act} (hw : Region.wanted op (yielded ops a.tmps) = true) (t t2 : TypeId) (x y : Operand) (ho : op.op = .binOp .geq t x y t2) (u v : ByteArray) (hx : a.eval x = .string u) (hy : a.eval y = .string v) (b : Bool)
    (hr : Op.bytesLess u.toList v.toList = !b) : YieldsIf P ops S op (.bool b) a :=
  .inl ⟨hw, fun w _ => by
    have h1 : binOp .geq t (.string u) (.string v) = pure (.bool b) := by simp [binOp, Op.stringOp, hr]
    unfold execOp
    simp [ho, hx, hy, h1, eqGuard]⟩
set_option maxRecDepth 100000 in
set_option maxHeartbeats 40000000 in
theorem orders3 (L : Nat → Deed) (A : Option Addr) (n c : Nat) (st : Int) (W : World) (hnc : n ≤ c) (hA : A = none → n = 0 ∧ c = 0) (hL : ∀ i, i < n → KeyOk 32 (L i).k ∧ (Lit.int .i64 (L i).kd).wf = true ∧ (Lit.int .i64 (L i).x).wf = true) (ha : SArr W W.heap.size A n 38 fun i => (L i).cells) (hst : (Lit.int .i64 st).wf = true) :
    Calls Try.prog 3 #[.slice A n c, .int .i64 st] W fun e w' => e = .returned (.bool true) ∧ Below W.heap.size W w' := by
  have HMM := @run_makeMap Try.prog
  have HL := Lib.hid hL
  have HA := Lib.hid ha
  have HST := Lib.hid (i64_bdo hst)
  clear hL ha hst
  by_cases hn : n ≤ 100
  rotate_left
  · go_enter Try.func3, Try.ntmps3
    go_wp2_with fail
    refine (awake7 W).mono ?_
    rintro e w1 ⟨rfl, hb⟩
    have HB := Lib.hid hb
    clear hb
    go_wp2_with fail
    go_ret
    exact ⟨rfl, HB.out⟩
  obtain ⟨i0, hi, hz0, hz1, hz2⟩ := infoParts infoD
  have HI := Lib.hid (And.intro hi (And.intro hz0 (And.intro hz1 hz2)))
  clear hi hz0 hz1 hz2
  go_enter Try.func3, Try.ntmps3
  go_wp2_with fail
  refine (awake7 W).mono ?_
  rintro e w1 ⟨rfl, hb⟩
  have B1 := Lib.hid hb
  clear hb
  go_upto_region 7 with fail
  obtain ⟨B, hB⟩ : ∃ b, b = w1.heap.size := ⟨_, rfl⟩
  obtain ⟨w2, hw2⟩ : ∃ z, z = w1.alloc (.map #[] 0) := ⟨_, rfl⟩
  have HO : Hid (Own W.heap.size W w2 B #[] (.slice none 0 0) 0) := Lib.hid ⟨List.nodup_nil, Nat.le_refl _, World.ownsRow_nil _ _ _ _, ⟨0, Nat.le_refl _, by rw [hw2, hB]; exact (gm_made w1 keyT (fun _ => True)).congr fun k _ => rfl⟩, by rw [hw2]; exact B1.out.alloc B1.out.size _, by rw [hB]; exact B1.out.size⟩
  rw [← hw2, ← hB]
  clear hw2 hB B1 HMM
  go_wp2_with fail
  go_loopw [5, 7] (fun v i wr => ∃ (j : Nat) (own : Array KD), j ≤ n ∧ i = .int .i64 j ∧ Own W.heap.size W wr B own v j) (fun _ i _ => n - (intOf i).toNat)
  case atStart => exact ⟨0, #[], by omega, rfl, HO.out⟩
  case round =>
    obtain ⟨j, own, hj, rfl, hO⟩ := hrel
    clear HO
    have HO := Lib.hid hO
    clear hO
    by_cases hlt : j < n
    · obtain ⟨vA, vc, rfl⟩ := row_shapeS HO.out.row
      obtain ⟨g, off, rfl, hg, hrow⟩ := HA.out (by omega)
      have HG := Lib.hid hg
      have HW : Hid (wr.rangeAt g (off + j * 38) (L j).cells) := Lib.hid fun i v hi => by
        have h1 := hrow j hlt i v hi
        exact (World.cell?_of_block (HO.out.old.block g hg)).trans h1
      clear hg hrow
      obtain ⟨hk, hkd, hx⟩ := HL.out j hlt
      obtain ⟨D, hD⟩ : ∃ D, D = L j := ⟨_, rfl⟩
      rw [← hD] at hk hkd hx
      have HW : Hid (wr.rangeAt g (off + j * 38) D.cells) := Lib.hid (by rw [hD]; exact HW.out)
      have HK := Lib.hid hk
      have HKW : Hid (∀ V : World, V.rangeAt g (off + j * 38) D.cells → V.rangeAt g (off + j * 38 + 1) (u8l D.k)) := Lib.hid fun V h => (deed_at HK.out h).2.1
      have HDL := Lib.hid (deed_len D hk)
      have HSZ : Hid ((Try.prog.info? 30).map (·.size) = some D.cells.length) := Lib.hid (by rw [HDL.out]; kernel_rfl)
      have HKL : Hid ((Try.prog.info? 26).map (·.size) = some (u8l D.k).length) := Lib.hid (by rw [u8l_len, HK.out.len]; exact infoKey)
      clear hD hk hkd hx
      obtain ⟨cm, hcm, hgm⟩ := HO.out.map
      have HGM := Lib.hid hgm
      have HCM := Lib.hid hcm
      have HON : Hid (own.size ≤ j) := Lib.hid HO.out.sz
      clear hgm hcm
      obtain ⟨b, hb⟩ : ∃ b : Bool, (keysIn own D.k).getD (.bool false) = .bool b := by
        unfold keysIn; split
        · exact ⟨true, rfl⟩
        · exact ⟨false, rfl⟩
      have HBV := Lib.hid hb
      clear hb
      go_upto_region 10 with fail
      go_step
      repeat ((fail_if_success (refine wpList_load_midG rfl 26 (.tmp 32) rfl g (off + j * 38 + 1) rfl (u8l D.k) _ (HKW.out _ HW.out) Try.underlying26 rfl HKL.out ?_)); go_step)
      refine wpList_load_midG rfl 26 (.tmp 32) rfl g (off + j * 38 + 1) rfl (u8l D.k) _ (HKW.out _ HW.out) Try.underlying26 rfl HKL.out ?_
      try simp only [Act.put, List.setIfInBounds_toArray, List.set_cons_zero, List.set_cons_succ]
      refine wpList_gm_look (T := keyT) rfl (.tmp 28) (.tmp 33) 24 4 false rfl HGM.out Try.underlying24 (z := .bool false) rfl rfl D.k rfl HK.out (.bool b) HBV.out ?_
      try simp only [Act.put, List.setIfInBounds_toArray, List.set_cons_zero, List.set_cons_succ]
      cases b
      rotate_left
      · go_wp2_with fail
        exact ⟨⟨j + 1, own, by omega, by push_cast; rfl, HO.out.more⟩, by simp [intOf]; omega⟩
      · have HNO : Hid (keysIn own D.k = none) := Lib.hid (by
          have h := HBV.out
          unfold keysIn at h ⊢
          split at h
          · cases h
          · rename_i h1; exact if_neg h1)
        go_upto_region 11 with fail
        go_step
        repeat ((fail_if_success (refine wpList_load_midG rfl 30 (.tmp 39) rfl g (off + j * 38) rfl D.cells _ HW.out Try.underlying30 rfl HSZ.out ?_)); go_step)
        refine wpList_load_midG rfl 30 (.tmp 39) rfl g (off + j * 38) rfl D.cells _ HW.out Try.underlying30 rfl HSZ.out ?_
        try simp only [Act.put, List.setIfInBounds_toArray, List.set_cons_zero, List.set_cons_succ]
        refine wpList_slice1 rfl 22 30 (.tmp 40) rfl D.cells rfl i0 (.agg zD.toArray) Try.underlying22 HI.out.1 HI.out.2.1 (by rw [HDL.out]; exact HI.out.2.2.1) (by rw [HDL.out]; omega) (by rw [HDL.out]; omega) ?_
        try simp only [Act.put, List.setIfInBounds_toArray, List.set_cons_zero, List.set_cons_succ]
        refine wpList_append_own _ rfl (.tmp 36) (.tmp 41) 22 rfl (B + 1) 30 i0 (.agg zD.toArray) 38 80 Try.underlying22 HI.out.1 HI.out.2.1 HI.out.2.2.1 HI.out.2.2.2 rfl (by decide) _ own.size (flatS (fun i => (own[i]!).1.cells) own.size) rfl (HO.out.row.alloc _) ⟨wr.heap.size, 0, none⟩ 1 1 D.cells rfl (by rw [HDL.out]) (fun j u hj => by rw [Go.WideShapes.add_plain, Nat.zero_add]; exact block_cell (heap_new wr _) j u (by simpa using hj)) (deed_one D) (by have := HON.out; unfold maxLen; omega) (by have := HON.out; omega) (by have := HO.out.lt; simp; omega) ?_
        intro v5 w7 hown5 hg5 hv5
        try simp only [Act.put, List.setIfInBounds_toArray, List.set_cons_zero, List.set_cons_succ]
        have HAL : Below wr.heap.size wr (wr.alloc (.cells D.cells.toArray 30)) := (Below.refl _ _).alloc (Nat.le_refl _) _
        have HKP : Hid (Below (B + 1) wr w7) := Lib.hid ((HAL.mono (by have := HO.out.lt; omega)).grown hg5 (by have := HO.out.lt; simp; omega) (fun k hk => (row_lt HO.out.row hk).1))
        have HROW5 := Lib.hid hown5
        have HW : Hid (w7.rangeAt g (off + j * 38) D.cells) := Lib.hid fun i v hi => (World.cell?_of_block (HKP.out.block g (by have := HO.out.gB; have := HG.out; omega))).trans (HW.out i v hi)
        have HGM : Hid (Gm Try.prog w7 keyT (fun _ => True) B cm (keysIn own)) := Lib.hid (HGM.out.keeps (HKP.out.block B (Nat.lt_succ_self _)))
        have HOL : Hid (Below W.heap.size W w7) := Lib.hid (HO.out.old.trans (HKP.out.mono (by have := HO.out.gB; omega)))
        have HKS : Hid (B + 1 ≤ w7.heap.size) := Lib.hid (by have h1 := HO.out.lt; have h2 := HKP.out.size; omega)
        clear hown5 hg5 hv5 HAL HKP
        go_upto_region 12 with fail
        go_step
        repeat ((fail_if_success (refine wpList_load_midG rfl 26 (.tmp 47) rfl g (off + j * 38 + 1) rfl (u8l D.k) _ (HKW.out _ HW.out) Try.underlying26 rfl HKL.out ?_)); go_step)
        refine wpList_load_midG rfl 26 (.tmp 47) rfl g (off + j * 38 + 1) rfl (u8l D.k) _ (HKW.out _ HW.out) Try.underlying26 rfl HKL.out ?_
        try simp only [Act.put, List.setIfInBounds_toArray, List.set_cons_zero, List.set_cons_succ]
        refine wpList_gm_put (T := keyT) rfl (.tmp 43) (.tmp 48) (.const (.bool true)) 24 4 rfl HGM.out Try.underlying24 (by have := HCM.out; unfold maxLen; omega) rfl D.k rfl HK.out (.bool true) rfl trivial ?_
        intro w8 hm8 hg8
        try simp only [Act.put, List.setIfInBounds_toArray, List.set_cons_zero, List.set_cons_succ]
        have HN := Lib.hid (HO.out.push ⟨D, HK.out⟩ HNO.out HROW5.out HOL.out HCM.out hm8 hg8 HKS.out)
        clear hm8 hg8 HO HROW5 HOL HGM HW
        go_wp2_with fail
        exact ⟨⟨j + 1, _, by omega, by push_cast; rfl, HN.out⟩, by simp [intOf]; omega⟩
    · obtain rfl : j = n := by omega
      obtain ⟨A5, c5, rfl, ha5, hnc5, hmc5, hnil5⟩ := srow_arr (wideD fun i => own[i]!) HO.out.row
      have HND := Lib.hid HO.out.nd
      obtain ⟨N, hN⟩ : ∃ N, N = own.size := ⟨_, rfl⟩
      have HNE := Lib.hid hN
      have HNS : Hid (N ≤ 100) := Lib.hid (by have := HO.out.sz; omega)
      have HNL := Lib.hid hnil5
      have HOLD := Lib.hid HO.out.old
      have HGS : Hid (W.heap.size ≤ wr.heap.size) := Lib.hid (by have := HO.out.gB; have := HO.out.lt; omega)
      have HA5 := Lib.hid ha5
      rw [← hN] at HA5 HNL ⊢
      rw [← hN] at hnc5
      have HC5 := Lib.hid hnc5
      clear ha5 hnil5 hnc5 hmc5 HO hN HL HA
      go_wp2_with fail
      refine (new8 wr).mono ?_
      rintro e w2 ⟨p1, B1, rfl, hix, hb2, hp1, hB1⟩
      have HN1 := Lib.hid (And.intro hix (And.intro hb2 (And.intro hp1 hB1)))
      clear hix hb2 hp1 hB1
      go_wp2_with fail
      refine (new8 w2).mono ?_
      rintro e w3 ⟨p2, B2, rfl, hix, hb2, hp2, hB2⟩
      obtain ⟨bs, hbs⟩ : ∃ b, b = wr.heap.size := ⟨_, rfl⟩
      have HP : Hid (Pr W.heap.size W w3 p1 B1 p2 B2 bs [] [] A5 N fun i => own[i]!) := Lib.hid (by
        obtain ⟨h1, h2, h3, h4⟩ := HN1.out
        have h5 := h1.lt
        have h6 := HGS.out
        refine ⟨h1.below hb2, hix, ?_, ?_, by omega, by omega⟩
        · rw [hbs]
          exact (HA5.out.below h2 (Nat.le_refl _)).below hb2 h2.size
        · exact (HOLD.out.trans (h2.mono h6)).trans (hb2.mono (Nat.le_trans h6 h2.size)))
      clear HN1 hix hb2 hp2 hB2 hbs HA5 HOLD HGS
      have hN100 : N ≤ 100 := HNS.out
      go_wp2_with fail
      refine (pick9 st (N + 1) w3 (by omega) (by have := HNS.out; omega)).mono ?_
      rintro e _ ⟨rfl, rfl⟩
      obtain ⟨k, hk⟩ : ∃ k : Nat, st % ((N : Int) + 1) = k := ⟨(st % ((N : Int) + 1)).toNat, by have := Int.emod_nonneg st (show ((N : Int) + 1) ≠ 0 by omega); omega⟩
      have HKN : Hid (k ≤ N) := Lib.hid (by have := Int.emod_lt_of_pos st (show (0 : Int) < (N : Int) + 1 by omega); omega)
      rw [hk]
      clear hk
      obtain ⟨l, hl⟩ : ∃ l, l = listD own := ⟨_, rfl⟩
      have HLL : Hid (l.length = N) := Lib.hid (by rw [hl, listD_len, HNE.out])
      have HLA : Hid (∀ i, i < N → l[i]? = some (own[i]!).1) := Lib.hid fun i hi => by rw [hl]; exact listD_at (by have := HNE.out; omega)
      have HLK : Hid (∀ d ∈ l, KeyOk 32 d.k) := Lib.hid (by rw [hl]; exact listD_ok own)
      have HLN : Hid ((l.map Deed.k).Nodup) := Lib.hid (by rw [hl, listD_keys]; exact HND.out)
      clear hl HND
      go_wp2_with fail
      go_loopw [11] (fun i wr => ∃ (j : Nat), j ≤ N ∧ i = .int .i64 j ∧ Pr W.heap.size W wr p1 B1 p2 B2 bs (addAll (l.take j) []) [] A5 N fun i => own[i]!) (fun i _ => N - (intOf i).toNat)
      case atStart => exact ⟨0, by omega, rfl, HP.out⟩
      case round =>
        obtain ⟨j, hj, rfl, hP⟩ := hrel
        clear HP
        have HP := Lib.hid hP
        clear hP
        by_cases hlt : j < N
        · obtain ⟨g, off, rfl, hg, hrow⟩ := HP.out.own (by omega)
          have HG := Lib.hid hg
          have HW : Hid (∀ V, Below bs wr V → V.rangeAt g (off + j * 38) (own[j]!).1.cells) := Lib.hid fun V h i v hi => (World.cell?_of_block (h.block g hg)).trans (hrow j (by omega) i v hi)
          clear hg hrow
          obtain ⟨D, hD⟩ : ∃ D, D = (own[j]!).1 := ⟨_, rfl⟩
          have HK : Hid (KeyOk 32 D.k) := Lib.hid (by rw [hD]; exact (own[j]!).2)
          rw [← hD] at HW
          have HKL : Hid ((Try.prog.info? 26).map (·.size) = some (u8l D.k).length) := Lib.hid (by rw [u8l_len, HK.out.len]; exact infoKey)
          have HTK : Hid (addAll (l.take (j + 1)) [] = addR (addAll (l.take j) []) D.k D.q) := Lib.hid (by rw [take_next (HLA.out j hlt), addAll_snoc, ← hD])
          have HRL : Hid ((addAll (l.take j) []).length < 1000000000) := Lib.hid (by have h1 := len_addAll (l.take j) []; have h2 := HNS.out; simp at h1; omega)
          clear hD
          go_wp2_with fail
          have HS : Hid (∀ V, Below bs wr V → (fun w' : World => w'.rangeAt g (off + j * 38 + 1) (u8l D.k) ∧ w'.rangeAt g (off + j * 38 + 33) [.int .i64 D.q.a, .int .i64 D.q.n, .int .i64 D.q.u, .int .i64 D.q.r]) V) := Lib.hid fun V h => by
            obtain ⟨h0, h1, h2, h3⟩ := deed_at HK.out (HW.out V h)
            exact ⟨h1, h2⟩
          have HB0 : Hid (Below bs wr wr.drew) := Lib.hid (below_drewN (Below.refl _ _) 1)
          refine wp_region_held_drew (S := (fun w' : World => w'.rangeAt g (off + j * 38 + 1) (u8l D.k) ∧ w'.rangeAt g (off + j * 38 + 33) [.int .i64 D.q.a, .int .i64 D.q.n, .int .i64 D.q.u, .int .i64 D.q.r])) follows (HS.out _ HB0.out) (fun hHeld => ?_)
          refine wpAnyH_take (i := 0) (v := ?_) (by simp only [List.getElem?_toArray, List.getElem?_cons_zero]; rfl) (by kernel_rfl) (by kernel_rfl) (by kernel_rfl) (by intro _ _ _ h; exact h) (Or.inl ⟨by rfl, ?_⟩) hHeld ?_
          rotate_left
          · (intro w hSw; (try dsimp only at hSw); go_simp; try with_reducible rfl)
          try simp only [Act.put, List.setIfInBounds_toArray, List.set_cons_zero, List.set_cons_succ]
          refine wpAnyH_take (i := 1) (v := ?_) (by simp only [List.getElem?_toArray, List.getElem?_cons_zero, List.getElem?_cons_succ]; rfl) (by kernel_rfl) (by kernel_rfl) (by kernel_rfl) (by intro _ _ _ h; exact h) (Or.inl ⟨by rfl, ?_⟩) hHeld ?_
          rotate_left
          · (intro w hSw; (try dsimp only at hSw); go_simp; try with_reducible rfl)
          try simp only [Act.put, List.setIfInBounds_toArray, List.set_cons_zero, List.set_cons_succ]
          refine wpAnyH_take (i := 2) (v := ?_) (by simp only [List.getElem?_toArray, List.getElem?_cons_zero, List.getElem?_cons_succ]; rfl) (by kernel_rfl) (by kernel_rfl) (by kernel_rfl) (by intro _ _ _ h; exact h) (Or.inl ⟨by rfl, ?_⟩) hHeld ?_
          rotate_left
          · (intro w hSw; (try dsimp only at hSw); go_simp; try with_reducible rfl)
          try simp only [Act.put, List.setIfInBounds_toArray, List.set_cons_zero, List.set_cons_succ]
          refine wpAnyH_take (i := 3) (v := ?_) (by simp only [List.getElem?_toArray, List.getElem?_cons_zero, List.getElem?_cons_succ]; rfl) (by kernel_rfl) (by kernel_rfl) (by kernel_rfl) (by intro _ _ _ h; exact h) (Or.inl ⟨by rfl, ?_⟩) hHeld ?_
          rotate_left
          · (intro w hSw; (try dsimp only at hSw); go_simp; try with_reducible rfl)
          try simp only [Act.put, List.setIfInBounds_toArray, List.set_cons_zero, List.set_cons_succ]
          refine wpAnyH_take (i := 4) (v := ?_) (by simp only [List.getElem?_toArray, List.getElem?_cons_zero, List.getElem?_cons_succ]; rfl) (by kernel_rfl) (by kernel_rfl) (by kernel_rfl) (by intro _ _ _ h; exact h) (Or.inl ⟨by rfl, ?_⟩) hHeld ?_
          rotate_left
          · (intro w hSw; (try dsimp only at hSw); go_simp; try with_reducible rfl)
          try simp only [Act.put, List.setIfInBounds_toArray, List.set_cons_zero, List.set_cons_succ]
          refine wpAnyH_take (i := 5) (v := _) (by simp only [List.getElem?_toArray, List.getElem?_cons_zero, List.getElem?_cons_succ]; rfl) (by kernel_rfl) (by kernel_rfl) (by kernel_rfl) (by intro _ _ _ h; exact h) (yieldsIf_load_mid (by rfl) 26 (.tmp 66) rfl g (off + j * 38 + 1) rfl (u8l D.k) _ (fun _ h => h.1) Try.underlying26 rfl HKL.out) hHeld ?_
          try simp only [Act.put, List.setIfInBounds_toArray, List.set_cons_zero, List.set_cons_succ]
          refine wpAnyH_take (i := 6) (v := ?_) (by simp only [List.getElem?_toArray, List.getElem?_cons_zero, List.getElem?_cons_succ]; rfl) (by kernel_rfl) (by kernel_rfl) (by kernel_rfl) (by intro _ _ _ h; exact h) (Or.inl ⟨by rfl, ?_⟩) hHeld ?_
          rotate_left
          · (intro w hSw; (try dsimp only at hSw); go_simp; try with_reducible rfl)
          try simp only [Act.put, List.setIfInBounds_toArray, List.set_cons_zero, List.set_cons_succ]
          refine wpAnyH_take (i := 7) (v := ?_) (by simp only [List.getElem?_toArray, List.getElem?_cons_zero, List.getElem?_cons_succ]; rfl) (by kernel_rfl) (by kernel_rfl) (by kernel_rfl) (by intro _ _ _ h; exact h) (Or.inl ⟨by rfl, ?_⟩) hHeld ?_
          rotate_left
          · (intro w hSw; (try dsimp only at hSw); go_simp; try with_reducible rfl)
          try simp only [Act.put, List.setIfInBounds_toArray, List.set_cons_zero, List.set_cons_succ]
          refine wpAnyH_take (i := 8) (v := ?_) (by simp only [List.getElem?_toArray, List.getElem?_cons_zero, List.getElem?_cons_succ]; rfl) (by kernel_rfl) (by kernel_rfl) (by kernel_rfl) (by intro _ _ _ h; exact h) (Or.inl ⟨by rfl, ?_⟩) hHeld ?_
          rotate_left
          · (intro w hSw; (try dsimp only at hSw); go_simp; try with_reducible rfl)
          try simp only [Act.put, List.setIfInBounds_toArray, List.set_cons_zero, List.set_cons_succ]
          refine wpAnyH_take (i := 9) (v := ?_) (by simp only [List.getElem?_toArray, List.getElem?_cons_zero, List.getElem?_cons_succ]; rfl) (by kernel_rfl) (by kernel_rfl) (by kernel_rfl) (by intro _ _ _ h; exact h) (Or.inl ⟨by rfl, ?_⟩) hHeld ?_
          rotate_left
          · (intro w hSw; (try dsimp only at hSw); go_simp; try with_reducible rfl)
          try simp only [Act.put, List.setIfInBounds_toArray, List.set_cons_zero, List.set_cons_succ]
          refine wpAnyH_take (i := 10) (v := _) (by simp only [List.getElem?_toArray, List.getElem?_cons_zero, List.getElem?_cons_succ]; rfl) (by kernel_rfl) (by kernel_rfl) (by kernel_rfl) (by intro _ _ _ h; exact h) (yieldsIf_load_mid (by rfl) 28 (.tmp 71) rfl g (off + j * 38 + 33) rfl [.int .i64 D.q.a, .int .i64 D.q.n, .int .i64 D.q.u, .int .i64 D.q.r] _ (fun _ h => h.2) Try.underlying28 rfl sizePl) hHeld ?_
          try simp only [Act.put, List.setIfInBounds_toArray, List.set_cons_zero, List.set_cons_succ]
          refine wpAnyH_ready (rs := [11]) (by kernel_rfl) (by simp) ?_
          refine AllReadyH.cons (by simp only [List.getElem?_toArray, List.getElem?_cons_zero, List.getElem?_cons_succ]; rfl) (fun K hK => ?_) AllReadyH.nil
          rw [if_pos (by rfl)]
          go_simp
          refine (add10 p1 B1 (addAll (l.take j) []) D.k D.q wr.drew HK.out (HP.out.ix1.drewN 1) HRL.out).mono ?_
          rintro e w4 ⟨rfl, hi, hkp⟩
          have HP2 := Lib.hid ((HP.out.below (w' := wr.drew) (below_drewN (Below.refl _ _) 1)).turn1 hi hkp)
          have HB4 : Hid (Below bs wr w4) := Lib.hid (HB0.out.trans (hkp.below (B := bs) (fun z hz => by rw [hz]; exact HP.out.g.2.2.1) HP.out.sz))
          clear hi hkp
          refine hK.out _ _ (HS.out _ HB4.out) (fun hHeld => ?_)
          clear hK K
          try simp only [Act.put, List.setIfInBounds_toArray, List.set_cons_zero, List.set_cons_succ]
          refine wpAnyH_done (by kernel_rfl) ?_ _
          clear hHeld
          rw [← HTK.out] at HP2
          go_wp2_with fail
          exact ⟨⟨j + 1, by omega, by push_cast; rfl, HP2.out⟩, by simp [intOf]; omega⟩
        · obtain rfl : j = N := by omega
          obtain ⟨R, hR⟩ : ∃ R, R = addAll l [] := ⟨_, rfl⟩
          have HRA : Hid (addAll (l.take j) [] = R) := Lib.hid (by rw [hR, ← HLL.out, List.take_length])
          have HRB : Hid (addAll (rotD l k) [] = R) := Lib.hid (by
            rw [hR]
            exact addAll_perm (fun d hd => HLK.out d ((rot_perm l k).mem_iff.1 hd)) (((rot_perm l k).map Deed.k).nodup_iff.2 HLN.out) (rot_perm l k))
          have HRL : Hid (R.length ≤ 100) := Lib.hid (by have h1 := len_addAll l []; have h2 := HNS.out; have h3 := HLL.out; rw [← hR] at h1; simp at h1; omega)
          have HRR : Hid (Rise R) := Lib.hid (by rw [hR]; exact rise_addAll HLK.out List.Pairwise.nil)
          rw [HRA.out] at HP
          obtain ⟨l2, hl2⟩ : ∃ l2, l2 = rotD l k := ⟨_, rfl⟩
          have HL2L : Hid (l2.length = j) := Lib.hid (by rw [hl2, (rot_perm l k).length_eq, HLL.out])
          have HL2A : Hid (∀ i, i < j → l2[i]? = some (own[(i + k) % j]!).1) := Lib.hid fun i hi => by
            rw [hl2, rot_at (by rw [HLL.out]; exact HKN.out) (by rw [HLL.out]; exact hi), HLL.out]
            exact HLA.out _ (Nat.mod_lt _ (by omega))
          rw [← hl2] at HRB
          clear hR hl2 HRA HLA HLK HLN HLL hlt hj
          go_wp2_with fail
          go_loopw [12] (fun i wr => ∃ (t : Nat), t ≤ j ∧ i = .int .i64 t ∧ Pr W.heap.size W wr p1 B1 p2 B2 bs R (addAll (l2.take t) []) A5 j fun i => own[i]!) (fun i _ => j - (intOf i).toNat)
          case atStart => exact ⟨0, by omega, rfl, HP.out⟩
          case round =>
            obtain ⟨t, ht, rfl, hP⟩ := hrel
            clear HP
            have HP := Lib.hid hP
            clear hP
            by_cases hlt : t < j
            · obtain ⟨m, hm⟩ : ∃ m, m = (t + k) % j := ⟨_, rfl⟩
              have hmj : m < j := by rw [hm]; exact Nat.mod_lt _ (by omega)
              have HTM : Hid (l2[t]? = some (own[m]!).1) := Lib.hid (by rw [hm]; exact HL2A.out t hlt)
              have hmod : ((t : Int) + (k : Int)).tmod (j : Int) = (m : Int) := by rw [hm]; push_cast; exact Int.tmod_eq_emod_of_nonneg (by omega)
              have hjz : ¬ ((j : Int) = 0) := by omega
              have hwr : IntKind.i64.wrap ((t : Int) + (k : Int)) = (t : Int) + (k : Int) := IntWalk.i64_in _ (by have := HKN.out; have := HNS.out; omega)
              clear hm
              obtain ⟨g, off, rfl, hg, hrow⟩ := HP.out.own (by omega)
              have HG := Lib.hid hg
              have HW : Hid (∀ V, Below bs wr V → V.rangeAt g (off + m * 38) (own[m]!).1.cells) := Lib.hid fun V h i v hi => (World.cell?_of_block (h.block g hg)).trans (hrow m (by omega) i v hi)
              clear hg hrow
              obtain ⟨D, hD⟩ : ∃ D, D = (own[m]!).1 := ⟨_, rfl⟩
              have HK : Hid (KeyOk 32 D.k) := Lib.hid (by rw [hD]; exact (own[m]!).2)
              rw [← hD] at HW
              have HKL : Hid ((Try.prog.info? 26).map (·.size) = some (u8l D.k).length) := Lib.hid (by rw [u8l_len, HK.out.len]; exact infoKey)
              have HTK : Hid (addAll (l2.take (t + 1)) [] = addR (addAll (l2.take t) []) D.k D.q) := Lib.hid (by rw [take_next HTM.out, addAll_snoc, ← hD])
              have HRL2 : Hid ((addAll (l2.take t) []).length < 1000000000) := Lib.hid (by have h1 := len_addAll (l2.take t) []; have h2 := HNS.out; simp at h1; omega)
              have HDL := Lib.hid (deed_len D HK.out)
              have HSZ : Hid ((Try.prog.info? 30).map (·.size) = some D.cells.length) := Lib.hid (by rw [HDL.out]; kernel_rfl)
              clear hD
              have hnn : (0 : Int) ≤ (t : Int) + (k : Int) := by omega
              go_upto_region 22 with fail
              go_step
              repeat ((fail_if_success (refine wpList_load_midG rfl 30 (.tmp 87) rfl g (off + m * 38) rfl D.cells _ (HW.out _ (Below.refl _ _)) Try.underlying30 rfl HSZ.out ?_)); go_step)
              refine wpList_load_midG rfl 30 (.tmp 87) rfl g (off + m * 38) rfl D.cells _ (HW.out _ (Below.refl _ _)) Try.underlying30 rfl HSZ.out ?_
              try simp only [Act.put, List.setIfInBounds_toArray, List.set_cons_zero, List.set_cons_succ]
              refine wpList_boxed rfl 30 13 rfl rfl zD (zeroVD _) (.tmp 88) rfl rfl rfl D.cells rfl rfl HSZ.out (by rw [HDL.out]; rfl) (deed_one D) ?_
              intro w4 hb4 hh4 hs4
              try simp only [Act.put, List.setIfInBounds_toArray, List.set_cons_zero, List.set_cons_succ]
              obtain ⟨b6, hb6⟩ : ∃ b, b = wr.heap.size := ⟨_, rfl⟩
              rw [← hb6] at hh4 ⊢
              have HP4 := Lib.hid (HP.out.below hb4)
              have HR4 : Hid (w4.rangeAt b6 0 D.cells) := Lib.hid (range_of hh4)
              have HK4 : Hid (w4.rangeAt b6 1 (u8l D.k)) := Lib.hid (by have h := (deed_at HK.out HR4.out).2.1; rwa [Nat.zero_add] at h)
              have HQ4 : Hid (w4.rangeAt b6 33 [.int .i64 D.q.a, .int .i64 D.q.n, .int .i64 D.q.u, .int .i64 D.q.r]) := Lib.hid (by have h := (deed_at HK.out HR4.out).2.2.1; rwa [Nat.zero_add] at h)
              clear hb4 hh4 hs4 hb6 HW HR4 hmod hwr
              go_upto_region 23 with fail
              go_step
              repeat ((fail_if_success (refine wpList_load_midG rfl 26 (.tmp 90) rfl b6 1 rfl (u8l D.k) _ HK4.out Try.underlying26 rfl HKL.out ?_)); go_step)
              refine wpList_load_midG rfl 26 (.tmp 90) rfl b6 1 rfl (u8l D.k) _ HK4.out Try.underlying26 rfl HKL.out ?_
              try simp only [Act.put, List.setIfInBounds_toArray, List.set_cons_zero, List.set_cons_succ]
              repeat ((fail_if_success (refine wpList_load_midG rfl 28 (.tmp 92) rfl b6 33 rfl [.int .i64 D.q.a, .int .i64 D.q.n, .int .i64 D.q.u, .int .i64 D.q.r] _ HQ4.out Try.underlying28 rfl sizePl ?_)); go_step)
              refine wpList_load_midG rfl 28 (.tmp 92) rfl b6 33 rfl [.int .i64 D.q.a, .int .i64 D.q.n, .int .i64 D.q.u, .int .i64 D.q.r] _ HQ4.out Try.underlying28 rfl sizePl ?_
              try simp only [Act.put, List.setIfInBounds_toArray, List.set_cons_zero, List.set_cons_succ]
              go_wp2_with fail
              refine (add10 p2 B2 (addAll (l2.take t) []) D.k D.q w4 HK.out HP4.out.ix2 HRL2.out).mono ?_
              rintro e w5 ⟨rfl, hi, hkp⟩
              have HP5 := Lib.hid (HP4.out.turn2 hi hkp)
              clear hi hkp
              rw [← HTK.out] at HP5
              go_wp2_with fail
              exact ⟨⟨t + 1, by omega, by push_cast; rfl, HP5.out⟩, by simp [intOf]; omega⟩
            · obtain rfl : t = j := by omega
              have HP : Hid (Pr W.heap.size W wr p1 B1 p2 B2 bs R R A5 t fun i => own[i]!) := Lib.hid (by have h := HP.out; rwa [show l2.take t = l2 from by rw [← HL2L.out, List.take_length], HRB.out] at h)
              go_wp2_with fail
              refine (items11 p1 B1 R wr HP.out.ix1 (by have := HRL.out; omega)).mono ?_
              rintro e w4 ⟨⟨v4, rfl, ho4⟩, hb4⟩
              obtain ⟨A4, c4, rfl, hs4, hc4, _, _⟩ := srow_arr (wideE _) ho4
              have HP := Lib.hid (HP.out.below hb4)
              have HS4 := Lib.hid hs4
              have HC4 := Lib.hid hc4
              clear ho4 hb4 hs4 hc4
              obtain ⟨N, hN⟩ : ∃ N, N = R.length := ⟨_, rfl⟩
              have HNR := Lib.hid hN
              have HN1 : Hid (N ≤ 100) := Lib.hid (by have := HRL.out; omega)
              rw [← hN] at HS4 HC4 ⊢
              clear hN
              go_wp2_with fail
              go_loopw [15] (fun i wr => ∃ (s q : Nat), 1 ≤ s ∧ (s ≤ N ∨ s = 1) ∧ i = .int .i64 s ∧ wr = w4.drewN q) (fun i _ => N - (intOf i).toNat)
              case atStart => exact ⟨1, 0, by omega, .inr rfl, rfl, rfl⟩
              case round =>
                obtain ⟨s, q, hs1, hs2, rfl, rfl⟩ := hrel
                by_cases hlt : s < N
                · obtain ⟨s', hss⟩ : ∃ s', s = s' + 1 := ⟨s - 1, by omega⟩
                  obtain ⟨g, off, rfl, hg, hrow⟩ := HS4.out (by omega)
                  have HG := Lib.hid hg
                  have hra := item_key (hrow s' (by omega))
                  have hrb := item_key (hrow s (by omega))
                  have hle := rise_next HRR.out (i := s') (by have := HNR.out; omega)
                  rw [← hss] at hle
                  have hKA := (R[s']!).key
                  have hKB := (R[s]!).key
                  obtain ⟨ka, hka⟩ : ∃ k, k = (R[s']!).k := ⟨_, rfl⟩
                  obtain ⟨kb, hkb⟩ : ∃ k, k = (R[s]!).k := ⟨_, rfl⟩
                  rw [← hka] at hra hKA hle
                  rw [← hkb] at hrb hKB hle
                  have hbl : Op.bytesLess (strOfNums ka).toList (strOfNums kb).toList = true := by rw [Lib.strOfNums_toList, Lib.strOfNums_toList, less_kLt ka kb hKA.lo hKB.lo, hle]
                  have cv : ∀ (ks : List Int) (hk : KeyOk 32 ks) (x : Nat), w4.rangeAt g x (u8l ks) → ∀ q, (convert 38 9 (.slice (some ⟨g, x, none⟩) 32 32)).run Try.prog (w4.drewN q) = .ok (.string (strOfNums ks)) (w4.drewN q) := fun ks hk x hg q => by
                    refine run_convert_bytes_arg (w4.drewN q) 38 5 Try.underlying38 Try.underlying5 g x 32 32 ks hk.len (fun i hi => ?_) 9 Try.underlying9
                    have hl : i < ks.length := by rw [hk.len]; exact hi
                    exact hg i (.int .u8 (ks.getD i 0)) (by rw [u8l, List.getElem?_map, List.getElem?_eq_getElem hl, List.getD_eq_getElem?_getD, List.getElem?_eq_getElem hl]; rfl)
                  have hc1 := cv ka hKA _ hra
                  have hc2 := cv kb hKB _ hrb
                  have hsub : (s : Int) - 1 = (s' : Int) := by omega
                  have hwr : IntKind.i64.wrap ((s : Int) - 1) = (s' : Int) := by rw [hsub]; exact IntWalk.i64_in _ (by have := HN1.out; omega)
                  have hwr2 : IntKind.i64.wrap (s' : Int) = (s' : Int) := IntWalk.i64_in _ (by have := HN1.out; omega)
                  have hs3 : s' < N := by omega
                  have hn1 : N ≤ 100 := HN1.out
                  have i1 : (0 : Int) ≤ s' := by omega
                  have i2 : (s' : Int) < N := by omega
                  have i3 : (0 : Int) ≤ s := by omega
                  have i4 : (s : Int) < N := by omega
                  clear hss
                  clear hka hkb hra hrb hKA hKB hle cv hg hrow
                  go_wp2_with fail
                  refine wp_region_held_drew (S := fun w' : World => ∃ n, w' = w4.drewN n) follows ⟨q + 1, rfl⟩ (fun hHeld => ?_)
                  refine wpAnyH_take (i := 0) (v := ?_) (by simp only [List.getElem?_toArray, List.getElem?_cons_zero]; rfl) (by kernel_rfl) (by kernel_rfl) (by kernel_rfl) (by intro _ _ _ h; exact h) (Or.inl ⟨by rfl, ?_⟩) hHeld ?_
                  rotate_left
                  · (intro w hSw; (try dsimp only at hSw); go_simp; try with_reducible rfl)
                  try simp only [Act.put, List.setIfInBounds_toArray, List.set_cons_zero, List.set_cons_succ]
                  refine wpAnyH_take (i := 1) (v := ?_) (by simp only [List.getElem?_toArray, List.getElem?_cons_zero, List.getElem?_cons_succ]; rfl) (by kernel_rfl) (by kernel_rfl) (by kernel_rfl) (by intro _ _ _ h; exact h) (Or.inl ⟨by rfl, ?_⟩) hHeld ?_
                  rotate_left
                  · (intro w hSw; (try dsimp only at hSw); go_simp; try with_reducible rfl)
                  try simp only [Act.put, List.setIfInBounds_toArray, List.set_cons_zero, List.set_cons_succ]
                  refine wpAnyH_take (i := 2) (v := ?_) (by simp only [List.getElem?_toArray, List.getElem?_cons_zero, List.getElem?_cons_succ]; rfl) (by kernel_rfl) (by kernel_rfl) (by kernel_rfl) (by intro _ _ _ h; exact h) (Or.inl ⟨by rfl, ?_⟩) hHeld ?_
                  rotate_left
                  · (intro w hSw; (try dsimp only at hSw); go_simp; try with_reducible rfl)
                  try simp only [Act.put, List.setIfInBounds_toArray, List.set_cons_zero, List.set_cons_succ]
                  refine wpAnyH_take (i := 3) (v := ?_) (by simp only [List.getElem?_toArray, List.getElem?_cons_zero, List.getElem?_cons_succ]; rfl) (by kernel_rfl) (by kernel_rfl) (by kernel_rfl) (by intro _ _ _ h; exact h) (Or.inl ⟨by rfl, ?_⟩) hHeld ?_
                  rotate_left
                  · (intro w hSw; (try dsimp only at hSw); go_simp; try with_reducible rfl)
                  try simp only [Act.put, List.setIfInBounds_toArray, List.set_cons_zero, List.set_cons_succ]
                  refine wpAnyH_take (i := 4) (v := ?_) (by simp only [List.getElem?_toArray, List.getElem?_cons_zero, List.getElem?_cons_succ]; rfl) (by kernel_rfl) (by kernel_rfl) (by kernel_rfl) (by intro _ _ _ h; exact h) (Or.inl ⟨by rfl, ?_⟩) hHeld ?_
                  rotate_left
                  · (intro w hSw; (try dsimp only at hSw); go_simp; try with_reducible rfl)
                  try simp only [Act.put, List.setIfInBounds_toArray, List.set_cons_zero, List.set_cons_succ]
                  refine wpAnyH_take (i := 5) (v := ?_) (by simp only [List.getElem?_toArray, List.getElem?_cons_zero, List.getElem?_cons_succ]; rfl) (by kernel_rfl) (by kernel_rfl) (by kernel_rfl) (by intro _ _ _ h; exact h) (Or.inl ⟨by rfl, ?_⟩) hHeld ?_
                  rotate_left
                  · (intro w hSw; (try dsimp only at hSw); go_simp; try with_reducible rfl)
                  try simp only [Act.put, List.setIfInBounds_toArray, List.set_cons_zero, List.set_cons_succ]
                  refine wpAnyH_take (i := 6) (v := _) (by simp only [List.getElem?_toArray, List.getElem?_cons_zero, List.getElem?_cons_succ]; rfl) (by kernel_rfl) (by kernel_rfl) (by kernel_rfl) (by intro _ _ _ h; exact h) (yields_convert (by rfl) 38 9 (.tmp 108) rfl (.slice (some ⟨g, off + s' * 73 + 1, none⟩) 32 32) rfl (.string (strOfNums ka)) (fun w ⟨q, hq⟩ => by rw [hq]; exact hc1 q)) hHeld ?_
                  try simp only [Act.put, List.setIfInBounds_toArray, List.set_cons_zero, List.set_cons_succ]
                  refine wpAnyH_take (i := 7) (v := ?_) (by simp only [List.getElem?_toArray, List.getElem?_cons_zero, List.getElem?_cons_succ]; rfl) (by kernel_rfl) (by kernel_rfl) (by kernel_rfl) (by intro _ _ _ h; exact h) (Or.inl ⟨by rfl, ?_⟩) hHeld ?_
                  rotate_left
                  · (intro w hSw; (try dsimp only at hSw); go_simp; try with_reducible rfl)
                  try simp only [Act.put, List.setIfInBounds_toArray, List.set_cons_zero, List.set_cons_succ]
                  refine wpAnyH_take (i := 8) (v := ?_) (by simp only [List.getElem?_toArray, List.getElem?_cons_zero, List.getElem?_cons_succ]; rfl) (by kernel_rfl) (by kernel_rfl) (by kernel_rfl) (by intro _ _ _ h; exact h) (Or.inl ⟨by rfl, ?_⟩) hHeld ?_
                  rotate_left
                  · (intro w hSw; (try dsimp only at hSw); go_simp; try with_reducible rfl)
                  try simp only [Act.put, List.setIfInBounds_toArray, List.set_cons_zero, List.set_cons_succ]
                  refine wpAnyH_take (i := 9) (v := ?_) (by simp only [List.getElem?_toArray, List.getElem?_cons_zero, List.getElem?_cons_succ]; rfl) (by kernel_rfl) (by kernel_rfl) (by kernel_rfl) (by intro _ _ _ h; exact h) (Or.inl ⟨by rfl, ?_⟩) hHeld ?_
                  rotate_left
                  · (intro w hSw; (try dsimp only at hSw); go_simp; try with_reducible rfl)
                  try simp only [Act.put, List.setIfInBounds_toArray, List.set_cons_zero, List.set_cons_succ]
                  refine wpAnyH_take (i := 10) (v := ?_) (by simp only [List.getElem?_toArray, List.getElem?_cons_zero, List.getElem?_cons_succ]; rfl) (by kernel_rfl) (by kernel_rfl) (by kernel_rfl) (by intro _ _ _ h; exact h) (Or.inl ⟨by rfl, ?_⟩) hHeld ?_
                  rotate_left
                  · (intro w hSw; (try dsimp only at hSw); go_simp; try with_reducible rfl)
                  try simp only [Act.put, List.setIfInBounds_toArray, List.set_cons_zero, List.set_cons_succ]
                  refine wpAnyH_take (i := 11) (v := ?_) (by simp only [List.getElem?_toArray, List.getElem?_cons_zero, List.getElem?_cons_succ]; rfl) (by kernel_rfl) (by kernel_rfl) (by kernel_rfl) (by intro _ _ _ h; exact h) (Or.inl ⟨by rfl, ?_⟩) hHeld ?_
                  rotate_left
                  · (intro w hSw; (try dsimp only at hSw); go_simp; try with_reducible rfl)
                  try simp only [Act.put, List.setIfInBounds_toArray, List.set_cons_zero, List.set_cons_succ]
                  refine wpAnyH_take (i := 12) (v := _) (by simp only [List.getElem?_toArray, List.getElem?_cons_zero, List.getElem?_cons_succ]; rfl) (by kernel_rfl) (by kernel_rfl) (by kernel_rfl) (by intro _ _ _ h; exact h) (yields_convert (by rfl) 38 9 (.tmp 114) rfl (.slice (some ⟨g, off + s * 73 + 1, none⟩) 32 32) rfl (.string (strOfNums kb)) (fun w ⟨q, hq⟩ => by rw [hq]; exact hc2 q)) hHeld ?_
                  try simp only [Act.put, List.setIfInBounds_toArray, List.set_cons_zero, List.set_cons_succ]
                  refine wpAnyH_take (i := 13) (v := _) (by simp only [List.getElem?_toArray, List.getElem?_cons_zero, List.getElem?_cons_succ]; rfl) (by kernel_rfl) (by kernel_rfl) (by kernel_rfl) (by intro _ _ _ h; exact h) (yields_geq (by rfl) 9 9 (.tmp 109) (.tmp 115) rfl (strOfNums ka) (strOfNums kb) rfl rfl false hbl) hHeld ?_
                  try simp only [Act.put, List.setIfInBounds_toArray, List.set_cons_zero, List.set_cons_succ]
                  refine wpAnyH_done (by kernel_rfl) ?_ _
                  clear hHeld
                  go_wp2_with fail
                  exact ⟨⟨s + 1, q + 1, by omega, .inl (by omega), by push_cast; rfl, rfl⟩, by simp [intOf]; omega⟩
                · have HP := Lib.hid (HP.out.below (w' := w4.drewN q) (below_drewN (Below.refl _ _) q))
                  have HS4 : Hid (SArr (w4.drewN q) (w4.drewN q).heap.size A4 N 73 fun i => cellsIt (itE R[i]!)) := Lib.hid (HS4.out.drewN q)
                  obtain ⟨w5, hw5⟩ : ∃ z, z = w4.drewN q := ⟨_, rfl⟩
                  rw [← hw5] at HP HS4 ⊢
                  clear hw5
                  have HLEN : Hid (Calls Try.prog 12 #[.pointer (some ⟨p1, 0, none⟩)] w5 fun e w' => e = .returned (.int .i64 (N : Nat)) ∧ w5 = w') := Lib.hid (by have := len12 p1 B1 R w5 HP.out.ix1; rwa [← HNR.out] at this)
                  go_wp2_with fail
                  refine HLEN.out.mono ?_
                  rintro e _ ⟨rfl, rfl⟩
                  go_wp2_with fail
                  refine (items11 p2 B2 R w5 HP.out.ix2 (by have := HRL.out; omega)).mono ?_
                  rintro e w6 ⟨⟨v6, rfl, ho6⟩, hb6⟩
                  obtain ⟨A6, c6, rfl, hs6, hc6, _, _⟩ := srow_arr (wideE _) ho6
                  have HP := Lib.hid (HP.out.below hb6)
                  have HS6 := Lib.hid hs6
                  have HS4 := Lib.hid (HS4.out.below hb6 (Nat.le_refl _))
                  clear ho6 hb6 hs6 hc6
                  rw [← HNR.out] at HS6 ⊢
                  go_wp2_with fail
                  refine (sameIt (fun i => itE R[i]!) A4 A6 N c4 c6 _ _ w6 (by have := HN1.out; omega) HS4.out HS6.out).mono ?_
                  rintro e _ ⟨rfl, m, rfl⟩
                  go_wp2_with fail
                  go_ret
                  exact ⟨rfl, below_drewN HP.out.old m⟩
end Go.Proofs.Ytnindkpgmiafnaa
