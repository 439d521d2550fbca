/- The law MapsKeep (layer 23): it returns true at every input. Printed by genNr.py. -/
import Derived.Test.YtodhaaaodmcplaaNq
set_option linter.all false
namespace Go.Proofs.Ytodhaaaodmcplaa
open Go.RowKit Go.Maps Go.WideMaps
abbrev ID : Int := 1073741824
theorem wfID : (Lit.int .i64 1073741824).wf = true := by kernel_rfl
/-- A row of items that is known. -/
abbrev RowI (w : World) (base : Nat) (A : Option Addr) (c : Nat) (L : List Itm) : Prop := w.ownsRow base 69 73 (.slice A L.length c) L.length (cellsL L)
theorem rowI_sarr {w : World} {base c : Nat} {A : Option Addr} {L : List Itm} (hL : ∀ x ∈ L, OkIt x) (h : RowI w base A c L) : SArr w w.heap.size A L.length 73 fun i => cellsIt (elI L i) := by
  obtain ⟨A2, c2, e, ha, _, _⟩ := row_items hL h
  injection e with e
  subst e
  exact ha
theorem rowI_go {w w2 : World} {base c : Nat} {A : Option Addr} {L : List Itm} (h : RowI w base A c L) (hb : Below w.heap.size w w2) : RowI w2 base A c L := (Keeps.fresh (S := fun _ => False) hb).row h fun _ _ h => h
/-- What is done to maps leaves rows of items as they are. -/
theorem rowI_out {n0 : Nat} {w w2 : World} {p mb base c : Nat} {st st2 : MS} {A : Option Addr} {L : List Itm} (h : RowI w base A c L) (hm : Ms n0 w p mb st) (hO : OutM n0 w w2 p mb st2) : RowI w2 base A c L := by
  refine hO.2.row h fun k hk e => ?_
  obtain ⟨A2, hm⟩ := hm
  rcases h.2 with ⟨h1, _⟩ | ⟨g, cap, cur, h1, _, hg, _⟩
  · rw [h1] at hk; cases hk
  · rw [h1] at hk
    injection hk with hk
    subst hk
    rcases e with rfl | rfl
    · exact cells_ne hg hm.blk (by decide) rfl
    · exact gm_ne hg hm.map rfl
theorem rowM_same (n : Nat) (F : Mp1) (a b : Int) : (rowM n F a).length = (rowM n F b).length := by
  rw [← as_row n F a b, asI_len]
theorem find_drop {st : MS} (a b : Int) (h : findS a st.snaps = none) : findS a (dropM st b).snaps = none := by
  by_cases e : a = b
  · subst e; exact find_del_same
  · exact (find_del_other e).trans h
theorem snap_mine {st : MS} {id : Int} (h : ¬ (id < 1 ∨ 1073741824 < id)) (hf : findS id st.snaps = none) (h8 : ¬ 8 ≤ st.snaps.length) : findS id (snapM st id).snaps = some (snapM st id).now := by
  rw [(snap_ok h hf h8).2]
  exact find_ins_same (find_none.1 hf)
/-- Room for one more. -/
theorem first_id {st : MS} (h : Inv st) (h8 : st.snaps.length = 8) : ∃ x F, idA st 1 = x ∧ findS x st.snaps = some F ∧ (Lit.int .i64 x).wf = true ∧ (dropM st x).snaps.length = 7 := by
  obtain ⟨y, hy⟩ : ∃ y, (allS st)[1]? = some y := ⟨_, List.getElem?_eq_getElem (by simp [allS, h8])⟩
  have hm : y ∈ st.snaps := List.mem_of_getElem? (i := 0) hy
  have hid := h.ids y hm
  have hof := of_all h hy
  unfold ofM at hof
  rw [if_neg (by omega)] at hof
  have hl := del_length h.rise hof
  refine ⟨y.1, y.2, idA_at hy, hof, id_wf hid, ?_⟩
  show (st.snaps.filter fun x => decide (x.1 ≠ y.1)).length = 7
  omega
/-- What MapsKeep has before its second loop: the snapshot is the current map. -/
structure Kp (W w : World) (p mb N : Nat) (st : MS) (F : Mp1) : Prop where
  m : Ms W.heap.size w p mb st
  n : st.n = N
  f : findS ID st.snaps = some F
  old : Below W.heap.size W w
theorem Kp.go {W w w2 : World} {p mb N : Nat} {st : MS} {F : Mp1} (h : Kp W w p mb N st F) (hb : Below w.heap.size w w2) : Kp W w2 p mb N st F := ⟨h.m.go hb, h.n, h.f, h.old.trans (hb.mono h.old.size)⟩
theorem ms_old {W w w2 : World} {p mb : Nat} {st st2 : MS} (h : Ms W.heap.size w p mb st) (ho : Below W.heap.size W w) (hO : OutM W.heap.size w w2 p mb st2) : Below W.heap.size W w2 := out_below ho ho.size h hO
set_option maxRecDepth 100000 in
set_option maxHeartbeats 8000000 in
theorem keep4 (un : Int) (L : Nat → Dox) (A : Option Addr) (n c : Nat) (L2 : Nat → Dox) (A2 : Option Addr) (n2 c2 : Nat) (W : World) (_w0 : (Lit.int .i64 un).wf = true) (_hnc : n ≤ c) (_hA : A = none → n = 0 ∧ c = 0) (hL : ∀ i, i < n → KeyOk 32 (L i).s.k ∧ (Lit.int .i64 (L i).op).wf = true ∧ (Lit.int .i64 (L i).a).wf = true ∧ (Lit.int .i64 (L i).b).wf = true ∧ (Lit.int .i64 (L i).s.o).wf = true ∧ (Lit.int .i64 (L i).s.m).wf = true) (ha : SArr W W.heap.size A n 37 fun i => (L i).cells)
    (_hnc2 : n2 ≤ c2) (_hA2 : A2 = none → n2 = 0 ∧ c2 = 0) (hL2 : ∀ i, i < n2 → KeyOk 32 (L2 i).s.k ∧ (Lit.int .i64 (L2 i).op).wf = true ∧ (Lit.int .i64 (L2 i).a).wf = true ∧ (Lit.int .i64 (L2 i).b).wf = true ∧ (Lit.int .i64 (L2 i).s.o).wf = true ∧ (Lit.int .i64 (L2 i).s.m).wf = true) (ha2 : SArr W W.heap.size A2 n2 37 fun i => (L2 i).cells) :
    Calls Try.prog 4 #[.int .i64 un, .slice A n c, .slice A2 n2 c2] W fun e w' => e = .returned (.bool true) ∧ Below W.heap.size W w' := by
  have HL : Hid (∀ i, i < n → OkDo (L i)) := Lib.hid fun i hi => ⟨(hL i hi).1, (hL i hi).2.1, (hL i hi).2.2.1, (hL i hi).2.2.2.1⟩
  have HA := Lib.hid ha
  have HL2 : Hid (∀ i, i < n2 → OkDo (L2 i)) := Lib.hid fun i hi => ⟨(hL2 i hi).1, (hL2 i hi).2.1, (hL2 i hi).2.2.1, (hL2 i hi).2.2.2.1⟩
  have HA2 := Lib.hid ha2
  clear hL ha hL2 ha2 _w0 _hnc _hA _hnc2 _hA2
  go_enter Try.func4, Try.ntmps4
  go_wp2_with fail
  refine (awake_p W).mono ?_
  rintro e w1 ⟨rfl, hb1⟩
  have B1 := Lib.hid hb1
  clear hb1
  by_cases hn : 60 < n
  · have d1 : decide ((60 : Int) < n) = true := by simp; omega
    have d1n : decide (60 < n) = true := by simp; omega
    go_wp2_with fail
    go_ret
    exact ⟨rfl, B1.out⟩
  have d1 : decide ((60 : Int) < n) = false := by simp; omega
  have d1n : decide (60 < n) = false := by simp; omega
  by_cases hn2 : 60 < n2
  · have d2 : decide ((60 : Int) < n2) = true := by simp; omega
    have d2n : decide (60 < n2) = true := by simp; omega
    go_wp2_with fail
    go_ret
    exact ⟨rfl, B1.out⟩
  have d2 : decide ((60 : Int) < n2) = false := by simp; omega
  have d2n : decide (60 < n2) = false := by simp; omega
  have hn60 : n ≤ 60 := by omega
  have hn62 : n2 ≤ 60 := by omega
  obtain ⟨u, hu⟩ : ∃ u : Nat, un % 40 = u := ⟨(un % 40).toNat, by have := Int.emod_nonneg un (show (40 : Int) ≠ 0 by omega); omega⟩
  have hu40 : u < 40 := by have := Int.emod_lt_of_pos un (show (0 : Int) < 40 by omega); omega
  have P1 : Hid (∀ w, Calls Try.prog 16 #[.int .i64 un, .int .i64 40] w fun e w' => e = .returned (.int .i64 u) ∧ w = w') := Lib.hid fun w => by have h := pick9 un 40 w (by omega) (by omega); rwa [hu] at h
  obtain ⟨N, hN⟩ : ∃ N : Nat, (1 : Int) + (u : Int) = N := ⟨1 + u, by push_cast; rfl⟩
  have f1 : IntKind.i64.wrap (N : Int) = N := IntWalk.i64_in _ (by omega)
  have HNN : Hid (1 ≤ N ∧ N ≤ 512) := Lib.hid (by omega)
  clear hu hn hn2
  go_wp2_with fail
  refine (P1.out _).mono ?_
  rintro e _ ⟨rfl, rfl⟩
  go_wp2_with fail
  refine (new_yes N w1 HNN.out).mono ?_
  rintro e w2 ⟨p, mb, rfl, hm, hb⟩
  have HM := Lib.hid (hm.base B1.out.size)
  have HO := Lib.hid (B1.out.trans (hb.mono B1.out.size))
  clear hm hb B1 d1 d1n d2 d2n hN f1 hu40 P1
  go_upto_region 7 with fail
  go_loopw [8] (fun i wr => ∃ (j : Nat) (s : MS), j ≤ n ∧ i = .int .i64 j ∧ s.n = N ∧ Ms W.heap.size wr p mb s ∧ Below W.heap.size W wr) (fun i _ => n - (Go.RowKit.intOf i).toNat)
  case atStart => exact ⟨0, st0 N, Nat.zero_le _, rfl, rfl, HM.out, HO.out⟩
  case round =>
    obtain ⟨j, s, hj, rfl, hsn, hM, hO⟩ := hrel
    clear HM HO
    have HM := Lib.hid hM
    have HO := Lib.hid hO
    have HSN := Lib.hid hsn
    clear hM hO hsn
    by_cases hlt : j < n
    · obtain ⟨g, off, rfl, hg, hrow⟩ := HA.out (by omega)
      have HOK := Lib.hid (HL.out j hlt)
      have hr : wr.rangeAt g (off + j * 37) (L j).cells := fun i v hi => (World.cell?_of_block (HO.out.block g hg)).trans (hrow j hlt i v hi)
      obtain ⟨d, hd⟩ : ∃ d, d = L j := ⟨_, rfl⟩
      rw [← hd] at hr HOK
      have HSZ := Lib.hid (sizeDo HOK.out.k)
      have RA := Lib.hid hr
      have i1 : (0 : Int) ≤ j := by omega
      have i2 : (j : Int) < n := by omega
      clear hg hrow hd hr
      go_wp2_with (refine wpList_load_midG rfl 27 (.tmp 36) rfl g (off + j * 37) rfl d.cells _ RA.out Try.underlying27 rfl HSZ.out ?_)
      refine (do_p HM.out d HOK.out).mono ?_
      rintro e w4 ⟨rfl, hO⟩
      have HO := Lib.hid (ms_old HM.out HO.out hO)
      have HM := Lib.hid hO.1
      clear hO
      go_wp2_with fail
      exact ⟨⟨j + 1, doD s d, by omega, by push_cast; rfl, by rw [n_doD]; exact HSN.out, HM.out, HO.out⟩, by simp [Go.RowKit.intOf]; omega⟩
    · obtain rfl : j = n := by omega
      clear HA HL hlt hj
      go_wp2_with fail
      refine (drop_p HM.out 1073741824 wfID).mono ?_
      rintro e w3 ⟨rfl, hO⟩
      have HO := Lib.hid (ms_old HM.out HO.out hO)
      have HM := Lib.hid hO.1
      clear hO
      have HF1 : Hid (findS ID (dropM s 1073741824).snaps = none) := Lib.hid find_del_same
      have HSN : Hid ((dropM s 1073741824).n = N) := Lib.hid HSN.out
      obtain ⟨s1, hs1⟩ : ∃ s1, s1 = dropM s 1073741824 := ⟨_, rfl⟩
      rw [← hs1] at HF1 HM HSN
      clear hs1
      go_wp2_with fail
      refine (ids_p HM.out).mono ?_
      rintro e w4 ⟨v4, rfl, ho, hb⟩
      rw [idA_row] at ho
      obtain ⟨A4, c4, rfl, ha4, _, _, _⟩ := row_arr ho
      have HM := Lib.hid (HM.out.go hb)
      have HO := Lib.hid (HO.out.trans (hb.mono HO.out.size))
      have R4 := Lib.hid ha4
      obtain ⟨K, hK⟩ : ∃ K, K = s1.snaps.length := ⟨_, rfl⟩
      have HK := Lib.hid hK
      rw [← hK] at R4 ⊢
      have HK8 : Hid (K ≤ 8) := Lib.hid (by rw [hK]; exact HM.out.inv.len)
      clear ho hb ha4 hK
      have HIV : Hid (¬ ((1073741824 : Int) < 1 ∨ (1073741824 : Int) < 1073741824)) := Lib.hid (by decide)
      go_upto_region 12 with fail
      go_cut [58] from 43 to 58 (fun s58 wx => s58 = .bool false ∧ ∃ (s3 : MS), Kp W wx p mb N s3 s3.now)
      case first =>
        by_cases hk8 : K = 8
        · obtain ⟨x, F, hx1, hx2, hx3, hx4⟩ := first_id HM.out.inv (by rw [← HK.out]; exact hk8)
          obtain ⟨g, off, rfl, hg, hrow⟩ := R4.out (by omega)
          have c40 := hrow 0 (by omega)
          simp only [Nat.zero_add, Nat.add_zero] at c40
          rw [hx1] at c40
          have HDE := Lib.hid (drop_some hx2)
          have HX3 := Lib.hid hx3
          have HX4 := Lib.hid hx4
          subst hk8
          have e8 : (((8 : Nat) : Int) == 8) = true := by decide
          clear hg hrow hx1 hx2 hx3 hx4
          go_wp2_with fail
          have c1 := drop_p HM.out x HX3.out
          rw [HDE.out] at c1
          refine c1.mono ?_
          rintro e w5 ⟨rfl, hO⟩
          have HO := Lib.hid (ms_old HM.out HO.out hO)
          have HM := Lib.hid hO.1
          have HF2 := Lib.hid (find_drop ID x HF1.out)
          have HSE := Lib.hid (snap_ok HIV.out HF2.out (by rw [HX4.out]; omega))
          have HSM := Lib.hid (snap_mine HIV.out HF2.out (by rw [HX4.out]; omega))
          clear hO c1 c40
          go_wp2_with fail
          have c1 := snap_p HM.out 1073741824 wfID
          rw [HSE.out.1] at c1
          refine c1.mono ?_
          rintro e w6 ⟨rfl, hO⟩
          have HO := Lib.hid (ms_old HM.out HO.out hO)
          have HM := Lib.hid hO.1
          have HSN2 : Hid ((snapM (dropM s1 x) 1073741824).n = N) := Lib.hid (by rw [HSE.out.2]; exact HSN.out)
          clear hO c1
          go_wp2_with fail
          go_meet
          exact ⟨rfl, _, HM.out, HSN2.out, HSM.out, HO.out⟩
        · have e8 : ((K : Int) == 8) = false := by simp; omega
          have e8n : (K == 8) = false := by simp; omega
          have HSE := Lib.hid (snap_ok HIV.out HF1.out (by have := HK.out; have := HK8.out; omega))
          have HSM := Lib.hid (snap_mine HIV.out HF1.out (by have := HK.out; have := HK8.out; omega))
          go_wp2_with fail
          have c1 := snap_p HM.out 1073741824 wfID
          rw [HSE.out.1] at c1
          refine c1.mono ?_
          rintro e w6 ⟨rfl, hO⟩
          have HO := Lib.hid (ms_old HM.out HO.out hO)
          have HM := Lib.hid hO.1
          have HSN2 : Hid ((snapM s1 1073741824).n = N) := Lib.hid (by rw [HSE.out.2]; exact HSN.out)
          clear hO c1
          go_wp2_with fail
          go_meet
          exact ⟨rfl, _, HM.out, HSN2.out, HSM.out, HO.out⟩
      case rest =>
        obtain ⟨rfl, s3, hk⟩ := hcut
        clear HM HO HF1 HSN HIV HK HK8 R4
        have HKP := Lib.hid hk
        clear hk
        obtain ⟨F, hF⟩ : ∃ F, F = s3.now := ⟨_, rfl⟩
        have HFN := Lib.hid hF
        rw [← hF] at HKP
        clear hF
        have HI3 := Lib.hid HKP.out.m.inv
        have HW0 : Hid (ofI 0 (itemsM s3) = rowM N F 0) := Lib.hid (by rw [of_now HI3.out, HKP.out.n, ← HFN.out])
        go_wp2_with fail
        refine (items_p HKP.out.m).mono ?_
        rintro e w5 ⟨v5, rfl, ho, hb⟩
        obtain ⟨A5, c5, rfl⟩ := row_shapeS ho
        have RW := Lib.hid ho
        have HKP := Lib.hid (HKP.out.go hb)
        have OKW := Lib.hid (items_ok HI3.out)
        have LNW := Lib.hid (items_len HI3.out)
        clear ho hb
        obtain ⟨LW, hLW⟩ : ∃ LW, LW = itemsM s3 := ⟨_, rfl⟩
        obtain ⟨bw, hbw⟩ : ∃ bw, bw = wc.heap.size := ⟨_, rfl⟩
        rw [← hLW] at HW0 RW OKW LNW ⊢
        try rw [← hbw] at RW
        clear hLW hbw HI3 HFN
        go_upto_region 16 with fail
        go_loopw [11] (fun i wr => ∃ (j : Nat) (s : MS), j ≤ n2 ∧ i = .int .i64 j ∧ Kp W wr p mb N s F ∧ RowI wr bw A5 c5 LW) (fun i _ => n2 - (Go.RowKit.intOf i).toNat)
        case atStart => exact ⟨0, s3, Nat.zero_le _, rfl, HKP.out, RW.out⟩
        case round =>
          obtain ⟨j, s, hj, rfl, hK, hR⟩ := hrel
          clear HKP RW
          have HKP := Lib.hid hK
          have RW := Lib.hid hR
          clear hK hR
          by_cases hlt : j < n2
          · obtain ⟨g, off, rfl, hg, hrow⟩ := HA2.out (by omega)
            have HOK := Lib.hid (HL2.out j hlt)
            have hr : wr.rangeAt g (off + j * 37) (L2 j).cells := fun i v hi => (World.cell?_of_block (HKP.out.old.block g hg)).trans (hrow j hlt i v hi)
            obtain ⟨d, hd⟩ : ∃ d, d = L2 j := ⟨_, rfl⟩
            rw [← hd] at hr HOK
            have HSZ := Lib.hid (sizeDo HOK.out.k)
            have RA := Lib.hid hr
            obtain ⟨q0, q1, _, _⟩ := do_at hr
            obtain ⟨dop, hop⟩ : ∃ z, z = d.op := ⟨_, rfl⟩
            obtain ⟨da, hda⟩ : ∃ z, z = d.a := ⟨_, rfl⟩
            rw [← hop] at q0
            rw [← hda] at q1
            have HDO := Lib.hid hop
            have HDA := Lib.hid hda
            have i1 : (0 : Int) ≤ j := by omega
            have i2 : (j : Int) < n2 := by omega
            clear hg hrow hd hr hop hda
            have KEEP : Hid (¬ (dop % 9 = 6 ∧ da = 1073741824) → findS ID (doD s d).snaps = some F) := Lib.hid fun h => keep_do HKP.out.f _ _ _ _ (by rw [← HDO.out, ← HDA.out]; exact h)
            by_cases hda : da = 1073741824
            · have g1 : (da == 1073741824) = true := by simp [hda]
              by_cases hop : dop % 9 = 6
              · subst hda
                have HP6 : Hid (∀ w, Calls Try.prog 16 #[.int .i64 dop, .int .i64 9] w fun e w' => e = .returned (.int .i64 6) ∧ w = w') := Lib.hid fun w => by have h := pick9 dop 9 w (by omega) (by omega); rwa [hop] at h
                clear hop KEEP
                go_wp2_with fail
                refine (HP6.out _).mono ?_
                rintro e _ ⟨rfl, rfl⟩
                go_wp2_with fail
                exact ⟨⟨j + 1, s, by omega, by push_cast; rfl, HKP.out, RW.out⟩, by simp [Go.RowKit.intOf]; omega⟩
              · have HKD := Lib.hid (KEEP.out fun h => hop h.1)
                subst hda
                obtain ⟨pk, hpk⟩ : ∃ pk, pk = dop % 9 := ⟨_, rfl⟩
                have HP6 : Hid (∀ w, Calls Try.prog 16 #[.int .i64 dop, .int .i64 9] w fun e w' => e = .returned (.int .i64 pk) ∧ w = w') := Lib.hid fun w => by have h := pick9 dop 9 w (by omega) (by omega); rwa [← hpk] at h
                rw [← hpk] at hop
                have g2 : (pk == 6) = false := by simpa using hop
                have g3 : (pk != 6) = true := by simpa using hop
                clear hpk hop KEEP
                go_wp2_with fail
                refine (HP6.out _).mono ?_
                rintro e _ ⟨rfl, rfl⟩
                go_wp2_with (refine wpList_load_midG rfl 27 (.tmp 85) rfl g (off + j * 37) rfl d.cells _ RA.out Try.underlying27 rfl HSZ.out ?_)
                refine (do_p HKP.out.m d HOK.out).mono ?_
                rintro e w4 ⟨rfl, hO⟩
                have RW := Lib.hid (rowI_out RW.out HKP.out.m hO)
                have HKP : Hid (Kp W w4 p mb N (doD s d) F) := Lib.hid ⟨hO.1, by rw [n_doD]; exact HKP.out.n, HKD.out, ms_old HKP.out.m HKP.out.old hO⟩
                clear hO
                go_wp2_with fail
                exact ⟨⟨j + 1, _, by omega, by push_cast; rfl, HKP.out, RW.out⟩, by simp [Go.RowKit.intOf]; omega⟩
            · have HKD := Lib.hid (KEEP.out fun h => hda h.2)
              have g1 : (da == 1073741824) = false := by simpa using hda
              have g2 : (da != 1073741824) = true := by simpa using hda
              clear hda KEEP
              go_wp2_with (refine wpList_load_midG rfl 27 (.tmp 85) rfl g (off + j * 37) rfl d.cells _ RA.out Try.underlying27 rfl HSZ.out ?_)
              refine (do_p HKP.out.m d HOK.out).mono ?_
              rintro e w4 ⟨rfl, hO⟩
              have RW := Lib.hid (rowI_out RW.out HKP.out.m hO)
              have HKP : Hid (Kp W w4 p mb N (doD s d) F) := Lib.hid ⟨hO.1, by rw [n_doD]; exact HKP.out.n, HKD.out, ms_old HKP.out.m HKP.out.old hO⟩
              clear hO
              go_wp2_with fail
              exact ⟨⟨j + 1, _, by omega, by push_cast; rfl, HKP.out, RW.out⟩, by simp [Go.RowKit.intOf]; omega⟩
          · obtain rfl : j = n2 := by omega
            clear HA2 HL2 hlt hj
            have HIE := Lib.hid HKP.out.m.inv
            have HNE : Hid (ofI ID (itemsM s) = rowM N F ID) := Lib.hid (by rw [of_snap HIE.out HKP.out.f, HKP.out.n])
            have OKN := Lib.hid (items_ok HIE.out)
            have LNN := Lib.hid (items_len HIE.out)
            have HBE := Lib.hid (And.intro (drop_some HKP.out.f) (back_some HKP.out.f))
            have HOR : Hid (∀ id, (0 ≤ id ∧ id ≤ 1073741824) → ∀ x ∈ rowM N F id, OkIt x) := Lib.hid fun id h => rowM_ok HNN.out.2 h
            have HRL : Hid (∀ id, (rowM N F id).length ≤ 512) := Lib.hid fun id => Nat.le_trans (rowM_len N F id) HNN.out.2
            have HAS := Lib.hid (as_row N F 0 ID)
            have HLE := Lib.hid (rowM_same N F 0 ID)
            go_wp2_with fail
            refine (items_p HKP.out.m).mono ?_
            rintro e w6 ⟨v6, rfl, ho, hb⟩
            obtain ⟨A6, c6, rfl⟩ := row_shapeS ho
            have RN := Lib.hid ho
            have HKP := Lib.hid (HKP.out.go hb)
            have RW := Lib.hid (rowI_go RW.out hb)
            clear ho hb
            obtain ⟨LN, hLN⟩ : ∃ LN, LN = itemsM s := ⟨_, rfl⟩
            rw [← hLN] at HNE RN OKN LNN ⊢
            clear hLN
            go_wp2_with fail
            refine (lawOf_p LN OKN.out A6 c6 _ ID w6 (Nat.le_refl _) LNN.out (rowI_sarr OKN.out RN.out)).mono ?_
            rintro e w7 ⟨v7, rfl, ho, hb⟩
            rw [HNE.out] at ho
            obtain ⟨A7, c7, rfl⟩ := row_shapeS ho
            have R7 := Lib.hid ho
            have HKP := Lib.hid (HKP.out.go hb)
            have RW := Lib.hid (rowI_go RW.out hb)
            have RN := Lib.hid (rowI_go RN.out hb)
            clear ho hb
            go_wp2_with fail
            refine (lawOf_p LW OKW.out A5 c5 _ 0 w7 (Nat.le_refl _) LNW.out (rowI_sarr OKW.out RW.out)).mono ?_
            rintro e w8 ⟨v8, rfl, ho, hb⟩
            rw [HW0.out] at ho
            obtain ⟨A8, c8, rfl⟩ := row_shapeS ho
            have R8 := Lib.hid ho
            have B8 := Lib.hid hb
            clear ho hb
            go_wp2_with fail
            refine (lawAs_p (rowM N F 0) (HOR.out 0 (by decide)) _ w7.heap.size ID wfID w8 (by have := HRL.out 0; omega) R8.out).mono ?_
            rintro e w9 ⟨rfl, ho, hk⟩
            rw [HAS.out] at ho
            have hb : Below w7.heap.size w7 w9 := B8.out.trans (hk.below (fun k e => (row_lt R8.out e).1) B8.out.size)
            rw [HLE.out] at ho ⊢
            have R9 := Lib.hid ho
            have HKP := Lib.hid (HKP.out.go hb)
            have RW := Lib.hid (rowI_go RW.out hb)
            have RN := Lib.hid (rowI_go RN.out hb)
            have R7 := Lib.hid (rowI_go R7.out hb)
            clear ho hb hk B8 R8
            go_wp2_with fail
            refine (sameItems (rowM N F ID) (HOR.out ID (by decide)) (by have := HRL.out ID; omega) A7 A8 c7 c8 _ _ w9 (rowI_sarr (HOR.out ID (by decide)) R7.out) (rowI_sarr (HOR.out ID (by decide)) R9.out)).mono ?_
            rintro e w10 ⟨rfl, hb⟩
            have HKP := Lib.hid (HKP.out.go hb)
            have RW := Lib.hid (rowI_go RW.out hb)
            have RN := Lib.hid (rowI_go RN.out hb)
            clear hb R7 R9
            go_wp2_with fail
            have c1 := back_p HKP.out.m ID wfID
            rw [HBE.out.1, HBE.out.2] at c1
            refine c1.mono ?_
            rintro e w11 ⟨rfl, hO⟩
            have RW := Lib.hid (rowI_out RW.out HKP.out.m hO)
            have RN := Lib.hid (rowI_out RN.out HKP.out.m hO)
            have HKP : Hid (Kp W w11 p mb N { s with now := F } F) := Lib.hid ⟨hO.1, HKP.out.n, HKP.out.f, ms_old HKP.out.m HKP.out.old hO⟩
            clear hO c1
            obtain ⟨sB, hsB⟩ : ∃ sB : MS, sB = { s with now := F } := ⟨_, rfl⟩
            have HSB : Hid (sB.now = F) := Lib.hid (by rw [hsB])
            rw [← hsB] at HKP
            clear hsB
            have HIB := Lib.hid HKP.out.m.inv
            have HB0 : Hid (ofI 0 (itemsM sB) = rowM N F 0) := Lib.hid (by rw [of_now HIB.out, HKP.out.n, HSB.out])
            have HB1 : Hid (ofI ID (itemsM sB) = rowM N F ID) := Lib.hid (by rw [of_snap HIB.out HKP.out.f, HKP.out.n])
            have OKB := Lib.hid (items_ok HIB.out)
            have LNB := Lib.hid (items_len HIB.out)
            go_wp2_with fail
            refine (items_p HKP.out.m).mono ?_
            rintro e w12 ⟨v12, rfl, ho, hb⟩
            obtain ⟨A12, c12, rfl⟩ := row_shapeS ho
            have RB := Lib.hid ho
            have HKP := Lib.hid (HKP.out.go hb)
            have RW := Lib.hid (rowI_go RW.out hb)
            have RN := Lib.hid (rowI_go RN.out hb)
            clear ho hb
            go_wp2_with fail
            refine (lawOf_p (itemsM sB) OKB.out A12 c12 _ 0 w12 (Nat.le_refl _) LNB.out (rowI_sarr OKB.out RB.out)).mono ?_
            rintro e w13 ⟨v13, rfl, ho, hb⟩
            rw [HB0.out] at ho
            obtain ⟨A13, c13, rfl⟩ := row_shapeS ho
            have R13 := Lib.hid ho
            have HKP := Lib.hid (HKP.out.go hb)
            have RW := Lib.hid (rowI_go RW.out hb)
            have RN := Lib.hid (rowI_go RN.out hb)
            clear ho hb RB
            go_wp2_with fail
            refine (lawOf_p LW OKW.out A5 c5 _ 0 w13 (Nat.le_refl _) LNW.out (rowI_sarr OKW.out RW.out)).mono ?_
            rintro e w14 ⟨v14, rfl, ho, hb⟩
            rw [HW0.out] at ho
            obtain ⟨A14, c14, rfl⟩ := row_shapeS ho
            have R14 := Lib.hid ho
            have HKP := Lib.hid (HKP.out.go hb)
            have RN := Lib.hid (rowI_go RN.out hb)
            have R13 := Lib.hid (rowI_go R13.out hb)
            clear ho hb RW
            go_wp2_with fail
            refine (sameItems (rowM N F 0) (HOR.out 0 (by decide)) (by have := HRL.out 0; omega) A13 A14 c13 c14 _ _ w14 (rowI_sarr (HOR.out 0 (by decide)) R13.out) (rowI_sarr (HOR.out 0 (by decide)) R14.out)).mono ?_
            rintro e w15 ⟨rfl, hb⟩
            have HKP := Lib.hid (HKP.out.go hb)
            have RN := Lib.hid (rowI_go RN.out hb)
            clear hb R13 R14
            go_wp2_with fail
            refine (items_p HKP.out.m).mono ?_
            rintro e w16 ⟨v16, rfl, ho, hb⟩
            obtain ⟨A16, c16, rfl⟩ := row_shapeS ho
            have RB := Lib.hid ho
            have HKP := Lib.hid (HKP.out.go hb)
            have RN := Lib.hid (rowI_go RN.out hb)
            clear ho hb
            go_wp2_with fail
            refine (lawOf_p (itemsM sB) OKB.out A16 c16 _ ID w16 (Nat.le_refl _) LNB.out (rowI_sarr OKB.out RB.out)).mono ?_
            rintro e w17 ⟨v17, rfl, ho, hb⟩
            rw [HB1.out] at ho
            obtain ⟨A17, c17, rfl⟩ := row_shapeS ho
            have R17 := Lib.hid ho
            have HKP := Lib.hid (HKP.out.go hb)
            have RN := Lib.hid (rowI_go RN.out hb)
            clear ho hb RB
            go_wp2_with fail
            refine (lawOf_p LN OKN.out A6 c6 _ ID w17 (Nat.le_refl _) LNN.out (rowI_sarr OKN.out RN.out)).mono ?_
            rintro e w18 ⟨v18, rfl, ho, hb⟩
            rw [HNE.out] at ho
            obtain ⟨A18, c18, rfl⟩ := row_shapeS ho
            have R18 := Lib.hid ho
            have HKP := Lib.hid (HKP.out.go hb)
            have R17 := Lib.hid (rowI_go R17.out hb)
            clear ho hb RN
            go_wp2_with fail
            refine (sameItems (rowM N F ID) (HOR.out ID (by decide)) (by have := HRL.out ID; omega) A17 A18 c17 c18 _ _ w18 (rowI_sarr (HOR.out ID (by decide)) R17.out) (rowI_sarr (HOR.out ID (by decide)) R18.out)).mono ?_
            rintro e w19 ⟨rfl, hb⟩
            have HKP := Lib.hid (HKP.out.go hb)
            clear hb R17 R18
            go_wp2_with fail
            go_ret
            exact ⟨rfl, HKP.out.old⟩
end Go.Proofs.Ytodhaaaodmcplaa
