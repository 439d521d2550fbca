/- Layer 24 (refs): the law RefsSums. -/
import Derived.Test.YtblfkngdieffiaaLq
import Derived.Test.YtblfkngdieffiaaRi
namespace Go.Proofs.Ytblfkngdieffiaa
open Go.RowKit Go.Maps Go.WideMaps
theorem enter21 : ∀ args w, (callFunc 21 args).run Try.prog w = .ok (.enter 21 args) w := enters_of Try.func21 (by kernel_rfl) rfl
theorem srow_shapeI {w : World} {base n : Nat} {A : Option Addr} {c : Nat} {L : Nat → ElIt} (ho : w.ownsRow base 42 73 (.slice A n c) n (flatS (fun i => cellsIt (L i)) n)) : SArr w w.heap.size A n 73 fun i => cellsIt (L i) := by
  obtain ⟨A', cap, e1, h, _⟩ := srow_arr (wideIt L) ho
  injection e1 with e1
  rw [e1]; exact h
theorem lst_nil {L : Nat → ElC} {n : Nat} (h : lst L n = []) : n = 0 := by
  have := congrArg List.length h
  rwa [lst_len] at this
set_option maxRecDepth 100000 in
set_option maxHeartbeats 8000000 in
theorem sums6 (I J : Nat → ElIt) (A1 A2 : Option Addr) (n1 c1 n2 c2 : Nat) (W : World) (hA1 : A1 = none → n1 = 0 ∧ c1 = 0) (hA2 : A2 = none → n2 = 0 ∧ c2 = 0) (ha1 : SArr W W.heap.size A1 n1 73 fun i => cellsIt (I i)) (ha2 : SArr W W.heap.size A2 n2 73 fun i => cellsIt (J i)) :
    Calls Try.prog 6 #[.slice A1 n1 c1, .slice A2 n2 c2] W fun e W' => e = .returned (.bool true) ∧ Below W.heap.size W W' := by
  obtain ⟨i0, hi, hz0, hz1, hz2⟩ := infoParts infoIt
  have HI := Lib.hid (And.intro hi (And.intro hz0 (And.intro hz1 hz2)))
  clear hi hz0 hz1 hz2
  have HA1 := Lib.hid ha1
  have HA2 := Lib.hid ha2
  have HN1 := Lib.hid hA1
  have HN2 := Lib.hid hA2
  clear ha1 ha2 hA1 hA2
  go_enter Try.func6, Try.ntmps6
  go_wp2_with fail
  refine (awake8 W).mono ?_
  rintro e w1 ⟨rfl, hb⟩
  have B1 := Lib.hid hb
  clear hb
  by_cases g1 : n1 ≤ 300
  · by_cases g2 : n2 ≤ 300
    · have T1 : Hid (∀ w', Below W.heap.size W w' → SArr w' w'.heap.size A1 n1 73 fun i => cellsIt (I i)) := Lib.hid fun w' h => (HA1.out.below h (Nat.le_refl _)).more h.size
      have T2 : Hid (∀ w', Below W.heap.size W w' → SArr w' w'.heap.size A2 n2 73 fun i => cellsIt (J i)) := Lib.hid fun w' h => (HA2.out.below h (Nat.le_refl _)).more h.size
      clear HA1 HA2
      go_wp2_with fail
      refine (count10 I A1 n1 c1 w1 (by omega) (T1.out w1 B1.out)).mono ?_
      rintro e w2 ⟨hr, hb⟩
      obtain ⟨X, p, AX, cX, rfl, hmX, hlX, hiX, hoX⟩ := rowOut_lst hr
      have IX := Lib.hid hiX
      have B12 := Lib.hid hb
      have B2 := Lib.hid (B1.out.trans (hb.mono B1.out.size))
      have SX : Hid (∀ w', Below w2.heap.size w2 w' → SArr w' w'.heap.size AX p 33 fun i => cellsC (X i)) := Lib.hid fun w' h => ((srow_shape hoX).below h (Nat.le_refl _)).more h.size
      clear hr hb hiX hoX
      have HL0 : Hid ((w2.alloc (.cells #[] 42)).ownsRow w2.heap.size 42 73 (.slice (some ⟨w2.heap.size, 0, none⟩) 0 0) 0 []) := Lib.hid (World.ownsRow_lit w2 #[] 0 (Nat.le_refl _) (by omega) rfl)
      have HF1 : Hid ((flatS (fun i => cellsIt (I i)) n1).length = n1 * 73) := Lib.hid (flatS_len (wideIt I) n1)
      have HON1 := Lib.hid (onesIt I n1)
      have HF2 : Hid ((flatS (fun i => cellsIt (J i)) n2).length = n2 * 73) := Lib.hid (flatS_len (wideIt J) n2)
      have HON2 := Lib.hid (onesIt J n2)
      have HT1 := Lib.hid (T1.out (w2.alloc (.cells #[] 42)) (B2.out.alloc B2.out.size _))
      go_wp2_with (at_builtin; refine wpList_append_any rfl (.tmp 24) (.tmp 25) 22 rfl w2.heap.size 42 i0 (.agg zIt.toArray) 73 136 Try.underlying22 HI.out.1 HI.out.2.1 HI.out.2.2.1 HI.out.2.2.2 rfl (by decide) _ 0 [] rfl HL0.out A1 n1 c1 (flatS (fun i => cellsIt (I i)) n1) rfl HN1.out HF1.out (HT1.out.cellsAt (wideIt I)) HON1.out (by unfold maxLen; omega) (by omega) (by simp) ?_; intro v3 w3 hown3 hg3; simp only [Nat.zero_add, List.nil_append] at hown3; have O3 := Lib.hid hown3; have B3 : Hid (Below w2.heap.size w2 w3) := Lib.hid (((Below.refl w2.heap.size w2).alloc (Nat.le_refl _) (.cells #[] 42)).grown hg3 (by simp) (fun q e => (row_lt HL0.out e).1)); have B03 := Lib.hid (B2.out.trans (B3.out.mono B2.out.size)); have HT2 := Lib.hid (T2.out w3 B03.out); clear hown3 hg3; go_wp2_with (at_builtin; refine wpList_append_any rfl (.tmp 26) (.tmp 27) 22 rfl w2.heap.size 42 i0 (.agg zIt.toArray) 73 136 Try.underlying22 HI.out.1 HI.out.2.1 HI.out.2.2.1 HI.out.2.2.2 rfl (by decide) _ n1 _ rfl O3.out A2 n2 c2 (flatS (fun i => cellsIt (J i)) n2) rfl HN2.out HF2.out (HT2.out.cellsAt (wideIt J)) HON2.out (by unfold maxLen; omega) (by omega) B3.out.size ?_; intro v4 w4 hown4 hg4))
      rw [cat_flatI] at hown4
      obtain ⟨A4, c4, rfl⟩ := row_shapeS hown4
      have B24 : Hid (Below w2.heap.size w2 w4) := Lib.hid (B3.out.grown hg4 B3.out.size (fun q e => (row_lt O3.out e).1))
      have S4 := Lib.hid (srow_shapeI hown4)
      have B4 := Lib.hid (B2.out.trans (B24.out.mono B2.out.size))
      clear hown4 hg4 O3 B3 B03 HT2 HT1 HL0 HF1 HON1 HF2 HON2
      refine (count10 (catI I J n1) A4 (n1 + n2) c4 w4 (by omega) S4.out).mono ?_
      rintro e w5 ⟨hr, hb⟩
      obtain ⟨Y, q, AY, cY, rfl, hmY, hlY, hiY, hoY⟩ := rowOut_lst hr
      have IY := Lib.hid hiY
      have B25 := Lib.hid (B24.out.trans (hb.mono B24.out.size))
      have B5 := Lib.hid (B4.out.trans (hb.mono B4.out.size))
      have SY := Lib.hid (srow_shape hoY)
      clear hr hb hiY hoY
      go_wp2_with fail
      refine (delta16 X Y AX AY p cX q cY w5 (by omega) (by omega) (SX.out w5 B25.out) SY.out).mono ?_
      rintro e w6 ⟨hr, hb⟩
      obtain ⟨D, m6, A6, c6, rfl, hm6, hl6, hi6, ho6⟩ := rowOut_lst hr
      have I6 := Lib.hid hi6
      have O6 := Lib.hid ho6
      have B26 := Lib.hid (B25.out.trans (hb.mono B25.out.size))
      have B6 := Lib.hid (B5.out.trans (hb.mono B5.out.size))
      clear hr hb hi6 ho6
      go_wp2_with fail
      refine (count10 J A2 n2 c2 w6 (by omega) (T2.out w6 B6.out)).mono ?_
      rintro e w7 ⟨hr, hb⟩
      obtain ⟨Z, m7, A7, c7, rfl, hm7, hl7, hi7, ho7⟩ := rowOut_lst hr
      obtain ⟨rfl, he7⟩ := lst_inj (delta_row IX.out IY.out I6.out hi7)
      have B27 := Lib.hid (B26.out.trans (hb.mono B26.out.size))
      have B7 := Lib.hid (B6.out.trans (hb.mono B6.out.size))
      have O67 := Lib.hid ((Keeps.fresh (S := fun _ => False) hb).row O6.out (fun _ _ h => h))
      have S7 := Lib.hid (srow_congr (srow_shape ho7) (M := D) (fun j hj => (he7 j hj).symm))
      clear hr hb hi7 ho7 he7
      go_wp2_with fail
      refine (sameC D A6 A7 m6 c6 c7 _ _ w7 (by omega) (srow_shape O67.out) S7.out).mono ?_
      rintro e w8 ⟨rfl, z8, hz8⟩
      have B28 := Lib.hid (by have := below_drewN B27.out z8; rwa [← hz8] at this)
      have B8 := Lib.hid (by have := below_drewN B7.out z8; rwa [← hz8] at this)
      clear hz8 O67 S7 O6 I6
      go_wp2_with fail
      refine (delta16 X X AX AX p cX p cX w8 (by omega) (by omega) (SX.out w8 B28.out) (SX.out w8 B28.out)).mono ?_
      rintro e w9 ⟨hr, hb⟩
      obtain ⟨F, m9, A9, c9, rfl, hm9, hl9, hi9, ho9⟩ := rowOut_lst hr
      obtain rfl := lst_nil (none_row hi9)
      have B29 := Lib.hid (B28.out.trans (hb.mono B28.out.size))
      have B9 := Lib.hid (B8.out.trans (hb.mono B8.out.size))
      clear hr hb hi9 ho9
      go_wp2_with fail
      refine (delta16 X X none AX 0 0 p cX w9 (by omega) (by omega) (fun h => absurd h (by omega)) (SX.out w9 B29.out)).mono ?_
      rintro e wa ⟨hr, hb⟩
      obtain ⟨G, ma, Aa, ca, rfl, hma, hla, hia, hoa⟩ := rowOut_lst hr
      obtain ⟨rfl, hea⟩ := lst_inj (from_row X IX.out hia)
      have B2a := Lib.hid (B29.out.trans (hb.mono B29.out.size))
      have Ba := Lib.hid (B9.out.trans (hb.mono B9.out.size))
      have Sa := Lib.hid (srow_congr (srow_shape hoa) hea)
      clear hr hb hia hoa hea
      go_wp2_with fail
      refine (sameC X Aa AX ma ca cX _ _ wa (by omega) Sa.out (SX.out wa B2a.out)).mono ?_
      rintro e wb ⟨rfl, zb, hzb⟩
      have B2b := Lib.hid (by have := below_drewN B2a.out zb; rwa [← hzb] at this)
      have Bb := Lib.hid (by have := below_drewN Ba.out zb; rwa [← hzb] at this)
      have HTB := Lib.hid (T1.out wb Bb.out)
      have HXB := Lib.hid (SX.out wb B2b.out)
      obtain ⟨ht, hbd⟩ := row_tot (by omega) IX.out
      have HT := Lib.hid ht
      have HBD := Lib.hid hbd
      have HRI := Lib.hid IX.out.rises
      clear hzb Sa B2a Ba B29 B9 B28 B8 B27 B7 B26 B6 B25 B5 B24 B4 S4 SY IY IX SX T1 T2 ht hbd
      go_wp2_with fail
      go_loopw [8, 10] (fun s i wr => ∃ k : Nat, k ≤ n1 ∧ i = .int .i64 k ∧ s = .int .i64 (cntI I k) ∧ wr = wb) (fun _ i _ => n1 - (intOf i).toNat)
      case atStart => exact ⟨0, Nat.zero_le _, rfl, rfl, rfl⟩
      case round =>
        obtain ⟨k, hk, rfl, rfl, rfl⟩ := hrel
        by_cases hkn : k < n1
        · obtain ⟨b, off, rfl, _, hc⟩ := HTB.out (by omega)
          have c0 := itm_kind (I k) (hc k hkn)
          have hci : cntI I (k + 1) = cntI I k + if (I k).1.kind = 2 then 1 else 0 := rfl
          obtain ⟨kd, hkd⟩ : ∃ kd, kd = (I k).1.kind := ⟨_, rfl⟩
          rw [← hkd] at c0 hci
          have hle := cntI_le I k
          have i1 : (0 : Int) ≤ k := by omega
          have i2 : (k : Int) < n1 := by omega
          clear hc hkd
          by_cases h2 : kd = 2
          · rw [if_pos h2] at hci
            rw [h2] at c0
            obtain ⟨cn, hcn⟩ : ∃ cn, cn = cntI I k := ⟨_, rfl⟩
            rw [← hcn] at hci hle ⊢
            have HCI := Lib.hid hci
            clear h2 hcn hci
            go_wp2_with fail
            go_roundw
            case rel => exact ⟨k + 1, by omega, by go_num, by rw [HCI.out]; go_num, trivial⟩
            case measure => simp [intOf]; omega
          · rw [if_neg h2] at hci
            have h3 : (kd == 2) = false := by simpa using h2
            have HCI := Lib.hid hci
            clear h2 hci
            go_wp2_with fail
            go_roundw
            case rel => exact ⟨k + 1, by omega, by go_num, by rw [HCI.out]; rfl, trivial⟩
            case measure => simp [intOf]; omega
        · obtain rfl : k = n1 := by omega
          obtain ⟨cn, hcn⟩ : ∃ cn, cn = cntI I k := ⟨_, rfl⟩
          rw [← hcn] at HT ⊢
          have hcn9 : cn ≤ 300 := by rw [hcn]; exact Nat.le_trans (cntI_le I k) g1
          clear hcn
          obtain ⟨wc, hwc⟩ : ∃ wc, wc = wr := ⟨_, rfl⟩
          subst hwc
          go_wp2_with fail
          go_loopw [9, 11] (fun s i wr => ∃ k : Nat, k ≤ ma ∧ i = .int .i64 k ∧ s = .int .i64 (tot (lst X k)) ∧ Below wc.heap.size wc wr) (fun _ i _ => ma - (intOf i).toNat)
          case atStart => exact ⟨0, Nat.zero_le _, rfl, rfl, Below.refl _ _⟩
          case round =>
            obtain ⟨i, hi, rfl, rfl, hb⟩ := hrel
            have HB := Lib.hid hb
            clear hb
            by_cases him : i < ma
            · obtain ⟨b, off, rfl, hbl, hc⟩ := HXB.out (by omega)
              have HRG : Hid (∀ j, j < ma → ∀ wr, Below wc.heap.size wc wr → wr.rangeAt b (off + j * 33) (cellsC (X j))) := Lib.hid fun j hj wr h => range_below (hc j hj) h hbl
              have V : Hid (∀ wr, Below wc.heap.size wc wr → wr.cell? ⟨b, off + i * 33 + 32, none⟩ = some (.int .i64 (X i).1.r)) := Lib.hid fun wr h => ct_r' (X i) (HRG.out i him wr h)
              have hbd := HBD.out _ (lst_mem' X him)
              have htot : tot (lst X (i + 1)) = tot (lst X i) + (X i).1.r := by rw [lst, tot_append]; simp [tot]
              have htb : 0 ≤ tot (lst X i) ∧ tot (lst X i) ≤ 300 * (i : Int) := tot_bd (fun j hj => by have := HBD.out _ (lst_mem' X (show j < ma by omega)); omega)
              obtain ⟨x, hx⟩ : ∃ x, x = (X i).1.r := ⟨_, rfl⟩
              rw [← hx] at V hbd htot
              obtain ⟨t, ht⟩ : ∃ t, t = tot (lst X i) := ⟨_, rfl⟩
              rw [← ht] at htot htb ⊢
              have HTT := Lib.hid htot
              have i1 : (0 : Int) ≤ i := by omega
              have i2 : (i : Int) < ma := by omega
              have cr := V.out wr HB.out
              have hx1 : decide (x < 1) = false := decide_eq_false (by omega)
              have hw : IntKind.i64.wrap (t + x) = t + x := IntWalk.i64_in _ (by omega)
              clear hc hx ht htot hbl
              by_cases hi0 : i = 0
              · subst hi0
                have hg0 : decide ((0 : Int) > 0) = false := by decide
                go_wp2_with fail
                refine wp_region_held_drew (S := fun w' => True ∧ w'.cell? ⟨b, off + 0 * 33 + 32, none⟩ = some (.int .i64 x)) (by kernel_rfl) ⟨trivial, cr⟩ (fun hHeld => ?_)
                refine wpAnyH_take (i := 0) (v := ?_) (by simp only [List.getElem?_toArray, List.getElem?_cons_zero]; rfl) (by kernel_rfl) (by kernel_rfl) (by kernel_rfl) (by intro _ _ _ h; exact h) (Or.inl ⟨by rfl, ?_⟩) hHeld ?_
                rotate_left
                · (intro w hSw; (try dsimp only at hSw); go_simp; try with_reducible rfl)
                try simp only [Act.put, List.setIfInBounds_toArray, List.set_cons_zero, List.set_cons_succ]
                refine wpAnyH_take (i := 1) (v := ?_) (by simp only [List.getElem?_toArray, List.getElem?_cons_zero, List.getElem?_cons_succ]; rfl) (by kernel_rfl) (by kernel_rfl) (by kernel_rfl) (by intro _ _ _ h; exact h) (Or.inl ⟨by rfl, ?_⟩) hHeld ?_
                rotate_left
                · (intro w hSw; (try dsimp only at hSw); go_simp; try with_reducible rfl)
                try simp only [Act.put, List.setIfInBounds_toArray, List.set_cons_zero, List.set_cons_succ]
                refine wpAnyH_take (i := 2) (v := ?_) (by simp only [List.getElem?_toArray, List.getElem?_cons_zero, List.getElem?_cons_succ]; rfl) (by kernel_rfl) (by kernel_rfl) (by kernel_rfl) (by intro _ _ _ h; exact h) (Or.inl ⟨by rfl, ?_⟩) hHeld ?_
                rotate_left
                · (intro w hSw; (try dsimp only at hSw); go_simp; try with_reducible rfl)
                try simp only [Act.put, List.setIfInBounds_toArray, List.set_cons_zero, List.set_cons_succ]
                refine wpAnyH_take (i := 3) (v := ?_) (by simp only [List.getElem?_toArray, List.getElem?_cons_zero, List.getElem?_cons_succ]; rfl) (by kernel_rfl) (by kernel_rfl) (by kernel_rfl) (by intro _ _ _ h; exact h) (Or.inl ⟨by rfl, ?_⟩) hHeld ?_
                rotate_left
                · (intro w hSw; (try dsimp only at hSw); go_simp; try with_reducible rfl)
                try simp only [Act.put, List.setIfInBounds_toArray, List.set_cons_zero, List.set_cons_succ]
                refine wpAnyH_take (i := 4) (v := ?_) (by simp only [List.getElem?_toArray, List.getElem?_cons_zero, List.getElem?_cons_succ]; rfl) (by kernel_rfl) (by kernel_rfl) (by kernel_rfl) (by intro _ _ _ h; exact h) (Or.inl ⟨by rfl, ?_⟩) hHeld ?_
                rotate_left
                · (intro w hSw; have hSw := hSw.2; go_simp; try with_reducible rfl)
                try simp only [Act.put, List.setIfInBounds_toArray, List.set_cons_zero, List.set_cons_succ]
                refine wpAnyH_take (i := 5) (v := ?_) (by simp only [List.getElem?_toArray, List.getElem?_cons_zero, List.getElem?_cons_succ]; rfl) (by kernel_rfl) (by kernel_rfl) (by kernel_rfl) (by intro _ _ _ h; exact h) (Or.inl ⟨by rfl, ?_⟩) hHeld ?_
                rotate_left
                · (intro w hSw; (try dsimp only at hSw); go_simp; try with_reducible rfl)
                try simp only [Act.put, List.setIfInBounds_toArray, List.set_cons_zero, List.set_cons_succ]
                refine wpAnyH_take (i := 6) (v := ?_) (by simp only [List.getElem?_toArray, List.getElem?_cons_zero, List.getElem?_cons_succ]; rfl) (by kernel_rfl) (by kernel_rfl) (by kernel_rfl) (by intro _ _ _ h; exact h) (Or.inl ⟨by rfl, ?_⟩) hHeld ?_
                rotate_left
                · (intro w hSw; (try dsimp only at hSw); go_simp; try with_reducible rfl)
                try simp only [Act.put, List.setIfInBounds_toArray, List.set_cons_zero, List.set_cons_succ]
                refine wpAnyH_take (i := 7) (v := ?_) (by simp only [List.getElem?_toArray, List.getElem?_cons_zero, List.getElem?_cons_succ]; rfl) (by kernel_rfl) (by kernel_rfl) (by kernel_rfl) (by intro _ _ _ h; exact h) (Or.inl ⟨by rfl, ?_⟩) hHeld ?_
                rotate_left
                · (intro w hSw; (try dsimp only at hSw); go_simp; try with_reducible rfl)
                try simp only [Act.put, List.setIfInBounds_toArray, List.set_cons_zero, List.set_cons_succ]
                refine wpAnyH_take (i := 8) (v := ?_) (by simp only [List.getElem?_toArray, List.getElem?_cons_zero, List.getElem?_cons_succ]; rfl) (by kernel_rfl) (by kernel_rfl) (by kernel_rfl) (by intro _ _ _ h; exact h) (Or.inl ⟨by rfl, ?_⟩) hHeld ?_
                rotate_left
                · (intro w hSw; (try dsimp only at hSw); go_simp; try with_reducible rfl)
                try simp only [Act.put, List.setIfInBounds_toArray, List.set_cons_zero, List.set_cons_succ]
                refine wpAnyH_take (i := 9) (v := ?_) (by simp only [List.getElem?_toArray, List.getElem?_cons_zero, List.getElem?_cons_succ]; rfl) (by kernel_rfl) (by kernel_rfl) (by kernel_rfl) (by intro _ _ _ h; exact h) (Or.inl ⟨by rfl, ?_⟩) hHeld ?_
                rotate_left
                · (intro w hSw; (try dsimp only at hSw); go_simp; try with_reducible rfl)
                try simp only [Act.put, List.setIfInBounds_toArray, List.set_cons_zero, List.set_cons_succ]
                refine wpAnyH_take (i := 10) (v := undef) (by simp only [List.getElem?_toArray, List.getElem?_cons_zero, List.getElem?_cons_succ]; rfl) (by kernel_rfl) (by kernel_rfl) (by kernel_rfl) (by intro _ _ _ h; exact h) (Or.inr ⟨by rfl, rfl⟩) hHeld ?_
                try simp only [Act.put, List.setIfInBounds_toArray, List.set_cons_zero, List.set_cons_succ]
                refine wpAnyH_take (i := 11) (v := undef) (by simp only [List.getElem?_toArray, List.getElem?_cons_zero, List.getElem?_cons_succ]; rfl) (by kernel_rfl) (by kernel_rfl) (by kernel_rfl) (by intro _ _ _ h; exact h) (Or.inr ⟨by rfl, rfl⟩) hHeld ?_
                try simp only [Act.put, List.setIfInBounds_toArray, List.set_cons_zero, List.set_cons_succ]
                refine wpAnyH_take (i := 12) (v := undef) (by simp only [List.getElem?_toArray, List.getElem?_cons_zero, List.getElem?_cons_succ]; rfl) (by kernel_rfl) (by kernel_rfl) (by kernel_rfl) (by intro _ _ _ h; exact h) (Or.inr ⟨by rfl, rfl⟩) hHeld ?_
                try simp only [Act.put, List.setIfInBounds_toArray, List.set_cons_zero, List.set_cons_succ]
                refine wpAnyH_take (i := 13) (v := undef) (by simp only [List.getElem?_toArray, List.getElem?_cons_zero, List.getElem?_cons_succ]; rfl) (by kernel_rfl) (by kernel_rfl) (by kernel_rfl) (by intro _ _ _ h; exact h) (Or.inr ⟨by rfl, rfl⟩) hHeld ?_
                try simp only [Act.put, List.setIfInBounds_toArray, List.set_cons_zero, List.set_cons_succ]
                refine wpAnyH_take (i := 14) (v := undef) (by simp only [List.getElem?_toArray, List.getElem?_cons_zero, List.getElem?_cons_succ]; rfl) (by kernel_rfl) (by kernel_rfl) (by kernel_rfl) (by intro _ _ _ h; exact h) (Or.inr ⟨by rfl, rfl⟩) hHeld ?_
                try simp only [Act.put, List.setIfInBounds_toArray, List.set_cons_zero, List.set_cons_succ]
                refine wpAnyH_take (i := 15) (v := undef) (by simp only [List.getElem?_toArray, List.getElem?_cons_zero, List.getElem?_cons_succ]; rfl) (by kernel_rfl) (by kernel_rfl) (by kernel_rfl) (by intro _ _ _ h; exact h) (Or.inr ⟨by rfl, rfl⟩) hHeld ?_
                try simp only [Act.put, List.setIfInBounds_toArray, List.set_cons_zero, List.set_cons_succ]
                refine wpAnyH_take (i := 16) (v := undef) (by simp only [List.getElem?_toArray, List.getElem?_cons_zero, List.getElem?_cons_succ]; rfl) (by kernel_rfl) (by kernel_rfl) (by kernel_rfl) (by intro _ _ _ h; exact h) (Or.inr ⟨by rfl, rfl⟩) hHeld ?_
                try simp only [Act.put, List.setIfInBounds_toArray, List.set_cons_zero, List.set_cons_succ]
                refine wpAnyH_take (i := 17) (v := undef) (by simp only [List.getElem?_toArray, List.getElem?_cons_zero, List.getElem?_cons_succ]; rfl) (by kernel_rfl) (by kernel_rfl) (by kernel_rfl) (by intro _ _ _ h; exact h) (Or.inr ⟨by rfl, rfl⟩) hHeld ?_
                try simp only [Act.put, List.setIfInBounds_toArray, List.set_cons_zero, List.set_cons_succ]
                refine wpAnyH_take (i := 18) (v := undef) (by simp only [List.getElem?_toArray, List.getElem?_cons_zero, List.getElem?_cons_succ]; rfl) (by kernel_rfl) (by kernel_rfl) (by kernel_rfl) (by intro _ _ _ h; exact h) (Or.inr ⟨by rfl, rfl⟩) hHeld ?_
                try simp only [Act.put, List.setIfInBounds_toArray, List.set_cons_zero, List.set_cons_succ]
                refine wpAnyH_take (i := 19) (v := undef) (by simp only [List.getElem?_toArray, List.getElem?_cons_zero, List.getElem?_cons_succ]; rfl) (by kernel_rfl) (by kernel_rfl) (by kernel_rfl) (by intro _ _ _ h; exact h) (Or.inr ⟨by rfl, rfl⟩) hHeld ?_
                try simp only [Act.put, List.setIfInBounds_toArray, List.set_cons_zero, List.set_cons_succ]
                refine wpAnyH_take (i := 20) (v := undef) (by simp only [List.getElem?_toArray, List.getElem?_cons_zero, List.getElem?_cons_succ]; rfl) (by kernel_rfl) (by kernel_rfl) (by kernel_rfl) (by intro _ _ _ h; exact h) (Or.inr ⟨by rfl, rfl⟩) hHeld ?_
                try simp only [Act.put, List.setIfInBounds_toArray, List.set_cons_zero, List.set_cons_succ]
                refine wpAnyH_take (i := 21) (v := undef) (by simp only [List.getElem?_toArray, List.getElem?_cons_zero, List.getElem?_cons_succ]; rfl) (by kernel_rfl) (by kernel_rfl) (by kernel_rfl) (by intro _ _ _ h; exact h) (Or.inr ⟨by rfl, rfl⟩) hHeld ?_
                try simp only [Act.put, List.setIfInBounds_toArray, List.set_cons_zero, List.set_cons_succ]
                refine wpAnyH_take (i := 22) (v := undef) (by simp only [List.getElem?_toArray, List.getElem?_cons_zero, List.getElem?_cons_succ]; rfl) (by kernel_rfl) (by kernel_rfl) (by kernel_rfl) (by intro _ _ _ h; exact h) (Or.inr ⟨by rfl, rfl⟩) hHeld ?_
                try simp only [Act.put, List.setIfInBounds_toArray, List.set_cons_zero, List.set_cons_succ]
                refine wpAnyH_take (i := 23) (v := ?_) (by simp only [List.getElem?_toArray, List.getElem?_cons_zero, List.getElem?_cons_succ]; rfl) (by kernel_rfl) (by kernel_rfl) (by kernel_rfl) (by intro _ _ _ h; exact h) (Or.inl ⟨by rfl, ?_⟩) hHeld ?_
                rotate_left
                · (intro w hSw; (try dsimp only at hSw); go_simp; try with_reducible rfl)
                try simp only [Act.put, List.setIfInBounds_toArray, List.set_cons_zero, List.set_cons_succ]
                refine wpAnyH_take (i := 24) (v := ?_) (by simp only [List.getElem?_toArray, List.getElem?_cons_zero, List.getElem?_cons_succ]; rfl) (by kernel_rfl) (by kernel_rfl) (by kernel_rfl) (by intro _ _ _ h; exact h) (Or.inl ⟨by rfl, ?_⟩) hHeld ?_
                rotate_left
                · (intro w hSw; (try dsimp only at hSw); go_simp; try with_reducible rfl)
                try simp only [Act.put, List.setIfInBounds_toArray, List.set_cons_zero, List.set_cons_succ]
                refine wpAnyH_done (by kernel_rfl) ?_ _
                clear hHeld
                go_wp2_with fail
                go_roundw
                case rel => exact ⟨1, by omega, by go_num, by rw [HTT.out] <;> go_num, HB.out.drew⟩
                case measure => simp [intOf]; omega
              · obtain ⟨j, rfl⟩ : ∃ j, i = j + 1 := ⟨i - 1, by omega⟩
                have RJ := Lib.hid fun wr h => ct_k' (X j) (HRG.out j (by omega) wr h)
                have RI := Lib.hid fun wr h => ct_k' (X (j + 1)) (HRG.out (j + 1) him wr h)
                have HKJ := Lib.hid (X j).2.key
                have HKI := Lib.hid (X (j + 1)).2.key
                have HLT := Lib.hid (rises_next HRI.out him)
                obtain ⟨kj, hkj⟩ : ∃ kj, kj = (X j).1.k := ⟨_, rfl⟩
                obtain ⟨ki, hki⟩ : ∃ ki, ki = (X (j + 1)).1.k := ⟨_, rfl⟩
                rw [← hkj] at RJ HKJ HLT
                rw [← hki] at RI HKI HLT
                have HKLJ : Hid ((Try.prog.info? 35).map (·.size) = some (u8l kj).length) := Lib.hid (by rw [u8l_len, HKJ.out.len]; exact infoKey)
                have HKLI : Hid ((Try.prog.info? 35).map (·.size) = some (u8l ki).length) := Lib.hid (by rw [u8l_len, HKI.out.len]; exact infoKey)
                have HBEF : Hid (∀ W, Calls Try.prog 21 #[.agg (u8l kj).toArray, .agg (u8l ki).toArray] W fun e W' => e = .returned (.bool true) ∧ Below W.heap.size W W') := Lib.hid fun W => by have := rises21 kj ki HKJ.out HKI.out W; rwa [HLT.out] at this
                have hg1 : decide (((j : Int) + 1) > 0) = true := decide_eq_true (by omega)
                have i5 : (0 : Int) ≤ (j : Int) + 1 := by omega
                have i6 : (j : Int) + 1 < ma := by omega
                have e9 : (((j + 1 : Nat) : Int)) = (j : Int) + 1 := by omega
                have e8 : IntKind.i64.wrap (j : Int) = j := IntWalk.i64_in _ (by omega)
                have i3 : (0 : Int) ≤ j := by omega
                have i4 : (j : Int) < ma := by omega
                have hsz := HB.out.size
                clear hkj hki
                go_wp2_with fail
                refine wp_region_held_drew (S := fun w' => (w'.rangeAt b (off + j * 33) (u8l kj) ∧ w'.rangeAt b (off + (j + 1) * 33) (u8l ki)) ∧ w'.cell? ⟨b, off + (j + 1) * 33 + 32, none⟩ = some (.int .i64 x)) (by kernel_rfl) ⟨⟨RJ.out wr HB.out, RI.out wr HB.out⟩, cr⟩ (fun hHeld => ?_)
                refine wpAnyH_take (i := 0) (v := ?_) (by simp only [List.getElem?_toArray, List.getElem?_cons_zero]; rfl) (by kernel_rfl) (by kernel_rfl) (by kernel_rfl) (by intro _ _ _ h; exact h) (Or.inl ⟨by rfl, ?_⟩) hHeld ?_
                rotate_left
                · (intro w hSw; (try dsimp only at hSw); go_simp; try with_reducible rfl)
                try simp only [Act.put, List.setIfInBounds_toArray, List.set_cons_zero, List.set_cons_succ]
                refine wpAnyH_take (i := 1) (v := ?_) (by simp only [List.getElem?_toArray, List.getElem?_cons_zero, List.getElem?_cons_succ]; rfl) (by kernel_rfl) (by kernel_rfl) (by kernel_rfl) (by intro _ _ _ h; exact h) (Or.inl ⟨by rfl, ?_⟩) hHeld ?_
                rotate_left
                · (intro w hSw; (try dsimp only at hSw); go_simp; try with_reducible rfl)
                try simp only [Act.put, List.setIfInBounds_toArray, List.set_cons_zero, List.set_cons_succ]
                refine wpAnyH_take (i := 2) (v := ?_) (by simp only [List.getElem?_toArray, List.getElem?_cons_zero, List.getElem?_cons_succ]; rfl) (by kernel_rfl) (by kernel_rfl) (by kernel_rfl) (by intro _ _ _ h; exact h) (Or.inl ⟨by rfl, ?_⟩) hHeld ?_
                rotate_left
                · (intro w hSw; (try dsimp only at hSw); go_simp; try with_reducible rfl)
                try simp only [Act.put, List.setIfInBounds_toArray, List.set_cons_zero, List.set_cons_succ]
                refine wpAnyH_take (i := 3) (v := ?_) (by simp only [List.getElem?_toArray, List.getElem?_cons_zero, List.getElem?_cons_succ]; rfl) (by kernel_rfl) (by kernel_rfl) (by kernel_rfl) (by intro _ _ _ h; exact h) (Or.inl ⟨by rfl, ?_⟩) hHeld ?_
                rotate_left
                · (intro w hSw; (try dsimp only at hSw); go_simp; try with_reducible rfl)
                try simp only [Act.put, List.setIfInBounds_toArray, List.set_cons_zero, List.set_cons_succ]
                refine wpAnyH_take (i := 4) (v := ?_) (by simp only [List.getElem?_toArray, List.getElem?_cons_zero, List.getElem?_cons_succ]; rfl) (by kernel_rfl) (by kernel_rfl) (by kernel_rfl) (by intro _ _ _ h; exact h) (Or.inl ⟨by rfl, ?_⟩) hHeld ?_
                rotate_left
                · (intro w hSw; have hSw := hSw.2; go_simp; try with_reducible rfl)
                try simp only [Act.put, List.setIfInBounds_toArray, List.set_cons_zero, List.set_cons_succ]
                refine wpAnyH_take (i := 5) (v := ?_) (by simp only [List.getElem?_toArray, List.getElem?_cons_zero, List.getElem?_cons_succ]; rfl) (by kernel_rfl) (by kernel_rfl) (by kernel_rfl) (by intro _ _ _ h; exact h) (Or.inl ⟨by rfl, ?_⟩) hHeld ?_
                rotate_left
                · (intro w hSw; (try dsimp only at hSw); go_simp; try with_reducible rfl)
                try simp only [Act.put, List.setIfInBounds_toArray, List.set_cons_zero, List.set_cons_succ]
                refine wpAnyH_take (i := 6) (v := ?_) (by simp only [List.getElem?_toArray, List.getElem?_cons_zero, List.getElem?_cons_succ]; rfl) (by kernel_rfl) (by kernel_rfl) (by kernel_rfl) (by intro _ _ _ h; exact h) (Or.inl ⟨by rfl, ?_⟩) hHeld ?_
                rotate_left
                · (intro w hSw; (try dsimp only at hSw); go_simp; try with_reducible rfl)
                try simp only [Act.put, List.setIfInBounds_toArray, List.set_cons_zero, List.set_cons_succ]
                refine wpAnyH_take (i := 7) (v := ?_) (by simp only [List.getElem?_toArray, List.getElem?_cons_zero, List.getElem?_cons_succ]; rfl) (by kernel_rfl) (by kernel_rfl) (by kernel_rfl) (by intro _ _ _ h; exact h) (Or.inl ⟨by rfl, ?_⟩) hHeld ?_
                rotate_left
                · (intro w hSw; (try dsimp only at hSw); go_simp; try with_reducible rfl)
                try simp only [Act.put, List.setIfInBounds_toArray, List.set_cons_zero, List.set_cons_succ]
                refine wpAnyH_take (i := 8) (v := ?_) (by simp only [List.getElem?_toArray, List.getElem?_cons_zero, List.getElem?_cons_succ]; rfl) (by kernel_rfl) (by kernel_rfl) (by kernel_rfl) (by intro _ _ _ h; exact h) (Or.inl ⟨by rfl, ?_⟩) hHeld ?_
                rotate_left
                · (intro w hSw; (try dsimp only at hSw); go_simp; try with_reducible rfl)
                try simp only [Act.put, List.setIfInBounds_toArray, List.set_cons_zero, List.set_cons_succ]
                refine wpAnyH_take (i := 9) (v := ?_) (by simp only [List.getElem?_toArray, List.getElem?_cons_zero, List.getElem?_cons_succ]; rfl) (by kernel_rfl) (by kernel_rfl) (by kernel_rfl) (by intro _ _ _ h; exact h) (Or.inl ⟨by rfl, ?_⟩) hHeld ?_
                rotate_left
                · (intro w hSw; (try dsimp only at hSw); go_simp; try with_reducible rfl)
                try simp only [Act.put, List.setIfInBounds_toArray, List.set_cons_zero, List.set_cons_succ]
                refine wpAnyH_take (i := 10) (v := ?_) (by simp only [List.getElem?_toArray, List.getElem?_cons_zero, List.getElem?_cons_succ]; rfl) (by kernel_rfl) (by kernel_rfl) (by kernel_rfl) (by intro _ _ _ h; exact h) (Or.inl ⟨by rfl, ?_⟩) hHeld ?_
                rotate_left
                · (intro w hSw; (try dsimp only at hSw); go_simp; try with_reducible rfl)
                try simp only [Act.put, List.setIfInBounds_toArray, List.set_cons_zero, List.set_cons_succ]
                refine wpAnyH_take (i := 11) (v := ?_) (by simp only [List.getElem?_toArray, List.getElem?_cons_zero, List.getElem?_cons_succ]; rfl) (by kernel_rfl) (by kernel_rfl) (by kernel_rfl) (by intro _ _ _ h; exact h) (Or.inl ⟨by rfl, ?_⟩) hHeld ?_
                rotate_left
                · (intro w hSw; (try dsimp only at hSw); go_simp; try with_reducible rfl)
                try simp only [Act.put, List.setIfInBounds_toArray, List.set_cons_zero, List.set_cons_succ]
                refine wpAnyH_take (i := 12) (v := ?_) (by simp only [List.getElem?_toArray, List.getElem?_cons_zero, List.getElem?_cons_succ]; rfl) (by kernel_rfl) (by kernel_rfl) (by kernel_rfl) (by intro _ _ _ h; exact h) (Or.inl ⟨by rfl, ?_⟩) hHeld ?_
                rotate_left
                · (intro w hSw; (try dsimp only at hSw); go_simp; try with_reducible rfl)
                try simp only [Act.put, List.setIfInBounds_toArray, List.set_cons_zero, List.set_cons_succ]
                refine wpAnyH_take (i := 13) (v := ?_) (by simp only [List.getElem?_toArray, List.getElem?_cons_zero, List.getElem?_cons_succ]; rfl) (by kernel_rfl) (by kernel_rfl) (by kernel_rfl) (by intro _ _ _ h; exact h) (Or.inl ⟨by rfl, ?_⟩) hHeld ?_
                rotate_left
                · (intro w hSw; (try dsimp only at hSw); go_simp; try with_reducible rfl)
                try simp only [Act.put, List.setIfInBounds_toArray, List.set_cons_zero, List.set_cons_succ]
                refine wpAnyH_take (i := 14) (v := ?_) (by simp only [List.getElem?_toArray, List.getElem?_cons_zero, List.getElem?_cons_succ]; rfl) (by kernel_rfl) (by kernel_rfl) (by kernel_rfl) (by intro _ _ _ h; exact h) (Or.inl ⟨by rfl, ?_⟩) hHeld ?_
                rotate_left
                · (intro w hSw; (try dsimp only at hSw); go_simp; try with_reducible rfl)
                try simp only [Act.put, List.setIfInBounds_toArray, List.set_cons_zero, List.set_cons_succ]
                refine wpAnyH_take (i := 15) (v := _) (by simp only [List.getElem?_toArray, List.getElem?_cons_zero, List.getElem?_cons_succ]; rfl) (by kernel_rfl) (by kernel_rfl) (by kernel_rfl) (by intro _ _ _ h; exact h) (yieldsIf_load_mid (by rfl) 35 (.tmp 93) rfl b (off + j * 33) rfl (u8l kj) _ (fun _ h => h.1.1) Try.underlying35 rfl HKLJ.out) hHeld ?_
                try simp only [Act.put, List.setIfInBounds_toArray, List.set_cons_zero, List.set_cons_succ]
                refine wpAnyH_take (i := 16) (v := ?_) (by simp only [List.getElem?_toArray, List.getElem?_cons_zero, List.getElem?_cons_succ]; rfl) (by kernel_rfl) (by kernel_rfl) (by kernel_rfl) (by intro _ _ _ h; exact h) (Or.inl ⟨by rfl, ?_⟩) hHeld ?_
                rotate_left
                · (intro w hSw; (try dsimp only at hSw); go_simp; try with_reducible rfl)
                try simp only [Act.put, List.setIfInBounds_toArray, List.set_cons_zero, List.set_cons_succ]
                refine wpAnyH_take (i := 17) (v := ?_) (by simp only [List.getElem?_toArray, List.getElem?_cons_zero, List.getElem?_cons_succ]; rfl) (by kernel_rfl) (by kernel_rfl) (by kernel_rfl) (by intro _ _ _ h; exact h) (Or.inl ⟨by rfl, ?_⟩) hHeld ?_
                rotate_left
                · (intro w hSw; (try dsimp only at hSw); go_simp; try with_reducible rfl)
                try simp only [Act.put, List.setIfInBounds_toArray, List.set_cons_zero, List.set_cons_succ]
                refine wpAnyH_take (i := 18) (v := ?_) (by simp only [List.getElem?_toArray, List.getElem?_cons_zero, List.getElem?_cons_succ]; rfl) (by kernel_rfl) (by kernel_rfl) (by kernel_rfl) (by intro _ _ _ h; exact h) (Or.inl ⟨by rfl, ?_⟩) hHeld ?_
                rotate_left
                · (intro w hSw; (try dsimp only at hSw); go_simp; try with_reducible rfl)
                try simp only [Act.put, List.setIfInBounds_toArray, List.set_cons_zero, List.set_cons_succ]
                refine wpAnyH_take (i := 19) (v := ?_) (by simp only [List.getElem?_toArray, List.getElem?_cons_zero, List.getElem?_cons_succ]; rfl) (by kernel_rfl) (by kernel_rfl) (by kernel_rfl) (by intro _ _ _ h; exact h) (Or.inl ⟨by rfl, ?_⟩) hHeld ?_
                rotate_left
                · (intro w hSw; (try dsimp only at hSw); go_simp; try with_reducible rfl)
                try simp only [Act.put, List.setIfInBounds_toArray, List.set_cons_zero, List.set_cons_succ]
                refine wpAnyH_take (i := 20) (v := _) (by simp only [List.getElem?_toArray, List.getElem?_cons_zero, List.getElem?_cons_succ]; rfl) (by kernel_rfl) (by kernel_rfl) (by kernel_rfl) (by intro _ _ _ h; exact h) (yieldsIf_load_mid (by rfl) 35 (.tmp 98) rfl b (off + (j + 1) * 33) rfl (u8l ki) _ (fun _ h => h.1.2) Try.underlying35 rfl HKLI.out) hHeld ?_
                try simp only [Act.put, List.setIfInBounds_toArray, List.set_cons_zero, List.set_cons_succ]
                refine wpAnyH_ready (rs := [21]) (by kernel_rfl) (by simp) ?_
                refine AllReadyH.cons (by simp only [List.getElem?_toArray, List.getElem?_cons_zero, List.getElem?_cons_succ]; rfl) (fun K hK => ?_) AllReadyH.nil
                rw [if_pos (by rfl)]
                refine wp_callF2 21 (.tmp 94) (.tmp 99) _ rfl enter21 (.agg (u8l kj).toArray) (.agg (u8l ki).toArray) rfl rfl ?_
                refine (HBEF.out _).mono ?_
                rintro e w3 ⟨rfl, hb3⟩
                refine ⟨_, rfl, ?_⟩
                have HB3 : Hid (Below wc.heap.size wc w3) := Lib.hid (HB.out.drew.trans (hb3.mono hsz))
                refine hK.out _ _ ⟨⟨RJ.out w3 HB3.out, RI.out w3 HB3.out⟩, V.out w3 HB3.out⟩ (fun hHeld => ?_)
                clear hK K hb3
                try simp only [Act.put, List.setIfInBounds_toArray, List.set_cons_zero, List.set_cons_succ]
                refine wpAnyH_take (i := 22) (v := ?_) (by simp only [List.getElem?_toArray, List.getElem?_cons_zero, List.getElem?_cons_succ]; rfl) (by kernel_rfl) (by kernel_rfl) (by kernel_rfl) (by intro _ _ _ h; exact h) (Or.inl ⟨by rfl, ?_⟩) hHeld ?_
                rotate_left
                · (intro w hSw; (try dsimp only at hSw); go_simp; try with_reducible rfl)
                try simp only [Act.put, List.setIfInBounds_toArray, List.set_cons_zero, List.set_cons_succ]
                refine wpAnyH_take (i := 23) (v := ?_) (by simp only [List.getElem?_toArray, List.getElem?_cons_zero, List.getElem?_cons_succ]; rfl) (by kernel_rfl) (by kernel_rfl) (by kernel_rfl) (by intro _ _ _ h; exact h) (Or.inl ⟨by rfl, ?_⟩) hHeld ?_
                rotate_left
                · (intro w hSw; (try dsimp only at hSw); go_simp; try with_reducible rfl)
                try simp only [Act.put, List.setIfInBounds_toArray, List.set_cons_zero, List.set_cons_succ]
                refine wpAnyH_take (i := 24) (v := ?_) (by simp only [List.getElem?_toArray, List.getElem?_cons_zero, List.getElem?_cons_succ]; rfl) (by kernel_rfl) (by kernel_rfl) (by kernel_rfl) (by intro _ _ _ h; exact h) (Or.inl ⟨by rfl, ?_⟩) hHeld ?_
                rotate_left
                · (intro w hSw; (try dsimp only at hSw); go_simp; try with_reducible rfl)
                try simp only [Act.put, List.setIfInBounds_toArray, List.set_cons_zero, List.set_cons_succ]
                refine wpAnyH_done (by kernel_rfl) ?_ _
                clear hHeld
                go_wp2_with fail
                go_roundw
                case rel => exact ⟨j + 1 + 1, by omega, by go_num, by rw [HTT.out] <;> go_num, HB3.out⟩
                case measure => simp [intOf]; omega
            · obtain rfl : i = ma := by omega
              rw [HT.out]
              go_wp2_with fail
              go_ret
              exact ⟨rfl, Bb.out.trans (HB.out.mono Bb.out.size)⟩
    · go_wp2_with fail
      go_ret
      exact ⟨rfl, B1.out⟩
  · go_wp2_with fail
    go_ret
    exact ⟨rfl, B1.out⟩
end Go.Proofs.Ytblfkngdieffiaa
