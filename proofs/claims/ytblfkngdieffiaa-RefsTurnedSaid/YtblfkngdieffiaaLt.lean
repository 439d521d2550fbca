/- Layer 24 (refs): the law RefsTurned. -/
import Derived.Test.YtblfkngdieffiaaLp
namespace Go.Proofs.Ytblfkngdieffiaa
open Go.RowKit Go.Maps Go.WideMaps
def n3 (a b c : Nat) (i : Nat) : Nat := match i with | 0 => a | 1 => b | _ => c
def A3 (a b c : Option Addr) (i : Nat) : Option Addr := match i with | 0 => a | 1 => b | _ => c
def L3 (a b c : Nat → ElC) (i : Nat) : Nat → ElC := match i with | 0 => a | 1 => b | _ => c
def small (L : Nat → ElC) (n : Nat) : Prop := ∀ j, j < n → -1073741824 ≤ (L j).1.r ∧ (L j).1.r ≤ 1073741824
set_option maxRecDepth 100000 in
set_option maxHeartbeats 8000000 in
theorem turned7 (P Q R : Nat → ElC) (A1 A2 A4 : Option Addr) (n1 c1 n2 c2 n4 c4 : Nat) (W : World) (_hA1 : A1 = none → n1 = 0 ∧ c1 = 0) (_hA2 : A2 = none → n2 = 0 ∧ c2 = 0) (_hA4 : A4 = none → n4 = 0 ∧ c4 = 0) (ha1 : SArr W W.heap.size A1 n1 33 fun i => cellsC (P i)) (ha2 : SArr W W.heap.size A2 n2 33 fun i => cellsC (Q i)) (ha4 : SArr W W.heap.size A4 n4 33 fun i => cellsC (R i)) :
    Calls Try.prog 7 #[.slice A1 n1 c1, .slice A2 n2 c2, .slice A4 n4 c4] W fun e W' => e = .returned (.bool true) ∧ Below W.heap.size W W' := by
  obtain ⟨i0, hi, hz0, hz1, hz2⟩ := infoParts infoC
  have HI := Lib.hid (And.intro hi (And.intro hz0 (And.intro hz1 hz2)))
  clear hi hz0 hz1 hz2
  have HA1 := Lib.hid ha1
  have HA2 := Lib.hid ha2
  have HA4 := Lib.hid ha4
  clear ha1 ha2 ha4 _hA1 _hA2 _hA4
  go_enter Try.func7, Try.ntmps7
  go_wp2_with fail
  refine (awake8 W).mono ?_
  rintro e w1 ⟨rfl, hb⟩
  have B1 := Lib.hid hb
  clear hb
  by_cases g1 : n1 ≤ 300
  · by_cases g2 : n2 ≤ 300
    · by_cases g4 : n4 ≤ 300
      · go_wp2_with fail
        obtain ⟨w2, hw2⟩ : ∃ w2, w2 = w1.alloc (.cells #[.slice A1 n1 c1, .slice A2 n2 c2, .slice A4 n4 c4] 25) := ⟨_, rfl⟩
        obtain ⟨bR, hbR⟩ : ∃ bR, bR = w1.heap.size := ⟨_, rfl⟩
        have HB2 : Hid (w2.heap[bR]? = some (.cells #[.slice A1 n1 c1, .slice A2 n2 c2, .slice A4 n4 c4] 25 (0, 0))) := Lib.hid (by rw [hw2, hbR]; exact heap_new w1 _)
        have B2 : Hid (Below W.heap.size W w2) := Lib.hid (by rw [hw2]; exact B1.out.alloc B1.out.size _)
        rw [← hbR, ← hw2]
        clear hw2 hbR B1
        have HCELL : Hid (∀ i, i < 3 → ∀ wr, Below w2.heap.size w2 wr → wr.cell? ⟨bR, i, none⟩ = some (.slice (A3 A1 A2 A4 i) (n3 n1 n2 n4 i) (n3 c1 c2 c4 i)) ∧ SArr wr wr.heap.size (A3 A1 A2 A4 i) (n3 n1 n2 n4 i) 33 fun j => cellsC (L3 P Q R i j)) := Lib.hid fun i hi wr hb => by
          have hbl := heap_lt HB2.out
          have hh : wr.heap[bR]? = some (.cells #[.slice A1 n1 c1, .slice A2 n2 c2, .slice A4 n4 c4] 25 (0, 0)) := (hb.block bR hbl).trans HB2.out
          have BB := B2.out.trans (hb.mono B2.out.size)
          match i, hi with
          | 0, _ => exact ⟨block_cell hh 0 _ rfl, (HA1.out.below BB (Nat.le_refl _)).more BB.size⟩
          | 1, _ => exact ⟨block_cell hh 1 _ rfl, (HA2.out.below BB (Nat.le_refl _)).more BB.size⟩
          | 2, _ => exact ⟨block_cell hh 2 _ rfl, (HA4.out.below BB (Nat.le_refl _)).more BB.size⟩
        go_loopw [8] (fun i wr => ∃ k : Nat, k ≤ 3 ∧ i = .int .i64 k ∧ (∀ q, q < k → small (L3 P Q R q) (n3 n1 n2 n4 q)) ∧ Below w2.heap.size w2 wr) (fun i _ => 3 - (intOf i).toNat)
        case atStart => exact ⟨0, Nat.zero_le _, rfl, fun q h => absurd h (by omega), Below.refl _ _⟩
        case round =>
          obtain ⟨i, hi3, rfl, hsm, hb⟩ := hrel
          have HSM := Lib.hid hsm
          have HB := Lib.hid hb
          clear hsm hb
          by_cases hlt : i < 3
          · obtain ⟨N, hN⟩ : ∃ N, N = n3 n1 n2 n4 i := ⟨_, rfl⟩
            obtain ⟨A, hA⟩ : ∃ A, A = A3 A1 A2 A4 i := ⟨_, rfl⟩
            obtain ⟨c, hc⟩ : ∃ c, c = n3 c1 c2 c4 i := ⟨_, rfl⟩
            obtain ⟨L, hL⟩ : ∃ L, L = L3 P Q R i := ⟨_, rfl⟩
            have HC : Hid (∀ wr, Below w2.heap.size w2 wr → wr.cell? ⟨bR, i, none⟩ = some (.slice A N c) ∧ SArr wr wr.heap.size A N 33 fun j => cellsC (L j)) := Lib.hid (by rw [hN, hA, hc, hL]; exact HCELL.out i hlt)
            have HLN := Lib.hid (And.intro hN hL)
            have hN3 : N ≤ 300 := by rw [hN]; unfold n3; split <;> omega
            have i1 : (0 : Int) ≤ i := by omega
            have i2 : (i : Int) < 3 := by omega
            clear hN hA hc hL
            go_wp2_with fail
            go_loopw [9] (fun i wr => ∃ k : Nat, k ≤ N ∧ i = .int .i64 k ∧ small L k ∧ Below w2.heap.size w2 wr) (fun i _ => N - (intOf i).toNat)
            case atStart => exact ⟨0, Nat.zero_le _, rfl, fun q h => absurd h (by omega), HB.out⟩
            case round =>
              clear HB
              obtain ⟨k, hk, rfl, hsk, hb⟩ := hrel
              have HSK := Lib.hid hsk
              have HB := Lib.hid hb
              obtain ⟨cc, sa⟩ := HC.out wr hb
              clear hsk hb
              by_cases hkn : k < N
              · obtain ⟨b, off, rfl, _, hcc⟩ := sa (by omega)
                have cr := ct_r' (L k) (hcc k hkn)
                obtain ⟨x, hx⟩ : ∃ x, x = (L k).1.r := ⟨_, rfl⟩
                have HX := Lib.hid hx
                rw [← hx] at cr
                have j1 : (0 : Int) ≤ k := by omega
                have j2 : (k : Int) < N := by omega
                clear hx hcc
                by_cases t1 : x > 1073741824
                · go_wp2_with fail
                  go_ret
                  exact ⟨rfl, B2.out.trans (HB.out.mono B2.out.size)⟩
                · by_cases t2 : x < -1073741824
                  · go_wp2_with fail
                    go_ret
                    exact ⟨rfl, B2.out.trans (HB.out.mono B2.out.size)⟩
                  · have HSK2 : Hid (small L (k + 1)) := Lib.hid fun q hq => by
                      rcases Nat.lt_or_ge q k with h | h
                      · exact HSK.out q h
                      · obtain rfl : q = k := by omega
                        rw [← HX.out]; omega
                    go_wp2_with fail
                    go_roundw
                    case rel => exact ⟨k + 1, by omega, by go_num, HSK2.out, HB.out⟩
                    case measure => simp [intOf]; omega
              · obtain rfl : k = N := by omega
                have HSM2 : Hid (∀ q, q < i + 1 → small (L3 P Q R q) (n3 n1 n2 n4 q)) := Lib.hid fun q hq => by
                  rcases Nat.lt_or_ge q i with h | h
                  · exact HSM.out q h
                  · obtain rfl : q = i := by omega
                    rw [← HLN.out.1, ← HLN.out.2]; exact HSK.out
                go_wp2_with fail
                go_roundw
                case rel => exact ⟨i + 1, by omega, by go_num, HSM2.out, HB.out⟩
                case measure => simp [intOf]; omega
          · obtain rfl : i = 3 := by omega
            have s1 : Hid (small P n1) := Lib.hid (HSM.out 0 (by omega))
            have s2 : Hid (small Q n2) := Lib.hid (HSM.out 1 (by omega))
            have B3 : Hid (Below W.heap.size W wr) := Lib.hid (B2.out.trans (HB.out.mono B2.out.size))
            obtain ⟨w3, hw3⟩ : ∃ w3, w3 = wr := ⟨_, rfl⟩
            subst hw3
            clear HSM HB HCELL HB2 B2 hlt hi3
            have T1 : Hid (∀ w', Below w3.heap.size w3 w' → SArr w' w'.heap.size A1 n1 33 fun i => cellsC (P i)) := Lib.hid fun w' h => by have BB := B3.out.trans (h.mono B3.out.size); exact (HA1.out.below BB (Nat.le_refl _)).more BB.size
            have T2 : Hid (∀ w', Below w3.heap.size w3 w' → SArr w' w'.heap.size A2 n2 33 fun i => cellsC (Q i)) := Lib.hid fun w' h => by have BB := B3.out.trans (h.mono B3.out.size); exact (HA2.out.below BB (Nat.le_refl _)).more BB.size
            have T4 : Hid (∀ w', Below w3.heap.size w3 w' → SArr w' w'.heap.size A4 n4 33 fun i => cellsC (R i)) := Lib.hid fun w' h => by have BB := B3.out.trans (h.mono B3.out.size); exact (HA4.out.below BB (Nat.le_refl _)).more BB.size
            clear HA1 HA2 HA4
            go_wp2_with fail
            refine (delta16 P Q A1 A2 n1 c1 n2 c2 w3 (by omega) (by omega) (T1.out w3 (Below.refl _ _)) (T2.out w3 (Below.refl _ _))).mono ?_
            rintro e w4 ⟨hr, hb⟩
            obtain ⟨D, m, A5, c5, rfl, hm5, hl5, hi5, ho5⟩ := rowOut_lst hr
            have I5 := Lib.hid hi5
            have B4 := Lib.hid hb
            have S5 := Lib.hid (srow_shape ho5)
            clear hr hb hi5 ho5
            go_wp2_with fail
            refine (delta16 Q P A2 A1 n2 c2 n1 c1 w4 (by omega) (by omega) (T2.out w4 B4.out) (T1.out w4 B4.out)).mono ?_
            rintro e w5 ⟨hr, hb⟩
            obtain ⟨E, m6, A6, c6, rfl, hm6, hl6, hi6, ho6⟩ := rowOut_lst hr
            obtain ⟨rfl, hel⟩ := neg_elem (IsRow.unique hi6 (turned_row g1 g2 s1.out s2.out I5.out) fun _ _ => rfl)
            have HEL := Lib.hid hel
            have B45 := Lib.hid hb
            have B5 := Lib.hid (B4.out.trans (hb.mono B4.out.size))
            have S6 := Lib.hid (srow_shape ho6)
            have S55 := Lib.hid ((S5.out.below hb (Nat.le_refl _)).more hb.size)
            clear hr hb hi6 ho6 hel S5
            have hne0 : ((m6 : Int) != m6) = false := by simp
            go_wp2_with fail
            go_loopw [12] (fun i wr => ∃ k q : Nat, k ≤ m6 ∧ i = .int .i64 k ∧ wr = w5.drewN q) (fun i _ => m6 - (intOf i).toNat)
            case atStart => exact ⟨0, 0, Nat.zero_le _, rfl, rfl⟩
            case round =>
              obtain ⟨k, q, hk, rfl, rfl⟩ := hrel
              by_cases hkm : k < m6
              · obtain ⟨b1, o1, rfl, _, hc1⟩ := S55.out (by omega)
                obtain ⟨b2, o2, rfl, _, hc2⟩ := S6.out (by omega)
                have R1 := Lib.hid (ct_k' (D k) (hc1 k hkm))
                have R2 := Lib.hid (ct_k' (E k) (hc2 k hkm))
                have V1 := Lib.hid (ct_r' (D k) (hc1 k hkm))
                have V2 := Lib.hid (ct_r' (E k) (hc2 k hkm))
                have HKK := Lib.hid (D k).2.key
                obtain ⟨ek, er⟩ := HEL.out k hkm
                rw [ek] at R2
                rw [er] at V2
                have hwf := pos_wrap (D k).2.r
                obtain ⟨x, hx⟩ : ∃ x, x = (D k).1.r := ⟨_, rfl⟩
                rw [← hx] at V1 V2 hwf
                obtain ⟨kk, hkk⟩ : ∃ kk, kk = (D k).1.k := ⟨_, rfl⟩
                rw [← hkk] at R1 R2 HKK
                have HKL : Hid ((Try.prog.info? 35).map (·.size) = some (u8l kk).length) := Lib.hid (by rw [u8l_len, HKK.out.len]; exact infoKey)
                have HEQ : Hid (∀ W, EqRun Try.prog 35 (u8l kk).toArray (u8l kk).toArray W true) := Lib.hid fun W => by have := eqK HKK.out HKK.out W; simpa using this
                obtain ⟨y, hy⟩ : ∃ y, y = -x := ⟨_, rfl⟩
                rw [← hy] at V2
                have hw : IntKind.i64.wrap (-y) = x := by
                  rw [IntWalk.i64_left, hy, Int.neg_neg]
                  rw [Int.one_mul] at hwf
                  exact hwf.symm
                have i1 : (0 : Int) ≤ k := by omega
                have i2 : (k : Int) < m6 := by omega
                clear hc1 hc2 ek er hwf hx hkk hy
                go_wp2_with fail
                refine wp_region_held_drew (S := fun w' => (w'.rangeAt b1 (o1 + k * 33) (u8l kk) ∧ w'.rangeAt b2 (o2 + k * 33) (u8l kk)) ∧ w'.cell? ⟨b1, o1 + k * 33 + 32, none⟩ = some (.int .i64 x) ∧ w'.cell? ⟨b2, o2 + k * 33 + 32, none⟩ = some (.int .i64 y)) (by kernel_rfl) ⟨⟨R1.out, R2.out⟩, V1.out, V2.out⟩ (fun hHeld => ?_)
                refine wpAnyH_take (i := 0) (v := ?_) (by simp only [List.getElem?_toArray, List.getElem?_cons_zero]; rfl) (by kernel_rfl) (by kernel_rfl) (by kernel_rfl) (by intro _ _ _ h; exact h) (Or.inl ⟨by rfl, ?_⟩) hHeld ?_
                rotate_left
                · (intro w hSw; (try dsimp only at hSw); go_simp; try with_reducible rfl)
                try simp only [Act.put, List.setIfInBounds_toArray, List.set_cons_zero, List.set_cons_succ]
                refine wpAnyH_take (i := 1) (v := ?_) (by simp only [List.getElem?_toArray, List.getElem?_cons_zero, List.getElem?_cons_succ]; rfl) (by kernel_rfl) (by kernel_rfl) (by kernel_rfl) (by intro _ _ _ h; exact h) (Or.inl ⟨by rfl, ?_⟩) hHeld ?_
                rotate_left
                · (intro w hSw; (try dsimp only at hSw); go_simp; try with_reducible rfl)
                try simp only [Act.put, List.setIfInBounds_toArray, List.set_cons_zero, List.set_cons_succ]
                refine wpAnyH_take (i := 2) (v := ?_) (by simp only [List.getElem?_toArray, List.getElem?_cons_zero, List.getElem?_cons_succ]; rfl) (by kernel_rfl) (by kernel_rfl) (by kernel_rfl) (by intro _ _ _ h; exact h) (Or.inl ⟨by rfl, ?_⟩) hHeld ?_
                rotate_left
                · (intro w hSw; (try dsimp only at hSw); go_simp; try with_reducible rfl)
                try simp only [Act.put, List.setIfInBounds_toArray, List.set_cons_zero, List.set_cons_succ]
                refine wpAnyH_take (i := 3) (v := ?_) (by simp only [List.getElem?_toArray, List.getElem?_cons_zero, List.getElem?_cons_succ]; rfl) (by kernel_rfl) (by kernel_rfl) (by kernel_rfl) (by intro _ _ _ h; exact h) (Or.inl ⟨by rfl, ?_⟩) hHeld ?_
                rotate_left
                · (intro w hSw; (try dsimp only at hSw); go_simp; try with_reducible rfl)
                try simp only [Act.put, List.setIfInBounds_toArray, List.set_cons_zero, List.set_cons_succ]
                refine wpAnyH_take (i := 4) (v := _) (by simp only [List.getElem?_toArray, List.getElem?_cons_zero, List.getElem?_cons_succ]; rfl) (by kernel_rfl) (by kernel_rfl) (by kernel_rfl) (by intro _ _ _ h; exact h) (yieldsIf_load_mid (by rfl) 35 (.tmp 86) rfl b1 (o1 + k * 33) rfl (u8l kk) _ (fun _ h => h.1.1) Try.underlying35 rfl HKL.out) hHeld ?_
                try simp only [Act.put, List.setIfInBounds_toArray, List.set_cons_zero, List.set_cons_succ]
                refine wpAnyH_take (i := 5) (v := ?_) (by simp only [List.getElem?_toArray, List.getElem?_cons_zero, List.getElem?_cons_succ]; rfl) (by kernel_rfl) (by kernel_rfl) (by kernel_rfl) (by intro _ _ _ h; exact h) (Or.inl ⟨by rfl, ?_⟩) hHeld ?_
                rotate_left
                · (intro w hSw; (try dsimp only at hSw); go_simp; try with_reducible rfl)
                try simp only [Act.put, List.setIfInBounds_toArray, List.set_cons_zero, List.set_cons_succ]
                refine wpAnyH_take (i := 6) (v := ?_) (by simp only [List.getElem?_toArray, List.getElem?_cons_zero, List.getElem?_cons_succ]; rfl) (by kernel_rfl) (by kernel_rfl) (by kernel_rfl) (by intro _ _ _ h; exact h) (Or.inl ⟨by rfl, ?_⟩) hHeld ?_
                rotate_left
                · (intro w hSw; (try dsimp only at hSw); go_simp; try with_reducible rfl)
                try simp only [Act.put, List.setIfInBounds_toArray, List.set_cons_zero, List.set_cons_succ]
                refine wpAnyH_take (i := 7) (v := ?_) (by simp only [List.getElem?_toArray, List.getElem?_cons_zero, List.getElem?_cons_succ]; rfl) (by kernel_rfl) (by kernel_rfl) (by kernel_rfl) (by intro _ _ _ h; exact h) (Or.inl ⟨by rfl, ?_⟩) hHeld ?_
                rotate_left
                · (intro w hSw; (try dsimp only at hSw); go_simp; try with_reducible rfl)
                try simp only [Act.put, List.setIfInBounds_toArray, List.set_cons_zero, List.set_cons_succ]
                refine wpAnyH_take (i := 8) (v := ?_) (by simp only [List.getElem?_toArray, List.getElem?_cons_zero, List.getElem?_cons_succ]; rfl) (by kernel_rfl) (by kernel_rfl) (by kernel_rfl) (by intro _ _ _ h; exact h) (Or.inl ⟨by rfl, ?_⟩) hHeld ?_
                rotate_left
                · (intro w hSw; (try dsimp only at hSw); go_simp; try with_reducible rfl)
                try simp only [Act.put, List.setIfInBounds_toArray, List.set_cons_zero, List.set_cons_succ]
                refine wpAnyH_take (i := 9) (v := _) (by simp only [List.getElem?_toArray, List.getElem?_cons_zero, List.getElem?_cons_succ]; rfl) (by kernel_rfl) (by kernel_rfl) (by kernel_rfl) (by intro _ _ _ h; exact h) (yieldsIf_load_mid (by rfl) 35 (.tmp 91) rfl b2 (o2 + k * 33) rfl (u8l kk) _ (fun _ h => h.1.2) Try.underlying35 rfl HKL.out) hHeld ?_
                try simp only [Act.put, List.setIfInBounds_toArray, List.set_cons_zero, List.set_cons_succ]
                refine wpAnyH_take (i := 10) (v := _) (by simp only [List.getElem?_toArray, List.getElem?_cons_zero, List.getElem?_cons_succ]; rfl) (by kernel_rfl) (by kernel_rfl) (by kernel_rfl) (by intro _ _ _ h; exact h) (yields_neq (by rfl) 35 (.tmp 87) (.tmp 92) rfl (u8l kk).toArray (u8l kk).toArray rfl rfl true eqgK (fun W => HEQ.out W)) hHeld ?_
                try simp only [Act.put, List.setIfInBounds_toArray, List.set_cons_zero, List.set_cons_succ]
                refine wpAnyH_take (i := 11) (v := ?_) (by simp only [List.getElem?_toArray, List.getElem?_cons_zero, List.getElem?_cons_succ]; rfl) (by kernel_rfl) (by kernel_rfl) (by kernel_rfl) (by intro _ _ _ h; exact h) (Or.inl ⟨by rfl, ?_⟩) hHeld ?_
                rotate_left
                · (intro w hSw; (try dsimp only at hSw); go_simp; try with_reducible rfl)
                try simp only [Act.put, List.setIfInBounds_toArray, List.set_cons_zero, List.set_cons_succ]
                refine wpAnyH_take (i := 12) (v := ?_) (by simp only [List.getElem?_toArray, List.getElem?_cons_zero, List.getElem?_cons_succ]; rfl) (by kernel_rfl) (by kernel_rfl) (by kernel_rfl) (by intro _ _ _ h; exact h) (Or.inl ⟨by rfl, ?_⟩) hHeld ?_
                rotate_left
                · (intro w hSw; (try dsimp only at hSw); go_simp; try with_reducible rfl)
                try simp only [Act.put, List.setIfInBounds_toArray, List.set_cons_zero, List.set_cons_succ]
                refine wpAnyH_take (i := 13) (v := ?_) (by simp only [List.getElem?_toArray, List.getElem?_cons_zero, List.getElem?_cons_succ]; rfl) (by kernel_rfl) (by kernel_rfl) (by kernel_rfl) (by intro _ _ _ h; exact h) (Or.inl ⟨by rfl, ?_⟩) hHeld ?_
                rotate_left
                · (intro w hSw; (try dsimp only at hSw); go_simp; try with_reducible rfl)
                try simp only [Act.put, List.setIfInBounds_toArray, List.set_cons_zero, List.set_cons_succ]
                refine wpAnyH_take (i := 14) (v := ?_) (by simp only [List.getElem?_toArray, List.getElem?_cons_zero, List.getElem?_cons_succ]; rfl) (by kernel_rfl) (by kernel_rfl) (by kernel_rfl) (by intro _ _ _ h; exact h) (Or.inl ⟨by rfl, ?_⟩) hHeld ?_
                rotate_left
                · (intro w hSw; (try dsimp only at hSw); go_simp; try with_reducible rfl)
                try simp only [Act.put, List.setIfInBounds_toArray, List.set_cons_zero, List.set_cons_succ]
                refine wpAnyH_take (i := 15) (v := ?_) (by simp only [List.getElem?_toArray, List.getElem?_cons_zero, List.getElem?_cons_succ]; rfl) (by kernel_rfl) (by kernel_rfl) (by kernel_rfl) (by intro _ _ _ h; exact h) (Or.inl ⟨by rfl, ?_⟩) hHeld ?_
                rotate_left
                · (intro w hSw; (try dsimp only at hSw); go_simp; try with_reducible rfl)
                try simp only [Act.put, List.setIfInBounds_toArray, List.set_cons_zero, List.set_cons_succ]
                refine wpAnyH_take (i := 16) (v := ?_) (by simp only [List.getElem?_toArray, List.getElem?_cons_zero, List.getElem?_cons_succ]; rfl) (by kernel_rfl) (by kernel_rfl) (by kernel_rfl) (by intro _ _ _ h; exact h) (Or.inl ⟨by rfl, ?_⟩) hHeld ?_
                rotate_left
                · (intro w hSw; have hSw := hSw.2; go_simp; try with_reducible rfl)
                try simp only [Act.put, List.setIfInBounds_toArray, List.set_cons_zero, List.set_cons_succ]
                refine wpAnyH_take (i := 17) (v := ?_) (by simp only [List.getElem?_toArray, List.getElem?_cons_zero, List.getElem?_cons_succ]; rfl) (by kernel_rfl) (by kernel_rfl) (by kernel_rfl) (by intro _ _ _ h; exact h) (Or.inl ⟨by rfl, ?_⟩) hHeld ?_
                rotate_left
                · (intro w hSw; (try dsimp only at hSw); go_simp; try with_reducible rfl)
                try simp only [Act.put, List.setIfInBounds_toArray, List.set_cons_zero, List.set_cons_succ]
                refine wpAnyH_take (i := 18) (v := ?_) (by simp only [List.getElem?_toArray, List.getElem?_cons_zero, List.getElem?_cons_succ]; rfl) (by kernel_rfl) (by kernel_rfl) (by kernel_rfl) (by intro _ _ _ h; exact h) (Or.inl ⟨by rfl, ?_⟩) hHeld ?_
                rotate_left
                · (intro w hSw; (try dsimp only at hSw); go_simp; try with_reducible rfl)
                try simp only [Act.put, List.setIfInBounds_toArray, List.set_cons_zero, List.set_cons_succ]
                refine wpAnyH_take (i := 19) (v := ?_) (by simp only [List.getElem?_toArray, List.getElem?_cons_zero, List.getElem?_cons_succ]; rfl) (by kernel_rfl) (by kernel_rfl) (by kernel_rfl) (by intro _ _ _ h; exact h) (Or.inl ⟨by rfl, ?_⟩) hHeld ?_
                rotate_left
                · (intro w hSw; (try dsimp only at hSw); go_simp; try with_reducible rfl)
                try simp only [Act.put, List.setIfInBounds_toArray, List.set_cons_zero, List.set_cons_succ]
                refine wpAnyH_take (i := 20) (v := ?_) (by simp only [List.getElem?_toArray, List.getElem?_cons_zero, List.getElem?_cons_succ]; rfl) (by kernel_rfl) (by kernel_rfl) (by kernel_rfl) (by intro _ _ _ h; exact h) (Or.inl ⟨by rfl, ?_⟩) hHeld ?_
                rotate_left
                · (intro w hSw; (try dsimp only at hSw); go_simp; try with_reducible rfl)
                try simp only [Act.put, List.setIfInBounds_toArray, List.set_cons_zero, List.set_cons_succ]
                refine wpAnyH_take (i := 21) (v := ?_) (by simp only [List.getElem?_toArray, List.getElem?_cons_zero, List.getElem?_cons_succ]; rfl) (by kernel_rfl) (by kernel_rfl) (by kernel_rfl) (by intro _ _ _ h; exact h) (Or.inl ⟨by rfl, ?_⟩) hHeld ?_
                rotate_left
                · (intro w hSw; have hSw := hSw.2; go_simp; try with_reducible rfl)
                try simp only [Act.put, List.setIfInBounds_toArray, List.set_cons_zero, List.set_cons_succ]
                refine wpAnyH_take (i := 22) (v := ?_) (by simp only [List.getElem?_toArray, List.getElem?_cons_zero, List.getElem?_cons_succ]; rfl) (by kernel_rfl) (by kernel_rfl) (by kernel_rfl) (by intro _ _ _ h; exact h) (Or.inl ⟨by rfl, ?_⟩) hHeld ?_
                rotate_left
                · (intro w hSw; (try dsimp only at hSw); go_simp; try with_reducible rfl)
                try simp only [Act.put, List.setIfInBounds_toArray, List.set_cons_zero, List.set_cons_succ]
                refine wpAnyH_take (i := 23) (v := ?_) (by simp only [List.getElem?_toArray, List.getElem?_cons_zero, List.getElem?_cons_succ]; rfl) (by kernel_rfl) (by kernel_rfl) (by kernel_rfl) (by intro _ _ _ h; exact h) (Or.inl ⟨by rfl, ?_⟩) hHeld ?_
                rotate_left
                · (intro w hSw; (try dsimp only at hSw); go_simp; try with_reducible rfl)
                try simp only [Act.put, List.setIfInBounds_toArray, List.set_cons_zero, List.set_cons_succ]
                refine wpAnyH_take (i := 24) (v := ?_) (by simp only [List.getElem?_toArray, List.getElem?_cons_zero, List.getElem?_cons_succ]; rfl) (by kernel_rfl) (by kernel_rfl) (by kernel_rfl) (by intro _ _ _ h; exact h) (Or.inl ⟨by rfl, ?_⟩) hHeld ?_
                rotate_left
                · (intro w hSw; (try dsimp only at hSw); go_simp; try with_reducible rfl)
                try simp only [Act.put, List.setIfInBounds_toArray, List.set_cons_zero, List.set_cons_succ]
                refine wpAnyH_done (by kernel_rfl) ?_ _
                clear hHeld
                go_wp2_with fail
                go_roundw
                case rel => exact ⟨k + 1, _, by omega, by go_num, rfl⟩
                case measure => simp [intOf]; omega
              · obtain rfl : k = m6 := by omega
                have B6 : Hid (Below w3.heap.size w3 (w5.drewN q)) := Lib.hid (below_drewN B5.out q)
                obtain ⟨w6, hw6⟩ : ∃ w6, w6 = w5.drewN q := ⟨_, rfl⟩
                rw [← hw6] at B6 ⊢
                clear hw6 S55 S6 HEL B5 B45 B4
                go_wp2_with fail
                refine (delta16 P Q A1 A2 n1 c1 n2 c2 w6 (by omega) (by omega) (T1.out w6 B6.out) (T2.out w6 B6.out)).mono ?_
                rintro e w7 ⟨hr, hb⟩
                obtain ⟨X, m7, A7, c7, rfl, hm7, hl7, hi7, ho7⟩ := rowOut_lst hr
                have I7 := Lib.hid hi7
                have O7 := Lib.hid ho7
                have B67 := Lib.hid hb
                have B7 := Lib.hid (B6.out.trans (hb.mono B6.out.size))
                clear hr hb hi7 ho7
                go_wp2_with fail
                refine (delta16 Q R A2 A4 n2 c2 n4 c4 w7 (by omega) (by omega) (T2.out w7 B7.out) (T4.out w7 B7.out)).mono ?_
                rintro e w8 ⟨hr, hb⟩
                obtain ⟨Y, m8, A8, c8, rfl, hm8, hl8, hi8, ho8⟩ := rowOut_lst hr
                have I8 := Lib.hid hi8
                have S8 := Lib.hid (srow_shape ho8)
                have HN8 := Lib.hid (row_nilS ho8)
                have B78 := Lib.hid hb
                have B8 := Lib.hid (B7.out.trans (hb.mono B7.out.size))
                have O78 := Lib.hid ((Keeps.fresh (S := fun _ => False) hb).row O7.out (fun _ _ h => h))
                have HLE := Lib.hid (Nat.le_trans B67.out.size hb.size)
                have HF8 : Hid ((flatS (fun i => cellsC (Y i)) m8).length = m8 * 33) := Lib.hid (flatS_len (wideC Y) m8)
                have HON8 := Lib.hid (onesC Y m8)
                clear hr hb hi8 ho8
                go_upto_region 23 with (at_builtin; refine wpList_append_any rfl _ _ 25 rfl w6.heap.size 45 i0 (.agg zC.toArray) 33 40 Try.underlying25 HI.out.1 HI.out.2.1 HI.out.2.2.1 HI.out.2.2.2 rfl (by decide) _ m7 _ rfl O78.out A8 m8 c8 (flatS (fun i => cellsC (Y i)) m8) rfl HN8.out HF8.out (S8.out.cellsAt (wideC Y)) HON8.out (by unfold maxLen; omega) (by omega) HLE.out ?_; intro v9 w9 hown9 hg9)
                rw [cat_flat] at hown9
                obtain ⟨A9, c9, rfl⟩ := row_shapeS hown9
                have B9 : Hid (Below w3.heap.size w3 w9) := Lib.hid (B8.out.grown hg9 B8.out.size (fun z e => Nat.le_trans B6.out.size (row_lt O78.out e).1))
                have S9 := Lib.hid (srow_shape hown9)
                clear hown9 hg9
                go_wp2_with fail
                refine (delta16 X (catL X Y m7) none A9 0 0 (m7 + m8) c9 w9 (by omega) (by omega) (fun h => absurd h (by omega)) S9.out).mono ?_
                rintro e w10 ⟨hr, hb⟩
                obtain ⟨F, m10, A10, c10, rfl, hm10, hl10, hi10, ho10⟩ := rowOut_lst hr
                have I10 := Lib.hid hi10
                have B10 := Lib.hid (B9.out.trans (hb.mono B9.out.size))
                have O10 := Lib.hid ho10
                clear hr hb hi10 ho10
                go_wp2_with fail
                refine (delta16 P R A1 A4 n1 c1 n4 c4 w10 (by omega) (by omega) (T1.out w10 B10.out) (T4.out w10 B10.out)).mono ?_
                rintro e w11 ⟨hr, hb⟩
                obtain ⟨G, m11, A11, c11, rfl, hm11, hl11, hi11, ho11⟩ := rowOut_lst hr
                obtain ⟨rfl, hge⟩ := lst_inj (both_row I7.out I8.out (cat_lst X Y m7 m8) hi11 X I10.out)
                have B11 := Lib.hid (B10.out.trans (hb.mono B10.out.size))
                have O11 := Lib.hid ((Keeps.fresh (S := fun _ => False) hb).row O10.out (fun _ _ h => h))
                have S11 := Lib.hid (srow_congr (srow_shape ho11) (M := F) (fun j hj => (hge j hj).symm))
                clear hr hb hi11 ho11
                go_wp2_with fail
                refine (sameC F A10 A11 m10 c10 c11 _ _ w11 (by omega) (srow_shape O11.out) S11.out).mono ?_
                rintro e w12 ⟨rfl, z, hz⟩
                have B12 := Lib.hid (by have := below_drewN B11.out z; rwa [← hz] at this)
                clear hz
                go_wp2_with fail
                go_ret
                exact ⟨rfl, B3.out.trans (B12.out.mono B3.out.size)⟩
      · go_wp2_with fail
        go_ret
        exact ⟨rfl, B1.out⟩
    · go_wp2_with fail
      go_ret
      exact ⟨rfl, B1.out⟩
  · go_wp2_with fail
    go_ret
    exact ⟨rfl, B1.out⟩
end Go.Proofs.Ytblfkngdieffiaa
