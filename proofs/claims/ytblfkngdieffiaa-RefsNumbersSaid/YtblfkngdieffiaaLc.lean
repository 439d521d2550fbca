/- Layer 24 (refs): the law RefsCount. -/
import Derived.Test.YtblfkngdieffiaaLd
namespace Go.Proofs.Ytblfkngdieffiaa
open Go.RowKit Go.Maps Go.WideMaps
theorem csI_sum (I : Nat → ElIt) (k : List Int) : ∀ n, 0 ≤ sumT (csI I n) k ∧ sumT (csI I n) k ≤ n ∧ (hasK (csI I n) k = true → 1 ≤ sumT (csI I n) k)
  | 0 => ⟨by simp [csI, sumT], by simp [csI, sumT], fun h => by simp [csI, hasK] at h⟩
  | n + 1 => by
    obtain ⟨h1, h2, h3⟩ := csI_sum I k n
    unfold csI
    split
    · rw [sumT_append, hasK_append]
      by_cases h : (I n).1.sk = k
      · have e1 : sumT [(⟨(I n).1.sk, 1⟩ : Ct)] k = 1 := by simp [sumT, h]
        rw [e1]
        exact ⟨by omega, by omega, fun _ => by omega⟩
      · have e1 : sumT [(⟨(I n).1.sk, 1⟩ : Ct)] k = 0 := by simp [sumT, h]
        have e2 : hasK [(⟨(I n).1.sk, 1⟩ : Ct)] k = false := by simp [hasK, h]
        rw [e1, e2, Bool.or_false, Int.add_zero]
        exact ⟨h1, by omega, h3⟩
    · rw [List.append_nil]
      exact ⟨h1, by omega, h3⟩
/-- Where every one counts 1, no sum is 0. -/
theorem made_ones {I : Nat → ElIt} {n : Nat} {R : List Ct} (hn : n ≤ 1000000) (h : Made (csI I n) R) : IsRow (csI I n) R := by
  have h1 := h.row
  have e : (R.filter fun c => decide (c.r ≠ 0)) = R := by
    rw [List.filter_eq_self]
    intro c hc
    obtain ⟨hr, hk⟩ := (h.has c.k c.r (h.keys c hc)).1 hc
    obtain ⟨q1, q2, q3⟩ := csI_sum I c.k n
    have := q3 hk
    rw [IntWalk.wrap64_in _ (by omega)] at hr
    simp
    omega
  rwa [e] at h1
set_option maxRecDepth 100000 in
set_option maxHeartbeats 4000000 in
theorem count3 (I : Nat → ElIt) (A1 : Option Addr) (n1 c1 : Nat) (W : World) (hA1 : A1 = none → n1 = 0 ∧ c1 = 0) (ha1 : SArr W W.heap.size A1 n1 73 fun i => cellsIt (I i)) :
    Calls Try.prog 3 #[.slice A1 n1 c1] W fun e W' => e = .returned (.bool true) ∧ Below W.heap.size W W' := by
  have HA1 := Lib.hid ha1
  have HN1 := Lib.hid hA1
  clear ha1 hA1
  go_enter Try.func3, Try.ntmps3
  by_cases g1 : n1 ≤ 600
  · go_wp2_with fail
    refine (lentIt I A1 n1 c1 W (by omega) HA1.out HN1.out).mono ?_
    rintro e w2 ⟨b1, rfl, hb1, hc1, hb⟩
    have B2 := Lib.hid hb
    have G1 : Hid (∀ w', Below w2.heap.size w2 w' → w'.heap[b1]? = some (.cells (flatS (fun i => cellsIt (I i)) n1 ++ mkRowIt 1 12).toArray 42 (0, 0))) := Lib.hid fun w' h => (h.block b1 (heap_lt hc1)).trans hc1
    clear hb1 hc1 hb
    have S1 : Hid (∀ w', Below w2.heap.size w2 w' → SArr w' w'.heap.size (some ⟨b1, 0, none⟩) n1 73 fun i => cellsIt (I i)) := Lib.hid fun w' h => lent_sarrIt (G1.out w' h)
    go_wp2_with fail
    refine (count10 I _ n1 _ w2 (by omega) (S1.out w2 (Below.refl _ _))).mono ?_
    rintro e w3 ⟨hr, hb⟩
    obtain ⟨E3, m3, A3, c3, rfl, hm3, hl3, hi3, ho3⟩ := rowOut_lst hr
    have I3 := Lib.hid hi3
    have O3 := Lib.hid ho3
    have B23 := Lib.hid hb
    clear hr hb hi3 ho3
    go_wp2_with fail
    refine (count10 I _ n1 _ w3 (by omega) (S1.out w3 B23.out)).mono ?_
    rintro e w4 ⟨hr, hb⟩
    obtain ⟨E4, m4, A4, c4, rfl, hm4, hl4, hi4, ho4⟩ := rowOut_lst hr
    have O4 := Lib.hid ho4
    have B24 := Lib.hid (B23.out.trans (hb.mono B23.out.size))
    have B4 := Lib.hid (B2.out.trans (B24.out.mono B2.out.size))
    have O34 := Lib.hid ((Keeps.fresh (S := fun _ => False) hb).row O3.out (fun _ _ h => h))
    have DAB := Lib.hid (own_next O3.out ho4 (Nat.le_refl _))
    clear hr hb hi4 ho4
    go_wp2_with fail
    refine (refCount I A1 n1 c1 w4 (by omega) ((HA1.out.below B4.out (Nat.le_refl _)).more B4.out.size)).mono ?_
    rintro e w5 ⟨M5, m5, v5, rfl, hi5, hl5, ho5, hb⟩
    obtain ⟨rfl, he5⟩ := rows_same I3.out (made_ones (by omega) hi5)
    obtain ⟨A5, c5, rfl⟩ := row_shapeS ho5
    have S5 := Lib.hid (srow_congr (srow_shape ho5) he5)
    have B25 := Lib.hid (B24.out.trans (hb.mono B24.out.size))
    have B5 := Lib.hid (B4.out.trans (hb.mono B4.out.size))
    have O35 := Lib.hid ((Keeps.fresh (S := fun _ => False) hb).row O34.out (fun _ _ h => h))
    have O45 := Lib.hid ((Keeps.fresh (S := fun _ => False) hb).row O4.out (fun _ _ h => h))
    clear hb ho5 hi5 he5
    go_wp2_with fail
    refine (sameC E3 A3 A5 m5 c3 c5 _ _ w5 (by omega) (srow_shape O35.out) S5.out).mono ?_
    rintro e w6 ⟨rfl, q, hq⟩
    have B26 := Lib.hid (by have := below_drewN B25.out q; rwa [← hq] at this)
    have B6 := Lib.hid (by have := below_drewN B5.out q; rwa [← hq] at this)
    have O36 : Hid (w6.ownsRow w2.heap.size 45 33 (.slice A3 m5 c3) m5 (flatS (fun i => cellsC (E3 i)) m5)) := Lib.hid (by rw [hq]; exact O35.out)
    have O46 : Hid (w6.ownsRow w3.heap.size 45 33 (.slice A4 m4 c4) m4 (flatS (fun i => cellsC (E4 i)) m4)) := Lib.hid (by rw [hq]; exact O45.out)
    clear hq O35 O45 S5
    go_wp2_with fail
    refine (keptIt I A1 b1 n1 c1 w6 (by omega) ((HA1.out.below B6.out (Nat.le_refl _)).more B6.out.size) (G1.out w6 B26.out)).mono ?_
    rintro e w8 ⟨rfl, hb⟩
    have B8 := Lib.hid (B6.out.trans (hb.mono B6.out.size))
    have O38 := Lib.hid ((Keeps.fresh (S := fun _ => False) hb).row O36.out (fun _ _ h => h))
    have O48 := Lib.hid ((Keeps.fresh (S := fun _ => False) hb).row O46.out (fun _ _ h => h))
    clear hb O36 O46
    go_wp2_with fail
    have HB23 := Nat.le_trans B2.out.size B23.out.size
    refine (apartC2 w8 W.heap.size A3 A4 m5 m4 c3 c4 E3 E4 (row_more O38.out B2.out.size) (row_more O48.out HB23) (by omega) (by omega) DAB.out B8.out.size).mono ?_
    rintro e w9 ⟨rfl, hk⟩
    have B9 := Lib.hid (B8.out.trans (hk.below (fun x hx => hx.elim (fun h => Nat.le_trans B2.out.size (O38.out.lt x h).1) fun h => Nat.le_trans HB23 (O48.out.lt x h).1) B8.out.size))
    clear hk
    go_wp2_with fail
    refine (awake8 w9).mono ?_
    rintro e w10 ⟨rfl, hb⟩
    have B10 := Lib.hid (B9.out.trans (hb.mono B9.out.size))
    clear hb
    go_wp2_with fail
    go_ret
    exact ⟨rfl, B10.out⟩
  · go_wp2_with fail
    refine (awake8 W).mono ?_
    rintro e w1 ⟨rfl, hb⟩
    have B1 := Lib.hid hb
    clear hb
    go_wp2_with fail
    go_ret
    exact ⟨rfl, B1.out⟩
end Go.Proofs.Ytblfkngdieffiaa
