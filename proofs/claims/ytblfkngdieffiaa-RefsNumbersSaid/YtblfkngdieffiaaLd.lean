/- Layer 24 (refs): the law RefsDelta. -/
import Derived.Test.YtblfkngdieffiaaAx
import Derived.Test.YtblfkngdieffiaaPhC
namespace Go.Proofs.Ytblfkngdieffiaa
open Go.RowKit Go.Maps Go.WideMaps
theorem apartC2 (w : World) (base : Nat) (Aa Ab : Option Addr) (na nb ca cb : Nat) (Pa Pb : Nat → ElC) (ha : w.ownsRow base 45 33 (.slice Aa na ca) na (flatS (fun i => cellsC (Pa i)) na)) (hb : w.ownsRow base 45 33 (.slice Ab nb cb) nb (flatS (fun i => cellsC (Pb i)) nb))
    (h1 : na ≤ 900000000) (h2 : nb ≤ 900000000) (dab : ∀ x, (Value.slice Aa na ca).ownBlock = some x → (Value.slice Ab nb cb).ownBlock ≠ some x) (hbase : base ≤ w.heap.size) :
    Calls Try.prog 14 #[.slice (some ⟨w.heap.size, 0, none⟩) 2 2] (w.alloc (.cells #[.slice Aa na ca, .slice Ab nb cb] 25)) fun e w' => e = .returned (.bool true) ∧ Keeps (fun x => (Value.slice Aa na ca).ownBlock = some x ∨ (Value.slice Ab nb cb).ownBlock = some x) w w' := by
  have hk : Keeps (fun _ => False) w (w.alloc (.cells #[.slice Aa na ca, .slice Ab nb cb] 25)) := Keeps.alloc _ w _
  refine (apartC _ base 2 2 (some ⟨w.heap.size, 0, none⟩) (fun j => match j with | 0 => Aa | _ => Ab) (fun j => match j with | 0 => na | _ => nb) (fun j => match j with | 0 => ca | _ => cb) (by omega) (by omega) (fun j hj => ?_) (Arr.ofBlock 2 _ (heap_new w _) fun j hj => ?_) (fun j hj => ?_) (fun j k hj hk hne x hx => ?_) (by simp; omega)).mono ?_
  · match j, hj with
    | 0, _ => exact h1
    | 1, _ => exact h2
  · match j, hj with
    | 0, _ => rfl
    | 1, _ => rfl
  · match j, hj with
    | 0, _ => exact ⟨fun i => cellsC (Pa i), wideC Pa, fun i => oneC _, fun i hi => absurd hi (by omega), hk.row ha fun _ _ h => h⟩
    | 1, _ => exact ⟨fun i => cellsC (Pb i), wideC Pb, fun i => oneC _, fun i hi => absurd hi (by omega), hk.row hb fun _ _ h => h⟩
  · match j, hj, k, hk with
    | 0, _, 0, _ => exact absurd rfl hne
    | 0, _, 1, _ => exact dab x hx
    | 1, _, 0, _ => exact fun h => dab x h hx
    | 1, _, 1, _ => exact absurd rfl hne
  · rintro e w' ⟨he, hk2⟩
    refine ⟨he, (Keeps.alloc _ w _).trans hk2 fun x _ hx => ?_⟩
    obtain ⟨j, hj, hx⟩ := hx
    match j, hj with
    | 0, _ => exact .inl hx
    | 1, _ => exact .inr hx
theorem lst_get (L : Nat → ElC) : ∀ (n i : Nat), i < n → (lst L n)[i]? = some (L i).1
  | n + 1, i, hi => by
    rw [lst, List.getElem?_append, lst_len]
    by_cases h : i < n
    · rw [if_pos h]; exact lst_get L n i h
    · obtain rfl : i = n := by omega
      rw [if_neg (by omega)]; simp
theorem lst_inj {L M : Nat → ElC} {n m : Nat} (h : lst L n = lst M m) : n = m ∧ ∀ j, j < n → L j = M j := by
  have hn : n = m := by
    have := congrArg List.length h
    rwa [lst_len, lst_len] at this
  subst hn
  refine ⟨rfl, fun j hj => ?_⟩
  have h1 := congrArg (fun l => l[j]?) h
  simp only [lst_get L n j hj, lst_get M n j hj] at h1
  injection h1 with h1
  exact Subtype.ext h1
/-- A row that was found, as elements. -/
theorem rowOut_lst {cs : List Ct} {base n : Nat} {e : Ending} {w' : World} (h : RowOut cs base n e w') : ∃ (E : Nat → ElC) (m : Nat) (A : Option Addr) (c : Nat), e = .returned (.slice A m c) ∧ m ≤ c ∧ m ≤ n ∧ IsRow cs (lst E m) ∧ w'.ownsRow base 45 33 (.slice A m c) m (flatS (fun i => cellsC (E i)) m) := by
  obtain ⟨D, v, rfl, hD, hn, ho⟩ := h
  obtain ⟨A, c, rfl⟩ := row_shapeS ho
  exact ⟨fun i => D[i]!, D.size, A, c, rfl, row_le_capS ho, hn, by rw [lst_arr]; exact hD, ho⟩
theorem rows_same {cs : List Ct} {E M : Nat → ElC} {m k : Nat} (h1 : IsRow cs (lst E m)) (h2 : IsRow cs (lst M k)) : k = m ∧ ∀ j, j < k → M j = E j := lst_inj (IsRow.unique h2 h1 fun _ _ => rfl)
theorem srow_congr {w : World} {B : Nat} {A : Option Addr} {n : Nat} {L M : Nat → ElC} (h : SArr w B A n 33 fun i => cellsC (L i)) (e : ∀ j, j < n → L j = M j) : SArr w B A n 33 fun i => cellsC (M i) := h.congr fun j hj => by show cellsC (L j) = cellsC (M j); rw [e j hj]
theorem own_next {w : World} {base base' : Nat} {A A' : Option Addr} {n n' c c' : Nat} {xs xs' : List Value} {w' : World} (h : w.ownsRow base 45 33 (.slice A n c) n xs) (h' : w'.ownsRow base' 45 33 (.slice A' n' c') n' xs') (hb : w.heap.size ≤ base') : ∀ x, (Value.slice A n c).ownBlock = some x → (Value.slice A' n' c').ownBlock ≠ some x := fun x hx hx' => by
  have h1 := (row_lt h hx).2
  have h2 := (row_lt h' hx').1
  omega
set_option maxRecDepth 100000 in
set_option maxHeartbeats 4000000 in
theorem delta4 (P Q : Nat → ElC) (A1 A2 : Option Addr) (n1 c1 n2 c2 : Nat) (W : World) (hA1 : A1 = none → n1 = 0 ∧ c1 = 0) (hA2 : A2 = none → n2 = 0 ∧ c2 = 0) (ha1 : SArr W W.heap.size A1 n1 33 fun i => cellsC (P i)) (ha2 : SArr W W.heap.size A2 n2 33 fun i => cellsC (Q i)) :
    Calls Try.prog 4 #[.slice A1 n1 c1, .slice A2 n2 c2] W fun e W' => e = .returned (.bool true) ∧ Below W.heap.size W W' := by
  have HA1 := Lib.hid ha1
  have HA2 := Lib.hid ha2
  have HN1 := Lib.hid hA1
  have HN2 := Lib.hid hA2
  clear ha1 ha2 hA1 hA2
  go_enter Try.func4, Try.ntmps4
  by_cases g1 : n1 ≤ 600
  · by_cases g2 : n2 ≤ 600
    · go_wp2_with fail
      refine (lentC P A1 n1 c1 W (by omega) HA1.out HN1.out).mono ?_
      rintro e w1 ⟨b1, rfl, hb1, hc1, hb⟩
      have B1 := Lib.hid hb
      have G1 : Hid (∀ w', Below w1.heap.size w1 w' → w'.heap[b1]? = some (.cells (flatS (fun i => cellsC (P i)) n1 ++ mkRowC 1 12).toArray 45 (0, 0))) := Lib.hid fun w' h => (h.block b1 (heap_lt hc1)).trans hc1
      clear hb1 hc1 hb
      go_wp2_with fail
      refine (lentC Q A2 n2 c2 w1 (by omega) ((HA2.out.below B1.out (Nat.le_refl _)).more B1.out.size) HN2.out).mono ?_
      rintro e w2 ⟨b2, rfl, hb2, hc2, hb⟩
      have B12 := Lib.hid hb
      have B2 := Lib.hid (B1.out.trans (hb.mono B1.out.size))
      have G2 : Hid (∀ w', Below w2.heap.size w2 w' → w'.heap[b2]? = some (.cells (flatS (fun i => cellsC (Q i)) n2 ++ mkRowC 1 12).toArray 45 (0, 0))) := Lib.hid fun w' h => (h.block b2 (heap_lt hc2)).trans hc2
      clear hb2 hc2 hb
      have S1 : Hid (∀ w', Below w2.heap.size w2 w' → SArr w' w'.heap.size (some ⟨b1, 0, none⟩) n1 33 fun i => cellsC (P i)) := Lib.hid fun w' h => lent_sarrC (G1.out w' (B12.out.trans (h.mono B12.out.size)))
      have S2 : Hid (∀ w', Below w2.heap.size w2 w' → SArr w' w'.heap.size (some ⟨b2, 0, none⟩) n2 33 fun i => cellsC (Q i)) := Lib.hid fun w' h => lent_sarrC (G2.out w' h)
      go_wp2_with fail
      refine (delta16 P Q _ _ n1 _ n2 _ w2 (by omega) (by omega) (S1.out w2 (Below.refl _ _)) (S2.out w2 (Below.refl _ _))).mono ?_
      rintro e w3 ⟨hr, hb⟩
      obtain ⟨E3, m3, A3, c3, rfl, hm3, hl3, hi3, ho3⟩ := rowOut_lst hr
      have I3 := Lib.hid hi3
      have O3 := Lib.hid ho3
      have B23 := Lib.hid hb
      clear hr hb hi3 ho3
      go_wp2_with fail
      refine (delta16 P Q _ _ n1 _ n2 _ w3 (by omega) (by omega) (S1.out w3 B23.out) (S2.out w3 B23.out)).mono ?_
      rintro e w4 ⟨hr, hb⟩
      obtain ⟨E4, m4, A4, c4, rfl, hm4, hl4, hi4, ho4⟩ := rowOut_lst hr
      have O4 := Lib.hid ho4
      have B34 := Lib.hid hb
      have B24 := Lib.hid (B23.out.trans (hb.mono B23.out.size))
      have B4 := Lib.hid (B2.out.trans (B24.out.mono B2.out.size))
      have O34 := Lib.hid ((Keeps.fresh (S := fun _ => False) hb).row O3.out (fun _ _ h => h))
      have DAB := Lib.hid (own_next O3.out ho4 (Nat.le_refl _))
      clear hr hb hi4 ho4
      go_wp2_with fail
      refine (refDelta P Q A1 A2 n1 c1 n2 c2 w4 (by omega) (by omega) ((HA1.out.below B4.out (Nat.le_refl _)).more B4.out.size) ((HA2.out.below B4.out (Nat.le_refl _)).more B4.out.size)).mono ?_
      rintro e w5 ⟨M5, m5, v5, rfl, hi5, hl5, ho5, hb⟩
      obtain ⟨rfl, he5⟩ := rows_same I3.out hi5
      obtain ⟨A5, c5, rfl⟩ := row_shapeS ho5
      have S5 := Lib.hid (srow_congr (srow_shape ho5) he5)
      have B45 := Lib.hid hb
      have B25 := Lib.hid (B24.out.trans (hb.mono B24.out.size))
      have B5 := Lib.hid (B4.out.trans (hb.mono B4.out.size))
      have O35 := Lib.hid ((Keeps.fresh (S := fun _ => False) hb).row O34.out (fun _ _ h => h))
      have O45 := Lib.hid ((Keeps.fresh (S := fun _ => False) hb).row O4.out (fun _ _ h => h))
      clear hb ho5 hi5 he5
      go_wp2_with fail
      refine (sameC E3 A3 A5 m5 c3 c5 _ _ w5 (by omega) (srow_shape O35.out) S5.out).mono ?_
      rintro e w6 ⟨rfl, q, hq⟩
      have B26 := Lib.hid (by have := below_drewN B25.out q; rwa [← hq] at this)
      have B6 := Lib.hid (by have := below_drewN B5.out q; rwa [← hq] at this)
      have O36 : Hid (w6.ownsRow w2.heap.size 45 33 (.slice A3 m5 c3) m5 (flatS (fun i => cellsC (E3 i)) m5)) := Lib.hid (by rw [hq]; exact O35.out)
      have O46 : Hid (w6.ownsRow w3.heap.size 45 33 (.slice A4 m4 c4) m4 (flatS (fun i => cellsC (E4 i)) m4)) := Lib.hid (by rw [hq]; exact O45.out)
      clear hq O35 O45 S5
      go_wp2_with fail
      refine (keptC P A1 b1 n1 c1 w6 (by omega) ((HA1.out.below B6.out (Nat.le_refl _)).more B6.out.size) (G1.out w6 (B12.out.trans (B26.out.mono B12.out.size)))).mono ?_
      rintro e w7 ⟨rfl, hb⟩
      have B27 := Lib.hid (B26.out.trans (hb.mono B26.out.size))
      have B7 := Lib.hid (B6.out.trans (hb.mono B6.out.size))
      have O37 := Lib.hid ((Keeps.fresh (S := fun _ => False) hb).row O36.out (fun _ _ h => h))
      have O47 := Lib.hid ((Keeps.fresh (S := fun _ => False) hb).row O46.out (fun _ _ h => h))
      clear hb
      go_wp2_with fail
      refine (keptC Q A2 b2 n2 c2 w7 (by omega) ((HA2.out.below B7.out (Nat.le_refl _)).more B7.out.size) (G2.out w7 B27.out)).mono ?_
      rintro e w8 ⟨rfl, hb⟩
      have B28 := Lib.hid (B27.out.trans (hb.mono B27.out.size))
      have B8 := Lib.hid (B7.out.trans (hb.mono B7.out.size))
      have O38 := Lib.hid ((Keeps.fresh (S := fun _ => False) hb).row O37.out (fun _ _ h => h))
      have O48 := Lib.hid ((Keeps.fresh (S := fun _ => False) hb).row O47.out (fun _ _ h => h))
      clear hb O36 O46 O37 O47
      go_wp2_with fail
      have HB23 := Nat.le_trans B2.out.size B23.out.size
      refine (apartC2 w8 W.heap.size A3 A4 m5 m4 c3 c4 E3 E4 (row_more O38.out B2.out.size) (row_more O48.out HB23) (by omega) (by omega) DAB.out B8.out.size).mono ?_
      rintro e w9 ⟨rfl, hk⟩
      have B9 := Lib.hid (B8.out.trans (hk.below (fun x hx => hx.elim (fun h => Nat.le_trans B2.out.size (O38.out.lt x h).1) fun h => Nat.le_trans HB23 (O48.out.lt x h).1) B8.out.size))
      clear hk
      go_wp2_with fail
      refine (awake8 w9).mono ?_
      rintro e w10 ⟨rfl, hb⟩
      have B10 := Lib.hid (B9.out.trans (hb.mono B9.out.size))
      clear hb
      go_wp2_with fail
      go_ret
      exact ⟨rfl, B10.out⟩
    · go_wp2_with fail
      refine (awake8 W).mono ?_
      rintro e w1 ⟨rfl, hb⟩
      have B1 := Lib.hid hb
      clear hb
      go_wp2_with fail
      go_ret
      exact ⟨rfl, B1.out⟩
  · go_wp2_with fail
    refine (awake8 W).mono ?_
    rintro e w1 ⟨rfl, hb⟩
    have B1 := Lib.hid hb
    clear hb
    go_wp2_with fail
    go_ret
    exact ⟨rfl, B1.out⟩
end Go.Proofs.Ytblfkngdieffiaa
