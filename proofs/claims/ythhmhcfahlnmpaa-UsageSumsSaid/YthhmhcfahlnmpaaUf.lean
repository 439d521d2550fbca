/- The chapter's examples (layer 18). -/
import Derived.Test.YthhmhcfahlnmpaaUd
import Derived.Test.YthhmhcfahlnmpaaUe
import Derived.Test.YthhmhcfahlnmpaaUa
namespace Go.Proofs.Ythhmhcfahlnmpaa
open Go.RowKit
def exG : Geo := ⟨64, 4, 32, 1, 8⟩
def noG : Geo := ⟨0, 0, 0, 0, 0⟩
theorem exG_right : rightB exG = true := by decide
theorem small22 (w : World) : Calls Try.prog 22 #[] w fun e w' => e = .returned (gv exG) ∧ Below w.heap.size w w' := by
  go_enter Try.func22, Try.ntmps22
  go_wp2
  exact bodyPost_ret (v := gv exG) (by simp [results, Try.f22, go_sem, gv, exG]) rfl ⟨rfl, (Below.refl _ _).alloc (Nat.le_refl _) _⟩
theorem exSeg_bd (k : Int) : -1 ≤ segV exG k ∧ segV exG k ≤ 262144 := by
  unfold segV
  by_cases h : rightB exG = true ∧ 0 ≤ k ∧ k < exG.S
  · rw [if_pos h]
    have h4 : k < 4 := h.2.2
    have h1 : (pagesN exG) = 54 := by decide
    have h2 : exG.J = 8 := rfl
    have h3 : exG.G = 32 := rfl
    have h5 := h.2.1
    rw [h1, h2, h3]
    omega
  · rw [if_neg h]; omega
theorem place23 (k from' n : Int) (w : World) (h1 : -1000 ≤ from') (h2 : from' ≤ 1000) : Calls Try.prog 23 #[.int .i64 k, .int .i64 from', .int .i64 n] w fun e w' => e = .returned (plv ⟨segV exG k + from', n, 0, 0⟩) ∧ Below w.heap.size w w' := by
  obtain ⟨s, hs⟩ : ∃ s, s = segV exG k := ⟨_, rfl⟩
  have hb := exSeg_bd k
  rw [← hs] at hb ⊢
  obtain ⟨hb1, hb2⟩ := hb
  have hseg := fun W => seg15 exG k W
  rw [← hs] at hseg
  have HSEG := Lib.hid hseg
  clear hs hseg
  go_enter Try.func23, Try.ntmps23
  go_wp2_with fail
  refine (small22 _).mono ?_
  rintro e w1 ⟨rfl, hbm⟩
  obtain ⟨q, hq⟩ : ∃ q, q = w.heap.size := ⟨_, rfl⟩
  have hb1 : Below w.heap.size w w1 := ((Below.refl _ w).alloc (Nat.le_refl _) (.cells #[.int .i64 0, .int .i64 0, .int .i64 0, .int .i64 0] 42)).trans (hbm.mono (by simp))
  have hq1 := (hbm.block q (by simp [hq])).trans (heap_new_at (w := w) (.cells #[.int .i64 0, .int .i64 0, .int .i64 0, .int .i64 0] 42) hq)
  have HQ1 := Lib.hid hq1
  have HB1 := Lib.hid hb1
  have HQE : Hid (q = w.heap.size) := Lib.hid hq
  rw [← hq]
  clear hbm hq1 hb1 hq
  go_wp2_with fail
  refine (HSEG.out _).mono ?_
  rintro e w2 ⟨rfl, hbm⟩
  have HQ2 := Lib.hid ((hbm.block q (heap_lt HQ1.out)).trans HQ1.out)
  have HB2 := Lib.hid (HB1.out.trans (hbm.mono HB1.out.size))
  clear hbm
  obtain ⟨c0, c1, c2, c3⟩ := box4 (p := ⟨0, 0, 0, 0⟩) HQ2.out
  have f0 := frozen_of_row w2 q 0 _ _ HQ2.out
  have f1 := frozen_of_row w2 q 1 _ _ HQ2.out
  have f2 := frozen_of_row w2 q 2 _ _ HQ2.out
  have f3 := frozen_of_row w2 q 3 _ _ HQ2.out
  go_wp2_with fail
  have hq : w.heap.size ≤ q := Nat.le_of_eq HQE.out.symm
  exact bodyPost_ret (v := plv ⟨s + from', n, 0, 0⟩) (by simp [results, Try.f23, go_sem, plv, c0, c1, c2, c3]) rfl ⟨rfl, by refine ((((HB2.out.setCell ?_ _).setCell ?_ _).setCell ?_ _).setCell ?_ _) <;> exact hq⟩
set_option maxHeartbeats 1000000 in
theorem refused24 (L : Nat → Pl) (A : Option Addr) (n c : Nat) (w : World) (hn : n ≤ 1000000) (ha : SArr w w.heap.size A n 4 (fun i => encP (L i))) (hA : A = none → n = 0 ∧ c = 0) (hA2 : ∀ a, A = some a → a.spot = none) (hpa : ∀ i, i < n → (L i).a ≤ 9223372036854775807 ∧ -9223372036854775808 ≤ (L i).n ∧ (L i).n ≤ 9223372036854775807) (hE : usedE exG L n = 4) :
    Calls Try.prog 24 #[.slice A n c] w fun e w' => e = .returned (.bool true) ∧ Below w.heap.size w w' := by
  have HA := Lib.hid ha
  have HNA := Lib.hid hA
  have HNS := Lib.hid hA2
  have HPA := Lib.hid hpa
  have HE := Lib.hid hE
  clear ha hA hA2 hpa hE
  go_enter Try.func24, Try.ntmps24
  go_wp2_with fail
  refine (small22 _).mono ?_
  rintro e w1 ⟨rfl, hb⟩
  have B1 := Lib.hid hb
  clear hb
  go_wp2_with fail
  refine (used8 exG L A n c w1 hn ((HA.out.below B1.out (Nat.le_refl _)).more B1.out.size) HNA.out HNS.out HPA.out).mono ?_
  rintro e w2 ⟨v, he, h0, h1, hb⟩
  rw [HE.out] at he h1
  obtain rfl := h1 (by decide)
  subst he
  have B2 := Lib.hid (B1.out.trans (hb.mono B1.out.size))
  clear hb h0 h1
  go_wp2_with fail
  go_ret
  exact ⟨rfl, B2.out⟩
def exL1 : Nat → Pl := fun k => match k with | 0 => ⟨234, 3, 0, 0⟩ | 1 => ⟨263, 3, 0, 0⟩ | _ => ⟨267, 5, 0, 0⟩
def exL2 : Nat → Pl := fun _ => ⟨263, 4, 0, 0⟩
def exL3 : Nat → Pl := fun k => match k with | 0 => ⟨234, 3, 0, 0⟩ | _ => ⟨236, 1, 0, 0⟩
def exC : Nat → Int := fun k => match k with | 0 => 6 | 1 => 5 | _ => 0
theorem ex1_E : usedE exG exL1 3 = 0 := by kernel_rfl
theorem ex1_C : cntRow exG exL1 4 3 = (List.range 4).map fun j => Value.int .i64 (exC j) := by kernel_rfl
theorem ex2_E : usedE exG exL2 1 = 4 := by kernel_rfl
theorem ex3_E : usedE exG exL3 2 = 4 := by kernel_rfl
theorem no_E (L : Nat → Pl) (n : Nat) : usedE noG L n = 2 := by unfold usedE; rw [if_pos (by decide)]
theorem exP_bd1 : ∀ i, i < 3 → (exL1 i).a ≤ 9223372036854775807 ∧ -9223372036854775808 ≤ (exL1 i).n ∧ (exL1 i).n ≤ 9223372036854775807 := by decide
theorem exP_bd2 : ∀ i, i < 1 → (exL2 i).a ≤ 9223372036854775807 ∧ -9223372036854775808 ≤ (exL2 i).n ∧ (exL2 i).n ≤ 9223372036854775807 := by decide
theorem exP_bd3 : ∀ i, i < 2 → (exL3 i).a ≤ 9223372036854775807 ∧ -9223372036854775808 ≤ (exL3 i).n ∧ (exL3 i).n ≤ 9223372036854775807 := by decide
theorem sarr_litP {w : World} {g n : Nat} {L : Nat → Pl} {cs : Array Value} {z : Nat × Nat} (h : w.heap[g]? = some (.cells cs 42 z)) (e : cs = (flatS (fun i => encP (L i)) n).toArray) : SArr w w.heap.size (some ⟨g, 0, none⟩) n 4 (fun i => encP (L i)) :=
  SArr.ofCells (wideP L) (e ▸ h) fun _ _ => rfl
theorem spot0 {g : Nat} : ∀ a, (some ⟨g, 0, none⟩ : Option Addr) = some a → a.spot = none := fun a h => by injection h with h; rw [← h]
theorem some_ne {g n c : Nat} : (some ⟨g, 0, none⟩ : Option Addr) = none → n = 0 ∧ c = 0 := fun h => by cases h
set_option maxRecDepth 100000 in
set_option maxHeartbeats 4000000 in
theorem awake6 (w : World) : Calls Try.prog 6 #[] w fun e w' => e = .returned (.bool true) ∧ Below w.heap.size w w' := by
  have p1 := fun W => place23 0 0 3 W (by omega) (by omega)
  have p2 := fun W => place23 0 29 3 W (by omega) (by omega)
  have p3 := fun W => place23 1 1 5 W (by omega) (by omega)
  have p4 := fun W => place23 0 29 4 W (by omega) (by omega)
  have p5 := fun W => place23 0 2 1 W (by omega) (by omega)
  rw [show segV exG 0 + 0 = 234 by kernel_rfl] at p1
  rw [show segV exG 0 + 29 = 263 by kernel_rfl] at p2 p4
  rw [show segV exG 1 + 1 = 267 by kernel_rfl] at p3
  rw [show segV exG 0 + 2 = 236 by kernel_rfl] at p5
  have Q1 := Lib.hid p1
  have Q2 := Lib.hid p2
  have Q3 := Lib.hid p3
  have Q4 := Lib.hid p4
  have Q5 := Lib.hid p5
  clear p1 p2 p3 p4 p5
  go_enter Try.func6, Try.ntmps6
  go_wp2_with fail
  refine (small22 w).mono ?_
  rintro e w1 ⟨rfl, hb⟩
  have B1 := Lib.hid hb
  clear hb
  go_wp2_with fail
  refine (Q1.out w1).mono ?_
  rintro e w2 ⟨rfl, hb⟩
  have B2 := Lib.hid (B1.out.trans (hb.mono B1.out.size))
  clear hb B1
  go_wp2_with fail
  refine (Q2.out w2).mono ?_
  rintro e w3 ⟨rfl, hb⟩
  have B3 := Lib.hid (B2.out.trans (hb.mono B2.out.size))
  clear hb B2
  go_wp2_with fail
  refine (Q3.out w3).mono ?_
  rintro e w4 ⟨rfl, hb⟩
  have B4 := Lib.hid (B3.out.trans (hb.mono B3.out.size))
  clear hb B3
  go_wp2_with fail
  have BA := Lib.hid ((Below.refl w4.heap.size w4).alloc (Nat.le_refl _) (.cells (flatS (fun i => encP (exL1 i)) 3).toArray 42))
  refine (used8 exG exL1 _ 3 3 _ (by omega) (sarr_litP (heap_new w4 _) rfl) some_ne spot0 exP_bd1).mono ?_
  rintro e w5 ⟨v, he, h0, h1, hb⟩
  rw [ex1_E] at he h0
  have hr := h0 rfl
  have e4 : exG.S.toNat = 4 := rfl
  rw [e4, ex1_C] at hr
  have hr := row_more (base' := w.heap.size) hr (Nat.le_trans B4.out.size BA.out.size)
  have B5 := Lib.hid (B4.out.trans ((BA.out.trans (hb.mono BA.out.size)).mono B4.out.size))
  obtain ⟨A1, c1, rfl, ha1, -⟩ := row_arr hr
  subst he
  have HA1 := Lib.hid ha1
  clear hb h0 h1 hr ha1 e4 B4 BA
  go_wp2_with fail
  refine (used8 noG exL1 none 0 0 w5 (by omega) (fun h => absurd h (by omega)) (fun _ => ⟨rfl, rfl⟩) (fun a h => by cases h) (fun i h => absurd h (by omega))).mono ?_
  rintro e w6 ⟨v, he, h0, h1, hb⟩
  rw [no_E] at he h1
  obtain rfl := h1 (by decide)
  subst he
  have B6 := Lib.hid (B5.out.trans (hb.mono B5.out.size))
  have HA6 := Lib.hid ((HA1.out.below hb (Nat.le_refl _)).more hb.size)
  clear hb h0 h1 B5
  go_wp2_with fail
  have HA7 : Hid (Arr (w6.alloc (.cells #[.int .i64 6, .int .i64 5, .int .i64 0, .int .i64 0] 3)) (w6.alloc (.cells #[.int .i64 6, .int .i64 5, .int .i64 0, .int .i64 0] 3)).heap.size (some ⟨w6.heap.size, 0, none⟩) 4 fun j => .int .i64 (exC j)) := Lib.hid (Arr.ofBlock 4 _ (heap_new w6 _) (by
    intro j hj
    have h : j = 0 ∨ j = 1 ∨ j = 2 ∨ j = 3 := by omega
    rcases h with rfl | rfl | rfl | rfl <;> rfl))
  have BA := Lib.hid ((Below.refl w6.heap.size w6).alloc (Nat.le_refl _) (.cells #[.int .i64 6, .int .i64 5, .int .i64 0, .int .i64 0] 3))
  have HA8 := Lib.hid ((HA6.out.below BA.out (Nat.le_refl _)))
  refine (sameI exC A1 _ 4 c1 4 _ _ _ (by omega) HA8.out HA7.out).mono ?_
  rintro e w7 ⟨rfl, m, rfl⟩
  have B7 := Lib.hid (below_drewN (B6.out.trans (BA.out.mono B6.out.size)) m)
  have fr := free14 exC A1 4 c1 w6.heap.size _ (by omega) (HA8.out.drewN m)
  rw [show freeN exC 4 = 2 by decide] at fr
  generalize World.drewN _ m = w8 at fr B7 ⊢
  clear HA7 HA8 HA6 B6 BA
  go_wp2_with fail
  refine fr.mono ?_
  clear fr
  rintro e _ ⟨rfl, rfl⟩
  go_wp2_with fail
  refine (Q4.out w8).mono ?_
  rintro e w9 ⟨rfl, hb⟩
  have B9 := Lib.hid (B7.out.trans (hb.mono B7.out.size))
  clear hb B7
  go_wp2_with fail
  have BA := Lib.hid ((Below.refl w9.heap.size w9).alloc (Nat.le_refl _) (.cells (flatS (fun i => encP (exL2 i)) 1).toArray 42))
  refine (refused24 exL2 _ 1 1 _ (by omega) (sarr_litP (heap_new w9 _) rfl) some_ne spot0 exP_bd2 ex2_E).mono ?_
  rintro e w10 ⟨rfl, hb⟩
  have B10 := Lib.hid (B9.out.trans ((BA.out.trans (hb.mono BA.out.size)).mono B9.out.size))
  clear hb B9 BA
  go_wp2_with fail
  refine (Q1.out w10).mono ?_
  rintro e w11 ⟨rfl, hb⟩
  have B11 := Lib.hid (B10.out.trans (hb.mono B10.out.size))
  clear hb B10
  go_wp2_with fail
  refine (Q5.out w11).mono ?_
  rintro e w12 ⟨rfl, hb⟩
  have B12 := Lib.hid (B11.out.trans (hb.mono B11.out.size))
  clear hb B11
  go_wp2_with fail
  have BA := Lib.hid ((Below.refl w12.heap.size w12).alloc (Nat.le_refl _) (.cells (flatS (fun i => encP (exL3 i)) 2).toArray 42))
  refine (refused24 exL3 _ 2 2 _ (by omega) (sarr_litP (heap_new w12 _) rfl) some_ne spot0 exP_bd3 ex3_E).mono ?_
  rintro e w13 ⟨rfl, hb⟩
  have B13 := Lib.hid (B12.out.trans ((BA.out.trans (hb.mono BA.out.size)).mono B12.out.size))
  clear hb B12 BA
  go_wp2_with fail
  go_ret
  exact ⟨rfl, B13.out⟩
end Go.Proofs.Ythhmhcfahlnmpaa
