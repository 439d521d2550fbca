/- The laws UsageFree and UsageUsed (layer 18): they return true at every input. -/
import Derived.Test.YthhmhcfahlnmpaaUf
import Derived.Test.YthhmhcfahlnmpaaKhI
namespace Go.Proofs.Ythhmhcfahlnmpaa
open Go.RowKit
def usedM (g : Geo) (L : Nat → Pl) (n : Nat) : Nat := if usedE g L n = 0 then g.S.toNat else 0
theorem usedM_le (g : Geo) (L : Nat → Pl) (n : Nat) : usedM g L n ≤ 256 := by
  unfold usedM
  by_cases h : usedE g L n = 0
  · rw [if_pos h]
    unfold usedE at h
    by_cases hr : rightB g = true
    · have := (fine_right hr).s2; omega
    · rw [if_pos (by simpa using hr)] at h; omega
  · rw [if_neg h]; omega
def UsedRow (g : Geo) (L : Nat → Pl) (n : Nat) (w : World) (e : Ending) (w' : World) : Prop :=
  ∃ A c, e = .returned (.tuple #[.slice A (usedM g L n) c, .int .i64 (usedE g L n)]) ∧ w'.ownsRow w.heap.size 3 1 (.slice A (usedM g L n) c) (usedM g L n) ((List.range (usedM g L n)).map fun k : Nat => Value.int .i64 (cntP g L k n)) ∧ Below w.heap.size w w'
theorem used_row {g : Geo} {L : Nat → Pl} {n : Nat} {w w' : World} {e : Ending} (h : UsedPost g L n w e w') : UsedRow g L n w e w' := by
  obtain ⟨v, he, h0, h1, hb⟩ := h
  by_cases hE : usedE g L n = 0
  · have hr := h0 hE
    have hm : g.S.toNat = usedM g L n := by unfold usedM; rw [if_pos hE]
    rw [hm] at hr
    obtain ⟨A, c, rfl⟩ := row_shapeS hr
    exact ⟨A, c, he, hr, hb⟩
  · obtain rfl := h1 hE
    have hm : usedM g L n = 0 := by unfold usedM; rw [if_neg hE]
    rw [UsedRow, hm]
    exact ⟨none, 0, he, World.ownsRow_nil _ _ _ _, hb⟩
/-- Two rows that lie apart are told to lie apart. -/
theorem apartI2 (w : World) (base m cL : Nat) (L : Option Addr) (A1 A2 : Option Addr) (c1 c2 : Nat) (f : Nat → Int) (hm : m ≤ 900000000) (hl : Arr w w.heap.size L 2 fun j => .slice (if j = 0 then A1 else A2) m (if j = 0 then c1 else c2))
    (h1 : w.ownsRow base 3 1 (.slice A1 m c1) m ((List.range m).map fun k => Value.int .i64 (f k))) (h2 : w.ownsRow base 3 1 (.slice A2 m c2) m ((List.range m).map fun k => Value.int .i64 (f k)))
    (hd : ∀ g, (Value.slice A1 m c1).ownBlock = some g → (Value.slice A2 m c2).ownBlock ≠ some g) (hbase : base ≤ w.heap.size) :
    Calls Try.prog 12 #[.slice L 2 cL] w fun e w' => e = .returned (.bool true) ∧ Keeps (fun x => (Value.slice A1 m c1).ownBlock = some x ∨ (Value.slice A2 m c2).ownBlock = some x) w w' := by
  refine (apartI w base cL 2 L (fun j => if j = 0 then A1 else A2) (fun _ => m) (fun j => if j = 0 then c1 else c2) (by omega) (by omega) (fun _ _ => hm) hl (fun j hj => ?_) (fun j k hj hk hjk g hg => ?_) hbase).mono fun e w' ⟨he, hk⟩ => ⟨he, hk.mono fun x _ hx => ?_⟩
  · have h : j = 0 ∨ j = 1 := by omega
    rcases h with rfl | rfl
    · exact ⟨_, fun i hi => absurd hi (by omega), fun _ => rfl, h1⟩
    · exact ⟨_, fun i hi => absurd hi (by omega), fun _ => rfl, h2⟩
  · have h : (j = 0 ∧ k = 1) ∨ (j = 1 ∧ k = 0) := by omega
    rcases h with ⟨rfl, rfl⟩ | ⟨rfl, rfl⟩
    · exact hd g hg
    · exact fun e => hd g e hg
  · obtain ⟨j, hj, hx⟩ := hx
    have h : j = 0 ∨ j = 1 := by omega
    rcases h with rfl | rfl
    · exact .inl hx
    · exact .inr hx
set_option maxHeartbeats 1000000 in
theorem free4 (f : Nat → Int) (A : Option Addr) (n c : Nat) (w : World) (hn : n ≤ 17592186044400) (ha : Arr w w.heap.size A n fun k => .int .i64 (f k)) (hA : A = none → n = 0 ∧ c = 0) :
    Calls Try.prog 4 #[.slice A n c] w fun e w' => e = .returned (.bool true) ∧ Below w.heap.size w w' := by
  have HA := Lib.hid ha
  have HNA := Lib.hid hA
  clear ha hA
  by_cases hbig : 5000 < n
  · have t1 : decide ((5000 : Int) < n) = true := by simp; omega
    go_enter Try.func4, Try.ntmps4
    go_wp2_with fail
    refine (awake6 _).mono ?_
    rintro e w1 ⟨rfl, hb⟩
    have HB := Lib.hid hb
    clear hb
    go_wp2_with fail
    go_ret
    exact ⟨rfl, HB.out⟩
  · have t1 : decide ((5000 : Int) < n) = false := by simp; omega
    go_enter Try.func4, Try.ntmps4
    go_wp2_with fail
    refine (lentI f A n c w hn HA.out HNA.out).mono ?_
    rintro e w1 ⟨g, rfl, hg, hh, hb⟩
    have B1 := Lib.hid hb
    have H1 := Lib.hid hh
    have HL := Lib.hid (lentI_arr hh)
    have HA1 := Lib.hid ((HA.out.below hb (Nat.le_refl _)).more hb.size)
    clear hb hh
    obtain ⟨q, hq⟩ : ∃ q, q = freeN f n := ⟨_, rfl⟩
    have fr1 := free14 f (some ⟨g, 0, none⟩) n (n + 12) _ w1 hn HL.out
    have fr2 := free15 f A n c _ w1 hn HA1.out
    rw [← hq] at fr1 fr2
    have F1 := Lib.hid fr1
    have F2 := Lib.hid fr2
    clear fr1 fr2 hq
    go_wp2_with fail
    refine F1.out.mono ?_
    rintro e _ ⟨rfl, rfl⟩
    go_wp2_with fail
    refine F2.out.mono ?_
    rintro e _ ⟨rfl, rfl⟩
    go_wp2_with fail
    refine (keptI f A g n c _ w1 hn HA1.out H1.out).mono ?_
    rintro e _ ⟨rfl, m, rfl⟩
    have B2 := Lib.hid (below_drewN B1.out m)
    generalize w1.drewN m = w2 at B2 ⊢
    go_wp2_with fail
    refine (awake6 w2).mono ?_
    rintro e w3 ⟨rfl, hb⟩
    have B3 := Lib.hid (B2.out.trans (hb.mono B2.out.size))
    clear hb
    go_wp2_with fail
    go_ret
    exact ⟨rfl, B3.out⟩
set_option maxRecDepth 100000 in
set_option maxHeartbeats 4000000 in
theorem used3 (g : Geo) (L : Nat → Pl) (A : Option Addr) (n c : Nat) (w : World) (hn : n ≤ 4398046511000) (ha : SArr w w.heap.size A n 4 (fun i => encP (L i))) (hA : A = none → n = 0 ∧ c = 0) (hpa : ∀ i, i < n → -9223372036854775808 ≤ (L i).a ∧ (L i).a ≤ 9223372036854775807 ∧ -9223372036854775808 ≤ (L i).n ∧ (L i).n ≤ 9223372036854775807) :
    Calls Try.prog 3 #[gv g, .slice A n c] w fun e w' => e = .returned (.bool true) ∧ Below w.heap.size w w' := by
  have HA := Lib.hid ha
  have HNA := Lib.hid hA
  have HPA := Lib.hid hpa
  have HPB : Hid (∀ i, i < n → (L i).a ≤ 9223372036854775807 ∧ -9223372036854775808 ≤ (L i).n ∧ (L i).n ≤ 9223372036854775807) := Lib.hid fun i hi => (hpa i hi).2
  clear ha hA hpa
  have BA : Below w.heap.size w (w.alloc (.cells (gcs g) 23)) := (Below.refl _ _).alloc (Nat.le_refl _) _
  have BBA := Lib.hid BA
  clear BA
  by_cases hbig : 400 < n
  · have t1 : decide ((400 : Int) < n) = true := by simp; omega
    go_enter Try.func3, Try.ntmps3
    go_wp2_with fail
    refine (awake6 _).mono ?_
    rintro e w1 ⟨rfl, hb⟩
    have HB := Lib.hid (BBA.out.trans (hb.mono BBA.out.size))
    clear hb
    go_wp2_with fail
    go_ret
    exact ⟨rfl, HB.out⟩
  · have t1 : decide ((400 : Int) < n) = false := by simp; omega
    have K0 := Lib.hid (heap_new w (.cells (gcs g) 23))
    have HA0 := Lib.hid ((HA.out.below BBA.out (Nat.le_refl _)).more BBA.out.size)
    have hM := usedM_le g L n
    have u8 := fun (W : World) (A : Option Addr) (c : Nat) (h1 : SArr W W.heap.size A n 4 (fun i => encP (L i))) h2 h3 => (used8 g L A n c W (by omega) h1 h2 h3 HPB.out).mono fun _ _ h => used_row h
    have u9 := fun (W : World) (A : Option Addr) (c : Nat) (h1 : SArr W W.heap.size A n 4 (fun i => encP (L i))) => (used9 g L A n c W (by omega) h1 HPA.out).mono fun _ _ h => used_row h
    unfold UsedRow at u8 u9
    obtain ⟨M, hMM⟩ : ∃ M, M = usedM g L n := ⟨_, rfl⟩
    obtain ⟨E, hEE⟩ : ∃ E, E = usedE g L n := ⟨_, rfl⟩
    rw [← hMM, ← hEE] at u8 u9
    rw [← hMM] at hM
    have U8 := Lib.hid u8
    have U9 := Lib.hid u9
    clear u8 u9 hMM hEE
    go_enter Try.func3, Try.ntmps3
    go_wp2_with fail
    refine (lentPl L A n c _ hn HA0.out HNA.out).mono ?_
    rintro e w1 ⟨g1, rfl, hg, hh, hb⟩
    obtain ⟨q, hq⟩ : ∃ q, q = w.heap.size := ⟨_, rfl⟩
    have HQ := Lib.hid hq
    have B1 := Lib.hid (BBA.out.trans (hb.mono BBA.out.size))
    have K1 := Lib.hid ((hb.block q (by simp [hq])).trans (heap_new_at (w := w) (.cells (gcs g) 23) hq))
    have H1 := Lib.hid hh
    rw [← hq]
    clear hb hh hg hq
    obtain ⟨e0, e1, e2, e3, e4⟩ := geo_at K1.out
    go_wp2_with fail
    refine (U8.out w1 (some ⟨g1, 0, none⟩) (n + 12) (lent_sarrPl H1.out) some_ne spot0).mono ?_
    rintro e w2 ⟨A2, c2, rfl, h2, hb⟩
    have R2 := Lib.hid h2
    have B12 := Lib.hid hb
    have B2 := Lib.hid (B1.out.trans (hb.mono B1.out.size))
    have K2 := Lib.hid ((hb.block q (heap_lt K1.out)).trans K1.out)
    have H2 := Lib.hid ((hb.block g1 (heap_lt H1.out)).trans H1.out)
    clear hb h2 e0 e1 e2 e3 e4
    obtain ⟨e0, e1, e2, e3, e4⟩ := geo_at K2.out
    go_wp2_with fail
    refine (U8.out w2 (some ⟨g1, 0, none⟩) (n + 12) (lent_sarrPl H2.out) some_ne spot0).mono ?_
    rintro e w3 ⟨A3, c3, rfl, h3, hb⟩
    have R3 := Lib.hid h3
    have R23 := Lib.hid ((Keeps.fresh (S := fun _ => False) hb).row R2.out (fun _ _ h => h))
    have B3 := Lib.hid (B2.out.trans (hb.mono B2.out.size))
    have K3 := Lib.hid ((hb.block q (heap_lt K2.out)).trans K2.out)
    have H3 := Lib.hid ((hb.block g1 (heap_lt H2.out)).trans H2.out)
    clear hb h3 e0 e1 e2 e3 e4
    obtain ⟨e0, e1, e2, e3, e4⟩ := geo_at K3.out
    go_wp2_with fail
    refine (U9.out w3 A c ((HA.out.below B3.out (Nat.le_refl _)).more B3.out.size)).mono ?_
    rintro e w4 ⟨A4, c4, rfl, h4, hb⟩
    have R4 := Lib.hid h4
    have R24 := Lib.hid ((Keeps.fresh (S := fun _ => False) hb).row R23.out (fun _ _ h => h))
    have R34 := Lib.hid ((Keeps.fresh (S := fun _ => False) hb).row R3.out (fun _ _ h => h))
    have B4 := Lib.hid (B3.out.trans (hb.mono B3.out.size))
    have H4 := Lib.hid ((hb.block g1 (heap_lt H3.out)).trans H3.out)
    clear hb h4 e0 e1 e2 e3 e4
    have HA24 : Hid (Arr w4 w4.heap.size A2 M fun k => .int .i64 (cntP g L k n)) := Lib.hid (row_cellsI R24.out)
    have HA4 : Hid (Arr w4 w4.heap.size A4 M fun k => .int .i64 (cntP g L k n)) := Lib.hid (row_cellsI R4.out)
    have u1 : (E == E) = true := by simp
    go_wp2_with fail
    refine (sameI (fun k => cntP g L k n) A2 A4 M c2 c4 _ _ w4 (by omega) HA24.out HA4.out).mono ?_
    rintro e _ ⟨rfl, m, rfl⟩
    have B5 := Lib.hid (below_drewN B4.out m)
    have R25 := Lib.hid ((Keeps.drewN (fun _ => False) w4 m).row R24.out (fun _ _ h => h))
    have R35 := Lib.hid ((Keeps.drewN (fun _ => False) w4 m).row R34.out (fun _ _ h => h))
    have H5 : Hid ((w4.drewN m).heap[g1]? = _) := Lib.hid H4.out
    generalize w4.drewN m = w5 at B5 R25 R35 H5 ⊢
    clear HA24 HA4 u1
    go_wp2_with fail
    refine (keptPl L A g1 n c w5 hn ((HA.out.below B5.out (Nat.le_refl _)).more B5.out.size) H5.out).mono ?_
    rintro e w6 ⟨rfl, hb⟩
    have B6 := Lib.hid (B5.out.trans (hb.mono B5.out.size))
    have R26 := Lib.hid ((Keeps.fresh (S := fun _ => False) hb).row R25.out (fun _ _ h => h))
    have R36 := Lib.hid ((Keeps.fresh (S := fun _ => False) hb).row R35.out (fun _ _ h => h))
    clear hb
    go_wp2_with fail
    have BA : Below w6.heap.size w6 (w6.alloc (.cells #[.slice A2 M c2, .slice A3 M c3] 27)) := (Below.refl _ _).alloc (Nat.le_refl _) _
    refine (apartI2 (w6.alloc (.cells #[.slice A2 M c2, .slice A3 M c3] 27)) w.heap.size M 2 (some ⟨w6.heap.size, 0, none⟩) A2 A3 c2 c3 (fun k => cntP g L k n) (by omega) (Arr.ofBlock 2 _ (heap_new w6 _) (fun j hj => by
      have h : j = 0 ∨ j = 1 := by omega
      rcases h with rfl | rfl <;> rfl)) ((Keeps.fresh (S := fun _ => False) BA).row (row_more R26.out B1.out.size) (fun _ _ h => h)) ((Keeps.fresh (S := fun _ => False) BA).row (row_more R36.out B2.out.size) (fun _ _ h => h)) (fun x hx hx2 => by
        have h1 := (row_lt R2.out hx).2
        have h2 := (row_lt R3.out hx2).1
        omega) (Nat.le_trans B6.out.size BA.size)).mono ?_
    rintro e w7 ⟨rfl, hk⟩
    have B7 := Lib.hid ((B6.out.trans (BA.mono B6.out.size)).trans (hk.below (fun x hx => hx.elim (fun h => Nat.le_trans B1.out.size (row_lt R2.out h).1) fun h => Nat.le_trans B2.out.size (row_lt R3.out h).1) (Nat.le_trans B6.out.size BA.size)))
    clear hk BA
    go_wp2_with fail
    refine (awake6 w7).mono ?_
    rintro e w8 ⟨rfl, hb⟩
    have B8 := Lib.hid (B7.out.trans (hb.mono B7.out.size))
    clear hb
    go_wp2_with fail
    go_ret
    exact ⟨rfl, B8.out⟩
end Go.Proofs.Ythhmhcfahlnmpaa
