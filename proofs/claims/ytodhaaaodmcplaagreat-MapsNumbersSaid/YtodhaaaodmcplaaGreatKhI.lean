/- The kit's ApartInts: lists that lie apart are told to lie apart. -/
import Derived.Test.YtodhaaaodmcplaaGreatKe
import Derived.Test.YtodhaaaodmcplaaGreatKgI
set_option linter.all false
namespace Go.Proofs.YtodhaaaodmcplaaGreat
open Go.RowKit
/-- A bag with lists of one kind. -/
def bagI (v : Value) : Array Value := #[.slice none 0 0, .slice none 0 0, v, .slice none 0 0, .slice none 0 0, .slice none 0 0, .slice none 0 0, .slice none 0 0, .slice none 0 0, .slice none 0 0, .slice none 0 0, .slice none 0 0, .slice none 0 0, .slice none 0 0, .slice none 0 0, .slice none 0 0, .slice none 0 0, .slice none 0 0, .slice none 0 0, .slice none 0 0, .slice none 0 0]
set_option maxRecDepth 100000 in
set_option maxHeartbeats 4000000 in
theorem bagApartI (w : World) (base p sl cl K : Nat) (A : Nat → Option Addr) (n c : Nat → Nat) (hK : K ≤ 1000) (hn : ∀ j, j < K → n j ≤ 900000000) (hp : w.heap[p]? = some (.cells (bagI (.slice (some ⟨sl, 0, none⟩) K cl)) 99 (0, 0)))
    (hls : w.ownsRow base 37 1 (.slice (some ⟨sl, 0, none⟩) K cl) K ((List.range K).map fun j => .slice (A j) (n j) (c j)))
    (hrows : ∀ j, j < K → RowAtI w base (.slice (A j) (n j) (c j)) (n j) j 0) (hd : DistI K fun j => .slice (A j) (n j) (c j)) (hbase : base ≤ w.heap.size) :
    Calls Tryz.prog 37 #[.pointer (some ⟨p, 0, none⟩)] w fun e w' => e = .returned (.bool true) ∧ Keeps (FootI K fun j => .slice (A j) (n j) (c j)) w w' := by
  have HP : Hid (∀ w' : World, w'.heap[p]? = w.heap[p]? → w'.heap[p]? = some (.cells (bagI (.slice (some ⟨sl, 0, none⟩) K cl)) 99 (0, 0))) := Lib.hid fun _ h => h.trans hp
  have HPL := Lib.hid (heap_lt hp)
  have HLS := Lib.hid hls
  have HR := Lib.hid hrows
  have HD := Lib.hid hd
  have HN := Lib.hid hn
  have HF : Hid (¬ FootI K (fun j => .slice (A j) (n j) (c j)) p) := Lib.hid (by
    rintro ⟨j, hj, hb⟩
    obtain ⟨f, _, _, ho⟩ := hrows j hj
    rcases ho.2 with ⟨h0, _⟩ | ⟨g, cap, cur, h0, _, hg, _⟩
    · have e : (Value.slice (A j) (n j) (c j)).ownBlock = some p := hb
      rw [h0] at e; simp [Value.ownBlock] at e
    · have e : (Value.slice (A j) (n j) (c j)).ownBlock = some p := hb
      rw [h0] at e
      have e2 : g = p := by simpa [Value.ownBlock] using e
      subst e2
      rw [hp] at hg
      injection hg with hg
      injection hg with _ e3
      exact absurd e3 (by decide))
  have hsl : sl ≠ p := by
    rintro rfl
    rcases hls.2 with ⟨h0, _⟩ | ⟨g, cap, cur, h0, _, hg, _⟩
    · simp at h0
    · simp only [Value.slice.injEq, Option.some.injEq, Addr.mk.injEq] at h0
      obtain ⟨⟨rfl, _⟩, _⟩ := h0
      rw [hp] at hg
      injection hg with hg
      injection hg with _ e3
      exact absurd e3 (by decide)
  clear hp hls hrows hd hn hsl
  have HK0 := Lib.hid (Keeps.refl (fun _ => False) w)
  have hb0 := HP.out w rfl
  have c0 := block_cell hb0 0 _ rfl
  clear hb0
  go_enter Tryz.func37, Tryz.ntmps37
  go_wp2_with fail
  refine (flat0_Limbs w).mono ?_
  rintro e w1 ⟨rfl, hb⟩
  have HK1 := Lib.hid (HK0.out.trans (Keeps.fresh hb) fun _ _ h => h)
  clear hb
  clear c0 HK0
  have hb1 := HP.out w1 (HK1.out.block p HPL.out (fun h => h))
  have c1 := block_cell hb1 1 _ rfl
  clear hb1
  go_wp2_with fail
  refine (flat0_Words w1).mono ?_
  rintro e w2 ⟨rfl, hb⟩
  have HK2 := Lib.hid (HK1.out.trans (Keeps.fresh hb) fun _ _ h => h)
  clear hb
  clear c1 HK1
  have hb2 := HP.out w2 (HK2.out.block p HPL.out (fun h => h))
  have c2 := block_cell hb2 2 _ rfl
  clear hb2
  go_wp2_with fail
  refine (flatI w2 base sl cl K A n c hK HN.out (HK2.out.row HLS.out fun _ _ h => h) (fun j hj => (HR.out j hj).keeps HK2.out fun _ _ h => h) HD.out (Nat.le_trans hbase HK2.out.size)).mono ?_
  rintro e w3 ⟨rfl, hk⟩
  have HK3 := Lib.hid ((HK2.out.mono fun _ _ h => h.elim).trans hk fun _ _ h => h)
  clear hk
  clear c2 HK2
  have hb3 := HP.out w3 (HK3.out.block p HPL.out (HF.out))
  have c3 := block_cell hb3 3 _ rfl
  clear hb3
  go_wp2_with fail
  refine (flat0_Longs w3).mono ?_
  rintro e w4 ⟨rfl, hb⟩
  have HK4 := Lib.hid (HK3.out.trans (Keeps.fresh (S := fun _ => False) hb) fun _ _ h => h.elim)
  clear hb
  clear c3 HK3
  have hb4 := HP.out w4 (HK4.out.block p HPL.out (HF.out))
  have c4 := block_cell hb4 4 _ rfl
  clear hb4
  go_wp2_with fail
  refine (flat0_Texts w4).mono ?_
  rintro e w5 ⟨rfl, hb⟩
  have HK5 := Lib.hid (HK4.out.trans (Keeps.fresh (S := fun _ => False) hb) fun _ _ h => h.elim)
  clear hb
  clear c4 HK4
  have hb5 := HP.out w5 (HK5.out.block p HPL.out (HF.out))
  have c5 := block_cell hb5 5 _ rfl
  clear hb5
  go_wp2_with fail
  refine (flat0_Bytes w5).mono ?_
  rintro e w6 ⟨rfl, hb⟩
  have HK6 := Lib.hid (HK5.out.trans (Keeps.fresh (S := fun _ => False) hb) fun _ _ h => h.elim)
  clear hb
  clear c5 HK5
  have hb6 := HP.out w6 (HK6.out.block p HPL.out (HF.out))
  have c6 := block_cell hb6 6 _ rfl
  clear hb6
  go_wp2_with fail
  refine (flat0_TreeKeys w6).mono ?_
  rintro e w7 ⟨rfl, hb⟩
  have HK7 := Lib.hid (HK6.out.trans (Keeps.fresh (S := fun _ => False) hb) fun _ _ h => h.elim)
  clear hb
  clear c6 HK6
  have hb7 := HP.out w7 (HK7.out.block p HPL.out (HF.out))
  have c7 := block_cell hb7 7 _ rfl
  clear hb7
  go_wp2_with fail
  refine (flat0_Pieces w7).mono ?_
  rintro e w8 ⟨rfl, hb⟩
  have HK8 := Lib.hid (HK7.out.trans (Keeps.fresh (S := fun _ => False) hb) fun _ _ h => h.elim)
  clear hb
  clear c7 HK7
  have hb8 := HP.out w8 (HK8.out.block p HPL.out (HF.out))
  have c8 := block_cell hb8 8 _ rfl
  clear hb8
  go_wp2_with fail
  refine (flat0_Fates w8).mono ?_
  rintro e w9 ⟨rfl, hb⟩
  have HK9 := Lib.hid (HK8.out.trans (Keeps.fresh (S := fun _ => False) hb) fun _ _ h => h.elim)
  clear hb
  clear c8 HK8
  have hb9 := HP.out w9 (HK9.out.block p HPL.out (HF.out))
  have c9 := block_cell hb9 9 _ rfl
  clear hb9
  go_wp2_with fail
  refine (flat0_Frames w9).mono ?_
  rintro e w10 ⟨rfl, hb⟩
  have HK10 := Lib.hid (HK9.out.trans (Keeps.fresh (S := fun _ => False) hb) fun _ _ h => h.elim)
  clear hb
  clear c9 HK9
  have hb10 := HP.out w10 (HK10.out.block p HPL.out (HF.out))
  have c10 := block_cell hb10 10 _ rfl
  clear hb10
  go_wp2_with fail
  refine (flat0_Places w10).mono ?_
  rintro e w11 ⟨rfl, hb⟩
  have HK11 := Lib.hid (HK10.out.trans (Keeps.fresh (S := fun _ => False) hb) fun _ _ h => h.elim)
  clear hb
  clear c10 HK10
  have hb11 := HP.out w11 (HK11.out.block p HPL.out (HF.out))
  have c11 := block_cell hb11 11 _ rfl
  clear hb11
  go_wp2_with fail
  refine (flat0_Entries w11).mono ?_
  rintro e w12 ⟨rfl, hb⟩
  have HK12 := Lib.hid (HK11.out.trans (Keeps.fresh (S := fun _ => False) hb) fun _ _ h => h.elim)
  clear hb
  clear c11 HK11
  have hb12 := HP.out w12 (HK12.out.block p HPL.out (HF.out))
  have c12 := block_cell hb12 12 _ rfl
  clear hb12
  go_wp2_with fail
  refine (flat0_Nodes w12).mono ?_
  rintro e w13 ⟨rfl, hb⟩
  have HK13 := Lib.hid (HK12.out.trans (Keeps.fresh (S := fun _ => False) hb) fun _ _ h => h.elim)
  clear hb
  clear c12 HK12
  have hb13 := HP.out w13 (HK13.out.block p HPL.out (HF.out))
  have c13 := block_cell hb13 13 _ rfl
  clear hb13
  go_wp2_with fail
  refine (flat0_Items w13).mono ?_
  rintro e w14 ⟨rfl, hb⟩
  have HK14 := Lib.hid (HK13.out.trans (Keeps.fresh (S := fun _ => False) hb) fun _ _ h => h.elim)
  clear hb
  clear c13 HK13
  have hb14 := HP.out w14 (HK14.out.block p HPL.out (HF.out))
  have c14 := block_cell hb14 14 _ rfl
  clear hb14
  go_wp2_with fail
  refine (flat0_Counts w14).mono ?_
  rintro e w15 ⟨rfl, hb⟩
  have HK15 := Lib.hid (HK14.out.trans (Keeps.fresh (S := fun _ => False) hb) fun _ _ h => h.elim)
  clear hb
  clear c14 HK14
  have hb15 := HP.out w15 (HK15.out.block p HPL.out (HF.out))
  have c15 := block_cell hb15 15 _ rfl
  clear hb15
  go_wp2_with fail
  refine (flat0_Freshes w15).mono ?_
  rintro e w16 ⟨rfl, hb⟩
  have HK16 := Lib.hid (HK15.out.trans (Keeps.fresh (S := fun _ => False) hb) fun _ _ h => h.elim)
  clear hb
  clear c15 HK15
  have hb16 := HP.out w16 (HK16.out.block p HPL.out (HF.out))
  have c16 := block_cell hb16 16 _ rfl
  clear hb16
  go_wp2_with fail
  refine (flat0_Puts w16).mono ?_
  rintro e w17 ⟨rfl, hb⟩
  have HK17 := Lib.hid (HK16.out.trans (Keeps.fresh (S := fun _ => False) hb) fun _ _ h => h.elim)
  clear hb
  clear c16 HK16
  have hb17 := HP.out w17 (HK17.out.block p HPL.out (HF.out))
  have c17 := block_cell hb17 17 _ rfl
  clear hb17
  go_wp2_with fail
  refine (flat0_Ops w17).mono ?_
  rintro e w18 ⟨rfl, hb⟩
  have HK18 := Lib.hid (HK17.out.trans (Keeps.fresh (S := fun _ => False) hb) fun _ _ h => h.elim)
  clear hb
  clear c17 HK17
  have hb18 := HP.out w18 (HK18.out.block p HPL.out (HF.out))
  have c18 := block_cell hb18 18 _ rfl
  clear hb18
  go_wp2_with fail
  refine (flat0_Steps w18).mono ?_
  rintro e w19 ⟨rfl, hb⟩
  have HK19 := Lib.hid (HK18.out.trans (Keeps.fresh (S := fun _ => False) hb) fun _ _ h => h.elim)
  clear hb
  clear c18 HK18
  have hb19 := HP.out w19 (HK19.out.block p HPL.out (HF.out))
  have c19 := block_cell hb19 19 _ rfl
  clear hb19
  go_wp2_with fail
  refine (flat0_Stats w19).mono ?_
  rintro e w20 ⟨rfl, hb⟩
  have HK20 := Lib.hid (HK19.out.trans (Keeps.fresh (S := fun _ => False) hb) fun _ _ h => h.elim)
  clear hb
  clear c19 HK19
  have hb20 := HP.out w20 (HK20.out.block p HPL.out (HF.out))
  have c20 := block_cell hb20 20 _ rfl
  clear hb20
  go_wp2_with fail
  refine (flat0_Tales w20).mono ?_
  rintro e w21 ⟨rfl, hb⟩
  have HK21 := Lib.hid (HK20.out.trans (Keeps.fresh (S := fun _ => False) hb) fun _ _ h => h.elim)
  clear hb
  clear c20 HK20
  go_wp2_with fail
  go_ret
  exact ⟨rfl, HK21.out⟩
/-- A bag while lists are put into it. -/
structure BagAtI (w0 w : World) (p : Nat) (bv : Value) (k : Nat) (v : Nat → Value) : Prop where
  blk : w.heap[p]? = some (.cells (bagI bv) 99 (0, 0))
  row : w.ownsRow w0.heap.size 37 1 bv k ((List.range k).map v)
  kept : Keeps (fun _ => False) w0 w
  low : w0.heap.size ≤ p
set_option maxRecDepth 100000 in
theorem putI (w0 w : World) (p : Nat) (bv : Value) (k : Nat) (v : Nat → Value) (A : Option Addr) (n c : Nat) (hv : v k = .slice A n c) (hk : k ≤ 1000) (h : BagAtI w0 w p bv k v) :
    Calls Tryz.prog 38 #[.pointer (some ⟨p, 0, none⟩), .slice A n c] w fun e w' => e = .returned undef ∧ ∃ bv', BagAtI w0 w' p bv' (k + 1) v := by
  obtain ⟨i0, hi0, hz0, hz1, hz2⟩ := infoParts infoS_Ints
  have H := Lib.hid h
  have HV := Lib.hid hv
  have c0 := block_cell h.blk 2 bv rfl
  have hsz := h.kept.size
  have HW := Lib.hid (heap_lt h.blk)
  have HNE : Hid (bv.ownBlock ≠ some p) := Lib.hid (by
    intro e
    rcases h.row.2 with ⟨h0, _⟩ | ⟨g, cap, cur, h0, _, hg, _⟩
    · rw [h0] at e; simp [Value.ownBlock] at e
    · rw [h0] at e
      have e2 : g = p := by simpa [Value.ownBlock] using e
      subst e2
      rw [h.blk] at hg
      injection hg with hg
      injection hg with _ e3
      exact absurd e3 (by decide))
  clear h hv
  go_enter Tryz.func38, Tryz.ntmps38
  go_wp2_with (at_builtin; refine wpList_append_lies _ rfl (.tmp 8) (.tmp 10) 47 rfl w0.heap.size 37 i0 (.slice none 0 0) 1 24 Tryz.underlying47 hi0 hz0 hz1 hz2 rfl (by omega) bv k _ rfl (H.out.row.alloc _) ⟨w.heap.size, 0, none⟩ 1 1 [.slice A n c] rfl rfl (cell_one_new _ _ _) (by simp [Value.oneCell']) (by omega) (by unfold maxLen; omega) (by omega) (by simp; omega) _ rfl ?_; intro g cap w1 hown hg hat _; have HB1 := Lib.hid ((hg.block p (by simp; have := HW.out; omega) fun e => HNE.out e.symm).trans (heap_old H.out.blk)); have HO := Lib.hid hown; have HG := Lib.hid hg; have HT := Lib.hid hat; have d0 := block_cell HB1.out 2 bv rfl; have f0 := frozen_of_row w1 p 2 _ _ HB1.out; clear hown hg hat)
  refine bodyPost_end (results_none rfl _ _ _) rfl ?_
  have hst : Keeps (fun x => x = p) w1 (w1.setCell ⟨p, 2, none⟩ (.slice (some ⟨g, 0, none⟩) (k + 1) cap)) := Keeps.setCell (fun x => x = p) w1 ⟨p, 2, none⟩ _ rfl
  refine ⟨rfl, .slice (some ⟨g, 0, none⟩) (k + 1) cap, heap_setCell_same w1 p 2 _ _ _ HB1.out, ?_, ?_, H.out.low⟩
  · have e : (List.range k).map v ++ [.slice A n c] = (List.range (k + 1)).map v := by rw [List.range_succ, List.map_append, ← HV.out]; rfl
    have ho := HO.out
    rw [e] at ho
    exact hst.row ho fun x hx e2 => by
      have e3 : g = p := by
        have : some g = some x := hx
        injection this with this
        rw [this, e2]
      subst e3
      rcases HT.out with h1 | h1
      · exact HNE.out h1
      · have := HW.out; simp at h1; omega
  · have hg : Keeps (fun x => bv.ownBlock = some x) w w1 := (Keeps.alloc _ w _).trans (Keeps.grown HG.out fun _ e => e) fun _ _ h => h
    exact (H.out.kept.trans hg fun x hx hx2 => by have := (row_lt H.out.row hx2).1; omega).trans hst fun x hx e => by have := H.out.low; omega
set_option maxRecDepth 100000 in
set_option maxHeartbeats 1000000 in
theorem apartI (w : World) (base cL K : Nat) (L : Option Addr) (A : Nat → Option Addr) (n c : Nat → Nat) (hK0 : 0 < K) (hK : K ≤ 1000) (hn : ∀ j, j < K → n j ≤ 900000000) (hl : Arr w w.heap.size L K fun j => .slice (A j) (n j) (c j))
    (hrows : ∀ j, j < K → RowAtI w base (.slice (A j) (n j) (c j)) (n j) j 0) (hd : DistI K fun j => .slice (A j) (n j) (c j)) (hbase : base ≤ w.heap.size) :
    Calls Tryz.prog 18 #[.slice L K cL] w fun e w' => e = .returned (.bool true) ∧ Keeps (FootI K fun j => .slice (A j) (n j) (c j)) w w' := by
  have HL := Lib.hid hl
  have HR := Lib.hid hrows
  have HD := Lib.hid hd
  have HN := Lib.hid hn
  clear hl hrows hd hn
  go_enter Tryz.func18, Tryz.ntmps18
  go_wp2_with fail
  have HB0 : Hid (BagAtI w (w.alloc (.cells #[.slice none 0 0, .slice none 0 0, .slice none 0 0, .slice none 0 0, .slice none 0 0, .slice none 0 0, .slice none 0 0, .slice none 0 0, .slice none 0 0, .slice none 0 0, .slice none 0 0, .slice none 0 0, .slice none 0 0, .slice none 0 0, .slice none 0 0, .slice none 0 0, .slice none 0 0, .slice none 0 0, .slice none 0 0, .slice none 0 0, .slice none 0 0] 99)) w.heap.size (.slice none 0 0) 0 fun j => .slice (A j) (n j) (c j)) := Lib.hid ⟨heap_new w _, World.ownsRow_nil _ _ _ _, Keeps.alloc _ w _, Nat.le_refl _⟩
  obtain ⟨p, hp⟩ : ∃ p, p = w.heap.size := ⟨_, rfl⟩
  rw [← hp] at HB0 ⊢
  clear hp
  go_loopw [4] (fun i wr => ∃ (k : Nat) (bv : Value), k ≤ K ∧ i = .int .i64 k ∧ BagAtI w wr p bv k fun j => .slice (A j) (n j) (c j)) (fun i _ => K - (intOf i).toNat)
  case atStart => exact ⟨0, _, Nat.zero_le _, rfl, HB0.out⟩
  case round =>
    clear HB0
    obtain ⟨k, bv, hk, rfl, hb⟩ := hrel
    have HB := Lib.hid hb
    clear hb
    by_cases hlt : k < K
    · obtain ⟨b, off, rfl, hbl, hc⟩ := HL.out (by omega)
      have c0 : wr.cell? ⟨b, off + k, none⟩ = some (.slice (A k) (n k) (c k)) := HB.out.kept.cell (hc k hlt) fun h => h
      have HL2 := Lib.hid (And.intro hbl hc)
      have i1 : (0 : Int) ≤ k := by omega
      have i2 : (k : Int) < K := by omega
      clear hc hbl
      go_wp2_with fail
      refine (putI w wr p bv k _ (A k) (n k) (c k) rfl (by omega) HB.out).mono ?_
      rintro e w2 ⟨rfl, bv2, hb2⟩
      have HB2 := Lib.hid hb2
      clear hb2 c0
      go_wp2_with fail
      go_roundw
      case rel => exact ⟨k + 1, bv2, by omega, by go_num, HB2.out⟩
      case measure => simp [intOf]; omega
    · obtain rfl : k = K := by omega
      obtain ⟨sl, cl, hbv, _, _⟩ := HB.out.row.form hK0
      subst hbv
      go_wp2_with fail
      refine (bagApartI wr base p sl cl k A n c hK HN.out HB.out.blk (row_more HB.out.row hbase) (fun j hj => (HR.out j hj).keeps HB.out.kept fun _ _ h => h) HD.out (Nat.le_trans hbase HB.out.kept.size)).mono ?_
      rintro e w3 ⟨rfl, hk3⟩
      have HK3 := Lib.hid ((HB.out.kept.mono fun _ _ h => h.elim).trans hk3 fun _ _ h => h)
      clear hk3
      go_wp2_with fail
      go_ret
      exact ⟨rfl, HK3.out⟩
end Go.Proofs.YtodhaaaodmcplaaGreat
