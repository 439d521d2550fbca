/- The law IndexDoes (layer 22): it returns true at every input. -/
import Derived.Test.YtnindkpgmiafnaaLk
namespace Go.Proofs.Ytnindkpgmiafnaa
open Go.RowKit Go.Maps Go.WideMaps
theorem zeroRx (u : World) : BuildRun Try.prog 49 #[] u (.agg #[.slice none 0 0]) := ⟨by kernel_rfl⟩
def zD : List Value := deedC 0 (List.replicate 32 0) ⟨0, 0, 0, 0⟩ 0
theorem zeroVP (u : World) : (zeroValue 28).run Try.prog u = .ok (.agg (plc ⟨0, 0, 0, 0⟩).toArray) u := by kernel_rfl
theorem zeroVD (u : World) : (zeroValue 30).run Try.prog u = .ok (.agg zD.toArray) u := by kernel_rfl
theorem deed_one (d : Deed) : ∀ v ∈ d.cells, v.oneCell' = true := by
  intro v hv
  simp only [Deed.cells, deedC, List.mem_append] at hv
  rcases hv with hv | hv | hv | hv
  · obtain rfl := List.mem_singleton.1 hv; rfl
  · exact u8l_one _ v hv
  · simp [plc] at hv; rcases hv with rfl | rfl | rfl | rfl <;> rfl
  · obtain rfl := List.mem_singleton.1 hv; rfl
theorem deed_len (d : Deed) (hk : KeyOk 32 d.k) : d.cells.length = 38 := by simp [Deed.cells, deedC, u8l_len, hk.len, plc]
set_option maxRecDepth 100000 in
set_option maxHeartbeats 40000000 in
theorem does4 (L : Nat → Deed) (A : Option Addr) (n c : Nat) (W : World) (hnc : n ≤ c) (hA : A = none → n = 0 ∧ c = 0) (hL : ∀ i, i < n → KeyOk 32 (L i).k ∧ (Lit.int .i64 (L i).kd).wf = true ∧ (Lit.int .i64 (L i).x).wf = true) (ha : SArr W W.heap.size A n 38 fun i => (L i).cells) :
    Calls Try.prog 4 #[.slice A n c] W fun e w' => e = .returned (.bool true) ∧ Below W.heap.size W w' := by
  have HL := Lib.hid hL
  have HA := Lib.hid ha
  clear hL ha
  by_cases hn : n ≤ 150
  rotate_left
  · go_enter Try.func4, Try.ntmps4
    go_wp2_with fail
    refine (awake7 W).mono ?_
    rintro e w1 ⟨rfl, hb⟩
    have HB := Lib.hid hb
    clear hb
    go_wp2_with fail
    go_ret
    exact ⟨rfl, HB.out⟩
  go_enter Try.func4, Try.ntmps4
  go_wp2_with fail
  refine (awake7 W).mono ?_
  rintro e w1 ⟨rfl, hb⟩
  have B1 := Lib.hid hb
  clear hb
  go_wp2_with fail
  refine (new8 w1).mono ?_
  rintro e w2 ⟨p, B, rfl, hix, hb2, hp, hB⟩
  have HN := Lib.hid (And.intro hix (And.intro hb2 (And.intro hp hB)))
  clear hix hb2 hp hB
  go_upto_region 6 with (refine wpList_buildG rfl 49 [] rfl [] rfl _ (zeroRx _) ?_)
  obtain ⟨p2, hp2⟩ : ∃ b, b = w2.heap.size := ⟨_, rfl⟩
  obtain ⟨w3, hw3⟩ : ∃ z, z = w2.alloc (.cells #[.slice none 0 0] 49) := ⟨_, rfl⟩
  obtain ⟨base, hbase⟩ : ∃ b, b = w3.heap.size := ⟨_, rfl⟩
  have HT : Hid (Two W.heap.size W w3 p B base p2 [] []) := Lib.hid (by
    obtain ⟨hix, hb2, hp, hB⟩ := HN.out
    have h1 := hix.lt
    have h2 := B1.out.size
    have h3 := hb2.size
    have h4 : base = w2.heap.size + 1 := by rw [hbase, hw3]; simp
    refine ⟨by rw [hw3]; exact hix.below ((Below.refl _ _).alloc (Nat.le_refl _) _), ⟨.slice none 0 0, by rw [hw3, hp2]; exact heap_new w2 _, ⟨by simp [flatS], .inl ⟨rfl, rfl⟩⟩, List.Pairwise.nil⟩, by omega, by omega, by omega, by omega, by omega, by omega, by omega, by omega, by omega, ?_, by omega⟩
    rw [hw3]
    exact (B1.out.trans (hb2.mono h2)).alloc (by omega) _)
  rw [← hp2, ← hw3]
  clear hw3 hbase hp2 HN B1
  go_wp2_with fail
  go_loopw [5] (fun i wr => ∃ (j : Nat) (R : List Ent), j ≤ n ∧ i = .int .i64 j ∧ R.length ≤ j ∧ Two W.heap.size W wr p B base p2 R R) (fun i _ => n - (intOf i).toNat)
  case atStart => exact ⟨0, [], by omega, rfl, by simp, HT.out⟩
  case round =>
    obtain ⟨j, R, hj, rfl, hR, hT⟩ := hrel
    clear HT
    have HT := Lib.hid hT
    have HR := Lib.hid hR
    have HT0 := Lib.hid hT
    clear hT hR
    by_cases hlt : j < n
    rotate_left
    · obtain rfl : j = n := by omega
      go_wp2_with fail
      go_ret
      exact ⟨rfl, HT.out.old⟩
    obtain ⟨g, off, rfl, hg, hrow⟩ := HA.out (by omega)
    have HG := Lib.hid hg
    have HW : Hid (wr.rangeAt g (off + j * 38) (L j).cells) := Lib.hid fun i v hi => by
      have h1 := hrow j hlt i v hi
      exact (World.cell?_of_block (HT.out.old.block g hg)).trans h1
    clear hg hrow
    obtain ⟨hk, hkd, hx⟩ := HL.out j hlt
    obtain ⟨D, hD⟩ : ∃ D, D = L j := ⟨_, rfl⟩
    rw [← hD] at hk hkd hx
    have HW : Hid (wr.rangeAt g (off + j * 38) D.cells) := Lib.hid (by rw [hD]; exact HW.out)
    have HK := Lib.hid hk
    have HKD := Lib.hid hkd
    have HXB := Lib.hid hx
    have HSZ : Hid ((Try.prog.info? 30).map (·.size) = some D.cells.length) := Lib.hid (by rw [deed_len D hk]; kernel_rfl)
    clear hD hk hkd hx
    go_upto_region 9 with fail
    go_step
    repeat ((fail_if_success (refine wpList_load_midG rfl 30 (.tmp 27) rfl g (off + j * 38) rfl D.cells _ HW.out Try.underlying30 rfl HSZ.out ?_)); go_step)
    refine wpList_load_midG rfl 30 (.tmp 27) rfl g (off + j * 38) rfl D.cells _ HW.out Try.underlying30 rfl HSZ.out ?_
    try simp only [Act.put, List.setIfInBounds_toArray, List.set_cons_zero, List.set_cons_succ]
    refine wpList_laid rfl 30 rfl zD (zeroVD _) ?_
    try simp only [Act.put, List.setIfInBounds_toArray, List.set_cons_zero, List.set_cons_succ]
    obtain ⟨b6, hb6⟩ : ∃ b, b = wr.heap.size := ⟨_, rfl⟩
    obtain ⟨w4, hw4⟩ : ∃ z, z = wr.alloc (.cells zD.toArray 30) := ⟨_, rfl⟩
    have H6 : Hid (w4.heap[b6]? = some (.cells zD.toArray 30 (0, 0))) := Lib.hid (by rw [hw4, hb6]; exact heap_new wr _)
    have B4 : Hid (Below wr.heap.size wr w4) := Lib.hid (by rw [hw4]; exact (Below.refl _ _).alloc (Nat.le_refl _) _)
    have HNE : Hid (b6 = wr.heap.size) := Lib.hid hb6
    rw [← hw4, ← hb6]
    clear hw4 hb6
    have HDL := Lib.hid (deed_len D HK.out)
    refine wpList_store_segK rfl 30 (.tmp 6) (.tmp 28) rfl b6 0 rfl D.cells rfl zD 30 H6.out HSZ.out (by rw [HDL.out]; decide) (deed_one D) rfl ?_
    intro w5 h5 k5 s5
    rw [splice_whole _ _ (by rw [HDL.out]; rfl)] at h5
    have HD6 := Lib.hid h5
    have B5 : Hid (Below wr.heap.size wr w5) := Lib.hid (B4.out.trans (k5.below (fun z hz => by rw [hz, HNE.out]; exact Nat.le_refl _) B4.out.size))
    have HT := Lib.hid (HT.out.below B5.out)
    have HN6 : Hid (b6 ≠ B ∧ b6 ≠ p2) := Lib.hid (by have h1 := HT0.out.lt2; have h2 := HT0.out.lt3; have h3 := HT0.out.le; have h4 := HNE.out; exact ⟨by omega, by omega⟩)
    clear h5 k5 s5 H6 B4 HNE
    have HS : Hid (∀ V, Keeps (fun z => z = B ∨ z = p2) w5 V → (fun w' : World => w'.cell? ⟨b6, 0, none⟩ = some (.int .i64 D.kd) ∧ w'.rangeAt b6 1 (u8l D.k) ∧ w'.rangeAt b6 33 [.int .i64 D.q.a, .int .i64 D.q.n, .int .i64 D.q.u, .int .i64 D.q.r] ∧ w'.cell? ⟨b6, 37, none⟩ = some (.int .i64 D.x)) V) := Lib.hid fun V h => by
      obtain ⟨h0, h1, h2, h3⟩ := deed_at HK.out (range_of (b := b6) (h.heap HD6.out (fun e => by rcases e with e | e; exact HN6.out.1 e; exact HN6.out.2 e)))
      rw [Nat.zero_add] at h1 h2 h3
      exact ⟨h0, h1, h2, h3⟩
    have HKL : Hid ((Try.prog.info? 26).map (·.size) = some (u8l D.k).length) := Lib.hid (by rw [u8l_len, HK.out.len]; exact infoKey)
    have c0 := (HS.out w5 (Keeps.refl _ _)).1
    go_wp2_with fail
    refine (pick9 D.kd 6 w5 (by omega) (by omega)).mono ?_
    rintro e _ ⟨rfl, rfl⟩
    clear c0
    obtain ⟨z, hz⟩ : ∃ z, z = D.kd % 6 := ⟨_, rfl⟩
    have HZ : Hid (z = 0 ∨ z = 1 ∨ z = 2 ∨ z = 3 ∨ z = 4 ∨ z = 5) := Lib.hid (by omega)
    rw [← hz]
    clear hz
    rcases HZ.out with rfl | rfl | rfl | rfl | rfl | rfl
    · go_wp2_with fail
      refine wp_region_held_drew (S := (fun w' : World => w'.cell? ⟨b6, 0, none⟩ = some (.int .i64 D.kd) ∧ w'.rangeAt b6 1 (u8l D.k) ∧ w'.rangeAt b6 33 [.int .i64 D.q.a, .int .i64 D.q.n, .int .i64 D.q.u, .int .i64 D.q.r] ∧ w'.cell? ⟨b6, 37, none⟩ = some (.int .i64 D.x))) follows (HS.out _ (Keeps.drew _ _)) (fun hHeld => ?_)
      refine wpAnyH_take (i := 0) (v := ?_) (by simp only [List.getElem?_toArray, List.getElem?_cons_zero]; rfl) (by kernel_rfl) (by kernel_rfl) (by kernel_rfl) (by intro _ _ _ h; exact h) (Or.inl ⟨by rfl, ?_⟩) hHeld ?_
      rotate_left
      · (intro w hSw; (try dsimp only at hSw); go_simp; try with_reducible rfl)
      try simp only [Act.put, List.setIfInBounds_toArray, List.set_cons_zero, List.set_cons_succ]
      refine wpAnyH_take (i := 1) (v := ?_) (by simp only [List.getElem?_toArray, List.getElem?_cons_zero, List.getElem?_cons_succ]; rfl) (by kernel_rfl) (by kernel_rfl) (by kernel_rfl) (by intro _ _ _ h; exact h) (Or.inl ⟨by rfl, ?_⟩) hHeld ?_
      rotate_left
      · (intro w hSw; (try dsimp only at hSw); go_simp; try with_reducible rfl)
      try simp only [Act.put, List.setIfInBounds_toArray, List.set_cons_zero, List.set_cons_succ]
      refine wpAnyH_take (i := 2) (v := _) (by simp only [List.getElem?_toArray, List.getElem?_cons_zero, List.getElem?_cons_succ]; rfl) (by kernel_rfl) (by kernel_rfl) (by kernel_rfl) (by intro _ _ _ h; exact h) (yieldsIf_load_mid (by rfl) 26 (.tmp 36) rfl b6 1 rfl (u8l D.k) _ (fun _ h => h.2.1) Try.underlying26 rfl HKL.out) hHeld ?_
      try simp only [Act.put, List.setIfInBounds_toArray, List.set_cons_zero, List.set_cons_succ]
      refine wpAnyH_take (i := 3) (v := ?_) (by simp only [List.getElem?_toArray, List.getElem?_cons_zero, List.getElem?_cons_succ]; rfl) (by kernel_rfl) (by kernel_rfl) (by kernel_rfl) (by intro _ _ _ h; exact h) (Or.inl ⟨by rfl, ?_⟩) hHeld ?_
      rotate_left
      · (intro w hSw; (try dsimp only at hSw); go_simp; try with_reducible rfl)
      try simp only [Act.put, List.setIfInBounds_toArray, List.set_cons_zero, List.set_cons_succ]
      refine wpAnyH_take (i := 4) (v := _) (by simp only [List.getElem?_toArray, List.getElem?_cons_zero, List.getElem?_cons_succ]; rfl) (by kernel_rfl) (by kernel_rfl) (by kernel_rfl) (by intro _ _ _ h; exact h) (yieldsIf_load_mid (by rfl) 28 (.tmp 38) rfl b6 33 rfl [.int .i64 D.q.a, .int .i64 D.q.n, .int .i64 D.q.u, .int .i64 D.q.r] _ (fun _ h => h.2.2.1) Try.underlying28 rfl sizePl) hHeld ?_
      try simp only [Act.put, List.setIfInBounds_toArray, List.set_cons_zero, List.set_cons_succ]
      refine wpAnyH_take (i := 6) (v := ?_) (by simp only [List.getElem?_toArray, List.getElem?_cons_zero, List.getElem?_cons_succ]; rfl) (by kernel_rfl) (by kernel_rfl) (by kernel_rfl) (by intro _ _ _ h; exact h) (Or.inl ⟨by rfl, ?_⟩) hHeld ?_
      rotate_left
      · (intro w hSw; (try dsimp only at hSw); go_simp; try with_reducible rfl)
      try simp only [Act.put, List.setIfInBounds_toArray, List.set_cons_zero, List.set_cons_succ]
      refine wpAnyH_take (i := 7) (v := ?_) (by simp only [List.getElem?_toArray, List.getElem?_cons_zero, List.getElem?_cons_succ]; rfl) (by kernel_rfl) (by kernel_rfl) (by kernel_rfl) (by intro _ _ _ h; exact h) (Or.inl ⟨by rfl, ?_⟩) hHeld ?_
      rotate_left
      · (intro w hSw; (try dsimp only at hSw); go_simp; try with_reducible rfl)
      try simp only [Act.put, List.setIfInBounds_toArray, List.set_cons_zero, List.set_cons_succ]
      refine wpAnyH_take (i := 8) (v := _) (by simp only [List.getElem?_toArray, List.getElem?_cons_zero, List.getElem?_cons_succ]; rfl) (by kernel_rfl) (by kernel_rfl) (by kernel_rfl) (by intro _ _ _ h; exact h) (yieldsIf_load_mid (by rfl) 26 (.tmp 42) rfl b6 1 rfl (u8l D.k) _ (fun _ h => h.2.1) Try.underlying26 rfl HKL.out) hHeld ?_
      try simp only [Act.put, List.setIfInBounds_toArray, List.set_cons_zero, List.set_cons_succ]
      refine wpAnyH_take (i := 9) (v := ?_) (by simp only [List.getElem?_toArray, List.getElem?_cons_zero, List.getElem?_cons_succ]; rfl) (by kernel_rfl) (by kernel_rfl) (by kernel_rfl) (by intro _ _ _ h; exact h) (Or.inl ⟨by rfl, ?_⟩) hHeld ?_
      rotate_left
      · (intro w hSw; (try dsimp only at hSw); go_simp; try with_reducible rfl)
      try simp only [Act.put, List.setIfInBounds_toArray, List.set_cons_zero, List.set_cons_succ]
      refine wpAnyH_take (i := 10) (v := _) (by simp only [List.getElem?_toArray, List.getElem?_cons_zero, List.getElem?_cons_succ]; rfl) (by kernel_rfl) (by kernel_rfl) (by kernel_rfl) (by intro _ _ _ h; exact h) (yieldsIf_load_mid (by rfl) 28 (.tmp 44) rfl b6 33 rfl [.int .i64 D.q.a, .int .i64 D.q.n, .int .i64 D.q.u, .int .i64 D.q.r] _ (fun _ h => h.2.2.1) Try.underlying28 rfl sizePl) hHeld ?_
      try simp only [Act.put, List.setIfInBounds_toArray, List.set_cons_zero, List.set_cons_succ]
      refine wpAnyH_ready (rs := [5]) (by kernel_rfl) (by simp) ?_
      refine AllReadyH.cons (by simp only [List.getElem?_toArray, List.getElem?_cons_zero, List.getElem?_cons_succ]; rfl) (fun K hK => ?_) AllReadyH.nil
      rw [if_pos (by rfl)]
      go_simp
      refine (two_add D.k D.q HK.out (HT.out.below (below_drewN (Below.refl _ _) 1)) (by have := HR.out; omega)).mono ?_
      rintro e x1 ⟨rfl, ho⟩
      have H1 := Lib.hid ho
      clear ho
      have K1 : Hid (Keeps (fun z => z = B ∨ z = p2) w5 x1) := Lib.hid ((Keeps.drew _ w5).trans H1.out.2 (fun _ _ h => .inl h))
      refine hK.out _ _ (HS.out _ K1.out) (fun hHeld => ?_)
      clear hK K
      try simp only [Act.put, List.setIfInBounds_toArray, List.set_cons_zero, List.set_cons_succ]
      refine wpAnyH_ready (rs := [11]) (by kernel_rfl) (by simp) ?_
      refine AllReadyH.cons (by simp only [List.getElem?_toArray, List.getElem?_cons_zero, List.getElem?_cons_succ]; rfl) (fun K hK => ?_) AllReadyH.nil
      rw [if_pos (by rfl)]
      go_simp
      refine (two_radd D.k D.q HK.out H1.out.1 (by have := HR.out; omega)).mono ?_
      rintro e x2 ⟨rfl, ho⟩
      have H2 := Lib.hid ho
      clear ho
      have K2 : Hid (Keeps (fun z => z = B ∨ z = p2) w5 x2) := Lib.hid (K1.out.trans H2.out.2 (fun _ _ h => .inr h))
      refine hK.out _ _ (HS.out _ K2.out) (fun hHeld => ?_)
      clear hK K
      try simp only [Act.put, List.setIfInBounds_toArray, List.set_cons_zero, List.set_cons_succ]
      refine wpAnyH_take (i := 12) (v := ?_) (by simp only [List.getElem?_toArray, List.getElem?_cons_zero, List.getElem?_cons_succ]; rfl) (by kernel_rfl) (by kernel_rfl) (by kernel_rfl) (by intro _ _ _ h; exact h) (Or.inl ⟨by rfl, ?_⟩) hHeld ?_
      rotate_left
      · (intro w hSw; (try dsimp only at hSw); go_simp; try with_reducible rfl)
      try simp only [Act.put, List.setIfInBounds_toArray, List.set_cons_zero, List.set_cons_succ]
      refine wpAnyH_done (by kernel_rfl) ?_ _
      clear hHeld
      obtain ⟨R', hR', hT', hK'⟩ : ∃ R', R'.length ≤ j + 1 ∧ Two W.heap.size W x2 p B base p2 R' R' ∧ Keeps (fun z => z = B ∨ z = p2) w5 x2 := ⟨addR R D.k D.q, by have := HR.out; have := add_len R D.k D.q; omega, H2.out.1, K2.out⟩
      clear K1 K2 H1 H2
      have HT := Lib.hid hT'
      have HR' := Lib.hid hR'
      obtain ⟨hs0, hs1, hs2, hs3⟩ := HS.out _ hK'
      have HK6 : Hid (x2.heap[b6]? = some (.cells D.cells.toArray 30 (0, 0))) := Lib.hid (hK'.heap HD6.out (fun e => by rcases e with e | e; exact HN6.out.1 e; exact HN6.out.2 e))
      clear hT' hR' hK' hs0 hs1 hs2 hs3 HR HT0
      obtain ⟨q, hq⟩ : ∃ q, q = (lookR D.k R').getD ⟨0, 0, 0, 0⟩ := ⟨_, rfl⟩
      obtain ⟨is, his⟩ : ∃ z, z = (lookR D.k R').isSome := ⟨_, rfl⟩
      have HQ := Lib.hid hq
      have HIS := Lib.hid his
      have HQM : Hid (mayB q = true ∨ q = ⟨0, 0, 0, 0⟩) := Lib.hid (by rw [hq]; exact get_may)
      clear hq his
      have HKR : Hid (∀ V : World, V.heap[b6]? = some (.cells D.cells.toArray 30 (0, 0)) → V.rangeAt b6 1 (u8l D.k)) := Lib.hid fun V h => by
        have := (deed_at HK.out (range_of h)).2.1
        rwa [Nat.zero_add] at this
      go_upto_region 22 with fail
      go_wp2_with (refine wpList_load_midG rfl 26 (.tmp 81) rfl b6 1 rfl (u8l D.k) _ (HKR.out _ HK6.out) Try.underlying26 rfl HKL.out ?_)
      refine (two_get D.k HK.out HT.out (by have := HR'.out; omega)).mono ?_
      rintro e x3 ⟨rfl, hb⟩
      dsimp only
      rw [← HQ.out, ← HIS.out]
      have HT := Lib.hid (HT.out.below hb)
      have HK6 := Lib.hid ((hb.block b6 (heap_lt HK6.out)).trans HK6.out)
      clear hb
      repeat ((fail_if_success (refine wpList_laid rfl 28 rfl (plc ⟨0, 0, 0, 0⟩) (zeroVP _) ?_)); go_step)
      refine wpList_laid rfl 28 rfl (plc ⟨0, 0, 0, 0⟩) (zeroVP _) ?_
      try simp only [Act.put, List.setIfInBounds_toArray, List.set_cons_zero, List.set_cons_succ]
      obtain ⟨b7, hb7⟩ : ∃ b, b = x3.heap.size := ⟨_, rfl⟩
      obtain ⟨v7, hv7⟩ : ∃ z, z = x3.alloc (.cells (plc ⟨0, 0, 0, 0⟩).toArray 28) := ⟨_, rfl⟩
      have HZ7 : Hid (v7.heap[b7]? = some (.cells (plc ⟨0, 0, 0, 0⟩).toArray 28 (0, 0))) := Lib.hid (by rw [hv7, hb7]; exact heap_new _ _)
      have B7 : Hid (Below x3.heap.size x3 v7) := Lib.hid (by rw [hv7]; exact (Below.refl _ _).alloc (Nat.le_refl _) _)
      have HE7 : Hid (b7 = x3.heap.size) := Lib.hid hb7
      rw [← hv7, ← hb7]
      clear hv7 hb7
      refine wpList_store_segK rfl 28 (.tmp 7) (.tmp 84) rfl b7 0 rfl (plc q) rfl (plc ⟨0, 0, 0, 0⟩) 28 HZ7.out sizePl (by simp [plc]) (by intro u hu; simp [plc] at hu; rcases hu with rfl | rfl | rfl | rfl <;> rfl) rfl ?_
      intro y7 h5 k5 s5
      rw [splice_whole _ _ (by simp [plc])] at h5
      have H7 := Lib.hid h5
      have BB7 : Hid (Below x3.heap.size x3 y7) := Lib.hid (B7.out.trans (k5.below (fun z hz => by rw [hz, HE7.out]; exact Nat.le_refl _) B7.out.size))
      have HT := Lib.hid (HT.out.below BB7.out)
      have HK6 := Lib.hid ((BB7.out.block b6 (heap_lt HK6.out)).trans HK6.out)
      clear h5 k5 s5 HZ7 B7 HE7 BB7
      go_upto_region 23 with fail
      go_wp2_with (refine wpList_load_midG rfl 26 (.tmp 88) rfl b6 1 rfl (u8l D.k) _ (HKR.out _ HK6.out) Try.underlying26 rfl HKL.out ?_)
      refine (two_rget D.k HK.out HT.out (by have := HR'.out; omega)).mono ?_
      rintro e x4 ⟨rfl, hb⟩
      dsimp only
      rw [← HQ.out, ← HIS.out]
      have HT := Lib.hid (HT.out.below hb)
      have HK6 := Lib.hid ((hb.block b6 (heap_lt HK6.out)).trans HK6.out)
      have H7 := Lib.hid ((hb.block b7 (heap_lt H7.out)).trans H7.out)
      clear hb
      repeat ((fail_if_success (refine wpList_laid rfl 28 rfl (plc ⟨0, 0, 0, 0⟩) (zeroVP _) ?_)); go_step)
      refine wpList_laid rfl 28 rfl (plc ⟨0, 0, 0, 0⟩) (zeroVP _) ?_
      try simp only [Act.put, List.setIfInBounds_toArray, List.set_cons_zero, List.set_cons_succ]
      obtain ⟨b9, hb9⟩ : ∃ b, b = x4.heap.size := ⟨_, rfl⟩
      obtain ⟨v9, hv9⟩ : ∃ z, z = x4.alloc (.cells (plc ⟨0, 0, 0, 0⟩).toArray 28) := ⟨_, rfl⟩
      have HZ9 : Hid (v9.heap[b9]? = some (.cells (plc ⟨0, 0, 0, 0⟩).toArray 28 (0, 0))) := Lib.hid (by rw [hv9, hb9]; exact heap_new _ _)
      have B9 : Hid (Below x4.heap.size x4 v9) := Lib.hid (by rw [hv9]; exact (Below.refl _ _).alloc (Nat.le_refl _) _)
      have HE9 : Hid (b9 = x4.heap.size) := Lib.hid hb9
      rw [← hv9, ← hb9]
      clear hv9 hb9
      refine wpList_store_segK rfl 28 (.tmp 9) (.tmp 91) rfl b9 0 rfl (plc q) rfl (plc ⟨0, 0, 0, 0⟩) 28 HZ9.out sizePl (by simp [plc]) (by intro u hu; simp [plc] at hu; rcases hu with rfl | rfl | rfl | rfl <;> rfl) rfl ?_
      intro y9 h5 k5 s5
      rw [splice_whole _ _ (by simp [plc])] at h5
      have H9 := Lib.hid h5
      have BB9 : Hid (Below x4.heap.size x4 y9) := Lib.hid (B9.out.trans (k5.below (fun z hz => by rw [hz, HE9.out]; exact Nat.le_refl _) B9.out.size))
      have HT := Lib.hid (HT.out.below BB9.out)
      have HK6 := Lib.hid ((BB9.out.block b6 (heap_lt HK6.out)).trans HK6.out)
      have H7 := Lib.hid ((BB9.out.block b7 (heap_lt H7.out)).trans H7.out)
      clear h5 k5 s5 HZ9 B9 HE9 BB9
      obtain ⟨vv, hvv⟩ := HT.out.rx
      obtain ⟨A2, c2, rfl⟩ := row_shapeS hvv.row
      have HX := Lib.hid hvv
      clear hvv
      go_wp2_with fail
      have HS : Hid (∀ V, Below y9.heap.size y9 V → (fun w' : World => w'.rangeAt b7 0 (plc q) ∧ w'.rangeAt b9 0 (plc q) ∧ w'.cell? ⟨p2, 0, none⟩ = some (.slice A2 R'.length c2)) V) := Lib.hid fun V h => ⟨range_of ((h.block b7 (heap_lt H7.out)).trans H7.out), range_of ((h.block b9 (heap_lt H9.out)).trans H9.out), (HX.out.below h).at0⟩
      have HB0 : Hid (Below y9.heap.size y9 y9.drew) := Lib.hid (below_drewN (Below.refl _ _) 1)
      refine wp_region_held_drew (S := (fun w' : World => w'.rangeAt b7 0 (plc q) ∧ w'.rangeAt b9 0 (plc q) ∧ w'.cell? ⟨p2, 0, none⟩ = some (.slice A2 R'.length c2))) follows (HS.out _ HB0.out) (fun hHeld => ?_)
      refine wpAnyH_take (i := 0) (v := _) (by simp only [List.getElem?_toArray, List.getElem?_cons_zero]; rfl) (by kernel_rfl) (by kernel_rfl) (by kernel_rfl) (by intro _ _ _ h; exact h) (yieldsIf_load_mid (by rfl) 28 (.tmp 7) rfl b7 0 rfl (plc q) _ (fun _ h => h.1) Try.underlying28 rfl sizePl) hHeld ?_
      try simp only [Act.put, List.setIfInBounds_toArray, List.set_cons_zero, List.set_cons_succ]
      refine wpAnyH_take (i := 1) (v := _) (by simp only [List.getElem?_toArray, List.getElem?_cons_zero, List.getElem?_cons_succ]; rfl) (by kernel_rfl) (by kernel_rfl) (by kernel_rfl) (by intro _ _ _ h; exact h) (yieldsIf_load_mid (by rfl) 28 (.tmp 9) rfl b9 0 rfl (plc q) _ (fun _ h => h.2.1) Try.underlying28 rfl sizePl) hHeld ?_
      try simp only [Act.put, List.setIfInBounds_toArray, List.set_cons_zero, List.set_cons_succ]
      refine wpAnyH_take (i := 2) (v := _) (by simp only [List.getElem?_toArray, List.getElem?_cons_zero, List.getElem?_cons_succ]; rfl) (by kernel_rfl) (by kernel_rfl) (by kernel_rfl) (by intro _ _ _ h; exact h) (yields_neq (by rfl) 28 (.tmp 93) (.tmp 94) rfl _ _ rfl rfl true eqgPl (fun u => eqrPl q HQM.out u)) hHeld ?_
      try simp only [Act.put, List.setIfInBounds_toArray, List.set_cons_zero, List.set_cons_succ]
      refine wpAnyH_take (i := 3) (v := ?_) (by simp only [List.getElem?_toArray, List.getElem?_cons_zero, List.getElem?_cons_succ]; rfl) (by kernel_rfl) (by kernel_rfl) (by kernel_rfl) (by intro _ _ _ h; exact h) (Or.inl ⟨by rfl, ?_⟩) hHeld ?_
      rotate_left
      · (intro w hSw; (try dsimp only at hSw); go_simp; try with_reducible rfl)
      try simp only [Act.put, List.setIfInBounds_toArray, List.set_cons_zero, List.set_cons_succ]
      refine wpAnyH_take (i := 4) (v := ?_) (by simp only [List.getElem?_toArray, List.getElem?_cons_zero, List.getElem?_cons_succ]; rfl) (by kernel_rfl) (by kernel_rfl) (by kernel_rfl) (by intro _ _ _ h; exact h) (Or.inl ⟨by rfl, ?_⟩) hHeld ?_
      rotate_left
      · (intro w hSw; (try dsimp only at hSw); go_simp; try with_reducible rfl)
      try simp only [Act.put, List.setIfInBounds_toArray, List.set_cons_zero, List.set_cons_succ]
      refine wpAnyH_take (i := 5) (v := ?_) (by simp only [List.getElem?_toArray, List.getElem?_cons_zero, List.getElem?_cons_succ]; rfl) (by kernel_rfl) (by kernel_rfl) (by kernel_rfl) (by intro _ _ _ h; exact h) (Or.inl ⟨by rfl, ?_⟩) hHeld ?_
      rotate_left
      · (intro w hSw; (try dsimp only at hSw); go_simp; try with_reducible rfl)
      try simp only [Act.put, List.setIfInBounds_toArray, List.set_cons_zero, List.set_cons_succ]
      refine wpAnyH_take (i := 6) (v := ?_) (by simp only [List.getElem?_toArray, List.getElem?_cons_zero, List.getElem?_cons_succ]; rfl) (by kernel_rfl) (by kernel_rfl) (by kernel_rfl) (by intro _ _ _ h; exact h) (Or.inl ⟨by rfl, ?_⟩) hHeld ?_
      rotate_left
      · (intro w hSw; (try dsimp only at hSw); go_simp; try with_reducible rfl)
      try simp only [Act.put, List.setIfInBounds_toArray, List.set_cons_zero, List.set_cons_succ]
      refine wpAnyH_take (i := 7) (v := ?_) (by simp only [List.getElem?_toArray, List.getElem?_cons_zero, List.getElem?_cons_succ]; rfl) (by kernel_rfl) (by kernel_rfl) (by kernel_rfl) (by intro _ _ _ h; exact h) (Or.inl ⟨by rfl, ?_⟩) hHeld ?_
      rotate_left
      · (intro w hSw; (try dsimp only at hSw); go_simp; try with_reducible rfl)
      try simp only [Act.put, List.setIfInBounds_toArray, List.set_cons_zero, List.set_cons_succ]
      refine wpAnyH_take (i := 8) (v := ?_) (by simp only [List.getElem?_toArray, List.getElem?_cons_zero, List.getElem?_cons_succ]; rfl) (by kernel_rfl) (by kernel_rfl) (by kernel_rfl) (by intro _ _ _ h; exact h) (Or.inl ⟨by rfl, ?_⟩) hHeld ?_
      rotate_left
      · (intro w hSw; (try dsimp only at hSw); go_simp; try with_reducible rfl)
      try simp only [Act.put, List.setIfInBounds_toArray, List.set_cons_zero, List.set_cons_succ]
      refine wpAnyH_take (i := 9) (v := ?_) (by simp only [List.getElem?_toArray, List.getElem?_cons_zero, List.getElem?_cons_succ]; rfl) (by kernel_rfl) (by kernel_rfl) (by kernel_rfl) (by intro _ _ _ h; exact h) (Or.inl ⟨by rfl, ?_⟩) hHeld ?_
      rotate_left
      · (intro w hSw; (try dsimp only at hSw); go_simp; try with_reducible rfl)
      try simp only [Act.put, List.setIfInBounds_toArray, List.set_cons_zero, List.set_cons_succ]
      refine wpAnyH_take (i := 11) (v := ?_) (by simp only [List.getElem?_toArray, List.getElem?_cons_zero, List.getElem?_cons_succ]; rfl) (by kernel_rfl) (by kernel_rfl) (by kernel_rfl) (by intro _ _ _ h; exact h) (Or.inl ⟨by rfl, ?_⟩) hHeld ?_
      rotate_left
      · (intro w hSw; (try dsimp only at hSw); go_simp; try with_reducible rfl)
      try simp only [Act.put, List.setIfInBounds_toArray, List.set_cons_zero, List.set_cons_succ]
      refine wpAnyH_take (i := 12) (v := ?_) (by simp only [List.getElem?_toArray, List.getElem?_cons_zero, List.getElem?_cons_succ]; rfl) (by kernel_rfl) (by kernel_rfl) (by kernel_rfl) (by intro _ _ _ h; exact h) (Or.inl ⟨by rfl, ?_⟩) hHeld ?_
      rotate_left
      · (intro w hSw; (try dsimp only at hSw); go_simp; try with_reducible rfl)
      try simp only [Act.put, List.setIfInBounds_toArray, List.set_cons_zero, List.set_cons_succ]
      refine wpAnyH_take (i := 13) (v := ?_) (by simp only [List.getElem?_toArray, List.getElem?_cons_zero, List.getElem?_cons_succ]; rfl) (by kernel_rfl) (by kernel_rfl) (by kernel_rfl) (by intro _ _ _ h; exact h) (Or.inl ⟨by rfl, ?_⟩) hHeld ?_
      rotate_left
      · (intro w hSw; (try dsimp only at hSw); go_simp; try with_reducible rfl)
      try simp only [Act.put, List.setIfInBounds_toArray, List.set_cons_zero, List.set_cons_succ]
      refine wpAnyH_take (i := 14) (v := ?_) (by simp only [List.getElem?_toArray, List.getElem?_cons_zero, List.getElem?_cons_succ]; rfl) (by kernel_rfl) (by kernel_rfl) (by kernel_rfl) (by intro _ _ _ h; exact h) (Or.inl ⟨by rfl, ?_⟩) hHeld ?_
      rotate_left
      · (intro w hSw; (try dsimp only at hSw); go_simp; try with_reducible rfl)
      try simp only [Act.put, List.setIfInBounds_toArray, List.set_cons_zero, List.set_cons_succ]
      refine wpAnyH_take (i := 15) (v := ?_) (by simp only [List.getElem?_toArray, List.getElem?_cons_zero, List.getElem?_cons_succ]; rfl) (by kernel_rfl) (by kernel_rfl) (by kernel_rfl) (by intro _ _ _ h; exact h) (Or.inl ⟨by rfl, ?_⟩) hHeld ?_
      rotate_left
      · (intro w hSw; (try dsimp only at hSw); go_simp; try with_reducible rfl)
      try simp only [Act.put, List.setIfInBounds_toArray, List.set_cons_zero, List.set_cons_succ]
      refine wpAnyH_ready (rs := [10]) (by kernel_rfl) (by simp) ?_
      refine AllReadyH.cons (by simp only [List.getElem?_toArray, List.getElem?_cons_zero, List.getElem?_cons_succ]; rfl) (fun K hK => ?_) AllReadyH.nil
      rw [if_pos (by rfl)]
      go_simp
      refine (len12 p B R' _ (HT.out.below HB0.out).ix).mono ?_
      rintro e _ ⟨rfl, rfl⟩
      refine hK.out _ _ (HS.out _ HB0.out) (fun hHeld => ?_)
      clear hK K
      try simp only [Act.put, List.setIfInBounds_toArray, List.set_cons_zero, List.set_cons_succ]
      refine wpAnyH_take (i := 16) (v := ?_) (by simp only [List.getElem?_toArray, List.getElem?_cons_zero, List.getElem?_cons_succ]; rfl) (by kernel_rfl) (by kernel_rfl) (by kernel_rfl) (by intro _ _ _ h; exact h) (Or.inl ⟨by rfl, ?_⟩) hHeld ?_
      rotate_left
      · (intro w hSw; (try dsimp only at hSw); go_simp; try with_reducible rfl)
      try simp only [Act.put, List.setIfInBounds_toArray, List.set_cons_zero, List.set_cons_succ]
      refine wpAnyH_take (i := 17) (v := ?_) (by simp only [List.getElem?_toArray, List.getElem?_cons_zero, List.getElem?_cons_succ]; rfl) (by kernel_rfl) (by kernel_rfl) (by kernel_rfl) (by intro _ _ _ h; exact h) (Or.inl ⟨by rfl, ?_⟩) hHeld ?_
      rotate_left
      · (intro w hSw; (try dsimp only at hSw); go_simp; try with_reducible rfl)
      try simp only [Act.put, List.setIfInBounds_toArray, List.set_cons_zero, List.set_cons_succ]
      refine wpAnyH_take (i := 18) (v := ?_) (by simp only [List.getElem?_toArray, List.getElem?_cons_zero, List.getElem?_cons_succ]; rfl) (by kernel_rfl) (by kernel_rfl) (by kernel_rfl) (by intro _ _ _ h; exact h) (Or.inl ⟨by rfl, ?_⟩) hHeld ?_
      rotate_left
      · (intro w hSw; (try dsimp only at hSw); go_simp; try with_reducible rfl)
      try simp only [Act.put, List.setIfInBounds_toArray, List.set_cons_zero, List.set_cons_succ]
      refine wpAnyH_take (i := 19) (v := ?_) (by simp only [List.getElem?_toArray, List.getElem?_cons_zero, List.getElem?_cons_succ]; rfl) (by kernel_rfl) (by kernel_rfl) (by kernel_rfl) (by intro _ _ _ h; exact h) (Or.inl ⟨by rfl, ?_⟩) hHeld ?_
      rotate_left
      · (intro w hSw; (try dsimp only at hSw); go_simp; try with_reducible rfl)
      try simp only [Act.put, List.setIfInBounds_toArray, List.set_cons_zero, List.set_cons_succ]
      refine wpAnyH_take (i := 21) (v := ?_) (by simp only [List.getElem?_toArray, List.getElem?_cons_zero, List.getElem?_cons_succ]; rfl) (by kernel_rfl) (by kernel_rfl) (by kernel_rfl) (by intro _ _ _ h; exact h) (Or.inl ⟨by rfl, ?_⟩) hHeld ?_
      rotate_left
      · (intro w hSw; (try dsimp only at hSw); go_simp; try with_reducible rfl)
      try simp only [Act.put, List.setIfInBounds_toArray, List.set_cons_zero, List.set_cons_succ]
      refine wpAnyH_take (i := 22) (v := ?_) (by simp only [List.getElem?_toArray, List.getElem?_cons_zero, List.getElem?_cons_succ]; rfl) (by kernel_rfl) (by kernel_rfl) (by kernel_rfl) (by intro _ _ _ h; exact h) (Or.inl ⟨by rfl, ?_⟩) hHeld ?_
      rotate_left
      · (intro w hSw; (try dsimp only at hSw); go_simp; try with_reducible rfl)
      try simp only [Act.put, List.setIfInBounds_toArray, List.set_cons_zero, List.set_cons_succ]
      refine wpAnyH_take (i := 23) (v := ?_) (by simp only [List.getElem?_toArray, List.getElem?_cons_zero, List.getElem?_cons_succ]; rfl) (by kernel_rfl) (by kernel_rfl) (by kernel_rfl) (by intro _ _ _ h; exact h) (Or.inl ⟨by rfl, ?_⟩) hHeld ?_
      rotate_left
      · (intro w hSw; (try dsimp only at hSw); go_simp; try with_reducible rfl)
      try simp only [Act.put, List.setIfInBounds_toArray, List.set_cons_zero, List.set_cons_succ]
      refine wpAnyH_take (i := 24) (v := ?_) (by simp only [List.getElem?_toArray, List.getElem?_cons_zero, List.getElem?_cons_succ]; rfl) (by kernel_rfl) (by kernel_rfl) (by kernel_rfl) (by intro _ _ _ h; exact h) (Or.inl ⟨by rfl, ?_⟩) hHeld ?_
      rotate_left
      · (intro w hSw; (try dsimp only at hSw); go_simp; try with_reducible rfl)
      try simp only [Act.put, List.setIfInBounds_toArray, List.set_cons_zero, List.set_cons_succ]
      refine wpAnyH_ready (rs := [20]) (by kernel_rfl) (by simp) ?_
      refine AllReadyH.cons (by simp only [List.getElem?_toArray, List.getElem?_cons_zero, List.getElem?_cons_succ]; rfl) (fun K hK => ?_) AllReadyH.nil
      rw [if_pos (by rfl)]
      go_simp
      refine (items11 p B R' _ (HT.out.below HB0.out).ix (by have := HR'.out; omega)).mono ?_
      rintro e x5 ⟨⟨v5, rfl, ho5⟩, hb⟩
      have HB1 := Lib.hid (HB0.out.trans (hb.mono HB0.out.size))
      clear hb
      obtain ⟨A5, c5, rfl, hs5, _, _, _⟩ := srow_arr (wideE _) ho5
      have HS5 := Lib.hid hs5
      clear ho5 hs5
      refine hK.out _ _ (HS.out _ HB1.out) (fun hHeld => ?_)
      clear hK K
      try simp only [Act.put, List.setIfInBounds_toArray, List.set_cons_zero, List.set_cons_succ]
      refine wpAnyH_ready (rs := [25]) (by kernel_rfl) (by simp) ?_
      refine AllReadyH.cons (by simp only [List.getElem?_toArray, List.getElem?_cons_zero, List.getElem?_cons_succ]; rfl) (fun K hK => ?_) AllReadyH.nil
      rw [if_pos (by rfl)]
      go_simp
      refine (sameIt (fun i => itE R'[i]!) A5 A2 R'.length c5 c2 _ _ x5 (by have := HR'.out; omega) HS5.out (HX.out.below HB1.out).sarr).mono ?_
      rintro e _ ⟨rfl, m, rfl⟩
      have HB2 : Hid (Below y9.heap.size y9 (x5.drewN m)) := Lib.hid (below_drewN HB1.out m)
      refine hK.out _ _ (HS.out _ HB2.out) (fun hHeld => ?_)
      clear hK K
      try simp only [Act.put, List.setIfInBounds_toArray, List.set_cons_zero, List.set_cons_succ]
      refine wpAnyH_take (i := 26) (v := ?_) (by simp only [List.getElem?_toArray, List.getElem?_cons_zero, List.getElem?_cons_succ]; rfl) (by kernel_rfl) (by kernel_rfl) (by kernel_rfl) (by intro _ _ _ h; exact h) (Or.inl ⟨by rfl, ?_⟩) hHeld ?_
      rotate_left
      · (intro w hSw; (try dsimp only at hSw); go_simp; try with_reducible rfl)
      try simp only [Act.put, List.setIfInBounds_toArray, List.set_cons_zero, List.set_cons_succ]
      refine wpAnyH_take (i := 27) (v := ?_) (by simp only [List.getElem?_toArray, List.getElem?_cons_zero, List.getElem?_cons_succ]; rfl) (by kernel_rfl) (by kernel_rfl) (by kernel_rfl) (by intro _ _ _ h; exact h) (Or.inl ⟨by rfl, ?_⟩) hHeld ?_
      rotate_left
      · (intro w hSw; (try dsimp only at hSw); go_simp; try with_reducible rfl)
      try simp only [Act.put, List.setIfInBounds_toArray, List.set_cons_zero, List.set_cons_succ]
      refine wpAnyH_done (by kernel_rfl) ?_ _
      clear hHeld
      have HT := Lib.hid (HT.out.below HB2.out)
      go_wp2_with fail
      exact ⟨⟨j + 1, R', by omega, by push_cast; rfl, by have := HR'.out; omega, HT.out⟩, by simp [intOf]; omega⟩
    · go_wp2_with fail
      refine wp_region_held_drew (S := (fun w' : World => w'.cell? ⟨b6, 0, none⟩ = some (.int .i64 D.kd) ∧ w'.rangeAt b6 1 (u8l D.k) ∧ w'.rangeAt b6 33 [.int .i64 D.q.a, .int .i64 D.q.n, .int .i64 D.q.u, .int .i64 D.q.r] ∧ w'.cell? ⟨b6, 37, none⟩ = some (.int .i64 D.x))) follows (HS.out _ (Keeps.drew _ _)) (fun hHeld => ?_)
      refine wpAnyH_take (i := 0) (v := ?_) (by simp only [List.getElem?_toArray, List.getElem?_cons_zero]; rfl) (by kernel_rfl) (by kernel_rfl) (by kernel_rfl) (by intro _ _ _ h; exact h) (Or.inl ⟨by rfl, ?_⟩) hHeld ?_
      rotate_left
      · (intro w hSw; (try dsimp only at hSw); go_simp; try with_reducible rfl)
      try simp only [Act.put, List.setIfInBounds_toArray, List.set_cons_zero, List.set_cons_succ]
      refine wpAnyH_take (i := 1) (v := ?_) (by simp only [List.getElem?_toArray, List.getElem?_cons_zero, List.getElem?_cons_succ]; rfl) (by kernel_rfl) (by kernel_rfl) (by kernel_rfl) (by intro _ _ _ h; exact h) (Or.inl ⟨by rfl, ?_⟩) hHeld ?_
      rotate_left
      · (intro w hSw; (try dsimp only at hSw); go_simp; try with_reducible rfl)
      try simp only [Act.put, List.setIfInBounds_toArray, List.set_cons_zero, List.set_cons_succ]
      refine wpAnyH_take (i := 2) (v := _) (by simp only [List.getElem?_toArray, List.getElem?_cons_zero, List.getElem?_cons_succ]; rfl) (by kernel_rfl) (by kernel_rfl) (by kernel_rfl) (by intro _ _ _ h; exact h) (yieldsIf_load_mid (by rfl) 26 (.tmp 36) rfl b6 1 rfl (u8l D.k) _ (fun _ h => h.2.1) Try.underlying26 rfl HKL.out) hHeld ?_
      try simp only [Act.put, List.setIfInBounds_toArray, List.set_cons_zero, List.set_cons_succ]
      refine wpAnyH_take (i := 3) (v := ?_) (by simp only [List.getElem?_toArray, List.getElem?_cons_zero, List.getElem?_cons_succ]; rfl) (by kernel_rfl) (by kernel_rfl) (by kernel_rfl) (by intro _ _ _ h; exact h) (Or.inl ⟨by rfl, ?_⟩) hHeld ?_
      rotate_left
      · (intro w hSw; (try dsimp only at hSw); go_simp; try with_reducible rfl)
      try simp only [Act.put, List.setIfInBounds_toArray, List.set_cons_zero, List.set_cons_succ]
      refine wpAnyH_take (i := 4) (v := _) (by simp only [List.getElem?_toArray, List.getElem?_cons_zero, List.getElem?_cons_succ]; rfl) (by kernel_rfl) (by kernel_rfl) (by kernel_rfl) (by intro _ _ _ h; exact h) (yieldsIf_load_mid (by rfl) 28 (.tmp 38) rfl b6 33 rfl [.int .i64 D.q.a, .int .i64 D.q.n, .int .i64 D.q.u, .int .i64 D.q.r] _ (fun _ h => h.2.2.1) Try.underlying28 rfl sizePl) hHeld ?_
      try simp only [Act.put, List.setIfInBounds_toArray, List.set_cons_zero, List.set_cons_succ]
      refine wpAnyH_take (i := 6) (v := ?_) (by simp only [List.getElem?_toArray, List.getElem?_cons_zero, List.getElem?_cons_succ]; rfl) (by kernel_rfl) (by kernel_rfl) (by kernel_rfl) (by intro _ _ _ h; exact h) (Or.inl ⟨by rfl, ?_⟩) hHeld ?_
      rotate_left
      · (intro w hSw; (try dsimp only at hSw); go_simp; try with_reducible rfl)
      try simp only [Act.put, List.setIfInBounds_toArray, List.set_cons_zero, List.set_cons_succ]
      refine wpAnyH_take (i := 7) (v := ?_) (by simp only [List.getElem?_toArray, List.getElem?_cons_zero, List.getElem?_cons_succ]; rfl) (by kernel_rfl) (by kernel_rfl) (by kernel_rfl) (by intro _ _ _ h; exact h) (Or.inl ⟨by rfl, ?_⟩) hHeld ?_
      rotate_left
      · (intro w hSw; (try dsimp only at hSw); go_simp; try with_reducible rfl)
      try simp only [Act.put, List.setIfInBounds_toArray, List.set_cons_zero, List.set_cons_succ]
      refine wpAnyH_take (i := 8) (v := _) (by simp only [List.getElem?_toArray, List.getElem?_cons_zero, List.getElem?_cons_succ]; rfl) (by kernel_rfl) (by kernel_rfl) (by kernel_rfl) (by intro _ _ _ h; exact h) (yieldsIf_load_mid (by rfl) 26 (.tmp 42) rfl b6 1 rfl (u8l D.k) _ (fun _ h => h.2.1) Try.underlying26 rfl HKL.out) hHeld ?_
      try simp only [Act.put, List.setIfInBounds_toArray, List.set_cons_zero, List.set_cons_succ]
      refine wpAnyH_take (i := 9) (v := ?_) (by simp only [List.getElem?_toArray, List.getElem?_cons_zero, List.getElem?_cons_succ]; rfl) (by kernel_rfl) (by kernel_rfl) (by kernel_rfl) (by intro _ _ _ h; exact h) (Or.inl ⟨by rfl, ?_⟩) hHeld ?_
      rotate_left
      · (intro w hSw; (try dsimp only at hSw); go_simp; try with_reducible rfl)
      try simp only [Act.put, List.setIfInBounds_toArray, List.set_cons_zero, List.set_cons_succ]
      refine wpAnyH_take (i := 10) (v := _) (by simp only [List.getElem?_toArray, List.getElem?_cons_zero, List.getElem?_cons_succ]; rfl) (by kernel_rfl) (by kernel_rfl) (by kernel_rfl) (by intro _ _ _ h; exact h) (yieldsIf_load_mid (by rfl) 28 (.tmp 44) rfl b6 33 rfl [.int .i64 D.q.a, .int .i64 D.q.n, .int .i64 D.q.u, .int .i64 D.q.r] _ (fun _ h => h.2.2.1) Try.underlying28 rfl sizePl) hHeld ?_
      try simp only [Act.put, List.setIfInBounds_toArray, List.set_cons_zero, List.set_cons_succ]
      refine wpAnyH_ready (rs := [5]) (by kernel_rfl) (by simp) ?_
      refine AllReadyH.cons (by simp only [List.getElem?_toArray, List.getElem?_cons_zero, List.getElem?_cons_succ]; rfl) (fun K hK => ?_) AllReadyH.nil
      rw [if_pos (by rfl)]
      go_simp
      refine (two_add D.k D.q HK.out (HT.out.below (below_drewN (Below.refl _ _) 1)) (by have := HR.out; omega)).mono ?_
      rintro e x1 ⟨rfl, ho⟩
      have H1 := Lib.hid ho
      clear ho
      have K1 : Hid (Keeps (fun z => z = B ∨ z = p2) w5 x1) := Lib.hid ((Keeps.drew _ w5).trans H1.out.2 (fun _ _ h => .inl h))
      refine hK.out _ _ (HS.out _ K1.out) (fun hHeld => ?_)
      clear hK K
      try simp only [Act.put, List.setIfInBounds_toArray, List.set_cons_zero, List.set_cons_succ]
      refine wpAnyH_ready (rs := [11]) (by kernel_rfl) (by simp) ?_
      refine AllReadyH.cons (by simp only [List.getElem?_toArray, List.getElem?_cons_zero, List.getElem?_cons_succ]; rfl) (fun K hK => ?_) AllReadyH.nil
      rw [if_pos (by rfl)]
      go_simp
      refine (two_radd D.k D.q HK.out H1.out.1 (by have := HR.out; omega)).mono ?_
      rintro e x2 ⟨rfl, ho⟩
      have H2 := Lib.hid ho
      clear ho
      have K2 : Hid (Keeps (fun z => z = B ∨ z = p2) w5 x2) := Lib.hid (K1.out.trans H2.out.2 (fun _ _ h => .inr h))
      refine hK.out _ _ (HS.out _ K2.out) (fun hHeld => ?_)
      clear hK K
      try simp only [Act.put, List.setIfInBounds_toArray, List.set_cons_zero, List.set_cons_succ]
      refine wpAnyH_take (i := 12) (v := ?_) (by simp only [List.getElem?_toArray, List.getElem?_cons_zero, List.getElem?_cons_succ]; rfl) (by kernel_rfl) (by kernel_rfl) (by kernel_rfl) (by intro _ _ _ h; exact h) (Or.inl ⟨by rfl, ?_⟩) hHeld ?_
      rotate_left
      · (intro w hSw; (try dsimp only at hSw); go_simp; try with_reducible rfl)
      try simp only [Act.put, List.setIfInBounds_toArray, List.set_cons_zero, List.set_cons_succ]
      refine wpAnyH_done (by kernel_rfl) ?_ _
      clear hHeld
      obtain ⟨R', hR', hT', hK'⟩ : ∃ R', R'.length ≤ j + 1 ∧ Two W.heap.size W x2 p B base p2 R' R' ∧ Keeps (fun z => z = B ∨ z = p2) w5 x2 := ⟨addR R D.k D.q, by have := HR.out; have := add_len R D.k D.q; omega, H2.out.1, K2.out⟩
      clear K1 K2 H1 H2
      have HT := Lib.hid hT'
      have HR' := Lib.hid hR'
      obtain ⟨hs0, hs1, hs2, hs3⟩ := HS.out _ hK'
      have HK6 : Hid (x2.heap[b6]? = some (.cells D.cells.toArray 30 (0, 0))) := Lib.hid (hK'.heap HD6.out (fun e => by rcases e with e | e; exact HN6.out.1 e; exact HN6.out.2 e))
      clear hT' hR' hK' hs0 hs1 hs2 hs3 HR HT0
      obtain ⟨q, hq⟩ : ∃ q, q = (lookR D.k R').getD ⟨0, 0, 0, 0⟩ := ⟨_, rfl⟩
      obtain ⟨is, his⟩ : ∃ z, z = (lookR D.k R').isSome := ⟨_, rfl⟩
      have HQ := Lib.hid hq
      have HIS := Lib.hid his
      have HQM : Hid (mayB q = true ∨ q = ⟨0, 0, 0, 0⟩) := Lib.hid (by rw [hq]; exact get_may)
      clear hq his
      have HKR : Hid (∀ V : World, V.heap[b6]? = some (.cells D.cells.toArray 30 (0, 0)) → V.rangeAt b6 1 (u8l D.k)) := Lib.hid fun V h => by
        have := (deed_at HK.out (range_of h)).2.1
        rwa [Nat.zero_add] at this
      go_upto_region 22 with fail
      go_wp2_with (refine wpList_load_midG rfl 26 (.tmp 81) rfl b6 1 rfl (u8l D.k) _ (HKR.out _ HK6.out) Try.underlying26 rfl HKL.out ?_)
      refine (two_get D.k HK.out HT.out (by have := HR'.out; omega)).mono ?_
      rintro e x3 ⟨rfl, hb⟩
      dsimp only
      rw [← HQ.out, ← HIS.out]
      have HT := Lib.hid (HT.out.below hb)
      have HK6 := Lib.hid ((hb.block b6 (heap_lt HK6.out)).trans HK6.out)
      clear hb
      repeat ((fail_if_success (refine wpList_laid rfl 28 rfl (plc ⟨0, 0, 0, 0⟩) (zeroVP _) ?_)); go_step)
      refine wpList_laid rfl 28 rfl (plc ⟨0, 0, 0, 0⟩) (zeroVP _) ?_
      try simp only [Act.put, List.setIfInBounds_toArray, List.set_cons_zero, List.set_cons_succ]
      obtain ⟨b7, hb7⟩ : ∃ b, b = x3.heap.size := ⟨_, rfl⟩
      obtain ⟨v7, hv7⟩ : ∃ z, z = x3.alloc (.cells (plc ⟨0, 0, 0, 0⟩).toArray 28) := ⟨_, rfl⟩
      have HZ7 : Hid (v7.heap[b7]? = some (.cells (plc ⟨0, 0, 0, 0⟩).toArray 28 (0, 0))) := Lib.hid (by rw [hv7, hb7]; exact heap_new _ _)
      have B7 : Hid (Below x3.heap.size x3 v7) := Lib.hid (by rw [hv7]; exact (Below.refl _ _).alloc (Nat.le_refl _) _)
      have HE7 : Hid (b7 = x3.heap.size) := Lib.hid hb7
      rw [← hv7, ← hb7]
      clear hv7 hb7
      refine wpList_store_segK rfl 28 (.tmp 7) (.tmp 84) rfl b7 0 rfl (plc q) rfl (plc ⟨0, 0, 0, 0⟩) 28 HZ7.out sizePl (by simp [plc]) (by intro u hu; simp [plc] at hu; rcases hu with rfl | rfl | rfl | rfl <;> rfl) rfl ?_
      intro y7 h5 k5 s5
      rw [splice_whole _ _ (by simp [plc])] at h5
      have H7 := Lib.hid h5
      have BB7 : Hid (Below x3.heap.size x3 y7) := Lib.hid (B7.out.trans (k5.below (fun z hz => by rw [hz, HE7.out]; exact Nat.le_refl _) B7.out.size))
      have HT := Lib.hid (HT.out.below BB7.out)
      have HK6 := Lib.hid ((BB7.out.block b6 (heap_lt HK6.out)).trans HK6.out)
      clear h5 k5 s5 HZ7 B7 HE7 BB7
      go_upto_region 23 with fail
      go_wp2_with (refine wpList_load_midG rfl 26 (.tmp 88) rfl b6 1 rfl (u8l D.k) _ (HKR.out _ HK6.out) Try.underlying26 rfl HKL.out ?_)
      refine (two_rget D.k HK.out HT.out (by have := HR'.out; omega)).mono ?_
      rintro e x4 ⟨rfl, hb⟩
      dsimp only
      rw [← HQ.out, ← HIS.out]
      have HT := Lib.hid (HT.out.below hb)
      have HK6 := Lib.hid ((hb.block b6 (heap_lt HK6.out)).trans HK6.out)
      have H7 := Lib.hid ((hb.block b7 (heap_lt H7.out)).trans H7.out)
      clear hb
      repeat ((fail_if_success (refine wpList_laid rfl 28 rfl (plc ⟨0, 0, 0, 0⟩) (zeroVP _) ?_)); go_step)
      refine wpList_laid rfl 28 rfl (plc ⟨0, 0, 0, 0⟩) (zeroVP _) ?_
      try simp only [Act.put, List.setIfInBounds_toArray, List.set_cons_zero, List.set_cons_succ]
      obtain ⟨b9, hb9⟩ : ∃ b, b = x4.heap.size := ⟨_, rfl⟩
      obtain ⟨v9, hv9⟩ : ∃ z, z = x4.alloc (.cells (plc ⟨0, 0, 0, 0⟩).toArray 28) := ⟨_, rfl⟩
      have HZ9 : Hid (v9.heap[b9]? = some (.cells (plc ⟨0, 0, 0, 0⟩).toArray 28 (0, 0))) := Lib.hid (by rw [hv9, hb9]; exact heap_new _ _)
      have B9 : Hid (Below x4.heap.size x4 v9) := Lib.hid (by rw [hv9]; exact (Below.refl _ _).alloc (Nat.le_refl _) _)
      have HE9 : Hid (b9 = x4.heap.size) := Lib.hid hb9
      rw [← hv9, ← hb9]
      clear hv9 hb9
      refine wpList_store_segK rfl 28 (.tmp 9) (.tmp 91) rfl b9 0 rfl (plc q) rfl (plc ⟨0, 0, 0, 0⟩) 28 HZ9.out sizePl (by simp [plc]) (by intro u hu; simp [plc] at hu; rcases hu with rfl | rfl | rfl | rfl <;> rfl) rfl ?_
      intro y9 h5 k5 s5
      rw [splice_whole _ _ (by simp [plc])] at h5
      have H9 := Lib.hid h5
      have BB9 : Hid (Below x4.heap.size x4 y9) := Lib.hid (B9.out.trans (k5.below (fun z hz => by rw [hz, HE9.out]; exact Nat.le_refl _) B9.out.size))
      have HT := Lib.hid (HT.out.below BB9.out)
      have HK6 := Lib.hid ((BB9.out.block b6 (heap_lt HK6.out)).trans HK6.out)
      have H7 := Lib.hid ((BB9.out.block b7 (heap_lt H7.out)).trans H7.out)
      clear h5 k5 s5 HZ9 B9 HE9 BB9
      obtain ⟨vv, hvv⟩ := HT.out.rx
      obtain ⟨A2, c2, rfl⟩ := row_shapeS hvv.row
      have HX := Lib.hid hvv
      clear hvv
      go_wp2_with fail
      have HS : Hid (∀ V, Below y9.heap.size y9 V → (fun w' : World => w'.rangeAt b7 0 (plc q) ∧ w'.rangeAt b9 0 (plc q) ∧ w'.cell? ⟨p2, 0, none⟩ = some (.slice A2 R'.length c2)) V) := Lib.hid fun V h => ⟨range_of ((h.block b7 (heap_lt H7.out)).trans H7.out), range_of ((h.block b9 (heap_lt H9.out)).trans H9.out), (HX.out.below h).at0⟩
      have HB0 : Hid (Below y9.heap.size y9 y9.drew) := Lib.hid (below_drewN (Below.refl _ _) 1)
      refine wp_region_held_drew (S := (fun w' : World => w'.rangeAt b7 0 (plc q) ∧ w'.rangeAt b9 0 (plc q) ∧ w'.cell? ⟨p2, 0, none⟩ = some (.slice A2 R'.length c2))) follows (HS.out _ HB0.out) (fun hHeld => ?_)
      refine wpAnyH_take (i := 0) (v := _) (by simp only [List.getElem?_toArray, List.getElem?_cons_zero]; rfl) (by kernel_rfl) (by kernel_rfl) (by kernel_rfl) (by intro _ _ _ h; exact h) (yieldsIf_load_mid (by rfl) 28 (.tmp 7) rfl b7 0 rfl (plc q) _ (fun _ h => h.1) Try.underlying28 rfl sizePl) hHeld ?_
      try simp only [Act.put, List.setIfInBounds_toArray, List.set_cons_zero, List.set_cons_succ]
      refine wpAnyH_take (i := 1) (v := _) (by simp only [List.getElem?_toArray, List.getElem?_cons_zero, List.getElem?_cons_succ]; rfl) (by kernel_rfl) (by kernel_rfl) (by kernel_rfl) (by intro _ _ _ h; exact h) (yieldsIf_load_mid (by rfl) 28 (.tmp 9) rfl b9 0 rfl (plc q) _ (fun _ h => h.2.1) Try.underlying28 rfl sizePl) hHeld ?_
      try simp only [Act.put, List.setIfInBounds_toArray, List.set_cons_zero, List.set_cons_succ]
      refine wpAnyH_take (i := 2) (v := _) (by simp only [List.getElem?_toArray, List.getElem?_cons_zero, List.getElem?_cons_succ]; rfl) (by kernel_rfl) (by kernel_rfl) (by kernel_rfl) (by intro _ _ _ h; exact h) (yields_neq (by rfl) 28 (.tmp 93) (.tmp 94) rfl _ _ rfl rfl true eqgPl (fun u => eqrPl q HQM.out u)) hHeld ?_
      try simp only [Act.put, List.setIfInBounds_toArray, List.set_cons_zero, List.set_cons_succ]
      refine wpAnyH_take (i := 3) (v := ?_) (by simp only [List.getElem?_toArray, List.getElem?_cons_zero, List.getElem?_cons_succ]; rfl) (by kernel_rfl) (by kernel_rfl) (by kernel_rfl) (by intro _ _ _ h; exact h) (Or.inl ⟨by rfl, ?_⟩) hHeld ?_
      rotate_left
      · (intro w hSw; (try dsimp only at hSw); go_simp; try with_reducible rfl)
      try simp only [Act.put, List.setIfInBounds_toArray, List.set_cons_zero, List.set_cons_succ]
      refine wpAnyH_take (i := 4) (v := ?_) (by simp only [List.getElem?_toArray, List.getElem?_cons_zero, List.getElem?_cons_succ]; rfl) (by kernel_rfl) (by kernel_rfl) (by kernel_rfl) (by intro _ _ _ h; exact h) (Or.inl ⟨by rfl, ?_⟩) hHeld ?_
      rotate_left
      · (intro w hSw; (try dsimp only at hSw); go_simp; try with_reducible rfl)
      try simp only [Act.put, List.setIfInBounds_toArray, List.set_cons_zero, List.set_cons_succ]
      refine wpAnyH_take (i := 5) (v := ?_) (by simp only [List.getElem?_toArray, List.getElem?_cons_zero, List.getElem?_cons_succ]; rfl) (by kernel_rfl) (by kernel_rfl) (by kernel_rfl) (by intro _ _ _ h; exact h) (Or.inl ⟨by rfl, ?_⟩) hHeld ?_
      rotate_left
      · (intro w hSw; (try dsimp only at hSw); go_simp; try with_reducible rfl)
      try simp only [Act.put, List.setIfInBounds_toArray, List.set_cons_zero, List.set_cons_succ]
      refine wpAnyH_take (i := 6) (v := ?_) (by simp only [List.getElem?_toArray, List.getElem?_cons_zero, List.getElem?_cons_succ]; rfl) (by kernel_rfl) (by kernel_rfl) (by kernel_rfl) (by intro _ _ _ h; exact h) (Or.inl ⟨by rfl, ?_⟩) hHeld ?_
      rotate_left
      · (intro w hSw; (try dsimp only at hSw); go_simp; try with_reducible rfl)
      try simp only [Act.put, List.setIfInBounds_toArray, List.set_cons_zero, List.set_cons_succ]
      refine wpAnyH_take (i := 7) (v := ?_) (by simp only [List.getElem?_toArray, List.getElem?_cons_zero, List.getElem?_cons_succ]; rfl) (by kernel_rfl) (by kernel_rfl) (by kernel_rfl) (by intro _ _ _ h; exact h) (Or.inl ⟨by rfl, ?_⟩) hHeld ?_
      rotate_left
      · (intro w hSw; (try dsimp only at hSw); go_simp; try with_reducible rfl)
      try simp only [Act.put, List.setIfInBounds_toArray, List.set_cons_zero, List.set_cons_succ]
      refine wpAnyH_take (i := 8) (v := ?_) (by simp only [List.getElem?_toArray, List.getElem?_cons_zero, List.getElem?_cons_succ]; rfl) (by kernel_rfl) (by kernel_rfl) (by kernel_rfl) (by intro _ _ _ h; exact h) (Or.inl ⟨by rfl, ?_⟩) hHeld ?_
      rotate_left
      · (intro w hSw; (try dsimp only at hSw); go_simp; try with_reducible rfl)
      try simp only [Act.put, List.setIfInBounds_toArray, List.set_cons_zero, List.set_cons_succ]
      refine wpAnyH_take (i := 9) (v := ?_) (by simp only [List.getElem?_toArray, List.getElem?_cons_zero, List.getElem?_cons_succ]; rfl) (by kernel_rfl) (by kernel_rfl) (by kernel_rfl) (by intro _ _ _ h; exact h) (Or.inl ⟨by rfl, ?_⟩) hHeld ?_
      rotate_left
      · (intro w hSw; (try dsimp only at hSw); go_simp; try with_reducible rfl)
      try simp only [Act.put, List.setIfInBounds_toArray, List.set_cons_zero, List.set_cons_succ]
      refine wpAnyH_take (i := 11) (v := ?_) (by simp only [List.getElem?_toArray, List.getElem?_cons_zero, List.getElem?_cons_succ]; rfl) (by kernel_rfl) (by kernel_rfl) (by kernel_rfl) (by intro _ _ _ h; exact h) (Or.inl ⟨by rfl, ?_⟩) hHeld ?_
      rotate_left
      · (intro w hSw; (try dsimp only at hSw); go_simp; try with_reducible rfl)
      try simp only [Act.put, List.setIfInBounds_toArray, List.set_cons_zero, List.set_cons_succ]
      refine wpAnyH_take (i := 12) (v := ?_) (by simp only [List.getElem?_toArray, List.getElem?_cons_zero, List.getElem?_cons_succ]; rfl) (by kernel_rfl) (by kernel_rfl) (by kernel_rfl) (by intro _ _ _ h; exact h) (Or.inl ⟨by rfl, ?_⟩) hHeld ?_
      rotate_left
      · (intro w hSw; (try dsimp only at hSw); go_simp; try with_reducible rfl)
      try simp only [Act.put, List.setIfInBounds_toArray, List.set_cons_zero, List.set_cons_succ]
      refine wpAnyH_take (i := 13) (v := ?_) (by simp only [List.getElem?_toArray, List.getElem?_cons_zero, List.getElem?_cons_succ]; rfl) (by kernel_rfl) (by kernel_rfl) (by kernel_rfl) (by intro _ _ _ h; exact h) (Or.inl ⟨by rfl, ?_⟩) hHeld ?_
      rotate_left
      · (intro w hSw; (try dsimp only at hSw); go_simp; try with_reducible rfl)
      try simp only [Act.put, List.setIfInBounds_toArray, List.set_cons_zero, List.set_cons_succ]
      refine wpAnyH_take (i := 14) (v := ?_) (by simp only [List.getElem?_toArray, List.getElem?_cons_zero, List.getElem?_cons_succ]; rfl) (by kernel_rfl) (by kernel_rfl) (by kernel_rfl) (by intro _ _ _ h; exact h) (Or.inl ⟨by rfl, ?_⟩) hHeld ?_
      rotate_left
      · (intro w hSw; (try dsimp only at hSw); go_simp; try with_reducible rfl)
      try simp only [Act.put, List.setIfInBounds_toArray, List.set_cons_zero, List.set_cons_succ]
      refine wpAnyH_take (i := 15) (v := ?_) (by simp only [List.getElem?_toArray, List.getElem?_cons_zero, List.getElem?_cons_succ]; rfl) (by kernel_rfl) (by kernel_rfl) (by kernel_rfl) (by intro _ _ _ h; exact h) (Or.inl ⟨by rfl, ?_⟩) hHeld ?_
      rotate_left
      · (intro w hSw; (try dsimp only at hSw); go_simp; try with_reducible rfl)
      try simp only [Act.put, List.setIfInBounds_toArray, List.set_cons_zero, List.set_cons_succ]
      refine wpAnyH_ready (rs := [10]) (by kernel_rfl) (by simp) ?_
      refine AllReadyH.cons (by simp only [List.getElem?_toArray, List.getElem?_cons_zero, List.getElem?_cons_succ]; rfl) (fun K hK => ?_) AllReadyH.nil
      rw [if_pos (by rfl)]
      go_simp
      refine (len12 p B R' _ (HT.out.below HB0.out).ix).mono ?_
      rintro e _ ⟨rfl, rfl⟩
      refine hK.out _ _ (HS.out _ HB0.out) (fun hHeld => ?_)
      clear hK K
      try simp only [Act.put, List.setIfInBounds_toArray, List.set_cons_zero, List.set_cons_succ]
      refine wpAnyH_take (i := 16) (v := ?_) (by simp only [List.getElem?_toArray, List.getElem?_cons_zero, List.getElem?_cons_succ]; rfl) (by kernel_rfl) (by kernel_rfl) (by kernel_rfl) (by intro _ _ _ h; exact h) (Or.inl ⟨by rfl, ?_⟩) hHeld ?_
      rotate_left
      · (intro w hSw; (try dsimp only at hSw); go_simp; try with_reducible rfl)
      try simp only [Act.put, List.setIfInBounds_toArray, List.set_cons_zero, List.set_cons_succ]
      refine wpAnyH_take (i := 17) (v := ?_) (by simp only [List.getElem?_toArray, List.getElem?_cons_zero, List.getElem?_cons_succ]; rfl) (by kernel_rfl) (by kernel_rfl) (by kernel_rfl) (by intro _ _ _ h; exact h) (Or.inl ⟨by rfl, ?_⟩) hHeld ?_
      rotate_left
      · (intro w hSw; (try dsimp only at hSw); go_simp; try with_reducible rfl)
      try simp only [Act.put, List.setIfInBounds_toArray, List.set_cons_zero, List.set_cons_succ]
      refine wpAnyH_take (i := 18) (v := ?_) (by simp only [List.getElem?_toArray, List.getElem?_cons_zero, List.getElem?_cons_succ]; rfl) (by kernel_rfl) (by kernel_rfl) (by kernel_rfl) (by intro _ _ _ h; exact h) (Or.inl ⟨by rfl, ?_⟩) hHeld ?_
      rotate_left
      · (intro w hSw; (try dsimp only at hSw); go_simp; try with_reducible rfl)
      try simp only [Act.put, List.setIfInBounds_toArray, List.set_cons_zero, List.set_cons_succ]
      refine wpAnyH_take (i := 19) (v := ?_) (by simp only [List.getElem?_toArray, List.getElem?_cons_zero, List.getElem?_cons_succ]; rfl) (by kernel_rfl) (by kernel_rfl) (by kernel_rfl) (by intro _ _ _ h; exact h) (Or.inl ⟨by rfl, ?_⟩) hHeld ?_
      rotate_left
      · (intro w hSw; (try dsimp only at hSw); go_simp; try with_reducible rfl)
      try simp only [Act.put, List.setIfInBounds_toArray, List.set_cons_zero, List.set_cons_succ]
      refine wpAnyH_take (i := 21) (v := ?_) (by simp only [List.getElem?_toArray, List.getElem?_cons_zero, List.getElem?_cons_succ]; rfl) (by kernel_rfl) (by kernel_rfl) (by kernel_rfl) (by intro _ _ _ h; exact h) (Or.inl ⟨by rfl, ?_⟩) hHeld ?_
      rotate_left
      · (intro w hSw; (try dsimp only at hSw); go_simp; try with_reducible rfl)
      try simp only [Act.put, List.setIfInBounds_toArray, List.set_cons_zero, List.set_cons_succ]
      refine wpAnyH_take (i := 22) (v := ?_) (by simp only [List.getElem?_toArray, List.getElem?_cons_zero, List.getElem?_cons_succ]; rfl) (by kernel_rfl) (by kernel_rfl) (by kernel_rfl) (by intro _ _ _ h; exact h) (Or.inl ⟨by rfl, ?_⟩) hHeld ?_
      rotate_left
      · (intro w hSw; (try dsimp only at hSw); go_simp; try with_reducible rfl)
      try simp only [Act.put, List.setIfInBounds_toArray, List.set_cons_zero, List.set_cons_succ]
      refine wpAnyH_take (i := 23) (v := ?_) (by simp only [List.getElem?_toArray, List.getElem?_cons_zero, List.getElem?_cons_succ]; rfl) (by kernel_rfl) (by kernel_rfl) (by kernel_rfl) (by intro _ _ _ h; exact h) (Or.inl ⟨by rfl, ?_⟩) hHeld ?_
      rotate_left
      · (intro w hSw; (try dsimp only at hSw); go_simp; try with_reducible rfl)
      try simp only [Act.put, List.setIfInBounds_toArray, List.set_cons_zero, List.set_cons_succ]
      refine wpAnyH_take (i := 24) (v := ?_) (by simp only [List.getElem?_toArray, List.getElem?_cons_zero, List.getElem?_cons_succ]; rfl) (by kernel_rfl) (by kernel_rfl) (by kernel_rfl) (by intro _ _ _ h; exact h) (Or.inl ⟨by rfl, ?_⟩) hHeld ?_
      rotate_left
      · (intro w hSw; (try dsimp only at hSw); go_simp; try with_reducible rfl)
      try simp only [Act.put, List.setIfInBounds_toArray, List.set_cons_zero, List.set_cons_succ]
      refine wpAnyH_ready (rs := [20]) (by kernel_rfl) (by simp) ?_
      refine AllReadyH.cons (by simp only [List.getElem?_toArray, List.getElem?_cons_zero, List.getElem?_cons_succ]; rfl) (fun K hK => ?_) AllReadyH.nil
      rw [if_pos (by rfl)]
      go_simp
      refine (items11 p B R' _ (HT.out.below HB0.out).ix (by have := HR'.out; omega)).mono ?_
      rintro e x5 ⟨⟨v5, rfl, ho5⟩, hb⟩
      have HB1 := Lib.hid (HB0.out.trans (hb.mono HB0.out.size))
      clear hb
      obtain ⟨A5, c5, rfl, hs5, _, _, _⟩ := srow_arr (wideE _) ho5
      have HS5 := Lib.hid hs5
      clear ho5 hs5
      refine hK.out _ _ (HS.out _ HB1.out) (fun hHeld => ?_)
      clear hK K
      try simp only [Act.put, List.setIfInBounds_toArray, List.set_cons_zero, List.set_cons_succ]
      refine wpAnyH_ready (rs := [25]) (by kernel_rfl) (by simp) ?_
      refine AllReadyH.cons (by simp only [List.getElem?_toArray, List.getElem?_cons_zero, List.getElem?_cons_succ]; rfl) (fun K hK => ?_) AllReadyH.nil
      rw [if_pos (by rfl)]
      go_simp
      refine (sameIt (fun i => itE R'[i]!) A5 A2 R'.length c5 c2 _ _ x5 (by have := HR'.out; omega) HS5.out (HX.out.below HB1.out).sarr).mono ?_
      rintro e _ ⟨rfl, m, rfl⟩
      have HB2 : Hid (Below y9.heap.size y9 (x5.drewN m)) := Lib.hid (below_drewN HB1.out m)
      refine hK.out _ _ (HS.out _ HB2.out) (fun hHeld => ?_)
      clear hK K
      try simp only [Act.put, List.setIfInBounds_toArray, List.set_cons_zero, List.set_cons_succ]
      refine wpAnyH_take (i := 26) (v := ?_) (by simp only [List.getElem?_toArray, List.getElem?_cons_zero, List.getElem?_cons_succ]; rfl) (by kernel_rfl) (by kernel_rfl) (by kernel_rfl) (by intro _ _ _ h; exact h) (Or.inl ⟨by rfl, ?_⟩) hHeld ?_
      rotate_left
      · (intro w hSw; (try dsimp only at hSw); go_simp; try with_reducible rfl)
      try simp only [Act.put, List.setIfInBounds_toArray, List.set_cons_zero, List.set_cons_succ]
      refine wpAnyH_take (i := 27) (v := ?_) (by simp only [List.getElem?_toArray, List.getElem?_cons_zero, List.getElem?_cons_succ]; rfl) (by kernel_rfl) (by kernel_rfl) (by kernel_rfl) (by intro _ _ _ h; exact h) (Or.inl ⟨by rfl, ?_⟩) hHeld ?_
      rotate_left
      · (intro w hSw; (try dsimp only at hSw); go_simp; try with_reducible rfl)
      try simp only [Act.put, List.setIfInBounds_toArray, List.set_cons_zero, List.set_cons_succ]
      refine wpAnyH_done (by kernel_rfl) ?_ _
      clear hHeld
      have HT := Lib.hid (HT.out.below HB2.out)
      go_wp2_with fail
      exact ⟨⟨j + 1, R', by omega, by push_cast; rfl, by have := HR'.out; omega, HT.out⟩, by simp [intOf]; omega⟩
    · obtain ⟨R', hR', hT', hK'⟩ : ∃ R', R'.length ≤ j + 1 ∧ Two W.heap.size W w5 p B base p2 R' R' ∧ Keeps (fun z => z = B ∨ z = p2) w5 w5 := ⟨R, by have := HR.out; omega, HT.out, Keeps.refl _ _⟩
      have HT := Lib.hid hT'
      have HR' := Lib.hid hR'
      obtain ⟨hs0, hs1, hs2, hs3⟩ := HS.out _ hK'
      have HK6 : Hid (w5.heap[b6]? = some (.cells D.cells.toArray 30 (0, 0))) := Lib.hid (hK'.heap HD6.out (fun e => by rcases e with e | e; exact HN6.out.1 e; exact HN6.out.2 e))
      clear hT' hR' hK' hs0 hs1 hs2 hs3 HR HT0
      obtain ⟨q, hq⟩ : ∃ q, q = (lookR D.k R').getD ⟨0, 0, 0, 0⟩ := ⟨_, rfl⟩
      obtain ⟨is, his⟩ : ∃ z, z = (lookR D.k R').isSome := ⟨_, rfl⟩
      have HQ := Lib.hid hq
      have HIS := Lib.hid his
      have HQM : Hid (mayB q = true ∨ q = ⟨0, 0, 0, 0⟩) := Lib.hid (by rw [hq]; exact get_may)
      clear hq his
      have HKR : Hid (∀ V : World, V.heap[b6]? = some (.cells D.cells.toArray 30 (0, 0)) → V.rangeAt b6 1 (u8l D.k)) := Lib.hid fun V h => by
        have := (deed_at HK.out (range_of h)).2.1
        rwa [Nat.zero_add] at this
      go_upto_region 22 with fail
      go_wp2_with (refine wpList_load_midG rfl 26 (.tmp 81) rfl b6 1 rfl (u8l D.k) _ (HKR.out _ HK6.out) Try.underlying26 rfl HKL.out ?_)
      refine (two_get D.k HK.out HT.out (by have := HR'.out; omega)).mono ?_
      rintro e x3 ⟨rfl, hb⟩
      dsimp only
      rw [← HQ.out, ← HIS.out]
      have HT := Lib.hid (HT.out.below hb)
      have HK6 := Lib.hid ((hb.block b6 (heap_lt HK6.out)).trans HK6.out)
      clear hb
      repeat ((fail_if_success (refine wpList_laid rfl 28 rfl (plc ⟨0, 0, 0, 0⟩) (zeroVP _) ?_)); go_step)
      refine wpList_laid rfl 28 rfl (plc ⟨0, 0, 0, 0⟩) (zeroVP _) ?_
      try simp only [Act.put, List.setIfInBounds_toArray, List.set_cons_zero, List.set_cons_succ]
      obtain ⟨b7, hb7⟩ : ∃ b, b = x3.heap.size := ⟨_, rfl⟩
      obtain ⟨v7, hv7⟩ : ∃ z, z = x3.alloc (.cells (plc ⟨0, 0, 0, 0⟩).toArray 28) := ⟨_, rfl⟩
      have HZ7 : Hid (v7.heap[b7]? = some (.cells (plc ⟨0, 0, 0, 0⟩).toArray 28 (0, 0))) := Lib.hid (by rw [hv7, hb7]; exact heap_new _ _)
      have B7 : Hid (Below x3.heap.size x3 v7) := Lib.hid (by rw [hv7]; exact (Below.refl _ _).alloc (Nat.le_refl _) _)
      have HE7 : Hid (b7 = x3.heap.size) := Lib.hid hb7
      rw [← hv7, ← hb7]
      clear hv7 hb7
      refine wpList_store_segK rfl 28 (.tmp 7) (.tmp 84) rfl b7 0 rfl (plc q) rfl (plc ⟨0, 0, 0, 0⟩) 28 HZ7.out sizePl (by simp [plc]) (by intro u hu; simp [plc] at hu; rcases hu with rfl | rfl | rfl | rfl <;> rfl) rfl ?_
      intro y7 h5 k5 s5
      rw [splice_whole _ _ (by simp [plc])] at h5
      have H7 := Lib.hid h5
      have BB7 : Hid (Below x3.heap.size x3 y7) := Lib.hid (B7.out.trans (k5.below (fun z hz => by rw [hz, HE7.out]; exact Nat.le_refl _) B7.out.size))
      have HT := Lib.hid (HT.out.below BB7.out)
      have HK6 := Lib.hid ((BB7.out.block b6 (heap_lt HK6.out)).trans HK6.out)
      clear h5 k5 s5 HZ7 B7 HE7 BB7
      go_upto_region 23 with fail
      go_wp2_with (refine wpList_load_midG rfl 26 (.tmp 88) rfl b6 1 rfl (u8l D.k) _ (HKR.out _ HK6.out) Try.underlying26 rfl HKL.out ?_)
      refine (two_rget D.k HK.out HT.out (by have := HR'.out; omega)).mono ?_
      rintro e x4 ⟨rfl, hb⟩
      dsimp only
      rw [← HQ.out, ← HIS.out]
      have HT := Lib.hid (HT.out.below hb)
      have HK6 := Lib.hid ((hb.block b6 (heap_lt HK6.out)).trans HK6.out)
      have H7 := Lib.hid ((hb.block b7 (heap_lt H7.out)).trans H7.out)
      clear hb
      repeat ((fail_if_success (refine wpList_laid rfl 28 rfl (plc ⟨0, 0, 0, 0⟩) (zeroVP _) ?_)); go_step)
      refine wpList_laid rfl 28 rfl (plc ⟨0, 0, 0, 0⟩) (zeroVP _) ?_
      try simp only [Act.put, List.setIfInBounds_toArray, List.set_cons_zero, List.set_cons_succ]
      obtain ⟨b9, hb9⟩ : ∃ b, b = x4.heap.size := ⟨_, rfl⟩
      obtain ⟨v9, hv9⟩ : ∃ z, z = x4.alloc (.cells (plc ⟨0, 0, 0, 0⟩).toArray 28) := ⟨_, rfl⟩
      have HZ9 : Hid (v9.heap[b9]? = some (.cells (plc ⟨0, 0, 0, 0⟩).toArray 28 (0, 0))) := Lib.hid (by rw [hv9, hb9]; exact heap_new _ _)
      have B9 : Hid (Below x4.heap.size x4 v9) := Lib.hid (by rw [hv9]; exact (Below.refl _ _).alloc (Nat.le_refl _) _)
      have HE9 : Hid (b9 = x4.heap.size) := Lib.hid hb9
      rw [← hv9, ← hb9]
      clear hv9 hb9
      refine wpList_store_segK rfl 28 (.tmp 9) (.tmp 91) rfl b9 0 rfl (plc q) rfl (plc ⟨0, 0, 0, 0⟩) 28 HZ9.out sizePl (by simp [plc]) (by intro u hu; simp [plc] at hu; rcases hu with rfl | rfl | rfl | rfl <;> rfl) rfl ?_
      intro y9 h5 k5 s5
      rw [splice_whole _ _ (by simp [plc])] at h5
      have H9 := Lib.hid h5
      have BB9 : Hid (Below x4.heap.size x4 y9) := Lib.hid (B9.out.trans (k5.below (fun z hz => by rw [hz, HE9.out]; exact Nat.le_refl _) B9.out.size))
      have HT := Lib.hid (HT.out.below BB9.out)
      have HK6 := Lib.hid ((BB9.out.block b6 (heap_lt HK6.out)).trans HK6.out)
      have H7 := Lib.hid ((BB9.out.block b7 (heap_lt H7.out)).trans H7.out)
      clear h5 k5 s5 HZ9 B9 HE9 BB9
      obtain ⟨vv, hvv⟩ := HT.out.rx
      obtain ⟨A2, c2, rfl⟩ := row_shapeS hvv.row
      have HX := Lib.hid hvv
      clear hvv
      go_wp2_with fail
      have HS : Hid (∀ V, Below y9.heap.size y9 V → (fun w' : World => w'.rangeAt b7 0 (plc q) ∧ w'.rangeAt b9 0 (plc q) ∧ w'.cell? ⟨p2, 0, none⟩ = some (.slice A2 R'.length c2)) V) := Lib.hid fun V h => ⟨range_of ((h.block b7 (heap_lt H7.out)).trans H7.out), range_of ((h.block b9 (heap_lt H9.out)).trans H9.out), (HX.out.below h).at0⟩
      have HB0 : Hid (Below y9.heap.size y9 y9.drew) := Lib.hid (below_drewN (Below.refl _ _) 1)
      refine wp_region_held_drew (S := (fun w' : World => w'.rangeAt b7 0 (plc q) ∧ w'.rangeAt b9 0 (plc q) ∧ w'.cell? ⟨p2, 0, none⟩ = some (.slice A2 R'.length c2))) follows (HS.out _ HB0.out) (fun hHeld => ?_)
      refine wpAnyH_take (i := 0) (v := _) (by simp only [List.getElem?_toArray, List.getElem?_cons_zero]; rfl) (by kernel_rfl) (by kernel_rfl) (by kernel_rfl) (by intro _ _ _ h; exact h) (yieldsIf_load_mid (by rfl) 28 (.tmp 7) rfl b7 0 rfl (plc q) _ (fun _ h => h.1) Try.underlying28 rfl sizePl) hHeld ?_
      try simp only [Act.put, List.setIfInBounds_toArray, List.set_cons_zero, List.set_cons_succ]
      refine wpAnyH_take (i := 1) (v := _) (by simp only [List.getElem?_toArray, List.getElem?_cons_zero, List.getElem?_cons_succ]; rfl) (by kernel_rfl) (by kernel_rfl) (by kernel_rfl) (by intro _ _ _ h; exact h) (yieldsIf_load_mid (by rfl) 28 (.tmp 9) rfl b9 0 rfl (plc q) _ (fun _ h => h.2.1) Try.underlying28 rfl sizePl) hHeld ?_
      try simp only [Act.put, List.setIfInBounds_toArray, List.set_cons_zero, List.set_cons_succ]
      refine wpAnyH_take (i := 2) (v := _) (by simp only [List.getElem?_toArray, List.getElem?_cons_zero, List.getElem?_cons_succ]; rfl) (by kernel_rfl) (by kernel_rfl) (by kernel_rfl) (by intro _ _ _ h; exact h) (yields_neq (by rfl) 28 (.tmp 93) (.tmp 94) rfl _ _ rfl rfl true eqgPl (fun u => eqrPl q HQM.out u)) hHeld ?_
      try simp only [Act.put, List.setIfInBounds_toArray, List.set_cons_zero, List.set_cons_succ]
      refine wpAnyH_take (i := 3) (v := ?_) (by simp only [List.getElem?_toArray, List.getElem?_cons_zero, List.getElem?_cons_succ]; rfl) (by kernel_rfl) (by kernel_rfl) (by kernel_rfl) (by intro _ _ _ h; exact h) (Or.inl ⟨by rfl, ?_⟩) hHeld ?_
      rotate_left
      · (intro w hSw; (try dsimp only at hSw); go_simp; try with_reducible rfl)
      try simp only [Act.put, List.setIfInBounds_toArray, List.set_cons_zero, List.set_cons_succ]
      refine wpAnyH_take (i := 4) (v := ?_) (by simp only [List.getElem?_toArray, List.getElem?_cons_zero, List.getElem?_cons_succ]; rfl) (by kernel_rfl) (by kernel_rfl) (by kernel_rfl) (by intro _ _ _ h; exact h) (Or.inl ⟨by rfl, ?_⟩) hHeld ?_
      rotate_left
      · (intro w hSw; (try dsimp only at hSw); go_simp; try with_reducible rfl)
      try simp only [Act.put, List.setIfInBounds_toArray, List.set_cons_zero, List.set_cons_succ]
      refine wpAnyH_take (i := 5) (v := ?_) (by simp only [List.getElem?_toArray, List.getElem?_cons_zero, List.getElem?_cons_succ]; rfl) (by kernel_rfl) (by kernel_rfl) (by kernel_rfl) (by intro _ _ _ h; exact h) (Or.inl ⟨by rfl, ?_⟩) hHeld ?_
      rotate_left
      · (intro w hSw; (try dsimp only at hSw); go_simp; try with_reducible rfl)
      try simp only [Act.put, List.setIfInBounds_toArray, List.set_cons_zero, List.set_cons_succ]
      refine wpAnyH_take (i := 6) (v := ?_) (by simp only [List.getElem?_toArray, List.getElem?_cons_zero, List.getElem?_cons_succ]; rfl) (by kernel_rfl) (by kernel_rfl) (by kernel_rfl) (by intro _ _ _ h; exact h) (Or.inl ⟨by rfl, ?_⟩) hHeld ?_
      rotate_left
      · (intro w hSw; (try dsimp only at hSw); go_simp; try with_reducible rfl)
      try simp only [Act.put, List.setIfInBounds_toArray, List.set_cons_zero, List.set_cons_succ]
      refine wpAnyH_take (i := 7) (v := ?_) (by simp only [List.getElem?_toArray, List.getElem?_cons_zero, List.getElem?_cons_succ]; rfl) (by kernel_rfl) (by kernel_rfl) (by kernel_rfl) (by intro _ _ _ h; exact h) (Or.inl ⟨by rfl, ?_⟩) hHeld ?_
      rotate_left
      · (intro w hSw; (try dsimp only at hSw); go_simp; try with_reducible rfl)
      try simp only [Act.put, List.setIfInBounds_toArray, List.set_cons_zero, List.set_cons_succ]
      refine wpAnyH_take (i := 8) (v := ?_) (by simp only [List.getElem?_toArray, List.getElem?_cons_zero, List.getElem?_cons_succ]; rfl) (by kernel_rfl) (by kernel_rfl) (by kernel_rfl) (by intro _ _ _ h; exact h) (Or.inl ⟨by rfl, ?_⟩) hHeld ?_
      rotate_left
      · (intro w hSw; (try dsimp only at hSw); go_simp; try with_reducible rfl)
      try simp only [Act.put, List.setIfInBounds_toArray, List.set_cons_zero, List.set_cons_succ]
      refine wpAnyH_take (i := 9) (v := ?_) (by simp only [List.getElem?_toArray, List.getElem?_cons_zero, List.getElem?_cons_succ]; rfl) (by kernel_rfl) (by kernel_rfl) (by kernel_rfl) (by intro _ _ _ h; exact h) (Or.inl ⟨by rfl, ?_⟩) hHeld ?_
      rotate_left
      · (intro w hSw; (try dsimp only at hSw); go_simp; try with_reducible rfl)
      try simp only [Act.put, List.setIfInBounds_toArray, List.set_cons_zero, List.set_cons_succ]
      refine wpAnyH_take (i := 11) (v := ?_) (by simp only [List.getElem?_toArray, List.getElem?_cons_zero, List.getElem?_cons_succ]; rfl) (by kernel_rfl) (by kernel_rfl) (by kernel_rfl) (by intro _ _ _ h; exact h) (Or.inl ⟨by rfl, ?_⟩) hHeld ?_
      rotate_left
      · (intro w hSw; (try dsimp only at hSw); go_simp; try with_reducible rfl)
      try simp only [Act.put, List.setIfInBounds_toArray, List.set_cons_zero, List.set_cons_succ]
      refine wpAnyH_take (i := 12) (v := ?_) (by simp only [List.getElem?_toArray, List.getElem?_cons_zero, List.getElem?_cons_succ]; rfl) (by kernel_rfl) (by kernel_rfl) (by kernel_rfl) (by intro _ _ _ h; exact h) (Or.inl ⟨by rfl, ?_⟩) hHeld ?_
      rotate_left
      · (intro w hSw; (try dsimp only at hSw); go_simp; try with_reducible rfl)
      try simp only [Act.put, List.setIfInBounds_toArray, List.set_cons_zero, List.set_cons_succ]
      refine wpAnyH_take (i := 13) (v := ?_) (by simp only [List.getElem?_toArray, List.getElem?_cons_zero, List.getElem?_cons_succ]; rfl) (by kernel_rfl) (by kernel_rfl) (by kernel_rfl) (by intro _ _ _ h; exact h) (Or.inl ⟨by rfl, ?_⟩) hHeld ?_
      rotate_left
      · (intro w hSw; (try dsimp only at hSw); go_simp; try with_reducible rfl)
      try simp only [Act.put, List.setIfInBounds_toArray, List.set_cons_zero, List.set_cons_succ]
      refine wpAnyH_take (i := 14) (v := ?_) (by simp only [List.getElem?_toArray, List.getElem?_cons_zero, List.getElem?_cons_succ]; rfl) (by kernel_rfl) (by kernel_rfl) (by kernel_rfl) (by intro _ _ _ h; exact h) (Or.inl ⟨by rfl, ?_⟩) hHeld ?_
      rotate_left
      · (intro w hSw; (try dsimp only at hSw); go_simp; try with_reducible rfl)
      try simp only [Act.put, List.setIfInBounds_toArray, List.set_cons_zero, List.set_cons_succ]
      refine wpAnyH_take (i := 15) (v := ?_) (by simp only [List.getElem?_toArray, List.getElem?_cons_zero, List.getElem?_cons_succ]; rfl) (by kernel_rfl) (by kernel_rfl) (by kernel_rfl) (by intro _ _ _ h; exact h) (Or.inl ⟨by rfl, ?_⟩) hHeld ?_
      rotate_left
      · (intro w hSw; (try dsimp only at hSw); go_simp; try with_reducible rfl)
      try simp only [Act.put, List.setIfInBounds_toArray, List.set_cons_zero, List.set_cons_succ]
      refine wpAnyH_ready (rs := [10]) (by kernel_rfl) (by simp) ?_
      refine AllReadyH.cons (by simp only [List.getElem?_toArray, List.getElem?_cons_zero, List.getElem?_cons_succ]; rfl) (fun K hK => ?_) AllReadyH.nil
      rw [if_pos (by rfl)]
      go_simp
      refine (len12 p B R' _ (HT.out.below HB0.out).ix).mono ?_
      rintro e _ ⟨rfl, rfl⟩
      refine hK.out _ _ (HS.out _ HB0.out) (fun hHeld => ?_)
      clear hK K
      try simp only [Act.put, List.setIfInBounds_toArray, List.set_cons_zero, List.set_cons_succ]
      refine wpAnyH_take (i := 16) (v := ?_) (by simp only [List.getElem?_toArray, List.getElem?_cons_zero, List.getElem?_cons_succ]; rfl) (by kernel_rfl) (by kernel_rfl) (by kernel_rfl) (by intro _ _ _ h; exact h) (Or.inl ⟨by rfl, ?_⟩) hHeld ?_
      rotate_left
      · (intro w hSw; (try dsimp only at hSw); go_simp; try with_reducible rfl)
      try simp only [Act.put, List.setIfInBounds_toArray, List.set_cons_zero, List.set_cons_succ]
      refine wpAnyH_take (i := 17) (v := ?_) (by simp only [List.getElem?_toArray, List.getElem?_cons_zero, List.getElem?_cons_succ]; rfl) (by kernel_rfl) (by kernel_rfl) (by kernel_rfl) (by intro _ _ _ h; exact h) (Or.inl ⟨by rfl, ?_⟩) hHeld ?_
      rotate_left
      · (intro w hSw; (try dsimp only at hSw); go_simp; try with_reducible rfl)
      try simp only [Act.put, List.setIfInBounds_toArray, List.set_cons_zero, List.set_cons_succ]
      refine wpAnyH_take (i := 18) (v := ?_) (by simp only [List.getElem?_toArray, List.getElem?_cons_zero, List.getElem?_cons_succ]; rfl) (by kernel_rfl) (by kernel_rfl) (by kernel_rfl) (by intro _ _ _ h; exact h) (Or.inl ⟨by rfl, ?_⟩) hHeld ?_
      rotate_left
      · (intro w hSw; (try dsimp only at hSw); go_simp; try with_reducible rfl)
      try simp only [Act.put, List.setIfInBounds_toArray, List.set_cons_zero, List.set_cons_succ]
      refine wpAnyH_take (i := 19) (v := ?_) (by simp only [List.getElem?_toArray, List.getElem?_cons_zero, List.getElem?_cons_succ]; rfl) (by kernel_rfl) (by kernel_rfl) (by kernel_rfl) (by intro _ _ _ h; exact h) (Or.inl ⟨by rfl, ?_⟩) hHeld ?_
      rotate_left
      · (intro w hSw; (try dsimp only at hSw); go_simp; try with_reducible rfl)
      try simp only [Act.put, List.setIfInBounds_toArray, List.set_cons_zero, List.set_cons_succ]
      refine wpAnyH_take (i := 21) (v := ?_) (by simp only [List.getElem?_toArray, List.getElem?_cons_zero, List.getElem?_cons_succ]; rfl) (by kernel_rfl) (by kernel_rfl) (by kernel_rfl) (by intro _ _ _ h; exact h) (Or.inl ⟨by rfl, ?_⟩) hHeld ?_
      rotate_left
      · (intro w hSw; (try dsimp only at hSw); go_simp; try with_reducible rfl)
      try simp only [Act.put, List.setIfInBounds_toArray, List.set_cons_zero, List.set_cons_succ]
      refine wpAnyH_take (i := 22) (v := ?_) (by simp only [List.getElem?_toArray, List.getElem?_cons_zero, List.getElem?_cons_succ]; rfl) (by kernel_rfl) (by kernel_rfl) (by kernel_rfl) (by intro _ _ _ h; exact h) (Or.inl ⟨by rfl, ?_⟩) hHeld ?_
      rotate_left
      · (intro w hSw; (try dsimp only at hSw); go_simp; try with_reducible rfl)
      try simp only [Act.put, List.setIfInBounds_toArray, List.set_cons_zero, List.set_cons_succ]
      refine wpAnyH_take (i := 23) (v := ?_) (by simp only [List.getElem?_toArray, List.getElem?_cons_zero, List.getElem?_cons_succ]; rfl) (by kernel_rfl) (by kernel_rfl) (by kernel_rfl) (by intro _ _ _ h; exact h) (Or.inl ⟨by rfl, ?_⟩) hHeld ?_
      rotate_left
      · (intro w hSw; (try dsimp only at hSw); go_simp; try with_reducible rfl)
      try simp only [Act.put, List.setIfInBounds_toArray, List.set_cons_zero, List.set_cons_succ]
      refine wpAnyH_take (i := 24) (v := ?_) (by simp only [List.getElem?_toArray, List.getElem?_cons_zero, List.getElem?_cons_succ]; rfl) (by kernel_rfl) (by kernel_rfl) (by kernel_rfl) (by intro _ _ _ h; exact h) (Or.inl ⟨by rfl, ?_⟩) hHeld ?_
      rotate_left
      · (intro w hSw; (try dsimp only at hSw); go_simp; try with_reducible rfl)
      try simp only [Act.put, List.setIfInBounds_toArray, List.set_cons_zero, List.set_cons_succ]
      refine wpAnyH_ready (rs := [20]) (by kernel_rfl) (by simp) ?_
      refine AllReadyH.cons (by simp only [List.getElem?_toArray, List.getElem?_cons_zero, List.getElem?_cons_succ]; rfl) (fun K hK => ?_) AllReadyH.nil
      rw [if_pos (by rfl)]
      go_simp
      refine (items11 p B R' _ (HT.out.below HB0.out).ix (by have := HR'.out; omega)).mono ?_
      rintro e x5 ⟨⟨v5, rfl, ho5⟩, hb⟩
      have HB1 := Lib.hid (HB0.out.trans (hb.mono HB0.out.size))
      clear hb
      obtain ⟨A5, c5, rfl, hs5, _, _, _⟩ := srow_arr (wideE _) ho5
      have HS5 := Lib.hid hs5
      clear ho5 hs5
      refine hK.out _ _ (HS.out _ HB1.out) (fun hHeld => ?_)
      clear hK K
      try simp only [Act.put, List.setIfInBounds_toArray, List.set_cons_zero, List.set_cons_succ]
      refine wpAnyH_ready (rs := [25]) (by kernel_rfl) (by simp) ?_
      refine AllReadyH.cons (by simp only [List.getElem?_toArray, List.getElem?_cons_zero, List.getElem?_cons_succ]; rfl) (fun K hK => ?_) AllReadyH.nil
      rw [if_pos (by rfl)]
      go_simp
      refine (sameIt (fun i => itE R'[i]!) A5 A2 R'.length c5 c2 _ _ x5 (by have := HR'.out; omega) HS5.out (HX.out.below HB1.out).sarr).mono ?_
      rintro e _ ⟨rfl, m, rfl⟩
      have HB2 : Hid (Below y9.heap.size y9 (x5.drewN m)) := Lib.hid (below_drewN HB1.out m)
      refine hK.out _ _ (HS.out _ HB2.out) (fun hHeld => ?_)
      clear hK K
      try simp only [Act.put, List.setIfInBounds_toArray, List.set_cons_zero, List.set_cons_succ]
      refine wpAnyH_take (i := 26) (v := ?_) (by simp only [List.getElem?_toArray, List.getElem?_cons_zero, List.getElem?_cons_succ]; rfl) (by kernel_rfl) (by kernel_rfl) (by kernel_rfl) (by intro _ _ _ h; exact h) (Or.inl ⟨by rfl, ?_⟩) hHeld ?_
      rotate_left
      · (intro w hSw; (try dsimp only at hSw); go_simp; try with_reducible rfl)
      try simp only [Act.put, List.setIfInBounds_toArray, List.set_cons_zero, List.set_cons_succ]
      refine wpAnyH_take (i := 27) (v := ?_) (by simp only [List.getElem?_toArray, List.getElem?_cons_zero, List.getElem?_cons_succ]; rfl) (by kernel_rfl) (by kernel_rfl) (by kernel_rfl) (by intro _ _ _ h; exact h) (Or.inl ⟨by rfl, ?_⟩) hHeld ?_
      rotate_left
      · (intro w hSw; (try dsimp only at hSw); go_simp; try with_reducible rfl)
      try simp only [Act.put, List.setIfInBounds_toArray, List.set_cons_zero, List.set_cons_succ]
      refine wpAnyH_done (by kernel_rfl) ?_ _
      clear hHeld
      have HT := Lib.hid (HT.out.below HB2.out)
      go_wp2_with fail
      exact ⟨⟨j + 1, R', by omega, by push_cast; rfl, by have := HR'.out; omega, HT.out⟩, by simp [intOf]; omega⟩
    · go_wp2_with fail
      refine wp_region_held_drew (S := (fun w' : World => w'.cell? ⟨b6, 0, none⟩ = some (.int .i64 D.kd) ∧ w'.rangeAt b6 1 (u8l D.k) ∧ w'.rangeAt b6 33 [.int .i64 D.q.a, .int .i64 D.q.n, .int .i64 D.q.u, .int .i64 D.q.r] ∧ w'.cell? ⟨b6, 37, none⟩ = some (.int .i64 D.x))) follows (HS.out _ (Keeps.drew _ _)) (fun hHeld => ?_)
      refine wpAnyH_take (i := 0) (v := ?_) (by simp only [List.getElem?_toArray, List.getElem?_cons_zero]; rfl) (by kernel_rfl) (by kernel_rfl) (by kernel_rfl) (by intro _ _ _ h; exact h) (Or.inl ⟨by rfl, ?_⟩) hHeld ?_
      rotate_left
      · (intro w hSw; (try dsimp only at hSw); go_simp; try with_reducible rfl)
      try simp only [Act.put, List.setIfInBounds_toArray, List.set_cons_zero, List.set_cons_succ]
      refine wpAnyH_take (i := 1) (v := ?_) (by simp only [List.getElem?_toArray, List.getElem?_cons_zero, List.getElem?_cons_succ]; rfl) (by kernel_rfl) (by kernel_rfl) (by kernel_rfl) (by intro _ _ _ h; exact h) (Or.inl ⟨by rfl, ?_⟩) hHeld ?_
      rotate_left
      · (intro w hSw; (try dsimp only at hSw); go_simp; try with_reducible rfl)
      try simp only [Act.put, List.setIfInBounds_toArray, List.set_cons_zero, List.set_cons_succ]
      refine wpAnyH_take (i := 2) (v := _) (by simp only [List.getElem?_toArray, List.getElem?_cons_zero, List.getElem?_cons_succ]; rfl) (by kernel_rfl) (by kernel_rfl) (by kernel_rfl) (by intro _ _ _ h; exact h) (yieldsIf_load_mid (by rfl) 26 (.tmp 51) rfl b6 1 rfl (u8l D.k) _ (fun _ h => h.2.1) Try.underlying26 rfl HKL.out) hHeld ?_
      try simp only [Act.put, List.setIfInBounds_toArray, List.set_cons_zero, List.set_cons_succ]
      refine wpAnyH_take (i := 3) (v := ?_) (by simp only [List.getElem?_toArray, List.getElem?_cons_zero, List.getElem?_cons_succ]; rfl) (by kernel_rfl) (by kernel_rfl) (by kernel_rfl) (by intro _ _ _ h; exact h) (Or.inl ⟨by rfl, ?_⟩) hHeld ?_
      rotate_left
      · (intro w hSw; (try dsimp only at hSw); go_simp; try with_reducible rfl)
      try simp only [Act.put, List.setIfInBounds_toArray, List.set_cons_zero, List.set_cons_succ]
      refine wpAnyH_take (i := 4) (v := ?_) (by simp only [List.getElem?_toArray, List.getElem?_cons_zero, List.getElem?_cons_succ]; rfl) (by kernel_rfl) (by kernel_rfl) (by kernel_rfl) (by intro _ _ _ h; exact h) (Or.inl ⟨by rfl, ?_⟩) hHeld ?_
      rotate_left
      · (intro w hSw; (try dsimp only at hSw); go_simp; try with_reducible rfl)
      try simp only [Act.put, List.setIfInBounds_toArray, List.set_cons_zero, List.set_cons_succ]
      refine wpAnyH_take (i := 6) (v := ?_) (by simp only [List.getElem?_toArray, List.getElem?_cons_zero, List.getElem?_cons_succ]; rfl) (by kernel_rfl) (by kernel_rfl) (by kernel_rfl) (by intro _ _ _ h; exact h) (Or.inl ⟨by rfl, ?_⟩) hHeld ?_
      rotate_left
      · (intro w hSw; (try dsimp only at hSw); go_simp; try with_reducible rfl)
      try simp only [Act.put, List.setIfInBounds_toArray, List.set_cons_zero, List.set_cons_succ]
      refine wpAnyH_take (i := 7) (v := ?_) (by simp only [List.getElem?_toArray, List.getElem?_cons_zero, List.getElem?_cons_succ]; rfl) (by kernel_rfl) (by kernel_rfl) (by kernel_rfl) (by intro _ _ _ h; exact h) (Or.inl ⟨by rfl, ?_⟩) hHeld ?_
      rotate_left
      · (intro w hSw; (try dsimp only at hSw); go_simp; try with_reducible rfl)
      try simp only [Act.put, List.setIfInBounds_toArray, List.set_cons_zero, List.set_cons_succ]
      refine wpAnyH_take (i := 8) (v := _) (by simp only [List.getElem?_toArray, List.getElem?_cons_zero, List.getElem?_cons_succ]; rfl) (by kernel_rfl) (by kernel_rfl) (by kernel_rfl) (by intro _ _ _ h; exact h) (yieldsIf_load_mid (by rfl) 26 (.tmp 57) rfl b6 1 rfl (u8l D.k) _ (fun _ h => h.2.1) Try.underlying26 rfl HKL.out) hHeld ?_
      try simp only [Act.put, List.setIfInBounds_toArray, List.set_cons_zero, List.set_cons_succ]
      refine wpAnyH_take (i := 9) (v := ?_) (by simp only [List.getElem?_toArray, List.getElem?_cons_zero, List.getElem?_cons_succ]; rfl) (by kernel_rfl) (by kernel_rfl) (by kernel_rfl) (by intro _ _ _ h; exact h) (Or.inl ⟨by rfl, ?_⟩) hHeld ?_
      rotate_left
      · (intro w hSw; (try dsimp only at hSw); go_simp; try with_reducible rfl)
      try simp only [Act.put, List.setIfInBounds_toArray, List.set_cons_zero, List.set_cons_succ]
      refine wpAnyH_take (i := 10) (v := ?_) (by simp only [List.getElem?_toArray, List.getElem?_cons_zero, List.getElem?_cons_succ]; rfl) (by kernel_rfl) (by kernel_rfl) (by kernel_rfl) (by intro _ _ _ h; exact h) (Or.inl ⟨by rfl, ?_⟩) hHeld ?_
      rotate_left
      · (intro w hSw; (try dsimp only at hSw); go_simp; try with_reducible rfl)
      try simp only [Act.put, List.setIfInBounds_toArray, List.set_cons_zero, List.set_cons_succ]
      refine wpAnyH_ready (rs := [5]) (by kernel_rfl) (by simp) ?_
      refine AllReadyH.cons (by simp only [List.getElem?_toArray, List.getElem?_cons_zero, List.getElem?_cons_succ]; rfl) (fun K hK => ?_) AllReadyH.nil
      rw [if_pos (by rfl)]
      go_simp
      refine (two_move D.k D.x HK.out (HT.out.below (below_drewN (Below.refl _ _) 1)) (by have := HR.out; omega)).mono ?_
      rintro e x1 ⟨rfl, ho⟩
      have H1 := Lib.hid ho
      clear ho
      have K1 : Hid (Keeps (fun z => z = B ∨ z = p2) w5 x1) := Lib.hid ((Keeps.drew _ w5).trans H1.out.2 (fun _ _ h => .inl h))
      refine hK.out _ _ (HS.out _ K1.out) (fun hHeld => ?_)
      clear hK K
      try simp only [Act.put, List.setIfInBounds_toArray, List.set_cons_zero, List.set_cons_succ]
      refine wpAnyH_ready (rs := [11]) (by kernel_rfl) (by simp) ?_
      refine AllReadyH.cons (by simp only [List.getElem?_toArray, List.getElem?_cons_zero, List.getElem?_cons_succ]; rfl) (fun K hK => ?_) AllReadyH.nil
      rw [if_pos (by rfl)]
      go_simp
      refine (two_rmove D.k D.x HK.out H1.out.1 (by have := HR.out; omega)).mono ?_
      rintro e x2 ⟨rfl, ho⟩
      have H2 := Lib.hid ho
      clear ho
      have K2 : Hid (Keeps (fun z => z = B ∨ z = p2) w5 x2) := Lib.hid (K1.out.trans H2.out.2 (fun _ _ h => .inr h))
      refine hK.out _ _ (HS.out _ K2.out) (fun hHeld => ?_)
      clear hK K
      try simp only [Act.put, List.setIfInBounds_toArray, List.set_cons_zero, List.set_cons_succ]
      refine wpAnyH_take (i := 12) (v := ?_) (by simp only [List.getElem?_toArray, List.getElem?_cons_zero, List.getElem?_cons_succ]; rfl) (by kernel_rfl) (by kernel_rfl) (by kernel_rfl) (by intro _ _ _ h; exact h) (Or.inl ⟨by rfl, ?_⟩) hHeld ?_
      rotate_left
      · (intro w hSw; (try dsimp only at hSw); go_simp; try with_reducible rfl)
      try simp only [Act.put, List.setIfInBounds_toArray, List.set_cons_zero, List.set_cons_succ]
      refine wpAnyH_done (by kernel_rfl) ?_ _
      clear hHeld
      obtain ⟨R', hR', hT', hK'⟩ : ∃ R', R'.length ≤ j + 1 ∧ Two W.heap.size W x2 p B base p2 R' R' ∧ Keeps (fun z => z = B ∨ z = p2) w5 x2 := ⟨moveR R D.k D.x, by have := HR.out; have := move_len R D.k D.x; omega, H2.out.1, K2.out⟩
      clear K1 K2 H1 H2
      have HT := Lib.hid hT'
      have HR' := Lib.hid hR'
      obtain ⟨hs0, hs1, hs2, hs3⟩ := HS.out _ hK'
      have HK6 : Hid (x2.heap[b6]? = some (.cells D.cells.toArray 30 (0, 0))) := Lib.hid (hK'.heap HD6.out (fun e => by rcases e with e | e; exact HN6.out.1 e; exact HN6.out.2 e))
      clear hT' hR' hK' hs0 hs1 hs2 hs3 HR HT0
      obtain ⟨q, hq⟩ : ∃ q, q = (lookR D.k R').getD ⟨0, 0, 0, 0⟩ := ⟨_, rfl⟩
      obtain ⟨is, his⟩ : ∃ z, z = (lookR D.k R').isSome := ⟨_, rfl⟩
      have HQ := Lib.hid hq
      have HIS := Lib.hid his
      have HQM : Hid (mayB q = true ∨ q = ⟨0, 0, 0, 0⟩) := Lib.hid (by rw [hq]; exact get_may)
      clear hq his
      have HKR : Hid (∀ V : World, V.heap[b6]? = some (.cells D.cells.toArray 30 (0, 0)) → V.rangeAt b6 1 (u8l D.k)) := Lib.hid fun V h => by
        have := (deed_at HK.out (range_of h)).2.1
        rwa [Nat.zero_add] at this
      go_upto_region 22 with fail
      go_wp2_with (refine wpList_load_midG rfl 26 (.tmp 81) rfl b6 1 rfl (u8l D.k) _ (HKR.out _ HK6.out) Try.underlying26 rfl HKL.out ?_)
      refine (two_get D.k HK.out HT.out (by have := HR'.out; omega)).mono ?_
      rintro e x3 ⟨rfl, hb⟩
      dsimp only
      rw [← HQ.out, ← HIS.out]
      have HT := Lib.hid (HT.out.below hb)
      have HK6 := Lib.hid ((hb.block b6 (heap_lt HK6.out)).trans HK6.out)
      clear hb
      repeat ((fail_if_success (refine wpList_laid rfl 28 rfl (plc ⟨0, 0, 0, 0⟩) (zeroVP _) ?_)); go_step)
      refine wpList_laid rfl 28 rfl (plc ⟨0, 0, 0, 0⟩) (zeroVP _) ?_
      try simp only [Act.put, List.setIfInBounds_toArray, List.set_cons_zero, List.set_cons_succ]
      obtain ⟨b7, hb7⟩ : ∃ b, b = x3.heap.size := ⟨_, rfl⟩
      obtain ⟨v7, hv7⟩ : ∃ z, z = x3.alloc (.cells (plc ⟨0, 0, 0, 0⟩).toArray 28) := ⟨_, rfl⟩
      have HZ7 : Hid (v7.heap[b7]? = some (.cells (plc ⟨0, 0, 0, 0⟩).toArray 28 (0, 0))) := Lib.hid (by rw [hv7, hb7]; exact heap_new _ _)
      have B7 : Hid (Below x3.heap.size x3 v7) := Lib.hid (by rw [hv7]; exact (Below.refl _ _).alloc (Nat.le_refl _) _)
      have HE7 : Hid (b7 = x3.heap.size) := Lib.hid hb7
      rw [← hv7, ← hb7]
      clear hv7 hb7
      refine wpList_store_segK rfl 28 (.tmp 7) (.tmp 84) rfl b7 0 rfl (plc q) rfl (plc ⟨0, 0, 0, 0⟩) 28 HZ7.out sizePl (by simp [plc]) (by intro u hu; simp [plc] at hu; rcases hu with rfl | rfl | rfl | rfl <;> rfl) rfl ?_
      intro y7 h5 k5 s5
      rw [splice_whole _ _ (by simp [plc])] at h5
      have H7 := Lib.hid h5
      have BB7 : Hid (Below x3.heap.size x3 y7) := Lib.hid (B7.out.trans (k5.below (fun z hz => by rw [hz, HE7.out]; exact Nat.le_refl _) B7.out.size))
      have HT := Lib.hid (HT.out.below BB7.out)
      have HK6 := Lib.hid ((BB7.out.block b6 (heap_lt HK6.out)).trans HK6.out)
      clear h5 k5 s5 HZ7 B7 HE7 BB7
      go_upto_region 23 with fail
      go_wp2_with (refine wpList_load_midG rfl 26 (.tmp 88) rfl b6 1 rfl (u8l D.k) _ (HKR.out _ HK6.out) Try.underlying26 rfl HKL.out ?_)
      refine (two_rget D.k HK.out HT.out (by have := HR'.out; omega)).mono ?_
      rintro e x4 ⟨rfl, hb⟩
      dsimp only
      rw [← HQ.out, ← HIS.out]
      have HT := Lib.hid (HT.out.below hb)
      have HK6 := Lib.hid ((hb.block b6 (heap_lt HK6.out)).trans HK6.out)
      have H7 := Lib.hid ((hb.block b7 (heap_lt H7.out)).trans H7.out)
      clear hb
      repeat ((fail_if_success (refine wpList_laid rfl 28 rfl (plc ⟨0, 0, 0, 0⟩) (zeroVP _) ?_)); go_step)
      refine wpList_laid rfl 28 rfl (plc ⟨0, 0, 0, 0⟩) (zeroVP _) ?_
      try simp only [Act.put, List.setIfInBounds_toArray, List.set_cons_zero, List.set_cons_succ]
      obtain ⟨b9, hb9⟩ : ∃ b, b = x4.heap.size := ⟨_, rfl⟩
      obtain ⟨v9, hv9⟩ : ∃ z, z = x4.alloc (.cells (plc ⟨0, 0, 0, 0⟩).toArray 28) := ⟨_, rfl⟩
      have HZ9 : Hid (v9.heap[b9]? = some (.cells (plc ⟨0, 0, 0, 0⟩).toArray 28 (0, 0))) := Lib.hid (by rw [hv9, hb9]; exact heap_new _ _)
      have B9 : Hid (Below x4.heap.size x4 v9) := Lib.hid (by rw [hv9]; exact (Below.refl _ _).alloc (Nat.le_refl _) _)
      have HE9 : Hid (b9 = x4.heap.size) := Lib.hid hb9
      rw [← hv9, ← hb9]
      clear hv9 hb9
      refine wpList_store_segK rfl 28 (.tmp 9) (.tmp 91) rfl b9 0 rfl (plc q) rfl (plc ⟨0, 0, 0, 0⟩) 28 HZ9.out sizePl (by simp [plc]) (by intro u hu; simp [plc] at hu; rcases hu with rfl | rfl | rfl | rfl <;> rfl) rfl ?_
      intro y9 h5 k5 s5
      rw [splice_whole _ _ (by simp [plc])] at h5
      have H9 := Lib.hid h5
      have BB9 : Hid (Below x4.heap.size x4 y9) := Lib.hid (B9.out.trans (k5.below (fun z hz => by rw [hz, HE9.out]; exact Nat.le_refl _) B9.out.size))
      have HT := Lib.hid (HT.out.below BB9.out)
      have HK6 := Lib.hid ((BB9.out.block b6 (heap_lt HK6.out)).trans HK6.out)
      have H7 := Lib.hid ((BB9.out.block b7 (heap_lt H7.out)).trans H7.out)
      clear h5 k5 s5 HZ9 B9 HE9 BB9
      obtain ⟨vv, hvv⟩ := HT.out.rx
      obtain ⟨A2, c2, rfl⟩ := row_shapeS hvv.row
      have HX := Lib.hid hvv
      clear hvv
      go_wp2_with fail
      have HS : Hid (∀ V, Below y9.heap.size y9 V → (fun w' : World => w'.rangeAt b7 0 (plc q) ∧ w'.rangeAt b9 0 (plc q) ∧ w'.cell? ⟨p2, 0, none⟩ = some (.slice A2 R'.length c2)) V) := Lib.hid fun V h => ⟨range_of ((h.block b7 (heap_lt H7.out)).trans H7.out), range_of ((h.block b9 (heap_lt H9.out)).trans H9.out), (HX.out.below h).at0⟩
      have HB0 : Hid (Below y9.heap.size y9 y9.drew) := Lib.hid (below_drewN (Below.refl _ _) 1)
      refine wp_region_held_drew (S := (fun w' : World => w'.rangeAt b7 0 (plc q) ∧ w'.rangeAt b9 0 (plc q) ∧ w'.cell? ⟨p2, 0, none⟩ = some (.slice A2 R'.length c2))) follows (HS.out _ HB0.out) (fun hHeld => ?_)
      refine wpAnyH_take (i := 0) (v := _) (by simp only [List.getElem?_toArray, List.getElem?_cons_zero]; rfl) (by kernel_rfl) (by kernel_rfl) (by kernel_rfl) (by intro _ _ _ h; exact h) (yieldsIf_load_mid (by rfl) 28 (.tmp 7) rfl b7 0 rfl (plc q) _ (fun _ h => h.1) Try.underlying28 rfl sizePl) hHeld ?_
      try simp only [Act.put, List.setIfInBounds_toArray, List.set_cons_zero, List.set_cons_succ]
      refine wpAnyH_take (i := 1) (v := _) (by simp only [List.getElem?_toArray, List.getElem?_cons_zero, List.getElem?_cons_succ]; rfl) (by kernel_rfl) (by kernel_rfl) (by kernel_rfl) (by intro _ _ _ h; exact h) (yieldsIf_load_mid (by rfl) 28 (.tmp 9) rfl b9 0 rfl (plc q) _ (fun _ h => h.2.1) Try.underlying28 rfl sizePl) hHeld ?_
      try simp only [Act.put, List.setIfInBounds_toArray, List.set_cons_zero, List.set_cons_succ]
      refine wpAnyH_take (i := 2) (v := _) (by simp only [List.getElem?_toArray, List.getElem?_cons_zero, List.getElem?_cons_succ]; rfl) (by kernel_rfl) (by kernel_rfl) (by kernel_rfl) (by intro _ _ _ h; exact h) (yields_neq (by rfl) 28 (.tmp 93) (.tmp 94) rfl _ _ rfl rfl true eqgPl (fun u => eqrPl q HQM.out u)) hHeld ?_
      try simp only [Act.put, List.setIfInBounds_toArray, List.set_cons_zero, List.set_cons_succ]
      refine wpAnyH_take (i := 3) (v := ?_) (by simp only [List.getElem?_toArray, List.getElem?_cons_zero, List.getElem?_cons_succ]; rfl) (by kernel_rfl) (by kernel_rfl) (by kernel_rfl) (by intro _ _ _ h; exact h) (Or.inl ⟨by rfl, ?_⟩) hHeld ?_
      rotate_left
      · (intro w hSw; (try dsimp only at hSw); go_simp; try with_reducible rfl)
      try simp only [Act.put, List.setIfInBounds_toArray, List.set_cons_zero, List.set_cons_succ]
      refine wpAnyH_take (i := 4) (v := ?_) (by simp only [List.getElem?_toArray, List.getElem?_cons_zero, List.getElem?_cons_succ]; rfl) (by kernel_rfl) (by kernel_rfl) (by kernel_rfl) (by intro _ _ _ h; exact h) (Or.inl ⟨by rfl, ?_⟩) hHeld ?_
      rotate_left
      · (intro w hSw; (try dsimp only at hSw); go_simp; try with_reducible rfl)
      try simp only [Act.put, List.setIfInBounds_toArray, List.set_cons_zero, List.set_cons_succ]
      refine wpAnyH_take (i := 5) (v := ?_) (by simp only [List.getElem?_toArray, List.getElem?_cons_zero, List.getElem?_cons_succ]; rfl) (by kernel_rfl) (by kernel_rfl) (by kernel_rfl) (by intro _ _ _ h; exact h) (Or.inl ⟨by rfl, ?_⟩) hHeld ?_
      rotate_left
      · (intro w hSw; (try dsimp only at hSw); go_simp; try with_reducible rfl)
      try simp only [Act.put, List.setIfInBounds_toArray, List.set_cons_zero, List.set_cons_succ]
      refine wpAnyH_take (i := 6) (v := ?_) (by simp only [List.getElem?_toArray, List.getElem?_cons_zero, List.getElem?_cons_succ]; rfl) (by kernel_rfl) (by kernel_rfl) (by kernel_rfl) (by intro _ _ _ h; exact h) (Or.inl ⟨by rfl, ?_⟩) hHeld ?_
      rotate_left
      · (intro w hSw; (try dsimp only at hSw); go_simp; try with_reducible rfl)
      try simp only [Act.put, List.setIfInBounds_toArray, List.set_cons_zero, List.set_cons_succ]
      refine wpAnyH_take (i := 7) (v := ?_) (by simp only [List.getElem?_toArray, List.getElem?_cons_zero, List.getElem?_cons_succ]; rfl) (by kernel_rfl) (by kernel_rfl) (by kernel_rfl) (by intro _ _ _ h; exact h) (Or.inl ⟨by rfl, ?_⟩) hHeld ?_
      rotate_left
      · (intro w hSw; (try dsimp only at hSw); go_simp; try with_reducible rfl)
      try simp only [Act.put, List.setIfInBounds_toArray, List.set_cons_zero, List.set_cons_succ]
      refine wpAnyH_take (i := 8) (v := ?_) (by simp only [List.getElem?_toArray, List.getElem?_cons_zero, List.getElem?_cons_succ]; rfl) (by kernel_rfl) (by kernel_rfl) (by kernel_rfl) (by intro _ _ _ h; exact h) (Or.inl ⟨by rfl, ?_⟩) hHeld ?_
      rotate_left
      · (intro w hSw; (try dsimp only at hSw); go_simp; try with_reducible rfl)
      try simp only [Act.put, List.setIfInBounds_toArray, List.set_cons_zero, List.set_cons_succ]
      refine wpAnyH_take (i := 9) (v := ?_) (by simp only [List.getElem?_toArray, List.getElem?_cons_zero, List.getElem?_cons_succ]; rfl) (by kernel_rfl) (by kernel_rfl) (by kernel_rfl) (by intro _ _ _ h; exact h) (Or.inl ⟨by rfl, ?_⟩) hHeld ?_
      rotate_left
      · (intro w hSw; (try dsimp only at hSw); go_simp; try with_reducible rfl)
      try simp only [Act.put, List.setIfInBounds_toArray, List.set_cons_zero, List.set_cons_succ]
      refine wpAnyH_take (i := 11) (v := ?_) (by simp only [List.getElem?_toArray, List.getElem?_cons_zero, List.getElem?_cons_succ]; rfl) (by kernel_rfl) (by kernel_rfl) (by kernel_rfl) (by intro _ _ _ h; exact h) (Or.inl ⟨by rfl, ?_⟩) hHeld ?_
      rotate_left
      · (intro w hSw; (try dsimp only at hSw); go_simp; try with_reducible rfl)
      try simp only [Act.put, List.setIfInBounds_toArray, List.set_cons_zero, List.set_cons_succ]
      refine wpAnyH_take (i := 12) (v := ?_) (by simp only [List.getElem?_toArray, List.getElem?_cons_zero, List.getElem?_cons_succ]; rfl) (by kernel_rfl) (by kernel_rfl) (by kernel_rfl) (by intro _ _ _ h; exact h) (Or.inl ⟨by rfl, ?_⟩) hHeld ?_
      rotate_left
      · (intro w hSw; (try dsimp only at hSw); go_simp; try with_reducible rfl)
      try simp only [Act.put, List.setIfInBounds_toArray, List.set_cons_zero, List.set_cons_succ]
      refine wpAnyH_take (i := 13) (v := ?_) (by simp only [List.getElem?_toArray, List.getElem?_cons_zero, List.getElem?_cons_succ]; rfl) (by kernel_rfl) (by kernel_rfl) (by kernel_rfl) (by intro _ _ _ h; exact h) (Or.inl ⟨by rfl, ?_⟩) hHeld ?_
      rotate_left
      · (intro w hSw; (try dsimp only at hSw); go_simp; try with_reducible rfl)
      try simp only [Act.put, List.setIfInBounds_toArray, List.set_cons_zero, List.set_cons_succ]
      refine wpAnyH_take (i := 14) (v := ?_) (by simp only [List.getElem?_toArray, List.getElem?_cons_zero, List.getElem?_cons_succ]; rfl) (by kernel_rfl) (by kernel_rfl) (by kernel_rfl) (by intro _ _ _ h; exact h) (Or.inl ⟨by rfl, ?_⟩) hHeld ?_
      rotate_left
      · (intro w hSw; (try dsimp only at hSw); go_simp; try with_reducible rfl)
      try simp only [Act.put, List.setIfInBounds_toArray, List.set_cons_zero, List.set_cons_succ]
      refine wpAnyH_take (i := 15) (v := ?_) (by simp only [List.getElem?_toArray, List.getElem?_cons_zero, List.getElem?_cons_succ]; rfl) (by kernel_rfl) (by kernel_rfl) (by kernel_rfl) (by intro _ _ _ h; exact h) (Or.inl ⟨by rfl, ?_⟩) hHeld ?_
      rotate_left
      · (intro w hSw; (try dsimp only at hSw); go_simp; try with_reducible rfl)
      try simp only [Act.put, List.setIfInBounds_toArray, List.set_cons_zero, List.set_cons_succ]
      refine wpAnyH_ready (rs := [10]) (by kernel_rfl) (by simp) ?_
      refine AllReadyH.cons (by simp only [List.getElem?_toArray, List.getElem?_cons_zero, List.getElem?_cons_succ]; rfl) (fun K hK => ?_) AllReadyH.nil
      rw [if_pos (by rfl)]
      go_simp
      refine (len12 p B R' _ (HT.out.below HB0.out).ix).mono ?_
      rintro e _ ⟨rfl, rfl⟩
      refine hK.out _ _ (HS.out _ HB0.out) (fun hHeld => ?_)
      clear hK K
      try simp only [Act.put, List.setIfInBounds_toArray, List.set_cons_zero, List.set_cons_succ]
      refine wpAnyH_take (i := 16) (v := ?_) (by simp only [List.getElem?_toArray, List.getElem?_cons_zero, List.getElem?_cons_succ]; rfl) (by kernel_rfl) (by kernel_rfl) (by kernel_rfl) (by intro _ _ _ h; exact h) (Or.inl ⟨by rfl, ?_⟩) hHeld ?_
      rotate_left
      · (intro w hSw; (try dsimp only at hSw); go_simp; try with_reducible rfl)
      try simp only [Act.put, List.setIfInBounds_toArray, List.set_cons_zero, List.set_cons_succ]
      refine wpAnyH_take (i := 17) (v := ?_) (by simp only [List.getElem?_toArray, List.getElem?_cons_zero, List.getElem?_cons_succ]; rfl) (by kernel_rfl) (by kernel_rfl) (by kernel_rfl) (by intro _ _ _ h; exact h) (Or.inl ⟨by rfl, ?_⟩) hHeld ?_
      rotate_left
      · (intro w hSw; (try dsimp only at hSw); go_simp; try with_reducible rfl)
      try simp only [Act.put, List.setIfInBounds_toArray, List.set_cons_zero, List.set_cons_succ]
      refine wpAnyH_take (i := 18) (v := ?_) (by simp only [List.getElem?_toArray, List.getElem?_cons_zero, List.getElem?_cons_succ]; rfl) (by kernel_rfl) (by kernel_rfl) (by kernel_rfl) (by intro _ _ _ h; exact h) (Or.inl ⟨by rfl, ?_⟩) hHeld ?_
      rotate_left
      · (intro w hSw; (try dsimp only at hSw); go_simp; try with_reducible rfl)
      try simp only [Act.put, List.setIfInBounds_toArray, List.set_cons_zero, List.set_cons_succ]
      refine wpAnyH_take (i := 19) (v := ?_) (by simp only [List.getElem?_toArray, List.getElem?_cons_zero, List.getElem?_cons_succ]; rfl) (by kernel_rfl) (by kernel_rfl) (by kernel_rfl) (by intro _ _ _ h; exact h) (Or.inl ⟨by rfl, ?_⟩) hHeld ?_
      rotate_left
      · (intro w hSw; (try dsimp only at hSw); go_simp; try with_reducible rfl)
      try simp only [Act.put, List.setIfInBounds_toArray, List.set_cons_zero, List.set_cons_succ]
      refine wpAnyH_take (i := 21) (v := ?_) (by simp only [List.getElem?_toArray, List.getElem?_cons_zero, List.getElem?_cons_succ]; rfl) (by kernel_rfl) (by kernel_rfl) (by kernel_rfl) (by intro _ _ _ h; exact h) (Or.inl ⟨by rfl, ?_⟩) hHeld ?_
      rotate_left
      · (intro w hSw; (try dsimp only at hSw); go_simp; try with_reducible rfl)
      try simp only [Act.put, List.setIfInBounds_toArray, List.set_cons_zero, List.set_cons_succ]
      refine wpAnyH_take (i := 22) (v := ?_) (by simp only [List.getElem?_toArray, List.getElem?_cons_zero, List.getElem?_cons_succ]; rfl) (by kernel_rfl) (by kernel_rfl) (by kernel_rfl) (by intro _ _ _ h; exact h) (Or.inl ⟨by rfl, ?_⟩) hHeld ?_
      rotate_left
      · (intro w hSw; (try dsimp only at hSw); go_simp; try with_reducible rfl)
      try simp only [Act.put, List.setIfInBounds_toArray, List.set_cons_zero, List.set_cons_succ]
      refine wpAnyH_take (i := 23) (v := ?_) (by simp only [List.getElem?_toArray, List.getElem?_cons_zero, List.getElem?_cons_succ]; rfl) (by kernel_rfl) (by kernel_rfl) (by kernel_rfl) (by intro _ _ _ h; exact h) (Or.inl ⟨by rfl, ?_⟩) hHeld ?_
      rotate_left
      · (intro w hSw; (try dsimp only at hSw); go_simp; try with_reducible rfl)
      try simp only [Act.put, List.setIfInBounds_toArray, List.set_cons_zero, List.set_cons_succ]
      refine wpAnyH_take (i := 24) (v := ?_) (by simp only [List.getElem?_toArray, List.getElem?_cons_zero, List.getElem?_cons_succ]; rfl) (by kernel_rfl) (by kernel_rfl) (by kernel_rfl) (by intro _ _ _ h; exact h) (Or.inl ⟨by rfl, ?_⟩) hHeld ?_
      rotate_left
      · (intro w hSw; (try dsimp only at hSw); go_simp; try with_reducible rfl)
      try simp only [Act.put, List.setIfInBounds_toArray, List.set_cons_zero, List.set_cons_succ]
      refine wpAnyH_ready (rs := [20]) (by kernel_rfl) (by simp) ?_
      refine AllReadyH.cons (by simp only [List.getElem?_toArray, List.getElem?_cons_zero, List.getElem?_cons_succ]; rfl) (fun K hK => ?_) AllReadyH.nil
      rw [if_pos (by rfl)]
      go_simp
      refine (items11 p B R' _ (HT.out.below HB0.out).ix (by have := HR'.out; omega)).mono ?_
      rintro e x5 ⟨⟨v5, rfl, ho5⟩, hb⟩
      have HB1 := Lib.hid (HB0.out.trans (hb.mono HB0.out.size))
      clear hb
      obtain ⟨A5, c5, rfl, hs5, _, _, _⟩ := srow_arr (wideE _) ho5
      have HS5 := Lib.hid hs5
      clear ho5 hs5
      refine hK.out _ _ (HS.out _ HB1.out) (fun hHeld => ?_)
      clear hK K
      try simp only [Act.put, List.setIfInBounds_toArray, List.set_cons_zero, List.set_cons_succ]
      refine wpAnyH_ready (rs := [25]) (by kernel_rfl) (by simp) ?_
      refine AllReadyH.cons (by simp only [List.getElem?_toArray, List.getElem?_cons_zero, List.getElem?_cons_succ]; rfl) (fun K hK => ?_) AllReadyH.nil
      rw [if_pos (by rfl)]
      go_simp
      refine (sameIt (fun i => itE R'[i]!) A5 A2 R'.length c5 c2 _ _ x5 (by have := HR'.out; omega) HS5.out (HX.out.below HB1.out).sarr).mono ?_
      rintro e _ ⟨rfl, m, rfl⟩
      have HB2 : Hid (Below y9.heap.size y9 (x5.drewN m)) := Lib.hid (below_drewN HB1.out m)
      refine hK.out _ _ (HS.out _ HB2.out) (fun hHeld => ?_)
      clear hK K
      try simp only [Act.put, List.setIfInBounds_toArray, List.set_cons_zero, List.set_cons_succ]
      refine wpAnyH_take (i := 26) (v := ?_) (by simp only [List.getElem?_toArray, List.getElem?_cons_zero, List.getElem?_cons_succ]; rfl) (by kernel_rfl) (by kernel_rfl) (by kernel_rfl) (by intro _ _ _ h; exact h) (Or.inl ⟨by rfl, ?_⟩) hHeld ?_
      rotate_left
      · (intro w hSw; (try dsimp only at hSw); go_simp; try with_reducible rfl)
      try simp only [Act.put, List.setIfInBounds_toArray, List.set_cons_zero, List.set_cons_succ]
      refine wpAnyH_take (i := 27) (v := ?_) (by simp only [List.getElem?_toArray, List.getElem?_cons_zero, List.getElem?_cons_succ]; rfl) (by kernel_rfl) (by kernel_rfl) (by kernel_rfl) (by intro _ _ _ h; exact h) (Or.inl ⟨by rfl, ?_⟩) hHeld ?_
      rotate_left
      · (intro w hSw; (try dsimp only at hSw); go_simp; try with_reducible rfl)
      try simp only [Act.put, List.setIfInBounds_toArray, List.set_cons_zero, List.set_cons_succ]
      refine wpAnyH_done (by kernel_rfl) ?_ _
      clear hHeld
      have HT := Lib.hid (HT.out.below HB2.out)
      go_wp2_with fail
      exact ⟨⟨j + 1, R', by omega, by push_cast; rfl, by have := HR'.out; omega, HT.out⟩, by simp [intOf]; omega⟩
    · go_wp2_with fail
      refine wp_region_held_drew (S := (fun w' : World => w'.cell? ⟨b6, 0, none⟩ = some (.int .i64 D.kd) ∧ w'.rangeAt b6 1 (u8l D.k) ∧ w'.rangeAt b6 33 [.int .i64 D.q.a, .int .i64 D.q.n, .int .i64 D.q.u, .int .i64 D.q.r] ∧ w'.cell? ⟨b6, 37, none⟩ = some (.int .i64 D.x))) follows (HS.out _ (Keeps.drew _ _)) (fun hHeld => ?_)
      refine wpAnyH_take (i := 0) (v := ?_) (by simp only [List.getElem?_toArray, List.getElem?_cons_zero]; rfl) (by kernel_rfl) (by kernel_rfl) (by kernel_rfl) (by intro _ _ _ h; exact h) (Or.inl ⟨by rfl, ?_⟩) hHeld ?_
      rotate_left
      · (intro w hSw; (try dsimp only at hSw); go_simp; try with_reducible rfl)
      try simp only [Act.put, List.setIfInBounds_toArray, List.set_cons_zero, List.set_cons_succ]
      refine wpAnyH_take (i := 1) (v := ?_) (by simp only [List.getElem?_toArray, List.getElem?_cons_zero, List.getElem?_cons_succ]; rfl) (by kernel_rfl) (by kernel_rfl) (by kernel_rfl) (by intro _ _ _ h; exact h) (Or.inl ⟨by rfl, ?_⟩) hHeld ?_
      rotate_left
      · (intro w hSw; (try dsimp only at hSw); go_simp; try with_reducible rfl)
      try simp only [Act.put, List.setIfInBounds_toArray, List.set_cons_zero, List.set_cons_succ]
      refine wpAnyH_take (i := 2) (v := _) (by simp only [List.getElem?_toArray, List.getElem?_cons_zero, List.getElem?_cons_succ]; rfl) (by kernel_rfl) (by kernel_rfl) (by kernel_rfl) (by intro _ _ _ h; exact h) (yieldsIf_load_mid (by rfl) 26 (.tmp 67) rfl b6 1 rfl (u8l D.k) _ (fun _ h => h.2.1) Try.underlying26 rfl HKL.out) hHeld ?_
      try simp only [Act.put, List.setIfInBounds_toArray, List.set_cons_zero, List.set_cons_succ]
      refine wpAnyH_take (i := 3) (v := ?_) (by simp only [List.getElem?_toArray, List.getElem?_cons_zero, List.getElem?_cons_succ]; rfl) (by kernel_rfl) (by kernel_rfl) (by kernel_rfl) (by intro _ _ _ h; exact h) (Or.inl ⟨by rfl, ?_⟩) hHeld ?_
      rotate_left
      · (intro w hSw; (try dsimp only at hSw); go_simp; try with_reducible rfl)
      try simp only [Act.put, List.setIfInBounds_toArray, List.set_cons_zero, List.set_cons_succ]
      refine wpAnyH_take (i := 4) (v := ?_) (by simp only [List.getElem?_toArray, List.getElem?_cons_zero, List.getElem?_cons_succ]; rfl) (by kernel_rfl) (by kernel_rfl) (by kernel_rfl) (by intro _ _ _ h; exact h) (Or.inl ⟨by rfl, ?_⟩) hHeld ?_
      rotate_left
      · (intro w hSw; (try dsimp only at hSw); go_simp; try with_reducible rfl)
      try simp only [Act.put, List.setIfInBounds_toArray, List.set_cons_zero, List.set_cons_succ]
      refine wpAnyH_take (i := 6) (v := ?_) (by simp only [List.getElem?_toArray, List.getElem?_cons_zero, List.getElem?_cons_succ]; rfl) (by kernel_rfl) (by kernel_rfl) (by kernel_rfl) (by intro _ _ _ h; exact h) (Or.inl ⟨by rfl, ?_⟩) hHeld ?_
      rotate_left
      · (intro w hSw; (try dsimp only at hSw); go_simp; try with_reducible rfl)
      try simp only [Act.put, List.setIfInBounds_toArray, List.set_cons_zero, List.set_cons_succ]
      refine wpAnyH_take (i := 7) (v := ?_) (by simp only [List.getElem?_toArray, List.getElem?_cons_zero, List.getElem?_cons_succ]; rfl) (by kernel_rfl) (by kernel_rfl) (by kernel_rfl) (by intro _ _ _ h; exact h) (Or.inl ⟨by rfl, ?_⟩) hHeld ?_
      rotate_left
      · (intro w hSw; (try dsimp only at hSw); go_simp; try with_reducible rfl)
      try simp only [Act.put, List.setIfInBounds_toArray, List.set_cons_zero, List.set_cons_succ]
      refine wpAnyH_take (i := 8) (v := _) (by simp only [List.getElem?_toArray, List.getElem?_cons_zero, List.getElem?_cons_succ]; rfl) (by kernel_rfl) (by kernel_rfl) (by kernel_rfl) (by intro _ _ _ h; exact h) (yieldsIf_load_mid (by rfl) 26 (.tmp 73) rfl b6 1 rfl (u8l D.k) _ (fun _ h => h.2.1) Try.underlying26 rfl HKL.out) hHeld ?_
      try simp only [Act.put, List.setIfInBounds_toArray, List.set_cons_zero, List.set_cons_succ]
      refine wpAnyH_take (i := 9) (v := ?_) (by simp only [List.getElem?_toArray, List.getElem?_cons_zero, List.getElem?_cons_succ]; rfl) (by kernel_rfl) (by kernel_rfl) (by kernel_rfl) (by intro _ _ _ h; exact h) (Or.inl ⟨by rfl, ?_⟩) hHeld ?_
      rotate_left
      · (intro w hSw; (try dsimp only at hSw); go_simp; try with_reducible rfl)
      try simp only [Act.put, List.setIfInBounds_toArray, List.set_cons_zero, List.set_cons_succ]
      refine wpAnyH_take (i := 10) (v := ?_) (by simp only [List.getElem?_toArray, List.getElem?_cons_zero, List.getElem?_cons_succ]; rfl) (by kernel_rfl) (by kernel_rfl) (by kernel_rfl) (by intro _ _ _ h; exact h) (Or.inl ⟨by rfl, ?_⟩) hHeld ?_
      rotate_left
      · (intro w hSw; (try dsimp only at hSw); go_simp; try with_reducible rfl)
      try simp only [Act.put, List.setIfInBounds_toArray, List.set_cons_zero, List.set_cons_succ]
      refine wpAnyH_ready (rs := [5]) (by kernel_rfl) (by simp) ?_
      refine AllReadyH.cons (by simp only [List.getElem?_toArray, List.getElem?_cons_zero, List.getElem?_cons_succ]; rfl) (fun K hK => ?_) AllReadyH.nil
      rw [if_pos (by rfl)]
      go_simp
      refine (two_want D.k D.x HK.out (i64_bd HXB.out) (HT.out.below (below_drewN (Below.refl _ _) 1)) (by have := HR.out; omega)).mono ?_
      rintro e x1 ⟨rfl, ho⟩
      have H1 := Lib.hid ho
      clear ho
      have K1 : Hid (Keeps (fun z => z = B ∨ z = p2) w5 x1) := Lib.hid ((Keeps.drew _ w5).trans H1.out.2 (fun _ _ h => .inl h))
      refine hK.out _ _ (HS.out _ K1.out) (fun hHeld => ?_)
      clear hK K
      try simp only [Act.put, List.setIfInBounds_toArray, List.set_cons_zero, List.set_cons_succ]
      refine wpAnyH_ready (rs := [11]) (by kernel_rfl) (by simp) ?_
      refine AllReadyH.cons (by simp only [List.getElem?_toArray, List.getElem?_cons_zero, List.getElem?_cons_succ]; rfl) (fun K hK => ?_) AllReadyH.nil
      rw [if_pos (by rfl)]
      go_simp
      refine (two_rwant D.k D.x HK.out (i64_bd HXB.out) H1.out.1 (by have := HR.out; omega)).mono ?_
      rintro e x2 ⟨rfl, ho⟩
      have H2 := Lib.hid ho
      clear ho
      have K2 : Hid (Keeps (fun z => z = B ∨ z = p2) w5 x2) := Lib.hid (K1.out.trans H2.out.2 (fun _ _ h => .inr h))
      refine hK.out _ _ (HS.out _ K2.out) (fun hHeld => ?_)
      clear hK K
      try simp only [Act.put, List.setIfInBounds_toArray, List.set_cons_zero, List.set_cons_succ]
      refine wpAnyH_take (i := 12) (v := ?_) (by simp only [List.getElem?_toArray, List.getElem?_cons_zero, List.getElem?_cons_succ]; rfl) (by kernel_rfl) (by kernel_rfl) (by kernel_rfl) (by intro _ _ _ h; exact h) (Or.inl ⟨by rfl, ?_⟩) hHeld ?_
      rotate_left
      · (intro w hSw; (try dsimp only at hSw); go_simp; try with_reducible rfl)
      try simp only [Act.put, List.setIfInBounds_toArray, List.set_cons_zero, List.set_cons_succ]
      refine wpAnyH_done (by kernel_rfl) ?_ _
      clear hHeld
      obtain ⟨R', hR', hT', hK'⟩ : ∃ R', R'.length ≤ j + 1 ∧ Two W.heap.size W x2 p B base p2 R' R' ∧ Keeps (fun z => z = B ∨ z = p2) w5 x2 := ⟨wantR R D.k D.x, by have := HR.out; have := want_len R D.k D.x; omega, H2.out.1, K2.out⟩
      clear K1 K2 H1 H2
      have HT := Lib.hid hT'
      have HR' := Lib.hid hR'
      obtain ⟨hs0, hs1, hs2, hs3⟩ := HS.out _ hK'
      have HK6 : Hid (x2.heap[b6]? = some (.cells D.cells.toArray 30 (0, 0))) := Lib.hid (hK'.heap HD6.out (fun e => by rcases e with e | e; exact HN6.out.1 e; exact HN6.out.2 e))
      clear hT' hR' hK' hs0 hs1 hs2 hs3 HR HT0
      obtain ⟨q, hq⟩ : ∃ q, q = (lookR D.k R').getD ⟨0, 0, 0, 0⟩ := ⟨_, rfl⟩
      obtain ⟨is, his⟩ : ∃ z, z = (lookR D.k R').isSome := ⟨_, rfl⟩
      have HQ := Lib.hid hq
      have HIS := Lib.hid his
      have HQM : Hid (mayB q = true ∨ q = ⟨0, 0, 0, 0⟩) := Lib.hid (by rw [hq]; exact get_may)
      clear hq his
      have HKR : Hid (∀ V : World, V.heap[b6]? = some (.cells D.cells.toArray 30 (0, 0)) → V.rangeAt b6 1 (u8l D.k)) := Lib.hid fun V h => by
        have := (deed_at HK.out (range_of h)).2.1
        rwa [Nat.zero_add] at this
      go_upto_region 22 with fail
      go_wp2_with (refine wpList_load_midG rfl 26 (.tmp 81) rfl b6 1 rfl (u8l D.k) _ (HKR.out _ HK6.out) Try.underlying26 rfl HKL.out ?_)
      refine (two_get D.k HK.out HT.out (by have := HR'.out; omega)).mono ?_
      rintro e x3 ⟨rfl, hb⟩
      dsimp only
      rw [← HQ.out, ← HIS.out]
      have HT := Lib.hid (HT.out.below hb)
      have HK6 := Lib.hid ((hb.block b6 (heap_lt HK6.out)).trans HK6.out)
      clear hb
      repeat ((fail_if_success (refine wpList_laid rfl 28 rfl (plc ⟨0, 0, 0, 0⟩) (zeroVP _) ?_)); go_step)
      refine wpList_laid rfl 28 rfl (plc ⟨0, 0, 0, 0⟩) (zeroVP _) ?_
      try simp only [Act.put, List.setIfInBounds_toArray, List.set_cons_zero, List.set_cons_succ]
      obtain ⟨b7, hb7⟩ : ∃ b, b = x3.heap.size := ⟨_, rfl⟩
      obtain ⟨v7, hv7⟩ : ∃ z, z = x3.alloc (.cells (plc ⟨0, 0, 0, 0⟩).toArray 28) := ⟨_, rfl⟩
      have HZ7 : Hid (v7.heap[b7]? = some (.cells (plc ⟨0, 0, 0, 0⟩).toArray 28 (0, 0))) := Lib.hid (by rw [hv7, hb7]; exact heap_new _ _)
      have B7 : Hid (Below x3.heap.size x3 v7) := Lib.hid (by rw [hv7]; exact (Below.refl _ _).alloc (Nat.le_refl _) _)
      have HE7 : Hid (b7 = x3.heap.size) := Lib.hid hb7
      rw [← hv7, ← hb7]
      clear hv7 hb7
      refine wpList_store_segK rfl 28 (.tmp 7) (.tmp 84) rfl b7 0 rfl (plc q) rfl (plc ⟨0, 0, 0, 0⟩) 28 HZ7.out sizePl (by simp [plc]) (by intro u hu; simp [plc] at hu; rcases hu with rfl | rfl | rfl | rfl <;> rfl) rfl ?_
      intro y7 h5 k5 s5
      rw [splice_whole _ _ (by simp [plc])] at h5
      have H7 := Lib.hid h5
      have BB7 : Hid (Below x3.heap.size x3 y7) := Lib.hid (B7.out.trans (k5.below (fun z hz => by rw [hz, HE7.out]; exact Nat.le_refl _) B7.out.size))
      have HT := Lib.hid (HT.out.below BB7.out)
      have HK6 := Lib.hid ((BB7.out.block b6 (heap_lt HK6.out)).trans HK6.out)
      clear h5 k5 s5 HZ7 B7 HE7 BB7
      go_upto_region 23 with fail
      go_wp2_with (refine wpList_load_midG rfl 26 (.tmp 88) rfl b6 1 rfl (u8l D.k) _ (HKR.out _ HK6.out) Try.underlying26 rfl HKL.out ?_)
      refine (two_rget D.k HK.out HT.out (by have := HR'.out; omega)).mono ?_
      rintro e x4 ⟨rfl, hb⟩
      dsimp only
      rw [← HQ.out, ← HIS.out]
      have HT := Lib.hid (HT.out.below hb)
      have HK6 := Lib.hid ((hb.block b6 (heap_lt HK6.out)).trans HK6.out)
      have H7 := Lib.hid ((hb.block b7 (heap_lt H7.out)).trans H7.out)
      clear hb
      repeat ((fail_if_success (refine wpList_laid rfl 28 rfl (plc ⟨0, 0, 0, 0⟩) (zeroVP _) ?_)); go_step)
      refine wpList_laid rfl 28 rfl (plc ⟨0, 0, 0, 0⟩) (zeroVP _) ?_
      try simp only [Act.put, List.setIfInBounds_toArray, List.set_cons_zero, List.set_cons_succ]
      obtain ⟨b9, hb9⟩ : ∃ b, b = x4.heap.size := ⟨_, rfl⟩
      obtain ⟨v9, hv9⟩ : ∃ z, z = x4.alloc (.cells (plc ⟨0, 0, 0, 0⟩).toArray 28) := ⟨_, rfl⟩
      have HZ9 : Hid (v9.heap[b9]? = some (.cells (plc ⟨0, 0, 0, 0⟩).toArray 28 (0, 0))) := Lib.hid (by rw [hv9, hb9]; exact heap_new _ _)
      have B9 : Hid (Below x4.heap.size x4 v9) := Lib.hid (by rw [hv9]; exact (Below.refl _ _).alloc (Nat.le_refl _) _)
      have HE9 : Hid (b9 = x4.heap.size) := Lib.hid hb9
      rw [← hv9, ← hb9]
      clear hv9 hb9
      refine wpList_store_segK rfl 28 (.tmp 9) (.tmp 91) rfl b9 0 rfl (plc q) rfl (plc ⟨0, 0, 0, 0⟩) 28 HZ9.out sizePl (by simp [plc]) (by intro u hu; simp [plc] at hu; rcases hu with rfl | rfl | rfl | rfl <;> rfl) rfl ?_
      intro y9 h5 k5 s5
      rw [splice_whole _ _ (by simp [plc])] at h5
      have H9 := Lib.hid h5
      have BB9 : Hid (Below x4.heap.size x4 y9) := Lib.hid (B9.out.trans (k5.below (fun z hz => by rw [hz, HE9.out]; exact Nat.le_refl _) B9.out.size))
      have HT := Lib.hid (HT.out.below BB9.out)
      have HK6 := Lib.hid ((BB9.out.block b6 (heap_lt HK6.out)).trans HK6.out)
      have H7 := Lib.hid ((BB9.out.block b7 (heap_lt H7.out)).trans H7.out)
      clear h5 k5 s5 HZ9 B9 HE9 BB9
      obtain ⟨vv, hvv⟩ := HT.out.rx
      obtain ⟨A2, c2, rfl⟩ := row_shapeS hvv.row
      have HX := Lib.hid hvv
      clear hvv
      go_wp2_with fail
      have HS : Hid (∀ V, Below y9.heap.size y9 V → (fun w' : World => w'.rangeAt b7 0 (plc q) ∧ w'.rangeAt b9 0 (plc q) ∧ w'.cell? ⟨p2, 0, none⟩ = some (.slice A2 R'.length c2)) V) := Lib.hid fun V h => ⟨range_of ((h.block b7 (heap_lt H7.out)).trans H7.out), range_of ((h.block b9 (heap_lt H9.out)).trans H9.out), (HX.out.below h).at0⟩
      have HB0 : Hid (Below y9.heap.size y9 y9.drew) := Lib.hid (below_drewN (Below.refl _ _) 1)
      refine wp_region_held_drew (S := (fun w' : World => w'.rangeAt b7 0 (plc q) ∧ w'.rangeAt b9 0 (plc q) ∧ w'.cell? ⟨p2, 0, none⟩ = some (.slice A2 R'.length c2))) follows (HS.out _ HB0.out) (fun hHeld => ?_)
      refine wpAnyH_take (i := 0) (v := _) (by simp only [List.getElem?_toArray, List.getElem?_cons_zero]; rfl) (by kernel_rfl) (by kernel_rfl) (by kernel_rfl) (by intro _ _ _ h; exact h) (yieldsIf_load_mid (by rfl) 28 (.tmp 7) rfl b7 0 rfl (plc q) _ (fun _ h => h.1) Try.underlying28 rfl sizePl) hHeld ?_
      try simp only [Act.put, List.setIfInBounds_toArray, List.set_cons_zero, List.set_cons_succ]
      refine wpAnyH_take (i := 1) (v := _) (by simp only [List.getElem?_toArray, List.getElem?_cons_zero, List.getElem?_cons_succ]; rfl) (by kernel_rfl) (by kernel_rfl) (by kernel_rfl) (by intro _ _ _ h; exact h) (yieldsIf_load_mid (by rfl) 28 (.tmp 9) rfl b9 0 rfl (plc q) _ (fun _ h => h.2.1) Try.underlying28 rfl sizePl) hHeld ?_
      try simp only [Act.put, List.setIfInBounds_toArray, List.set_cons_zero, List.set_cons_succ]
      refine wpAnyH_take (i := 2) (v := _) (by simp only [List.getElem?_toArray, List.getElem?_cons_zero, List.getElem?_cons_succ]; rfl) (by kernel_rfl) (by kernel_rfl) (by kernel_rfl) (by intro _ _ _ h; exact h) (yields_neq (by rfl) 28 (.tmp 93) (.tmp 94) rfl _ _ rfl rfl true eqgPl (fun u => eqrPl q HQM.out u)) hHeld ?_
      try simp only [Act.put, List.setIfInBounds_toArray, List.set_cons_zero, List.set_cons_succ]
      refine wpAnyH_take (i := 3) (v := ?_) (by simp only [List.getElem?_toArray, List.getElem?_cons_zero, List.getElem?_cons_succ]; rfl) (by kernel_rfl) (by kernel_rfl) (by kernel_rfl) (by intro _ _ _ h; exact h) (Or.inl ⟨by rfl, ?_⟩) hHeld ?_
      rotate_left
      · (intro w hSw; (try dsimp only at hSw); go_simp; try with_reducible rfl)
      try simp only [Act.put, List.setIfInBounds_toArray, List.set_cons_zero, List.set_cons_succ]
      refine wpAnyH_take (i := 4) (v := ?_) (by simp only [List.getElem?_toArray, List.getElem?_cons_zero, List.getElem?_cons_succ]; rfl) (by kernel_rfl) (by kernel_rfl) (by kernel_rfl) (by intro _ _ _ h; exact h) (Or.inl ⟨by rfl, ?_⟩) hHeld ?_
      rotate_left
      · (intro w hSw; (try dsimp only at hSw); go_simp; try with_reducible rfl)
      try simp only [Act.put, List.setIfInBounds_toArray, List.set_cons_zero, List.set_cons_succ]
      refine wpAnyH_take (i := 5) (v := ?_) (by simp only [List.getElem?_toArray, List.getElem?_cons_zero, List.getElem?_cons_succ]; rfl) (by kernel_rfl) (by kernel_rfl) (by kernel_rfl) (by intro _ _ _ h; exact h) (Or.inl ⟨by rfl, ?_⟩) hHeld ?_
      rotate_left
      · (intro w hSw; (try dsimp only at hSw); go_simp; try with_reducible rfl)
      try simp only [Act.put, List.setIfInBounds_toArray, List.set_cons_zero, List.set_cons_succ]
      refine wpAnyH_take (i := 6) (v := ?_) (by simp only [List.getElem?_toArray, List.getElem?_cons_zero, List.getElem?_cons_succ]; rfl) (by kernel_rfl) (by kernel_rfl) (by kernel_rfl) (by intro _ _ _ h; exact h) (Or.inl ⟨by rfl, ?_⟩) hHeld ?_
      rotate_left
      · (intro w hSw; (try dsimp only at hSw); go_simp; try with_reducible rfl)
      try simp only [Act.put, List.setIfInBounds_toArray, List.set_cons_zero, List.set_cons_succ]
      refine wpAnyH_take (i := 7) (v := ?_) (by simp only [List.getElem?_toArray, List.getElem?_cons_zero, List.getElem?_cons_succ]; rfl) (by kernel_rfl) (by kernel_rfl) (by kernel_rfl) (by intro _ _ _ h; exact h) (Or.inl ⟨by rfl, ?_⟩) hHeld ?_
      rotate_left
      · (intro w hSw; (try dsimp only at hSw); go_simp; try with_reducible rfl)
      try simp only [Act.put, List.setIfInBounds_toArray, List.set_cons_zero, List.set_cons_succ]
      refine wpAnyH_take (i := 8) (v := ?_) (by simp only [List.getElem?_toArray, List.getElem?_cons_zero, List.getElem?_cons_succ]; rfl) (by kernel_rfl) (by kernel_rfl) (by kernel_rfl) (by intro _ _ _ h; exact h) (Or.inl ⟨by rfl, ?_⟩) hHeld ?_
      rotate_left
      · (intro w hSw; (try dsimp only at hSw); go_simp; try with_reducible rfl)
      try simp only [Act.put, List.setIfInBounds_toArray, List.set_cons_zero, List.set_cons_succ]
      refine wpAnyH_take (i := 9) (v := ?_) (by simp only [List.getElem?_toArray, List.getElem?_cons_zero, List.getElem?_cons_succ]; rfl) (by kernel_rfl) (by kernel_rfl) (by kernel_rfl) (by intro _ _ _ h; exact h) (Or.inl ⟨by rfl, ?_⟩) hHeld ?_
      rotate_left
      · (intro w hSw; (try dsimp only at hSw); go_simp; try with_reducible rfl)
      try simp only [Act.put, List.setIfInBounds_toArray, List.set_cons_zero, List.set_cons_succ]
      refine wpAnyH_take (i := 11) (v := ?_) (by simp only [List.getElem?_toArray, List.getElem?_cons_zero, List.getElem?_cons_succ]; rfl) (by kernel_rfl) (by kernel_rfl) (by kernel_rfl) (by intro _ _ _ h; exact h) (Or.inl ⟨by rfl, ?_⟩) hHeld ?_
      rotate_left
      · (intro w hSw; (try dsimp only at hSw); go_simp; try with_reducible rfl)
      try simp only [Act.put, List.setIfInBounds_toArray, List.set_cons_zero, List.set_cons_succ]
      refine wpAnyH_take (i := 12) (v := ?_) (by simp only [List.getElem?_toArray, List.getElem?_cons_zero, List.getElem?_cons_succ]; rfl) (by kernel_rfl) (by kernel_rfl) (by kernel_rfl) (by intro _ _ _ h; exact h) (Or.inl ⟨by rfl, ?_⟩) hHeld ?_
      rotate_left
      · (intro w hSw; (try dsimp only at hSw); go_simp; try with_reducible rfl)
      try simp only [Act.put, List.setIfInBounds_toArray, List.set_cons_zero, List.set_cons_succ]
      refine wpAnyH_take (i := 13) (v := ?_) (by simp only [List.getElem?_toArray, List.getElem?_cons_zero, List.getElem?_cons_succ]; rfl) (by kernel_rfl) (by kernel_rfl) (by kernel_rfl) (by intro _ _ _ h; exact h) (Or.inl ⟨by rfl, ?_⟩) hHeld ?_
      rotate_left
      · (intro w hSw; (try dsimp only at hSw); go_simp; try with_reducible rfl)
      try simp only [Act.put, List.setIfInBounds_toArray, List.set_cons_zero, List.set_cons_succ]
      refine wpAnyH_take (i := 14) (v := ?_) (by simp only [List.getElem?_toArray, List.getElem?_cons_zero, List.getElem?_cons_succ]; rfl) (by kernel_rfl) (by kernel_rfl) (by kernel_rfl) (by intro _ _ _ h; exact h) (Or.inl ⟨by rfl, ?_⟩) hHeld ?_
      rotate_left
      · (intro w hSw; (try dsimp only at hSw); go_simp; try with_reducible rfl)
      try simp only [Act.put, List.setIfInBounds_toArray, List.set_cons_zero, List.set_cons_succ]
      refine wpAnyH_take (i := 15) (v := ?_) (by simp only [List.getElem?_toArray, List.getElem?_cons_zero, List.getElem?_cons_succ]; rfl) (by kernel_rfl) (by kernel_rfl) (by kernel_rfl) (by intro _ _ _ h; exact h) (Or.inl ⟨by rfl, ?_⟩) hHeld ?_
      rotate_left
      · (intro w hSw; (try dsimp only at hSw); go_simp; try with_reducible rfl)
      try simp only [Act.put, List.setIfInBounds_toArray, List.set_cons_zero, List.set_cons_succ]
      refine wpAnyH_ready (rs := [10]) (by kernel_rfl) (by simp) ?_
      refine AllReadyH.cons (by simp only [List.getElem?_toArray, List.getElem?_cons_zero, List.getElem?_cons_succ]; rfl) (fun K hK => ?_) AllReadyH.nil
      rw [if_pos (by rfl)]
      go_simp
      refine (len12 p B R' _ (HT.out.below HB0.out).ix).mono ?_
      rintro e _ ⟨rfl, rfl⟩
      refine hK.out _ _ (HS.out _ HB0.out) (fun hHeld => ?_)
      clear hK K
      try simp only [Act.put, List.setIfInBounds_toArray, List.set_cons_zero, List.set_cons_succ]
      refine wpAnyH_take (i := 16) (v := ?_) (by simp only [List.getElem?_toArray, List.getElem?_cons_zero, List.getElem?_cons_succ]; rfl) (by kernel_rfl) (by kernel_rfl) (by kernel_rfl) (by intro _ _ _ h; exact h) (Or.inl ⟨by rfl, ?_⟩) hHeld ?_
      rotate_left
      · (intro w hSw; (try dsimp only at hSw); go_simp; try with_reducible rfl)
      try simp only [Act.put, List.setIfInBounds_toArray, List.set_cons_zero, List.set_cons_succ]
      refine wpAnyH_take (i := 17) (v := ?_) (by simp only [List.getElem?_toArray, List.getElem?_cons_zero, List.getElem?_cons_succ]; rfl) (by kernel_rfl) (by kernel_rfl) (by kernel_rfl) (by intro _ _ _ h; exact h) (Or.inl ⟨by rfl, ?_⟩) hHeld ?_
      rotate_left
      · (intro w hSw; (try dsimp only at hSw); go_simp; try with_reducible rfl)
      try simp only [Act.put, List.setIfInBounds_toArray, List.set_cons_zero, List.set_cons_succ]
      refine wpAnyH_take (i := 18) (v := ?_) (by simp only [List.getElem?_toArray, List.getElem?_cons_zero, List.getElem?_cons_succ]; rfl) (by kernel_rfl) (by kernel_rfl) (by kernel_rfl) (by intro _ _ _ h; exact h) (Or.inl ⟨by rfl, ?_⟩) hHeld ?_
      rotate_left
      · (intro w hSw; (try dsimp only at hSw); go_simp; try with_reducible rfl)
      try simp only [Act.put, List.setIfInBounds_toArray, List.set_cons_zero, List.set_cons_succ]
      refine wpAnyH_take (i := 19) (v := ?_) (by simp only [List.getElem?_toArray, List.getElem?_cons_zero, List.getElem?_cons_succ]; rfl) (by kernel_rfl) (by kernel_rfl) (by kernel_rfl) (by intro _ _ _ h; exact h) (Or.inl ⟨by rfl, ?_⟩) hHeld ?_
      rotate_left
      · (intro w hSw; (try dsimp only at hSw); go_simp; try with_reducible rfl)
      try simp only [Act.put, List.setIfInBounds_toArray, List.set_cons_zero, List.set_cons_succ]
      refine wpAnyH_take (i := 21) (v := ?_) (by simp only [List.getElem?_toArray, List.getElem?_cons_zero, List.getElem?_cons_succ]; rfl) (by kernel_rfl) (by kernel_rfl) (by kernel_rfl) (by intro _ _ _ h; exact h) (Or.inl ⟨by rfl, ?_⟩) hHeld ?_
      rotate_left
      · (intro w hSw; (try dsimp only at hSw); go_simp; try with_reducible rfl)
      try simp only [Act.put, List.setIfInBounds_toArray, List.set_cons_zero, List.set_cons_succ]
      refine wpAnyH_take (i := 22) (v := ?_) (by simp only [List.getElem?_toArray, List.getElem?_cons_zero, List.getElem?_cons_succ]; rfl) (by kernel_rfl) (by kernel_rfl) (by kernel_rfl) (by intro _ _ _ h; exact h) (Or.inl ⟨by rfl, ?_⟩) hHeld ?_
      rotate_left
      · (intro w hSw; (try dsimp only at hSw); go_simp; try with_reducible rfl)
      try simp only [Act.put, List.setIfInBounds_toArray, List.set_cons_zero, List.set_cons_succ]
      refine wpAnyH_take (i := 23) (v := ?_) (by simp only [List.getElem?_toArray, List.getElem?_cons_zero, List.getElem?_cons_succ]; rfl) (by kernel_rfl) (by kernel_rfl) (by kernel_rfl) (by intro _ _ _ h; exact h) (Or.inl ⟨by rfl, ?_⟩) hHeld ?_
      rotate_left
      · (intro w hSw; (try dsimp only at hSw); go_simp; try with_reducible rfl)
      try simp only [Act.put, List.setIfInBounds_toArray, List.set_cons_zero, List.set_cons_succ]
      refine wpAnyH_take (i := 24) (v := ?_) (by simp only [List.getElem?_toArray, List.getElem?_cons_zero, List.getElem?_cons_succ]; rfl) (by kernel_rfl) (by kernel_rfl) (by kernel_rfl) (by intro _ _ _ h; exact h) (Or.inl ⟨by rfl, ?_⟩) hHeld ?_
      rotate_left
      · (intro w hSw; (try dsimp only at hSw); go_simp; try with_reducible rfl)
      try simp only [Act.put, List.setIfInBounds_toArray, List.set_cons_zero, List.set_cons_succ]
      refine wpAnyH_ready (rs := [20]) (by kernel_rfl) (by simp) ?_
      refine AllReadyH.cons (by simp only [List.getElem?_toArray, List.getElem?_cons_zero, List.getElem?_cons_succ]; rfl) (fun K hK => ?_) AllReadyH.nil
      rw [if_pos (by rfl)]
      go_simp
      refine (items11 p B R' _ (HT.out.below HB0.out).ix (by have := HR'.out; omega)).mono ?_
      rintro e x5 ⟨⟨v5, rfl, ho5⟩, hb⟩
      have HB1 := Lib.hid (HB0.out.trans (hb.mono HB0.out.size))
      clear hb
      obtain ⟨A5, c5, rfl, hs5, _, _, _⟩ := srow_arr (wideE _) ho5
      have HS5 := Lib.hid hs5
      clear ho5 hs5
      refine hK.out _ _ (HS.out _ HB1.out) (fun hHeld => ?_)
      clear hK K
      try simp only [Act.put, List.setIfInBounds_toArray, List.set_cons_zero, List.set_cons_succ]
      refine wpAnyH_ready (rs := [25]) (by kernel_rfl) (by simp) ?_
      refine AllReadyH.cons (by simp only [List.getElem?_toArray, List.getElem?_cons_zero, List.getElem?_cons_succ]; rfl) (fun K hK => ?_) AllReadyH.nil
      rw [if_pos (by rfl)]
      go_simp
      refine (sameIt (fun i => itE R'[i]!) A5 A2 R'.length c5 c2 _ _ x5 (by have := HR'.out; omega) HS5.out (HX.out.below HB1.out).sarr).mono ?_
      rintro e _ ⟨rfl, m, rfl⟩
      have HB2 : Hid (Below y9.heap.size y9 (x5.drewN m)) := Lib.hid (below_drewN HB1.out m)
      refine hK.out _ _ (HS.out _ HB2.out) (fun hHeld => ?_)
      clear hK K
      try simp only [Act.put, List.setIfInBounds_toArray, List.set_cons_zero, List.set_cons_succ]
      refine wpAnyH_take (i := 26) (v := ?_) (by simp only [List.getElem?_toArray, List.getElem?_cons_zero, List.getElem?_cons_succ]; rfl) (by kernel_rfl) (by kernel_rfl) (by kernel_rfl) (by intro _ _ _ h; exact h) (Or.inl ⟨by rfl, ?_⟩) hHeld ?_
      rotate_left
      · (intro w hSw; (try dsimp only at hSw); go_simp; try with_reducible rfl)
      try simp only [Act.put, List.setIfInBounds_toArray, List.set_cons_zero, List.set_cons_succ]
      refine wpAnyH_take (i := 27) (v := ?_) (by simp only [List.getElem?_toArray, List.getElem?_cons_zero, List.getElem?_cons_succ]; rfl) (by kernel_rfl) (by kernel_rfl) (by kernel_rfl) (by intro _ _ _ h; exact h) (Or.inl ⟨by rfl, ?_⟩) hHeld ?_
      rotate_left
      · (intro w hSw; (try dsimp only at hSw); go_simp; try with_reducible rfl)
      try simp only [Act.put, List.setIfInBounds_toArray, List.set_cons_zero, List.set_cons_succ]
      refine wpAnyH_done (by kernel_rfl) ?_ _
      clear hHeld
      have HT := Lib.hid (HT.out.below HB2.out)
      go_wp2_with fail
      exact ⟨⟨j + 1, R', by omega, by push_cast; rfl, by have := HR'.out; omega, HT.out⟩, by simp [intOf]; omega⟩
    · go_wp2_with fail
      refine wp_region_held_drew (S := (fun w' : World => w'.cell? ⟨b6, 0, none⟩ = some (.int .i64 D.kd) ∧ w'.rangeAt b6 1 (u8l D.k) ∧ w'.rangeAt b6 33 [.int .i64 D.q.a, .int .i64 D.q.n, .int .i64 D.q.u, .int .i64 D.q.r] ∧ w'.cell? ⟨b6, 37, none⟩ = some (.int .i64 D.x))) follows (HS.out _ (Keeps.drew _ _)) (fun hHeld => ?_)
      refine wpAnyH_take (i := 0) (v := ?_) (by simp only [List.getElem?_toArray, List.getElem?_cons_zero]; rfl) (by kernel_rfl) (by kernel_rfl) (by kernel_rfl) (by intro _ _ _ h; exact h) (Or.inl ⟨by rfl, ?_⟩) hHeld ?_
      rotate_left
      · (intro w hSw; (try dsimp only at hSw); go_simp; try with_reducible rfl)
      try simp only [Act.put, List.setIfInBounds_toArray, List.set_cons_zero, List.set_cons_succ]
      refine wpAnyH_take (i := 1) (v := ?_) (by simp only [List.getElem?_toArray, List.getElem?_cons_zero, List.getElem?_cons_succ]; rfl) (by kernel_rfl) (by kernel_rfl) (by kernel_rfl) (by intro _ _ _ h; exact h) (Or.inl ⟨by rfl, ?_⟩) hHeld ?_
      rotate_left
      · (intro w hSw; (try dsimp only at hSw); go_simp; try with_reducible rfl)
      try simp only [Act.put, List.setIfInBounds_toArray, List.set_cons_zero, List.set_cons_succ]
      refine wpAnyH_take (i := 2) (v := _) (by simp only [List.getElem?_toArray, List.getElem?_cons_zero, List.getElem?_cons_succ]; rfl) (by kernel_rfl) (by kernel_rfl) (by kernel_rfl) (by intro _ _ _ h; exact h) (yieldsIf_load_mid (by rfl) 26 (.tmp 67) rfl b6 1 rfl (u8l D.k) _ (fun _ h => h.2.1) Try.underlying26 rfl HKL.out) hHeld ?_
      try simp only [Act.put, List.setIfInBounds_toArray, List.set_cons_zero, List.set_cons_succ]
      refine wpAnyH_take (i := 3) (v := ?_) (by simp only [List.getElem?_toArray, List.getElem?_cons_zero, List.getElem?_cons_succ]; rfl) (by kernel_rfl) (by kernel_rfl) (by kernel_rfl) (by intro _ _ _ h; exact h) (Or.inl ⟨by rfl, ?_⟩) hHeld ?_
      rotate_left
      · (intro w hSw; (try dsimp only at hSw); go_simp; try with_reducible rfl)
      try simp only [Act.put, List.setIfInBounds_toArray, List.set_cons_zero, List.set_cons_succ]
      refine wpAnyH_take (i := 4) (v := ?_) (by simp only [List.getElem?_toArray, List.getElem?_cons_zero, List.getElem?_cons_succ]; rfl) (by kernel_rfl) (by kernel_rfl) (by kernel_rfl) (by intro _ _ _ h; exact h) (Or.inl ⟨by rfl, ?_⟩) hHeld ?_
      rotate_left
      · (intro w hSw; (try dsimp only at hSw); go_simp; try with_reducible rfl)
      try simp only [Act.put, List.setIfInBounds_toArray, List.set_cons_zero, List.set_cons_succ]
      refine wpAnyH_take (i := 6) (v := ?_) (by simp only [List.getElem?_toArray, List.getElem?_cons_zero, List.getElem?_cons_succ]; rfl) (by kernel_rfl) (by kernel_rfl) (by kernel_rfl) (by intro _ _ _ h; exact h) (Or.inl ⟨by rfl, ?_⟩) hHeld ?_
      rotate_left
      · (intro w hSw; (try dsimp only at hSw); go_simp; try with_reducible rfl)
      try simp only [Act.put, List.setIfInBounds_toArray, List.set_cons_zero, List.set_cons_succ]
      refine wpAnyH_take (i := 7) (v := ?_) (by simp only [List.getElem?_toArray, List.getElem?_cons_zero, List.getElem?_cons_succ]; rfl) (by kernel_rfl) (by kernel_rfl) (by kernel_rfl) (by intro _ _ _ h; exact h) (Or.inl ⟨by rfl, ?_⟩) hHeld ?_
      rotate_left
      · (intro w hSw; (try dsimp only at hSw); go_simp; try with_reducible rfl)
      try simp only [Act.put, List.setIfInBounds_toArray, List.set_cons_zero, List.set_cons_succ]
      refine wpAnyH_take (i := 8) (v := _) (by simp only [List.getElem?_toArray, List.getElem?_cons_zero, List.getElem?_cons_succ]; rfl) (by kernel_rfl) (by kernel_rfl) (by kernel_rfl) (by intro _ _ _ h; exact h) (yieldsIf_load_mid (by rfl) 26 (.tmp 73) rfl b6 1 rfl (u8l D.k) _ (fun _ h => h.2.1) Try.underlying26 rfl HKL.out) hHeld ?_
      try simp only [Act.put, List.setIfInBounds_toArray, List.set_cons_zero, List.set_cons_succ]
      refine wpAnyH_take (i := 9) (v := ?_) (by simp only [List.getElem?_toArray, List.getElem?_cons_zero, List.getElem?_cons_succ]; rfl) (by kernel_rfl) (by kernel_rfl) (by kernel_rfl) (by intro _ _ _ h; exact h) (Or.inl ⟨by rfl, ?_⟩) hHeld ?_
      rotate_left
      · (intro w hSw; (try dsimp only at hSw); go_simp; try with_reducible rfl)
      try simp only [Act.put, List.setIfInBounds_toArray, List.set_cons_zero, List.set_cons_succ]
      refine wpAnyH_take (i := 10) (v := ?_) (by simp only [List.getElem?_toArray, List.getElem?_cons_zero, List.getElem?_cons_succ]; rfl) (by kernel_rfl) (by kernel_rfl) (by kernel_rfl) (by intro _ _ _ h; exact h) (Or.inl ⟨by rfl, ?_⟩) hHeld ?_
      rotate_left
      · (intro w hSw; (try dsimp only at hSw); go_simp; try with_reducible rfl)
      try simp only [Act.put, List.setIfInBounds_toArray, List.set_cons_zero, List.set_cons_succ]
      refine wpAnyH_ready (rs := [5]) (by kernel_rfl) (by simp) ?_
      refine AllReadyH.cons (by simp only [List.getElem?_toArray, List.getElem?_cons_zero, List.getElem?_cons_succ]; rfl) (fun K hK => ?_) AllReadyH.nil
      rw [if_pos (by rfl)]
      go_simp
      refine (two_want D.k D.x HK.out (i64_bd HXB.out) (HT.out.below (below_drewN (Below.refl _ _) 1)) (by have := HR.out; omega)).mono ?_
      rintro e x1 ⟨rfl, ho⟩
      have H1 := Lib.hid ho
      clear ho
      have K1 : Hid (Keeps (fun z => z = B ∨ z = p2) w5 x1) := Lib.hid ((Keeps.drew _ w5).trans H1.out.2 (fun _ _ h => .inl h))
      refine hK.out _ _ (HS.out _ K1.out) (fun hHeld => ?_)
      clear hK K
      try simp only [Act.put, List.setIfInBounds_toArray, List.set_cons_zero, List.set_cons_succ]
      refine wpAnyH_ready (rs := [11]) (by kernel_rfl) (by simp) ?_
      refine AllReadyH.cons (by simp only [List.getElem?_toArray, List.getElem?_cons_zero, List.getElem?_cons_succ]; rfl) (fun K hK => ?_) AllReadyH.nil
      rw [if_pos (by rfl)]
      go_simp
      refine (two_rwant D.k D.x HK.out (i64_bd HXB.out) H1.out.1 (by have := HR.out; omega)).mono ?_
      rintro e x2 ⟨rfl, ho⟩
      have H2 := Lib.hid ho
      clear ho
      have K2 : Hid (Keeps (fun z => z = B ∨ z = p2) w5 x2) := Lib.hid (K1.out.trans H2.out.2 (fun _ _ h => .inr h))
      refine hK.out _ _ (HS.out _ K2.out) (fun hHeld => ?_)
      clear hK K
      try simp only [Act.put, List.setIfInBounds_toArray, List.set_cons_zero, List.set_cons_succ]
      refine wpAnyH_take (i := 12) (v := ?_) (by simp only [List.getElem?_toArray, List.getElem?_cons_zero, List.getElem?_cons_succ]; rfl) (by kernel_rfl) (by kernel_rfl) (by kernel_rfl) (by intro _ _ _ h; exact h) (Or.inl ⟨by rfl, ?_⟩) hHeld ?_
      rotate_left
      · (intro w hSw; (try dsimp only at hSw); go_simp; try with_reducible rfl)
      try simp only [Act.put, List.setIfInBounds_toArray, List.set_cons_zero, List.set_cons_succ]
      refine wpAnyH_done (by kernel_rfl) ?_ _
      clear hHeld
      obtain ⟨R', hR', hT', hK'⟩ : ∃ R', R'.length ≤ j + 1 ∧ Two W.heap.size W x2 p B base p2 R' R' ∧ Keeps (fun z => z = B ∨ z = p2) w5 x2 := ⟨wantR R D.k D.x, by have := HR.out; have := want_len R D.k D.x; omega, H2.out.1, K2.out⟩
      clear K1 K2 H1 H2
      have HT := Lib.hid hT'
      have HR' := Lib.hid hR'
      obtain ⟨hs0, hs1, hs2, hs3⟩ := HS.out _ hK'
      have HK6 : Hid (x2.heap[b6]? = some (.cells D.cells.toArray 30 (0, 0))) := Lib.hid (hK'.heap HD6.out (fun e => by rcases e with e | e; exact HN6.out.1 e; exact HN6.out.2 e))
      clear hT' hR' hK' hs0 hs1 hs2 hs3 HR HT0
      obtain ⟨q, hq⟩ : ∃ q, q = (lookR D.k R').getD ⟨0, 0, 0, 0⟩ := ⟨_, rfl⟩
      obtain ⟨is, his⟩ : ∃ z, z = (lookR D.k R').isSome := ⟨_, rfl⟩
      have HQ := Lib.hid hq
      have HIS := Lib.hid his
      have HQM : Hid (mayB q = true ∨ q = ⟨0, 0, 0, 0⟩) := Lib.hid (by rw [hq]; exact get_may)
      clear hq his
      have HKR : Hid (∀ V : World, V.heap[b6]? = some (.cells D.cells.toArray 30 (0, 0)) → V.rangeAt b6 1 (u8l D.k)) := Lib.hid fun V h => by
        have := (deed_at HK.out (range_of h)).2.1
        rwa [Nat.zero_add] at this
      go_upto_region 22 with fail
      go_wp2_with (refine wpList_load_midG rfl 26 (.tmp 81) rfl b6 1 rfl (u8l D.k) _ (HKR.out _ HK6.out) Try.underlying26 rfl HKL.out ?_)
      refine (two_get D.k HK.out HT.out (by have := HR'.out; omega)).mono ?_
      rintro e x3 ⟨rfl, hb⟩
      dsimp only
      rw [← HQ.out, ← HIS.out]
      have HT := Lib.hid (HT.out.below hb)
      have HK6 := Lib.hid ((hb.block b6 (heap_lt HK6.out)).trans HK6.out)
      clear hb
      repeat ((fail_if_success (refine wpList_laid rfl 28 rfl (plc ⟨0, 0, 0, 0⟩) (zeroVP _) ?_)); go_step)
      refine wpList_laid rfl 28 rfl (plc ⟨0, 0, 0, 0⟩) (zeroVP _) ?_
      try simp only [Act.put, List.setIfInBounds_toArray, List.set_cons_zero, List.set_cons_succ]
      obtain ⟨b7, hb7⟩ : ∃ b, b = x3.heap.size := ⟨_, rfl⟩
      obtain ⟨v7, hv7⟩ : ∃ z, z = x3.alloc (.cells (plc ⟨0, 0, 0, 0⟩).toArray 28) := ⟨_, rfl⟩
      have HZ7 : Hid (v7.heap[b7]? = some (.cells (plc ⟨0, 0, 0, 0⟩).toArray 28 (0, 0))) := Lib.hid (by rw [hv7, hb7]; exact heap_new _ _)
      have B7 : Hid (Below x3.heap.size x3 v7) := Lib.hid (by rw [hv7]; exact (Below.refl _ _).alloc (Nat.le_refl _) _)
      have HE7 : Hid (b7 = x3.heap.size) := Lib.hid hb7
      rw [← hv7, ← hb7]
      clear hv7 hb7
      refine wpList_store_segK rfl 28 (.tmp 7) (.tmp 84) rfl b7 0 rfl (plc q) rfl (plc ⟨0, 0, 0, 0⟩) 28 HZ7.out sizePl (by simp [plc]) (by intro u hu; simp [plc] at hu; rcases hu with rfl | rfl | rfl | rfl <;> rfl) rfl ?_
      intro y7 h5 k5 s5
      rw [splice_whole _ _ (by simp [plc])] at h5
      have H7 := Lib.hid h5
      have BB7 : Hid (Below x3.heap.size x3 y7) := Lib.hid (B7.out.trans (k5.below (fun z hz => by rw [hz, HE7.out]; exact Nat.le_refl _) B7.out.size))
      have HT := Lib.hid (HT.out.below BB7.out)
      have HK6 := Lib.hid ((BB7.out.block b6 (heap_lt HK6.out)).trans HK6.out)
      clear h5 k5 s5 HZ7 B7 HE7 BB7
      go_upto_region 23 with fail
      go_wp2_with (refine wpList_load_midG rfl 26 (.tmp 88) rfl b6 1 rfl (u8l D.k) _ (HKR.out _ HK6.out) Try.underlying26 rfl HKL.out ?_)
      refine (two_rget D.k HK.out HT.out (by have := HR'.out; omega)).mono ?_
      rintro e x4 ⟨rfl, hb⟩
      dsimp only
      rw [← HQ.out, ← HIS.out]
      have HT := Lib.hid (HT.out.below hb)
      have HK6 := Lib.hid ((hb.block b6 (heap_lt HK6.out)).trans HK6.out)
      have H7 := Lib.hid ((hb.block b7 (heap_lt H7.out)).trans H7.out)
      clear hb
      repeat ((fail_if_success (refine wpList_laid rfl 28 rfl (plc ⟨0, 0, 0, 0⟩) (zeroVP _) ?_)); go_step)
      refine wpList_laid rfl 28 rfl (plc ⟨0, 0, 0, 0⟩) (zeroVP _) ?_
      try simp only [Act.put, List.setIfInBounds_toArray, List.set_cons_zero, List.set_cons_succ]
      obtain ⟨b9, hb9⟩ : ∃ b, b = x4.heap.size := ⟨_, rfl⟩
      obtain ⟨v9, hv9⟩ : ∃ z, z = x4.alloc (.cells (plc ⟨0, 0, 0, 0⟩).toArray 28) := ⟨_, rfl⟩
      have HZ9 : Hid (v9.heap[b9]? = some (.cells (plc ⟨0, 0, 0, 0⟩).toArray 28 (0, 0))) := Lib.hid (by rw [hv9, hb9]; exact heap_new _ _)
      have B9 : Hid (Below x4.heap.size x4 v9) := Lib.hid (by rw [hv9]; exact (Below.refl _ _).alloc (Nat.le_refl _) _)
      have HE9 : Hid (b9 = x4.heap.size) := Lib.hid hb9
      rw [← hv9, ← hb9]
      clear hv9 hb9
      refine wpList_store_segK rfl 28 (.tmp 9) (.tmp 91) rfl b9 0 rfl (plc q) rfl (plc ⟨0, 0, 0, 0⟩) 28 HZ9.out sizePl (by simp [plc]) (by intro u hu; simp [plc] at hu; rcases hu with rfl | rfl | rfl | rfl <;> rfl) rfl ?_
      intro y9 h5 k5 s5
      rw [splice_whole _ _ (by simp [plc])] at h5
      have H9 := Lib.hid h5
      have BB9 : Hid (Below x4.heap.size x4 y9) := Lib.hid (B9.out.trans (k5.below (fun z hz => by rw [hz, HE9.out]; exact Nat.le_refl _) B9.out.size))
      have HT := Lib.hid (HT.out.below BB9.out)
      have HK6 := Lib.hid ((BB9.out.block b6 (heap_lt HK6.out)).trans HK6.out)
      have H7 := Lib.hid ((BB9.out.block b7 (heap_lt H7.out)).trans H7.out)
      clear h5 k5 s5 HZ9 B9 HE9 BB9
      obtain ⟨vv, hvv⟩ := HT.out.rx
      obtain ⟨A2, c2, rfl⟩ := row_shapeS hvv.row
      have HX := Lib.hid hvv
      clear hvv
      go_wp2_with fail
      have HS : Hid (∀ V, Below y9.heap.size y9 V → (fun w' : World => w'.rangeAt b7 0 (plc q) ∧ w'.rangeAt b9 0 (plc q) ∧ w'.cell? ⟨p2, 0, none⟩ = some (.slice A2 R'.length c2)) V) := Lib.hid fun V h => ⟨range_of ((h.block b7 (heap_lt H7.out)).trans H7.out), range_of ((h.block b9 (heap_lt H9.out)).trans H9.out), (HX.out.below h).at0⟩
      have HB0 : Hid (Below y9.heap.size y9 y9.drew) := Lib.hid (below_drewN (Below.refl _ _) 1)
      refine wp_region_held_drew (S := (fun w' : World => w'.rangeAt b7 0 (plc q) ∧ w'.rangeAt b9 0 (plc q) ∧ w'.cell? ⟨p2, 0, none⟩ = some (.slice A2 R'.length c2))) follows (HS.out _ HB0.out) (fun hHeld => ?_)
      refine wpAnyH_take (i := 0) (v := _) (by simp only [List.getElem?_toArray, List.getElem?_cons_zero]; rfl) (by kernel_rfl) (by kernel_rfl) (by kernel_rfl) (by intro _ _ _ h; exact h) (yieldsIf_load_mid (by rfl) 28 (.tmp 7) rfl b7 0 rfl (plc q) _ (fun _ h => h.1) Try.underlying28 rfl sizePl) hHeld ?_
      try simp only [Act.put, List.setIfInBounds_toArray, List.set_cons_zero, List.set_cons_succ]
      refine wpAnyH_take (i := 1) (v := _) (by simp only [List.getElem?_toArray, List.getElem?_cons_zero, List.getElem?_cons_succ]; rfl) (by kernel_rfl) (by kernel_rfl) (by kernel_rfl) (by intro _ _ _ h; exact h) (yieldsIf_load_mid (by rfl) 28 (.tmp 9) rfl b9 0 rfl (plc q) _ (fun _ h => h.2.1) Try.underlying28 rfl sizePl) hHeld ?_
      try simp only [Act.put, List.setIfInBounds_toArray, List.set_cons_zero, List.set_cons_succ]
      refine wpAnyH_take (i := 2) (v := _) (by simp only [List.getElem?_toArray, List.getElem?_cons_zero, List.getElem?_cons_succ]; rfl) (by kernel_rfl) (by kernel_rfl) (by kernel_rfl) (by intro _ _ _ h; exact h) (yields_neq (by rfl) 28 (.tmp 93) (.tmp 94) rfl _ _ rfl rfl true eqgPl (fun u => eqrPl q HQM.out u)) hHeld ?_
      try simp only [Act.put, List.setIfInBounds_toArray, List.set_cons_zero, List.set_cons_succ]
      refine wpAnyH_take (i := 3) (v := ?_) (by simp only [List.getElem?_toArray, List.getElem?_cons_zero, List.getElem?_cons_succ]; rfl) (by kernel_rfl) (by kernel_rfl) (by kernel_rfl) (by intro _ _ _ h; exact h) (Or.inl ⟨by rfl, ?_⟩) hHeld ?_
      rotate_left
      · (intro w hSw; (try dsimp only at hSw); go_simp; try with_reducible rfl)
      try simp only [Act.put, List.setIfInBounds_toArray, List.set_cons_zero, List.set_cons_succ]
      refine wpAnyH_take (i := 4) (v := ?_) (by simp only [List.getElem?_toArray, List.getElem?_cons_zero, List.getElem?_cons_succ]; rfl) (by kernel_rfl) (by kernel_rfl) (by kernel_rfl) (by intro _ _ _ h; exact h) (Or.inl ⟨by rfl, ?_⟩) hHeld ?_
      rotate_left
      · (intro w hSw; (try dsimp only at hSw); go_simp; try with_reducible rfl)
      try simp only [Act.put, List.setIfInBounds_toArray, List.set_cons_zero, List.set_cons_succ]
      refine wpAnyH_take (i := 5) (v := ?_) (by simp only [List.getElem?_toArray, List.getElem?_cons_zero, List.getElem?_cons_succ]; rfl) (by kernel_rfl) (by kernel_rfl) (by kernel_rfl) (by intro _ _ _ h; exact h) (Or.inl ⟨by rfl, ?_⟩) hHeld ?_
      rotate_left
      · (intro w hSw; (try dsimp only at hSw); go_simp; try with_reducible rfl)
      try simp only [Act.put, List.setIfInBounds_toArray, List.set_cons_zero, List.set_cons_succ]
      refine wpAnyH_take (i := 6) (v := ?_) (by simp only [List.getElem?_toArray, List.getElem?_cons_zero, List.getElem?_cons_succ]; rfl) (by kernel_rfl) (by kernel_rfl) (by kernel_rfl) (by intro _ _ _ h; exact h) (Or.inl ⟨by rfl, ?_⟩) hHeld ?_
      rotate_left
      · (intro w hSw; (try dsimp only at hSw); go_simp; try with_reducible rfl)
      try simp only [Act.put, List.setIfInBounds_toArray, List.set_cons_zero, List.set_cons_succ]
      refine wpAnyH_take (i := 7) (v := ?_) (by simp only [List.getElem?_toArray, List.getElem?_cons_zero, List.getElem?_cons_succ]; rfl) (by kernel_rfl) (by kernel_rfl) (by kernel_rfl) (by intro _ _ _ h; exact h) (Or.inl ⟨by rfl, ?_⟩) hHeld ?_
      rotate_left
      · (intro w hSw; (try dsimp only at hSw); go_simp; try with_reducible rfl)
      try simp only [Act.put, List.setIfInBounds_toArray, List.set_cons_zero, List.set_cons_succ]
      refine wpAnyH_take (i := 8) (v := ?_) (by simp only [List.getElem?_toArray, List.getElem?_cons_zero, List.getElem?_cons_succ]; rfl) (by kernel_rfl) (by kernel_rfl) (by kernel_rfl) (by intro _ _ _ h; exact h) (Or.inl ⟨by rfl, ?_⟩) hHeld ?_
      rotate_left
      · (intro w hSw; (try dsimp only at hSw); go_simp; try with_reducible rfl)
      try simp only [Act.put, List.setIfInBounds_toArray, List.set_cons_zero, List.set_cons_succ]
      refine wpAnyH_take (i := 9) (v := ?_) (by simp only [List.getElem?_toArray, List.getElem?_cons_zero, List.getElem?_cons_succ]; rfl) (by kernel_rfl) (by kernel_rfl) (by kernel_rfl) (by intro _ _ _ h; exact h) (Or.inl ⟨by rfl, ?_⟩) hHeld ?_
      rotate_left
      · (intro w hSw; (try dsimp only at hSw); go_simp; try with_reducible rfl)
      try simp only [Act.put, List.setIfInBounds_toArray, List.set_cons_zero, List.set_cons_succ]
      refine wpAnyH_take (i := 11) (v := ?_) (by simp only [List.getElem?_toArray, List.getElem?_cons_zero, List.getElem?_cons_succ]; rfl) (by kernel_rfl) (by kernel_rfl) (by kernel_rfl) (by intro _ _ _ h; exact h) (Or.inl ⟨by rfl, ?_⟩) hHeld ?_
      rotate_left
      · (intro w hSw; (try dsimp only at hSw); go_simp; try with_reducible rfl)
      try simp only [Act.put, List.setIfInBounds_toArray, List.set_cons_zero, List.set_cons_succ]
      refine wpAnyH_take (i := 12) (v := ?_) (by simp only [List.getElem?_toArray, List.getElem?_cons_zero, List.getElem?_cons_succ]; rfl) (by kernel_rfl) (by kernel_rfl) (by kernel_rfl) (by intro _ _ _ h; exact h) (Or.inl ⟨by rfl, ?_⟩) hHeld ?_
      rotate_left
      · (intro w hSw; (try dsimp only at hSw); go_simp; try with_reducible rfl)
      try simp only [Act.put, List.setIfInBounds_toArray, List.set_cons_zero, List.set_cons_succ]
      refine wpAnyH_take (i := 13) (v := ?_) (by simp only [List.getElem?_toArray, List.getElem?_cons_zero, List.getElem?_cons_succ]; rfl) (by kernel_rfl) (by kernel_rfl) (by kernel_rfl) (by intro _ _ _ h; exact h) (Or.inl ⟨by rfl, ?_⟩) hHeld ?_
      rotate_left
      · (intro w hSw; (try dsimp only at hSw); go_simp; try with_reducible rfl)
      try simp only [Act.put, List.setIfInBounds_toArray, List.set_cons_zero, List.set_cons_succ]
      refine wpAnyH_take (i := 14) (v := ?_) (by simp only [List.getElem?_toArray, List.getElem?_cons_zero, List.getElem?_cons_succ]; rfl) (by kernel_rfl) (by kernel_rfl) (by kernel_rfl) (by intro _ _ _ h; exact h) (Or.inl ⟨by rfl, ?_⟩) hHeld ?_
      rotate_left
      · (intro w hSw; (try dsimp only at hSw); go_simp; try with_reducible rfl)
      try simp only [Act.put, List.setIfInBounds_toArray, List.set_cons_zero, List.set_cons_succ]
      refine wpAnyH_take (i := 15) (v := ?_) (by simp only [List.getElem?_toArray, List.getElem?_cons_zero, List.getElem?_cons_succ]; rfl) (by kernel_rfl) (by kernel_rfl) (by kernel_rfl) (by intro _ _ _ h; exact h) (Or.inl ⟨by rfl, ?_⟩) hHeld ?_
      rotate_left
      · (intro w hSw; (try dsimp only at hSw); go_simp; try with_reducible rfl)
      try simp only [Act.put, List.setIfInBounds_toArray, List.set_cons_zero, List.set_cons_succ]
      refine wpAnyH_ready (rs := [10]) (by kernel_rfl) (by simp) ?_
      refine AllReadyH.cons (by simp only [List.getElem?_toArray, List.getElem?_cons_zero, List.getElem?_cons_succ]; rfl) (fun K hK => ?_) AllReadyH.nil
      rw [if_pos (by rfl)]
      go_simp
      refine (len12 p B R' _ (HT.out.below HB0.out).ix).mono ?_
      rintro e _ ⟨rfl, rfl⟩
      refine hK.out _ _ (HS.out _ HB0.out) (fun hHeld => ?_)
      clear hK K
      try simp only [Act.put, List.setIfInBounds_toArray, List.set_cons_zero, List.set_cons_succ]
      refine wpAnyH_take (i := 16) (v := ?_) (by simp only [List.getElem?_toArray, List.getElem?_cons_zero, List.getElem?_cons_succ]; rfl) (by kernel_rfl) (by kernel_rfl) (by kernel_rfl) (by intro _ _ _ h; exact h) (Or.inl ⟨by rfl, ?_⟩) hHeld ?_
      rotate_left
      · (intro w hSw; (try dsimp only at hSw); go_simp; try with_reducible rfl)
      try simp only [Act.put, List.setIfInBounds_toArray, List.set_cons_zero, List.set_cons_succ]
      refine wpAnyH_take (i := 17) (v := ?_) (by simp only [List.getElem?_toArray, List.getElem?_cons_zero, List.getElem?_cons_succ]; rfl) (by kernel_rfl) (by kernel_rfl) (by kernel_rfl) (by intro _ _ _ h; exact h) (Or.inl ⟨by rfl, ?_⟩) hHeld ?_
      rotate_left
      · (intro w hSw; (try dsimp only at hSw); go_simp; try with_reducible rfl)
      try simp only [Act.put, List.setIfInBounds_toArray, List.set_cons_zero, List.set_cons_succ]
      refine wpAnyH_take (i := 18) (v := ?_) (by simp only [List.getElem?_toArray, List.getElem?_cons_zero, List.getElem?_cons_succ]; rfl) (by kernel_rfl) (by kernel_rfl) (by kernel_rfl) (by intro _ _ _ h; exact h) (Or.inl ⟨by rfl, ?_⟩) hHeld ?_
      rotate_left
      · (intro w hSw; (try dsimp only at hSw); go_simp; try with_reducible rfl)
      try simp only [Act.put, List.setIfInBounds_toArray, List.set_cons_zero, List.set_cons_succ]
      refine wpAnyH_take (i := 19) (v := ?_) (by simp only [List.getElem?_toArray, List.getElem?_cons_zero, List.getElem?_cons_succ]; rfl) (by kernel_rfl) (by kernel_rfl) (by kernel_rfl) (by intro _ _ _ h; exact h) (Or.inl ⟨by rfl, ?_⟩) hHeld ?_
      rotate_left
      · (intro w hSw; (try dsimp only at hSw); go_simp; try with_reducible rfl)
      try simp only [Act.put, List.setIfInBounds_toArray, List.set_cons_zero, List.set_cons_succ]
      refine wpAnyH_take (i := 21) (v := ?_) (by simp only [List.getElem?_toArray, List.getElem?_cons_zero, List.getElem?_cons_succ]; rfl) (by kernel_rfl) (by kernel_rfl) (by kernel_rfl) (by intro _ _ _ h; exact h) (Or.inl ⟨by rfl, ?_⟩) hHeld ?_
      rotate_left
      · (intro w hSw; (try dsimp only at hSw); go_simp; try with_reducible rfl)
      try simp only [Act.put, List.setIfInBounds_toArray, List.set_cons_zero, List.set_cons_succ]
      refine wpAnyH_take (i := 22) (v := ?_) (by simp only [List.getElem?_toArray, List.getElem?_cons_zero, List.getElem?_cons_succ]; rfl) (by kernel_rfl) (by kernel_rfl) (by kernel_rfl) (by intro _ _ _ h; exact h) (Or.inl ⟨by rfl, ?_⟩) hHeld ?_
      rotate_left
      · (intro w hSw; (try dsimp only at hSw); go_simp; try with_reducible rfl)
      try simp only [Act.put, List.setIfInBounds_toArray, List.set_cons_zero, List.set_cons_succ]
      refine wpAnyH_take (i := 23) (v := ?_) (by simp only [List.getElem?_toArray, List.getElem?_cons_zero, List.getElem?_cons_succ]; rfl) (by kernel_rfl) (by kernel_rfl) (by kernel_rfl) (by intro _ _ _ h; exact h) (Or.inl ⟨by rfl, ?_⟩) hHeld ?_
      rotate_left
      · (intro w hSw; (try dsimp only at hSw); go_simp; try with_reducible rfl)
      try simp only [Act.put, List.setIfInBounds_toArray, List.set_cons_zero, List.set_cons_succ]
      refine wpAnyH_take (i := 24) (v := ?_) (by simp only [List.getElem?_toArray, List.getElem?_cons_zero, List.getElem?_cons_succ]; rfl) (by kernel_rfl) (by kernel_rfl) (by kernel_rfl) (by intro _ _ _ h; exact h) (Or.inl ⟨by rfl, ?_⟩) hHeld ?_
      rotate_left
      · (intro w hSw; (try dsimp only at hSw); go_simp; try with_reducible rfl)
      try simp only [Act.put, List.setIfInBounds_toArray, List.set_cons_zero, List.set_cons_succ]
      refine wpAnyH_ready (rs := [20]) (by kernel_rfl) (by simp) ?_
      refine AllReadyH.cons (by simp only [List.getElem?_toArray, List.getElem?_cons_zero, List.getElem?_cons_succ]; rfl) (fun K hK => ?_) AllReadyH.nil
      rw [if_pos (by rfl)]
      go_simp
      refine (items11 p B R' _ (HT.out.below HB0.out).ix (by have := HR'.out; omega)).mono ?_
      rintro e x5 ⟨⟨v5, rfl, ho5⟩, hb⟩
      have HB1 := Lib.hid (HB0.out.trans (hb.mono HB0.out.size))
      clear hb
      obtain ⟨A5, c5, rfl, hs5, _, _, _⟩ := srow_arr (wideE _) ho5
      have HS5 := Lib.hid hs5
      clear ho5 hs5
      refine hK.out _ _ (HS.out _ HB1.out) (fun hHeld => ?_)
      clear hK K
      try simp only [Act.put, List.setIfInBounds_toArray, List.set_cons_zero, List.set_cons_succ]
      refine wpAnyH_ready (rs := [25]) (by kernel_rfl) (by simp) ?_
      refine AllReadyH.cons (by simp only [List.getElem?_toArray, List.getElem?_cons_zero, List.getElem?_cons_succ]; rfl) (fun K hK => ?_) AllReadyH.nil
      rw [if_pos (by rfl)]
      go_simp
      refine (sameIt (fun i => itE R'[i]!) A5 A2 R'.length c5 c2 _ _ x5 (by have := HR'.out; omega) HS5.out (HX.out.below HB1.out).sarr).mono ?_
      rintro e _ ⟨rfl, m, rfl⟩
      have HB2 : Hid (Below y9.heap.size y9 (x5.drewN m)) := Lib.hid (below_drewN HB1.out m)
      refine hK.out _ _ (HS.out _ HB2.out) (fun hHeld => ?_)
      clear hK K
      try simp only [Act.put, List.setIfInBounds_toArray, List.set_cons_zero, List.set_cons_succ]
      refine wpAnyH_take (i := 26) (v := ?_) (by simp only [List.getElem?_toArray, List.getElem?_cons_zero, List.getElem?_cons_succ]; rfl) (by kernel_rfl) (by kernel_rfl) (by kernel_rfl) (by intro _ _ _ h; exact h) (Or.inl ⟨by rfl, ?_⟩) hHeld ?_
      rotate_left
      · (intro w hSw; (try dsimp only at hSw); go_simp; try with_reducible rfl)
      try simp only [Act.put, List.setIfInBounds_toArray, List.set_cons_zero, List.set_cons_succ]
      refine wpAnyH_take (i := 27) (v := ?_) (by simp only [List.getElem?_toArray, List.getElem?_cons_zero, List.getElem?_cons_succ]; rfl) (by kernel_rfl) (by kernel_rfl) (by kernel_rfl) (by intro _ _ _ h; exact h) (Or.inl ⟨by rfl, ?_⟩) hHeld ?_
      rotate_left
      · (intro w hSw; (try dsimp only at hSw); go_simp; try with_reducible rfl)
      try simp only [Act.put, List.setIfInBounds_toArray, List.set_cons_zero, List.set_cons_succ]
      refine wpAnyH_done (by kernel_rfl) ?_ _
      clear hHeld
      have HT := Lib.hid (HT.out.below HB2.out)
      go_wp2_with fail
      exact ⟨⟨j + 1, R', by omega, by push_cast; rfl, by have := HR'.out; omega, HT.out⟩, by simp [intOf]; omega⟩
end Go.Proofs.Ytnindkpgmiafnaa
