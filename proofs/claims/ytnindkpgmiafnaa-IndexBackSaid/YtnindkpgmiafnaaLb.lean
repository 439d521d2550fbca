/- The law IndexBack (layer 22): it returns true at every input. -/
import Derived.Test.YtnindkpgmiafnaaBa
namespace Go.Proofs.Ytnindkpgmiafnaa
open Go.RowKit Go.Maps Go.WideMaps
theorem deed_one (d : Deed) : ∀ v ∈ d.cells, v.oneCell' = true := by
  intro v hv
  simp only [Deed.cells, deedC, List.mem_append] at hv
  rcases hv with hv | hv | hv | hv
  · obtain rfl := List.mem_singleton.1 hv; rfl
  · exact u8l_one _ v hv
  · simp [plc] at hv; rcases hv with rfl | rfl | rfl | rfl <;> rfl
  · obtain rfl := List.mem_singleton.1 hv; rfl
theorem deed_len (d : Deed) (hk : KeyOk 32 d.k) : d.cells.length = 38 := by simp [Deed.cells, deedC, u8l_len, hk.len, plc]
/-- An index, and a block that holds a deed beside it. -/
structure Sb (n0 : Nat) (w0 w : World) (p B bD : Nat) (dc : Array Value) (R : List Ent) : Prop where
  ix : Ix w p B R
  d : w.heap[bD]? = some (.cells dc 30 (0, 0))
  old : Below n0 w0 w
  g : n0 ≤ p ∧ n0 ≤ B ∧ n0 ≤ w.heap.size ∧ B ≠ bD
theorem Sb.below {n0 : Nat} {w0 w w' : World} {p B bD : Nat} {dc : Array Value} {R : List Ent} (h : Sb n0 w0 w p B bD dc R) (hb : Below w.heap.size w w') : Sb n0 w0 w' p B bD dc R :=
  ⟨h.ix.below hb, (hb.block bD (heap_lt h.d)).trans h.d, h.old.trans (hb.mono h.g.2.2.1), h.g.1, h.g.2.1, Nat.le_trans h.g.2.2.1 hb.size, h.g.2.2.2⟩
theorem Sb.turn {n0 : Nat} {w0 w w' : World} {p B bD : Nat} {dc : Array Value} {R R' : List Ent} (h : Sb n0 w0 w p B bD dc R) (hi : Ix w' p B R') (hk : Keeps (fun z => z = B) w w') : Sb n0 w0 w' p B bD dc R' :=
  ⟨hi, hk.heap h.d (fun e => h.g.2.2.2 e.symm), h.old.trans (hk.below (fun z hz => by rw [hz]; exact h.g.2.1) h.g.2.2.1), h.g.1, h.g.2.1, Nat.le_trans h.g.2.2.1 hk.size, h.g.2.2.2⟩
set_option maxRecDepth 100000 in
set_option maxHeartbeats 40000000 in
theorem back6 (L : Nat → Deed) (A : Option Addr) (n c : Nat) (D : Deed) (hk : KeyOk 32 D.k) (st : Int) (W : World) (hnc : n ≤ c) (hA : A = none → n = 0 ∧ c = 0) (hL : ∀ i, i < n → KeyOk 32 (L i).k ∧ (Lit.int .i64 (L i).kd).wf = true ∧ (Lit.int .i64 (L i).x).wf = true) (ha : SArr W W.heap.size A n 38 fun i => (L i).cells) (hst : (Lit.int .i64 st).wf = true) :
    Calls Try.prog 6 #[.slice A n c, .agg D.cells.toArray, .int .i64 st] W fun e w' => e = .returned (.bool true) ∧ Below W.heap.size W w' := by
  have HL := Lib.hid hL
  have HA := Lib.hid ha
  have HST := Lib.hid (i64_bdo hst)
  have HK := Lib.hid hk
  clear hL ha hst hk
  obtain ⟨dc, hdc⟩ : ∃ z, z = D.cells.toArray := ⟨_, rfl⟩
  rw [← hdc]
  have HDC := Lib.hid hdc
  clear hdc
  go_enter Try.func6, Try.ntmps6
  go_upto_region 1 with fail
  obtain ⟨bD, hbD⟩ : ∃ b, b = W.heap.size := ⟨_, rfl⟩
  obtain ⟨w0, hw0⟩ : ∃ z, z = W.alloc (.cells dc 30) := ⟨_, rfl⟩
  have HD0 : Hid (w0.heap[bD]? = some (.cells dc 30 (0, 0))) := Lib.hid (by rw [hw0]; exact heap_new_at _ hbD)
  have B0 : Hid (Below W.heap.size W w0) := Lib.hid (by rw [hw0]; exact (Below.refl _ _).alloc (Nat.le_refl _) _)
  have HBD : Hid (bD < w0.heap.size) := Lib.hid (heap_lt HD0.out)
  rw [← hw0, ← hbD]
  clear hw0 hbD
  go_wp2_with fail
  refine (awake7 w0).mono ?_
  rintro e w1 ⟨rfl, hb⟩
  have B1 := Lib.hid (B0.out.trans (hb.mono B0.out.size))
  have HD1 : Hid (w1.heap[bD]? = some (.cells dc 30 (0, 0))) := Lib.hid ((hb.block bD HBD.out).trans HD0.out)
  clear hb B0 HD0 HBD
  by_cases hn : n ≤ 100
  rotate_left
  · go_wp2_with fail
    go_ret
    exact ⟨rfl, B1.out⟩
  go_wp2_with fail
  refine (new8 w1).mono ?_
  rintro e w2 ⟨p, B, rfl, hix, hb2, hp, hB⟩
  have HSb : Hid (Sb W.heap.size W w2 p B bD dc []) := Lib.hid ⟨hix, (hb2.block bD (heap_lt HD1.out)).trans HD1.out, B1.out.trans (hb2.mono B1.out.size), by
    have h1 := B1.out.size; have h2 := hb2.size; have h3 := heap_lt HD1.out; omega⟩
  clear hix hb2 hp hB B1 HD1
  obtain ⟨l, hl⟩ : ∃ l, l = (List.range n).map L := ⟨_, rfl⟩
  have HLL : Hid (l.length = n) := Lib.hid (by rw [hl]; simp)
  have HLA : Hid (∀ i, i < n → l[i]? = some (L i)) := Lib.hid fun i hi => by rw [hl, List.getElem?_map, List.getElem?_range hi]; rfl
  have HLK : Hid (∀ d ∈ l, KeyOk 32 d.k) := Lib.hid fun d hd => by
    rw [hl] at hd
    obtain ⟨i, hi, rfl⟩ := List.mem_map.1 hd
    exact (HL.out i (List.mem_range.1 hi)).1
  clear hl
  go_wp2_with fail
  go_loopw [8] (fun i wr => ∃ (j : Nat), j ≤ n ∧ i = .int .i64 j ∧ Sb W.heap.size W wr p B bD dc (addAll (l.take j) [])) (fun i _ => n - (intOf i).toNat)
  case atStart => exact ⟨0, by omega, rfl, HSb.out⟩
  case round =>
    obtain ⟨j, hj, rfl, hS⟩ := hrel
    clear HSb
    have HSb := Lib.hid hS
    clear hS
    by_cases hlt : j < n
    · obtain ⟨g, off, rfl, hg, hrow⟩ := HA.out (by omega)
      have HG := Lib.hid hg
      have HW : Hid (∀ V, Below W.heap.size W V → V.rangeAt g (off + j * 38) (L j).cells) := Lib.hid fun V h i v hi => (World.cell?_of_block (h.block g hg)).trans (hrow j hlt i v hi)
      clear hg hrow
      obtain ⟨E, hE⟩ : ∃ E, E = L j := ⟨_, rfl⟩
      have HKE : Hid (KeyOk 32 E.k) := Lib.hid (by rw [hE]; exact (HL.out j hlt).1)
      have HTK : Hid (addAll (l.take (j + 1)) [] = addR (addAll (l.take j) []) E.k E.q) := Lib.hid (by rw [List.take_add_one, HLA.out j hlt, Option.toList, addAll_snoc, ← hE])
      have HRL : Hid ((addAll (l.take j) []).length < 1000000000) := Lib.hid (by have h1 := len_addAll (l.take j) []; simp at h1; omega)
      rw [← hE] at HW
      have HKL : Hid ((Try.prog.info? 26).map (·.size) = some (u8l E.k).length) := Lib.hid (by rw [u8l_len, HKE.out.len]; exact infoKey)
      clear hE
      go_wp2_with fail
      have HS : Hid (∀ V, Below W.heap.size W V → (fun w' : World => w'.rangeAt g (off + j * 38 + 1) (u8l E.k) ∧ w'.rangeAt g (off + j * 38 + 33) [.int .i64 E.q.a, .int .i64 E.q.n, .int .i64 E.q.u, .int .i64 E.q.r]) V) := Lib.hid fun V h => by
        obtain ⟨h0, h1, h2, h3⟩ := deed_at HKE.out (HW.out V h)
        exact ⟨h1, h2⟩
      have HB0 : Hid (Below W.heap.size W wr.drew) := Lib.hid (below_drewN HSb.out.old 1)
      refine wp_region_held_drew (S := (fun w' : World => w'.rangeAt g (off + j * 38 + 1) (u8l E.k) ∧ w'.rangeAt g (off + j * 38 + 33) [.int .i64 E.q.a, .int .i64 E.q.n, .int .i64 E.q.u, .int .i64 E.q.r])) follows (HS.out _ HB0.out) (fun hHeld => ?_)
      refine wpAnyH_take (i := 0) (v := ?_) (by simp only [List.getElem?_toArray, List.getElem?_cons_zero]; rfl) (by kernel_rfl) (by kernel_rfl) (by kernel_rfl) (by intro _ _ _ h; exact h) (Or.inl ⟨by rfl, ?_⟩) hHeld ?_
      rotate_left
      · (intro w hSw; (try dsimp only at hSw); go_simp; try with_reducible rfl)
      try simp only [Act.put, List.setIfInBounds_toArray, List.set_cons_zero, List.set_cons_succ]
      refine wpAnyH_take (i := 1) (v := ?_) (by simp only [List.getElem?_toArray, List.getElem?_cons_zero, List.getElem?_cons_succ]; rfl) (by kernel_rfl) (by kernel_rfl) (by kernel_rfl) (by intro _ _ _ h; exact h) (Or.inl ⟨by rfl, ?_⟩) hHeld ?_
      rotate_left
      · (intro w hSw; (try dsimp only at hSw); go_simp; try with_reducible rfl)
      try simp only [Act.put, List.setIfInBounds_toArray, List.set_cons_zero, List.set_cons_succ]
      refine wpAnyH_take (i := 2) (v := ?_) (by simp only [List.getElem?_toArray, List.getElem?_cons_zero, List.getElem?_cons_succ]; rfl) (by kernel_rfl) (by kernel_rfl) (by kernel_rfl) (by intro _ _ _ h; exact h) (Or.inl ⟨by rfl, ?_⟩) hHeld ?_
      rotate_left
      · (intro w hSw; (try dsimp only at hSw); go_simp; try with_reducible rfl)
      try simp only [Act.put, List.setIfInBounds_toArray, List.set_cons_zero, List.set_cons_succ]
      refine wpAnyH_take (i := 3) (v := ?_) (by simp only [List.getElem?_toArray, List.getElem?_cons_zero, List.getElem?_cons_succ]; rfl) (by kernel_rfl) (by kernel_rfl) (by kernel_rfl) (by intro _ _ _ h; exact h) (Or.inl ⟨by rfl, ?_⟩) hHeld ?_
      rotate_left
      · (intro w hSw; (try dsimp only at hSw); go_simp; try with_reducible rfl)
      try simp only [Act.put, List.setIfInBounds_toArray, List.set_cons_zero, List.set_cons_succ]
      refine wpAnyH_take (i := 4) (v := ?_) (by simp only [List.getElem?_toArray, List.getElem?_cons_zero, List.getElem?_cons_succ]; rfl) (by kernel_rfl) (by kernel_rfl) (by kernel_rfl) (by intro _ _ _ h; exact h) (Or.inl ⟨by rfl, ?_⟩) hHeld ?_
      rotate_left
      · (intro w hSw; (try dsimp only at hSw); go_simp; try with_reducible rfl)
      try simp only [Act.put, List.setIfInBounds_toArray, List.set_cons_zero, List.set_cons_succ]
      refine wpAnyH_take (i := 5) (v := _) (by simp only [List.getElem?_toArray, List.getElem?_cons_zero, List.getElem?_cons_succ]; rfl) (by kernel_rfl) (by kernel_rfl) (by kernel_rfl) (by intro _ _ _ h; exact h) (yieldsIf_load_mid (by rfl) 26 (.tmp 37) rfl g (off + j * 38 + 1) rfl (u8l E.k) _ (fun _ h => h.1) Try.underlying26 rfl HKL.out) hHeld ?_
      try simp only [Act.put, List.setIfInBounds_toArray, List.set_cons_zero, List.set_cons_succ]
      refine wpAnyH_take (i := 6) (v := ?_) (by simp only [List.getElem?_toArray, List.getElem?_cons_zero, List.getElem?_cons_succ]; rfl) (by kernel_rfl) (by kernel_rfl) (by kernel_rfl) (by intro _ _ _ h; exact h) (Or.inl ⟨by rfl, ?_⟩) hHeld ?_
      rotate_left
      · (intro w hSw; (try dsimp only at hSw); go_simp; try with_reducible rfl)
      try simp only [Act.put, List.setIfInBounds_toArray, List.set_cons_zero, List.set_cons_succ]
      refine wpAnyH_take (i := 7) (v := ?_) (by simp only [List.getElem?_toArray, List.getElem?_cons_zero, List.getElem?_cons_succ]; rfl) (by kernel_rfl) (by kernel_rfl) (by kernel_rfl) (by intro _ _ _ h; exact h) (Or.inl ⟨by rfl, ?_⟩) hHeld ?_
      rotate_left
      · (intro w hSw; (try dsimp only at hSw); go_simp; try with_reducible rfl)
      try simp only [Act.put, List.setIfInBounds_toArray, List.set_cons_zero, List.set_cons_succ]
      refine wpAnyH_take (i := 8) (v := ?_) (by simp only [List.getElem?_toArray, List.getElem?_cons_zero, List.getElem?_cons_succ]; rfl) (by kernel_rfl) (by kernel_rfl) (by kernel_rfl) (by intro _ _ _ h; exact h) (Or.inl ⟨by rfl, ?_⟩) hHeld ?_
      rotate_left
      · (intro w hSw; (try dsimp only at hSw); go_simp; try with_reducible rfl)
      try simp only [Act.put, List.setIfInBounds_toArray, List.set_cons_zero, List.set_cons_succ]
      refine wpAnyH_take (i := 9) (v := ?_) (by simp only [List.getElem?_toArray, List.getElem?_cons_zero, List.getElem?_cons_succ]; rfl) (by kernel_rfl) (by kernel_rfl) (by kernel_rfl) (by intro _ _ _ h; exact h) (Or.inl ⟨by rfl, ?_⟩) hHeld ?_
      rotate_left
      · (intro w hSw; (try dsimp only at hSw); go_simp; try with_reducible rfl)
      try simp only [Act.put, List.setIfInBounds_toArray, List.set_cons_zero, List.set_cons_succ]
      refine wpAnyH_take (i := 10) (v := _) (by simp only [List.getElem?_toArray, List.getElem?_cons_zero, List.getElem?_cons_succ]; rfl) (by kernel_rfl) (by kernel_rfl) (by kernel_rfl) (by intro _ _ _ h; exact h) (yieldsIf_load_mid (by rfl) 28 (.tmp 42) rfl g (off + j * 38 + 33) rfl [.int .i64 E.q.a, .int .i64 E.q.n, .int .i64 E.q.u, .int .i64 E.q.r] _ (fun _ h => h.2) Try.underlying28 rfl sizePl) hHeld ?_
      try simp only [Act.put, List.setIfInBounds_toArray, List.set_cons_zero, List.set_cons_succ]
      refine wpAnyH_ready (rs := [11]) (by kernel_rfl) (by simp) ?_
      refine AllReadyH.cons (by simp only [List.getElem?_toArray, List.getElem?_cons_zero, List.getElem?_cons_succ]; rfl) (fun K hK => ?_) AllReadyH.nil
      rw [if_pos (by rfl)]
      go_simp
      refine (add10 p B (addAll (l.take j) []) E.k E.q wr.drew HKE.out (HSb.out.ix.drewN 1) HRL.out).mono ?_
      rintro e w4 ⟨rfl, hi, hkp⟩
      have HSb := Lib.hid ((HSb.out.below (w' := wr.drew) (below_drewN (Below.refl _ _) 1)).turn hi hkp)
      clear hi hkp
      refine hK.out _ _ (HS.out _ HSb.out.old) (fun hHeld => ?_)
      clear hK K
      try simp only [Act.put, List.setIfInBounds_toArray, List.set_cons_zero, List.set_cons_succ]
      refine wpAnyH_done (by kernel_rfl) ?_ _
      clear hHeld
      rw [← HTK.out] at HSb
      go_wp2_with fail
      exact ⟨⟨j + 1, by omega, by push_cast; rfl, HSb.out⟩, by simp [intOf]; omega⟩
    obtain rfl : j = n := by omega
    obtain ⟨R0, hR0⟩ : ∃ R, R = addAll l [] := ⟨_, rfl⟩
    have HRL : Hid (R0.length ≤ 100) := Lib.hid (by have h1 := len_addAll l []; have h3 := HLL.out; rw [← hR0] at h1; simp at h1; omega)
    have HRR : Hid (Rise R0) := Lib.hid (by rw [hR0]; exact rise_addAll HLK.out List.Pairwise.nil)
    rw [show l.take j = l from by rw [← HLL.out, List.take_length], ← hR0] at HSb
    clear hR0 HLA HLK HLL hlt hj HL HA
    go_wp2_with fail
    refine (items11 p B R0 wr HSb.out.ix (by have := HRL.out; omega)).mono ?_
    rintro e w4 ⟨⟨v9, rfl, ho9⟩, hb4⟩
    have HBB : Hid (B < wr.heap.size) := Lib.hid HSb.out.ix.lt.2
    have HSb := Lib.hid (HSb.out.below hb4)
    obtain ⟨A9, c9, rfl⟩ := row_shapeS ho9
    have HO9 := Lib.hid ho9
    have HDL := Lib.hid (deed_len D HK.out)
    have HSZ : Hid ((Try.prog.info? 30).map (·.size) = some D.cells.length) := Lib.hid (by rw [HDL.out]; kernel_rfl)
    have HKL : Hid ((Try.prog.info? 26).map (·.size) = some (u8l D.k).length) := Lib.hid (by rw [u8l_len, HK.out.len]; exact infoKey)
    clear ho9 hb4
    obtain ⟨N, hN⟩ : ∃ N, N = R0.length := ⟨_, rfl⟩
    have HNR := Lib.hid hN
    rw [← hN] at HO9 ⊢
    clear hN
    obtain ⟨S9, hS9⟩ : ∃ s, s = wr.heap.size := ⟨_, rfl⟩
    rw [← hS9] at HO9 HBB
    clear hS9
    have HKW : Hid (∀ V : World, V.heap[bD]? = some (.cells dc 30 (0, 0)) → V.rangeAt bD 1 (u8l D.k)) := Lib.hid fun V h => by
      rw [HDC.out] at h
      have h2 := (deed_at HK.out (range_of h)).2.1
      rwa [Nat.zero_add] at h2
    have HX := Lib.hid HSb.out.ix
    have K1 : Hid (Keeps (fun z => z = B) w4 w4) := Lib.hid (Keeps.refl _ _)
    have HKD : Hid (∀ V, Keeps (fun z => z = B) w4 V → V.rangeAt bD 1 (u8l D.k)) := Lib.hid fun V h => HKW.out V (h.heap HSb.out.d (fun e => HSb.out.g.2.2.2 e.symm))
    have HWAS : Hid (∀ V, Keeps (fun z => z = B) w4 V → SArr V V.heap.size A9 N 73 fun i => cellsIt (itE R0[i]!)) := Lib.hid fun V h => by
      have h1 := h.row HO9.out (fun k hk e => by have := (row_lt HO9.out hk).1; have := HBB.out; omega)
      obtain ⟨A', c', e, hs, _⟩ := srow_arr (wideE _) h1
      injection e with e1 e2 e3
      rw [e1]; exact hs
    have HOLD : Hid (∀ V, Keeps (fun z => z = B) w4 V → Below W.heap.size W V) := Lib.hid fun V h => HSb.out.old.trans (h.below (fun z hz => by rw [hz]; exact HSb.out.g.2.1) HSb.out.g.2.2.1)
    clear HO9 HSb HKW HDC
    cases hlook : lookR D.k R0 with
    | none =>
      obtain ⟨q0, hq0⟩ : ∃ q : Pl, q = ⟨0, 0, 0, 0⟩ := ⟨_, rfl⟩
      obtain ⟨hW1, hW2, hM1, hM2⟩ := none_want hlook st
      have HW1 := Lib.hid hW1
      have HW2 := Lib.hid hW2
      have HM1 := Lib.hid hM1
      have HM2 := Lib.hid hM2
      have HLK0 := Lib.hid hlook
      clear hW1 hW2 hM1 hM2 hlook
      go_wp2_with (refine wpList_load_midG rfl 26 _ rfl bD 1 rfl (u8l D.k) _ (HKD.out _ K1.out) Try.underlying26 rfl HKL.out ?_)
      refine (get19 p B R0 D.k _ HK.out HX.out (by have := HRL.out; omega)).mono ?_
      rw [HLK0.out]
      rintro e w5 ⟨rfl, hb⟩
      have HX := Lib.hid (HX.out.below hb)
      have K1 := Lib.hid (K1.out.trans (Keeps.fresh (S := fun z => z = B) hb) (fun _ _ h => h))
      clear hb
      dsimp only [Option.getD, Option.isSome]
      rw [← hq0]
      clear hq0
      go_upto_region 12 with fail
      obtain ⟨w6, hwa⟩ : ∃ z, z = w5.alloc (.cells #[.int .i64 q0.a, .int .i64 q0.n, .int .i64 q0.u, .int .i64 q0.r] 28) := ⟨_, rfl⟩
      have BA : Hid (Below w5.heap.size w5 w6) := Lib.hid (by rw [hwa]; exact (Below.refl _ _).alloc (Nat.le_refl _) _)
      have HX := Lib.hid (HX.out.below BA.out)
      have K1 := Lib.hid (K1.out.trans (Keeps.fresh (S := fun z => z = B) BA.out) (fun _ _ h => h))
      rw [← hwa]
      clear hwa BA
      go_wp2_with (refine wpList_load_midG rfl 26 _ rfl bD 1 rfl (u8l D.k) _ (HKD.out _ K1.out) Try.underlying26 rfl HKL.out ?_)
      refine (want17 p B R0 D.k st _ HK.out HX.out (by have := HRL.out; omega) HST.out).mono ?_
      rw [HW1.out, HW2.out]
      rintro e w7 ⟨rfl, hi, hk⟩
      have HX := Lib.hid hi
      have K1 := Lib.hid (K1.out.trans hk (fun _ _ h => h))
      clear hi hk
      go_wp2_with (refine wpList_load_midG rfl 26 _ rfl bD 1 rfl (u8l D.k) _ (HKD.out _ K1.out) Try.underlying26 rfl HKL.out ?_)
      refine (move15 p B R0 D.k st _ HK.out HX.out (by have := HRL.out; omega)).mono ?_
      rw [HM1.out, HM2.out]
      rintro e w8 ⟨rfl, hi, hk⟩
      have HX := Lib.hid hi
      have K1 := Lib.hid (K1.out.trans hk (fun _ _ h => h))
      clear hi hk
      go_wp2_with fail
      refine (items11 p B R0 _ HX.out (by have := HRL.out; omega)).mono ?_
      rintro e w9 ⟨⟨vw9, rfl, ho⟩, hb⟩
      obtain ⟨A6, c6, rfl, hs, _, _, _⟩ := srow_arr (wideE _) ho
      have HX := Lib.hid (HX.out.below hb)
      have K1 := Lib.hid (K1.out.trans (Keeps.fresh (S := fun z => z = B) hb) (fun _ _ h => h))
      have HS6 := Lib.hid hs
      clear ho hb hs
      rw [← HNR.out] at HS6 ⊢
      go_wp2_with fail
      refine (sameIt (fun i => itE R0[i]!) A6 A9 N c6 c9 _ _ _ (by have := HRL.out; have := HNR.out; omega) HS6.out (HWAS.out _ K1.out)).mono ?_
      rintro e _ ⟨rfl, m, rfl⟩
      go_wp2_with fail
      go_ret
      exact ⟨rfl, below_drewN (HOLD.out _ K1.out) m⟩
    | some q =>
      have HMAY := Lib.hid (may_true.1 (look_may hlook))
      have HLK0 := Lib.hid hlook
      clear hlook
      go_wp2_with (refine wpList_load_midG rfl 26 _ rfl bD 1 rfl (u8l D.k) _ (HKD.out _ K1.out) Try.underlying26 rfl HKL.out ?_)
      refine (get19 p B R0 D.k _ HK.out HX.out (by have := HRL.out; omega)).mono ?_
      rw [HLK0.out]
      rintro e w5 ⟨rfl, hb⟩
      have HX := Lib.hid (HX.out.below hb)
      have K1 := Lib.hid (K1.out.trans (Keeps.fresh (S := fun z => z = B) hb) (fun _ _ h => h))
      clear hb
      dsimp only [Option.getD, Option.isSome]
      go_upto_region 12 with fail
      obtain ⟨bq, hbq⟩ : ∃ z, z = w5.heap.size := ⟨_, rfl⟩
      obtain ⟨w5a, hwa⟩ : ∃ z, z = w5.alloc (.cells #[.int .i64 q.a, .int .i64 q.n, .int .i64 q.u, .int .i64 q.r] 28) := ⟨_, rfl⟩
      have BA : Hid (Below w5.heap.size w5 w5a) := Lib.hid (by rw [hwa]; exact (Below.refl _ _).alloc (Nat.le_refl _) _)
      have HQB : Hid (w5a.heap[bq]? = some (.cells (plc q).toArray 28 (0, 0))) := Lib.hid (by rw [hwa]; exact heap_new_at _ hbq)
      have NQB : Hid (¬ bq = B) := Lib.hid (by have h1 := HX.out.lt.2; omega)
      have HX := Lib.hid (HX.out.below BA.out)
      have K1 := Lib.hid (K1.out.trans (Keeps.fresh (S := fun z => z = B) BA.out) (fun _ _ h => h))
      rw [← hwa, ← hbq]
      clear hwa hbq BA
      have KQ := Lib.hid K1.out
      have HQ3 : Hid (∀ V, Keeps (fun z => z = B) w5a V → V.cell? ⟨bq, 3, none⟩ = some (.int .i64 q.r) ∧ V.rangeAt bq 0 [.int .i64 q.a, .int .i64 q.n, .int .i64 q.u, .int .i64 q.r]) := Lib.hid fun V h => ⟨block_cell (h.heap HQB.out NQB.out) 3 _ rfl, range_of (h.heap HQB.out NQB.out)⟩
      have K5 : Hid (Keeps (fun z => z = B) w5a w5a) := Lib.hid (Keeps.refl _ _)
      go_wp2_with fail
      refine (pick9 st 1000 _ (by omega) (by omega)).mono ?_
      rintro e _ ⟨rfl, rfl⟩
      obtain ⟨m, hm⟩ : ∃ m, m = st % 1000 := ⟨_, rfl⟩
      have hm1 : 0 ≤ m ∧ m < 1000 := by omega
      rw [← hm]
      clear hm
      obtain ⟨kk, hkk⟩ : ∃ k, 1 + m = k := ⟨_, rfl⟩
      have HKK : Hid (1 ≤ kk ∧ kk ≤ 1000) := Lib.hid (by omega)
      have hw1 : IntKind.i64.wrap (1 + m) = kk := by rw [hkk]; exact IntWalk.i64_in _ (by omega)
      have hw2 : IntKind.i64.wrap (2147483647 - kk) = 2147483647 - kk := IntWalk.i64_in _ (by omega)
      clear hkk hm1
      by_cases hle : q.r ≤ 2147483647 - kk
      rotate_left
      · obtain ⟨hW1, hW2⟩ := want_no (x := kk) HLK0.out (by omega)
        have HW1 := Lib.hid hW1
        have HW2 := Lib.hid hW2
        clear hW1 hW2
        go_wp2_with (refine wpList_load_midG rfl 26 _ rfl bD 1 rfl (u8l D.k) _ (HKD.out _ K1.out) Try.underlying26 rfl HKL.out ?_)
        refine (want17 p B R0 D.k kk _ HK.out HX.out (by have := HRL.out; omega) (by have := HKK.out; omega)).mono ?_
        rw [HW1.out, HW2.out]
        rintro e w7 ⟨rfl, hi, hk⟩
        have HX := Lib.hid hi
        have K1 := Lib.hid (K1.out.trans hk (fun _ _ h => h))
        have K5 := Lib.hid (K5.out.trans hk (fun _ _ h => h))
        clear hi hk
        have cq := (HQ3.out _ K5.out).1
        have HNL := Lib.hid hle
        have hgt : decide (q.r > 2147483647 - kk) = true := decide_eq_true (by omega)
        clear hle
        go_wp2_with fail
        refine (items11 p B R0 _ HX.out (by have := HRL.out; omega)).mono ?_
        rintro e w9 ⟨⟨vw9, rfl, ho⟩, hb⟩
        obtain ⟨A6, c6, rfl, hs, _, _, _⟩ := srow_arr (wideE _) ho
        have HX := Lib.hid (HX.out.below hb)
        have K1 := Lib.hid (K1.out.trans (Keeps.fresh (S := fun z => z = B) hb) (fun _ _ h => h))
        have HS6 := Lib.hid hs
        clear ho hb hs
        rw [← HNR.out] at HS6 ⊢
        go_wp2_with fail
        refine (sameIt (fun i => itE R0[i]!) A6 A9 N c6 c9 _ _ _ (by have := HRL.out; have := HNR.out; omega) HS6.out (HWAS.out _ K1.out)).mono ?_
        rintro e _ ⟨rfl, m, rfl⟩
        go_wp2_with fail
        go_ret
        exact ⟨rfl, below_drewN (HOLD.out _ K1.out) m⟩
      obtain ⟨R1, R2, R3, rr, hP⟩ := backP HRR.out HK.out HLK0.out HKK.out.1 hle
      have HP := Lib.hid hP
      clear hP
      go_wp2_with (refine wpList_load_midG rfl 26 _ rfl bD 1 rfl (u8l D.k) _ (HKD.out _ K1.out) Try.underlying26 rfl HKL.out ?_)
      refine (want17 p B R0 D.k kk _ HK.out HX.out (by have := HRL.out; omega) (by have := HKK.out; omega)).mono ?_
      rw [HP.out.e1, HP.out.r1]
      rintro e w7 ⟨rfl, hi, hk⟩
      have HX := Lib.hid hi
      have K1 := Lib.hid (K1.out.trans hk (fun _ _ h => h))
      have K5 := Lib.hid (K5.out.trans hk (fun _ _ h => h))
      clear hi hk
      have cq := (HQ3.out _ K5.out).1
      have hgt : decide (q.r > 2147483647 - kk) = false := decide_eq_false (by omega)
      have hbq := HMAY.out.2.2.2
      have hbk := HKK.out
      have hw3 : IntKind.i64.wrap (q.r + kk) = q.r + kk := IntWalk.i64_in _ (by omega)
      have hw4 : IntKind.i64.wrap (-kk) = -kk := IntWalk.i64_in _ (by omega)
      go_wp2_with (refine wpList_load_midG rfl 26 _ rfl bD 1 rfl (u8l D.k) _ (HKD.out _ K1.out) Try.underlying26 rfl HKL.out ?_)
      refine (get19 p B R1 D.k _ HK.out HX.out (by have := HRL.out; have := HP.out.n1; omega)).mono ?_
      rw [HP.out.l1]
      rintro e w8 ⟨rfl, hb⟩
      have HX := Lib.hid (HX.out.below hb)
      have K1 := Lib.hid (K1.out.trans (Keeps.fresh (S := fun z => z = B) hb) (fun _ _ h => h))
      have K5 := Lib.hid (K5.out.trans (Keeps.fresh (S := fun z => z = B) hb) (fun _ _ h => h))
      clear hb
      dsimp only [Option.getD, Option.isSome]
      go_upto_region 19 with fail
      obtain ⟨b14, hb14⟩ : ∃ z, z = w8.heap.size := ⟨_, rfl⟩
      obtain ⟨w8a, hwa⟩ : ∃ z, z = w8.alloc (.cells #[.int .i64 q.a, .int .i64 q.n, .int .i64 q.u, .int .i64 (q.r + kk)] 28) := ⟨_, rfl⟩
      have BA : Hid (Below w8.heap.size w8 w8a) := Lib.hid (by rw [hwa]; exact (Below.refl _ _).alloc (Nat.le_refl _) _)
      have cb14 : w8a.cell? ⟨b14, 3, none⟩ = some (.int .i64 (q.r + kk)) := by rw [hwa]; exact block_cell (heap_new_at _ hb14) 3 _ rfl
      have HX := Lib.hid (HX.out.below BA.out)
      have K1 := Lib.hid (K1.out.trans (Keeps.fresh (S := fun z => z = B) BA.out) (fun _ _ h => h))
      have K5 := Lib.hid (K5.out.trans (Keeps.fresh (S := fun z => z = B) BA.out) (fun _ _ h => h))
      rw [← hwa, ← hb14]
      clear hwa hb14 BA
      clear cq
      have cq := (HQ3.out _ K5.out).1
      by_cases hqr : 0 < q.r
      · obtain ⟨hA1, hA2, hA3⟩ := HP.out.a2 hqr
        have HA1 := Lib.hid hA1
        have HA2 := Lib.hid hA2
        have HA3 := Lib.hid hA3
        have hqd : decide (q.r > 0) = true := decide_eq_true (by omega)
        clear hA1 hA2 hA3
        go_wp2_with (refine wpList_load_midG rfl 26 _ rfl bD 1 rfl (u8l D.k) _ (HKD.out _ K1.out) Try.underlying26 rfl HKL.out ?_)
        refine (want17 p B R1 D.k (-kk) _ HK.out HX.out (by have := HRL.out; have := HP.out.n1; omega) (by have := HKK.out; omega)).mono ?_
        rw [HA1.out, HA2.out]
        rintro e w9 ⟨rfl, hi, hk⟩
        have HX := Lib.hid hi
        have K1 := Lib.hid (K1.out.trans hk (fun _ _ h => h))
        have K5 := Lib.hid (K5.out.trans hk (fun _ _ h => h))
        clear hi hk
        go_wp2_with fail
        refine (items11 p B R0 _ HX.out (by have := HRL.out; omega)).mono ?_
        rintro e w10 ⟨⟨vw10, rfl, ho⟩, hb⟩
        obtain ⟨A6, c6, rfl, hs, _, _, _⟩ := srow_arr (wideE _) ho
        have HX := Lib.hid (HX.out.below hb)
        have K1 := Lib.hid (K1.out.trans (Keeps.fresh (S := fun z => z = B) hb) (fun _ _ h => h))
        have K5 := Lib.hid (K5.out.trans (Keeps.fresh (S := fun z => z = B) hb) (fun _ _ h => h))
        have HS6 := Lib.hid hs
        clear ho hb hs
        rw [← HNR.out] at HS6 ⊢
        go_wp2_with fail
        refine (sameIt (fun i => itE R0[i]!) A6 A9 N c6 c9 _ _ _ (by have := HRL.out; have := HNR.out; omega) HS6.out (HWAS.out _ K1.out)).mono ?_
        rintro e _ ⟨rfl, m, rfl⟩
        have HX := Lib.hid (HX.out.below (below_drewN (Below.refl _ _) m))
        have K1 := Lib.hid (K1.out.trans (Keeps.drewN (fun z => z = B) _ m) (fun _ _ h => h))
        have K5 := Lib.hid (K5.out.trans (Keeps.drewN (fun z => z = B) _ m) (fun _ _ h => h))
        obtain ⟨w11, hw11⟩ : ∃ z, z = w10.drewN m := ⟨_, rfl⟩
        rw [← hw11] at HX K1 K5 ⊢
        clear hw11
        rw [← HA3.out] at HX
        clear cq
        have cq := (HQ3.out _ K5.out).1
        clear hw1 hw2 hw3 hw4 hgt
        go_wp2_with (refine wpList_load_midG rfl 26 _ rfl bD 1 rfl (u8l D.k) _ (HKD.out _ K1.out) Try.underlying26 rfl HKL.out ?_)
        refine (get19 p B R2 D.k _ HK.out HX.out (by have := HRL.out; have := HP.out.n2; omega)).mono ?_
        rw [HP.out.l2]
        rintro e w12 ⟨rfl, hb⟩
        have HX := Lib.hid (HX.out.below hb)
        have K1 := Lib.hid (K1.out.trans (Keeps.fresh (S := fun z => z = B) hb) (fun _ _ h => h))
        have K5 := Lib.hid (K5.out.trans (Keeps.fresh (S := fun z => z = B) hb) (fun _ _ h => h))
        clear hb
        dsimp only [Option.getD, Option.isSome]
        go_upto_region 24 with fail
        obtain ⟨b16, hb16⟩ : ∃ z, z = w12.heap.size := ⟨_, rfl⟩
        obtain ⟨w12a, hwa⟩ : ∃ z, z = w12.alloc (.cells #[.int .i64 q.a, .int .i64 q.n, .int .i64 q.u, .int .i64 rr] 28) := ⟨_, rfl⟩
        have BA : Hid (Below w12.heap.size w12 w12a) := Lib.hid (by rw [hwa]; exact (Below.refl _ _).alloc (Nat.le_refl _) _)
        have cb16 : w12a.cell? ⟨b16, 3, none⟩ = some (.int .i64 rr) := by rw [hwa]; exact block_cell (heap_new_at _ hb16) 3 _ rfl
        have HX := Lib.hid (HX.out.below BA.out)
        have K1 := Lib.hid (K1.out.trans (Keeps.fresh (S := fun z => z = B) BA.out) (fun _ _ h => h))
        have K5 := Lib.hid (K5.out.trans (Keeps.fresh (S := fun z => z = B) BA.out) (fun _ _ h => h))
        rw [← hwa, ← hb16]
        clear hwa hb16 BA
        clear cq
        have cq := (HQ3.out _ K5.out).1
        have hrb := HP.out.rrb
        have hw5 : IntKind.i64.wrap (-rr) = -rr := IntWalk.i64_in _ (by omega)
        go_wp2_with (refine wpList_load_midG rfl 26 _ rfl bD 1 rfl (u8l D.k) _ (HKD.out _ K1.out) Try.underlying26 rfl HKL.out ?_)
        refine (want17 p B R2 D.k (-rr) _ HK.out HX.out (by have := HRL.out; have := HP.out.n2; omega) (by have := HP.out.rrb; omega)).mono ?_
        rw [HP.out.e3, HP.out.r3]
        rintro e w13 ⟨rfl, hi, hk⟩
        have HX := Lib.hid hi
        have K1 := Lib.hid (K1.out.trans hk (fun _ _ h => h))
        have K5 := Lib.hid (K5.out.trans hk (fun _ _ h => h))
        clear hi hk
        clear hw5 cb16 cq
        obtain ⟨q0, hq0⟩ : ∃ q : Pl, q = ⟨0, 0, 0, 0⟩ := ⟨_, rfl⟩
        go_wp2_with (refine wpList_load_midG rfl 26 _ rfl bD 1 rfl (u8l D.k) _ (HKD.out _ K1.out) Try.underlying26 rfl HKL.out ?_)
        refine (get19 p B R3 D.k _ HK.out HX.out (by have := HRL.out; have := HP.out.n3; omega)).mono ?_
        rw [HP.out.l3]
        rintro e w14 ⟨rfl, hb⟩
        have HX := Lib.hid (HX.out.below hb)
        have K1 := Lib.hid (K1.out.trans (Keeps.fresh (S := fun z => z = B) hb) (fun _ _ h => h))
        have K5 := Lib.hid (K5.out.trans (Keeps.fresh (S := fun z => z = B) hb) (fun _ _ h => h))
        clear hb
        dsimp only [Option.getD, Option.isSome]
        rw [← hq0]
        clear hq0
        go_upto_region 26 with fail
        obtain ⟨w15, hwa⟩ : ∃ z, z = w14.alloc (.cells #[.int .i64 q0.a, .int .i64 q0.n, .int .i64 q0.u, .int .i64 q0.r] 28) := ⟨_, rfl⟩
        have BA : Hid (Below w14.heap.size w14 w15) := Lib.hid (by rw [hwa]; exact (Below.refl _ _).alloc (Nat.le_refl _) _)
        have HX := Lib.hid (HX.out.below BA.out)
        have K1 := Lib.hid (K1.out.trans (Keeps.fresh (S := fun z => z = B) BA.out) (fun _ _ h => h))
        have K5 := Lib.hid (K5.out.trans (Keeps.fresh (S := fun z => z = B) BA.out) (fun _ _ h => h))
        rw [← hwa]
        clear hwa BA
        obtain ⟨N3, hN3⟩ : ∃ N, N = R3.length := ⟨_, rfl⟩
        have hNN : ((N : Nat) : Int) - 1 = (N3 : Int) := by have h1 := HP.out.n3; have h2 := HNR.out; omega
        have hNB : N ≤ 100 := by have := HRL.out; have := HNR.out; omega
        have hw6 : IntKind.i64.wrap ((N : Int) - 1) = (N3 : Int) := by rw [hNN]; exact IntWalk.i64_in _ (by omega)
        have HLEN : Hid (Calls Try.prog 12 #[.pointer (some ⟨p, 0, none⟩)] w15 fun e w' => e = .returned (.int .i64 (N3 : Nat)) ∧ w15 = w') := Lib.hid (by have := len12 p B R3 w15 HX.out; rwa [← hN3] at this)
        clear hN3
        go_wp2_with fail
        refine HLEN.out.mono ?_
        rintro e _ ⟨rfl, rfl⟩
        go_wp2_with (first | (refine wpList_load_midG rfl 26 _ rfl bD 1 rfl (u8l D.k) _ (HKD.out _ K1.out) Try.underlying26 rfl HKL.out ?_) | (refine wpList_load_midG rfl 28 _ rfl bq 0 rfl [.int .i64 q.a, .int .i64 q.n, .int .i64 q.u, .int .i64 q.r] _ (HQ3.out _ K5.out).2 Try.underlying28 rfl sizePl ?_))
        refine (add10 p B R3 D.k q w15 HK.out HX.out (by have := HRL.out; have := HP.out.n3; omega)).mono ?_
        rw [HP.out.e4, HP.out.r4]
        rintro e w16 ⟨rfl, hi, hk⟩
        have HX := Lib.hid hi
        have K1 := Lib.hid (K1.out.trans hk (fun _ _ h => h))
        clear hi hk hw6 hNN hNB
        go_wp2_with fail
        refine (items11 p B R0 _ HX.out (by have := HRL.out; omega)).mono ?_
        rintro e w17 ⟨⟨vw17, rfl, ho⟩, hb⟩
        obtain ⟨A7, c7, rfl, hs, _, _, _⟩ := srow_arr (wideE _) ho
        have HX := Lib.hid (HX.out.below hb)
        have K1 := Lib.hid (K1.out.trans (Keeps.fresh (S := fun z => z = B) hb) (fun _ _ h => h))
        have HS6 := Lib.hid hs
        clear ho hb hs
        rw [← HNR.out] at HS6 ⊢
        go_wp2_with fail
        refine (sameIt (fun i => itE R0[i]!) A7 A9 N c7 c9 _ _ _ (by have := HRL.out; have := HNR.out; omega) HS6.out (HWAS.out _ K1.out)).mono ?_
        rintro e _ ⟨rfl, m, rfl⟩
        go_wp2_with fail
        go_ret
        exact ⟨rfl, below_drewN (HOLD.out _ K1.out) m⟩
      · have hA3 := HP.out.b2 hqr
        have hqd : decide (q.r > 0) = false := decide_eq_false (by omega)
        rw [← hA3] at HX
        clear hA3
        clear hw1 hw2 hw3 hw4 hgt
        go_wp2_with (refine wpList_load_midG rfl 26 _ rfl bD 1 rfl (u8l D.k) _ (HKD.out _ K1.out) Try.underlying26 rfl HKL.out ?_)
        refine (get19 p B R2 D.k _ HK.out HX.out (by have := HRL.out; have := HP.out.n2; omega)).mono ?_
        rw [HP.out.l2]
        rintro e w12 ⟨rfl, hb⟩
        have HX := Lib.hid (HX.out.below hb)
        have K1 := Lib.hid (K1.out.trans (Keeps.fresh (S := fun z => z = B) hb) (fun _ _ h => h))
        have K5 := Lib.hid (K5.out.trans (Keeps.fresh (S := fun z => z = B) hb) (fun _ _ h => h))
        clear hb
        dsimp only [Option.getD, Option.isSome]
        go_upto_region 24 with fail
        obtain ⟨b16, hb16⟩ : ∃ z, z = w12.heap.size := ⟨_, rfl⟩
        obtain ⟨w12a, hwa⟩ : ∃ z, z = w12.alloc (.cells #[.int .i64 q.a, .int .i64 q.n, .int .i64 q.u, .int .i64 rr] 28) := ⟨_, rfl⟩
        have BA : Hid (Below w12.heap.size w12 w12a) := Lib.hid (by rw [hwa]; exact (Below.refl _ _).alloc (Nat.le_refl _) _)
        have cb16 : w12a.cell? ⟨b16, 3, none⟩ = some (.int .i64 rr) := by rw [hwa]; exact block_cell (heap_new_at _ hb16) 3 _ rfl
        have HX := Lib.hid (HX.out.below BA.out)
        have K1 := Lib.hid (K1.out.trans (Keeps.fresh (S := fun z => z = B) BA.out) (fun _ _ h => h))
        have K5 := Lib.hid (K5.out.trans (Keeps.fresh (S := fun z => z = B) BA.out) (fun _ _ h => h))
        rw [← hwa, ← hb16]
        clear hwa hb16 BA
        clear cq
        have cq := (HQ3.out _ K5.out).1
        have hrb := HP.out.rrb
        have hw5 : IntKind.i64.wrap (-rr) = -rr := IntWalk.i64_in _ (by omega)
        go_wp2_with (refine wpList_load_midG rfl 26 _ rfl bD 1 rfl (u8l D.k) _ (HKD.out _ K1.out) Try.underlying26 rfl HKL.out ?_)
        refine (want17 p B R2 D.k (-rr) _ HK.out HX.out (by have := HRL.out; have := HP.out.n2; omega) (by have := HP.out.rrb; omega)).mono ?_
        rw [HP.out.e3, HP.out.r3]
        rintro e w13 ⟨rfl, hi, hk⟩
        have HX := Lib.hid hi
        have K1 := Lib.hid (K1.out.trans hk (fun _ _ h => h))
        have K5 := Lib.hid (K5.out.trans hk (fun _ _ h => h))
        clear hi hk
        clear hw5 cb16 cq
        obtain ⟨q0, hq0⟩ : ∃ q : Pl, q = ⟨0, 0, 0, 0⟩ := ⟨_, rfl⟩
        go_wp2_with (refine wpList_load_midG rfl 26 _ rfl bD 1 rfl (u8l D.k) _ (HKD.out _ K1.out) Try.underlying26 rfl HKL.out ?_)
        refine (get19 p B R3 D.k _ HK.out HX.out (by have := HRL.out; have := HP.out.n3; omega)).mono ?_
        rw [HP.out.l3]
        rintro e w14 ⟨rfl, hb⟩
        have HX := Lib.hid (HX.out.below hb)
        have K1 := Lib.hid (K1.out.trans (Keeps.fresh (S := fun z => z = B) hb) (fun _ _ h => h))
        have K5 := Lib.hid (K5.out.trans (Keeps.fresh (S := fun z => z = B) hb) (fun _ _ h => h))
        clear hb
        dsimp only [Option.getD, Option.isSome]
        rw [← hq0]
        clear hq0
        go_upto_region 26 with fail
        obtain ⟨w15, hwa⟩ : ∃ z, z = w14.alloc (.cells #[.int .i64 q0.a, .int .i64 q0.n, .int .i64 q0.u, .int .i64 q0.r] 28) := ⟨_, rfl⟩
        have BA : Hid (Below w14.heap.size w14 w15) := Lib.hid (by rw [hwa]; exact (Below.refl _ _).alloc (Nat.le_refl _) _)
        have HX := Lib.hid (HX.out.below BA.out)
        have K1 := Lib.hid (K1.out.trans (Keeps.fresh (S := fun z => z = B) BA.out) (fun _ _ h => h))
        have K5 := Lib.hid (K5.out.trans (Keeps.fresh (S := fun z => z = B) BA.out) (fun _ _ h => h))
        rw [← hwa]
        clear hwa BA
        obtain ⟨N3, hN3⟩ : ∃ N, N = R3.length := ⟨_, rfl⟩
        have hNN : ((N : Nat) : Int) - 1 = (N3 : Int) := by have h1 := HP.out.n3; have h2 := HNR.out; omega
        have hNB : N ≤ 100 := by have := HRL.out; have := HNR.out; omega
        have hw6 : IntKind.i64.wrap ((N : Int) - 1) = (N3 : Int) := by rw [hNN]; exact IntWalk.i64_in _ (by omega)
        have HLEN : Hid (Calls Try.prog 12 #[.pointer (some ⟨p, 0, none⟩)] w15 fun e w' => e = .returned (.int .i64 (N3 : Nat)) ∧ w15 = w') := Lib.hid (by have := len12 p B R3 w15 HX.out; rwa [← hN3] at this)
        clear hN3
        go_wp2_with fail
        refine HLEN.out.mono ?_
        rintro e _ ⟨rfl, rfl⟩
        go_wp2_with (first | (refine wpList_load_midG rfl 26 _ rfl bD 1 rfl (u8l D.k) _ (HKD.out _ K1.out) Try.underlying26 rfl HKL.out ?_) | (refine wpList_load_midG rfl 28 _ rfl bq 0 rfl [.int .i64 q.a, .int .i64 q.n, .int .i64 q.u, .int .i64 q.r] _ (HQ3.out _ K5.out).2 Try.underlying28 rfl sizePl ?_))
        refine (add10 p B R3 D.k q w15 HK.out HX.out (by have := HRL.out; have := HP.out.n3; omega)).mono ?_
        rw [HP.out.e4, HP.out.r4]
        rintro e w16 ⟨rfl, hi, hk⟩
        have HX := Lib.hid hi
        have K1 := Lib.hid (K1.out.trans hk (fun _ _ h => h))
        clear hi hk hw6 hNN hNB
        go_wp2_with fail
        refine (items11 p B R0 _ HX.out (by have := HRL.out; omega)).mono ?_
        rintro e w17 ⟨⟨vw17, rfl, ho⟩, hb⟩
        obtain ⟨A7, c7, rfl, hs, _, _, _⟩ := srow_arr (wideE _) ho
        have HX := Lib.hid (HX.out.below hb)
        have K1 := Lib.hid (K1.out.trans (Keeps.fresh (S := fun z => z = B) hb) (fun _ _ h => h))
        have HS6 := Lib.hid hs
        clear ho hb hs
        rw [← HNR.out] at HS6 ⊢
        go_wp2_with fail
        refine (sameIt (fun i => itE R0[i]!) A7 A9 N c7 c9 _ _ _ (by have := HRL.out; have := HNR.out; omega) HS6.out (HWAS.out _ K1.out)).mono ?_
        rintro e _ ⟨rfl, m, rfl⟩
        go_wp2_with fail
        go_ret
        exact ⟨rfl, below_drewN (HOLD.out _ K1.out) m⟩
end Go.Proofs.Ytnindkpgmiafnaa
