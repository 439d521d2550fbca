/- Layer 25 (op): the document's side: are a write's rows right, is an op right? -/
import Derived.Test.YthdllbbjajddiaaGreatDoorRb
import Derived.Laws.BytesArg
import Derived.BigQuiet
set_option linter.all false
namespace Go.Proofs.YthdllbbjajddiaaGreatDoor
open Go.RowKit Go.Maps Go.WideMaps
def kindsK : List IntKind := List.replicate 32 .u8
theorem leafsK : leafs Tryz.prog 5 44 = some kindsK := by kernel_rfl
theorem keyKt : Tryz.prog.keyTypeAt 5 44 = true := by kernel_rfl
theorem eqgK : Tryz.prog.eqGuardType Tryz.prog.depth 44 = false := by kernel_rfl
theorem eqK {a b : List Int} (ha : KeyOk 32 a) (hb : KeyOk 32 b) (w : World) : EqRun Tryz.prog 44 (u8l a).toArray (u8l b).toArray w (decide (a = b)) := by
  obtain ⟨r, hr, hiff⟩ := eql_fits (P := Tryz.prog) (t := 44) (m := 5) (d := 5) (by omega) keyKt leafsK (xs := (u8l a).toArray) (ys := (u8l b).toArray) (by simp [Value.formed, Tryz.underlying44, u8l_len, ha.len]; kernel_rfl) (by simp [Value.formed, Tryz.underlying44, u8l_len, hb.len]; kernel_rfl) (fits_u8l ha) (fits_u8l hb) w
  have : r = decide (a = b) := by
    cases r with
    | true =>
      have := hiff.1 rfl
      have : a = b := u8l_inj (by simpa using this)
      simp [this]
    | false =>
      have h2 : ¬ a = b := fun e => by
        subst e
        have := hiff.2 rfl
        cases this
      simp [h2]
  rw [← this]
  exact ⟨hr⟩
theorem fr_placeO (f : ElF) {w : World} {b o : Nat} (h : w.rangeAt b o (cellsF f)) : w.rangeAt b (o + 32) [.int .i64 f.1.a, .int .i64 f.1.n, .int .i64 f.1.u, .int .i64 f.1.r] := by
  intro j v hj
  have := h (32 + j) v (by
    unfold cellsF frC
    rw [List.getElem?_append_right (by rw [u8l_len, f.2.key.len]; omega), u8l_len, f.2.key.len, Nat.add_sub_cancel_left]
    exact hj)
  rwa [← Nat.add_assoc] at this
theorem fr_keyO (f : ElF) {w : World} {b o : Nat} (h : w.rangeAt b o (cellsF f)) : w.rangeAt b o (u8l f.1.k) := by
  intro j v hj
  refine h j v ?_
  unfold cellsF frC
  rw [List.getElem?_append_left (by have := (List.getElem?_eq_some_iff.1 hj).1; exact this)]
  exact hj
theorem pu_slO (p : ElP) {w : World} {b o : Nat} (h : w.rangeAt b o (cellsP p)) : w.rangeAt b (o + 1) (slC p.1.k p.1.o p.1.m) ∧ w.cell? ⟨b, o, none⟩ = some (.int .i64 p.1.x) := by
  refine ⟨fun j v hj => ?_, h 0 _ rfl⟩
  have := h (1 + j) v (by
    unfold cellsP puC
    rw [List.getElem?_append_right (by simp), List.length_singleton, Nat.add_sub_cancel_left]
    exact hj)
  rwa [← Nat.add_assoc] at this
theorem cell_lt {w : World} {p : Addr} {v : Value} (h : w.cell? p = some v) : p.block < w.heap.size := by
  rcases Nat.lt_or_ge p.block w.heap.size with h' | h'
  · exact h'
  · simp [World.cell?, Array.getElem?_eq_none h'] at h
theorem rowsB_long {ns : List Fr} {ps : List Pu} (h : 18 < ns.length ∨ 18 < ps.length) : rowsB ns ps = false := by
  unfold rowsB
  rcases h with h | h
  · rw [decide_eq_false (by omega : ¬ ns.length ≤ 18), Bool.false_and, Bool.and_false]
  · rw [decide_eq_false (by omega : ¬ ps.length ≤ 18), Bool.and_false, Bool.and_false]
theorem key_in {I : Nat → ElF} {k : Nat} {x : List Int} : x ∈ (nl I k).map Fr.k ↔ ∃ j, j < k ∧ (I j).1.k = x := by
  unfold nl
  rw [List.map_map]
  constructor
  · intro h
    obtain ⟨j, hj, e⟩ := List.mem_map.1 h
    exact ⟨j, List.mem_range.1 hj, e⟩
  · rintro ⟨j, hj, e⟩
    exact List.mem_map.2 ⟨j, List.mem_range.2 hj, e⟩
set_option maxRecDepth 100000 in
set_option maxHeartbeats 4000000 in
theorem rwrite31 (I : Nat → ElF) (P : Nat → ElP) (kd x n s : Int) (A1 : Option Addr) (n1 c1 : Nat) (A2 : Option Addr) (n2 c2 : Nat) (W : World) (hn1 : n1 ≤ 1000000000000) (hn2 : n2 ≤ 1000000000000)
    (ha1 : SArr W W.heap.size A1 n1 36 fun i => cellsF (I i)) (ha2 : SArr W W.heap.size A2 n2 35 fun i => cellsP (P i)) :
    Calls Tryz.prog 29 #[opV kd x n s A1 n1 c1 A2 n2 c2] W fun e W' => e = .returned (.bool (rowsB (nl I n1) (pl P n2))) ∧ Below W.heap.size W W' := by
  have H1 := Lib.hid ha1
  have H2 := Lib.hid ha2
  obtain ⟨R, hR⟩ : ∃ R, R = rowsB (nl I n1) (pl P n2) := ⟨_, rfl⟩
  have HR := Lib.hid hR
  rw [← hR]
  clear ha1 ha2 hR
  unfold opV
  go_enter Tryz.func29, Tryz.ntmps29
  go_upto_region 1 with fail
  obtain ⟨w1, hw1⟩ : ∃ w1, w1 = W.alloc (.cells #[.int .u8 kd, .int .i64 x, .int .i64 n, .int .i64 s, .slice A1 n1 c1, .slice A2 n2 c2] 26) := ⟨_, rfl⟩
  have Q1 : Hid (w1.heap[W.heap.size]? = some (.cells #[.int .u8 kd, .int .i64 x, .int .i64 n, .int .i64 s, .slice A1 n1 c1, .slice A2 n2 c2] 26 (0, 0))) := Lib.hid (by rw [hw1]; exact heap_new W _)
  have B1 : Hid (Below W.heap.size W w1) := Lib.hid (by rw [hw1]; exact (Below.refl _ _).alloc (Nat.le_refl _) _)
  rw [← hw1]
  obtain ⟨q0, hq0⟩ : ∃ q, q = W.heap.size := ⟨_, rfl⟩
  rw [← hq0] at Q1 ⊢
  have c4 : w1.cell? ⟨q0, 4, none⟩ = some (.slice A1 n1 c1) := block_cell Q1.out 4 _ rfl
  have c5 : w1.cell? ⟨q0, 5, none⟩ = some (.slice A2 n2 c2) := block_cell Q1.out 5 _ rfl
  have BW : Hid (∀ wr, Below w1.heap.size w1 wr → Below W.heap.size W wr) := Lib.hid fun wr h => B1.out.trans (h.mono B1.out.size)
  have QW : Hid (∀ wr, Below w1.heap.size w1 wr → wr.heap[q0]? = some (.cells #[.int .u8 kd, .int .i64 x, .int .i64 n, .int .i64 s, .slice A1 n1 c1, .slice A2 n2 c2] 26 (0, 0))) := Lib.hid fun wr h => (h.block q0 (heap_lt Q1.out)).trans Q1.out
  clear hw1 hq0
  by_cases g1 : 18 < n1
  · have t1 : decide ((18 : Int) < n1) = true := by simp; omega
    have HF : Hid (false = R) := Lib.hid (by rw [HR.out, rowsB_long (.inl (by rw [nl_len]; exact g1))])
    clear g1
    go_wp2_with fail
    go_ret
    exact ⟨ret_bool HF.out, B1.out⟩
  have t1 : decide ((18 : Int) < n1) = false := by simp; omega
  by_cases g2 : 18 < n2
  · have t2 : decide ((18 : Int) < n2) = true := by simp; omega
    have HF : Hid (false = R) := Lib.hid (by rw [HR.out, rowsB_long (.inr (by rw [pl_len]; exact g2))])
    clear g1 g2
    go_wp2_with fail
    go_ret
    exact ⟨ret_bool HF.out, B1.out⟩
  have t2 : decide ((18 : Int) < n2) = false := by simp; omega
  have m1 : n1 ≤ 18 := by omega
  have m2 : n2 ≤ 18 := by omega
  clear g1 g2
  go_wp2_with fail
  clear c4 c5 t1 t2
  go_loopw [3] (fun i wr => ∃ k : Nat, k ≤ n1 ∧ i = .int .i64 k ∧ Below w1.heap.size w1 wr ∧ newsOk (nl I k) = true) (fun i _ => n1 - (intOf i).toNat)
  case atStart => exact ⟨0, Nat.zero_le _, rfl, Below.refl _ _, rfl⟩
  case round =>
    obtain ⟨k, hk, rfl, hb, hok⟩ := hrel
    have HB := Lib.hid hb
    have HOK := Lib.hid hok
    clear hb hok
    have c4 : wr.cell? ⟨q0, 4, none⟩ = some (.slice A1 n1 c1) := block_cell (QW.out _ HB.out) 4 _ rfl
    by_cases hlt : k < n1
    · obtain ⟨b, off, rfl, hb, hc⟩ := (H1.out.below (BW.out _ HB.out) (Nat.le_refl _)) (by omega)
      have HC : Hid (wr.rangeAt b (off + k * 36) (cellsF (I k))) := Lib.hid (hc k hlt)
      have HPL := Lib.hid (fr_placeO (I k) HC.out)
      have HKB : Hid (newsOk (nl I (k + 1)) = (frB (I k).1 && decide ((I k).1.k ∉ (nl I k).map Fr.k))) := Lib.hid (by rw [nl_s, newsOk_snoc, HOK.out, Bool.true_and])
      have FAIL : Hid ((frB (I k).1 = false ∨ (I k).1.k ∈ (nl I k).map Fr.k) → R = false) := Lib.hid fun h => by
        rw [HR.out]
        refine rowsB_news (newsOk_false I (k := k + 1) ?_ n1 hlt)
        rw [HKB.out]
        rcases h with h | h
        · rw [h]; rfl
        · rw [decide_eq_false (fun h2 => h2 h), Bool.and_false]
      have FP := Lib.hid (fr_pl (I k).1)
      have i1 : (0 : Int) ≤ k := by omega
      have i2 : (k : Int) < n1 := by omega
      have t3 : decide ((k : Int) < n1) = true := by simp; omega
      obtain ⟨f, hf⟩ : ∃ f, f = (I k).1 := ⟨_, rfl⟩
      rw [← hf] at HPL FP HKB FAIL
      have HFE := Lib.hid hf
      clear hc hf
      go_wp2_with (refine wpList_load_midG rfl 51 (.tmp 28) rfl b (off + k * 36 + 32) rfl [.int .i64 f.a, .int .i64 f.n, .int .i64 f.u, .int .i64 f.r] _ HPL.out Tryz.underlying51 rfl infoPl ?_)
      refine (place56 f.a f.n f.u f.r wr).mono ?_
      rw [← FP.out]
      rintro e w2 ⟨rfl, hb2⟩
      have HB2 := Lib.hid (HB.out.trans (hb2.mono HB.out.size))
      clear hb2
      cases hfr : frB f with
      | false =>
        have HF : Hid (false = R) := Lib.hid (FAIL.out (.inl hfr)).symm
        clear hfr t3 c4
        go_wp2_with fail
        go_ret
        exact ⟨ret_bool HF.out, BW.out _ HB2.out⟩
      | true =>
        have HFR := Lib.hid hfr
        clear hfr c4 HC HPL
        go_wp2_with fail
        go_loopw [4] (fun y wx => ∃ j : Nat, j ≤ k ∧ y = .int .i64 j ∧ (∀ t, t < j → (I t).1.k ≠ f.k) ∧ Below w1.heap.size w1 wx) (fun y _ => k - (intOf y).toNat)
        case atStart => exact ⟨0, Nat.zero_le _, rfl, fun t h => absurd h (by omega), HB2.out⟩
        case round =>
          obtain ⟨j, hj, rfl, hne, hb3⟩ := hrel
          have HNE := Lib.hid hne
          have HB3 := Lib.hid hb3
          clear hne hb3 HB HB2
          have c4 : wr.cell? ⟨q0, 4, none⟩ = some (.slice (some ⟨b, off, none⟩) n1 c1) := block_cell (QW.out _ HB3.out) 4 _ rfl
          by_cases hjk : j < k
          · obtain ⟨b', off', e', hb', hc⟩ := (H1.out.below (BW.out _ HB3.out) (Nat.le_refl _)) (by omega)
            obtain ⟨rfl, rfl⟩ : b = b' ∧ off = off' := by simpa using e'
            have R1 : Hid (wr.drew.rangeAt b (off + j * 36) (u8l (I j).1.k)) := Lib.hid (fr_keyO (I j) (hc j (by omega)))
            have R2 : Hid (wr.drew.rangeAt b (off + k * 36) (u8l f.k)) := Lib.hid (by have h9 := fr_keyO (I k) (hc k hlt); rw [← HFE.out] at h9; exact h9)
            have HKJ := Lib.hid (I j).2.key
            have HKK : Hid (KeyOk 32 f.k) := Lib.hid (by rw [HFE.out]; exact (I k).2.key)
            have HEQ := Lib.hid fun W => eqK HKJ.out HKK.out W
            obtain ⟨kj, hkj⟩ : ∃ kj, kj = (I j).1.k := ⟨_, rfl⟩
            rw [← hkj] at R1 HKJ HEQ
            have HKE := Lib.hid hkj
            have L1 : Hid ((Tryz.prog.info? 44).map (·.size) = some (u8l kj).length) := Lib.hid (by rw [u8l_len, HKJ.out.len]; exact infoKey)
            have L2 : Hid ((Tryz.prog.info? 44).map (·.size) = some (u8l f.k).length) := Lib.hid (by rw [u8l_len, HKK.out.len]; exact infoKey)
            obtain ⟨q, hq⟩ : ∃ q, q = decide (kj = f.k) := ⟨_, rfl⟩
            rw [← hq] at HEQ
            have HQ := Lib.hid hq
            have t4 : decide ((j : Int) < k) = true := by simp; omega
            have j1 : (0 : Int) ≤ j := by omega
            have j2 : (j : Int) < n1 := by omega
            have C4 : Hid (wr.drew.cell? ⟨q0, 4, none⟩ = some (.slice (some ⟨b, off, none⟩) n1 c1)) := Lib.hid c4
            clear hc hkj hq e' c4
            go_wp2_with fail
            refine wp_region_held_drew (S := fun w' => w'.cell? ⟨q0, 4, none⟩ = some (.slice (some ⟨b, off, none⟩) n1 c1) ∧ w'.rangeAt b (off + j * 36) (u8l kj) ∧ w'.rangeAt b (off + k * 36) (u8l f.k)) follows ⟨C4.out, R1.out, R2.out⟩ (fun hHeld => ?_)
            refine wpAnyH_take (i := 0) (v := ?_) (by simp only [List.getElem?_toArray, List.getElem?_cons_zero]; rfl) (by kernel_rfl) (by kernel_rfl) (by kernel_rfl) (by intro _ _ _ h; exact h) (Or.inl ⟨by rfl, ?_⟩) hHeld ?_
            rotate_left
            · (intro w hSw; (try dsimp only at hSw); go_simp; try with_reducible rfl)
            try simp only [Act.put, List.setIfInBounds_toArray, List.set_cons_zero, List.set_cons_succ]
            refine wpAnyH_take (i := 1) (v := ?_) (by simp only [List.getElem?_toArray, List.getElem?_cons_zero, List.getElem?_cons_succ]; rfl) (by kernel_rfl) (by kernel_rfl) (by kernel_rfl) (by intro _ _ _ h; exact h) (Or.inl ⟨by rfl, ?_⟩) hHeld ?_
            rotate_left
            · (intro w hSw; (try dsimp only at hSw); go_simp; try with_reducible rfl)
            try simp only [Act.put, List.setIfInBounds_toArray, List.set_cons_zero, List.set_cons_succ]
            refine wpAnyH_take (i := 2) (v := ?_) (by simp only [List.getElem?_toArray, List.getElem?_cons_zero, List.getElem?_cons_succ]; rfl) (by kernel_rfl) (by kernel_rfl) (by kernel_rfl) (by intro _ _ _ h; exact h) (Or.inl ⟨by rfl, ?_⟩) hHeld ?_
            rotate_left
            · (intro w hSw; (try dsimp only at hSw); go_simp; try with_reducible rfl)
            try simp only [Act.put, List.setIfInBounds_toArray, List.set_cons_zero, List.set_cons_succ]
            refine wpAnyH_take (i := 3) (v := ?_) (by simp only [List.getElem?_toArray, List.getElem?_cons_zero, List.getElem?_cons_succ]; rfl) (by kernel_rfl) (by kernel_rfl) (by kernel_rfl) (by intro _ _ _ h; exact h) (Or.inl ⟨by rfl, ?_⟩) hHeld ?_
            rotate_left
            · (intro w hSw; (try dsimp only at hSw); go_simp; try with_reducible rfl)
            try simp only [Act.put, List.setIfInBounds_toArray, List.set_cons_zero, List.set_cons_succ]
            refine wpAnyH_take (i := 4) (v := ?_) (by simp only [List.getElem?_toArray, List.getElem?_cons_zero, List.getElem?_cons_succ]; rfl) (by kernel_rfl) (by kernel_rfl) (by kernel_rfl) (by intro _ _ _ h; exact h) (Or.inl ⟨by rfl, ?_⟩) hHeld ?_
            rotate_left
            · (intro w hSw; (try dsimp only at hSw); go_simp; try with_reducible rfl)
            try simp only [Act.put, List.setIfInBounds_toArray, List.set_cons_zero, List.set_cons_succ]
            refine wpAnyH_take (i := 5) (v := _) (by simp only [List.getElem?_toArray, List.getElem?_cons_zero, List.getElem?_cons_succ]; rfl) (by kernel_rfl) (by kernel_rfl) (by kernel_rfl) (by intro _ _ _ h; exact h) (yieldsIf_load_mid (by rfl) 44 (.tmp 41) rfl b (off + j * 36) rfl (u8l kj) _ (fun _ h => h.2.1) Tryz.underlying44 rfl L1.out) hHeld ?_
            try simp only [Act.put, List.setIfInBounds_toArray, List.set_cons_zero, List.set_cons_succ]
            refine wpAnyH_take (i := 6) (v := ?_) (by simp only [List.getElem?_toArray, List.getElem?_cons_zero, List.getElem?_cons_succ]; rfl) (by kernel_rfl) (by kernel_rfl) (by kernel_rfl) (by intro _ _ _ h; exact h) (Or.inl ⟨by rfl, ?_⟩) hHeld ?_
            rotate_left
            · (intro w hSw; (try dsimp only at hSw); go_simp; try with_reducible rfl)
            try simp only [Act.put, List.setIfInBounds_toArray, List.set_cons_zero, List.set_cons_succ]
            refine wpAnyH_take (i := 7) (v := ?_) (by simp only [List.getElem?_toArray, List.getElem?_cons_zero, List.getElem?_cons_succ]; rfl) (by kernel_rfl) (by kernel_rfl) (by kernel_rfl) (by intro _ _ _ h; exact h) (Or.inl ⟨by rfl, ?_⟩) hHeld ?_
            rotate_left
            · (intro w hSw; (try dsimp only at hSw); go_simp; try with_reducible rfl)
            try simp only [Act.put, List.setIfInBounds_toArray, List.set_cons_zero, List.set_cons_succ]
            refine wpAnyH_take (i := 8) (v := ?_) (by simp only [List.getElem?_toArray, List.getElem?_cons_zero, List.getElem?_cons_succ]; rfl) (by kernel_rfl) (by kernel_rfl) (by kernel_rfl) (by intro _ _ _ h; exact h) (Or.inl ⟨by rfl, ?_⟩) hHeld ?_
            rotate_left
            · (intro w hSw; (try dsimp only at hSw); go_simp; try with_reducible rfl)
            try simp only [Act.put, List.setIfInBounds_toArray, List.set_cons_zero, List.set_cons_succ]
            refine wpAnyH_take (i := 9) (v := ?_) (by simp only [List.getElem?_toArray, List.getElem?_cons_zero, List.getElem?_cons_succ]; rfl) (by kernel_rfl) (by kernel_rfl) (by kernel_rfl) (by intro _ _ _ h; exact h) (Or.inl ⟨by rfl, ?_⟩) hHeld ?_
            rotate_left
            · (intro w hSw; (try dsimp only at hSw); go_simp; try with_reducible rfl)
            try simp only [Act.put, List.setIfInBounds_toArray, List.set_cons_zero, List.set_cons_succ]
            refine wpAnyH_take (i := 10) (v := ?_) (by simp only [List.getElem?_toArray, List.getElem?_cons_zero, List.getElem?_cons_succ]; rfl) (by kernel_rfl) (by kernel_rfl) (by kernel_rfl) (by intro _ _ _ h; exact h) (Or.inl ⟨by rfl, ?_⟩) hHeld ?_
            rotate_left
            · (intro w hSw; (try dsimp only at hSw); go_simp; try with_reducible rfl)
            try simp only [Act.put, List.setIfInBounds_toArray, List.set_cons_zero, List.set_cons_succ]
            refine wpAnyH_take (i := 11) (v := _) (by simp only [List.getElem?_toArray, List.getElem?_cons_zero, List.getElem?_cons_succ]; rfl) (by kernel_rfl) (by kernel_rfl) (by kernel_rfl) (by intro _ _ _ h; exact h) (yieldsIf_load_mid (by rfl) 44 (.tmp 47) rfl b (off + k * 36) rfl (u8l f.k) _ (fun _ h => h.2.2) Tryz.underlying44 rfl L2.out) hHeld ?_
            try simp only [Act.put, List.setIfInBounds_toArray, List.set_cons_zero, List.set_cons_succ]
            refine wpAnyH_take (i := 12) (v := _) (by simp only [List.getElem?_toArray, List.getElem?_cons_zero, List.getElem?_cons_succ]; rfl) (by kernel_rfl) (by kernel_rfl) (by kernel_rfl) (by intro _ _ _ h; exact h) (yields_eql (by rfl) 44 (.tmp 42) (.tmp 48) rfl (u8l kj).toArray (u8l f.k).toArray rfl rfl q eqgK (fun W => HEQ.out W)) hHeld ?_
            try simp only [Act.put, List.setIfInBounds_toArray, List.set_cons_zero, List.set_cons_succ]
            refine wpAnyH_done (by kernel_rfl) ?_ _
            clear hHeld
            have HB4 : Hid (Below w1.heap.size w1 wr.drew) := Lib.hid (below_drewN HB3.out 1)
            clear HB3 R1 R2 C4 t4
            cases q with
            | true =>
              have HF : Hid (false = R) := Lib.hid (FAIL.out (.inr (key_in.2 ⟨j, hjk, HKE.out.symm.trans (of_decide_eq_true HQ.out.symm)⟩))).symm
              go_wp2_with fail
              go_ret
              exact ⟨ret_bool HF.out, BW.out _ HB4.out⟩
            | false =>
              have HNE2 : Hid (∀ t, t < j + 1 → (I t).1.k ≠ f.k) := Lib.hid fun t ht => by
                rcases Nat.lt_or_ge t j with h | h
                · exact HNE.out t h
                · obtain rfl : t = j := by omega
                  rw [← HKE.out]; exact of_decide_eq_false HQ.out.symm
              go_wp2_with fail
              go_roundw
              case rel => exact ⟨j + 1, by omega, by go_num, HNE2.out, HB4.out⟩
              case measure => simp [intOf]; omega
          · obtain rfl : j = k := by omega
            have t4 : decide ((j : Int) < j) = false := by simp
            have HOK2 : Hid (newsOk (nl I (j + 1)) = true) := Lib.hid (by
              have hn : f.k ∉ (nl I j).map Fr.k := fun h => by
                obtain ⟨t, ht, e⟩ := key_in.1 h
                exact HNE.out t ht e
              rw [HKB.out, HFR.out, decide_eq_true hn]; rfl)
            clear c4
            go_wp2_with fail
            go_roundw
            case rel => exact ⟨j + 1, by omega, by go_num, HB3.out, HOK2.out⟩
            case measure => simp [intOf]; omega
    · obtain rfl : k = n1 := by omega
      have t3 : decide ((k : Int) < k) = false := by simp
      go_wp2_with fail
      clear c4 t3
      obtain ⟨w2, hw2⟩ : ∃ w2, w2 = wr := ⟨_, rfl⟩
      rw [← hw2] at HB ⊢
      clear hw2
      go_loopw [5, 6] (fun v i wr => ∃ j : Nat, j ≤ n2 ∧ i = .int .i64 j ∧ v = .int .i64 (leastL 0 (pl P j) - 1) ∧ Below w1.heap.size w1 wr ∧ putsB 0 (pl P j) = true) (fun _ i _ => n2 - (intOf i).toNat)
      case atStart => exact ⟨0, Nat.zero_le _, rfl, rfl, HB.out, rfl⟩
      case round =>
        obtain ⟨j, hj, rfl, rfl, hb, hpo⟩ := hrel
        have HB3 := Lib.hid hb
        have HPO := Lib.hid hpo
        have hlb := least_bd (pl P j) 0 (by decide) hpo
        clear hb hpo HB
        have c5 : wr.cell? ⟨q0, 5, none⟩ = some (.slice A2 n2 c2) := block_cell (QW.out _ HB3.out) 5 _ rfl
        by_cases hlt2 : j < n2
        · obtain ⟨b, off, rfl, hb, hc⟩ := (H2.out.below (BW.out _ HB3.out) (Nat.le_refl _)) (by omega)
          have HC := pu_slO (P j) (hc j hlt2)
          have HCS := Lib.hid HC.1
          have cx := HC.2
          have HKB : Hid (putsB 0 (pl P (j + 1)) = putOk (leastL 0 (pl P j)) (P j).1) := Lib.hid (by rw [pl_s, putsB_snoc, HPO.out, Bool.true_and])
          have HNX : Hid (leastL 0 (pl P (j + 1)) = (P j).1.x + 1) := Lib.hid (by rw [pl_s, leastL_snoc])
          have FAILP : Hid (putOk (leastL 0 (pl P j)) (P j).1 = false → R = false) := Lib.hid fun h => by
            rw [HR.out]
            exact rowsB_puts (putsB_false P (k := j + 1) (by rw [HKB.out, h]) n2 hlt2)
          have HKL : Hid ((P j).1.k.length = 32) := Lib.hid (P j).2.key.len
          obtain ⟨p, hp⟩ : ∃ p, p = (P j).1 := ⟨_, rfl⟩
          obtain ⟨le, hle⟩ : ∃ le, le = leastL 0 (pl P j) := ⟨_, rfl⟩
          rw [← hp] at HCS cx HKB HNX FAILP HKL
          rw [← hle] at HKB FAILP hlb ⊢
          have PSL := Lib.hid (put_sl le p)
          have i1 : (0 : Int) ≤ j := by omega
          have i2 : (j : Int) < n2 := by omega
          have t3 : decide ((j : Int) < n2) = true := by simp; omega
          have SLZ : Hid ((Tryz.prog.info? 46).map (·.size) = some (slC p.k p.o p.m).length) := Lib.hid (by rw [slC_len HKL.out]; exact infoSl)
          clear hc hp hle HC
          by_cases hx1 : p.x ≤ le - 1
          · have u1 : decide (p.x ≤ le - 1) = true := decide_eq_true hx1
            have HF : Hid (false = R) := Lib.hid (FAILP.out (by rw [PSL.out, decide_eq_false (by omega : ¬ (le ≤ p.x ∧ p.x ≤ 511)), Bool.false_and])).symm
            clear hx1
            go_wp2_with fail
            go_ret
            exact ⟨ret_bool HF.out, BW.out _ HB3.out⟩
          have u1 : decide (p.x ≤ le - 1) = false := decide_eq_false hx1
          by_cases hx2 : 512 ≤ p.x
          · have u2 : decide (512 ≤ p.x) = true := decide_eq_true hx2
            have HF : Hid (false = R) := Lib.hid (FAILP.out (by rw [PSL.out, decide_eq_false (by omega : ¬ (le ≤ p.x ∧ p.x ≤ 511)), Bool.false_and])).symm
            clear hx1 hx2
            go_wp2_with fail
            go_ret
            exact ⟨ret_bool HF.out, BW.out _ HB3.out⟩
          have u2 : decide (512 ≤ p.x) = false := decide_eq_false hx2
          have HPB : Hid (putOk le p = slB p.o p.m) := Lib.hid (by rw [PSL.out, decide_eq_true (by omega : le ≤ p.x ∧ p.x ≤ 511), Bool.true_and])
          have HX : Hid (0 ≤ p.x ∧ p.x ≤ 511) := Lib.hid (by omega)
          clear hx1 hx2
          go_wp2_with (refine wpList_load_midG rfl 46 (.tmp 79) rfl b (off + j * 35 + 1) rfl (slC p.k p.o p.m) _ HCS.out Tryz.underlying46 rfl SLZ.out ?_)
          refine (slice57 p.k p.o p.m HKL.out wr).mono ?_
          rintro e w3 ⟨rfl, hb3⟩
          have HB4 := Lib.hid (HB3.out.trans (hb3.mono HB3.out.size))
          have cx : w3.cell? ⟨b, off + j * 35, none⟩ = some (.int .i64 p.x) := (hb3.cell (p := ⟨b, off + j * 35, none⟩) (cell_lt cx)).trans cx
          have c5 : w3.cell? ⟨q0, 5, none⟩ = some (.slice (some ⟨b, off, none⟩) n2 c2) := block_cell (QW.out _ HB4.out) 5 _ rfl
          clear hb3 HCS
          cases hsl : slB p.o p.m with
          | false =>
            have HF : Hid (false = R) := Lib.hid (FAILP.out (by rw [HPB.out, hsl])).symm
            clear hsl
            go_wp2_with fail
            go_ret
            exact ⟨ret_bool HF.out, BW.out _ HB4.out⟩
          | true =>
            have HPO2 : Hid (putsB 0 (pl P (j + 1)) = true) := Lib.hid (by rw [HKB.out, HPB.out, hsl])
            clear hsl u1 u2
            go_wp2_with fail
            go_roundw
            case rel => exact ⟨j + 1, by omega, by go_num, by rw [HNX.out]; congr 1; omega, HB4.out, HPO2.out⟩
            case measure => simp [intOf]; omega
        · obtain rfl : j = n2 := by omega
          have t3 : decide ((j : Int) < j) = false := by simp
          have HF : Hid (true = R) := Lib.hid (by rw [HR.out, rowsB_len HOK.out HPO.out, nl_len, pl_len, decide_eq_true m1, decide_eq_true m2]; rfl)
          go_wp2_with fail
          go_ret
          exact ⟨ret_bool HF.out, BW.out _ HB3.out⟩
end Go.Proofs.YthdllbbjajddiaaGreatDoor

