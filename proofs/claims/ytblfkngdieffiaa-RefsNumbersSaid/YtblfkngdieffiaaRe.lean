/- Layer 24 (refs): the document's Delta. -/
import Derived.Test.YtblfkngdieffiaaRc
import Derived.Test.YtblfkngdieffiaaRd
namespace Go.Proofs.Ytblfkngdieffiaa
open Go.RowKit Go.Maps Go.WideMaps
theorem enter24 : ∀ args w, (callFunc 24 args).run Try.prog w = .ok (.enter 24 args) w := enters_of Try.func24 (by kernel_rfl) rfl
theorem neg_wrap (x : Int) : wrap64 (-x) = wrap64 (-1 * x) := by
  have : (-1 : Int) * x = -x := by omega
  rw [this]
theorem i64_in {x : Int} (h : (Lit.int .i64 x).wf = true) : -9223372036854775808 ≤ x ∧ x ≤ 9223372036854775807 := by
  have hmin : IntKind.i64.min = -9223372036854775808 := rfl
  have hmax : IntKind.i64.max = 9223372036854775807 := rfl
  simpa only [Lit.wf, Bool.and_eq_true, decide_eq_true_eq, hmin, hmax] using h
theorem pos_wrap {x : Int} (h : (Lit.int .i64 x).wf = true) : x = wrap64 (1 * x) := by
  rw [Int.one_mul, IntWalk.wrap64_in x (i64_in h)]
theorem wrap_idem (x : Int) : wrap64 (wrap64 x) = wrap64 x := by unfold wrap64; omega
/-- A row of those that are not 0. -/
def RowRef (cs : List Ct) (n : Nat) (e : Ending) (w w' : World) : Prop :=
  ∃ (M : Nat → ElC) (m : Nat) (v : Value), e = .returned v ∧ IsRow cs (lst M m) ∧ m ≤ n ∧ w'.ownsRow w.heap.size 45 33 v m (flatS (fun i => cellsC (M i)) m) ∧ Below w.heap.size w w'
theorem srow_shape {w : World} {base n : Nat} {A : Option Addr} {c : Nat} {L : Nat → ElC} (ho : w.ownsRow base 45 33 (.slice A n c) n (flatS (fun i => cellsC (L i)) n)) : SArr w w.heap.size A n 33 fun i => cellsC (L i) := by
  obtain ⟨A', cap, e1, h, _⟩ := srow_arr (wideC L) ho
  injection e1 with e1
  rw [e1]; exact h
theorem flat_setL (D : Nat → ElC) (c : ElC) (p : Nat) : flatS (fun i => cellsC (D i)) p ++ cellsC c = flatS (fun i => cellsC (setL D p c i)) (p + 1) := by
  rw [flatS, flatS_congr (F := fun i => cellsC (setL D p c i)) (G := fun i => cellsC (D i)) fun i hi => by show cellsC (setL D p c i) = _; unfold setL; rw [if_neg (by omega)]]
  have : setL D p c p = c := by unfold setL; rw [if_pos rfl]
  rw [this]
set_option maxRecDepth 100000 in
set_option maxHeartbeats 8000000 in
theorem refDelta (P Q : Nat → ElC) (A1 A2 : Option Addr) (n c n2 c2 : Nat) (w : World) (hn : n ≤ 137438953000) (hn2 : n2 ≤ 137438953000) (ha : SArr w w.heap.size A1 n 33 fun i => cellsC (P i)) (ha2 : SArr w w.heap.size A2 n2 33 fun i => cellsC (Q i)) :
    Calls Try.prog 17 #[.slice A1 n c, .slice A2 n2 c2] w fun e w' => RowRef (csN (-1) P n ++ csN 1 Q n2) (n + n2) e w w' := by
  obtain ⟨i0, hi, hz0, hz1, hz2⟩ := infoParts infoC
  have HI := Lib.hid (And.intro hi (And.intro hz0 (And.intro hz1 hz2)))
  clear hi hz0 hz1 hz2
  have HA := Lib.hid ha
  have HA2 := Lib.hid ha2
  clear ha ha2
  go_enter Try.func17, Try.ntmps17
  go_wp2_with fail
  go_loopw [5, 6] (fun v i wr => ∃ (k m : Nat) (M : Nat → ElC), k ≤ n ∧ m ≤ k ∧ i = .int .i64 k ∧ Made (csN (-1) P k) (lst M m) ∧ wr.ownsRow w.heap.size 45 33 v m (flatS (fun i => cellsC (M i)) m) ∧ Below w.heap.size w wr) (fun _ i _ => n - (intOf i).toNat)
  case atStart => exact ⟨0, 0, fun _ => default, Nat.zero_le _, Nat.le_refl _, rfl, made_nil, World.ownsRow_nil _ _ _ _, Below.refl _ _⟩
  case round =>
    skip
    obtain ⟨k, m, M, hk, hm, rfl, hmd, ho, hb⟩ := hrel
    have HM := Lib.hid hmd
    have HO := Lib.hid ho
    have HB := Lib.hid hb
    clear hmd ho hb
    by_cases hlt : k < n
    · obtain ⟨b, off, rfl, hbl, hc⟩ := (HA.out.below HB.out (Nat.le_refl _)) (by omega)
      have RK := Lib.hid (ct_k' (P k) (hc k hlt))
      have RR := Lib.hid (ct_r' (P k) (hc k hlt))
      have HKO := Lib.hid (P k).2.key
      have HRW := Lib.hid (P k).2.r
      have HC2 : Hid (csN (-1) P (k + 1) = (csN (-1) P k) ++ [⟨(P k).1.k, wrap64 (-1 * (P k).1.r)⟩]) := Lib.hid (rfl)
      obtain ⟨x, hx⟩ : ∃ x, x = (P k).1.r := ⟨_, rfl⟩
      obtain ⟨sk, hsk⟩ : ∃ sk, sk = (P k).1.k := ⟨_, rfl⟩
      have HKL : Hid ((Try.prog.info? 35).map (·.size) = some (u8l sk).length) := Lib.hid (by rw [u8l_len, hsk, HKO.out.len]; exact infoKey)
      rw [← hsk, ← hx] at HC2
      rw [← hsk] at RK HKO
      rw [← hx] at RR HRW
      have HBL := Lib.hid hbl
      have i1 : (0 : Int) ≤ k := by omega
      have i2 : (k : Int) < n := by omega
      have hw : IntKind.i64.wrap (-x) = wrap64 (-x) := IntWalk.i64_left _
      clear hc hsk hx hbl
      go_wp2_with fail
      refine wp_region_held_drew (S := fun w' => w'.rangeAt b (off + k * 33) (u8l sk) ∧ w'.cell? ⟨b, off + k * 33 + 32, none⟩ = some (.int .i64 x)) (by kernel_rfl) ⟨RK.out, RR.out⟩ (fun hHeld => ?_)
      refine wpAnyH_take (i := 0) (v := ?_) (by simp only [List.getElem?_toArray, List.getElem?_cons_zero]; rfl) (by kernel_rfl) (by kernel_rfl) (by kernel_rfl) (by intro _ _ _ h; exact h) (Or.inl ⟨by rfl, ?_⟩) hHeld ?_
      rotate_left
      · (intro w hSw; (try dsimp only at hSw); go_simp; try with_reducible rfl)
      try simp only [Act.put, List.setIfInBounds_toArray, List.set_cons_zero, List.set_cons_succ]
      refine wpAnyH_take (i := 1) (v := ?_) (by simp only [List.getElem?_toArray, List.getElem?_cons_zero, List.getElem?_cons_succ]; rfl) (by kernel_rfl) (by kernel_rfl) (by kernel_rfl) (by intro _ _ _ h; exact h) (Or.inl ⟨by rfl, ?_⟩) hHeld ?_
      rotate_left
      · (intro w hSw; (try dsimp only at hSw); go_simp; try with_reducible rfl)
      try simp only [Act.put, List.setIfInBounds_toArray, List.set_cons_zero, List.set_cons_succ]
      refine wpAnyH_take (i := 2) (v := ?_) (by simp only [List.getElem?_toArray, List.getElem?_cons_zero, List.getElem?_cons_succ]; rfl) (by kernel_rfl) (by kernel_rfl) (by kernel_rfl) (by intro _ _ _ h; exact h) (Or.inl ⟨by rfl, ?_⟩) hHeld ?_
      rotate_left
      · (intro w hSw; (try dsimp only at hSw); go_simp; try with_reducible rfl)
      try simp only [Act.put, List.setIfInBounds_toArray, List.set_cons_zero, List.set_cons_succ]
      refine wpAnyH_take (i := 3) (v := ?_) (by simp only [List.getElem?_toArray, List.getElem?_cons_zero, List.getElem?_cons_succ]; rfl) (by kernel_rfl) (by kernel_rfl) (by kernel_rfl) (by intro _ _ _ h; exact h) (Or.inl ⟨by rfl, ?_⟩) hHeld ?_
      rotate_left
      · (intro w hSw; (try dsimp only at hSw); go_simp; try with_reducible rfl)
      try simp only [Act.put, List.setIfInBounds_toArray, List.set_cons_zero, List.set_cons_succ]
      refine wpAnyH_take (i := 4) (v := ?_) (by simp only [List.getElem?_toArray, List.getElem?_cons_zero, List.getElem?_cons_succ]; rfl) (by kernel_rfl) (by kernel_rfl) (by kernel_rfl) (by intro _ _ _ h; exact h) (Or.inl ⟨by rfl, ?_⟩) hHeld ?_
      rotate_left
      · (intro w hSw; (try dsimp only at hSw); go_simp; try with_reducible rfl)
      try simp only [Act.put, List.setIfInBounds_toArray, List.set_cons_zero, List.set_cons_succ]
      refine wpAnyH_take (i := 5) (v := _) (by simp only [List.getElem?_toArray, List.getElem?_cons_zero, List.getElem?_cons_succ]; rfl) (by kernel_rfl) (by kernel_rfl) (by kernel_rfl) (by intro _ _ _ h; exact h) (yieldsIf_load_mid (by rfl) 35 (.tmp 20) rfl b (off + k * 33) rfl (u8l sk) _ (fun _ h => h.1) Try.underlying35 rfl HKL.out) hHeld ?_
      try simp only [Act.put, List.setIfInBounds_toArray, List.set_cons_zero, List.set_cons_succ]
      refine wpAnyH_take (i := 6) (v := ?_) (by simp only [List.getElem?_toArray, List.getElem?_cons_zero, List.getElem?_cons_succ]; rfl) (by kernel_rfl) (by kernel_rfl) (by kernel_rfl) (by intro _ _ _ h; exact h) (Or.inl ⟨by rfl, ?_⟩) hHeld ?_
      rotate_left
      · (intro w hSw; (try dsimp only at hSw); go_simp; try with_reducible rfl)
      try simp only [Act.put, List.setIfInBounds_toArray, List.set_cons_zero, List.set_cons_succ]
      refine wpAnyH_take (i := 7) (v := ?_) (by simp only [List.getElem?_toArray, List.getElem?_cons_zero, List.getElem?_cons_succ]; rfl) (by kernel_rfl) (by kernel_rfl) (by kernel_rfl) (by intro _ _ _ h; exact h) (Or.inl ⟨by rfl, ?_⟩) hHeld ?_
      rotate_left
      · (intro w hSw; (try dsimp only at hSw); go_simp; try with_reducible rfl)
      try simp only [Act.put, List.setIfInBounds_toArray, List.set_cons_zero, List.set_cons_succ]
      refine wpAnyH_take (i := 8) (v := ?_) (by simp only [List.getElem?_toArray, List.getElem?_cons_zero, List.getElem?_cons_succ]; rfl) (by kernel_rfl) (by kernel_rfl) (by kernel_rfl) (by intro _ _ _ h; exact h) (Or.inl ⟨by rfl, ?_⟩) hHeld ?_
      rotate_left
      · (intro w hSw; (try dsimp only at hSw); go_simp; try with_reducible rfl)
      try simp only [Act.put, List.setIfInBounds_toArray, List.set_cons_zero, List.set_cons_succ]
      refine wpAnyH_take (i := 9) (v := ?_) (by simp only [List.getElem?_toArray, List.getElem?_cons_zero, List.getElem?_cons_succ]; rfl) (by kernel_rfl) (by kernel_rfl) (by kernel_rfl) (by intro _ _ _ h; exact h) (Or.inl ⟨by rfl, ?_⟩) hHeld ?_
      rotate_left
      · (intro w hSw; (try dsimp only at hSw); go_simp; try with_reducible rfl)
      try simp only [Act.put, List.setIfInBounds_toArray, List.set_cons_zero, List.set_cons_succ]
      refine wpAnyH_take (i := 10) (v := ?_) (by simp only [List.getElem?_toArray, List.getElem?_cons_zero, List.getElem?_cons_succ]; rfl) (by kernel_rfl) (by kernel_rfl) (by kernel_rfl) (by intro _ _ _ h; exact h) (Or.inl ⟨by rfl, ?_⟩) hHeld ?_
      rotate_left
      · (intro w hSw; have hSw := hSw.2; go_simp; try with_reducible rfl)
      try simp only [Act.put, List.setIfInBounds_toArray, List.set_cons_zero, List.set_cons_succ]
      refine wpAnyH_take (i := 11) (v := ?_) (by simp only [List.getElem?_toArray, List.getElem?_cons_zero, List.getElem?_cons_succ]; rfl) (by kernel_rfl) (by kernel_rfl) (by kernel_rfl) (by intro _ _ _ h; exact h) (Or.inl ⟨by rfl, ?_⟩) hHeld ?_
      rotate_left
      · (intro w hSw; (try dsimp only at hSw); go_simp; try with_reducible rfl)
      try simp only [Act.put, List.setIfInBounds_toArray, List.set_cons_zero, List.set_cons_succ]
      refine wpAnyH_ready (rs := [12]) (by kernel_rfl) (by simp) ?_
      refine AllReadyH.cons (by simp only [List.getElem?_toArray, List.getElem?_cons_zero, List.getElem?_cons_succ]; rfl) (fun K hK => ?_) AllReadyH.nil
      rw [if_pos (by rfl)]
      refine wp_callF3 24 (.tmp 16) (.tmp 21) (.tmp 27) _ rfl enter24 _ (.agg (u8l sk).toArray) (.int .i64 (wrap64 (-1 * x))) rfl rfl (congrArg (Value.int .i64) (neg_wrap x)) ?_
      refine (add24 M m w.heap.size _ sk (wrap64 (-1 * x)) wr.drew (by omega) HB.out.size HKO.out (wf_wrap _) HO.out).mono ?_
      rintro e w2 ⟨M2, m2, v2, rfl, hl, hm2, ho2, hb2⟩
      refine ⟨_, rfl, ?_⟩
      have HM2 : Hid (Made (csN (-1) P (k + 1)) (lst M2 m2)) := Lib.hid (by rw [HC2.out, hl]; exact HM.out.add HKO.out (wrap_idem _))
      have HO2 := Lib.hid ho2
      have HB2 := Lib.hid (HB.out.drew.trans hb2)
      have S2 : w2.rangeAt b (off + k * 33) (u8l sk) ∧ w2.cell? ⟨b, off + k * 33 + 32, none⟩ = some (.int .i64 x) := ⟨range_below (w := wr.drew) RK.out hb2 HBL.out, (World.cell?_of_block (w := wr.drew) (hb2.block b HBL.out)).trans RR.out⟩
      refine hK.out _ _ S2 (fun hHeld => ?_)
      clear hl ho2 hb2 hK K S2
      try simp only [Act.put, List.setIfInBounds_toArray, List.set_cons_zero, List.set_cons_succ]
      refine wpAnyH_take (i := 13) (v := ?_) (by simp only [List.getElem?_toArray, List.getElem?_cons_zero, List.getElem?_cons_succ]; rfl) (by kernel_rfl) (by kernel_rfl) (by kernel_rfl) (by intro _ _ _ h; exact h) (Or.inl ⟨by rfl, ?_⟩) hHeld ?_
      rotate_left
      · (intro w hSw; (try dsimp only at hSw); go_simp; try with_reducible rfl)
      try simp only [Act.put, List.setIfInBounds_toArray, List.set_cons_zero, List.set_cons_succ]
      refine wpAnyH_done (by kernel_rfl) ?_ _
      clear hHeld
      go_wp2_with fail
      go_roundw
      case rel => exact ⟨k + 1, m2, M2, by omega, by omega, by go_num, HM2.out, HO2.out, HB2.out⟩
      case measure => simp [intOf]; omega
    · obtain ⟨rfl⟩ : k = n := by omega
      clear hlt
      go_wp2_with fail
      go_loopw [5, 7] (fun v i wr => ∃ (k m : Nat) (M : Nat → ElC), k ≤ n2 ∧ m ≤ n + k ∧ i = .int .i64 k ∧ Made (csN (-1) P n ++ csN 1 Q k) (lst M m) ∧ wr.ownsRow w.heap.size 45 33 v m (flatS (fun i => cellsC (M i)) m) ∧ Below w.heap.size w wr) (fun _ i _ => n2 - (intOf i).toNat)
      case atStart => exact ⟨0, m, M, Nat.zero_le _, hm, rfl, by rw [csN, List.append_nil]; exact HM.out, HO.out, HB.out⟩
      case round =>
        clear HM HO HB hm
        obtain ⟨k, m, M, hk, hm, rfl, hmd, ho, hb⟩ := hrel
        have HM := Lib.hid hmd
        have HO := Lib.hid ho
        have HB := Lib.hid hb
        clear hmd ho hb
        by_cases hlt : k < n2
        · obtain ⟨b, off, rfl, hbl, hc⟩ := (HA2.out.below HB.out (Nat.le_refl _)) (by omega)
          have RK := Lib.hid (ct_k' (Q k) (hc k hlt))
          have RR := Lib.hid (ct_r' (Q k) (hc k hlt))
          have HKO := Lib.hid (Q k).2.key
          have HRW := Lib.hid (Q k).2.r
          have HC2 : Hid (csN (-1) P n ++ csN 1 Q (k + 1) = (csN (-1) P n ++ csN 1 Q k) ++ [⟨(Q k).1.k, wrap64 (1 * (Q k).1.r)⟩]) := Lib.hid (by rw [csN, List.append_assoc])
          obtain ⟨x, hx⟩ : ∃ x, x = (Q k).1.r := ⟨_, rfl⟩
          obtain ⟨sk, hsk⟩ : ∃ sk, sk = (Q k).1.k := ⟨_, rfl⟩
          have HKL : Hid ((Try.prog.info? 35).map (·.size) = some (u8l sk).length) := Lib.hid (by rw [u8l_len, hsk, HKO.out.len]; exact infoKey)
          rw [← hsk, ← hx] at HC2
          rw [← hsk] at RK HKO
          rw [← hx] at RR HRW
          have HBL := Lib.hid hbl
          have i1 : (0 : Int) ≤ k := by omega
          have i2 : (k : Int) < n2 := by omega
          have hw : IntKind.i64.wrap (-x) = wrap64 (-x) := IntWalk.i64_left _
          clear hc hsk hx hbl
          go_wp2_with fail
          refine wp_region_held_drew (S := fun w' => w'.rangeAt b (off + k * 33) (u8l sk) ∧ w'.cell? ⟨b, off + k * 33 + 32, none⟩ = some (.int .i64 x)) (by kernel_rfl) ⟨RK.out, RR.out⟩ (fun hHeld => ?_)
          refine wpAnyH_take (i := 0) (v := ?_) (by simp only [List.getElem?_toArray, List.getElem?_cons_zero]; rfl) (by kernel_rfl) (by kernel_rfl) (by kernel_rfl) (by intro _ _ _ h; exact h) (Or.inl ⟨by rfl, ?_⟩) hHeld ?_
          rotate_left
          · (intro w hSw; (try dsimp only at hSw); go_simp; try with_reducible rfl)
          try simp only [Act.put, List.setIfInBounds_toArray, List.set_cons_zero, List.set_cons_succ]
          refine wpAnyH_take (i := 1) (v := ?_) (by simp only [List.getElem?_toArray, List.getElem?_cons_zero, List.getElem?_cons_succ]; rfl) (by kernel_rfl) (by kernel_rfl) (by kernel_rfl) (by intro _ _ _ h; exact h) (Or.inl ⟨by rfl, ?_⟩) hHeld ?_
          rotate_left
          · (intro w hSw; (try dsimp only at hSw); go_simp; try with_reducible rfl)
          try simp only [Act.put, List.setIfInBounds_toArray, List.set_cons_zero, List.set_cons_succ]
          refine wpAnyH_take (i := 2) (v := ?_) (by simp only [List.getElem?_toArray, List.getElem?_cons_zero, List.getElem?_cons_succ]; rfl) (by kernel_rfl) (by kernel_rfl) (by kernel_rfl) (by intro _ _ _ h; exact h) (Or.inl ⟨by rfl, ?_⟩) hHeld ?_
          rotate_left
          · (intro w hSw; (try dsimp only at hSw); go_simp; try with_reducible rfl)
          try simp only [Act.put, List.setIfInBounds_toArray, List.set_cons_zero, List.set_cons_succ]
          refine wpAnyH_take (i := 3) (v := ?_) (by simp only [List.getElem?_toArray, List.getElem?_cons_zero, List.getElem?_cons_succ]; rfl) (by kernel_rfl) (by kernel_rfl) (by kernel_rfl) (by intro _ _ _ h; exact h) (Or.inl ⟨by rfl, ?_⟩) hHeld ?_
          rotate_left
          · (intro w hSw; (try dsimp only at hSw); go_simp; try with_reducible rfl)
          try simp only [Act.put, List.setIfInBounds_toArray, List.set_cons_zero, List.set_cons_succ]
          refine wpAnyH_take (i := 4) (v := ?_) (by simp only [List.getElem?_toArray, List.getElem?_cons_zero, List.getElem?_cons_succ]; rfl) (by kernel_rfl) (by kernel_rfl) (by kernel_rfl) (by intro _ _ _ h; exact h) (Or.inl ⟨by rfl, ?_⟩) hHeld ?_
          rotate_left
          · (intro w hSw; (try dsimp only at hSw); go_simp; try with_reducible rfl)
          try simp only [Act.put, List.setIfInBounds_toArray, List.set_cons_zero, List.set_cons_succ]
          refine wpAnyH_take (i := 5) (v := _) (by simp only [List.getElem?_toArray, List.getElem?_cons_zero, List.getElem?_cons_succ]; rfl) (by kernel_rfl) (by kernel_rfl) (by kernel_rfl) (by intro _ _ _ h; exact h) (yieldsIf_load_mid (by rfl) 35 (.tmp 39) rfl b (off + k * 33) rfl (u8l sk) _ (fun _ h => h.1) Try.underlying35 rfl HKL.out) hHeld ?_
          try simp only [Act.put, List.setIfInBounds_toArray, List.set_cons_zero, List.set_cons_succ]
          refine wpAnyH_take (i := 6) (v := ?_) (by simp only [List.getElem?_toArray, List.getElem?_cons_zero, List.getElem?_cons_succ]; rfl) (by kernel_rfl) (by kernel_rfl) (by kernel_rfl) (by intro _ _ _ h; exact h) (Or.inl ⟨by rfl, ?_⟩) hHeld ?_
          rotate_left
          · (intro w hSw; (try dsimp only at hSw); go_simp; try with_reducible rfl)
          try simp only [Act.put, List.setIfInBounds_toArray, List.set_cons_zero, List.set_cons_succ]
          refine wpAnyH_take (i := 7) (v := ?_) (by simp only [List.getElem?_toArray, List.getElem?_cons_zero, List.getElem?_cons_succ]; rfl) (by kernel_rfl) (by kernel_rfl) (by kernel_rfl) (by intro _ _ _ h; exact h) (Or.inl ⟨by rfl, ?_⟩) hHeld ?_
          rotate_left
          · (intro w hSw; (try dsimp only at hSw); go_simp; try with_reducible rfl)
          try simp only [Act.put, List.setIfInBounds_toArray, List.set_cons_zero, List.set_cons_succ]
          refine wpAnyH_take (i := 8) (v := ?_) (by simp only [List.getElem?_toArray, List.getElem?_cons_zero, List.getElem?_cons_succ]; rfl) (by kernel_rfl) (by kernel_rfl) (by kernel_rfl) (by intro _ _ _ h; exact h) (Or.inl ⟨by rfl, ?_⟩) hHeld ?_
          rotate_left
          · (intro w hSw; (try dsimp only at hSw); go_simp; try with_reducible rfl)
          try simp only [Act.put, List.setIfInBounds_toArray, List.set_cons_zero, List.set_cons_succ]
          refine wpAnyH_take (i := 9) (v := ?_) (by simp only [List.getElem?_toArray, List.getElem?_cons_zero, List.getElem?_cons_succ]; rfl) (by kernel_rfl) (by kernel_rfl) (by kernel_rfl) (by intro _ _ _ h; exact h) (Or.inl ⟨by rfl, ?_⟩) hHeld ?_
          rotate_left
          · (intro w hSw; (try dsimp only at hSw); go_simp; try with_reducible rfl)
          try simp only [Act.put, List.setIfInBounds_toArray, List.set_cons_zero, List.set_cons_succ]
          refine wpAnyH_take (i := 10) (v := ?_) (by simp only [List.getElem?_toArray, List.getElem?_cons_zero, List.getElem?_cons_succ]; rfl) (by kernel_rfl) (by kernel_rfl) (by kernel_rfl) (by intro _ _ _ h; exact h) (Or.inl ⟨by rfl, ?_⟩) hHeld ?_
          rotate_left
          · (intro w hSw; have hSw := hSw.2; go_simp; try with_reducible rfl)
          try simp only [Act.put, List.setIfInBounds_toArray, List.set_cons_zero, List.set_cons_succ]
    
          refine wpAnyH_ready (rs := [11]) (by kernel_rfl) (by simp) ?_
          refine AllReadyH.cons (by simp only [List.getElem?_toArray, List.getElem?_cons_zero, List.getElem?_cons_succ]; rfl) (fun K hK => ?_) AllReadyH.nil
          rw [if_pos (by rfl)]
          refine wp_callF3 24 (.tmp 35) (.tmp 40) (.tmp 45) _ rfl enter24 _ (.agg (u8l sk).toArray) (.int .i64 (wrap64 (1 * x))) rfl rfl (congrArg (Value.int .i64) (pos_wrap HRW.out)) ?_
          refine (add24 M m w.heap.size _ sk (wrap64 (1 * x)) wr.drew (by omega) HB.out.size HKO.out (wf_wrap _) HO.out).mono ?_
          rintro e w2 ⟨M2, m2, v2, rfl, hl, hm2, ho2, hb2⟩
          refine ⟨_, rfl, ?_⟩
          have HM2 : Hid (Made (csN (-1) P n ++ csN 1 Q (k + 1)) (lst M2 m2)) := Lib.hid (by rw [HC2.out, hl]; exact HM.out.add HKO.out (wrap_idem _))
          have HO2 := Lib.hid ho2
          have HB2 := Lib.hid (HB.out.drew.trans hb2)
          have S2 : w2.rangeAt b (off + k * 33) (u8l sk) ∧ w2.cell? ⟨b, off + k * 33 + 32, none⟩ = some (.int .i64 x) := ⟨range_below (w := wr.drew) RK.out hb2 HBL.out, (World.cell?_of_block (w := wr.drew) (hb2.block b HBL.out)).trans RR.out⟩
          refine hK.out _ _ S2 (fun hHeld => ?_)
          clear hl ho2 hb2 hK K S2
          try simp only [Act.put, List.setIfInBounds_toArray, List.set_cons_zero, List.set_cons_succ]
          refine wpAnyH_take (i := 12) (v := ?_) (by simp only [List.getElem?_toArray, List.getElem?_cons_zero, List.getElem?_cons_succ]; rfl) (by kernel_rfl) (by kernel_rfl) (by kernel_rfl) (by intro _ _ _ h; exact h) (Or.inl ⟨by rfl, ?_⟩) hHeld ?_
          rotate_left
          · (intro w hSw; (try dsimp only at hSw); go_simp; try with_reducible rfl)
          try simp only [Act.put, List.setIfInBounds_toArray, List.set_cons_zero, List.set_cons_succ]
          refine wpAnyH_done (by kernel_rfl) ?_ _
          clear hHeld
          go_wp2_with fail
          go_roundw
          case rel => exact ⟨k + 1, m2, M2, by omega, by omega, by go_num, HM2.out, HO2.out, HB2.out⟩
          case measure => simp [intOf]; omega
        · obtain ⟨rfl⟩ : k = n2 := by omega
          clear hlt
          go_wp2_with fail
          obtain ⟨w3, hw3⟩ : ∃ w3, w3 = wr := ⟨_, rfl⟩
          rw [← hw3] at HO HB ⊢
          clear hw3
          have HM3 := HM
          have HO3 := HO
          have HB3 := HB
          obtain ⟨vA, vc, rfl⟩ := row_shapeS HO.out
          have HR3 : Hid (SArr w3 w3.heap.size vA m 33 fun i => cellsC (M i)) := Lib.hid (srow_shape HO.out)
          go_loopw [8, 9] (fun v i wr => ∃ (j p : Nat) (D : Nat → ElC), j ≤ m ∧ p ≤ j ∧ i = .int .i64 j ∧ lst D p = (lst M j).filter (fun c => decide (c.r ≠ 0)) ∧ wr.ownsRow w3.heap.size 45 33 v p (flatS (fun i => cellsC (D i)) p) ∧ Below w3.heap.size w3 wr) (fun _ i _ => m - (intOf i).toNat)
          case atStart => exact ⟨0, 0, fun _ => default, Nat.zero_le _, Nat.le_refl _, rfl, rfl, World.ownsRow_nil _ _ _ _, Below.refl _ _⟩
          case round =>
            obtain ⟨j, p, D, hj, hp, rfl, hd, ho, hb⟩ := hrel
            have HD := Lib.hid hd
            have HOD := Lib.hid ho
            have HBD := Lib.hid hb
            clear hd ho hb
            by_cases hlt : j < m
            · obtain ⟨b, off, rfl, hbl, hc⟩ := (HR3.out.below HBD.out (Nat.le_refl _)) (by omega)
              have RC : Hid (wr.rangeAt b (off + j * 33) (cellsC (M j))) := Lib.hid (hc j hlt)
              have RR := ct_r' (M j) (hc j hlt)
              have HSZ := Lib.hid (sizeC0 (M j))
              have HCL := Lib.hid (lenC (M j))
              have HC1 := Lib.hid (oneC (M j))
              have HFP : Hid (flatS (fun i => cellsC (D i)) p ++ cellsC (M j) = flatS (fun i => cellsC (setL D p (M j) i)) (p + 1)) := Lib.hid (flat_setL D (M j) p)
              have HDP : Hid ((M j).1.r ≠ 0 → lst (setL D p (M j)) (p + 1) = (lst M (j + 1)).filter (fun c => decide (c.r ≠ 0))) := Lib.hid fun h => by
                rw [lst, lst, List.filter_append, ← HD.out, lst_congr (L := setL D p (M j)) (M := D) fun q hq => by unfold setL; rw [if_neg (by omega)]]
                have : setL D p (M j) p = M j := by unfold setL; rw [if_pos rfl]
                rw [this]
                simp [h]
              have HDN : Hid ((M j).1.r = 0 → lst D p = (lst M (j + 1)).filter (fun c => decide (c.r ≠ 0))) := Lib.hid fun h => by
                rw [lst, List.filter_append, ← HD.out]
                simp [h]
              obtain ⟨x, hx⟩ : ∃ x, x = (M j).1.r := ⟨_, rfl⟩
              rw [← hx] at RR HDP HDN
              obtain ⟨D2, hD2⟩ : ∃ D2, D2 = setL D p (M j) := ⟨_, rfl⟩
              rw [← hD2] at HFP HDP
              obtain ⟨cs', hcs'⟩ : ∃ cs', cs' = cellsC (M j) := ⟨_, rfl⟩
              rw [← hcs'] at RC HSZ HCL HC1 HFP
              have i1 : (0 : Int) ≤ j := by omega
              have i2 : (j : Int) < m := by omega
              clear hc hx hD2 hcs' hbl
              by_cases hx0 : x = 0
              · have HL2 := Lib.hid (HDN.out hx0)
                subst hx0
                go_wp2_with fail
                go_roundw
                case rel => exact ⟨j + 1, p, D, by omega, by omega, by go_num, HL2.out, HOD.out, HBD.out⟩
                case measure => simp [intOf]; omega
              · have HL2 := Lib.hid (HDP.out hx0)
                have hne : (x != 0) = true := by simpa using hx0
                clear hx0
                go_wp2_with (first | (refine wpList_load_midG rfl 45 (.tmp 62) rfl b (off + j * 33) rfl cs' _ RC.out Try.underlying45 rfl HSZ.out ?_) | (refine wpList_slice1 rfl 25 45 (.tmp 63) rfl cs' rfl i0 (.agg zC.toArray) Try.underlying25 HI.out.1 HI.out.2.1 (by rw [HCL.out]; exact HI.out.2.2.1) (by rw [HCL.out]; omega) (by rw [HCL.out]; omega) ?_) | (at_builtin; refine wpList_append_own _ rfl _ _ 25 rfl w3.heap.size 45 i0 (.agg zC.toArray) 33 40 Try.underlying25 HI.out.1 HI.out.2.1 HI.out.2.2.1 HI.out.2.2.2 rfl (by decide) _ p (flatS (fun i => cellsC (D i)) p) rfl (HOD.out.alloc _) ⟨wr.heap.size, 0, none⟩ 1 1 cs' rfl (by rw [HCL.out]) (cells_at_new wr cs' 45) HC1.out (by unfold maxLen; omega) (by omega) (by have := HBD.out.size; simp; omega) ?_; intro v6 w6 hown6 hg6 hv6))
                rw [HFP.out] at hown6
                have HO6 := Lib.hid hown6
                have HB6 : Hid (Below w3.heap.size w3 w6) := Lib.hid ((HBD.out.alloc HBD.out.size (.cells cs'.toArray 45)).grown hg6 (by have := HBD.out.size; simp; omega) (fun q e => (row_lt HOD.out e).1))
                clear hown6 hg6 hv6
                go_wp2_with fail
                go_roundw
                case rel => exact ⟨j + 1, p + 1, D2, by omega, by omega, by go_num, HL2.out, HO6.out, HB6.out⟩
                case measure => simp [intOf]; omega
            · obtain rfl : j = m := by omega
              go_wp2_with fail
              go_ret
              exact ⟨D, p, _, rfl, by rw [HD.out]; exact HM3.out.row, by omega, row_more HOD.out HB3.out.size, HB3.out.trans (HBD.out.mono HB3.out.size)⟩
end Go.Proofs.Ytblfkngdieffiaa
