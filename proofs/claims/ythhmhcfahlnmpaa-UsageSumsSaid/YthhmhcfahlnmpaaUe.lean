/- The kit's lists of places: marks, lent, kept, copied; rows of numbers that are the same. -/
import Derived.Test.YthhmhcfahlnmpaaUb
import Derived.Test.YthhmhcfahlnmpaaKi
import Derived.IntWalk
namespace Go.Proofs.Ythhmhcfahlnmpaa
open Go.RowKit
theorem follows : Try.prog.follows .mixedOrders = true := by kernel_rfl
abbrev plv (p : Pl) : Value := .agg #[.int .i64 p.a, .int .i64 p.n, .int .i64 p.u, .int .i64 p.r]
def mkPl (k i : Nat) : Pl := ⟨(1000003 * (k + 7) + i : Nat), 0, 0, 0⟩
theorem markPl (k i : Nat) (w : World) (hk : k < 100000) (hi : i < 1000000000) : Calls Try.prog 25 #[.int .i64 k, .int .i64 i] w fun e w' => e = .returned (plv (mkPl k i)) ∧ Below w.heap.size w w' := by
  go_enter Try.func25, Try.ntmps25
  go_wp2_with fail
  refine (mark_k k i _ hk hi).mono ?_
  rintro e _ ⟨rfl, rfl⟩
  obtain ⟨x, hx⟩ : ∃ x, x = 1000003 * (k + 7) + i := ⟨_, rfl⟩
  have e : mkPl k i = ⟨(x : Nat), 0, 0, 0⟩ := by rw [hx]; rfl
  have HE := Lib.hid e
  rw [← hx]
  clear e hx
  go_wp2_with fail
  exact bodyPost_ret (v := plv ⟨(x : Nat), 0, 0, 0⟩) (by simp [results, Try.f25, go_sem, plv]) rfl ⟨by rw [HE.out], (Below.refl _ _).alloc (Nat.le_refl _) _⟩
theorem sameI (f : Nat → Int) (A A' : Option Addr) (n c c' B B' : Nat) (w : World) (hn : n ≤ 1099511627776) (ha : Arr w B A n fun k => .int .i64 (f k)) (ha' : Arr w B' A' n fun k => .int .i64 (f k)) :
    Calls Try.prog 10 #[.slice A n c, .slice A' n c'] w fun e w' => e = .returned (.bool true) ∧ ∃ m, w' = w.drewN m := by
  have HA := Lib.hid ha
  have HB := Lib.hid ha'
  clear ha ha'
  go_enter Try.func10, Try.ntmps10
  go_wp2_with fail
  go_loopw [5] (fun i wr => ∃ k : Nat, k ≤ n ∧ i = .int .i64 k ∧ ∃ m, wr = w.drewN m) (fun i _ => n - (intOf i).toNat)
  case atStart => exact ⟨0, Nat.zero_le _, rfl, 0, rfl⟩
  case round =>
    obtain ⟨k, hk, rfl, m, rfl⟩ := hrel
    by_cases hlt : k < n
    · obtain ⟨b, off, rfl, hb, hc⟩ := HA.out (by omega)
      obtain ⟨b', off', rfl, hb', hc'⟩ := HB.out (by omega)
      have hck := hc k hlt
      have hck' := hc' k hlt
      clear hc hc'
      go_wp2_with fail
      go_quiet (fail)
      go_wp2_with fail
      go_roundw
      case rel => exact ⟨k + 1, by omega, by go_num, _, rfl⟩
      case measure => simp [intOf]; omega
    · obtain rfl : k = n := by omega
      go_wp2_with fail
      go_ret
      exact ⟨rfl, m, rfl⟩
def mkPlRow (t k : Nat) : List Value := flatS (fun i => encP (mkPl t i)) k
theorem mkPlRow_len (t k : Nat) : (mkPlRow t k).length = k * 4 := flatS_len (wideP _) k
def LentPl (w : World) (n : Nat) (xs : List Value) (e : Ending) (w' : World) : Prop :=
  ∃ g, e = .returned (.slice (some ⟨g, 0, none⟩) n (n + 12)) ∧ w.heap.size ≤ g ∧ w'.heap[g]? = some (.cells (xs ++ mkPlRow 1 12).toArray 42 (0, 0)) ∧ Below w.heap.size w w'
theorem row_below {w : World} {base g n c s : Nat} {e : TypeId} {xs : List Value} (h : w.ownsRow base e s (.slice (some ⟨g, 0, none⟩) n c) n xs) : g < w.heap.size := (row_lt h (k := g) rfl).2
set_option maxHeartbeats 1000000 in
set_option maxRecDepth 100000 in
theorem lentPl (L : Nat → Pl) (A : Option Addr) (n c : Nat) (w : World) (hn : n ≤ 4398046511000) (ha : SArr w w.heap.size A n 4 (fun i => encP (L i))) (hA : A = none → n = 0 ∧ c = 0) :
    Calls Try.prog 7 #[.slice A n c] w (LentPl w n (flatS (fun i => encP (L i)) n)) := by
  obtain ⟨i0, hi, hz0, hz1, hz2⟩ := infoParts infoP
  have HO := Lib.hid (oneP L n)
  have HO2 : Hid (∀ k, ∀ u ∈ encP (mkPl 1 k), u.oneCell' = true) := Lib.hid (fun k => encP_one _)
  have HL : Hid ((flatS (fun i => encP (L i)) n).length = n * 4) := Lib.hid (flatS_len (wideP L) n)
  have HA := Lib.hid hA
  have HH := Lib.hid ha
  clear hA ha
  go_enter Try.func7, Try.ntmps7
  go_wp2_with (first | (at_make; refine wpList_make_own _ rfl _ _ 24 rfl w.heap.size 42 i0 (.agg #[.int .i64 0, .int .i64 0, .int .i64 0, .int .i64 0]) 4 Try.underlying24 hi hz0 hz1 _ _ _ (n + 12) rfl rfl (by omega) (by rw [hz2]; omega) (by unfold maxLen; omega) (Nat.le_refl _) ?_; intro w1 hown1 hg1; have hb1 : Below w.heap.size w w1 := (Below.refl _ w).grown hg1 (Nat.le_refl _) (by simp); have HH1 := Lib.hid (HH.out.below hb1 (Nat.le_refl _))) | (at_builtin; (refine wpList_append_fits_any _ rfl (.tmp 9) (.tmp 10) 24 rfl w.heap.size 42 i0 4 Try.underlying24 hi hz1 w.heap.size 0 (n + 12) [] rfl hown1 A n c (flatS (fun i => encP (L i)) n) rfl HL.out HA.out (HH1.out.cellsAt (wideP L)) HO.out (by omega) ?_); intro w2 hown2 hg2; simp only [Nat.zero_add, List.nil_append] at hown2))
  have hb2 : Below w.heap.size w w2 := hb1.grown hg2 hb1.size (fun k e => by cases e; exact Nat.le_refl _)
  have hz : w.heap.size < w2.heap.size := row_below hown2
  clear hown1 hg1 HH1 hg2 hb1
  go_loopw [3, 4] (fun v i wr => ∃ k : Nat, k ≤ 12 ∧ i = .int .i64 k ∧ v = .slice (some ⟨w.heap.size, 0, none⟩) (n + k) (n + 12) ∧
      wr.ownsRow w.heap.size 42 4 (.slice (some ⟨w.heap.size, 0, none⟩) (n + k) (n + 12)) (n + k) (flatS (fun i => encP (L i)) n ++ mkPlRow 1 k) ∧ Below w.heap.size w wr ∧ w.heap.size < wr.heap.size) (fun _ i _ => 12 - (intOf i).toNat)
  case atStart => exact ⟨0, Nat.zero_le _, rfl, rfl, by simpa [mkPlRow, flatS] using hown2, hb2, hz⟩
  case round =>
    clear hown2 hb2 hz
    obtain ⟨k, hk, rfl, rfl, hown, hB, hz⟩ := hrel
    by_cases hlt : k < 12
    · have HW := Lib.hid hown
      have HBB := Lib.hid hB
      clear hown hB
      go_wp2_with fail
      refine (markPl 1 k _ (by omega) (by omega)).mono ?_
      rintro e w2 ⟨rfl, hbm⟩
      have HW2 := Lib.hid ((Keeps.fresh (S := fun _ => False) hbm).row HW.out (fun _ _ h => h))
      have HB2 := Lib.hid (HBB.out.trans (hbm.mono HBB.out.size))
      clear hbm
      go_wp2_with (at_builtin; refine wpList_append_fits _ rfl (.tmp 16) (.tmp 19) 24 rfl w.heap.size 42 i0 4 Try.underlying24 hi hz1 w.heap.size (n + k) (n + 12) _ rfl (HW2.out.alloc _) ⟨w2.heap.size, 0, none⟩ 1 1 (encP (mkPl 1 k)) rfl rfl (cells_new _ _ _) (HO2.out k) (by omega) ?_; intro w3 hown3 hg3)
      go_roundw
      case rel =>
        refine ⟨k + 1, by omega, by go_num, rfl, ?_, (HB2.out.alloc HB2.out.size _).grown hg3 (HB2.out.alloc HB2.out.size _).size (fun k e => by cases e; exact Nat.le_refl _), row_below hown3⟩
        rw [List.append_assoc] at hown3
        exact hown3
      case measure => simp [intOf]; omega
    · obtain rfl : k = 12 := by omega
      go_wp2
      go_ret
      rcases hown.2 with ⟨h, _⟩ | ⟨g, cap, cur, h, _, hh, _, _, hsz, htk⟩
      · simp at h
      · simp only [Value.slice.injEq, Option.some.injEq, Addr.mk.injEq] at h
        obtain ⟨⟨rfl, _⟩, _, rfl⟩ := h
        refine ⟨w.heap.size, rfl, Nat.le_refl _, ?_, hB⟩
        rw [hh, ← htk, List.take_of_length_le (by simp; omega)]
theorem lent_sarrPl {w : World} {g n : Nat} {L : Nat → Pl} (hg : w.heap[g]? = some (.cells (flatS (fun i => encP (L i)) n ++ mkPlRow 1 12).toArray 42 (0, 0))) : SArr w w.heap.size (some ⟨g, 0, none⟩) n 4 (fun i => encP (L i)) :=
  SArr.ofCells (wideP L) hg fun i hi => List.getElem?_append_left (by rw [flatS_len (wideP L)]; exact hi)
def PlAt (w : World) (g o : Nat) (p : Pl) : Prop := w.cell? ⟨g, o, none⟩ = some (.int .i64 p.a) ∧ w.cell? ⟨g, o + 1, none⟩ = some (.int .i64 p.n) ∧ w.cell? ⟨g, o + 2, none⟩ = some (.int .i64 p.u) ∧ w.cell? ⟨g, o + 3, none⟩ = some (.int .i64 p.r)
set_option maxRecDepth 100000 in
set_option maxHeartbeats 4000000 in
theorem keptPl (L : Nat → Pl) (A : Option Addr) (g n c : Nat) (w : World) (hn : n ≤ 4398046511000) (ha : SArr w w.heap.size A n 4 (fun i => encP (L i))) (hg : w.heap[g]? = some (.cells (flatS (fun i => encP (L i)) n ++ mkPlRow 1 12).toArray 42 (0, 0))) :
    Calls Try.prog 11 #[.slice (some ⟨g, 0, none⟩) n (n + 12), .slice A n c] w fun e w' => e = .returned (.bool true) ∧ Below w.heap.size w w' := by
  have HG : Hid (∀ wr, Below w.heap.size w wr → wr.heap[g]? = some (.cells (flatS (fun i => encP (L i)) n ++ mkPlRow 1 12).toArray 42 (0, 0))) := Lib.hid fun wr hb => (hb.block g (heap_lt hg)).trans hg
  have HA := Lib.hid ha
  have H1 : Hid (∀ wr, Below w.heap.size w wr → ∀ k, k < n → PlAt wr g (k * 4) (L k)) := Lib.hid (fun wr hb k hk => by
    have h := lent_sarrPl (HG.out wr hb) (by omega)
    obtain ⟨b, off, e, hlt, hc⟩ := h
    injection e with e
    injection e with e1 e2
    subst e1 e2
    have := sarr4_at hc hk
    simpa [PlAt] using this)
  have H2 : Hid (∀ wr, Below w.heap.size w wr → ∀ q, q < 12 → PlAt wr g ((n + q) * 4) (mkPl 1 q)) := Lib.hid (fun wr hb q hq => by
    have hc : ∀ j u, (encP (mkPl 1 q))[j]? = some u → j < 4 → wr.cell? ⟨g, (n + q) * 4 + j, none⟩ = some u := fun j u hu hj => by
      refine block_cell (HG.out wr hb) _ u ?_
      rw [List.getElem?_toArray, List.getElem?_append_right (by rw [flatS_len (wideP L)]; omega), flatS_len (wideP L), show (n + q) * 4 + j - n * 4 = q * 4 + j by omega]
      exact (flatS_at (wideP (mkPl 1)) hj hq).trans hu
    exact ⟨hc 0 _ rfl (by omega), hc 1 _ rfl (by omega), hc 2 _ rfl (by omega), hc 3 _ rfl (by omega)⟩)
  clear ha hg
  go_enter Try.func11, Try.ntmps11
  go_wp2
  go_loopw [6] (fun i wr => ∃ k : Nat, k ≤ n + 12 ∧ i = .int .i64 k ∧ Below w.heap.size w wr) (fun i _ => n + 12 - (intOf i).toNat)
  case atStart => exact ⟨0, Nat.zero_le _, rfl, Below.refl _ _⟩
  case round =>
    obtain ⟨k, hk, rfl, hbw⟩ := hrel
    have HB := Lib.hid hbw
    clear hbw
    by_cases hlt : k < n
    · obtain ⟨b, off, rfl, hb, hc⟩ := (HA.out.below HB.out (Nat.le_refl _)) (by omega)
      obtain ⟨c0, c1, c2, c3⟩ := sarr4_at hc hlt
      obtain ⟨d0, d1, d2, d3⟩ := H1.out wr HB.out k hlt
      obtain ⟨p, hp⟩ : ∃ p, p = L k := ⟨_, rfl⟩
      rw [← hp] at c0 c1 c2 c3 d0 d1 d2 d3
      have t1 : decide (n ≤ k) = false := by simp; omega
      have t2 : decide (k < n) = true := by simp; omega
      clear hc hp
      go_wp2_with fail
      go_quiet (fail)
      go_wp2_with fail
      go_roundw
      case rel => exact ⟨k + 1, by omega, by go_num, below_drewN HB.out _⟩
      case measure => simp [intOf]; omega
    · by_cases hlt2 : k < n + 12
      · obtain ⟨q, hq⟩ : ∃ q, k = n + q := ⟨k - n, by omega⟩
        have hq12 : q < 12 := by omega
        have H3 : Hid (∀ wr, Below w.heap.size w wr → PlAt wr g (k * 4) (mkPl 1 q)) := Lib.hid (fun wr hb => by rw [hq]; exact H2.out wr hb q hq12)
        obtain ⟨d0, d1, d2, d3⟩ := H3.out wr HB.out
        have e1 : (k : Int) - n = (q : Int) := by omega
        have e2 : IntKind.i64.wrap (q : Int) = (q : Int) := IntWalk.i64_in _ (by omega)
        have t1 : decide (n ≤ k) = true := by simp; omega
        have t2 : decide (k < n) = false := by simp; omega
        have t3 : decide ((n : Int) ≤ k) = true := by simp; omega
        have t4 : decide ((k : Int) < n) = false := by simp; omega
        obtain ⟨x, hx⟩ : ∃ x, x = mkPl 1 q := ⟨_, rfl⟩
        have HX := Lib.hid hx
        rw [← hx] at d0 d1 d2 d3
        clear hx hq
        go_wp2_with fail
        have HC : Hid (∀ wr, Below w.heap.size w wr → (fun w' : World => w'.cell? ⟨g, k * 4, none⟩ = some (.int .i64 x.a) ∧ w'.cell? ⟨g, k * 4 + 1, none⟩ = some (.int .i64 x.n) ∧ w'.cell? ⟨g, k * 4 + 2, none⟩ = some (.int .i64 x.u) ∧ w'.cell? ⟨g, k * 4 + 3, none⟩ = some (.int .i64 x.r)) wr) := Lib.hid (fun wr hb => by rw [HX.out]; exact H3.out wr hb)
        refine wp_region_held_drew (S := (fun w' => w'.cell? ⟨g, k * 4, none⟩ = some (.int .i64 x.a) ∧ w'.cell? ⟨g, k * 4 + 1, none⟩ = some (.int .i64 x.n) ∧ w'.cell? ⟨g, k * 4 + 2, none⟩ = some (.int .i64 x.u) ∧ w'.cell? ⟨g, k * 4 + 3, none⟩ = some (.int .i64 x.r))) follows (HC.out _ (below_drewN HB.out 1)) (fun hHeld => ?_)
        clear d0 d1 d2 d3
        refine wpAnyH_take (i := 0) (v := ?_) (by simp only [List.getElem?_toArray, List.getElem?_cons_zero]; rfl) (by kernel_rfl) (by kernel_rfl) (by kernel_rfl) (by intro _ _ _ h; exact h) (Or.inl ⟨by rfl, ?_⟩) hHeld ?_
        rotate_left
        · (intro w hSw; (try dsimp only at hSw); go_simp; try with_reducible rfl)
        try simp only [Act.put, List.setIfInBounds_toArray, List.set_cons_zero, List.set_cons_succ]
        refine wpAnyH_take (i := 1) (v := ?_) (by simp only [List.getElem?_toArray, List.getElem?_cons_zero, List.getElem?_cons_succ]; rfl) (by kernel_rfl) (by kernel_rfl) (by kernel_rfl) (by intro _ _ _ h; exact h) (Or.inl ⟨by rfl, ?_⟩) hHeld ?_
        rotate_left
        · (intro w hSw; (try dsimp only at hSw); go_simp; try with_reducible rfl)
        try simp only [Act.put, List.setIfInBounds_toArray, List.set_cons_zero, List.set_cons_succ]
        refine wpAnyH_take (i := 2) (v := ?_) (by simp only [List.getElem?_toArray, List.getElem?_cons_zero, List.getElem?_cons_succ]; rfl) (by kernel_rfl) (by kernel_rfl) (by kernel_rfl) (by intro _ _ _ h; exact h) (Or.inl ⟨by rfl, ?_⟩) hHeld ?_
        rotate_left
        · (intro w hSw; (try dsimp only at hSw); go_simp; try with_reducible rfl)
        try simp only [Act.put, List.setIfInBounds_toArray, List.set_cons_zero, List.set_cons_succ]
        refine wpAnyH_take (i := 3) (v := ?_) (by simp only [List.getElem?_toArray, List.getElem?_cons_zero, List.getElem?_cons_succ]; rfl) (by kernel_rfl) (by kernel_rfl) (by kernel_rfl) (by intro _ _ _ h; exact h) (Or.inl ⟨by rfl, ?_⟩) hHeld ?_
        rotate_left
        · (intro w hSw; (try dsimp only at hSw); go_simp; try with_reducible rfl)
        try simp only [Act.put, List.setIfInBounds_toArray, List.set_cons_zero, List.set_cons_succ]
        refine wpAnyH_take (i := 4) (v := ?_) (by simp only [List.getElem?_toArray, List.getElem?_cons_zero, List.getElem?_cons_succ]; rfl) (by kernel_rfl) (by kernel_rfl) (by kernel_rfl) (by intro _ _ _ h; exact h) (Or.inl ⟨by rfl, ?_⟩) hHeld ?_
        rotate_left
        · (intro w hSw; (try dsimp only at hSw); go_simp; try with_reducible rfl)
        try simp only [Act.put, List.setIfInBounds_toArray, List.set_cons_zero, List.set_cons_succ]
        refine wpAnyH_take (i := 5) (v := undef) (by simp only [List.getElem?_toArray, List.getElem?_cons_zero, List.getElem?_cons_succ]; rfl) (by kernel_rfl) (by kernel_rfl) (by kernel_rfl) (by intro _ _ _ h; exact h) (Or.inr ⟨by rfl, rfl⟩) hHeld ?_
        try simp only [Act.put, List.setIfInBounds_toArray, List.set_cons_zero, List.set_cons_succ]
        refine wpAnyH_take (i := 6) (v := undef) (by simp only [List.getElem?_toArray, List.getElem?_cons_zero, List.getElem?_cons_succ]; rfl) (by kernel_rfl) (by kernel_rfl) (by kernel_rfl) (by intro _ _ _ h; exact h) (Or.inr ⟨by rfl, rfl⟩) hHeld ?_
        try simp only [Act.put, List.setIfInBounds_toArray, List.set_cons_zero, List.set_cons_succ]
        refine wpAnyH_take (i := 7) (v := undef) (by simp only [List.getElem?_toArray, List.getElem?_cons_zero, List.getElem?_cons_succ]; rfl) (by kernel_rfl) (by kernel_rfl) (by kernel_rfl) (by intro _ _ _ h; exact h) (Or.inr ⟨by rfl, rfl⟩) hHeld ?_
        try simp only [Act.put, List.setIfInBounds_toArray, List.set_cons_zero, List.set_cons_succ]
        refine wpAnyH_take (i := 8) (v := undef) (by simp only [List.getElem?_toArray, List.getElem?_cons_zero, List.getElem?_cons_succ]; rfl) (by kernel_rfl) (by kernel_rfl) (by kernel_rfl) (by intro _ _ _ h; exact h) (Or.inr ⟨by rfl, rfl⟩) hHeld ?_
        try simp only [Act.put, List.setIfInBounds_toArray, List.set_cons_zero, List.set_cons_succ]
        refine wpAnyH_take (i := 9) (v := undef) (by simp only [List.getElem?_toArray, List.getElem?_cons_zero, List.getElem?_cons_succ]; rfl) (by kernel_rfl) (by kernel_rfl) (by kernel_rfl) (by intro _ _ _ h; exact h) (Or.inr ⟨by rfl, rfl⟩) hHeld ?_
        try simp only [Act.put, List.setIfInBounds_toArray, List.set_cons_zero, List.set_cons_succ]
        refine wpAnyH_take (i := 10) (v := undef) (by simp only [List.getElem?_toArray, List.getElem?_cons_zero, List.getElem?_cons_succ]; rfl) (by kernel_rfl) (by kernel_rfl) (by kernel_rfl) (by intro _ _ _ h; exact h) (Or.inr ⟨by rfl, rfl⟩) hHeld ?_
        try simp only [Act.put, List.setIfInBounds_toArray, List.set_cons_zero, List.set_cons_succ]
        refine wpAnyH_take (i := 11) (v := undef) (by simp only [List.getElem?_toArray, List.getElem?_cons_zero, List.getElem?_cons_succ]; rfl) (by kernel_rfl) (by kernel_rfl) (by kernel_rfl) (by intro _ _ _ h; exact h) (Or.inr ⟨by rfl, rfl⟩) hHeld ?_
        try simp only [Act.put, List.setIfInBounds_toArray, List.set_cons_zero, List.set_cons_succ]
        refine wpAnyH_take (i := 12) (v := undef) (by simp only [List.getElem?_toArray, List.getElem?_cons_zero, List.getElem?_cons_succ]; rfl) (by kernel_rfl) (by kernel_rfl) (by kernel_rfl) (by intro _ _ _ h; exact h) (Or.inr ⟨by rfl, rfl⟩) hHeld ?_
        try simp only [Act.put, List.setIfInBounds_toArray, List.set_cons_zero, List.set_cons_succ]
        refine wpAnyH_take (i := 13) (v := undef) (by simp only [List.getElem?_toArray, List.getElem?_cons_zero, List.getElem?_cons_succ]; rfl) (by kernel_rfl) (by kernel_rfl) (by kernel_rfl) (by intro _ _ _ h; exact h) (Or.inr ⟨by rfl, rfl⟩) hHeld ?_
        try simp only [Act.put, List.setIfInBounds_toArray, List.set_cons_zero, List.set_cons_succ]
        refine wpAnyH_take (i := 14) (v := undef) (by simp only [List.getElem?_toArray, List.getElem?_cons_zero, List.getElem?_cons_succ]; rfl) (by kernel_rfl) (by kernel_rfl) (by kernel_rfl) (by intro _ _ _ h; exact h) (Or.inr ⟨by rfl, rfl⟩) hHeld ?_
        try simp only [Act.put, List.setIfInBounds_toArray, List.set_cons_zero, List.set_cons_succ]
        refine wpAnyH_take (i := 15) (v := ?_) (by simp only [List.getElem?_toArray, List.getElem?_cons_zero, List.getElem?_cons_succ]; rfl) (by kernel_rfl) (by kernel_rfl) (by kernel_rfl) (by intro _ _ _ h; exact h) (Or.inl ⟨by rfl, ?_⟩) hHeld ?_
        rotate_left
        · (intro w hSw; (try dsimp only at hSw); go_simp; try with_reducible rfl)
        try simp only [Act.put, List.setIfInBounds_toArray, List.set_cons_zero, List.set_cons_succ]
        refine wpAnyH_take (i := 16) (v := ?_) (by simp only [List.getElem?_toArray, List.getElem?_cons_zero, List.getElem?_cons_succ]; rfl) (by kernel_rfl) (by kernel_rfl) (by kernel_rfl) (by intro _ _ _ h; exact h) (Or.inl ⟨by rfl, ?_⟩) hHeld ?_
        rotate_left
        · (intro w hSw; (try dsimp only at hSw); go_simp; try with_reducible rfl)
        try simp only [Act.put, List.setIfInBounds_toArray, List.set_cons_zero, List.set_cons_succ]
        refine wpAnyH_take (i := 17) (v := ?_) (by simp only [List.getElem?_toArray, List.getElem?_cons_zero, List.getElem?_cons_succ]; rfl) (by kernel_rfl) (by kernel_rfl) (by kernel_rfl) (by intro _ _ _ h; exact h) (Or.inl ⟨by rfl, ?_⟩) hHeld ?_
        rotate_left
        · (intro w hSw; (try dsimp only at hSw); go_simp; try with_reducible rfl)
        try simp only [Act.put, List.setIfInBounds_toArray, List.set_cons_zero, List.set_cons_succ]
        refine wpAnyH_take (i := 18) (v := ?_) (by simp only [List.getElem?_toArray, List.getElem?_cons_zero, List.getElem?_cons_succ]; rfl) (by kernel_rfl) (by kernel_rfl) (by kernel_rfl) (by intro _ _ _ h; exact h) (Or.inl ⟨by rfl, ?_⟩) hHeld ?_
        rotate_left
        · (intro w hSw; (try dsimp only at hSw); go_simp; try with_reducible rfl)
        try simp only [Act.put, List.setIfInBounds_toArray, List.set_cons_zero, List.set_cons_succ]
        refine wpAnyH_take (i := 19) (v := ?_) (by simp only [List.getElem?_toArray, List.getElem?_cons_zero, List.getElem?_cons_succ]; rfl) (by kernel_rfl) (by kernel_rfl) (by kernel_rfl) (by intro _ _ _ h; exact h) (Or.inl ⟨by rfl, ?_⟩) hHeld ?_
        rotate_left
        · (intro w hSw; (try dsimp only at hSw); go_simp; try with_reducible rfl)
        try simp only [Act.put, List.setIfInBounds_toArray, List.set_cons_zero, List.set_cons_succ]
        refine wpAnyH_take (i := 20) (v := ?_) (by simp only [List.getElem?_toArray, List.getElem?_cons_zero, List.getElem?_cons_succ]; rfl) (by kernel_rfl) (by kernel_rfl) (by kernel_rfl) (by intro _ _ _ h; exact h) (Or.inl ⟨by rfl, ?_⟩) hHeld ?_
        rotate_left
        · (intro w hSw; (try dsimp only at hSw); go_simp; try with_reducible rfl)
        try simp only [Act.put, List.setIfInBounds_toArray, List.set_cons_zero, List.set_cons_succ]
        refine wpAnyH_take (i := 21) (v := ?_) (by simp only [List.getElem?_toArray, List.getElem?_cons_zero, List.getElem?_cons_succ]; rfl) (by kernel_rfl) (by kernel_rfl) (by kernel_rfl) (by intro _ _ _ h; exact h) (Or.inl ⟨by rfl, ?_⟩) hHeld ?_
        rotate_left
        · (intro w hSw; (try dsimp only at hSw); go_simp; try with_reducible rfl)
        try simp only [Act.put, List.setIfInBounds_toArray, List.set_cons_zero, List.set_cons_succ]
        refine wpAnyH_take (i := 22) (v := ?_) (by simp only [List.getElem?_toArray, List.getElem?_cons_zero, List.getElem?_cons_succ]; rfl) (by kernel_rfl) (by kernel_rfl) (by kernel_rfl) (by intro _ _ _ h; exact h) (Or.inl ⟨by rfl, ?_⟩) hHeld ?_
        rotate_left
        · (intro w hSw; (try dsimp only at hSw); go_simp; try with_reducible rfl)
        try simp only [Act.put, List.setIfInBounds_toArray, List.set_cons_zero, List.set_cons_succ]
        refine wpAnyH_take (i := 23) (v := ?_) (by simp only [List.getElem?_toArray, List.getElem?_cons_zero, List.getElem?_cons_succ]; rfl) (by kernel_rfl) (by kernel_rfl) (by kernel_rfl) (by intro _ _ _ h; exact h) (Or.inl ⟨by rfl, ?_⟩) hHeld ?_
        rotate_left
        · (intro w hSw; (try dsimp only at hSw); go_simp; try with_reducible rfl)
        try simp only [Act.put, List.setIfInBounds_toArray, List.set_cons_zero, List.set_cons_succ]
        refine wpAnyH_take (i := 24) (v := ?_) (by simp only [List.getElem?_toArray, List.getElem?_cons_zero, List.getElem?_cons_succ]; rfl) (by kernel_rfl) (by kernel_rfl) (by kernel_rfl) (by intro _ _ _ h; exact h) (Or.inl ⟨by rfl, ?_⟩) hHeld ?_
        rotate_left
        · (intro w hSw; (try dsimp only at hSw); go_simp; try with_reducible rfl)
        try simp only [Act.put, List.setIfInBounds_toArray, List.set_cons_zero, List.set_cons_succ]
        refine wpAnyH_take (i := 25) (v := ?_) (by simp only [List.getElem?_toArray, List.getElem?_cons_zero, List.getElem?_cons_succ]; rfl) (by kernel_rfl) (by kernel_rfl) (by kernel_rfl) (by intro _ _ _ h; exact h) (Or.inl ⟨by rfl, ?_⟩) hHeld ?_
        rotate_left
        · (intro w hSw; (try dsimp only at hSw); go_simp; try with_reducible rfl)
        try simp only [Act.put, List.setIfInBounds_toArray, List.set_cons_zero, List.set_cons_succ]
        refine wpAnyH_take (i := 26) (v := ?_) (by simp only [List.getElem?_toArray, List.getElem?_cons_zero, List.getElem?_cons_succ]; rfl) (by kernel_rfl) (by kernel_rfl) (by kernel_rfl) (by intro _ _ _ h; exact h) (Or.inl ⟨by rfl, ?_⟩) hHeld ?_
        rotate_left
        · (intro w hSw; (try dsimp only at hSw); go_simp; try with_reducible rfl)
        try simp only [Act.put, List.setIfInBounds_toArray, List.set_cons_zero, List.set_cons_succ]
        refine wpAnyH_take (i := 27) (v := ?_) (by simp only [List.getElem?_toArray, List.getElem?_cons_zero, List.getElem?_cons_succ]; rfl) (by kernel_rfl) (by kernel_rfl) (by kernel_rfl) (by intro _ _ _ h; exact h) (Or.inl ⟨by rfl, ?_⟩) hHeld ?_
        rotate_left
        · (intro w hSw; (try dsimp only at hSw); go_simp; try with_reducible rfl)
        try simp only [Act.put, List.setIfInBounds_toArray, List.set_cons_zero, List.set_cons_succ]
        refine wpAnyH_take (i := 28) (v := ?_) (by simp only [List.getElem?_toArray, List.getElem?_cons_zero, List.getElem?_cons_succ]; rfl) (by kernel_rfl) (by kernel_rfl) (by kernel_rfl) (by intro _ _ _ h; exact h) (Or.inl ⟨by rfl, ?_⟩) hHeld ?_
        rotate_left
        · (intro w hSw; (try dsimp only at hSw); go_simp; try with_reducible rfl)
        try simp only [Act.put, List.setIfInBounds_toArray, List.set_cons_zero, List.set_cons_succ]
        refine wpAnyH_take (i := 29) (v := ?_) (by simp only [List.getElem?_toArray, List.getElem?_cons_zero, List.getElem?_cons_succ]; rfl) (by kernel_rfl) (by kernel_rfl) (by kernel_rfl) (by intro _ _ _ h; exact h) (Or.inl ⟨by rfl, ?_⟩) hHeld ?_
        rotate_left
        · (intro w hSw; (try dsimp only at hSw); go_simp; try with_reducible rfl)
        try simp only [Act.put, List.setIfInBounds_toArray, List.set_cons_zero, List.set_cons_succ]
        refine wpAnyH_ready (rs := [30]) (by kernel_rfl) (by simp) ?_
        refine AllReadyH.cons (by simp only [List.getElem?_toArray, List.getElem?_cons_zero, List.getElem?_cons_succ]; rfl) (fun K hK => ?_) AllReadyH.nil
        rw [if_pos (by rfl)]
        go_simp
        refine (markPl 1 q _ (by omega) (by omega)).mono ?_
        rw [← HX.out]
        rintro e w2 ⟨rfl, hbm⟩
        have HB2 := Lib.hid ((below_drewN HB.out 1).trans (hbm.mono HB.out.size))
        refine hK.out _ _ (HC.out _ HB2.out) (fun hHeld => ?_)
        clear hK K
        try simp only [Act.put, List.setIfInBounds_toArray, List.set_cons_zero, List.set_cons_succ]
        refine wpAnyH_take (i := 31) (v := ?_) (by simp only [List.getElem?_toArray, List.getElem?_cons_zero, List.getElem?_cons_succ]; rfl) (by kernel_rfl) (by kernel_rfl) (by kernel_rfl) (by intro _ _ _ h; exact h) (Or.inl ⟨by rfl, ?_⟩) hHeld ?_
        rotate_left
        · (intro w hSw; (try dsimp only at hSw); go_simp; try with_reducible rfl)
        try simp only [Act.put, List.setIfInBounds_toArray, List.set_cons_zero, List.set_cons_succ]
        refine wpAnyH_take (i := 32) (v := ?_) (by simp only [List.getElem?_toArray, List.getElem?_cons_zero, List.getElem?_cons_succ]; rfl) (by kernel_rfl) (by kernel_rfl) (by kernel_rfl) (by intro _ _ _ h; exact h) (Or.inl ⟨by rfl, ?_⟩) hHeld ?_
        rotate_left
        · (intro w hSw; (try dsimp only at hSw); go_simp; try with_reducible rfl)
        try simp only [Act.put, List.setIfInBounds_toArray, List.set_cons_zero, List.set_cons_succ]
        refine wpAnyH_take (i := 33) (v := ?_) (by simp only [List.getElem?_toArray, List.getElem?_cons_zero, List.getElem?_cons_succ]; rfl) (by kernel_rfl) (by kernel_rfl) (by kernel_rfl) (by intro _ _ _ h; exact h) (Or.inl ⟨by rfl, ?_⟩) hHeld ?_
        rotate_left
        · (intro w hSw; (try dsimp only at hSw); go_simp; try with_reducible rfl)
        try simp only [Act.put, List.setIfInBounds_toArray, List.set_cons_zero, List.set_cons_succ]
        refine wpAnyH_take (i := 34) (v := ?_) (by simp only [List.getElem?_toArray, List.getElem?_cons_zero, List.getElem?_cons_succ]; rfl) (by kernel_rfl) (by kernel_rfl) (by kernel_rfl) (by intro _ _ _ h; exact h) (Or.inl ⟨by rfl, ?_⟩) hHeld ?_
        rotate_left
        · (intro w hSw; (try dsimp only at hSw); go_simp; try with_reducible rfl)
        try simp only [Act.put, List.setIfInBounds_toArray, List.set_cons_zero, List.set_cons_succ]
        refine wpAnyH_done (by kernel_rfl) ?_ _
        clear hHeld
        clear hbm e1 e2
        go_wp2_with fail
        go_roundw
        case rel => exact ⟨k + 1, by omega, by go_num, HB2.out⟩
        case measure => simp [intOf]; omega
      · obtain rfl : k = n + 12 := by omega
        go_wp2
        go_ret
        exact ⟨rfl, HB.out⟩
end Go.Proofs.Ythhmhcfahlnmpaa
