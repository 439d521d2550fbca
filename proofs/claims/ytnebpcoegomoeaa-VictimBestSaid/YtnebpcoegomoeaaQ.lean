/- Part of the proof of the statements of layer 29 (victim): what each function of the layer, of the reference and of the laws computes, at every input; and that the laws return true. No condition. -/
import Derived.Test.YtnebpcoegomoeaaP
import Derived.Deep.RegionHeld3
namespace Go.Proofs.Ytnebpcoegomoeaa
open Go.RowKit Go.Shelf
/-! What is picked: used, not open; nothing else that may be picked has less, and none of as much stands ahead. -/
theorem pk_fine (f : Nat → Int) (op : Int) : ∀ n : Nat, 0 ≤ pk f op n → 1 ≤ f (pk f op n).toNat ∧ pk f op n ≠ op
  | 0, h => absurd h (by simp [pk])
  | n + 1, h => by
    by_cases c : 1 ≤ f n ∧ (n : Int) ≠ op ∧ (pk f op n < 0 ∨ f n < f (pk f op n).toNat)
    · rw [pk_hit c.1 c.2.1 c.2.2]; exact ⟨by simpa using c.1, c.2.1⟩
    · rw [pk_miss c] at h ⊢; exact pk_fine f op n h
theorem pk_best (f : Nat → Int) (op : Int) : ∀ (n i : Nat), i < n → 1 ≤ f i → (i : Int) ≠ op → 0 ≤ pk f op n ∧ f (pk f op n).toNat ≤ f i ∧ (f i = f (pk f op n).toNat → pk f op n ≤ i)
  | 0, i, h, _, _ => absurd h (by omega)
  | n + 1, i, h, h1, h2 => by
    have hb := pk_bd f op n
    by_cases c : 1 ≤ f n ∧ (n : Int) ≠ op ∧ (pk f op n < 0 ∨ f n < f (pk f op n).toNat)
    · rw [pk_hit c.1 c.2.1 c.2.2]
      simp only [Int.toNat_natCast]
      by_cases e : i = n
      · subst e; exact ⟨by omega, Int.le_refl _, fun _ => Int.le_refl _⟩
      · have ih := pk_best f op n i (by omega) h1 h2
        rcases c.2.2 with c3 | c3
        · omega
        · exact ⟨by omega, by omega, fun e5 => by omega⟩
    · rw [pk_miss c]
      by_cases e : i = n
      · subst e
        have c' : ¬ (pk f op i < 0 ∨ f i < f (pk f op i).toNat) := fun c5 => c ⟨h1, h2, c5⟩
        refine ⟨by omega, by omega, fun _ => by omega⟩
      · exact pk_best f op n i (by omega) h1 h2
set_option maxHeartbeats 4000000 in
set_option maxRecDepth 100000 in
theorem best6 (f : Nat → Int) (op size : Int) (A : Option Addr) (n c : Nat) (w : World) (ha : Arr w w.heap.size A n fun j => .int .i64 (f j)) :
    Calls Try.prog 6 #[.slice A n c, .int .i64 op, .int .i64 size] w fun e w' => e = .returned (.bool true) ∧ Below w.heap.size w w' := by
  obtain ⟨i0, hi, hz0, hz1, hz2⟩ := info_parts info3
  have HH := Lib.hid ha
  clear ha
  by_cases hl : n > 5000
  · go_enter Try.func6, Try.ntmps6
    go_wp2_with (go_at_call 7; refine (awake7 _).mono ?_; rintro e w1 ⟨rfl, hb1⟩)
    go_ret
    exact ⟨rfl, hb1⟩
  · have t16 : decide ((5000 : Int) < (n : Int)) = false := by simp; omega
    go_enter Try.func6, Try.ntmps6
    go_wp2_with fail
    refine (awake7 _).mono ?_
    rintro e w1 ⟨rfl, hb1⟩
    have HH1 := Lib.hid (HH.out.below hb1 (Nat.le_refl _))
    go_wp2_with fail
    refine (pick14 size 1024 _ (by omega) (by omega)).mono ?_
    rintro e w1' ⟨rfl, rfl⟩
    obtain ⟨s, hs⟩ : ∃ s, 1 + size % 1024 = s := ⟨_, rfl⟩
    have hs1 : 1 ≤ s ∧ s ≤ 1024 := by omega
    have HS := Lib.hid hs
    have hm := Int.emod_nonneg size (show (1024 : Int) ≠ 0 by omega)
    have hm2 := Int.emod_lt_of_pos size (show (0 : Int) < 1024 by omega)
    clear hs
    go_wp2_with (at_make; refine wpList_make_full _ rfl _ _ 22 rfl w.heap.size 3 i0 (.int .i64 0) 1 Try.underlying22 hi hz0 hz1 _ _ _ _ n rfl rfl (by rfl) (by rfl) (by rw [hz2]; omega) (by unfold maxLen; omega) hb1.size ?_; intro w2 hown2 hg2)
    rw [HS.out]
    clear hm hm2
    have hblk : ∃ cs : Array Value, w2.heap[w1.heap.size]? = some (.cells cs 3 (0, 0)) ∧ cs.size = n := by
      rcases hown2.2 with ⟨h, _⟩ | ⟨g, cap, cur, h, _, hh, _, _, hsz, _⟩
      · simp at h
      · simp only [Value.slice.injEq, Option.some.injEq, Addr.mk.injEq] at h
        obtain ⟨⟨rfl, _⟩, _, rfl⟩ := h
        exact ⟨cur, hh, by simpa using hsz⟩
    obtain ⟨gb, hgb⟩ : ∃ gb, w1.heap.size = gb := ⟨_, rfl⟩
    have hlo : w.heap.size ≤ gb := hgb ▸ hb1.size
    have hb2 : Below w1.heap.size w1 w2 := (Below.refl _ w1).grown hg2 (Nat.le_refl _) (by simp)
    have hbt : Below w.heap.size w w2 := hb1.trans (hb2.mono hb1.size)
    have HH2 := Lib.hid (HH.out.below hbt (Nat.le_refl _))
    rw [hgb] at hblk
    rw [hgb]
    clear hown2 hg2 hb2 hgb HH1
    go_loopw [8] (fun i wr => ∃ k : Nat, k ≤ n ∧ i = .int .i64 k ∧ Below w.heap.size w wr ∧ ∃ cs : Array Value, wr.heap[gb]? = some (.cells cs 3 (0, 0)) ∧ cs.size = n ∧ ∀ j, j < k → cs[j]? = some (.int .i64 (f j % (s + 1)))) (fun i _ => n - (intOf i).toNat)
    case atStart =>
      obtain ⟨cs, h1, h2⟩ := hblk
      exact ⟨0, Nat.zero_le _, rfl, hbt, cs, h1, h2, fun j hj => absurd hj (by omega)⟩
    case round =>
      obtain ⟨k, hk, rfl, hB, cs, hcs, hsz, hcv⟩ := hrel
      clear hblk
      by_cases hlt : k < n
      · obtain ⟨b, off, rfl, hbb, hc⟩ := (HH.out.below hB (Nat.le_refl _)) (by omega)
        have hck := hc k hlt
        obtain ⟨v0, hv0⟩ : ∃ v0, cs[k]? = some v0 := ⟨cs[k], Array.getElem?_eq_getElem (by omega)⟩
        have hcg := block_cell hcs k _ hv0
        have hfg : wr.frozen? ⟨gb, k, none⟩ = false := by simp [World.frozen?, hcs]
        have HV := Lib.hid hcv
        have HC := Lib.hid hcs
        clear hcv hcs hc hv0
        go_wp2_with (go_at_call 14; refine (pick14 _ _ _ (by omega) (by omega)).mono ?_; rintro e w1' ⟨rfl, rfl⟩)
        go_roundw
        case rel =>
          refine ⟨k + 1, by omega, by go_num, hB.setCell (p := ⟨gb, k, none⟩) hlo _, cs.setIfInBounds k (.int .i64 (f k % (s + 1))), ?_, by simp [hsz], fun j hj => ?_⟩
          · simp [World.setCell, Array.getElem?_modify, HC.out]
          · rw [Array.getElem?_setIfInBounds]
            by_cases e : k = j
            · subst e; simp; omega
            · rw [if_neg e]; exact HV.out j (by omega)
        case measure => simp [intOf]; omega
      · obtain rfl : k = n := by omega
        clear hlt hk
        obtain ⟨g, hg⟩ : ∃ g : Nat → Int, g = fun j => f j % (s + 1) := ⟨_, rfl⟩
        have hgr : ∀ j, 0 ≤ g j ∧ g j ≤ s := fun j => by
          rw [hg]
          have h1 := Int.emod_nonneg (f j) (show (s + 1) ≠ 0 by omega)
          have h2 := Int.emod_lt_of_pos (f j) (show 0 < s + 1 by omega)
          exact ⟨h1, by show f j % (s + 1) ≤ s; omega⟩
        have hcv' : ∀ j, j < k → cs[j]? = some (.int .i64 (g j)) := fun j hj => by rw [hg]; exact hcv j hj
        have HGR := Lib.hid hgr
        have HC := Lib.hid hcs
        have HV := Lib.hid hcv'
        clear hg hgr hcs hcv hcv'
        have hgz : gb < wr.heap.size := (Array.getElem?_eq_some_iff.1 HC.out).1
        go_wp2_with fail
        refine (pick9 g op _ k k _ (by omega) (Arr.ofBlock k _ HC.out HV.out)).mono ?_
        rintro e w4 ⟨rfl, hb4⟩
        have hbt4 : Below w.heap.size w w4 := hB.trans (hb4.mono hB.size)
        have HC4 := Lib.hid ((hb4.block gb hgz).trans HC.out)
        have HF := Lib.hid (pk_fine g op k)
        have HB := Lib.hid (pk_best g op k)
        have hbd := pk_bd g op k
        obtain ⟨p, hp⟩ : ∃ p, pk g op k = p := ⟨_, rfl⟩
        rw [hp]
        rw [hp] at HF HB hbd
        clear hp hB hbt hb4
        by_cases hneg : p < 0
        · have t2 : decide ((0 : Int) ≤ p) = false := by simp; omega
          go_wp2_with fail
          go_loopw [10] (fun i wr => ∃ q : Nat, q ≤ k ∧ i = .int .i64 q ∧ ∃ m, wr = w4.drewN m) (fun i _ => k - (intOf i).toNat)
          case atStart => exact ⟨0, Nat.zero_le _, rfl, 0, rfl⟩
          case round =>
            obtain ⟨q, hq, rfl, m, rfl⟩ := hrel
            by_cases hlt : q < k
            · have hcq := block_cell HC4.out q _ (HV.out q hlt)
              by_cases h1 : 1 ≤ g q
              · have t3 : ((q : Int) != op) = false := by
                  by_cases e : (q : Int) = op
                  · rw [e]; simp
                  · exact absurd (HB.out q hlt h1 e).1 (by omega)
                go_wp2_with fail
                refine wp_region_quiet_lit (by kernel_rfl) (by kernel_rfl) ?_
                repeat (any_goals (first | go_big_quiet_step ((go_at_call 12; first | exact quiet_add_left (worth12 _ _ _ (by omega)) | exact quiet_left (worth12 _ _ _ (by omega)))) | quiet_step (fail) | (refine wpQuiet_step (fun K hK => ?_); go_simp; split <;> (first | (exfalso; omega) | (refine hK _ ?_; clear hK K)))))
                all_goals (refine wpQuiet_nil ?_; intro _ hw'; obtain ⟨nq, hw''⟩ := hw'; subst hw'')
                all_goals go_wp2
                all_goals go_roundw
                case rel => exact ⟨q + 1, by omega, by go_num, _, rfl⟩
                case measure => simp [intOf]; omega
              · have t3 : decide (0 < g q) = false := by simp; omega
                go_wp2_with fail
                refine wp_region_quiet_lit (by kernel_rfl) (by kernel_rfl) ?_
                repeat (any_goals (first | go_big_quiet_step ((go_at_call 12; first | exact quiet_add_left (worth12 _ _ _ (by omega)) | exact quiet_left (worth12 _ _ _ (by omega)))) | quiet_step (fail) | (refine wpQuiet_step (fun K hK => ?_); go_simp; split <;> (first | (exfalso; omega) | (refine hK _ ?_; clear hK K)))))
                all_goals (refine wpQuiet_nil ?_; intro _ hw'; obtain ⟨nq, hw''⟩ := hw'; subst hw'')
                all_goals go_wp2
                all_goals go_roundw
                case rel => exact ⟨q + 1, by omega, by go_num, _, rfl⟩
                case measure => simp [intOf]; omega
            · obtain rfl : q = k := by omega
              go_wp2_with fail
              go_ret
              exact ⟨rfl, below_drewN hbt4 m⟩
        · obtain ⟨p, rfl⟩ : ∃ p' : Nat, p = p' := ⟨p.toNat, by omega⟩
          have hfine := HF.out (by omega)
          simp only [Int.toNat_natCast] at hfine
          obtain ⟨hf1, hf2⟩ := hfine
          have t4 : ((p : Int) == op) = false := by simpa using hf2
          have hcp := block_cell HC4.out p _ (HV.out p (by omega))
          have hgp := HGR.out p
          have t10 : decide (k ≤ p) = false := by simp; omega
          have t11 : decide (g p < 1) = false := by simp; omega
          clear hf2
          go_wp2_with fail
          go_loopw [10] (fun i wr => ∃ q : Nat, q ≤ k ∧ i = .int .i64 q ∧ ∃ m, wr = w4.drewN m) (fun i _ => k - (intOf i).toNat)
          case atStart => exact ⟨0, Nat.zero_le _, rfl, 0, rfl⟩
          case round =>
            obtain ⟨q, hq, rfl, m, rfl⟩ := hrel
            by_cases hlt : q < k
            · have hcq := block_cell HC4.out q _ (HV.out q hlt)
              have hgq := HGR.out q
              by_cases h1 : 1 ≤ g q
              · by_cases h2 : (q : Int) = op
                · have t3 : ((q : Int) != op) = false := by rw [h2]; simp
                  clear h2
                  go_wp2_with fail
                  refine wp_region_quiet_lit (by kernel_rfl) (by kernel_rfl) ?_
                  repeat (any_goals (first | go_big_quiet_step ((go_at_call 12; first | exact quiet_add_left (worth12 _ _ _ (by omega)) | exact quiet_left (worth12 _ _ _ (by omega)))) | quiet_step (fail) | (refine wpQuiet_step (fun K hK => ?_); go_simp; split <;> (first | (exfalso; omega) | (refine hK _ ?_; clear hK K)))))
                  all_goals (refine wpQuiet_nil ?_; intro _ hw'; obtain ⟨nq, hw''⟩ := hw'; subst hw'')
                  all_goals go_wp2
                  all_goals go_roundw
                  case rel => exact ⟨q + 1, by omega, by go_num, _, rfl⟩
                  case measure => simp [intOf]; omega
                · have t3 : ((q : Int) != op) = true := by simpa using h2
                  have hbest := HB.out q hlt h1 h2
                  simp only [Int.toNat_natCast] at hbest
                  obtain ⟨_, hle, heq⟩ := hbest
                  have t5 : decide (worth (g p) s < worth (g q) s) = false := by simp [worth]; omega
                  have t6 : ((p : Int) < 0) = False := by simp
                  clear h2
                  by_cases h7 : g q = g p
                  · have t7 : (g q == g p) = true := by simpa using h7
                    have t8 := heq h7
                    have t9 : decide (q < p) = false := by simp; omega
                    clear heq h7
                    go_wp2_with fail
                    refine wp_region_quiet_lit (by kernel_rfl) (by kernel_rfl) ?_
                    repeat (any_goals (first | go_big_quiet_step ((go_at_call 12; first | exact quiet_add_left (worth12 _ _ _ (by omega)) | exact quiet_left (worth12 _ _ _ (by omega)))) | quiet_step (fail) | (refine wpQuiet_step (fun K hK => ?_); go_simp; split <;> (first | (exfalso; omega) | (refine hK _ ?_; clear hK K)))))
                    all_goals (refine wpQuiet_nil ?_; intro _ hw'; obtain ⟨nq, hw''⟩ := hw'; subst hw'')
                    all_goals go_wp2
                    all_goals go_roundw
                    case rel => exact ⟨q + 1, by omega, by go_num, _, rfl⟩
                    case measure => simp [intOf]; omega
                  · have t7 : (g q == g p) = false := by simpa using h7
                    clear heq h7
                    go_wp2_with fail
                    refine wp_region_quiet_lit (by kernel_rfl) (by kernel_rfl) ?_
                    repeat (any_goals (first | go_big_quiet_step ((go_at_call 12; first | exact quiet_add_left (worth12 _ _ _ (by omega)) | exact quiet_left (worth12 _ _ _ (by omega)))) | quiet_step (fail) | (refine wpQuiet_step (fun K hK => ?_); go_simp; split <;> (first | (exfalso; omega) | (refine hK _ ?_; clear hK K)))))
                    all_goals (refine wpQuiet_nil ?_; intro _ hw'; obtain ⟨nq, hw''⟩ := hw'; subst hw'')
                    all_goals go_wp2
                    all_goals go_roundw
                    case rel => exact ⟨q + 1, by omega, by go_num, _, rfl⟩
                    case measure => simp [intOf]; omega
              · have t3 : decide (0 < g q) = false := by simp; omega
                go_wp2_with fail
                refine wp_region_quiet_lit (by kernel_rfl) (by kernel_rfl) ?_
                repeat (any_goals (first | go_big_quiet_step ((go_at_call 12; first | exact quiet_add_left (worth12 _ _ _ (by omega)) | exact quiet_left (worth12 _ _ _ (by omega)))) | quiet_step (fail) | (refine wpQuiet_step (fun K hK => ?_); go_simp; split <;> (first | (exfalso; omega) | (refine hK _ ?_; clear hK K)))))
                all_goals (refine wpQuiet_nil ?_; intro _ hw'; obtain ⟨nq, hw''⟩ := hw'; subst hw'')
                all_goals go_wp2
                all_goals go_roundw
                case rel => exact ⟨q + 1, by omega, by go_num, _, rfl⟩
                case measure => simp [intOf]; omega
            · obtain rfl : q = k := by omega
              go_wp2_with fail
              go_ret
              exact ⟨rfl, below_drewN hbt4 m⟩
end Go.Proofs.Ytnebpcoegomoeaa
