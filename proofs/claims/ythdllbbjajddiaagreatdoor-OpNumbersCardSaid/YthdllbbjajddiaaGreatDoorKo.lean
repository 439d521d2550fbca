/- The kit's lists of bytes: marks, lists that are lent. -/
import Derived.Test.YthdllbbjajddiaaGreatDoorKm
set_option linter.all false
namespace Go.Proofs.YthdllbbjajddiaaGreatDoor
open Go.RowKit
theorem infoB : (Tryz.prog.info? 5).map (fun i => (i.zero, i.size, i.bytes)) = some (some (.int .u8 0), 1, 1) := by kernel_rfl
set_option maxRecDepth 100000 in
theorem markB_ex : ∃ M : Nat → Nat → Nat, ∀ (k i : Nat) (w : World), k < 100000 → i < 1000000000 → Calls Tryz.prog 44 #[.int .i64 k, .int .i64 i] w fun e w' => e = .returned (.int .u8 (M k i : Nat)) ∧ w = w' := by
  refine ⟨fun k i => (1000003 * (k + 7) + i) * 11400714819323198485 % 18446744073709551616 / 72057594037927936, fun k i w hk hi => ?_⟩
  obtain ⟨x, hx⟩ : ∃ x, x = 1000003 * (k + 7) + i := ⟨_, rfl⟩
  have hx2 : x < 1000000000000000 := by omega
  have HX := Lib.hid hx
  clear hx
  go_enter Tryz.func44, Tryz.ntmps44
  go_wp2_with fail
  refine (mark_k k i w hk hi).mono ?_
  rintro e _ ⟨rfl, rfl⟩
  rw [← HX.out]
  go_wp2_with fail
  go_ret
  refine ⟨?_, rfl⟩
  refine ret_int ?_
  show IntKind.u64.wrap ((x : Int) * 11400714819323198485) / 72057594037927936 % 256 = _
  rw [← HX.out, IntKind.wrap_u64]
  have e1 : (x : Int) * 11400714819323198485 % 18446744073709551616 = ((x * 11400714819323198485 % 18446744073709551616 : Nat) : Int) := by
    rw [Int.natCast_emod, Int.natCast_mul]; rfl
  have e2 : x * 11400714819323198485 % 18446744073709551616 < 18446744073709551616 := Nat.mod_lt _ (by omega)
  rw [e1]
  generalize x * 11400714819323198485 % 18446744073709551616 = y at e2 ⊢
  omega
/-- A byte's mark. -/
noncomputable def mkB : Nat → Nat → Nat := Classical.choose markB_ex
theorem markB (k i : Nat) (w : World) (hk : k < 100000) (hi : i < 1000000000) : Calls Tryz.prog 44 #[.int .i64 k, .int .i64 i] w fun e w' => e = .returned (.int .u8 (mkB k i : Nat)) ∧ w = w' :=
  Classical.choose_spec markB_ex k i w hk hi
noncomputable def markRowB (t k : Nat) : List Value := (List.range k).map fun i : Nat => Value.int .u8 (mkB t i : Nat)
theorem markRowB_succ (t k : Nat) : markRowB t (k + 1) = markRowB t k ++ [.int .u8 (mkB t k : Nat)] := by simp [markRowB, List.range_succ]
theorem markRowB_length (t k : Nat) : (markRowB t k).length = k := by simp [markRowB]
def LentB (w : World) (n : Nat) (xs : List Value) (e : Ending) (w' : World) : Prop :=
  ∃ g, e = .returned (.slice (some ⟨g, 0, none⟩) n (n + 12)) ∧ w.heap.size ≤ g ∧ w'.heap[g]? = some (.cells (xs ++ markRowB 1 12).toArray 5 (0, 0)) ∧ Below w.heap.size w w'
set_option maxHeartbeats 1000000 in
set_option maxRecDepth 100000 in
theorem lentB (f : Nat → Int) (A : Option Addr) (n c : Nat) (w : World) (hn : n ≤ 17592186044400) (ha : Arr w w.heap.size A n fun j => .int .u8 (f j)) (hA : A = none → n = 0 ∧ c = 0) :
    Calls Tryz.prog 24 #[.slice A n c] w (LentB w n ((List.range n).map fun j => Value.int .u8 (f j))) := by
  obtain ⟨i0, hi, hz0, hz1, hz2⟩ := infoParts infoB
  have HA := Lib.hid hA
  have HH := Lib.hid ha
  clear hA ha
  go_enter Tryz.func24, Tryz.ntmps24
  go_wp2_with (first
    | (at_make; refine wpList_make_own _ rfl _ _ 30 rfl w.heap.size 5 i0 (.int .u8 0) 1 Tryz.underlying30 hi hz0 hz1 _ _ _ (n + 12) rfl rfl (by omega) (by rw [hz2]; omega) (by unfold maxLen; omega) (Nat.le_refl _) ?_; intro w1 hown1 hg1; have hb1 : Below w.heap.size w w1 := (Below.refl _ w).grown hg1 (Nat.le_refl _) (by simp); have HH1 := Lib.hid (HH.out.below hb1 (Nat.le_refl _)))
    | (at_builtin; (refine wpList_append_fits_any _ rfl (.tmp 9) (.tmp 10) 30 rfl w.heap.size 5 i0 1 Tryz.underlying30 hi hz1 w.heap.size 0 (n + 12) [] rfl hown1 A n c ((List.range n).map fun j => Value.int .u8 (f j)) rfl (by simp) HA.out HH1.out.cellsAt (by simp [Value.oneCell']) (by omega) ?_); intro w2 hown2 hg2; simp only [Nat.zero_add, List.nil_append] at hown2))
  have hb2 : Below w.heap.size w w2 := hb1.grown hg2 hb1.size (fun k e => by cases e; exact Nat.le_refl _)
  have hz : w.heap.size < w2.heap.size := by
    rcases hown2.2 with ⟨h, _⟩ | ⟨g, cap, cur, h, _, hh, _⟩
    · simp at h
    · simp only [Value.slice.injEq, Option.some.injEq, Addr.mk.injEq] at h
      obtain ⟨⟨rfl, _⟩, _⟩ := h
      exact (Array.getElem?_eq_some_iff.1 hh).1
  clear hown1 hg1 HH1 hg2 hb1
  go_loopw [3, 4] (fun v i wr => ∃ k : Nat, k ≤ 12 ∧ i = .int .i64 k ∧ v = .slice (some ⟨w.heap.size, 0, none⟩) (n + k) (n + 12) ∧
      wr.ownsRow w.heap.size 5 1 (.slice (some ⟨w.heap.size, 0, none⟩) (n + k) (n + 12)) (n + k) (((List.range n).map fun j => Value.int .u8 (f j)) ++ markRowB 1 k) ∧ Below w.heap.size w wr ∧ w.heap.size < wr.heap.size) (fun _ i _ => 12 - (intOf i).toNat)
  case atStart => exact ⟨0, Nat.zero_le _, rfl, rfl, by simpa [markRowB] using hown2, hb2, hz⟩
  case round =>
    clear hown2 hb2 hz
    obtain ⟨k, hk, rfl, rfl, hown, hB, hz⟩ := hrel
    by_cases hlt : k < 12
    · have HO := Lib.hid hown
      clear hown
      go_wp2_with (first
        | (go_at_call 44; refine (markB 1 k _ (by omega) (by omega)).mono ?_; rintro e w' ⟨rfl, rfl⟩)
        | (at_builtin; refine wpList_append_fits _ rfl (.tmp 16) (.tmp 19) 30 rfl w.heap.size 5 i0 1 Tryz.underlying30 hi hz1 w.heap.size (n + k) (n + 12) _ rfl (HO.out.alloc _) ⟨wr.heap.size, 0, none⟩ 1 1 [.int .u8 (mkB 1 k : Nat)] rfl rfl (cell_one_new _ _ _) (by simp [Value.oneCell']) (by omega) ?_; intro w3 hown3 hg3))
      go_roundw
      case rel =>
        refine ⟨k + 1, by omega, by go_num, rfl, ?_, (hB.alloc hB.size _).grown hg3 (by simp; omega) (fun k e => by cases e; exact Nat.le_refl _), Nat.lt_of_lt_of_le (by simp; omega) hg3.size⟩
        rw [markRowB_succ, ← List.append_assoc]
        exact hown3
      case measure => simp [intOf]; omega
    · obtain rfl : k = 12 := by omega
      go_wp2
      go_ret
      rcases hown.2 with ⟨h, _⟩ | ⟨g, cap, cur, h, _, hh, _, _, hsz, htk⟩
      · simp at h
      · simp only [Value.slice.injEq, Option.some.injEq, Addr.mk.injEq] at h
        obtain ⟨⟨rfl, _⟩, _, rfl⟩ := h
        refine ⟨w.heap.size, rfl, Nat.le_refl _, ?_, hB⟩
        rw [hh, ← htk, List.take_of_length_le (by simp; omega)]
/-- What was lent reads as an array; its marks behind it. -/
theorem lent_arr {w : World} {g n : Nat} {f : Nat → Int} (hg : w.heap[g]? = some (.cells (((List.range n).map fun j => Value.int .u8 (f j)) ++ markRowB 1 12).toArray 5 (0, 0))) : Arr w w.heap.size (some ⟨g, 0, none⟩) n fun j => .int .u8 (f j) :=
  Arr.ofBlock n _ hg fun j hj => by simp [hj, List.getElem?_append]
set_option maxHeartbeats 2000000 in
theorem keptB (f : Nat → Int) (A : Option Addr) (g n c B : Nat) (w : World) (hn : n ≤ 17592186044400) (ha : Arr w B A n fun j => .int .u8 (f j))
    (hg : w.heap[g]? = some (.cells (((List.range n).map fun j => Value.int .u8 (f j)) ++ markRowB 1 12).toArray 5 (0, 0))) :
    Calls Tryz.prog 25 #[.slice (some ⟨g, 0, none⟩) n (n + 12), .slice A n c] w fun e w' => e = .returned (.bool true) ∧ ∃ m, w' = w.drewN m := by
  have h1 : ∀ k, k < n → w.cell? ⟨g, k, none⟩ = some (.int .u8 (f k)) := fun k hk => block_cell hg k _ (by simp [hk, List.getElem?_append])
  have h2 : ∀ k, k < 12 → w.cell? ⟨g, n + k, none⟩ = some (.int .u8 (mkB 1 k : Nat)) := fun k hk => block_cell hg (n + k) _ (by simp [markRowB, hk])
  have H1 := Lib.hid h1
  have H2 := Lib.hid h2
  have HA := Lib.hid ha
  clear h1 h2 ha hg
  go_enter Tryz.func25, Tryz.ntmps25
  go_wp2
  go_loopw [6] (fun i wr => ∃ k : Nat, k ≤ n + 12 ∧ i = .int .i64 k ∧ ∃ m, wr = w.drewN m) (fun i _ => n + 12 - (intOf i).toNat)
  case atStart => exact ⟨0, Nat.zero_le _, rfl, 0, rfl⟩
  case round =>
    obtain ⟨k, hk, rfl, m, rfl⟩ := hrel
    by_cases hlt : k < n
    · obtain ⟨b, off, rfl, hb, hc⟩ := HA.out (by omega)
      have hck := hc k hlt
      have hgk := H1.out k hlt
      clear hc
      have d1 : decide (n ≤ k) = false := by simp; omega
      go_wp2
      refine wp_region_quiet_lit (by kernel_rfl) (by kernel_rfl) ?_
      repeat (any_goals (first | go_big_quiet_step (fail) | quiet_step (fail) | (refine wpQuiet_step (fun K hK => ?_); go_simp; split <;> (first | (exfalso; omega) | (refine hK _ ?_; clear hK K)))))
      all_goals (refine wpQuiet_nil ?_; intro _ hw'; obtain ⟨nq, hw''⟩ := hw'; subst hw'')
      all_goals go_wp2
      all_goals go_roundw
      case rel => exact ⟨k + 1, by omega, by go_num, _, rfl⟩
      case measure => simp [intOf]; omega
    · by_cases hlt2 : k < n + 12
      · obtain ⟨q, rfl⟩ : ∃ q, k = n + q := ⟨k - n, by omega⟩
        have hgk := H2.out q (by omega)
        have e1 : ((n : Int) + (q : Int) - n) = (q : Int) := by omega
        go_wp2
        refine wp_region_quiet_lit (by kernel_rfl) (by kernel_rfl) ?_
        repeat (any_goals (first | go_big_quiet_step ((go_at_call 44; exact quiet_add_left (markB 1 q _ (by omega) (by omega)))) | quiet_step ((go_at_call 44; exact quiet_add_left (markB 1 q _ (by omega) (by omega)))) | (refine wpQuiet_step (fun K hK => ?_); go_simp; split <;> (first | (exfalso; omega) | (refine hK _ ?_; clear hK K)))))
        all_goals (refine wpQuiet_nil ?_; intro _ hw'; obtain ⟨nq, hw''⟩ := hw'; subst hw'')
        all_goals go_wp2
        all_goals go_roundw
        case rel => exact ⟨n + q + 1, by omega, by go_num, _, rfl⟩
        case measure => simp [intOf]; omega
      · obtain rfl : k = n + 12 := by omega
        go_wp2
        go_ret
        exact ⟨rfl, m, rfl⟩
end Go.Proofs.YthdllbbjajddiaaGreatDoor
namespace Go.Proofs.YthdllbbjajddiaaGreatDoor
open Go.RowKit
set_option maxHeartbeats 1000000 in
set_option maxRecDepth 100000 in
theorem overB (g n : Nat) (cs : Array Value) (w : World) (hn : n ≤ 999999000) (hg : w.heap[g]? = some (.cells cs 5 (0, 0))) (hs : cs.size = n + 12) :
    Calls Tryz.prog 26 #[.slice (some ⟨g, 0, none⟩) n (n + 12)] w fun e w' => e = .returned undef ∧ Keeps (fun k => k = g) w w' := by
  have HG := Lib.hid hg
  have HS := Lib.hid hs
  clear hg hs
  go_enter Tryz.func26, Tryz.ntmps26
  go_wp2_with fail
  go_loopw [3] (fun i wr => ∃ (k : Nat) (cs : Array Value), k ≤ n + 12 ∧ i = .int .i64 k ∧ wr.heap[g]? = some (.cells cs 5 (0, 0)) ∧ cs.size = n + 12 ∧ Keeps (fun k => k = g) w wr) (fun i _ => n + 12 - (intOf i).toNat)
  case atStart => exact ⟨0, cs, Nat.zero_le _, rfl, HG.out, HS.out, Keeps.refl _ _⟩
  case round =>
    clear HG HS
    obtain ⟨k, ds, hk, rfl, hg, hs, hkp⟩ := hrel
    have HG := Lib.hid hg
    have HS := Lib.hid hs
    have HK := Lib.hid hkp
    clear hg hs hkp
    by_cases hlt : k < n + 12
    · have hck : ∃ u, wr.cell? ⟨g, k, none⟩ = some u := ⟨ds[k]'(by rw [HS.out]; exact hlt), block_cell HG.out k _ (Array.getElem?_eq_getElem _)⟩
      obtain ⟨u, hu⟩ := hck
      have hfz : wr.frozen? ⟨g, k, none⟩ = false := frozen_of_row wr g k _ _ HG.out
      go_wp2_with fail
      refine (markB 2 k _ (by omega) (by omega)).mono ?_
      rintro e _ ⟨rfl, rfl⟩
      go_wp2_with fail
      go_roundw
      case rel =>
        refine ⟨k + 1, ds.setIfInBounds k (.int .u8 (mkB 2 k : Nat)), by omega, by go_num, heap_setCell_same wr g k _ _ _ HG.out, by rw [Array.size_setIfInBounds]; exact HS.out, HK.out.trans (Keeps.setCell (fun k => k = g) _ ⟨g, k, none⟩ _ rfl) fun _ _ h => h⟩
      case measure => simp [intOf]; omega
    · obtain rfl : k = n + 12 := by omega
      go_wp2_with fail
      refine bodyPost_end (results_none rfl _ _ _) rfl ?_
      exact ⟨rfl, HK.out⟩
end Go.Proofs.YthdllbbjajddiaaGreatDoor
