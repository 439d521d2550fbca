/- Part of the proof of the statements of layer 29 (victim): what each function of the layer, of the reference and of the laws computes, at every input; and that the laws return true. No condition. -/
import Derived.Test.YtnebpcoegomoeaaL
namespace Go.Proofs.Ytnebpcoegomoeaa
open Go.RowKit Go.Shelf
set_option maxHeartbeats 2000000 in
theorem kept11 (f : Nat → Int) (A : Option Addr) (g n c B : Nat) (w : World) (hn : n ≤ 17592186044400) (ha : Arr w B A n fun j => .int .i64 (f j))
    (hg : w.heap[g]? = some (.cells (((List.range n).map fun j => Value.int .i64 (f j)) ++ marks 12).toArray 3 (0, 0))) :
    Calls Try.prog 11 #[.slice (some ⟨g, 0, none⟩) n (n + 12), .slice A n c] w fun e w' => e = .returned (.bool true) ∧ ∃ m, w' = w.drewN m := by
  have h1 : ∀ k, k < n → w.cell? ⟨g, k, none⟩ = some (.int .i64 (f k)) := fun k hk => block_cell hg k _ (by simp [hk, List.getElem?_append])
  have h2 : ∀ k, k < 12 → w.cell? ⟨g, n + k, none⟩ = some (.int .i64 (8000024 + k)) := fun k hk => block_cell hg (n + k) _ (by simp [marks, hk])
  have H1 := Lib.hid h1
  have H2 := Lib.hid h2
  have HA := Lib.hid ha
  clear h1 h2 ha hg
  go_enter Try.func11, Try.ntmps11
  go_wp2
  go_loopw [6] (fun i wr => ∃ k : Nat, k ≤ n + 12 ∧ i = .int .i64 k ∧ ∃ m, wr = w.drewN m) (fun i _ => n + 12 - (intOf i).toNat)
  case atStart => exact ⟨0, Nat.zero_le _, rfl, 0, rfl⟩
  case round =>
    obtain ⟨k, hk, rfl, m, rfl⟩ := hrel
    by_cases hlt : k < n
    · obtain ⟨b, off, rfl, hb, hc⟩ := HA.out (by omega)
      have hck := hc k hlt
      have hgk := H1.out k hlt
      clear hc
      have d1 : decide (n ≤ k) = false := by simp; omega
      go_wp2
      refine wp_region_quiet_lit (by kernel_rfl) (by kernel_rfl) ?_
      repeat (any_goals (first | go_big_quiet_step (fail) | quiet_step (fail) | (refine wpQuiet_step (fun K hK => ?_); go_simp; split <;> (first | (exfalso; omega) | (refine hK _ ?_; clear hK K)))))
      all_goals (refine wpQuiet_nil ?_; intro _ hw'; obtain ⟨nq, hw''⟩ := hw'; subst hw'')
      all_goals go_wp2
      all_goals go_roundw
      case rel => exact ⟨k + 1, by omega, by go_num, _, rfl⟩
      case measure => simp [intOf]; omega
    · by_cases hlt2 : k < n + 12
      · obtain ⟨q, rfl⟩ : ∃ q, k = n + q := ⟨k - n, by omega⟩
        have hgk := H2.out q (by omega)
        have t1 : ((8000024 + (q : Int)) == 8000024 + ((n : Int) + q - n)) = true := by simp; omega
        go_wp2
        refine wp_region_quiet_lit (by kernel_rfl) (by kernel_rfl) ?_
        repeat (any_goals (first | go_big_quiet_step ((go_at_call 15; exact quiet_add_left (mark15 _ _ (by omega) (by omega)))) | quiet_step ((go_at_call 15; exact quiet_add_left (mark15 _ _ (by omega) (by omega)))) | (refine wpQuiet_step (fun K hK => ?_); go_simp; split <;> (first | (exfalso; omega) | (refine hK _ ?_; clear hK K)))))
        all_goals (refine wpQuiet_nil ?_; intro _ hw'; obtain ⟨nq, hw''⟩ := hw'; subst hw'')
        all_goals go_wp2
        all_goals go_roundw
        case rel => exact ⟨n + q + 1, by omega, by go_num, _, rfl⟩
        case measure => simp [intOf]; omega
      · obtain rfl : k = n + 12 := by omega
        go_wp2
        go_ret
        exact ⟨rfl, m, rfl⟩
end Go.Proofs.Ytnebpcoegomoeaa
