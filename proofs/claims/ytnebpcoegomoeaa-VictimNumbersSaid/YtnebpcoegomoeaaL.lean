/- Part of the proof of the statements of layer 29 (victim): what each function of the layer, of the reference and of the laws computes, at every input; and that the laws return true. No condition. -/
import Derived.Test.YtnebpcoegomoeaaB
import Derived.Laws.OwnMore
import Derived.Maps.AppendAt
namespace Go.Proofs.Ytnebpcoegomoeaa
open Go.RowKit Go.Shelf
theorem info3 : (Try.prog.info? 3).map (fun i => (i.zero, i.size, i.bytes)) = some (some (.int .i64 0), 1, 8) := by kernel_rfl
/-- The mark of a place: 1000003 * (k + 7) + i. -/
theorem mark15 (i : Int) (w : World) (h0 : 0 ≤ i) (hi : i < 1000) : Calls Try.prog 15 #[.int .i64 1, .int .i64 i] w fun e w' => e = .returned (.int .i64 (8000024 + i)) ∧ w = w' := by
  go_enter Try.func15, Try.ntmps15
  go_wp2
  go_ret
  exact ⟨rfl, rfl⟩
def marks (k : Nat) : List Value := (List.range k).map fun i : Nat => Value.int .i64 (8000024 + i)
theorem marks_succ (k : Nat) : marks (k + 1) = marks k ++ [.int .i64 (8000024 + k)] := by simp [marks, List.range_succ]
def LentPost (w : World) (n : Nat) (xs : List Value) (e : Ending) (w' : World) : Prop :=
  ∃ g, e = .returned (.slice (some ⟨g, 0, none⟩) n (n + 12)) ∧ w.heap.size ≤ g ∧ w'.heap[g]? = some (.cells (xs ++ marks 12).toArray 3 (0, 0)) ∧ Below w.heap.size w w'
set_option maxHeartbeats 1000000 in
theorem lent8 (f : Nat → Int) (A : Option Addr) (n c : Nat) (w : World) (hn : n ≤ 17592186044400) (ha : Arr w w.heap.size A n fun j => .int .i64 (f j)) (hA : A = none → n = 0 ∧ c = 0) :
    Calls Try.prog 8 #[.slice A n c] w (LentPost w n ((List.range n).map fun j => Value.int .i64 (f j))) := by
  obtain ⟨i0, hi, hz0, hz1, hz2⟩ := info_parts info3
  have HA := Lib.hid hA
  have HH := Lib.hid ha
  clear hA ha
  go_enter Try.func8, Try.ntmps8
  go_wp2_with (first
    | (at_make; refine wpList_make_own _ rfl _ _ 22 rfl w.heap.size 3 i0 (.int .i64 0) 1 Try.underlying22 hi hz0 hz1 _ _ _ (n + 12) rfl rfl (by omega) (by rw [hz2]; omega) (by unfold maxLen; omega) (Nat.le_refl _) ?_; intro w1 hown1 hg1; have hb1 : Below w.heap.size w w1 := (Below.refl _ w).grown hg1 (Nat.le_refl _) (by simp); have HH1 := Lib.hid (HH.out.below hb1 (Nat.le_refl _)))
    | (at_builtin; (refine wpList_append_fits_any _ rfl (.tmp 9) (.tmp 10) 22 rfl w.heap.size 3 i0 1 Try.underlying22 hi hz1 w.heap.size 0 (n + 12) [] rfl hown1 A n c ((List.range n).map fun j => Value.int .i64 (f j)) rfl (by simp) HA.out HH1.out.cellsAt (by simp [Value.oneCell']) (by omega) ?_); intro w2 hown2 hg2; simp only [Nat.zero_add, List.nil_append] at hown2))
  have hb2 : Below w.heap.size w w2 := hb1.grown hg2 hb1.size (fun k e => by cases e; exact Nat.le_refl _)
  have hz : w.heap.size < w2.heap.size := by
    rcases hown2.2 with ⟨h, _⟩ | ⟨g, cap, cur, h, _, hh, _⟩
    · simp at h
    · simp only [Value.slice.injEq, Option.some.injEq, Addr.mk.injEq] at h
      obtain ⟨⟨rfl, _⟩, _⟩ := h
      exact (Array.getElem?_eq_some_iff.1 hh).1
  clear hown1 hg1 HH1 hg2 hb1
  go_loopw [3, 4] (fun v i wr => ∃ k : Nat, k ≤ 12 ∧ i = .int .i64 k ∧ v = .slice (some ⟨w.heap.size, 0, none⟩) (n + k) (n + 12) ∧
      wr.ownsRow w.heap.size 3 1 (.slice (some ⟨w.heap.size, 0, none⟩) (n + k) (n + 12)) (n + k) (((List.range n).map fun j => Value.int .i64 (f j)) ++ marks k) ∧ Below w.heap.size w wr ∧ w.heap.size < wr.heap.size) (fun _ i _ => 12 - (intOf i).toNat)
  case atStart => exact ⟨0, Nat.zero_le _, rfl, rfl, by simpa [marks] using hown2, hb2, hz⟩
  case round =>
    clear hown2 hb2 hz
    obtain ⟨k, hk, rfl, rfl, hown, hB, hz⟩ := hrel
    by_cases hlt : k < 12
    · have HO := Lib.hid hown
      clear hown
      go_wp2_with (first
        | (go_at_call 15; refine (mark15 k _ (by omega) (by omega)).mono ?_; rintro e w' ⟨rfl, rfl⟩)
        | (at_builtin; refine wpList_append_fits _ rfl (.tmp 16) (.tmp 19) 22 rfl w.heap.size 3 i0 1 Try.underlying22 hi hz1 w.heap.size (n + k) (n + 12) _ rfl (HO.out.alloc _) ⟨wr.heap.size, 0, none⟩ 1 1 [.int .i64 (8000024 + k)] rfl rfl (cell_one_new _ _ _) (by simp [Value.oneCell']) (by omega) ?_; intro w3 hown3 hg3))
      go_roundw
      case rel =>
        refine ⟨k + 1, by omega, by go_num, rfl, ?_, (hB.alloc hB.size _).grown hg3 (by simp; omega) (fun k e => by cases e; exact Nat.le_refl _), Nat.lt_of_lt_of_le (by simp; omega) hg3.size⟩
        rw [marks_succ, ← List.append_assoc]
        exact hown3
      case measure => simp [intOf]; omega
    · obtain rfl : k = 12 := by omega
      go_wp2
      go_ret
      rcases hown.2 with ⟨h, _⟩ | ⟨g, cap, cur, h, _, hh, _, _, hsz, htk⟩
      · simp at h
      · simp only [Value.slice.injEq, Option.some.injEq, Addr.mk.injEq] at h
        obtain ⟨⟨rfl, _⟩, _, rfl⟩ := h
        refine ⟨w.heap.size, rfl, Nat.le_refl _, ?_, hB⟩
        rw [hh, ← htk, List.take_of_length_le (by simp; omega)]
end Go.Proofs.Ytnebpcoegomoeaa
