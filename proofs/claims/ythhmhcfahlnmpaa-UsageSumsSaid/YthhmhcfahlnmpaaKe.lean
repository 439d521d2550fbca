/- The kit's flat lists, empty: nothing is found. -/
import Derived.Test.YthhmhcfahlnmpaaKm
import Derived.Laws.MakeOwn
namespace Go.Proofs.Ythhmhcfahlnmpaa
open Go.RowKit
theorem infoS_Limbs : (Try.prog.info? 118).map (fun i => (i.zero, i.size, i.bytes)) = some (some (.slice none 0 0), 1, 24) := by kernel_rfl
set_option maxRecDepth 100000 in
theorem flat0_Limbs (w : World) : Calls Try.prog 43 #[.slice none 0 0] w fun e w' => e = .returned (.bool true) ∧ Below w.heap.size w w' := by
  obtain ⟨i0, hi, hz0, hz1, hz2⟩ := infoParts infoS_Limbs
  go_enter Try.func43, Try.ntmps43
  go_wp2_with fail
  refine wp_loop_rounds 1 ?_
  rw [rounds_succ]
  go_wp2_with (at_make; refine wpList_make_full _ rfl _ _ 55 rfl w.heap.size 118 i0 (.slice none 0 0) 1 Try.underlying55 hi hz0 hz1 _ _ _ _ 0 rfl rfl (by rfl) (by rfl) (by rw [hz2]; omega) (by unfold maxLen; omega) (Nat.le_refl _) ?_; intro w1 hown hg; have HB := Lib.hid ((Below.refl _ w).grown hg (Nat.le_refl _) (by simp)); clear hown hg)
  iterate 4
    refine wp_loop_rounds 1 ?_
    rw [rounds_succ]
    go_wp2_with fail
  go_ret
  exact ⟨rfl, HB.out⟩
theorem infoS_Words : (Try.prog.info? 119).map (fun i => (i.zero, i.size, i.bytes)) = some (some (.slice none 0 0), 1, 24) := by kernel_rfl
set_option maxRecDepth 100000 in
theorem flat0_Words (w : World) : Calls Try.prog 44 #[.slice none 0 0] w fun e w' => e = .returned (.bool true) ∧ Below w.heap.size w w' := by
  obtain ⟨i0, hi, hz0, hz1, hz2⟩ := infoParts infoS_Words
  go_enter Try.func44, Try.ntmps44
  go_wp2_with fail
  refine wp_loop_rounds 1 ?_
  rw [rounds_succ]
  go_wp2_with (at_make; refine wpList_make_full _ rfl _ _ 56 rfl w.heap.size 119 i0 (.slice none 0 0) 1 Try.underlying56 hi hz0 hz1 _ _ _ _ 0 rfl rfl (by rfl) (by rfl) (by rw [hz2]; omega) (by unfold maxLen; omega) (Nat.le_refl _) ?_; intro w1 hown hg; have HB := Lib.hid ((Below.refl _ w).grown hg (Nat.le_refl _) (by simp)); clear hown hg)
  iterate 4
    refine wp_loop_rounds 1 ?_
    rw [rounds_succ]
    go_wp2_with fail
  go_ret
  exact ⟨rfl, HB.out⟩
theorem infoS_Ints : (Try.prog.info? 27).map (fun i => (i.zero, i.size, i.bytes)) = some (some (.slice none 0 0), 1, 24) := by kernel_rfl
set_option maxRecDepth 100000 in
theorem flat0_Ints (w : World) : Calls Try.prog 45 #[.slice none 0 0] w fun e w' => e = .returned (.bool true) ∧ Below w.heap.size w w' := by
  obtain ⟨i0, hi, hz0, hz1, hz2⟩ := infoParts infoS_Ints
  go_enter Try.func45, Try.ntmps45
  go_wp2_with fail
  refine wp_loop_rounds 1 ?_
  rw [rounds_succ]
  go_wp2_with (at_make; refine wpList_make_full _ rfl _ _ 34 rfl w.heap.size 27 i0 (.slice none 0 0) 1 Try.underlying34 hi hz0 hz1 _ _ _ _ 0 rfl rfl (by rfl) (by rfl) (by rw [hz2]; omega) (by unfold maxLen; omega) (Nat.le_refl _) ?_; intro w1 hown hg; have HB := Lib.hid ((Below.refl _ w).grown hg (Nat.le_refl _) (by simp)); clear hown hg)
  iterate 4
    refine wp_loop_rounds 1 ?_
    rw [rounds_succ]
    go_wp2_with fail
  go_ret
  exact ⟨rfl, HB.out⟩
theorem infoS_Longs : (Try.prog.info? 120).map (fun i => (i.zero, i.size, i.bytes)) = some (some (.slice none 0 0), 1, 24) := by kernel_rfl
set_option maxRecDepth 100000 in
theorem flat0_Longs (w : World) : Calls Try.prog 46 #[.slice none 0 0] w fun e w' => e = .returned (.bool true) ∧ Below w.heap.size w w' := by
  obtain ⟨i0, hi, hz0, hz1, hz2⟩ := infoParts infoS_Longs
  go_enter Try.func46, Try.ntmps46
  go_wp2_with fail
  refine wp_loop_rounds 1 ?_
  rw [rounds_succ]
  go_wp2_with (at_make; refine wpList_make_full _ rfl _ _ 57 rfl w.heap.size 120 i0 (.slice none 0 0) 1 Try.underlying57 hi hz0 hz1 _ _ _ _ 0 rfl rfl (by rfl) (by rfl) (by rw [hz2]; omega) (by unfold maxLen; omega) (Nat.le_refl _) ?_; intro w1 hown hg; have HB := Lib.hid ((Below.refl _ w).grown hg (Nat.le_refl _) (by simp)); clear hown hg)
  iterate 4
    refine wp_loop_rounds 1 ?_
    rw [rounds_succ]
    go_wp2_with fail
  go_ret
  exact ⟨rfl, HB.out⟩
theorem infoS_Texts : (Try.prog.info? 121).map (fun i => (i.zero, i.size, i.bytes)) = some (some (.slice none 0 0), 1, 24) := by kernel_rfl
set_option maxRecDepth 100000 in
theorem flat0_Texts (w : World) : Calls Try.prog 47 #[.slice none 0 0] w fun e w' => e = .returned (.bool true) ∧ Below w.heap.size w w' := by
  obtain ⟨i0, hi, hz0, hz1, hz2⟩ := infoParts infoS_Texts
  go_enter Try.func47, Try.ntmps47
  go_wp2_with fail
  refine wp_loop_rounds 1 ?_
  rw [rounds_succ]
  go_wp2_with (at_make; refine wpList_make_full _ rfl _ _ 58 rfl w.heap.size 121 i0 (.slice none 0 0) 1 Try.underlying58 hi hz0 hz1 _ _ _ _ 0 rfl rfl (by rfl) (by rfl) (by rw [hz2]; omega) (by unfold maxLen; omega) (Nat.le_refl _) ?_; intro w1 hown hg; have HB := Lib.hid ((Below.refl _ w).grown hg (Nat.le_refl _) (by simp)); clear hown hg)
  iterate 4
    refine wp_loop_rounds 1 ?_
    rw [rounds_succ]
    go_wp2_with fail
  go_ret
  exact ⟨rfl, HB.out⟩
theorem infoS_Bytes : (Try.prog.info? 123).map (fun i => (i.zero, i.size, i.bytes)) = some (some (.slice none 0 0), 1, 24) := by kernel_rfl
set_option maxRecDepth 100000 in
theorem flat0_Bytes (w : World) : Calls Try.prog 48 #[.slice none 0 0] w fun e w' => e = .returned (.bool true) ∧ Below w.heap.size w w' := by
  obtain ⟨i0, hi, hz0, hz1, hz2⟩ := infoParts infoS_Bytes
  go_enter Try.func48, Try.ntmps48
  go_wp2_with fail
  refine wp_loop_rounds 1 ?_
  rw [rounds_succ]
  go_wp2_with (at_make; refine wpList_make_full _ rfl _ _ 59 rfl w.heap.size 123 i0 (.slice none 0 0) 1 Try.underlying59 hi hz0 hz1 _ _ _ _ 0 rfl rfl (by rfl) (by rfl) (by rw [hz2]; omega) (by unfold maxLen; omega) (Nat.le_refl _) ?_; intro w1 hown hg; have HB := Lib.hid ((Below.refl _ w).grown hg (Nat.le_refl _) (by simp)); clear hown hg)
  iterate 4
    refine wp_loop_rounds 1 ?_
    rw [rounds_succ]
    go_wp2_with fail
  go_ret
  exact ⟨rfl, HB.out⟩
theorem infoS_TreeKeys : (Try.prog.info? 125).map (fun i => (i.zero, i.size, i.bytes)) = some (some (.slice none 0 0), 1, 24) := by kernel_rfl
set_option maxRecDepth 100000 in
theorem flat0_TreeKeys (w : World) : Calls Try.prog 49 #[.slice none 0 0] w fun e w' => e = .returned (.bool true) ∧ Below w.heap.size w w' := by
  obtain ⟨i0, hi, hz0, hz1, hz2⟩ := infoParts infoS_TreeKeys
  go_enter Try.func49, Try.ntmps49
  go_wp2_with fail
  refine wp_loop_rounds 1 ?_
  rw [rounds_succ]
  go_wp2_with (at_make; refine wpList_make_full _ rfl _ _ 60 rfl w.heap.size 125 i0 (.slice none 0 0) 1 Try.underlying60 hi hz0 hz1 _ _ _ _ 0 rfl rfl (by rfl) (by rfl) (by rw [hz2]; omega) (by unfold maxLen; omega) (Nat.le_refl _) ?_; intro w1 hown hg; have HB := Lib.hid ((Below.refl _ w).grown hg (Nat.le_refl _) (by simp)); clear hown hg)
  iterate 4
    refine wp_loop_rounds 1 ?_
    rw [rounds_succ]
    go_wp2_with fail
  go_ret
  exact ⟨rfl, HB.out⟩
theorem infoS_Pieces : (Try.prog.info? 129).map (fun i => (i.zero, i.size, i.bytes)) = some (some (.slice none 0 0), 1, 24) := by kernel_rfl
set_option maxRecDepth 100000 in
theorem flat0_Pieces (w : World) : Calls Try.prog 50 #[.slice none 0 0] w fun e w' => e = .returned (.bool true) ∧ Below w.heap.size w w' := by
  obtain ⟨i0, hi, hz0, hz1, hz2⟩ := infoParts infoS_Pieces
  go_enter Try.func50, Try.ntmps50
  go_wp2_with fail
  refine wp_loop_rounds 1 ?_
  rw [rounds_succ]
  go_wp2_with (at_make; refine wpList_make_full _ rfl _ _ 61 rfl w.heap.size 129 i0 (.slice none 0 0) 1 Try.underlying61 hi hz0 hz1 _ _ _ _ 0 rfl rfl (by rfl) (by rfl) (by rw [hz2]; omega) (by unfold maxLen; omega) (Nat.le_refl _) ?_; intro w1 hown hg; have HB := Lib.hid ((Below.refl _ w).grown hg (Nat.le_refl _) (by simp)); clear hown hg)
  iterate 4
    refine wp_loop_rounds 1 ?_
    rw [rounds_succ]
    go_wp2_with fail
  go_ret
  exact ⟨rfl, HB.out⟩
theorem infoS_Fates : (Try.prog.info? 133).map (fun i => (i.zero, i.size, i.bytes)) = some (some (.slice none 0 0), 1, 24) := by kernel_rfl
set_option maxRecDepth 100000 in
theorem flat0_Fates (w : World) : Calls Try.prog 51 #[.slice none 0 0] w fun e w' => e = .returned (.bool true) ∧ Below w.heap.size w w' := by
  obtain ⟨i0, hi, hz0, hz1, hz2⟩ := infoParts infoS_Fates
  go_enter Try.func51, Try.ntmps51
  go_wp2_with fail
  refine wp_loop_rounds 1 ?_
  rw [rounds_succ]
  go_wp2_with (at_make; refine wpList_make_full _ rfl _ _ 62 rfl w.heap.size 133 i0 (.slice none 0 0) 1 Try.underlying62 hi hz0 hz1 _ _ _ _ 0 rfl rfl (by rfl) (by rfl) (by rw [hz2]; omega) (by unfold maxLen; omega) (Nat.le_refl _) ?_; intro w1 hown hg; have HB := Lib.hid ((Below.refl _ w).grown hg (Nat.le_refl _) (by simp)); clear hown hg)
  iterate 4
    refine wp_loop_rounds 1 ?_
    rw [rounds_succ]
    go_wp2_with fail
  go_ret
  exact ⟨rfl, HB.out⟩
theorem infoS_Frames : (Try.prog.info? 137).map (fun i => (i.zero, i.size, i.bytes)) = some (some (.slice none 0 0), 1, 24) := by kernel_rfl
set_option maxRecDepth 100000 in
theorem flat0_Frames (w : World) : Calls Try.prog 52 #[.slice none 0 0] w fun e w' => e = .returned (.bool true) ∧ Below w.heap.size w w' := by
  obtain ⟨i0, hi, hz0, hz1, hz2⟩ := infoParts infoS_Frames
  go_enter Try.func52, Try.ntmps52
  go_wp2_with fail
  refine wp_loop_rounds 1 ?_
  rw [rounds_succ]
  go_wp2_with (at_make; refine wpList_make_full _ rfl _ _ 63 rfl w.heap.size 137 i0 (.slice none 0 0) 1 Try.underlying63 hi hz0 hz1 _ _ _ _ 0 rfl rfl (by rfl) (by rfl) (by rw [hz2]; omega) (by unfold maxLen; omega) (Nat.le_refl _) ?_; intro w1 hown hg; have HB := Lib.hid ((Below.refl _ w).grown hg (Nat.le_refl _) (by simp)); clear hown hg)
  iterate 4
    refine wp_loop_rounds 1 ?_
    rw [rounds_succ]
    go_wp2_with fail
  go_ret
  exact ⟨rfl, HB.out⟩
theorem infoS_Places : (Try.prog.info? 24).map (fun i => (i.zero, i.size, i.bytes)) = some (some (.slice none 0 0), 1, 24) := by kernel_rfl
set_option maxRecDepth 100000 in
theorem flat0_Places (w : World) : Calls Try.prog 53 #[.slice none 0 0] w fun e w' => e = .returned (.bool true) ∧ Below w.heap.size w w' := by
  obtain ⟨i0, hi, hz0, hz1, hz2⟩ := infoParts infoS_Places
  go_enter Try.func53, Try.ntmps53
  go_wp2_with fail
  refine wp_loop_rounds 1 ?_
  rw [rounds_succ]
  go_wp2_with (at_make; refine wpList_make_full _ rfl _ _ 64 rfl w.heap.size 24 i0 (.slice none 0 0) 1 Try.underlying64 hi hz0 hz1 _ _ _ _ 0 rfl rfl (by rfl) (by rfl) (by rw [hz2]; omega) (by unfold maxLen; omega) (Nat.le_refl _) ?_; intro w1 hown hg; have HB := Lib.hid ((Below.refl _ w).grown hg (Nat.le_refl _) (by simp)); clear hown hg)
  iterate 4
    refine wp_loop_rounds 1 ?_
    rw [rounds_succ]
    go_wp2_with fail
  go_ret
  exact ⟨rfl, HB.out⟩
theorem infoS_Entries : (Try.prog.info? 142).map (fun i => (i.zero, i.size, i.bytes)) = some (some (.slice none 0 0), 1, 24) := by kernel_rfl
set_option maxRecDepth 100000 in
theorem flat0_Entries (w : World) : Calls Try.prog 54 #[.slice none 0 0] w fun e w' => e = .returned (.bool true) ∧ Below w.heap.size w w' := by
  obtain ⟨i0, hi, hz0, hz1, hz2⟩ := infoParts infoS_Entries
  go_enter Try.func54, Try.ntmps54
  go_wp2_with fail
  refine wp_loop_rounds 1 ?_
  rw [rounds_succ]
  go_wp2_with (at_make; refine wpList_make_full _ rfl _ _ 65 rfl w.heap.size 142 i0 (.slice none 0 0) 1 Try.underlying65 hi hz0 hz1 _ _ _ _ 0 rfl rfl (by rfl) (by rfl) (by rw [hz2]; omega) (by unfold maxLen; omega) (Nat.le_refl _) ?_; intro w1 hown hg; have HB := Lib.hid ((Below.refl _ w).grown hg (Nat.le_refl _) (by simp)); clear hown hg)
  iterate 4
    refine wp_loop_rounds 1 ?_
    rw [rounds_succ]
    go_wp2_with fail
  go_ret
  exact ⟨rfl, HB.out⟩
theorem infoS_Nodes : (Try.prog.info? 147).map (fun i => (i.zero, i.size, i.bytes)) = some (some (.slice none 0 0), 1, 24) := by kernel_rfl
set_option maxRecDepth 100000 in
theorem flat0_Nodes (w : World) : Calls Try.prog 55 #[.slice none 0 0] w fun e w' => e = .returned (.bool true) ∧ Below w.heap.size w w' := by
  obtain ⟨i0, hi, hz0, hz1, hz2⟩ := infoParts infoS_Nodes
  go_enter Try.func55, Try.ntmps55
  go_wp2_with fail
  refine wp_loop_rounds 1 ?_
  rw [rounds_succ]
  go_wp2_with (at_make; refine wpList_make_full _ rfl _ _ 66 rfl w.heap.size 147 i0 (.slice none 0 0) 1 Try.underlying66 hi hz0 hz1 _ _ _ _ 0 rfl rfl (by rfl) (by rfl) (by rw [hz2]; omega) (by unfold maxLen; omega) (Nat.le_refl _) ?_; intro w1 hown hg; have HB := Lib.hid ((Below.refl _ w).grown hg (Nat.le_refl _) (by simp)); clear hown hg)
  iterate 4
    refine wp_loop_rounds 1 ?_
    rw [rounds_succ]
    go_wp2_with fail
  go_ret
  exact ⟨rfl, HB.out⟩
theorem infoS_Items : (Try.prog.info? 152).map (fun i => (i.zero, i.size, i.bytes)) = some (some (.slice none 0 0), 1, 24) := by kernel_rfl
set_option maxRecDepth 100000 in
theorem flat0_Items (w : World) : Calls Try.prog 56 #[.slice none 0 0] w fun e w' => e = .returned (.bool true) ∧ Below w.heap.size w w' := by
  obtain ⟨i0, hi, hz0, hz1, hz2⟩ := infoParts infoS_Items
  go_enter Try.func56, Try.ntmps56
  go_wp2_with fail
  refine wp_loop_rounds 1 ?_
  rw [rounds_succ]
  go_wp2_with (at_make; refine wpList_make_full _ rfl _ _ 67 rfl w.heap.size 152 i0 (.slice none 0 0) 1 Try.underlying67 hi hz0 hz1 _ _ _ _ 0 rfl rfl (by rfl) (by rfl) (by rw [hz2]; omega) (by unfold maxLen; omega) (Nat.le_refl _) ?_; intro w1 hown hg; have HB := Lib.hid ((Below.refl _ w).grown hg (Nat.le_refl _) (by simp)); clear hown hg)
  iterate 4
    refine wp_loop_rounds 1 ?_
    rw [rounds_succ]
    go_wp2_with fail
  go_ret
  exact ⟨rfl, HB.out⟩
theorem infoS_Counts : (Try.prog.info? 161).map (fun i => (i.zero, i.size, i.bytes)) = some (some (.slice none 0 0), 1, 24) := by kernel_rfl
set_option maxRecDepth 100000 in
theorem flat0_Counts (w : World) : Calls Try.prog 57 #[.slice none 0 0] w fun e w' => e = .returned (.bool true) ∧ Below w.heap.size w w' := by
  obtain ⟨i0, hi, hz0, hz1, hz2⟩ := infoParts infoS_Counts
  go_enter Try.func57, Try.ntmps57
  go_wp2_with fail
  refine wp_loop_rounds 1 ?_
  rw [rounds_succ]
  go_wp2_with (at_make; refine wpList_make_full _ rfl _ _ 68 rfl w.heap.size 161 i0 (.slice none 0 0) 1 Try.underlying68 hi hz0 hz1 _ _ _ _ 0 rfl rfl (by rfl) (by rfl) (by rw [hz2]; omega) (by unfold maxLen; omega) (Nat.le_refl _) ?_; intro w1 hown hg; have HB := Lib.hid ((Below.refl _ w).grown hg (Nat.le_refl _) (by simp)); clear hown hg)
  iterate 4
    refine wp_loop_rounds 1 ?_
    rw [rounds_succ]
    go_wp2_with fail
  go_ret
  exact ⟨rfl, HB.out⟩
theorem infoS_Freshes : (Try.prog.info? 165).map (fun i => (i.zero, i.size, i.bytes)) = some (some (.slice none 0 0), 1, 24) := by kernel_rfl
set_option maxRecDepth 100000 in
theorem flat0_Freshes (w : World) : Calls Try.prog 58 #[.slice none 0 0] w fun e w' => e = .returned (.bool true) ∧ Below w.heap.size w w' := by
  obtain ⟨i0, hi, hz0, hz1, hz2⟩ := infoParts infoS_Freshes
  go_enter Try.func58, Try.ntmps58
  go_wp2_with fail
  refine wp_loop_rounds 1 ?_
  rw [rounds_succ]
  go_wp2_with (at_make; refine wpList_make_full _ rfl _ _ 69 rfl w.heap.size 165 i0 (.slice none 0 0) 1 Try.underlying69 hi hz0 hz1 _ _ _ _ 0 rfl rfl (by rfl) (by rfl) (by rw [hz2]; omega) (by unfold maxLen; omega) (Nat.le_refl _) ?_; intro w1 hown hg; have HB := Lib.hid ((Below.refl _ w).grown hg (Nat.le_refl _) (by simp)); clear hown hg)
  iterate 4
    refine wp_loop_rounds 1 ?_
    rw [rounds_succ]
    go_wp2_with fail
  go_ret
  exact ⟨rfl, HB.out⟩
theorem infoS_Puts : (Try.prog.info? 169).map (fun i => (i.zero, i.size, i.bytes)) = some (some (.slice none 0 0), 1, 24) := by kernel_rfl
set_option maxRecDepth 100000 in
theorem flat0_Puts (w : World) : Calls Try.prog 59 #[.slice none 0 0] w fun e w' => e = .returned (.bool true) ∧ Below w.heap.size w w' := by
  obtain ⟨i0, hi, hz0, hz1, hz2⟩ := infoParts infoS_Puts
  go_enter Try.func59, Try.ntmps59
  go_wp2_with fail
  refine wp_loop_rounds 1 ?_
  rw [rounds_succ]
  go_wp2_with (at_make; refine wpList_make_full _ rfl _ _ 70 rfl w.heap.size 169 i0 (.slice none 0 0) 1 Try.underlying70 hi hz0 hz1 _ _ _ _ 0 rfl rfl (by rfl) (by rfl) (by rw [hz2]; omega) (by unfold maxLen; omega) (Nat.le_refl _) ?_; intro w1 hown hg; have HB := Lib.hid ((Below.refl _ w).grown hg (Nat.le_refl _) (by simp)); clear hown hg)
  iterate 4
    refine wp_loop_rounds 1 ?_
    rw [rounds_succ]
    go_wp2_with fail
  go_ret
  exact ⟨rfl, HB.out⟩
theorem infoS_Ops : (Try.prog.info? 173).map (fun i => (i.zero, i.size, i.bytes)) = some (some (.slice none 0 0), 1, 24) := by kernel_rfl
set_option maxRecDepth 100000 in
theorem flat0_Ops (w : World) : Calls Try.prog 60 #[.slice none 0 0] w fun e w' => e = .returned (.bool true) ∧ Below w.heap.size w w' := by
  obtain ⟨i0, hi, hz0, hz1, hz2⟩ := infoParts infoS_Ops
  go_enter Try.func60, Try.ntmps60
  go_wp2_with fail
  refine wp_loop_rounds 1 ?_
  rw [rounds_succ]
  go_wp2_with (at_make; refine wpList_make_full _ rfl _ _ 71 rfl w.heap.size 173 i0 (.slice none 0 0) 1 Try.underlying71 hi hz0 hz1 _ _ _ _ 0 rfl rfl (by rfl) (by rfl) (by rw [hz2]; omega) (by unfold maxLen; omega) (Nat.le_refl _) ?_; intro w1 hown hg; have HB := Lib.hid ((Below.refl _ w).grown hg (Nat.le_refl _) (by simp)); clear hown hg)
  iterate 4
    refine wp_loop_rounds 1 ?_
    rw [rounds_succ]
    go_wp2_with fail
  go_ret
  exact ⟨rfl, HB.out⟩
theorem infoS_Steps : (Try.prog.info? 179).map (fun i => (i.zero, i.size, i.bytes)) = some (some (.slice none 0 0), 1, 24) := by kernel_rfl
set_option maxRecDepth 100000 in
theorem flat0_Steps (w : World) : Calls Try.prog 61 #[.slice none 0 0] w fun e w' => e = .returned (.bool true) ∧ Below w.heap.size w w' := by
  obtain ⟨i0, hi, hz0, hz1, hz2⟩ := infoParts infoS_Steps
  go_enter Try.func61, Try.ntmps61
  go_wp2_with fail
  refine wp_loop_rounds 1 ?_
  rw [rounds_succ]
  go_wp2_with (at_make; refine wpList_make_full _ rfl _ _ 72 rfl w.heap.size 179 i0 (.slice none 0 0) 1 Try.underlying72 hi hz0 hz1 _ _ _ _ 0 rfl rfl (by rfl) (by rfl) (by rw [hz2]; omega) (by unfold maxLen; omega) (Nat.le_refl _) ?_; intro w1 hown hg; have HB := Lib.hid ((Below.refl _ w).grown hg (Nat.le_refl _) (by simp)); clear hown hg)
  iterate 4
    refine wp_loop_rounds 1 ?_
    rw [rounds_succ]
    go_wp2_with fail
  go_ret
  exact ⟨rfl, HB.out⟩
theorem infoS_Stats : (Try.prog.info? 185).map (fun i => (i.zero, i.size, i.bytes)) = some (some (.slice none 0 0), 1, 24) := by kernel_rfl
set_option maxRecDepth 100000 in
theorem flat0_Stats (w : World) : Calls Try.prog 62 #[.slice none 0 0] w fun e w' => e = .returned (.bool true) ∧ Below w.heap.size w w' := by
  obtain ⟨i0, hi, hz0, hz1, hz2⟩ := infoParts infoS_Stats
  go_enter Try.func62, Try.ntmps62
  go_wp2_with fail
  refine wp_loop_rounds 1 ?_
  rw [rounds_succ]
  go_wp2_with (at_make; refine wpList_make_full _ rfl _ _ 73 rfl w.heap.size 185 i0 (.slice none 0 0) 1 Try.underlying73 hi hz0 hz1 _ _ _ _ 0 rfl rfl (by rfl) (by rfl) (by rw [hz2]; omega) (by unfold maxLen; omega) (Nat.le_refl _) ?_; intro w1 hown hg; have HB := Lib.hid ((Below.refl _ w).grown hg (Nat.le_refl _) (by simp)); clear hown hg)
  iterate 4
    refine wp_loop_rounds 1 ?_
    rw [rounds_succ]
    go_wp2_with fail
  go_ret
  exact ⟨rfl, HB.out⟩
theorem infoS_Tales : (Try.prog.info? 190).map (fun i => (i.zero, i.size, i.bytes)) = some (some (.slice none 0 0), 1, 24) := by kernel_rfl
set_option maxRecDepth 100000 in
theorem flat0_Tales (w : World) : Calls Try.prog 63 #[.slice none 0 0] w fun e w' => e = .returned (.bool true) ∧ Below w.heap.size w w' := by
  obtain ⟨i0, hi, hz0, hz1, hz2⟩ := infoParts infoS_Tales
  go_enter Try.func63, Try.ntmps63
  go_wp2_with fail
  refine wp_loop_rounds 1 ?_
  rw [rounds_succ]
  go_wp2_with (at_make; refine wpList_make_full _ rfl _ _ 74 rfl w.heap.size 190 i0 (.slice none 0 0) 1 Try.underlying74 hi hz0 hz1 _ _ _ _ 0 rfl rfl (by rfl) (by rfl) (by rw [hz2]; omega) (by unfold maxLen; omega) (Nat.le_refl _) ?_; intro w1 hown hg; have HB := Lib.hid ((Below.refl _ w).grown hg (Nat.le_refl _) (by simp)); clear hown hg)
  iterate 4
    refine wp_loop_rounds 1 ?_
    rw [rounds_succ]
    go_wp2_with fail
  go_ret
  exact ⟨rfl, HB.out⟩
end Go.Proofs.Ythhmhcfahlnmpaa
