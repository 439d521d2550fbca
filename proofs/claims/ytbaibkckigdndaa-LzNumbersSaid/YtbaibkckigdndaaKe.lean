/- The kit's flat lists, empty: nothing is found. -/
import Derived.Test.YtbaibkckigdndaaKm
import Derived.Laws.MakeOwn
namespace Go.Proofs.Ytbaibkckigdndaa
open Go.RowKit
theorem infoS_Limbs : (Try.prog.info? 98).map (fun i => (i.zero, i.size, i.bytes)) = some (some (.slice none 0 0), 1, 24) := by kernel_rfl
set_option maxRecDepth 100000 in
theorem flat0_Limbs (w : World) : Calls Try.prog 35 #[.slice none 0 0] w fun e w' => e = .returned (.bool true) ∧ Below w.heap.size w w' := by
  obtain ⟨i0, hi, hz0, hz1, hz2⟩ := infoParts infoS_Limbs
  go_enter Try.func35, Try.ntmps35
  go_wp2_with fail
  refine wp_loop_rounds 1 ?_
  rw [rounds_succ]
  go_wp2_with (at_make; refine wpList_make_full _ rfl _ _ 48 rfl w.heap.size 98 i0 (.slice none 0 0) 1 Try.underlying48 hi hz0 hz1 _ _ _ _ 0 rfl rfl (by rfl) (by rfl) (by rw [hz2]; omega) (by unfold maxLen; omega) (Nat.le_refl _) ?_; intro w1 hown hg; have HB := Lib.hid ((Below.refl _ w).grown hg (Nat.le_refl _) (by simp)); clear hown hg)
  iterate 4
    refine wp_loop_rounds 1 ?_
    rw [rounds_succ]
    go_wp2_with fail
  go_ret
  exact ⟨rfl, HB.out⟩
theorem infoS_Words : (Try.prog.info? 100).map (fun i => (i.zero, i.size, i.bytes)) = some (some (.slice none 0 0), 1, 24) := by kernel_rfl
set_option maxRecDepth 100000 in
theorem flat0_Words (w : World) : Calls Try.prog 36 #[.slice none 0 0] w fun e w' => e = .returned (.bool true) ∧ Below w.heap.size w w' := by
  obtain ⟨i0, hi, hz0, hz1, hz2⟩ := infoParts infoS_Words
  go_enter Try.func36, Try.ntmps36
  go_wp2_with fail
  refine wp_loop_rounds 1 ?_
  rw [rounds_succ]
  go_wp2_with (at_make; refine wpList_make_full _ rfl _ _ 49 rfl w.heap.size 100 i0 (.slice none 0 0) 1 Try.underlying49 hi hz0 hz1 _ _ _ _ 0 rfl rfl (by rfl) (by rfl) (by rw [hz2]; omega) (by unfold maxLen; omega) (Nat.le_refl _) ?_; intro w1 hown hg; have HB := Lib.hid ((Below.refl _ w).grown hg (Nat.le_refl _) (by simp)); clear hown hg)
  iterate 4
    refine wp_loop_rounds 1 ?_
    rw [rounds_succ]
    go_wp2_with fail
  go_ret
  exact ⟨rfl, HB.out⟩
theorem infoS_Ints : (Try.prog.info? 33).map (fun i => (i.zero, i.size, i.bytes)) = some (some (.slice none 0 0), 1, 24) := by kernel_rfl
set_option maxRecDepth 100000 in
theorem flat0_Ints (w : World) : Calls Try.prog 37 #[.slice none 0 0] w fun e w' => e = .returned (.bool true) ∧ Below w.heap.size w w' := by
  obtain ⟨i0, hi, hz0, hz1, hz2⟩ := infoParts infoS_Ints
  go_enter Try.func37, Try.ntmps37
  go_wp2_with fail
  refine wp_loop_rounds 1 ?_
  rw [rounds_succ]
  go_wp2_with (at_make; refine wpList_make_full _ rfl _ _ 50 rfl w.heap.size 33 i0 (.slice none 0 0) 1 Try.underlying50 hi hz0 hz1 _ _ _ _ 0 rfl rfl (by rfl) (by rfl) (by rw [hz2]; omega) (by unfold maxLen; omega) (Nat.le_refl _) ?_; intro w1 hown hg; have HB := Lib.hid ((Below.refl _ w).grown hg (Nat.le_refl _) (by simp)); clear hown hg)
  iterate 4
    refine wp_loop_rounds 1 ?_
    rw [rounds_succ]
    go_wp2_with fail
  go_ret
  exact ⟨rfl, HB.out⟩
theorem infoS_Longs : (Try.prog.info? 101).map (fun i => (i.zero, i.size, i.bytes)) = some (some (.slice none 0 0), 1, 24) := by kernel_rfl
set_option maxRecDepth 100000 in
theorem flat0_Longs (w : World) : Calls Try.prog 38 #[.slice none 0 0] w fun e w' => e = .returned (.bool true) ∧ Below w.heap.size w w' := by
  obtain ⟨i0, hi, hz0, hz1, hz2⟩ := infoParts infoS_Longs
  go_enter Try.func38, Try.ntmps38
  go_wp2_with fail
  refine wp_loop_rounds 1 ?_
  rw [rounds_succ]
  go_wp2_with (at_make; refine wpList_make_full _ rfl _ _ 51 rfl w.heap.size 101 i0 (.slice none 0 0) 1 Try.underlying51 hi hz0 hz1 _ _ _ _ 0 rfl rfl (by rfl) (by rfl) (by rw [hz2]; omega) (by unfold maxLen; omega) (Nat.le_refl _) ?_; intro w1 hown hg; have HB := Lib.hid ((Below.refl _ w).grown hg (Nat.le_refl _) (by simp)); clear hown hg)
  iterate 4
    refine wp_loop_rounds 1 ?_
    rw [rounds_succ]
    go_wp2_with fail
  go_ret
  exact ⟨rfl, HB.out⟩
theorem infoS_Texts : (Try.prog.info? 102).map (fun i => (i.zero, i.size, i.bytes)) = some (some (.slice none 0 0), 1, 24) := by kernel_rfl
set_option maxRecDepth 100000 in
theorem flat0_Texts (w : World) : Calls Try.prog 39 #[.slice none 0 0] w fun e w' => e = .returned (.bool true) ∧ Below w.heap.size w w' := by
  obtain ⟨i0, hi, hz0, hz1, hz2⟩ := infoParts infoS_Texts
  go_enter Try.func39, Try.ntmps39
  go_wp2_with fail
  refine wp_loop_rounds 1 ?_
  rw [rounds_succ]
  go_wp2_with (at_make; refine wpList_make_full _ rfl _ _ 52 rfl w.heap.size 102 i0 (.slice none 0 0) 1 Try.underlying52 hi hz0 hz1 _ _ _ _ 0 rfl rfl (by rfl) (by rfl) (by rw [hz2]; omega) (by unfold maxLen; omega) (Nat.le_refl _) ?_; intro w1 hown hg; have HB := Lib.hid ((Below.refl _ w).grown hg (Nat.le_refl _) (by simp)); clear hown hg)
  iterate 4
    refine wp_loop_rounds 1 ?_
    rw [rounds_succ]
    go_wp2_with fail
  go_ret
  exact ⟨rfl, HB.out⟩
theorem infoS_Bytes : (Try.prog.info? 25).map (fun i => (i.zero, i.size, i.bytes)) = some (some (.slice none 0 0), 1, 24) := by kernel_rfl
set_option maxRecDepth 100000 in
theorem flat0_Bytes (w : World) : Calls Try.prog 40 #[.slice none 0 0] w fun e w' => e = .returned (.bool true) ∧ Below w.heap.size w w' := by
  obtain ⟨i0, hi, hz0, hz1, hz2⟩ := infoParts infoS_Bytes
  go_enter Try.func40, Try.ntmps40
  go_wp2_with fail
  refine wp_loop_rounds 1 ?_
  rw [rounds_succ]
  go_wp2_with (at_make; refine wpList_make_full _ rfl _ _ 31 rfl w.heap.size 25 i0 (.slice none 0 0) 1 Try.underlying31 hi hz0 hz1 _ _ _ _ 0 rfl rfl (by rfl) (by rfl) (by rw [hz2]; omega) (by unfold maxLen; omega) (Nat.le_refl _) ?_; intro w1 hown hg; have HB := Lib.hid ((Below.refl _ w).grown hg (Nat.le_refl _) (by simp)); clear hown hg)
  iterate 4
    refine wp_loop_rounds 1 ?_
    rw [rounds_succ]
    go_wp2_with fail
  go_ret
  exact ⟨rfl, HB.out⟩
theorem infoS_TreeKeys : (Try.prog.info? 104).map (fun i => (i.zero, i.size, i.bytes)) = some (some (.slice none 0 0), 1, 24) := by kernel_rfl
set_option maxRecDepth 100000 in
theorem flat0_TreeKeys (w : World) : Calls Try.prog 41 #[.slice none 0 0] w fun e w' => e = .returned (.bool true) ∧ Below w.heap.size w w' := by
  obtain ⟨i0, hi, hz0, hz1, hz2⟩ := infoParts infoS_TreeKeys
  go_enter Try.func41, Try.ntmps41
  go_wp2_with fail
  refine wp_loop_rounds 1 ?_
  rw [rounds_succ]
  go_wp2_with (at_make; refine wpList_make_full _ rfl _ _ 53 rfl w.heap.size 104 i0 (.slice none 0 0) 1 Try.underlying53 hi hz0 hz1 _ _ _ _ 0 rfl rfl (by rfl) (by rfl) (by rw [hz2]; omega) (by unfold maxLen; omega) (Nat.le_refl _) ?_; intro w1 hown hg; have HB := Lib.hid ((Below.refl _ w).grown hg (Nat.le_refl _) (by simp)); clear hown hg)
  iterate 4
    refine wp_loop_rounds 1 ?_
    rw [rounds_succ]
    go_wp2_with fail
  go_ret
  exact ⟨rfl, HB.out⟩
theorem infoS_Pieces : (Try.prog.info? 22).map (fun i => (i.zero, i.size, i.bytes)) = some (some (.slice none 0 0), 1, 24) := by kernel_rfl
set_option maxRecDepth 100000 in
theorem flat0_Pieces (w : World) : Calls Try.prog 42 #[.slice none 0 0] w fun e w' => e = .returned (.bool true) ∧ Below w.heap.size w w' := by
  obtain ⟨i0, hi, hz0, hz1, hz2⟩ := infoParts infoS_Pieces
  go_enter Try.func42, Try.ntmps42
  go_wp2_with fail
  refine wp_loop_rounds 1 ?_
  rw [rounds_succ]
  go_wp2_with (at_make; refine wpList_make_full _ rfl _ _ 41 rfl w.heap.size 22 i0 (.slice none 0 0) 1 Try.underlying41 hi hz0 hz1 _ _ _ _ 0 rfl rfl (by rfl) (by rfl) (by rw [hz2]; omega) (by unfold maxLen; omega) (Nat.le_refl _) ?_; intro w1 hown hg; have HB := Lib.hid ((Below.refl _ w).grown hg (Nat.le_refl _) (by simp)); clear hown hg)
  iterate 4
    refine wp_loop_rounds 1 ?_
    rw [rounds_succ]
    go_wp2_with fail
  go_ret
  exact ⟨rfl, HB.out⟩
theorem infoS_Fates : (Try.prog.info? 108).map (fun i => (i.zero, i.size, i.bytes)) = some (some (.slice none 0 0), 1, 24) := by kernel_rfl
set_option maxRecDepth 100000 in
theorem flat0_Fates (w : World) : Calls Try.prog 43 #[.slice none 0 0] w fun e w' => e = .returned (.bool true) ∧ Below w.heap.size w w' := by
  obtain ⟨i0, hi, hz0, hz1, hz2⟩ := infoParts infoS_Fates
  go_enter Try.func43, Try.ntmps43
  go_wp2_with fail
  refine wp_loop_rounds 1 ?_
  rw [rounds_succ]
  go_wp2_with (at_make; refine wpList_make_full _ rfl _ _ 54 rfl w.heap.size 108 i0 (.slice none 0 0) 1 Try.underlying54 hi hz0 hz1 _ _ _ _ 0 rfl rfl (by rfl) (by rfl) (by rw [hz2]; omega) (by unfold maxLen; omega) (Nat.le_refl _) ?_; intro w1 hown hg; have HB := Lib.hid ((Below.refl _ w).grown hg (Nat.le_refl _) (by simp)); clear hown hg)
  iterate 4
    refine wp_loop_rounds 1 ?_
    rw [rounds_succ]
    go_wp2_with fail
  go_ret
  exact ⟨rfl, HB.out⟩
theorem infoS_Frames : (Try.prog.info? 112).map (fun i => (i.zero, i.size, i.bytes)) = some (some (.slice none 0 0), 1, 24) := by kernel_rfl
set_option maxRecDepth 100000 in
theorem flat0_Frames (w : World) : Calls Try.prog 44 #[.slice none 0 0] w fun e w' => e = .returned (.bool true) ∧ Below w.heap.size w w' := by
  obtain ⟨i0, hi, hz0, hz1, hz2⟩ := infoParts infoS_Frames
  go_enter Try.func44, Try.ntmps44
  go_wp2_with fail
  refine wp_loop_rounds 1 ?_
  rw [rounds_succ]
  go_wp2_with (at_make; refine wpList_make_full _ rfl _ _ 55 rfl w.heap.size 112 i0 (.slice none 0 0) 1 Try.underlying55 hi hz0 hz1 _ _ _ _ 0 rfl rfl (by rfl) (by rfl) (by rw [hz2]; omega) (by unfold maxLen; omega) (Nat.le_refl _) ?_; intro w1 hown hg; have HB := Lib.hid ((Below.refl _ w).grown hg (Nat.le_refl _) (by simp)); clear hown hg)
  iterate 4
    refine wp_loop_rounds 1 ?_
    rw [rounds_succ]
    go_wp2_with fail
  go_ret
  exact ⟨rfl, HB.out⟩
theorem infoS_Places : (Try.prog.info? 117).map (fun i => (i.zero, i.size, i.bytes)) = some (some (.slice none 0 0), 1, 24) := by kernel_rfl
set_option maxRecDepth 100000 in
theorem flat0_Places (w : World) : Calls Try.prog 45 #[.slice none 0 0] w fun e w' => e = .returned (.bool true) ∧ Below w.heap.size w w' := by
  obtain ⟨i0, hi, hz0, hz1, hz2⟩ := infoParts infoS_Places
  go_enter Try.func45, Try.ntmps45
  go_wp2_with fail
  refine wp_loop_rounds 1 ?_
  rw [rounds_succ]
  go_wp2_with (at_make; refine wpList_make_full _ rfl _ _ 56 rfl w.heap.size 117 i0 (.slice none 0 0) 1 Try.underlying56 hi hz0 hz1 _ _ _ _ 0 rfl rfl (by rfl) (by rfl) (by rw [hz2]; omega) (by unfold maxLen; omega) (Nat.le_refl _) ?_; intro w1 hown hg; have HB := Lib.hid ((Below.refl _ w).grown hg (Nat.le_refl _) (by simp)); clear hown hg)
  iterate 4
    refine wp_loop_rounds 1 ?_
    rw [rounds_succ]
    go_wp2_with fail
  go_ret
  exact ⟨rfl, HB.out⟩
theorem infoS_Entries : (Try.prog.info? 121).map (fun i => (i.zero, i.size, i.bytes)) = some (some (.slice none 0 0), 1, 24) := by kernel_rfl
set_option maxRecDepth 100000 in
theorem flat0_Entries (w : World) : Calls Try.prog 46 #[.slice none 0 0] w fun e w' => e = .returned (.bool true) ∧ Below w.heap.size w w' := by
  obtain ⟨i0, hi, hz0, hz1, hz2⟩ := infoParts infoS_Entries
  go_enter Try.func46, Try.ntmps46
  go_wp2_with fail
  refine wp_loop_rounds 1 ?_
  rw [rounds_succ]
  go_wp2_with (at_make; refine wpList_make_full _ rfl _ _ 57 rfl w.heap.size 121 i0 (.slice none 0 0) 1 Try.underlying57 hi hz0 hz1 _ _ _ _ 0 rfl rfl (by rfl) (by rfl) (by rw [hz2]; omega) (by unfold maxLen; omega) (Nat.le_refl _) ?_; intro w1 hown hg; have HB := Lib.hid ((Below.refl _ w).grown hg (Nat.le_refl _) (by simp)); clear hown hg)
  iterate 4
    refine wp_loop_rounds 1 ?_
    rw [rounds_succ]
    go_wp2_with fail
  go_ret
  exact ⟨rfl, HB.out⟩
theorem infoS_Nodes : (Try.prog.info? 126).map (fun i => (i.zero, i.size, i.bytes)) = some (some (.slice none 0 0), 1, 24) := by kernel_rfl
set_option maxRecDepth 100000 in
theorem flat0_Nodes (w : World) : Calls Try.prog 47 #[.slice none 0 0] w fun e w' => e = .returned (.bool true) ∧ Below w.heap.size w w' := by
  obtain ⟨i0, hi, hz0, hz1, hz2⟩ := infoParts infoS_Nodes
  go_enter Try.func47, Try.ntmps47
  go_wp2_with fail
  refine wp_loop_rounds 1 ?_
  rw [rounds_succ]
  go_wp2_with (at_make; refine wpList_make_full _ rfl _ _ 58 rfl w.heap.size 126 i0 (.slice none 0 0) 1 Try.underlying58 hi hz0 hz1 _ _ _ _ 0 rfl rfl (by rfl) (by rfl) (by rw [hz2]; omega) (by unfold maxLen; omega) (Nat.le_refl _) ?_; intro w1 hown hg; have HB := Lib.hid ((Below.refl _ w).grown hg (Nat.le_refl _) (by simp)); clear hown hg)
  iterate 4
    refine wp_loop_rounds 1 ?_
    rw [rounds_succ]
    go_wp2_with fail
  go_ret
  exact ⟨rfl, HB.out⟩
theorem infoS_Items : (Try.prog.info? 131).map (fun i => (i.zero, i.size, i.bytes)) = some (some (.slice none 0 0), 1, 24) := by kernel_rfl
set_option maxRecDepth 100000 in
theorem flat0_Items (w : World) : Calls Try.prog 48 #[.slice none 0 0] w fun e w' => e = .returned (.bool true) ∧ Below w.heap.size w w' := by
  obtain ⟨i0, hi, hz0, hz1, hz2⟩ := infoParts infoS_Items
  go_enter Try.func48, Try.ntmps48
  go_wp2_with fail
  refine wp_loop_rounds 1 ?_
  rw [rounds_succ]
  go_wp2_with (at_make; refine wpList_make_full _ rfl _ _ 59 rfl w.heap.size 131 i0 (.slice none 0 0) 1 Try.underlying59 hi hz0 hz1 _ _ _ _ 0 rfl rfl (by rfl) (by rfl) (by rw [hz2]; omega) (by unfold maxLen; omega) (Nat.le_refl _) ?_; intro w1 hown hg; have HB := Lib.hid ((Below.refl _ w).grown hg (Nat.le_refl _) (by simp)); clear hown hg)
  iterate 4
    refine wp_loop_rounds 1 ?_
    rw [rounds_succ]
    go_wp2_with fail
  go_ret
  exact ⟨rfl, HB.out⟩
theorem infoS_Counts : (Try.prog.info? 140).map (fun i => (i.zero, i.size, i.bytes)) = some (some (.slice none 0 0), 1, 24) := by kernel_rfl
set_option maxRecDepth 100000 in
theorem flat0_Counts (w : World) : Calls Try.prog 49 #[.slice none 0 0] w fun e w' => e = .returned (.bool true) ∧ Below w.heap.size w w' := by
  obtain ⟨i0, hi, hz0, hz1, hz2⟩ := infoParts infoS_Counts
  go_enter Try.func49, Try.ntmps49
  go_wp2_with fail
  refine wp_loop_rounds 1 ?_
  rw [rounds_succ]
  go_wp2_with (at_make; refine wpList_make_full _ rfl _ _ 60 rfl w.heap.size 140 i0 (.slice none 0 0) 1 Try.underlying60 hi hz0 hz1 _ _ _ _ 0 rfl rfl (by rfl) (by rfl) (by rw [hz2]; omega) (by unfold maxLen; omega) (Nat.le_refl _) ?_; intro w1 hown hg; have HB := Lib.hid ((Below.refl _ w).grown hg (Nat.le_refl _) (by simp)); clear hown hg)
  iterate 4
    refine wp_loop_rounds 1 ?_
    rw [rounds_succ]
    go_wp2_with fail
  go_ret
  exact ⟨rfl, HB.out⟩
theorem infoS_Freshes : (Try.prog.info? 144).map (fun i => (i.zero, i.size, i.bytes)) = some (some (.slice none 0 0), 1, 24) := by kernel_rfl
set_option maxRecDepth 100000 in
theorem flat0_Freshes (w : World) : Calls Try.prog 50 #[.slice none 0 0] w fun e w' => e = .returned (.bool true) ∧ Below w.heap.size w w' := by
  obtain ⟨i0, hi, hz0, hz1, hz2⟩ := infoParts infoS_Freshes
  go_enter Try.func50, Try.ntmps50
  go_wp2_with fail
  refine wp_loop_rounds 1 ?_
  rw [rounds_succ]
  go_wp2_with (at_make; refine wpList_make_full _ rfl _ _ 61 rfl w.heap.size 144 i0 (.slice none 0 0) 1 Try.underlying61 hi hz0 hz1 _ _ _ _ 0 rfl rfl (by rfl) (by rfl) (by rw [hz2]; omega) (by unfold maxLen; omega) (Nat.le_refl _) ?_; intro w1 hown hg; have HB := Lib.hid ((Below.refl _ w).grown hg (Nat.le_refl _) (by simp)); clear hown hg)
  iterate 4
    refine wp_loop_rounds 1 ?_
    rw [rounds_succ]
    go_wp2_with fail
  go_ret
  exact ⟨rfl, HB.out⟩
theorem infoS_Puts : (Try.prog.info? 148).map (fun i => (i.zero, i.size, i.bytes)) = some (some (.slice none 0 0), 1, 24) := by kernel_rfl
set_option maxRecDepth 100000 in
theorem flat0_Puts (w : World) : Calls Try.prog 51 #[.slice none 0 0] w fun e w' => e = .returned (.bool true) ∧ Below w.heap.size w w' := by
  obtain ⟨i0, hi, hz0, hz1, hz2⟩ := infoParts infoS_Puts
  go_enter Try.func51, Try.ntmps51
  go_wp2_with fail
  refine wp_loop_rounds 1 ?_
  rw [rounds_succ]
  go_wp2_with (at_make; refine wpList_make_full _ rfl _ _ 62 rfl w.heap.size 148 i0 (.slice none 0 0) 1 Try.underlying62 hi hz0 hz1 _ _ _ _ 0 rfl rfl (by rfl) (by rfl) (by rw [hz2]; omega) (by unfold maxLen; omega) (Nat.le_refl _) ?_; intro w1 hown hg; have HB := Lib.hid ((Below.refl _ w).grown hg (Nat.le_refl _) (by simp)); clear hown hg)
  iterate 4
    refine wp_loop_rounds 1 ?_
    rw [rounds_succ]
    go_wp2_with fail
  go_ret
  exact ⟨rfl, HB.out⟩
theorem infoS_Ops : (Try.prog.info? 152).map (fun i => (i.zero, i.size, i.bytes)) = some (some (.slice none 0 0), 1, 24) := by kernel_rfl
set_option maxRecDepth 100000 in
theorem flat0_Ops (w : World) : Calls Try.prog 52 #[.slice none 0 0] w fun e w' => e = .returned (.bool true) ∧ Below w.heap.size w w' := by
  obtain ⟨i0, hi, hz0, hz1, hz2⟩ := infoParts infoS_Ops
  go_enter Try.func52, Try.ntmps52
  go_wp2_with fail
  refine wp_loop_rounds 1 ?_
  rw [rounds_succ]
  go_wp2_with (at_make; refine wpList_make_full _ rfl _ _ 63 rfl w.heap.size 152 i0 (.slice none 0 0) 1 Try.underlying63 hi hz0 hz1 _ _ _ _ 0 rfl rfl (by rfl) (by rfl) (by rw [hz2]; omega) (by unfold maxLen; omega) (Nat.le_refl _) ?_; intro w1 hown hg; have HB := Lib.hid ((Below.refl _ w).grown hg (Nat.le_refl _) (by simp)); clear hown hg)
  iterate 4
    refine wp_loop_rounds 1 ?_
    rw [rounds_succ]
    go_wp2_with fail
  go_ret
  exact ⟨rfl, HB.out⟩
theorem infoS_Steps : (Try.prog.info? 158).map (fun i => (i.zero, i.size, i.bytes)) = some (some (.slice none 0 0), 1, 24) := by kernel_rfl
set_option maxRecDepth 100000 in
theorem flat0_Steps (w : World) : Calls Try.prog 53 #[.slice none 0 0] w fun e w' => e = .returned (.bool true) ∧ Below w.heap.size w w' := by
  obtain ⟨i0, hi, hz0, hz1, hz2⟩ := infoParts infoS_Steps
  go_enter Try.func53, Try.ntmps53
  go_wp2_with fail
  refine wp_loop_rounds 1 ?_
  rw [rounds_succ]
  go_wp2_with (at_make; refine wpList_make_full _ rfl _ _ 64 rfl w.heap.size 158 i0 (.slice none 0 0) 1 Try.underlying64 hi hz0 hz1 _ _ _ _ 0 rfl rfl (by rfl) (by rfl) (by rw [hz2]; omega) (by unfold maxLen; omega) (Nat.le_refl _) ?_; intro w1 hown hg; have HB := Lib.hid ((Below.refl _ w).grown hg (Nat.le_refl _) (by simp)); clear hown hg)
  iterate 4
    refine wp_loop_rounds 1 ?_
    rw [rounds_succ]
    go_wp2_with fail
  go_ret
  exact ⟨rfl, HB.out⟩
theorem infoS_Stats : (Try.prog.info? 164).map (fun i => (i.zero, i.size, i.bytes)) = some (some (.slice none 0 0), 1, 24) := by kernel_rfl
set_option maxRecDepth 100000 in
theorem flat0_Stats (w : World) : Calls Try.prog 54 #[.slice none 0 0] w fun e w' => e = .returned (.bool true) ∧ Below w.heap.size w w' := by
  obtain ⟨i0, hi, hz0, hz1, hz2⟩ := infoParts infoS_Stats
  go_enter Try.func54, Try.ntmps54
  go_wp2_with fail
  refine wp_loop_rounds 1 ?_
  rw [rounds_succ]
  go_wp2_with (at_make; refine wpList_make_full _ rfl _ _ 65 rfl w.heap.size 164 i0 (.slice none 0 0) 1 Try.underlying65 hi hz0 hz1 _ _ _ _ 0 rfl rfl (by rfl) (by rfl) (by rw [hz2]; omega) (by unfold maxLen; omega) (Nat.le_refl _) ?_; intro w1 hown hg; have HB := Lib.hid ((Below.refl _ w).grown hg (Nat.le_refl _) (by simp)); clear hown hg)
  iterate 4
    refine wp_loop_rounds 1 ?_
    rw [rounds_succ]
    go_wp2_with fail
  go_ret
  exact ⟨rfl, HB.out⟩
theorem infoS_Tales : (Try.prog.info? 171).map (fun i => (i.zero, i.size, i.bytes)) = some (some (.slice none 0 0), 1, 24) := by kernel_rfl
set_option maxRecDepth 100000 in
theorem flat0_Tales (w : World) : Calls Try.prog 55 #[.slice none 0 0] w fun e w' => e = .returned (.bool true) ∧ Below w.heap.size w w' := by
  obtain ⟨i0, hi, hz0, hz1, hz2⟩ := infoParts infoS_Tales
  go_enter Try.func55, Try.ntmps55
  go_wp2_with fail
  refine wp_loop_rounds 1 ?_
  rw [rounds_succ]
  go_wp2_with (at_make; refine wpList_make_full _ rfl _ _ 66 rfl w.heap.size 171 i0 (.slice none 0 0) 1 Try.underlying66 hi hz0 hz1 _ _ _ _ 0 rfl rfl (by rfl) (by rfl) (by rw [hz2]; omega) (by unfold maxLen; omega) (Nat.le_refl _) ?_; intro w1 hown hg; have HB := Lib.hid ((Below.refl _ w).grown hg (Nat.le_refl _) (by simp)); clear hown hg)
  iterate 4
    refine wp_loop_rounds 1 ?_
    rw [rounds_succ]
    go_wp2_with fail
  go_ret
  exact ⟨rfl, HB.out⟩
end Go.Proofs.Ytbaibkckigdndaa
