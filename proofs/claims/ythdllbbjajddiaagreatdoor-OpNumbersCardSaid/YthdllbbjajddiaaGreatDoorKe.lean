/- The kit's flat lists, empty: nothing is found. -/
import Derived.Test.YthdllbbjajddiaaGreatDoorKm
import Derived.Laws.MakeOwn
set_option linter.all false
namespace Go.Proofs.YthdllbbjajddiaaGreatDoor
open Go.RowKit
theorem infoS_Limbs : (Tryz.prog.info? 148).map (fun i => (i.zero, i.size, i.bytes)) = some (some (.slice none 0 0), 1, 24) := by kernel_rfl
set_option maxRecDepth 100000 in
theorem flat0_Limbs (w : World) : Calls Tryz.prog 56 #[.slice none 0 0] w fun e w' => e = .returned (.bool true) ∧ Below w.heap.size w w' := by
  obtain ⟨i0, hi, hz0, hz1, hz2⟩ := infoParts infoS_Limbs
  go_enter Tryz.func56, Tryz.ntmps56
  go_wp2_with fail
  refine wp_loop_rounds 1 ?_
  rw [rounds_succ]
  go_wp2_with (at_make; refine wpList_make_full _ rfl _ _ 93 rfl w.heap.size 148 i0 (.slice none 0 0) 1 Tryz.underlying93 hi hz0 hz1 _ _ _ _ 0 rfl rfl (by rfl) (by rfl) (by rw [hz2]; omega) (by unfold maxLen; omega) (Nat.le_refl _) ?_; intro w1 hown hg; have HB := Lib.hid ((Below.refl _ w).grown hg (Nat.le_refl _) (by simp)); clear hown hg)
  iterate 4
    refine wp_loop_rounds 1 ?_
    rw [rounds_succ]
    go_wp2_with fail
  go_ret
  exact ⟨rfl, HB.out⟩
theorem infoS_Words : (Tryz.prog.info? 150).map (fun i => (i.zero, i.size, i.bytes)) = some (some (.slice none 0 0), 1, 24) := by kernel_rfl
set_option maxRecDepth 100000 in
theorem flat0_Words (w : World) : Calls Tryz.prog 57 #[.slice none 0 0] w fun e w' => e = .returned (.bool true) ∧ Below w.heap.size w w' := by
  obtain ⟨i0, hi, hz0, hz1, hz2⟩ := infoParts infoS_Words
  go_enter Tryz.func57, Tryz.ntmps57
  go_wp2_with fail
  refine wp_loop_rounds 1 ?_
  rw [rounds_succ]
  go_wp2_with (at_make; refine wpList_make_full _ rfl _ _ 94 rfl w.heap.size 150 i0 (.slice none 0 0) 1 Tryz.underlying94 hi hz0 hz1 _ _ _ _ 0 rfl rfl (by rfl) (by rfl) (by rw [hz2]; omega) (by unfold maxLen; omega) (Nat.le_refl _) ?_; intro w1 hown hg; have HB := Lib.hid ((Below.refl _ w).grown hg (Nat.le_refl _) (by simp)); clear hown hg)
  iterate 4
    refine wp_loop_rounds 1 ?_
    rw [rounds_succ]
    go_wp2_with fail
  go_ret
  exact ⟨rfl, HB.out⟩
theorem infoS_Ints : (Tryz.prog.info? 29).map (fun i => (i.zero, i.size, i.bytes)) = some (some (.slice none 0 0), 1, 24) := by kernel_rfl
set_option maxRecDepth 100000 in
theorem flat0_Ints (w : World) : Calls Tryz.prog 58 #[.slice none 0 0] w fun e w' => e = .returned (.bool true) ∧ Below w.heap.size w w' := by
  obtain ⟨i0, hi, hz0, hz1, hz2⟩ := infoParts infoS_Ints
  go_enter Tryz.func58, Tryz.ntmps58
  go_wp2_with fail
  refine wp_loop_rounds 1 ?_
  rw [rounds_succ]
  go_wp2_with (at_make; refine wpList_make_full _ rfl _ _ 95 rfl w.heap.size 29 i0 (.slice none 0 0) 1 Tryz.underlying95 hi hz0 hz1 _ _ _ _ 0 rfl rfl (by rfl) (by rfl) (by rw [hz2]; omega) (by unfold maxLen; omega) (Nat.le_refl _) ?_; intro w1 hown hg; have HB := Lib.hid ((Below.refl _ w).grown hg (Nat.le_refl _) (by simp)); clear hown hg)
  iterate 4
    refine wp_loop_rounds 1 ?_
    rw [rounds_succ]
    go_wp2_with fail
  go_ret
  exact ⟨rfl, HB.out⟩
theorem infoS_Longs : (Tryz.prog.info? 151).map (fun i => (i.zero, i.size, i.bytes)) = some (some (.slice none 0 0), 1, 24) := by kernel_rfl
set_option maxRecDepth 100000 in
theorem flat0_Longs (w : World) : Calls Tryz.prog 59 #[.slice none 0 0] w fun e w' => e = .returned (.bool true) ∧ Below w.heap.size w w' := by
  obtain ⟨i0, hi, hz0, hz1, hz2⟩ := infoParts infoS_Longs
  go_enter Tryz.func59, Tryz.ntmps59
  go_wp2_with fail
  refine wp_loop_rounds 1 ?_
  rw [rounds_succ]
  go_wp2_with (at_make; refine wpList_make_full _ rfl _ _ 96 rfl w.heap.size 151 i0 (.slice none 0 0) 1 Tryz.underlying96 hi hz0 hz1 _ _ _ _ 0 rfl rfl (by rfl) (by rfl) (by rw [hz2]; omega) (by unfold maxLen; omega) (Nat.le_refl _) ?_; intro w1 hown hg; have HB := Lib.hid ((Below.refl _ w).grown hg (Nat.le_refl _) (by simp)); clear hown hg)
  iterate 4
    refine wp_loop_rounds 1 ?_
    rw [rounds_succ]
    go_wp2_with fail
  go_ret
  exact ⟨rfl, HB.out⟩
theorem infoS_Texts : (Tryz.prog.info? 152).map (fun i => (i.zero, i.size, i.bytes)) = some (some (.slice none 0 0), 1, 24) := by kernel_rfl
set_option maxRecDepth 100000 in
theorem flat0_Texts (w : World) : Calls Tryz.prog 60 #[.slice none 0 0] w fun e w' => e = .returned (.bool true) ∧ Below w.heap.size w w' := by
  obtain ⟨i0, hi, hz0, hz1, hz2⟩ := infoParts infoS_Texts
  go_enter Tryz.func60, Tryz.ntmps60
  go_wp2_with fail
  refine wp_loop_rounds 1 ?_
  rw [rounds_succ]
  go_wp2_with (at_make; refine wpList_make_full _ rfl _ _ 97 rfl w.heap.size 152 i0 (.slice none 0 0) 1 Tryz.underlying97 hi hz0 hz1 _ _ _ _ 0 rfl rfl (by rfl) (by rfl) (by rw [hz2]; omega) (by unfold maxLen; omega) (Nat.le_refl _) ?_; intro w1 hown hg; have HB := Lib.hid ((Below.refl _ w).grown hg (Nat.le_refl _) (by simp)); clear hown hg)
  iterate 4
    refine wp_loop_rounds 1 ?_
    rw [rounds_succ]
    go_wp2_with fail
  go_ret
  exact ⟨rfl, HB.out⟩
theorem infoS_Bytes : (Tryz.prog.info? 30).map (fun i => (i.zero, i.size, i.bytes)) = some (some (.slice none 0 0), 1, 24) := by kernel_rfl
set_option maxRecDepth 100000 in
theorem flat0_Bytes (w : World) : Calls Tryz.prog 61 #[.slice none 0 0] w fun e w' => e = .returned (.bool true) ∧ Below w.heap.size w w' := by
  obtain ⟨i0, hi, hz0, hz1, hz2⟩ := infoParts infoS_Bytes
  go_enter Tryz.func61, Tryz.ntmps61
  go_wp2_with fail
  refine wp_loop_rounds 1 ?_
  rw [rounds_succ]
  go_wp2_with (at_make; refine wpList_make_full _ rfl _ _ 98 rfl w.heap.size 30 i0 (.slice none 0 0) 1 Tryz.underlying98 hi hz0 hz1 _ _ _ _ 0 rfl rfl (by rfl) (by rfl) (by rw [hz2]; omega) (by unfold maxLen; omega) (Nat.le_refl _) ?_; intro w1 hown hg; have HB := Lib.hid ((Below.refl _ w).grown hg (Nat.le_refl _) (by simp)); clear hown hg)
  iterate 4
    refine wp_loop_rounds 1 ?_
    rw [rounds_succ]
    go_wp2_with fail
  go_ret
  exact ⟨rfl, HB.out⟩
theorem infoS_TreeKeys : (Tryz.prog.info? 154).map (fun i => (i.zero, i.size, i.bytes)) = some (some (.slice none 0 0), 1, 24) := by kernel_rfl
set_option maxRecDepth 100000 in
theorem flat0_TreeKeys (w : World) : Calls Tryz.prog 62 #[.slice none 0 0] w fun e w' => e = .returned (.bool true) ∧ Below w.heap.size w w' := by
  obtain ⟨i0, hi, hz0, hz1, hz2⟩ := infoParts infoS_TreeKeys
  go_enter Tryz.func62, Tryz.ntmps62
  go_wp2_with fail
  refine wp_loop_rounds 1 ?_
  rw [rounds_succ]
  go_wp2_with (at_make; refine wpList_make_full _ rfl _ _ 99 rfl w.heap.size 154 i0 (.slice none 0 0) 1 Tryz.underlying99 hi hz0 hz1 _ _ _ _ 0 rfl rfl (by rfl) (by rfl) (by rw [hz2]; omega) (by unfold maxLen; omega) (Nat.le_refl _) ?_; intro w1 hown hg; have HB := Lib.hid ((Below.refl _ w).grown hg (Nat.le_refl _) (by simp)); clear hown hg)
  iterate 4
    refine wp_loop_rounds 1 ?_
    rw [rounds_succ]
    go_wp2_with fail
  go_ret
  exact ⟨rfl, HB.out⟩
theorem infoS_Pieces : (Tryz.prog.info? 158).map (fun i => (i.zero, i.size, i.bytes)) = some (some (.slice none 0 0), 1, 24) := by kernel_rfl
set_option maxRecDepth 100000 in
theorem flat0_Pieces (w : World) : Calls Tryz.prog 63 #[.slice none 0 0] w fun e w' => e = .returned (.bool true) ∧ Below w.heap.size w w' := by
  obtain ⟨i0, hi, hz0, hz1, hz2⟩ := infoParts infoS_Pieces
  go_enter Tryz.func63, Tryz.ntmps63
  go_wp2_with fail
  refine wp_loop_rounds 1 ?_
  rw [rounds_succ]
  go_wp2_with (at_make; refine wpList_make_full _ rfl _ _ 100 rfl w.heap.size 158 i0 (.slice none 0 0) 1 Tryz.underlying100 hi hz0 hz1 _ _ _ _ 0 rfl rfl (by rfl) (by rfl) (by rw [hz2]; omega) (by unfold maxLen; omega) (Nat.le_refl _) ?_; intro w1 hown hg; have HB := Lib.hid ((Below.refl _ w).grown hg (Nat.le_refl _) (by simp)); clear hown hg)
  iterate 4
    refine wp_loop_rounds 1 ?_
    rw [rounds_succ]
    go_wp2_with fail
  go_ret
  exact ⟨rfl, HB.out⟩
theorem infoS_Fates : (Tryz.prog.info? 162).map (fun i => (i.zero, i.size, i.bytes)) = some (some (.slice none 0 0), 1, 24) := by kernel_rfl
set_option maxRecDepth 100000 in
theorem flat0_Fates (w : World) : Calls Tryz.prog 64 #[.slice none 0 0] w fun e w' => e = .returned (.bool true) ∧ Below w.heap.size w w' := by
  obtain ⟨i0, hi, hz0, hz1, hz2⟩ := infoParts infoS_Fates
  go_enter Tryz.func64, Tryz.ntmps64
  go_wp2_with fail
  refine wp_loop_rounds 1 ?_
  rw [rounds_succ]
  go_wp2_with (at_make; refine wpList_make_full _ rfl _ _ 101 rfl w.heap.size 162 i0 (.slice none 0 0) 1 Tryz.underlying101 hi hz0 hz1 _ _ _ _ 0 rfl rfl (by rfl) (by rfl) (by rw [hz2]; omega) (by unfold maxLen; omega) (Nat.le_refl _) ?_; intro w1 hown hg; have HB := Lib.hid ((Below.refl _ w).grown hg (Nat.le_refl _) (by simp)); clear hown hg)
  iterate 4
    refine wp_loop_rounds 1 ?_
    rw [rounds_succ]
    go_wp2_with fail
  go_ret
  exact ⟨rfl, HB.out⟩
theorem infoS_Frames : (Tryz.prog.info? 166).map (fun i => (i.zero, i.size, i.bytes)) = some (some (.slice none 0 0), 1, 24) := by kernel_rfl
set_option maxRecDepth 100000 in
theorem flat0_Frames (w : World) : Calls Tryz.prog 65 #[.slice none 0 0] w fun e w' => e = .returned (.bool true) ∧ Below w.heap.size w w' := by
  obtain ⟨i0, hi, hz0, hz1, hz2⟩ := infoParts infoS_Frames
  go_enter Tryz.func65, Tryz.ntmps65
  go_wp2_with fail
  refine wp_loop_rounds 1 ?_
  rw [rounds_succ]
  go_wp2_with (at_make; refine wpList_make_full _ rfl _ _ 102 rfl w.heap.size 166 i0 (.slice none 0 0) 1 Tryz.underlying102 hi hz0 hz1 _ _ _ _ 0 rfl rfl (by rfl) (by rfl) (by rw [hz2]; omega) (by unfold maxLen; omega) (Nat.le_refl _) ?_; intro w1 hown hg; have HB := Lib.hid ((Below.refl _ w).grown hg (Nat.le_refl _) (by simp)); clear hown hg)
  iterate 4
    refine wp_loop_rounds 1 ?_
    rw [rounds_succ]
    go_wp2_with fail
  go_ret
  exact ⟨rfl, HB.out⟩
theorem infoS_Places : (Tryz.prog.info? 171).map (fun i => (i.zero, i.size, i.bytes)) = some (some (.slice none 0 0), 1, 24) := by kernel_rfl
set_option maxRecDepth 100000 in
theorem flat0_Places (w : World) : Calls Tryz.prog 66 #[.slice none 0 0] w fun e w' => e = .returned (.bool true) ∧ Below w.heap.size w w' := by
  obtain ⟨i0, hi, hz0, hz1, hz2⟩ := infoParts infoS_Places
  go_enter Tryz.func66, Tryz.ntmps66
  go_wp2_with fail
  refine wp_loop_rounds 1 ?_
  rw [rounds_succ]
  go_wp2_with (at_make; refine wpList_make_full _ rfl _ _ 103 rfl w.heap.size 171 i0 (.slice none 0 0) 1 Tryz.underlying103 hi hz0 hz1 _ _ _ _ 0 rfl rfl (by rfl) (by rfl) (by rw [hz2]; omega) (by unfold maxLen; omega) (Nat.le_refl _) ?_; intro w1 hown hg; have HB := Lib.hid ((Below.refl _ w).grown hg (Nat.le_refl _) (by simp)); clear hown hg)
  iterate 4
    refine wp_loop_rounds 1 ?_
    rw [rounds_succ]
    go_wp2_with fail
  go_ret
  exact ⟨rfl, HB.out⟩
theorem infoS_Entries : (Tryz.prog.info? 173).map (fun i => (i.zero, i.size, i.bytes)) = some (some (.slice none 0 0), 1, 24) := by kernel_rfl
set_option maxRecDepth 100000 in
theorem flat0_Entries (w : World) : Calls Tryz.prog 67 #[.slice none 0 0] w fun e w' => e = .returned (.bool true) ∧ Below w.heap.size w w' := by
  obtain ⟨i0, hi, hz0, hz1, hz2⟩ := infoParts infoS_Entries
  go_enter Tryz.func67, Tryz.ntmps67
  go_wp2_with fail
  refine wp_loop_rounds 1 ?_
  rw [rounds_succ]
  go_wp2_with (at_make; refine wpList_make_full _ rfl _ _ 104 rfl w.heap.size 173 i0 (.slice none 0 0) 1 Tryz.underlying104 hi hz0 hz1 _ _ _ _ 0 rfl rfl (by rfl) (by rfl) (by rw [hz2]; omega) (by unfold maxLen; omega) (Nat.le_refl _) ?_; intro w1 hown hg; have HB := Lib.hid ((Below.refl _ w).grown hg (Nat.le_refl _) (by simp)); clear hown hg)
  iterate 4
    refine wp_loop_rounds 1 ?_
    rw [rounds_succ]
    go_wp2_with fail
  go_ret
  exact ⟨rfl, HB.out⟩
theorem infoS_Nodes : (Tryz.prog.info? 178).map (fun i => (i.zero, i.size, i.bytes)) = some (some (.slice none 0 0), 1, 24) := by kernel_rfl
set_option maxRecDepth 100000 in
theorem flat0_Nodes (w : World) : Calls Tryz.prog 68 #[.slice none 0 0] w fun e w' => e = .returned (.bool true) ∧ Below w.heap.size w w' := by
  obtain ⟨i0, hi, hz0, hz1, hz2⟩ := infoParts infoS_Nodes
  go_enter Tryz.func68, Tryz.ntmps68
  go_wp2_with fail
  refine wp_loop_rounds 1 ?_
  rw [rounds_succ]
  go_wp2_with (at_make; refine wpList_make_full _ rfl _ _ 105 rfl w.heap.size 178 i0 (.slice none 0 0) 1 Tryz.underlying105 hi hz0 hz1 _ _ _ _ 0 rfl rfl (by rfl) (by rfl) (by rw [hz2]; omega) (by unfold maxLen; omega) (Nat.le_refl _) ?_; intro w1 hown hg; have HB := Lib.hid ((Below.refl _ w).grown hg (Nat.le_refl _) (by simp)); clear hown hg)
  iterate 4
    refine wp_loop_rounds 1 ?_
    rw [rounds_succ]
    go_wp2_with fail
  go_ret
  exact ⟨rfl, HB.out⟩
theorem infoS_Items : (Tryz.prog.info? 183).map (fun i => (i.zero, i.size, i.bytes)) = some (some (.slice none 0 0), 1, 24) := by kernel_rfl
set_option maxRecDepth 100000 in
theorem flat0_Items (w : World) : Calls Tryz.prog 69 #[.slice none 0 0] w fun e w' => e = .returned (.bool true) ∧ Below w.heap.size w w' := by
  obtain ⟨i0, hi, hz0, hz1, hz2⟩ := infoParts infoS_Items
  go_enter Tryz.func69, Tryz.ntmps69
  go_wp2_with fail
  refine wp_loop_rounds 1 ?_
  rw [rounds_succ]
  go_wp2_with (at_make; refine wpList_make_full _ rfl _ _ 106 rfl w.heap.size 183 i0 (.slice none 0 0) 1 Tryz.underlying106 hi hz0 hz1 _ _ _ _ 0 rfl rfl (by rfl) (by rfl) (by rw [hz2]; omega) (by unfold maxLen; omega) (Nat.le_refl _) ?_; intro w1 hown hg; have HB := Lib.hid ((Below.refl _ w).grown hg (Nat.le_refl _) (by simp)); clear hown hg)
  iterate 4
    refine wp_loop_rounds 1 ?_
    rw [rounds_succ]
    go_wp2_with fail
  go_ret
  exact ⟨rfl, HB.out⟩
theorem infoS_Counts : (Tryz.prog.info? 188).map (fun i => (i.zero, i.size, i.bytes)) = some (some (.slice none 0 0), 1, 24) := by kernel_rfl
set_option maxRecDepth 100000 in
theorem flat0_Counts (w : World) : Calls Tryz.prog 70 #[.slice none 0 0] w fun e w' => e = .returned (.bool true) ∧ Below w.heap.size w w' := by
  obtain ⟨i0, hi, hz0, hz1, hz2⟩ := infoParts infoS_Counts
  go_enter Tryz.func70, Tryz.ntmps70
  go_wp2_with fail
  refine wp_loop_rounds 1 ?_
  rw [rounds_succ]
  go_wp2_with (at_make; refine wpList_make_full _ rfl _ _ 107 rfl w.heap.size 188 i0 (.slice none 0 0) 1 Tryz.underlying107 hi hz0 hz1 _ _ _ _ 0 rfl rfl (by rfl) (by rfl) (by rw [hz2]; omega) (by unfold maxLen; omega) (Nat.le_refl _) ?_; intro w1 hown hg; have HB := Lib.hid ((Below.refl _ w).grown hg (Nat.le_refl _) (by simp)); clear hown hg)
  iterate 4
    refine wp_loop_rounds 1 ?_
    rw [rounds_succ]
    go_wp2_with fail
  go_ret
  exact ⟨rfl, HB.out⟩
theorem infoS_Freshes : (Tryz.prog.info? 23).map (fun i => (i.zero, i.size, i.bytes)) = some (some (.slice none 0 0), 1, 24) := by kernel_rfl
set_option maxRecDepth 100000 in
theorem flat0_Freshes (w : World) : Calls Tryz.prog 71 #[.slice none 0 0] w fun e w' => e = .returned (.bool true) ∧ Below w.heap.size w w' := by
  obtain ⟨i0, hi, hz0, hz1, hz2⟩ := infoParts infoS_Freshes
  go_enter Tryz.func71, Tryz.ntmps71
  go_wp2_with fail
  refine wp_loop_rounds 1 ?_
  rw [rounds_succ]
  go_wp2_with (at_make; refine wpList_make_full _ rfl _ _ 108 rfl w.heap.size 23 i0 (.slice none 0 0) 1 Tryz.underlying108 hi hz0 hz1 _ _ _ _ 0 rfl rfl (by rfl) (by rfl) (by rw [hz2]; omega) (by unfold maxLen; omega) (Nat.le_refl _) ?_; intro w1 hown hg; have HB := Lib.hid ((Below.refl _ w).grown hg (Nat.le_refl _) (by simp)); clear hown hg)
  iterate 4
    refine wp_loop_rounds 1 ?_
    rw [rounds_succ]
    go_wp2_with fail
  go_ret
  exact ⟨rfl, HB.out⟩
theorem infoS_Puts : (Tryz.prog.info? 24).map (fun i => (i.zero, i.size, i.bytes)) = some (some (.slice none 0 0), 1, 24) := by kernel_rfl
set_option maxRecDepth 100000 in
theorem flat0_Puts (w : World) : Calls Tryz.prog 72 #[.slice none 0 0] w fun e w' => e = .returned (.bool true) ∧ Below w.heap.size w w' := by
  obtain ⟨i0, hi, hz0, hz1, hz2⟩ := infoParts infoS_Puts
  go_enter Tryz.func72, Tryz.ntmps72
  go_wp2_with fail
  refine wp_loop_rounds 1 ?_
  rw [rounds_succ]
  go_wp2_with (at_make; refine wpList_make_full _ rfl _ _ 109 rfl w.heap.size 24 i0 (.slice none 0 0) 1 Tryz.underlying109 hi hz0 hz1 _ _ _ _ 0 rfl rfl (by rfl) (by rfl) (by rw [hz2]; omega) (by unfold maxLen; omega) (Nat.le_refl _) ?_; intro w1 hown hg; have HB := Lib.hid ((Below.refl _ w).grown hg (Nat.le_refl _) (by simp)); clear hown hg)
  iterate 4
    refine wp_loop_rounds 1 ?_
    rw [rounds_succ]
    go_wp2_with fail
  go_ret
  exact ⟨rfl, HB.out⟩
theorem infoS_Ops : (Tryz.prog.info? 28).map (fun i => (i.zero, i.size, i.bytes)) = some (some (.slice none 0 0), 1, 24) := by kernel_rfl
set_option maxRecDepth 100000 in
theorem flat0_Ops (w : World) : Calls Tryz.prog 73 #[.slice none 0 0] w fun e w' => e = .returned (.bool true) ∧ Below w.heap.size w w' := by
  obtain ⟨i0, hi, hz0, hz1, hz2⟩ := infoParts infoS_Ops
  go_enter Tryz.func73, Tryz.ntmps73
  go_wp2_with fail
  refine wp_loop_rounds 1 ?_
  rw [rounds_succ]
  go_wp2_with (at_make; refine wpList_make_full _ rfl _ _ 69 rfl w.heap.size 28 i0 (.slice none 0 0) 1 Tryz.underlying69 hi hz0 hz1 _ _ _ _ 0 rfl rfl (by rfl) (by rfl) (by rw [hz2]; omega) (by unfold maxLen; omega) (Nat.le_refl _) ?_; intro w1 hown hg; have HB := Lib.hid ((Below.refl _ w).grown hg (Nat.le_refl _) (by simp)); clear hown hg)
  iterate 4
    refine wp_loop_rounds 1 ?_
    rw [rounds_succ]
    go_wp2_with fail
  go_ret
  exact ⟨rfl, HB.out⟩
theorem infoS_Steps : (Tryz.prog.info? 195).map (fun i => (i.zero, i.size, i.bytes)) = some (some (.slice none 0 0), 1, 24) := by kernel_rfl
set_option maxRecDepth 100000 in
theorem flat0_Steps (w : World) : Calls Tryz.prog 74 #[.slice none 0 0] w fun e w' => e = .returned (.bool true) ∧ Below w.heap.size w w' := by
  obtain ⟨i0, hi, hz0, hz1, hz2⟩ := infoParts infoS_Steps
  go_enter Tryz.func74, Tryz.ntmps74
  go_wp2_with fail
  refine wp_loop_rounds 1 ?_
  rw [rounds_succ]
  go_wp2_with (at_make; refine wpList_make_full _ rfl _ _ 110 rfl w.heap.size 195 i0 (.slice none 0 0) 1 Tryz.underlying110 hi hz0 hz1 _ _ _ _ 0 rfl rfl (by rfl) (by rfl) (by rw [hz2]; omega) (by unfold maxLen; omega) (Nat.le_refl _) ?_; intro w1 hown hg; have HB := Lib.hid ((Below.refl _ w).grown hg (Nat.le_refl _) (by simp)); clear hown hg)
  iterate 4
    refine wp_loop_rounds 1 ?_
    rw [rounds_succ]
    go_wp2_with fail
  go_ret
  exact ⟨rfl, HB.out⟩
theorem infoS_Stats : (Tryz.prog.info? 201).map (fun i => (i.zero, i.size, i.bytes)) = some (some (.slice none 0 0), 1, 24) := by kernel_rfl
set_option maxRecDepth 100000 in
theorem flat0_Stats (w : World) : Calls Tryz.prog 75 #[.slice none 0 0] w fun e w' => e = .returned (.bool true) ∧ Below w.heap.size w w' := by
  obtain ⟨i0, hi, hz0, hz1, hz2⟩ := infoParts infoS_Stats
  go_enter Tryz.func75, Tryz.ntmps75
  go_wp2_with fail
  refine wp_loop_rounds 1 ?_
  rw [rounds_succ]
  go_wp2_with (at_make; refine wpList_make_full _ rfl _ _ 111 rfl w.heap.size 201 i0 (.slice none 0 0) 1 Tryz.underlying111 hi hz0 hz1 _ _ _ _ 0 rfl rfl (by rfl) (by rfl) (by rw [hz2]; omega) (by unfold maxLen; omega) (Nat.le_refl _) ?_; intro w1 hown hg; have HB := Lib.hid ((Below.refl _ w).grown hg (Nat.le_refl _) (by simp)); clear hown hg)
  iterate 4
    refine wp_loop_rounds 1 ?_
    rw [rounds_succ]
    go_wp2_with fail
  go_ret
  exact ⟨rfl, HB.out⟩
theorem infoS_Tales : (Tryz.prog.info? 208).map (fun i => (i.zero, i.size, i.bytes)) = some (some (.slice none 0 0), 1, 24) := by kernel_rfl
set_option maxRecDepth 100000 in
theorem flat0_Tales (w : World) : Calls Tryz.prog 76 #[.slice none 0 0] w fun e w' => e = .returned (.bool true) ∧ Below w.heap.size w w' := by
  obtain ⟨i0, hi, hz0, hz1, hz2⟩ := infoParts infoS_Tales
  go_enter Tryz.func76, Tryz.ntmps76
  go_wp2_with fail
  refine wp_loop_rounds 1 ?_
  rw [rounds_succ]
  go_wp2_with (at_make; refine wpList_make_full _ rfl _ _ 112 rfl w.heap.size 208 i0 (.slice none 0 0) 1 Tryz.underlying112 hi hz0 hz1 _ _ _ _ 0 rfl rfl (by rfl) (by rfl) (by rw [hz2]; omega) (by unfold maxLen; omega) (Nat.le_refl _) ?_; intro w1 hown hg; have HB := Lib.hid ((Below.refl _ w).grown hg (Nat.le_refl _) (by simp)); clear hown hg)
  iterate 4
    refine wp_loop_rounds 1 ?_
    rw [rounds_succ]
    go_wp2_with fail
  go_ret
  exact ⟨rfl, HB.out⟩
end Go.Proofs.YthdllbbjajddiaaGreatDoor
