/- The kit's flat lists, empty: nothing is found. -/
import Derived.Test.YthdllbbjajddiaaDoorKm
import Derived.Laws.MakeOwn
namespace Go.Proofs.YthdllbbjajddiaaDoor
open Go.RowKit
theorem infoS_Limbs : (Tryd.prog.info? 149).map (fun i => (i.zero, i.size, i.bytes)) = some (some (.slice none 0 0), 1, 24) := by kernel_rfl
set_option maxRecDepth 100000 in
theorem flat0_Limbs (w : World) : Calls Tryd.prog 61 #[.slice none 0 0] w fun e w' => e = .returned (.bool true) ∧ Below w.heap.size w w' := by
  obtain ⟨i0, hi, hz0, hz1, hz2⟩ := infoParts infoS_Limbs
  go_enter Tryd.func61, Tryd.ntmps61
  go_wp2_with fail
  refine wp_loop_rounds 1 ?_
  rw [rounds_succ]
  go_wp2_with (at_make; refine wpList_make_full _ rfl _ _ 80 rfl w.heap.size 149 i0 (.slice none 0 0) 1 Tryd.underlying80 hi hz0 hz1 _ _ _ _ 0 rfl rfl (by rfl) (by rfl) (by rw [hz2]; omega) (by unfold maxLen; omega) (Nat.le_refl _) ?_; intro w1 hown hg; have HB := Lib.hid ((Below.refl _ w).grown hg (Nat.le_refl _) (by simp)); clear hown hg)
  iterate 4
    refine wp_loop_rounds 1 ?_
    rw [rounds_succ]
    go_wp2_with fail
  go_ret
  exact ⟨rfl, HB.out⟩
theorem infoS_Words : (Tryd.prog.info? 151).map (fun i => (i.zero, i.size, i.bytes)) = some (some (.slice none 0 0), 1, 24) := by kernel_rfl
set_option maxRecDepth 100000 in
theorem flat0_Words (w : World) : Calls Tryd.prog 62 #[.slice none 0 0] w fun e w' => e = .returned (.bool true) ∧ Below w.heap.size w w' := by
  obtain ⟨i0, hi, hz0, hz1, hz2⟩ := infoParts infoS_Words
  go_enter Tryd.func62, Tryd.ntmps62
  go_wp2_with fail
  refine wp_loop_rounds 1 ?_
  rw [rounds_succ]
  go_wp2_with (at_make; refine wpList_make_full _ rfl _ _ 81 rfl w.heap.size 151 i0 (.slice none 0 0) 1 Tryd.underlying81 hi hz0 hz1 _ _ _ _ 0 rfl rfl (by rfl) (by rfl) (by rw [hz2]; omega) (by unfold maxLen; omega) (Nat.le_refl _) ?_; intro w1 hown hg; have HB := Lib.hid ((Below.refl _ w).grown hg (Nat.le_refl _) (by simp)); clear hown hg)
  iterate 4
    refine wp_loop_rounds 1 ?_
    rw [rounds_succ]
    go_wp2_with fail
  go_ret
  exact ⟨rfl, HB.out⟩
theorem infoS_Ints : (Tryd.prog.info? 119).map (fun i => (i.zero, i.size, i.bytes)) = some (some (.slice none 0 0), 1, 24) := by kernel_rfl
set_option maxRecDepth 100000 in
theorem flat0_Ints (w : World) : Calls Tryd.prog 63 #[.slice none 0 0] w fun e w' => e = .returned (.bool true) ∧ Below w.heap.size w w' := by
  obtain ⟨i0, hi, hz0, hz1, hz2⟩ := infoParts infoS_Ints
  go_enter Tryd.func63, Tryd.ntmps63
  go_wp2_with fail
  refine wp_loop_rounds 1 ?_
  rw [rounds_succ]
  go_wp2_with (at_make; refine wpList_make_full _ rfl _ _ 82 rfl w.heap.size 119 i0 (.slice none 0 0) 1 Tryd.underlying82 hi hz0 hz1 _ _ _ _ 0 rfl rfl (by rfl) (by rfl) (by rw [hz2]; omega) (by unfold maxLen; omega) (Nat.le_refl _) ?_; intro w1 hown hg; have HB := Lib.hid ((Below.refl _ w).grown hg (Nat.le_refl _) (by simp)); clear hown hg)
  iterate 4
    refine wp_loop_rounds 1 ?_
    rw [rounds_succ]
    go_wp2_with fail
  go_ret
  exact ⟨rfl, HB.out⟩
theorem infoS_Longs : (Tryd.prog.info? 152).map (fun i => (i.zero, i.size, i.bytes)) = some (some (.slice none 0 0), 1, 24) := by kernel_rfl
set_option maxRecDepth 100000 in
theorem flat0_Longs (w : World) : Calls Tryd.prog 64 #[.slice none 0 0] w fun e w' => e = .returned (.bool true) ∧ Below w.heap.size w w' := by
  obtain ⟨i0, hi, hz0, hz1, hz2⟩ := infoParts infoS_Longs
  go_enter Tryd.func64, Tryd.ntmps64
  go_wp2_with fail
  refine wp_loop_rounds 1 ?_
  rw [rounds_succ]
  go_wp2_with (at_make; refine wpList_make_full _ rfl _ _ 83 rfl w.heap.size 152 i0 (.slice none 0 0) 1 Tryd.underlying83 hi hz0 hz1 _ _ _ _ 0 rfl rfl (by rfl) (by rfl) (by rw [hz2]; omega) (by unfold maxLen; omega) (Nat.le_refl _) ?_; intro w1 hown hg; have HB := Lib.hid ((Below.refl _ w).grown hg (Nat.le_refl _) (by simp)); clear hown hg)
  iterate 4
    refine wp_loop_rounds 1 ?_
    rw [rounds_succ]
    go_wp2_with fail
  go_ret
  exact ⟨rfl, HB.out⟩
theorem infoS_Texts : (Tryd.prog.info? 153).map (fun i => (i.zero, i.size, i.bytes)) = some (some (.slice none 0 0), 1, 24) := by kernel_rfl
set_option maxRecDepth 100000 in
theorem flat0_Texts (w : World) : Calls Tryd.prog 65 #[.slice none 0 0] w fun e w' => e = .returned (.bool true) ∧ Below w.heap.size w w' := by
  obtain ⟨i0, hi, hz0, hz1, hz2⟩ := infoParts infoS_Texts
  go_enter Tryd.func65, Tryd.ntmps65
  go_wp2_with fail
  refine wp_loop_rounds 1 ?_
  rw [rounds_succ]
  go_wp2_with (at_make; refine wpList_make_full _ rfl _ _ 84 rfl w.heap.size 153 i0 (.slice none 0 0) 1 Tryd.underlying84 hi hz0 hz1 _ _ _ _ 0 rfl rfl (by rfl) (by rfl) (by rw [hz2]; omega) (by unfold maxLen; omega) (Nat.le_refl _) ?_; intro w1 hown hg; have HB := Lib.hid ((Below.refl _ w).grown hg (Nat.le_refl _) (by simp)); clear hown hg)
  iterate 4
    refine wp_loop_rounds 1 ?_
    rw [rounds_succ]
    go_wp2_with fail
  go_ret
  exact ⟨rfl, HB.out⟩
theorem infoS_Bytes : (Tryd.prog.info? 30).map (fun i => (i.zero, i.size, i.bytes)) = some (some (.slice none 0 0), 1, 24) := by kernel_rfl
set_option maxRecDepth 100000 in
theorem flat0_Bytes (w : World) : Calls Tryd.prog 66 #[.slice none 0 0] w fun e w' => e = .returned (.bool true) ∧ Below w.heap.size w w' := by
  obtain ⟨i0, hi, hz0, hz1, hz2⟩ := infoParts infoS_Bytes
  go_enter Tryd.func66, Tryd.ntmps66
  go_wp2_with fail
  refine wp_loop_rounds 1 ?_
  rw [rounds_succ]
  go_wp2_with (at_make; refine wpList_make_full _ rfl _ _ 38 rfl w.heap.size 30 i0 (.slice none 0 0) 1 Tryd.underlying38 hi hz0 hz1 _ _ _ _ 0 rfl rfl (by rfl) (by rfl) (by rw [hz2]; omega) (by unfold maxLen; omega) (Nat.le_refl _) ?_; intro w1 hown hg; have HB := Lib.hid ((Below.refl _ w).grown hg (Nat.le_refl _) (by simp)); clear hown hg)
  iterate 4
    refine wp_loop_rounds 1 ?_
    rw [rounds_succ]
    go_wp2_with fail
  go_ret
  exact ⟨rfl, HB.out⟩
theorem infoS_TreeKeys : (Tryd.prog.info? 155).map (fun i => (i.zero, i.size, i.bytes)) = some (some (.slice none 0 0), 1, 24) := by kernel_rfl
set_option maxRecDepth 100000 in
theorem flat0_TreeKeys (w : World) : Calls Tryd.prog 67 #[.slice none 0 0] w fun e w' => e = .returned (.bool true) ∧ Below w.heap.size w w' := by
  obtain ⟨i0, hi, hz0, hz1, hz2⟩ := infoParts infoS_TreeKeys
  go_enter Tryd.func67, Tryd.ntmps67
  go_wp2_with fail
  refine wp_loop_rounds 1 ?_
  rw [rounds_succ]
  go_wp2_with (at_make; refine wpList_make_full _ rfl _ _ 85 rfl w.heap.size 155 i0 (.slice none 0 0) 1 Tryd.underlying85 hi hz0 hz1 _ _ _ _ 0 rfl rfl (by rfl) (by rfl) (by rw [hz2]; omega) (by unfold maxLen; omega) (Nat.le_refl _) ?_; intro w1 hown hg; have HB := Lib.hid ((Below.refl _ w).grown hg (Nat.le_refl _) (by simp)); clear hown hg)
  iterate 4
    refine wp_loop_rounds 1 ?_
    rw [rounds_succ]
    go_wp2_with fail
  go_ret
  exact ⟨rfl, HB.out⟩
theorem infoS_Pieces : (Tryd.prog.info? 159).map (fun i => (i.zero, i.size, i.bytes)) = some (some (.slice none 0 0), 1, 24) := by kernel_rfl
set_option maxRecDepth 100000 in
theorem flat0_Pieces (w : World) : Calls Tryd.prog 68 #[.slice none 0 0] w fun e w' => e = .returned (.bool true) ∧ Below w.heap.size w w' := by
  obtain ⟨i0, hi, hz0, hz1, hz2⟩ := infoParts infoS_Pieces
  go_enter Tryd.func68, Tryd.ntmps68
  go_wp2_with fail
  refine wp_loop_rounds 1 ?_
  rw [rounds_succ]
  go_wp2_with (at_make; refine wpList_make_full _ rfl _ _ 86 rfl w.heap.size 159 i0 (.slice none 0 0) 1 Tryd.underlying86 hi hz0 hz1 _ _ _ _ 0 rfl rfl (by rfl) (by rfl) (by rw [hz2]; omega) (by unfold maxLen; omega) (Nat.le_refl _) ?_; intro w1 hown hg; have HB := Lib.hid ((Below.refl _ w).grown hg (Nat.le_refl _) (by simp)); clear hown hg)
  iterate 4
    refine wp_loop_rounds 1 ?_
    rw [rounds_succ]
    go_wp2_with fail
  go_ret
  exact ⟨rfl, HB.out⟩
theorem infoS_Fates : (Tryd.prog.info? 163).map (fun i => (i.zero, i.size, i.bytes)) = some (some (.slice none 0 0), 1, 24) := by kernel_rfl
set_option maxRecDepth 100000 in
theorem flat0_Fates (w : World) : Calls Tryd.prog 69 #[.slice none 0 0] w fun e w' => e = .returned (.bool true) ∧ Below w.heap.size w w' := by
  obtain ⟨i0, hi, hz0, hz1, hz2⟩ := infoParts infoS_Fates
  go_enter Tryd.func69, Tryd.ntmps69
  go_wp2_with fail
  refine wp_loop_rounds 1 ?_
  rw [rounds_succ]
  go_wp2_with (at_make; refine wpList_make_full _ rfl _ _ 87 rfl w.heap.size 163 i0 (.slice none 0 0) 1 Tryd.underlying87 hi hz0 hz1 _ _ _ _ 0 rfl rfl (by rfl) (by rfl) (by rw [hz2]; omega) (by unfold maxLen; omega) (Nat.le_refl _) ?_; intro w1 hown hg; have HB := Lib.hid ((Below.refl _ w).grown hg (Nat.le_refl _) (by simp)); clear hown hg)
  iterate 4
    refine wp_loop_rounds 1 ?_
    rw [rounds_succ]
    go_wp2_with fail
  go_ret
  exact ⟨rfl, HB.out⟩
theorem infoS_Frames : (Tryd.prog.info? 167).map (fun i => (i.zero, i.size, i.bytes)) = some (some (.slice none 0 0), 1, 24) := by kernel_rfl
set_option maxRecDepth 100000 in
theorem flat0_Frames (w : World) : Calls Tryd.prog 70 #[.slice none 0 0] w fun e w' => e = .returned (.bool true) ∧ Below w.heap.size w w' := by
  obtain ⟨i0, hi, hz0, hz1, hz2⟩ := infoParts infoS_Frames
  go_enter Tryd.func70, Tryd.ntmps70
  go_wp2_with fail
  refine wp_loop_rounds 1 ?_
  rw [rounds_succ]
  go_wp2_with (at_make; refine wpList_make_full _ rfl _ _ 88 rfl w.heap.size 167 i0 (.slice none 0 0) 1 Tryd.underlying88 hi hz0 hz1 _ _ _ _ 0 rfl rfl (by rfl) (by rfl) (by rw [hz2]; omega) (by unfold maxLen; omega) (Nat.le_refl _) ?_; intro w1 hown hg; have HB := Lib.hid ((Below.refl _ w).grown hg (Nat.le_refl _) (by simp)); clear hown hg)
  iterate 4
    refine wp_loop_rounds 1 ?_
    rw [rounds_succ]
    go_wp2_with fail
  go_ret
  exact ⟨rfl, HB.out⟩
theorem infoS_Places : (Tryd.prog.info? 172).map (fun i => (i.zero, i.size, i.bytes)) = some (some (.slice none 0 0), 1, 24) := by kernel_rfl
set_option maxRecDepth 100000 in
theorem flat0_Places (w : World) : Calls Tryd.prog 71 #[.slice none 0 0] w fun e w' => e = .returned (.bool true) ∧ Below w.heap.size w w' := by
  obtain ⟨i0, hi, hz0, hz1, hz2⟩ := infoParts infoS_Places
  go_enter Tryd.func71, Tryd.ntmps71
  go_wp2_with fail
  refine wp_loop_rounds 1 ?_
  rw [rounds_succ]
  go_wp2_with (at_make; refine wpList_make_full _ rfl _ _ 89 rfl w.heap.size 172 i0 (.slice none 0 0) 1 Tryd.underlying89 hi hz0 hz1 _ _ _ _ 0 rfl rfl (by rfl) (by rfl) (by rw [hz2]; omega) (by unfold maxLen; omega) (Nat.le_refl _) ?_; intro w1 hown hg; have HB := Lib.hid ((Below.refl _ w).grown hg (Nat.le_refl _) (by simp)); clear hown hg)
  iterate 4
    refine wp_loop_rounds 1 ?_
    rw [rounds_succ]
    go_wp2_with fail
  go_ret
  exact ⟨rfl, HB.out⟩
theorem infoS_Entries : (Tryd.prog.info? 174).map (fun i => (i.zero, i.size, i.bytes)) = some (some (.slice none 0 0), 1, 24) := by kernel_rfl
set_option maxRecDepth 100000 in
theorem flat0_Entries (w : World) : Calls Tryd.prog 72 #[.slice none 0 0] w fun e w' => e = .returned (.bool true) ∧ Below w.heap.size w w' := by
  obtain ⟨i0, hi, hz0, hz1, hz2⟩ := infoParts infoS_Entries
  go_enter Tryd.func72, Tryd.ntmps72
  go_wp2_with fail
  refine wp_loop_rounds 1 ?_
  rw [rounds_succ]
  go_wp2_with (at_make; refine wpList_make_full _ rfl _ _ 90 rfl w.heap.size 174 i0 (.slice none 0 0) 1 Tryd.underlying90 hi hz0 hz1 _ _ _ _ 0 rfl rfl (by rfl) (by rfl) (by rw [hz2]; omega) (by unfold maxLen; omega) (Nat.le_refl _) ?_; intro w1 hown hg; have HB := Lib.hid ((Below.refl _ w).grown hg (Nat.le_refl _) (by simp)); clear hown hg)
  iterate 4
    refine wp_loop_rounds 1 ?_
    rw [rounds_succ]
    go_wp2_with fail
  go_ret
  exact ⟨rfl, HB.out⟩
theorem infoS_Nodes : (Tryd.prog.info? 179).map (fun i => (i.zero, i.size, i.bytes)) = some (some (.slice none 0 0), 1, 24) := by kernel_rfl
set_option maxRecDepth 100000 in
theorem flat0_Nodes (w : World) : Calls Tryd.prog 73 #[.slice none 0 0] w fun e w' => e = .returned (.bool true) ∧ Below w.heap.size w w' := by
  obtain ⟨i0, hi, hz0, hz1, hz2⟩ := infoParts infoS_Nodes
  go_enter Tryd.func73, Tryd.ntmps73
  go_wp2_with fail
  refine wp_loop_rounds 1 ?_
  rw [rounds_succ]
  go_wp2_with (at_make; refine wpList_make_full _ rfl _ _ 91 rfl w.heap.size 179 i0 (.slice none 0 0) 1 Tryd.underlying91 hi hz0 hz1 _ _ _ _ 0 rfl rfl (by rfl) (by rfl) (by rw [hz2]; omega) (by unfold maxLen; omega) (Nat.le_refl _) ?_; intro w1 hown hg; have HB := Lib.hid ((Below.refl _ w).grown hg (Nat.le_refl _) (by simp)); clear hown hg)
  iterate 4
    refine wp_loop_rounds 1 ?_
    rw [rounds_succ]
    go_wp2_with fail
  go_ret
  exact ⟨rfl, HB.out⟩
theorem infoS_Items : (Tryd.prog.info? 184).map (fun i => (i.zero, i.size, i.bytes)) = some (some (.slice none 0 0), 1, 24) := by kernel_rfl
set_option maxRecDepth 100000 in
theorem flat0_Items (w : World) : Calls Tryd.prog 74 #[.slice none 0 0] w fun e w' => e = .returned (.bool true) ∧ Below w.heap.size w w' := by
  obtain ⟨i0, hi, hz0, hz1, hz2⟩ := infoParts infoS_Items
  go_enter Tryd.func74, Tryd.ntmps74
  go_wp2_with fail
  refine wp_loop_rounds 1 ?_
  rw [rounds_succ]
  go_wp2_with (at_make; refine wpList_make_full _ rfl _ _ 92 rfl w.heap.size 184 i0 (.slice none 0 0) 1 Tryd.underlying92 hi hz0 hz1 _ _ _ _ 0 rfl rfl (by rfl) (by rfl) (by rw [hz2]; omega) (by unfold maxLen; omega) (Nat.le_refl _) ?_; intro w1 hown hg; have HB := Lib.hid ((Below.refl _ w).grown hg (Nat.le_refl _) (by simp)); clear hown hg)
  iterate 4
    refine wp_loop_rounds 1 ?_
    rw [rounds_succ]
    go_wp2_with fail
  go_ret
  exact ⟨rfl, HB.out⟩
theorem infoS_Counts : (Tryd.prog.info? 189).map (fun i => (i.zero, i.size, i.bytes)) = some (some (.slice none 0 0), 1, 24) := by kernel_rfl
set_option maxRecDepth 100000 in
theorem flat0_Counts (w : World) : Calls Tryd.prog 75 #[.slice none 0 0] w fun e w' => e = .returned (.bool true) ∧ Below w.heap.size w w' := by
  obtain ⟨i0, hi, hz0, hz1, hz2⟩ := infoParts infoS_Counts
  go_enter Tryd.func75, Tryd.ntmps75
  go_wp2_with fail
  refine wp_loop_rounds 1 ?_
  rw [rounds_succ]
  go_wp2_with (at_make; refine wpList_make_full _ rfl _ _ 93 rfl w.heap.size 189 i0 (.slice none 0 0) 1 Tryd.underlying93 hi hz0 hz1 _ _ _ _ 0 rfl rfl (by rfl) (by rfl) (by rw [hz2]; omega) (by unfold maxLen; omega) (Nat.le_refl _) ?_; intro w1 hown hg; have HB := Lib.hid ((Below.refl _ w).grown hg (Nat.le_refl _) (by simp)); clear hown hg)
  iterate 4
    refine wp_loop_rounds 1 ?_
    rw [rounds_succ]
    go_wp2_with fail
  go_ret
  exact ⟨rfl, HB.out⟩
theorem infoS_Freshes : (Tryd.prog.info? 23).map (fun i => (i.zero, i.size, i.bytes)) = some (some (.slice none 0 0), 1, 24) := by kernel_rfl
set_option maxRecDepth 100000 in
theorem flat0_Freshes (w : World) : Calls Tryd.prog 76 #[.slice none 0 0] w fun e w' => e = .returned (.bool true) ∧ Below w.heap.size w w' := by
  obtain ⟨i0, hi, hz0, hz1, hz2⟩ := infoParts infoS_Freshes
  go_enter Tryd.func76, Tryd.ntmps76
  go_wp2_with fail
  refine wp_loop_rounds 1 ?_
  rw [rounds_succ]
  go_wp2_with (at_make; refine wpList_make_full _ rfl _ _ 94 rfl w.heap.size 23 i0 (.slice none 0 0) 1 Tryd.underlying94 hi hz0 hz1 _ _ _ _ 0 rfl rfl (by rfl) (by rfl) (by rw [hz2]; omega) (by unfold maxLen; omega) (Nat.le_refl _) ?_; intro w1 hown hg; have HB := Lib.hid ((Below.refl _ w).grown hg (Nat.le_refl _) (by simp)); clear hown hg)
  iterate 4
    refine wp_loop_rounds 1 ?_
    rw [rounds_succ]
    go_wp2_with fail
  go_ret
  exact ⟨rfl, HB.out⟩
theorem infoS_Puts : (Tryd.prog.info? 24).map (fun i => (i.zero, i.size, i.bytes)) = some (some (.slice none 0 0), 1, 24) := by kernel_rfl
set_option maxRecDepth 100000 in
theorem flat0_Puts (w : World) : Calls Tryd.prog 77 #[.slice none 0 0] w fun e w' => e = .returned (.bool true) ∧ Below w.heap.size w w' := by
  obtain ⟨i0, hi, hz0, hz1, hz2⟩ := infoParts infoS_Puts
  go_enter Tryd.func77, Tryd.ntmps77
  go_wp2_with fail
  refine wp_loop_rounds 1 ?_
  rw [rounds_succ]
  go_wp2_with (at_make; refine wpList_make_full _ rfl _ _ 95 rfl w.heap.size 24 i0 (.slice none 0 0) 1 Tryd.underlying95 hi hz0 hz1 _ _ _ _ 0 rfl rfl (by rfl) (by rfl) (by rw [hz2]; omega) (by unfold maxLen; omega) (Nat.le_refl _) ?_; intro w1 hown hg; have HB := Lib.hid ((Below.refl _ w).grown hg (Nat.le_refl _) (by simp)); clear hown hg)
  iterate 4
    refine wp_loop_rounds 1 ?_
    rw [rounds_succ]
    go_wp2_with fail
  go_ret
  exact ⟨rfl, HB.out⟩
theorem infoS_Ops : (Tryd.prog.info? 44).map (fun i => (i.zero, i.size, i.bytes)) = some (some (.slice none 0 0), 1, 24) := by kernel_rfl
set_option maxRecDepth 100000 in
theorem flat0_Ops (w : World) : Calls Tryd.prog 78 #[.slice none 0 0] w fun e w' => e = .returned (.bool true) ∧ Below w.heap.size w w' := by
  obtain ⟨i0, hi, hz0, hz1, hz2⟩ := infoParts infoS_Ops
  go_enter Tryd.func78, Tryd.ntmps78
  go_wp2_with fail
  refine wp_loop_rounds 1 ?_
  rw [rounds_succ]
  go_wp2_with (at_make; refine wpList_make_full _ rfl _ _ 45 rfl w.heap.size 44 i0 (.slice none 0 0) 1 Tryd.underlying45 hi hz0 hz1 _ _ _ _ 0 rfl rfl (by rfl) (by rfl) (by rw [hz2]; omega) (by unfold maxLen; omega) (Nat.le_refl _) ?_; intro w1 hown hg; have HB := Lib.hid ((Below.refl _ w).grown hg (Nat.le_refl _) (by simp)); clear hown hg)
  iterate 4
    refine wp_loop_rounds 1 ?_
    rw [rounds_succ]
    go_wp2_with fail
  go_ret
  exact ⟨rfl, HB.out⟩
theorem infoS_Steps : (Tryd.prog.info? 194).map (fun i => (i.zero, i.size, i.bytes)) = some (some (.slice none 0 0), 1, 24) := by kernel_rfl
set_option maxRecDepth 100000 in
theorem flat0_Steps (w : World) : Calls Tryd.prog 79 #[.slice none 0 0] w fun e w' => e = .returned (.bool true) ∧ Below w.heap.size w w' := by
  obtain ⟨i0, hi, hz0, hz1, hz2⟩ := infoParts infoS_Steps
  go_enter Tryd.func79, Tryd.ntmps79
  go_wp2_with fail
  refine wp_loop_rounds 1 ?_
  rw [rounds_succ]
  go_wp2_with (at_make; refine wpList_make_full _ rfl _ _ 96 rfl w.heap.size 194 i0 (.slice none 0 0) 1 Tryd.underlying96 hi hz0 hz1 _ _ _ _ 0 rfl rfl (by rfl) (by rfl) (by rw [hz2]; omega) (by unfold maxLen; omega) (Nat.le_refl _) ?_; intro w1 hown hg; have HB := Lib.hid ((Below.refl _ w).grown hg (Nat.le_refl _) (by simp)); clear hown hg)
  iterate 4
    refine wp_loop_rounds 1 ?_
    rw [rounds_succ]
    go_wp2_with fail
  go_ret
  exact ⟨rfl, HB.out⟩
theorem infoS_Stats : (Tryd.prog.info? 200).map (fun i => (i.zero, i.size, i.bytes)) = some (some (.slice none 0 0), 1, 24) := by kernel_rfl
set_option maxRecDepth 100000 in
theorem flat0_Stats (w : World) : Calls Tryd.prog 80 #[.slice none 0 0] w fun e w' => e = .returned (.bool true) ∧ Below w.heap.size w w' := by
  obtain ⟨i0, hi, hz0, hz1, hz2⟩ := infoParts infoS_Stats
  go_enter Tryd.func80, Tryd.ntmps80
  go_wp2_with fail
  refine wp_loop_rounds 1 ?_
  rw [rounds_succ]
  go_wp2_with (at_make; refine wpList_make_full _ rfl _ _ 97 rfl w.heap.size 200 i0 (.slice none 0 0) 1 Tryd.underlying97 hi hz0 hz1 _ _ _ _ 0 rfl rfl (by rfl) (by rfl) (by rw [hz2]; omega) (by unfold maxLen; omega) (Nat.le_refl _) ?_; intro w1 hown hg; have HB := Lib.hid ((Below.refl _ w).grown hg (Nat.le_refl _) (by simp)); clear hown hg)
  iterate 4
    refine wp_loop_rounds 1 ?_
    rw [rounds_succ]
    go_wp2_with fail
  go_ret
  exact ⟨rfl, HB.out⟩
theorem infoS_Tales : (Tryd.prog.info? 207).map (fun i => (i.zero, i.size, i.bytes)) = some (some (.slice none 0 0), 1, 24) := by kernel_rfl
set_option maxRecDepth 100000 in
theorem flat0_Tales (w : World) : Calls Tryd.prog 81 #[.slice none 0 0] w fun e w' => e = .returned (.bool true) ∧ Below w.heap.size w w' := by
  obtain ⟨i0, hi, hz0, hz1, hz2⟩ := infoParts infoS_Tales
  go_enter Tryd.func81, Tryd.ntmps81
  go_wp2_with fail
  refine wp_loop_rounds 1 ?_
  rw [rounds_succ]
  go_wp2_with (at_make; refine wpList_make_full _ rfl _ _ 98 rfl w.heap.size 207 i0 (.slice none 0 0) 1 Tryd.underlying98 hi hz0 hz1 _ _ _ _ 0 rfl rfl (by rfl) (by rfl) (by rw [hz2]; omega) (by unfold maxLen; omega) (Nat.le_refl _) ?_; intro w1 hown hg; have HB := Lib.hid ((Below.refl _ w).grown hg (Nat.le_refl _) (by simp)); clear hown hg)
  iterate 4
    refine wp_loop_rounds 1 ?_
    rw [rounds_succ]
    go_wp2_with fail
  go_ret
  exact ⟨rfl, HB.out⟩
end Go.Proofs.YthdllbbjajddiaaDoor
