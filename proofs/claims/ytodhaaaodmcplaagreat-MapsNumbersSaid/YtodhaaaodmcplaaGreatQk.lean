/- The law MapsNumbers (layer 23): it returns true. Printed by genQj.py. -/
import Derived.Test.YtodhaaaodmcplaaGreatQj
set_option linter.all false
namespace Go.Proofs.YtodhaaaodmcplaaGreat
open Go.RowKit Go.Maps Go.WideMaps
set_option maxRecDepth 100000 in
set_option maxHeartbeats 16000000 in
theorem numbers4 (W : World) : Calls Tryz.prog 4 #[] W fun e W' => e = .returned (.bool true) ∧ Below W.heap.size W W' := by
  obtain ⟨i0, hi, hz0, hz1, hz2⟩ := infoParts infoDo
  have HI := Lib.hid (And.intro hi (And.intro hz0 (And.intro hz1 hz2)))
  have HP37 : Hid (0 < 37) := Lib.hid (by decide)
  have HLA : Hid (∀ x y, ∀ k, k < 3 → ((gA x y k).cells).length = 37) := Lib.hid fun x y k hk => by match k, hk with | 0, _ => rfl | 1, _ => rfl | 2, _ => rfl
  clear hi hz0 hz1 hz2
  go_enter Tryz.func4, Tryz.ntmps4
  go_upto_region 2 with fail
  obtain ⟨wn, hwn⟩ : ∃ w, w = W.alloc (.cells #[.int .i64 (-9223372036854775808), .int .i64 (-1), .int .i64 0, .int .i64 1, .int .i64 2, .int .i64 3, .int .i64 15, .int .i64 16, .int .i64 17, .int .i64 23, .int .i64 24, .int .i64 25, .int .i64 255, .int .i64 256, .int .i64 511, .int .i64 512, .int .i64 513, .int .i64 4096, .int .i64 4097, .int .i64 1073741824, .int .i64 1073741825, .int .i64 9223372036854775807] 3) := ⟨_, rfl⟩
  rw [← hwn]
  have D0 : Hid (DataN W wn) := Lib.hid (by rw [hwn]; exact ⟨heap_new W _, (Below.refl _ _).alloc (Nat.le_refl _) _⟩)
  clear hwn
  go_wp2_with fail
  go_loopw [2] (fun i wr => ∃ k : Nat, k ≤ 22 ∧ i = .int .i64 k ∧ DataN W wr) (fun i _ => 22 - (Go.RowKit.intOf i).toNat)
  case atStart => exact ⟨0, Nat.zero_le _, rfl, D0.out⟩
  case round =>
    clear D0
    obtain ⟨k, hk, rfl, hd⟩ := hrel
    have D := Lib.hid hd
    clear hd
    by_cases hlt : k < 22
    · obtain ⟨x, hx⟩ : ∃ x, x = numsM.getD k 0 := ⟨_, rfl⟩
      have HX : Hid ((Lit.int .i64 x).wf = true) := Lib.hid (hx ▸ nums_wf hlt)
      have NX : Hid (∀ w, DataN W w → w.cell? ⟨W.heap.size, k, none⟩ = some (.int .i64 x)) := Lib.hid fun w h => hx ▸ h.num hlt
      have i1 : (0 : Int) ≤ k := by omega
      have i2 : (k : Int) < 22 := by omega
      clear hx
      obtain ⟨w0, hw0⟩ : ∃ z, z = wr := ⟨_, rfl⟩
      subst hw0
      have C0 : Hid (∃ F, ColF w0 w0 (.slice none 0 0) (3 * 0) F) := Lib.hid ⟨_, ColF.start w0⟩
      go_wp2_with fail
      go_loopw [3, 4] (fun v i wx => ∃ q : Nat, q ≤ 22 ∧ i = .int .i64 q ∧ ∃ F, ColF w0 wx v (3 * q) F) (fun _ i _ => 22 - (Go.RowKit.intOf i).toNat)
      case atStart => exact ⟨0, Nat.zero_le _, rfl, C0.out⟩
      case round =>
        clear C0
        obtain ⟨q, hq, rfl, F, hc⟩ := hrel
        have C := Lib.hid hc
        obtain ⟨A3, c3, rfl⟩ := row_shapeS hc.row
        clear hc
        by_cases hlq : q < 22
        · obtain ⟨y, hy⟩ : ∃ y, y = numsM.getD q 0 := ⟨_, rfl⟩
          have HY : Hid ((Lit.int .i64 y).wf = true) := Lib.hid (hy ▸ nums_wf hlq)
          have NY : Hid (∀ w, DataN W w → w.cell? ⟨W.heap.size, q, none⟩ = some (.int .i64 y)) := Lib.hid fun w h => hy ▸ h.num hlq
          have j1 : (0 : Int) ≤ q := by omega
          have j2 : (q : Int) < 22 := by omega
          clear hy
          go_upto_region 9 with fail
          have CD := Lib.hid (C.out.go (w2 := wr.drew) (below_drewN (Below.refl _ _) 1))
          obtain ⟨wq, hwq⟩ : ∃ z, z = wr.drew := ⟨_, rfl⟩
          have HSS : Hid (∀ w, Below w0.heap.size w0 w → (fun w' : World => w'.cell? ⟨W.heap.size, k, none⟩ = some (.int .i64 x) ∧ w'.cell? ⟨W.heap.size, q, none⟩ = some (.int .i64 y)) w) := Lib.hid fun w h => ⟨NX.out w (D.out.go h), NY.out w (D.out.go h)⟩
          refine wp_region_held_drew (S := (fun w' : World => w'.cell? ⟨W.heap.size, k, none⟩ = some (.int .i64 x) ∧ w'.cell? ⟨W.heap.size, q, none⟩ = some (.int .i64 y))) follows (HSS.out _ CD.out.below) (fun hHeld => ?_)
          rw [← hwq] at CD hHeld ⊢
          clear hwq C
          refine wpAnyH_take (i := 0) (v := ?_) (by simp only [List.getElem?_toArray, List.getElem?_cons_zero]; rfl) (by kernel_rfl) (by kernel_rfl) (by kernel_rfl) (by intro _ _ _ h; exact h) (Or.inl ⟨by rfl, ?_⟩) hHeld ?_
          rotate_left
          · (intro w hSw; (try dsimp only at hSw); go_simp; try with_reducible rfl)
          try simp only [Act.put, List.setIfInBounds_toArray, List.set_cons_zero, List.set_cons_succ]
          refine wpAnyH_take (i := 1) (v := ?_) (by simp only [List.getElem?_toArray, List.getElem?_cons_zero, List.getElem?_cons_succ]; rfl) (by kernel_rfl) (by kernel_rfl) (by kernel_rfl) (by intro _ _ _ h; exact h) (Or.inl ⟨by rfl, ?_⟩) hHeld ?_
          rotate_left
          · (intro w hSw; (try dsimp only at hSw); go_simp; try with_reducible rfl)
          try simp only [Act.put, List.setIfInBounds_toArray, List.set_cons_zero, List.set_cons_succ]
          refine wpAnyH_take (i := 2) (v := ?_) (by simp only [List.getElem?_toArray, List.getElem?_cons_zero, List.getElem?_cons_succ]; rfl) (by kernel_rfl) (by kernel_rfl) (by kernel_rfl) (by intro _ _ _ h; exact h) (Or.inl ⟨by rfl, ?_⟩) hHeld ?_
          rotate_left
          · (intro w hSw; (try dsimp only at hSw); go_simp; try with_reducible rfl)
          try simp only [Act.put, List.setIfInBounds_toArray, List.set_cons_zero, List.set_cons_succ]
          refine wpAnyH_take (i := 3) (v := ?_) (by simp only [List.getElem?_toArray, List.getElem?_cons_zero, List.getElem?_cons_succ]; rfl) (by kernel_rfl) (by kernel_rfl) (by kernel_rfl) (by intro _ _ _ h; exact h) (Or.inl ⟨by rfl, ?_⟩) hHeld ?_
          rotate_left
          · (intro w hSw; (try dsimp only at hSw); go_simp; try with_reducible rfl)
          try simp only [Act.put, List.setIfInBounds_toArray, List.set_cons_zero, List.set_cons_succ]
          refine wpAnyH_take (i := 4) (v := ?_) (by simp only [List.getElem?_toArray, List.getElem?_cons_zero, List.getElem?_cons_succ]; rfl) (by kernel_rfl) (by kernel_rfl) (by kernel_rfl) (by intro _ _ _ h; exact h) (Or.inl ⟨by rfl, ?_⟩) hHeld ?_
          rotate_left
          · (intro w hSw; (try dsimp only at hSw); go_simp; try with_reducible rfl)
          try simp only [Act.put, List.setIfInBounds_toArray, List.set_cons_zero, List.set_cons_succ]
          refine wpAnyH_take (i := 5) (v := _) (by simp only [List.getElem?_toArray, List.getElem?_cons_zero, List.getElem?_cons_succ]; rfl) (by kernel_rfl) (by kernel_rfl) (by kernel_rfl) (by intro _ _ _ h; exact h) (yields_build (by rfl) 33 [(2, .const (.int .i64 255))] rfl [(2, .int .i64 255)] rfl (.agg (slC zK 0 255).toArray) (fun w => bS1 255 w)) hHeld ?_
          try simp only [Act.put, List.setIfInBounds_toArray, List.set_cons_zero, List.set_cons_succ]
          refine wpAnyH_take (i := 6) (v := _) (by simp only [List.getElem?_toArray, List.getElem?_cons_zero, List.getElem?_cons_succ]; rfl) (by kernel_rfl) (by kernel_rfl) (by kernel_rfl) (by intro _ _ _ h; exact h) (yields_build (by rfl) 35 [(0, .const (.int .i64 0)), (1, .tmp 27), (3, .tmp 28)] rfl [(0, .int .i64 0), (1, .int .i64 y), (3, .agg (slC zK 0 255).toArray)] rfl (.agg (dz 0 y 0 0 255).cells.toArray) (fun w => bD3 y 0 255 w)) hHeld ?_
          try simp only [Act.put, List.setIfInBounds_toArray, List.set_cons_zero, List.set_cons_succ]
          refine wpAnyH_take (i := 7) (v := ?_) (by simp only [List.getElem?_toArray, List.getElem?_cons_zero, List.getElem?_cons_succ]; rfl) (by kernel_rfl) (by kernel_rfl) (by kernel_rfl) (by intro _ _ _ h; exact h) (Or.inl ⟨by rfl, ?_⟩) hHeld ?_
          rotate_left
          · (intro w hSw; (try dsimp only at hSw); go_simp; try with_reducible rfl)
          try simp only [Act.put, List.setIfInBounds_toArray, List.set_cons_zero, List.set_cons_succ]
          refine wpAnyH_take (i := 8) (v := ?_) (by simp only [List.getElem?_toArray, List.getElem?_cons_zero, List.getElem?_cons_succ]; rfl) (by kernel_rfl) (by kernel_rfl) (by kernel_rfl) (by intro _ _ _ h; exact h) (Or.inl ⟨by rfl, ?_⟩) hHeld ?_
          rotate_left
          · (intro w hSw; (try dsimp only at hSw); go_simp; try with_reducible rfl)
          try simp only [Act.put, List.setIfInBounds_toArray, List.set_cons_zero, List.set_cons_succ]
          refine wpAnyH_take (i := 9) (v := ?_) (by simp only [List.getElem?_toArray, List.getElem?_cons_zero, List.getElem?_cons_succ]; rfl) (by kernel_rfl) (by kernel_rfl) (by kernel_rfl) (by intro _ _ _ h; exact h) (Or.inl ⟨by rfl, ?_⟩) hHeld ?_
          rotate_left
          · (intro w hSw; (try dsimp only at hSw); go_simp; try with_reducible rfl)
          try simp only [Act.put, List.setIfInBounds_toArray, List.set_cons_zero, List.set_cons_succ]
          refine wpAnyH_take (i := 10) (v := ?_) (by simp only [List.getElem?_toArray, List.getElem?_cons_zero, List.getElem?_cons_succ]; rfl) (by kernel_rfl) (by kernel_rfl) (by kernel_rfl) (by intro _ _ _ h; exact h) (Or.inl ⟨by rfl, ?_⟩) hHeld ?_
          rotate_left
          · (intro w hSw; (try dsimp only at hSw); go_simp; try with_reducible rfl)
          try simp only [Act.put, List.setIfInBounds_toArray, List.set_cons_zero, List.set_cons_succ]
          refine wpAnyH_take (i := 11) (v := ?_) (by simp only [List.getElem?_toArray, List.getElem?_cons_zero, List.getElem?_cons_succ]; rfl) (by kernel_rfl) (by kernel_rfl) (by kernel_rfl) (by intro _ _ _ h; exact h) (Or.inl ⟨by rfl, ?_⟩) hHeld ?_
          rotate_left
          · (intro w hSw; (try dsimp only at hSw); go_simp; try with_reducible rfl)
          try simp only [Act.put, List.setIfInBounds_toArray, List.set_cons_zero, List.set_cons_succ]
          refine wpAnyH_take (i := 12) (v := ?_) (by simp only [List.getElem?_toArray, List.getElem?_cons_zero, List.getElem?_cons_succ]; rfl) (by kernel_rfl) (by kernel_rfl) (by kernel_rfl) (by intro _ _ _ h; exact h) (Or.inl ⟨by rfl, ?_⟩) hHeld ?_
          rotate_left
          · (intro w hSw; (try dsimp only at hSw); go_simp; try with_reducible rfl)
          try simp only [Act.put, List.setIfInBounds_toArray, List.set_cons_zero, List.set_cons_succ]
          refine wpAnyH_take (i := 13) (v := ?_) (by simp only [List.getElem?_toArray, List.getElem?_cons_zero, List.getElem?_cons_succ]; rfl) (by kernel_rfl) (by kernel_rfl) (by kernel_rfl) (by intro _ _ _ h; exact h) (Or.inl ⟨by rfl, ?_⟩) hHeld ?_
          rotate_left
          · (intro w hSw; (try dsimp only at hSw); go_simp; try with_reducible rfl)
          try simp only [Act.put, List.setIfInBounds_toArray, List.set_cons_zero, List.set_cons_succ]
          refine wpAnyH_take (i := 14) (v := ?_) (by simp only [List.getElem?_toArray, List.getElem?_cons_zero, List.getElem?_cons_succ]; rfl) (by kernel_rfl) (by kernel_rfl) (by kernel_rfl) (by intro _ _ _ h; exact h) (Or.inl ⟨by rfl, ?_⟩) hHeld ?_
          rotate_left
          · (intro w hSw; (try dsimp only at hSw); go_simp; try with_reducible rfl)
          try simp only [Act.put, List.setIfInBounds_toArray, List.set_cons_zero, List.set_cons_succ]
          refine wpAnyH_take (i := 15) (v := _) (by simp only [List.getElem?_toArray, List.getElem?_cons_zero, List.getElem?_cons_succ]; rfl) (by kernel_rfl) (by kernel_rfl) (by kernel_rfl) (by intro _ _ _ h; exact h) (yields_build (by rfl) 35 [(0, .const (.int .i64 3)), (1, .tmp 33), (2, .tmp 37)] rfl [(0, .int .i64 3), (1, .int .i64 x), (2, .int .i64 y)] rfl (.agg (dz 3 x y 0 0).cells.toArray) (fun w => bD3b x y w)) hHeld ?_
          try simp only [Act.put, List.setIfInBounds_toArray, List.set_cons_zero, List.set_cons_succ]
          refine wpAnyH_take (i := 16) (v := ?_) (by simp only [List.getElem?_toArray, List.getElem?_cons_zero, List.getElem?_cons_succ]; rfl) (by kernel_rfl) (by kernel_rfl) (by kernel_rfl) (by intro _ _ _ h; exact h) (Or.inl ⟨by rfl, ?_⟩) hHeld ?_
          rotate_left
          · (intro w hSw; (try dsimp only at hSw); go_simp; try with_reducible rfl)
          try simp only [Act.put, List.setIfInBounds_toArray, List.set_cons_zero, List.set_cons_succ]
          refine wpAnyH_take (i := 17) (v := ?_) (by simp only [List.getElem?_toArray, List.getElem?_cons_zero, List.getElem?_cons_succ]; rfl) (by kernel_rfl) (by kernel_rfl) (by kernel_rfl) (by intro _ _ _ h; exact h) (Or.inl ⟨by rfl, ?_⟩) hHeld ?_
          rotate_left
          · (intro w hSw; (try dsimp only at hSw); go_simp; try with_reducible rfl)
          try simp only [Act.put, List.setIfInBounds_toArray, List.set_cons_zero, List.set_cons_succ]
          refine wpAnyH_take (i := 18) (v := ?_) (by simp only [List.getElem?_toArray, List.getElem?_cons_zero, List.getElem?_cons_succ]; rfl) (by kernel_rfl) (by kernel_rfl) (by kernel_rfl) (by intro _ _ _ h; exact h) (Or.inl ⟨by rfl, ?_⟩) hHeld ?_
          rotate_left
          · (intro w hSw; (try dsimp only at hSw); go_simp; try with_reducible rfl)
          try simp only [Act.put, List.setIfInBounds_toArray, List.set_cons_zero, List.set_cons_succ]
          refine wpAnyH_take (i := 19) (v := ?_) (by simp only [List.getElem?_toArray, List.getElem?_cons_zero, List.getElem?_cons_succ]; rfl) (by kernel_rfl) (by kernel_rfl) (by kernel_rfl) (by intro _ _ _ h; exact h) (Or.inl ⟨by rfl, ?_⟩) hHeld ?_
          rotate_left
          · (intro w hSw; (try dsimp only at hSw); go_simp; try with_reducible rfl)
          try simp only [Act.put, List.setIfInBounds_toArray, List.set_cons_zero, List.set_cons_succ]
          refine wpAnyH_take (i := 20) (v := _) (by simp only [List.getElem?_toArray, List.getElem?_cons_zero, List.getElem?_cons_succ]; rfl) (by kernel_rfl) (by kernel_rfl) (by kernel_rfl) (by intro _ _ _ h; exact h) (yields_build (by rfl) 35 [(0, .const (.int .i64 5)), (1, .tmp 42)] rfl [(0, .int .i64 5), (1, .int .i64 y)] rfl (.agg (dz 5 y 0 0 0).cells.toArray) (fun w => bD2 y w)) hHeld ?_
          try simp only [Act.put, List.setIfInBounds_toArray, List.set_cons_zero, List.set_cons_succ]
          refine wpAnyH_ready (rs := [21]) (by kernel_rfl) (by simp) ?_
          refine AllReadyH.cons (by simp only [List.getElem?_toArray, List.getElem?_cons_zero, List.getElem?_cons_succ]; rfl) (fun K hK => ?_) AllReadyH.nil
          rw [if_pos (by rfl)]
          refine wp_sliceK 22 35 3 37 _ rfl (fun i => (gA x y i).cells) ?_ i0 (.agg zDo.toArray) Tryz.underlying22 HI.out.1 HI.out.2.1 HI.out.2.2.1 (HLA.out x y) (Nat.succ_pos 36) (Nat.succ_pos 2) (by decide) ?_
          · kernel_rfl
          refine hK.out _ _ (HSS.out _ (CD.out.below.alloc CD.out.below.size _)) (fun hHeld => ?_)
          clear hK K
          try simp only [Act.put, List.setIfInBounds_toArray, List.set_cons_zero, List.set_cons_succ]
          have HOW : Hid ((wq.alloc (.cells (flatS (fun i => (gA x y i).cells) 3).toArray 35)).ownsRow w0.heap.size 35 37 (.slice A3 (3 * q) c3) (3 * q) (flatS (fun i => (F i).cells) (3 * q))) := Lib.hid (CD.out.row.alloc _)
          have HNW : Hid (∀ ad, (some ⟨wq.heap.size, 0, none⟩ : Option Addr) = some ad → ∀ j u, (flatS (fun i => (gA x y i).cells) 3)[j]? = some u → (wq.alloc (.cells (flatS (fun i => (gA x y i).cells) 3).toArray 35)).cell? (ad.add j) = some u) := Lib.hid fun ad e j u hj => by injection e with e; subst e; exact cells_new _ _ _ j u hj
          have HNN : Hid ((some ⟨wq.heap.size, 0, none⟩ : Option Addr) = none → 3 = 0 ∧ 3 = 0) := Lib.hid fun h => by cases h
          have HNL : Hid ((flatS (fun i => (gA x y i).cells) 3).length = 3 * 37) := Lib.hid (flatS_len (wideD (gA_ok HX.out HY.out)) 3)
          have HCO : Hid (∀ u ∈ flatS (fun i => (gA x y i).cells) 3, u.oneCell' = true) := Lib.hid (flatS_one fun i _ u hu => cells_one _ u hu)
          have HM : Hid (3 * q + 3 ≤ maxLen) := Lib.hid (by unfold maxLen; omega)
          have HBY : Hid ((3 * q + 3) * 72 ≤ 140737488355328) := Lib.hid (by omega)
          have HBA : Hid (w0.heap.size ≤ (wq.alloc (.cells (flatS (fun i => (gA x y i).cells) 3).toArray 35)).heap.size) := Lib.hid (by have := CD.out.below.size; simp; omega)
          refine wpAnyH_ready (rs := [22]) (by kernel_rfl) (by simp) ?_
          refine AllReadyH.cons (by simp only [List.getElem?_toArray, List.getElem?_cons_zero, List.getElem?_cons_succ]; rfl) (fun K hK => ?_) AllReadyH.nil
          rw [if_pos (by rfl)]
          refine wp_append_any (.tmp 23) (.tmp 44) 22 rfl w0.heap.size 35 i0 (.agg zDo.toArray) 37 72 Tryz.underlying22 HI.out.1 HI.out.2.1 HI.out.2.2.1 HI.out.2.2.2 rfl HP37.out (.slice A3 (3 * q) c3) (3 * q) (flatS (fun i => (F i).cells) (3 * q)) rfl HOW.out (some ⟨wq.heap.size, 0, none⟩) 3 3 (flatS (fun i => (gA x y i).cells) 3) rfl HNN.out HNL.out HNW.out HCO.out HM.out HBY.out HBA.out (fun v8 w8 ho8 hg8 => ?_)
          have HC8 := Lib.hid (CD.out.push (gA_ok HX.out HY.out) ho8 hg8)
          clear ho8 hg8
          refine hK.out _ _ (HSS.out _ HC8.out.below) (fun hHeld => ?_)
          clear hK K
          try simp only [Act.put, List.setIfInBounds_toArray, List.set_cons_zero, List.set_cons_succ]
          refine wpAnyH_take (i := 23) (v := ?_) (by simp only [List.getElem?_toArray, List.getElem?_cons_zero, List.getElem?_cons_succ]; rfl) (by kernel_rfl) (by kernel_rfl) (by kernel_rfl) (by intro _ _ _ h; exact h) (Or.inl ⟨by rfl, ?_⟩) hHeld ?_
          rotate_left
          · (intro w hSw; (try dsimp only at hSw); go_simp; try with_reducible rfl)
          try simp only [Act.put, List.setIfInBounds_toArray, List.set_cons_zero, List.set_cons_succ]
          refine wpAnyH_done (by kernel_rfl) ?_ _
          clear hHeld
          go_wp2_with fail
          exact ⟨⟨q + 1, by omega, by push_cast; rfl, _, by rw [Nat.mul_succ]; exact HC8.out⟩, by simp [Go.RowKit.intOf]; omega⟩
        · obtain rfl : q = 22 := by omega
          have CD := Lib.hid (C.out.go (w2 := wr.drew) (below_drewN (Below.refl _ _) 1))
          have HS1 : Hid (∀ w, Below w0.heap.size w0 w → (fun w' : World => w'.cell? ⟨W.heap.size, k, none⟩ = some (.int .i64 x)) w) := Lib.hid fun w h => NX.out w (D.out.go h)
          go_upto_region 10 with fail
          obtain ⟨wq, hwq⟩ : ∃ z, z = wr.drew := ⟨_, rfl⟩
          refine wp_region_held_drew (S := (fun w' : World => w'.cell? ⟨W.heap.size, k, none⟩ = some (.int .i64 x))) follows (HS1.out _ CD.out.below) (fun hHeld => ?_)
          rw [← hwq] at CD hHeld ⊢
          clear hwq C
          refine wpAnyH_take (i := 0) (v := ?_) (by simp only [List.getElem?_toArray, List.getElem?_cons_zero]; rfl) (by kernel_rfl) (by kernel_rfl) (by kernel_rfl) (by intro _ _ _ h; exact h) (Or.inl ⟨by rfl, ?_⟩) hHeld ?_
          rotate_left
          · (intro w hSw; (try dsimp only at hSw); go_simp; try with_reducible rfl)
          try simp only [Act.put, List.setIfInBounds_toArray, List.set_cons_zero, List.set_cons_succ]
          refine wpAnyH_take (i := 1) (v := ?_) (by simp only [List.getElem?_toArray, List.getElem?_cons_zero, List.getElem?_cons_succ]; rfl) (by kernel_rfl) (by kernel_rfl) (by kernel_rfl) (by intro _ _ _ h; exact h) (Or.inl ⟨by rfl, ?_⟩) hHeld ?_
          rotate_left
          · (intro w hSw; (try dsimp only at hSw); go_simp; try with_reducible rfl)
          try simp only [Act.put, List.setIfInBounds_toArray, List.set_cons_zero, List.set_cons_succ]
          refine wpAnyH_take (i := 2) (v := ?_) (by simp only [List.getElem?_toArray, List.getElem?_cons_zero, List.getElem?_cons_succ]; rfl) (by kernel_rfl) (by kernel_rfl) (by kernel_rfl) (by intro _ _ _ h; exact h) (Or.inl ⟨by rfl, ?_⟩) hHeld ?_
          rotate_left
          · (intro w hSw; (try dsimp only at hSw); go_simp; try with_reducible rfl)
          try simp only [Act.put, List.setIfInBounds_toArray, List.set_cons_zero, List.set_cons_succ]
          refine wpAnyH_take (i := 3) (v := ?_) (by simp only [List.getElem?_toArray, List.getElem?_cons_zero, List.getElem?_cons_succ]; rfl) (by kernel_rfl) (by kernel_rfl) (by kernel_rfl) (by intro _ _ _ h; exact h) (Or.inl ⟨by rfl, ?_⟩) hHeld ?_
          rotate_left
          · (intro w hSw; (try dsimp only at hSw); go_simp; try with_reducible rfl)
          try simp only [Act.put, List.setIfInBounds_toArray, List.set_cons_zero, List.set_cons_succ]
          refine wpAnyH_take (i := 4) (v := ?_) (by simp only [List.getElem?_toArray, List.getElem?_cons_zero, List.getElem?_cons_succ]; rfl) (by kernel_rfl) (by kernel_rfl) (by kernel_rfl) (by intro _ _ _ h; exact h) (Or.inl ⟨by rfl, ?_⟩) hHeld ?_
          rotate_left
          · (intro w hSw; (try dsimp only at hSw); go_simp; try with_reducible rfl)
          try simp only [Act.put, List.setIfInBounds_toArray, List.set_cons_zero, List.set_cons_succ]
          refine wpAnyH_ready (rs := [5]) (by kernel_rfl) (by simp) ?_
          refine AllReadyH.cons (by simp only [List.getElem?_toArray, List.getElem?_cons_zero, List.getElem?_cons_succ]; rfl) (fun K hK => ?_) AllReadyH.nil
          rw [if_pos (by rfl)]
          go_simp
          refine (lives3 x F A3 (3 * 22) c3 _ (fun i _ => CD.out.ok i) CD.out.sarr).mono ?_
          rintro e w5 ⟨rfl, hb⟩
          have C5 := Lib.hid (CD.out.go hb)
          clear hb CD
          refine hK.out _ _ (HS1.out _ C5.out.below) (fun hHeld => ?_)
          clear hK K
          try simp only [Act.put, List.setIfInBounds_toArray, List.set_cons_zero, List.set_cons_succ]
          refine wpAnyH_take (i := 6) (v := ?_) (by simp only [List.getElem?_toArray, List.getElem?_cons_zero, List.getElem?_cons_succ]; rfl) (by kernel_rfl) (by kernel_rfl) (by kernel_rfl) (by intro _ _ _ h; exact h) (Or.inl ⟨by rfl, ?_⟩) hHeld ?_
          rotate_left
          · (intro w hSw; (try dsimp only at hSw); go_simp; try with_reducible rfl)
          try simp only [Act.put, List.setIfInBounds_toArray, List.set_cons_zero, List.set_cons_succ]
          refine wpAnyH_take (i := 7) (v := ?_) (by simp only [List.getElem?_toArray, List.getElem?_cons_zero, List.getElem?_cons_succ]; rfl) (by kernel_rfl) (by kernel_rfl) (by kernel_rfl) (by intro _ _ _ h; exact h) (Or.inl ⟨by rfl, ?_⟩) hHeld ?_
          rotate_left
          · (intro w hSw; (try dsimp only at hSw); go_simp; try with_reducible rfl)
          try simp only [Act.put, List.setIfInBounds_toArray, List.set_cons_zero, List.set_cons_succ]
          refine wpAnyH_take (i := 8) (v := ?_) (by simp only [List.getElem?_toArray, List.getElem?_cons_zero, List.getElem?_cons_succ]; rfl) (by kernel_rfl) (by kernel_rfl) (by kernel_rfl) (by intro _ _ _ h; exact h) (Or.inl ⟨by rfl, ?_⟩) hHeld ?_
          rotate_left
          · (intro w hSw; (try dsimp only at hSw); go_simp; try with_reducible rfl)
          try simp only [Act.put, List.setIfInBounds_toArray, List.set_cons_zero, List.set_cons_succ]
          refine wpAnyH_ready (rs := [9]) (by kernel_rfl) (by simp) ?_
          refine AllReadyH.cons (by simp only [List.getElem?_toArray, List.getElem?_cons_zero, List.getElem?_cons_succ]; rfl) (fun K hK => ?_) AllReadyH.nil
          rw [if_pos (by rfl)]
          go_simp
          refine (lives3 3 F A3 (3 * 22) c3 _ (fun i _ => C5.out.ok i) C5.out.sarr).mono ?_
          rintro e w6 ⟨rfl, hb⟩
          have C6 := Lib.hid (C5.out.go hb)
          clear hb C5
          refine hK.out _ _ (HS1.out _ C6.out.below) (fun hHeld => ?_)
          clear hK K
          try simp only [Act.put, List.setIfInBounds_toArray, List.set_cons_zero, List.set_cons_succ]
          refine wpAnyH_take (i := 10) (v := ?_) (by simp only [List.getElem?_toArray, List.getElem?_cons_zero, List.getElem?_cons_succ]; rfl) (by kernel_rfl) (by kernel_rfl) (by kernel_rfl) (by intro _ _ _ h; exact h) (Or.inl ⟨by rfl, ?_⟩) hHeld ?_
          rotate_left
          · (intro w hSw; (try dsimp only at hSw); go_simp; try with_reducible rfl)
          try simp only [Act.put, List.setIfInBounds_toArray, List.set_cons_zero, List.set_cons_succ]
          refine wpAnyH_take (i := 11) (v := ?_) (by simp only [List.getElem?_toArray, List.getElem?_cons_zero, List.getElem?_cons_succ]; rfl) (by kernel_rfl) (by kernel_rfl) (by kernel_rfl) (by intro _ _ _ h; exact h) (Or.inl ⟨by rfl, ?_⟩) hHeld ?_
          rotate_left
          · (intro w hSw; (try dsimp only at hSw); go_simp; try with_reducible rfl)
          try simp only [Act.put, List.setIfInBounds_toArray, List.set_cons_zero, List.set_cons_succ]
          refine wpAnyH_take (i := 12) (v := ?_) (by simp only [List.getElem?_toArray, List.getElem?_cons_zero, List.getElem?_cons_succ]; rfl) (by kernel_rfl) (by kernel_rfl) (by kernel_rfl) (by intro _ _ _ h; exact h) (Or.inl ⟨by rfl, ?_⟩) hHeld ?_
          rotate_left
          · (intro w hSw; (try dsimp only at hSw); go_simp; try with_reducible rfl)
          try simp only [Act.put, List.setIfInBounds_toArray, List.set_cons_zero, List.set_cons_succ]
          refine wpAnyH_take (i := 13) (v := ?_) (by simp only [List.getElem?_toArray, List.getElem?_cons_zero, List.getElem?_cons_succ]; rfl) (by kernel_rfl) (by kernel_rfl) (by kernel_rfl) (by intro _ _ _ h; exact h) (Or.inl ⟨by rfl, ?_⟩) hHeld ?_
          rotate_left
          · (intro w hSw; (try dsimp only at hSw); go_simp; try with_reducible rfl)
          try simp only [Act.put, List.setIfInBounds_toArray, List.set_cons_zero, List.set_cons_succ]
          refine wpAnyH_take (i := 14) (v := ?_) (by simp only [List.getElem?_toArray, List.getElem?_cons_zero, List.getElem?_cons_succ]; rfl) (by kernel_rfl) (by kernel_rfl) (by kernel_rfl) (by intro _ _ _ h; exact h) (Or.inl ⟨by rfl, ?_⟩) hHeld ?_
          rotate_left
          · (intro w hSw; (try dsimp only at hSw); go_simp; try with_reducible rfl)
          try simp only [Act.put, List.setIfInBounds_toArray, List.set_cons_zero, List.set_cons_succ]
          refine wpAnyH_take (i := 15) (v := ?_) (by simp only [List.getElem?_toArray, List.getElem?_cons_zero, List.getElem?_cons_succ]; rfl) (by kernel_rfl) (by kernel_rfl) (by kernel_rfl) (by intro _ _ _ h; exact h) (Or.inl ⟨by rfl, ?_⟩) hHeld ?_
          rotate_left
          · (intro w hSw; (try dsimp only at hSw); go_simp; try with_reducible rfl)
          try simp only [Act.put, List.setIfInBounds_toArray, List.set_cons_zero, List.set_cons_succ]
          refine wpAnyH_take (i := 16) (v := ?_) (by simp only [List.getElem?_toArray, List.getElem?_cons_zero, List.getElem?_cons_succ]; rfl) (by kernel_rfl) (by kernel_rfl) (by kernel_rfl) (by intro _ _ _ h; exact h) (Or.inl ⟨by rfl, ?_⟩) hHeld ?_
          rotate_left
          · (intro w hSw; (try dsimp only at hSw); go_simp; try with_reducible rfl)
          try simp only [Act.put, List.setIfInBounds_toArray, List.set_cons_zero, List.set_cons_succ]
          refine wpAnyH_take (i := 17) (v := _) (by simp only [List.getElem?_toArray, List.getElem?_cons_zero, List.getElem?_cons_succ]; rfl) (by kernel_rfl) (by kernel_rfl) (by kernel_rfl) (by intro _ _ _ h; exact h) (yields_build (by rfl) 33 [(1, .tmp 62), (2, .const (.int .i64 1))] rfl [(1, .int .i64 x), (2, .int .i64 1)] rfl (.agg (slC zK x 1).toArray) (fun w => bS2 x 1 w)) hHeld ?_
          try simp only [Act.put, List.setIfInBounds_toArray, List.set_cons_zero, List.set_cons_succ]
          refine wpAnyH_take (i := 18) (v := _) (by simp only [List.getElem?_toArray, List.getElem?_cons_zero, List.getElem?_cons_succ]; rfl) (by kernel_rfl) (by kernel_rfl) (by kernel_rfl) (by intro _ _ _ h; exact h) (yields_build (by rfl) 35 [(0, .const (.int .i64 0)), (1, .const (.int .i64 0)), (2, .const (.int .i64 0)), (3, .tmp 63)] rfl [(0, .int .i64 0), (1, .int .i64 0), (2, .int .i64 0), (3, .agg (slC zK x 1).toArray)] rfl (.agg (dz 0 0 0 x 1).cells.toArray) (fun w => bD4 0 0 0 x 1 w)) hHeld ?_
          try simp only [Act.put, List.setIfInBounds_toArray, List.set_cons_zero, List.set_cons_succ]
          refine wpAnyH_take (i := 19) (v := ?_) (by simp only [List.getElem?_toArray, List.getElem?_cons_zero, List.getElem?_cons_succ]; rfl) (by kernel_rfl) (by kernel_rfl) (by kernel_rfl) (by intro _ _ _ h; exact h) (Or.inl ⟨by rfl, ?_⟩) hHeld ?_
          rotate_left
          · (intro w hSw; (try dsimp only at hSw); go_simp; try with_reducible rfl)
          try simp only [Act.put, List.setIfInBounds_toArray, List.set_cons_zero, List.set_cons_succ]
          refine wpAnyH_take (i := 20) (v := ?_) (by simp only [List.getElem?_toArray, List.getElem?_cons_zero, List.getElem?_cons_succ]; rfl) (by kernel_rfl) (by kernel_rfl) (by kernel_rfl) (by intro _ _ _ h; exact h) (Or.inl ⟨by rfl, ?_⟩) hHeld ?_
          rotate_left
          · (intro w hSw; (try dsimp only at hSw); go_simp; try with_reducible rfl)
          try simp only [Act.put, List.setIfInBounds_toArray, List.set_cons_zero, List.set_cons_succ]
          refine wpAnyH_take (i := 21) (v := ?_) (by simp only [List.getElem?_toArray, List.getElem?_cons_zero, List.getElem?_cons_succ]; rfl) (by kernel_rfl) (by kernel_rfl) (by kernel_rfl) (by intro _ _ _ h; exact h) (Or.inl ⟨by rfl, ?_⟩) hHeld ?_
          rotate_left
          · (intro w hSw; (try dsimp only at hSw); go_simp; try with_reducible rfl)
          try simp only [Act.put, List.setIfInBounds_toArray, List.set_cons_zero, List.set_cons_succ]
          refine wpAnyH_take (i := 22) (v := ?_) (by simp only [List.getElem?_toArray, List.getElem?_cons_zero, List.getElem?_cons_succ]; rfl) (by kernel_rfl) (by kernel_rfl) (by kernel_rfl) (by intro _ _ _ h; exact h) (Or.inl ⟨by rfl, ?_⟩) hHeld ?_
          rotate_left
          · (intro w hSw; (try dsimp only at hSw); go_simp; try with_reducible rfl)
          try simp only [Act.put, List.setIfInBounds_toArray, List.set_cons_zero, List.set_cons_succ]
          refine wpAnyH_take (i := 23) (v := _) (by simp only [List.getElem?_toArray, List.getElem?_cons_zero, List.getElem?_cons_succ]; rfl) (by kernel_rfl) (by kernel_rfl) (by kernel_rfl) (by intro _ _ _ h; exact h) (yields_build (by rfl) 33 [(2, .tmp 68)] rfl [(2, .int .i64 x)] rfl (.agg (slC zK 0 x).toArray) (fun w => bS1 x w)) hHeld ?_
          try simp only [Act.put, List.setIfInBounds_toArray, List.set_cons_zero, List.set_cons_succ]
          refine wpAnyH_take (i := 24) (v := _) (by simp only [List.getElem?_toArray, List.getElem?_cons_zero, List.getElem?_cons_succ]; rfl) (by kernel_rfl) (by kernel_rfl) (by kernel_rfl) (by intro _ _ _ h; exact h) (yields_build (by rfl) 35 [(0, .const (.int .i64 0)), (1, .const (.int .i64 1)), (2, .const (.int .i64 0)), (3, .tmp 69)] rfl [(0, .int .i64 0), (1, .int .i64 1), (2, .int .i64 0), (3, .agg (slC zK 0 x).toArray)] rfl (.agg (dz 0 1 0 0 x).cells.toArray) (fun w => bD4 0 1 0 0 x w)) hHeld ?_
          try simp only [Act.put, List.setIfInBounds_toArray, List.set_cons_zero, List.set_cons_succ]
          refine wpAnyH_take (i := 25) (v := ?_) (by simp only [List.getElem?_toArray, List.getElem?_cons_zero, List.getElem?_cons_succ]; rfl) (by kernel_rfl) (by kernel_rfl) (by kernel_rfl) (by intro _ _ _ h; exact h) (Or.inl ⟨by rfl, ?_⟩) hHeld ?_
          rotate_left
          · (intro w hSw; (try dsimp only at hSw); go_simp; try with_reducible rfl)
          try simp only [Act.put, List.setIfInBounds_toArray, List.set_cons_zero, List.set_cons_succ]
          refine wpAnyH_take (i := 26) (v := ?_) (by simp only [List.getElem?_toArray, List.getElem?_cons_zero, List.getElem?_cons_succ]; rfl) (by kernel_rfl) (by kernel_rfl) (by kernel_rfl) (by intro _ _ _ h; exact h) (Or.inl ⟨by rfl, ?_⟩) hHeld ?_
          rotate_left
          · (intro w hSw; (try dsimp only at hSw); go_simp; try with_reducible rfl)
          try simp only [Act.put, List.setIfInBounds_toArray, List.set_cons_zero, List.set_cons_succ]
          refine wpAnyH_take (i := 27) (v := ?_) (by simp only [List.getElem?_toArray, List.getElem?_cons_zero, List.getElem?_cons_succ]; rfl) (by kernel_rfl) (by kernel_rfl) (by kernel_rfl) (by intro _ _ _ h; exact h) (Or.inl ⟨by rfl, ?_⟩) hHeld ?_
          rotate_left
          · (intro w hSw; (try dsimp only at hSw); go_simp; try with_reducible rfl)
          try simp only [Act.put, List.setIfInBounds_toArray, List.set_cons_zero, List.set_cons_succ]
          refine wpAnyH_take (i := 28) (v := ?_) (by simp only [List.getElem?_toArray, List.getElem?_cons_zero, List.getElem?_cons_succ]; rfl) (by kernel_rfl) (by kernel_rfl) (by kernel_rfl) (by intro _ _ _ h; exact h) (Or.inl ⟨by rfl, ?_⟩) hHeld ?_
          rotate_left
          · (intro w hSw; (try dsimp only at hSw); go_simp; try with_reducible rfl)
          try simp only [Act.put, List.setIfInBounds_toArray, List.set_cons_zero, List.set_cons_succ]
          refine wpAnyH_take (i := 29) (v := _) (by simp only [List.getElem?_toArray, List.getElem?_cons_zero, List.getElem?_cons_succ]; rfl) (by kernel_rfl) (by kernel_rfl) (by kernel_rfl) (by intro _ _ _ h; exact h) (yields_build (by rfl) 33 [] rfl [] rfl (.agg (slC zK 0 0).toArray) (fun w => bS0 w)) hHeld ?_
          try simp only [Act.put, List.setIfInBounds_toArray, List.set_cons_zero, List.set_cons_succ]
          refine wpAnyH_take (i := 30) (v := _) (by simp only [List.getElem?_toArray, List.getElem?_cons_zero, List.getElem?_cons_succ]; rfl) (by kernel_rfl) (by kernel_rfl) (by kernel_rfl) (by intro _ _ _ h; exact h) (yields_build (by rfl) 35 [(0, .const (.int .i64 8)), (1, .tmp 74), (2, .const (.int .i64 0)), (3, .tmp 75)] rfl [(0, .int .i64 8), (1, .int .i64 x), (2, .int .i64 0), (3, .agg (slC zK 0 0).toArray)] rfl (.agg (dz 8 x 0 0 0).cells.toArray) (fun w => bD4 8 x 0 0 0 w)) hHeld ?_
          try simp only [Act.put, List.setIfInBounds_toArray, List.set_cons_zero, List.set_cons_succ]
          refine wpAnyH_take (i := 31) (v := ?_) (by simp only [List.getElem?_toArray, List.getElem?_cons_zero, List.getElem?_cons_succ]; rfl) (by kernel_rfl) (by kernel_rfl) (by kernel_rfl) (by intro _ _ _ h; exact h) (Or.inl ⟨by rfl, ?_⟩) hHeld ?_
          rotate_left
          · (intro w hSw; (try dsimp only at hSw); go_simp; try with_reducible rfl)
          try simp only [Act.put, List.setIfInBounds_toArray, List.set_cons_zero, List.set_cons_succ]
          refine wpAnyH_take (i := 32) (v := ?_) (by simp only [List.getElem?_toArray, List.getElem?_cons_zero, List.getElem?_cons_succ]; rfl) (by kernel_rfl) (by kernel_rfl) (by kernel_rfl) (by intro _ _ _ h; exact h) (Or.inl ⟨by rfl, ?_⟩) hHeld ?_
          rotate_left
          · (intro w hSw; (try dsimp only at hSw); go_simp; try with_reducible rfl)
          try simp only [Act.put, List.setIfInBounds_toArray, List.set_cons_zero, List.set_cons_succ]
          refine wpAnyH_take (i := 33) (v := ?_) (by simp only [List.getElem?_toArray, List.getElem?_cons_zero, List.getElem?_cons_succ]; rfl) (by kernel_rfl) (by kernel_rfl) (by kernel_rfl) (by intro _ _ _ h; exact h) (Or.inl ⟨by rfl, ?_⟩) hHeld ?_
          rotate_left
          · (intro w hSw; (try dsimp only at hSw); go_simp; try with_reducible rfl)
          try simp only [Act.put, List.setIfInBounds_toArray, List.set_cons_zero, List.set_cons_succ]
          refine wpAnyH_take (i := 34) (v := ?_) (by simp only [List.getElem?_toArray, List.getElem?_cons_zero, List.getElem?_cons_succ]; rfl) (by kernel_rfl) (by kernel_rfl) (by kernel_rfl) (by intro _ _ _ h; exact h) (Or.inl ⟨by rfl, ?_⟩) hHeld ?_
          rotate_left
          · (intro w hSw; (try dsimp only at hSw); go_simp; try with_reducible rfl)
          try simp only [Act.put, List.setIfInBounds_toArray, List.set_cons_zero, List.set_cons_succ]
          refine wpAnyH_take (i := 35) (v := _) (by simp only [List.getElem?_toArray, List.getElem?_cons_zero, List.getElem?_cons_succ]; rfl) (by kernel_rfl) (by kernel_rfl) (by kernel_rfl) (by intro _ _ _ h; exact h) (yields_build (by rfl) 33 [] rfl [] rfl (.agg (slC zK 0 0).toArray) (fun w => bS0 w)) hHeld ?_
          try simp only [Act.put, List.setIfInBounds_toArray, List.set_cons_zero, List.set_cons_succ]
          refine wpAnyH_take (i := 36) (v := _) (by simp only [List.getElem?_toArray, List.getElem?_cons_zero, List.getElem?_cons_succ]; rfl) (by kernel_rfl) (by kernel_rfl) (by kernel_rfl) (by intro _ _ _ h; exact h) (yields_build (by rfl) 35 [(0, .const (.int .i64 8)), (1, .const (.int .i64 0)), (2, .tmp 80), (3, .tmp 81)] rfl [(0, .int .i64 8), (1, .int .i64 0), (2, .int .i64 x), (3, .agg (slC zK 0 0).toArray)] rfl (.agg (dz 8 0 x 0 0).cells.toArray) (fun w => bD4 8 0 x 0 0 w)) hHeld ?_
          try simp only [Act.put, List.setIfInBounds_toArray, List.set_cons_zero, List.set_cons_succ]
          refine wpAnyH_take (i := 37) (v := ?_) (by simp only [List.getElem?_toArray, List.getElem?_cons_zero, List.getElem?_cons_succ]; rfl) (by kernel_rfl) (by kernel_rfl) (by kernel_rfl) (by intro _ _ _ h; exact h) (Or.inl ⟨by rfl, ?_⟩) hHeld ?_
          rotate_left
          · (intro w hSw; (try dsimp only at hSw); go_simp; try with_reducible rfl)
          try simp only [Act.put, List.setIfInBounds_toArray, List.set_cons_zero, List.set_cons_succ]
          refine wpAnyH_take (i := 38) (v := ?_) (by simp only [List.getElem?_toArray, List.getElem?_cons_zero, List.getElem?_cons_succ]; rfl) (by kernel_rfl) (by kernel_rfl) (by kernel_rfl) (by intro _ _ _ h; exact h) (Or.inl ⟨by rfl, ?_⟩) hHeld ?_
          rotate_left
          · (intro w hSw; (try dsimp only at hSw); go_simp; try with_reducible rfl)
          try simp only [Act.put, List.setIfInBounds_toArray, List.set_cons_zero, List.set_cons_succ]
          refine wpAnyH_take (i := 39) (v := ?_) (by simp only [List.getElem?_toArray, List.getElem?_cons_zero, List.getElem?_cons_succ]; rfl) (by kernel_rfl) (by kernel_rfl) (by kernel_rfl) (by intro _ _ _ h; exact h) (Or.inl ⟨by rfl, ?_⟩) hHeld ?_
          rotate_left
          · (intro w hSw; (try dsimp only at hSw); go_simp; try with_reducible rfl)
          try simp only [Act.put, List.setIfInBounds_toArray, List.set_cons_zero, List.set_cons_succ]
          refine wpAnyH_take (i := 40) (v := ?_) (by simp only [List.getElem?_toArray, List.getElem?_cons_zero, List.getElem?_cons_succ]; rfl) (by kernel_rfl) (by kernel_rfl) (by kernel_rfl) (by intro _ _ _ h; exact h) (Or.inl ⟨by rfl, ?_⟩) hHeld ?_
          rotate_left
          · (intro w hSw; (try dsimp only at hSw); go_simp; try with_reducible rfl)
          try simp only [Act.put, List.setIfInBounds_toArray, List.set_cons_zero, List.set_cons_succ]
          refine wpAnyH_take (i := 41) (v := _) (by simp only [List.getElem?_toArray, List.getElem?_cons_zero, List.getElem?_cons_succ]; rfl) (by kernel_rfl) (by kernel_rfl) (by kernel_rfl) (by intro _ _ _ h; exact h) (yields_build (by rfl) 33 [] rfl [] rfl (.agg (slC zK 0 0).toArray) (fun w => bS0 w)) hHeld ?_
          try simp only [Act.put, List.setIfInBounds_toArray, List.set_cons_zero, List.set_cons_succ]
          refine wpAnyH_take (i := 42) (v := _) (by simp only [List.getElem?_toArray, List.getElem?_cons_zero, List.getElem?_cons_succ]; rfl) (by kernel_rfl) (by kernel_rfl) (by kernel_rfl) (by intro _ _ _ h; exact h) (yields_build (by rfl) 35 [(0, .const (.int .i64 7)), (1, .tmp 86), (2, .const (.int .i64 0)), (3, .tmp 87)] rfl [(0, .int .i64 7), (1, .int .i64 x), (2, .int .i64 0), (3, .agg (slC zK 0 0).toArray)] rfl (.agg (dz 7 x 0 0 0).cells.toArray) (fun w => bD4 7 x 0 0 0 w)) hHeld ?_
          try simp only [Act.put, List.setIfInBounds_toArray, List.set_cons_zero, List.set_cons_succ]
          refine wpAnyH_take (i := 43) (v := ?_) (by simp only [List.getElem?_toArray, List.getElem?_cons_zero, List.getElem?_cons_succ]; rfl) (by kernel_rfl) (by kernel_rfl) (by kernel_rfl) (by intro _ _ _ h; exact h) (Or.inl ⟨by rfl, ?_⟩) hHeld ?_
          rotate_left
          · (intro w hSw; (try dsimp only at hSw); go_simp; try with_reducible rfl)
          try simp only [Act.put, List.setIfInBounds_toArray, List.set_cons_zero, List.set_cons_succ]
          refine wpAnyH_take (i := 44) (v := ?_) (by simp only [List.getElem?_toArray, List.getElem?_cons_zero, List.getElem?_cons_succ]; rfl) (by kernel_rfl) (by kernel_rfl) (by kernel_rfl) (by intro _ _ _ h; exact h) (Or.inl ⟨by rfl, ?_⟩) hHeld ?_
          rotate_left
          · (intro w hSw; (try dsimp only at hSw); go_simp; try with_reducible rfl)
          try simp only [Act.put, List.setIfInBounds_toArray, List.set_cons_zero, List.set_cons_succ]
          refine wpAnyH_take (i := 45) (v := ?_) (by simp only [List.getElem?_toArray, List.getElem?_cons_zero, List.getElem?_cons_succ]; rfl) (by kernel_rfl) (by kernel_rfl) (by kernel_rfl) (by intro _ _ _ h; exact h) (Or.inl ⟨by rfl, ?_⟩) hHeld ?_
          rotate_left
          · (intro w hSw; (try dsimp only at hSw); go_simp; try with_reducible rfl)
          try simp only [Act.put, List.setIfInBounds_toArray, List.set_cons_zero, List.set_cons_succ]
          refine wpAnyH_take (i := 46) (v := ?_) (by simp only [List.getElem?_toArray, List.getElem?_cons_zero, List.getElem?_cons_succ]; rfl) (by kernel_rfl) (by kernel_rfl) (by kernel_rfl) (by intro _ _ _ h; exact h) (Or.inl ⟨by rfl, ?_⟩) hHeld ?_
          rotate_left
          · (intro w hSw; (try dsimp only at hSw); go_simp; try with_reducible rfl)
          try simp only [Act.put, List.setIfInBounds_toArray, List.set_cons_zero, List.set_cons_succ]
          refine wpAnyH_take (i := 47) (v := _) (by simp only [List.getElem?_toArray, List.getElem?_cons_zero, List.getElem?_cons_succ]; rfl) (by kernel_rfl) (by kernel_rfl) (by kernel_rfl) (by intro _ _ _ h; exact h) (yields_build (by rfl) 33 [] rfl [] rfl (.agg (slC zK 0 0).toArray) (fun w => bS0 w)) hHeld ?_
          try simp only [Act.put, List.setIfInBounds_toArray, List.set_cons_zero, List.set_cons_succ]
          refine wpAnyH_take (i := 48) (v := _) (by simp only [List.getElem?_toArray, List.getElem?_cons_zero, List.getElem?_cons_succ]; rfl) (by kernel_rfl) (by kernel_rfl) (by kernel_rfl) (by intro _ _ _ h; exact h) (yields_build (by rfl) 35 [(0, .const (.int .i64 6)), (1, .tmp 92), (2, .const (.int .i64 0)), (3, .tmp 93)] rfl [(0, .int .i64 6), (1, .int .i64 x), (2, .int .i64 0), (3, .agg (slC zK 0 0).toArray)] rfl (.agg (dz 6 x 0 0 0).cells.toArray) (fun w => bD4 6 x 0 0 0 w)) hHeld ?_
          try simp only [Act.put, List.setIfInBounds_toArray, List.set_cons_zero, List.set_cons_succ]
          refine wpAnyH_ready (rs := [49]) (by kernel_rfl) (by simp) ?_
          refine AllReadyH.cons (by simp only [List.getElem?_toArray, List.getElem?_cons_zero, List.getElem?_cons_succ]; rfl) (fun K hK => ?_) AllReadyH.nil
          rw [if_pos (by rfl)]
          refine wp_sliceK 22 35 6 37 _ rfl (fun i => (gB x i).cells) ?_ i0 (.agg zDo.toArray) Tryz.underlying22 HI.out.1 HI.out.2.1 HI.out.2.2.1 (fun k _ => cells_len (gB_ok HX.out k)) (Nat.succ_pos 36) (Nat.succ_pos 5) (by decide) ?_
          · kernel_rfl
          have C7 := Lib.hid (C6.out.go ((Below.refl w6.heap.size w6).alloc (Nat.le_refl _) (.cells (flatS (fun i => (gB x i).cells) 6).toArray 35)))
          refine hK.out _ _ (HS1.out _ C7.out.below) (fun hHeld => ?_)
          clear hK K
          try simp only [Act.put, List.setIfInBounds_toArray, List.set_cons_zero, List.set_cons_succ]
          refine wpAnyH_ready (rs := [50]) (by kernel_rfl) (by simp) ?_
          refine AllReadyH.cons (by simp only [List.getElem?_toArray, List.getElem?_cons_zero, List.getElem?_cons_succ]; rfl) (fun K hK => ?_) AllReadyH.nil
          rw [if_pos (by rfl)]
          go_simp
          refine (lives3 3 (gB x) (some ⟨w6.heap.size, 0, none⟩) 6 6 _ (fun i _ => gB_ok HX.out i) (lit_sarr (gB_ok HX.out) (heap_new _ _))).mono ?_
          rintro e w7 ⟨rfl, hb⟩
          have C8 := Lib.hid (C7.out.go hb)
          clear hb C7 C6
          refine hK.out _ _ (HS1.out _ C8.out.below) (fun hHeld => ?_)
          clear hK K
          try simp only [Act.put, List.setIfInBounds_toArray, List.set_cons_zero, List.set_cons_succ]
          refine wpAnyH_take (i := 51) (v := ?_) (by simp only [List.getElem?_toArray, List.getElem?_cons_zero, List.getElem?_cons_succ]; rfl) (by kernel_rfl) (by kernel_rfl) (by kernel_rfl) (by intro _ _ _ h; exact h) (Or.inl ⟨by rfl, ?_⟩) hHeld ?_
          rotate_left
          · (intro w hSw; (try dsimp only at hSw); go_simp; try with_reducible rfl)
          try simp only [Act.put, List.setIfInBounds_toArray, List.set_cons_zero, List.set_cons_succ]
          refine wpAnyH_take (i := 52) (v := ?_) (by simp only [List.getElem?_toArray, List.getElem?_cons_zero, List.getElem?_cons_succ]; rfl) (by kernel_rfl) (by kernel_rfl) (by kernel_rfl) (by intro _ _ _ h; exact h) (Or.inl ⟨by rfl, ?_⟩) hHeld ?_
          rotate_left
          · (intro w hSw; (try dsimp only at hSw); go_simp; try with_reducible rfl)
          try simp only [Act.put, List.setIfInBounds_toArray, List.set_cons_zero, List.set_cons_succ]
          refine wpAnyH_done (by kernel_rfl) ?_ _
          clear hHeld
          go_wp2_with fail
          exact ⟨⟨k + 1, by omega, by push_cast; rfl, D.out.go C8.out.below⟩, by simp [Go.RowKit.intOf]; omega⟩
    · obtain rfl : k = 22 := by omega
      have HFT : Hid (0 + (slC k1 0 255).length ≤ zS.length) := Lib.hid (by rw [slC_len k1_ok.len, zS_len]; omega)
      have HLZ : Hid (zS.length = (slC k1 0 255).length) := Lib.hid (by rw [slC_len k1_ok.len, zS_len])
      have HK1 : Hid (∀ v ∈ slC k1 0 255, v.oneCell' = true) := Lib.hid (slC_one _ _ _)
      have HNB : Hid ((wr.alloc (.cells zS.toArray 33)).heap[wr.heap.size]? = some (.cells zS.toArray 33 (0, 0))) := Lib.hid (heap_new _ _)
      go_upto_region 13 with (first | (refine wpList_buildG rfl 31 [(0, .const (.int .u8 1))] rfl [(0, .int .u8 1)] rfl (.agg (u8l k1).toArray) (bK1 _) ?_) | (refine wpList_buildG rfl 33 [(0, .tmp 99), (2, .const (.int .i64 255))] rfl [(0, .agg (u8l k1).toArray), (2, .int .i64 255)] rfl (.agg (slC k1 0 255).toArray) (bKS _) ?_) | (refine wpList_laid rfl 33 rfl zS (zeroVS _) ?_) | (refine wpList_store_segK rfl 33 (.tmp 5) (.tmp 100) rfl wr.heap.size 0 rfl (slC k1 0 255) rfl zS 33 HNB.out sizeK1 HFT.out HK1.out rfl ?_; intro w2 h2 k2 s2))
      rw [splice_whole _ _ HLZ.out] at h2
      have hb6 : Below wr.heap.size wr (wr.alloc (.cells zS.toArray 33)) := (Below.refl _ _).alloc (Nat.le_refl _) _
      have X : Hid (BoxS W w2 wr.heap.size) := Lib.hid ⟨h2, D.out.below.trans ((hb6.trans (k2.below (fun k e => by rw [e]; exact Nat.le_refl _) hb6.size)).mono D.out.below.size)⟩
      obtain ⟨b, hb⟩ : ∃ b, b = wr.heap.size := ⟨_, rfl⟩
      rw [← hb] at X ⊢
      clear hb h2 k2 s2 hb6 D HFT HLZ HNB
      go_wp2_with fail
      go_loopw [6] (fun i wx => ∃ j : Nat, j ≤ 25 ∧ i = .int .i64 j ∧ BoxS W wx b) (fun i _ => 25 - (Go.RowKit.intOf i).toNat)
      case atStart => exact ⟨0, Nat.zero_le _, rfl, X.out⟩
      case round =>
        clear X
        obtain ⟨j, hj, rfl, hx⟩ := hrel
        have X := Lib.hid hx
        clear hx
        by_cases hlj : j < 25
        · have j1 : (0 : Int) ≤ j := by omega
          have j2 : (j : Int) < 25 := by omega
          go_wp2_with fail
          go_loopw [7] (fun i wx => ∃ z : Nat, z ≤ 26 - j ∧ i = .int .i64 z ∧ BoxS W wx b) (fun i _ => 26 - j - (Go.RowKit.intOf i).toNat)
          case atStart => exact ⟨0, Nat.zero_le _, rfl, X.out⟩
          case round =>
            clear X
            obtain ⟨z, hz, rfl, hx⟩ := hrel
            have X := Lib.hid hx
            clear hx
            by_cases hlz : z < 26 - j
            · have z1 : (0 : Int) ≤ z := by omega
              have z2 : (z : Int) < 26 - (j : Int) := by omega
              have RB := Lib.hid (range_of X.out.s)
              have HGO : Hid (∀ i, OkDo (gC j z i)) := Lib.hid (gC_ok (wf_i64 (by omega)) (wf_i64 (by omega)))
              have HGL : Hid (∀ k, k < 5 → ((gC j z k).cells).length = 37) := Lib.hid fun k _ => cells_len (HGO.out k)
              have HN24 : Hid (5 * 37 ≤ 2 ^ 24) := Lib.hid (by decide)
              go_upto_region 19 with fail
              go_step
              repeat ((fail_if_success (refine wpList_load_midG rfl 33 (.tmp 5) rfl b 0 rfl (slC k1 0 255) _ RB.out Tryz.underlying33 rfl sizeK1 ?_)); go_step)
              refine wpList_load_midG rfl 33 (.tmp 5) rfl b 0 rfl (slC k1 0 255) _ RB.out Tryz.underlying33 rfl sizeK1 ?_
              try simp only [Act.put, List.setIfInBounds_toArray, List.set_cons_zero, List.set_cons_succ]
              repeat ((fail_if_success (refine wpList_buildG rfl 35 [(0, .const (.int .i64 0)), (1, .const (.int .i64 0)), (2, .const (.int .i64 0)), (3, .tmp 111)] rfl [(0, .int .i64 0), (1, .int .i64 0), (2, .int .i64 0), (3, .agg (slC k1 0 255).toArray)] rfl (.agg (dk 0 0 0).cells.toArray) (bD4k 0 0 0 _) ?_)); go_step)
              refine wpList_buildG rfl 35 [(0, .const (.int .i64 0)), (1, .const (.int .i64 0)), (2, .const (.int .i64 0)), (3, .tmp 111)] rfl [(0, .int .i64 0), (1, .int .i64 0), (2, .int .i64 0), (3, .agg (slC k1 0 255).toArray)] rfl (.agg (dk 0 0 0).cells.toArray) (bD4k 0 0 0 _) ?_
              try simp only [Act.put, List.setIfInBounds_toArray, List.set_cons_zero, List.set_cons_succ]
              repeat ((fail_if_success (refine wpList_load_midG rfl 33 (.tmp 5) rfl b 0 rfl (slC k1 0 255) _ RB.out Tryz.underlying33 rfl sizeK1 ?_)); go_step)
              refine wpList_load_midG rfl 33 (.tmp 5) rfl b 0 rfl (slC k1 0 255) _ RB.out Tryz.underlying33 rfl sizeK1 ?_
              try simp only [Act.put, List.setIfInBounds_toArray, List.set_cons_zero, List.set_cons_succ]
              repeat ((fail_if_success (refine wpList_buildG rfl 35 [(0, .const (.int .i64 0)), (1, .const (.int .i64 1)), (2, .const (.int .i64 0)), (3, .tmp 113)] rfl [(0, .int .i64 0), (1, .int .i64 1), (2, .int .i64 0), (3, .agg (slC k1 0 255).toArray)] rfl (.agg (dk 0 1 0).cells.toArray) (bD4k 0 1 0 _) ?_)); go_step)
              refine wpList_buildG rfl 35 [(0, .const (.int .i64 0)), (1, .const (.int .i64 1)), (2, .const (.int .i64 0)), (3, .tmp 113)] rfl [(0, .int .i64 0), (1, .int .i64 1), (2, .int .i64 0), (3, .agg (slC k1 0 255).toArray)] rfl (.agg (dk 0 1 0).cells.toArray) (bD4k 0 1 0 _) ?_
              try simp only [Act.put, List.setIfInBounds_toArray, List.set_cons_zero, List.set_cons_succ]
              repeat ((fail_if_success (refine wpList_buildG rfl 33 [(2, .const (.int .i64 90))] rfl [(2, .int .i64 90)] rfl (.agg (slC zK 0 90).toArray) (bS1 90 _) ?_)); go_step)
              refine wpList_buildG rfl 33 [(2, .const (.int .i64 90))] rfl [(2, .int .i64 90)] rfl (.agg (slC zK 0 90).toArray) (bS1 90 _) ?_
              try simp only [Act.put, List.setIfInBounds_toArray, List.set_cons_zero, List.set_cons_succ]
              repeat ((fail_if_success (refine wpList_buildG rfl 35 [(0, .const (.int .i64 0)), (1, .const (.int .i64 2)), (2, .const (.int .i64 0)), (3, .tmp 115)] rfl [(0, .int .i64 0), (1, .int .i64 2), (2, .int .i64 0), (3, .agg (slC zK 0 90).toArray)] rfl (.agg (dz 0 2 0 0 90).cells.toArray) (bD4 0 2 0 0 90 _) ?_)); go_step)
              refine wpList_buildG rfl 35 [(0, .const (.int .i64 0)), (1, .const (.int .i64 2)), (2, .const (.int .i64 0)), (3, .tmp 115)] rfl [(0, .int .i64 0), (1, .int .i64 2), (2, .int .i64 0), (3, .agg (slC zK 0 90).toArray)] rfl (.agg (dz 0 2 0 0 90).cells.toArray) (bD4 0 2 0 0 90 _) ?_
              try simp only [Act.put, List.setIfInBounds_toArray, List.set_cons_zero, List.set_cons_succ]
              repeat ((fail_if_success (refine wpList_load_midG rfl 33 (.tmp 5) rfl b 0 rfl (slC k1 0 255) _ RB.out Tryz.underlying33 rfl sizeK1 ?_)); go_step)
              refine wpList_load_midG rfl 33 (.tmp 5) rfl b 0 rfl (slC k1 0 255) _ RB.out Tryz.underlying33 rfl sizeK1 ?_
              try simp only [Act.put, List.setIfInBounds_toArray, List.set_cons_zero, List.set_cons_succ]
              repeat ((fail_if_success (refine wpList_buildG rfl 35 [(0, .const (.int .i64 3)), (1, .tmp 117), (2, .tmp 118), (3, .tmp 119)] rfl [(0, .int .i64 3), (1, .int .i64 j), (2, .int .i64 z), (3, .agg (slC k1 0 255).toArray)] rfl (.agg (dk 3 j z).cells.toArray) (bD4k 3 j z _) ?_)); go_step)
              refine wpList_buildG rfl 35 [(0, .const (.int .i64 3)), (1, .tmp 117), (2, .tmp 118), (3, .tmp 119)] rfl [(0, .int .i64 3), (1, .int .i64 j), (2, .int .i64 z), (3, .agg (slC k1 0 255).toArray)] rfl (.agg (dk 3 j z).cells.toArray) (bD4k 3 j z _) ?_
              try simp only [Act.put, List.setIfInBounds_toArray, List.set_cons_zero, List.set_cons_succ]
              repeat ((fail_if_success (refine wpList_load_midG rfl 33 (.tmp 5) rfl b 0 rfl (slC k1 0 255) _ RB.out Tryz.underlying33 rfl sizeK1 ?_)); go_step)
              refine wpList_load_midG rfl 33 (.tmp 5) rfl b 0 rfl (slC k1 0 255) _ RB.out Tryz.underlying33 rfl sizeK1 ?_
              try simp only [Act.put, List.setIfInBounds_toArray, List.set_cons_zero, List.set_cons_succ]
              repeat ((fail_if_success (refine wpList_buildG rfl 35 [(0, .const (.int .i64 3)), (1, .const (.int .i64 4)), (2, .const (.int .i64 13)), (3, .tmp 121)] rfl [(0, .int .i64 3), (1, .int .i64 4), (2, .int .i64 13), (3, .agg (slC k1 0 255).toArray)] rfl (.agg (dk 3 4 13).cells.toArray) (bD4k 3 4 13 _) ?_)); go_step)
              refine wpList_buildG rfl 35 [(0, .const (.int .i64 3)), (1, .const (.int .i64 4)), (2, .const (.int .i64 13)), (3, .tmp 121)] rfl [(0, .int .i64 3), (1, .int .i64 4), (2, .int .i64 13), (3, .agg (slC k1 0 255).toArray)] rfl (.agg (dk 3 4 13).cells.toArray) (bD4k 3 4 13 _) ?_
              try simp only [Act.put, List.setIfInBounds_toArray, List.set_cons_zero, List.set_cons_succ]
              repeat ((fail_if_success (refine wpList_sliceK rfl 22 35 5 37 _ rfl (fun i => (gC j z i).cells) ?_ i0 (.agg zDo.toArray) Tryz.underlying22 HI.out.1 HI.out.2.1 HI.out.2.2.1 HGL.out (Nat.succ_pos 36) (Nat.succ_pos 4) HN24.out ?_)); go_step)
              refine wpList_sliceK rfl 22 35 5 37 _ rfl (fun i => (gC j z i).cells) ?_ i0 (.agg zDo.toArray) Tryz.underlying22 HI.out.1 HI.out.2.1 HI.out.2.2.1 HGL.out (Nat.succ_pos 36) (Nat.succ_pos 4) HN24.out ?_
              · kernel_rfl
              try simp only [Act.put, List.setIfInBounds_toArray, List.set_cons_zero, List.set_cons_succ]
              have HSA : Hid (SArr (wr.alloc (.cells (flatS (fun i => (gC j z i).cells) 5).toArray 35)) (wr.alloc (.cells (flatS (fun i => (gC j z i).cells) 5).toArray 35)).heap.size (some ⟨wr.heap.size, 0, none⟩) 5 37 fun i => (gC j z i).cells) := Lib.hid (lit_sarr HGO.out (heap_new _ _))
              go_wp2_with fail
              refine (lives3 3 (gC j z) (some ⟨wr.heap.size, 0, none⟩) 5 5 (wr.alloc (.cells (flatS (fun i => (gC j z i).cells) 5).toArray 35)) (fun i _ => HGO.out i) HSA.out).mono ?_
              rintro e w5 ⟨rfl, hb⟩
              have X5 := Lib.hid (X.out.go (((Below.refl _ _).alloc (Nat.le_refl _) _).trans (hb.mono (by simp))))
              clear hb
              go_wp2_with fail
              exact ⟨⟨z + 1, by omega, by push_cast; rfl, X5.out⟩, by simp [Go.RowKit.intOf]; omega⟩
            · obtain rfl : z = 26 - j := by omega
              have z3 : ((26 - j : Nat) : Int) = 26 - (j : Int) := by omega
              rw [z3]
              go_wp2_with fail
              exact ⟨⟨j + 1, by omega, by push_cast; rfl, X.out⟩, by simp [Go.RowKit.intOf]; omega⟩
        · obtain rfl : j = 25 := by omega
          obtain ⟨w0, hw0⟩ : ∃ z, z = wr := ⟨_, rfl⟩
          subst hw0
          have C0 : Hid (∃ F, ColF w0 w0 (.slice none 0 0) (2 * 0) F) := Lib.hid ⟨_, ColF.start w0⟩
          go_wp2_with fail
          go_loopw [8, 9] (fun v i wx => ∃ q : Nat, q ≤ 10 ∧ i = .int .i64 q ∧ ∃ F, ColF w0 wx v (2 * q) F) (fun _ i _ => 10 - (Go.RowKit.intOf i).toNat)
          case atStart => exact ⟨0, Nat.zero_le _, rfl, C0.out⟩
          case round =>
            clear C0
            obtain ⟨q, hq, rfl, F, hc⟩ := hrel
            have C := Lib.hid hc
            obtain ⟨A3, c3, rfl⟩ := row_shapeS hc.row
            clear hc
            have RB := Lib.hid (range_of (X.out.go C.out.below).s)
            by_cases hlq : q < 10
            · have q1 : (0 : Int) ≤ q := by omega
              have q2 : (q : Int) < 10 := by omega
              have HGO : Hid (∀ i, OkDo (gD q (100 - 7 * (q : Int)) i)) := Lib.hid (gD_ok (wf_i64 (by omega)) (wf_i64 (by omega)))
              have HOW : Hid ((wr.alloc (.cells (flatS (fun i => (gD q (100 - 7 * (q : Int)) i).cells) 2).toArray 35)).ownsRow w0.heap.size 35 37 (.slice A3 (2 * q) c3) (2 * q) (flatS (fun i => (F i).cells) (2 * q))) := Lib.hid (C.out.row.alloc _)
              have HNW : Hid (∀ ad, (some ⟨wr.heap.size, 0, none⟩ : Option Addr) = some ad → ∀ j u, (flatS (fun i => (gD q (100 - 7 * (q : Int)) i).cells) 2)[j]? = some u → (wr.alloc (.cells (flatS (fun i => (gD q (100 - 7 * (q : Int)) i).cells) 2).toArray 35)).cell? (ad.add j) = some u) := Lib.hid fun ad e j u hj => by injection e with e; subst e; exact cells_new _ _ _ j u hj
              have HNN : Hid ((some ⟨wr.heap.size, 0, none⟩ : Option Addr) = none → 2 = 0 ∧ 2 = 0) := Lib.hid fun h => by cases h
              have HNL : Hid ((flatS (fun i => (gD q (100 - 7 * (q : Int)) i).cells) 2).length = 2 * 37) := Lib.hid (flatS_len (wideD HGO.out) 2)
              have HCO : Hid (∀ u ∈ (flatS (fun i => (gD q (100 - 7 * (q : Int)) i).cells) 2), u.oneCell' = true) := Lib.hid (flatS_one fun i _ u hu => cells_one _ u hu)
              have HM : Hid ((2 * q) + 2 ≤ maxLen) := Lib.hid (by unfold maxLen; omega)
              have HBY : Hid (((2 * q) + 2) * 72 ≤ 140737488355328) := Lib.hid (by omega)
              have HBA : Hid (w0.heap.size ≤ (wr.alloc (.cells (flatS (fun i => (gD q (100 - 7 * (q : Int)) i).cells) 2).toArray 35)).heap.size) := Lib.hid (by have := C.out.below.size; simp; omega)
              have HGL : Hid (∀ k, k < 2 → ((gD q (100 - 7 * (q : Int)) k).cells).length = 37) := Lib.hid fun k _ => cells_len (HGO.out k)
              have HN24 : Hid (2 * 37 ≤ 2 ^ 24) := Lib.hid (by decide)
              go_upto_region 25 with fail
              go_step
              repeat ((fail_if_success (refine wpList_load_midG rfl 33 (.tmp 5) rfl b 0 rfl (slC k1 0 255) _ RB.out Tryz.underlying33 rfl sizeK1 ?_)); go_step)
              refine wpList_load_midG rfl 33 (.tmp 5) rfl b 0 rfl (slC k1 0 255) _ RB.out Tryz.underlying33 rfl sizeK1 ?_
              try simp only [Act.put, List.setIfInBounds_toArray, List.set_cons_zero, List.set_cons_succ]
              repeat ((fail_if_success (refine wpList_buildG rfl 35 [(0, .const (.int .i64 0)), (1, .tmp 131), (2, .const (.int .i64 0)), (3, .tmp 132)] rfl [(0, .int .i64 0), (1, .int .i64 q), (2, .int .i64 0), (3, .agg (slC k1 0 255).toArray)] rfl (.agg (dk 0 q 0).cells.toArray) (bD4k 0 q 0 _) ?_)); go_step)
              refine wpList_buildG rfl 35 [(0, .const (.int .i64 0)), (1, .tmp 131), (2, .const (.int .i64 0)), (3, .tmp 132)] rfl [(0, .int .i64 0), (1, .int .i64 q), (2, .int .i64 0), (3, .agg (slC k1 0 255).toArray)] rfl (.agg (dk 0 q 0).cells.toArray) (bD4k 0 q 0 _) ?_
              try simp only [Act.put, List.setIfInBounds_toArray, List.set_cons_zero, List.set_cons_succ]
              repeat ((fail_if_success (refine wpList_load_midG rfl 33 (.tmp 5) rfl b 0 rfl (slC k1 0 255) _ RB.out Tryz.underlying33 rfl sizeK1 ?_)); go_step)
              refine wpList_load_midG rfl 33 (.tmp 5) rfl b 0 rfl (slC k1 0 255) _ RB.out Tryz.underlying33 rfl sizeK1 ?_
              try simp only [Act.put, List.setIfInBounds_toArray, List.set_cons_zero, List.set_cons_succ]
              repeat ((fail_if_success (refine wpList_buildG rfl 35 [(0, .const (.int .i64 5)), (1, .tmp 136), (2, .const (.int .i64 0)), (3, .tmp 137)] rfl [(0, .int .i64 5), (1, .int .i64 (100 - 7 * (q : Int))), (2, .int .i64 0), (3, .agg (slC k1 0 255).toArray)] rfl (.agg (dk 5 (100 - 7 * (q : Int)) 0).cells.toArray) (bD4k 5 (100 - 7 * (q : Int)) 0 _) ?_)); go_step)
              refine wpList_buildG rfl 35 [(0, .const (.int .i64 5)), (1, .tmp 136), (2, .const (.int .i64 0)), (3, .tmp 137)] rfl [(0, .int .i64 5), (1, .int .i64 (100 - 7 * (q : Int))), (2, .int .i64 0), (3, .agg (slC k1 0 255).toArray)] rfl (.agg (dk 5 (100 - 7 * (q : Int)) 0).cells.toArray) (bD4k 5 (100 - 7 * (q : Int)) 0 _) ?_
              try simp only [Act.put, List.setIfInBounds_toArray, List.set_cons_zero, List.set_cons_succ]
              repeat ((fail_if_success (refine wpList_sliceK rfl 22 35 2 37 _ rfl (fun i => (gD q (100 - 7 * (q : Int)) i).cells) ?_ i0 (.agg zDo.toArray) Tryz.underlying22 HI.out.1 HI.out.2.1 HI.out.2.2.1 HGL.out (Nat.succ_pos 36) (Nat.succ_pos 1) HN24.out ?_)); go_step)
              refine wpList_sliceK rfl 22 35 2 37 _ rfl (fun i => (gD q (100 - 7 * (q : Int)) i).cells) ?_ i0 (.agg zDo.toArray) Tryz.underlying22 HI.out.1 HI.out.2.1 HI.out.2.2.1 HGL.out (Nat.succ_pos 36) (Nat.succ_pos 1) HN24.out ?_
              · kernel_rfl
              try simp only [Act.put, List.setIfInBounds_toArray, List.set_cons_zero, List.set_cons_succ]
              repeat ((fail_if_success (refine wpList_append_any rfl (.tmp 130) (.tmp 139) 22 rfl w0.heap.size 35 i0 (.agg zDo.toArray) 37 72 Tryz.underlying22 HI.out.1 HI.out.2.1 HI.out.2.2.1 HI.out.2.2.2 rfl HP37.out (.slice A3 (2 * q) c3) (2 * q) (flatS (fun i => (F i).cells) (2 * q)) rfl HOW.out (some ⟨wr.heap.size, 0, none⟩) 2 2 (flatS (fun i => (gD q (100 - 7 * (q : Int)) i).cells) 2) rfl HNN.out HNL.out HNW.out HCO.out HM.out HBY.out HBA.out ?_)); go_step)
              refine wpList_append_any rfl (.tmp 130) (.tmp 139) 22 rfl w0.heap.size 35 i0 (.agg zDo.toArray) 37 72 Tryz.underlying22 HI.out.1 HI.out.2.1 HI.out.2.2.1 HI.out.2.2.2 rfl HP37.out (.slice A3 (2 * q) c3) (2 * q) (flatS (fun i => (F i).cells) (2 * q)) rfl HOW.out (some ⟨wr.heap.size, 0, none⟩) 2 2 (flatS (fun i => (gD q (100 - 7 * (q : Int)) i).cells) 2) rfl HNN.out HNL.out HNW.out HCO.out HM.out HBY.out HBA.out ?_
              intro v8 w8 ho8 hg8
              obtain ⟨A8, c8, rfl⟩ := row_shapeS ho8
              try simp only [Act.put, List.setIfInBounds_toArray, List.set_cons_zero, List.set_cons_succ]
              have HC8 := Lib.hid (C.out.push HGO.out ho8 hg8)
              clear ho8 hg8
              go_wp2_with fail
              exact ⟨⟨q + 1, by omega, by push_cast; rfl, _, by rw [Nat.mul_succ]; exact HC8.out⟩, by simp [Go.RowKit.intOf]; omega⟩
            · obtain rfl : q = 10 := by omega
              have HGO : Hid (∀ i, OkDo (gE i)) := Lib.hid gE_ok
              have HOW : Hid ((wr.alloc (.cells (flatS (fun i => (gE i).cells) 5).toArray 35)).ownsRow w0.heap.size 35 37 (.slice A3 (2 * 10) c3) (2 * 10) (flatS (fun i => (F i).cells) (2 * 10))) := Lib.hid (C.out.row.alloc _)
              have HNW : Hid (∀ ad, (some ⟨wr.heap.size, 0, none⟩ : Option Addr) = some ad → ∀ j u, (flatS (fun i => (gE i).cells) 5)[j]? = some u → (wr.alloc (.cells (flatS (fun i => (gE i).cells) 5).toArray 35)).cell? (ad.add j) = some u) := Lib.hid fun ad e j u hj => by injection e with e; subst e; exact cells_new _ _ _ j u hj
              have HNN : Hid ((some ⟨wr.heap.size, 0, none⟩ : Option Addr) = none → 5 = 0 ∧ 5 = 0) := Lib.hid fun h => by cases h
              have HNL : Hid ((flatS (fun i => (gE i).cells) 5).length = 5 * 37) := Lib.hid (flatS_len (wideD HGO.out) 5)
              have HCO : Hid (∀ u ∈ (flatS (fun i => (gE i).cells) 5), u.oneCell' = true) := Lib.hid (flatS_one fun i _ u hu => cells_one _ u hu)
              have HM : Hid ((2 * 10) + 5 ≤ maxLen) := Lib.hid (by unfold maxLen; omega)
              have HBY : Hid (((2 * 10) + 5) * 72 ≤ 140737488355328) := Lib.hid (by omega)
              have HBA : Hid (w0.heap.size ≤ (wr.alloc (.cells (flatS (fun i => (gE i).cells) 5).toArray 35)).heap.size) := Lib.hid (by have := C.out.below.size; simp; omega)
              have HGL : Hid (∀ k, k < 5 → ((gE k).cells).length = 37) := Lib.hid fun k _ => cells_len (HGO.out k)
              have HN24 : Hid (5 * 37 ≤ 2 ^ 24) := Lib.hid (by decide)
              go_upto_region 26 with fail
              go_step
              repeat ((fail_if_success (refine wpList_load_midG rfl 33 (.tmp 5) rfl b 0 rfl (slC k1 0 255) _ RB.out Tryz.underlying33 rfl sizeK1 ?_)); go_step)
              refine wpList_load_midG rfl 33 (.tmp 5) rfl b 0 rfl (slC k1 0 255) _ RB.out Tryz.underlying33 rfl sizeK1 ?_
              try simp only [Act.put, List.setIfInBounds_toArray, List.set_cons_zero, List.set_cons_succ]
              repeat ((fail_if_success (refine wpList_buildG rfl 35 [(0, .const (.int .i64 5)), (1, .const (.int .i64 100)), (2, .const (.int .i64 0)), (3, .tmp 142)] rfl [(0, .int .i64 5), (1, .int .i64 100), (2, .int .i64 0), (3, .agg (slC k1 0 255).toArray)] rfl (.agg (dk 5 100 0).cells.toArray) (bD4k 5 100 0 _) ?_)); go_step)
              refine wpList_buildG rfl 35 [(0, .const (.int .i64 5)), (1, .const (.int .i64 100)), (2, .const (.int .i64 0)), (3, .tmp 142)] rfl [(0, .int .i64 5), (1, .int .i64 100), (2, .int .i64 0), (3, .agg (slC k1 0 255).toArray)] rfl (.agg (dk 5 100 0).cells.toArray) (bD4k 5 100 0 _) ?_
              try simp only [Act.put, List.setIfInBounds_toArray, List.set_cons_zero, List.set_cons_succ]
              repeat ((fail_if_success (refine wpList_load_midG rfl 33 (.tmp 5) rfl b 0 rfl (slC k1 0 255) _ RB.out Tryz.underlying33 rfl sizeK1 ?_)); go_step)
              refine wpList_load_midG rfl 33 (.tmp 5) rfl b 0 rfl (slC k1 0 255) _ RB.out Tryz.underlying33 rfl sizeK1 ?_
              try simp only [Act.put, List.setIfInBounds_toArray, List.set_cons_zero, List.set_cons_succ]
              repeat ((fail_if_success (refine wpList_buildG rfl 35 [(0, .const (.int .i64 6)), (1, .const (.int .i64 72)), (2, .const (.int .i64 0)), (3, .tmp 144)] rfl [(0, .int .i64 6), (1, .int .i64 72), (2, .int .i64 0), (3, .agg (slC k1 0 255).toArray)] rfl (.agg (dk 6 72 0).cells.toArray) (bD4k 6 72 0 _) ?_)); go_step)
              refine wpList_buildG rfl 35 [(0, .const (.int .i64 6)), (1, .const (.int .i64 72)), (2, .const (.int .i64 0)), (3, .tmp 144)] rfl [(0, .int .i64 6), (1, .int .i64 72), (2, .int .i64 0), (3, .agg (slC k1 0 255).toArray)] rfl (.agg (dk 6 72 0).cells.toArray) (bD4k 6 72 0 _) ?_
              try simp only [Act.put, List.setIfInBounds_toArray, List.set_cons_zero, List.set_cons_succ]
              repeat ((fail_if_success (refine wpList_load_midG rfl 33 (.tmp 5) rfl b 0 rfl (slC k1 0 255) _ RB.out Tryz.underlying33 rfl sizeK1 ?_)); go_step)
              refine wpList_load_midG rfl 33 (.tmp 5) rfl b 0 rfl (slC k1 0 255) _ RB.out Tryz.underlying33 rfl sizeK1 ?_
              try simp only [Act.put, List.setIfInBounds_toArray, List.set_cons_zero, List.set_cons_succ]
              repeat ((fail_if_success (refine wpList_buildG rfl 35 [(0, .const (.int .i64 5)), (1, .const (.int .i64 5)), (2, .const (.int .i64 0)), (3, .tmp 146)] rfl [(0, .int .i64 5), (1, .int .i64 5), (2, .int .i64 0), (3, .agg (slC k1 0 255).toArray)] rfl (.agg (dk 5 5 0).cells.toArray) (bD4k 5 5 0 _) ?_)); go_step)
              refine wpList_buildG rfl 35 [(0, .const (.int .i64 5)), (1, .const (.int .i64 5)), (2, .const (.int .i64 0)), (3, .tmp 146)] rfl [(0, .int .i64 5), (1, .int .i64 5), (2, .int .i64 0), (3, .agg (slC k1 0 255).toArray)] rfl (.agg (dk 5 5 0).cells.toArray) (bD4k 5 5 0 _) ?_
              try simp only [Act.put, List.setIfInBounds_toArray, List.set_cons_zero, List.set_cons_succ]
              repeat ((fail_if_success (refine wpList_load_midG rfl 33 (.tmp 5) rfl b 0 rfl (slC k1 0 255) _ RB.out Tryz.underlying33 rfl sizeK1 ?_)); go_step)
              refine wpList_load_midG rfl 33 (.tmp 5) rfl b 0 rfl (slC k1 0 255) _ RB.out Tryz.underlying33 rfl sizeK1 ?_
              try simp only [Act.put, List.setIfInBounds_toArray, List.set_cons_zero, List.set_cons_succ]
              repeat ((fail_if_success (refine wpList_buildG rfl 35 [(0, .const (.int .i64 7)), (1, .const (.int .i64 100)), (2, .const (.int .i64 0)), (3, .tmp 148)] rfl [(0, .int .i64 7), (1, .int .i64 100), (2, .int .i64 0), (3, .agg (slC k1 0 255).toArray)] rfl (.agg (dk 7 100 0).cells.toArray) (bD4k 7 100 0 _) ?_)); go_step)
              refine wpList_buildG rfl 35 [(0, .const (.int .i64 7)), (1, .const (.int .i64 100)), (2, .const (.int .i64 0)), (3, .tmp 148)] rfl [(0, .int .i64 7), (1, .int .i64 100), (2, .int .i64 0), (3, .agg (slC k1 0 255).toArray)] rfl (.agg (dk 7 100 0).cells.toArray) (bD4k 7 100 0 _) ?_
              try simp only [Act.put, List.setIfInBounds_toArray, List.set_cons_zero, List.set_cons_succ]
              repeat ((fail_if_success (refine wpList_load_midG rfl 33 (.tmp 5) rfl b 0 rfl (slC k1 0 255) _ RB.out Tryz.underlying33 rfl sizeK1 ?_)); go_step)
              refine wpList_load_midG rfl 33 (.tmp 5) rfl b 0 rfl (slC k1 0 255) _ RB.out Tryz.underlying33 rfl sizeK1 ?_
              try simp only [Act.put, List.setIfInBounds_toArray, List.set_cons_zero, List.set_cons_succ]
              repeat ((fail_if_success (refine wpList_buildG rfl 35 [(0, .const (.int .i64 7)), (1, .const (.int .i64 72)), (2, .const (.int .i64 0)), (3, .tmp 150)] rfl [(0, .int .i64 7), (1, .int .i64 72), (2, .int .i64 0), (3, .agg (slC k1 0 255).toArray)] rfl (.agg (dk 7 72 0).cells.toArray) (bD4k 7 72 0 _) ?_)); go_step)
              refine wpList_buildG rfl 35 [(0, .const (.int .i64 7)), (1, .const (.int .i64 72)), (2, .const (.int .i64 0)), (3, .tmp 150)] rfl [(0, .int .i64 7), (1, .int .i64 72), (2, .int .i64 0), (3, .agg (slC k1 0 255).toArray)] rfl (.agg (dk 7 72 0).cells.toArray) (bD4k 7 72 0 _) ?_
              try simp only [Act.put, List.setIfInBounds_toArray, List.set_cons_zero, List.set_cons_succ]
              repeat ((fail_if_success (refine wpList_sliceK rfl 22 35 5 37 _ rfl (fun i => (gE i).cells) ?_ i0 (.agg zDo.toArray) Tryz.underlying22 HI.out.1 HI.out.2.1 HI.out.2.2.1 HGL.out (Nat.succ_pos 36) (Nat.succ_pos 4) HN24.out ?_)); go_step)
              refine wpList_sliceK rfl 22 35 5 37 _ rfl (fun i => (gE i).cells) ?_ i0 (.agg zDo.toArray) Tryz.underlying22 HI.out.1 HI.out.2.1 HI.out.2.2.1 HGL.out (Nat.succ_pos 36) (Nat.succ_pos 4) HN24.out ?_
              · kernel_rfl
              try simp only [Act.put, List.setIfInBounds_toArray, List.set_cons_zero, List.set_cons_succ]
              repeat ((fail_if_success (refine wpList_append_any rfl (.tmp 141) (.tmp 152) 22 rfl w0.heap.size 35 i0 (.agg zDo.toArray) 37 72 Tryz.underlying22 HI.out.1 HI.out.2.1 HI.out.2.2.1 HI.out.2.2.2 rfl HP37.out (.slice A3 (2 * 10) c3) (2 * 10) (flatS (fun i => (F i).cells) (2 * 10)) rfl HOW.out (some ⟨wr.heap.size, 0, none⟩) 5 5 (flatS (fun i => (gE i).cells) 5) rfl HNN.out HNL.out HNW.out HCO.out HM.out HBY.out HBA.out ?_)); go_step)
              refine wpList_append_any rfl (.tmp 141) (.tmp 152) 22 rfl w0.heap.size 35 i0 (.agg zDo.toArray) 37 72 Tryz.underlying22 HI.out.1 HI.out.2.1 HI.out.2.2.1 HI.out.2.2.2 rfl HP37.out (.slice A3 (2 * 10) c3) (2 * 10) (flatS (fun i => (F i).cells) (2 * 10)) rfl HOW.out (some ⟨wr.heap.size, 0, none⟩) 5 5 (flatS (fun i => (gE i).cells) 5) rfl HNN.out HNL.out HNW.out HCO.out HM.out HBY.out HBA.out ?_
              intro v8 w8 ho8 hg8
              obtain ⟨A8, c8, rfl⟩ := row_shapeS ho8
              try simp only [Act.put, List.setIfInBounds_toArray, List.set_cons_zero, List.set_cons_succ]
              have HC8 := Lib.hid (C.out.push HGO.out ho8 hg8)
              clear ho8 hg8
              go_wp2_with fail
              refine (lives3 9 _ A8 (2 * 10 + 5) c8 w8 (fun i _ => HC8.out.ok i) HC8.out.sarr).mono ?_
              rintro e w9 ⟨rfl, hb⟩
              have HC9 := Lib.hid (HC8.out.go hb)
              clear hb
              go_wp2_with fail
              refine (awake_p w9).mono ?_
              rintro e w10 ⟨rfl, hb⟩
              have HC9 := Lib.hid (HC9.out.go hb)
              clear hb
              go_wp2_with fail
              go_ret
              exact ⟨rfl, X.out.below.trans (HC9.out.below.mono X.out.below.size)⟩

end Go.Proofs.YtodhaaaodmcplaaGreat
