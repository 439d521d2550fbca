/- Part of the proof of the statements of layer 29 (victim): what each function of the layer, of the reference and of the laws computes, at every input; and that the laws return true. No condition. -/
import Derived.Test.YtnebpcoegomoeaaP
import Derived.Deep.RegionHeld3


namespace Go.Proofs.Ytnebpcoegomoeaa
open Go.RowKit Go.Shelf
theorem picksBlock (cs : Array Value) (n : Nat) (g : Nat) (f : Nat → Int) (op : Int) (w : World) (hn : n ≤ 1000) (h : w.heap[g]? = some (.cells cs 3 (0, 0))) (hf : ∀ j, j < n → cs[j]? = some (.int .i64 (f j))) :
    Calls Try.prog 3 #[.slice (some ⟨g, 0, none⟩) n n, .int .i64 op] w fun e w' => e = .returned (.bool true) ∧ Below w.heap.size w w' :=
  picks3 f op _ n n w (by omega) (Arr.ofBlock n _ h hf) (by simp)
theorem picks2 (x y op : Int) (g : Nat) (w : World) (h : w.heap[g]? = some (.cells #[.int .i64 x, .int .i64 y] 3 (0, 0))) :
    Calls Try.prog 3 #[.slice (some ⟨g, 0, none⟩) 2 2, .int .i64 op] w fun e w' => e = .returned (.bool true) ∧ Below w.heap.size w w' :=
  picksBlock _ 2 g (fun j => [x, y].getD j 0) op w (by omega) h (fun j hj => by
    match j, hj with
    | 0, _ => rfl
    | 1, _ => rfl)
def numF (j : Nat) : Int := [-9223372036854775808, -1, 0, 1, 2, 9223372036854775807].getD j 0
theorem numF_le (j : Nat) (hj : j < 6) : numF j ≤ 9223372036854775807 := by
  have h : j = 0 ∨ j = 1 ∨ j = 2 ∨ j = 3 ∨ j = 4 ∨ j = 5 := by omega
  rcases h with rfl | rfl | rfl | rfl | rfl | rfl <;> decide
def numC : Array Value := #[.int .i64 (-9223372036854775808), .int .i64 (-1), .int .i64 0, .int .i64 1, .int .i64 2, .int .i64 9223372036854775807]
theorem numC_at (j : Nat) (hj : j < 6) : numC[j]? = some (.int .i64 (numF j)) := by
  match j, hj with
  | 0, _ => rfl
  | 1, _ => rfl
  | 2, _ => rfl
  | 3, _ => rfl
  | 4, _ => rfl
  | 5, _ => rfl
set_option maxHeartbeats 4000000 in
set_option maxRecDepth 100000 in
theorem numbers5 (w : World) : Calls Try.prog 5 #[] w fun e w' => e = .returned (.bool true) ∧ Below w.heap.size w w' := by
  go_enter Try.func5, Try.ntmps5
  go_wp2_with fail
  go_loopw [1] (fun i wr => ∃ k : Nat, k ≤ 125 ∧ i = .int .i64 k ∧ Below w.heap.size w wr) (fun i _ => 125 - (intOf i).toNat)
  case atStart => exact ⟨0, by omega, rfl, Below.refl _ _⟩
  case round =>
    obtain ⟨k, hk, rfl, hB⟩ := hrel
    by_cases hlt : k < 125
    · have t7 : decide ((k : Int) < 125) = true := by simp; omega
      go_wp2_with fail
      obtain ⟨wo, rfl⟩ : ∃ wo : World, wo = wr := ⟨_, rfl⟩
      go_loopw [2] (fun i wr => ∃ q : Int, -2 ≤ q ∧ q ≤ 5 ∧ i = .int .i64 q ∧ Below w.heap.size w wr) (fun i _ => (5 - intOf i).toNat)
      case atStart => exact ⟨-2, by omega, by omega, rfl, hB⟩
      case round =>
        obtain ⟨q, hq0, hq, rfl, hB2⟩ := hrel
        by_cases hlt2 : q < 5
        · go_wp2_with fail
          refine (picksBlock _ 3 _ (fun j => [(k : Int) % 5 - 1, (k : Int) / 5 % 5 - 1, (k : Int) / 25 - 1].getD j 0) _ _ (by omega) (World.alloc_heap_new wr _) (fun j hj => by
            match j, hj with
            | 0, _ => rfl
            | 1, _ => rfl
            | 2, _ => rfl)).mono ?_
          rintro e w1 ⟨rfl, hb1⟩
          go_wp2_with fail
          have hBn := (hB2.alloc hB2.size (.cells #[.int .i64 ((k : Int) % 5 - 1), .int .i64 ((k : Int) / 5 % 5 - 1), .int .i64 ((k : Int) / 25 - 1)] 3)).trans (hb1.mono (by have := hB2.size; simp; omega))
          go_roundw
          case rel => exact ⟨q + 1, by omega, by omega, rfl, hBn⟩
          case measure => simp [intOf]; omega
        · obtain rfl : q = 5 := by omega
          go_wp2_with fail
          go_roundw
          case rel => exact ⟨k + 1, by omega, by go_num, hB2⟩
          case measure => simp [intOf]; omega
    · obtain rfl : k = 125 := by omega
      go_wp2_with fail
      obtain ⟨g, hg⟩ : ∃ g, wr.heap.size = g := ⟨_, rfl⟩
      obtain ⟨W0, hW0⟩ : ∃ W0, wr.alloc (.cells #[.int .i64 (-9223372036854775808), .int .i64 (-1), .int .i64 0, .int .i64 1, .int .i64 2, .int .i64 9223372036854775807] 3) = W0 := ⟨_, rfl⟩
      have hb0 : Below w.heap.size w W0 := hW0 ▸ hB.alloc hB.size _
      have hgz : g < W0.heap.size := by rw [← hW0, ← hg]; simp
      have HG := Lib.hid (p := W0.heap[g]? = some (.cells numC 3 (0, 0))) (hW0 ▸ hg ▸ World.alloc_heap_new wr _)
      rw [hW0, hg]
      clear hW0 hg hB hlt hk
      go_loopw [4] (fun i wr => ∃ k : Nat, k ≤ 6 ∧ i = .int .i64 k ∧ Below W0.heap.size W0 wr) (fun i _ => 6 - (intOf i).toNat)
      case atStart => exact ⟨0, by omega, rfl, Below.refl _ _⟩
      case round =>
        obtain ⟨k, hk, rfl, hB⟩ := hrel
        by_cases hlt : k < 6
        · have t8 : decide ((k : Int) < 6) = true := by simp; omega
          go_wp2_with fail
          obtain ⟨wo, rfl⟩ : ∃ wo : World, wo = wr := ⟨_, rfl⟩
          go_loopw [5] (fun i wr => ∃ q : Nat, q ≤ 6 ∧ i = .int .i64 q ∧ Below W0.heap.size W0 wr) (fun i _ => 6 - (intOf i).toNat)
          case atStart => exact ⟨0, by omega, rfl, hB⟩
          case round =>
            obtain ⟨q, hq, rfl, hB2⟩ := hrel
            by_cases hlt2 : q < 6
            · have HG2 := Lib.hid ((hB2.block g hgz).trans HG.out)
              have hc1 := block_cell HG2.out k _ (numC_at k hlt)
              have hc2 := block_cell HG2.out q _ (numC_at q hlt2)
              have hn2 := numF_le q hlt2
              obtain ⟨x, hx⟩ : ∃ x, numF k = x := ⟨_, rfl⟩
              obtain ⟨y, hy⟩ : ∃ y, numF q = y := ⟨_, rfl⟩
              rw [hx] at hc1
              rw [hy] at hc2 hn2
              clear hx hy
              go_wp2_with fail
              have i1 : (0 : Int) ≤ (k : Int) ∧ (k : Int) < 6 := by omega
              have i2 : (0 : Int) ≤ (q : Int) ∧ (q : Int) < 6 := by omega
              have hzg : g < wr.heap.size := Nat.lt_of_lt_of_le hgz hB2.size
              go_region_held3 (fun w' => w'.cell? ⟨g, k, none⟩ = some (.int .i64 x) ∧ w'.cell? ⟨g, q, none⟩ = some (.int .i64 y)) (go_keep)
                (first | (go_at_call 4; refine (worth4 _ _ _ hn2).mono ?_; rintro e w1 ⟨rfl, hb1⟩; go_loud ( have hz1 : g < w1.heap.size := Nat.lt_of_lt_of_le hzg hb1.size; have a1 : w1.cell? ⟨g, k, none⟩ = some (.int .i64 x) := (bcell hb1 _ _ hzg).trans hc1; have a2 : w1.cell? ⟨g, q, none⟩ = some (.int .i64 y) := (bcell hb1 _ _ hzg).trans hc2)) | (go_at_call 3; refine (picks2 _ _ _ _ _ (World.alloc_heap_new _ _)).mono ?_; rintro e w2 ⟨rfl, hb2⟩; have a3 : w2.cell? ⟨g, k, none⟩ = some (.int .i64 x) := (bcell hb2 _ _ (Nat.lt_of_lt_of_le hz1 (Nat.le_of_lt (by simp)))).trans ((World.cell?_alloc_lt _ _ _ hz1).trans a1); have a4 : w2.cell? ⟨g, q, none⟩ = some (.int .i64 y) := (bcell hb2 _ _ (Nat.lt_of_lt_of_le hz1 (Nat.le_of_lt (by simp)))).trans ((World.cell?_alloc_lt _ _ _ hz1).trans a2)))
              have hBn : Below W0.heap.size W0 w2 := (((hB2.drew).trans (hb1.mono hB2.size)).alloc (Nat.le_trans hB2.size hb1.size) _).trans (hb2.mono (Nat.le_trans (Nat.le_trans hB2.size hb1.size) (Nat.le_of_lt (by simp))))
              go_wp2_with fail
              refine ⟨?_, by simp [intOf]; omega⟩
              (repeat apply Exists.intro); exact ⟨⟨q + 1, by omega, by go_num, hBn⟩, rfl⟩
            · obtain rfl : q = 6 := by omega
              go_wp2_with fail
              go_roundw
              case rel => exact ⟨k + 1, by omega, by go_num, hB2⟩
              case measure => simp [intOf]; omega
        · obtain rfl : k = 6 := by omega
          go_wp2_with fail
          refine (picks3 (fun _ => 0) 0 none 0 0 _ (by omega) (fun h => absurd h (by omega)) (fun _ => ⟨rfl, rfl⟩)).mono ?_
          rintro e w1 ⟨rfl, hb1⟩
          go_wp2_with fail
          refine (awake7 _).mono ?_
          rintro e w2 ⟨rfl, hb2⟩
          go_wp2_with fail
          go_ret
          exact ⟨rfl, hb0.trans ((hB.trans ((hb1.mono hB.size).trans (hb2.mono (Nat.le_trans hB.size hb1.size)))).mono hb0.size)⟩
end Go.Proofs.Ytnebpcoegomoeaa
