/- The law BitioWrites of layer 3 (bitio): it returns true at every input. -/
import Derived.Test.YtkkjcbakgjabdaaS
namespace Go.Proofs.Ytkkjcbakgjabdaa
open Go.RowKit
theorem wpAnyH_swap {P : Program} {md : Region.Mode} {ops : Array Oper} {Q : Exit → Act → World → Prop} {S S' : World → Prop} (hS : ∀ w, S' w → S w) : ∀ (fuel : Nat) (listed : Array Bool) (a : Act) (w : World), wpAnyH P md ops Q S' fuel listed a w → wpAnyH P md ops Q S fuel listed a w
  | 0, _, _, _, h => h
  | fuel + 1, _, _, _, h => ⟨h.1, fun i hi => wpOp_mono (fun a' w' h' => ⟨hS _ h'.1, wpAnyH_swap hS fuel _ a' w' h'.2⟩) (h.2 i hi)⟩
theorem Wz.drew {W w : World} {p q N L N' L' : Nat} {v u bt : Value} (h : Wz W w p v N L q u N' L' bt) : Wz W w.drew p v N L q u N' L' bt := h.drewN 1
set_option maxRecDepth 100000 in
set_option maxHeartbeats 40000000 in
theorem writes4 (g : Pc) (A : Option Addr) (n c : Nat) (W : World) (hn : n ≤ 9223372036854775807) (hp : Pcs W W.heap.size A n g) (hok : g.Ok n) :
    Calls Try.prog 4 #[.slice A n c] W fun e W' => e = .returned (.bool true) ∧ Below W.heap.size W W' := by
  have HP := Lib.hid hp
  have HK := Lib.hid hok
  clear hp hok
  go_enter Try.func4, Try.ntmps4
  go_wp2_with fail
  refine (new10 W W.heap.size (Nat.le_refl _)).mono ?_
  rintro e w1 ⟨rfl, hb1, hw1⟩
  have HZ : Hid (Wz W (w1.alloc (.cells #[.slice none 0 0] 42)) W.heap.size (.slice none 0 0) 0 0 w1.heap.size (.slice none 0 0) 0 0 (.slice none 0 0)) := Lib.hid
    ⟨hw1.keeps (Keeps.alloc (fun _ => False) w1 _) fun _ _ h => h, ⟨heap_new w1 _, World.ownsRow_nil _ _ _ _, by simp, hb1.size⟩, ⟨0, fun _ => 0, World.ownsRow_nil _ _ _ _, by omega, fun x hx => by simp [Value.ownBlock] at hx⟩, hb1.alloc hb1.size _⟩
  clear hb1 hw1
  go_wp2_with fail
  obtain ⟨p, hp⟩ : ∃ p, p = W.heap.size := ⟨_, rfl⟩
  obtain ⟨q, hq⟩ : ∃ q, q = w1.heap.size := ⟨_, rfl⟩
  rw [← hq] at HZ ⊢
  have HZ1 : Hid (Wz W (w1.alloc (.cells #[.slice none 0 0] 42)) p (.slice none 0 0) 0 0 q (.slice none 0 0) 0 0 (.slice none 0 0)) := Lib.hid (by rw [hp]; exact HZ.out)
  rw [← hp]
  clear HZ hp hq
  go_loopw [5, 6] (fun bt i wr => ∃ (k N L : Nat) (v u : Value), k ≤ n ∧ k ≤ 300 ∧ i = .int .i64 k ∧ L ≤ 39 * k ∧ Wz W wr p v N L q u N L bt) (fun _ i _ => n - (intOf i).toNat)
  case atStart => exact ⟨0, 0, 0, _, _, Nat.zero_le _, Nat.zero_le _, rfl, Nat.le_refl _, HZ1.out⟩
  case round =>
    clear HZ1
    obtain ⟨k, N, L, v, u, hk, hk3, rfl, hL, hw⟩ := hrel
    have H0 := Lib.hid hw
    clear hw
    by_cases hlt : k < n ∧ k < 300
    · obtain ⟨hlt, h300⟩ := hlt
      obtain ⟨b, off, rfl, hbl, hc⟩ := HP.out (by omega)
      have HL := Lib.hid hbl
      have HC := Lib.hid hc
      obtain ⟨x1, x2, x3⟩ := hc k hlt
      clear hc hbl
      have c3 := (H0.out.below.cell (p := ⟨b, off + k * 3 + 2, none⟩) HL.out).trans x3
      obtain ⟨hV, hN1, hN2⟩ := HK.out k hlt
      clear x3
      have i1 : (0 : Int) ≤ (k : Int) := by omega
      have i2 : (k : Int) < n := by omega
      obtain ⟨y64, hy64⟩ : ∃ y : Nat, (k : Int) % 64 = y := ⟨k % 64, by omega⟩
      cases hal : g.al k
      · rw [hal] at c3
        have H1 := Lib.hid H0.out
        clear hal
        have c1 := (H1.out.below.cell (p := ⟨b, off + k * 3, none⟩) HL.out).trans x1
        have c2 := (H1.out.below.cell (p := ⟨b, off + k * 3 + 1, none⟩) HL.out).trans x2
        clear x1
        by_cases hin : 0 ≤ g.N k ∧ g.N k ≤ 32
        · obtain ⟨s, hs⟩ : ∃ s : Nat, g.N k = s := ⟨(g.N k).toNat, by omega⟩
          have hs1 : s ≤ 32 := by omega
          rw [hs] at c2
          have Y2 : Hid (W.cell? ⟨b, off + k * 3 + 1, none⟩ = some (.int .i64 (s : Nat))) := Lib.hid (by rw [← hs]; exact x2)
          clear hin hs x2 hN1 hN2
          go_wp2_with fail
          refine wp_region_held_drew (S := fun w' => w'.cell? ⟨b, off + k * 3, none⟩ = some (.int .u32 (g.V k : Nat)) ∧ w'.cell? ⟨b, off + k * 3 + 1, none⟩ = some (.int .i64 (s : Nat))) (by kernel_rfl) ⟨c1, c2⟩ (fun hHeld => ?_)
          refine wpAnyH_take (i := 0) (v := ?_) (by simp only [List.getElem?_toArray, List.getElem?_cons_zero]; rfl) (by kernel_rfl) (by kernel_rfl) (by kernel_rfl) (by intro _ _ _ h; exact h) (Or.inl ⟨by rfl, ?_⟩) hHeld ?_
          rotate_left
          · (intro w hSw; (try dsimp only at hSw); go_simp; try with_reducible rfl)
          try simp only [Act.put, List.setIfInBounds_toArray, List.set_cons_zero, List.set_cons_succ]
          refine wpAnyH_take (i := 1) (v := ?_) (by simp only [List.getElem?_toArray, List.getElem?_cons_zero, List.getElem?_cons_succ]; rfl) (by kernel_rfl) (by kernel_rfl) (by kernel_rfl) (by intro _ _ _ h; exact h) (Or.inl ⟨by rfl, ?_⟩) hHeld ?_
          rotate_left
          · (intro w hSw; (try dsimp only at hSw); go_simp; try with_reducible rfl)
          try simp only [Act.put, List.setIfInBounds_toArray, List.set_cons_zero, List.set_cons_succ]
          refine wpAnyH_take (i := 2) (v := ?_) (by simp only [List.getElem?_toArray, List.getElem?_cons_zero, List.getElem?_cons_succ]; rfl) (by kernel_rfl) (by kernel_rfl) (by kernel_rfl) (by intro _ _ _ h; exact h) (Or.inl ⟨by rfl, ?_⟩) hHeld ?_
          rotate_left
          · (intro w hSw; (try dsimp only at hSw); go_simp; try with_reducible rfl)
          try simp only [Act.put, List.setIfInBounds_toArray, List.set_cons_zero, List.set_cons_succ]
          refine wpAnyH_take (i := 3) (v := ?_) (by simp only [List.getElem?_toArray, List.getElem?_cons_zero, List.getElem?_cons_succ]; rfl) (by kernel_rfl) (by kernel_rfl) (by kernel_rfl) (by intro _ _ _ h; exact h) (Or.inl ⟨by rfl, ?_⟩) hHeld ?_
          rotate_left
          · (intro w hSw; (try dsimp only at hSw); go_simp; try with_reducible rfl)
          try simp only [Act.put, List.setIfInBounds_toArray, List.set_cons_zero, List.set_cons_succ]
          refine wpAnyH_take (i := 4) (v := ?_) (by simp only [List.getElem?_toArray, List.getElem?_cons_zero, List.getElem?_cons_succ]; rfl) (by kernel_rfl) (by kernel_rfl) (by kernel_rfl) (by intro _ _ _ h; exact h) (Or.inl ⟨by rfl, ?_⟩) hHeld ?_
          rotate_left
          · (intro w hSw; (try dsimp only at hSw); go_simp; try with_reducible rfl)
          try simp only [Act.put, List.setIfInBounds_toArray, List.set_cons_zero, List.set_cons_succ]
          refine wpAnyH_take (i := 5) (v := ?_) (by simp only [List.getElem?_toArray, List.getElem?_cons_zero, List.getElem?_cons_succ]; rfl) (by kernel_rfl) (by kernel_rfl) (by kernel_rfl) (by intro _ _ _ h; exact h) (Or.inl ⟨by rfl, ?_⟩) hHeld ?_
          rotate_left
          · (intro w hSw; (try dsimp only at hSw); go_simp; try with_reducible rfl)
          try simp only [Act.put, List.setIfInBounds_toArray, List.set_cons_zero, List.set_cons_succ]
          refine wpAnyH_take (i := 6) (v := ?_) (by simp only [List.getElem?_toArray, List.getElem?_cons_zero, List.getElem?_cons_succ]; rfl) (by kernel_rfl) (by kernel_rfl) (by kernel_rfl) (by intro _ _ _ h; exact h) (Or.inl ⟨by rfl, ?_⟩) hHeld ?_
          rotate_left
          · (intro w hSw; (try dsimp only at hSw); go_simp; try with_reducible rfl)
          try simp only [Act.put, List.setIfInBounds_toArray, List.set_cons_zero, List.set_cons_succ]
          refine wpAnyH_take (i := 7) (v := ?_) (by simp only [List.getElem?_toArray, List.getElem?_cons_zero, List.getElem?_cons_succ]; rfl) (by kernel_rfl) (by kernel_rfl) (by kernel_rfl) (by intro _ _ _ h; exact h) (Or.inl ⟨by rfl, ?_⟩) hHeld ?_
          rotate_left
          · (intro w hSw; (try dsimp only at hSw); go_simp; try with_reducible rfl)
          try simp only [Act.put, List.setIfInBounds_toArray, List.set_cons_zero, List.set_cons_succ]
          refine wpAnyH_take (i := 8) (v := ?_) (by simp only [List.getElem?_toArray, List.getElem?_cons_zero, List.getElem?_cons_succ]; rfl) (by kernel_rfl) (by kernel_rfl) (by kernel_rfl) (by intro _ _ _ h; exact h) (Or.inl ⟨by rfl, ?_⟩) hHeld ?_
          rotate_left
          · (intro w hSw; (try dsimp only at hSw); go_simp; try with_reducible rfl)
          try simp only [Act.put, List.setIfInBounds_toArray, List.set_cons_zero, List.set_cons_succ]
          refine wpAnyH_take (i := 9) (v := ?_) (by simp only [List.getElem?_toArray, List.getElem?_cons_zero, List.getElem?_cons_succ]; rfl) (by kernel_rfl) (by kernel_rfl) (by kernel_rfl) (by intro _ _ _ h; exact h) (Or.inl ⟨by rfl, ?_⟩) hHeld ?_
          rotate_left
          · (intro w hSw; (try dsimp only at hSw); go_simp; try with_reducible rfl)
          try simp only [Act.put, List.setIfInBounds_toArray, List.set_cons_zero, List.set_cons_succ]
          refine wpAnyH_take (i := 10) (v := ?_) (by simp only [List.getElem?_toArray, List.getElem?_cons_zero, List.getElem?_cons_succ]; rfl) (by kernel_rfl) (by kernel_rfl) (by kernel_rfl) (by intro _ _ _ h; exact h) (Or.inl ⟨by rfl, ?_⟩) hHeld ?_
          rotate_left
          · (intro w hSw; (try dsimp only at hSw); go_simp; try with_reducible rfl)
          try simp only [Act.put, List.setIfInBounds_toArray, List.set_cons_zero, List.set_cons_succ]
          refine wpAnyH_take (i := 12) (v := ?_) (by simp only [List.getElem?_toArray, List.getElem?_cons_zero, List.getElem?_cons_succ]; rfl) (by kernel_rfl) (by kernel_rfl) (by kernel_rfl) (by intro _ _ _ h; exact h) (Or.inl ⟨by rfl, ?_⟩) hHeld ?_
          rotate_left
          · (intro w hSw; (try dsimp only at hSw); go_simp; try with_reducible rfl)
          try simp only [Act.put, List.setIfInBounds_toArray, List.set_cons_zero, List.set_cons_succ]
          refine wpAnyH_take (i := 13) (v := ?_) (by simp only [List.getElem?_toArray, List.getElem?_cons_zero, List.getElem?_cons_succ]; rfl) (by kernel_rfl) (by kernel_rfl) (by kernel_rfl) (by intro _ _ _ h; exact h) (Or.inl ⟨by rfl, ?_⟩) hHeld ?_
          rotate_left
          · (intro w hSw; (try dsimp only at hSw); go_simp; try with_reducible rfl)
          try simp only [Act.put, List.setIfInBounds_toArray, List.set_cons_zero, List.set_cons_succ]
          refine wpAnyH_take (i := 14) (v := ?_) (by simp only [List.getElem?_toArray, List.getElem?_cons_zero, List.getElem?_cons_succ]; rfl) (by kernel_rfl) (by kernel_rfl) (by kernel_rfl) (by intro _ _ _ h; exact h) (Or.inl ⟨by rfl, ?_⟩) hHeld ?_
          rotate_left
          · (intro w hSw; (try dsimp only at hSw); go_simp; try with_reducible rfl)
          try simp only [Act.put, List.setIfInBounds_toArray, List.set_cons_zero, List.set_cons_succ]
          refine wpAnyH_take (i := 15) (v := ?_) (by simp only [List.getElem?_toArray, List.getElem?_cons_zero, List.getElem?_cons_succ]; rfl) (by kernel_rfl) (by kernel_rfl) (by kernel_rfl) (by intro _ _ _ h; exact h) (Or.inl ⟨by rfl, ?_⟩) hHeld ?_
          rotate_left
          · (intro w hSw; (try dsimp only at hSw); go_simp; try with_reducible rfl)
          try simp only [Act.put, List.setIfInBounds_toArray, List.set_cons_zero, List.set_cons_succ]
          refine wpAnyH_take (i := 16) (v := ?_) (by simp only [List.getElem?_toArray, List.getElem?_cons_zero, List.getElem?_cons_succ]; rfl) (by kernel_rfl) (by kernel_rfl) (by kernel_rfl) (by intro _ _ _ h; exact h) (Or.inl ⟨by rfl, ?_⟩) hHeld ?_
          rotate_left
          · (intro w hSw; (try dsimp only at hSw); go_simp; try with_reducible rfl)
          try simp only [Act.put, List.setIfInBounds_toArray, List.set_cons_zero, List.set_cons_succ]
          refine wpAnyH_take (i := 17) (v := ?_) (by simp only [List.getElem?_toArray, List.getElem?_cons_zero, List.getElem?_cons_succ]; rfl) (by kernel_rfl) (by kernel_rfl) (by kernel_rfl) (by intro _ _ _ h; exact h) (Or.inl ⟨by rfl, ?_⟩) hHeld ?_
          rotate_left
          · (intro w hSw; (try dsimp only at hSw); go_simp; try with_reducible rfl)
          try simp only [Act.put, List.setIfInBounds_toArray, List.set_cons_zero, List.set_cons_succ]
          refine wpAnyH_take (i := 18) (v := ?_) (by simp only [List.getElem?_toArray, List.getElem?_cons_zero, List.getElem?_cons_succ]; rfl) (by kernel_rfl) (by kernel_rfl) (by kernel_rfl) (by intro _ _ _ h; exact h) (Or.inl ⟨by rfl, ?_⟩) hHeld ?_
          rotate_left
          · (intro w hSw; (try dsimp only at hSw); go_simp; try with_reducible rfl)
          try simp only [Act.put, List.setIfInBounds_toArray, List.set_cons_zero, List.set_cons_succ]
          refine wpAnyH_take (i := 19) (v := ?_) (by simp only [List.getElem?_toArray, List.getElem?_cons_zero, List.getElem?_cons_succ]; rfl) (by kernel_rfl) (by kernel_rfl) (by kernel_rfl) (by intro _ _ _ h; exact h) (Or.inl ⟨by rfl, ?_⟩) hHeld ?_
          rotate_left
          · (intro w hSw; (try dsimp only at hSw); go_simp; try with_reducible rfl)
          try simp only [Act.put, List.setIfInBounds_toArray, List.set_cons_zero, List.set_cons_succ]
          refine wpAnyH_take (i := 20) (v := ?_) (by simp only [List.getElem?_toArray, List.getElem?_cons_zero, List.getElem?_cons_succ]; rfl) (by kernel_rfl) (by kernel_rfl) (by kernel_rfl) (by intro _ _ _ h; exact h) (Or.inl ⟨by rfl, ?_⟩) hHeld ?_
          rotate_left
          · (intro w hSw; (try dsimp only at hSw); go_simp; try with_reducible rfl)
          try simp only [Act.put, List.setIfInBounds_toArray, List.set_cons_zero, List.set_cons_succ]
          refine wpAnyH_take (i := 21) (v := ?_) (by simp only [List.getElem?_toArray, List.getElem?_cons_zero, List.getElem?_cons_succ]; rfl) (by kernel_rfl) (by kernel_rfl) (by kernel_rfl) (by intro _ _ _ h; exact h) (Or.inl ⟨by rfl, ?_⟩) hHeld ?_
          rotate_left
          · (intro w hSw; (try dsimp only at hSw); go_simp; try with_reducible rfl)
          try simp only [Act.put, List.setIfInBounds_toArray, List.set_cons_zero, List.set_cons_succ]
          refine wpAnyH_take (i := 22) (v := ?_) (by simp only [List.getElem?_toArray, List.getElem?_cons_zero, List.getElem?_cons_succ]; rfl) (by kernel_rfl) (by kernel_rfl) (by kernel_rfl) (by intro _ _ _ h; exact h) (Or.inl ⟨by rfl, ?_⟩) hHeld ?_
          rotate_left
          · (intro w hSw; (try dsimp only at hSw); go_simp; try with_reducible rfl)
          try simp only [Act.put, List.setIfInBounds_toArray, List.set_cons_zero, List.set_cons_succ]
          refine wpAnyH_ready (rs := [11]) (by kernel_rfl) (by simp) ?_
          refine AllReadyH.cons (by simp only [List.getElem?_toArray, List.getElem?_cons_zero, List.getElem?_cons_succ]; rfl) (fun K hK => ?_) AllReadyH.nil
          go_simp
          refine (H1.out.drew.put (g.V k) s hs1 hV (by omega)).mono ?_
          rintro e w5 ⟨rfl, v5, hw5⟩
          have H5 := Lib.hid hw5
          clear hw5
          refine hK.out _ _ (And.intro ((H5.out.below.cell (p := ⟨b, off + k * 3, none⟩) HL.out).trans (HC.out k hlt).1) ((H5.out.below.cell (p := ⟨b, off + k * 3 + 1, none⟩) HL.out).trans Y2.out)) (fun hHeld => ?_)
          clear hK K
          try simp only [Act.put, List.setIfInBounds_toArray, List.set_cons_zero, List.set_cons_succ]
          refine wpAnyH_ready (rs := [23]) (by kernel_rfl) (by simp) ?_
          refine AllReadyH.cons (by simp only [List.getElem?_toArray, List.getElem?_cons_zero, List.getElem?_cons_succ]; rfl) (fun K hK => ?_) AllReadyH.nil
          go_simp
          refine (H5.out.rput (g.V k) s hs1 hV (by omega)).mono ?_
          rintro e w6 ⟨rfl, u6, hw6⟩
          have H6 := Lib.hid hw6
          clear hw6
          refine hK.out _ _ (And.intro ((H6.out.below.cell (p := ⟨b, off + k * 3, none⟩) HL.out).trans (HC.out k hlt).1) ((H6.out.below.cell (p := ⟨b, off + k * 3 + 1, none⟩) HL.out).trans Y2.out)) (fun hHeld => ?_)
          clear hK K
          try simp only [Act.put, List.setIfInBounds_toArray, List.set_cons_zero, List.set_cons_succ]
          obtain ⟨A6, cap6, hu6⟩ := row_shape H6.out.wf.row
          obtain ⟨q0, q1⟩ := one_at H6.out.wf.blk
          rw [hu6] at q0
          clear hu6 hHeld
          refine wpAnyH_swap (S' := fun w' => w'.cell? ⟨q, 0, none⟩ = some (.slice A6 (L + s) cap6) ∧ (w'.cell? ⟨b, off + k * 3, none⟩ = some (.int .u32 (g.V k : Nat)) ∧ w'.cell? ⟨b, off + k * 3 + 1, none⟩ = some (.int .i64 (s : Nat)))) (fun _ h => h.2) _ _ _ _ ?_
          have hHeld := And.intro q0 (And.intro ((H6.out.below.cell (p := ⟨b, off + k * 3, none⟩) HL.out).trans (HC.out k hlt).1) ((H6.out.below.cell (p := ⟨b, off + k * 3 + 1, none⟩) HL.out).trans Y2.out))
          refine wpAnyH_take (i := 24) (v := ?_) (by simp only [List.getElem?_toArray, List.getElem?_cons_zero, List.getElem?_cons_succ]; rfl) (by kernel_rfl) (by kernel_rfl) (by kernel_rfl) (by intro _ _ _ h; exact h) (Or.inl ⟨by rfl, ?_⟩) hHeld ?_
          rotate_left
          · (intro w hSw; (try dsimp only at hSw); go_simp; try with_reducible rfl)
          try simp only [Act.put, List.setIfInBounds_toArray, List.set_cons_zero, List.set_cons_succ]
          refine wpAnyH_take (i := 25) (v := ?_) (by simp only [List.getElem?_toArray, List.getElem?_cons_zero, List.getElem?_cons_succ]; rfl) (by kernel_rfl) (by kernel_rfl) (by kernel_rfl) (by intro _ _ _ h; exact h) (Or.inl ⟨by rfl, ?_⟩) hHeld ?_
          rotate_left
          · (intro w hSw; (try dsimp only at hSw); go_simp; try with_reducible rfl)
          try simp only [Act.put, List.setIfInBounds_toArray, List.set_cons_zero, List.set_cons_succ]
          refine wpAnyH_take (i := 26) (v := ?_) (by simp only [List.getElem?_toArray, List.getElem?_cons_zero, List.getElem?_cons_succ]; rfl) (by kernel_rfl) (by kernel_rfl) (by kernel_rfl) (by intro _ _ _ h; exact h) (Or.inl ⟨by rfl, ?_⟩) hHeld ?_
          rotate_left
          · (intro w hSw; (try dsimp only at hSw); go_simp; try with_reducible rfl)
          try simp only [Act.put, List.setIfInBounds_toArray, List.set_cons_zero, List.set_cons_succ]
          refine wpAnyH_take (i := 28) (v := ?_) (by simp only [List.getElem?_toArray, List.getElem?_cons_zero, List.getElem?_cons_succ]; rfl) (by kernel_rfl) (by kernel_rfl) (by kernel_rfl) (by intro _ _ _ h; exact h) (Or.inl ⟨by rfl, ?_⟩) hHeld ?_
          rotate_left
          · (intro w hSw; (try dsimp only at hSw); go_simp; try with_reducible rfl)
          try simp only [Act.put, List.setIfInBounds_toArray, List.set_cons_zero, List.set_cons_succ]
          refine wpAnyH_take (i := 29) (v := ?_) (by simp only [List.getElem?_toArray, List.getElem?_cons_zero, List.getElem?_cons_succ]; rfl) (by kernel_rfl) (by kernel_rfl) (by kernel_rfl) (by intro _ _ _ h; exact h) (Or.inl ⟨by rfl, ?_⟩) hHeld ?_
          rotate_left
          · (intro w hSw; (try dsimp only at hSw); go_simp; try with_reducible rfl)
          try simp only [Act.put, List.setIfInBounds_toArray, List.set_cons_zero, List.set_cons_succ]
          refine wpAnyH_take (i := 30) (v := ?_) (by simp only [List.getElem?_toArray, List.getElem?_cons_zero, List.getElem?_cons_succ]; rfl) (by kernel_rfl) (by kernel_rfl) (by kernel_rfl) (by intro _ _ _ h; exact h) (Or.inl ⟨by rfl, ?_⟩) hHeld ?_
          rotate_left
          · (intro w hSw; (try dsimp only at hSw); go_simp; try with_reducible rfl)
          try simp only [Act.put, List.setIfInBounds_toArray, List.set_cons_zero, List.set_cons_succ]
          refine wpAnyH_take (i := 31) (v := ?_) (by simp only [List.getElem?_toArray, List.getElem?_cons_zero, List.getElem?_cons_succ]; rfl) (by kernel_rfl) (by kernel_rfl) (by kernel_rfl) (by intro _ _ _ h; exact h) (Or.inl ⟨by rfl, ?_⟩) hHeld ?_
          rotate_left
          · (intro w hSw; (try dsimp only at hSw); go_simp; try with_reducible rfl)
          try simp only [Act.put, List.setIfInBounds_toArray, List.set_cons_zero, List.set_cons_succ]
          refine wpAnyH_take (i := 32) (v := ?_) (by simp only [List.getElem?_toArray, List.getElem?_cons_zero, List.getElem?_cons_succ]; rfl) (by kernel_rfl) (by kernel_rfl) (by kernel_rfl) (by intro _ _ _ h; exact h) (Or.inl ⟨by rfl, ?_⟩) hHeld ?_
          rotate_left
          · (intro w hSw; (try dsimp only at hSw); go_simp; try with_reducible rfl)
          try simp only [Act.put, List.setIfInBounds_toArray, List.set_cons_zero, List.set_cons_succ]
          refine wpAnyH_ready (rs := [27]) (by kernel_rfl) (by simp) ?_
          refine AllReadyH.cons (by simp only [List.getElem?_toArray, List.getElem?_cons_zero, List.getElem?_cons_succ]; rfl) (fun K hK => ?_) AllReadyH.nil
          go_simp
          refine (len16 _ _ p _ _ (L + s) H6.out.wr (by omega)).mono ?_
          rintro e _ ⟨rfl, m6, rfl⟩
          refine hK.out _ _ (And.intro q0 (And.intro ((H6.out.below.cell (p := ⟨b, off + k * 3, none⟩) HL.out).trans (HC.out k hlt).1) ((H6.out.below.cell (p := ⟨b, off + k * 3 + 1, none⟩) HL.out).trans Y2.out))) (fun hHeld => ?_)
          clear hK K
          try simp only [Act.put, List.setIfInBounds_toArray, List.set_cons_zero, List.set_cons_succ]
          refine wpAnyH_take (i := 33) (v := ?_) (by simp only [List.getElem?_toArray, List.getElem?_cons_zero, List.getElem?_cons_succ]; rfl) (by kernel_rfl) (by kernel_rfl) (by kernel_rfl) (by intro _ _ _ h; exact h) (Or.inl ⟨by rfl, ?_⟩) hHeld ?_
          rotate_left
          · (intro w hSw; (try dsimp only at hSw); go_simp; try with_reducible rfl)
          try simp only [Act.put, List.setIfInBounds_toArray, List.set_cons_zero, List.set_cons_succ]
          refine wpAnyH_take (i := 34) (v := ?_) (by simp only [List.getElem?_toArray, List.getElem?_cons_zero, List.getElem?_cons_succ]; rfl) (by kernel_rfl) (by kernel_rfl) (by kernel_rfl) (by intro _ _ _ h; exact h) (Or.inl ⟨by rfl, ?_⟩) hHeld ?_
          rotate_left
          · (intro w hSw; (try dsimp only at hSw); go_simp; try with_reducible rfl)
          try simp only [Act.put, List.setIfInBounds_toArray, List.set_cons_zero, List.set_cons_succ]
          refine wpAnyH_done (by kernel_rfl) ?_ _
          obtain ⟨N2, hN2⟩ : ∃ N2, N2 = N + g.V k % 2 ^ s * 2 ^ L := ⟨_, rfl⟩
          obtain ⟨L2, hL2⟩ : ∃ L2, L2 = L + s := ⟨_, rfl⟩
          have h7 := H6.out.drewN m6
          rw [← hN2, ← hL2] at h7
          have H7 := Lib.hid h7
          have hL3 : L2 ≤ 39 * (k + 1) := by omega
          clear h7 hN2 hL2 q0 q1 hHeld
          by_cases h64 : y64 = 5
          · have t9 : ((y64 : Int) == 5) = true := by rw [h64]; rfl
            clear h64
            go_wp2_with fail
            refine (H7.out.bytes (by omega)).mono ?_
            rintro e w8 ⟨A8, c8, rfl, hw8, ho8, hb8⟩
            have H8 := Lib.hid hw8
            have HA8 := Lib.hid (row_cells ho8)
            clear hw8 ho8 hb8
            go_wp2_with fail
            refine (rbytes22 _ _ q _ _ _ H8.out.wf (by omega)).mono ?_
            rintro e w9 ⟨v9, rfl, hb9, ho9⟩
            obtain ⟨A9, c9, hv9⟩ := row_shape ho9
            subst hv9
            have H9 := Lib.hid (H8.out.fresh hb9)
            have HA9 := Lib.hid (row_cells ho9)
            have HA89 := Lib.hid (HA8.out.below hb9 (Nat.le_refl _))
            clear hb9 ho9
            go_wp2_with fail
            refine (same17 (fun i => (byteAt N2 i : Nat)) A8 A9 _ c8 c9 _ _ w9 (by omega) HA89.out HA9.out).mono ?_
            rintro e _ ⟨rfl, m9, rfl⟩
            go_wp2_with fail
            refine (H9.out.drewN m9).turn.mono ?_
            rintro e w10 ⟨rfl, hw10⟩
            have H10 := Lib.hid hw10
            clear hw10
            go_wp2_with fail
            go_roundw
            case rel => exact ⟨k + 1, N2, L2, _, _, by omega, by omega, by go_num, by omega, H10.out⟩
            case measure => simp [intOf]; omega
          · have t9 : ((y64 : Int) == 5) = false := by simp; omega
            clear h64
            go_wp2_with fail
            go_roundw
            case rel => exact ⟨k + 1, N2, L2, _, _, by omega, by omega, by go_num, by omega, H7.out⟩
            case measure => simp [intOf]; omega
        · have hno : g.N k < 0 ∨ 32 < g.N k := by omega
          have HNO := Lib.hid hno
          have Y2 := Lib.hid x2
          clear hin hno x2
          go_wp2_with fail
          refine wp_region_held_drew (S := fun w' => w'.cell? ⟨b, off + k * 3, none⟩ = some (.int .u32 (g.V k : Nat)) ∧ w'.cell? ⟨b, off + k * 3 + 1, none⟩ = some (.int .i64 (g.N k))) (by kernel_rfl) ⟨c1, c2⟩ (fun hHeld => ?_)
          refine wpAnyH_take (i := 0) (v := ?_) (by simp only [List.getElem?_toArray, List.getElem?_cons_zero]; rfl) (by kernel_rfl) (by kernel_rfl) (by kernel_rfl) (by intro _ _ _ h; exact h) (Or.inl ⟨by rfl, ?_⟩) hHeld ?_
          rotate_left
          · (intro w hSw; (try dsimp only at hSw); go_simp; try with_reducible rfl)
          try simp only [Act.put, List.setIfInBounds_toArray, List.set_cons_zero, List.set_cons_succ]
          refine wpAnyH_take (i := 1) (v := ?_) (by simp only [List.getElem?_toArray, List.getElem?_cons_zero, List.getElem?_cons_succ]; rfl) (by kernel_rfl) (by kernel_rfl) (by kernel_rfl) (by intro _ _ _ h; exact h) (Or.inl ⟨by rfl, ?_⟩) hHeld ?_
          rotate_left
          · (intro w hSw; (try dsimp only at hSw); go_simp; try with_reducible rfl)
          try simp only [Act.put, List.setIfInBounds_toArray, List.set_cons_zero, List.set_cons_succ]
          refine wpAnyH_take (i := 2) (v := ?_) (by simp only [List.getElem?_toArray, List.getElem?_cons_zero, List.getElem?_cons_succ]; rfl) (by kernel_rfl) (by kernel_rfl) (by kernel_rfl) (by intro _ _ _ h; exact h) (Or.inl ⟨by rfl, ?_⟩) hHeld ?_
          rotate_left
          · (intro w hSw; (try dsimp only at hSw); go_simp; try with_reducible rfl)
          try simp only [Act.put, List.setIfInBounds_toArray, List.set_cons_zero, List.set_cons_succ]
          refine wpAnyH_take (i := 3) (v := ?_) (by simp only [List.getElem?_toArray, List.getElem?_cons_zero, List.getElem?_cons_succ]; rfl) (by kernel_rfl) (by kernel_rfl) (by kernel_rfl) (by intro _ _ _ h; exact h) (Or.inl ⟨by rfl, ?_⟩) hHeld ?_
          rotate_left
          · (intro w hSw; (try dsimp only at hSw); go_simp; try with_reducible rfl)
          try simp only [Act.put, List.setIfInBounds_toArray, List.set_cons_zero, List.set_cons_succ]
          refine wpAnyH_take (i := 4) (v := ?_) (by simp only [List.getElem?_toArray, List.getElem?_cons_zero, List.getElem?_cons_succ]; rfl) (by kernel_rfl) (by kernel_rfl) (by kernel_rfl) (by intro _ _ _ h; exact h) (Or.inl ⟨by rfl, ?_⟩) hHeld ?_
          rotate_left
          · (intro w hSw; (try dsimp only at hSw); go_simp; try with_reducible rfl)
          try simp only [Act.put, List.setIfInBounds_toArray, List.set_cons_zero, List.set_cons_succ]
          refine wpAnyH_take (i := 5) (v := ?_) (by simp only [List.getElem?_toArray, List.getElem?_cons_zero, List.getElem?_cons_succ]; rfl) (by kernel_rfl) (by kernel_rfl) (by kernel_rfl) (by intro _ _ _ h; exact h) (Or.inl ⟨by rfl, ?_⟩) hHeld ?_
          rotate_left
          · (intro w hSw; (try dsimp only at hSw); go_simp; try with_reducible rfl)
          try simp only [Act.put, List.setIfInBounds_toArray, List.set_cons_zero, List.set_cons_succ]
          refine wpAnyH_take (i := 6) (v := ?_) (by simp only [List.getElem?_toArray, List.getElem?_cons_zero, List.getElem?_cons_succ]; rfl) (by kernel_rfl) (by kernel_rfl) (by kernel_rfl) (by intro _ _ _ h; exact h) (Or.inl ⟨by rfl, ?_⟩) hHeld ?_
          rotate_left
          · (intro w hSw; (try dsimp only at hSw); go_simp; try with_reducible rfl)
          try simp only [Act.put, List.setIfInBounds_toArray, List.set_cons_zero, List.set_cons_succ]
          refine wpAnyH_take (i := 7) (v := ?_) (by simp only [List.getElem?_toArray, List.getElem?_cons_zero, List.getElem?_cons_succ]; rfl) (by kernel_rfl) (by kernel_rfl) (by kernel_rfl) (by intro _ _ _ h; exact h) (Or.inl ⟨by rfl, ?_⟩) hHeld ?_
          rotate_left
          · (intro w hSw; (try dsimp only at hSw); go_simp; try with_reducible rfl)
          try simp only [Act.put, List.setIfInBounds_toArray, List.set_cons_zero, List.set_cons_succ]
          refine wpAnyH_take (i := 8) (v := ?_) (by simp only [List.getElem?_toArray, List.getElem?_cons_zero, List.getElem?_cons_succ]; rfl) (by kernel_rfl) (by kernel_rfl) (by kernel_rfl) (by intro _ _ _ h; exact h) (Or.inl ⟨by rfl, ?_⟩) hHeld ?_
          rotate_left
          · (intro w hSw; (try dsimp only at hSw); go_simp; try with_reducible rfl)
          try simp only [Act.put, List.setIfInBounds_toArray, List.set_cons_zero, List.set_cons_succ]
          refine wpAnyH_take (i := 9) (v := ?_) (by simp only [List.getElem?_toArray, List.getElem?_cons_zero, List.getElem?_cons_succ]; rfl) (by kernel_rfl) (by kernel_rfl) (by kernel_rfl) (by intro _ _ _ h; exact h) (Or.inl ⟨by rfl, ?_⟩) hHeld ?_
          rotate_left
          · (intro w hSw; (try dsimp only at hSw); go_simp; try with_reducible rfl)
          try simp only [Act.put, List.setIfInBounds_toArray, List.set_cons_zero, List.set_cons_succ]
          refine wpAnyH_take (i := 10) (v := ?_) (by simp only [List.getElem?_toArray, List.getElem?_cons_zero, List.getElem?_cons_succ]; rfl) (by kernel_rfl) (by kernel_rfl) (by kernel_rfl) (by intro _ _ _ h; exact h) (Or.inl ⟨by rfl, ?_⟩) hHeld ?_
          rotate_left
          · (intro w hSw; (try dsimp only at hSw); go_simp; try with_reducible rfl)
          try simp only [Act.put, List.setIfInBounds_toArray, List.set_cons_zero, List.set_cons_succ]
          refine wpAnyH_take (i := 12) (v := ?_) (by simp only [List.getElem?_toArray, List.getElem?_cons_zero, List.getElem?_cons_succ]; rfl) (by kernel_rfl) (by kernel_rfl) (by kernel_rfl) (by intro _ _ _ h; exact h) (Or.inl ⟨by rfl, ?_⟩) hHeld ?_
          rotate_left
          · (intro w hSw; (try dsimp only at hSw); go_simp; try with_reducible rfl)
          try simp only [Act.put, List.setIfInBounds_toArray, List.set_cons_zero, List.set_cons_succ]
          refine wpAnyH_take (i := 13) (v := ?_) (by simp only [List.getElem?_toArray, List.getElem?_cons_zero, List.getElem?_cons_succ]; rfl) (by kernel_rfl) (by kernel_rfl) (by kernel_rfl) (by intro _ _ _ h; exact h) (Or.inl ⟨by rfl, ?_⟩) hHeld ?_
          rotate_left
          · (intro w hSw; (try dsimp only at hSw); go_simp; try with_reducible rfl)
          try simp only [Act.put, List.setIfInBounds_toArray, List.set_cons_zero, List.set_cons_succ]
          refine wpAnyH_take (i := 14) (v := ?_) (by simp only [List.getElem?_toArray, List.getElem?_cons_zero, List.getElem?_cons_succ]; rfl) (by kernel_rfl) (by kernel_rfl) (by kernel_rfl) (by intro _ _ _ h; exact h) (Or.inl ⟨by rfl, ?_⟩) hHeld ?_
          rotate_left
          · (intro w hSw; (try dsimp only at hSw); go_simp; try with_reducible rfl)
          try simp only [Act.put, List.setIfInBounds_toArray, List.set_cons_zero, List.set_cons_succ]
          refine wpAnyH_take (i := 15) (v := ?_) (by simp only [List.getElem?_toArray, List.getElem?_cons_zero, List.getElem?_cons_succ]; rfl) (by kernel_rfl) (by kernel_rfl) (by kernel_rfl) (by intro _ _ _ h; exact h) (Or.inl ⟨by rfl, ?_⟩) hHeld ?_
          rotate_left
          · (intro w hSw; (try dsimp only at hSw); go_simp; try with_reducible rfl)
          try simp only [Act.put, List.setIfInBounds_toArray, List.set_cons_zero, List.set_cons_succ]
          refine wpAnyH_take (i := 16) (v := ?_) (by simp only [List.getElem?_toArray, List.getElem?_cons_zero, List.getElem?_cons_succ]; rfl) (by kernel_rfl) (by kernel_rfl) (by kernel_rfl) (by intro _ _ _ h; exact h) (Or.inl ⟨by rfl, ?_⟩) hHeld ?_
          rotate_left
          · (intro w hSw; (try dsimp only at hSw); go_simp; try with_reducible rfl)
          try simp only [Act.put, List.setIfInBounds_toArray, List.set_cons_zero, List.set_cons_succ]
          refine wpAnyH_take (i := 17) (v := ?_) (by simp only [List.getElem?_toArray, List.getElem?_cons_zero, List.getElem?_cons_succ]; rfl) (by kernel_rfl) (by kernel_rfl) (by kernel_rfl) (by intro _ _ _ h; exact h) (Or.inl ⟨by rfl, ?_⟩) hHeld ?_
          rotate_left
          · (intro w hSw; (try dsimp only at hSw); go_simp; try with_reducible rfl)
          try simp only [Act.put, List.setIfInBounds_toArray, List.set_cons_zero, List.set_cons_succ]
          refine wpAnyH_take (i := 18) (v := ?_) (by simp only [List.getElem?_toArray, List.getElem?_cons_zero, List.getElem?_cons_succ]; rfl) (by kernel_rfl) (by kernel_rfl) (by kernel_rfl) (by intro _ _ _ h; exact h) (Or.inl ⟨by rfl, ?_⟩) hHeld ?_
          rotate_left
          · (intro w hSw; (try dsimp only at hSw); go_simp; try with_reducible rfl)
          try simp only [Act.put, List.setIfInBounds_toArray, List.set_cons_zero, List.set_cons_succ]
          refine wpAnyH_take (i := 19) (v := ?_) (by simp only [List.getElem?_toArray, List.getElem?_cons_zero, List.getElem?_cons_succ]; rfl) (by kernel_rfl) (by kernel_rfl) (by kernel_rfl) (by intro _ _ _ h; exact h) (Or.inl ⟨by rfl, ?_⟩) hHeld ?_
          rotate_left
          · (intro w hSw; (try dsimp only at hSw); go_simp; try with_reducible rfl)
          try simp only [Act.put, List.setIfInBounds_toArray, List.set_cons_zero, List.set_cons_succ]
          refine wpAnyH_take (i := 20) (v := ?_) (by simp only [List.getElem?_toArray, List.getElem?_cons_zero, List.getElem?_cons_succ]; rfl) (by kernel_rfl) (by kernel_rfl) (by kernel_rfl) (by intro _ _ _ h; exact h) (Or.inl ⟨by rfl, ?_⟩) hHeld ?_
          rotate_left
          · (intro w hSw; (try dsimp only at hSw); go_simp; try with_reducible rfl)
          try simp only [Act.put, List.setIfInBounds_toArray, List.set_cons_zero, List.set_cons_succ]
          refine wpAnyH_take (i := 21) (v := ?_) (by simp only [List.getElem?_toArray, List.getElem?_cons_zero, List.getElem?_cons_succ]; rfl) (by kernel_rfl) (by kernel_rfl) (by kernel_rfl) (by intro _ _ _ h; exact h) (Or.inl ⟨by rfl, ?_⟩) hHeld ?_
          rotate_left
          · (intro w hSw; (try dsimp only at hSw); go_simp; try with_reducible rfl)
          try simp only [Act.put, List.setIfInBounds_toArray, List.set_cons_zero, List.set_cons_succ]
          refine wpAnyH_take (i := 22) (v := ?_) (by simp only [List.getElem?_toArray, List.getElem?_cons_zero, List.getElem?_cons_succ]; rfl) (by kernel_rfl) (by kernel_rfl) (by kernel_rfl) (by intro _ _ _ h; exact h) (Or.inl ⟨by rfl, ?_⟩) hHeld ?_
          rotate_left
          · (intro w hSw; (try dsimp only at hSw); go_simp; try with_reducible rfl)
          try simp only [Act.put, List.setIfInBounds_toArray, List.set_cons_zero, List.set_cons_succ]
          refine wpAnyH_ready (rs := [11]) (by kernel_rfl) (by simp) ?_
          refine AllReadyH.cons (by simp only [List.getElem?_toArray, List.getElem?_cons_zero, List.getElem?_cons_succ]; rfl) (fun K hK => ?_) AllReadyH.nil
          go_simp
          refine (putno15 _ _ p _ _ _ _ (g.N k) H1.out.drew.wr HNO.out).mono ?_
          rintro e w5 ⟨rfl, rfl⟩
          have hw5 := H1.out.drew
          have H5 := Lib.hid hw5
          clear hw5
          refine hK.out _ _ (And.intro ((H5.out.below.cell (p := ⟨b, off + k * 3, none⟩) HL.out).trans (HC.out k hlt).1) ((H5.out.below.cell (p := ⟨b, off + k * 3 + 1, none⟩) HL.out).trans Y2.out)) (fun hHeld => ?_)
          clear hK K
          try simp only [Act.put, List.setIfInBounds_toArray, List.set_cons_zero, List.set_cons_succ]
          refine wpAnyH_ready (rs := [23]) (by kernel_rfl) (by simp) ?_
          refine AllReadyH.cons (by simp only [List.getElem?_toArray, List.getElem?_cons_zero, List.getElem?_cons_succ]; rfl) (fun K hK => ?_) AllReadyH.nil
          go_simp
          refine (rputno21 _ q _ (g.N k) HNO.out).mono ?_
          rintro e w6 ⟨rfl, rfl⟩
          have hw6 := H5.out
          have H6 := Lib.hid hw6
          clear hw6
          refine hK.out _ _ (And.intro ((H6.out.below.cell (p := ⟨b, off + k * 3, none⟩) HL.out).trans (HC.out k hlt).1) ((H6.out.below.cell (p := ⟨b, off + k * 3 + 1, none⟩) HL.out).trans Y2.out)) (fun hHeld => ?_)
          clear hK K
          try simp only [Act.put, List.setIfInBounds_toArray, List.set_cons_zero, List.set_cons_succ]
          obtain ⟨A6, cap6, hu6⟩ := row_shape H6.out.wf.row
          obtain ⟨q0, q1⟩ := one_at H6.out.wf.blk
          rw [hu6] at q0
          clear hu6 hHeld
          refine wpAnyH_swap (S' := fun w' => w'.cell? ⟨q, 0, none⟩ = some (.slice A6 L cap6) ∧ (w'.cell? ⟨b, off + k * 3, none⟩ = some (.int .u32 (g.V k : Nat)) ∧ w'.cell? ⟨b, off + k * 3 + 1, none⟩ = some (.int .i64 (g.N k)))) (fun _ h => h.2) _ _ _ _ ?_
          have hHeld := And.intro q0 (And.intro ((H6.out.below.cell (p := ⟨b, off + k * 3, none⟩) HL.out).trans (HC.out k hlt).1) ((H6.out.below.cell (p := ⟨b, off + k * 3 + 1, none⟩) HL.out).trans Y2.out))
          refine wpAnyH_take (i := 24) (v := ?_) (by simp only [List.getElem?_toArray, List.getElem?_cons_zero, List.getElem?_cons_succ]; rfl) (by kernel_rfl) (by kernel_rfl) (by kernel_rfl) (by intro _ _ _ h; exact h) (Or.inl ⟨by rfl, ?_⟩) hHeld ?_
          rotate_left
          · (intro w hSw; (try dsimp only at hSw); go_simp; try with_reducible rfl)
          try simp only [Act.put, List.setIfInBounds_toArray, List.set_cons_zero, List.set_cons_succ]
          refine wpAnyH_take (i := 25) (v := ?_) (by simp only [List.getElem?_toArray, List.getElem?_cons_zero, List.getElem?_cons_succ]; rfl) (by kernel_rfl) (by kernel_rfl) (by kernel_rfl) (by intro _ _ _ h; exact h) (Or.inl ⟨by rfl, ?_⟩) hHeld ?_
          rotate_left
          · (intro w hSw; (try dsimp only at hSw); go_simp; try with_reducible rfl)
          try simp only [Act.put, List.setIfInBounds_toArray, List.set_cons_zero, List.set_cons_succ]
          refine wpAnyH_take (i := 26) (v := ?_) (by simp only [List.getElem?_toArray, List.getElem?_cons_zero, List.getElem?_cons_succ]; rfl) (by kernel_rfl) (by kernel_rfl) (by kernel_rfl) (by intro _ _ _ h; exact h) (Or.inl ⟨by rfl, ?_⟩) hHeld ?_
          rotate_left
          · (intro w hSw; (try dsimp only at hSw); go_simp; try with_reducible rfl)
          try simp only [Act.put, List.setIfInBounds_toArray, List.set_cons_zero, List.set_cons_succ]
          refine wpAnyH_take (i := 28) (v := ?_) (by simp only [List.getElem?_toArray, List.getElem?_cons_zero, List.getElem?_cons_succ]; rfl) (by kernel_rfl) (by kernel_rfl) (by kernel_rfl) (by intro _ _ _ h; exact h) (Or.inl ⟨by rfl, ?_⟩) hHeld ?_
          rotate_left
          · (intro w hSw; (try dsimp only at hSw); go_simp; try with_reducible rfl)
          try simp only [Act.put, List.setIfInBounds_toArray, List.set_cons_zero, List.set_cons_succ]
          refine wpAnyH_take (i := 29) (v := ?_) (by simp only [List.getElem?_toArray, List.getElem?_cons_zero, List.getElem?_cons_succ]; rfl) (by kernel_rfl) (by kernel_rfl) (by kernel_rfl) (by intro _ _ _ h; exact h) (Or.inl ⟨by rfl, ?_⟩) hHeld ?_
          rotate_left
          · (intro w hSw; (try dsimp only at hSw); go_simp; try with_reducible rfl)
          try simp only [Act.put, List.setIfInBounds_toArray, List.set_cons_zero, List.set_cons_succ]
          refine wpAnyH_take (i := 30) (v := ?_) (by simp only [List.getElem?_toArray, List.getElem?_cons_zero, List.getElem?_cons_succ]; rfl) (by kernel_rfl) (by kernel_rfl) (by kernel_rfl) (by intro _ _ _ h; exact h) (Or.inl ⟨by rfl, ?_⟩) hHeld ?_
          rotate_left
          · (intro w hSw; (try dsimp only at hSw); go_simp; try with_reducible rfl)
          try simp only [Act.put, List.setIfInBounds_toArray, List.set_cons_zero, List.set_cons_succ]
          refine wpAnyH_take (i := 31) (v := ?_) (by simp only [List.getElem?_toArray, List.getElem?_cons_zero, List.getElem?_cons_succ]; rfl) (by kernel_rfl) (by kernel_rfl) (by kernel_rfl) (by intro _ _ _ h; exact h) (Or.inl ⟨by rfl, ?_⟩) hHeld ?_
          rotate_left
          · (intro w hSw; (try dsimp only at hSw); go_simp; try with_reducible rfl)
          try simp only [Act.put, List.setIfInBounds_toArray, List.set_cons_zero, List.set_cons_succ]
          refine wpAnyH_take (i := 32) (v := ?_) (by simp only [List.getElem?_toArray, List.getElem?_cons_zero, List.getElem?_cons_succ]; rfl) (by kernel_rfl) (by kernel_rfl) (by kernel_rfl) (by intro _ _ _ h; exact h) (Or.inl ⟨by rfl, ?_⟩) hHeld ?_
          rotate_left
          · (intro w hSw; (try dsimp only at hSw); go_simp; try with_reducible rfl)
          try simp only [Act.put, List.setIfInBounds_toArray, List.set_cons_zero, List.set_cons_succ]
          refine wpAnyH_ready (rs := [27]) (by kernel_rfl) (by simp) ?_
          refine AllReadyH.cons (by simp only [List.getElem?_toArray, List.getElem?_cons_zero, List.getElem?_cons_succ]; rfl) (fun K hK => ?_) AllReadyH.nil
          go_simp
          refine (len16 _ _ p _ _ L H6.out.wr (by omega)).mono ?_
          rintro e _ ⟨rfl, m6, rfl⟩
          refine hK.out _ _ (And.intro q0 (And.intro ((H6.out.below.cell (p := ⟨b, off + k * 3, none⟩) HL.out).trans (HC.out k hlt).1) ((H6.out.below.cell (p := ⟨b, off + k * 3 + 1, none⟩) HL.out).trans Y2.out))) (fun hHeld => ?_)
          clear hK K
          try simp only [Act.put, List.setIfInBounds_toArray, List.set_cons_zero, List.set_cons_succ]
          refine wpAnyH_take (i := 33) (v := ?_) (by simp only [List.getElem?_toArray, List.getElem?_cons_zero, List.getElem?_cons_succ]; rfl) (by kernel_rfl) (by kernel_rfl) (by kernel_rfl) (by intro _ _ _ h; exact h) (Or.inl ⟨by rfl, ?_⟩) hHeld ?_
          rotate_left
          · (intro w hSw; (try dsimp only at hSw); go_simp; try with_reducible rfl)
          try simp only [Act.put, List.setIfInBounds_toArray, List.set_cons_zero, List.set_cons_succ]
          refine wpAnyH_take (i := 34) (v := ?_) (by simp only [List.getElem?_toArray, List.getElem?_cons_zero, List.getElem?_cons_succ]; rfl) (by kernel_rfl) (by kernel_rfl) (by kernel_rfl) (by intro _ _ _ h; exact h) (Or.inl ⟨by rfl, ?_⟩) hHeld ?_
          rotate_left
          · (intro w hSw; (try dsimp only at hSw); go_simp; try with_reducible rfl)
          try simp only [Act.put, List.setIfInBounds_toArray, List.set_cons_zero, List.set_cons_succ]
          refine wpAnyH_done (by kernel_rfl) ?_ _
          have hL3 : L ≤ 39 * (k + 1) := by omega
          clear q0 q1 hHeld
          by_cases h64 : y64 = 5
          · have t9 : ((y64 : Int) == 5) = true := by rw [h64]; rfl
            clear h64
            go_wp2_with fail
            refine ((H1.out.drewN _).bytes (by omega)).mono ?_
            rintro e w8 ⟨A8, c8, rfl, hw8, ho8, hb8⟩
            have H8 := Lib.hid hw8
            have HA8 := Lib.hid (row_cells ho8)
            clear hw8 ho8 hb8
            go_wp2_with fail
            refine (rbytes22 _ _ q _ _ _ H8.out.wf (by omega)).mono ?_
            rintro e w9 ⟨v9, rfl, hb9, ho9⟩
            obtain ⟨A9, c9, hv9⟩ := row_shape ho9
            subst hv9
            have H9 := Lib.hid (H8.out.fresh hb9)
            have HA9 := Lib.hid (row_cells ho9)
            have HA89 := Lib.hid (HA8.out.below hb9 (Nat.le_refl _))
            clear hb9 ho9
            go_wp2_with fail
            refine (same17 (fun i => (byteAt N i : Nat)) A8 A9 _ c8 c9 _ _ w9 (by omega) HA89.out HA9.out).mono ?_
            rintro e _ ⟨rfl, m9, rfl⟩
            go_wp2_with fail
            refine (H9.out.drewN m9).turn.mono ?_
            rintro e w10 ⟨rfl, hw10⟩
            have H10 := Lib.hid hw10
            clear hw10
            go_wp2_with fail
            go_roundw
            case rel => exact ⟨k + 1, N, L, _, _, by omega, by omega, by go_num, by omega, H10.out⟩
            case measure => simp [intOf]; omega
          · have t9 : ((y64 : Int) == 5) = false := by simp; omega
            clear h64
            go_wp2_with fail
            go_roundw
            case rel => exact ⟨k + 1, N, L, _, _, by omega, by omega, by go_num, by omega, (H1.out.drewN _)⟩
            case measure => simp [intOf]; omega
      · rw [hal] at c3
        clear hal
        have X1 := Lib.hid x1
        have X2 := Lib.hid x2
        clear x1 x2
        go_wp2_with fail
        refine (H0.out.align (by omega)).mono ?_
        rintro e w3 ⟨rfl, v3, hw3⟩
        have H3 := Lib.hid hw3
        clear hw3 c3
        go_wp2_with fail
        refine (H3.out.ralign (by omega)).mono ?_
        rintro e w4 ⟨rfl, u4, hw4⟩
        obtain ⟨la, hla⟩ : ∃ la, la = up8 L := ⟨_, rfl⟩
        have hla2 : la ≤ L + 7 := by unfold up8 at hla; omega
        rw [← hla] at hw4
        have H1 := Lib.hid hw4
        clear hw4 H3 hla
        have x2 := X2.out
        have c1 := (H1.out.below.cell (p := ⟨b, off + k * 3, none⟩) HL.out).trans X1.out
        have c2 := (H1.out.below.cell (p := ⟨b, off + k * 3 + 1, none⟩) HL.out).trans x2
        by_cases hin : 0 ≤ g.N k ∧ g.N k ≤ 32
        · obtain ⟨s, hs⟩ : ∃ s : Nat, g.N k = s := ⟨(g.N k).toNat, by omega⟩
          have hs1 : s ≤ 32 := by omega
          rw [hs] at c2
          have Y2 : Hid (W.cell? ⟨b, off + k * 3 + 1, none⟩ = some (.int .i64 (s : Nat))) := Lib.hid (by rw [← hs]; exact x2)
          clear hin hs x2 hN1 hN2
          go_wp2_with fail
          refine wp_region_held_drew (S := fun w' => w'.cell? ⟨b, off + k * 3, none⟩ = some (.int .u32 (g.V k : Nat)) ∧ w'.cell? ⟨b, off + k * 3 + 1, none⟩ = some (.int .i64 (s : Nat))) (by kernel_rfl) ⟨c1, c2⟩ (fun hHeld => ?_)
          refine wpAnyH_take (i := 0) (v := ?_) (by simp only [List.getElem?_toArray, List.getElem?_cons_zero]; rfl) (by kernel_rfl) (by kernel_rfl) (by kernel_rfl) (by intro _ _ _ h; exact h) (Or.inl ⟨by rfl, ?_⟩) hHeld ?_
          rotate_left
          · (intro w hSw; (try dsimp only at hSw); go_simp; try with_reducible rfl)
          try simp only [Act.put, List.setIfInBounds_toArray, List.set_cons_zero, List.set_cons_succ]
          refine wpAnyH_take (i := 1) (v := ?_) (by simp only [List.getElem?_toArray, List.getElem?_cons_zero, List.getElem?_cons_succ]; rfl) (by kernel_rfl) (by kernel_rfl) (by kernel_rfl) (by intro _ _ _ h; exact h) (Or.inl ⟨by rfl, ?_⟩) hHeld ?_
          rotate_left
          · (intro w hSw; (try dsimp only at hSw); go_simp; try with_reducible rfl)
          try simp only [Act.put, List.setIfInBounds_toArray, List.set_cons_zero, List.set_cons_succ]
          refine wpAnyH_take (i := 2) (v := ?_) (by simp only [List.getElem?_toArray, List.getElem?_cons_zero, List.getElem?_cons_succ]; rfl) (by kernel_rfl) (by kernel_rfl) (by kernel_rfl) (by intro _ _ _ h; exact h) (Or.inl ⟨by rfl, ?_⟩) hHeld ?_
          rotate_left
          · (intro w hSw; (try dsimp only at hSw); go_simp; try with_reducible rfl)
          try simp only [Act.put, List.setIfInBounds_toArray, List.set_cons_zero, List.set_cons_succ]
          refine wpAnyH_take (i := 3) (v := ?_) (by simp only [List.getElem?_toArray, List.getElem?_cons_zero, List.getElem?_cons_succ]; rfl) (by kernel_rfl) (by kernel_rfl) (by kernel_rfl) (by intro _ _ _ h; exact h) (Or.inl ⟨by rfl, ?_⟩) hHeld ?_
          rotate_left
          · (intro w hSw; (try dsimp only at hSw); go_simp; try with_reducible rfl)
          try simp only [Act.put, List.setIfInBounds_toArray, List.set_cons_zero, List.set_cons_succ]
          refine wpAnyH_take (i := 4) (v := ?_) (by simp only [List.getElem?_toArray, List.getElem?_cons_zero, List.getElem?_cons_succ]; rfl) (by kernel_rfl) (by kernel_rfl) (by kernel_rfl) (by intro _ _ _ h; exact h) (Or.inl ⟨by rfl, ?_⟩) hHeld ?_
          rotate_left
          · (intro w hSw; (try dsimp only at hSw); go_simp; try with_reducible rfl)
          try simp only [Act.put, List.setIfInBounds_toArray, List.set_cons_zero, List.set_cons_succ]
          refine wpAnyH_take (i := 5) (v := ?_) (by simp only [List.getElem?_toArray, List.getElem?_cons_zero, List.getElem?_cons_succ]; rfl) (by kernel_rfl) (by kernel_rfl) (by kernel_rfl) (by intro _ _ _ h; exact h) (Or.inl ⟨by rfl, ?_⟩) hHeld ?_
          rotate_left
          · (intro w hSw; (try dsimp only at hSw); go_simp; try with_reducible rfl)
          try simp only [Act.put, List.setIfInBounds_toArray, List.set_cons_zero, List.set_cons_succ]
          refine wpAnyH_take (i := 6) (v := ?_) (by simp only [List.getElem?_toArray, List.getElem?_cons_zero, List.getElem?_cons_succ]; rfl) (by kernel_rfl) (by kernel_rfl) (by kernel_rfl) (by intro _ _ _ h; exact h) (Or.inl ⟨by rfl, ?_⟩) hHeld ?_
          rotate_left
          · (intro w hSw; (try dsimp only at hSw); go_simp; try with_reducible rfl)
          try simp only [Act.put, List.setIfInBounds_toArray, List.set_cons_zero, List.set_cons_succ]
          refine wpAnyH_take (i := 7) (v := ?_) (by simp only [List.getElem?_toArray, List.getElem?_cons_zero, List.getElem?_cons_succ]; rfl) (by kernel_rfl) (by kernel_rfl) (by kernel_rfl) (by intro _ _ _ h; exact h) (Or.inl ⟨by rfl, ?_⟩) hHeld ?_
          rotate_left
          · (intro w hSw; (try dsimp only at hSw); go_simp; try with_reducible rfl)
          try simp only [Act.put, List.setIfInBounds_toArray, List.set_cons_zero, List.set_cons_succ]
          refine wpAnyH_take (i := 8) (v := ?_) (by simp only [List.getElem?_toArray, List.getElem?_cons_zero, List.getElem?_cons_succ]; rfl) (by kernel_rfl) (by kernel_rfl) (by kernel_rfl) (by intro _ _ _ h; exact h) (Or.inl ⟨by rfl, ?_⟩) hHeld ?_
          rotate_left
          · (intro w hSw; (try dsimp only at hSw); go_simp; try with_reducible rfl)
          try simp only [Act.put, List.setIfInBounds_toArray, List.set_cons_zero, List.set_cons_succ]
          refine wpAnyH_take (i := 9) (v := ?_) (by simp only [List.getElem?_toArray, List.getElem?_cons_zero, List.getElem?_cons_succ]; rfl) (by kernel_rfl) (by kernel_rfl) (by kernel_rfl) (by intro _ _ _ h; exact h) (Or.inl ⟨by rfl, ?_⟩) hHeld ?_
          rotate_left
          · (intro w hSw; (try dsimp only at hSw); go_simp; try with_reducible rfl)
          try simp only [Act.put, List.setIfInBounds_toArray, List.set_cons_zero, List.set_cons_succ]
          refine wpAnyH_take (i := 10) (v := ?_) (by simp only [List.getElem?_toArray, List.getElem?_cons_zero, List.getElem?_cons_succ]; rfl) (by kernel_rfl) (by kernel_rfl) (by kernel_rfl) (by intro _ _ _ h; exact h) (Or.inl ⟨by rfl, ?_⟩) hHeld ?_
          rotate_left
          · (intro w hSw; (try dsimp only at hSw); go_simp; try with_reducible rfl)
          try simp only [Act.put, List.setIfInBounds_toArray, List.set_cons_zero, List.set_cons_succ]
          refine wpAnyH_take (i := 12) (v := ?_) (by simp only [List.getElem?_toArray, List.getElem?_cons_zero, List.getElem?_cons_succ]; rfl) (by kernel_rfl) (by kernel_rfl) (by kernel_rfl) (by intro _ _ _ h; exact h) (Or.inl ⟨by rfl, ?_⟩) hHeld ?_
          rotate_left
          · (intro w hSw; (try dsimp only at hSw); go_simp; try with_reducible rfl)
          try simp only [Act.put, List.setIfInBounds_toArray, List.set_cons_zero, List.set_cons_succ]
          refine wpAnyH_take (i := 13) (v := ?_) (by simp only [List.getElem?_toArray, List.getElem?_cons_zero, List.getElem?_cons_succ]; rfl) (by kernel_rfl) (by kernel_rfl) (by kernel_rfl) (by intro _ _ _ h; exact h) (Or.inl ⟨by rfl, ?_⟩) hHeld ?_
          rotate_left
          · (intro w hSw; (try dsimp only at hSw); go_simp; try with_reducible rfl)
          try simp only [Act.put, List.setIfInBounds_toArray, List.set_cons_zero, List.set_cons_succ]
          refine wpAnyH_take (i := 14) (v := ?_) (by simp only [List.getElem?_toArray, List.getElem?_cons_zero, List.getElem?_cons_succ]; rfl) (by kernel_rfl) (by kernel_rfl) (by kernel_rfl) (by intro _ _ _ h; exact h) (Or.inl ⟨by rfl, ?_⟩) hHeld ?_
          rotate_left
          · (intro w hSw; (try dsimp only at hSw); go_simp; try with_reducible rfl)
          try simp only [Act.put, List.setIfInBounds_toArray, List.set_cons_zero, List.set_cons_succ]
          refine wpAnyH_take (i := 15) (v := ?_) (by simp only [List.getElem?_toArray, List.getElem?_cons_zero, List.getElem?_cons_succ]; rfl) (by kernel_rfl) (by kernel_rfl) (by kernel_rfl) (by intro _ _ _ h; exact h) (Or.inl ⟨by rfl, ?_⟩) hHeld ?_
          rotate_left
          · (intro w hSw; (try dsimp only at hSw); go_simp; try with_reducible rfl)
          try simp only [Act.put, List.setIfInBounds_toArray, List.set_cons_zero, List.set_cons_succ]
          refine wpAnyH_take (i := 16) (v := ?_) (by simp only [List.getElem?_toArray, List.getElem?_cons_zero, List.getElem?_cons_succ]; rfl) (by kernel_rfl) (by kernel_rfl) (by kernel_rfl) (by intro _ _ _ h; exact h) (Or.inl ⟨by rfl, ?_⟩) hHeld ?_
          rotate_left
          · (intro w hSw; (try dsimp only at hSw); go_simp; try with_reducible rfl)
          try simp only [Act.put, List.setIfInBounds_toArray, List.set_cons_zero, List.set_cons_succ]
          refine wpAnyH_take (i := 17) (v := ?_) (by simp only [List.getElem?_toArray, List.getElem?_cons_zero, List.getElem?_cons_succ]; rfl) (by kernel_rfl) (by kernel_rfl) (by kernel_rfl) (by intro _ _ _ h; exact h) (Or.inl ⟨by rfl, ?_⟩) hHeld ?_
          rotate_left
          · (intro w hSw; (try dsimp only at hSw); go_simp; try with_reducible rfl)
          try simp only [Act.put, List.setIfInBounds_toArray, List.set_cons_zero, List.set_cons_succ]
          refine wpAnyH_take (i := 18) (v := ?_) (by simp only [List.getElem?_toArray, List.getElem?_cons_zero, List.getElem?_cons_succ]; rfl) (by kernel_rfl) (by kernel_rfl) (by kernel_rfl) (by intro _ _ _ h; exact h) (Or.inl ⟨by rfl, ?_⟩) hHeld ?_
          rotate_left
          · (intro w hSw; (try dsimp only at hSw); go_simp; try with_reducible rfl)
          try simp only [Act.put, List.setIfInBounds_toArray, List.set_cons_zero, List.set_cons_succ]
          refine wpAnyH_take (i := 19) (v := ?_) (by simp only [List.getElem?_toArray, List.getElem?_cons_zero, List.getElem?_cons_succ]; rfl) (by kernel_rfl) (by kernel_rfl) (by kernel_rfl) (by intro _ _ _ h; exact h) (Or.inl ⟨by rfl, ?_⟩) hHeld ?_
          rotate_left
          · (intro w hSw; (try dsimp only at hSw); go_simp; try with_reducible rfl)
          try simp only [Act.put, List.setIfInBounds_toArray, List.set_cons_zero, List.set_cons_succ]
          refine wpAnyH_take (i := 20) (v := ?_) (by simp only [List.getElem?_toArray, List.getElem?_cons_zero, List.getElem?_cons_succ]; rfl) (by kernel_rfl) (by kernel_rfl) (by kernel_rfl) (by intro _ _ _ h; exact h) (Or.inl ⟨by rfl, ?_⟩) hHeld ?_
          rotate_left
          · (intro w hSw; (try dsimp only at hSw); go_simp; try with_reducible rfl)
          try simp only [Act.put, List.setIfInBounds_toArray, List.set_cons_zero, List.set_cons_succ]
          refine wpAnyH_take (i := 21) (v := ?_) (by simp only [List.getElem?_toArray, List.getElem?_cons_zero, List.getElem?_cons_succ]; rfl) (by kernel_rfl) (by kernel_rfl) (by kernel_rfl) (by intro _ _ _ h; exact h) (Or.inl ⟨by rfl, ?_⟩) hHeld ?_
          rotate_left
          · (intro w hSw; (try dsimp only at hSw); go_simp; try with_reducible rfl)
          try simp only [Act.put, List.setIfInBounds_toArray, List.set_cons_zero, List.set_cons_succ]
          refine wpAnyH_take (i := 22) (v := ?_) (by simp only [List.getElem?_toArray, List.getElem?_cons_zero, List.getElem?_cons_succ]; rfl) (by kernel_rfl) (by kernel_rfl) (by kernel_rfl) (by intro _ _ _ h; exact h) (Or.inl ⟨by rfl, ?_⟩) hHeld ?_
          rotate_left
          · (intro w hSw; (try dsimp only at hSw); go_simp; try with_reducible rfl)
          try simp only [Act.put, List.setIfInBounds_toArray, List.set_cons_zero, List.set_cons_succ]
          refine wpAnyH_ready (rs := [11]) (by kernel_rfl) (by simp) ?_
          refine AllReadyH.cons (by simp only [List.getElem?_toArray, List.getElem?_cons_zero, List.getElem?_cons_succ]; rfl) (fun K hK => ?_) AllReadyH.nil
          go_simp
          refine (H1.out.drew.put (g.V k) s hs1 hV (by omega)).mono ?_
          rintro e w5 ⟨rfl, v5, hw5⟩
          have H5 := Lib.hid hw5
          clear hw5
          refine hK.out _ _ (And.intro ((H5.out.below.cell (p := ⟨b, off + k * 3, none⟩) HL.out).trans (HC.out k hlt).1) ((H5.out.below.cell (p := ⟨b, off + k * 3 + 1, none⟩) HL.out).trans Y2.out)) (fun hHeld => ?_)
          clear hK K
          try simp only [Act.put, List.setIfInBounds_toArray, List.set_cons_zero, List.set_cons_succ]
          refine wpAnyH_ready (rs := [23]) (by kernel_rfl) (by simp) ?_
          refine AllReadyH.cons (by simp only [List.getElem?_toArray, List.getElem?_cons_zero, List.getElem?_cons_succ]; rfl) (fun K hK => ?_) AllReadyH.nil
          go_simp
          refine (H5.out.rput (g.V k) s hs1 hV (by omega)).mono ?_
          rintro e w6 ⟨rfl, u6, hw6⟩
          have H6 := Lib.hid hw6
          clear hw6
          refine hK.out _ _ (And.intro ((H6.out.below.cell (p := ⟨b, off + k * 3, none⟩) HL.out).trans (HC.out k hlt).1) ((H6.out.below.cell (p := ⟨b, off + k * 3 + 1, none⟩) HL.out).trans Y2.out)) (fun hHeld => ?_)
          clear hK K
          try simp only [Act.put, List.setIfInBounds_toArray, List.set_cons_zero, List.set_cons_succ]
          obtain ⟨A6, cap6, hu6⟩ := row_shape H6.out.wf.row
          obtain ⟨q0, q1⟩ := one_at H6.out.wf.blk
          rw [hu6] at q0
          clear hu6 hHeld
          refine wpAnyH_swap (S' := fun w' => w'.cell? ⟨q, 0, none⟩ = some (.slice A6 (la + s) cap6) ∧ (w'.cell? ⟨b, off + k * 3, none⟩ = some (.int .u32 (g.V k : Nat)) ∧ w'.cell? ⟨b, off + k * 3 + 1, none⟩ = some (.int .i64 (s : Nat)))) (fun _ h => h.2) _ _ _ _ ?_
          have hHeld := And.intro q0 (And.intro ((H6.out.below.cell (p := ⟨b, off + k * 3, none⟩) HL.out).trans (HC.out k hlt).1) ((H6.out.below.cell (p := ⟨b, off + k * 3 + 1, none⟩) HL.out).trans Y2.out))
          refine wpAnyH_take (i := 24) (v := ?_) (by simp only [List.getElem?_toArray, List.getElem?_cons_zero, List.getElem?_cons_succ]; rfl) (by kernel_rfl) (by kernel_rfl) (by kernel_rfl) (by intro _ _ _ h; exact h) (Or.inl ⟨by rfl, ?_⟩) hHeld ?_
          rotate_left
          · (intro w hSw; (try dsimp only at hSw); go_simp; try with_reducible rfl)
          try simp only [Act.put, List.setIfInBounds_toArray, List.set_cons_zero, List.set_cons_succ]
          refine wpAnyH_take (i := 25) (v := ?_) (by simp only [List.getElem?_toArray, List.getElem?_cons_zero, List.getElem?_cons_succ]; rfl) (by kernel_rfl) (by kernel_rfl) (by kernel_rfl) (by intro _ _ _ h; exact h) (Or.inl ⟨by rfl, ?_⟩) hHeld ?_
          rotate_left
          · (intro w hSw; (try dsimp only at hSw); go_simp; try with_reducible rfl)
          try simp only [Act.put, List.setIfInBounds_toArray, List.set_cons_zero, List.set_cons_succ]
          refine wpAnyH_take (i := 26) (v := ?_) (by simp only [List.getElem?_toArray, List.getElem?_cons_zero, List.getElem?_cons_succ]; rfl) (by kernel_rfl) (by kernel_rfl) (by kernel_rfl) (by intro _ _ _ h; exact h) (Or.inl ⟨by rfl, ?_⟩) hHeld ?_
          rotate_left
          · (intro w hSw; (try dsimp only at hSw); go_simp; try with_reducible rfl)
          try simp only [Act.put, List.setIfInBounds_toArray, List.set_cons_zero, List.set_cons_succ]
          refine wpAnyH_take (i := 28) (v := ?_) (by simp only [List.getElem?_toArray, List.getElem?_cons_zero, List.getElem?_cons_succ]; rfl) (by kernel_rfl) (by kernel_rfl) (by kernel_rfl) (by intro _ _ _ h; exact h) (Or.inl ⟨by rfl, ?_⟩) hHeld ?_
          rotate_left
          · (intro w hSw; (try dsimp only at hSw); go_simp; try with_reducible rfl)
          try simp only [Act.put, List.setIfInBounds_toArray, List.set_cons_zero, List.set_cons_succ]
          refine wpAnyH_take (i := 29) (v := ?_) (by simp only [List.getElem?_toArray, List.getElem?_cons_zero, List.getElem?_cons_succ]; rfl) (by kernel_rfl) (by kernel_rfl) (by kernel_rfl) (by intro _ _ _ h; exact h) (Or.inl ⟨by rfl, ?_⟩) hHeld ?_
          rotate_left
          · (intro w hSw; (try dsimp only at hSw); go_simp; try with_reducible rfl)
          try simp only [Act.put, List.setIfInBounds_toArray, List.set_cons_zero, List.set_cons_succ]
          refine wpAnyH_take (i := 30) (v := ?_) (by simp only [List.getElem?_toArray, List.getElem?_cons_zero, List.getElem?_cons_succ]; rfl) (by kernel_rfl) (by kernel_rfl) (by kernel_rfl) (by intro _ _ _ h; exact h) (Or.inl ⟨by rfl, ?_⟩) hHeld ?_
          rotate_left
          · (intro w hSw; (try dsimp only at hSw); go_simp; try with_reducible rfl)
          try simp only [Act.put, List.setIfInBounds_toArray, List.set_cons_zero, List.set_cons_succ]
          refine wpAnyH_take (i := 31) (v := ?_) (by simp only [List.getElem?_toArray, List.getElem?_cons_zero, List.getElem?_cons_succ]; rfl) (by kernel_rfl) (by kernel_rfl) (by kernel_rfl) (by intro _ _ _ h; exact h) (Or.inl ⟨by rfl, ?_⟩) hHeld ?_
          rotate_left
          · (intro w hSw; (try dsimp only at hSw); go_simp; try with_reducible rfl)
          try simp only [Act.put, List.setIfInBounds_toArray, List.set_cons_zero, List.set_cons_succ]
          refine wpAnyH_take (i := 32) (v := ?_) (by simp only [List.getElem?_toArray, List.getElem?_cons_zero, List.getElem?_cons_succ]; rfl) (by kernel_rfl) (by kernel_rfl) (by kernel_rfl) (by intro _ _ _ h; exact h) (Or.inl ⟨by rfl, ?_⟩) hHeld ?_
          rotate_left
          · (intro w hSw; (try dsimp only at hSw); go_simp; try with_reducible rfl)
          try simp only [Act.put, List.setIfInBounds_toArray, List.set_cons_zero, List.set_cons_succ]
          refine wpAnyH_ready (rs := [27]) (by kernel_rfl) (by simp) ?_
          refine AllReadyH.cons (by simp only [List.getElem?_toArray, List.getElem?_cons_zero, List.getElem?_cons_succ]; rfl) (fun K hK => ?_) AllReadyH.nil
          go_simp
          refine (len16 _ _ p _ _ (la + s) H6.out.wr (by omega)).mono ?_
          rintro e _ ⟨rfl, m6, rfl⟩
          refine hK.out _ _ (And.intro q0 (And.intro ((H6.out.below.cell (p := ⟨b, off + k * 3, none⟩) HL.out).trans (HC.out k hlt).1) ((H6.out.below.cell (p := ⟨b, off + k * 3 + 1, none⟩) HL.out).trans Y2.out))) (fun hHeld => ?_)
          clear hK K
          try simp only [Act.put, List.setIfInBounds_toArray, List.set_cons_zero, List.set_cons_succ]
          refine wpAnyH_take (i := 33) (v := ?_) (by simp only [List.getElem?_toArray, List.getElem?_cons_zero, List.getElem?_cons_succ]; rfl) (by kernel_rfl) (by kernel_rfl) (by kernel_rfl) (by intro _ _ _ h; exact h) (Or.inl ⟨by rfl, ?_⟩) hHeld ?_
          rotate_left
          · (intro w hSw; (try dsimp only at hSw); go_simp; try with_reducible rfl)
          try simp only [Act.put, List.setIfInBounds_toArray, List.set_cons_zero, List.set_cons_succ]
          refine wpAnyH_take (i := 34) (v := ?_) (by simp only [List.getElem?_toArray, List.getElem?_cons_zero, List.getElem?_cons_succ]; rfl) (by kernel_rfl) (by kernel_rfl) (by kernel_rfl) (by intro _ _ _ h; exact h) (Or.inl ⟨by rfl, ?_⟩) hHeld ?_
          rotate_left
          · (intro w hSw; (try dsimp only at hSw); go_simp; try with_reducible rfl)
          try simp only [Act.put, List.setIfInBounds_toArray, List.set_cons_zero, List.set_cons_succ]
          refine wpAnyH_done (by kernel_rfl) ?_ _
          obtain ⟨N2, hN2⟩ : ∃ N2, N2 = N + g.V k % 2 ^ s * 2 ^ la := ⟨_, rfl⟩
          obtain ⟨L2, hL2⟩ : ∃ L2, L2 = la + s := ⟨_, rfl⟩
          have h7 := H6.out.drewN m6
          rw [← hN2, ← hL2] at h7
          have H7 := Lib.hid h7
          have hL3 : L2 ≤ 39 * (k + 1) := by omega
          clear h7 hN2 hL2 q0 q1 hHeld
          by_cases h64 : y64 = 5
          · have t9 : ((y64 : Int) == 5) = true := by rw [h64]; rfl
            clear h64
            go_wp2_with fail
            refine (H7.out.bytes (by omega)).mono ?_
            rintro e w8 ⟨A8, c8, rfl, hw8, ho8, hb8⟩
            have H8 := Lib.hid hw8
            have HA8 := Lib.hid (row_cells ho8)
            clear hw8 ho8 hb8
            go_wp2_with fail
            refine (rbytes22 _ _ q _ _ _ H8.out.wf (by omega)).mono ?_
            rintro e w9 ⟨v9, rfl, hb9, ho9⟩
            obtain ⟨A9, c9, hv9⟩ := row_shape ho9
            subst hv9
            have H9 := Lib.hid (H8.out.fresh hb9)
            have HA9 := Lib.hid (row_cells ho9)
            have HA89 := Lib.hid (HA8.out.below hb9 (Nat.le_refl _))
            clear hb9 ho9
            go_wp2_with fail
            refine (same17 (fun i => (byteAt N2 i : Nat)) A8 A9 _ c8 c9 _ _ w9 (by omega) HA89.out HA9.out).mono ?_
            rintro e _ ⟨rfl, m9, rfl⟩
            go_wp2_with fail
            refine (H9.out.drewN m9).turn.mono ?_
            rintro e w10 ⟨rfl, hw10⟩
            have H10 := Lib.hid hw10
            clear hw10
            go_wp2_with fail
            go_roundw
            case rel => exact ⟨k + 1, N2, L2, _, _, by omega, by omega, by go_num, by omega, H10.out⟩
            case measure => simp [intOf]; omega
          · have t9 : ((y64 : Int) == 5) = false := by simp; omega
            clear h64
            go_wp2_with fail
            go_roundw
            case rel => exact ⟨k + 1, N2, L2, _, _, by omega, by omega, by go_num, by omega, H7.out⟩
            case measure => simp [intOf]; omega
        · have hno : g.N k < 0 ∨ 32 < g.N k := by omega
          have HNO := Lib.hid hno
          have Y2 := Lib.hid x2
          clear hin hno x2
          go_wp2_with fail
          refine wp_region_held_drew (S := fun w' => w'.cell? ⟨b, off + k * 3, none⟩ = some (.int .u32 (g.V k : Nat)) ∧ w'.cell? ⟨b, off + k * 3 + 1, none⟩ = some (.int .i64 (g.N k))) (by kernel_rfl) ⟨c1, c2⟩ (fun hHeld => ?_)
          refine wpAnyH_take (i := 0) (v := ?_) (by simp only [List.getElem?_toArray, List.getElem?_cons_zero]; rfl) (by kernel_rfl) (by kernel_rfl) (by kernel_rfl) (by intro _ _ _ h; exact h) (Or.inl ⟨by rfl, ?_⟩) hHeld ?_
          rotate_left
          · (intro w hSw; (try dsimp only at hSw); go_simp; try with_reducible rfl)
          try simp only [Act.put, List.setIfInBounds_toArray, List.set_cons_zero, List.set_cons_succ]
          refine wpAnyH_take (i := 1) (v := ?_) (by simp only [List.getElem?_toArray, List.getElem?_cons_zero, List.getElem?_cons_succ]; rfl) (by kernel_rfl) (by kernel_rfl) (by kernel_rfl) (by intro _ _ _ h; exact h) (Or.inl ⟨by rfl, ?_⟩) hHeld ?_
          rotate_left
          · (intro w hSw; (try dsimp only at hSw); go_simp; try with_reducible rfl)
          try simp only [Act.put, List.setIfInBounds_toArray, List.set_cons_zero, List.set_cons_succ]
          refine wpAnyH_take (i := 2) (v := ?_) (by simp only [List.getElem?_toArray, List.getElem?_cons_zero, List.getElem?_cons_succ]; rfl) (by kernel_rfl) (by kernel_rfl) (by kernel_rfl) (by intro _ _ _ h; exact h) (Or.inl ⟨by rfl, ?_⟩) hHeld ?_
          rotate_left
          · (intro w hSw; (try dsimp only at hSw); go_simp; try with_reducible rfl)
          try simp only [Act.put, List.setIfInBounds_toArray, List.set_cons_zero, List.set_cons_succ]
          refine wpAnyH_take (i := 3) (v := ?_) (by simp only [List.getElem?_toArray, List.getElem?_cons_zero, List.getElem?_cons_succ]; rfl) (by kernel_rfl) (by kernel_rfl) (by kernel_rfl) (by intro _ _ _ h; exact h) (Or.inl ⟨by rfl, ?_⟩) hHeld ?_
          rotate_left
          · (intro w hSw; (try dsimp only at hSw); go_simp; try with_reducible rfl)
          try simp only [Act.put, List.setIfInBounds_toArray, List.set_cons_zero, List.set_cons_succ]
          refine wpAnyH_take (i := 4) (v := ?_) (by simp only [List.getElem?_toArray, List.getElem?_cons_zero, List.getElem?_cons_succ]; rfl) (by kernel_rfl) (by kernel_rfl) (by kernel_rfl) (by intro _ _ _ h; exact h) (Or.inl ⟨by rfl, ?_⟩) hHeld ?_
          rotate_left
          · (intro w hSw; (try dsimp only at hSw); go_simp; try with_reducible rfl)
          try simp only [Act.put, List.setIfInBounds_toArray, List.set_cons_zero, List.set_cons_succ]
          refine wpAnyH_take (i := 5) (v := ?_) (by simp only [List.getElem?_toArray, List.getElem?_cons_zero, List.getElem?_cons_succ]; rfl) (by kernel_rfl) (by kernel_rfl) (by kernel_rfl) (by intro _ _ _ h; exact h) (Or.inl ⟨by rfl, ?_⟩) hHeld ?_
          rotate_left
          · (intro w hSw; (try dsimp only at hSw); go_simp; try with_reducible rfl)
          try simp only [Act.put, List.setIfInBounds_toArray, List.set_cons_zero, List.set_cons_succ]
          refine wpAnyH_take (i := 6) (v := ?_) (by simp only [List.getElem?_toArray, List.getElem?_cons_zero, List.getElem?_cons_succ]; rfl) (by kernel_rfl) (by kernel_rfl) (by kernel_rfl) (by intro _ _ _ h; exact h) (Or.inl ⟨by rfl, ?_⟩) hHeld ?_
          rotate_left
          · (intro w hSw; (try dsimp only at hSw); go_simp; try with_reducible rfl)
          try simp only [Act.put, List.setIfInBounds_toArray, List.set_cons_zero, List.set_cons_succ]
          refine wpAnyH_take (i := 7) (v := ?_) (by simp only [List.getElem?_toArray, List.getElem?_cons_zero, List.getElem?_cons_succ]; rfl) (by kernel_rfl) (by kernel_rfl) (by kernel_rfl) (by intro _ _ _ h; exact h) (Or.inl ⟨by rfl, ?_⟩) hHeld ?_
          rotate_left
          · (intro w hSw; (try dsimp only at hSw); go_simp; try with_reducible rfl)
          try simp only [Act.put, List.setIfInBounds_toArray, List.set_cons_zero, List.set_cons_succ]
          refine wpAnyH_take (i := 8) (v := ?_) (by simp only [List.getElem?_toArray, List.getElem?_cons_zero, List.getElem?_cons_succ]; rfl) (by kernel_rfl) (by kernel_rfl) (by kernel_rfl) (by intro _ _ _ h; exact h) (Or.inl ⟨by rfl, ?_⟩) hHeld ?_
          rotate_left
          · (intro w hSw; (try dsimp only at hSw); go_simp; try with_reducible rfl)
          try simp only [Act.put, List.setIfInBounds_toArray, List.set_cons_zero, List.set_cons_succ]
          refine wpAnyH_take (i := 9) (v := ?_) (by simp only [List.getElem?_toArray, List.getElem?_cons_zero, List.getElem?_cons_succ]; rfl) (by kernel_rfl) (by kernel_rfl) (by kernel_rfl) (by intro _ _ _ h; exact h) (Or.inl ⟨by rfl, ?_⟩) hHeld ?_
          rotate_left
          · (intro w hSw; (try dsimp only at hSw); go_simp; try with_reducible rfl)
          try simp only [Act.put, List.setIfInBounds_toArray, List.set_cons_zero, List.set_cons_succ]
          refine wpAnyH_take (i := 10) (v := ?_) (by simp only [List.getElem?_toArray, List.getElem?_cons_zero, List.getElem?_cons_succ]; rfl) (by kernel_rfl) (by kernel_rfl) (by kernel_rfl) (by intro _ _ _ h; exact h) (Or.inl ⟨by rfl, ?_⟩) hHeld ?_
          rotate_left
          · (intro w hSw; (try dsimp only at hSw); go_simp; try with_reducible rfl)
          try simp only [Act.put, List.setIfInBounds_toArray, List.set_cons_zero, List.set_cons_succ]
          refine wpAnyH_take (i := 12) (v := ?_) (by simp only [List.getElem?_toArray, List.getElem?_cons_zero, List.getElem?_cons_succ]; rfl) (by kernel_rfl) (by kernel_rfl) (by kernel_rfl) (by intro _ _ _ h; exact h) (Or.inl ⟨by rfl, ?_⟩) hHeld ?_
          rotate_left
          · (intro w hSw; (try dsimp only at hSw); go_simp; try with_reducible rfl)
          try simp only [Act.put, List.setIfInBounds_toArray, List.set_cons_zero, List.set_cons_succ]
          refine wpAnyH_take (i := 13) (v := ?_) (by simp only [List.getElem?_toArray, List.getElem?_cons_zero, List.getElem?_cons_succ]; rfl) (by kernel_rfl) (by kernel_rfl) (by kernel_rfl) (by intro _ _ _ h; exact h) (Or.inl ⟨by rfl, ?_⟩) hHeld ?_
          rotate_left
          · (intro w hSw; (try dsimp only at hSw); go_simp; try with_reducible rfl)
          try simp only [Act.put, List.setIfInBounds_toArray, List.set_cons_zero, List.set_cons_succ]
          refine wpAnyH_take (i := 14) (v := ?_) (by simp only [List.getElem?_toArray, List.getElem?_cons_zero, List.getElem?_cons_succ]; rfl) (by kernel_rfl) (by kernel_rfl) (by kernel_rfl) (by intro _ _ _ h; exact h) (Or.inl ⟨by rfl, ?_⟩) hHeld ?_
          rotate_left
          · (intro w hSw; (try dsimp only at hSw); go_simp; try with_reducible rfl)
          try simp only [Act.put, List.setIfInBounds_toArray, List.set_cons_zero, List.set_cons_succ]
          refine wpAnyH_take (i := 15) (v := ?_) (by simp only [List.getElem?_toArray, List.getElem?_cons_zero, List.getElem?_cons_succ]; rfl) (by kernel_rfl) (by kernel_rfl) (by kernel_rfl) (by intro _ _ _ h; exact h) (Or.inl ⟨by rfl, ?_⟩) hHeld ?_
          rotate_left
          · (intro w hSw; (try dsimp only at hSw); go_simp; try with_reducible rfl)
          try simp only [Act.put, List.setIfInBounds_toArray, List.set_cons_zero, List.set_cons_succ]
          refine wpAnyH_take (i := 16) (v := ?_) (by simp only [List.getElem?_toArray, List.getElem?_cons_zero, List.getElem?_cons_succ]; rfl) (by kernel_rfl) (by kernel_rfl) (by kernel_rfl) (by intro _ _ _ h; exact h) (Or.inl ⟨by rfl, ?_⟩) hHeld ?_
          rotate_left
          · (intro w hSw; (try dsimp only at hSw); go_simp; try with_reducible rfl)
          try simp only [Act.put, List.setIfInBounds_toArray, List.set_cons_zero, List.set_cons_succ]
          refine wpAnyH_take (i := 17) (v := ?_) (by simp only [List.getElem?_toArray, List.getElem?_cons_zero, List.getElem?_cons_succ]; rfl) (by kernel_rfl) (by kernel_rfl) (by kernel_rfl) (by intro _ _ _ h; exact h) (Or.inl ⟨by rfl, ?_⟩) hHeld ?_
          rotate_left
          · (intro w hSw; (try dsimp only at hSw); go_simp; try with_reducible rfl)
          try simp only [Act.put, List.setIfInBounds_toArray, List.set_cons_zero, List.set_cons_succ]
          refine wpAnyH_take (i := 18) (v := ?_) (by simp only [List.getElem?_toArray, List.getElem?_cons_zero, List.getElem?_cons_succ]; rfl) (by kernel_rfl) (by kernel_rfl) (by kernel_rfl) (by intro _ _ _ h; exact h) (Or.inl ⟨by rfl, ?_⟩) hHeld ?_
          rotate_left
          · (intro w hSw; (try dsimp only at hSw); go_simp; try with_reducible rfl)
          try simp only [Act.put, List.setIfInBounds_toArray, List.set_cons_zero, List.set_cons_succ]
          refine wpAnyH_take (i := 19) (v := ?_) (by simp only [List.getElem?_toArray, List.getElem?_cons_zero, List.getElem?_cons_succ]; rfl) (by kernel_rfl) (by kernel_rfl) (by kernel_rfl) (by intro _ _ _ h; exact h) (Or.inl ⟨by rfl, ?_⟩) hHeld ?_
          rotate_left
          · (intro w hSw; (try dsimp only at hSw); go_simp; try with_reducible rfl)
          try simp only [Act.put, List.setIfInBounds_toArray, List.set_cons_zero, List.set_cons_succ]
          refine wpAnyH_take (i := 20) (v := ?_) (by simp only [List.getElem?_toArray, List.getElem?_cons_zero, List.getElem?_cons_succ]; rfl) (by kernel_rfl) (by kernel_rfl) (by kernel_rfl) (by intro _ _ _ h; exact h) (Or.inl ⟨by rfl, ?_⟩) hHeld ?_
          rotate_left
          · (intro w hSw; (try dsimp only at hSw); go_simp; try with_reducible rfl)
          try simp only [Act.put, List.setIfInBounds_toArray, List.set_cons_zero, List.set_cons_succ]
          refine wpAnyH_take (i := 21) (v := ?_) (by simp only [List.getElem?_toArray, List.getElem?_cons_zero, List.getElem?_cons_succ]; rfl) (by kernel_rfl) (by kernel_rfl) (by kernel_rfl) (by intro _ _ _ h; exact h) (Or.inl ⟨by rfl, ?_⟩) hHeld ?_
          rotate_left
          · (intro w hSw; (try dsimp only at hSw); go_simp; try with_reducible rfl)
          try simp only [Act.put, List.setIfInBounds_toArray, List.set_cons_zero, List.set_cons_succ]
          refine wpAnyH_take (i := 22) (v := ?_) (by simp only [List.getElem?_toArray, List.getElem?_cons_zero, List.getElem?_cons_succ]; rfl) (by kernel_rfl) (by kernel_rfl) (by kernel_rfl) (by intro _ _ _ h; exact h) (Or.inl ⟨by rfl, ?_⟩) hHeld ?_
          rotate_left
          · (intro w hSw; (try dsimp only at hSw); go_simp; try with_reducible rfl)
          try simp only [Act.put, List.setIfInBounds_toArray, List.set_cons_zero, List.set_cons_succ]
          refine wpAnyH_ready (rs := [11]) (by kernel_rfl) (by simp) ?_
          refine AllReadyH.cons (by simp only [List.getElem?_toArray, List.getElem?_cons_zero, List.getElem?_cons_succ]; rfl) (fun K hK => ?_) AllReadyH.nil
          go_simp
          refine (putno15 _ _ p _ _ _ _ (g.N k) H1.out.drew.wr HNO.out).mono ?_
          rintro e w5 ⟨rfl, rfl⟩
          have hw5 := H1.out.drew
          have H5 := Lib.hid hw5
          clear hw5
          refine hK.out _ _ (And.intro ((H5.out.below.cell (p := ⟨b, off + k * 3, none⟩) HL.out).trans (HC.out k hlt).1) ((H5.out.below.cell (p := ⟨b, off + k * 3 + 1, none⟩) HL.out).trans Y2.out)) (fun hHeld => ?_)
          clear hK K
          try simp only [Act.put, List.setIfInBounds_toArray, List.set_cons_zero, List.set_cons_succ]
          refine wpAnyH_ready (rs := [23]) (by kernel_rfl) (by simp) ?_
          refine AllReadyH.cons (by simp only [List.getElem?_toArray, List.getElem?_cons_zero, List.getElem?_cons_succ]; rfl) (fun K hK => ?_) AllReadyH.nil
          go_simp
          refine (rputno21 _ q _ (g.N k) HNO.out).mono ?_
          rintro e w6 ⟨rfl, rfl⟩
          have hw6 := H5.out
          have H6 := Lib.hid hw6
          clear hw6
          refine hK.out _ _ (And.intro ((H6.out.below.cell (p := ⟨b, off + k * 3, none⟩) HL.out).trans (HC.out k hlt).1) ((H6.out.below.cell (p := ⟨b, off + k * 3 + 1, none⟩) HL.out).trans Y2.out)) (fun hHeld => ?_)
          clear hK K
          try simp only [Act.put, List.setIfInBounds_toArray, List.set_cons_zero, List.set_cons_succ]
          obtain ⟨A6, cap6, hu6⟩ := row_shape H6.out.wf.row
          obtain ⟨q0, q1⟩ := one_at H6.out.wf.blk
          rw [hu6] at q0
          clear hu6 hHeld
          refine wpAnyH_swap (S' := fun w' => w'.cell? ⟨q, 0, none⟩ = some (.slice A6 la cap6) ∧ (w'.cell? ⟨b, off + k * 3, none⟩ = some (.int .u32 (g.V k : Nat)) ∧ w'.cell? ⟨b, off + k * 3 + 1, none⟩ = some (.int .i64 (g.N k)))) (fun _ h => h.2) _ _ _ _ ?_
          have hHeld := And.intro q0 (And.intro ((H6.out.below.cell (p := ⟨b, off + k * 3, none⟩) HL.out).trans (HC.out k hlt).1) ((H6.out.below.cell (p := ⟨b, off + k * 3 + 1, none⟩) HL.out).trans Y2.out))
          refine wpAnyH_take (i := 24) (v := ?_) (by simp only [List.getElem?_toArray, List.getElem?_cons_zero, List.getElem?_cons_succ]; rfl) (by kernel_rfl) (by kernel_rfl) (by kernel_rfl) (by intro _ _ _ h; exact h) (Or.inl ⟨by rfl, ?_⟩) hHeld ?_
          rotate_left
          · (intro w hSw; (try dsimp only at hSw); go_simp; try with_reducible rfl)
          try simp only [Act.put, List.setIfInBounds_toArray, List.set_cons_zero, List.set_cons_succ]
          refine wpAnyH_take (i := 25) (v := ?_) (by simp only [List.getElem?_toArray, List.getElem?_cons_zero, List.getElem?_cons_succ]; rfl) (by kernel_rfl) (by kernel_rfl) (by kernel_rfl) (by intro _ _ _ h; exact h) (Or.inl ⟨by rfl, ?_⟩) hHeld ?_
          rotate_left
          · (intro w hSw; (try dsimp only at hSw); go_simp; try with_reducible rfl)
          try simp only [Act.put, List.setIfInBounds_toArray, List.set_cons_zero, List.set_cons_succ]
          refine wpAnyH_take (i := 26) (v := ?_) (by simp only [List.getElem?_toArray, List.getElem?_cons_zero, List.getElem?_cons_succ]; rfl) (by kernel_rfl) (by kernel_rfl) (by kernel_rfl) (by intro _ _ _ h; exact h) (Or.inl ⟨by rfl, ?_⟩) hHeld ?_
          rotate_left
          · (intro w hSw; (try dsimp only at hSw); go_simp; try with_reducible rfl)
          try simp only [Act.put, List.setIfInBounds_toArray, List.set_cons_zero, List.set_cons_succ]
          refine wpAnyH_take (i := 28) (v := ?_) (by simp only [List.getElem?_toArray, List.getElem?_cons_zero, List.getElem?_cons_succ]; rfl) (by kernel_rfl) (by kernel_rfl) (by kernel_rfl) (by intro _ _ _ h; exact h) (Or.inl ⟨by rfl, ?_⟩) hHeld ?_
          rotate_left
          · (intro w hSw; (try dsimp only at hSw); go_simp; try with_reducible rfl)
          try simp only [Act.put, List.setIfInBounds_toArray, List.set_cons_zero, List.set_cons_succ]
          refine wpAnyH_take (i := 29) (v := ?_) (by simp only [List.getElem?_toArray, List.getElem?_cons_zero, List.getElem?_cons_succ]; rfl) (by kernel_rfl) (by kernel_rfl) (by kernel_rfl) (by intro _ _ _ h; exact h) (Or.inl ⟨by rfl, ?_⟩) hHeld ?_
          rotate_left
          · (intro w hSw; (try dsimp only at hSw); go_simp; try with_reducible rfl)
          try simp only [Act.put, List.setIfInBounds_toArray, List.set_cons_zero, List.set_cons_succ]
          refine wpAnyH_take (i := 30) (v := ?_) (by simp only [List.getElem?_toArray, List.getElem?_cons_zero, List.getElem?_cons_succ]; rfl) (by kernel_rfl) (by kernel_rfl) (by kernel_rfl) (by intro _ _ _ h; exact h) (Or.inl ⟨by rfl, ?_⟩) hHeld ?_
          rotate_left
          · (intro w hSw; (try dsimp only at hSw); go_simp; try with_reducible rfl)
          try simp only [Act.put, List.setIfInBounds_toArray, List.set_cons_zero, List.set_cons_succ]
          refine wpAnyH_take (i := 31) (v := ?_) (by simp only [List.getElem?_toArray, List.getElem?_cons_zero, List.getElem?_cons_succ]; rfl) (by kernel_rfl) (by kernel_rfl) (by kernel_rfl) (by intro _ _ _ h; exact h) (Or.inl ⟨by rfl, ?_⟩) hHeld ?_
          rotate_left
          · (intro w hSw; (try dsimp only at hSw); go_simp; try with_reducible rfl)
          try simp only [Act.put, List.setIfInBounds_toArray, List.set_cons_zero, List.set_cons_succ]
          refine wpAnyH_take (i := 32) (v := ?_) (by simp only [List.getElem?_toArray, List.getElem?_cons_zero, List.getElem?_cons_succ]; rfl) (by kernel_rfl) (by kernel_rfl) (by kernel_rfl) (by intro _ _ _ h; exact h) (Or.inl ⟨by rfl, ?_⟩) hHeld ?_
          rotate_left
          · (intro w hSw; (try dsimp only at hSw); go_simp; try with_reducible rfl)
          try simp only [Act.put, List.setIfInBounds_toArray, List.set_cons_zero, List.set_cons_succ]
          refine wpAnyH_ready (rs := [27]) (by kernel_rfl) (by simp) ?_
          refine AllReadyH.cons (by simp only [List.getElem?_toArray, List.getElem?_cons_zero, List.getElem?_cons_succ]; rfl) (fun K hK => ?_) AllReadyH.nil
          go_simp
          refine (len16 _ _ p _ _ la H6.out.wr (by omega)).mono ?_
          rintro e _ ⟨rfl, m6, rfl⟩
          refine hK.out _ _ (And.intro q0 (And.intro ((H6.out.below.cell (p := ⟨b, off + k * 3, none⟩) HL.out).trans (HC.out k hlt).1) ((H6.out.below.cell (p := ⟨b, off + k * 3 + 1, none⟩) HL.out).trans Y2.out))) (fun hHeld => ?_)
          clear hK K
          try simp only [Act.put, List.setIfInBounds_toArray, List.set_cons_zero, List.set_cons_succ]
          refine wpAnyH_take (i := 33) (v := ?_) (by simp only [List.getElem?_toArray, List.getElem?_cons_zero, List.getElem?_cons_succ]; rfl) (by kernel_rfl) (by kernel_rfl) (by kernel_rfl) (by intro _ _ _ h; exact h) (Or.inl ⟨by rfl, ?_⟩) hHeld ?_
          rotate_left
          · (intro w hSw; (try dsimp only at hSw); go_simp; try with_reducible rfl)
          try simp only [Act.put, List.setIfInBounds_toArray, List.set_cons_zero, List.set_cons_succ]
          refine wpAnyH_take (i := 34) (v := ?_) (by simp only [List.getElem?_toArray, List.getElem?_cons_zero, List.getElem?_cons_succ]; rfl) (by kernel_rfl) (by kernel_rfl) (by kernel_rfl) (by intro _ _ _ h; exact h) (Or.inl ⟨by rfl, ?_⟩) hHeld ?_
          rotate_left
          · (intro w hSw; (try dsimp only at hSw); go_simp; try with_reducible rfl)
          try simp only [Act.put, List.setIfInBounds_toArray, List.set_cons_zero, List.set_cons_succ]
          refine wpAnyH_done (by kernel_rfl) ?_ _
          have hL3 : la ≤ 39 * (k + 1) := by omega
          clear q0 q1 hHeld
          by_cases h64 : y64 = 5
          · have t9 : ((y64 : Int) == 5) = true := by rw [h64]; rfl
            clear h64
            go_wp2_with fail
            refine ((H1.out.drewN _).bytes (by omega)).mono ?_
            rintro e w8 ⟨A8, c8, rfl, hw8, ho8, hb8⟩
            have H8 := Lib.hid hw8
            have HA8 := Lib.hid (row_cells ho8)
            clear hw8 ho8 hb8
            go_wp2_with fail
            refine (rbytes22 _ _ q _ _ _ H8.out.wf (by omega)).mono ?_
            rintro e w9 ⟨v9, rfl, hb9, ho9⟩
            obtain ⟨A9, c9, hv9⟩ := row_shape ho9
            subst hv9
            have H9 := Lib.hid (H8.out.fresh hb9)
            have HA9 := Lib.hid (row_cells ho9)
            have HA89 := Lib.hid (HA8.out.below hb9 (Nat.le_refl _))
            clear hb9 ho9
            go_wp2_with fail
            refine (same17 (fun i => (byteAt N i : Nat)) A8 A9 _ c8 c9 _ _ w9 (by omega) HA89.out HA9.out).mono ?_
            rintro e _ ⟨rfl, m9, rfl⟩
            go_wp2_with fail
            refine (H9.out.drewN m9).turn.mono ?_
            rintro e w10 ⟨rfl, hw10⟩
            have H10 := Lib.hid hw10
            clear hw10
            go_wp2_with fail
            go_roundw
            case rel => exact ⟨k + 1, N, la, _, _, by omega, by omega, by go_num, by omega, H10.out⟩
            case measure => simp [intOf]; omega
          · have t9 : ((y64 : Int) == 5) = false := by simp; omega
            clear h64
            go_wp2_with fail
            go_roundw
            case rel => exact ⟨k + 1, N, la, _, _, by omega, by omega, by go_num, by omega, (H1.out.drewN _)⟩
            case measure => simp [intOf]; omega
    · have t5 : decide (k < n) = false ∨ decide ((k : Int) < 300) = false := by
        rcases Nat.lt_or_ge k n with h | h
        · right; simp; omega
        · left; simp; omega
      have T5 := Lib.hid t5
      clear t5 hlt
      by_cases hlt : k < n
      · have t6 : decide ((k : Int) < 300) = false := by
          rcases T5.out with h | h
          · simp at h; omega
          · exact h
        go_wp2_with fail
        refine (bytes18 _ _ p v N L H0.out.wr (by omega)).mono ?_
        rintro e w2 ⟨va, rfl, hba, hoa⟩
        obtain ⟨Aa, ca, rfl⟩ := row_shape hoa
        have H2 := Lib.hid (H0.out.fresh hba)
        have HA := Lib.hid hoa
        have HSZ2 := hba.size
        clear hba hoa
        go_wp2_with fail
        refine (bytes18 _ _ p v N L H2.out.wr (by omega)).mono ?_
        rintro e w3 ⟨vb, rfl, hbb, hob⟩
        obtain ⟨Ab, cb, rfl⟩ := row_shape hob
        have H3 := Lib.hid (H2.out.fresh hbb)
        have HB := Lib.hid hob
        have HA3 := Lib.hid ((Keeps.fresh (S := fun _ => False) hbb).row HA.out fun _ _ h => h)
        have HSZ3 := hbb.size
        clear hbb hob
        go_wp2_with fail
        refine (rbytes22 _ _ q _ _ _ H3.out.wf (by omega)).mono ?_
        rintro e w4 ⟨vr, rfl, hbr, hor⟩
        obtain ⟨Ar, cr, rfl⟩ := row_shape hor
        have H4 := Lib.hid (H3.out.fresh hbr)
        have HB4 := Lib.hid ((Keeps.fresh (S := fun _ => False) hbr).row HB.out fun _ _ h => h)
        have HA4 := Lib.hid ((Keeps.fresh (S := fun _ => False) hbr).row HA3.out fun _ _ h => h)
        have HR4 := Lib.hid hor
        have HSZ4 := hbr.size
        clear hbr hor
        go_wp2_with fail
        refine (same17 (fun i => (byteAt N i : Nat)) Aa Ar _ ca cr _ _ w4 (by omega) (row_cells HA4.out) (row_cells HR4.out)).mono ?_
        rintro e _ ⟨rfl, m4, rfl⟩
        obtain ⟨nb, f, hoc, hnb, hne⟩ := (H4.out.drewN m4).bt
        obtain ⟨Ac, cc, hbt⟩ := row_shape hoc
        subst hbt
        have HC4 := Lib.hid hoc
        have HLT : Hid (∀ x, (Value.slice Ac nb cc).ownBlock = some x → x < wr.heap.size) := Lib.hid fun x hx => (bt_lt H0.out.bt hx).2
        have HKA : Hid (Keeps (fun _ => False) w4 (w4.drewN m4)) := Lib.hid (Keeps.drewN _ w4 m4)
        have hbw := H0.out.below.size
        clear hoc hne
        go_wp2_with fail
        refine (apart3 (w4.drewN m4) W.heap.size Aa Ab Ac _ _ nb ca cb cc (fun i => (byteAt N i : Nat)) (fun i => (byteAt N i : Nat)) f (row_more (HKA.out.row HA4.out fun _ _ h => h) hbw) (row_more (HKA.out.row HB4.out fun _ _ h => h) (Nat.le_trans hbw HSZ2)) HC4.out (by omega) (by omega) (by omega) (fun x hx hx2 => by have h1 := (row_lt HA.out hx).2; have h2 := (row_lt HB.out hx2).1; omega) (fun x hx hx2 => by have h1 := (row_lt HA.out hx).1; have h2 := HLT.out x hx2; omega) (fun x hx hx2 => by have h1 := (row_lt HB.out hx).1; have h2 := HLT.out x hx2; omega) H4.out.below.size).mono ?_
        rintro e w5 ⟨rfl, hk5⟩
        have H5 := Lib.hid ((H4.out.drewN m4).apart hk5 hbw (fun x hx => (H0.out.wr.foot_lt hx).2) (fun x hx => (H0.out.wf.foot_lt hx).2) (fun x hx => by
          rcases hx with hx | hx | hx
          · exact .inl (row_lt HA.out hx).1
          · exact .inl (Nat.le_trans HSZ2 (row_lt HB.out hx).1)
          · exact .inr hx))
        clear hk5
        go_wp2_with fail
        refine (bytes18 _ _ p v N L H5.out.1 (by omega)).mono ?_
        rintro e w6 ⟨v6, rfl, hb6, ho6⟩
        obtain ⟨A6, c6, rfl⟩ := row_shape ho6
        have HW6 := Lib.hid (H5.out.2.1.keeps (Keeps.fresh (S := fun _ => False) hb6) fun _ _ h => h)
        have HB6 := Lib.hid (H5.out.2.2.trans (hb6.mono H5.out.2.2.size))
        have HO6 := Lib.hid ho6
        clear hb6 ho6
        go_wp2_with fail
        refine (rbytes22 _ _ q _ _ _ HW6.out (by omega)).mono ?_
        rintro e w7 ⟨v7, rfl, hb7, ho7⟩
        obtain ⟨A7, c7, rfl⟩ := row_shape ho7
        have HB7 := Lib.hid (HB6.out.trans (hb7.mono HB6.out.size))
        have HO67 := Lib.hid ((Keeps.fresh (S := fun _ => False) hb7).row HO6.out fun _ _ h => h)
        have HO7 := Lib.hid ho7
        clear hb7 ho7
        go_wp2_with fail
        refine (same17 (fun i => (byteAt N i : Nat)) A6 A7 _ c6 c7 _ _ w7 (by omega) (row_cells HO67.out) (row_cells HO7.out)).mono ?_
        rintro e _ ⟨rfl, m7, rfl⟩
        go_wp2_with fail
        refine (awake9 _).mono ?_
        rintro e w8 ⟨rfl, hb8⟩
        have HB8 := Lib.hid ((below_drewN HB7.out m7).trans (hb8.mono (below_drewN HB7.out m7).size))
        clear hb8
        go_wp2_with fail
        go_ret
        exact ⟨rfl, HB8.out⟩
      · go_wp2_with fail
        refine (bytes18 _ _ p v N L H0.out.wr (by omega)).mono ?_
        rintro e w2 ⟨va, rfl, hba, hoa⟩
        obtain ⟨Aa, ca, rfl⟩ := row_shape hoa
        have H2 := Lib.hid (H0.out.fresh hba)
        have HA := Lib.hid hoa
        have HSZ2 := hba.size
        clear hba hoa
        go_wp2_with fail
        refine (bytes18 _ _ p v N L H2.out.wr (by omega)).mono ?_
        rintro e w3 ⟨vb, rfl, hbb, hob⟩
        obtain ⟨Ab, cb, rfl⟩ := row_shape hob
        have H3 := Lib.hid (H2.out.fresh hbb)
        have HB := Lib.hid hob
        have HA3 := Lib.hid ((Keeps.fresh (S := fun _ => False) hbb).row HA.out fun _ _ h => h)
        have HSZ3 := hbb.size
        clear hbb hob
        go_wp2_with fail
        refine (rbytes22 _ _ q _ _ _ H3.out.wf (by omega)).mono ?_
        rintro e w4 ⟨vr, rfl, hbr, hor⟩
        obtain ⟨Ar, cr, rfl⟩ := row_shape hor
        have H4 := Lib.hid (H3.out.fresh hbr)
        have HB4 := Lib.hid ((Keeps.fresh (S := fun _ => False) hbr).row HB.out fun _ _ h => h)
        have HA4 := Lib.hid ((Keeps.fresh (S := fun _ => False) hbr).row HA3.out fun _ _ h => h)
        have HR4 := Lib.hid hor
        have HSZ4 := hbr.size
        clear hbr hor
        go_wp2_with fail
        refine (same17 (fun i => (byteAt N i : Nat)) Aa Ar _ ca cr _ _ w4 (by omega) (row_cells HA4.out) (row_cells HR4.out)).mono ?_
        rintro e _ ⟨rfl, m4, rfl⟩
        obtain ⟨nb, f, hoc, hnb, hne⟩ := (H4.out.drewN m4).bt
        obtain ⟨Ac, cc, hbt⟩ := row_shape hoc
        subst hbt
        have HC4 := Lib.hid hoc
        have HLT : Hid (∀ x, (Value.slice Ac nb cc).ownBlock = some x → x < wr.heap.size) := Lib.hid fun x hx => (bt_lt H0.out.bt hx).2
        have HKA : Hid (Keeps (fun _ => False) w4 (w4.drewN m4)) := Lib.hid (Keeps.drewN _ w4 m4)
        have hbw := H0.out.below.size
        clear hoc hne
        go_wp2_with fail
        refine (apart3 (w4.drewN m4) W.heap.size Aa Ab Ac _ _ nb ca cb cc (fun i => (byteAt N i : Nat)) (fun i => (byteAt N i : Nat)) f (row_more (HKA.out.row HA4.out fun _ _ h => h) hbw) (row_more (HKA.out.row HB4.out fun _ _ h => h) (Nat.le_trans hbw HSZ2)) HC4.out (by omega) (by omega) (by omega) (fun x hx hx2 => by have h1 := (row_lt HA.out hx).2; have h2 := (row_lt HB.out hx2).1; omega) (fun x hx hx2 => by have h1 := (row_lt HA.out hx).1; have h2 := HLT.out x hx2; omega) (fun x hx hx2 => by have h1 := (row_lt HB.out hx).1; have h2 := HLT.out x hx2; omega) H4.out.below.size).mono ?_
        rintro e w5 ⟨rfl, hk5⟩
        have H5 := Lib.hid ((H4.out.drewN m4).apart hk5 hbw (fun x hx => (H0.out.wr.foot_lt hx).2) (fun x hx => (H0.out.wf.foot_lt hx).2) (fun x hx => by
          rcases hx with hx | hx | hx
          · exact .inl (row_lt HA.out hx).1
          · exact .inl (Nat.le_trans HSZ2 (row_lt HB.out hx).1)
          · exact .inr hx))
        clear hk5
        go_wp2_with fail
        refine (bytes18 _ _ p v N L H5.out.1 (by omega)).mono ?_
        rintro e w6 ⟨v6, rfl, hb6, ho6⟩
        obtain ⟨A6, c6, rfl⟩ := row_shape ho6
        have HW6 := Lib.hid (H5.out.2.1.keeps (Keeps.fresh (S := fun _ => False) hb6) fun _ _ h => h)
        have HB6 := Lib.hid (H5.out.2.2.trans (hb6.mono H5.out.2.2.size))
        have HO6 := Lib.hid ho6
        clear hb6 ho6
        go_wp2_with fail
        refine (rbytes22 _ _ q _ _ _ HW6.out (by omega)).mono ?_
        rintro e w7 ⟨v7, rfl, hb7, ho7⟩
        obtain ⟨A7, c7, rfl⟩ := row_shape ho7
        have HB7 := Lib.hid (HB6.out.trans (hb7.mono HB6.out.size))
        have HO67 := Lib.hid ((Keeps.fresh (S := fun _ => False) hb7).row HO6.out fun _ _ h => h)
        have HO7 := Lib.hid ho7
        clear hb7 ho7
        go_wp2_with fail
        refine (same17 (fun i => (byteAt N i : Nat)) A6 A7 _ c6 c7 _ _ w7 (by omega) (row_cells HO67.out) (row_cells HO7.out)).mono ?_
        rintro e _ ⟨rfl, m7, rfl⟩
        go_wp2_with fail
        refine (awake9 _).mono ?_
        rintro e w8 ⟨rfl, hb8⟩
        have HB8 := Lib.hid ((below_drewN HB7.out m7).trans (hb8.mono (below_drewN HB7.out m7).size))
        clear hb8
        go_wp2_with fail
        go_ret
        exact ⟨rfl, HB8.out⟩
end Go.Proofs.Ytkkjcbakgjabdaa
