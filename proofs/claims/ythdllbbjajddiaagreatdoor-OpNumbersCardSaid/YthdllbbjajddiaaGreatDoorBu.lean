/- Layer 25 (op): numbers, written to a buffer. -/
import Derived.Test.YthdllbbjajddiaaGreatDoorGa
import Derived.Test.YthdllbbjajddiaaGreatDoorSp
import Derived.Lib.BufferAt
import Derived.Lib.OthersKept
set_option linter.all false
namespace Go.Proofs.YthdllbbjajddiaaGreatDoor
open Go.RowKit Go.Maps Go.WideMaps
/-- A buffer of the call's own, from block B on, that holds bytes. -/
abbrev Buf (B b : Nat) (l : List Int) (w : World) : Prop := LibA.IsBuffer 59 (fun _ => none) 5 B b 0 (u8l l) w
theorem be_at : ∀ (s : Nat) (x : Int) (j : Nat), j < s → (be s x)[j]? = some (x / 256 ^ (s - 1 - j) % 256)
  | 0, _, _, h => absurd h (by omega)
  | s + 1, x, j, h => by
    rw [be]
    cases j with
    | zero => simp
    | succ j =>
      rw [List.getElem?_cons_succ, be_at s x j (by omega)]
      congr 4
      omega
theorem be_take (s : Nat) (x : Int) (j : Nat) (h : j < s) : (be s x).take (j + 1) = (be s x).take j ++ [x / 256 ^ (s - 1 - j) % 256] := by
  rw [List.take_add_one, be_at s x j h]; rfl
theorem u8l_app (a c : List Int) : u8l (a ++ c) = u8l a ++ u8l c := by simp [u8l]
theorem write58 (B b : Nat) (l : List Int) (c : Int) (w : World) (h : Buf B b l w) (hB : B ≤ w.heap.size) (hl : l.length ≤ 1000000) :
    Calls Tryz.prog 41 #[.pointer (some ⟨b, 0, none⟩), .int .u8 c] w fun e w' => e = .returned .nilIface ∧ Buf B b (l ++ [c]) w' ∧ Below B w w' ∧ Lib.OthersKept 5 (some b) w w' :=
  (Any.Buffer_WriteByte_at YthdllbbjajddiaaGreatDoor.laysB 59 (fun _ => none) B b 0 (u8l l) c w h hB (u8l_one l) (by rw [u8l_len]; omega)).mono fun e w' ⟨h1, h2, h3, h4⟩ => ⟨h1, by
    have : u8l (l ++ [c]) = u8l l ++ [.int .u8 c] := u8l_app l [c]
    show LibA.IsBuffer _ _ _ _ _ _ (u8l (l ++ [c])) w'
    rw [this]; exact h2, h3, h4⟩
set_option maxRecDepth 100000 in
set_option maxHeartbeats 4000000 in
theorem number32 (B b g s : Nat) (xs : List Int) (l : List Int) (w : World) (h : Buf B b l w) (hB : B ≤ w.heap.size) (hg : w.heap[g]? = some (.cells (xs.map (Value.int .i64)).toArray 3 (0, 0))) (hgb : g ≠ b) (hs : 1 ≤ s) (hs4 : s ≤ 4) (hx : xs.length ≤ 2) (hl : l.length ≤ 900000) :
    Calls Tryz.prog 18 #[.pointer (some ⟨b, 0, none⟩), .int .i64 s, .slice (some ⟨g, 0, none⟩) xs.length xs.length] w fun e w' => e = .returned (.tuple #[]) ∧ Buf B b (l ++ xs.flatMap (be s)) w' ∧ Below B w w' ∧ Lib.OthersKept 5 (some b) w w' := by
  have H := Lib.hid h
  have HG := Lib.hid hg
  obtain ⟨n, hn⟩ : ∃ n, n = xs.length := ⟨_, rfl⟩
  rw [← hn] at hx ⊢
  have HN := Lib.hid hn
  clear h hg hn
  go_enter Tryz.func18, Tryz.ntmps18
  go_wp2_with fail
  go_loopw [11] (fun i wr => ∃ k : Nat, k ≤ n ∧ i = .int .i64 k ∧ Buf B b (l ++ (xs.take k).flatMap (be s)) wr ∧ Below B w wr ∧ Lib.OthersKept 5 (some b) w wr) (fun i _ => n - (intOf i).toNat)
  case atStart => exact ⟨0, Nat.zero_le _, rfl, by simpa using H.out, Below.refl _ _, Lib.OthersKept.refl _ _ _⟩
  case round =>
    obtain ⟨k, hk, rfl, hbf, hb, ho⟩ := hrel
    have HBF := Lib.hid hbf
    have HBW := Lib.hid hb
    have HO := Lib.hid ho
    clear hbf hb ho
    by_cases hlt : k < n
    · have hlt' : k < xs.length := by rw [← HN.out]; exact hlt
      obtain ⟨x, hxx⟩ : ∃ x, x = xs[k] := ⟨_, rfl⟩
      have hc : wr.cell? ⟨g, k, none⟩ = some (.int .i64 x) := block_cell (HO.out g _ HG.out (by simpa using hgb) (fun c fz e => by cases e)) k _ (by rw [List.getElem?_toArray, List.getElem?_map, List.getElem?_eq_getElem hlt', hxx]; rfl)
      have TK : Hid ((xs.take (k + 1)).flatMap (be s) = (xs.take k).flatMap (be s) ++ be s x) := Lib.hid (by rw [List.take_succ_eq_append_getElem hlt', List.flatMap_append, hxx]; simp)
      have i1 : (0 : Int) ≤ k := by omega
      have i2 : (k : Int) < n := by omega
      clear hxx hlt'
      go_wp2_with fail
      clear hc
      obtain ⟨d, hd⟩ : ∃ d, d = l ++ (xs.take k).flatMap (be s) := ⟨_, rfl⟩
      rw [← hd] at HBF
      have HDL : Hid (d.length ≤ 900100) := Lib.hid (by
        have e1 : ∀ L : List Int, (L.flatMap (be s)).length = L.length * s := fun L => by
          induction L with
          | nil => simp
          | cons y L ih => rw [List.flatMap_cons, List.length_append, be_len, ih, List.length_cons, Nat.add_mul]; omega
        rw [hd, List.length_append, e1, List.length_take]
        have h1 : min k xs.length ≤ 2 := by have := HN.out; omega
        have := Nat.mul_le_mul h1 hs4
        omega)
      have HD := Lib.hid hd
      clear hd
      go_loopw [8] (fun y w2 => ∃ m : Nat, m ≤ s ∧ y = .int .i64 ((m : Int) - 1) ∧ Buf B b (d ++ (be s x).take (s - m)) w2 ∧ Below B w w2 ∧ Lib.OthersKept 5 (some b) w w2) (fun y _ => (intOf y + 1).toNat)
      case atStart => exact ⟨s, Nat.le_refl _, rfl, by simpa using HBF.out, HBW.out, HO.out⟩
      case round =>
        clear HBF HBW HO
        obtain ⟨m, hm, rfl, hbf, hb, ho⟩ := hrel
        have HBF := Lib.hid hbf
        have HBW := Lib.hid hb
        have HO := Lib.hid ho
        clear hbf hb ho
        by_cases h0 : m = 0
        · subst h0
          have e9 : (be s x).take (s - 0) = be s x := List.take_of_length_le (by rw [be_len]; omega)
          have hbf := HBF.out
          rw [e9, HD.out, List.append_assoc, ← TK.out] at hbf
          have HBF2 := Lib.hid hbf
          have t1 : decide ((0 : Int) ≤ ((0 : Nat) : Int) - 1) = false := by decide
          clear e9 hbf
          go_wp2_with fail
          go_roundw
          case rel => exact ⟨k + 1, by omega, by go_num, HBF2.out, HBW.out, HO.out⟩
          case measure => simp [intOf]; omega
        · obtain ⟨i, hi⟩ : ∃ i, m = i + 1 := ⟨m - 1, by omega⟩
          subst hi
          have hi3 : i ≤ 3 := by omega
          have hy : (((i + 1 : Nat) : Int) - 1) = (i : Int) := by omega
          rw [hy]
          have t1 : decide ((0 : Int) ≤ (i : Int)) = true := by simp
          have hjs : s - (i + 1) < s := by omega
          have TK2 := Lib.hid (be_take s x (s - (i + 1)) hjs)
          obtain ⟨z, hz⟩ : ∃ z : Nat, z = 8 * i := ⟨_, rfl⟩
          have hw8 : IntKind.i64.wrap (8 * (i : Int)) = (z : Int) := by rw [IntWalk.i64_in _ (by omega)]; omega
          have hz0 : (0 : Int) ≤ (z : Int) := by omega
          have hz64 : (z : Int) ≤ 64 := by omega
          obtain ⟨c, hc⟩ : ∃ c, c = x / 256 ^ (s - 1 - (s - (i + 1))) % 256 := ⟨_, rfl⟩
          rw [← hc] at TK2
          obtain ⟨v, hv⟩ : ∃ v : Int, x / 2 ^ z = v := ⟨_, rfl⟩
          have hv8 : IntKind.u8.wrap v = c := by
            rw [hc, ← hv, hz, show s - 1 - (s - (i + 1)) = i by omega]
            have e : (256 : Int) ^ i = 2 ^ (8 * i) := by rw [Int.pow_mul]; rfl
            rw [e]
            rfl
          have SE : Hid (s - i = s - (i + 1) + 1) := Lib.hid (by omega)
          clear hy h0 hz hc
          go_wp2_with fail
          refine wp_region_held_drew (S := fun _ : World => True) follows trivial (fun hHeld => ?_)
          refine wpAnyH_take (i := 0) (v := ?_) (by simp only [List.getElem?_toArray, List.getElem?_cons_zero]; rfl) (by kernel_rfl) (by kernel_rfl) (by kernel_rfl) (by intro _ _ _ h; exact h) (Or.inl ⟨by rfl, ?_⟩) hHeld ?_
          rotate_left
          · (intro w hSw; (try dsimp only at hSw); go_simp; try with_reducible rfl)
          try simp only [Act.put, List.setIfInBounds_toArray, List.set_cons_zero, List.set_cons_succ]
          refine wpAnyH_take (i := 1) (v := ?_) (by simp only [List.getElem?_toArray, List.getElem?_cons_zero, List.getElem?_cons_succ]; rfl) (by kernel_rfl) (by kernel_rfl) (by kernel_rfl) (by intro _ _ _ h; exact h) (Or.inl ⟨by rfl, ?_⟩) hHeld ?_
          rotate_left
          · (intro w hSw; (try dsimp only at hSw); go_simp; try with_reducible rfl)
          try simp only [Act.put, List.setIfInBounds_toArray, List.set_cons_zero, List.set_cons_succ]
          refine wpAnyH_take (i := 2) (v := ?_) (by simp only [List.getElem?_toArray, List.getElem?_cons_zero, List.getElem?_cons_succ]; rfl) (by kernel_rfl) (by kernel_rfl) (by kernel_rfl) (by intro _ _ _ h; exact h) (Or.inl ⟨by rfl, ?_⟩) hHeld ?_
          rotate_left
          · (intro w hSw; (try dsimp only at hSw); go_simp; try with_reducible rfl)
          try simp only [Act.put, List.setIfInBounds_toArray, List.set_cons_zero, List.set_cons_succ]
          refine wpAnyH_take (i := 3) (v := ?_) (by simp only [List.getElem?_toArray, List.getElem?_cons_zero, List.getElem?_cons_succ]; rfl) (by kernel_rfl) (by kernel_rfl) (by kernel_rfl) (by intro _ _ _ h; exact h) (Or.inl ⟨by rfl, ?_⟩) hHeld ?_
          rotate_left
          · (intro w hSw; (try dsimp only at hSw); go_simp; try with_reducible rfl)
          try simp only [Act.put, List.setIfInBounds_toArray, List.set_cons_zero, List.set_cons_succ]
          refine wpAnyH_take (i := 4) (v := ?_) (by simp only [List.getElem?_toArray, List.getElem?_cons_zero, List.getElem?_cons_succ]; rfl) (by kernel_rfl) (by kernel_rfl) (by kernel_rfl) (by intro _ _ _ h; exact h) (Or.inl ⟨by rfl, ?_⟩) hHeld ?_
          rotate_left
          · (intro w hSw; (try dsimp only at hSw); go_simp; try with_reducible rfl)
          try simp only [Act.put, List.setIfInBounds_toArray, List.set_cons_zero, List.set_cons_succ]
          refine wpAnyH_take (i := 5) (v := ?_) (by simp only [List.getElem?_toArray, List.getElem?_cons_zero, List.getElem?_cons_succ]; rfl) (by kernel_rfl) (by kernel_rfl) (by kernel_rfl) (by intro _ _ _ h; exact h) (Or.inl ⟨by rfl, ?_⟩) hHeld ?_
          rotate_left
          · (intro w hSw; (try dsimp only at hSw); go_simp; try with_reducible rfl)
          try simp only [Act.put, List.setIfInBounds_toArray, List.set_cons_zero, List.set_cons_succ]
          refine wpAnyH_take (i := 6) (v := ?_) (by simp only [List.getElem?_toArray, List.getElem?_cons_zero, List.getElem?_cons_succ]; rfl) (by kernel_rfl) (by kernel_rfl) (by kernel_rfl) (by intro _ _ _ h; exact h) (Or.inl ⟨by rfl, ?_⟩) hHeld ?_
          rotate_left
          · (intro w hSw; (try dsimp only at hSw); go_simp; try with_reducible rfl)
          try simp only [Act.put, List.setIfInBounds_toArray, List.set_cons_zero, List.set_cons_succ]
          refine wpAnyH_take (i := 7) (v := ?_) (by simp only [List.getElem?_toArray, List.getElem?_cons_zero, List.getElem?_cons_succ]; rfl) (by kernel_rfl) (by kernel_rfl) (by kernel_rfl) (by intro _ _ _ h; exact h) (Or.inl ⟨by rfl, ?_⟩) hHeld ?_
          rotate_left
          · (intro w hSw; (try dsimp only at hSw); go_simp; try with_reducible rfl)
          try simp only [Act.put, List.setIfInBounds_toArray, List.set_cons_zero, List.set_cons_succ]
          refine wpAnyH_ready (rs := [8]) (by kernel_rfl) (by simp) ?_
          refine AllReadyH.cons (by simp only [List.getElem?_toArray, List.getElem?_cons_zero, List.getElem?_cons_succ]; rfl) (fun K hK => ?_) AllReadyH.nil
          rw [if_pos (by rfl)]
          go_simp
          refine (write58 B b (d ++ (be s x).take (s - (i + 1))) c _ (HBF.out.drewN 1) (Nat.le_trans hB HBW.out.size) ?_).mono ?_
          · rw [List.length_append, List.length_take, be_len]; have := HDL.out; omega
          rintro e w2 ⟨rfl, hbf, hb, ho⟩
          rw [List.append_assoc, ← TK2.out, ← SE.out] at hbf
          have HBF3 := Lib.hid hbf
          have HBW3 := Lib.hid ((below_drewN HBW.out 1).trans hb)
          have HO3 : Hid (Lib.OthersKept 5 (some b) w w2) := Lib.hid (HO.out.trans fun k o h1 h2 h3 => ho k o h1 h2 h3)
          clear hbf hb ho
          refine hK.out _ _ trivial (fun hHeld => ?_)
          clear hK K
          try simp only [Act.put, List.setIfInBounds_toArray, List.set_cons_zero, List.set_cons_succ]
          refine wpAnyH_done (by kernel_rfl) ?_ _
          clear hHeld
          clear hw8 hz0 hz64 hv hv8
          go_wp2_with fail
          go_roundw
          case rel => exact ⟨i, by omega, by go_num, HBF3.out, HBW3.out, HO3.out⟩
          case measure => simp [intOf]
    · obtain rfl : k = n := by omega
      have hbf := HBF.out
      rw [List.take_of_length_le (by have := HN.out; omega)] at hbf
      go_wp2_with fail
      refine bodyPost_end (results_none rfl _ _ _) rfl ?_
      exact ⟨rfl, hbf, HBW.out, HO.out⟩
end Go.Proofs.YthdllbbjajddiaaGreatDoor
