/- Layer 25 (op): the document's side: an op's bytes. Printed by genRe.py. -/
import Derived.Test.YthdllbbjajddiaaGreatDoorRd
import Derived.Test.YthdllbbjajddiaaGreatDoorBk
set_option linter.all false
namespace Go.Proofs.YthdllbbjajddiaaGreatDoor
open Go.RowKit Go.Maps Go.WideMaps
theorem be1 {x : Int} (h : 0 ≤ x ∧ x < 256) : be 1 x = [x] := by
  show [x / 256 ^ 0 % 256] = [x]
  rw [Int.pow_zero, Int.ediv_one, Int.emod_eq_of_lt h.1 h.2]
theorem u8w {x : Int} (h : 0 ≤ x ∧ x < 256) : IntKind.u8.wrap x = x := by
  show x % 256 = x
  exact Int.emod_eq_of_lt h.1 h.2
/-- A row of bytes as a slice, its bytes read where it lies. -/
theorem Out.open {base : Nat} {w0 w : World} {v : Value} {l : List Int} {m : Nat} (h : Out base w0 w v l) (hm : l.length = m) : ∃ A c, v = .slice A m c ∧ Arr w w.heap.size A m (fun j => .int .u8 (l.getD j 0)) ∧ m ≤ c ∧ (A = none → m = 0 ∧ c = 0) := by
  subst hm
  exact bytes_arr h.row

theorem Out.after {base b2 : Nat} {w0 w w2 : World} {v : Value} {l : List Int} (h : Out base w0 w v l) (hb : Below b2 w w2) (h2 : w.heap.size ≤ b2) (h3 : base ≤ w.heap.size) : Out base w0 w2 v l :=
  ⟨by
    refine ⟨h.row.1, ?_⟩
    rcases h.row.2 with h' | ⟨g, cap, cur, e1, e2, e3, e4⟩
    · exact .inl h'
    · exact .inr ⟨g, cap, cur, e1, e2, (hb.block g (Nat.lt_of_lt_of_le (heap_lt e3) h2)).trans e3, e4⟩, h.below.trans (hb.mono (Nat.le_trans h3 h2))⟩
theorem Out.size {base : Nat} {w0 w : World} {v : Value} {l : List Int} (h : Out base w0 w v l) (hb : base = w0.heap.size) : base ≤ w.heap.size := by subst hb; exact h.below.size
theorem Out.more {base k : Nat} {w0 w w3 : World} {v v' : Value} {l m : List Int} (h : Out base w0 w v l) (hb : base ≤ w.heap.size) (hk : m.length = k) (ho : w3.ownsRow base 5 1 v' (l.length + k) (u8l l ++ u8l m)) (hg : w.grownBy w3 v.ownBlock) : ∃ A c, v' = .slice A (l.length + k) c ∧ Out base w0 w3 (.slice A (l.length + k) c) (l ++ m) := by
  subst hk
  obtain ⟨A, c, rfl⟩ := row_shapeS ho
  exact ⟨A, c, rfl, h.many hb ho hg⟩
theorem Out.more2 {base k : Nat} {w0 w w3 : World} {v v' : Value} {l m : List Int} (h : Out base w0 w v l) (hb : base ≤ w.heap.size) (hk : m.length = k) (ho : w3.ownsRow base 5 1 v' (l.length + k) (u8l l ++ u8l m)) (hg : w.grownBy w3 v.ownBlock) : ∃ A c L, v' = .slice A L.length c ∧ Out base w0 w3 (.slice A L.length c) L ∧ L = l ++ m ∧ L.length = l.length + k := by
  subst hk
  obtain ⟨A, c, rfl⟩ := row_shapeS ho
  refine ⟨A, c, l ++ m, by rw [List.length_append], ?_, rfl, List.length_append⟩
  rw [List.length_append]
  exact h.many hb ho hg
theorem Out.step2 {base : Nat} {w0 w w3 : World} {v v' : Value} {l : List Int} {o : Obj} {x y : Int} (h : Out base w0 w v l) (hb : base ≤ w.heap.size) (ho : w3.ownsRow base 5 1 v' (l.length + 2) (u8l l ++ [.int .u8 x, .int .u8 y])) (hg : (w.alloc o).grownBy w3 v.ownBlock) : Out base w0 w3 v' (l ++ ([x] ++ [y])) := by
  refine ⟨?_, (h.below.alloc hb o).grown hg (Nat.le_trans hb (by simp)) (fun k e => (h.row.lt k e).1)⟩
  have e1 : (l ++ ([x] ++ [y])).length = l.length + 2 := by simp
  have e2 : u8l (l ++ ([x] ++ [y])) = u8l l ++ [.int .u8 x, .int .u8 y] := by simp [u8l]
  rw [e1, e2]; exact ho
theorem cells_new (w : World) (l : List Value) (t : TypeId) (j : Nat) (u : Value) (h : l[j]? = some u) : (w.alloc (.cells l.toArray t)).cell? ((⟨w.heap.size, 0, none⟩ : Addr).add j) = some u := by
  have : (⟨w.heap.size, 0, none⟩ : Addr).add j = ⟨w.heap.size, j, none⟩ := by unfold Addr.add; simp; exact fun h => h.symm
  rw [this]
  exact block_cell (heap_new w _) j u (by simpa using h)
theorem own_lower {w : World} {B B' n sz : Nat} {e : TypeId} {v : Value} {xs : List Value} (h : w.ownsRow B e sz v n xs) (hB : B' ≤ B) : w.ownsRow B' e sz v n xs := by
  refine ⟨h.1, ?_⟩
  rcases h.2 with h | ⟨g, cap, cur, h1, h2, h3⟩
  · exact .inl h
  · exact .inr ⟨g, cap, cur, h1, Nat.le_trans hB h2, h3⟩
theorem range_news {w : World} {b o : Nat} {l : List Int} (h : w.rangeAt b o (u8l l)) (ad : Addr) (e : some (⟨b, o, none⟩ : Addr) = some ad) : ∀ j u, (u8l l)[j]? = some u → w.cell? (ad.add j) = some u := by
  cases e
  intro j u hu
  rw [Go.WideShapes.add_plain]
  exact h j u hu
theorem one_row (w : World) (x : Int) (B : Nat) (hB : B ≤ w.heap.size) : (w.alloc (.cells #[.int .u8 x] 5)).ownsRow B 5 1 (.slice (some ⟨w.heap.size, 0, none⟩) 1 1) 1 (u8l [x]) :=
  ⟨rfl, .inr ⟨_, 1, #[.int .u8 x], rfl, hB, heap_new w _, Nat.le_refl _, by simp [maxLen], rfl, rfl⟩⟩
set_option maxRecDepth 100000 in
set_option maxHeartbeats 8000000 in
theorem rput15 (I : Nat → ElF) (P : Nat → ElP) (kd x n s : Int) (A1 : Option Addr) (n1 c1 : Nat) (A2 : Option Addr) (n2 c2 : Nat) (W : World) (hn1 : n1 ≤ 1000000000000) (hn2 : n2 ≤ 1000000000000) (hkd : 0 ≤ kd ∧ kd < 256)
    (ha1 : SArr W W.heap.size A1 n1 36 fun i => cellsF (I i)) (ha2 : SArr W W.heap.size A2 n2 35 fun i => cellsP (P i)) :
    Calls Tryz.prog 10 #[opV kd x n s A1 n1 c1 A2 n2 c2] W (PutOut W (opR kd x n s I n1 P n2)) := by
  have H1 := Lib.hid ha1
  have H2 := Lib.hid ha2
  obtain ⟨i0, hi, hz0, hz1, hz2⟩ := infoParts info5
  have HI := Lib.hid (And.intro hi (And.intro hz0 (And.intro hz1 hz2)))
  clear ha1 ha2 hi hz0 hz1 hz2
  unfold opV
  go_enter Tryz.func10, Tryz.ntmps10
  go_upto_region 1 with fail
  obtain ⟨w1, hw1⟩ : ∃ w1, w1 = W.alloc (.cells #[.int .u8 kd, .int .i64 x, .int .i64 n, .int .i64 s, .slice A1 n1 c1, .slice A2 n2 c2] 26) := ⟨_, rfl⟩
  have Q1 : Hid (w1.heap[W.heap.size]? = some (.cells #[.int .u8 kd, .int .i64 x, .int .i64 n, .int .i64 s, .slice A1 n1 c1, .slice A2 n2 c2] 26 (0, 0))) := Lib.hid (by rw [hw1]; exact heap_new W _)
  have B1 : Hid (Below W.heap.size W w1) := Lib.hid (by rw [hw1]; exact (Below.refl _ _).alloc (Nat.le_refl _) _)
  rw [← hw1]
  obtain ⟨q0, hq0⟩ : ∃ q, q = W.heap.size := ⟨_, rfl⟩
  rw [← hq0] at Q1 ⊢
  have RA : Hid (w1.rangeAt q0 0 (opL kd x n s A1 n1 c1 A2 n2 c2)) := Lib.hid (range_of Q1.out)
  have H11 := Lib.hid ((H1.out.below B1.out (Nat.le_refl _)).more B1.out.size)
  have H21 := Lib.hid ((H2.out.below B1.out (Nat.le_refl _)).more B1.out.size)
  clear hw1 hq0
  go_wp2_with (refine wpList_load_midG rfl 26 (.tmp 1) rfl q0 0 rfl (opL kd x n s A1 n1 c1 A2 n2 c2) _ RA.out Tryz.underlying26 rfl sizeOp ?_)
  refine (rright11 I P kd x n s A1 n1 c1 A2 n2 c2 w1 hn1 hn2 H11.out H21.out).mono ?_
  rintro e w2 ⟨rfl, hb2⟩
  have B2 := Lib.hid (B1.out.trans (hb2.mono B1.out.size))
  have Q2 := Lib.hid ((hb2.block q0 (heap_lt Q1.out)).trans Q1.out)
  have H12 := Lib.hid ((H11.out.below hb2 (Nat.le_refl _)).more hb2.size)
  have H22 := Lib.hid ((H21.out.below hb2 (Nat.le_refl _)).more hb2.size)
  clear hb2 RA Q1 B1 H11 H21 H1 H2
  cases hr : rightB (opR kd x n s I n1 P n2) with
  | false =>
    have HR := Lib.hid hr
    clear hr
    go_wp2_with fail
    go_ret2
    exact ⟨B2.out, .inl ⟨HR.out, rfl⟩⟩
  | true =>
    have HR := Lib.hid hr
    clear hr
    have Q2k := Lib.hid Q2.out
    obtain ⟨base, hbase⟩ : ∃ b, b = w2.heap.size := ⟨_, rfl⟩
    have HBS : Hid (W.heap.size ≤ base) := Lib.hid (by rw [hbase]; exact B2.out.size)
    have HQB : Hid (q0 < base) := Lib.hid (by rw [hbase]; exact heap_lt Q2.out)
    have QW : Hid (∀ wr, Below base w2 wr → wr.heap[q0]? = some (.cells #[.int .u8 kd, .int .i64 x, .int .i64 n, .int .i64 s, .slice A1 n1 c1, .slice A2 n2 c2] 26 (0, 0))) := Lib.hid fun wr h => (h.block q0 HQB.out).trans Q2.out
    have BW : Hid (∀ wr, Below base w2 wr → Below W.heap.size W wr) := Lib.hid fun wr h => B2.out.trans (h.mono HBS.out)
    have FIN : Hid (∀ v w', Out base w2 w' v (enc (opR kd x n s I n1 P n2)) → PutOut W (opR kd x n s I n1 P n2) (.returned (.tuple #[v, .int .i64 0])) w') := Lib.hid fun v w' h => ⟨BW.out _ h.below, .inr ⟨v, HR.out, rfl, own_lower h.row HBS.out⟩⟩
    have c0 : w2.cell? ⟨q0, 0, none⟩ = some (.int .u8 kd) := block_cell Q2.out 0 _ rfl
    go_upto_region 4 with fail
    obtain ⟨w3, hw3⟩ : ∃ w3, w3 = w2.alloc (.cells #[.int .u8 kd] 5) := ⟨_, rfl⟩
    have O3 : Hid (Out base w2 w3 (.slice (some ⟨w2.heap.size, 0, none⟩) 1 1) [kd]) := Lib.hid ⟨by rw [hw3]; exact one_row w2 kd base (by omega), by rw [hw3, hbase]; exact (Below.refl _ _).alloc (Nat.le_refl _) _⟩
    rw [← hw3]
    obtain ⟨g3, hg3⟩ : ∃ g, g = w2.heap.size := ⟨_, rfl⟩
    rw [← hg3] at O3 ⊢
    have HW3 : Hid (base ≤ w3.heap.size) := Lib.hid (by rw [hbase]; exact O3.out.below.size)
    have HB0 := Lib.hid hbase
    clear hw3 hg3 c0 hbase
    have c0 : w3.cell? ⟨q0, 0, none⟩ = some (.int .u8 kd) := block_cell (QW.out _ O3.out.below) 0 _ rfl
    have c1x : w3.cell? ⟨q0, 1, none⟩ = some (.int .i64 x) := block_cell (QW.out _ O3.out.below) 1 _ rfl
    have c2x : w3.cell? ⟨q0, 2, none⟩ = some (.int .i64 n) := block_cell (QW.out _ O3.out.below) 2 _ rfl
    have c3x : w3.cell? ⟨q0, 3, none⟩ = some (.int .i64 s) := block_cell (QW.out _ O3.out.below) 3 _ rfl
    have c4x : w3.cell? ⟨q0, 4, none⟩ = some (.slice A1 n1 c1) := block_cell (QW.out _ O3.out.below) 4 _ rfl
    by_cases k2 : kd = 2
    · have t2 : (kd == 2) = true := by simp [k2]
      have EN : Hid (enc (opR kd x n s I n1 P n2) = [kd] ++ be 2 x ++ be 2 n) := Lib.hid (by rw [enc_2 k2, be1 hkd, List.append_assoc])
      clear k2
      go_wp2_with fail
      have HS : Hid (∀ wr, Below base w2 wr → wr.cell? ⟨q0, 1, none⟩ = some (.int .i64 x) ∧ wr.cell? ⟨q0, 2, none⟩ = some (.int .i64 n)) := Lib.hid fun wr h => ⟨block_cell (QW.out _ h) 1 _ rfl, block_cell (QW.out _ h) 2 _ rfl⟩
      have O3d : Hid (Out base w2 w3.drew (.slice (some ⟨g3, 0, none⟩) 1 1) [kd]) := Lib.hid ⟨O3.out.row, O3.out.below.drew⟩
      clear c0 c1x c2x c3x c4x
      refine wp_region_held_drew (S := fun w' => w'.cell? ⟨q0, 1, none⟩ = some (.int .i64 x) ∧ w'.cell? ⟨q0, 2, none⟩ = some (.int .i64 n)) follows (HS.out _ O3d.out.below) (fun hHeld => ?_)
      refine wpAnyH_take (i := 0) (v := ?_) (by simp only [List.getElem?_toArray, List.getElem?_cons_zero]; rfl) (by kernel_rfl) (by kernel_rfl) (by kernel_rfl) (by intro _ _ _ h; exact h) (Or.inl ⟨by rfl, ?_⟩) hHeld ?_
      rotate_left
      · (intro w hSw; (try dsimp only at hSw); go_simp; try with_reducible rfl)
      try simp only [Act.put, List.setIfInBounds_toArray, List.set_cons_zero, List.set_cons_succ]
      refine wpAnyH_take (i := 1) (v := ?_) (by simp only [List.getElem?_toArray, List.getElem?_cons_zero, List.getElem?_cons_succ]; rfl) (by kernel_rfl) (by kernel_rfl) (by kernel_rfl) (by intro _ _ _ h; exact h) (Or.inl ⟨by rfl, ?_⟩) hHeld ?_
      rotate_left
      · (intro w hSw; (try dsimp only at hSw); go_simp; try with_reducible rfl)
      try simp only [Act.put, List.setIfInBounds_toArray, List.set_cons_zero, List.set_cons_succ]
      refine wpAnyH_take (i := 2) (v := ?_) (by simp only [List.getElem?_toArray, List.getElem?_cons_zero, List.getElem?_cons_succ]; rfl) (by kernel_rfl) (by kernel_rfl) (by kernel_rfl) (by intro _ _ _ h; exact h) (Or.inl ⟨by rfl, ?_⟩) hHeld ?_
      rotate_left
      · (intro w hSw; (try dsimp only at hSw); go_simp; try with_reducible rfl)
      try simp only [Act.put, List.setIfInBounds_toArray, List.set_cons_zero, List.set_cons_succ]
      refine wpAnyH_take (i := 5) (v := ?_) (by simp only [List.getElem?_toArray, List.getElem?_cons_zero, List.getElem?_cons_succ]; rfl) (by kernel_rfl) (by kernel_rfl) (by kernel_rfl) (by intro _ _ _ h; exact h) (Or.inl ⟨by rfl, ?_⟩) hHeld ?_
      rotate_left
      · (intro w hSw; (try dsimp only at hSw); go_simp; try with_reducible rfl)
      try simp only [Act.put, List.setIfInBounds_toArray, List.set_cons_zero, List.set_cons_succ]
      refine wpAnyH_take (i := 6) (v := ?_) (by simp only [List.getElem?_toArray, List.getElem?_cons_zero, List.getElem?_cons_succ]; rfl) (by kernel_rfl) (by kernel_rfl) (by kernel_rfl) (by intro _ _ _ h; exact h) (Or.inl ⟨by rfl, ?_⟩) hHeld ?_
      rotate_left
      · (intro w hSw; (try dsimp only at hSw); go_simp; try with_reducible rfl)
      try simp only [Act.put, List.setIfInBounds_toArray, List.set_cons_zero, List.set_cons_succ]
      refine wpAnyH_ready (rs := [3]) (by kernel_rfl) (by simp) ?_
      refine AllReadyH.cons (by simp only [List.getElem?_toArray, List.getElem?_cons_zero, List.getElem?_cons_succ]; rfl) (fun K hK => ?_) AllReadyH.nil
      rw [if_pos (by rfl)]
      go_simp

      refine (rnumber40 x 2 w3.drew (by omega)).mono ?_
      rintro e w4 ⟨v9, rfl, on⟩
      obtain ⟨An, cn, rfl, an, hcn, hzn⟩ := on.open (be_len 2 x)
      obtain ⟨bn, on', rfl, hbn, hccn⟩ := an (by omega)
      have O4 : Hid (Out base w2 w4 _ _) := Lib.hid (O3d.out.after on.below (Nat.le_refl _) HW3.out)
      refine hK.out _ _ (HS.out _ O4.out.below) (fun hHeld => ?_)
      clear hK K
      try simp only [Act.put, List.setIfInBounds_toArray, List.set_cons_zero, List.set_cons_succ]
      refine wpAnyH_ready (rs := [4]) (by kernel_rfl) (by simp) ?_
      refine AllReadyH.cons (by simp only [List.getElem?_toArray, List.getElem?_cons_zero, List.getElem?_cons_succ]; rfl) (fun K hK => ?_) AllReadyH.nil
      rw [if_pos (by rfl)]
      have HNW := Lib.hid (arr_news an (be_len 2 x))
      refine wp_append_own _ (.tmp 18) (.tmp 21) 30 rfl base 5 i0 (.int .u8 0) 1 1 Tryz.underlying30 HI.out.1 HI.out.2.1 HI.out.2.2.1 HI.out.2.2.2 rfl (by decide) _ _ (u8l [kd]) rfl O4.out.row ⟨bn, on', none⟩ 2 cn (u8l (be 2 x)) rfl (by rw [u8l_len, be_len]) (HNW.out _ rfl) (u8l_one _) (by unfold maxLen; simp [be_len]) (by simp [be_len]) (O4.out.size HB0.out) (fun v8 w5 ho9 hg9 _ => ?_)
      obtain ⟨Ax, cx, rfl, hox⟩ := O4.out.more (O4.out.size HB0.out) (be_len 2 x) ho9 hg9
      have O5 := Lib.hid hox
      clear ho9 hg9 hox an HNW hbn hccn hcn hzn on
      refine hK.out _ _ (HS.out _ O5.out.below) (fun hHeld => ?_)
      clear hK K
      try simp only [Act.put, List.setIfInBounds_toArray, List.set_cons_zero, List.set_cons_succ]
      refine wpAnyH_ready (rs := [7]) (by kernel_rfl) (by simp) ?_
      refine AllReadyH.cons (by simp only [List.getElem?_toArray, List.getElem?_cons_zero, List.getElem?_cons_succ]; rfl) (fun K hK => ?_) AllReadyH.nil
      rw [if_pos (by rfl)]
      go_simp
      refine (rnumber40 n 2 w5 (by omega)).mono ?_
      rintro e w6 ⟨v9, rfl, on⟩
      obtain ⟨An, cn, rfl, an, hcn, hzn⟩ := on.open (be_len 2 n)
      obtain ⟨bn, on', rfl, hbn, hccn⟩ := an (by omega)
      have O6 : Hid (Out base w2 w6 _ _) := Lib.hid (O5.out.after on.below (Nat.le_refl _) (O5.out.size HB0.out))
      refine hK.out _ _ (HS.out _ O6.out.below) (fun hHeld => ?_)
      clear hK K
      try simp only [Act.put, List.setIfInBounds_toArray, List.set_cons_zero, List.set_cons_succ]
      refine wpAnyH_ready (rs := [8]) (by kernel_rfl) (by simp) ?_
      refine AllReadyH.cons (by simp only [List.getElem?_toArray, List.getElem?_cons_zero, List.getElem?_cons_succ]; rfl) (fun K hK => ?_) AllReadyH.nil
      rw [if_pos (by rfl)]
      have HNW := Lib.hid (arr_news an (be_len 2 n))
      refine wp_append_own _ (.tmp 22) (.tmp 25) 30 rfl base 5 i0 (.int .u8 0) 1 1 Tryz.underlying30 HI.out.1 HI.out.2.1 HI.out.2.2.1 HI.out.2.2.2 rfl (by decide) _ _ (u8l ([kd] ++ be 2 x)) rfl O6.out.row ⟨bn, on', none⟩ 2 cn (u8l (be 2 n)) rfl (by rw [u8l_len, be_len]) (HNW.out _ rfl) (u8l_one _) (by unfold maxLen; simp [be_len]) (by simp [be_len]) (O6.out.size HB0.out) (fun v8 w7 ho9 hg9 _ => ?_)
      obtain ⟨Ax, cx, rfl, hox⟩ := O6.out.more (O6.out.size HB0.out) (be_len 2 n) ho9 hg9
      have O7 := Lib.hid hox
      clear ho9 hg9 hox an HNW hbn hccn hcn hzn on
      refine hK.out _ _ (HS.out _ O7.out.below) (fun hHeld => ?_)
      clear hK K
      try simp only [Act.put, List.setIfInBounds_toArray, List.set_cons_zero, List.set_cons_succ]
      refine wpAnyH_take (i := 9) (v := ?_) (by simp only [List.getElem?_toArray, List.getElem?_cons_zero, List.getElem?_cons_succ]; rfl) (by kernel_rfl) (by kernel_rfl) (by kernel_rfl) (by intro _ _ _ h; exact h) (Or.inl ⟨by rfl, ?_⟩) hHeld ?_
      rotate_left
      · (intro w hSw; (try dsimp only at hSw); go_simp; try with_reducible rfl)
      try simp only [Act.put, List.setIfInBounds_toArray, List.set_cons_zero, List.set_cons_succ]
      refine wpAnyH_take (i := 10) (v := ?_) (by simp only [List.getElem?_toArray, List.getElem?_cons_zero, List.getElem?_cons_succ]; rfl) (by kernel_rfl) (by kernel_rfl) (by kernel_rfl) (by intro _ _ _ h; exact h) (Or.inl ⟨by rfl, ?_⟩) hHeld ?_
      rotate_left
      · (intro w hSw; (try dsimp only at hSw); go_simp; try with_reducible rfl)
      try simp only [Act.put, List.setIfInBounds_toArray, List.set_cons_zero, List.set_cons_succ]
      refine wpAnyH_done (by kernel_rfl) ?_ _
      clear hHeld
      go_wp2_with fail
      go_ret2
      rw [← EN.out] at O7
      exact FIN.out _ _ O7.out
    have t2 : (kd == 2) = false := by simpa using k2
    by_cases k1 : kd = 1
    rotate_left
    · have t1 : (kd != 1) = true := by simpa using k1
      have t1' : (kd == 1) = false := by simpa using k1
      have EN : Hid (enc (opR kd x n s I n1 P n2) = [kd] ++ be 4 s) := Lib.hid (by rw [enc_3 k1 k2, be1 hkd])
      clear k1 k2
      go_wp2_with fail
      clear c0 c1x c2x c3x c4x
      refine (rnumber40 s 4 w3 (by omega)).mono ?_
      rintro e w4 ⟨v9, rfl, on⟩
      obtain ⟨An, cn, rfl, an, hcn, hzn⟩ := on.open (be_len 4 s)
      have HN := Lib.hid (arr_news an (be_len 4 s))
      have HZ := Lib.hid hzn
      have HLn : Hid ((u8l (be 4 s)).length = 4 * 1) := Lib.hid (by rw [u8l_len, be_len])
      have HO1 := Lib.hid (u8l_one (be 4 s))
      have O4 := Lib.hid (O3.out.after on.below (Nat.le_refl _) (O3.out.size HB0.out))
      have HBX := Lib.hid (O4.out.size HB0.out)
      have L1 : Hid ([kd].length + 4 ≤ maxLen) := Lib.hid (by have : [kd].length ≤ 4000 := (by simp); unfold maxLen; omega)
      have L2 : Hid (([kd].length + 4) * 1 ≤ 140737488355328) := Lib.hid (by have : [kd].length ≤ 4000 := (by simp); omega)
      clear hzn hcn an
      go_wp2_with (at_builtin; refine wpList_append_any rfl (.tmp 30) (.tmp 33) 30 rfl base 5 i0 (.int .u8 0) 1 1 Tryz.underlying30 HI.out.1 HI.out.2.1 HI.out.2.2.1 HI.out.2.2.2 rfl (by decide) _ _ (u8l [kd]) rfl O4.out.row An 4 cn (u8l (be 4 s)) rfl HZ.out HLn.out HN.out HO1.out L1.out L2.out HBX.out ?_; intro v5 w5 ho9 hg9)
      obtain ⟨Ax, cx, La, rfl, hox, hle, hln⟩ := O4.out.more2 HBX.out (be_len 4 s) ho9 hg9
      have O5 := Lib.hid hox
      have HELa := Lib.hid hle
      have HNLa := Lib.hid hln
      clear ho9 hg9 hox hle hln HN HZ HLn HO1 HBX L1 L2 on
      go_ret2
      have ho5 := O5.out
      rw [HELa.out, ← EN.out] at ho5
      rw [HELa.out, ← EN.out]
      exact FIN.out _ _ ho5
    have t1 : (kd != 1) = false := by simp [k1]
    have t1' : (kd == 1) = true := by simp [k1]
    obtain ⟨f1, f2⟩ := right_few k1 HR.out
    have EN : Hid (enc (opR kd x n s I n1 P n2) = [kd] ++ [(n1 : Int)] ++ (nl I n1).flatMap encF ++ [(n2 : Int)] ++ (pl P n2).flatMap encP) := Lib.hid (by rw [enc_1 k1, be1 hkd, be1 (by omega), be1 (by omega)])
    have H1 := Lib.hid (H12.out)
    have HBX := Lib.hid (O3.out.size HB0.out)
    have hu1 : IntKind.u8.wrap (n1 : Int) = (n1 : Int) := u8w (by omega)
    have L1 : Hid (([kd] : List Int).length + 1 ≤ maxLen) := Lib.hid (by simp [maxLen])
    have L2 : Hid ((([kd] : List Int).length + 1) * 1 ≤ 140737488355328) := Lib.hid (by simp)
    have U1 : Hid (∀ u ∈ [Value.int .u8 (n1 : Int)], u.oneCell' = true) := Lib.hid (by simp [Value.oneCell'])
    have L3 : Hid (base ≤ w3.heap.size + 1) := Lib.hid (Nat.le_succ_of_le HBX.out)
    have k1' := k1
    clear k1 k2
    go_upto_region 9 with (at_builtin; refine wpList_append_own _ rfl _ _ 30 rfl base 5 i0 (.int .u8 0) 1 1 Tryz.underlying30 HI.out.1 HI.out.2.1 HI.out.2.2.1 HI.out.2.2.2 rfl (by decide) _ _ _ rfl (O3.out.row.alloc _) ⟨w3.heap.size, 0, none⟩ 1 1 [.int .u8 n1] rfl rfl (cell_one_new _ _ _) U1.out L1.out L2.out (by simp; exact L3.out) ?_; intro v4 w4 ho9 hg9 _)
    have hox := O3.out.step HBX.out ho9 hg9
    obtain ⟨Ax, cx, rfl⟩ := row_shapeS ho9
    have O4 := Lib.hid hox
    clear ho9 hg9 hox HBX L1 L2 U1 L3 hu1 c0 c1x c2x c3x c4x
    go_wp2_with fail
    have K1 := Lib.hid k1'
    go_loopw [4, 5] (fun v i wr => ∃ k : Nat, k ≤ n1 ∧ i = .int .i64 k ∧ Out base w2 wr v (([kd] ++ [(n1 : Int)]) ++ (nl I k).flatMap encF)) (fun _ i _ => n1 - (intOf i).toNat)
    case atStart => exact ⟨0, Nat.zero_le _, rfl, by simpa [nl] using O4.out⟩
    case round =>
      clear O4
      obtain ⟨k, hk, rfl, ho⟩ := hrel
      have O := Lib.hid ho
      clear ho
      have c4 : wr.cell? ⟨q0, 4, none⟩ = some (.slice A1 n1 c1) := block_cell (QW.out _ O.out.below) 4 _ rfl
      by_cases hlt : k < n1
      · have t3 : decide ((k : Int) < n1) = true := by simp; omega
        obtain ⟨b, off, rfl, hb, hc⟩ := (H12.out.below O.out.below (Nat.le_of_eq HB0.out.symm)) (by omega)
        have HC : Hid (wr.rangeAt b (off + k * 36) (cellsF (I k))) := Lib.hid (hc k hlt)
        have HSZ := Lib.hid (sizeF (I k))
        have HON := Lib.hid (oneF (I k))
        have ZL : Hid (zF.length = (cellsF (I k)).length) := Lib.hid (by rw [lenF]; rfl)
        have HKO := Lib.hid (I k).2.key
        have ES := encF_s I k
        have LN := encF_lenE I k
        have HDF := (right_dom HR.out ⟨nl_ko I _, pl_ko P _⟩).2.1 K1.out
        have HDU := (HDF.2.2.2.2.2.1 _ (List.mem_map.2 ⟨k, List.mem_range.2 hlt, rfl⟩)).2.2.2.1
        have HKR := Lib.hid fun (W : World) (q : Nat) => fr_key (I k) (w := W) (b := q)
        have HPL := Lib.hid fun (W : World) (q : Nat) => fr_place (I k) (w := W) (b := q)
        obtain ⟨f, hf⟩ : ∃ f, f = (I k).1 := ⟨_, rfl⟩
        obtain ⟨cs, hcs⟩ : ∃ cs, cs = cellsF (I k) := ⟨_, rfl⟩
        obtain ⟨L, hL⟩ : ∃ L, L = ([kd] ++ [(n1 : Int)]) ++ (nl I k).flatMap encF := ⟨_, rfl⟩
        have LL : L.length ≤ 3000 := by rw [hL]; simp only [List.length_append, LN, List.length_cons, List.length_nil]; (try simp); omega
        have ES2 : Hid (([kd] ++ [(n1 : Int)]) ++ (nl I (k + 1)).flatMap encF = L ++ f.k ++ be 4 f.a ++ be 2 f.n ++ [f.u]) := Lib.hid (by
          rw [ES, hL, hf]
          unfold encF
          rw [be1 (hf ▸ HDU)]
          simp only [List.append_assoc, List.cons_append, List.nil_append])
        rw [← hcs] at HC HSZ HON ZL
        rw [← hf] at HKO HKR HPL HDU
        rw [← hcs] at HKR HPL
        rw [← hL] at O
        have i1 : (0 : Int) ≤ k := by omega
        have i2 : (k : Int) < n1 := by omega
        clear hc hcs hf hL ES LN HDF
        go_upto_region 13 with (first | (refine wpList_load_midG rfl 53 (.tmp 52) rfl b (off + k * 36) rfl cs _ HC.out Tryz.underlying53 rfl HSZ.out ?_) | (refine wpList_boxed rfl 53 6 rfl rfl zF (zeroVF _) (.tmp 53) rfl rfl rfl cs rfl rfl HSZ.out ZL.out HON.out ?_; intro w4 hb4 hh4 hs4))
        obtain ⟨b6, hb6⟩ : ∃ b6, b6 = wr.heap.size := ⟨_, rfl⟩
        rw [← hb6] at hh4 ⊢
        have H6 := Lib.hid hh4
        have O4 := Lib.hid (O.out.after hb4 (Nat.le_refl _) (O.out.size HB0.out))
        have HBX := Lib.hid (O4.out.size HB0.out)
        clear hb4 hs4 hh4 hb6 O HC c4
        have SK := sliceK
        have HN := Lib.hid (range_news (HKR.out w4 b6 (range_of H6.out)))
        have HZ : Hid ((some (⟨b6, 0, none⟩ : Addr)) = none → (32 : Nat) = 0 ∧ (32 : Nat) = 0) := Lib.hid (fun h => by cases h)
        have HLn : Hid ((u8l f.k).length = 32 * 1) := Lib.hid (by rw [u8l_len, HKO.out.len])
        have HO1 := Lib.hid (u8l_one f.k)
        have L1 : Hid (L.length + 32 ≤ maxLen) := Lib.hid (by have : L.length ≤ 4000 := (by omega); unfold maxLen; omega)
        have L2 : Hid ((L.length + 32) * 1 ≤ 140737488355328) := Lib.hid (by have : L.length ≤ 4000 := (by omega); omega)
        go_upto_region 14 with (at_builtin; refine wpList_append_any rfl (.tmp 54) (.tmp 56) 30 rfl base 5 i0 (.int .u8 0) 1 1 Tryz.underlying30 HI.out.1 HI.out.2.1 HI.out.2.2.1 HI.out.2.2.2 rfl (by decide) _ _ (u8l L) rfl O4.out.row (some ⟨b6, 0, none⟩) 32 32 (u8l f.k) rfl HZ.out HLn.out HN.out HO1.out L1.out L2.out HBX.out ?_; intro v5 w5 ho9 hg9)
        have H65 := Lib.hid ((hg9.block b6 (heap_lt H6.out) (fun e => row_ne_cells O4.out.row H6.out (by decide) e.symm)).trans H6.out)
        obtain ⟨Ax, cx, La, rfl, hox, hle, hln⟩ := O4.out.more2 HBX.out HKO.out.len ho9 hg9
        have O5 := Lib.hid hox
        have HELa := Lib.hid hle
        have HNLa := Lib.hid hln
        clear ho9 hg9 hox hle hln HN HZ HLn HO1 HBX L1 L2 SK O4 H6
        have HBX := Lib.hid (O5.out.size HB0.out)
        have cA : w5.cell? ⟨b6, 32, none⟩ = some (.int .i64 f.a) := by have := HPL.out w5 b6 (range_of H65.out) 0 _ rfl; exact this
        go_wp2_with fail
        clear cA
        refine (rnumber40 f.a 4 w5 (by omega)).mono ?_
        rintro e w6 ⟨v9, rfl, on⟩
        obtain ⟨An, cn, rfl, an, hcn, hzn⟩ := on.open (be_len 4 f.a)
        have HN := Lib.hid (arr_news an (be_len 4 f.a))
        have HZ := Lib.hid hzn
        have HLn : Hid ((u8l (be 4 f.a)).length = 4 * 1) := Lib.hid (by rw [u8l_len, be_len])
        have HO1 := Lib.hid (u8l_one (be 4 f.a))
        have O6 := Lib.hid (O5.out.after on.below (Nat.le_refl _) (O5.out.size HB0.out))
        have HBX := Lib.hid (O6.out.size HB0.out)
        have L1 : Hid (La.length + 4 ≤ maxLen) := Lib.hid (by have : La.length ≤ 4000 := (by have hLa := HNLa.out; omega); unfold maxLen; omega)
        have L2 : Hid ((La.length + 4) * 1 ≤ 140737488355328) := Lib.hid (by have : La.length ≤ 4000 := (by have hLa := HNLa.out; omega); omega)
        clear hzn hcn an
        have H67a := Lib.hid ((on.below.block b6 (heap_lt H65.out)).trans H65.out)
        go_upto_region 15 with (at_builtin; refine wpList_append_any rfl (.tmp 58) (.tmp 62) 30 rfl base 5 i0 (.int .u8 0) 1 1 Tryz.underlying30 HI.out.1 HI.out.2.1 HI.out.2.2.1 HI.out.2.2.2 rfl (by decide) _ _ (u8l La) rfl O6.out.row An 4 cn (u8l (be 4 f.a)) rfl HZ.out HLn.out HN.out HO1.out L1.out L2.out HBX.out ?_; intro v5 w7 ho9 hg9)
        have H67 := Lib.hid ((hg9.block b6 (heap_lt H67a.out) (fun e => row_ne_cells O6.out.row H67a.out (by decide) e.symm)).trans H67a.out)
        obtain ⟨Ax, cx, Lb, rfl, hox, hle, hln⟩ := O6.out.more2 HBX.out (be_len 4 f.a) ho9 hg9
        have O7 := Lib.hid hox
        have HELb := Lib.hid hle
        have HNLb := Lib.hid hln
        clear ho9 hg9 hox hle hln HN HZ HLn HO1 HBX L1 L2 on
        clear O5 O6 H65 H67a
        have HBX := Lib.hid (O7.out.size HB0.out)
        have cA : w7.cell? ⟨b6, 33, none⟩ = some (.int .i64 f.n) := by have := HPL.out w7 b6 (range_of H67.out) 1 _ rfl; exact this
        go_wp2_with fail
        clear cA
        refine (rnumber40 f.n 2 w7 (by omega)).mono ?_
        rintro e w8 ⟨v9, rfl, on⟩
        obtain ⟨An, cn, rfl, an, hcn, hzn⟩ := on.open (be_len 2 f.n)
        have HN := Lib.hid (arr_news an (be_len 2 f.n))
        have HZ := Lib.hid hzn
        have HLn : Hid ((u8l (be 2 f.n)).length = 2 * 1) := Lib.hid (by rw [u8l_len, be_len])
        have HO1 := Lib.hid (u8l_one (be 2 f.n))
        have O8 := Lib.hid (O7.out.after on.below (Nat.le_refl _) (O7.out.size HB0.out))
        have HBX := Lib.hid (O8.out.size HB0.out)
        have L1 : Hid (Lb.length + 2 ≤ maxLen) := Lib.hid (by have : Lb.length ≤ 4000 := (by have hLa := HNLa.out; have hLb := HNLb.out; omega); unfold maxLen; omega)
        have L2 : Hid ((Lb.length + 2) * 1 ≤ 140737488355328) := Lib.hid (by have : Lb.length ≤ 4000 := (by have hLa := HNLa.out; have hLb := HNLb.out; omega); omega)
        clear hzn hcn an
        have H69a := Lib.hid ((on.below.block b6 (heap_lt H67.out)).trans H67.out)
        go_upto_region 16 with (at_builtin; refine wpList_append_any rfl (.tmp 64) (.tmp 68) 30 rfl base 5 i0 (.int .u8 0) 1 1 Tryz.underlying30 HI.out.1 HI.out.2.1 HI.out.2.2.1 HI.out.2.2.2 rfl (by decide) _ _ (u8l Lb) rfl O8.out.row An 2 cn (u8l (be 2 f.n)) rfl HZ.out HLn.out HN.out HO1.out L1.out L2.out HBX.out ?_; intro v5 w9 ho9 hg9)
        have H69 := Lib.hid ((hg9.block b6 (heap_lt H69a.out) (fun e => row_ne_cells O8.out.row H69a.out (by decide) e.symm)).trans H69a.out)
        obtain ⟨Ax, cx, Lc, rfl, hox, hle, hln⟩ := O8.out.more2 HBX.out (be_len 2 f.n) ho9 hg9
        have O9 := Lib.hid hox
        have HELc := Lib.hid hle
        have HNLc := Lib.hid hln
        clear ho9 hg9 hox hle hln HN HZ HLn HO1 HBX L1 L2 on
        clear O7 O8 H67 H69a
        have HBX := Lib.hid (O9.out.size HB0.out)
        have cA : w9.cell? ⟨b6, 34, none⟩ = some (.int .i64 f.u) := by have := HPL.out w9 b6 (range_of H69.out) 2 _ rfl; exact this
        have L1 : Hid (Lc.length + 1 ≤ maxLen) := Lib.hid (by have : Lc.length ≤ 4000 := (by have hLa := HNLa.out; have hLb := HNLb.out; have hLc := HNLc.out; omega); unfold maxLen; omega)
        have L2 : Hid ((Lc.length + 1) * 1 ≤ 140737488355328) := Lib.hid (by have : Lc.length ≤ 4000 := (by have hLa := HNLa.out; have hLb := HNLb.out; have hLc := HNLc.out; omega); omega)
        have U1 : Hid (∀ u ∈ [Value.int .u8 f.u], u.oneCell' = true) := Lib.hid (by simp [Value.oneCell'])
        have L3 : Hid (base ≤ w9.heap.size + 1) := Lib.hid (Nat.le_succ_of_le HBX.out)
        have hu : IntKind.u8.wrap f.u = f.u := u8w HDU
        have hwk : IntKind.i64.wrap ((k : Int) + 1) = (k : Int) + 1 := IntWalk.i64_in _ (by omega)
        go_wp2_with (at_builtin; refine wpList_append_own _ rfl _ _ 30 rfl base 5 i0 (.int .u8 0) 1 1 Tryz.underlying30 HI.out.1 HI.out.2.1 HI.out.2.2.1 HI.out.2.2.2 rfl (by decide) _ _ _ rfl (O9.out.row.alloc _) ⟨w9.heap.size, 0, none⟩ 1 1 [.int .u8 f.u] rfl rfl (cell_one_new _ _ _) U1.out L1.out L2.out (by simp; exact L3.out) ?_; intro v6 w10 ho9 hg9 _)
        have hox := O9.out.step HBX.out ho9 hg9
        rw [HELc.out, HELb.out, HELa.out, ← ES2.out] at hox
        have O10 := Lib.hid hox
        obtain ⟨Ax, cx, rfl⟩ := row_shapeS ho9
        clear ho9 hg9 hox
        go_wp2_with fail
        refine ⟨?_, ?measure⟩
        (repeat apply Exists.intro)
        refine ⟨?rel, ?eq⟩
        case eq => rfl
        case rel => exact ⟨k + 1, by omega, by go_num, O10.out⟩
        case measure => simp [intOf]; omega
      · obtain rfl : k = n1 := by omega
        have t3 : decide ((k : Int) < k) = false := by simp
        have c5 : wr.cell? ⟨q0, 5, none⟩ = some (.slice A2 n2 c2) := block_cell (QW.out _ O.out.below) 5 _ rfl
        have HBX := Lib.hid (O.out.size HB0.out)
        have hu2 : IntKind.u8.wrap (n2 : Int) = (n2 : Int) := u8w (by omega)
        have LNN := encF_lenE I k
        obtain ⟨L, hL⟩ : ∃ L, L = [kd] ++ [(k : Int)] ++ (nl I k).flatMap encF := ⟨_, rfl⟩
        have LL : L.length ≤ 2000 := by rw [hL]; simp only [List.length_append, LNN, List.length_cons, List.length_nil]; omega
        have HLL := Lib.hid LL
        have EN := Lib.hid EN.out
        rw [← hL] at O EN
        have L1 : Hid (L.length + 1 ≤ maxLen) := Lib.hid (by unfold maxLen; omega)
        have L2 : Hid ((L.length + 1) * 1 ≤ 140737488355328) := Lib.hid (by omega)
        have U1 : Hid (∀ u ∈ [Value.int .u8 (n2 : Int)], u.oneCell' = true) := Lib.hid (by simp [Value.oneCell'])
        have L3 : Hid (base ≤ wr.heap.size + 1) := Lib.hid (Nat.le_succ_of_le HBX.out)
        clear hL LL LNN
        go_upto_region 18 with (at_builtin; refine wpList_append_own _ rfl _ _ 30 rfl base 5 i0 (.int .u8 0) 1 1 Tryz.underlying30 HI.out.1 HI.out.2.1 HI.out.2.2.1 HI.out.2.2.2 rfl (by decide) _ _ _ rfl (O.out.row.alloc _) ⟨wr.heap.size, 0, none⟩ 1 1 [.int .u8 n2] rfl rfl (cell_one_new _ _ _) U1.out L1.out L2.out (by simp; exact L3.out) ?_; intro v4 wm ho9 hg9 _)
        have hox := O.out.step HBX.out ho9 hg9
        obtain ⟨Ax, cx, rfl⟩ := row_shapeS ho9
        obtain ⟨M, hM⟩ : ∃ M, M = L ++ [(n2 : Int)] := ⟨_, rfl⟩
        have HMN : Hid (M.length ≤ 2001) := Lib.hid (by have := HLL.out; rw [hM, List.length_append]; simp; omega)
        have OM : Hid (Out base w2 wm (.slice Ax (L.length + 1) cx) M) := Lib.hid (by rw [hM]; exact hox)
        rw [← hM] at EN
        clear ho9 hg9 hox HBX L1 L2 U1 L3 hu2 c4 c5 hM
        go_wp2_with fail
        go_loopw [4, 7] (fun v i wr => ∃ k' : Nat, k' ≤ n2 ∧ i = .int .i64 k' ∧ Out base w2 wr v (M ++ (pl P k').flatMap encP)) (fun _ i _ => n2 - (intOf i).toNat)
        case atStart => exact ⟨0, Nat.zero_le _, rfl, by simpa [pl] using OM.out⟩
        case round =>
          clear OM
          obtain ⟨k', hk, rfl, ho⟩ := hrel
          have O := Lib.hid ho
          clear ho
          have c4 : wr.cell? ⟨q0, 5, none⟩ = some (.slice A2 n2 c2) := block_cell (QW.out _ O.out.below) 5 _ rfl
          by_cases hlt : k' < n2
          · have t3 : decide ((k' : Int) < n2) = true := by simp; omega
            obtain ⟨b, off, rfl, hb, hc⟩ := (H22.out.below O.out.below (Nat.le_of_eq HB0.out.symm)) (by omega)
            have HC : Hid (wr.rangeAt b (off + k' * 35) (cellsP (P k'))) := Lib.hid (hc k' hlt)
            have HSZ := Lib.hid (sizeP (P k'))
            have HON := Lib.hid (oneP (P k'))
            have ZL : Hid (zP.length = (cellsP (P k')).length) := Lib.hid (by rw [lenP]; rfl)
            have HKO := Lib.hid (P k').2.key
            have ES := encP_s P k'
            have LN := encP_lenE P k'
            have HDF := (right_dom HR.out ⟨nl_ko I _, pl_ko P _⟩).2.1 K1.out
            have HDP := HDF.2.2.2.2.2.2 _ (List.mem_map.2 ⟨k', List.mem_range.2 hlt, rfl⟩)
            have HKR := Lib.hid fun (W : World) (q : Nat) => pu_key (P k') (w := W) (b := q)
            have HPC := Lib.hid fun (W : World) (q : Nat) => pu_cells (P k') (w := W) (b := q)
            have HDO := HDP.2.2.1
            have HDM := HDP.2.2.2
            have HMN2 := HMN.out
            obtain ⟨f, hf⟩ : ∃ f, f = (P k').1 := ⟨_, rfl⟩
            obtain ⟨cs, hcs⟩ : ∃ cs, cs = cellsP (P k') := ⟨_, rfl⟩
            obtain ⟨L', hL⟩ : ∃ L', L' = M ++ (pl P k').flatMap encP := ⟨_, rfl⟩
            have LL : L'.length ≤ 3000 := by rw [hL]; simp only [List.length_append, LN, List.length_cons, List.length_nil]; (try simp); omega
            have ES2 : Hid (M ++ (pl P (k' + 1)).flatMap encP = L' ++ be 2 f.x ++ f.k ++ [f.o] ++ [f.m]) := Lib.hid (by
              rw [ES, hL, hf]
              unfold encP
              rw [be1 (hf ▸ HDO), be1 (hf ▸ HDM)]
              simp only [List.append_assoc, List.cons_append, List.nil_append])
            rw [← hcs] at HC HSZ HON ZL
            rw [← hf] at HKO HKR HPC HDO HDM
            rw [← hcs] at HKR HPC
            rw [← hL] at O
            have i1 : (0 : Int) ≤ k' := by omega
            have i2 : (k' : Int) < n2 := by omega
            clear hc hcs hf hL ES LN HDF
            go_upto_region 22 with (first | (refine wpList_load_midG rfl 48 (.tmp 94) rfl b (off + k' * 35) rfl cs _ HC.out Tryz.underlying48 rfl HSZ.out ?_) | (refine wpList_boxed rfl 48 8 rfl rfl zP (zeroVP _) (.tmp 95) rfl rfl rfl cs rfl rfl HSZ.out ZL.out HON.out ?_; intro w4 hb4 hh4 hs4))
            obtain ⟨b6, hb6⟩ : ∃ b6, b6 = wr.heap.size := ⟨_, rfl⟩
            rw [← hb6] at hh4 ⊢
            have H6 := Lib.hid hh4
            have O4 := Lib.hid (O.out.after hb4 (Nat.le_refl _) (O.out.size HB0.out))
            have HBX := Lib.hid (O4.out.size HB0.out)
            clear hb4 hs4 hh4 hb6 O HC c4
            have HLL2 : Hid (L'.length ≤ 3000) := Lib.hid LL
            clear LL HDP HMN2
            have cA : w4.cell? ⟨b6, 0, none⟩ = some (.int .i64 f.x) := (HPC.out w4 b6 (range_of H6.out)).1
            go_wp2_with fail
            clear cA HBX
            refine (rnumber40 f.x 2 w4 (by omega)).mono ?_
            rintro e w5 ⟨v9, rfl, on⟩
            obtain ⟨An, cn, rfl, an, hcn, hzn⟩ := on.open (be_len 2 f.x)
            have HN := Lib.hid (arr_news an (be_len 2 f.x))
            have HZ := Lib.hid hzn
            have HLn : Hid ((u8l (be 2 f.x)).length = 2 * 1) := Lib.hid (by rw [u8l_len, be_len])
            have HO1 := Lib.hid (u8l_one (be 2 f.x))
            have O5 := Lib.hid (O4.out.after on.below (Nat.le_refl _) (O4.out.size HB0.out))
            have HBX := Lib.hid (O5.out.size HB0.out)
            have L1 : Hid (L'.length + 2 ≤ maxLen) := Lib.hid (by have : L'.length ≤ 4000 := (by have := HLL2.out; omega); unfold maxLen; omega)
            have L2 : Hid ((L'.length + 2) * 1 ≤ 140737488355328) := Lib.hid (by have : L'.length ≤ 4000 := (by have := HLL2.out; omega); omega)
            clear hzn hcn an
            have H65 := Lib.hid ((on.below.block b6 (heap_lt H6.out)).trans H6.out)
            go_upto_region 23 with (at_builtin; refine wpList_append_any rfl (.tmp 96) (.tmp 99) 30 rfl base 5 i0 (.int .u8 0) 1 1 Tryz.underlying30 HI.out.1 HI.out.2.1 HI.out.2.2.1 HI.out.2.2.2 rfl (by decide) _ _ (u8l L') rfl O5.out.row An 2 cn (u8l (be 2 f.x)) rfl HZ.out HLn.out HN.out HO1.out L1.out L2.out HBX.out ?_; intro v5 w6 ho9 hg9)
            have H66 := Lib.hid ((hg9.block b6 (heap_lt H65.out) (fun e => row_ne_cells O5.out.row H65.out (by decide) e.symm)).trans H65.out)
            obtain ⟨Ax, cx, La, rfl, hox, hle, hln⟩ := O5.out.more2 HBX.out (be_len 2 f.x) ho9 hg9
            have O6 := Lib.hid hox
            have HELa := Lib.hid hle
            have HNLa := Lib.hid hln
            clear ho9 hg9 hox hle hln HN HZ HLn HO1 HBX L1 L2 on
            clear O4 O5 H6 H65
            have HBX := Lib.hid (O6.out.size HB0.out)
            have SK := sliceK
            have HN := Lib.hid (range_news (HKR.out w6 b6 (range_of H66.out)))
            have HZ : Hid ((some (⟨b6, 1, none⟩ : Addr)) = none → (32 : Nat) = 0 ∧ (32 : Nat) = 0) := Lib.hid (fun h => by cases h)
            have HLn : Hid ((u8l f.k).length = 32 * 1) := Lib.hid (by rw [u8l_len, HKO.out.len])
            have HO1 := Lib.hid (u8l_one f.k)
            have L1 : Hid (La.length + 32 ≤ maxLen) := Lib.hid (by have : La.length ≤ 4000 := (by have := HLL2.out; have hLa := HNLa.out; omega); unfold maxLen; omega)
            have L2 : Hid ((La.length + 32) * 1 ≤ 140737488355328) := Lib.hid (by have : La.length ≤ 4000 := (by have := HLL2.out; have hLa := HNLa.out; omega); omega)
            go_upto_region 24 with (at_builtin; refine wpList_append_any rfl (.tmp 101) (.tmp 104) 30 rfl base 5 i0 (.int .u8 0) 1 1 Tryz.underlying30 HI.out.1 HI.out.2.1 HI.out.2.2.1 HI.out.2.2.2 rfl (by decide) _ _ (u8l La) rfl O6.out.row (some ⟨b6, 1, none⟩) 32 32 (u8l f.k) rfl HZ.out HLn.out HN.out HO1.out L1.out L2.out HBX.out ?_; intro v5 w7 ho9 hg9)
            have H67 := Lib.hid ((hg9.block b6 (heap_lt H66.out) (fun e => row_ne_cells O6.out.row H66.out (by decide) e.symm)).trans H66.out)
            obtain ⟨Ax, cx, Lb, rfl, hox, hle, hln⟩ := O6.out.more2 HBX.out HKO.out.len ho9 hg9
            have O7 := Lib.hid hox
            have HELb := Lib.hid hle
            have HNLb := Lib.hid hln
            clear ho9 hg9 hox hle hln HN HZ HLn HO1 HBX L1 L2 SK O6 H66
            have HBX := Lib.hid (O7.out.size HB0.out)
            obtain ⟨-, cA, cB⟩ := HPC.out w7 b6 (range_of H67.out)
            have L1 : Hid (Lb.length + 2 ≤ maxLen) := Lib.hid (by have := HLL2.out; have hLa := HNLa.out; have hLb := HNLb.out; unfold maxLen; omega)
            have L2 : Hid ((Lb.length + 2) * 1 ≤ 140737488355328) := Lib.hid (by have := HLL2.out; have hLa := HNLa.out; have hLb := HNLb.out; omega)
            have U1 : Hid (∀ u ∈ [Value.int .u8 f.o, Value.int .u8 f.m], u.oneCell' = true) := Lib.hid (by simp [Value.oneCell'])
            have L3 : Hid (base ≤ w7.heap.size + 1) := Lib.hid (Nat.le_succ_of_le HBX.out)
            have hu : IntKind.u8.wrap f.o = f.o := u8w HDO
            have hu2 : IntKind.u8.wrap f.m = f.m := u8w HDM
            have hwk : IntKind.i64.wrap ((k' : Int) + 1) = (k' : Int) + 1 := IntWalk.i64_in _ (by omega)
            go_wp2_with (at_builtin; refine wpList_append_own _ rfl _ _ 30 rfl base 5 i0 (.int .u8 0) 1 1 Tryz.underlying30 HI.out.1 HI.out.2.1 HI.out.2.2.1 HI.out.2.2.2 rfl (by decide) _ _ _ rfl (O7.out.row.alloc _) ⟨w7.heap.size, 0, none⟩ 2 2 [.int .u8 f.o, .int .u8 f.m] rfl rfl (cells_new _ _ _) U1.out L1.out L2.out (by simp; exact L3.out) ?_; intro v6 w8 ho9 hg9 _)
            have hox := O7.out.step2 HBX.out ho9 hg9
            rw [HELb.out, HELa.out, ← List.append_assoc, ← ES2.out] at hox
            have O10 := Lib.hid hox
            obtain ⟨Ax, cx, rfl⟩ := row_shapeS ho9
            clear ho9 hg9 hox
            first
              | exact ⟨⟨k' + 1, by omega, by go_num, O10.out⟩, by simp [intOf]; omega⟩
              | exact ⟨⟨k' + 1, by omega, by go_num, O10.out⟩, by simp [intOf]⟩
              | (trace_state; sorry)
          · obtain rfl : k' = n2 := by omega
            have t3 : decide ((k' : Int) < k') = false := by simp
            have ho := O.out
            rw [← EN.out] at ho
            have HO := Lib.hid ho
            clear ho O
            go_wp2_with fail
            go_ret2
            exact FIN.out _ _ HO.out
end Go.Proofs.YthdllbbjajddiaaGreatDoor
