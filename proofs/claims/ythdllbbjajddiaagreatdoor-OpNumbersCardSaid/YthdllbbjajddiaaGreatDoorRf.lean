/- Layer 25 (op): the document's Get. Printed by genRf.py. -/
import Derived.Test.YthdllbbjajddiaaGreatDoorRq
set_option linter.all false
namespace Go.Proofs.YthdllbbjajddiaaGreatDoor
open Go.RowKit Go.Maps Go.WideMaps
theorem said_1 {l : List Int} (hb : Byt l) (at_ : Nat) : 0 ≤ saidR l at_ 1 ∧ saidR l at_ 1 < 256 := by
  have h := num_bd (readL l at_ 1) (readL_byt hb at_ 1)
  rw [readL_len] at h
  exact h
theorem own_stays {w w2 : World} {B n s : Nat} {e : TypeId} {v : Value} {xs : List Value} (h : w.ownsRow B e s v n xs) (hb : ∀ k, k < w.heap.size → ∀ o, w.heap[k]? = some o → w2.heap[k]? = some o) : w2.ownsRow B e s v n xs := by
  refine ⟨h.1, ?_⟩
  rcases h.2 with h' | ⟨g, cap, cur, e1, e2, e3, e4⟩
  · exact .inl h'
  · exact .inr ⟨g, cap, cur, e1, e2, hb g (heap_lt e3) _ e3, e4⟩
/-- The op while it is read: its block, its rows. -/
structure Half (w0 wr : World) (p q : Nat) (o : OpR) (A1 : Option Addr) (n1 c1 : Nat) (I : Nat → ElF) (A2 : Option Addr) (n2 c2 : Nat) (P : Nat → ElP) : Prop where
  at_ : wr.heap[p]? = some (.cells (opL o.kd o.at_ o.n o.sn A1 n1 c1 A2 n2 c2).toArray 26 (0, 0))
  res : wr.heap[q]? = some (.cells zOp.toArray 26 (0, 0))
  r1 : wr.ownsRow w0.heap.size 53 36 (.slice A1 n1 c1) n1 (flatS (fun i => cellsF (I i)) n1)
  r2 : wr.ownsRow w0.heap.size 48 35 (.slice A2 n2 c2) n2 (flatS (fun i => cellsP (P i)) n2)
  below : Below w0.heap.size w0 wr
set_option maxRecDepth 100000 in
set_option maxHeartbeats 8000000 in
theorem rget22 (l : List Int) (A : Option Addr) (n c : Nat) (w : World) (hn : l.length = n) (hn2 : n ≤ 1099511627776) (hnc : n ≤ c) (hb : Byt l) (ha : Arr w w.heap.size A n fun j => .int .u8 (l.getD j 0)) :
    Calls Tryz.prog 14 #[.slice A n c] w (GetP w l) := by
  have HA := Lib.hid ha
  have HB := Lib.hid hb
  have HL := Lib.hid hn
  clear ha hb hn
  go_enter Tryz.func14, Tryz.ntmps14
  go_upto_region 1 with (refine wpList_laid rfl 26 rfl zOp (zeroVOp _) ?_)
  obtain ⟨w1, hw1⟩ : ∃ w1, w1 = w.alloc (.cells zOp.toArray 26) := ⟨_, rfl⟩
  have B1 : Hid (Below w.heap.size w w1) := Lib.hid (by rw [hw1]; exact (Below.refl _ _).alloc (Nat.le_refl _) _)
  have Z1 : Hid (w1.heap[w.heap.size]? = some (.cells zOp.toArray 26 (0, 0))) := Lib.hid (by rw [hw1]; exact heap_new w _)
  rw [← hw1]
  obtain ⟨q, hq⟩ : ∃ q, q = w.heap.size := ⟨_, rfl⟩
  rw [← hq] at Z1 ⊢
  have HQ : Hid (w.heap.size = q) := Lib.hid hq.symm
  have A1' := Lib.hid ((HA.out.below B1.out (Nat.le_refl _)).more B1.out.size)
  clear hw1 hq
  go_wp2_with fail
  refine (said49 l A n c 0 1 w1 HL.out hn2 HB.out A1'.out (by omega) (by omega)).mono ?_
  rintro e _ ⟨rfl, rfl⟩
  have hk := said_1 HB.out 0
  obtain ⟨k, hkk⟩ : ∃ k, k = saidR l 0 1 := ⟨_, rfl⟩
  rw [← hkk] at hk ⊢
  have HKK := Lib.hid hkk
  have k1 : 0 ≤ k := hk.1
  have k2 : k < 256 := hk.2
  have hwk : IntKind.u8.wrap k = k := u8w hk
  have BO := Lib.hid (buildOpK k)
  have OO := Lib.hid (opL_one k 0 0 0 none 0 0 none 0 0)
  clear hkk hk
  go_upto_region 2 with (first | (refine wpList_buildG rfl 26 [(0, .tmp 12)] rfl [(0, .int .u8 k)] rfl _ (BO.out _) ?_) | (refine wpList_boxed rfl 26 4 rfl rfl zOp (zeroVOp _) (.tmp 13) rfl rfl rfl (opL k 0 0 0 none 0 0 none 0 0) rfl rfl sizeOp rfl OO.out ?_; intro w3 hb3 hh3 hs3))
  obtain ⟨p, hp⟩ : ∃ p, p = w1.heap.size := ⟨_, rfl⟩
  rw [← hp] at hh3 ⊢
  have HPQ : Hid (q < p) := Lib.hid (by rw [hp]; exact heap_lt Z1.out)
  have HF : Hid (Half w w3 p q ⟨k, 0, 0, 0, [], []⟩ none 0 0 I0 none 0 0 P0) := Lib.hid ⟨hh3, (hb3.block q (heap_lt Z1.out)).trans Z1.out, World.ownsRow_nil _ _ _ _, World.ownsRow_nil _ _ _ _, B1.out.trans (hb3.mono B1.out.size)⟩
  clear hb3 hs3 hh3 hp Z1 B1 A1' hwk
  have c0 : w3.cell? ⟨p, 0, none⟩ = some (.int .u8 k) := block_cell HF.out.at_ 0 _ rfl

  by_cases k1' : k = 1
  · have t1 : (k == 1) = true := by simp [k1']
    obtain ⟨N, hN⟩ : ∃ N, N = newsN l := ⟨_, rfl⟩
    have hs1 := said_1 HB.out 1
    have HN : Hid (saidR l 1 1 = (N : Int)) := Lib.hid (by rw [hN]; unfold newsN; omega)
    have hN256 : N < 256 := by rw [hN]; unfold newsN; omega
    obtain ⟨I, hI⟩ : ∃ I : Nat → ElF, ∀ j, (I j).1 = freshL l (2 + j * 39) := ⟨fun j => elF HB.out _, fun _ => rfl⟩
    have HI := Lib.hid hI
    have HNE := Lib.hid hN
    clear hN hs1 hI
    subst k1'
    go_wp2_with fail
    refine (said49 l A n c 1 1 w3 HL.out hn2 HB.out ((HA.out.below HF.out.below (Nat.le_refl _)).more HF.out.below.size) (by omega) (by omega)).mono ?_
    rintro e _ ⟨rfl, rfl⟩
    rw [HN.out]
    clear c0
    go_wp2_with fail
    go_loopw [5, 6] (fun a m wr => ∃ i z y : Nat, i ≤ N ∧ z = 2 + i * 39 ∧ y = N - i ∧ a = .int .i64 z ∧ m = .int .i64 y ∧ ∃ Ax cx, Half w wr p q ⟨1, 0, 0, 0, [], []⟩ Ax i cx I none 0 0 P0) (fun _ m _ => (intOf m).toNat)
    case atStart => exact ⟨0, 2, N, Nat.zero_le _, rfl, rfl, rfl, rfl, none, 0, HF.out.at_, HF.out.res, World.ownsRow_nil _ _ _ _, HF.out.r2, HF.out.below⟩
    case round =>
      clear HF
      obtain ⟨i, z, y, hi, hz, hy, rfl, rfl, Ax, cx, hf⟩ := hrel
      have HF := Lib.hid hf
      clear hf
      by_cases hlt : i < N
      · have t3 : decide ((0 : Int) < (y : Int)) = true := by simp; omega
        have t3n : decide (0 < y) = true := by simp; omega
        have hz9 : z ≤ 20000 := by omega
        have hy1 : 1 ≤ y := by omega
        obtain ⟨cs, hcs⟩ : ∃ cs, cs = cellsF (I i) := ⟨_, rfl⟩
        have HCS : Hid (frC ⟨readL l z 32, saidR l (z + 32) 4, saidR l (z + 36) 2, saidR l (z + 38) 1, 0⟩ = cs) := Lib.hid (by rw [hcs]; unfold cellsF; rw [HI.out, ← hz]; rfl)
        have HLEN : Hid (cs.length = 36) := Lib.hid (by rw [hcs]; exact lenF _)
        have HON : Hid (∀ u ∈ cs, u.oneCell' = true) := Lib.hid (by rw [hcs]; exact oneF _)
        have HFL : Hid (flatS (fun i => cellsF (I i)) i ++ cs = flatS (fun i => cellsF (I i)) (i + 1)) := Lib.hid (by rw [hcs]; rfl)
        have h32 : IntKind.i64.wrap ((z : Int) + 32) = ((z + 32 : Nat) : Int) := by rw [IntWalk.i64_in _ (by omega)]; omega
        have h36 : IntKind.i64.wrap ((z : Int) + 36) = ((z + 36 : Nat) : Int) := by rw [IntWalk.i64_in _ (by omega)]; omega
        have h38 : IntKind.i64.wrap ((z : Int) + 38) = ((z + 38 : Nat) : Int) := by rw [IntWalk.i64_in _ (by omega)]; omega
        have h39 : IntKind.i64.wrap ((z : Int) + 39) = ((z + 39 : Nat) : Int) := by rw [IntWalk.i64_in _ (by omega)]; omega
        have hm1 : IntKind.i64.wrap ((y : Int) - 1) = ((y - 1 : Nat) : Int) := by rw [IntWalk.i64_in _ (by omega)]; omega
        have C4 : Hid (∀ wx : World, wx.heap[p]? = some (.cells (opL 1 0 0 0 Ax i cx none 0 0).toArray 26 (0, 0)) → wx.cell? ⟨p, 4, none⟩ = some (.slice Ax i cx)) := Lib.hid fun wx h => block_cell h 4 _ rfl
        have HAT : Hid (wr.drew.heap[p]? = some (.cells (opL 1 0 0 0 Ax i cx none 0 0).toArray 26 (0, 0))) := Lib.hid HF.out.at_
        have HAr : Hid (Arr wr.drew wr.drew.heap.size A n fun j => .int .u8 (l.getD j 0)) := Lib.hid ((HA.out.below HF.out.below (Nat.le_refl _)).more HF.out.below.size)
        have HZ := Lib.hid hz
        have HY := Lib.hid hy
        obtain ⟨iF, hiF, hzF0, hzF1, hzF2⟩ := infoParts infoFz
        have HIF := Lib.hid (And.intro hiF (And.intro hzF0 (And.intro hzF1 hzF2)))
        have HL36 : Hid (cs.length = 1 * 36) := Lib.hid (by rw [HLEN.out])
        have HL5 : Hid (0 < cs.length) := Lib.hid (by rw [HLEN.out]; decide)
        have HL6 : Hid (cs.length ≤ 2 ^ 24) := Lib.hid (by rw [HLEN.out]; decide)
        have HL7 : Hid (iF.size = cs.length) := Lib.hid (by rw [HLEN.out]; exact HIF.out.2.2.1)
        clear hiF hzF0 hzF1 hzF2
        clear hcs hz hy
        go_wp2_with fail
        refine wp_region_held_drew (S := fun _ => True) follows trivial (fun hHeld => ?_)
        refine wpAnyH_take (i := 0) (v := ?_) (by simp only [List.getElem?_toArray, List.getElem?_cons_zero]; rfl) (by kernel_rfl) (by kernel_rfl) (by kernel_rfl) (by intro _ _ _ h; exact h) (Or.inl ⟨by rfl, ?_⟩) hHeld ?_
        rotate_left
        · (intro w hSw; (try dsimp only at hSw); go_simp; try with_reducible rfl)
        try simp only [Act.put, List.setIfInBounds_toArray, List.set_cons_zero, List.set_cons_succ]
        refine wpAnyH_take (i := 2) (v := ?_) (by simp only [List.getElem?_toArray, List.getElem?_cons_zero, List.getElem?_cons_succ]; rfl) (by kernel_rfl) (by kernel_rfl) (by kernel_rfl) (by intro _ _ _ h; exact h) (Or.inl ⟨by rfl, ?_⟩) hHeld ?_
        rotate_left
        · (intro w hSw; (try dsimp only at hSw); go_simp; try with_reducible rfl)
        try simp only [Act.put, List.setIfInBounds_toArray, List.set_cons_zero, List.set_cons_succ]
        refine wpAnyH_take (i := 3) (v := ?_) (by simp only [List.getElem?_toArray, List.getElem?_cons_zero, List.getElem?_cons_succ]; rfl) (by kernel_rfl) (by kernel_rfl) (by kernel_rfl) (by intro _ _ _ h; exact h) (Or.inl ⟨by rfl, ?_⟩) hHeld ?_
        rotate_left
        · (intro w hSw; (try dsimp only at hSw); go_simp; try with_reducible rfl)
        try simp only [Act.put, List.setIfInBounds_toArray, List.set_cons_zero, List.set_cons_succ]
        refine wpAnyH_take (i := 5) (v := ?_) (by simp only [List.getElem?_toArray, List.getElem?_cons_zero, List.getElem?_cons_succ]; rfl) (by kernel_rfl) (by kernel_rfl) (by kernel_rfl) (by intro _ _ _ h; exact h) (Or.inl ⟨by rfl, ?_⟩) hHeld ?_
        rotate_left
        · (intro w hSw; (try dsimp only at hSw); go_simp; try with_reducible rfl)
        try simp only [Act.put, List.setIfInBounds_toArray, List.set_cons_zero, List.set_cons_succ]
        refine wpAnyH_take (i := 6) (v := ?_) (by simp only [List.getElem?_toArray, List.getElem?_cons_zero, List.getElem?_cons_succ]; rfl) (by kernel_rfl) (by kernel_rfl) (by kernel_rfl) (by intro _ _ _ h; exact h) (Or.inl ⟨by rfl, ?_⟩) hHeld ?_
        rotate_left
        · (intro w hSw; (try dsimp only at hSw); go_simp; try with_reducible rfl)
        try simp only [Act.put, List.setIfInBounds_toArray, List.set_cons_zero, List.set_cons_succ]
        refine wpAnyH_take (i := 7) (v := ?_) (by simp only [List.getElem?_toArray, List.getElem?_cons_zero, List.getElem?_cons_succ]; rfl) (by kernel_rfl) (by kernel_rfl) (by kernel_rfl) (by intro _ _ _ h; exact h) (Or.inl ⟨by rfl, ?_⟩) hHeld ?_
        rotate_left
        · (intro w hSw; (try dsimp only at hSw); go_simp; try with_reducible rfl)
        try simp only [Act.put, List.setIfInBounds_toArray, List.set_cons_zero, List.set_cons_succ]
        refine wpAnyH_take (i := 9) (v := ?_) (by simp only [List.getElem?_toArray, List.getElem?_cons_zero, List.getElem?_cons_succ]; rfl) (by kernel_rfl) (by kernel_rfl) (by kernel_rfl) (by intro _ _ _ h; exact h) (Or.inl ⟨by rfl, ?_⟩) hHeld ?_
        rotate_left
        · (intro w hSw; (try dsimp only at hSw); go_simp; try with_reducible rfl)
        try simp only [Act.put, List.setIfInBounds_toArray, List.set_cons_zero, List.set_cons_succ]
        refine wpAnyH_take (i := 10) (v := ?_) (by simp only [List.getElem?_toArray, List.getElem?_cons_zero, List.getElem?_cons_succ]; rfl) (by kernel_rfl) (by kernel_rfl) (by kernel_rfl) (by intro _ _ _ h; exact h) (Or.inl ⟨by rfl, ?_⟩) hHeld ?_
        rotate_left
        · (intro w hSw; (try dsimp only at hSw); go_simp; try with_reducible rfl)
        try simp only [Act.put, List.setIfInBounds_toArray, List.set_cons_zero, List.set_cons_succ]
        refine wpAnyH_take (i := 11) (v := ?_) (by simp only [List.getElem?_toArray, List.getElem?_cons_zero, List.getElem?_cons_succ]; rfl) (by kernel_rfl) (by kernel_rfl) (by kernel_rfl) (by intro _ _ _ h; exact h) (Or.inl ⟨by rfl, ?_⟩) hHeld ?_
        rotate_left
        · (intro w hSw; (try dsimp only at hSw); go_simp; try with_reducible rfl)
        try simp only [Act.put, List.setIfInBounds_toArray, List.set_cons_zero, List.set_cons_succ]
        refine wpAnyH_take (i := 13) (v := ?_) (by simp only [List.getElem?_toArray, List.getElem?_cons_zero, List.getElem?_cons_succ]; rfl) (by kernel_rfl) (by kernel_rfl) (by kernel_rfl) (by intro _ _ _ h; exact h) (Or.inl ⟨by rfl, ?_⟩) hHeld ?_
        rotate_left
        · (intro w hSw; (try dsimp only at hSw); go_simp; try with_reducible rfl)
        try simp only [Act.put, List.setIfInBounds_toArray, List.set_cons_zero, List.set_cons_succ]
        refine wpAnyH_take (i := 14) (v := ?_) (by simp only [List.getElem?_toArray, List.getElem?_cons_zero, List.getElem?_cons_succ]; rfl) (by kernel_rfl) (by kernel_rfl) (by kernel_rfl) (by intro _ _ _ h; exact h) (Or.inl ⟨by rfl, ?_⟩) hHeld ?_
        rotate_left
        · (intro w hSw; (try dsimp only at hSw); go_simp; try with_reducible rfl)
        try simp only [Act.put, List.setIfInBounds_toArray, List.set_cons_zero, List.set_cons_succ]
        refine wpAnyH_take (i := 15) (v := ?_) (by simp only [List.getElem?_toArray, List.getElem?_cons_zero, List.getElem?_cons_succ]; rfl) (by kernel_rfl) (by kernel_rfl) (by kernel_rfl) (by intro _ _ _ h; exact h) (Or.inl ⟨by rfl, ?_⟩) hHeld ?_
        rotate_left
        · (intro w hSw; (try dsimp only at hSw); go_simp; try with_reducible rfl)
        try simp only [Act.put, List.setIfInBounds_toArray, List.set_cons_zero, List.set_cons_succ]
        refine wpAnyH_ready (rs := [1, 4]) (by kernel_rfl) (by simp) ?_
        refine AllReadyH.cons (by simp only [List.getElem?_toArray, List.getElem?_cons_zero, List.getElem?_cons_succ]; rfl) (fun K hK => ?_) (AllReadyH.cons (by simp only [List.getElem?_toArray, List.getElem?_cons_zero, List.getElem?_cons_succ]; rfl) (fun K hK => ?_) AllReadyH.nil)
        · skip
          rw [if_pos (by rfl)]
          have c4 := C4.out _ HAT.out
          go_simp
          refine hK.out _ _ trivial (fun hHeld => ?_)
          clear hK K
          try simp only [Act.put, List.setIfInBounds_toArray, List.set_cons_zero, List.set_cons_succ]
          clear c4
          refine wpAnyH_ready (rs := [4]) (by kernel_rfl) (by simp) ?_
          refine AllReadyH.cons (by simp only [List.getElem?_toArray, List.getElem?_cons_zero, List.getElem?_cons_succ]; rfl) (fun K hK => ?_) AllReadyH.nil
          rw [if_pos (by rfl)]
          go_simp
          refine (key50 l A n c z wr.drew HL.out hn2 HB.out HAr.out (by omega)).mono ?_
          rintro e w2 ⟨rfl, hkey, hb2⟩
          have HAT2 := Lib.hid ((hb2.block p (heap_lt HAT.out)).trans HAT.out)
          have HAr2 := Lib.hid ((HAr.out.below hb2 (Nat.le_refl _)).more hb2.size)
          have B2 := Lib.hid hb2
          have HKL := Lib.hid hkey.len
          refine hK.out _ _ trivial (fun hHeld => ?_)
          clear hK K
          try simp only [Act.put, List.setIfInBounds_toArray, List.set_cons_zero, List.set_cons_succ]
          clear hb2 hkey
          refine wpAnyH_ready (rs := [8]) (by kernel_rfl) (by simp) ?_
          refine AllReadyH.cons (by simp only [List.getElem?_toArray, List.getElem?_cons_zero, List.getElem?_cons_succ]; rfl) (fun K hK => ?_) AllReadyH.nil
          rw [if_pos (by rfl)]
          go_simp
          refine (said49 l A n c (z + 32) 4 w2 HL.out hn2 HB.out HAr2.out (by omega) (by omega)).mono ?_
          rintro e _ ⟨rfl, rfl⟩
          refine hK.out _ _ trivial (fun hHeld => ?_)
          clear hK K
          try simp only [Act.put, List.setIfInBounds_toArray, List.set_cons_zero, List.set_cons_succ]
          refine wpAnyH_ready (rs := [12]) (by kernel_rfl) (by simp) ?_
          refine AllReadyH.cons (by simp only [List.getElem?_toArray, List.getElem?_cons_zero, List.getElem?_cons_succ]; rfl) (fun K hK => ?_) AllReadyH.nil
          rw [if_pos (by rfl)]
          go_simp
          refine (said49 l A n c (z + 36) 2 w2 HL.out hn2 HB.out HAr2.out (by omega) (by omega)).mono ?_
          rintro e _ ⟨rfl, rfl⟩
          refine hK.out _ _ trivial (fun hHeld => ?_)
          clear hK K
          try simp only [Act.put, List.setIfInBounds_toArray, List.set_cons_zero, List.set_cons_succ]
          refine wpAnyH_ready (rs := [16]) (by kernel_rfl) (by simp) ?_
          refine AllReadyH.cons (by simp only [List.getElem?_toArray, List.getElem?_cons_zero, List.getElem?_cons_succ]; rfl) (fun K hK => ?_) AllReadyH.nil
          rw [if_pos (by rfl)]
          go_simp
          refine (said49 l A n c (z + 38) 1 w2 HL.out hn2 HB.out HAr2.out (by omega) (by omega)).mono ?_
          rintro e _ ⟨rfl, rfl⟩
          refine hK.out _ _ trivial (fun hHeld => ?_)
          clear hK K
          try simp only [Act.put, List.setIfInBounds_toArray, List.set_cons_zero, List.set_cons_succ]
          refine wpAnyH_take (i := 17) (v := _) (by simp only [List.getElem?_toArray, List.getElem?_cons_zero, List.getElem?_cons_succ]; rfl) (by kernel_rfl) (by kernel_rfl) (by kernel_rfl) (by intro _ _ _ h; exact h) (yields_build (by rfl) 51 [(0, .tmp 35), (1, .tmp 39), (2, .tmp 43)] rfl [(0, .int .i64 (saidR l (z + 32) 4)), (1, .int .i64 (saidR l (z + 36) 2)), (2, .int .i64 (saidR l (z + 38) 1))] rfl _ (fun w => buildPl _ _ _ w)) hHeld ?_
          try simp only [Act.put, List.setIfInBounds_toArray, List.set_cons_zero, List.set_cons_succ]
          refine wpAnyH_take (i := 18) (v := _) (by simp only [List.getElem?_toArray, List.getElem?_cons_zero, List.getElem?_cons_succ]; rfl) (by kernel_rfl) (by kernel_rfl) (by kernel_rfl) (by intro _ _ _ h; exact h) (yields_build (by rfl) 53 [(0, .tmp 31), (1, .tmp 44)] rfl [(0, kv (readL l z 32)), (1, .agg #[.int .i64 (saidR l (z + 32) 4), .int .i64 (saidR l (z + 36) 2), .int .i64 (saidR l (z + 38) 1), .int .i64 0])] rfl (.agg cs.toArray) (fun w => HCS.out ▸ buildFr _ _ _ _ HKL.out w)) hHeld ?_
          try simp only [Act.put, List.setIfInBounds_toArray, List.set_cons_zero, List.set_cons_succ]
          refine wpAnyH_ready (rs := [19]) (by kernel_rfl) (by simp) ?_
          refine AllReadyH.cons (by simp only [List.getElem?_toArray, List.getElem?_cons_zero, List.getElem?_cons_succ]; rfl) (fun K hK => ?_) AllReadyH.nil
          rw [if_pos (by rfl)]
          refine wp_slice1 23 53 (.tmp 45) rfl cs rfl iF (.agg zF.toArray) Tryz.underlying23 HIF.out.1 HIF.out.2.1 HL7.out HL5.out HL6.out ?_
          obtain ⟨w3, hw3⟩ : ∃ w3, w3 = w2.alloc (.cells cs.toArray 53) := ⟨_, rfl⟩
          have BW2 : Hid (Below w.heap.size w w2) := Lib.hid (HF.out.below.drew.trans (B2.out.mono HF.out.below.size))
          have HAT3 : Hid (w3.heap[p]? = some (.cells (opL 1 0 0 0 Ax i cx none 0 0).toArray 26 (0, 0))) := Lib.hid (by rw [hw3]; exact heap_old HAT2.out)
          have CA : Hid (∀ j u, cs[j]? = some u → w3.cell? ((⟨w2.heap.size, 0, none⟩ : Addr).add j) = some u) := Lib.hid fun j u hu => by
            rw [Go.WideShapes.add_plain, Nat.zero_add, hw3]
            exact block_cell (heap_new w2 _) j u (by simpa using hu)
          have ST3 : Hid (∀ k, k < wr.heap.size → ∀ o, wr.heap[k]? = some o → w3.heap[k]? = some o) := Lib.hid fun k hk o ho => by rw [hw3]; exact heap_old ((B2.out.block k (heap_lt ho)).trans ho)
          have RW3 : Hid (w3.ownsRow w.heap.size 53 36 (.slice Ax i cx) i (flatS (fun i => cellsF (I i)) i)) := Lib.hid (own_stays HF.out.r1 ST3.out)
          have BW3 : Hid (Below w.heap.size w w3) := Lib.hid (by rw [hw3]; exact BW2.out.alloc BW2.out.size _)
          rw [← hw3]
          clear hw3
          refine hK.out _ _ trivial (fun hHeld => ?_)
          clear hK K
          try simp only [Act.put, List.setIfInBounds_toArray, List.set_cons_zero, List.set_cons_succ]
          refine wpAnyH_ready (rs := [20]) (by kernel_rfl) (by simp) ?_
          refine AllReadyH.cons (by simp only [List.getElem?_toArray, List.getElem?_cons_zero, List.getElem?_cons_succ]; rfl) (fun K hK => ?_) AllReadyH.nil
          rw [if_pos (by rfl)]
          refine wp_append_own w3 (.tmp 28) (.tmp 46) 23 rfl w.heap.size 53 iF (.agg zF.toArray) 36 64 Tryz.underlying23 HIF.out.1 HIF.out.2.1 HIF.out.2.2.1 HIF.out.2.2.2 rfl (by decide) (.slice Ax i cx) i (flatS (fun i => cellsF (I i)) i) rfl RW3.out ⟨w2.heap.size, 0, none⟩ 1 1 cs rfl HL36.out CA.out HON.out (by unfold maxLen; omega) (by omega) BW3.out.size (fun v8 w4 ho9 hg9 _ => ?_)
          rw [HFL.out] at ho9
          have HAT4 := Lib.hid ((hg9.block p (heap_lt HAT3.out) (fun e => row_ne_cells RW3.out HAT3.out (by decide) e.symm)).trans HAT3.out)
          have BW4 := Lib.hid (BW3.out.grown hg9 BW3.out.size (fun k e => (RW3.out.lt k e).1))
          have HRS4 : Hid (w4.heap[q]? = some (.cells zOp.toArray 26 (0, 0))) := Lib.hid (by
            have h3 := ST3.out q (heap_lt HF.out.res) _ HF.out.res
            exact (hg9.block q (heap_lt h3) (fun e => row_ne_cells RW3.out h3 (by decide) e.symm)).trans h3)
          obtain ⟨A8, c8, rfl⟩ := row_shapeS ho9
          have RW4 := Lib.hid ho9
          clear ho9 hg9
          refine hK.out _ _ trivial (fun hHeld => ?_)
          clear hK K
          try simp only [Act.put, List.setIfInBounds_toArray, List.set_cons_zero, List.set_cons_succ]
          refine wpAnyH_take (i := 21) (v := ?_) (by simp only [List.getElem?_toArray, List.getElem?_cons_zero, List.getElem?_cons_succ]; rfl) (by kernel_rfl) (by kernel_rfl) (by kernel_rfl) (by intro _ _ _ h; exact h) (Or.inl ⟨by rfl, ?_⟩) hHeld ?_
          rotate_left
          · (intro w hSw; (try dsimp only at hSw); go_simp; try with_reducible rfl)
          try simp only [Act.put, List.setIfInBounds_toArray, List.set_cons_zero, List.set_cons_succ]
          refine wpAnyH_ready (rs := [22]) (by kernel_rfl) (by simp) ?_
          refine AllReadyH.cons (by simp only [List.getElem?_toArray, List.getElem?_cons_zero, List.getElem?_cons_succ]; rfl) (fun K hK => ?_) AllReadyH.nil
          rw [if_pos (by rfl)]
          have c4 := C4.out _ HAT4.out
          have f4 := frozen_of_row w4 p 4 _ _ HAT4.out
          go_simp
          refine hK.out _ _ trivial (fun hHeld => ?_)
          clear hK K
          try simp only [Act.put, List.setIfInBounds_toArray, List.set_cons_zero, List.set_cons_succ]
          refine wpAnyH_done (by kernel_rfl) ?_ _
          clear hHeld
          have HF5 : Hid (Half w (w4.setCell ⟨p, 4, none⟩ (.slice A8 (i + 1) c8)) p q ⟨1, 0, 0, 0, [], []⟩ A8 (i + 1) c8 I none 0 0 P0) := Lib.hid ⟨by
              have := set_blk (o := 4) (v := .slice A8 (i + 1) c8) HAT4.out
              exact this, by rw [heap_setCell_other _ _ _ _ (by have := HPQ.out; show q ≠ p; omega)]; exact HRS4.out,
            (Keeps.setCell (fun k => k = p) w4 ⟨p, 4, none⟩ (.slice A8 (i + 1) c8) rfl).row RW4.out (fun k h1 h2 => row_ne_cells RW4.out HAT4.out (by decide) (h2 ▸ h1)),
            World.ownsRow_nil _ _ _ _, BW4.out.setCell (by have := HPQ.out; have := HQ.out; show w.heap.size ≤ p; omega) _⟩
          clear HAT HAr HAT2 HAr2 B2 HAT3 CA ST3 RW3 BW3 HAT4 BW4 HRS4 RW4 c4 f4 BW2
          go_wp2_with fail
          go_roundw
          case rel => exact ⟨i + 1, z + 39, y - 1, by omega, by have := HZ.out; omega, by have := HY.out; omega, by go_num, by go_num, A8, c8, HF5.out⟩
          case measure => simp [intOf]; omega
        · skip
          rw [if_pos (by rfl)]
          go_simp
          refine (key50 l A n c z wr.drew HL.out hn2 HB.out HAr.out (by omega)).mono ?_
          rintro e w2 ⟨rfl, hkey, hb2⟩
          have HAT2 := Lib.hid ((hb2.block p (heap_lt HAT.out)).trans HAT.out)
          have HAr2 := Lib.hid ((HAr.out.below hb2 (Nat.le_refl _)).more hb2.size)
          have B2 := Lib.hid hb2
          have HKL := Lib.hid hkey.len
          refine hK.out _ _ trivial (fun hHeld => ?_)
          clear hK K
          try simp only [Act.put, List.setIfInBounds_toArray, List.set_cons_zero, List.set_cons_succ]
          clear hb2 hkey
          refine wpAnyH_ready (rs := [1, 8]) (by kernel_rfl) (by simp) ?_
          refine AllReadyH.cons (by simp only [List.getElem?_toArray, List.getElem?_cons_zero, List.getElem?_cons_succ]; rfl) (fun K hK => ?_) (AllReadyH.cons (by simp only [List.getElem?_toArray, List.getElem?_cons_zero, List.getElem?_cons_succ]; rfl) (fun K hK => ?_) AllReadyH.nil)
          · skip
            rw [if_pos (by rfl)]
            have c4 := C4.out _ HAT2.out
            go_simp
            refine hK.out _ _ trivial (fun hHeld => ?_)
            clear hK K
            try simp only [Act.put, List.setIfInBounds_toArray, List.set_cons_zero, List.set_cons_succ]
            clear c4
            refine wpAnyH_ready (rs := [8]) (by kernel_rfl) (by simp) ?_
            refine AllReadyH.cons (by simp only [List.getElem?_toArray, List.getElem?_cons_zero, List.getElem?_cons_succ]; rfl) (fun K hK => ?_) AllReadyH.nil
            rw [if_pos (by rfl)]
            go_simp
            refine (said49 l A n c (z + 32) 4 w2 HL.out hn2 HB.out HAr2.out (by omega) (by omega)).mono ?_
            rintro e _ ⟨rfl, rfl⟩
            refine hK.out _ _ trivial (fun hHeld => ?_)
            clear hK K
            try simp only [Act.put, List.setIfInBounds_toArray, List.set_cons_zero, List.set_cons_succ]
            refine wpAnyH_ready (rs := [12]) (by kernel_rfl) (by simp) ?_
            refine AllReadyH.cons (by simp only [List.getElem?_toArray, List.getElem?_cons_zero, List.getElem?_cons_succ]; rfl) (fun K hK => ?_) AllReadyH.nil
            rw [if_pos (by rfl)]
            go_simp
            refine (said49 l A n c (z + 36) 2 w2 HL.out hn2 HB.out HAr2.out (by omega) (by omega)).mono ?_
            rintro e _ ⟨rfl, rfl⟩
            refine hK.out _ _ trivial (fun hHeld => ?_)
            clear hK K
            try simp only [Act.put, List.setIfInBounds_toArray, List.set_cons_zero, List.set_cons_succ]
            refine wpAnyH_ready (rs := [16]) (by kernel_rfl) (by simp) ?_
            refine AllReadyH.cons (by simp only [List.getElem?_toArray, List.getElem?_cons_zero, List.getElem?_cons_succ]; rfl) (fun K hK => ?_) AllReadyH.nil
            rw [if_pos (by rfl)]
            go_simp
            refine (said49 l A n c (z + 38) 1 w2 HL.out hn2 HB.out HAr2.out (by omega) (by omega)).mono ?_
            rintro e _ ⟨rfl, rfl⟩
            refine hK.out _ _ trivial (fun hHeld => ?_)
            clear hK K
            try simp only [Act.put, List.setIfInBounds_toArray, List.set_cons_zero, List.set_cons_succ]
            refine wpAnyH_take (i := 17) (v := _) (by simp only [List.getElem?_toArray, List.getElem?_cons_zero, List.getElem?_cons_succ]; rfl) (by kernel_rfl) (by kernel_rfl) (by kernel_rfl) (by intro _ _ _ h; exact h) (yields_build (by rfl) 51 [(0, .tmp 35), (1, .tmp 39), (2, .tmp 43)] rfl [(0, .int .i64 (saidR l (z + 32) 4)), (1, .int .i64 (saidR l (z + 36) 2)), (2, .int .i64 (saidR l (z + 38) 1))] rfl _ (fun w => buildPl _ _ _ w)) hHeld ?_
            try simp only [Act.put, List.setIfInBounds_toArray, List.set_cons_zero, List.set_cons_succ]
            refine wpAnyH_take (i := 18) (v := _) (by simp only [List.getElem?_toArray, List.getElem?_cons_zero, List.getElem?_cons_succ]; rfl) (by kernel_rfl) (by kernel_rfl) (by kernel_rfl) (by intro _ _ _ h; exact h) (yields_build (by rfl) 53 [(0, .tmp 31), (1, .tmp 44)] rfl [(0, kv (readL l z 32)), (1, .agg #[.int .i64 (saidR l (z + 32) 4), .int .i64 (saidR l (z + 36) 2), .int .i64 (saidR l (z + 38) 1), .int .i64 0])] rfl (.agg cs.toArray) (fun w => HCS.out ▸ buildFr _ _ _ _ HKL.out w)) hHeld ?_
            try simp only [Act.put, List.setIfInBounds_toArray, List.set_cons_zero, List.set_cons_succ]
            refine wpAnyH_ready (rs := [19]) (by kernel_rfl) (by simp) ?_
            refine AllReadyH.cons (by simp only [List.getElem?_toArray, List.getElem?_cons_zero, List.getElem?_cons_succ]; rfl) (fun K hK => ?_) AllReadyH.nil
            rw [if_pos (by rfl)]
            refine wp_slice1 23 53 (.tmp 45) rfl cs rfl iF (.agg zF.toArray) Tryz.underlying23 HIF.out.1 HIF.out.2.1 HL7.out HL5.out HL6.out ?_
            obtain ⟨w3, hw3⟩ : ∃ w3, w3 = w2.alloc (.cells cs.toArray 53) := ⟨_, rfl⟩
            have BW2 : Hid (Below w.heap.size w w2) := Lib.hid (HF.out.below.drew.trans (B2.out.mono HF.out.below.size))
            have HAT3 : Hid (w3.heap[p]? = some (.cells (opL 1 0 0 0 Ax i cx none 0 0).toArray 26 (0, 0))) := Lib.hid (by rw [hw3]; exact heap_old HAT2.out)
            have CA : Hid (∀ j u, cs[j]? = some u → w3.cell? ((⟨w2.heap.size, 0, none⟩ : Addr).add j) = some u) := Lib.hid fun j u hu => by
              rw [Go.WideShapes.add_plain, Nat.zero_add, hw3]
              exact block_cell (heap_new w2 _) j u (by simpa using hu)
            have ST3 : Hid (∀ k, k < wr.heap.size → ∀ o, wr.heap[k]? = some o → w3.heap[k]? = some o) := Lib.hid fun k hk o ho => by rw [hw3]; exact heap_old ((B2.out.block k (heap_lt ho)).trans ho)
            have RW3 : Hid (w3.ownsRow w.heap.size 53 36 (.slice Ax i cx) i (flatS (fun i => cellsF (I i)) i)) := Lib.hid (own_stays HF.out.r1 ST3.out)
            have BW3 : Hid (Below w.heap.size w w3) := Lib.hid (by rw [hw3]; exact BW2.out.alloc BW2.out.size _)
            rw [← hw3]
            clear hw3
            refine hK.out _ _ trivial (fun hHeld => ?_)
            clear hK K
            try simp only [Act.put, List.setIfInBounds_toArray, List.set_cons_zero, List.set_cons_succ]
            refine wpAnyH_ready (rs := [20]) (by kernel_rfl) (by simp) ?_
            refine AllReadyH.cons (by simp only [List.getElem?_toArray, List.getElem?_cons_zero, List.getElem?_cons_succ]; rfl) (fun K hK => ?_) AllReadyH.nil
            rw [if_pos (by rfl)]
            refine wp_append_own w3 (.tmp 28) (.tmp 46) 23 rfl w.heap.size 53 iF (.agg zF.toArray) 36 64 Tryz.underlying23 HIF.out.1 HIF.out.2.1 HIF.out.2.2.1 HIF.out.2.2.2 rfl (by decide) (.slice Ax i cx) i (flatS (fun i => cellsF (I i)) i) rfl RW3.out ⟨w2.heap.size, 0, none⟩ 1 1 cs rfl HL36.out CA.out HON.out (by unfold maxLen; omega) (by omega) BW3.out.size (fun v8 w4 ho9 hg9 _ => ?_)
            rw [HFL.out] at ho9
            have HAT4 := Lib.hid ((hg9.block p (heap_lt HAT3.out) (fun e => row_ne_cells RW3.out HAT3.out (by decide) e.symm)).trans HAT3.out)
            have BW4 := Lib.hid (BW3.out.grown hg9 BW3.out.size (fun k e => (RW3.out.lt k e).1))
            have HRS4 : Hid (w4.heap[q]? = some (.cells zOp.toArray 26 (0, 0))) := Lib.hid (by
              have h3 := ST3.out q (heap_lt HF.out.res) _ HF.out.res
              exact (hg9.block q (heap_lt h3) (fun e => row_ne_cells RW3.out h3 (by decide) e.symm)).trans h3)
            obtain ⟨A8, c8, rfl⟩ := row_shapeS ho9
            have RW4 := Lib.hid ho9
            clear ho9 hg9
            refine hK.out _ _ trivial (fun hHeld => ?_)
            clear hK K
            try simp only [Act.put, List.setIfInBounds_toArray, List.set_cons_zero, List.set_cons_succ]
            refine wpAnyH_take (i := 21) (v := ?_) (by simp only [List.getElem?_toArray, List.getElem?_cons_zero, List.getElem?_cons_succ]; rfl) (by kernel_rfl) (by kernel_rfl) (by kernel_rfl) (by intro _ _ _ h; exact h) (Or.inl ⟨by rfl, ?_⟩) hHeld ?_
            rotate_left
            · (intro w hSw; (try dsimp only at hSw); go_simp; try with_reducible rfl)
            try simp only [Act.put, List.setIfInBounds_toArray, List.set_cons_zero, List.set_cons_succ]
            refine wpAnyH_ready (rs := [22]) (by kernel_rfl) (by simp) ?_
            refine AllReadyH.cons (by simp only [List.getElem?_toArray, List.getElem?_cons_zero, List.getElem?_cons_succ]; rfl) (fun K hK => ?_) AllReadyH.nil
            rw [if_pos (by rfl)]
            have c4 := C4.out _ HAT4.out
            have f4 := frozen_of_row w4 p 4 _ _ HAT4.out
            go_simp
            refine hK.out _ _ trivial (fun hHeld => ?_)
            clear hK K
            try simp only [Act.put, List.setIfInBounds_toArray, List.set_cons_zero, List.set_cons_succ]
            refine wpAnyH_done (by kernel_rfl) ?_ _
            clear hHeld
            have HF5 : Hid (Half w (w4.setCell ⟨p, 4, none⟩ (.slice A8 (i + 1) c8)) p q ⟨1, 0, 0, 0, [], []⟩ A8 (i + 1) c8 I none 0 0 P0) := Lib.hid ⟨by
                have := set_blk (o := 4) (v := .slice A8 (i + 1) c8) HAT4.out
                exact this, by rw [heap_setCell_other _ _ _ _ (by have := HPQ.out; show q ≠ p; omega)]; exact HRS4.out,
              (Keeps.setCell (fun k => k = p) w4 ⟨p, 4, none⟩ (.slice A8 (i + 1) c8) rfl).row RW4.out (fun k h1 h2 => row_ne_cells RW4.out HAT4.out (by decide) (h2 ▸ h1)),
              World.ownsRow_nil _ _ _ _, BW4.out.setCell (by have := HPQ.out; have := HQ.out; show w.heap.size ≤ p; omega) _⟩
            clear HAT HAr HAT2 HAr2 B2 HAT3 CA ST3 RW3 BW3 HAT4 BW4 HRS4 RW4 c4 f4 BW2
            go_wp2_with fail
            go_roundw
            case rel => exact ⟨i + 1, z + 39, y - 1, by omega, by have := HZ.out; omega, by have := HY.out; omega, by go_num, by go_num, A8, c8, HF5.out⟩
            case measure => simp [intOf]; omega
          · skip
            rw [if_pos (by rfl)]
            go_simp
            refine (said49 l A n c (z + 32) 4 w2 HL.out hn2 HB.out HAr2.out (by omega) (by omega)).mono ?_
            rintro e _ ⟨rfl, rfl⟩
            refine hK.out _ _ trivial (fun hHeld => ?_)
            clear hK K
            try simp only [Act.put, List.setIfInBounds_toArray, List.set_cons_zero, List.set_cons_succ]
            refine wpAnyH_ready (rs := [1, 12]) (by kernel_rfl) (by simp) ?_
            refine AllReadyH.cons (by simp only [List.getElem?_toArray, List.getElem?_cons_zero, List.getElem?_cons_succ]; rfl) (fun K hK => ?_) (AllReadyH.cons (by simp only [List.getElem?_toArray, List.getElem?_cons_zero, List.getElem?_cons_succ]; rfl) (fun K hK => ?_) AllReadyH.nil)
            · skip
              rw [if_pos (by rfl)]
              have c4 := C4.out _ HAT2.out
              go_simp
              refine hK.out _ _ trivial (fun hHeld => ?_)
              clear hK K
              try simp only [Act.put, List.setIfInBounds_toArray, List.set_cons_zero, List.set_cons_succ]
              clear c4
              refine wpAnyH_ready (rs := [12]) (by kernel_rfl) (by simp) ?_
              refine AllReadyH.cons (by simp only [List.getElem?_toArray, List.getElem?_cons_zero, List.getElem?_cons_succ]; rfl) (fun K hK => ?_) AllReadyH.nil
              rw [if_pos (by rfl)]
              go_simp
              refine (said49 l A n c (z + 36) 2 w2 HL.out hn2 HB.out HAr2.out (by omega) (by omega)).mono ?_
              rintro e _ ⟨rfl, rfl⟩
              refine hK.out _ _ trivial (fun hHeld => ?_)
              clear hK K
              try simp only [Act.put, List.setIfInBounds_toArray, List.set_cons_zero, List.set_cons_succ]
              refine wpAnyH_ready (rs := [16]) (by kernel_rfl) (by simp) ?_
              refine AllReadyH.cons (by simp only [List.getElem?_toArray, List.getElem?_cons_zero, List.getElem?_cons_succ]; rfl) (fun K hK => ?_) AllReadyH.nil
              rw [if_pos (by rfl)]
              go_simp
              refine (said49 l A n c (z + 38) 1 w2 HL.out hn2 HB.out HAr2.out (by omega) (by omega)).mono ?_
              rintro e _ ⟨rfl, rfl⟩
              refine hK.out _ _ trivial (fun hHeld => ?_)
              clear hK K
              try simp only [Act.put, List.setIfInBounds_toArray, List.set_cons_zero, List.set_cons_succ]
              refine wpAnyH_take (i := 17) (v := _) (by simp only [List.getElem?_toArray, List.getElem?_cons_zero, List.getElem?_cons_succ]; rfl) (by kernel_rfl) (by kernel_rfl) (by kernel_rfl) (by intro _ _ _ h; exact h) (yields_build (by rfl) 51 [(0, .tmp 35), (1, .tmp 39), (2, .tmp 43)] rfl [(0, .int .i64 (saidR l (z + 32) 4)), (1, .int .i64 (saidR l (z + 36) 2)), (2, .int .i64 (saidR l (z + 38) 1))] rfl _ (fun w => buildPl _ _ _ w)) hHeld ?_
              try simp only [Act.put, List.setIfInBounds_toArray, List.set_cons_zero, List.set_cons_succ]
              refine wpAnyH_take (i := 18) (v := _) (by simp only [List.getElem?_toArray, List.getElem?_cons_zero, List.getElem?_cons_succ]; rfl) (by kernel_rfl) (by kernel_rfl) (by kernel_rfl) (by intro _ _ _ h; exact h) (yields_build (by rfl) 53 [(0, .tmp 31), (1, .tmp 44)] rfl [(0, kv (readL l z 32)), (1, .agg #[.int .i64 (saidR l (z + 32) 4), .int .i64 (saidR l (z + 36) 2), .int .i64 (saidR l (z + 38) 1), .int .i64 0])] rfl (.agg cs.toArray) (fun w => HCS.out ▸ buildFr _ _ _ _ HKL.out w)) hHeld ?_
              try simp only [Act.put, List.setIfInBounds_toArray, List.set_cons_zero, List.set_cons_succ]
              refine wpAnyH_ready (rs := [19]) (by kernel_rfl) (by simp) ?_
              refine AllReadyH.cons (by simp only [List.getElem?_toArray, List.getElem?_cons_zero, List.getElem?_cons_succ]; rfl) (fun K hK => ?_) AllReadyH.nil
              rw [if_pos (by rfl)]
              refine wp_slice1 23 53 (.tmp 45) rfl cs rfl iF (.agg zF.toArray) Tryz.underlying23 HIF.out.1 HIF.out.2.1 HL7.out HL5.out HL6.out ?_
              obtain ⟨w3, hw3⟩ : ∃ w3, w3 = w2.alloc (.cells cs.toArray 53) := ⟨_, rfl⟩
              have BW2 : Hid (Below w.heap.size w w2) := Lib.hid (HF.out.below.drew.trans (B2.out.mono HF.out.below.size))
              have HAT3 : Hid (w3.heap[p]? = some (.cells (opL 1 0 0 0 Ax i cx none 0 0).toArray 26 (0, 0))) := Lib.hid (by rw [hw3]; exact heap_old HAT2.out)
              have CA : Hid (∀ j u, cs[j]? = some u → w3.cell? ((⟨w2.heap.size, 0, none⟩ : Addr).add j) = some u) := Lib.hid fun j u hu => by
                rw [Go.WideShapes.add_plain, Nat.zero_add, hw3]
                exact block_cell (heap_new w2 _) j u (by simpa using hu)
              have ST3 : Hid (∀ k, k < wr.heap.size → ∀ o, wr.heap[k]? = some o → w3.heap[k]? = some o) := Lib.hid fun k hk o ho => by rw [hw3]; exact heap_old ((B2.out.block k (heap_lt ho)).trans ho)
              have RW3 : Hid (w3.ownsRow w.heap.size 53 36 (.slice Ax i cx) i (flatS (fun i => cellsF (I i)) i)) := Lib.hid (own_stays HF.out.r1 ST3.out)
              have BW3 : Hid (Below w.heap.size w w3) := Lib.hid (by rw [hw3]; exact BW2.out.alloc BW2.out.size _)
              rw [← hw3]
              clear hw3
              refine hK.out _ _ trivial (fun hHeld => ?_)
              clear hK K
              try simp only [Act.put, List.setIfInBounds_toArray, List.set_cons_zero, List.set_cons_succ]
              refine wpAnyH_ready (rs := [20]) (by kernel_rfl) (by simp) ?_
              refine AllReadyH.cons (by simp only [List.getElem?_toArray, List.getElem?_cons_zero, List.getElem?_cons_succ]; rfl) (fun K hK => ?_) AllReadyH.nil
              rw [if_pos (by rfl)]
              refine wp_append_own w3 (.tmp 28) (.tmp 46) 23 rfl w.heap.size 53 iF (.agg zF.toArray) 36 64 Tryz.underlying23 HIF.out.1 HIF.out.2.1 HIF.out.2.2.1 HIF.out.2.2.2 rfl (by decide) (.slice Ax i cx) i (flatS (fun i => cellsF (I i)) i) rfl RW3.out ⟨w2.heap.size, 0, none⟩ 1 1 cs rfl HL36.out CA.out HON.out (by unfold maxLen; omega) (by omega) BW3.out.size (fun v8 w4 ho9 hg9 _ => ?_)
              rw [HFL.out] at ho9
              have HAT4 := Lib.hid ((hg9.block p (heap_lt HAT3.out) (fun e => row_ne_cells RW3.out HAT3.out (by decide) e.symm)).trans HAT3.out)
              have BW4 := Lib.hid (BW3.out.grown hg9 BW3.out.size (fun k e => (RW3.out.lt k e).1))
              have HRS4 : Hid (w4.heap[q]? = some (.cells zOp.toArray 26 (0, 0))) := Lib.hid (by
                have h3 := ST3.out q (heap_lt HF.out.res) _ HF.out.res
                exact (hg9.block q (heap_lt h3) (fun e => row_ne_cells RW3.out h3 (by decide) e.symm)).trans h3)
              obtain ⟨A8, c8, rfl⟩ := row_shapeS ho9
              have RW4 := Lib.hid ho9
              clear ho9 hg9
              refine hK.out _ _ trivial (fun hHeld => ?_)
              clear hK K
              try simp only [Act.put, List.setIfInBounds_toArray, List.set_cons_zero, List.set_cons_succ]
              refine wpAnyH_take (i := 21) (v := ?_) (by simp only [List.getElem?_toArray, List.getElem?_cons_zero, List.getElem?_cons_succ]; rfl) (by kernel_rfl) (by kernel_rfl) (by kernel_rfl) (by intro _ _ _ h; exact h) (Or.inl ⟨by rfl, ?_⟩) hHeld ?_
              rotate_left
              · (intro w hSw; (try dsimp only at hSw); go_simp; try with_reducible rfl)
              try simp only [Act.put, List.setIfInBounds_toArray, List.set_cons_zero, List.set_cons_succ]
              refine wpAnyH_ready (rs := [22]) (by kernel_rfl) (by simp) ?_
              refine AllReadyH.cons (by simp only [List.getElem?_toArray, List.getElem?_cons_zero, List.getElem?_cons_succ]; rfl) (fun K hK => ?_) AllReadyH.nil
              rw [if_pos (by rfl)]
              have c4 := C4.out _ HAT4.out
              have f4 := frozen_of_row w4 p 4 _ _ HAT4.out
              go_simp
              refine hK.out _ _ trivial (fun hHeld => ?_)
              clear hK K
              try simp only [Act.put, List.setIfInBounds_toArray, List.set_cons_zero, List.set_cons_succ]
              refine wpAnyH_done (by kernel_rfl) ?_ _
              clear hHeld
              have HF5 : Hid (Half w (w4.setCell ⟨p, 4, none⟩ (.slice A8 (i + 1) c8)) p q ⟨1, 0, 0, 0, [], []⟩ A8 (i + 1) c8 I none 0 0 P0) := Lib.hid ⟨by
                  have := set_blk (o := 4) (v := .slice A8 (i + 1) c8) HAT4.out
                  exact this, by rw [heap_setCell_other _ _ _ _ (by have := HPQ.out; show q ≠ p; omega)]; exact HRS4.out,
                (Keeps.setCell (fun k => k = p) w4 ⟨p, 4, none⟩ (.slice A8 (i + 1) c8) rfl).row RW4.out (fun k h1 h2 => row_ne_cells RW4.out HAT4.out (by decide) (h2 ▸ h1)),
                World.ownsRow_nil _ _ _ _, BW4.out.setCell (by have := HPQ.out; have := HQ.out; show w.heap.size ≤ p; omega) _⟩
              clear HAT HAr HAT2 HAr2 B2 HAT3 CA ST3 RW3 BW3 HAT4 BW4 HRS4 RW4 c4 f4 BW2
              go_wp2_with fail
              go_roundw
              case rel => exact ⟨i + 1, z + 39, y - 1, by omega, by have := HZ.out; omega, by have := HY.out; omega, by go_num, by go_num, A8, c8, HF5.out⟩
              case measure => simp [intOf]; omega
            · skip
              rw [if_pos (by rfl)]
              go_simp
              refine (said49 l A n c (z + 36) 2 w2 HL.out hn2 HB.out HAr2.out (by omega) (by omega)).mono ?_
              rintro e _ ⟨rfl, rfl⟩
              refine hK.out _ _ trivial (fun hHeld => ?_)
              clear hK K
              try simp only [Act.put, List.setIfInBounds_toArray, List.set_cons_zero, List.set_cons_succ]
              refine wpAnyH_ready (rs := [1, 16]) (by kernel_rfl) (by simp) ?_
              refine AllReadyH.cons (by simp only [List.getElem?_toArray, List.getElem?_cons_zero, List.getElem?_cons_succ]; rfl) (fun K hK => ?_) (AllReadyH.cons (by simp only [List.getElem?_toArray, List.getElem?_cons_zero, List.getElem?_cons_succ]; rfl) (fun K hK => ?_) AllReadyH.nil)
              · skip
                rw [if_pos (by rfl)]
                have c4 := C4.out _ HAT2.out
                go_simp
                refine hK.out _ _ trivial (fun hHeld => ?_)
                clear hK K
                try simp only [Act.put, List.setIfInBounds_toArray, List.set_cons_zero, List.set_cons_succ]
                clear c4
                refine wpAnyH_ready (rs := [16]) (by kernel_rfl) (by simp) ?_
                refine AllReadyH.cons (by simp only [List.getElem?_toArray, List.getElem?_cons_zero, List.getElem?_cons_succ]; rfl) (fun K hK => ?_) AllReadyH.nil
                rw [if_pos (by rfl)]
                go_simp
                refine (said49 l A n c (z + 38) 1 w2 HL.out hn2 HB.out HAr2.out (by omega) (by omega)).mono ?_
                rintro e _ ⟨rfl, rfl⟩
                refine hK.out _ _ trivial (fun hHeld => ?_)
                clear hK K
                try simp only [Act.put, List.setIfInBounds_toArray, List.set_cons_zero, List.set_cons_succ]
                refine wpAnyH_take (i := 17) (v := _) (by simp only [List.getElem?_toArray, List.getElem?_cons_zero, List.getElem?_cons_succ]; rfl) (by kernel_rfl) (by kernel_rfl) (by kernel_rfl) (by intro _ _ _ h; exact h) (yields_build (by rfl) 51 [(0, .tmp 35), (1, .tmp 39), (2, .tmp 43)] rfl [(0, .int .i64 (saidR l (z + 32) 4)), (1, .int .i64 (saidR l (z + 36) 2)), (2, .int .i64 (saidR l (z + 38) 1))] rfl _ (fun w => buildPl _ _ _ w)) hHeld ?_
                try simp only [Act.put, List.setIfInBounds_toArray, List.set_cons_zero, List.set_cons_succ]
                refine wpAnyH_take (i := 18) (v := _) (by simp only [List.getElem?_toArray, List.getElem?_cons_zero, List.getElem?_cons_succ]; rfl) (by kernel_rfl) (by kernel_rfl) (by kernel_rfl) (by intro _ _ _ h; exact h) (yields_build (by rfl) 53 [(0, .tmp 31), (1, .tmp 44)] rfl [(0, kv (readL l z 32)), (1, .agg #[.int .i64 (saidR l (z + 32) 4), .int .i64 (saidR l (z + 36) 2), .int .i64 (saidR l (z + 38) 1), .int .i64 0])] rfl (.agg cs.toArray) (fun w => HCS.out ▸ buildFr _ _ _ _ HKL.out w)) hHeld ?_
                try simp only [Act.put, List.setIfInBounds_toArray, List.set_cons_zero, List.set_cons_succ]
                refine wpAnyH_ready (rs := [19]) (by kernel_rfl) (by simp) ?_
                refine AllReadyH.cons (by simp only [List.getElem?_toArray, List.getElem?_cons_zero, List.getElem?_cons_succ]; rfl) (fun K hK => ?_) AllReadyH.nil
                rw [if_pos (by rfl)]
                refine wp_slice1 23 53 (.tmp 45) rfl cs rfl iF (.agg zF.toArray) Tryz.underlying23 HIF.out.1 HIF.out.2.1 HL7.out HL5.out HL6.out ?_
                obtain ⟨w3, hw3⟩ : ∃ w3, w3 = w2.alloc (.cells cs.toArray 53) := ⟨_, rfl⟩
                have BW2 : Hid (Below w.heap.size w w2) := Lib.hid (HF.out.below.drew.trans (B2.out.mono HF.out.below.size))
                have HAT3 : Hid (w3.heap[p]? = some (.cells (opL 1 0 0 0 Ax i cx none 0 0).toArray 26 (0, 0))) := Lib.hid (by rw [hw3]; exact heap_old HAT2.out)
                have CA : Hid (∀ j u, cs[j]? = some u → w3.cell? ((⟨w2.heap.size, 0, none⟩ : Addr).add j) = some u) := Lib.hid fun j u hu => by
                  rw [Go.WideShapes.add_plain, Nat.zero_add, hw3]
                  exact block_cell (heap_new w2 _) j u (by simpa using hu)
                have ST3 : Hid (∀ k, k < wr.heap.size → ∀ o, wr.heap[k]? = some o → w3.heap[k]? = some o) := Lib.hid fun k hk o ho => by rw [hw3]; exact heap_old ((B2.out.block k (heap_lt ho)).trans ho)
                have RW3 : Hid (w3.ownsRow w.heap.size 53 36 (.slice Ax i cx) i (flatS (fun i => cellsF (I i)) i)) := Lib.hid (own_stays HF.out.r1 ST3.out)
                have BW3 : Hid (Below w.heap.size w w3) := Lib.hid (by rw [hw3]; exact BW2.out.alloc BW2.out.size _)
                rw [← hw3]
                clear hw3
                refine hK.out _ _ trivial (fun hHeld => ?_)
                clear hK K
                try simp only [Act.put, List.setIfInBounds_toArray, List.set_cons_zero, List.set_cons_succ]
                refine wpAnyH_ready (rs := [20]) (by kernel_rfl) (by simp) ?_
                refine AllReadyH.cons (by simp only [List.getElem?_toArray, List.getElem?_cons_zero, List.getElem?_cons_succ]; rfl) (fun K hK => ?_) AllReadyH.nil
                rw [if_pos (by rfl)]
                refine wp_append_own w3 (.tmp 28) (.tmp 46) 23 rfl w.heap.size 53 iF (.agg zF.toArray) 36 64 Tryz.underlying23 HIF.out.1 HIF.out.2.1 HIF.out.2.2.1 HIF.out.2.2.2 rfl (by decide) (.slice Ax i cx) i (flatS (fun i => cellsF (I i)) i) rfl RW3.out ⟨w2.heap.size, 0, none⟩ 1 1 cs rfl HL36.out CA.out HON.out (by unfold maxLen; omega) (by omega) BW3.out.size (fun v8 w4 ho9 hg9 _ => ?_)
                rw [HFL.out] at ho9
                have HAT4 := Lib.hid ((hg9.block p (heap_lt HAT3.out) (fun e => row_ne_cells RW3.out HAT3.out (by decide) e.symm)).trans HAT3.out)
                have BW4 := Lib.hid (BW3.out.grown hg9 BW3.out.size (fun k e => (RW3.out.lt k e).1))
                have HRS4 : Hid (w4.heap[q]? = some (.cells zOp.toArray 26 (0, 0))) := Lib.hid (by
                  have h3 := ST3.out q (heap_lt HF.out.res) _ HF.out.res
                  exact (hg9.block q (heap_lt h3) (fun e => row_ne_cells RW3.out h3 (by decide) e.symm)).trans h3)
                obtain ⟨A8, c8, rfl⟩ := row_shapeS ho9
                have RW4 := Lib.hid ho9
                clear ho9 hg9
                refine hK.out _ _ trivial (fun hHeld => ?_)
                clear hK K
                try simp only [Act.put, List.setIfInBounds_toArray, List.set_cons_zero, List.set_cons_succ]
                refine wpAnyH_take (i := 21) (v := ?_) (by simp only [List.getElem?_toArray, List.getElem?_cons_zero, List.getElem?_cons_succ]; rfl) (by kernel_rfl) (by kernel_rfl) (by kernel_rfl) (by intro _ _ _ h; exact h) (Or.inl ⟨by rfl, ?_⟩) hHeld ?_
                rotate_left
                · (intro w hSw; (try dsimp only at hSw); go_simp; try with_reducible rfl)
                try simp only [Act.put, List.setIfInBounds_toArray, List.set_cons_zero, List.set_cons_succ]
                refine wpAnyH_ready (rs := [22]) (by kernel_rfl) (by simp) ?_
                refine AllReadyH.cons (by simp only [List.getElem?_toArray, List.getElem?_cons_zero, List.getElem?_cons_succ]; rfl) (fun K hK => ?_) AllReadyH.nil
                rw [if_pos (by rfl)]
                have c4 := C4.out _ HAT4.out
                have f4 := frozen_of_row w4 p 4 _ _ HAT4.out
                go_simp
                refine hK.out _ _ trivial (fun hHeld => ?_)
                clear hK K
                try simp only [Act.put, List.setIfInBounds_toArray, List.set_cons_zero, List.set_cons_succ]
                refine wpAnyH_done (by kernel_rfl) ?_ _
                clear hHeld
                have HF5 : Hid (Half w (w4.setCell ⟨p, 4, none⟩ (.slice A8 (i + 1) c8)) p q ⟨1, 0, 0, 0, [], []⟩ A8 (i + 1) c8 I none 0 0 P0) := Lib.hid ⟨by
                    have := set_blk (o := 4) (v := .slice A8 (i + 1) c8) HAT4.out
                    exact this, by rw [heap_setCell_other _ _ _ _ (by have := HPQ.out; show q ≠ p; omega)]; exact HRS4.out,
                  (Keeps.setCell (fun k => k = p) w4 ⟨p, 4, none⟩ (.slice A8 (i + 1) c8) rfl).row RW4.out (fun k h1 h2 => row_ne_cells RW4.out HAT4.out (by decide) (h2 ▸ h1)),
                  World.ownsRow_nil _ _ _ _, BW4.out.setCell (by have := HPQ.out; have := HQ.out; show w.heap.size ≤ p; omega) _⟩
                clear HAT HAr HAT2 HAr2 B2 HAT3 CA ST3 RW3 BW3 HAT4 BW4 HRS4 RW4 c4 f4 BW2
                go_wp2_with fail
                go_roundw
                case rel => exact ⟨i + 1, z + 39, y - 1, by omega, by have := HZ.out; omega, by have := HY.out; omega, by go_num, by go_num, A8, c8, HF5.out⟩
                case measure => simp [intOf]; omega
              · skip
                rw [if_pos (by rfl)]
                go_simp
                refine (said49 l A n c (z + 38) 1 w2 HL.out hn2 HB.out HAr2.out (by omega) (by omega)).mono ?_
                rintro e _ ⟨rfl, rfl⟩
                refine hK.out _ _ trivial (fun hHeld => ?_)
                clear hK K
                try simp only [Act.put, List.setIfInBounds_toArray, List.set_cons_zero, List.set_cons_succ]
                refine wpAnyH_take (i := 17) (v := _) (by simp only [List.getElem?_toArray, List.getElem?_cons_zero, List.getElem?_cons_succ]; rfl) (by kernel_rfl) (by kernel_rfl) (by kernel_rfl) (by intro _ _ _ h; exact h) (yields_build (by rfl) 51 [(0, .tmp 35), (1, .tmp 39), (2, .tmp 43)] rfl [(0, .int .i64 (saidR l (z + 32) 4)), (1, .int .i64 (saidR l (z + 36) 2)), (2, .int .i64 (saidR l (z + 38) 1))] rfl _ (fun w => buildPl _ _ _ w)) hHeld ?_
                try simp only [Act.put, List.setIfInBounds_toArray, List.set_cons_zero, List.set_cons_succ]
                refine wpAnyH_take (i := 18) (v := _) (by simp only [List.getElem?_toArray, List.getElem?_cons_zero, List.getElem?_cons_succ]; rfl) (by kernel_rfl) (by kernel_rfl) (by kernel_rfl) (by intro _ _ _ h; exact h) (yields_build (by rfl) 53 [(0, .tmp 31), (1, .tmp 44)] rfl [(0, kv (readL l z 32)), (1, .agg #[.int .i64 (saidR l (z + 32) 4), .int .i64 (saidR l (z + 36) 2), .int .i64 (saidR l (z + 38) 1), .int .i64 0])] rfl (.agg cs.toArray) (fun w => HCS.out ▸ buildFr _ _ _ _ HKL.out w)) hHeld ?_
                try simp only [Act.put, List.setIfInBounds_toArray, List.set_cons_zero, List.set_cons_succ]
                refine wpAnyH_ready (rs := [1, 19]) (by kernel_rfl) (by simp) ?_
                refine AllReadyH.cons (by simp only [List.getElem?_toArray, List.getElem?_cons_zero, List.getElem?_cons_succ]; rfl) (fun K hK => ?_) (AllReadyH.cons (by simp only [List.getElem?_toArray, List.getElem?_cons_zero, List.getElem?_cons_succ]; rfl) (fun K hK => ?_) AllReadyH.nil)
                · skip
                  rw [if_pos (by rfl)]
                  have c4 := C4.out _ HAT2.out
                  go_simp
                  refine hK.out _ _ trivial (fun hHeld => ?_)
                  clear hK K
                  try simp only [Act.put, List.setIfInBounds_toArray, List.set_cons_zero, List.set_cons_succ]
                  clear c4
                  refine wpAnyH_ready (rs := [19]) (by kernel_rfl) (by simp) ?_
                  refine AllReadyH.cons (by simp only [List.getElem?_toArray, List.getElem?_cons_zero, List.getElem?_cons_succ]; rfl) (fun K hK => ?_) AllReadyH.nil
                  rw [if_pos (by rfl)]
                  refine wp_slice1 23 53 (.tmp 45) rfl cs rfl iF (.agg zF.toArray) Tryz.underlying23 HIF.out.1 HIF.out.2.1 HL7.out HL5.out HL6.out ?_
                  obtain ⟨w3, hw3⟩ : ∃ w3, w3 = w2.alloc (.cells cs.toArray 53) := ⟨_, rfl⟩
                  have BW2 : Hid (Below w.heap.size w w2) := Lib.hid (HF.out.below.drew.trans (B2.out.mono HF.out.below.size))
                  have HAT3 : Hid (w3.heap[p]? = some (.cells (opL 1 0 0 0 Ax i cx none 0 0).toArray 26 (0, 0))) := Lib.hid (by rw [hw3]; exact heap_old HAT2.out)
                  have CA : Hid (∀ j u, cs[j]? = some u → w3.cell? ((⟨w2.heap.size, 0, none⟩ : Addr).add j) = some u) := Lib.hid fun j u hu => by
                    rw [Go.WideShapes.add_plain, Nat.zero_add, hw3]
                    exact block_cell (heap_new w2 _) j u (by simpa using hu)
                  have ST3 : Hid (∀ k, k < wr.heap.size → ∀ o, wr.heap[k]? = some o → w3.heap[k]? = some o) := Lib.hid fun k hk o ho => by rw [hw3]; exact heap_old ((B2.out.block k (heap_lt ho)).trans ho)
                  have RW3 : Hid (w3.ownsRow w.heap.size 53 36 (.slice Ax i cx) i (flatS (fun i => cellsF (I i)) i)) := Lib.hid (own_stays HF.out.r1 ST3.out)
                  have BW3 : Hid (Below w.heap.size w w3) := Lib.hid (by rw [hw3]; exact BW2.out.alloc BW2.out.size _)
                  rw [← hw3]
                  clear hw3
                  refine hK.out _ _ trivial (fun hHeld => ?_)
                  clear hK K
                  try simp only [Act.put, List.setIfInBounds_toArray, List.set_cons_zero, List.set_cons_succ]
                  refine wpAnyH_ready (rs := [20]) (by kernel_rfl) (by simp) ?_
                  refine AllReadyH.cons (by simp only [List.getElem?_toArray, List.getElem?_cons_zero, List.getElem?_cons_succ]; rfl) (fun K hK => ?_) AllReadyH.nil
                  rw [if_pos (by rfl)]
                  refine wp_append_own w3 (.tmp 28) (.tmp 46) 23 rfl w.heap.size 53 iF (.agg zF.toArray) 36 64 Tryz.underlying23 HIF.out.1 HIF.out.2.1 HIF.out.2.2.1 HIF.out.2.2.2 rfl (by decide) (.slice Ax i cx) i (flatS (fun i => cellsF (I i)) i) rfl RW3.out ⟨w2.heap.size, 0, none⟩ 1 1 cs rfl HL36.out CA.out HON.out (by unfold maxLen; omega) (by omega) BW3.out.size (fun v8 w4 ho9 hg9 _ => ?_)
                  rw [HFL.out] at ho9
                  have HAT4 := Lib.hid ((hg9.block p (heap_lt HAT3.out) (fun e => row_ne_cells RW3.out HAT3.out (by decide) e.symm)).trans HAT3.out)
                  have BW4 := Lib.hid (BW3.out.grown hg9 BW3.out.size (fun k e => (RW3.out.lt k e).1))
                  have HRS4 : Hid (w4.heap[q]? = some (.cells zOp.toArray 26 (0, 0))) := Lib.hid (by
                    have h3 := ST3.out q (heap_lt HF.out.res) _ HF.out.res
                    exact (hg9.block q (heap_lt h3) (fun e => row_ne_cells RW3.out h3 (by decide) e.symm)).trans h3)
                  obtain ⟨A8, c8, rfl⟩ := row_shapeS ho9
                  have RW4 := Lib.hid ho9
                  clear ho9 hg9
                  refine hK.out _ _ trivial (fun hHeld => ?_)
                  clear hK K
                  try simp only [Act.put, List.setIfInBounds_toArray, List.set_cons_zero, List.set_cons_succ]
                  refine wpAnyH_take (i := 21) (v := ?_) (by simp only [List.getElem?_toArray, List.getElem?_cons_zero, List.getElem?_cons_succ]; rfl) (by kernel_rfl) (by kernel_rfl) (by kernel_rfl) (by intro _ _ _ h; exact h) (Or.inl ⟨by rfl, ?_⟩) hHeld ?_
                  rotate_left
                  · (intro w hSw; (try dsimp only at hSw); go_simp; try with_reducible rfl)
                  try simp only [Act.put, List.setIfInBounds_toArray, List.set_cons_zero, List.set_cons_succ]
                  refine wpAnyH_ready (rs := [22]) (by kernel_rfl) (by simp) ?_
                  refine AllReadyH.cons (by simp only [List.getElem?_toArray, List.getElem?_cons_zero, List.getElem?_cons_succ]; rfl) (fun K hK => ?_) AllReadyH.nil
                  rw [if_pos (by rfl)]
                  have c4 := C4.out _ HAT4.out
                  have f4 := frozen_of_row w4 p 4 _ _ HAT4.out
                  go_simp
                  refine hK.out _ _ trivial (fun hHeld => ?_)
                  clear hK K
                  try simp only [Act.put, List.setIfInBounds_toArray, List.set_cons_zero, List.set_cons_succ]
                  refine wpAnyH_done (by kernel_rfl) ?_ _
                  clear hHeld
                  have HF5 : Hid (Half w (w4.setCell ⟨p, 4, none⟩ (.slice A8 (i + 1) c8)) p q ⟨1, 0, 0, 0, [], []⟩ A8 (i + 1) c8 I none 0 0 P0) := Lib.hid ⟨by
                      have := set_blk (o := 4) (v := .slice A8 (i + 1) c8) HAT4.out
                      exact this, by rw [heap_setCell_other _ _ _ _ (by have := HPQ.out; show q ≠ p; omega)]; exact HRS4.out,
                    (Keeps.setCell (fun k => k = p) w4 ⟨p, 4, none⟩ (.slice A8 (i + 1) c8) rfl).row RW4.out (fun k h1 h2 => row_ne_cells RW4.out HAT4.out (by decide) (h2 ▸ h1)),
                    World.ownsRow_nil _ _ _ _, BW4.out.setCell (by have := HPQ.out; have := HQ.out; show w.heap.size ≤ p; omega) _⟩
                  clear HAT HAr HAT2 HAr2 B2 HAT3 CA ST3 RW3 BW3 HAT4 BW4 HRS4 RW4 c4 f4 BW2
                  go_wp2_with fail
                  go_roundw
                  case rel => exact ⟨i + 1, z + 39, y - 1, by omega, by have := HZ.out; omega, by have := HY.out; omega, by go_num, by go_num, A8, c8, HF5.out⟩
                  case measure => simp [intOf]; omega
                · skip
                  rw [if_pos (by rfl)]
                  refine wp_slice1 23 53 (.tmp 45) rfl cs rfl iF (.agg zF.toArray) Tryz.underlying23 HIF.out.1 HIF.out.2.1 HL7.out HL5.out HL6.out ?_
                  obtain ⟨w3, hw3⟩ : ∃ w3, w3 = w2.alloc (.cells cs.toArray 53) := ⟨_, rfl⟩
                  have BW2 : Hid (Below w.heap.size w w2) := Lib.hid (HF.out.below.drew.trans (B2.out.mono HF.out.below.size))
                  have HAT3 : Hid (w3.heap[p]? = some (.cells (opL 1 0 0 0 Ax i cx none 0 0).toArray 26 (0, 0))) := Lib.hid (by rw [hw3]; exact heap_old HAT2.out)
                  have CA : Hid (∀ j u, cs[j]? = some u → w3.cell? ((⟨w2.heap.size, 0, none⟩ : Addr).add j) = some u) := Lib.hid fun j u hu => by
                    rw [Go.WideShapes.add_plain, Nat.zero_add, hw3]
                    exact block_cell (heap_new w2 _) j u (by simpa using hu)
                  have ST3 : Hid (∀ k, k < wr.heap.size → ∀ o, wr.heap[k]? = some o → w3.heap[k]? = some o) := Lib.hid fun k hk o ho => by rw [hw3]; exact heap_old ((B2.out.block k (heap_lt ho)).trans ho)
                  have RW3 : Hid (w3.ownsRow w.heap.size 53 36 (.slice Ax i cx) i (flatS (fun i => cellsF (I i)) i)) := Lib.hid (own_stays HF.out.r1 ST3.out)
                  have BW3 : Hid (Below w.heap.size w w3) := Lib.hid (by rw [hw3]; exact BW2.out.alloc BW2.out.size _)
                  rw [← hw3]
                  clear hw3
                  refine hK.out _ _ trivial (fun hHeld => ?_)
                  clear hK K
                  try simp only [Act.put, List.setIfInBounds_toArray, List.set_cons_zero, List.set_cons_succ]
                  refine wpAnyH_ready (rs := [1]) (by kernel_rfl) (by simp) ?_
                  refine AllReadyH.cons (by simp only [List.getElem?_toArray, List.getElem?_cons_zero, List.getElem?_cons_succ]; rfl) (fun K hK => ?_) AllReadyH.nil
                  rw [if_pos (by rfl)]
                  have c4 := C4.out _ HAT3.out
                  go_simp
                  refine hK.out _ _ trivial (fun hHeld => ?_)
                  clear hK K
                  try simp only [Act.put, List.setIfInBounds_toArray, List.set_cons_zero, List.set_cons_succ]
                  clear c4
                  refine wpAnyH_ready (rs := [20]) (by kernel_rfl) (by simp) ?_
                  refine AllReadyH.cons (by simp only [List.getElem?_toArray, List.getElem?_cons_zero, List.getElem?_cons_succ]; rfl) (fun K hK => ?_) AllReadyH.nil
                  rw [if_pos (by rfl)]
                  refine wp_append_own w3 (.tmp 28) (.tmp 46) 23 rfl w.heap.size 53 iF (.agg zF.toArray) 36 64 Tryz.underlying23 HIF.out.1 HIF.out.2.1 HIF.out.2.2.1 HIF.out.2.2.2 rfl (by decide) (.slice Ax i cx) i (flatS (fun i => cellsF (I i)) i) rfl RW3.out ⟨w2.heap.size, 0, none⟩ 1 1 cs rfl HL36.out CA.out HON.out (by unfold maxLen; omega) (by omega) BW3.out.size (fun v8 w4 ho9 hg9 _ => ?_)
                  rw [HFL.out] at ho9
                  have HAT4 := Lib.hid ((hg9.block p (heap_lt HAT3.out) (fun e => row_ne_cells RW3.out HAT3.out (by decide) e.symm)).trans HAT3.out)
                  have BW4 := Lib.hid (BW3.out.grown hg9 BW3.out.size (fun k e => (RW3.out.lt k e).1))
                  have HRS4 : Hid (w4.heap[q]? = some (.cells zOp.toArray 26 (0, 0))) := Lib.hid (by
                    have h3 := ST3.out q (heap_lt HF.out.res) _ HF.out.res
                    exact (hg9.block q (heap_lt h3) (fun e => row_ne_cells RW3.out h3 (by decide) e.symm)).trans h3)
                  obtain ⟨A8, c8, rfl⟩ := row_shapeS ho9
                  have RW4 := Lib.hid ho9
                  clear ho9 hg9
                  refine hK.out _ _ trivial (fun hHeld => ?_)
                  clear hK K
                  try simp only [Act.put, List.setIfInBounds_toArray, List.set_cons_zero, List.set_cons_succ]
                  refine wpAnyH_take (i := 21) (v := ?_) (by simp only [List.getElem?_toArray, List.getElem?_cons_zero, List.getElem?_cons_succ]; rfl) (by kernel_rfl) (by kernel_rfl) (by kernel_rfl) (by intro _ _ _ h; exact h) (Or.inl ⟨by rfl, ?_⟩) hHeld ?_
                  rotate_left
                  · (intro w hSw; (try dsimp only at hSw); go_simp; try with_reducible rfl)
                  try simp only [Act.put, List.setIfInBounds_toArray, List.set_cons_zero, List.set_cons_succ]
                  refine wpAnyH_ready (rs := [22]) (by kernel_rfl) (by simp) ?_
                  refine AllReadyH.cons (by simp only [List.getElem?_toArray, List.getElem?_cons_zero, List.getElem?_cons_succ]; rfl) (fun K hK => ?_) AllReadyH.nil
                  rw [if_pos (by rfl)]
                  have c4 := C4.out _ HAT4.out
                  have f4 := frozen_of_row w4 p 4 _ _ HAT4.out
                  go_simp
                  refine hK.out _ _ trivial (fun hHeld => ?_)
                  clear hK K
                  try simp only [Act.put, List.setIfInBounds_toArray, List.set_cons_zero, List.set_cons_succ]
                  refine wpAnyH_done (by kernel_rfl) ?_ _
                  clear hHeld
                  have HF5 : Hid (Half w (w4.setCell ⟨p, 4, none⟩ (.slice A8 (i + 1) c8)) p q ⟨1, 0, 0, 0, [], []⟩ A8 (i + 1) c8 I none 0 0 P0) := Lib.hid ⟨by
                      have := set_blk (o := 4) (v := .slice A8 (i + 1) c8) HAT4.out
                      exact this, by rw [heap_setCell_other _ _ _ _ (by have := HPQ.out; show q ≠ p; omega)]; exact HRS4.out,
                    (Keeps.setCell (fun k => k = p) w4 ⟨p, 4, none⟩ (.slice A8 (i + 1) c8) rfl).row RW4.out (fun k h1 h2 => row_ne_cells RW4.out HAT4.out (by decide) (h2 ▸ h1)),
                    World.ownsRow_nil _ _ _ _, BW4.out.setCell (by have := HPQ.out; have := HQ.out; show w.heap.size ≤ p; omega) _⟩
                  clear HAT HAr HAT2 HAr2 B2 HAT3 CA ST3 RW3 BW3 HAT4 BW4 HRS4 RW4 c4 f4 BW2
                  go_wp2_with fail
                  go_roundw
                  case rel => exact ⟨i + 1, z + 39, y - 1, by omega, by have := HZ.out; omega, by have := HY.out; omega, by go_num, by go_num, A8, c8, HF5.out⟩
                  case measure => simp [intOf]; omega
      · obtain rfl : i = N := by omega
        obtain rfl : y = 0 := by omega
        have t3 : decide ((0 : Int) < ((0 : Nat) : Int)) = false := by decide
        obtain ⟨M, hM⟩ : ∃ M, M = putsN l := ⟨_, rfl⟩
        have hpa : putsAt l = z := by unfold putsAt; rw [← HNE.out]; omega
        have hs1 := said_1 HB.out z
        have HM : Hid (saidR l z 1 = (M : Int)) := Lib.hid (by rw [hM]; unfold putsN; rw [hpa]; omega)
        have hM256 : M < 256 := by have := HM.out; omega
        have hz9 : z ≤ 20000 := by omega
        obtain ⟨zb, hzb⟩ : ∃ zb : Nat, zb = z + 1 := ⟨_, rfl⟩
        have h1 : IntKind.i64.wrap ((z : Int) + 1) = (zb : Int) := by rw [IntWalk.i64_in _ (by omega)]; omega
        have hzb9 : zb ≤ 20001 := by omega
        obtain ⟨P, hP⟩ : ∃ P : Nat → ElP, ∀ j, (P j).1 = putL l (zb + j * 36) := ⟨fun j => elP HB.out _, fun _ => rfl⟩
        have HP := Lib.hid hP
        have HO : Hid (refR l = opR 1 0 0 0 I i P M) := Lib.hid (by
          unfold refR opR
          rw [if_pos HKK.out.symm]
          unfold newsL putsL nl pl
          rw [← HNE.out, ← hM, hpa, ← hzb]
          congr 1
          · exact List.map_congr_left fun j _ => (HI.out j).symm
          · exact List.map_congr_left fun j _ => (HP.out j).symm)
        clear hM hpa hs1 hzb hP hz hy
        have HARR : Hid (Arr wr wr.heap.size A n fun j => .int .u8 (l.getD j 0)) := Lib.hid ((HA.out.below HF.out.below (Nat.le_refl _)).more HF.out.below.size)
        go_wp2_with fail
        refine (said49 l A n c z 1 wr HL.out hn2 HB.out HARR.out (by omega) (by omega)).mono ?_
        rintro e _ ⟨rfl, rfl⟩
        rw [HM.out]
        go_wp2_with fail
        go_loopw [5, 7] (fun a m wx => ∃ j z y : Nat, j ≤ M ∧ z = zb + j * 36 ∧ y = M - j ∧ a = .int .i64 z ∧ m = .int .i64 y ∧ ∃ A5 c5, Half w wx p q ⟨1, 0, 0, 0, [], []⟩ Ax i cx I A5 j c5 P) (fun _ m _ => (intOf m).toNat)
        case atStart => exact ⟨0, zb, M, Nat.zero_le _, by omega, rfl, rfl, rfl, none, 0, HF.out.at_, HF.out.res, HF.out.r1, World.ownsRow_nil _ _ _ _, HF.out.below⟩
        case round =>
          clear HF HARR h1 hz9 t3
          obtain ⟨j, z, y, hj, hz, hy, rfl, rfl, A5, c5, hf⟩ := hrel
          have HF := Lib.hid hf
          clear hf
          by_cases hlt : j < M
          · have t3 : decide ((0 : Int) < (y : Int)) = true := by simp; omega
            have t3n : decide (0 < y) = true := by simp; omega
            have hz9 : z ≤ 40000 := by omega
            have hy1 : 1 ≤ y := by omega
            obtain ⟨cs, hcs⟩ : ∃ cs, cs = cellsP (P j) := ⟨_, rfl⟩
            have HCS : Hid (puC ⟨saidR l z 2, readL l (z + 2) 32, saidR l (z + 34) 1, saidR l (z + 35) 1⟩ = cs) := Lib.hid (by rw [hcs]; unfold cellsP; rw [HP.out, ← hz]; rfl)
            have HLEN : Hid (cs.length = 35) := Lib.hid (by rw [hcs]; exact lenP _)
            have HON : Hid (∀ u ∈ cs, u.oneCell' = true) := Lib.hid (by rw [hcs]; exact oneP _)
            have HFL : Hid (flatS (fun i => cellsP (P i)) j ++ cs = flatS (fun i => cellsP (P i)) (j + 1)) := Lib.hid (by rw [hcs]; rfl)
            have h2 : IntKind.i64.wrap ((z : Int) + 2) = ((z + 2 : Nat) : Int) := by rw [IntWalk.i64_in _ (by omega)]; omega
            have h34 : IntKind.i64.wrap ((z : Int) + 34) = ((z + 34 : Nat) : Int) := by rw [IntWalk.i64_in _ (by omega)]; omega
            have h35 : IntKind.i64.wrap ((z : Int) + 35) = ((z + 35 : Nat) : Int) := by rw [IntWalk.i64_in _ (by omega)]; omega
            have h36 : IntKind.i64.wrap ((z : Int) + 36) = ((z + 36 : Nat) : Int) := by rw [IntWalk.i64_in _ (by omega)]; omega
            have hm1 : IntKind.i64.wrap ((y : Int) - 1) = ((y - 1 : Nat) : Int) := by rw [IntWalk.i64_in _ (by omega)]; omega
            have C4 : Hid (∀ wx : World, wx.heap[p]? = some (.cells (opL 1 0 0 0 Ax i cx A5 j c5).toArray 26 (0, 0)) → wx.cell? ⟨p, 5, none⟩ = some (.slice A5 j c5)) := Lib.hid fun wx h => block_cell h 5 _ rfl
            have HAT : Hid (wr.drew.heap[p]? = some (.cells (opL 1 0 0 0 Ax i cx A5 j c5).toArray 26 (0, 0))) := Lib.hid HF.out.at_
            have HAr : Hid (Arr wr.drew wr.drew.heap.size A n fun j => .int .u8 (l.getD j 0)) := Lib.hid ((HA.out.below HF.out.below (Nat.le_refl _)).more HF.out.below.size)
            have HZ := Lib.hid hz
            have HY := Lib.hid hy
            obtain ⟨iF, hiF, hzF0, hzF1, hzF2⟩ := infoParts infoPz
            have HIF := Lib.hid (And.intro hiF (And.intro hzF0 (And.intro hzF1 hzF2)))
            have HL36 : Hid (cs.length = 1 * 35) := Lib.hid (by rw [HLEN.out])
            have HL5 : Hid (0 < cs.length) := Lib.hid (by rw [HLEN.out]; decide)
            have HL6 : Hid (cs.length ≤ 2 ^ 24) := Lib.hid (by rw [HLEN.out]; decide)
            have HL7 : Hid (iF.size = cs.length) := Lib.hid (by rw [HLEN.out]; exact HIF.out.2.2.1)
            clear hiF hzF0 hzF1 hzF2
            clear hcs hz hy
            go_wp2_with fail
            refine wp_region_held_drew (S := fun _ => True) follows trivial (fun hHeld => ?_)
            refine wpAnyH_take (i := 0) (v := ?_) (by simp only [List.getElem?_toArray, List.getElem?_cons_zero]; rfl) (by kernel_rfl) (by kernel_rfl) (by kernel_rfl) (by intro _ _ _ h; exact h) (Or.inl ⟨by rfl, ?_⟩) hHeld ?_
            rotate_left
            · (intro w hSw; (try dsimp only at hSw); go_simp; try with_reducible rfl)
            try simp only [Act.put, List.setIfInBounds_toArray, List.set_cons_zero, List.set_cons_succ]
            refine wpAnyH_take (i := 2) (v := ?_) (by simp only [List.getElem?_toArray, List.getElem?_cons_zero, List.getElem?_cons_succ]; rfl) (by kernel_rfl) (by kernel_rfl) (by kernel_rfl) (by intro _ _ _ h; exact h) (Or.inl ⟨by rfl, ?_⟩) hHeld ?_
            rotate_left
            · (intro w hSw; (try dsimp only at hSw); go_simp; try with_reducible rfl)
            try simp only [Act.put, List.setIfInBounds_toArray, List.set_cons_zero, List.set_cons_succ]
            refine wpAnyH_take (i := 3) (v := ?_) (by simp only [List.getElem?_toArray, List.getElem?_cons_zero, List.getElem?_cons_succ]; rfl) (by kernel_rfl) (by kernel_rfl) (by kernel_rfl) (by intro _ _ _ h; exact h) (Or.inl ⟨by rfl, ?_⟩) hHeld ?_
            rotate_left
            · (intro w hSw; (try dsimp only at hSw); go_simp; try with_reducible rfl)
            try simp only [Act.put, List.setIfInBounds_toArray, List.set_cons_zero, List.set_cons_succ]
            refine wpAnyH_take (i := 5) (v := ?_) (by simp only [List.getElem?_toArray, List.getElem?_cons_zero, List.getElem?_cons_succ]; rfl) (by kernel_rfl) (by kernel_rfl) (by kernel_rfl) (by intro _ _ _ h; exact h) (Or.inl ⟨by rfl, ?_⟩) hHeld ?_
            rotate_left
            · (intro w hSw; (try dsimp only at hSw); go_simp; try with_reducible rfl)
            try simp only [Act.put, List.setIfInBounds_toArray, List.set_cons_zero, List.set_cons_succ]
            refine wpAnyH_take (i := 6) (v := ?_) (by simp only [List.getElem?_toArray, List.getElem?_cons_zero, List.getElem?_cons_succ]; rfl) (by kernel_rfl) (by kernel_rfl) (by kernel_rfl) (by intro _ _ _ h; exact h) (Or.inl ⟨by rfl, ?_⟩) hHeld ?_
            rotate_left
            · (intro w hSw; (try dsimp only at hSw); go_simp; try with_reducible rfl)
            try simp only [Act.put, List.setIfInBounds_toArray, List.set_cons_zero, List.set_cons_succ]
            refine wpAnyH_take (i := 7) (v := ?_) (by simp only [List.getElem?_toArray, List.getElem?_cons_zero, List.getElem?_cons_succ]; rfl) (by kernel_rfl) (by kernel_rfl) (by kernel_rfl) (by intro _ _ _ h; exact h) (Or.inl ⟨by rfl, ?_⟩) hHeld ?_
            rotate_left
            · (intro w hSw; (try dsimp only at hSw); go_simp; try with_reducible rfl)
            try simp only [Act.put, List.setIfInBounds_toArray, List.set_cons_zero, List.set_cons_succ]
            refine wpAnyH_take (i := 9) (v := ?_) (by simp only [List.getElem?_toArray, List.getElem?_cons_zero, List.getElem?_cons_succ]; rfl) (by kernel_rfl) (by kernel_rfl) (by kernel_rfl) (by intro _ _ _ h; exact h) (Or.inl ⟨by rfl, ?_⟩) hHeld ?_
            rotate_left
            · (intro w hSw; (try dsimp only at hSw); go_simp; try with_reducible rfl)
            try simp only [Act.put, List.setIfInBounds_toArray, List.set_cons_zero, List.set_cons_succ]
            refine wpAnyH_take (i := 10) (v := ?_) (by simp only [List.getElem?_toArray, List.getElem?_cons_zero, List.getElem?_cons_succ]; rfl) (by kernel_rfl) (by kernel_rfl) (by kernel_rfl) (by intro _ _ _ h; exact h) (Or.inl ⟨by rfl, ?_⟩) hHeld ?_
            rotate_left
            · (intro w hSw; (try dsimp only at hSw); go_simp; try with_reducible rfl)
            try simp only [Act.put, List.setIfInBounds_toArray, List.set_cons_zero, List.set_cons_succ]
            refine wpAnyH_take (i := 11) (v := ?_) (by simp only [List.getElem?_toArray, List.getElem?_cons_zero, List.getElem?_cons_succ]; rfl) (by kernel_rfl) (by kernel_rfl) (by kernel_rfl) (by intro _ _ _ h; exact h) (Or.inl ⟨by rfl, ?_⟩) hHeld ?_
            rotate_left
            · (intro w hSw; (try dsimp only at hSw); go_simp; try with_reducible rfl)
            try simp only [Act.put, List.setIfInBounds_toArray, List.set_cons_zero, List.set_cons_succ]
            refine wpAnyH_take (i := 13) (v := ?_) (by simp only [List.getElem?_toArray, List.getElem?_cons_zero, List.getElem?_cons_succ]; rfl) (by kernel_rfl) (by kernel_rfl) (by kernel_rfl) (by intro _ _ _ h; exact h) (Or.inl ⟨by rfl, ?_⟩) hHeld ?_
            rotate_left
            · (intro w hSw; (try dsimp only at hSw); go_simp; try with_reducible rfl)
            try simp only [Act.put, List.setIfInBounds_toArray, List.set_cons_zero, List.set_cons_succ]
            refine wpAnyH_take (i := 14) (v := ?_) (by simp only [List.getElem?_toArray, List.getElem?_cons_zero, List.getElem?_cons_succ]; rfl) (by kernel_rfl) (by kernel_rfl) (by kernel_rfl) (by intro _ _ _ h; exact h) (Or.inl ⟨by rfl, ?_⟩) hHeld ?_
            rotate_left
            · (intro w hSw; (try dsimp only at hSw); go_simp; try with_reducible rfl)
            try simp only [Act.put, List.setIfInBounds_toArray, List.set_cons_zero, List.set_cons_succ]
            refine wpAnyH_take (i := 15) (v := ?_) (by simp only [List.getElem?_toArray, List.getElem?_cons_zero, List.getElem?_cons_succ]; rfl) (by kernel_rfl) (by kernel_rfl) (by kernel_rfl) (by intro _ _ _ h; exact h) (Or.inl ⟨by rfl, ?_⟩) hHeld ?_
            rotate_left
            · (intro w hSw; (try dsimp only at hSw); go_simp; try with_reducible rfl)
            try simp only [Act.put, List.setIfInBounds_toArray, List.set_cons_zero, List.set_cons_succ]
            refine wpAnyH_ready (rs := [1, 4]) (by kernel_rfl) (by simp) ?_
            refine AllReadyH.cons (by simp only [List.getElem?_toArray, List.getElem?_cons_zero, List.getElem?_cons_succ]; rfl) (fun K hK => ?_) (AllReadyH.cons (by simp only [List.getElem?_toArray, List.getElem?_cons_zero, List.getElem?_cons_succ]; rfl) (fun K hK => ?_) AllReadyH.nil)
            · skip
              rw [if_pos (by rfl)]
              have c4 := C4.out _ HAT.out
              go_simp
              refine hK.out _ _ trivial (fun hHeld => ?_)
              clear hK K
              try simp only [Act.put, List.setIfInBounds_toArray, List.set_cons_zero, List.set_cons_succ]
              clear c4
              refine wpAnyH_ready (rs := [4]) (by kernel_rfl) (by simp) ?_
              refine AllReadyH.cons (by simp only [List.getElem?_toArray, List.getElem?_cons_zero, List.getElem?_cons_succ]; rfl) (fun K hK => ?_) AllReadyH.nil
              rw [if_pos (by rfl)]
              go_simp
              refine (said49 l A n c z 2 wr.drew HL.out hn2 HB.out HAr.out (by omega) (by omega)).mono ?_
              rintro e _ ⟨rfl, rfl⟩
              refine hK.out _ _ trivial (fun hHeld => ?_)
              clear hK K
              try simp only [Act.put, List.setIfInBounds_toArray, List.set_cons_zero, List.set_cons_succ]
              refine wpAnyH_ready (rs := [8]) (by kernel_rfl) (by simp) ?_
              refine AllReadyH.cons (by simp only [List.getElem?_toArray, List.getElem?_cons_zero, List.getElem?_cons_succ]; rfl) (fun K hK => ?_) AllReadyH.nil
              rw [if_pos (by rfl)]
              go_simp
              refine (key50 l A n c (z + 2) wr.drew HL.out hn2 HB.out HAr.out (by omega)).mono ?_
              rintro e w2 ⟨rfl, hkey, hb2⟩
              have HAT2 := Lib.hid ((hb2.block p (heap_lt HAT.out)).trans HAT.out)
              have HAr2 := Lib.hid ((HAr.out.below hb2 (Nat.le_refl _)).more hb2.size)
              have B2 := Lib.hid hb2
              have HKL := Lib.hid hkey.len
              refine hK.out _ _ trivial (fun hHeld => ?_)
              clear hK K
              try simp only [Act.put, List.setIfInBounds_toArray, List.set_cons_zero, List.set_cons_succ]
              clear hb2 hkey
              refine wpAnyH_ready (rs := [12]) (by kernel_rfl) (by simp) ?_
              refine AllReadyH.cons (by simp only [List.getElem?_toArray, List.getElem?_cons_zero, List.getElem?_cons_succ]; rfl) (fun K hK => ?_) AllReadyH.nil
              rw [if_pos (by rfl)]
              go_simp
              refine (said49 l A n c (z + 34) 1 w2 HL.out hn2 HB.out HAr2.out (by omega) (by omega)).mono ?_
              rintro e _ ⟨rfl, rfl⟩
              refine hK.out _ _ trivial (fun hHeld => ?_)
              clear hK K
              try simp only [Act.put, List.setIfInBounds_toArray, List.set_cons_zero, List.set_cons_succ]
              refine wpAnyH_ready (rs := [16]) (by kernel_rfl) (by simp) ?_
              refine AllReadyH.cons (by simp only [List.getElem?_toArray, List.getElem?_cons_zero, List.getElem?_cons_succ]; rfl) (fun K hK => ?_) AllReadyH.nil
              rw [if_pos (by rfl)]
              go_simp
              refine (said49 l A n c (z + 35) 1 w2 HL.out hn2 HB.out HAr2.out (by omega) (by omega)).mono ?_
              rintro e _ ⟨rfl, rfl⟩
              refine hK.out _ _ trivial (fun hHeld => ?_)
              clear hK K
              try simp only [Act.put, List.setIfInBounds_toArray, List.set_cons_zero, List.set_cons_succ]
              refine wpAnyH_take (i := 17) (v := _) (by simp only [List.getElem?_toArray, List.getElem?_cons_zero, List.getElem?_cons_succ]; rfl) (by kernel_rfl) (by kernel_rfl) (by kernel_rfl) (by intro _ _ _ h; exact h) (yields_build (by rfl) 46 [(0, .tmp 68), (1, .tmp 72), (2, .tmp 76)] rfl [(0, kv (readL l (z + 2) 32)), (1, .int .i64 (saidR l (z + 34) 1)), (2, .int .i64 (saidR l (z + 35) 1))] rfl _ (fun w => buildSl _ _ _ HKL.out w)) hHeld ?_
              try simp only [Act.put, List.setIfInBounds_toArray, List.set_cons_zero, List.set_cons_succ]
              refine wpAnyH_take (i := 18) (v := _) (by simp only [List.getElem?_toArray, List.getElem?_cons_zero, List.getElem?_cons_succ]; rfl) (by kernel_rfl) (by kernel_rfl) (by kernel_rfl) (by intro _ _ _ h; exact h) (yields_build (by rfl) 48 [(0, .tmp 64), (1, .tmp 77)] rfl [(0, .int .i64 (saidR l z 2)), (1, .agg (slC (readL l (z + 2) 32) (saidR l (z + 34) 1) (saidR l (z + 35) 1)).toArray)] rfl (.agg cs.toArray) (fun w => HCS.out ▸ buildPu _ _ _ _ HKL.out w)) hHeld ?_
              try simp only [Act.put, List.setIfInBounds_toArray, List.set_cons_zero, List.set_cons_succ]
              refine wpAnyH_ready (rs := [19]) (by kernel_rfl) (by simp) ?_
              refine AllReadyH.cons (by simp only [List.getElem?_toArray, List.getElem?_cons_zero, List.getElem?_cons_succ]; rfl) (fun K hK => ?_) AllReadyH.nil
              rw [if_pos (by rfl)]
              refine wp_slice1 24 48 (.tmp 78) rfl cs rfl iF (.agg zP.toArray) Tryz.underlying24 HIF.out.1 HIF.out.2.1 HL7.out HL5.out HL6.out ?_
              obtain ⟨w3, hw3⟩ : ∃ w3, w3 = w2.alloc (.cells cs.toArray 48) := ⟨_, rfl⟩
              have BW2 : Hid (Below w.heap.size w w2) := Lib.hid (HF.out.below.drew.trans (B2.out.mono HF.out.below.size))
              have HAT3 : Hid (w3.heap[p]? = some (.cells (opL 1 0 0 0 Ax i cx A5 j c5).toArray 26 (0, 0))) := Lib.hid (by rw [hw3]; exact heap_old HAT2.out)
              have CA : Hid (∀ j u, cs[j]? = some u → w3.cell? ((⟨w2.heap.size, 0, none⟩ : Addr).add j) = some u) := Lib.hid fun j u hu => by
                rw [Go.WideShapes.add_plain, Nat.zero_add, hw3]
                exact block_cell (heap_new w2 _) j u (by simpa using hu)
              have ST3 : Hid (∀ k, k < wr.heap.size → ∀ o, wr.heap[k]? = some o → w3.heap[k]? = some o) := Lib.hid fun k hk o ho => by rw [hw3]; exact heap_old ((B2.out.block k (heap_lt ho)).trans ho)
              have RW3 : Hid (w3.ownsRow w.heap.size 48 35 (.slice A5 j c5) j (flatS (fun i => cellsP (P i)) j)) := Lib.hid (own_stays HF.out.r2 ST3.out)
              have RN3 : Hid (w3.ownsRow w.heap.size 53 36 (.slice Ax i cx) i (flatS (fun i => cellsF (I i)) i)) := Lib.hid (own_stays HF.out.r1 ST3.out)
              have BW3 : Hid (Below w.heap.size w w3) := Lib.hid (by rw [hw3]; exact BW2.out.alloc BW2.out.size _)
              rw [← hw3]
              clear hw3
              refine hK.out _ _ trivial (fun hHeld => ?_)
              clear hK K
              try simp only [Act.put, List.setIfInBounds_toArray, List.set_cons_zero, List.set_cons_succ]
              refine wpAnyH_ready (rs := [20]) (by kernel_rfl) (by simp) ?_
              refine AllReadyH.cons (by simp only [List.getElem?_toArray, List.getElem?_cons_zero, List.getElem?_cons_succ]; rfl) (fun K hK => ?_) AllReadyH.nil
              rw [if_pos (by rfl)]
              refine wp_append_own w3 (.tmp 61) (.tmp 79) 24 rfl w.heap.size 48 iF (.agg zP.toArray) 35 56 Tryz.underlying24 HIF.out.1 HIF.out.2.1 HIF.out.2.2.1 HIF.out.2.2.2 rfl (by decide) (.slice A5 j c5) j (flatS (fun i => cellsP (P i)) j) rfl RW3.out ⟨w2.heap.size, 0, none⟩ 1 1 cs rfl HL36.out CA.out HON.out (by unfold maxLen; omega) (by omega) BW3.out.size (fun v8 w4 ho9 hg9 _ => ?_)
              rw [HFL.out] at ho9
              have HAT4 := Lib.hid ((hg9.block p (heap_lt HAT3.out) (fun e => row_ne_cells RW3.out HAT3.out (by decide) e.symm)).trans HAT3.out)
              have RN4 := Lib.hid ((Keeps.grown (S := fun k => (Value.slice A5 j c5).ownBlock = some k) hg9 fun _ e => e).row RN3.out fun k h1 h2 => own_ne RN3.out RW3.out (by decide) h1 h2)
              have BW4 := Lib.hid (BW3.out.grown hg9 BW3.out.size (fun k e => (RW3.out.lt k e).1))
              have HRS4 : Hid (w4.heap[q]? = some (.cells zOp.toArray 26 (0, 0))) := Lib.hid (by
                have h3 := ST3.out q (heap_lt HF.out.res) _ HF.out.res
                exact (hg9.block q (heap_lt h3) (fun e => row_ne_cells RW3.out h3 (by decide) e.symm)).trans h3)
              obtain ⟨A8, c8, rfl⟩ := row_shapeS ho9
              have RW4 := Lib.hid ho9
              clear ho9 hg9
              refine hK.out _ _ trivial (fun hHeld => ?_)
              clear hK K
              try simp only [Act.put, List.setIfInBounds_toArray, List.set_cons_zero, List.set_cons_succ]
              refine wpAnyH_take (i := 21) (v := ?_) (by simp only [List.getElem?_toArray, List.getElem?_cons_zero, List.getElem?_cons_succ]; rfl) (by kernel_rfl) (by kernel_rfl) (by kernel_rfl) (by intro _ _ _ h; exact h) (Or.inl ⟨by rfl, ?_⟩) hHeld ?_
              rotate_left
              · (intro w hSw; (try dsimp only at hSw); go_simp; try with_reducible rfl)
              try simp only [Act.put, List.setIfInBounds_toArray, List.set_cons_zero, List.set_cons_succ]
              refine wpAnyH_ready (rs := [22]) (by kernel_rfl) (by simp) ?_
              refine AllReadyH.cons (by simp only [List.getElem?_toArray, List.getElem?_cons_zero, List.getElem?_cons_succ]; rfl) (fun K hK => ?_) AllReadyH.nil
              rw [if_pos (by rfl)]
              have c4 := C4.out _ HAT4.out
              have f4 := frozen_of_row w4 p 5 _ _ HAT4.out
              go_simp
              refine hK.out _ _ trivial (fun hHeld => ?_)
              clear hK K
              try simp only [Act.put, List.setIfInBounds_toArray, List.set_cons_zero, List.set_cons_succ]
              refine wpAnyH_done (by kernel_rfl) ?_ _
              clear hHeld
              have HF5 : Hid (Half w (w4.setCell ⟨p, 5, none⟩ (.slice A8 (j + 1) c8)) p q ⟨1, 0, 0, 0, [], []⟩ Ax i cx I A8 (j + 1) c8 P) := Lib.hid ⟨by
                  have := set_blk (o := 5) (v := .slice A8 (j + 1) c8) HAT4.out
                  exact this, by rw [heap_setCell_other _ _ _ _ (by have := HPQ.out; show q ≠ p; omega)]; exact HRS4.out,
                (Keeps.setCell (fun k => k = p) w4 ⟨p, 5, none⟩ (.slice A8 (j + 1) c8) rfl).row RN4.out (fun k h1 h2 => row_ne_cells RN4.out HAT4.out (by decide) (h2 ▸ h1)),
                (Keeps.setCell (fun k => k = p) w4 ⟨p, 5, none⟩ (.slice A8 (j + 1) c8) rfl).row RW4.out (fun k h1 h2 => row_ne_cells RW4.out HAT4.out (by decide) (h2 ▸ h1)),
                BW4.out.setCell (by have := HPQ.out; have := HQ.out; show w.heap.size ≤ p; omega) _⟩
              clear HAT HAr HAT2 HAr2 B2 HAT3 CA ST3 RW3 RN3 BW3 HAT4 BW4 HRS4 RW4 RN4 c4 f4 BW2
              go_wp2_with fail
              go_roundw
              case rel => exact ⟨j + 1, z + 36, y - 1, by omega, by have := HZ.out; omega, by have := HY.out; omega, by go_num, by go_num, A8, c8, HF5.out⟩
              case measure => simp [intOf]; omega
            · skip
              rw [if_pos (by rfl)]
              go_simp
              refine (said49 l A n c z 2 wr.drew HL.out hn2 HB.out HAr.out (by omega) (by omega)).mono ?_
              rintro e _ ⟨rfl, rfl⟩
              refine hK.out _ _ trivial (fun hHeld => ?_)
              clear hK K
              try simp only [Act.put, List.setIfInBounds_toArray, List.set_cons_zero, List.set_cons_succ]
              refine wpAnyH_ready (rs := [1, 8]) (by kernel_rfl) (by simp) ?_
              refine AllReadyH.cons (by simp only [List.getElem?_toArray, List.getElem?_cons_zero, List.getElem?_cons_succ]; rfl) (fun K hK => ?_) (AllReadyH.cons (by simp only [List.getElem?_toArray, List.getElem?_cons_zero, List.getElem?_cons_succ]; rfl) (fun K hK => ?_) AllReadyH.nil)
              · skip
                rw [if_pos (by rfl)]
                have c4 := C4.out _ HAT.out
                go_simp
                refine hK.out _ _ trivial (fun hHeld => ?_)
                clear hK K
                try simp only [Act.put, List.setIfInBounds_toArray, List.set_cons_zero, List.set_cons_succ]
                clear c4
                refine wpAnyH_ready (rs := [8]) (by kernel_rfl) (by simp) ?_
                refine AllReadyH.cons (by simp only [List.getElem?_toArray, List.getElem?_cons_zero, List.getElem?_cons_succ]; rfl) (fun K hK => ?_) AllReadyH.nil
                rw [if_pos (by rfl)]
                go_simp
                refine (key50 l A n c (z + 2) wr.drew HL.out hn2 HB.out HAr.out (by omega)).mono ?_
                rintro e w2 ⟨rfl, hkey, hb2⟩
                have HAT2 := Lib.hid ((hb2.block p (heap_lt HAT.out)).trans HAT.out)
                have HAr2 := Lib.hid ((HAr.out.below hb2 (Nat.le_refl _)).more hb2.size)
                have B2 := Lib.hid hb2
                have HKL := Lib.hid hkey.len
                refine hK.out _ _ trivial (fun hHeld => ?_)
                clear hK K
                try simp only [Act.put, List.setIfInBounds_toArray, List.set_cons_zero, List.set_cons_succ]
                clear hb2 hkey
                refine wpAnyH_ready (rs := [12]) (by kernel_rfl) (by simp) ?_
                refine AllReadyH.cons (by simp only [List.getElem?_toArray, List.getElem?_cons_zero, List.getElem?_cons_succ]; rfl) (fun K hK => ?_) AllReadyH.nil
                rw [if_pos (by rfl)]
                go_simp
                refine (said49 l A n c (z + 34) 1 w2 HL.out hn2 HB.out HAr2.out (by omega) (by omega)).mono ?_
                rintro e _ ⟨rfl, rfl⟩
                refine hK.out _ _ trivial (fun hHeld => ?_)
                clear hK K
                try simp only [Act.put, List.setIfInBounds_toArray, List.set_cons_zero, List.set_cons_succ]
                refine wpAnyH_ready (rs := [16]) (by kernel_rfl) (by simp) ?_
                refine AllReadyH.cons (by simp only [List.getElem?_toArray, List.getElem?_cons_zero, List.getElem?_cons_succ]; rfl) (fun K hK => ?_) AllReadyH.nil
                rw [if_pos (by rfl)]
                go_simp
                refine (said49 l A n c (z + 35) 1 w2 HL.out hn2 HB.out HAr2.out (by omega) (by omega)).mono ?_
                rintro e _ ⟨rfl, rfl⟩
                refine hK.out _ _ trivial (fun hHeld => ?_)
                clear hK K
                try simp only [Act.put, List.setIfInBounds_toArray, List.set_cons_zero, List.set_cons_succ]
                refine wpAnyH_take (i := 17) (v := _) (by simp only [List.getElem?_toArray, List.getElem?_cons_zero, List.getElem?_cons_succ]; rfl) (by kernel_rfl) (by kernel_rfl) (by kernel_rfl) (by intro _ _ _ h; exact h) (yields_build (by rfl) 46 [(0, .tmp 68), (1, .tmp 72), (2, .tmp 76)] rfl [(0, kv (readL l (z + 2) 32)), (1, .int .i64 (saidR l (z + 34) 1)), (2, .int .i64 (saidR l (z + 35) 1))] rfl _ (fun w => buildSl _ _ _ HKL.out w)) hHeld ?_
                try simp only [Act.put, List.setIfInBounds_toArray, List.set_cons_zero, List.set_cons_succ]
                refine wpAnyH_take (i := 18) (v := _) (by simp only [List.getElem?_toArray, List.getElem?_cons_zero, List.getElem?_cons_succ]; rfl) (by kernel_rfl) (by kernel_rfl) (by kernel_rfl) (by intro _ _ _ h; exact h) (yields_build (by rfl) 48 [(0, .tmp 64), (1, .tmp 77)] rfl [(0, .int .i64 (saidR l z 2)), (1, .agg (slC (readL l (z + 2) 32) (saidR l (z + 34) 1) (saidR l (z + 35) 1)).toArray)] rfl (.agg cs.toArray) (fun w => HCS.out ▸ buildPu _ _ _ _ HKL.out w)) hHeld ?_
                try simp only [Act.put, List.setIfInBounds_toArray, List.set_cons_zero, List.set_cons_succ]
                refine wpAnyH_ready (rs := [19]) (by kernel_rfl) (by simp) ?_
                refine AllReadyH.cons (by simp only [List.getElem?_toArray, List.getElem?_cons_zero, List.getElem?_cons_succ]; rfl) (fun K hK => ?_) AllReadyH.nil
                rw [if_pos (by rfl)]
                refine wp_slice1 24 48 (.tmp 78) rfl cs rfl iF (.agg zP.toArray) Tryz.underlying24 HIF.out.1 HIF.out.2.1 HL7.out HL5.out HL6.out ?_
                obtain ⟨w3, hw3⟩ : ∃ w3, w3 = w2.alloc (.cells cs.toArray 48) := ⟨_, rfl⟩
                have BW2 : Hid (Below w.heap.size w w2) := Lib.hid (HF.out.below.drew.trans (B2.out.mono HF.out.below.size))
                have HAT3 : Hid (w3.heap[p]? = some (.cells (opL 1 0 0 0 Ax i cx A5 j c5).toArray 26 (0, 0))) := Lib.hid (by rw [hw3]; exact heap_old HAT2.out)
                have CA : Hid (∀ j u, cs[j]? = some u → w3.cell? ((⟨w2.heap.size, 0, none⟩ : Addr).add j) = some u) := Lib.hid fun j u hu => by
                  rw [Go.WideShapes.add_plain, Nat.zero_add, hw3]
                  exact block_cell (heap_new w2 _) j u (by simpa using hu)
                have ST3 : Hid (∀ k, k < wr.heap.size → ∀ o, wr.heap[k]? = some o → w3.heap[k]? = some o) := Lib.hid fun k hk o ho => by rw [hw3]; exact heap_old ((B2.out.block k (heap_lt ho)).trans ho)
                have RW3 : Hid (w3.ownsRow w.heap.size 48 35 (.slice A5 j c5) j (flatS (fun i => cellsP (P i)) j)) := Lib.hid (own_stays HF.out.r2 ST3.out)
                have RN3 : Hid (w3.ownsRow w.heap.size 53 36 (.slice Ax i cx) i (flatS (fun i => cellsF (I i)) i)) := Lib.hid (own_stays HF.out.r1 ST3.out)
                have BW3 : Hid (Below w.heap.size w w3) := Lib.hid (by rw [hw3]; exact BW2.out.alloc BW2.out.size _)
                rw [← hw3]
                clear hw3
                refine hK.out _ _ trivial (fun hHeld => ?_)
                clear hK K
                try simp only [Act.put, List.setIfInBounds_toArray, List.set_cons_zero, List.set_cons_succ]
                refine wpAnyH_ready (rs := [20]) (by kernel_rfl) (by simp) ?_
                refine AllReadyH.cons (by simp only [List.getElem?_toArray, List.getElem?_cons_zero, List.getElem?_cons_succ]; rfl) (fun K hK => ?_) AllReadyH.nil
                rw [if_pos (by rfl)]
                refine wp_append_own w3 (.tmp 61) (.tmp 79) 24 rfl w.heap.size 48 iF (.agg zP.toArray) 35 56 Tryz.underlying24 HIF.out.1 HIF.out.2.1 HIF.out.2.2.1 HIF.out.2.2.2 rfl (by decide) (.slice A5 j c5) j (flatS (fun i => cellsP (P i)) j) rfl RW3.out ⟨w2.heap.size, 0, none⟩ 1 1 cs rfl HL36.out CA.out HON.out (by unfold maxLen; omega) (by omega) BW3.out.size (fun v8 w4 ho9 hg9 _ => ?_)
                rw [HFL.out] at ho9
                have HAT4 := Lib.hid ((hg9.block p (heap_lt HAT3.out) (fun e => row_ne_cells RW3.out HAT3.out (by decide) e.symm)).trans HAT3.out)
                have RN4 := Lib.hid ((Keeps.grown (S := fun k => (Value.slice A5 j c5).ownBlock = some k) hg9 fun _ e => e).row RN3.out fun k h1 h2 => own_ne RN3.out RW3.out (by decide) h1 h2)
                have BW4 := Lib.hid (BW3.out.grown hg9 BW3.out.size (fun k e => (RW3.out.lt k e).1))
                have HRS4 : Hid (w4.heap[q]? = some (.cells zOp.toArray 26 (0, 0))) := Lib.hid (by
                  have h3 := ST3.out q (heap_lt HF.out.res) _ HF.out.res
                  exact (hg9.block q (heap_lt h3) (fun e => row_ne_cells RW3.out h3 (by decide) e.symm)).trans h3)
                obtain ⟨A8, c8, rfl⟩ := row_shapeS ho9
                have RW4 := Lib.hid ho9
                clear ho9 hg9
                refine hK.out _ _ trivial (fun hHeld => ?_)
                clear hK K
                try simp only [Act.put, List.setIfInBounds_toArray, List.set_cons_zero, List.set_cons_succ]
                refine wpAnyH_take (i := 21) (v := ?_) (by simp only [List.getElem?_toArray, List.getElem?_cons_zero, List.getElem?_cons_succ]; rfl) (by kernel_rfl) (by kernel_rfl) (by kernel_rfl) (by intro _ _ _ h; exact h) (Or.inl ⟨by rfl, ?_⟩) hHeld ?_
                rotate_left
                · (intro w hSw; (try dsimp only at hSw); go_simp; try with_reducible rfl)
                try simp only [Act.put, List.setIfInBounds_toArray, List.set_cons_zero, List.set_cons_succ]
                refine wpAnyH_ready (rs := [22]) (by kernel_rfl) (by simp) ?_
                refine AllReadyH.cons (by simp only [List.getElem?_toArray, List.getElem?_cons_zero, List.getElem?_cons_succ]; rfl) (fun K hK => ?_) AllReadyH.nil
                rw [if_pos (by rfl)]
                have c4 := C4.out _ HAT4.out
                have f4 := frozen_of_row w4 p 5 _ _ HAT4.out
                go_simp
                refine hK.out _ _ trivial (fun hHeld => ?_)
                clear hK K
                try simp only [Act.put, List.setIfInBounds_toArray, List.set_cons_zero, List.set_cons_succ]
                refine wpAnyH_done (by kernel_rfl) ?_ _
                clear hHeld
                have HF5 : Hid (Half w (w4.setCell ⟨p, 5, none⟩ (.slice A8 (j + 1) c8)) p q ⟨1, 0, 0, 0, [], []⟩ Ax i cx I A8 (j + 1) c8 P) := Lib.hid ⟨by
                    have := set_blk (o := 5) (v := .slice A8 (j + 1) c8) HAT4.out
                    exact this, by rw [heap_setCell_other _ _ _ _ (by have := HPQ.out; show q ≠ p; omega)]; exact HRS4.out,
                  (Keeps.setCell (fun k => k = p) w4 ⟨p, 5, none⟩ (.slice A8 (j + 1) c8) rfl).row RN4.out (fun k h1 h2 => row_ne_cells RN4.out HAT4.out (by decide) (h2 ▸ h1)),
                  (Keeps.setCell (fun k => k = p) w4 ⟨p, 5, none⟩ (.slice A8 (j + 1) c8) rfl).row RW4.out (fun k h1 h2 => row_ne_cells RW4.out HAT4.out (by decide) (h2 ▸ h1)),
                  BW4.out.setCell (by have := HPQ.out; have := HQ.out; show w.heap.size ≤ p; omega) _⟩
                clear HAT HAr HAT2 HAr2 B2 HAT3 CA ST3 RW3 RN3 BW3 HAT4 BW4 HRS4 RW4 RN4 c4 f4 BW2
                go_wp2_with fail
                go_roundw
                case rel => exact ⟨j + 1, z + 36, y - 1, by omega, by have := HZ.out; omega, by have := HY.out; omega, by go_num, by go_num, A8, c8, HF5.out⟩
                case measure => simp [intOf]; omega
              · skip
                rw [if_pos (by rfl)]
                go_simp
                refine (key50 l A n c (z + 2) wr.drew HL.out hn2 HB.out HAr.out (by omega)).mono ?_
                rintro e w2 ⟨rfl, hkey, hb2⟩
                have HAT2 := Lib.hid ((hb2.block p (heap_lt HAT.out)).trans HAT.out)
                have HAr2 := Lib.hid ((HAr.out.below hb2 (Nat.le_refl _)).more hb2.size)
                have B2 := Lib.hid hb2
                have HKL := Lib.hid hkey.len
                refine hK.out _ _ trivial (fun hHeld => ?_)
                clear hK K
                try simp only [Act.put, List.setIfInBounds_toArray, List.set_cons_zero, List.set_cons_succ]
                clear hb2 hkey
                refine wpAnyH_ready (rs := [1, 12]) (by kernel_rfl) (by simp) ?_
                refine AllReadyH.cons (by simp only [List.getElem?_toArray, List.getElem?_cons_zero, List.getElem?_cons_succ]; rfl) (fun K hK => ?_) (AllReadyH.cons (by simp only [List.getElem?_toArray, List.getElem?_cons_zero, List.getElem?_cons_succ]; rfl) (fun K hK => ?_) AllReadyH.nil)
                · skip
                  rw [if_pos (by rfl)]
                  have c4 := C4.out _ HAT2.out
                  go_simp
                  refine hK.out _ _ trivial (fun hHeld => ?_)
                  clear hK K
                  try simp only [Act.put, List.setIfInBounds_toArray, List.set_cons_zero, List.set_cons_succ]
                  clear c4
                  refine wpAnyH_ready (rs := [12]) (by kernel_rfl) (by simp) ?_
                  refine AllReadyH.cons (by simp only [List.getElem?_toArray, List.getElem?_cons_zero, List.getElem?_cons_succ]; rfl) (fun K hK => ?_) AllReadyH.nil
                  rw [if_pos (by rfl)]
                  go_simp
                  refine (said49 l A n c (z + 34) 1 w2 HL.out hn2 HB.out HAr2.out (by omega) (by omega)).mono ?_
                  rintro e _ ⟨rfl, rfl⟩
                  refine hK.out _ _ trivial (fun hHeld => ?_)
                  clear hK K
                  try simp only [Act.put, List.setIfInBounds_toArray, List.set_cons_zero, List.set_cons_succ]
                  refine wpAnyH_ready (rs := [16]) (by kernel_rfl) (by simp) ?_
                  refine AllReadyH.cons (by simp only [List.getElem?_toArray, List.getElem?_cons_zero, List.getElem?_cons_succ]; rfl) (fun K hK => ?_) AllReadyH.nil
                  rw [if_pos (by rfl)]
                  go_simp
                  refine (said49 l A n c (z + 35) 1 w2 HL.out hn2 HB.out HAr2.out (by omega) (by omega)).mono ?_
                  rintro e _ ⟨rfl, rfl⟩
                  refine hK.out _ _ trivial (fun hHeld => ?_)
                  clear hK K
                  try simp only [Act.put, List.setIfInBounds_toArray, List.set_cons_zero, List.set_cons_succ]
                  refine wpAnyH_take (i := 17) (v := _) (by simp only [List.getElem?_toArray, List.getElem?_cons_zero, List.getElem?_cons_succ]; rfl) (by kernel_rfl) (by kernel_rfl) (by kernel_rfl) (by intro _ _ _ h; exact h) (yields_build (by rfl) 46 [(0, .tmp 68), (1, .tmp 72), (2, .tmp 76)] rfl [(0, kv (readL l (z + 2) 32)), (1, .int .i64 (saidR l (z + 34) 1)), (2, .int .i64 (saidR l (z + 35) 1))] rfl _ (fun w => buildSl _ _ _ HKL.out w)) hHeld ?_
                  try simp only [Act.put, List.setIfInBounds_toArray, List.set_cons_zero, List.set_cons_succ]
                  refine wpAnyH_take (i := 18) (v := _) (by simp only [List.getElem?_toArray, List.getElem?_cons_zero, List.getElem?_cons_succ]; rfl) (by kernel_rfl) (by kernel_rfl) (by kernel_rfl) (by intro _ _ _ h; exact h) (yields_build (by rfl) 48 [(0, .tmp 64), (1, .tmp 77)] rfl [(0, .int .i64 (saidR l z 2)), (1, .agg (slC (readL l (z + 2) 32) (saidR l (z + 34) 1) (saidR l (z + 35) 1)).toArray)] rfl (.agg cs.toArray) (fun w => HCS.out ▸ buildPu _ _ _ _ HKL.out w)) hHeld ?_
                  try simp only [Act.put, List.setIfInBounds_toArray, List.set_cons_zero, List.set_cons_succ]
                  refine wpAnyH_ready (rs := [19]) (by kernel_rfl) (by simp) ?_
                  refine AllReadyH.cons (by simp only [List.getElem?_toArray, List.getElem?_cons_zero, List.getElem?_cons_succ]; rfl) (fun K hK => ?_) AllReadyH.nil
                  rw [if_pos (by rfl)]
                  refine wp_slice1 24 48 (.tmp 78) rfl cs rfl iF (.agg zP.toArray) Tryz.underlying24 HIF.out.1 HIF.out.2.1 HL7.out HL5.out HL6.out ?_
                  obtain ⟨w3, hw3⟩ : ∃ w3, w3 = w2.alloc (.cells cs.toArray 48) := ⟨_, rfl⟩
                  have BW2 : Hid (Below w.heap.size w w2) := Lib.hid (HF.out.below.drew.trans (B2.out.mono HF.out.below.size))
                  have HAT3 : Hid (w3.heap[p]? = some (.cells (opL 1 0 0 0 Ax i cx A5 j c5).toArray 26 (0, 0))) := Lib.hid (by rw [hw3]; exact heap_old HAT2.out)
                  have CA : Hid (∀ j u, cs[j]? = some u → w3.cell? ((⟨w2.heap.size, 0, none⟩ : Addr).add j) = some u) := Lib.hid fun j u hu => by
                    rw [Go.WideShapes.add_plain, Nat.zero_add, hw3]
                    exact block_cell (heap_new w2 _) j u (by simpa using hu)
                  have ST3 : Hid (∀ k, k < wr.heap.size → ∀ o, wr.heap[k]? = some o → w3.heap[k]? = some o) := Lib.hid fun k hk o ho => by rw [hw3]; exact heap_old ((B2.out.block k (heap_lt ho)).trans ho)
                  have RW3 : Hid (w3.ownsRow w.heap.size 48 35 (.slice A5 j c5) j (flatS (fun i => cellsP (P i)) j)) := Lib.hid (own_stays HF.out.r2 ST3.out)
                  have RN3 : Hid (w3.ownsRow w.heap.size 53 36 (.slice Ax i cx) i (flatS (fun i => cellsF (I i)) i)) := Lib.hid (own_stays HF.out.r1 ST3.out)
                  have BW3 : Hid (Below w.heap.size w w3) := Lib.hid (by rw [hw3]; exact BW2.out.alloc BW2.out.size _)
                  rw [← hw3]
                  clear hw3
                  refine hK.out _ _ trivial (fun hHeld => ?_)
                  clear hK K
                  try simp only [Act.put, List.setIfInBounds_toArray, List.set_cons_zero, List.set_cons_succ]
                  refine wpAnyH_ready (rs := [20]) (by kernel_rfl) (by simp) ?_
                  refine AllReadyH.cons (by simp only [List.getElem?_toArray, List.getElem?_cons_zero, List.getElem?_cons_succ]; rfl) (fun K hK => ?_) AllReadyH.nil
                  rw [if_pos (by rfl)]
                  refine wp_append_own w3 (.tmp 61) (.tmp 79) 24 rfl w.heap.size 48 iF (.agg zP.toArray) 35 56 Tryz.underlying24 HIF.out.1 HIF.out.2.1 HIF.out.2.2.1 HIF.out.2.2.2 rfl (by decide) (.slice A5 j c5) j (flatS (fun i => cellsP (P i)) j) rfl RW3.out ⟨w2.heap.size, 0, none⟩ 1 1 cs rfl HL36.out CA.out HON.out (by unfold maxLen; omega) (by omega) BW3.out.size (fun v8 w4 ho9 hg9 _ => ?_)
                  rw [HFL.out] at ho9
                  have HAT4 := Lib.hid ((hg9.block p (heap_lt HAT3.out) (fun e => row_ne_cells RW3.out HAT3.out (by decide) e.symm)).trans HAT3.out)
                  have RN4 := Lib.hid ((Keeps.grown (S := fun k => (Value.slice A5 j c5).ownBlock = some k) hg9 fun _ e => e).row RN3.out fun k h1 h2 => own_ne RN3.out RW3.out (by decide) h1 h2)
                  have BW4 := Lib.hid (BW3.out.grown hg9 BW3.out.size (fun k e => (RW3.out.lt k e).1))
                  have HRS4 : Hid (w4.heap[q]? = some (.cells zOp.toArray 26 (0, 0))) := Lib.hid (by
                    have h3 := ST3.out q (heap_lt HF.out.res) _ HF.out.res
                    exact (hg9.block q (heap_lt h3) (fun e => row_ne_cells RW3.out h3 (by decide) e.symm)).trans h3)
                  obtain ⟨A8, c8, rfl⟩ := row_shapeS ho9
                  have RW4 := Lib.hid ho9
                  clear ho9 hg9
                  refine hK.out _ _ trivial (fun hHeld => ?_)
                  clear hK K
                  try simp only [Act.put, List.setIfInBounds_toArray, List.set_cons_zero, List.set_cons_succ]
                  refine wpAnyH_take (i := 21) (v := ?_) (by simp only [List.getElem?_toArray, List.getElem?_cons_zero, List.getElem?_cons_succ]; rfl) (by kernel_rfl) (by kernel_rfl) (by kernel_rfl) (by intro _ _ _ h; exact h) (Or.inl ⟨by rfl, ?_⟩) hHeld ?_
                  rotate_left
                  · (intro w hSw; (try dsimp only at hSw); go_simp; try with_reducible rfl)
                  try simp only [Act.put, List.setIfInBounds_toArray, List.set_cons_zero, List.set_cons_succ]
                  refine wpAnyH_ready (rs := [22]) (by kernel_rfl) (by simp) ?_
                  refine AllReadyH.cons (by simp only [List.getElem?_toArray, List.getElem?_cons_zero, List.getElem?_cons_succ]; rfl) (fun K hK => ?_) AllReadyH.nil
                  rw [if_pos (by rfl)]
                  have c4 := C4.out _ HAT4.out
                  have f4 := frozen_of_row w4 p 5 _ _ HAT4.out
                  go_simp
                  refine hK.out _ _ trivial (fun hHeld => ?_)
                  clear hK K
                  try simp only [Act.put, List.setIfInBounds_toArray, List.set_cons_zero, List.set_cons_succ]
                  refine wpAnyH_done (by kernel_rfl) ?_ _
                  clear hHeld
                  have HF5 : Hid (Half w (w4.setCell ⟨p, 5, none⟩ (.slice A8 (j + 1) c8)) p q ⟨1, 0, 0, 0, [], []⟩ Ax i cx I A8 (j + 1) c8 P) := Lib.hid ⟨by
                      have := set_blk (o := 5) (v := .slice A8 (j + 1) c8) HAT4.out
                      exact this, by rw [heap_setCell_other _ _ _ _ (by have := HPQ.out; show q ≠ p; omega)]; exact HRS4.out,
                    (Keeps.setCell (fun k => k = p) w4 ⟨p, 5, none⟩ (.slice A8 (j + 1) c8) rfl).row RN4.out (fun k h1 h2 => row_ne_cells RN4.out HAT4.out (by decide) (h2 ▸ h1)),
                    (Keeps.setCell (fun k => k = p) w4 ⟨p, 5, none⟩ (.slice A8 (j + 1) c8) rfl).row RW4.out (fun k h1 h2 => row_ne_cells RW4.out HAT4.out (by decide) (h2 ▸ h1)),
                    BW4.out.setCell (by have := HPQ.out; have := HQ.out; show w.heap.size ≤ p; omega) _⟩
                  clear HAT HAr HAT2 HAr2 B2 HAT3 CA ST3 RW3 RN3 BW3 HAT4 BW4 HRS4 RW4 RN4 c4 f4 BW2
                  go_wp2_with fail
                  go_roundw
                  case rel => exact ⟨j + 1, z + 36, y - 1, by omega, by have := HZ.out; omega, by have := HY.out; omega, by go_num, by go_num, A8, c8, HF5.out⟩
                  case measure => simp [intOf]; omega
                · skip
                  rw [if_pos (by rfl)]
                  go_simp
                  refine (said49 l A n c (z + 34) 1 w2 HL.out hn2 HB.out HAr2.out (by omega) (by omega)).mono ?_
                  rintro e _ ⟨rfl, rfl⟩
                  refine hK.out _ _ trivial (fun hHeld => ?_)
                  clear hK K
                  try simp only [Act.put, List.setIfInBounds_toArray, List.set_cons_zero, List.set_cons_succ]
                  refine wpAnyH_ready (rs := [1, 16]) (by kernel_rfl) (by simp) ?_
                  refine AllReadyH.cons (by simp only [List.getElem?_toArray, List.getElem?_cons_zero, List.getElem?_cons_succ]; rfl) (fun K hK => ?_) (AllReadyH.cons (by simp only [List.getElem?_toArray, List.getElem?_cons_zero, List.getElem?_cons_succ]; rfl) (fun K hK => ?_) AllReadyH.nil)
                  · skip
                    rw [if_pos (by rfl)]
                    have c4 := C4.out _ HAT2.out
                    go_simp
                    refine hK.out _ _ trivial (fun hHeld => ?_)
                    clear hK K
                    try simp only [Act.put, List.setIfInBounds_toArray, List.set_cons_zero, List.set_cons_succ]
                    clear c4
                    refine wpAnyH_ready (rs := [16]) (by kernel_rfl) (by simp) ?_
                    refine AllReadyH.cons (by simp only [List.getElem?_toArray, List.getElem?_cons_zero, List.getElem?_cons_succ]; rfl) (fun K hK => ?_) AllReadyH.nil
                    rw [if_pos (by rfl)]
                    go_simp
                    refine (said49 l A n c (z + 35) 1 w2 HL.out hn2 HB.out HAr2.out (by omega) (by omega)).mono ?_
                    rintro e _ ⟨rfl, rfl⟩
                    refine hK.out _ _ trivial (fun hHeld => ?_)
                    clear hK K
                    try simp only [Act.put, List.setIfInBounds_toArray, List.set_cons_zero, List.set_cons_succ]
                    refine wpAnyH_take (i := 17) (v := _) (by simp only [List.getElem?_toArray, List.getElem?_cons_zero, List.getElem?_cons_succ]; rfl) (by kernel_rfl) (by kernel_rfl) (by kernel_rfl) (by intro _ _ _ h; exact h) (yields_build (by rfl) 46 [(0, .tmp 68), (1, .tmp 72), (2, .tmp 76)] rfl [(0, kv (readL l (z + 2) 32)), (1, .int .i64 (saidR l (z + 34) 1)), (2, .int .i64 (saidR l (z + 35) 1))] rfl _ (fun w => buildSl _ _ _ HKL.out w)) hHeld ?_
                    try simp only [Act.put, List.setIfInBounds_toArray, List.set_cons_zero, List.set_cons_succ]
                    refine wpAnyH_take (i := 18) (v := _) (by simp only [List.getElem?_toArray, List.getElem?_cons_zero, List.getElem?_cons_succ]; rfl) (by kernel_rfl) (by kernel_rfl) (by kernel_rfl) (by intro _ _ _ h; exact h) (yields_build (by rfl) 48 [(0, .tmp 64), (1, .tmp 77)] rfl [(0, .int .i64 (saidR l z 2)), (1, .agg (slC (readL l (z + 2) 32) (saidR l (z + 34) 1) (saidR l (z + 35) 1)).toArray)] rfl (.agg cs.toArray) (fun w => HCS.out ▸ buildPu _ _ _ _ HKL.out w)) hHeld ?_
                    try simp only [Act.put, List.setIfInBounds_toArray, List.set_cons_zero, List.set_cons_succ]
                    refine wpAnyH_ready (rs := [19]) (by kernel_rfl) (by simp) ?_
                    refine AllReadyH.cons (by simp only [List.getElem?_toArray, List.getElem?_cons_zero, List.getElem?_cons_succ]; rfl) (fun K hK => ?_) AllReadyH.nil
                    rw [if_pos (by rfl)]
                    refine wp_slice1 24 48 (.tmp 78) rfl cs rfl iF (.agg zP.toArray) Tryz.underlying24 HIF.out.1 HIF.out.2.1 HL7.out HL5.out HL6.out ?_
                    obtain ⟨w3, hw3⟩ : ∃ w3, w3 = w2.alloc (.cells cs.toArray 48) := ⟨_, rfl⟩
                    have BW2 : Hid (Below w.heap.size w w2) := Lib.hid (HF.out.below.drew.trans (B2.out.mono HF.out.below.size))
                    have HAT3 : Hid (w3.heap[p]? = some (.cells (opL 1 0 0 0 Ax i cx A5 j c5).toArray 26 (0, 0))) := Lib.hid (by rw [hw3]; exact heap_old HAT2.out)
                    have CA : Hid (∀ j u, cs[j]? = some u → w3.cell? ((⟨w2.heap.size, 0, none⟩ : Addr).add j) = some u) := Lib.hid fun j u hu => by
                      rw [Go.WideShapes.add_plain, Nat.zero_add, hw3]
                      exact block_cell (heap_new w2 _) j u (by simpa using hu)
                    have ST3 : Hid (∀ k, k < wr.heap.size → ∀ o, wr.heap[k]? = some o → w3.heap[k]? = some o) := Lib.hid fun k hk o ho => by rw [hw3]; exact heap_old ((B2.out.block k (heap_lt ho)).trans ho)
                    have RW3 : Hid (w3.ownsRow w.heap.size 48 35 (.slice A5 j c5) j (flatS (fun i => cellsP (P i)) j)) := Lib.hid (own_stays HF.out.r2 ST3.out)
                    have RN3 : Hid (w3.ownsRow w.heap.size 53 36 (.slice Ax i cx) i (flatS (fun i => cellsF (I i)) i)) := Lib.hid (own_stays HF.out.r1 ST3.out)
                    have BW3 : Hid (Below w.heap.size w w3) := Lib.hid (by rw [hw3]; exact BW2.out.alloc BW2.out.size _)
                    rw [← hw3]
                    clear hw3
                    refine hK.out _ _ trivial (fun hHeld => ?_)
                    clear hK K
                    try simp only [Act.put, List.setIfInBounds_toArray, List.set_cons_zero, List.set_cons_succ]
                    refine wpAnyH_ready (rs := [20]) (by kernel_rfl) (by simp) ?_
                    refine AllReadyH.cons (by simp only [List.getElem?_toArray, List.getElem?_cons_zero, List.getElem?_cons_succ]; rfl) (fun K hK => ?_) AllReadyH.nil
                    rw [if_pos (by rfl)]
                    refine wp_append_own w3 (.tmp 61) (.tmp 79) 24 rfl w.heap.size 48 iF (.agg zP.toArray) 35 56 Tryz.underlying24 HIF.out.1 HIF.out.2.1 HIF.out.2.2.1 HIF.out.2.2.2 rfl (by decide) (.slice A5 j c5) j (flatS (fun i => cellsP (P i)) j) rfl RW3.out ⟨w2.heap.size, 0, none⟩ 1 1 cs rfl HL36.out CA.out HON.out (by unfold maxLen; omega) (by omega) BW3.out.size (fun v8 w4 ho9 hg9 _ => ?_)
                    rw [HFL.out] at ho9
                    have HAT4 := Lib.hid ((hg9.block p (heap_lt HAT3.out) (fun e => row_ne_cells RW3.out HAT3.out (by decide) e.symm)).trans HAT3.out)
                    have RN4 := Lib.hid ((Keeps.grown (S := fun k => (Value.slice A5 j c5).ownBlock = some k) hg9 fun _ e => e).row RN3.out fun k h1 h2 => own_ne RN3.out RW3.out (by decide) h1 h2)
                    have BW4 := Lib.hid (BW3.out.grown hg9 BW3.out.size (fun k e => (RW3.out.lt k e).1))
                    have HRS4 : Hid (w4.heap[q]? = some (.cells zOp.toArray 26 (0, 0))) := Lib.hid (by
                      have h3 := ST3.out q (heap_lt HF.out.res) _ HF.out.res
                      exact (hg9.block q (heap_lt h3) (fun e => row_ne_cells RW3.out h3 (by decide) e.symm)).trans h3)
                    obtain ⟨A8, c8, rfl⟩ := row_shapeS ho9
                    have RW4 := Lib.hid ho9
                    clear ho9 hg9
                    refine hK.out _ _ trivial (fun hHeld => ?_)
                    clear hK K
                    try simp only [Act.put, List.setIfInBounds_toArray, List.set_cons_zero, List.set_cons_succ]
                    refine wpAnyH_take (i := 21) (v := ?_) (by simp only [List.getElem?_toArray, List.getElem?_cons_zero, List.getElem?_cons_succ]; rfl) (by kernel_rfl) (by kernel_rfl) (by kernel_rfl) (by intro _ _ _ h; exact h) (Or.inl ⟨by rfl, ?_⟩) hHeld ?_
                    rotate_left
                    · (intro w hSw; (try dsimp only at hSw); go_simp; try with_reducible rfl)
                    try simp only [Act.put, List.setIfInBounds_toArray, List.set_cons_zero, List.set_cons_succ]
                    refine wpAnyH_ready (rs := [22]) (by kernel_rfl) (by simp) ?_
                    refine AllReadyH.cons (by simp only [List.getElem?_toArray, List.getElem?_cons_zero, List.getElem?_cons_succ]; rfl) (fun K hK => ?_) AllReadyH.nil
                    rw [if_pos (by rfl)]
                    have c4 := C4.out _ HAT4.out
                    have f4 := frozen_of_row w4 p 5 _ _ HAT4.out
                    go_simp
                    refine hK.out _ _ trivial (fun hHeld => ?_)
                    clear hK K
                    try simp only [Act.put, List.setIfInBounds_toArray, List.set_cons_zero, List.set_cons_succ]
                    refine wpAnyH_done (by kernel_rfl) ?_ _
                    clear hHeld
                    have HF5 : Hid (Half w (w4.setCell ⟨p, 5, none⟩ (.slice A8 (j + 1) c8)) p q ⟨1, 0, 0, 0, [], []⟩ Ax i cx I A8 (j + 1) c8 P) := Lib.hid ⟨by
                        have := set_blk (o := 5) (v := .slice A8 (j + 1) c8) HAT4.out
                        exact this, by rw [heap_setCell_other _ _ _ _ (by have := HPQ.out; show q ≠ p; omega)]; exact HRS4.out,
                      (Keeps.setCell (fun k => k = p) w4 ⟨p, 5, none⟩ (.slice A8 (j + 1) c8) rfl).row RN4.out (fun k h1 h2 => row_ne_cells RN4.out HAT4.out (by decide) (h2 ▸ h1)),
                      (Keeps.setCell (fun k => k = p) w4 ⟨p, 5, none⟩ (.slice A8 (j + 1) c8) rfl).row RW4.out (fun k h1 h2 => row_ne_cells RW4.out HAT4.out (by decide) (h2 ▸ h1)),
                      BW4.out.setCell (by have := HPQ.out; have := HQ.out; show w.heap.size ≤ p; omega) _⟩
                    clear HAT HAr HAT2 HAr2 B2 HAT3 CA ST3 RW3 RN3 BW3 HAT4 BW4 HRS4 RW4 RN4 c4 f4 BW2
                    go_wp2_with fail
                    go_roundw
                    case rel => exact ⟨j + 1, z + 36, y - 1, by omega, by have := HZ.out; omega, by have := HY.out; omega, by go_num, by go_num, A8, c8, HF5.out⟩
                    case measure => simp [intOf]; omega
                  · skip
                    rw [if_pos (by rfl)]
                    go_simp
                    refine (said49 l A n c (z + 35) 1 w2 HL.out hn2 HB.out HAr2.out (by omega) (by omega)).mono ?_
                    rintro e _ ⟨rfl, rfl⟩
                    refine hK.out _ _ trivial (fun hHeld => ?_)
                    clear hK K
                    try simp only [Act.put, List.setIfInBounds_toArray, List.set_cons_zero, List.set_cons_succ]
                    refine wpAnyH_take (i := 17) (v := _) (by simp only [List.getElem?_toArray, List.getElem?_cons_zero, List.getElem?_cons_succ]; rfl) (by kernel_rfl) (by kernel_rfl) (by kernel_rfl) (by intro _ _ _ h; exact h) (yields_build (by rfl) 46 [(0, .tmp 68), (1, .tmp 72), (2, .tmp 76)] rfl [(0, kv (readL l (z + 2) 32)), (1, .int .i64 (saidR l (z + 34) 1)), (2, .int .i64 (saidR l (z + 35) 1))] rfl _ (fun w => buildSl _ _ _ HKL.out w)) hHeld ?_
                    try simp only [Act.put, List.setIfInBounds_toArray, List.set_cons_zero, List.set_cons_succ]
                    refine wpAnyH_take (i := 18) (v := _) (by simp only [List.getElem?_toArray, List.getElem?_cons_zero, List.getElem?_cons_succ]; rfl) (by kernel_rfl) (by kernel_rfl) (by kernel_rfl) (by intro _ _ _ h; exact h) (yields_build (by rfl) 48 [(0, .tmp 64), (1, .tmp 77)] rfl [(0, .int .i64 (saidR l z 2)), (1, .agg (slC (readL l (z + 2) 32) (saidR l (z + 34) 1) (saidR l (z + 35) 1)).toArray)] rfl (.agg cs.toArray) (fun w => HCS.out ▸ buildPu _ _ _ _ HKL.out w)) hHeld ?_
                    try simp only [Act.put, List.setIfInBounds_toArray, List.set_cons_zero, List.set_cons_succ]
                    refine wpAnyH_ready (rs := [1, 19]) (by kernel_rfl) (by simp) ?_
                    refine AllReadyH.cons (by simp only [List.getElem?_toArray, List.getElem?_cons_zero, List.getElem?_cons_succ]; rfl) (fun K hK => ?_) (AllReadyH.cons (by simp only [List.getElem?_toArray, List.getElem?_cons_zero, List.getElem?_cons_succ]; rfl) (fun K hK => ?_) AllReadyH.nil)
                    · skip
                      rw [if_pos (by rfl)]
                      have c4 := C4.out _ HAT2.out
                      go_simp
                      refine hK.out _ _ trivial (fun hHeld => ?_)
                      clear hK K
                      try simp only [Act.put, List.setIfInBounds_toArray, List.set_cons_zero, List.set_cons_succ]
                      clear c4
                      refine wpAnyH_ready (rs := [19]) (by kernel_rfl) (by simp) ?_
                      refine AllReadyH.cons (by simp only [List.getElem?_toArray, List.getElem?_cons_zero, List.getElem?_cons_succ]; rfl) (fun K hK => ?_) AllReadyH.nil
                      rw [if_pos (by rfl)]
                      refine wp_slice1 24 48 (.tmp 78) rfl cs rfl iF (.agg zP.toArray) Tryz.underlying24 HIF.out.1 HIF.out.2.1 HL7.out HL5.out HL6.out ?_
                      obtain ⟨w3, hw3⟩ : ∃ w3, w3 = w2.alloc (.cells cs.toArray 48) := ⟨_, rfl⟩
                      have BW2 : Hid (Below w.heap.size w w2) := Lib.hid (HF.out.below.drew.trans (B2.out.mono HF.out.below.size))
                      have HAT3 : Hid (w3.heap[p]? = some (.cells (opL 1 0 0 0 Ax i cx A5 j c5).toArray 26 (0, 0))) := Lib.hid (by rw [hw3]; exact heap_old HAT2.out)
                      have CA : Hid (∀ j u, cs[j]? = some u → w3.cell? ((⟨w2.heap.size, 0, none⟩ : Addr).add j) = some u) := Lib.hid fun j u hu => by
                        rw [Go.WideShapes.add_plain, Nat.zero_add, hw3]
                        exact block_cell (heap_new w2 _) j u (by simpa using hu)
                      have ST3 : Hid (∀ k, k < wr.heap.size → ∀ o, wr.heap[k]? = some o → w3.heap[k]? = some o) := Lib.hid fun k hk o ho => by rw [hw3]; exact heap_old ((B2.out.block k (heap_lt ho)).trans ho)
                      have RW3 : Hid (w3.ownsRow w.heap.size 48 35 (.slice A5 j c5) j (flatS (fun i => cellsP (P i)) j)) := Lib.hid (own_stays HF.out.r2 ST3.out)
                      have RN3 : Hid (w3.ownsRow w.heap.size 53 36 (.slice Ax i cx) i (flatS (fun i => cellsF (I i)) i)) := Lib.hid (own_stays HF.out.r1 ST3.out)
                      have BW3 : Hid (Below w.heap.size w w3) := Lib.hid (by rw [hw3]; exact BW2.out.alloc BW2.out.size _)
                      rw [← hw3]
                      clear hw3
                      refine hK.out _ _ trivial (fun hHeld => ?_)
                      clear hK K
                      try simp only [Act.put, List.setIfInBounds_toArray, List.set_cons_zero, List.set_cons_succ]
                      refine wpAnyH_ready (rs := [20]) (by kernel_rfl) (by simp) ?_
                      refine AllReadyH.cons (by simp only [List.getElem?_toArray, List.getElem?_cons_zero, List.getElem?_cons_succ]; rfl) (fun K hK => ?_) AllReadyH.nil
                      rw [if_pos (by rfl)]
                      refine wp_append_own w3 (.tmp 61) (.tmp 79) 24 rfl w.heap.size 48 iF (.agg zP.toArray) 35 56 Tryz.underlying24 HIF.out.1 HIF.out.2.1 HIF.out.2.2.1 HIF.out.2.2.2 rfl (by decide) (.slice A5 j c5) j (flatS (fun i => cellsP (P i)) j) rfl RW3.out ⟨w2.heap.size, 0, none⟩ 1 1 cs rfl HL36.out CA.out HON.out (by unfold maxLen; omega) (by omega) BW3.out.size (fun v8 w4 ho9 hg9 _ => ?_)
                      rw [HFL.out] at ho9
                      have HAT4 := Lib.hid ((hg9.block p (heap_lt HAT3.out) (fun e => row_ne_cells RW3.out HAT3.out (by decide) e.symm)).trans HAT3.out)
                      have RN4 := Lib.hid ((Keeps.grown (S := fun k => (Value.slice A5 j c5).ownBlock = some k) hg9 fun _ e => e).row RN3.out fun k h1 h2 => own_ne RN3.out RW3.out (by decide) h1 h2)
                      have BW4 := Lib.hid (BW3.out.grown hg9 BW3.out.size (fun k e => (RW3.out.lt k e).1))
                      have HRS4 : Hid (w4.heap[q]? = some (.cells zOp.toArray 26 (0, 0))) := Lib.hid (by
                        have h3 := ST3.out q (heap_lt HF.out.res) _ HF.out.res
                        exact (hg9.block q (heap_lt h3) (fun e => row_ne_cells RW3.out h3 (by decide) e.symm)).trans h3)
                      obtain ⟨A8, c8, rfl⟩ := row_shapeS ho9
                      have RW4 := Lib.hid ho9
                      clear ho9 hg9
                      refine hK.out _ _ trivial (fun hHeld => ?_)
                      clear hK K
                      try simp only [Act.put, List.setIfInBounds_toArray, List.set_cons_zero, List.set_cons_succ]
                      refine wpAnyH_take (i := 21) (v := ?_) (by simp only [List.getElem?_toArray, List.getElem?_cons_zero, List.getElem?_cons_succ]; rfl) (by kernel_rfl) (by kernel_rfl) (by kernel_rfl) (by intro _ _ _ h; exact h) (Or.inl ⟨by rfl, ?_⟩) hHeld ?_
                      rotate_left
                      · (intro w hSw; (try dsimp only at hSw); go_simp; try with_reducible rfl)
                      try simp only [Act.put, List.setIfInBounds_toArray, List.set_cons_zero, List.set_cons_succ]
                      refine wpAnyH_ready (rs := [22]) (by kernel_rfl) (by simp) ?_
                      refine AllReadyH.cons (by simp only [List.getElem?_toArray, List.getElem?_cons_zero, List.getElem?_cons_succ]; rfl) (fun K hK => ?_) AllReadyH.nil
                      rw [if_pos (by rfl)]
                      have c4 := C4.out _ HAT4.out
                      have f4 := frozen_of_row w4 p 5 _ _ HAT4.out
                      go_simp
                      refine hK.out _ _ trivial (fun hHeld => ?_)
                      clear hK K
                      try simp only [Act.put, List.setIfInBounds_toArray, List.set_cons_zero, List.set_cons_succ]
                      refine wpAnyH_done (by kernel_rfl) ?_ _
                      clear hHeld
                      have HF5 : Hid (Half w (w4.setCell ⟨p, 5, none⟩ (.slice A8 (j + 1) c8)) p q ⟨1, 0, 0, 0, [], []⟩ Ax i cx I A8 (j + 1) c8 P) := Lib.hid ⟨by
                          have := set_blk (o := 5) (v := .slice A8 (j + 1) c8) HAT4.out
                          exact this, by rw [heap_setCell_other _ _ _ _ (by have := HPQ.out; show q ≠ p; omega)]; exact HRS4.out,
                        (Keeps.setCell (fun k => k = p) w4 ⟨p, 5, none⟩ (.slice A8 (j + 1) c8) rfl).row RN4.out (fun k h1 h2 => row_ne_cells RN4.out HAT4.out (by decide) (h2 ▸ h1)),
                        (Keeps.setCell (fun k => k = p) w4 ⟨p, 5, none⟩ (.slice A8 (j + 1) c8) rfl).row RW4.out (fun k h1 h2 => row_ne_cells RW4.out HAT4.out (by decide) (h2 ▸ h1)),
                        BW4.out.setCell (by have := HPQ.out; have := HQ.out; show w.heap.size ≤ p; omega) _⟩
                      clear HAT HAr HAT2 HAr2 B2 HAT3 CA ST3 RW3 RN3 BW3 HAT4 BW4 HRS4 RW4 RN4 c4 f4 BW2
                      go_wp2_with fail
                      go_roundw
                      case rel => exact ⟨j + 1, z + 36, y - 1, by omega, by have := HZ.out; omega, by have := HY.out; omega, by go_num, by go_num, A8, c8, HF5.out⟩
                      case measure => simp [intOf]; omega
                    · skip
                      rw [if_pos (by rfl)]
                      refine wp_slice1 24 48 (.tmp 78) rfl cs rfl iF (.agg zP.toArray) Tryz.underlying24 HIF.out.1 HIF.out.2.1 HL7.out HL5.out HL6.out ?_
                      obtain ⟨w3, hw3⟩ : ∃ w3, w3 = w2.alloc (.cells cs.toArray 48) := ⟨_, rfl⟩
                      have BW2 : Hid (Below w.heap.size w w2) := Lib.hid (HF.out.below.drew.trans (B2.out.mono HF.out.below.size))
                      have HAT3 : Hid (w3.heap[p]? = some (.cells (opL 1 0 0 0 Ax i cx A5 j c5).toArray 26 (0, 0))) := Lib.hid (by rw [hw3]; exact heap_old HAT2.out)
                      have CA : Hid (∀ j u, cs[j]? = some u → w3.cell? ((⟨w2.heap.size, 0, none⟩ : Addr).add j) = some u) := Lib.hid fun j u hu => by
                        rw [Go.WideShapes.add_plain, Nat.zero_add, hw3]
                        exact block_cell (heap_new w2 _) j u (by simpa using hu)
                      have ST3 : Hid (∀ k, k < wr.heap.size → ∀ o, wr.heap[k]? = some o → w3.heap[k]? = some o) := Lib.hid fun k hk o ho => by rw [hw3]; exact heap_old ((B2.out.block k (heap_lt ho)).trans ho)
                      have RW3 : Hid (w3.ownsRow w.heap.size 48 35 (.slice A5 j c5) j (flatS (fun i => cellsP (P i)) j)) := Lib.hid (own_stays HF.out.r2 ST3.out)
                      have RN3 : Hid (w3.ownsRow w.heap.size 53 36 (.slice Ax i cx) i (flatS (fun i => cellsF (I i)) i)) := Lib.hid (own_stays HF.out.r1 ST3.out)
                      have BW3 : Hid (Below w.heap.size w w3) := Lib.hid (by rw [hw3]; exact BW2.out.alloc BW2.out.size _)
                      rw [← hw3]
                      clear hw3
                      refine hK.out _ _ trivial (fun hHeld => ?_)
                      clear hK K
                      try simp only [Act.put, List.setIfInBounds_toArray, List.set_cons_zero, List.set_cons_succ]
                      refine wpAnyH_ready (rs := [1]) (by kernel_rfl) (by simp) ?_
                      refine AllReadyH.cons (by simp only [List.getElem?_toArray, List.getElem?_cons_zero, List.getElem?_cons_succ]; rfl) (fun K hK => ?_) AllReadyH.nil
                      rw [if_pos (by rfl)]
                      have c4 := C4.out _ HAT3.out
                      go_simp
                      refine hK.out _ _ trivial (fun hHeld => ?_)
                      clear hK K
                      try simp only [Act.put, List.setIfInBounds_toArray, List.set_cons_zero, List.set_cons_succ]
                      clear c4
                      refine wpAnyH_ready (rs := [20]) (by kernel_rfl) (by simp) ?_
                      refine AllReadyH.cons (by simp only [List.getElem?_toArray, List.getElem?_cons_zero, List.getElem?_cons_succ]; rfl) (fun K hK => ?_) AllReadyH.nil
                      rw [if_pos (by rfl)]
                      refine wp_append_own w3 (.tmp 61) (.tmp 79) 24 rfl w.heap.size 48 iF (.agg zP.toArray) 35 56 Tryz.underlying24 HIF.out.1 HIF.out.2.1 HIF.out.2.2.1 HIF.out.2.2.2 rfl (by decide) (.slice A5 j c5) j (flatS (fun i => cellsP (P i)) j) rfl RW3.out ⟨w2.heap.size, 0, none⟩ 1 1 cs rfl HL36.out CA.out HON.out (by unfold maxLen; omega) (by omega) BW3.out.size (fun v8 w4 ho9 hg9 _ => ?_)
                      rw [HFL.out] at ho9
                      have HAT4 := Lib.hid ((hg9.block p (heap_lt HAT3.out) (fun e => row_ne_cells RW3.out HAT3.out (by decide) e.symm)).trans HAT3.out)
                      have RN4 := Lib.hid ((Keeps.grown (S := fun k => (Value.slice A5 j c5).ownBlock = some k) hg9 fun _ e => e).row RN3.out fun k h1 h2 => own_ne RN3.out RW3.out (by decide) h1 h2)
                      have BW4 := Lib.hid (BW3.out.grown hg9 BW3.out.size (fun k e => (RW3.out.lt k e).1))
                      have HRS4 : Hid (w4.heap[q]? = some (.cells zOp.toArray 26 (0, 0))) := Lib.hid (by
                        have h3 := ST3.out q (heap_lt HF.out.res) _ HF.out.res
                        exact (hg9.block q (heap_lt h3) (fun e => row_ne_cells RW3.out h3 (by decide) e.symm)).trans h3)
                      obtain ⟨A8, c8, rfl⟩ := row_shapeS ho9
                      have RW4 := Lib.hid ho9
                      clear ho9 hg9
                      refine hK.out _ _ trivial (fun hHeld => ?_)
                      clear hK K
                      try simp only [Act.put, List.setIfInBounds_toArray, List.set_cons_zero, List.set_cons_succ]
                      refine wpAnyH_take (i := 21) (v := ?_) (by simp only [List.getElem?_toArray, List.getElem?_cons_zero, List.getElem?_cons_succ]; rfl) (by kernel_rfl) (by kernel_rfl) (by kernel_rfl) (by intro _ _ _ h; exact h) (Or.inl ⟨by rfl, ?_⟩) hHeld ?_
                      rotate_left
                      · (intro w hSw; (try dsimp only at hSw); go_simp; try with_reducible rfl)
                      try simp only [Act.put, List.setIfInBounds_toArray, List.set_cons_zero, List.set_cons_succ]
                      refine wpAnyH_ready (rs := [22]) (by kernel_rfl) (by simp) ?_
                      refine AllReadyH.cons (by simp only [List.getElem?_toArray, List.getElem?_cons_zero, List.getElem?_cons_succ]; rfl) (fun K hK => ?_) AllReadyH.nil
                      rw [if_pos (by rfl)]
                      have c4 := C4.out _ HAT4.out
                      have f4 := frozen_of_row w4 p 5 _ _ HAT4.out
                      go_simp
                      refine hK.out _ _ trivial (fun hHeld => ?_)
                      clear hK K
                      try simp only [Act.put, List.setIfInBounds_toArray, List.set_cons_zero, List.set_cons_succ]
                      refine wpAnyH_done (by kernel_rfl) ?_ _
                      clear hHeld
                      have HF5 : Hid (Half w (w4.setCell ⟨p, 5, none⟩ (.slice A8 (j + 1) c8)) p q ⟨1, 0, 0, 0, [], []⟩ Ax i cx I A8 (j + 1) c8 P) := Lib.hid ⟨by
                          have := set_blk (o := 5) (v := .slice A8 (j + 1) c8) HAT4.out
                          exact this, by rw [heap_setCell_other _ _ _ _ (by have := HPQ.out; show q ≠ p; omega)]; exact HRS4.out,
                        (Keeps.setCell (fun k => k = p) w4 ⟨p, 5, none⟩ (.slice A8 (j + 1) c8) rfl).row RN4.out (fun k h1 h2 => row_ne_cells RN4.out HAT4.out (by decide) (h2 ▸ h1)),
                        (Keeps.setCell (fun k => k = p) w4 ⟨p, 5, none⟩ (.slice A8 (j + 1) c8) rfl).row RW4.out (fun k h1 h2 => row_ne_cells RW4.out HAT4.out (by decide) (h2 ▸ h1)),
                        BW4.out.setCell (by have := HPQ.out; have := HQ.out; show w.heap.size ≤ p; omega) _⟩
                      clear HAT HAr HAT2 HAr2 B2 HAT3 CA ST3 RW3 RN3 BW3 HAT4 BW4 HRS4 RW4 RN4 c4 f4 BW2
                      go_wp2_with fail
                      go_roundw
                      case rel => exact ⟨j + 1, z + 36, y - 1, by omega, by have := HZ.out; omega, by have := HY.out; omega, by go_num, by go_num, A8, c8, HF5.out⟩
                      case measure => simp [intOf]; omega
          · obtain rfl : j = M := by omega
            obtain rfl : y = 0 := by omega
            have t3 : decide ((0 : Int) < ((0 : Nat) : Int)) = false := by decide
            have HKD : Hid ((0 : Int) ≤ 1 ∧ (1 : Int) < 256) := Lib.hid (by decide)
            clear hz hy
            go_upto_region 20 with fail
            have RA : Hid (wr.rangeAt p 0 (opL 1 0 0 0 Ax i cx A5 j c5)) := Lib.hid (range_of HF.out.at_)
            obtain ⟨_, _, e1, ha1, -⟩ := srow_arr (wideF I) HF.out.r1
            cases e1
            obtain ⟨_, _, e1, ha2, -⟩ := srow_arr (wideP P) HF.out.r2
            cases e1
            have HA1 := Lib.hid ha1
            have HA2 := Lib.hid ha2
            clear ha1 ha2
            go_wp2_with (refine wpList_load_midG rfl 26 (.tmp 4) rfl p 0 rfl (opL 1 0 0 0 Ax i cx A5 j c5) _ RA.out Tryz.underlying26 rfl sizeOp ?_)
            refine (rput15 I P 1 0 0 0 Ax i cx A5 j c5 wr (by omega) (by omega) HKD.out HA1.out HA2.out).mono ?_
            rintro e w4 h4
            have ZO := Lib.hid (opL_one 0 0 0 0 none 0 0 none 0 0)
            have b4 := h4.1
            have B4 := Lib.hid (HF.out.below.trans (b4.mono HF.out.below.size))
            have Z4 := Lib.hid ((b4.block q (heap_lt HF.out.res)).trans HF.out.res)
            have P4 := Lib.hid ((b4.block p (heap_lt HF.out.at_)).trans HF.out.at_)
            have O1 := Lib.hid ((Keeps.fresh (S := fun _ => False) b4).row HF.out.r1 fun _ _ h => h)
            have O2 := Lib.hid ((Keeps.fresh (S := fun _ => False) b4).row HF.out.r2 fun _ _ h => h)
            have X4 := Lib.hid ((HA.out.below B4.out (Nat.le_refl _)).more B4.out.size)
            clear b4 HA1 HA2 RA
            cases hr : rightB (opR 1 0 0 0 I i P j) with
            | false =>
              have HD : Hid (dec l = none) := Lib.hid (by rw [dec_ref HB.out, HO.out, if_neg (fun h => by rw [hr] at h; exact absurd h.1 (by decide))])
              obtain ⟨rfl, -⟩ := put_no h4 hr
              clear h4 hr HF
              go_wp2_with (first | (refine wpList_buildG rfl 26 [] rfl [] rfl _ (buildOp0 _) ?_) | (refine wpList_store_segK rfl 26 (.tmp 2) (.tmp 106) rfl q 0 rfl zOp rfl zOp 26 Z4.out sizeOp (Nat.le_refl _) ZO.out rfl ?_; intro w9 h9 k9 s9))
              rw [splice_whole _ _ rfl] at h9
              have hz : w9.rangeAt q 0 zOp := fun j v hj => block_cell h9 _ v (by rw [Nat.zero_add]; simpa using hj)
              refine bodyPost_ret (results_cell_mid rfl _ _ q _ _ rfl hz Tryz.underlying26 rfl sizeOp) rfl ?_
              exact ⟨B4.out.trans (k9.below (fun i e => by have e : i = q := e; have := HQ.out; omega) B4.out.size), .inl ⟨HD.out, rfl⟩⟩
            | true =>
              obtain ⟨l2, hl2⟩ : ∃ l2, enc (opR 1 0 0 0 I i P j) = l2 := ⟨_, rfl⟩
              obtain ⟨N2, hN2⟩ : ∃ N2, l2.length = N2 := ⟨_, rfl⟩
              have HB2 : Hid (Byt l2) := Lib.hid (hl2 ▸ enc_byt _ _ _ _ _ _ _ _)
              obtain ⟨A9, c9, rfl, -, a9, -, -, -⟩ := put_yes h4 hr hl2 hN2
              have cv1 := conv_arr c9 a9 hN2
              have cv2 := conv_arr c X4.out HL.out
              have HR := Lib.hid hr
              have HL2 := Lib.hid hl2
              obtain ⟨sa, hsa⟩ : ∃ s, s = strOfNums l2 := ⟨_, rfl⟩
              obtain ⟨sb, hsb⟩ : ∃ s, s = strOfNums l := ⟨_, rfl⟩
              rw [← hsa] at cv1
              rw [← hsb] at cv2
              have HSA := Lib.hid hsa
              have HSB := Lib.hid hsb
              clear h4 hr HF hl2 hN2 a9 hsa hsb
              by_cases heq : l2 = l
              · have HD : Hid (dec l = some (opR 1 0 0 0 I i P j)) := Lib.hid (by rw [dec_ref HB.out, HO.out, if_pos ⟨HR.out, HL2.out.trans heq⟩])
                have tq : (sa.toList == sb.toList) = true := by rw [HSA.out, HSB.out, heq]; exact beq_self_eq_true _
                have RA8 : Hid (w4.rangeAt p 0 (opL 1 0 0 0 Ax i cx A5 j c5)) := Lib.hid (range_of P4.out)
                have OO := Lib.hid (opL_one 1 0 0 0 Ax i cx A5 j c5)
                have SPL : Hid (splice zOp 0 (opL 1 0 0 0 Ax i cx A5 j c5) = (opL 1 0 0 0 Ax i cx A5 j c5)) := Lib.hid (splice_whole _ _ rfl)
                clear heq
                go_wp2_with (first | (refine wpList_load_midG rfl 26 (.tmp 4) rfl p 0 rfl (opL 1 0 0 0 Ax i cx A5 j c5) _ RA8.out Tryz.underlying26 rfl sizeOp ?_) | (refine wpList_store_segK rfl 26 (.tmp 2) (.tmp 107) rfl q 0 rfl (opL 1 0 0 0 Ax i cx A5 j c5) rfl zOp 26 Z4.out sizeOp (Nat.le_refl _) OO.out rfl ?_; intro w9 h9 k9 s9))
                rw [SPL.out] at h9
                have hz : w9.rangeAt q 0 (opL 1 0 0 0 Ax i cx A5 j c5) := fun j v hj => block_cell h9 _ v (by rw [Nat.zero_add]; simpa using hj)
                refine bodyPost_ret (results_cell_mid rfl _ _ q _ _ rfl hz Tryz.underlying26 rfl sizeOp) rfl ?_
                refine got_rows (B4.out.trans (k9.below (fun i e => by have e : i = q := e; have := HQ.out; omega) B4.out.size)) HD.out (by omega) (by omega) ?_ ?_
                · exact k9.row O1.out fun k h1 h2 => row_ne_cells O1.out Z4.out (by decide) (h2 ▸ h1)
                · exact k9.row O2.out fun k h1 h2 => row_ne_cells O2.out Z4.out (by decide) (h2 ▸ h1)
              · have HD : Hid (dec l = none) := Lib.hid (by rw [dec_ref HB.out, HO.out, if_neg (fun h => heq (HL2.out.symm.trans h.2))])
                have tq : (sa.toList == sb.toList) = false := by
                  rw [HSA.out, HSB.out, Lib.strOfNums_toList, Lib.strOfNums_toList, beq_eq_false_iff_ne]
                  exact fun h => heq (str_inj HB2.out HB.out h)
                clear heq
                go_wp2_with (first | (refine wpList_buildG rfl 26 [] rfl [] rfl _ (buildOp0 _) ?_) | (refine wpList_store_segK rfl 26 (.tmp 2) (.tmp 106) rfl q 0 rfl zOp rfl zOp 26 Z4.out sizeOp (Nat.le_refl _) ZO.out rfl ?_; intro w9 h9 k9 s9))
                rw [splice_whole _ _ rfl] at h9
                have hz : w9.rangeAt q 0 zOp := fun j v hj => block_cell h9 _ v (by rw [Nat.zero_add]; simpa using hj)
                refine bodyPost_ret (results_cell_mid rfl _ _ q _ _ rfl hz Tryz.underlying26 rfl sizeOp) rfl ?_
                exact ⟨B4.out.trans (k9.below (fun i e => by have e : i = q := e; have := HQ.out; omega) B4.out.size), .inl ⟨HD.out, rfl⟩⟩
  have t1 : (k == 1) = false := by simp [k1']
  have HKD : Hid (0 ≤ k ∧ k < 256) := Lib.hid ⟨k1, k2⟩
  by_cases k2' : k = 2
  · subst k2'
    have t2 : ((2 : Int) == 2) = true := rfl
    have HO : Hid (refR l = opR 2 (saidR l 1 2) (saidR l 3 2) 0 I0 0 P0 0) := Lib.hid (by
      unfold refR opR
      rw [if_neg (by rw [← HKK.out]; decide), if_pos HKK.out.symm]
      rfl)
    have X1 : Hid (Arr w3 w3.heap.size A n fun j => .int .u8 (l.getD j 0)) := Lib.hid ((HA.out.below HF.out.below (Nat.le_refl _)).more HF.out.below.size)
    go_wp2_with fail
    refine (said49 l A n c 1 2 w3 HL.out hn2 HB.out X1.out (by omega) (by omega)).mono ?_
    rintro e _ ⟨rfl, rfl⟩
    have c4 := block_cell HF.out.at_ 1 _ rfl
    have f4 := frozen_of_row w3 p 1 _ _ HF.out.at_
    clear X1
    go_upto_region 19 with fail
    obtain ⟨w5, hw⟩ : ∃ w9, w9 = w3.setCell ⟨p, 1, none⟩ (.int .i64 (saidR l 1 2)) := ⟨_, rfl⟩
    have HF : Hid (Half w w5 p q ⟨2, saidR l 1 2, 0, 0, [], []⟩ none 0 0 I0 none 0 0 P0) := Lib.hid (by
      rw [hw]
      exact ⟨by
        have := set_blk (o := 1) (v := .int .i64 (saidR l 1 2)) HF.out.at_
        exact this, by rw [heap_setCell_other _ _ _ _ (by have := HPQ.out; show q ≠ p; omega)]; exact HF.out.res, World.ownsRow_nil _ _ _ _, World.ownsRow_nil _ _ _ _, HF.out.below.setCell (by have := HPQ.out; have := HQ.out; show w.heap.size ≤ p; omega) _⟩)
    rw [← hw]
    clear hw c4 f4
    have X2 : Hid (Arr w5 w5.heap.size A n fun j => .int .u8 (l.getD j 0)) := Lib.hid ((HA.out.below HF.out.below (Nat.le_refl _)).more HF.out.below.size)
    go_wp2_with fail
    refine (said49 l A n c 3 2 w5 HL.out hn2 HB.out X2.out (by omega) (by omega)).mono ?_
    rintro e _ ⟨rfl, rfl⟩
    have c4 := block_cell HF.out.at_ 2 _ rfl
    have f4 := frozen_of_row w5 p 2 _ _ HF.out.at_
    clear X2
    go_upto_region 20 with fail
    obtain ⟨w6, hw⟩ : ∃ w9, w9 = w5.setCell ⟨p, 2, none⟩ (.int .i64 (saidR l 3 2)) := ⟨_, rfl⟩
    have HF : Hid (Half w w6 p q ⟨2, saidR l 1 2, saidR l 3 2, 0, [], []⟩ none 0 0 I0 none 0 0 P0) := Lib.hid (by
      rw [hw]
      exact ⟨by
        have := set_blk (o := 2) (v := .int .i64 (saidR l 3 2)) HF.out.at_
        exact this, by rw [heap_setCell_other _ _ _ _ (by have := HPQ.out; show q ≠ p; omega)]; exact HF.out.res, World.ownsRow_nil _ _ _ _, World.ownsRow_nil _ _ _ _, HF.out.below.setCell (by have := HPQ.out; have := HQ.out; show w.heap.size ≤ p; omega) _⟩)
    rw [← hw]
    clear hw c4 f4
    have RA : Hid (w6.rangeAt p 0 (opL 2 (saidR l 1 2) (saidR l 3 2) 0 none 0 0 none 0 0)) := Lib.hid (range_of HF.out.at_)
    obtain ⟨_, _, e1, ha1, -⟩ := srow_arr (wideF I0) HF.out.r1
    cases e1
    obtain ⟨_, _, e1, ha2, -⟩ := srow_arr (wideP P0) HF.out.r2
    cases e1
    have HA1 := Lib.hid ha1
    have HA2 := Lib.hid ha2
    clear ha1 ha2
    go_wp2_with (refine wpList_load_midG rfl 26 (.tmp 4) rfl p 0 rfl (opL 2 (saidR l 1 2) (saidR l 3 2) 0 none 0 0 none 0 0) _ RA.out Tryz.underlying26 rfl sizeOp ?_)
    refine (rput15 I0 P0 2 (saidR l 1 2) (saidR l 3 2) 0 none 0 0 none 0 0 w6 (by omega) (by omega) HKD.out HA1.out HA2.out).mono ?_
    rintro e w4 h4
    have ZO := Lib.hid (opL_one 0 0 0 0 none 0 0 none 0 0)
    have b4 := h4.1
    have B4 := Lib.hid (HF.out.below.trans (b4.mono HF.out.below.size))
    have Z4 := Lib.hid ((b4.block q (heap_lt HF.out.res)).trans HF.out.res)
    have P4 := Lib.hid ((b4.block p (heap_lt HF.out.at_)).trans HF.out.at_)
    have O1 := Lib.hid ((Keeps.fresh (S := fun _ => False) b4).row HF.out.r1 fun _ _ h => h)
    have O2 := Lib.hid ((Keeps.fresh (S := fun _ => False) b4).row HF.out.r2 fun _ _ h => h)
    have X4 := Lib.hid ((HA.out.below B4.out (Nat.le_refl _)).more B4.out.size)
    clear b4 HA1 HA2 RA
    cases hr : rightB (opR 2 (saidR l 1 2) (saidR l 3 2) 0 I0 0 P0 0) with
    | false =>
      have HD : Hid (dec l = none) := Lib.hid (by rw [dec_ref HB.out, HO.out, if_neg (fun h => by rw [hr] at h; exact absurd h.1 (by decide))])
      obtain ⟨rfl, -⟩ := put_no h4 hr
      clear h4 hr HF
      go_wp2_with (first | (refine wpList_buildG rfl 26 [] rfl [] rfl _ (buildOp0 _) ?_) | (refine wpList_store_segK rfl 26 (.tmp 2) (.tmp 106) rfl q 0 rfl zOp rfl zOp 26 Z4.out sizeOp (Nat.le_refl _) ZO.out rfl ?_; intro w9 h9 k9 s9))
      rw [splice_whole _ _ rfl] at h9
      have hz : w9.rangeAt q 0 zOp := fun j v hj => block_cell h9 _ v (by rw [Nat.zero_add]; simpa using hj)
      refine bodyPost_ret (results_cell_mid rfl _ _ q _ _ rfl hz Tryz.underlying26 rfl sizeOp) rfl ?_
      exact ⟨B4.out.trans (k9.below (fun i e => by have e : i = q := e; have := HQ.out; omega) B4.out.size), .inl ⟨HD.out, rfl⟩⟩
    | true =>
      obtain ⟨l2, hl2⟩ : ∃ l2, enc (opR 2 (saidR l 1 2) (saidR l 3 2) 0 I0 0 P0 0) = l2 := ⟨_, rfl⟩
      obtain ⟨N2, hN2⟩ : ∃ N2, l2.length = N2 := ⟨_, rfl⟩
      have HB2 : Hid (Byt l2) := Lib.hid (hl2 ▸ enc_byt _ _ _ _ _ _ _ _)
      obtain ⟨A9, c9, rfl, -, a9, -, -, -⟩ := put_yes h4 hr hl2 hN2
      have cv1 := conv_arr c9 a9 hN2
      have cv2 := conv_arr c X4.out HL.out
      have HR := Lib.hid hr
      have HL2 := Lib.hid hl2
      obtain ⟨sa, hsa⟩ : ∃ s, s = strOfNums l2 := ⟨_, rfl⟩
      obtain ⟨sb, hsb⟩ : ∃ s, s = strOfNums l := ⟨_, rfl⟩
      rw [← hsa] at cv1
      rw [← hsb] at cv2
      have HSA := Lib.hid hsa
      have HSB := Lib.hid hsb
      clear h4 hr HF hl2 hN2 a9 hsa hsb
      by_cases heq : l2 = l
      · have HD : Hid (dec l = some (opR 2 (saidR l 1 2) (saidR l 3 2) 0 I0 0 P0 0)) := Lib.hid (by rw [dec_ref HB.out, HO.out, if_pos ⟨HR.out, HL2.out.trans heq⟩])
        have tq : (sa.toList == sb.toList) = true := by rw [HSA.out, HSB.out, heq]; exact beq_self_eq_true _
        have RA8 : Hid (w4.rangeAt p 0 (opL 2 (saidR l 1 2) (saidR l 3 2) 0 none 0 0 none 0 0)) := Lib.hid (range_of P4.out)
        have OO := Lib.hid (opL_one 2 (saidR l 1 2) (saidR l 3 2) 0 none 0 0 none 0 0)
        have SPL : Hid (splice zOp 0 (opL 2 (saidR l 1 2) (saidR l 3 2) 0 none 0 0 none 0 0) = (opL 2 (saidR l 1 2) (saidR l 3 2) 0 none 0 0 none 0 0)) := Lib.hid (splice_whole _ _ rfl)
        clear heq
        go_wp2_with (first | (refine wpList_load_midG rfl 26 (.tmp 4) rfl p 0 rfl (opL 2 (saidR l 1 2) (saidR l 3 2) 0 none 0 0 none 0 0) _ RA8.out Tryz.underlying26 rfl sizeOp ?_) | (refine wpList_store_segK rfl 26 (.tmp 2) (.tmp 107) rfl q 0 rfl (opL 2 (saidR l 1 2) (saidR l 3 2) 0 none 0 0 none 0 0) rfl zOp 26 Z4.out sizeOp (Nat.le_refl _) OO.out rfl ?_; intro w9 h9 k9 s9))
        rw [SPL.out] at h9
        have hz : w9.rangeAt q 0 (opL 2 (saidR l 1 2) (saidR l 3 2) 0 none 0 0 none 0 0) := fun j v hj => block_cell h9 _ v (by rw [Nat.zero_add]; simpa using hj)
        refine bodyPost_ret (results_cell_mid rfl _ _ q _ _ rfl hz Tryz.underlying26 rfl sizeOp) rfl ?_
        refine got_rows (B4.out.trans (k9.below (fun i e => by have e : i = q := e; have := HQ.out; omega) B4.out.size)) HD.out (by omega) (by omega) ?_ ?_
        · exact k9.row O1.out fun k h1 h2 => row_ne_cells O1.out Z4.out (by decide) (h2 ▸ h1)
        · exact k9.row O2.out fun k h1 h2 => row_ne_cells O2.out Z4.out (by decide) (h2 ▸ h1)
      · have HD : Hid (dec l = none) := Lib.hid (by rw [dec_ref HB.out, HO.out, if_neg (fun h => heq (HL2.out.symm.trans h.2))])
        have tq : (sa.toList == sb.toList) = false := by
          rw [HSA.out, HSB.out, Lib.strOfNums_toList, Lib.strOfNums_toList, beq_eq_false_iff_ne]
          exact fun h => heq (str_inj HB2.out HB.out h)
        clear heq
        go_wp2_with (first | (refine wpList_buildG rfl 26 [] rfl [] rfl _ (buildOp0 _) ?_) | (refine wpList_store_segK rfl 26 (.tmp 2) (.tmp 106) rfl q 0 rfl zOp rfl zOp 26 Z4.out sizeOp (Nat.le_refl _) ZO.out rfl ?_; intro w9 h9 k9 s9))
        rw [splice_whole _ _ rfl] at h9
        have hz : w9.rangeAt q 0 zOp := fun j v hj => block_cell h9 _ v (by rw [Nat.zero_add]; simpa using hj)
        refine bodyPost_ret (results_cell_mid rfl _ _ q _ _ rfl hz Tryz.underlying26 rfl sizeOp) rfl ?_
        exact ⟨B4.out.trans (k9.below (fun i e => by have e : i = q := e; have := HQ.out; omega) B4.out.size), .inl ⟨HD.out, rfl⟩⟩
  have t2 : (k == 2) = false := by simp [k2']
  have HO : Hid (refR l = opR k 0 0 (saidR l 1 4) I0 0 P0 0) := Lib.hid (by
    unfold refR opR
    rw [if_neg (by rw [← HKK.out]; exact k1'), if_neg (by rw [← HKK.out]; exact k2'), ← HKK.out]
    rfl)
  have X3 : Hid (Arr w3 w3.heap.size A n fun j => .int .u8 (l.getD j 0)) := Lib.hid ((HA.out.below HF.out.below (Nat.le_refl _)).more HF.out.below.size)
  go_wp2_with fail
  refine (said49 l A n c 1 4 w3 HL.out hn2 HB.out X3.out (by omega) (by omega)).mono ?_
  rintro e _ ⟨rfl, rfl⟩
  have c4 := block_cell HF.out.at_ 3 _ rfl
  have f4 := frozen_of_row w3 p 3 _ _ HF.out.at_
  clear X3
  go_upto_region 20 with fail
  obtain ⟨w5, hw⟩ : ∃ w9, w9 = w3.setCell ⟨p, 3, none⟩ (.int .i64 (saidR l 1 4)) := ⟨_, rfl⟩
  have HF : Hid (Half w w5 p q ⟨k, 0, 0, saidR l 1 4, [], []⟩ none 0 0 I0 none 0 0 P0) := Lib.hid (by
    rw [hw]
    exact ⟨by
      have := set_blk (o := 3) (v := .int .i64 (saidR l 1 4)) HF.out.at_
      exact this, by rw [heap_setCell_other _ _ _ _ (by have := HPQ.out; show q ≠ p; omega)]; exact HF.out.res, World.ownsRow_nil _ _ _ _, World.ownsRow_nil _ _ _ _, HF.out.below.setCell (by have := HPQ.out; have := HQ.out; show w.heap.size ≤ p; omega) _⟩)
  rw [← hw]
  clear hw c4 f4
  have RA : Hid (w5.rangeAt p 0 (opL k 0 0 (saidR l 1 4) none 0 0 none 0 0)) := Lib.hid (range_of HF.out.at_)
  obtain ⟨_, _, e1, ha1, -⟩ := srow_arr (wideF I0) HF.out.r1
  cases e1
  obtain ⟨_, _, e1, ha2, -⟩ := srow_arr (wideP P0) HF.out.r2
  cases e1
  have HA1 := Lib.hid ha1
  have HA2 := Lib.hid ha2
  clear ha1 ha2
  go_wp2_with (refine wpList_load_midG rfl 26 (.tmp 4) rfl p 0 rfl (opL k 0 0 (saidR l 1 4) none 0 0 none 0 0) _ RA.out Tryz.underlying26 rfl sizeOp ?_)
  refine (rput15 I0 P0 k 0 0 (saidR l 1 4) none 0 0 none 0 0 w5 (by omega) (by omega) HKD.out HA1.out HA2.out).mono ?_
  rintro e w4 h4
  have ZO := Lib.hid (opL_one 0 0 0 0 none 0 0 none 0 0)
  have b4 := h4.1
  have B4 := Lib.hid (HF.out.below.trans (b4.mono HF.out.below.size))
  have Z4 := Lib.hid ((b4.block q (heap_lt HF.out.res)).trans HF.out.res)
  have P4 := Lib.hid ((b4.block p (heap_lt HF.out.at_)).trans HF.out.at_)
  have O1 := Lib.hid ((Keeps.fresh (S := fun _ => False) b4).row HF.out.r1 fun _ _ h => h)
  have O2 := Lib.hid ((Keeps.fresh (S := fun _ => False) b4).row HF.out.r2 fun _ _ h => h)
  have X4 := Lib.hid ((HA.out.below B4.out (Nat.le_refl _)).more B4.out.size)
  clear b4 HA1 HA2 RA
  cases hr : rightB (opR k 0 0 (saidR l 1 4) I0 0 P0 0) with
  | false =>
    have HD : Hid (dec l = none) := Lib.hid (by rw [dec_ref HB.out, HO.out, if_neg (fun h => by rw [hr] at h; exact absurd h.1 (by decide))])
    obtain ⟨rfl, -⟩ := put_no h4 hr
    clear h4 hr HF
    go_wp2_with (first | (refine wpList_buildG rfl 26 [] rfl [] rfl _ (buildOp0 _) ?_) | (refine wpList_store_segK rfl 26 (.tmp 2) (.tmp 106) rfl q 0 rfl zOp rfl zOp 26 Z4.out sizeOp (Nat.le_refl _) ZO.out rfl ?_; intro w9 h9 k9 s9))
    rw [splice_whole _ _ rfl] at h9
    have hz : w9.rangeAt q 0 zOp := fun j v hj => block_cell h9 _ v (by rw [Nat.zero_add]; simpa using hj)
    refine bodyPost_ret (results_cell_mid rfl _ _ q _ _ rfl hz Tryz.underlying26 rfl sizeOp) rfl ?_
    exact ⟨B4.out.trans (k9.below (fun i e => by have e : i = q := e; have := HQ.out; omega) B4.out.size), .inl ⟨HD.out, rfl⟩⟩
  | true =>
    obtain ⟨l2, hl2⟩ : ∃ l2, enc (opR k 0 0 (saidR l 1 4) I0 0 P0 0) = l2 := ⟨_, rfl⟩
    obtain ⟨N2, hN2⟩ : ∃ N2, l2.length = N2 := ⟨_, rfl⟩
    have HB2 : Hid (Byt l2) := Lib.hid (hl2 ▸ enc_byt _ _ _ _ _ _ _ _)
    obtain ⟨A9, c9, rfl, -, a9, -, -, -⟩ := put_yes h4 hr hl2 hN2
    have cv1 := conv_arr c9 a9 hN2
    have cv2 := conv_arr c X4.out HL.out
    have HR := Lib.hid hr
    have HL2 := Lib.hid hl2
    obtain ⟨sa, hsa⟩ : ∃ s, s = strOfNums l2 := ⟨_, rfl⟩
    obtain ⟨sb, hsb⟩ : ∃ s, s = strOfNums l := ⟨_, rfl⟩
    rw [← hsa] at cv1
    rw [← hsb] at cv2
    have HSA := Lib.hid hsa
    have HSB := Lib.hid hsb
    clear h4 hr HF hl2 hN2 a9 hsa hsb
    by_cases heq : l2 = l
    · have HD : Hid (dec l = some (opR k 0 0 (saidR l 1 4) I0 0 P0 0)) := Lib.hid (by rw [dec_ref HB.out, HO.out, if_pos ⟨HR.out, HL2.out.trans heq⟩])
      have tq : (sa.toList == sb.toList) = true := by rw [HSA.out, HSB.out, heq]; exact beq_self_eq_true _
      have RA8 : Hid (w4.rangeAt p 0 (opL k 0 0 (saidR l 1 4) none 0 0 none 0 0)) := Lib.hid (range_of P4.out)
      have OO := Lib.hid (opL_one k 0 0 (saidR l 1 4) none 0 0 none 0 0)
      have SPL : Hid (splice zOp 0 (opL k 0 0 (saidR l 1 4) none 0 0 none 0 0) = (opL k 0 0 (saidR l 1 4) none 0 0 none 0 0)) := Lib.hid (splice_whole _ _ rfl)
      clear heq
      go_wp2_with (first | (refine wpList_load_midG rfl 26 (.tmp 4) rfl p 0 rfl (opL k 0 0 (saidR l 1 4) none 0 0 none 0 0) _ RA8.out Tryz.underlying26 rfl sizeOp ?_) | (refine wpList_store_segK rfl 26 (.tmp 2) (.tmp 107) rfl q 0 rfl (opL k 0 0 (saidR l 1 4) none 0 0 none 0 0) rfl zOp 26 Z4.out sizeOp (Nat.le_refl _) OO.out rfl ?_; intro w9 h9 k9 s9))
      rw [SPL.out] at h9
      have hz : w9.rangeAt q 0 (opL k 0 0 (saidR l 1 4) none 0 0 none 0 0) := fun j v hj => block_cell h9 _ v (by rw [Nat.zero_add]; simpa using hj)
      refine bodyPost_ret (results_cell_mid rfl _ _ q _ _ rfl hz Tryz.underlying26 rfl sizeOp) rfl ?_
      refine got_rows (B4.out.trans (k9.below (fun i e => by have e : i = q := e; have := HQ.out; omega) B4.out.size)) HD.out (by omega) (by omega) ?_ ?_
      · exact k9.row O1.out fun k h1 h2 => row_ne_cells O1.out Z4.out (by decide) (h2 ▸ h1)
      · exact k9.row O2.out fun k h1 h2 => row_ne_cells O2.out Z4.out (by decide) (h2 ▸ h1)
    · have HD : Hid (dec l = none) := Lib.hid (by rw [dec_ref HB.out, HO.out, if_neg (fun h => heq (HL2.out.symm.trans h.2))])
      have tq : (sa.toList == sb.toList) = false := by
        rw [HSA.out, HSB.out, Lib.strOfNums_toList, Lib.strOfNums_toList, beq_eq_false_iff_ne]
        exact fun h => heq (str_inj HB2.out HB.out h)
      clear heq
      go_wp2_with (first | (refine wpList_buildG rfl 26 [] rfl [] rfl _ (buildOp0 _) ?_) | (refine wpList_store_segK rfl 26 (.tmp 2) (.tmp 106) rfl q 0 rfl zOp rfl zOp 26 Z4.out sizeOp (Nat.le_refl _) ZO.out rfl ?_; intro w9 h9 k9 s9))
      rw [splice_whole _ _ rfl] at h9
      have hz : w9.rangeAt q 0 zOp := fun j v hj => block_cell h9 _ v (by rw [Nat.zero_add]; simpa using hj)
      refine bodyPost_ret (results_cell_mid rfl _ _ q _ _ rfl hz Tryz.underlying26 rfl sizeOp) rfl ?_
      exact ⟨B4.out.trans (k9.below (fun i e => by have e : i = q := e; have := HQ.out; omega) B4.out.size), .inl ⟨HD.out, rfl⟩⟩
end Go.Proofs.YthdllbbjajddiaaGreatDoor
