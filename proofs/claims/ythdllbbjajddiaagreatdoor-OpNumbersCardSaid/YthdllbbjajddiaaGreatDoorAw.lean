/- Layer 25 (op): the chapter's examples. -/
import Derived.Test.YthdllbbjajddiaaGreatDoorPp
import Derived.Test.YthdllbbjajddiaaGreatDoorSe
set_option linter.all false
namespace Go.Proofs.YthdllbbjajddiaaGreatDoor
open Go.RowKit Go.Maps Go.WideMaps
theorem bytes_arr {w : World} {base : Nat} {v : Value} {l : List Int} (ho : w.ownsRow base 5 1 v l.length (u8l l)) : ∃ A c, v = .slice A l.length c ∧ Arr w w.heap.size A l.length (fun j => .int .u8 (l.getD j 0)) ∧ l.length ≤ c ∧ (A = none → l.length = 0 ∧ c = 0) := by
  have e : u8l l = (List.range l.length).map fun j => Value.int .u8 (l.getD j 0) := by
    apply List.ext_getElem?
    intro i
    rw [u8l, List.getElem?_map, List.getElem?_map]
    by_cases h : i < l.length
    · rw [List.getElem?_range h, List.getElem?_eq_getElem h]
      show some (Value.int .u8 l[i]) = some (Value.int .u8 (l.getD i 0))
      rw [List.getD_eq_getElem?_getD, List.getElem?_eq_getElem h]; rfl
    · rw [List.getElem?_eq_none (by omega), List.getElem?_eq_none (by simp; omega)]; rfl
  rw [e] at ho
  obtain ⟨A, c, h1, h2, h3, h4, h5⟩ := row_arr ho
  exact ⟨A, c, h1, h2, h3, h5⟩
def I0 : Nat → ElF := fun _ => default
def P0 : Nat → ElP := fun _ => default
theorem buildA1 (u : World) : BuildRun Tryz.prog 26 #[(0, .int .u8 2), (1, .int .i64 258), (2, .int .i64 3)] u (.agg (opL 2 258 3 0 none 0 0 none 0 0).toArray) := ⟨by kernel_rfl⟩
theorem buildA2 (u : World) : BuildRun Tryz.prog 26 #[(0, .int .u8 4), (3, .int .i64 5)] u (.agg (opL 4 0 0 5 none 0 0 none 0 0).toArray) := ⟨by kernel_rfl⟩
theorem rA1 : rightB (opR 2 258 3 0 I0 0 P0 0) = true := by kernel_rfl
theorem rA2 : rightB (opR 4 0 0 5 I0 0 P0 0) = true := by kernel_rfl
theorem rA3 : rightB (opR 1 0 0 0 I0 0 P0 0) = true := by kernel_rfl
theorem rA4 : rightB (opR 0 0 0 0 I0 0 P0 0) = false := by kernel_rfl
theorem eA1 : enc (opR 2 258 3 0 I0 0 P0 0) = [2, 1, 2, 0, 3] := by kernel_rfl
theorem eA2 : enc (opR 4 0 0 5 I0 0 P0 0) = [4, 0, 0, 0, 5] := by kernel_rfl
theorem eA3 : enc (opR 1 0 0 0 I0 0 P0 0) = [1, 0, 0] := by kernel_rfl
theorem koA (kd x n s : Int) : KO (opR kd x n s I0 0 P0 0) := ⟨nl_ko I0 0, pl_ko P0 0⟩
theorem dA2 : dec [4, 0, 0, 0, 5] = some (opR 4 0 0 5 I0 0 P0 0) := by
  rw [← eA2]
  exact dec_enc rA2 (koA _ _ _ _)
theorem byt45 : Byt [4, 0, 0, 0, 5] := by
  intro x hx
  simp at hx
  omega
theorem dA4 : dec [4, 0, 0, 0] = none := by
  have := dec_cut rA2 (koA 4 0 0 5) (by rw [eA2]; exact byt45) (c := 4) (by rw [eA2]; decide)
  rw [eA2] at this
  exact this
theorem sarr0 (w : World) (B s : Nat) (F : Nat → List Value) : SArr w B none 0 s F := fun h => absurd h (by omega)
theorem put_yes {w w' : World} {o : OpR} {e : Ending} {l : List Int} {n : Nat} (h : PutOut w o e w') (hr : rightB o = true) (he : enc o = l) (hn : l.length = n) : ∃ A c, e = .returned (.tuple #[.slice A n c, .int .i64 0]) ∧ w'.ownsRow w.heap.size 5 1 (.slice A n c) n (u8l l) ∧ Arr w' w'.heap.size A n (fun j => .int .u8 (l.getD j 0)) ∧ n ≤ c ∧ (A = none → n = 0 ∧ c = 0) ∧ Below w.heap.size w w' := by
  subst hn
  obtain ⟨hb, ⟨h1, -⟩ | ⟨v, -, h2, h3⟩⟩ := h
  · rw [hr] at h1; cases h1
  · rw [he] at h3
    obtain ⟨A, c, rfl, h4, h5, h6⟩ := bytes_arr h3
    exact ⟨A, c, h2, h3, h4, h5, h6, hb⟩
theorem put_no {w w' : World} {o : OpR} {e : Ending} (h : PutOut w o e w') (hr : rightB o = false) : e = .returned (.tuple #[.slice none 0 0, .int .i64 2]) ∧ Below w.heap.size w w' := by
  obtain ⟨hb, ⟨-, h1⟩ | ⟨v, h2, -⟩⟩ := h
  · exact ⟨h1, hb⟩
  · rw [hr] at h2; cases h2
set_option maxRecDepth 100000 in
set_option maxHeartbeats 4000000 in
theorem awake8 (w : World) : Calls Tryz.prog 17 #[] w fun e w' => e = .returned (.bool true) ∧ Below w.heap.size w w' := by
  go_enter Tryz.func17, Tryz.ntmps17
  go_wp2_with fail
  refine (put12 I0 P0 2 258 3 0 none 0 0 none 0 0 w (by omega) (by omega) (by omega) (sarr0 _ _ _ _) (sarr0 _ _ _ _)).mono ?_
  rintro e w1 h
  obtain ⟨A1, c1, rfl, -, a1, l1, n1, b1⟩ := put_yes h rA1 eA1 (n := 5) rfl
  have X1 := Lib.hid a1
  have Y1 := Lib.hid b1
  clear h a1 l1 n1 b1
  go_wp2_with fail
  refine (put12 I0 P0 4 0 0 5 none 0 0 none 0 0 w1 (by omega) (by omega) (by omega) (sarr0 _ _ _ _) (sarr0 _ _ _ _)).mono ?_
  rintro e w2 h
  obtain ⟨A2, c2, rfl, -, a2, l2, n2, b2⟩ := put_yes h rA2 eA2 (n := 5) rfl
  have X1 := Lib.hid ((X1.out.below b2 (Nat.le_refl _)).more b2.size)
  have X2 := Lib.hid a2
  have Y2 := Lib.hid (Y1.out.trans (b2.mono Y1.out.size))
  have L2 := Lib.hid l2
  have N2 := Lib.hid n2
  clear h a2 l2 n2 b2
  go_wp2_with fail
  refine (put12 I0 P0 1 0 0 0 none 0 0 none 0 0 w2 (by omega) (by omega) (by omega) (sarr0 _ _ _ _) (sarr0 _ _ _ _)).mono ?_
  rintro e w3 h
  obtain ⟨A3, c3, rfl, -, a3, l3, n3, b3⟩ := put_yes h rA3 eA3 (n := 3) rfl
  have X1 := Lib.hid ((X1.out.below b3 (Nat.le_refl _)).more b3.size)
  have X2 := Lib.hid ((X2.out.below b3 (Nat.le_refl _)).more b3.size)
  have X3 := Lib.hid a3
  have Y3 := Lib.hid (Y2.out.trans (b3.mono Y2.out.size))
  clear h a3 l3 n3 b3
  go_wp2_with fail
  refine (put12 I0 P0 0 0 0 0 none 0 0 none 0 0 w3 (by omega) (by omega) (by omega) (sarr0 _ _ _ _) (sarr0 _ _ _ _)).mono ?_
  rintro e w4 h
  obtain ⟨rfl, b4⟩ := put_no h rA4
  have X1 := Lib.hid ((X1.out.below b4 (Nat.le_refl _)).more b4.size)
  have X2 := Lib.hid ((X2.out.below b4 (Nat.le_refl _)).more b4.size)
  have X3 := Lib.hid ((X3.out.below b4 (Nat.le_refl _)).more b4.size)
  have Y4 := Lib.hid (Y3.out.trans (b4.mono Y3.out.size))
  clear h b4
  go_wp2_with fail
  refine (get19 [4, 0, 0, 0, 5] A2 5 c2 w4 rfl (by omega) L2.out byt45 X2.out).mono ?_
  rintro e w5 ⟨b5, ⟨h1, -⟩ | ⟨o, D1, B1, d1, D2, B2, d2, h1, rfl, e1, e2, f1, f2, o1, o2⟩⟩
  · rw [dA2] at h1; cases h1
  rw [dA2] at h1
  injection h1 with h1
  subst h1
  have s1 : D1.size = 0 := by
    have := congrArg List.length e1
    simpa [opR, nl] using this
  have s2 : D2.size = 0 := by
    have := congrArg List.length e2
    simpa [opR, pl] using this
  have X1 := Lib.hid ((X1.out.below b5 (Nat.le_refl _)).more b5.size)
  have X2 := Lib.hid ((X2.out.below b5 (Nat.le_refl _)).more b5.size)
  have X3 := Lib.hid ((X3.out.below b5 (Nat.le_refl _)).more b5.size)
  have Y5 := Lib.hid (Y4.out.trans (b5.mono Y4.out.size))
  rw [s1, s2]
  clear b5 e1 e2 f1 f2 o1 o2 s1 s2
  show _
  have HO5 := Lib.hid (opL_one 4 0 0 5 B1 0 d1 B2 0 d2)
  have hmin : min (4 : Int) 5 = 4 := rfl
  obtain ⟨bb, of, rfl, hbb, hcc⟩ := X2.out (by omega)
  have hd := slice_head (P := Tryz.prog) Tryz.underlying30 size5 (A := some ⟨bb, of, none⟩) (fun ad e => by cases e; rfl) 5 c2 4 (by omega) L2.out
  have hd4 : ∀ W, (Instr.sliceAt 30 (.slice (some ⟨bb, of, none⟩) 5 c2) none (some (.int .i64 4)) none).run Tryz.prog W = .ok (.slice (some ⟨bb, of, none⟩) 4 c2) W := fun W => hd W
  clear hbb hcc hd
  go_wp2_with (refine wpList_boxed rfl 26 9 rfl rfl zOp (zeroVOp _) (.tmp 36) rfl rfl rfl (opL 4 0 0 5 B1 0 d1 B2 0 d2) rfl rfl sizeOp rfl HO5.out ?_; intro w6 hb6 hh6 hs6)
  obtain ⟨p9, hp9⟩ : ∃ p, p = w5.heap.size := ⟨_, rfl⟩
  rw [← hp9] at hh6 ⊢
  have P6 := Lib.hid hh6
  have X1 := Lib.hid ((X1.out.below hb6 (Nat.le_refl _)).more hb6.size)
  have X2 := Lib.hid ((X2.out.below hb6 (Nat.le_refl _)).more hb6.size)
  have X3 := Lib.hid ((X3.out.below hb6 (Nat.le_refl _)).more hb6.size)
  have Y6 := Lib.hid (Y5.out.trans (hb6.mono Y5.out.size))
  have X24 : Hid (Arr w6 w6.heap.size (some ⟨bb, of, none⟩) 4 fun j => .int .u8 (([4, 0, 0, 0] : List Int).getD j 0)) := Lib.hid fun _ => by
    obtain ⟨b', o', e1, h1, h2⟩ := X2.out (by omega)
    refine ⟨b', o', e1, h1, fun j hj => (h2 j (by omega)).trans ?_⟩
    match j, hj with
    | 0, _ | 1, _ | 2, _ | 3, _ => rfl
  clear hb6 hh6 hs6 hp9 hmin hd4
  refine (get19 [4, 0, 0, 0] (some ⟨bb, of, none⟩) 4 c2 w6 rfl (by omega) (by have := L2.out; omega) (fun x hx => byt45 x (by simp at hx ⊢; omega)) X24.out).mono ?_
  rintro e w7 ⟨b7, ⟨-, rfl⟩ | ⟨o, D1, B1', d1', D2, B2', d2', h1, -⟩⟩
  rotate_left
  · rw [dA4] at h1; cases h1
  have P7 := Lib.hid ((b7.block p9 (heap_lt P6.out)).trans P6.out)
  have X1 := Lib.hid ((X1.out.below b7 (Nat.le_refl _)).more b7.size)
  have X2 := Lib.hid ((X2.out.below b7 (Nat.le_refl _)).more b7.size)
  have X3 := Lib.hid ((X3.out.below b7 (Nat.le_refl _)).more b7.size)
  have Y7 := Lib.hid (Y6.out.trans (b7.mono Y6.out.size))
  have ZO := Lib.hid (opL_one 0 0 0 0 none 0 0 none 0 0)
  clear b7 X24
  go_upto_region 7 with (refine wpList_boxed rfl 26 11 rfl rfl zOp (zeroVOp _) (.tmp 45) rfl rfl rfl zOp rfl rfl sizeOp rfl ZO.out ?_; intro w8 hb8 hh8 hs8)
  have P8 := Lib.hid ((hb8.block p9 (heap_lt P7.out)).trans P7.out)
  have X1 := Lib.hid ((X1.out.below hb8 (Nat.le_refl _)).more hb8.size)
  have X2 := Lib.hid ((X2.out.below hb8 (Nat.le_refl _)).more hb8.size)
  have X3 := Lib.hid ((X3.out.below hb8 (Nat.le_refl _)).more hb8.size)
  have Y8 := Lib.hid (Y7.out.trans (hb8.mono Y7.out.size))
  clear hb8 hh8 hs8
  go_wp2_with fail
  have z1 := (Below.refl w8.heap.size w8).alloc (Nat.le_refl _) (.cells #[.int .u8 2, .int .u8 1, .int .u8 2, .int .u8 0, .int .u8 3] 5)
  refine (same16 (fun j => ([2, 1, 2, 0, 3] : List Int).getD j 0) A1 _ 5 c1 5 _ _ _ (by omega) (X1.out.below z1 (Nat.le_refl _)) (Arr.ofBlock 5 _ (heap_new w8 _) fun j hj => by match j, hj with | 0, _ | 1, _ | 2, _ | 3, _ | 4, _ => rfl)).mono ?_
  rintro e w9 ⟨rfl, m9, rfl⟩
  have z2 := below_drewN z1 m9
  have X2 := Lib.hid ((X2.out.below z2 (Nat.le_refl _)).more z2.size)
  have X3 := Lib.hid ((X3.out.below z2 (Nat.le_refl _)).more z2.size)
  have P9 := Lib.hid ((z2.block p9 (heap_lt P8.out)).trans P8.out)
  have Y9 := Lib.hid (Y8.out.trans (z2.mono Y8.out.size))
  clear z1 z2 X1
  obtain ⟨w10, hw10⟩ : ∃ w10, w10 = (w8.alloc (.cells #[.int .u8 2, .int .u8 1, .int .u8 2, .int .u8 0, .int .u8 3] 5)).drewN m9 := ⟨_, rfl⟩
  rw [← hw10] at X2 X3 P9 Y9 ⊢
  clear hw10
  go_wp2_with fail
  have z1 := (Below.refl w10.heap.size w10).alloc (Nat.le_refl _) (.cells #[.int .u8 4, .int .u8 0, .int .u8 0, .int .u8 0, .int .u8 5] 5)
  refine (same16 (fun j => ([4, 0, 0, 0, 5] : List Int).getD j 0) _ _ 5 c2 5 _ _ _ (by omega) (X2.out.below z1 (Nat.le_refl _)) (Arr.ofBlock 5 _ (heap_new w10 _) fun j hj => by match j, hj with | 0, _ | 1, _ | 2, _ | 3, _ | 4, _ => rfl)).mono ?_
  rintro e w11 ⟨rfl, m11, rfl⟩
  have z2 := below_drewN z1 m11
  have X3 := Lib.hid ((X3.out.below z2 (Nat.le_refl _)).more z2.size)
  have P11 := Lib.hid ((z2.block p9 (heap_lt P9.out)).trans P9.out)
  have Y11 := Lib.hid (Y9.out.trans (z2.mono Y9.out.size))
  clear z1 z2 X2
  obtain ⟨w12, hw12⟩ : ∃ w12, w12 = (w10.alloc (.cells #[.int .u8 4, .int .u8 0, .int .u8 0, .int .u8 0, .int .u8 5] 5)).drewN m11 := ⟨_, rfl⟩
  rw [← hw12] at X3 P11 Y11 ⊢
  clear hw12
  go_wp2_with fail
  have z1 := (Below.refl w12.heap.size w12).alloc (Nat.le_refl _) (.cells #[.int .u8 1, .int .u8 0, .int .u8 0] 5)
  refine (same16 (fun j => ([1, 0, 0] : List Int).getD j 0) A3 _ 3 c3 3 _ _ _ (by omega) (X3.out.below z1 (Nat.le_refl _)) (Arr.ofBlock 3 _ (heap_new w12 _) fun j hj => by match j, hj with | 0, _ | 1, _ | 2, _ => rfl)).mono ?_
  rintro e w13 ⟨rfl, m13, rfl⟩
  have z2 := below_drewN z1 m13
  have P13 := Lib.hid ((z2.block p9 (heap_lt P11.out)).trans P11.out)
  have Y13 := Lib.hid (Y11.out.trans (z2.mono Y11.out.size))
  clear z1 z2 X3
  obtain ⟨w14, hw14⟩ : ∃ w14, w14 = (w12.alloc (.cells #[.int .u8 1, .int .u8 0, .int .u8 0] 5)).drewN m13 := ⟨_, rfl⟩
  rw [← hw14] at P13 Y13 ⊢
  clear hw14
  have d3 : w14.cell? ⟨p9, 3, none⟩ = some (.int .i64 5) := block_cell P13.out 3 _ rfl
  have RA : Hid (w14.rangeAt p9 0 (opL 4 0 0 5 B1 0 d1 B2 0 d2)) := Lib.hid (range_of P13.out)
  go_wp2_with (refine wpList_load_midG rfl 26 (.tmp 9) rfl p9 0 rfl (opL 4 0 0 5 B1 0 d1 B2 0 d2) _ RA.out Tryz.underlying26 rfl sizeOp ?_)
  refine (right10 I0 P0 4 0 0 5 B1 0 d1 B2 0 d2 w14 (by omega) (by omega) (fun h => absurd h (by omega)) (fun h => absurd h (by omega))).mono ?_
  rw [rA2]
  rintro e w15 ⟨rfl, hb15⟩
  have Y15 := Lib.hid (Y13.out.trans (hb15.mono Y13.out.size))
  clear hb15
  go_wp2_with fail
  go_ret
  exact ⟨rfl, Y15.out⟩
end Go.Proofs.YthdllbbjajddiaaGreatDoor
