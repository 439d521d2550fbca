/- The law OpNumbers of layer 25 (op): it returns true. Printed by genNd.py. -/
import Derived.Test.YthdllbbjajddiaaGreatDoorNc
set_option linter.all false
namespace Go.Proofs.YthdllbbjajddiaaGreatDoor
open Go.RowKit Go.Maps Go.WideMaps
theorem wp_laid {P : Program} {op : Oper} {a : Act} {w : World} {K : Act → World → Prop} {Q : Exit → Act → World → Prop} (t : TypeId) (ho : op.op = .alloc t) (z : List Value) (hz : (zeroValue t).run P w = .ok (.agg z.toArray) w)
    (h : K (a.put op.dst (.pointer (some ⟨w.heap.size, 0, none⟩))) (w.alloc (.cells z.toArray t))) : op.wp P a w K Q := by
  unfold Oper.wp execOp
  simp only [ho, Sem.run_bind]
  have h1 : (Instr.alloc t true (.tuple #[])).run P w = .ok (.pointer (some ⟨w.heap.size, 0, none⟩)) (w.alloc (.cells z.toArray t)) := by
    simp [Instr.alloc, hz, newVar, newRow, Value.cells, Result.andThen]
  rw [h1]
  simp only [Result.andThen_ok, Sem.run_pure]
  exact h
theorem buildD3 (u : World) : BuildRun Tryz.prog 26 #[(0, .int .u8 2), (1, .int .i64 4096), (2, .int .i64 1)] u (.agg (opL 2 4096 1 0 none 0 0 none 0 0).toArray) := ⟨by kernel_rfl⟩
theorem buildD4 (u : World) : BuildRun Tryz.prog 26 #[(0, .int .u8 3), (3, .int .i64 1)] u (.agg (opL 3 0 0 1 none 0 0 none 0 0).toArray) := ⟨by kernel_rfl⟩
theorem buildD5 (u : World) : BuildRun Tryz.prog 26 #[(0, .int .u8 4), (3, .int .i64 1073741824)] u (.agg (opL 4 0 0 1073741824 none 0 0 none 0 0).toArray) := ⟨by kernel_rfl⟩
theorem buildD6 (u : World) : BuildRun Tryz.prog 26 #[(0, .int .u8 5), (3, .int .i64 77)] u (.agg (opL 5 0 0 77 none 0 0 none 0 0).toArray) := ⟨by kernel_rfl⟩
def numsN : List Int := [-9223372036854775808, -1, 0, 1, 2, 3, 4, 5, 6, 15, 16, 17, 255, 256, 511, 512, 1024, 1025, 4096, 4097, 262144, 262145, 1073741824, 1073741825, 4294967297]
theorem nums_wf {k : Nat} (h : k < 25) : (Lit.int .i64 (numsN.getD k 0)).wf = true := by
  have ha : (numsN.all fun x => (Lit.int .i64 x).wf) = true := by kernel_rfl
  have hl : k < numsN.length := h
  rw [List.getD_eq_getElem?_getD, List.getElem?_eq_getElem hl]
  exact List.all_eq_true.1 ha _ (List.getElem_mem hl)
def lF7 (a1 : Nat → Option Addr) (d1 : Nat → Nat) (a2 : Nat → Option Addr) (d2 : Nat → Nat) (i : Nat) : List Value := opL (kdN i) (xN i) (nN i) (sN i) (a1 i) (mN i) (d1 i) (a2 i) (mN i) (d2 i)
/-- The list of ops and the list of numbers, as they lie. -/
structure Data (W w : World) (bl bn : Nat) (a1 : Nat → Option Addr) (d1 : Nat → Nat) (a2 : Nat → Option Addr) (d2 : Nat → Nat) : Prop where
  l : w.heap[bl]? = some (.cells (flatS (lF7 a1 d1 a2 d2) 7).toArray 26 (0, 0))
  n : w.heap[bn]? = some (.cells (numsN.map (Value.int .i64)).toArray 3 (0, 0))
  r1 : ∀ i, i < 7 → w.ownsRow W.heap.size 53 36 (.slice (a1 i) (mN i) (d1 i)) (mN i) (flatS (fun j => cellsF (elFN j)) (mN i))
  r2 : ∀ i, i < 7 → w.ownsRow W.heap.size 48 35 (.slice (a2 i) (mN i) (d2 i)) (mN i) (flatS (fun j => cellsP (elPN j)) (mN i))
  below : Below W.heap.size W w
section
variable {W w : World} {bl bn : Nat} {a1 : Nat → Option Addr} {d1 : Nat → Nat} {a2 : Nat → Option Addr} {d2 : Nat → Nat}
theorem Data.go {w2 : World} (h : Data W w bl bn a1 d1 a2 d2) (hb : Below w.heap.size w w2) : Data W w2 bl bn a1 d1 a2 d2 :=
  ⟨(hb.block _ (heap_lt h.l)).trans h.l, (hb.block _ (heap_lt h.n)).trans h.n, fun i hi => (Keeps.fresh (S := fun _ => False) hb).row (h.r1 i hi) fun _ _ h => h, fun i hi => (Keeps.fresh (S := fun _ => False) hb).row (h.r2 i hi) fun _ _ h => h, h.below.trans (hb.mono h.below.size)⟩
theorem Data.at_ (h : Data W w bl bn a1 d1 a2 d2) {i : Nat} (hi : i < 7) : w.rangeAt bl (i * 6) (lF7 a1 d1 a2 d2 i) := fun j v hj => by
  have hj6 : j < 6 := (List.getElem?_eq_some_iff.1 hj).1
  refine block_cell h.l _ v ?_
  rw [List.getElem?_toArray]
  exact (flatS_at (s := 6) (F := lF7 a1 d1 a2 d2) (fun _ => rfl) hj6 hi).trans hj
theorem Data.num (h : Data W w bl bn a1 d1 a2 d2) {k : Nat} (hk : k < 25) : w.cell? ⟨bn, k, none⟩ = some (.int .i64 (numsN.getD k 0)) := by
  refine block_cell h.n k _ ?_
  have hl : k < numsN.length := hk
  rw [List.getElem?_toArray, List.getElem?_map, List.getD_eq_getElem?_getD, List.getElem?_eq_getElem hl]
  rfl
end
theorem getD_set (l : List Int) (k : Nat) (v : Int) (j : Nat) (hk : k < l.length) : (l.set k v).getD j 0 = if k = j then v else l.getD j 0 := by
  rw [List.getD_eq_getElem?_getD, List.getD_eq_getElem?_getD, List.getElem?_set]
  by_cases h : k = j
  · subst h; simp [hk]
  · simp [h]
theorem byt_set {l : List Int} (h : Byt l) (k : Nat) {v : Int} (hv : 0 ≤ v ∧ v < 256) : Byt (l.set k v) := fun x hx => by
  rcases List.mem_or_eq_of_mem_set hx with hx | rfl
  · exact h x hx
  · exact hv
theorem u8l_set (l : List Int) (k : Nat) (v : Int) : (u8l l).set k (.int .u8 v) = u8l (l.set k v) := by simp [u8l, List.map_set]
theorem arr_own {w : World} {base : Nat} {A : Option Addr} {n c : Nat} {l : List Int} (ho : w.ownsRow base 5 1 (.slice A n c) n (u8l l)) (hn : l.length = n) : Arr w w.heap.size A n fun j => .int .u8 (l.getD j 0) := by
  subst hn
  obtain ⟨A', c', e, h, _⟩ := bytes_arr ho
  cases e
  exact h
/-- The bent op in its box. -/
def BentAt (wr wx : World) (s8 : Value) : Prop := ∃ (kd x y s : Int) (A1 : Option Addr) (n1 c1 : Nat) (I : Nat → ElF) (A2 : Option Addr) (n2 c2 : Nat) (P : Nat → ElP) (pb : Nat), s8 = .pointer (some ⟨pb, 0, none⟩) ∧ (0 ≤ kd ∧ kd < 256) ∧ n1 ≤ 100 ∧ n2 ≤ 100 ∧ wx.heap[pb]? = some (.cells (opL kd x y s A1 n1 c1 A2 n2 c2).toArray 26 (0, 0)) ∧ SArr wx wx.heap.size A1 n1 36 (fun i => cellsF (I i)) ∧ SArr wx wx.heap.size A2 n2 35 (fun i => cellsP (P i)) ∧ Below wr.heap.size wr wx
/-- What stays the same while an op is bent. -/
structure Rest (W w : World) (bl bn : Nat) (a1 : Nat → Option Addr) (d1 : Nat → Nat) (a2 : Nat → Option Addr) (d2 : Nat → Nat) (Ab : Option Addr) (N cb : Nat) (lb : List Int) : Prop where
  d : Data W w bl bn a1 d1 a2 d2
  b : w.ownsRow W.heap.size 5 1 (.slice Ab N cb) N (u8l lb)
theorem Rest.go {W w w2 : World} {bl bn : Nat} {a1 : Nat → Option Addr} {d1 : Nat → Nat} {a2 : Nat → Option Addr} {d2 : Nat → Nat} {Ab : Option Addr} {N cb : Nat} {lb : List Int} (h : Rest W w bl bn a1 d1 a2 d2 Ab N cb lb) (hb : Below w.heap.size w w2) : Rest W w2 bl bn a1 d1 a2 d2 Ab N cb lb :=
  ⟨h.d.go hb, (Keeps.fresh (S := fun _ => False) hb).row h.b fun _ _ h => h⟩
set_option maxRecDepth 100000 in
set_option maxHeartbeats 16000000 in
theorem numbers3 (W : World) : Calls Tryz.prog 3 #[] W fun e W' => e = .returned (.bool true) ∧ Below W.heap.size W W' := by
  obtain ⟨i0, hi, hz0, hz1, hz2⟩ := infoParts infoOz
  have HI := Lib.hid (And.intro hi (And.intro hz0 hz1))
  obtain ⟨i5, hi, hz0, hz1, hz2⟩ := infoParts info5
  have HI5 := Lib.hid (And.intro hi (And.intro hz0 (And.intro hz1 hz2)))
  clear hi hz0 hz1 hz2
  have ZO := Lib.hid (opL_one 0 0 0 0 none 0 0 none 0 0)
  go_enter Tryz.func3, Tryz.ntmps3
  go_wp2_with fail
  refine (full4 0 18 (by omega) W).mono ?_
  rintro e w1 ⟨A1, c1, A2, c2, rfl, h1⟩
  have B1 := h1.below
  go_wp2_with fail
  refine (full4 9 9 (by omega) w1).mono ?_
  rintro e w2 ⟨A3, c3, A4, c4, rfl, h2⟩
  have B2 := B1.trans (h2.below.mono B1.size)
  go_wp2_with fail
  refine (full4 18 0 (by omega) w2).mono ?_
  rintro e w3 ⟨A5, c5, A6, c6, rfl, h3⟩
  have B3 := Lib.hid (B2.trans (h3.below.mono B2.size))
  have K12 : Keeps (fun _ => False) w1 w2 := Keeps.fresh h2.below
  have K23 : Keeps (fun _ => False) w2 w3 := Keeps.fresh h3.below
  have R1 : Hid (∀ i, i < 7 → w3.ownsRow W.heap.size 53 36 (.slice (match i with | 0 => A1 | 1 => A3 | 2 => A5 | _ => none) (mN i) (match i with | 0 => c1 | 1 => c3 | 2 => c5 | _ => 0)) (mN i) (flatS (fun j => cellsF (elFN j)) (mN i))) := Lib.hid fun i hi => by
    match i, hi with
    | 0, _ => exact K23.row (K12.row h1.r1 fun _ _ h => h) fun _ _ h => h
    | 1, _ => exact K23.row (row_more h2.r1 B1.size) fun _ _ h => h
    | 2, _ => exact row_more h3.r1 B2.size
    | 3, _ => exact World.ownsRow_nil _ _ _ _
    | 4, _ => exact World.ownsRow_nil _ _ _ _
    | 5, _ => exact World.ownsRow_nil _ _ _ _
    | 6, _ => exact World.ownsRow_nil _ _ _ _
  have R2 : Hid (∀ i, i < 7 → w3.ownsRow W.heap.size 48 35 (.slice (match i with | 0 => A2 | 1 => A4 | 2 => A6 | _ => none) (mN i) (match i with | 0 => c2 | 1 => c4 | 2 => c6 | _ => 0)) (mN i) (flatS (fun j => cellsP (elPN j)) (mN i))) := Lib.hid fun i hi => by
    match i, hi with
    | 0, _ => exact K23.row (K12.row h1.r2 fun _ _ h => h) fun _ _ h => h
    | 1, _ => exact K23.row (row_more h2.r2 B1.size) fun _ _ h => h
    | 2, _ => exact row_more h3.r2 B2.size
    | 3, _ => exact World.ownsRow_nil _ _ _ _
    | 4, _ => exact World.ownsRow_nil _ _ _ _
    | 5, _ => exact World.ownsRow_nil _ _ _ _
    | 6, _ => exact World.ownsRow_nil _ _ _ _
  clear h1 h2 h3 B1 B2 K12 K23
  dsimp only
  repeat ((fail_if_success (refine wpList_buildG rfl 26 [(0, .const (.int .u8 2)), (1, .const (.int .i64 4096)), (2, .const (.int .i64 1))] rfl [(0, .int .u8 2), (1, .int .i64 4096), (2, .int .i64 1)] rfl _ (buildD3 _) ?_)); go_step)
  refine wpList_buildG rfl 26 [(0, .const (.int .u8 2)), (1, .const (.int .i64 4096)), (2, .const (.int .i64 1))] rfl [(0, .int .u8 2), (1, .int .i64 4096), (2, .int .i64 1)] rfl _ (buildD3 _) ?_
  try simp only [Act.put, List.setIfInBounds_toArray, List.set_cons_zero, List.set_cons_succ]
  repeat ((fail_if_success (refine wpList_buildG rfl 26 [(0, .const (.int .u8 3)), (3, .const (.int .i64 1))] rfl [(0, .int .u8 3), (3, .int .i64 1)] rfl _ (buildD4 _) ?_)); go_step)
  refine wpList_buildG rfl 26 [(0, .const (.int .u8 3)), (3, .const (.int .i64 1))] rfl [(0, .int .u8 3), (3, .int .i64 1)] rfl _ (buildD4 _) ?_
  try simp only [Act.put, List.setIfInBounds_toArray, List.set_cons_zero, List.set_cons_succ]
  repeat ((fail_if_success (refine wpList_buildG rfl 26 [(0, .const (.int .u8 4)), (3, .const (.int .i64 1073741824))] rfl [(0, .int .u8 4), (3, .int .i64 1073741824)] rfl _ (buildD5 _) ?_)); go_step)
  refine wpList_buildG rfl 26 [(0, .const (.int .u8 4)), (3, .const (.int .i64 1073741824))] rfl [(0, .int .u8 4), (3, .int .i64 1073741824)] rfl _ (buildD5 _) ?_
  try simp only [Act.put, List.setIfInBounds_toArray, List.set_cons_zero, List.set_cons_succ]
  repeat ((fail_if_success (refine wpList_buildG rfl 26 [(0, .const (.int .u8 5)), (3, .const (.int .i64 77))] rfl [(0, .int .u8 5), (3, .int .i64 77)] rfl _ (buildD6 _) ?_)); go_step)
  refine wpList_buildG rfl 26 [(0, .const (.int .u8 5)), (3, .const (.int .i64 77))] rfl [(0, .int .u8 5), (3, .int .i64 77)] rfl _ (buildD6 _) ?_
  try simp only [Act.put, List.setIfInBounds_toArray, List.set_cons_zero, List.set_cons_succ]
  repeat ((fail_if_success (refine wpList_sliceK rfl 28 26 7 6 _ rfl (lF7 (fun i => match i with | 0 => A1 | 1 => A3 | 2 => A5 | _ => none) (fun i => match i with | 0 => c1 | 1 => c3 | 2 => c5 | _ => 0) (fun i => match i with | 0 => A2 | 1 => A4 | 2 => A6 | _ => none) (fun i => match i with | 0 => c2 | 1 => c4 | 2 => c6 | _ => 0)) ?_ i0 (.agg zO.toArray) Tryz.underlying28 HI.out.1 HI.out.2.1 HI.out.2.2 (fun _ _ => rfl) (Nat.succ_pos 5) (Nat.succ_pos 6) (by decide) ?_)); go_step)
  refine wpList_sliceK rfl 28 26 7 6 _ rfl (lF7 (fun i => match i with | 0 => A1 | 1 => A3 | 2 => A5 | _ => none) (fun i => match i with | 0 => c1 | 1 => c3 | 2 => c5 | _ => 0) (fun i => match i with | 0 => A2 | 1 => A4 | 2 => A6 | _ => none) (fun i => match i with | 0 => c2 | 1 => c4 | 2 => c6 | _ => 0)) ?_ i0 (.agg zO.toArray) Tryz.underlying28 HI.out.1 HI.out.2.1 HI.out.2.2 (fun _ _ => rfl) (Nat.succ_pos 5) (Nat.succ_pos 6) (by decide) ?_
  · kernel_rfl
  try simp only [Act.put, List.setIfInBounds_toArray, List.set_cons_zero, List.set_cons_succ]
  go_upto_region 3 with fail
  obtain ⟨a1, ha1⟩ : ∃ a : Nat → Option Addr, a = fun i => match i with | 0 => A1 | 1 => A3 | 2 => A5 | _ => none := ⟨_, rfl⟩
  obtain ⟨d1, hd1⟩ : ∃ a : Nat → Nat, a = fun i => match i with | 0 => c1 | 1 => c3 | 2 => c5 | _ => 0 := ⟨_, rfl⟩
  obtain ⟨a2, ha2⟩ : ∃ a : Nat → Option Addr, a = fun i => match i with | 0 => A2 | 1 => A4 | 2 => A6 | _ => none := ⟨_, rfl⟩
  obtain ⟨d2, hd2⟩ : ∃ a : Nat → Nat, a = fun i => match i with | 0 => c2 | 1 => c4 | 2 => c6 | _ => 0 := ⟨_, rfl⟩
  rw [← ha1, ← hd1, ← ha2, ← hd2]
  have R1 : Hid (∀ i, i < 7 → w3.ownsRow W.heap.size 53 36 (.slice (a1 i) (mN i) (d1 i)) (mN i) (flatS (fun j => cellsF (elFN j)) (mN i))) := Lib.hid (by rw [ha1, hd1]; exact R1.out)
  have R2 : Hid (∀ i, i < 7 → w3.ownsRow W.heap.size 48 35 (.slice (a2 i) (mN i) (d2 i)) (mN i) (flatS (fun j => cellsP (elPN j)) (mN i))) := Lib.hid (by rw [ha2, hd2]; exact R2.out)
  clear ha1 hd1 ha2 hd2
  obtain ⟨wl, hwl⟩ : ∃ w, w = w3.alloc (.cells (flatS (lF7 a1 d1 a2 d2) 7).toArray 26) := ⟨_, rfl⟩
  rw [← hwl]
  have HL : wl.heap[w3.heap.size]? = some (.cells (flatS (lF7 a1 d1 a2 d2) 7).toArray 26 (0, 0)) := by rw [hwl]; exact heap_new w3 _
  have s1 : wl.heap.size = w3.heap.size + 1 := by rw [hwl]; simp
  have BL : Below w3.heap.size w3 wl := by rw [hwl]; exact (Below.refl _ _).alloc (Nat.le_refl _) _
  obtain ⟨wn, hwn⟩ : ∃ w, w = wl.alloc (.cells #[.int .i64 (-9223372036854775808), .int .i64 (-1), .int .i64 0, .int .i64 1, .int .i64 2, .int .i64 3, .int .i64 4, .int .i64 5, .int .i64 6, .int .i64 15, .int .i64 16, .int .i64 17, .int .i64 255, .int .i64 256, .int .i64 511, .int .i64 512, .int .i64 1024, .int .i64 1025, .int .i64 4096, .int .i64 4097, .int .i64 262144, .int .i64 262145, .int .i64 1073741824, .int .i64 1073741825, .int .i64 4294967297] 3) := ⟨_, rfl⟩
  rw [← hwn]
  have HNN : wn.heap[wl.heap.size]? = some (.cells (numsN.map (Value.int .i64)).toArray 3 (0, 0)) := by rw [hwn]; exact heap_new wl _
  have BN : Below w3.heap.size w3 wn := by rw [hwn]; exact BL.alloc BL.size _
  have HL2 : wn.heap[w3.heap.size]? = some (.cells (flatS (lF7 a1 d1 a2 d2) 7).toArray 26 (0, 0)) := by rw [hwn]; exact heap_old HL
  have D0 : Hid (Data W wn w3.heap.size wl.heap.size a1 d1 a2 d2) := Lib.hid ⟨HL2, HNN, fun i hi => (Keeps.fresh (S := fun _ => False) BN).row (R1.out i hi) fun _ _ h => h, fun i hi => (Keeps.fresh (S := fun _ => False) BN).row (R2.out i hi) fun _ _ h => h, B3.out.trans (BN.mono B3.out.size)⟩
  obtain ⟨bl, hbl⟩ : ∃ b, w3.heap.size = b := ⟨_, rfl⟩
  obtain ⟨bn, hbn⟩ : ∃ b, wl.heap.size = b := ⟨_, rfl⟩
  rw [hbl] at D0 s1 ⊢
  rw [hbn] at D0 s1
  rw [← s1]
  have HSB : Hid (bn = bl + 1) := Lib.hid s1
  clear hwl hwn HL HNN BL BN HL2 hbl hbn s1 R1 R2 B3
  go_wp2_with fail
  go_loopw [3] (fun i wr => ∃ k : Nat, k ≤ 7 ∧ i = .int .i64 k ∧ Data W wr bl bn a1 d1 a2 d2) (fun i _ => 7 - (intOf i).toNat)
  case atStart => exact ⟨0, Nat.zero_le _, rfl, D0.out⟩
  case round =>
    clear D0
    obtain ⟨k, hk, rfl, hd⟩ := hrel
    have D := Lib.hid hd
    clear hd
    by_cases hlt : k < 7
    · obtain ⟨kd, hkd⟩ : ∃ z, kdN k = z := ⟨_, rfl⟩
      obtain ⟨x, hx⟩ : ∃ z, xN k = z := ⟨_, rfl⟩
      obtain ⟨y, hy⟩ : ∃ z, nN k = z := ⟨_, rfl⟩
      obtain ⟨s, hs⟩ : ∃ z, sN k = z := ⟨_, rfl⟩
      obtain ⟨m, hm⟩ : ∃ z, mN k = z := ⟨_, rfl⟩
      obtain ⟨A1, hA1⟩ : ∃ z, a1 k = z := ⟨_, rfl⟩
      obtain ⟨c1, hc1⟩ : ∃ z, d1 k = z := ⟨_, rfl⟩
      obtain ⟨A2, hA2⟩ : ∃ z, a2 k = z := ⟨_, rfl⟩
      obtain ⟨c2, hc2⟩ : ∃ z, d2 k = z := ⟨_, rfl⟩
      have LK : lF7 a1 d1 a2 d2 k = (opL kd x y s A1 m c1 A2 m c2) := by unfold lF7; rw [hkd, hx, hy, hs, hm, hA1, hc1, hA2, hc2]
      have RA : Hid (∀ wx, Data W wx bl bn a1 d1 a2 d2 → wx.rangeAt bl (k * 6) (opL kd x y s A1 m c1 A2 m c2)) := Lib.hid fun wx h => LK ▸ h.at_ hlt
      have S1 : Hid (∀ wx, Data W wx bl bn a1 d1 a2 d2 → SArr wx wx.heap.size A1 m 36 fun i => cellsF (elFN i)) := Lib.hid fun wx h => by
        have := h.r1 k hlt
        rw [hm, hA1, hc1] at this
        exact row_val (wideF elFN) this
      have S2 : Hid (∀ wx, Data W wx bl bn a1 d1 a2 d2 → SArr wx wx.heap.size A2 m 35 fun i => cellsP (elPN i)) := Lib.hid fun wx h => by
        have := h.r2 k hlt
        rw [hm, hA2, hc2] at this
        exact row_val (wideP elPN) this
      have Z1 : Hid (A1 = none → m = 0 ∧ c1 = 0) := Lib.hid (by
        have := D.out.r1 k hlt
        rw [hm, hA1, hc1] at this
        exact row_nilS this)
      have Z2 : Hid (A2 = none → m = 0 ∧ c2 = 0) := Lib.hid (by
        have := D.out.r2 k hlt
        rw [hm, hA2, hc2] at this
        exact row_nilS this)
      have HRT : Hid (rightB (opR kd x y s elFN m elPN m) = true) := Lib.hid (by
        have := rightN hlt
        rwa [hkd, hx, hy, hs, hm] at this)
      have HKD : Hid (0 ≤ kd ∧ kd < 256) := Lib.hid (hkd ▸ kdN_bd k)
      have hm18 : m ≤ 18 := hm ▸ mN_bd k
      have i1 : (0 : Int) ≤ k := by omega
      have i2 : (k : Int) < 7 := by omega
      clear hkd hx hy hs hm hA1 hc1 hA2 hc2 LK
      have RB := Lib.hid (RA.out wr D.out)
      go_wp2_with (refine wpList_load_midG rfl 26 (.tmp 46) rfl bl (k * 6) rfl (opL kd x y s A1 m c1 A2 m c2) _ RB.out Tryz.underlying26 rfl sizeOp ?_)
      refine (put12 elFN elPN kd x y s A1 m c1 A2 m c2 wr (by omega) (by omega) HKD.out (S1.out _ D.out) (S2.out _ D.out)).mono ?_
      rintro e w1 h1
      obtain ⟨lb, hlb⟩ : ∃ l, enc (opR kd x y s elFN m elPN m) = l := ⟨_, rfl⟩
      obtain ⟨N, hN⟩ : ∃ N, lb.length = N := ⟨_, rfl⟩
      have HE := Lib.hid hlb
      have HN := Lib.hid hN
      have HBl : Hid (Byt lb) := Lib.hid (hlb ▸ enc_byt _ _ _ _ _ _ _ _)
      have hlen := enc_len HRT.out ⟨nl_ko elFN m, pl_ko elPN m⟩
      rw [hlb, hN] at hlen
      have hN1 : 1 ≤ N := hlen.1
      have hN2 : N ≤ 1353 := hlen.2
      obtain ⟨Ab, cb, rfl, ob, -, lbc, nbz, b1⟩ := put_yes h1 HRT.out hlb hN
      have OB := Lib.hid (own_lower ob D.out.below.size)
      have HCB := Lib.hid lbc
      have HZB := Lib.hid nbz
      have E : Hid (Rest W w1 bl bn a1 d1 a2 d2 Ab N cb lb) := Lib.hid ⟨D.out.go b1, OB.out⟩
      have t1 : decide ((1353 : Int) < N) = false := by simp; omega
      clear h1 hlb hN hlen ob lbc nbz b1 D OB RB
      have RB := Lib.hid (RA.out w1 E.out.d)
      go_wp2_with (refine wpList_load_midG rfl 26 (.tmp 61) rfl bl (k * 6) rfl (opL kd x y s A1 m c1 A2 m c2) _ RB.out Tryz.underlying26 rfl sizeOp ?_)
      refine (right10 elFN elPN kd x y s A1 m c1 A2 m c2 w1 (by omega) (by omega) (S1.out _ E.out.d) (S2.out _ E.out.d)).mono ?_
      rw [HRT.out]
      rintro e w2 ⟨rfl, b2⟩
      have E := Lib.hid (E.out.go b2)
      clear b2 RB
      go_wp2_with fail
      refine (gets4 (fun j => lb.getD j 0) Ab N cb w2 HCB.out (arr_own E.out.b HN.out) HZB.out (fun i _ => getD_byt HBl.out i) (by omega)).mono ?_
      rintro e w3 ⟨rfl, b3⟩
      have E := Lib.hid (E.out.go b3)
      clear b3
      go_wp2_with fail
      refine (copy25 lb Ab N cb w3 HN.out (by omega) (arr_own E.out.b HN.out) HZB.out).mono ?_
      rintro e w4 ⟨v4, rfl, o4, b4⟩
      have O4 : Hid ((w4.alloc (.cells #[.int .u8 0] 5)).ownsRow W.heap.size 5 1 v4 N (u8l lb)) := Lib.hid ((own_lower o4 E.out.d.below.size).alloc _)
      have P4 : Hid (∀ k, v4.ownBlock = some k → w3.heap.size ≤ k) := Lib.hid fun k e => (o4.lt k e).1
      have B4 : Hid (Below w3.heap.size w3 (w4.alloc (.cells #[.int .u8 0] 5))) := Lib.hid (b4.alloc b4.size _)
      have NN : Hid ((some ⟨w4.heap.size, 0, none⟩ : Option Addr) = none → (1 : Nat) = 0 ∧ (1 : Nat) = 0) := Lib.hid (fun h => by cases h)
      have CA : Hid (∀ ad, (some ⟨w4.heap.size, 0, none⟩ : Option Addr) = some ad → ∀ j u, [Value.int .u8 0][j]? = some u → (w4.alloc (.cells #[.int .u8 0] 5)).cell? (ad.add j) = some u) := Lib.hid fun ad e j u hu => by
        cases e
        exact cells_newS w4 [.int .u8 0] _ j u hu
      have L0 : Hid ([Value.int .u8 0].length = 1 * 1) := Lib.hid rfl
      have HON : Hid (∀ u ∈ [Value.int .u8 0], u.oneCell' = true) := Lib.hid (by simp [Value.oneCell'])
      have L1 : Hid (N + 1 ≤ maxLen) := Lib.hid (by unfold maxLen; omega)
      have L2 : Hid ((N + 1) * 1 ≤ 140737488355328) := Lib.hid (by omega)
      have L3 : Hid (W.heap.size ≤ (w4.alloc (.cells #[.int .u8 0] 5)).heap.size) := Lib.hid (Nat.le_trans E.out.d.below.size B4.out.size)
      clear o4 b4
      go_wp2_with (refine wpList_append_any rfl (.tmp 73) (.tmp 74) 30 rfl W.heap.size 5 i5 (.int .u8 0) 1 1 Tryz.underlying30 HI5.out.1 HI5.out.2.1 HI5.out.2.2.1 HI5.out.2.2.2 rfl (by decide) v4 N (u8l lb) rfl O4.out (some ⟨w4.heap.size, 0, none⟩) 1 1 [.int .u8 0] rfl NN.out L0.out CA.out HON.out L1.out L2.out L3.out ?_; intro v5 w5 ho5 hg5; obtain ⟨A5, c5, rfl⟩ := row_shapeS ho5)
      have b35 := B4.out.grown hg5 B4.out.size (fun k e => P4.out k e)
      have E := Lib.hid (E.out.go b35)
      have hu5 : u8l lb ++ [.int .u8 0] = u8l (lb ++ [0]) := by simp [u8l]
      rw [hu5] at ho5
      have HL5 : (lb ++ [0]).length = N + 1 := by rw [List.length_append, HN.out]; rfl
      have X5 := Lib.hid (arr_own ho5 HL5)
      have HC5 := Lib.hid (row_le_capS ho5)
      have HZ5 := Lib.hid (row_nilS ho5)
      have HB5 : Hid (Byt (lb ++ [0])) := Lib.hid (byt_app HBl.out (fun z hz => by simp at hz; omega))
      clear b35 ho5 hg5 hu5 HL5 O4 P4 B4 NN CA L0 HON L1 L2 L3
      refine (gets4 (fun j => (lb ++ [0]).getD j 0) A5 (N + 1) c5 w5 HC5.out X5.out HZ5.out (fun i _ => getD_byt HB5.out i) (by omega)).mono ?_
      rintro e w6 ⟨rfl, b6⟩
      have E := Lib.hid (E.out.go b6)
      clear b6 X5 HC5 HZ5 HB5 t1
      go_wp2_with fail
      go_loopw [6] (fun i wx => ∃ n : Nat, n ≤ 13 ∧ i = .int .i64 n ∧ Rest W wx bl bn a1 d1 a2 d2 Ab N cb lb) (fun i _ => 13 - (intOf i).toNat)
      case atStart => exact ⟨0, Nat.zero_le _, rfl, E.out⟩
      case round =>
        clear E
        obtain ⟨n, hn, rfl, he⟩ := hrel
        have E := Lib.hid he
        clear he
        by_cases hln : n < 13
        · have n2 : (n : Int) < 13 := by omega
          go_wp2_with fail
          go_loopw [7] (fun i wx => ∃ z : Nat, z ≤ 25 ∧ i = .int .i64 z ∧ Rest W wx bl bn a1 d1 a2 d2 Ab N cb lb) (fun i _ => 25 - (intOf i).toNat)
          case atStart => exact ⟨0, Nat.zero_le _, rfl, E.out⟩
          case round =>
            clear E
            obtain ⟨z, hz, rfl, he⟩ := hrel
            have E := Lib.hid he
            clear he
            by_cases hlz : z < 25
            · obtain ⟨v, hv⟩ : ∃ v, numsN.getD z 0 = v := ⟨_, rfl⟩
              have HV : Hid ((Lit.int .i64 v).wf = true) := Lib.hid (hv ▸ nums_wf hlz)
              have NQ : Hid (∀ wx, Data W wx bl bn a1 d1 a2 d2 → wx.cell? ⟨bn, z, none⟩ = some (.int .i64 v)) := Lib.hid fun wx h => hv ▸ h.num hlz
              have z1 : (0 : Int) ≤ z := by omega
              have z2 : (z : Int) < 25 := by omega
              have hni : (0 : Int) ≤ (n : Int) ∧ (n : Int) ≤ 12 := by omega
              clear hv
              go_wp2_with fail
              go_cut [8] from 89 to 98 (fun s8 wx => BentAt wr wx s8)
              case first =>
                have DD : Hid (Data W wr.drew bl bn a1 d1 a2 d2) := Lib.hid (E.out.d.go ((Below.refl _ _).drew))
                refine wp_region_held_drew (S := fun w' => w'.rangeAt bl (k * 6) (opL kd x y s A1 m c1 A2 m c2) ∧ w'.cell? ⟨bn, z, none⟩ = some (.int .i64 v)) (by kernel_rfl) ⟨RA.out _ DD.out, NQ.out _ DD.out⟩ (fun hHeld => ?_)
                refine wpAnyH_take (i := 0) (v := ?_) (by simp only [List.getElem?_toArray, List.getElem?_cons_zero]; rfl) (by kernel_rfl) (by kernel_rfl) (by kernel_rfl) (by intro _ _ _ h; exact h) (Or.inl ⟨by rfl, ?_⟩) hHeld ?_
                rotate_left
                · (intro w hSw; (try dsimp only at hSw); go_simp; try with_reducible rfl)
                try simp only [Act.put, List.setIfInBounds_toArray, List.set_cons_zero, List.set_cons_succ]
                refine wpAnyH_take (i := 1) (v := ?_) (by simp only [List.getElem?_toArray, List.getElem?_cons_zero, List.getElem?_cons_succ]; rfl) (by kernel_rfl) (by kernel_rfl) (by kernel_rfl) (by intro _ _ _ h; exact h) (Or.inl ⟨by rfl, ?_⟩) hHeld ?_
                rotate_left
                · (intro w hSw; (try dsimp only at hSw); go_simp; try with_reducible rfl)
                try simp only [Act.put, List.setIfInBounds_toArray, List.set_cons_zero, List.set_cons_succ]
                refine wpAnyH_take (i := 2) (v := ?_) (by simp only [List.getElem?_toArray, List.getElem?_cons_zero, List.getElem?_cons_succ]; rfl) (by kernel_rfl) (by kernel_rfl) (by kernel_rfl) (by intro _ _ _ h; exact h) (Or.inl ⟨by rfl, ?_⟩) hHeld ?_
                rotate_left
                · (intro w hSw; (try dsimp only at hSw); go_simp; try with_reducible rfl)
                try simp only [Act.put, List.setIfInBounds_toArray, List.set_cons_zero, List.set_cons_succ]
                refine wpAnyH_take (i := 3) (v := _) (by simp only [List.getElem?_toArray, List.getElem?_cons_zero, List.getElem?_cons_succ]; rfl) (by kernel_rfl) (by kernel_rfl) (by kernel_rfl) (by intro _ _ _ h; exact h) (yieldsIf_load_mid (by rfl) 26 (.tmp 91) rfl bl (k * 6) rfl (opL kd x y s A1 m c1 A2 m c2) _ (fun _ h => h.1) Tryz.underlying26 rfl sizeOp) hHeld ?_
                try simp only [Act.put, List.setIfInBounds_toArray, List.set_cons_zero, List.set_cons_succ]
                refine wpAnyH_take (i := 4) (v := ?_) (by simp only [List.getElem?_toArray, List.getElem?_cons_zero, List.getElem?_cons_succ]; rfl) (by kernel_rfl) (by kernel_rfl) (by kernel_rfl) (by intro _ _ _ h; exact h) (Or.inl ⟨by rfl, ?_⟩) hHeld ?_
                rotate_left
                · (intro w hSw; (try dsimp only at hSw); go_simp; try with_reducible rfl)
                try simp only [Act.put, List.setIfInBounds_toArray, List.set_cons_zero, List.set_cons_succ]
                refine wpAnyH_take (i := 5) (v := ?_) (by simp only [List.getElem?_toArray, List.getElem?_cons_zero, List.getElem?_cons_succ]; rfl) (by kernel_rfl) (by kernel_rfl) (by kernel_rfl) (by intro _ _ _ h; exact h) (Or.inl ⟨by rfl, ?_⟩) hHeld ?_
                rotate_left
                · (intro w hSw; (try dsimp only at hSw); go_simp; try with_reducible rfl)
                try simp only [Act.put, List.setIfInBounds_toArray, List.set_cons_zero, List.set_cons_succ]
                refine wpAnyH_take (i := 6) (v := ?_) (by simp only [List.getElem?_toArray, List.getElem?_cons_zero, List.getElem?_cons_succ]; rfl) (by kernel_rfl) (by kernel_rfl) (by kernel_rfl) (by intro _ _ _ h; exact h) (Or.inl ⟨by rfl, ?_⟩) hHeld ?_
                rotate_left
                · (intro w hSw; (try dsimp only at hSw); go_simp; try with_reducible rfl)
                try simp only [Act.put, List.setIfInBounds_toArray, List.set_cons_zero, List.set_cons_succ]
                refine wpAnyH_take (i := 7) (v := ?_) (by simp only [List.getElem?_toArray, List.getElem?_cons_zero, List.getElem?_cons_succ]; rfl) (by kernel_rfl) (by kernel_rfl) (by kernel_rfl) (by intro _ _ _ h; exact h) (Or.inl ⟨by rfl, ?_⟩) hHeld ?_
                rotate_left
                · (intro w hSw; (try dsimp only at hSw); go_simp; try with_reducible rfl)
                try simp only [Act.put, List.setIfInBounds_toArray, List.set_cons_zero, List.set_cons_succ]
                refine wpAnyH_take (i := 8) (v := ?_) (by simp only [List.getElem?_toArray, List.getElem?_cons_zero, List.getElem?_cons_succ]; rfl) (by kernel_rfl) (by kernel_rfl) (by kernel_rfl) (by intro _ _ _ h; exact h) (Or.inl ⟨by rfl, ?_⟩) hHeld ?_
                rotate_left
                · (intro w hSw; (try dsimp only at hSw); go_simp; try with_reducible rfl)
                try simp only [Act.put, List.setIfInBounds_toArray, List.set_cons_zero, List.set_cons_succ]
                refine wpAnyH_ready (rs := [9, 10]) (by kernel_rfl) (by simp) ?_
                refine AllReadyH.cons (by simp only [List.getElem?_toArray, List.getElem?_cons_zero, List.getElem?_cons_succ]; rfl) (fun K hK => ?_) (AllReadyH.cons (by simp only [List.getElem?_toArray, List.getElem?_cons_zero, List.getElem?_cons_succ]; rfl) (fun K hK => ?_) AllReadyH.nil)
                · rw [if_pos (by rfl)]
                  go_simp
                  refine (bent9 elFN elPN kd x y s A1 m c1 A2 c2 (n : Int) v wr.drew (by omega) HKD.out HV.out hni (S1.out _ DD.out) (S2.out _ DD.out) Z1.out Z2.out).mono ?_
                  rintro e w8 hb
                  obtain ⟨kd2, x2, y2, s2, A3, n3, c3, I3, A4, n4, c4, P4, rfl, hk2, hn3, hn4, ho⟩ := hb
                  have b8 := ho.below
                  have D8 := Lib.hid (DD.out.go b8)
                  have G1 := Lib.hid ho.r1
                  have G2 := Lib.hid ho.r2
                  have B8 := Lib.hid b8
                  have O8 := Lib.hid (opL_one kd2 x2 y2 s2 A3 n3 c3 A4 n4 c4)
                  clear ho b8
                  refine hK.out _ _ ⟨RA.out _ D8.out, NQ.out _ D8.out⟩ (fun hHeld => ?_)
                  clear hK K
                  try simp only [Act.put, List.setIfInBounds_toArray, List.set_cons_zero, List.set_cons_succ]
                  refine wpAnyH_ready (rs := [10]) (by kernel_rfl) (by simp) ?_
                  refine AllReadyH.cons (by simp only [List.getElem?_toArray, List.getElem?_cons_zero, List.getElem?_cons_succ]; rfl) (fun K hK => ?_) AllReadyH.nil
                  rw [if_pos (by rfl)]
                  refine wp_laid 26 rfl zOp (zeroVOp _) ?_
                  obtain ⟨w9, hw9⟩ : ∃ w9, w9 = w8.alloc (.cells zOp.toArray 26) := ⟨_, rfl⟩
                  have H9 : Hid (w9.heap[w8.heap.size]? = some (.cells zOp.toArray 26 (0, 0))) := Lib.hid (by rw [hw9]; exact heap_new w8 _)
                  have B9 : Hid (Below w8.heap.size w8 w9) := Lib.hid (by rw [hw9]; exact (Below.refl _ _).alloc (Nat.le_refl _) _)
                  have D9 := Lib.hid (D8.out.go B9.out)
                  rw [← hw9]
                  obtain ⟨pb, hpb⟩ : ∃ b, b = w8.heap.size := ⟨_, rfl⟩
                  rw [← hpb] at H9 ⊢
                  have HPB := Lib.hid hpb
                  clear hw9 hpb
                  refine hK.out _ _ ⟨RA.out _ D9.out, NQ.out _ D9.out⟩ (fun hHeld => ?_)
                  clear hK K
                  try simp only [Act.put, List.setIfInBounds_toArray, List.set_cons_zero, List.set_cons_succ]
                  have G1 := Lib.hid ((Keeps.fresh (S := fun _ => False) B9.out).row G1.out fun _ _ h => h)
                  have G2 := Lib.hid ((Keeps.fresh (S := fun _ => False) B9.out).row G2.out fun _ _ h => h)
                  have BX := B9
                  have PX : Hid (w8.heap.size ≤ pb) := Lib.hid (Nat.le_of_eq HPB.out.symm)
                  refine wpAnyH_ready (rs := [11]) (by kernel_rfl) (by simp) ?_
                  refine AllReadyH.cons (by simp only [List.getElem?_toArray, List.getElem?_cons_zero, List.getElem?_cons_succ]; rfl) (fun K hK => ?_) AllReadyH.nil
                  rw [if_pos (by rfl)]
                  refine wp_store_segK 26 (.tmp 8) (.tmp 98) rfl pb 0 rfl (opL kd2 x2 y2 s2 A3 n3 c3 A4 n4 c4) rfl zOp 26 H9.out sizeOp (Nat.le_refl _) O8.out (fun w10 h10 k10 s10 => ?_)
                  rw [show splice zOp 0 (opL kd2 x2 y2 s2 A3 n3 c3 A4 n4 c4) = (opL kd2 x2 y2 s2 A3 n3 c3 A4 n4 c4) from splice_whole _ _ rfl] at h10
                  have H10 := Lib.hid h10
                  have B10 : Hid (Below w8.heap.size w8 w10) := Lib.hid (BX.out.trans (k10.below (fun k e => by rw [show k = pb from e]; exact PX.out) BX.out.size))
                  have D10 := Lib.hid (D8.out.go B10.out)
                  have G1 := Lib.hid (row_val (wideF I3) (k10.row G1.out fun k h1 e => row_ne_cells G1.out H9.out (by decide) (e ▸ h1)))
                  have G2 := Lib.hid (row_val (wideP P4) (k10.row G2.out fun k h1 e => row_ne_cells G2.out H9.out (by decide) (e ▸ h1)))
                  clear h10 k10 s10
                  refine hK.out _ _ ⟨RA.out _ D10.out, NQ.out _ D10.out⟩ (fun hHeld => ?_)
                  clear hK K
                  try simp only [Act.put, List.setIfInBounds_toArray, List.set_cons_zero, List.set_cons_succ]
                  refine wpAnyH_done (by kernel_rfl) ?_ _
                  clear hHeld
                  go_wp2_with fail
                  go_meet
                  exact ⟨kd2, x2, y2, s2, A3, n3, c3, I3, A4, n4, c4, P4, pb, rfl, hk2, hn3, hn4, H10.out, G1.out, G2.out, (((Below.refl wr.heap.size wr).drew).trans (B8.out.mono (Nat.le_refl _))).trans (B10.out.mono B8.out.size)⟩
                · rw [if_pos (by rfl)]
                  refine wp_laid 26 rfl zOp (zeroVOp _) ?_
                  obtain ⟨w7, hw7⟩ : ∃ w9, w9 = wr.drew.alloc (.cells zOp.toArray 26) := ⟨_, rfl⟩
                  have H7 : Hid (w7.heap[wr.heap.size]? = some (.cells zOp.toArray 26 (0, 0))) := Lib.hid (by rw [hw7]; exact heap_new wr.drew _)
                  have B7 : Hid (Below wr.drew.heap.size wr.drew w7) := Lib.hid (by rw [hw7]; exact (Below.refl _ _).alloc (Nat.le_refl _) _)
                  have D7 := Lib.hid (DD.out.go B7.out)
                  rw [← hw7]
                  obtain ⟨pb, hpb⟩ : ∃ b, b = wr.heap.size := ⟨_, rfl⟩
                  try rw [show wr.drew.heap.size = pb from hpb.symm]
                  rw [← hpb] at H7
                  have HPB := Lib.hid hpb
                  clear hw7 hpb
                  refine hK.out _ _ ⟨RA.out _ D7.out, NQ.out _ D7.out⟩ (fun hHeld => ?_)
                  clear hK K
                  try simp only [Act.put, List.setIfInBounds_toArray, List.set_cons_zero, List.set_cons_succ]
                  refine wpAnyH_ready (rs := [9]) (by kernel_rfl) (by simp) ?_
                  refine AllReadyH.cons (by simp only [List.getElem?_toArray, List.getElem?_cons_zero, List.getElem?_cons_succ]; rfl) (fun K hK => ?_) AllReadyH.nil
                  rw [if_pos (by rfl)]
                  go_simp
                  refine (bent9 elFN elPN kd x y s A1 m c1 A2 c2 (n : Int) v w7 (by omega) HKD.out HV.out hni (S1.out _ D7.out) (S2.out _ D7.out) Z1.out Z2.out).mono ?_
                  rintro e w8 hb
                  obtain ⟨kd2, x2, y2, s2, A3, n3, c3, I3, A4, n4, c4, P4, rfl, hk2, hn3, hn4, ho⟩ := hb
                  have b8 := ho.below
                  have D8 := Lib.hid (D7.out.go b8)
                  have G1 := Lib.hid ho.r1
                  have G2 := Lib.hid ho.r2
                  have BX := Lib.hid (B7.out.trans (b8.mono B7.out.size))
                  have H9 := Lib.hid ((b8.block _ (heap_lt H7.out)).trans H7.out)
                  have PX : Hid (wr.drew.heap.size ≤ pb) := Lib.hid (Nat.le_of_eq HPB.out.symm)
                  have O8 := Lib.hid (opL_one kd2 x2 y2 s2 A3 n3 c3 A4 n4 c4)
                  clear ho b8
                  refine hK.out _ _ ⟨RA.out _ D8.out, NQ.out _ D8.out⟩ (fun hHeld => ?_)
                  clear hK K
                  try simp only [Act.put, List.setIfInBounds_toArray, List.set_cons_zero, List.set_cons_succ]
                  refine wpAnyH_ready (rs := [11]) (by kernel_rfl) (by simp) ?_
                  refine AllReadyH.cons (by simp only [List.getElem?_toArray, List.getElem?_cons_zero, List.getElem?_cons_succ]; rfl) (fun K hK => ?_) AllReadyH.nil
                  rw [if_pos (by rfl)]
                  refine wp_store_segK 26 (.tmp 8) (.tmp 98) rfl pb 0 rfl (opL kd2 x2 y2 s2 A3 n3 c3 A4 n4 c4) rfl zOp 26 H9.out sizeOp (Nat.le_refl _) O8.out (fun w10 h10 k10 s10 => ?_)
                  rw [show splice zOp 0 (opL kd2 x2 y2 s2 A3 n3 c3 A4 n4 c4) = (opL kd2 x2 y2 s2 A3 n3 c3 A4 n4 c4) from splice_whole _ _ rfl] at h10
                  have H10 := Lib.hid h10
                  have B10 : Hid (Below wr.drew.heap.size wr.drew w10) := Lib.hid (BX.out.trans (k10.below (fun k e => by rw [show k = pb from e]; exact PX.out) BX.out.size))
                  have D10 := Lib.hid (DD.out.go B10.out)
                  have G1 := Lib.hid (row_val (wideF I3) (k10.row G1.out fun k h1 e => row_ne_cells G1.out H9.out (by decide) (e ▸ h1)))
                  have G2 := Lib.hid (row_val (wideP P4) (k10.row G2.out fun k h1 e => row_ne_cells G2.out H9.out (by decide) (e ▸ h1)))
                  clear h10 k10 s10
                  refine hK.out _ _ ⟨RA.out _ D10.out, NQ.out _ D10.out⟩ (fun hHeld => ?_)
                  clear hK K
                  try simp only [Act.put, List.setIfInBounds_toArray, List.set_cons_zero, List.set_cons_succ]
                  refine wpAnyH_done (by kernel_rfl) ?_ _
                  clear hHeld
                  go_wp2_with fail
                  go_meet
                  exact ⟨kd2, x2, y2, s2, A3, n3, c3, I3, A4, n4, c4, P4, pb, rfl, hk2, hn3, hn4, H10.out, G1.out, G2.out, (((Below.refl wr.heap.size wr).drew).trans (B10.out.mono (Nat.le_refl _)))⟩
              case rest =>
                obtain ⟨kd2, x2, y2, s2, A3, n3, c3, I3, A4, n4, c4, P4, pb, rfl, hk2, hn3, hn4, hh, hs1, hs2, hbw⟩ := hcut
                have E := Lib.hid (E.out.go hbw)
                have PB := Lib.hid hh
                have T1 := Lib.hid hs1
                have T2 := Lib.hid hs2
                have RP := Lib.hid (range_of hh)
                clear hh hs1 hs2 hbw NQ
                go_wp2_with (refine wpList_load_midG rfl 26 (.tmp 8) rfl pb 0 rfl (opL kd2 x2 y2 s2 A3 n3 c3 A4 n4 c4) _ RP.out Tryz.underlying26 rfl sizeOp ?_)
                refine (put12 I3 P4 kd2 x2 y2 s2 A3 n3 c3 A4 n4 c4 wc (by omega) (by omega) hk2 T1.out T2.out).mono ?_
                rintro e w8 h8
                cases hr : rightB (opR kd2 x2 y2 s2 I3 n3 P4 n4) with
                | false =>
                  have HR := Lib.hid hr
                  clear hr
                  obtain ⟨rfl, b8⟩ := put_no h8 HR.out
                  clear h8
                  have E := Lib.hid (E.out.go b8)
                  have PB := Lib.hid ((b8.block _ (heap_lt PB.out)).trans PB.out)
                  have T1 := Lib.hid ((T1.out.below b8 (Nat.le_refl _)).more b8.size)
                  have T2 := Lib.hid ((T2.out.below b8 (Nat.le_refl _)).more b8.size)
                  have RP := Lib.hid (range_of PB.out)
                  clear b8
                  go_wp2_with (refine wpList_load_midG rfl 26 (.tmp 8) rfl pb 0 rfl (opL kd2 x2 y2 s2 A3 n3 c3 A4 n4 c4) _ RP.out Tryz.underlying26 rfl sizeOp ?_)
                  refine (rput15 I3 P4 kd2 x2 y2 s2 A3 n3 c3 A4 n4 c4 w8 (by omega) (by omega) hk2 T1.out T2.out).mono ?_
                  rintro e w9 h9
                  obtain ⟨rfl, b9⟩ := put_no h9 HR.out
                  clear h9
                  have E := Lib.hid (E.out.go b9)
                  have PB := Lib.hid ((b9.block _ (heap_lt PB.out)).trans PB.out)
                  have T1 := Lib.hid ((T1.out.below b9 (Nat.le_refl _)).more b9.size)
                  have T2 := Lib.hid ((T2.out.below b9 (Nat.le_refl _)).more b9.size)
                  have RP : Hid (w9.drew.rangeAt pb 0 (opL kd2 x2 y2 s2 A3 n3 c3 A4 n4 c4)) := Lib.hid (range_of PB.out)
                  clear b9
                  go_wp2_with fail
                  refine wp_region_held_drew (S := fun w' => w'.rangeAt pb 0 (opL kd2 x2 y2 s2 A3 n3 c3 A4 n4 c4)) (by kernel_rfl) RP.out (fun hHeld => ?_)
                  refine wpAnyH_take (i := 0) (v := ?_) (by simp only [List.getElem?_toArray, List.getElem?_cons_zero]; rfl) (by kernel_rfl) (by kernel_rfl) (by kernel_rfl) (by intro _ _ _ h; exact h) (Or.inl ⟨by rfl, ?_⟩) hHeld ?_
                  rotate_left
                  · (intro w hSw; (try dsimp only at hSw); go_simp; try with_reducible rfl)
                  try simp only [Act.put, List.setIfInBounds_toArray, List.set_cons_zero, List.set_cons_succ]
                  refine wpAnyH_take (i := 1) (v := ?_) (by simp only [List.getElem?_toArray, List.getElem?_cons_zero, List.getElem?_cons_succ]; rfl) (by kernel_rfl) (by kernel_rfl) (by kernel_rfl) (by intro _ _ _ h; exact h) (Or.inl ⟨by rfl, ?_⟩) hHeld ?_
                  rotate_left
                  · (intro w hSw; (try dsimp only at hSw); go_simp; try with_reducible rfl)
                  try simp only [Act.put, List.setIfInBounds_toArray, List.set_cons_zero, List.set_cons_succ]
                  refine wpAnyH_take (i := 2) (v := ?_) (by simp only [List.getElem?_toArray, List.getElem?_cons_zero, List.getElem?_cons_succ]; rfl) (by kernel_rfl) (by kernel_rfl) (by kernel_rfl) (by intro _ _ _ h; exact h) (Or.inl ⟨by rfl, ?_⟩) hHeld ?_
                  rotate_left
                  · (intro w hSw; (try dsimp only at hSw); go_simp; try with_reducible rfl)
                  try simp only [Act.put, List.setIfInBounds_toArray, List.set_cons_zero, List.set_cons_succ]
                  refine wpAnyH_take (i := 3) (v := ?_) (by simp only [List.getElem?_toArray, List.getElem?_cons_zero, List.getElem?_cons_succ]; rfl) (by kernel_rfl) (by kernel_rfl) (by kernel_rfl) (by intro _ _ _ h; exact h) (Or.inl ⟨by rfl, ?_⟩) hHeld ?_
                  rotate_left
                  · (intro w hSw; (try dsimp only at hSw); go_simp; try with_reducible rfl)
                  try simp only [Act.put, List.setIfInBounds_toArray, List.set_cons_zero, List.set_cons_succ]
                  refine wpAnyH_take (i := 4) (v := ?_) (by simp only [List.getElem?_toArray, List.getElem?_cons_zero, List.getElem?_cons_succ]; rfl) (by kernel_rfl) (by kernel_rfl) (by kernel_rfl) (by intro _ _ _ h; exact h) (Or.inl ⟨by rfl, ?_⟩) hHeld ?_
                  rotate_left
                  · (intro w hSw; (try dsimp only at hSw); go_simp; try with_reducible rfl)
                  try simp only [Act.put, List.setIfInBounds_toArray, List.set_cons_zero, List.set_cons_succ]
                  refine wpAnyH_take (i := 5) (v := ?_) (by simp only [List.getElem?_toArray, List.getElem?_cons_zero, List.getElem?_cons_succ]; rfl) (by kernel_rfl) (by kernel_rfl) (by kernel_rfl) (by intro _ _ _ h; exact h) (Or.inl ⟨by rfl, ?_⟩) hHeld ?_
                  rotate_left
                  · (intro w hSw; (try dsimp only at hSw); go_simp; try with_reducible rfl)
                  try simp only [Act.put, List.setIfInBounds_toArray, List.set_cons_zero, List.set_cons_succ]
                  refine wpAnyH_ready (rs := [6]) (by kernel_rfl) (by simp) ?_
                  refine AllReadyH.cons (by simp only [List.getElem?_toArray, List.getElem?_cons_zero, List.getElem?_cons_succ]; rfl) (fun K hK => ?_) AllReadyH.nil
                  rw [if_pos (by rfl)]
                  go_simp
                  refine (same16 (fun _ => 0) none none 0 0 0 0 0 w9.drew (by omega) (fun h => absurd h (by omega)) (fun h => absurd h (by omega))).mono ?_
                  rintro e _ ⟨rfl, q, rfl⟩
                  have b10 : Below w9.heap.size w9 (w9.drew.drewN q) := below_drewN ((Below.refl _ _).drew) q
                  obtain ⟨w10, hw10⟩ : ∃ w, w = w9.drew.drewN q := ⟨_, rfl⟩
                  rw [← hw10] at b10 ⊢
                  clear hw10
                  have E := Lib.hid (E.out.go b10)
                  have PB := Lib.hid ((b10.block _ (heap_lt PB.out)).trans PB.out)
                  have T1 := Lib.hid ((T1.out.below b10 (Nat.le_refl _)).more b10.size)
                  have T2 := Lib.hid ((T2.out.below b10 (Nat.le_refl _)).more b10.size)
                  clear b10
                  refine hK.out _ _ (range_of PB.out) (fun hHeld => ?_)
                  clear hK K
                  try simp only [Act.put, List.setIfInBounds_toArray, List.set_cons_zero, List.set_cons_succ]
                  refine wpAnyH_take (i := 7) (v := ?_) (by simp only [List.getElem?_toArray, List.getElem?_cons_zero, List.getElem?_cons_succ]; rfl) (by kernel_rfl) (by kernel_rfl) (by kernel_rfl) (by intro _ _ _ h; exact h) (Or.inl ⟨by rfl, ?_⟩) hHeld ?_
                  rotate_left
                  · (intro w hSw; (try dsimp only at hSw); go_simp; try with_reducible rfl)
                  try simp only [Act.put, List.setIfInBounds_toArray, List.set_cons_zero, List.set_cons_succ]
                  refine wpAnyH_take (i := 8) (v := ?_) (by simp only [List.getElem?_toArray, List.getElem?_cons_zero, List.getElem?_cons_succ]; rfl) (by kernel_rfl) (by kernel_rfl) (by kernel_rfl) (by intro _ _ _ h; exact h) (Or.inl ⟨by rfl, ?_⟩) hHeld ?_
                  rotate_left
                  · (intro w hSw; (try dsimp only at hSw); go_simp; try with_reducible rfl)
                  try simp only [Act.put, List.setIfInBounds_toArray, List.set_cons_zero, List.set_cons_succ]
                  refine wpAnyH_take (i := 9) (v := ?_) (by simp only [List.getElem?_toArray, List.getElem?_cons_zero, List.getElem?_cons_succ]; rfl) (by kernel_rfl) (by kernel_rfl) (by kernel_rfl) (by intro _ _ _ h; exact h) (Or.inl ⟨by rfl, ?_⟩) hHeld ?_
                  rotate_left
                  · (intro w hSw; (try dsimp only at hSw); go_simp; try with_reducible rfl)
                  try simp only [Act.put, List.setIfInBounds_toArray, List.set_cons_zero, List.set_cons_succ]
                  refine wpAnyH_take (i := 10) (v := _) (by simp only [List.getElem?_toArray, List.getElem?_cons_zero, List.getElem?_cons_succ]; rfl) (by kernel_rfl) (by kernel_rfl) (by kernel_rfl) (by intro _ _ _ h; exact h) (yieldsIf_load_mid (by rfl) 26 (.tmp 8) rfl pb 0 rfl (opL kd2 x2 y2 s2 A3 n3 c3 A4 n4 c4) _ (fun _ h => h) Tryz.underlying26 rfl sizeOp) hHeld ?_
                  try simp only [Act.put, List.setIfInBounds_toArray, List.set_cons_zero, List.set_cons_succ]
                  refine wpAnyH_take (i := 12) (v := _) (by simp only [List.getElem?_toArray, List.getElem?_cons_zero, List.getElem?_cons_succ]; rfl) (by kernel_rfl) (by kernel_rfl) (by kernel_rfl) (by intro _ _ _ h; exact h) (yieldsIf_load_mid (by rfl) 26 (.tmp 8) rfl pb 0 rfl (opL kd2 x2 y2 s2 A3 n3 c3 A4 n4 c4) _ (fun _ h => h) Tryz.underlying26 rfl sizeOp) hHeld ?_
                  try simp only [Act.put, List.setIfInBounds_toArray, List.set_cons_zero, List.set_cons_succ]
                  refine wpAnyH_ready (rs := [11]) (by kernel_rfl) (by simp) ?_
                  refine AllReadyH.cons (by simp only [List.getElem?_toArray, List.getElem?_cons_zero, List.getElem?_cons_succ]; rfl) (fun K hK => ?_) AllReadyH.nil
                  rw [if_pos (by rfl)]
                  go_simp
                  refine (right10 I3 P4 kd2 x2 y2 s2 A3 n3 c3 A4 n4 c4 w10 (by omega) (by omega) T1.out T2.out).mono ?_
                  rw [HR.out]
                  rintro e w11 ⟨rfl, b11⟩
                  have E := Lib.hid (E.out.go b11)
                  have PB := Lib.hid ((b11.block _ (heap_lt PB.out)).trans PB.out)
                  have T1 := Lib.hid ((T1.out.below b11 (Nat.le_refl _)).more b11.size)
                  have T2 := Lib.hid ((T2.out.below b11 (Nat.le_refl _)).more b11.size)
                  clear b11
                  refine hK.out _ _ (range_of PB.out) (fun hHeld => ?_)
                  clear hK K
                  try simp only [Act.put, List.setIfInBounds_toArray, List.set_cons_zero, List.set_cons_succ]
                  refine wpAnyH_ready (rs := [13]) (by kernel_rfl) (by simp) ?_
                  refine AllReadyH.cons (by simp only [List.getElem?_toArray, List.getElem?_cons_zero, List.getElem?_cons_succ]; rfl) (fun K hK => ?_) AllReadyH.nil
                  rw [if_pos (by rfl)]
                  go_simp
                  refine (rright11 I3 P4 kd2 x2 y2 s2 A3 n3 c3 A4 n4 c4 w11 (by omega) (by omega) T1.out T2.out).mono ?_
                  rw [HR.out]
                  rintro e w12 ⟨rfl, b12⟩
                  have E := Lib.hid (E.out.go b12)
                  have PB := Lib.hid ((b12.block _ (heap_lt PB.out)).trans PB.out)
                  have T1 := Lib.hid ((T1.out.below b12 (Nat.le_refl _)).more b12.size)
                  have T2 := Lib.hid ((T2.out.below b12 (Nat.le_refl _)).more b12.size)
                  clear b12
                  refine hK.out _ _ (range_of PB.out) (fun hHeld => ?_)
                  clear hK K
                  try simp only [Act.put, List.setIfInBounds_toArray, List.set_cons_zero, List.set_cons_succ]
                  refine wpAnyH_take (i := 14) (v := ?_) (by simp only [List.getElem?_toArray, List.getElem?_cons_zero, List.getElem?_cons_succ]; rfl) (by kernel_rfl) (by kernel_rfl) (by kernel_rfl) (by intro _ _ _ h; exact h) (Or.inl ⟨by rfl, ?_⟩) hHeld ?_
                  rotate_left
                  · (intro w hSw; (try dsimp only at hSw); go_simp; try with_reducible rfl)
                  try simp only [Act.put, List.setIfInBounds_toArray, List.set_cons_zero, List.set_cons_succ]
                  refine wpAnyH_take (i := 15) (v := ?_) (by simp only [List.getElem?_toArray, List.getElem?_cons_zero, List.getElem?_cons_succ]; rfl) (by kernel_rfl) (by kernel_rfl) (by kernel_rfl) (by intro _ _ _ h; exact h) (Or.inl ⟨by rfl, ?_⟩) hHeld ?_
                  rotate_left
                  · (intro w hSw; (try dsimp only at hSw); go_simp; try with_reducible rfl)
                  try simp only [Act.put, List.setIfInBounds_toArray, List.set_cons_zero, List.set_cons_succ]
                  refine wpAnyH_done (by kernel_rfl) ?_ _
                  clear hHeld
                  go_wp2_with fail
                  go_roundw
                  case rel => exact ⟨z + 1, by omega, by go_num, E.out⟩
                  case measure => simp [intOf]; omega
                | true =>
                  have HR := Lib.hid hr
                  clear hr
                  obtain ⟨l2, hl2⟩ : ∃ l, enc (opR kd2 x2 y2 s2 I3 n3 P4 n4) = l := ⟨_, rfl⟩
                  obtain ⟨N2, hN2'⟩ : ∃ N, l2.length = N := ⟨_, rfl⟩
                  have HE2 := Lib.hid hl2
                  have HN2 := Lib.hid hN2'
                  have hl1353 : N2 ≤ 1353 := by
                    have := enc_len HR.out ⟨nl_ko I3 n3, pl_ko P4 n4⟩
                    rw [hl2, hN2'] at this
                    exact this.2
                  obtain ⟨A5, c5, rfl, -, a5, -, -, b8⟩ := put_yes h8 HR.out hl2 hN2'
                  have X5 := Lib.hid a5
                  clear hl2 hN2' a5 h8
                  have E := Lib.hid (E.out.go b8)
                  have PB := Lib.hid ((b8.block _ (heap_lt PB.out)).trans PB.out)
                  have T1 := Lib.hid ((T1.out.below b8 (Nat.le_refl _)).more b8.size)
                  have T2 := Lib.hid ((T2.out.below b8 (Nat.le_refl _)).more b8.size)
                  have RP := Lib.hid (range_of PB.out)
                  clear b8
                  go_wp2_with (refine wpList_load_midG rfl 26 (.tmp 8) rfl pb 0 rfl (opL kd2 x2 y2 s2 A3 n3 c3 A4 n4 c4) _ RP.out Tryz.underlying26 rfl sizeOp ?_)
                  refine (rput15 I3 P4 kd2 x2 y2 s2 A3 n3 c3 A4 n4 c4 w8 (by omega) (by omega) hk2 T1.out T2.out).mono ?_
                  rintro e w9 h9
                  obtain ⟨A6, c6, rfl, -, a6, -, -, b9⟩ := put_yes h9 HR.out HE2.out HN2.out
                  have X6 := Lib.hid a6
                  clear a6 h9
                  have E := Lib.hid (E.out.go b9)
                  have PB := Lib.hid ((b9.block _ (heap_lt PB.out)).trans PB.out)
                  have T1 := Lib.hid ((T1.out.below b9 (Nat.le_refl _)).more b9.size)
                  have T2 := Lib.hid ((T2.out.below b9 (Nat.le_refl _)).more b9.size)
                  have X5 := Lib.hid ((X5.out.below b9 (Nat.le_refl _)).more b9.size)
                  have RP : Hid (w9.drew.rangeAt pb 0 (opL kd2 x2 y2 s2 A3 n3 c3 A4 n4 c4)) := Lib.hid (range_of PB.out)
                  clear b9
                  go_wp2_with fail
                  refine wp_region_held_drew (S := fun w' => w'.rangeAt pb 0 (opL kd2 x2 y2 s2 A3 n3 c3 A4 n4 c4)) (by kernel_rfl) RP.out (fun hHeld => ?_)
                  refine wpAnyH_take (i := 0) (v := ?_) (by simp only [List.getElem?_toArray, List.getElem?_cons_zero]; rfl) (by kernel_rfl) (by kernel_rfl) (by kernel_rfl) (by intro _ _ _ h; exact h) (Or.inl ⟨by rfl, ?_⟩) hHeld ?_
                  rotate_left
                  · (intro w hSw; (try dsimp only at hSw); go_simp; try with_reducible rfl)
                  try simp only [Act.put, List.setIfInBounds_toArray, List.set_cons_zero, List.set_cons_succ]
                  refine wpAnyH_take (i := 1) (v := ?_) (by simp only [List.getElem?_toArray, List.getElem?_cons_zero, List.getElem?_cons_succ]; rfl) (by kernel_rfl) (by kernel_rfl) (by kernel_rfl) (by intro _ _ _ h; exact h) (Or.inl ⟨by rfl, ?_⟩) hHeld ?_
                  rotate_left
                  · (intro w hSw; (try dsimp only at hSw); go_simp; try with_reducible rfl)
                  try simp only [Act.put, List.setIfInBounds_toArray, List.set_cons_zero, List.set_cons_succ]
                  refine wpAnyH_take (i := 2) (v := ?_) (by simp only [List.getElem?_toArray, List.getElem?_cons_zero, List.getElem?_cons_succ]; rfl) (by kernel_rfl) (by kernel_rfl) (by kernel_rfl) (by intro _ _ _ h; exact h) (Or.inl ⟨by rfl, ?_⟩) hHeld ?_
                  rotate_left
                  · (intro w hSw; (try dsimp only at hSw); go_simp; try with_reducible rfl)
                  try simp only [Act.put, List.setIfInBounds_toArray, List.set_cons_zero, List.set_cons_succ]
                  refine wpAnyH_take (i := 3) (v := ?_) (by simp only [List.getElem?_toArray, List.getElem?_cons_zero, List.getElem?_cons_succ]; rfl) (by kernel_rfl) (by kernel_rfl) (by kernel_rfl) (by intro _ _ _ h; exact h) (Or.inl ⟨by rfl, ?_⟩) hHeld ?_
                  rotate_left
                  · (intro w hSw; (try dsimp only at hSw); go_simp; try with_reducible rfl)
                  try simp only [Act.put, List.setIfInBounds_toArray, List.set_cons_zero, List.set_cons_succ]
                  refine wpAnyH_take (i := 4) (v := ?_) (by simp only [List.getElem?_toArray, List.getElem?_cons_zero, List.getElem?_cons_succ]; rfl) (by kernel_rfl) (by kernel_rfl) (by kernel_rfl) (by intro _ _ _ h; exact h) (Or.inl ⟨by rfl, ?_⟩) hHeld ?_
                  rotate_left
                  · (intro w hSw; (try dsimp only at hSw); go_simp; try with_reducible rfl)
                  try simp only [Act.put, List.setIfInBounds_toArray, List.set_cons_zero, List.set_cons_succ]
                  refine wpAnyH_take (i := 5) (v := ?_) (by simp only [List.getElem?_toArray, List.getElem?_cons_zero, List.getElem?_cons_succ]; rfl) (by kernel_rfl) (by kernel_rfl) (by kernel_rfl) (by intro _ _ _ h; exact h) (Or.inl ⟨by rfl, ?_⟩) hHeld ?_
                  rotate_left
                  · (intro w hSw; (try dsimp only at hSw); go_simp; try with_reducible rfl)
                  try simp only [Act.put, List.setIfInBounds_toArray, List.set_cons_zero, List.set_cons_succ]
                  refine wpAnyH_ready (rs := [6]) (by kernel_rfl) (by simp) ?_
                  refine AllReadyH.cons (by simp only [List.getElem?_toArray, List.getElem?_cons_zero, List.getElem?_cons_succ]; rfl) (fun K hK => ?_) AllReadyH.nil
                  rw [if_pos (by rfl)]
                  go_simp
                  refine (same16 (fun j => l2.getD j 0) A5 A6 N2 c5 c6 _ _ w9.drew (by omega) X5.out X6.out).mono ?_
                  rintro e _ ⟨rfl, q, rfl⟩
                  have b10 : Below w9.heap.size w9 (w9.drew.drewN q) := below_drewN ((Below.refl _ _).drew) q
                  obtain ⟨w10, hw10⟩ : ∃ w, w = w9.drew.drewN q := ⟨_, rfl⟩
                  rw [← hw10] at b10 ⊢
                  clear hw10
                  have E := Lib.hid (E.out.go b10)
                  have PB := Lib.hid ((b10.block _ (heap_lt PB.out)).trans PB.out)
                  have T1 := Lib.hid ((T1.out.below b10 (Nat.le_refl _)).more b10.size)
                  have T2 := Lib.hid ((T2.out.below b10 (Nat.le_refl _)).more b10.size)
                  clear b10
                  refine hK.out _ _ (range_of PB.out) (fun hHeld => ?_)
                  clear hK K
                  try simp only [Act.put, List.setIfInBounds_toArray, List.set_cons_zero, List.set_cons_succ]
                  refine wpAnyH_take (i := 7) (v := ?_) (by simp only [List.getElem?_toArray, List.getElem?_cons_zero, List.getElem?_cons_succ]; rfl) (by kernel_rfl) (by kernel_rfl) (by kernel_rfl) (by intro _ _ _ h; exact h) (Or.inl ⟨by rfl, ?_⟩) hHeld ?_
                  rotate_left
                  · (intro w hSw; (try dsimp only at hSw); go_simp; try with_reducible rfl)
                  try simp only [Act.put, List.setIfInBounds_toArray, List.set_cons_zero, List.set_cons_succ]
                  refine wpAnyH_take (i := 8) (v := ?_) (by simp only [List.getElem?_toArray, List.getElem?_cons_zero, List.getElem?_cons_succ]; rfl) (by kernel_rfl) (by kernel_rfl) (by kernel_rfl) (by intro _ _ _ h; exact h) (Or.inl ⟨by rfl, ?_⟩) hHeld ?_
                  rotate_left
                  · (intro w hSw; (try dsimp only at hSw); go_simp; try with_reducible rfl)
                  try simp only [Act.put, List.setIfInBounds_toArray, List.set_cons_zero, List.set_cons_succ]
                  refine wpAnyH_take (i := 9) (v := ?_) (by simp only [List.getElem?_toArray, List.getElem?_cons_zero, List.getElem?_cons_succ]; rfl) (by kernel_rfl) (by kernel_rfl) (by kernel_rfl) (by intro _ _ _ h; exact h) (Or.inl ⟨by rfl, ?_⟩) hHeld ?_
                  rotate_left
                  · (intro w hSw; (try dsimp only at hSw); go_simp; try with_reducible rfl)
                  try simp only [Act.put, List.setIfInBounds_toArray, List.set_cons_zero, List.set_cons_succ]
                  refine wpAnyH_take (i := 10) (v := _) (by simp only [List.getElem?_toArray, List.getElem?_cons_zero, List.getElem?_cons_succ]; rfl) (by kernel_rfl) (by kernel_rfl) (by kernel_rfl) (by intro _ _ _ h; exact h) (yieldsIf_load_mid (by rfl) 26 (.tmp 8) rfl pb 0 rfl (opL kd2 x2 y2 s2 A3 n3 c3 A4 n4 c4) _ (fun _ h => h) Tryz.underlying26 rfl sizeOp) hHeld ?_
                  try simp only [Act.put, List.setIfInBounds_toArray, List.set_cons_zero, List.set_cons_succ]
                  refine wpAnyH_take (i := 12) (v := _) (by simp only [List.getElem?_toArray, List.getElem?_cons_zero, List.getElem?_cons_succ]; rfl) (by kernel_rfl) (by kernel_rfl) (by kernel_rfl) (by intro _ _ _ h; exact h) (yieldsIf_load_mid (by rfl) 26 (.tmp 8) rfl pb 0 rfl (opL kd2 x2 y2 s2 A3 n3 c3 A4 n4 c4) _ (fun _ h => h) Tryz.underlying26 rfl sizeOp) hHeld ?_
                  try simp only [Act.put, List.setIfInBounds_toArray, List.set_cons_zero, List.set_cons_succ]
                  refine wpAnyH_ready (rs := [11]) (by kernel_rfl) (by simp) ?_
                  refine AllReadyH.cons (by simp only [List.getElem?_toArray, List.getElem?_cons_zero, List.getElem?_cons_succ]; rfl) (fun K hK => ?_) AllReadyH.nil
                  rw [if_pos (by rfl)]
                  go_simp
                  refine (right10 I3 P4 kd2 x2 y2 s2 A3 n3 c3 A4 n4 c4 w10 (by omega) (by omega) T1.out T2.out).mono ?_
                  rw [HR.out]
                  rintro e w11 ⟨rfl, b11⟩
                  have E := Lib.hid (E.out.go b11)
                  have PB := Lib.hid ((b11.block _ (heap_lt PB.out)).trans PB.out)
                  have T1 := Lib.hid ((T1.out.below b11 (Nat.le_refl _)).more b11.size)
                  have T2 := Lib.hid ((T2.out.below b11 (Nat.le_refl _)).more b11.size)
                  clear b11
                  refine hK.out _ _ (range_of PB.out) (fun hHeld => ?_)
                  clear hK K
                  try simp only [Act.put, List.setIfInBounds_toArray, List.set_cons_zero, List.set_cons_succ]
                  refine wpAnyH_ready (rs := [13]) (by kernel_rfl) (by simp) ?_
                  refine AllReadyH.cons (by simp only [List.getElem?_toArray, List.getElem?_cons_zero, List.getElem?_cons_succ]; rfl) (fun K hK => ?_) AllReadyH.nil
                  rw [if_pos (by rfl)]
                  go_simp
                  refine (rright11 I3 P4 kd2 x2 y2 s2 A3 n3 c3 A4 n4 c4 w11 (by omega) (by omega) T1.out T2.out).mono ?_
                  rw [HR.out]
                  rintro e w12 ⟨rfl, b12⟩
                  have E := Lib.hid (E.out.go b12)
                  have PB := Lib.hid ((b12.block _ (heap_lt PB.out)).trans PB.out)
                  have T1 := Lib.hid ((T1.out.below b12 (Nat.le_refl _)).more b12.size)
                  have T2 := Lib.hid ((T2.out.below b12 (Nat.le_refl _)).more b12.size)
                  clear b12
                  refine hK.out _ _ (range_of PB.out) (fun hHeld => ?_)
                  clear hK K
                  try simp only [Act.put, List.setIfInBounds_toArray, List.set_cons_zero, List.set_cons_succ]
                  refine wpAnyH_take (i := 14) (v := ?_) (by simp only [List.getElem?_toArray, List.getElem?_cons_zero, List.getElem?_cons_succ]; rfl) (by kernel_rfl) (by kernel_rfl) (by kernel_rfl) (by intro _ _ _ h; exact h) (Or.inl ⟨by rfl, ?_⟩) hHeld ?_
                  rotate_left
                  · (intro w hSw; (try dsimp only at hSw); go_simp; try with_reducible rfl)
                  try simp only [Act.put, List.setIfInBounds_toArray, List.set_cons_zero, List.set_cons_succ]
                  refine wpAnyH_take (i := 15) (v := ?_) (by simp only [List.getElem?_toArray, List.getElem?_cons_zero, List.getElem?_cons_succ]; rfl) (by kernel_rfl) (by kernel_rfl) (by kernel_rfl) (by intro _ _ _ h; exact h) (Or.inl ⟨by rfl, ?_⟩) hHeld ?_
                  rotate_left
                  · (intro w hSw; (try dsimp only at hSw); go_simp; try with_reducible rfl)
                  try simp only [Act.put, List.setIfInBounds_toArray, List.set_cons_zero, List.set_cons_succ]
                  refine wpAnyH_done (by kernel_rfl) ?_ _
                  clear hHeld
                  go_wp2_with fail
                  go_roundw
                  case rel => exact ⟨z + 1, by omega, by go_num, E.out⟩
                  case measure => simp [intOf]; omega
            · obtain rfl : z = 25 := by omega
              go_wp2_with fail
              go_roundw
              case rel => exact ⟨n + 1, by omega, by go_num, E.out⟩
              case measure => simp [intOf]; omega
        · obtain rfl : n = 13 := by omega
          rw [show ((13 : Nat) : Int) = 13 from rfl]
          go_wp2_with fail
          go_loopw [13] (fun i wx => ∃ j : Nat, j ≤ N ∧ i = .int .i64 j ∧ Rest W wx bl bn a1 d1 a2 d2 Ab N cb lb) (fun i _ => N - (intOf i).toNat)
          case atStart => exact ⟨0, Nat.zero_le _, rfl, E.out⟩
          case round =>
            clear E
            obtain ⟨j, hj, rfl, he⟩ := hrel
            have E := Lib.hid he
            clear he
            by_cases hlj : j < N
            · have j0 : (0 : Int) ≤ j := by omega
              have j2 : (j : Int) < N := by omega
              go_wp2_with fail
              refine (copy25 lb Ab N cb wr HN.out (by omega) (arr_own E.out.b HN.out) HZB.out).mono ?_
              rintro e w1 ⟨v1, rfl, o1, b1⟩
              obtain ⟨A7, c7, rfl⟩ := row_shapeS o1
              obtain ⟨g, rfl⟩ := own_at0 o1 (by omega)
              have HGL := Lib.hid (o1.lt g rfl).1
              obtain ⟨yb, hyb⟩ : ∃ z, lb.getD j 0 = z := ⟨_, rfl⟩
              have hyb2 := getD_byt HBl.out j
              rw [hyb] at hyb2
              have cj : w1.cell? ⟨g, j, none⟩ = some (.int .u8 yb) := by
                obtain ⟨b, off, e, _, hc⟩ := arr_own o1 HN.out (by omega)
                cases e
                have := hc j hlj
                rw [Nat.zero_add] at this
                exact this.trans (by dsimp only; rw [hyb])
              have fz : w1.frozen? ⟨g, j, none⟩ = false := by
                obtain ⟨cur, hcur, _⟩ := row_blk o1
                exact frozen_of_row w1 g j _ _ hcur
              obtain ⟨zb, hzb⟩ : ∃ z, IntKind.u8.wrap (yb + 1) = z := ⟨_, rfl⟩
              have hzb2 : 0 ≤ zb ∧ zb < 256 := by rw [← hzb, IntKind.wrap_u8]; omega
              have O1 := Lib.hid o1
              have B1 := Lib.hid b1
              clear o1 b1 hyb
              go_upto_region 25 with fail
              obtain ⟨w2, hw2⟩ : ∃ w, w = w1.setCell ⟨g, j, none⟩ (.int .u8 zb) := ⟨_, rfl⟩
              rw [← hw2]
              have b2 : Below wr.heap.size wr w2 := by rw [hw2]; exact B1.out.setCell HGL.out _
              have r2 : w2.ownsRow wr.heap.size 5 1 (.slice (some ⟨g, 0, none⟩) N c7) N (u8l (lb.set j zb)) := by
                have h := own_set1 (o := j) (v := .int .u8 zb) O1.out (by omega) rfl
                rwa [← hw2, u8l_set] at h
              have E := Lib.hid (E.out.go b2)
              obtain ⟨l2, hl2⟩ : ∃ l, l = lb.set j zb := ⟨_, rfl⟩
              rw [← hl2] at r2
              have HL2 : Hid (l2.length = N) := Lib.hid (by rw [hl2, List.length_set]; exact HN.out)
              have HB2 : Hid (Byt l2) := Lib.hid (hl2 ▸ byt_set HBl.out j hzb2)
              have HC7 := Lib.hid (row_le_capS r2)
              have X := Lib.hid (arr_own r2 HL2.out)
              clear hw2 b2 r2 hl2 cj fz hzb hzb2 hyb2 O1 B1 HGL
              go_wp2_with fail
              refine (get19 l2 (some ⟨g, 0, none⟩) N c7 w2 HL2.out (by omega) HC7.out HB2.out X.out).mono ?_
              rintro e w3 h3
              obtain ⟨b3, D1, A3, c3, D2, A4, c4, rfl, e1, e2, f1, f2, o1, o2⟩ := got_any h3
              obtain ⟨k2, hkd⟩ : ∃ k, k = (goR l2).kd := ⟨_, rfl⟩
              obtain ⟨x2, hx⟩ : ∃ k, k = (goR l2).at_ := ⟨_, rfl⟩
              obtain ⟨y2, hs⟩ : ∃ k, k = (goR l2).n := ⟨_, rfl⟩
              obtain ⟨s2, hn0⟩ : ∃ k, k = (goR l2).sn := ⟨_, rfl⟩
              obtain ⟨r, hr⟩ : ∃ k, k = goE l2 := ⟨_, rfl⟩
              rw [← hkd, ← hx, ← hs, ← hn0, ← hr]
              have EQ := Lib.hid (And.intro hkd (And.intro hx (And.intro hs (And.intro hn0 hr))))
              obtain ⟨n1, hn1⟩ : ∃ k, k = D1.size := ⟨_, rfl⟩
              obtain ⟨n2, hn2⟩ : ∃ k, k = D2.size := ⟨_, rfl⟩
              obtain ⟨I, hI⟩ : ∃ I : Nat → ElF, I = fun i => D1[i]! := ⟨_, rfl⟩
              obtain ⟨P, hP⟩ : ∃ P : Nat → ElP, P = fun i => D2[i]! := ⟨_, rfl⟩
              have E1 := Lib.hid e1
              have E2 := Lib.hid e2
              have EI : Hid (∀ D : Array ElF, D.toList.map Subtype.val = (goR l2).news → D.size = n1 ∧ (fun i => cellsF D[i]!) = fun i => cellsF (I i)) := Lib.hid fun D h => by
                obtain rfl := arr_val (h.trans E1.out.symm)
                rw [hn1, hI]
                exact ⟨rfl, rfl⟩
              have EP : Hid (∀ D : Array ElP, D.toList.map Subtype.val = (goR l2).puts → D.size = n2 ∧ (fun i => cellsP D[i]!) = fun i => cellsP (P i)) := Lib.hid fun D h => by
                obtain rfl := arr_val (h.trans E2.out.symm)
                rw [hn2, hP]
                exact ⟨rfl, rfl⟩
              rw [(EI.out D1 e1).2, (EI.out D1 e1).1] at o1
              rw [(EP.out D2 e2).2, (EP.out D2 e2).1] at o2
              rw [← hn1, ← hn2]
              rw [← hn1] at f1
              rw [← hn2] at f2
              have T1 := Lib.hid (row_val (wideF I) o1)
              have T2 := Lib.hid (row_val (wideP P) o2)
              have O1 := Lib.hid (opL_one k2 x2 y2 s2 A3 n1 c3 A4 n2 c4)
              clear hkd hx hs hn0 hr hn1 hn2 hI hP e1 e2 o1 o2 h3 E1 E2
              have E := Lib.hid (E.out.go b3)
              have X := Lib.hid ((X.out.below b3 (Nat.le_refl _)).more b3.size)
              clear b3
              go_upto_region 26 with (refine wpList_boxed rfl 26 15 rfl rfl zOp (zeroVOp _) (.tmp 144) rfl rfl rfl (opL k2 x2 y2 s2 A3 n1 c3 A4 n2 c4) rfl rfl sizeOp rfl O1.out ?_; intro w4 hb3 hh3 hs3)
              obtain ⟨p, hq⟩ : ∃ q, q = w3.heap.size := ⟨_, rfl⟩
              rw [← hq] at hh3 ⊢
              have Qp := Lib.hid hh3
              have b3 := hb3
              have E := Lib.hid (E.out.go b3)
              have X := Lib.hid ((X.out.below b3 (Nat.le_refl _)).more b3.size)
              have T1 := Lib.hid ((T1.out.below b3 (Nat.le_refl _)).more b3.size)
              have T2 := Lib.hid ((T2.out.below b3 (Nat.le_refl _)).more b3.size)
              clear hb3 hh3 hs3 hq b3
              go_wp2_with fail
              refine (rget22 l2 (some ⟨g, 0, none⟩) N c7 w4 HL2.out (by omega) HC7.out HB2.out X.out).mono ?_
              rintro e w5 h5
              obtain ⟨b5, D5, A5, c5, D6, A6, c6, rfl, e5, e6, -, -, o5, o6⟩ := got_any h5
              rw [← EQ.out.1, ← EQ.out.2.1, ← EQ.out.2.2.1, ← EQ.out.2.2.2.1, ← EQ.out.2.2.2.2]
              rw [(EI.out D5 e5).2, (EI.out D5 e5).1] at o5
              rw [(EP.out D6 e6).2, (EP.out D6 e6).1] at o6
              rw [(EI.out D5 e5).1, (EP.out D6 e6).1]
              have T3 := Lib.hid (row_val (wideF I) o5)
              have T4 := Lib.hid (row_val (wideP P) o6)
              have O3 := Lib.hid (opL_one k2 x2 y2 s2 A5 n1 c5 A6 n2 c6)
              clear e5 e6 o5 o6 h5 EQ EI EP
              have E := Lib.hid (E.out.go b5)
              have T1 := Lib.hid ((T1.out.below b5 (Nat.le_refl _)).more b5.size)
              have T2 := Lib.hid ((T2.out.below b5 (Nat.le_refl _)).more b5.size)
              have Qp := Lib.hid ((b5.block _ (heap_lt Qp.out)).trans Qp.out)
              clear b5 X
              go_upto_region 27 with (refine wpList_boxed rfl 26 17 rfl rfl zOp (zeroVOp _) (.tmp 149) rfl rfl rfl (opL k2 x2 y2 s2 A5 n1 c5 A6 n2 c6) rfl rfl sizeOp rfl O3.out ?_; intro w6 hb3 hh3 hs3)
              obtain ⟨u, hq⟩ : ∃ q, q = w5.heap.size := ⟨_, rfl⟩
              rw [← hq] at hh3 ⊢
              have Qu := Lib.hid hh3
              have b3 := hb3
              have E := Lib.hid (E.out.go b3)
              have T1 := Lib.hid ((T1.out.below b3 (Nat.le_refl _)).more b3.size)
              have T2 := Lib.hid ((T2.out.below b3 (Nat.le_refl _)).more b3.size)
              have Qp := Lib.hid ((b3.block _ (heap_lt Qp.out)).trans Qp.out)
              have T3 := Lib.hid ((T3.out.below b3 (Nat.le_refl _)).more b3.size)
              have T4 := Lib.hid ((T4.out.below b3 (Nat.le_refl _)).more b3.size)
              clear hb3 hh3 hs3 hq b3
              obtain ⟨gb, hgb⟩ := own_at0 E.out.b (by omega)
              have hd := slice_head (P := Tryz.prog) Tryz.underlying30 size5 (A := Ab) (fun ad e => by rw [hgb] at e; cases e; rfl) N cb j (by omega) HCB.out
              have hd4 : ∀ W, (Instr.sliceAt 30 (.slice Ab N cb) none (some (.int .i64 j)) none).run Tryz.prog W = .ok (.slice Ab j cb) W := fun W => hd W
              clear hgb
              have X10 : Hid (Arr w6 w6.heap.size Ab j fun i => .int .u8 ((lb.take j).getD i 0)) := Lib.hid fun _ => by
                obtain ⟨b, off, e, hlt, hc⟩ := arr_own E.out.b HN.out (by omega)
                exact ⟨b, off, e, hlt, fun i hi => (hc i (by omega)).trans (by dsimp only; rw [List.getD_eq_getElem?_getD, List.getD_eq_getElem?_getD, List.getElem?_take, if_pos hi])⟩
              have HT : Hid ((lb.take j).length = j) := Lib.hid (by rw [List.length_take, HN.out]; omega)
              have HBt : Hid (Byt (lb.take j)) := Lib.hid fun x hx => HBl.out x (List.mem_of_mem_take hx)
              have HD : Hid (dec (lb.take j) = none) := Lib.hid (by
                have hq : Byt (enc (opR kd x y s elFN m elPN m)) := by rw [HE.out]; exact HBl.out
                have := dec_cut HRT.out ⟨nl_ko elFN m, pl_ko elPN m⟩ hq (c := j) (by rw [HE.out, HN.out]; exact hlj)
                rwa [HE.out] at this)
              have hjc : j ≤ cb := by have := HCB.out; omega
              clear hd
              go_wp2_with fail
              refine (get_no (lb.take j) Ab j cb w6 HT.out (by omega) hjc HBt.out X10.out HD.out).mono ?_
              rintro e w7 ⟨rfl, b7⟩
              have E := Lib.hid (E.out.go b7)
              have T1 := Lib.hid ((T1.out.below b7 (Nat.le_refl _)).more b7.size)
              have T2 := Lib.hid ((T2.out.below b7 (Nat.le_refl _)).more b7.size)
              have Qp := Lib.hid ((b7.block _ (heap_lt Qp.out)).trans Qp.out)
              have T3 := Lib.hid ((T3.out.below b7 (Nat.le_refl _)).more b7.size)
              have T4 := Lib.hid ((T4.out.below b7 (Nat.le_refl _)).more b7.size)
              have Qu := Lib.hid ((b7.block _ (heap_lt Qu.out)).trans Qu.out)
              clear b7 hd4 X10 HT HBt HD hjc
              go_upto_region 28 with (refine wpList_boxed rfl 26 19 rfl rfl zOp (zeroVOp _) (.tmp 156) rfl rfl rfl zOp rfl rfl sizeOp rfl ZO.out ?_; intro w8 hb3 hh3 hs3)
              obtain ⟨t, hq⟩ : ∃ q, q = w7.heap.size := ⟨_, rfl⟩
              rw [← hq] at hh3 ⊢
              have Qt := Lib.hid hh3
              have b3 := hb3
              have E := Lib.hid (E.out.go b3)
              have T1 := Lib.hid ((T1.out.below b3 (Nat.le_refl _)).more b3.size)
              have T2 := Lib.hid ((T2.out.below b3 (Nat.le_refl _)).more b3.size)
              have Qp := Lib.hid ((b3.block _ (heap_lt Qp.out)).trans Qp.out)
              have T3 := Lib.hid ((T3.out.below b3 (Nat.le_refl _)).more b3.size)
              have T4 := Lib.hid ((T4.out.below b3 (Nat.le_refl _)).more b3.size)
              have Qu := Lib.hid ((b3.block _ (heap_lt Qu.out)).trans Qu.out)
              clear hb3 hh3 hs3 hq b3
              have RP := Lib.hid (range_of Qp.out)
              have RU := Lib.hid (range_of Qu.out)
              go_wp2_with (first | (refine wpList_load_midG rfl 26 (.tmp 15) rfl p 0 rfl (opL k2 x2 y2 s2 A3 n1 c3 A4 n2 c4) _ RP.out Tryz.underlying26 rfl sizeOp ?_) | (refine wpList_load_midG rfl 26 (.tmp 17) rfl u 0 rfl (opL k2 x2 y2 s2 A5 n1 c5 A6 n2 c6) _ RU.out Tryz.underlying26 rfl sizeOp ?_))
              refine (same23 I P k2 x2 y2 s2 A3 A5 n1 c3 c5 A4 A6 n2 c4 c6 w8 (by omega) (by omega) T1.out T2.out T3.out T4.out).mono ?_
              rintro e w9 ⟨rfl, b9⟩
              have E := Lib.hid (E.out.go b9)
              clear b9 RP RU
              go_wp2_with fail
              go_roundw
              case rel => exact ⟨j + 1, by omega, by go_num, E.out⟩
              case measure => simp [intOf]; omega
            · obtain rfl : j = N := by omega
              go_wp2_with fail
              go_roundw
              case rel => exact ⟨k + 1, by omega, by go_num, E.out.d⟩
              case measure => simp [intOf]; omega
    · obtain rfl : k = 7 := by omega
      have B := Lib.hid D.out.below
      clear D
      go_wp2_with fail
      refine (full4 9 9 (by omega) wr).mono ?_
      rintro e w1 ⟨A1, c1, A2, c2, rfl, h1⟩
      have B1 := Lib.hid (B.out.trans (h1.below.mono B.out.size))
      have H1 := Lib.hid h1
      clear h1
      go_wp2_with fail
      refine (copyOp elFN elPN 1 0 0 0 A1 9 c1 A2 9 c2 w1 (by omega) (by omega) (row_val (wideF elFN) H1.out.r1) (row_val (wideP elPN) H1.out.r2) (row_nilS H1.out.r1) (row_nilS H1.out.r2)).mono ?_
      rintro e w2 ⟨A3, c3, A4, c4, rfl, h2⟩
      obtain ⟨g, rfl⟩ := own_at0 h2.r2 (by omega)
      have b3 := h2.below
      have R1 := Lib.hid (row_more h2.r1 B1.out.size)
      have R2 := Lib.hid (row_more h2.r2 B1.out.size)
      have B := Lib.hid (B1.out.trans (h2.below.mono B1.out.size))
      have O1 := Lib.hid (opL_one 1 0 0 0 A3 9 c3 (some ⟨g, 0, none⟩) 9 c4)
      clear h2 b3 B1 H1
      go_upto_region 31 with (refine wpList_boxed rfl 26 21 rfl rfl zOp (zeroVOp _) (.tmp 172) rfl rfl rfl (opL 1 0 0 0 A3 9 c3 (some ⟨g, 0, none⟩) 9 c4) rfl rfl sizeOp rfl O1.out ?_; intro w3 hb3 hh3 hs3)
      obtain ⟨p, hq⟩ : ∃ q, q = w2.heap.size := ⟨_, rfl⟩
      rw [← hq] at hh3 ⊢
      have Q := Lib.hid hh3
      have R1 := Lib.hid ((Keeps.fresh (S := fun _ => False) hb3).row R1.out fun _ _ h => h)
      have R2 := Lib.hid ((Keeps.fresh (S := fun _ => False) hb3).row R2.out fun _ _ h => h)
      have B := Lib.hid (B.out.trans (hb3.mono B.out.size))
      clear hb3 hh3 hs3 hq
      have e5 : w3.cell? ⟨p, 5, none⟩ = some (.slice (some ⟨g, 0, none⟩) 9 c4) := block_cell Q.out 5 _ rfl
      go_upto_region 33 with fail
      obtain ⟨u3, hu3⟩ : ∃ u, (elPN 3).1.x = u := ⟨_, rfl⟩
      have C3 : Hid (w3.cell? ⟨g, 105, none⟩ = some (.int .i64 u3)) := Lib.hid (by
        have h := elemP (w := w3) (L := elPN) (row_val (wideP elPN) R2.out) rfl (show 3 < 9 by omega)
        have h2 := (pu_slO (elPN 3) h).2
        rw [hu3] at h2
        exact h2)
      have C5 := Lib.hid e5
      have FZ : Hid ((∃ u, w3.cell? ⟨g, 140, none⟩ = some u) ∧ w3.frozen? ⟨g, 140, none⟩ = false) := Lib.hid (by
        obtain ⟨cur, hcur, hle⟩ := row_blk R2.out
        exact ⟨⟨cur.toArray[140]'(by simp; omega), block_cell hcur 140 _ (Array.getElem?_eq_getElem _)⟩, frozen_of_row w3 g 140 _ _ hcur⟩)
      clear e5
      refine wp_region_held_drew (S := fun _ => True) (by kernel_rfl) trivial (fun hHeld => ?_)
      refine wpAnyH_take (i := 0) (v := ?_) (by simp only [List.getElem?_toArray, List.getElem?_cons_zero]; rfl) (by kernel_rfl) (by kernel_rfl) (by kernel_rfl) (by intro _ _ _ h; exact h) (Or.inl ⟨by rfl, ?_⟩) hHeld ?_
      rotate_left
      · (intro w hSw; (try dsimp only at hSw); go_simp; try with_reducible rfl)
      try simp only [Act.put, List.setIfInBounds_toArray, List.set_cons_zero, List.set_cons_succ]
      refine wpAnyH_take (i := 2) (v := ?_) (by simp only [List.getElem?_toArray, List.getElem?_cons_zero, List.getElem?_cons_succ]; rfl) (by kernel_rfl) (by kernel_rfl) (by kernel_rfl) (by intro _ _ _ h; exact h) (Or.inl ⟨by rfl, ?_⟩) hHeld ?_
      rotate_left
      · (intro w hSw; (try dsimp only at hSw); go_simp; try with_reducible rfl)
      try simp only [Act.put, List.setIfInBounds_toArray, List.set_cons_zero, List.set_cons_succ]
      refine wpAnyH_ready (rs := [1, 3]) (by kernel_rfl) (by simp) ?_
      refine AllReadyH.cons (by simp only [List.getElem?_toArray, List.getElem?_cons_zero, List.getElem?_cons_succ]; rfl) (fun K hK => ?_) (AllReadyH.cons (by simp only [List.getElem?_toArray, List.getElem?_cons_zero, List.getElem?_cons_succ]; rfl) (fun K hK => ?_) AllReadyH.nil)
      · skip
        rw [if_pos (by rfl)]
        have ce5 := C5.out
        have ce5' : w3.drew.cell? ⟨p, 5, none⟩ = _ := ce5
        clear ce5
        go_simp
        refine hK.out _ _ trivial (fun hHeld => ?_)
        clear hK K
        try simp only [Act.put, List.setIfInBounds_toArray, List.set_cons_zero, List.set_cons_succ]
        clear ce5'
        refine wpAnyH_ready (rs := [3]) (by kernel_rfl) (by simp) ?_
        refine AllReadyH.cons (by simp only [List.getElem?_toArray, List.getElem?_cons_zero, List.getElem?_cons_succ]; rfl) (fun K hK => ?_) AllReadyH.nil
        rw [if_pos (by rfl)]
        have ce5 := C5.out
        have ce5' : w3.drew.cell? ⟨p, 5, none⟩ = _ := ce5
        clear ce5
        go_simp
        refine hK.out _ _ trivial (fun hHeld => ?_)
        clear hK K
        try simp only [Act.put, List.setIfInBounds_toArray, List.set_cons_zero, List.set_cons_succ]
        clear ce5'
        refine wpAnyH_take (i := 4) (v := ?_) (by simp only [List.getElem?_toArray, List.getElem?_cons_zero, List.getElem?_cons_succ]; rfl) (by kernel_rfl) (by kernel_rfl) (by kernel_rfl) (by intro _ _ _ h; exact h) (Or.inl ⟨by rfl, ?_⟩) hHeld ?_
        rotate_left
        · (intro w hSw; (try dsimp only at hSw); go_simp; try with_reducible rfl)
        try simp only [Act.put, List.setIfInBounds_toArray, List.set_cons_zero, List.set_cons_succ]
        refine wpAnyH_take (i := 5) (v := ?_) (by simp only [List.getElem?_toArray, List.getElem?_cons_zero, List.getElem?_cons_succ]; rfl) (by kernel_rfl) (by kernel_rfl) (by kernel_rfl) (by intro _ _ _ h; exact h) (Or.inl ⟨by rfl, ?_⟩) hHeld ?_
        rotate_left
        · (intro w hSw; (try dsimp only at hSw); go_simp; try with_reducible rfl)
        try simp only [Act.put, List.setIfInBounds_toArray, List.set_cons_zero, List.set_cons_succ]
        refine wpAnyH_ready (rs := [6]) (by kernel_rfl) (by simp) ?_
        refine AllReadyH.cons (by simp only [List.getElem?_toArray, List.getElem?_cons_zero, List.getElem?_cons_succ]; rfl) (fun K hK => ?_) AllReadyH.nil
        rw [if_pos (by rfl)]
        have ce5 := C3.out
        have ce5' : w3.drew.cell? ⟨g, 105, none⟩ = _ := ce5
        clear ce5
        go_simp
        refine hK.out _ _ trivial (fun hHeld => ?_)
        clear hK K
        try simp only [Act.put, List.setIfInBounds_toArray, List.set_cons_zero, List.set_cons_succ]
        clear ce5'
        refine wpAnyH_take (i := 7) (v := ?_) (by simp only [List.getElem?_toArray, List.getElem?_cons_zero, List.getElem?_cons_succ]; rfl) (by kernel_rfl) (by kernel_rfl) (by kernel_rfl) (by intro _ _ _ h; exact h) (Or.inl ⟨by rfl, ?_⟩) hHeld ?_
        rotate_left
        · (intro w hSw; (try dsimp only at hSw); go_simp; try with_reducible rfl)
        try simp only [Act.put, List.setIfInBounds_toArray, List.set_cons_zero, List.set_cons_succ]
        refine wpAnyH_take (i := 8) (v := ?_) (by simp only [List.getElem?_toArray, List.getElem?_cons_zero, List.getElem?_cons_succ]; rfl) (by kernel_rfl) (by kernel_rfl) (by kernel_rfl) (by intro _ _ _ h; exact h) (Or.inl ⟨by rfl, ?_⟩) hHeld ?_
        rotate_left
        · (intro w hSw; (try dsimp only at hSw); go_simp; try with_reducible rfl)
        try simp only [Act.put, List.setIfInBounds_toArray, List.set_cons_zero, List.set_cons_succ]
        refine wpAnyH_ready (rs := [9]) (by kernel_rfl) (by simp) ?_
        refine AllReadyH.cons (by simp only [List.getElem?_toArray, List.getElem?_cons_zero, List.getElem?_cons_succ]; rfl) (fun K hK => ?_) AllReadyH.nil
        rw [if_pos (by rfl)]
        obtain ⟨⟨u9, hu9⟩, hfz⟩ := FZ.out
        have hu9' : w3.drew.cell? ⟨g, 140, none⟩ = some u9 := hu9
        have hfz' : w3.drew.frozen? ⟨g, 140, none⟩ = false := hfz
        clear hu9 hfz
        go_simp
        refine hK.out _ _ trivial (fun hHeld => ?_)
        clear hK K
        try simp only [Act.put, List.setIfInBounds_toArray, List.set_cons_zero, List.set_cons_succ]
        refine wpAnyH_done (by kernel_rfl) ?_ _
        clear hHeld
        obtain ⟨w5, hw⟩ : ∃ w9, w9 = (w3.setCell ⟨g, 140, none⟩ (.int .i64 u3)).drew := ⟨_, rfl⟩
        rw [← hw]
        have KC : Hid (Keeps (fun x => x = g) w3 w5) := Lib.hid (by rw [hw]; exact (Keeps.setCell (fun x => x = g) w3 ⟨g, 140, none⟩ _ rfl).trans (Keeps.drew (fun x => x = g) _) fun _ _ h => h)
        have R2_ := R2
        have R2 : Hid (w5.ownsRow W.heap.size 48 35 (.slice (some ⟨g, 0, none⟩) 9 c4) 9 (flatS (fun j => cellsP (elPT j)) 9)) := Lib.hid (by
          have h := (Keeps.drew (fun _ => False) (w3.setCell ⟨g, 140, none⟩ (.int .i64 u3))).row (own_set1 (o := 140) (v := .int .i64 u3) R2.out (by omega) rfl) fun _ _ h => h
          have h2 := flatS_set (F := fun j => cellsP (elPN j)) (G := fun j => cellsP (elPT j)) (s := 35) (i := 4) (q := 0) (n := 9) (u := .int .i64 u3) (wideP elPN) (by
            show cellsP (elPT 4) = (cellsP (elPN 4)).set 0 _
            rw [← hu3]
            rfl) (by omega) (fun j hj => by show cellsP (elPT j) = _; rw [show elPT j = elPN j from if_neg hj]) (by omega)
          rw [← hw, h2] at h
          exact h)
        have R0 := R2_
        have Q := Lib.hid (KC.out.heap Q.out (fun e => row_ne_cells R0.out Q.out (by decide) (by rw [e]; rfl)))
        have R1 := Lib.hid (KC.out.row R1.out fun k h1 e => own_ne R1.out R0.out (by decide) h1 (by rw [e]; rfl))
        have B := Lib.hid (B.out.trans (KC.out.below (fun x e => by rw [show x = g from e]; exact (R0.out.lt g rfl).1) B.out.size))
        clear hw KC C3 C5 FZ hu9' hfz' R0
        have RP := Lib.hid (range_of Q.out)
        have S1 := Lib.hid (row_val (wideF elFN) R1.out)
        have S2 := Lib.hid (row_val (wideP elPT) R2.out)
        go_wp2_with (refine wpList_load_midG rfl 26 (.tmp 21) rfl p 0 rfl (opL 1 0 0 0 A3 9 c3 (some ⟨g, 0, none⟩) 9 c4) _ RP.out Tryz.underlying26 rfl sizeOp ?_)
        refine (put12 elFN elPT 1 0 0 0 A3 9 c3 (some ⟨g, 0, none⟩) 9 c4 w5 (by omega) (by omega) (by decide) S1.out S2.out).mono ?_
        rintro e w6 h6
        obtain ⟨rfl, b6⟩ := put_no h6 rightT
        have Q := Lib.hid ((b6.block _ (heap_lt Q.out)).trans Q.out)
        have S1 := Lib.hid ((S1.out.below b6 (Nat.le_refl _)).more b6.size)
        have S2 := Lib.hid ((S2.out.below b6 (Nat.le_refl _)).more b6.size)
        have B := Lib.hid (B.out.trans (b6.mono B.out.size))
        have RP := Lib.hid (range_of Q.out)
        clear h6 b6
        go_wp2_with (refine wpList_load_midG rfl 26 (.tmp 21) rfl p 0 rfl (opL 1 0 0 0 A3 9 c3 (some ⟨g, 0, none⟩) 9 c4) _ RP.out Tryz.underlying26 rfl sizeOp ?_)
        refine (rput15 elFN elPT 1 0 0 0 A3 9 c3 (some ⟨g, 0, none⟩) 9 c4 w6 (by omega) (by omega) (by decide) S1.out S2.out).mono ?_
        rintro e w7 h7
        obtain ⟨rfl, b7⟩ := put_no h7 rightT
        have Q := Lib.hid ((b7.block _ (heap_lt Q.out)).trans Q.out)
        have S1 := Lib.hid ((S1.out.below b7 (Nat.le_refl _)).more b7.size)
        have S2 := Lib.hid ((S2.out.below b7 (Nat.le_refl _)).more b7.size)
        have B := Lib.hid (B.out.trans (b7.mono B.out.size))
        clear h7 b7 RP
        go_wp2_with fail
        refine (full4 0 18 (by omega) w7).mono ?_
        rintro e w8 ⟨A5, c5, A6, c6, rfl, h8⟩
        have b8 := h8.below
        have Q := Lib.hid ((b8.block _ (heap_lt Q.out)).trans Q.out)
        have S1 := Lib.hid ((S1.out.below b8 (Nat.le_refl _)).more b8.size)
        have S2 := Lib.hid ((S2.out.below b8 (Nat.le_refl _)).more b8.size)
        have B := Lib.hid (B.out.trans (b8.mono B.out.size))
        have T1 := Lib.hid (row_val (wideF elFN) h8.r1)
        have T2 := Lib.hid (row_val (wideP elPN) h8.r2)
        clear h8 b8
        go_wp2_with fail
        refine (put12 elFN elPN 1 0 0 0 A5 18 c5 A6 18 c6 w8 (by omega) (by omega) (by decide) T1.out T2.out).mono ?_
        rintro e w9 h9
        obtain ⟨A7, c7, rfl, -, -, -, -, b9⟩ := put_yes h9 right18 rfl len18
        have Q := Lib.hid ((b9.block _ (heap_lt Q.out)).trans Q.out)
        have S1 := Lib.hid ((S1.out.below b9 (Nat.le_refl _)).more b9.size)
        have S2 := Lib.hid ((S2.out.below b9 (Nat.le_refl _)).more b9.size)
        have B := Lib.hid (B.out.trans (b9.mono B.out.size))
        have RP := Lib.hid (range_of Q.out)
        clear h9 b9 T1 T2
        go_wp2_with (refine wpList_load_midG rfl 26 (.tmp 21) rfl p 0 rfl (opL 1 0 0 0 A3 9 c3 (some ⟨g, 0, none⟩) 9 c4) _ RP.out Tryz.underlying26 rfl sizeOp ?_)
        refine (right10 elFN elPT 1 0 0 0 A3 9 c3 (some ⟨g, 0, none⟩) 9 c4 w9 (by omega) (by omega) S1.out S2.out).mono ?_
        rw [rightT]
        rintro e w10 ⟨rfl, b10⟩
        have B := Lib.hid (B.out.trans (b10.mono B.out.size))
        clear b10 RP S1 S2 Q
        go_wp2_with fail
        refine (gets4 (fun _ => 0) none 0 0 w10 (Nat.le_refl _) (fun h => absurd h (by omega)) (fun _ => ⟨rfl, rfl⟩) (fun i hi => absurd hi (by omega)) (by omega)).mono ?_
        rintro e w11 ⟨rfl, b11⟩
        have B := Lib.hid (B.out.trans (b11.mono B.out.size))
        clear b11
        go_wp2_with fail
        refine (awake8 w11).mono ?_
        rintro e w12 ⟨rfl, b12⟩
        have B := Lib.hid (B.out.trans (b12.mono B.out.size))
        clear b12
        go_wp2_with fail
        go_ret
        exact ⟨rfl, B.out⟩
      · skip
        rw [if_pos (by rfl)]
        have ce5 := C5.out
        have ce5' : w3.drew.cell? ⟨p, 5, none⟩ = _ := ce5
        clear ce5
        go_simp
        refine hK.out _ _ trivial (fun hHeld => ?_)
        clear hK K
        try simp only [Act.put, List.setIfInBounds_toArray, List.set_cons_zero, List.set_cons_succ]
        clear ce5'
        refine wpAnyH_take (i := 4) (v := ?_) (by simp only [List.getElem?_toArray, List.getElem?_cons_zero, List.getElem?_cons_succ]; rfl) (by kernel_rfl) (by kernel_rfl) (by kernel_rfl) (by intro _ _ _ h; exact h) (Or.inl ⟨by rfl, ?_⟩) hHeld ?_
        rotate_left
        · (intro w hSw; (try dsimp only at hSw); go_simp; try with_reducible rfl)
        try simp only [Act.put, List.setIfInBounds_toArray, List.set_cons_zero, List.set_cons_succ]
        refine wpAnyH_take (i := 5) (v := ?_) (by simp only [List.getElem?_toArray, List.getElem?_cons_zero, List.getElem?_cons_succ]; rfl) (by kernel_rfl) (by kernel_rfl) (by kernel_rfl) (by intro _ _ _ h; exact h) (Or.inl ⟨by rfl, ?_⟩) hHeld ?_
        rotate_left
        · (intro w hSw; (try dsimp only at hSw); go_simp; try with_reducible rfl)
        try simp only [Act.put, List.setIfInBounds_toArray, List.set_cons_zero, List.set_cons_succ]
        refine wpAnyH_ready (rs := [1, 6]) (by kernel_rfl) (by simp) ?_
        refine AllReadyH.cons (by simp only [List.getElem?_toArray, List.getElem?_cons_zero, List.getElem?_cons_succ]; rfl) (fun K hK => ?_) (AllReadyH.cons (by simp only [List.getElem?_toArray, List.getElem?_cons_zero, List.getElem?_cons_succ]; rfl) (fun K hK => ?_) AllReadyH.nil)
        · skip
          rw [if_pos (by rfl)]
          have ce5 := C5.out
          have ce5' : w3.drew.cell? ⟨p, 5, none⟩ = _ := ce5
          clear ce5
          go_simp
          refine hK.out _ _ trivial (fun hHeld => ?_)
          clear hK K
          try simp only [Act.put, List.setIfInBounds_toArray, List.set_cons_zero, List.set_cons_succ]
          clear ce5'
          refine wpAnyH_ready (rs := [6]) (by kernel_rfl) (by simp) ?_
          refine AllReadyH.cons (by simp only [List.getElem?_toArray, List.getElem?_cons_zero, List.getElem?_cons_succ]; rfl) (fun K hK => ?_) AllReadyH.nil
          rw [if_pos (by rfl)]
          have ce5 := C3.out
          have ce5' : w3.drew.cell? ⟨g, 105, none⟩ = _ := ce5
          clear ce5
          go_simp
          refine hK.out _ _ trivial (fun hHeld => ?_)
          clear hK K
          try simp only [Act.put, List.setIfInBounds_toArray, List.set_cons_zero, List.set_cons_succ]
          clear ce5'
          refine wpAnyH_take (i := 7) (v := ?_) (by simp only [List.getElem?_toArray, List.getElem?_cons_zero, List.getElem?_cons_succ]; rfl) (by kernel_rfl) (by kernel_rfl) (by kernel_rfl) (by intro _ _ _ h; exact h) (Or.inl ⟨by rfl, ?_⟩) hHeld ?_
          rotate_left
          · (intro w hSw; (try dsimp only at hSw); go_simp; try with_reducible rfl)
          try simp only [Act.put, List.setIfInBounds_toArray, List.set_cons_zero, List.set_cons_succ]
          refine wpAnyH_take (i := 8) (v := ?_) (by simp only [List.getElem?_toArray, List.getElem?_cons_zero, List.getElem?_cons_succ]; rfl) (by kernel_rfl) (by kernel_rfl) (by kernel_rfl) (by intro _ _ _ h; exact h) (Or.inl ⟨by rfl, ?_⟩) hHeld ?_
          rotate_left
          · (intro w hSw; (try dsimp only at hSw); go_simp; try with_reducible rfl)
          try simp only [Act.put, List.setIfInBounds_toArray, List.set_cons_zero, List.set_cons_succ]
          refine wpAnyH_ready (rs := [9]) (by kernel_rfl) (by simp) ?_
          refine AllReadyH.cons (by simp only [List.getElem?_toArray, List.getElem?_cons_zero, List.getElem?_cons_succ]; rfl) (fun K hK => ?_) AllReadyH.nil
          rw [if_pos (by rfl)]
          obtain ⟨⟨u9, hu9⟩, hfz⟩ := FZ.out
          have hu9' : w3.drew.cell? ⟨g, 140, none⟩ = some u9 := hu9
          have hfz' : w3.drew.frozen? ⟨g, 140, none⟩ = false := hfz
          clear hu9 hfz
          go_simp
          refine hK.out _ _ trivial (fun hHeld => ?_)
          clear hK K
          try simp only [Act.put, List.setIfInBounds_toArray, List.set_cons_zero, List.set_cons_succ]
          refine wpAnyH_done (by kernel_rfl) ?_ _
          clear hHeld
          obtain ⟨w5, hw⟩ : ∃ w9, w9 = (w3.setCell ⟨g, 140, none⟩ (.int .i64 u3)).drew := ⟨_, rfl⟩
          rw [← hw]
          have KC : Hid (Keeps (fun x => x = g) w3 w5) := Lib.hid (by rw [hw]; exact (Keeps.setCell (fun x => x = g) w3 ⟨g, 140, none⟩ _ rfl).trans (Keeps.drew (fun x => x = g) _) fun _ _ h => h)
          have R2_ := R2
          have R2 : Hid (w5.ownsRow W.heap.size 48 35 (.slice (some ⟨g, 0, none⟩) 9 c4) 9 (flatS (fun j => cellsP (elPT j)) 9)) := Lib.hid (by
            have h := (Keeps.drew (fun _ => False) (w3.setCell ⟨g, 140, none⟩ (.int .i64 u3))).row (own_set1 (o := 140) (v := .int .i64 u3) R2.out (by omega) rfl) fun _ _ h => h
            have h2 := flatS_set (F := fun j => cellsP (elPN j)) (G := fun j => cellsP (elPT j)) (s := 35) (i := 4) (q := 0) (n := 9) (u := .int .i64 u3) (wideP elPN) (by
              show cellsP (elPT 4) = (cellsP (elPN 4)).set 0 _
              rw [← hu3]
              rfl) (by omega) (fun j hj => by show cellsP (elPT j) = _; rw [show elPT j = elPN j from if_neg hj]) (by omega)
            rw [← hw, h2] at h
            exact h)
          have R0 := R2_
          have Q := Lib.hid (KC.out.heap Q.out (fun e => row_ne_cells R0.out Q.out (by decide) (by rw [e]; rfl)))
          have R1 := Lib.hid (KC.out.row R1.out fun k h1 e => own_ne R1.out R0.out (by decide) h1 (by rw [e]; rfl))
          have B := Lib.hid (B.out.trans (KC.out.below (fun x e => by rw [show x = g from e]; exact (R0.out.lt g rfl).1) B.out.size))
          clear hw KC C3 C5 FZ hu9' hfz' R0
          have RP := Lib.hid (range_of Q.out)
          have S1 := Lib.hid (row_val (wideF elFN) R1.out)
          have S2 := Lib.hid (row_val (wideP elPT) R2.out)
          go_wp2_with (refine wpList_load_midG rfl 26 (.tmp 21) rfl p 0 rfl (opL 1 0 0 0 A3 9 c3 (some ⟨g, 0, none⟩) 9 c4) _ RP.out Tryz.underlying26 rfl sizeOp ?_)
          refine (put12 elFN elPT 1 0 0 0 A3 9 c3 (some ⟨g, 0, none⟩) 9 c4 w5 (by omega) (by omega) (by decide) S1.out S2.out).mono ?_
          rintro e w6 h6
          obtain ⟨rfl, b6⟩ := put_no h6 rightT
          have Q := Lib.hid ((b6.block _ (heap_lt Q.out)).trans Q.out)
          have S1 := Lib.hid ((S1.out.below b6 (Nat.le_refl _)).more b6.size)
          have S2 := Lib.hid ((S2.out.below b6 (Nat.le_refl _)).more b6.size)
          have B := Lib.hid (B.out.trans (b6.mono B.out.size))
          have RP := Lib.hid (range_of Q.out)
          clear h6 b6
          go_wp2_with (refine wpList_load_midG rfl 26 (.tmp 21) rfl p 0 rfl (opL 1 0 0 0 A3 9 c3 (some ⟨g, 0, none⟩) 9 c4) _ RP.out Tryz.underlying26 rfl sizeOp ?_)
          refine (rput15 elFN elPT 1 0 0 0 A3 9 c3 (some ⟨g, 0, none⟩) 9 c4 w6 (by omega) (by omega) (by decide) S1.out S2.out).mono ?_
          rintro e w7 h7
          obtain ⟨rfl, b7⟩ := put_no h7 rightT
          have Q := Lib.hid ((b7.block _ (heap_lt Q.out)).trans Q.out)
          have S1 := Lib.hid ((S1.out.below b7 (Nat.le_refl _)).more b7.size)
          have S2 := Lib.hid ((S2.out.below b7 (Nat.le_refl _)).more b7.size)
          have B := Lib.hid (B.out.trans (b7.mono B.out.size))
          clear h7 b7 RP
          go_wp2_with fail
          refine (full4 0 18 (by omega) w7).mono ?_
          rintro e w8 ⟨A5, c5, A6, c6, rfl, h8⟩
          have b8 := h8.below
          have Q := Lib.hid ((b8.block _ (heap_lt Q.out)).trans Q.out)
          have S1 := Lib.hid ((S1.out.below b8 (Nat.le_refl _)).more b8.size)
          have S2 := Lib.hid ((S2.out.below b8 (Nat.le_refl _)).more b8.size)
          have B := Lib.hid (B.out.trans (b8.mono B.out.size))
          have T1 := Lib.hid (row_val (wideF elFN) h8.r1)
          have T2 := Lib.hid (row_val (wideP elPN) h8.r2)
          clear h8 b8
          go_wp2_with fail
          refine (put12 elFN elPN 1 0 0 0 A5 18 c5 A6 18 c6 w8 (by omega) (by omega) (by decide) T1.out T2.out).mono ?_
          rintro e w9 h9
          obtain ⟨A7, c7, rfl, -, -, -, -, b9⟩ := put_yes h9 right18 rfl len18
          have Q := Lib.hid ((b9.block _ (heap_lt Q.out)).trans Q.out)
          have S1 := Lib.hid ((S1.out.below b9 (Nat.le_refl _)).more b9.size)
          have S2 := Lib.hid ((S2.out.below b9 (Nat.le_refl _)).more b9.size)
          have B := Lib.hid (B.out.trans (b9.mono B.out.size))
          have RP := Lib.hid (range_of Q.out)
          clear h9 b9 T1 T2
          go_wp2_with (refine wpList_load_midG rfl 26 (.tmp 21) rfl p 0 rfl (opL 1 0 0 0 A3 9 c3 (some ⟨g, 0, none⟩) 9 c4) _ RP.out Tryz.underlying26 rfl sizeOp ?_)
          refine (right10 elFN elPT 1 0 0 0 A3 9 c3 (some ⟨g, 0, none⟩) 9 c4 w9 (by omega) (by omega) S1.out S2.out).mono ?_
          rw [rightT]
          rintro e w10 ⟨rfl, b10⟩
          have B := Lib.hid (B.out.trans (b10.mono B.out.size))
          clear b10 RP S1 S2 Q
          go_wp2_with fail
          refine (gets4 (fun _ => 0) none 0 0 w10 (Nat.le_refl _) (fun h => absurd h (by omega)) (fun _ => ⟨rfl, rfl⟩) (fun i hi => absurd hi (by omega)) (by omega)).mono ?_
          rintro e w11 ⟨rfl, b11⟩
          have B := Lib.hid (B.out.trans (b11.mono B.out.size))
          clear b11
          go_wp2_with fail
          refine (awake8 w11).mono ?_
          rintro e w12 ⟨rfl, b12⟩
          have B := Lib.hid (B.out.trans (b12.mono B.out.size))
          clear b12
          go_wp2_with fail
          go_ret
          exact ⟨rfl, B.out⟩
        · skip
          rw [if_pos (by rfl)]
          have ce5 := C3.out
          have ce5' : w3.drew.cell? ⟨g, 105, none⟩ = _ := ce5
          clear ce5
          go_simp
          refine hK.out _ _ trivial (fun hHeld => ?_)
          clear hK K
          try simp only [Act.put, List.setIfInBounds_toArray, List.set_cons_zero, List.set_cons_succ]
          clear ce5'
          refine wpAnyH_ready (rs := [1]) (by kernel_rfl) (by simp) ?_
          refine AllReadyH.cons (by simp only [List.getElem?_toArray, List.getElem?_cons_zero, List.getElem?_cons_succ]; rfl) (fun K hK => ?_) AllReadyH.nil
          rw [if_pos (by rfl)]
          have ce5 := C5.out
          have ce5' : w3.drew.cell? ⟨p, 5, none⟩ = _ := ce5
          clear ce5
          go_simp
          refine hK.out _ _ trivial (fun hHeld => ?_)
          clear hK K
          try simp only [Act.put, List.setIfInBounds_toArray, List.set_cons_zero, List.set_cons_succ]
          clear ce5'
          refine wpAnyH_take (i := 7) (v := ?_) (by simp only [List.getElem?_toArray, List.getElem?_cons_zero, List.getElem?_cons_succ]; rfl) (by kernel_rfl) (by kernel_rfl) (by kernel_rfl) (by intro _ _ _ h; exact h) (Or.inl ⟨by rfl, ?_⟩) hHeld ?_
          rotate_left
          · (intro w hSw; (try dsimp only at hSw); go_simp; try with_reducible rfl)
          try simp only [Act.put, List.setIfInBounds_toArray, List.set_cons_zero, List.set_cons_succ]
          refine wpAnyH_take (i := 8) (v := ?_) (by simp only [List.getElem?_toArray, List.getElem?_cons_zero, List.getElem?_cons_succ]; rfl) (by kernel_rfl) (by kernel_rfl) (by kernel_rfl) (by intro _ _ _ h; exact h) (Or.inl ⟨by rfl, ?_⟩) hHeld ?_
          rotate_left
          · (intro w hSw; (try dsimp only at hSw); go_simp; try with_reducible rfl)
          try simp only [Act.put, List.setIfInBounds_toArray, List.set_cons_zero, List.set_cons_succ]
          refine wpAnyH_ready (rs := [9]) (by kernel_rfl) (by simp) ?_
          refine AllReadyH.cons (by simp only [List.getElem?_toArray, List.getElem?_cons_zero, List.getElem?_cons_succ]; rfl) (fun K hK => ?_) AllReadyH.nil
          rw [if_pos (by rfl)]
          obtain ⟨⟨u9, hu9⟩, hfz⟩ := FZ.out
          have hu9' : w3.drew.cell? ⟨g, 140, none⟩ = some u9 := hu9
          have hfz' : w3.drew.frozen? ⟨g, 140, none⟩ = false := hfz
          clear hu9 hfz
          go_simp
          refine hK.out _ _ trivial (fun hHeld => ?_)
          clear hK K
          try simp only [Act.put, List.setIfInBounds_toArray, List.set_cons_zero, List.set_cons_succ]
          refine wpAnyH_done (by kernel_rfl) ?_ _
          clear hHeld
          obtain ⟨w5, hw⟩ : ∃ w9, w9 = (w3.setCell ⟨g, 140, none⟩ (.int .i64 u3)).drew := ⟨_, rfl⟩
          rw [← hw]
          have KC : Hid (Keeps (fun x => x = g) w3 w5) := Lib.hid (by rw [hw]; exact (Keeps.setCell (fun x => x = g) w3 ⟨g, 140, none⟩ _ rfl).trans (Keeps.drew (fun x => x = g) _) fun _ _ h => h)
          have R2_ := R2
          have R2 : Hid (w5.ownsRow W.heap.size 48 35 (.slice (some ⟨g, 0, none⟩) 9 c4) 9 (flatS (fun j => cellsP (elPT j)) 9)) := Lib.hid (by
            have h := (Keeps.drew (fun _ => False) (w3.setCell ⟨g, 140, none⟩ (.int .i64 u3))).row (own_set1 (o := 140) (v := .int .i64 u3) R2.out (by omega) rfl) fun _ _ h => h
            have h2 := flatS_set (F := fun j => cellsP (elPN j)) (G := fun j => cellsP (elPT j)) (s := 35) (i := 4) (q := 0) (n := 9) (u := .int .i64 u3) (wideP elPN) (by
              show cellsP (elPT 4) = (cellsP (elPN 4)).set 0 _
              rw [← hu3]
              rfl) (by omega) (fun j hj => by show cellsP (elPT j) = _; rw [show elPT j = elPN j from if_neg hj]) (by omega)
            rw [← hw, h2] at h
            exact h)
          have R0 := R2_
          have Q := Lib.hid (KC.out.heap Q.out (fun e => row_ne_cells R0.out Q.out (by decide) (by rw [e]; rfl)))
          have R1 := Lib.hid (KC.out.row R1.out fun k h1 e => own_ne R1.out R0.out (by decide) h1 (by rw [e]; rfl))
          have B := Lib.hid (B.out.trans (KC.out.below (fun x e => by rw [show x = g from e]; exact (R0.out.lt g rfl).1) B.out.size))
          clear hw KC C3 C5 FZ hu9' hfz' R0
          have RP := Lib.hid (range_of Q.out)
          have S1 := Lib.hid (row_val (wideF elFN) R1.out)
          have S2 := Lib.hid (row_val (wideP elPT) R2.out)
          go_wp2_with (refine wpList_load_midG rfl 26 (.tmp 21) rfl p 0 rfl (opL 1 0 0 0 A3 9 c3 (some ⟨g, 0, none⟩) 9 c4) _ RP.out Tryz.underlying26 rfl sizeOp ?_)
          refine (put12 elFN elPT 1 0 0 0 A3 9 c3 (some ⟨g, 0, none⟩) 9 c4 w5 (by omega) (by omega) (by decide) S1.out S2.out).mono ?_
          rintro e w6 h6
          obtain ⟨rfl, b6⟩ := put_no h6 rightT
          have Q := Lib.hid ((b6.block _ (heap_lt Q.out)).trans Q.out)
          have S1 := Lib.hid ((S1.out.below b6 (Nat.le_refl _)).more b6.size)
          have S2 := Lib.hid ((S2.out.below b6 (Nat.le_refl _)).more b6.size)
          have B := Lib.hid (B.out.trans (b6.mono B.out.size))
          have RP := Lib.hid (range_of Q.out)
          clear h6 b6
          go_wp2_with (refine wpList_load_midG rfl 26 (.tmp 21) rfl p 0 rfl (opL 1 0 0 0 A3 9 c3 (some ⟨g, 0, none⟩) 9 c4) _ RP.out Tryz.underlying26 rfl sizeOp ?_)
          refine (rput15 elFN elPT 1 0 0 0 A3 9 c3 (some ⟨g, 0, none⟩) 9 c4 w6 (by omega) (by omega) (by decide) S1.out S2.out).mono ?_
          rintro e w7 h7
          obtain ⟨rfl, b7⟩ := put_no h7 rightT
          have Q := Lib.hid ((b7.block _ (heap_lt Q.out)).trans Q.out)
          have S1 := Lib.hid ((S1.out.below b7 (Nat.le_refl _)).more b7.size)
          have S2 := Lib.hid ((S2.out.below b7 (Nat.le_refl _)).more b7.size)
          have B := Lib.hid (B.out.trans (b7.mono B.out.size))
          clear h7 b7 RP
          go_wp2_with fail
          refine (full4 0 18 (by omega) w7).mono ?_
          rintro e w8 ⟨A5, c5, A6, c6, rfl, h8⟩
          have b8 := h8.below
          have Q := Lib.hid ((b8.block _ (heap_lt Q.out)).trans Q.out)
          have S1 := Lib.hid ((S1.out.below b8 (Nat.le_refl _)).more b8.size)
          have S2 := Lib.hid ((S2.out.below b8 (Nat.le_refl _)).more b8.size)
          have B := Lib.hid (B.out.trans (b8.mono B.out.size))
          have T1 := Lib.hid (row_val (wideF elFN) h8.r1)
          have T2 := Lib.hid (row_val (wideP elPN) h8.r2)
          clear h8 b8
          go_wp2_with fail
          refine (put12 elFN elPN 1 0 0 0 A5 18 c5 A6 18 c6 w8 (by omega) (by omega) (by decide) T1.out T2.out).mono ?_
          rintro e w9 h9
          obtain ⟨A7, c7, rfl, -, -, -, -, b9⟩ := put_yes h9 right18 rfl len18
          have Q := Lib.hid ((b9.block _ (heap_lt Q.out)).trans Q.out)
          have S1 := Lib.hid ((S1.out.below b9 (Nat.le_refl _)).more b9.size)
          have S2 := Lib.hid ((S2.out.below b9 (Nat.le_refl _)).more b9.size)
          have B := Lib.hid (B.out.trans (b9.mono B.out.size))
          have RP := Lib.hid (range_of Q.out)
          clear h9 b9 T1 T2
          go_wp2_with (refine wpList_load_midG rfl 26 (.tmp 21) rfl p 0 rfl (opL 1 0 0 0 A3 9 c3 (some ⟨g, 0, none⟩) 9 c4) _ RP.out Tryz.underlying26 rfl sizeOp ?_)
          refine (right10 elFN elPT 1 0 0 0 A3 9 c3 (some ⟨g, 0, none⟩) 9 c4 w9 (by omega) (by omega) S1.out S2.out).mono ?_
          rw [rightT]
          rintro e w10 ⟨rfl, b10⟩
          have B := Lib.hid (B.out.trans (b10.mono B.out.size))
          clear b10 RP S1 S2 Q
          go_wp2_with fail
          refine (gets4 (fun _ => 0) none 0 0 w10 (Nat.le_refl _) (fun h => absurd h (by omega)) (fun _ => ⟨rfl, rfl⟩) (fun i hi => absurd hi (by omega)) (by omega)).mono ?_
          rintro e w11 ⟨rfl, b11⟩
          have B := Lib.hid (B.out.trans (b11.mono B.out.size))
          clear b11
          go_wp2_with fail
          refine (awake8 w11).mono ?_
          rintro e w12 ⟨rfl, b12⟩
          have B := Lib.hid (B.out.trans (b12.mono B.out.size))
          clear b12
          go_wp2_with fail
          go_ret
          exact ⟨rfl, B.out⟩
end Go.Proofs.YthdllbbjajddiaaGreatDoor
