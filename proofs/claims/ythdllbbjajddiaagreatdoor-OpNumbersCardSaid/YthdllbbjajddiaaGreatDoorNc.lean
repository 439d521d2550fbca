/- Layer 25 (op): an op with one thing turned. Printed by genNc.py. -/
import Derived.Test.YthdllbbjajddiaaGreatDoorNb
set_option linter.all false
namespace Go.Proofs.YthdllbbjajddiaaGreatDoor
open Go.RowKit Go.Maps Go.WideMaps
/-- What bent gives: some op, its rows owned by the call. -/
def BentP (W : World) (e : Ending) (W' : World) : Prop := ∃ (kd x y s : Int) (A1 : Option Addr) (n1 c1 : Nat) (I : Nat → ElF) (A2 : Option Addr) (n2 c2 : Nat) (P : Nat → ElP), e = .returned (opV kd x y s A1 n1 c1 A2 n2 c2) ∧ (0 ≤ kd ∧ kd < 256) ∧ n1 ≤ 100 ∧ n2 ≤ 100 ∧ Own2 W W' A1 n1 c1 I A2 n2 c2 P
theorem yields_and {P : Program} {ops : Array Oper} {S : World → Prop} {op : Oper} {a : Act} (hw : Region.wanted op (yielded ops a.tmps) = true) (t t2 : TypeId) (x y : Operand) (ho : op.op = .binOp .and t x y t2) (u v : Int) (hx : a.eval x = .int .i64 u) (hy : a.eval y = .int .i64 v) (z : Int)
    (hz : IntKind.i64.wrap ((BitVec.ofInt 64 u &&& BitVec.ofInt 64 v).toNat : Nat) = z) : YieldsIf P ops S op (.int .i64 z) a :=
  .inl ⟨hw, fun w _ => by
    have h1 : binOp .and t (.int .i64 u) (.int .i64 v) = pure (.int .i64 z) := by
      unfold binOp
      simp only [Op.intBits]
      exact congrArg (fun q => (pure (.int .i64 q) : Sem Value)) hz
    unfold execOp
    simp [ho, hx, hy, h1, eqGuard]⟩
theorem and7 (v : Int) : ∃ z : Nat, z ≤ 7 ∧ IntKind.i64.wrap ((BitVec.ofInt 64 v &&& BitVec.ofInt 64 7).toNat : Nat) = (z : Int) := by
  have h : (BitVec.ofInt 64 v &&& BitVec.ofInt 64 7).toNat ≤ 7 := by
    rw [BitVec.toNat_and]
    exact Nat.and_le_right
  exact ⟨_, h, IntWalk.i64_in _ (by omega)⟩
/-- A row's first element, one of its cells set. -/
def setAt {α : Type} (I : Nat → α) (c : α) : Nat → α := fun i => if i = 0 then c else I i
theorem flat_set0 {s q n : Nat} {F G : Nat → List Value} {u : Value} (hF : Wide s F) (h0 : G 0 = (F 0).set q u) (hq : q < s) (ho : ∀ j, j ≠ 0 → G j = F j) (hn : 0 < n) : (flatS F n).set q u = flatS G n := by
  have h := flatS_set (i := 0) (n := n) hF h0 hq ho hn
  rwa [Nat.zero_mul, Nat.zero_add] at h
def fSet0 (f : ElF) (v : Int) (hv : (Lit.int .i64 v).wf = true) : ElF := ⟨⟨f.1.k, v, f.1.n, f.1.u, f.1.r⟩, ⟨f.2.key, hv, f.2.n, f.2.u, f.2.r⟩⟩
theorem fSet0_cells (f : ElF) (v : Int) (hv : (Lit.int .i64 v).wf = true) : cellsF (fSet0 f v hv) = (cellsF f).set 32 (.int .i64 v) := by
  obtain ⟨⟨k, a, n, u, r⟩, h⟩ := f
  show u8l k ++ _ = (u8l k ++ _).set 32 _
  rw [List.set_append, if_neg (by rw [u8l_len, h.key.len]; omega), u8l_len, h.key.len]
  rfl
def fSet1 (f : ElF) (v : Int) (hv : (Lit.int .i64 v).wf = true) : ElF := ⟨⟨f.1.k, f.1.a, v, f.1.u, f.1.r⟩, ⟨f.2.key, f.2.a, hv, f.2.u, f.2.r⟩⟩
theorem fSet1_cells (f : ElF) (v : Int) (hv : (Lit.int .i64 v).wf = true) : cellsF (fSet1 f v hv) = (cellsF f).set 33 (.int .i64 v) := by
  obtain ⟨⟨k, a, n, u, r⟩, h⟩ := f
  show u8l k ++ _ = (u8l k ++ _).set 33 _
  rw [List.set_append, if_neg (by rw [u8l_len, h.key.len]; omega), u8l_len, h.key.len]
  rfl
def fSet2 (f : ElF) (v : Int) (hv : (Lit.int .i64 v).wf = true) : ElF := ⟨⟨f.1.k, f.1.a, f.1.n, v, f.1.r⟩, ⟨f.2.key, f.2.a, f.2.n, hv, f.2.r⟩⟩
theorem fSet2_cells (f : ElF) (v : Int) (hv : (Lit.int .i64 v).wf = true) : cellsF (fSet2 f v hv) = (cellsF f).set 34 (.int .i64 v) := by
  obtain ⟨⟨k, a, n, u, r⟩, h⟩ := f
  show u8l k ++ _ = (u8l k ++ _).set 34 _
  rw [List.set_append, if_neg (by rw [u8l_len, h.key.len]; omega), u8l_len, h.key.len]
  rfl
def fSet3 (f : ElF) (v : Int) (hv : (Lit.int .i64 v).wf = true) : ElF := ⟨⟨f.1.k, f.1.a, f.1.n, f.1.u, v⟩, ⟨f.2.key, f.2.a, f.2.n, f.2.u, hv⟩⟩
theorem fSet3_cells (f : ElF) (v : Int) (hv : (Lit.int .i64 v).wf = true) : cellsF (fSet3 f v hv) = (cellsF f).set 35 (.int .i64 v) := by
  obtain ⟨⟨k, a, n, u, r⟩, h⟩ := f
  show u8l k ++ _ = (u8l k ++ _).set 35 _
  rw [List.set_append, if_neg (by rw [u8l_len, h.key.len]; omega), u8l_len, h.key.len]
  rfl
def pSet0 (f : ElP) (v : Int) (hv : (Lit.int .i64 v).wf = true) : ElP := ⟨⟨v, f.1.k, f.1.o, f.1.m⟩, ⟨hv, f.2.key, f.2.o, f.2.m⟩⟩
theorem pSet0_cells (f : ElP) (v : Int) (hv : (Lit.int .i64 v).wf = true) : cellsP (pSet0 f v hv) = (cellsP f).set 0 (.int .i64 v) := by
  rfl
def pSet1 (f : ElP) (v : Int) (hv : (Lit.int .i64 v).wf = true) : ElP := ⟨⟨f.1.x, f.1.k, v, f.1.m⟩, ⟨f.2.x, f.2.key, hv, f.2.m⟩⟩
theorem pSet1_cells (f : ElP) (v : Int) (hv : (Lit.int .i64 v).wf = true) : cellsP (pSet1 f v hv) = (cellsP f).set 33 (.int .i64 v) := by
  obtain ⟨⟨x, k, o, m⟩, h⟩ := f
  show [_] ++ (u8l k ++ _) = ([_] ++ (u8l k ++ _)).set 33 _
  rw [List.set_append, if_neg (by show ¬ (33 < 1); omega)]
  show _ = [_] ++ (u8l k ++ _).set 32 _
  rw [List.set_append, if_neg (by rw [u8l_len, h.key.len]; omega), u8l_len, h.key.len]
  rfl
def pSet2 (f : ElP) (v : Int) (hv : (Lit.int .i64 v).wf = true) : ElP := ⟨⟨f.1.x, f.1.k, f.1.o, v⟩, ⟨f.2.x, f.2.key, f.2.o, hv⟩⟩
theorem pSet2_cells (f : ElP) (v : Int) (hv : (Lit.int .i64 v).wf = true) : cellsP (pSet2 f v hv) = (cellsP f).set 34 (.int .i64 v) := by
  obtain ⟨⟨x, k, o, m⟩, h⟩ := f
  show [_] ++ (u8l k ++ _) = ([_] ++ (u8l k ++ _)).set 34 _
  rw [List.set_append, if_neg (by show ¬ (34 < 1); omega)]
  show _ = [_] ++ (u8l k ++ _).set 33 _
  rw [List.set_append, if_neg (by rw [u8l_len, h.key.len]; omega), u8l_len, h.key.len]
  rfl
theorem wf01 : (Lit.int .i64 1).wf = true := by kernel_rfl
/-- A put of a unit and a mask. -/
def elV (v : Int) (hv : (Lit.int .i64 v).wf = true) : ElP := ⟨⟨v, List.replicate 32 0, 0, 1⟩, ⟨hv, kz_ok, wf00, wf01⟩⟩
theorem buildSlM (u : World) : BuildRun Tryz.prog 46 #[(2, .int .i64 1)] u (.agg (slC (List.replicate 32 0) 0 1).toArray) := ⟨by kernel_rfl⟩
theorem buildPuM (v : Int) (u : World) : BuildRun Tryz.prog 48 #[(0, .int .i64 v), (1, .agg (slC (List.replicate 32 0) 0 1).toArray)] u (.agg (puC ⟨v, List.replicate 32 0, 0, 1⟩).toArray) := buildPu _ _ _ _ (by simp) u
def pushAt {α : Type} (I : Nat → α) (n : Nat) (c : α) : Nat → α := fun i => if i = n then c else I i
theorem flat_push {α : Type} (g : α → List Value) (I : Nat → α) (n : Nat) (c : α) : flatS (fun i => g (I i)) n ++ g c = flatS (fun i => g (pushAt I n c i)) (n + 1) := by
  rw [flatS]
  show _ = _ ++ g (pushAt I n c n)
  rw [show pushAt I n c n = c from if_pos rfl, flatS_congr (G := fun i => g (pushAt I n c i)) fun j hj => by
    show _ = g (pushAt I n c j)
    rw [show pushAt I n c j = I j from if_neg (by omega)]]
set_option maxRecDepth 100000 in
set_option maxHeartbeats 8000000 in
theorem bent9 (I : Nat → ElF) (P : Nat → ElP) (kd x y s : Int) (A1 : Option Addr) (m c1 : Nat) (A2 : Option Addr) (c2 : Nat) (i v : Int) (W : World) (hm : m ≤ 18) (hkd : 0 ≤ kd ∧ kd < 256) (hv : (Lit.int .i64 v).wf = true) (hi : 0 ≤ i ∧ i ≤ 12)
    (S1 : SArr W W.heap.size A1 m 36 fun i => cellsF (I i)) (S2 : SArr W W.heap.size A2 m 35 fun i => cellsP (P i)) (Z1 : A1 = none → m = 0 ∧ c1 = 0) (Z2 : A2 = none → m = 0 ∧ c2 = 0) :
    Calls Tryz.prog 9 #[opV kd x y s A1 m c1 A2 m c2, .int .i64 i, .int .i64 v] W (BentP W) := by
  have S1 := Lib.hid S1
  have S2 := Lib.hid S2
  have Z1 := Lib.hid Z1
  have Z2 := Lib.hid Z2
  have HKD := Lib.hid hkd
  have HV := Lib.hid hv
  clear hkd hv
  unfold opV
  go_enter Tryz.func9, Tryz.ntmps9
  go_upto_region 1 with (refine wpList_laid rfl 26 rfl zOp (zeroVOp _) ?_)
  obtain ⟨w0, hw0⟩ : ∃ w1, w1 = W.alloc (.cells #[.int .u8 kd, .int .i64 x, .int .i64 y, .int .i64 s, .slice A1 m c1, .slice A2 m c2] 26) := ⟨_, rfl⟩
  rw [← hw0]
  obtain ⟨w1, hw1⟩ : ∃ w1, w1 = w0.alloc (.cells zOp.toArray 26) := ⟨_, rfl⟩
  rw [← hw1]
  obtain ⟨p, hp⟩ : ∃ p, p = W.heap.size := ⟨_, rfl⟩
  have Q0 : w0.heap[W.heap.size]? = some (.cells (opL kd x y s A1 m c1 A2 m c2).toArray 26 (0, 0)) := by rw [hw0]; exact heap_new W _
  have hs0 : w0.heap.size = W.heap.size + 1 := by rw [hw0]; simp
  have Q : Hid (w1.heap[W.heap.size]? = some (.cells (opL kd x y s A1 m c1 A2 m c2).toArray 26 (0, 0))) := Lib.hid (by rw [hw1]; exact heap_old Q0)
  have R : Hid (w1.heap[w0.heap.size]? = some (.cells zOp.toArray 26 (0, 0))) := Lib.hid (by rw [hw1]; exact heap_new w0 _)
  have B : Hid (Below W.heap.size W w1) := Lib.hid (by rw [hw1]; exact ((hw0 ▸ (Below.refl _ _).alloc (Nat.le_refl _) _ : Below W.heap.size W w0)).alloc (by omega) _)
  rw [← hp] at Q ⊢
  have HQ : Hid (W.heap.size = p) := Lib.hid hp.symm
  obtain ⟨q, hq⟩ : ∃ q, q = w0.heap.size := ⟨_, rfl⟩
  rw [← hq] at R ⊢
  have HPQ : Hid (q = p + 1) := Lib.hid (by omega)
  clear hw0 hw1 hp hq hs0 Q0
  have RA : Hid (w1.rangeAt p 0 (opL kd x y s A1 m c1 A2 m c2)) := Lib.hid (range_of Q.out)
  go_wp2_with (refine wpList_load_midG rfl 26 (.tmp 3) rfl p 0 rfl (opL kd x y s A1 m c1 A2 m c2) _ RA.out Tryz.underlying26 rfl sizeOp ?_)
  refine (copyOp I P kd x y s A1 m c1 A2 m c2 w1 (by omega) (by omega) ((S1.out.below B.out (Nat.le_refl _)).more B.out.size) ((S2.out.below B.out (Nat.le_refl _)).more B.out.size) Z1.out Z2.out).mono ?_
  rintro e w2 ⟨A3, c3, A4, c4, rfl, ho⟩
  have b2 := ho.below
  have Q := Lib.hid ((b2.block _ (heap_lt Q.out)).trans Q.out)
  have R := Lib.hid ((b2.block _ (heap_lt R.out)).trans R.out)
  have G1 := Lib.hid (row_more ho.r1 B.out.size)
  have G2 := Lib.hid (row_more ho.r2 B.out.size)
  have B := Lib.hid (B.out.trans (b2.mono B.out.size))
  have OO := Lib.hid (opL_one kd x y s A3 m c3 A4 m c4)
  have SPL : Hid (splice (opL kd x y s A1 m c1 A2 m c2) 0 (opL kd x y s A3 m c3 A4 m c4) = opL kd x y s A3 m c3 A4 m c4) := Lib.hid (splice_whole _ _ rfl)
  clear b2 ho RA S1 S2 Z1 Z2
  go_upto_region 3 with (refine wpList_store_segK rfl 26 (.tmp 3) (.tmp 8) rfl p 0 rfl (opL kd x y s A3 m c3 A4 m c4) rfl (opL kd x y s A1 m c1 A2 m c2) 26 Q.out sizeOp (Nat.le_refl _) OO.out rfl ?_; intro w3 h3 k3 s3)
  rw [SPL.out] at h3
  have HF : Hid (Half W w3 p q ⟨kd, x, y, s, [], []⟩ A3 m c3 I A4 m c4 P) := Lib.hid ⟨h3, k3.heap R.out (by have := HPQ.out; omega), k3.row G1.out (fun k h1 e => row_ne_cells G1.out Q.out (by decide) (e ▸ h1)), k3.row G2.out (fun k h1 e => row_ne_cells G2.out Q.out (by decide) (e ▸ h1)), B.out.trans (k3.below (fun k e => by have e : k = p := e; have := HQ.out; omega) B.out.size)⟩
  clear h3 k3 s3 Q R G1 G2 B OO SPL
  by_cases hi0 : i = 0
  · subst hi0
    have ce4 := block_cell HF.out.at_ 1 _ rfl
    have f4 := frozen_of_row w3 p 1 _ _ HF.out.at_
    go_upto_region 29 with fail
    obtain ⟨w5, hw⟩ : ∃ w9, w9 = w3.setCell ⟨p, 1, none⟩ (.int .i64 v) := ⟨_, rfl⟩
    rw [← hw]
    have KC : Hid (Keeps (fun x => x = p) w3 w5) := Lib.hid (by rw [hw]; exact Keeps.setCell (fun x => x = p) w3 ⟨p, 1, none⟩ _ rfl)
    have HF : Hid (Half W w5 p q ⟨kd, v, y, s, [], []⟩ A3 m c3 I A4 m c4 P) := Lib.hid ⟨by
        have h := set_blk (o := 1) (v := (.int .i64 v)) HF.out.at_
        rw [← hw] at h
        exact h, KC.out.heap HF.out.res (by have := HPQ.out; omega), KC.out.row HF.out.r1 (fun k h1 e => row_ne_cells HF.out.r1 HF.out.at_ (by decide) (e ▸ h1)), KC.out.row HF.out.r2 (fun k h1 e => row_ne_cells HF.out.r2 HF.out.at_ (by decide) (e ▸ h1)), HF.out.below.trans (KC.out.below (fun x e => by have e : x = p := e; have := HQ.out; omega) HF.out.below.size)⟩
    clear hw ce4 f4 KC
    have RA : Hid (w5.rangeAt p 0 (opL kd v y s A3 m c3 A4 m c4)) := Lib.hid (range_of HF.out.at_)
    have OO := Lib.hid (opL_one kd v y s A3 m c3 A4 m c4)
    have SPL : Hid (splice zOp 0 (opL kd v y s A3 m c3 A4 m c4) = (opL kd v y s A3 m c3 A4 m c4)) := Lib.hid (splice_whole _ _ rfl)
    go_wp2_with (first | (refine wpList_load_midG rfl 26 (.tmp 3) rfl p 0 rfl (opL kd v y s A3 m c3 A4 m c4) _ RA.out Tryz.underlying26 rfl sizeOp ?_) | (refine wpList_store_segK rfl 26 (.tmp 6) (.tmp 131) rfl q 0 rfl (opL kd v y s A3 m c3 A4 m c4) rfl zOp 26 HF.out.res sizeOp (Nat.le_refl _) OO.out rfl ?_; intro w9 h9 k9 s9))
    rw [SPL.out] at h9
    have hz : w9.rangeAt q 0 (opL kd v y s A3 m c3 A4 m c4) := fun j v hj => block_cell h9 _ v (by rw [Nat.zero_add]; simpa using hj)
    refine bodyPost_ret (results_cell_one rfl _ _ q _ _ rfl hz Tryz.underlying26 rfl sizeOp) rfl ?_
    exact ⟨kd, v, y, s, A3, m, c3, I, A4, m, c4, P, rfl, HKD.out, by omega, by omega, ⟨k9.row HF.out.r1 (fun k h1 e => row_ne_cells HF.out.r1 HF.out.res (by decide) (e ▸ h1)), k9.row HF.out.r2 (fun k h1 e => row_ne_cells HF.out.r2 HF.out.res (by decide) (e ▸ h1)), HF.out.below.trans (k9.below (fun k e => by have e : k = q := e; have := HQ.out; have := HPQ.out; omega) HF.out.below.size)⟩⟩
  by_cases hi1 : i = 1
  · subst hi1
    have ce4 := block_cell HF.out.at_ 2 _ rfl
    have f4 := frozen_of_row w3 p 2 _ _ HF.out.at_
    go_upto_region 29 with fail
    obtain ⟨w5, hw⟩ : ∃ w9, w9 = w3.setCell ⟨p, 2, none⟩ (.int .i64 v) := ⟨_, rfl⟩
    rw [← hw]
    have KC : Hid (Keeps (fun x => x = p) w3 w5) := Lib.hid (by rw [hw]; exact Keeps.setCell (fun x => x = p) w3 ⟨p, 2, none⟩ _ rfl)
    have HF : Hid (Half W w5 p q ⟨kd, x, v, s, [], []⟩ A3 m c3 I A4 m c4 P) := Lib.hid ⟨by
        have h := set_blk (o := 2) (v := (.int .i64 v)) HF.out.at_
        rw [← hw] at h
        exact h, KC.out.heap HF.out.res (by have := HPQ.out; omega), KC.out.row HF.out.r1 (fun k h1 e => row_ne_cells HF.out.r1 HF.out.at_ (by decide) (e ▸ h1)), KC.out.row HF.out.r2 (fun k h1 e => row_ne_cells HF.out.r2 HF.out.at_ (by decide) (e ▸ h1)), HF.out.below.trans (KC.out.below (fun x e => by have e : x = p := e; have := HQ.out; omega) HF.out.below.size)⟩
    clear hw ce4 f4 KC
    have RA : Hid (w5.rangeAt p 0 (opL kd x v s A3 m c3 A4 m c4)) := Lib.hid (range_of HF.out.at_)
    have OO := Lib.hid (opL_one kd x v s A3 m c3 A4 m c4)
    have SPL : Hid (splice zOp 0 (opL kd x v s A3 m c3 A4 m c4) = (opL kd x v s A3 m c3 A4 m c4)) := Lib.hid (splice_whole _ _ rfl)
    go_wp2_with (first | (refine wpList_load_midG rfl 26 (.tmp 3) rfl p 0 rfl (opL kd x v s A3 m c3 A4 m c4) _ RA.out Tryz.underlying26 rfl sizeOp ?_) | (refine wpList_store_segK rfl 26 (.tmp 6) (.tmp 131) rfl q 0 rfl (opL kd x v s A3 m c3 A4 m c4) rfl zOp 26 HF.out.res sizeOp (Nat.le_refl _) OO.out rfl ?_; intro w9 h9 k9 s9))
    rw [SPL.out] at h9
    have hz : w9.rangeAt q 0 (opL kd x v s A3 m c3 A4 m c4) := fun j v hj => block_cell h9 _ v (by rw [Nat.zero_add]; simpa using hj)
    refine bodyPost_ret (results_cell_one rfl _ _ q _ _ rfl hz Tryz.underlying26 rfl sizeOp) rfl ?_
    exact ⟨kd, x, v, s, A3, m, c3, I, A4, m, c4, P, rfl, HKD.out, by omega, by omega, ⟨k9.row HF.out.r1 (fun k h1 e => row_ne_cells HF.out.r1 HF.out.res (by decide) (e ▸ h1)), k9.row HF.out.r2 (fun k h1 e => row_ne_cells HF.out.r2 HF.out.res (by decide) (e ▸ h1)), HF.out.below.trans (k9.below (fun k e => by have e : k = q := e; have := HQ.out; have := HPQ.out; omega) HF.out.below.size)⟩⟩
  by_cases hi2 : i = 2
  · subst hi2
    have ce4 := block_cell HF.out.at_ 3 _ rfl
    have f4 := frozen_of_row w3 p 3 _ _ HF.out.at_
    go_upto_region 29 with fail
    obtain ⟨w5, hw⟩ : ∃ w9, w9 = w3.setCell ⟨p, 3, none⟩ (.int .i64 v) := ⟨_, rfl⟩
    rw [← hw]
    have KC : Hid (Keeps (fun x => x = p) w3 w5) := Lib.hid (by rw [hw]; exact Keeps.setCell (fun x => x = p) w3 ⟨p, 3, none⟩ _ rfl)
    have HF : Hid (Half W w5 p q ⟨kd, x, y, v, [], []⟩ A3 m c3 I A4 m c4 P) := Lib.hid ⟨by
        have h := set_blk (o := 3) (v := (.int .i64 v)) HF.out.at_
        rw [← hw] at h
        exact h, KC.out.heap HF.out.res (by have := HPQ.out; omega), KC.out.row HF.out.r1 (fun k h1 e => row_ne_cells HF.out.r1 HF.out.at_ (by decide) (e ▸ h1)), KC.out.row HF.out.r2 (fun k h1 e => row_ne_cells HF.out.r2 HF.out.at_ (by decide) (e ▸ h1)), HF.out.below.trans (KC.out.below (fun x e => by have e : x = p := e; have := HQ.out; omega) HF.out.below.size)⟩
    clear hw ce4 f4 KC
    have RA : Hid (w5.rangeAt p 0 (opL kd x y v A3 m c3 A4 m c4)) := Lib.hid (range_of HF.out.at_)
    have OO := Lib.hid (opL_one kd x y v A3 m c3 A4 m c4)
    have SPL : Hid (splice zOp 0 (opL kd x y v A3 m c3 A4 m c4) = (opL kd x y v A3 m c3 A4 m c4)) := Lib.hid (splice_whole _ _ rfl)
    go_wp2_with (first | (refine wpList_load_midG rfl 26 (.tmp 3) rfl p 0 rfl (opL kd x y v A3 m c3 A4 m c4) _ RA.out Tryz.underlying26 rfl sizeOp ?_) | (refine wpList_store_segK rfl 26 (.tmp 6) (.tmp 131) rfl q 0 rfl (opL kd x y v A3 m c3 A4 m c4) rfl zOp 26 HF.out.res sizeOp (Nat.le_refl _) OO.out rfl ?_; intro w9 h9 k9 s9))
    rw [SPL.out] at h9
    have hz : w9.rangeAt q 0 (opL kd x y v A3 m c3 A4 m c4) := fun j v hj => block_cell h9 _ v (by rw [Nat.zero_add]; simpa using hj)
    refine bodyPost_ret (results_cell_one rfl _ _ q _ _ rfl hz Tryz.underlying26 rfl sizeOp) rfl ?_
    exact ⟨kd, x, y, v, A3, m, c3, I, A4, m, c4, P, rfl, HKD.out, by omega, by omega, ⟨k9.row HF.out.r1 (fun k h1 e => row_ne_cells HF.out.r1 HF.out.res (by decide) (e ▸ h1)), k9.row HF.out.r2 (fun k h1 e => row_ne_cells HF.out.r2 HF.out.res (by decide) (e ▸ h1)), HF.out.below.trans (k9.below (fun k e => by have e : k = q := e; have := HQ.out; have := HPQ.out; omega) HF.out.below.size)⟩⟩
  by_cases hi3 : i = 3
  · subst hi3
    obtain ⟨k2, hk2⟩ : ∃ k2, IntKind.u8.wrap v = k2 := ⟨_, rfl⟩
    have HK2 : Hid (0 ≤ k2 ∧ k2 < 256) := Lib.hid (by rw [← hk2, IntKind.wrap_u8]; omega)
    have ce4 := block_cell HF.out.at_ 0 _ rfl
    have f4 := frozen_of_row w3 p 0 _ _ HF.out.at_
    go_upto_region 29 with fail
    obtain ⟨w5, hw⟩ : ∃ w9, w9 = w3.setCell ⟨p, 0, none⟩ (.int .u8 k2) := ⟨_, rfl⟩
    rw [← hw]
    have KC : Hid (Keeps (fun x => x = p) w3 w5) := Lib.hid (by rw [hw]; exact Keeps.setCell (fun x => x = p) w3 ⟨p, 0, none⟩ _ rfl)
    have HF : Hid (Half W w5 p q ⟨k2, x, y, s, [], []⟩ A3 m c3 I A4 m c4 P) := Lib.hid ⟨by
        have h := set_blk (o := 0) (v := (.int .u8 k2)) HF.out.at_
        rw [← hw] at h
        exact h, KC.out.heap HF.out.res (by have := HPQ.out; omega), KC.out.row HF.out.r1 (fun k h1 e => row_ne_cells HF.out.r1 HF.out.at_ (by decide) (e ▸ h1)), KC.out.row HF.out.r2 (fun k h1 e => row_ne_cells HF.out.r2 HF.out.at_ (by decide) (e ▸ h1)), HF.out.below.trans (KC.out.below (fun x e => by have e : x = p := e; have := HQ.out; omega) HF.out.below.size)⟩
    clear hw ce4 f4 KC
    have RA : Hid (w5.rangeAt p 0 (opL k2 x y s A3 m c3 A4 m c4)) := Lib.hid (range_of HF.out.at_)
    have OO := Lib.hid (opL_one k2 x y s A3 m c3 A4 m c4)
    have SPL : Hid (splice zOp 0 (opL k2 x y s A3 m c3 A4 m c4) = (opL k2 x y s A3 m c3 A4 m c4)) := Lib.hid (splice_whole _ _ rfl)
    go_wp2_with (first | (refine wpList_load_midG rfl 26 (.tmp 3) rfl p 0 rfl (opL k2 x y s A3 m c3 A4 m c4) _ RA.out Tryz.underlying26 rfl sizeOp ?_) | (refine wpList_store_segK rfl 26 (.tmp 6) (.tmp 131) rfl q 0 rfl (opL k2 x y s A3 m c3 A4 m c4) rfl zOp 26 HF.out.res sizeOp (Nat.le_refl _) OO.out rfl ?_; intro w9 h9 k9 s9))
    rw [SPL.out] at h9
    have hz : w9.rangeAt q 0 (opL k2 x y s A3 m c3 A4 m c4) := fun j v hj => block_cell h9 _ v (by rw [Nat.zero_add]; simpa using hj)
    refine bodyPost_ret (results_cell_one rfl _ _ q _ _ rfl hz Tryz.underlying26 rfl sizeOp) rfl ?_
    exact ⟨k2, x, y, s, A3, m, c3, I, A4, m, c4, P, rfl, HK2.out, by omega, by omega, ⟨k9.row HF.out.r1 (fun k h1 e => row_ne_cells HF.out.r1 HF.out.res (by decide) (e ▸ h1)), k9.row HF.out.r2 (fun k h1 e => row_ne_cells HF.out.r2 HF.out.res (by decide) (e ▸ h1)), HF.out.below.trans (k9.below (fun k e => by have e : k = q := e; have := HQ.out; have := HPQ.out; omega) HF.out.below.size)⟩⟩
  have t0 : (i == 0) = false := by simp [hi0]
  have t1 : (i == 1) = false := by simp [hi1]
  have t2 : (i == 2) = false := by simp [hi2]
  have t3 : (i == 3) = false := by simp [hi3]
  have e4 : w3.cell? ⟨p, 4, none⟩ = some (.slice A3 m c3) := block_cell HF.out.at_ 4 _ rfl
  have e5 : w3.cell? ⟨p, 5, none⟩ = some (.slice A4 m c4) := block_cell HF.out.at_ 5 _ rfl
  by_cases hm0 : m = 0
  · have tm : ((m : Int) == 0) = true := by simp [hm0]
    have tm2 : (m == 0) = true := by simp [hm0]
    clear hm0
    obtain ⟨cs, hcs⟩ : ∃ cs, cs = cellsP (elV v HV.out) := ⟨_, rfl⟩
    have HC := Lib.hid hcs
    have HFL : Hid (flatS (fun i => cellsP (P i)) m ++ cs = flatS (fun i => cellsP (pushAt P m (elV v HV.out) i)) (m + 1)) := Lib.hid (by rw [hcs]; exact flat_push cellsP P m _)
    have BP : Hid (∀ w, BuildRun Tryz.prog 48 #[(0, .int .i64 v), (1, .agg (slC (List.replicate 32 0) 0 1).toArray)] w (.agg cs.toArray)) := Lib.hid fun w => by rw [hcs]; exact buildPuM v w
    clear hcs
    obtain ⟨i0, hi, hz0, hz1, hz2⟩ := infoParts infoPz
    have HI := Lib.hid (And.intro hi (And.intro hz0 (And.intro hz1 hz2)))
    have HL : Hid (cs.length = 35) := Lib.hid (by rw [HC.out]; exact lenP _)
    have HON : Hid (∀ u ∈ cs, u.oneCell' = true) := Lib.hid (by rw [HC.out]; exact oneP _)
    obtain ⟨wa, hwa⟩ : ∃ w9, w9 = (w3).alloc (.cells cs.toArray 48) := ⟨_, rfl⟩
    have KA : Hid (Keeps (fun _ => False) w3 wa) := Lib.hid (by rw [hwa]; exact Keeps.alloc _ _ _)
    have BA : Hid (Below W.heap.size W wa) := Lib.hid (by rw [hwa]; exact HF.out.below.alloc HF.out.below.size _)
    have RX : Hid (wa.ownsRow W.heap.size 48 35 (.slice A4 m c4) m (flatS (fun i => cellsP (P i)) m)) := Lib.hid (KA.out.row HF.out.r2 fun _ _ h => h)
    have CA : Hid (∀ ad, (some ⟨(w3).heap.size, 0, none⟩ : Option Addr) = some ad → ∀ j u, cs[j]? = some u → wa.cell? (ad.add j) = some u) := Lib.hid fun ad e j u hu => by
      cases e
      rw [Go.WideShapes.add_plain, Nat.zero_add, hwa]
      exact block_cell (heap_new (w3) _) j u (by simpa using hu)
    have PA : Hid (wa.heap[p]? = some (.cells (opL kd x y s A3 m c3 A4 m c4).toArray 26 (0, 0))) := Lib.hid (KA.out.heap HF.out.at_ fun h => h)
    have hwa' := hwa.symm
    have NN : Hid ((some ⟨(w3).heap.size, 0, none⟩ : Option Addr) = none → (1 : Nat) = 0 ∧ (1 : Nat) = 0) := Lib.hid (fun h => by cases h)
    have L1 : Hid (m + 1 ≤ maxLen) := Lib.hid (by unfold maxLen; omega)
    have L2 : Hid ((m + 1) * 56 ≤ 140737488355328) := Lib.hid (by omega)
    have L4 : Hid (cs.length = 1 * 35) := Lib.hid (by rw [HL.out])
    have L5 : Hid (0 < cs.length) := Lib.hid (by rw [HL.out]; decide)
    have L6 : Hid (cs.length ≤ 2 ^ 24) := Lib.hid (by rw [HL.out]; decide)
    have L7 : Hid (i0.size = cs.length) := Lib.hid (by rw [HL.out]; exact HI.out.2.2.1)
    have ce0 := block_cell HF.out.at_ 5 _ rfl
    clear hwa hi hz0 hz1 hz2

    go_upto_region 12 with fail
    go_step
    repeat ((fail_if_success (refine wpList_buildG rfl 46 [(2, .const (.int .i64 1))] rfl [(2, .int .i64 1)] rfl _ (buildSlM _) ?_)); go_step)
    refine wpList_buildG rfl 46 [(2, .const (.int .i64 1))] rfl [(2, .int .i64 1)] rfl _ (buildSlM _) ?_
    try simp only [Act.put, List.setIfInBounds_toArray, List.set_cons_zero, List.set_cons_succ]
    repeat ((fail_if_success (refine wpList_buildG rfl 48 [(0, .tmp 45), (1, .tmp 46)] rfl [(0, .int .i64 v), (1, .agg (slC (List.replicate 32 0) 0 1).toArray)] rfl (.agg cs.toArray) (BP.out _) ?_)); go_step)
    refine wpList_buildG rfl 48 [(0, .tmp 45), (1, .tmp 46)] rfl [(0, .int .i64 v), (1, .agg (slC (List.replicate 32 0) 0 1).toArray)] rfl (.agg cs.toArray) (BP.out _) ?_
    try simp only [Act.put, List.setIfInBounds_toArray, List.set_cons_zero, List.set_cons_succ]
    repeat ((fail_if_success (refine wpList_slice1 rfl 24 48 (.tmp 47) rfl cs rfl i0 (.agg zP.toArray) Tryz.underlying24 HI.out.1 HI.out.2.1 L7.out L5.out L6.out ?_)); go_step)
    refine wpList_slice1 rfl 24 48 (.tmp 47) rfl cs rfl i0 (.agg zP.toArray) Tryz.underlying24 HI.out.1 HI.out.2.1 L7.out L5.out L6.out ?_
    rw [hwa']
    try simp only [Act.put, List.setIfInBounds_toArray, List.set_cons_zero, List.set_cons_succ]
    repeat ((fail_if_success (refine wpList_append_any rfl (.tmp 44) (.tmp 48) 24 rfl W.heap.size 48 i0 (.agg zP.toArray) 35 56 Tryz.underlying24 HI.out.1 HI.out.2.1 HI.out.2.2.1 HI.out.2.2.2 rfl (by decide) _ m _ rfl RX.out (some ⟨(w3).heap.size, 0, none⟩) 1 1 cs rfl NN.out L4.out CA.out HON.out L1.out L2.out BA.out.size ?_)); go_step)
    refine wpList_append_any rfl (.tmp 44) (.tmp 48) 24 rfl W.heap.size 48 i0 (.agg zP.toArray) 35 56 Tryz.underlying24 HI.out.1 HI.out.2.1 HI.out.2.2.1 HI.out.2.2.2 rfl (by decide) _ m _ rfl RX.out (some ⟨(w3).heap.size, 0, none⟩) 1 1 cs rfl NN.out L4.out CA.out HON.out L1.out L2.out BA.out.size ?_
    intro v' wb hown hgr
    obtain ⟨A5, c5, rfl⟩ := row_shapeS hown
    have PB := Lib.hid ((hgr.block p (heap_lt PA.out) (fun e => row_ne_cells RX.out PA.out (by decide) e.symm)).trans PA.out)
    have d4 := block_cell PB.out 5 _ rfl
    have f4 := frozen_of_row wb p 5 _ _ PB.out
    try simp only [Act.put, List.setIfInBounds_toArray, List.set_cons_zero, List.set_cons_succ]
    go_upto_region 29 with fail
    obtain ⟨w5, hwn⟩ : ∃ w9, w9 = wb.setCell ⟨p, 5, none⟩ (.slice A5 (m + 1) c5) := ⟨_, rfl⟩
    rw [← hwn]
    have KB : Hid (Keeps (fun x => (Value.slice A4 m c4).ownBlock = some x) w3 wb) := Lib.hid ((KA.out.mono fun _ _ h => h.elim).trans (Keeps.grown hgr fun _ e => e) fun _ _ h => h)
    have KC : Hid (Keeps (fun x => x = p) wb w5) := Lib.hid (by rw [hwn]; exact Keeps.setCell (fun x => x = p) wb ⟨p, 5, none⟩ _ rfl)
    have RO := Lib.hid (KB.out.row HF.out.r1 fun x h1 h2 => own_ne HF.out.r1 HF.out.r2 (by decide) h1 h2)
    have QB := Lib.hid (KB.out.heap HF.out.res (fun e => row_ne_cells HF.out.r2 HF.out.res (by decide) e))
    rw [HFL.out] at hown
    have HF : Hid (Half W w5 p q ⟨kd, x, y, s, [], []⟩ A3 m c3 I A5 (m + 1) c5 (pushAt P m (elV v HV.out))) := Lib.hid ⟨by
        have h := set_blk (o := 5) (v := (.slice A5 (m + 1) c5)) PB.out
        rw [← hwn] at h
        exact h, KC.out.heap QB.out (by have := HPQ.out; omega), KC.out.row RO.out fun x h1 h2 => row_ne_cells RO.out PB.out (by decide) (h2 ▸ h1), KC.out.row hown fun x h1 h2 => row_ne_cells hown PB.out (by decide) (h2 ▸ h1), (HF.out.below.trans (KB.out.below (fun x hx => (HF.out.r2.lt x hx).1) HF.out.below.size)).trans (KC.out.below (fun x e => by have e : x = p := e; have := HPQ.out; have := HQ.out; omega) (Nat.le_trans HF.out.below.size KB.out.size))⟩
    clear hwn hown hgr PB d4 f4 ce0 KA BA RX CA PA hwa' NN L1 L2 L4 L5 L6 L7 KB KC RO QB HL HON HI HC
    have RA : Hid (w5.rangeAt p 0 (opL kd x y s A3 m c3 A5 (m + 1) c5)) := Lib.hid (range_of HF.out.at_)
    have OO := Lib.hid (opL_one kd x y s A3 m c3 A5 (m + 1) c5)
    have SPL : Hid (splice zOp 0 (opL kd x y s A3 m c3 A5 (m + 1) c5) = (opL kd x y s A3 m c3 A5 (m + 1) c5)) := Lib.hid (splice_whole _ _ rfl)
    go_wp2_with (first | (refine wpList_load_midG rfl 26 (.tmp 3) rfl p 0 rfl (opL kd x y s A3 m c3 A5 (m + 1) c5) _ RA.out Tryz.underlying26 rfl sizeOp ?_) | (refine wpList_store_segK rfl 26 (.tmp 6) (.tmp 131) rfl q 0 rfl (opL kd x y s A3 m c3 A5 (m + 1) c5) rfl zOp 26 HF.out.res sizeOp (Nat.le_refl _) OO.out rfl ?_; intro w9 h9 k9 s9))
    rw [SPL.out] at h9
    have hz : w9.rangeAt q 0 (opL kd x y s A3 m c3 A5 (m + 1) c5) := fun j v hj => block_cell h9 _ v (by rw [Nat.zero_add]; simpa using hj)
    refine bodyPost_ret (results_cell_one rfl _ _ q _ _ rfl hz Tryz.underlying26 rfl sizeOp) rfl ?_
    exact ⟨kd, x, y, s, A3, m, c3, I, A5, (m + 1), c5, (pushAt P m (elV v HV.out)), rfl, HKD.out, by omega, by omega, ⟨k9.row HF.out.r1 (fun k h1 e => row_ne_cells HF.out.r1 HF.out.res (by decide) (e ▸ h1)), k9.row HF.out.r2 (fun k h1 e => row_ne_cells HF.out.r2 HF.out.res (by decide) (e ▸ h1)), HF.out.below.trans (k9.below (fun k e => by have e : k = q := e; have := HQ.out; have := HPQ.out; omega) HF.out.below.size)⟩⟩
  have tm : ((m : Int) == 0) = false := by simp [hm0]
  have tm2 : (m == 0) = false := by simp [hm0]
  have hmp : 0 < m := by omega
  have hmi : (0 : Int) < m := by omega
  by_cases hi4 : i = 4
  · subst hi4
    obtain ⟨g, rfl⟩ := own_at0 HF.out.r1 hmp
    have HC : Hid (∃ u, w3.cell? ⟨g, 32, none⟩ = some u) := Lib.hid (by
      obtain ⟨cur, hcur, hle⟩ := row_blk HF.out.r1
      exact ⟨cur.toArray[32]'(by simp; omega), block_cell hcur 32 _ (Array.getElem?_eq_getElem _)⟩)
    have HFZ : Hid (w3.frozen? ⟨g, 32, none⟩ = false) := Lib.hid (by
      obtain ⟨cur, hcur, hle⟩ := row_blk HF.out.r1
      exact frozen_of_row w3 g 32 _ _ hcur)
    obtain ⟨u, hu⟩ := HC.out
    have hfz := HFZ.out
    go_upto_region 29 with fail
    obtain ⟨w5, hw⟩ : ∃ w9, w9 = w3.setCell ⟨g, 32, none⟩ (.int .i64 v) := ⟨_, rfl⟩
    rw [← hw]
    have KC : Hid (Keeps (fun x => x = g) w3 w5) := Lib.hid (by rw [hw]; exact Keeps.setCell (fun x => x = g) w3 ⟨g, 32, none⟩ _ rfl)
    have RN : Hid (w5.ownsRow W.heap.size 53 36 (.slice (some ⟨g, 0, none⟩) m c3) m (flatS (fun i => cellsF (setAt I (fSet0 (I 0) v HV.out) i)) m)) := Lib.hid (by
      have h := own_set1 (o := 32) (v := .int .i64 v) HF.out.r1 (by omega) rfl
      rw [← hw, flat_set0 (G := fun i => cellsF (setAt I (fSet0 (I 0) v HV.out) i)) (wideF I) (fSet0_cells (I 0) v HV.out) (by omega) (fun j hj => by show cellsF (setAt I _ j) = _; rw [show setAt I (fSet0 (I 0) v HV.out) j = I j from if_neg hj]) hmp] at h
      exact h)
    have RO := Lib.hid (KC.out.row HF.out.r2 fun k h1 e => own_ne HF.out.r2 HF.out.r1 (by decide) (e ▸ h1) rfl)
    have HF : Hid (Half W w5 p q ⟨kd, x, y, s, [], []⟩ (some ⟨g, 0, none⟩) m c3 (setAt I (fSet0 (I 0) v HV.out)) A4 m c4 P) := Lib.hid ⟨KC.out.heap HF.out.at_ (fun e => row_ne_cells HF.out.r1 HF.out.at_ (by decide) (by rw [e]; rfl)), KC.out.heap HF.out.res (fun e => row_ne_cells HF.out.r1 HF.out.res (by decide) (by rw [e]; rfl)), RN.out, RO.out, HF.out.below.trans (KC.out.below (fun x e => by have e : x = g := e; rw [e]; exact (HF.out.r1.lt g rfl).1) HF.out.below.size)⟩
    clear hw KC RN RO hu hfz HC HFZ e4 e5
    have RA : Hid (w5.rangeAt p 0 (opL kd x y s (some ⟨g, 0, none⟩) m c3 A4 m c4)) := Lib.hid (range_of HF.out.at_)
    have OO := Lib.hid (opL_one kd x y s (some ⟨g, 0, none⟩) m c3 A4 m c4)
    have SPL : Hid (splice zOp 0 (opL kd x y s (some ⟨g, 0, none⟩) m c3 A4 m c4) = (opL kd x y s (some ⟨g, 0, none⟩) m c3 A4 m c4)) := Lib.hid (splice_whole _ _ rfl)
    go_wp2_with (first | (refine wpList_load_midG rfl 26 (.tmp 3) rfl p 0 rfl (opL kd x y s (some ⟨g, 0, none⟩) m c3 A4 m c4) _ RA.out Tryz.underlying26 rfl sizeOp ?_) | (refine wpList_store_segK rfl 26 (.tmp 6) (.tmp 131) rfl q 0 rfl (opL kd x y s (some ⟨g, 0, none⟩) m c3 A4 m c4) rfl zOp 26 HF.out.res sizeOp (Nat.le_refl _) OO.out rfl ?_; intro w9 h9 k9 s9))
    rw [SPL.out] at h9
    have hz : w9.rangeAt q 0 (opL kd x y s (some ⟨g, 0, none⟩) m c3 A4 m c4) := fun j v hj => block_cell h9 _ v (by rw [Nat.zero_add]; simpa using hj)
    refine bodyPost_ret (results_cell_one rfl _ _ q _ _ rfl hz Tryz.underlying26 rfl sizeOp) rfl ?_
    exact ⟨kd, x, y, s, (some ⟨g, 0, none⟩), m, c3, (setAt I (fSet0 (I 0) v HV.out)), A4, m, c4, P, rfl, HKD.out, by omega, by omega, ⟨k9.row HF.out.r1 (fun k h1 e => row_ne_cells HF.out.r1 HF.out.res (by decide) (e ▸ h1)), k9.row HF.out.r2 (fun k h1 e => row_ne_cells HF.out.r2 HF.out.res (by decide) (e ▸ h1)), HF.out.below.trans (k9.below (fun k e => by have e : k = q := e; have := HQ.out; have := HPQ.out; omega) HF.out.below.size)⟩⟩
  have t4 : (i == 4) = false := by simp [hi4]
  by_cases hi5 : i = 5
  · subst hi5
    obtain ⟨g, rfl⟩ := own_at0 HF.out.r1 hmp
    have HC : Hid (∃ u, w3.cell? ⟨g, 33, none⟩ = some u) := Lib.hid (by
      obtain ⟨cur, hcur, hle⟩ := row_blk HF.out.r1
      exact ⟨cur.toArray[33]'(by simp; omega), block_cell hcur 33 _ (Array.getElem?_eq_getElem _)⟩)
    have HFZ : Hid (w3.frozen? ⟨g, 33, none⟩ = false) := Lib.hid (by
      obtain ⟨cur, hcur, hle⟩ := row_blk HF.out.r1
      exact frozen_of_row w3 g 33 _ _ hcur)
    obtain ⟨u, hu⟩ := HC.out
    have hfz := HFZ.out
    go_upto_region 29 with fail
    obtain ⟨w5, hw⟩ : ∃ w9, w9 = w3.setCell ⟨g, 33, none⟩ (.int .i64 v) := ⟨_, rfl⟩
    rw [← hw]
    have KC : Hid (Keeps (fun x => x = g) w3 w5) := Lib.hid (by rw [hw]; exact Keeps.setCell (fun x => x = g) w3 ⟨g, 33, none⟩ _ rfl)
    have RN : Hid (w5.ownsRow W.heap.size 53 36 (.slice (some ⟨g, 0, none⟩) m c3) m (flatS (fun i => cellsF (setAt I (fSet1 (I 0) v HV.out) i)) m)) := Lib.hid (by
      have h := own_set1 (o := 33) (v := .int .i64 v) HF.out.r1 (by omega) rfl
      rw [← hw, flat_set0 (G := fun i => cellsF (setAt I (fSet1 (I 0) v HV.out) i)) (wideF I) (fSet1_cells (I 0) v HV.out) (by omega) (fun j hj => by show cellsF (setAt I _ j) = _; rw [show setAt I (fSet1 (I 0) v HV.out) j = I j from if_neg hj]) hmp] at h
      exact h)
    have RO := Lib.hid (KC.out.row HF.out.r2 fun k h1 e => own_ne HF.out.r2 HF.out.r1 (by decide) (e ▸ h1) rfl)
    have HF : Hid (Half W w5 p q ⟨kd, x, y, s, [], []⟩ (some ⟨g, 0, none⟩) m c3 (setAt I (fSet1 (I 0) v HV.out)) A4 m c4 P) := Lib.hid ⟨KC.out.heap HF.out.at_ (fun e => row_ne_cells HF.out.r1 HF.out.at_ (by decide) (by rw [e]; rfl)), KC.out.heap HF.out.res (fun e => row_ne_cells HF.out.r1 HF.out.res (by decide) (by rw [e]; rfl)), RN.out, RO.out, HF.out.below.trans (KC.out.below (fun x e => by have e : x = g := e; rw [e]; exact (HF.out.r1.lt g rfl).1) HF.out.below.size)⟩
    clear hw KC RN RO hu hfz HC HFZ e4 e5
    have RA : Hid (w5.rangeAt p 0 (opL kd x y s (some ⟨g, 0, none⟩) m c3 A4 m c4)) := Lib.hid (range_of HF.out.at_)
    have OO := Lib.hid (opL_one kd x y s (some ⟨g, 0, none⟩) m c3 A4 m c4)
    have SPL : Hid (splice zOp 0 (opL kd x y s (some ⟨g, 0, none⟩) m c3 A4 m c4) = (opL kd x y s (some ⟨g, 0, none⟩) m c3 A4 m c4)) := Lib.hid (splice_whole _ _ rfl)
    go_wp2_with (first | (refine wpList_load_midG rfl 26 (.tmp 3) rfl p 0 rfl (opL kd x y s (some ⟨g, 0, none⟩) m c3 A4 m c4) _ RA.out Tryz.underlying26 rfl sizeOp ?_) | (refine wpList_store_segK rfl 26 (.tmp 6) (.tmp 131) rfl q 0 rfl (opL kd x y s (some ⟨g, 0, none⟩) m c3 A4 m c4) rfl zOp 26 HF.out.res sizeOp (Nat.le_refl _) OO.out rfl ?_; intro w9 h9 k9 s9))
    rw [SPL.out] at h9
    have hz : w9.rangeAt q 0 (opL kd x y s (some ⟨g, 0, none⟩) m c3 A4 m c4) := fun j v hj => block_cell h9 _ v (by rw [Nat.zero_add]; simpa using hj)
    refine bodyPost_ret (results_cell_one rfl _ _ q _ _ rfl hz Tryz.underlying26 rfl sizeOp) rfl ?_
    exact ⟨kd, x, y, s, (some ⟨g, 0, none⟩), m, c3, (setAt I (fSet1 (I 0) v HV.out)), A4, m, c4, P, rfl, HKD.out, by omega, by omega, ⟨k9.row HF.out.r1 (fun k h1 e => row_ne_cells HF.out.r1 HF.out.res (by decide) (e ▸ h1)), k9.row HF.out.r2 (fun k h1 e => row_ne_cells HF.out.r2 HF.out.res (by decide) (e ▸ h1)), HF.out.below.trans (k9.below (fun k e => by have e : k = q := e; have := HQ.out; have := HPQ.out; omega) HF.out.below.size)⟩⟩
  have t5 : (i == 5) = false := by simp [hi5]
  by_cases hi6 : i = 6
  · subst hi6
    obtain ⟨g, rfl⟩ := own_at0 HF.out.r1 hmp
    have HC : Hid (∃ u, w3.cell? ⟨g, 34, none⟩ = some u) := Lib.hid (by
      obtain ⟨cur, hcur, hle⟩ := row_blk HF.out.r1
      exact ⟨cur.toArray[34]'(by simp; omega), block_cell hcur 34 _ (Array.getElem?_eq_getElem _)⟩)
    have HFZ : Hid (w3.frozen? ⟨g, 34, none⟩ = false) := Lib.hid (by
      obtain ⟨cur, hcur, hle⟩ := row_blk HF.out.r1
      exact frozen_of_row w3 g 34 _ _ hcur)
    obtain ⟨u, hu⟩ := HC.out
    have hfz := HFZ.out
    go_upto_region 29 with fail
    obtain ⟨w5, hw⟩ : ∃ w9, w9 = w3.setCell ⟨g, 34, none⟩ (.int .i64 v) := ⟨_, rfl⟩
    rw [← hw]
    have KC : Hid (Keeps (fun x => x = g) w3 w5) := Lib.hid (by rw [hw]; exact Keeps.setCell (fun x => x = g) w3 ⟨g, 34, none⟩ _ rfl)
    have RN : Hid (w5.ownsRow W.heap.size 53 36 (.slice (some ⟨g, 0, none⟩) m c3) m (flatS (fun i => cellsF (setAt I (fSet2 (I 0) v HV.out) i)) m)) := Lib.hid (by
      have h := own_set1 (o := 34) (v := .int .i64 v) HF.out.r1 (by omega) rfl
      rw [← hw, flat_set0 (G := fun i => cellsF (setAt I (fSet2 (I 0) v HV.out) i)) (wideF I) (fSet2_cells (I 0) v HV.out) (by omega) (fun j hj => by show cellsF (setAt I _ j) = _; rw [show setAt I (fSet2 (I 0) v HV.out) j = I j from if_neg hj]) hmp] at h
      exact h)
    have RO := Lib.hid (KC.out.row HF.out.r2 fun k h1 e => own_ne HF.out.r2 HF.out.r1 (by decide) (e ▸ h1) rfl)
    have HF : Hid (Half W w5 p q ⟨kd, x, y, s, [], []⟩ (some ⟨g, 0, none⟩) m c3 (setAt I (fSet2 (I 0) v HV.out)) A4 m c4 P) := Lib.hid ⟨KC.out.heap HF.out.at_ (fun e => row_ne_cells HF.out.r1 HF.out.at_ (by decide) (by rw [e]; rfl)), KC.out.heap HF.out.res (fun e => row_ne_cells HF.out.r1 HF.out.res (by decide) (by rw [e]; rfl)), RN.out, RO.out, HF.out.below.trans (KC.out.below (fun x e => by have e : x = g := e; rw [e]; exact (HF.out.r1.lt g rfl).1) HF.out.below.size)⟩
    clear hw KC RN RO hu hfz HC HFZ e4 e5
    have RA : Hid (w5.rangeAt p 0 (opL kd x y s (some ⟨g, 0, none⟩) m c3 A4 m c4)) := Lib.hid (range_of HF.out.at_)
    have OO := Lib.hid (opL_one kd x y s (some ⟨g, 0, none⟩) m c3 A4 m c4)
    have SPL : Hid (splice zOp 0 (opL kd x y s (some ⟨g, 0, none⟩) m c3 A4 m c4) = (opL kd x y s (some ⟨g, 0, none⟩) m c3 A4 m c4)) := Lib.hid (splice_whole _ _ rfl)
    go_wp2_with (first | (refine wpList_load_midG rfl 26 (.tmp 3) rfl p 0 rfl (opL kd x y s (some ⟨g, 0, none⟩) m c3 A4 m c4) _ RA.out Tryz.underlying26 rfl sizeOp ?_) | (refine wpList_store_segK rfl 26 (.tmp 6) (.tmp 131) rfl q 0 rfl (opL kd x y s (some ⟨g, 0, none⟩) m c3 A4 m c4) rfl zOp 26 HF.out.res sizeOp (Nat.le_refl _) OO.out rfl ?_; intro w9 h9 k9 s9))
    rw [SPL.out] at h9
    have hz : w9.rangeAt q 0 (opL kd x y s (some ⟨g, 0, none⟩) m c3 A4 m c4) := fun j v hj => block_cell h9 _ v (by rw [Nat.zero_add]; simpa using hj)
    refine bodyPost_ret (results_cell_one rfl _ _ q _ _ rfl hz Tryz.underlying26 rfl sizeOp) rfl ?_
    exact ⟨kd, x, y, s, (some ⟨g, 0, none⟩), m, c3, (setAt I (fSet2 (I 0) v HV.out)), A4, m, c4, P, rfl, HKD.out, by omega, by omega, ⟨k9.row HF.out.r1 (fun k h1 e => row_ne_cells HF.out.r1 HF.out.res (by decide) (e ▸ h1)), k9.row HF.out.r2 (fun k h1 e => row_ne_cells HF.out.r2 HF.out.res (by decide) (e ▸ h1)), HF.out.below.trans (k9.below (fun k e => by have e : k = q := e; have := HQ.out; have := HPQ.out; omega) HF.out.below.size)⟩⟩
  have t6 : (i == 6) = false := by simp [hi6]
  by_cases hi7 : i = 7
  · subst hi7
    obtain ⟨g, rfl⟩ := own_at0 HF.out.r1 hmp
    have HC : Hid (∃ u, w3.cell? ⟨g, 35, none⟩ = some u) := Lib.hid (by
      obtain ⟨cur, hcur, hle⟩ := row_blk HF.out.r1
      exact ⟨cur.toArray[35]'(by simp; omega), block_cell hcur 35 _ (Array.getElem?_eq_getElem _)⟩)
    have HFZ : Hid (w3.frozen? ⟨g, 35, none⟩ = false) := Lib.hid (by
      obtain ⟨cur, hcur, hle⟩ := row_blk HF.out.r1
      exact frozen_of_row w3 g 35 _ _ hcur)
    obtain ⟨u, hu⟩ := HC.out
    have hfz := HFZ.out
    go_upto_region 29 with fail
    obtain ⟨w5, hw⟩ : ∃ w9, w9 = w3.setCell ⟨g, 35, none⟩ (.int .i64 v) := ⟨_, rfl⟩
    rw [← hw]
    have KC : Hid (Keeps (fun x => x = g) w3 w5) := Lib.hid (by rw [hw]; exact Keeps.setCell (fun x => x = g) w3 ⟨g, 35, none⟩ _ rfl)
    have RN : Hid (w5.ownsRow W.heap.size 53 36 (.slice (some ⟨g, 0, none⟩) m c3) m (flatS (fun i => cellsF (setAt I (fSet3 (I 0) v HV.out) i)) m)) := Lib.hid (by
      have h := own_set1 (o := 35) (v := .int .i64 v) HF.out.r1 (by omega) rfl
      rw [← hw, flat_set0 (G := fun i => cellsF (setAt I (fSet3 (I 0) v HV.out) i)) (wideF I) (fSet3_cells (I 0) v HV.out) (by omega) (fun j hj => by show cellsF (setAt I _ j) = _; rw [show setAt I (fSet3 (I 0) v HV.out) j = I j from if_neg hj]) hmp] at h
      exact h)
    have RO := Lib.hid (KC.out.row HF.out.r2 fun k h1 e => own_ne HF.out.r2 HF.out.r1 (by decide) (e ▸ h1) rfl)
    have HF : Hid (Half W w5 p q ⟨kd, x, y, s, [], []⟩ (some ⟨g, 0, none⟩) m c3 (setAt I (fSet3 (I 0) v HV.out)) A4 m c4 P) := Lib.hid ⟨KC.out.heap HF.out.at_ (fun e => row_ne_cells HF.out.r1 HF.out.at_ (by decide) (by rw [e]; rfl)), KC.out.heap HF.out.res (fun e => row_ne_cells HF.out.r1 HF.out.res (by decide) (by rw [e]; rfl)), RN.out, RO.out, HF.out.below.trans (KC.out.below (fun x e => by have e : x = g := e; rw [e]; exact (HF.out.r1.lt g rfl).1) HF.out.below.size)⟩
    clear hw KC RN RO hu hfz HC HFZ e4 e5
    have RA : Hid (w5.rangeAt p 0 (opL kd x y s (some ⟨g, 0, none⟩) m c3 A4 m c4)) := Lib.hid (range_of HF.out.at_)
    have OO := Lib.hid (opL_one kd x y s (some ⟨g, 0, none⟩) m c3 A4 m c4)
    have SPL : Hid (splice zOp 0 (opL kd x y s (some ⟨g, 0, none⟩) m c3 A4 m c4) = (opL kd x y s (some ⟨g, 0, none⟩) m c3 A4 m c4)) := Lib.hid (splice_whole _ _ rfl)
    go_wp2_with (first | (refine wpList_load_midG rfl 26 (.tmp 3) rfl p 0 rfl (opL kd x y s (some ⟨g, 0, none⟩) m c3 A4 m c4) _ RA.out Tryz.underlying26 rfl sizeOp ?_) | (refine wpList_store_segK rfl 26 (.tmp 6) (.tmp 131) rfl q 0 rfl (opL kd x y s (some ⟨g, 0, none⟩) m c3 A4 m c4) rfl zOp 26 HF.out.res sizeOp (Nat.le_refl _) OO.out rfl ?_; intro w9 h9 k9 s9))
    rw [SPL.out] at h9
    have hz : w9.rangeAt q 0 (opL kd x y s (some ⟨g, 0, none⟩) m c3 A4 m c4) := fun j v hj => block_cell h9 _ v (by rw [Nat.zero_add]; simpa using hj)
    refine bodyPost_ret (results_cell_one rfl _ _ q _ _ rfl hz Tryz.underlying26 rfl sizeOp) rfl ?_
    exact ⟨kd, x, y, s, (some ⟨g, 0, none⟩), m, c3, (setAt I (fSet3 (I 0) v HV.out)), A4, m, c4, P, rfl, HKD.out, by omega, by omega, ⟨k9.row HF.out.r1 (fun k h1 e => row_ne_cells HF.out.r1 HF.out.res (by decide) (e ▸ h1)), k9.row HF.out.r2 (fun k h1 e => row_ne_cells HF.out.r2 HF.out.res (by decide) (e ▸ h1)), HF.out.below.trans (k9.below (fun k e => by have e : k = q := e; have := HQ.out; have := HPQ.out; omega) HF.out.below.size)⟩⟩
  have t7 : (i == 7) = false := by simp [hi7]
  by_cases hi8 : i = 8
  · subst hi8
    obtain ⟨g, rfl⟩ := own_at0 HF.out.r2 hmp
    have HC : Hid (∃ u, w3.cell? ⟨g, 0, none⟩ = some u) := Lib.hid (by
      obtain ⟨cur, hcur, hle⟩ := row_blk HF.out.r2
      exact ⟨cur.toArray[0]'(by simp; omega), block_cell hcur 0 _ (Array.getElem?_eq_getElem _)⟩)
    have HFZ : Hid (w3.frozen? ⟨g, 0, none⟩ = false) := Lib.hid (by
      obtain ⟨cur, hcur, hle⟩ := row_blk HF.out.r2
      exact frozen_of_row w3 g 0 _ _ hcur)
    obtain ⟨u, hu⟩ := HC.out
    have hfz := HFZ.out
    go_upto_region 29 with fail
    obtain ⟨w5, hw⟩ : ∃ w9, w9 = w3.setCell ⟨g, 0, none⟩ (.int .i64 v) := ⟨_, rfl⟩
    rw [← hw]
    have KC : Hid (Keeps (fun x => x = g) w3 w5) := Lib.hid (by rw [hw]; exact Keeps.setCell (fun x => x = g) w3 ⟨g, 0, none⟩ _ rfl)
    have RN : Hid (w5.ownsRow W.heap.size 48 35 (.slice (some ⟨g, 0, none⟩) m c4) m (flatS (fun i => cellsP (setAt P (pSet0 (P 0) v HV.out) i)) m)) := Lib.hid (by
      have h := own_set1 (o := 0) (v := .int .i64 v) HF.out.r2 (by omega) rfl
      rw [← hw, flat_set0 (G := fun i => cellsP (setAt P (pSet0 (P 0) v HV.out) i)) (wideP P) (pSet0_cells (P 0) v HV.out) (by omega) (fun j hj => by show cellsP (setAt P _ j) = _; rw [show setAt P (pSet0 (P 0) v HV.out) j = P j from if_neg hj]) hmp] at h
      exact h)
    have RO := Lib.hid (KC.out.row HF.out.r1 fun k h1 e => own_ne HF.out.r1 HF.out.r2 (by decide) (e ▸ h1) rfl)
    have HF : Hid (Half W w5 p q ⟨kd, x, y, s, [], []⟩ A3 m c3 I (some ⟨g, 0, none⟩) m c4 (setAt P (pSet0 (P 0) v HV.out))) := Lib.hid ⟨KC.out.heap HF.out.at_ (fun e => row_ne_cells HF.out.r2 HF.out.at_ (by decide) (by rw [e]; rfl)), KC.out.heap HF.out.res (fun e => row_ne_cells HF.out.r2 HF.out.res (by decide) (by rw [e]; rfl)), RO.out, RN.out, HF.out.below.trans (KC.out.below (fun x e => by have e : x = g := e; rw [e]; exact (HF.out.r2.lt g rfl).1) HF.out.below.size)⟩
    clear hw KC RN RO hu hfz HC HFZ e4 e5
    have RA : Hid (w5.rangeAt p 0 (opL kd x y s A3 m c3 (some ⟨g, 0, none⟩) m c4)) := Lib.hid (range_of HF.out.at_)
    have OO := Lib.hid (opL_one kd x y s A3 m c3 (some ⟨g, 0, none⟩) m c4)
    have SPL : Hid (splice zOp 0 (opL kd x y s A3 m c3 (some ⟨g, 0, none⟩) m c4) = (opL kd x y s A3 m c3 (some ⟨g, 0, none⟩) m c4)) := Lib.hid (splice_whole _ _ rfl)
    go_wp2_with (first | (refine wpList_load_midG rfl 26 (.tmp 3) rfl p 0 rfl (opL kd x y s A3 m c3 (some ⟨g, 0, none⟩) m c4) _ RA.out Tryz.underlying26 rfl sizeOp ?_) | (refine wpList_store_segK rfl 26 (.tmp 6) (.tmp 131) rfl q 0 rfl (opL kd x y s A3 m c3 (some ⟨g, 0, none⟩) m c4) rfl zOp 26 HF.out.res sizeOp (Nat.le_refl _) OO.out rfl ?_; intro w9 h9 k9 s9))
    rw [SPL.out] at h9
    have hz : w9.rangeAt q 0 (opL kd x y s A3 m c3 (some ⟨g, 0, none⟩) m c4) := fun j v hj => block_cell h9 _ v (by rw [Nat.zero_add]; simpa using hj)
    refine bodyPost_ret (results_cell_one rfl _ _ q _ _ rfl hz Tryz.underlying26 rfl sizeOp) rfl ?_
    exact ⟨kd, x, y, s, A3, m, c3, I, (some ⟨g, 0, none⟩), m, c4, (setAt P (pSet0 (P 0) v HV.out)), rfl, HKD.out, by omega, by omega, ⟨k9.row HF.out.r1 (fun k h1 e => row_ne_cells HF.out.r1 HF.out.res (by decide) (e ▸ h1)), k9.row HF.out.r2 (fun k h1 e => row_ne_cells HF.out.r2 HF.out.res (by decide) (e ▸ h1)), HF.out.below.trans (k9.below (fun k e => by have e : k = q := e; have := HQ.out; have := HPQ.out; omega) HF.out.below.size)⟩⟩
  have t8 : (i == 8) = false := by simp [hi8]
  by_cases hi9 : i = 9
  · subst hi9
    obtain ⟨g, rfl⟩ := own_at0 HF.out.r2 hmp
    have HC : Hid (∃ u, w3.cell? ⟨g, 33, none⟩ = some u) := Lib.hid (by
      obtain ⟨cur, hcur, hle⟩ := row_blk HF.out.r2
      exact ⟨cur.toArray[33]'(by simp; omega), block_cell hcur 33 _ (Array.getElem?_eq_getElem _)⟩)
    have HFZ : Hid (w3.frozen? ⟨g, 33, none⟩ = false) := Lib.hid (by
      obtain ⟨cur, hcur, hle⟩ := row_blk HF.out.r2
      exact frozen_of_row w3 g 33 _ _ hcur)
    obtain ⟨u, hu⟩ := HC.out
    have hfz := HFZ.out
    go_upto_region 29 with fail
    obtain ⟨w5, hw⟩ : ∃ w9, w9 = w3.setCell ⟨g, 33, none⟩ (.int .i64 v) := ⟨_, rfl⟩
    rw [← hw]
    have KC : Hid (Keeps (fun x => x = g) w3 w5) := Lib.hid (by rw [hw]; exact Keeps.setCell (fun x => x = g) w3 ⟨g, 33, none⟩ _ rfl)
    have RN : Hid (w5.ownsRow W.heap.size 48 35 (.slice (some ⟨g, 0, none⟩) m c4) m (flatS (fun i => cellsP (setAt P (pSet1 (P 0) v HV.out) i)) m)) := Lib.hid (by
      have h := own_set1 (o := 33) (v := .int .i64 v) HF.out.r2 (by omega) rfl
      rw [← hw, flat_set0 (G := fun i => cellsP (setAt P (pSet1 (P 0) v HV.out) i)) (wideP P) (pSet1_cells (P 0) v HV.out) (by omega) (fun j hj => by show cellsP (setAt P _ j) = _; rw [show setAt P (pSet1 (P 0) v HV.out) j = P j from if_neg hj]) hmp] at h
      exact h)
    have RO := Lib.hid (KC.out.row HF.out.r1 fun k h1 e => own_ne HF.out.r1 HF.out.r2 (by decide) (e ▸ h1) rfl)
    have HF : Hid (Half W w5 p q ⟨kd, x, y, s, [], []⟩ A3 m c3 I (some ⟨g, 0, none⟩) m c4 (setAt P (pSet1 (P 0) v HV.out))) := Lib.hid ⟨KC.out.heap HF.out.at_ (fun e => row_ne_cells HF.out.r2 HF.out.at_ (by decide) (by rw [e]; rfl)), KC.out.heap HF.out.res (fun e => row_ne_cells HF.out.r2 HF.out.res (by decide) (by rw [e]; rfl)), RO.out, RN.out, HF.out.below.trans (KC.out.below (fun x e => by have e : x = g := e; rw [e]; exact (HF.out.r2.lt g rfl).1) HF.out.below.size)⟩
    clear hw KC RN RO hu hfz HC HFZ e4 e5
    have RA : Hid (w5.rangeAt p 0 (opL kd x y s A3 m c3 (some ⟨g, 0, none⟩) m c4)) := Lib.hid (range_of HF.out.at_)
    have OO := Lib.hid (opL_one kd x y s A3 m c3 (some ⟨g, 0, none⟩) m c4)
    have SPL : Hid (splice zOp 0 (opL kd x y s A3 m c3 (some ⟨g, 0, none⟩) m c4) = (opL kd x y s A3 m c3 (some ⟨g, 0, none⟩) m c4)) := Lib.hid (splice_whole _ _ rfl)
    go_wp2_with (first | (refine wpList_load_midG rfl 26 (.tmp 3) rfl p 0 rfl (opL kd x y s A3 m c3 (some ⟨g, 0, none⟩) m c4) _ RA.out Tryz.underlying26 rfl sizeOp ?_) | (refine wpList_store_segK rfl 26 (.tmp 6) (.tmp 131) rfl q 0 rfl (opL kd x y s A3 m c3 (some ⟨g, 0, none⟩) m c4) rfl zOp 26 HF.out.res sizeOp (Nat.le_refl _) OO.out rfl ?_; intro w9 h9 k9 s9))
    rw [SPL.out] at h9
    have hz : w9.rangeAt q 0 (opL kd x y s A3 m c3 (some ⟨g, 0, none⟩) m c4) := fun j v hj => block_cell h9 _ v (by rw [Nat.zero_add]; simpa using hj)
    refine bodyPost_ret (results_cell_one rfl _ _ q _ _ rfl hz Tryz.underlying26 rfl sizeOp) rfl ?_
    exact ⟨kd, x, y, s, A3, m, c3, I, (some ⟨g, 0, none⟩), m, c4, (setAt P (pSet1 (P 0) v HV.out)), rfl, HKD.out, by omega, by omega, ⟨k9.row HF.out.r1 (fun k h1 e => row_ne_cells HF.out.r1 HF.out.res (by decide) (e ▸ h1)), k9.row HF.out.r2 (fun k h1 e => row_ne_cells HF.out.r2 HF.out.res (by decide) (e ▸ h1)), HF.out.below.trans (k9.below (fun k e => by have e : k = q := e; have := HQ.out; have := HPQ.out; omega) HF.out.below.size)⟩⟩
  have t9 : (i == 9) = false := by simp [hi9]
  by_cases hi10 : i = 10
  · subst hi10
    obtain ⟨g, rfl⟩ := own_at0 HF.out.r2 hmp
    have HC : Hid (∃ u, w3.cell? ⟨g, 34, none⟩ = some u) := Lib.hid (by
      obtain ⟨cur, hcur, hle⟩ := row_blk HF.out.r2
      exact ⟨cur.toArray[34]'(by simp; omega), block_cell hcur 34 _ (Array.getElem?_eq_getElem _)⟩)
    have HFZ : Hid (w3.frozen? ⟨g, 34, none⟩ = false) := Lib.hid (by
      obtain ⟨cur, hcur, hle⟩ := row_blk HF.out.r2
      exact frozen_of_row w3 g 34 _ _ hcur)
    obtain ⟨u, hu⟩ := HC.out
    have hfz := HFZ.out
    go_upto_region 29 with fail
    obtain ⟨w5, hw⟩ : ∃ w9, w9 = w3.setCell ⟨g, 34, none⟩ (.int .i64 v) := ⟨_, rfl⟩
    rw [← hw]
    have KC : Hid (Keeps (fun x => x = g) w3 w5) := Lib.hid (by rw [hw]; exact Keeps.setCell (fun x => x = g) w3 ⟨g, 34, none⟩ _ rfl)
    have RN : Hid (w5.ownsRow W.heap.size 48 35 (.slice (some ⟨g, 0, none⟩) m c4) m (flatS (fun i => cellsP (setAt P (pSet2 (P 0) v HV.out) i)) m)) := Lib.hid (by
      have h := own_set1 (o := 34) (v := .int .i64 v) HF.out.r2 (by omega) rfl
      rw [← hw, flat_set0 (G := fun i => cellsP (setAt P (pSet2 (P 0) v HV.out) i)) (wideP P) (pSet2_cells (P 0) v HV.out) (by omega) (fun j hj => by show cellsP (setAt P _ j) = _; rw [show setAt P (pSet2 (P 0) v HV.out) j = P j from if_neg hj]) hmp] at h
      exact h)
    have RO := Lib.hid (KC.out.row HF.out.r1 fun k h1 e => own_ne HF.out.r1 HF.out.r2 (by decide) (e ▸ h1) rfl)
    have HF : Hid (Half W w5 p q ⟨kd, x, y, s, [], []⟩ A3 m c3 I (some ⟨g, 0, none⟩) m c4 (setAt P (pSet2 (P 0) v HV.out))) := Lib.hid ⟨KC.out.heap HF.out.at_ (fun e => row_ne_cells HF.out.r2 HF.out.at_ (by decide) (by rw [e]; rfl)), KC.out.heap HF.out.res (fun e => row_ne_cells HF.out.r2 HF.out.res (by decide) (by rw [e]; rfl)), RO.out, RN.out, HF.out.below.trans (KC.out.below (fun x e => by have e : x = g := e; rw [e]; exact (HF.out.r2.lt g rfl).1) HF.out.below.size)⟩
    clear hw KC RN RO hu hfz HC HFZ e4 e5
    have RA : Hid (w5.rangeAt p 0 (opL kd x y s A3 m c3 (some ⟨g, 0, none⟩) m c4)) := Lib.hid (range_of HF.out.at_)
    have OO := Lib.hid (opL_one kd x y s A3 m c3 (some ⟨g, 0, none⟩) m c4)
    have SPL : Hid (splice zOp 0 (opL kd x y s A3 m c3 (some ⟨g, 0, none⟩) m c4) = (opL kd x y s A3 m c3 (some ⟨g, 0, none⟩) m c4)) := Lib.hid (splice_whole _ _ rfl)
    go_wp2_with (first | (refine wpList_load_midG rfl 26 (.tmp 3) rfl p 0 rfl (opL kd x y s A3 m c3 (some ⟨g, 0, none⟩) m c4) _ RA.out Tryz.underlying26 rfl sizeOp ?_) | (refine wpList_store_segK rfl 26 (.tmp 6) (.tmp 131) rfl q 0 rfl (opL kd x y s A3 m c3 (some ⟨g, 0, none⟩) m c4) rfl zOp 26 HF.out.res sizeOp (Nat.le_refl _) OO.out rfl ?_; intro w9 h9 k9 s9))
    rw [SPL.out] at h9
    have hz : w9.rangeAt q 0 (opL kd x y s A3 m c3 (some ⟨g, 0, none⟩) m c4) := fun j v hj => block_cell h9 _ v (by rw [Nat.zero_add]; simpa using hj)
    refine bodyPost_ret (results_cell_one rfl _ _ q _ _ rfl hz Tryz.underlying26 rfl sizeOp) rfl ?_
    exact ⟨kd, x, y, s, A3, m, c3, I, (some ⟨g, 0, none⟩), m, c4, (setAt P (pSet2 (P 0) v HV.out)), rfl, HKD.out, by omega, by omega, ⟨k9.row HF.out.r1 (fun k h1 e => row_ne_cells HF.out.r1 HF.out.res (by decide) (e ▸ h1)), k9.row HF.out.r2 (fun k h1 e => row_ne_cells HF.out.r2 HF.out.res (by decide) (e ▸ h1)), HF.out.below.trans (k9.below (fun k e => by have e : k = q := e; have := HQ.out; have := HPQ.out; omega) HF.out.below.size)⟩⟩
  have t10 : (i == 10) = false := by simp [hi10]
  by_cases hi11 : i = 11
  · subst hi11
    obtain ⟨g, rfl⟩ := own_at0 HF.out.r1 hmp
    obtain ⟨z, hz7, hz⟩ := and7 v
    have HZ := Lib.hid hz
    obtain ⟨j, hj⟩ : ∃ j, j = z % m := ⟨_, rfl⟩
    have hjm : j < m := by rw [hj]; exact Nat.mod_lt _ hmp
    have hrem : (z : Int).tmod (m : Int) = (j : Int) := by rw [hj]; rfl
    have hwj : IntKind.i64.wrap (j : Int) = (j : Int) := IntWalk.i64_in _ (by omega)
    have hmz : (m : Int) ≠ 0 := by omega
    have hji : (j : Int) < m := by omega
    have hj0 : (0 : Int) ≤ j := by omega
    obtain ⟨cs, hcs⟩ : ∃ cs, cs = cellsF (I j) := ⟨_, rfl⟩
    have HL : Hid (cs.length = 36) := Lib.hid (by rw [hcs]; exact lenF _)
    have HON : Hid (∀ u ∈ cs, u.oneCell' = true) := Lib.hid (by rw [hcs]; exact oneF _)
    have HFL : Hid (flatS (fun i => cellsF (I i)) m ++ cs = flatS (fun i => cellsF (pushAt I m (I j) i)) (m + 1)) := Lib.hid (by rw [hcs]; exact flat_push cellsF I m _)
    have HSZ : Hid ((Tryz.prog.info? 53).map (·.size) = some cs.length) := Lib.hid (by rw [hcs]; exact sizeF _)
    have RG : Hid (w3.drew.rangeAt g (j * 36) cs) := Lib.hid (by
      have h := elemF (w := w3) (L := I) (row_val (wideF I) HF.out.r1) rfl hjm
      rw [hcs]
      rwa [Nat.zero_add] at h)
    obtain ⟨i0, hi, hz0, hz1, hz2⟩ := infoParts infoFz
    have HI := Lib.hid (And.intro hi (And.intro hz0 (And.intro hz1 hz2)))
    have L4 : Hid (cs.length = 1 * 36) := Lib.hid (by rw [HL.out])
    have L5 : Hid (0 < cs.length) := Lib.hid (by rw [HL.out]; decide)
    have L6 : Hid (cs.length ≤ 2 ^ 24) := Lib.hid (by rw [HL.out]; decide)
    have L7 : Hid (i0.size = cs.length) := Lib.hid (by rw [HL.out]; exact HI.out.2.2.1)
    have C4 : Hid (w3.drew.cell? ⟨p, 4, none⟩ = some (.slice (some ⟨g, 0, none⟩) m c3)) := Lib.hid e4
    clear hi hz0 hz1 hz2 hcs hj hz e5
    go_upto_region 28 with fail
    clear e4
    refine wp_region_held_drew (S := fun _ => True) (by kernel_rfl) trivial (fun hHeld => ?_)
    refine wpAnyH_take (i := 0) (v := ?_) (by simp only [List.getElem?_toArray, List.getElem?_cons_zero]; rfl) (by kernel_rfl) (by kernel_rfl) (by kernel_rfl) (by intro _ _ _ h; exact h) (Or.inl ⟨by rfl, ?_⟩) hHeld ?_
    rotate_left
    · (intro w hSw; (try dsimp only at hSw); go_simp; try with_reducible rfl)
    try simp only [Act.put, List.setIfInBounds_toArray, List.set_cons_zero, List.set_cons_succ]
    refine wpAnyH_take (i := 2) (v := ?_) (by simp only [List.getElem?_toArray, List.getElem?_cons_zero, List.getElem?_cons_succ]; rfl) (by kernel_rfl) (by kernel_rfl) (by kernel_rfl) (by intro _ _ _ h; exact h) (Or.inl ⟨by rfl, ?_⟩) hHeld ?_
    rotate_left
    · (intro w hSw; (try dsimp only at hSw); go_simp; try with_reducible rfl)
    try simp only [Act.put, List.setIfInBounds_toArray, List.set_cons_zero, List.set_cons_succ]
    refine wpAnyH_take (i := 4) (v := ?_) (by simp only [List.getElem?_toArray, List.getElem?_cons_zero, List.getElem?_cons_succ]; rfl) (by kernel_rfl) (by kernel_rfl) (by kernel_rfl) (by intro _ _ _ h; exact h) (Or.inl ⟨by rfl, ?_⟩) hHeld ?_
    rotate_left
    · (intro w hSw; (try dsimp only at hSw); go_simp; try with_reducible rfl)
    try simp only [Act.put, List.setIfInBounds_toArray, List.set_cons_zero, List.set_cons_succ]
    refine wpAnyH_take (i := 5) (v := _) (by simp only [List.getElem?_toArray, List.getElem?_cons_zero, List.getElem?_cons_succ]; rfl) (by kernel_rfl) (by kernel_rfl) (by kernel_rfl) (by intro _ _ _ h; exact h) (yields_and (by rfl) 3 3 (.tmp 120) (.const (.int .i64 7)) rfl v 7 rfl rfl (z : Int) HZ.out) hHeld ?_
    try simp only [Act.put, List.setIfInBounds_toArray, List.set_cons_zero, List.set_cons_succ]
    refine wpAnyH_take (i := 6) (v := ?_) (by simp only [List.getElem?_toArray, List.getElem?_cons_zero, List.getElem?_cons_succ]; rfl) (by kernel_rfl) (by kernel_rfl) (by kernel_rfl) (by intro _ _ _ h; exact h) (Or.inl ⟨by rfl, ?_⟩) hHeld ?_
    rotate_left
    · (intro w hSw; (try dsimp only at hSw); go_simp; try with_reducible rfl)
    try simp only [Act.put, List.setIfInBounds_toArray, List.set_cons_zero, List.set_cons_succ]
    refine wpAnyH_ready (rs := [1, 3, 7]) (by kernel_rfl) (by simp) ?_
    refine AllReadyH.cons (by simp only [List.getElem?_toArray, List.getElem?_cons_zero, List.getElem?_cons_succ]; rfl) (fun K hK => ?_) (AllReadyH.cons (by simp only [List.getElem?_toArray, List.getElem?_cons_zero, List.getElem?_cons_succ]; rfl) (fun K hK => ?_) (AllReadyH.cons (by simp only [List.getElem?_toArray, List.getElem?_cons_zero, List.getElem?_cons_succ]; rfl) (fun K hK => ?_) AllReadyH.nil))
    · skip
      rw [if_pos (by rfl)]
      have ce4 := C4.out
      go_simp
      refine hK.out _ _ trivial (fun hHeld => ?_)
      clear hK K
      try simp only [Act.put, List.setIfInBounds_toArray, List.set_cons_zero, List.set_cons_succ]
      clear ce4
      refine wpAnyH_ready (rs := [3, 7]) (by kernel_rfl) (by simp) ?_
      refine AllReadyH.cons (by simp only [List.getElem?_toArray, List.getElem?_cons_zero, List.getElem?_cons_succ]; rfl) (fun K hK => ?_) (AllReadyH.cons (by simp only [List.getElem?_toArray, List.getElem?_cons_zero, List.getElem?_cons_succ]; rfl) (fun K hK => ?_) AllReadyH.nil)
      · skip
        rw [if_pos (by rfl)]
        have ce4 := C4.out
        go_simp
        refine hK.out _ _ trivial (fun hHeld => ?_)
        clear hK K
        try simp only [Act.put, List.setIfInBounds_toArray, List.set_cons_zero, List.set_cons_succ]
        clear ce4
        refine wpAnyH_ready (rs := [7]) (by kernel_rfl) (by simp) ?_
        refine AllReadyH.cons (by simp only [List.getElem?_toArray, List.getElem?_cons_zero, List.getElem?_cons_succ]; rfl) (fun K hK => ?_) AllReadyH.nil
        rw [if_pos (by rfl)]
        have ce4 := C4.out
        go_simp
        refine hK.out _ _ trivial (fun hHeld => ?_)
        clear hK K
        try simp only [Act.put, List.setIfInBounds_toArray, List.set_cons_zero, List.set_cons_succ]
        clear ce4
        refine wpAnyH_take (i := 8) (v := ?_) (by simp only [List.getElem?_toArray, List.getElem?_cons_zero, List.getElem?_cons_succ]; rfl) (by kernel_rfl) (by kernel_rfl) (by kernel_rfl) (by intro _ _ _ h; exact h) (Or.inl ⟨by rfl, ?_⟩) hHeld ?_
        rotate_left
        · (intro w hSw; (try dsimp only at hSw); go_simp; try with_reducible rfl)
        try simp only [Act.put, List.setIfInBounds_toArray, List.set_cons_zero, List.set_cons_succ]
        refine wpAnyH_take (i := 9) (v := ?_) (by simp only [List.getElem?_toArray, List.getElem?_cons_zero, List.getElem?_cons_succ]; rfl) (by kernel_rfl) (by kernel_rfl) (by kernel_rfl) (by intro _ _ _ h; exact h) (Or.inl ⟨by rfl, ?_⟩) hHeld ?_
        rotate_left
        · (intro w hSw; (try dsimp only at hSw); go_simp; try with_reducible rfl)
        try simp only [Act.put, List.setIfInBounds_toArray, List.set_cons_zero, List.set_cons_succ]
        refine wpAnyH_take (i := 10) (v := ?_) (by simp only [List.getElem?_toArray, List.getElem?_cons_zero, List.getElem?_cons_succ]; rfl) (by kernel_rfl) (by kernel_rfl) (by kernel_rfl) (by intro _ _ _ h; exact h) (Or.inl ⟨by rfl, ?_⟩) hHeld ?_
        rotate_left
        · (intro w hSw; (try dsimp only at hSw); go_simp; try with_reducible rfl)
        try simp only [Act.put, List.setIfInBounds_toArray, List.set_cons_zero, List.set_cons_succ]
        refine wpAnyH_ready (rs := [11]) (by kernel_rfl) (by simp) ?_
        refine AllReadyH.cons (by simp only [List.getElem?_toArray, List.getElem?_cons_zero, List.getElem?_cons_succ]; rfl) (fun K hK => ?_) AllReadyH.nil
        rw [if_pos (by rfl)]
        refine wp_load_mid 53 (.tmp 126) rfl g (j * 36) rfl cs _ RG.out Tryz.underlying53 rfl HSZ.out ?_
        refine hK.out _ _ trivial (fun hHeld => ?_)
        clear hK K
        try simp only [Act.put, List.setIfInBounds_toArray, List.set_cons_zero, List.set_cons_succ]
        refine wpAnyH_ready (rs := [12]) (by kernel_rfl) (by simp) ?_
        refine AllReadyH.cons (by simp only [List.getElem?_toArray, List.getElem?_cons_zero, List.getElem?_cons_succ]; rfl) (fun K hK => ?_) AllReadyH.nil
        rw [if_pos (by rfl)]
        refine wp_slice1 23 53 (.tmp 127) rfl cs rfl i0 (.agg zF.toArray) Tryz.underlying23 HI.out.1 HI.out.2.1 L7.out L5.out L6.out ?_
        obtain ⟨wa, hwa⟩ : ∃ w9, w9 = w3.drew.alloc (.cells cs.toArray 53) := ⟨_, rfl⟩
        have KA : Hid (Keeps (fun _ => False) w3 wa) := Lib.hid (by rw [hwa]; exact (Keeps.drew (fun _ => False) w3).trans (Keeps.alloc _ _ _) fun _ _ h => h)
        have BA : Hid (Below W.heap.size W wa) := Lib.hid (by rw [hwa]; exact HF.out.below.drew.alloc HF.out.below.size _)
        have RX : Hid (wa.ownsRow W.heap.size 53 36 (.slice (some ⟨g, 0, none⟩) m c3) m (flatS (fun i => cellsF (I i)) m)) := Lib.hid (KA.out.row HF.out.r1 fun _ _ h => h)
        have CA : Hid (∀ j u, cs[j]? = some u → wa.cell? ((⟨w3.heap.size, 0, none⟩ : Addr).add j) = some u) := Lib.hid fun j u hu => by
          rw [Go.WideShapes.add_plain, Nat.zero_add, hwa]
          exact block_cell (heap_new w3.drew _) j u (by simpa using hu)
        have PA : Hid (wa.heap[p]? = some (.cells (opL kd x y s (some ⟨g, 0, none⟩) m c3 A4 m c4).toArray 26 (0, 0))) := Lib.hid (KA.out.heap HF.out.at_ fun h => h)
        rw [← hwa]
        clear hwa
        refine hK.out _ _ trivial (fun hHeld => ?_)
        clear hK K
        try simp only [Act.put, List.setIfInBounds_toArray, List.set_cons_zero, List.set_cons_succ]
        refine wpAnyH_ready (rs := [13]) (by kernel_rfl) (by simp) ?_
        refine AllReadyH.cons (by simp only [List.getElem?_toArray, List.getElem?_cons_zero, List.getElem?_cons_succ]; rfl) (fun K hK => ?_) AllReadyH.nil
        rw [if_pos (by rfl)]
        refine wp_append_own wa (.tmp 117) (.tmp 128) 23 rfl W.heap.size 53 i0 (.agg zF.toArray) 36 64 Tryz.underlying23 HI.out.1 HI.out.2.1 HI.out.2.2.1 HI.out.2.2.2 rfl (by decide) (.slice (some ⟨g, 0, none⟩) m c3) m (flatS (fun i => cellsF (I i)) m) rfl RX.out ⟨w3.heap.size, 0, none⟩ 1 1 cs rfl L4.out CA.out HON.out (by unfold maxLen; omega) (by omega) BA.out.size (fun v8 wb hown hgr _ => ?_)
        rw [HFL.out] at hown
        have PB := Lib.hid ((hgr.block p (heap_lt PA.out) (fun e => row_ne_cells RX.out PA.out (by decide) e.symm)).trans PA.out)
        obtain ⟨A5, c5, rfl⟩ := row_shapeS hown
        have KB : Hid (Keeps (fun x => (Value.slice (some ⟨g, 0, none⟩) m c3).ownBlock = some x) w3 wb) := Lib.hid ((KA.out.mono fun _ _ h => h.elim).trans (Keeps.grown hgr fun _ e => e) fun _ _ h => h)
        have RO := Lib.hid (KB.out.row HF.out.r2 fun x h1 h2 => own_ne HF.out.r2 HF.out.r1 (by decide) h1 h2)
        have QB := Lib.hid (KB.out.heap HF.out.res (fun e => row_ne_cells HF.out.r1 HF.out.res (by decide) e))
        have RN := Lib.hid hown
        clear hown hgr
        refine hK.out _ _ trivial (fun hHeld => ?_)
        clear hK K
        try simp only [Act.put, List.setIfInBounds_toArray, List.set_cons_zero, List.set_cons_succ]
        refine wpAnyH_take (i := 14) (v := ?_) (by simp only [List.getElem?_toArray, List.getElem?_cons_zero, List.getElem?_cons_succ]; rfl) (by kernel_rfl) (by kernel_rfl) (by kernel_rfl) (by intro _ _ _ h; exact h) (Or.inl ⟨by rfl, ?_⟩) hHeld ?_
        rotate_left
        · (intro w hSw; (try dsimp only at hSw); go_simp; try with_reducible rfl)
        try simp only [Act.put, List.setIfInBounds_toArray, List.set_cons_zero, List.set_cons_succ]
        refine wpAnyH_ready (rs := [15]) (by kernel_rfl) (by simp) ?_
        refine AllReadyH.cons (by simp only [List.getElem?_toArray, List.getElem?_cons_zero, List.getElem?_cons_succ]; rfl) (fun K hK => ?_) AllReadyH.nil
        rw [if_pos (by rfl)]
        have d4 := block_cell PB.out 4 _ rfl
        have f4 := frozen_of_row wb p 4 _ _ PB.out
        go_simp
        refine hK.out _ _ trivial (fun hHeld => ?_)
        clear hK K
        try simp only [Act.put, List.setIfInBounds_toArray, List.set_cons_zero, List.set_cons_succ]
        refine wpAnyH_done (by kernel_rfl) ?_ _
        clear hHeld
        obtain ⟨w5, hwn⟩ : ∃ w9, w9 = wb.setCell ⟨p, 4, none⟩ (.slice A5 (m + 1) c5) := ⟨_, rfl⟩
        rw [← hwn]
        have KC : Hid (Keeps (fun x => x = p) wb w5) := Lib.hid (by rw [hwn]; exact Keeps.setCell (fun x => x = p) wb ⟨p, 4, none⟩ _ rfl)
        have HF : Hid (Half W w5 p q ⟨kd, x, y, s, [], []⟩ A5 (m + 1) c5 (pushAt I m (I j)) A4 m c4 P) := Lib.hid ⟨by
            have h := set_blk (o := 4) (v := .slice A5 (m + 1) c5) PB.out
            rw [← hwn] at h
            exact h, KC.out.heap QB.out (by have := HPQ.out; omega), KC.out.row RN.out fun x h1 h2 => row_ne_cells RN.out PB.out (by decide) (h2 ▸ h1), KC.out.row RO.out fun x h1 h2 => row_ne_cells RO.out PB.out (by decide) (h2 ▸ h1), (HF.out.below.trans (KB.out.below (fun x hx => (HF.out.r1.lt x hx).1) HF.out.below.size)).trans (KC.out.below (fun x e => by have e : x = p := e; have := HQ.out; omega) (Nat.le_trans HF.out.below.size KB.out.size))⟩
        clear hwn KC d4 f4 KA BA RX CA PA PB KB RO QB RN C4 RG HSZ L4 L5 L6 L7 HI HL HON HFL hrem hwj hmz hji hj0
        have RA : Hid (w5.rangeAt p 0 (opL kd x y s A5 (m + 1) c5 A4 m c4)) := Lib.hid (range_of HF.out.at_)
        have OO := Lib.hid (opL_one kd x y s A5 (m + 1) c5 A4 m c4)
        have SPL : Hid (splice zOp 0 (opL kd x y s A5 (m + 1) c5 A4 m c4) = (opL kd x y s A5 (m + 1) c5 A4 m c4)) := Lib.hid (splice_whole _ _ rfl)
        go_wp2_with (first | (refine wpList_load_midG rfl 26 (.tmp 3) rfl p 0 rfl (opL kd x y s A5 (m + 1) c5 A4 m c4) _ RA.out Tryz.underlying26 rfl sizeOp ?_) | (refine wpList_store_segK rfl 26 (.tmp 6) (.tmp 131) rfl q 0 rfl (opL kd x y s A5 (m + 1) c5 A4 m c4) rfl zOp 26 HF.out.res sizeOp (Nat.le_refl _) OO.out rfl ?_; intro w9 h9 k9 s9))
        rw [SPL.out] at h9
        have hz : w9.rangeAt q 0 (opL kd x y s A5 (m + 1) c5 A4 m c4) := fun j v hj => block_cell h9 _ v (by rw [Nat.zero_add]; simpa using hj)
        refine bodyPost_ret (results_cell_one rfl _ _ q _ _ rfl hz Tryz.underlying26 rfl sizeOp) rfl ?_
        exact ⟨kd, x, y, s, A5, (m + 1), c5, (pushAt I m (I j)), A4, m, c4, P, rfl, HKD.out, by omega, by omega, ⟨k9.row HF.out.r1 (fun k h1 e => row_ne_cells HF.out.r1 HF.out.res (by decide) (e ▸ h1)), k9.row HF.out.r2 (fun k h1 e => row_ne_cells HF.out.r2 HF.out.res (by decide) (e ▸ h1)), HF.out.below.trans (k9.below (fun k e => by have e : k = q := e; have := HQ.out; have := HPQ.out; omega) HF.out.below.size)⟩⟩
      · skip
        rw [if_pos (by rfl)]
        have ce4 := C4.out
        go_simp
        refine hK.out _ _ trivial (fun hHeld => ?_)
        clear hK K
        try simp only [Act.put, List.setIfInBounds_toArray, List.set_cons_zero, List.set_cons_succ]
        clear ce4
        refine wpAnyH_take (i := 8) (v := ?_) (by simp only [List.getElem?_toArray, List.getElem?_cons_zero, List.getElem?_cons_succ]; rfl) (by kernel_rfl) (by kernel_rfl) (by kernel_rfl) (by intro _ _ _ h; exact h) (Or.inl ⟨by rfl, ?_⟩) hHeld ?_
        rotate_left
        · (intro w hSw; (try dsimp only at hSw); go_simp; try with_reducible rfl)
        try simp only [Act.put, List.setIfInBounds_toArray, List.set_cons_zero, List.set_cons_succ]
        refine wpAnyH_take (i := 9) (v := ?_) (by simp only [List.getElem?_toArray, List.getElem?_cons_zero, List.getElem?_cons_succ]; rfl) (by kernel_rfl) (by kernel_rfl) (by kernel_rfl) (by intro _ _ _ h; exact h) (Or.inl ⟨by rfl, ?_⟩) hHeld ?_
        rotate_left
        · (intro w hSw; (try dsimp only at hSw); go_simp; try with_reducible rfl)
        try simp only [Act.put, List.setIfInBounds_toArray, List.set_cons_zero, List.set_cons_succ]
        refine wpAnyH_ready (rs := [3]) (by kernel_rfl) (by simp) ?_
        refine AllReadyH.cons (by simp only [List.getElem?_toArray, List.getElem?_cons_zero, List.getElem?_cons_succ]; rfl) (fun K hK => ?_) AllReadyH.nil
        rw [if_pos (by rfl)]
        have ce4 := C4.out
        go_simp
        refine hK.out _ _ trivial (fun hHeld => ?_)
        clear hK K
        try simp only [Act.put, List.setIfInBounds_toArray, List.set_cons_zero, List.set_cons_succ]
        clear ce4
        refine wpAnyH_take (i := 10) (v := ?_) (by simp only [List.getElem?_toArray, List.getElem?_cons_zero, List.getElem?_cons_succ]; rfl) (by kernel_rfl) (by kernel_rfl) (by kernel_rfl) (by intro _ _ _ h; exact h) (Or.inl ⟨by rfl, ?_⟩) hHeld ?_
        rotate_left
        · (intro w hSw; (try dsimp only at hSw); go_simp; try with_reducible rfl)
        try simp only [Act.put, List.setIfInBounds_toArray, List.set_cons_zero, List.set_cons_succ]
        refine wpAnyH_ready (rs := [11]) (by kernel_rfl) (by simp) ?_
        refine AllReadyH.cons (by simp only [List.getElem?_toArray, List.getElem?_cons_zero, List.getElem?_cons_succ]; rfl) (fun K hK => ?_) AllReadyH.nil
        rw [if_pos (by rfl)]
        refine wp_load_mid 53 (.tmp 126) rfl g (j * 36) rfl cs _ RG.out Tryz.underlying53 rfl HSZ.out ?_
        refine hK.out _ _ trivial (fun hHeld => ?_)
        clear hK K
        try simp only [Act.put, List.setIfInBounds_toArray, List.set_cons_zero, List.set_cons_succ]
        refine wpAnyH_ready (rs := [12]) (by kernel_rfl) (by simp) ?_
        refine AllReadyH.cons (by simp only [List.getElem?_toArray, List.getElem?_cons_zero, List.getElem?_cons_succ]; rfl) (fun K hK => ?_) AllReadyH.nil
        rw [if_pos (by rfl)]
        refine wp_slice1 23 53 (.tmp 127) rfl cs rfl i0 (.agg zF.toArray) Tryz.underlying23 HI.out.1 HI.out.2.1 L7.out L5.out L6.out ?_
        obtain ⟨wa, hwa⟩ : ∃ w9, w9 = w3.drew.alloc (.cells cs.toArray 53) := ⟨_, rfl⟩
        have KA : Hid (Keeps (fun _ => False) w3 wa) := Lib.hid (by rw [hwa]; exact (Keeps.drew (fun _ => False) w3).trans (Keeps.alloc _ _ _) fun _ _ h => h)
        have BA : Hid (Below W.heap.size W wa) := Lib.hid (by rw [hwa]; exact HF.out.below.drew.alloc HF.out.below.size _)
        have RX : Hid (wa.ownsRow W.heap.size 53 36 (.slice (some ⟨g, 0, none⟩) m c3) m (flatS (fun i => cellsF (I i)) m)) := Lib.hid (KA.out.row HF.out.r1 fun _ _ h => h)
        have CA : Hid (∀ j u, cs[j]? = some u → wa.cell? ((⟨w3.heap.size, 0, none⟩ : Addr).add j) = some u) := Lib.hid fun j u hu => by
          rw [Go.WideShapes.add_plain, Nat.zero_add, hwa]
          exact block_cell (heap_new w3.drew _) j u (by simpa using hu)
        have PA : Hid (wa.heap[p]? = some (.cells (opL kd x y s (some ⟨g, 0, none⟩) m c3 A4 m c4).toArray 26 (0, 0))) := Lib.hid (KA.out.heap HF.out.at_ fun h => h)
        rw [← hwa]
        clear hwa
        refine hK.out _ _ trivial (fun hHeld => ?_)
        clear hK K
        try simp only [Act.put, List.setIfInBounds_toArray, List.set_cons_zero, List.set_cons_succ]
        refine wpAnyH_ready (rs := [13]) (by kernel_rfl) (by simp) ?_
        refine AllReadyH.cons (by simp only [List.getElem?_toArray, List.getElem?_cons_zero, List.getElem?_cons_succ]; rfl) (fun K hK => ?_) AllReadyH.nil
        rw [if_pos (by rfl)]
        refine wp_append_own wa (.tmp 117) (.tmp 128) 23 rfl W.heap.size 53 i0 (.agg zF.toArray) 36 64 Tryz.underlying23 HI.out.1 HI.out.2.1 HI.out.2.2.1 HI.out.2.2.2 rfl (by decide) (.slice (some ⟨g, 0, none⟩) m c3) m (flatS (fun i => cellsF (I i)) m) rfl RX.out ⟨w3.heap.size, 0, none⟩ 1 1 cs rfl L4.out CA.out HON.out (by unfold maxLen; omega) (by omega) BA.out.size (fun v8 wb hown hgr _ => ?_)
        rw [HFL.out] at hown
        have PB := Lib.hid ((hgr.block p (heap_lt PA.out) (fun e => row_ne_cells RX.out PA.out (by decide) e.symm)).trans PA.out)
        obtain ⟨A5, c5, rfl⟩ := row_shapeS hown
        have KB : Hid (Keeps (fun x => (Value.slice (some ⟨g, 0, none⟩) m c3).ownBlock = some x) w3 wb) := Lib.hid ((KA.out.mono fun _ _ h => h.elim).trans (Keeps.grown hgr fun _ e => e) fun _ _ h => h)
        have RO := Lib.hid (KB.out.row HF.out.r2 fun x h1 h2 => own_ne HF.out.r2 HF.out.r1 (by decide) h1 h2)
        have QB := Lib.hid (KB.out.heap HF.out.res (fun e => row_ne_cells HF.out.r1 HF.out.res (by decide) e))
        have RN := Lib.hid hown
        clear hown hgr
        refine hK.out _ _ trivial (fun hHeld => ?_)
        clear hK K
        try simp only [Act.put, List.setIfInBounds_toArray, List.set_cons_zero, List.set_cons_succ]
        refine wpAnyH_take (i := 14) (v := ?_) (by simp only [List.getElem?_toArray, List.getElem?_cons_zero, List.getElem?_cons_succ]; rfl) (by kernel_rfl) (by kernel_rfl) (by kernel_rfl) (by intro _ _ _ h; exact h) (Or.inl ⟨by rfl, ?_⟩) hHeld ?_
        rotate_left
        · (intro w hSw; (try dsimp only at hSw); go_simp; try with_reducible rfl)
        try simp only [Act.put, List.setIfInBounds_toArray, List.set_cons_zero, List.set_cons_succ]
        refine wpAnyH_ready (rs := [15]) (by kernel_rfl) (by simp) ?_
        refine AllReadyH.cons (by simp only [List.getElem?_toArray, List.getElem?_cons_zero, List.getElem?_cons_succ]; rfl) (fun K hK => ?_) AllReadyH.nil
        rw [if_pos (by rfl)]
        have d4 := block_cell PB.out 4 _ rfl
        have f4 := frozen_of_row wb p 4 _ _ PB.out
        go_simp
        refine hK.out _ _ trivial (fun hHeld => ?_)
        clear hK K
        try simp only [Act.put, List.setIfInBounds_toArray, List.set_cons_zero, List.set_cons_succ]
        refine wpAnyH_done (by kernel_rfl) ?_ _
        clear hHeld
        obtain ⟨w5, hwn⟩ : ∃ w9, w9 = wb.setCell ⟨p, 4, none⟩ (.slice A5 (m + 1) c5) := ⟨_, rfl⟩
        rw [← hwn]
        have KC : Hid (Keeps (fun x => x = p) wb w5) := Lib.hid (by rw [hwn]; exact Keeps.setCell (fun x => x = p) wb ⟨p, 4, none⟩ _ rfl)
        have HF : Hid (Half W w5 p q ⟨kd, x, y, s, [], []⟩ A5 (m + 1) c5 (pushAt I m (I j)) A4 m c4 P) := Lib.hid ⟨by
            have h := set_blk (o := 4) (v := .slice A5 (m + 1) c5) PB.out
            rw [← hwn] at h
            exact h, KC.out.heap QB.out (by have := HPQ.out; omega), KC.out.row RN.out fun x h1 h2 => row_ne_cells RN.out PB.out (by decide) (h2 ▸ h1), KC.out.row RO.out fun x h1 h2 => row_ne_cells RO.out PB.out (by decide) (h2 ▸ h1), (HF.out.below.trans (KB.out.below (fun x hx => (HF.out.r1.lt x hx).1) HF.out.below.size)).trans (KC.out.below (fun x e => by have e : x = p := e; have := HQ.out; omega) (Nat.le_trans HF.out.below.size KB.out.size))⟩
        clear hwn KC d4 f4 KA BA RX CA PA PB KB RO QB RN C4 RG HSZ L4 L5 L6 L7 HI HL HON HFL hrem hwj hmz hji hj0
        have RA : Hid (w5.rangeAt p 0 (opL kd x y s A5 (m + 1) c5 A4 m c4)) := Lib.hid (range_of HF.out.at_)
        have OO := Lib.hid (opL_one kd x y s A5 (m + 1) c5 A4 m c4)
        have SPL : Hid (splice zOp 0 (opL kd x y s A5 (m + 1) c5 A4 m c4) = (opL kd x y s A5 (m + 1) c5 A4 m c4)) := Lib.hid (splice_whole _ _ rfl)
        go_wp2_with (first | (refine wpList_load_midG rfl 26 (.tmp 3) rfl p 0 rfl (opL kd x y s A5 (m + 1) c5 A4 m c4) _ RA.out Tryz.underlying26 rfl sizeOp ?_) | (refine wpList_store_segK rfl 26 (.tmp 6) (.tmp 131) rfl q 0 rfl (opL kd x y s A5 (m + 1) c5 A4 m c4) rfl zOp 26 HF.out.res sizeOp (Nat.le_refl _) OO.out rfl ?_; intro w9 h9 k9 s9))
        rw [SPL.out] at h9
        have hz : w9.rangeAt q 0 (opL kd x y s A5 (m + 1) c5 A4 m c4) := fun j v hj => block_cell h9 _ v (by rw [Nat.zero_add]; simpa using hj)
        refine bodyPost_ret (results_cell_one rfl _ _ q _ _ rfl hz Tryz.underlying26 rfl sizeOp) rfl ?_
        exact ⟨kd, x, y, s, A5, (m + 1), c5, (pushAt I m (I j)), A4, m, c4, P, rfl, HKD.out, by omega, by omega, ⟨k9.row HF.out.r1 (fun k h1 e => row_ne_cells HF.out.r1 HF.out.res (by decide) (e ▸ h1)), k9.row HF.out.r2 (fun k h1 e => row_ne_cells HF.out.r2 HF.out.res (by decide) (e ▸ h1)), HF.out.below.trans (k9.below (fun k e => by have e : k = q := e; have := HQ.out; have := HPQ.out; omega) HF.out.below.size)⟩⟩
    · skip
      rw [if_pos (by rfl)]
      have ce4 := C4.out
      go_simp
      refine hK.out _ _ trivial (fun hHeld => ?_)
      clear hK K
      try simp only [Act.put, List.setIfInBounds_toArray, List.set_cons_zero, List.set_cons_succ]
      clear ce4
      refine wpAnyH_ready (rs := [1, 7]) (by kernel_rfl) (by simp) ?_
      refine AllReadyH.cons (by simp only [List.getElem?_toArray, List.getElem?_cons_zero, List.getElem?_cons_succ]; rfl) (fun K hK => ?_) (AllReadyH.cons (by simp only [List.getElem?_toArray, List.getElem?_cons_zero, List.getElem?_cons_succ]; rfl) (fun K hK => ?_) AllReadyH.nil)
      · skip
        rw [if_pos (by rfl)]
        have ce4 := C4.out
        go_simp
        refine hK.out _ _ trivial (fun hHeld => ?_)
        clear hK K
        try simp only [Act.put, List.setIfInBounds_toArray, List.set_cons_zero, List.set_cons_succ]
        clear ce4
        refine wpAnyH_ready (rs := [7]) (by kernel_rfl) (by simp) ?_
        refine AllReadyH.cons (by simp only [List.getElem?_toArray, List.getElem?_cons_zero, List.getElem?_cons_succ]; rfl) (fun K hK => ?_) AllReadyH.nil
        rw [if_pos (by rfl)]
        have ce4 := C4.out
        go_simp
        refine hK.out _ _ trivial (fun hHeld => ?_)
        clear hK K
        try simp only [Act.put, List.setIfInBounds_toArray, List.set_cons_zero, List.set_cons_succ]
        clear ce4
        refine wpAnyH_take (i := 8) (v := ?_) (by simp only [List.getElem?_toArray, List.getElem?_cons_zero, List.getElem?_cons_succ]; rfl) (by kernel_rfl) (by kernel_rfl) (by kernel_rfl) (by intro _ _ _ h; exact h) (Or.inl ⟨by rfl, ?_⟩) hHeld ?_
        rotate_left
        · (intro w hSw; (try dsimp only at hSw); go_simp; try with_reducible rfl)
        try simp only [Act.put, List.setIfInBounds_toArray, List.set_cons_zero, List.set_cons_succ]
        refine wpAnyH_take (i := 9) (v := ?_) (by simp only [List.getElem?_toArray, List.getElem?_cons_zero, List.getElem?_cons_succ]; rfl) (by kernel_rfl) (by kernel_rfl) (by kernel_rfl) (by intro _ _ _ h; exact h) (Or.inl ⟨by rfl, ?_⟩) hHeld ?_
        rotate_left
        · (intro w hSw; (try dsimp only at hSw); go_simp; try with_reducible rfl)
        try simp only [Act.put, List.setIfInBounds_toArray, List.set_cons_zero, List.set_cons_succ]
        refine wpAnyH_take (i := 10) (v := ?_) (by simp only [List.getElem?_toArray, List.getElem?_cons_zero, List.getElem?_cons_succ]; rfl) (by kernel_rfl) (by kernel_rfl) (by kernel_rfl) (by intro _ _ _ h; exact h) (Or.inl ⟨by rfl, ?_⟩) hHeld ?_
        rotate_left
        · (intro w hSw; (try dsimp only at hSw); go_simp; try with_reducible rfl)
        try simp only [Act.put, List.setIfInBounds_toArray, List.set_cons_zero, List.set_cons_succ]
        refine wpAnyH_ready (rs := [11]) (by kernel_rfl) (by simp) ?_
        refine AllReadyH.cons (by simp only [List.getElem?_toArray, List.getElem?_cons_zero, List.getElem?_cons_succ]; rfl) (fun K hK => ?_) AllReadyH.nil
        rw [if_pos (by rfl)]
        refine wp_load_mid 53 (.tmp 126) rfl g (j * 36) rfl cs _ RG.out Tryz.underlying53 rfl HSZ.out ?_
        refine hK.out _ _ trivial (fun hHeld => ?_)
        clear hK K
        try simp only [Act.put, List.setIfInBounds_toArray, List.set_cons_zero, List.set_cons_succ]
        refine wpAnyH_ready (rs := [12]) (by kernel_rfl) (by simp) ?_
        refine AllReadyH.cons (by simp only [List.getElem?_toArray, List.getElem?_cons_zero, List.getElem?_cons_succ]; rfl) (fun K hK => ?_) AllReadyH.nil
        rw [if_pos (by rfl)]
        refine wp_slice1 23 53 (.tmp 127) rfl cs rfl i0 (.agg zF.toArray) Tryz.underlying23 HI.out.1 HI.out.2.1 L7.out L5.out L6.out ?_
        obtain ⟨wa, hwa⟩ : ∃ w9, w9 = w3.drew.alloc (.cells cs.toArray 53) := ⟨_, rfl⟩
        have KA : Hid (Keeps (fun _ => False) w3 wa) := Lib.hid (by rw [hwa]; exact (Keeps.drew (fun _ => False) w3).trans (Keeps.alloc _ _ _) fun _ _ h => h)
        have BA : Hid (Below W.heap.size W wa) := Lib.hid (by rw [hwa]; exact HF.out.below.drew.alloc HF.out.below.size _)
        have RX : Hid (wa.ownsRow W.heap.size 53 36 (.slice (some ⟨g, 0, none⟩) m c3) m (flatS (fun i => cellsF (I i)) m)) := Lib.hid (KA.out.row HF.out.r1 fun _ _ h => h)
        have CA : Hid (∀ j u, cs[j]? = some u → wa.cell? ((⟨w3.heap.size, 0, none⟩ : Addr).add j) = some u) := Lib.hid fun j u hu => by
          rw [Go.WideShapes.add_plain, Nat.zero_add, hwa]
          exact block_cell (heap_new w3.drew _) j u (by simpa using hu)
        have PA : Hid (wa.heap[p]? = some (.cells (opL kd x y s (some ⟨g, 0, none⟩) m c3 A4 m c4).toArray 26 (0, 0))) := Lib.hid (KA.out.heap HF.out.at_ fun h => h)
        rw [← hwa]
        clear hwa
        refine hK.out _ _ trivial (fun hHeld => ?_)
        clear hK K
        try simp only [Act.put, List.setIfInBounds_toArray, List.set_cons_zero, List.set_cons_succ]
        refine wpAnyH_ready (rs := [13]) (by kernel_rfl) (by simp) ?_
        refine AllReadyH.cons (by simp only [List.getElem?_toArray, List.getElem?_cons_zero, List.getElem?_cons_succ]; rfl) (fun K hK => ?_) AllReadyH.nil
        rw [if_pos (by rfl)]
        refine wp_append_own wa (.tmp 117) (.tmp 128) 23 rfl W.heap.size 53 i0 (.agg zF.toArray) 36 64 Tryz.underlying23 HI.out.1 HI.out.2.1 HI.out.2.2.1 HI.out.2.2.2 rfl (by decide) (.slice (some ⟨g, 0, none⟩) m c3) m (flatS (fun i => cellsF (I i)) m) rfl RX.out ⟨w3.heap.size, 0, none⟩ 1 1 cs rfl L4.out CA.out HON.out (by unfold maxLen; omega) (by omega) BA.out.size (fun v8 wb hown hgr _ => ?_)
        rw [HFL.out] at hown
        have PB := Lib.hid ((hgr.block p (heap_lt PA.out) (fun e => row_ne_cells RX.out PA.out (by decide) e.symm)).trans PA.out)
        obtain ⟨A5, c5, rfl⟩ := row_shapeS hown
        have KB : Hid (Keeps (fun x => (Value.slice (some ⟨g, 0, none⟩) m c3).ownBlock = some x) w3 wb) := Lib.hid ((KA.out.mono fun _ _ h => h.elim).trans (Keeps.grown hgr fun _ e => e) fun _ _ h => h)
        have RO := Lib.hid (KB.out.row HF.out.r2 fun x h1 h2 => own_ne HF.out.r2 HF.out.r1 (by decide) h1 h2)
        have QB := Lib.hid (KB.out.heap HF.out.res (fun e => row_ne_cells HF.out.r1 HF.out.res (by decide) e))
        have RN := Lib.hid hown
        clear hown hgr
        refine hK.out _ _ trivial (fun hHeld => ?_)
        clear hK K
        try simp only [Act.put, List.setIfInBounds_toArray, List.set_cons_zero, List.set_cons_succ]
        refine wpAnyH_take (i := 14) (v := ?_) (by simp only [List.getElem?_toArray, List.getElem?_cons_zero, List.getElem?_cons_succ]; rfl) (by kernel_rfl) (by kernel_rfl) (by kernel_rfl) (by intro _ _ _ h; exact h) (Or.inl ⟨by rfl, ?_⟩) hHeld ?_
        rotate_left
        · (intro w hSw; (try dsimp only at hSw); go_simp; try with_reducible rfl)
        try simp only [Act.put, List.setIfInBounds_toArray, List.set_cons_zero, List.set_cons_succ]
        refine wpAnyH_ready (rs := [15]) (by kernel_rfl) (by simp) ?_
        refine AllReadyH.cons (by simp only [List.getElem?_toArray, List.getElem?_cons_zero, List.getElem?_cons_succ]; rfl) (fun K hK => ?_) AllReadyH.nil
        rw [if_pos (by rfl)]
        have d4 := block_cell PB.out 4 _ rfl
        have f4 := frozen_of_row wb p 4 _ _ PB.out
        go_simp
        refine hK.out _ _ trivial (fun hHeld => ?_)
        clear hK K
        try simp only [Act.put, List.setIfInBounds_toArray, List.set_cons_zero, List.set_cons_succ]
        refine wpAnyH_done (by kernel_rfl) ?_ _
        clear hHeld
        obtain ⟨w5, hwn⟩ : ∃ w9, w9 = wb.setCell ⟨p, 4, none⟩ (.slice A5 (m + 1) c5) := ⟨_, rfl⟩
        rw [← hwn]
        have KC : Hid (Keeps (fun x => x = p) wb w5) := Lib.hid (by rw [hwn]; exact Keeps.setCell (fun x => x = p) wb ⟨p, 4, none⟩ _ rfl)
        have HF : Hid (Half W w5 p q ⟨kd, x, y, s, [], []⟩ A5 (m + 1) c5 (pushAt I m (I j)) A4 m c4 P) := Lib.hid ⟨by
            have h := set_blk (o := 4) (v := .slice A5 (m + 1) c5) PB.out
            rw [← hwn] at h
            exact h, KC.out.heap QB.out (by have := HPQ.out; omega), KC.out.row RN.out fun x h1 h2 => row_ne_cells RN.out PB.out (by decide) (h2 ▸ h1), KC.out.row RO.out fun x h1 h2 => row_ne_cells RO.out PB.out (by decide) (h2 ▸ h1), (HF.out.below.trans (KB.out.below (fun x hx => (HF.out.r1.lt x hx).1) HF.out.below.size)).trans (KC.out.below (fun x e => by have e : x = p := e; have := HQ.out; omega) (Nat.le_trans HF.out.below.size KB.out.size))⟩
        clear hwn KC d4 f4 KA BA RX CA PA PB KB RO QB RN C4 RG HSZ L4 L5 L6 L7 HI HL HON HFL hrem hwj hmz hji hj0
        have RA : Hid (w5.rangeAt p 0 (opL kd x y s A5 (m + 1) c5 A4 m c4)) := Lib.hid (range_of HF.out.at_)
        have OO := Lib.hid (opL_one kd x y s A5 (m + 1) c5 A4 m c4)
        have SPL : Hid (splice zOp 0 (opL kd x y s A5 (m + 1) c5 A4 m c4) = (opL kd x y s A5 (m + 1) c5 A4 m c4)) := Lib.hid (splice_whole _ _ rfl)
        go_wp2_with (first | (refine wpList_load_midG rfl 26 (.tmp 3) rfl p 0 rfl (opL kd x y s A5 (m + 1) c5 A4 m c4) _ RA.out Tryz.underlying26 rfl sizeOp ?_) | (refine wpList_store_segK rfl 26 (.tmp 6) (.tmp 131) rfl q 0 rfl (opL kd x y s A5 (m + 1) c5 A4 m c4) rfl zOp 26 HF.out.res sizeOp (Nat.le_refl _) OO.out rfl ?_; intro w9 h9 k9 s9))
        rw [SPL.out] at h9
        have hz : w9.rangeAt q 0 (opL kd x y s A5 (m + 1) c5 A4 m c4) := fun j v hj => block_cell h9 _ v (by rw [Nat.zero_add]; simpa using hj)
        refine bodyPost_ret (results_cell_one rfl _ _ q _ _ rfl hz Tryz.underlying26 rfl sizeOp) rfl ?_
        exact ⟨kd, x, y, s, A5, (m + 1), c5, (pushAt I m (I j)), A4, m, c4, P, rfl, HKD.out, by omega, by omega, ⟨k9.row HF.out.r1 (fun k h1 e => row_ne_cells HF.out.r1 HF.out.res (by decide) (e ▸ h1)), k9.row HF.out.r2 (fun k h1 e => row_ne_cells HF.out.r2 HF.out.res (by decide) (e ▸ h1)), HF.out.below.trans (k9.below (fun k e => by have e : k = q := e; have := HQ.out; have := HPQ.out; omega) HF.out.below.size)⟩⟩
      · skip
        rw [if_pos (by rfl)]
        have ce4 := C4.out
        go_simp
        refine hK.out _ _ trivial (fun hHeld => ?_)
        clear hK K
        try simp only [Act.put, List.setIfInBounds_toArray, List.set_cons_zero, List.set_cons_succ]
        clear ce4
        refine wpAnyH_take (i := 8) (v := ?_) (by simp only [List.getElem?_toArray, List.getElem?_cons_zero, List.getElem?_cons_succ]; rfl) (by kernel_rfl) (by kernel_rfl) (by kernel_rfl) (by intro _ _ _ h; exact h) (Or.inl ⟨by rfl, ?_⟩) hHeld ?_
        rotate_left
        · (intro w hSw; (try dsimp only at hSw); go_simp; try with_reducible rfl)
        try simp only [Act.put, List.setIfInBounds_toArray, List.set_cons_zero, List.set_cons_succ]
        refine wpAnyH_take (i := 9) (v := ?_) (by simp only [List.getElem?_toArray, List.getElem?_cons_zero, List.getElem?_cons_succ]; rfl) (by kernel_rfl) (by kernel_rfl) (by kernel_rfl) (by intro _ _ _ h; exact h) (Or.inl ⟨by rfl, ?_⟩) hHeld ?_
        rotate_left
        · (intro w hSw; (try dsimp only at hSw); go_simp; try with_reducible rfl)
        try simp only [Act.put, List.setIfInBounds_toArray, List.set_cons_zero, List.set_cons_succ]
        refine wpAnyH_take (i := 10) (v := ?_) (by simp only [List.getElem?_toArray, List.getElem?_cons_zero, List.getElem?_cons_succ]; rfl) (by kernel_rfl) (by kernel_rfl) (by kernel_rfl) (by intro _ _ _ h; exact h) (Or.inl ⟨by rfl, ?_⟩) hHeld ?_
        rotate_left
        · (intro w hSw; (try dsimp only at hSw); go_simp; try with_reducible rfl)
        try simp only [Act.put, List.setIfInBounds_toArray, List.set_cons_zero, List.set_cons_succ]
        refine wpAnyH_ready (rs := [1, 11]) (by kernel_rfl) (by simp) ?_
        refine AllReadyH.cons (by simp only [List.getElem?_toArray, List.getElem?_cons_zero, List.getElem?_cons_succ]; rfl) (fun K hK => ?_) (AllReadyH.cons (by simp only [List.getElem?_toArray, List.getElem?_cons_zero, List.getElem?_cons_succ]; rfl) (fun K hK => ?_) AllReadyH.nil)
        · skip
          rw [if_pos (by rfl)]
          have ce4 := C4.out
          go_simp
          refine hK.out _ _ trivial (fun hHeld => ?_)
          clear hK K
          try simp only [Act.put, List.setIfInBounds_toArray, List.set_cons_zero, List.set_cons_succ]
          clear ce4
          refine wpAnyH_ready (rs := [11]) (by kernel_rfl) (by simp) ?_
          refine AllReadyH.cons (by simp only [List.getElem?_toArray, List.getElem?_cons_zero, List.getElem?_cons_succ]; rfl) (fun K hK => ?_) AllReadyH.nil
          rw [if_pos (by rfl)]
          refine wp_load_mid 53 (.tmp 126) rfl g (j * 36) rfl cs _ RG.out Tryz.underlying53 rfl HSZ.out ?_
          refine hK.out _ _ trivial (fun hHeld => ?_)
          clear hK K
          try simp only [Act.put, List.setIfInBounds_toArray, List.set_cons_zero, List.set_cons_succ]
          refine wpAnyH_ready (rs := [12]) (by kernel_rfl) (by simp) ?_
          refine AllReadyH.cons (by simp only [List.getElem?_toArray, List.getElem?_cons_zero, List.getElem?_cons_succ]; rfl) (fun K hK => ?_) AllReadyH.nil
          rw [if_pos (by rfl)]
          refine wp_slice1 23 53 (.tmp 127) rfl cs rfl i0 (.agg zF.toArray) Tryz.underlying23 HI.out.1 HI.out.2.1 L7.out L5.out L6.out ?_
          obtain ⟨wa, hwa⟩ : ∃ w9, w9 = w3.drew.alloc (.cells cs.toArray 53) := ⟨_, rfl⟩
          have KA : Hid (Keeps (fun _ => False) w3 wa) := Lib.hid (by rw [hwa]; exact (Keeps.drew (fun _ => False) w3).trans (Keeps.alloc _ _ _) fun _ _ h => h)
          have BA : Hid (Below W.heap.size W wa) := Lib.hid (by rw [hwa]; exact HF.out.below.drew.alloc HF.out.below.size _)
          have RX : Hid (wa.ownsRow W.heap.size 53 36 (.slice (some ⟨g, 0, none⟩) m c3) m (flatS (fun i => cellsF (I i)) m)) := Lib.hid (KA.out.row HF.out.r1 fun _ _ h => h)
          have CA : Hid (∀ j u, cs[j]? = some u → wa.cell? ((⟨w3.heap.size, 0, none⟩ : Addr).add j) = some u) := Lib.hid fun j u hu => by
            rw [Go.WideShapes.add_plain, Nat.zero_add, hwa]
            exact block_cell (heap_new w3.drew _) j u (by simpa using hu)
          have PA : Hid (wa.heap[p]? = some (.cells (opL kd x y s (some ⟨g, 0, none⟩) m c3 A4 m c4).toArray 26 (0, 0))) := Lib.hid (KA.out.heap HF.out.at_ fun h => h)
          rw [← hwa]
          clear hwa
          refine hK.out _ _ trivial (fun hHeld => ?_)
          clear hK K
          try simp only [Act.put, List.setIfInBounds_toArray, List.set_cons_zero, List.set_cons_succ]
          refine wpAnyH_ready (rs := [13]) (by kernel_rfl) (by simp) ?_
          refine AllReadyH.cons (by simp only [List.getElem?_toArray, List.getElem?_cons_zero, List.getElem?_cons_succ]; rfl) (fun K hK => ?_) AllReadyH.nil
          rw [if_pos (by rfl)]
          refine wp_append_own wa (.tmp 117) (.tmp 128) 23 rfl W.heap.size 53 i0 (.agg zF.toArray) 36 64 Tryz.underlying23 HI.out.1 HI.out.2.1 HI.out.2.2.1 HI.out.2.2.2 rfl (by decide) (.slice (some ⟨g, 0, none⟩) m c3) m (flatS (fun i => cellsF (I i)) m) rfl RX.out ⟨w3.heap.size, 0, none⟩ 1 1 cs rfl L4.out CA.out HON.out (by unfold maxLen; omega) (by omega) BA.out.size (fun v8 wb hown hgr _ => ?_)
          rw [HFL.out] at hown
          have PB := Lib.hid ((hgr.block p (heap_lt PA.out) (fun e => row_ne_cells RX.out PA.out (by decide) e.symm)).trans PA.out)
          obtain ⟨A5, c5, rfl⟩ := row_shapeS hown
          have KB : Hid (Keeps (fun x => (Value.slice (some ⟨g, 0, none⟩) m c3).ownBlock = some x) w3 wb) := Lib.hid ((KA.out.mono fun _ _ h => h.elim).trans (Keeps.grown hgr fun _ e => e) fun _ _ h => h)
          have RO := Lib.hid (KB.out.row HF.out.r2 fun x h1 h2 => own_ne HF.out.r2 HF.out.r1 (by decide) h1 h2)
          have QB := Lib.hid (KB.out.heap HF.out.res (fun e => row_ne_cells HF.out.r1 HF.out.res (by decide) e))
          have RN := Lib.hid hown
          clear hown hgr
          refine hK.out _ _ trivial (fun hHeld => ?_)
          clear hK K
          try simp only [Act.put, List.setIfInBounds_toArray, List.set_cons_zero, List.set_cons_succ]
          refine wpAnyH_take (i := 14) (v := ?_) (by simp only [List.getElem?_toArray, List.getElem?_cons_zero, List.getElem?_cons_succ]; rfl) (by kernel_rfl) (by kernel_rfl) (by kernel_rfl) (by intro _ _ _ h; exact h) (Or.inl ⟨by rfl, ?_⟩) hHeld ?_
          rotate_left
          · (intro w hSw; (try dsimp only at hSw); go_simp; try with_reducible rfl)
          try simp only [Act.put, List.setIfInBounds_toArray, List.set_cons_zero, List.set_cons_succ]
          refine wpAnyH_ready (rs := [15]) (by kernel_rfl) (by simp) ?_
          refine AllReadyH.cons (by simp only [List.getElem?_toArray, List.getElem?_cons_zero, List.getElem?_cons_succ]; rfl) (fun K hK => ?_) AllReadyH.nil
          rw [if_pos (by rfl)]
          have d4 := block_cell PB.out 4 _ rfl
          have f4 := frozen_of_row wb p 4 _ _ PB.out
          go_simp
          refine hK.out _ _ trivial (fun hHeld => ?_)
          clear hK K
          try simp only [Act.put, List.setIfInBounds_toArray, List.set_cons_zero, List.set_cons_succ]
          refine wpAnyH_done (by kernel_rfl) ?_ _
          clear hHeld
          obtain ⟨w5, hwn⟩ : ∃ w9, w9 = wb.setCell ⟨p, 4, none⟩ (.slice A5 (m + 1) c5) := ⟨_, rfl⟩
          rw [← hwn]
          have KC : Hid (Keeps (fun x => x = p) wb w5) := Lib.hid (by rw [hwn]; exact Keeps.setCell (fun x => x = p) wb ⟨p, 4, none⟩ _ rfl)
          have HF : Hid (Half W w5 p q ⟨kd, x, y, s, [], []⟩ A5 (m + 1) c5 (pushAt I m (I j)) A4 m c4 P) := Lib.hid ⟨by
              have h := set_blk (o := 4) (v := .slice A5 (m + 1) c5) PB.out
              rw [← hwn] at h
              exact h, KC.out.heap QB.out (by have := HPQ.out; omega), KC.out.row RN.out fun x h1 h2 => row_ne_cells RN.out PB.out (by decide) (h2 ▸ h1), KC.out.row RO.out fun x h1 h2 => row_ne_cells RO.out PB.out (by decide) (h2 ▸ h1), (HF.out.below.trans (KB.out.below (fun x hx => (HF.out.r1.lt x hx).1) HF.out.below.size)).trans (KC.out.below (fun x e => by have e : x = p := e; have := HQ.out; omega) (Nat.le_trans HF.out.below.size KB.out.size))⟩
          clear hwn KC d4 f4 KA BA RX CA PA PB KB RO QB RN C4 RG HSZ L4 L5 L6 L7 HI HL HON HFL hrem hwj hmz hji hj0
          have RA : Hid (w5.rangeAt p 0 (opL kd x y s A5 (m + 1) c5 A4 m c4)) := Lib.hid (range_of HF.out.at_)
          have OO := Lib.hid (opL_one kd x y s A5 (m + 1) c5 A4 m c4)
          have SPL : Hid (splice zOp 0 (opL kd x y s A5 (m + 1) c5 A4 m c4) = (opL kd x y s A5 (m + 1) c5 A4 m c4)) := Lib.hid (splice_whole _ _ rfl)
          go_wp2_with (first | (refine wpList_load_midG rfl 26 (.tmp 3) rfl p 0 rfl (opL kd x y s A5 (m + 1) c5 A4 m c4) _ RA.out Tryz.underlying26 rfl sizeOp ?_) | (refine wpList_store_segK rfl 26 (.tmp 6) (.tmp 131) rfl q 0 rfl (opL kd x y s A5 (m + 1) c5 A4 m c4) rfl zOp 26 HF.out.res sizeOp (Nat.le_refl _) OO.out rfl ?_; intro w9 h9 k9 s9))
          rw [SPL.out] at h9
          have hz : w9.rangeAt q 0 (opL kd x y s A5 (m + 1) c5 A4 m c4) := fun j v hj => block_cell h9 _ v (by rw [Nat.zero_add]; simpa using hj)
          refine bodyPost_ret (results_cell_one rfl _ _ q _ _ rfl hz Tryz.underlying26 rfl sizeOp) rfl ?_
          exact ⟨kd, x, y, s, A5, (m + 1), c5, (pushAt I m (I j)), A4, m, c4, P, rfl, HKD.out, by omega, by omega, ⟨k9.row HF.out.r1 (fun k h1 e => row_ne_cells HF.out.r1 HF.out.res (by decide) (e ▸ h1)), k9.row HF.out.r2 (fun k h1 e => row_ne_cells HF.out.r2 HF.out.res (by decide) (e ▸ h1)), HF.out.below.trans (k9.below (fun k e => by have e : k = q := e; have := HQ.out; have := HPQ.out; omega) HF.out.below.size)⟩⟩
        · skip
          rw [if_pos (by rfl)]
          refine wp_load_mid 53 (.tmp 126) rfl g (j * 36) rfl cs _ RG.out Tryz.underlying53 rfl HSZ.out ?_
          refine hK.out _ _ trivial (fun hHeld => ?_)
          clear hK K
          try simp only [Act.put, List.setIfInBounds_toArray, List.set_cons_zero, List.set_cons_succ]
          refine wpAnyH_ready (rs := [1, 12]) (by kernel_rfl) (by simp) ?_
          refine AllReadyH.cons (by simp only [List.getElem?_toArray, List.getElem?_cons_zero, List.getElem?_cons_succ]; rfl) (fun K hK => ?_) (AllReadyH.cons (by simp only [List.getElem?_toArray, List.getElem?_cons_zero, List.getElem?_cons_succ]; rfl) (fun K hK => ?_) AllReadyH.nil)
          · skip
            rw [if_pos (by rfl)]
            have ce4 := C4.out
            go_simp
            refine hK.out _ _ trivial (fun hHeld => ?_)
            clear hK K
            try simp only [Act.put, List.setIfInBounds_toArray, List.set_cons_zero, List.set_cons_succ]
            clear ce4
            refine wpAnyH_ready (rs := [12]) (by kernel_rfl) (by simp) ?_
            refine AllReadyH.cons (by simp only [List.getElem?_toArray, List.getElem?_cons_zero, List.getElem?_cons_succ]; rfl) (fun K hK => ?_) AllReadyH.nil
            rw [if_pos (by rfl)]
            refine wp_slice1 23 53 (.tmp 127) rfl cs rfl i0 (.agg zF.toArray) Tryz.underlying23 HI.out.1 HI.out.2.1 L7.out L5.out L6.out ?_
            obtain ⟨wa, hwa⟩ : ∃ w9, w9 = w3.drew.alloc (.cells cs.toArray 53) := ⟨_, rfl⟩
            have KA : Hid (Keeps (fun _ => False) w3 wa) := Lib.hid (by rw [hwa]; exact (Keeps.drew (fun _ => False) w3).trans (Keeps.alloc _ _ _) fun _ _ h => h)
            have BA : Hid (Below W.heap.size W wa) := Lib.hid (by rw [hwa]; exact HF.out.below.drew.alloc HF.out.below.size _)
            have RX : Hid (wa.ownsRow W.heap.size 53 36 (.slice (some ⟨g, 0, none⟩) m c3) m (flatS (fun i => cellsF (I i)) m)) := Lib.hid (KA.out.row HF.out.r1 fun _ _ h => h)
            have CA : Hid (∀ j u, cs[j]? = some u → wa.cell? ((⟨w3.heap.size, 0, none⟩ : Addr).add j) = some u) := Lib.hid fun j u hu => by
              rw [Go.WideShapes.add_plain, Nat.zero_add, hwa]
              exact block_cell (heap_new w3.drew _) j u (by simpa using hu)
            have PA : Hid (wa.heap[p]? = some (.cells (opL kd x y s (some ⟨g, 0, none⟩) m c3 A4 m c4).toArray 26 (0, 0))) := Lib.hid (KA.out.heap HF.out.at_ fun h => h)
            rw [← hwa]
            clear hwa
            refine hK.out _ _ trivial (fun hHeld => ?_)
            clear hK K
            try simp only [Act.put, List.setIfInBounds_toArray, List.set_cons_zero, List.set_cons_succ]
            refine wpAnyH_ready (rs := [13]) (by kernel_rfl) (by simp) ?_
            refine AllReadyH.cons (by simp only [List.getElem?_toArray, List.getElem?_cons_zero, List.getElem?_cons_succ]; rfl) (fun K hK => ?_) AllReadyH.nil
            rw [if_pos (by rfl)]
            refine wp_append_own wa (.tmp 117) (.tmp 128) 23 rfl W.heap.size 53 i0 (.agg zF.toArray) 36 64 Tryz.underlying23 HI.out.1 HI.out.2.1 HI.out.2.2.1 HI.out.2.2.2 rfl (by decide) (.slice (some ⟨g, 0, none⟩) m c3) m (flatS (fun i => cellsF (I i)) m) rfl RX.out ⟨w3.heap.size, 0, none⟩ 1 1 cs rfl L4.out CA.out HON.out (by unfold maxLen; omega) (by omega) BA.out.size (fun v8 wb hown hgr _ => ?_)
            rw [HFL.out] at hown
            have PB := Lib.hid ((hgr.block p (heap_lt PA.out) (fun e => row_ne_cells RX.out PA.out (by decide) e.symm)).trans PA.out)
            obtain ⟨A5, c5, rfl⟩ := row_shapeS hown
            have KB : Hid (Keeps (fun x => (Value.slice (some ⟨g, 0, none⟩) m c3).ownBlock = some x) w3 wb) := Lib.hid ((KA.out.mono fun _ _ h => h.elim).trans (Keeps.grown hgr fun _ e => e) fun _ _ h => h)
            have RO := Lib.hid (KB.out.row HF.out.r2 fun x h1 h2 => own_ne HF.out.r2 HF.out.r1 (by decide) h1 h2)
            have QB := Lib.hid (KB.out.heap HF.out.res (fun e => row_ne_cells HF.out.r1 HF.out.res (by decide) e))
            have RN := Lib.hid hown
            clear hown hgr
            refine hK.out _ _ trivial (fun hHeld => ?_)
            clear hK K
            try simp only [Act.put, List.setIfInBounds_toArray, List.set_cons_zero, List.set_cons_succ]
            refine wpAnyH_take (i := 14) (v := ?_) (by simp only [List.getElem?_toArray, List.getElem?_cons_zero, List.getElem?_cons_succ]; rfl) (by kernel_rfl) (by kernel_rfl) (by kernel_rfl) (by intro _ _ _ h; exact h) (Or.inl ⟨by rfl, ?_⟩) hHeld ?_
            rotate_left
            · (intro w hSw; (try dsimp only at hSw); go_simp; try with_reducible rfl)
            try simp only [Act.put, List.setIfInBounds_toArray, List.set_cons_zero, List.set_cons_succ]
            refine wpAnyH_ready (rs := [15]) (by kernel_rfl) (by simp) ?_
            refine AllReadyH.cons (by simp only [List.getElem?_toArray, List.getElem?_cons_zero, List.getElem?_cons_succ]; rfl) (fun K hK => ?_) AllReadyH.nil
            rw [if_pos (by rfl)]
            have d4 := block_cell PB.out 4 _ rfl
            have f4 := frozen_of_row wb p 4 _ _ PB.out
            go_simp
            refine hK.out _ _ trivial (fun hHeld => ?_)
            clear hK K
            try simp only [Act.put, List.setIfInBounds_toArray, List.set_cons_zero, List.set_cons_succ]
            refine wpAnyH_done (by kernel_rfl) ?_ _
            clear hHeld
            obtain ⟨w5, hwn⟩ : ∃ w9, w9 = wb.setCell ⟨p, 4, none⟩ (.slice A5 (m + 1) c5) := ⟨_, rfl⟩
            rw [← hwn]
            have KC : Hid (Keeps (fun x => x = p) wb w5) := Lib.hid (by rw [hwn]; exact Keeps.setCell (fun x => x = p) wb ⟨p, 4, none⟩ _ rfl)
            have HF : Hid (Half W w5 p q ⟨kd, x, y, s, [], []⟩ A5 (m + 1) c5 (pushAt I m (I j)) A4 m c4 P) := Lib.hid ⟨by
                have h := set_blk (o := 4) (v := .slice A5 (m + 1) c5) PB.out
                rw [← hwn] at h
                exact h, KC.out.heap QB.out (by have := HPQ.out; omega), KC.out.row RN.out fun x h1 h2 => row_ne_cells RN.out PB.out (by decide) (h2 ▸ h1), KC.out.row RO.out fun x h1 h2 => row_ne_cells RO.out PB.out (by decide) (h2 ▸ h1), (HF.out.below.trans (KB.out.below (fun x hx => (HF.out.r1.lt x hx).1) HF.out.below.size)).trans (KC.out.below (fun x e => by have e : x = p := e; have := HQ.out; omega) (Nat.le_trans HF.out.below.size KB.out.size))⟩
            clear hwn KC d4 f4 KA BA RX CA PA PB KB RO QB RN C4 RG HSZ L4 L5 L6 L7 HI HL HON HFL hrem hwj hmz hji hj0
            have RA : Hid (w5.rangeAt p 0 (opL kd x y s A5 (m + 1) c5 A4 m c4)) := Lib.hid (range_of HF.out.at_)
            have OO := Lib.hid (opL_one kd x y s A5 (m + 1) c5 A4 m c4)
            have SPL : Hid (splice zOp 0 (opL kd x y s A5 (m + 1) c5 A4 m c4) = (opL kd x y s A5 (m + 1) c5 A4 m c4)) := Lib.hid (splice_whole _ _ rfl)
            go_wp2_with (first | (refine wpList_load_midG rfl 26 (.tmp 3) rfl p 0 rfl (opL kd x y s A5 (m + 1) c5 A4 m c4) _ RA.out Tryz.underlying26 rfl sizeOp ?_) | (refine wpList_store_segK rfl 26 (.tmp 6) (.tmp 131) rfl q 0 rfl (opL kd x y s A5 (m + 1) c5 A4 m c4) rfl zOp 26 HF.out.res sizeOp (Nat.le_refl _) OO.out rfl ?_; intro w9 h9 k9 s9))
            rw [SPL.out] at h9
            have hz : w9.rangeAt q 0 (opL kd x y s A5 (m + 1) c5 A4 m c4) := fun j v hj => block_cell h9 _ v (by rw [Nat.zero_add]; simpa using hj)
            refine bodyPost_ret (results_cell_one rfl _ _ q _ _ rfl hz Tryz.underlying26 rfl sizeOp) rfl ?_
            exact ⟨kd, x, y, s, A5, (m + 1), c5, (pushAt I m (I j)), A4, m, c4, P, rfl, HKD.out, by omega, by omega, ⟨k9.row HF.out.r1 (fun k h1 e => row_ne_cells HF.out.r1 HF.out.res (by decide) (e ▸ h1)), k9.row HF.out.r2 (fun k h1 e => row_ne_cells HF.out.r2 HF.out.res (by decide) (e ▸ h1)), HF.out.below.trans (k9.below (fun k e => by have e : k = q := e; have := HQ.out; have := HPQ.out; omega) HF.out.below.size)⟩⟩
          · skip
            rw [if_pos (by rfl)]
            refine wp_slice1 23 53 (.tmp 127) rfl cs rfl i0 (.agg zF.toArray) Tryz.underlying23 HI.out.1 HI.out.2.1 L7.out L5.out L6.out ?_
            obtain ⟨wa, hwa⟩ : ∃ w9, w9 = w3.drew.alloc (.cells cs.toArray 53) := ⟨_, rfl⟩
            have KA : Hid (Keeps (fun _ => False) w3 wa) := Lib.hid (by rw [hwa]; exact (Keeps.drew (fun _ => False) w3).trans (Keeps.alloc _ _ _) fun _ _ h => h)
            have BA : Hid (Below W.heap.size W wa) := Lib.hid (by rw [hwa]; exact HF.out.below.drew.alloc HF.out.below.size _)
            have RX : Hid (wa.ownsRow W.heap.size 53 36 (.slice (some ⟨g, 0, none⟩) m c3) m (flatS (fun i => cellsF (I i)) m)) := Lib.hid (KA.out.row HF.out.r1 fun _ _ h => h)
            have CA : Hid (∀ j u, cs[j]? = some u → wa.cell? ((⟨w3.heap.size, 0, none⟩ : Addr).add j) = some u) := Lib.hid fun j u hu => by
              rw [Go.WideShapes.add_plain, Nat.zero_add, hwa]
              exact block_cell (heap_new w3.drew _) j u (by simpa using hu)
            have PA : Hid (wa.heap[p]? = some (.cells (opL kd x y s (some ⟨g, 0, none⟩) m c3 A4 m c4).toArray 26 (0, 0))) := Lib.hid (KA.out.heap HF.out.at_ fun h => h)
            rw [← hwa]
            clear hwa
            refine hK.out _ _ trivial (fun hHeld => ?_)
            clear hK K
            try simp only [Act.put, List.setIfInBounds_toArray, List.set_cons_zero, List.set_cons_succ]
            refine wpAnyH_ready (rs := [1]) (by kernel_rfl) (by simp) ?_
            refine AllReadyH.cons (by simp only [List.getElem?_toArray, List.getElem?_cons_zero, List.getElem?_cons_succ]; rfl) (fun K hK => ?_) AllReadyH.nil
            rw [if_pos (by rfl)]
            have ce4 := block_cell PA.out 4 _ rfl
            go_simp
            refine hK.out _ _ trivial (fun hHeld => ?_)
            clear hK K
            try simp only [Act.put, List.setIfInBounds_toArray, List.set_cons_zero, List.set_cons_succ]
            clear ce4
            refine wpAnyH_ready (rs := [13]) (by kernel_rfl) (by simp) ?_
            refine AllReadyH.cons (by simp only [List.getElem?_toArray, List.getElem?_cons_zero, List.getElem?_cons_succ]; rfl) (fun K hK => ?_) AllReadyH.nil
            rw [if_pos (by rfl)]
            refine wp_append_own wa (.tmp 117) (.tmp 128) 23 rfl W.heap.size 53 i0 (.agg zF.toArray) 36 64 Tryz.underlying23 HI.out.1 HI.out.2.1 HI.out.2.2.1 HI.out.2.2.2 rfl (by decide) (.slice (some ⟨g, 0, none⟩) m c3) m (flatS (fun i => cellsF (I i)) m) rfl RX.out ⟨w3.heap.size, 0, none⟩ 1 1 cs rfl L4.out CA.out HON.out (by unfold maxLen; omega) (by omega) BA.out.size (fun v8 wb hown hgr _ => ?_)
            rw [HFL.out] at hown
            have PB := Lib.hid ((hgr.block p (heap_lt PA.out) (fun e => row_ne_cells RX.out PA.out (by decide) e.symm)).trans PA.out)
            obtain ⟨A5, c5, rfl⟩ := row_shapeS hown
            have KB : Hid (Keeps (fun x => (Value.slice (some ⟨g, 0, none⟩) m c3).ownBlock = some x) w3 wb) := Lib.hid ((KA.out.mono fun _ _ h => h.elim).trans (Keeps.grown hgr fun _ e => e) fun _ _ h => h)
            have RO := Lib.hid (KB.out.row HF.out.r2 fun x h1 h2 => own_ne HF.out.r2 HF.out.r1 (by decide) h1 h2)
            have QB := Lib.hid (KB.out.heap HF.out.res (fun e => row_ne_cells HF.out.r1 HF.out.res (by decide) e))
            have RN := Lib.hid hown
            clear hown hgr
            refine hK.out _ _ trivial (fun hHeld => ?_)
            clear hK K
            try simp only [Act.put, List.setIfInBounds_toArray, List.set_cons_zero, List.set_cons_succ]
            refine wpAnyH_take (i := 14) (v := ?_) (by simp only [List.getElem?_toArray, List.getElem?_cons_zero, List.getElem?_cons_succ]; rfl) (by kernel_rfl) (by kernel_rfl) (by kernel_rfl) (by intro _ _ _ h; exact h) (Or.inl ⟨by rfl, ?_⟩) hHeld ?_
            rotate_left
            · (intro w hSw; (try dsimp only at hSw); go_simp; try with_reducible rfl)
            try simp only [Act.put, List.setIfInBounds_toArray, List.set_cons_zero, List.set_cons_succ]
            refine wpAnyH_ready (rs := [15]) (by kernel_rfl) (by simp) ?_
            refine AllReadyH.cons (by simp only [List.getElem?_toArray, List.getElem?_cons_zero, List.getElem?_cons_succ]; rfl) (fun K hK => ?_) AllReadyH.nil
            rw [if_pos (by rfl)]
            have d4 := block_cell PB.out 4 _ rfl
            have f4 := frozen_of_row wb p 4 _ _ PB.out
            go_simp
            refine hK.out _ _ trivial (fun hHeld => ?_)
            clear hK K
            try simp only [Act.put, List.setIfInBounds_toArray, List.set_cons_zero, List.set_cons_succ]
            refine wpAnyH_done (by kernel_rfl) ?_ _
            clear hHeld
            obtain ⟨w5, hwn⟩ : ∃ w9, w9 = wb.setCell ⟨p, 4, none⟩ (.slice A5 (m + 1) c5) := ⟨_, rfl⟩
            rw [← hwn]
            have KC : Hid (Keeps (fun x => x = p) wb w5) := Lib.hid (by rw [hwn]; exact Keeps.setCell (fun x => x = p) wb ⟨p, 4, none⟩ _ rfl)
            have HF : Hid (Half W w5 p q ⟨kd, x, y, s, [], []⟩ A5 (m + 1) c5 (pushAt I m (I j)) A4 m c4 P) := Lib.hid ⟨by
                have h := set_blk (o := 4) (v := .slice A5 (m + 1) c5) PB.out
                rw [← hwn] at h
                exact h, KC.out.heap QB.out (by have := HPQ.out; omega), KC.out.row RN.out fun x h1 h2 => row_ne_cells RN.out PB.out (by decide) (h2 ▸ h1), KC.out.row RO.out fun x h1 h2 => row_ne_cells RO.out PB.out (by decide) (h2 ▸ h1), (HF.out.below.trans (KB.out.below (fun x hx => (HF.out.r1.lt x hx).1) HF.out.below.size)).trans (KC.out.below (fun x e => by have e : x = p := e; have := HQ.out; omega) (Nat.le_trans HF.out.below.size KB.out.size))⟩
            clear hwn KC d4 f4 KA BA RX CA PA PB KB RO QB RN C4 RG HSZ L4 L5 L6 L7 HI HL HON HFL hrem hwj hmz hji hj0
            have RA : Hid (w5.rangeAt p 0 (opL kd x y s A5 (m + 1) c5 A4 m c4)) := Lib.hid (range_of HF.out.at_)
            have OO := Lib.hid (opL_one kd x y s A5 (m + 1) c5 A4 m c4)
            have SPL : Hid (splice zOp 0 (opL kd x y s A5 (m + 1) c5 A4 m c4) = (opL kd x y s A5 (m + 1) c5 A4 m c4)) := Lib.hid (splice_whole _ _ rfl)
            go_wp2_with (first | (refine wpList_load_midG rfl 26 (.tmp 3) rfl p 0 rfl (opL kd x y s A5 (m + 1) c5 A4 m c4) _ RA.out Tryz.underlying26 rfl sizeOp ?_) | (refine wpList_store_segK rfl 26 (.tmp 6) (.tmp 131) rfl q 0 rfl (opL kd x y s A5 (m + 1) c5 A4 m c4) rfl zOp 26 HF.out.res sizeOp (Nat.le_refl _) OO.out rfl ?_; intro w9 h9 k9 s9))
            rw [SPL.out] at h9
            have hz : w9.rangeAt q 0 (opL kd x y s A5 (m + 1) c5 A4 m c4) := fun j v hj => block_cell h9 _ v (by rw [Nat.zero_add]; simpa using hj)
            refine bodyPost_ret (results_cell_one rfl _ _ q _ _ rfl hz Tryz.underlying26 rfl sizeOp) rfl ?_
            exact ⟨kd, x, y, s, A5, (m + 1), c5, (pushAt I m (I j)), A4, m, c4, P, rfl, HKD.out, by omega, by omega, ⟨k9.row HF.out.r1 (fun k h1 e => row_ne_cells HF.out.r1 HF.out.res (by decide) (e ▸ h1)), k9.row HF.out.r2 (fun k h1 e => row_ne_cells HF.out.r2 HF.out.res (by decide) (e ▸ h1)), HF.out.below.trans (k9.below (fun k e => by have e : k = q := e; have := HQ.out; have := HPQ.out; omega) HF.out.below.size)⟩⟩
    · skip
      rw [if_pos (by rfl)]
      have ce4 := C4.out
      go_simp
      refine hK.out _ _ trivial (fun hHeld => ?_)
      clear hK K
      try simp only [Act.put, List.setIfInBounds_toArray, List.set_cons_zero, List.set_cons_succ]
      clear ce4
      refine wpAnyH_take (i := 8) (v := ?_) (by simp only [List.getElem?_toArray, List.getElem?_cons_zero, List.getElem?_cons_succ]; rfl) (by kernel_rfl) (by kernel_rfl) (by kernel_rfl) (by intro _ _ _ h; exact h) (Or.inl ⟨by rfl, ?_⟩) hHeld ?_
      rotate_left
      · (intro w hSw; (try dsimp only at hSw); go_simp; try with_reducible rfl)
      try simp only [Act.put, List.setIfInBounds_toArray, List.set_cons_zero, List.set_cons_succ]
      refine wpAnyH_take (i := 9) (v := ?_) (by simp only [List.getElem?_toArray, List.getElem?_cons_zero, List.getElem?_cons_succ]; rfl) (by kernel_rfl) (by kernel_rfl) (by kernel_rfl) (by intro _ _ _ h; exact h) (Or.inl ⟨by rfl, ?_⟩) hHeld ?_
      rotate_left
      · (intro w hSw; (try dsimp only at hSw); go_simp; try with_reducible rfl)
      try simp only [Act.put, List.setIfInBounds_toArray, List.set_cons_zero, List.set_cons_succ]
      refine wpAnyH_ready (rs := [1, 3]) (by kernel_rfl) (by simp) ?_
      refine AllReadyH.cons (by simp only [List.getElem?_toArray, List.getElem?_cons_zero, List.getElem?_cons_succ]; rfl) (fun K hK => ?_) (AllReadyH.cons (by simp only [List.getElem?_toArray, List.getElem?_cons_zero, List.getElem?_cons_succ]; rfl) (fun K hK => ?_) AllReadyH.nil)
      · skip
        rw [if_pos (by rfl)]
        have ce4 := C4.out
        go_simp
        refine hK.out _ _ trivial (fun hHeld => ?_)
        clear hK K
        try simp only [Act.put, List.setIfInBounds_toArray, List.set_cons_zero, List.set_cons_succ]
        clear ce4
        refine wpAnyH_ready (rs := [3]) (by kernel_rfl) (by simp) ?_
        refine AllReadyH.cons (by simp only [List.getElem?_toArray, List.getElem?_cons_zero, List.getElem?_cons_succ]; rfl) (fun K hK => ?_) AllReadyH.nil
        rw [if_pos (by rfl)]
        have ce4 := C4.out
        go_simp
        refine hK.out _ _ trivial (fun hHeld => ?_)
        clear hK K
        try simp only [Act.put, List.setIfInBounds_toArray, List.set_cons_zero, List.set_cons_succ]
        clear ce4
        refine wpAnyH_take (i := 10) (v := ?_) (by simp only [List.getElem?_toArray, List.getElem?_cons_zero, List.getElem?_cons_succ]; rfl) (by kernel_rfl) (by kernel_rfl) (by kernel_rfl) (by intro _ _ _ h; exact h) (Or.inl ⟨by rfl, ?_⟩) hHeld ?_
        rotate_left
        · (intro w hSw; (try dsimp only at hSw); go_simp; try with_reducible rfl)
        try simp only [Act.put, List.setIfInBounds_toArray, List.set_cons_zero, List.set_cons_succ]
        refine wpAnyH_ready (rs := [11]) (by kernel_rfl) (by simp) ?_
        refine AllReadyH.cons (by simp only [List.getElem?_toArray, List.getElem?_cons_zero, List.getElem?_cons_succ]; rfl) (fun K hK => ?_) AllReadyH.nil
        rw [if_pos (by rfl)]
        refine wp_load_mid 53 (.tmp 126) rfl g (j * 36) rfl cs _ RG.out Tryz.underlying53 rfl HSZ.out ?_
        refine hK.out _ _ trivial (fun hHeld => ?_)
        clear hK K
        try simp only [Act.put, List.setIfInBounds_toArray, List.set_cons_zero, List.set_cons_succ]
        refine wpAnyH_ready (rs := [12]) (by kernel_rfl) (by simp) ?_
        refine AllReadyH.cons (by simp only [List.getElem?_toArray, List.getElem?_cons_zero, List.getElem?_cons_succ]; rfl) (fun K hK => ?_) AllReadyH.nil
        rw [if_pos (by rfl)]
        refine wp_slice1 23 53 (.tmp 127) rfl cs rfl i0 (.agg zF.toArray) Tryz.underlying23 HI.out.1 HI.out.2.1 L7.out L5.out L6.out ?_
        obtain ⟨wa, hwa⟩ : ∃ w9, w9 = w3.drew.alloc (.cells cs.toArray 53) := ⟨_, rfl⟩
        have KA : Hid (Keeps (fun _ => False) w3 wa) := Lib.hid (by rw [hwa]; exact (Keeps.drew (fun _ => False) w3).trans (Keeps.alloc _ _ _) fun _ _ h => h)
        have BA : Hid (Below W.heap.size W wa) := Lib.hid (by rw [hwa]; exact HF.out.below.drew.alloc HF.out.below.size _)
        have RX : Hid (wa.ownsRow W.heap.size 53 36 (.slice (some ⟨g, 0, none⟩) m c3) m (flatS (fun i => cellsF (I i)) m)) := Lib.hid (KA.out.row HF.out.r1 fun _ _ h => h)
        have CA : Hid (∀ j u, cs[j]? = some u → wa.cell? ((⟨w3.heap.size, 0, none⟩ : Addr).add j) = some u) := Lib.hid fun j u hu => by
          rw [Go.WideShapes.add_plain, Nat.zero_add, hwa]
          exact block_cell (heap_new w3.drew _) j u (by simpa using hu)
        have PA : Hid (wa.heap[p]? = some (.cells (opL kd x y s (some ⟨g, 0, none⟩) m c3 A4 m c4).toArray 26 (0, 0))) := Lib.hid (KA.out.heap HF.out.at_ fun h => h)
        rw [← hwa]
        clear hwa
        refine hK.out _ _ trivial (fun hHeld => ?_)
        clear hK K
        try simp only [Act.put, List.setIfInBounds_toArray, List.set_cons_zero, List.set_cons_succ]
        refine wpAnyH_ready (rs := [13]) (by kernel_rfl) (by simp) ?_
        refine AllReadyH.cons (by simp only [List.getElem?_toArray, List.getElem?_cons_zero, List.getElem?_cons_succ]; rfl) (fun K hK => ?_) AllReadyH.nil
        rw [if_pos (by rfl)]
        refine wp_append_own wa (.tmp 117) (.tmp 128) 23 rfl W.heap.size 53 i0 (.agg zF.toArray) 36 64 Tryz.underlying23 HI.out.1 HI.out.2.1 HI.out.2.2.1 HI.out.2.2.2 rfl (by decide) (.slice (some ⟨g, 0, none⟩) m c3) m (flatS (fun i => cellsF (I i)) m) rfl RX.out ⟨w3.heap.size, 0, none⟩ 1 1 cs rfl L4.out CA.out HON.out (by unfold maxLen; omega) (by omega) BA.out.size (fun v8 wb hown hgr _ => ?_)
        rw [HFL.out] at hown
        have PB := Lib.hid ((hgr.block p (heap_lt PA.out) (fun e => row_ne_cells RX.out PA.out (by decide) e.symm)).trans PA.out)
        obtain ⟨A5, c5, rfl⟩ := row_shapeS hown
        have KB : Hid (Keeps (fun x => (Value.slice (some ⟨g, 0, none⟩) m c3).ownBlock = some x) w3 wb) := Lib.hid ((KA.out.mono fun _ _ h => h.elim).trans (Keeps.grown hgr fun _ e => e) fun _ _ h => h)
        have RO := Lib.hid (KB.out.row HF.out.r2 fun x h1 h2 => own_ne HF.out.r2 HF.out.r1 (by decide) h1 h2)
        have QB := Lib.hid (KB.out.heap HF.out.res (fun e => row_ne_cells HF.out.r1 HF.out.res (by decide) e))
        have RN := Lib.hid hown
        clear hown hgr
        refine hK.out _ _ trivial (fun hHeld => ?_)
        clear hK K
        try simp only [Act.put, List.setIfInBounds_toArray, List.set_cons_zero, List.set_cons_succ]
        refine wpAnyH_take (i := 14) (v := ?_) (by simp only [List.getElem?_toArray, List.getElem?_cons_zero, List.getElem?_cons_succ]; rfl) (by kernel_rfl) (by kernel_rfl) (by kernel_rfl) (by intro _ _ _ h; exact h) (Or.inl ⟨by rfl, ?_⟩) hHeld ?_
        rotate_left
        · (intro w hSw; (try dsimp only at hSw); go_simp; try with_reducible rfl)
        try simp only [Act.put, List.setIfInBounds_toArray, List.set_cons_zero, List.set_cons_succ]
        refine wpAnyH_ready (rs := [15]) (by kernel_rfl) (by simp) ?_
        refine AllReadyH.cons (by simp only [List.getElem?_toArray, List.getElem?_cons_zero, List.getElem?_cons_succ]; rfl) (fun K hK => ?_) AllReadyH.nil
        rw [if_pos (by rfl)]
        have d4 := block_cell PB.out 4 _ rfl
        have f4 := frozen_of_row wb p 4 _ _ PB.out
        go_simp
        refine hK.out _ _ trivial (fun hHeld => ?_)
        clear hK K
        try simp only [Act.put, List.setIfInBounds_toArray, List.set_cons_zero, List.set_cons_succ]
        refine wpAnyH_done (by kernel_rfl) ?_ _
        clear hHeld
        obtain ⟨w5, hwn⟩ : ∃ w9, w9 = wb.setCell ⟨p, 4, none⟩ (.slice A5 (m + 1) c5) := ⟨_, rfl⟩
        rw [← hwn]
        have KC : Hid (Keeps (fun x => x = p) wb w5) := Lib.hid (by rw [hwn]; exact Keeps.setCell (fun x => x = p) wb ⟨p, 4, none⟩ _ rfl)
        have HF : Hid (Half W w5 p q ⟨kd, x, y, s, [], []⟩ A5 (m + 1) c5 (pushAt I m (I j)) A4 m c4 P) := Lib.hid ⟨by
            have h := set_blk (o := 4) (v := .slice A5 (m + 1) c5) PB.out
            rw [← hwn] at h
            exact h, KC.out.heap QB.out (by have := HPQ.out; omega), KC.out.row RN.out fun x h1 h2 => row_ne_cells RN.out PB.out (by decide) (h2 ▸ h1), KC.out.row RO.out fun x h1 h2 => row_ne_cells RO.out PB.out (by decide) (h2 ▸ h1), (HF.out.below.trans (KB.out.below (fun x hx => (HF.out.r1.lt x hx).1) HF.out.below.size)).trans (KC.out.below (fun x e => by have e : x = p := e; have := HQ.out; omega) (Nat.le_trans HF.out.below.size KB.out.size))⟩
        clear hwn KC d4 f4 KA BA RX CA PA PB KB RO QB RN C4 RG HSZ L4 L5 L6 L7 HI HL HON HFL hrem hwj hmz hji hj0
        have RA : Hid (w5.rangeAt p 0 (opL kd x y s A5 (m + 1) c5 A4 m c4)) := Lib.hid (range_of HF.out.at_)
        have OO := Lib.hid (opL_one kd x y s A5 (m + 1) c5 A4 m c4)
        have SPL : Hid (splice zOp 0 (opL kd x y s A5 (m + 1) c5 A4 m c4) = (opL kd x y s A5 (m + 1) c5 A4 m c4)) := Lib.hid (splice_whole _ _ rfl)
        go_wp2_with (first | (refine wpList_load_midG rfl 26 (.tmp 3) rfl p 0 rfl (opL kd x y s A5 (m + 1) c5 A4 m c4) _ RA.out Tryz.underlying26 rfl sizeOp ?_) | (refine wpList_store_segK rfl 26 (.tmp 6) (.tmp 131) rfl q 0 rfl (opL kd x y s A5 (m + 1) c5 A4 m c4) rfl zOp 26 HF.out.res sizeOp (Nat.le_refl _) OO.out rfl ?_; intro w9 h9 k9 s9))
        rw [SPL.out] at h9
        have hz : w9.rangeAt q 0 (opL kd x y s A5 (m + 1) c5 A4 m c4) := fun j v hj => block_cell h9 _ v (by rw [Nat.zero_add]; simpa using hj)
        refine bodyPost_ret (results_cell_one rfl _ _ q _ _ rfl hz Tryz.underlying26 rfl sizeOp) rfl ?_
        exact ⟨kd, x, y, s, A5, (m + 1), c5, (pushAt I m (I j)), A4, m, c4, P, rfl, HKD.out, by omega, by omega, ⟨k9.row HF.out.r1 (fun k h1 e => row_ne_cells HF.out.r1 HF.out.res (by decide) (e ▸ h1)), k9.row HF.out.r2 (fun k h1 e => row_ne_cells HF.out.r2 HF.out.res (by decide) (e ▸ h1)), HF.out.below.trans (k9.below (fun k e => by have e : k = q := e; have := HQ.out; have := HPQ.out; omega) HF.out.below.size)⟩⟩
      · skip
        rw [if_pos (by rfl)]
        have ce4 := C4.out
        go_simp
        refine hK.out _ _ trivial (fun hHeld => ?_)
        clear hK K
        try simp only [Act.put, List.setIfInBounds_toArray, List.set_cons_zero, List.set_cons_succ]
        clear ce4
        refine wpAnyH_take (i := 10) (v := ?_) (by simp only [List.getElem?_toArray, List.getElem?_cons_zero, List.getElem?_cons_succ]; rfl) (by kernel_rfl) (by kernel_rfl) (by kernel_rfl) (by intro _ _ _ h; exact h) (Or.inl ⟨by rfl, ?_⟩) hHeld ?_
        rotate_left
        · (intro w hSw; (try dsimp only at hSw); go_simp; try with_reducible rfl)
        try simp only [Act.put, List.setIfInBounds_toArray, List.set_cons_zero, List.set_cons_succ]
        refine wpAnyH_ready (rs := [1, 11]) (by kernel_rfl) (by simp) ?_
        refine AllReadyH.cons (by simp only [List.getElem?_toArray, List.getElem?_cons_zero, List.getElem?_cons_succ]; rfl) (fun K hK => ?_) (AllReadyH.cons (by simp only [List.getElem?_toArray, List.getElem?_cons_zero, List.getElem?_cons_succ]; rfl) (fun K hK => ?_) AllReadyH.nil)
        · skip
          rw [if_pos (by rfl)]
          have ce4 := C4.out
          go_simp
          refine hK.out _ _ trivial (fun hHeld => ?_)
          clear hK K
          try simp only [Act.put, List.setIfInBounds_toArray, List.set_cons_zero, List.set_cons_succ]
          clear ce4
          refine wpAnyH_ready (rs := [11]) (by kernel_rfl) (by simp) ?_
          refine AllReadyH.cons (by simp only [List.getElem?_toArray, List.getElem?_cons_zero, List.getElem?_cons_succ]; rfl) (fun K hK => ?_) AllReadyH.nil
          rw [if_pos (by rfl)]
          refine wp_load_mid 53 (.tmp 126) rfl g (j * 36) rfl cs _ RG.out Tryz.underlying53 rfl HSZ.out ?_
          refine hK.out _ _ trivial (fun hHeld => ?_)
          clear hK K
          try simp only [Act.put, List.setIfInBounds_toArray, List.set_cons_zero, List.set_cons_succ]
          refine wpAnyH_ready (rs := [12]) (by kernel_rfl) (by simp) ?_
          refine AllReadyH.cons (by simp only [List.getElem?_toArray, List.getElem?_cons_zero, List.getElem?_cons_succ]; rfl) (fun K hK => ?_) AllReadyH.nil
          rw [if_pos (by rfl)]
          refine wp_slice1 23 53 (.tmp 127) rfl cs rfl i0 (.agg zF.toArray) Tryz.underlying23 HI.out.1 HI.out.2.1 L7.out L5.out L6.out ?_
          obtain ⟨wa, hwa⟩ : ∃ w9, w9 = w3.drew.alloc (.cells cs.toArray 53) := ⟨_, rfl⟩
          have KA : Hid (Keeps (fun _ => False) w3 wa) := Lib.hid (by rw [hwa]; exact (Keeps.drew (fun _ => False) w3).trans (Keeps.alloc _ _ _) fun _ _ h => h)
          have BA : Hid (Below W.heap.size W wa) := Lib.hid (by rw [hwa]; exact HF.out.below.drew.alloc HF.out.below.size _)
          have RX : Hid (wa.ownsRow W.heap.size 53 36 (.slice (some ⟨g, 0, none⟩) m c3) m (flatS (fun i => cellsF (I i)) m)) := Lib.hid (KA.out.row HF.out.r1 fun _ _ h => h)
          have CA : Hid (∀ j u, cs[j]? = some u → wa.cell? ((⟨w3.heap.size, 0, none⟩ : Addr).add j) = some u) := Lib.hid fun j u hu => by
            rw [Go.WideShapes.add_plain, Nat.zero_add, hwa]
            exact block_cell (heap_new w3.drew _) j u (by simpa using hu)
          have PA : Hid (wa.heap[p]? = some (.cells (opL kd x y s (some ⟨g, 0, none⟩) m c3 A4 m c4).toArray 26 (0, 0))) := Lib.hid (KA.out.heap HF.out.at_ fun h => h)
          rw [← hwa]
          clear hwa
          refine hK.out _ _ trivial (fun hHeld => ?_)
          clear hK K
          try simp only [Act.put, List.setIfInBounds_toArray, List.set_cons_zero, List.set_cons_succ]
          refine wpAnyH_ready (rs := [13]) (by kernel_rfl) (by simp) ?_
          refine AllReadyH.cons (by simp only [List.getElem?_toArray, List.getElem?_cons_zero, List.getElem?_cons_succ]; rfl) (fun K hK => ?_) AllReadyH.nil
          rw [if_pos (by rfl)]
          refine wp_append_own wa (.tmp 117) (.tmp 128) 23 rfl W.heap.size 53 i0 (.agg zF.toArray) 36 64 Tryz.underlying23 HI.out.1 HI.out.2.1 HI.out.2.2.1 HI.out.2.2.2 rfl (by decide) (.slice (some ⟨g, 0, none⟩) m c3) m (flatS (fun i => cellsF (I i)) m) rfl RX.out ⟨w3.heap.size, 0, none⟩ 1 1 cs rfl L4.out CA.out HON.out (by unfold maxLen; omega) (by omega) BA.out.size (fun v8 wb hown hgr _ => ?_)
          rw [HFL.out] at hown
          have PB := Lib.hid ((hgr.block p (heap_lt PA.out) (fun e => row_ne_cells RX.out PA.out (by decide) e.symm)).trans PA.out)
          obtain ⟨A5, c5, rfl⟩ := row_shapeS hown
          have KB : Hid (Keeps (fun x => (Value.slice (some ⟨g, 0, none⟩) m c3).ownBlock = some x) w3 wb) := Lib.hid ((KA.out.mono fun _ _ h => h.elim).trans (Keeps.grown hgr fun _ e => e) fun _ _ h => h)
          have RO := Lib.hid (KB.out.row HF.out.r2 fun x h1 h2 => own_ne HF.out.r2 HF.out.r1 (by decide) h1 h2)
          have QB := Lib.hid (KB.out.heap HF.out.res (fun e => row_ne_cells HF.out.r1 HF.out.res (by decide) e))
          have RN := Lib.hid hown
          clear hown hgr
          refine hK.out _ _ trivial (fun hHeld => ?_)
          clear hK K
          try simp only [Act.put, List.setIfInBounds_toArray, List.set_cons_zero, List.set_cons_succ]
          refine wpAnyH_take (i := 14) (v := ?_) (by simp only [List.getElem?_toArray, List.getElem?_cons_zero, List.getElem?_cons_succ]; rfl) (by kernel_rfl) (by kernel_rfl) (by kernel_rfl) (by intro _ _ _ h; exact h) (Or.inl ⟨by rfl, ?_⟩) hHeld ?_
          rotate_left
          · (intro w hSw; (try dsimp only at hSw); go_simp; try with_reducible rfl)
          try simp only [Act.put, List.setIfInBounds_toArray, List.set_cons_zero, List.set_cons_succ]
          refine wpAnyH_ready (rs := [15]) (by kernel_rfl) (by simp) ?_
          refine AllReadyH.cons (by simp only [List.getElem?_toArray, List.getElem?_cons_zero, List.getElem?_cons_succ]; rfl) (fun K hK => ?_) AllReadyH.nil
          rw [if_pos (by rfl)]
          have d4 := block_cell PB.out 4 _ rfl
          have f4 := frozen_of_row wb p 4 _ _ PB.out
          go_simp
          refine hK.out _ _ trivial (fun hHeld => ?_)
          clear hK K
          try simp only [Act.put, List.setIfInBounds_toArray, List.set_cons_zero, List.set_cons_succ]
          refine wpAnyH_done (by kernel_rfl) ?_ _
          clear hHeld
          obtain ⟨w5, hwn⟩ : ∃ w9, w9 = wb.setCell ⟨p, 4, none⟩ (.slice A5 (m + 1) c5) := ⟨_, rfl⟩
          rw [← hwn]
          have KC : Hid (Keeps (fun x => x = p) wb w5) := Lib.hid (by rw [hwn]; exact Keeps.setCell (fun x => x = p) wb ⟨p, 4, none⟩ _ rfl)
          have HF : Hid (Half W w5 p q ⟨kd, x, y, s, [], []⟩ A5 (m + 1) c5 (pushAt I m (I j)) A4 m c4 P) := Lib.hid ⟨by
              have h := set_blk (o := 4) (v := .slice A5 (m + 1) c5) PB.out
              rw [← hwn] at h
              exact h, KC.out.heap QB.out (by have := HPQ.out; omega), KC.out.row RN.out fun x h1 h2 => row_ne_cells RN.out PB.out (by decide) (h2 ▸ h1), KC.out.row RO.out fun x h1 h2 => row_ne_cells RO.out PB.out (by decide) (h2 ▸ h1), (HF.out.below.trans (KB.out.below (fun x hx => (HF.out.r1.lt x hx).1) HF.out.below.size)).trans (KC.out.below (fun x e => by have e : x = p := e; have := HQ.out; omega) (Nat.le_trans HF.out.below.size KB.out.size))⟩
          clear hwn KC d4 f4 KA BA RX CA PA PB KB RO QB RN C4 RG HSZ L4 L5 L6 L7 HI HL HON HFL hrem hwj hmz hji hj0
          have RA : Hid (w5.rangeAt p 0 (opL kd x y s A5 (m + 1) c5 A4 m c4)) := Lib.hid (range_of HF.out.at_)
          have OO := Lib.hid (opL_one kd x y s A5 (m + 1) c5 A4 m c4)
          have SPL : Hid (splice zOp 0 (opL kd x y s A5 (m + 1) c5 A4 m c4) = (opL kd x y s A5 (m + 1) c5 A4 m c4)) := Lib.hid (splice_whole _ _ rfl)
          go_wp2_with (first | (refine wpList_load_midG rfl 26 (.tmp 3) rfl p 0 rfl (opL kd x y s A5 (m + 1) c5 A4 m c4) _ RA.out Tryz.underlying26 rfl sizeOp ?_) | (refine wpList_store_segK rfl 26 (.tmp 6) (.tmp 131) rfl q 0 rfl (opL kd x y s A5 (m + 1) c5 A4 m c4) rfl zOp 26 HF.out.res sizeOp (Nat.le_refl _) OO.out rfl ?_; intro w9 h9 k9 s9))
          rw [SPL.out] at h9
          have hz : w9.rangeAt q 0 (opL kd x y s A5 (m + 1) c5 A4 m c4) := fun j v hj => block_cell h9 _ v (by rw [Nat.zero_add]; simpa using hj)
          refine bodyPost_ret (results_cell_one rfl _ _ q _ _ rfl hz Tryz.underlying26 rfl sizeOp) rfl ?_
          exact ⟨kd, x, y, s, A5, (m + 1), c5, (pushAt I m (I j)), A4, m, c4, P, rfl, HKD.out, by omega, by omega, ⟨k9.row HF.out.r1 (fun k h1 e => row_ne_cells HF.out.r1 HF.out.res (by decide) (e ▸ h1)), k9.row HF.out.r2 (fun k h1 e => row_ne_cells HF.out.r2 HF.out.res (by decide) (e ▸ h1)), HF.out.below.trans (k9.below (fun k e => by have e : k = q := e; have := HQ.out; have := HPQ.out; omega) HF.out.below.size)⟩⟩
        · skip
          rw [if_pos (by rfl)]
          refine wp_load_mid 53 (.tmp 126) rfl g (j * 36) rfl cs _ RG.out Tryz.underlying53 rfl HSZ.out ?_
          refine hK.out _ _ trivial (fun hHeld => ?_)
          clear hK K
          try simp only [Act.put, List.setIfInBounds_toArray, List.set_cons_zero, List.set_cons_succ]
          refine wpAnyH_ready (rs := [1, 12]) (by kernel_rfl) (by simp) ?_
          refine AllReadyH.cons (by simp only [List.getElem?_toArray, List.getElem?_cons_zero, List.getElem?_cons_succ]; rfl) (fun K hK => ?_) (AllReadyH.cons (by simp only [List.getElem?_toArray, List.getElem?_cons_zero, List.getElem?_cons_succ]; rfl) (fun K hK => ?_) AllReadyH.nil)
          · skip
            rw [if_pos (by rfl)]
            have ce4 := C4.out
            go_simp
            refine hK.out _ _ trivial (fun hHeld => ?_)
            clear hK K
            try simp only [Act.put, List.setIfInBounds_toArray, List.set_cons_zero, List.set_cons_succ]
            clear ce4
            refine wpAnyH_ready (rs := [12]) (by kernel_rfl) (by simp) ?_
            refine AllReadyH.cons (by simp only [List.getElem?_toArray, List.getElem?_cons_zero, List.getElem?_cons_succ]; rfl) (fun K hK => ?_) AllReadyH.nil
            rw [if_pos (by rfl)]
            refine wp_slice1 23 53 (.tmp 127) rfl cs rfl i0 (.agg zF.toArray) Tryz.underlying23 HI.out.1 HI.out.2.1 L7.out L5.out L6.out ?_
            obtain ⟨wa, hwa⟩ : ∃ w9, w9 = w3.drew.alloc (.cells cs.toArray 53) := ⟨_, rfl⟩
            have KA : Hid (Keeps (fun _ => False) w3 wa) := Lib.hid (by rw [hwa]; exact (Keeps.drew (fun _ => False) w3).trans (Keeps.alloc _ _ _) fun _ _ h => h)
            have BA : Hid (Below W.heap.size W wa) := Lib.hid (by rw [hwa]; exact HF.out.below.drew.alloc HF.out.below.size _)
            have RX : Hid (wa.ownsRow W.heap.size 53 36 (.slice (some ⟨g, 0, none⟩) m c3) m (flatS (fun i => cellsF (I i)) m)) := Lib.hid (KA.out.row HF.out.r1 fun _ _ h => h)
            have CA : Hid (∀ j u, cs[j]? = some u → wa.cell? ((⟨w3.heap.size, 0, none⟩ : Addr).add j) = some u) := Lib.hid fun j u hu => by
              rw [Go.WideShapes.add_plain, Nat.zero_add, hwa]
              exact block_cell (heap_new w3.drew _) j u (by simpa using hu)
            have PA : Hid (wa.heap[p]? = some (.cells (opL kd x y s (some ⟨g, 0, none⟩) m c3 A4 m c4).toArray 26 (0, 0))) := Lib.hid (KA.out.heap HF.out.at_ fun h => h)
            rw [← hwa]
            clear hwa
            refine hK.out _ _ trivial (fun hHeld => ?_)
            clear hK K
            try simp only [Act.put, List.setIfInBounds_toArray, List.set_cons_zero, List.set_cons_succ]
            refine wpAnyH_ready (rs := [13]) (by kernel_rfl) (by simp) ?_
            refine AllReadyH.cons (by simp only [List.getElem?_toArray, List.getElem?_cons_zero, List.getElem?_cons_succ]; rfl) (fun K hK => ?_) AllReadyH.nil
            rw [if_pos (by rfl)]
            refine wp_append_own wa (.tmp 117) (.tmp 128) 23 rfl W.heap.size 53 i0 (.agg zF.toArray) 36 64 Tryz.underlying23 HI.out.1 HI.out.2.1 HI.out.2.2.1 HI.out.2.2.2 rfl (by decide) (.slice (some ⟨g, 0, none⟩) m c3) m (flatS (fun i => cellsF (I i)) m) rfl RX.out ⟨w3.heap.size, 0, none⟩ 1 1 cs rfl L4.out CA.out HON.out (by unfold maxLen; omega) (by omega) BA.out.size (fun v8 wb hown hgr _ => ?_)
            rw [HFL.out] at hown
            have PB := Lib.hid ((hgr.block p (heap_lt PA.out) (fun e => row_ne_cells RX.out PA.out (by decide) e.symm)).trans PA.out)
            obtain ⟨A5, c5, rfl⟩ := row_shapeS hown
            have KB : Hid (Keeps (fun x => (Value.slice (some ⟨g, 0, none⟩) m c3).ownBlock = some x) w3 wb) := Lib.hid ((KA.out.mono fun _ _ h => h.elim).trans (Keeps.grown hgr fun _ e => e) fun _ _ h => h)
            have RO := Lib.hid (KB.out.row HF.out.r2 fun x h1 h2 => own_ne HF.out.r2 HF.out.r1 (by decide) h1 h2)
            have QB := Lib.hid (KB.out.heap HF.out.res (fun e => row_ne_cells HF.out.r1 HF.out.res (by decide) e))
            have RN := Lib.hid hown
            clear hown hgr
            refine hK.out _ _ trivial (fun hHeld => ?_)
            clear hK K
            try simp only [Act.put, List.setIfInBounds_toArray, List.set_cons_zero, List.set_cons_succ]
            refine wpAnyH_take (i := 14) (v := ?_) (by simp only [List.getElem?_toArray, List.getElem?_cons_zero, List.getElem?_cons_succ]; rfl) (by kernel_rfl) (by kernel_rfl) (by kernel_rfl) (by intro _ _ _ h; exact h) (Or.inl ⟨by rfl, ?_⟩) hHeld ?_
            rotate_left
            · (intro w hSw; (try dsimp only at hSw); go_simp; try with_reducible rfl)
            try simp only [Act.put, List.setIfInBounds_toArray, List.set_cons_zero, List.set_cons_succ]
            refine wpAnyH_ready (rs := [15]) (by kernel_rfl) (by simp) ?_
            refine AllReadyH.cons (by simp only [List.getElem?_toArray, List.getElem?_cons_zero, List.getElem?_cons_succ]; rfl) (fun K hK => ?_) AllReadyH.nil
            rw [if_pos (by rfl)]
            have d4 := block_cell PB.out 4 _ rfl
            have f4 := frozen_of_row wb p 4 _ _ PB.out
            go_simp
            refine hK.out _ _ trivial (fun hHeld => ?_)
            clear hK K
            try simp only [Act.put, List.setIfInBounds_toArray, List.set_cons_zero, List.set_cons_succ]
            refine wpAnyH_done (by kernel_rfl) ?_ _
            clear hHeld
            obtain ⟨w5, hwn⟩ : ∃ w9, w9 = wb.setCell ⟨p, 4, none⟩ (.slice A5 (m + 1) c5) := ⟨_, rfl⟩
            rw [← hwn]
            have KC : Hid (Keeps (fun x => x = p) wb w5) := Lib.hid (by rw [hwn]; exact Keeps.setCell (fun x => x = p) wb ⟨p, 4, none⟩ _ rfl)
            have HF : Hid (Half W w5 p q ⟨kd, x, y, s, [], []⟩ A5 (m + 1) c5 (pushAt I m (I j)) A4 m c4 P) := Lib.hid ⟨by
                have h := set_blk (o := 4) (v := .slice A5 (m + 1) c5) PB.out
                rw [← hwn] at h
                exact h, KC.out.heap QB.out (by have := HPQ.out; omega), KC.out.row RN.out fun x h1 h2 => row_ne_cells RN.out PB.out (by decide) (h2 ▸ h1), KC.out.row RO.out fun x h1 h2 => row_ne_cells RO.out PB.out (by decide) (h2 ▸ h1), (HF.out.below.trans (KB.out.below (fun x hx => (HF.out.r1.lt x hx).1) HF.out.below.size)).trans (KC.out.below (fun x e => by have e : x = p := e; have := HQ.out; omega) (Nat.le_trans HF.out.below.size KB.out.size))⟩
            clear hwn KC d4 f4 KA BA RX CA PA PB KB RO QB RN C4 RG HSZ L4 L5 L6 L7 HI HL HON HFL hrem hwj hmz hji hj0
            have RA : Hid (w5.rangeAt p 0 (opL kd x y s A5 (m + 1) c5 A4 m c4)) := Lib.hid (range_of HF.out.at_)
            have OO := Lib.hid (opL_one kd x y s A5 (m + 1) c5 A4 m c4)
            have SPL : Hid (splice zOp 0 (opL kd x y s A5 (m + 1) c5 A4 m c4) = (opL kd x y s A5 (m + 1) c5 A4 m c4)) := Lib.hid (splice_whole _ _ rfl)
            go_wp2_with (first | (refine wpList_load_midG rfl 26 (.tmp 3) rfl p 0 rfl (opL kd x y s A5 (m + 1) c5 A4 m c4) _ RA.out Tryz.underlying26 rfl sizeOp ?_) | (refine wpList_store_segK rfl 26 (.tmp 6) (.tmp 131) rfl q 0 rfl (opL kd x y s A5 (m + 1) c5 A4 m c4) rfl zOp 26 HF.out.res sizeOp (Nat.le_refl _) OO.out rfl ?_; intro w9 h9 k9 s9))
            rw [SPL.out] at h9
            have hz : w9.rangeAt q 0 (opL kd x y s A5 (m + 1) c5 A4 m c4) := fun j v hj => block_cell h9 _ v (by rw [Nat.zero_add]; simpa using hj)
            refine bodyPost_ret (results_cell_one rfl _ _ q _ _ rfl hz Tryz.underlying26 rfl sizeOp) rfl ?_
            exact ⟨kd, x, y, s, A5, (m + 1), c5, (pushAt I m (I j)), A4, m, c4, P, rfl, HKD.out, by omega, by omega, ⟨k9.row HF.out.r1 (fun k h1 e => row_ne_cells HF.out.r1 HF.out.res (by decide) (e ▸ h1)), k9.row HF.out.r2 (fun k h1 e => row_ne_cells HF.out.r2 HF.out.res (by decide) (e ▸ h1)), HF.out.below.trans (k9.below (fun k e => by have e : k = q := e; have := HQ.out; have := HPQ.out; omega) HF.out.below.size)⟩⟩
          · skip
            rw [if_pos (by rfl)]
            refine wp_slice1 23 53 (.tmp 127) rfl cs rfl i0 (.agg zF.toArray) Tryz.underlying23 HI.out.1 HI.out.2.1 L7.out L5.out L6.out ?_
            obtain ⟨wa, hwa⟩ : ∃ w9, w9 = w3.drew.alloc (.cells cs.toArray 53) := ⟨_, rfl⟩
            have KA : Hid (Keeps (fun _ => False) w3 wa) := Lib.hid (by rw [hwa]; exact (Keeps.drew (fun _ => False) w3).trans (Keeps.alloc _ _ _) fun _ _ h => h)
            have BA : Hid (Below W.heap.size W wa) := Lib.hid (by rw [hwa]; exact HF.out.below.drew.alloc HF.out.below.size _)
            have RX : Hid (wa.ownsRow W.heap.size 53 36 (.slice (some ⟨g, 0, none⟩) m c3) m (flatS (fun i => cellsF (I i)) m)) := Lib.hid (KA.out.row HF.out.r1 fun _ _ h => h)
            have CA : Hid (∀ j u, cs[j]? = some u → wa.cell? ((⟨w3.heap.size, 0, none⟩ : Addr).add j) = some u) := Lib.hid fun j u hu => by
              rw [Go.WideShapes.add_plain, Nat.zero_add, hwa]
              exact block_cell (heap_new w3.drew _) j u (by simpa using hu)
            have PA : Hid (wa.heap[p]? = some (.cells (opL kd x y s (some ⟨g, 0, none⟩) m c3 A4 m c4).toArray 26 (0, 0))) := Lib.hid (KA.out.heap HF.out.at_ fun h => h)
            rw [← hwa]
            clear hwa
            refine hK.out _ _ trivial (fun hHeld => ?_)
            clear hK K
            try simp only [Act.put, List.setIfInBounds_toArray, List.set_cons_zero, List.set_cons_succ]
            refine wpAnyH_ready (rs := [1]) (by kernel_rfl) (by simp) ?_
            refine AllReadyH.cons (by simp only [List.getElem?_toArray, List.getElem?_cons_zero, List.getElem?_cons_succ]; rfl) (fun K hK => ?_) AllReadyH.nil
            rw [if_pos (by rfl)]
            have ce4 := block_cell PA.out 4 _ rfl
            go_simp
            refine hK.out _ _ trivial (fun hHeld => ?_)
            clear hK K
            try simp only [Act.put, List.setIfInBounds_toArray, List.set_cons_zero, List.set_cons_succ]
            clear ce4
            refine wpAnyH_ready (rs := [13]) (by kernel_rfl) (by simp) ?_
            refine AllReadyH.cons (by simp only [List.getElem?_toArray, List.getElem?_cons_zero, List.getElem?_cons_succ]; rfl) (fun K hK => ?_) AllReadyH.nil
            rw [if_pos (by rfl)]
            refine wp_append_own wa (.tmp 117) (.tmp 128) 23 rfl W.heap.size 53 i0 (.agg zF.toArray) 36 64 Tryz.underlying23 HI.out.1 HI.out.2.1 HI.out.2.2.1 HI.out.2.2.2 rfl (by decide) (.slice (some ⟨g, 0, none⟩) m c3) m (flatS (fun i => cellsF (I i)) m) rfl RX.out ⟨w3.heap.size, 0, none⟩ 1 1 cs rfl L4.out CA.out HON.out (by unfold maxLen; omega) (by omega) BA.out.size (fun v8 wb hown hgr _ => ?_)
            rw [HFL.out] at hown
            have PB := Lib.hid ((hgr.block p (heap_lt PA.out) (fun e => row_ne_cells RX.out PA.out (by decide) e.symm)).trans PA.out)
            obtain ⟨A5, c5, rfl⟩ := row_shapeS hown
            have KB : Hid (Keeps (fun x => (Value.slice (some ⟨g, 0, none⟩) m c3).ownBlock = some x) w3 wb) := Lib.hid ((KA.out.mono fun _ _ h => h.elim).trans (Keeps.grown hgr fun _ e => e) fun _ _ h => h)
            have RO := Lib.hid (KB.out.row HF.out.r2 fun x h1 h2 => own_ne HF.out.r2 HF.out.r1 (by decide) h1 h2)
            have QB := Lib.hid (KB.out.heap HF.out.res (fun e => row_ne_cells HF.out.r1 HF.out.res (by decide) e))
            have RN := Lib.hid hown
            clear hown hgr
            refine hK.out _ _ trivial (fun hHeld => ?_)
            clear hK K
            try simp only [Act.put, List.setIfInBounds_toArray, List.set_cons_zero, List.set_cons_succ]
            refine wpAnyH_take (i := 14) (v := ?_) (by simp only [List.getElem?_toArray, List.getElem?_cons_zero, List.getElem?_cons_succ]; rfl) (by kernel_rfl) (by kernel_rfl) (by kernel_rfl) (by intro _ _ _ h; exact h) (Or.inl ⟨by rfl, ?_⟩) hHeld ?_
            rotate_left
            · (intro w hSw; (try dsimp only at hSw); go_simp; try with_reducible rfl)
            try simp only [Act.put, List.setIfInBounds_toArray, List.set_cons_zero, List.set_cons_succ]
            refine wpAnyH_ready (rs := [15]) (by kernel_rfl) (by simp) ?_
            refine AllReadyH.cons (by simp only [List.getElem?_toArray, List.getElem?_cons_zero, List.getElem?_cons_succ]; rfl) (fun K hK => ?_) AllReadyH.nil
            rw [if_pos (by rfl)]
            have d4 := block_cell PB.out 4 _ rfl
            have f4 := frozen_of_row wb p 4 _ _ PB.out
            go_simp
            refine hK.out _ _ trivial (fun hHeld => ?_)
            clear hK K
            try simp only [Act.put, List.setIfInBounds_toArray, List.set_cons_zero, List.set_cons_succ]
            refine wpAnyH_done (by kernel_rfl) ?_ _
            clear hHeld
            obtain ⟨w5, hwn⟩ : ∃ w9, w9 = wb.setCell ⟨p, 4, none⟩ (.slice A5 (m + 1) c5) := ⟨_, rfl⟩
            rw [← hwn]
            have KC : Hid (Keeps (fun x => x = p) wb w5) := Lib.hid (by rw [hwn]; exact Keeps.setCell (fun x => x = p) wb ⟨p, 4, none⟩ _ rfl)
            have HF : Hid (Half W w5 p q ⟨kd, x, y, s, [], []⟩ A5 (m + 1) c5 (pushAt I m (I j)) A4 m c4 P) := Lib.hid ⟨by
                have h := set_blk (o := 4) (v := .slice A5 (m + 1) c5) PB.out
                rw [← hwn] at h
                exact h, KC.out.heap QB.out (by have := HPQ.out; omega), KC.out.row RN.out fun x h1 h2 => row_ne_cells RN.out PB.out (by decide) (h2 ▸ h1), KC.out.row RO.out fun x h1 h2 => row_ne_cells RO.out PB.out (by decide) (h2 ▸ h1), (HF.out.below.trans (KB.out.below (fun x hx => (HF.out.r1.lt x hx).1) HF.out.below.size)).trans (KC.out.below (fun x e => by have e : x = p := e; have := HQ.out; omega) (Nat.le_trans HF.out.below.size KB.out.size))⟩
            clear hwn KC d4 f4 KA BA RX CA PA PB KB RO QB RN C4 RG HSZ L4 L5 L6 L7 HI HL HON HFL hrem hwj hmz hji hj0
            have RA : Hid (w5.rangeAt p 0 (opL kd x y s A5 (m + 1) c5 A4 m c4)) := Lib.hid (range_of HF.out.at_)
            have OO := Lib.hid (opL_one kd x y s A5 (m + 1) c5 A4 m c4)
            have SPL : Hid (splice zOp 0 (opL kd x y s A5 (m + 1) c5 A4 m c4) = (opL kd x y s A5 (m + 1) c5 A4 m c4)) := Lib.hid (splice_whole _ _ rfl)
            go_wp2_with (first | (refine wpList_load_midG rfl 26 (.tmp 3) rfl p 0 rfl (opL kd x y s A5 (m + 1) c5 A4 m c4) _ RA.out Tryz.underlying26 rfl sizeOp ?_) | (refine wpList_store_segK rfl 26 (.tmp 6) (.tmp 131) rfl q 0 rfl (opL kd x y s A5 (m + 1) c5 A4 m c4) rfl zOp 26 HF.out.res sizeOp (Nat.le_refl _) OO.out rfl ?_; intro w9 h9 k9 s9))
            rw [SPL.out] at h9
            have hz : w9.rangeAt q 0 (opL kd x y s A5 (m + 1) c5 A4 m c4) := fun j v hj => block_cell h9 _ v (by rw [Nat.zero_add]; simpa using hj)
            refine bodyPost_ret (results_cell_one rfl _ _ q _ _ rfl hz Tryz.underlying26 rfl sizeOp) rfl ?_
            exact ⟨kd, x, y, s, A5, (m + 1), c5, (pushAt I m (I j)), A4, m, c4, P, rfl, HKD.out, by omega, by omega, ⟨k9.row HF.out.r1 (fun k h1 e => row_ne_cells HF.out.r1 HF.out.res (by decide) (e ▸ h1)), k9.row HF.out.r2 (fun k h1 e => row_ne_cells HF.out.r2 HF.out.res (by decide) (e ▸ h1)), HF.out.below.trans (k9.below (fun k e => by have e : k = q := e; have := HQ.out; have := HPQ.out; omega) HF.out.below.size)⟩⟩
  have t11 : (i == 11) = false := by simp [hi11]
  obtain ⟨cs, hcs⟩ : ∃ cs, cs = cellsP (elV v HV.out) := ⟨_, rfl⟩
  have HC := Lib.hid hcs
  have HFL : Hid (flatS (fun i => cellsP (P i)) m ++ cs = flatS (fun i => cellsP (pushAt P m (elV v HV.out) i)) (m + 1)) := Lib.hid (by rw [hcs]; exact flat_push cellsP P m _)
  have BP : Hid (∀ w, BuildRun Tryz.prog 48 #[(0, .int .i64 v), (1, .agg (slC (List.replicate 32 0) 0 1).toArray)] w (.agg cs.toArray)) := Lib.hid fun w => by rw [hcs]; exact buildPuM v w
  clear hcs
  obtain ⟨i0, hi, hz0, hz1, hz2⟩ := infoParts infoPz
  have HI := Lib.hid (And.intro hi (And.intro hz0 (And.intro hz1 hz2)))
  have HL : Hid (cs.length = 35) := Lib.hid (by rw [HC.out]; exact lenP _)
  have HON : Hid (∀ u ∈ cs, u.oneCell' = true) := Lib.hid (by rw [HC.out]; exact oneP _)
  obtain ⟨wa, hwa⟩ : ∃ w9, w9 = (w3).alloc (.cells cs.toArray 48) := ⟨_, rfl⟩
  have KA : Hid (Keeps (fun _ => False) w3 wa) := Lib.hid (by rw [hwa]; exact Keeps.alloc _ _ _)
  have BA : Hid (Below W.heap.size W wa) := Lib.hid (by rw [hwa]; exact HF.out.below.alloc HF.out.below.size _)
  have RX : Hid (wa.ownsRow W.heap.size 48 35 (.slice A4 m c4) m (flatS (fun i => cellsP (P i)) m)) := Lib.hid (KA.out.row HF.out.r2 fun _ _ h => h)
  have CA : Hid (∀ ad, (some ⟨(w3).heap.size, 0, none⟩ : Option Addr) = some ad → ∀ j u, cs[j]? = some u → wa.cell? (ad.add j) = some u) := Lib.hid fun ad e j u hu => by
    cases e
    rw [Go.WideShapes.add_plain, Nat.zero_add, hwa]
    exact block_cell (heap_new (w3) _) j u (by simpa using hu)
  have PA : Hid (wa.heap[p]? = some (.cells (opL kd x y s A3 m c3 A4 m c4).toArray 26 (0, 0))) := Lib.hid (KA.out.heap HF.out.at_ fun h => h)
  have hwa' := hwa.symm
  have NN : Hid ((some ⟨(w3).heap.size, 0, none⟩ : Option Addr) = none → (1 : Nat) = 0 ∧ (1 : Nat) = 0) := Lib.hid (fun h => by cases h)
  have L1 : Hid (m + 1 ≤ maxLen) := Lib.hid (by unfold maxLen; omega)
  have L2 : Hid ((m + 1) * 56 ≤ 140737488355328) := Lib.hid (by omega)
  have L4 : Hid (cs.length = 1 * 35) := Lib.hid (by rw [HL.out])
  have L5 : Hid (0 < cs.length) := Lib.hid (by rw [HL.out]; decide)
  have L6 : Hid (cs.length ≤ 2 ^ 24) := Lib.hid (by rw [HL.out]; decide)
  have L7 : Hid (i0.size = cs.length) := Lib.hid (by rw [HL.out]; exact HI.out.2.2.1)
  have ce0 := block_cell HF.out.at_ 5 _ rfl
  clear hwa hi hz0 hz1 hz2

  go_upto_region 2 with fail
  go_step
  repeat ((fail_if_success (refine wpList_buildG rfl 46 [(2, .const (.int .i64 1))] rfl [(2, .int .i64 1)] rfl _ (buildSlM _) ?_)); go_step)
  refine wpList_buildG rfl 46 [(2, .const (.int .i64 1))] rfl [(2, .int .i64 1)] rfl _ (buildSlM _) ?_
  try simp only [Act.put, List.setIfInBounds_toArray, List.set_cons_zero, List.set_cons_succ]
  repeat ((fail_if_success (refine wpList_buildG rfl 48 [(0, .tmp 11), (1, .tmp 12)] rfl [(0, .int .i64 v), (1, .agg (slC (List.replicate 32 0) 0 1).toArray)] rfl (.agg cs.toArray) (BP.out _) ?_)); go_step)
  refine wpList_buildG rfl 48 [(0, .tmp 11), (1, .tmp 12)] rfl [(0, .int .i64 v), (1, .agg (slC (List.replicate 32 0) 0 1).toArray)] rfl (.agg cs.toArray) (BP.out _) ?_
  try simp only [Act.put, List.setIfInBounds_toArray, List.set_cons_zero, List.set_cons_succ]
  repeat ((fail_if_success (refine wpList_slice1 rfl 24 48 (.tmp 13) rfl cs rfl i0 (.agg zP.toArray) Tryz.underlying24 HI.out.1 HI.out.2.1 L7.out L5.out L6.out ?_)); go_step)
  refine wpList_slice1 rfl 24 48 (.tmp 13) rfl cs rfl i0 (.agg zP.toArray) Tryz.underlying24 HI.out.1 HI.out.2.1 L7.out L5.out L6.out ?_
  rw [hwa']
  try simp only [Act.put, List.setIfInBounds_toArray, List.set_cons_zero, List.set_cons_succ]
  repeat ((fail_if_success (refine wpList_append_any rfl (.tmp 10) (.tmp 14) 24 rfl W.heap.size 48 i0 (.agg zP.toArray) 35 56 Tryz.underlying24 HI.out.1 HI.out.2.1 HI.out.2.2.1 HI.out.2.2.2 rfl (by decide) _ m _ rfl RX.out (some ⟨(w3).heap.size, 0, none⟩) 1 1 cs rfl NN.out L4.out CA.out HON.out L1.out L2.out BA.out.size ?_)); go_step)
  refine wpList_append_any rfl (.tmp 10) (.tmp 14) 24 rfl W.heap.size 48 i0 (.agg zP.toArray) 35 56 Tryz.underlying24 HI.out.1 HI.out.2.1 HI.out.2.2.1 HI.out.2.2.2 rfl (by decide) _ m _ rfl RX.out (some ⟨(w3).heap.size, 0, none⟩) 1 1 cs rfl NN.out L4.out CA.out HON.out L1.out L2.out BA.out.size ?_
  intro v' wb hown hgr
  obtain ⟨A5, c5, rfl⟩ := row_shapeS hown
  have PB := Lib.hid ((hgr.block p (heap_lt PA.out) (fun e => row_ne_cells RX.out PA.out (by decide) e.symm)).trans PA.out)
  have d4 := block_cell PB.out 5 _ rfl
  have f4 := frozen_of_row wb p 5 _ _ PB.out
  try simp only [Act.put, List.setIfInBounds_toArray, List.set_cons_zero, List.set_cons_succ]
  go_upto_region 29 with fail
  obtain ⟨w5, hwn⟩ : ∃ w9, w9 = wb.setCell ⟨p, 5, none⟩ (.slice A5 (m + 1) c5) := ⟨_, rfl⟩
  rw [← hwn]
  have KB : Hid (Keeps (fun x => (Value.slice A4 m c4).ownBlock = some x) w3 wb) := Lib.hid ((KA.out.mono fun _ _ h => h.elim).trans (Keeps.grown hgr fun _ e => e) fun _ _ h => h)
  have KC : Hid (Keeps (fun x => x = p) wb w5) := Lib.hid (by rw [hwn]; exact Keeps.setCell (fun x => x = p) wb ⟨p, 5, none⟩ _ rfl)
  have RO := Lib.hid (KB.out.row HF.out.r1 fun x h1 h2 => own_ne HF.out.r1 HF.out.r2 (by decide) h1 h2)
  have QB := Lib.hid (KB.out.heap HF.out.res (fun e => row_ne_cells HF.out.r2 HF.out.res (by decide) e))
  rw [HFL.out] at hown
  have HF : Hid (Half W w5 p q ⟨kd, x, y, s, [], []⟩ A3 m c3 I A5 (m + 1) c5 (pushAt P m (elV v HV.out))) := Lib.hid ⟨by
      have h := set_blk (o := 5) (v := (.slice A5 (m + 1) c5)) PB.out
      rw [← hwn] at h
      exact h, KC.out.heap QB.out (by have := HPQ.out; omega), KC.out.row RO.out fun x h1 h2 => row_ne_cells RO.out PB.out (by decide) (h2 ▸ h1), KC.out.row hown fun x h1 h2 => row_ne_cells hown PB.out (by decide) (h2 ▸ h1), (HF.out.below.trans (KB.out.below (fun x hx => (HF.out.r2.lt x hx).1) HF.out.below.size)).trans (KC.out.below (fun x e => by have e : x = p := e; have := HPQ.out; have := HQ.out; omega) (Nat.le_trans HF.out.below.size KB.out.size))⟩
  clear hwn hown hgr PB d4 f4 ce0 KA BA RX CA PA hwa' NN L1 L2 L4 L5 L6 L7 KB KC RO QB HL HON HI HC
  have RA : Hid (w5.rangeAt p 0 (opL kd x y s A3 m c3 A5 (m + 1) c5)) := Lib.hid (range_of HF.out.at_)
  have OO := Lib.hid (opL_one kd x y s A3 m c3 A5 (m + 1) c5)
  have SPL : Hid (splice zOp 0 (opL kd x y s A3 m c3 A5 (m + 1) c5) = (opL kd x y s A3 m c3 A5 (m + 1) c5)) := Lib.hid (splice_whole _ _ rfl)
  go_wp2_with (first | (refine wpList_load_midG rfl 26 (.tmp 3) rfl p 0 rfl (opL kd x y s A3 m c3 A5 (m + 1) c5) _ RA.out Tryz.underlying26 rfl sizeOp ?_) | (refine wpList_store_segK rfl 26 (.tmp 6) (.tmp 131) rfl q 0 rfl (opL kd x y s A3 m c3 A5 (m + 1) c5) rfl zOp 26 HF.out.res sizeOp (Nat.le_refl _) OO.out rfl ?_; intro w9 h9 k9 s9))
  rw [SPL.out] at h9
  have hz : w9.rangeAt q 0 (opL kd x y s A3 m c3 A5 (m + 1) c5) := fun j v hj => block_cell h9 _ v (by rw [Nat.zero_add]; simpa using hj)
  refine bodyPost_ret (results_cell_one rfl _ _ q _ _ rfl hz Tryz.underlying26 rfl sizeOp) rfl ?_
  exact ⟨kd, x, y, s, A3, m, c3, I, A5, (m + 1), c5, (pushAt P m (elV v HV.out)), rfl, HKD.out, by omega, by omega, ⟨k9.row HF.out.r1 (fun k h1 e => row_ne_cells HF.out.r1 HF.out.res (by decide) (e ▸ h1)), k9.row HF.out.r2 (fun k h1 e => row_ne_cells HF.out.r2 HF.out.res (by decide) (e ▸ h1)), HF.out.below.trans (k9.below (fun k e => by have e : k = q := e; have := HQ.out; have := HPQ.out; omega) HF.out.below.size)⟩⟩
end Go.Proofs.YthdllbbjajddiaaGreatDoor
