/- Layer 24 (refs): awake: the worked examples. -/
import Derived.Test.YtblfkngdieffiaaRe
namespace Go.Proofs.Ytblfkngdieffiaa
open Go.RowKit Go.Maps Go.WideMaps
theorem madeOf : ∀ (cs : List Ct), (∀ c ∈ cs, KeyOk 32 c.k ∧ wrap64 c.r = c.r) → Made cs (cs.foldl (fun R c => addC R c.k c.r) []) := by
  have h : ∀ (b a R : List Ct), Made a R → (∀ c ∈ b, KeyOk 32 c.k ∧ wrap64 c.r = c.r) → Made (a ++ b) (b.foldl (fun R c => addC R c.k c.r) R) := by
    intro b
    induction b with
    | nil => intro a R h _; rw [List.append_nil]; exact h
    | cons c l ih =>
      intro a R h hc
      have h1 := hc c (by simp)
      have := ih (a ++ [c]) (addC R c.k c.r) (h.add h1.1 h1.2) fun c hc' => hc c (by simp [hc'])
      rwa [List.append_assoc] at this
  intro cs hc
  exact h cs [] [] made_nil hc
/-- A row that was found is the row of its sums. -/
theorem rowOut_is {cs : List Ct} {base n m : Nat} {e : Ending} {w' : World} {E : Nat → ElC} (h : RowOut cs base n e w') (hE : IsRow cs (lst E m)) : ∃ A c, e = .returned (.slice A m c) ∧ m ≤ c ∧ m ≤ n ∧ w'.ownsRow base 45 33 (.slice A m c) m (flatS (fun i => cellsC (E i)) m) ∧ SArr w' w'.heap.size A m 33 (fun i => cellsC (E i)) := by
  obtain ⟨D, v, rfl, hD, hn, ho⟩ := h
  have hu := IsRow.unique hD hE fun _ _ => rfl
  have hs : D.size = m := by
    have := congrArg List.length hu
    rw [lst_len] at this
    simpa using this
  subst hs
  obtain ⟨A, c, rfl⟩ := row_shapeS ho
  have e1 : flatS (fun i => cellsC D[i]!) D.size = flatS (fun i => cellsC (E i)) D.size := flatS_congr fun j hj => by
    have h1 := congrArg (fun l => l[j]?) (hu.symm.trans (lst_arr D).symm)
    have hg : ∀ (L : Nat → ElC) (k : Nat), k ≤ D.size → ∀ i, i < k → (lst L k)[i]? = some (L i).1 := by
      intro L k
      induction k with
      | zero => intro _ i h; omega
      | succ k ih =>
        intro hk i hi
        rw [lst, List.getElem?_append, lst_len]
        by_cases h : i < k
        · rw [if_pos h]; exact ih (by omega) i h
        · obtain rfl : i = k := by omega
          rw [if_neg (by omega)]; simp
    simp only [hg E D.size (Nat.le_refl _) j hj, hg (fun i => D[i]!) D.size (Nat.le_refl _) j hj] at h1
    injection h1 with h1
    show cellsC D[j]! = cellsC (E j)
    rw [show E j = D[j]! from Subtype.ext h1]
  rw [e1] at ho
  exact ⟨A, c, rfl, row_le_capS ho, hn, ho, srow_shape ho⟩
def k8 (x : Int) : List Int := x :: List.replicate 31 0
theorem k8_ok {x : Int} (h : 0 ≤ x ∧ x < 256) : KeyOk 32 (k8 x) := ⟨rfl, fun y hy => by
  simp [k8] at hy
  rcases hy with rfl | rfl
  · exact h
  · omega⟩
def ctE (x n : Int) (hx : 0 ≤ x ∧ x < 256) (hn : (Lit.int .i64 n).wf = true) : ElC := ⟨⟨k8 x, n⟩, ⟨k8_ok hx, hn⟩⟩
theorem buildK8 (x : Int) (u : World) : BuildRun Try.prog 35 #[(0, .int .u8 x)] u (.agg (u8l (k8 x)).toArray) := ⟨by kernel_rfl⟩
theorem buildC8 (x n : Int) (u : World) : BuildRun Try.prog 45 #[(0, .agg (u8l (k8 x)).toArray), (1, .int .i64 n)] u (.agg (u8l (k8 x) ++ [Value.int .i64 n]).toArray) := ⟨by kernel_rfl⟩
set_option maxRecDepth 100000 in
theorem count20 (x n : Int) (hx : 0 ≤ x ∧ x < 256) (hn : (Lit.int .i64 n).wf = true) (w : World) : Calls Try.prog 20 #[.int .u8 x, .int .i64 n] w fun e w' => e = .returned (.agg (cellsC (ctE x n hx hn)).toArray) ∧ Below w.heap.size w w' := by
  have HK8 := Lib.hid fun u => buildK8 x u
  have HB := Lib.hid fun u => buildC8 x n u
  have HSZ : Hid ((Try.prog.info? 45).map (·.size) = some (u8l (k8 x) ++ [Value.int .i64 n]).length) := Lib.hid (sizeC (ctE x n hx hn))
  have HL : Hid ((u8l (k8 x) ++ [Value.int .i64 n]).length = 33) := Lib.hid (lenC (ctE x n hx hn))
  have HO : Hid (∀ v ∈ (u8l (k8 x) ++ [Value.int .i64 n]), v.oneCell' = true) := Lib.hid (oneC (ctE x n hx hn))
  change Calls _ _ _ _ fun e w' => e = .returned (.agg (u8l (k8 x) ++ [Value.int .i64 n]).toArray) ∧ Below w.heap.size w w'
  obtain ⟨cs, hcs⟩ : ∃ cs, cs = u8l (k8 x) ++ [Value.int .i64 n] := ⟨_, rfl⟩
  obtain ⟨ck, hck⟩ : ∃ ck, ck = (u8l (k8 x)).toArray := ⟨_, rfl⟩
  rw [← hcs] at HB HSZ HL HO ⊢
  rw [← hck] at HB HK8
  clear hcs hck
  go_enter Try.func20, Try.ntmps20
  have HH := Lib.hid (heap_new_at (w := w) (.cells zC.toArray 45) rfl)
  have HW : Hid (Below w.heap.size w (w.alloc (.cells zC.toArray 45))) := Lib.hid ((Below.refl _ _).alloc (Nat.le_refl _) _)
  go_wp2_with (first | (refine wpList_laid rfl 45 rfl zC (zeroVC _) ?_) | (refine wpList_buildG rfl 35 [(0, .tmp 5)] rfl [(0, .int .u8 x)] rfl _ (HK8.out _) ?_) | (refine wpList_buildG rfl 45 [(0, .tmp 6), (1, .tmp 7)] rfl [(0, .agg ck), (1, .int .i64 n)] rfl _ (HB.out _) ?_) | (refine wpList_store_segK rfl 45 (.tmp 4) (.tmp 8) rfl w.heap.size 0 rfl cs rfl zC 45 HH.out HSZ.out (by rw [HL.out, zlC]; omega) HO.out rfl ?_; intro w3 h3 k3 s3))
  rw [splice_whole _ _ (by rw [HL.out, zlC])] at h3
  have hz : w3.rangeAt w.heap.size 0 cs := fun j v hj => block_cell h3 _ v (by rw [Nat.zero_add]; simpa using hj)
  refine bodyPost_ret (results_cell_one rfl _ _ w.heap.size _ _ rfl hz Try.underlying45 rfl HSZ.out) rfl ?_
  exact ⟨rfl, HW.out.trans (k3.below (fun k hk => by rw [hk]; exact Nat.le_refl _) HW.out.size)⟩
def itS (x : Int) : Itm := ⟨2, List.replicate 32 0, 0, 0, 0, 0, 0, 0, k8 x, 0, 1⟩
theorem wf1 : (Lit.int .i64 1).wf = true := by kernel_rfl
theorem wf2u : (Lit.int .u8 2).wf = true := by kernel_rfl
theorem wf1u : (Lit.int .u8 1).wf = true := by kernel_rfl
def itE (x : Int) (hx : 0 ≤ x ∧ x < 256) : ElIt := ⟨itS x, ⟨wf2u, keyOk_zero 32, wf0, wf0, wf0, wf0, wf0, wf0, k8_ok hx, wf0, wf1⟩⟩
theorem buildR8 (x : Int) (u : World) : BuildRun Try.prog 40 #[(0, .agg (u8l (k8 x)).toArray), (2, .int .i64 1)] u (.agg (u8l (k8 x) ++ [Value.int .i64 0, Value.int .i64 1]).toArray) := ⟨by kernel_rfl⟩
theorem buildI8 (x : Int) (u : World) : BuildRun Try.prog 42 #[(0, .int .u8 2), (5, .agg (u8l (k8 x) ++ [Value.int .i64 0, Value.int .i64 1]).toArray)] u (.agg (itmCells (itS x)).toArray) := ⟨by kernel_rfl⟩
set_option maxRecDepth 100000 in
theorem slice19 (x : Int) (hx : 0 ≤ x ∧ x < 256) (w : World) : Calls Try.prog 19 #[.int .u8 x] w fun e w' => e = .returned (.agg (cellsIt (itE x hx)).toArray) ∧ Below w.heap.size w w' := by
  have HK8 := Lib.hid fun u => buildK8 x u
  have HR8 := Lib.hid fun u => buildR8 x u
  have HB := Lib.hid fun u => buildI8 x u
  have HSZ : Hid ((Try.prog.info? 42).map (·.size) = some (itmCells (itS x)).length) := Lib.hid (sizeIt0 (itE x hx))
  have HL : Hid ((itmCells (itS x)).length = 73) := Lib.hid (lenIt (itE x hx))
  have HO : Hid (∀ v ∈ itmCells (itS x), v.oneCell' = true) := Lib.hid (oneIt (itE x hx))
  change Calls _ _ _ _ fun e w' => e = .returned (.agg (itmCells (itS x)).toArray) ∧ Below w.heap.size w w'
  obtain ⟨cs, hcs⟩ : ∃ cs, cs = itmCells (itS x) := ⟨_, rfl⟩
  obtain ⟨cr, hcr⟩ : ∃ cr, cr = (u8l (k8 x) ++ [Value.int .i64 0, Value.int .i64 1]).toArray := ⟨_, rfl⟩
  obtain ⟨ck, hck⟩ : ∃ ck, ck = (u8l (k8 x)).toArray := ⟨_, rfl⟩
  rw [← hcs] at HB HSZ HL HO ⊢
  rw [← hcr] at HB HR8
  rw [← hck] at HR8 HK8
  clear hcs hck hcr
  go_enter Try.func19, Try.ntmps19
  have HH := Lib.hid (heap_new_at (w := w) (.cells zIt.toArray 42) rfl)
  have HW : Hid (Below w.heap.size w (w.alloc (.cells zIt.toArray 42))) := Lib.hid ((Below.refl _ _).alloc (Nat.le_refl _) _)
  go_wp2_with (first | (refine wpList_laid rfl 42 rfl zIt (zeroVIt _) ?_) | (refine wpList_buildG rfl 35 [(0, .tmp 3)] rfl [(0, .int .u8 x)] rfl _ (HK8.out _) ?_) | (refine wpList_buildG rfl 40 [(0, .tmp 4), (2, .const (.int .i64 1))] rfl [(0, .agg ck), (2, .int .i64 1)] rfl _ (HR8.out _) ?_) | (refine wpList_buildG rfl 42 [(0, .const (.int .u8 2)), (5, .tmp 5)] rfl [(0, .int .u8 2), (5, .agg cr)] rfl _ (HB.out _) ?_) | (refine wpList_store_segK rfl 42 (.tmp 2) (.tmp 6) rfl w.heap.size 0 rfl cs rfl zIt 42 HH.out HSZ.out (by rw [HL.out, zlIt]; omega) HO.out rfl ?_; intro w3 h3 k3 s3))
  rw [splice_whole _ _ (by rw [HL.out, zlIt])] at h3
  have hz : w3.rangeAt w.heap.size 0 cs := fun j v hj => block_cell h3 _ v (by rw [Nat.zero_add]; simpa using hj)
  refine bodyPost_ret (results_cell_one rfl _ _ w.heap.size _ _ rfl hz Try.underlying42 rfl HSZ.out) rfl ?_
  exact ⟨rfl, HW.out.trans (k3.below (fun k hk => by rw [hk]; exact Nat.le_refl _) HW.out.size)⟩
end Go.Proofs.Ytblfkngdieffiaa
