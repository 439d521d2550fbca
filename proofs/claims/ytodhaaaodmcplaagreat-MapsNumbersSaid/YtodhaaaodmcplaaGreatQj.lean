/- The law MapsNumbers (layer 23): it returns true. Printed by genQj.py. -/
import Derived.Test.YtodhaaaodmcplaaGreatQi
set_option linter.all false
namespace Go.Proofs.YtodhaaaodmcplaaGreat
open Go.RowKit Go.Maps Go.WideMaps
def zK : List Int := List.replicate 32 0
def k1 : List Int := 1 :: List.replicate 31 0
def dz (op a b o m : Int) : Dox := ⟨op, a, b, ⟨zK, o, m⟩⟩
def dk (op a b : Int) : Dox := ⟨op, a, b, ⟨k1, 0, 255⟩⟩
theorem zK_ok : KeyOk 32 zK := ⟨rfl, fun x hx => by
  have h : x = 0 := by simpa [zK] using hx
  subst h; decide⟩
theorem k1_ok : KeyOk 32 k1 := ⟨rfl, fun x hx => by
  have h : x = 1 ∨ x = 0 := by simpa [k1] using hx
  rcases h with rfl | rfl <;> decide⟩
theorem dz_ok {op a b : Int} (o m : Int) (h1 : (Lit.int .i64 op).wf = true) (h2 : (Lit.int .i64 a).wf = true) (h3 : (Lit.int .i64 b).wf = true) : OkDo (dz op a b o m) := ⟨zK_ok, h1, h2, h3⟩
theorem dk_ok {op a b : Int} (h1 : (Lit.int .i64 op).wf = true) (h2 : (Lit.int .i64 a).wf = true) (h3 : (Lit.int .i64 b).wf = true) : OkDo (dk op a b) := ⟨k1_ok, h1, h2, h3⟩
theorem bS2 (x m : Int) (w : World) : BuildRun Tryz.prog 33 #[(1, .int .i64 x), (2, .int .i64 m)] w (.agg (slC zK x m).toArray) := ⟨by kernel_rfl⟩
theorem bS1 (m : Int) (w : World) : BuildRun Tryz.prog 33 #[(2, .int .i64 m)] w (.agg (slC zK 0 m).toArray) := ⟨by kernel_rfl⟩
theorem bS0 (w : World) : BuildRun Tryz.prog 33 #[] w (.agg (slC zK 0 0).toArray) := ⟨by kernel_rfl⟩
theorem bK1 (w : World) : BuildRun Tryz.prog 31 #[(0, .int .u8 1)] w (.agg (u8l k1).toArray) := ⟨by kernel_rfl⟩
theorem bKS (w : World) : BuildRun Tryz.prog 33 #[(0, .agg (u8l k1).toArray), (2, .int .i64 255)] w (.agg (slC k1 0 255).toArray) := ⟨by kernel_rfl⟩
theorem bD4 (op a b x m : Int) (w : World) : BuildRun Tryz.prog 35 #[(0, .int .i64 op), (1, .int .i64 a), (2, .int .i64 b), (3, .agg (slC zK x m).toArray)] w (.agg (dz op a b x m).cells.toArray) := ⟨by kernel_rfl⟩
theorem bD4k (op a b : Int) (w : World) : BuildRun Tryz.prog 35 #[(0, .int .i64 op), (1, .int .i64 a), (2, .int .i64 b), (3, .agg (slC k1 0 255).toArray)] w (.agg (dk op a b).cells.toArray) := ⟨by kernel_rfl⟩
theorem bD3 (a x m : Int) (w : World) : BuildRun Tryz.prog 35 #[(0, .int .i64 0), (1, .int .i64 a), (3, .agg (slC zK x m).toArray)] w (.agg (dz 0 a 0 x m).cells.toArray) := ⟨by kernel_rfl⟩
theorem bD3b (a b : Int) (w : World) : BuildRun Tryz.prog 35 #[(0, .int .i64 3), (1, .int .i64 a), (2, .int .i64 b)] w (.agg (dz 3 a b 0 0).cells.toArray) := ⟨by kernel_rfl⟩
theorem bD2 (a : Int) (w : World) : BuildRun Tryz.prog 35 #[(0, .int .i64 5), (1, .int .i64 a)] w (.agg (dz 5 a 0 0 0).cells.toArray) := ⟨by kernel_rfl⟩
def zDo : List Value := (dz 0 0 0 0 0).cells
theorem infoDo : (Tryz.prog.info? 35).map (fun i => (i.zero, i.size, i.bytes)) = some (some (.agg zDo.toArray), 37, 72) := by kernel_rfl
theorem cells_len {d : Dox} (h : OkDo d) : d.cells.length = 37 := by simp [Dox.cells, slC_len h.k.len]
theorem cells_one (d : Dox) : ∀ u ∈ d.cells, u.oneCell' = true := by
  intro u hu
  rcases List.mem_append.1 hu with hu | hu
  · simp only [List.mem_cons, List.not_mem_nil, or_false] at hu
    rcases hu with rfl | rfl | rfl <;> rfl
  · exact slC_one _ _ _ u hu
def numsM : List Int := [-9223372036854775808, -1, 0, 1, 2, 3, 15, 16, 17, 23, 24, 25, 255, 256, 511, 512, 513, 4096, 4097, 1073741824, 1073741825, 9223372036854775807]
theorem nums_wf {k : Nat} (h : k < 22) : (Lit.int .i64 (numsM.getD k 0)).wf = true := by
  have ha : (numsM.all fun x => (Lit.int .i64 x).wf) = true := by kernel_rfl
  have hl : k < numsM.length := h
  rw [List.getD_eq_getElem?_getD, List.getElem?_eq_getElem hl]
  exact List.all_eq_true.1 ha _ (List.getElem_mem hl)
/-- The list of numbers, as it lies. -/
structure DataN (W w : World) : Prop where
  n : w.heap[W.heap.size]? = some (.cells (numsM.map (Value.int .i64)).toArray 3 (0, 0))
  below : Below W.heap.size W w
theorem DataN.go {W w w2 : World} (h : DataN W w) (hb : Below w.heap.size w w2) : DataN W w2 :=
  ⟨(hb.block _ (heap_lt h.n)).trans h.n, h.below.trans (hb.mono h.below.size)⟩
theorem DataN.num {W w : World} (h : DataN W w) {k : Nat} (hk : k < 22) : w.cell? ⟨W.heap.size, k, none⟩ = some (.int .i64 (numsM.getD k 0)) := by
  refine block_cell h.n k _ ?_
  have hl : k < numsM.length := hk
  rw [List.getElem?_toArray, List.getElem?_map, List.getD_eq_getElem?_getD, List.getElem?_eq_getElem hl]
  rfl
/-- Steps collected. -/
structure ColF (w5 w : World) (v : Value) (k : Nat) (F : Nat → Dox) : Prop where
  ok : ∀ i, OkDo (F i)
  row : w.ownsRow w5.heap.size 35 37 v k (flatS (fun i => (F i).cells) k)
  below : Below w5.heap.size w5 w
def joinD (F G : Nat → Dox) (k i : Nat) : Dox := if i < k then F i else G (i - k)
theorem wideD {F : Nat → Dox} (h : ∀ i, OkDo (F i)) : Wide 37 fun i => (F i).cells := fun i => cells_len (h i)
theorem ColF.start (w : World) : ColF w w (.slice none 0 0) 0 fun _ => dz 0 0 0 0 0 :=
  ⟨fun _ => dz_ok 0 0 rfl rfl rfl, World.ownsRow_nil _ _ _ _, Below.refl _ _⟩
section
variable {w5 w w2 w3 : World} {v v' : Value} {k m : Nat} {F G : Nat → Dox}
theorem ColF.go (h : ColF w5 w v k F) (hb : Below w.heap.size w w2) : ColF w5 w2 v k F :=
  ⟨h.ok, (Keeps.fresh (S := fun _ => False) hb).row h.row fun _ _ h => h, h.below.trans (hb.mono h.below.size)⟩
theorem ColF.push {o : Obj} (h : ColF w5 w v k F) (hG : ∀ i, OkDo (G i)) (ho : w3.ownsRow w5.heap.size 35 37 v' (k + m) (flatS (fun i => (F i).cells) k ++ flatS (fun i => (G i).cells) m)) (hg : (w.alloc o).grownBy w3 v.ownBlock) : ColF w5 w3 v' (k + m) (joinD F G k) := by
  refine ⟨fun i => ?_, ?_, (h.below.alloc h.below.size o).grown hg (Nat.le_trans h.below.size (by simp)) fun k e => (h.row.lt k e).1⟩
  · unfold joinD
    split
    · exact h.ok _
    · exact hG _
  · rw [flatS_join] at ho
    have e : (fun i => if i < k then (F i).cells else (G (i - k)).cells) = fun i => (joinD F G k i).cells := funext fun i => by
      unfold joinD
      split <;> rfl
    rw [e] at ho
    exact ho
theorem ColF.sarr {A : Option Addr} {c : Nat} (h : ColF w5 w (.slice A k c) k F) : SArr w w.heap.size A k 37 fun i => (F i).cells := by
  obtain ⟨A', c', e, h1, _⟩ := srow_arr (wideD h.ok) h.row
  injection e with e1 e2 e3
  subst e1
  exact h1
theorem lit_sarr {q : Nat} (hF : ∀ i, OkDo (F i)) (h : w.heap[q]? = some (.cells (flatS (fun i => (F i).cells) k).toArray 35 (0, 0))) : SArr w w.heap.size (some ⟨q, 0, none⟩) k 37 fun i => (F i).cells :=
  SArr.ofCells (wideD hF) h fun i hi => rfl
end
theorem wp_sliceK {P : Program} {o : Oper} {a : Act} {w : World} {K : Act → World → Prop} {Q : Exit → Act → World → Prop} (t e : TypeId) (len s : Nat) (parts : Array (Nat × Operand)) (ho : o.op = .buildSlice t len parts) (F : Nat → List Value)
    (hp : (parts.map fun (i, x) => (i, a.eval x)).toList = (List.range len).map fun i => (i, Value.agg (F i).toArray)) (i : TypeInfo) (z : Value) (hu : P.underlying t = some (.slice e)) (hi : P.info? e = some i) (hz : i.zero = some z) (hs : i.size = s) (hF : ∀ k, k < len → (F k).length = s) (h0 : 0 < s) (h1 : 0 < len) (h2 : len * s ≤ 2 ^ 24)
    (h : K (a.put o.dst (.slice (some ⟨w.heap.size, 0, none⟩) len len)) (w.alloc (.cells (flatS F len).toArray e))) : o.wp P a w K Q := by
  subst hs
  refine wp_buildSlice t e len _ ho (flatS F len).toArray i z hu hi hz (by omega) (by have := Nat.mul_pos h1 h0; omega) ?_ h
  have hf := Great.fill_whole (s := i.size) h0 ((List.range len).map fun k => Value.agg (F k).toArray) ((Array.range (len * i.size)).map (z.cells[· % z.cells.size]!)) (fun v hv => by
    obtain ⟨k, hk, rfl⟩ := List.mem_map.1 hv
    simpa [Value.cells] using hF k (List.mem_range.1 hk)) (by simp)
  rw [range_zip, range_flat] at hf
  rw [hp]
  exact hf
def gA (x y : Int) (i : Nat) : Dox := match i with | 0 => dz 0 y 0 0 255 | 1 => dz 3 x y 0 0 | _ => dz 5 y 0 0 0
def gB (x : Int) (i : Nat) : Dox := match i with | 0 => dz 0 0 0 x 1 | 1 => dz 0 1 0 0 x | 2 => dz 8 x 0 0 0 | 3 => dz 8 0 x 0 0 | 4 => dz 7 x 0 0 0 | _ => dz 6 x 0 0 0
def gC (x y : Int) (i : Nat) : Dox := match i with | 0 => dk 0 0 0 | 1 => dk 0 1 0 | 2 => dz 0 2 0 0 90 | 3 => dk 3 x y | _ => dk 3 4 13
def gD (x y : Int) (i : Nat) : Dox := match i with | 0 => dk 0 x 0 | _ => dk 5 y 0
def gE (i : Nat) : Dox := match i with | 0 => dk 5 100 0 | 1 => dk 6 72 0 | 2 => dk 5 5 0 | 3 => dk 7 100 0 | _ => dk 7 72 0
theorem gA_ok {x y : Int} (hx : (Lit.int .i64 x).wf = true) (hy : (Lit.int .i64 y).wf = true) (i : Nat) : OkDo (gA x y i) := by
  unfold gA
  split
  · exact dz_ok _ _ rfl hy rfl
  · exact dz_ok _ _ rfl hx hy
  · exact dz_ok _ _ rfl hy rfl
theorem gB_ok {x : Int} (hx : (Lit.int .i64 x).wf = true) (i : Nat) : OkDo (gB x i) := by
  unfold gB
  split
  · exact dz_ok _ _ rfl rfl rfl
  · exact dz_ok _ _ rfl rfl rfl
  · exact dz_ok _ _ rfl hx rfl
  · exact dz_ok _ _ rfl rfl hx
  · exact dz_ok _ _ rfl hx rfl
  · exact dz_ok _ _ rfl hx rfl
theorem gC_ok {x y : Int} (hx : (Lit.int .i64 x).wf = true) (hy : (Lit.int .i64 y).wf = true) (i : Nat) : OkDo (gC x y i) := by
  unfold gC
  split
  · exact dk_ok rfl rfl rfl
  · exact dk_ok rfl rfl rfl
  · exact dz_ok _ _ rfl rfl rfl
  · exact dk_ok rfl hx hy
  · exact dk_ok rfl rfl rfl
theorem gD_ok {x y : Int} (hx : (Lit.int .i64 x).wf = true) (hy : (Lit.int .i64 y).wf = true) (i : Nat) : OkDo (gD x y i) := by
  unfold gD
  split
  · exact dk_ok rfl hx rfl
  · exact dk_ok rfl hy rfl
theorem gE_ok (i : Nat) : OkDo (gE i) := by
  unfold gE
  split <;> exact dk_ok rfl rfl rfl
/-- The slice in its box. -/
structure BoxS (W w : World) (q : Nat) : Prop where
  s : w.heap[q]? = some (.cells (slC k1 0 255).toArray 33 (0, 0))
  below : Below W.heap.size W w
theorem BoxS.go {W w w2 : World} {q : Nat} (h : BoxS W w q) (hb : Below w.heap.size w w2) : BoxS W w2 q :=
  ⟨(hb.block _ (heap_lt h.s)).trans h.s, h.below.trans (hb.mono h.below.size)⟩
theorem sizeK1 : (Tryz.prog.info? 33).map (·.size) = some (slC k1 0 255).length := by rw [slC_len k1_ok.len]; exact infoSl
end Go.Proofs.YtodhaaaodmcplaaGreat
