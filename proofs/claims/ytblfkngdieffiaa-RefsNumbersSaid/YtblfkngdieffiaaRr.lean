/- Layer 24 (refs): the row of sums: the map is gone through, what was met is sorted by keys. -/
import Derived.Test.YtblfkngdieffiaaRb0
import Derived.Test.YtblfkngdieffiaaSp
import Derived.Lib.BytesEntry
import Derived.Laws.Externs
namespace Go.Proofs.Ytblfkngdieffiaa
open Go.RowKit Go.Maps Go.WideMaps Go.Sort
theorem len32 : ∀ (l : List Int), l.length = 32 → ∃ a0 a1 a2 a3 a4 a5 a6 a7 a8 a9 a10 a11 a12 a13 a14 a15 a16 a17 a18 a19 a20 a21 a22 a23 a24 a25 a26 a27 a28 a29 a30 a31, l = [a0, a1, a2, a3, a4, a5, a6, a7, a8, a9, a10, a11, a12, a13, a14, a15, a16, a17, a18, a19, a20, a21, a22, a23, a24, a25, a26, a27, a28, a29, a30, a31] := by
  intro l h
  match l, h with
  | [a0, a1, a2, a3, a4, a5, a6, a7, a8, a9, a10, a11, a12, a13, a14, a15, a16, a17, a18, a19, a20, a21, a22, a23, a24, a25, a26, a27, a28, a29, a30, a31], _ => exact ⟨a0, a1, a2, a3, a4, a5, a6, a7, a8, a9, a10, a11, a12, a13, a14, a15, a16, a17, a18, a19, a20, a21, a22, a23, a24, a25, a26, a27, a28, a29, a30, a31, rfl⟩
theorem buildCt (ks : List Int) (h : KeyOk 32 ks) (x : Int) (u : World) : BuildRun Try.prog 45 #[(0, kv ks), (1, .int .i64 x)] u (.agg (u8l ks ++ [Value.int .i64 x]).toArray) := by
  obtain ⟨a0, a1, a2, a3, a4, a5, a6, a7, a8, a9, a10, a11, a12, a13, a14, a15, a16, a17, a18, a19, a20, a21, a22, a23, a24, a25, a26, a27, a28, a29, a30, a31, rfl⟩ := len32 ks h.len
  exact ⟨by kernel_rfl⟩
theorem run_compareBytes {P : Program} (xs ys : List Int) (A B : Addr) (c d : Nat) (w : World) (hx : ∀ j x, xs[j]? = some x → w.cell? (A.add j) = some (.int .u8 x)) (hy : ∀ j x, ys[j]? = some x → w.cell? (B.add j) = some (.int .u8 x)) :
    (Extern.BytealgCompare.compare #[.slice (some A) xs.length c, .slice (some B) ys.length d]).run P w = .ok (.int .i64 (Lib.compareBytes (Lib.bytesOf xs) (Lib.bytesOf ys))) w := by
  have h1 : (Extern.Bytes.bytesOf (.slice (some A) xs.length c)).run P w = .ok ⟨(Lib.bytesOf xs).toArray⟩ w := by
    have := Lib.run_loadBytesX (P := P) (w := w) xs A .empty hx
    simpa [Extern.Bytes.bytesOf] using this
  have h2 : (Extern.Bytes.bytesOf (.slice (some B) ys.length d)).run P w = .ok ⟨(Lib.bytesOf ys).toArray⟩ w := by
    have := Lib.run_loadBytesX (P := P) (w := w) ys B .empty hy
    simpa [Extern.Bytes.bytesOf] using this
  change Sem.run P (do pure (goInt (Extern.BytealgCompare.cmp (← Extern.Bytes.bytesOf (.slice (some A) xs.length c)) (← Extern.Bytes.bytesOf (.slice (some B) ys.length d))))) w = _
  simp only [Sem.run_bind, h1, h2, Result.andThen_ok, Sem.run_pure]
  rw [Lib.cmp_eq]
  rfl
set_option maxRecDepth 100000 in
theorem compare31 (xs ys : List Int) (A B : Addr) (c d : Nat) (w : World) (hx : ∀ j x, xs[j]? = some x → w.cell? (A.add j) = some (.int .u8 x)) (hy : ∀ j x, ys[j]? = some x → w.cell? (B.add j) = some (.int .u8 x)) :
    Calls Try.prog 31 #[.slice (some A) xs.length c, .slice (some B) ys.length d] w fun e w' => e = .returned (.int .i64 (Lib.compareBytes (Lib.bytesOf xs) (Lib.bytesOf ys))) ∧ w = w' := by
  have HR := Lib.hid (run_compareBytes (P := Try.prog) xs ys A B c d w hx hy)
  clear hx hy
  go_enter Try.func31, Try.ntmps31
  go_wp2_with fail
  rw [run_callFunc_extern Try.func56 (by kernel_rfl) (by kernel_rfl) (by kernel_rfl) (e := Extern.BytealgCompare.compare) (by kernel_rfl), HR.out]
  simp only [Result.andThen]
  rw [Oper.upon_value]
  go_wp2_with fail
  go_ret
  exact ⟨rfl, rfl⟩
set_option maxRecDepth 100000 in
theorem closure30 (x y : ElC) (W : World) : Calls Try.prog 30 #[.agg (cellsC x).toArray, .agg (cellsC y).toArray] W fun e w' => e = .returned (.int .i64 (cmpL x.1.k y.1.k)) ∧ ∃ q os', w' = grow (W.drewN q) os' := by
  obtain ⟨a, ha⟩ : ∃ a, a = (cellsC x).toArray := ⟨_, rfl⟩
  obtain ⟨b, hb⟩ : ∃ b, b = (cellsC y).toArray := ⟨_, rfl⟩
  rw [← ha, ← hb]
  have HA := Lib.hid ha
  have HB := Lib.hid hb
  clear ha hb
  go_enter Try.func30, Try.ntmps30
  go_wp2_with fail
  obtain ⟨w2, hw2⟩ : ∃ w2, w2 = (W.alloc (.cells a 45)).alloc (.cells b 45) := ⟨_, rfl⟩
  rw [← hw2]
  have HC : Hid (∀ m, Calls Try.prog 31 #[.slice (some ⟨W.heap.size, 0, none⟩) 32 32, .slice (some ⟨W.heap.size + 1, 0, none⟩) 32 32] (w2.drewN m) fun e w' => e = .returned (.int .i64 (cmpL x.1.k y.1.k)) ∧ w2.drewN m = w') := Lib.hid fun m => by
    have h1 : w2.heap[W.heap.size]? = some (.cells a 45) := by rw [hw2]; exact heap_old (heap_new W _)
    have h2 : w2.heap[W.heap.size + 1]? = some (.cells b 45) := by rw [hw2]; exact heap_new_at _ (by simp)
    have at_ : ∀ (z : ElC) (j : Nat) (v : Int), z.1.k[j]? = some v → (cellsC z).toArray[j]? = some (.int .u8 v) := fun z j v hj => by
      have hl := (List.getElem?_eq_some_iff.1 hj).1
      rw [List.getElem?_toArray, cellsC, List.getElem?_append_left (by rw [u8l_len]; exact hl), u8l, List.getElem?_map, hj]; rfl
    have h := compare31 x.1.k y.1.k ⟨W.heap.size, 0, none⟩ ⟨W.heap.size + 1, 0, none⟩ 32 32 (w2.drewN m) (fun j v hj => by
      have := block_cell h1 j (.int .u8 v) (by rw [HA.out]; exact at_ x j v hj)
      rw [Go.WideShapes.add_plain, Nat.zero_add]; exact this) (fun j v hj => by
      have := block_cell h2 j (.int .u8 v) (by rw [HB.out]; exact at_ y j v hj)
      rw [Go.WideShapes.add_plain, Nat.zero_add]; exact this)
    rw [x.2.key.len, y.2.key.len, cmpL_bytes _ _ x.2.key.lo y.2.key.lo] at h
    exact h
  have HW : Hid (∀ q, w2.drewN q = grow (W.drewN q) (#[.cells a 45] ++ #[.cells b 45])) := Lib.hid fun q => by
    rw [hw2, alloc_eq_grow, alloc_eq_grow, grow_grow]; rfl
  clear hw2
  go_quiet ((go_at_call 31; exact quiet_left (HC.out _)))
  go_wp2_with fail
  go_ret
  exact ⟨rfl, _, _, HW.out _⟩
theorem swoC : SWO (ltOf fun x y : ElC => cmpL x.1.k y.1.k) where
  irrefl x := kLt_irrefl x.1.k
  trans x y z h1 h2 := kLt_trans (a := x.1.k) (b := y.1.k) (c := z.1.k) h1 h2
  ntrans x y z h1 h2 := kLt_ntrans (a := x.1.k) (b := y.1.k) (c := z.1.k) h1 h2
theorem permList {α : Type} [Inhabited α] {d d' : Array α} (h : PermIn 0 d.size d d') : d'.toList.Perm d.toList := by
  have h2 := h.2.2
  have e1 : d.extract 0 d.size = d := by simp
  have e2 : d'.extract 0 d.size = d' := by rw [← h.1]; simp
  rwa [e1, e2] at h2
theorem sort29 (D : Array ElC) (v : Value) (base : Nat) (w : World) (hn : D.size ≤ 1099511627776) (ho : w.ownsRow base 45 33 v D.size (flatS (fun i => cellsC D[i]!) D.size)) :
    Calls Try.prog 29 #[v, .func (.func 30) #[] #[]] w fun e w' => e = .returned (.tuple #[]) ∧ ∃ d : Array ElC, d.toList.Perm D.toList ∧ d.size = D.size ∧ (∀ i j, i < j → j < d.size → kLt d[j]!.1.k d[i]!.1.k = false) ∧
      w'.ownsRow base 45 33 v d.size (flatS (fun i => cellsC d[i]!) d.size) ∧ Keeps (fun x => v.ownBlock = some x) w w' := by
  obtain ⟨A, c, rfl⟩ := row_shapeS ho
  by_cases h0 : D.size = 0
  · have h := AnyF.slices_SortFunc_none (P := Try.prog) (ρ := sortCt_ren) { sortCt with } A c (.func (.func 30) #[] #[]) w
    rw [h0] at ho ⊢
    refine h.mono fun e w' ⟨he, hw⟩ => ⟨he, D, List.Perm.refl _, h0, fun i j _ h => absurd h (by omega), by rw [h0]; exact hw ▸ ho, hw ▸ Keeps.refl _ _⟩
  · obtain ⟨g, rfl⟩ := row_someS ho (by have := row_le_capS ho; omega)
    have eg : ∀ args w, (callFunc 30 args).run Try.prog w = .ok (.enter 30 args) w := enters_of Try.func30 (by kernel_rfl) rfl
    have hH := holdsK_row (enc := cellsC) (d := D) lenC rfl ho
    have h := AnyQ.slices_SortFunc sortCt 33 Try.isAgg45 Try.sizeOf45 cellsC lenC oneC (fun x y : ElC => cmpL x.1.k y.1.k) swoC 30 #[] g 0 c D w eg (fun _ _ _ _ x y => closure30 x y _) hH (row_lt ho (k := g) rfl).2 (by omega)
    change Calls Try.prog 29 _ _ _ at h
    refine h.mono fun e w' ⟨he, d, m, os, hp, hs, hw⟩ => ⟨he, d, permList hp, hp.1, fun i j hij hj => hs i j (Nat.zero_le _) hij (by rw [← hp.1]; exact hj), ?_⟩
    have hr := sorted_row (m := m) (os := os) (d' := d) lenC hp.1 ho
    rw [hw, hp.1]
    exact ⟨hr.1, hr.2.mono fun x _ hx => by rw [hx]; rfl⟩
end Go.Proofs.Ytblfkngdieffiaa
