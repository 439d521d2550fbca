/- Layer 23 (maps): Items. Printed by genNk.py. -/
import Derived.Test.YtodhaaaodmcplaaGreatNj
import Derived.Test.YtodhaaaodmcplaaGreatKm
set_option linter.all false
namespace Go.Proofs.YtodhaaaodmcplaaGreat
open Go.RowKit Go.Maps Go.WideMaps
theorem len32 : ∀ (l : List Int), l.length = 32 → ∃ a0 a1 a2 a3 a4 a5 a6 a7 a8 a9 a10 a11 a12 a13 a14 a15 a16 a17 a18 a19 a20 a21 a22 a23 a24 a25 a26 a27 a28 a29 a30 a31, l = [a0, a1, a2, a3, a4, a5, a6, a7, a8, a9, a10, a11, a12, a13, a14, a15, a16, a17, a18, a19, a20, a21, a22, a23, a24, a25, a26, a27, a28, a29, a30, a31] := by
  intro l h
  match l, h with
  | [a0, a1, a2, a3, a4, a5, a6, a7, a8, a9, a10, a11, a12, a13, a14, a15, a16, a17, a18, a19, a20, a21, a22, a23, a24, a25, a26, a27, a28, a29, a30, a31], _ => exact ⟨a0, a1, a2, a3, a4, a5, a6, a7, a8, a9, a10, a11, a12, a13, a14, a15, a16, a17, a18, a19, a20, a21, a22, a23, a24, a25, a26, a27, a28, a29, a30, a31, rfl⟩
def cellsL (L : List Itm) : List Value := L.flatMap itmCells
theorem cellsL_app (a b : List Itm) : cellsL (a ++ b) = cellsL a ++ cellsL b := List.flatMap_append
theorem cellsL_one (x : Itm) : cellsL [x] = itmCells x := by simp [cellsL]
open Classical in
noncomputable def elI (L : List Itm) (i : Nat) : ElIt := match L[i]? with
  | some x => if h : OkIt x then ⟨x, h⟩ else default
  | none => default
theorem elI_at {L : List Itm} (h : ∀ x ∈ L, OkIt x) {i : Nat} {x : Itm} (hi : L[i]? = some x) : (elI L i).1 = x := by
  unfold elI
  rw [hi]
  simp only
  rw [dif_pos (h x (List.mem_of_getElem? hi))]
theorem elI_cells {L : List Itm} (h : ∀ x ∈ L, OkIt x) : ∀ k, k ≤ L.length → flatS (fun i => cellsIt (elI L i)) k = cellsL (L.take k)
  | 0, _ => by simp [flatS, cellsL]
  | k + 1, hk => by
    have hi : L[k]? = some L[k] := List.getElem?_eq_getElem (by omega)
    rw [flatS, elI_cells h k (by omega), List.take_add_one, hi, Option.toList_some, cellsL_app, cellsL_one]
    show _ ++ itmCells (elI L k).1 = _
    rw [elI_at h hi]
theorem elI_all {L : List Itm} (h : ∀ x ∈ L, OkIt x) : flatS (fun i => cellsIt (elI L i)) L.length = cellsL L := by
  rw [elI_cells h L.length (Nat.le_refl _), List.take_length]
theorem wf2u : (Lit.int .u8 2).wf = true := by kernel_rfl
theorem wf3u : (Lit.int .u8 3).wf = true := by kernel_rfl
theorem itS_ok {id : Int} {u : Nat} (s : Slc) (h : 0 ≤ id ∧ id ≤ 1073741824) (hu : u < 512) : OkIt (itS id u s.1) :=
  ⟨wf2u, keyOk_zero 32, wf0, wf0, wf0, wf0, wf_i64 (by show _ ≤ id ∧ id ≤ _; omega), wf_i64 (by show _ ≤ (u : Int) ∧ (u : Int) ≤ _; omega), s.2.key, wf_i64 (by have := s.2.o; show _ ≤ s.1.o ∧ s.1.o ≤ _; omega), wf_i64 (by have := s.2.m; show _ ≤ s.1.m ∧ s.1.m ≤ _; omega)⟩
theorem itN_ok {id : Int} (h : 0 ≤ id ∧ id ≤ 1073741824) : OkIt (itN id) :=
  ⟨wf3u, keyOk_zero 32, wf0, wf0, wf0, wf0, wf_i64 (by show _ ≤ id ∧ id ≤ _; omega), wf0, keyOk_zero 32, wf0, wf0⟩
theorem rowM_ok {n : Nat} {F : Mp1} {id : Int} (hn : n ≤ 512) (h : 0 ≤ id ∧ id ≤ 1073741824) : ∀ x ∈ rowM n F id, OkIt x := by
  intro x hx
  obtain ⟨u, hu, e⟩ := List.mem_filterMap.1 hx
  have hu := List.mem_range.1 hu
  split at e
  · cases e
  · injection e with e
    subst e
    exact itS_ok (F u) h (by omega)
theorem rowM_next {n : Nat} {F : Mp1} {id : Int} : rowM (n + 1) F id = rowM n F id ++ if (F n).1.m = 0 then [] else [itS id n (F n).1] := by
  unfold rowM
  rw [List.range_succ, List.filterMap_append]
  by_cases h : (F n).1.m = 0 <;> simp [h]
def allS (st : MS) : List (Int × Mp1) := (0, st.now) :: st.snaps
def rowsM (n : Nat) (L : List (Int × Mp1)) : List Itm := L.flatMap fun x => rowM n x.2 x.1
theorem items_eq (st : MS) : itemsM st = rowsM st.n (allS st) ++ st.snaps.map fun x => itN x.1 := by
  unfold itemsM rowsM allS snapsI
  rw [List.flatMap_cons, List.append_assoc]
theorem rows_len (n : Nat) : ∀ L : List (Int × Mp1), (rowsM n L).length ≤ L.length * n
  | [] => Nat.zero_le _
  | x :: L => by
    have h1 := rowM_len n x.2 x.1
    have h2 := rows_len n L
    show (rowM n x.2 x.1 ++ rowsM n L).length ≤ _
    rw [List.length_append, List.length_cons, Nat.add_mul, Nat.one_mul]
    omega
theorem rows_next {n j : Nat} {L : List (Int × Mp1)} {x : Int × Mp1} (h : L[j]? = some x) : rowsM n (L.take (j + 1)) = rowsM n (L.take j) ++ rowM n x.2 x.1 := by
  unfold rowsM
  rw [List.take_add_one, h, Option.toList_some, List.flatMap_append]
  simp
theorem all_ids {st : MS} (h : Inv st) : ∀ x ∈ allS st, 0 ≤ x.1 ∧ x.1 ≤ 1073741824 := by
  intro x hx
  rcases List.mem_cons.1 hx with rfl | hx
  · exact ⟨by simp, by simp⟩
  · have := h.ids x hx; omega
theorem items_ok {st : MS} (h : Inv st) : ∀ x ∈ itemsM st, OkIt x := by
  intro x hx
  rw [items_eq] at hx
  rcases List.mem_append.1 hx with hx | hx
  · obtain ⟨y, hy, hx⟩ := List.mem_flatMap.1 hx
    exact rowM_ok h.n.2 (all_ids h y hy) x hx
  · obtain ⟨y, hy, rfl⟩ := List.mem_map.1 hx
    exact itN_ok (all_ids h y (List.mem_cons_of_mem _ hy))
theorem items_len {st : MS} (h : Inv st) : (itemsM st).length ≤ 5000 := by
  have h1 := rows_len st.n (allS st)
  have h2 := h.len
  have h3 : (allS st).length * st.n ≤ 9 * 512 := Nat.mul_le_mul (by simp [allS]; omega) h.n.2
  rw [items_eq, List.length_append, List.length_map]
  omega
/-- The map of each number. -/
theorem of_all {st : MS} (h : Inv st) {j : Nat} {x : Int × Mp1} (hj : (allS st)[j]? = some x) : ofM st x.1 = some x.2 := by
  rcases j with _ | j
  · injection hj with hj
    subst hj
    rfl
  · have hm : x ∈ st.snaps := List.mem_of_getElem? hj
    have h0 : x.1 ≠ 0 := by have := h.ids x hm; omega
    unfold ofM
    rw [if_neg h0]
    have hr := h.rise
    clear hj h h0
    generalize st.snaps = L at hm hr
    induction L with
    | nil => cases hm
    | cons y L ih =>
      obtain ⟨h1, h2⟩ := List.pairwise_cons.1 hr
      unfold findS
      rcases List.mem_cons.1 hm with rfl | hm
      · rw [if_pos rfl]
      · rw [if_neg (by have := h1 x hm; omega)]
        exact ih hm h2
def idA (st : MS) (i : Nat) : Int := (((allS st)[i]?).map fun x => x.1).getD 0
theorem idA_at {st : MS} {j : Nat} {x : Int × Mp1} (h : (allS st)[j]? = some x) : idA st j = x.1 := by unfold idA; rw [h]; rfl
theorem idA_row (st : MS) : (idsM st).map (Value.int .i64) = (List.range st.snaps.length).map fun i => Value.int .i64 (idA st (i + 1)) := by
  apply List.ext_getElem?
  intro i
  rw [List.getElem?_map, List.getElem?_map]
  by_cases h : i < st.snaps.length
  · rw [List.getElem?_range h, idsM, List.getElem?_map, List.getElem?_eq_getElem h]
    simp [idA, allS, List.getElem?_eq_getElem h]
  · rw [show (idsM st)[i]? = none from List.getElem?_eq_none (by simp [idsM]; omega), show (List.range st.snaps.length)[i]? = none from List.getElem?_eq_none (by simp; omega)]
    rfl
theorem idA_row0 (st : MS) : [Value.int .i64 0] ++ (idsM st).map (Value.int .i64) = (List.range (1 + st.snaps.length)).map fun i => Value.int .i64 (idA st i) := by
  rw [idA_row, Nat.add_comm, List.range_succ_eq_map, List.map_cons, List.map_map]
  rfl
theorem buildS (id : Int) (u : Nat) (s : Slc) (w : World) : BuildRun Tryz.prog 75 #[(0, .int .u8 2), (3, .int .i64 id), (4, .int .i64 u), (5, .agg (slcC s).toArray)] w (.agg (itmCells (itS id u s.1)).toArray) := by
  obtain ⟨⟨k, o, m⟩, hk, h2, h3⟩ := s
  obtain ⟨a0, a1, a2, a3, a4, a5, a6, a7, a8, a9, a10, a11, a12, a13, a14, a15, a16, a17, a18, a19, a20, a21, a22, a23, a24, a25, a26, a27, a28, a29, a30, a31, rfl⟩ := len32 k hk.len
  exact ⟨by kernel_rfl⟩
theorem buildN (id : Int) (w : World) : BuildRun Tryz.prog 75 #[(0, .int .u8 3), (3, .int .i64 id)] w (.agg (itmCells (itN id)).toArray) := ⟨by kernel_rfl⟩
theorem itm_len {x : Itm} (h : OkIt x) : (itmCells x).length = 73 := lenIt ⟨x, h⟩
theorem itm_one {x : Itm} (h : OkIt x) : ∀ v ∈ itmCells x, v.oneCell' = true := oneIt ⟨x, h⟩
/-- The block of one element is a row of one. -/
theorem own_one {w : World} {base b s : Nat} {t : TypeId} {cs : List Value} (h : w.heap[b]? = some (.cells cs.toArray t (0, 0))) (hs : cs.length = s) (hb : base ≤ b) : w.ownsRow base t s (.slice (some ⟨b, 0, none⟩) 1 1) 1 cs :=
  ⟨by rw [hs, Nat.one_mul], .inr ⟨b, 1, cs.toArray, rfl, hb, h, Nat.le_refl _, by simp [maxLen], by simp [hs], by rw [List.toList_toArray, Nat.one_mul, ← hs, List.take_length]⟩⟩
/-- Items collected. -/
structure Col (w5 w : World) (v : Value) (L : List Itm) : Prop where
  row : w.ownsRow w5.heap.size 75 73 v L.length (cellsL L)
  below : Below w5.heap.size w5 w
theorem Col.nil (w : World) : Col w w (.slice none 0 0) [] := ⟨World.ownsRow_nil _ _ _ _, Below.refl _ _⟩
theorem Col.go {w5 w w2 : World} {v : Value} {L : List Itm} (h : Col w5 w v L) (hb : Below w.heap.size w w2) : Col w5 w2 v L :=
  ⟨(Keeps.fresh (S := fun _ => False) hb).row h.row fun _ _ h => h, h.below.trans (hb.mono h.below.size)⟩
theorem Col.push {w5 w w3 : World} {v v' : Value} {L : List Itm} {x : Itm} {o : Obj} (h : Col w5 w v L) (ho : w3.ownsRow w5.heap.size 75 73 v' (L.length + 1) (cellsL L ++ itmCells x)) (hg : (w.alloc o).grownBy w3 v.ownBlock) : Col w5 w3 v' (L ++ [x]) := by
  refine ⟨?_, (h.below.alloc h.below.size o).grown hg (Nat.le_trans h.below.size (by simp)) fun k e => (h.row.lt k e).1⟩
  rw [cellsL_app, cellsL_one, List.length_append, List.length_singleton]
  exact ho
theorem info3 : (Tryz.prog.info? 3).map (fun i => (i.zero, i.size, i.bytes)) = some (some (.int .i64 0), 1, 8) := by kernel_rfl
theorem slice1 (b o n : Nat) (hn : n ≤ 512) (w : World) : (Instr.sliceAt 51 (.pointer (some ⟨b, o, none⟩)) none (some (.int .i64 n)) none).run Tryz.prog w = .ok (.slice (some ⟨b, o, none⟩) n 512) w := by
  have hl : Tryz.prog.arrayLen 51 = 512 := by kernel_rfl
  have he : Tryz.prog.elem 51 = 33 := by kernel_rfl
  rw [run_sliceAt_array_h w 51 ⟨b, o, none⟩ (by rw [hl, he]; exact Tryz.underlying51) .i64 (n : Int) (by omega) (by rw [hl]; omega), he, show (sizeOf 33).run Tryz.prog w = .ok 34 w by kernel_rfl]
  simp only [Result.andThen_ok, hl, slicedAt, Int.toNat_natCast, Nat.sub_zero, Nat.zero_mul]
  congr 1

set_option maxRecDepth 100000 in
set_option maxHeartbeats 4000000 in
theorem items_p {n0 : Nat} {w : World} {p mb : Nat} {st : MS} (h : Ms n0 w p mb st) : Calls Tryz.prog 13 #[.pointer (some ⟨p, 0, none⟩)] w fun e w' => ∃ v, e = .returned v ∧ w'.ownsRow w.heap.size 75 73 v (itemsM st).length (cellsL (itemsM st)) ∧ Below w.heap.size w w' := by
  have HS := Lib.hid h
  have HINV := Lib.hid h.inv
  obtain ⟨i0, hi, hz0, hz1, hz2⟩ := infoParts infoIt
  have HI := Lib.hid (And.intro hi (And.intro hz0 (And.intro hz1 hz2)))
  obtain ⟨i3, hi, hz0, hz1, hz2⟩ := infoParts info3
  have H3 := Lib.hid (And.intro hi (And.intro hz0 (And.intro hz1 hz2)))
  have HP1 : Hid (0 < 1) := Lib.hid (by decide)
  have HP73 : Hid (0 < 73) := Lib.hid (by decide)
  clear hi hz0 hz1 hz2 h
  obtain ⟨A, hx⟩ := HS.out
  have HX := Lib.hid hx
  clear hx
  go_enter Tryz.func13, Tryz.ntmps13
  go_wp2_with fail
  refine (known_y HX.out).mono ?_
  rintro e _ ⟨rfl, rfl⟩
  go_wp2_with fail
  refine (ids_p HS.out).mono ?_
  rintro e w4 ⟨v4, rfl, ho4, hb4⟩
  rw [idA_row] at ho4
  obtain ⟨A4, c4, rfl, ha4, hnc4, hcm4, hA4⟩ := row_arr ho4
  have HX4 := Lib.hid (HX.out.go hb4)
  have B4 := Lib.hid hb4
  have O4 := Lib.hid ho4
  have R4 := Lib.hid ha4
  have N4 := Lib.hid hA4
  obtain ⟨K, hK⟩ : ∃ K, K = st.snaps.length := ⟨_, rfl⟩
  have HK := Lib.hid hK
  have HK8 : Hid (K ≤ 8) := Lib.hid (by rw [hK]; exact HINV.out.len)
  rw [← hK] at O4 R4 N4 hnc4 ⊢
  clear ho4 hb4 ha4 hA4 hK hcm4 hnc4 HX HS
  go_upto_region 5 with fail
  have OW := Lib.hid (own_one (w := w4.alloc (.cells #[.int .i64 0] 3)) (base := w4.heap.size) (s := 1) (cs := [.int .i64 0]) (heap_new w4 _) rfl (Nat.le_refl _))
  have RA : Hid (Arr (w4.alloc (.cells #[.int .i64 0] 3)) w4.heap.size A4 K fun i => .int .i64 (idA st (i + 1))) := Lib.hid (R4.out.below ((Below.refl _ w4).alloc (Nat.le_refl _) _) (Nat.le_refl _))
  have HL4 : Hid (((List.range K).map fun i => Value.int .i64 (idA st (i + 1))).length = K * 1) := Lib.hid (by simp)
  have HO4 : Hid (∀ u ∈ (List.range K).map fun i => Value.int .i64 (idA st (i + 1)), u.oneCell' = true) := Lib.hid (by
    intro u hu
    obtain ⟨i, _, rfl⟩ := List.mem_map.1 hu
    rfl)
  have HM4 : Hid (1 + K ≤ maxLen) := Lib.hid (by have := HK8.out; unfold maxLen; omega)
  have HB4 : Hid ((1 + K) * 8 ≤ 140737488355328) := Lib.hid (by have := HK8.out; omega)
  have HS4 : Hid (w4.heap.size ≤ (w4.alloc (.cells #[.int .i64 0] 3)).heap.size) := Lib.hid (by simp)
  go_upto_region 6 with (refine wpList_append_any rfl (.tmp 16) (.tmp 17) 37 rfl w4.heap.size 3 i3 (.int .i64 0) 1 8 Tryz.underlying37 H3.out.1 H3.out.2.1 H3.out.2.2.1 H3.out.2.2.2 rfl HP1.out (.slice (some ⟨w4.heap.size, 0, none⟩) 1 1) 1 [.int .i64 0] rfl OW.out A4 K c4 ((List.range K).map fun i => .int .i64 (idA st (i + 1))) rfl N4.out HL4.out RA.out.cellsAt HO4.out HM4.out HB4.out HS4.out ?_; intro v5 w5 ho5 hg5; obtain ⟨A5, c5, rfl⟩ := row_shapeS ho5)
  have hb5 : Below w4.heap.size w4 w5 := ((Below.refl _ w4).alloc (Nat.le_refl _) _).grown hg5 (by simp) (fun k e => by have e2 : w4.heap.size = k := (by simpa [Value.ownBlock] using e); omega)
  have e5 : [Value.int .i64 0] ++ (List.range K).map (fun i => Value.int .i64 (idA st (i + 1))) = (List.range (1 + K)).map fun i => Value.int .i64 (idA st i) := by
    have h1 := idA_row0 st
    rw [idA_row] at h1
    rw [HK.out]
    exact h1
  rw [e5] at ho5
  obtain ⟨A6, c6, e6, ha5, -⟩ := row_arr ho5
  injection e6 with e6 e7 e8
  subst e6 e8
  have HX5 := Lib.hid (HX4.out.go hb5)
  have B5 := Lib.hid (B4.out.trans (hb5.mono B4.out.size))
  have R4 := Lib.hid (R4.out.below hb5 (Nat.le_refl _))
  have R5 := Lib.hid ha5
  have HC := Lib.hid (Col.nil w5)
  have S5 : Hid (w4.heap.size ≤ w5.heap.size) := Lib.hid hb5.size
  have hk1 : (1 : Int) + (K : Int) = ((1 + K : Nat) : Int) := by push_cast; rfl
  clear ho5 hg5 hb5 ha5 e5 e7 OW RA HL4 HO4 HX4 B4 O4
  obtain ⟨n, hn⟩ : ∃ n, n = st.n := ⟨_, rfl⟩
  have HN := Lib.hid hn
  have HN5 : Hid (n ≤ 512) := Lib.hid (by rw [hn]; exact HINV.out.n.2)
  clear hn
  obtain ⟨T, hT⟩ : ∃ T : Nat, T = 1 + K := ⟨_, rfl⟩
  have HT := Lib.hid hT
  try rw [hk1]
  rw [← hT] at R5 ⊢
  clear hT hk1
  have hT9 : T ≤ 9 := by have := HT.out; have := HK8.out; omega
  have hK8 : K ≤ 8 := HK8.out
  have hn5 : n ≤ 512 := HN5.out
  have HAL : Hid ((allS st).length = T) := Lib.hid (by rw [HT.out, HK.out]; simp [allS]; omega)
  go_upto_region 6 with fail
  go_loopw [3, 20] (fun v i wr => ∃ j : Nat, j ≤ T ∧ i = .int .i64 j ∧ Col w5 wr v (rowsM n ((allS st).take j))) (fun _ i _ => T - (Go.RowKit.intOf i).toNat)
  case atStart => exact ⟨0, Nat.zero_le _, rfl, by rw [List.take_zero]; exact HC.out⟩
  case round =>
    obtain ⟨j, hj, rfl, hc⟩ := hrel
    clear HC
    have HC := Lib.hid hc
    clear hc
    by_cases hlt : j < T
    · obtain ⟨g, off, rfl, hg, hrow⟩ := R5.out (by omega)
      have hcj : wr.cell? ⟨g, off + j, none⟩ = some (.int .i64 (idA st j)) := (World.cell?_of_block (HC.out.below.block g hg)).trans (hrow j hlt)
      obtain ⟨x, hxj⟩ : ∃ x, (allS st)[j]? = some x := ⟨_, List.getElem?_eq_getElem (by have := HAL.out; omega)⟩
      rw [idA_at hxj] at hcj
      have HOF := Lib.hid (of_all HINV.out hxj)
      have HNX := Lib.hid (rows_next (n := n) hxj)
      have HID := Lib.hid (all_ids HINV.out x (List.mem_of_getElem? hxj))
      obtain ⟨L0, hL0⟩ : ∃ L0, L0 = rowsM n ((allS st).take j) := ⟨_, rfl⟩
      have HL0 : Hid (L0.length ≤ 4608) := Lib.hid (by
        have h1 := rows_len n ((allS st).take j)
        have h2 : ((allS st).take j).length * n ≤ 9 * 512 := Nat.mul_le_mul (by have := HAL.out; have := HT.out; have := HK8.out; rw [List.length_take]; omega) HN5.out
        rw [hL0]; omega)
      rw [← hL0] at HC HNX
      obtain ⟨id, F⟩ := x
      dsimp only at hcj HOF HNX HID
      obtain ⟨b, o, hp, hb, hr⟩ := ofP_some HX5.out HOF.out
      have HP := Lib.hid hp
      have HR : Hid (∀ W, Below w5.heap.size w5 W → ∀ u, u < 512 → W.rangeAt b (o + u * 34) (slcC (F u))) := Lib.hid fun W h u hu i v hi => (World.cell?_of_block (h.block b hb)).trans (hr u hu i v hi)
      have HWF := Lib.hid (wf_i64 (x := id) (by have := HID.out; omega))
      have i1 : (0 : Int) ≤ j := by omega
      have i2 : (j : Int) < T := by omega
      have i3 : j < T := hlt
      clear hxj hL0 hp hb hr hg hrow
      go_upto_region 8 with fail
      have HXr := Lib.hid (HX5.out.go (w2 := wr.drew) (HC.out.below.trans (below_drewN (Below.refl _ _) 1)))
      have HCr : Hid (Col w5 wr.drew _ L0) := Lib.hid (HC.out.go (below_drewN (Below.refl _ _) 1))
      have hcn : Hid (wr.drew.cell? ⟨p, 0, none⟩ = some (.int .i64 n)) := Lib.hid (by rw [HN.out]; exact HXr.out.n_cell)
      refine wp_region_held_drew (S := fun w' : World => w'.cell? ⟨p, 0, none⟩ = some (.int .i64 n)) follows hcn.out (fun hHeld => ?_)
      clear hcj HC
      refine wpAnyH_take (i := 0) (v := ?_) (by simp only [List.getElem?_toArray, List.getElem?_cons_zero]; rfl) (by kernel_rfl) (by kernel_rfl) (by kernel_rfl) (by intro _ _ _ h; exact h) (Or.inl ⟨by rfl, ?_⟩) hHeld ?_
      rotate_left
      · (intro w hSw; (try dsimp only at hSw); go_simp; try with_reducible rfl)
      try simp only [Act.put, List.setIfInBounds_toArray, List.set_cons_zero, List.set_cons_succ]
      refine wpAnyH_take (i := 1) (v := ?_) (by simp only [List.getElem?_toArray, List.getElem?_cons_zero, List.getElem?_cons_succ]; rfl) (by kernel_rfl) (by kernel_rfl) (by kernel_rfl) (by intro _ _ _ h; exact h) (Or.inl ⟨by rfl, ?_⟩) hHeld ?_
      rotate_left
      · (intro w hSw; (try dsimp only at hSw); go_simp; try with_reducible rfl)
      try simp only [Act.put, List.setIfInBounds_toArray, List.set_cons_zero, List.set_cons_succ]
      refine wpAnyH_take (i := 4) (v := ?_) (by simp only [List.getElem?_toArray, List.getElem?_cons_zero, List.getElem?_cons_succ]; rfl) (by kernel_rfl) (by kernel_rfl) (by kernel_rfl) (by intro _ _ _ h; exact h) (Or.inl ⟨by rfl, ?_⟩) hHeld ?_
      rotate_left
      · (intro w hSw; (try dsimp only at hSw); go_simp; try with_reducible rfl)
      try simp only [Act.put, List.setIfInBounds_toArray, List.set_cons_zero, List.set_cons_succ]
      refine wpAnyH_take (i := 5) (v := ?_) (by simp only [List.getElem?_toArray, List.getElem?_cons_zero, List.getElem?_cons_succ]; rfl) (by kernel_rfl) (by kernel_rfl) (by kernel_rfl) (by intro _ _ _ h; exact h) (Or.inl ⟨by rfl, ?_⟩) hHeld ?_
      rotate_left
      · (intro w hSw; (try dsimp only at hSw); go_simp; try with_reducible rfl)
      try simp only [Act.put, List.setIfInBounds_toArray, List.set_cons_zero, List.set_cons_succ]
      refine wpAnyH_take (i := 6) (v := ?_) (by simp only [List.getElem?_toArray, List.getElem?_cons_zero, List.getElem?_cons_succ]; rfl) (by kernel_rfl) (by kernel_rfl) (by kernel_rfl) (by intro _ _ _ h; exact h) (Or.inl ⟨by rfl, ?_⟩) hHeld ?_
      rotate_left
      · (intro w hSw; (try dsimp only at hSw); go_simp; try with_reducible rfl)
      try simp only [Act.put, List.setIfInBounds_toArray, List.set_cons_zero, List.set_cons_succ]
      refine wpAnyH_take (i := 7) (v := ?_) (by simp only [List.getElem?_toArray, List.getElem?_cons_zero, List.getElem?_cons_succ]; rfl) (by kernel_rfl) (by kernel_rfl) (by kernel_rfl) (by intro _ _ _ h; exact h) (Or.inl ⟨by rfl, ?_⟩) hHeld ?_
      rotate_left
      · (intro w hSw; (try dsimp only at hSw); go_simp; try with_reducible rfl)
      try simp only [Act.put, List.setIfInBounds_toArray, List.set_cons_zero, List.set_cons_succ]
      refine wpAnyH_take (i := 10) (v := ?_) (by simp only [List.getElem?_toArray, List.getElem?_cons_zero, List.getElem?_cons_succ]; rfl) (by kernel_rfl) (by kernel_rfl) (by kernel_rfl) (by intro _ _ _ h; exact h) (Or.inl ⟨by rfl, ?_⟩) hHeld ?_
      rotate_left
      · (intro w hSw; (try dsimp only at hSw); go_simp; try with_reducible rfl)
      try simp only [Act.put, List.setIfInBounds_toArray, List.set_cons_zero, List.set_cons_succ]
      refine wpAnyH_ready (rs := [2]) (by kernel_rfl) (by simp) ?_
      refine AllReadyH.cons (by simp only [List.getElem?_toArray, List.getElem?_cons_zero, List.getElem?_cons_succ]; rfl) (fun K hK => ?_) AllReadyH.nil
      rw [if_pos (by rfl)]
      go_simp
      refine (of_p HXr.out id HWF.out).mono ?_
      rw [HP.out]
      rintro e _ ⟨rfl, rfl⟩
      refine hK.out _ _ hcn.out (fun hHeld => ?_)
      clear hK K
      try simp only [Act.put, List.setIfInBounds_toArray, List.set_cons_zero, List.set_cons_succ]
      refine wpAnyH_take (i := 3) (v := ?_) (by simp only [List.getElem?_toArray, List.getElem?_cons_zero, List.getElem?_cons_succ]; rfl) (by kernel_rfl) (by kernel_rfl) (by kernel_rfl) (by intro _ _ _ h; exact h) (Or.inl ⟨by rfl, ?_⟩) hHeld ?_
      rotate_left
      · (intro w hSw; (try dsimp only at hSw); go_simp; try with_reducible rfl)
      try simp only [Act.put, List.setIfInBounds_toArray, List.set_cons_zero, List.set_cons_succ]
      refine wpAnyH_take (i := 8) (v := _) (by simp only [List.getElem?_toArray, List.getElem?_cons_zero, List.getElem?_cons_succ]; rfl) (by kernel_rfl) (by kernel_rfl) (by kernel_rfl) (by intro _ _ _ h; exact h) (yields_slice (by rfl) 51 (.tmp 27) none (some (.tmp 31)) rfl (.pointer (some ⟨b, o, none⟩)) rfl none (some (.int .i64 n)) rfl rfl (.slice (some ⟨b, o, none⟩) n 512) (fun w => slice1 b o n HN5.out w)) hHeld ?_
      try simp only [Act.put, List.setIfInBounds_toArray, List.set_cons_zero, List.set_cons_succ]
      refine wpAnyH_take (i := 9) (v := ?_) (by simp only [List.getElem?_toArray, List.getElem?_cons_zero, List.getElem?_cons_succ]; rfl) (by kernel_rfl) (by kernel_rfl) (by kernel_rfl) (by intro _ _ _ h; exact h) (Or.inl ⟨by rfl, ?_⟩) hHeld ?_
      rotate_left
      · (intro w hSw; (try dsimp only at hSw); go_simp; try with_reducible rfl)
      try simp only [Act.put, List.setIfInBounds_toArray, List.set_cons_zero, List.set_cons_succ]
      refine wpAnyH_done (by kernel_rfl) ?_ _
      clear hHeld
      go_upto_region 9 with fail
      go_loopw [3, 34] (fun v i wr => ∃ u : Nat, u ≤ n ∧ i = .int .i64 u ∧ Col w5 wr v (L0 ++ rowM u F id)) (fun _ i _ => n - (Go.RowKit.intOf i).toNat)
      case atStart => exact ⟨0, Nat.zero_le _, rfl, by simpa [rowM] using HCr.out⟩
      case round =>
        obtain ⟨u, hu, rfl, hc⟩ := hrel
        clear HCr
        have HC := Lib.hid hc
        clear hc
        by_cases hltu : u < n
        · have hu5 : u < 512 := by have := HN5.out; omega
          have i4 : (0 : Int) ≤ u := by omega
          have i5 : (u : Int) < n := by omega
          have HRU := Lib.hid (HR.out wr HC.out.below u hu5)
          have HNU := Lib.hid (rowM_next (n := u) (F := F) (id := id))
          have HOK := Lib.hid (itS_ok (F u) HID.out hu5)
          have HBS : Hid (∀ W, BuildRun Tryz.prog 75 #[(0, .int .u8 2), (3, .int .i64 id), (4, .int .i64 u), (5, .agg (slcC (F u)).toArray)] W (.agg (itmCells (itS id u (F u).1)).toArray)) := Lib.hid fun W => buildS id u (F u) W
          have HCL := Lib.hid (itm_len HOK.out)
          have HCO := Lib.hid (itm_one HOK.out)
          have HLB : Hid ((L0 ++ rowM u F id).length ≤ 6000) := Lib.hid (by have h1 := rowM_len u F id; have h2 := HL0.out; rw [List.length_append]; omega)
          have HSL := Lib.hid (sizeSl (F u))
          have HLS := Lib.hid (lenC (F u))
          have HOS := Lib.hid (oneC (F u))
          have H33 := Lib.hid (slC_at (F u).2.key.len (F u).1.o (F u).1.m).2
          obtain ⟨it, hit⟩ : ∃ it, it = itS id u (F u).1 := ⟨_, rfl⟩
          rw [← hit] at HNU HBS HCL HCO
          obtain ⟨ics, hics⟩ : ∃ ics, ics = itmCells it := ⟨_, rfl⟩
          rw [← hics] at HBS HCL HCO
          have HIC := Lib.hid hics
          clear hics
          obtain ⟨mk, hmk⟩ : ∃ mk, mk = (F u).1.m := ⟨_, rfl⟩
          have H33 : Hid ((slcC (F u))[33]? = some (.int .i64 mk)) := Lib.hid (by rw [hmk]; exact H33.out)
          rw [← hmk] at HNU
          obtain ⟨cs, hcs⟩ : ∃ cs, cs = slcC (F u) := ⟨_, rfl⟩
          rw [← hcs] at HRU HBS HSL HLS HOS H33
          obtain ⟨L1, hL1⟩ : ∃ L1, L1 = L0 ++ rowM u F id := ⟨_, rfl⟩
          rw [← hL1] at HC HLB
          have HL1 := Lib.hid hL1
          clear hit hmk hcs hL1 HOK
          have HFIT : Hid (0 + cs.length ≤ zS.length) := Lib.hid (by rw [HLS.out, zS_len]; exact Nat.le_refl _)
          obtain ⟨q, hq⟩ : ∃ q, q = wr.heap.size := ⟨_, rfl⟩
          have HQ := Lib.hid hq
          go_upto_region 11 with (first | (refine wpList_load_midG rfl 33 (.tmp 37) rfl b (o + u * 34) rfl cs _ HRU.out Tryz.underlying33 rfl HSL.out ?_) | (refine wpList_laid rfl 33 rfl zS (zeroVS _) ?_) | (refine wpList_store_segK rfl 33 (.tmp 8) (.tmp 38) rfl wr.heap.size 0 rfl cs rfl zS 33 (heap_new _ _) HSL.out HFIT.out HOS.out rfl ?_; intro w7 h7 k7 s7))
          rw [splice_whole _ _ (by rw [HLS.out, zS_len])] at h7
          have hb7 : Below wr.heap.size wr w7 := ((Below.refl _ _).alloc (Nat.le_refl _) _).trans (k7.below (fun k hk => by rw [hk]; exact Nat.le_refl _) (by simp))
          rw [← hq] at h7 ⊢
          have HC7 := Lib.hid (HC.out.go hb7)
          have R7 := Lib.hid (range_of h7)
          have c33 : w7.cell? ⟨q, 33, none⟩ = some (.int .i64 mk) := by have := R7.out 33 _ H33.out; rwa [Nat.zero_add] at this
          have HC5 : Hid (w5.heap.size ≤ w7.heap.size) := Lib.hid HC7.out.below.size
          clear h7 k7 s7 hb7 hq HC HRU H33
          by_cases h0 : mk = 0
          · subst h0
            go_wp2_with fail
            exact ⟨⟨u + 1, by omega, by push_cast; rfl, by rw [HNU.out, if_pos rfl, List.append_nil, ← HL1.out]; exact HC7.out⟩, by simp [Go.RowKit.intOf]; omega⟩
          · have hb0 : (mk == 0) = false := by simpa using h0
            have HN0 : Hid ((if mk = 0 then ([] : List Itm) else [it]) = [it]) := Lib.hid (if_neg h0)
            obtain ⟨vA, vc, rfl⟩ := row_shapeS HC7.out.row
            have HCX := Lib.hid HC7.out
            have HSI : Hid (i0.size = ics.length) := Lib.hid (by rw [HCL.out]; exact HI.out.2.2.1)
            have HSP : Hid (0 < ics.length) := Lib.hid (by rw [HCL.out]; omega)
            have HSQ : Hid (ics.length ≤ 2 ^ 24) := Lib.hid (by rw [HCL.out]; omega)
            have HNL : Hid (ics.length = 1 * 73) := Lib.hid (by rw [HCL.out])
            have HNW : Hid (∀ ad, (some ⟨w7.heap.size, 0, none⟩ : Option Addr) = some ad → ∀ j u, ics[j]? = some u → (w7.alloc (.cells ics.toArray 75)).cell? (ad.add j) = some u) := Lib.hid fun ad e j u hj => by injection e with e; subst e; exact cells_new _ _ _ j u hj
            have HM : Hid (L1.length + 1 ≤ maxLen) := Lib.hid (by have := HLB.out; unfold maxLen; omega)
            have HBY : Hid ((L1.length + 1) * 136 ≤ 140737488355328) := Lib.hid (by have := HLB.out; omega)
            have HBA : Hid (w5.heap.size ≤ (w7.alloc (.cells ics.toArray 75)).heap.size) := Lib.hid (by have := HC5.out; simp; omega)
            have HNN : Hid ((some ⟨w7.heap.size, 0, none⟩ : Option Addr) = none → 1 = 0 ∧ 1 = 0) := Lib.hid fun h => by cases h
            have HOW : Hid ((w7.alloc (.cells ics.toArray 75)).ownsRow w5.heap.size 75 73 (.slice vA L1.length vc) L1.length (cellsL L1)) := Lib.hid (HCX.out.row.alloc _)
            go_upto_region 12 with fail
            go_upto_region 13 with (first | (refine wpList_load_midG rfl 33 (.tmp 8) rfl q 0 rfl cs _ R7.out Tryz.underlying33 rfl HSL.out ?_) | (refine wpList_buildG rfl 75 [(0, .const (.int .u8 2)), (3, .tmp 43), (4, .tmp 44), (5, .tmp 45)] rfl [(0, .int .u8 2), (3, .int .i64 id), (4, .int .i64 u), (5, .agg cs.toArray)] rfl _ (HBS.out _) ?_) | (refine wpList_slice1 rfl 40 75 (.tmp 46) rfl ics rfl i0 (.agg zIt.toArray) Tryz.underlying40 HI.out.1 HI.out.2.1 HSI.out HSP.out HSQ.out ?_) | (refine wpList_append_any rfl (.tmp 42) (.tmp 47) 40 rfl w5.heap.size 75 i0 (.agg zIt.toArray) 73 136 Tryz.underlying40 HI.out.1 HI.out.2.1 HI.out.2.2.1 HI.out.2.2.2 rfl HP73.out (.slice vA L1.length vc) L1.length (cellsL L1) rfl HOW.out (some ⟨w7.heap.size, 0, none⟩) 1 1 ics rfl HNN.out HNL.out HNW.out HCO.out HM.out HBY.out HBA.out ?_; intro v8 w8 ho8 hg8))
            rw [HIC.out] at ho8
            have HC8 := Lib.hid (HC7.out.push ho8 hg8)
            clear ho8 hg8
            go_wp2_with fail
            exact ⟨⟨u + 1, by omega, by push_cast; rfl, by rw [HNU.out, HN0.out, ← List.append_assoc, ← HL1.out]; exact HC8.out⟩, by simp [Go.RowKit.intOf]; omega⟩
        · obtain rfl : u = n := by omega
          go_wp2_with fail
          exact ⟨⟨j + 1, by omega, by push_cast; rfl, by rw [HNX.out]; exact HC.out⟩, by simp [Go.RowKit.intOf]; omega⟩
    · obtain rfl : j = T := by omega
      obtain ⟨L0, hL0⟩ : ∃ L0, L0 = rowsM n (allS st) := ⟨_, rfl⟩
      have HL0 : Hid (L0.length ≤ 4608) := Lib.hid (by
        have h1 := rows_len n (allS st)
        have h2 : (allS st).length * n ≤ 9 * 512 := Nat.mul_le_mul (by have := HAL.out; have := HT.out; have := HK8.out; omega) HN5.out
        rw [hL0]; omega)
      have HC : Hid (Col w5 wr _ L0) := Lib.hid (by have h := HC.out; rwa [← HAL.out, List.take_length, ← hL0] at h)
      have HEQ : Hid (itemsM st = L0 ++ st.snaps.map fun x => itN x.1) := Lib.hid (by rw [items_eq, ← HN.out, ← hL0])
      clear hL0
      go_upto_region 16 with fail
      go_loopw [3, 53] (fun v i wr => ∃ j : Nat, j ≤ K ∧ i = .int .i64 j ∧ Col w5 wr v (L0 ++ (st.snaps.take j).map fun x => itN x.1)) (fun _ i _ => K - (Go.RowKit.intOf i).toNat)
      case atStart => exact ⟨0, Nat.zero_le _, rfl, by simpa using HC.out⟩
      case round =>
        obtain ⟨j, hj, rfl, hc⟩ := hrel
        clear HC
        have HC := Lib.hid hc
        clear hc
        by_cases hlt : j < K
        · obtain ⟨g, off, rfl, hg, hrow⟩ := R4.out (by omega)
          have hg5 : g < w5.heap.size := by have := S5.out; omega
          have hcj : wr.cell? ⟨g, off + j, none⟩ = some (.int .i64 (idA st (j + 1))) := (World.cell?_of_block (HC.out.below.block g hg5)).trans (hrow j hlt)
          obtain ⟨x, hxj⟩ : ∃ x, (allS st)[j + 1]? = some x := ⟨_, List.getElem?_eq_getElem (by have := HAL.out; have := HT.out; omega)⟩
          rw [idA_at hxj] at hcj
          have HID := Lib.hid (all_ids HINV.out x (List.mem_of_getElem? hxj))
          have HNX : Hid ((st.snaps.take (j + 1)).map (fun x => itN x.1) = (st.snaps.take j).map (fun x => itN x.1) ++ [itN x.1]) := Lib.hid (by
            have h1 : st.snaps[j]? = some x := hxj
            rw [List.take_add_one, h1, Option.toList_some, List.map_append]
            rfl)
          obtain ⟨id, F⟩ := x
          dsimp only at hcj HNX HID
          have HOK := Lib.hid (itN_ok HID.out)
          have HBS : Hid (∀ W, BuildRun Tryz.prog 75 #[(0, .int .u8 3), (3, .int .i64 id)] W (.agg (itmCells (itN id)).toArray)) := Lib.hid fun W => buildN id W
          have HCL := Lib.hid (itm_len HOK.out)
          have HCO := Lib.hid (itm_one HOK.out)
          obtain ⟨L1, hL1⟩ : ∃ L1, L1 = L0 ++ (st.snaps.take j).map fun x => itN x.1 := ⟨_, rfl⟩
          have HLB : Hid (L1.length ≤ 6000) := Lib.hid (by have h2 := HL0.out; have h3 := HK8.out; rw [hL1, List.length_append, List.length_map, List.length_take]; omega)
          rw [← hL1] at HC
          have HL1 := Lib.hid hL1
          obtain ⟨it, hit⟩ : ∃ it, it = itN id := ⟨_, rfl⟩
          rw [← hit] at HNX HBS HCL HCO
          obtain ⟨ics, hics⟩ : ∃ ics, ics = itmCells it := ⟨_, rfl⟩
          rw [← hics] at HBS HCL HCO
          have HIC := Lib.hid hics
          clear hics
          have i1 : (0 : Int) ≤ j := by omega
          have i2 : (j : Int) < K := by omega
          clear hxj hg hrow hL1 hit HOK hg5
          have HC5 : Hid (w5.heap.size ≤ wr.heap.size) := Lib.hid HC.out.below.size
          obtain ⟨vA, vc, rfl⟩ := row_shapeS HC.out.row
          have HCX := Lib.hid HC.out
          have HSI : Hid (i0.size = ics.length) := Lib.hid (by rw [HCL.out]; exact HI.out.2.2.1)
          have HSP : Hid (0 < ics.length) := Lib.hid (by rw [HCL.out]; omega)
          have HSQ : Hid (ics.length ≤ 2 ^ 24) := Lib.hid (by rw [HCL.out]; omega)
          have HNL : Hid (ics.length = 1 * 73) := Lib.hid (by rw [HCL.out])
          have HNW : Hid (∀ ad, (some ⟨wr.heap.size, 0, none⟩ : Option Addr) = some ad → ∀ j u, ics[j]? = some u → (wr.alloc (.cells ics.toArray 75)).cell? (ad.add j) = some u) := Lib.hid fun ad e j u hj => by injection e with e; subst e; exact cells_new _ _ _ j u hj
          have HM : Hid (L1.length + 1 ≤ maxLen) := Lib.hid (by have := HLB.out; unfold maxLen; omega)
          have HBY : Hid ((L1.length + 1) * 136 ≤ 140737488355328) := Lib.hid (by have := HLB.out; omega)
          have HBA : Hid (w5.heap.size ≤ (wr.alloc (.cells ics.toArray 75)).heap.size) := Lib.hid (by have := HC5.out; simp; omega)
          have HNN : Hid ((some ⟨wr.heap.size, 0, none⟩ : Option Addr) = none → 1 = 0 ∧ 1 = 0) := Lib.hid fun h => by cases h
          have HOW : Hid ((wr.alloc (.cells ics.toArray 75)).ownsRow w5.heap.size 75 73 (.slice vA L1.length vc) L1.length (cellsL L1)) := Lib.hid (HCX.out.row.alloc _)
          go_upto_region 18 with fail
          go_upto_region 19 with (first | (refine wpList_buildG rfl 75 [(0, .const (.int .u8 3)), (3, .tmp 58)] rfl [(0, .int .u8 3), (3, .int .i64 id)] rfl _ (HBS.out _) ?_) | (refine wpList_slice1 rfl 40 75 (.tmp 59) rfl ics rfl i0 (.agg zIt.toArray) Tryz.underlying40 HI.out.1 HI.out.2.1 HSI.out HSP.out HSQ.out ?_) | (refine wpList_append_any rfl (.tmp 57) (.tmp 60) 40 rfl w5.heap.size 75 i0 (.agg zIt.toArray) 73 136 Tryz.underlying40 HI.out.1 HI.out.2.1 HI.out.2.2.1 HI.out.2.2.2 rfl HP73.out (.slice vA L1.length vc) L1.length (cellsL L1) rfl HOW.out (some ⟨wr.heap.size, 0, none⟩) 1 1 ics rfl HNN.out HNL.out HNW.out HCO.out HM.out HBY.out HBA.out ?_; intro v8 w8 ho8 hg8))
          rw [HIC.out] at ho8
          have HC8 := Lib.hid (HC.out.push ho8 hg8)
          clear ho8 hg8
          go_wp2_with fail
          exact ⟨⟨j + 1, by omega, by push_cast; rfl, by rw [HNX.out, ← List.append_assoc, ← HL1.out]; exact HC8.out⟩, by simp [Go.RowKit.intOf]; omega⟩
        · obtain rfl : j = K := by omega
          have HC : Hid (Col w5 wr _ (itemsM st)) := Lib.hid (by have h := HC.out; rwa [HK.out, List.take_length, ← HEQ.out] at h)
          go_wp2_with fail
          go_ret
          exact ⟨_, rfl, row_more HC.out.row B5.out.size, B5.out.trans (HC.out.below.mono B5.out.size)⟩
theorem items_nil (w : World) : Calls Tryz.prog 13 #[.pointer none] w fun e w' => e = .returned (.slice none 0 0) ∧ w = w' := by
  go_enter Tryz.func13, Tryz.ntmps13
  go_wp2_with fail
  refine (known_nil w).mono ?_
  rintro e _ ⟨rfl, rfl⟩
  go_wp2_with fail
  go_ret
  exact ⟨rfl, rfl⟩
end Go.Proofs.YtodhaaaodmcplaaGreat
