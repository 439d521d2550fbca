/- Layer 23 (maps): the document's Ids and Items. Printed by genQg.py. -/
import Derived.Test.YtodhaaaodmcplaaGreatQf
set_option linter.all false
namespace Go.Proofs.YtodhaaaodmcplaaGreat
open Go.RowKit Go.Maps Go.WideMaps
/-- Numbers collected. -/
structure ColI (w5 w : World) (v : Value) (L : List Int) : Prop where
  row : w.ownsRow w5.heap.size 3 1 v L.length (L.map (Value.int .i64))
  below : Below w5.heap.size w5 w
theorem ColI.push {w5 w w3 : World} {v v' : Value} {L : List Int} {x : Int} {o : Obj} (h : ColI w5 w v L) (ho : w3.ownsRow w5.heap.size 3 1 v' (L.length + 1) (L.map (Value.int .i64) ++ [.int .i64 x])) (hg : (w.alloc o).grownBy w3 v.ownBlock) : ColI w5 w3 v' (L ++ [x]) := by
  refine ⟨?_, (h.below.alloc h.below.size o).grown hg (Nat.le_trans h.below.size (by simp)) fun k e => (h.row.lt k e).1⟩
  rw [List.length_append, List.length_singleton, List.map_append]
  exact ho
theorem ids_next {st : MS} {j : Nat} (h : j < st.snaps.length) : (idsM st).take (j + 1) = (idsM st).take j ++ [idA st (j + 1)] := by
  have e : (idsM st)[j]? = some (idA st (j + 1)) := by
    have := all_at (st := st) (i := j + 1) (by rw [all_len]; omega)
    have h2 : st.snaps[j]? = some (idA st (j + 1), mpA st (j + 1)) := this
    unfold idsM
    rw [List.getElem?_map, h2]
    rfl
  rw [List.take_add_one, e]
  rfl
set_option maxRecDepth 100000 in
set_option maxHeartbeats 4000000 in
theorem rids_p {n0 : Nat} {w : World} {p : Nat} {st : MS} (h : Rs n0 w p st) : Calls Tryz.prog 11 #[.pointer (some ⟨p, 0, none⟩)] w fun e w' => ∃ v, e = .returned v ∧ w'.ownsRow w.heap.size 3 1 v st.snaps.length ((idsM st).map (Value.int .i64)) ∧ Below w.heap.size w w' := by
  obtain ⟨i0, hi, hz0, hz1, hz2⟩ := infoParts info3
  have HI := Lib.hid (And.intro hi (And.intro hz0 (And.intro hz1 hz2)))
  have HP1 : Hid (0 < 1) := Lib.hid (by decide)
  obtain ⟨g, cap, V, hx⟩ := h
  have H := Lib.hid hx
  have hl8 := hx.inv.len
  have hlen := all_len st
  obtain ⟨T, hT⟩ : ∃ T, T = (allS st).length := ⟨_, rfl⟩
  have HTL := Lib.hid hT
  rw [← hT] at hlen
  have HLN := Lib.hid hlen
  have hT9 : T ≤ 9 := by omega
  have hT1 : 1 ≤ T := by omega
  have HC : Hid (ColI w w (.slice none 0 0) []) := Lib.hid ⟨World.ownsRow_nil _ _ _ _, Below.refl _ _⟩
  have HP0 : Hid (∀ W, Below w.heap.size w W → W.cell? ⟨p, 0, none⟩ = some (.slice (some ⟨g, 0, none⟩) T cap)) := Lib.hid fun W hb => by rw [hT]; exact (hx.go hb).at0
  have HG0 : Hid (∀ W, Below w.heap.size w W → ∀ j, j < T → W.cell? ⟨g, j * 2, none⟩ = some (.int .i64 (idA st j))) := Lib.hid fun W hb j hj => (hx.go hb).id_cell (by omega)
  clear hi hz0 hz1 hz2 hx hl8 hlen hT
  go_enter Tryz.func11, Tryz.ntmps11
  go_upto_region 3 with fail
  go_loopw [3, 4] (fun v i wr => ∃ j : Nat, 1 ≤ j ∧ j ≤ T ∧ i = .int .i64 j ∧ ColI w wr v ((idsM st).take (j - 1))) (fun _ i _ => T - (Go.RowKit.intOf i).toNat)
  case atStart => exact ⟨1, Nat.le_refl _, hT1, rfl, HC.out⟩
  case round =>
    obtain ⟨j, hj1, hj, rfl, hc⟩ := hrel
    clear HC
    have HC := Lib.hid hc
    clear hc
    have c0 := HP0.out wr HC.out.below
    by_cases hlt : j < T
    · have cj := HG0.out wr HC.out.below j hlt
      obtain ⟨x, hx⟩ : ∃ x, x = idA st j := ⟨_, rfl⟩
      rw [← hx] at cj
      have HNX : Hid ((idsM st).take (j + 1 - 1) = (idsM st).take (j - 1) ++ [x]) := Lib.hid (by
        have h1 := ids_next (st := st) (j := j - 1) (by have := HLN.out; omega)
        rw [show j - 1 + 1 = j by omega] at h1
        rw [Nat.add_sub_cancel, h1, hx])
      have i1 : (0 : Int) ≤ j := by omega
      have i2 : (j : Int) < T := by omega
      obtain ⟨L1, hL1⟩ : ∃ L1, L1 = (idsM st).take (j - 1) := ⟨_, rfl⟩
      have HLB : Hid (L1.length ≤ 9) := Lib.hid (by rw [hL1, List.length_take]; omega)
      rw [← hL1] at HC HNX
      clear hx hL1
      obtain ⟨vA, vc, rfl⟩ := row_shapeS HC.out.row
      have hb4 : Below wr.heap.size wr (wr.alloc (.cells #[.int .i64 x] 3)) := (Below.refl _ _).alloc (Nat.le_refl _) _
      have HOW : Hid ((wr.alloc (.cells #[.int .i64 x] 3)).ownsRow w.heap.size 3 1 (.slice vA L1.length vc) L1.length (L1.map (Value.int .i64))) := Lib.hid (HC.out.row.alloc _)
      have HNW : Hid (∀ ad, (some ⟨wr.heap.size, 0, none⟩ : Option Addr) = some ad → ∀ (k : Nat) (u : Value), [Value.int .i64 x][k]? = some u → (wr.alloc (.cells #[.int .i64 x] 3)).cell? (ad.add k) = some u) := Lib.hid fun ad e k u hk => by injection e with e; subst e; exact cells_new _ [.int .i64 x] _ k u hk
      have HNN : Hid ((some ⟨wr.heap.size, 0, none⟩ : Option Addr) = none → 1 = 0 ∧ 1 = 0) := Lib.hid fun h => by cases h
      have HNL : Hid ([Value.int .i64 x].length = 1 * 1) := Lib.hid rfl
      have HCO : Hid (∀ u ∈ [Value.int .i64 x], u.oneCell' = true) := Lib.hid (by intro u hu; simp at hu; subst hu; rfl)
      have M1 : Hid (L1.length + 1 ≤ maxLen) := Lib.hid (by have := HLB.out; unfold maxLen; omega)
      have M2 : Hid ((L1.length + 1) * 8 ≤ 140737488355328) := Lib.hid (by have := HLB.out; omega)
      have M3 : Hid (w.heap.size ≤ (wr.alloc (.cells #[.int .i64 x] 3)).heap.size) := Lib.hid (by have := HC.out.below.size; simp; omega)
      clear hb4
      go_upto_region 5 with fail
      go_upto_region 4 with (refine wpList_append_any rfl (.tmp 14) (.tmp 23) 37 rfl w.heap.size 3 i0 (.int .i64 0) 1 8 Tryz.underlying37 HI.out.1 HI.out.2.1 HI.out.2.2.1 HI.out.2.2.2 rfl HP1.out (.slice vA L1.length vc) L1.length (L1.map (Value.int .i64)) rfl HOW.out (some ⟨wr.heap.size, 0, none⟩) 1 1 [.int .i64 x] rfl HNN.out HNL.out HNW.out HCO.out M1.out M2.out M3.out ?_; intro v8 w8 ho8 hg8)
      have HC8 := Lib.hid (HC.out.push ho8 hg8)
      clear ho8 hg8 c0 cj
      go_wp2_with fail
      exact ⟨⟨j + 1, by omega, by omega, by push_cast; rfl, by rw [HNX.out]; exact HC8.out⟩, by simp [Go.RowKit.intOf]; omega⟩
    · obtain rfl : j = T := by omega
      have HC : Hid (ColI w wr _ (idsM st)) := Lib.hid (by
        have h := HC.out
        rwa [show j - 1 = (idsM st).length by have := HLN.out; simp [idsM]; omega, List.take_length] at h)
      go_wp2_with fail
      go_ret
      have h := HC.out.row
      rw [show (idsM st).length = st.snaps.length by simp [idsM]] at h
      exact ⟨_, rfl, h, HC.out.below⟩
set_option maxRecDepth 100000 in
set_option maxHeartbeats 8000000 in
theorem ritems_p {n0 : Nat} {w : World} {p : Nat} {st : MS} (h : Rs n0 w p st) : Calls Tryz.prog 14 #[.pointer (some ⟨p, 0, none⟩)] w fun e w' => ∃ v, e = .returned v ∧ w'.ownsRow w.heap.size 75 73 v (itemsM st).length (cellsL (itemsM st)) ∧ Below w.heap.size w w' := by
  obtain ⟨i0, hi, hz0, hz1, hz2⟩ := infoParts infoIt
  have HI := Lib.hid (And.intro hi (And.intro hz0 (And.intro hz1 hz2)))
  have HP73 : Hid (0 < 73) := Lib.hid (by decide)
  obtain ⟨g, cap, V, hx⟩ := h
  have H := Lib.hid hx
  have HINV := Lib.hid hx.inv
  have hl8 := hx.inv.len
  have hlen := all_len st
  have hnn := hx.inv.n
  obtain ⟨T, hT⟩ : ∃ T, T = (allS st).length := ⟨_, rfl⟩
  have HTL := Lib.hid hT
  rw [← hT] at hlen
  have HLN := Lib.hid hlen
  obtain ⟨n, hn⟩ : ∃ n, n = st.n := ⟨_, rfl⟩
  have HN := Lib.hid hn
  rw [← hn] at hnn
  have hn5 : n ≤ 512 := hnn.2
  have hT9 : T ≤ 9 := by omega
  have hT1 : 1 ≤ T := by omega
  have HC := Lib.hid (Col.nil w)
  have HP0 : Hid (∀ W, Below w.heap.size w W → W.cell? ⟨p, 0, none⟩ = some (.slice (some ⟨g, 0, none⟩) T cap)) := Lib.hid fun W hb => by rw [hT]; exact (hx.go hb).at0
  have HG0 : Hid (∀ W, Below w.heap.size w W → ∀ j, j < T → W.cell? ⟨g, j * 2, none⟩ = some (.int .i64 (idA st j))) := Lib.hid fun W hb j hj => (hx.go hb).id_cell (by omega)
  have HGV : Hid (∀ j, j < T → ∃ b c, ∀ W, Below w.heap.size w W → W.cell? ⟨g, j * 2 + 1, none⟩ = some (.slice (some ⟨b, 0, none⟩) n c) ∧ ∀ u, u < n → W.rangeAt b (u * 34) (slcC (mpA st j u))) := Lib.hid fun j hj => by
    obtain ⟨b, c, hV, _, hbl, hr⟩ := hx.opened (i := j) (by omega)
    refine ⟨b, c, fun W hb => ⟨?_, fun u hu i v hi => ?_⟩⟩
    · have h9 := (hx.go hb).sl_cell (i := j) (by omega)
      rwa [hV, ← hn] at h9
    · exact (World.cell?_of_block (hb.block b hbl)).trans (hr u (by omega) i v hi)
  clear hi hz0 hz1 hz2 hx hl8 hlen hT hn hnn
  go_enter Tryz.func14, Tryz.ntmps14
  go_upto_region 3 with fail
  go_loopw [3, 4] (fun v i wr => ∃ j : Nat, j ≤ T ∧ i = .int .i64 j ∧ Col w wr v (rowsM n ((allS st).take j))) (fun _ i _ => T - (Go.RowKit.intOf i).toNat)
  case atStart => exact ⟨0, Nat.zero_le _, rfl, by rw [List.take_zero]; exact HC.out⟩
  case round =>
    obtain ⟨j, hj, rfl, hc⟩ := hrel
    clear HC
    have HC := Lib.hid hc
    clear hc
    have c0 := HP0.out wr HC.out.below
    by_cases hlt : j < T
    · have hxj := all_at (st := st) (i := j) (by have := HTL.out; omega)
      have HNX := Lib.hid (rows_next (n := n) hxj)
      have HID := Lib.hid (all_ids HINV.out _ (List.mem_of_getElem? hxj))
      obtain ⟨L0, hL0⟩ : ∃ L0, L0 = rowsM n ((allS st).take j) := ⟨_, rfl⟩
      have HL0 : Hid (L0.length ≤ 4608) := Lib.hid (by
        have h1 := rows_len n ((allS st).take j)
        have h2 : ((allS st).take j).length * n ≤ 9 * 512 := Nat.mul_le_mul (by rw [List.length_take]; omega) hn5
        rw [hL0]; omega)
      rw [← hL0] at HC HNX
      obtain ⟨b, c, hbc⟩ := HGV.out j hlt
      have HBC := Lib.hid hbc
      have HGJ : Hid (∀ W, Below w.heap.size w W → W.cell? ⟨g, j * 2, none⟩ = some (.int .i64 (idA st j))) := Lib.hid fun W hb => HG0.out W hb j hlt
      obtain ⟨id, hid⟩ : ∃ id, id = idA st j := ⟨_, rfl⟩
      obtain ⟨F, hF⟩ : ∃ F, F = mpA st j := ⟨_, rfl⟩
      rw [← hid] at HGJ
      rw [← hid, ← hF] at HNX
      rw [← hid] at HID
      rw [← hF] at HBC
      have i1 : (0 : Int) ≤ j := by omega
      have i2 : (j : Int) < T := by omega
      clear hxj hL0 hid hF hbc
      go_upto_region 6 with fail
      clear c0
      go_loopw [3, 5] (fun v i wr => ∃ u : Nat, u ≤ n ∧ i = .int .i64 u ∧ Col w wr v (L0 ++ rowM u F id)) (fun _ i _ => n - (Go.RowKit.intOf i).toNat)
      case atStart => exact ⟨0, Nat.zero_le _, rfl, by simpa [rowM] using HC.out⟩
      case round =>
        obtain ⟨u, hu, rfl, hc⟩ := hrel
        clear HC
        have HC := Lib.hid hc
        clear hc
        have c0 := HP0.out wr HC.out.below
        have cv := (HBC.out wr HC.out.below).1
        by_cases hltu : u < n
        · have hu5 : u < 512 := by omega
          have i4 : (0 : Int) ≤ u := by omega
          have i5 : (u : Int) < n := by omega
          have HRU : Hid (∀ W, Below w.heap.size w W → W.rangeAt b (u * 34) (slcC (F u))) := Lib.hid fun W hb => (HBC.out W hb).2 u hltu
          have HNU := Lib.hid (rowM_next (n := u) (F := F) (id := id))
          have HOK := Lib.hid (itS_ok (F u) HID.out hu5)
          have HBS : Hid (∀ W, BuildRun Tryz.prog 75 #[(0, .int .u8 2), (3, .int .i64 id), (4, .int .i64 u), (5, .agg (slcC (F u)).toArray)] W (.agg (itmCells (itS id u (F u).1)).toArray)) := Lib.hid fun W => buildS id u (F u) W
          have HCL := Lib.hid (itm_len HOK.out)
          have HCO := Lib.hid (itm_one HOK.out)
          have HLB : Hid ((L0 ++ rowM u F id).length ≤ 6000) := Lib.hid (by have h1 := rowM_len u F id; have h2 := HL0.out; rw [List.length_append]; omega)
          have HSL := Lib.hid (sizeSl (F u))
          have cm : wr.cell? ⟨b, u * 34 + 33, none⟩ = some (.int .i64 (F u).1.m) := HRU.out wr HC.out.below 33 _ (slC_at (F u).2.key.len _ _).2
          obtain ⟨it, hit⟩ : ∃ it, it = itS id u (F u).1 := ⟨_, rfl⟩
          rw [← hit] at HNU HBS HCL HCO
          obtain ⟨ics, hics⟩ : ∃ ics, ics = itmCells it := ⟨_, rfl⟩
          rw [← hics] at HBS HCL HCO
          have HIC := Lib.hid hics
          obtain ⟨mk, hmk⟩ : ∃ mk, mk = (F u).1.m := ⟨_, rfl⟩
          rw [← hmk] at HNU cm
          obtain ⟨cs, hcs⟩ : ∃ cs, cs = slcC (F u) := ⟨_, rfl⟩
          rw [← hcs] at HRU HBS HSL
          obtain ⟨L1, hL1⟩ : ∃ L1, L1 = L0 ++ rowM u F id := ⟨_, rfl⟩
          rw [← hL1] at HC HLB
          have HL1 := Lib.hid hL1
          clear hit hics hmk hcs hL1 HOK
          by_cases h0 : mk = 0
          · subst h0
            go_wp2_with fail
            exact ⟨⟨u + 1, by omega, by push_cast; rfl, by rw [HNU.out, if_pos rfl, List.append_nil, ← HL1.out]; exact HC.out⟩, by simp [Go.RowKit.intOf]; omega⟩
          · have hb0 : (mk == 0) = false := by simpa using h0
            have hb1 : (mk != 0) = true := by simpa using h0
            have HN0 : Hid ((if mk = 0 then ([] : List Itm) else [it]) = [it]) := Lib.hid (if_neg h0)
            obtain ⟨vA, vc, rfl⟩ := row_shapeS HC.out.row
            clear h0
            go_upto_region 9 with fail
            have HCX := Lib.hid (HC.out.go (w2 := wr.drew) (below_drewN (Below.refl _ _) 1))
            have HSS : Hid (∀ W, Below w.heap.size w W → (fun w' : World => (w'.cell? ⟨p, 0, none⟩ = some (.slice (some ⟨g, 0, none⟩) T cap) ∧ w'.cell? ⟨g, j * 2, none⟩ = some (.int .i64 id) ∧ w'.cell? ⟨g, j * 2 + 1, none⟩ = some (.slice (some ⟨b, 0, none⟩) n c)) ∧ w'.rangeAt b (u * 34) cs) W) := Lib.hid fun W hb => ⟨⟨HP0.out W hb, HGJ.out W hb, (HBC.out W hb).1⟩, HRU.out W hb⟩
            obtain ⟨wq, hwq⟩ : ∃ z, z = wr.drew := ⟨_, rfl⟩
            refine wp_region_held_drew (S := (fun w' : World => (w'.cell? ⟨p, 0, none⟩ = some (.slice (some ⟨g, 0, none⟩) T cap) ∧ w'.cell? ⟨g, j * 2, none⟩ = some (.int .i64 id) ∧ w'.cell? ⟨g, j * 2 + 1, none⟩ = some (.slice (some ⟨b, 0, none⟩) n c)) ∧ w'.rangeAt b (u * 34) cs)) follows (HSS.out _ HCX.out.below) (fun hHeld => ?_)
            rw [← hwq] at hHeld HCX ⊢
            clear hwq c0 cv cm
            have HSI : Hid (i0.size = ics.length) := Lib.hid (by rw [HCL.out]; exact HI.out.2.2.1)
            have HSP : Hid (0 < ics.length) := Lib.hid (by rw [HCL.out]; omega)
            have HSQ : Hid (ics.length ≤ 2 ^ 24) := Lib.hid (by rw [HCL.out]; omega)
            have HNL : Hid (ics.length = 1 * 73) := Lib.hid (by rw [HCL.out])
            have HNW : Hid (∀ ad, (some ⟨wq.heap.size, 0, none⟩ : Option Addr) = some ad → ∀ (j : Nat) (u : Value), ics[j]? = some u → (wq.alloc (.cells ics.toArray 75)).cell? (ad.add j) = some u) := Lib.hid fun ad e j u hj => by injection e with e; subst e; exact cells_new _ _ _ j u hj
            have HM : Hid (L1.length + 1 ≤ maxLen) := Lib.hid (by have := HLB.out; unfold maxLen; omega)
            have HBY : Hid ((L1.length + 1) * 136 ≤ 140737488355328) := Lib.hid (by have := HLB.out; omega)
            have HBA : Hid (w.heap.size ≤ (wq.alloc (.cells ics.toArray 75)).heap.size) := Lib.hid (by have := HCX.out.below.size; simp; omega)
            have HNN : Hid ((some ⟨wq.heap.size, 0, none⟩ : Option Addr) = none → 1 = 0 ∧ 1 = 0) := Lib.hid fun h => by cases h
            have HOW : Hid ((wq.alloc (.cells ics.toArray 75)).ownsRow w.heap.size 75 73 (.slice vA L1.length vc) L1.length (cellsL L1)) := Lib.hid (HCX.out.row.alloc _)
            have BAL : Hid (Below w.heap.size w (wq.alloc (.cells ics.toArray 75))) := Lib.hid (HCX.out.below.alloc HCX.out.below.size _)
            refine wpAnyH_take (i := 0) (v := ?_) (by simp only [List.getElem?_toArray, List.getElem?_cons_zero]; rfl) (by kernel_rfl) (by kernel_rfl) (by kernel_rfl) (by intro _ _ _ h; exact h) (Or.inl ⟨by rfl, ?_⟩) hHeld ?_
            rotate_left
            · (intro w hSw; (try dsimp only at hSw); go_simp; try with_reducible rfl)
            try simp only [Act.put, List.setIfInBounds_toArray, List.set_cons_zero, List.set_cons_succ]
            refine wpAnyH_take (i := 1) (v := ?_) (by simp only [List.getElem?_toArray, List.getElem?_cons_zero, List.getElem?_cons_succ]; rfl) (by kernel_rfl) (by kernel_rfl) (by kernel_rfl) (by intro _ _ _ h; exact h) (Or.inl ⟨by rfl, ?_⟩) hHeld ?_
            rotate_left
            · (intro w hSw; (try dsimp only at hSw); go_simp; try with_reducible rfl)
            try simp only [Act.put, List.setIfInBounds_toArray, List.set_cons_zero, List.set_cons_succ]
            refine wpAnyH_take (i := 2) (v := ?_) (by simp only [List.getElem?_toArray, List.getElem?_cons_zero, List.getElem?_cons_succ]; rfl) (by kernel_rfl) (by kernel_rfl) (by kernel_rfl) (by intro _ _ _ h; exact h) (Or.inl ⟨by rfl, ?_⟩) hHeld ?_
            rotate_left
            · (intro w hSw; (try dsimp only at hSw); go_simp; try with_reducible rfl)
            try simp only [Act.put, List.setIfInBounds_toArray, List.set_cons_zero, List.set_cons_succ]
            refine wpAnyH_take (i := 3) (v := ?_) (by simp only [List.getElem?_toArray, List.getElem?_cons_zero, List.getElem?_cons_succ]; rfl) (by kernel_rfl) (by kernel_rfl) (by kernel_rfl) (by intro _ _ _ h; exact h) (Or.inl ⟨by rfl, ?_⟩) hHeld ?_
            rotate_left
            · (intro w hSw; (try dsimp only at hSw); go_simp; try with_reducible rfl)
            try simp only [Act.put, List.setIfInBounds_toArray, List.set_cons_zero, List.set_cons_succ]
            refine wpAnyH_take (i := 4) (v := ?_) (by simp only [List.getElem?_toArray, List.getElem?_cons_zero, List.getElem?_cons_succ]; rfl) (by kernel_rfl) (by kernel_rfl) (by kernel_rfl) (by intro _ _ _ h; exact h) (Or.inl ⟨by rfl, ?_⟩) hHeld ?_
            rotate_left
            · (intro w hSw; (try dsimp only at hSw); go_simp; try with_reducible rfl)
            try simp only [Act.put, List.setIfInBounds_toArray, List.set_cons_zero, List.set_cons_succ]
            refine wpAnyH_take (i := 5) (v := ?_) (by simp only [List.getElem?_toArray, List.getElem?_cons_zero, List.getElem?_cons_succ]; rfl) (by kernel_rfl) (by kernel_rfl) (by kernel_rfl) (by intro _ _ _ h; exact h) (Or.inl ⟨by rfl, ?_⟩) hHeld ?_
            rotate_left
            · (intro w hSw; (try dsimp only at hSw); go_simp; try with_reducible rfl)
            try simp only [Act.put, List.setIfInBounds_toArray, List.set_cons_zero, List.set_cons_succ]
            refine wpAnyH_take (i := 6) (v := ?_) (by simp only [List.getElem?_toArray, List.getElem?_cons_zero, List.getElem?_cons_succ]; rfl) (by kernel_rfl) (by kernel_rfl) (by kernel_rfl) (by intro _ _ _ h; exact h) (Or.inl ⟨by rfl, ?_⟩) hHeld ?_
            rotate_left
            · (intro w hSw; (try dsimp only at hSw); go_simp; try with_reducible rfl)
            try simp only [Act.put, List.setIfInBounds_toArray, List.set_cons_zero, List.set_cons_succ]
            refine wpAnyH_take (i := 7) (v := ?_) (by simp only [List.getElem?_toArray, List.getElem?_cons_zero, List.getElem?_cons_succ]; rfl) (by kernel_rfl) (by kernel_rfl) (by kernel_rfl) (by intro _ _ _ h; exact h) (Or.inl ⟨by rfl, ?_⟩) hHeld ?_
            rotate_left
            · (intro w hSw; (try dsimp only at hSw); go_simp; try with_reducible rfl)
            try simp only [Act.put, List.setIfInBounds_toArray, List.set_cons_zero, List.set_cons_succ]
            refine wpAnyH_take (i := 8) (v := ?_) (by simp only [List.getElem?_toArray, List.getElem?_cons_zero, List.getElem?_cons_succ]; rfl) (by kernel_rfl) (by kernel_rfl) (by kernel_rfl) (by intro _ _ _ h; exact h) (Or.inl ⟨by rfl, ?_⟩) hHeld ?_
            rotate_left
            · (intro w hSw; (try dsimp only at hSw); go_simp; try with_reducible rfl)
            try simp only [Act.put, List.setIfInBounds_toArray, List.set_cons_zero, List.set_cons_succ]
            refine wpAnyH_take (i := 9) (v := ?_) (by simp only [List.getElem?_toArray, List.getElem?_cons_zero, List.getElem?_cons_succ]; rfl) (by kernel_rfl) (by kernel_rfl) (by kernel_rfl) (by intro _ _ _ h; exact h) (Or.inl ⟨by rfl, ?_⟩) hHeld ?_
            rotate_left
            · (intro w hSw; (try dsimp only at hSw); go_simp; try with_reducible rfl)
            try simp only [Act.put, List.setIfInBounds_toArray, List.set_cons_zero, List.set_cons_succ]
            refine wpAnyH_take (i := 10) (v := ?_) (by simp only [List.getElem?_toArray, List.getElem?_cons_zero, List.getElem?_cons_succ]; rfl) (by kernel_rfl) (by kernel_rfl) (by kernel_rfl) (by intro _ _ _ h; exact h) (Or.inl ⟨by rfl, ?_⟩) hHeld ?_
            rotate_left
            · (intro w hSw; (try dsimp only at hSw); go_simp; try with_reducible rfl)
            try simp only [Act.put, List.setIfInBounds_toArray, List.set_cons_zero, List.set_cons_succ]
            refine wpAnyH_take (i := 11) (v := ?_) (by simp only [List.getElem?_toArray, List.getElem?_cons_zero, List.getElem?_cons_succ]; rfl) (by kernel_rfl) (by kernel_rfl) (by kernel_rfl) (by intro _ _ _ h; exact h) (Or.inl ⟨by rfl, ?_⟩) hHeld ?_
            rotate_left
            · (intro w hSw; (try dsimp only at hSw); go_simp; try with_reducible rfl)
            try simp only [Act.put, List.setIfInBounds_toArray, List.set_cons_zero, List.set_cons_succ]
            refine wpAnyH_take (i := 12) (v := ?_) (by simp only [List.getElem?_toArray, List.getElem?_cons_zero, List.getElem?_cons_succ]; rfl) (by kernel_rfl) (by kernel_rfl) (by kernel_rfl) (by intro _ _ _ h; exact h) (Or.inl ⟨by rfl, ?_⟩) hHeld ?_
            rotate_left
            · (intro w hSw; (try dsimp only at hSw); go_simp; try with_reducible rfl)
            try simp only [Act.put, List.setIfInBounds_toArray, List.set_cons_zero, List.set_cons_succ]
            refine wpAnyH_take (i := 13) (v := ?_) (by simp only [List.getElem?_toArray, List.getElem?_cons_zero, List.getElem?_cons_succ]; rfl) (by kernel_rfl) (by kernel_rfl) (by kernel_rfl) (by intro _ _ _ h; exact h) (Or.inl ⟨by rfl, ?_⟩) hHeld ?_
            rotate_left
            · (intro w hSw; (try dsimp only at hSw); go_simp; try with_reducible rfl)
            try simp only [Act.put, List.setIfInBounds_toArray, List.set_cons_zero, List.set_cons_succ]
            refine wpAnyH_take (i := 14) (v := ?_) (by simp only [List.getElem?_toArray, List.getElem?_cons_zero, List.getElem?_cons_succ]; rfl) (by kernel_rfl) (by kernel_rfl) (by kernel_rfl) (by intro _ _ _ h; exact h) (Or.inl ⟨by rfl, ?_⟩) hHeld ?_
            rotate_left
            · (intro w hSw; (try dsimp only at hSw); go_simp; try with_reducible rfl)
            try simp only [Act.put, List.setIfInBounds_toArray, List.set_cons_zero, List.set_cons_succ]
            refine wpAnyH_take (i := 15) (v := ?_) (by simp only [List.getElem?_toArray, List.getElem?_cons_zero, List.getElem?_cons_succ]; rfl) (by kernel_rfl) (by kernel_rfl) (by kernel_rfl) (by intro _ _ _ h; exact h) (Or.inl ⟨by rfl, ?_⟩) hHeld ?_
            rotate_left
            · (intro w hSw; (try dsimp only at hSw); go_simp; try with_reducible rfl)
            try simp only [Act.put, List.setIfInBounds_toArray, List.set_cons_zero, List.set_cons_succ]
            refine wpAnyH_take (i := 16) (v := ?_) (by simp only [List.getElem?_toArray, List.getElem?_cons_zero, List.getElem?_cons_succ]; rfl) (by kernel_rfl) (by kernel_rfl) (by kernel_rfl) (by intro _ _ _ h; exact h) (Or.inl ⟨by rfl, ?_⟩) hHeld ?_
            rotate_left
            · (intro w hSw; (try dsimp only at hSw); go_simp; try with_reducible rfl)
            try simp only [Act.put, List.setIfInBounds_toArray, List.set_cons_zero, List.set_cons_succ]
            refine wpAnyH_take (i := 17) (v := ?_) (by simp only [List.getElem?_toArray, List.getElem?_cons_zero, List.getElem?_cons_succ]; rfl) (by kernel_rfl) (by kernel_rfl) (by kernel_rfl) (by intro _ _ _ h; exact h) (Or.inl ⟨by rfl, ?_⟩) hHeld ?_
            rotate_left
            · (intro w hSw; (try dsimp only at hSw); go_simp; try with_reducible rfl)
            try simp only [Act.put, List.setIfInBounds_toArray, List.set_cons_zero, List.set_cons_succ]
            refine wpAnyH_take (i := 18) (v := ?_) (by simp only [List.getElem?_toArray, List.getElem?_cons_zero, List.getElem?_cons_succ]; rfl) (by kernel_rfl) (by kernel_rfl) (by kernel_rfl) (by intro _ _ _ h; exact h) (Or.inl ⟨by rfl, ?_⟩) hHeld ?_
            rotate_left
            · (intro w hSw; (try dsimp only at hSw); go_simp; try with_reducible rfl)
            try simp only [Act.put, List.setIfInBounds_toArray, List.set_cons_zero, List.set_cons_succ]
            refine wpAnyH_take (i := 19) (v := ?_) (by simp only [List.getElem?_toArray, List.getElem?_cons_zero, List.getElem?_cons_succ]; rfl) (by kernel_rfl) (by kernel_rfl) (by kernel_rfl) (by intro _ _ _ h; exact h) (Or.inl ⟨by rfl, ?_⟩) hHeld ?_
            rotate_left
            · (intro w hSw; (try dsimp only at hSw); go_simp; try with_reducible rfl)
            try simp only [Act.put, List.setIfInBounds_toArray, List.set_cons_zero, List.set_cons_succ]
            refine wpAnyH_take (i := 20) (v := _) (by simp only [List.getElem?_toArray, List.getElem?_cons_zero, List.getElem?_cons_succ]; rfl) (by kernel_rfl) (by kernel_rfl) (by kernel_rfl) (by intro _ _ _ h; exact h) (yieldsIf_load_mid (by rfl) 33 (.tmp 61) rfl b (u * 34) rfl cs _ (fun _ h => h.2) Tryz.underlying33 rfl HSL.out) hHeld ?_
            try simp only [Act.put, List.setIfInBounds_toArray, List.set_cons_zero, List.set_cons_succ]
            refine wpAnyH_take (i := 21) (v := _) (by simp only [List.getElem?_toArray, List.getElem?_cons_zero, List.getElem?_cons_succ]; rfl) (by kernel_rfl) (by kernel_rfl) (by kernel_rfl) (by intro _ _ _ h; exact h) (yields_build (by rfl) 75 [(0, .const (.int .u8 2)), (3, .tmp 50), (4, .tmp 51), (5, .tmp 62)] rfl [(0, .int .u8 2), (3, .int .i64 id), (4, .int .i64 u), (5, .agg cs.toArray)] rfl (.agg ics.toArray) (fun W => HBS.out W)) hHeld ?_
            try simp only [Act.put, List.setIfInBounds_toArray, List.set_cons_zero, List.set_cons_succ]
            refine wpAnyH_ready (rs := [22]) (by kernel_rfl) (by simp) ?_
            refine AllReadyH.cons (by simp only [List.getElem?_toArray, List.getElem?_cons_zero, List.getElem?_cons_succ]; rfl) (fun K hK => ?_) AllReadyH.nil
            rw [if_pos (by rfl)]
            refine wp_slice1 40 75 (.tmp 63) rfl ics rfl i0 (.agg zIt.toArray) Tryz.underlying40 HI.out.1 HI.out.2.1 HSI.out HSP.out HSQ.out ?_
            refine hK.out _ _ (HSS.out _ BAL.out) (fun hHeld => ?_)
            clear hK K
            try simp only [Act.put, List.setIfInBounds_toArray, List.set_cons_zero, List.set_cons_succ]
            refine wpAnyH_ready (rs := [23]) (by kernel_rfl) (by simp) ?_
            refine AllReadyH.cons (by simp only [List.getElem?_toArray, List.getElem?_cons_zero, List.getElem?_cons_succ]; rfl) (fun K hK => ?_) AllReadyH.nil
            rw [if_pos (by rfl)]
            refine wp_append_any (.tmp 42) (.tmp 64) 40 rfl w.heap.size 75 i0 (.agg zIt.toArray) 73 136 Tryz.underlying40 HI.out.1 HI.out.2.1 HI.out.2.2.1 HI.out.2.2.2 rfl HP73.out (.slice vA L1.length vc) L1.length (cellsL L1) rfl HOW.out (some ⟨wq.heap.size, 0, none⟩) 1 1 ics rfl HNN.out HNL.out HNW.out HCO.out HM.out HBY.out HBA.out ?_
            intro v8 w8 ho8 hg8
            rw [HIC.out] at ho8
            have HC8 := Lib.hid (HCX.out.push ho8 hg8)
            clear ho8 hg8
            refine hK.out _ _ (HSS.out _ HC8.out.below) (fun hHeld => ?_)
            clear hK K
            try simp only [Act.put, List.setIfInBounds_toArray, List.set_cons_zero, List.set_cons_succ]
            refine wpAnyH_take (i := 24) (v := ?_) (by simp only [List.getElem?_toArray, List.getElem?_cons_zero, List.getElem?_cons_succ]; rfl) (by kernel_rfl) (by kernel_rfl) (by kernel_rfl) (by intro _ _ _ h; exact h) (Or.inl ⟨by rfl, ?_⟩) hHeld ?_
            rotate_left
            · (intro w hSw; (try dsimp only at hSw); go_simp; try with_reducible rfl)
            try simp only [Act.put, List.setIfInBounds_toArray, List.set_cons_zero, List.set_cons_succ]
            refine wpAnyH_done (by kernel_rfl) ?_ _
            clear hHeld
            go_wp2_with fail
            exact ⟨⟨u + 1, by omega, by push_cast; rfl, by rw [HNU.out, HN0.out, ← List.append_assoc, ← HL1.out]; exact HC8.out⟩, by simp [Go.RowKit.intOf]; omega⟩
        · obtain rfl : u = n := by omega
          go_wp2_with fail
          exact ⟨⟨j + 1, by omega, by push_cast; rfl, by rw [HNX.out]; exact HC.out⟩, by simp [Go.RowKit.intOf]; omega⟩
    · obtain rfl : j = T := by omega
      obtain ⟨L0, hL0⟩ : ∃ L0, L0 = rowsM n (allS st) := ⟨_, rfl⟩
      have HL0 : Hid (L0.length ≤ 4608) := Lib.hid (by
        have h1 := rows_len n (allS st)
        have h2 : (allS st).length * n ≤ 9 * 512 := Nat.mul_le_mul (by have := HTL.out; omega) hn5
        rw [hL0]; omega)
      have HC : Hid (Col w wr _ L0) := Lib.hid (by have h := HC.out; rwa [HTL.out, List.take_length, ← hL0] at h)
      have HEQ : Hid (itemsM st = L0 ++ st.snaps.map fun x => itN x.1) := Lib.hid (by rw [items_eq, ← HN.out, ← hL0])
      clear hL0
      go_upto_region 11 with fail
      go_loopw [3, 6] (fun v i wr => ∃ k : Nat, 1 ≤ k ∧ k ≤ j ∧ i = .int .i64 k ∧ Col w wr v (L0 ++ (st.snaps.take (k - 1)).map fun x => itN x.1)) (fun _ i _ => j - (Go.RowKit.intOf i).toNat)
      case atStart => exact ⟨1, Nat.le_refl _, hT1, rfl, by simpa using HC.out⟩
      case round =>
        obtain ⟨k, hk1, hk, rfl, hc⟩ := hrel
        clear HC c0
        have HC := Lib.hid hc
        clear hc
        have c0 := HP0.out wr HC.out.below
        by_cases hlt : k < j
        · have cj := HG0.out wr HC.out.below k hlt
          have hxk := all_at (st := st) (i := k) (by have := HTL.out; omega)
          have HID := Lib.hid (all_ids HINV.out _ (List.mem_of_getElem? hxk))
          have HNX : Hid ((st.snaps.take (k + 1 - 1)).map (fun x => itN x.1) = (st.snaps.take (k - 1)).map (fun x => itN x.1) ++ [itN (idA st k)]) := Lib.hid (by
            have h1 : st.snaps[k - 1]? = some (idA st k, mpA st k) := by
              have : (allS st)[k - 1 + 1]? = some (idA st k, mpA st k) := by rw [show k - 1 + 1 = k by omega]; exact hxk
              exact this
            rw [Nat.add_sub_cancel, show k = k - 1 + 1 by omega, List.take_add_one, h1, Option.toList_some, List.map_append, show k - 1 + 1 = k by omega]
            rfl)
          obtain ⟨id, hid⟩ : ∃ id, id = idA st k := ⟨_, rfl⟩
          rw [← hid] at cj HNX HID
          have HOK := Lib.hid (itN_ok HID.out)
          have HBS : Hid (∀ W, BuildRun Tryz.prog 75 #[(0, .int .u8 3), (3, .int .i64 id)] W (.agg (itmCells (itN id)).toArray)) := Lib.hid fun W => buildN id W
          have HCL := Lib.hid (itm_len HOK.out)
          have HCO := Lib.hid (itm_one HOK.out)
          obtain ⟨L1, hL1⟩ : ∃ L1, L1 = L0 ++ (st.snaps.take (k - 1)).map fun x => itN x.1 := ⟨_, rfl⟩
          have HLB : Hid (L1.length ≤ 6000) := Lib.hid (by have h2 := HL0.out; rw [hL1, List.length_append, List.length_map, List.length_take]; omega)
          rw [← hL1] at HC
          have HL1 := Lib.hid hL1
          obtain ⟨it, hit⟩ : ∃ it, it = itN id := ⟨_, rfl⟩
          rw [← hit] at HNX HBS HCL HCO
          obtain ⟨ics, hics⟩ : ∃ ics, ics = itmCells it := ⟨_, rfl⟩
          rw [← hics] at HBS HCL HCO
          have HIC := Lib.hid hics
          have i1 : (0 : Int) ≤ k := by omega
          have i2 : (k : Int) < j := by omega
          clear hxk hid hL1 hit hics HOK
          obtain ⟨vA, vc, rfl⟩ := row_shapeS HC.out.row
          have HCX := Lib.hid HC.out
          have HSI : Hid (i0.size = ics.length) := Lib.hid (by rw [HCL.out]; exact HI.out.2.2.1)
          have HSP : Hid (0 < ics.length) := Lib.hid (by rw [HCL.out]; omega)
          have HSQ : Hid (ics.length ≤ 2 ^ 24) := Lib.hid (by rw [HCL.out]; omega)
          have HNL : Hid (ics.length = 1 * 73) := Lib.hid (by rw [HCL.out])
          have HNW : Hid (∀ ad, (some ⟨wr.heap.size, 0, none⟩ : Option Addr) = some ad → ∀ (j : Nat) (u : Value), ics[j]? = some u → (wr.alloc (.cells ics.toArray 75)).cell? (ad.add j) = some u) := Lib.hid fun ad e j u hj => by injection e with e; subst e; exact cells_new _ _ _ j u hj
          have HM : Hid (L1.length + 1 ≤ maxLen) := Lib.hid (by have := HLB.out; unfold maxLen; omega)
          have HBY : Hid ((L1.length + 1) * 136 ≤ 140737488355328) := Lib.hid (by have := HLB.out; omega)
          have HBA : Hid (w.heap.size ≤ (wr.alloc (.cells ics.toArray 75)).heap.size) := Lib.hid (by have := HCX.out.below.size; simp; omega)
          have HNN : Hid ((some ⟨wr.heap.size, 0, none⟩ : Option Addr) = none → 1 = 0 ∧ 1 = 0) := Lib.hid fun h => by cases h
          have HOW : Hid ((wr.alloc (.cells ics.toArray 75)).ownsRow w.heap.size 75 73 (.slice vA L1.length vc) L1.length (cellsL L1)) := Lib.hid (HCX.out.row.alloc _)
          go_upto_region 13 with fail
          go_upto_region 12 with (first | (refine wpList_buildG rfl 75 [(0, .const (.int .u8 3)), (3, .tmp 83)] rfl [(0, .int .u8 3), (3, .int .i64 id)] rfl _ (HBS.out _) ?_) | (refine wpList_slice1 rfl 40 75 (.tmp 84) rfl ics rfl i0 (.agg zIt.toArray) Tryz.underlying40 HI.out.1 HI.out.2.1 HSI.out HSP.out HSQ.out ?_) | (refine wpList_append_any rfl (.tmp 75) (.tmp 85) 40 rfl w.heap.size 75 i0 (.agg zIt.toArray) 73 136 Tryz.underlying40 HI.out.1 HI.out.2.1 HI.out.2.2.1 HI.out.2.2.2 rfl HP73.out (.slice vA L1.length vc) L1.length (cellsL L1) rfl HOW.out (some ⟨wr.heap.size, 0, none⟩) 1 1 ics rfl HNN.out HNL.out HNW.out HCO.out HM.out HBY.out HBA.out ?_; intro v8 w8 ho8 hg8))
          rw [HIC.out] at ho8
          have HC8 := Lib.hid (HC.out.push ho8 hg8)
          clear ho8 hg8 c0 cj
          go_wp2_with fail
          exact ⟨⟨k + 1, by omega, by omega, by push_cast; rfl, by rw [HNX.out, ← List.append_assoc, ← HL1.out]; exact HC8.out⟩, by simp [Go.RowKit.intOf]; omega⟩
        · have HCz := Lib.hid HC.out
          obtain rfl : k = j := by omega
          have HC : Hid (Col w wr _ (itemsM st)) := Lib.hid (by
            have h := HCz.out
            rwa [show k - 1 = st.snaps.length by have := HLN.out; omega, List.take_length, ← HEQ.out] at h)
          go_wp2_with fail
          go_ret
          exact ⟨_, rfl, HC.out.row, HC.out.below⟩
end Go.Proofs.YtodhaaaodmcplaaGreat
