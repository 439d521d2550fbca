/- Layer 23 (maps): the laws' own small functions: a step; the slices of a map; they, told of another one. -/
import Derived.Test.YtodhaaaodmcplaaNo
import Derived.Test.YtodhaaaodmcplaaBkIt
import Derived.Test.YtodhaaaodmcplaaPick
set_option linter.all false
namespace Go.Proofs.Ytodhaaaodmcplaa
open Go.RowKit Go.Maps Go.WideMaps
noncomputable def doD (st : MS) (d : Dox) : MS := doM st (d.op % 9) d.a d.b d.s
theorem inv_doD {st : MS} (h : Inv st) (d : Dox) : Inv (doD st d) := inv_do h _ _ _ _
theorem n_doD (st : MS) (d : Dox) : (doD st d).n = st.n := n_do _ _ _ _ _
structure OkDo (d : Dox) : Prop where
  k : KeyOk 32 d.s.k
  op : (Lit.int .i64 d.op).wf = true
  a : (Lit.int .i64 d.a).wf = true
  b : (Lit.int .i64 d.b).wf = true
set_option maxRecDepth 100000 in
set_option maxHeartbeats 2000000 in
theorem do_p {n0 : Nat} {w : World} {p mb : Nat} {st : MS} (h : Ms n0 w p mb st) (d : Dox) (hd : OkDo d) : Calls Try.prog 17 #[.pointer (some ⟨p, 0, none⟩), .agg d.cells.toArray] w fun e w' => e = .returned undef ∧ OutM n0 w w' p mb (doD st d) := by
  have HM := Lib.hid h
  have HD := Lib.hid hd
  have HSL : Hid ((Try.prog.info? 25).map (·.size) = some (slC d.s.k d.s.o d.s.m).length) := Lib.hid (by rw [slC_len hd.k.len]; exact infoSl)
  have HDA : Hid (∀ (w : World) (b : Nat), w.heap[b]? = some (.cells d.cells.toArray 27 (0, 0)) → w.cell? ⟨b, 0, none⟩ = some (.int .i64 d.op) ∧ w.cell? ⟨b, 1, none⟩ = some (.int .i64 d.a) ∧ w.cell? ⟨b, 2, none⟩ = some (.int .i64 d.b) ∧ w.rangeAt b 3 (slC d.s.k d.s.o d.s.m)) := Lib.hid fun w b h => by
    have := do_at (range_of h)
    simp only [Nat.zero_add] at this
    exact this
  obtain ⟨dc, hdc⟩ : ∃ dc, dc = d.cells := ⟨_, rfl⟩
  rw [← hdc] at HDA ⊢
  clear hdc h hd
  go_enter Try.func17, Try.ntmps17
  go_upto_region 1 with (refine Go.Great.wpList_boxTo rfl 27 (.tmp 1) rfl (some 3) rfl _ rfl dc.toArray rfl ?_)
  obtain ⟨q, hq⟩ : ∃ q, q = w.heap.size := ⟨_, rfl⟩
  obtain ⟨w1, hw1⟩ : ∃ z, z = w.alloc (.cells dc.toArray 27) := ⟨_, rfl⟩
  have b1 : Below w.heap.size w w1 := by rw [hw1]; exact (Below.refl _ _).alloc (Nat.le_refl _) _
  have Q1 : Hid (w1.heap[q]? = some (.cells dc.toArray 27 (0, 0))) := Lib.hid (by rw [hw1, hq]; exact heap_new w _)
  have M1 := Lib.hid (HM.out.go b1)
  have O1 := Lib.hid (outB b1 M1.out)
  rw [← hw1, ← hq]
  clear hw1 hq b1 HM
  obtain ⟨c0, c1, c2, c3⟩ := HDA.out _ _ Q1.out
  have R3 := Lib.hid c3
  obtain ⟨dop, hop⟩ : ∃ z, z = d.op := ⟨_, rfl⟩
  obtain ⟨da, ha⟩ : ∃ z, z = d.a := ⟨_, rfl⟩
  obtain ⟨db, hb⟩ : ∃ z, z = d.b := ⟨_, rfl⟩
  have HE : Hid (doD st d = doM st (dop % 9) da db d.s) := Lib.hid (by rw [hop, ha, hb]; rfl)
  have HWA : Hid ((Lit.int .i64 da).wf = true) := Lib.hid (by rw [ha]; exact HD.out.a)
  rw [← hop] at c0
  rw [← ha] at c1
  rw [← hb] at c2
  clear hop ha hb HDA c3
  go_wp2_with fail
  refine (pick9 dop 9 w1 (by omega) (by omega)).mono ?_
  rintro e _ ⟨rfl, rfl⟩
  obtain ⟨k, hk⟩ : ∃ k, k = dop % 9 := ⟨_, rfl⟩
  rw [← hk] at HE ⊢
  clear hk
  by_cases h3 : k = 3
  · subst h3
    go_wp2_with fail
    refine (clear_p M1.out da db).mono ?_
    rintro e w2 ⟨rfl, hO⟩
    have HO := Lib.hid (outT O1.out hO)
    clear hO
    go_wp2_with fail
    exact bodyPost_end (results_none rfl _ _ _) rfl ⟨rfl, by rw [HE.out]; exact HO.out⟩
  have b3 : (k == 3) = false := by simpa using h3
  by_cases h4 : k = 4
  · subst h4
    go_wp2_with fail
    refine (clear_p M1.out da db).mono ?_
    rintro e w2 ⟨rfl, hO⟩
    have HO := Lib.hid (outT O1.out hO)
    clear hO
    go_wp2_with fail
    exact bodyPost_end (results_none rfl _ _ _) rfl ⟨rfl, by rw [HE.out]; exact HO.out⟩
  have b4 : (k == 4) = false := by simpa using h4
  by_cases h5 : k = 5
  · subst h5
    go_wp2_with fail
    refine (snap_p M1.out da HWA.out).mono ?_
    rintro e w2 ⟨rfl, hO⟩
    have HO := Lib.hid (outT O1.out hO)
    clear hO
    go_wp2_with fail
    exact bodyPost_end (results_none rfl _ _ _) rfl ⟨rfl, by rw [HE.out]; exact HO.out⟩
  have b5 : (k == 5) = false := by simpa using h5
  by_cases h6 : k = 6
  · subst h6
    go_wp2_with fail
    refine (drop_p M1.out da HWA.out).mono ?_
    rintro e w2 ⟨rfl, hO⟩
    have HO := Lib.hid (outT O1.out hO)
    clear hO
    go_wp2_with fail
    exact bodyPost_end (results_none rfl _ _ _) rfl ⟨rfl, by rw [HE.out]; exact HO.out⟩
  have b6 : (k == 6) = false := by simpa using h6
  by_cases h7 : k = 7
  · subst h7
    go_wp2_with fail
    refine (back_p M1.out da HWA.out).mono ?_
    rintro e w2 ⟨rfl, hO⟩
    have HO := Lib.hid (outT O1.out hO)
    clear hO
    go_wp2_with fail
    exact bodyPost_end (results_none rfl _ _ _) rfl ⟨rfl, by rw [HE.out]; exact HO.out⟩
  have b7 : (k == 7) = false := by simpa using h7
  have HE2 : Hid (doM st k da db d.s = setM st da d.s) := Lib.hid (by unfold doM; rw [if_neg (by omega), if_neg h5, if_neg h6, if_neg h7])
  clear h3 h4 h5 h6 h7
  go_wp2_with (refine wpList_load_midG rfl 25 (.tmp 10) rfl q 3 rfl (slC d.s.k d.s.o d.s.m) _ R3.out Try.underlying25 rfl HSL.out ?_)
  refine (set_p M1.out da d.s HD.out.k).mono ?_
  rintro e w2 ⟨rfl, hO⟩
  have HO := Lib.hid (outT O1.out hO)
  clear hO
  go_wp2_with fail
  exact bodyPost_end (results_none rfl _ _ _) rfl ⟨rfl, by rw [HE.out, HE2.out]; exact HO.out⟩
/-- A row of items, read. -/
theorem itm_at {x : Itm} (h : KeyOk 32 x.key) {w : World} {b o : Nat} (hr : w.rangeAt b o (itmCells x)) : w.cell? ⟨b, o, none⟩ = some (.int .u8 x.kind) ∧ w.cell? ⟨b, o + 37, none⟩ = some (.int .i64 x.sn) := by
  refine ⟨hr 0 _ rfl, hr 37 _ ?_⟩
  unfold itmCells
  rw [List.getElem?_append_right (by simp), List.getElem?_append_right (by simp [u8l_len, h.len]), List.length_singleton, u8l_len, h.len]
  rfl
theorem cellsL_len {L : List Itm} (h : ∀ x ∈ L, OkIt x) : (cellsL L).length = L.length * 73 := by
  rw [← elI_all h, flatS_len (wideIt _)]
theorem row_items {w : World} {base : Nat} {v : Value} {L : List Itm} (hL : ∀ x ∈ L, OkIt x) (h : w.ownsRow base 69 73 v L.length (cellsL L)) : ∃ A cap, v = .slice A L.length cap ∧ SArr w w.heap.size A L.length 73 (fun i => cellsIt (elI L i)) ∧ L.length ≤ cap ∧ (A = none → L.length = 0 ∧ cap = 0) := by
  rw [← elI_all hL] at h
  obtain ⟨A, cap, h1, h2, h3, _, h5⟩ := srow_arr (wideIt _) h
  exact ⟨A, cap, h1, h2, h3, h5⟩
theorem ofI_next (id : Int) {L : List Itm} {j : Nat} {x : Itm} (h : L[j]? = some x) : ofI id (L.take (j + 1)) = ofI id (L.take j) ++ if x.kind = 2 ∧ x.sn = id then [x] else [] := by
  rw [List.take_add_one, h, Option.toList_some, of_app]
  congr 1
  unfold ofI
  by_cases h1 : x.kind = 2 <;> by_cases h2 : x.sn = id <;> simp [h1, h2]
theorem ofI_len (id : Int) (L : List Itm) : (ofI id L).length ≤ L.length := List.length_filter_le _ _
theorem ofI_ok {id : Int} {L : List Itm} (h : ∀ x ∈ L, OkIt x) : ∀ x ∈ ofI id L, OkIt x := fun x hx => h x (List.mem_filter.1 hx).1
set_option maxRecDepth 100000 in
set_option maxHeartbeats 4000000 in
theorem lawOf_p (L : List Itm) (hL : ∀ x ∈ L, OkIt x) (A : Option Addr) (c B : Nat) (id : Int) (w : World) (hB : B ≤ w.heap.size) (hn : L.length ≤ 5000) (ha : SArr w B A L.length 73 fun i => cellsIt (elI L i)) : Calls Try.prog 19 #[.slice A L.length c, .int .i64 id] w fun e w' => ∃ v, e = .returned v ∧ w'.ownsRow w.heap.size 69 73 v (ofI id L).length (cellsL (ofI id L)) ∧ Below w.heap.size w w' := by
  obtain ⟨i0, hi, hz0, hz1, hz2⟩ := infoParts infoIt
  have HI := Lib.hid (And.intro hi (And.intro hz0 (And.intro hz1 hz2)))
  have HP73 : Hid (0 < 73) := Lib.hid (by decide)
  have HA := Lib.hid ha
  have HL := Lib.hid hL
  have HB := Lib.hid hB
  obtain ⟨n, hn1⟩ : ∃ n, n = L.length := ⟨_, rfl⟩
  have HN := Lib.hid hn1
  rw [← hn1] at HA hn ⊢
  clear hi hz0 hz1 hz2 ha hL hB hn1
  have HC := Lib.hid (Col.nil w)
  go_enter Try.func19, Try.ntmps19
  go_upto_region 3 with fail
  go_loopw [5, 6] (fun v i wr => ∃ j : Nat, j ≤ n ∧ i = .int .i64 j ∧ Col w wr v (ofI id (L.take j))) (fun _ i _ => n - (Go.RowKit.intOf i).toNat)
  case atStart => exact ⟨0, Nat.zero_le _, rfl, by rw [List.take_zero]; exact HC.out⟩
  case round =>
    obtain ⟨j, hj, rfl, hc⟩ := hrel
    clear HC
    have HC := Lib.hid hc
    clear hc
    by_cases hlt : j < n
    · obtain ⟨b, off, rfl, hb, hrow⟩ := HA.out (by omega)
      obtain ⟨x, hxj⟩ : ∃ x, L[j]? = some x := ⟨_, List.getElem?_eq_getElem (by have := HN.out; omega)⟩
      have hr := hrow j hlt
      have hok := HL.out x (List.mem_of_getElem? hxj)
      have hcx : cellsIt (elI L j) = itmCells x := by show itmCells (elI L j).1 = _; rw [elI_at HL.out hxj]
      simp only [hcx] at hr
      have hr2 : wr.rangeAt b (off + j * 73) (itmCells x) := fun i v hi => (World.cell?_of_block (HC.out.below.block b (by have := HB.out; omega))).trans (hr i v hi)
      obtain ⟨ck, cs⟩ := itm_at hok.key hr2
      have HR := Lib.hid hr2
      have HNX := Lib.hid (ofI_next id hxj)
      have HCL := Lib.hid (itm_len hok)
      have HCO := Lib.hid (itm_one hok)
      have HLB : Hid ((ofI id (L.take j)).length ≤ 6000) := Lib.hid (by have h1 := ofI_len id (L.take j); have h2 := HN.out; rw [List.length_take] at h1; omega)
      obtain ⟨L1, hL1⟩ : ∃ L1, L1 = ofI id (L.take j) := ⟨_, rfl⟩
      rw [← hL1] at HLB HNX HC
      obtain ⟨xk, hxk⟩ : ∃ z, z = x.kind := ⟨_, rfl⟩
      obtain ⟨xs, hxs⟩ : ∃ z, z = x.sn := ⟨_, rfl⟩
      rw [← hxk] at ck HNX
      rw [← hxs] at cs HNX
      obtain ⟨ics, hics⟩ : ∃ ics, ics = itmCells x := ⟨_, rfl⟩
      rw [← hics] at HCL HCO HR
      have HIC := Lib.hid hics
      have HSZ : Hid ((Try.prog.info? 69).map (·.size) = some ics.length) := Lib.hid (by rw [HCL.out]; kernel_rfl)
      have i1 : (0 : Int) ≤ j := by omega
      have i2 : (j : Int) < n := by omega
      clear hb hrow hxj hr hok hcx hr2 hL1 hxk hxs hics
      by_cases h1 : xk = 2
      rotate_left
      · have b1 : (xk == 2) = false := by simpa using h1
        have HNX2 : Hid (ofI id (L.take (j + 1)) = L1) := Lib.hid (by rw [HNX.out, if_neg (fun h => h1 h.1), List.append_nil])
        go_wp2_with fail
        exact ⟨⟨j + 1, by omega, by push_cast; rfl, by rw [HNX2.out]; exact HC.out⟩, by simp [Go.RowKit.intOf]; omega⟩
      subst h1
      by_cases h2 : xs = id
      rotate_left
      · have b2 : (xs == id) = false := by simpa using h2
        have HNX2 : Hid (ofI id (L.take (j + 1)) = L1) := Lib.hid (by rw [HNX.out, if_neg (fun h => h2 h.2), List.append_nil])
        go_wp2_with fail
        exact ⟨⟨j + 1, by omega, by push_cast; rfl, by rw [HNX2.out]; exact HC.out⟩, by simp [Go.RowKit.intOf]; omega⟩
      subst h2
      have HNX2 : Hid (ofI xs (L.take (j + 1)) = L1 ++ [x]) := Lib.hid (by rw [HNX.out, if_pos ⟨rfl, rfl⟩])
      have b2 : (xs == xs) = true := by simp
      obtain ⟨vA, vc, rfl⟩ := row_shapeS HC.out.row
      have HSI : Hid (i0.size = ics.length) := Lib.hid (by rw [HCL.out]; exact HI.out.2.2.1)
      have HSP : Hid (0 < ics.length) := Lib.hid (by rw [HCL.out]; omega)
      have HSQ : Hid (ics.length ≤ 2 ^ 24) := Lib.hid (by rw [HCL.out]; omega)
      have HNL : Hid (ics.length = 1 * 73) := Lib.hid (by rw [HCL.out])
      have HNW : Hid (∀ ad, (some ⟨wr.heap.size, 0, none⟩ : Option Addr) = some ad → ∀ j u, ics[j]? = some u → (wr.alloc (.cells ics.toArray 69)).cell? (ad.add j) = some u) := Lib.hid fun ad e j u hj => by injection e with e; subst e; exact cells_new _ _ _ j u hj
      have HM : Hid (L1.length + 1 ≤ maxLen) := Lib.hid (by have := HLB.out; unfold maxLen; omega)
      have HBY : Hid ((L1.length + 1) * 136 ≤ 140737488355328) := Lib.hid (by have := HLB.out; omega)
      have HBA : Hid (w.heap.size ≤ (wr.alloc (.cells ics.toArray 69)).heap.size) := Lib.hid (by have := HC.out.below.size; simp; omega)
      have HNN : Hid ((some ⟨wr.heap.size, 0, none⟩ : Option Addr) = none → 1 = 0 ∧ 1 = 0) := Lib.hid fun h => by cases h
      have HOW : Hid ((wr.alloc (.cells ics.toArray 69)).ownsRow w.heap.size 69 73 (.slice vA L1.length vc) L1.length (cellsL L1)) := Lib.hid (HC.out.row.alloc _)
      go_upto_region 6 with fail
      go_upto_region 4 with (first | (refine wpList_load_midG rfl 69 (.tmp 31) rfl b (off + j * 73) rfl ics _ HR.out Try.underlying69 rfl HSZ.out ?_) | (refine wpList_slice1 rfl 44 69 (.tmp 32) rfl ics rfl i0 (.agg zIt.toArray) Try.underlying44 HI.out.1 HI.out.2.1 HSI.out HSP.out HSQ.out ?_) | (refine wpList_append_any rfl (.tmp 28) (.tmp 33) 44 rfl w.heap.size 69 i0 (.agg zIt.toArray) 73 136 Try.underlying44 HI.out.1 HI.out.2.1 HI.out.2.2.1 HI.out.2.2.2 rfl HP73.out (.slice vA L1.length vc) L1.length (cellsL L1) rfl HOW.out (some ⟨wr.heap.size, 0, none⟩) 1 1 ics rfl HNN.out HNL.out HNW.out HCO.out HM.out HBY.out HBA.out ?_; intro v8 w8 ho8 hg8))
      rw [HIC.out] at ho8
      have HC8 := Lib.hid (HC.out.push ho8 hg8)
      clear ho8 hg8
      go_wp2_with fail
      exact ⟨⟨j + 1, by omega, by push_cast; rfl, by rw [HNX2.out]; exact HC8.out⟩, by simp [Go.RowKit.intOf]; omega⟩
    · obtain rfl : j = n := by omega
      have HC : Hid (Col w wr _ (ofI id L)) := Lib.hid (by have h := HC.out; rwa [HN.out, List.take_length] at h)
      go_wp2_with fail
      go_ret
      exact ⟨_, rfl, HC.out.row, HC.out.below⟩
end Go.Proofs.Ytodhaaaodmcplaa
