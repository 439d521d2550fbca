/- The document's space (layer 19): Back. No condition but where it lies. Printed by genV.py. -/
import Derived.Test.YtgoblbmekhcekaaU
import Derived.Deep.CutBlock
namespace Go.Proofs.Ytgoblbmekhcekaa
open Go.RowKit
theorem wsC_split (g : Geo) {ws : List (Value × Nw)} {k : Nat} (hk : k < ws.length) : (wsC g ws).take (k * 9) = wsC g (ws.take k) ∧ ((wsC g ws).drop (k * 9)).take 9 = rfC g ws[k].1 ws[k].2 (.slice none 0 0) := by
  have e : ws = ws.take k ++ (ws[k] :: ws.drop (k + 1)) := by rw [← List.drop_eq_getElem_cons hk, List.take_append_drop]
  have hl : (wsC g (ws.take k)).length = k * 9 := by rw [wsC_len, List.length_take, Nat.min_eq_left (by omega)]
  have e2 : wsC g ws = wsC g (ws.take k) ++ (rfC g ws[k].1 ws[k].2 (.slice none 0 0) ++ wsC g (ws.drop (k + 1))) := by
    have : wsC g (ws[k] :: ws.drop (k + 1)) = rfC g ws[k].1 ws[k].2 (.slice none 0 0) ++ wsC g (ws.drop (k + 1)) := by rw [wsC, List.flatMap_cons]; rfl
    rw [← this, ← wsC_app, ← e]
  constructor
  · rw [e2, List.take_left' hl]
  · rw [e2, ← hl, List.drop_left]
    exact List.take_left' rfl
set_option maxRecDepth 100000 in
set_option maxHeartbeats 1000000 in
theorem rback21a (mark : Int) (w : World) (Y : Nat → Prop) (b : Nat) (g : Geo) (n : Nw) (was : List Nw) (h : RfX w Y b g n was) (hm : mark < 0 ∨ (was.length : Int) < mark) : Calls Try.prog 21 #[.pointer (some ⟨b, 0, none⟩), .int .i64 mark] w fun e w' => e = .returned (.int .i64 2) ∧ w = w' := by
  obtain ⟨fv, row, ws, h⟩ := h
  obtain ⟨c0, c1, c2, c3, c4, c5, c6, c7, c8⟩ := rf_cells h.blk
  obtain ⟨A, c, rfl, h1, h2, h3⟩ := own_form h.own
  have hlen := h.len
  rw [← hlen] at hm
  unfold maxLen at h2
  clear h h3 hlen
  by_cases h0 : mark < 0
  · clear hm
    go_enter Try.func21, Try.ntmps21
    go_wp2
    go_ret
    exact ⟨rfl, rfl⟩
  · have hm : (ws.length : Int) < mark := by omega
    go_enter Try.func21, Try.ntmps21
    go_wp2
    go_ret
    exact ⟨rfl, rfl⟩
set_option maxRecDepth 100000 in
set_option maxHeartbeats 1000000 in
theorem rback21s (w : World) (Y : Nat → Prop) (b : Nat) (g : Geo) (n : Nw) (was : List Nw) (h : RfX w Y b g n was) : Calls Try.prog 21 #[.pointer (some ⟨b, 0, none⟩), .int .i64 (was.length : Nat)] w fun e w' => e = .returned (.int .i64 0) ∧ w = w' := by
  obtain ⟨fv, row, ws, h⟩ := h
  obtain ⟨c0, c1, c2, c3, c4, c5, c6, c7, c8⟩ := rf_cells h.blk
  obtain ⟨A, c, rfl, h1, h2, h3⟩ := own_form h.own
  have hlen := h.len
  rw [← hlen]
  unfold maxLen at h2
  clear h h3 hlen
  go_enter Try.func21, Try.ntmps21
  go_wp2
  go_ret
  exact ⟨rfl, rfl⟩
theorem back_final {w w2 w3 w6 w7 : World} {Y : Nat → Prop} {b q q4 c L k c4' q5 c5' : Nat} {g : Geo} {n m : Nw} {was : List Nw} {fv fv4 : Value} {ws : List (Value × Nw)} {x : Nw} {e : Ending} (hm : m = x) (hok : m.Ok g) (hk : k < ws.length) (hfv : fv4 = .slice (some ⟨q4, 0, none⟩) L c4') (hL : L = m.fr.length)
    (H : Rf w Y b g n was fv (.slice (some ⟨q, 0, none⟩) ws.length c) ws) (R2 : Rf w2 (fun k => Y k ∧ k < w.heap.size) b g n was fv (.slice (some ⟨q, 0, none⟩) ws.length c) ws) (O3 : w3.ownsRow w2.heap.size 4 1 (.slice (some ⟨q4, 0, none⟩) L c4') L (m.fr.map .bool)) (hq4 : w2.heap.size ≤ q4)
    (K26 : Keeps (fun k => k = b) w2 w6) (K6 : Keeps (fun k => k = b) w3 w6) (hb23 : Below w2.heap.size w2 w3) (K2 : Keeps (fun _ => False) w w2) (hb67 : Below w6.heap.size w6 w7) (E7 : w7.heap[b]? = some (.cells (rfC g fv4 m (.slice (some ⟨q, 0, none⟩) ws.length c)).toArray 53 (0, 0)))
    (O7 : w7.ownsRow w6.heap.size 53 9 (.slice (some ⟨q5, 0, none⟩) k c5') k (wsC g (ws.take k))) (he : e = .returned (.int .i64 0)) :
    RGoes w Y b g x (was.take k) (.int .i64 0) e (w7.setCell ⟨b, 8, none⟩ (.slice (some ⟨q5, 0, none⟩) k c5')) := by
  subst hm
  have s2 := K2.size
  have s26 := K26.size
  have hq5 : w6.heap.size ≤ q5 := (O7.lt q5 rfl).1
  have hq43 := (O3.lt q4 rfl).2
  have s36 := K6.size
  have hbl := R2.yb.2
  have kset := set_keep w7 b 8 (.slice (some ⟨q5, 0, none⟩) k c5')
  have kf : Keeps (fun k => k = b) w2 (w7.setCell ⟨b, 8, none⟩ (.slice (some ⟨q5, 0, none⟩) k c5')) := (K26.trans (Keeps.fresh hb67) fun _ _ h => h).trans kset fun _ _ h => h
  have kf3 : Keeps (fun k => k = b) w3 (w7.setCell ⟨b, 8, none⟩ (.slice (some ⟨q5, 0, none⟩) k c5')) := (K6.trans (Keeps.fresh hb67) fun _ _ h => h).trans kset fun _ _ h => h
  refine ⟨he, ⟨fv4, .slice (some ⟨q5, 0, none⟩) k c5', ws.take k, ⟨?_, ?_, fun e => ?_, .inl H.yb, fun j e => ?_, ?_, fun p hp => ?_, ?_, hok, fun y hy => H.okw y (List.mem_of_mem_take hy), H.right⟩⟩, ?_⟩
  · rw [set_blk E7]; rfl
  · rw [List.length_take, Nat.min_eq_left (Nat.le_of_lt hk)]
    exact row_more (kset.row O7 fun j e hb => by have : q5 = j := Option.some.inj e; omega) (Nat.zero_le _)
  · have : q5 = b := Option.some.inj e
    omega
  · have : q5 = j := Option.some.inj e
    right; omega
  · subst hfv
    refine ⟨q4, c4', by rw [hL], ⟨.inr (by omega), by omega, fun e => by have : q5 = q4 := Option.some.inj e; omega⟩, by have := kf3.size; omega, fun j u hj => ?_⟩
    have hjl : j < L := by rw [hL]; exact (List.getElem?_eq_some_iff.1 hj).1
    refine kf3.cell ?_ (by show ¬ q4 = b; omega)
    rw [World.ownsRow.cellAt O3 j (by omega), List.getElem?_map, hj]; rfl
  · exact ((R2.frs p (List.mem_of_mem_take hp)).keeps kf (fun k hk => hk.2.1)).mono fun j hj _ => ⟨.inl hj.1.1, hj.2.1, fun e => by have : q5 = j := Option.some.inj e; have := hj.1.2; omega⟩
  · rw [List.map_take, H.eq]
  · exact ((K2.mono fun _ _ h => h.elim).trans kf fun k _ e => e ▸ H.yb)
set_option maxRecDepth 100000 in
set_option maxHeartbeats 4000000 in
theorem rback21l (k : Nat) (w : World) (Y : Nat → Prop) (b : Nat) (g : Geo) (n : Nw) (was : List Nw) (h : RfX w Y b g n was) (hk : k < was.length) (hwas : was.length ≤ 100000) :
    Calls Try.prog 21 #[.pointer (some ⟨b, 0, none⟩), .int .i64 (k : Nat)] w (RGoes w Y b g was[k] (was.take k) (.int .i64 0)) := by
  obtain ⟨fv, row, ws, h⟩ := h
  obtain ⟨c0, c1, c2, c3, c4, c5, c6, c7, c8⟩ := rf_cells h.blk
  have hlen := h.len
  have hk2 : k < ws.length := by omega
  obtain ⟨A, c, rfl, h1, h2, h3⟩ := own_form h.own
  unfold maxLen at h2
  obtain ⟨p, hp⟩ : ∃ p, p = ws[k] := ⟨_, rfl⟩
  have hpw : p.2 = was[k] := by
    have : was[k]? = (ws.map (·.2))[k]? := by rw [h.eq]
    rw [List.getElem?_map, List.getElem?_eq_getElem hk2, List.getElem?_eq_getElem hk] at this
    rw [hp]; exact (Option.some.inj this).symm
  have hpm : p ∈ ws := hp ▸ List.getElem_mem hk2
  obtain ⟨q, hq, hcells⟩ : ∃ q, A = some ⟨q, 0, none⟩ ∧ w.rangeAt q (k * 9) (rfC g p.1 p.2 (.slice none 0 0)) := by
    rcases h.own.2 with ⟨h4, h5⟩ | ⟨q, cap, cur, h4, _, _⟩
    · omega
    · injection h4 with h4
      refine ⟨q, h4, fun j v hj => ?_⟩
      subst h4
      have e := (wsC_split g hk2).2
      have hj2 : j < 9 := by have := (List.getElem?_eq_some_iff.1 hj).1; simpa [rfC] using this
      have hlt : k * 9 + 9 ≤ ws.length * 9 := by omega
      rw [World.ownsRow.cellAt h.own (k * 9 + j) (by omega), ← List.getElem?_drop, ← hj, hp, ← e, List.getElem?_take, if_pos hj2]
  subst hq
  obtain ⟨q3, c3', hf3, -, hq3l, hq3c⟩ := h.frs p hpm
  obtain ⟨pv, m⟩ := p
  simp only at hf3 hpw hcells hq3c
  subst hf3
  have H := Lib.hid h
  obtain ⟨L, hL⟩ : ∃ L, L = m.fr.length := ⟨_, rfl⟩
  obtain ⟨M, hM⟩ : ∃ M, M = ws.length := ⟨_, rfl⟩
  have hmok : m.Ok g := hpw ▸ h.okw _ (List.getElem_mem hk)
  have hLb : 2 ≤ L ∧ L ≤ 256 := ⟨by have := hmok.len; have := h.fine.s1; omega, hL ▸ hmok.le h.fine⟩
  have HMM := Lib.hid (And.intro hM (And.intro hL (And.intro hpw (And.intro hp hmok))))
  have HQ3 := Lib.hid (And.intro hq3l hq3c)
  rw [← hL] at hcells
  rw [← hM] at c8 h1 hk2
  have hkM : (k : Int) < M := by omega
  clear h h3 hL hM hmok hq3l hq3c hp hpm hlen hpw
  go_enter Try.func21, Try.ntmps21
  go_upto_region 5 with first
    | (refine wpList_load_midG rfl 53 (.tmp 29) rfl q (k * 9) rfl (rfC g (.slice (some ⟨q3, 0, none⟩) L c3') m (.slice none 0 0)) _ hcells Try.underlying53 rfl info53 ?_)
    | (refine wpList_store_segK rfl 53 (.tmp 5) (.tmp 30) rfl w.heap.size 0 rfl (rfC g (.slice (some ⟨q3, 0, none⟩) L c3') m (.slice none 0 0)) rfl [.int .i64 0, .int .i64 0, .int .i64 0, .int .i64 0, .int .i64 0, .slice none 0 0, .int .i64 0, .int .i64 0, .slice none 0 0] 53 (heap_new w _) info53 (by simp [rfC]) rfC_one rfl ?_; intro w2 H2 hz2)
  obtain ⟨l, hl⟩ : ∃ l, l = w.heap.size := ⟨_, rfl⟩
  have hbl : b ≠ l := by have := heap_lt H.out.blk; omega
  have K2 : Hid (Keeps (fun _ => False) w w2) := Lib.hid (((Keeps.alloc (fun k => k = w.heap.size) w _).trans H2.out.2 fun _ _ h => h).mono fun i hi e => by omega)
  have R2 : Hid (Rf w2 (fun k => Y k ∧ k < w.heap.size) b g n was fv (.slice (some ⟨q, 0, none⟩) ws.length c) ws) := Lib.hid ((H.out.mono fun k hk hl => ⟨hk, hl⟩).keeps K2.out (fun _ _ h => h))
  have F2 : Hid (w2.heap[l]? = some (.cells (rfC g (.slice (some ⟨q3, 0, none⟩) L c3') m (.slice none 0 0)).toArray 53 (0, 0))) := Lib.hid (by rw [hl, H2.out.1, splice_all _ _ (by simp [rfC])])
  have Q2 : Hid (∀ j u, m.fr[j]? = some u → w2.cell? ⟨q3, j, none⟩ = some (.bool u)) := Lib.hid fun j u hj => K2.out.cell (HQ3.out.2 j u hj) (fun h => h)
  have hq3l : q3 < w2.heap.size := Nat.lt_of_lt_of_le HQ3.out.1 K2.out.size
  obtain ⟨i0, hi, hz0, hz1, hz2'⟩ := infoParts info4
  have HI := Lib.hid (And.intro hi (And.intro hz0 (And.intro hz1 hz2')))
  have HL := Lib.hid (And.intro hl hbl)
  rw [← hl]
  have hnews : ∀ j u, (m.fr.map Value.bool)[j]? = some u → (w2.alloc (.cells #[] 4)).cell? ((⟨q3, 0, none⟩ : Addr).add j) = some u := fun j u hj => by
    rw [List.getElem?_map] at hj
    obtain ⟨x, hx, rfl⟩ := Option.map_eq_some_iff.1 hj
    rw [Addr.add_mid, Nat.zero_add]
    exact (World.cell?_of_block (a := ⟨q3, j, none⟩) (Below.heap_alloc w2 _ q3 hq3l)).trans (Q2.out j x hx)
  have HNW := Lib.hid hnews
  have hL2 : (m.fr.map Value.bool).length = L * 1 := by rw [List.length_map, ← HMM.out.2.1]; omega
  have HL2 := Lib.hid hL2
  have hn5 : (w2.alloc (.cells #[] 4)).cell? ⟨l, 5, none⟩ = some (.slice (some ⟨q3, 0, none⟩) L c3') := (World.cell?_of_block (a := ⟨l, 5, none⟩) (Below.heap_alloc w2 _ l (heap_lt F2.out))).trans (rf_cells F2.out).2.2.2.2.2.1
  clear hnews hL2 hi hz0 hz1 hz2' hl hbl c0 c1 c2 c3 c4 c5 c6 c7 c8 H2 hz2 hcells Q2 HQ3 hq3l
  go_upto_region 6 with (at_builtin; refine wpList_append_lies _ rfl (.tmp 32) (.tmp 34) 50 rfl w2.heap.size 4 i0 (.bool false) 1 1 Try.underlying50 HI.out.1 HI.out.2.1 HI.out.2.2.1 HI.out.2.2.2 rfl (by omega) _ 0 [] rfl (World.ownsRow_lit w2 #[] 0 (Nat.le_refl _) (Nat.zero_le _) rfl) ⟨q3, 0, none⟩ L c3' (m.fr.map .bool) rfl HL2.out HNW.out bools_one (by omega) (by unfold maxLen; omega) (by omega) (by simp) _ rfl ?_; intro q4 c4' w3 hown hgr hat hlt3; have hb23 := Lib.hid (((Below.refl _ w2).alloc (Nat.le_refl _) (.cells #[] 4)).grown hgr (by simp) (fun k e => Nat.le_of_eq (show w2.heap.size = k from Option.some.inj e))); have E3 := Lib.hid ((hb23.out.block b (heap_lt R2.out.blk)).trans R2.out.blk); have d5 := (rf_cells E3.out).2.2.2.2.2.1; have z5 := frozen_of_row w3 b 5 _ _ E3.out)
  have HO3 := Lib.hid (And.intro hown hlt3)
  clear hown hgr hat hlt3 d5 z5 hn5 HNW HL2
  have hO3 : w3.ownsRow w2.heap.size 4 1 (.slice (some ⟨q4, 0, none⟩) L c4') L (m.fr.map .bool) := by have := HO3.out.1; rwa [Nat.zero_add, List.nil_append] at this
  have HP3 := Lib.hid (And.intro hO3 (And.intro (hO3.lt q4 rfl).1 (hO3.lt q4 rfl).2))
  obtain ⟨fv4, hfv4⟩ : ∃ v, v = Value.slice (some ⟨q4, 0, none⟩) L c4' := ⟨_, rfl⟩
  obtain ⟨w4, hw4⟩ : ∃ w4, w4 = w3.setCell ⟨b, 5, none⟩ (.slice (some ⟨q4, 0, none⟩) L c4') := ⟨_, rfl⟩
  have T4 : Hid (Keeps (fun k => k = b) w3 w4) := Lib.hid (by rw [hw4]; exact set_keep _ _ _ _)
  have E4 : Hid (w4.heap[b]? = some (.cells (rfC g fv4 n (.slice (some ⟨q, 0, none⟩) ws.length c)).toArray 53 (0, 0))) := Lib.hid (by rw [hw4, hfv4, set_blk E3.out]; rfl)
  have F4 : Hid (w4.heap[l]? = some (.cells (rfC g (.slice (some ⟨q3, 0, none⟩) L c3') m (.slice none 0 0)).toArray 53 (0, 0))) := Lib.hid (T4.out.heap ((hb23.out.block l (heap_lt F2.out)).trans F2.out) (fun e => HL.out.2 e.symm))
  have HFV := Lib.hid hfv4
  have x6 := (rf_cells F4.out).2.2.2.2.2.2.1
  have d6 := (rf_cells E4.out).2.2.2.2.2.2.1
  have z6 := frozen_of_row w4 b 6 _ _ E4.out
  rw [← hw4]
  clear hw4 hO3 HO3 hfv4
  go_upto_region 7 with fail
  obtain ⟨w5, hw5⟩ : ∃ w5, w5 = w4.setCell ⟨b, 6, none⟩ (.int .i64 m.op) := ⟨_, rfl⟩
  have T5 : Hid (Keeps (fun k => k = b) w4 w5) := Lib.hid (by rw [hw5]; exact set_keep _ _ _ _)
  have E5 : Hid (w5.heap[b]? = some (.cells (rfC g fv4 ⟨n.fr, m.op, n.fl⟩ (.slice (some ⟨q, 0, none⟩) ws.length c)).toArray 53 (0, 0))) := Lib.hid (by rw [hw5, set_blk E4.out]; rfl)
  have F5 := Lib.hid (T5.out.heap F4.out (fun e => HL.out.2 e.symm))
  have x7 := (rf_cells F5.out).2.2.2.2.2.2.2.1
  have d7 := (rf_cells E5.out).2.2.2.2.2.2.2.1
  have z7 := frozen_of_row w5 b 7 _ _ E5.out
  rw [← hw5]
  clear hw5 x6 d6 z6
  go_upto_region 8 with fail
  obtain ⟨w6, hw6⟩ : ∃ w6, w6 = w5.setCell ⟨b, 7, none⟩ (.int .i64 m.fl) := ⟨_, rfl⟩
  have T6 : Hid (Keeps (fun k => k = b) w5 w6) := Lib.hid (by rw [hw6]; exact set_keep _ _ _ _)
  have E6 : Hid (w6.heap[b]? = some (.cells (rfC g fv4 m (.slice (some ⟨q, 0, none⟩) ws.length c)).toArray 53 (0, 0))) := Lib.hid (by rw [hw6, set_blk E5.out]; rfl)
  have K6 : Hid (Keeps (fun k => k = b) w3 w6) := Lib.hid ((T4.out.trans T5.out fun _ _ h => h).trans T6.out fun _ _ h => h)
  have K26 : Hid (Keeps (fun k => k = b) w2 w6) := Lib.hid ((Keeps.fresh hb23.out).trans K6.out fun _ _ h => h)
  rw [← hw6]
  clear hw6 x7 d7 z7 T4 T5 T6 E4 E5 F4 F5 E3
  have O6 : Hid (w6.ownsRow 0 53 9 (.slice (some ⟨q, 0, none⟩) ws.length c) ws.length (wsC g ws)) := Lib.hid (K26.out.row R2.out.own (fun k e hb => R2.out.apart (hb ▸ e)))
  have hn8 : (w6.alloc (.cells #[] 53)).cell? ⟨b, 8, none⟩ = some (.slice (some ⟨q, 0, none⟩) M c) := by
    rw [HMM.out.1]
    exact (World.cell?_of_block (a := ⟨b, 8, none⟩) (Below.heap_alloc w6 _ b (heap_lt E6.out))).trans (rf_cells E6.out).2.2.2.2.2.2.2.2
  obtain ⟨j0, ji, jz0, jz1, jz2⟩ := infoParts info53z
  have HJ := Lib.hid (And.intro ji (And.intro jz0 (And.intro jz1 jz2)))
  have hnews : ∀ j u, (wsC g (ws.take k))[j]? = some u → (w6.alloc (.cells #[] 53)).cell? ((⟨q, 0, none⟩ : Addr).add j) = some u := fun j u hj => by
    have hkw : k < ws.length := by rw [← HMM.out.1]; exact hk2
    rw [← (wsC_split g hkw).1, List.getElem?_take] at hj
    split at hj
    · rw [Addr.add_mid, Nat.zero_add]
      exact (World.cell?_of_block (a := ⟨q, j, none⟩) (Below.heap_alloc w6 _ q (O6.out.lt q rfl).2)).trans ((World.ownsRow.cellAt O6.out j (by omega)).trans hj)
    · cases hj
  have HNW := Lib.hid hnews
  have HTL : Hid ((wsC g (ws.take k)).length = k * 9) := Lib.hid (by rw [wsC_len, List.length_take, Nat.min_eq_left (by rw [← HMM.out.1]; omega)])
  have HON : Hid (∀ v ∈ wsC g (ws.take k), v.oneCell' = true) := Lib.hid fun v hv => by
    obtain ⟨p, hp, hv⟩ := List.mem_flatMap.1 hv
    obtain ⟨a, b', e, -⟩ := R2.out.frs p (List.mem_of_mem_take hp)
    rw [e] at hv
    exact rfC_one v hv
  have hMb : M ≤ 100000 := by rw [HMM.out.1, H.out.len]; exact hwas
  clear hnews ji jz0 jz1 jz2
  by_cases h0 : k = 0
  · subst h0
    have E7 : Hid ((w6.alloc (.cells #[] 53)).heap[b]? = some (.cells (rfC g fv4 m (.slice (some ⟨q, 0, none⟩) ws.length c)).toArray 53 (0, 0))) := Lib.hid (heap_old E6.out)
    have z8 : (w6.alloc (.cells #[] 53)).frozen? ⟨b, 8, none⟩ = false := frozen_of_row _ b 8 _ _ E7.out
    go_wp2_with fail
    go_ret
    have hO7 : (w6.alloc (.cells #[] 53)).ownsRow w6.heap.size 53 9 (.slice (some ⟨w6.heap.size, 0, none⟩) 0 0) 0 (wsC g (ws.take 0)) := World.ownsRow_lit w6 #[] 0 (Nat.le_refl _) (Nat.zero_le _) rfl
    exact back_final HMM.out.2.2.1 HMM.out.2.2.2.2 (by rw [← HMM.out.1]; exact hk2) HFV.out HMM.out.2.1 H.out R2.out HP3.out.1 HP3.out.2.1 K26.out K6.out hb23.out K2.out ((Below.refl _ w6).alloc (Nat.le_refl _) _) E7.out hO7 rfl
  · have hkp : 0 < k := by omega
    clear h0
    go_wp2_with (at_builtin; refine wpList_append_lies _ rfl (.tmp 49) (.tmp 55) 51 rfl w6.heap.size 53 j0 (.agg #[.int .i64 0, .int .i64 0, .int .i64 0, .int .i64 0, .int .i64 0, .slice none 0 0, .int .i64 0, .int .i64 0, .slice none 0 0]) 9 104 Try.underlying51 HJ.out.1 HJ.out.2.1 HJ.out.2.2.1 HJ.out.2.2.2 rfl (by omega) _ 0 [] rfl (World.ownsRow_lit w6 #[] 0 (Nat.le_refl _) (Nat.zero_le _) rfl) ⟨q, 0, none⟩ k c (wsC g (ws.take k)) rfl HTL.out HNW.out HON.out hkp (by unfold maxLen; omega) (by omega) (by simp) _ rfl ?_; intro q5 c5' w7 hown hgr hat hlt3; have hb67 := Lib.hid (((Below.refl _ w6).alloc (Nat.le_refl _) (.cells #[] 53)).grown hgr (by simp) (fun k e => Nat.le_of_eq (show w6.heap.size = k from Option.some.inj e))); have E7 := Lib.hid ((hb67.out.block b (heap_lt E6.out)).trans E6.out); have d8 := (rf_cells E7.out).2.2.2.2.2.2.2.2; have z8 := frozen_of_row w7 b 8 _ _ E7.out)
    go_ret
    have hO7 : w7.ownsRow w6.heap.size 53 9 (.slice (some ⟨q5, 0, none⟩) k c5') k (wsC g (ws.take k)) := by have := hown; rwa [Nat.zero_add, List.nil_append] at this
    exact back_final HMM.out.2.2.1 HMM.out.2.2.2.2 (by rw [← HMM.out.1]; exact hk2) HFV.out HMM.out.2.1 H.out R2.out HP3.out.1 HP3.out.2.1 K26.out K6.out hb23.out K2.out hb67.out E7.out hO7 rfl
end Go.Proofs.Ytgoblbmekhcekaa
