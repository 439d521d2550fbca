/- Layer 22 (index): the document's Add, Get, set, Move and Want. -/
import Derived.Test.YtnindkpgmiafnaaIe
import Derived.Test.YtnindkpgmiafnaaSeg
namespace Go.Proofs.Ytnindkpgmiafnaa
open Go.RowKit Go.Maps Go.WideMaps
abbrev cE (R : List Ent) (i : Nat) : List Value := cellsIt (itE R[i]!)
theorem get_some {R : List Ent} {i : Nat} (h : i < R.length) : R[i]? = some R[i]! := by
  rw [getElem!_pos R i h]; exact List.getElem?_eq_getElem h
theorem get_of {R : List Ent} {i : Nat} {e : Ent} (h : R[i]? = some e) : R[i]! = e := by
  obtain ⟨hl, he⟩ := List.getElem?_eq_some_iff.1 h
  rw [getElem!_pos R i hl]; exact he
theorem flat_insE (x : Ent) (R : List Ent) : (flatS (cE R) (posR x.k R) ++ cellsIt (itE x)) ++ flatS (fun i => cE R (posR x.k R + i)) (R.length - posR x.k R) = flatS (cE (insR x R)) (insR x R).length := by
  have hm := pos_le x.k R
  obtain ⟨m, hm'⟩ : ∃ m, m = posR x.k R := ⟨_, rfl⟩
  have hins := ins_pos x R
  rw [← hm'] at hm hins ⊢
  have e1 : flatS (cE R) m ++ cellsIt (itE x) = flatS (fun i => if i < m then cE R i else cellsIt (itE x)) (m + 1) := by
    rw [flatS, if_neg (by omega), flatS_congr (F := fun i => if i < m then cE R i else cellsIt (itE x)) (G := cE R) fun j hj => if_pos hj]
  rw [e1, flatS_append, ins_len]
  rw [show m + 1 + (R.length - m) = R.length + 1 by omega]
  refine flatS_congr fun j hj => ?_
  have hg : (insR x R)[j]? = if j < m then R[j]? else if j = m then some x else R[j - 1]? := by
    rw [hins]
    by_cases h1 : j < m
    · rw [if_pos h1, List.getElem?_append_left (by simp; omega), List.getElem?_take, if_pos h1]
    · rw [if_neg h1, List.getElem?_append_right (by simp; omega), List.length_take, Nat.min_eq_left hm]
      by_cases h2 : j = m
      · rw [if_pos h2, h2, Nat.sub_self]; rfl
      · rw [if_neg h2]
        obtain ⟨d, hd⟩ : ∃ d, j - m = d + 1 := ⟨j - m - 1, by omega⟩
        rw [hd, List.getElem?_cons_succ, List.getElem?_drop]
        congr 1; omega
  show _ = cellsIt (itE (insR x R)[j]!)
  by_cases h1 : j < m
  · rw [if_pos h1] at hg
    rw [if_pos (by omega), if_pos h1, get_of (hg.trans (get_some (by omega)))]
  · rw [if_neg h1] at hg
    by_cases h2 : j = m
    · rw [if_pos h2] at hg
      rw [if_pos (by omega), if_neg h1, get_of hg]
    · rw [if_neg h2] at hg
      rw [if_neg (by omega), get_of (hg.trans (get_some (by omega)))]
      show cellsIt (itE R[m + (j - (m + 1))]!) = _
      rw [show m + (j - (m + 1)) = j - 1 by omega]
theorem flat_delE {k : List Int} {R : List Ent} (hr : Rise R) (h : posR k R < R.length) (hk : (R[posR k R]!).k = k) : flatS (cE R) (posR k R) ++ flatS (fun i => cE R (posR k R + 1 + i)) (R.length - (posR k R + 1)) = flatS (cE (delR k R)) (delR k R).length := by
  have hdel := del_pos hr h hk
  obtain ⟨m, hm'⟩ : ∃ m, m = posR k R := ⟨_, rfl⟩
  rw [← hm'] at h hdel ⊢
  have hlen : (delR k R).length = R.length - 1 := by rw [hdel]; simp; omega
  rw [flatS_append, hlen, show m + (R.length - (m + 1)) = R.length - 1 by omega]
  refine flatS_congr fun j hj => ?_
  have hg : (delR k R)[j]? = if j < m then R[j]? else R[j + 1]? := by
    rw [hdel]
    by_cases h1 : j < m
    · rw [if_pos h1, List.getElem?_append_left (by simp; omega), List.getElem?_take, if_pos h1]
    · rw [if_neg h1, List.getElem?_append_right (by simp; omega), List.length_take, Nat.min_eq_left (by omega), List.getElem?_drop]
      congr 1; omega
  show _ = cellsIt (itE (delR k R)[j]!)
  by_cases h1 : j < m
  · rw [if_pos h1] at hg
    rw [if_pos h1, get_of (hg.trans (get_some (by omega)))]
  · rw [if_neg h1] at hg
    rw [if_neg h1, get_of (hg.trans (get_some (by omega)))]
    show cellsIt (itE R[m + 1 + (j - m)]!) = _
    rw [show m + 1 + (j - m) = j + 1 by omega]
theorem cells_setE {e f : Ent} (hk : f.k = e.k) : splice (cellsIt (itE e)) 33 (plc f.p) = cellsIt (itE f) := by
  have hl : (u8l e.k).length = 32 := by rw [u8l_len, e.key.len]
  obtain ⟨T, hT⟩ : ∃ T : List Value, T = [Value.int .i64 0, .int .i64 0] ++ (u8l (List.replicate 32 0) ++ [.int .i64 0, .int .i64 0]) := ⟨_, rfl⟩
  have e1 : ∀ x : Ent, cellsIt (itE x) = ([Value.int .u8 1] ++ u8l x.k) ++ (plc x.p ++ T) := fun x => by rw [hT, List.append_assoc]; rfl
  rw [e1, e1, hk]
  exact splice_mid _ _ _ _ (by simp [hl]) rfl
theorem flat_setE {R : List Ent} {m : Nat} {f : Ent} (h : m < R.length) (hk : f.k = (R[m]!).k) : splice (flatS (cE R) R.length) (m * 73 + 33) (plc f.p) = flatS (cE (R.set m f)) (R.set m f).length := by
  rw [List.length_set]
  refine splice_flat (s := 73) (fun j => lenIt _) (by simp [plc]) ?_ (fun j hj => ?_) h
  · have e : (R.set m f)[m]! = f := get_of (by rw [List.getElem?_set, if_pos rfl, if_pos h])
    show cellsIt (itE (R.set m f)[m]!) = _
    rw [e]; exact (cells_setE hk).symm
  · show cellsIt (itE (R.set m f)[j]!) = cellsIt (itE R[j]!)
    congr 2
    rw [List.getElem!_eq_getElem?_getD, List.getElem!_eq_getElem?_getD, List.getElem?_set, if_neg (fun e => hj e.symm)]
/-- What a call of the document's leaves. -/
def RxOut (base p : Nat) (R : List Ent) (w w' : World) : Prop := (∃ v', Rx w' base p v' R) ∧ Keeps (fun z => z = p) w w'
theorem own_empty {w : World} {base g size : Nat} {e : TypeId} (h : w.heap[g]? = some (.cells #[] e (0, 0))) (hb : base ≤ g) : w.ownsRow base e size (.slice (some ⟨g, 0, none⟩) 0 0) 0 [] :=
  ⟨by simp, .inr ⟨g, 0, #[], rfl, hb, h, Nat.le_refl _, by simp [maxLen], by simp, by simp⟩⟩
theorem infoItS : (Try.prog.info? 43).map (·.size) = some 73 := by kernel_rfl
theorem headI {A : Option Addr} {n c m : Nat} (hsp : ∀ ad, A = some ad → ad.spot = none) (hm : m ≤ n) (hnc : n ≤ c) (w : World) : (Instr.sliceAt 36 (.slice A n c) none (some (.int .i64 m)) none).run Try.prog w = .ok (.slice A m c) w := slice_head Try.underlying36 infoItS hsp n c m hm hnc w
theorem tailI (A : Option Addr) (n c m : Nat) (hm : m ≤ n) (w : World) : (Instr.sliceAt 36 (.slice A n c) (some (.int .i64 m)) none none).run Try.prog w = .ok (.slice (if c = m then A else A.map (·.add (m * 73))) (n - m) (c - m)) w := slice_tail Try.underlying36 infoItS A n c m hm w
theorem rx_store {w : World} {base base0 p : Nat} {v v8 : Value} {R R' : List Ent} (h : Rx w base p v R) (ho : w.ownsRow base0 43 73 v8 R'.length (flatS (cE R') R'.length)) (hb : base ≤ base0) (hr : Rise R') : Rx (w.setCell ⟨p, 0, none⟩ v8) base p v8 R' := by
  have hne : ∀ k, v8.ownBlock = some k → ¬ k = p := fun k hk e => by
    rcases ho.2 with ⟨rfl, _⟩ | ⟨g, cap, cur, rfl, _, hg, _⟩
    · simp [Value.ownBlock] at hk
    · have e1 : g = k := by simpa [Value.ownBlock] using hk
      rw [e1, e, h.cell] at hg
      injection hg with hg
      injection hg with _ hg
      exact absurd hg (by decide)
  refine ⟨?_, row_more ((Keeps.setCell (fun z => z = p) w ⟨p, 0, none⟩ v8 rfl).row ho hne) hb, hr⟩
  rw [heap_setCell_same w p 0 _ _ _ h.cell]; rfl

set_option maxRecDepth 100000 in
set_option maxHeartbeats 4000000 in
theorem radd14 (base p : Nat) (v : Value) (R : List Ent) (k : List Int) (q : Pl) (w : World) (hk : KeyOk 32 k) (h : Rx w base p v R) (hn : R.length < 100000000) (hbase : base ≤ w.heap.size) :
    Calls Try.prog 14 #[.pointer (some ⟨p, 0, none⟩), kv k, plv q] w fun e w' => e = .returned (.int .i64 (addE R k q)) ∧ RxOut base p (addR R k q) w w' := by
  have HK := Lib.hid hk
  have HR := Lib.hid h.rise
  obtain ⟨A, c, rfl⟩ := row_shapeS h.row
  have HX := Lib.hid h
  have HNS := Lib.hid (row_nilS h.row)
  have HNC := Lib.hid (row_le_capS h.row)
  have HSM : Hid (0 < c → ∃ g, A = some ⟨g, 0, none⟩) := Lib.hid (row_someS h.row)
  have HSP : Hid (∀ ad, A = some ad → ad.spot = none) := Lib.hid (sarr_spot h.sarr h.row)
  have HBS := Lib.hid hbase
  have HKL : Hid ((Try.prog.info? 26).map (·.size) = some (u8l k).length) := Lib.hid (by rw [u8l_len, hk.len]; exact infoKey)
  obtain ⟨i0, hi, hz0, hz1, hz2⟩ := infoParts infoIt
  have HI := Lib.hid (And.intro hi (And.intro hz0 (And.intro hz1 hz2)))
  clear hi hz0 hz1 hz2
  have HRN := Lib.hid hn
  change Calls Try.prog 14 #[.pointer (some ⟨p, 0, none⟩), .agg (u8l k).toArray, plv q] w _
  obtain ⟨kc, hkc⟩ : ∃ kc, kc = (u8l k).toArray := ⟨_, rfl⟩
  rw [← hkc]
  have HKC := Lib.hid hkc
  clear hkc hk h hbase
  go_enter Try.func14, Try.ntmps14
  go_wp2_with fail
  obtain ⟨b4, hb4⟩ : ∃ b, b = w.heap.size := ⟨_, rfl⟩
  obtain ⟨w1, hw1⟩ : ∃ z, z = (w.alloc (.cells kc 26)).alloc (.cells #[.int .i64 q.a, .int .i64 q.n, .int .i64 q.u, .int .i64 q.r] 28) := ⟨_, rfl⟩
  have H4 : Hid (w1.heap[b4]? = some (.cells (u8l k).toArray 26 (0, 0))) := Lib.hid (by rw [hw1, hb4, HKC.out]; exact heap_old (heap_new w _))
  have H5 : Hid (w1.heap[b4 + 1]? = some (.cells (plc q).toArray 28 (0, 0))) := Lib.hid (by rw [hw1]; exact heap_new_at _ (by simp [hb4]))
  have BP : Hid (Below w.heap.size w w1) := Lib.hid (by rw [hw1]; exact ((Below.refl _ _).alloc (Nat.le_refl _) _).alloc (by simp) _)
  have HX := Lib.hid (HX.out.below BP.out)
  rw [← hw1, ← hb4]
  clear hw1 hb4 HKC
  refine (may26 q w1).mono ?_
  rintro e w2 ⟨rfl, hb2⟩
  have BP := Lib.hid (BP.out.trans (hb2.mono BP.out.size))
  have HX := Lib.hid (HX.out.below hb2)
  have H4 := Lib.hid ((hb2.block _ (heap_lt H4.out)).trans H4.out)
  have H5 := Lib.hid ((hb2.block _ (heap_lt H5.out)).trans H5.out)
  clear hb2
  by_cases hm : mayB q = true
  rotate_left
  · have hm' : mayB q = false := by simpa using hm
    have HE : Hid (addE R k q = 2 ∧ addR R k q = R) := Lib.hid ⟨by unfold addE; rw [if_pos hm'], by unfold addR; rw [if_neg (fun h => hm h.1)]⟩
    rw [hm']
    clear hm hm'
    go_wp2_with fail
    go_ret
    exact ⟨by rw [HE.out.1]; rfl, by rw [HE.out.2]; exact ⟨⟨_, HX.out⟩, Keeps.fresh BP.out⟩⟩
  have HM0 := Lib.hid hm
  rw [hm]
  clear hm
  have HK4 := Lib.hid (key_range H4.out)
  go_wp2_with (refine wpList_load_midG rfl 26 (.tmp 4) rfl b4 0 rfl (u8l k) _ HK4.out Try.underlying26 rfl HKL.out ?_)
  refine (place27 base p _ R k w2 HK.out HX.out (by omega)).mono ?_
  rintro e w3 ⟨rfl, hbx⟩
  have HX := Lib.hid (HX.out.below hbx)
  have H4 := Lib.hid ((hbx.block _ (heap_lt H4.out)).trans H4.out)
  have BP : Hid (Below w.heap.size w w3) := Lib.hid (BP.out.trans (hbx.mono BP.out.size))
  have H5 := Lib.hid ((hbx.block _ (heap_lt H5.out)).trans H5.out)
  clear hbx
  cases hL : lookR k R with
  | some q0 =>
    have HE : Hid (addE R k q = 7 ∧ addR R k q = R) := Lib.hid ⟨by unfold addE; rw [if_neg (by rw [HM0.out]; simp), if_pos (by rw [hL]; rfl)], by unfold addR; rw [if_neg (fun h => by rw [hL] at h; cases h.2)]⟩
    rw [show (some q0).isSome = true from rfl]
    clear hL
    go_wp2_with fail
    go_ret
    exact ⟨by rw [HE.out.1]; rfl, by rw [HE.out.2]; exact ⟨⟨_, HX.out⟩, Keeps.fresh BP.out⟩⟩
  | none =>
    have HNO := Lib.hid hL
    have HE : Hid (addE R k q = 0 ∧ addR R k q = insR (mkE k q) R) := Lib.hid ⟨by unfold addE; rw [if_neg (by rw [HM0.out]; simp), if_neg (by rw [hL]; simp)], by unfold addR; rw [if_pos ⟨HM0.out, hL⟩]⟩
    obtain ⟨m, hm⟩ : ∃ m, m = posR k R := ⟨_, rfl⟩
    have HM := Lib.hid hm
    have hmn : m ≤ R.length := by rw [hm]; exact pos_le k R
    rw [← hm, show (none : Option Pl).isSome = false from rfl]
    clear hm hL
    go_upto_region 6 with fail
    obtain ⟨g0, hg0⟩ : ∃ g, g = w3.heap.size := ⟨_, rfl⟩
    obtain ⟨w4, hw4⟩ : ∃ z, z = w3.alloc (.cells #[] 43) := ⟨_, rfl⟩
    have K0 : Hid (w4.heap[g0]? = some (.cells #[] 43 (0, 0))) := Lib.hid (by rw [hw4]; exact heap_new_at _ hg0)
    have HX4 : Hid (Rx w4 base p (.slice A R.length c) R) := Lib.hid (by rw [hw4]; exact HX.out.below ((Below.refl _ _).alloc (Nat.le_refl _) _))
    have B34 : Hid (Below w3.heap.size w3 w4) := Lib.hid (by rw [hw4]; exact (Below.refl _ _).alloc (Nat.le_refl _) _)
    have HG0 := Lib.hid hg0
    have OW0 := Lib.hid (own_empty (base := w3.heap.size) (size := 73) K0.out (Nat.le_of_eq hg0.symm))
    have SA : Hid (SArr w4 w4.heap.size A m 73 (cE R)) := Lib.hid (HX4.out.sarr.less hmn)
    have HNM : Hid (A = none → m = 0 ∧ c = 0) := Lib.hid fun e => by have := HNS.out e; omega
    have c0 := HX.out.at0
    have c4 := HX4.out.at0
    have hpl := heap_lt HX.out.cell
    have HB4 : Hid (w3.heap.size ≤ w4.heap.size) := Lib.hid B34.out.size
    go_upto_region 7 with (first | (refine wpList_sliceG rfl 36 (.tmp 24) none (some (.tmp 25)) rfl (.slice A R.length c) rfl none (some (.int .i64 m)) rfl rfl (.slice A m c) (headI HSP.out hmn HNC.out _) ?_) | (at_builtin; (try rw [← hw4, ← hg0]); refine wpList_append_any rfl (.tmp 20) (.tmp 26) 36 rfl w3.heap.size 43 i0 (.agg zIt.toArray) 73 136 Try.underlying36 HI.out.1 HI.out.2.1 HI.out.2.2.1 HI.out.2.2.2 rfl (by decide) (.slice (some ⟨g0, 0, none⟩) 0 0) 0 [] rfl OW0.out A m c (flatS (cE R) m) rfl HNM.out (flatS_len (wideE _) m) (fun ad e => SA.out.cellsAt (wideE _) ad e) (onesE _ m) (by unfold maxLen; omega) (by omega) HB4.out ?_; intro v5 w5 ho5 hg5))
    rw [Nat.zero_add, List.nil_append] at ho5
    have O5 := Lib.hid ho5
    have B45 : Hid (Below w3.heap.size w3 w5) := Lib.hid (B34.out.grown hg5 B34.out.size (fun k e => by have e2 : g0 = k := (by simpa [Value.ownBlock] using e); rw [← e2]; exact Nat.le_of_eq HG0.out.symm))
    have HX5 := Lib.hid (HX.out.below B45.out)
    have BP5 : Hid (Below w.heap.size w w5) := Lib.hid (BP.out.trans (B45.out.mono BP.out.size))
    clear ho5 hg5 hw4 hg0 c0 c4 hpl B34 K0 OW0 SA HX4 HB4
    have H4 := Lib.hid ((B45.out.block _ (heap_lt H4.out)).trans H4.out)
    have H5 := Lib.hid ((B45.out.block _ (heap_lt H5.out)).trans H5.out)
    have HK5 := Lib.hid (key_range H4.out)
    have HP5 := Lib.hid (range_of H5.out)
    have HKK := Lib.hid (mkE_k HK.out HM0.out)
    have HKP := Lib.hid (mkE_p HK.out HM0.out)
    obtain ⟨en, hen⟩ : ∃ en, en = mkE k q := ⟨_, rfl⟩
    rw [← hen] at HE HKK HKP
    clear hen
    have HCB : Hid (∀ u, BuildRun Try.prog 43 #[(0, .int .u8 1), (1, .agg (u8l k).toArray), (2, .agg (plc q).toArray)] u (.agg (cellsIt (itE en)).toArray)) := Lib.hid fun u => by have := buildItE en u; rw [HKK.out, HKP.out] at this; exact this
    have HCL : Hid ((cellsIt (itE en)).length = 73) := Lib.hid (itE_len en)
    have HC1 := Lib.hid (itE_one en)
    obtain ⟨cs', hcs'⟩ : ∃ cs', cs' = cellsIt (itE en) := ⟨_, rfl⟩
    rw [← hcs'] at HCB HCL HC1
    have HCS := Lib.hid hcs'
    clear hcs'
    have HB3 : Hid (w3.heap.size ≤ w5.heap.size) := Lib.hid B45.out.size
    obtain ⟨w6, hw6⟩ : ∃ z, z = w5.alloc (.cells cs'.toArray 43) := ⟨_, rfl⟩
    have B56 : Hid (Below w5.heap.size w5 w6) := Lib.hid (by rw [hw6]; exact (Below.refl _ _).alloc (Nat.le_refl _) _)
    have O6 : Hid (w6.ownsRow w3.heap.size 43 73 v5 m (flatS (cE R) m)) := Lib.hid ((Keeps.fresh (S := fun _ => False) B56.out).row O5.out (fun _ _ h => h))
    have L6 : Hid (∀ ad, some (⟨w5.heap.size, 0, none⟩ : Addr) = some ad → ∀ j u, cs'[j]? = some u → w6.cell? (ad.add j) = some u) := Lib.hid fun ad e j u hj => by injection e with e; subst e; rw [hw6, Go.WideShapes.add_plain, Nat.zero_add]; exact block_cell (heap_new w5 _) j u (by simpa using hj)
    have HB6 : Hid (w3.heap.size ≤ w6.heap.size) := Lib.hid (Nat.le_trans HB3.out B56.out.size)
    have hrn := HRN.out
    have HC73 : Hid (cs'.length = 1 * 73) := Lib.hid HCL.out
    go_upto_region 8 with (first | (refine wpList_load_midG rfl 26 (.tmp 4) rfl b4 0 rfl (u8l k) _ HK5.out Try.underlying26 rfl HKL.out ?_) | (refine wpList_load_midG rfl 28 (.tmp 5) rfl (b4 + 1) 0 rfl (plc q) _ HP5.out Try.underlying28 rfl sizePl ?_) | (refine wpList_buildG rfl 43 [(0, .const (.int .u8 1)), (1, .tmp 29), (2, .tmp 30)] rfl [(0, .int .u8 1), (1, .agg (u8l k).toArray), (2, .agg (plc q).toArray)] rfl _ (HCB.out _) ?_) | (refine wpList_slice1 rfl 36 43 (.tmp 31) rfl cs' rfl i0 (.agg zIt.toArray) Try.underlying36 HI.out.1 HI.out.2.1 (by rw [HCL.out]; exact HI.out.2.2.1) (by rw [HCL.out]; omega) (by rw [HCL.out]; omega) ?_) | (at_builtin; rw [← hw6]; refine wpList_append_any rfl (.tmp 28) (.tmp 32) 36 rfl w3.heap.size 43 i0 (.agg zIt.toArray) 73 136 Try.underlying36 HI.out.1 HI.out.2.1 HI.out.2.2.1 HI.out.2.2.2 rfl (by decide) v5 m (flatS (cE R) m) rfl O6.out (some ⟨w5.heap.size, 0, none⟩) 1 1 cs' rfl (fun h => by cases h) HC73.out L6.out HC1.out (by unfold maxLen; omega) (by omega) HB6.out ?_; intro v7 w7 ho7 hg7))
    rw [HCS.out] at ho7
    have O7 := Lib.hid ho7
    have B37 : Hid (Below w3.heap.size w3 w7) := Lib.hid ((B45.out.trans (B56.out.mono B45.out.size)).grown hg7 HB6.out (fun k hk => (row_lt O6.out hk).1))
    have HX7 := Lib.hid (HX.out.below B37.out)
    have BP7 : Hid (Below w.heap.size w w7) := Lib.hid (BP.out.trans (B37.out.mono BP.out.size))
    have HB7 : Hid (w3.heap.size ≤ w7.heap.size) := Lib.hid B37.out.size
    clear ho7 hg7 hw6 O6 L6 HB6 B56
    have hrest := sarr_rest HX7.out.sarr HNS.out HNC.out hmn
    obtain ⟨A8, hA8⟩ : ∃ A8, A8 = if c = m then A else A.map (·.add (m * 73)) := ⟨_, rfl⟩
    rw [← hA8] at hrest
    have HS8 := Lib.hid hrest.1
    have HN8 := Lib.hid hrest.2
    have HTL : Hid (∀ W, (Instr.sliceAt 36 (.slice A R.length c) (some (.int .i64 m)) none none).run Try.prog W = .ok (.slice A8 (R.length - m) (c - m)) W) := Lib.hid fun W => by rw [hA8]; exact tailI A R.length c m hmn W
    clear hrest hA8
    have c7 := HX7.out.at0
    go_wp2_with (first | (refine wpList_sliceG rfl 36 (.tmp 39) (some (.tmp 40)) none rfl (.slice A R.length c) rfl (some (.int .i64 m)) none rfl rfl (.slice A8 (R.length - m) (c - m)) (HTL.out _) ?_) | (at_builtin; refine wpList_append_any rfl (.tmp 35) (.tmp 41) 36 rfl w3.heap.size 43 i0 (.agg zIt.toArray) 73 136 Try.underlying36 HI.out.1 HI.out.2.1 HI.out.2.2.1 HI.out.2.2.2 rfl (by decide) v7 (m + 1) _ rfl O7.out A8 (R.length - m) (c - m) (flatS (fun i => cE R (m + i)) (R.length - m)) rfl HN8.out (flatS_len (wideE fun i => R[m + i]!) _) (fun ad e => HS8.out.cellsAt (wideE fun i => R[m + i]!) ad e) (onesE (fun i => R[m + i]!) _) (by unfold maxLen; omega) (by omega) HB7.out ?_; intro v8 w8 ho8 hg8; obtain ⟨A9, c9, rfl⟩ := row_shapeS ho8; have B38 : Hid (Below w3.heap.size w3 w8) := Lib.hid (B37.out.grown hg8 HB7.out (fun k hk => (row_lt O7.out hk).1)); have HX8 := Lib.hid (HX.out.below B38.out); have c8 := HX8.out.at0; have f8 := frozen_of_row w8 p 0 _ _ HX8.out.cell))
    go_ret
    have hins := flat_insE en R
    rw [HKK.out, ← HM.out] at hins
    have hlen : m + 1 + (R.length - m) = (insR en R).length := by rw [ins_len]; omega
    rw [hins, hlen] at ho8
    refine ⟨by rw [HE.out.1]; rfl, ?_⟩
    rw [HE.out.2, hlen]
    exact ⟨⟨_, rx_store HX8.out ho8 (Nat.le_trans HBS.out BP.out.size) (rise_ins HR.out (by rw [HKK.out]; exact HNO.out))⟩, Keeps.from (BP.out.trans (B38.out.mono BP.out.size)) (Keeps.setCell _ _ ⟨p, 0, none⟩ _ rfl)⟩
end Go.Proofs.Ytnindkpgmiafnaa
